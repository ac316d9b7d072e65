/- Proved: a part of what the statement on the names of parse needs: walks of functions of the program, and plain laws. (Texts He, Hf, Hg.) -/
import Derived.Test.YtinmbcomnjmmjaaGreatDoorQ37
import Derived.Test.YtinmbcomnjmmjaaGreatDoorQ44
namespace Go.Proofs.YtinmbcomnjmmjaaGreatDoor
open Go.RowKit Go.Proofs.YtinmbcomnjmmjaaGreatDoorW.PrintWords Go.Proofs.YtinmbcomnjmmjaaGreatDoorW.PrintLast Go.Proofs.YtinmbcomnjmmjaaGreatDoorW.PrintMore
open X
attribute [local go_sem] st_float st_complex
set_option maxHeartbeats 4000000 in
set_option maxRecDepth 100000 in
/-- parse.leaf, of a number. -/
theorem leaf_num {w : World} {s : ByteArray} {b : Nat × Nat} {A : Option Addr} {c : Nat} (hT : Tab32 w) (h : numB s = some b) (hp : numP s.data.toList = some s.size) (hs0 : 0 < s.size) (hs1 : s.size ≤ 1100) :
    Calls Tryz.prog 71 #[.agg #[.int .i64 1, .int .i64 0, .string noText, .string s, .complex .f64 b.1 0, .float .f64 b.2, .slice A 0 c]] w fun e w' => e = .returned (.tuple #[.agg #[.int .i64 1, .int .i64 0, .string noText, .string s, .complex .f64 b.1 0, .float .f64 b.2, .slice none 0 0], .bool true]) ∧ Below w.heap.size w w' := by
  have hb1 := alloc_below w (.cells #[.int .i64 (numL s b).k, .int .i64 (numL s b).f, .string (numL s b).nm, .string (numL s b).tx, .complex .f64 (numL s b).re (numL s b).im, .float .f64 (numL s b).rad, .slice A 0 c] 28)
  have hb2 := below_step hb1 (alloc_below _ (.cells #[.int .i64 zL.k, .int .i64 zL.f, .string zL.nm, .string zL.tx, .complex .f64 zL.re zL.im, .float .f64 zL.rad, .slice none 0 0] 28))
  have HN0 := Aside0.mk ((LfBlk.new w (numL s b) (.slice A 0 c)).below (alloc_below _ (.cells #[.int .i64 zL.k, .int .i64 zL.f, .string zL.nm, .string zL.tx, .complex .f64 zL.re zL.im, .float .f64 zL.rad, .slice none 0 0] 28)))
  have hl := LfBlk.new (w.alloc (.cells #[.int .i64 (numL s b).k, .int .i64 (numL s b).f, .string (numL s b).nm, .string (numL s b).tx, .complex .f64 (numL s b).re (numL s b).im, .float .f64 (numL s b).rad, .slice A 0 c] 28)) zL (.slice none 0 0)
  have hsz := alloc_size (w.alloc (.cells #[.int .i64 (numL s b).k, .int .i64 (numL s b).f, .string (numL s b).nm, .string (numL s b).tx, .complex .f64 (numL s b).re (numL s b).im, .float .f64 (numL s b).rad, .slice A 0 c] 28)) (.cells #[.int .i64 zL.k, .int .i64 zL.f, .string zL.nm, .string zL.tx, .complex .f64 zL.re zL.im, .float .f64 zL.rad, .slice none 0 0] 28)
  rw [alloc_size w (.cells #[.int .i64 (numL s b).k, .int .i64 (numL s b).f, .string (numL s b).nm, .string (numL s b).tx, .complex .f64 (numL s b).re (numL s b).im, .float .f64 (numL s b).rad, .slice A 0 c] 28)] at hl hsz
  have HL0 := Aside0.mk hl
  have HB0 := Aside0.mk hb2
  clear hb1 hl
  unfold zL numL noText at *
  generalize hwa : (w.alloc _).alloc (.cells _ 28) = w0 at *
  have HNB := Aside0.mk h
  have HT0 := Aside0.mk (hT.below HB0.out)
  have HLX := Aside0.mk (fun w' => lexnumber_calls (w := w') hs1 hp hs0)
  obtain ⟨n0, n1, n2, n3, n4, n5, n6⟩ := HN0.out.cells
  clear hT h hp
  go_enter Tryz.func71, Tryz.ntmps71
  go_upto_region 5 with (go_at_call 94; (with_reducible refine (HLX.out _).mono ?_); rintro e w1 ⟨rfl, hb1⟩; have hs1' := hb1.size; have HL1 := Aside0.mk (HL0.out.below hb1); have HN1 := Aside0.mk (HN0.out.below hb1); have HB1 := Aside0.mk (below_step HB0.out hb1); have HT1 := Aside0.mk (HT0.out.below hb1); obtain ⟨n0, n1, n2, n3, n4, n5, n6⟩ := HN1.out.cells; clear hb1)
  have HRd := Aside0.mk (HT1.out.below (drew_below w1)); have HLd := Aside0.mk (HL1.out.below (drew_below w1)); have HNd := Aside0.mk (HN1.out.below (drew_below w1)); have HBd := Aside0.mk (below_step HB1.out (drew_below w1))
  have hsd : w1.drew.heap.size = w1.heap.size := rfl
  have hS0 : w1.drew.cell? ⟨w.heap.size, 0, none⟩ = some (.int .i64 1) ∧ w1.drew.cell? ⟨w.heap.size, 3, none⟩ = some (.string s) := ⟨n0, n3⟩
  go_region_held3 (fun w' => w'.cell? ⟨w.heap.size, 0, none⟩ = some (.int .i64 1) ∧ w'.cell? ⟨w.heap.size, 3, none⟩ = some (.string s))
    (first | (with_reducible exact hS0) | (with_reducible exact hSn) | (with_reducible exact hSm))
    (first
      | (go_at_call 95; (with_reducible refine (numB_calls HRd.out HNB.out).mono ?_); rintro e w4 ⟨rfl, hb4⟩; have HL4 := Aside0.mk (HLd.out.below hb4); have HB4 := Aside0.mk (below_step HBd.out hb4); obtain ⟨l0, l1, l2, l3, l4, l5, l6⟩ := HL4.out.cells; obtain ⟨f0, f1, f2, f3, f4, f5, f6⟩ := HL4.out.frozen; have hSn : w4.cell? ⟨w.heap.size, 0, none⟩ = some (.int .i64 1) ∧ w4.cell? ⟨w.heap.size, 3, none⟩ = some (.string s) := ⟨pw_cell_below hb4 hS0.1, pw_cell_below hb4 hS0.2⟩; have hSm : (((((((w4.setCell ⟨w.heap.size + 1, 0, none⟩ (.int .i64 1)).setCell ⟨w.heap.size + 1, 1, none⟩ (.int .i64 0)).setCell ⟨w.heap.size + 1, 2, none⟩ (.string ⟨#[]⟩)).setCell ⟨w.heap.size + 1, 3, none⟩ (.string s)).setCell ⟨w.heap.size + 1, 4, none⟩ (.complex .f64 b.1 0)).setCell ⟨w.heap.size + 1, 5, none⟩ (.float .f64 b.2)).setCell ⟨w.heap.size + 1, 6, none⟩ (.slice none 0 0)).cell? ⟨w.heap.size, 0, none⟩ = some (.int .i64 1) ∧ (((((((w4.setCell ⟨w.heap.size + 1, 0, none⟩ (.int .i64 1)).setCell ⟨w.heap.size + 1, 1, none⟩ (.int .i64 0)).setCell ⟨w.heap.size + 1, 2, none⟩ (.string ⟨#[]⟩)).setCell ⟨w.heap.size + 1, 3, none⟩ (.string s)).setCell ⟨w.heap.size + 1, 4, none⟩ (.complex .f64 b.1 0)).setCell ⟨w.heap.size + 1, 5, none⟩ (.float .f64 b.2)).setCell ⟨w.heap.size + 1, 6, none⟩ (.slice none 0 0)).cell? ⟨w.heap.size, 3, none⟩ = some (.string s) := ⟨cell_turn2 hSn.1 (st7_turns w4 (w.heap.size + 1) ⟨1, 0, ⟨#[]⟩, s, b.1, 0, b.2⟩ (.slice none 0 0)) (by show w.heap.size ≠ _; omega), cell_turn2 hSn.2 (st7_turns w4 (w.heap.size + 1) ⟨1, 0, ⟨#[]⟩, s, b.1, 0, b.2⟩ (.slice none 0 0)) (by show w.heap.size ≠ _; omega)⟩; clear hb4))
  all_goals
    try go_wp2
    refine bodyPost_ret (results_ct rfl _ _ (w.heap.size + 1) 28 _ (0, 0) _ rfl (HL4.out.st ⟨1, 0, ⟨#[]⟩, s, b.1, 0, b.2⟩ (.slice none 0 0)) Tryz.underlying28 rfl (by kernel_rfl)) rfl ?_
    exact ⟨rfl, Turns.below HB4.out HB4.out.size (by omega) (st7_turns w4 (w.heap.size + 1) ⟨1, 0, ⟨#[]⟩, s, b.1, 0, b.2⟩ (.slice none 0 0))⟩
theorem drew_lf {w : World} {g : Nat} {x : Lf} {v : Value} (h : LfBlk w g x v) : LfBlk w.drew g x v := h
set_option maxHeartbeats 4000000 in
set_option maxRecDepth 100000 in
/-- parse.leaf, of a name. -/
theorem leaf_name {w : World} {s : ByteArray} {A : Option Addr} {c kn : Nat} (hn : X.lex_Name.f kn s = some true) (hf : X.parse_Find.f 40 s = some (0, 0, false)) :
    Calls Tryz.prog 71 #[.agg #[.int .i64 3, .int .i64 0, .string s, .string noText, .complex .f64 0 0, .float .f64 0, .slice A 0 c]] w fun e w' => e = .returned (.tuple #[.agg #[.int .i64 3, .int .i64 0, .string s, .string noText, .complex .f64 0 0, .float .f64 0, .slice none 0 0], .bool true]) ∧ Below w.heap.size w w' := by
  have hb1 := alloc_below w (.cells #[.int .i64 (nameL s).k, .int .i64 (nameL s).f, .string (nameL s).nm, .string (nameL s).tx, .complex .f64 (nameL s).re (nameL s).im, .float .f64 (nameL s).rad, .slice A 0 c] 28)
  have hb2 := below_step hb1 (alloc_below _ (.cells #[.int .i64 zL.k, .int .i64 zL.f, .string zL.nm, .string zL.tx, .complex .f64 zL.re zL.im, .float .f64 zL.rad, .slice none 0 0] 28))
  have HN0 := Aside0.mk ((LfBlk.new w (nameL s) (.slice A 0 c)).below (alloc_below _ (.cells #[.int .i64 zL.k, .int .i64 zL.f, .string zL.nm, .string zL.tx, .complex .f64 zL.re zL.im, .float .f64 zL.rad, .slice none 0 0] 28)))
  have hl := LfBlk.new (w.alloc (.cells #[.int .i64 (nameL s).k, .int .i64 (nameL s).f, .string (nameL s).nm, .string (nameL s).tx, .complex .f64 (nameL s).re (nameL s).im, .float .f64 (nameL s).rad, .slice A 0 c] 28)) zL (.slice none 0 0)
  have hsz := alloc_size (w.alloc (.cells #[.int .i64 (nameL s).k, .int .i64 (nameL s).f, .string (nameL s).nm, .string (nameL s).tx, .complex .f64 (nameL s).re (nameL s).im, .float .f64 (nameL s).rad, .slice A 0 c] 28)) (.cells #[.int .i64 zL.k, .int .i64 zL.f, .string zL.nm, .string zL.tx, .complex .f64 zL.re zL.im, .float .f64 zL.rad, .slice none 0 0] 28)
  rw [alloc_size w (.cells #[.int .i64 (nameL s).k, .int .i64 (nameL s).f, .string (nameL s).nm, .string (nameL s).tx, .complex .f64 (nameL s).re (nameL s).im, .float .f64 (nameL s).rad, .slice A 0 c] 28)] at hl hsz
  have HL0 := Aside0.mk hl
  have HB0 := Aside0.mk hb2
  clear hb1 hl
  unfold zL nameL noText at *
  generalize hwa : (w.alloc _).alloc (.cells _ 28) = w0 at *
  have HNM := Aside0.mk hn
  have HFD := Aside0.mk hf
  obtain ⟨n0, n1, n2, n3, n4, n5, n6⟩ := HN0.out.cells
  clear hn hf
  go_enter Tryz.func71, Tryz.ntmps71
  go_upto_region 14 with (go_at_call 14; (with_reducible refine (X.parse_Find.calls 40 s 0 0 false _ HFD.out).mono ?_); rintro e w1 ⟨rfl, hb1⟩; have hs1 := hb1.size; have HL1 := Aside0.mk (HL0.out.below hb1); have HN1 := Aside0.mk (HN0.out.below hb1); have HB1 := Aside0.mk (below_step HB0.out hb1); obtain ⟨n0, n1, n2, n3, n4, n5, n6⟩ := HN1.out.cells; obtain ⟨l0, l1, l2, l3, l4, l5, l6⟩ := HL1.out.cells; obtain ⟨f0, f1, f2, f3, f4, f5, f6⟩ := HL1.out.frozen; clear hb1)
  have hS0 : w1.drew.cell? ⟨w.heap.size, 0, none⟩ = some (.int .i64 3) ∧ w1.drew.cell? ⟨w.heap.size, 2, none⟩ = some (.string s) := ⟨n0, n2⟩
  have hqb0 : (((((((w1.setCell ⟨w.heap.size + 1, 0, none⟩ (.int .i64 3)).setCell ⟨w.heap.size + 1, 1, none⟩ (.int .i64 0)).setCell ⟨w.heap.size + 1, 2, none⟩ (.string s)).setCell ⟨w.heap.size + 1, 3, none⟩ (.string ⟨#[]⟩)).setCell ⟨w.heap.size + 1, 4, none⟩ (.complex .f64 0 0)).setCell ⟨w.heap.size + 1, 5, none⟩ (.float .f64 0)).setCell ⟨w.heap.size + 1, 6, none⟩ (.slice none 0 0)).cell? ⟨w.heap.size, 0, none⟩ = some (.int .i64 3) := cell_turn2 n0 (st7_turns w1 (w.heap.size + 1) ⟨3, 0, s, ⟨#[]⟩, 0, 0, 0⟩ (.slice none 0 0)) (by show w.heap.size ≠ _; omega)
  have hqb2 : (((((((w1.setCell ⟨w.heap.size + 1, 0, none⟩ (.int .i64 3)).setCell ⟨w.heap.size + 1, 1, none⟩ (.int .i64 0)).setCell ⟨w.heap.size + 1, 2, none⟩ (.string s)).setCell ⟨w.heap.size + 1, 3, none⟩ (.string ⟨#[]⟩)).setCell ⟨w.heap.size + 1, 4, none⟩ (.complex .f64 0 0)).setCell ⟨w.heap.size + 1, 5, none⟩ (.float .f64 0)).setCell ⟨w.heap.size + 1, 6, none⟩ (.slice none 0 0)).cell? ⟨w.heap.size, 2, none⟩ = some (.string s) := cell_turn2 n2 (st7_turns w1 (w.heap.size + 1) ⟨3, 0, s, ⟨#[]⟩, 0, 0, 0⟩ (.slice none 0 0)) (by show w.heap.size ≠ _; omega)
  have hSm : (((((((w1.setCell ⟨w.heap.size + 1, 0, none⟩ (.int .i64 3)).setCell ⟨w.heap.size + 1, 1, none⟩ (.int .i64 0)).setCell ⟨w.heap.size + 1, 2, none⟩ (.string s)).setCell ⟨w.heap.size + 1, 3, none⟩ (.string ⟨#[]⟩)).setCell ⟨w.heap.size + 1, 4, none⟩ (.complex .f64 0 0)).setCell ⟨w.heap.size + 1, 5, none⟩ (.float .f64 0)).setCell ⟨w.heap.size + 1, 6, none⟩ (.slice none 0 0)).drew.cell? ⟨w.heap.size, 0, none⟩ = some (.int .i64 3) ∧ (((((((w1.setCell ⟨w.heap.size + 1, 0, none⟩ (.int .i64 3)).setCell ⟨w.heap.size + 1, 1, none⟩ (.int .i64 0)).setCell ⟨w.heap.size + 1, 2, none⟩ (.string s)).setCell ⟨w.heap.size + 1, 3, none⟩ (.string ⟨#[]⟩)).setCell ⟨w.heap.size + 1, 4, none⟩ (.complex .f64 0 0)).setCell ⟨w.heap.size + 1, 5, none⟩ (.float .f64 0)).setCell ⟨w.heap.size + 1, 6, none⟩ (.slice none 0 0)).drew.cell? ⟨w.heap.size, 2, none⟩ = some (.string s) := ⟨drew_cell hqb0, drew_cell hqb2⟩
  have hlb : LfBlk (((((((w1.setCell ⟨w.heap.size + 1, 0, none⟩ (.int .i64 3)).setCell ⟨w.heap.size + 1, 1, none⟩ (.int .i64 0)).setCell ⟨w.heap.size + 1, 2, none⟩ (.string s)).setCell ⟨w.heap.size + 1, 3, none⟩ (.string ⟨#[]⟩)).setCell ⟨w.heap.size + 1, 4, none⟩ (.complex .f64 0 0)).setCell ⟨w.heap.size + 1, 5, none⟩ (.float .f64 0)).setCell ⟨w.heap.size + 1, 6, none⟩ (.slice none 0 0)) (w.heap.size + 1) ⟨3, 0, s, ⟨#[]⟩, 0, 0, 0⟩ (.slice none 0 0) := HL1.out.st ⟨3, 0, s, ⟨#[]⟩, 0, 0, 0⟩ (.slice none 0 0)
  have HLB := Aside0.mk (drew_lf hlb)
  have hbb : Below w.heap.size w (((((((w1.setCell ⟨w.heap.size + 1, 0, none⟩ (.int .i64 3)).setCell ⟨w.heap.size + 1, 1, none⟩ (.int .i64 0)).setCell ⟨w.heap.size + 1, 2, none⟩ (.string s)).setCell ⟨w.heap.size + 1, 3, none⟩ (.string ⟨#[]⟩)).setCell ⟨w.heap.size + 1, 4, none⟩ (.complex .f64 0 0)).setCell ⟨w.heap.size + 1, 5, none⟩ (.float .f64 0)).setCell ⟨w.heap.size + 1, 6, none⟩ (.slice none 0 0)) := Turns.below HB1.out HB1.out.size (by omega) (st7_turns w1 (w.heap.size + 1) ⟨3, 0, s, ⟨#[]⟩, 0, 0, 0⟩ (.slice none 0 0))
  have HBB := Aside0.mk (below_step hbb (drew_below _))
  have HBd := Aside0.mk (below_step HB1.out (drew_below w1))
  have HLd := Aside0.mk (drew_lf HL1.out)
  have hsd : w1.drew.heap.size = w1.heap.size := rfl
  clear hqb0 hqb2 hlb hbb
  go_region_held3 (fun w' => w'.cell? ⟨w.heap.size, 0, none⟩ = some (.int .i64 3) ∧ w'.cell? ⟨w.heap.size, 2, none⟩ = some (.string s))
    (first | (with_reducible exact hS0) | (with_reducible exact hSn) | (with_reducible exact hSm) | (with_reducible exact hSa))
    (first
      | (go_at_call 99; (with_reducible refine (X.lex_Name.calls kn s true w1.drew HNM.out).mono ?_); rintro e w4 ⟨rfl, hd4⟩; have hb4 := hd4.below; have HL4 := Aside0.mk (HLd.out.below hb4); have HB4 := Aside0.mk (below_step HBd.out hb4); obtain ⟨l0, l1, l2, l3, l4, l5, l6⟩ := HL4.out.cells; obtain ⟨f0, f1, f2, f3, f4, f5, f6⟩ := HL4.out.frozen; have hSn : w4.cell? ⟨w.heap.size, 0, none⟩ = some (.int .i64 3) ∧ w4.cell? ⟨w.heap.size, 2, none⟩ = some (.string s) := ⟨pw_cell_below hb4 hS0.1, pw_cell_below hb4 hS0.2⟩; have hSa : (((((((w4.setCell ⟨w.heap.size + 1, 0, none⟩ (.int .i64 3)).setCell ⟨w.heap.size + 1, 1, none⟩ (.int .i64 0)).setCell ⟨w.heap.size + 1, 2, none⟩ (.string s)).setCell ⟨w.heap.size + 1, 3, none⟩ (.string ⟨#[]⟩)).setCell ⟨w.heap.size + 1, 4, none⟩ (.complex .f64 0 0)).setCell ⟨w.heap.size + 1, 5, none⟩ (.float .f64 0)).setCell ⟨w.heap.size + 1, 6, none⟩ (.slice none 0 0)).cell? ⟨w.heap.size, 0, none⟩ = some (.int .i64 3) ∧ (((((((w4.setCell ⟨w.heap.size + 1, 0, none⟩ (.int .i64 3)).setCell ⟨w.heap.size + 1, 1, none⟩ (.int .i64 0)).setCell ⟨w.heap.size + 1, 2, none⟩ (.string s)).setCell ⟨w.heap.size + 1, 3, none⟩ (.string ⟨#[]⟩)).setCell ⟨w.heap.size + 1, 4, none⟩ (.complex .f64 0 0)).setCell ⟨w.heap.size + 1, 5, none⟩ (.float .f64 0)).setCell ⟨w.heap.size + 1, 6, none⟩ (.slice none 0 0)).cell? ⟨w.heap.size, 2, none⟩ = some (.string s) := ⟨cell_turn2 hSn.1 (st7_turns w4 (w.heap.size + 1) ⟨3, 0, s, ⟨#[]⟩, 0, 0, 0⟩ (.slice none 0 0)) (by show w.heap.size ≠ _; omega), cell_turn2 hSn.2 (st7_turns w4 (w.heap.size + 1) ⟨3, 0, s, ⟨#[]⟩, 0, 0, 0⟩ (.slice none 0 0)) (by show w.heap.size ≠ _; omega)⟩; have HFA := Aside0.mk (HL4.out.st ⟨3, 0, s, ⟨#[]⟩, 0, 0, 0⟩ (.slice none 0 0)); have HFB := Aside0.mk (Turns.below HB4.out HB4.out.size (by omega) (st7_turns w4 (w.heap.size + 1) ⟨3, 0, s, ⟨#[]⟩, 0, 0, 0⟩ (.slice none 0 0))); clear hd4 hb4)
      | (go_at_call 99; (with_reducible refine (X.lex_Name.calls kn s true _ HNM.out).mono ?_); rintro e w4 ⟨rfl, hd4⟩; have hb4 := hd4.below; have hSn : w4.cell? ⟨w.heap.size, 0, none⟩ = some (.int .i64 3) ∧ w4.cell? ⟨w.heap.size, 2, none⟩ = some (.string s) := ⟨pw_cell_below hb4 hSm.1, pw_cell_below hb4 hSm.2⟩; have HFA := Aside0.mk (HLB.out.below hb4); have HFB := Aside0.mk (below_step HBB.out hb4); clear hd4 hb4))
  all_goals
    try go_wp2
    refine bodyPost_ret (results_ct rfl _ _ (w.heap.size + 1) 28 _ (0, 0) _ rfl HFA.out Tryz.underlying28 rfl (by kernel_rfl)) rfl ?_
    exact ⟨rfl, HFB.out⟩
end Go.Proofs.YtinmbcomnjmmjaaGreatDoor
namespace Go.Proofs.YtinmbcomnjmmjaaGreatDoor
open Go.RowKit Go.Proofs.YtinmbcomnjmmjaaGreatDoorW.PrintWords Go.Proofs.YtinmbcomnjmmjaaGreatDoorW.PrintLast Go.Proofs.YtinmbcomnjmmjaaGreatDoorW.PrintMore
open X
attribute [local go_sem] st_float st_complex
set_option linter.unusedSimpArgs false
/-- A node that may be a tree's. -/
def GoodX (x : Lf) (a : Fo) : Prop :=
  (∃ s b, x = numL s b ∧ a = .nil ∧ numB s = some b ∧ numP s.data.toList = some s.size ∧ 0 < s.size ∧ s.size ≤ 1100) ∨
  (∃ s kn, x = nameL s ∧ a = .nil ∧ X.lex_Name.f kn s = some true ∧ X.parse_Find.f 40 s = some (0, 0, false)) ∨
  (∃ f nm, x = callL f ∧ X.parse_Name.f f = some (nm, (a.len : Int), true))
def Fo.Good : Fo → Prop
  | .nil => True
  | .cons x a n => GoodX x a ∧ a.Good ∧ n.Good
def RightP (x : Lf) (a : Fo) : Prop := ∀ (w : World) (lo : Nat) (v : Value), NodeV w lo v x a → GoodX x a → a.Good → a.count ≤ 1000000000 → Tab32 w →
    Calls Tryz.prog 40 #[v] w fun e w' => e = .returned (.bool true) ∧ Below w.heap.size w w'
theorem RightP.use {x : Lf} {a : Fo} (h : RightP x a) {w : World} {lo : Nat} {v : Value} (hv : NodeV w lo v x a) (hg : GoodX x a) (hga : a.Good) (hc : a.count ≤ 1000000000) (hT : Tab32 w) :
    Calls Tryz.prog 40 #[v] w fun e w' => e = .returned (.bool true) ∧ Below w.heap.size w w' := h w lo v hv hg hga hc hT
set_option maxHeartbeats 8000000 in
set_option maxRecDepth 100000 in
/-- parse.right. -/
theorem right_calls (x : Lf) (a : Fo) : RightP x a := by
  refine Fo.one_of (p := RightP) ?_ x a
  clear x a
  intro x a hall w lo v hv hg hga hcount hT
  obtain ⟨A, c, rfl, hc, hf⟩ := hv
  rcases hg with ⟨s, b, rfl, rfl, hnb, hnp, hs0, hs1⟩ | ⟨s, kn, rfl, rfl, hln, hfd⟩ | ⟨f, nm, rfl, hpn⟩
  · clear hall hga hcount hc hf
    have HNB := Aside0.mk (show numB s = some b ∧ numP s.data.toList = some s.size from ⟨hnb, hnp⟩)
    clear hnb hnp
    show Calls Tryz.prog 40 #[.agg #[.int .i64 1, .int .i64 0, .string noText, .string s, .complex .f64 b.1 0, .float .f64 b.2, .slice A 0 c]] w _
    have hb1 := alloc_below w (.cells #[.int .i64 1, .int .i64 0, .string noText, .string s, .complex .f64 b.1 0, .float .f64 b.2, .slice A 0 c] 28)
    have HL0 : Aside0 (LfBlk (w.alloc (.cells #[.int .i64 1, .int .i64 0, .string noText, .string s, .complex .f64 b.1 0, .float .f64 b.2, .slice A 0 c] 28)) w.heap.size (numL s b) (.slice A 0 c)) := ⟨alloc_at w _⟩
    have HB0 := Aside0.mk hb1
    have HT0 := Aside0.mk (hT.below hb1)
    have HEQ : Aside0 (∀ w', Calls Tryz.prog 72 #[.agg #[.int .i64 1, .int .i64 0, .string noText, .string s, .complex .f64 b.1 0, .float .f64 b.2, .slice A 0 c], .agg #[.int .i64 1, .int .i64 0, .string noText, .string s, .complex .f64 b.1 0, .float .f64 b.2, .slice none 0 0]] w' fun e w'' => e = .returned (.bool true) ∧ Below w'.heap.size w' w'') := ⟨fun w' => equal_leaf (numL s b) A none c 0 w'⟩
    obtain ⟨l0, l1, l2, l3, l4, l5, l6⟩ := HL0.out.cells
    simp only [numL, nameL] at l0 l1 l2 l3 l4 l5
    clear hb1 hT
    go_enter Tryz.func40, Tryz.ntmps40
    go_upto_region 3 with (go_at_call 71; (with_reducible refine (leaf_num HT0.out HNB.out.1 HNB.out.2 hs0 hs1).mono ?_); rintro e w1 ⟨rfl, hb1⟩; have HL1 := Aside0.mk (HL0.out.below hb1); have HB1 := Aside0.mk (below_step HB0.out hb1); clear hb1)
    have hn := alloc_at w1 (.cells #[.int .i64 1, .int .i64 0, .string noText, .string s, .complex .f64 b.1 0, .float .f64 b.2, .slice none 0 0] 28)
    have hb2 := alloc_below w1 (.cells #[.int .i64 1, .int .i64 0, .string noText, .string s, .complex .f64 b.1 0, .float .f64 b.2, .slice none 0 0] 28)
    have HN2 : Aside0 (LfBlk (w1.alloc (.cells #[.int .i64 1, .int .i64 0, .string noText, .string s, .complex .f64 b.1 0, .float .f64 b.2, .slice none 0 0] 28)) w1.heap.size (numL s b) (.slice none 0 0)) := ⟨hn⟩
    have HL2 := Aside0.mk (HL1.out.below hb2)
    have HB2 := Aside0.mk (below_step HB1.out hb2)
    clear hn hb2
    generalize w1.alloc (.cells #[.int .i64 1, .int .i64 0, .string noText, .string s, .complex .f64 b.1 0, .float .f64 b.2, .slice none 0 0] 28) = w2 at *
    obtain ⟨l0, l1, l2, l3, l4, l5, l6⟩ := HL2.out.cells
    obtain ⟨n0, n1, n2, n3, n4, n5, n6⟩ := HN2.out.cells
    simp only [numL, nameL] at l0 l1 l2 l3 l4 l5 n0 n1 n2 n3 n4 n5
    go_wp2_with (go_at_call 72; (with_reducible refine (HEQ.out _).mono ?_); rintro e w3 ⟨rfl, hb3⟩; have HB3 := Aside0.mk (below_step HB2.out hb3); clear hb3)
    go_ret
    exact ⟨rfl, HB3.out⟩
  · clear hall hga hcount hc hf
    have HNB := Aside0.mk (show X.lex_Name.f kn s = some true ∧ X.parse_Find.f 40 s = some (0, 0, false) from ⟨hln, hfd⟩)
    clear hln hfd
    show Calls Tryz.prog 40 #[.agg #[.int .i64 3, .int .i64 0, .string s, .string noText, .complex .f64 0 0, .float .f64 0, .slice A 0 c]] w _
    have hb1 := alloc_below w (.cells #[.int .i64 3, .int .i64 0, .string s, .string noText, .complex .f64 0 0, .float .f64 0, .slice A 0 c] 28)
    have HL0 : Aside0 (LfBlk (w.alloc (.cells #[.int .i64 3, .int .i64 0, .string s, .string noText, .complex .f64 0 0, .float .f64 0, .slice A 0 c] 28)) w.heap.size (nameL s) (.slice A 0 c)) := ⟨alloc_at w _⟩
    have HB0 := Aside0.mk hb1
    have HT0 := Aside0.mk (hT.below hb1)
    have HEQ : Aside0 (∀ w', Calls Tryz.prog 72 #[.agg #[.int .i64 3, .int .i64 0, .string s, .string noText, .complex .f64 0 0, .float .f64 0, .slice A 0 c], .agg #[.int .i64 3, .int .i64 0, .string s, .string noText, .complex .f64 0 0, .float .f64 0, .slice none 0 0]] w' fun e w'' => e = .returned (.bool true) ∧ Below w'.heap.size w' w'') := ⟨fun w' => equal_leaf (nameL s) A none c 0 w'⟩
    obtain ⟨l0, l1, l2, l3, l4, l5, l6⟩ := HL0.out.cells
    simp only [numL, nameL] at l0 l1 l2 l3 l4 l5
    clear hb1 hT
    go_enter Tryz.func40, Tryz.ntmps40
    go_upto_region 3 with (go_at_call 71; (with_reducible refine (leaf_name HNB.out.1 HNB.out.2).mono ?_); rintro e w1 ⟨rfl, hb1⟩; have HL1 := Aside0.mk (HL0.out.below hb1); have HB1 := Aside0.mk (below_step HB0.out hb1); clear hb1)
    have hn := alloc_at w1 (.cells #[.int .i64 3, .int .i64 0, .string s, .string noText, .complex .f64 0 0, .float .f64 0, .slice none 0 0] 28)
    have hb2 := alloc_below w1 (.cells #[.int .i64 3, .int .i64 0, .string s, .string noText, .complex .f64 0 0, .float .f64 0, .slice none 0 0] 28)
    have HN2 : Aside0 (LfBlk (w1.alloc (.cells #[.int .i64 3, .int .i64 0, .string s, .string noText, .complex .f64 0 0, .float .f64 0, .slice none 0 0] 28)) w1.heap.size (nameL s) (.slice none 0 0)) := ⟨hn⟩
    have HL2 := Aside0.mk (HL1.out.below hb2)
    have HB2 := Aside0.mk (below_step HB1.out hb2)
    clear hn hb2
    generalize w1.alloc (.cells #[.int .i64 3, .int .i64 0, .string s, .string noText, .complex .f64 0 0, .float .f64 0, .slice none 0 0] 28) = w2 at *
    obtain ⟨l0, l1, l2, l3, l4, l5, l6⟩ := HL2.out.cells
    obtain ⟨n0, n1, n2, n3, n4, n5, n6⟩ := HN2.out.cells
    simp only [numL, nameL] at l0 l1 l2 l3 l4 l5 n0 n1 n2 n3 n4 n5
    go_wp2_with (go_at_call 72; (with_reducible refine (HEQ.out _).mono ?_); rintro e w3 ⟨rfl, hb3⟩; have HB3 := Aside0.mk (below_step HB2.out hb3); clear hb3)
    go_ret
    exact ⟨rfl, HB3.out⟩
  · have HALL := Aside0.mk hall; have HPN := Aside0.mk hpn; have HCN := Aside0.mk hcount; have HGA := Aside0.mk hga
    have hlen := Nat.le_trans a.len_le hcount
    have hb1 := alloc_below w (.cells #[.int .i64 4, .int .i64 f, .string noText, .string noText, .complex .f64 0 0, .float .f64 0, .slice A a.len c] 28)
    have HL0 : Aside0 (LfBlk (w.alloc (.cells #[.int .i64 4, .int .i64 f, .string noText, .string noText, .complex .f64 0 0, .float .f64 0, .slice A a.len c] 28)) w.heap.size (callL f) (.slice A a.len c)) := ⟨alloc_at w _⟩
    have HB0 := Aside0.mk hb1
    have HT0 := Aside0.mk (hT.below hb1)
    have HF0 := Aside0.mk (FoAt.below hb1 a A 0 hf)
    have HEQ : Aside0 (∀ w', Calls Tryz.prog 72 #[.agg #[.int .i64 4, .int .i64 f, .string noText, .string noText, .complex .f64 0 0, .float .f64 0, .slice none 0 0], .agg #[.int .i64 4, .int .i64 f, .string ⟨#[]⟩, .string ⟨#[]⟩, .complex .f64 0 0, .float .f64 0, .slice none 0 0]] w' fun e w'' => e = .returned (.bool true) ∧ Below w'.heap.size w' w'') := ⟨fun w' => equal_leaf (callL f) none none 0 0 w'⟩
    obtain ⟨l0, l1, l2, l3, l4, l5, l6⟩ := HL0.out.cells
    simp only [callL] at l0 l1 l2 l3 l4 l5
    clear hb1 hT hf hall hpn hga
    show Calls Tryz.prog 40 #[.agg #[.int .i64 4, .int .i64 f, .string noText, .string noText, .complex .f64 0 0, .float .f64 0, .slice A a.len c]] w _
    go_enter Tryz.func40, Tryz.ntmps40
    go_upto_region 5 with (go_at_call 12; (with_reducible refine (X.parse_Name.calls f nm (a.len : Int) true _ HPN.out).mono ?_); rintro e w1 ⟨rfl, hb1⟩; have HL1 := Aside0.mk (HL0.out.below hb1); have HB1 := Aside0.mk (below_step HB0.out hb1); have HT1 := Aside0.mk (HT0.out.below hb1); have HF1 := Aside0.mk (FoAt.below hb1 _ _ _ HF0.out); obtain ⟨l0, l1, l2, l3, l4, l5, l6⟩ := HL1.out.cells; obtain ⟨f0, f1, f2, f3, f4, f5, f6⟩ := HL1.out.frozen; simp only [callL] at l0 l1 l2 l3 l4 l5; clear hb1)
    go_upto_region 7 with (fail)
    have hn := alloc_at w1 (.cells #[.int .i64 4, .int .i64 f, .string noText, .string noText, .complex .f64 0 0, .float .f64 0, .slice none 0 0] 28)
    have hb2 := alloc_below w1 (.cells #[.int .i64 4, .int .i64 f, .string noText, .string noText, .complex .f64 0 0, .float .f64 0, .slice none 0 0] 28)
    have HN2 : Aside0 (LfBlk (w1.alloc (.cells #[.int .i64 4, .int .i64 f, .string noText, .string noText, .complex .f64 0 0, .float .f64 0, .slice none 0 0] 28)) w1.heap.size (callL f) (.slice none 0 0)) := ⟨hn⟩
    have HL2 := Aside0.mk (HL1.out.below hb2)
    have HB2 := Aside0.mk (below_step HB1.out hb2); have HT2 := Aside0.mk (HT1.out.below hb2); have HF2 := Aside0.mk (FoAt.below hb2 _ _ _ HF1.out)
    clear hn hb2
    generalize w1.alloc (.cells #[.int .i64 4, .int .i64 f, .string noText, .string noText, .complex .f64 0 0, .float .f64 0, .slice none 0 0] 28) = w2 at *
    obtain ⟨l0, l1, l2, l3, l4, l5, l6⟩ := HL2.out.cells
    obtain ⟨n0, n1, n2, n3, n4, n5, n6⟩ := HN2.out.cells
    simp only [callL] at l0 l1 l2 l3 l4 l5 n0 n1 n2 n3 n4 n5
    go_wp2_with (go_at_call 72; (with_reducible refine (HEQ.out _).mono ?_); rintro e w3 ⟨rfl, hb3⟩; have HL3 := Aside0.mk (HL2.out.below hb3); have HB3 := Aside0.mk (below_step HB2.out hb3); have HT3 := Aside0.mk (HT2.out.below hb3); have HF3 := Aside0.mk (FoAt.below hb3 _ _ _ HF2.out); obtain ⟨l0, l1, l2, l3, l4, l5, l6⟩ := HL3.out.cells; clear hb3)
    clear HL0 HL1 HL2 HL3 HN2 HB0 HB1 HB2 HT0 HT1 HT2 HF0 HF1 HF2 HEQ
    go_loopw [10, 54] (fun _ i wr => ∃ (rest : Fo) (k : Nat), i = .int .i64 (k : Nat) ∧ k + rest.len = a.len ∧ Aside0 (rest.count ≤ 1000000000) ∧ Aside0 (FoAt wr lo A k rest) ∧ Aside0 (rest.All RightP) ∧ Aside0 rest.Good ∧ Aside0 (Tab32 wr) ∧ Aside0 (Below w.heap.size w wr)) (fun _ i _ => a.len - (intOf i).toNat)
    case atStart => exact ⟨a, 0, rfl, Nat.zero_add _, HCN, HF3, HALL, HGA, HT3, HB3⟩
    case round =>
      clear HF3 HT3 HB3 l0 l1 l2 l3 l4 l5 l6
      obtain ⟨rest, k, rfl, hk, HC, HF1, HAL, HGR, HT, HB⟩ := hrel
      rcases rest with _ | ⟨y, b, n⟩
      · have hk' : k = a.len := hk
        subst hk'
        go_wp2_with fail
        go_ret
        exact ⟨rfl, HB.out⟩
      · obtain ⟨⟨ad, A', c', rfl, hlo, hc', hl, h2⟩, h3⟩ := HF1.out
        have hk' : k + (n.len + 1) = a.len := hk
        have hcnt : b.count + 1 + n.count ≤ 1000000000 := HC.out
        have hx1 : decide ((k : Int) < (a.len : Int)) = true := decide_eq_true (by omega)
        have HB2 := Aside0.mk (alloc_below wr (.cells #[.int .i64 y.k, .int .i64 y.f, .string y.nm, .string y.tx, .complex .f64 y.re y.im, .float .f64 y.rad, .slice A' b.len c'] 28))
        obtain ⟨e0, e1, e2, e3, e4, e5, e6⟩ := lf_box (w := wr) (x := y) (v := .slice A' b.len c')
        obtain ⟨d0, d1, d2, d3, d4, d5, d6⟩ := hl
        have HN : Aside0 (NodeV (wr.alloc (.cells #[.int .i64 y.k, .int .i64 y.f, .string y.nm, .string y.tx, .complex .f64 y.re y.im, .float .f64 y.rad, .slice A' b.len c'] 28)) lo (.agg #[.int .i64 y.k, .int .i64 y.f, .string y.nm, .string y.tx, .complex .f64 y.re y.im, .float .f64 y.rad, .slice A' b.len c']) y b) := ⟨⟨A', c', rfl, hc', FoAt.below HB2.out b A' 0 h2⟩⟩
        have HF3 := Aside0.mk (FoAt.below HB2.out n (some ad) (k + 1) h3)
        have HBW := Aside0.mk (below_step HB.out HB2.out)
        have HTW := Aside0.mk (HT.out.below HB2.out)
        have HCB : Aside0 (b.count ≤ 1000000000) := ⟨by omega⟩
        have HCM : Aside0 (n.count ≤ 1000000000) := ⟨by omega⟩
        have HK : Aside0 (k + 1 + n.len = a.len) := ⟨by omega⟩
        have HP : Aside0 (RightP y b) := ⟨HAL.out.1⟩
        have HR : Aside0 (n.All RightP) := ⟨HAL.out.2⟩
        have HG1 : Aside0 (GoodX y b) := ⟨HGR.out.1⟩
        have HG2 : Aside0 b.Good := ⟨HGR.out.2.1⟩
        have HG3 : Aside0 n.Good := ⟨HGR.out.2.2⟩
        clear h2 h3 hcnt hk HAL HF1 HC HB HGR HT
        go_wp2_with (go_at_call 40; (with_reducible refine (HP.out.use HN.out HG1.out HG2.out HCB.out HTW.out).mono ?_); rintro e w4 ⟨rfl, hb4⟩; have HB4 := Aside0.mk (below_step HBW.out hb4); have HT4 := Aside0.mk (HTW.out.below hb4); have HF4 := Aside0.mk (FoAt.below hb4 _ _ _ HF3.out); clear hb4)
        go_roundw
        case rel => exact ⟨n, k + 1, by go_num, HK.out, HCM, HF4, HR, HG3, HT4, HB4⟩
        case measure => simp [intOf]; omega
set_option maxHeartbeats 4000000 in
set_option maxRecDepth 100000 in
/-- parse.Check, of a tree. -/
theorem check_calls {x : Lf} {a : Fo} {w : World} {lo : Nat} {A : Option Addr} {c : Nat} (hc : a.len ≤ c) (hf : FoAt w lo A 0 a) (hg : GoodX x a) (hga : a.Good) (hT : Tab32 w) (hd : a.depth + 1 ≤ 64) (hn : a.count + 1 ≤ 16384) :
    Calls Tryz.prog 16 #[.agg #[.int .i64 x.k, .int .i64 x.f, .string x.nm, .string x.tx, .complex .f64 x.re x.im, .float .f64 x.rad, .slice A a.len c]] w fun e w' => e = .returned (.int .i64 0) ∧ Below w.heap.size w w' := by
  have hb1 := alloc_below w (.cells #[.int .i64 x.k, .int .i64 x.f, .string x.nm, .string x.tx, .complex .f64 x.re x.im, .float .f64 x.rad, .slice A a.len c] 28)
  have HL0 := Aside0.mk (LfBlk.new w x (.slice A a.len c))
  have HT0 := Aside0.mk (hT.below hb1)
  have HB0 := Aside0.mk hb1
  have HV0 : Aside0 (NodeV (w.alloc (.cells #[.int .i64 x.k, .int .i64 x.f, .string x.nm, .string x.tx, .complex .f64 x.re x.im, .float .f64 x.rad, .slice A a.len c] 28)) lo (.agg #[.int .i64 x.k, .int .i64 x.f, .string x.nm, .string x.tx, .complex .f64 x.re x.im, .float .f64 x.rad, .slice A a.len c]) x a) := ⟨⟨A, c, rfl, hc, FoAt.below hb1 a A 0 hf⟩⟩
  have HCN : Aside0 (a.count ≤ 1000000000) := ⟨by omega⟩
  have HG := Aside0.mk (show GoodX x a ∧ a.Good from ⟨hg, hga⟩)
  have hd1 : decide (64 < (a.depth : Int) + 1) = false := decide_eq_false (by omega)
  have hd2 : decide (16384 < ((a.count + 1 : Nat) : Int)) = false := decide_eq_false (by omega)
  obtain ⟨l0, l1, l2, l3, l4, l5, l6⟩ := HL0.out.cells
  clear hb1 hT hf hg hga
  generalize hwa : w.alloc (.cells #[.int .i64 x.k, .int .i64 x.f, .string x.nm, .string x.tx, .complex .f64 x.re x.im, .float .f64 x.rad, .slice A a.len c] 28) = w0 at *
  go_enter Tryz.func16, Tryz.ntmps16
  go_wp2_with (first
    | (go_at_call 32; (with_reducible refine ((depth_calls x a).use HV0.out HCN.out).mono ?_); rintro e w1 ⟨rfl, hb1⟩; have HL1 := Aside0.mk (HL0.out.below hb1); have HB1 := Aside0.mk (below_step HB0.out hb1); have HT1 := Aside0.mk (HT0.out.below hb1); have HV1 := Aside0.mk (HV0.out.below hb1); obtain ⟨l0, l1, l2, l3, l4, l5, l6⟩ := HL1.out.cells; clear hb1)
    | (go_at_call 33; (with_reducible refine ((count_calls x a).use HV1.out HCN.out).mono ?_); rintro e w2 ⟨rfl, hb1⟩; have HL2 := Aside0.mk (HL1.out.below hb1); have HB2 := Aside0.mk (below_step HB1.out hb1); have HT2 := Aside0.mk (HT1.out.below hb1); have HV2 := Aside0.mk (HV1.out.below hb1); obtain ⟨l0, l1, l2, l3, l4, l5, l6⟩ := HL2.out.cells; clear hb1)
    | (go_at_call 40; (with_reducible refine ((right_calls x a).use HV2.out HG.out.1 HG.out.2 HCN.out HT2.out).mono ?_); rintro e w3 ⟨rfl, hb1⟩; have HB3 := Aside0.mk (below_step HB2.out hb1); clear hb1))
  go_ret
  exact ⟨rfl, HB3.out⟩
end Go.Proofs.YtinmbcomnjmmjaaGreatDoor
namespace Go.Proofs.YtinmbcomnjmmjaaGreatDoor
open Go.RowKit Go.Proofs.YtinmbcomnjmmjaaGreatDoorW.PrintWords Go.Proofs.YtinmbcomnjmmjaaGreatDoorW.PrintLast Go.Proofs.YtinmbcomnjmmjaaGreatDoorW.PrintMore
open X
attribute [local go_sem] st_float st_complex
set_option linter.unusedSimpArgs false
def toks1 : List S77 := [⟨1, ofL [49], 0⟩, ⟨3, ofL [43], 2⟩, ⟨1, ofL [50], 4⟩, ⟨3, ofL [42], 6⟩, ⟨2, ofL [120], 8⟩, ⟨0, ⟨#[]⟩, 9⟩]
def toks2 : List S77 := [⟨2, ofL [115, 105, 110], 0⟩, ⟨3, ofL [40], 3⟩, ⟨1, ofL [49], 4⟩, ⟨3, ofL [44], 5⟩, ⟨1, ofL [50], 7⟩, ⟨3, ofL [41], 8⟩, ⟨0, ⟨#[]⟩, 9⟩]
def b1 : Nat × Nat := (4607182418800017408, 0)
def b2 : Nat × Nat := (4611686018427387904, 0)
def args2 : Fo := two (numL (ofL [50]) b2) .nil (nameL (ofL [120])) .nil
def args1 : Fo := two (numL (ofL [49]) b1) .nil (callL 26) args2
theorem toks1_f : tokP 20 [49, 32, 43, 32, 50, 32, 42, 32, 120] 0 [] = some toks1 := by kernel_rfl
theorem toks2_f : tokP 20 [115, 105, 110, 40, 49, 44, 32, 50, 41] 0 [] = some toks2 := by kernel_rfl
theorem tree1_f : rdF toks1 20 .sum 0 0 = some (.ok (callL 24) args1 5) := by kernel_rfl
theorem tree2_f : rdF toks2 20 .sum 0 0 = some (.bad 253 0) := by kernel_rfl
theorem good1 : GoodX (callL 24) args1 := Or.inr (Or.inr ⟨24, ⟨#[43]⟩, rfl, by kernel_rfl⟩)
theorem good2 : args1.Good :=
  ⟨Or.inl ⟨ofL [49], b1, rfl, rfl, by kernel_rfl, by kernel_rfl, by decide, by decide⟩, trivial,
   Or.inr (Or.inr ⟨26, ⟨#[42]⟩, rfl, by kernel_rfl⟩),
   ⟨Or.inl ⟨ofL [50], b2, rfl, rfl, by kernel_rfl, by kernel_rfl, by decide, by decide⟩, trivial, Or.inr (Or.inl ⟨ofL [120], 10, rfl, rfl, by kernel_rfl, by kernel_rfl⟩), trivial, trivial⟩, trivial⟩
theorem name28 : X.parse_Name.f 28 = some (⟨#[94]⟩, 2, true) := by decide +kernel
theorem depth1 : args1.depth = 2 := by kernel_rfl
theorem count1 : args1.count = 4 := by kernel_rfl
theorem len1 : args1.len = 2 := by kernel_rfl
theorem check_1 {w : World} {lo c : Nat} {A : Option Addr} (hc : 2 ≤ c) (hf : FoAt w lo A 0 args1) (hT : Tab32 w) : Calls Tryz.prog 16 #[.agg #[.int .i64 4, .int .i64 24, .string noText, .string noText, .complex .f64 0 0, .float .f64 0, .slice A 2 c]] w fun e w' => e = .returned (.int .i64 0) ∧ Below w.heap.size w w' := by
  have h := check_calls (x := callL 24) (a := args1) (c := c) (by rw [len1]; exact hc) hf good1 good2 hT (by rw [depth1]; decide) (by rw [count1]; decide)
  rw [len1] at h
  exact h
theorem depth_1 {w : World} {lo c : Nat} {A : Option Addr} (hc : 2 ≤ c) (hf : FoAt w lo A 0 args1) : Calls Tryz.prog 32 #[.agg #[.int .i64 4, .int .i64 24, .string noText, .string noText, .complex .f64 0 0, .float .f64 0, .slice A 2 c]] w fun e w' => e = .returned (.int .i64 3) ∧ Below w.heap.size w w' := by
  have hv : NodeV w lo (.agg #[.int .i64 4, .int .i64 24, .string noText, .string noText, .complex .f64 0 0, .float .f64 0, .slice A args1.len c]) (callL 24) args1 := ⟨A, c, rfl, by rw [len1]; exact hc, hf⟩
  have h := (depth_calls (callL 24) args1).use hv (by rw [count1]; decide)
  rw [len1, depth1] at h
  exact h
theorem count_1 {w : World} {lo c : Nat} {A : Option Addr} (hc : 2 ≤ c) (hf : FoAt w lo A 0 args1) : Calls Tryz.prog 33 #[.agg #[.int .i64 4, .int .i64 24, .string noText, .string noText, .complex .f64 0 0, .float .f64 0, .slice A 2 c]] w fun e w' => e = .returned (.int .i64 5) ∧ Below w.heap.size w w' := by
  have hv : NodeV w lo (.agg #[.int .i64 4, .int .i64 24, .string noText, .string noText, .complex .f64 0 0, .float .f64 0, .slice A args1.len c]) (callL 24) args1 := ⟨A, c, rfl, by rw [len1]; exact hc, hf⟩
  have h := (count_calls (callL 24) args1).use hv (by rw [count1]; decide)
  rw [len1, count1] at h
  exact h
theorem text1 {w : World} (hT : Tab32 w) : Calls Tryz.prog 8 #[.string ⟨#[49, 32, 43, 32, 50, 32, 42, 32, 120]⟩] w fun e w' => ∃ lo ad c, e = .returned (.tuple #[.agg #[.int .i64 4, .int .i64 24, .string noText, .string noText, .complex .f64 0 0, .float .f64 0, .slice (some ad) 2 c], .int .i64 0, .int .i64 0]) ∧ 2 ≤ c ∧ FoAt w' lo (some ad) 0 args1 ∧ Below w.heap.size w w' := by
  refine (parse_ok (l := [49, 32, 43, 32, 50, 32, 42, 32, 120]) (by decide) hT toks1_f (by decide) tree1_f (t := ⟨0, ⟨#[]⟩, 9⟩) rfl rfl (by decide) (by decide)).mono ?_
  rintro e w' ⟨lo, A, c, rfl, hc, _, hf, hb⟩
  obtain ⟨ad, A', c', e1, h1⟩ := hf.1
  subst e1
  exact ⟨lo, ad, c, rfl, hc, hf, hb⟩
theorem text2 {w : World} (hT : Tab32 w) : Calls Tryz.prog 8 #[.string ⟨#[115, 105, 110, 40, 49, 44, 32, 50, 41]⟩] w fun e w' => e = .returned (.tuple #[.agg #[.int .i64 0, .int .i64 0, .string ⟨#[]⟩, .string ⟨#[]⟩, .complex .f64 0 0, .float .f64 0, .slice none 0 0], .int .i64 0, .int .i64 253]) ∧ Below w.heap.size w w' :=
  parse_bad (l := [115, 105, 110, 40, 49, 44, 32, 50, 41]) (by decide) hT toks2_f (by decide) tree2_f
set_option maxHeartbeats 8000000 in
set_option maxRecDepth 100000 in
/-- cusplaw25.sure. -/
theorem sure_calls {w : World} (hT : Tab32 w) : Calls Tryz.prog 11 #[] w fun e w' => e = .returned (.bool true) ∧ Below w.heap.size w w' := by
  have HT := Aside0.mk hT
  clear hT
  go_enter Tryz.func11, Tryz.ntmps11
  go_upto_region 2 with (go_at_call 8; (with_reducible refine (text1 HT.out).mono ?_); rintro e w1 ⟨lo, ad, c, rfl, hc, hf, hb1⟩; have HT1 := Aside0.mk (HT.out.below hb1); have HB1 := Aside0.mk hb1; have HF1 := Aside0.mk hf; clear hf hb1)
  have hb2 := alloc_below w1 (.cells #[.int .i64 4, .int .i64 24, .string noText, .string noText, .complex .f64 0 0, .float .f64 0, .slice (some ad) 2 c] 28)
  have HL2 : Aside0 (LfBlk (w1.alloc (.cells #[.int .i64 4, .int .i64 24, .string noText, .string noText, .complex .f64 0 0, .float .f64 0, .slice (some ad) 2 c] 28)) w1.heap.size (callL 24) (.slice (some ad) 2 c)) := ⟨alloc_at w1 _⟩
  have HT2 := Aside0.mk (HT1.out.below hb2); have HB2 := Aside0.mk (below_step HB1.out hb2); have HF2 := Aside0.mk (FoAt.below hb2 _ _ _ HF1.out)
  clear hb2
  generalize w1.alloc (.cells #[.int .i64 4, .int .i64 24, .string noText, .string noText, .complex .f64 0 0, .float .f64 0, .slice (some ad) 2 c] 28) = w2 at *
  go_upto_region 3 with (go_at_call 8; (with_reducible refine (text2 HT2.out).mono ?_); rintro e w3 ⟨rfl, hb3⟩; have HT3 := Aside0.mk (HT2.out.below hb3); have HB3 := Aside0.mk (below_step HB2.out hb3); have HF3 := Aside0.mk (FoAt.below hb3 _ _ _ HF2.out); have HL3 := Aside0.mk (HL2.out.below hb3); clear hb3)
  have hb4 := alloc_below w3 (.cells #[.int .i64 0, .int .i64 0, .string ⟨#[]⟩, .string ⟨#[]⟩, .complex .f64 0 0, .float .f64 0, .slice none 0 0] 28)
  have HT4 := Aside0.mk (HT3.out.below hb4); have HB4 := Aside0.mk (below_step HB3.out hb4); have HF4 := Aside0.mk (FoAt.below hb4 _ _ _ HF3.out); have HL4 := Aside0.mk (HL3.out.below hb4)
  clear hb4
  generalize w3.alloc (.cells #[.int .i64 0, .int .i64 0, .string ⟨#[]⟩, .string ⟨#[]⟩, .complex .f64 0 0, .float .f64 0, .slice none 0 0] 28) = w4 at *
  go_upto_region 4 with (go_at_call 12; (with_reducible refine (X.parse_Name.calls 28 ⟨#[94]⟩ 2 true _ name28).mono ?_); rintro e w5 ⟨rfl, hb5⟩; have HT5 := Aside0.mk (HT4.out.below hb5); have HB5 := Aside0.mk (below_step HB4.out hb5); have HF5 := Aside0.mk (FoAt.below hb5 _ _ _ HF4.out); have HL5 := Aside0.mk (HL4.out.below hb5); clear hb5)
  obtain ⟨l0, l1, l2, l3, l4, l5, l6⟩ := HL5.out.cells
  simp only [callL] at l0 l1 l2 l3 l4 l5
  obtain ⟨ad', A', c', e1, _, _, hlf, _⟩ := HF5.out.2.1
  obtain rfl := Option.some.inj e1
  have m1 : w5.cell? ⟨ad.block, ad.off + 7 + 1, none⟩ = some (.int .i64 26) := hlf.2.1
  clear e1 hlf
  have HC2 := Aside0.mk hc
  clear hc
  go_wp2_with (first
    | (go_at_call 16; (with_reducible refine (check_1 HC2.out HF5.out HT5.out).mono ?_); rintro e w6 ⟨rfl, hb⟩; have HB6 := Aside0.mk (below_step HB5.out hb); have HF6 := Aside0.mk (FoAt.below hb _ _ _ HF5.out); have HL6 := Aside0.mk (HL5.out.below hb); obtain ⟨l0, l1, l2, l3, l4, l5, l6⟩ := HL6.out.cells; simp only [callL] at l0 l1 l2 l3 l4 l5; clear hb)
    | (go_at_call 32; (with_reducible refine (depth_1 HC2.out HF6.out).mono ?_); rintro e w7 ⟨rfl, hb⟩; have HB7 := Aside0.mk (below_step HB6.out hb); have HF7 := Aside0.mk (FoAt.below hb _ _ _ HF6.out); have HL7 := Aside0.mk (HL6.out.below hb); obtain ⟨l0, l1, l2, l3, l4, l5, l6⟩ := HL7.out.cells; simp only [callL] at l0 l1 l2 l3 l4 l5; clear hb)
    | (go_at_call 33; (with_reducible refine (count_1 HC2.out HF7.out).mono ?_); rintro e w8 ⟨rfl, hb⟩; have HB8 := Aside0.mk (below_step HB7.out hb); clear hb))
  go_ret
  exact ⟨rfl, HB8.out⟩
end Go.Proofs.YtinmbcomnjmmjaaGreatDoor
