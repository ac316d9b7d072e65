/- Proved: a part of what the statement on the names of parse needs: walks of functions of the program, and plain laws. (Texts Ev.) -/
import Derived.Test.YtinmbcomnjmmjaaGreatDoorQ40
namespace Go.Proofs.YtinmbcomnjmmjaaGreatDoor
open Go.RowKit Go.Proofs.YtinmbcomnjmmjaaGreatDoorW.PrintWords Go.Proofs.YtinmbcomnjmmjaaGreatDoorW.PrintLast Go.Proofs.YtinmbcomnjmmjaaGreatDoorW.PrintMore
open X
attribute [local go_sem] st_float st_complex field77_0 field77_1 field77_2 run_makeMap
theorem calls_ok {N : FuncId} {args : Array Value} {w : World} {g B op q : Nat} {xs : List S77} {y : Lf} {b : Fo} (h : Calls Tryz.prog N args w (OutP w g B xs op (.ok y b q))) :
    Calls Tryz.prog N args w fun e w' => ∃ A c, e = .returned (.agg #[.int .i64 y.k, .int .i64 y.f, .string y.nm, .string y.tx, .complex .f64 y.re y.im, .float .f64 y.rad, .slice A b.len c]) ∧ b.len ≤ c ∧ FoAt w' w.heap.size A 0 b ∧ RdAt w' g B xs q op ∧ Turns g w w' := by
  refine h.mono ?_
  rintro e w' ⟨v, rfl, ⟨A, c, rfl, hc, hf⟩, h1, h2⟩
  exact ⟨A, c, rfl, hc, hf, h1, h2⟩
set_option maxHeartbeats 4000000 in
set_option maxRecDepth 100000 in
/-- (*reader).sum. -/
theorem sum_step {xs : List S77} {k : Nat} (ih : RdC xs k .product 92) : RdC xs (k + 1) .sum 64 := by
  intro w g B p op o hr ho hB h
  have HL0 := Aside0.mk (LfBlk.new w zL (.slice none 0 0))
  have HT0 := Aside0.mk (Turns.of_below (g := g) (alloc_below w (.cells #[.int .i64 zL.k, .int .i64 zL.f, .string zL.nm, .string zL.tx, .complex .f64 zL.re zL.im, .float .f64 zL.rad, .slice none 0 0] 28)))
  have HR0 := Aside0.mk (hr.below (alloc_below w (.cells #[.int .i64 zL.k, .int .i64 zL.f, .string zL.nm, .string zL.tx, .complex .f64 zL.re zL.im, .float .f64 zL.rad, .slice none 0 0] 28)))
  have hsz := alloc_size w (.cells #[.int .i64 zL.k, .int .i64 zL.f, .string zL.nm, .string zL.tx, .complex .f64 zL.re zL.im, .float .f64 zL.rad, .slice none 0 0] 28)
  have hgl := hr.lt
  have HB := Aside0.mk hB
  have HO := Aside0.mk ho
  clear hr ho
  simp only [rdF] at h
  unfold zL noText at *
  generalize hwa : w.alloc (.cells _ 28) = w0 at *
  have HBB : Aside0 (B ≤ w0.heap.size) := ⟨by omega⟩
  clear hB
  have hP : plusS = signOf 43 24 45 25 := rfl
  rw [hP] at h
  clear hP
  have hm0 := alloc_at w0 (.map #[] 0)
  have hu1 := upd_run (s := ⟨#[43]⟩) (v := .int .i64 24) hm0 rfl
  have hm1 := mset_at hm0 ((#[] : Array MapEntry).push ⟨.string ⟨#[43]⟩, .int .i64 24, 0⟩) (0 + 1)
  have hu2 := upd_run (s := ⟨#[45]⟩) (v := .int .i64 25) hm1 (by kernel_rfl)
  have hm2 : MapAt _ w0.heap.size 43 24 45 25 := mset_at hm1 (((#[] : Array MapEntry).push ⟨.string ⟨#[43]⟩, .int .i64 24, 0⟩).push ⟨.string ⟨#[45]⟩, .int .i64 25, 0 + 1⟩) (0 + 1 + 1)
  have hb2 := Turns.below (alloc_below w0 (.map #[] 0)) (by rw [alloc_size]; omega) (Nat.le_refl _) ((mset_turns (w0.alloc (.map #[] 0)) w0.heap.size ((#[] : Array MapEntry).push ⟨.string ⟨#[43]⟩, .int .i64 24, 0⟩) (0 + 1)).trans (mset_turns _ w0.heap.size (((#[] : Array MapEntry).push ⟨.string ⟨#[43]⟩, .int .i64 24, 0⟩).push ⟨.string ⟨#[45]⟩, .int .i64 25, 0 + 1⟩) (0 + 1 + 1)))
  clear hm0 hm1
  rw [hsz] at hu1 hu2 hm2 hb2
  generalize mset (mset _ _ _ _) (w.heap.size + 1) _ (0 + 1 + 1) = w2 at *
  generalize mset _ _ _ _ = w1 at *
  rw [← hsz] at hb2
  have hs2 := hb2.size
  have HR2 := Aside0.mk (HR0.out.below hb2)
  have HT2 := Aside0.mk (HT0.out.then_below hb2)
  have HL2 := Aside0.mk (HL0.out.below hb2)
  have HM2 := Aside0.mk hm2
  have HH := Aside0.mk h
  clear hm2 hb2 h
  rcases o with ⟨y, b, q⟩ | ⟨er, z⟩
  · go_enter Tryz.func64, Tryz.ntmps64
    go_wp2_with (go_at_call 91; (with_reducible refine (calls_ok (row92 ih k _ _ _ _ _ _ _ HR2.out HO.out (Nat.le_trans HBB.out hs2) HM2.out HH.out)).mono ?_); rintro e w3 ⟨A3, c3, rfl, hc3, hf3, hr3, ht3⟩; have hs3 := ht3.size; have HC3 := Aside0.mk hc3; have HF3 := Aside0.mk hf3; have HR3 := Aside0.mk hr3; have HT3 := Aside0.mk (HT2.out.trans ht3); have HL3 := Aside0.mk (HL2.out.turns ht3 (by omega)); obtain ⟨l0, l1, l2, l3, l4, l5, l6⟩ := HL3.out.cells; obtain ⟨f0, f1, f2, f3, f4, f5, f6⟩ := HL3.out.frozen; clear hc3 hf3 hr3 ht3)
    exact OutP.fin HL3.out (by omega) HC3.out HF3.out HR3.out HB.out HT3.out rfl rfl rfl
  · go_enter Tryz.func64, Tryz.ntmps64
    go_wp2_with (go_at_call 91; (with_reducible refine (row92 ih k _ _ _ _ _ _ _ HR2.out HO.out (Nat.le_trans HBB.out hs2) HM2.out HH.out).mono ?_); rintro e w3 ⟨rfl, ht3⟩; have HT3 := Aside0.mk (HT2.out.trans ht3); clear ht3)
    exact ⟨rfl, rfl, HT3.out⟩
set_option maxHeartbeats 4000000 in
set_option maxRecDepth 100000 in
/-- (*reader).product. -/
theorem product_step {xs : List S77} {k : Nat} (ih : RdC xs k .minus 114) : RdC xs (k + 1) .product 92 := by
  intro w g B p op o hr ho hB h
  have HL0 := Aside0.mk (LfBlk.new w zL (.slice none 0 0))
  have HT0 := Aside0.mk (Turns.of_below (g := g) (alloc_below w (.cells #[.int .i64 zL.k, .int .i64 zL.f, .string zL.nm, .string zL.tx, .complex .f64 zL.re zL.im, .float .f64 zL.rad, .slice none 0 0] 28)))
  have HR0 := Aside0.mk (hr.below (alloc_below w (.cells #[.int .i64 zL.k, .int .i64 zL.f, .string zL.nm, .string zL.tx, .complex .f64 zL.re zL.im, .float .f64 zL.rad, .slice none 0 0] 28)))
  have hsz := alloc_size w (.cells #[.int .i64 zL.k, .int .i64 zL.f, .string zL.nm, .string zL.tx, .complex .f64 zL.re zL.im, .float .f64 zL.rad, .slice none 0 0] 28)
  have hgl := hr.lt
  have HB := Aside0.mk hB
  have HO := Aside0.mk ho
  clear hr ho
  simp only [rdF] at h
  unfold zL noText at *
  generalize hwa : w.alloc (.cells _ 28) = w0 at *
  have HBB : Aside0 (B ≤ w0.heap.size) := ⟨by omega⟩
  clear hB
  have hP : timesS = signOf 42 26 47 27 := rfl
  rw [hP] at h
  clear hP
  have hm0 := alloc_at w0 (.map #[] 0)
  have hu1 := upd_run (s := ⟨#[42]⟩) (v := .int .i64 26) hm0 rfl
  have hm1 := mset_at hm0 ((#[] : Array MapEntry).push ⟨.string ⟨#[42]⟩, .int .i64 26, 0⟩) (0 + 1)
  have hu2 := upd_run (s := ⟨#[47]⟩) (v := .int .i64 27) hm1 (by kernel_rfl)
  have hm2 : MapAt _ w0.heap.size 42 26 47 27 := mset_at hm1 (((#[] : Array MapEntry).push ⟨.string ⟨#[42]⟩, .int .i64 26, 0⟩).push ⟨.string ⟨#[47]⟩, .int .i64 27, 0 + 1⟩) (0 + 1 + 1)
  have hb2 := Turns.below (alloc_below w0 (.map #[] 0)) (by rw [alloc_size]; omega) (Nat.le_refl _) ((mset_turns (w0.alloc (.map #[] 0)) w0.heap.size ((#[] : Array MapEntry).push ⟨.string ⟨#[42]⟩, .int .i64 26, 0⟩) (0 + 1)).trans (mset_turns _ w0.heap.size (((#[] : Array MapEntry).push ⟨.string ⟨#[42]⟩, .int .i64 26, 0⟩).push ⟨.string ⟨#[47]⟩, .int .i64 27, 0 + 1⟩) (0 + 1 + 1)))
  clear hm0 hm1
  rw [hsz] at hu1 hu2 hm2 hb2
  generalize mset (mset _ _ _ _) (w.heap.size + 1) _ (0 + 1 + 1) = w2 at *
  generalize mset _ _ _ _ = w1 at *
  rw [← hsz] at hb2
  have hs2 := hb2.size
  have HR2 := Aside0.mk (HR0.out.below hb2)
  have HT2 := Aside0.mk (HT0.out.then_below hb2)
  have HL2 := Aside0.mk (HL0.out.below hb2)
  have HM2 := Aside0.mk hm2
  have HH := Aside0.mk h
  clear hm2 hb2 h
  rcases o with ⟨y, b, q⟩ | ⟨er, z⟩
  · go_enter Tryz.func92, Tryz.ntmps92
    go_wp2_with (go_at_call 91; (with_reducible refine (calls_ok (row114 ih k _ _ _ _ _ _ _ HR2.out HO.out (Nat.le_trans HBB.out hs2) HM2.out HH.out)).mono ?_); rintro e w3 ⟨A3, c3, rfl, hc3, hf3, hr3, ht3⟩; have hs3 := ht3.size; have HC3 := Aside0.mk hc3; have HF3 := Aside0.mk hf3; have HR3 := Aside0.mk hr3; have HT3 := Aside0.mk (HT2.out.trans ht3); have HL3 := Aside0.mk (HL2.out.turns ht3 (by omega)); obtain ⟨l0, l1, l2, l3, l4, l5, l6⟩ := HL3.out.cells; obtain ⟨f0, f1, f2, f3, f4, f5, f6⟩ := HL3.out.frozen; clear hc3 hf3 hr3 ht3)
    exact OutP.fin HL3.out (by omega) HC3.out HF3.out HR3.out HB.out HT3.out rfl rfl rfl
  · go_enter Tryz.func92, Tryz.ntmps92
    go_wp2_with (go_at_call 91; (with_reducible refine (row114 ih k _ _ _ _ _ _ _ HR2.out HO.out (Nat.le_trans HBB.out hs2) HM2.out HH.out).mono ?_); rintro e w3 ⟨rfl, ht3⟩; have HT3 := Aside0.mk (HT2.out.trans ht3); clear ht3)
    exact ⟨rfl, rfl, HT3.out⟩
end Go.Proofs.YtinmbcomnjmmjaaGreatDoor
