/- Proved: a part of what the statement on the names of parse needs: walks of functions of the program, and plain laws. (Texts Ep, Eq, Ga, Hd, Ha, Es.) -/
import Derived.Test.YtinmbcomnjmmjaaGreatDoorQ35
import Derived.Test.YtinmbcomnjmmjaaGreatDoorQ36
import Derived.Test.YtinmbcomnjmmjaaGreatDoorQ24
import Derived.Test.YtinmbcomnjmmjaaGreatDoorQ13
import Derived.Recover
import Derived.Laws.Pointers
import Derived.MapKept
import Derived.Carry
namespace Go.Proofs.YtinmbcomnjmmjaaGreatDoor
open Go.RowKit Go.Proofs.YtinmbcomnjmmjaaGreatDoorW.PrintWords Go.Proofs.YtinmbcomnjmmjaaGreatDoorW.PrintLast Go.Proofs.YtinmbcomnjmmjaaGreatDoorW.PrintMore
open X
attribute [local go_sem] st_float st_complex field77_0 field77_1 field77_2
/-- A row of one. -/
theorem FoAt.one {w : World} {lo : Nat} {A : Option Addr} {c : Nat} {y : Lf} {b : Fo} (hf : FoAt w lo A 0 b) (hc : b.len ≤ c) (hl : lo ≤ w.heap.size) :
    FoAt (w.alloc (.cells #[.int .i64 y.k, .int .i64 y.f, .string y.nm, .string y.tx, .complex .f64 y.re y.im, .float .f64 y.rad, .slice A b.len c] 28)) lo (some ⟨w.heap.size, 0, none⟩) 0 (.cons y b .nil) :=
  ⟨⟨⟨w.heap.size, 0, none⟩, A, c, rfl, hl, hc, lf_box, FoAt.below (alloc_below w _) b A 0 hf⟩, trivial⟩
/-- A row of two. -/
theorem FoAt.pair {w : World} {lo : Nat} {A A' : Option Addr} {c c' : Nat} {x y : Lf} {a b : Fo} (hf : FoAt w lo A 0 a) (hc : a.len ≤ c) (hf' : FoAt w lo A' 0 b) (hc' : b.len ≤ c') (hl : lo ≤ w.heap.size) :
    FoAt (w.alloc (.cells #[.int .i64 x.k, .int .i64 x.f, .string x.nm, .string x.tx, .complex .f64 x.re x.im, .float .f64 x.rad, .slice A a.len c, .int .i64 y.k, .int .i64 y.f, .string y.nm, .string y.tx, .complex .f64 y.re y.im, .float .f64 y.rad, .slice A' b.len c'] 28)) lo (some ⟨w.heap.size, 0, none⟩) 0 (two x a y b) := by
  have h := alloc_at w (.cells #[.int .i64 x.k, .int .i64 x.f, .string x.nm, .string x.tx, .complex .f64 x.re x.im, .float .f64 x.rad, .slice A a.len c, .int .i64 y.k, .int .i64 y.f, .string y.nm, .string y.tx, .complex .f64 y.re y.im, .float .f64 y.rad, .slice A' b.len c'] 28)
  refine ⟨⟨⟨w.heap.size, 0, none⟩, A, c, rfl, hl, hc, ?_, FoAt.below (alloc_below w _) a A 0 hf⟩, ⟨⟨w.heap.size, 0, none⟩, A', c', rfl, hl, hc', ?_, FoAt.below (alloc_below w _) b A' 0 hf'⟩, trivial⟩
  · show LfAt _ ⟨w.heap.size, 0, none⟩ x _
    unfold LfAt World.cell?
    simp only [h]
    exact ⟨rfl, rfl, rfl, rfl, rfl, rfl, rfl⟩
  · show LfAt _ ⟨w.heap.size, 7, none⟩ y _
    unfold LfAt World.cell?
    simp only [h]
    exact ⟨rfl, rfl, rfl, rfl, rfl, rfl, rfl⟩
/-- A walk's end. -/
theorem OutP.fin {fn : Func} {p : Tmp} {a : Act} {w w2 : World} {g B lo c q op : Nat} {xs : List S77} {x0 y : Lf} {v0 : Value} {A : Option Addr} {b : Fo} (hbl : LfBlk w2 w.heap.size x0 v0) (hlo : w.heap.size < lo) (hc : b.len ≤ c) (hf : FoAt w2 lo A 0 b) (hr : RdAt w2 g B xs q op) (hB : B ≤ w.heap.size) (ht : Turns g w w2)
    (h1 : fn.results = #[.cell p 28]) (h2 : a.tmps.getD p undef = .pointer (some ⟨w.heap.size, 0, none⟩)) (h3 : a.defers = []) :
    bodyPost Tryz.prog fn (OutP w g B xs op (.ok y b q)) .ret a (st7 w2 w.heap.size y (.slice A b.len c)) :=
  node_ret (hbl.st y _) h1 h2 h3 ⟨_, rfl, ⟨A, c, rfl, hc, FoAt.mono (Nat.le_of_lt hlo) b A 0 (FoAt.turns (st7_turns _ _ _ _) hlo b A 0 hf)⟩, hr.turns (st7_turns _ _ _ _) hB, ht.new (Nat.le_refl _) (st7_turns _ _ _ _)⟩
set_option maxHeartbeats 4000000 in
set_option maxRecDepth 100000 in
/-- (*reader).minus. -/
theorem minus_step {xs : List S77} {k : Nat} (ihm : RdC xs k .minus 114) (ihp : RdC xs k .power 137) : RdC xs (k + 1) .minus 114 := by
  intro w g B p op o hr ho hB h
  have HL0 := Aside0.mk (LfBlk.new w zL (.slice none 0 0))
  have HT0 := Aside0.mk (Turns.of_below (g := g) (alloc_below w (.cells #[.int .i64 zL.k, .int .i64 zL.f, .string zL.nm, .string zL.tx, .complex .f64 zL.re zL.im, .float .f64 zL.rad, .slice none 0 0] 28)))
  have HR0 := Aside0.mk (hr.below (alloc_below w (.cells #[.int .i64 zL.k, .int .i64 zL.f, .string zL.nm, .string zL.tx, .complex .f64 zL.re zL.im, .float .f64 zL.rad, .slice none 0 0] 28)))
  have hsz := alloc_size w (.cells #[.int .i64 zL.k, .int .i64 zL.f, .string zL.nm, .string zL.tx, .complex .f64 zL.re zL.im, .float .f64 zL.rad, .slice none 0 0] 28)
  have hgl := hr.lt
  have HB := Aside0.mk hB
  have HO := Aside0.mk ho
  clear hr ho
  simp only [rdF] at h
  unfold zL noText at *
  generalize hwa : w.alloc (.cells _ 28) = w0 at *
  have HBB : Aside0 (B ≤ w0.heap.size) := ⟨by omega⟩
  clear hB
  rcases hi : isF xs p [45] with _ | b
  · rw [hi] at h; cases h
  · rw [hi] at h
    have HI : Aside0 (isF xs p (⟨#[45]⟩ : ByteArray).data.toList = some b) := ⟨hi⟩
    rcases b with _ | _
    · simp only at h
      have HH := Aside0.mk h
      clear hi h
      rcases o with ⟨y, b, q⟩ | ⟨er, z⟩
      · go_enter Tryz.func114, Tryz.ntmps114
        go_wp2_with (first
          | (go_at_call 136; (with_reducible refine (is_calls HR0.out HI.out).mono ?_); rintro e w1 ⟨rfl, hb1⟩; have hs1 := hb1.size; have HR1 := Aside0.mk (HR0.out.below hb1); have HT1 := Aside0.mk (HT0.out.then_below hb1); have HL1 := Aside0.mk (HL0.out.below hb1); clear hb1)
          | (go_at_call 137; (with_reducible refine (ihp.ok HR1.out HO.out (Nat.le_trans HBB.out (by omega)) HH.out).mono ?_); rintro e w2 ⟨A2, c2, rfl, hc2, hf2, hr2, ht2⟩; have hs2 := ht2.size; have HC2 := Aside0.mk hc2; have HF2 := Aside0.mk hf2; have HR2 := Aside0.mk hr2; have HT2 := Aside0.mk (HT1.out.trans ht2); have HL2 := Aside0.mk (HL1.out.turns ht2 (by omega)); obtain ⟨l0, l1, l2, l3, l4, l5, l6⟩ := HL2.out.cells; obtain ⟨f0, f1, f2, f3, f4, f5, f6⟩ := HL2.out.frozen; clear hc2 hf2 hr2 ht2))
        exact OutP.fin HL2.out (by omega) HC2.out HF2.out HR2.out HB.out HT2.out rfl rfl rfl
      · go_enter Tryz.func114, Tryz.ntmps114
        go_wp2_with (first
          | (go_at_call 136; (with_reducible refine (is_calls HR0.out HI.out).mono ?_); rintro e w1 ⟨rfl, hb1⟩; have hs1 := hb1.size; have HR1 := Aside0.mk (HR0.out.below hb1); have HT1 := Aside0.mk (HT0.out.then_below hb1); have HL1 := Aside0.mk (HL0.out.below hb1); clear hb1)
          | (go_at_call 137; (with_reducible refine (ihp.bad HR1.out HO.out (Nat.le_trans HBB.out (by omega)) HH.out).mono ?_); rintro e w2 ⟨rfl, ht2⟩; have HT2 := Aside0.mk (HT1.out.trans ht2); clear ht2))
        exact ⟨rfl, rfl, HT2.out⟩
    · simp only [deepF] at h
      have hp := isF_lt hi
      have HP := Aside0.mk hp
      by_cases hd : 256 < op + 1
      · rw [if_pos hd] at h
        rcases htk : xs[p]? with _ | t
        · rw [htk] at h; cases h
        · rw [htk] at h
          simp only [Option.map_some] at h
          obtain rfl := Option.some.inj h
          have HTK := Aside0.mk htk
          have HQ : Aside0 (op = 256) := ⟨by have := HO.out; omega⟩
          clear h hi htk
          go_enter Tryz.func114, Tryz.ntmps114
          go_wp2_with (first
            | (go_at_call 136; (with_reducible refine (is_calls HR0.out HI.out).mono ?_); rintro e w1 ⟨rfl, hb1⟩; have hs1 := hb1.size; have HR1 := Aside0.mk (HR0.out.below hb1); have HT1 := Aside0.mk (HT0.out.then_below hb1); have HL1 := Aside0.mk (HL0.out.below hb1); clear hb1)
            | (go_at_call 138; (with_reducible refine (deeper_bad HR1.out HTK.out HQ.out).mono ?_); rintro e w2 ⟨rfl, ht2⟩; have HT2 := Aside0.mk (HT1.out.trans ht2); clear ht2))
          exact ⟨rfl, rfl, HT2.out⟩
      · rw [if_neg hd, if_pos hp] at h
        have HQ : Aside0 (op + 1 ≤ 256) := ⟨by omega⟩
        rcases hm : rdF xs k .minus (op + 1) (p + 1) with _ | ⟨y, b, q⟩ | ⟨er, z⟩
        · rw [hm] at h; cases h
        · rw [hm] at h
          obtain rfl := Option.some.inj h
          have HH := Aside0.mk hm
          clear h hi hm
          go_enter Tryz.func114, Tryz.ntmps114
          go_upto_region 5 with (first
            | (go_at_call 136; (with_reducible refine (is_calls HR0.out HI.out).mono ?_); rintro e w1 ⟨rfl, hb1⟩; have hs1 := hb1.size; have HR1 := Aside0.mk (HR0.out.below hb1); have HT1 := Aside0.mk (HT0.out.then_below hb1); have HL1 := Aside0.mk (HL0.out.below hb1); clear hb1)
            | (go_at_call 138; (with_reducible refine (deeper_ok HR1.out HP.out HQ.out).mono ?_); rintro e w2 ⟨rfl, hr2, ht2⟩; have hs2 := ht2.size; have HR2 := Aside0.mk hr2; have HT2 := Aside0.mk (HT1.out.trans ht2); have HL2 := Aside0.mk (HL1.out.turns ht2 (by omega)); clear hr2 ht2)
            | (go_at_call 114; (with_reducible refine (ihm.ok HR2.out HQ.out (Nat.le_trans HBB.out (by omega)) HH.out).mono ?_); rintro e w3 ⟨A3, c3, rfl, hc3, hf3, hr3, ht3⟩; have hs3 := ht3.size; have HC3 := Aside0.mk hc3; have HF3 := Aside0.mk hf3; have HR3 := Aside0.mk hr3; have HT3 := Aside0.mk (HT2.out.trans ht3); have HL3 := Aside0.mk (HL2.out.turns ht3 (by omega)); clear hc3 hf3 hr3 ht3)
            | (go_at_call 113; (with_reducible refine (call_calls _ 1 _ _ _).mono ?_); rintro e w4 ⟨rfl, hb4⟩; have HB4 := Aside0.mk hb4; clear hb4))
          have hl5 : LfBlk (w4.alloc (.cells #[.int .i64 4, .int .i64 1, .string noText, .string noText, .complex .f64 0 0, .float .f64 0, .slice (some ⟨w3.heap.size, 0, none⟩) 1 1] 28)) w4.heap.size (callL 1) (.slice (some ⟨w3.heap.size, 0, none⟩) 1 1) := alloc_at _ _
          have hb5 : Below w3.heap.size w3 (w4.alloc (.cells #[.int .i64 4, .int .i64 1, .string noText, .string noText, .complex .f64 0 0, .float .f64 0, .slice (some ⟨w3.heap.size, 0, none⟩) 1 1] 28)) := below_step (below_step (alloc_below w3 _) HB4.out) (alloc_below w4 _)
          have hf5 := FoAt.below (below_step HB4.out (alloc_below w4 (.cells #[.int .i64 4, .int .i64 1, .string noText, .string noText, .complex .f64 0 0, .float .f64 0, .slice (some ⟨w3.heap.size, 0, none⟩) 1 1] 28))) _ _ _ (FoAt.one HF3.out HC3.out (by omega))
          have hr5 := HR3.out.below hb5
          have ht5 := HT3.out.then_below hb5
          have hL5 := HL3.out.below hb5
          have hs5 : w3.heap.size ≤ w4.heap.size := Nat.le_trans (by rw [alloc_size]; omega) HB4.out.size
          have hg5 := HR3.out.lt
          obtain ⟨A5, c5, hk5, _⟩ := id hr5
          obtain ⟨k0, k1, k2⟩ := blk3 hk5
          have hfr := blk_frozen hk5
          have g2 := hfr 2
          have HL5 := Aside0.mk hL5; have HN5 := Aside0.mk hl5; have HR5 := Aside0.mk hr5; have HT5 := Aside0.mk ht5; have HF5 := Aside0.mk hf5
          clear hk5 hfr hL5 hl5 hr5 ht5 hf5 hb5
          generalize w4.alloc (.cells #[.int .i64 4, .int .i64 1, .string noText, .string noText, .complex .f64 0 0, .float .f64 0, .slice (some ⟨w3.heap.size, 0, none⟩) 1 1] 28) = w5 at *
          go_upto_region 6 with (fail)
          have ht6 := setCell_turns w5 g 2 (.int .i64 (op : Int))
          have HR6 := Aside0.mk (HR5.out.open' (q := op) (z := (op : Int)) (by have := HO.out; omega) rfl)
          have HT6 := Aside0.mk (HT5.out.trans ht6)
          have HL6 := Aside0.mk (HL5.out.turns ht6 (by omega))
          have HN6 := Aside0.mk (HN5.out.turns ht6 (by omega))
          have HF6 := Aside0.mk (FoAt.turns ht6 (by omega) _ _ _ HF5.out)
          clear ht6 k0 k1 k2 g2 HR5 HT5 HL5 HN5 HF5
          generalize w5.setCell ⟨g, 2, none⟩ (.int .i64 (op : Int)) = w6 at *
          obtain ⟨n0, n1, n2, n3, n4, n5, n6⟩ := HN6.out.cells
          obtain ⟨l0, l1, l2, l3, l4, l5, l6⟩ := HL6.out.cells
          obtain ⟨f0, f1, f2, f3, f4, f5, f6⟩ := HL6.out.frozen
          unfold callL at n0 n1 n2 n3 n4 n5
          go_wp2_with fail
          exact OutP.fin HL6.out (by omega) (Nat.le_refl _) HF6.out HR6.out HB.out HT6.out rfl rfl rfl
        · rw [hm] at h
          obtain rfl := Option.some.inj h
          have HH := Aside0.mk hm
          clear h hi hm
          go_enter Tryz.func114, Tryz.ntmps114
          go_wp2_with (first
            | (go_at_call 136; (with_reducible refine (is_calls HR0.out HI.out).mono ?_); rintro e w1 ⟨rfl, hb1⟩; have hs1 := hb1.size; have HR1 := Aside0.mk (HR0.out.below hb1); have HT1 := Aside0.mk (HT0.out.then_below hb1); have HL1 := Aside0.mk (HL0.out.below hb1); clear hb1)
            | (go_at_call 138; (with_reducible refine (deeper_ok HR1.out HP.out HQ.out).mono ?_); rintro e w2 ⟨rfl, hr2, ht2⟩; have hs2 := ht2.size; have HR2 := Aside0.mk hr2; have HT2 := Aside0.mk (HT1.out.trans ht2); have HL2 := Aside0.mk (HL1.out.turns ht2 (by omega)); clear hr2 ht2)
            | (go_at_call 114; (with_reducible refine (ihm.bad HR2.out HQ.out (Nat.le_trans HBB.out (by omega)) HH.out).mono ?_); rintro e w3 ⟨rfl, ht3⟩; have HT3 := Aside0.mk (HT2.out.trans ht3); clear ht3))
          exact ⟨rfl, rfl, HT3.out⟩
end Go.Proofs.YtinmbcomnjmmjaaGreatDoor
namespace Go.Proofs.YtinmbcomnjmmjaaGreatDoor
open Go.RowKit Go.Proofs.YtinmbcomnjmmjaaGreatDoorW.PrintWords Go.Proofs.YtinmbcomnjmmjaaGreatDoorW.PrintLast Go.Proofs.YtinmbcomnjmmjaaGreatDoorW.PrintMore
open X
/-- A row of trees in memory, all of it in blocks of one kind. -/
def FoOk (w : World) (ok : Nat → Prop) : Option Addr → Nat → Fo → Prop
  | _, _, .nil => True
  | A, i, .cons x a n => (∃ ad A' c', A = some ad ∧ ok ad.block ∧ a.len ≤ c' ∧ LfAt w (ad.add (i * 7)) x (.slice A' a.len c') ∧ FoOk w ok A' 0 a) ∧ FoOk w ok A (i + 1) n
theorem FoAt.toOk {w : World} {lo : Nat} : ∀ (a : Fo) (A : Option Addr) (i : Nat), FoAt w lo A i a → FoOk w (fun b => lo ≤ b ∧ b < w.heap.size) A i a
  | .nil, _, _, _ => trivial
  | .cons _ a n, A, i, ⟨⟨ad, A', c', e, hl, hc, h1, h2⟩, h3⟩ => ⟨⟨ad, A', c', e, ⟨hl, by have := World.block_lt_of_cell? _ _ h1.1; rw [add_block] at this; exact this⟩, hc, h1, FoAt.toOk a A' 0 h2⟩, FoAt.toOk n A (i + 1) h3⟩
theorem FoOk.toAt {w : World} {lo : Nat} {ok : Nat → Prop} (ho : ∀ b, ok b → lo ≤ b) : ∀ (a : Fo) (A : Option Addr) (i : Nat), FoOk w ok A i a → FoAt w lo A i a
  | .nil, _, _, _ => trivial
  | .cons _ a n, A, i, ⟨⟨ad, A', c', e, hl, hc, h1, h2⟩, h3⟩ => ⟨⟨ad, A', c', e, ho _ hl, hc, h1, FoOk.toAt ho a A' 0 h2⟩, FoOk.toAt ho n A (i + 1) h3⟩
theorem FoOk.mono {w : World} {ok ok' : Nat → Prop} (ho : ∀ b, ok b → ok' b) : ∀ (a : Fo) (A : Option Addr) (i : Nat), FoOk w ok A i a → FoOk w ok' A i a
  | .nil, _, _, _ => trivial
  | .cons _ a n, A, i, ⟨⟨ad, A', c', e, hl, hc, h1, h2⟩, h3⟩ => ⟨⟨ad, A', c', e, ho _ hl, hc, h1, FoOk.mono ho a A' 0 h2⟩, FoOk.mono ho n A (i + 1) h3⟩
theorem FoOk.below {w w1 : World} {ok : Nat → Prop} (hb : Below w.heap.size w w1) : ∀ (a : Fo) (A : Option Addr) (i : Nat), FoOk w ok A i a → FoOk w1 ok A i a
  | .nil, _, _, _ => trivial
  | .cons _ a n, A, i, ⟨⟨ad, A', c', e, hl, hc, h1, h2⟩, h3⟩ => ⟨⟨ad, A', c', e, hl, hc, h1.below hb, FoOk.below hb a A' 0 h2⟩, FoOk.below hb n A (i + 1) h3⟩
theorem FoOk.turns {w w1 : World} {g : Nat} {ok : Nat → Prop} (ht : Turns g w w1) (ho : ¬ ok g) : ∀ (a : Fo) (A : Option Addr) (i : Nat), FoOk w ok A i a → FoOk w1 ok A i a
  | .nil, _, _, _ => trivial
  | .cons _ a n, A, i, ⟨⟨ad, A', c', e, hl, hc, h1, h2⟩, h3⟩ => ⟨⟨ad, A', c', e, hl, hc, h1.turns ht (by rw [add_block]; intro e'; rw [e'] at hl; exact ho hl), FoOk.turns ht ho a A' 0 h2⟩, FoOk.turns ht ho n A (i + 1) h3⟩
/-- A row of two. -/
theorem FoOk.pair {w : World} {ok : Nat → Prop} {A A' : Option Addr} {c c' : Nat} {x y : Lf} {a b : Fo} (hf : FoOk w ok A 0 a) (hc : a.len ≤ c) (hf' : FoOk w ok A' 0 b) (hc' : b.len ≤ c') (hl : ok w.heap.size) :
    FoOk (w.alloc (.cells #[.int .i64 x.k, .int .i64 x.f, .string x.nm, .string x.tx, .complex .f64 x.re x.im, .float .f64 x.rad, .slice A a.len c, .int .i64 y.k, .int .i64 y.f, .string y.nm, .string y.tx, .complex .f64 y.re y.im, .float .f64 y.rad, .slice A' b.len c'] 28)) ok (some ⟨w.heap.size, 0, none⟩) 0 (two x a y b) := by
  have h := alloc_at w (.cells #[.int .i64 x.k, .int .i64 x.f, .string x.nm, .string x.tx, .complex .f64 x.re x.im, .float .f64 x.rad, .slice A a.len c, .int .i64 y.k, .int .i64 y.f, .string y.nm, .string y.tx, .complex .f64 y.re y.im, .float .f64 y.rad, .slice A' b.len c'] 28)
  refine ⟨⟨⟨w.heap.size, 0, none⟩, A, c, rfl, hl, hc, ?_, FoOk.below (alloc_below w _) a A 0 hf⟩, ⟨⟨w.heap.size, 0, none⟩, A', c', rfl, hl, hc', ?_, FoOk.below (alloc_below w _) b A' 0 hf'⟩, trivial⟩
  · show LfAt _ ⟨w.heap.size, 0, none⟩ x _
    unfold LfAt World.cell?
    simp only [h]
    exact ⟨rfl, rfl, rfl, rfl, rfl, rfl, rfl⟩
  · show LfAt _ ⟨w.heap.size, 7, none⟩ y _
    unfold LfAt World.cell?
    simp only [h]
    exact ⟨rfl, rfl, rfl, rfl, rfl, rfl, rfl⟩
/-- A row of two whose node is stored. -/
theorem two_stored {w1 w5 w6 : World} {g lo lo5 : Nat} {A A' : Option Addr} {c c' : Nat} {x y : Lf} {a b : Fo} (f : Int) (hf : FoAt w1 lo A 0 a) (hc : a.len ≤ c) (ht : Turns g w1 w5) (hg : g < lo) (hlo : lo ≤ w1.heap.size) (hf' : FoAt w5 lo5 A' 0 b) (hlo5 : w1.heap.size < lo5) (hc' : b.len ≤ c') (h5 : w1.heap.size < w5.heap.size)
    (hb : Below (w5.alloc (.cells #[.int .i64 x.k, .int .i64 x.f, .string x.nm, .string x.tx, .complex .f64 x.re x.im, .float .f64 x.rad, .slice A a.len c, .int .i64 y.k, .int .i64 y.f, .string y.nm, .string y.tx, .complex .f64 y.re y.im, .float .f64 y.rad, .slice A' b.len c'] 28)).heap.size (w5.alloc (.cells #[.int .i64 x.k, .int .i64 x.f, .string x.nm, .string x.tx, .complex .f64 x.re x.im, .float .f64 x.rad, .slice A a.len c, .int .i64 y.k, .int .i64 y.f, .string y.nm, .string y.tx, .complex .f64 y.re y.im, .float .f64 y.rad, .slice A' b.len c'] 28)) w6) :
    FoAt (st7 w6 w1.heap.size (callL f) (.slice (some ⟨w5.heap.size, 0, none⟩) 2 2)) lo (some ⟨w5.heap.size, 0, none⟩) 0 (two x a y b) := by
  have e1 := FoOk.turns (g := g) ht (by omega) a A 0 (FoAt.toOk a A 0 hf)
  have e2 : FoOk w5 (fun b => lo ≤ b ∧ b ≠ w1.heap.size) A 0 a := FoOk.mono (fun b hb => ⟨hb.1, by omega⟩) a A 0 e1
  have e3 : FoOk w5 (fun b => lo ≤ b ∧ b ≠ w1.heap.size) A' 0 b := FoOk.mono (fun b hb => ⟨by omega, by omega⟩) b A' 0 (FoAt.toOk b A' 0 hf')
  have e4 := FoOk.pair (x := x) (y := y) e2 hc e3 hc' ⟨by omega, by omega⟩
  have e5 := FoOk.below hb _ _ _ e4
  have e6 := FoOk.turns (st7_turns w6 w1.heap.size (callL f) (.slice (some ⟨w5.heap.size, 0, none⟩) 2 2)) (by omega) _ _ _ e5
  exact FoOk.toAt (fun b hb => hb.1) _ _ _ e6
end Go.Proofs.YtinmbcomnjmmjaaGreatDoor
namespace Go.Proofs.YtinmbcomnjmmjaaGreatDoor
open Go.RowKit Go.Proofs.YtinmbcomnjmmjaaGreatDoorW.PrintWords Go.Proofs.YtinmbcomnjmmjaaGreatDoorW.PrintLast Go.Proofs.YtinmbcomnjmmjaaGreatDoorW.PrintMore
open X
/-- The names of the functions 2 to 23, six bytes each. -/
def names6 : List UInt8 := [99, 111, 110, 106, 32, 32, 114, 101, 32, 32, 32, 32, 105, 109, 32, 32, 32, 32, 97, 98, 115, 32, 32, 32, 97, 114, 103, 32, 32, 32, 115, 113, 114, 32, 32, 32, 105, 110, 118, 32, 32, 32, 115, 113, 114, 116, 32, 32, 101, 120, 112, 32, 32, 32, 108, 111, 103, 32, 32, 32, 115, 105, 110, 32, 32, 32, 99, 111, 115, 32, 32, 32, 116, 97, 110, 32, 32, 32, 115, 105, 110, 104, 32, 32, 99, 111, 115, 104, 32, 32, 116, 97, 110, 104, 32, 32, 97, 115, 105, 110, 32, 32, 97, 99, 111, 115, 32, 32, 97, 116, 97, 110, 32, 32, 97, 115, 105, 110, 104, 32, 97, 99, 111, 115, 104, 32, 97, 116, 97, 110, 104, 32]
/-- A text without the blanks at its end. -/
def trimR (l : List UInt8) : List UInt8 := (l.reverse.dropWhile (· == 32)).reverse
/-- The name of function f, from 2 to 23. -/
def name6 (f : Nat) : List UInt8 := trimR ((names6.drop ((f - 2) * 6)).take 6)
theorem name6_f (n : Fin 22) : X.parse_Name.f ((n.val : Int) + 2) = some (⟨(name6 (n.val + 2)).toArray⟩, 1, true) := by
  revert n; decide +kernel
def signs5 : List UInt8 := [43, 45, 42, 47, 94]
theorem signs_f (n : Fin 5) : X.parse_Name.f ((n.val : Int) + 24) = some (⟨((signs5.drop n.val).take 1).toArray⟩, 2, true) := by
  revert n; decide +kernel
theorem one_f : X.parse_Name.f 1 = some (⟨#[45]⟩, 1, true) := by decide +kernel
theorem none_f (f : Int) (h : f < 1 ∨ 29 ≤ f) : X.parse_Name.f f = some (⟨#[]⟩, 0, false) := by
  unfold X.parse_Name.f X.parse_functions.f
  rw [Option.bind_some]
  by_cases h1 : f < 1
  · rw [if_pos h1]
  · rw [if_neg h1, if_pos (by simp; omega)]
/-- The first function from n on whose name it is. -/
def findF (s : List UInt8) : Nat → Nat → Int × Int × Bool
  | 0, _ => (0, 0, false)
  | k + 1, n => if name6 n = s then ((n : Int), 1, true) else findF s k (n + 1)
theorem find_step (s : ByteArray) (k : Nat) (n : Nat) (h : n < 29) : ∀ tl : List X.S83, X.parse_functions.f = some tl →
    X.parse_Find.l0 (k + 1) s tl (tl.length : Int) (n : Int) = if 2 ≤ n ∧ n < 24 then (if name6 n = s.toList then some ((n : Int), 1, true) else X.parse_Find.l0 k s tl (tl.length : Int) ((n + 1 : Nat) : Int)) else X.parse_Find.l0 k s tl (tl.length : Int) ((n + 1 : Nat) : Int) := by
  intro tl htl
  have hlen : tl.length = 29 := by
    have := Option.some.inj htl
    rw [← this]; rfl
  have hw : wrap64 ((n : Int) + 1) = ((n + 1 : Nat) : Int) := by rw [wrap64_id (by omega) (by omega)]; rfl
  have hnm : 2 ≤ n ∧ n < 24 → ((X.rd_T83 tl n).f0).toList = name6 n ∧ (X.rd_T83 tl n).f1 = 1 := by
    intro hn
    have e := Option.some.inj htl
    rw [← e]
    have key : ∀ m : Fin 22, ((X.rd_T83 (X.parse_functions.f.getD []) ((m.val : Int) + 2)).f0).toList = name6 (m.val + 2) ∧ (X.rd_T83 (X.parse_functions.f.getD []) ((m.val : Int) + 2)).f1 = 1 := by decide +kernel
    have := key ⟨n - 2, by omega⟩
    have e2 : n - 2 + 2 = n := by omega
    have e3 : (((n - 2 : Nat) : Int) + 2) = (n : Int) := by omega
    simp only [e2, e3] at this
    exact this
  simp only [X.parse_Find.l0]
  rw [if_pos (by omega), if_pos (by omega), if_pos (by omega), hw]
  by_cases hn : 2 ≤ n ∧ n < 24
  · rw [if_pos (by omega), if_pos (by omega), if_pos hn, (hnm hn).1, (hnm hn).2]
  · rw [if_neg hn]
    by_cases h1 : (n : Int) > 1
    · rw [if_pos h1, if_neg (by omega)]
    · rw [if_neg h1]
theorem find_all (s : ByteArray) : X.parse_Find.f 40 s = some (findF s.toList 22 2) := by
  unfold X.parse_Find.f
  obtain ⟨tl, htl⟩ : ∃ tl, X.parse_functions.f = some tl := ⟨_, rfl⟩
  have hlen : tl.length = 29 := by
    have := Option.some.inj htl
    rw [← this]; rfl
  rw [htl, Option.bind_some]
  have st := fun k n h => find_step s k n h tl htl
  have e29 : ∀ k, X.parse_Find.l0 (k + 1) s tl (tl.length : Int) ((29 : Nat) : Int) = some (0, 0, false) := by
    intro k
    simp only [X.parse_Find.l0]
    rw [if_neg (by omega)]
  have tail : X.parse_Find.l0 16 s tl (tl.length : Int) ((24 : Nat) : Int) = some (0, 0, false) := by
    rw [st 15 24 (by decide), if_neg (by decide), st 14 25 (by decide), if_neg (by decide), st 13 26 (by decide), if_neg (by decide), st 12 27 (by decide), if_neg (by decide), st 11 28 (by decide), if_neg (by decide), e29]
  have mid : ∀ j, j ≤ 22 → X.parse_Find.l0 (j + 16) s tl (tl.length : Int) ((24 - j : Nat) : Int) = some (findF s.toList j (24 - j)) := by
    intro j
    induction j with
    | zero => intro _; exact tail
    | succ j ih =>
      intro hj
      rw [show j + 1 + 16 = (j + 16) + 1 from by omega, st (j + 16) (24 - (j + 1)) (by omega), if_pos (by omega)]
      show _ = some (if name6 (24 - (j + 1)) = s.toList then (((24 - (j + 1) : Nat) : Int), 1, true) else findF s.toList j (24 - (j + 1) + 1))
      rw [show 24 - (j + 1) + 1 = 24 - j from by omega, ih (by omega)]
      split <;> rfl
  rw [show (0 : Int) = ((0 : Nat) : Int) from rfl, st 39 0 (by decide), if_neg (by decide), st 38 1 (by decide), if_neg (by decide)]
  exact mid 22 (by decide)
end Go.Proofs.YtinmbcomnjmmjaaGreatDoor
namespace Go.Proofs.YtinmbcomnjmmjaaGreatDoor
open Go.RowKit Go.Proofs.YtinmbcomnjmmjaaGreatDoorW.PrintWords Go.Proofs.YtinmbcomnjmmjaaGreatDoorW.PrintLast Go.Proofs.YtinmbcomnjmmjaaGreatDoorW.PrintMore
open X
attribute [local go_sem] st_float st_complex
set_option maxHeartbeats 2000000 in
set_option maxRecDepth 100000 in
/-- lex.Number, of a text that is a number of digits alone. -/
theorem lexnumber_calls {w : World} {s : ByteArray} (hm : s.size ≤ 1100) (h : numP s.data.toList = some s.size) (h0 : 0 < s.size) :
    Calls Tryz.prog 94 #[.string s] w fun e w' => e = .returned (.bool true) ∧ Below w.heap.size w w' := by
  have HC := Aside0.mk (number_calls (w := w) (by omega) h)
  have hx1 : decide (0 < (s.size : Int)) = true := decide_eq_true (by omega)
  have hx2 : decide ((s.size : Int) ≤ 1100) = true := decide_eq_true (by omega)
  clear h
  go_enter Tryz.func94, Tryz.ntmps94
  go_wp2_with (go_at_call 90; (with_reducible refine HC.out.mono ?_); rintro e w1 ⟨rfl, hb1⟩; have HB1 := Aside0.mk hb1; clear hb1)
  go_ret
  exact ⟨rfl, HB1.out⟩
end Go.Proofs.YtinmbcomnjmmjaaGreatDoor
namespace Go.Proofs.YtinmbcomnjmmjaaGreatDoor
open Go.RowKit Go.Proofs.YtinmbcomnjmmjaaGreatDoorW.PrintWords Go.Proofs.YtinmbcomnjmmjaaGreatDoorW.PrintLast Go.Proofs.YtinmbcomnjmmjaaGreatDoorW.PrintMore
open X
attribute [local go_sem] st_float st_complex
set_option maxHeartbeats 2000000 in
set_option maxRecDepth 100000 in
theorem idle63 (pn pb : Addr) (w : World) :
    CallsD Tryz.prog 63 #[.pointer (some pn), .pointer (some pb)] .returning w fun e u' w' => e = .returned (.tuple #[]) ∧ u' = .returning ∧ w' = w := by
  refine callsD_of_wpS Tryz.func63 rfl fun c₀ cs hu => ?_
  apply wpS_seq
  apply wpS_region
  simp [wpOpsS, go_sem, recoverD, hu, Tryz.ntmps63, Exit.thenS]
  refine wpS_of_wp ?_
  go_wp2_with fail
  cases c₀
  simp_all [bodyPostS, results, Tryz.results63]
set_option maxHeartbeats 2000000 in
set_option maxRecDepth 100000 in
theorem catch63 (gn gb : Nat) (x0 : Lf) (v0 : Value) (pb0 : Option Addr) (er z : Int) (w : World) (hL : LfBlk w gn x0 v0) (hb : w.heap[gb]? = some (.cells #[.pointer pb0] 63 (0, 0))) (hne : gb ≠ gn) :
    CallsD Tryz.prog 63 #[.pointer (some ⟨gn, 0, none⟩), .pointer (some ⟨gb, 0, none⟩)] (.panicking [{ v := .iface 70 (.agg #[.int .i64 er, .int .i64 z]), recovered := false }]) w fun e u' w' =>
      e = .returned (.tuple #[]) ∧ u' = .panicking [{ v := .iface 70 (.agg #[.int .i64 er, .int .i64 z]), recovered := true }] ∧ w' = (st7 (w.alloc (.cells #[.int .i64 er, .int .i64 z] 70)) gn ⟨0, 0, ⟨#[]⟩, ⟨#[]⟩, 0, 0, 0⟩ (.slice none 0 0)).setCell ⟨gb, 0, none⟩ (.pointer (some ⟨w.heap.size, 0, none⟩)) := by
  have hb1 := alloc_below w (.cells #[.int .i64 er, .int .i64 z] 70)
  obtain ⟨c0, c1, c2, c3, c4, c5, c6⟩ := (hL.below hb1).cells
  obtain ⟨f0, f1, f2, f3, f4, f5, f6⟩ := (hL.below hb1).frozen
  have hbb := (hb1.block gb (blk_lt hb)).trans hb
  have d0 : (w.alloc (.cells #[.int .i64 er, .int .i64 z] 70)).cell? ⟨gb, 0, none⟩ = some (.pointer pb0) := by
    unfold World.cell?; simp only [hbb]; rfl
  have g0 := blk_frozen hbb 0
  have hsz := alloc_size w (.cells #[.int .i64 er, .int .i64 z] 70)
  clear hL hb hb1 hbb
  refine callsD_of_wpS Tryz.func63 rfl fun c₀ cs hu => ?_
  apply wpS_seq
  apply wpS_region
  simp [wpOpsS, go_sem, recoverD, hu, Tryz.ntmps63, Exit.thenS]
  refine wpS_of_wp ?_
  have hta : ∀ w : World, (Instr.typeAssert (.iface 70 (.agg #[.int .i64 er, .int .i64 z])) 20 70 true).run Tryz.prog w = .ok (.tuple #[.agg #[.int .i64 er, .int .i64 z], .bool true]) w := fun w => by kernel_rfl
  rw [show Array.replicate 10 undef = #[undef, undef, undef, undef, undef, undef, undef, undef, undef, undef] from rfl]
  simp only [List.append_toArray, List.setIfInBounds_toArray, List.set_cons_zero, List.set_cons_succ, List.cons_append, List.nil_append]
  go_wp2_with fail
  cases c₀
  simp [bodyPostS, results, Tryz.results63, st7]
end Go.Proofs.YtinmbcomnjmmjaaGreatDoor
namespace Go.Proofs.YtinmbcomnjmmjaaGreatDoor
open Go.RowKit Go.Proofs.YtinmbcomnjmmjaaGreatDoorW.PrintWords Go.Proofs.YtinmbcomnjmmjaaGreatDoorW.PrintLast Go.Proofs.YtinmbcomnjmmjaaGreatDoorW.PrintMore
open X
open MapKept
/-- A map of two signs. -/
def MapAt (w : World) (gm : Nat) (c1 : UInt8) (f1 : Int) (c2 : UInt8) (f2 : Int) : Prop := w.heap[gm]? = some (.map #[⟨.string ⟨#[c1]⟩, .int .i64 f1, 0⟩, ⟨.string ⟨#[c2]⟩, .int .i64 f2, 1⟩] 2)
def signOf (c1 : UInt8) (f1 : Int) (c2 : UInt8) (f2 : Int) (s : List UInt8) : Option Int := if s = [c1] then some f1 else if s = [c2] then some f2 else none
theorem MapAt.below {w w1 : World} {gm : Nat} {c1 c2 : UInt8} {f1 f2 : Int} (h : MapAt w gm c1 f1 c2 f2) (hb : Below w.heap.size w w1) : MapAt w1 gm c1 f1 c2 f2 := (hb.block gm (blk_lt h)).trans h
theorem MapAt.turns {w w1 : World} {g gm : Nat} {c1 c2 : UInt8} {f1 f2 : Int} (h : MapAt w gm c1 f1 c2 f2) (ht : Turns g w w1) (hn : gm ≠ g) : MapAt w1 gm c1 f1 c2 f2 := (ht.block (blk_lt h) hn).trans h
theorem beq_text (s : ByteArray) (c : UInt8) : (s == (⟨#[c]⟩ : ByteArray)) = decide (s.data.toList = [c]) := by
  by_cases h : s.data.toList = [c]
  · have e : s = ⟨#[c]⟩ := by
      apply ByteArray.ext
      apply Array.toList_inj.1
      exact h
    rw [decide_eq_true h]
    exact (bytes_beq _ _).2 e
  · rw [decide_eq_false h]
    rcases hb : (s == (⟨#[c]⟩ : ByteArray)) with _ | _
    · rfl
    · exact absurd (by rw [(bytes_beq _ _).1 hb]) h
theorem get_map {w : World} {r : Nat} {es : Array MapEntry} {cl : Nat} (hb : w.heap[r]? = some (.map es cl)) : (getObj r).run Tryz.prog w = .ok (.map es cl) w := by
  simp [getObj, Sem.run, hb]
theorem set_map {w : World} {r : Nat} {es : Array MapEntry} {cl : Nat} (o : Obj) (hb : w.heap[r]? = some (.map es cl)) : (setObj r o).run Tryz.prog w = .ok () { w with heap := w.heap.setIfInBounds r o } := by
  simp [setObj, Sem.run, hb]
theorem look_run {w : World} {gm : Nat} {c1 c2 : UInt8} {f1 f2 : Int} (h : MapAt w gm c1 f1 c2 f2) (s : ByteArray) :
    (Instr.lookup 131 (.map (some gm)) (.string s) true).run Tryz.prog w = .ok (.tuple #[.int .i64 ((signOf c1 f1 c2 f2 s.data.toList).getD 0), .bool (signOf c1 f1 c2 f2 s.data.toList).isSome]) w := by
  have hk := fun e => run_checkKey (P := Tryz.prog) (w := w) (k := .string s) Tryz.underlying9 (by exact trivial) e 9999
  have hz : (zeroValue 3).run Tryz.prog w = .ok (.int .i64 0) w := by kernel_rfl
  have hf : (Instr.findKey 9 (.string s) [⟨.string ⟨#[c1]⟩, .int .i64 f1, 0⟩, ⟨.string ⟨#[c2]⟩, .int .i64 f2, 1⟩]).run Tryz.prog w = .ok (if s.data.toList = [c1] then some (0, .int .i64 f1) else if s.data.toList = [c2] then some (1, .int .i64 f2) else none) w := by
    refine run_findKey Tryz.underlying9 ?_
    simp only [Instr.findNow, Instr.sameNow, beq_text]
    by_cases h1 : s.data.toList = [c1]
    · simp [h1]
    · by_cases h2 : s.data.toList = [c2]
      · have h3 : ¬ c2 = c1 := fun e => h1 (by rw [h2, e])
        simp [h2, h3]
      · simp [h1, h2]
  unfold MapAt at h
  have hg := get_map h
  unfold signOf
  unfold Instr.lookup
  simp only [Sem.run_bind, run_underlying Tryz.underlying131, Result.andThen, hg, Sem.run_pure, hk, hf]
  by_cases h1 : s.data.toList = [c1]
  · simp [h1]
  · by_cases h2 : s.data.toList = [c2]
    · have h3 : ¬ c2 = c1 := fun e => h1 (by rw [h2, e])
      simp [h2, h3]
    · simp [h1, h2, hz, Result.andThen]
/-- A map with one entry more. -/
def mset (w : World) (gm : Nat) (es : Array MapEntry) (cl : Nat) : World := { w with heap := w.heap.setIfInBounds gm (.map es cl) }
theorem mset_at {w : World} {gm : Nat} {o : Obj} (h : w.heap[gm]? = some o) (es : Array MapEntry) (cl : Nat) : (mset w gm es cl).heap[gm]? = some (.map es cl) := by
  have hlt := blk_lt h
  simp [mset, hlt]
theorem mset_turns (w : World) (gm : Nat) (es : Array MapEntry) (cl : Nat) : Turns gm w (mset w gm es cl) :=
  ⟨rfl, rfl, rfl, by simp [mset], fun i _ hn => by
    have : gm ≠ i := fun e => hn (by rw [e])
    simp [mset, this]⟩
theorem upd_run {w : World} {gm cl : Nat} {es : Array MapEntry} {s : ByteArray} {v : Value} (h : w.heap[gm]? = some (.map es cl)) (hn : Instr.findNow .string (.string s) es.toList 0 = some none) :
    (Instr.mapUpdate 131 (.map (some gm)) (.string s) v).run Tryz.prog w = .ok () (mset w gm (es.push ⟨.string s, v, cl⟩) (cl + 1)) := by
  have hk := fun e => run_checkKey (P := Tryz.prog) (w := w) (k := .string s) Tryz.underlying9 (by exact trivial) e 9999
  have hg := get_map h
  have hs := set_map (.map (es.push ⟨.string s, v, cl⟩) (cl + 1)) h
  have hf : (Instr.findKey 9 (.string s) es.toList).run Tryz.prog w = .ok none w := run_findKey Tryz.underlying9 hn
  unfold Instr.mapUpdate
  simp only [Sem.run_bind, run_underlying Tryz.underlying131, Result.andThen, hg, hk, hf, hs]
  rfl
end Go.Proofs.YtinmbcomnjmmjaaGreatDoor
