/- Proved: a part of what the statement on the names of parse needs: walks of functions of the program, and plain laws. (Texts Ex.) -/
import Derived.Test.YtinmbcomnjmmjaaGreatDoorQ42
import Derived.Test.YtinmbcomnjmmjaaGreatDoorQ37
namespace Go.Proofs.YtinmbcomnjmmjaaGreatDoor
open Go.RowKit Go.Proofs.YtinmbcomnjmmjaaGreatDoorW.PrintWords Go.Proofs.YtinmbcomnjmmjaaGreatDoorW.PrintLast Go.Proofs.YtinmbcomnjmmjaaGreatDoorW.PrintMore
open X
attribute [local go_sem] st_float st_complex field77_0 field77_1 field77_2
theorem findF_one (s : List UInt8) : ∀ (k n : Nat) (a b : Int) (c : Bool), findF s k n = (a, b, c) → c = true → b = 1
  | 0, _, _, _, _, h, e => by simp [findF] at h; simp_all
  | k + 1, n, a, b, c, h, e => by
    unfold findF at h
    split at h
    · simp at h; exact h.2.1.symm
    · exact findF_one s k (n + 1) a b c h e
theorem info28 : (Tryz.prog.info? 28).map (fun i => (i.zero, i.size, i.bytes)) = some (some (.agg #[.int .i64 0, .int .i64 0, .string ⟨#[]⟩, .string ⟨#[]⟩, .complex .f64 0 0, .float .f64 0, .slice none 0 0]), 7, 96) := by kernel_rfl
/-- A walk's end; the result's block is another. -/
theorem OutP.fin2 {fn : Func} {p : Tmp} {a : Act} {w w2 : World} {g B lo c q op gb : Nat} {xs : List S77} {x0 y : Lf} {v0 : Value} {A : Option Addr} {b : Fo} (hbl : LfBlk w2 gb x0 v0) (hgb : w.heap.size ≤ gb) (hlo : gb < lo) (hc : b.len ≤ c) (hf : FoAt w2 lo A 0 b) (hr : RdAt w2 g B xs q op) (hB : B ≤ w.heap.size) (ht : Turns g w w2)
    (h1 : fn.results = #[.cell p 28]) (h2 : a.tmps.getD p undef = .pointer (some ⟨gb, 0, none⟩)) (h3 : a.defers = []) :
    bodyPost Tryz.prog fn (OutP w g B xs op (.ok y b q)) .ret a (st7 w2 gb y (.slice A b.len c)) :=
  node_ret (hbl.st y _) h1 h2 h3 ⟨_, rfl, ⟨A, c, rfl, hc, FoAt.mono (by omega) b A 0 (FoAt.turns (st7_turns _ _ _ _) hlo b A 0 hf)⟩, hr.turns (st7_turns _ _ _ _) (by omega), ht.new hgb (st7_turns _ _ _ _)⟩
theorem owns_one {w : World} {base : Nat} (hb : base ≤ w.heap.size) (cs : Array Value) (hc : cs.size = 7) : (w.alloc (.cells cs 28)).ownsRow base 28 7 (.slice (some ⟨w.heap.size, 0, none⟩) 1 1) 1 cs.toList :=
  ⟨by simp [hc], Or.inr ⟨w.heap.size, 1, cs, rfl, hb, alloc_at w _, Nat.le_refl _, by decide, by simp [hc], by rw [List.take_of_length_le (by simp [hc])]⟩⟩
theorem owns_below {w w1 : World} {base e s n : Nat} {v : Value} {xs : List Value} (h : w.ownsRow base e s v n xs) (hb : Below w.heap.size w w1) : w1.ownsRow base e s v n xs := by
  obtain ⟨h0, h1⟩ := h
  refine ⟨h0, ?_⟩
  rcases h1 with h1 | ⟨g, cap, cur, a, b, c, d⟩
  · exact Or.inl h1
  · exact Or.inr ⟨g, cap, cur, a, b, (hb.block g (blk_lt c)).trans c, d⟩
theorem owns_turns {w w1 : World} {base e s n g : Nat} {v : Value} {xs : List Value} (h : w.ownsRow base e s v n xs) (ht : Turns g w w1) (hg : g < base) : w1.ownsRow base e s v n xs := by
  obtain ⟨h0, h1⟩ := h
  refine ⟨h0, ?_⟩
  rcases h1 with h1 | ⟨g', cap, cur, a, b, c, d⟩
  · exact Or.inl h1
  · exact Or.inr ⟨g', cap, cur, a, b, (ht.block (blk_lt c) (by omega)).trans c, d⟩
theorem cell_low {w w1 : World} {base : Nat} {a : Addr} {v : Value} (hc : w.cell? a = some v) (hb : Below base w w1) (hn : a.block < base) : w1.cell? a = some v := by
  have := hb.block a.block hn
  unfold World.cell? at hc ⊢
  rw [this]; exact hc
theorem RdAt.low {w w1 : World} {g B base : Nat} {xs : List S77} {p op : Nat} (h : RdAt w g B xs p op) (hb : Below base w w1) (hB : B ≤ base) : RdAt w1 g B xs p op := by
  obtain ⟨A, c, h0, h1, h2, h3, hgB, h4, h5, h6, h7, h8⟩ := h
  refine ⟨A, c, (hb.block g (by omega)).trans h0, fun hn => ?_, h2, h3, hgB, fun j hj => cell_low (h4 j hj) hb (by show 2 < base; omega), h5, h6, h7, h8⟩
  obtain ⟨ad, e, h9⟩ := h1 hn
  have hlt : ad.block < base := by have := (h2 ad e).2; omega
  refine ⟨ad, e, fun i t hi => ?_⟩
  obtain ⟨a0, a1, a2⟩ := h9 i t hi
  have hlt' : (ad.add (i * 3)).block < base := by rw [add_block]; exact hlt
  exact ⟨cell_low a0 hb hlt', cell_low a1 hb hlt', cell_low a2 hb hlt'⟩
theorem Turns.low {w W w1 : World} {g base : Nat} (h : Turns g w W) (hb : Below base W w1) (hl : w.heap.size ≤ base) : Turns g w w1 :=
  ⟨hb.os.trans (World.grownBy.os h), hb.tape.trans (World.grownBy.tape h), hb.output.trans (World.grownBy.output h), Nat.le_trans h.size hb.size, fun i hi hn => (hb.block i (by omega)).trans (World.grownBy.block h i hi hn)⟩
set_option maxHeartbeats 8000000 in
set_option maxRecDepth 100000 in
/-- (*reader).named. -/
theorem named_step {xs : List S77} {k : Nat} (hkb : k ≤ 1000000) (ihs : RdC xs k .sum 64) : NamedC xs (k + 1) := by
  intro w g B p op o t hr ho hB ht h
  have HL0 := Aside0.mk (LfBlk.new (w.alloc (.cells #[.int .i64 t.f0, .string t.f1, .int .i64 t.f2] 77)) zL (.slice none 0 0))
  have hb0 := below_step (alloc_below w (.cells #[.int .i64 t.f0, .string t.f1, .int .i64 t.f2] 77)) (alloc_below _ (.cells #[.int .i64 zL.k, .int .i64 zL.f, .string zL.nm, .string zL.tx, .complex .f64 zL.re zL.im, .float .f64 zL.rad, .slice none 0 0] 28))
  have HT0 := Aside0.mk (Turns.of_below (g := g) hb0)
  have HR0 := Aside0.mk (hr.below hb0)
  have HK0 := Aside0.mk (blk_alloc (alloc_at w (.cells #[.int .i64 t.f0, .string t.f1, .int .i64 t.f2] 77)) (.cells #[.int .i64 zL.k, .int .i64 zL.f, .string zL.nm, .string zL.tx, .complex .f64 zL.re zL.im, .float .f64 zL.rad, .slice none 0 0] 28))
  have hsz := alloc_size (w.alloc (.cells #[.int .i64 t.f0, .string t.f1, .int .i64 t.f2] 77)) (.cells #[.int .i64 zL.k, .int .i64 zL.f, .string zL.nm, .string zL.tx, .complex .f64 zL.re zL.im, .float .f64 zL.rad, .slice none 0 0] 28)
  rw [alloc_size w (.cells #[.int .i64 t.f0, .string t.f1, .int .i64 t.f2] 77)] at hsz HL0
  have hgl := hr.lt
  have HB := Aside0.mk hB
  have HO := Aside0.mk ho
  have hp := lt_of_some ht
  have HP : Aside0 (p + 1 ≤ xs.length) := ⟨hp⟩
  have hql : xs.length ≤ 65536 := by obtain ⟨A, c, h0, h1, h2, h3, hB, h4, h5, h6, h7, h8⟩ := hr; omega
  have HTK := Aside0.mk ht
  clear hr ho hb0
  simp only [rdF] at h
  rw [ht] at h
  simp only [find_all] at h
  obtain ⟨f, many, is, hfd⟩ : ∃ f many is, findF t.f1.toList 22 2 = (f, many, is) := ⟨_, _, _, rfl⟩
  have hmany : is = true → many = 1 := fun e => findF_one _ _ _ _ _ _ hfd e
  have HFD : Aside0 (X.parse_Find.f 40 t.f1 = some (f, many, is)) := ⟨by rw [find_all, hfd]⟩
  rw [hfd] at h
  simp only at h
  clear hfd ht
  unfold zL noText at *
  generalize hwa : (w.alloc (.cells #[.int .i64 t.f0, .string t.f1, .int .i64 t.f2] 77)).alloc (.cells _ 28) = w0 at *
  have HBB : Aside0 (B ≤ w0.heap.size) := ⟨by omega⟩
  obtain ⟨t0, t1, t2⟩ := blk3 HK0.out
  clear hB
  rcases hi : isF xs (p + 1) [40] with _ | b
  · rw [hi] at h; cases h
  · rw [hi] at h
    have HI40 : Aside0 (isF xs (p + 1) (⟨#[40]⟩ : ByteArray).data.toList = some b) := ⟨hi⟩
    have hpp := isF_lt hi
    clear hi
    rcases b with _ | _
    · simp only at h
      rcases is with _ | _
      · simp only [Bool.false_eq_true, if_false] at h
        obtain rfl := Option.some.inj h
        clear h
        go_enter Tryz.func212, Tryz.ntmps212
        go_upto_region 2 with (go_at_call 14; (with_reducible refine (X.parse_Find.calls 40 _ _ _ _ _ HFD.out).mono ?_); rintro e w1 ⟨rfl, hb1⟩; have hs1 := hb1.size; have HR1 := Aside0.mk (HR0.out.below hb1); have HT1 := Aside0.mk (HT0.out.then_below hb1); have HL1 := Aside0.mk (HL0.out.below hb1); have HK1 := Aside0.mk (blk_below HK0.out hb1); obtain ⟨A9, c9, hk9, _⟩ := id HR1.out; obtain ⟨k0, k1, k2⟩ := blk3 hk9; have hfr := blk_frozen hk9; have gf := hfr 1; clear hk9 hfr; clear hb1)
        go_upto_region 3 with (fail)
        have ht2 := setCell_turns w1 g 1 (.int .i64 ((p : Int) + 1))
        have HR2 := Aside0.mk (HR1.out.step HP.out)
        have hs2 := ht2.size; have HT2 := Aside0.mk (HT1.out.trans ht2); have HL2 := Aside0.mk (HL1.out.turns ht2 (by omega)); have HK2 := Aside0.mk ((ht2.block (Nat.lt_of_lt_of_le (show w.heap.size < w0.heap.size by omega) (by omega)) (by omega)).trans HK1.out); clear ht2 k0 k1 k2 gf t0 t1 t2
        generalize w1.setCell ⟨g, 1, none⟩ (.int .i64 ((p : Int) + 1)) = w2 at *
        go_wp2_with (go_at_call 136; (with_reducible refine (is_calls HR2.out HI40.out).mono ?_); rintro e w3 ⟨rfl, hb3⟩; have hs3 := hb3.size; have HR3 := Aside0.mk (HR2.out.below hb3); have HT3 := Aside0.mk (HT2.out.then_below hb3); have HL3 := Aside0.mk (HL2.out.below hb3); have HK3 := Aside0.mk (blk_below HK2.out hb3); obtain ⟨t0, t1, t2⟩ := blk3 HK3.out; obtain ⟨l0, l1, l2, l3, l4, l5, l6⟩ := HL3.out.cells; obtain ⟨f0, f1, f2, f3, f4, f5, f6⟩ := HL3.out.frozen; clear hb3)
        exact OutP.fin2 (y := nameL t.f1) (b := .nil) (A := none) (c := 0) (lo := w.heap.size + 2) HL3.out (by omega) (by omega) (Nat.le_refl _) trivial HR3.out HB.out HT3.out rfl rfl rfl
      · simp only [if_true] at h
        obtain rfl := Option.some.inj h
        clear h
        go_enter Tryz.func212, Tryz.ntmps212
        go_upto_region 2 with (go_at_call 14; (with_reducible refine (X.parse_Find.calls 40 _ _ _ _ _ HFD.out).mono ?_); rintro e w1 ⟨rfl, hb1⟩; have hs1 := hb1.size; have HR1 := Aside0.mk (HR0.out.below hb1); have HT1 := Aside0.mk (HT0.out.then_below hb1); have HL1 := Aside0.mk (HL0.out.below hb1); have HK1 := Aside0.mk (blk_below HK0.out hb1); obtain ⟨A9, c9, hk9, _⟩ := id HR1.out; obtain ⟨k0, k1, k2⟩ := blk3 hk9; have hfr := blk_frozen hk9; have gf := hfr 1; clear hk9 hfr; clear hb1)
        go_upto_region 3 with (fail)
        have ht2 := setCell_turns w1 g 1 (.int .i64 ((p : Int) + 1))
        have HR2 := Aside0.mk (HR1.out.step HP.out)
        have hs2 := ht2.size; have HT2 := Aside0.mk (HT1.out.trans ht2); have HL2 := Aside0.mk (HL1.out.turns ht2 (by omega)); have HK2 := Aside0.mk ((ht2.block (Nat.lt_of_lt_of_le (show w.heap.size < w0.heap.size by omega) (by omega)) (by omega)).trans HK1.out); clear ht2 k0 k1 k2 gf t0 t1 t2
        generalize w1.setCell ⟨g, 1, none⟩ (.int .i64 ((p : Int) + 1)) = w2 at *
        go_wp2_with (go_at_call 136; (with_reducible refine (is_calls HR2.out HI40.out).mono ?_); rintro e w3 ⟨rfl, hb3⟩; have hs3 := hb3.size; have HR3 := Aside0.mk (HR2.out.below hb3); have HT3 := Aside0.mk (HT2.out.then_below hb3); have HL3 := Aside0.mk (HL2.out.below hb3); have HK3 := Aside0.mk (blk_below HK2.out hb3); obtain ⟨t0, t1, t2⟩ := blk3 HK3.out; clear hb3)
        exact ⟨rfl, rfl, HT3.out⟩
    · simp only at h
      rcases is with _ | _
      · simp only [Bool.false_eq_true, if_false] at h
        obtain rfl := Option.some.inj h
        clear h
        go_enter Tryz.func212, Tryz.ntmps212
        go_upto_region 2 with (go_at_call 14; (with_reducible refine (X.parse_Find.calls 40 _ _ _ _ _ HFD.out).mono ?_); rintro e w1 ⟨rfl, hb1⟩; have hs1 := hb1.size; have HR1 := Aside0.mk (HR0.out.below hb1); have HT1 := Aside0.mk (HT0.out.then_below hb1); have HL1 := Aside0.mk (HL0.out.below hb1); have HK1 := Aside0.mk (blk_below HK0.out hb1); obtain ⟨A9, c9, hk9, _⟩ := id HR1.out; obtain ⟨k0, k1, k2⟩ := blk3 hk9; have hfr := blk_frozen hk9; have gf := hfr 1; clear hk9 hfr; clear hb1)
        go_upto_region 3 with (fail)
        have ht2 := setCell_turns w1 g 1 (.int .i64 ((p : Int) + 1))
        have HR2 := Aside0.mk (HR1.out.step HP.out)
        have hs2 := ht2.size; have HT2 := Aside0.mk (HT1.out.trans ht2); have HL2 := Aside0.mk (HL1.out.turns ht2 (by omega)); have HK2 := Aside0.mk ((ht2.block (Nat.lt_of_lt_of_le (show w.heap.size < w0.heap.size by omega) (by omega)) (by omega)).trans HK1.out); clear ht2 k0 k1 k2 gf t0 t1 t2
        generalize w1.setCell ⟨g, 1, none⟩ (.int .i64 ((p : Int) + 1)) = w2 at *
        go_wp2_with (go_at_call 136; (with_reducible refine (is_calls HR2.out HI40.out).mono ?_); rintro e w3 ⟨rfl, hb3⟩; have hs3 := hb3.size; have HR3 := Aside0.mk (HR2.out.below hb3); have HT3 := Aside0.mk (HT2.out.then_below hb3); have HL3 := Aside0.mk (HL2.out.below hb3); have HK3 := Aside0.mk (blk_below HK2.out hb3); obtain ⟨t0, t1, t2⟩ := blk3 HK3.out; clear hb3)
        exact ⟨rfl, rfl, HT3.out⟩
      · simp only [if_true, deepF] at h
        have hm1 := hmany rfl
        subst hm1
        have HPP : Aside0 (p + 1 < xs.length) := ⟨hpp⟩
        by_cases hd : 256 < op + 1
        · rw [if_pos hd] at h
          rcases htk : xs[p + 1]? with _ | u
          · rw [htk] at h; cases h
          · rw [htk] at h
            simp only [Option.map_some] at h
            obtain rfl := Option.some.inj h
            have HTK := Aside0.mk htk
            have HQ : Aside0 (op = 256) := ⟨by have := HO.out; omega⟩
            clear h htk
            go_enter Tryz.func212, Tryz.ntmps212
            go_upto_region 2 with (go_at_call 14; (with_reducible refine (X.parse_Find.calls 40 _ _ _ _ _ HFD.out).mono ?_); rintro e w1 ⟨rfl, hb1⟩; have hs1 := hb1.size; have HR1 := Aside0.mk (HR0.out.below hb1); have HT1 := Aside0.mk (HT0.out.then_below hb1); have HL1 := Aside0.mk (HL0.out.below hb1); have HK1 := Aside0.mk (blk_below HK0.out hb1); obtain ⟨A9, c9, hk9, _⟩ := id HR1.out; obtain ⟨k0, k1, k2⟩ := blk3 hk9; have hfr := blk_frozen hk9; have gf := hfr 1; clear hk9 hfr; clear hb1)
            go_upto_region 3 with (fail)
            have ht2 := setCell_turns w1 g 1 (.int .i64 ((p : Int) + 1))
            have HR2 := Aside0.mk (HR1.out.step HP.out)
            have hs2 := ht2.size; have HT2 := Aside0.mk (HT1.out.trans ht2); have HL2 := Aside0.mk (HL1.out.turns ht2 (by omega)); have HK2 := Aside0.mk ((ht2.block (Nat.lt_of_lt_of_le (show w.heap.size < w0.heap.size by omega) (by omega)) (by omega)).trans HK1.out); clear ht2 k0 k1 k2 gf t0 t1 t2
            generalize w1.setCell ⟨g, 1, none⟩ (.int .i64 ((p : Int) + 1)) = w2 at *
            go_wp2_with (first
              | (go_at_call 136; (with_reducible refine (is_calls HR2.out HI40.out).mono ?_); rintro e w3 ⟨rfl, hb3⟩; have hs3 := hb3.size; have HR3 := Aside0.mk (HR2.out.below hb3); have HT3 := Aside0.mk (HT2.out.then_below hb3); have HL3 := Aside0.mk (HL2.out.below hb3); have HK3 := Aside0.mk (blk_below HK2.out hb3); obtain ⟨t0, t1, t2⟩ := blk3 HK3.out; clear hb3)
              | (go_at_call 138; (with_reducible refine (deeper_bad HR3.out HTK.out HQ.out).mono ?_); rintro e w4 ⟨rfl, ht4⟩; have HT4 := Aside0.mk (HT3.out.trans ht4); clear ht4))
            exact ⟨rfl, rfl, HT4.out⟩
        · rw [if_neg hd, if_pos hpp] at h
          have HQ : Aside0 (op + 1 ≤ 256) := ⟨by omega⟩
          rcases hm : rdF xs k .sum (op + 1) (p + 2) with _ | ⟨x, a, q⟩ | ⟨er, z⟩
          · rw [hm] at h; cases h
          · rw [hm] at h
            have HH := Aside0.mk hm
            simp only at h
            rcases hargs : argsL (rdF xs k .sum (op + 1)) xs k (.cons x a .nil) q with _ | res
            · rw [hargs] at h; cases h
            · rw [hargs] at h
              have HAR := Aside0.mk hargs
              have HFIN := Aside0.mk h
              clear h hargs hm hd
              go_enter Tryz.func212, Tryz.ntmps212
              go_upto_region 2 with (go_at_call 14; (with_reducible refine (X.parse_Find.calls 40 _ _ _ _ _ HFD.out).mono ?_); rintro e w1 ⟨rfl, hb1⟩; have hs1 := hb1.size; have HR1 := Aside0.mk (HR0.out.below hb1); have HT1 := Aside0.mk (HT0.out.then_below hb1); have HL1 := Aside0.mk (HL0.out.below hb1); have HK1 := Aside0.mk (blk_below HK0.out hb1); obtain ⟨A9, c9, hk9, _⟩ := id HR1.out; obtain ⟨k0, k1, k2⟩ := blk3 hk9; have hfr := blk_frozen hk9; have gf := hfr 1; clear hk9 hfr; clear hb1)
              go_upto_region 3 with (fail)
              have ht2 := setCell_turns w1 g 1 (.int .i64 ((p : Int) + 1))
              have HR2 := Aside0.mk (HR1.out.step HP.out)
              have hs2 := ht2.size; have HT2 := Aside0.mk (HT1.out.trans ht2); have HL2 := Aside0.mk (HL1.out.turns ht2 (by omega)); have HK2 := Aside0.mk ((ht2.block (Nat.lt_of_lt_of_le (show w.heap.size < w0.heap.size by omega) (by omega)) (by omega)).trans HK1.out); clear ht2 k0 k1 k2 gf t0 t1 t2
              generalize w1.setCell ⟨g, 1, none⟩ (.int .i64 ((p : Int) + 1)) = w2 at *
              go_wp2_with (first
                | (go_at_call 136; (with_reducible refine (is_calls HR2.out HI40.out).mono ?_); rintro e w3 ⟨rfl, hb3⟩; have hs3 := hb3.size; have HR3 := Aside0.mk (HR2.out.below hb3); have HT3 := Aside0.mk (HT2.out.then_below hb3); have HL3 := Aside0.mk (HL2.out.below hb3); have HK3 := Aside0.mk (blk_below HK2.out hb3); obtain ⟨t0, t1, t2⟩ := blk3 HK3.out; clear hb3)
                | (go_at_call 138; (with_reducible refine (deeper_ok HR3.out HPP.out HQ.out).mono ?_); rintro e w4 ⟨rfl, hr4, ht4⟩; have HR4 := Aside0.mk hr4; have hs4 := ht4.size; have HT4 := Aside0.mk (HT3.out.trans ht4); have HL4 := Aside0.mk (HL3.out.turns ht4 (by omega)); have HK4 := Aside0.mk ((ht4.block (Nat.lt_of_lt_of_le (show w.heap.size < w0.heap.size by omega) (by omega)) (by omega)).trans HK3.out); clear hr4 ht4)
                | (go_at_call 64; (with_reducible refine (ihs.ok HR4.out HQ.out (Nat.le_trans HBB.out (by omega)) HH.out).mono ?_); rintro e w5 ⟨A5, c5, rfl, hc5, hf5, hr5, ht5⟩; have HC5 := Aside0.mk hc5; have HF5 := Aside0.mk hf5; have HR5 := Aside0.mk hr5; have hs5 := ht5.size; have HT5 := Aside0.mk (HT4.out.trans ht5); have HL5 := Aside0.mk (HL4.out.turns ht5 (by omega)); have HK5 := Aside0.mk ((ht5.block (Nat.lt_of_lt_of_le (show w.heap.size < w0.heap.size by omega) (by omega)) (by omega)).trans HK4.out); clear hc5 hf5 hr5 ht5))
              have hb6 := alloc_below w5 (.cells #[.int .i64 x.k, .int .i64 x.f, .string x.nm, .string x.tx, .complex .f64 x.re x.im, .float .f64 x.rad, .slice A5 a.len c5] 28)
              have hz6 := alloc_size w5 (.cells #[.int .i64 x.k, .int .i64 x.f, .string x.nm, .string x.tx, .complex .f64 x.re x.im, .float .f64 x.rad, .slice A5 a.len c5] 28)
              have HR6 := Aside0.mk (HR5.out.below hb6); have HT6 := Aside0.mk (HT5.out.then_below hb6); have HL6 := Aside0.mk (HL5.out.below hb6); have HK6 := Aside0.mk (blk_below HK5.out hb6)
              have HW6 : Aside0 (∃ inner, (w5.alloc (.cells #[.int .i64 x.k, .int .i64 x.f, .string x.nm, .string x.tx, .complex .f64 x.re x.im, .float .f64 x.rad, .slice A5 a.len c5] 28)).ownsRow w0.heap.size 28 7 (.slice (some ⟨w5.heap.size, 0, none⟩) 1 1) 1 inner) := ⟨_, owns_one (by omega) #[.int .i64 x.k, .int .i64 x.f, .string x.nm, .string x.tx, .complex .f64 x.re x.im, .float .f64 x.rad, .slice A5 a.len c5] rfl⟩
              have HF6 := Aside0.mk (FoAt.mono (lo' := w0.heap.size) (by omega) _ _ _ (FoAt.one (y := x) HF5.out HC5.out (by omega)))
              have hlen1 : (Fo.cons x a .nil).len = 1 := rfl
              clear hb6
              generalize w5.alloc (.cells #[.int .i64 x.k, .int .i64 x.f, .string x.nm, .string x.tx, .complex .f64 x.re x.im, .float .f64 x.rad, .slice A5 a.len c5] 28) = w6 at *
              go_loopg [8] k (fun kq v8 wr => ∃ (l : Fo) (q : Nat) (A : Option Addr) (c : Nat), v8 = .slice A l.len c ∧ Aside0 (argsL (rdF xs k .sum (op + 1)) xs kq l q = some res) ∧ Aside0 (∃ inner, wr.ownsRow w0.heap.size 28 7 (.slice A l.len c) l.len inner) ∧ Aside0 (l.len = 1 → FoAt wr w0.heap.size A 0 l) ∧ l.len ≤ c ∧ Aside0 (RdAt wr g B xs q (op + 1)) ∧ Aside0 (Turns g w wr) ∧ Aside0 (LfBlk wr (w.heap.size + 1) ⟨0, 0, ⟨#[]⟩, ⟨#[]⟩, 0, 0, 0⟩ (.slice none 0 0)) ∧ Aside0 (wr.heap[w.heap.size]? = some (.cells #[.int .i64 t.f0, .string t.f1, .int .i64 t.f2] 77 (0, 0))) ∧ Aside0 (1 ≤ l.len ∧ l.len + kq ≤ k + 1) ∧ w0.heap.size ≤ wr.heap.size)
              case atStart => exact ⟨.cons x a .nil, q, some ⟨w5.heap.size, 0, none⟩, 1, rfl, HAR, HW6, ⟨fun _ => HF6.out⟩, Nat.le_refl _, HR6, HT6, HL6, HK6, ⟨Nat.le_refl _, by show 1 + k ≤ k + 1; omega⟩, by omega⟩
              case round =>
                clear HR6 HT6 HL6 HK6 HW6 HF6 HAR
                clear HR0 HT0 HL0 HK0 HR1 HT1 HL1 HK1 HR2 HT2 HL2 HK2 HR3 HT3 HL3 HK3 HR4 HT4 HL4 HK4 HR5 HT5 HL5 HK5 HF5 HC5
                obtain ⟨l, q, A, c, rfl, HA, HWX, HF7, hlc, HR7, HT7, HL7, HK7, HLN, hs7⟩ := hrel
                obtain ⟨inner, hinner⟩ := HWX.out
                have HW7 := Aside0.mk hinner
                clear HWX hinner
                have hln := HLN.out
                cases gk with
                | zero => exact absurd HA.out (by simp [argsL])
                | succ K2 =>
                  have h := HA.out
                  clear HA
                  simp only [argsL] at h
                  rcases hi : isF xs q [44] with _ | bb
                  · rw [hi] at h; cases h
                  · rw [hi] at h
                    have HI44 : Aside0 (isF xs q (⟨#[44]⟩ : ByteArray).data.toList = some bb) := ⟨hi⟩
                    have hqx := isF_lt hi
                    clear hi
                    rcases bb with _ | _
                    · obtain rfl := Option.some.inj h
                      clear h
                      have h := HFIN.out
                      clear HFIN
                      simp only [takeF] at h
                      rcases htq : xs[q]? with _ | u
                      · rw [htq] at h; cases h
                      · rw [htq] at h
                        simp only at h
                        have hi41 : isF xs q [41] = some (decide (u.f0 = 3) && decide (u.f1.data.toList = [41])) := by unfold isF; rw [htq]; rfl
                        have HUK := Aside0.mk htq
                        by_cases hy41 : (decide (u.f0 = 3) && decide (u.f1.data.toList = [41])) = true
                        · rw [if_pos hy41] at h
                          have HI41 : Aside0 (isF xs q (⟨#[41]⟩ : ByteArray).data.toList = some true) := ⟨by rw [← hy41]; exact hi41⟩
                          simp only at h
                          have HFN := Aside0.mk h
                          clear hi41 hy41 htq h
                          go_upto_region 15 with (first
                            | (go_at_call 136; (with_reducible refine (is_calls HR7.out HI44.out).mono ?_); rintro e w8 ⟨rfl, hb8⟩; have hs8 := hb8.size; have HR8 := Aside0.mk (HR7.out.below hb8); have HT8 := Aside0.mk (HT7.out.then_below hb8); have HL8 := Aside0.mk (HL7.out.below hb8); have HK8 := Aside0.mk (blk_below HK7.out hb8); obtain ⟨t0, t1, t2⟩ := blk3 HK8.out; have HF8 := Aside0.mk (fun e1 => FoAt.below hb8 _ _ _ (HF7.out e1)); have HW8 := Aside0.mk (owns_below HW7.out hb8); clear hb8)
                            | (go_at_call 214; (with_reducible refine (take_ok HR8.out HI41.out).mono ?_); rintro e w9 ⟨rfl, hr9, ht9⟩; have HR9 := Aside0.mk hr9; have hs9 := ht9.size; have HT9 := Aside0.mk (HT8.out.trans ht9); have HL9 := Aside0.mk (HL8.out.turns ht9 (by omega)); have HK9 := Aside0.mk ((ht9.block (Nat.lt_of_lt_of_le (show w.heap.size < w0.heap.size by omega) (by omega)) (by omega)).trans HK8.out); have HF9 := Aside0.mk (fun e1 => FoAt.turns ht9 (by omega) _ _ _ (HF8.out e1)); clear hr9 ht9))
                          obtain ⟨A8, c8, hk9, _⟩ := id HR9.out; obtain ⟨k0, k1, k2⟩ := blk3 hk9; have hfr := blk_frozen hk9; have gf := hfr 2; clear hk9 hfr; 
                          go_upto_region 16 with (fail)
                          have ht10 := setCell_turns w9 g 2 (.int .i64 (op : Int))
                          have HR10 := Aside0.mk (HR9.out.open' (q := op) (z := (op : Int)) (by have := HO.out; omega) rfl)
                          have hs10 := ht10.size; have HT10 := Aside0.mk (HT9.out.trans ht10); have HL10 := Aside0.mk (HL9.out.turns ht10 (by omega)); have HK10 := Aside0.mk ((ht10.block (Nat.lt_of_lt_of_le (show w.heap.size < w0.heap.size by omega) (by omega)) (by omega)).trans HK9.out); 
                          have HF10 := Aside0.mk (fun e1 => FoAt.turns ht10 (by omega) _ _ _ (HF9.out e1))
                          clear ht10 k0 k1 k2 gf
                          generalize w9.setCell ⟨g, 2, none⟩ (.int .i64 (op : Int)) = w10 at *
                          obtain ⟨t0, t1, t2⟩ := blk3 HK10.out; 
                          have h := HFN.out
                          clear HFN
                          by_cases hl1 : (l.len : Int) = 1
                          · rw [if_pos hl1] at h
                            obtain rfl := Option.some.inj h
                            have hl2 : l.len = 1 := by omega
                            have hx1 : ((l.len : Int) == 1) = true := by rw [hl1]; rfl
                            have HF11 := Aside0.mk (HF10.out hl2)
                            have HL2' := Aside0.mk hl2
                            clear h hl1 hl2 HF10 HF9 HF8 HF7
                            go_wp2_with (go_at_call 113; (with_reducible refine (call_calls _ f _ _ _).mono ?_); rintro e w11 ⟨rfl, hb11⟩; have hs11 := hb11.size; have HR11 := Aside0.mk (HR10.out.below hb11); have HT11 := Aside0.mk (HT10.out.then_below hb11); have HL11 := Aside0.mk (HL10.out.below hb11); have HK11 := Aside0.mk (blk_below HK10.out hb11); obtain ⟨l0, l1, l2, l3, l4, l5, l6⟩ := HL11.out.cells; obtain ⟨f0, f1, f2, f3, f4, f5, f6⟩ := HL11.out.frozen; have HF12 := Aside0.mk (FoAt.below hb11 _ _ _ HF11.out); clear hb11)
                            exact OutP.fin2 (y := callL f) HL11.out (by omega) (by omega) hlc HF12.out HR11.out HB.out HT11.out rfl rfl rfl
                          · rw [if_neg hl1] at h
                            obtain rfl := Option.some.inj h
                            have hx1 : ((l.len : Int) == 1) = false := beq_eq_false_iff_ne.2 hl1
                            clear h hl1
                            go_wp2_with fail
                            exact ⟨rfl, rfl, HT10.out⟩
                        · rw [if_neg hy41] at h
                          rw [Bool.not_eq_true] at hy41
                          have HI41 : Aside0 (isF xs q (⟨#[41]⟩ : ByteArray).data.toList = some false) := ⟨by rw [← hy41]; exact hi41⟩
                          obtain rfl := Option.some.inj h
                          clear hi41 hy41 htq h
                          go_wp2_with (first
                            | (go_at_call 136; (with_reducible refine (is_calls HR7.out HI44.out).mono ?_); rintro e w8 ⟨rfl, hb8⟩; have hs8 := hb8.size; have HR8 := Aside0.mk (HR7.out.below hb8); have HT8 := Aside0.mk (HT7.out.then_below hb8); have HL8 := Aside0.mk (HL7.out.below hb8); have HK8 := Aside0.mk (blk_below HK7.out hb8); obtain ⟨t0, t1, t2⟩ := blk3 HK8.out; have HF8 := Aside0.mk (fun e1 => FoAt.below hb8 _ _ _ (HF7.out e1)); have HW8 := Aside0.mk (owns_below HW7.out hb8); clear hb8)
                            | (go_at_call 214; (with_reducible refine (take_bad HR8.out HI41.out HUK.out).mono ?_); rintro e w9 ⟨rfl, hb9⟩; have HT9 := Aside0.mk (HT8.out.then_below hb9); clear hb9))
                          exact ⟨rfl, rfl, HT9.out⟩
                    · simp only at h
                      have HPQ : Aside0 (q + 1 ≤ xs.length) := ⟨hqx⟩
                      go_upto_region 12 with (go_at_call 136; (with_reducible refine (is_calls HR7.out HI44.out).mono ?_); rintro e w8 ⟨rfl, hb8⟩; have hs8 := hb8.size; have HR8 := Aside0.mk (HR7.out.below hb8); have HT8 := Aside0.mk (HT7.out.then_below hb8); have HL8 := Aside0.mk (HL7.out.below hb8); have HK8 := Aside0.mk (blk_below HK7.out hb8); obtain ⟨t0, t1, t2⟩ := blk3 HK8.out; have HF8 := Aside0.mk (fun e1 => FoAt.below hb8 _ _ _ (HF7.out e1)); have HW8 := Aside0.mk (owns_below HW7.out hb8); clear hb8)
                      obtain ⟨A9, c9, hk9, _⟩ := id HR8.out; obtain ⟨k0, k1, k2⟩ := blk3 hk9; have hfr := blk_frozen hk9; have gf := hfr 1; clear hk9 hfr; 
                      go_upto_region 13 with (fail)
                      have ht10 := setCell_turns w8 g 1 (.int .i64 ((q : Int) + 1))
                      have HR10 := Aside0.mk (HR8.out.step HPQ.out)
                      have hs10 := ht10.size; have HT10 := Aside0.mk (HT8.out.trans ht10); have HL10 := Aside0.mk (HL8.out.turns ht10 (by omega)); have HK10 := Aside0.mk ((ht10.block (Nat.lt_of_lt_of_le (show w.heap.size < w0.heap.size by omega) (by omega)) (by omega)).trans HK8.out); 
                      have HW10 := Aside0.mk (owns_turns HW8.out ht10 (by omega))
                      clear ht10 k0 k1 k2 gf t0 t1 t2
                      generalize w8.setCell ⟨g, 1, none⟩ (.int .i64 ((q : Int) + 1)) = w8 at *
                      rcases hy : rdF xs k .sum (op + 1) (q + 1) with _ | ⟨y, b, r⟩ | ⟨er, z⟩
                      · rw [hy] at h; cases h
                      · rw [hy] at h
                        simp only at h
                        have HH2 := Aside0.mk hy
                        have HAR := Aside0.mk h
                        clear h hy
                        go_wp2_with (first
                          | (go_at_call 64; (with_reducible refine (ihs.ok HR10.out HQ.out (Nat.le_trans HBB.out (by omega)) HH2.out).mono ?_); rintro e w9 ⟨A9, c9, rfl, hc9, hf9, hr9, ht9⟩; have HC9 := Aside0.mk hc9; have HF9 := Aside0.mk hf9; have HR9 := Aside0.mk hr9; have hs9 := ht9.size; have HT9 := Aside0.mk (HT10.out.trans ht9); have HL9 := Aside0.mk (HL10.out.turns ht9 (by omega)); have HK9 := Aside0.mk ((ht9.block (Nat.lt_of_lt_of_le (show w.heap.size < w0.heap.size by omega) (by omega)) (by omega)).trans HK10.out); have HW9 := Aside0.mk (owns_turns HW10.out ht9 (by omega)); clear hc9 hf9 hr9 ht9)
                          | (at_builtin; refine print_append_cells (w0 := w9) w0.heap.size rfl (.tmp 54) (.tmp 57) 26 28 (.agg #[.int .i64 0, .int .i64 0, .string ⟨#[]⟩, .string ⟨#[]⟩, .complex .f64 0 0, .float .f64 0, .slice none 0 0]) 7 96 rfl Tryz.underlying26 info28 rfl (by decide) (by decide) _ l.len inner [.int .i64 y.k, .int .i64 y.f, .string y.nm, .string y.tx, .complex .f64 y.re y.im, .float .f64 y.rad, .slice A9 b.len c9] rfl rfl rfl (by intro u hu; simp at hu; rcases hu with rfl | rfl | rfl | rfl | rfl | rfl | rfl <;> rfl) HW9.out (Below.refl _ _) (by omega) (by omega) ?_; intro v1 w10 ho1 hb1 hg1 hat1; have HO1 := Aside0.mk ho1; have HB1 := Aside0.mk hb1; clear ho1 hb1 hg1 hat1))
                        obtain ⟨A7, c7, rfl, hc7⟩ : ∃ A7 c7, v1 = .slice A7 (l.len + 1) c7 ∧ l.len + 1 ≤ c7 := by
                          rcases HO1.out.2 with ⟨_, h0⟩ | ⟨g', cap, cur, rfl, _, _, hcap, _⟩
                          · omega
                          · exact ⟨_, _, rfl, hcap⟩
                        have hsl := Fo.snoc_len l y b
                        have r3 := HR9.out.low HB1.out (by have := HBB.out; omega)
                        have r4 := HT9.out.low HB1.out (by omega)
                        have r5 : LfBlk w10 (w.heap.size + 1) ⟨0, 0, ⟨#[]⟩, ⟨#[]⟩, 0, 0, 0⟩ (.slice none 0 0) := (HB1.out.block _ (by omega)).trans HL9.out
                        have r6 := (HB1.out.block w.heap.size (by omega)).trans HK9.out
                        have r7 := HB1.out.size
                        go_roundg K2
                        case rel => exact ⟨l.snoc y b, r, A7, c7, by rw [hsl], HAR, ⟨_, by rw [hsl]; exact HO1.out⟩, ⟨fun e => by omega⟩, by omega, ⟨r3⟩, ⟨r4⟩, ⟨r5⟩, ⟨r6⟩, ⟨by omega, by omega⟩, by omega⟩
                        case measure => omega
                      · rw [hy] at h
                        simp only at h
                        obtain rfl := Option.some.inj h
                        clear h
                        have h := HFIN.out
                        simp only at h
                        obtain rfl := Option.some.inj h
                        have HH2 := Aside0.mk hy
                        clear h hy
                        go_wp2_with (go_at_call 64; (with_reducible refine (ihs.bad HR10.out HQ.out (Nat.le_trans HBB.out (by omega)) HH2.out).mono ?_); rintro e w9 ⟨rfl, ht9⟩; have HT9 := Aside0.mk (HT10.out.trans ht9); clear ht9)
                        exact ⟨rfl, rfl, HT9.out⟩
          · rw [hm] at h
            obtain rfl := Option.some.inj h
            have HH := Aside0.mk hm
            clear h hm
            go_enter Tryz.func212, Tryz.ntmps212
            go_upto_region 2 with (go_at_call 14; (with_reducible refine (X.parse_Find.calls 40 _ _ _ _ _ HFD.out).mono ?_); rintro e w1 ⟨rfl, hb1⟩; have hs1 := hb1.size; have HR1 := Aside0.mk (HR0.out.below hb1); have HT1 := Aside0.mk (HT0.out.then_below hb1); have HL1 := Aside0.mk (HL0.out.below hb1); have HK1 := Aside0.mk (blk_below HK0.out hb1); obtain ⟨A9, c9, hk9, _⟩ := id HR1.out; obtain ⟨k0, k1, k2⟩ := blk3 hk9; have hfr := blk_frozen hk9; have gf := hfr 1; clear hk9 hfr; clear hb1)
            go_upto_region 3 with (fail)
            have ht2 := setCell_turns w1 g 1 (.int .i64 ((p : Int) + 1))
            have HR2 := Aside0.mk (HR1.out.step HP.out)
            have hs2 := ht2.size; have HT2 := Aside0.mk (HT1.out.trans ht2); have HL2 := Aside0.mk (HL1.out.turns ht2 (by omega)); have HK2 := Aside0.mk ((ht2.block (Nat.lt_of_lt_of_le (show w.heap.size < w0.heap.size by omega) (by omega)) (by omega)).trans HK1.out); clear ht2 k0 k1 k2 gf t0 t1 t2
            generalize w1.setCell ⟨g, 1, none⟩ (.int .i64 ((p : Int) + 1)) = w2 at *
            go_wp2_with (first
              | (go_at_call 136; (with_reducible refine (is_calls HR2.out HI40.out).mono ?_); rintro e w3 ⟨rfl, hb3⟩; have hs3 := hb3.size; have HR3 := Aside0.mk (HR2.out.below hb3); have HT3 := Aside0.mk (HT2.out.then_below hb3); have HL3 := Aside0.mk (HL2.out.below hb3); have HK3 := Aside0.mk (blk_below HK2.out hb3); obtain ⟨t0, t1, t2⟩ := blk3 HK3.out; clear hb3)
              | (go_at_call 138; (with_reducible refine (deeper_ok HR3.out HPP.out HQ.out).mono ?_); rintro e w4 ⟨rfl, hr4, ht4⟩; have HR4 := Aside0.mk hr4; have hs4 := ht4.size; have HT4 := Aside0.mk (HT3.out.trans ht4); have HL4 := Aside0.mk (HL3.out.turns ht4 (by omega)); have HK4 := Aside0.mk ((ht4.block (Nat.lt_of_lt_of_le (show w.heap.size < w0.heap.size by omega) (by omega)) (by omega)).trans HK3.out); clear hr4 ht4)
              | (go_at_call 64; (with_reducible refine (ihs.bad HR4.out HQ.out (Nat.le_trans HBB.out (by omega)) HH.out).mono ?_); rintro e w5 ⟨rfl, ht5⟩; have HT5 := Aside0.mk (HT4.out.trans ht5); clear ht5))
            exact ⟨rfl, rfl, HT5.out⟩
end Go.Proofs.YtinmbcomnjmmjaaGreatDoor
