/- Proved: a part of what the statement on the names of parse needs: walks of functions of the program, and plain laws. (Texts Ew.) -/
import Derived.Test.YtinmbcomnjmmjaaGreatDoorQ41
namespace Go.Proofs.YtinmbcomnjmmjaaGreatDoor
open Go.RowKit Go.Proofs.YtinmbcomnjmmjaaGreatDoorW.PrintWords Go.Proofs.YtinmbcomnjmmjaaGreatDoorW.PrintLast Go.Proofs.YtinmbcomnjmmjaaGreatDoorW.PrintMore
open X
attribute [local go_sem] st_float st_complex field77_0 field77_1 field77_2
theorem NamedC.use {xs : List S77} {k : Nat} (h : NamedC xs k) {w : World} {g B p op : Nat} {o : Out} {t : S77} (hr : RdAt w g B xs p op) (ho : op ≤ 256) (hB : B ≤ w.heap.size) (ht : xs[p]? = some t) (hf : rdF xs k .named op p = some o) :
    Calls Tryz.prog 212 #[pt g, .agg #[.int .i64 t.f0, .string t.f1, .int .i64 t.f2]] w (OutP w g B xs op o) := h w g B p op o t hr ho hB ht hf
set_option maxHeartbeats 4000000 in
set_option maxRecDepth 100000 in
/-- (*reader).atom. -/
theorem atom_step {xs : List S77} {k : Nat} (ihs : RdC xs k .sum 64) (ihn : NamedC xs k) : RdC xs (k + 1) .atom 168 := by
  intro w g B p op o hr ho hB h
  have HL0 := Aside0.mk (LfBlk.new w zL (.slice none 0 0))
  have HT0 := Aside0.mk (Turns.of_below (g := g) (alloc_below w (.cells #[.int .i64 zL.k, .int .i64 zL.f, .string zL.nm, .string zL.tx, .complex .f64 zL.re zL.im, .float .f64 zL.rad, .slice none 0 0] 28)))
  have HR0 := Aside0.mk (hr.below (alloc_below w (.cells #[.int .i64 zL.k, .int .i64 zL.f, .string zL.nm, .string zL.tx, .complex .f64 zL.re zL.im, .float .f64 zL.rad, .slice none 0 0] 28)))
  have hsz := alloc_size w (.cells #[.int .i64 zL.k, .int .i64 zL.f, .string zL.nm, .string zL.tx, .complex .f64 zL.re zL.im, .float .f64 zL.rad, .slice none 0 0] 28)
  have hgl := hr.lt
  have HB := Aside0.mk hB
  have HO := Aside0.mk ho
  clear hr ho
  simp only [rdF] at h
  unfold zL noText at *
  generalize hwa : w.alloc (.cells _ 28) = w0 at *
  have HBB : Aside0 (B ≤ w0.heap.size) := ⟨by omega⟩
  clear hB
  rcases htk : xs[p]? with _ | t
  · rw [htk] at h; cases h
  · rw [htk] at h
    simp only at h
    have HTK := Aside0.mk htk
    have hp := lt_of_some htk
    have HP := Aside0.mk hp
    have hi91 : isF xs p [91] = some (decide (t.f0 = 3) && decide (t.f1.data.toList = [91])) := by unfold isF; rw [htk]; rfl
    have hi40 : isF xs p [40] = some (decide (t.f0 = 3) && decide (t.f1.data.toList = [40])) := by unfold isF; rw [htk]; rfl
    by_cases h1 : t.f0 = 1
    · rw [if_pos h1] at h
      have hx1 : (t.f0 == 1) = true := by rw [h1]; rfl
      rcases hnb : numB t.f1 with _ | b
      · rw [hnb] at h; cases h
      · rw [hnb] at h
        obtain rfl := Option.some.inj h
        have HNB := Aside0.mk hnb
        clear h hnb htk hi91 hi40 h1
        have hql : p < 65536 := by obtain ⟨A, c, h0, h1, h2, h3, hB, h4, h5, h6, h7, h8⟩ := HR0.out; omega
        go_enter Tryz.func168, Tryz.ntmps168
        go_upto_region 2 with (go_at_call 65; (with_reducible refine (here_calls HR0.out HTK.out).mono ?_); rintro e w1 ⟨rfl, hb1⟩; have hs1 := hb1.size; have HR1 := Aside0.mk (HR0.out.below hb1); have HT1 := Aside0.mk (HT0.out.then_below hb1); have HL1 := Aside0.mk (HL0.out.below hb1); clear hb1)
        have hk2 := alloc_at w1 (.cells #[.int .i64 t.f0, .string t.f1, .int .i64 t.f2] 77)
        have hb2 := alloc_below w1 (.cells #[.int .i64 t.f0, .string t.f1, .int .i64 t.f2] 77)
        have hz2 := alloc_size w1 (.cells #[.int .i64 t.f0, .string t.f1, .int .i64 t.f2] 77)
        have HK2 := Aside0.mk hk2; have HR2 := Aside0.mk (HR1.out.below hb2); have HT2 := Aside0.mk (HT1.out.then_below hb2); have HL2 := Aside0.mk (HL1.out.below hb2)
        obtain ⟨t0, t1, t2⟩ := blk3 hk2
        clear hk2 hb2 HR1 HT1 HL1
        generalize w1.alloc (.cells #[.int .i64 t.f0, .string t.f1, .int .i64 t.f2] 77) = w2 at *
        have hg2 := HR2.out.lt
        have hg1 : g < w1.heap.size := by omega
        obtain ⟨A9, c9, hk9, _⟩ := id HR2.out
        obtain ⟨k0, k1, k2⟩ := blk3 hk9
        have hfr := blk_frozen hk9
        have g1 := hfr 1
        clear hk9 hfr
        go_upto_region 4 with (fail)
        have ht3 := setCell_turns w2 g 1 (.int .i64 ((p : Int) + 1))
        have HR3 := Aside0.mk (HR2.out.step (show p + 1 ≤ xs.length from hp))
        have HT3 := Aside0.mk (HT2.out.trans ht3)
        have HL3 := Aside0.mk (HL2.out.turns ht3 (by omega))
        have hk3 := (ht3.block (show w1.heap.size < w2.heap.size by omega) (by omega)).trans HK2.out
        have hs3 := ht3.size
        clear ht3 k0 k1 k2 g1 t0 t1 t2 HR2 HT2 HL2 HK2
        generalize w2.setCell ⟨g, 1, none⟩ (.int .i64 ((p : Int) + 1)) = w3 at *
        obtain ⟨t0, t1, t2⟩ := blk3 hk3
        have HRd := Aside0.mk (HR3.out.below (drew_below w3)); have HTd := Aside0.mk (HT3.out.then_below (drew_below w3)); have HLd := Aside0.mk (HL3.out.below (drew_below w3))
        have hsd : w3.drew.heap.size = w3.heap.size := rfl
        have hkd := blk_below hk3 (drew_below w3)
        have HKd := Aside0.mk hkd
        have HT32 : Aside0 (Tab32 w3.drew) := ⟨by obtain ⟨A, c, h0, h1, h2, h3, hB, h4, _⟩ := HRd.out; exact h4⟩
        clear hk3 hkd
        go_region_with (go_at_call 95; (with_reducible refine (numB_calls HT32.out HNB.out).mono ?_); rintro e w4 ⟨rfl, hb4⟩; have HR4 := Aside0.mk (HRd.out.below hb4); have HT4 := Aside0.mk (HTd.out.then_below hb4); have HL4 := Aside0.mk (HLd.out.below hb4); have hk4 := blk_below HKd.out hb4; obtain ⟨t0, t1, t2⟩ := blk3 hk4; obtain ⟨l0, l1, l2, l3, l4, l5, l6⟩ := HL4.out.cells; obtain ⟨f0, f1, f2, f3, f4, f5, f6⟩ := HL4.out.frozen; clear hb4 hk4)
        all_goals
          try go_wp2
          exact OutP.fin (y := numL t.f1 b) (b := .nil) (A := none) (c := 0) (lo := w.heap.size + 1) HL4.out (by omega) (Nat.le_refl _) trivial HR4.out HB.out HT4.out rfl rfl rfl
    · rw [if_neg h1] at h
      have hx1 : (t.f0 == 1) = false := beq_eq_false_iff_ne.2 h1
      by_cases h2 : t.f0 = 2
      · rw [if_pos h2] at h
        have hx2 : (t.f0 == 2) = true := by rw [h2]; rfl
        have HH := Aside0.mk h
        clear h htk hi91 hi40 h1 h2
        rcases o with ⟨y, b, q⟩ | ⟨er, z⟩
        · go_enter Tryz.func168, Tryz.ntmps168
          go_upto_region 2 with (go_at_call 65; (with_reducible refine (here_calls HR0.out HTK.out).mono ?_); rintro e w1 ⟨rfl, hb1⟩; have hs1 := hb1.size; have HR1 := Aside0.mk (HR0.out.below hb1); have HT1 := Aside0.mk (HT0.out.then_below hb1); have HL1 := Aside0.mk (HL0.out.below hb1); clear hb1)
          have hk2 := alloc_at w1 (.cells #[.int .i64 t.f0, .string t.f1, .int .i64 t.f2] 77)
          have hb2 := alloc_below w1 (.cells #[.int .i64 t.f0, .string t.f1, .int .i64 t.f2] 77)
          have hz2 := alloc_size w1 (.cells #[.int .i64 t.f0, .string t.f1, .int .i64 t.f2] 77)
          have HK2 := Aside0.mk hk2; have HR2 := Aside0.mk (HR1.out.below hb2); have HT2 := Aside0.mk (HT1.out.then_below hb2); have HL2 := Aside0.mk (HL1.out.below hb2)
          obtain ⟨t0, t1, t2⟩ := blk3 hk2
          clear hk2 hb2 HR1 HT1 HL1
          generalize w1.alloc (.cells #[.int .i64 t.f0, .string t.f1, .int .i64 t.f2] 77) = w2 at *
          go_wp2_with (go_at_call 212; (with_reducible refine (calls_ok (ihn.use HR2.out HO.out (Nat.le_trans HBB.out (by omega)) HTK.out HH.out)).mono ?_); rintro e w3 ⟨A3, c3, rfl, hc3, hf3, hr3, ht3⟩; have hs3 := ht3.size; have HC3 := Aside0.mk hc3; have HF3 := Aside0.mk hf3; have HR3 := Aside0.mk hr3; have HT3 := Aside0.mk (HT2.out.trans ht3); have HL3 := Aside0.mk (HL2.out.turns ht3 (by omega)); obtain ⟨l0, l1, l2, l3, l4, l5, l6⟩ := HL3.out.cells; obtain ⟨f0, f1, f2, f3, f4, f5, f6⟩ := HL3.out.frozen; clear hc3 hf3 hr3 ht3)
          exact OutP.fin HL3.out (by omega) HC3.out HF3.out HR3.out HB.out HT3.out rfl rfl rfl
        · go_enter Tryz.func168, Tryz.ntmps168
          go_upto_region 2 with (go_at_call 65; (with_reducible refine (here_calls HR0.out HTK.out).mono ?_); rintro e w1 ⟨rfl, hb1⟩; have hs1 := hb1.size; have HR1 := Aside0.mk (HR0.out.below hb1); have HT1 := Aside0.mk (HT0.out.then_below hb1); have HL1 := Aside0.mk (HL0.out.below hb1); clear hb1)
          have hk2 := alloc_at w1 (.cells #[.int .i64 t.f0, .string t.f1, .int .i64 t.f2] 77)
          have hb2 := alloc_below w1 (.cells #[.int .i64 t.f0, .string t.f1, .int .i64 t.f2] 77)
          have hz2 := alloc_size w1 (.cells #[.int .i64 t.f0, .string t.f1, .int .i64 t.f2] 77)
          have HK2 := Aside0.mk hk2; have HR2 := Aside0.mk (HR1.out.below hb2); have HT2 := Aside0.mk (HT1.out.then_below hb2); have HL2 := Aside0.mk (HL1.out.below hb2)
          obtain ⟨t0, t1, t2⟩ := blk3 hk2
          clear hk2 hb2 HR1 HT1 HL1
          generalize w1.alloc (.cells #[.int .i64 t.f0, .string t.f1, .int .i64 t.f2] 77) = w2 at *
          go_wp2_with (go_at_call 212; (with_reducible refine (ihn.use HR2.out HO.out (Nat.le_trans HBB.out (by omega)) HTK.out HH.out).mono ?_); rintro e w3 ⟨rfl, ht3⟩; have HT3 := Aside0.mk (HT2.out.trans ht3); clear ht3)
          exact ⟨rfl, rfl, HT3.out⟩
      · rw [if_neg h2] at h
        have hx2 : (t.f0 == 2) = false := beq_eq_false_iff_ne.2 h2
        split at h
        · cases h
        · rename_i hn91
          rw [Bool.not_eq_true] at hn91
          have HI91 : Aside0 (isF xs p (⟨#[91]⟩ : ByteArray).data.toList = some false) := ⟨by rw [← hn91]; exact hi91⟩
          clear hi91 hn91
          split at h
          · rename_i hy40
            have HI40 : Aside0 (isF xs p (⟨#[40]⟩ : ByteArray).data.toList = some true) := ⟨by rw [← hy40]; exact hi40⟩
            clear hi40 hy40
            simp only [deepF] at h
            by_cases hd : 256 < op + 1
            · rw [if_pos hd, htk] at h
              simp only [Option.map_some] at h
              obtain rfl := Option.some.inj h
              have HQ : Aside0 (op = 256) := ⟨by have := HO.out; omega⟩
              clear h htk h1 h2
              go_enter Tryz.func168, Tryz.ntmps168
              go_upto_region 2 with (go_at_call 65; (with_reducible refine (here_calls HR0.out HTK.out).mono ?_); rintro e w1 ⟨rfl, hb1⟩; have hs1 := hb1.size; have HR1 := Aside0.mk (HR0.out.below hb1); have HT1 := Aside0.mk (HT0.out.then_below hb1); have HL1 := Aside0.mk (HL0.out.below hb1); clear hb1)
              have hk2 := alloc_at w1 (.cells #[.int .i64 t.f0, .string t.f1, .int .i64 t.f2] 77)
              have hb2 := alloc_below w1 (.cells #[.int .i64 t.f0, .string t.f1, .int .i64 t.f2] 77)
              have hz2 := alloc_size w1 (.cells #[.int .i64 t.f0, .string t.f1, .int .i64 t.f2] 77)
              have HK2 := Aside0.mk hk2; have HR2 := Aside0.mk (HR1.out.below hb2); have HT2 := Aside0.mk (HT1.out.then_below hb2); have HL2 := Aside0.mk (HL1.out.below hb2)
              obtain ⟨t0, t1, t2⟩ := blk3 hk2
              clear hk2 hb2 HR1 HT1 HL1
              generalize w1.alloc (.cells #[.int .i64 t.f0, .string t.f1, .int .i64 t.f2] 77) = w2 at *
              go_wp2_with (first
                | (go_at_call 136; (with_reducible refine (is_calls HR2.out HI91.out).mono ?_); rintro e w3 ⟨rfl, hb3⟩; have hs3 := hb3.size; have HR3 := Aside0.mk (HR2.out.below hb3); have HT3 := Aside0.mk (HT2.out.then_below hb3); have HL3 := Aside0.mk (HL2.out.below hb3); have HK3 := Aside0.mk (blk_below HK2.out hb3); obtain ⟨t0, t1, t2⟩ := blk3 HK3.out; clear hb3)
                | (go_at_call 136; (with_reducible refine (is_calls HR3.out HI40.out).mono ?_); rintro e w4 ⟨rfl, hb4⟩; have hs4 := hb4.size; have HR4 := Aside0.mk (HR3.out.below hb4); have HT4 := Aside0.mk (HT3.out.then_below hb4); have HL4 := Aside0.mk (HL3.out.below hb4); have HK4 := Aside0.mk (blk_below HK3.out hb4); obtain ⟨t0, t1, t2⟩ := blk3 HK4.out; clear hb4)
                | (go_at_call 138; (with_reducible refine (deeper_bad HR4.out HTK.out HQ.out).mono ?_); rintro e w5 ⟨rfl, ht5⟩; have HT5 := Aside0.mk (HT4.out.trans ht5); clear ht5))
              exact ⟨rfl, rfl, HT5.out⟩
            · rw [if_neg hd, if_pos hp] at h
              have HQ : Aside0 (op + 1 ≤ 256) := ⟨by omega⟩
              rcases hm : rdF xs k .sum (op + 1) (p + 1) with _ | ⟨x, a, q⟩ | ⟨er, z⟩
              · rw [hm] at h; cases h
              · rw [hm] at h
                have HH := Aside0.mk hm
                simp only [takeF] at h
                rcases htq : xs[q]? with _ | u
                · rw [htq] at h; cases h
                · rw [htq] at h
                  simp only at h
                  have hi41 : isF xs q [41] = some (decide (u.f0 = 3) && decide (u.f1.data.toList = [41])) := by unfold isF; rw [htq]; rfl
                  have HUK := Aside0.mk htq
                  by_cases hy41 : (decide (u.f0 = 3) && decide (u.f1.data.toList = [41])) = true
                  · rw [if_pos hy41] at h
                    have HI41 : Aside0 (isF xs q (⟨#[41]⟩ : ByteArray).data.toList = some true) := ⟨by rw [← hy41]; exact hi41⟩
                    obtain rfl := Option.some.inj h
                    clear h hi41 hy41 htq hm htk h1 h2
                    go_enter Tryz.func168, Tryz.ntmps168
                    go_upto_region 2 with (go_at_call 65; (with_reducible refine (here_calls HR0.out HTK.out).mono ?_); rintro e w1 ⟨rfl, hb1⟩; have hs1 := hb1.size; have HR1 := Aside0.mk (HR0.out.below hb1); have HT1 := Aside0.mk (HT0.out.then_below hb1); have HL1 := Aside0.mk (HL0.out.below hb1); clear hb1)
                    have hk2 := alloc_at w1 (.cells #[.int .i64 t.f0, .string t.f1, .int .i64 t.f2] 77)
                    have hb2 := alloc_below w1 (.cells #[.int .i64 t.f0, .string t.f1, .int .i64 t.f2] 77)
                    have hz2 := alloc_size w1 (.cells #[.int .i64 t.f0, .string t.f1, .int .i64 t.f2] 77)
                    have HK2 := Aside0.mk hk2; have HR2 := Aside0.mk (HR1.out.below hb2); have HT2 := Aside0.mk (HT1.out.then_below hb2); have HL2 := Aside0.mk (HL1.out.below hb2)
                    obtain ⟨t0, t1, t2⟩ := blk3 hk2
                    clear hk2 hb2 HR1 HT1 HL1
                    generalize w1.alloc (.cells #[.int .i64 t.f0, .string t.f1, .int .i64 t.f2] 77) = w2 at *
                    go_upto_region 12 with (first
                      | (go_at_call 136; (with_reducible refine (is_calls HR2.out HI91.out).mono ?_); rintro e w3 ⟨rfl, hb3⟩; have hs3 := hb3.size; have HR3 := Aside0.mk (HR2.out.below hb3); have HT3 := Aside0.mk (HT2.out.then_below hb3); have HL3 := Aside0.mk (HL2.out.below hb3); have HK3 := Aside0.mk (blk_below HK2.out hb3); obtain ⟨t0, t1, t2⟩ := blk3 HK3.out; clear hb3)
                      | (go_at_call 136; (with_reducible refine (is_calls HR3.out HI40.out).mono ?_); rintro e w4 ⟨rfl, hb4⟩; have hs4 := hb4.size; have HR4 := Aside0.mk (HR3.out.below hb4); have HT4 := Aside0.mk (HT3.out.then_below hb4); have HL4 := Aside0.mk (HL3.out.below hb4); have HK4 := Aside0.mk (blk_below HK3.out hb4); obtain ⟨t0, t1, t2⟩ := blk3 HK4.out; clear hb4)
                      | (go_at_call 138; (with_reducible refine (deeper_ok HR4.out HP.out HQ.out).mono ?_); rintro e w5 ⟨rfl, hr5, ht5⟩; have hs5 := ht5.size; have HR5 := Aside0.mk hr5; have HT5 := Aside0.mk (HT4.out.trans ht5); have HL5 := Aside0.mk (HL4.out.turns ht5 (by omega)); clear hr5 ht5)
                      | (go_at_call 64; (with_reducible refine (ihs.ok HR5.out HQ.out (Nat.le_trans HBB.out (by omega)) HH.out).mono ?_); rintro e w6 ⟨A6, c6, rfl, hc6, hf6, hr6, ht6⟩; have hs6 := ht6.size; have HC6 := Aside0.mk hc6; have HF6 := Aside0.mk hf6; have HR6 := Aside0.mk hr6; have HT6 := Aside0.mk (HT5.out.trans ht6); have HL6 := Aside0.mk (HL5.out.turns ht6 (by omega)); clear hc6 hf6 hr6 ht6))
                    have hn7 := LfBlk.new w6 x (.slice A6 a.len c6)
                    have hb7 := alloc_below w6 (.cells #[.int .i64 x.k, .int .i64 x.f, .string x.nm, .string x.tx, .complex .f64 x.re x.im, .float .f64 x.rad, .slice A6 a.len c6] 28)
                    have hz7 := alloc_size w6 (.cells #[.int .i64 x.k, .int .i64 x.f, .string x.nm, .string x.tx, .complex .f64 x.re x.im, .float .f64 x.rad, .slice A6 a.len c6] 28)
                    have HN7 := Aside0.mk hn7; have HR7 := Aside0.mk (HR6.out.below hb7); have HT7 := Aside0.mk (HT6.out.then_below hb7); have HL7 := Aside0.mk (HL6.out.below hb7); have HF7 := Aside0.mk (FoAt.below hb7 _ _ _ HF6.out)
                    have hg6 := HR6.out.lt
                    clear hn7 hb7
                    generalize w6.alloc (.cells #[.int .i64 x.k, .int .i64 x.f, .string x.nm, .string x.tx, .complex .f64 x.re x.im, .float .f64 x.rad, .slice A6 a.len c6] 28) = w7 at *
                    go_upto_region 13 with (go_at_call 214; (with_reducible refine (take_ok HR7.out HI41.out).mono ?_); rintro e w8 ⟨rfl, hr8, ht8⟩; have hs8 := ht8.size; have HR8 := Aside0.mk hr8; have HT8 := Aside0.mk (HT7.out.trans ht8); have HL8 := Aside0.mk (HL7.out.turns ht8 (by omega)); have HN8 := Aside0.mk (HN7.out.turns ht8 (by omega)); have HF8 := Aside0.mk (FoAt.turns ht8 (by omega) _ _ _ HF7.out); clear hr8 ht8)
                    obtain ⟨A9, c9, hk9, _⟩ := id HR8.out
                    obtain ⟨k0, k1, k2⟩ := blk3 hk9
                    have hfr := blk_frozen hk9
                    have g2 := hfr 2
                    clear hk9 hfr
                    go_upto_region 14 with (fail)
                    have ht9 := setCell_turns w8 g 2 (.int .i64 (op : Int))
                    have HR9 := Aside0.mk (HR8.out.open' (q := op) (z := (op : Int)) (by have := HO.out; omega) rfl)
                    have HT9 := Aside0.mk (HT8.out.trans ht9)
                    have HL9 := Aside0.mk (HL8.out.turns ht9 (by omega))
                    have HN9 := Aside0.mk (HN8.out.turns ht9 (by omega))
                    have HF9 := Aside0.mk (FoAt.turns ht9 (by omega) _ _ _ HF8.out)
                    clear ht9 k0 k1 k2 g2
                    generalize w8.setCell ⟨g, 2, none⟩ (.int .i64 (op : Int)) = w9 at *
                    obtain ⟨n0, n1, n2, n3, n4, n5, n6⟩ := HN9.out.cells
                    obtain ⟨l0, l1, l2, l3, l4, l5, l6⟩ := HL9.out.cells
                    obtain ⟨f0, f1, f2, f3, f4, f5, f6⟩ := HL9.out.frozen
                    go_wp2_with fail
                    exact OutP.fin HL9.out (by omega) HC6.out HF9.out HR9.out HB.out HT9.out rfl rfl rfl
                  · rw [if_neg hy41] at h
                    rw [Bool.not_eq_true] at hy41
                    have HI41 : Aside0 (isF xs q (⟨#[41]⟩ : ByteArray).data.toList = some false) := ⟨by rw [← hy41]; exact hi41⟩
                    obtain rfl := Option.some.inj h
                    clear h hi41 hy41 htq hm htk h1 h2
                    go_enter Tryz.func168, Tryz.ntmps168
                    go_upto_region 2 with (go_at_call 65; (with_reducible refine (here_calls HR0.out HTK.out).mono ?_); rintro e w1 ⟨rfl, hb1⟩; have hs1 := hb1.size; have HR1 := Aside0.mk (HR0.out.below hb1); have HT1 := Aside0.mk (HT0.out.then_below hb1); have HL1 := Aside0.mk (HL0.out.below hb1); clear hb1)
                    have hk2 := alloc_at w1 (.cells #[.int .i64 t.f0, .string t.f1, .int .i64 t.f2] 77)
                    have hb2 := alloc_below w1 (.cells #[.int .i64 t.f0, .string t.f1, .int .i64 t.f2] 77)
                    have hz2 := alloc_size w1 (.cells #[.int .i64 t.f0, .string t.f1, .int .i64 t.f2] 77)
                    have HK2 := Aside0.mk hk2; have HR2 := Aside0.mk (HR1.out.below hb2); have HT2 := Aside0.mk (HT1.out.then_below hb2); have HL2 := Aside0.mk (HL1.out.below hb2)
                    obtain ⟨t0, t1, t2⟩ := blk3 hk2
                    clear hk2 hb2 HR1 HT1 HL1
                    generalize w1.alloc (.cells #[.int .i64 t.f0, .string t.f1, .int .i64 t.f2] 77) = w2 at *
                    go_upto_region 12 with (first
                      | (go_at_call 136; (with_reducible refine (is_calls HR2.out HI91.out).mono ?_); rintro e w3 ⟨rfl, hb3⟩; have hs3 := hb3.size; have HR3 := Aside0.mk (HR2.out.below hb3); have HT3 := Aside0.mk (HT2.out.then_below hb3); have HL3 := Aside0.mk (HL2.out.below hb3); have HK3 := Aside0.mk (blk_below HK2.out hb3); obtain ⟨t0, t1, t2⟩ := blk3 HK3.out; clear hb3)
                      | (go_at_call 136; (with_reducible refine (is_calls HR3.out HI40.out).mono ?_); rintro e w4 ⟨rfl, hb4⟩; have hs4 := hb4.size; have HR4 := Aside0.mk (HR3.out.below hb4); have HT4 := Aside0.mk (HT3.out.then_below hb4); have HL4 := Aside0.mk (HL3.out.below hb4); have HK4 := Aside0.mk (blk_below HK3.out hb4); obtain ⟨t0, t1, t2⟩ := blk3 HK4.out; clear hb4)
                      | (go_at_call 138; (with_reducible refine (deeper_ok HR4.out HP.out HQ.out).mono ?_); rintro e w5 ⟨rfl, hr5, ht5⟩; have hs5 := ht5.size; have HR5 := Aside0.mk hr5; have HT5 := Aside0.mk (HT4.out.trans ht5); have HL5 := Aside0.mk (HL4.out.turns ht5 (by omega)); clear hr5 ht5)
                      | (go_at_call 64; (with_reducible refine (ihs.ok HR5.out HQ.out (Nat.le_trans HBB.out (by omega)) HH.out).mono ?_); rintro e w6 ⟨A6, c6, rfl, hc6, hf6, hr6, ht6⟩; have hs6 := ht6.size; have HC6 := Aside0.mk hc6; have HF6 := Aside0.mk hf6; have HR6 := Aside0.mk hr6; have HT6 := Aside0.mk (HT5.out.trans ht6); have HL6 := Aside0.mk (HL5.out.turns ht6 (by omega)); clear hc6 hf6 hr6 ht6))
                    have hb7 := alloc_below w6 (.cells #[.int .i64 x.k, .int .i64 x.f, .string x.nm, .string x.tx, .complex .f64 x.re x.im, .float .f64 x.rad, .slice A6 a.len c6] 28)
                    have HR7 := Aside0.mk (HR6.out.below hb7); have HT7 := Aside0.mk (HT6.out.then_below hb7)
                    clear hb7
                    generalize w6.alloc (.cells #[.int .i64 x.k, .int .i64 x.f, .string x.nm, .string x.tx, .complex .f64 x.re x.im, .float .f64 x.rad, .slice A6 a.len c6] 28) = w7 at *
                    go_wp2_with (go_at_call 214; (with_reducible refine (take_bad HR7.out HI41.out HUK.out).mono ?_); rintro e w8 ⟨rfl, hb8⟩; have HT8 := Aside0.mk (HT7.out.then_below hb8); clear hb8)
                    exact ⟨rfl, rfl, HT8.out⟩
              · rw [hm] at h
                obtain rfl := Option.some.inj h
                have HH := Aside0.mk hm
                clear h hm htk h1 h2
                go_enter Tryz.func168, Tryz.ntmps168
                go_upto_region 2 with (go_at_call 65; (with_reducible refine (here_calls HR0.out HTK.out).mono ?_); rintro e w1 ⟨rfl, hb1⟩; have hs1 := hb1.size; have HR1 := Aside0.mk (HR0.out.below hb1); have HT1 := Aside0.mk (HT0.out.then_below hb1); have HL1 := Aside0.mk (HL0.out.below hb1); clear hb1)
                have hk2 := alloc_at w1 (.cells #[.int .i64 t.f0, .string t.f1, .int .i64 t.f2] 77)
                have hb2 := alloc_below w1 (.cells #[.int .i64 t.f0, .string t.f1, .int .i64 t.f2] 77)
                have hz2 := alloc_size w1 (.cells #[.int .i64 t.f0, .string t.f1, .int .i64 t.f2] 77)
                have HK2 := Aside0.mk hk2; have HR2 := Aside0.mk (HR1.out.below hb2); have HT2 := Aside0.mk (HT1.out.then_below hb2); have HL2 := Aside0.mk (HL1.out.below hb2)
                obtain ⟨t0, t1, t2⟩ := blk3 hk2
                clear hk2 hb2 HR1 HT1 HL1
                generalize w1.alloc (.cells #[.int .i64 t.f0, .string t.f1, .int .i64 t.f2] 77) = w2 at *
                go_wp2_with (first
                  | (go_at_call 136; (with_reducible refine (is_calls HR2.out HI91.out).mono ?_); rintro e w3 ⟨rfl, hb3⟩; have hs3 := hb3.size; have HR3 := Aside0.mk (HR2.out.below hb3); have HT3 := Aside0.mk (HT2.out.then_below hb3); have HL3 := Aside0.mk (HL2.out.below hb3); have HK3 := Aside0.mk (blk_below HK2.out hb3); obtain ⟨t0, t1, t2⟩ := blk3 HK3.out; clear hb3)
                  | (go_at_call 136; (with_reducible refine (is_calls HR3.out HI40.out).mono ?_); rintro e w4 ⟨rfl, hb4⟩; have hs4 := hb4.size; have HR4 := Aside0.mk (HR3.out.below hb4); have HT4 := Aside0.mk (HT3.out.then_below hb4); have HL4 := Aside0.mk (HL3.out.below hb4); have HK4 := Aside0.mk (blk_below HK3.out hb4); obtain ⟨t0, t1, t2⟩ := blk3 HK4.out; clear hb4)
                  | (go_at_call 138; (with_reducible refine (deeper_ok HR4.out HP.out HQ.out).mono ?_); rintro e w5 ⟨rfl, hr5, ht5⟩; have hs5 := ht5.size; have HR5 := Aside0.mk hr5; have HT5 := Aside0.mk (HT4.out.trans ht5); have HL5 := Aside0.mk (HL4.out.turns ht5 (by omega)); clear hr5 ht5)
                  | (go_at_call 64; (with_reducible refine (ihs.bad HR5.out HQ.out (Nat.le_trans HBB.out (by omega)) HH.out).mono ?_); rintro e w6 ⟨rfl, ht6⟩; have HT6 := Aside0.mk (HT5.out.trans ht6); clear ht6))
                exact ⟨rfl, rfl, HT6.out⟩
          · rename_i hn40
            rw [Bool.not_eq_true] at hn40
            have HI40 : Aside0 (isF xs p (⟨#[40]⟩ : ByteArray).data.toList = some false) := ⟨by rw [← hn40]; exact hi40⟩
            obtain rfl := Option.some.inj h
            clear hi40 hn40 h htk h1 h2
            go_enter Tryz.func168, Tryz.ntmps168
            go_upto_region 2 with (go_at_call 65; (with_reducible refine (here_calls HR0.out HTK.out).mono ?_); rintro e w1 ⟨rfl, hb1⟩; have hs1 := hb1.size; have HR1 := Aside0.mk (HR0.out.below hb1); have HT1 := Aside0.mk (HT0.out.then_below hb1); have HL1 := Aside0.mk (HL0.out.below hb1); clear hb1)
            have hk2 := alloc_at w1 (.cells #[.int .i64 t.f0, .string t.f1, .int .i64 t.f2] 77)
            have hb2 := alloc_below w1 (.cells #[.int .i64 t.f0, .string t.f1, .int .i64 t.f2] 77)
            have hz2 := alloc_size w1 (.cells #[.int .i64 t.f0, .string t.f1, .int .i64 t.f2] 77)
            have HK2 := Aside0.mk hk2; have HR2 := Aside0.mk (HR1.out.below hb2); have HT2 := Aside0.mk (HT1.out.then_below hb2); have HL2 := Aside0.mk (HL1.out.below hb2)
            obtain ⟨t0, t1, t2⟩ := blk3 hk2
            clear hk2 hb2 HR1 HT1 HL1
            generalize w1.alloc (.cells #[.int .i64 t.f0, .string t.f1, .int .i64 t.f2] 77) = w2 at *
            go_wp2_with (first
              | (go_at_call 136; (with_reducible refine (is_calls HR2.out HI91.out).mono ?_); rintro e w3 ⟨rfl, hb3⟩; have hs3 := hb3.size; have HR3 := Aside0.mk (HR2.out.below hb3); have HT3 := Aside0.mk (HT2.out.then_below hb3); have HL3 := Aside0.mk (HL2.out.below hb3); have HK3 := Aside0.mk (blk_below HK2.out hb3); obtain ⟨t0, t1, t2⟩ := blk3 HK3.out; clear hb3)
              | (go_at_call 136; (with_reducible refine (is_calls HR3.out HI40.out).mono ?_); rintro e w4 ⟨rfl, hb4⟩; have hs4 := hb4.size; have HR4 := Aside0.mk (HR3.out.below hb4); have HT4 := Aside0.mk (HT3.out.then_below hb4); have HL4 := Aside0.mk (HL3.out.below hb4); have HK4 := Aside0.mk (blk_below HK3.out hb4); obtain ⟨t0, t1, t2⟩ := blk3 HK4.out; clear hb4))
            exact ⟨rfl, rfl, HT4.out⟩
end Go.Proofs.YtinmbcomnjmmjaaGreatDoor
