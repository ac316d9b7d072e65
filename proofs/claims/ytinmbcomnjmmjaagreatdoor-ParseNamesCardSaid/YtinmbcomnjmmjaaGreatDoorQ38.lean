/- Proved: a part of what the statement on the names of parse needs: walks of functions of the program, and plain laws. (Texts Er.) -/
import Derived.Test.YtinmbcomnjmmjaaGreatDoorQ37
import Derived.RegionDies
namespace Go.Proofs.YtinmbcomnjmmjaaGreatDoor
open Go.RowKit Go.Proofs.YtinmbcomnjmmjaaGreatDoorW.PrintWords Go.Proofs.YtinmbcomnjmmjaaGreatDoorW.PrintLast Go.Proofs.YtinmbcomnjmmjaaGreatDoorW.PrintMore
open X
attribute [local go_sem] st_float st_complex field77_0 field77_1 field77_2
set_option maxHeartbeats 4000000 in
set_option maxRecDepth 100000 in
/-- (*reader).power. -/
theorem power_step {xs : List S77} {k : Nat} (iha : RdC xs k .atom 168) (ihm : RdC xs k .minus 114) : RdC xs (k + 1) .power 137 := by
  intro w g B p op o hr ho hB h
  have HL0 := Aside0.mk (LfBlk.new w zL (.slice none 0 0))
  have HT0 := Aside0.mk (Turns.of_below (g := g) (alloc_below w (.cells #[.int .i64 zL.k, .int .i64 zL.f, .string zL.nm, .string zL.tx, .complex .f64 zL.re zL.im, .float .f64 zL.rad, .slice none 0 0] 28)))
  have HR0 := Aside0.mk (hr.below (alloc_below w (.cells #[.int .i64 zL.k, .int .i64 zL.f, .string zL.nm, .string zL.tx, .complex .f64 zL.re zL.im, .float .f64 zL.rad, .slice none 0 0] 28)))
  have hsz := alloc_size w (.cells #[.int .i64 zL.k, .int .i64 zL.f, .string zL.nm, .string zL.tx, .complex .f64 zL.re zL.im, .float .f64 zL.rad, .slice none 0 0] 28)
  have hgl := hr.lt
  have HB := Aside0.mk hB
  have HO := Aside0.mk ho
  clear hr ho
  simp only [rdF] at h
  unfold zL noText at *
  generalize hwa : w.alloc (.cells _ 28) = w0 at *
  have HBB : Aside0 (B ≤ w0.heap.size) := ⟨by omega⟩
  clear hB
  rcases ha : rdF xs k .atom op p with _ | ⟨x, a, q⟩ | ⟨er, z⟩
  · rw [ha] at h; cases h
  · rw [ha] at h
    have HA := Aside0.mk ha
    clear ha
    simp only at h
    rcases hi : isF xs q [94] with _ | b
    · rw [hi] at h; cases h
    · rw [hi] at h
      have HI : Aside0 (isF xs q (⟨#[94]⟩ : ByteArray).data.toList = some b) := ⟨hi⟩
      rcases b with _ | _
      · obtain rfl := Option.some.inj h
        clear hi h
        go_enter Tryz.func137, Tryz.ntmps137
        go_upto_region 2 with (go_at_call 168; (with_reducible refine (iha.ok HR0.out HO.out (Nat.le_trans HBB.out (by omega)) HA.out).mono ?_); rintro e w1 ⟨A1, c1, rfl, hc1, hf1, hr1, ht1⟩; have hs1 := ht1.size; have HC1 := Aside0.mk hc1; have HF1 := Aside0.mk hf1; have HR1 := Aside0.mk hr1; have HT1 := Aside0.mk (HT0.out.trans ht1); have HL1 := Aside0.mk (HL0.out.turns ht1 (by omega)); clear hc1 hf1 hr1 ht1)
        have hn2 := LfBlk.new w1 x (.slice A1 a.len c1)
        have hb2 := alloc_below w1 (.cells #[.int .i64 x.k, .int .i64 x.f, .string x.nm, .string x.tx, .complex .f64 x.re x.im, .float .f64 x.rad, .slice A1 a.len c1] 28)
        have hz2 := alloc_size w1 (.cells #[.int .i64 x.k, .int .i64 x.f, .string x.nm, .string x.tx, .complex .f64 x.re x.im, .float .f64 x.rad, .slice A1 a.len c1] 28)
        have HN2 := Aside0.mk hn2; have HF2 := Aside0.mk (FoAt.below hb2 _ _ _ HF1.out); have HR2 := Aside0.mk (HR1.out.below hb2); have HT2 := Aside0.mk (HT1.out.then_below hb2); have HL2 := Aside0.mk (HL1.out.below hb2)
        have HQ2 := Aside0.mk (Turns.of_below (g := g) hb2)
        have hg1 := HR1.out.lt
        clear hn2 hb2
        generalize w1.alloc (.cells #[.int .i64 x.k, .int .i64 x.f, .string x.nm, .string x.tx, .complex .f64 x.re x.im, .float .f64 x.rad, .slice A1 a.len c1] 28) = w2 at *
        go_wp2_with (go_at_call 136; (with_reducible refine (is_calls HR2.out HI.out).mono ?_); rintro e w3 ⟨rfl, hb3⟩; have hs3 := hb3.size; have HR3 := Aside0.mk (HR2.out.below hb3); have HT3 := Aside0.mk (HT2.out.then_below hb3); have HL3 := Aside0.mk (HL2.out.below hb3); have HN3 := Aside0.mk (HN2.out.below hb3); have HQ3 := Aside0.mk (HQ2.out.then_below hb3); have HF3 := Aside0.mk (FoAt.below hb3 _ _ _ HF2.out); obtain ⟨n0, n1, n2, n3, n4, n5, n6⟩ := HN3.out.cells; obtain ⟨l0, l1, l2, l3, l4, l5, l6⟩ := HL3.out.cells; obtain ⟨f0, f1, f2, f3, f4, f5, f6⟩ := HL3.out.frozen; clear hb3)
        exact OutP.fin HL3.out (by omega) HC1.out HF3.out HR3.out HB.out HT3.out rfl rfl rfl
      · simp only [deepF] at h
        have hp := isF_lt hi
        have HP := Aside0.mk hp
        by_cases hd : 256 < op + 1
        · rw [if_pos hd] at h
          rcases htk : xs[q]? with _ | t
          · rw [htk] at h; cases h
          · rw [htk] at h
            simp only [Option.map_some] at h
            obtain rfl := Option.some.inj h
            have HTK := Aside0.mk htk
            have HQ : Aside0 (op = 256) := ⟨by have := HO.out; omega⟩
            clear h hi htk
            go_enter Tryz.func137, Tryz.ntmps137
            go_upto_region 2 with (go_at_call 168; (with_reducible refine (iha.ok HR0.out HO.out (Nat.le_trans HBB.out (by omega)) HA.out).mono ?_); rintro e w1 ⟨A1, c1, rfl, hc1, hf1, hr1, ht1⟩; have hs1 := ht1.size; have HC1 := Aside0.mk hc1; have HF1 := Aside0.mk hf1; have HR1 := Aside0.mk hr1; have HT1 := Aside0.mk (HT0.out.trans ht1); have HL1 := Aside0.mk (HL0.out.turns ht1 (by omega)); clear hc1 hf1 hr1 ht1)
            have hn2 := LfBlk.new w1 x (.slice A1 a.len c1)
            have hb2 := alloc_below w1 (.cells #[.int .i64 x.k, .int .i64 x.f, .string x.nm, .string x.tx, .complex .f64 x.re x.im, .float .f64 x.rad, .slice A1 a.len c1] 28)
            have hz2 := alloc_size w1 (.cells #[.int .i64 x.k, .int .i64 x.f, .string x.nm, .string x.tx, .complex .f64 x.re x.im, .float .f64 x.rad, .slice A1 a.len c1] 28)
            have HN2 := Aside0.mk hn2; have HF2 := Aside0.mk (FoAt.below hb2 _ _ _ HF1.out); have HR2 := Aside0.mk (HR1.out.below hb2); have HT2 := Aside0.mk (HT1.out.then_below hb2); have HL2 := Aside0.mk (HL1.out.below hb2)
            have HQ2 := Aside0.mk (Turns.of_below (g := g) hb2)
            have hg1 := HR1.out.lt
            clear hn2 hb2
            generalize w1.alloc (.cells #[.int .i64 x.k, .int .i64 x.f, .string x.nm, .string x.tx, .complex .f64 x.re x.im, .float .f64 x.rad, .slice A1 a.len c1] 28) = w2 at *
            go_wp2_with (first
              | (go_at_call 136; (with_reducible refine (is_calls HR2.out HI.out).mono ?_); rintro e w3 ⟨rfl, hb3⟩; have hs3 := hb3.size; have HR3 := Aside0.mk (HR2.out.below hb3); have HT3 := Aside0.mk (HT2.out.then_below hb3); have HL3 := Aside0.mk (HL2.out.below hb3); have HN3 := Aside0.mk (HN2.out.below hb3); have HQ3 := Aside0.mk (HQ2.out.then_below hb3); have HF3 := Aside0.mk (FoAt.below hb3 _ _ _ HF2.out); obtain ⟨n0, n1, n2, n3, n4, n5, n6⟩ := HN3.out.cells; obtain ⟨l0, l1, l2, l3, l4, l5, l6⟩ := HL3.out.cells; obtain ⟨f0, f1, f2, f3, f4, f5, f6⟩ := HL3.out.frozen; clear hb3)
              | (go_at_call 138; (with_reducible refine (deeper_bad HR3.out HTK.out HQ.out).mono ?_); rintro e w4 ⟨rfl, ht4⟩; have HT4 := Aside0.mk (HT3.out.trans ht4); clear ht4))
            exact ⟨rfl, rfl, HT4.out⟩
        · rw [if_neg hd, if_pos hp] at h
          have HQ : Aside0 (op + 1 ≤ 256) := ⟨by omega⟩
          rcases hm : rdF xs k .minus (op + 1) (q + 1) with _ | ⟨y, b, r⟩ | ⟨er, z⟩
          · rw [hm] at h; cases h
          · rw [hm] at h
            obtain rfl := Option.some.inj h
            have HH := Aside0.mk hm
            clear h hi hm
            go_enter Tryz.func137, Tryz.ntmps137
            go_upto_region 2 with (go_at_call 168; (with_reducible refine (iha.ok HR0.out HO.out (Nat.le_trans HBB.out (by omega)) HA.out).mono ?_); rintro e w1 ⟨A1, c1, rfl, hc1, hf1, hr1, ht1⟩; have hs1 := ht1.size; have HC1 := Aside0.mk hc1; have HF1 := Aside0.mk hf1; have HR1 := Aside0.mk hr1; have HT1 := Aside0.mk (HT0.out.trans ht1); have HL1 := Aside0.mk (HL0.out.turns ht1 (by omega)); clear hc1 hf1 hr1 ht1)
            have hn2 := LfBlk.new w1 x (.slice A1 a.len c1)
            have hb2 := alloc_below w1 (.cells #[.int .i64 x.k, .int .i64 x.f, .string x.nm, .string x.tx, .complex .f64 x.re x.im, .float .f64 x.rad, .slice A1 a.len c1] 28)
            have hz2 := alloc_size w1 (.cells #[.int .i64 x.k, .int .i64 x.f, .string x.nm, .string x.tx, .complex .f64 x.re x.im, .float .f64 x.rad, .slice A1 a.len c1] 28)
            have HN2 := Aside0.mk hn2; have HF2 := Aside0.mk (FoAt.below hb2 _ _ _ HF1.out); have HR2 := Aside0.mk (HR1.out.below hb2); have HT2 := Aside0.mk (HT1.out.then_below hb2); have HL2 := Aside0.mk (HL1.out.below hb2)
            have HQ2 := Aside0.mk (Turns.of_below (g := g) hb2)
            have hg1 := HR1.out.lt
            clear hn2 hb2
            generalize w1.alloc (.cells #[.int .i64 x.k, .int .i64 x.f, .string x.nm, .string x.tx, .complex .f64 x.re x.im, .float .f64 x.rad, .slice A1 a.len c1] 28) = w2 at *
            go_upto_region 5 with (first
              | (go_at_call 136; (with_reducible refine (is_calls HR2.out HI.out).mono ?_); rintro e w3 ⟨rfl, hb3⟩; have hs3 := hb3.size; have HR3 := Aside0.mk (HR2.out.below hb3); have HT3 := Aside0.mk (HT2.out.then_below hb3); have HL3 := Aside0.mk (HL2.out.below hb3); have HN3 := Aside0.mk (HN2.out.below hb3); have HQ3 := Aside0.mk (HQ2.out.then_below hb3); have HF3 := Aside0.mk (FoAt.below hb3 _ _ _ HF2.out); obtain ⟨n0, n1, n2, n3, n4, n5, n6⟩ := HN3.out.cells; obtain ⟨l0, l1, l2, l3, l4, l5, l6⟩ := HL3.out.cells; obtain ⟨f0, f1, f2, f3, f4, f5, f6⟩ := HL3.out.frozen; clear hb3)
              | (go_at_call 138; (with_reducible refine (deeper_ok HR3.out HP.out HQ.out).mono ?_); rintro e w4 ⟨rfl, hr4, ht4⟩; have hs4 := ht4.size; have HR4 := Aside0.mk hr4; have HT4 := Aside0.mk (HT3.out.trans ht4); have HL4 := Aside0.mk (HL3.out.turns ht4 (by omega)); have HN4 := Aside0.mk (HN3.out.turns ht4 (by omega)); have HQ4 := Aside0.mk (HQ3.out.trans ht4); have HF4 := Aside0.mk (FoAt.turns ht4 (by omega) _ _ _ HF3.out); obtain ⟨n0, n1, n2, n3, n4, n5, n6⟩ := HN4.out.cells; clear hr4 ht4))
            go_cut [3] (fun v3 wc => ∃ S, v3 = .pointer (some ⟨w1.heap.size, 0, none⟩) ∧ Aside0 (LfBlk wc w1.heap.size (callL 28) (.slice (some S) 2 2)) ∧ Aside0 (FoAt wc w0.heap.size (some S) 0 (two x a y b)) ∧ Aside0 (RdAt wc g B xs r (op + 1)) ∧ Aside0 (Turns g w wc) ∧ Aside0 (LfBlk wc w.heap.size ⟨0, 0, ⟨#[]⟩, ⟨#[]⟩, 0, 0, 0⟩ (.slice none 0 0)))
            case first =>
              have HTB := Aside0.mk (HQ4.out.then_below (drew_below w4)); have HRd := Aside0.mk (HR4.out.below (drew_below w4)); have HTd := Aside0.mk (HT4.out.then_below (drew_below w4)); have HLd := Aside0.mk (HL4.out.below (drew_below w4)); have HNd := Aside0.mk (HN4.out.below (drew_below w4)); have HFd := Aside0.mk (FoAt.below (drew_below w4) _ _ _ HF4.out)
              have hsd : w4.drew.heap.size = w4.heap.size := rfl
              go_region_with (first
                | (go_at_call 114; (with_reducible refine (ihm.ok HRd.out HQ.out (Nat.le_trans HBB.out (by omega)) HH.out).mono ?_); rintro e w5 ⟨A5, c5, rfl, hc5, hf5, hr5, ht5⟩; have hs5 := ht5.size; have HC5 := Aside0.mk hc5; have HF5 := Aside0.mk hf5; have HR5 := Aside0.mk hr5; have HT5 := Aside0.mk (HTd.out.trans ht5); have HL5 := Aside0.mk (HLd.out.turns ht5 (by omega)); have HN5 := Aside0.mk (HNd.out.turns ht5 (by omega)); have HTA := Aside0.mk (HTB.out.trans ht5); obtain ⟨n0, n1, n2, n3, n4, n5, n6⟩ := HN5.out.cells; clear hc5 hf5 hr5 ht5)
                | (go_at_call 113; (with_reducible refine (call_calls _ 28 _ _ _).mono ?_); rintro e w6 ⟨rfl, hb6⟩; have HB6 := Aside0.mk hb6; have hs6 := hb6.size; have HN6 := Aside0.mk (HN5.out.below (below_step (alloc_below w5 _) hb6)); obtain ⟨n0, n1, n2, n3, n4, n5, n6⟩ := HN6.out.cells; obtain ⟨f0, f1, f2, f3, f4, f5, f6⟩ := HN6.out.frozen; clear hb6))
              all_goals
                try go_wp2
                go_meet
                have r1 := HN6.out.st (callL 28) (.slice (some ⟨w5.heap.size, 0, none⟩) 2 2)
                have r2 := two_stored (lo := w0.heap.size) 28 HF1.out HC1.out HTA.out (by omega) (by omega) HF5.out (by omega) HC5.out (by omega) HB6.out
                have bb := below_step (alloc_below w5 _) HB6.out
                have r3 := (HR5.out.below bb).turns (st7_turns w6 w1.heap.size (callL 28) (.slice (some ⟨w5.heap.size, 0, none⟩) 2 2)) (by have := HB.out; omega)
                have r4 := (HT5.out.then_below bb).new (by omega) (st7_turns w6 w1.heap.size (callL 28) (.slice (some ⟨w5.heap.size, 0, none⟩) 2 2))
                have r5 := (HL5.out.below bb).turns (st7_turns w6 w1.heap.size (callL 28) (.slice (some ⟨w5.heap.size, 0, none⟩) 2 2)) (by omega)
                case rel => exact ⟨⟨w5.heap.size, 0, none⟩, rfl, ⟨r1⟩, ⟨r2⟩, ⟨r3⟩, ⟨r4⟩, ⟨r5⟩⟩
            case rest =>
              obtain ⟨S, rfl, HN5, HF5, HR5, HT5, HL5⟩ := hcut
              have hgc := HR5.out.lt
              obtain ⟨A9, c9, hk9, _⟩ := id HR5.out
              obtain ⟨k0, k1, k2⟩ := blk3 hk9
              have hfr := blk_frozen hk9
              have g2 := hfr 2
              clear hk9 hfr
              go_upto_region 6 with (fail)
              go_upto_region 7 with (fail)
              have ht6 := setCell_turns wc g 2 (.int .i64 (op : Int))
              have HR6 := Aside0.mk (HR5.out.open' (q := op) (z := (op : Int)) (by have := HO.out; omega) rfl)
              have HT6 := Aside0.mk (HT5.out.trans ht6)
              have HL6 := Aside0.mk (HL5.out.turns ht6 (by omega))
              have HN6 := Aside0.mk (HN5.out.turns ht6 (by omega))
              have HF6 := Aside0.mk (FoAt.turns ht6 (by omega) _ _ _ HF5.out)
              clear ht6 k0 k1 k2 g2 HR5 HT5 HL5 HN5 HF5
              generalize wc.setCell ⟨g, 2, none⟩ (.int .i64 (op : Int)) = w6 at *
              obtain ⟨n0, n1, n2, n3, n4, n5, n6⟩ := HN6.out.cells
              obtain ⟨l0, l1, l2, l3, l4, l5, l6⟩ := HL6.out.cells
              obtain ⟨f0, f1, f2, f3, f4, f5, f6⟩ := HL6.out.frozen
              unfold callL at n0 n1 n2 n3 n4 n5
              go_wp2_with fail
              exact OutP.fin HL6.out (by omega) (Nat.le_refl _) HF6.out HR6.out HB.out HT6.out rfl rfl rfl
          · rw [hm] at h
            obtain rfl := Option.some.inj h
            have HH := Aside0.mk hm
            clear h hi hm
            go_enter Tryz.func137, Tryz.ntmps137
            go_upto_region 2 with (go_at_call 168; (with_reducible refine (iha.ok HR0.out HO.out (Nat.le_trans HBB.out (by omega)) HA.out).mono ?_); rintro e w1 ⟨A1, c1, rfl, hc1, hf1, hr1, ht1⟩; have hs1 := ht1.size; have HC1 := Aside0.mk hc1; have HF1 := Aside0.mk hf1; have HR1 := Aside0.mk hr1; have HT1 := Aside0.mk (HT0.out.trans ht1); have HL1 := Aside0.mk (HL0.out.turns ht1 (by omega)); clear hc1 hf1 hr1 ht1)
            have hn2 := LfBlk.new w1 x (.slice A1 a.len c1)
            have hb2 := alloc_below w1 (.cells #[.int .i64 x.k, .int .i64 x.f, .string x.nm, .string x.tx, .complex .f64 x.re x.im, .float .f64 x.rad, .slice A1 a.len c1] 28)
            have hz2 := alloc_size w1 (.cells #[.int .i64 x.k, .int .i64 x.f, .string x.nm, .string x.tx, .complex .f64 x.re x.im, .float .f64 x.rad, .slice A1 a.len c1] 28)
            have HN2 := Aside0.mk hn2; have HF2 := Aside0.mk (FoAt.below hb2 _ _ _ HF1.out); have HR2 := Aside0.mk (HR1.out.below hb2); have HT2 := Aside0.mk (HT1.out.then_below hb2); have HL2 := Aside0.mk (HL1.out.below hb2)
            have HQ2 := Aside0.mk (Turns.of_below (g := g) hb2)
            have hg1 := HR1.out.lt
            clear hn2 hb2
            generalize w1.alloc (.cells #[.int .i64 x.k, .int .i64 x.f, .string x.nm, .string x.tx, .complex .f64 x.re x.im, .float .f64 x.rad, .slice A1 a.len c1] 28) = w2 at *
            go_upto_region 5 with (first
              | (go_at_call 136; (with_reducible refine (is_calls HR2.out HI.out).mono ?_); rintro e w3 ⟨rfl, hb3⟩; have hs3 := hb3.size; have HR3 := Aside0.mk (HR2.out.below hb3); have HT3 := Aside0.mk (HT2.out.then_below hb3); have HL3 := Aside0.mk (HL2.out.below hb3); have HN3 := Aside0.mk (HN2.out.below hb3); have HQ3 := Aside0.mk (HQ2.out.then_below hb3); have HF3 := Aside0.mk (FoAt.below hb3 _ _ _ HF2.out); obtain ⟨n0, n1, n2, n3, n4, n5, n6⟩ := HN3.out.cells; obtain ⟨l0, l1, l2, l3, l4, l5, l6⟩ := HL3.out.cells; obtain ⟨f0, f1, f2, f3, f4, f5, f6⟩ := HL3.out.frozen; clear hb3)
              | (go_at_call 138; (with_reducible refine (deeper_ok HR3.out HP.out HQ.out).mono ?_); rintro e w4 ⟨rfl, hr4, ht4⟩; have hs4 := ht4.size; have HR4 := Aside0.mk hr4; have HT4 := Aside0.mk (HT3.out.trans ht4); have HL4 := Aside0.mk (HL3.out.turns ht4 (by omega)); have HN4 := Aside0.mk (HN3.out.turns ht4 (by omega)); have HQ4 := Aside0.mk (HQ3.out.trans ht4); have HF4 := Aside0.mk (FoAt.turns ht4 (by omega) _ _ _ HF3.out); obtain ⟨n0, n1, n2, n3, n4, n5, n6⟩ := HN4.out.cells; clear hr4 ht4))
            have HTB := Aside0.mk (HQ4.out.then_below (drew_below w4)); have HRd := Aside0.mk (HR4.out.below (drew_below w4)); have HTd := Aside0.mk (HT4.out.then_below (drew_below w4)); have HLd := Aside0.mk (HL4.out.below (drew_below w4)); have HNd := Aside0.mk (HN4.out.below (drew_below w4)); have HFd := Aside0.mk (FoAt.below (drew_below w4) _ _ _ HF4.out)
            have hsd : w4.drew.heap.size = w4.heap.size := rfl
            go_region_dies
            all_goals (refine (ihm.bad HRd.out HQ.out (Nat.le_trans HBB.out (by omega)) HH.out).mono ?_; rintro e w5 ⟨rfl, ht5⟩; exact ⟨rfl, rfl, HTd.out.trans ht5⟩)
  · rw [ha] at h
    obtain rfl := Option.some.inj h
    have HH := Aside0.mk ha
    clear h ha
    go_enter Tryz.func137, Tryz.ntmps137
    go_wp2_with (go_at_call 168; (with_reducible refine (iha.bad HR0.out HO.out (Nat.le_trans HBB.out (by omega)) HH.out).mono ?_); rintro e w1 ⟨rfl, ht1⟩; have HT1 := Aside0.mk (HT0.out.trans ht1); clear ht1)
    exact ⟨rfl, rfl, HT1.out⟩
end Go.Proofs.YtinmbcomnjmmjaaGreatDoor
