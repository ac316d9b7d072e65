/- Proved: a part of what the statement on the names of parse needs: walks of functions of the program, and plain laws. (Texts Et.) -/
import Derived.Test.YtinmbcomnjmmjaaGreatDoorQ37
import Derived.Test.YtinmbcomnjmmjaaGreatDoorQ38
namespace Go.Proofs.YtinmbcomnjmmjaaGreatDoor
open Go.RowKit Go.Proofs.YtinmbcomnjmmjaaGreatDoorW.PrintWords Go.Proofs.YtinmbcomnjmmjaaGreatDoorW.PrintLast Go.Proofs.YtinmbcomnjmmjaaGreatDoorW.PrintMore
open X
attribute [local go_sem] st_float st_complex field77_0 field77_1 field77_2
/-- A row of two whose node is stored where a node stood. -/
theorem two_kept {w6 w7 : World} {gt lo lo6 : Nat} {A A' : Option Addr} {c c' : Nat} {x y : Lf} {a b : Fo} (f : Int) (hf : FoOk w6 (fun b => lo ≤ b ∧ b ≠ gt) A 0 a) (hc : a.len ≤ c) (hlo : lo ≤ lo6) (hf' : FoAt w6 lo6 A' 0 b) (hlo6 : gt < lo6) (hc' : b.len ≤ c') (h6 : gt < w6.heap.size) (h6' : lo ≤ w6.heap.size)
    (hb : Below (w6.alloc (.cells #[.int .i64 x.k, .int .i64 x.f, .string x.nm, .string x.tx, .complex .f64 x.re x.im, .float .f64 x.rad, .slice A a.len c, .int .i64 y.k, .int .i64 y.f, .string y.nm, .string y.tx, .complex .f64 y.re y.im, .float .f64 y.rad, .slice A' b.len c'] 28)).heap.size (w6.alloc (.cells #[.int .i64 x.k, .int .i64 x.f, .string x.nm, .string x.tx, .complex .f64 x.re x.im, .float .f64 x.rad, .slice A a.len c, .int .i64 y.k, .int .i64 y.f, .string y.nm, .string y.tx, .complex .f64 y.re y.im, .float .f64 y.rad, .slice A' b.len c'] 28)) w7) :
    FoOk (st7 w7 gt (callL f) (.slice (some ⟨w6.heap.size, 0, none⟩) 2 2)) (fun b => lo ≤ b ∧ b ≠ gt) (some ⟨w6.heap.size, 0, none⟩) 0 (two x a y b) := by
  have e3 : FoOk w6 (fun b => lo ≤ b ∧ b ≠ gt) A' 0 b := FoOk.mono (fun b hb => ⟨by omega, by omega⟩) b A' 0 (FoAt.toOk b A' 0 hf')
  have e4 := FoOk.pair (x := x) (y := y) hf hc e3 hc' ⟨by omega, by omega⟩
  have e5 := FoOk.below hb _ _ _ e4
  exact FoOk.turns (st7_turns w7 gt (callL f) (.slice (some ⟨w6.heap.size, 0, none⟩) 2 2)) (by omega) _ _ _ e5
set_option maxHeartbeats 4000000 in
set_option maxRecDepth 100000 in
/-- (*reader).row, of the operands that function 92 reads. -/
theorem row92 {xs : List S77} {k : Nat} {fn : Fn} (ih : RdC xs k fn 92) {c1 c2 : UInt8} {f1 f2 : Int} (K : Nat) (w : World) (g B p op gm : Nat) (o : Out) (hr : RdAt w g B xs p op) (ho : op ≤ 256) (hB : B ≤ w.heap.size) (hM : MapAt w gm c1 f1 c2 f2)
    (h : rowF (rdF xs k fn op) (signOf c1 f1 c2 f2) xs K p = some o) : Calls Tryz.prog 91 #[pt g, .func (.func 92) #[pt g] #[], .map (some gm)] w (OutP w g B xs op o) := by
  have HL0 := Aside0.mk (LfBlk.new w zL (.slice none 0 0))
  have HT0 := Aside0.mk (Turns.of_below (g := g) (alloc_below w (.cells #[.int .i64 zL.k, .int .i64 zL.f, .string zL.nm, .string zL.tx, .complex .f64 zL.re zL.im, .float .f64 zL.rad, .slice none 0 0] 28)))
  have HR0 := Aside0.mk (hr.below (alloc_below w (.cells #[.int .i64 zL.k, .int .i64 zL.f, .string zL.nm, .string zL.tx, .complex .f64 zL.re zL.im, .float .f64 zL.rad, .slice none 0 0] 28)))
  have hsz := alloc_size w (.cells #[.int .i64 zL.k, .int .i64 zL.f, .string zL.nm, .string zL.tx, .complex .f64 zL.re zL.im, .float .f64 zL.rad, .slice none 0 0] 28)
  have hgl := hr.lt
  have hgml := blk_lt hM
  have hgm : gm ≠ g := by
    rintro rfl
    obtain ⟨A, c, h0, _⟩ := hr
    unfold MapAt at hM
    rw [h0] at hM; cases hM
  have HM0 := Aside0.mk (hM.below (alloc_below w (.cells #[.int .i64 zL.k, .int .i64 zL.f, .string zL.nm, .string zL.tx, .complex .f64 zL.re zL.im, .float .f64 zL.rad, .slice none 0 0] 28)))
  clear hM
  have HB := Aside0.mk hB
  have HO := Aside0.mk ho
  clear hr ho
  unfold zL noText at *
  generalize hwa : w.alloc (.cells _ 28) = w0 at *
  have HBB : Aside0 (B ≤ w0.heap.size) := ⟨by omega⟩
  clear hB
  unfold rowF at h
  rcases ha : rdF xs k fn op p with _ | ⟨x, a, q⟩ | ⟨er, z⟩
  · rw [ha] at h; cases h
  · rw [ha] at h
    have HA := Aside0.mk ha
    have HW := Aside0.mk h
    clear ha h
    go_enter Tryz.func91, Tryz.ntmps91
    go_wp2_with (go_at_call 92; (with_reducible refine (ih.ok HR0.out HO.out HBB.out HA.out).mono ?_); rintro e w1 ⟨A1, c1', rfl, hc1, hf1, hr1, ht1⟩; have hs1 := ht1.size; have HC1 := Aside0.mk hc1; have HF1 := Aside0.mk hf1; have HR1 := Aside0.mk hr1; have HT1 := Aside0.mk (HT0.out.trans ht1); have HL1 := Aside0.mk (HL0.out.turns ht1 (by omega)); have HM1 := Aside0.mk (HM0.out.turns ht1 hgm); clear hc1 hf1 hr1 ht1)
    have hn2 := LfBlk.new w1 x (.slice A1 a.len c1')
    have hb2 := alloc_below w1 (.cells #[.int .i64 x.k, .int .i64 x.f, .string x.nm, .string x.tx, .complex .f64 x.re x.im, .float .f64 x.rad, .slice A1 a.len c1'] 28)
    have hz2 := alloc_size w1 (.cells #[.int .i64 x.k, .int .i64 x.f, .string x.nm, .string x.tx, .complex .f64 x.re x.im, .float .f64 x.rad, .slice A1 a.len c1'] 28)
    have HN2 := Aside0.mk hn2; have HF2 := Aside0.mk (FoOk.mono (ok' := fun b => w0.heap.size ≤ b ∧ b ≠ w1.heap.size) (fun b hb => ⟨hb.1, by omega⟩) _ _ _ (FoOk.below hb2 _ _ _ (FoAt.toOk _ _ _ HF1.out))); have HR2 := Aside0.mk (HR1.out.below hb2); have HT2 := Aside0.mk (HT1.out.then_below hb2); have HL2 := Aside0.mk (HL1.out.below hb2); have HM2 := Aside0.mk (HM1.out.below hb2)
    have hg1 := HR1.out.lt
    clear hn2 hb2 HF1
    generalize w1.alloc (.cells #[.int .i64 x.k, .int .i64 x.f, .string x.nm, .string x.tx, .complex .f64 x.re x.im, .float .f64 x.rad, .slice A1 a.len c1'] 28) = w2 at *
    go_loopg [8] K (fun kq _ wr => ∃ (x : Lf) (a : Fo) (A : Option Addr) (c q : Nat), Aside0 (rowL (rdF xs k fn op) (signOf c1 f1 c2 f2) xs kq x a q = some o) ∧ Aside0 (LfBlk wr w1.heap.size x (.slice A a.len c)) ∧ Aside0 (a.len ≤ c) ∧ Aside0 (FoOk wr (fun b => w0.heap.size ≤ b ∧ b ≠ w1.heap.size) A 0 a) ∧ Aside0 (RdAt wr g B xs q op) ∧ Aside0 (Turns g w wr) ∧ Aside0 (LfBlk wr w.heap.size ⟨0, 0, ⟨#[]⟩, ⟨#[]⟩, 0, 0, 0⟩ (.slice none 0 0)) ∧ Aside0 (MapAt wr gm c1 f1 c2 f2) ∧ w1.heap.size < wr.heap.size)
    case atStart => exact ⟨x, a, A1, c1', q, HW, HN2, HC1, HF2, HR2, HT2, HL2, HM2, by omega⟩
    case round =>
      clear HW HN2 HF2 HR2 HT2 HL2 HM2 HC1 HR1 HT1 HL1 HM1 HA HL0 HT0 HR0 HM0
      obtain ⟨x, a, A, c, q, HW, HN2, HC2, HF2, HR2, HT2, HL2, HM2, hlt⟩ := hrel
      cases gk with
      | zero => exact absurd HW.out (by simp [rowL])
      | succ K2 =>
        have h := HW.out
        clear HW
        simp only [rowL] at h
        rcases htk : xs[q]? with _ | t
        · rw [htk] at h; cases h
        · rw [htk] at h
          simp only at h
          have HTK := Aside0.mk htk
          have HP : Aside0 (q + 1 ≤ xs.length) := ⟨lt_of_some htk⟩
          have hql : q < 65536 := by obtain ⟨A, c, h0, h1, h2, h3, hB, h4, h5, h6, h7, h8⟩ := HR2.out; have := HP.out; omega
          clear htk
          have hf1 : True := trivial
          have hf2 : True := trivial
          by_cases h3 : t.f0 = 3
          · rw [if_pos h3] at h
            have hx3 : (t.f0 == 3) = true := by rw [h3]; rfl
            clear h3
            rcases hsg : signOf c1 f1 c2 f2 t.f1.data.toList with _ | f
            · rw [hsg] at h
              obtain rfl := Option.some.inj h
              have HSG := Aside0.mk hsg
              clear h hsg
              go_wp2_with (first
                | (go_at_call 65; have hflag := hf1; clear hflag; (with_reducible refine (here_calls HR2.out HTK.out).mono ?_); rintro e w3 ⟨rfl, hb3⟩; have hs3 := hb3.size; have HR3 := Aside0.mk (HR2.out.below hb3); have HT3 := Aside0.mk (HT2.out.then_below hb3); have HL3 := Aside0.mk (HL2.out.below hb3); have HN3 := Aside0.mk (HN2.out.below hb3); have HF3 := Aside0.mk (FoOk.below hb3 _ _ _ HF2.out); have HM3 := Aside0.mk (HM2.out.below hb3); clear hb3 hf1)
                | (go_at_call 65; have hflag := hf2; clear hflag; (with_reducible refine (here_calls HR3.out HTK.out).mono ?_); rintro e w4 ⟨rfl, hb4⟩; have hs4 := hb4.size; have HR4 := Aside0.mk (HR3.out.below hb4); have HT4 := Aside0.mk (HT3.out.then_below hb4); have HL4 := Aside0.mk (HL3.out.below hb4); have HN4 := Aside0.mk (HN3.out.below hb4); have HF4 := Aside0.mk (FoOk.below hb4 _ _ _ HF3.out); have HM4 := Aside0.mk (HM3.out.below hb4); have hlk := look_run HM4.out t.f1; rw [HSG.out] at hlk; simp only [Option.getD_none, Option.isSome_none] at hlk; obtain ⟨n0, n1, n2, n3, n4, n5, n6⟩ := HN4.out.cells; obtain ⟨l0, l1, l2, l3, l4, l5, l6⟩ := HL4.out.cells; obtain ⟨f0, f1', f2', f3, f4, f5, f6⟩ := HL4.out.frozen; clear hb4 hf2))
              exact OutP.fin HL4.out (by omega) HC2.out (FoOk.toAt (fun b hb => hb.1) _ _ _ HF4.out) HR4.out HB.out HT4.out rfl rfl rfl
            · rw [hsg] at h
              simp only at h
              have HSG := Aside0.mk hsg
              clear hsg
              go_upto_region 6 with (first
                | (go_at_call 65; have hflag := hf1; clear hflag; (with_reducible refine (here_calls HR2.out HTK.out).mono ?_); rintro e w3 ⟨rfl, hb3⟩; have hs3 := hb3.size; have HR3 := Aside0.mk (HR2.out.below hb3); have HT3 := Aside0.mk (HT2.out.then_below hb3); have HL3 := Aside0.mk (HL2.out.below hb3); have HN3 := Aside0.mk (HN2.out.below hb3); have HF3 := Aside0.mk (FoOk.below hb3 _ _ _ HF2.out); have HM3 := Aside0.mk (HM2.out.below hb3); clear hb3 hf1)
                | (go_at_call 65; have hflag := hf2; clear hflag; (with_reducible refine (here_calls HR3.out HTK.out).mono ?_); rintro e w4 ⟨rfl, hb4⟩; have hs4 := hb4.size; have HR4 := Aside0.mk (HR3.out.below hb4); have HT4 := Aside0.mk (HT3.out.then_below hb4); have HL4 := Aside0.mk (HL3.out.below hb4); have HN4 := Aside0.mk (HN3.out.below hb4); have HF4 := Aside0.mk (FoOk.below hb4 _ _ _ HF3.out); have HM4 := Aside0.mk (HM3.out.below hb4); have hlk := look_run HM4.out t.f1; rw [HSG.out] at hlk; simp only [Option.getD_some, Option.isSome_some] at hlk; obtain ⟨A9, c9, hk9, _⟩ := id HR4.out; obtain ⟨k0, k1, k2⟩ := blk3 hk9; have hfr := blk_frozen hk9; have g1 := hfr 1; clear hk9 hfr; clear hb4 hf2))
              have ht5 := setCell_turns w4 g 1 (.int .i64 ((q : Int) + 1))
              have HR5 := Aside0.mk (HR4.out.step HP.out)
              have HT5 := Aside0.mk (HT4.out.trans ht5)
              have HL5 := Aside0.mk (HL4.out.turns ht5 (by omega))
              have HN5 := Aside0.mk (HN4.out.turns ht5 (by omega))
              have HF5 := Aside0.mk (FoOk.turns ht5 (by omega) _ _ _ HF4.out)
              have HM5 := Aside0.mk (HM4.out.turns ht5 hgm)
              have hs5 := ht5.size
              clear ht5 k0 k1 k2 g1 hlk HR4 HT4 HL4 HN4 HF4 HM4 HR3 HT3 HL3 HN3 HF3 HM3 HR2 HT2 HL2 HN2 HF2 HM2
              generalize w4.setCell ⟨g, 1, none⟩ (.int .i64 ((q : Int) + 1)) = w5 at *
              have HRd := Aside0.mk (HR5.out.below (drew_below w5)); have HTd := Aside0.mk (HT5.out.then_below (drew_below w5)); have HLd := Aside0.mk (HL5.out.below (drew_below w5)); have HNd := Aside0.mk (HN5.out.below (drew_below w5)); have HFd := Aside0.mk (FoOk.below (drew_below w5) _ _ _ HF5.out); have HMd := Aside0.mk (HM5.out.below (drew_below w5))
              have hsd : w5.drew.heap.size = w5.heap.size := rfl
              obtain ⟨n0, n1, n2, n3, n4, n5, n6⟩ := HN5.out.cells
              rcases hy : rdF xs k fn op (q + 1) with _ | ⟨y, b, r⟩ | ⟨er, z⟩
              · rw [hy] at h; cases h
              · rw [hy] at h
                have HH := Aside0.mk hy
                have HW := Aside0.mk h
                clear h hy
                go_region_with (first
                  | (go_at_call 92; (with_reducible refine (ih.ok HRd.out HO.out (Nat.le_trans HBB.out (by omega)) HH.out).mono ?_); rintro e w6 ⟨A6, c6, rfl, hc6, hf6, hr6, ht6⟩; have hs6 := ht6.size; have HC6 := Aside0.mk hc6; have HF6 := Aside0.mk hf6; have HR6 := Aside0.mk hr6; have HT6 := Aside0.mk (HTd.out.trans ht6); have HL6 := Aside0.mk (HLd.out.turns ht6 (by omega)); have HN6 := Aside0.mk (HNd.out.turns ht6 (by omega)); have HG6 := Aside0.mk (FoOk.turns ht6 (by omega) _ _ _ HFd.out); have HM6 := Aside0.mk (HMd.out.turns ht6 hgm); obtain ⟨n0, n1, n2, n3, n4, n5, n6⟩ := HN6.out.cells; clear hc6 hf6 hr6 ht6)
                  | (go_at_call 113; (with_reducible refine (call_calls _ f _ _ _).mono ?_); rintro e w7 ⟨rfl, hb7⟩; have HB7 := Aside0.mk hb7; have hs7 := hb7.size; have HN7 := Aside0.mk (HN6.out.below (below_step (alloc_below w6 _) hb7)); obtain ⟨n0, n1, n2, n3, n4, n5, n6⟩ := HN7.out.cells; obtain ⟨f0, f1', f2', f3, f4, f5, f6⟩ := HN7.out.frozen; clear hb7))
                all_goals
                  try go_wp2
                  go_roundg K2
                  have bb := below_step (alloc_below w6 _) HB7.out
                  have r1 := HN7.out.st (callL f) (.slice (some ⟨w6.heap.size, 0, none⟩) 2 2)
                  have r2 := two_kept (gt := w1.heap.size) (lo := w0.heap.size) f HG6.out HC2.out (by omega) HF6.out (by omega) HC6.out (by omega) (by omega) HB7.out
                  have r3 := (HR6.out.below bb).turns (st7_turns w7 w1.heap.size (callL f) (.slice (some ⟨w6.heap.size, 0, none⟩) 2 2)) (by have := HB.out; omega)
                  have r4 := (HT6.out.then_below bb).new (by omega) (st7_turns w7 w1.heap.size (callL f) (.slice (some ⟨w6.heap.size, 0, none⟩) 2 2))
                  have r5 := (HL6.out.below bb).turns (st7_turns w7 w1.heap.size (callL f) (.slice (some ⟨w6.heap.size, 0, none⟩) 2 2)) (by omega)
                  have r6 := (HM6.out.below bb).turns (st7_turns w7 w1.heap.size (callL f) (.slice (some ⟨w6.heap.size, 0, none⟩) 2 2)) (by omega)
                  have r7 := Nat.lt_of_lt_of_le (show w1.heap.size < w7.heap.size by have := bb.size; omega) (st7_turns w7 w1.heap.size (callL f) (.slice (some ⟨w6.heap.size, 0, none⟩) 2 2)).size
                  case rel => exact ⟨callL f, two x a y b, some ⟨w6.heap.size, 0, none⟩, 2, r, HW, ⟨r1⟩, ⟨Nat.le_refl _⟩, ⟨r2⟩, ⟨r3⟩, ⟨r4⟩, ⟨r5⟩, ⟨r6⟩, r7⟩
                  case measure => omega
              · rw [hy] at h
                obtain rfl := Option.some.inj h
                have HH := Aside0.mk hy
                clear h hy
                go_region_dies
                all_goals (refine (ih.bad HRd.out HO.out (Nat.le_trans HBB.out (by omega)) HH.out).mono ?_; rintro e w6 ⟨rfl, ht6⟩; exact ⟨rfl, rfl, HTd.out.trans ht6⟩)
          · rw [if_neg h3] at h
            obtain rfl := Option.some.inj h
            have hx3 : (t.f0 == 3) = false := beq_eq_false_iff_ne.2 h3
            clear h h3
            go_wp2_with (go_at_call 65; have hflag := hf1; clear hflag; (with_reducible refine (here_calls HR2.out HTK.out).mono ?_); rintro e w3 ⟨rfl, hb3⟩; have hs3 := hb3.size; have HR3 := Aside0.mk (HR2.out.below hb3); have HT3 := Aside0.mk (HT2.out.then_below hb3); have HL3 := Aside0.mk (HL2.out.below hb3); have HN3 := Aside0.mk (HN2.out.below hb3); have HF3 := Aside0.mk (FoOk.below hb3 _ _ _ HF2.out); have HM3 := Aside0.mk (HM2.out.below hb3); obtain ⟨n0, n1, n2, n3, n4, n5, n6⟩ := HN3.out.cells; obtain ⟨l0, l1, l2, l3, l4, l5, l6⟩ := HL3.out.cells; obtain ⟨f0, f1', f2', f3, f4, f5, f6⟩ := HL3.out.frozen; clear hb3 hf1)
            exact OutP.fin HL3.out (by omega) HC2.out (FoOk.toAt (fun b hb => hb.1) _ _ _ HF3.out) HR3.out HB.out HT3.out rfl rfl rfl
  · rw [ha] at h
    obtain rfl := Option.some.inj h
    have HH := Aside0.mk ha
    clear h ha
    go_enter Tryz.func91, Tryz.ntmps91
    go_wp2_with (go_at_call 92; (with_reducible refine (ih.bad HR0.out HO.out (Nat.le_trans HBB.out (by omega)) HH.out).mono ?_); rintro e w1 ⟨rfl, ht1⟩; have HT1 := Aside0.mk (HT0.out.trans ht1); clear ht1)
    exact ⟨rfl, rfl, HT1.out⟩
end Go.Proofs.YtinmbcomnjmmjaaGreatDoor
