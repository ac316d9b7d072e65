/- Proved: a part of what the statement on the names of parse needs: walks of functions of the program, and plain laws. (Texts Bn, Bo.) -/
import Derived.Test.YtinmbcomnjmmjaaGreatDoorQ15
namespace Go.Proofs.YtinmbcomnjmmjaaGreatDoor
open Go.RowKit Go.Proofs.YtinmbcomnjmmjaaGreatDoorW.PrintWords Go.Proofs.YtinmbcomnjmmjaaGreatDoorW.PrintLast Go.Proofs.YtinmbcomnjmmjaaGreatDoorW.PrintMore
open X
theorem sum_eq1 {x : Int} {neg : Bool} {n : Nat} (h : decide (x < 0) = neg) : signed neg (x.natAbs + n) = x + signed neg n := by
  subst h; unfold signed
  by_cases hx : x < 0
  · simp [hx]; omega
  · simp [hx]; omega
theorem sum_eq2 {x : Int} {neg : Bool} {n : Nat} (h : decide (x < 0) = !neg) (hn : n ≤ x.natAbs) : signed (!neg) (x.natAbs - n) = x + signed neg n := by
  unfold signed
  cases neg
  · have hx : x < 0 := by simpa using h
    simp; omega
  · have hx : ¬ x < 0 := by simpa using h
    simp; omega
theorem sum_eq3 {x : Int} {neg : Bool} {n : Nat} (h : decide (x < 0) = !neg) (hn : x.natAbs < n) : signed neg (n - x.natAbs) = x + signed neg n := by
  unfold signed
  cases neg
  · have hx : x < 0 := by simpa using h
    simp; omega
  · have hx : ¬ x < 0 := by simpa using h
    simp; omega
theorem cmpN_ge {a b : Nat} (h : b ≤ a) : 0 ≤ cmpN a b := by
  unfold cmpN; rw [if_neg (by omega)]; split <;> omega
theorem cmpN_lt {a b : Nat} (h : a < b) : cmpN a b = -1 := by unfold cmpN; rw [if_pos h]
set_option maxRecDepth 100000 in
theorem sum_same {w : World} {g gx : Nat} {x : Int} {neg : Bool} {v : Value} {n : Nat} (hg : IntBlk w g) (hx : IntAt w gx x) (hv : NatAt w v n) (f1 : Fits x.natAbs) (f2 : Fits n) (hn : decide (x < 0) = neg) :
    Calls Tryz.prog 207 #[pt g, pt gx, .bool neg, v] w fun e w' => e = .returned (pt g) ∧ IntAt w' g (x + signed neg n) ∧ Turns g w w' := by
  obtain ⟨A, c, h0, h1, HV⟩ := hx.open
  have HG := Aside0.mk hg
  have HN := Aside0.mk hv
  have HS := Aside0.mk (sum_eq1 (n := n) hn)
  rw [hn] at h0
  clear hg hx hv hn
  cases neg
  all_goals
    go_enter Tryz.func207, Tryz.ntmps207
    go_wp2_with (first | (go_at_call 225; refine (add_calls HV.out HN.out f1 f2).mono ?_; rintro e w2 ⟨r, rfl, hn2, hb2⟩; have HN2 := Aside0.mk hn2; have HB2 := Aside0.mk hb2; have HG2 := Aside0.mk (HG.out.below hb2); clear hn2 hb2) | (go_at_call 198; refine (put_calls HG2.out _ HN2.out).mono ?_; rintro e w9 ⟨rfl, hi9, ht9⟩; have HI9 := Aside0.mk hi9; have HT9 := Aside0.mk ht9; clear hi9 ht9))
    go_ret
    exact ⟨rfl, by rw [← HS.out]; exact HI9.out, HT9.out.after_below HB2.out⟩
set_option maxHeartbeats 4000000 in
set_option maxRecDepth 100000 in
theorem sum_apart {w : World} {g gx : Nat} {x : Int} {neg : Bool} {v : Value} {n : Nat} (hg : IntBlk w g) (hx : IntAt w gx x) (hv : NatAt w v n) (f1 : Fits x.natAbs) (f2 : Fits n) (hn : decide (x < 0) = !neg) :
    Calls Tryz.prog 207 #[pt g, pt gx, .bool neg, v] w fun e w' => e = .returned (pt g) ∧ IntAt w' g (x + signed neg n) ∧ Turns g w w' := by
  obtain ⟨A, c, h0, h1, HV⟩ := hx.open
  have HG := Aside0.mk hg
  have HX := Aside0.mk hx
  have HN := Aside0.mk hv
  rw [hn] at h0
  by_cases hc : n ≤ x.natAbs
  · have HS := Aside0.mk (sum_eq2 hn hc)
    have HC := Aside0.mk hn
    have hq := cmpN_ge hc
    clear hg hx hv hn
    cases neg
    all_goals
      go_enter Tryz.func207, Tryz.ntmps207
      go_upto_region 4 with (go_at_call 226; refine (cmp_calls HV.out HN.out f1).mono ?_; rintro e w2 ⟨rfl, hb2⟩; obtain ⟨A2, c2, h02, h12, HV2⟩ := (HX.out.below hb2).open; rw [HC.out] at h02; have HB2 := Aside0.mk hb2; have HG2 := Aside0.mk (HG.out.below hb2); have HN2 := Aside0.mk (HN.out.below hb2); clear hb2 h0 h1)
      have h02' : w2.drew.cell? ⟨gx, 0, none⟩ = _ := h02
      have h12' : w2.drew.cell? ⟨gx, 1, none⟩ = _ := h12
      go_region_with (first | (go_at_call 239; refine (sub_calls (w := w2.drew) HV2.out HN2.out f1 hc).mono ?_; rintro e w3 ⟨r, rfl, hn3, hb3⟩; have h03 := pw_cell_below (w := w2.drew) hb3 h02; have HN3 := Aside0.mk hn3; have HB3 := Aside0.mk hb3; have HG3 := Aside0.mk (IntBlk.below (w := w2.drew) HG2.out hb3); clear hn3 hb3) | (go_at_call 198; refine (put_calls HG3.out _ HN3.out).mono ?_; rintro e w9 ⟨rfl, hi9, ht9⟩; have HI9 := Aside0.mk hi9; have HT9 := Aside0.mk ht9; clear hi9 ht9))
      all_goals
        go_wp2
        go_ret
        exact ⟨rfl, by rw [← HS.out]; exact HI9.out, ((HT9.out.after_below HB3.out).drew).after_below HB2.out⟩
  · have HS := Aside0.mk (sum_eq3 hn (Nat.lt_of_not_le hc))
    have hq := cmpN_lt (Nat.lt_of_not_le hc)
    have HC := Aside0.mk (show x.natAbs ≤ n by omega)
    clear hg hx hv hn
    cases neg
    all_goals
      go_enter Tryz.func207, Tryz.ntmps207
      go_wp2_with (first | (go_at_call 226; refine (cmp_calls HV.out HN.out f1).mono ?_; rintro e w2 ⟨rfl, hb2⟩; rw [hq]; obtain ⟨A2, c2, h02, h12, HV2⟩ := (HX.out.below hb2).open; have HB2 := Aside0.mk hb2; have HG2 := Aside0.mk (HG.out.below hb2); have HN2 := Aside0.mk (HN.out.below hb2); clear hb2 h0 h1) | (go_at_call 239; refine (sub_calls HN2.out HV2.out f2 HC.out).mono ?_; rintro e w3 ⟨r, rfl, hn3, hb3⟩; have HN3 := Aside0.mk hn3; have HB3 := Aside0.mk hb3; have HG3 := Aside0.mk (HG2.out.below hb3); clear hn3 hb3) | (go_at_call 198; refine (put_calls HG3.out _ HN3.out).mono ?_; rintro e w9 ⟨rfl, hi9, ht9⟩; have HI9 := Aside0.mk hi9; have HT9 := Aside0.mk ht9; clear hi9 ht9))
      go_ret
      exact ⟨rfl, by rw [← HS.out]; exact HI9.out, (HT9.out.after_below HB3.out).after_below HB2.out⟩
/-- (*Int).sum. -/
theorem sum_calls {w : World} {g gx : Nat} {x : Int} {neg : Bool} {v : Value} {n : Nat} (hg : IntBlk w g) (hx : IntAt w gx x) (hv : NatAt w v n) (f1 : Fits x.natAbs) (f2 : Fits n) :
    Calls Tryz.prog 207 #[pt g, pt gx, .bool neg, v] w fun e w' => e = .returned (pt g) ∧ IntAt w' g (x + signed neg n) ∧ Turns g w w' := by
  by_cases hn : decide (x < 0) = neg
  · exact sum_same hg hx hv f1 f2 hn
  · exact sum_apart hg hx hv f1 f2 (by cases h : decide (x < 0) <;> cases neg <;> simp_all)
set_option maxRecDepth 100000 in
/-- (*Int).Add. -/
theorem iadd_calls {w : World} {g gx gy : Nat} {x y : Int} (hg : IntBlk w g) (hx : IntAt w gx x) (hy : IntAt w gy y) (f1 : Fits x.natAbs) (f2 : Fits y.natAbs) :
    Calls Tryz.prog 157 #[pt g, pt gx, pt gy] w fun e w' => e = .returned (pt g) ∧ IntAt w' g (x + y) ∧ Turns g w w' := by
  obtain ⟨A, c, h0, h1, HV⟩ := hy.open
  have HG := Aside0.mk hg
  have HX := Aside0.mk hx
  clear hg hx hy
  go_enter Tryz.func157, Tryz.ntmps157
  go_upto_region 1 with (fail)
  go_still_tail 10, (by kernel_rfl)
  change wpList _ _ _ _ _ w.drew
  go_wp2_with (go_at_call 207; refine (sum_calls (w := w.drew) HG.out HX.out HV.out f1 f2).mono ?_; rintro e w9 ⟨rfl, hi9, ht9⟩; have HI9 := Aside0.mk hi9; have HT9 := Aside0.mk ht9; clear hi9 ht9)
  go_ret
  exact ⟨rfl, by have := HI9.out; rw [signed_self] at this; exact this, HT9.out.drew⟩
set_option maxRecDepth 100000 in
/-- (*Int).Sub. -/
theorem isub_calls {w : World} {g gx gy : Nat} {x y : Int} (hg : IntBlk w g) (hx : IntAt w gx x) (hy : IntAt w gy y) (f1 : Fits x.natAbs) (f2 : Fits y.natAbs) :
    Calls Tryz.prog 181 #[pt g, pt gx, pt gy] w fun e w' => e = .returned (pt g) ∧ IntAt w' g (x - y) ∧ Turns g w w' := by
  obtain ⟨A, c, h0, h1, HV⟩ := hy.open
  have HG := Aside0.mk hg
  have HX := Aside0.mk hx
  clear hg hx hy
  go_enter Tryz.func181, Tryz.ntmps181
  go_upto_region 1 with (fail)
  go_still_tail 11, (by kernel_rfl)
  change wpList _ _ _ _ _ w.drew
  go_wp2_with (go_at_call 207; refine (sum_calls (w := w.drew) HG.out HX.out HV.out f1 f2).mono ?_; rintro e w9 ⟨rfl, hi9, ht9⟩; have HI9 := Aside0.mk hi9; have HT9 := Aside0.mk ht9; clear hi9 ht9)
  go_ret
  refine ⟨rfl, ?_, HT9.out.drew⟩
  have := HI9.out
  have e : x + signed (!decide (y < 0)) y.natAbs = x - y := by
    unfold signed
    by_cases h : y < 0
    · simp [h]; omega
    · simp [h]; omega
  rw [e] at this; exact this
end Go.Proofs.YtinmbcomnjmmjaaGreatDoor
namespace Go.Proofs.YtinmbcomnjmmjaaGreatDoor
open Go.RowKit Go.Proofs.YtinmbcomnjmmjaaGreatDoorW.PrintWords Go.Proofs.YtinmbcomnjmmjaaGreatDoorW.PrintLast Go.Proofs.YtinmbcomnjmmjaaGreatDoorW.PrintMore
open X
theorem signed_mul (s : Bool) (a b : Nat) : signed s (a * b) = signed s a * (b : Int) := by
  unfold signed; cases s
  · simp
  · simp [Int.neg_mul]
theorem mul_signs (x y : Int) : signed (decide (x < 0) != decide (y < 0)) (x.natAbs * y.natAbs) = x * y := by
  have e1 : ∀ z : Int, z < 0 → z = -((z.natAbs : Nat) : Int) := fun z h => by omega
  have e2 : ∀ z : Int, ¬ z < 0 → z = ((z.natAbs : Nat) : Int) := fun z h => by omega
  by_cases hx : x < 0
  · by_cases hy : y < 0
    · rw [decide_eq_true hx, decide_eq_true hy]
      generalize hp : x.natAbs = p; generalize hq : y.natAbs = q
      rw [e1 x hx, e1 y hy, hp, hq, Int.neg_mul_neg]; simp [signed]
    · rw [decide_eq_true hx, decide_eq_false hy]
      generalize hp : x.natAbs = p; generalize hq : y.natAbs = q
      rw [e1 x hx, e2 y hy, hp, hq]; simp [signed, Int.neg_mul]
  · by_cases hy : y < 0
    · rw [decide_eq_false hx, decide_eq_true hy]
      generalize hp : x.natAbs = p; generalize hq : y.natAbs = q
      rw [e2 x hx, e1 y hy, hp, hq]; simp [signed, Int.mul_neg]
    · rw [decide_eq_false hx, decide_eq_false hy]
      generalize hp : x.natAbs = p; generalize hq : y.natAbs = q
      rw [e2 x hx, e2 y hy, hp, hq]; simp [signed]
set_option maxHeartbeats 4000000 in
set_option maxRecDepth 100000 in
/-- (*Int).Lsh. -/
theorem lsh_calls {w : World} {g gx : Nat} {x k : Int} (hg : IntBlk w g) (hx : IntAt w gx x) (f1 : Fits x.natAbs) (hk0 : 0 ≤ k) (hk : k ≤ 1000000000) :
    Calls Tryz.prog 206 #[pt g, pt gx, .int .u64 k] w fun e w' => e = .returned (pt g) ∧ IntAt w' g (x * 2 ^ k.toNat) ∧ Turns g w w' := by
  obtain ⟨A, c, h0, h1, HV⟩ := hx.open
  have HG := Aside0.mk hg
  clear hg hx
  have h02 : w.drew.cell? ⟨gx, 0, none⟩ = _ := h0
  have h12 : w.drew.cell? ⟨gx, 1, none⟩ = _ := h1
  go_enter Tryz.func206, Tryz.ntmps206
  go_upto_region 1 with (fail)
  go_region_with (first | (go_at_call 236; refine (shl_calls (w := w.drew) HV.out f1 hk0 hk).mono ?_; rintro e w3 ⟨r, rfl, hn3, hb3⟩; have h03 := pw_cell_below (w := w.drew) hb3 h02; have HN3 := Aside0.mk hn3; have HB3 := Aside0.mk hb3; have HG3 := Aside0.mk (IntBlk.below (w := w.drew) HG.out hb3); clear hn3 hb3) | (go_at_call 198; refine (put_calls HG3.out _ HN3.out).mono ?_; rintro e w9 ⟨rfl, hi9, ht9⟩; have HI9 := Aside0.mk hi9; have HT9 := Aside0.mk ht9; clear hi9 ht9))
  all_goals
    go_wp2
    go_ret
    refine ⟨rfl, ?_, (HT9.out.after_below HB3.out).drew⟩
    have := HI9.out
    have e : signed (decide (x < 0)) (x.natAbs * 2 ^ k.toNat) = x * 2 ^ k.toNat := by
      rw [signed_mul, signed_self]; simp
    rw [e] at this; exact this
end Go.Proofs.YtinmbcomnjmmjaaGreatDoor
