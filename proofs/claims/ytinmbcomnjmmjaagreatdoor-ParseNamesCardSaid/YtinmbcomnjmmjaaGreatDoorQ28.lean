/- Proved: a part of what the statement on the names of parse needs: walks of functions of the program, and plain laws. (Texts Bx.) -/
import Derived.Test.YtinmbcomnjmmjaaGreatDoorQ22
import Derived.Test.YtinmbcomnjmmjaaGreatDoorQ26
import Derived.Test.YtinmbcomnjmmjaaGreatDoorQ27
namespace Go.Proofs.YtinmbcomnjmmjaaGreatDoor
open Go.RowKit Go.Proofs.YtinmbcomnjmmjaaGreatDoorW.PrintWords Go.Proofs.YtinmbcomnjmmjaaGreatDoorW.PrintLast Go.Proofs.YtinmbcomnjmmjaaGreatDoorW.PrintMore
open X
theorem digs_one {n : Nat} (h : n < 4294967296) (h0 : n ≠ 0) : digs n = [(n : Int)] := by
  rw [digs_pos h0, show n / 4294967296 = 0 by omega, digs_zero, Nat.mod_eq_of_lt h]
theorem bitN_small {n i : Nat} (h : n < 4294967296) (hi : i < 32) : bitN n i = ((n / 2 ^ i % 2 : Nat) : Int) := by
  unfold bitN
  rw [show i / 32 = 0 by omega, show i % 32 = i by omega]
  by_cases h0 : n = 0
  · subst h0; rw [digs_zero]; simp
  · rw [digs_one h h0]; simp
theorem bl_small {n : Nat} (h : n < 4294967296) : n < 2 ^ bl n ∧ bl n ≤ 32 := by
  unfold bl
  by_cases h0 : n = 0
  · subst h0; simp
  · rw [if_neg h0, digs_one h h0]
    simp only [List.length_singleton, Nat.sub_self, Nat.mul_zero, Nat.zero_add, List.getD_cons_zero, Int.toNat_natCast]
    exact ⟨lt_bitLen n (by omega), Lib.bitLen_le _ 32 (by decide) (by omega)⟩
theorem pow_half (x n j : Nat) : x ^ (n / 2 ^ j) = x ^ (n / 2 ^ (j + 1)) * x ^ (n / 2 ^ (j + 1)) * x ^ (n / 2 ^ j % 2) := by
  rw [← Nat.pow_add, ← Nat.pow_add]
  congr 1
  rw [Nat.pow_succ, ← Nat.div_div_eq_div_mul]
  omega
theorem pow_le_fits {x n q : Nat} (hf : Fits (x ^ n)) (hq : q ≤ n) (hx : 0 < x) : Fits (x ^ q) := hf.mono (Nat.pow_le_pow_right hx hq)
set_option maxHeartbeats 2000000 in
set_option maxRecDepth 100000 in
/-- (*Int).Exp. -/
theorem exp_calls {w : World} {g gx gy x n : Nat} (hg : IntBlk w g) (hx : IntAt w gx (x : Int)) (hy : IntAt w gy (n : Int)) (hn : n < 4294967296) (hx0 : 0 < x) (fx : Fits x) (fn : Fits (x ^ n)) :
    Calls Tryz.prog 187 #[pt g, pt gx, pt gy, .pointer none] w fun e w' => e = .returned (pt g) ∧ IntAt w' g ((x ^ n : Nat) : Int) ∧ Turns g w w' := by
  have HX := Aside0.mk hx; have HY := Aside0.mk hy; have HG := Aside0.mk hg
  have FX := Aside0.mk fx; have FN := Aside0.mk fn; have HN := Aside0.mk hn; have HX0 := Aside0.mk hx0
  obtain ⟨hb1, hb2⟩ := bl_small hn
  have HB1 := Aside0.mk hb1
  have fnn : Fits n := by
    unfold Fits
    exact Nat.le_trans (digs_length_le (k := 1) (by omega)) (by decide)
  have FNN := Aside0.mk fnn
  obtain ⟨L, hL⟩ : ∃ L, bl n = L := ⟨_, rfl⟩
  rw [hL] at HB1 hb2
  have HL := Aside0.mk hL
  clear hg hx hy fx fn hn hb1 hL hx0 fnn
  go_enter Tryz.func187, Tryz.ntmps187
  go_upto_region 2 with (go_at_call 182; refine (newint_calls w 1 (by decide) (by decide)).mono ?_; rintro e w1 ⟨go, rfl, hgo, hi1, hb1⟩; have HI1 := Aside0.mk hi1; have HBe := Aside0.mk hb1; clear hi1 hb1)
  have HY1 := Aside0.mk (HY.out.below HBe.out)
  go_wp2_with (go_at_call 202; refine (ibitlen_calls HY1.out FNN.out).mono ?_; rintro e w2 ⟨rfl, rfl⟩; rw [Int.natAbs_natCast, HL.out])
  go_loopw [10] (fun v10 wr => ∃ (j : Nat) (i : Int), v10 = .int .i64 i ∧ i = (j : Int) - 1 ∧ j ≤ L ∧ Aside0 (IntAt wr go ((x ^ (n / 2 ^ j) : Nat) : Int)) ∧ Aside0 (Below w.heap.size w wr)) (fun i _ => (intOf i + 1).toNat)
  case atStart => exact ⟨L, _, rfl, rfl, Nat.le_refl _, by rw [Nat.div_eq_of_lt HB1.out]; exact HI1, HBe⟩
  case round =>
    obtain ⟨j, i, rfl, hij, hjL, HI, HB⟩ := hrel
    clear HI1 HBe HY1
    rcases j with _ | j
    · have hi1 : i = -1 := by omega
      subst hi1
      clear hij
      have HG1 := Aside0.mk (HG.out.below HB.out)
      rw [Nat.pow_zero, Nat.div_one] at HI
      go_wp2_with (go_at_call 180; refine (set_calls HG1.out HI.out).mono ?_; rintro e w9 ⟨rfl, hi9, ht9⟩; have HI9 := Aside0.mk hi9; have HT9 := Aside0.mk ht9; clear hi9 ht9)
      go_ret
      exact ⟨rfl, HI9.out, HT9.out.after_below HB.out⟩
    · have hij' : i = (j : Int) := by omega
      subst hij'
      clear hij
      have hj32 : j < 32 := by omega
      have hle1 : n / 2 ^ (j + 1) ≤ n := Nat.div_le_self _ _
      have F1 := Aside0.mk (pow_le_fits FN.out hle1 HX0.out)
      have hle2 : n / 2 ^ (j + 1) + n / 2 ^ (j + 1) ≤ n := by
        rw [Nat.pow_succ, ← Nat.div_div_eq_div_mul]
        have := Nat.div_le_self n (2 ^ j)
        omega
      have F2 : Aside0 (Fits (x ^ (n / 2 ^ (j + 1)) * x ^ (n / 2 ^ (j + 1)))) := ⟨by rw [← Nat.pow_add]; exact pow_le_fits FN.out hle2 HX0.out⟩
      have HP := Aside0.mk (pow_half x n j)
      have HBI := Aside0.mk (bitN_small HN.out hj32)
      clear hle1 hle2
      generalize hP : x ^ (n / 2 ^ (j + 1)) = p at *
      generalize hR : x ^ (n / 2 ^ j) = p' at *
      have hb2 : n / 2 ^ j % 2 = 0 ∨ n / 2 ^ j % 2 = 1 := by omega
      generalize hbb : n / 2 ^ j % 2 = b at *
      have HRR := Aside0.mk hR
      clear hP hR hbb
      rcases hb2 with rfl | rfl
      · go_wp2_with (first
          | (go_at_call 188; refine (imul_calls HI.out.blk HI.out HI.out (by rw [Int.natAbs_natCast]; exact F1.out) (by rw [Int.natAbs_natCast]; exact F1.out)).mono ?_; rintro e w3 ⟨rfl, hi3, ht3⟩; have HI3 := Aside0.mk hi3; have HB3 := Aside0.mk (Turns.below HB.out HB.out.size hgo ht3); clear hi3 ht3 HI)
          | (go_at_call 231; refine (ibit_calls (HY.out.below HB3.out) FNN.out j (by omega)).mono ?_; rintro e w4 ⟨rfl, rfl⟩; rw [Int.natAbs_natCast, HBI.out]))
        go_roundw
        case rel => exact ⟨j, _, rfl, rfl, by omega, by rw [HRR.out, HP.out, Nat.pow_zero, Nat.mul_one, Int.natCast_mul]; exact HI3, HB3⟩
        case measure => simp [intOf]
      · go_wp2_with (first
          | (go_at_call 188; refine (imul_calls HI.out.blk HI.out HI.out (by rw [Int.natAbs_natCast]; exact F1.out) (by rw [Int.natAbs_natCast]; exact F1.out)).mono ?_; rintro e w3 ⟨rfl, hi3, ht3⟩; have HI3 := Aside0.mk hi3; have HB3 := Aside0.mk (Turns.below HB.out HB.out.size hgo ht3); clear hi3 ht3 HI)
          | (go_at_call 231; refine (ibit_calls (HY.out.below HB3.out) FNN.out j (by omega)).mono ?_; rintro e w4 ⟨rfl, rfl⟩; rw [Int.natAbs_natCast, HBI.out])
          | (go_at_call 188; refine (imul_calls HI3.out.blk HI3.out (HX.out.below HB3.out) (by rw [← Int.natCast_mul, Int.natAbs_natCast]; exact F2.out) (by rw [Int.natAbs_natCast]; exact FX.out)).mono ?_; rintro e w5 ⟨rfl, hi5, ht5⟩; have HI5 := Aside0.mk hi5; have HB5 := Aside0.mk (Turns.below HB3.out HB3.out.size hgo ht5); clear hi5 ht5))
        go_roundw
        case rel => exact ⟨j, _, rfl, rfl, by omega, by rw [HRR.out, HP.out, Nat.pow_one, Int.natCast_mul, Int.natCast_mul]; exact HI5, HB5⟩
        case measure => simp [intOf]
end Go.Proofs.YtinmbcomnjmmjaaGreatDoor
