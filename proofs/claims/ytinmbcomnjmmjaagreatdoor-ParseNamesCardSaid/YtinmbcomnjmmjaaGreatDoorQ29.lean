/- Proved: a part of what the statement on the names of parse needs: walks of functions of the program, and plain laws. (Texts Cc.) -/
import Derived.Test.YtinmbcomnjmmjaaGreatDoorQ22
import Derived.Test.YtinmbcomnjmmjaaGreatDoorQ25
import Derived.Test.YtinmbcomnjmmjaaGreatDoorQ28
namespace Go.Proofs.YtinmbcomnjmmjaaGreatDoor
open Go.RowKit Go.Proofs.YtinmbcomnjmmjaaGreatDoorW.PrintWords Go.Proofs.YtinmbcomnjmmjaaGreatDoorW.PrintLast Go.Proofs.YtinmbcomnjmmjaaGreatDoorW.PrintMore
open X
def magI (m : Nat) (last : Int) : Nat := if 1024 < (bl m : Int) + last then 9218868437227405312 else ldexpB (ofU m) last
def magH (m : Nat) (last : Int) : Nat := if 53 < bl m then magI (m / 2) (last + 1) else magI m last
def magUp (m : Nat) (half : Int) (rest up near : Bool) : Bool := (up && rest) || (near && (decide (0 < half) || (decide (half = 0) && decide (m % 2 = 1))))
def magG (m : Nat) (last half : Int) (rest up near : Bool) : Nat := magH (if magUp m half rest up near then m + 1 else m) last
def magM (n : Nat) (k : Int) : Nat := if k ≤ 0 then n * 2 ^ (-k).toNat else n / 2 ^ k.toNat
def magHf (n : Nat) (k : Int) (rest : Bool) : Int := if k ≤ 0 then -1 else if cmpN (n % 2 ^ k.toNat) (2 ^ (k - 1).toNat) = 0 then (if rest then 1 else 0) else cmpN (n % 2 ^ k.toNat) (2 ^ (k - 1).toNat)
def magR (n : Nat) (k : Int) (rest : Bool) : Bool := rest || (decide (0 < k) && decide (n % 2 ^ k.toNat ≠ 0))
/-- A magnitude's float. -/
def magF (n : Nat) (e top : Int) (rest up near : Bool) : Nat :=
  if 1024 < top then (if up || near then 9218868437227405312 else 9218868437227405311)
  else if top < -1075 then (if up then 1 else 0)
  else magG (magM n (max (top - 53) (-1074) - e)) (max (top - 53) (-1074)) (magHf n (max (top - 53) (-1074) - e) rest) (magR n (max (top - 53) (-1074) - e) rest) up near
theorem lt_bl (n : Nat) : n < 2 ^ bl n := by
  unfold bl
  by_cases h : n = 0
  · subst h; simp
  · rw [if_neg h]
    obtain ⟨k, hk⟩ : ∃ k, (digs n).length = k + 1 := ⟨(digs n).length - 1, by have := digs_pos_len h; omega⟩
    rw [hk, Nat.add_sub_cancel]
    have hd := (digs_digs n).getD k
    have h1 : (digs n).take (k + 1) = digs n := List.take_of_length_le (by omega)
    have h2 := val_take_succ' (digs n) k
    rw [h1, val_digs] at h2
    have hlow : val ((digs n).take k) < 4294967296 ^ k := Nat.lt_of_lt_of_le (val_lt ((digs_digs n).take _)) (Nat.pow_le_pow_right (by decide) (List.length_take_le _ _))
    have hb := lt_bitLen ((digs n).getD k 0).toNat (by have := hd.2; omega)
    generalize ((digs n).getD k 0).toNat = x at *
    rw [Nat.pow_add, show 2 ^ (32 * k) = 4294967296 ^ k by rw [Nat.pow_mul]]
    have h3 := Nat.mul_le_mul_left (4294967296 ^ k) (show x + 1 ≤ 2 ^ Lib.bitLen x from hb)
    rw [Nat.mul_add, Nat.mul_one, Nat.mul_comm _ x] at h3
    omega
theorem magM_lt {n : Nat} {e top last k : Int} (ht : top = (bl n : Int) + e) (hl : max (top - 53) (-1074) = last) (hk : last - e = k) : magM n k < 9007199254740992 := by
  have h := lt_bl n
  unfold magM
  split
  · rename_i hk2
    have h1 : bl n + (-k).toNat ≤ 53 := by omega
    have h2 : n * 2 ^ (-k).toNat < 2 ^ (bl n) * 2 ^ (-k).toNat := Nat.mul_lt_mul_of_pos_right h (Nat.pow_pos (by decide))
    rw [← Nat.pow_add] at h2
    exact Nat.lt_of_lt_of_le h2 (Nat.pow_le_pow_right (by decide) h1)
  · rename_i hk2
    have h1 : bl n ≤ 53 + k.toNat := by omega
    have h2 : n < 2 ^ (53 + k.toNat) := Nat.lt_of_lt_of_le h (Nat.pow_le_pow_right (by decide) h1)
    rw [Nat.pow_add] at h2
    rw [Nat.div_lt_iff_lt_mul (Nat.pow_pos (by decide))]
    exact h2
theorem fits_bits {n k : Nat} (h : n < 2 ^ k) (hk : k ≤ 1000000000) : Fits n := by
  unfold Fits
  exact Nat.le_trans (digs_length_le (Nat.lt_of_lt_of_le h (Nat.pow_le_pow_left (by decide) k))) hk
theorem bl_le64 {m : Nat} (h : m < 1152921504606846976) : bl m ≤ 64 := by
  unfold bl
  split
  · omega
  · have h1 : (digs m).length ≤ 2 := digs_length_le (by omega)
    have hd := (digs_digs m).getD ((digs m).length - 1)
    have h2 : Lib.bitLen ((digs m).getD ((digs m).length - 1) 0).toNat ≤ 32 := Lib.bitLen_le _ 32 (by decide) (by have := hd.2; omega)
    omega
theorem odd_bit (m : Nat) : bitN m 0 = ((m % 2 : Nat) : Int) := by
  unfold bitN
  by_cases h : m = 0
  · subst h; rw [digs_zero]; rfl
  · rw [digs_pos h]
    simp only [Nat.zero_div, Nat.zero_mod, List.getD_cons_zero, Int.pow_zero, Int.ediv_one]
    omega
theorem natAbs_mul_pow (Q k : Nat) : ((Q : Int) * 2 ^ k).natAbs = Q * 2 ^ k := by
  rw [Int.natAbs_mul, Int.natAbs_natCast, Int.natAbs_pow]; rfl
theorem one_mul_pow (k : Nat) : (1 : Int) * 2 ^ k = ((2 ^ k : Nat) : Int) := by simp
theorem low_sub (n k : Nat) : (n : Int) - ((n / 2 ^ k : Nat) : Int) * 2 ^ k = ((n % 2 ^ k : Nat) : Int) := by
  have h := Nat.div_add_mod n (2 ^ k)
  have h2 : ((2 ^ k : Nat) : Int) * ((n / 2 ^ k : Nat) : Int) + ((n % 2 ^ k : Nat) : Int) = (n : Int) := by exact_mod_cast h
  have h3 : ((2 ^ k : Nat) : Int) = (2 : Int) ^ k := by simp
  rw [h3] at h2
  rw [Int.mul_comm]; omega
/-- A new big.Int. -/
abbrev intO : Obj := .cells #[.bool false, .slice none 0 0] 184
theorem two_new {w : World} : IntBlk ((w.alloc intO).alloc intO) w.heap.size ∧ IntBlk ((w.alloc intO).alloc intO) (w.heap.size + 1) ∧ Below w.heap.size w ((w.alloc intO).alloc intO) := by
  refine ⟨(IntAt.new w).blk.below (alloc_below _ intO), ?_, below_step (alloc_below w intO) (alloc_below _ intO)⟩
  have := (IntAt.new (w.alloc intO)).blk
  rw [alloc_size] at this; exact this
set_option maxHeartbeats 8000000 in
set_option maxRecDepth 100000 in
/-- dyad.magnitude. -/
theorem mag_calls {w : World} {g n : Nat} {e top : Int} {rest up near : Bool} (hz : IntAt w g (n : Int)) (hn : bl n ≤ 1000000) (he0 : -1000000 ≤ e) (he1 : e ≤ 1000000) (ht : top = (bl n : Int) + e) :
    Calls Tryz.prog 209 #[pt g, .int .i64 e, .int .i64 top, .bool rest, .bool up, .bool near] w fun e' w' => e' = .returned (.float .f64 (magF n e top rest up near)) ∧ Below w.heap.size w w' := by
  have HZ := Aside0.mk hz
  have FN := Aside0.mk (fits_bits (lt_bl n) (by omega))
  have HB0 := Aside0.mk (Below.refl w.heap.size w)
  obtain ⟨D, hD⟩ : ∃ D : Nat, D = 1000000 := ⟨_, rfl⟩
  have hbt : n < 2 ^ D := Nat.lt_of_lt_of_le (lt_bl n) (Nat.pow_le_pow_right (by decide) (by omega))
  have HBT := Aside0.mk hbt
  have ht0 : -1000000 ≤ top := by omega
  have ht1 : top ≤ 2000000 := by omega
  have HTE := Aside0.mk ht
  clear ht hn hbt
  by_cases c1 : 1024 < top
  · have HE : Aside0 (magF n e top rest up near = if up || near then 9218868437227405312 else 9218868437227405311) := ⟨by unfold magF; rw [if_pos c1]⟩
    clear hz
    cases up
    · cases near
      · go_enter Tryz.func209, Tryz.ntmps209
        go_wp2_with (go_at_call 78; refine (inf_calls _).mono ?_; rintro e' w ⟨rfl, rfl⟩)
        go_ret
        exact ⟨by rw [HE.out]; rfl, HB0.out⟩
      · go_enter Tryz.func209, Tryz.ntmps209
        go_wp2_with (go_at_call 78; refine (inf_calls _).mono ?_; rintro e' w ⟨rfl, rfl⟩)
        go_ret
        exact ⟨by rw [HE.out]; rfl, HB0.out⟩
    · go_enter Tryz.func209, Tryz.ntmps209
      go_wp2_with (go_at_call 78; refine (inf_calls _).mono ?_; rintro e' w ⟨rfl, rfl⟩)
      go_ret
      exact ⟨by rw [HE.out]; rfl, HB0.out⟩
  by_cases c2 : top < -1075
  · have HE : Aside0 (magF n e top rest up near = if up then 1 else 0) := ⟨by unfold magF; rw [if_neg c1, if_pos c2]⟩
    clear hz
    cases up
    · go_enter Tryz.func209, Tryz.ntmps209
      go_wp2
      go_ret
      exact ⟨by rw [HE.out]; rfl, HB0.out⟩
    · go_enter Tryz.func209, Tryz.ntmps209
      go_wp2
      go_ret
      exact ⟨by rw [HE.out]; rfl, HB0.out⟩
  obtain ⟨last, hlast⟩ : ∃ last, max (top - 53) (-1074) = last := ⟨_, rfl⟩
  obtain ⟨k, hk⟩ : ∃ k, last - e = k := ⟨_, rfl⟩
  have HE : Aside0 (magF n e top rest up near = magG (magM n k) last (magHf n k rest) (magR n k rest) up near) := ⟨by unfold magF; rw [if_neg c1, if_neg c2, hlast, hk]⟩
  have HML := Aside0.mk (magM_lt HTE.out hlast hk)
  have hl0 : -1074 ≤ last := by omega
  have hl1 : last ≤ 971 := by omega
  have hk0 : -1001074 ≤ k := by omega
  have hk1 : k ≤ 1000971 := by omega
  have hcv := fun (w : World) (q : Int) => run_convert_int_float (P := Tryz.prog) w 96 23 .u64 .f64 q (by rw [Tryz.underlying96]; rfl) Tryz.underlying23
  clear hz
  go_enter Tryz.func209, Tryz.ntmps209
  go_upto_block 0 with (fail)
  have HI0 := Aside0.mk (IntAt.new w)
  have HBA := Aside0.mk (alloc_below w (.cells #[.bool false, .slice none 0 0] 184))
  have HZ0 := Aside0.mk (HZ.out.below HBA.out)
  obtain ⟨gm, hgm⟩ : ∃ gm, w.heap.size = gm := ⟨_, rfl⟩
  rw [hgm] at HI0 ⊢
  have hgz : g ≠ gm := by have := HZ.out.lt; omega
  have hgl : gm < (w.alloc (.cells #[.bool false, .slice none 0 0] 184)).heap.size := by rw [alloc_size]; omega
  have HGM := Aside0.mk hgm
  generalize w.alloc _ = w1 at HI0 HBA HZ0 hgl ⊢
  clear hgm
  have FMs : Aside0 (Fits (magM n k + 1)) := ⟨by
    unfold magM
    split
    · refine fits_bits (k := D + (-k).toNat + 1) ?_ (by omega)
      have h1 : n * 2 ^ (-k).toNat < 2 ^ (D + (-k).toNat) := by rw [Nat.pow_add]; exact Nat.mul_lt_mul_of_pos_right HBT.out (Nat.pow_pos (by decide))
      rw [Nat.pow_succ]
      have := Nat.pow_pos (n := D + (-k).toNat) (show 0 < 2 by decide)
      omega
    · refine fits_bits (k := D + 1) ?_ (by omega)
      have h1 : n / 2 ^ k.toNat ≤ n := Nat.div_le_self _ _
      have h2 := HBT.out
      rw [Nat.pow_succ]
      have := Nat.pow_pos (n := D) (show 0 < 2 by decide)
      omega⟩
  have FM : Aside0 (Fits (magM n k)) := ⟨by
    unfold magM
    split
    · refine fits_bits (k := D + (-k).toNat) ?_ (by omega)
      rw [Nat.pow_add]
      exact Nat.mul_lt_mul_of_pos_right HBT.out (Nat.pow_pos (by decide))
    · exact FN.out.mono (Nat.div_le_self _ _)⟩
  go_cut [3, 16, 17] (fun v3 v16 _ wc => v3 = .bool (magR n k rest) ∧ v16 = .int .i64 (magHf n k rest) ∧ Aside0 (IntAt wc gm (magM n k : Int)) ∧ Aside0 (Below w.heap.size w wc))
  case first =>
    by_cases hk2 : k ≤ 0
    · have e1 : magR n k rest = rest := by unfold magR; rw [decide_eq_false (by omega)]; simp
      have e2 : magHf n k rest = -1 := by unfold magHf; rw [if_pos hk2]
      have e3 : magM n k = n * 2 ^ (-k).toNat := by unfold magM; rw [if_pos hk2]
      have HE1 := Aside0.mk e1; have HE2 := Aside0.mk e2; have HE3 := Aside0.mk e3
      clear e1 e2 e3
      have hb : decide (k ≤ 0) = true := decide_eq_true hk2
      go_wp2_with (go_at_call 206; refine (lsh_calls HI0.out.blk HZ0.out (by rw [Int.natAbs_natCast]; exact FN.out) (by omega) (by omega)).mono ?_; rintro e' w2 ⟨rfl, hi2, ht2⟩; have HI2 := Aside0.mk hi2; have HT2 := Aside0.mk ht2; clear hi2 ht2)
      go_meet
      case rel => exact ⟨by rw [HE1.out], by rw [HE2.out], ⟨by rw [HE3.out]; simpa using HI2.out⟩, ⟨Turns.below HBA.out HBA.out.size (by have := HGM.out; omega) HT2.out⟩⟩
    · have hkp : 0 < k := by omega
      obtain ⟨Q, hQ⟩ : ∃ Q, n / 2 ^ k.toNat = Q := ⟨_, rfl⟩
      obtain ⟨L, hL⟩ : ∃ L, n % 2 ^ k.toNat = L := ⟨_, rfl⟩
      have e1 : magR n k rest = (rest || decide (L ≠ 0)) := by unfold magR; rw [decide_eq_true hkp, hL]; simp
      have e2 : magHf n k rest = if cmpN L (2 ^ (k - 1).toNat) = 0 then (if rest then 1 else 0) else cmpN L (2 ^ (k - 1).toNat) := by unfold magHf; rw [if_neg hk2, hL]
      have e3 : magM n k = Q := by unfold magM; rw [if_neg hk2, hQ]
      have e4 := low_sub n k.toNat
      rw [hQ, hL] at e4
      have hQn : Q ≤ n := by rw [← hQ]; exact Nat.div_le_self _ _
      have hLn : L ≤ n := by rw [← hL]; exact Nat.mod_le _ _
      have hQk : Q * 2 ^ k.toNat ≤ n := by rw [← hQ]; exact Nat.div_mul_le_self _ _
      have FQ := Aside0.mk (FN.out.mono hQn)
      have FL := Aside0.mk (FN.out.mono hLn)
      have FQk := Aside0.mk (FN.out.mono hQk)
      have F1 : Aside0 (Fits 1) := ⟨fits_bits (k := 1) (by decide) (by decide)⟩
      have HE1 := Aside0.mk e1; have HE2 := Aside0.mk e2; have HE3 := Aside0.mk e3; have HE4 := Aside0.mk e4; have HQ := Aside0.mk hQ
      obtain ⟨C, hC⟩ : ∃ C, cmpN L (2 ^ (k - 1).toNat) = C := ⟨_, rfl⟩
      rw [hC] at HE2
      have HC := Aside0.mk hC
      clear e1 e2 e3 e4 hQ hL hQn hLn hQk hC
      have hb : decide (k ≤ 0) = false := decide_eq_false hk2
      go_upto_region 16 with (first
        | (go_at_call 201; refine (rsh_calls HI0.out.blk HZ0.out FN.out (by omega) (by omega)).mono ?_; rintro e' w2 ⟨rfl, hi2, ht2⟩; rw [HQ.out] at hi2; have HI2 := Aside0.mk hi2; have HZ2 := Aside0.mk (HZ0.out.turns hgz HI0.out.blk ht2); have HB2 := Aside0.mk (Turns.below HBA.out HBA.out.size (by have := HGM.out; omega) ht2); have hs2 := HI2.out.lt; have hg2 := HZ2.out.lt; obtain ⟨N1, N2, N3⟩ := two_new (w := w2); have HN1 := Aside0.mk N1; have HN2 := Aside0.mk N2; have HN3 := Aside0.mk N3; clear hi2 ht2 N1 N2 N3)
        | (go_at_call 206; have hflag := HN2; clear hflag; refine (lsh_calls HN2.out (HI2.out.below HN3.out) (by rw [Int.natAbs_natCast]; exact FQ.out) (by omega) (by omega)).mono ?_; rintro e' w5 ⟨rfl, hi5, ht5⟩; have HI5 := Aside0.mk hi5; have HZ5 := Aside0.mk ((HZ2.out.below HN3.out).turns (by omega) HN2.out ht5); have HM5 := Aside0.mk ((HI2.out.below HN3.out).turns (by omega) HN2.out ht5); have HG5 := Aside0.mk (HN1.out.turns (by omega) ht5); have HB5 := Aside0.mk (Turns.below (below_step HB2.out HN3.out) (below_step HB2.out HN3.out).size (by have := HB2.out.size; omega) ht5); clear hi5 ht5 HN2)
        | (go_at_call 181; refine (isub_calls HG5.out HZ5.out HI5.out (by rw [Int.natAbs_natCast]; exact FN.out) (by rw [natAbs_mul_pow]; exact FQk.out)).mono ?_; rintro e' w6 ⟨rfl, hi6, ht6⟩; rw [HE4.out] at hi6; have HI6 := Aside0.mk hi6; have HM6 := Aside0.mk (HM5.out.turns (by omega) HG5.out ht6); have HB6 := Aside0.mk (Turns.below HB5.out HB5.out.size (by have := HB2.out.size; omega) ht6); have HN6 := Aside0.mk (IntAt.new w6).blk; have HA6 := Aside0.mk (alloc_below w6 intO); have hs6 := HI6.out.lt; have hs7 := HM6.out.lt; clear hi6 ht6)
        | (go_at_call 182; refine (newint_calls _ 1 (by decide) (by decide)).mono ?_; rintro e' w8 ⟨go, rfl, hgo, hi8, hb8⟩; have HI8 := Aside0.mk hi8; have HG8 := Aside0.mk (HN6.out.below hb8); have HL8 := Aside0.mk ((HI6.out.below HA6.out).below hb8); have HM8 := Aside0.mk ((HM6.out.below HA6.out).below hb8); have HB8 := Aside0.mk (below_step (below_step HB6.out HA6.out) hb8); have hle6 := HB6.out.size; clear hi8 hb8)
        | (go_at_call 206; have hflag := HG8; clear hflag; refine (lsh_calls HG8.out HI8.out F1.out (by omega) (by omega)).mono ?_; rintro e' w9 ⟨rfl, hi9, ht9⟩; rw [one_mul_pow] at hi9; have HI9 := Aside0.mk hi9; have HL9 := Aside0.mk (HL8.out.turns (by omega) HG8.out ht9); have HM9 := Aside0.mk (HM8.out.turns (by omega) HG8.out ht9); have HB9 := Aside0.mk (Turns.below HB8.out HB8.out.size hle6 ht9); clear hi9 ht9)
        | (go_at_call 241; refine (icmp_calls HL9.out HI9.out FL.out).mono ?_; rintro e' w10 ⟨rfl, hb10⟩; rw [HC.out]; have HL10 := Aside0.mk (HL9.out.below hb10); have HM10 := Aside0.mk (HM9.out.below hb10); have HB10 := Aside0.mk (below_step HB9.out hb10); clear hb10))
      have hsL : ((L : Int).sign != 0) = decide (L ≠ 0) := by
        by_cases h : L = 0
        · subst h; rfl
        · rw [Int.sign_eq_one_of_pos (by omega)]; simp [h]
      by_cases hC0 : C = 0
      · subst hC0
        cases rest
        · go_wp2_with (go_at_call 179; refine (sign_calls HL10.out).mono ?_; rintro e' w ⟨rfl, rfl⟩)
          go_meet
          case rel => exact ⟨by rw [HE1.out]; first | rfl | simp, by rw [HE2.out]; rfl, ⟨by rw [HE3.out]; exact HM10.out⟩, HB10⟩
        · go_wp2_with (go_at_call 179; refine (sign_calls HL10.out).mono ?_; rintro e' w ⟨rfl, rfl⟩)
          go_meet
          case rel => exact ⟨by rw [HE1.out]; rfl, by rw [HE2.out]; rfl, ⟨by rw [HE3.out]; exact HM10.out⟩, HB10⟩
      · have hCb : (C == 0) = false := beq_eq_false_iff_ne.mpr hC0
        cases rest
        · go_wp2_with (go_at_call 179; refine (sign_calls HL10.out).mono ?_; rintro e' w ⟨rfl, rfl⟩)
          go_meet
          case rel => exact ⟨by rw [HE1.out]; first | rfl | simp, by rw [HE2.out, if_neg hC0], ⟨by rw [HE3.out]; exact HM10.out⟩, HB10⟩
        · go_wp2_with (go_at_call 179; refine (sign_calls HL10.out).mono ?_; rintro e' w ⟨rfl, rfl⟩)
          go_meet
          case rel => exact ⟨by rw [HE1.out]; rfl, by rw [HE2.out, if_neg hC0], ⟨by rw [HE3.out]; exact HM10.out⟩, HB10⟩
  case rest =>
    obtain ⟨rfl, rfl, HM, HB⟩ := hcut
    have HG := Aside0.mk HE.out
    clear HE
    generalize magM n k = M at *
    generalize magHf n k rest = H at *
    generalize magR n k rest = R at *
    have hgw : w.heap.size ≤ gm := by have := HGM.out; omega
    clear hgz HI0 HZ0 HBA FN HZ HB0 HBT hgl HGM hk hk0 hk1 hD
    have F1 : Aside0 (Fits (1 : Int).natAbs) := ⟨fits_bits (k := 1) (by decide) (by decide)⟩
    have FM1 : Aside0 (Fits (if magUp M H R up near then M + 1 else M)) := ⟨by split <;> first | exact FMs.out | exact FM.out⟩
    go_upto_region 21 with (fail)
    go_cut [95] (fun v95 wd => v95 = .bool (magUp M H R up near) ∧ wd = wc)
    case first =>
      by_cases hUR : (up && R) = true
      · have HU : Aside0 (magUp M H R up near = true) := ⟨by unfold magUp; rw [hUR]; rfl⟩
        obtain ⟨rfl, rfl⟩ : up = true ∧ R = true := by simpa using hUR
        clear hUR
        go_wp2
        go_meet
        case rel => exact ⟨by rw [HU.out], rfl⟩
      · have hUR' : (up && R) = false := by simpa using hUR
        clear hUR
        cases near
        · have HU : Aside0 (magUp M H R up false = false) := ⟨by unfold magUp; rw [hUR']; rfl⟩
          cases up
          · clear hUR'
            go_wp2
            go_meet
            case rel => exact ⟨by rw [HU.out], rfl⟩
          · obtain rfl : R = false := by simpa using hUR'
            clear hUR'
            go_wp2
            go_meet
            case rel => exact ⟨by rw [HU.out], rfl⟩
        · by_cases hH : 0 < H
          · have HU : Aside0 (magUp M H R up true = true) := ⟨by unfold magUp; rw [hUR', decide_eq_true hH]; rfl⟩
            cases up
            · clear hUR'
              go_wp2
              go_meet
              case rel => exact ⟨by rw [HU.out], rfl⟩
            · obtain rfl : R = false := by simpa using hUR'
              clear hUR'
              go_wp2
              go_meet
              case rel => exact ⟨by rw [HU.out], rfl⟩
          · by_cases hH0 : H = 0
            · subst hH0
              by_cases hp : M % 2 = 1
              · have HU : Aside0 (magUp M 0 R up true = true) := ⟨by unfold magUp; rw [hUR']; simp [hp]⟩
                have hpar : ((M % 2 : Nat) : Int) = 1 := by omega
                clear hp
                cases up
                · clear hUR'
                  go_wp2_with (go_at_call 231; refine (ibit_calls HM.out (by rw [Int.natAbs_natCast]; exact FM.out) 0 (by decide)).mono ?_; rintro e' wc ⟨rfl, rfl⟩; rw [Int.natAbs_natCast, odd_bit, hpar])
                  go_meet
                  case rel => exact ⟨by rw [HU.out], rfl⟩
                · obtain rfl : R = false := by simpa using hUR'
                  clear hUR'
                  go_wp2_with (go_at_call 231; refine (ibit_calls HM.out (by rw [Int.natAbs_natCast]; exact FM.out) 0 (by decide)).mono ?_; rintro e' wc ⟨rfl, rfl⟩; rw [Int.natAbs_natCast, odd_bit, hpar])
                  go_meet
                  case rel => exact ⟨by rw [HU.out], rfl⟩
              · have HU : Aside0 (magUp M 0 R up true = false) := ⟨by unfold magUp; rw [hUR']; simp [hp]⟩
                have hpar : ((M % 2 : Nat) : Int) = 0 := by omega
                clear hp
                cases up
                · clear hUR'
                  go_wp2_with (go_at_call 231; refine (ibit_calls HM.out (by rw [Int.natAbs_natCast]; exact FM.out) 0 (by decide)).mono ?_; rintro e' wc ⟨rfl, rfl⟩; rw [Int.natAbs_natCast, odd_bit, hpar])
                  go_meet
                  case rel => exact ⟨by rw [HU.out], rfl⟩
                · obtain rfl : R = false := by simpa using hUR'
                  clear hUR'
                  go_wp2_with (go_at_call 231; refine (ibit_calls HM.out (by rw [Int.natAbs_natCast]; exact FM.out) 0 (by decide)).mono ?_; rintro e' wc ⟨rfl, rfl⟩; rw [Int.natAbs_natCast, odd_bit, hpar])
                  go_meet
                  case rel => exact ⟨by rw [HU.out], rfl⟩
            · have HU : Aside0 (magUp M H R up true = false) := ⟨by unfold magUp; rw [hUR', decide_eq_false hH, decide_eq_false hH0]; rfl⟩
              have hHb : (H == 0) = false := beq_eq_false_iff_ne.mpr hH0
              cases up
              · clear hUR'
                go_wp2
                go_meet
                case rel => exact ⟨by rw [HU.out], rfl⟩
              · obtain rfl : R = false := by simpa using hUR'
                clear hUR'
                go_wp2
                go_meet
                case rel => exact ⟨by rw [HU.out], rfl⟩
    case rest =>
      obtain ⟨rfl, hwd⟩ := hcut
      subst hwd
      have HGU : Aside0 (magG M last H R up near = magH (if magUp M H R up near then M + 1 else M) last) := ⟨rfl⟩
      generalize magUp M H R up near = U at *
      clear FM1
      cases U
      · have HH : Aside0 (magF n e top rest up near = magH M last) := ⟨by rw [HG.out, HGU.out, if_neg Bool.false_ne_true]⟩
        clear HG HGU FMs
        go_upto_region 23 with (fail)
        obtain ⟨b, hb⟩ : ∃ b, bl (M) = b := ⟨_, rfl⟩
        have HBL := Aside0.mk hb
        by_cases h53 : 53 < b
        · have HX : Aside0 (magF n e top rest up near = magI ((M) / 2) (last + 1)) := ⟨by rw [HH.out]; unfold magH; rw [if_pos (by rw [hb]; exact h53)]⟩
          clear hb
          have FH := Aside0.mk (FM.out.mono (Nat.div_le_self (M) 2))
          go_upto_region 26 with (first
            | (go_at_call 202; refine (ibitlen_calls HM.out (by rw [Int.natAbs_natCast]; exact FM.out)).mono ?_; rintro e' wc ⟨rfl, rfl⟩; rw [Int.natAbs_natCast, HBL.out])
            | (go_at_call 201; refine (rsh_calls HM.out.blk HM.out FM.out (by decide) (by decide)).mono ?_; rintro e' w7 ⟨rfl, hi7, ht7⟩; have HM7 : Aside0 (IntAt w7 gm (((M) / 2 : Nat) : Int)) := ⟨hi7⟩; have HB7 := Aside0.mk (Turns.below HB.out HB.out.size hgw ht7); clear hi7 ht7))
          have HU := Aside0.mk (ofU_num (m := (M) / 2) (by have := HML.out; omega))
          obtain ⟨b2, hb2⟩ : ∃ b2, bl ((M) / 2) = b2 := ⟨_, rfl⟩
          have HB2 := Aside0.mk hb2
          have hb2m : b2 ≤ 64 := by rw [← hb2]; exact bl_le64 (by have := HML.out; omega)
          by_cases hc : 1024 < (b2 : Int) + last + 1
          · have HR : Aside0 (magI ((M) / 2) (last + 1) = 9218868437227405312) := ⟨by unfold magI; rw [if_pos (by rw [hb2]; omega)]⟩
            clear hb2
            go_wp2_with (first
              | (go_at_call 202; refine (ibitlen_calls HM7.out (by rw [Int.natAbs_natCast]; exact FH.out)).mono ?_; rintro e' w7 ⟨rfl, rfl⟩; rw [Int.natAbs_natCast, HB2.out])
              | (go_at_call 78; refine (inf_calls _).mono ?_; rintro e' w7 ⟨rfl, rfl⟩))
            go_ret
            exact ⟨by rw [HX.out, HR.out]; rfl, HB7.out⟩
          · have HR : Aside0 (magI ((M) / 2) (last + 1) = ldexpB (ofU ((M) / 2)) (last + 1)) := ⟨by unfold magI; rw [if_neg (by rw [hb2]; omega)]⟩
            clear hb2
            go_wp2_with (first
              | (go_at_call 202; refine (ibitlen_calls HM7.out (by rw [Int.natAbs_natCast]; exact FH.out)).mono ?_; rintro e' w7 ⟨rfl, rfl⟩; rw [Int.natAbs_natCast, HB2.out])
              | (go_at_call 227; refine (uint64_calls HM7.out (by rw [Int.natAbs_natCast]; exact FH.out)).mono ?_; rintro e' w7 ⟨rfl, rfl⟩; rw [Int.natAbs_natCast])
              | (go_at_call 242; refine (Ldexp_calls (ofU ((M) / 2)) _ HU.out.1 HU.out.2 (by omega) (by omega) _).mono ?_; rintro e' w7 ⟨rfl, rfl⟩))
            go_ret
            exact ⟨by rw [HX.out, HR.out]; rfl, HB7.out⟩
        · have HX : Aside0 (magF n e top rest up near = magI (M) last) := ⟨by rw [HH.out]; unfold magH; rw [if_neg (by rw [hb]; exact h53)]⟩
          clear hb
          go_upto_region 26 with (first
            | (go_at_call 202; refine (ibitlen_calls HM.out (by rw [Int.natAbs_natCast]; exact FM.out)).mono ?_; rintro e' wc ⟨rfl, rfl⟩; rw [Int.natAbs_natCast, HBL.out]))
          have HU := Aside0.mk (ofU_num (m := M) (by have := HML.out; omega))
          obtain ⟨b2, hb2⟩ : ∃ b2, bl (M) = b2 := ⟨_, rfl⟩
          have HB2 := Aside0.mk hb2
          have hb2m : b2 ≤ 64 := by rw [← hb2]; exact bl_le64 (by have := HML.out; omega)
          by_cases hc : 1024 < (b2 : Int) + last
          · have HR : Aside0 (magI (M) (last) = 9218868437227405312) := ⟨by unfold magI; rw [if_pos (by rw [hb2]; omega)]⟩
            clear hb2
            go_wp2_with (first
              | (go_at_call 202; refine (ibitlen_calls HM.out (by rw [Int.natAbs_natCast]; exact FM.out)).mono ?_; rintro e' wc ⟨rfl, rfl⟩; rw [Int.natAbs_natCast, HB2.out])
              | (go_at_call 78; refine (inf_calls _).mono ?_; rintro e' wc ⟨rfl, rfl⟩))
            go_ret
            exact ⟨by rw [HX.out, HR.out]; rfl, HB.out⟩
          · have HR : Aside0 (magI (M) (last) = ldexpB (ofU (M)) (last)) := ⟨by unfold magI; rw [if_neg (by rw [hb2]; omega)]⟩
            clear hb2
            go_wp2_with (first
              | (go_at_call 202; refine (ibitlen_calls HM.out (by rw [Int.natAbs_natCast]; exact FM.out)).mono ?_; rintro e' wc ⟨rfl, rfl⟩; rw [Int.natAbs_natCast, HB2.out])
              | (go_at_call 227; refine (uint64_calls HM.out (by rw [Int.natAbs_natCast]; exact FM.out)).mono ?_; rintro e' wc ⟨rfl, rfl⟩; rw [Int.natAbs_natCast])
              | (go_at_call 242; refine (Ldexp_calls (ofU (M)) _ HU.out.1 HU.out.2 (by omega) (by omega) _).mono ?_; rintro e' wc ⟨rfl, rfl⟩))
            go_ret
            exact ⟨by rw [HX.out, HR.out]; rfl, HB.out⟩
      · have HH : Aside0 (magF n e top rest up near = magH (M + 1) last) := ⟨by rw [HG.out, HGU.out, if_pos rfl]⟩
        clear HG HGU
        go_upto_region 23 with (first
          | (go_at_call 182; refine (newint_calls _ 1 (by decide) (by decide)).mono ?_; rintro e' w3 ⟨go, rfl, hgo, hi3, hb3⟩; have HI3 := Aside0.mk hi3; have HM3 := Aside0.mk (HM.out.below hb3); have HB3 := Aside0.mk (below_step HB.out hb3); clear hi3 hb3)
          | (go_at_call 157; refine (iadd_calls HM3.out.blk HM3.out HI3.out (by rw [Int.natAbs_natCast]; exact FM.out) F1.out).mono ?_; rintro e' w4 ⟨rfl, hi4, ht4⟩; have HI4 := Aside0.mk hi4; have HB4 := Aside0.mk (Turns.below HB3.out HB3.out.size hgw ht4); clear hi4 ht4))
        have HM4 : Aside0 (IntAt w4 gm ((M + 1 : Nat) : Int)) := ⟨HI4.out⟩
        obtain ⟨b, hb⟩ : ∃ b, bl (M + 1) = b := ⟨_, rfl⟩
        have HBL := Aside0.mk hb
        by_cases h53 : 53 < b
        · have HX : Aside0 (magF n e top rest up near = magI ((M + 1) / 2) (last + 1)) := ⟨by rw [HH.out]; unfold magH; rw [if_pos (by rw [hb]; exact h53)]⟩
          clear hb
          have FH := Aside0.mk (FMs.out.mono (Nat.div_le_self (M + 1) 2))
          go_upto_region 26 with (first
            | (go_at_call 202; refine (ibitlen_calls HM4.out (by rw [Int.natAbs_natCast]; exact FMs.out)).mono ?_; rintro e' w4 ⟨rfl, rfl⟩; rw [Int.natAbs_natCast, HBL.out])
            | (go_at_call 201; refine (rsh_calls HM4.out.blk HM4.out FMs.out (by decide) (by decide)).mono ?_; rintro e' w7 ⟨rfl, hi7, ht7⟩; have HM7 : Aside0 (IntAt w7 gm (((M + 1) / 2 : Nat) : Int)) := ⟨hi7⟩; have HB7 := Aside0.mk (Turns.below HB4.out HB4.out.size hgw ht7); clear hi7 ht7))
          have HU := Aside0.mk (ofU_num (m := (M + 1) / 2) (by have := HML.out; omega))
          obtain ⟨b2, hb2⟩ : ∃ b2, bl ((M + 1) / 2) = b2 := ⟨_, rfl⟩
          have HB2 := Aside0.mk hb2
          have hb2m : b2 ≤ 64 := by rw [← hb2]; exact bl_le64 (by have := HML.out; omega)
          by_cases hc : 1024 < (b2 : Int) + last + 1
          · have HR : Aside0 (magI ((M + 1) / 2) (last + 1) = 9218868437227405312) := ⟨by unfold magI; rw [if_pos (by rw [hb2]; omega)]⟩
            clear hb2
            go_wp2_with (first
              | (go_at_call 202; refine (ibitlen_calls HM7.out (by rw [Int.natAbs_natCast]; exact FH.out)).mono ?_; rintro e' w7 ⟨rfl, rfl⟩; rw [Int.natAbs_natCast, HB2.out])
              | (go_at_call 78; refine (inf_calls _).mono ?_; rintro e' w7 ⟨rfl, rfl⟩))
            go_ret
            exact ⟨by rw [HX.out, HR.out]; rfl, HB7.out⟩
          · have HR : Aside0 (magI ((M + 1) / 2) (last + 1) = ldexpB (ofU ((M + 1) / 2)) (last + 1)) := ⟨by unfold magI; rw [if_neg (by rw [hb2]; omega)]⟩
            clear hb2
            go_wp2_with (first
              | (go_at_call 202; refine (ibitlen_calls HM7.out (by rw [Int.natAbs_natCast]; exact FH.out)).mono ?_; rintro e' w7 ⟨rfl, rfl⟩; rw [Int.natAbs_natCast, HB2.out])
              | (go_at_call 227; refine (uint64_calls HM7.out (by rw [Int.natAbs_natCast]; exact FH.out)).mono ?_; rintro e' w7 ⟨rfl, rfl⟩; rw [Int.natAbs_natCast])
              | (go_at_call 242; refine (Ldexp_calls (ofU ((M + 1) / 2)) _ HU.out.1 HU.out.2 (by omega) (by omega) _).mono ?_; rintro e' w7 ⟨rfl, rfl⟩))
            go_ret
            exact ⟨by rw [HX.out, HR.out]; rfl, HB7.out⟩
        · have HX : Aside0 (magF n e top rest up near = magI (M + 1) last) := ⟨by rw [HH.out]; unfold magH; rw [if_neg (by rw [hb]; exact h53)]⟩
          clear hb
          go_upto_region 26 with (first
            | (go_at_call 202; refine (ibitlen_calls HM4.out (by rw [Int.natAbs_natCast]; exact FMs.out)).mono ?_; rintro e' w4 ⟨rfl, rfl⟩; rw [Int.natAbs_natCast, HBL.out]))
          have HU := Aside0.mk (ofU_num (m := M + 1) (by have := HML.out; omega))
          obtain ⟨b2, hb2⟩ : ∃ b2, bl (M + 1) = b2 := ⟨_, rfl⟩
          have HB2 := Aside0.mk hb2
          have hb2m : b2 ≤ 64 := by rw [← hb2]; exact bl_le64 (by have := HML.out; omega)
          by_cases hc : 1024 < (b2 : Int) + last
          · have HR : Aside0 (magI (M + 1) (last) = 9218868437227405312) := ⟨by unfold magI; rw [if_pos (by rw [hb2]; omega)]⟩
            clear hb2
            go_wp2_with (first
              | (go_at_call 202; refine (ibitlen_calls HM4.out (by rw [Int.natAbs_natCast]; exact FMs.out)).mono ?_; rintro e' w4 ⟨rfl, rfl⟩; rw [Int.natAbs_natCast, HB2.out])
              | (go_at_call 78; refine (inf_calls _).mono ?_; rintro e' w4 ⟨rfl, rfl⟩))
            go_ret
            exact ⟨by rw [HX.out, HR.out]; rfl, HB4.out⟩
          · have HR : Aside0 (magI (M + 1) (last) = ldexpB (ofU (M + 1)) (last)) := ⟨by unfold magI; rw [if_neg (by rw [hb2]; omega)]⟩
            clear hb2
            go_wp2_with (first
              | (go_at_call 202; refine (ibitlen_calls HM4.out (by rw [Int.natAbs_natCast]; exact FMs.out)).mono ?_; rintro e' w4 ⟨rfl, rfl⟩; rw [Int.natAbs_natCast, HB2.out])
              | (go_at_call 227; refine (uint64_calls HM4.out (by rw [Int.natAbs_natCast]; exact FMs.out)).mono ?_; rintro e' w4 ⟨rfl, rfl⟩; rw [Int.natAbs_natCast])
              | (go_at_call 242; refine (Ldexp_calls (ofU (M + 1)) _ HU.out.1 HU.out.2 (by omega) (by omega) _).mono ?_; rintro e' w4 ⟨rfl, rfl⟩))
            go_ret
            exact ⟨by rw [HX.out, HR.out]; rfl, HB4.out⟩
end Go.Proofs.YtinmbcomnjmmjaaGreatDoor
