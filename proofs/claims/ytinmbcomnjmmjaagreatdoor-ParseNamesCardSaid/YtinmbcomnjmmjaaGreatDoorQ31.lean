/- Proved: a part of what the statement on the names of parse needs: walks of functions of the program, and plain laws. (Texts Cf, Da, By.) -/
import Derived.Test.YtinmbcomnjmmjaaGreatDoorQ30
import Derived.Test.YtinmbcomnjmmjaaGreatDoorQ18
namespace Go.Proofs.YtinmbcomnjmmjaaGreatDoor
open Go.RowKit Go.Proofs.YtinmbcomnjmmjaaGreatDoorW.PrintWords Go.Proofs.YtinmbcomnjmmjaaGreatDoorW.PrintLast Go.Proofs.YtinmbcomnjmmjaaGreatDoorW.PrintMore
open X
theorem signed_ne {neg : Bool} {m : Nat} (h : m ≠ 0) : signed neg m ≠ 0 := by unfold signed; cases neg <;> simp <;> omega
theorem bl_le_len (n : Nat) : bl n ≤ 32 * (digs n).length := by
  unfold bl
  split
  · omega
  · rename_i h
    have hp := digs_pos_len h
    have hd := (digs_digs n).getD ((digs n).length - 1)
    have h2 : Lib.bitLen ((digs n).getD ((digs n).length - 1) 0).toNat ≤ 32 := Lib.bitLen_le _ 32 (by decide) (by have := hd.2; omega)
    omega
theorem i64_id {x : Int} (h0 : -9223372036854775808 ≤ x) (h1 : x ≤ 9223372036854775807) : IntKind.i64.wrap x = x := by rw [IntKind.wrap_i64]; omega
theorem nat_mul_pow (m k : Nat) : (m : Int) * 2 ^ k = ((m * 2 ^ k : Nat) : Int) := by simp
theorem ratio_len {m K : Nat} (hm : (digs m).length ≤ 2048) (hK : K ≤ 65664) : (digs (m * 2 ^ K)).length ≤ 4100 := by
  refine digs_length_le ?_
  obtain ⟨P, hP⟩ : ∃ P : Nat, P = 2048 := ⟨_, rfl⟩
  obtain ⟨R, hR⟩ : ∃ R : Nat, R = 2052 := ⟨_, rfl⟩
  have h1 : m < 4294967296 ^ P := by
    have := val_lt (digs_digs m); rw [val_digs] at this
    exact Nat.lt_of_lt_of_le this (Nat.pow_le_pow_right (by decide) (by omega))
  have h2 : 2 ^ K ≤ 4294967296 ^ R := by
    have : 4294967296 ^ R = 2 ^ (32 * R) := by rw [Nat.pow_mul]
    rw [this]
    exact Nat.pow_le_pow_right (by decide) (by omega)
  have h3 : m * 2 ^ K < 4294967296 ^ P * 4294967296 ^ R := Nat.lt_of_lt_of_le (Nat.mul_lt_mul_of_pos_right h1 (Nat.pow_pos (by decide))) (Nat.mul_le_mul_left _ h2)
  rw [← Nat.pow_add] at h3
  rw [show 4100 = P + R by omega]
  exact h3
set_option maxHeartbeats 4000000 in
set_option maxRecDepth 100000 in
theorem ratio_good {w : World} {va vb : Value} {a b : Nm} {mode : Int} (ha : NumV w va a) (hb : NumV w vb b) (h1 : a.ok = true) (h2 : b.ok = true) (h3 : knownM mode = true) (hbm : b.m ≠ 0) (ham : a.m ≠ 0) :
    Calls Tryz.prog 230 #[va, vb, .int .i64 mode] w fun e' w' => e' = .returned (.tuple #[.float .f64 (ratioF a b mode).1, .int .i64 (ratioF a b mode).2]) ∧ Below w.heap.size w w' := by
  obtain ⟨A, ca, rfl, hna⟩ := ha.slice
  obtain ⟨B, cb, rfl, hnb⟩ := hb.slice
  obtain ⟨e0, e1, l1⟩ := Nm.ok_e h1
  obtain ⟨e2, e3, l2⟩ := Nm.ok_e h2
  have FA : Aside0 (Fits a.m) := ⟨Nat.le_trans l1 (by decide)⟩
  have FB : Aside0 (Fits b.m) := ⟨Nat.le_trans l2 (by decide)⟩
  obtain ⟨W, HA, HB, HV⟩ := boxes2 hna hnb FA.out FB.out
  have HNA : Aside0 (NumV w (.agg #[.bool a.neg, .slice A (digs a.m).length ca, .int .i64 a.e]) a) := ⟨ha⟩
  have HNB : Aside0 (NumV w (.agg #[.bool b.neg, .slice B (digs b.m).length cb, .int .i64 b.e]) b) := ⟨hb⟩
  replace HV := Aside0.mk HV
  replace HA := Aside0.mk HA
  replace HB := Aside0.mk HB
  have HW := Aside0.mk W
  have h12 : (a.ok && b.ok) = true := by rw [h1, h2]; rfl
  have h3' : (((digs b.m).length : Int) == 0) = false := beq_eq_false_iff_ne.mpr (by have := digs_pos_len hbm; omega)
  have h4' : (((digs a.m).length : Int) == 0) = false := beq_eq_false_iff_ne.mpr (by have := digs_pos_len ham; omega)
  have HAM := Aside0.mk ham; have HBM := Aside0.mk hbm
  clear ha hb hna hnb W ham hbm
  go_enter Tryz.func230, Tryz.ntmps230
  go_upto_region 7 with (first
    | (go_at_call 154; refine HV.out.mono ?_; rintro e' w4 ⟨rfl, hb4⟩; rw [h12]; have HA4 := Aside0.mk (blk_below HA.out hb4); have HB4 := Aside0.mk (blk_below HB.out hb4); have HW4 := Aside0.mk (below_step HW.out hb4); clear hb4)
    | (go_at_call 159; refine (known_calls _ mode).mono ?_; rintro e' w5 ⟨rfl, hb5⟩; rw [show (decide (1 ≤ mode) && decide (mode ≤ 3)) = true from h3]; have hA5 := blk_below HA4.out hb5; have hB5 := blk_below HB4.out hb5; obtain ⟨p0, p1, p2⟩ := blk3 hA5; obtain ⟨q0, q1, q2⟩ := blk3 hB5; have HA5 := Aside0.mk hA5; have HB5 := Aside0.mk hB5; have HW5 := Aside0.mk (below_step HW4.out hb5); clear hb5 hA5 hB5))
  have HNA5 := Aside0.mk (HNA.out.below HW5.out)
  have HNB5 := Aside0.mk (HNB.out.below HW5.out)
  clear HV HA HB HA4 HB4 HW HW4 HNA HNB
  have hsz : w.heap.size < w5.heap.size := blk_lt HA5.out
  have hsz1 : w.heap.size + 1 < w5.heap.size := blk_lt HB5.out
  go_cut [8, 9] (fun v8 v9 wc => ∃ gx gy, v8 = pt gx ∧ v9 = pt gy ∧ gx ≠ gy ∧ w5.heap.size ≤ gx ∧ w5.heap.size ≤ gy ∧ Aside0 (IntAt wc gx (signed a.neg a.m)) ∧ Aside0 (IntAt wc gy (signed b.neg b.m)) ∧ Aside0 (Below w5.heap.size w5 wc))
  case first =>
    have hS0 : Below w5.heap.size w5 w5.drew ∧ w5.drew.cell? ⟨w.heap.size, 0, none⟩ = some (.bool a.neg) ∧ w5.drew.cell? ⟨w.heap.size, 1, none⟩ = some (.slice A (digs a.m).length ca) ∧ w5.drew.cell? ⟨w.heap.size, 2, none⟩ = some (.int .i64 a.e) ∧ w5.drew.cell? ⟨w.heap.size + 1, 0, none⟩ = some (.bool b.neg) ∧ w5.drew.cell? ⟨w.heap.size + 1, 1, none⟩ = some (.slice B (digs b.m).length cb) ∧ w5.drew.cell? ⟨w.heap.size + 1, 2, none⟩ = some (.int .i64 b.e) := ⟨(Below.refl _ _).drew, p0, p1, p2, q0, q1, q2⟩
    go_region_held3 (fun w' => Below w5.heap.size w5 w' ∧ w'.cell? ⟨w.heap.size, 0, none⟩ = some (.bool a.neg) ∧ w'.cell? ⟨w.heap.size, 1, none⟩ = some (.slice A (digs a.m).length ca) ∧ w'.cell? ⟨w.heap.size, 2, none⟩ = some (.int .i64 a.e) ∧ w'.cell? ⟨w.heap.size + 1, 0, none⟩ = some (.bool b.neg) ∧ w'.cell? ⟨w.heap.size + 1, 1, none⟩ = some (.slice B (digs b.m).length cb) ∧ w'.cell? ⟨w.heap.size + 1, 2, none⟩ = some (.int .i64 b.e))
      (first | exact hS0 | exact hSn)
      (first
        | (go_at_call 160; have hS := ‹Below w5.heap.size w5 _ ∧ _›; with_reducible refine (value_calls (HNA5.out.below hS.1) FA.out).mono ?_; rintro e' w6 ⟨gx, rfl, hgx, hix, hbx⟩; have hSn := (⟨below_step hS.1 hbx, pw_cell_below hbx hS.2.1, pw_cell_below hbx hS.2.2.1, pw_cell_below hbx hS.2.2.2.1, pw_cell_below hbx hS.2.2.2.2.1, pw_cell_below hbx hS.2.2.2.2.2.1, pw_cell_below hbx hS.2.2.2.2.2.2⟩ : Below w5.heap.size w5 w6 ∧ w6.cell? ⟨w.heap.size, 0, none⟩ = some (.bool a.neg) ∧ w6.cell? ⟨w.heap.size, 1, none⟩ = some (.slice A (digs a.m).length ca) ∧ w6.cell? ⟨w.heap.size, 2, none⟩ = some (.int .i64 a.e) ∧ w6.cell? ⟨w.heap.size + 1, 0, none⟩ = some (.bool b.neg) ∧ w6.cell? ⟨w.heap.size + 1, 1, none⟩ = some (.slice B (digs b.m).length cb) ∧ w6.cell? ⟨w.heap.size + 1, 2, none⟩ = some (.int .i64 b.e)); have hx5 : w5.heap.size ≤ gx := Nat.le_trans hS.1.size hgx; have HIX := Aside0.mk hix; try (have hne : gx ≠ gy := (by have := HIY.out.lt; omega); have hy9 := HIY.out.below hbx; clear HIY; have HIY := Aside0.mk hy9; clear hy9); clear hix hbx hS)
        | (go_at_call 160; have hS := ‹Below w5.heap.size w5 _ ∧ _›; with_reducible refine (value_calls (HNB5.out.below hS.1) FB.out).mono ?_; rintro e' w6 ⟨gy, rfl, hgy, hiy, hby⟩; have hSn := (⟨below_step hS.1 hby, pw_cell_below hby hS.2.1, pw_cell_below hby hS.2.2.1, pw_cell_below hby hS.2.2.2.1, pw_cell_below hby hS.2.2.2.2.1, pw_cell_below hby hS.2.2.2.2.2.1, pw_cell_below hby hS.2.2.2.2.2.2⟩ : Below w5.heap.size w5 w6 ∧ w6.cell? ⟨w.heap.size, 0, none⟩ = some (.bool a.neg) ∧ w6.cell? ⟨w.heap.size, 1, none⟩ = some (.slice A (digs a.m).length ca) ∧ w6.cell? ⟨w.heap.size, 2, none⟩ = some (.int .i64 a.e) ∧ w6.cell? ⟨w.heap.size + 1, 0, none⟩ = some (.bool b.neg) ∧ w6.cell? ⟨w.heap.size + 1, 1, none⟩ = some (.slice B (digs b.m).length cb) ∧ w6.cell? ⟨w.heap.size + 1, 2, none⟩ = some (.int .i64 b.e)); have hy5 : w5.heap.size ≤ gy := Nat.le_trans hS.1.size hgy; have HIY := Aside0.mk hiy; try (have hne : gx ≠ gy := (by have := HIX.out.lt; omega); have hx9 := HIX.out.below hby; clear HIX; have HIX := Aside0.mk hx9; clear hx9); clear hiy hby hS))
    all_goals
      try go_wp2
      go_meet
      case rel => exact ⟨gx, gy, rfl, rfl, hne, hx5, hy5, HIX, HIY, ⟨hSn.1⟩⟩
  case rest =>
    obtain ⟨gx, gy, rfl, rfl, hne, hgx, hgy, HX, HY, HBc⟩ := hcut
    have HAc := Aside0.mk (blk_below HA5.out HBc.out)
    have HBx := Aside0.mk (blk_below HB5.out HBc.out)
    have HWc := Aside0.mk (below_step HW5.out HBc.out)
    obtain ⟨ba, hba⟩ : ∃ ba, bl a.m = ba := ⟨_, rfl⟩
    obtain ⟨bb, hbb⟩ : ∃ bb, bl b.m = bb := ⟨_, rfl⟩
    have hba1 : ba ≤ 65536 := by rw [← hba]; exact Nat.le_trans (bl_le_len _) (by omega)
    have hbb1 : bb ≤ 65536 := by rw [← hbb]; exact Nat.le_trans (bl_le_len _) (by omega)
    obtain ⟨K, hK⟩ : ∃ K : Int, max (64 - ((ba : Int) - bb)) 0 = K := ⟨_, rfl⟩
    have hK0 : 0 ≤ K := by omega
    have hK1 : K ≤ 65664 := by omega
    have hX := ratio_len l1 (show K.toNat ≤ 65664 by omega)
    obtain ⟨X, hXe⟩ : ∃ X, a.m * 2 ^ K.toNat = X := ⟨_, rfl⟩
    rw [hXe] at hX
    obtain ⟨Q, hQ⟩ : ∃ Q, X / b.m = Q := ⟨_, rfl⟩
    obtain ⟨R, hRm⟩ : ∃ R, X % b.m = R := ⟨_, rfl⟩
    have hQl : bl Q ≤ 1000000 := Nat.le_trans (bl_le_len _) (by have := digs_length_mono (show Q ≤ X by rw [← hQ]; exact Nat.div_le_self _ _); omega)
    have HR : Aside0 (ratioF a b mode = (floatF (a.neg != b.neg) Q (a.e - b.e - K) (decide (R ≠ 0)) mode, 0)) := ⟨by
      unfold ratioF
      rw [h12, h3, if_neg HBM.out, if_neg HAM.out, hba, hbb, hK, hXe, hQ, hRm]; rfl⟩
    have HXE := Aside0.mk hXe; have HQE := Aside0.mk hQ; have HRE := Aside0.mk hRm
    have HBA := Aside0.mk hba; have HBB := Aside0.mk hbb; have HQL := Aside0.mk hQl; have HXL := Aside0.mk hX
    have hrs : ((R : Int).sign != 0) = decide (R ≠ 0) := by
      by_cases h : R = 0
      · subst h; rfl
      · rw [Int.sign_eq_one_of_pos (by omega)]; simp [h]
    clear hba hbb hXe hQ hRm hQl hX HA5 HB5 HNA5 HNB5 HW5 HBc p0 p1 p2 q0 q1 q2 h12 h3' h4' l1 l2
    have hxl : w.heap.size + 1 < gx := by omega
    have hyl : w.heap.size + 1 < gy := by omega
    clear hgx hgy hsz hsz1
    go_upto_region 12 with (first
      | (go_at_call 162; have hflag := HX; clear hflag; refine (abs_calls HX.out.blk HX.out).mono ?_; rintro e' w6 ⟨rfl, hi6, ht6⟩; rw [signed_abs] at hi6; have HX6 := Aside0.mk hi6; have HY6 := Aside0.mk (HY.out.turns (Ne.symm hne) HX.out.blk ht6); have HA6 := Aside0.mk ((ht6.block (blk_lt HAc.out) (by omega)).trans HAc.out); have HB6 := Aside0.mk ((ht6.block (blk_lt HBx.out) (by omega)).trans HBx.out); have HW6 := Aside0.mk (Turns.below HWc.out HWc.out.size (by omega) ht6); clear hi6 ht6 HX)
      | (go_at_call 162; refine (abs_calls HY6.out.blk HY6.out).mono ?_; rintro e' w7 ⟨rfl, hi7, ht7⟩; rw [signed_abs] at hi7; have HY7 := Aside0.mk hi7; have HX7 := Aside0.mk (HX6.out.turns hne HY6.out.blk ht7); have HA7 := Aside0.mk ((ht7.block (blk_lt HA6.out) (by omega)).trans HA6.out); have HB7 := Aside0.mk ((ht7.block (blk_lt HB6.out) (by omega)).trans HB6.out); have HW7 := Aside0.mk (Turns.below HW6.out HW6.out.size (by omega) ht7); have hf1 := FA; clear hi7 ht7)
      | (go_at_call 202; have hflag := hf1; clear hflag; refine (ibitlen_calls HX7.out (by rw [Int.natAbs_natCast]; exact FA.out)).mono ?_; rintro e' w7 ⟨rfl, rfl⟩; rw [Int.natAbs_natCast, HBA.out]; clear hf1)
      | (go_at_call 202; refine (ibitlen_calls HY7.out (by rw [Int.natAbs_natCast]; exact FB.out)).mono ?_; rintro e' w7 ⟨rfl, rfl⟩; rw [Int.natAbs_natCast, HBB.out])
      | (go_at_call 206; refine (lsh_calls HX7.out.blk HX7.out (by rw [Int.natAbs_natCast]; exact FA.out) hK0 (by omega)).mono ?_; rintro e' w8 ⟨rfl, hi8, ht8⟩; rw [nat_mul_pow, HXE.out] at hi8; have HX8 := Aside0.mk hi8; have HY8 := Aside0.mk (HY7.out.turns (Ne.symm hne) HX7.out.blk ht8); have HA8 := Aside0.mk ((ht8.block (blk_lt HA7.out) (by omega)).trans HA7.out); have HB8 := Aside0.mk ((ht8.block (blk_lt HB7.out) (by omega)).trans HB7.out); have HW8 := Aside0.mk (Turns.below HW7.out HW7.out.size (by omega) ht8); clear hi8 ht8))
    obtain ⟨N1, N2, N3⟩ := two_new (w := w8)
    have HN1 := Aside0.mk N1; have HN2 := Aside0.mk N2; have HN3 := Aside0.mk N3
    have hs8 : w.heap.size + 1 < w8.heap.size := blk_lt HB8.out
    clear N1 N2 N3
    go_upto_region 13 with (go_at_call 268; refine (quorem_calls HN1.out HN2.out (by omega) (HX8.out.below HN3.out) (HY8.out.below HN3.out) (by rw [Int.natAbs_natCast]; exact Nat.le_trans HXL.out (by decide)) (by have := HBM.out; omega)).mono ?_; rintro e' w9 ⟨rfl, hq, hr, wm, t1, t2⟩; rw [← Int.ofNat_tdiv, HQE.out] at hq; rw [← Int.ofNat_tmod, HRE.out] at hr; have HQ9 := Aside0.mk hq; have HR9 := Aside0.mk hr; have HA9 := Aside0.mk ((t2.block (Nat.lt_of_lt_of_le (blk_lt (blk_below HA8.out HN3.out)) t1.size) (by omega)).trans ((t1.block (blk_lt (blk_below HA8.out HN3.out)) (by omega)).trans (blk_below HA8.out HN3.out))); have HB9 := Aside0.mk ((t2.block (Nat.lt_of_lt_of_le (blk_lt (blk_below HB8.out HN3.out)) t1.size) (by omega)).trans ((t1.block (blk_lt (blk_below HB8.out HN3.out)) (by omega)).trans (blk_below HB8.out HN3.out))); have hw8 := below_step HW8.out HN3.out; have hw9 := Turns.below hw8 hw8.size (by omega) t1; have HW9 := Aside0.mk (Turns.below hw9 hw9.size (by omega) t2); clear hq hr t1 t2 hw8 hw9 HX8 HY8 HN1 HN2 HN3)
    obtain ⟨p0, _, p2⟩ := blk3 HA9.out
    obtain ⟨q0, _, q2⟩ := blk3 HB9.out
    obtain ⟨rb, hrb⟩ : ∃ rb, decide (R ≠ 0) = rb := ⟨_, rfl⟩
    rw [hrb] at hrs HR
    clear hrb
    have hE0 : -1000000 ≤ a.e - b.e - K := by omega
    have hE1 : a.e - b.e - K ≤ 1000000 := by omega
    have hwr : IntKind.i64.wrap (IntKind.i64.wrap (a.e - b.e) - K) = a.e - b.e - K := by rw [i64_id (x := a.e - b.e) (by omega) (by omega), i64_id (by omega) (by omega)]
    have hS0 : Below w9.heap.size w9 w9.drew ∧ w9.drew.cell? ⟨w.heap.size, 0, none⟩ = some (.bool a.neg) ∧ w9.drew.cell? ⟨w.heap.size, 2, none⟩ = some (.int .i64 a.e) ∧ w9.drew.cell? ⟨w.heap.size + 1, 0, none⟩ = some (.bool b.neg) ∧ w9.drew.cell? ⟨w.heap.size + 1, 2, none⟩ = some (.int .i64 b.e) := ⟨(Below.refl _ _).drew, p0, p2, q0, q2⟩
    go_region_held3 (fun w' => Below w9.heap.size w9 w' ∧ w'.cell? ⟨w.heap.size, 0, none⟩ = some (.bool a.neg) ∧ w'.cell? ⟨w.heap.size, 2, none⟩ = some (.int .i64 a.e) ∧ w'.cell? ⟨w.heap.size + 1, 0, none⟩ = some (.bool b.neg) ∧ w'.cell? ⟨w.heap.size + 1, 2, none⟩ = some (.int .i64 b.e))
      (first | exact hS0 | exact hSn)
      (first
        | (go_at_call 179; have hS := ‹Below w9.heap.size w9 _ ∧ _›; refine (sign_calls (HR9.out.below hS.1)).mono ?_; rintro e' wk ⟨rfl, hwk⟩; subst hwk; have hSn := hS; clear hS)
        | (go_at_call 161; have hS := ‹Below w9.heap.size w9 _ ∧ _›; refine (float_calls (HQ9.out.below hS.1) HQL.out hE0 hE1).mono ?_; rintro e' w10 ⟨rfl, hb10⟩; have hSn : Below w9.heap.size w9 w10 ∧ w10.cell? ⟨w.heap.size, 0, none⟩ = some (.bool a.neg) ∧ w10.cell? ⟨w.heap.size, 2, none⟩ = some (.int .i64 a.e) ∧ w10.cell? ⟨w.heap.size + 1, 0, none⟩ = some (.bool b.neg) ∧ w10.cell? ⟨w.heap.size + 1, 2, none⟩ = some (.int .i64 b.e) := ⟨below_step hS.1 hb10, pw_cell_below hb10 hS.2.1, pw_cell_below hb10 hS.2.2.1, pw_cell_below hb10 hS.2.2.2.1, pw_cell_below hb10 hS.2.2.2.2⟩; clear hS hb10))
    go_wp2
    go_ret2
    exact ⟨by rw [HR.out]; rfl, below_step HW9.out hSn.1⟩
/-- dyad.Ratio. -/
theorem ratio_calls {w : World} {va vb : Value} {a b : Nm} {mode : Int} (ha : NumV w va a) (hb : NumV w vb b) (fa : Fits a.m) (fb : Fits b.m) :
    Calls Tryz.prog 230 #[va, vb, .int .i64 mode] w fun e' w' => e' = .returned (.tuple #[.float .f64 (ratioF a b mode).1, .int .i64 (ratioF a b mode).2]) ∧ Below w.heap.size w w' := by
  by_cases h1 : (a.ok && b.ok) = true
  · by_cases h2 : knownM mode = true
    · by_cases h3 : b.m = 0
      · exact ratio_bad ha hb fa fb (.inr (.inr (.inl h3)))
      · by_cases h4 : a.m = 0
        · exact ratio_bad ha hb fa fb (.inr (.inr (.inr h4)))
        · rw [Bool.and_eq_true] at h1
          exact ratio_good ha hb h1.1 h1.2 h2 h3 h4
    · exact ratio_bad ha hb fa fb (.inr (.inl (by simpa using h2)))
  · exact ratio_bad ha hb fa fb (.inl (by simpa using h1))
end Go.Proofs.YtinmbcomnjmmjaaGreatDoor
namespace Go.Proofs.YtinmbcomnjmmjaaGreatDoor
open Go.RowKit Go.Proofs.YtinmbcomnjmmjaaGreatDoorW.PrintWords Go.Proofs.YtinmbcomnjmmjaaGreatDoorW.PrintLast Go.Proofs.YtinmbcomnjmmjaaGreatDoorW.PrintMore
open X
theorem results_c {P : Program} {fn : Func} {p : Tmp} {ty : TypeId} (h : fn.results = #[.cell p ty]) (tmps : Array Value) (w : World) (g : Nat) (t : TypeId) (cs : Array Value) (fr : Nat × Nat) (d : TypeDesc)
    (hp : tmps.getD p undef = .pointer (some ⟨g, 0, none⟩)) (hg : w.heap[g]? = some (.cells cs t fr))
    (hu : P.underlying ty = some d) (hd : (match d with | .struct _ | .array _ _ => true | _ => false) = true) (hi : (P.info? ty).map (·.size) = some cs.size) :
    (results fn tmps).run P w = .ok (.agg cs) w := by
  have hp' : tmps[p]?.getD undef = .pointer (some ⟨g, 0, none⟩) := by simpa using hp
  simp [results, h, hp', asAddr, run_loadVar_row w g t ty cs fr d hg hu hd hi]
theorem signed_calls (neg : Bool) (f : Nat) (w : World) : Calls Tryz.prog 143 #[.bool neg, .float .f64 f] w fun e w' => e = .returned (.float .f64 (if neg then csB f 13830554455654793216 else f)) ∧ w' = w := by
  cases neg
  · go_enter Tryz.func143, Tryz.ntmps143
    go_wp2
    go_ret
    exact ⟨rfl, rfl⟩
  · go_enter Tryz.func143, Tryz.ntmps143
    go_wp2_with (go_at_call 177; refine (cs_calls _ _ _).mono ?_; rintro e' w ⟨rfl, rfl⟩)
    go_ret
    exact ⟨rfl, rfl⟩
set_option maxHeartbeats 2000000 in
set_option maxRecDepth 100000 in
/-- decim.num. -/
theorem dnum_calls {w : World} {g : Nat} {z : Int} (hz : IntAt w g z) (fs : (digs z.natAbs).length ≤ 200000000) (hT : Tab32 w) :
    Calls Tryz.prog 229 #[pt g] w fun e' w' => ∃ u, e' = .returned u ∧ NumV w' u (numF z 0).1 ∧ Below w.heap.size w w' := by
  have HB1 := Aside0.mk (alloc_below w (.cells #[.bool false, .slice none 0 0, .int .i64 0] 155))
  have HZ := Aside0.mk (hz.below HB1.out)
  have HT := Aside0.mk (hT.below HB1.out)
  have HBL := Aside0.mk (alloc_at w (.cells #[.bool false, .slice none 0 0, .int .i64 0] 155))
  have HF : Aside0 (Fits z.natAbs) := ⟨Nat.le_trans fs (by decide)⟩
  have HS := Aside0.mk (signed_self z)
  clear hz hT
  go_enter Tryz.func229, Tryz.ntmps229
  go_wp2_with (first
    | (go_at_call 179; refine (sign_calls HZ.out).mono ?_; rintro e' w1 ⟨rfl, rfl⟩)
    | (go_at_call 203; refine (words_calls HZ.out HF.out).mono ?_; rintro e' w2 ⟨r2, rfl, hn2, hb2⟩; have HN2 := Aside0.mk hn2; have HB2 := Aside0.mk hb2; clear hn2 hb2)
    | (go_at_call 267; refine (make_calls HN2.out fs (HT.out.below HB2.out)).mono ?_; rintro e' w3 ⟨u, rfl, hu, hb3⟩; rw [HS.out] at hu ⊢; obtain ⟨A3, c3, rfl, hn3⟩ := hu.slice; have HN3 := Aside0.mk hn3; have HB3 := Aside0.mk hb3; have hbl3 := blk_below (blk_below HBL.out HB2.out) hb3; have hbl4 := blk_alloc hbl3 (.cells #[.bool (numF z 0).1.neg, .slice A3 (digs (numF z 0).1.m).length c3, .int .i64 (numF z 0).1.e] 155); obtain ⟨k0, k1, k2⟩ := blk3 hbl4; have hfr := blk_frozen hbl4; have f0 := hfr 0; have f1 := hfr 1; have f2 := hfr 2; have HBL4 := Aside0.mk hbl4; clear hfr hu hn3 hb3 hbl3 hbl4))
  refine bodyPost_ret (results_c rfl _ _ w.heap.size 155 #[.bool (numF z 0).1.neg, .slice A3 (digs (numF z 0).1.m).length c3, .int .i64 (numF z 0).1.e] (0, 0) _ rfl (blk_put (blk_put (blk_put HBL4.out 0 _ rfl) 1 _ rfl) 2 _ rfl) Tryz.underlying155 rfl (by kernel_rfl)) rfl ?_
  refine ⟨_, rfl, ⟨_, rfl, ?_⟩, ?_⟩
  · refine NatAt.turnsN (NatAt.below HN3.out (alloc_below _ _)) (NumBlk.noWord HBL4.out) (((Turns.set _ w.heap.size 0 _).trans (Turns.set _ w.heap.size 1 _)).trans (Turns.set _ w.heap.size 2 _))
  · have b3 := below_step (below_step (below_step HB1.out HB2.out) HB3.out) (alloc_below w3 (.cells #[.bool (numF z 0).1.neg, .slice A3 (digs (numF z 0).1.m).length c3, .int .i64 (numF z 0).1.e] 155))
    exact Turns.below b3 b3.size (Nat.le_refl _) (((Turns.set _ w.heap.size 0 _).trans (Turns.set _ w.heap.size 1 _)).trans (Turns.set _ w.heap.size 2 _))
theorem numF_le (z e : Int) : (numF z e).1.m ≤ z.natAbs := by
  unfold numF
  split
  · exact Nat.zero_le _
  · split
    · exact Nat.zero_le _
    · exact Nat.div_le_self _ _
theorem shift_le (a : Nm) (k : Int) : (a.shift k).1.m ≤ a.m := by
  unfold Nm.shift
  split
  · split
    · exact Nat.zero_le _
    · split
      · exact Nat.zero_le _
      · exact Nat.le_refl _
  · exact Nat.zero_le _
/-- n / d times 2 to the e, rounded. -/
def decRatio (n d e mode : Int) : Nat := (ratioF ((numF n 0).1.shift e).1 (numF d 0).1 mode).1
set_option maxHeartbeats 2000000 in
set_option maxRecDepth 100000 in
/-- decim.ratio. -/
theorem dratio_calls {w : World} {gn gd : Nat} {n d e mode : Int} (hn : IntAt w gn n) (hd : IntAt w gd d) (fn : (digs n.natAbs).length ≤ 200000000) (fd : (digs d.natAbs).length ≤ 200000000) (hT : Tab32 w) :
    Calls Tryz.prog 186 #[pt gn, pt gd, .int .i64 e, .int .i64 mode] w fun e' w' => e' = .returned (.float .f64 (decRatio n d e mode)) ∧ Below w.heap.size w w' := by
  have HN := Aside0.mk hn; have HD := Aside0.mk hd; have HT := Aside0.mk hT
  have FN : Aside0 (Fits (numF n 0).1.m) := ⟨Fits.mono (Nat.le_trans fn (by decide)) (numF_le n 0)⟩
  have FS : Aside0 (Fits ((numF n 0).1.shift e).1.m) := ⟨FN.out.mono (shift_le _ _)⟩
  have FD : Aside0 (Fits (numF d 0).1.m) := ⟨Fits.mono (Nat.le_trans fd (by decide)) (numF_le d 0)⟩
  clear hn hd hT
  go_enter Tryz.func186, Tryz.ntmps186
  go_upto_region 2 with (first
    | (go_at_call 229; refine (dnum_calls HN.out fn HT.out).mono ?_; rintro e' w1 ⟨u1, rfl, hu1, hb1⟩; have HU1 := Aside0.mk hu1; have HB1 := Aside0.mk hb1; clear hu1 hb1)
    | (go_at_call 228; refine (shift_calls HU1.out FN.out).mono ?_; rintro e' w2 ⟨u2, rfl, hu2, hb2⟩; have hB2 := below_step HB1.out hb2; have HD2 := Aside0.mk (HD.out.below hB2); have HT2 := Aside0.mk (HT.out.below hB2); have HB2 := Aside0.mk hB2; have hn2 := hu2; obtain ⟨A2, c2, rfl, _⟩ := hn2.slice; have HU2 := Aside0.mk hu2; clear hu2 hn2 hb2 hB2))
  obtain ⟨k0, k1, k2⟩ := blk3 (alloc_at w2 (.cells #[.bool ((numF n 0).1.shift e).1.neg, .slice A2 (digs ((numF n 0).1.shift e).1.m).length c2, .int .i64 ((numF n 0).1.shift e).1.e] 155))
  have HA := Aside0.mk (alloc_below w2 (.cells #[.bool ((numF n 0).1.shift e).1.neg, .slice A2 (digs ((numF n 0).1.shift e).1.m).length c2, .int .i64 ((numF n 0).1.shift e).1.e] 155))
  generalize w2.alloc _ = w3 at k0 k1 k2 HA ⊢
  have hS0 : Below w2.heap.size w2 w3.drew ∧ w3.drew.cell? ⟨w2.heap.size, 0, none⟩ = some (.bool ((numF n 0).1.shift e).1.neg) ∧ w3.drew.cell? ⟨w2.heap.size, 1, none⟩ = some (.slice A2 (digs ((numF n 0).1.shift e).1.m).length c2) ∧ w3.drew.cell? ⟨w2.heap.size, 2, none⟩ = some (.int .i64 ((numF n 0).1.shift e).1.e) := ⟨HA.out.drew, k0, k1, k2⟩
  go_region_held3 (fun w' => Below w2.heap.size w2 w' ∧ w'.cell? ⟨w2.heap.size, 0, none⟩ = some (.bool ((numF n 0).1.shift e).1.neg) ∧ w'.cell? ⟨w2.heap.size, 1, none⟩ = some (.slice A2 (digs ((numF n 0).1.shift e).1.m).length c2) ∧ w'.cell? ⟨w2.heap.size, 2, none⟩ = some (.int .i64 ((numF n 0).1.shift e).1.e))
    (first | exact hS0 | exact hSn)
    (first
      | (go_at_call 229; have hS := ‹Below w2.heap.size w2 _ ∧ _›; refine (dnum_calls (HD2.out.below hS.1) fd (HT2.out.below hS.1)).mono ?_; rintro e' w4 ⟨u4, rfl, hu4, hb4⟩; have HU4 := Aside0.mk hu4; have hSn : Below w2.heap.size w2 w4 ∧ w4.cell? ⟨w2.heap.size, 0, none⟩ = some (.bool ((numF n 0).1.shift e).1.neg) ∧ w4.cell? ⟨w2.heap.size, 1, none⟩ = some (.slice A2 (digs ((numF n 0).1.shift e).1.m).length c2) ∧ w4.cell? ⟨w2.heap.size, 2, none⟩ = some (.int .i64 ((numF n 0).1.shift e).1.e) := ⟨below_step hS.1 hb4, pw_cell_below hb4 hS.2.1, pw_cell_below hb4 hS.2.2.1, pw_cell_below hb4 hS.2.2.2⟩; clear hS hu4 hb4)
      | (go_at_call 230; have hS := ‹Below w2.heap.size w2 _ ∧ _›; refine (ratio_calls (HU2.out.below hS.1) HU4.out FS.out FD.out).mono ?_; rintro e' w5 ⟨rfl, hb5⟩; have hSn : Below w2.heap.size w2 w5 ∧ w5.cell? ⟨w2.heap.size, 0, none⟩ = some (.bool ((numF n 0).1.shift e).1.neg) ∧ w5.cell? ⟨w2.heap.size, 1, none⟩ = some (.slice A2 (digs ((numF n 0).1.shift e).1.m).length c2) ∧ w5.cell? ⟨w2.heap.size, 2, none⟩ = some (.int .i64 ((numF n 0).1.shift e).1.e) := ⟨below_step hS.1 hb5, pw_cell_below hb5 hS.2.1, pw_cell_below hb5 hS.2.2.1, pw_cell_below hb5 hS.2.2.2⟩; clear hS hb5))
  go_wp2
  go_ret
  exact ⟨rfl, below_step HB2.out hSn.1⟩
end Go.Proofs.YtinmbcomnjmmjaaGreatDoor
namespace Go.Proofs.YtinmbcomnjmmjaaGreatDoor
open Go.RowKit Go.Proofs.YtinmbcomnjmmjaaGreatDoorW.PrintWords Go.Proofs.YtinmbcomnjmmjaaGreatDoorW.PrintLast Go.Proofs.YtinmbcomnjmmjaaGreatDoorW.PrintMore
open X
/-- A text of decimal digits. -/
def DecT (l : List UInt8) : Prop := ∀ b ∈ l, 48 ≤ b.toNat ∧ b.toNat ≤ 57
/-- What decimal digits tell. -/
def decV (l : List UInt8) : Nat := l.foldl (fun n b => n * 10 + (b.toNat - 48)) 0
theorem decV_snoc (l : List UInt8) (b : UInt8) : decV (l ++ [b]) = decV l * 10 + (b.toNat - 48) := by simp [decV, List.foldl_append]
theorem decV_lt {l : List UInt8} (h : DecT l) : decV l < 10 ^ l.length := by
  generalize hn : l.length = n
  induction n generalizing l with
  | zero => rw [List.length_eq_zero_iff.1 hn]; simp [decV]
  | succ n ih =>
    rcases List.eq_nil_or_concat l with rfl | ⟨q, b, rfl⟩
    · simp at hn
    · rw [List.concat_eq_append] at *
      have h1 := ih (fun x hx => h x (List.mem_append_left _ hx)) (by simpa using hn)
      have h2 := h b (by simp)
      rw [decV_snoc, Nat.pow_succ]
      omega
theorem fits_pow10 {n k : Nat} (h : n < 10 ^ k) (hk : k ≤ 1000000000) : Fits n := by
  unfold Fits
  exact Nat.le_trans (digs_length_le (Nat.lt_of_lt_of_le h (Nat.pow_le_pow_left (by decide) k))) hk
theorem pre_false {l : List UInt8} (h : DecT l) {c : UInt8} (hc : c.toNat < 48) : Lib.hasPrefix l [c] = false := by
  unfold Lib.hasPrefix
  rcases l with _ | ⟨b, l⟩
  · rfl
  · have := (h b (by simp)).1
    have hne : c ≠ b := fun e => by rw [e] at hc; omega
    simp [List.isPrefixOf, hne]
theorem pre_same {l : List UInt8} (h : DecT l) {c : UInt8} (hc : c.toNat < 48) : Lib.trimPrefix l [c] = l := by
  unfold Lib.trimPrefix; rw [pre_false h hc]; rfl
theorem low_same {l : List UInt8} (h : DecT l) : Lib.toLowerA l = l := by
  unfold Lib.toLowerA
  conv => rhs; rw [← List.map_id l]
  refine List.map_congr_left fun b hb => ?_
  have : ∀ n : Fin 256, 48 ≤ n.val ∧ n.val ≤ 57 → Lib.lowerB (UInt8.ofNat n.val) = UInt8.ofNat n.val := by decide +kernel
  have h2 := this ⟨b.toNat, b.toNat_lt⟩ (h b hb)
  simpa using h2
theorem idx10 : ∀ b : UInt8, 48 ≤ b.toNat ∧ b.toNat ≤ 57 → Lib.indexByte [48, 49, 50, 51, 52, 53, 54, 55, 56, 57] b = (b.toNat : Int) - 48 := by
  intro b h
  have : ∀ n : Fin 256, 48 ≤ n.val ∧ n.val ≤ 57 → Lib.indexByte [48, 49, 50, 51, 52, 53, 54, 55, 56, 57] (UInt8.ofNat n.val) = (n.val : Int) - 48 := by decide +kernel
  have h2 := this ⟨b.toNat, b.toNat_lt⟩ h
  simpa using h2
theorem decV_take {l : List UInt8} {i : Nat} (hi : i < l.length) : decV (l.take (i + 1)) = decV (l.take i) * 10 + ((l.getD i 0).toNat - 48) := by
  rw [List.take_succ_eq_append_getElem hi, decV_snoc]; simp [List.getD, hi]
theorem DecT.take {l : List UInt8} (h : DecT l) (i : Nat) : DecT (l.take i) := fun b hb => h b (List.mem_of_mem_take hb)
theorem DecT.get {l : List UInt8} (h : DecT l) {i : Nat} (hi : i < l.length) : 48 ≤ (l.getD i 0).toNat ∧ (l.getD i 0).toNat ≤ 57 := by
  have : l.getD i 0 = l[i] := by simp [List.getD, hi]
  rw [this]; exact h _ (List.getElem_mem hi)
theorem sa_self (s : ByteArray) : (⟨s.data.toList.toArray⟩ : ByteArray) = s := by cases s; simp
theorem bytesOf_getD {s : ByteArray} {i : Nat} (h : i < s.data.toList.length) : (bytesOf s).getD i 0 = ((s.data.toList.getD i 0).toNat : Int) := by
  simp only [bytesOf, List.getD_eq_getElem?_getD, List.getElem?_map, List.getElem?_eq_getElem h, Option.map_some, Option.getD_some]
set_option maxHeartbeats 2000000 in
set_option maxRecDepth 100000 in
/-- (*Int).SetString at decimal digits. -/
theorem setstring_calls {w : World} {g : Nat} (hg : IntBlk w g) (s : ByteArray) (hd : DecT s.data.toList) (hm : s.size ≤ 100000000) (hne : s.size ≠ 0) :
    Calls Tryz.prog 178 #[pt g, .string s, .int .i64 10] w fun e w' => e = .returned (.tuple #[pt g, .bool true]) ∧ IntAt w' g (decV s.data.toList : Int) ∧ Turns g w w' := by
  have HG := Aside0.mk hg
  have HD := Aside0.mk hd
  have hlen : s.data.toList.length = s.size := data_length s
  have hp1 : Lib.hasPrefix s.data.toList (⟨#[45]⟩ : ByteArray).data.toList = false := pre_false hd (by decide)
  have hp2 : (⟨(Lib.trimPrefix s.data.toList (⟨#[45]⟩ : ByteArray).data.toList).toArray⟩ : ByteArray) = s := by rw [show (⟨#[45]⟩ : ByteArray).data.toList = [45] from rfl, pre_same hd (by decide), sa_self]
  have hp3 : (⟨(Lib.trimPrefix s.data.toList (⟨#[43]⟩ : ByteArray).data.toList).toArray⟩ : ByteArray) = s := by rw [show (⟨#[43]⟩ : ByteArray).data.toList = [43] from rfl, pre_same hd (by decide), sa_self]
  have hlow : (⟨(Lib.toLowerA s.data.toList).toArray⟩ : ByteArray) = s := by rw [low_same hd, sa_self]
  have hasc : ∀ (j : Nat) (b : UInt8), s.data.toList[j]? = some b → b.toNat < 128 := fun j b hb => by
    have := hd b (List.mem_of_getElem? hb); omega
  have HP1 := Aside0.mk hp1; have HP2 := Aside0.mk hp2; have HP3 := Aside0.mk hp3; have HLOW := Aside0.mk hlow; have HASC := Aside0.mk hasc; have HLEN := Aside0.mk hlen
  have kb := fun W => print_bytes (P := Tryz.prog) 9 121 5 Tryz.underlying9 Tryz.underlying121 Tryz.underlying5 s W
  clear hg hd hp1 hp2 hp3 hlow hasc hlen
  go_enter Tryz.func178, Tryz.ntmps178
  go_upto_block 0 with (first
    | (go_at_call 222; refine (Tryz.strings_CutPrefix s ⟨#[45]⟩ _).mono ?_; rintro e w ⟨rfl, rfl⟩; rw [HP1.out, HP2.out])
    | (go_at_call 122; refine (Tryz.strings_TrimPrefix s ⟨#[43]⟩ _).mono ?_; rintro e w ⟨rfl, rfl⟩; rw [HP3.out])
    | (go_at_call 223; refine (Tryz.strings_ToLower_ascii s _ (by omega) HASC.out).mono ?_; rintro e w2 ⟨rfl, hb2⟩; rw [HLOW.out]; have HB2 := Aside0.mk hb2; clear hb2))
  obtain ⟨hrl, hrm, hrr⟩ := bytes_reads w2 5 s (by omega)
  obtain ⟨ad0, had, hcell⟩ := hrr (by omega)
  cases had
  have HC := Aside0.mk hcell
  have HBW := Aside0.mk (bytes_below HB2.out HB2.out.size 5 s)
  have hB0 := Aside0.mk (Below.refl (Lib.bytesWorld w2 5 s).heap.size (Lib.bytesWorld w2 5 s))
  have hgb : w2.heap.size < (Lib.bytesWorld w2 5 s).heap.size := by rw [Lib.bytesWorld_size]; omega
  clear kb hrl hrm hrr hcell
  generalize w2.heap.size = gb at *
  generalize Lib.bytesWorld w2 5 s = wb at *
  go_wp2_with fail
  go_loopw [10, 12, 13, 27] (fun v10 _ _ v27 wr => ∃ (i : Nat), v27 = .int .i64 i ∧ i ≤ s.size ∧ Aside0 (NatAt wr v10 (decV (s.data.toList.take i))) ∧ Aside0 (Below wb.heap.size wb wr)) (fun _ _ _ i _ => s.size - (intOf i).toNat)
  case atStart => exact ⟨0, rfl, by omega, ⟨NatAt.of_eq (xs := []) ⟨none, 0, rfl, Nat.le_refl _, Kd.C_nil _ _⟩ digs_zero.symm⟩, hB0⟩
  case round =>
    obtain ⟨i, rfl, hi, HI, HB⟩ := hrel
    clear hB0
    by_cases hlt : i < s.size
    · have hil : i < s.data.toList.length := by rw [HLEN.out]; exact hlt
      have hx := pw_cell_below HB.out (HC.out i hlt)
      rw [add_plain] at hx
      have hdg := HD.out.get hil
      have HT := Aside0.mk (decV_take hil)
      have hbv := bytesOf_getD hil
      rw [hbv] at hx
      have HIX := Aside0.mk (idx10 _ hdg)
      have FA : Aside0 (Fits (decV (s.data.toList.take i))) := ⟨fits_pow10 (decV_lt (HD.out.take i)) (by rw [List.length_take]; omega)⟩
      have FB : Aside0 (Fits (decV (s.data.toList.take i) * 10)) := ⟨fits_pow10 (k := i + 1) (by have := decV_lt (HD.out.take i); rw [List.length_take, HLEN.out, Nat.min_eq_left hi] at this; rw [Nat.pow_succ]; omega) (by omega)⟩
      generalize s.data.toList.getD i 0 = b at *
      obtain ⟨hd1, hd2⟩ := hdg
      have hbn : ((b.toNat : Int)).toNat.toUInt8 = b := by simp
      clear hbv hil
      have hext : ((⟨#[48, 49, 50, 51, 52, 53, 54, 55, 56, 57, 97, 98, 99, 100, 101, 102, 103, 104, 105, 106, 107, 108, 109, 110, 111, 112, 113, 114, 115, 116, 117, 118, 119, 120, 121, 122]⟩ : ByteArray).extract 0 10).data.toList = [48, 49, 50, 51, 52, 53, 54, 55, 56, 57] := by decide +kernel
      have HEX := Aside0.mk hext
      have HBN := Aside0.mk hbn
      clear hext hbn
      go_wp2_with (first
        | (go_at_call 88; refine (Tryz.strings_IndexByte _ _ _).mono ?_; rintro e wr ⟨rfl, rfl⟩; rw [HEX.out, HBN.out, HIX.out])
        | (go_at_call 224; refine (mul_calls HI3.out HN3.out FA.out (fits_pow10 (k := 2) (by decide) (by decide))).mono ?_; rintro e w4 ⟨r4, rfl, hn4, hb4⟩; have HN4 := Aside0.mk hn4; have HB4 := Aside0.mk hb4; clear hn4 hb4)
        | (go_at_call 199; have h4 := HN4; clear h4; refine (small_calls _ (by omega) (by omega) _).mono ?_; rintro e w5 ⟨r5, rfl, hn5, hb5⟩; have HN5 := Aside0.mk hn5; have HB5 := Aside0.mk hb5; have HI5 := Aside0.mk (HN4.out.below hb5); clear hn5 hb5)
        | (go_at_call 199; refine (small_calls 10 (by decide) (by decide) _).mono ?_; rintro e w3 ⟨r3, rfl, hn3, hb3⟩; have HN3 := Aside0.mk hn3; have HB3 := Aside0.mk hb3; have HI3 := Aside0.mk (HI.out.below hb3); clear hn3 hb3 HI)
        | (go_at_call 225; refine (add_calls HI5.out HN5.out FB.out (fits_pow10 (k := 2) (show ((b.toNat : Int) - 48).toNat < 10 ^ 2 by omega) (by decide))).mono ?_; rintro e w6 ⟨r6, rfl, hn6, hb6⟩; have HN6 := Aside0.mk hn6; have HB6 := Aside0.mk hb6; clear hn6 hb6))
      go_roundw
      case rel => exact ⟨i + 1, by go_num, by omega, by rw [HT.out, show b.toNat - 48 = ((b.toNat : Int) - 48).toNat by omega]; exact HN6, ⟨below_step (below_step (below_step (below_step HB.out HB3.out) HB4.out) HB5.out) HB6.out⟩⟩
      case measure => simp [intOf]; omega
    · have hie : i = s.size := by omega
      have HG9 := Aside0.mk (HG.out.below (below_then HBW.out HBW.out.size HB.out))
      rw [hie, List.take_of_length_le (by rw [HLEN.out]; omega)] at HI
      have hsne : s.toList.isEmpty = false := by
        rw [ByteArray.toList_eq]
        have := HLEN.out
        cases hl : s.data.toList with
        | nil => rw [hl] at this; exact absurd this.symm hne
        | cons _ _ => rfl
      go_wp2_with (go_at_call 198; refine (put_calls HG9.out _ HI.out).mono ?_; rintro e w9 ⟨rfl, hi9, ht9⟩; have HI9 := Aside0.mk hi9; have HT9 := Aside0.mk ht9; clear hi9 ht9)
      go_ret2
      exact ⟨rfl, HI9.out, HT9.out.after_below (below_then HBW.out HBW.out.size HB.out)⟩
end Go.Proofs.YtinmbcomnjmmjaaGreatDoor
