/- Proved: a part of what the statement on the names of parse needs: walks of functions of the program, and plain laws. (Texts Bu, Bv, Bw, Cd, Ce.) -/
import Derived.Test.YtinmbcomnjmmjaaGreatDoorQ22
import Derived.Test.YtinmbcomnjmmjaaGreatDoorQ26
import Derived.BigQuiet
import Derived.Deep.QuietTactic
import Derived.Test.YtinmbcomnjmmjaaGreatDoorQ29
import Derived.Deep.RegionHeld3
namespace Go.Proofs.YtinmbcomnjmmjaaGreatDoor
open Go.RowKit Go.Proofs.YtinmbcomnjmmjaaGreatDoorW.PrintWords Go.Proofs.YtinmbcomnjmmjaaGreatDoorW.PrintLast Go.Proofs.YtinmbcomnjmmjaaGreatDoorW.PrintMore
open X
theorem RowBlk.of_own {w : World} {base : Nat} {v : Value} {xs : List Int} (h : w.ownsRow base 93 1 v xs.length (nums .u32 xs)) (hne : 0 < xs.length) :
    ∃ g cap, v = .slice (some ⟨g, 0, none⟩) xs.length cap ∧ base ≤ g ∧ xs.length ≤ cap ∧ RowBlk w g xs := by
  rcases h.2 with ⟨_, h0⟩ | ⟨g, cap, cur, rfl, hg, hh, hn, _, _, ht⟩
  · omega
  · refine ⟨g, cap, rfl, hg, hn, cur.toList.drop (xs.length * 1), ?_⟩
    rw [← ht, List.take_append_drop]
    simpa using hh
theorem RowBlk.turns {w w1 : World} {g g' : Nat} {U : List Int} (h : RowBlk w g U) (hn : g ≠ g') (ht : Turns g' w w1) : RowBlk w1 g U := by
  obtain ⟨ex, h⟩ := h
  exact ⟨ex, (ht.block (blk_lt h) hn).trans h⟩
theorem RowBlk.below {w w1 : World} {g : Nat} {U : List Int} (h : RowBlk w g U) (hb : Below w.heap.size w w1) : RowBlk w1 g U := by
  obtain ⟨ex, h⟩ := h
  exact ⟨ex, (hb.block g (blk_lt h)).trans h⟩
theorem RowBlk.words {w : World} {g cap : Nat} {U : List Int} (h : RowBlk w g U) (hm : U.length ≤ 9000000000) (hc : U.length ≤ cap) : Words w (.slice (some ⟨g, 0, none⟩) U.length cap) U := by
  refine ⟨_, _, rfl, hc, ?_⟩
  refine Kd.C_of_reads (enc := Value.int .u32) (d := (0 : Int)) (show ReadsInt w .u32 _ _ _ from ⟨rfl, by omega, fun hn => ⟨⟨g, 0, none⟩, rfl, fun j hj => ?_⟩⟩)
  have := h.cell hj
  by_cases h0 : j = 0
  · subst h0; exact this
  · rw [add_pos _ (by omega)]; simpa using this
/-- A number by a word. -/
theorem cmp_pos {a b : Nat} (h : b ≤ a) : 0 ≤ cmpN a b := by unfold cmpN; rw [if_neg (by omega)]; split <;> omega
set_option maxHeartbeats 2000000 in
set_option maxRecDepth 100000 in
theorem div_short {v u : Value} {a b : Nat} {w : World} (h1 : NatAt w v a) (h2 : NatAt w u b) (f1 : Fits a) (hL : (digs b).length = 1) (hle : b ≤ a) :
    Calls Tryz.prog 296 #[v, u] w fun e w' => ∃ q r, e = .returned (.tuple #[q, r]) ∧ NatAt w' q (a / b) ∧ NatAt w' r (a % b) ∧ Below w.heap.size w w' := by
  have HV := Aside0.mk h1; have HU := Aside0.mk h2
  obtain ⟨A1, c1, rfl, l1, r1⟩ := h1
  obtain ⟨A2, c2, rfl, l2, r2⟩ := h2
  obtain ⟨ad, x, e1, hx, NX⟩ := at_word r2 0 (by omega)
  cases e1
  have hx0 : w.cell? ad = some (.int .u32 x) := hx
  have hbv : b = x.toNat := by
    have h := val_digs b
    rcases hd : digs b with _ | ⟨y, _ | ⟨z, ys⟩⟩
    · rw [hd] at hL; simp at hL
    · rw [hd] at h NX; simp only [val] at h
      have := NX.out; simp at this; rw [this]; omega
    · rw [hd] at hL; simp at hL
  have dx := (digs_digs b).getD 0
  rw [← NX.out] at dx
  obtain ⟨x0, x1⟩ := dx
  have hxp : 0 < x := by
    rcases Nat.eq_zero_or_pos b with h0 | h0
    · rw [h0, digs_zero] at hL; simp at hL
    · omega
  rw [hL] at HU ⊢
  have hc := cmp_pos hle
  have HBV := Aside0.mk hbv
  clear r1 r2 NX hx l1 l2 hbv
  go_enter Tryz.func296, Tryz.ntmps296
  go_wp2_with (first
    | (go_at_call 226; refine (cmp_calls HV.out HU.out f1).mono ?_; rintro e w2 ⟨rfl, hb2⟩; have HB2 := Aside0.mk hb2; have hx2 := pw_cell_below hb2 hx0; have HV2 := Aside0.mk (HV.out.below hb2); clear hb2)
    | (go_at_call 306; refine (short_calls HV2.out f1 hxp x1).mono ?_; rintro e w3 ⟨r3, rfl, hn3, hb3⟩; have HN3 := Aside0.mk hn3; have HB3 := Aside0.mk hb3; clear hn3 hb3; obtain ⟨q, hq⟩ : ∃ q, a % x.toNat = q := ⟨_, rfl⟩; rw [hq]; have hq1 : q < 4294967296 := (by have := Nat.mod_lt a (show 0 < x.toNat by omega); omega); have HQ := Aside0.mk hq; clear hq)
    | (go_at_call 199; refine (small_calls _ (by omega) (by omega) _).mono ?_; rintro e w4 ⟨r4, rfl, hn4, hb4⟩; have HN4 := Aside0.mk hn4; have HB4 := Aside0.mk hb4; clear hn4 hb4))
  go_ret2
  refine ⟨_, _, rfl, ?_, ?_, ?_⟩
  · rw [HBV.out]; exact HN3.out.below HB4.out
  · rw [HBV.out, HQ.out]; simpa using HN4.out
  · exact below_step (below_step HB2.out HB3.out) HB4.out
set_option maxRecDepth 100000 in
theorem div_none {v u : Value} {a b : Nat} {w : World} (h1 : NatAt w v a) (h2 : NatAt w u b) (f1 : Fits a) (hlt : a < b) :
    Calls Tryz.prog 296 #[v, u] w fun e w' => ∃ q r, e = .returned (.tuple #[q, r]) ∧ NatAt w' q (a / b) ∧ NatAt w' r (a % b) ∧ Below w.heap.size w w' := by
  have HV := Aside0.mk h1; have HU := Aside0.mk h2
  obtain ⟨A1, c1, rfl, l1, r1⟩ := h1
  obtain ⟨A2, c2, rfl, l2, r2⟩ := h2
  have hc := cmpN_lt hlt
  clear r1 r2 l1 l2
  go_enter Tryz.func296, Tryz.ntmps296
  go_wp2_with (go_at_call 226; refine (cmp_calls HV.out HU.out f1).mono ?_; rintro e w2 ⟨rfl, hb2⟩; rw [hc]; have HB2 := Aside0.mk hb2; have HV2 := Aside0.mk (HV.out.below hb2); clear hb2)
  go_ret2
  refine ⟨_, _, rfl, ?_, ?_, HB2.out⟩
  · rw [Nat.div_eq_of_lt hlt]
    exact NatAt.of_eq (xs := []) ⟨none, 0, rfl, Nat.le_refl _, Kd.C_nil _ _⟩ digs_zero.symm
  · rw [Nat.mod_eq_of_lt hlt]; exact HV2.out
end Go.Proofs.YtinmbcomnjmmjaaGreatDoor
namespace Go.Proofs.YtinmbcomnjmmjaaGreatDoor
open Go.RowKit Go.Proofs.YtinmbcomnjmmjaaGreatDoorW.PrintWords Go.Proofs.YtinmbcomnjmmjaaGreatDoorW.PrintLast Go.Proofs.YtinmbcomnjmmjaaGreatDoorW.PrintMore
open X
theorem digs_pow_len (n : Nat) : (digs (4294967296 ^ n)).length = n + 1 := by
  induction n with
  | zero => rw [Nat.pow_zero, digs_pos (by decide)]; simp [digs_zero]
  | succ n ih =>
    have hp : 0 < 4294967296 ^ n := Nat.pow_pos (by decide)
    rw [Nat.pow_succ, digs_pos (by omega), Nat.mul_div_cancel _ (by decide), List.length_cons, ih]
theorem digs_top {n k : Nat} (h : (digs n).length = k + 2) : 0 < (digs n).getD (k + 1) 0 := by
  have h1 := (digs_digs n).getD (k + 1)
  have h2 := digs_last n
  rcases Int.lt_or_eq_of_le h1.1 with h3 | h3
  · exact h3
  · exfalso; apply h2
    rw [List.getLast?_eq_getElem?, h, show k + 2 - 1 = k + 1 from rfl, List.getElem?_eq_getElem (by omega)]
    congr 1
    have : (digs n).getD (k + 1) 0 = (digs n)[k + 1]'(by omega) := by simp [List.getD, show k + 1 < (digs n).length by omega]
    rw [← this]; exact h3.symm
set_option maxHeartbeats 8000000 in
set_option maxRecDepth 100000 in
theorem div_long {v u : Value} {a b m : Nat} {w : World} (h1 : NatAt w v a) (h2 : NatAt w u b) (f1 : (digs a).length ≤ 900000000) (hL : (digs b).length = m + 2) (hle : b ≤ a) :
    Calls Tryz.prog 296 #[v, u] w fun e w' => ∃ q r, e = .returned (.tuple #[q, r]) ∧ NatAt w' q (a / b) ∧ NatAt w' r (a % b) ∧ Below w.heap.size w w' := by
  have HV := Aside0.mk h1; have HU := Aside0.mk h2
  obtain ⟨A1, c1, rfl, l1, r1⟩ := h1
  obtain ⟨A2, c2, rfl, l2, r2⟩ := h2
  have hLa : m + 2 ≤ (digs a).length := by rw [← hL]; exact digs_length_mono hle
  obtain ⟨ad, x, e1, hx, NX⟩ := at_word r2 (m + 1) (by omega)
  cases e1
  rw [add_pos _ (Nat.succ_pos m)] at hx
  have dx := (digs_digs b).getD (m + 1)
  rw [← NX.out] at dx
  obtain ⟨x0, x1⟩ := dx
  obtain ⟨t, ht⟩ : ∃ t, t = Lib.bitLen x.toNat := ⟨_, rfl⟩
  have ht32 : t ≤ 32 := by rw [ht]; exact Lib.bitLen_le _ 32 (by decide) (by omega)
  have hsl := shifted_len hL (t := t) (by rw [ht, NX.out])
  have HSL := Aside0.mk hsl
  have f1' : Fits a := Nat.le_trans f1 (by decide)
  have f2' : Fits b := by unfold Fits; omega
  have HF1 := Aside0.mk f1'; have HF2 := Aside0.mk f2'
  rw [hL] at HU ⊢
  have hc := cmp_pos hle
  have hl1 : decide ((m : Int) + 2 < 0) = false := decide_eq_false (by omega)
  have hu0 : IntKind.u64.wrap (32 - (t : Int)) = 32 - (t : Int) := u64_id (by omega) (by omega)
  have e32 : (32 - (t : Int)).toNat = 32 - t := by omega
  have HE32 := Aside0.mk e32
  have HT := Aside0.mk ht
  obtain ⟨X0, hX0⟩ : ∃ X0, a * 2 ^ (32 - t) = X0 := ⟨_, rfl⟩
  have hxa : (digs a).length ≤ (digs X0).length := digs_length_mono (by rw [← hX0]; exact Nat.le_mul_of_pos_right _ (Nat.pow_pos (by decide)))
  have hxb : (digs X0).length ≤ (digs a).length + 1 := by
    refine digs_length_le ?_
    rw [← hX0, Nat.pow_succ]
    have h1 : a < 4294967296 ^ (digs a).length := by have := val_lt (digs_digs a); rw [val_digs] at this; exact this
    have h2 : 2 ^ (32 - t) ≤ 4294967296 := Nat.le_trans (Nat.pow_le_pow_right (by decide) (show 32 - t ≤ 32 by omega)) (by decide)
    exact Nat.lt_of_le_of_lt (Nat.mul_le_mul_left _ h2) (Nat.mul_lt_mul_of_pos_right h1 (by decide))
  have HX0 := Aside0.mk hX0
  obtain ⟨K, hK⟩ : ∃ K, (digs X0 ++ [0]).length = K + (m + 2) := ⟨(digs X0 ++ [0]).length - (m + 2), by rw [List.length_append, List.length_singleton]; omega⟩
  have HK := Aside0.mk hK
  have hKm : K + (m + 2) ≤ 1000000000 := by rw [← hK, List.length_append, List.length_singleton]; omega
  have hKa : (digs a).length < K + (m + 2) := by rw [← hK, List.length_append, List.length_singleton]; omega
  have hK0 : 0 < K := by omega
  clear r1 r2 NX l1 l2 hsl e32 f1' f2' ht hX0 hK
  have h21 : (((m : Int) + 2) == 1) = false := beq_eq_false_iff_ne.mpr (by omega)
  go_enter Tryz.func296, Tryz.ntmps296
  go_upto_region 8 with (first
    | (go_at_call 226; refine (cmp_calls HV.out HU.out HF1.out).mono ?_; rintro e w2 ⟨rfl, hb2⟩; have HB2 := Aside0.mk hb2; have hx2 := pw_cell_below hb2 hx; have HV2 := Aside0.mk (HV.out.below hb2); have HU2 := Aside0.mk (HU.out.below hb2); clear hb2)
    | (go_at_call 307; refine (Tryz.bits_LeadingZeros32 _ _ x0 (by omega)).mono ?_; rintro e w9 ⟨rfl, rfl⟩; rw [← HT.out])
    | (go_at_call 236; refine (shl_calls HU2.out HF2.out (by omega) (by omega)).mono ?_; rintro e w3 ⟨r3, rfl, hn3, hb3⟩; have HB3 := Aside0.mk hb3; have HN3 := Aside0.mk hn3; have HV3 := Aside0.mk (HV2.out.below hb3); clear hn3 hb3))
  rw [HE32.out] at HN3
  go_upto_region 9 with (first
    | (go_at_call 236; refine (shl_calls HV3.out HF1.out (by omega) (by omega)).mono ?_; rintro e w4 ⟨r4, rfl, hn4, hb4⟩; rw [HE32.out, HX0.out] at hn4; have HB4 := Aside0.mk hb4; have HN4 := Aside0.mk hn4; clear hn4 hb4)
    | (go_at_call 238; refine (clone_calls HN4.out (by omega)).mono ?_; rintro e w5 ⟨r5, rfl, ho5, hb5⟩; have HB5 := Aside0.mk hb5; have HO5 := Aside0.mk ho5; clear ho5 hb5)
    | (at_builtin; refine print_append_num (w0 := w4) w4.heap.size rfl (.tmp 47) (.tmp 48) 182 93 .u32 4 rfl Tryz.underlying182 info93 (by decide) _ (digs X0) 0 rfl rfl HO5.out HB5.out HB5.out.size (by omega) ?_; intro v6 w6 ho6 hb6 hg6 ha6; obtain ⟨g, cap, rfl, hg, hcap, hR⟩ := RowBlk.of_own ho6 (by rw [HK.out]; omega); rw [HK.out] at hcap ⊢; have HR := Aside0.mk hR; have HB6 := Aside0.mk hb6; clear ho6 hb6 hg6 ha6 hR))
  have hL3 : (digs (b * 2 ^ (32 - t))).length = m + 2 := by
    obtain ⟨s1, s2⟩ := HSL.out
    have h1 := digs_length_le s2
    have h2 := digs_length_mono s1
    rw [digs_pow_len] at h2
    omega
  obtain ⟨V, hVe⟩ : ∃ V, b * 2 ^ (32 - t) = V := ⟨_, rfl⟩
  rw [hVe] at HN3 hL3 HSL
  have HVE := Aside0.mk hVe
  obtain ⟨A3, c3, rfl, l3, hr3⟩ := HN3.out
  rw [hL3] at hr3 ⊢
  have HL3 := Aside0.mk hL3
  have HR3 := Aside0.mk (Kd.C_below hr3 HB4.out)
  have hne : ((K : Int) + ((m : Int) + 2) == ((digs a).length : Int)) = false := beq_eq_false_iff_ne.mpr (by omega)
  obtain ⟨i0, hi, hz0, hz1, hz2⟩ := info_parts info93
  have hmk := run_make (P := Tryz.prog) w6 182 93 i0 (.int .u32 0) Tryz.underlying182 hi hz0 .i64 .i64 (K : Int) (K : Int) (by omega) (by omega) (by rw [hz2]; omega) (by omega)
  rw [hz1, Nat.mul_one, Int.toNat_natCast] at hmk
  obtain ⟨gq, cq, eq1, hgq, hcq, hRQ⟩ := RowBlk.of_own (w := w6.alloc (.cells (madeCells #[.int .u32 0] K) 93)) (xs := List.replicate K 0) (base := w6.heap.size) (by rw [List.length_replicate]; exact own_made w6 w6.heap.size 93 .u32 K (Nat.le_refl _) (by omega)) (by simp; omega)
  rw [List.length_replicate] at eq1
  injection eq1 with eq1 eq2 eq3
  injection eq1 with eq1
  injection eq1 with eq1
  subst eq1
  have HRQ := Aside0.mk hRQ
  have hgl : g < w6.heap.size := by obtain ⟨ex, he⟩ := HR.out; exact blk_lt he
  have HRU := Aside0.mk (RowBlk.below HR.out ((Below.refl _ w6).alloc (Nat.le_refl _) (.cells (madeCells #[.int .u32 0] K) 93)))
  have HB7 := Aside0.mk (HB6.out.alloc HB6.out.size (.cells (madeCells #[.int .u32 0] K) 93))
  have hg6 : w4.heap.size ≤ w6.heap.size := HB6.out.size
  clear hr3 hL3 hVe hi hz0 hz1 hz2 hRQ hgq hcq eq2 eq3 HR l3
  go_upto_region 12 with (fail)
  have hs2 : Aside0 (4294967296 ^ (m + 1) ≤ V) := ⟨HSL.out.1⟩
  have hs3 : Aside0 (V < 4294967296 ^ (m + 2)) := ⟨HSL.out.2⟩
  generalize hgq : w6.heap.size = gq at *
  have hgg : gq ≠ g := by omega
  have hgq4 : w4.heap.size ≤ gq := by omega
  generalize w6.alloc _ = w7 at HRQ HRU HB7 ⊢
  clear hmk HSL
  go_wp2_with fail
  go_loopw [12] (fun v12 wr => ∃ (r : Nat) (i : Int) (U Q : List Int), v12 = .int .i64 i ∧ i = (r : Int) - 1 ∧ r ≤ K ∧ Aside0 (DInv U Q X0 V m K r) ∧ Aside0 (RowBlk wr g U) ∧ Aside0 (RowBlk wr gq Q) ∧ Aside0 (Below w4.heap.size w4 wr)) (fun j _ => (intOf j + 1).toNat)
  case atStart => exact ⟨K, _, _, _, rfl, rfl, Nat.le_refl _, ⟨DInv.start HK.out hs2.out⟩, HRU, HRQ, HB7⟩
  case round =>
    obtain ⟨r, i, U, Q, rfl, hir, hr, HD, HUr, HQr, HBr⟩ := hrel
    clear HRU HRQ HB7
    rcases r with _ | j
    · have hi1 : i = -1 := by omega
      subst hi1
      clear hir
      have HFM : Aside0 (Fits (X0 % V)) := ⟨Fits.mono (show Fits X0 by unfold Fits; omega) (Nat.mod_le _ _)⟩
      have HF := Aside0.mk HD.out.fin
      have HQw := Aside0.mk (HQr.out.words (cap := K) (by have := HD.out.lq; omega) (by have := HD.out.lq; omega))
      have HUw := Aside0.mk (HUr.out.words (cap := cap) (by have := HD.out.lu; omega) (by have := HD.out.lu; omega))
      rw [HD.out.lq] at HQw
      rw [HD.out.lu] at HUw
      go_wp2_with (first
        | (go_at_call 233; refine (trim_calls HQw.out HD.out.dq (by have := HD.out.lq; omega)).mono ?_; rintro e w8 ⟨r8, rfl, hn8, hb8⟩; have HN8 := Aside0.mk hn8; have HB8 := Aside0.mk hb8; have HUv := Aside0.mk (HUw.out.below hb8); clear hn8 hb8 HQw HUw)
        | (go_at_call 233; refine (trim_calls HUv.out HD.out.du (by have := HD.out.lu; omega)).mono ?_; rintro e w9 ⟨r9, rfl, hn9, hb9⟩; rw [HF.out.2] at hn9; have HN9 := Aside0.mk hn9; have HB9 := Aside0.mk hb9; clear hn9 hb9)
        | (go_at_call 235; refine (shr_calls HN9.out HFM.out (by omega) (by omega)).mono ?_; rintro e w10 ⟨r10, rfl, hn10, hb10⟩; have HN10 := Aside0.mk hn10; have HB10 := Aside0.mk hb10; clear hn10 hb10))
      go_ret2
      have hpw : 0 < 2 ^ (32 - t) := Nat.pow_pos (by decide)
      refine ⟨_, _, rfl, ?_, ?_, ?_⟩
      · have h1 := HN8.out
        rw [HF.out.1, ← HX0.out, ← HVE.out, Nat.mul_div_mul_right _ _ hpw] at h1
        exact (h1.below HB9.out).below HB10.out
      · have h1 := HN10.out
        rw [HE32.out, ← HX0.out, ← HVE.out, Nat.mul_mod_mul_right, Nat.mul_div_cancel _ hpw] at h1
        exact h1
      · exact below_step (below_step (below_step (below_step (below_step (below_step HB2.out HB3.out) HB4.out) HBr.out) HB8.out) HB9.out) HB10.out
    · have hij : i = (j : Int) := by omega
      subst hij
      have hjK : j < K := by omega
      have HW := Aside0.mk (HD.out.win hs3.out)
      clear hir
      have h1 : m + 2 < K + (m + 2) - j := by omega
      have h2 : j + (K + (m + 2) - j) ≤ U.length := by have := HD.out.lu; omega
      have h3 : U.length ≤ 1000000000 := by have := HD.out.lu; omega
      have htop : 0 < (digs V).getD (m + 1) 0 := digs_top HL3.out
      have hKn := kn_make (j := j) HD.out.du (digs_digs V) HL3.out htop (by rw [val_digs]; exact HW.out.2.1)
      rw [val_digs] at hKn
      have HP := Aside0.mk (step_words A3 c3 (cap - j) (digs V) U g j (K + (m + 2) - j) m w4 _ HBr.out HR3.out hg HUr.out HL3.out h1 h2 h3 (digs_digs V) HD.out.du htop _ _ hKn rfl (val_digs V).symm)
      clear h1 h2 h3 htop hKn
      have hjj : j < Q.length := by have := HD.out.lq; omega
      go_wp2_with (go_at_call 308; refine HP.out.mono ?_; rintro e w8 ⟨U', rfl, hR8, hT8, hd8, hl8, hlo8, hhi8, hv8⟩; have HQ8 := Aside0.mk (HQr.out.turns hgg hT8); have HR8 := Aside0.mk hR8; have HT8 := Aside0.mk hT8; have HD8 := Aside0.mk (HD.out.step hs3.out hd8 hl8 hlo8 hhi8 hv8); have zc := HQ8.out.cell hjj; have zf := HQ8.out.free j; clear hR8 hT8 hd8 hl8 hlo8 hhi8 hv8)
      go_roundw
      case rel => exact ⟨j, _, U', _, rfl, rfl, by omega, HD8, ⟨HR8.out.turns (Ne.symm hgg) (Turns.set _ _ _ _)⟩, ⟨HQ8.out.set j _⟩, ⟨Turns.below (Turns.below HBr.out HBr.out.size hg HT8.out) (Nat.le_trans HBr.out.size HT8.out.size) hgq4 (Turns.set _ _ _ _)⟩⟩
      case measure => simp [intOf]
/-- (nat).div. -/
theorem div_calls {v u : Value} {a b : Nat} {w : World} (h1 : NatAt w v a) (h2 : NatAt w u b) (f1 : (digs a).length ≤ 900000000) (hb : b ≠ 0) :
    Calls Tryz.prog 296 #[v, u] w fun e w' => ∃ q r, e = .returned (.tuple #[q, r]) ∧ NatAt w' q (a / b) ∧ NatAt w' r (a % b) ∧ Below w.heap.size w w' := by
  by_cases hlt : a < b
  · exact div_none h1 h2 (Nat.le_trans f1 (by decide)) hlt
  · have hp := digs_pos_len hb
    by_cases h1' : (digs b).length = 1
    · exact div_short h1 h2 (Nat.le_trans f1 (by decide)) h1' (by omega)
    · exact div_long (m := (digs b).length - 2) h1 h2 f1 (by omega) (by omega)
end Go.Proofs.YtinmbcomnjmmjaaGreatDoor
namespace Go.Proofs.YtinmbcomnjmmjaaGreatDoor
open Go.RowKit Go.Proofs.YtinmbcomnjmmjaaGreatDoorW.PrintWords Go.Proofs.YtinmbcomnjmmjaaGreatDoorW.PrintLast Go.Proofs.YtinmbcomnjmmjaaGreatDoorW.PrintMore
open X
theorem signed_div (x y : Int) : signed (decide (x < 0) != decide (y < 0)) (x.natAbs / y.natAbs) = Int.tdiv x y := by
  have e1 : ∀ z : Int, z < 0 → z = -((z.natAbs : Nat) : Int) := fun z h => by omega
  have e2 : ∀ z : Int, ¬ z < 0 → z = ((z.natAbs : Nat) : Int) := fun z h => by omega
  by_cases hx : x < 0
  · by_cases hy : y < 0
    · rw [decide_eq_true hx, decide_eq_true hy]
      generalize hp : x.natAbs = p; generalize hq : y.natAbs = q
      rw [e1 x hx, e1 y hy, hp, hq, Int.neg_tdiv_neg]; simp [signed]
    · rw [decide_eq_true hx, decide_eq_false hy]
      generalize hp : x.natAbs = p; generalize hq : y.natAbs = q
      rw [e1 x hx, e2 y hy, hp, hq, Int.neg_tdiv]; simp [signed]
  · by_cases hy : y < 0
    · rw [decide_eq_false hx, decide_eq_true hy]
      generalize hp : x.natAbs = p; generalize hq : y.natAbs = q
      rw [e2 x hx, e1 y hy, hp, hq, Int.tdiv_neg]; simp [signed]
    · rw [decide_eq_false hx, decide_eq_false hy]
      generalize hp : x.natAbs = p; generalize hq : y.natAbs = q
      rw [e2 x hx, e2 y hy, hp, hq]; simp [signed]
theorem signed_mod (x y : Int) : signed (decide (x < 0)) (x.natAbs % y.natAbs) = Int.tmod x y := by
  have h := Int.tmod_def x y
  rw [h, ← signed_div]
  unfold signed
  by_cases hx : x < 0
  · by_cases hy : y < 0
    · rw [decide_eq_true hx, decide_eq_true hy]
      obtain ⟨p, hp⟩ : ∃ p : Nat, x = -(p : Int) := ⟨x.natAbs, by omega⟩
      obtain ⟨q, hq⟩ : ∃ q : Nat, y = -(q : Int) := ⟨y.natAbs, by omega⟩
      have hm := Nat.div_add_mod p q
      have hm' : (q : Int) * ((p / q : Nat) : Int) + ((p % q : Nat) : Int) = (p : Int) := by exact_mod_cast hm
      rw [hp, hq]
      simp only [Int.natAbs_neg, Int.natAbs_natCast, bne_self_eq_false, if_true, Bool.false_eq_true, if_false, Int.neg_mul]
      omega
    · rw [decide_eq_true hx, decide_eq_false hy]
      obtain ⟨p, hp⟩ : ∃ p : Nat, x = -(p : Int) := ⟨x.natAbs, by omega⟩
      obtain ⟨q, hq⟩ : ∃ q : Nat, y = (q : Int) := ⟨y.natAbs, by omega⟩
      have hm := Nat.div_add_mod p q
      have hm' : (q : Int) * ((p / q : Nat) : Int) + ((p % q : Nat) : Int) = (p : Int) := by exact_mod_cast hm
      rw [hp, hq]
      simp only [Int.natAbs_neg, Int.natAbs_natCast, Bool.bne_false, if_true, Int.mul_neg]
      omega
  · by_cases hy : y < 0
    · rw [decide_eq_false hx, decide_eq_true hy]
      obtain ⟨p, hp⟩ : ∃ p : Nat, x = (p : Int) := ⟨x.natAbs, by omega⟩
      obtain ⟨q, hq⟩ : ∃ q : Nat, y = -(q : Int) := ⟨y.natAbs, by omega⟩
      have hm := Nat.div_add_mod p q
      have hm' : (q : Int) * ((p / q : Nat) : Int) + ((p % q : Nat) : Int) = (p : Int) := by exact_mod_cast hm
      rw [hp, hq]
      simp only [Int.natAbs_neg, Int.natAbs_natCast, Bool.bne_true, Bool.not_false, if_true, Bool.false_eq_true, if_false, Int.neg_mul, Int.mul_neg]
      omega
    · rw [decide_eq_false hx, decide_eq_false hy]
      obtain ⟨p, hp⟩ : ∃ p : Nat, x = (p : Int) := ⟨x.natAbs, by omega⟩
      obtain ⟨q, hq⟩ : ∃ q : Nat, y = (q : Int) := ⟨y.natAbs, by omega⟩
      have hm := Nat.div_add_mod p q
      have hm' : (q : Int) * ((p / q : Nat) : Int) + ((p % q : Nat) : Int) = (p : Int) := by exact_mod_cast hm
      rw [hp, hq]
      simp only [Int.natAbs_natCast, bne_self_eq_false, Bool.false_eq_true, if_false]
      omega
set_option maxHeartbeats 8000000 in
set_option maxRecDepth 100000 in
/-- (*Int).QuoRem, into two numbers apart. -/
theorem quorem_calls {w : World} {g gr gx gy : Nat} {x y : Int} (hg : IntBlk w g) (hgr : IntBlk w gr) (hne : g ≠ gr) (hx : IntAt w gx x) (hy : IntAt w gy y) (f1 : (digs x.natAbs).length ≤ 900000000) (hy0 : y ≠ 0) :
    Calls Tryz.prog 268 #[pt g, pt gx, pt gy, pt gr] w fun e w' => e = .returned (.tuple #[pt g, pt gr]) ∧ IntAt w' g (Int.tdiv x y) ∧ IntAt w' gr (Int.tmod x y) ∧ ∃ w1, Turns gr w w1 ∧ Turns g w1 w' := by
  obtain ⟨A, c, h0, h1, HV⟩ := hx.open
  obtain ⟨A', c', h0', h1', HV'⟩ := hy.open
  have HX := Aside0.mk hx; have HY := Aside0.mk hy; have HG := Aside0.mk hg; have HGR := Aside0.mk hgr
  have hyn : y.natAbs ≠ 0 := by omega
  have HS := Aside0.mk (signed_div x y)
  have HS2 := Aside0.mk (signed_mod x y)
  clear hx hy hg hgr
  go_enter Tryz.func268, Tryz.ntmps268
  go_upto_region 1 with (fail)
  have h02 : w.drew.cell? ⟨gx, 1, none⟩ = _ := h1
  have h12 : w.drew.cell? ⟨gy, 1, none⟩ = _ := h1'
  go_region_with (go_at_call 296; refine (div_calls (w := w.drew) HV.out HV'.out f1 hyn).mono ?_; rintro e w2 ⟨q, r, rfl, hq, hr, hb2⟩; have HQ := Aside0.mk hq; have HR := Aside0.mk hr; have HB2 := Aside0.mk hb2; clear hq hr hb2)
  all_goals
    go_upto_region 2 with (fail)
    obtain ⟨A3, c3, k0, k1, HV3⟩ := (IntAt.below (w := w.drew) HX.out HB2.out).open
    obtain ⟨A4, c4, k0', k1', HV4⟩ := (IntAt.below (w := w.drew) HY.out HB2.out).open
    have HG2 := Aside0.mk (IntBlk.below (w := w.drew) HG.out HB2.out)
    have HGR2 := Aside0.mk (IntBlk.below (w := w.drew) HGR.out HB2.out)
    clear h0 h1 h0' h1' HV HV' HX HY HV3 HV4
    go_quiet (fail)
    go_wp2_with (first
      | (go_at_call 198; refine (put_calls (w := w2.drewN nq) HGR2.out _ (NatAt.below (w := w2) HR.out (pw_below_drewN (Below.refl _ _) nq))).mono ?_; rintro e w3 ⟨rfl, hi3, ht3⟩; have HI3 := Aside0.mk hi3; have HT3 := Aside0.mk ht3; have HG3 := Aside0.mk (IntBlk.turns (w := w2.drewN nq) HG2.out hne ht3); have HQ3 := Aside0.mk (NatAt.turns (w := w2.drewN nq) HQ.out HGR2.out ht3); clear hi3 ht3 HGR2 HR)
      | (go_at_call 198; refine (put_calls HG3.out _ HQ3.out).mono ?_; rintro e w9 ⟨rfl, hi9, ht9⟩; have HI9 := Aside0.mk hi9; have HT9 := Aside0.mk ht9; clear hi9 ht9))
    go_ret2
    refine ⟨rfl, ?_, ?_, w3, ?_, HT9.out⟩
    · rw [← HS.out]; exact HI9.out
    · rw [← HS2.out]; exact HI3.out.turns (Ne.symm hne) HG3.out HT9.out
    · exact ((Turns.drewN w2 gr nq).trans HT3.out).after_below HB2.out |>.drew
end Go.Proofs.YtinmbcomnjmmjaaGreatDoor
namespace Go.Proofs.YtinmbcomnjmmjaaGreatDoor
open Go.RowKit Go.Proofs.YtinmbcomnjmmjaaGreatDoorW.PrintWords Go.Proofs.YtinmbcomnjmmjaaGreatDoorW.PrintLast Go.Proofs.YtinmbcomnjmmjaaGreatDoorW.PrintMore
open X
def floatF (neg : Bool) (n : Nat) (e : Int) (rest : Bool) (mode : Int) : Nat :=
  if neg then csB (magF n e ((bl n : Int) + e) rest (decide (mode = 1)) (decide (mode = 2))) 13830554455654793216
  else magF n e ((bl n : Int) + e) rest (decide (mode = 3)) (decide (mode = 2))
set_option maxHeartbeats 2000000 in
set_option maxRecDepth 100000 in
/-- dyad.float. -/
theorem float_calls {w : World} {g n : Nat} {e mode : Int} {neg rest : Bool} (hz : IntAt w g (n : Int)) (hn : bl n ≤ 1000000) (he0 : -1000000 ≤ e) (he1 : e ≤ 1000000) :
    Calls Tryz.prog 161 #[.bool neg, pt g, .int .i64 e, .bool rest, .int .i64 mode] w fun e' w' => e' = .returned (.float .f64 (floatF neg n e rest mode)) ∧ Below w.heap.size w w' := by
  have HZ := Aside0.mk hz
  have FN := Aside0.mk (fits_bits (lt_bl n) (by omega))
  obtain ⟨b, hb⟩ : ∃ b, bl n = b := ⟨_, rfl⟩
  have HBB := Aside0.mk hb
  have hb1 : b ≤ 1000000 := by omega
  have b1 : (mode == 1) = decide (mode = 1) := by by_cases h : mode = 1 <;> simp [h]
  have b2 : (mode == 2) = decide (mode = 2) := by by_cases h : mode = 2 <;> simp [h]
  have b3 : (mode == 3) = decide (mode = 3) := by by_cases h : mode = 3 <;> simp [h]
  clear hz hn hb
  cases neg
  · have HF : Aside0 (floatF false n e rest mode = magF n e ((b : Int) + e) rest (decide (mode = 3)) (decide (mode = 2))) := ⟨by unfold floatF; rw [HBB.out]; rfl⟩
    generalize decide (mode = 3) = m3 at *
    generalize decide (mode = 2) = m2 at *
    clear b1
    go_enter Tryz.func161, Tryz.ntmps161
    go_wp2_with (first
      | (go_at_call 202; refine (ibitlen_calls HZ.out (by rw [Int.natAbs_natCast]; exact FN.out)).mono ?_; rintro e' w ⟨rfl, rfl⟩; rw [Int.natAbs_natCast, HBB.out])
      | (go_at_call 209; refine (mag_calls HZ.out (by rw [HBB.out]; exact hb1) he0 he1 (by rw [HBB.out])).mono ?_; rintro e' w2 ⟨rfl, hb2⟩; have HB2 := Aside0.mk hb2; clear hb2))
    go_ret
    exact ⟨by rw [HF.out]; rfl, HB2.out⟩
  · have HF : Aside0 (floatF true n e rest mode = csB (magF n e ((b : Int) + e) rest (decide (mode = 1)) (decide (mode = 2))) 13830554455654793216) := ⟨by unfold floatF; rw [HBB.out]; rfl⟩
    generalize decide (mode = 1) = m1 at *
    generalize decide (mode = 2) = m2 at *
    clear b3
    go_enter Tryz.func161, Tryz.ntmps161
    go_wp2_with (first
      | (go_at_call 202; refine (ibitlen_calls HZ.out (by rw [Int.natAbs_natCast]; exact FN.out)).mono ?_; rintro e' w ⟨rfl, rfl⟩; rw [Int.natAbs_natCast, HBB.out])
      | (go_at_call 209; refine (mag_calls HZ.out (by rw [HBB.out]; exact hb1) he0 he1 (by rw [HBB.out])).mono ?_; rintro e' w2 ⟨rfl, hb2⟩; have HB2 := Aside0.mk hb2; clear hb2)
      | (go_at_call 177; refine (cs_calls _ _ _).mono ?_; rintro e' w2 ⟨rfl, rfl⟩))
    go_ret
    exact ⟨by rw [HF.out]; rfl, HB2.out⟩
end Go.Proofs.YtinmbcomnjmmjaaGreatDoor
namespace Go.Proofs.YtinmbcomnjmmjaaGreatDoor
open Go.RowKit Go.Proofs.YtinmbcomnjmmjaaGreatDoorW.PrintWords Go.Proofs.YtinmbcomnjmmjaaGreatDoorW.PrintLast Go.Proofs.YtinmbcomnjmmjaaGreatDoorW.PrintMore
open X
theorem valid2_f (a b : Nm) (fa : Fits a.m) (fb : Fits b.m) : X.dyad_valid.f 5 [⟨a.neg, digs a.m, a.e⟩, ⟨b.neg, digs b.m, b.e⟩] = some (a.ok && b.ok) := by
  have e0 : X.rd_T155 [⟨a.neg, digs a.m, a.e⟩, ⟨b.neg, digs b.m, b.e⟩] 0 = ⟨a.neg, digs a.m, a.e⟩ := rfl
  have e1 : X.rd_T155 [⟨a.neg, digs a.m, a.e⟩, ⟨b.neg, digs b.m, b.e⟩] 1 = ⟨b.neg, digs b.m, b.e⟩ := rfl
  have w1 : wrap64 (0 + 1) = 1 := wrap64_id (x := 1) (by decide) (by decide)
  have w2 : wrap64 2 = 2 := wrap64_id (by decide) (by decide)
  unfold X.dyad_valid.f
  simp only [X.dyad_valid.l0, List.length_cons, List.length_nil, e0, valid_f _ _ _ fa, Option.bind_some]
  rw [show Nm.mk a.neg a.m a.e = a from rfl]
  cases a.ok
  · simp
  · simp only [w1, e1, valid_f _ _ _ fb, Option.bind_some]
    rw [show Nm.mk b.neg b.m b.e = b from rfl]
    cases b.ok
    · simp
    · simp [w2]
theorem valid2_calls {w : World} {g c : Nat} {a b : Nm} {A B : Option Addr} {ca cb : Nat} (hg : w.heap[g]? = some (.cells #[.bool a.neg, .slice A (digs a.m).length ca, .int .i64 a.e, .bool b.neg, .slice B (digs b.m).length cb, .int .i64 b.e] 155 (0, 0)))
    (ha : NatAt w (.slice A (digs a.m).length ca) a.m) (hb : NatAt w (.slice B (digs b.m).length cb) b.m) (fa : Fits a.m) (fb : Fits b.m) (hc : 2 ≤ c) :
    Calls Tryz.prog 154 #[.slice (some ⟨g, 0, none⟩) 2 c] w fun e w' => e = .returned (.bool (a.ok && b.ok)) ∧ Below w.heap.size w w' := by
  obtain ⟨_, _, ea, la, ra⟩ := ha
  obtain ⟨_, _, eb, lb, rb⟩ := hb
  injection ea with ea1 ea2 ea3; subst ea1 ea3
  injection eb with eb1 eb2 eb3; subst eb1 eb3
  refine X.dyad_valid.calls 5 (some ⟨g, 0, none⟩) c [⟨a.neg, digs a.m, a.e⟩, ⟨b.neg, digs b.m, b.e⟩] _ w ?_ hc (valid2_f a b fa fb)
  refine ⟨rfl, by simp, fun _ => ⟨⟨g, 0, none⟩, rfl, fun j p hp => ?_⟩⟩
  have hcell : ∀ i u, (#[.bool a.neg, .slice A (digs a.m).length ca, .int .i64 a.e, .bool b.neg, .slice B (digs b.m).length cb, .int .i64 b.e] : Array Value)[i]? = some u → w.cell? ⟨g, i, none⟩ = some u := by
    intro i u hu
    unfold World.cell?
    simp only [hg]
    exact hu
  rcases j with _ | _ | j
  · obtain rfl : _ = p := Option.some.inj hp
    refine ⟨_, rfl, X.k155_mk w _ la ra, fun i u hu => ?_⟩
    rcases i with _ | _ | _ | i
    · exact hcell 0 u hu
    · exact hcell 1 u hu
    · exact hcell 2 u hu
    · simp at hu
  · obtain rfl : _ = p := Option.some.inj hp
    refine ⟨_, rfl, X.k155_mk w _ lb rb, fun i u hu => ?_⟩
    rcases i with _ | _ | _ | i
    · exact hcell 3 u hu
    · exact hcell 4 u hu
    · exact hcell 5 u hu
    · simp at hu
  · simp at hp
def knownM (mode : Int) : Bool := decide (1 ≤ mode) && decide (mode ≤ 3)
/-- A quotient, rounded; the error. -/
def ratioF (a b : Nm) (mode : Int) : Nat × Int :=
  if !(a.ok && b.ok) then (0, 1) else if !knownM mode then (0, 1) else if b.m = 0 then (0, 6) else if a.m = 0 then (0, 0)
  else (floatF (a.neg != b.neg) (a.m * 2 ^ (max (64 - ((bl a.m : Int) - bl b.m)) 0).toNat / b.m) (a.e - b.e - max (64 - ((bl a.m : Int) - bl b.m)) 0) (decide (a.m * 2 ^ (max (64 - ((bl a.m : Int) - bl b.m)) 0).toNat % b.m ≠ 0)) mode, 0)
/-- Two numbers in boxes, and a row of both. -/
theorem boxes2 {w : World} {a b : Nm} {A B : Option Addr} {ca cb : Nat} (hna : NatAt w (.slice A (digs a.m).length ca) a.m) (hnb : NatAt w (.slice B (digs b.m).length cb) b.m) (fa : Fits a.m) (fb : Fits b.m) :
    Below w.heap.size w (((w.alloc (.cells #[.bool a.neg, .slice A (digs a.m).length ca, .int .i64 a.e] 155)).alloc (.cells #[.bool b.neg, .slice B (digs b.m).length cb, .int .i64 b.e] 155)).alloc (.cells #[.bool a.neg, .slice A (digs a.m).length ca, .int .i64 a.e, .bool b.neg, .slice B (digs b.m).length cb, .int .i64 b.e] 155)) ∧
    (((w.alloc (.cells #[.bool a.neg, .slice A (digs a.m).length ca, .int .i64 a.e] 155)).alloc (.cells #[.bool b.neg, .slice B (digs b.m).length cb, .int .i64 b.e] 155)).alloc (.cells #[.bool a.neg, .slice A (digs a.m).length ca, .int .i64 a.e, .bool b.neg, .slice B (digs b.m).length cb, .int .i64 b.e] 155)).heap[w.heap.size]? = some (.cells #[.bool a.neg, .slice A (digs a.m).length ca, .int .i64 a.e] 155) ∧
    (((w.alloc (.cells #[.bool a.neg, .slice A (digs a.m).length ca, .int .i64 a.e] 155)).alloc (.cells #[.bool b.neg, .slice B (digs b.m).length cb, .int .i64 b.e] 155)).alloc (.cells #[.bool a.neg, .slice A (digs a.m).length ca, .int .i64 a.e, .bool b.neg, .slice B (digs b.m).length cb, .int .i64 b.e] 155)).heap[w.heap.size + 1]? = some (.cells #[.bool b.neg, .slice B (digs b.m).length cb, .int .i64 b.e] 155) ∧
    (Calls Tryz.prog 154 #[.slice (some ⟨w.heap.size + 2, 0, none⟩) 2 2] (((w.alloc (.cells #[.bool a.neg, .slice A (digs a.m).length ca, .int .i64 a.e] 155)).alloc (.cells #[.bool b.neg, .slice B (digs b.m).length cb, .int .i64 b.e] 155)).alloc (.cells #[.bool a.neg, .slice A (digs a.m).length ca, .int .i64 a.e, .bool b.neg, .slice B (digs b.m).length cb, .int .i64 b.e] 155)) fun e w' => e = .returned (.bool (a.ok && b.ok)) ∧ Below (((w.alloc (.cells #[.bool a.neg, .slice A (digs a.m).length ca, .int .i64 a.e] 155)).alloc (.cells #[.bool b.neg, .slice B (digs b.m).length cb, .int .i64 b.e] 155)).alloc (.cells #[.bool a.neg, .slice A (digs a.m).length ca, .int .i64 a.e, .bool b.neg, .slice B (digs b.m).length cb, .int .i64 b.e] 155)).heap.size (((w.alloc (.cells #[.bool a.neg, .slice A (digs a.m).length ca, .int .i64 a.e] 155)).alloc (.cells #[.bool b.neg, .slice B (digs b.m).length cb, .int .i64 b.e] 155)).alloc (.cells #[.bool a.neg, .slice A (digs a.m).length ca, .int .i64 a.e, .bool b.neg, .slice B (digs b.m).length cb, .int .i64 b.e] 155)) w') := by
  have W1 := alloc_below w (.cells #[.bool a.neg, .slice A (digs a.m).length ca, .int .i64 a.e] 155)
  have W2 := below_step W1 (alloc_below _ (.cells #[.bool b.neg, .slice B (digs b.m).length cb, .int .i64 b.e] 155))
  have W3 := below_step W2 (alloc_below _ (.cells #[.bool a.neg, .slice A (digs a.m).length ca, .int .i64 a.e, .bool b.neg, .slice B (digs b.m).length cb, .int .i64 b.e] 155))
  have hAt := alloc_at ((w.alloc (.cells #[.bool a.neg, .slice A (digs a.m).length ca, .int .i64 a.e] 155)).alloc (.cells #[.bool b.neg, .slice B (digs b.m).length cb, .int .i64 b.e] 155)) (.cells #[.bool a.neg, .slice A (digs a.m).length ca, .int .i64 a.e, .bool b.neg, .slice B (digs b.m).length cb, .int .i64 b.e] 155)
  have hB := alloc_at (w.alloc (.cells #[.bool a.neg, .slice A (digs a.m).length ca, .int .i64 a.e] 155)) (.cells #[.bool b.neg, .slice B (digs b.m).length cb, .int .i64 b.e] 155)
  rw [alloc_size, alloc_size] at hAt
  rw [alloc_size] at hB
  exact ⟨W3, blk_alloc (blk_alloc (alloc_at w _) _) _, blk_alloc hB _, valid2_calls (c := 2) hAt (hna.below W3) (hnb.below W3) fa fb (Nat.le_refl 2)⟩
set_option maxHeartbeats 2000000 in
set_option maxRecDepth 100000 in
theorem ratio_bad {w : World} {va vb : Value} {a b : Nm} {mode : Int} (ha : NumV w va a) (hb : NumV w vb b) (fa : Fits a.m) (fb : Fits b.m) (h : (a.ok && b.ok) = false ∨ knownM mode = false ∨ b.m = 0 ∨ a.m = 0) :
    Calls Tryz.prog 230 #[va, vb, .int .i64 mode] w fun e' w' => e' = .returned (.tuple #[.float .f64 (ratioF a b mode).1, .int .i64 (ratioF a b mode).2]) ∧ Below w.heap.size w w' := by
  obtain ⟨A, ca, rfl, hna⟩ := ha.slice
  obtain ⟨B, cb, rfl, hnb⟩ := hb.slice
  obtain ⟨W, HA, HB, HV⟩ := boxes2 hna hnb fa fb
  replace HV := Aside0.mk HV
  replace HA := Aside0.mk HA
  replace HB := Aside0.mk HB
  have HW := Aside0.mk W
  clear ha hb hna hnb W
  by_cases h1 : (a.ok && b.ok) = true
  · by_cases h2 : knownM mode = true
    · have hlb : ((digs b.m).length = 0) ↔ b.m = 0 := by rw [List.length_eq_zero_iff, digs_nil]
      have hla : ((digs a.m).length = 0) ↔ a.m = 0 := by rw [List.length_eq_zero_iff, digs_nil]
      by_cases h3 : b.m = 0
      · have HR : Aside0 (ratioF a b mode = (0, 6)) := ⟨by unfold ratioF; rw [h1, h2, if_pos h3]; rfl⟩
        have h3' : (((digs b.m).length : Int) == 0) = true := by rw [hlb.2 h3]; rfl
        clear h hlb hla h3
        generalize (digs b.m).length = lb at *
        generalize (digs a.m).length = la at *
        go_enter Tryz.func230, Tryz.ntmps230
        go_wp2_with (first
          | (go_at_call 154; refine HV.out.mono ?_; rintro e' w4 ⟨rfl, hb4⟩; rw [h1]; have HA4 := Aside0.mk (blk_below HA.out hb4); have HB4 := Aside0.mk (blk_below HB.out hb4); have HW4 := Aside0.mk (below_step HW.out hb4); clear hb4)
          | (go_at_call 159; refine (known_calls _ mode).mono ?_; rintro e' w5 ⟨rfl, hb5⟩; rw [show (decide (1 ≤ mode) && decide (mode ≤ 3)) = true from h2]; have hA5 := blk_below HA4.out hb5; have hB5 := blk_below HB4.out hb5; obtain ⟨p0, p1, p2⟩ := blk3 hA5; obtain ⟨q0, q1, q2⟩ := blk3 hB5; have HW5 := Aside0.mk (below_step HW4.out hb5); clear hb5 hA5 hB5))
        go_ret2
        exact ⟨by rw [HR.out]; rfl, HW5.out⟩
      · have h4 : a.m = 0 := by rw [h1, h2] at h; simpa [h3] using h
        have HR : Aside0 (ratioF a b mode = (0, 0)) := ⟨by unfold ratioF; rw [h1, h2, if_neg h3, if_pos h4]; rfl⟩
        have h3' : (((digs b.m).length : Int) == 0) = false := beq_eq_false_iff_ne.mpr (fun e => h3 (hlb.1 (by omega)))
        have h4' : (((digs a.m).length : Int) == 0) = true := by rw [hla.2 h4]; rfl
        clear h hlb hla h3 h4
        generalize (digs b.m).length = lb at *
        generalize (digs a.m).length = la at *
        go_enter Tryz.func230, Tryz.ntmps230
        go_wp2_with (first
          | (go_at_call 154; refine HV.out.mono ?_; rintro e' w4 ⟨rfl, hb4⟩; rw [h1]; have HA4 := Aside0.mk (blk_below HA.out hb4); have HB4 := Aside0.mk (blk_below HB.out hb4); have HW4 := Aside0.mk (below_step HW.out hb4); clear hb4)
          | (go_at_call 159; refine (known_calls _ mode).mono ?_; rintro e' w5 ⟨rfl, hb5⟩; rw [show (decide (1 ≤ mode) && decide (mode ≤ 3)) = true from h2]; have hA5 := blk_below HA4.out hb5; have hB5 := blk_below HB4.out hb5; obtain ⟨p0, p1, p2⟩ := blk3 hA5; obtain ⟨q0, q1, q2⟩ := blk3 hB5; have HW5 := Aside0.mk (below_step HW4.out hb5); clear hb5 hA5 hB5))
        go_ret2
        exact ⟨by rw [HR.out]; rfl, HW5.out⟩
    · have h2' : knownM mode = false := by simpa using h2
      have HR : Aside0 (ratioF a b mode = (0, 1)) := ⟨by unfold ratioF; rw [h1, h2']; rfl⟩
      clear h h2
      go_enter Tryz.func230, Tryz.ntmps230
      go_wp2_with (first
        | (go_at_call 154; refine HV.out.mono ?_; rintro e' w4 ⟨rfl, hb4⟩; rw [h1]; have HW4 := Aside0.mk (below_step HW.out hb4); clear hb4)
        | (go_at_call 159; refine (known_calls _ mode).mono ?_; rintro e' w5 ⟨rfl, hb5⟩; rw [show (decide (1 ≤ mode) && decide (mode ≤ 3)) = false from h2']; have HW5 := Aside0.mk (below_step HW4.out hb5); clear hb5))
      go_ret2
      exact ⟨by rw [HR.out]; rfl, HW5.out⟩
  · have h1' : (a.ok && b.ok) = false := by simpa using h1
    have HR : Aside0 (ratioF a b mode = (0, 1)) := ⟨by unfold ratioF; rw [h1']; rfl⟩
    clear h h1
    go_enter Tryz.func230, Tryz.ntmps230
    go_wp2_with (go_at_call 154; refine HV.out.mono ?_; rintro e' w4 ⟨rfl, hb4⟩; rw [h1']; have HB4 := Aside0.mk (below_step HW.out hb4); clear hb4)
    go_ret2
    exact ⟨by rw [HR.out]; rfl, HB4.out⟩
end Go.Proofs.YtinmbcomnjmmjaaGreatDoor
