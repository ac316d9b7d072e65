/- Proved: a part of what the statement on the names of parse needs: walks of functions of the program, and plain laws. (Texts Bt.) -/
import Derived.Test.YtinmbcomnjmmjaaGreatDoorQ19
import Derived.Lib.BitFns
namespace Go.Proofs.YtinmbcomnjmmjaaGreatDoor
theorem lt_bitLen (n : Nat) : n < 2 ^ 64 → n < 2 ^ (Lib.bitLen n) := by
  induction n using Nat.strongRecOn with
  | _ n ih =>
    intro h
    by_cases h0 : n = 0
    · subst h0; decide
    · rw [Lib.bitLen_half n h0 h]
      have := ih (n / 2) (by omega) (by omega)
      rw [Nat.pow_add]; omega
theorem dig_nat {n : Nat} (h : n < 4294967296) : Dig (n : Int) := ⟨by omega, by omega⟩
theorem kn_arith (v p a b c B : Nat) : v + c * p + b * (p * B) + a * (p * B * B) = v + ((a * B + b) * B + c) * p := by grind
theorem kn_arith' (v p a b B : Nat) : v + b * p + a * (p * B) = v + (a * B + b) * p := by grind
theorem kn_make {U ys : List Int} {j m : Nat} (hU : Digs U) (hy : Digs ys) (hyl : ys.length = m + 2) (htop : 0 < ys.getD (m + 1) 0)
    (hxv : val ((U.drop j).take (m + 3)) < val ys * 4294967296) :
    Kn (val ((U.drop j).take (m + 3))) (val ys) (U.getD (j + (m + 2)) 0 * 4294967296 + U.getD (j + (m + 1)) 0) (ys.getD (m + 1) 0) (ys.getD m 0) (U.getD (j + m) 0) m := by
  have e1 := seg_succ U j (m + 2)
  have e2 := seg_succ U j (m + 1)
  have e3 := seg_succ U j m
  have f1 := val_take_succ' ys (m + 1)
  have f2 := val_take_succ' ys m
  rw [List.take_of_length_le (by omega)] at f1
  have l1 : val ((U.drop j).take m) < 4294967296 ^ m := Nat.lt_of_lt_of_le (val_lt ((hU.drop j).take m)) (Nat.pow_le_pow_right (by decide) (List.length_take_le _ _))
  have l2 : val (ys.take m) < 4294967296 ^ m := Nat.lt_of_lt_of_le (val_lt (hy.take m)) (Nat.pow_le_pow_right (by decide) (List.length_take_le _ _))
  have d0 := hU.getD (j + (m + 2)); have d1 := hU.getD (j + (m + 1)); have d2 := hU.getD (j + m)
  have hT : (U.getD (j + (m + 2)) 0 * 4294967296 + U.getD (j + (m + 1)) 0).toNat = (U.getD (j + (m + 2)) 0).toNat * 4294967296 + (U.getD (j + (m + 1)) 0).toNat := by
    have := d0.1; have := d1.1; omega
  have hX : val ((U.drop j).take (m + 3)) = val ((U.drop j).take m) + (((U.getD (j + (m + 2)) 0).toNat * 4294967296 + (U.getD (j + (m + 1)) 0).toNat) * 4294967296 + (U.getD (j + m) 0).toNat) * 4294967296 ^ m := by
    rw [show m + 3 = m + 2 + 1 from rfl, e1, e2, e3, Nat.pow_succ, Nat.pow_succ]
    exact kn_arith _ _ _ _ _ _
  have hV : val ys = val (ys.take m) + ((ys.getD (m + 1) 0).toNat * 4294967296 + (ys.getD m 0).toNat) * 4294967296 ^ m := by
    rw [f1, f2, Nat.pow_succ]
    exact kn_arith' _ _ _ _ _
  refine ⟨?_, ?_, ?_, ?_, hxv, ?_, d2.2⟩
  · rw [hT, hX, Nat.add_mul _ 1]; omega
  · rw [hT, hX]; omega
  · omega
  · rw [hV, Nat.add_mul _ 1]; omega
  · rw [hV, Nat.pow_succ]
    have h1 : 1 ≤ (ys.getD (m + 1) 0).toNat := by omega
    have h2 : 4294967296 * 4294967296 ^ m ≤ ((ys.getD (m + 1) 0).toNat * 4294967296 + (ys.getD m 0).toNat) * 4294967296 ^ m := Nat.mul_le_mul_right _ (by omega)
    rw [Nat.mul_comm (4294967296 ^ m)]; omega
/-- What the loop keeps: r words of the quotient are still to come. -/
structure DInv (U Q : List Int) (X0 V m K r : Nat) : Prop where
  du : Digs U
  dq : Digs Q
  lu : U.length = K + (m + 2)
  lq : Q.length = K
  hr : r ≤ K
  eq : X0 = val Q * V + val U
  top : val (U.drop r) < V
  zq : ∀ i, i < r → Q.getD i 0 = 0
theorem DInv.start {X0 V m K : Nat} (hl : (digs X0 ++ [0]).length = K + (m + 2)) (hV : 4294967296 ^ (m + 1) ≤ V) : DInv (digs X0 ++ [0]) (List.replicate K 0) X0 V m K K := by
  refine ⟨(digs_digs X0).append (Digs.one ⟨by omega, by omega⟩), Digs.replicate _, hl, by simp, Nat.le_refl _, ?_, ?_, ?_⟩
  · rw [val_replicate, val_append, val_digs]; simp [val]
  · rw [List.length_append, List.length_singleton] at hl
    have h1 : val ((digs X0).drop K) < 4294967296 ^ (m + 1) := by
      have := val_lt ((digs_digs X0).drop K)
      rw [List.length_drop, show (digs X0).length - K = m + 1 by omega] at this
      exact this
    rw [List.drop_append_of_le_length (by omega), val_append]
    simp only [val]
    simp; omega
  · intro i hi
    simp [List.getD, hi]
theorem DInv.win {U Q : List Int} {X0 V m K j : Nat} (h : DInv U Q X0 V m K (j + 1)) (hV : V < 4294967296 ^ (m + 2)) :
    val ((U.drop j).take (m + 3)) = val (U.drop j) ∧ val ((U.drop j).take (m + 3)) < V * 4294967296 ∧ val (U.drop (j + (m + 3))) = 0 := by
  have hj : j < U.length := by have := h.lu; have := h.hr; omega
  have e1 : val (U.drop j) = (U.getD j 0).toNat + 4294967296 * val (U.drop (j + 1)) := by
    rw [List.drop_eq_getElem_cons hj]; simp [val, List.getD, hj]
  have e2 := val_take_drop (U.drop (j + 1)) (m + 2) (by rw [List.length_drop]; have := h.lu; have := h.hr; omega)
  rw [List.drop_drop, show j + 1 + (m + 2) = j + (m + 3) by omega] at e2
  have ht := h.top
  have z : val (U.drop (j + (m + 3))) = 0 := by
    rcases Nat.eq_zero_or_pos (val (U.drop (j + (m + 3)))) with h0 | h0
    · exact h0
    · have := Nat.mul_le_mul_left (4294967296 ^ (m + 2)) h0
      omega
  have e3 := val_take_drop (U.drop j) (m + 3) (by rw [List.length_drop]; have := h.lu; have := h.hr; omega)
  rw [List.drop_drop, z, Nat.mul_zero, Nat.add_zero] at e3
  have d := (h.du.getD j).2
  exact ⟨e3.symm, by rw [← e3, e1]; omega, z⟩
theorem DInv.step {U U' Q : List Int} {X0 V m K j : Nat} (h : DInv U Q X0 V m K (j + 1)) (hV : V < 4294967296 ^ (m + 2)) (hd : Digs U') (hl : U'.length = U.length) (hlo : U'.take j = U.take j)
    (hhi : U'.drop (j + (m + 3)) = U.drop (j + (m + 3))) (hv : val ((U'.drop j).take (m + 3)) = val ((U.drop j).take (m + 3)) % V) :
    DInv U' (Q.set j ((val ((U.drop j).take (m + 3)) / V : Nat) : Int)) X0 V m K j := by
  obtain ⟨w1, w2, w3⟩ := h.win hV
  have hj : j < U.length := by have := h.lu; have := h.hr; omega
  have hjq : j < Q.length := by have := h.lq; have := h.hr; omega
  have hVp : 0 < V := by rcases Nat.eq_zero_or_pos V with h0 | h0
                         · rw [h0, Nat.zero_mul] at w2; omega
                         · exact h0
  have hq : val ((U.drop j).take (m + 3)) / V < 4294967296 := Nat.div_lt_of_lt_mul w2
  have e3 := val_take_drop (U'.drop j) (m + 3) (by rw [List.length_drop, hl]; have := h.lu; have := h.hr; omega)
  rw [List.drop_drop, hhi, w3, Nat.mul_zero, Nat.add_zero, hv] at e3
  refine ⟨hd, h.dq.set _ (dig_nat hq), by rw [hl, h.lu], by rw [List.length_set, h.lq], by have := h.hr; omega, ?_, ?_, ?_⟩
  · have a1 := val_take_drop U j (by omega)
    have a2 := val_take_drop U' j (by omega)
    rw [hlo, e3] at a2
    rw [← w1] at a1
    have a3 := val_set hjq ((val ((U.drop j).take (m + 3)) / V : Nat) : Int)
    rw [h.zq j (by omega), Int.toNat_natCast] at a3
    have a4 := Nat.div_add_mod (val ((U.drop j).take (m + 3))) V
    have a5 := h.eq
    rw [a2, a5, a1]
    generalize val ((U.drop j).take (m + 3)) = X at *
    generalize val (Q.set j ((X / V : Nat) : Int)) = q' at *
    generalize val Q = q at *
    generalize val (U.take j) = t at *
    generalize 4294967296 ^ j = p at *
    simp only [Int.toNat_zero, Nat.zero_mul, Nat.add_zero] at a3
    rw [a3]
    generalize X / V = d at *
    generalize X % V = r at *
    subst a4
    grind
  · rw [e3]; exact Nat.mod_lt _ hVp
  · intro i hi
    rw [getD_set_ne _ (by omega)]; exact h.zq i (by omega)
theorem DInv.fin {U Q : List Int} {X0 V m K : Nat} (h : DInv U Q X0 V m K 0) : val Q = X0 / V ∧ val U = X0 % V := by
  have ht := h.top
  rw [List.drop_zero] at ht
  have e := h.eq
  rw [Nat.add_comm, Nat.mul_comm] at e
  constructor
  · rw [e, Nat.add_mul_div_left _ _ (by omega), Nat.div_eq_of_lt ht]; omega
  · rw [e, Nat.add_mul_mod_self_left, Nat.mod_eq_of_lt ht]
/-- The divisor, shifted up till its highest word's highest bit is set, has as many words as before. -/
theorem shifted_len {b m : Nat} (hl : (digs b).length = m + 2) {t : Nat} (ht : t = Lib.bitLen ((digs b).getD (m + 1) 0).toNat) :
    4294967296 ^ (m + 1) ≤ b * 2 ^ (32 - t) ∧ b * 2 ^ (32 - t) < 4294967296 ^ (m + 2) := by
  have hd := (digs_digs b).getD (m + 1)
  have h1 : (digs b).take (m + 2) = digs b := List.take_of_length_le (by omega)
  have h2 := val_take_succ' (digs b) (m + 1)
  rw [h1, val_digs] at h2
  have hlow : val ((digs b).take (m + 1)) < 4294967296 ^ (m + 1) := Nat.lt_of_lt_of_le (val_lt ((digs_digs b).take _)) (Nat.pow_le_pow_right (by decide) (List.length_take_le _ _))
  have hct := canon_top (canon_digs b) (by intro e; rw [e] at hl; simp at hl)
  rw [hl, val_digs, show m + 2 - 1 = m + 1 from rfl] at hct
  constructor
  · exact Nat.le_trans hct (Nat.le_mul_of_pos_right _ (Nat.pow_pos (by decide)))
  · have hb := lt_bitLen ((digs b).getD (m + 1) 0).toNat (by have := hd.2; omega)
    rw [← ht] at hb
    have ht32 : t ≤ 32 := by rw [ht]; exact Lib.bitLen_le _ 32 (by decide) (by have := hd.2; omega)
    generalize ((digs b).getD (m + 1) 0).toNat = x at *
    have h3 : b < (x + 1) * 4294967296 ^ (m + 1) := by rw [h2, Nat.add_mul]; omega
    have h4 : (x + 1) * 2 ^ (32 - t) ≤ 4294967296 := by
      calc (x + 1) * 2 ^ (32 - t) ≤ 2 ^ t * 2 ^ (32 - t) := Nat.mul_le_mul_right _ hb
        _ = 4294967296 := by rw [← Nat.pow_add, show t + (32 - t) = 32 by omega]
    have hp : 0 < 2 ^ (32 - t) := Nat.pow_pos (by decide)
    have h5 := Nat.mul_lt_mul_of_pos_right h3 hp
    have h6 := Nat.mul_le_mul_right (4294967296 ^ (m + 1)) h4
    rw [Nat.pow_succ 4294967296 (m + 1)]
    have e : (x + 1) * 4294967296 ^ (m + 1) * 2 ^ (32 - t) = (x + 1) * 2 ^ (32 - t) * 4294967296 ^ (m + 1) := by
      rw [Nat.mul_assoc, Nat.mul_assoc, Nat.mul_comm (4294967296 ^ (m + 1))]
    omega
end Go.Proofs.YtinmbcomnjmmjaaGreatDoor
