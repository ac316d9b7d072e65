/- Proved: a part of what the statement on the names of parse needs: walks of functions of the program, and plain laws. (Texts Bb, Bc.) -/
import Derived.Test.YtinmbcomnjmmjaaGreatDoorQ00
import Derived.Test.YtinmbcomnjmmjaaGreatDoorQ12
import Derived.Outline
import Derived.Deep.DeepFit
import Derived.WalkLawsBesides
import Derived.WalkSpells
namespace Go.Proofs.YtinmbcomnjmmjaaGreatDoor
open Go.RowKit Go.Proofs.YtinmbcomnjmmjaaGreatDoorW.PrintWords Go.Proofs.YtinmbcomnjmmjaaGreatDoorW.PrintLast Go.Proofs.YtinmbcomnjmmjaaGreatDoorW.PrintMore
open X
theorem wrap64_id {x : Int} (h0 : -9223372036854775808 ≤ x) (h1 : x ≤ 9223372036854775807) : wrap64 x = x := by unfold wrap64; omega
theorem wrap_add {i j : Nat} (h : i + j ≤ 9000000000) : wrap64 ((i : Int) + (j : Int)) = ((i + j : Nat) : Int) := by rw [wrap64_id (by omega) (by omega)]; omega
theorem wrap_inc {i : Nat} (h : i ≤ 9000000000) : wrap64 ((i : Int) + 1) = ((i + 1 : Nat) : Int) := by rw [wrap64_id (by omega) (by omega)]; omega
theorem u64_id {x : Int} (h0 : 0 ≤ x) (h1 : x < 18446744073709551616) : IntKind.u64.wrap x = x := by
  simp [IntKind.wrap, IntKind.signed, IntKind.bits]
  omega
theorem rd_eq (xs : List Int) (i : Nat) : rd xs (i : Int) = xs.getD i 0 := by simp [rd]
theorem getD_snoc (xs : List Int) (x : Int) : (xs ++ [x]).getD xs.length 0 = x := by simp [List.getD]
theorem trim_f (n : Nat) : ∀ (xs : List Int) (k : Nat), xs.length = n → n < k → n ≤ 4611686018427387904 → Digs xs → big_nat_trim.l0 k xs = some (trimmed xs) := by
  induction n with
  | zero =>
    intro xs k hl hk _ _
    obtain ⟨k, rfl⟩ : ∃ m, k = m + 1 := ⟨k - 1, by omega⟩
    have : xs = [] := List.length_eq_zero_iff.1 hl
    subst this
    simp [big_nat_trim.l0, trimmed, val, digs_zero]
  | succ n ih =>
    intro xs k hl hk hn hd
    obtain ⟨k, rfl⟩ : ∃ m, k = m + 1 := ⟨k - 1, by omega⟩
    rcases List.eq_nil_or_concat xs with rfl | ⟨ys, y, rfl⟩
    · simp at hl
    rw [List.concat_eq_append] at *
    have hys : ys.length = n := by simpa using hl
    have e1 : wrap64 (((ys ++ [y]).length : Int) - 1) = (n : Int) := by
      rw [hl]; rw [wrap64_id (by omega) (by omega)]; omega
    simp only [big_nat_trim.l0]
    rw [if_pos (by omega), e1, if_pos (by omega), if_pos (by omega), rd_eq]
    have e2 : (ys ++ [y]).getD n 0 = y := by rw [← hys, getD_snoc]
    rw [e2]
    by_cases hy : y = 0
    · subst hy
      rw [if_pos rfl, if_pos (by omega)]
      have e3 : (ys ++ [0]).take (n : Int).toNat = ys := by
        rw [Int.toNat_natCast, ← hys, List.take_left]
      rw [e3, ih ys k hys (by omega) (by omega) (fun x hx => hd x (List.mem_append_left _ hx)), trimmed_snoc_zero]
    · rw [if_neg hy]
      rw [trimmed_canon ⟨hd, by simp [hy]⟩]
theorem small_f (x : Nat) (h : x < 18446744073709551616) : big_small.f 3 (x : Int) = some (digs x) := by
  unfold big_small.f big_nat_trim.f
  have hd : Digs [(x : Int) % 4294967296, (x : Int) / 4294967296 % 4294967296] := by
    refine Digs.cons ⟨by omega, by omega⟩ (Digs.one ⟨by omega, by omega⟩)
  rw [trim_f 2 _ 3 rfl (by decide) (by decide) hd]
  simp only [Option.bind_some]
  congr 1
  unfold trimmed
  congr 1
  simp only [val]
  omega
theorem getD_set_ne (xs : List Int) {p q : Nat} (h : p ≠ q) (v : Int) : (xs.set p v).getD q 0 = xs.getD q 0 := by
  simp only [List.getD_eq_getElem?_getD]; rw [List.getElem?_set_ne h]
theorem getD_set_self (xs : List Int) {p : Nat} (h : p < xs.length) (v : Int) : (xs.set p v).getD p 0 = v := by
  simp only [List.getD_eq_getElem?_getD]; rw [List.getElem?_set_self h]; rfl
theorem val_set {xs : List Int} {p : Nat} (h : p < xs.length) (x : Int) : val (xs.set p x) + (xs.getD p 0).toNat * 4294967296 ^ p = val xs + x.toNat * 4294967296 ^ p := by
  induction xs generalizing p with
  | nil => simp at h
  | cons y ys ih =>
    cases p with
    | zero => simp [val]; omega
    | succ p =>
      have h' : p < ys.length := by simpa using h
      have := ih h'
      simp only [List.set_cons_succ, val, List.getD_cons_succ, Nat.pow_succ]
      generalize 4294967296 ^ p = q at *
      generalize (ys.getD p 0).toNat = a at *
      generalize val (ys.set p x) = b at *
      generalize x.toNat = c at *
      generalize val ys = d at *
      have e1 : a * (q * 4294967296) = 4294967296 * (a * q) := by rw [← Nat.mul_assoc, Nat.mul_comm]
      have e2 : c * (q * 4294967296) = 4294967296 * (c * q) := by rw [← Nat.mul_assoc, Nat.mul_comm]
      rw [e1, e2]
      generalize a * q = u at *
      generalize c * q = v at *
      omega
theorem take_succ_getD {xs : List Int} {p : Nat} (h : p < xs.length) : xs.take (p + 1) = xs.take p ++ [xs.getD p 0] := by
  rw [List.take_succ_eq_append_getElem h]; simp [List.getD, h]
theorem val_take_succ {xs : List Int} {p : Nat} (h : p < xs.length) : val (xs.take (p + 1)) = val (xs.take p) + (xs.getD p 0).toNat * 4294967296 ^ p := by
  rw [take_succ_getD h, val_snoc, List.length_take, Nat.min_eq_left (by omega), Nat.mul_comm]
/-- One word times another, and what is there, and what is carried: it fits. -/
theorem mul_word {w v o c : Int} (hw : Dig w) (hv : Dig v) (ho : Dig o) (hc : Dig c) :
    IntKind.u64.wrap (c + IntKind.u64.wrap (IntKind.u64.wrap (IntKind.u64.wrap w * IntKind.u64.wrap v) + IntKind.u64.wrap o)) = c + w * v + o ∧ 0 ≤ c + w * v + o ∧ c + w * v + o < 18446744073709551616 := by
  obtain ⟨w0, w1⟩ := hw; obtain ⟨v0, v1⟩ := hv; obtain ⟨o0, o1⟩ := ho; obtain ⟨c0, c1⟩ := hc
  have h0 : 0 ≤ w * v := Int.mul_nonneg w0 v0
  have h1 : w * v ≤ 4294967295 * 4294967295 := Int.mul_le_mul (by omega) (by omega) v0 (by omega)
  rw [u64_id w0 (by omega), u64_id v0 (by omega), u64_id o0 (by omega), u64_id h0 (by omega), u64_id (x := w * v + o) (by omega) (by omega), u64_id (by omega) (by omega)]
  omega
theorem dig_mod (x : Int) : Dig (x % 4294967296) := ⟨by omega, by omega⟩
theorem dig_div {x : Int} (h0 : 0 ≤ x) (h1 : x < 18446744073709551616) : Dig (x / 4294967296) := ⟨by omega, by omega⟩
theorem toNat_split {x : Int} (h : 0 ≤ x) : (x % 4294967296).toNat + 4294967296 * (x / 4294967296).toNat = x.toNat := by omega
theorem inner_arith (B p q w y r c o lo hi vo vs : Nat) (hsp : lo + B * hi = c + w * y + o) (hs : vs + o * (q * p) = vo + lo * (q * p)) :
    vs + hi * (B * (q * p)) + w * r * p = vo + c * (q * p) + w * (y * q + r) * p := by
  grind
/-- The inner loop of the product: row i. -/
theorem mul_inner (xs ys : List Int) (i : Nat) (w : Int) (hy : Digs ys) (hw : Dig w) (hlx : i < xs.length) (hx62 : xs.length ≤ 1000000000) (hy62 : ys.length ≤ 1000000000)
    (d : Nat) : ∀ (j : Nat) (out : List Int) (c : Int) (k : Nat), ys.length - j = d → j ≤ ys.length → d < k → Digs out → out.length = xs.length + ys.length → Dig c →
      out.getD (i + ys.length) 0 = 0 →
      ∃ (out' : List Int), Digs out' ∧ out'.length = xs.length + ys.length ∧
        val out' = val out + c.toNat * 4294967296 ^ (i + j) + w.toNat * (val ys - val (ys.take j)) * 4294967296 ^ i ∧
        big_nat_mul.l1 k ys out (i : Int) w c xs (xs.length : Int) (i : Int) ys (ys.length : Int) (j : Int) = big_nat_mul.l0 (k - d - 1) ys out' xs (xs.length : Int) ((i : Int) + 1) := by
  induction d with
  | zero =>
    intro j out c k hd hj hk ho hl hc hz
    obtain ⟨k, rfl⟩ : ∃ m, k = m + 1 := ⟨k - 1, by omega⟩
    have hjj : j = ys.length := by omega
    subst hjj
    refine ⟨out.set (i + ys.length) (c % 4294967296), ho.set _ (dig_mod _), by rw [List.length_set, hl], ?_, ?_⟩
    · have := val_set (xs := out) (p := i + ys.length) (by omega) (c % 4294967296)
      rw [hz] at this
      have hcm : c % 4294967296 = c := by have := hc.1; have := hc.2; omega
      rw [hcm] at this ⊢
      rw [List.take_length, Nat.sub_self, Nat.mul_zero, Nat.zero_mul]
      simpa using this
    · simp only [big_nat_mul.l1]
      rw [if_neg (by omega)]
      have e1 : wrap64 ((i : Int) + (ys.length : Int)) = ((i + ys.length : Nat) : Int) := by rw [wrap64_id (by omega) (by omega)]; omega
      rw [e1, if_pos (by omega), if_pos (by omega), Int.toNat_natCast, wrap64_id (by omega) (by omega)]
      simp
  | succ d ih =>
    intro j out c k hd hj hk ho hl hc hz
    obtain ⟨k, rfl⟩ : ∃ m, k = m + 1 := ⟨k - 1, by omega⟩
    have hlt : j < ys.length := by omega
    have g1 : (j : Int) < (ys.length : Int) := by omega
    have g2 : (0 : Int) ≤ (j : Int) := by omega
    have g3 : (0 : Int) ≤ ((i + j : Nat) : Int) := by omega
    have g4 : ((i + j : Nat) : Int) < (out.length : Int) := by omega
    have g5 : i + j ≤ 9000000000 := by omega
    have g6 : j ≤ 9000000000 := by omega
    have e3 : k + 1 - (d + 1) - 1 = k - d - 1 := by omega
    have b1 : ys.length - (j + 1) = d := by omega
    have b2 : j + 1 ≤ ys.length := by omega
    have b3 : d < k := by omega
    have b6 : i + j ≠ i + ys.length := by omega
    have b4 : ∀ v, (out.set (i + j) v).getD (i + ys.length) 0 = 0 := by
      intro v; rw [getD_set_ne _ b6]; exact hz
    have b5 : i + j < out.length := by omega
    have hv := hy.getD j
    have hoo := ho.getD (i + j)
    have htk := val_take_succ hlt
    have hle : val (ys.take (j + 1)) ≤ val ys := by
      have := val_take_drop ys (j + 1) (by omega)
      omega
    have hnn : (c + w * ys.getD j 0 + out.getD (i + j) 0).toNat = c.toNat + w.toNat * (ys.getD j 0).toNat + (out.getD (i + j) 0).toNat := by
      have h0 := Int.mul_nonneg hw.1 hv.1
      have e : (w * ys.getD j 0).toNat = w.toNat * (ys.getD j 0).toNat := Int.toNat_mul hw.1 hv.1
      have := hc.1; have := hoo.1
      omega
    obtain ⟨m1, m2, m3⟩ := mul_word hw hv hoo hc
    obtain ⟨out', a1, a2, a3, a4⟩ := ih (j + 1) (out.set (i + j) ((c + w * ys.getD j 0 + out.getD (i + j) 0) % 4294967296)) ((c + w * ys.getD j 0 + out.getD (i + j) 0) / 4294967296) k b1 b2 b3
      (ho.set _ (dig_mod _)) (by rw [List.length_set, hl]) (dig_div m2 m3) (b4 _)
    refine ⟨out', a1, a2, ?_, ?_⟩
    · rw [a3]
      have hs := val_set (xs := out) (p := i + j) b5 ((c + w * ys.getD j 0 + out.getD (i + j) 0) % 4294967296)
      have hsp := toNat_split m2
      rw [hnn] at hsp
      clear m1 m2 m3 a4
      obtain ⟨r, hr⟩ : ∃ r, val ys = val (ys.take (j + 1)) + r := ⟨val ys - val (ys.take (j + 1)), by omega⟩
      have e1 : val ys - val (ys.take (j + 1)) = r := by omega
      have e2 : val ys - val (ys.take j) = (ys.getD j 0).toNat * 4294967296 ^ j + r := by omega
      rw [e1, e2]
      have hp : 4294967296 ^ (i + (j + 1)) = 4294967296 * (4294967296 ^ j * 4294967296 ^ i) := by rw [← Nat.add_assoc, Nat.pow_succ, Nat.mul_comm, Nat.pow_add, Nat.mul_comm (4294967296 ^ i)]
      have hq : 4294967296 ^ (i + j) = 4294967296 ^ j * 4294967296 ^ i := by rw [Nat.pow_add, Nat.mul_comm]
      rw [hp, hq]
      rw [hq] at hs
      exact inner_arith _ _ _ _ _ _ _ _ _ _ _ _ hsp hs
    · simp only [big_nat_mul.l1]
      rw [if_pos g1, if_pos g2, if_pos g1, wrap_add g5, if_pos g3, if_pos g4, wrap_inc g6, rd_eq, rd_eq, m1, Int.toNat_natCast, a4, e3]
theorem val_zero_above {xs : List Int} {p : Nat} (hd : Digs xs) (h : val xs < 4294967296 ^ p) : ∀ q, p ≤ q → xs.getD q 0 = 0 := by
  induction xs generalizing p with
  | nil => intro q _; rfl
  | cons x xs ih =>
    intro q hq
    cases p with
    | zero =>
      have h0 : val (x :: xs) = 0 := by simpa using h
      simp only [val] at h0
      have hx : x = 0 := by have := hd.head.1; omega
      have hv : val xs < 4294967296 ^ 0 := by simp; omega
      cases q with
      | zero => rw [hx]; rfl
      | succ q => rw [List.getD_cons_succ]; exact ih hd.tail hv q (by omega)
    | succ p =>
      obtain ⟨q, rfl⟩ : ∃ m, q = m + 1 := ⟨q - 1, by omega⟩
      rw [List.getD_cons_succ]
      refine ih (p := p) hd.tail ?_ q (by omega)
      simp only [val, Nat.pow_succ] at h
      generalize 4294967296 ^ p = r at *
      omega
theorem outer_arith (p a b w vo : Nat) (h : vo = a * b) : vo + 0 * p + w * (b - 0) * p = (a + w * p) * b := by
  subst h; simp; grind
theorem mul_outer (xs ys : List Int) (hx : Digs xs) (hy : Digs ys) (hx62 : xs.length ≤ 1000000000) (hy62 : ys.length ≤ 1000000000)
    (d : Nat) : ∀ (i : Nat) (out : List Int) (k : Nat), xs.length - i = d → i ≤ xs.length → (d + 2) * (ys.length + 2) + xs.length + ys.length < k → Digs out → out.length = xs.length + ys.length →
      val out = val (xs.take i) * val ys →
      big_nat_mul.l0 k ys out xs (xs.length : Int) (i : Int) = some (digs (val xs * val ys)) := by
  induction d with
  | zero =>
    intro i out k hd hi hk ho hl hv
    obtain ⟨k, rfl⟩ : ∃ m, k = m + 1 := ⟨k - 1, by omega⟩
    have hii : i = xs.length := by omega
    subst hii
    simp only [big_nat_mul.l0]
    have g1 : ¬ ((xs.length : Int) < (xs.length : Int)) := by omega
    have g2 : xs.length + ys.length < k := by omega
    have g3 : xs.length + ys.length ≤ 4611686018427387904 := by omega
    rw [if_neg g1]
    unfold big_nat_trim.f
    rw [trim_f (xs.length + ys.length) out k hl g2 g3 ho]
    rw [List.take_length] at hv
    simp only [Option.bind_some, trimmed, hv]
  | succ d ih =>
    intro i out k hd hi hk ho hl hv
    obtain ⟨k, rfl⟩ : ∃ m, k = m + 1 := ⟨k - 1, by omega⟩
    have hlt : i < xs.length := by omega
    have g1 : (i : Int) < (xs.length : Int) := by omega
    have g2 : (0 : Int) ≤ (i : Int) := by omega
    have b1 : ys.length - 0 = ys.length := by omega
    have hm : (d + 1 + 2) * (ys.length + 2) = (d + 2) * (ys.length + 2) + (ys.length + 2) := by rw [Nat.add_right_comm, Nat.add_mul (d + 2) 1, Nat.one_mul]
    rw [hm] at hk
    have b2 : ys.length < k := by omega
    have b3 : (d + 2) * (ys.length + 2) + xs.length + ys.length < k - ys.length - 1 := by omega
    have b4 : xs.length - (i + 1) = d := by omega
    have hw := hx.getD i
    have hz : out.getD (i + ys.length) 0 = 0 := by
      refine val_zero_above ho (p := i + ys.length) ?_ _ (Nat.le_refl _)
      rw [hv, Nat.pow_add]
      have h1 := val_lt (hx.take i)
      rw [List.length_take, Nat.min_eq_left (by omega)] at h1
      exact Nat.mul_lt_mul'' h1 (val_lt hy)
    obtain ⟨out', a1, a2, a3, a4⟩ := mul_inner xs ys i (xs.getD i 0) hy hw hlt hx62 hy62 ys.length 0 out 0 k b1 (Nat.zero_le _) b2 ho hl ⟨by omega, by omega⟩ hz
    simp only [big_nat_mul.l0]
    rw [if_pos g1, if_pos g2, if_pos g1, rd_eq]
    have e0 : ((0 : Nat) : Int) = 0 := rfl
    rw [e0] at a4
    rw [a4]
    have e1 : (i : Int) + 1 = ((i + 1 : Nat) : Int) := by omega
    rw [e1]
    refine ih (i + 1) out' _ b4 (by omega) b3 a1 a2 ?_
    rw [a3, val_take_succ hlt]
    simp only [List.take_zero, val, Nat.add_zero]
    exact outer_arith _ _ _ _ _ hv
theorem mul_f {a b : Nat} (ha : (digs a).length ≤ 1000000000) (hb : (digs b).length ≤ 1000000000) : ∃ k, big_nat_mul.f k (digs a) (digs b) = some (digs (a * b)) := by
  by_cases h1 : (digs a).length = 0
  · have := digs_nil.1 (List.length_eq_zero_iff.1 h1)
    subst this
    refine ⟨1, ?_⟩
    simp [big_nat_mul.f, big_nat_mul.j0, digs_zero]
  by_cases h2 : (digs b).length = 0
  · have := digs_nil.1 (List.length_eq_zero_iff.1 h2)
    subst this
    refine ⟨1, ?_⟩
    have g : ¬ (((digs a).length : Int) = 0) := by omega
    simp only [big_nat_mul.f]
    rw [if_neg g]
    simp [big_nat_mul.j0, digs_zero]
  refine ⟨((digs a).length + 2) * ((digs b).length + 2) + (digs a).length + (digs b).length + 1 + 1, ?_⟩
  have g1 : ¬ (((digs a).length : Int) = 0) := by omega
  have g2 : (((digs b).length : Int) == 0) = false := beq_eq_false_iff_ne.mpr (by omega)
  have g3 : (0 : Int) ≤ (((digs a).length + (digs b).length : Nat) : Int) := by omega
  have g5 : (digs a).length + (digs b).length ≤ 9000000000 := by omega
  have g4 : (((digs a).length + (digs b).length : Nat) : Int).toNat ≤ 70368744177664 := by omega
  simp only [big_nat_mul.f]
  rw [if_neg g1, g2]
  simp only [big_nat_mul.j0]
  rw [wrap_add g5, if_neg (by decide), if_pos g3, if_pos g4, Int.toNat_natCast]
  have := mul_outer (digs a) (digs b) (digs_digs a) (digs_digs b) ha hb (digs a).length 0 (List.replicate ((digs a).length + (digs b).length) 0) (((digs a).length + 2) * ((digs b).length + 2) + (digs a).length + (digs b).length + 1) (by omega) (by omega) (Nat.lt_succ_self _) (Digs.replicate _) (by simp) (by rw [val_replicate]; simp [val])
  rw [val_digs, val_digs] at this
  exact this
/-- Words are compared from the highest one on. -/
theorem cmp_loop (xs ys : List Int) (hx : Digs xs) (hy : Digs ys) (hl : xs.length = ys.length) (hm : xs.length ≤ 9000000000) (n : Nat) : ∀ (k : Nat), n < k → n ≤ xs.length →
    xs.drop n = ys.drop n →
    big_nat_cmp.l0 k xs ys ((n : Int) - 1) = some (if val xs < val ys then -1 else if val xs = val ys then 0 else 1) := by
  induction n with
  | zero =>
    intro k hk _ he
    obtain ⟨k, rfl⟩ : ∃ m, k = m + 1 := ⟨k - 1, by omega⟩
    have : xs = ys := by simpa using he
    subst this
    simp only [big_nat_cmp.l0]
    rw [if_neg (by omega), if_neg (by omega)]
    simp
  | succ n ih =>
    intro k hk hn he
    obtain ⟨k, rfl⟩ : ∃ m, k = m + 1 := ⟨k - 1, by omega⟩
    have e1 : ((n + 1 : Nat) : Int) - 1 = (n : Int) := by omega
    have g0 : (n : Int) ≥ 0 := by omega
    have g1 : (n : Int) < (xs.length : Int) := by omega
    have g2 : (n : Int) < (ys.length : Int) := by omega
    have hn1 : n < xs.length := by omega
    have hn2 : n < ys.length := by omega
    have hdx : xs.drop n = xs.getD n 0 :: xs.drop (n + 1) := by rw [List.drop_eq_getElem_cons hn1]; simp [List.getD, hn1]
    have hdy : ys.drop n = ys.getD n 0 :: ys.drop (n + 1) := by rw [List.drop_eq_getElem_cons hn2]; simp [List.getD, hn2]
    have vx := val_take_drop xs n (by omega)
    have vy := val_take_drop ys n (by omega)
    have tx := val_lt (hx.take n)
    have ty := val_lt (hy.take n)
    rw [List.length_take, Nat.min_eq_left (by omega)] at tx ty
    have w1 : wrap64 ((n : Int) - 1) = (n : Int) - 1 := by rw [wrap64_id (by omega) (by omega)]
    simp only [big_nat_cmp.l0]
    rw [e1, if_pos g0, if_pos g0, if_pos g1, if_pos g2, rd_eq, rd_eq, w1]
    clear w1
    have dx := hx.getD n
    have dy := hy.getD n
    by_cases hxy : xs.getD n 0 = ys.getD n 0
    · rw [if_pos hxy]
      exact ih k (by omega) (by omega) (by rw [hdx, hdy, hxy, he])
    · rw [if_neg hxy]
      rw [hdx] at vx
      rw [hdy, ← he] at vy
      simp only [val] at vx vy
      generalize val (xs.drop (n + 1)) = r at *
      generalize val (xs.take n) = a at *
      generalize val (ys.take n) = b at *
      generalize 4294967296 ^ n = q at *
      obtain ⟨x0, x1⟩ := dx
      obtain ⟨y0, y1⟩ := dy
      generalize xs.getD n 0 = x at *
      generalize ys.getD n 0 = y at *
      by_cases hlt : x < y
      · rw [if_pos hlt, if_pos]
        have : x.toNat + 1 ≤ y.toNat := by omega
        have h2 := Nat.mul_le_mul_left q this
        rw [Nat.mul_add] at h2 vx vy
        omega
      · have : y.toNat + 1 ≤ x.toNat := by omega
        have h2 := Nat.mul_le_mul_left q this
        rw [Nat.mul_add] at h2 vx vy
        rw [if_neg hlt, if_neg (by omega), if_neg (by omega)]
theorem cmp_f {a b : Nat} (ha : (digs a).length ≤ 1000000000) : ∃ k, big_nat_cmp.f k (digs a) (digs b) = some (if a < b then -1 else if a = b then 0 else 1) := by
  by_cases hl : (digs a).length = (digs b).length
  · refine ⟨(digs a).length + 1, ?_⟩
    have w1 : wrap64 (((digs a).length : Int) - 1) = ((digs a).length : Int) - 1 := by rw [wrap64_id (by omega) (by omega)]
    have g : ((digs a).length : Int) = ((digs b).length : Int) := by omega
    have := cmp_loop (digs a) (digs b) (digs_digs a) (digs_digs b) hl (by omega) (digs a).length ((digs a).length + 1) (Nat.lt_succ_self _) (Nat.le_refl _) (by rw [List.drop_length, hl, List.drop_length])
    rw [val_digs, val_digs] at this
    unfold big_nat_cmp.f
    rw [if_pos g, w1]
    exact this
  · refine ⟨0, ?_⟩
    have g : ¬ ((digs a).length : Int) = ((digs b).length : Int) := by omega
    unfold big_nat_cmp.f
    rw [if_neg g]
    by_cases h : (digs a).length < (digs b).length
    · have hab : a < b := by
        rcases Nat.lt_or_ge a b with h1 | h1
        · exact h1
        · have := digs_length_mono h1; omega
      rw [if_pos (by omega), if_pos hab]
    · have hab : b < a := by
        rcases Nat.lt_or_ge b a with h1 | h1
        · exact h1
        · have := digs_length_mono h1; omega
      rw [if_neg (by omega), if_neg (by omega), if_neg (by omega)]
end Go.Proofs.YtinmbcomnjmmjaaGreatDoor
namespace Go.Proofs.YtinmbcomnjmmjaaGreatDoor
open Go.RowKit Go.Proofs.YtinmbcomnjmmjaaGreatDoorW.PrintWords Go.Proofs.YtinmbcomnjmmjaaGreatDoorW.PrintLast Go.Proofs.YtinmbcomnjmmjaaGreatDoorW.PrintMore
open X
/-- A slice value that reads as words. -/
def Words (w : World) (v : Value) (xs : List Int) : Prop := ∃ A c, v = .slice A xs.length c ∧ xs.length ≤ c ∧ Kd.C (Kd.int .u32) w A xs.length xs
/-- A slice value that reads as a number. -/
def NatAt (w : World) (v : Value) (n : Nat) : Prop := Words w v (digs n)
theorem Words.of_V {w : World} {e b : Nat} {ok : Nat → Prop} {v : Value} {xs : List Int} (h : Kd.V (Kd.int .u32) e w b ok v xs) : Words w v xs := by
  obtain ⟨A, c, rfl, hl, hf⟩ := h
  exact ⟨A, c, rfl, hl, hf.now⟩
theorem Words.of_R {w : World} {e b : Nat} {ok : Nat → Prop} {v : Value} {xs : List Int} (h : Kd.R (Kd.int .u32) e w b ok v xs) : Words w v xs := Words.of_V (Kd.R_V (base' := b) h)
theorem Words.below {w w1 : World} {v : Value} {xs : List Int} (h : Words w v xs) (hb : Below w.heap.size w w1) : Words w1 v xs := by
  obtain ⟨A, c, rfl, hl, hf⟩ := h
  exact ⟨A, c, rfl, hl, Kd.C_below hf hb⟩
theorem NatAt.below {w w1 : World} {v : Value} {n : Nat} (h : NatAt w v n) (hb : Below w.heap.size w w1) : NatAt w1 v n := Words.below h hb
theorem NatAt.of_eq {w : World} {v : Value} {n : Nat} {xs : List Int} (h : Words w v xs) (e : xs = digs n) : NatAt w v n := by unfold NatAt; rw [← e]; exact h
theorem Words.toV {w : World} {v : Value} {xs : List Int} (h : Words w v xs) : Kd.V (Kd.int .u32) 93 w w.heap.size (fun _ => True) v xs := by
  obtain ⟨A, c, rfl, hl, hf⟩ := h
  exact ⟨A, c, rfl, hl, fun W' hW => Kd.Heap.C (Kd.heap_int .u32) (fun k hk => hW k trivial hk) hf⟩
/-- Nothing but block g (of those that were there) has turned. -/
def Turns (g : Nat) (w w' : World) : Prop := w.grownBy w' (some g)
theorem Turns.of_below {g : Nat} {w w' : World} (h : Below w.heap.size w w') : Turns g w w' := grown_of_below h _
theorem Turns.size {g : Nat} {w w' : World} (h : Turns g w w') : w.heap.size ≤ w'.heap.size := World.grownBy.size h
theorem Turns.block {g : Nat} {w w' : World} (h : Turns g w w') {i : Nat} (hi : i < w.heap.size) (hn : i ≠ g) : w'.heap[i]? = w.heap[i]? := World.grownBy.block h i hi (fun e => hn (Option.some.inj e))
theorem Turns.trans {g : Nat} {w w1 w2 : World} (h : Turns g w w1) (k : Turns g w1 w2) : Turns g w w2 :=
  ⟨(World.grownBy.os k).trans (World.grownBy.os h), (World.grownBy.tape k).trans (World.grownBy.tape h), (World.grownBy.output k).trans (World.grownBy.output h), Nat.le_trans h.size k.size,
   fun i hi hn => (World.grownBy.block k i (Nat.lt_of_lt_of_le hi h.size) hn).trans (World.grownBy.block h i hi hn)⟩
/-- What turned is new. -/
theorem Turns.new {g g' : Nat} {w w1 w2 : World} (h : Turns g w w1) (hg : w.heap.size ≤ g') (k : Turns g' w1 w2) : Turns g w w2 :=
  ⟨(World.grownBy.os k).trans (World.grownBy.os h), (World.grownBy.tape k).trans (World.grownBy.tape h), (World.grownBy.output k).trans (World.grownBy.output h), Nat.le_trans h.size k.size,
   fun i hi hn => (k.block (Nat.lt_of_lt_of_le hi h.size) (by omega)).trans (World.grownBy.block h i hi hn)⟩
theorem Turns.below {B g : Nat} {w w1 w2 : World} (h : Below B w w1) (hB : B ≤ w1.heap.size) (hg : B ≤ g) (k : Turns g w1 w2) : Below B w w2 :=
  h.grown k hB (fun i hi => by rw [← Option.some.inj hi]; exact hg)
theorem Turns.then_below {g : Nat} {w w1 w2 : World} (h : Turns g w w1) (k : Below w1.heap.size w1 w2) : Turns g w w2 := h.trans (Turns.of_below k)
/-- A block that holds a big.Int. -/
def IntBlk (w : World) (g : Nat) : Prop := ∃ (b : Bool) (A : Option Addr) (n c : Nat), w.heap[g]? = some (.cells #[.bool b, .slice A n c] 184 (0, 0))
/-- Block g holds the big.Int z. -/
def IntAt (w : World) (g : Nat) (z : Int) : Prop := ∃ v, w.heap[g]? = some (.cells #[.bool (decide (z < 0)), v] 184 (0, 0)) ∧ NatAt w v z.natAbs
theorem IntAt.blk {w : World} {g : Nat} {z : Int} (h : IntAt w g z) : IntBlk w g := by
  obtain ⟨v, h1, A, c, rfl, _⟩ := h
  exact ⟨_, _, _, _, h1⟩
theorem IntBlk.lt {w : World} {g : Nat} (h : IntBlk w g) : g < w.heap.size := by
  obtain ⟨b, A, n, c, h⟩ := h; exact blk_lt h
theorem IntAt.lt {w : World} {g : Nat} {z : Int} (h : IntAt w g z) : g < w.heap.size := h.blk.lt
theorem cell_turns {w w1 : World} {g : Nat} (hg : IntBlk w g) (h : Turns g w w1) {a : Addr} {k : IntKind} {x : Int} (hc : w.cell? a = some (.int k x)) : w1.cell? a = some (.int k x) := by
  have hlt := World.block_lt_of_cell? w a hc
  have hne : a.block ≠ g := by
    intro e
    obtain ⟨b, A, n, c, hb⟩ := hg
    unfold World.cell? at hc
    rw [e, hb] at hc
    simp only at hc
    split at hc
    · cases hc
    · rcases ho : a.off with _ | _ | m
      · rw [ho] at hc; simp at hc
      · rw [ho] at hc; simp at hc
      · rw [ho] at hc; simp at hc
  have := h.block hlt hne
  unfold World.cell? at hc ⊢
  rw [this]; exact hc
theorem Words.turns {w w1 : World} {g : Nat} {v : Value} {xs : List Int} (h : Words w v xs) (hg : IntBlk w g) (ht : Turns g w w1) : Words w1 v xs := by
  obtain ⟨A, c, rfl, hl, hf⟩ := h
  refine ⟨A, c, rfl, hl, hf.1, hf.2.1, fun hn => ?_⟩
  obtain ⟨ad, e, hc⟩ := hf.2.2 hn
  refine ⟨ad, e, fun j p hj => ?_⟩
  obtain ⟨cs, hs, hr, hcell⟩ := hc j p hj
  refine ⟨cs, hs, hr, fun i u hu => ?_⟩
  have he : cs = [.int .u32 p] := hr
  subst he
  have hi : i = 0 := by
    rcases i with _ | i
    · rfl
    · simp at hu
  subst hi
  have hu' : u = .int .u32 p := by simpa using hu.symm
  subst hu'
  exact cell_turns hg ht (hcell 0 _ rfl)
theorem NatAt.turns {w w1 : World} {g : Nat} {v : Value} {n : Nat} (h : NatAt w v n) (hg : IntBlk w g) (ht : Turns g w w1) : NatAt w1 v n := Words.turns h hg ht
theorem IntBlk.below {w w1 : World} {g : Nat} (h : IntBlk w g) (hb : Below w.heap.size w w1) : IntBlk w1 g := by
  obtain ⟨b, A, n, c, h⟩ := h; exact ⟨b, A, n, c, (hb.block g (blk_lt h)).trans h⟩
theorem IntBlk.turns {w w1 : World} {g g' : Nat} (h : IntBlk w g) (hn : g ≠ g') (ht : Turns g' w w1) : IntBlk w1 g := by
  obtain ⟨b, A, n, c, h⟩ := h; exact ⟨b, A, n, c, (ht.block (blk_lt h) hn).trans h⟩
theorem IntAt.below {w w1 : World} {g : Nat} {z : Int} (h : IntAt w g z) (hb : Below w.heap.size w w1) : IntAt w1 g z := by
  obtain ⟨v, h1, h2⟩ := h
  exact ⟨v, (hb.block g (blk_lt h1)).trans h1, h2.below hb⟩
theorem IntAt.turns {w w1 : World} {g g' : Nat} {z : Int} (h : IntAt w g z) (hn : g ≠ g') (hg : IntBlk w g') (ht : Turns g' w w1) : IntAt w1 g z := by
  obtain ⟨v, h1, h2⟩ := h
  exact ⟨v, (ht.block (blk_lt h1) hn).trans h1, h2.turns hg ht⟩
theorem IntAt.new (w : World) : IntAt (w.alloc (.cells #[.bool false, .slice none 0 0] 184)) w.heap.size 0 := by
  refine ⟨.slice none 0 0, by show (w.heap.push _)[w.heap.size]? = _; rw [Array.getElem?_push_size]; rfl, ?_⟩
  refine NatAt.of_eq (xs := []) ⟨none, 0, rfl, Nat.le_refl _, Kd.C_nil _ _⟩ ?_
  exact digs_zero.symm
/-- What put leaves. -/
theorem put_leaves {w : World} {g : Nat} (hg : IntBlk w g) (b : Bool) (A : Option Addr) (n c : Nat) :
    Turns g w ((w.setCell ⟨g, 0, none⟩ (.bool b)).setCell ⟨g, 1, none⟩ (.slice A n c)) ∧
    ((w.setCell ⟨g, 0, none⟩ (.bool b)).setCell ⟨g, 1, none⟩ (.slice A n c)).heap[g]? = some (.cells #[.bool b, .slice A n c] 184 (0, 0)) := by
  obtain ⟨b0, A0, n0, c0, h⟩ := hg
  refine ⟨⟨rfl, rfl, rfl, by simp [World.setCell], fun i _ hn => ?_⟩, ?_⟩
  · have hn' : i ≠ g := fun e => hn (by rw [e])
    rw [Below.heap_setCell _ _ _ _ hn', Below.heap_setCell _ _ _ _ hn']
  · have h1 := blk_set h 0 (.bool b)
    have h2 := blk_set h1 1 (.slice A n c)
    exact h2
theorem put_int {w : World} {g : Nat} (hg : IntBlk w g) {z : Int} {v : Value} (hv : NatAt w v z.natAbs) {A : Option Addr} {n c : Nat} (he : v = .slice A n c) {b : Bool} (hb : b = decide (z < 0)) :
    IntAt ((w.setCell ⟨g, 0, none⟩ (.bool b)).setCell ⟨g, 1, none⟩ (.slice A n c)) g z := by
  obtain ⟨h1, h2⟩ := put_leaves hg b A n c
  subst hb he
  exact ⟨_, h2, hv.turns hg h1⟩
theorem digs_len_pos (n : Nat) : decide (0 < (digs n).length) = decide (n ≠ 0) := by
  by_cases h : n = 0
  · subst h; rw [digs_zero]; rfl
  · have : digs n ≠ [] := fun e => h (digs_nil.1 e)
    simp [h, List.length_pos_iff, this]
/-- How many words there may be. -/
def Fits (n : Nat) : Prop := (digs n).length ≤ 1000000000
theorem Fits.mono {a b : Nat} (h : Fits b) (hab : a ≤ b) : Fits a := Nat.le_trans (digs_length_mono hab) h
end Go.Proofs.YtinmbcomnjmmjaaGreatDoor
