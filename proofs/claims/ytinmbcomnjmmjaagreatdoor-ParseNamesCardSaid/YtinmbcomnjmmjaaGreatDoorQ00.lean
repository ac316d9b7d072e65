/- Proved: a part of what the statement on the names of parse needs: walks of functions of the program, and plain laws. (Texts Ba.) -/

namespace Go.Proofs.YtinmbcomnjmmjaaGreatDoor
/-- The words of a number, the lowest first, no nought at the end. -/
def digs (n : Nat) : List Int := if n = 0 then [] else ((n % 4294967296 : Nat) : Int) :: digs (n / 4294967296)
termination_by n
decreasing_by omega
/-- What words tell. -/
def val : List Int → Nat
  | [] => 0
  | x :: xs => x.toNat + 4294967296 * val xs
def Dig (x : Int) : Prop := 0 ≤ x ∧ x < 4294967296
def Digs (xs : List Int) : Prop := ∀ x ∈ xs, Dig x
def Canon (xs : List Int) : Prop := Digs xs ∧ xs.getLast? ≠ some 0
theorem digs_zero : digs 0 = [] := by rw [digs]; simp
theorem digs_pos {n : Nat} (h : n ≠ 0) : digs n = ((n % 4294967296 : Nat) : Int) :: digs (n / 4294967296) := by rw [digs]; simp [h]
theorem val_digs (n : Nat) : val (digs n) = n := by
  induction n using Nat.strongRecOn with
  | _ n ih =>
    by_cases h : n = 0
    · subst h; rw [digs_zero]; rfl
    · rw [digs_pos h, val, ih _ (by omega)]; omega
theorem digs_digs (n : Nat) : Digs (digs n) := by
  induction n using Nat.strongRecOn with
  | _ n ih =>
    by_cases h : n = 0
    · subst h; rw [digs_zero]; intro x hx; cases hx
    · rw [digs_pos h]; intro x hx
      rcases List.mem_cons.1 hx with rfl | hx
      · constructor <;> omega
      · exact ih _ (by omega) x hx
theorem digs_nil {n : Nat} : digs n = [] ↔ n = 0 := by
  constructor
  · intro h; have := val_digs n; rw [h] at this; simpa [val] using this.symm
  · rintro rfl; exact digs_zero
theorem digs_last (n : Nat) : (digs n).getLast? ≠ some 0 := by
  induction n using Nat.strongRecOn with
  | _ n ih =>
    by_cases h : n = 0
    · subst h; rw [digs_zero]; simp
    · rw [digs_pos h]
      by_cases h2 : n / 4294967296 = 0
      · rw [h2, digs_zero]; simp; omega
      · have hne : digs (n / 4294967296) ≠ [] := fun e => h2 (digs_nil.1 e)
        rw [List.getLast?_cons, ]
        have := ih _ (show n / 4294967296 < n by omega)
        cases hx : (digs (n / 4294967296)).getLast? with
        | none => exact absurd (List.getLast?_eq_none_iff.1 hx) hne
        | some y => rw [hx] at this; simpa using this
theorem canon_digs (n : Nat) : Canon (digs n) := ⟨digs_digs n, digs_last n⟩
theorem Digs.nil : Digs [] := fun _ h => by cases h
theorem Digs.cons {x : Int} {xs : List Int} (h : Dig x) (k : Digs xs) : Digs (x :: xs) := fun y hy => by
  rcases List.mem_cons.1 hy with rfl | hy
  · exact h
  · exact k y hy
theorem Digs.tail {x : Int} {xs : List Int} (h : Digs (x :: xs)) : Digs xs := fun y hy => h y (List.mem_cons_of_mem _ hy)
theorem Digs.head {x : Int} {xs : List Int} (h : Digs (x :: xs)) : Dig x := h x List.mem_cons_self
theorem Digs.append {xs ys : List Int} (h : Digs xs) (k : Digs ys) : Digs (xs ++ ys) := fun y hy => by
  rcases List.mem_append.1 hy with hy | hy
  · exact h y hy
  · exact k y hy
theorem Digs.one {x : Int} (h : Dig x) : Digs [x] := Digs.cons h Digs.nil
theorem Digs.take {xs : List Int} (h : Digs xs) (n : Nat) : Digs (xs.take n) := fun y hy => h y (List.mem_of_mem_take hy)
theorem Digs.drop {xs : List Int} (h : Digs xs) (n : Nat) : Digs (xs.drop n) := fun y hy => h y (List.mem_of_mem_drop hy)
theorem Digs.set {xs : List Int} (h : Digs xs) (i : Nat) {v : Int} (hv : Dig v) : Digs (xs.set i v) := fun y hy => by
  rcases List.mem_or_eq_of_mem_set hy with hy | rfl
  · exact h y hy
  · exact hv
theorem Digs.replicate (n : Nat) : Digs (List.replicate n 0) := fun y hy => by
  rw [List.mem_replicate] at hy; rw [hy.2]; exact ⟨by omega, by omega⟩
theorem Digs.getD {xs : List Int} (h : Digs xs) (i : Nat) : Dig (xs.getD i 0) := by
  by_cases hi : i < xs.length
  · have : xs.getD i 0 = xs[i] := by simp [List.getD, hi]
    rw [this]; exact h _ (List.getElem_mem hi)
  · have : xs.getD i 0 = 0 := by simp [List.getD]; rw [List.getElem?_eq_none (by omega)]; rfl
    rw [this]; exact ⟨by omega, by omega⟩
theorem digs_val {xs : List Int} (h : Canon xs) : digs (val xs) = xs := by
  induction xs with
  | nil => exact digs_zero
  | cons x xs ih =>
    obtain ⟨hd, hl⟩ := h
    have hx := hd.head
    have hc : Canon xs := by
      refine ⟨hd.tail, fun e => hl ?_⟩
      rw [List.getLast?_cons, e]; rfl
    have ih' := ih hc
    have hne : val (x :: xs) ≠ 0 := by
      intro e
      simp only [val] at e
      have h1 : x.toNat = 0 := by omega
      have h2 : val xs = 0 := by omega
      rw [h2, digs_zero] at ih'
      subst ih'
      apply hl
      simp
      have := hx.1; omega
    rw [digs_pos hne]
    have e1 : val (x :: xs) % 4294967296 = x.toNat := by
      have := hx.2; have := hx.1
      simp only [val]; omega
    have e2 : val (x :: xs) / 4294967296 = val xs := by
      have := hx.2; have := hx.1
      simp only [val]; omega
    rw [e1, e2, ih']
    have := hx.1
    congr 1; omega
theorem val_append (xs ys : List Int) : val (xs ++ ys) = val xs + 4294967296 ^ xs.length * val ys := by
  induction xs with
  | nil => simp [val]
  | cons x xs ih =>
    simp only [List.cons_append, val, ih, List.length_cons, Nat.pow_succ]
    rw [Nat.mul_add, ← Nat.add_assoc, Nat.mul_comm (4294967296 ^ xs.length) 4294967296, Nat.mul_assoc]
theorem val_lt {xs : List Int} (h : Digs xs) : val xs < 4294967296 ^ xs.length := by
  induction xs with
  | nil => simp [val]
  | cons x xs ih =>
    have := ih h.tail
    have hx := h.head.2
    simp only [val, List.length_cons, Nat.pow_succ]
    generalize 4294967296 ^ xs.length = p at *
    omega
theorem val_replicate (n : Nat) : val (List.replicate n 0) = 0 := by
  induction n with
  | zero => rfl
  | succ n ih => rw [List.replicate_succ, val, ih]; rfl
theorem val_take_drop (xs : List Int) (i : Nat) (h : i ≤ xs.length) : val xs = val (xs.take i) + 4294967296 ^ i * val (xs.drop i) := by
  conv => lhs; rw [← List.take_append_drop i xs]
  rw [val_append, List.length_take, Nat.min_eq_left h]
theorem val_snoc (xs : List Int) (x : Int) : val (xs ++ [x]) = val xs + 4294967296 ^ xs.length * x.toNat := by
  rw [val_append]; simp [val]
theorem canon_top {xs : List Int} (h : Canon xs) (hne : xs ≠ []) : 4294967296 ^ (xs.length - 1) ≤ val xs := by
  rcases List.eq_nil_or_concat xs with rfl | ⟨ys, y, rfl⟩
  · exact absurd rfl hne
  · rw [List.concat_eq_append] at *
    have hy : y ≠ 0 := by
      intro e; apply h.2; rw [e]; simp
    have hd : Dig y := h.1 y (by simp)
    rw [val_snoc]
    simp only [List.length_append, List.length_cons, List.length_nil, Nat.zero_add, Nat.add_sub_cancel]
    have : 1 ≤ y.toNat := by have := hd.1; omega
    generalize 4294967296 ^ ys.length = p at *
    have := Nat.mul_le_mul_left p this
    omega
theorem digs_length_le {n k : Nat} (h : n < 4294967296 ^ k) : (digs n).length ≤ k := by
  by_cases hn : digs n = []
  · rw [hn]; exact Nat.zero_le _
  · have h1 := canon_top (canon_digs n) hn
    rw [val_digs] at h1
    rcases Nat.lt_or_ge k (digs n).length with hk | hk
    · exfalso
      have : 4294967296 ^ k ≤ 4294967296 ^ ((digs n).length - 1) := Nat.pow_le_pow_right (by decide) (by omega)
      omega
    · exact hk
theorem lt_digs_length (n : Nat) : n < 4294967296 ^ (digs n).length := by
  have := val_lt (digs_digs n); rwa [val_digs] at this
theorem digs_length_mono {a b : Nat} (h : a ≤ b) : (digs a).length ≤ (digs b).length := digs_length_le (Nat.lt_of_le_of_lt h (lt_digs_length b))
theorem digs_eq {a : Nat} {xs : List Int} (h : Canon xs) (hv : val xs = a) : digs a = xs := by rw [← hv, digs_val h]
/-- The noughts at the end taken away. -/
def trimmed (xs : List Int) : List Int := digs (val xs)
theorem trimmed_snoc_zero (xs : List Int) : trimmed (xs ++ [0]) = trimmed xs := by unfold trimmed; rw [val_snoc]; simp
theorem trimmed_canon {xs : List Int} (h : Canon xs) : trimmed xs = xs := digs_val h
end Go.Proofs.YtinmbcomnjmmjaaGreatDoor
