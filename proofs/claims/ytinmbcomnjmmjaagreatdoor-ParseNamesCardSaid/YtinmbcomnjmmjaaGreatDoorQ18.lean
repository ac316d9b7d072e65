/- Proved: a part of what the statement on the names of parse needs: walks of functions of the program, and plain laws. (Texts Bq, Bi.) -/
import Derived.Test.YtinmbcomnjmmjaaGreatDoorQ16
import Derived.Test.YtinmbcomnjmmjaaGreatDoorQ17
import Derived.Lib.SliceRun
import Derived.Test.YtinmbcomnjmmjaaGreatDoorQ00
namespace Go.Proofs.YtinmbcomnjmmjaaGreatDoor
open Go.RowKit Go.Proofs.YtinmbcomnjmmjaaGreatDoorW.PrintWords Go.Proofs.YtinmbcomnjmmjaaGreatDoorW.PrintLast Go.Proofs.YtinmbcomnjmmjaaGreatDoorW.PrintMore
open X
theorem reads_of_C {w : World} {A : Option Addr} {n : Nat} {xs : List Int} (h : Kd.C (Kd.int .u32) w A n xs) : ReadsInt w .u32 A n xs := by
  refine ⟨h.1, h.2.1, fun hn => ?_⟩
  obtain ⟨ad, _, e, _, _⟩ := at_word h 0 hn
  refine ⟨ad, e, fun j hj => ?_⟩
  obtain ⟨ad', x, e', hx, NX⟩ := at_word h j hj
  rw [e] at e'; cases e'
  rw [← NX.out]; exact hx
theorem C_none {w : World} {n : Nat} {xs : List Int} (h : Kd.C (Kd.int .u32) w none n xs) : n = 0 := by
  rcases Nat.eq_zero_or_pos n with h0 | h0
  · exact h0
  · obtain ⟨ad, e, _⟩ := h.2.2 h0; cases e
theorem Words.of_own {w : World} {base : Nat} {v : Value} {xs : List Int} (h : w.ownsRow base 93 1 v xs.length (nums .u32 xs)) : Words w v xs :=
  Words.of_R (ok := fun _ => True) (Kd.R_of_own (enc := Value.int .u32) h (fun _ _ => trivial))
set_option maxRecDepth 100000 in
theorem clone_calls {v : Value} {xs : List Int} {w : World} (h : Words w v xs) (hm : xs.length ≤ 2000000000) :
    Calls Tryz.prog 238 #[v] w fun e w' => ∃ r, e = .returned r ∧ w'.ownsRow w.heap.size 93 1 r xs.length (nums .u32 xs) ∧ Below w.heap.size w w' := by
  obtain ⟨A, c, rfl, hl, hr⟩ := h
  have q : ∀ (w : World) (a : Option Addr) (n c n' c' : Nat), (binOp .eql 182 (.slice a n c) (.slice none n' c')).run Tryz.prog w = .ok (.bool a.isNone) w := fun w a n c n' c' => Lib.run_eql_slice_nil w _ _ a n c n' c' Tryz.underlying182
  have u182 : ∀ w, Sem.run Tryz.prog (underlying 182) w = .ok (TypeDesc.slice 93) w := run_underlying Tryz.underlying182
  cases A with
  | none =>
    have h0 : xs = [] := List.length_eq_zero_iff.1 (C_none hr)
    subst h0
    clear hr
    go_enter Tryz.func238, Tryz.ntmps238
    go_wp2
    go_ret
    exact ⟨_, rfl, ⟨rfl, .inl ⟨rfl, rfl⟩⟩, Below.refl _ _⟩
  | some ad =>
    have HR := Aside0.mk (reads_of_C hr)
    clear hr
    go_enter Tryz.func238, Tryz.ntmps238
    go_wp2_with (at_builtin; refine print_append_row (w0 := w) w.heap.size rfl (.tmp 5) (.tmp 6) 182 93 .u32 4 rfl Tryz.underlying182 info93 (by decide) _ [] xs (some ad) xs.length c rfl rfl (World.ownsRow_made w #[] 0 (Nat.le_refl _) (Nat.zero_le _) rfl) (HR.out.below ((Below.refl _ w).alloc (Nat.le_refl _) _)) ((Below.refl _ w).alloc (Nat.le_refl _) _) (by show w.heap.size ≤ (w.heap.push _).size; simp) (by simp; omega) ?_; intro v1 w1 ho1 hb1 hg1 ha1; have HO1 := Aside0.mk ho1; have HB1 := Aside0.mk hb1; clear ho1 hb1 hg1 ha1)
    go_ret
    exact ⟨_, rfl, HO1.out, HB1.out⟩
set_option maxRecDepth 100000 in
theorem clone_calls' {v : Value} {xs : List Int} {w : World} (h : Words w v xs) (hm : xs.length ≤ 2000000000) :
    Calls Tryz.prog 240 #[v] w fun e w' => ∃ r, e = .returned r ∧ w'.ownsRow w.heap.size 93 1 r xs.length (nums .u32 xs) ∧ Below w.heap.size w w' := by
  obtain ⟨A, c, rfl, hl, hr⟩ := h
  have q : ∀ (w : World) (a : Option Addr) (n c n' c' : Nat), (binOp .eql 46 (.slice a n c) (.slice none n' c')).run Tryz.prog w = .ok (.bool a.isNone) w := fun w a n c n' c' => Lib.run_eql_slice_nil w _ _ a n c n' c' Tryz.underlying46
  have u46 : ∀ w, Sem.run Tryz.prog (underlying 46) w = .ok (TypeDesc.slice 93) w := run_underlying Tryz.underlying46
  cases A with
  | none =>
    have h0 : xs = [] := List.length_eq_zero_iff.1 (C_none hr)
    subst h0
    clear hr
    go_enter Tryz.func240, Tryz.ntmps240
    go_wp2
    go_ret
    exact ⟨_, rfl, ⟨rfl, .inl ⟨rfl, rfl⟩⟩, Below.refl _ _⟩
  | some ad =>
    have HR := Aside0.mk (reads_of_C hr)
    clear hr
    go_enter Tryz.func240, Tryz.ntmps240
    go_wp2_with (at_builtin; refine print_append_row (w0 := w) w.heap.size rfl (.tmp 5) (.tmp 6) 46 93 .u32 4 rfl Tryz.underlying46 info93 (by decide) _ [] xs (some ad) xs.length c rfl rfl (World.ownsRow_made w #[] 0 (Nat.le_refl _) (Nat.zero_le _) rfl) (HR.out.below ((Below.refl _ w).alloc (Nat.le_refl _) _)) ((Below.refl _ w).alloc (Nat.le_refl _) _) (by show w.heap.size ≤ (w.heap.push _).size; simp) (by simp; omega) ?_; intro v1 w1 ho1 hb1 hg1 ha1; have HO1 := Aside0.mk ho1; have HB1 := Aside0.mk hb1; clear ho1 hb1 hg1 ha1)
    go_ret
    exact ⟨_, rfl, HO1.out, HB1.out⟩
set_option maxRecDepth 100000 in
/-- (*Int).SetWords. -/
theorem setwords_calls {w : World} {g : Nat} (hg : IntBlk w g) {v : Value} {xs : List Int} (hv : Words w v xs) (hd : Digs xs) (hm : xs.length ≤ 2000000000) :
    Calls Tryz.prog 208 #[pt g, v] w fun e w' => e = .returned (pt g) ∧ IntAt w' g (val xs : Int) ∧ Turns g w w' := by
  have HG := Aside0.mk hg
  have HV := Aside0.mk hv
  clear hg hv
  go_enter Tryz.func208, Tryz.ntmps208
  go_wp2_with (first | (go_at_call 240; refine (clone_calls' HV.out hm).mono ?_; rintro e w2 ⟨r, rfl, hn2, hb2⟩; have HN2 := Aside0.mk (Words.of_own hn2); have HB2 := Aside0.mk hb2; have HG2 := Aside0.mk (HG.out.below hb2); clear hn2 hb2) | (go_at_call 233; refine (trim_calls HN2.out hd hm).mono ?_; rintro e w3 ⟨r3, rfl, hn3, hb3⟩; have HN3 := Aside0.mk hn3; have HB3 := Aside0.mk hb3; have HG3 := Aside0.mk (HG2.out.below hb3); clear hn3 hb3) | (go_at_call 198; refine (put_calls HG3.out _ HN3.out).mono ?_; rintro e w9 ⟨rfl, hi9, ht9⟩; have HI9 := Aside0.mk hi9; have HT9 := Aside0.mk ht9; clear hi9 ht9))
  go_ret
  exact ⟨rfl, HI9.out, (HT9.out.after_below HB3.out).after_below HB2.out⟩
set_option maxRecDepth 100000 in
/-- (*Int).Words. -/
theorem words_calls {w : World} {g : Nat} {z : Int} (hz : IntAt w g z) (f1 : Fits z.natAbs) :
    Calls Tryz.prog 203 #[pt g] w fun e w' => ∃ r, e = .returned r ∧ NatAt w' r z.natAbs ∧ Below w.heap.size w w' := by
  obtain ⟨A, c, h0, h1, HV⟩ := hz.open
  clear hz
  go_enter Tryz.func203, Tryz.ntmps203
  go_wp2_with (go_at_call 238; refine (clone_calls HV.out (Nat.le_trans f1 (by decide))).mono ?_; rintro e w2 ⟨r, rfl, hn2, hb2⟩; have HN2 := Aside0.mk (Words.of_own hn2); have HB2 := Aside0.mk hb2; clear hn2 hb2)
  go_ret
  exact ⟨_, rfl, NatAt.of_eq HN2.out rfl, HB2.out⟩
end Go.Proofs.YtinmbcomnjmmjaaGreatDoor
namespace Go.Proofs.YtinmbcomnjmmjaaGreatDoor
/-- The first guess is not too low. -/
theorem guess_ge {X v top v1 P B q : Nat} (hq : q = X / v) (hX : X < (top + 1) * P) (hv1 : v1 * P ≤ v) (hXB : X < v * B) (h1 : 0 < v1) : q ≤ top / v1 ∧ q ≤ B - 1 := by
  subst hq
  have hqv : X / v * v ≤ X := Nat.div_mul_le_self X v
  constructor
  · rw [Nat.le_div_iff_mul_le h1]
    have h2 : X / v * v1 * P ≤ X / v * v := by rw [Nat.mul_assoc]; exact Nat.mul_le_mul_left _ hv1
    have h3 : X / v * v1 * P < (top + 1) * P := by omega
    have := Nat.lt_of_mul_lt_mul_right h3
    omega
  · have : X / v < B := Nat.div_lt_of_lt_mul hXB
    omega
/-- A guess that is too high by the third word's test is above the quotient. -/
theorem guess_dec {X v top u2 v1 v2 P B q g : Nat} (hq : q = X / v) (hX : X < (top * B + u2 + 1) * P) (hv : (v1 * B + v2) * P ≤ v)
    (hgt : g * v1 ≤ top) (hbad : (top - g * v1) * B + u2 < g * v2) (hge : q ≤ g) : q ≤ g - 1 := by
  rcases Nat.lt_or_ge q g with h | h
  · omega
  · exfalso
    have hqg : q = g := by omega
    have hqv : q * v ≤ X := by rw [hq]; exact Nat.div_mul_le_self X v
    rw [hqg] at hqv
    have h1 : g * ((v1 * B + v2) * P) ≤ g * v := Nat.mul_le_mul_left _ hv
    have h2 : g * (v1 * B + v2) * P < (top * B + u2 + 1) * P := by rw [Nat.mul_assoc]; omega
    have h3 := Nat.lt_of_mul_lt_mul_right h2
    obtain ⟨r, hr⟩ : ∃ r, top = g * v1 + r := ⟨top - g * v1, by omega⟩
    subst hr
    rw [Nat.add_sub_cancel_left] at hbad
    have e1 : g * (v1 * B + v2) = g * v1 * B + g * v2 := by rw [Nat.mul_add, Nat.mul_assoc]
    have e2 : (g * v1 + r) * B = g * v1 * B + r * B := Nat.add_mul _ _ _
    omega
/-- A guess that stands is too high by one at most. -/
theorem guess_le {X v top u2 v1 v2 P B q g : Nat} (hq : q = X / v) (hX : (top * B + u2) * P ≤ X) (hv : v < (v1 * B + v2 + 1) * P) (hv0 : 0 < v) (hgP : g * P ≤ v)
    (hok : g * (v1 * B + v2) ≤ top * B + u2) : g ≤ q + 1 := by
  rcases Nat.eq_zero_or_pos g with h0 | h0
  · omega
  have h1 : g * (v1 * B + v2) * P ≤ X := Nat.le_trans (Nat.mul_le_mul_right _ hok) hX
  have h2 : g * v ≤ g * ((v1 * B + v2 + 1) * P) := Nat.mul_le_mul_left _ (Nat.le_of_lt hv)
  have e : g * ((v1 * B + v2 + 1) * P) = g * (v1 * B + v2) * P + g * P := by
    rw [Nat.add_mul, Nat.mul_add, Nat.one_mul, Nat.mul_assoc]
  rw [e] at h2
  have h3 : (g - 1) * v ≤ X := by
    rw [Nat.sub_mul, Nat.one_mul]; omega
  have : g - 1 ≤ X / v := by rw [Nat.le_div_iff_mul_le hv0]; exact h3
  omega
theorem guess_ok {top g v1 v2 u2 B : Nat} (hgt : g * v1 ≤ top) (h : g * v2 ≤ (top - g * v1) * B + u2) : g * (v1 * B + v2) ≤ top * B + u2 := by
  obtain ⟨r, hr⟩ : ∃ r, top = g * v1 + r := ⟨top - g * v1, by omega⟩
  subst hr
  rw [Nat.add_sub_cancel_left] at h
  have e1 : g * (v1 * B + v2) = g * v1 * B + g * v2 := by rw [Nat.mul_add, Nat.mul_assoc]
  have e2 : (g * v1 + r) * B = g * v1 * B + r * B := Nat.add_mul _ _ _
  omega
/-- What is left: no borrow: the guess is the quotient. -/
theorem guess_fin0 {X v q g : Nat} (hq : q = X / v) (hv0 : 0 < v) (hge : q ≤ g) (h : g * v ≤ X) : g = q := by
  have : g ≤ X / v := by rw [Nat.le_div_iff_mul_le hv0]; exact h
  omega
/-- A borrow: the guess is one too high. -/
theorem guess_fin1 {X v q g : Nat} (hq : q = X / v) (hge : q ≤ g) (hle : g ≤ q + 1) (h : X < g * v) : g = q + 1 := by
  rcases Nat.lt_or_ge q g with h1 | h1
  · omega
  · exfalso
    have : g = q := by omega
    subst this
    have hqv : g * v ≤ X := by rw [hq]; exact Nat.div_mul_le_self X v
    omega
end Go.Proofs.YtinmbcomnjmmjaaGreatDoor
