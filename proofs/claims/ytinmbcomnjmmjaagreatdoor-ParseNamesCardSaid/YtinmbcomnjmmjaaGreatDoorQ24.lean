/- Proved: a part of what the statement on the names of parse needs: walks of functions of the program, and plain laws. (Texts Xd.) -/
import Derived.Test.YtinmbcomnjmmjaaGreatDoorQ11
namespace Go.Proofs.YtinmbcomnjmmjaaGreatDoor.X
open Go.RowKit Go.Proofs.YtinmbcomnjmmjaaGreatDoorW.PrintWords Go.Proofs.YtinmbcomnjmmjaaGreatDoorW.PrintLast Go.Proofs.YtinmbcomnjmmjaaGreatDoorW.PrintMore
attribute [local go_sem] max2_int min2_int max_two min_two max_three min_three max_four min_four
set_option linter.unusedVariables false
set_option linter.unusedSimpArgs false
def lex_letter.f (a0 : Int) : Option (Bool) := if a0 ≥ 97 then (if a0 ≤ 122 then (some true) else (if a0 ≥ 65 then (if a0 ≤ 90 then (some true) else (some (a0 == 95))) else (some (a0 == 95)))) else (if a0 ≥ 65 then (if a0 ≤ 90 then (some true) else (some (a0 == 95))) else (some (a0 == 95)))
set_option maxHeartbeats 8000000 in
set_option maxRecDepth 100000 in
theorem lex_letter.calls (a0 : Int) (r : Bool) (w : World) (h : lex_letter.f a0 = some r) :
    Calls Tryz.prog 110 #[.int .u8 a0] w fun e w' => e = .returned (.bool r) ∧ Drawn0 w w' := by
  have H : (if a0 ≥ 97 then (if a0 ≤ 122 then (some true) else (if a0 ≥ 65 then (if a0 ≤ 90 then (some true) else (some (a0 == 95))) else (some (a0 == 95)))) else (if a0 ≥ 65 then (if a0 ≤ 90 then (some true) else (some (a0 == 95))) else (some (a0 == 95)))) = some r := h
  clear h
  by_cases c2 : a0 ≥ 97
  · rw [if_pos c2] at H
    have c2b0 : decide (97 ≤ a0) = true := decide_eq_true c2
    clear c2
    by_cases c3 : a0 ≤ 122
    · rw [if_pos c3] at H
      have c3b0 : decide (a0 ≤ 122) = true := decide_eq_true c3
      clear c3
      obtain rfl := Option.some.inj H
      go_enter Tryz.func110, Tryz.ntmps110
      go_wp2
      go_ret
      exact ⟨by first | rfl | (simp; done) | (simp [*]; done), by repeat (first | exact Drawn0.refl _ | apply Drawn0.step)⟩
    · rw [if_neg c3] at H
      have c3b0 : decide (a0 ≤ 122) = false := decide_eq_false c3
      clear c3
      by_cases c4 : a0 ≥ 65
      · rw [if_pos c4] at H
        have c4b0 : decide (65 ≤ a0) = true := decide_eq_true c4
        clear c4
        by_cases c5 : a0 ≤ 90
        · rw [if_pos c5] at H
          have c5b0 : decide (a0 ≤ 90) = true := decide_eq_true c5
          clear c5
          obtain rfl := Option.some.inj H
          go_enter Tryz.func110, Tryz.ntmps110
          go_wp2
          go_ret
          exact ⟨by first | rfl | (simp; done) | (simp [*]; done), by repeat (first | exact Drawn0.refl _ | apply Drawn0.step)⟩
        · rw [if_neg c5] at H
          have c5b0 : decide (a0 ≤ 90) = false := decide_eq_false c5
          clear c5
          obtain rfl := Option.some.inj H
          go_enter Tryz.func110, Tryz.ntmps110
          go_wp2
          go_ret
          exact ⟨by first | rfl | (simp; done) | (simp [*]; done), by repeat (first | exact Drawn0.refl _ | apply Drawn0.step)⟩
      · rw [if_neg c4] at H
        have c4b0 : decide (65 ≤ a0) = false := decide_eq_false c4
        clear c4
        obtain rfl := Option.some.inj H
        go_enter Tryz.func110, Tryz.ntmps110
        go_wp2
        go_ret
        exact ⟨by first | rfl | (simp; done) | (simp [*]; done), by repeat (first | exact Drawn0.refl _ | apply Drawn0.step)⟩
  · rw [if_neg c2] at H
    have c2b0 : decide (97 ≤ a0) = false := decide_eq_false c2
    clear c2
    by_cases c6 : a0 ≥ 65
    · rw [if_pos c6] at H
      have c6b0 : decide (65 ≤ a0) = true := decide_eq_true c6
      clear c6
      by_cases c7 : a0 ≤ 90
      · rw [if_pos c7] at H
        have c7b0 : decide (a0 ≤ 90) = true := decide_eq_true c7
        clear c7
        obtain rfl := Option.some.inj H
        go_enter Tryz.func110, Tryz.ntmps110
        go_wp2
        go_ret
        exact ⟨by first | rfl | (simp; done) | (simp [*]; done), by repeat (first | exact Drawn0.refl _ | apply Drawn0.step)⟩
      · rw [if_neg c7] at H
        have c7b0 : decide (a0 ≤ 90) = false := decide_eq_false c7
        clear c7
        obtain rfl := Option.some.inj H
        go_enter Tryz.func110, Tryz.ntmps110
        go_wp2
        go_ret
        exact ⟨by first | rfl | (simp; done) | (simp [*]; done), by repeat (first | exact Drawn0.refl _ | apply Drawn0.step)⟩
    · rw [if_neg c6] at H
      have c6b0 : decide (65 ≤ a0) = false := decide_eq_false c6
      clear c6
      obtain rfl := Option.some.inj H
      go_enter Tryz.func110, Tryz.ntmps110
      go_wp2
      go_ret
      exact ⟨by first | rfl | (simp; done) | (simp [*]; done), by repeat (first | exact Drawn0.refl _ | apply Drawn0.step)⟩
def lex_digit.f (a0 : Int) : Option (Bool) := if a0 ≥ 48 then (some (decide (a0 ≤ 57))) else (some false)
set_option maxHeartbeats 8000000 in
set_option maxRecDepth 100000 in
theorem lex_digit.calls (a0 : Int) (r : Bool) (w : World) (h : lex_digit.f a0 = some r) :
    Calls Tryz.prog 111 #[.int .u8 a0] w fun e w' => e = .returned (.bool r) ∧ Drawn0 w w' := by
  have H : (if a0 ≥ 48 then (some (decide (a0 ≤ 57))) else (some false)) = some r := h
  clear h
  by_cases c2 : a0 ≥ 48
  · rw [if_pos c2] at H
    have c2b0 : decide (48 ≤ a0) = true := decide_eq_true c2
    clear c2
    obtain rfl := Option.some.inj H
    go_enter Tryz.func111, Tryz.ntmps111
    go_wp2
    go_ret
    exact ⟨by first | rfl | (simp; done) | (simp [*]; done), by repeat (first | exact Drawn0.refl _ | apply Drawn0.step)⟩
  · rw [if_neg c2] at H
    have c2b0 : decide (48 ≤ a0) = false := decide_eq_false c2
    clear c2
    obtain rfl := Option.some.inj H
    go_enter Tryz.func111, Tryz.ntmps111
    go_wp2
    go_ret
    exact ⟨by first | rfl | (simp; done) | (simp [*]; done), by repeat (first | exact Drawn0.refl _ | apply Drawn0.step)⟩
mutual
def lex_name.j0 : Nat → ByteArray → Bool → Option (Int)
  | 0, _, _ => none
  | k + 1, x0, x11 => if x11 = true then (some 0) else (lex_name.l0 k x0 1)
def lex_name.l0 : Nat → ByteArray → Int → Option (Int)
  | 0, _, _ => none
  | k + 1, x0, x3 => if x3 < (x0.size : Int) then (if 0 ≤ x3 then ((lex_letter.f (bt x0 x3)).bind fun t102 => (if t102 = true then (lex_name.l0 k x0 (wrap64 (x3 + 1))) else ((lex_digit.f (bt x0 x3)).bind fun t103 => (if t103 = true then (lex_name.l0 k x0 (wrap64 (x3 + 1))) else (some x3))))) else (none)) else (some x3)
end
def lex_name.f (k : Nat) (a0 : ByteArray) : Option (Int) := if a0.toList = ([] : List UInt8) then (lex_name.j0 k a0 true) else (if 0 < (a0.size : Int) then ((lex_letter.f (bt a0 0)).bind fun t101 => (lex_name.j0 k a0 (!t101))) else (none))
set_option maxHeartbeats 8000000 in
set_option maxRecDepth 100000 in
theorem lex_name.calls (k : Nat) (a0 : ByteArray) (r : Int) (w : World) (h : lex_name.f k a0 = some r) :
    Calls Tryz.prog 89 #[.string a0] w fun e w' => e = .returned (.int .i64 r) ∧ Drawn0 w w' := by
  have H : (if a0.toList = ([] : List UInt8) then (lex_name.j0 k a0 true) else (if 0 < (a0.size : Int) then ((lex_letter.f (bt a0 0)).bind fun t101 => (lex_name.j0 k a0 (!t101))) else (none))) = some r := h
  clear h
  have HC2 := Aside0.mk H
  clear H
  go_enter Tryz.func89, Tryz.ntmps89
  go_upto_region 1 with (fail)
  go_cut [11] (fun v11 wc => ∃ (kq : Nat) (x11_1 : Bool), v11 = .bool x11_1 ∧ Aside0 (lex_name.j0 kq a0 x11_1 = some r) ∧ Aside0 (kq ≤ k) ∧ Drawn0 w wc)
  case first =>
    have H := HC2.out
    clear HC2
    by_cases c3 : a0.toList = ([] : List UInt8)
    · rw [if_pos c3] at H
      have c3b0 : (a0.toList == ([] : List UInt8)) = true := beq_iff_eq.mpr c3
      have c3b1 : (a0.toList != ([] : List UInt8)) = false := bne_eq_false_iff_eq.mpr c3
      clear c3
      (first | rw [c3b0] | (simp only [i64_w]; rw [c3b0]) | skip)
      have H' := Aside0.mk H
      clear H
      go_wp2
      go_meet
      case rel => exact ⟨_, (true), (by first | rfl | (simp; done) | (simp [*]; done)), H', ⟨by first | omega | exact Nat.le_refl _⟩, by repeat (first | exact Drawn0.refl _ | apply Drawn0.step)⟩
    · rw [if_neg c3] at H
      have c3b0 : (a0.toList == ([] : List UInt8)) = false := beq_eq_false_iff_ne.mpr c3
      have c3b1 : (a0.toList != ([] : List UInt8)) = true := bne_iff_ne.mpr c3
      (first | rw [c3b0] | (simp only [i64_w]; rw [c3b0]) | skip)
      by_cases c4 : 0 < (a0.size : Int)
      · rw [if_pos c4] at H
        have c4b0 : decide (0 < (a0.size : Int)) = true := decide_eq_true c4
        have c4b1 : decide (0 < a0.size) = true := decide_eq_true (by omega)
        clear c4
        replace H := Option.bind_eq_some_iff.mp H
        obtain ⟨t101, A60, H⟩ := H
        replace H : (lex_name.j0 k a0 (!t101)) = some r := H
        have A6 := Aside0.mk A60
        clear A60
        have H' := Aside0.mk H
        clear H
        have p5 : 0 ≤ (0 : Int) := (by omega)
        have q5 : 0 < a0.size := (by have : (0 : Int) < (a0.size : Int) := of_decide_eq_true (by first | (with_reducible assumption) | assumption); omega)
        have hx5 : ∀ h : 0 < a0.size, ((a0[0]'h).toNat : Int) = bt a0 0 := bt_at a0 0
        clear p5
        have qi5 : (0 < (a0.size : Int)) = True := eq_true (of_decide_eq_true (by first | (with_reducible assumption) | assumption))
        replace q5 := eq_true q5
        go_wp2_with (first | (go_at_call 110; (with_reducible refine (lex_letter.calls (bt a0 0) t101 _ A6.out).mono ?_); rintro e w' ⟨rfl, ⟨nd, rfl⟩⟩))
        go_meet
        case rel => exact ⟨_, (!t101), (by first | rfl | (simp; done) | (simp [*]; done)), H', ⟨by first | omega | exact Nat.le_refl _⟩, by repeat (first | exact Drawn0.refl _ | apply Drawn0.step)⟩
      · rw [if_neg c4] at H
        exact absurd H (by simp)
  case rest =>
    clear HC2
    try clear p2
    try clear c3
    try clear c3b0
    try clear c3b1
    try clear c4
    try clear c4b0
    try clear c4b1
    try clear p5
    try clear q5
    try clear hx5
    try clear qi5
    try clear p5
    try clear q5
    obtain ⟨kq, x11_1, rfl, HA, HJ1, ⟨mc1, rfl⟩⟩ := hcut
    cases kq with
    | zero => exact absurd HA.out (by simp [lex_name.j0])
    | succ kj1 =>
      have H := HA.out
      clear HA
      simp only [lex_name.j0] at H
      by_cases c7 : x11_1 = true
      · subst c7
        have H1 : (some 0) = some r := by rw [if_pos rfl] at H; exact H
        clear H
        have H := H1
        clear H1
        obtain rfl := Option.some.inj H
        go_wp2
        go_ret
        exact ⟨by first | rfl | (simp; done) | (simp [*]; done), by repeat (first | exact Drawn0.refl _ | apply Drawn0.step)⟩
      · replace c7 := Bool.eq_false_iff.mpr c7
        subst c7
        have H1 : (lex_name.l0 kj1 a0 1) = some r := by rw [if_neg (show ¬ (false = true) by decide)] at H; exact H
        clear H
        have H := H1
        clear H1
        have H' := Aside0.mk H
        clear H
        go_wp2
        go_loopg [3] kj1 (fun kq v3 w' => ∃ (x3_2 : Int), v3 = .int .i64 x3_2 ∧ Aside0 (lex_name.l0 kq a0 x3_2 = some r) ∧ Aside0 (kq ≤ kj1) ∧ Drawn0 w w')
        case atStart => exact ⟨(1), (by first | rfl | (simp; done) | (simp [*]; done)), H', ⟨Nat.le_refl _⟩, by repeat (first | exact Drawn0.refl _ | apply Drawn0.step)⟩
        case round =>
          clear H'
          try clear c1
          try clear p2
          try clear c3
          try clear c3b0
          try clear c3b1
          try clear c4
          try clear c4b0
          try clear c4b1
          try clear p5
          try clear q5
          try clear hx5
          try clear qi5
          try clear c7
          try clear p2
          try clear p5
          try clear q5
          obtain ⟨x3_2, rfl, HA, HK2, ⟨m2, rfl⟩⟩ := hrel
          cases gk with
          | zero => exact absurd HA.out (by simp [lex_name.l0])
          | succ k2 =>
            have H := HA.out
            clear HA
            simp only [lex_name.l0] at H
            by_cases c8 : x3_2 < (a0.size : Int)
            · rw [if_pos c8] at H
              have c8b0 : decide (x3_2 < (a0.size : Int)) = true := decide_eq_true c8
              clear c8
              by_cases c9 : 0 ≤ x3_2
              · rw [if_pos c9] at H
                have c9b0 : decide (0 ≤ x3_2) = true := decide_eq_true c9
                clear c9
                replace H := Option.bind_eq_some_iff.mp H
                obtain ⟨t102, A110, H⟩ := H
                replace H : (if t102 = true then (lex_name.l0 k2 a0 (wrap64 (x3_2 + 1))) else ((lex_digit.f (bt a0 x3_2)).bind fun t103 => (if t103 = true then (lex_name.l0 k2 a0 (wrap64 (x3_2 + 1))) else (some x3_2)))) = some r := H
                have A11 := Aside0.mk A110
                clear A110
                by_cases c12 : t102 = true
                · subst c12
                  have H1 : (lex_name.l0 k2 a0 (wrap64 (x3_2 + 1))) = some r := by rw [if_pos rfl] at H; exact H
                  clear H
                  have H := H1
                  clear H1
                  have H' := Aside0.mk H
                  clear H
                  have p10 : 0 ≤ (x3_2 : Int) := of_decide_eq_true (by first | (with_reducible assumption) | assumption)
                  have q10 : x3_2 < (a0.size : Int) := of_decide_eq_true (by first | (with_reducible assumption) | assumption)
                  have hx10 := bt_at a0 x3_2
                  replace p10 := eq_true p10
                  replace q10 := eq_true q10
                  go_wp2_with (first | (go_at_call 110; (with_reducible refine (lex_letter.calls (bt a0 x3_2) true _ A11.out).mono ?_); rintro e w' ⟨rfl, ⟨nd, rfl⟩⟩))
                  go_roundg k2
                  case measure => have := HJ1.out; have := HK2.out; omega
                  case rel => exact ⟨(wrap64 (x3_2 + 1)), (by first | rfl | (simp; done) | (simp [*]; done)), H', ⟨by have := HJ1.out; have := HK2.out; omega⟩, by repeat (first | exact Drawn0.refl _ | apply Drawn0.step)⟩
                · replace c12 := Bool.eq_false_iff.mpr c12
                  subst c12
                  have H1 : ((lex_digit.f (bt a0 x3_2)).bind fun t103 => (if t103 = true then (lex_name.l0 k2 a0 (wrap64 (x3_2 + 1))) else (some x3_2))) = some r := by rw [if_neg (show ¬ (false = true) by decide)] at H; exact H
                  clear H
                  have H := H1
                  clear H1
                  replace H := Option.bind_eq_some_iff.mp H
                  obtain ⟨t103, A140, H⟩ := H
                  replace H : (if t103 = true then (lex_name.l0 k2 a0 (wrap64 (x3_2 + 1))) else (some x3_2)) = some r := H
                  have A14 := Aside0.mk A140
                  clear A140
                  by_cases c15 : t103 = true
                  · subst c15
                    have H1 : (lex_name.l0 k2 a0 (wrap64 (x3_2 + 1))) = some r := by rw [if_pos rfl] at H; exact H
                    clear H
                    have H := H1
                    clear H1
                    have H' := Aside0.mk H
                    clear H
                    have p10 : 0 ≤ (x3_2 : Int) := of_decide_eq_true (by first | (with_reducible assumption) | assumption)
                    have q10 : x3_2 < (a0.size : Int) := of_decide_eq_true (by first | (with_reducible assumption) | assumption)
                    have hx10 := bt_at a0 x3_2
                    replace p10 := eq_true p10
                    replace q10 := eq_true q10
                    go_wp2_with (first | (go_at_call 110; (with_reducible refine (lex_letter.calls (bt a0 x3_2) false _ A11.out).mono ?_); rintro e w' ⟨rfl, ⟨nd, rfl⟩⟩; have p13 : 0 ≤ (x3_2 : Int) := of_decide_eq_true (by first | (with_reducible assumption) | assumption); have q13 : x3_2 < (a0.size : Int) := of_decide_eq_true (by first | (with_reducible assumption) | assumption); have hx13 := bt_at a0 x3_2; replace p13 := eq_true p13; replace q13 := eq_true q13) | (go_at_call 111; (with_reducible refine (lex_digit.calls (bt a0 x3_2) true _ A14.out).mono ?_); rintro e w' ⟨rfl, ⟨nd, rfl⟩⟩))
                    go_roundg k2
                    case measure => have := HJ1.out; have := HK2.out; omega
                    case rel => exact ⟨(wrap64 (x3_2 + 1)), (by first | rfl | (simp; done) | (simp [*]; done)), H', ⟨by have := HJ1.out; have := HK2.out; omega⟩, by repeat (first | exact Drawn0.refl _ | apply Drawn0.step)⟩
                  · replace c15 := Bool.eq_false_iff.mpr c15
                    subst c15
                    have H1 : (some x3_2) = some r := by rw [if_neg (show ¬ (false = true) by decide)] at H; exact H
                    clear H
                    have H := H1
                    clear H1
                    obtain rfl := Option.some.inj H
                    have p10 : 0 ≤ (x3_2 : Int) := of_decide_eq_true (by first | (with_reducible assumption) | assumption)
                    have q10 : x3_2 < (a0.size : Int) := of_decide_eq_true (by first | (with_reducible assumption) | assumption)
                    have hx10 := bt_at a0 x3_2
                    replace p10 := eq_true p10
                    replace q10 := eq_true q10
                    go_wp2_with (first | (go_at_call 110; (with_reducible refine (lex_letter.calls (bt a0 x3_2) false _ A11.out).mono ?_); rintro e w' ⟨rfl, ⟨nd, rfl⟩⟩; have p13 : 0 ≤ (x3_2 : Int) := of_decide_eq_true (by first | (with_reducible assumption) | assumption); have q13 : x3_2 < (a0.size : Int) := of_decide_eq_true (by first | (with_reducible assumption) | assumption); have hx13 := bt_at a0 x3_2; replace p13 := eq_true p13; replace q13 := eq_true q13) | (go_at_call 111; (with_reducible refine (lex_digit.calls (bt a0 x3_2) false _ A14.out).mono ?_); rintro e w' ⟨rfl, ⟨nd, rfl⟩⟩))
                    go_ret
                    exact ⟨by first | rfl | (simp; done) | (simp [*]; done), by repeat (first | exact Drawn0.refl _ | apply Drawn0.step)⟩
              · rw [if_neg c9] at H
                exact absurd H (by simp)
            · rw [if_neg c8] at H
              have c8b0 : decide (x3_2 < (a0.size : Int)) = false := decide_eq_false c8
              clear c8
              obtain rfl := Option.some.inj H
              go_wp2
              go_ret
              exact ⟨by first | rfl | (simp; done) | (simp [*]; done), by repeat (first | exact Drawn0.refl _ | apply Drawn0.step)⟩
-- NOT PRINTED: function 112 (lex_digits)
-- NOT PRINTED: function 90 (lex_number)
-- NOT PRINTED: function 62 (lex_first)
-- NOT PRINTED: function 30 (lex_Tokens)
-- NOT PRINTED: function 65 (parse_reader_here)
-- NOT PRINTED: function 113 (parse_call)
-- NOT PRINTED: function 91 (parse_reader_row)
-- NOT PRINTED: function 136 (parse_reader_is)
-- NOT PRINTED: function 138 (parse_reader_deeper)
-- NOT PRINTED: function 101 (math_Float64frombits)
-- NOT PRINTED: function 78 (math_Inf)
def lex_Name.f (k : Nat) (a0 : ByteArray) : Option (Bool) := if a0.toList = ([] : List UInt8) then (some false) else (if (a0.size : Int) ≤ 64 then ((lex_name.f k a0).bind fun t742 => (some (t742 == (a0.size : Int)))) else (some false))
set_option maxHeartbeats 8000000 in
set_option maxRecDepth 100000 in
theorem lex_Name.calls (k : Nat) (a0 : ByteArray) (r : Bool) (w : World) (h : lex_Name.f k a0 = some r) :
    Calls Tryz.prog 99 #[.string a0] w fun e w' => e = .returned (.bool r) ∧ Drawn0 w w' := by
  have H : (if a0.toList = ([] : List UInt8) then (some false) else (if (a0.size : Int) ≤ 64 then ((lex_name.f k a0).bind fun t742 => (some (t742 == (a0.size : Int)))) else (some false))) = some r := h
  clear h
  by_cases c2 : a0.toList = ([] : List UInt8)
  · rw [if_pos c2] at H
    have c2b0 : (a0.toList == ([] : List UInt8)) = true := beq_iff_eq.mpr c2
    have c2b1 : (a0.toList != ([] : List UInt8)) = false := bne_eq_false_iff_eq.mpr c2
    clear c2
    obtain rfl := Option.some.inj H
    go_enter Tryz.func99, Tryz.ntmps99
    go_wp2
    go_ret
    exact ⟨by first | rfl | (simp; done) | (simp [*]; done), by repeat (first | exact Drawn0.refl _ | apply Drawn0.step)⟩
  · rw [if_neg c2] at H
    have c2b0 : (a0.toList == ([] : List UInt8)) = false := beq_eq_false_iff_ne.mpr c2
    have c2b1 : (a0.toList != ([] : List UInt8)) = true := bne_iff_ne.mpr c2
    by_cases c3 : (a0.size : Int) ≤ 64
    · rw [if_pos c3] at H
      have c3b0 : decide ((a0.size : Int) ≤ 64) = true := decide_eq_true c3
      have c3b1 : decide (a0.size ≤ 64) = true := decide_eq_true (by omega)
      clear c3
      replace H := Option.bind_eq_some_iff.mp H
      obtain ⟨t742, A40, H⟩ := H
      replace H : (some (t742 == (a0.size : Int))) = some r := H
      have A4 := Aside0.mk A40
      clear A40
      obtain rfl := Option.some.inj H
      go_enter Tryz.func99, Tryz.ntmps99
      go_wp2_with (first | (go_at_call 89; (with_reducible refine (lex_name.calls k a0 t742 _ A4.out).mono ?_); rintro e w' ⟨rfl, ⟨nd, rfl⟩⟩))
      go_ret
      exact ⟨by first | rfl | (simp; done) | (simp [*]; done), by repeat (first | exact Drawn0.refl _ | apply Drawn0.step)⟩
    · rw [if_neg c3] at H
      have c3b0 : decide ((a0.size : Int) ≤ 64) = false := decide_eq_false c3
      have c3b1 : decide (a0.size ≤ 64) = false := decide_eq_false (by omega)
      clear c3
      obtain rfl := Option.some.inj H
      go_enter Tryz.func99, Tryz.ntmps99
      go_wp2
      go_ret
      exact ⟨by first | rfl | (simp; done) | (simp [*]; done), by repeat (first | exact Drawn0.refl _ | apply Drawn0.step)⟩
-- NOT PRINTED: function 71 (parse_leaf)
-- NOT PRINTED: function 129 (ieee_Same)
-- NOT PRINTED: function 100 (parse_same)
-- NOT PRINTED: function 72 (parse_Equal)
-- NOT PRINTED: function 40 (parse_right)
-- NOT PRINTED: function 16 (parse_Check)
-- NOT PRINTED: function 11 (cusplaw25_sure)
-- NOT PRINTED: function 3 (cusplaw25_ParseReads)
def parse_functions.f  : Option ((List (S83))) := some (([(⟨(⟨#[]⟩ : ByteArray), 0⟩ : S83), (⟨(⟨#[45]⟩ : ByteArray), 1⟩ : S83), (⟨(⟨#[99, 111, 110, 106]⟩ : ByteArray), 1⟩ : S83), (⟨(⟨#[114, 101]⟩ : ByteArray), 1⟩ : S83), (⟨(⟨#[105, 109]⟩ : ByteArray), 1⟩ : S83), (⟨(⟨#[97, 98, 115]⟩ : ByteArray), 1⟩ : S83), (⟨(⟨#[97, 114, 103]⟩ : ByteArray), 1⟩ : S83), (⟨(⟨#[115, 113, 114]⟩ : ByteArray), 1⟩ : S83), (⟨(⟨#[105, 110, 118]⟩ : ByteArray), 1⟩ : S83), (⟨(⟨#[115, 113, 114, 116]⟩ : ByteArray), 1⟩ : S83), (⟨(⟨#[101, 120, 112]⟩ : ByteArray), 1⟩ : S83), (⟨(⟨#[108, 111, 103]⟩ : ByteArray), 1⟩ : S83), (⟨(⟨#[115, 105, 110]⟩ : ByteArray), 1⟩ : S83), (⟨(⟨#[99, 111, 115]⟩ : ByteArray), 1⟩ : S83), (⟨(⟨#[116, 97, 110]⟩ : ByteArray), 1⟩ : S83), (⟨(⟨#[115, 105, 110, 104]⟩ : ByteArray), 1⟩ : S83), (⟨(⟨#[99, 111, 115, 104]⟩ : ByteArray), 1⟩ : S83), (⟨(⟨#[116, 97, 110, 104]⟩ : ByteArray), 1⟩ : S83), (⟨(⟨#[97, 115, 105, 110]⟩ : ByteArray), 1⟩ : S83), (⟨(⟨#[97, 99, 111, 115]⟩ : ByteArray), 1⟩ : S83), (⟨(⟨#[97, 116, 97, 110]⟩ : ByteArray), 1⟩ : S83), (⟨(⟨#[97, 115, 105, 110, 104]⟩ : ByteArray), 1⟩ : S83), (⟨(⟨#[97, 99, 111, 115, 104]⟩ : ByteArray), 1⟩ : S83), (⟨(⟨#[97, 116, 97, 110, 104]⟩ : ByteArray), 1⟩ : S83), (⟨(⟨#[43]⟩ : ByteArray), 2⟩ : S83), (⟨(⟨#[45]⟩ : ByteArray), 2⟩ : S83), (⟨(⟨#[42]⟩ : ByteArray), 2⟩ : S83), (⟨(⟨#[47]⟩ : ByteArray), 2⟩ : S83), (⟨(⟨#[94]⟩ : ByteArray), 2⟩ : S83)] : List (S83)))
set_option maxHeartbeats 8000000 in
set_option maxRecDepth 100000 in
theorem parse_functions.calls  (r : List (S83)) (w : World) (h : parse_functions.f  = some r) :
    Calls Tryz.prog 39 #[] w fun e w' => ∃ v0_ : Value, e = .returned (v0_) ∧ Kd.R k83 83 w' w.heap.size (fun _ => True) v0_ r ∧ Below w.heap.size w w' := by
  have hu83 := Tryz.underlying83
  have HB := Aside0.mk (Below.refl w.heap.size w)
  have H : (some (([(⟨(⟨#[]⟩ : ByteArray), 0⟩ : S83), (⟨(⟨#[45]⟩ : ByteArray), 1⟩ : S83), (⟨(⟨#[99, 111, 110, 106]⟩ : ByteArray), 1⟩ : S83), (⟨(⟨#[114, 101]⟩ : ByteArray), 1⟩ : S83), (⟨(⟨#[105, 109]⟩ : ByteArray), 1⟩ : S83), (⟨(⟨#[97, 98, 115]⟩ : ByteArray), 1⟩ : S83), (⟨(⟨#[97, 114, 103]⟩ : ByteArray), 1⟩ : S83), (⟨(⟨#[115, 113, 114]⟩ : ByteArray), 1⟩ : S83), (⟨(⟨#[105, 110, 118]⟩ : ByteArray), 1⟩ : S83), (⟨(⟨#[115, 113, 114, 116]⟩ : ByteArray), 1⟩ : S83), (⟨(⟨#[101, 120, 112]⟩ : ByteArray), 1⟩ : S83), (⟨(⟨#[108, 111, 103]⟩ : ByteArray), 1⟩ : S83), (⟨(⟨#[115, 105, 110]⟩ : ByteArray), 1⟩ : S83), (⟨(⟨#[99, 111, 115]⟩ : ByteArray), 1⟩ : S83), (⟨(⟨#[116, 97, 110]⟩ : ByteArray), 1⟩ : S83), (⟨(⟨#[115, 105, 110, 104]⟩ : ByteArray), 1⟩ : S83), (⟨(⟨#[99, 111, 115, 104]⟩ : ByteArray), 1⟩ : S83), (⟨(⟨#[116, 97, 110, 104]⟩ : ByteArray), 1⟩ : S83), (⟨(⟨#[97, 115, 105, 110]⟩ : ByteArray), 1⟩ : S83), (⟨(⟨#[97, 99, 111, 115]⟩ : ByteArray), 1⟩ : S83), (⟨(⟨#[97, 116, 97, 110]⟩ : ByteArray), 1⟩ : S83), (⟨(⟨#[97, 115, 105, 110, 104]⟩ : ByteArray), 1⟩ : S83), (⟨(⟨#[97, 99, 111, 115, 104]⟩ : ByteArray), 1⟩ : S83), (⟨(⟨#[97, 116, 97, 110, 104]⟩ : ByteArray), 1⟩ : S83), (⟨(⟨#[43]⟩ : ByteArray), 2⟩ : S83), (⟨(⟨#[45]⟩ : ByteArray), 2⟩ : S83), (⟨(⟨#[42]⟩ : ByteArray), 2⟩ : S83), (⟨(⟨#[47]⟩ : ByteArray), 2⟩ : S83), (⟨(⟨#[94]⟩ : ByteArray), 2⟩ : S83)] : List (S83)))) = some r := h
  clear h
  obtain ⟨y272, hy272⟩ : ∃ y_ : List (S83), y_ = (([(⟨(⟨#[]⟩ : ByteArray), 0⟩ : S83), (⟨(⟨#[45]⟩ : ByteArray), 1⟩ : S83), (⟨(⟨#[99, 111, 110, 106]⟩ : ByteArray), 1⟩ : S83), (⟨(⟨#[114, 101]⟩ : ByteArray), 1⟩ : S83), (⟨(⟨#[105, 109]⟩ : ByteArray), 1⟩ : S83), (⟨(⟨#[97, 98, 115]⟩ : ByteArray), 1⟩ : S83), (⟨(⟨#[97, 114, 103]⟩ : ByteArray), 1⟩ : S83), (⟨(⟨#[115, 113, 114]⟩ : ByteArray), 1⟩ : S83), (⟨(⟨#[105, 110, 118]⟩ : ByteArray), 1⟩ : S83), (⟨(⟨#[115, 113, 114, 116]⟩ : ByteArray), 1⟩ : S83), (⟨(⟨#[101, 120, 112]⟩ : ByteArray), 1⟩ : S83), (⟨(⟨#[108, 111, 103]⟩ : ByteArray), 1⟩ : S83), (⟨(⟨#[115, 105, 110]⟩ : ByteArray), 1⟩ : S83), (⟨(⟨#[99, 111, 115]⟩ : ByteArray), 1⟩ : S83), (⟨(⟨#[116, 97, 110]⟩ : ByteArray), 1⟩ : S83), (⟨(⟨#[115, 105, 110, 104]⟩ : ByteArray), 1⟩ : S83), (⟨(⟨#[99, 111, 115, 104]⟩ : ByteArray), 1⟩ : S83), (⟨(⟨#[116, 97, 110, 104]⟩ : ByteArray), 1⟩ : S83), (⟨(⟨#[97, 115, 105, 110]⟩ : ByteArray), 1⟩ : S83), (⟨(⟨#[97, 99, 111, 115]⟩ : ByteArray), 1⟩ : S83), (⟨(⟨#[97, 116, 97, 110]⟩ : ByteArray), 1⟩ : S83), (⟨(⟨#[97, 115, 105, 110, 104]⟩ : ByteArray), 1⟩ : S83), (⟨(⟨#[97, 99, 111, 115, 104]⟩ : ByteArray), 1⟩ : S83), (⟨(⟨#[97, 116, 97, 110, 104]⟩ : ByteArray), 1⟩ : S83), (⟨(⟨#[43]⟩ : ByteArray), 2⟩ : S83), (⟨(⟨#[45]⟩ : ByteArray), 2⟩ : S83), (⟨(⟨#[42]⟩ : ByteArray), 2⟩ : S83), (⟨(⟨#[47]⟩ : ByteArray), 2⟩ : S83), (⟨(⟨#[94]⟩ : ByteArray), 2⟩ : S83)] : List (S83))) := ⟨_, rfl⟩
  replace H : (some y272) = some r := by first | (rw [hy272]; with_reducible exact H) | (have H2_ := (Option.bind_some _ _).symm.trans H; rw [hy272]; with_reducible exact H2_) | (have H2_ := (Option.bind_some _ _).symm.trans H; with_reducible exact H2_) | with_reducible exact H | (rw [hy272]; exact H) | exact H
  have Ny272 := Aside0.mk hy272
  clear hy272
  obtain rfl := Option.some.inj H
  go_enter Tryz.func39, Tryz.ntmps39
  go_wp2_with (first | ((with_reducible refine gate_dst (N := 30) rfl ?_); refine Kd.R_lit k83 _ 83 ?hg (N := 30) ?hd (xs := ([(⟨(⟨#[]⟩ : ByteArray), 0⟩ : S83), (⟨(⟨#[45]⟩ : ByteArray), 1⟩ : S83), (⟨(⟨#[99, 111, 110, 106]⟩ : ByteArray), 1⟩ : S83), (⟨(⟨#[114, 101]⟩ : ByteArray), 1⟩ : S83), (⟨(⟨#[105, 109]⟩ : ByteArray), 1⟩ : S83), (⟨(⟨#[97, 98, 115]⟩ : ByteArray), 1⟩ : S83), (⟨(⟨#[97, 114, 103]⟩ : ByteArray), 1⟩ : S83), (⟨(⟨#[115, 113, 114]⟩ : ByteArray), 1⟩ : S83), (⟨(⟨#[105, 110, 118]⟩ : ByteArray), 1⟩ : S83), (⟨(⟨#[115, 113, 114, 116]⟩ : ByteArray), 1⟩ : S83), (⟨(⟨#[101, 120, 112]⟩ : ByteArray), 1⟩ : S83), (⟨(⟨#[108, 111, 103]⟩ : ByteArray), 1⟩ : S83), (⟨(⟨#[115, 105, 110]⟩ : ByteArray), 1⟩ : S83), (⟨(⟨#[99, 111, 115]⟩ : ByteArray), 1⟩ : S83), (⟨(⟨#[116, 97, 110]⟩ : ByteArray), 1⟩ : S83), (⟨(⟨#[115, 105, 110, 104]⟩ : ByteArray), 1⟩ : S83), (⟨(⟨#[99, 111, 115, 104]⟩ : ByteArray), 1⟩ : S83), (⟨(⟨#[116, 97, 110, 104]⟩ : ByteArray), 1⟩ : S83), (⟨(⟨#[97, 115, 105, 110]⟩ : ByteArray), 1⟩ : S83), (⟨(⟨#[97, 99, 111, 115]⟩ : ByteArray), 1⟩ : S83), (⟨(⟨#[97, 116, 97, 110]⟩ : ByteArray), 1⟩ : S83), (⟨(⟨#[97, 115, 105, 110, 104]⟩ : ByteArray), 1⟩ : S83), (⟨(⟨#[97, 99, 111, 115, 104]⟩ : ByteArray), 1⟩ : S83), (⟨(⟨#[97, 116, 97, 110, 104]⟩ : ByteArray), 1⟩ : S83), (⟨(⟨#[43]⟩ : ByteArray), 2⟩ : S83), (⟨(⟨#[45]⟩ : ByteArray), 2⟩ : S83), (⟨(⟨#[42]⟩ : ByteArray), 2⟩ : S83), (⟨(⟨#[47]⟩ : ByteArray), 2⟩ : S83), (⟨(⟨#[94]⟩ : ByteArray), 2⟩ : S83)] : List (S83))) (inner := [.string (⟨#[]⟩ : ByteArray), .int .i64 0, .string (⟨#[45]⟩ : ByteArray), .int .i64 1, .string (⟨#[99, 111, 110, 106]⟩ : ByteArray), .int .i64 1, .string (⟨#[114, 101]⟩ : ByteArray), .int .i64 1, .string (⟨#[105, 109]⟩ : ByteArray), .int .i64 1, .string (⟨#[97, 98, 115]⟩ : ByteArray), .int .i64 1, .string (⟨#[97, 114, 103]⟩ : ByteArray), .int .i64 1, .string (⟨#[115, 113, 114]⟩ : ByteArray), .int .i64 1, .string (⟨#[105, 110, 118]⟩ : ByteArray), .int .i64 1, .string (⟨#[115, 113, 114, 116]⟩ : ByteArray), .int .i64 1, .string (⟨#[101, 120, 112]⟩ : ByteArray), .int .i64 1, .string (⟨#[108, 111, 103]⟩ : ByteArray), .int .i64 1, .string (⟨#[115, 105, 110]⟩ : ByteArray), .int .i64 1, .string (⟨#[99, 111, 115]⟩ : ByteArray), .int .i64 1, .string (⟨#[116, 97, 110]⟩ : ByteArray), .int .i64 1, .string (⟨#[115, 105, 110, 104]⟩ : ByteArray), .int .i64 1, .string (⟨#[99, 111, 115, 104]⟩ : ByteArray), .int .i64 1, .string (⟨#[116, 97, 110, 104]⟩ : ByteArray), .int .i64 1, .string (⟨#[97, 115, 105, 110]⟩ : ByteArray), .int .i64 1, .string (⟨#[97, 99, 111, 115]⟩ : ByteArray), .int .i64 1, .string (⟨#[97, 116, 97, 110]⟩ : ByteArray), .int .i64 1, .string (⟨#[97, 115, 105, 110, 104]⟩ : ByteArray), .int .i64 1, .string (⟨#[97, 99, 111, 115, 104]⟩ : ByteArray), .int .i64 1, .string (⟨#[97, 116, 97, 110, 104]⟩ : ByteArray), .int .i64 1, .string (⟨#[43]⟩ : ByteArray), .int .i64 2, .string (⟨#[45]⟩ : ByteArray), .int .i64 2, .string (⟨#[42]⟩ : ByteArray), .int .i64 2, .string (⟨#[47]⟩ : ByteArray), .int .i64 2, .string (⟨#[94]⟩ : ByteArray), .int .i64 2]) (ok := fun _ => True) (okp := fun _ => True) ?hr ?hp (fun _ hk => hk) trivial (Below.refl _ _) (Nat.le_refl _) (by simp) ?_; (case hd => rfl); (case hg => rfl); (case hr => first | (go_simp; done) | (go_simp; rfl)); (case hp => exact (Reps.c2 (show Kd.M k83 _ _ _ (⟨(⟨#[]⟩ : ByteArray), 0⟩ : S83) [.string (⟨#[]⟩ : ByteArray), .int .i64 0] from (k83_mkM _ _ _ (⟨(⟨#[]⟩ : ByteArray), 0⟩ : S83) )) (Reps.c2 (show Kd.M k83 _ _ _ (⟨(⟨#[45]⟩ : ByteArray), 1⟩ : S83) [.string (⟨#[45]⟩ : ByteArray), .int .i64 1] from (k83_mkM _ _ _ (⟨(⟨#[45]⟩ : ByteArray), 1⟩ : S83) )) (Reps.c2 (show Kd.M k83 _ _ _ (⟨(⟨#[99, 111, 110, 106]⟩ : ByteArray), 1⟩ : S83) [.string (⟨#[99, 111, 110, 106]⟩ : ByteArray), .int .i64 1] from (k83_mkM _ _ _ (⟨(⟨#[99, 111, 110, 106]⟩ : ByteArray), 1⟩ : S83) )) (Reps.c2 (show Kd.M k83 _ _ _ (⟨(⟨#[114, 101]⟩ : ByteArray), 1⟩ : S83) [.string (⟨#[114, 101]⟩ : ByteArray), .int .i64 1] from (k83_mkM _ _ _ (⟨(⟨#[114, 101]⟩ : ByteArray), 1⟩ : S83) )) (Reps.c2 (show Kd.M k83 _ _ _ (⟨(⟨#[105, 109]⟩ : ByteArray), 1⟩ : S83) [.string (⟨#[105, 109]⟩ : ByteArray), .int .i64 1] from (k83_mkM _ _ _ (⟨(⟨#[105, 109]⟩ : ByteArray), 1⟩ : S83) )) (Reps.c2 (show Kd.M k83 _ _ _ (⟨(⟨#[97, 98, 115]⟩ : ByteArray), 1⟩ : S83) [.string (⟨#[97, 98, 115]⟩ : ByteArray), .int .i64 1] from (k83_mkM _ _ _ (⟨(⟨#[97, 98, 115]⟩ : ByteArray), 1⟩ : S83) )) (Reps.c2 (show Kd.M k83 _ _ _ (⟨(⟨#[97, 114, 103]⟩ : ByteArray), 1⟩ : S83) [.string (⟨#[97, 114, 103]⟩ : ByteArray), .int .i64 1] from (k83_mkM _ _ _ (⟨(⟨#[97, 114, 103]⟩ : ByteArray), 1⟩ : S83) )) (Reps.c2 (show Kd.M k83 _ _ _ (⟨(⟨#[115, 113, 114]⟩ : ByteArray), 1⟩ : S83) [.string (⟨#[115, 113, 114]⟩ : ByteArray), .int .i64 1] from (k83_mkM _ _ _ (⟨(⟨#[115, 113, 114]⟩ : ByteArray), 1⟩ : S83) )) (Reps.c2 (show Kd.M k83 _ _ _ (⟨(⟨#[105, 110, 118]⟩ : ByteArray), 1⟩ : S83) [.string (⟨#[105, 110, 118]⟩ : ByteArray), .int .i64 1] from (k83_mkM _ _ _ (⟨(⟨#[105, 110, 118]⟩ : ByteArray), 1⟩ : S83) )) (Reps.c2 (show Kd.M k83 _ _ _ (⟨(⟨#[115, 113, 114, 116]⟩ : ByteArray), 1⟩ : S83) [.string (⟨#[115, 113, 114, 116]⟩ : ByteArray), .int .i64 1] from (k83_mkM _ _ _ (⟨(⟨#[115, 113, 114, 116]⟩ : ByteArray), 1⟩ : S83) )) (Reps.c2 (show Kd.M k83 _ _ _ (⟨(⟨#[101, 120, 112]⟩ : ByteArray), 1⟩ : S83) [.string (⟨#[101, 120, 112]⟩ : ByteArray), .int .i64 1] from (k83_mkM _ _ _ (⟨(⟨#[101, 120, 112]⟩ : ByteArray), 1⟩ : S83) )) (Reps.c2 (show Kd.M k83 _ _ _ (⟨(⟨#[108, 111, 103]⟩ : ByteArray), 1⟩ : S83) [.string (⟨#[108, 111, 103]⟩ : ByteArray), .int .i64 1] from (k83_mkM _ _ _ (⟨(⟨#[108, 111, 103]⟩ : ByteArray), 1⟩ : S83) )) (Reps.c2 (show Kd.M k83 _ _ _ (⟨(⟨#[115, 105, 110]⟩ : ByteArray), 1⟩ : S83) [.string (⟨#[115, 105, 110]⟩ : ByteArray), .int .i64 1] from (k83_mkM _ _ _ (⟨(⟨#[115, 105, 110]⟩ : ByteArray), 1⟩ : S83) )) (Reps.c2 (show Kd.M k83 _ _ _ (⟨(⟨#[99, 111, 115]⟩ : ByteArray), 1⟩ : S83) [.string (⟨#[99, 111, 115]⟩ : ByteArray), .int .i64 1] from (k83_mkM _ _ _ (⟨(⟨#[99, 111, 115]⟩ : ByteArray), 1⟩ : S83) )) (Reps.c2 (show Kd.M k83 _ _ _ (⟨(⟨#[116, 97, 110]⟩ : ByteArray), 1⟩ : S83) [.string (⟨#[116, 97, 110]⟩ : ByteArray), .int .i64 1] from (k83_mkM _ _ _ (⟨(⟨#[116, 97, 110]⟩ : ByteArray), 1⟩ : S83) )) (Reps.c2 (show Kd.M k83 _ _ _ (⟨(⟨#[115, 105, 110, 104]⟩ : ByteArray), 1⟩ : S83) [.string (⟨#[115, 105, 110, 104]⟩ : ByteArray), .int .i64 1] from (k83_mkM _ _ _ (⟨(⟨#[115, 105, 110, 104]⟩ : ByteArray), 1⟩ : S83) )) (Reps.c2 (show Kd.M k83 _ _ _ (⟨(⟨#[99, 111, 115, 104]⟩ : ByteArray), 1⟩ : S83) [.string (⟨#[99, 111, 115, 104]⟩ : ByteArray), .int .i64 1] from (k83_mkM _ _ _ (⟨(⟨#[99, 111, 115, 104]⟩ : ByteArray), 1⟩ : S83) )) (Reps.c2 (show Kd.M k83 _ _ _ (⟨(⟨#[116, 97, 110, 104]⟩ : ByteArray), 1⟩ : S83) [.string (⟨#[116, 97, 110, 104]⟩ : ByteArray), .int .i64 1] from (k83_mkM _ _ _ (⟨(⟨#[116, 97, 110, 104]⟩ : ByteArray), 1⟩ : S83) )) (Reps.c2 (show Kd.M k83 _ _ _ (⟨(⟨#[97, 115, 105, 110]⟩ : ByteArray), 1⟩ : S83) [.string (⟨#[97, 115, 105, 110]⟩ : ByteArray), .int .i64 1] from (k83_mkM _ _ _ (⟨(⟨#[97, 115, 105, 110]⟩ : ByteArray), 1⟩ : S83) )) (Reps.c2 (show Kd.M k83 _ _ _ (⟨(⟨#[97, 99, 111, 115]⟩ : ByteArray), 1⟩ : S83) [.string (⟨#[97, 99, 111, 115]⟩ : ByteArray), .int .i64 1] from (k83_mkM _ _ _ (⟨(⟨#[97, 99, 111, 115]⟩ : ByteArray), 1⟩ : S83) )) (Reps.c2 (show Kd.M k83 _ _ _ (⟨(⟨#[97, 116, 97, 110]⟩ : ByteArray), 1⟩ : S83) [.string (⟨#[97, 116, 97, 110]⟩ : ByteArray), .int .i64 1] from (k83_mkM _ _ _ (⟨(⟨#[97, 116, 97, 110]⟩ : ByteArray), 1⟩ : S83) )) (Reps.c2 (show Kd.M k83 _ _ _ (⟨(⟨#[97, 115, 105, 110, 104]⟩ : ByteArray), 1⟩ : S83) [.string (⟨#[97, 115, 105, 110, 104]⟩ : ByteArray), .int .i64 1] from (k83_mkM _ _ _ (⟨(⟨#[97, 115, 105, 110, 104]⟩ : ByteArray), 1⟩ : S83) )) (Reps.c2 (show Kd.M k83 _ _ _ (⟨(⟨#[97, 99, 111, 115, 104]⟩ : ByteArray), 1⟩ : S83) [.string (⟨#[97, 99, 111, 115, 104]⟩ : ByteArray), .int .i64 1] from (k83_mkM _ _ _ (⟨(⟨#[97, 99, 111, 115, 104]⟩ : ByteArray), 1⟩ : S83) )) (Reps.c2 (show Kd.M k83 _ _ _ (⟨(⟨#[97, 116, 97, 110, 104]⟩ : ByteArray), 1⟩ : S83) [.string (⟨#[97, 116, 97, 110, 104]⟩ : ByteArray), .int .i64 1] from (k83_mkM _ _ _ (⟨(⟨#[97, 116, 97, 110, 104]⟩ : ByteArray), 1⟩ : S83) )) (Reps.c2 (show Kd.M k83 _ _ _ (⟨(⟨#[43]⟩ : ByteArray), 2⟩ : S83) [.string (⟨#[43]⟩ : ByteArray), .int .i64 2] from (k83_mkM _ _ _ (⟨(⟨#[43]⟩ : ByteArray), 2⟩ : S83) )) (Reps.c2 (show Kd.M k83 _ _ _ (⟨(⟨#[45]⟩ : ByteArray), 2⟩ : S83) [.string (⟨#[45]⟩ : ByteArray), .int .i64 2] from (k83_mkM _ _ _ (⟨(⟨#[45]⟩ : ByteArray), 2⟩ : S83) )) (Reps.c2 (show Kd.M k83 _ _ _ (⟨(⟨#[42]⟩ : ByteArray), 2⟩ : S83) [.string (⟨#[42]⟩ : ByteArray), .int .i64 2] from (k83_mkM _ _ _ (⟨(⟨#[42]⟩ : ByteArray), 2⟩ : S83) )) (Reps.c2 (show Kd.M k83 _ _ _ (⟨(⟨#[47]⟩ : ByteArray), 2⟩ : S83) [.string (⟨#[47]⟩ : ByteArray), .int .i64 2] from (k83_mkM _ _ _ (⟨(⟨#[47]⟩ : ByteArray), 2⟩ : S83) )) (Reps.c2 (show Kd.M k83 _ _ _ (⟨(⟨#[94]⟩ : ByteArray), 2⟩ : S83) [.string (⟨#[94]⟩ : ByteArray), .int .i64 2] from (k83_mkM _ _ _ (⟨(⟨#[94]⟩ : ByteArray), 2⟩ : S83) )) (Reps.none _ _))))))))))))))))))))))))))))))); intro v273 w1 ho2 hb hg_ hnew_; clear hg_ hnew_; (first | rw [← Ny272.out] at ho2 | (simp only [Int.reduceToNat] at ho2; rw [← Ny272.out] at ho2)); have n0_ := Aside0.mk (Kd.R_lower ho2 (below_size (by repeat (first | (with_reducible first | exact HB.out | apply below_alloc | apply pw_below_drewN | apply below_drew1) | exact HB.out)))); have n1_ := Aside0.mk (below_step (by repeat (first | (with_reducible first | exact HB.out | apply below_alloc | apply pw_below_drewN | apply below_drew1) | exact HB.out)) hb); clear HB; have HO274 := n0_; have HB := n1_; clear n0_ n1_; clear hb ho2))
  go_ret
  exact ⟨_, by first | rfl | (simp [errW_none, errW_some] <;> rfl) | (simp [*, errW_none, errW_some] <;> rfl), by (with_reducible repeat (first | apply Kd.R_alloc | apply Kd.R_drewN | apply Kd.R_drew)); exact HO274.out, by repeat (first | (with_reducible first | exact HB.out | apply below_alloc | apply pw_below_drewN | apply below_drew1) | exact HB.out)⟩
def parse_Find.l0 : Nat → ByteArray → List (S83) → Int → Int → Option (Int × Int × Bool)
  | 0, _, _, _, _ => none
  | k + 1, x0, x7, x8, x9 => if x9 < x8 then (if 0 ≤ x9 then (if x9 < (x7.length : Int) then (if x9 > 1 then (if x9 < 24 then (if ((rd_T83 x7 x9).f0).toList = x0.toList then (some (x9, (rd_T83 x7 x9).f1, true)) else (parse_Find.l0 k x0 x7 x8 (wrap64 (x9 + 1)))) else (parse_Find.l0 k x0 x7 x8 (wrap64 (x9 + 1)))) else (parse_Find.l0 k x0 x7 x8 (wrap64 (x9 + 1)))) else (none)) else (none)) else (some (0, 0, false))
def parse_Find.f (k : Nat) (a0 : ByteArray) : Option (Int × Int × Bool) := (parse_functions.f).bind fun t275 => (parse_Find.l0 k a0 t275 (t275.length : Int) 0)
set_option maxHeartbeats 8000000 in
set_option maxRecDepth 100000 in
theorem parse_Find.calls (k : Nat) (a0 : ByteArray) (r1 : Int) (r2 : Int) (r3 : Bool) (w : World) (h : parse_Find.f k a0 = some (r1, r2, r3)) :
    Calls Tryz.prog 14 #[.string a0] w fun e w' => e = .returned (.tuple #[.int .i64 r1, .int .i64 r2, .bool r3]) ∧ Below w.heap.size w w' := by
  have hu83 := Tryz.underlying83
  have HB := Aside0.mk (Below.refl w.heap.size w)
  have H : ((parse_functions.f).bind fun t275 => (parse_Find.l0 k a0 t275 (t275.length : Int) 0)) = some (r1, r2, r3) := h
  clear h
  replace H := Option.bind_eq_some_iff.mp H
  obtain ⟨t275, A20, H⟩ := H
  replace H : (parse_Find.l0 k a0 t275 (t275.length : Int) 0) = some (r1, r2, r3) := H
  have A2 := Aside0.mk A20
  clear A20
  have H' := Aside0.mk H
  clear H
  go_enter Tryz.func14, Tryz.ntmps14
  go_wp2_with (first | (go_at_call 39; (with_reducible refine (parse_functions.calls  t275 _ A2.out).mono ?_); rintro e w3 ⟨v276, rfl, ho0, hb⟩; have n0_ := Aside0.mk (Kd.R_lower ho0 (below_size (by repeat (first | (with_reducible first | exact HB.out | apply below_alloc | apply pw_below_drewN | apply below_drew1) | exact HB.out)))); have n1_ := Aside0.mk (below_step (by repeat (first | (with_reducible first | exact HB.out | apply below_alloc | apply pw_below_drewN | apply below_drew1) | exact HB.out)) hb); clear HB; have HO277 := n0_; have HB := n1_; clear n0_ n1_; (try clear hb); (try clear hb2); (try clear hk); (try clear hi); (try clear ho0); obtain ⟨Ao4, co4, eo4⟩ := Kd.R_slice HO277.out; subst eo4))
  repeat (go_quiet (first | (go_at_call 39; (with_reducible refine (parse_functions.calls  t275 _ A2.out).mono ?_); rintro e w3 ⟨v276, rfl, ho0, hb⟩; have n0_ := Aside0.mk (Kd.R_lower ho0 (below_size (by repeat (first | (with_reducible first | exact HB.out | apply below_alloc | apply pw_below_drewN | apply below_drew1) | exact HB.out)))); have n1_ := Aside0.mk (below_step (by repeat (first | (with_reducible first | exact HB.out | apply below_alloc | apply pw_below_drewN | apply below_drew1) | exact HB.out)) hb); clear HB; have HO277 := n0_; have HB := n1_; clear n0_ n1_; (try clear hb); (try clear hb2); (try clear hk); (try clear hi); (try clear ho0); obtain ⟨Ao4, co4, eo4⟩ := Kd.R_slice HO277.out; subst eo4)); try go_wp2_with (first | (go_at_call 39; (with_reducible refine (parse_functions.calls  t275 _ A2.out).mono ?_); rintro e w3 ⟨v276, rfl, ho0, hb⟩; have n0_ := Aside0.mk (Kd.R_lower ho0 (below_size (by repeat (first | (with_reducible first | exact HB.out | apply below_alloc | apply pw_below_drewN | apply below_drew1) | exact HB.out)))); have n1_ := Aside0.mk (below_step (by repeat (first | (with_reducible first | exact HB.out | apply below_alloc | apply pw_below_drewN | apply below_drew1) | exact HB.out)) hb); clear HB; have HO277 := n0_; have HB := n1_; clear n0_ n1_; (try clear hb); (try clear hb2); (try clear hk); (try clear hi); (try clear ho0); obtain ⟨Ao4, co4, eo4⟩ := Kd.R_slice HO277.out; subst eo4)))
  go_loopg [9] k (fun kq v9 w' => ∃ (x9_1 : Int), v9 = .int .i64 x9_1 ∧ Aside0 (parse_Find.l0 kq a0 t275 (t275.length : Int) x9_1 = some (r1, r2, r3)) ∧ Aside0 (kq ≤ k) ∧ Aside0 (Kd.R k83 83 w' w.heap.size (fun _ => True) (.slice Ao4 t275.length co4) t275) ∧ Aside0 (Below w.heap.size w w'))
  case atStart => exact ⟨(0), (by first | rfl | (simp; done) | (simp [*]; done)), H', ⟨Nat.le_refl _⟩, ⟨by (with_reducible repeat (first | apply Kd.R_alloc | apply Kd.R_drewN | apply Kd.R_drew)); exact HO277.out⟩, ⟨by repeat (first | (with_reducible first | exact HB.out | apply below_alloc | apply pw_below_drewN | apply below_drew1) | exact HB.out)⟩⟩
  case round =>
    clear H'
    try clear c1
    try clear p2
    obtain ⟨x9_1, rfl, HA, HK1, HO_7, HB⟩ := hrel
    cases gk with
    | zero => exact absurd HA.out (by simp [parse_Find.l0])
    | succ k1 =>
      have H := HA.out
      clear HA
      simp only [parse_Find.l0] at H
      by_cases c5 : x9_1 < (t275.length : Int)
      · rw [if_pos c5] at H
        have c5b0 : decide (x9_1 < (t275.length : Int)) = true := decide_eq_true c5
        clear c5
        by_cases c6 : 0 ≤ x9_1
        · rw [if_pos c6] at H
          have c6b0 : decide (0 ≤ x9_1) = true := decide_eq_true c6
          clear c6
          by_cases c7 : x9_1 < (t275.length : Int)
          · rw [if_pos c7] at H
            have c7b0 : decide (x9_1 < (t275.length : Int)) = true := decide_eq_true c7
            clear c7
            by_cases c8 : x9_1 > 1
            · rw [if_pos c8] at H
              have c8b0 : decide (1 < x9_1) = true := decide_eq_true c8
              clear c8
              by_cases c9 : x9_1 < 24
              · rw [if_pos c9] at H
                have c9b0 : decide (x9_1 < 24) = true := decide_eq_true c9
                clear c9
                by_cases c10 : ((rd_T83 t275 x9_1).f0).toList = a0.toList
                · rw [if_pos c10] at H
                  have c10b0 : (((rd_T83 t275 x9_1).f0).toList == a0.toList) = true := beq_iff_eq.mpr c10
                  have c10b1 : (((rd_T83 t275 x9_1).f0).toList != a0.toList) = false := bne_eq_false_iff_eq.mpr c10
                  clear c10
                  simp only [Option.some.injEq, Prod.mk.injEq] at H
                  obtain ⟨rfl, rfl, rfl⟩ := H
                  have p278 : 0 ≤ (x9_1 : Int) := of_decide_eq_true (by first | (with_reducible assumption) | assumption)
                  have q278 : x9_1 < (t275.length : Int) := of_decide_eq_true (by first | (with_reducible assumption) | assumption)
                  obtain ⟨ad278, e278, hx278_0, hx278_1⟩ := at_T83 (Kd.R_reads' HO_7.out).2.2 x9_1 p278 q278
                  cases e278
                  replace p278 := eq_true p278
                  replace q278 := eq_true q278
                  go_wp2_with (first | ((with_reducible refine gate_dst (N := 6) rfl ?_); refine box_event ?hg (N := 6) ?hd (cs := #[.string (⟨#[]⟩ : ByteArray), .int .i64 0]) (t := 83) ?hr ?_; (case hd => rfl); (case hg => rfl); (case hr => first | (go_simp; done) | (go_simp; rfl)); intro gb279 hg w11 hbox hb; have n0_ := Aside0.mk (Kd.R_below (Kd.R_elderB (by (with_reducible repeat (first | apply Kd.R_alloc | apply Kd.R_drewN | apply Kd.R_drew)); exact HO_7.out) gb279 (Nat.le_of_eq hg.symm)) hb); have n1_ := Aside0.mk (below_step (by repeat (first | (with_reducible first | exact HB.out | apply below_alloc | apply pw_below_drewN | apply below_drew1) | exact HB.out)) hb); have n2_ := Aside0.mk (hbox); have n3_ := Aside0.mk ((by rw [hg]; exact (below_size (by repeat (first | (with_reducible first | exact HB.out | apply below_alloc | apply pw_below_drewN | apply below_drew1) | exact HB.out))) : w.heap.size ≤ gb279)); have n4_ := Aside0.mk ((by rw [hg]; exact (below_size (by repeat (first | (with_reducible first | exact HB.out | apply below_alloc | apply pw_below_drewN | apply below_drew1) | exact HB.out))) : w.heap.size ≤ gb279)); clear HO_7; clear HB; have HO_7 := n0_; have HB := n1_; have BK279 := n2_; have GW279 := n3_; have GE279 := n4_; clear n0_ n1_ n2_ n3_ n4_; clear hb hbox hg; have hcz12_0 : w11.cell? ⟨gb279, 0, none⟩ = some (.string (⟨#[]⟩ : ByteArray)) := (blk_cell BK279.out 0).trans rfl; have hcz12_1 : w11.cell? ⟨gb279, 1, none⟩ = some (.int .i64 0) := (blk_cell BK279.out 1).trans rfl; have hfz12_0 := blk_frozen BK279.out 0; have hfz12_1 := blk_frozen BK279.out 1))
                  repeat (go_quiet (first | ((with_reducible refine gate_dst (N := 6) rfl ?_); refine box_event ?hg (N := 6) ?hd (cs := #[.string (⟨#[]⟩ : ByteArray), .int .i64 0]) (t := 83) ?hr ?_; (case hd => rfl); (case hg => rfl); (case hr => first | (go_simp; done) | (go_simp; rfl)); intro gb279 hg w11 hbox hb; have n0_ := Aside0.mk (Kd.R_below (Kd.R_elderB (by (with_reducible repeat (first | apply Kd.R_alloc | apply Kd.R_drewN | apply Kd.R_drew)); exact HO_7.out) gb279 (Nat.le_of_eq hg.symm)) hb); have n1_ := Aside0.mk (below_step (by repeat (first | (with_reducible first | exact HB.out | apply below_alloc | apply pw_below_drewN | apply below_drew1) | exact HB.out)) hb); have n2_ := Aside0.mk (hbox); have n3_ := Aside0.mk ((by rw [hg]; exact (below_size (by repeat (first | (with_reducible first | exact HB.out | apply below_alloc | apply pw_below_drewN | apply below_drew1) | exact HB.out))) : w.heap.size ≤ gb279)); have n4_ := Aside0.mk ((by rw [hg]; exact (below_size (by repeat (first | (with_reducible first | exact HB.out | apply below_alloc | apply pw_below_drewN | apply below_drew1) | exact HB.out))) : w.heap.size ≤ gb279)); clear HO_7; clear HB; have HO_7 := n0_; have HB := n1_; have BK279 := n2_; have GW279 := n3_; have GE279 := n4_; clear n0_ n1_ n2_ n3_ n4_; clear hb hbox hg; have hcz12_0 : w11.cell? ⟨gb279, 0, none⟩ = some (.string (⟨#[]⟩ : ByteArray)) := (blk_cell BK279.out 0).trans rfl; have hcz12_1 : w11.cell? ⟨gb279, 1, none⟩ = some (.int .i64 0) := (blk_cell BK279.out 1).trans rfl; have hfz12_0 := blk_frozen BK279.out 0; have hfz12_1 := blk_frozen BK279.out 1)); try go_wp2_with (first | ((with_reducible refine gate_dst (N := 6) rfl ?_); refine box_event ?hg (N := 6) ?hd (cs := #[.string (⟨#[]⟩ : ByteArray), .int .i64 0]) (t := 83) ?hr ?_; (case hd => rfl); (case hg => rfl); (case hr => first | (go_simp; done) | (go_simp; rfl)); intro gb279 hg w11 hbox hb; have n0_ := Aside0.mk (Kd.R_below (Kd.R_elderB (by (with_reducible repeat (first | apply Kd.R_alloc | apply Kd.R_drewN | apply Kd.R_drew)); exact HO_7.out) gb279 (Nat.le_of_eq hg.symm)) hb); have n1_ := Aside0.mk (below_step (by repeat (first | (with_reducible first | exact HB.out | apply below_alloc | apply pw_below_drewN | apply below_drew1) | exact HB.out)) hb); have n2_ := Aside0.mk (hbox); have n3_ := Aside0.mk ((by rw [hg]; exact (below_size (by repeat (first | (with_reducible first | exact HB.out | apply below_alloc | apply pw_below_drewN | apply below_drew1) | exact HB.out))) : w.heap.size ≤ gb279)); have n4_ := Aside0.mk ((by rw [hg]; exact (below_size (by repeat (first | (with_reducible first | exact HB.out | apply below_alloc | apply pw_below_drewN | apply below_drew1) | exact HB.out))) : w.heap.size ≤ gb279)); clear HO_7; clear HB; have HO_7 := n0_; have HB := n1_; have BK279 := n2_; have GW279 := n3_; have GE279 := n4_; clear n0_ n1_ n2_ n3_ n4_; clear hb hbox hg; have hcz12_0 : w11.cell? ⟨gb279, 0, none⟩ = some (.string (⟨#[]⟩ : ByteArray)) := (blk_cell BK279.out 0).trans rfl; have hcz12_1 : w11.cell? ⟨gb279, 1, none⟩ = some (.int .i64 0) := (blk_cell BK279.out 1).trans rfl; have hfz12_0 := blk_frozen BK279.out 0; have hfz12_1 := blk_frozen BK279.out 1)))
                  go_ret3
                  exact ⟨by first | rfl | (simp [errW_none, errW_some] <;> rfl) | (simp [*, errW_none, errW_some] <;> rfl), by repeat (first | (with_reducible first | exact HB.out | apply below_alloc | apply pw_below_drewN | apply below_drew1 | refine below_set ?_ GE279.out) | exact HB.out)⟩
                · rw [if_neg c10] at H
                  have c10b0 : (((rd_T83 t275 x9_1).f0).toList == a0.toList) = false := beq_eq_false_iff_ne.mpr c10
                  have c10b1 : (((rd_T83 t275 x9_1).f0).toList != a0.toList) = true := bne_iff_ne.mpr c10
                  have H' := Aside0.mk H
                  clear H
                  have p278 : 0 ≤ (x9_1 : Int) := of_decide_eq_true (by first | (with_reducible assumption) | assumption)
                  have q278 : x9_1 < (t275.length : Int) := of_decide_eq_true (by first | (with_reducible assumption) | assumption)
                  obtain ⟨ad278, e278, hx278_0, hx278_1⟩ := at_T83 (Kd.R_reads' HO_7.out).2.2 x9_1 p278 q278
                  cases e278
                  replace p278 := eq_true p278
                  replace q278 := eq_true q278
                  go_wp2_with (first | ((with_reducible refine gate_dst (N := 6) rfl ?_); refine box_event ?hg (N := 6) ?hd (cs := #[.string (⟨#[]⟩ : ByteArray), .int .i64 0]) (t := 83) ?hr ?_; (case hd => rfl); (case hg => rfl); (case hr => first | (go_simp; done) | (go_simp; rfl)); intro gb279 hg w13 hbox hb; have n0_ := Aside0.mk (Kd.R_below (Kd.R_elderB (by (with_reducible repeat (first | apply Kd.R_alloc | apply Kd.R_drewN | apply Kd.R_drew)); exact HO_7.out) gb279 (Nat.le_of_eq hg.symm)) hb); have n1_ := Aside0.mk (below_step (by repeat (first | (with_reducible first | exact HB.out | apply below_alloc | apply pw_below_drewN | apply below_drew1) | exact HB.out)) hb); have n2_ := Aside0.mk (hbox); have n3_ := Aside0.mk ((by rw [hg]; exact (below_size (by repeat (first | (with_reducible first | exact HB.out | apply below_alloc | apply pw_below_drewN | apply below_drew1) | exact HB.out))) : w.heap.size ≤ gb279)); have n4_ := Aside0.mk ((by rw [hg]; exact (below_size (by repeat (first | (with_reducible first | exact HB.out | apply below_alloc | apply pw_below_drewN | apply below_drew1) | exact HB.out))) : w.heap.size ≤ gb279)); clear HO_7; clear HB; have HO_7 := n0_; have HB := n1_; have BK279 := n2_; have GW279 := n3_; have GE279 := n4_; clear n0_ n1_ n2_ n3_ n4_; clear hb hbox hg; have hcz14_0 : w13.cell? ⟨gb279, 0, none⟩ = some (.string (⟨#[]⟩ : ByteArray)) := (blk_cell BK279.out 0).trans rfl; have hcz14_1 : w13.cell? ⟨gb279, 1, none⟩ = some (.int .i64 0) := (blk_cell BK279.out 1).trans rfl; have hfz14_0 := blk_frozen BK279.out 0; have hfz14_1 := blk_frozen BK279.out 1))
                  repeat (go_quiet (first | ((with_reducible refine gate_dst (N := 6) rfl ?_); refine box_event ?hg (N := 6) ?hd (cs := #[.string (⟨#[]⟩ : ByteArray), .int .i64 0]) (t := 83) ?hr ?_; (case hd => rfl); (case hg => rfl); (case hr => first | (go_simp; done) | (go_simp; rfl)); intro gb279 hg w13 hbox hb; have n0_ := Aside0.mk (Kd.R_below (Kd.R_elderB (by (with_reducible repeat (first | apply Kd.R_alloc | apply Kd.R_drewN | apply Kd.R_drew)); exact HO_7.out) gb279 (Nat.le_of_eq hg.symm)) hb); have n1_ := Aside0.mk (below_step (by repeat (first | (with_reducible first | exact HB.out | apply below_alloc | apply pw_below_drewN | apply below_drew1) | exact HB.out)) hb); have n2_ := Aside0.mk (hbox); have n3_ := Aside0.mk ((by rw [hg]; exact (below_size (by repeat (first | (with_reducible first | exact HB.out | apply below_alloc | apply pw_below_drewN | apply below_drew1) | exact HB.out))) : w.heap.size ≤ gb279)); have n4_ := Aside0.mk ((by rw [hg]; exact (below_size (by repeat (first | (with_reducible first | exact HB.out | apply below_alloc | apply pw_below_drewN | apply below_drew1) | exact HB.out))) : w.heap.size ≤ gb279)); clear HO_7; clear HB; have HO_7 := n0_; have HB := n1_; have BK279 := n2_; have GW279 := n3_; have GE279 := n4_; clear n0_ n1_ n2_ n3_ n4_; clear hb hbox hg; have hcz14_0 : w13.cell? ⟨gb279, 0, none⟩ = some (.string (⟨#[]⟩ : ByteArray)) := (blk_cell BK279.out 0).trans rfl; have hcz14_1 : w13.cell? ⟨gb279, 1, none⟩ = some (.int .i64 0) := (blk_cell BK279.out 1).trans rfl; have hfz14_0 := blk_frozen BK279.out 0; have hfz14_1 := blk_frozen BK279.out 1)); try go_wp2_with (first | ((with_reducible refine gate_dst (N := 6) rfl ?_); refine box_event ?hg (N := 6) ?hd (cs := #[.string (⟨#[]⟩ : ByteArray), .int .i64 0]) (t := 83) ?hr ?_; (case hd => rfl); (case hg => rfl); (case hr => first | (go_simp; done) | (go_simp; rfl)); intro gb279 hg w13 hbox hb; have n0_ := Aside0.mk (Kd.R_below (Kd.R_elderB (by (with_reducible repeat (first | apply Kd.R_alloc | apply Kd.R_drewN | apply Kd.R_drew)); exact HO_7.out) gb279 (Nat.le_of_eq hg.symm)) hb); have n1_ := Aside0.mk (below_step (by repeat (first | (with_reducible first | exact HB.out | apply below_alloc | apply pw_below_drewN | apply below_drew1) | exact HB.out)) hb); have n2_ := Aside0.mk (hbox); have n3_ := Aside0.mk ((by rw [hg]; exact (below_size (by repeat (first | (with_reducible first | exact HB.out | apply below_alloc | apply pw_below_drewN | apply below_drew1) | exact HB.out))) : w.heap.size ≤ gb279)); have n4_ := Aside0.mk ((by rw [hg]; exact (below_size (by repeat (first | (with_reducible first | exact HB.out | apply below_alloc | apply pw_below_drewN | apply below_drew1) | exact HB.out))) : w.heap.size ≤ gb279)); clear HO_7; clear HB; have HO_7 := n0_; have HB := n1_; have BK279 := n2_; have GW279 := n3_; have GE279 := n4_; clear n0_ n1_ n2_ n3_ n4_; clear hb hbox hg; have hcz14_0 : w13.cell? ⟨gb279, 0, none⟩ = some (.string (⟨#[]⟩ : ByteArray)) := (blk_cell BK279.out 0).trans rfl; have hcz14_1 : w13.cell? ⟨gb279, 1, none⟩ = some (.int .i64 0) := (blk_cell BK279.out 1).trans rfl; have hfz14_0 := blk_frozen BK279.out 0; have hfz14_1 := blk_frozen BK279.out 1)))
                  go_roundg k1
                  case measure => have := HK1.out; omega
                  case rel => exact ⟨(wrap64 (x9_1 + 1)), (by first | rfl | (simp; done) | (simp [*]; done)), H', ⟨by have := HK1.out; omega⟩, ⟨by (with_reducible repeat (first | apply Kd.R_alloc | apply Kd.R_drewN | apply Kd.R_drew)); exact Kd.R_mono (Kd.R_far (p := ⟨gb279, 1, none⟩) (Kd.R_far (p := ⟨gb279, 0, none⟩) (Kd.R_mono HO_7.out (fun k_ hk => (⟨hk, hk.2⟩ : _ ∧ k_ ≠ gb279))) (fun _ hk => hk.2) (.string ((rd_T83 t275 x9_1).f0))) (fun _ hk => hk.2) (.int .i64 ((rd_T83 t275 x9_1).f1))) (fun _ hk => trivial)⟩, ⟨by repeat (first | (with_reducible first | exact HB.out | apply below_alloc | apply pw_below_drewN | apply below_drew1 | refine below_set ?_ GE279.out) | exact HB.out)⟩⟩
              · rw [if_neg c9] at H
                have c9b0 : decide (x9_1 < 24) = false := decide_eq_false c9
                clear c9
                have H' := Aside0.mk H
                clear H
                have p278 : 0 ≤ (x9_1 : Int) := of_decide_eq_true (by first | (with_reducible assumption) | assumption)
                have q278 : x9_1 < (t275.length : Int) := of_decide_eq_true (by first | (with_reducible assumption) | assumption)
                obtain ⟨ad278, e278, hx278_0, hx278_1⟩ := at_T83 (Kd.R_reads' HO_7.out).2.2 x9_1 p278 q278
                cases e278
                replace p278 := eq_true p278
                replace q278 := eq_true q278
                go_wp2_with (first | ((with_reducible refine gate_dst (N := 6) rfl ?_); refine box_event ?hg (N := 6) ?hd (cs := #[.string (⟨#[]⟩ : ByteArray), .int .i64 0]) (t := 83) ?hr ?_; (case hd => rfl); (case hg => rfl); (case hr => first | (go_simp; done) | (go_simp; rfl)); intro gb279 hg w15 hbox hb; have n0_ := Aside0.mk (Kd.R_below (Kd.R_elderB (by (with_reducible repeat (first | apply Kd.R_alloc | apply Kd.R_drewN | apply Kd.R_drew)); exact HO_7.out) gb279 (Nat.le_of_eq hg.symm)) hb); have n1_ := Aside0.mk (below_step (by repeat (first | (with_reducible first | exact HB.out | apply below_alloc | apply pw_below_drewN | apply below_drew1) | exact HB.out)) hb); have n2_ := Aside0.mk (hbox); have n3_ := Aside0.mk ((by rw [hg]; exact (below_size (by repeat (first | (with_reducible first | exact HB.out | apply below_alloc | apply pw_below_drewN | apply below_drew1) | exact HB.out))) : w.heap.size ≤ gb279)); have n4_ := Aside0.mk ((by rw [hg]; exact (below_size (by repeat (first | (with_reducible first | exact HB.out | apply below_alloc | apply pw_below_drewN | apply below_drew1) | exact HB.out))) : w.heap.size ≤ gb279)); clear HO_7; clear HB; have HO_7 := n0_; have HB := n1_; have BK279 := n2_; have GW279 := n3_; have GE279 := n4_; clear n0_ n1_ n2_ n3_ n4_; clear hb hbox hg; have hcz16_0 : w15.cell? ⟨gb279, 0, none⟩ = some (.string (⟨#[]⟩ : ByteArray)) := (blk_cell BK279.out 0).trans rfl; have hcz16_1 : w15.cell? ⟨gb279, 1, none⟩ = some (.int .i64 0) := (blk_cell BK279.out 1).trans rfl; have hfz16_0 := blk_frozen BK279.out 0; have hfz16_1 := blk_frozen BK279.out 1))
                repeat (go_quiet (first | ((with_reducible refine gate_dst (N := 6) rfl ?_); refine box_event ?hg (N := 6) ?hd (cs := #[.string (⟨#[]⟩ : ByteArray), .int .i64 0]) (t := 83) ?hr ?_; (case hd => rfl); (case hg => rfl); (case hr => first | (go_simp; done) | (go_simp; rfl)); intro gb279 hg w15 hbox hb; have n0_ := Aside0.mk (Kd.R_below (Kd.R_elderB (by (with_reducible repeat (first | apply Kd.R_alloc | apply Kd.R_drewN | apply Kd.R_drew)); exact HO_7.out) gb279 (Nat.le_of_eq hg.symm)) hb); have n1_ := Aside0.mk (below_step (by repeat (first | (with_reducible first | exact HB.out | apply below_alloc | apply pw_below_drewN | apply below_drew1) | exact HB.out)) hb); have n2_ := Aside0.mk (hbox); have n3_ := Aside0.mk ((by rw [hg]; exact (below_size (by repeat (first | (with_reducible first | exact HB.out | apply below_alloc | apply pw_below_drewN | apply below_drew1) | exact HB.out))) : w.heap.size ≤ gb279)); have n4_ := Aside0.mk ((by rw [hg]; exact (below_size (by repeat (first | (with_reducible first | exact HB.out | apply below_alloc | apply pw_below_drewN | apply below_drew1) | exact HB.out))) : w.heap.size ≤ gb279)); clear HO_7; clear HB; have HO_7 := n0_; have HB := n1_; have BK279 := n2_; have GW279 := n3_; have GE279 := n4_; clear n0_ n1_ n2_ n3_ n4_; clear hb hbox hg; have hcz16_0 : w15.cell? ⟨gb279, 0, none⟩ = some (.string (⟨#[]⟩ : ByteArray)) := (blk_cell BK279.out 0).trans rfl; have hcz16_1 : w15.cell? ⟨gb279, 1, none⟩ = some (.int .i64 0) := (blk_cell BK279.out 1).trans rfl; have hfz16_0 := blk_frozen BK279.out 0; have hfz16_1 := blk_frozen BK279.out 1)); try go_wp2_with (first | ((with_reducible refine gate_dst (N := 6) rfl ?_); refine box_event ?hg (N := 6) ?hd (cs := #[.string (⟨#[]⟩ : ByteArray), .int .i64 0]) (t := 83) ?hr ?_; (case hd => rfl); (case hg => rfl); (case hr => first | (go_simp; done) | (go_simp; rfl)); intro gb279 hg w15 hbox hb; have n0_ := Aside0.mk (Kd.R_below (Kd.R_elderB (by (with_reducible repeat (first | apply Kd.R_alloc | apply Kd.R_drewN | apply Kd.R_drew)); exact HO_7.out) gb279 (Nat.le_of_eq hg.symm)) hb); have n1_ := Aside0.mk (below_step (by repeat (first | (with_reducible first | exact HB.out | apply below_alloc | apply pw_below_drewN | apply below_drew1) | exact HB.out)) hb); have n2_ := Aside0.mk (hbox); have n3_ := Aside0.mk ((by rw [hg]; exact (below_size (by repeat (first | (with_reducible first | exact HB.out | apply below_alloc | apply pw_below_drewN | apply below_drew1) | exact HB.out))) : w.heap.size ≤ gb279)); have n4_ := Aside0.mk ((by rw [hg]; exact (below_size (by repeat (first | (with_reducible first | exact HB.out | apply below_alloc | apply pw_below_drewN | apply below_drew1) | exact HB.out))) : w.heap.size ≤ gb279)); clear HO_7; clear HB; have HO_7 := n0_; have HB := n1_; have BK279 := n2_; have GW279 := n3_; have GE279 := n4_; clear n0_ n1_ n2_ n3_ n4_; clear hb hbox hg; have hcz16_0 : w15.cell? ⟨gb279, 0, none⟩ = some (.string (⟨#[]⟩ : ByteArray)) := (blk_cell BK279.out 0).trans rfl; have hcz16_1 : w15.cell? ⟨gb279, 1, none⟩ = some (.int .i64 0) := (blk_cell BK279.out 1).trans rfl; have hfz16_0 := blk_frozen BK279.out 0; have hfz16_1 := blk_frozen BK279.out 1)))
                go_roundg k1
                case measure => have := HK1.out; omega
                case rel => exact ⟨(wrap64 (x9_1 + 1)), (by first | rfl | (simp; done) | (simp [*]; done)), H', ⟨by have := HK1.out; omega⟩, ⟨by (with_reducible repeat (first | apply Kd.R_alloc | apply Kd.R_drewN | apply Kd.R_drew)); exact Kd.R_mono (Kd.R_far (p := ⟨gb279, 1, none⟩) (Kd.R_far (p := ⟨gb279, 0, none⟩) (Kd.R_mono HO_7.out (fun k_ hk => (⟨hk, hk.2⟩ : _ ∧ k_ ≠ gb279))) (fun _ hk => hk.2) (.string ((rd_T83 t275 x9_1).f0))) (fun _ hk => hk.2) (.int .i64 ((rd_T83 t275 x9_1).f1))) (fun _ hk => trivial)⟩, ⟨by repeat (first | (with_reducible first | exact HB.out | apply below_alloc | apply pw_below_drewN | apply below_drew1 | refine below_set ?_ GE279.out) | exact HB.out)⟩⟩
            · rw [if_neg c8] at H
              have c8b0 : decide (1 < x9_1) = false := decide_eq_false c8
              clear c8
              have H' := Aside0.mk H
              clear H
              have p278 : 0 ≤ (x9_1 : Int) := of_decide_eq_true (by first | (with_reducible assumption) | assumption)
              have q278 : x9_1 < (t275.length : Int) := of_decide_eq_true (by first | (with_reducible assumption) | assumption)
              obtain ⟨ad278, e278, hx278_0, hx278_1⟩ := at_T83 (Kd.R_reads' HO_7.out).2.2 x9_1 p278 q278
              cases e278
              replace p278 := eq_true p278
              replace q278 := eq_true q278
              go_wp2_with (first | ((with_reducible refine gate_dst (N := 6) rfl ?_); refine box_event ?hg (N := 6) ?hd (cs := #[.string (⟨#[]⟩ : ByteArray), .int .i64 0]) (t := 83) ?hr ?_; (case hd => rfl); (case hg => rfl); (case hr => first | (go_simp; done) | (go_simp; rfl)); intro gb279 hg w17 hbox hb; have n0_ := Aside0.mk (Kd.R_below (Kd.R_elderB (by (with_reducible repeat (first | apply Kd.R_alloc | apply Kd.R_drewN | apply Kd.R_drew)); exact HO_7.out) gb279 (Nat.le_of_eq hg.symm)) hb); have n1_ := Aside0.mk (below_step (by repeat (first | (with_reducible first | exact HB.out | apply below_alloc | apply pw_below_drewN | apply below_drew1) | exact HB.out)) hb); have n2_ := Aside0.mk (hbox); have n3_ := Aside0.mk ((by rw [hg]; exact (below_size (by repeat (first | (with_reducible first | exact HB.out | apply below_alloc | apply pw_below_drewN | apply below_drew1) | exact HB.out))) : w.heap.size ≤ gb279)); have n4_ := Aside0.mk ((by rw [hg]; exact (below_size (by repeat (first | (with_reducible first | exact HB.out | apply below_alloc | apply pw_below_drewN | apply below_drew1) | exact HB.out))) : w.heap.size ≤ gb279)); clear HO_7; clear HB; have HO_7 := n0_; have HB := n1_; have BK279 := n2_; have GW279 := n3_; have GE279 := n4_; clear n0_ n1_ n2_ n3_ n4_; clear hb hbox hg; have hcz18_0 : w17.cell? ⟨gb279, 0, none⟩ = some (.string (⟨#[]⟩ : ByteArray)) := (blk_cell BK279.out 0).trans rfl; have hcz18_1 : w17.cell? ⟨gb279, 1, none⟩ = some (.int .i64 0) := (blk_cell BK279.out 1).trans rfl; have hfz18_0 := blk_frozen BK279.out 0; have hfz18_1 := blk_frozen BK279.out 1))
              repeat (go_quiet (first | ((with_reducible refine gate_dst (N := 6) rfl ?_); refine box_event ?hg (N := 6) ?hd (cs := #[.string (⟨#[]⟩ : ByteArray), .int .i64 0]) (t := 83) ?hr ?_; (case hd => rfl); (case hg => rfl); (case hr => first | (go_simp; done) | (go_simp; rfl)); intro gb279 hg w17 hbox hb; have n0_ := Aside0.mk (Kd.R_below (Kd.R_elderB (by (with_reducible repeat (first | apply Kd.R_alloc | apply Kd.R_drewN | apply Kd.R_drew)); exact HO_7.out) gb279 (Nat.le_of_eq hg.symm)) hb); have n1_ := Aside0.mk (below_step (by repeat (first | (with_reducible first | exact HB.out | apply below_alloc | apply pw_below_drewN | apply below_drew1) | exact HB.out)) hb); have n2_ := Aside0.mk (hbox); have n3_ := Aside0.mk ((by rw [hg]; exact (below_size (by repeat (first | (with_reducible first | exact HB.out | apply below_alloc | apply pw_below_drewN | apply below_drew1) | exact HB.out))) : w.heap.size ≤ gb279)); have n4_ := Aside0.mk ((by rw [hg]; exact (below_size (by repeat (first | (with_reducible first | exact HB.out | apply below_alloc | apply pw_below_drewN | apply below_drew1) | exact HB.out))) : w.heap.size ≤ gb279)); clear HO_7; clear HB; have HO_7 := n0_; have HB := n1_; have BK279 := n2_; have GW279 := n3_; have GE279 := n4_; clear n0_ n1_ n2_ n3_ n4_; clear hb hbox hg; have hcz18_0 : w17.cell? ⟨gb279, 0, none⟩ = some (.string (⟨#[]⟩ : ByteArray)) := (blk_cell BK279.out 0).trans rfl; have hcz18_1 : w17.cell? ⟨gb279, 1, none⟩ = some (.int .i64 0) := (blk_cell BK279.out 1).trans rfl; have hfz18_0 := blk_frozen BK279.out 0; have hfz18_1 := blk_frozen BK279.out 1)); try go_wp2_with (first | ((with_reducible refine gate_dst (N := 6) rfl ?_); refine box_event ?hg (N := 6) ?hd (cs := #[.string (⟨#[]⟩ : ByteArray), .int .i64 0]) (t := 83) ?hr ?_; (case hd => rfl); (case hg => rfl); (case hr => first | (go_simp; done) | (go_simp; rfl)); intro gb279 hg w17 hbox hb; have n0_ := Aside0.mk (Kd.R_below (Kd.R_elderB (by (with_reducible repeat (first | apply Kd.R_alloc | apply Kd.R_drewN | apply Kd.R_drew)); exact HO_7.out) gb279 (Nat.le_of_eq hg.symm)) hb); have n1_ := Aside0.mk (below_step (by repeat (first | (with_reducible first | exact HB.out | apply below_alloc | apply pw_below_drewN | apply below_drew1) | exact HB.out)) hb); have n2_ := Aside0.mk (hbox); have n3_ := Aside0.mk ((by rw [hg]; exact (below_size (by repeat (first | (with_reducible first | exact HB.out | apply below_alloc | apply pw_below_drewN | apply below_drew1) | exact HB.out))) : w.heap.size ≤ gb279)); have n4_ := Aside0.mk ((by rw [hg]; exact (below_size (by repeat (first | (with_reducible first | exact HB.out | apply below_alloc | apply pw_below_drewN | apply below_drew1) | exact HB.out))) : w.heap.size ≤ gb279)); clear HO_7; clear HB; have HO_7 := n0_; have HB := n1_; have BK279 := n2_; have GW279 := n3_; have GE279 := n4_; clear n0_ n1_ n2_ n3_ n4_; clear hb hbox hg; have hcz18_0 : w17.cell? ⟨gb279, 0, none⟩ = some (.string (⟨#[]⟩ : ByteArray)) := (blk_cell BK279.out 0).trans rfl; have hcz18_1 : w17.cell? ⟨gb279, 1, none⟩ = some (.int .i64 0) := (blk_cell BK279.out 1).trans rfl; have hfz18_0 := blk_frozen BK279.out 0; have hfz18_1 := blk_frozen BK279.out 1)))
              go_roundg k1
              case measure => have := HK1.out; omega
              case rel => exact ⟨(wrap64 (x9_1 + 1)), (by first | rfl | (simp; done) | (simp [*]; done)), H', ⟨by have := HK1.out; omega⟩, ⟨by (with_reducible repeat (first | apply Kd.R_alloc | apply Kd.R_drewN | apply Kd.R_drew)); exact Kd.R_mono (Kd.R_far (p := ⟨gb279, 1, none⟩) (Kd.R_far (p := ⟨gb279, 0, none⟩) (Kd.R_mono HO_7.out (fun k_ hk => (⟨hk, hk.2⟩ : _ ∧ k_ ≠ gb279))) (fun _ hk => hk.2) (.string ((rd_T83 t275 x9_1).f0))) (fun _ hk => hk.2) (.int .i64 ((rd_T83 t275 x9_1).f1))) (fun _ hk => trivial)⟩, ⟨by repeat (first | (with_reducible first | exact HB.out | apply below_alloc | apply pw_below_drewN | apply below_drew1 | refine below_set ?_ GE279.out) | exact HB.out)⟩⟩
          · rw [if_neg c7] at H
            exact absurd H (by simp)
        · rw [if_neg c6] at H
          exact absurd H (by simp)
      · rw [if_neg c5] at H
        have c5b0 : decide (x9_1 < (t275.length : Int)) = false := decide_eq_false c5
        clear c5
        simp only [Option.some.injEq, Prod.mk.injEq] at H
        obtain ⟨rfl, rfl, rfl⟩ := H
        go_wp2
        repeat (go_quiet (fail); try go_wp2)
        go_ret3
        exact ⟨by first | rfl | (simp [errW_none, errW_some] <;> rfl) | (simp [*, errW_none, errW_some] <;> rfl), by repeat (first | (with_reducible first | exact HB.out | apply below_alloc | apply pw_below_drewN | apply below_drew1) | exact HB.out)⟩
-- NOT PRINTED: function 214 (parse_reader_take)
-- NOT PRINTED: function 212 (parse_reader_named)
def parse_Name.f (a0 : Int) : Option (ByteArray × Int × Bool) := (parse_functions.f).bind fun t736 => (if a0 < 1 then (some ((⟨#[]⟩ : ByteArray), 0, false)) else (if a0 ≥ (t736.length : Int) then (some ((⟨#[]⟩ : ByteArray), 0, false)) else (if 0 ≤ a0 then (if a0 < (t736.length : Int) then (some ((rd_T83 t736 a0).f0, (rd_T83 t736 a0).f1, true)) else (none)) else (none))))
set_option maxHeartbeats 8000000 in
set_option maxRecDepth 100000 in
theorem parse_Name.calls (a0 : Int) (r1 : ByteArray) (r2 : Int) (r3 : Bool) (w : World) (h : parse_Name.f a0 = some (r1, r2, r3)) :
    Calls Tryz.prog 12 #[.int .i64 a0] w fun e w' => e = .returned (.tuple #[.string r1, .int .i64 r2, .bool r3]) ∧ Below w.heap.size w w' := by
  have HB := Aside0.mk (Below.refl w.heap.size w)
  have H : ((parse_functions.f).bind fun t736 => (if a0 < 1 then (some ((⟨#[]⟩ : ByteArray), 0, false)) else (if a0 ≥ (t736.length : Int) then (some ((⟨#[]⟩ : ByteArray), 0, false)) else (if 0 ≤ a0 then (if a0 < (t736.length : Int) then (some ((rd_T83 t736 a0).f0, (rd_T83 t736 a0).f1, true)) else (none)) else (none))))) = some (r1, r2, r3) := h
  clear h
  replace H := Option.bind_eq_some_iff.mp H
  obtain ⟨t736, A20, H⟩ := H
  replace H : (if a0 < 1 then (some ((⟨#[]⟩ : ByteArray), 0, false)) else (if a0 ≥ (t736.length : Int) then (some ((⟨#[]⟩ : ByteArray), 0, false)) else (if 0 ≤ a0 then (if a0 < (t736.length : Int) then (some ((rd_T83 t736 a0).f0, (rd_T83 t736 a0).f1, true)) else (none)) else (none)))) = some (r1, r2, r3) := H
  have A2 := Aside0.mk A20
  clear A20
  by_cases c3 : a0 < 1
  · rw [if_pos c3] at H
    have c3b0 : decide (a0 < 1) = true := decide_eq_true c3
    clear c3
    simp only [Option.some.injEq, Prod.mk.injEq] at H
    obtain ⟨rfl, rfl, rfl⟩ := H
    go_enter Tryz.func12, Tryz.ntmps12
    go_wp2_with (first | (go_at_call 39; (with_reducible refine (parse_functions.calls  t736 _ A2.out).mono ?_); rintro e w4 ⟨v737, rfl, ho0, hb⟩; have n0_ := Aside0.mk (Kd.R_lower ho0 (below_size (by repeat (first | (with_reducible first | exact HB.out | apply below_alloc | apply pw_below_drewN | apply below_drew1) | exact HB.out)))); have n1_ := Aside0.mk (below_step (by repeat (first | (with_reducible first | exact HB.out | apply below_alloc | apply pw_below_drewN | apply below_drew1) | exact HB.out)) hb); clear HB; have HO738 := n0_; have HB := n1_; clear n0_ n1_; (try clear hb); (try clear hb2); (try clear hk); (try clear hi); (try clear ho0)))
    repeat (go_quiet (first | (go_at_call 39; (with_reducible refine (parse_functions.calls  t736 _ A2.out).mono ?_); rintro e w4 ⟨v737, rfl, ho0, hb⟩; have n0_ := Aside0.mk (Kd.R_lower ho0 (below_size (by repeat (first | (with_reducible first | exact HB.out | apply below_alloc | apply pw_below_drewN | apply below_drew1) | exact HB.out)))); have n1_ := Aside0.mk (below_step (by repeat (first | (with_reducible first | exact HB.out | apply below_alloc | apply pw_below_drewN | apply below_drew1) | exact HB.out)) hb); clear HB; have HO738 := n0_; have HB := n1_; clear n0_ n1_; (try clear hb); (try clear hb2); (try clear hk); (try clear hi); (try clear ho0))); try go_wp2_with (first | (go_at_call 39; (with_reducible refine (parse_functions.calls  t736 _ A2.out).mono ?_); rintro e w4 ⟨v737, rfl, ho0, hb⟩; have n0_ := Aside0.mk (Kd.R_lower ho0 (below_size (by repeat (first | (with_reducible first | exact HB.out | apply below_alloc | apply pw_below_drewN | apply below_drew1) | exact HB.out)))); have n1_ := Aside0.mk (below_step (by repeat (first | (with_reducible first | exact HB.out | apply below_alloc | apply pw_below_drewN | apply below_drew1) | exact HB.out)) hb); clear HB; have HO738 := n0_; have HB := n1_; clear n0_ n1_; (try clear hb); (try clear hb2); (try clear hk); (try clear hi); (try clear ho0))))
    go_ret3
    exact ⟨by first | rfl | (simp [errW_none, errW_some] <;> rfl) | (simp [*, errW_none, errW_some] <;> rfl), by repeat (first | (with_reducible first | exact HB.out | apply below_alloc | apply pw_below_drewN | apply below_drew1) | exact HB.out)⟩
  · rw [if_neg c3] at H
    have c3b0 : decide (a0 < 1) = false := decide_eq_false c3
    clear c3
    by_cases c5 : a0 ≥ (t736.length : Int)
    · rw [if_pos c5] at H
      have c5b0 : decide ((t736.length : Int) ≤ a0) = true := decide_eq_true c5
      clear c5
      simp only [Option.some.injEq, Prod.mk.injEq] at H
      obtain ⟨rfl, rfl, rfl⟩ := H
      go_enter Tryz.func12, Tryz.ntmps12
      go_wp2_with (first | (go_at_call 39; (with_reducible refine (parse_functions.calls  t736 _ A2.out).mono ?_); rintro e w6 ⟨v737, rfl, ho0, hb⟩; have n0_ := Aside0.mk (Kd.R_lower ho0 (below_size (by repeat (first | (with_reducible first | exact HB.out | apply below_alloc | apply pw_below_drewN | apply below_drew1) | exact HB.out)))); have n1_ := Aside0.mk (below_step (by repeat (first | (with_reducible first | exact HB.out | apply below_alloc | apply pw_below_drewN | apply below_drew1) | exact HB.out)) hb); clear HB; have HO738 := n0_; have HB := n1_; clear n0_ n1_; (try clear hb); (try clear hb2); (try clear hk); (try clear hi); (try clear ho0); obtain ⟨Ao7, co7, eo7⟩ := Kd.R_slice HO738.out; subst eo7))
      repeat (go_quiet (first | (go_at_call 39; (with_reducible refine (parse_functions.calls  t736 _ A2.out).mono ?_); rintro e w6 ⟨v737, rfl, ho0, hb⟩; have n0_ := Aside0.mk (Kd.R_lower ho0 (below_size (by repeat (first | (with_reducible first | exact HB.out | apply below_alloc | apply pw_below_drewN | apply below_drew1) | exact HB.out)))); have n1_ := Aside0.mk (below_step (by repeat (first | (with_reducible first | exact HB.out | apply below_alloc | apply pw_below_drewN | apply below_drew1) | exact HB.out)) hb); clear HB; have HO738 := n0_; have HB := n1_; clear n0_ n1_; (try clear hb); (try clear hb2); (try clear hk); (try clear hi); (try clear ho0); obtain ⟨Ao7, co7, eo7⟩ := Kd.R_slice HO738.out; subst eo7)); try go_wp2_with (first | (go_at_call 39; (with_reducible refine (parse_functions.calls  t736 _ A2.out).mono ?_); rintro e w6 ⟨v737, rfl, ho0, hb⟩; have n0_ := Aside0.mk (Kd.R_lower ho0 (below_size (by repeat (first | (with_reducible first | exact HB.out | apply below_alloc | apply pw_below_drewN | apply below_drew1) | exact HB.out)))); have n1_ := Aside0.mk (below_step (by repeat (first | (with_reducible first | exact HB.out | apply below_alloc | apply pw_below_drewN | apply below_drew1) | exact HB.out)) hb); clear HB; have HO738 := n0_; have HB := n1_; clear n0_ n1_; (try clear hb); (try clear hb2); (try clear hk); (try clear hi); (try clear ho0); obtain ⟨Ao7, co7, eo7⟩ := Kd.R_slice HO738.out; subst eo7)))
      go_ret3
      exact ⟨by first | rfl | (simp [errW_none, errW_some] <;> rfl) | (simp [*, errW_none, errW_some] <;> rfl), by repeat (first | (with_reducible first | exact HB.out | apply below_alloc | apply pw_below_drewN | apply below_drew1) | exact HB.out)⟩
    · rw [if_neg c5] at H
      have c5b0 : decide ((t736.length : Int) ≤ a0) = false := decide_eq_false c5
      clear c5
      by_cases c8 : 0 ≤ a0
      · rw [if_pos c8] at H
        have c8b0 : decide (0 ≤ a0) = true := decide_eq_true c8
        clear c8
        by_cases c9 : a0 < (t736.length : Int)
        · rw [if_pos c9] at H
          have c9b0 : decide (a0 < (t736.length : Int)) = true := decide_eq_true c9
          clear c9
          simp only [Option.some.injEq, Prod.mk.injEq] at H
          obtain ⟨rfl, rfl, rfl⟩ := H
          go_enter Tryz.func12, Tryz.ntmps12
          go_wp2_with (first | (go_at_call 39; (with_reducible refine (parse_functions.calls  t736 _ A2.out).mono ?_); rintro e w10 ⟨v737, rfl, ho0, hb⟩; have n0_ := Aside0.mk (Kd.R_lower ho0 (below_size (by repeat (first | (with_reducible first | exact HB.out | apply below_alloc | apply pw_below_drewN | apply below_drew1) | exact HB.out)))); have n1_ := Aside0.mk (below_step (by repeat (first | (with_reducible first | exact HB.out | apply below_alloc | apply pw_below_drewN | apply below_drew1) | exact HB.out)) hb); clear HB; have HO738 := n0_; have HB := n1_; clear n0_ n1_; (try clear hb); (try clear hb2); (try clear hk); (try clear hi); (try clear ho0); obtain ⟨Ao11, co11, eo11⟩ := Kd.R_slice HO738.out; subst eo11; have p739 : 0 ≤ (a0 : Int) := of_decide_eq_true (by first | (with_reducible assumption) | assumption); have q739 : a0 < (t736.length : Int) := of_decide_eq_true (by first | (with_reducible assumption) | assumption); obtain ⟨ad739, e739, hx739_0, hx739_1⟩ := at_T83 (Kd.R_reads' HO738.out).2.2 a0 p739 q739; cases e739; replace p739 := eq_true p739; replace q739 := eq_true q739; have p740 : 0 ≤ (a0 : Int) := of_decide_eq_true (by first | (with_reducible assumption) | assumption); have q740 : a0 < (t736.length : Int) := of_decide_eq_true (by first | (with_reducible assumption) | assumption); obtain ⟨ad740, e740, hx740_0, hx740_1⟩ := at_T83 (Kd.R_reads' HO738.out).2.2 a0 p740 q740; obtain rfl : ad739 = ad740 := (by injection e740); replace p740 := eq_true p740; replace q740 := eq_true q740))
          repeat (go_quiet (first | (go_at_call 39; (with_reducible refine (parse_functions.calls  t736 _ A2.out).mono ?_); rintro e w10 ⟨v737, rfl, ho0, hb⟩; have n0_ := Aside0.mk (Kd.R_lower ho0 (below_size (by repeat (first | (with_reducible first | exact HB.out | apply below_alloc | apply pw_below_drewN | apply below_drew1) | exact HB.out)))); have n1_ := Aside0.mk (below_step (by repeat (first | (with_reducible first | exact HB.out | apply below_alloc | apply pw_below_drewN | apply below_drew1) | exact HB.out)) hb); clear HB; have HO738 := n0_; have HB := n1_; clear n0_ n1_; (try clear hb); (try clear hb2); (try clear hk); (try clear hi); (try clear ho0); obtain ⟨Ao11, co11, eo11⟩ := Kd.R_slice HO738.out; subst eo11; have p739 : 0 ≤ (a0 : Int) := of_decide_eq_true (by first | (with_reducible assumption) | assumption); have q739 : a0 < (t736.length : Int) := of_decide_eq_true (by first | (with_reducible assumption) | assumption); obtain ⟨ad739, e739, hx739_0, hx739_1⟩ := at_T83 (Kd.R_reads' HO738.out).2.2 a0 p739 q739; cases e739; replace p739 := eq_true p739; replace q739 := eq_true q739; have p740 : 0 ≤ (a0 : Int) := of_decide_eq_true (by first | (with_reducible assumption) | assumption); have q740 : a0 < (t736.length : Int) := of_decide_eq_true (by first | (with_reducible assumption) | assumption); obtain ⟨ad740, e740, hx740_0, hx740_1⟩ := at_T83 (Kd.R_reads' HO738.out).2.2 a0 p740 q740; obtain rfl : ad739 = ad740 := (by injection e740); replace p740 := eq_true p740; replace q740 := eq_true q740)); try go_wp2_with (first | (go_at_call 39; (with_reducible refine (parse_functions.calls  t736 _ A2.out).mono ?_); rintro e w10 ⟨v737, rfl, ho0, hb⟩; have n0_ := Aside0.mk (Kd.R_lower ho0 (below_size (by repeat (first | (with_reducible first | exact HB.out | apply below_alloc | apply pw_below_drewN | apply below_drew1) | exact HB.out)))); have n1_ := Aside0.mk (below_step (by repeat (first | (with_reducible first | exact HB.out | apply below_alloc | apply pw_below_drewN | apply below_drew1) | exact HB.out)) hb); clear HB; have HO738 := n0_; have HB := n1_; clear n0_ n1_; (try clear hb); (try clear hb2); (try clear hk); (try clear hi); (try clear ho0); obtain ⟨Ao11, co11, eo11⟩ := Kd.R_slice HO738.out; subst eo11; have p739 : 0 ≤ (a0 : Int) := of_decide_eq_true (by first | (with_reducible assumption) | assumption); have q739 : a0 < (t736.length : Int) := of_decide_eq_true (by first | (with_reducible assumption) | assumption); obtain ⟨ad739, e739, hx739_0, hx739_1⟩ := at_T83 (Kd.R_reads' HO738.out).2.2 a0 p739 q739; cases e739; replace p739 := eq_true p739; replace q739 := eq_true q739; have p740 : 0 ≤ (a0 : Int) := of_decide_eq_true (by first | (with_reducible assumption) | assumption); have q740 : a0 < (t736.length : Int) := of_decide_eq_true (by first | (with_reducible assumption) | assumption); obtain ⟨ad740, e740, hx740_0, hx740_1⟩ := at_T83 (Kd.R_reads' HO738.out).2.2 a0 p740 q740; obtain rfl : ad739 = ad740 := (by injection e740); replace p740 := eq_true p740; replace q740 := eq_true q740)))
          go_ret3
          exact ⟨by first | rfl | (simp [errW_none, errW_some] <;> rfl) | (simp [*, errW_none, errW_some] <;> rfl), by repeat (first | (with_reducible first | exact HB.out | apply below_alloc | apply pw_below_drewN | apply below_drew1) | exact HB.out)⟩
        · rw [if_neg c9] at H
          exact absurd H (by simp)
      · rw [if_neg c8] at H
        exact absurd H (by simp)
-- NOT PRINTED: function 94 (lex_Number)
-- NOT PRINTED: function 97 (parse_part)
end Go.Proofs.YtinmbcomnjmmjaaGreatDoor.X
