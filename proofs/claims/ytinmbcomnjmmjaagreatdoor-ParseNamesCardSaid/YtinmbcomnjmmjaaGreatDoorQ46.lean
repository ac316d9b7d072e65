/- Proved: a part of what the statement on the names of parse needs: walks of functions of the program, and plain laws. (Texts Gb, Hh.) -/
import Derived.Test.YtinmbcomnjmmjaaGreatDoorQ37
import Derived.Test.YtinmbcomnjmmjaaGreatDoorQ36
import Derived.Test.YtinmbcomnjmmjaaGreatDoorQ45
namespace Go.Proofs.YtinmbcomnjmmjaaGreatDoor
open Go.RowKit Go.Proofs.YtinmbcomnjmmjaaGreatDoorW.PrintWords Go.Proofs.YtinmbcomnjmmjaaGreatDoorW.PrintLast Go.Proofs.YtinmbcomnjmmjaaGreatDoorW.PrintMore
open X
def refN (f : Int) : ByteArray × Int × Bool :=
  if f = 1 then (⟨#[45]⟩, 1, true) else if 2 ≤ f ∧ f ≤ 23 then (ofL (name6 f.toNat), 1, true) else if 24 ≤ f ∧ f ≤ 28 then (ofL ((signs5.drop (f - 24).toNat).take 1), 2, true) else (⟨#[]⟩, 0, false)
theorem name_refN (f : Int) : X.parse_Name.f f = some (refN f) := by
  unfold refN
  by_cases h1 : f = 1
  · rw [if_pos h1, h1]; exact one_f
  · rw [if_neg h1]
    by_cases h2 : 2 ≤ f ∧ f ≤ 23
    · rw [if_pos h2]
      have := name6_f ⟨(f - 2).toNat, by omega⟩
      simp only at this
      rw [show (((f - 2).toNat : Int) + 2) = f from by omega, show (f - 2).toNat + 2 = f.toNat from by omega] at this
      exact this
    · rw [if_neg h2]
      by_cases h3 : 24 ≤ f ∧ f ≤ 28
      · rw [if_pos h3]
        have := signs_f ⟨(f - 24).toNat, by omega⟩
        simp only at this
        rw [show (((f - 24).toNat : Int) + 24) = f from by omega] at this
        exact this
      · rw [if_neg h3]
        exact none_f f (by omega)
theorem trimR_snoc (l : List UInt8) (c : UInt8) : trimR (l ++ [c]) = if c = 32 then trimR l else l ++ [c] := by
  unfold trimR
  rw [List.reverse_append]
  show (List.dropWhile _ (c :: l.reverse)).reverse = _
  rw [List.dropWhile_cons]
  by_cases h : c = 32
  · rw [if_pos h, if_pos (by simp [h])]
  · rw [if_neg h, if_neg (by simp [h])]
    simp
theorem extract_ofL2 (l : List UInt8) (i j : Nat) : (ofL l).extract i j = ofL ((l.drop i).take (j - i)) := by
  apply ByteArray.ext
  apply Array.toList_inj.1
  simp [ofL, ByteArray.data_extract, List.extract_eq_take_drop]
theorem piece6 (n : Fin 22) : ∃ c l, (names6.drop (n.val * 6)).take 6 = c :: l ∧ c ≠ 32 := by
  have h : ∀ n : Fin 22, ((names6.drop (n.val * 6)).take 6).head? ≠ some 32 ∧ ((names6.drop (n.val * 6)).take 6).length = 6 := by decide +kernel
  obtain ⟨h1, h2⟩ := h n
  rcases hl : (names6.drop (n.val * 6)).take 6 with _ | ⟨c, l⟩
  · rw [hl] at h2; cases h2
  · rw [hl] at h1; exact ⟨c, l, rfl, fun e => h1 (by rw [e]; rfl)⟩
def vlen : Value → Nat
  | .string s => s.size
  | _ => 0
set_option maxHeartbeats 2000000 in
set_option maxRecDepth 100000 in
/-- cuspref25.Name. -/
theorem refname_calls (f : Int) (w : World) :
    Calls Tryz.prog 13 #[.int .i64 f] w fun e w' => e = .returned (.tuple #[.string (refN f).1, .int .i64 (refN f).2.1, .bool (refN f).2.2]) ∧ Below w.heap.size w w' := by
  by_cases h1 : f = 1
  · subst h1
    go_enter Tryz.func13, Tryz.ntmps13
    go_wp2_with fail
    go_ret3
    exact ⟨rfl, Below.refl _ _⟩
  · have h1b : (f == 1) = false := beq_eq_false_iff_ne.mpr h1
    by_cases h2 : 2 ≤ f ∧ f ≤ 23
    · obtain ⟨c0, l0, hpc, hc0⟩ := piece6 ⟨(f - 2).toNat, by omega⟩
      have HPC := Aside0.mk hpc; have HC0 := Aside0.mk hc0
      clear hpc hc0
      have h21 : decide (2 ≤ f) = true := decide_eq_true h2.1
      have h22 : decide (f ≤ 23) = true := decide_eq_true h2.2
      have hb1 := h2.1
      have hb2 := h2.2
      have HX : Aside0 ((⟨names6.toArray⟩ : ByteArray).extract ((f - 2) * 6).toNat ((f - 1) * 6).toNat = ofL ((names6.drop ((f.toNat - 2) * 6)).take 6)) := ⟨by
        have e := extract_ofL2 names6 ((f - 2) * 6).toNat ((f - 1) * 6).toNat
        rw [show ((f - 2) * 6).toNat = (f.toNat - 2) * 6 from by omega, show ((f - 1) * 6).toNat - (f.toNat - 2) * 6 = 6 from by omega] at e
        rw [show ((f - 2) * 6).toNat = (f.toNat - 2) * 6 from by omega]
        exact e⟩
      have HPC2 : Aside0 ((names6.drop ((f.toNat - 2) * 6)).take 6 = c0 :: l0) := ⟨by rw [← HPC.out]; congr 2; simp only; omega⟩
      have HRF : Aside0 (refN f = (ofL (name6 f.toNat), 1, true)) := ⟨by unfold refN; rw [if_neg h1, if_pos h2]⟩
      go_enter Tryz.func13, Tryz.ntmps13
      go_wp2_with fail
      go_loopw [5] (fun v wr => ∃ (l : List UInt8), v = .string (ofL l) ∧ Aside0 (trimR l = name6 f.toNat) ∧ Aside0 (∃ c r, l = c :: r ∧ c ≠ 32) ∧ l.length ≤ 6 ∧ wr = w) (fun v _ => vlen v)
      case atStart => exact ⟨(names6.drop ((f.toNat - 2) * 6)).take 6, by rw [← HX.out]; rfl, ⟨rfl⟩, ⟨c0, l0, HPC2.out, HC0.out⟩, by rw [List.length_take]; omega, rfl⟩
      case round =>
        obtain ⟨l, rfl, HT, HH, hl6, rfl⟩ := hrel
        rcases List.eq_nil_or_concat l with rfl | ⟨l', c, rfl⟩
        · obtain ⟨_, _, e, _⟩ := HH.out; cases e
        · rw [List.concat_eq_append] at *
          have hsz : (ofL (l' ++ [c])).size = l'.length + 1 := by rw [ofL_size]; simp
          have hb : ∀ hh : l'.length < l'.length + 1, ∀ h2 : l'.length < (ofL (l' ++ [c])).size, (ofL (l' ++ [c]))[l'.length]'h2 = c := fun _ h2 => by rw [byte_at h2, ofL_list]; simp
          have hx := extract_ofL0 (l' ++ [c]) l'.length
          rw [List.take_append_of_le_length (Nat.le_refl _), List.take_length] at hx
          have hl5 : l'.length ≤ 6 := by simp at hl6; omega
          by_cases hc : c = 32
          · have hxc : ((c.toNat : Int) == 32) = true := by rw [hc]; rfl
            have HT2 : Aside0 (trimR l' = name6 f.toNat) := ⟨by have := HT.out; rw [trimR_snoc, if_pos hc] at this; exact this⟩
            have HH2 : Aside0 (∃ c r, l' = c :: r ∧ c ≠ 32) := ⟨by
              obtain ⟨d, r, e, hd⟩ := HH.out
              rcases l' with _ | ⟨d', r'⟩
              · simp at e; exact absurd (e.1.symm.trans hc) hd
              · exact ⟨d', r', rfl, by simp at e; rw [e.1]; exact hd⟩⟩
            clear hc HT HH hl6
            go_wp2_with fail
            go_roundw
            case rel => exact ⟨l', rfl, HT2, HH2, hl5, trivial⟩
            case measure => simp only [vlen]; rw [hsz, ofL_size]; omega
          · have hxc : ((c.toNat : Int) == 32) = false := beq_eq_false_iff_ne.2 (fun e => hc (UInt8.toNat_inj.1 (by show c.toNat = 32; omega)))
            have HE : Aside0 (ofL (l' ++ [c]) = ofL (name6 f.toNat)) := ⟨by have := HT.out; rw [trimR_snoc, if_neg hc] at this; rw [this]⟩
            clear hc HT HH hl6
            go_wp2_with fail
            go_ret3
            exact ⟨by rw [HRF.out, ← HE.out]; rfl, Below.refl _ _⟩
    · have h2b : decide (2 ≤ f) = true → decide (f ≤ 23) = false := fun e => decide_eq_false (by have := of_decide_eq_true e; omega)
      by_cases h3 : 24 ≤ f ∧ f ≤ 28
      · have g1 : decide (2 ≤ f) = true := decide_eq_true (by omega)
        have g2 : decide (f ≤ 23) = false := decide_eq_false (by omega)
        have g3 : decide (24 ≤ f) = true := decide_eq_true h3.1
        have g4 : decide (f ≤ 28) = true := decide_eq_true h3.2
        have q1 := h3.1
        have q2 := h3.2
        have HRF : Aside0 (refN f = (ofL ((signs5.drop (f - 24).toNat).take 1), 2, true)) := ⟨by unfold refN; rw [if_neg h1, if_neg h2, if_pos h3]⟩
        have HX : Aside0 ((⟨signs5.toArray⟩ : ByteArray).extract (f - 24).toNat (f - 24 + 1).toNat = ofL ((signs5.drop (f - 24).toNat).take 1)) := ⟨by
          have e := extract_ofL2 signs5 (f - 24).toNat (f - 24 + 1).toNat
          rw [show (f - 24 + 1).toNat - (f - 24).toNat = 1 from by omega] at e
          exact e⟩
        clear h2b h2 h3
        go_enter Tryz.func13, Tryz.ntmps13
        go_wp2_with fail
        go_ret3
        exact ⟨by rw [HRF.out, ← HX.out]; rfl, Below.refl _ _⟩
      · have HRF : Aside0 (refN f = (⟨#[]⟩, 0, false)) := ⟨by unfold refN; rw [if_neg h1, if_neg h2, if_neg h3]⟩
        rcases Int.lt_or_le f 2 with q | q
        · have g1 : decide (2 ≤ f) = false := decide_eq_false (by omega)
          have g2 : decide (24 ≤ f) = false := decide_eq_false (by omega)
          clear h2b h2 h3
          go_enter Tryz.func13, Tryz.ntmps13
          go_wp2_with fail
          go_ret3
          exact ⟨by rw [HRF.out]; rfl, Below.refl _ _⟩
        · have g1 : decide (2 ≤ f) = true := decide_eq_true (by omega)
          have g2 : decide (f ≤ 23) = false := decide_eq_false (by omega)
          have g3 : decide (24 ≤ f) = true := decide_eq_true (by omega)
          have g4 : decide (f ≤ 28) = false := decide_eq_false (by omega)
          clear h2b h2 h3
          go_enter Tryz.func13, Tryz.ntmps13
          go_wp2_with fail
          go_ret3
          exact ⟨by rw [HRF.out]; rfl, Below.refl _ _⟩
theorem ofL_toList (l : List UInt8) : (ofL l).toList = l := by rw [ByteArray.toList_eq, ofL_list]
set_option maxHeartbeats 2000000 in
set_option maxRecDepth 100000 in
/-- cuspref25.Find. -/
theorem reffind_calls (s : ByteArray) (w : World) :
    Calls Tryz.prog 15 #[.string s] w fun e w' => e = .returned (.tuple #[.int .i64 (findF s.toList 22 2).1, .int .i64 (findF s.toList 22 2).2.1, .bool (findF s.toList 22 2).2.2]) ∧ Below w.heap.size w w' := by
  obtain ⟨r1, r2, r3, hr⟩ : ∃ r1 r2 r3, findF s.toList 22 2 = (r1, r2, r3) := ⟨_, _, _, rfl⟩
  rw [hr]
  have HR := Aside0.mk hr
  clear hr
  go_enter Tryz.func15, Tryz.ntmps15
  go_wp2_with fail
  go_loopw [5] (fun v wr => ∃ (j n : Nat), v = .int .i64 (n : Nat) ∧ n + j = 24 ∧ 2 ≤ n ∧ Aside0 (findF s.toList j n = (r1, r2, r3)) ∧ Aside0 (Below w.heap.size w wr)) (fun v _ => 24 - (intOf v).toNat)
  case atStart => exact ⟨22, 2, rfl, rfl, by omega, HR, ⟨Below.refl _ _⟩⟩
  case round =>
    obtain ⟨j, n, rfl, hj, hn, HF, HB⟩ := hrel
    rcases j with _ | j
    · have h := HF.out
      unfold findF at h
      simp only [Prod.mk.injEq] at h
      obtain ⟨rfl, rfl, rfl⟩ := h
      obtain rfl : n = 24 := by omega
      go_wp2_with fail
      go_ret3
      exact ⟨rfl, HB.out⟩
    · have h := HF.out
      unfold findF at h
      have hx0 : decide ((n : Int) ≤ 23) = true := decide_eq_true (by omega)
      have HRN : Aside0 (refN (n : Int) = (ofL (name6 n), 1, true)) := ⟨by unfold refN; rw [if_neg (by omega), if_pos (by omega)]; rfl⟩
      have htl := ofL_toList (name6 n)
      by_cases he : name6 n = s.toList
      · rw [if_pos he] at h
        simp only [Prod.mk.injEq] at h
        obtain ⟨rfl, rfl, rfl⟩ := h
        have hx1 : ((ofL (name6 n)).toList == s.toList) = true := by rw [htl, he]; exact beq_self_eq_true _
        clear he htl HF
        go_wp2_with (go_at_call 13; (with_reducible refine (refname_calls (n : Int) _).mono ?_); rintro e w1 ⟨rfl, hb1⟩; rw [HRN.out]; have HB1 := Aside0.mk (below_step HB.out hb1); clear hb1)
        go_ret3
        exact ⟨rfl, HB1.out⟩
      · rw [if_neg he] at h
        have HF2 := Aside0.mk h
        have hx1 : ((ofL (name6 n)).toList == s.toList) = false := by rw [htl]; exact beq_eq_false_iff_ne.2 he
        clear he htl HF h
        go_wp2_with (go_at_call 13; (with_reducible refine (refname_calls (n : Int) _).mono ?_); rintro e w1 ⟨rfl, hb1⟩; rw [HRN.out]; have HB1 := Aside0.mk (below_step HB.out hb1); clear hb1)
        go_roundw
        case rel => exact ⟨j, n + 1, by go_num, by omega, by omega, HF2, HB1⟩
        case measure => simp [intOf]; omega
end Go.Proofs.YtinmbcomnjmmjaaGreatDoor
namespace Go.Proofs.YtinmbcomnjmmjaaGreatDoor
open Go.RowKit Go.Proofs.YtinmbcomnjmmjaaGreatDoorW.PrintWords Go.Proofs.YtinmbcomnjmmjaaGreatDoorW.PrintLast Go.Proofs.YtinmbcomnjmmjaaGreatDoorW.PrintMore
open X
set_option maxHeartbeats 4000000 in
set_option maxRecDepth 100000 in
/-- cusplaw25.ParseNames. -/
theorem names_calls (f : Int) (s : ByteArray) {w : World} (hT : Tab32 w) : Calls Tryz.prog 4 #[.int .i64 f, .string s] w fun e w' => e = .returned (.bool true) ∧ Below w.heap.size w w' := by
  obtain ⟨a1, a2, a3, ha⟩ : ∃ a1 a2 a3, refN f = (a1, a2, a3) := ⟨_, _, _, rfl⟩
  obtain ⟨r1, r2, r3, hr⟩ : ∃ r1 r2 r3, findF s.toList 22 2 = (r1, r2, r3) := ⟨_, _, _, rfl⟩
  have H1 : Aside0 (X.parse_Name.f f = some (a1, a2, a3)) := ⟨by rw [name_refN, ha]⟩
  have H2 : Aside0 (X.parse_Find.f 40 s = some (r1, r2, r3)) := ⟨by rw [find_all, hr]⟩
  have H3 : Aside0 (∀ w', Calls Tryz.prog 13 #[.int .i64 f] w' fun e w'' => e = .returned (.tuple #[.string a1, .int .i64 a2, .bool a3]) ∧ Below w'.heap.size w' w'') := ⟨fun w' => by have := refname_calls f w'; rw [ha] at this; exact this⟩
  have H4 : Aside0 (∀ w', Calls Tryz.prog 15 #[.string s] w' fun e w'' => e = .returned (.tuple #[.int .i64 r1, .int .i64 r2, .bool r3]) ∧ Below w'.heap.size w' w'') := ⟨fun w' => by have := reffind_calls s w'; rw [hr] at this; exact this⟩
  have HT := Aside0.mk hT
  clear hT ha hr
  go_enter Tryz.func4, Tryz.ntmps4
  go_wp2_with (first
    | (go_at_call 12; (with_reducible refine (X.parse_Name.calls f a1 a2 a3 _ H1.out).mono ?_); rintro e w1 ⟨rfl, hb⟩; have HT1 := Aside0.mk (HT.out.below hb); have HB1 := Aside0.mk hb; clear hb)
    | (go_at_call 13; (with_reducible refine (H3.out _).mono ?_); rintro e w2 ⟨rfl, hb⟩; have HT2 := Aside0.mk (HT1.out.below hb); have HB2 := Aside0.mk (below_step HB1.out hb); clear hb)
    | (go_at_call 14; (with_reducible refine (X.parse_Find.calls 40 s r1 r2 r3 _ H2.out).mono ?_); rintro e w3 ⟨rfl, hb⟩; have HT3 := Aside0.mk (HT2.out.below hb); have HB3 := Aside0.mk (below_step HB2.out hb); clear hb)
    | (go_at_call 15; (with_reducible refine (H4.out _).mono ?_); rintro e w4 ⟨rfl, hb⟩; have HT4 := Aside0.mk (HT3.out.below hb); have HB4 := Aside0.mk (below_step HB3.out hb); clear hb)
    | (go_at_call 11; (with_reducible refine (sure_calls HT4.out).mono ?_); rintro e w5 ⟨rfl, hb⟩; have HB5 := Aside0.mk (below_step HB4.out hb); clear hb))
  go_ret
  exact ⟨rfl, HB5.out⟩
end Go.Proofs.YtinmbcomnjmmjaaGreatDoor
