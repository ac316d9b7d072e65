/- Proved: a part of what the statement on the names of parse needs: walks of functions of the program, and plain laws. (Texts De.) -/
import Derived.Test.YtinmbcomnjmmjaaGreatDoorQ32
namespace Go.Proofs.YtinmbcomnjmmjaaGreatDoor
open Go.RowKit Go.Proofs.YtinmbcomnjmmjaaGreatDoorW.PrintWords Go.Proofs.YtinmbcomnjmmjaaGreatDoorW.PrintLast Go.Proofs.YtinmbcomnjmmjaaGreatDoorW.PrintMore
open X
theorem DecT.asc {s : ByteArray} (h : DecT s.data.toList) : Asc s := fun b hb => by have := h b hb; omega
theorem pre2_false {l : List UInt8} (h : DecT l) {c d : UInt8} (hd : 57 < d.toNat) : Lib.hasPrefix l [c, d] = false := by
  unfold Lib.hasPrefix
  rcases l with _ | ⟨b, _ | ⟨e, l⟩⟩
  · rfl
  · simp [List.isPrefixOf]
  · have := (h e (by simp)).2
    have hne : d ≠ e := fun k => by rw [k] at hd; omega
    simp [List.isPrefixOf, hne]
theorem no_dot {l : List UInt8} (h : DecT l) {c : UInt8} (hc : c.toNat < 48) : Lib.indexByte l c = -1 := by
  induction l with
  | nil => rfl
  | cons b l ih =>
    have hb := (h b (by simp)).1
    have hne : b ≠ c := fun e => by rw [e] at hb; omega
    unfold Lib.indexByte
    rw [if_neg (by simpa using hne), ih (fun x hx => h x (List.mem_cons_of_mem _ hx))]; rfl
set_option maxRecDepth 100000 in
theorem cutdot_in {w : World} {s : ByteArray} (h : Lib.indexByte s.data.toList 46 = -1) : Calls Tryz.prog 121 #[.string s, .string ⟨#[46]⟩] w fun e w' => e = .returned (.tuple #[.string s, .string ⟨#[]⟩, .bool false]) ∧ w' = w := by
  have HI := Aside0.mk h
  clear h
  go_enter Tryz.func121, Tryz.ntmps121
  go_wp2_with (go_at_call 146; refine (Tryz.stringslite_Index_one s 46 _).mono ?_; rintro e' w ⟨rfl, rfl⟩; rw [HI.out])
  go_ret3
  exact ⟨rfl, rfl⟩
set_option maxRecDepth 100000 in
theorem cutdot_none {w : World} {s : ByteArray} (h : Lib.indexByte s.data.toList 46 = -1) : Calls Tryz.prog 96 #[.string s, .string ⟨#[46]⟩] w fun e w' => e = .returned (.tuple #[.string s, .string ⟨#[]⟩, .bool false]) ∧ w' = w := by
  have HI := Aside0.mk h
  clear h
  go_enter Tryz.func96, Tryz.ntmps96
  go_wp2_with (go_at_call 121; refine (cutdot_in HI.out).mono ?_; rintro e' w ⟨rfl, rfl⟩)
  go_ret3
  exact ⟨rfl, rfl⟩
abbrev txO (n h : Bool) (s : ByteArray) (b : Int) (p : Option Addr) (wd : ByteArray) : Obj := .cells #[.bool n, .bool h, .string s, .int .i64 b, .pointer p, .string wd] 174
theorem asc_eE : Asc ⟨#[101, 69]⟩ := by unfold Asc; decide
theorem no_eE {s : ByteArray} (h : DecT s.data.toList) : ∀ b ∈ s.data.toList, ∀ c ∈ (⟨#[101, 69]⟩ : ByteArray).data.toList, b ≠ c := by
  intro b hb c hc e
  have h1 := (h b hb).2
  have h2 : c = 101 ∨ c = 69 := by simpa using hc
  rw [e] at h1
  rcases h2 with rfl | rfl
  · exact absurd h1 (by decide)
  · exact absurd h1 (by decide)
theorem asc_base : Asc ⟨#[48, 49, 50, 51, 52, 53, 54, 55, 56, 57]⟩ := by unfold Asc; decide
theorem in_base {s : ByteArray} (h : DecT s.data.toList) : ∀ b ∈ s.data.toList, (⟨#[48, 49, 50, 51, 52, 53, 54, 55, 56, 57]⟩ : ByteArray).data.toList.contains b = true := by
  intro b hb
  have h1 := h b hb
  have : ∀ n : Fin 256, 48 ≤ n.val ∧ n.val ≤ 57 → (⟨#[48, 49, 50, 51, 52, 53, 54, 55, 56, 57]⟩ : ByteArray).data.toList.contains (UInt8.ofNat n.val) = true := by decide +kernel
  have h2 := this ⟨b.toNat, b.toNat_lt⟩ h1
  rw [show UInt8.ofNat b.toNat = b by simp] at h2
  exact h2
set_option maxHeartbeats 4000000 in
set_option maxRecDepth 100000 in
theorem cut_digits {w : World} {s : ByteArray} (hd : DecT s.data.toList) (h1 : s.size ≠ 0) (h2 : s.size ≤ 1000000) :
    Calls Tryz.prog 141 #[.string s] w fun e w' => ∃ ge, e = .returned (.tuple #[.agg #[.bool false, .bool false, .string s, .int .i64 0, pt ge, .string ⟨#[]⟩], .bool true]) ∧ IntAt w' ge 0 ∧ Below w.heap.size w w' := by
  have HD := Aside0.mk hd
  have hse : s.toList.isEmpty = false := by
    rw [ByteArray.toList_eq]
    have := data_length s
    cases hl : s.data.toList with
    | nil => rw [hl] at this; exact absurd this.symm h1
    | cons _ _ => rfl
  have HX1 : Aside0 (Lib.hasPrefix s.data.toList (⟨#[48, 120]⟩ : ByteArray).data.toList = false) := ⟨pre2_false hd (by decide)⟩
  have HX2 : Aside0 (Lib.hasPrefix s.data.toList (⟨#[48, 88]⟩ : ByteArray).data.toList = false) := ⟨pre2_false hd (by decide)⟩
  have hp0 : 0 < s.size := by omega
  have hl0 : 0 < s.data.toList.length := by rw [data_length]; exact hp0
  have hb0 := hd (s.data.toList[0]) (List.getElem_mem hl0)
  have hbe : s[0]'hp0 = s.data.toList[0] := rfl
  rw [← hbe] at hb0
  have c43 : (((s[0]'hp0).toNat : Int) == 43) = false := beq_eq_false_iff_ne.mpr (by omega)
  have c45 : (((s[0]'hp0).toNat : Int) == 45) = false := beq_eq_false_iff_ne.mpr (by omega)
  have n43 : ¬ ((s[0]'hp0).toNat : Int) = 43 := by omega
  have hno : ∀ (x : UInt8) (l : List UInt8), 57 < x.toNat → (s.toList == x :: l) = false := by
    intro x l hx
    rw [ByteArray.toList_eq]
    cases hl : s.data.toList with
    | nil => rfl
    | cons y ys =>
      have := hd y (by rw [hl]; simp)
      have hne : y ≠ x := fun e => by rw [e] at this; omega
      simp [hne]
  have hinf := hno 105 [110, 102] (by decide)
  have hnan := hno 110 [97, 110] (by decide)
  clear hd hb0 hbe hl0 hno
  go_enter Tryz.func141, Tryz.ntmps141
  go_upto_region 13 with (go_at_call 133; refine (Tryz.strings_HasPrefix s _ _).mono ?_; rintro e' w ⟨rfl, rfl⟩; first | rw [HX1.out] | rw [HX2.out])
  have HB2 : Aside0 (Below w.heap.size w ((w.alloc (txO false false ⟨#[]⟩ 0 none ⟨#[]⟩)).alloc (txO false false ⟨#[]⟩ 0 none ⟨#[]⟩))) := ⟨below_step (alloc_below w _) (alloc_below _ _)⟩
  have hR2 : ((w.alloc (txO false false ⟨#[]⟩ 0 none ⟨#[]⟩)).alloc (txO false false ⟨#[]⟩ 0 none ⟨#[]⟩)).heap[w.heap.size]? = some (txO false false ⟨#[]⟩ 0 none ⟨#[]⟩) := blk_alloc (alloc_at w _) _
  have hT2 := alloc_at (w.alloc (txO false false ⟨#[]⟩ 0 none ⟨#[]⟩)) (txO false false ⟨#[]⟩ 0 none ⟨#[]⟩)
  rw [alloc_size] at hT2
  have HR2 := Aside0.mk hR2; have HT2 := Aside0.mk hT2
  clear hR2 hT2
  generalize (w.alloc (txO false false ⟨#[]⟩ 0 none ⟨#[]⟩)).alloc (txO false false ⟨#[]⟩ 0 none ⟨#[]⟩) = w2 at *
  go_upto_region 15 with (go_at_call 173; refine (anyAt_none HD.out.asc asc_eE (no_eE HD.out) (by omega) (by decide)).mono ?_; rintro e' w3 ⟨rfl, hb3⟩; have HB3 := Aside0.mk (below_step HB2.out hb3); have HR3 := Aside0.mk (blk_below HR2.out hb3); have hT3 := blk_below HT2.out hb3; have HT3 := Aside0.mk hT3; have hT4 := blk_alloc hT3 intO; obtain ⟨k0, k1, k2, k3, k4, k5⟩ := blk6 hT4; have hf := blk_frozen hT4; have f4 := hf 4; clear hb3 hT3 hT4 hf)
  have hsz3 : w.heap.size + 1 < w3.heap.size := blk_lt HT3.out
  generalize hw4 : World.setCell _ _ _ = w4
  have hT4 : w4.heap[w.heap.size + 1]? = some (txO false false ⟨#[]⟩ 0 (some ⟨w3.heap.size, 0, none⟩) ⟨#[]⟩) := by
    rw [← hw4]; exact blk_put (blk_alloc HT3.out intO) 4 _ rfl
  have hR4 : w4.heap[w.heap.size]? = some (txO false false ⟨#[]⟩ 0 none ⟨#[]⟩) := by
    rw [← hw4]; exact blk_far (blk_alloc HR3.out intO) (by show w.heap.size ≠ w.heap.size + 1; omega) _
  have hE4 : w4.heap[w3.heap.size]? = some intO := by
    rw [← hw4]; exact blk_far (alloc_at w3 intO) (by show w3.heap.size ≠ w.heap.size + 1; omega) _
  have hB4 : Below w.heap.size w w4 := by
    have b1 := below_step HB3.out (alloc_below w3 intO)
    rw [← hw4]; exact Turns.below b1 b1.size (Nat.le_succ _) (Turns.set _ (w.heap.size + 1) 4 _)
  have HT4 := Aside0.mk hT4; have HR4 := Aside0.mk hR4; have HE4 := Aside0.mk hE4; have HB4 := Aside0.mk hB4
  clear k0 k1 k2 k3 k4 k5 f4 hw4 hB4 hE4 hR4 HT3 HR3 HB3 HT2 HR2 HB2
  obtain ⟨k0, k1, k2, k3, k4, k5⟩ := blk6 hT4
  have hf := blk_frozen hT4
  have f2 := hf 2; have f3 := hf 3
  clear hT4 hf
  have happ : s ++ (⟨#[]⟩ : ByteArray) = s := by
    apply ByteArray.ext; simp
  go_upto_region 23 with (go_at_call 96; refine (cutdot_none (no_dot HD.out (by decide))).mono ?_; rintro e' w4 ⟨rfl, rfl⟩)
  first
    | generalize hw5 : World.setCell (World.setCell _ _ _) _ _ = w5
    | generalize hw5 : World.setCell _ _ _ = w5
  have hT5 : w5.heap[w.heap.size + 1]? = some (txO false false s 0 (some ⟨w3.heap.size, 0, none⟩) ⟨#[]⟩) := by
    rw [← hw5]
    first
      | exact blk_put (blk_put HT4.out 2 _ rfl) 3 _ rfl
      | exact blk_put HT4.out 2 _ rfl
  have ht5 : Turns (w.heap.size + 1) w4 w5 := by
    rw [← hw5]
    first
      | exact (Turns.set _ (w.heap.size + 1) 2 _).trans (Turns.set _ (w.heap.size + 1) 3 _)
      | exact Turns.set _ (w.heap.size + 1) 2 _
  have HR5 := Aside0.mk ((ht5.block (blk_lt HR4.out) (by omega)).trans HR4.out)
  have HE5 := Aside0.mk ((ht5.block (blk_lt HE4.out) (by omega)).trans HE4.out)
  have HB5 := Aside0.mk (Turns.below HB4.out HB4.out.size (Nat.le_succ _) ht5)
  clear k0 k1 k2 k3 k4 k5 f2 f3 hw5 HT4 HR4 HE4 HB4 ht5
  obtain ⟨k0, k1, k2, k3, k4, k5⟩ := blk6 hT5
  have HT5 := Aside0.mk hT5
  clear hT5
  have d0 : w5.drew.cell? ⟨w.heap.size + 1, 0, none⟩ = _ := k0
  have d1 : w5.drew.cell? ⟨w.heap.size + 1, 1, none⟩ = _ := k1
  have d2 : w5.drew.cell? ⟨w.heap.size + 1, 2, none⟩ = _ := k2
  have d3 : w5.drew.cell? ⟨w.heap.size + 1, 3, none⟩ = _ := k3
  have d4 : w5.drew.cell? ⟨w.heap.size + 1, 4, none⟩ = _ := k4
  have d5 : w5.drew.cell? ⟨w.heap.size + 1, 5, none⟩ = _ := k5
  have HTd : Aside0 (w5.drew.heap[w.heap.size + 1]? = _) := ⟨HT5.out⟩
  have HRd : Aside0 (w5.drew.heap[w.heap.size]? = _) := ⟨HR5.out⟩
  have HEd : Aside0 (w5.drew.heap[w3.heap.size]? = _) := ⟨HE5.out⟩
  have HBd := Aside0.mk HB5.out.drew
  clear k0 k1 k2 k3 k4 k5 HT5 HR5 HE5 HB5
  generalize hwd : w5.drew = wd at *
  go_region_with (first
      | (go_at_call 176; refine (cutLeft_all HD.out.asc asc_base (in_base HD.out) (by omega) (by decide)).mono ?_; rintro e' w6 ⟨rfl, hb6⟩; have hT6 := blk_below HTd.out hb6; obtain ⟨k0, k1, k2, k3, k4, k5⟩ := blk6 hT6; have HR6 := Aside0.mk (blk_below HRd.out hb6); have HE6 := Aside0.mk (blk_below HEd.out hb6); have HB6 := Aside0.mk (below_step HBd.out hb6); obtain ⟨r0, r1, r2, r3, r4, r5⟩ := blk6 HR6.out; have hfr := blk_frozen HR6.out; have g0 := hfr 0; have g1 := hfr 1; have g2 := hfr 2; have g3 := hfr 3; have g4 := hfr 4; have g5 := hfr 5; clear hb6 hT6 hfr)
      | (go_at_call 175; refine (cutRight_nil _ _).mono ?_; rintro e' w6 ⟨rfl, rfl⟩))
  all_goals
    go_wp2
    refine bodyPost_ret (results_ct rfl _ _ w.heap.size 174 #[.bool false, .bool false, .string s, .int .i64 0, .pointer (some ⟨w3.heap.size, 0, none⟩), .string ⟨#[]⟩] (0, 0) _ rfl ?hh Tryz.underlying174 rfl (by kernel_rfl)) rfl ?_
    case hh =>
      first
        | exact blk_put (blk_put (blk_put (blk_put (blk_put (blk_put HR6.out 0 _ rfl) 1 _ rfl) 2 _ rfl) 3 _ rfl) 4 _ rfl) 5 _ rfl
        | fail "HH"
    refine ⟨w3.heap.size, rfl, ?_, ?_⟩
    · refine ⟨_, ?_, NatAt.nil _⟩
      first
        | exact blk_far (blk_far (blk_far (blk_far (blk_far (blk_far HE6.out (by show w3.heap.size ≠ w.heap.size; omega) _) (by show w3.heap.size ≠ w.heap.size; omega) _) (by show w3.heap.size ≠ w.heap.size; omega) _) (by show w3.heap.size ≠ w.heap.size; omega) _) (by show w3.heap.size ≠ w.heap.size; omega) _) (by show w3.heap.size ≠ w.heap.size; omega) _
        | fail "II"
    · first
        | exact Turns.below HB6.out HB6.out.size (Nat.le_refl _) ((((((Turns.set _ w.heap.size 0 _).trans (Turns.set _ w.heap.size 1 _)).trans (Turns.set _ w.heap.size 2 _)).trans (Turns.set _ w.heap.size 3 _)).trans (Turns.set _ w.heap.size 4 _)).trans (Turns.set _ w.heap.size 5 _))
        | fail "BB"
end Go.Proofs.YtinmbcomnjmmjaaGreatDoor
