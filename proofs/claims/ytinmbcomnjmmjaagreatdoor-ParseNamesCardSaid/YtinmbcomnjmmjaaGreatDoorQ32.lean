/- Proved: a part of what the statement on the names of parse needs: walks of functions of the program, and plain laws. (Texts Db, Dc, Dd.) -/
import Derived.Test.YtinmbcomnjmmjaaGreatDoorQ31
import Derived.Laws.RangeAny
namespace Go.Proofs.YtinmbcomnjmmjaaGreatDoor
open Go.RowKit Go.Proofs.YtinmbcomnjmmjaaGreatDoorW.PrintWords Go.Proofs.YtinmbcomnjmmjaaGreatDoorW.PrintLast Go.Proofs.YtinmbcomnjmmjaaGreatDoorW.PrintMore
open X
theorem blk6 {w : World} {g : Nat} {a b c d e f : Value} {t : TypeId} {fr : Nat × Nat} (h : w.heap[g]? = some (.cells #[a, b, c, d, e, f] t fr)) : w.cell? ⟨g, 0, none⟩ = some a ∧ w.cell? ⟨g, 1, none⟩ = some b ∧ w.cell? ⟨g, 2, none⟩ = some c ∧ w.cell? ⟨g, 3, none⟩ = some d ∧ w.cell? ⟨g, 4, none⟩ = some e ∧ w.cell? ⟨g, 5, none⟩ = some f := by
  unfold World.cell?
  simp only [h]
  exact ⟨rfl, rfl, rfl, rfl, rfl, rfl⟩
/-- A box at the old end, and a number of the call's own. -/
structure VI (w w' : World) (o : Obj) (g : Nat) (z : Int) : Prop where
  bl : Below w.heap.size w w'
  bx : w'.heap[w.heap.size]? = some o
  n : IntAt w' g z
theorem VI.step {w w' w'' : World} {o : Obj} {g : Nat} {z : Int} (h : VI w w' o g z) (hb : Below w'.heap.size w' w'') : VI w w'' o g z :=
  ⟨below_step h.bl hb, blk_below h.bx hb, h.n.below hb⟩
theorem VI.turn {w w' w'' : World} {o : Obj} {g g' : Nat} {z : Int} (h : VI w w' o g z) (ht : Turns g' w' w'') (hi : IntBlk w' g') (h1 : w.heap.size < g') (h2 : g ≠ g') : VI w w'' o g z :=
  ⟨Turns.below h.bl h.bl.size (Nat.le_of_lt h1) ht, (ht.block (blk_lt h.bx) (Nat.ne_of_lt h1)).trans h.bx, h.n.turns h2 hi ht⟩
theorem VI.self {w w' w'' : World} {o : Obj} {g : Nat} {z z' : Int} (h : VI w w' o g z) (ht : Turns g w' w'') (hn : IntAt w'' g z') (h1 : w.heap.size < g) : VI w w'' o g z' :=
  ⟨Turns.below h.bl h.bl.size (Nat.le_of_lt h1) ht, (ht.block (blk_lt h.bx) (Nat.ne_of_lt h1)).trans h.bx, hn⟩
def decK (E : Int) (behind : Nat) : Int := if 10000 < (E - behind).natAbs then (E - behind).sign * 10000 else E - behind
/-- A decimal's float. -/
def decF (neg : Bool) (n : Nat) (E : Int) (behind : Nat) (mode : Int) : Nat :=
  if n = 0 then (if neg then csB 0 13830554455654793216 else 0)
  else if 0 ≤ decK E behind then decRatio (signed neg n * ((10 ^ (decK E behind).natAbs : Nat) : Int)) 1 0 mode
  else decRatio (signed neg n) ((10 ^ (decK E behind).natAbs : Nat) : Int) 0 mode
theorem fits_sub {E : Int} {b : Nat} (fe : (digs E.natAbs).length ≤ 900000000) (hb : b ≤ 1100) : Fits (E - b).natAbs := by
  unfold Fits
  refine Nat.le_trans (digs_length_le (k := (digs E.natAbs).length + 1) ?_) (by omega)
  have h := val_lt (digs_digs E.natAbs)
  rw [val_digs] at h
  rw [Nat.pow_succ]
  generalize 4294967296 ^ (digs E.natAbs).length = p at *
  omega
theorem len_pow10 {x k : Nat} (h : x < 10 ^ k) : (digs x).length ≤ k :=
  digs_length_le (Nat.lt_of_lt_of_le h (Nat.pow_le_pow_left (by decide) k))
theorem decK_le (E : Int) (behind : Nat) : (decK E behind).natAbs ≤ 10000 := by
  unfold decK
  split
  · rw [Int.natAbs_mul]
    have : (E - behind).sign.natAbs ≤ 1 := by
      rcases Int.lt_trichotomy (E - behind) 0 with h | h | h
      · rw [Int.sign_eq_neg_one_of_neg h]; decide
      · rw [h]; decide
      · rw [Int.sign_eq_one_of_pos h]; decide
    have h2 := Nat.mul_le_mul_right 10000 this
    simpa using h2
  · omega
set_option maxHeartbeats 4000000 in
set_option maxRecDepth 100000 in
/-- (text).value. -/
theorem dvalue_calls {w : World} {neg : Bool} {ds wd : ByteArray} {behind ge : Nat} {E mode : Int} (hd : DecT ds.data.toList) (h1 : ds.size ≠ 0) (h2 : ds.size ≤ 1100) (hb : behind ≤ 1100) (he : IntAt w ge E) (fe : (digs E.natAbs).length ≤ 900000000) (hT : Tab32 w) :
    Calls Tryz.prog 144 #[.agg #[.bool neg, .bool false, .string ds, .int .i64 behind, pt ge, .string wd], .int .i64 mode] w fun e' w' => e' = .returned (.float .f64 (decF neg (decV ds.data.toList) E behind mode)) ∧ Below w.heap.size w w' := by
  have HB1 := Aside0.mk (alloc_below w (.cells #[.bool neg, .bool false, .string ds, .int .i64 behind, pt ge, .string wd] 174))
  have HX1 := Aside0.mk (alloc_at w (.cells #[.bool neg, .bool false, .string ds, .int .i64 behind, pt ge, .string wd] 174))
  have HI2 : Aside0 (IntBlk ((w.alloc (.cells #[.bool neg, .bool false, .string ds, .int .i64 behind, pt ge, .string wd] 174)).alloc intO) (w.heap.size + 1)) := ⟨by
    have := (IntAt.new (w.alloc (.cells #[.bool neg, .bool false, .string ds, .int .i64 behind, pt ge, .string wd] 174))).blk
    rw [alloc_size] at this; exact this⟩
  have HB2 := Aside0.mk (below_step HB1.out (alloc_below _ intO))
  have HX2 := Aside0.mk (blk_alloc HX1.out intO)
  have HE := Aside0.mk he; have HT := Aside0.mk hT; have HD := Aside0.mk hd
  obtain ⟨n, hn⟩ : ∃ n, decV ds.data.toList = n := ⟨_, rfl⟩
  rw [hn]
  obtain ⟨D, hD⟩ : ∃ D : Nat, D = 1100 := ⟨_, rfl⟩
  have hn10 : n < 10 ^ D := by
    rw [← hn]
    refine Nat.lt_of_lt_of_le (decV_lt hd) (Nat.pow_le_pow_right (by decide) ?_)
    rw [data_length]; omega
  have FN := Aside0.mk (fits_pow10 hn10 (by omega))
  have HNN := Aside0.mk hn
  have HN10 := Aside0.mk hn10
  have FE1 := Aside0.mk (fits_sub fe hb)
  clear he hT hd hn hn10
  go_enter Tryz.func144, Tryz.ntmps144
  go_upto_region 5 with (go_at_call 178; refine (setstring_calls HI2.out ds HD.out (by omega) h1).mono ?_; rintro e' w3 ⟨rfl, hi3, ht3⟩; rw [HNN.out] at hi3; have hv3 : VI w w3 (.cells #[.bool neg, .bool false, .string ds, .int .i64 behind, pt ge, .string wd] 174) (w.heap.size + 1) (n : Int) := ⟨Turns.below HB2.out HB2.out.size (by omega) ht3, (ht3.block (blk_lt HX2.out) (by omega)).trans HX2.out, hi3⟩; have HV3 := Aside0.mk hv3; obtain ⟨k0, k1, k2, k3, k4, k5⟩ := blk6 hv3.bx; clear hi3 ht3 hv3)
  by_cases hn0 : n = 0
  · have hsg : ((n : Int).sign == 0) = true := by rw [hn0]; rfl
    have HR : Aside0 (decF neg n E behind mode = if neg then csB 0 13830554455654793216 else 0) := ⟨by unfold decF; rw [if_pos hn0]⟩
    clear hn0
    cases neg
    all_goals
      go_wp2_with (first
        | (go_at_call 179; refine (sign_calls HV3.out.n).mono ?_; rintro e' w3 ⟨rfl, rfl⟩)
        | (go_at_call 143; refine (signed_calls _ _ _).mono ?_; rintro e' w3 ⟨rfl, rfl⟩))
      go_ret
      exact ⟨by rw [HR.out]; rfl, HV3.out.bl⟩
  have hsg : ((n : Int).sign == 0) = false := by rw [Int.sign_eq_one_of_pos (by omega)]; rfl
  have HR : Aside0 (decF neg n E behind mode = if 0 ≤ decK E behind then decRatio (signed neg n * ((10 ^ (decK E behind).natAbs : Nat) : Int)) 1 0 mode
    else decRatio (signed neg n) ((10 ^ (decK E behind).natAbs : Nat) : Int) 0 mode) := ⟨by unfold decF; rw [if_neg hn0]⟩
  have HIE := Aside0.mk (IntAt.new w3).blk
  have HEA := Aside0.mk ((HE.out.below HV3.out.bl).below (alloc_below w3 intO))
  have HVA := Aside0.mk (HV3.out.step (alloc_below w3 intO))
  have hge := HE.out.lt
  have hw3 := blk_lt HV3.out.bx
  clear HE hn0 HI2 HX1 HX2 HB1 HB2
  go_upto_region 11 with (first
    | (go_at_call 179; refine (sign_calls HV3.out.n).mono ?_; rintro e' w3 ⟨rfl, rfl⟩)
    | (go_at_call 180; refine (set_calls HIE.out HEA.out).mono ?_; rintro e' w4 ⟨rfl, hi4, ht4⟩; have hv4 := HVA.out.turn ht4 HIE.out hw3 (by have := HV3.out.n.lt; omega); have HV4 := Aside0.mk hv4; have HE4 := Aside0.mk hi4; obtain ⟨k0, k1, k2, k3, k4, k5⟩ := blk6 hv4.bx; clear hi4 ht4 hv4)
    | (go_at_call 182; refine (newint_calls _ (behind : Int) (by omega) (by omega)).mono ?_; rintro e' w5 ⟨gb, rfl, hgb, hi5, hb5⟩; have HI5 := Aside0.mk hi5; have HV5 := Aside0.mk (HV4.out.step hb5); have HE5 := Aside0.mk (HE4.out.below hb5); clear hi5 hb5)
    | (go_at_call 181; refine (isub_calls HE5.out.blk HE5.out HI5.out (Nat.le_trans fe (by decide)) (by rw [Int.natAbs_natCast]; exact fits_bits (k := 11) (by omega) (by decide))).mono ?_; rintro e' w6 ⟨rfl, hi6, ht6⟩; have hv6 := HV5.out.turn ht6 HE5.out.blk hw3 (by have := HV3.out.n.lt; omega); have HV6 := Aside0.mk hv6; have HE6 := Aside0.mk hi6; clear hi6 ht6 hv6))
  obtain ⟨K, hK⟩ : ∃ K, decK E behind = K := ⟨_, rfl⟩
  rw [hK] at HR
  have hKle := decK_le E behind
  rw [hK] at hKle
  have hne : w.heap.size + 1 ≠ w3.heap.size := by have := HV3.out.n.lt; omega
  obtain ⟨Kn, hKn⟩ : ∃ Kn, K.natAbs = Kn := ⟨_, rfl⟩
  have hmx : max K (-K) = (Kn : Int) := by omega
  have hKn1 : Kn ≤ 10000 := by omega
  have hp10 : 10 ^ Kn < 10 ^ (Kn + 1) := Nat.pow_lt_pow_right (by decide) (by omega)
  have FP := Aside0.mk (fits_pow10 hp10 (by omega))
  have LP : Aside0 ((digs (10 ^ Kn)).length ≤ 200000000) := ⟨Nat.le_trans (len_pow10 hp10) (by omega)⟩
  have LN : Aside0 ((digs n).length ≤ 200000000) := ⟨Nat.le_trans (len_pow10 HN10.out) (by omega)⟩
  have LNP : Aside0 ((digs (n * 10 ^ Kn)).length ≤ 200000000) := ⟨by
    refine Nat.le_trans (len_pow10 (k := D + Kn) ?_) (by omega)
    rw [Nat.pow_add]
    exact Nat.mul_lt_mul_of_pos_right HN10.out (Nat.pow_pos (by decide))⟩
  clear hp10
  by_cases hfar : 10000 < (E - behind).natAbs
  · have HCM : Aside0 (cmpN (E - behind).natAbs (10000 : Int).natAbs = 1) := ⟨by
      unfold cmpN; rw [if_neg (by show ¬ _ < 10000; omega), if_neg (by show ¬ _ = 10000; omega)]⟩
    have hKe : (E - behind).sign * 10000 = K := by rw [← hK]; unfold decK; rw [if_pos hfar]
    have HKE := Aside0.mk hKe
    have hs1 : (E - (behind : Int)).sign ≤ 1 ∧ -1 ≤ (E - (behind : Int)).sign := by
      rcases Int.lt_trichotomy (E - (behind : Int)) 0 with h | h | h
      · rw [Int.sign_eq_neg_one_of_neg h]; decide
      · rw [h]; decide
      · rw [Int.sign_eq_one_of_pos h]; decide
    have HS1 := Aside0.mk hs1
    clear hfar hK hKe hs1
    go_upto_region 13 with (first
      | (go_at_call 182; refine (newint_calls _ 10000 (by decide) (by decide)).mono ?_; rintro e' w7 ⟨g7, rfl, hg7, hi7, hb7⟩; have HI7 := Aside0.mk hi7; have HV7 := Aside0.mk (HV6.out.step hb7); have HE7 := Aside0.mk (HE6.out.below hb7); clear hi7 hb7)
      | (go_at_call 183; refine (cmpabs_calls HE7.out HI7.out FE1.out).mono ?_; rintro e' w8 ⟨rfl, hb8⟩; rw [HCM.out]; have HV8 := Aside0.mk (HV7.out.step hb8); have HE8 := Aside0.mk (HE7.out.below hb8); clear hb8)
      | (go_at_call 179; refine (sign_calls HE8.out).mono ?_; rintro e' w8 ⟨rfl, rfl⟩; obtain ⟨q0, q1⟩ := HS1.out; have HKE' := HKE.out; generalize (E - (behind : Int)).sign = sg at q0 q1 HKE' ⊢; have HKF := Aside0.mk HKE'; clear HKE')
      | (go_at_call 184; refine (setint_calls HE8.out.blk _ (by omega) (by omega)).mono ?_; rintro e' w9 ⟨rfl, hi9, ht9⟩; rw [HKF.out] at hi9; have hv9 := HV8.out.turn ht9 HE8.out.blk hw3 hne; have HV9 := Aside0.mk hv9; have HE9 := Aside0.mk hi9; clear hi9 ht9 hv9))
    go_upto_region 14 with (go_at_call 185; refine (int64_calls HE9.out (fits_bits (k := 14) (by omega) (by decide)) (by omega)).mono ?_; rintro e' w9 ⟨rfl, rfl⟩)
    obtain ⟨k0, k1, k2, k3, k4, k5⟩ := blk6 HV9.out.bx
    cases neg
    · have LZ : Aside0 ((digs (signed false n).natAbs).length ≤ 200000000) := ⟨by rw [signed_abs]; exact LN.out⟩
      have FZ : Aside0 (Fits (signed false n).natAbs) := ⟨by rw [signed_abs]; exact FN.out⟩
      have LZP : Aside0 ((digs ((signed false n).natAbs * 10 ^ Kn)).length ≤ 200000000) := ⟨by rw [signed_abs]; exact LNP.out⟩
      have HVZ : Aside0 (VI w w9 _ (w.heap.size + 1) (signed false n)) := ⟨HV9.out⟩
      have hnz := HVZ.out.n.lt
      go_upto_region 19 with (go_at_call 182; refine (newint_calls _ 1 (by decide) (by decide)).mono ?_; rintro e' wa ⟨g1, rfl, hg1, hia, hba⟩; have HIA := Aside0.mk hia; have HVA := Aside0.mk (HVZ.out.step hba); obtain ⟨k0, k1, k2, k3, k4, k5⟩ := blk6 HVA.out.bx; clear hia hba)
      have hgt := (IntAt.new wa).blk
      have HGT := Aside0.mk hgt
      have HVB := Aside0.mk (HVA.out.step (alloc_below wa intO))
      have HIB := Aside0.mk (HIA.out.below (alloc_below wa intO))
      have hwa := blk_lt HVA.out.bx
      have hna := HVA.out.n.lt
      have h1a := HIA.out.lt
      have hfl := HIB
      clear hgt
      go_upto_region 20 with (first
        | (go_at_call 182; have hflag := hfl; clear hflag; refine (newint_calls _ 10 (by decide) (by decide)).mono ?_; rintro e' wc ⟨g10, rfl, hg10, hic, hbc⟩; have HTN := Aside0.mk hic; have HVC := Aside0.mk (HVB.out.step hbc); have HIC := Aside0.mk (HIB.out.below hbc); have HGC := Aside0.mk (HGT.out.below hbc); clear hic hbc hfl)
        | (go_at_call 182; refine (newint_calls _ (Kn : Int) (by omega) (by omega)).mono ?_; rintro e' wd ⟨gk, rfl, hgk, hid, hbd⟩; have HKN := Aside0.mk hid; have HVD := Aside0.mk (HVC.out.step hbd); have HID := Aside0.mk (HIC.out.below hbd); have HGD := Aside0.mk (HGC.out.below hbd); have HTD := Aside0.mk (HTN.out.below hbd); clear hid hbd)
        | (go_at_call 187; refine (exp_calls (x := 10) HGD.out HTD.out HKN.out (by omega) (by decide) (fits_bits (k := 4) (by decide) (by decide)) FP.out).mono ?_; rintro e' we ⟨rfl, hie, hte⟩; have hve := HVD.out.turn hte HGD.out (by omega) (by omega); have HVE := Aside0.mk hve; have HPE := Aside0.mk hie; have HOE := Aside0.mk (HID.out.turns (by omega) HGD.out hte); clear hie hte hve))
      have HTE := Aside0.mk (HT.out.below HVE.out.bl)
      by_cases hk0 : 0 ≤ K
      · rw [if_pos hk0, hKn] at HR
        go_wp2_with (first
          | (go_at_call 188; refine (imul_calls HVE.out.n.blk HVE.out.n HPE.out FZ.out (by rw [Int.natAbs_natCast]; exact FP.out)).mono ?_; rintro e' wf ⟨rfl, hif, htf⟩; have hvf := HVE.out.self htf hif (by omega); have HVF := Aside0.mk hvf; have HOF := Aside0.mk (HOE.out.turns (by omega) HVE.out.n.blk htf); clear hif htf hvf)
          | (go_at_call 186; refine (dratio_calls HVF.out.n HOF.out (by rw [Int.natAbs_mul, Int.natAbs_natCast]; exact LZP.out) (Nat.le_trans (len_pow10 (x := 1) (k := 1) (by decide)) (by decide)) (HT.out.below HVF.out.bl)).mono ?_; rintro e' wg ⟨rfl, hbg⟩; have HBG := Aside0.mk (below_step HVF.out.bl hbg); clear hbg))
        go_ret
        exact ⟨by rw [HR.out]; rfl, HBG.out⟩
      · rw [if_neg hk0, hKn] at HR
        go_wp2_with (go_at_call 186; refine (dratio_calls HVE.out.n HPE.out LZ.out (by rw [Int.natAbs_natCast]; exact LP.out) HTE.out).mono ?_; rintro e' wg ⟨rfl, hbg⟩; have HBG := Aside0.mk (below_step HVE.out.bl hbg); clear hbg)
        go_ret
        exact ⟨by rw [HR.out]; rfl, HBG.out⟩
    · have LZ : Aside0 ((digs (signed true n).natAbs).length ≤ 200000000) := ⟨by rw [signed_abs]; exact LN.out⟩
      have FZ : Aside0 (Fits (signed true n).natAbs) := ⟨by rw [signed_abs]; exact FN.out⟩
      have LZP : Aside0 ((digs ((signed true n).natAbs * 10 ^ Kn)).length ≤ 200000000) := ⟨by rw [signed_abs]; exact LNP.out⟩
      go_upto_region 16 with (go_at_call 151; refine (neg_calls HV9.out.n.blk HV9.out.n).mono ?_; rintro e' wz ⟨rfl, hiz, htz⟩; have hvz : VI w wz _ (w.heap.size + 1) (signed true n) := HV9.out.self htz hiz (by omega); have HVZ := Aside0.mk hvz; obtain ⟨k0, k1, k2, k3, k4, k5⟩ := blk6 hvz.bx; clear hiz htz hvz)
      have hnz := HVZ.out.n.lt
      go_upto_region 19 with (go_at_call 182; refine (newint_calls _ 1 (by decide) (by decide)).mono ?_; rintro e' wa ⟨g1, rfl, hg1, hia, hba⟩; have HIA := Aside0.mk hia; have HVA := Aside0.mk (HVZ.out.step hba); obtain ⟨k0, k1, k2, k3, k4, k5⟩ := blk6 HVA.out.bx; clear hia hba)
      have hgt := (IntAt.new wa).blk
      have HGT := Aside0.mk hgt
      have HVB := Aside0.mk (HVA.out.step (alloc_below wa intO))
      have HIB := Aside0.mk (HIA.out.below (alloc_below wa intO))
      have hwa := blk_lt HVA.out.bx
      have hna := HVA.out.n.lt
      have h1a := HIA.out.lt
      have hfl := HIB
      clear hgt
      go_upto_region 20 with (first
        | (go_at_call 182; have hflag := hfl; clear hflag; refine (newint_calls _ 10 (by decide) (by decide)).mono ?_; rintro e' wc ⟨g10, rfl, hg10, hic, hbc⟩; have HTN := Aside0.mk hic; have HVC := Aside0.mk (HVB.out.step hbc); have HIC := Aside0.mk (HIB.out.below hbc); have HGC := Aside0.mk (HGT.out.below hbc); clear hic hbc hfl)
        | (go_at_call 182; refine (newint_calls _ (Kn : Int) (by omega) (by omega)).mono ?_; rintro e' wd ⟨gk, rfl, hgk, hid, hbd⟩; have HKN := Aside0.mk hid; have HVD := Aside0.mk (HVC.out.step hbd); have HID := Aside0.mk (HIC.out.below hbd); have HGD := Aside0.mk (HGC.out.below hbd); have HTD := Aside0.mk (HTN.out.below hbd); clear hid hbd)
        | (go_at_call 187; refine (exp_calls (x := 10) HGD.out HTD.out HKN.out (by omega) (by decide) (fits_bits (k := 4) (by decide) (by decide)) FP.out).mono ?_; rintro e' we ⟨rfl, hie, hte⟩; have hve := HVD.out.turn hte HGD.out (by omega) (by omega); have HVE := Aside0.mk hve; have HPE := Aside0.mk hie; have HOE := Aside0.mk (HID.out.turns (by omega) HGD.out hte); clear hie hte hve))
      have HTE := Aside0.mk (HT.out.below HVE.out.bl)
      by_cases hk0 : 0 ≤ K
      · rw [if_pos hk0, hKn] at HR
        go_wp2_with (first
          | (go_at_call 188; refine (imul_calls HVE.out.n.blk HVE.out.n HPE.out FZ.out (by rw [Int.natAbs_natCast]; exact FP.out)).mono ?_; rintro e' wf ⟨rfl, hif, htf⟩; have hvf := HVE.out.self htf hif (by omega); have HVF := Aside0.mk hvf; have HOF := Aside0.mk (HOE.out.turns (by omega) HVE.out.n.blk htf); clear hif htf hvf)
          | (go_at_call 186; refine (dratio_calls HVF.out.n HOF.out (by rw [Int.natAbs_mul, Int.natAbs_natCast]; exact LZP.out) (Nat.le_trans (len_pow10 (x := 1) (k := 1) (by decide)) (by decide)) (HT.out.below HVF.out.bl)).mono ?_; rintro e' wg ⟨rfl, hbg⟩; have HBG := Aside0.mk (below_step HVF.out.bl hbg); clear hbg))
        go_ret
        exact ⟨by rw [HR.out]; rfl, HBG.out⟩
      · rw [if_neg hk0, hKn] at HR
        go_wp2_with (go_at_call 186; refine (dratio_calls HVE.out.n HPE.out LZ.out (by rw [Int.natAbs_natCast]; exact LP.out) HTE.out).mono ?_; rintro e' wg ⟨rfl, hbg⟩; have HBG := Aside0.mk (below_step HVE.out.bl hbg); clear hbg)
        go_ret
        exact ⟨by rw [HR.out]; rfl, HBG.out⟩
  · obtain ⟨C, hC⟩ : ∃ C, cmpN (E - behind).natAbs (10000 : Int).natAbs = C := ⟨_, rfl⟩
    have hC0 : C ≤ 0 := by
      rw [← hC]
      unfold cmpN; split
      · decide
      · split
        · decide
        · rename_i h1 h2; exfalso; apply hfar; have h3 : (10000 : Int).natAbs = 10000 := rfl; omega
    have HCM := Aside0.mk hC
    have hKe : E - behind = K := by rw [← hK]; unfold decK; rw [if_neg hfar]
    have HKE := Aside0.mk hKe
    clear hfar hK hKe hC
    go_upto_region 13 with (first
      | (go_at_call 182; refine (newint_calls _ 10000 (by decide) (by decide)).mono ?_; rintro e' w7 ⟨g7, rfl, hg7, hi7, hb7⟩; have HI7 := Aside0.mk hi7; have HV7 := Aside0.mk (HV6.out.step hb7); have HE7 := Aside0.mk (HE6.out.below hb7); clear hi7 hb7)
      | (go_at_call 183; refine (cmpabs_calls HE7.out HI7.out FE1.out).mono ?_; rintro e' w9 ⟨rfl, hb8⟩; rw [HCM.out]; have HV9 := Aside0.mk (HV7.out.step hb8); have HE9 := Aside0.mk (HE7.out.below hb8); clear hb8))
    rw [HKE.out] at HE9
    go_upto_region 14 with (go_at_call 185; refine (int64_calls HE9.out (fits_bits (k := 14) (by omega) (by decide)) (by omega)).mono ?_; rintro e' w9 ⟨rfl, rfl⟩)
    obtain ⟨k0, k1, k2, k3, k4, k5⟩ := blk6 HV9.out.bx
    cases neg
    · have LZ : Aside0 ((digs (signed false n).natAbs).length ≤ 200000000) := ⟨by rw [signed_abs]; exact LN.out⟩
      have FZ : Aside0 (Fits (signed false n).natAbs) := ⟨by rw [signed_abs]; exact FN.out⟩
      have LZP : Aside0 ((digs ((signed false n).natAbs * 10 ^ Kn)).length ≤ 200000000) := ⟨by rw [signed_abs]; exact LNP.out⟩
      have HVZ : Aside0 (VI w w9 _ (w.heap.size + 1) (signed false n)) := ⟨HV9.out⟩
      have hnz := HVZ.out.n.lt
      go_upto_region 19 with (go_at_call 182; refine (newint_calls _ 1 (by decide) (by decide)).mono ?_; rintro e' wa ⟨g1, rfl, hg1, hia, hba⟩; have HIA := Aside0.mk hia; have HVA := Aside0.mk (HVZ.out.step hba); obtain ⟨k0, k1, k2, k3, k4, k5⟩ := blk6 HVA.out.bx; clear hia hba)
      have hgt := (IntAt.new wa).blk
      have HGT := Aside0.mk hgt
      have HVB := Aside0.mk (HVA.out.step (alloc_below wa intO))
      have HIB := Aside0.mk (HIA.out.below (alloc_below wa intO))
      have hwa := blk_lt HVA.out.bx
      have hna := HVA.out.n.lt
      have h1a := HIA.out.lt
      have hfl := HIB
      clear hgt
      go_upto_region 20 with (first
        | (go_at_call 182; have hflag := hfl; clear hflag; refine (newint_calls _ 10 (by decide) (by decide)).mono ?_; rintro e' wc ⟨g10, rfl, hg10, hic, hbc⟩; have HTN := Aside0.mk hic; have HVC := Aside0.mk (HVB.out.step hbc); have HIC := Aside0.mk (HIB.out.below hbc); have HGC := Aside0.mk (HGT.out.below hbc); clear hic hbc hfl)
        | (go_at_call 182; refine (newint_calls _ (Kn : Int) (by omega) (by omega)).mono ?_; rintro e' wd ⟨gk, rfl, hgk, hid, hbd⟩; have HKN := Aside0.mk hid; have HVD := Aside0.mk (HVC.out.step hbd); have HID := Aside0.mk (HIC.out.below hbd); have HGD := Aside0.mk (HGC.out.below hbd); have HTD := Aside0.mk (HTN.out.below hbd); clear hid hbd)
        | (go_at_call 187; refine (exp_calls (x := 10) HGD.out HTD.out HKN.out (by omega) (by decide) (fits_bits (k := 4) (by decide) (by decide)) FP.out).mono ?_; rintro e' we ⟨rfl, hie, hte⟩; have hve := HVD.out.turn hte HGD.out (by omega) (by omega); have HVE := Aside0.mk hve; have HPE := Aside0.mk hie; have HOE := Aside0.mk (HID.out.turns (by omega) HGD.out hte); clear hie hte hve))
      have HTE := Aside0.mk (HT.out.below HVE.out.bl)
      by_cases hk0 : 0 ≤ K
      · rw [if_pos hk0, hKn] at HR
        go_wp2_with (first
          | (go_at_call 188; refine (imul_calls HVE.out.n.blk HVE.out.n HPE.out FZ.out (by rw [Int.natAbs_natCast]; exact FP.out)).mono ?_; rintro e' wf ⟨rfl, hif, htf⟩; have hvf := HVE.out.self htf hif (by omega); have HVF := Aside0.mk hvf; have HOF := Aside0.mk (HOE.out.turns (by omega) HVE.out.n.blk htf); clear hif htf hvf)
          | (go_at_call 186; refine (dratio_calls HVF.out.n HOF.out (by rw [Int.natAbs_mul, Int.natAbs_natCast]; exact LZP.out) (Nat.le_trans (len_pow10 (x := 1) (k := 1) (by decide)) (by decide)) (HT.out.below HVF.out.bl)).mono ?_; rintro e' wg ⟨rfl, hbg⟩; have HBG := Aside0.mk (below_step HVF.out.bl hbg); clear hbg))
        go_ret
        exact ⟨by rw [HR.out]; rfl, HBG.out⟩
      · rw [if_neg hk0, hKn] at HR
        go_wp2_with (go_at_call 186; refine (dratio_calls HVE.out.n HPE.out LZ.out (by rw [Int.natAbs_natCast]; exact LP.out) HTE.out).mono ?_; rintro e' wg ⟨rfl, hbg⟩; have HBG := Aside0.mk (below_step HVE.out.bl hbg); clear hbg)
        go_ret
        exact ⟨by rw [HR.out]; rfl, HBG.out⟩
    · have LZ : Aside0 ((digs (signed true n).natAbs).length ≤ 200000000) := ⟨by rw [signed_abs]; exact LN.out⟩
      have FZ : Aside0 (Fits (signed true n).natAbs) := ⟨by rw [signed_abs]; exact FN.out⟩
      have LZP : Aside0 ((digs ((signed true n).natAbs * 10 ^ Kn)).length ≤ 200000000) := ⟨by rw [signed_abs]; exact LNP.out⟩
      go_upto_region 16 with (go_at_call 151; refine (neg_calls HV9.out.n.blk HV9.out.n).mono ?_; rintro e' wz ⟨rfl, hiz, htz⟩; have hvz : VI w wz _ (w.heap.size + 1) (signed true n) := HV9.out.self htz hiz (by omega); have HVZ := Aside0.mk hvz; obtain ⟨k0, k1, k2, k3, k4, k5⟩ := blk6 hvz.bx; clear hiz htz hvz)
      have hnz := HVZ.out.n.lt
      go_upto_region 19 with (go_at_call 182; refine (newint_calls _ 1 (by decide) (by decide)).mono ?_; rintro e' wa ⟨g1, rfl, hg1, hia, hba⟩; have HIA := Aside0.mk hia; have HVA := Aside0.mk (HVZ.out.step hba); obtain ⟨k0, k1, k2, k3, k4, k5⟩ := blk6 HVA.out.bx; clear hia hba)
      have hgt := (IntAt.new wa).blk
      have HGT := Aside0.mk hgt
      have HVB := Aside0.mk (HVA.out.step (alloc_below wa intO))
      have HIB := Aside0.mk (HIA.out.below (alloc_below wa intO))
      have hwa := blk_lt HVA.out.bx
      have hna := HVA.out.n.lt
      have h1a := HIA.out.lt
      have hfl := HIB
      clear hgt
      go_upto_region 20 with (first
        | (go_at_call 182; have hflag := hfl; clear hflag; refine (newint_calls _ 10 (by decide) (by decide)).mono ?_; rintro e' wc ⟨g10, rfl, hg10, hic, hbc⟩; have HTN := Aside0.mk hic; have HVC := Aside0.mk (HVB.out.step hbc); have HIC := Aside0.mk (HIB.out.below hbc); have HGC := Aside0.mk (HGT.out.below hbc); clear hic hbc hfl)
        | (go_at_call 182; refine (newint_calls _ (Kn : Int) (by omega) (by omega)).mono ?_; rintro e' wd ⟨gk, rfl, hgk, hid, hbd⟩; have HKN := Aside0.mk hid; have HVD := Aside0.mk (HVC.out.step hbd); have HID := Aside0.mk (HIC.out.below hbd); have HGD := Aside0.mk (HGC.out.below hbd); have HTD := Aside0.mk (HTN.out.below hbd); clear hid hbd)
        | (go_at_call 187; refine (exp_calls (x := 10) HGD.out HTD.out HKN.out (by omega) (by decide) (fits_bits (k := 4) (by decide) (by decide)) FP.out).mono ?_; rintro e' we ⟨rfl, hie, hte⟩; have hve := HVD.out.turn hte HGD.out (by omega) (by omega); have HVE := Aside0.mk hve; have HPE := Aside0.mk hie; have HOE := Aside0.mk (HID.out.turns (by omega) HGD.out hte); clear hie hte hve))
      have HTE := Aside0.mk (HT.out.below HVE.out.bl)
      by_cases hk0 : 0 ≤ K
      · rw [if_pos hk0, hKn] at HR
        go_wp2_with (first
          | (go_at_call 188; refine (imul_calls HVE.out.n.blk HVE.out.n HPE.out FZ.out (by rw [Int.natAbs_natCast]; exact FP.out)).mono ?_; rintro e' wf ⟨rfl, hif, htf⟩; have hvf := HVE.out.self htf hif (by omega); have HVF := Aside0.mk hvf; have HOF := Aside0.mk (HOE.out.turns (by omega) HVE.out.n.blk htf); clear hif htf hvf)
          | (go_at_call 186; refine (dratio_calls HVF.out.n HOF.out (by rw [Int.natAbs_mul, Int.natAbs_natCast]; exact LZP.out) (Nat.le_trans (len_pow10 (x := 1) (k := 1) (by decide)) (by decide)) (HT.out.below HVF.out.bl)).mono ?_; rintro e' wg ⟨rfl, hbg⟩; have HBG := Aside0.mk (below_step HVF.out.bl hbg); clear hbg))
        go_ret
        exact ⟨by rw [HR.out]; rfl, HBG.out⟩
      · rw [if_neg hk0, hKn] at HR
        go_wp2_with (go_at_call 186; refine (dratio_calls HVE.out.n HPE.out LZ.out (by rw [Int.natAbs_natCast]; exact LP.out) HTE.out).mono ?_; rintro e' wg ⟨rfl, hbg⟩; have HBG := Aside0.mk (below_step HVE.out.bl hbg); clear hbg)
        go_ret
        exact ⟨by rw [HR.out]; rfl, HBG.out⟩
end Go.Proofs.YtinmbcomnjmmjaaGreatDoor
namespace Go.Proofs.YtinmbcomnjmmjaaGreatDoor
open Go.RowKit Go.Proofs.YtinmbcomnjmmjaaGreatDoorW.PrintWords Go.Proofs.YtinmbcomnjmmjaaGreatDoorW.PrintLast Go.Proofs.YtinmbcomnjmmjaaGreatDoorW.PrintMore
open X
/-- A world whose text that is gone over stands at another place. -/
def setIter (w : World) (g : Nat) (s : ByteArray) (p : Nat) : World := { w with heap := w.heap.setIfInBounds g (.stringIter s p) }
theorem setIter_at {w : World} {g : Nat} {s : ByteArray} {p : Nat} (h : g < w.heap.size) : (setIter w g s p).heap[g]? = some (.stringIter s p) := by
  simp [setIter, h]
theorem setIter_turns (w : World) (g : Nat) (s : ByteArray) (p : Nat) : Turns g w (setIter w g s p) :=
  ⟨rfl, rfl, rfl, by simp [setIter], fun i _ hn => by
    have : g ≠ i := fun e => hn (by rw [e])
    simp [setIter, this]⟩
theorem run_next_at {P : Program} {w : World} {g : Nat} {s : ByteArray} {pos : Nat} (ty : TypeId) (hg : w.heap[g]? = some (.stringIter s pos)) (h : pos < s.size) :
    (Instr.next (.pointer (some ⟨g, 0, none⟩)) true ty).run P w = .ok (.tuple #[.bool true, .int .i64 pos, .int .i32 (Utf8.decode s pos).1]) (setIter w g s (pos + (Utf8.decode s pos).2)) := by
  simp only [Instr.next, getObj, setObj, Sem.run_bind, Sem.run, hg, Result.andThen, h, if_true, setIter]
  simp [goInt]
theorem run_next_out {P : Program} {w : World} {g : Nat} {s : ByteArray} {pos : Nat} (ty : TypeId) (hg : w.heap[g]? = some (.stringIter s pos)) (h : ¬ pos < s.size) :
    (Instr.next (.pointer (some ⟨g, 0, none⟩)) true ty).run P w = .ok (.tuple #[.bool false]) w := by
  simp [Instr.next, getObj, Sem.run, hg, h]
theorem iterPos_of {w : World} {g : Nat} {s : ByteArray} {p : Nat} (h : w.heap[g]? = some (.stringIter s p)) : w.iterPos g = p := by
  unfold World.iterPos; rw [h]
/-- A text of bytes below 128. -/
def Asc (s : ByteArray) : Prop := ∀ b ∈ s.data.toList, b.toNat < 128
theorem Asc.dec {s : ByteArray} (h : Asc s) {pos : Nat} (hp : pos < s.size) : Utf8.decode s pos = ((s.data.toList.getD pos 0).toNat, 1) := by
  have hl : pos < s.data.toList.length := by rw [data_length]; exact hp
  have e0 : s.data.toList.getD pos 0 = s.data.toList[pos] := by rw [List.getD_eq_getElem?_getD, List.getElem?_eq_getElem hl]; rfl
  have e : s[pos]'hp = s.data.toList.getD pos 0 := by rw [e0]; rfl
  have ha : (s[pos]'hp).toNat < 128 := by rw [e, e0]; exact h _ (List.getElem_mem hl)
  rw [decode_ascii s pos hp ha, e]
set_option maxHeartbeats 2000000 in
set_option maxRecDepth 100000 in
/-- decim.anyAt: none of the set's runes stands in the text. -/
theorem anyAt_none {w : World} {s any : ByteArray} (hs : Asc s) (ha : Asc any) (hn : ∀ b ∈ s.data.toList, ∀ c ∈ any.data.toList, b ≠ c) (hm : s.size ≤ 1000000000) (hm2 : any.size ≤ 1000000000) :
    Calls Tryz.prog 173 #[.string s, .string any] w fun e w' => e = .returned (.int .i64 (-1)) ∧ Below w.heap.size w w' := by
  have HS := Aside0.mk hs; have HA := Aside0.mk ha; have HN := Aside0.mk hn
  clear hs ha hn
  go_enter Tryz.func173, Tryz.ntmps173
  go_wp2_with fail
  go_loopw [5, 6, 8] (fun _ _ _ wr => ∃ (pos : Nat), pos ≤ s.size ∧ Aside0 (wr.heap[w.heap.size]? = some (.stringIter s pos)) ∧ Aside0 (Below w.heap.size w wr)) (fun _ _ _ wr => s.size - wr.iterPos w.heap.size)
  case atStart => exact ⟨0, by omega, ⟨World.iter_heap w s 0⟩, ⟨(Below.refl _ w).alloc (Nat.le_refl _) _⟩⟩
  case round =>
    obtain ⟨pos, hpos, HI, HB⟩ := hrel
    by_cases hp : pos < s.size
    · have hnx := fun ty => run_next_at (P := Tryz.prog) ty HI.out hp
      rw [HS.out.dec hp] at hnx
      have hin : s.data.toList.getD pos 0 ∈ s.data.toList := by
        have hl : pos < s.data.toList.length := by rw [data_length]; exact hp
        rw [List.getD_eq_getElem?_getD, List.getElem?_eq_getElem hl]; exact List.getElem_mem hl
      have HC := Aside0.mk (HN.out _ hin)
      have hi2 := setIter_at (s := s) (p := pos + 1) (blk_lt HI.out)
      have hb2 := Turns.below HB.out HB.out.size (Nat.le_refl _) (setIter_turns wr w.heap.size s (pos + 1))
      have HI2 := Aside0.mk hi2; have HB2 := Aside0.mk hb2; have HPO := Aside0.mk (iterPos_of HI.out)
      clear hin hi2 hb2
      generalize s.data.toList.getD pos 0 = b at *
      go_wp2_with fail
      clear HI HB
      generalize setIter wr w.heap.size s (pos + 1) = wx at *
      clear hnx
      go_loopw [8] (fun _ w2 => ∃ (q : Nat), q ≤ any.size ∧ Aside0 (w2.heap[wx.heap.size]? = some (.stringIter any q)) ∧ Aside0 (Below wx.heap.size wx w2)) (fun _ w2 => any.size - w2.iterPos wx.heap.size)
      case atStart => exact ⟨0, by omega, ⟨World.iter_heap wx any 0⟩, ⟨(Below.refl _ wx).alloc (Nat.le_refl _) _⟩⟩
      case round =>
        obtain ⟨q, hqs, HJ, HK⟩ := hrel
        by_cases hq : q < any.size
        · have hnx := fun ty => run_next_at (P := Tryz.prog) ty HJ.out hq
          rw [HA.out.dec hq] at hnx
          have hin : any.data.toList.getD q 0 ∈ any.data.toList := by
            have hl : q < any.data.toList.length := by rw [data_length]; exact hq
            rw [List.getD_eq_getElem?_getD, List.getElem?_eq_getElem hl]; exact List.getElem_mem hl
          have hne := HC.out _ hin
          have HJ2 := Aside0.mk (setIter_at (s := any) (p := q + 1) (blk_lt HJ.out))
          have HK2 := Aside0.mk (Turns.below HK.out HK.out.size (Nat.le_refl _) (setIter_turns _ wx.heap.size any (q + 1)))
          have HP := Aside0.mk (iterPos_of HJ.out)
          clear hin
          generalize any.data.toList.getD q 0 = c at *
          have hbc : (((b.toNat : Nat) : Int) == ((c.toNat : Nat) : Int)) = false := beq_eq_false_iff_ne.mpr (fun e => hne (UInt8.toNat_inj.1 (by omega)))
          clear hne
          go_wp2_with fail
          go_roundw
          case rel => exact ⟨q + 1, by omega, HJ2, HK2⟩
          case measure => rw [HP.out, iterPos_of HJ2.out]; omega
        · have hnx := fun ty => run_next_out (P := Tryz.prog) ty HJ.out hq
          have HI3 := Aside0.mk (blk_below HI2.out HK.out)
          have HB3 := Aside0.mk (below_step HB2.out HK.out)
          go_wp2_with fail
          go_roundw
          case rel => exact ⟨pos + 1, by omega, HI3, HB3⟩
          case measure => rw [HPO.out, iterPos_of HI3.out]; omega
    · have hnx := fun ty => run_next_out (P := Tryz.prog) ty HI.out hp
      go_wp2_with fail
      go_ret
      exact ⟨rfl, HB.out⟩
end Go.Proofs.YtinmbcomnjmmjaaGreatDoor
namespace Go.Proofs.YtinmbcomnjmmjaaGreatDoor
open Go.RowKit Go.Proofs.YtinmbcomnjmmjaaGreatDoorW.PrintWords Go.Proofs.YtinmbcomnjmmjaaGreatDoorW.PrintLast Go.Proofs.YtinmbcomnjmmjaaGreatDoorW.PrintMore
open X
theorem snoc_contains (xs : List UInt8) (x b : UInt8) : (xs ++ [x]).contains b = (xs.contains b || b == x) := by
  induction xs with
  | nil => rw [List.nil_append, List.contains_cons]; simp
  | cons y ys ih => rw [List.cons_append, List.contains_cons, List.contains_cons, ih, Bool.or_assoc]
theorem take_contains {l : List UInt8} {q : Nat} {b : UInt8} (h : q < l.length) : (l.take (q + 1)).contains b = ((l.take q).contains b || b == l.getD q 0) := by
  rw [List.take_succ_eq_append_getElem h]
  have e : l.getD q 0 = l[q] := by rw [List.getD_eq_getElem?_getD, List.getElem?_eq_getElem h]; rfl
  rw [e]; exact snoc_contains _ _ _
theorem u8_beq (b c : UInt8) : ((((b.toNat : Nat) : Int)) == ((c.toNat : Nat) : Int)) = (b == c) := by
  by_cases h : b = c
  · subst h; simp
  · have h1 : ¬ ((b.toNat : Nat) : Int) = ((c.toNat : Nat) : Int) := fun e => h (UInt8.toNat_inj.1 (by omega))
    rw [beq_eq_false_iff_ne.mpr h1, beq_eq_false_iff_ne.mpr h]
set_option maxHeartbeats 2000000 in
set_option maxRecDepth 100000 in
theorem cutLeft_all {w : World} {s set : ByteArray} (hs : Asc s) (ha : Asc set) (hn : ∀ b ∈ s.data.toList, set.data.toList.contains b = true) (hm : s.size ≤ 1000000000) (hm2 : set.size ≤ 1000000000) :
    Calls Tryz.prog 176 #[.string s, .string set] w fun e w' => e = .returned (.string ⟨#[]⟩) ∧ Below w.heap.size w w' := by
  have HS := Aside0.mk hs; have HA := Aside0.mk ha; have HN := Aside0.mk hn
  clear hs ha hn
  go_enter Tryz.func176, Tryz.ntmps176
  go_wp2_with fail
  go_loopw [5, 6, 7, 9] (fun _ _ _ _ wr => ∃ (pos : Nat), pos ≤ s.size ∧ Aside0 (wr.heap[w.heap.size]? = some (.stringIter s pos)) ∧ Aside0 (Below w.heap.size w wr)) (fun _ _ _ _ wr => s.size - wr.iterPos w.heap.size)
  case atStart => exact ⟨0, by omega, ⟨World.iter_heap w s 0⟩, ⟨(Below.refl _ w).alloc (Nat.le_refl _) _⟩⟩
  case round =>
    obtain ⟨pos, hpos, HI, HB⟩ := hrel
    by_cases hp : pos < s.size
    · have hnx := fun ty => run_next_at (P := Tryz.prog) ty HI.out hp
      rw [HS.out.dec hp] at hnx
      have hin : s.data.toList.getD pos 0 ∈ s.data.toList := by
        have hl : pos < s.data.toList.length := by rw [data_length]; exact hp
        rw [List.getD_eq_getElem?_getD, List.getElem?_eq_getElem hl]; exact List.getElem_mem hl
      have HC := Aside0.mk (HN.out _ hin)
      have hi2 := setIter_at (s := s) (p := pos + 1) (blk_lt HI.out)
      have hb2 := Turns.below HB.out HB.out.size (Nat.le_refl _) (setIter_turns wr w.heap.size s (pos + 1))
      have HI2 := Aside0.mk hi2; have HB2 := Aside0.mk hb2; have HPO := Aside0.mk (iterPos_of HI.out)
      clear hin hi2 hb2
      generalize s.data.toList.getD pos 0 = b at *
      go_wp2_with fail
      clear HI HB
      generalize setIter wr w.heap.size s (pos + 1) = wx at *
      clear hnx
      go_loopw [7, 9] (fun v7 _ w2 => ∃ (q : Nat), v7 = .bool ((set.data.toList.take q).contains b) ∧ q ≤ set.size ∧ Aside0 (w2.heap[wx.heap.size]? = some (.stringIter set q)) ∧ Aside0 (Below wx.heap.size wx w2)) (fun _ _ w2 => set.size - w2.iterPos wx.heap.size)
      case atStart => exact ⟨0, rfl, by omega, ⟨World.iter_heap wx set 0⟩, ⟨(Below.refl _ wx).alloc (Nat.le_refl _) _⟩⟩
      case round =>
        obtain ⟨q, rfl, hqs, HJ, HK⟩ := hrel
        by_cases hq : q < set.size
        · have hnx := fun ty => run_next_at (P := Tryz.prog) ty HJ.out hq
          rw [HA.out.dec hq] at hnx
          have HJ2 := Aside0.mk (setIter_at (s := set) (p := q + 1) (blk_lt HJ.out))
          have HK2 := Aside0.mk (Turns.below HK.out HK.out.size (Nat.le_refl _) (setIter_turns _ wx.heap.size set (q + 1)))
          have HP := Aside0.mk (iterPos_of HJ.out)
          have HTC := Aside0.mk (take_contains (b := b) (show q < set.data.toList.length by rw [data_length]; exact hq))
          generalize set.data.toList.getD q 0 = c at *
          generalize hfl : (set.data.toList.take q).contains b = fl at *
          clear hfl
          have HUB := Aside0.mk (u8_beq b c)
          generalize hbc : (((b.toNat : Nat) : Int) == ((c.toNat : Nat) : Int)) = bc at *
          cases fl
          · go_wp2_with fail
            go_roundw
            case rel => exact ⟨q + 1, by rw [HTC.out, ← HUB.out]; first | rfl | simp, by omega, HJ2, HK2⟩
            case measure => rw [HP.out, iterPos_of HJ2.out]; omega
          · go_wp2_with fail
            go_roundw
            case rel => exact ⟨q + 1, by rw [HTC.out]; rfl, by omega, HJ2, HK2⟩
            case measure => rw [HP.out, iterPos_of HJ2.out]; omega
        · have hnx := fun ty => run_next_out (P := Tryz.prog) ty HJ.out hq
          have HI3 := Aside0.mk (blk_below HI2.out HK.out)
          have HB3 := Aside0.mk (below_step HB2.out HK.out)
          have hct : (set.data.toList.take q).contains b = true := by
            rw [List.take_of_length_le (by rw [data_length]; omega)]; exact HC.out
          generalize (set.data.toList.take q).contains b = fl at *
          subst hct
          go_wp2_with fail
          go_roundw
          case rel => exact ⟨pos + 1, by omega, HI3, HB3⟩
          case measure => rw [HPO.out, iterPos_of HI3.out]; omega
    · have hnx := fun ty => run_next_out (P := Tryz.prog) ty HI.out hp
      go_wp2_with fail
      go_ret
      exact ⟨rfl, HB.out⟩
set_option maxRecDepth 100000 in
theorem cutRight_nil (w : World) (set : ByteArray) : Calls Tryz.prog 175 #[.string ⟨#[]⟩, .string set] w fun e w' => e = .returned (.string ⟨#[]⟩) ∧ w' = w := by
  go_enter Tryz.func175, Tryz.ntmps175
  go_wp2_with fail
  go_loopw [0, 5, 6, 7, 9] (fun v0 _ _ _ _ wr => v0 = .string ⟨#[]⟩ ∧ wr = w) (fun _ _ _ _ _ _ => 0)
  case atStart => exact ⟨rfl, rfl⟩
  case round =>
    obtain ⟨rfl, rfl⟩ := hrel
    have hz : ByteArray.size ⟨#[]⟩ = 0 := rfl
    go_wp2
    go_ret
    exact ⟨rfl, rfl⟩
end Go.Proofs.YtinmbcomnjmmjaaGreatDoor
