/- Proved: a part of what the statement on the names of parse needs: walks of functions of the program, and plain laws. (Texts Df, Cg, Ch, Ci, Cj.) -/
import Derived.Test.YtinmbcomnjmmjaaGreatDoorQ33
import Derived.Test.YtinmbcomnjmmjaaGreatDoorQ31
namespace Go.Proofs.YtinmbcomnjmmjaaGreatDoor
open Go.RowKit Go.Proofs.YtinmbcomnjmmjaaGreatDoorW.PrintWords Go.Proofs.YtinmbcomnjmmjaaGreatDoorW.PrintLast Go.Proofs.YtinmbcomnjmmjaaGreatDoorW.PrintMore
open X
theorem known_f {mode : Int} (h : knownM mode = true) : X.decim_known.f mode = some true := by
  unfold knownM at h
  rw [Bool.and_eq_true, decide_eq_true_eq, decide_eq_true_eq] at h
  unfold X.decim_known.f
  rw [if_pos h.1, decide_eq_true h.2]
set_option maxHeartbeats 2000000 in
set_option maxRecDepth 100000 in
theorem read_digits {w : World} {s : ByteArray} {mode : Int} (hd : DecT s.data.toList) (h1 : s.size ≠ 0) (h2 : s.size ≤ 1100) (hk : knownM mode = true) (hT : Tab32 w) :
    Calls Tryz.prog 117 #[.string s, .int .i64 mode] w fun e w' => e = .returned (.tuple #[.float .f64 (decF false (decV s.data.toList) 0 0 mode), .int .i64 0]) ∧ Below w.heap.size w w' := by
  have HD := Aside0.mk hd; have HT := Aside0.mk hT; have HK := Aside0.mk hk
  clear hd hT hk
  go_enter Tryz.func117, Tryz.ntmps117
  go_wp2_with (first
    | (go_at_call 140; refine (X.decim_known.calls mode true _ (known_f HK.out)).mono ?_; rintro e' w1 ⟨rfl, hd1⟩; have HB1 := Aside0.mk hd1.below; have HT1 := Aside0.mk (HT.out.below hd1.below); clear hd1)
    | (go_at_call 141; refine (cut_digits HD.out h1 (by omega)).mono ?_; rintro e' w2 ⟨ge, rfl, hi2, hb2⟩; have HI2 := Aside0.mk (hi2.below (alloc_below w2 (txO false false s 0 (some ⟨ge, 0, none⟩) ⟨#[]⟩))); have hb3 := below_step hb2 (alloc_below w2 (txO false false s 0 (some ⟨ge, 0, none⟩) ⟨#[]⟩)); have HB2 := Aside0.mk (below_step HB1.out hb3); have HT2 := Aside0.mk (HT1.out.below hb3); obtain ⟨k0, k1, k2, k3, k4, k5⟩ := blk6 (alloc_at w2 (txO false false s 0 (some ⟨ge, 0, none⟩) ⟨#[]⟩)); clear hi2 hb2 hb3)
    | (go_at_call 144; refine (dvalue_calls (behind := 0) (E := 0) HD.out h1 h2 (by omega) HI2.out (by show (digs 0).length ≤ _; rw [digs_zero]; decide) HT2.out).mono ?_; rintro e' w4 ⟨rfl, hb4⟩; have HB4 := Aside0.mk (below_step HB2.out hb4); clear hb4))
  go_ret2
  exact ⟨rfl, HB4.out⟩
end Go.Proofs.YtinmbcomnjmmjaaGreatDoor
namespace Go.Proofs.YtinmbcomnjmmjaaGreatDoor
open Go.RowKit Go.Proofs.YtinmbcomnjmmjaaGreatDoorW.PrintWords Go.Proofs.YtinmbcomnjmmjaaGreatDoorW.PrintLast Go.Proofs.YtinmbcomnjmmjaaGreatDoorW.PrintMore
open X
def fracB (b : Nat) : Nat := if b / 4503599627370496 % 2048 = 0 then b % 4503599627370496 else b % 4503599627370496 + 4503599627370496
def exB (b : Nat) : Int := if b / 4503599627370496 % 2048 = 0 then 1 else ((b / 4503599627370496 % 2048 : Nat) : Int)
/-- A float's value; the error. -/
def ofF (b : Nat) : Nm × Int := if nanB b then (Nm.nil, 4) else if infB b then (Nm.nil, 5) else numF (signed (decide (b / 9223372036854775808 = 1)) (fracB b)) (exB b - 1075)
theorem mask_frac {b : Nat} (hb : b < 18446744073709551616) : bits .and .u64 (b : Int) 4503599627370495 = ((b % 4503599627370496 : Nat) : Int) := by
  have := bits_mask .u64 64 (by decide) (fun n h0 h1 => u64_id h0 (by omega)) 52 (by decide) (b : Int) (by omega) (by omega)
  rw [show (2 : Int) ^ 52 - 1 = 4503599627370495 from rfl] at this
  rw [this]; omega
theorem mask_exp {b : Nat} (hb : b < 18446744073709551616) : bits .and .u64 ((b : Int) / 4503599627370496) 2047 = ((b / 4503599627370496 % 2048 : Nat) : Int) := by
  have := bits_mask .u64 64 (by decide) (fun n h0 h1 => u64_id h0 (by omega)) 11 (by decide) ((b : Int) / 4503599627370496) (by omega) (by omega)
  rw [show (2 : Int) ^ 11 - 1 = 2047 from rfl] at this
  rw [this]; omega
theorem or_top {m : Nat} (hm : m < 4503599627370496) : bits .or .u64 (m : Int) 4503599627370496 = ((m + 4503599627370496 : Nat) : Int) := by
  have h := bits_join .u64 64 (by decide) (fun n h0 h1 => u64_id h0 (by omega)) 52 (4503599627370496 : Int) (m : Int) (by decide) (by decide) (by decide) (by omega) (by omega) (by omega)
  have n1 := (bits_nat .u64 64 (by decide) (fun n h0 h1 => u64_id h0 (by omega)) m 4503599627370496 (by omega) (by decide)).2
  have n2 := (bits_nat .u64 64 (by decide) (fun n h0 h1 => u64_id h0 (by omega)) 4503599627370496 m (by decide) (by omega)).2
  rw [show ((4503599627370496 : Nat) : Int) = 4503599627370496 from rfl] at n1 n2
  rw [n1, Nat.or_comm, ← n2, h]; omega
set_option maxHeartbeats 4000000 in
set_option maxRecDepth 100000 in
/-- dyad.Of. -/
theorem of_calls {w : World} {b : Nat} (hb : b < 18446744073709551616) (hT : Tab32 w) :
    Calls Tryz.prog 125 #[.float .f64 b] w fun e' w' => ∃ u, e' = .returned (.tuple #[u, .int .i64 (ofF b).2]) ∧ NumV w' u (ofF b).1 ∧ Below w.heap.size w w' := by
  have HB1 := Aside0.mk (alloc_below w (.cells #[.bool false, .slice none 0 0, .int .i64 0] 155))
  have HBL := Aside0.mk (alloc_at w (.cells #[.bool false, .slice none 0 0, .int .i64 0] 155))
  have HT1 := Aside0.mk (hT.below HB1.out)
  obtain ⟨c0, c1, c2⟩ := blk3 HBL.out
  have hfr0 := blk_frozen HBL.out
  have z0 := hfr0 0; have z1 := hfr0 1; have z2 := hfr0 2
  clear hT hfr0
  by_cases h1 : nanB b = true
  · have HR : Aside0 (ofF b = (Nm.nil, 4)) := ⟨by unfold ofF; rw [if_pos h1]⟩
    go_enter Tryz.func125, Tryz.ntmps125
    go_wp2_with (go_at_call 149; refine (isnan_calls _ _).mono ?_; rintro e' w1 ⟨rfl, rfl⟩; rw [h1])
    refine bodyPost_ret (results_ct rfl _ _ (w.heap.size) 155 #[.bool false, .slice none 0 0, .int .i64 0] (0, 0) _ rfl (alloc_at _ _) Tryz.underlying155 rfl (by kernel_rfl)) rfl ?_
    rw [HR.out]
    exact ⟨_, rfl, NumV.nil _, HB1.out⟩
  have h1' : nanB b = false := by simpa using h1
  by_cases h2 : infB b = true
  · have HR : Aside0 (ofF b = (Nm.nil, 5)) := ⟨by unfold ofF; rw [if_neg h1, if_pos h2]⟩
    clear h1
    go_enter Tryz.func125, Tryz.ntmps125
    go_wp2_with (first
      | (go_at_call 149; refine (isnan_calls _ _).mono ?_; rintro e' w1 ⟨rfl, rfl⟩; rw [h1'])
      | (go_at_call 123; refine (isinf_calls _ _).mono ?_; rintro e' w1 ⟨rfl, rfl⟩; rw [h2]))
    refine bodyPost_ret (results_ct rfl _ _ (w.heap.size) 155 #[.bool false, .slice none 0 0, .int .i64 0] (0, 0) _ rfl (alloc_at _ _) Tryz.underlying155 rfl (by kernel_rfl)) rfl ?_
    rw [HR.out]
    exact ⟨_, rfl, NumV.nil _, HB1.out⟩
  have h2' : infB b = false := by simpa using h2
  have r53 := run53
  have m1 := mask_frac hb
  have m2 := mask_exp hb
  obtain ⟨F, hF⟩ : ∃ F, b % 4503599627370496 = F := ⟨_, rfl⟩
  obtain ⟨X, hX⟩ : ∃ X, b / 4503599627370496 % 2048 = X := ⟨_, rfl⟩
  have hF1 : F < 4503599627370496 := by omega
  have hX1 : X < 2048 := by omega
  have hs : b / 9223372036854775808 = 0 ∨ b / 9223372036854775808 = 1 := by omega
  obtain ⟨S, hS⟩ : ∃ S, b / 9223372036854775808 = S := ⟨_, rfl⟩
  have hSi : (b : Int) / 9223372036854775808 = (S : Int) := by omega
  have m3 := or_top hF1
  obtain ⟨M, hM⟩ : ∃ M, fracB b = M := ⟨_, rfl⟩
  obtain ⟨E, hE⟩ : ∃ E, exB b = E := ⟨_, rfl⟩
  have hMf : (if X = 0 then F else F + 4503599627370496) = M := by rw [← hM]; unfold fracB; rw [hX, hF]
  have hEf : (if X = 0 then (1 : Int) else (X : Int)) = E := by rw [← hE]; unfold exB; rw [hX]
  have HR : Aside0 (ofF b = numF (signed (decide (S = 1)) M) (E - 1075)) := ⟨by unfold ofF; rw [if_neg h1, if_neg h2, hS, hM, hE]⟩
  have hMl : M < 9007199254740992 := by rw [← hMf]; split <;> omega
  have hML : Aside0 ((digs ((M : Nat) : Int).natAbs).length ≤ 200000000) := ⟨by rw [Int.natAbs_natCast]; exact Nat.le_trans (digs_length_le (k := 2) (by omega)) (by decide)⟩
  rw [hF] at m1
  rw [hX] at m2
  rw [hS] at hs
  have hMB : M < 18446744073709551616 := by omega
  clear h1 h2 hF hX hS hM hE hMl
  obtain ⟨wa, hwa⟩ : ∃ wa, w.alloc (.cells #[.bool false, .slice none 0 0, .int .i64 0] 155) = wa := ⟨_, rfl⟩
  have hwas : wa.heap.size = w.heap.size + 1 := by rw [← hwa]; exact alloc_size w _
  rw [hwa] at HB1 HBL HT1
  have HWS := Aside0.mk hwas
  have HN2 := Aside0.mk (IntAt.new wa).blk
  rw [hwas] at HN2
  have HB2 := Aside0.mk (below_step HB1.out (alloc_below wa intO))
  have HBL2 := Aside0.mk (blk_below HBL.out (alloc_below wa intO))
  have HT2 := Aside0.mk (HT1.out.below (alloc_below wa intO))
  clear hwas
  subst hwa
  by_cases hX0 : X = 0
  · subst hX0
    rw [if_pos rfl] at hMf hEf
    subst hMf hEf
    rcases hs with hs | hs
    · subst hs
      rw [show decide (0 = 1) = false from rfl] at HR
      go_enter Tryz.func125, Tryz.ntmps125
      go_wp2_with (first
        | (go_at_call 149; refine (isnan_calls _ _).mono ?_; rintro e' w1 ⟨rfl, rfl⟩; rw [h1'])
        | (go_at_call 123; refine (isinf_calls _ _).mono ?_; rintro e' w1 ⟨rfl, rfl⟩; rw [h2'])
        | (go_at_call 150; refine (setuint_calls HN2.out _ (by omega) (by omega)).mono ?_; rintro e' w3 ⟨rfl, hi3, ht3⟩; have HI3 := Aside0.mk hi3; have HB3 := Aside0.mk (Turns.below HB2.out (by have := HB2.out.size; omega) (by omega) ht3); have HBL3 := Aside0.mk (ht3.block (by have := HB2.out.size; rw [alloc_size, alloc_size]; omega) (by omega) |>.trans HBL2.out); have HT3 := Aside0.mk (HT2.out.turns HN2.out ht3); clear hi3 ht3)
        | (go_at_call 152; refine (num_calls HI3.out (by first | exact hML.out | (rw [Int.natAbs_neg]; exact hML.out)) HT3.out).mono ?_; rintro e' w5 ⟨u, rfl, hu5, hb5⟩; obtain ⟨A3, c3, rfl, hn5⟩ := hu5.slice; have HN5 := Aside0.mk hn5; have HB5 := Aside0.mk (below_step HB3.out hb5); have hbl5 := blk_below HBL3.out hb5; obtain ⟨k0, k1, k2⟩ := blk3 hbl5; have hfr := blk_frozen hbl5; have f0 := hfr 0; have f1 := hfr 1; have f2 := hfr 2; have HBL5 := Aside0.mk hbl5; clear hfr hu5 hn5 hb5 hbl5))
      refine bodyPost_ret (results_ct rfl _ _ (w.heap.size) 155 #[.bool (numF (signed false F) ((1:Int) - 1075)).1.neg, .slice A3 (digs (numF (signed false F) ((1:Int) - 1075)).1.m).length c3, .int .i64 (numF (signed false F) ((1:Int) - 1075)).1.e] (0, 0) _ rfl (blk_put (blk_put (blk_put HBL5.out 0 _ rfl) 1 _ rfl) 2 _ rfl) Tryz.underlying155 rfl (by kernel_rfl)) rfl ?_
      rw [HR.out]
      refine ⟨_, rfl, ⟨_, rfl, ?_⟩, ?_⟩
      · exact HN5.out.turnsN (NumBlk.noWord HBL5.out) (((Turns.set _ w.heap.size 0 _).trans (Turns.set _ w.heap.size 1 _)).trans (Turns.set _ w.heap.size 2 _))
      · exact Turns.below HB5.out HB5.out.size (Nat.le_refl _) (((Turns.set _ w.heap.size 0 _).trans (Turns.set _ w.heap.size 1 _)).trans (Turns.set _ w.heap.size 2 _))
    · subst hs
      rw [show decide (1 = 1) = true from rfl] at HR
      go_enter Tryz.func125, Tryz.ntmps125
      go_wp2_with (first
        | (go_at_call 149; refine (isnan_calls _ _).mono ?_; rintro e' w1 ⟨rfl, rfl⟩; rw [h1'])
        | (go_at_call 123; refine (isinf_calls _ _).mono ?_; rintro e' w1 ⟨rfl, rfl⟩; rw [h2'])
        | (go_at_call 150; refine (setuint_calls HN2.out _ (by omega) (by omega)).mono ?_; rintro e' w3 ⟨rfl, hi3, ht3⟩; have HI3 := Aside0.mk hi3; have HB3 := Aside0.mk (Turns.below HB2.out (by have := HB2.out.size; omega) (by omega) ht3); have HBL3 := Aside0.mk (ht3.block (by have := HB2.out.size; rw [alloc_size, alloc_size]; omega) (by omega) |>.trans HBL2.out); have HT3 := Aside0.mk (HT2.out.turns HN2.out ht3); clear hi3 ht3)
        | (go_at_call 151; refine (neg_calls HI3.out.blk HI3.out).mono ?_; rintro e' w4 ⟨rfl, hi4, ht4⟩; have HI4 := Aside0.mk hi4; have HB4 := Aside0.mk (Turns.below HB3.out HB3.out.size (by omega) ht4); have HBL4 := Aside0.mk (ht4.block (by have := HB3.out.size; have := HI3.out.lt; omega) (by omega) |>.trans HBL3.out); have HT4 := Aside0.mk (HT3.out.turns HI3.out.blk ht4); clear hi4 ht4)
        | (go_at_call 152; refine (num_calls HI4.out (by first | exact hML.out | (rw [Int.natAbs_neg]; exact hML.out)) HT4.out).mono ?_; rintro e' w5 ⟨u, rfl, hu5, hb5⟩; obtain ⟨A3, c3, rfl, hn5⟩ := hu5.slice; have HN5 := Aside0.mk hn5; have HB5 := Aside0.mk (below_step HB4.out hb5); have hbl5 := blk_below HBL4.out hb5; obtain ⟨k0, k1, k2⟩ := blk3 hbl5; have hfr := blk_frozen hbl5; have f0 := hfr 0; have f1 := hfr 1; have f2 := hfr 2; have HBL5 := Aside0.mk hbl5; clear hfr hu5 hn5 hb5 hbl5))
      refine bodyPost_ret (results_ct rfl _ _ (w.heap.size) 155 #[.bool (numF (signed true F) ((1:Int) - 1075)).1.neg, .slice A3 (digs (numF (signed true F) ((1:Int) - 1075)).1.m).length c3, .int .i64 (numF (signed true F) ((1:Int) - 1075)).1.e] (0, 0) _ rfl (blk_put (blk_put (blk_put HBL5.out 0 _ rfl) 1 _ rfl) 2 _ rfl) Tryz.underlying155 rfl (by kernel_rfl)) rfl ?_
      rw [HR.out]
      refine ⟨_, rfl, ⟨_, rfl, ?_⟩, ?_⟩
      · exact HN5.out.turnsN (NumBlk.noWord HBL5.out) (((Turns.set _ w.heap.size 0 _).trans (Turns.set _ w.heap.size 1 _)).trans (Turns.set _ w.heap.size 2 _))
      · exact Turns.below HB5.out HB5.out.size (Nat.le_refl _) (((Turns.set _ w.heap.size 0 _).trans (Turns.set _ w.heap.size 1 _)).trans (Turns.set _ w.heap.size 2 _))
  · rw [if_neg hX0] at hMf hEf
    have hb0 : ((X : Int) == 0) = false := by rw [beq_eq_false_iff_ne]; omega
    rw [hMf] at m3
    clear hMf
    subst hEf
    rcases hs with hs | hs
    · subst hs
      rw [show decide (0 = 1) = false from rfl] at HR
      go_enter Tryz.func125, Tryz.ntmps125
      go_wp2_with (first
        | (go_at_call 149; refine (isnan_calls _ _).mono ?_; rintro e' w1 ⟨rfl, rfl⟩; rw [h1'])
        | (go_at_call 123; refine (isinf_calls _ _).mono ?_; rintro e' w1 ⟨rfl, rfl⟩; rw [h2'])
        | (go_at_call 150; refine (setuint_calls HN2.out _ (by omega) (by omega)).mono ?_; rintro e' w3 ⟨rfl, hi3, ht3⟩; have HI3 := Aside0.mk hi3; have HB3 := Aside0.mk (Turns.below HB2.out (by have := HB2.out.size; omega) (by omega) ht3); have HBL3 := Aside0.mk (ht3.block (by have := HB2.out.size; rw [alloc_size, alloc_size]; omega) (by omega) |>.trans HBL2.out); have HT3 := Aside0.mk (HT2.out.turns HN2.out ht3); clear hi3 ht3)
        | (go_at_call 152; refine (num_calls HI3.out (by first | exact hML.out | (rw [Int.natAbs_neg]; exact hML.out)) HT3.out).mono ?_; rintro e' w5 ⟨u, rfl, hu5, hb5⟩; obtain ⟨A3, c3, rfl, hn5⟩ := hu5.slice; have HN5 := Aside0.mk hn5; have HB5 := Aside0.mk (below_step HB3.out hb5); have hbl5 := blk_below HBL3.out hb5; obtain ⟨k0, k1, k2⟩ := blk3 hbl5; have hfr := blk_frozen hbl5; have f0 := hfr 0; have f1 := hfr 1; have f2 := hfr 2; have HBL5 := Aside0.mk hbl5; clear hfr hu5 hn5 hb5 hbl5))
      refine bodyPost_ret (results_ct rfl _ _ (w.heap.size) 155 #[.bool (numF (signed false M) ((X:Int) - 1075)).1.neg, .slice A3 (digs (numF (signed false M) ((X:Int) - 1075)).1.m).length c3, .int .i64 (numF (signed false M) ((X:Int) - 1075)).1.e] (0, 0) _ rfl (blk_put (blk_put (blk_put HBL5.out 0 _ rfl) 1 _ rfl) 2 _ rfl) Tryz.underlying155 rfl (by kernel_rfl)) rfl ?_
      rw [HR.out]
      refine ⟨_, rfl, ⟨_, rfl, ?_⟩, ?_⟩
      · exact HN5.out.turnsN (NumBlk.noWord HBL5.out) (((Turns.set _ w.heap.size 0 _).trans (Turns.set _ w.heap.size 1 _)).trans (Turns.set _ w.heap.size 2 _))
      · exact Turns.below HB5.out HB5.out.size (Nat.le_refl _) (((Turns.set _ w.heap.size 0 _).trans (Turns.set _ w.heap.size 1 _)).trans (Turns.set _ w.heap.size 2 _))
    · subst hs
      rw [show decide (1 = 1) = true from rfl] at HR
      go_enter Tryz.func125, Tryz.ntmps125
      go_wp2_with (first
        | (go_at_call 149; refine (isnan_calls _ _).mono ?_; rintro e' w1 ⟨rfl, rfl⟩; rw [h1'])
        | (go_at_call 123; refine (isinf_calls _ _).mono ?_; rintro e' w1 ⟨rfl, rfl⟩; rw [h2'])
        | (go_at_call 150; refine (setuint_calls HN2.out _ (by omega) (by omega)).mono ?_; rintro e' w3 ⟨rfl, hi3, ht3⟩; have HI3 := Aside0.mk hi3; have HB3 := Aside0.mk (Turns.below HB2.out (by have := HB2.out.size; omega) (by omega) ht3); have HBL3 := Aside0.mk (ht3.block (by have := HB2.out.size; rw [alloc_size, alloc_size]; omega) (by omega) |>.trans HBL2.out); have HT3 := Aside0.mk (HT2.out.turns HN2.out ht3); clear hi3 ht3)
        | (go_at_call 151; refine (neg_calls HI3.out.blk HI3.out).mono ?_; rintro e' w4 ⟨rfl, hi4, ht4⟩; have HI4 := Aside0.mk hi4; have HB4 := Aside0.mk (Turns.below HB3.out HB3.out.size (by omega) ht4); have HBL4 := Aside0.mk (ht4.block (by have := HB3.out.size; have := HI3.out.lt; omega) (by omega) |>.trans HBL3.out); have HT4 := Aside0.mk (HT3.out.turns HI3.out.blk ht4); clear hi4 ht4)
        | (go_at_call 152; refine (num_calls HI4.out (by first | exact hML.out | (rw [Int.natAbs_neg]; exact hML.out)) HT4.out).mono ?_; rintro e' w5 ⟨u, rfl, hu5, hb5⟩; obtain ⟨A3, c3, rfl, hn5⟩ := hu5.slice; have HN5 := Aside0.mk hn5; have HB5 := Aside0.mk (below_step HB4.out hb5); have hbl5 := blk_below HBL4.out hb5; obtain ⟨k0, k1, k2⟩ := blk3 hbl5; have hfr := blk_frozen hbl5; have f0 := hfr 0; have f1 := hfr 1; have f2 := hfr 2; have HBL5 := Aside0.mk hbl5; clear hfr hu5 hn5 hb5 hbl5))
      refine bodyPost_ret (results_ct rfl _ _ (w.heap.size) 155 #[.bool (numF (signed true M) ((X:Int) - 1075)).1.neg, .slice A3 (digs (numF (signed true M) ((X:Int) - 1075)).1.m).length c3, .int .i64 (numF (signed true M) ((X:Int) - 1075)).1.e] (0, 0) _ rfl (blk_put (blk_put (blk_put HBL5.out 0 _ rfl) 1 _ rfl) 2 _ rfl) Tryz.underlying155 rfl (by kernel_rfl)) rfl ?_
      rw [HR.out]
      refine ⟨_, rfl, ⟨_, rfl, ?_⟩, ?_⟩
      · exact HN5.out.turnsN (NumBlk.noWord HBL5.out) (((Turns.set _ w.heap.size 0 _).trans (Turns.set _ w.heap.size 1 _)).trans (Turns.set _ w.heap.size 2 _))
      · exact Turns.below HB5.out HB5.out.size (Nat.le_refl _) (((Turns.set _ w.heap.size 0 _).trans (Turns.set _ w.heap.size 1 _)).trans (Turns.set _ w.heap.size 2 _))
end Go.Proofs.YtinmbcomnjmmjaaGreatDoor
namespace Go.Proofs.YtinmbcomnjmmjaaGreatDoor
open Go.RowKit Go.Proofs.YtinmbcomnjmmjaaGreatDoorW.PrintWords Go.Proofs.YtinmbcomnjmmjaaGreatDoorW.PrintLast Go.Proofs.YtinmbcomnjmmjaaGreatDoorW.PrintMore
open X
theorem ok_bl {a : Nm} (h : a.ok = true) (hm : a.m ≠ 0) : bl a.m ≤ 65536 ∧ -65536 ≤ a.e ∧ a.e ≤ 65536 := by
  unfold Nm.ok at h
  rw [if_neg hm] at h
  simp only [Bool.and_eq_true, decide_eq_true_eq] at h
  exact ⟨Nat.le_trans (bl_le_len a.m) (by omega), h.2.2.1, h.2.2.2⟩
set_option maxHeartbeats 2000000 in
set_option maxRecDepth 100000 in
/-- dyad.Top. -/
theorem top_calls {w : World} {v : Value} {a : Nm} (h : NumV w v a) (ho : a.ok = true) (hm : a.m ≠ 0) (hl : Fits a.m) :
    Calls Tryz.prog 205 #[v] w fun e w' => e = .returned (.int .i64 ((bl a.m : Int) + a.e)) ∧ Below w.heap.size w w' := by
  obtain ⟨A, c, rfl, hna⟩ := h.slice
  have h0 : (((digs a.m).length : Int) == 0) = false := beq_eq_false_iff_ne.mpr (fun e => hm ((digs_nil).1 (List.length_eq_zero_iff.1 (by omega))))
  obtain ⟨b1, b2, b3⟩ := ok_bl ho hm
  have HV0 := Aside0.mk h
  have HL := Aside0.mk hl
  clear hna hm hl h
  have HBX := Aside0.mk (alloc_at w (.cells #[.bool a.neg, .slice A (digs a.m).length c, .int .i64 a.e] 155))
  have HB1 := Aside0.mk (alloc_below w (.cells #[.bool a.neg, .slice A (digs a.m).length c, .int .i64 a.e] 155))
  have HV1 := Aside0.mk (HV0.out.below HB1.out)
  obtain ⟨k0, k1, k2⟩ := blk3 HBX.out
  obtain ⟨T, hT⟩ : ∃ T, bl a.m = T := ⟨_, rfl⟩
  have HTT := Aside0.mk hT
  rw [hT] at b1 ⊢
  clear hT
  generalize (digs a.m).length = la at *
  go_enter Tryz.func205, Tryz.ntmps205
  go_upto_region 3 with (go_at_call 158; refine (valid_calls HV1.out HL.out).mono ?_; rintro e' w2 ⟨rfl, hb2⟩; rw [ho]; have HBX2 := Aside0.mk (blk_below HBX.out hb2); have HB2 := Aside0.mk (below_step HB1.out hb2); have HV2 := Aside0.mk (HV1.out.below hb2); obtain ⟨k0, k1, k2⟩ := blk3 HBX2.out; clear hb2)
  have hS0 : Below w2.heap.size w2 w2.drew ∧ w2.drew.cell? ⟨w.heap.size, 0, none⟩ = some (.bool a.neg) ∧ w2.drew.cell? ⟨w.heap.size, 1, none⟩ = some (.slice A la c) ∧ w2.drew.cell? ⟨w.heap.size, 2, none⟩ = some (.int .i64 a.e) := ⟨(Below.refl _ _).drew, k0, k1, k2⟩
  go_region_held3 (fun w' => Below w2.heap.size w2 w' ∧ w'.cell? ⟨w.heap.size, 0, none⟩ = some (.bool a.neg) ∧ w'.cell? ⟨w.heap.size, 1, none⟩ = some (.slice A la c) ∧ w'.cell? ⟨w.heap.size, 2, none⟩ = some (.int .i64 a.e))
    (first | exact hS0 | exact hSn)
    (first
      | (go_at_call 160; have hS := ‹Below w2.heap.size w2 _ ∧ _›; refine (value_calls (HV2.out.below hS.1) HL.out).mono ?_; rintro e' w4 ⟨g, rfl, hg, hi4, hb4⟩; have HI4 := Aside0.mk hi4; have hSn : Below w2.heap.size w2 w4 ∧ w4.cell? ⟨w.heap.size, 0, none⟩ = some (.bool a.neg) ∧ w4.cell? ⟨w.heap.size, 1, none⟩ = some (.slice A la c) ∧ w4.cell? ⟨w.heap.size, 2, none⟩ = some (.int .i64 a.e) := ⟨below_step hS.1 hb4, pw_cell_below hb4 hS.2.1, pw_cell_below hb4 hS.2.2.1, pw_cell_below hb4 hS.2.2.2⟩; clear hS hi4 hb4)
      | (go_at_call 202; refine (ibitlen_calls HI4.out (by rw [signed_abs]; exact HL.out)).mono ?_; rintro e' w5 ⟨rfl, rfl⟩; rw [signed_abs, HTT.out]))
  rw [show IntKind.i64.wrap ((T : Int) + a.e) = (T : Int) + a.e from i64_id (by omega) (by omega)]
  go_wp2
  go_ret
  exact ⟨rfl, below_step HB2.out hSn.1⟩
end Go.Proofs.YtinmbcomnjmmjaaGreatDoor
namespace Go.Proofs.YtinmbcomnjmmjaaGreatDoor
open Go.RowKit Go.Proofs.YtinmbcomnjmmjaaGreatDoorW.PrintWords Go.Proofs.YtinmbcomnjmmjaaGreatDoorW.PrintLast Go.Proofs.YtinmbcomnjmmjaaGreatDoorW.PrintMore
open X
set_option maxHeartbeats 2000000 in
set_option maxRecDepth 100000 in
/-- dyad.far. -/
theorem far_calls {w : World} {va vb : Value} {a b : Nm} (ha : NumV w va a) (hb : NumV w vb b) (hoa : a.ok = true) (hob : b.ok = true) (hma : a.m ≠ 0) (hmb : b.m ≠ 0) (fa : Fits a.m) (fb : Fits b.m) :
    Calls Tryz.prog 155 #[va, vb] w fun e w' => e = .returned (.bool (decide (65538 < max ((bl a.m : Int) + a.e) ((bl b.m : Int) + b.e) - min a.e b.e))) ∧ Below w.heap.size w w' := by
  obtain ⟨A, ca, rfl, hna⟩ := ha.slice
  obtain ⟨B, cb, rfl, hnb⟩ := hb.slice
  obtain ⟨x1, x2, x3⟩ := ok_bl hoa hma
  obtain ⟨y1, y2, y3⟩ := ok_bl hob hmb
  have h0a : (((digs a.m).length : Int) == 0) = false := beq_eq_false_iff_ne.mpr (fun e => hma ((digs_nil).1 (List.length_eq_zero_iff.1 (by omega))))
  have h0b : (((digs b.m).length : Int) == 0) = false := beq_eq_false_iff_ne.mpr (fun e => hmb ((digs_nil).1 (List.length_eq_zero_iff.1 (by omega))))
  have HB1 := Aside0.mk (below_step (alloc_below w (.cells #[.bool a.neg, .slice A (digs a.m).length ca, .int .i64 a.e] 155)) (alloc_below _ (.cells #[.bool b.neg, .slice B (digs b.m).length cb, .int .i64 b.e] 155)))
  have hBA := blk_alloc (alloc_at w (.cells #[.bool a.neg, .slice A (digs a.m).length ca, .int .i64 a.e] 155)) (.cells #[.bool b.neg, .slice B (digs b.m).length cb, .int .i64 b.e] 155)
  have hBB := alloc_at (w.alloc (.cells #[.bool a.neg, .slice A (digs a.m).length ca, .int .i64 a.e] 155)) (.cells #[.bool b.neg, .slice B (digs b.m).length cb, .int .i64 b.e] 155)
  rw [alloc_size] at hBB
  obtain ⟨k0, k1, k2⟩ := blk3 hBA
  obtain ⟨l0, l1, l2⟩ := blk3 hBB
  have HVA := Aside0.mk (ha.below HB1.out)
  have HVB := Aside0.mk (hb.below HB1.out)
  have FA := Aside0.mk fa; have FB := Aside0.mk fb
  have OA := Aside0.mk hoa; have OB := Aside0.mk hob; have MA := Aside0.mk hma; have MB := Aside0.mk hmb
  clear hna hnb ha hb hoa hob hma hmb fa fb hBA hBB
  obtain ⟨TA, hTA⟩ : ∃ T, bl a.m = T := ⟨_, rfl⟩
  obtain ⟨TB, hTB⟩ : ∃ T, bl b.m = T := ⟨_, rfl⟩
  have HTA := Aside0.mk hTA; have HTB := Aside0.mk hTB
  rw [hTA] at x1 ⊢
  rw [hTB] at y1 ⊢
  clear hTA hTB
  generalize (digs a.m).length = la at *
  generalize (digs b.m).length = lb at *
  go_enter Tryz.func155, Tryz.ntmps155
  go_upto_region 3 with (go_at_call 158; skip)
  generalize (w.alloc _).alloc _ = w2 at *
  have hS0 : Below w2.heap.size w2 w2.drew ∧ (w2.drew.cell? ⟨w.heap.size, 0, none⟩ = some (.bool a.neg) ∧ w2.drew.cell? ⟨w.heap.size, 1, none⟩ = some (.slice A la ca) ∧ w2.drew.cell? ⟨w.heap.size, 2, none⟩ = some (.int .i64 a.e)) ∧ (w2.drew.cell? ⟨w.heap.size + 1, 0, none⟩ = some (.bool b.neg) ∧ w2.drew.cell? ⟨w.heap.size + 1, 1, none⟩ = some (.slice B lb cb) ∧ w2.drew.cell? ⟨w.heap.size + 1, 2, none⟩ = some (.int .i64 b.e)) := ⟨(Below.refl _ _).drew, ⟨k0, k1, k2⟩, l0, l1, l2⟩
  have H1 := Aside0.mk (Nat.le_refl 1)
  go_region_held3 (fun w' => Below w2.heap.size w2 w' ∧ (w'.cell? ⟨w.heap.size, 0, none⟩ = some (.bool a.neg) ∧ w'.cell? ⟨w.heap.size, 1, none⟩ = some (.slice A la ca) ∧ w'.cell? ⟨w.heap.size, 2, none⟩ = some (.int .i64 a.e)) ∧ (w'.cell? ⟨w.heap.size + 1, 0, none⟩ = some (.bool b.neg) ∧ w'.cell? ⟨w.heap.size + 1, 1, none⟩ = some (.slice B lb cb) ∧ w'.cell? ⟨w.heap.size + 1, 2, none⟩ = some (.int .i64 b.e)))
    (first | exact hS0 | exact hSn)
    (first
      | (go_at_call 205; have hflag := H1; clear hflag; have hS := ‹Below w2.heap.size w2 _ ∧ _›; refine (top_calls (HVA.out.below hS.1) OA.out MA.out FA.out).mono ?_; rintro e' w4 ⟨rfl, hb4⟩; rw [HTA.out]; clear H1; have hSn : Below w2.heap.size w2 w4 ∧ (w4.cell? ⟨w.heap.size, 0, none⟩ = some (.bool a.neg) ∧ w4.cell? ⟨w.heap.size, 1, none⟩ = some (.slice A la ca) ∧ w4.cell? ⟨w.heap.size, 2, none⟩ = some (.int .i64 a.e)) ∧ (w4.cell? ⟨w.heap.size + 1, 0, none⟩ = some (.bool b.neg) ∧ w4.cell? ⟨w.heap.size + 1, 1, none⟩ = some (.slice B lb cb) ∧ w4.cell? ⟨w.heap.size + 1, 2, none⟩ = some (.int .i64 b.e)) := ⟨below_step hS.1 hb4, ⟨pw_cell_below hb4 hS.2.1.1, pw_cell_below hb4 hS.2.1.2.1, pw_cell_below hb4 hS.2.1.2.2⟩, pw_cell_below hb4 hS.2.2.1, pw_cell_below hb4 hS.2.2.2.1, pw_cell_below hb4 hS.2.2.2.2⟩; clear hS hb4)
      | (go_at_call 205; have hS := ‹Below w2.heap.size w2 _ ∧ _›; refine (top_calls (HVB.out.below hS.1) OB.out MB.out FB.out).mono ?_; rintro e' w4 ⟨rfl, hb4⟩; rw [HTB.out]; have hSn : Below w2.heap.size w2 w4 ∧ (w4.cell? ⟨w.heap.size, 0, none⟩ = some (.bool a.neg) ∧ w4.cell? ⟨w.heap.size, 1, none⟩ = some (.slice A la ca) ∧ w4.cell? ⟨w.heap.size, 2, none⟩ = some (.int .i64 a.e)) ∧ (w4.cell? ⟨w.heap.size + 1, 0, none⟩ = some (.bool b.neg) ∧ w4.cell? ⟨w.heap.size + 1, 1, none⟩ = some (.slice B lb cb) ∧ w4.cell? ⟨w.heap.size + 1, 2, none⟩ = some (.int .i64 b.e)) := ⟨below_step hS.1 hb4, ⟨pw_cell_below hb4 hS.2.1.1, pw_cell_below hb4 hS.2.1.2.1, pw_cell_below hb4 hS.2.1.2.2⟩, pw_cell_below hb4 hS.2.2.1, pw_cell_below hb4 hS.2.2.2.1, pw_cell_below hb4 hS.2.2.2.2⟩; clear hS hb4))
  all_goals (rw [show IntKind.i64.wrap (max ((TA : Int) + a.e) ((TB : Int) + b.e) - min a.e b.e) = max ((TA : Int) + a.e) ((TB : Int) + b.e) - min a.e b.e from i64_id (by omega) (by omega)]; go_wp2; go_ret; exact ⟨rfl, below_step HB1.out hSn.1⟩)
end Go.Proofs.YtinmbcomnjmmjaaGreatDoor
namespace Go.Proofs.YtinmbcomnjmmjaaGreatDoor
open Go.RowKit Go.Proofs.YtinmbcomnjmmjaaGreatDoorW.PrintWords Go.Proofs.YtinmbcomnjmmjaaGreatDoorW.PrintLast Go.Proofs.YtinmbcomnjmmjaaGreatDoorW.PrintMore
open X
theorem cell_turn {w w1 : World} {g i j : Nat} {v : Value} (hc : w.cell? ⟨i, j, none⟩ = some v) (ht : Turns g w w1) (hn : i ≠ g) : w1.cell? ⟨i, j, none⟩ = some v := by
  have hlt := World.block_lt_of_cell? w _ hc
  unfold World.cell? at hc ⊢
  rw [ht.block hlt hn]; exact hc
set_option maxHeartbeats 2000000 in
set_option maxRecDepth 100000 in
/-- dyad.level. -/
theorem level_calls {w : World} {va vb : Value} {a b : Nm} (ha : NumV w va a) (hb : NumV w vb b) (hoa : a.ok = true) (hob : b.ok = true) (hma : a.m ≠ 0) (hmb : b.m ≠ 0) (fa : Fits a.m) (fb : Fits b.m) :
    Calls Tryz.prog 156 #[va, vb] w fun e w' => ∃ g h, e = .returned (.tuple #[pt g, pt h, .int .i64 (min a.e b.e)]) ∧ w.heap.size ≤ g ∧ w.heap.size ≤ h ∧ g ≠ h ∧ IntAt w' g (signed a.neg a.m * 2 ^ (a.e - min a.e b.e).toNat) ∧ IntAt w' h (signed b.neg b.m * 2 ^ (b.e - min a.e b.e).toNat) ∧ Below w.heap.size w w' := by
  obtain ⟨A, ca, rfl, hna⟩ := ha.slice
  obtain ⟨B, cb, rfl, hnb⟩ := hb.slice
  obtain ⟨x1, x2, x3⟩ := ok_bl hoa hma
  obtain ⟨y1, y2, y3⟩ := ok_bl hob hmb
  have HB1 := Aside0.mk (below_step (alloc_below w (.cells #[.bool a.neg, .slice A (digs a.m).length ca, .int .i64 a.e] 155)) (alloc_below _ (.cells #[.bool b.neg, .slice B (digs b.m).length cb, .int .i64 b.e] 155)))
  have hBA := blk_alloc (alloc_at w (.cells #[.bool a.neg, .slice A (digs a.m).length ca, .int .i64 a.e] 155)) (.cells #[.bool b.neg, .slice B (digs b.m).length cb, .int .i64 b.e] 155)
  have hBB := alloc_at (w.alloc (.cells #[.bool a.neg, .slice A (digs a.m).length ca, .int .i64 a.e] 155)) (.cells #[.bool b.neg, .slice B (digs b.m).length cb, .int .i64 b.e] 155)
  rw [alloc_size] at hBB
  obtain ⟨k0, k1, k2⟩ := blk3 hBA
  obtain ⟨l0, l1, l2⟩ := blk3 hBB
  have HVA := Aside0.mk (ha.below HB1.out)
  have HVB := Aside0.mk (hb.below HB1.out)
  have HBA := Aside0.mk hBA; have HBB := Aside0.mk hBB
  have FA := Aside0.mk fa; have FB := Aside0.mk fb
  have sA : ((signed a.neg a.m).sign == 0) = false := beq_eq_false_iff_ne.mpr (fun e => signed_ne hma (Int.sign_eq_zero_iff_zero.1 e))
  have sB : ((signed b.neg b.m).sign == 0) = false := beq_eq_false_iff_ne.mpr (fun e => signed_ne hmb (Int.sign_eq_zero_iff_zero.1 e))
  obtain ⟨M, hM⟩ : ∃ M, min a.e b.e = M := ⟨_, rfl⟩
  have m1 : M ≤ a.e := by omega
  have m2 : M ≤ b.e := by omega
  have m3 : -65536 ≤ M := by omega
  have i1 : IntKind.i64.wrap (a.e - M) = a.e - M := i64_id (by omega) (by omega)
  have i2 : IntKind.i64.wrap (b.e - M) = b.e - M := i64_id (by omega) (by omega)
  have i3 : IntKind.u64.wrap (a.e - M) = a.e - M := u64_id (by omega) (by omega)
  have i4 : IntKind.u64.wrap (b.e - M) = b.e - M := u64_id (by omega) (by omega)
  have hLT := Aside0.mk (blk_lt HBB.out)
  rw [hM]
  clear hna hnb ha hb hoa hob hma hmb fa fb hBA hBB
  have FSA : Aside0 (Fits (signed a.neg a.m).natAbs) := ⟨by rw [signed_abs]; exact FA.out⟩
  have FSB : Aside0 (Fits (signed b.neg b.m).natAbs) := ⟨by rw [signed_abs]; exact FB.out⟩
  generalize (digs a.m).length = la at *
  generalize (digs b.m).length = lb at *
  go_enter Tryz.func156, Tryz.ntmps156
  go_upto_region 1 with (go_at_call 158; skip)
  generalize (w.alloc _).alloc _ = w2 at *
  go_cut [7, 8, 9] (fun v7 v8 v9 wc => ∃ gx gy, v7 = pt gx ∧ v8 = pt gy ∧ v9 = .int .i64 M ∧ gx ≠ gy ∧ w2.heap.size ≤ gx ∧ w2.heap.size ≤ gy ∧ Aside0 (IntAt wc gx (signed a.neg a.m)) ∧ Aside0 (IntAt wc gy (signed b.neg b.m)) ∧ Aside0 (Below w2.heap.size w2 wc))
  case first =>
    have hS0 : Below w2.heap.size w2 w2.drew ∧ w2.drew.cell? ⟨w.heap.size, 0, none⟩ = some (.bool a.neg) ∧ w2.drew.cell? ⟨w.heap.size, 1, none⟩ = some (.slice A la ca) ∧ w2.drew.cell? ⟨w.heap.size, 2, none⟩ = some (.int .i64 a.e) ∧ w2.drew.cell? ⟨w.heap.size + 1, 0, none⟩ = some (.bool b.neg) ∧ w2.drew.cell? ⟨w.heap.size + 1, 1, none⟩ = some (.slice B lb cb) ∧ w2.drew.cell? ⟨w.heap.size + 1, 2, none⟩ = some (.int .i64 b.e) := ⟨(Below.refl _ _).drew, k0, k1, k2, l0, l1, l2⟩
    go_region_held3 (fun w' => Below w2.heap.size w2 w' ∧ w'.cell? ⟨w.heap.size, 0, none⟩ = some (.bool a.neg) ∧ w'.cell? ⟨w.heap.size, 1, none⟩ = some (.slice A la ca) ∧ w'.cell? ⟨w.heap.size, 2, none⟩ = some (.int .i64 a.e) ∧ w'.cell? ⟨w.heap.size + 1, 0, none⟩ = some (.bool b.neg) ∧ w'.cell? ⟨w.heap.size + 1, 1, none⟩ = some (.slice B lb cb) ∧ w'.cell? ⟨w.heap.size + 1, 2, none⟩ = some (.int .i64 b.e))
      (first | exact hS0 | exact hSn)
      (first
        | (go_at_call 160; have hS := ‹Below w2.heap.size w2 _ ∧ _›; with_reducible refine (value_calls (HVA.out.below hS.1) FA.out).mono ?_; rintro e' w6 ⟨gx, rfl, hgx, hix, hbx⟩; have hSn := (⟨below_step hS.1 hbx, pw_cell_below hbx hS.2.1, pw_cell_below hbx hS.2.2.1, pw_cell_below hbx hS.2.2.2.1, pw_cell_below hbx hS.2.2.2.2.1, pw_cell_below hbx hS.2.2.2.2.2.1, pw_cell_below hbx hS.2.2.2.2.2.2⟩ : Below w2.heap.size w2 w6 ∧ w6.cell? ⟨w.heap.size, 0, none⟩ = some (.bool a.neg) ∧ w6.cell? ⟨w.heap.size, 1, none⟩ = some (.slice A la ca) ∧ w6.cell? ⟨w.heap.size, 2, none⟩ = some (.int .i64 a.e) ∧ w6.cell? ⟨w.heap.size + 1, 0, none⟩ = some (.bool b.neg) ∧ w6.cell? ⟨w.heap.size + 1, 1, none⟩ = some (.slice B lb cb) ∧ w6.cell? ⟨w.heap.size + 1, 2, none⟩ = some (.int .i64 b.e)); have hx5 : w2.heap.size ≤ gx := Nat.le_trans hS.1.size hgx; have HIX := Aside0.mk hix; try (have hne : gx ≠ gy := (by have := HIY.out.lt; omega); have hy9 := HIY.out.below hbx; clear HIY; have HIY := Aside0.mk hy9; clear hy9); clear hix hbx hS)
        | (go_at_call 160; have hS := ‹Below w2.heap.size w2 _ ∧ _›; with_reducible refine (value_calls (HVB.out.below hS.1) FB.out).mono ?_; rintro e' w6 ⟨gy, rfl, hgy, hiy, hby⟩; have hSn := (⟨below_step hS.1 hby, pw_cell_below hby hS.2.1, pw_cell_below hby hS.2.2.1, pw_cell_below hby hS.2.2.2.1, pw_cell_below hby hS.2.2.2.2.1, pw_cell_below hby hS.2.2.2.2.2.1, pw_cell_below hby hS.2.2.2.2.2.2⟩ : Below w2.heap.size w2 w6 ∧ w6.cell? ⟨w.heap.size, 0, none⟩ = some (.bool a.neg) ∧ w6.cell? ⟨w.heap.size, 1, none⟩ = some (.slice A la ca) ∧ w6.cell? ⟨w.heap.size, 2, none⟩ = some (.int .i64 a.e) ∧ w6.cell? ⟨w.heap.size + 1, 0, none⟩ = some (.bool b.neg) ∧ w6.cell? ⟨w.heap.size + 1, 1, none⟩ = some (.slice B lb cb) ∧ w6.cell? ⟨w.heap.size + 1, 2, none⟩ = some (.int .i64 b.e)); have hy5 : w2.heap.size ≤ gy := Nat.le_trans hS.1.size hgy; have HIY := Aside0.mk hiy; try (have hne : gx ≠ gy := (by have := HIX.out.lt; omega); have hx9 := HIX.out.below hby; clear HIX; have HIX := Aside0.mk hx9; clear hx9); clear hiy hby hS))
    all_goals
      try go_wp2
      go_meet
      case rel => exact ⟨gx, gy, rfl, rfl, rfl, hne, hx5, hy5, HIX, HIY, ⟨hSn.1⟩⟩
  case rest =>
    obtain ⟨gx, gy, rfl, rfl, rfl, hne, hgx, hgy, HX, HY, HBc⟩ := hcut
    have hlt := hLT.out
    have p2 := pw_cell_below HBc.out k2
    have q2 := pw_cell_below HBc.out l2
    have hxl : w.heap.size + 1 < gx := by omega
    have hyl : w.heap.size + 1 < gy := by omega
    clear k0 k1 k2 l0 l1 l2 x1 y1
    have hsX : Aside0 (IntAt wc gx (signed a.neg a.m)) := HX
    obtain ⟨X, hX⟩ : ∃ X, signed a.neg a.m = X := ⟨_, rfl⟩
    obtain ⟨Y, hY⟩ : ∃ Y, signed b.neg b.m = Y := ⟨_, rfl⟩
    rw [hX] at HX FSA sA
    rw [hY] at HY FSB sB
    have HXE := Aside0.mk hX; have HYE := Aside0.mk hY
    have hna : 0 ≤ a.e - M := by omega
    have hnb : 0 ≤ b.e - M := by omega
    have hna1 : a.e - M ≤ 131072 := by omega
    have hnb1 : b.e - M ≤ 131072 := by omega
    have sA' : ((X.sign : Int) != 0) = true := by rw [bne, sA]; rfl
    have sB' : ((Y.sign : Int) != 0) = true := by rw [bne, sB]; rfl
    clear hX hY hsX hM
    go_upto_region 10 with (first
      | (go_at_call 179; with_reducible refine (sign_calls HX.out).mono ?_; rintro e' wc ⟨rfl, rfl⟩)
      | (go_at_call 179; with_reducible refine (sign_calls HY.out).mono ?_; rintro e' wc ⟨rfl, rfl⟩)
      | (go_at_call 206; with_reducible refine (lsh_calls HX.out.blk HX.out FSA.out hna (by omega)).mono ?_; rintro e' w6 ⟨rfl, hi6, ht6⟩; have HX6 := Aside0.mk hi6; have q2' := cell_turn q2 ht6 (by omega); have HY6 := Aside0.mk (HY.out.turns (Ne.symm hne) HX.out.blk ht6); have HB6 := Aside0.mk (Turns.below HBc.out HBc.out.size hgx ht6); clear hi6 ht6 HX HY p2 q2; have HX := HX6; have HY := HY6; have q2 := q2'; clear q2')
      | (go_at_call 206; with_reducible refine (lsh_calls HY.out.blk HY.out FSB.out hnb (by omega)).mono ?_; rintro e' w7 ⟨rfl, hi7, ht7⟩; have HY7 := Aside0.mk hi7; have HX7 := Aside0.mk (HX.out.turns hne HY.out.blk ht7); have HB7 := Aside0.mk (Turns.below HB6.out HB6.out.size hgy ht7); clear hi7 ht7))
    go_wp2
    go_ret3
    refine ⟨gx, gy, rfl, by omega, by omega, hne, ?_, ?_, below_step HB1.out HB7.out⟩
    · rw [HXE.out]; exact HX7.out
    · rw [HYE.out]; exact HY7.out
end Go.Proofs.YtinmbcomnjmmjaaGreatDoor
