/- Proved: a part of what the statement on the names of parse needs: walks of functions of the program, and plain laws. (Texts Ck, Cl, Cm, En, Eo.) -/
import Derived.Test.YtinmbcomnjmmjaaGreatDoorQ34
import Derived.Test.YtinmbcomnjmmjaaGreatDoorQ25
namespace Go.Proofs.YtinmbcomnjmmjaaGreatDoor
open Go.RowKit Go.Proofs.YtinmbcomnjmmjaaGreatDoorW.PrintWords Go.Proofs.YtinmbcomnjmmjaaGreatDoorW.PrintLast Go.Proofs.YtinmbcomnjmmjaaGreatDoorW.PrintMore
open X
def levN (a : Nm) (e : Int) : Int := signed a.neg a.m * 2 ^ (a.e - e).toNat
def addF (a b : Nm) : Nm × Int := numF (levN a (min a.e b.e) + levN b (min a.e b.e)) (min a.e b.e)
theorem lev_lt {a : Nm} {e : Int} {D : Nat} (h : bl a.m ≤ 65536) (h1 : a.e ≤ 65536) (h2 : -65536 ≤ e) (hD : 200000 ≤ D) : (levN a e).natAbs < 2 ^ D := by
  unfold levN
  rw [Int.natAbs_mul, Int.natAbs_pow, signed_abs]
  have l := lt_bl a.m
  calc a.m * (2 : Int).natAbs ^ (a.e - e).toNat = a.m * 2 ^ (a.e - e).toNat := rfl
    _ < 2 ^ bl a.m * 2 ^ (a.e - e).toNat := Nat.mul_lt_mul_of_pos_right l (Nat.pow_pos (by decide))
    _ = 2 ^ (bl a.m + (a.e - e).toNat) := (Nat.pow_add ..).symm
    _ ≤ 2 ^ D := Nat.pow_le_pow_right (by decide) (by omega)
set_option maxHeartbeats 4000000 in
set_option maxRecDepth 100000 in
/-- dyad.Add. -/
theorem dadd_calls {w : World} {va vb : Value} {a b : Nm} (ha : NumV w va a) (hb : NumV w vb b) (hoa : a.ok = true) (hob : b.ok = true) (hma : a.m ≠ 0) (hmb : b.m ≠ 0) (hfar : max ((bl a.m : Int) + a.e) ((bl b.m : Int) + b.e) - min a.e b.e ≤ 65538) (hT : Tab32 w) :
    Calls Tryz.prog 127 #[va, vb] w fun e' w' => ∃ u, e' = .returned (.tuple #[u, .int .i64 (addF a b).2]) ∧ NumV w' u (addF a b).1 ∧ Below w.heap.size w w' := by
  obtain ⟨A, ca, rfl, hna⟩ := ha.slice
  obtain ⟨B, cb, rfl, hnb⟩ := hb.slice
  obtain ⟨x1, x2, x3⟩ := ok_bl hoa hma
  obtain ⟨y1, y2, y3⟩ := ok_bl hob hmb
  obtain ⟨D, hD⟩ : ∃ D : Nat, D = 200000 := ⟨_, rfl⟩
  have fa : Fits a.m := fits_bits (lt_bl a.m) (by omega)
  have fb : Fits b.m := fits_bits (lt_bl b.m) (by omega)
  have lx := lev_lt (e := min a.e b.e) x1 x3 (by omega) (show 200000 ≤ D by omega)
  have ly := lev_lt (e := min a.e b.e) y1 y3 (by omega) (show 200000 ≤ D by omega)
  obtain ⟨X, hX⟩ : ∃ X, levN a (min a.e b.e) = X := ⟨_, rfl⟩
  obtain ⟨Y, hY⟩ : ∃ Y, levN b (min a.e b.e) = Y := ⟨_, rfl⟩
  have HR : Aside0 (addF a b = numF (X + Y) (min a.e b.e)) := ⟨by unfold addF; rw [hX, hY]⟩
  have HXE := Aside0.mk hX; have HYE := Aside0.mk hY
  rw [hX] at lx
  rw [hY] at ly
  have FX : Aside0 (Fits X.natAbs) := ⟨fits_bits lx (by omega)⟩
  have FY : Aside0 (Fits Y.natAbs) := ⟨fits_bits ly (by omega)⟩
  have hxy : (X + Y).natAbs < 2 ^ (D + 1) := by
    have := Int.natAbs_add_le X Y
    rw [Nat.pow_succ]; omega
  have FS : Aside0 ((digs (X + Y).natAbs).length ≤ 200000000) := ⟨Nat.le_trans (digs_length_le (Nat.lt_of_lt_of_le hxy (Nat.pow_le_pow_left (by decide) (D + 1)))) (by omega)⟩
  clear hX hY lx ly hxy
  have HFA := Aside0.mk fa; have HFB := Aside0.mk fb
  have hf : decide (65538 < max ((bl a.m : Int) + a.e) ((bl b.m : Int) + b.e) - min a.e b.e) = false := decide_eq_false (by omega)
  have HFR := Aside0.mk hf
  have h12 : (a.ok && b.ok) = true := by rw [hoa, hob]; rfl
  have OA := Aside0.mk hoa; have OB := Aside0.mk hob; have MA := Aside0.mk hma; have MB := Aside0.mk hmb
  -- the four new blocks
  have hs1 : (w.alloc (.cells #[.bool a.neg, .slice A (digs a.m).length ca, .int .i64 a.e] 155)).heap.size = w.heap.size + 1 := alloc_size _ _
  have hs2 : ((w.alloc (.cells #[.bool a.neg, .slice A (digs a.m).length ca, .int .i64 a.e] 155)).alloc (.cells #[.bool b.neg, .slice B (digs b.m).length cb, .int .i64 b.e] 155)).heap.size = w.heap.size + 2 := by rw [alloc_size, hs1]
  have hs3 : (((w.alloc (.cells #[.bool a.neg, .slice A (digs a.m).length ca, .int .i64 a.e] 155)).alloc (.cells #[.bool b.neg, .slice B (digs b.m).length cb, .int .i64 b.e] 155)).alloc (.cells #[.bool false, .slice none 0 0, .int .i64 0] 155)).heap.size = w.heap.size + 3 := by rw [alloc_size, hs2]
  have W1 := alloc_below w (.cells #[.bool a.neg, .slice A (digs a.m).length ca, .int .i64 a.e] 155)
  have A1 := alloc_at w (.cells #[.bool a.neg, .slice A (digs a.m).length ca, .int .i64 a.e] 155)
  generalize hw1 : w.alloc (.cells #[.bool a.neg, .slice A (digs a.m).length ca, .int .i64 a.e] 155) = w1 at *
  have W2 := alloc_below w1 (.cells #[.bool b.neg, .slice B (digs b.m).length cb, .int .i64 b.e] 155)
  have A2 := alloc_at w1 (.cells #[.bool b.neg, .slice B (digs b.m).length cb, .int .i64 b.e] 155)
  generalize hw2 : w1.alloc (.cells #[.bool b.neg, .slice B (digs b.m).length cb, .int .i64 b.e] 155) = w2 at *
  have W3 := alloc_below w2 (.cells #[.bool false, .slice none 0 0, .int .i64 0] 155)
  have A3 := alloc_at w2 (.cells #[.bool false, .slice none 0 0, .int .i64 0] 155)
  generalize hw3 : w2.alloc (.cells #[.bool false, .slice none 0 0, .int .i64 0] 155) = w3 at *
  have W4 := alloc_below w3 (.cells #[.bool a.neg, .slice A (digs a.m).length ca, .int .i64 a.e, .bool b.neg, .slice B (digs b.m).length cb, .int .i64 b.e] 155)
  have A4 := alloc_at w3 (.cells #[.bool a.neg, .slice A (digs a.m).length ca, .int .i64 a.e, .bool b.neg, .slice B (digs b.m).length cb, .int .i64 b.e] 155)
  generalize hw4 : w3.alloc (.cells #[.bool a.neg, .slice A (digs a.m).length ca, .int .i64 a.e, .bool b.neg, .slice B (digs b.m).length cb, .int .i64 b.e] 155) = w4 at *
  rw [hs1] at A2
  rw [hs2] at A3
  rw [hs3] at A4
  have B1 := blk_below (blk_below A1 W2) W3
  have B2 := blk_below A2 W3
  have W03 := below_step (below_step W1 W2) W3
  have W04 := below_step W03 W4
  have HV := Aside0.mk (valid2_calls (c := 2) A4 (hna.below W04) (hnb.below W04) fa fb (Nat.le_refl 2))
  have HC1 := Aside0.mk (blk_below B1 W4); have HC2 := Aside0.mk (blk_below B2 W4); have HC3 := Aside0.mk (blk_below A3 W4)
  obtain ⟨k0, k1, k2⟩ := blk3 B1
  obtain ⟨l0, l1, l2⟩ := blk3 B2
  have HW4 := Aside0.mk W04
  have HNA := Aside0.mk (ha.below W04); have HNB := Aside0.mk (hb.below W04); have HT4 := Aside0.mk (hT.below W04)
  clear ha hb hna hnb hT fa fb hoa hob hma hmb hf hfar A1 A2 A3 A4 B1 B2 W1 W2 W3 W4 W03 W04
  go_enter Tryz.func127, Tryz.ntmps127
  go_upto_region 5 with (first
    | (go_at_call 154; refine HV.out.mono ?_; rintro e' w5 ⟨rfl, hb5⟩; rw [h12]; have HA5 := Aside0.mk (blk_below HC1.out hb5); have HB5 := Aside0.mk (blk_below HC2.out hb5); have HC5 := Aside0.mk (blk_below HC3.out hb5); have HW5 := Aside0.mk (below_step HW4.out hb5); have HT5 := Aside0.mk (HT4.out.below hb5); have HNA5 := Aside0.mk (HNA.out.below hb5); have HNB5 := Aside0.mk (HNB.out.below hb5); obtain ⟨p0, p1, p2⟩ := blk3 HA5.out; obtain ⟨q0, q1, q2⟩ := blk3 HB5.out; clear hb5)
    | (go_at_call 155; refine (far_calls HNA5.out HNB5.out OA.out OB.out MA.out MB.out HFA.out HFB.out).mono ?_; rintro e' w6 ⟨rfl, hb6⟩; rw [HFR.out]; have HA6 := Aside0.mk (blk_below HA5.out hb6); have HB6 := Aside0.mk (blk_below HB5.out hb6); have HC6 := Aside0.mk (blk_below HC5.out hb6); have HW6 := Aside0.mk (below_step HW5.out hb6); have HT6 := Aside0.mk (HT5.out.below hb6); have HNA6 := Aside0.mk (HNA5.out.below hb6); have HNB6 := Aside0.mk (HNB5.out.below hb6); obtain ⟨p0', p1', p2'⟩ := blk3 HA6.out; obtain ⟨q0', q1', q2'⟩ := blk3 HB6.out; clear hb6))
  have hsz : w.heap.size + 2 < w6.heap.size := blk_lt HC6.out
  go_wp2_with (first
    | (go_at_call 156; refine (level_calls HNA6.out HNB6.out OA.out OB.out MA.out MB.out HFA.out HFB.out).mono ?_; rintro e' w7 ⟨g, h, rfl, hg, hh, hne, hig, hih, hb7⟩; have HIX : Aside0 (IntAt w7 g X) := ⟨by rw [← HXE.out]; exact hig⟩; have HIY : Aside0 (IntAt w7 h Y) := ⟨by rw [← HYE.out]; exact hih⟩; have HC7 := Aside0.mk (blk_below HC6.out hb7); have HW7 := Aside0.mk (below_step HW6.out hb7); have HT7 := Aside0.mk (HT6.out.below hb7); clear hig hih hb7)
    | (go_at_call 157; refine (iadd_calls HIX.out.blk HIX.out HIY.out FX.out FY.out).mono ?_; rintro e' w8 ⟨rfl, hi8, ht8⟩; have HI8 := Aside0.mk hi8; have HC8 := Aside0.mk ((ht8.block (blk_lt HC7.out) (by omega)).trans HC7.out); have HW8 := Aside0.mk (Turns.below HW7.out HW7.out.size (by omega) ht8); have HT8 := Aside0.mk (HT7.out.turns HIX.out.blk ht8); clear hi8 ht8)
    | (go_at_call 152; refine (num_calls HI8.out FS.out HT8.out).mono ?_; rintro e' w9 ⟨u, rfl, hu9, hb9⟩; obtain ⟨A9, c9, rfl, hn9⟩ := hu9.slice; have HN9 := Aside0.mk hn9; have HB9 := Aside0.mk (below_step HW8.out hb9); have hbl9 := blk_below HC8.out hb9; obtain ⟨r0, r1, r2⟩ := blk3 hbl9; have hfr := blk_frozen hbl9; have f0 := hfr 0; have f1 := hfr 1; have f2 := hfr 2; have HBL9 := Aside0.mk hbl9; clear hfr hu9 hn9 hb9 hbl9))
  refine bodyPost_ret (results_ct rfl _ _ (w.heap.size + 2) 155 #[.bool (numF (X + Y) (min a.e b.e)).1.neg, .slice A9 (digs (numF (X + Y) (min a.e b.e)).1.m).length c9, .int .i64 (numF (X + Y) (min a.e b.e)).1.e] (0, 0) _ rfl (blk_put (blk_put (blk_put HBL9.out 0 _ rfl) 1 _ rfl) 2 _ rfl) Tryz.underlying155 rfl (by kernel_rfl)) rfl ?_
  rw [HR.out]
  refine ⟨_, rfl, ⟨_, rfl, ?_⟩, ?_⟩
  · exact HN9.out.turnsN (NumBlk.noWord HBL9.out) (((Turns.set _ (w.heap.size + 2) 0 _).trans (Turns.set _ (w.heap.size + 2) 1 _)).trans (Turns.set _ (w.heap.size + 2) 2 _))
  · exact Turns.below HB9.out HB9.out.size (by omega) (((Turns.set _ (w.heap.size + 2) 0 _).trans (Turns.set _ (w.heap.size + 2) 1 _)).trans (Turns.set _ (w.heap.size + 2) 2 _))
end Go.Proofs.YtinmbcomnjmmjaaGreatDoor
namespace Go.Proofs.YtinmbcomnjmmjaaGreatDoor
open Go.RowKit Go.Proofs.YtinmbcomnjmmjaaGreatDoorW.PrintWords Go.Proofs.YtinmbcomnjmmjaaGreatDoorW.PrintLast Go.Proofs.YtinmbcomnjmmjaaGreatDoorW.PrintMore
open X
set_option maxHeartbeats 2000000 in
set_option maxRecDepth 100000 in
/-- round.infinite. -/
theorem infinite_calls (b : Nat) (w : World) : Calls Tryz.prog 190 #[.float .f64 b] w fun e w' => e = .returned (.bool (infB b)) ∧ w' = w := by
  go_enter Tryz.func190, Tryz.ntmps190
  go_wp2_with (go_at_call 123; refine (isinf_calls _ _).mono ?_; rintro e w ⟨rfl, rfl⟩)
  go_ret
  exact ⟨rfl, rfl⟩
set_option maxHeartbeats 2000000 in
set_option maxRecDepth 100000 in
/-- round.num. -/
theorem rnum_calls {w : World} {b : Nat} (hb : b < 18446744073709551616) (hT : Tab32 w) :
    Calls Tryz.prog 191 #[.float .f64 b] w fun e' w' => ∃ u, e' = .returned u ∧ NumV w' u (ofF b).1 ∧ Below w.heap.size w w' := by
  have hsa := alloc_size w (.cells #[.bool false, .slice none 0 0, .int .i64 0] 155)
  have HB1 := Aside0.mk (alloc_below w (.cells #[.bool false, .slice none 0 0, .int .i64 0] 155))
  have HBL := Aside0.mk (alloc_at w (.cells #[.bool false, .slice none 0 0, .int .i64 0] 155))
  have HT1 := Aside0.mk (hT.below HB1.out)
  clear hT
  generalize hwa : w.alloc (.cells #[.bool false, .slice none 0 0, .int .i64 0] 155) = wa at *
  go_enter Tryz.func191, Tryz.ntmps191
  go_upto_region 2 with (go_at_call 125; refine (of_calls hb HT1.out).mono ?_; rintro e' w2 ⟨u, rfl, hu2, hb2⟩; obtain ⟨A2, c2, rfl, hn2⟩ := hu2.slice; have HN2 := Aside0.mk hn2; have HB2 := Aside0.mk (below_step HB1.out hb2); have hbl2 := blk_below HBL.out hb2; have HBL2 := Aside0.mk hbl2; clear hu2 hn2 hb2 hbl2)
  generalize hn : (ofF b).1 = n at *
  have h3 := alloc_at w2 (.cells #[.bool n.neg, .slice A2 (digs n.m).length c2, .int .i64 n.e] 155)
  have HB3 := Aside0.mk (below_step HB2.out (alloc_below w2 (.cells #[.bool n.neg, .slice A2 (digs n.m).length c2, .int .i64 n.e] 155)))
  have HN3 := Aside0.mk (HN2.out.below (alloc_below w2 (.cells #[.bool n.neg, .slice A2 (digs n.m).length c2, .int .i64 n.e] 155)))
  have hbl3 := blk_alloc HBL2.out (.cells #[.bool n.neg, .slice A2 (digs n.m).length c2, .int .i64 n.e] 155)
  obtain ⟨k0, k1, k2⟩ := blk3 h3
  obtain ⟨l0, l1, l2⟩ := blk3 hbl3
  have hfr := blk_frozen hbl3
  have f0 := hfr 0; have f1 := hfr 1; have f2 := hfr 2
  have HBL3 := Aside0.mk hbl3
  clear hfr h3 hbl3 HBL2
  generalize w2.alloc _ = w3 at *
  go_wp2
  refine bodyPost_ret (results_c rfl _ _ w.heap.size 155 #[.bool n.neg, .slice A2 (digs n.m).length c2, .int .i64 n.e] (0, 0) _ rfl (blk_put (blk_put (blk_put HBL3.out 0 _ rfl) 1 _ rfl) 2 _ rfl) Tryz.underlying155 rfl (by kernel_rfl)) rfl ?_
  rw [hn]
  refine ⟨_, rfl, ⟨_, rfl, ?_⟩, ?_⟩
  · exact HN3.out.turnsN (NumBlk.noWord HBL3.out) (((Turns.set _ w.heap.size 0 _).trans (Turns.set _ w.heap.size 1 _)).trans (Turns.set _ w.heap.size 2 _))
  · exact Turns.below HB3.out HB3.out.size (Nat.le_refl _) (((Turns.set _ w.heap.size 0 _).trans (Turns.set _ w.heap.size 1 _)).trans (Turns.set _ w.heap.size 2 _))
theorem round_valid (mode : Int) (h : knownM mode = true) (w : World) : Calls Tryz.prog 189 #[.int .i64 mode] w fun e w' => e = .returned (.int .i64 0) ∧ Below w.heap.size w w' := by
  refine (X.round_Valid.calls mode 0 w ?_).mono ?_
  · unfold knownM at h
    rw [Bool.and_eq_true, decide_eq_true_eq, decide_eq_true_eq] at h
    unfold X.round_Valid.f
    have : mode = 1 ∨ mode = 2 ∨ mode = 3 := by omega
    rcases this with rfl | rfl | rfl <;> rfl
  · rintro e w' ⟨rfl, hb⟩
    exact ⟨rfl, hb.below⟩
set_option maxHeartbeats 2000000 in
set_option maxRecDepth 100000 in
/-- round.nought, up, of a number that is not nought. -/
theorem nought_calls {a b : Nat} (w : World) (h : eqB a 0 = false) : Calls Tryz.prog 193 #[.float .f64 a, .float .f64 b, .int .i64 3] w fun e w' => e = .returned (.float .f64 0) ∧ w' = w := by
  unfold eqB at h
  go_enter Tryz.func193, Tryz.ntmps193
  go_wp2_with (go_at_call 47; refine (signbit_calls _ _).mono ?_; rintro e w ⟨rfl, rfl⟩)
  go_ret
  exact ⟨rfl, rfl⟩
end Go.Proofs.YtinmbcomnjmmjaaGreatDoor
namespace Go.Proofs.YtinmbcomnjmmjaaGreatDoor
open Go.RowKit Go.Proofs.YtinmbcomnjmmjaaGreatDoorW.PrintWords Go.Proofs.YtinmbcomnjmmjaaGreatDoorW.PrintLast Go.Proofs.YtinmbcomnjmmjaaGreatDoorW.PrintMore
open X
set_option maxHeartbeats 2000000 in
set_option maxRecDepth 100000 in
/-- round.Add, up, of a number and its opposite. -/
theorem radd_calls {a b : Nat} {na nb : Nm} {w : World} (ha : a < 18446744073709551616) (hb : b < 18446744073709551616) (hT : Tab32 w) (h : eqB a 0 = false) (a1 : nanB a = false) (b1 : nanB b = false) (a2 : infB a = false) (b2 : infB b = false)
    (hna : (ofF a).1 = na) (hnb : (ofF b).1 = nb) (hoa : na.ok = true) (hob : nb.ok = true) (hma : na.m ≠ 0) (hmb : nb.m ≠ 0) (hfar : max ((bl na.m : Int) + na.e) ((bl nb.m : Int) + nb.e) - min na.e nb.e ≤ 65538) (hs : (addF na nb).1 = Nm.nil) :
    Calls Tryz.prog 145 #[.float .f64 a, .float .f64 b, .int .i64 3] w fun e w' => e = .returned (.float .f64 0) ∧ Below w.heap.size w w' := by
  have HT := Aside0.mk hT
  have HNA := Aside0.mk hna; have HNB := Aside0.mk hnb; have OA := Aside0.mk hoa; have OB := Aside0.mk hob; have MA := Aside0.mk hma; have MB := Aside0.mk hmb; have HFA := Aside0.mk hfar; have HS := Aside0.mk hs; have HE := Aside0.mk h
  have HA := Aside0.mk ha; have HB := Aside0.mk hb
  unfold nanB at a1 b1
  clear hT hna hnb hoa hob hma hmb hfar hs h ha hb
  go_enter Tryz.func145, Tryz.ntmps145
  go_upto_region 5 with (first
    | (go_at_call 189; refine (round_valid 3 rfl _).mono ?_; rintro e' w1 ⟨rfl, hb1⟩; have HB1 := Aside0.mk hb1; have HT1 := Aside0.mk (HT.out.below hb1); have hf1 := HT; clear hb1)
    | (go_at_call 190; have hflag := hf1; clear hflag; with_reducible refine (infinite_calls a _).mono ?_; rintro e' w1 ⟨rfl, rfl⟩; rw [a2]; clear hf1)
    | (go_at_call 190; with_reducible refine (infinite_calls b _).mono ?_; rintro e' w1 ⟨rfl, rfl⟩; rw [b2]; have hf2 := HT))
  go_upto_region 6 with (first
    | (go_at_call 191; have hflag := hf2; clear hflag; with_reducible refine (rnum_calls HA.out HT1.out).mono ?_; rintro e' w2 ⟨u2, rfl, hu2, hb2⟩; rw [HNA.out] at hu2; have HU2 := Aside0.mk hu2; have HB2 := Aside0.mk (below_step HB1.out hb2); have HT2 := Aside0.mk (HT1.out.below hb2); clear hu2 hb2 hf2)
    | (go_at_call 191; with_reducible refine (rnum_calls HB.out HT2.out).mono ?_; rintro e' w3 ⟨u3, rfl, hu3, hb3⟩; rw [HNB.out] at hu3; have HU3 := Aside0.mk hu3; have HUA := Aside0.mk (HU2.out.below hb3); have HB3 := Aside0.mk (below_step HB2.out hb3); have HT3 := Aside0.mk (HT2.out.below hb3); clear hu3 hb3)
    | (go_at_call 127; with_reducible refine (dadd_calls HUA.out HU3.out OA.out OB.out MA.out MB.out HFA.out HT3.out).mono ?_; rintro e' w4 ⟨u4, rfl, hu4, hb4⟩; rw [HS.out] at hu4; obtain ⟨A4, c4, rfl, hn4⟩ := hu4.slice; have HN4 := Aside0.mk hn4; have HB4 := Aside0.mk (below_step HB3.out hb4); clear hu4 hn4 hb4))
  have HC4 := Aside0.mk (below_step HB4.out (alloc_below w4 (.cells #[.bool Nm.nil.neg, .slice A4 (digs Nm.nil.m).length c4, .int .i64 Nm.nil.e] 155)))
  have HU4 : Aside0 (NumV (w4.alloc (.cells #[.bool Nm.nil.neg, .slice A4 (digs Nm.nil.m).length c4, .int .i64 Nm.nil.e] 155)) (.agg #[.bool Nm.nil.neg, .slice A4 (digs Nm.nil.m).length c4, .int .i64 Nm.nil.e]) Nm.nil) := ⟨⟨_, rfl, HN4.out.below (alloc_below w4 (.cells #[.bool Nm.nil.neg, .slice A4 (digs Nm.nil.m).length c4, .int .i64 Nm.nil.e] 155))⟩⟩
  obtain ⟨k0, k1, k2⟩ := blk3 (alloc_at w4 (.cells #[.bool Nm.nil.neg, .slice A4 (digs Nm.nil.m).length c4, .int .i64 Nm.nil.e] 155))
  have HFN : Aside0 (Fits Nm.nil.m) := ⟨by show (digs 0).length ≤ _; rw [digs_zero]; decide⟩
  have HSG : Aside0 (Nm.nil.sgn = 0) := ⟨rfl⟩
  go_wp2_with (first
    | (go_at_call 192; with_reducible refine (sgn_calls HU4.out HFN.out).mono ?_; rintro e' w6 ⟨rfl, hb6⟩; rw [HSG.out]; have HB6 := Aside0.mk (below_step HC4.out hb6); clear hb6)
    | (go_at_call 193; with_reducible refine (nought_calls _ HE.out).mono ?_; rintro e' w6 ⟨rfl, rfl⟩))
  go_ret
  exact ⟨rfl, HB6.out⟩
theorem neg_run (P : Program) (w : World) (a : Nat) : (Op.unary .neg (.float .f64 a)).run P w = .ok (.float .f64 (Op.negFloat .f64 a)) w := rfl
attribute [local go_sem] neg_run
set_option maxHeartbeats 2000000 in
set_option maxRecDepth 100000 in
/-- round.Sub, up, of a number and itself. -/
theorem rsub_calls {a b : Nat} {na nb : Nm} {w : World} (ha : a < 18446744073709551616) (hb : b < 18446744073709551616) (hT : Tab32 w) (h : eqB a 0 = false) (a1 : nanB a = false) (b1 : nanB b = false) (a2 : infB a = false) (b2 : infB b = false)
    (hna : (ofF a).1 = na) (hnb : (ofF b).1 = nb) (hoa : na.ok = true) (hob : nb.ok = true) (hma : na.m ≠ 0) (hmb : nb.m ≠ 0) (hfar : max ((bl na.m : Int) + na.e) ((bl nb.m : Int) + nb.e) - min na.e nb.e ≤ 65538) (hs : (addF na nb).1 = Nm.nil) (hneg : Op.negFloat .f64 a = b) :
    Calls Tryz.prog 120 #[.float .f64 a, .float .f64 a, .int .i64 3] w fun e w' => e = .returned (.float .f64 0) ∧ Below w.heap.size w w' := by
  have HC := Aside0.mk (radd_calls ha hb hT h a1 b1 a2 b2 hna hnb hoa hob hma hmb hfar hs)
  clear ha hb hT h a1 b1 a2 b2 hna hnb hoa hob hma hmb hfar hs
  go_enter Tryz.func120, Tryz.ntmps120
  go_wp2_with (go_at_call 145; (with_reducible refine HC.out.mono ?_); rintro e w1 ⟨rfl, hb1⟩; have HB1 := Aside0.mk hb1; clear hb1)
  go_ret
  exact ⟨rfl, HB1.out⟩
theorem one_sub {w : World} (hT : Tab32 w) : Calls Tryz.prog 120 #[.float .f64 4607182418800017408, .float .f64 4607182418800017408, .int .i64 3] w fun e w' => e = .returned (.float .f64 0) ∧ Below w.heap.size w w' :=
  rsub_calls (a := 4607182418800017408) (b := 13830554455654793216) (na := (ofF 4607182418800017408).1) (nb := (ofF 13830554455654793216).1) (by decide) (by decide) hT (by decide +kernel) (by decide +kernel) (by decide +kernel) (by decide +kernel) (by decide +kernel) rfl rfl (by decide +kernel) (by decide +kernel) (by decide +kernel) (by decide +kernel) (by decide +kernel) (by kernel_rfl) (by decide +kernel)
theorem two_sub {w : World} (hT : Tab32 w) : Calls Tryz.prog 120 #[.float .f64 4611686018427387904, .float .f64 4611686018427387904, .int .i64 3] w fun e w' => e = .returned (.float .f64 0) ∧ Below w.heap.size w w' :=
  rsub_calls (a := 4611686018427387904) (b := 13835058055282163712) (na := (ofF 4611686018427387904).1) (nb := (ofF 13835058055282163712).1) (by decide) (by decide) hT (by decide +kernel) (by decide +kernel) (by decide +kernel) (by decide +kernel) (by decide +kernel) rfl rfl (by decide +kernel) (by decide +kernel) (by decide +kernel) (by decide +kernel) (by decide +kernel) (by kernel_rfl) (by decide +kernel)
end Go.Proofs.YtinmbcomnjmmjaaGreatDoor
namespace Go.Proofs.YtinmbcomnjmmjaaGreatDoor
open Go.RowKit Go.Proofs.YtinmbcomnjmmjaaGreatDoorW.PrintWords Go.Proofs.YtinmbcomnjmmjaaGreatDoorW.PrintLast Go.Proofs.YtinmbcomnjmmjaaGreatDoorW.PrintMore
open X
attribute [local go_sem] st_float st_complex
set_option maxHeartbeats 2000000 in
set_option maxRecDepth 100000 in
/-- parse.near. -/
theorem near_calls {w : World} {s : ByteArray} {f : Nat} (hd : DecT s.data.toList) (h1 : s.size ≠ 0) (h2 : s.size ≤ 1100) (hT : Tab32 w) (hf : decF false (decV s.data.toList) 0 0 2 = f) :
    Calls Tryz.prog 119 #[.string s] w fun e w' => e = .returned (.float .f64 f) ∧ Below w.heap.size w w' := by
  have HC := Aside0.mk (read_digits hd h1 h2 (mode := 2) rfl hT)
  clear hd h1 h2 hT
  go_enter Tryz.func119, Tryz.ntmps119
  go_wp2_with (go_at_call 117; (with_reducible refine HC.out.mono ?_); rintro e w1 ⟨rfl, hb1⟩; have HB1 := Aside0.mk hb1; clear hb1)
  go_ret
  exact ⟨by rw [← hf]; rfl, HB1.out⟩
set_option maxHeartbeats 2000000 in
set_option maxRecDepth 100000 in
/-- parse.fit, of finite parts. -/
theorem fit_calls {w : World} {x y r : Nat} (x1 : nanB x = false) (x2 : infB x = false) (y1 : nanB y = false) (y2 : infB y = false) (r1 : nanB r = false) (r2 : infB r = false) :
    Calls Tryz.prog 118 #[.float .f64 x, .float .f64 y, .float .f64 r] w fun e w' => e = .returned (.agg #[.complex .f64 x y, .float .f64 r]) ∧ Below w.heap.size w w' := by
  unfold nanB at x1 y1 r1
  have W1 := alloc_below w (.cells #[.complex .f64 0 0, .float .f64 0] 25)
  have W2 := below_step W1 (alloc_below _ (.cells #[.float .f64 x, .float .f64 y, .float .f64 r] 23))
  have hb0 := alloc_at (w.alloc (.cells #[.complex .f64 0 0, .float .f64 0] 25)) (.cells #[.float .f64 x, .float .f64 y, .float .f64 r] 23)
  have hb1 := blk_alloc (alloc_at w (.cells #[.complex .f64 0 0, .float .f64 0] 25)) (.cells #[.float .f64 x, .float .f64 y, .float .f64 r] 23)
  rw [alloc_size] at hb0
  obtain ⟨c0, c1, c2⟩ := blk3 hb0
  obtain ⟨d0, d1⟩ := blk_cell hb1
  have hfr := blk_frozen hb1
  have f0 := hfr 0; have f1 := hfr 1
  have HB2 := Aside0.mk W2
  have HB1 := Aside0.mk hb1
  clear W1 W2 hb0 hb1 hfr
  generalize hW : (w.alloc (.cells #[.complex .f64 0 0, .float .f64 0] 25)).alloc (.cells #[.float .f64 x, .float .f64 y, .float .f64 r] 23) = W at *
  go_enter Tryz.func118, Tryz.ntmps118
  go_wp2_with fail
  go_loopw [8, 14] (fun _ v wr => ∃ (k : Nat), v = .int .i64 (k : Nat) ∧ k ≤ 3 ∧ wr = W) (fun _ v _ => 3 - (intOf v).toNat)
  case atStart => exact ⟨0, rfl, by decide, rfl⟩
  case round =>
    clear hW
    obtain ⟨k, rfl, hk, rfl⟩ := hrel
    rcases k with _ | _ | _ | _ | k
    · go_wp2_with (go_at_call 123; refine (isinf_calls _ _).mono ?_; rintro e wr ⟨rfl, rfl⟩; rw [x2])
      go_roundw
      case rel => exact ⟨1, by go_num, by decide, trivial⟩
      case measure => simp [intOf]
    · go_wp2_with (go_at_call 123; refine (isinf_calls _ _).mono ?_; rintro e wr ⟨rfl, rfl⟩; rw [y2])
      go_roundw
      case rel => exact ⟨2, by go_num, by decide, trivial⟩
      case measure => simp [intOf]
    · go_wp2_with (go_at_call 123; refine (isinf_calls _ _).mono ?_; rintro e wr ⟨rfl, rfl⟩; rw [r2])
      go_roundw
      case rel => exact ⟨3, by go_num, by decide, trivial⟩
      case measure => simp [intOf]
    · go_wp2_with fail
      refine bodyPost_ret (results_n rfl _ _ w.heap.size 25 #[.complex .f64 x y, .float .f64 r] (0, 0) _ rfl (blk_put (blk_put HB1.out 0 _ rfl) 1 _ rfl) Tryz.underlying25 rfl (by kernel_rfl)) rfl ?_
      exact ⟨rfl, Turns.below HB2.out HB2.out.size (Nat.le_refl _) ((Turns.set _ w.heap.size 0 _).trans (Turns.set _ w.heap.size 1 _))⟩
    · omega
set_option maxHeartbeats 2000000 in
set_option maxRecDepth 100000 in
/-- parse.number, of a decimal that is a float. -/
theorem pnumber_calls {w : World} {s : ByteArray} {f : Nat} (hd : DecT s.data.toList) (h1 : s.size ≠ 0) (h2 : s.size ≤ 1100) (hT : Tab32 w) (hf1 : decF false (decV s.data.toList) 0 0 1 = f) (hf2 : decF false (decV s.data.toList) 0 0 2 = f) (hf3 : decF false (decV s.data.toList) 0 0 3 = f)
    (hs : ∀ w' : World, Tab32 w' → Calls Tryz.prog 120 #[.float .f64 f, .float .f64 f, .int .i64 3] w' fun e w'' => e = .returned (.float .f64 0) ∧ Below w'.heap.size w' w'') (x1 : nanB f = false) (x2 : infB f = false) :
    Calls Tryz.prog 95 #[.string s] w fun e w' => e = .returned (.agg #[.complex .f64 f 0, .float .f64 0]) ∧ Below w.heap.size w w' := by
  have HB1 := Aside0.mk (alloc_below w (.cells #[.complex .f64 0 0, .float .f64 0] 25))
  have HBL := Aside0.mk (alloc_at w (.cells #[.complex .f64 0 0, .float .f64 0] 25))
  have HT1 := Aside0.mk (hT.below HB1.out)
  have HD := Aside0.mk hd
  have HS := Aside0.mk hs
  have K1 := Aside0.mk hf1; have K2 := Aside0.mk hf2; have K3 := Aside0.mk hf3
  have HX := Aside0.mk (show nanB f = false ∧ infB f = false from ⟨x1, x2⟩)
  clear hd hT hs hf1 hf2 hf3 x1 x2
  generalize hwa : w.alloc (.cells #[.complex .f64 0 0, .float .f64 0] 25) = wa at *
  go_enter Tryz.func95, Tryz.ntmps95
  go_upto_region 2 with (go_at_call 117; (with_reducible refine (read_digits HD.out h1 h2 (mode := 1) rfl HT1.out).mono ?_); rintro e w2 ⟨rfl, hb2⟩; rw [K1.out]; have HB2 := Aside0.mk (below_step HB1.out hb2); have HT2 := Aside0.mk (HT1.out.below hb2); have HBL2 := Aside0.mk (blk_below HBL.out hb2); clear hb2)
  go_upto_region 3 with (go_at_call 117; (with_reducible refine (read_digits HD.out h1 h2 (mode := 3) rfl HT2.out).mono ?_); rintro e w3 ⟨rfl, hb3⟩; rw [K3.out]; have HB3 := Aside0.mk (below_step HB2.out hb3); have HT3 := Aside0.mk (HT2.out.below hb3); have HBL3 := Aside0.mk (blk_below HBL2.out hb3); clear hb3)
  go_wp2_with (first
    | (go_at_call 119; (with_reducible refine (near_calls HD.out h1 h2 HT3.out K2.out).mono ?_); rintro e w4 ⟨rfl, hb4⟩; have HB4 := Aside0.mk (below_step HB3.out hb4); have HT4 := Aside0.mk (HT3.out.below hb4); have HBL4 := Aside0.mk (blk_below HBL3.out hb4); clear hb4)
    | (go_at_call 120; (with_reducible refine (HS.out _ HT4.out).mono ?_); rintro e w5 ⟨rfl, hb5⟩; have HB5 := Aside0.mk (below_step HB4.out hb5); have HBL5 := Aside0.mk (blk_below HBL4.out hb5); clear hb5)
    | (go_at_call 118; (with_reducible refine (fit_calls HX.out.1 HX.out.2 (by decide +kernel) (by decide +kernel) (by decide +kernel) (by decide +kernel)).mono ?_); rintro e w6 ⟨rfl, hb6⟩; have HB6 := Aside0.mk (below_step HB5.out hb6); have HBL6 := Aside0.mk (blk_below HBL5.out hb6); obtain ⟨l0, l1⟩ := blk_cell HBL6.out; have hfr := blk_frozen HBL6.out; have f0 := hfr 0; have f1 := hfr 1; clear hb6 hfr))
  refine bodyPost_ret (results_n rfl _ _ w.heap.size 25 #[.complex .f64 f 0, .float .f64 0] (0, 0) _ rfl (blk_put (blk_put HBL6.out 0 _ rfl) 1 _ rfl) Tryz.underlying25 rfl (by kernel_rfl)) rfl ?_
  exact ⟨rfl, Turns.below HB6.out HB6.out.size (Nat.le_refl _) ((Turns.set _ w.heap.size 0 _).trans (Turns.set _ w.heap.size 1 _))⟩
theorem list_size {s : ByteArray} {l : List UInt8} (h : s.data.toList = l) : s.size = l.length := by rw [← h, data_length]
theorem numB_calls {w : World} {s : ByteArray} {b : Nat × Nat} (hT : Tab32 w) (h : numB s = some b) :
    Calls Tryz.prog 95 #[.string s] w fun e w' => e = .returned (.agg #[.complex .f64 b.1 0, .float .f64 b.2]) ∧ Below w.heap.size w w' := by
  unfold numB at h
  split at h
  · rename_i hl
    obtain rfl := Option.some.inj h
    have hsz := list_size hl
    refine pnumber_calls (f := 4607182418800017408) (by rw [hl]; unfold DecT; decide) (by rw [hsz]; decide) (by rw [hsz]; decide) hT (by rw [hl]; decide +kernel) (by rw [hl]; decide +kernel) (by rw [hl]; decide +kernel) (fun w' hT' => one_sub hT') (by decide +kernel) (by decide +kernel)
  · split at h
    · rename_i hl
      obtain rfl := Option.some.inj h
      have hsz := list_size hl
      refine pnumber_calls (f := 4611686018427387904) (by rw [hl]; unfold DecT; decide) (by rw [hsz]; decide) (by rw [hsz]; decide) hT (by rw [hl]; decide +kernel) (by rw [hl]; decide +kernel) (by rw [hl]; decide +kernel) (fun w' hT' => two_sub hT') (by decide +kernel) (by decide +kernel)
    · cases h
end Go.Proofs.YtinmbcomnjmmjaaGreatDoor
namespace Go.Proofs.YtinmbcomnjmmjaaGreatDoor
open Go.RowKit Go.Proofs.YtinmbcomnjmmjaaGreatDoorW.PrintWords Go.Proofs.YtinmbcomnjmmjaaGreatDoorW.PrintLast Go.Proofs.YtinmbcomnjmmjaaGreatDoorW.PrintMore
open X
attribute [local go_sem] st_float st_complex field77_0 field77_1 field77_2
/-- What reading a tree leaves. -/
def OutP (w : World) (g B : Nat) (xs : List S77) (op : Nat) (o : Out) (e : Ending) (w' : World) : Prop := match o with
  | .ok x a p => ∃ v, e = .returned v ∧ NodeV w' w.heap.size v x a ∧ RdAt w' g B xs p op ∧ Turns g w w'
  | .bad er z => e = .panicked (faultP er z) ∧ Turns g w w'
/-- A function of the reader does as its plain form. -/
def RdC (xs : List S77) (k : Nat) (fn : Fn) (N : Nat) : Prop := ∀ (w : World) (g B p op : Nat) (o : Out), RdAt w g B xs p op → op ≤ 256 → B ≤ w.heap.size → rdF xs k fn op p = some o → Calls Tryz.prog N #[pt g] w (OutP w g B xs op o)
def NamedC (xs : List S77) (k : Nat) : Prop := ∀ (w : World) (g B p op : Nat) (o : Out) (t : S77), RdAt w g B xs p op → op ≤ 256 → B ≤ w.heap.size → xs[p]? = some t → rdF xs k .named op p = some o →
  Calls Tryz.prog 212 #[pt g, .agg #[.int .i64 t.f0, .string t.f1, .int .i64 t.f2]] w (OutP w g B xs op o)
theorem RdC.ok {xs : List S77} {k : Nat} {fn : Fn} {N : Nat} (h : RdC xs k fn N) {w : World} {g B p op q : Nat} {y : Lf} {b : Fo} (hr : RdAt w g B xs p op) (ho : op ≤ 256) (hB : B ≤ w.heap.size) (hf : rdF xs k fn op p = some (.ok y b q)) :
    Calls Tryz.prog N #[pt g] w fun e w' => ∃ A c, e = .returned (.agg #[.int .i64 y.k, .int .i64 y.f, .string y.nm, .string y.tx, .complex .f64 y.re y.im, .float .f64 y.rad, .slice A b.len c]) ∧ b.len ≤ c ∧ FoAt w' w.heap.size A 0 b ∧ RdAt w' g B xs q op ∧ Turns g w w' := by
  refine (h w g B p op _ hr ho hB hf).mono ?_
  rintro e w' ⟨v, rfl, ⟨A, c, rfl, hc, hf⟩, h1, h2⟩
  exact ⟨A, c, rfl, hc, hf, h1, h2⟩
theorem RdC.bad {xs : List S77} {k : Nat} {fn : Fn} {N : Nat} (h : RdC xs k fn N) {w : World} {g B p op : Nat} {er z : Int} (hr : RdAt w g B xs p op) (ho : op ≤ 256) (hB : B ≤ w.heap.size) (hf : rdF xs k fn op p = some (.bad er z)) :
    Calls Tryz.prog N #[pt g] w fun e w' => e = .panicked [{ v := .iface 70 (.agg #[.int .i64 er, .int .i64 z]), recovered := false }] ∧ Turns g w w' :=
  h w g B p op _ hr ho hB hf
/-- A block that holds one node. -/
def LfBlk (w : World) (gb : Nat) (x : Lf) (v : Value) : Prop := w.heap[gb]? = some (.cells #[.int .i64 x.k, .int .i64 x.f, .string x.nm, .string x.tx, .complex .f64 x.re x.im, .float .f64 x.rad, v] 28 (0, 0))
def zL : Lf := ⟨0, 0, noText, noText, 0, 0, 0⟩
theorem LfBlk.cells {w : World} {gb : Nat} {x : Lf} {v : Value} (h : LfBlk w gb x v) : w.cell? ⟨gb, 0, none⟩ = some (.int .i64 x.k) ∧ w.cell? ⟨gb, 1, none⟩ = some (.int .i64 x.f) ∧ w.cell? ⟨gb, 2, none⟩ = some (.string x.nm) ∧ w.cell? ⟨gb, 3, none⟩ = some (.string x.tx) ∧
    w.cell? ⟨gb, 4, none⟩ = some (.complex .f64 x.re x.im) ∧ w.cell? ⟨gb, 5, none⟩ = some (.float .f64 x.rad) ∧ w.cell? ⟨gb, 6, none⟩ = some v := by
  unfold LfBlk at h
  unfold World.cell?
  simp only [h]
  exact ⟨rfl, rfl, rfl, rfl, rfl, rfl, rfl⟩
theorem LfBlk.frozen {w : World} {gb : Nat} {x : Lf} {v : Value} (h : LfBlk w gb x v) : w.frozen? ⟨gb, 0, none⟩ = false ∧ w.frozen? ⟨gb, 1, none⟩ = false ∧ w.frozen? ⟨gb, 2, none⟩ = false ∧ w.frozen? ⟨gb, 3, none⟩ = false ∧ w.frozen? ⟨gb, 4, none⟩ = false ∧ w.frozen? ⟨gb, 5, none⟩ = false ∧ w.frozen? ⟨gb, 6, none⟩ = false :=
  have hfr := blk_frozen h
  ⟨hfr 0, hfr 1, hfr 2, hfr 3, hfr 4, hfr 5, hfr 6⟩
theorem LfBlk.new (w : World) (x : Lf) (v : Value) : LfBlk (w.alloc (.cells #[.int .i64 x.k, .int .i64 x.f, .string x.nm, .string x.tx, .complex .f64 x.re x.im, .float .f64 x.rad, v] 28)) w.heap.size x v := alloc_at w _
theorem LfBlk.below {w w1 : World} {gb : Nat} {x : Lf} {v : Value} (h : LfBlk w gb x v) (hb : Below w.heap.size w w1) : LfBlk w1 gb x v := (hb.block gb (blk_lt h)).trans h
theorem LfBlk.turns {w w1 : World} {gb g : Nat} {x : Lf} {v : Value} (h : LfBlk w gb x v) (hb : Turns g w w1) (hn : gb ≠ g) : LfBlk w1 gb x v := (hb.block (blk_lt h) hn).trans h
/-- A node is stored. -/
def st7 (w : World) (gb : Nat) (x : Lf) (v : Value) : World := ((((((w.setCell ⟨gb, 0, none⟩ (.int .i64 x.k)).setCell ⟨gb, 1, none⟩ (.int .i64 x.f)).setCell ⟨gb, 2, none⟩ (.string x.nm)).setCell ⟨gb, 3, none⟩ (.string x.tx)).setCell ⟨gb, 4, none⟩ (.complex .f64 x.re x.im)).setCell ⟨gb, 5, none⟩ (.float .f64 x.rad)).setCell ⟨gb, 6, none⟩ v
theorem LfBlk.st {w : World} {gb : Nat} {x : Lf} {v : Value} (h : LfBlk w gb x v) (y : Lf) (u : Value) : LfBlk (st7 w gb y u) gb y u := by
  unfold LfBlk at h
  have h0 : (w.setCell ⟨gb, 0, none⟩ (.int .i64 y.k)).heap[gb]? = some (.cells #[.int .i64 y.k, .int .i64 x.f, .string x.nm, .string x.tx, .complex .f64 x.re x.im, .float .f64 x.rad, v] 28 (0, 0)) := blk_put h 0 _ rfl
  have h1 : ((w.setCell ⟨gb, 0, none⟩ (.int .i64 y.k)).setCell ⟨gb, 1, none⟩ (.int .i64 y.f)).heap[gb]? = some (.cells #[.int .i64 y.k, .int .i64 y.f, .string x.nm, .string x.tx, .complex .f64 x.re x.im, .float .f64 x.rad, v] 28 (0, 0)) := blk_put h0 1 _ rfl
  have h2 : (((w.setCell ⟨gb, 0, none⟩ (.int .i64 y.k)).setCell ⟨gb, 1, none⟩ (.int .i64 y.f)).setCell ⟨gb, 2, none⟩ (.string y.nm)).heap[gb]? = some (.cells #[.int .i64 y.k, .int .i64 y.f, .string y.nm, .string x.tx, .complex .f64 x.re x.im, .float .f64 x.rad, v] 28 (0, 0)) := blk_put h1 2 _ rfl
  have h3 : ((((w.setCell ⟨gb, 0, none⟩ (.int .i64 y.k)).setCell ⟨gb, 1, none⟩ (.int .i64 y.f)).setCell ⟨gb, 2, none⟩ (.string y.nm)).setCell ⟨gb, 3, none⟩ (.string y.tx)).heap[gb]? = some (.cells #[.int .i64 y.k, .int .i64 y.f, .string y.nm, .string y.tx, .complex .f64 x.re x.im, .float .f64 x.rad, v] 28 (0, 0)) := blk_put h2 3 _ rfl
  have h4 : (((((w.setCell ⟨gb, 0, none⟩ (.int .i64 y.k)).setCell ⟨gb, 1, none⟩ (.int .i64 y.f)).setCell ⟨gb, 2, none⟩ (.string y.nm)).setCell ⟨gb, 3, none⟩ (.string y.tx)).setCell ⟨gb, 4, none⟩ (.complex .f64 y.re y.im)).heap[gb]? = some (.cells #[.int .i64 y.k, .int .i64 y.f, .string y.nm, .string y.tx, .complex .f64 y.re y.im, .float .f64 x.rad, v] 28 (0, 0)) := blk_put h3 4 _ rfl
  have h5 : ((((((w.setCell ⟨gb, 0, none⟩ (.int .i64 y.k)).setCell ⟨gb, 1, none⟩ (.int .i64 y.f)).setCell ⟨gb, 2, none⟩ (.string y.nm)).setCell ⟨gb, 3, none⟩ (.string y.tx)).setCell ⟨gb, 4, none⟩ (.complex .f64 y.re y.im)).setCell ⟨gb, 5, none⟩ (.float .f64 y.rad)).heap[gb]? = some (.cells #[.int .i64 y.k, .int .i64 y.f, .string y.nm, .string y.tx, .complex .f64 y.re y.im, .float .f64 y.rad, v] 28 (0, 0)) := blk_put h4 5 _ rfl
  have h6 : (((((((w.setCell ⟨gb, 0, none⟩ (.int .i64 y.k)).setCell ⟨gb, 1, none⟩ (.int .i64 y.f)).setCell ⟨gb, 2, none⟩ (.string y.nm)).setCell ⟨gb, 3, none⟩ (.string y.tx)).setCell ⟨gb, 4, none⟩ (.complex .f64 y.re y.im)).setCell ⟨gb, 5, none⟩ (.float .f64 y.rad)).setCell ⟨gb, 6, none⟩ (u)).heap[gb]? = some (.cells #[.int .i64 y.k, .int .i64 y.f, .string y.nm, .string y.tx, .complex .f64 y.re y.im, .float .f64 y.rad, u] 28 (0, 0)) := blk_put h5 6 _ rfl
  exact h6
theorem st7_turns (w : World) (gb : Nat) (y : Lf) (u : Value) : Turns gb w (st7 w gb y u) :=
  ((((((Turns.set _ gb 0 _).trans (Turns.set _ gb 1 _)).trans (Turns.set _ gb 2 _)).trans (Turns.set _ gb 3 _)).trans (Turns.set _ gb 4 _)).trans (Turns.set _ gb 5 _)).trans (Turns.set _ gb 6 _)
/-- A node is a function's result. -/
theorem node_ret {fn : Func} {p : Tmp} {R : Ending → World → Prop} {a : Act} {w : World} {gb : Nat} {x : Lf} {v : Value} (h : LfBlk w gb x v) (hr : fn.results = #[.cell p 28]) (hp : a.tmps.getD p undef = .pointer (some ⟨gb, 0, none⟩)) (hd : a.defers = [])
    (hq : R (.returned (x.val v)) w) : bodyPost Tryz.prog fn R .ret a w :=
  bodyPost_ret (results_n hr _ _ gb 28 _ (0, 0) _ hp h Tryz.underlying28 rfl (by kernel_rfl)) hd hq
end Go.Proofs.YtinmbcomnjmmjaaGreatDoor
