/- Proved: a part of what the statement on the names of parse needs: walks of functions of the program, and plain laws. (Texts Ca, Bs, Cb.) -/
import Derived.Test.YtinmbcomnjmmjaaGreatDoorQ20
import Derived.Test.YtinmbcomnjmmjaaGreatDoorQ21
namespace Go.Proofs.YtinmbcomnjmmjaaGreatDoor
open Go.RowKit Go.Proofs.YtinmbcomnjmmjaaGreatDoorW.PrintWords Go.Proofs.YtinmbcomnjmmjaaGreatDoorW.PrintLast Go.Proofs.YtinmbcomnjmmjaaGreatDoorW.PrintMore
open X
/-- A whole number, of a sign, times a power of two. -/
structure Nm where
  neg : Bool
  m : Nat
  e : Int
def Nm.nil : Nm := ⟨false, 0, 0⟩
def Nm.ok (a : Nm) : Bool := if a.m = 0 then a.e == 0 && !a.neg else decide ((digs a.m).length ≤ 2048) && (decide (a.m % 2 = 1) && (decide (-65536 ≤ a.e) && decide (a.e ≤ 65536)))
/-- A dyad.Num in memory. -/
def NumV (w : World) (v : Value) (a : Nm) : Prop := ∃ u, v = .agg #[.bool a.neg, u, .int .i64 a.e] ∧ NatAt w u a.m
theorem NumV.below {w w1 : World} {v : Value} {a : Nm} (h : NumV w v a) (hb : Below w.heap.size w w1) : NumV w1 v a := by
  obtain ⟨u, rfl, h⟩ := h; exact ⟨u, rfl, h.below hb⟩
theorem NatAt.nil (w : World) : NatAt w (.slice none 0 0) 0 := NatAt.of_eq (xs := []) ⟨none, 0, rfl, Nat.le_refl _, Kd.C_nil _ _⟩ digs_zero.symm
theorem NumV.nil (w : World) : NumV w (.agg #[.bool false, .slice none 0 0, .int .i64 0]) Nm.nil := ⟨_, rfl, NatAt.nil w⟩
theorem digs_last_ne {n : Nat} (h : n ≠ 0) : (digs n).getD ((digs n).length - 1) 0 ≠ 0 := by
  have hp := digs_pos_len h
  have h2 := digs_last n
  intro e; apply h2
  rw [List.getLast?_eq_getElem?, List.getElem?_eq_getElem (by omega)]
  have : (digs n).getD ((digs n).length - 1) 0 = (digs n)[(digs n).length - 1]'(by omega) := by simp [List.getD, show (digs n).length - 1 < (digs n).length by omega]
  rw [← this, e]
theorem and_one32 (x : Int) (x0 : 0 ≤ x) (x1 : x < 4294967296) : bits .and .u32 x 1 = x % 2 := by
  have := bits_mask .u32 32 (by decide) (fun n h0 h1 => by simp [IntKind.wrap, IntKind.signed, IntKind.bits]; omega) 1 (by decide) x x0 (by omega)
  simpa using this
theorem valid_f (neg : Bool) (m : Nat) (e : Int) (hl : (digs m).length ≤ 1000000000) : X.dyad_Valid.f neg (digs m) e = some (Nm.ok ⟨neg, m, e⟩) := by
  unfold X.dyad_Valid.f Nm.ok
  by_cases h : m = 0
  · have h0 := digs_len_zero h
    rw [if_pos (by omega), if_pos h]
    by_cases he : e = 0
    · rw [if_pos he]; subst he; simp
    · rw [if_neg he]; simp [he]
  · have hp := digs_pos_len h
    have hw : wrap64 (((digs m).length : Int) - 1) = (((digs m).length - 1 : Nat) : Int) := by rw [wrap64_id (by omega) (by omega)]; omega
    have hz := digs_last_ne h
    have e0 : (digs m).getD 0 0 = ((m % 4294967296 : Nat) : Int) := by rw [digs_pos h]; rfl
    rw [if_neg (by omega), if_neg h, hw]
    by_cases hq : (digs m).length ≤ 2048
    · rw [if_pos (by omega), if_pos (by omega), if_pos (by omega), rd_eq, if_neg hz, if_pos (by omega)]
      have e1 : rd (digs m) 0 = ((m % 4294967296 : Nat) : Int) := by rw [← e0]; exact rd_eq _ 0
      rw [e1, and_one32 _ (by omega) (by omega)]
      by_cases ho : m % 2 = 1
      · rw [if_pos (by omega)]
        by_cases he : e ≥ -65536
        · rw [if_pos he]; simp [hq, ho, he]
        · rw [if_neg he]; simp [hq, ho]; omega
      · rw [if_neg (by omega)]; simp [ho]
    · rw [if_neg (by omega)]; simp [hq]
theorem valid_calls {w : World} {v : Value} {a : Nm} (h : NumV w v a) (hl : Fits a.m) :
    Calls Tryz.prog 158 #[v] w fun e w' => e = .returned (.bool a.ok) ∧ Below w.heap.size w w' := by
  obtain ⟨u, rfl, A, c, rfl, hc, hr⟩ := h
  exact X.dyad_Valid.calls a.neg A c (digs a.m) a.e a.ok w hr hc (valid_f _ _ _ hl)
theorem known_calls (w : World) (mode : Int) : Calls Tryz.prog 159 #[.int .i64 mode] w fun e w' => e = .returned (.bool (decide (1 ≤ mode) && decide (mode ≤ 3))) ∧ Below w.heap.size w w' := by
  refine (X.dyad_known.calls mode (decide (1 ≤ mode) && decide (mode ≤ 3)) w ?_).mono ?_
  · unfold X.dyad_known.f
    by_cases h : mode ≥ 1
    · rw [if_pos h]; simp [h]
    · rw [if_neg h]; simp [h]
  · rintro e w' ⟨rfl, h⟩
    exact ⟨rfl, h.below⟩
def Nm.shift (a : Nm) (k : Int) : Nm × Int := if a.ok then (if a.m = 0 then (Nm.nil, 0) else if k > 65536 - a.e ∨ k < -65536 - a.e then (Nm.nil, 2) else (⟨a.neg, a.m, a.e + k⟩, 0)) else (Nm.nil, 1)
theorem Nm.ok_e {a : Nm} (h : a.ok = true) : -65536 ≤ a.e ∧ a.e ≤ 65536 ∧ (digs a.m).length ≤ 2048 := by
  unfold Nm.ok at h
  split at h
  · rename_i h0
    simp at h
    rw [digs_len_zero h0]
    omega
  · simp at h; omega
theorem shift_f {a : Nm} {k : Int} (hl : Fits a.m) : X.dyad_Shift.f a.neg (digs a.m) a.e k = some ((a.shift k).1.neg, digs (a.shift k).1.m, (a.shift k).1.e, (a.shift k).2) := by
  unfold X.dyad_Shift.f Nm.shift
  rw [valid_f a.neg a.m a.e hl]
  simp only [Option.bind_some]
  rw [show Nm.mk a.neg a.m a.e = a from rfl]
  by_cases ho : a.ok = true
  · obtain ⟨e0, e1, e2⟩ := Nm.ok_e ho
    rw [if_pos ho, if_pos ho]
    by_cases h : a.m = 0
    · have h0 := digs_len_zero h
      rw [if_pos (by omega), if_pos h]; simp [Nm.nil, digs_zero]
    · have hp := digs_pos_len h
      rw [if_neg (by omega), if_neg h, wrap64_id (x := 65536 - a.e) (by omega) (by omega), wrap64_id (x := -65536 - a.e) (by omega) (by omega)]
      by_cases h1 : k > 65536 - a.e
      · rw [if_pos h1, if_pos (.inl h1)]; simp [Nm.nil, digs_zero]
      · rw [if_neg h1]
        by_cases h2 : k < -65536 - a.e
        · rw [if_pos h2, if_pos (.inr h2)]; simp [Nm.nil, digs_zero]
        · rw [if_neg h2, if_neg (show ¬ (k > 65536 - a.e ∨ k < -65536 - a.e) by omega)]
          dsimp only
          rw [if_pos (by simp; omega), wrap64_id (x := a.e + k) (by omega) (by omega)]
          simp
  · rw [if_neg ho, if_neg ho]; simp [Nm.nil, digs_zero]
theorem shift_calls {w : World} {v : Value} {a : Nm} {k : Int} (h : NumV w v a) (hl : Fits a.m) :
    Calls Tryz.prog 228 #[v, .int .i64 k] w fun e w' => ∃ u, e = .returned (.tuple #[u, .int .i64 (a.shift k).2]) ∧ NumV w' u (a.shift k).1 ∧ Below w.heap.size w w' := by
  obtain ⟨u, rfl, A, c, rfl, hc, hr⟩ := h
  refine (X.dyad_Shift.calls a.neg A c (digs a.m) a.e k _ _ _ _ w hr hc (shift_f hl)).mono ?_
  rintro e w' ⟨v1, rfl, hv, hb⟩
  exact ⟨_, rfl, ⟨v1, rfl, NatAt.of_eq (Words.of_R hv) rfl⟩, hb⟩
def Nm.sgn (a : Nm) : Int := if a.ok && decide (a.m ≠ 0) then (if a.neg then -1 else 1) else 0
theorem sgn_f {a : Nm} (hl : Fits a.m) : X.dyad_Sign.f 2 a.neg (digs a.m) a.e = some a.sgn := by
  unfold X.dyad_Sign.f Nm.sgn
  rw [valid_f a.neg a.m a.e hl]
  simp only [Option.bind_some]
  rw [show Nm.mk a.neg a.m a.e = a from rfl]
  by_cases ho : a.ok = true
  · rw [if_pos ho]
    simp only [X.dyad_Sign.j0]
    by_cases h : a.m = 0
    · rw [digs_len_zero h]; simp [ho, h]
    · have hp := digs_pos_len h
      have : (((digs a.m).length : Int) == 0) = false := beq_eq_false_iff_ne.mpr (by omega)
      rw [this]
      cases a.neg <;> simp [ho, h]
  · rw [if_neg ho]; simp [X.dyad_Sign.j0, ho]
theorem sgn_calls {w : World} {v : Value} {a : Nm} (h : NumV w v a) (hl : Fits a.m) :
    Calls Tryz.prog 192 #[v] w fun e w' => e = .returned (.int .i64 a.sgn) ∧ Below w.heap.size w w' := by
  obtain ⟨u, rfl, A, c, rfl, hc, hr⟩ := h
  exact X.dyad_Sign.calls 2 a.neg A c (digs a.m) a.e _ w hr hc (sgn_f hl)
end Go.Proofs.YtinmbcomnjmmjaaGreatDoor
namespace Go.Proofs.YtinmbcomnjmmjaaGreatDoor
open Go.RowKit Go.Proofs.YtinmbcomnjmmjaaGreatDoorW.PrintWords Go.Proofs.YtinmbcomnjmmjaaGreatDoorW.PrintLast Go.Proofs.YtinmbcomnjmmjaaGreatDoorW.PrintMore
open X
theorem or_zero {y : Int} (y0 : 0 ≤ y) (y1 : y < 18446744073709551616) : bits .or .u64 0 y = y := by
  obtain ⟨b, rfl⟩ := Int.eq_ofNat_of_zero_le y0
  have n1 := (bits_nat .u64 64 (by decide) (fun n h0 h1 => u64_id h0 (by omega)) 0 b (by omega) (by omega)).2
  simpa using n1
def U64Inv (xs : List Int) (i : Nat) : Int := if i = 0 then 0 else if i = 1 then xs.getD 0 0 else xs.getD 0 0 + xs.getD 1 0 * 4294967296
theorem val_mod (xs : List Int) (hd : Digs xs) : (xs.getD 0 0 + xs.getD 1 0 * 4294967296) = ((val xs % 18446744073709551616 : Nat) : Int) := by
  have d0 := hd.getD 0; have d1 := hd.getD 1
  obtain ⟨a0, a1⟩ := d0; obtain ⟨b0, b1⟩ := d1
  rcases xs with _ | ⟨x, _ | ⟨y, ys⟩⟩
  · rfl
  · simp only [List.getD_cons_zero, val, List.getD_cons_succ] at *; simp only [List.getD_nil]; omega
  · simp only [List.getD_cons_zero, val, List.getD_cons_succ] at *; omega
set_option maxRecDepth 100000 in
set_option maxHeartbeats 1000000 in
/-- (*Int).Uint64. -/
theorem uint64_calls {w : World} {g : Nat} {z : Int} (hz : IntAt w g z) (f : Fits z.natAbs) : Calls Tryz.prog 227 #[pt g] w fun e w' => e = .returned (.int .u64 ((z.natAbs % 18446744073709551616 : Nat) : Int)) ∧ w' = w := by
  obtain ⟨A, c, h0, h1, HV⟩ := hz.open
  have f' : (digs z.natAbs).length ≤ 1000000000 := f
  have HD : Aside0 (Digs (digs z.natAbs)) := ⟨digs_digs _⟩
  have HM : Aside0 (((digs z.natAbs).getD 0 0 + (digs z.natAbs).getD 1 0 * 4294967296) = ((z.natAbs % 18446744073709551616 : Nat) : Int)) := ⟨by rw [val_mod _ (digs_digs _), val_digs]⟩
  obtain ⟨A', c', e, hl, hr⟩ := HV.out
  cases e
  have HR := Aside0.mk hr
  clear hz f HV hl hr
  generalize digs z.natAbs = xs at *
  go_enter Tryz.func227, Tryz.ntmps227
  go_wp2_with fail
  go_loop [3, 4, 5, 11] (fun v3 _ _ v11 => ∃ (i : Nat), v11 = .int .i64 i ∧ v3 = .int .u64 (U64Inv xs i) ∧ i ≤ xs.length) (fun _ _ _ i => xs.length - (intOf i).toNat)
  case atStart => exact ⟨0, rfl, rfl, by omega⟩
  case round =>
    obtain ⟨i, rfl, rfl, hi⟩ := hrel
    by_cases hlt : i < xs.length
    · obtain ⟨ad, x, e1, hx, NX⟩ := at_word HR.out i hlt
      cases e1
      have dx := HD.out.getD i
      rw [← NX.out] at dx
      obtain ⟨x0, x1⟩ := dx
      have HI : Aside0 (i = 0 ∨ i = 1 ∨ 2 ≤ i) := ⟨by omega⟩
      rcases HI.out with h | h | h
      · subst h
        have hx0 : w.cell? ad = some (.int .u32 x) := hx
        have e : bits .or .u64 (U64Inv xs 0) x = U64Inv xs 1 := by
          show bits .or .u64 0 x = xs.getD 0 0
          rw [or_zero x0 (by omega), NX.out]
        go_wp2
        go_round
        case rel => exact ⟨1, rfl, by first | rfl | (rw [← e]), by omega⟩
        case measure => simp [intOf]; omega
      · subst h
        rw [add_pos _ Nat.one_pos] at hx
        have d0 := HD.out.getD 0
        have e : bits .or .u64 (U64Inv xs 1) (x * 4294967296) = U64Inv xs 2 := by
          show bits .or .u64 (xs.getD 0 0) (x * 4294967296) = xs.getD 0 0 + xs.getD 1 0 * 4294967296
          rw [or_high d0.1 d0.2 x0 x1, NX.out]
        clear d0
        go_wp2
        go_round
        case rel => exact ⟨2, rfl, by first | rfl | (rw [← e]), by omega⟩
        case measure => simp [intOf]; omega
      · have e : U64Inv xs (i + 1) = U64Inv xs i := by
          unfold U64Inv
          rw [if_neg (by omega), if_neg (by omega), if_neg (by omega), if_neg (by omega)]
        go_wp2
        go_round
        case rel => exact ⟨i + 1, by go_num, by rw [e], by omega⟩
        case measure => simp [intOf]; omega
    · have e : U64Inv xs i = ((z.natAbs % 18446744073709551616 : Nat) : Int) := by
        rw [← HM.out]
        have hie : i = xs.length := by omega
        unfold U64Inv
        by_cases h0 : i = 0
        · rw [if_pos h0, getD_big _ (by omega), getD_big _ (by omega)]; rfl
        · rw [if_neg h0]
          by_cases h1 : i = 1
          · rw [if_pos h1, getD_big xs (i := 1) (by omega)]; omega
          · rw [if_neg h1]
      go_wp2
      go_ret
      exact ⟨rfl, rfl⟩
theorem int64_u64 {n : Nat} (h : n < 4611686018427387904) : wrap64 ((n % 18446744073709551616 : Nat) : Int) = (n : Int) := by
  rw [Nat.mod_eq_of_lt (by omega), wrap64_id (by omega) (by omega)]
set_option maxRecDepth 100000 in
/-- (*Int).Int64, of a number that is not great. -/
theorem int64_calls {w : World} {g : Nat} {z : Int} (hz : IntAt w g z) (f : Fits z.natAbs) (hs : z.natAbs < 4611686018427387904) : Calls Tryz.prog 185 #[pt g] w fun e w' => e = .returned (.int .i64 z) ∧ w' = w := by
  obtain ⟨A, c, h0, h1, HV⟩ := hz.open
  have HZ := Aside0.mk hz
  have HW := Aside0.mk (int64_u64 hs)
  clear hz
  by_cases hn : z < 0
  · rw [decide_eq_true hn] at h0
    obtain ⟨n, hnn⟩ : ∃ n, z.natAbs = n := ⟨_, rfl⟩
    rw [hnn] at hs
    go_enter Tryz.func185, Tryz.ntmps185
    go_wp2_with (go_at_call 227; refine (uint64_calls HZ.out f).mono ?_; rintro e w2 ⟨rfl, rfl⟩; rw [hnn, Nat.mod_eq_of_lt (by omega)])
    go_ret
    exact ⟨ret_int (by omega), rfl⟩
  · rw [decide_eq_false hn] at h0
    obtain ⟨n, hnn⟩ : ∃ n, z.natAbs = n := ⟨_, rfl⟩
    rw [hnn] at hs
    go_enter Tryz.func185, Tryz.ntmps185
    go_wp2_with (go_at_call 227; refine (uint64_calls HZ.out f).mono ?_; rintro e w2 ⟨rfl, rfl⟩; rw [hnn, Nat.mod_eq_of_lt (by omega)])
    go_ret
    exact ⟨ret_int (by omega), rfl⟩
set_option maxRecDepth 100000 in
/-- (*Int).Rsh, of a number not below nought. -/
theorem rsh_calls {w : World} {g gx : Nat} {n : Nat} {k : Int} (hg : IntBlk w g) (hx : IntAt w gx (n : Int)) (f1 : Fits n) (hk0 : 0 ≤ k) (hk : k ≤ 9000000000) :
    Calls Tryz.prog 201 #[pt g, pt gx, .int .u64 k] w fun e w' => e = .returned (pt g) ∧ IntAt w' g ((n / 2 ^ k.toNat : Nat) : Int) ∧ Turns g w w' := by
  obtain ⟨A, c, h0, h1, HV⟩ := hx.open
  rw [decide_eq_false (by omega), Int.natAbs_natCast] at *
  have HG := Aside0.mk hg
  have HX := Aside0.mk hx
  clear hg hx
  go_enter Tryz.func201, Tryz.ntmps201
  go_wp2_with (first | (go_at_call 235; refine (shr_calls HV.out f1 hk0 hk).mono ?_; rintro e w2 ⟨r, rfl, hn2, hb2⟩; obtain ⟨A2, c2, h02, h12, HV2⟩ := (HX.out.below hb2).open; rw [decide_eq_false (by omega)] at h02; have HN2 := Aside0.mk hn2; have HB2 := Aside0.mk hb2; have HG2 := Aside0.mk (HG.out.below hb2); clear hn2 hb2 h0 h1))
  go_quiet (fail)
  go_wp2_with (go_at_call 198; refine (put_calls (w := w2.drewN nq) HG2.out _ HN2.out).mono ?_; rintro e w9 ⟨rfl, hi9, ht9⟩; have HI9 := Aside0.mk hi9; have HT9 := Aside0.mk ht9; clear hi9 ht9)
  go_ret
  exact ⟨rfl, HI9.out, ((Turns.drewN _ _ _).trans HT9.out).after_below HB2.out⟩
set_option maxRecDepth 100000 in
/-- (*Int).Cmp, of numbers not below nought. -/
theorem icmp_calls {w : World} {g1 g2 : Nat} {x y : Nat} (hx : IntAt w g1 (x : Int)) (hy : IntAt w g2 (y : Int)) (f1 : Fits x) :
    Calls Tryz.prog 241 #[pt g1, pt g2] w fun e w' => e = .returned (.int .i64 (cmpN x y)) ∧ Below w.heap.size w w' := by
  obtain ⟨A, c, h0, h1, HV⟩ := hx.open
  obtain ⟨A', c', h0', h1', HV'⟩ := hy.open
  rw [decide_eq_false (by omega)] at h0 h0'
  rw [Int.natAbs_natCast] at HV HV' h1 h1'
  clear hx hy
  go_enter Tryz.func241, Tryz.ntmps241
  go_wp2_with fail
  go_quiet (fail)
  have q0 : (w.drewN nq).cell? ⟨g1, 0, none⟩ = _ := h0
  have q1 : (w.drewN nq).cell? ⟨g1, 1, none⟩ = _ := h1
  have q2 : (w.drewN nq).cell? ⟨g2, 1, none⟩ = _ := h1'
  have HV2 : Aside0 (NatAt (w.drewN nq) _ _) := ⟨HV.out⟩
  have HV2' : Aside0 (NatAt (w.drewN nq) _ _) := ⟨HV'.out⟩
  have HBq := Aside0.mk (pw_below_drewN (Below.refl w.heap.size w) nq)
  clear h0 h0' h1 h1' HV HV'
  generalize w.drewN nq = wq at *
  go_upto_region 7 with (fail)
  go_still_tail 8, (by kernel_rfl)
  change wpList _ _ _ _ _ wq.drew
  go_wp2_with (go_at_call 226; refine (cmp_calls (w := wq.drew) HV2.out HV2'.out f1).mono ?_; rintro e w9 ⟨rfl, hb9⟩; have HB9 := Aside0.mk hb9; clear hb9)
  go_ret
  exact ⟨rfl, below_then HBq.out.drew HBq.out.size HB9.out⟩
end Go.Proofs.YtinmbcomnjmmjaaGreatDoor
namespace Go.Proofs.YtinmbcomnjmmjaaGreatDoor
open Go.RowKit Go.Proofs.YtinmbcomnjmmjaaGreatDoorW.PrintWords Go.Proofs.YtinmbcomnjmmjaaGreatDoorW.PrintLast Go.Proofs.YtinmbcomnjmmjaaGreatDoorW.PrintMore
open X
theorem alloc_at (w : World) (o : Obj) : (w.alloc o).heap[w.heap.size]? = some o := by
  show (w.heap.push o)[w.heap.size]? = some o
  rw [Array.getElem?_push_size]
theorem alloc_size (w : World) (o : Obj) : (w.alloc o).heap.size = w.heap.size + 1 := by
  show (w.heap.push o).size = _
  rw [Array.size_push]
theorem alloc_below (w : World) (o : Obj) : Below w.heap.size w (w.alloc o) := (Below.refl _ w).alloc (Nat.le_refl _) o
theorem blk3 {w : World} {g : Nat} {a b c : Value} {t : TypeId} {f : Nat × Nat} (h : w.heap[g]? = some (.cells #[a, b, c] t f)) : w.cell? ⟨g, 0, none⟩ = some a ∧ w.cell? ⟨g, 1, none⟩ = some b ∧ w.cell? ⟨g, 2, none⟩ = some c := by
  unfold World.cell?
  simp only [h]
  exact ⟨rfl, rfl, rfl⟩
set_option maxRecDepth 100000 in
set_option maxHeartbeats 1000000 in
/-- (Num).value. -/
theorem value_calls {w : World} {v : Value} {a : Nm} (h : NumV w v a) (hl : Fits a.m) :
    Calls Tryz.prog 160 #[v] w fun e w' => ∃ g, e = .returned (pt g) ∧ w.heap.size ≤ g ∧ IntAt w' g (signed a.neg a.m) ∧ Below w.heap.size w w' := by
  obtain ⟨u, rfl, A, c, rfl, hc, hr⟩ := h
  obtain ⟨neg, m, e⟩ := a
  simp only at hl hc hr ⊢
  have hl' : (digs m).length ≤ 2000000000 := Nat.le_trans hl (by decide)
  have hw2 := below_step (alloc_below w (.cells #[.bool neg, .slice A (digs m).length c, .int .i64 e] 155)) (alloc_below (w.alloc (.cells #[.bool neg, .slice A (digs m).length c, .int .i64 e] 155)) (.cells #[.bool false, .slice none 0 0] 184))
  have hI := (IntAt.new (w.alloc (.cells #[.bool neg, .slice A (digs m).length c, .int .i64 e] 155))).blk
  have hbx : ((w.alloc (.cells #[.bool neg, .slice A (digs m).length c, .int .i64 e] 155)).alloc (.cells #[.bool false, .slice none 0 0] 184)).heap[w.heap.size]? = _ := ((alloc_below _ (.cells #[.bool false, .slice none 0 0] 184)).block _ (by rw [alloc_size]; omega)).trans (alloc_at w (.cells #[.bool neg, .slice A (digs m).length c, .int .i64 e] 155))
  rw [alloc_size] at hI
  have HW := Aside0.mk (Words.below (xs := digs m) ⟨A, c, rfl, hc, hr⟩ hw2)
  have HI := Aside0.mk hI; have HBX := Aside0.mk hbx; have HB2 := Aside0.mk hw2
  clear hr hc hw2 hI hbx
  cases neg
  · go_enter Tryz.func160, Tryz.ntmps160
    go_wp2_with (go_at_call 208; refine (setwords_calls HI.out HW.out (digs_digs m) hl').mono ?_; rintro e w3 ⟨rfl, hi3, ht3⟩; rw [val_digs] at hi3; have HI3 := Aside0.mk hi3; have HT3 := Aside0.mk ht3; have hb3 := (ht3.block (blk_lt HBX.out) (by omega)).trans HBX.out; obtain ⟨k0, k1, k2⟩ := blk3 hb3; clear hi3 ht3 hb3)
    go_ret
    exact ⟨_, rfl, by omega, HI3.out, Turns.below HB2.out HB2.out.size (by omega) HT3.out⟩
  · go_enter Tryz.func160, Tryz.ntmps160
    go_wp2_with (first | (go_at_call 208; refine (setwords_calls HI.out HW.out (digs_digs m) hl').mono ?_; rintro e w3 ⟨rfl, hi3, ht3⟩; rw [val_digs] at hi3; have HI3 := Aside0.mk hi3; have HT3 := Aside0.mk ht3; have hb3 := (ht3.block (blk_lt HBX.out) (by omega)).trans HBX.out; obtain ⟨k0, k1, k2⟩ := blk3 hb3; clear hi3 ht3 hb3) | (go_at_call 151; refine (neg_calls HI3.out.blk HI3.out).mono ?_; rintro e w4 ⟨rfl, hi4, ht4⟩; have HI4 := Aside0.mk hi4; have HT4 := Aside0.mk ht4; clear hi4 ht4))
    go_ret
    exact ⟨_, rfl, by omega, HI4.out, Turns.below HB2.out HB2.out.size (by omega) (HT3.out.trans HT4.out)⟩
/-- Block g holds no word. -/
def NoWord (w : World) (g : Nat) : Prop := ∀ a x, a.block = g → w.cell? a ≠ some (.int .u32 x)
theorem Words.turnsN {w w1 : World} {g : Nat} {v : Value} {xs : List Int} (h : Words w v xs) (hg : NoWord w g) (ht : Turns g w w1) : Words w1 v xs := by
  obtain ⟨A, c, rfl, hl, hf⟩ := h
  refine ⟨A, c, rfl, hl, Kd.C_of_reads (enc := Value.int .u32) (d := (0 : Int)) (show ReadsInt w1 .u32 _ _ _ from ?_)⟩
  obtain ⟨h1, h2, h3⟩ := reads_of_C hf
  refine ⟨h1, h2, fun hn => ?_⟩
  obtain ⟨ad, e, hc⟩ := h3 hn
  refine ⟨ad, e, fun j hj => ?_⟩
  have hcj := hc j hj
  have hlt := World.block_lt_of_cell? w _ hcj
  have hne : (ad.add j).block ≠ g := fun e => hg _ _ e hcj
  have hb := ht.block hlt hne
  unfold World.cell? at hcj ⊢
  rw [hb]; exact hcj
theorem NatAt.turnsN {w w1 : World} {g : Nat} {v : Value} {n : Nat} (h : NatAt w v n) (hg : NoWord w g) (ht : Turns g w w1) : NatAt w1 v n := Words.turnsN h hg ht
theorem NumBlk.noWord {w : World} {g : Nat} {b : Bool} {A : Option Addr} {n c : Nat} {e : Int} {t : TypeId} (h : w.heap[g]? = some (.cells #[.bool b, .slice A n c, .int .i64 e] t (0, 0))) : NoWord w g := by
  intro a x ha hc
  unfold World.cell? at hc
  rw [ha, h] at hc
  simp only at hc
  split at hc
  · cases hc
  · rcases ho : a.off with _ | _ | _ | m
    all_goals (rw [ho] at hc; simp at hc)
/-- n times 2 to the e, as a Num; the error. -/
def numF (z e : Int) : Nm × Int :=
  if z = 0 then (Nm.nil, 0)
  else if 65536 < bl (z.natAbs / 2 ^ zerosN z.natAbs) ∨ 65536 - (zerosN z.natAbs : Int) < e ∨ e < -65536 - (zerosN z.natAbs : Int) then (Nm.nil, 2)
  else (⟨decide (z < 0), z.natAbs / 2 ^ zerosN z.natAbs, e + zerosN z.natAbs⟩, 0)
set_option maxRecDepth 100000 in
set_option maxHeartbeats 2000000 in
theorem num_zero {w : World} {g : Nat} {e : Int} (hz : IntAt w g 0) :
    Calls Tryz.prog 152 #[pt g, .int .i64 e] w fun e w' => ∃ u, e = .returned (.tuple #[u, .int .i64 0]) ∧ NumV w' u Nm.nil ∧ Below w.heap.size w w' := by
  have HZ := Aside0.mk (hz.below (alloc_below w (.cells #[.bool false, .slice none 0 0, .int .i64 0] 155)))
  have hbl := alloc_at w (.cells #[.bool false, .slice none 0 0, .int .i64 0] 155)
  obtain ⟨k0, k1, k2⟩ := blk3 hbl
  have hf := blk_frozen hbl
  have f0 := hf 0; have f1 := hf 1; have f2 := hf 2
  have HB := Aside0.mk (alloc_below w (.cells #[.bool false, .slice none 0 0, .int .i64 0] 155))
  clear hz hf hbl
  go_enter Tryz.func152, Tryz.ntmps152
  go_wp2_with (go_at_call 179; refine (sign_calls HZ.out).mono ?_; rintro e w3 ⟨rfl, rfl⟩)
  refine bodyPost_ret (results_ct rfl _ _ (w.heap.size) 155 #[.bool false, .slice none 0 0, .int .i64 0] (0, 0) _ rfl (alloc_at _ _) Tryz.underlying155 rfl (by kernel_rfl)) rfl ?_
  exact ⟨_, rfl, NumV.nil _, HB.out⟩
theorem ctzFrom_le : ∀ (f x : Nat), Lib.ctzFrom f x ≤ f
  | 0, _ => Nat.le_refl _
  | f + 1, x => by
    simp only [Lib.ctzFrom]
    split
    · omega
    · have := ctzFrom_le f (x / 2); omega
theorem tz_le (x : Nat) : tz x ≤ 64 := by
  unfold tz Lib.ctz
  split
  · omega
  · have := ctzFrom_le 32 x; omega
theorem zerosL_le (xs : List Int) : zerosL xs ≤ 32 * xs.length + 64 := by
  induction xs with
  | nil => simp [zerosL]
  | cons x xs ih =>
    simp only [zerosL, List.length_cons]
    split
    · omega
    · have : tz x.toNat ≤ 64 := tz_le _
      omega
set_option maxRecDepth 100000 in
set_option maxHeartbeats 4000000 in
theorem num_some {w : World} {g : Nat} {z e : Int} (hz : IntAt w g z) (hn : z ≠ 0) (fs : (digs z.natAbs).length ≤ 200000000) (hT : Tab32 w) :
    Calls Tryz.prog 152 #[pt g, .int .i64 e] w fun e' w' => ∃ u, e' = .returned (.tuple #[u, .int .i64 (numF z e).2]) ∧ NumV w' u (numF z e).1 ∧ Below w.heap.size w w' := by
  have hsg : z.sign ≠ 0 := fun h => hn (Int.sign_eq_zero_iff_zero.1 h)
  have hsb : (z.sign == 0) = false := beq_eq_false_iff_ne.mpr hsg
  have f : Fits z.natAbs := Nat.le_trans fs (by decide)
  have HB1 := Aside0.mk (alloc_below w (.cells #[.bool false, .slice none 0 0, .int .i64 0] 155))
  have hb2 := below_step HB1.out (alloc_below (w.alloc (.cells #[.bool false, .slice none 0 0, .int .i64 0] 155)) (.cells #[.bool false, .slice none 0 0] 184))
  have HZ1 := Aside0.mk (hz.below HB1.out)
  have HZ2 := Aside0.mk (hz.below hb2)
  have hI := (IntAt.new (w.alloc (.cells #[.bool false, .slice none 0 0, .int .i64 0] 155))).blk
  rw [alloc_size] at hI
  have hbl : ((w.alloc (.cells #[.bool false, .slice none 0 0, .int .i64 0] 155)).alloc (.cells #[.bool false, .slice none 0 0] 184)).heap[w.heap.size]? = _ := ((alloc_below _ _).block _ (by rw [alloc_size]; omega)).trans (alloc_at w (.cells #[.bool false, .slice none 0 0, .int .i64 0] 155))
  have hgw : g < w.heap.size := hz.lt
  have HI := Aside0.mk hI; have HBL := Aside0.mk hbl; have HB2 := Aside0.mk hb2; have HT := Aside0.mk hT
  have HF := Aside0.mk f
  have HN : Aside0 (numF z e = if 65536 < bl (z.natAbs / 2 ^ zerosN z.natAbs) ∨ 65536 - (zerosN z.natAbs : Int) < e ∨ e < -65536 - (zerosN z.natAbs : Int) then (Nm.nil, 2)
    else (⟨decide (z < 0), z.natAbs / 2 ^ zerosN z.natAbs, e + zerosN z.natAbs⟩, 0)) := ⟨by unfold numF; rw [if_neg hn]⟩
  have hzl : zerosN z.natAbs ≤ 6400000064 := Nat.le_trans (zerosL_le (digs z.natAbs)) (by omega)
  have HF2 := Aside0.mk (f.mono (Nat.div_le_self z.natAbs (2 ^ zerosN z.natAbs)))
  clear hz hI hbl hb2 hsg hT hn f fs
  obtain ⟨M, hM⟩ : ∃ M, z.natAbs / 2 ^ zerosN z.natAbs = M := ⟨_, rfl⟩
  obtain ⟨k, hk⟩ : ∃ k, zerosN z.natAbs = k := ⟨_, rfl⟩
  rw [hM] at HN HF2
  rw [hk] at HN hzl
  have HM := Aside0.mk hM
  have HK := Aside0.mk hk
  clear hM hk
  go_enter Tryz.func152, Tryz.ntmps152
  go_upto_region 6 with (first
    | (go_at_call 179; refine (sign_calls HZ1.out).mono ?_; rintro e' w3 ⟨rfl, rfl⟩)
    | (go_at_call 162; refine (abs_calls HI.out HZ2.out).mono ?_; rintro e' w3 ⟨rfl, hi3, ht3⟩; have HI3 := Aside0.mk hi3; have HT3 := Aside0.mk ht3; clear hi3 ht3)
    | (go_at_call 200; refine (itz_calls HI3.out (by rw [Int.natAbs_natCast]; exact HF.out) ((HT.out.below HB2.out).turns HI.out HT3.out)).mono ?_; rintro e' w4 ⟨rfl, rfl⟩; rw [Int.natAbs_natCast, HK.out])
    | (go_at_call 201; refine (rsh_calls HI3.out.blk HI3.out HF.out (by omega) (by omega)).mono ?_; rintro e' w5 ⟨rfl, hi5, ht5⟩; rw [Int.toNat_natCast, ← HK.out, HM.out] at hi5; have HI5 := Aside0.mk hi5; have HT5 := Aside0.mk (HT3.out.trans ht5); clear hi5 ht5))
  have HZ5 := Aside0.mk (HZ2.out.turns (by omega) HI.out HT5.out)
  have hbl5 := (HT5.out.block (blk_lt HBL.out) (by omega)).trans HBL.out
  obtain ⟨k0, k1, k2⟩ := blk3 hbl5
  have hfr := blk_frozen hbl5
  have f0 := hfr 0; have f1 := hfr 1; have f2 := hfr 2
  have HBL5 := Aside0.mk hbl5
  have HBE := Aside0.mk (Turns.below HB2.out HB2.out.size (by omega) HT5.out)
  have hsn : decide (z.sign < 0) = decide (z < 0) := by
    by_cases h : z < 0
    · rw [Int.sign_eq_neg_one_of_neg h]; simp [h]
    · have : 0 ≤ z.sign := by rcases Int.lt_or_eq_of_le (Int.not_lt.1 h) with h1 | h1
                              · rw [Int.sign_eq_one_of_pos h1]; decide
                              · rw [← h1]; decide
      rw [decide_eq_false h, decide_eq_false (by omega)]
  clear hfr hbl5 HI3 HT3
  obtain ⟨B, hB⟩ : ∃ B, bl M = B := ⟨_, rfl⟩
  rw [hB] at HN
  have HBB := Aside0.mk hB
  clear hB
  by_cases hc1 : 65536 < B
  · rw [if_pos (.inl hc1)] at HN
    go_wp2_with (go_at_call 202; refine (ibitlen_calls HI5.out (by rw [Int.natAbs_natCast]; exact HF2.out)).mono ?_; rintro e' w6 ⟨rfl, rfl⟩; rw [Int.natAbs_natCast, HBB.out])
    refine bodyPost_ret (results_ct rfl _ _ (w.heap.size) 155 #[.bool false, .slice none 0 0, .int .i64 0] (0, 0) _ rfl (blk_put (blk_put (blk_put HBL5.out 0 _ rfl) 1 _ rfl) 2 _ rfl) Tryz.underlying155 rfl (by kernel_rfl)) rfl ?_
    rw [HN.out]
    exact ⟨_, rfl, NumV.nil _, Turns.below HBE.out HBE.out.size (Nat.le_refl _) (((Turns.set _ _ _ _).trans (Turns.set _ _ _ _)).trans (Turns.set _ _ _ _))⟩
  · by_cases hc2 : 65536 - (k : Int) < e
    · rw [if_pos (.inr (.inl hc2))] at HN
      go_wp2_with (go_at_call 202; refine (ibitlen_calls HI5.out (by rw [Int.natAbs_natCast]; exact HF2.out)).mono ?_; rintro e' w6 ⟨rfl, rfl⟩; rw [Int.natAbs_natCast, HBB.out])
      refine bodyPost_ret (results_ct rfl _ _ (w.heap.size) 155 #[.bool false, .slice none 0 0, .int .i64 0] (0, 0) _ rfl (blk_put (blk_put (blk_put HBL5.out 0 _ rfl) 1 _ rfl) 2 _ rfl) Tryz.underlying155 rfl (by kernel_rfl)) rfl ?_
      rw [HN.out]
      exact ⟨_, rfl, NumV.nil _, Turns.below HBE.out HBE.out.size (Nat.le_refl _) (((Turns.set _ _ _ _).trans (Turns.set _ _ _ _)).trans (Turns.set _ _ _ _))⟩
    · by_cases hc3 : e < -65536 - (k : Int)
      · rw [if_pos (.inr (.inr hc3))] at HN
        go_wp2_with (go_at_call 202; refine (ibitlen_calls HI5.out (by rw [Int.natAbs_natCast]; exact HF2.out)).mono ?_; rintro e' w6 ⟨rfl, rfl⟩; rw [Int.natAbs_natCast, HBB.out])
        refine bodyPost_ret (results_ct rfl _ _ (w.heap.size) 155 #[.bool false, .slice none 0 0, .int .i64 0] (0, 0) _ rfl (blk_put (blk_put (blk_put HBL5.out 0 _ rfl) 1 _ rfl) 2 _ rfl) Tryz.underlying155 rfl (by kernel_rfl)) rfl ?_
        rw [HN.out]
        exact ⟨_, rfl, NumV.nil _, Turns.below HBE.out HBE.out.size (Nat.le_refl _) (((Turns.set _ _ _ _).trans (Turns.set _ _ _ _)).trans (Turns.set _ _ _ _))⟩
      · rw [if_neg (by omega)] at HN
        obtain ⟨s, hs⟩ : ∃ s, decide (z < 0) = s := ⟨_, rfl⟩
        rw [hs] at hsn HN
        have HAL := Aside0.mk (alloc_at w5 (.cells #[.bool s, .slice none 0 0, .int .i64 (e + k)] 155))
        have HIA := Aside0.mk (HI5.out.below (alloc_below w5 (.cells #[.bool s, .slice none 0 0, .int .i64 (e + k)] 155)))
        have hne5 : w.heap.size < w5.heap.size := blk_lt HBL5.out
        go_wp2_with (first
          | (go_at_call 202; refine (ibitlen_calls HI5.out (by rw [Int.natAbs_natCast]; exact HF2.out)).mono ?_; rintro e' w6 ⟨rfl, rfl⟩; rw [Int.natAbs_natCast, HBB.out])
          | (go_at_call 179; refine (sign_calls HZ5.out).mono ?_; rintro e' w6 ⟨rfl, rfl⟩)
          | (go_at_call 203; refine (words_calls HIA.out (by rw [Int.natAbs_natCast]; exact HF2.out)).mono ?_; rintro e' w7 ⟨r7, rfl, hn7, hb7⟩; rw [Int.natAbs_natCast] at hn7; have hs7 := hn7; obtain ⟨A7, c7, rfl, _, _⟩ := hs7; have hA7 := (hb7.block _ (blk_lt HAL.out)).trans HAL.out; obtain ⟨a0, a1, a2⟩ := blk3 hA7; have hfa := blk_frozen hA7; have g0 := hfa 0; have g1 := hfa 1; have g2 := hfa 2; clear hfa; have hB7 := (hb7.block _ (by rw [alloc_size]; omega)).trans (blk_alloc HBL5.out _); obtain ⟨b0, b1, b2⟩ := blk3 hB7; have hfb := blk_frozen hB7; have q0 := hfb 0; have q1 := hfb 1; have q2 := hfb 2; clear hfb; have HN7 := Aside0.mk hn7; have HB7 := Aside0.mk hb7; have HA7 := Aside0.mk hA7; have HBB7 := Aside0.mk hB7; clear hn7 hb7 hA7 hB7))
        refine bodyPost_ret (results_ct rfl _ _ (w.heap.size) 155 #[.bool s, .slice A7 (digs M).length c7, .int .i64 (e + k)] (0, 0) _ rfl (blk_put (blk_put (blk_put (blk_far HBB7.out (Nat.ne_of_lt hne5) _) 0 _ rfl) 1 _ rfl) 2 _ rfl) Tryz.underlying155 rfl (by kernel_rfl)) rfl ?_
        rw [HN.out]
        refine ⟨_, rfl, ⟨_, rfl, ?_⟩, ?_⟩
        · have n1 := HN7.out.turnsN (NumBlk.noWord HA7.out) (Turns.set w7 w6.heap.size 1 (.slice A7 (digs M).length c7))
          refine n1.turnsN (NumBlk.noWord (blk_far HBB7.out (Nat.ne_of_lt hne5) _)) (((Turns.set _ w.heap.size 0 _).trans (Turns.set _ w.heap.size 1 _)).trans (Turns.set _ w.heap.size 2 _))
        · have b7 := below_step (below_step HBE.out (alloc_below w6 _)) HB7.out
          have s1 := Turns.below b7 b7.size (Nat.le_of_lt hne5) (Turns.set w7 w6.heap.size 1 (.slice A7 (digs M).length c7))
          exact Turns.below s1 s1.size (Nat.le_refl _) (((Turns.set _ w.heap.size 0 _).trans (Turns.set _ w.heap.size 1 _)).trans (Turns.set _ w.heap.size 2 _))
/-- dyad.num. -/
theorem num_calls {w : World} {g : Nat} {z e : Int} (hz : IntAt w g z) (fs : (digs z.natAbs).length ≤ 200000000) (hT : Tab32 w) :
    Calls Tryz.prog 152 #[pt g, .int .i64 e] w fun e' w' => ∃ u, e' = .returned (.tuple #[u, .int .i64 (numF z e).2]) ∧ NumV w' u (numF z e).1 ∧ Below w.heap.size w w' := by
  by_cases hn : z = 0
  · subst hn; exact num_zero hz
  · exact num_some hz hn fs hT
theorem NumV.slice {w : World} {v : Value} {a : Nm} (h : NumV w v a) : ∃ A c, v = .agg #[.bool a.neg, .slice A (digs a.m).length c, .int .i64 a.e] ∧ NatAt w (.slice A (digs a.m).length c) a.m := by
  obtain ⟨u, rfl, A, c, rfl, h⟩ := h
  exact ⟨A, c, rfl, A, c, rfl, h⟩
set_option maxRecDepth 100000 in
set_option maxHeartbeats 4000000 in
/-- dyad.Make. -/
theorem make_calls {w : World} {v : Value} {neg : Bool} {m : Nat} {e : Int} (h : NatAt w v m) (fs : (digs m).length ≤ 200000000) (hT : Tab32 w) :
    Calls Tryz.prog 267 #[.bool neg, v, .int .i64 e] w fun e' w' => ∃ u, e' = .returned (.tuple #[u, .int .i64 (numF (signed neg m) e).2]) ∧ NumV w' u (numF (signed neg m) e).1 ∧ Below w.heap.size w w' := by
  have HB1 := Aside0.mk (alloc_below w (.cells #[.bool false, .slice none 0 0, .int .i64 0] 155))
  have HV1 : Aside0 (NumV (w.alloc (.cells #[.bool false, .slice none 0 0, .int .i64 0] 155)) (.agg #[.bool neg, v, .int .i64 0]) ⟨neg, m, 0⟩) := ⟨⟨v, rfl, h.below HB1.out⟩⟩
  have HBL := Aside0.mk (alloc_at w (.cells #[.bool false, .slice none 0 0, .int .i64 0] 155))
  have HT := Aside0.mk hT
  obtain ⟨A, c, rfl, _, _⟩ := h
  have hfm : Fits m := Nat.le_trans fs (by decide)
  have HF := Aside0.mk hfm
  clear hT hfm
  go_enter Tryz.func267, Tryz.ntmps267
  go_wp2_with (first
    | (go_at_call 160; refine (value_calls HV1.out HF.out).mono ?_; rintro e' w2 ⟨g, rfl, hg, hi2, hb2⟩; have HI2 := Aside0.mk hi2; have HB2 := Aside0.mk hb2; have HBL2 := Aside0.mk (blk_below HBL.out hb2); have HT2 := Aside0.mk ((HT.out.below HB1.out).below hb2); clear hi2 hb2 hg)
    | (go_at_call 152; refine (num_calls HI2.out (by rw [signed_abs]; exact fs) HT2.out).mono ?_; rintro e' w3 ⟨u, rfl, hu3, hb3⟩; obtain ⟨A3, c3, rfl, hn3⟩ := hu3.slice; have HN3 := Aside0.mk hn3; have HB3 := Aside0.mk hb3; have hbl3 := blk_below HBL2.out hb3; obtain ⟨k0, k1, k2⟩ := blk3 hbl3; have hfr := blk_frozen hbl3; have f0 := hfr 0; have f1 := hfr 1; have f2 := hfr 2; have HBL3 := Aside0.mk hbl3; clear hfr hu3 hn3 hb3 hbl3))
  refine bodyPost_ret (results_ct rfl _ _ (w.heap.size) 155 #[.bool (numF (signed neg m) e).1.neg, .slice A3 (digs (numF (signed neg m) e).1.m).length c3, .int .i64 (numF (signed neg m) e).1.e] (0, 0) _ rfl (blk_put (blk_put (blk_put HBL3.out 0 _ rfl) 1 _ rfl) 2 _ rfl) Tryz.underlying155 rfl (by kernel_rfl)) rfl ?_
  refine ⟨_, rfl, ⟨_, rfl, ?_⟩, ?_⟩
  · exact HN3.out.turnsN (NumBlk.noWord HBL3.out) (((Turns.set _ w.heap.size 0 _).trans (Turns.set _ w.heap.size 1 _)).trans (Turns.set _ w.heap.size 2 _))
  · have b3 := below_step (below_step HB1.out HB2.out) HB3.out
    exact Turns.below b3 b3.size (Nat.le_refl _) (((Turns.set _ w.heap.size 0 _).trans (Turns.set _ w.heap.size 1 _)).trans (Turns.set _ w.heap.size 2 _))
end Go.Proofs.YtinmbcomnjmmjaaGreatDoor
