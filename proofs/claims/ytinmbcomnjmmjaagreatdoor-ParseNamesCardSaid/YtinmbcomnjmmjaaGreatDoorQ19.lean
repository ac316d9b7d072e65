/- Proved: a part of what the statement on the names of parse needs: walks of functions of the program, and plain laws. (Texts Bj.) -/
import Derived.Test.YtinmbcomnjmmjaaGreatDoorQ15
import Derived.Test.YtinmbcomnjmmjaaGreatDoorQ18
namespace Go.Proofs.YtinmbcomnjmmjaaGreatDoor
open Go.RowKit Go.Proofs.YtinmbcomnjmmjaaGreatDoorW.PrintWords Go.Proofs.YtinmbcomnjmmjaaGreatDoorW.PrintLast Go.Proofs.YtinmbcomnjmmjaaGreatDoorW.PrintMore
open X
/-- A row of words of the call's own (with room behind it that nobody reads). -/
def RowBlk (w : World) (g : Nat) (U : List Int) : Prop := ∃ ex : List Value, w.heap[g]? = some (.cells (nums .u32 U ++ ex).toArray 93 (0, 0))
theorem RowBlk.cell {w : World} {g : Nat} {U : List Int} (h : RowBlk w g U) {i : Nat} (hi : i < U.length) : w.cell? ⟨g, i, none⟩ = some (.int .u32 (U.getD i 0)) := by
  obtain ⟨ex, h⟩ := h
  unfold World.cell?
  rw [show (⟨g, i, none⟩ : Addr).block = g from rfl, h]
  simp [nums, List.getD, hi, List.getElem?_append_left]
theorem RowBlk.free {w : World} {g : Nat} {U : List Int} (h : RowBlk w g U) (i : Nat) : w.frozen? ⟨g, i, none⟩ = false := by
  obtain ⟨ex, h⟩ := h
  exact blk_frozen h i
theorem RowBlk.set {w : World} {g : Nat} {U : List Int} (h : RowBlk w g U) (i : Nat) (x : Int) : RowBlk (w.setCell ⟨g, i, none⟩ (.int .u32 x)) g (U.set i x) := by
  obtain ⟨ex, h⟩ := h
  have := blk_set h i (.int .u32 x)
  by_cases hi : i < U.length
  · refine ⟨ex, ?_⟩
    have hi' : i < (nums .u32 U).length := by rw [nums_length]; exact hi
    rw [this, List.setIfInBounds_toArray, List.set_append_left _ _ hi']
    simp [nums, List.map_set]
  · refine ⟨ex.set (i - U.length) (.int .u32 x), ?_⟩
    have hi' : (nums .u32 U).length ≤ i := by rw [nums_length]; omega
    rw [this, List.set_eq_of_length_le (by omega), List.setIfInBounds_toArray, List.set_append_right _ _ hi', nums_length]
theorem RowBlk.drewN {w : World} {g : Nat} {U : List Int} (h : RowBlk w g U) (n : Nat) : RowBlk (w.drewN n) g U := h
theorem Turns.set (w : World) (g i : Nat) (u : Value) : Turns g w (w.setCell ⟨g, i, none⟩ u) := 
  ⟨rfl, rfl, rfl, by simp [World.setCell], fun k _ hn => Below.heap_setCell _ _ _ _ (fun e => hn (by rw [e]))⟩
theorem Turns.drewN (w : World) (g n : Nat) : Turns g w (w.drewN n) := Turns.of_below (pw_below_drewN (Below.refl _ _) n)
attribute [local go_sem] max2_int min2_int max_two min_two max_three min_three max_four min_four
/-- What is known of the leading words: of the row's window X, of the divisor V. -/
structure Kn (X V : Nat) (T x1 x2 u2 : Int) (m : Nat) : Prop where
  xh : X < (T.toNat * 4294967296 + u2.toNat + 1) * 4294967296 ^ m
  xl : (T.toNat * 4294967296 + u2.toNat) * 4294967296 ^ m ≤ X
  vl : (x1.toNat * 4294967296 + x2.toNat) * 4294967296 ^ m ≤ V
  vh : V < (x1.toNat * 4294967296 + x2.toNat + 1) * 4294967296 ^ m
  xv : X < V * 4294967296
  big : 4294967296 ^ (m + 1) ≤ V
  u2 : u2 < 4294967296
def GInv (q : Nat) (T x1 G : Int) : Prop := q ≤ G.toNat ∧ G.toNat * x1.toNat ≤ T.toNat
def GOut (q : Nat) (G : Int) : Prop := q ≤ G.toNat ∧ G.toNat ≤ q + 1
theorem Kn.pos {X V : Nat} {T x1 x2 u2 : Int} {m : Nat} (h : Kn X V T x1 x2 u2 m) : 0 < V := Nat.lt_of_lt_of_le (Nat.pow_pos (by decide)) h.big
theorem ginv_start {X V : Nat} {T x1 x2 u2 : Int} {m : Nat} (h : Kn X V T x1 x2 u2 m) (hT : 0 ≤ T) (hx : 0 < x1) : GInv (X / V) T x1 (if 4294967295 < T / x1 then 4294967295 else T / x1) := by
  have h1 : X < (T.toNat + 1) * 4294967296 ^ (m + 1) := by
    refine Nat.lt_of_lt_of_le h.xh ?_
    rw [Nat.pow_succ, Nat.mul_comm (4294967296 ^ m), ← Nat.mul_assoc]
    refine Nat.mul_le_mul_right _ ?_
    have := h.u2; omega
  have h2 : x1.toNat * 4294967296 ^ (m + 1) ≤ V := by
    refine Nat.le_trans ?_ h.vl
    rw [Nat.pow_succ, Nat.mul_comm (4294967296 ^ m), ← Nat.mul_assoc]
    refine Nat.mul_le_mul_right _ (by omega)
  obtain ⟨a, b⟩ := guess_ge (B := 4294967296) rfl h1 h2 h.xv (show 0 < x1.toNat by omega)
  have e : (T / x1).toNat = T.toNat / x1.toNat := by
    obtain ⟨t, rfl⟩ := Int.eq_ofNat_of_zero_le hT
    obtain ⟨x, rfl⟩ := Int.eq_ofNat_of_zero_le (Int.le_of_lt hx)
    rw [← Int.natCast_ediv, Int.toNat_natCast, Int.toNat_natCast, Int.toNat_natCast]
  have hd : T.toNat / x1.toNat * x1.toNat ≤ T.toNat := Nat.div_mul_le_self _ _
  split
  · rename_i hc
    refine ⟨by omega, Nat.le_trans (Nat.mul_le_mul_right _ (show (4294967295 : Int).toNat ≤ T.toNat / x1.toNat by omega)) hd⟩
  · exact ⟨by rw [e]; exact a, by rw [e]; exact hd⟩
theorem ginv_mul {q : Nat} {T x1 G : Int} (h : GInv q T x1 G) (hG : 0 ≤ G) (hx : 0 ≤ x1) (hT : 0 ≤ T) : G * x1 ≤ T := by
  have := h.2
  obtain ⟨t, rfl⟩ := Int.eq_ofNat_of_zero_le hT
  obtain ⟨x, rfl⟩ := Int.eq_ofNat_of_zero_le hx
  obtain ⟨g, rfl⟩ := Int.eq_ofNat_of_zero_le hG
  simp only [Int.toNat_natCast] at this
  exact_mod_cast this
theorem sub_toNat {T M : Int} (h0 : 0 ≤ M) (h1 : M ≤ T) : (T - M).toNat = T.toNat - M.toNat := by omega
theorem gout {X V : Nat} {T x1 x2 u2 G : Int} {m : Nat} (h : Kn X V T x1 x2 u2 m) (hi : GInv (X / V) T x1 G) (hG : 0 ≤ G) (hGB : G ≤ 4294967295) (hT : 0 ≤ T) (p3 : 0 ≤ x1) (p4 : 0 ≤ x2) (p2 : 0 ≤ u2) (hle : G * x2 ≤ (T - G * x1) * 4294967296 + u2) : GOut (X / V) G := by
  refine ⟨hi.1, ?_⟩
  have hm := ginv_mul hi hG p3 hT
  have e1 := Int.toNat_mul hG p3
  have e2 := Int.toNat_mul hG p4
  have h1 : G.toNat * x2.toNat ≤ (T.toNat - G.toNat * x1.toNat) * 4294967296 + u2.toNat := by
    rw [← e1, ← e2, ← sub_toNat (Int.mul_nonneg hG p3) hm]; omega
  have hok := guess_ok hi.2 h1
  refine guess_le rfl h.xl h.vh h.pos ?_ hok
  refine Nat.le_trans ?_ h.big
  rw [Nat.pow_succ, Nat.mul_comm]
  refine Nat.mul_le_mul_left _ (by omega)
theorem gdec {X V : Nat} {T x1 x2 u2 G : Int} {m : Nat} (h : Kn X V T x1 x2 u2 m) (hi : GInv (X / V) T x1 G) (hG : 0 < G) (hT : 0 ≤ T) (p3 : 0 ≤ x1) (p4 : 0 ≤ x2) (p2 : 0 ≤ u2) (hlt : (T - G * x1) * 4294967296 + u2 < G * x2) : GInv (X / V) T x1 (G - 1) := by
  have hG' : 0 ≤ G := Int.le_of_lt hG
  have hm := ginv_mul hi hG' p3 hT
  have e1 := Int.toNat_mul hG' p3
  have e2 := Int.toNat_mul hG' p4
  have h1 : (T.toNat - G.toNat * x1.toNat) * 4294967296 + u2.toNat < G.toNat * x2.toNat := by
    rw [← e1, ← e2, ← sub_toNat (Int.mul_nonneg hG' p3) hm]; omega
  have := guess_dec rfl h.xh h.vl hi.2 h1 hi.1
  have e : (G - 1).toNat = G.toNat - 1 := by omega
  exact ⟨by rw [e]; exact this, by rw [e]; exact Nat.le_trans (Nat.mul_le_mul_right _ (Nat.sub_le _ _)) hi.2⟩
theorem gzero {q : Nat} {T x1 G : Int} (hi : GInv q T x1 G) (h : G = 0) : GOut q G := ⟨hi.1, by subst h; simp⟩
theorem drewN_add (w : World) (a b : Nat) : (w.drewN a).drewN b = w.drewN (a + b) := by simp [World.drewN, Nat.add_assoc]
/-- How far a multiple of the divisor has been taken off: i words. -/
structure MInv (U U' ys : List Int) (j : Nat) (G : Int) (i : Nat) (b C : Int) : Prop where
  dg : Digs U'
  len : U'.length = U.length
  lo : U'.take j = U.take j
  hi : U'.drop (j + i) = U.drop (j + i)
  va : val ((U'.drop j).take i) + G.toNat * val (ys.take i) = val ((U.drop j).take i) + (b.toNat + C.toNat) * 4294967296 ^ i
theorem getD_of_drop {U U' : List Int} {p : Nat} (h : U'.drop p = U.drop p) : U'.getD p 0 = U.getD p 0 := by
  have := congrArg (fun l : List Int => l.getD 0 0) h
  simpa [List.getD_eq_getElem?_getD] using this
theorem seg_succ (L : List Int) (j i : Nat) : val ((L.drop j).take (i + 1)) = val ((L.drop j).take i) + (L.getD (j + i) 0).toNat * 4294967296 ^ i := by
  rw [val_take_succ']
  congr 2
  simp [List.getD_eq_getElem?_getD]
theorem seg_set (L : List Int) (j i : Nat) (d : Int) : ((L.set (j + i) d).drop j).take i = (L.drop j).take i := by
  rw [List.drop_set]
  split
  · omega
  · rw [List.take_set_of_le]; omega
theorem minv_arith (p l h y b b' C d u G vo vy vu B : Nat) (e1 : l + B * h = C + G * y) (e2 : d + (l + b) = u + b' * B) (e3 : vo + G * vy = vu + (b + C) * p) :
    vo + d * p + G * (vy + y * p) = vu + u * p + (b' + h) * (p * B) := by
  grind
theorem minv_step {U U' ys : List Int} {j i : Nat} {G b C u y d b' : Int} (h : MInv U U' ys j G i b C) (hlt : j + i < U.length) (hG : 0 ≤ G) (hC : 0 ≤ C) (hb : 0 ≤ b) (hb' : 0 ≤ b')
    (hu : u = U'.getD (j + i) 0) (hy : y = ys.getD i 0) (hy0 : 0 ≤ y) (hd : Dig d) (e : d + ((C + G * y) % 4294967296 + b) = u + b' * 4294967296) :
    MInv U (U'.set (j + i) d) ys j G (i + 1) b' ((C + G * y) / 4294967296) := by
  have hu0 : 0 ≤ u := by rw [hu]; exact (h.dg.getD _).1
  have hgy : 0 ≤ G * y := Int.mul_nonneg hG hy0
  refine ⟨h.dg.set _ hd, by rw [List.length_set, h.len], ?_, ?_, ?_⟩
  · rw [List.take_set_of_le (by omega), h.lo]
  · rw [List.drop_set_of_lt (by omega)]
    have := congrArg (fun l : List Int => l.drop 1) h.hi
    simpa [List.drop_drop, Nat.add_assoc] using this
  · rw [seg_succ, seg_succ, seg_set, getD_set_self _ (by rw [h.len]; exact hlt), val_take_succ', ← hy, ← getD_of_drop h.hi, ← hu, Nat.pow_succ]
    refine minv_arith (4294967296 ^ i) ((C + G * y) % 4294967296).toNat _ y.toNat b.toNat b'.toNat C.toNat d.toNat u.toNat G.toNat _ _ _ 4294967296 ?_ ?_ h.va
    · rw [toNat_split (by omega), ← Int.toNat_mul hG hy0]; omega
    · have := hd.1; omega
/-- What a step leaves: the quotient's word; in the row's window what is left. -/
def StepPost (X V g j m : Nat) (U : List Int) (w : World) (e : Ending) (w' : World) : Prop :=
  ∃ U', e = .returned (.int .u32 ((X / V : Nat) : Int)) ∧ RowBlk w' g U' ∧ Turns g w w' ∧ Digs U' ∧ U'.length = U.length ∧ U'.take j = U.take j ∧ U'.drop (j + (m + 3)) = U.drop (j + (m + 3)) ∧ val ((U'.drop j).take (m + 3)) = X % V
theorem step_fin0 {U U' ys : List Int} {j m X V : Nat} {G : Int} (h : MInv U U' ys j G (m + 3) 0 0) (hv : 0 < V) (hG0 : 0 ≤ G) (hG : GOut (X / V) G) (hX : X = val ((U.drop j).take (m + 3))) (hV : V = val ys) (hl : ys.length = m + 2) :
    G = ((X / V : Nat) : Int) ∧ val ((U'.drop j).take (m + 3)) = X % V := by
  have hva := h.va
  rw [List.take_of_length_le (show ys.length ≤ m + 3 by omega), ← hX, ← hV] at hva
  simp at hva
  have hg := guess_fin0 rfl hv hG.1 (show G.toNat * V ≤ X by omega)
  have hdm := Nat.div_add_mod X V
  rw [Nat.mul_comm, ← hg] at hdm
  exact ⟨by omega, by omega⟩
theorem step_fin1 {U U' ys : List Int} {j m X V : Nat} {G : Int} (h : MInv U U' ys j G (m + 3) 1 0) (hG0 : 0 ≤ G) (hG : GOut (X / V) G) (hX : X = val ((U.drop j).take (m + 3))) (hV : V = val ys) (hl : ys.length = m + 2) :
    G - 1 = ((X / V : Nat) : Int) ∧ val ((U'.drop j).take (m + 3)) + V = X % V + 4294967296 ^ (m + 3) := by
  have hva := h.va
  rw [List.take_of_length_le (show ys.length ≤ m + 3 by omega), ← hX, ← hV] at hva
  have e1 : ((1 : Int).toNat + (0 : Int).toNat) * 4294967296 ^ (m + 3) = 4294967296 ^ (m + 3) := by simp
  rw [e1] at hva
  have hlt : val ((U'.drop j).take (m + 3)) < 4294967296 ^ (m + 3) :=
    Nat.lt_of_lt_of_le (val_lt ((h.dg.drop j).take (m + 3))) (Nat.pow_le_pow_right (by decide) (List.length_take_le _ _))
  have hg := guess_fin1 (X := X) (v := V) rfl hG.1 hG.2 (by omega)
  have hdm := Nat.div_add_mod X V
  have e2 : G.toNat * V = V * (X / V) + V := by rw [hg, Nat.add_mul, Nat.one_mul, Nat.mul_comm]
  rw [e2] at hva
  refine ⟨by omega, ?_⟩
  generalize 4294967296 ^ (m + 3) = p at *
  generalize V * (X / V) = z at *
  omega
structure BInv (U U' ys : List Int) (j : Nat) (i : Nat) (k : Int) : Prop where
  dg : Digs U'
  len : U'.length = U.length
  lo : U'.take j = U.take j
  hi : U'.drop (j + i) = U.drop (j + i)
  va : val ((U'.drop j).take i) + k.toNat * 4294967296 ^ i = val ((U.drop j).take i) + val (ys.take i)
theorem ret_int {k : IntKind} {a b : Int} (h : a = b) : Ending.returned (.int k a) = .returned (.int k b) := by rw [h]
theorem binv_arith (p l h k u y vo vu vy B : Nat) (e1 : l + B * h = k + u + y) (e3 : vo + k * p = vu + vy) : vo + l * p + h * (p * B) = vu + u * p + (vy + y * p) := by
  grind
theorem binv_step {U U' ys : List Int} {j i : Nat} {k u y : Int} (h : BInv U U' ys j i k) (hlt : j + i < U.length) (hk : 0 ≤ k)
    (hu : u = U'.getD (j + i) 0) (hy : y = ys.getD i 0) (hy0 : 0 ≤ y) : BInv U (U'.set (j + i) ((k + u + y) % 4294967296)) ys j (i + 1) ((k + u + y) / 4294967296) := by
  have hu0 : 0 ≤ u := by rw [hu]; exact (h.dg.getD _).1
  refine ⟨h.dg.set _ (dig_mod _), by rw [List.length_set, h.len], ?_, ?_, ?_⟩
  · rw [List.take_set_of_le (by omega), h.lo]
  · rw [List.drop_set_of_lt (by omega)]
    have := congrArg (fun l : List Int => l.drop 1) h.hi
    simpa [List.drop_drop, Nat.add_assoc] using this
  · rw [seg_succ, seg_succ, seg_set, getD_set_self _ (by rw [h.len]; exact hlt), val_take_succ', ← hy, ← getD_of_drop h.hi, ← hu, Nat.pow_succ]
    refine binv_arith _ _ _ k.toNat _ _ _ _ _ _ ?_ h.va
    rw [toNat_split (by omega)]; omega
theorem binv_end {U U' ys : List Int} {j m X V : Nat} {k : Int} (h : BInv U U' ys j (m + 3) k) (hk0 : 0 ≤ k) (hk1 : k ≤ 1) (hl : ys.length = m + 2) (hV : V = val ys) (hv0 : 0 < V)
    (hf : val ((U.drop j).take (m + 3)) + V = X % V + 4294967296 ^ (m + 3)) : val ((U'.drop j).take (m + 3)) = X % V := by
  have hva := h.va
  rw [List.take_of_length_le (show ys.length ≤ m + 3 by omega), ← hV, hf] at hva
  have hlt : val ((U'.drop j).take (m + 3)) < 4294967296 ^ (m + 3) :=
    Nat.lt_of_lt_of_le (val_lt ((h.dg.drop j).take (m + 3))) (Nat.pow_le_pow_right (by decide) (List.length_take_le _ _))
  have hm := Nat.mod_lt X hv0
  have hk : k = 0 ∨ k = 1 := by omega
  generalize 4294967296 ^ (m + 3) = p at *
  generalize X % V = r at *
  rcases hk with rfl | rfl
  · simp at hva; omega
  · simp at hva; omega
set_option maxHeartbeats 4000000 in
set_option maxRecDepth 100000 in
theorem step_words (A : Option Addr) (c cu : Nat) (ys U : List Int) (g j n m : Nat) (w0 w : World) (hb : Below w0.heap.size w0 w) (hv : Kd.C (Kd.int .u32) w0 A (m + 2) ys) (hg : w0.heap.size ≤ g)
    (hU : RowBlk w g U) (hyl : ys.length = m + 2) (hn : m + 2 < n) (hlen : j + n ≤ U.length) (hm : U.length ≤ 1000000000) (hy : Digs ys) (hu : Digs U) (htop : 0 < ys.getD (m + 1) 0)
    (X V : Nat) (hK : Kn X V (U.getD (j + (m + 2)) 0 * 4294967296 + U.getD (j + (m + 1)) 0) (ys.getD (m + 1) 0) (ys.getD m 0) (U.getD (j + m) 0) m) (hX : X = val ((U.drop j).take (m + 3))) (hVV : V = val ys) :
    Calls Tryz.prog 308 #[.slice (some ⟨g, j, none⟩) n cu, .slice A (m + 2) c] w fun e w' => StepPost X V g j m U w e w' := by
  obtain ⟨a1, x1, e1, k1, N1⟩ := at_word (Kd.C_below hv hb) (m + 1) (by omega)
  obtain ⟨a2, x2, e2, k2, N2⟩ := at_word (Kd.C_below hv hb) m (by omega)
  have HV := Aside0.mk hv; have HB := Aside0.mk hb; have HU := Aside0.mk hU; have HY := Aside0.mk hy; have DU := Aside0.mk hu; have HL := Aside0.mk hyl; replace hX := Aside0.mk hX; replace hVV := Aside0.mk hVV
  have z0 := hU.cell (i := j + (m + 2)) (by omega)
  have z1 := hU.cell (i := j + (m + 1)) (by omega)
  have z2 := hU.cell (i := j + m) (by omega)
  have b0 := hu.getD (j + (m + 2)); have b1 := hu.getD (j + (m + 1)); have b2 := hu.getD (j + m)
  have b3 := hy.getD (m + 1); have b4 := hy.getD m
  rw [← N1.out] at b3 htop hK; rw [← N2.out] at b4 hK
  subst e1; cases e2
  clear hv hb hU hy hu hyl N1 N2
  generalize U.getD (j + (m + 2)) 0 = u0 at *
  generalize U.getD (j + (m + 1)) 0 = u1 at *
  generalize U.getD (j + m) 0 = u2 at *
  go_enter Tryz.func308, Tryz.ntmps308
  obtain ⟨p0, p0'⟩ := b0; obtain ⟨p1, p1'⟩ := b1; obtain ⟨p2, p2'⟩ := b2; obtain ⟨p3, p3'⟩ := b3; obtain ⟨p4, p4'⟩ := b4
  rw [add_pos _ (Nat.succ_pos m)] at k1
  have hor : bits .or .u64 (u0 * 4294967296) u1 = u0 * 4294967296 + u1 := bits_join .u64 64 (by decide) (fun n h0 h1 => u64_id h0 (by omega)) 32 _ _ (by omega) (by omega) (by omega) p1 (by omega) (by omega)
  obtain ⟨T, hT⟩ : ∃ T, bits .or .u64 (u0 * 4294967296) u1 = T := ⟨_, rfl⟩
  rw [hT] at hor
  rw [← hor] at hK
  have HK := Aside0.mk hK
  clear hK
  have hT0 : 0 ≤ T := by omega
  have hT1 : T < 18446744073709551616 := by omega
  have HT := Aside0.mk hor
  clear hor
  go_wp2_with fail
  go_quiet (fail)
  rename_i nq
  go_upto_region 5 with (fail)
  go_cut [7] (fun v7 wc => ∃ (G : Int), v7 = .int .u64 G ∧ 0 ≤ G ∧ G ≤ 4294967295 ∧ Aside0 (G = if 4294967295 < T / x1 then 4294967295 else T / x1) ∧ wc = w.drewN nq)
  case first =>
    by_cases hG : 4294967295 < T / x1
    · go_wp2_with fail
      go_meet
      case rel => exact ⟨_, rfl, by omega, by omega, ⟨by rw [if_pos hG]⟩, rfl⟩
    · have hT2 : 0 ≤ T / x1 := Int.ediv_nonneg hT0 (by omega)
      go_wp2_with fail
      go_meet
      case rel => exact ⟨_, rfl, by omega, by omega, ⟨by rw [if_neg (Int.not_lt.2 hG)]⟩, rfl⟩
  case rest =>
    obtain ⟨G0, rfl, hGa, hGb, HG, hwc⟩ := hcut
    subst hwc
    go_upto_block 0 with (fail)
    have HGI : Aside0 (GInv (X / V) T x1 G0) := ⟨by rw [HG.out]; exact ginv_start HK.out hT0 htop⟩
    clear HG
    go_cut [7, 8] (fun v7 _ wc => ∃ (G : Int), v7 = .int .u64 G ∧ 0 ≤ G ∧ G ≤ 4294967295 ∧ Aside0 (GOut (X / V) G) ∧ ∃ nq, wc = w.drewN nq)
    case first =>
      go_wp2_with fail
      go_loopw [7, 8] (fun v7 _ wr => ∃ (G : Int), v7 = .int .u64 G ∧ 0 ≤ G ∧ G ≤ 4294967295 ∧ Aside0 (GInv (X / V) T x1 G) ∧ ∃ nq, wr = w.drewN nq) (fun g _ _ => (intOf g).toNat)
      case atStart => exact ⟨G0, rfl, hGa, hGb, HGI, nq, rfl⟩
      case round =>
        obtain ⟨G, rfl, hG0, hG1, HGI, na, hwr⟩ := hrel
        subst hwr
        by_cases hz : 0 < G
        · obtain ⟨M, hM⟩ : ∃ M, G * x1 = M := ⟨_, rfl⟩
          have hM0 : 0 ≤ M := by rw [← hM]; exact Int.mul_nonneg hG0 p3
          have hM1 : M ≤ T := by rw [← hM]; exact ginv_mul HGI.out hG0 p3 hT0
          obtain ⟨N, hN⟩ : ∃ N, G * x2 = N := ⟨_, rfl⟩
          have hN0 : 0 ≤ N := by rw [← hN]; exact Int.mul_nonneg hG0 p4
          have hN1 : N < 18446744073709551616 := by
            rw [← hN]
            have := Int.mul_le_mul hG1 (show x2 ≤ 4294967295 by omega) p4 (by omega)
            omega
          by_cases hr : (T - M) / 4294967296 = 0
          · have hrb : ((T - M) / 4294967296 != 0) = false := bne_eq_false_iff_eq.mpr hr
            have hr1 : T - M < 4294967296 := by omega
            have hor2 : bits .or .u64 ((T - M) * 4294967296) u2 = (T - M) * 4294967296 + u2 := bits_join .u64 64 (by decide) (fun n h0 h1 => u64_id h0 (by omega)) 32 _ _ (by omega) (by omega) (by omega) p2 (by omega) (by omega)
            obtain ⟨S, hS⟩ : ∃ S, bits .or .u64 ((T - M) * 4294967296) u2 = S := ⟨_, rfl⟩
            rw [hS] at hor2
            have hS0 : 0 ≤ S := by omega
            have HS := Aside0.mk hor2
            clear hor2 hr
            by_cases hNS : N ≤ S
            · have HO := Aside0.mk (gout HK.out HGI.out hG0 hG1 hT0 p3 p4 p2 (show G * x2 ≤ (T - G * x1) * 4294967296 + u2 by rw [hM, hN, ← HS.out]; exact hNS))
              have hb1 : decide (N ≤ S) = true := decide_eq_true hNS
              go_wp2_with fail
              go_quiet (fail)
              go_wp2_with fail
              go_meet
              case rel => exact ⟨G, rfl, hG0, hG1, HO, na + nq, (by first | rfl | exact drewN_add _ _ _)⟩
            · have HO := Aside0.mk (gdec HK.out HGI.out hz hT0 p3 p4 p2 (show (T - G * x1) * 4294967296 + u2 < G * x2 by rw [hM, hN, ← HS.out]; omega))
              have hb1 : decide (N ≤ S) = false := decide_eq_false hNS
              go_wp2_with fail
              go_quiet (fail)
              go_wp2_with fail
              go_roundw
              case rel => exact ⟨G - 1, rfl, by omega, by omega, HO, na + nq, (by first | rfl | exact drewN_add _ _ _)⟩
              case measure => simp [intOf]; omega
          · have hrb : ((T - M) / 4294967296 != 0) = true := bne_iff_ne.mpr hr
            have HO := Aside0.mk (gout HK.out HGI.out hG0 hG1 hT0 p3 p4 p2 (show G * x2 ≤ (T - G * x1) * 4294967296 + u2 by rw [hM, hN]; omega))
            clear hr
            go_wp2_with fail
            go_quiet (fail)
            go_wp2_with fail
            go_meet
            case rel => exact ⟨G, rfl, hG0, hG1, HO, na + nq, (by first | rfl | exact drewN_add _ _ _)⟩
        · have HO := Aside0.mk (gzero HGI.out (show G = 0 by omega))
          go_wp2_with fail
          go_meet
          case rel => exact ⟨G, rfl, hG0, hG1, HO, na, rfl⟩
    case rest =>
      obtain ⟨G, rfl, hG0, hG1, HG, nb, hwc⟩ := hcut
      subst hwc
      clear HGI hGa hGb k1 k2 z0 z1 z2
      clear hT hT0 hT1
      have hTu := Turns.drewN w g nb
      have HU0 := Aside0.mk (HU.out.drewN nb)
      generalize w.drewN nb = wq at hTu HU0 ⊢
      have HTU := Aside0.mk hTu
      clear hTu
      go_wp2_with fail
      go_loopw [9, 10, 11, 12, 13, 83] (fun v9 v10 _ _ _ v83 wr => ∃ (i : Nat) (b C : Int) (U' : List Int), v83 = .int .i64 i ∧ v9 = .int .u64 b ∧ v10 = .int .u64 C ∧ i ≤ m + 3 ∧ 0 ≤ b ∧ b ≤ 1 ∧ 0 ≤ C ∧ C < 4294967296 ∧ Aside0 (i = m + 3 → C = 0) ∧ Aside0 (MInv U U' ys j G i b C) ∧ Aside0 (RowBlk wr g U') ∧ Aside0 (Turns g w wr)) (fun _ _ _ _ _ i _ => m + 3 - (intOf i).toNat)
      case atStart => exact ⟨0, 0, 0, U, rfl, rfl, rfl, by omega, by omega, by omega, by omega, by omega, ⟨fun h => by omega⟩, ⟨⟨DU.out, rfl, rfl, rfl, by simp [val]⟩⟩, HU0, HTU⟩
      case round =>
        obtain ⟨i, b, C, U', rfl, rfl, rfl, hi, hb0, hb1, hC0, hC1, HC, HM, HR, HT2⟩ := hrel
        have HBr := Aside0.mk (Turns.below HB.out HB.out.size hg HT2.out)
        by_cases hlt : i < m + 3
        · have hul : j + i < U'.length := by rw [HM.out.len]; omega
          have zc := HR.out.cell hul
          have zf := HR.out.free (j + i)
          have du := HM.out.dg.getD (j + i)
          obtain ⟨u, hu⟩ : ∃ u, u = U'.getD (j + i) 0 := ⟨_, rfl⟩
          rw [← hu] at zc du
          have NU := Aside0.mk hu
          clear hu hul
          obtain ⟨du0, du1⟩ := du
          by_cases hk : i < m + 2
          · obtain ⟨a3, y, e3, k3, N3⟩ := at_word (Kd.C_below HV.out HBr.out) i hk
            cases e3
            have dy := HY.out.getD i
            rw [← N3.out] at dy
            obtain ⟨dy0, dy1⟩ := dy
            obtain ⟨P, hP⟩ : ∃ P, G * y = P := ⟨_, rfl⟩
            have hP0 : 0 ≤ P := by rw [← hP]; exact Int.mul_nonneg hG0 dy0
            have hP1 : P ≤ 18446744065119617025 := by
              rw [← hP]
              have := Int.mul_le_mul hG1 (show y ≤ 4294967295 by omega) dy0 (by omega)
              omega
            by_cases hbw : u < (C + P) % 4294967296 + b
            · have hbb : decide (u < (C + P) % 4294967296 + b) = true := decide_eq_true hbw
              have HS := Aside0.mk (minv_step HM.out (by omega) hG0 hC0 hb0 (show (0 : Int) ≤ 1 by decide) NU.out N3.out dy0 (dig_mod _) (show IntKind.u64.wrap (u - ((C + P) % 4294967296 + b)) % 4294967296 + ((C + G * y) % 4294967296 + b) = u + 1 * 4294967296 by rw [hP, sub_wrap du0 hbw (by omega)]; omega))
              rw [hP] at HS
              go_wp2_with fail
              go_roundw
              case rel => exact ⟨i + 1, 1, _, _, by go_num, rfl, rfl, by omega, by omega, by omega, by omega, by omega, ⟨fun h => by omega⟩, HS, ⟨HR.out.set _ _⟩, ⟨HT2.out.trans (Turns.set _ _ _ _)⟩⟩
              case measure => simp [intOf]; omega
            · have hbb : decide (u < (C + P) % 4294967296 + b) = false := decide_eq_false hbw
              have HS := Aside0.mk (minv_step HM.out (by omega) hG0 hC0 hb0 (show (0 : Int) ≤ 0 by decide) NU.out N3.out dy0 (show Dig (u - ((C + P) % 4294967296 + b)) from ⟨by omega, by omega⟩) (by rw [hP]; omega))
              rw [hP] at HS
              go_wp2_with fail
              go_roundw
              case rel => exact ⟨i + 1, 0, _, _, by go_num, rfl, rfl, by omega, by omega, by omega, by omega, by omega, ⟨fun h => by omega⟩, HS, ⟨HR.out.set _ _⟩, ⟨HT2.out.trans (Turns.set _ _ _ _)⟩⟩
              case measure => simp [intOf]; omega
          · have hkb : decide ((i : Int) < (m : Int) + 2) = false := decide_eq_false (by omega)
            by_cases hbw : u < C + b
            · have hbb : decide (u < C + b) = true := decide_eq_true hbw
              have HS := Aside0.mk (minv_step HM.out (by omega) hG0 hC0 hb0 (show (0 : Int) ≤ 1 by decide) NU.out (getD_big ys (by rw [HL.out]; omega)).symm (by omega) (dig_mod _) (show IntKind.u64.wrap (u - (C + b)) % 4294967296 + ((C + G * 0) % 4294967296 + b) = u + 1 * 4294967296 by rw [sub_wrap du0 hbw (by omega), Int.mul_zero, Int.add_zero, Int.emod_eq_of_lt hC0 hC1]; omega))
              rw [Int.mul_zero, Int.add_zero] at HS
              go_wp2_with fail
              go_roundw
              case rel => exact ⟨i + 1, 1, _, _, by go_num, rfl, rfl, by omega, by omega, by omega, by omega, by omega, ⟨fun h => by omega⟩, HS, ⟨HR.out.set _ _⟩, ⟨HT2.out.trans (Turns.set _ _ _ _)⟩⟩
              case measure => simp [intOf]; omega
            · have hbb : decide (u < C + b) = false := decide_eq_false hbw
              have HS := Aside0.mk (minv_step HM.out (by omega) hG0 hC0 hb0 (show (0 : Int) ≤ 0 by decide) NU.out (getD_big ys (by rw [HL.out]; omega)).symm (by omega) (show Dig (u - (C + b)) from ⟨by omega, by omega⟩) (by rw [Int.mul_zero, Int.add_zero, Int.emod_eq_of_lt hC0 hC1]; omega))
              rw [Int.mul_zero, Int.add_zero] at HS
              go_wp2_with fail
              go_roundw
              case rel => exact ⟨i + 1, 0, _, _, by go_num, rfl, rfl, by omega, by omega, by omega, by omega, by omega, ⟨fun h => by omega⟩, HS, ⟨HR.out.set _ _⟩, ⟨HT2.out.trans (Turns.set _ _ _ _)⟩⟩
              case measure => simp [intOf]; omega
        · have hie : i = m + 3 := by omega
          have hC9 := HC.out hie
          subst hie
          subst hC9
          by_cases hbz : b = 0
          · subst hbz
            have HF := Aside0.mk (step_fin0 HM.out HK.out.pos hG0 HG.out hX.out hVV.out HL.out)
            go_wp2_with fail
            go_ret
            exact ⟨U', ret_int HF.out.1, HR.out, HT2.out, HM.out.dg, HM.out.len, HM.out.lo, HM.out.hi, HF.out.2⟩
          · have hbo : b = 1 := by omega
            subst hbo
            have HF := Aside0.mk (step_fin1 HM.out hG0 HG.out hX.out hVV.out HL.out)
            have hbb : ((1 : Int) == 0) = false := rfl
            go_wp2_with fail
            go_loopw [14, 15, 131] (fun v14 _ v131 wr' => ∃ (i : Nat) (k : Int) (U2 : List Int), v131 = .int .i64 i ∧ v14 = .int .u64 k ∧ i ≤ m + 3 ∧ 0 ≤ k ∧ k ≤ 1 ∧ Aside0 (BInv U' U2 ys j i k) ∧ Aside0 (RowBlk wr' g U2) ∧ Aside0 (Turns g w wr')) (fun _ _ i _ => m + 3 - (intOf i).toNat)
            case atStart => exact ⟨0, 0, U', rfl, rfl, by omega, by omega, by omega, ⟨⟨HM.out.dg, rfl, rfl, rfl, by simp [val]⟩⟩, HR, HT2⟩
            case round =>
              obtain ⟨i, k, U2, rfl, rfl, hi, hk0, hk1, HB2, HR2, HT3⟩ := hrel
              have HBr2 := Aside0.mk (Turns.below HB.out HB.out.size hg HT3.out)
              by_cases hlt : i < m + 3
              · have hul : j + i < U2.length := by rw [HB2.out.len, HM.out.len]; omega
                have zc := HR2.out.cell hul
                have zf := HR2.out.free (j + i)
                have du := HB2.out.dg.getD (j + i)
                obtain ⟨u, hu⟩ : ∃ u, u = U2.getD (j + i) 0 := ⟨_, rfl⟩
                rw [← hu] at zc du
                have NU := Aside0.mk hu
                clear hu hul
                obtain ⟨du0, du1⟩ := du
                by_cases hk : i < m + 2
                · obtain ⟨a3, y, e3, k3, N3⟩ := at_word (Kd.C_below HV.out HBr2.out) i hk
                  cases e3
                  have dy := HY.out.getD i
                  rw [← N3.out] at dy
                  obtain ⟨dy0, dy1⟩ := dy
                  have HS := Aside0.mk (binv_step HB2.out (by rw [HM.out.len]; omega) hk0 NU.out N3.out dy0)
                  go_wp2_with fail
                  go_roundw
                  case rel => exact ⟨i + 1, _, _, by go_num, rfl, by omega, by omega, by omega, HS, ⟨HR2.out.set _ _⟩, ⟨HT3.out.trans (Turns.set _ _ _ _)⟩⟩
                  case measure => simp [intOf]; omega
                · have hkb : decide ((i : Int) < (m : Int) + 2) = false := decide_eq_false (by omega)
                  have HS := Aside0.mk (binv_step HB2.out (by rw [HM.out.len]; omega) hk0 NU.out (getD_big ys (by rw [HL.out]; omega)).symm (by omega))
                  rw [Int.add_zero] at HS
                  go_wp2_with fail
                  go_roundw
                  case rel => exact ⟨i + 1, _, _, by go_num, rfl, by omega, by omega, by omega, HS, ⟨HR2.out.set _ _⟩, ⟨HT3.out.trans (Turns.set _ _ _ _)⟩⟩
                  case measure => simp [intOf]; omega
              · have hie : i = m + 3 := by omega
                subst hie
                have hG9 : 1 ≤ G := by have h2 : (0 : Int) ≤ ((X / V : Nat) : Int) := Int.natCast_nonneg _; rw [← HF.out.1] at h2; omega
                have HE := Aside0.mk (binv_end HB2.out hk0 hk1 HL.out hVV.out HK.out.pos HF.out.2)
                go_wp2_with fail
                go_ret
                exact ⟨U2, ret_int HF.out.1, HR2.out, HT3.out, HB2.out.dg, HB2.out.len.trans HM.out.len, HB2.out.lo.trans HM.out.lo, HB2.out.hi.trans HM.out.hi, HE.out⟩
end Go.Proofs.YtinmbcomnjmmjaaGreatDoor
