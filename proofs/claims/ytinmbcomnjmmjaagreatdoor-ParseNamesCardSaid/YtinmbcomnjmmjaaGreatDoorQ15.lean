/- Proved: a part of what the statement on the names of parse needs: walks of functions of the program, and plain laws. (Texts Bg, Bh, Bk, Bl, Bm.) -/
import Derived.Test.YtinmbcomnjmmjaaGreatDoorQ14
import Derived.Lib.TrailingZeros
import Derived.Laws.Bits64b
import Derived.StillTailTactics
namespace Go.Proofs.YtinmbcomnjmmjaaGreatDoor
open Go.RowKit Go.Proofs.YtinmbcomnjmmjaaGreatDoorW.PrintWords Go.Proofs.YtinmbcomnjmmjaaGreatDoorW.PrintLast Go.Proofs.YtinmbcomnjmmjaaGreatDoorW.PrintMore
open X
theorem C_cut {w : World} {ad : Addr} {xs : List Int} {q : Nat} (h : Kd.C (Kd.int .u32) w (some ad) xs.length xs) (hq : q < xs.length) :
    Kd.C (Kd.int .u32) w (some (ad.add q)) (xs.drop q).length (xs.drop q) := by
  have h1 := Kd.C_drop (c := xs.length) h (Nat.le_of_lt hq) (Nat.le_refl _)
  rw [if_neg (by omega)] at h1
  have e : (Kd.int .u32).sz = 1 := rfl
  rw [e, Nat.mul_one] at h1
  exact h1
theorem or_high {x y : Int} (x0 : 0 ≤ x) (x1 : x < 4294967296) (y0 : 0 ≤ y) (y1 : y < 4294967296) : bits .or .u64 x (y * 4294967296) = x + y * 4294967296 := by
  have h := bits_join .u64 64 (by decide) (fun n h0 h1 => u64_id h0 (by omega)) 32 (y * 4294967296) x (by omega) (by omega) (by omega) x0 (by omega) (by omega)
  obtain ⟨a, rfl⟩ := Int.eq_ofNat_of_zero_le x0
  obtain ⟨b, rfl⟩ := Int.eq_ofNat_of_zero_le y0
  have e : (b : Int) * 4294967296 = ((b * 4294967296 : Nat) : Int) := by omega
  rw [e] at h ⊢
  have n1 := (bits_nat .u64 64 (by decide) (fun n h0 h1 => u64_id h0 (by omega)) a (b * 4294967296) (by omega) (by omega)).2
  have n2 := (bits_nat .u64 64 (by decide) (fun n h0 h1 => u64_id h0 (by omega)) (b * 4294967296) a (by omega) (by omega)).2
  rw [n1, Nat.or_comm, ← n2, h]; omega
theorem add_pos {n : Nat} (ad : Addr) (h : 0 < n) : ad.add n = ⟨ad.block, ad.off + n, none⟩ := by
  unfold Addr.add; rw [if_neg (by omega)]
def ShrInv (ys : List Int) (r i : Nat) (o : List Int) : Prop := Digs o ∧ o.length = i ∧ val o = val ys / 2 ^ r % 4294967296 ^ i
theorem shr_digit (ys : List Int) (hd : Digs ys) (r i : Nat) (hr : r ≤ 31) : val ys / 2 ^ r / 4294967296 ^ i % 4294967296 = ((ys.getD i 0).toNat + (ys.getD (i + 1) 0).toNat * 4294967296) / 2 ^ r % 4294967296 := by
  have h1 : val ys / 4294967296 ^ i = val (ys.drop i) := by
    by_cases hi : i ≤ ys.length
    · rw [val_take_drop ys i hi]
      have := val_lt (hd.take i)
      rw [List.length_take, Nat.min_eq_left hi] at this
      rw [Nat.add_mul_div_left _ _ (Nat.pow_pos (by decide)), Nat.div_eq_of_lt this, Nat.zero_add]
    · rw [List.drop_of_length_le (by omega)]
      refine Nat.div_eq_of_lt (Nat.lt_of_lt_of_le (val_lt hd) (Nat.pow_le_pow_right (by decide) (by omega)))
  rw [Nat.div_div_eq_div_mul, Nat.mul_comm, ← Nat.div_div_eq_div_mul, h1]
  have h2 : ∃ t, val (ys.drop i) = (ys.getD i 0).toNat + (ys.getD (i + 1) 0).toNat * 4294967296 + 4294967296 * 4294967296 * t := by
    refine ⟨val (ys.drop (i + 1 + 1)), ?_⟩
    have hs : ∀ j, val (ys.drop j) = (ys.getD j 0).toNat + 4294967296 * val (ys.drop (j + 1)) := by
      intro j
      by_cases hj : j < ys.length
      · rw [List.drop_eq_getElem_cons hj]; simp [val, List.getD, hj]
      · have a : ys.drop j = [] := List.drop_of_length_le (by omega)
        have b : ys.drop (j + 1) = [] := List.drop_of_length_le (by omega)
        rw [a, b, getD_big ys (by omega)]; rfl
    rw [hs i, hs (i + 1)]; omega
  obtain ⟨t, ht⟩ := h2
  rw [ht]
  have h3 : 4294967296 * 4294967296 * t = 2 ^ r * (4294967296 * (2 ^ (32 - r) * t)) := by
    have : 4294967296 = 2 ^ r * 2 ^ (32 - r) := by rw [← Nat.pow_add, show r + (32 - r) = 32 from by omega]
    have h4 : 4294967296 * 4294967296 * t = (2 ^ r * 2 ^ (32 - r)) * 4294967296 * t := by rw [← this]
    rw [h4]
    generalize 2 ^ r = a
    generalize 2 ^ (32 - r) = b
    grind
  rw [h3, Nat.add_mul_div_left _ _ (Nat.pow_pos (by decide)), Nat.add_mul_mod_self_left]
theorem shr_step {ys : List Int} {r i : Nat} {o : List Int} (h : ShrInv ys r i o) (hd : Digs ys) (hr : r ≤ 31) {x y d : Int} (hx : x = ys.getD i 0) (hy : y = ys.getD (i + 1) 0) (e : d = (x + y * 4294967296) / 2 ^ r % 4294967296) :
    ShrInv ys r (i + 1) (o ++ [d]) := by
  obtain ⟨h1, h2, h3⟩ := h
  have dx := (hd.getD i).1
  have dy := (hd.getD (i + 1)).1
  rw [← hx] at dx; rw [← hy] at dy
  refine ⟨h1.append (Digs.one (by rw [e]; exact dig_mod _)), by simp [h2], ?_⟩
  have hdn : d.toNat = (x.toNat + y.toNat * 4294967296) / 2 ^ r % 4294967296 := by
    have hc : ((x + y * 4294967296) / 2 ^ r % 4294967296) = (((x.toNat + y.toNat * 4294967296) / 2 ^ r % 4294967296 : Nat) : Int) := by
      have a : x + y * 4294967296 = ((x.toNat + y.toNat * 4294967296 : Nat) : Int) := by omega
      rw [a]; simp
    rw [e, hc, Int.toNat_natCast]
  rw [val_snoc, h2, h3, hdn, hx, hy, ← shr_digit ys hd r i hr, Nat.pow_succ, Nat.mod_mul]
theorem shr_end {ys o : List Int} {r : Nat} (h : ShrInv ys r ys.length o) (hd : Digs ys) : val o = val ys / 2 ^ r := by
  obtain ⟨h1, h2, h3⟩ := h
  rw [h3]
  refine Nat.mod_eq_of_lt (Nat.lt_of_le_of_lt (Nat.div_le_self _ _) (val_lt hd))
set_option maxHeartbeats 1000000 in
set_option maxRecDepth 100000 in
theorem shr_words (ad0 : Addr) (c1 : Nat) (xs ys : List Int) (k : Int) (q r : Nat) (w : World) (h1 : Kd.C (Kd.int .u32) w (some ad0) xs.length xs) (hc1 : xs.length ≤ c1)
    (hn : q < xs.length) (hd1 : Digs ys) (hk0 : 0 ≤ k) (hk : k ≤ 9000000000) (hq : k / 32 = (q : Int)) (hr : k % 32 = (r : Int)) (hm : xs.length ≤ 1000000000) (hys : ys = xs.drop q) (hyl : xs.length - q = ys.length) :
    Calls Tryz.prog 235 #[.slice (some ad0) xs.length c1, .int .u64 k] w fun e w' => ∃ v, e = .returned v ∧ NatAt w' v (val ys / 2 ^ r) ∧ Below w.heap.size w w' := by
  have h2 := C_cut h1 hn
  rw [← hys] at h2
  have H1 := Aside0.mk h2; have D1 := Aside0.mk hd1
  clear h1 h2 hd1 hys
  have hr9 : r ≤ 31 := by omega
  have hql : decide ((xs.length : Int) ≤ (q : Int)) = false := decide_eq_false (by omega)
  obtain ⟨i0, hi, hz0, hz1, hz2⟩ := info_parts info93
  go_enter Tryz.func235, Tryz.ntmps235
  go_wp2_with (first | (at_make; refine wpList_make_own _ rfl _ _ 182 rfl w.heap.size 93 i0 (.int .u32 0) 1 Tryz.underlying182 hi hz0 hz1 .i64 .i64 ((ys.length : Nat) : Int) (ys.length) rfl (by go_simp) rfl (by rw [hz2]; omega) (by unfold maxLen; omega) (by simp) ?_; intro w1 ho1 hg1))
  have hG := hg1; clear hg1 hi hz0 hz1 hz2
  simp only [hr]
  go_loopw [5, 7, 8, 9, 27] (fun v5 v7 v8 v9 v27 wr => ∃ (i : Nat) (o : List Int), v27 = .int .i64 i ∧ i ≤ ys.length ∧ Aside0 (ShrInv ys r i o) ∧ Aside0 (Kd.R (Kd.int .u32) 93 wr w.heap.size (fun _ => True) v5 o) ∧ Aside0 (Below w.heap.size w wr)) (fun _ _ _ _ i _ => ys.length - (intOf i).toNat)
  case atStart => exact ⟨0, [], rfl, by omega, ⟨Digs.nil, rfl, by simp [val]; omega⟩, ⟨R_of_own ho1⟩, ⟨pw_below_grown (Below.refl _ _) none (Nat.le_refl _) hG (by simp)⟩⟩
  case round =>
    obtain ⟨i, o, rfl, hi, HI, HR, HB⟩ := hrel
    clear ho1 hG
    by_cases hlt : i < ys.length
    · obtain ⟨ad1, x, e1, hx1, NX⟩ := at_word (Kd.C_below H1.out HB.out) i hlt
      cases e1
      have dx := D1.out.getD i
      rw [← NX.out] at dx
      obtain ⟨x0, x1⟩ := dx
      by_cases hy : i + 1 < ys.length
      · obtain ⟨ad2, y, e2, hy1, NY⟩ := at_word (Kd.C_below H1.out HB.out) (i + 1) hy
        cases e2
        rw [add_pos _ (Nat.succ_pos i)] at hy1
        have dy := D1.out.getD (i + 1)
        rw [← NY.out] at dy
        obtain ⟨y0, y1⟩ := dy
        go_wp2_with (first | (at_builtin; refine Kd.R_append (Kd.int .u32) (w0 := w) w.heap.size rfl (.tmp 48) (.tmp 53) 182 93 (.int .u32 0) 4 rfl Tryz.underlying182 info93 rfl (by decide) (by omega) _ o (bits .or .u64 x (y * 4294967296) / 2 ^ r % 4294967296) [.int .u32 (bits .or .u64 x (y * 4294967296) / 2 ^ r % 4294967296)] (fun _ => True) (fun _ => False) rfl rfl ?aP (fun _ hk => hk.elim) ?aF ?aO ?aB ?aS ?aL ?_; (case aP => exact rfl); (case aB => exact HB.out); (case aF => exact (fun _ _ => trivial)); (case aO => exact HR.out); (case aS => exact HB.out.size); (case aL => (have hl9 := HI.out.2.1; omega)); intro v9 w9 ho9 hb9 hg9 hat9; have HR9 := Aside0.mk ho9; have HB9 := Aside0.mk hb9; clear ho9 hb9 hg9 hat9))
        go_roundw
        case rel => exact ⟨i + 1, _, by go_num, by omega, ⟨shr_step HI.out D1.out hr9 NX.out NY.out (by rw [or_high x0 x1 y0 y1])⟩, HR9, HB9⟩
        case measure => simp [intOf]; omega
      · have hyb : decide ((i : Int) + 1 < (ys.length : Int)) = false := decide_eq_false (by omega)
        go_wp2_with (first | (at_builtin; refine Kd.R_append (Kd.int .u32) (w0 := w) w.heap.size rfl (.tmp 48) (.tmp 53) 182 93 (.int .u32 0) 4 rfl Tryz.underlying182 info93 rfl (by decide) (by omega) _ o (x / 2 ^ r % 4294967296) [.int .u32 (x / 2 ^ r % 4294967296)] (fun _ => True) (fun _ => False) rfl rfl ?aP (fun _ hk => hk.elim) ?aF ?aO ?aB ?aS ?aL ?_; (case aP => exact rfl); (case aB => exact HB.out); (case aF => exact (fun _ _ => trivial)); (case aO => exact HR.out); (case aS => exact HB.out.size); (case aL => (have hl9 := HI.out.2.1; omega)); intro v9 w9 ho9 hb9 hg9 hat9; have HR9 := Aside0.mk ho9; have HB9 := Aside0.mk hb9; clear ho9 hb9 hg9 hat9))
        go_roundw
        case rel => exact ⟨i + 1, _, by go_num, by omega, ⟨shr_step HI.out D1.out hr9 NX.out (getD_big ys (by omega)).symm (by rw [Int.zero_mul, Int.add_zero])⟩, HR9, HB9⟩
        case measure => simp [intOf]; omega
    · have hie : i = ys.length := by omega
      have HIE := Aside0.mk hie
      clear hie
      go_wp2_with (go_at_call 233; refine (trim_calls (Words.of_R HR.out) HI.out.1 (by have := HI.out.2.1; omega)).mono ?_; rintro e w2 ⟨v, rfl, hn2, hb2⟩; have HN2 := Aside0.mk hn2; have HB2 := Aside0.mk hb2; clear hn2 hb2)
      go_ret
      exact ⟨_, rfl, by rw [← shr_end (HIE.out ▸ HI.out) D1.out]; exact HN2.out, below_then HB.out HB.out.size HB2.out⟩
theorem shr_none (A1 : Option Addr) (n c1 : Nat) (k : Int) (w : World) (h : (n : Int) ≤ k / 32) (hk0 : 0 ≤ k) (hk : k ≤ 9000000000) (hn : n ≤ 1000000000) :
    Calls Tryz.prog 235 #[.slice A1 n c1, .int .u64 k] w fun e w' => e = .returned (.slice none 0 0) ∧ w = w' := by
  go_enter Tryz.func235, Tryz.ntmps235
  go_wp2
  go_ret
  exact ⟨rfl, rfl⟩
/-- (nat).shr. -/
theorem shr_calls {v : Value} {a : Nat} {k : Int} {w : World} (h1 : NatAt w v a) (f1 : Fits a) (hk0 : 0 ≤ k) (hk : k ≤ 9000000000) :
    Calls Tryz.prog 235 #[v, .int .u64 k] w fun e w' => ∃ r, e = .returned r ∧ NatAt w' r (a / 2 ^ k.toNat) ∧ Below w.heap.size w w' := by
  obtain ⟨A1, c1, rfl, l1, r1⟩ := h1
  have hp := pow_split (k := k) (q := (k / 32).toNat) (r := (k % 32).toNat) hk0 (by omega) (by omega)
  have hf := f1
  unfold Fits at hf
  by_cases hn : ((digs a).length : Int) ≤ k / 32
  · refine (shr_none A1 _ c1 k w hn hk0 hk hf).mono ?_
    rintro e w' ⟨rfl, rfl⟩
    refine ⟨_, rfl, NatAt.of_eq (xs := []) ⟨none, 0, rfl, Nat.le_refl _, Kd.C_nil _ _⟩ ?_, Below.refl _ _⟩
    have : a / 2 ^ k.toNat = 0 := by
      refine Nat.div_eq_of_lt (Nat.lt_of_lt_of_le (lt_digs_length a) ?_)
      rw [hp]
      refine Nat.le_trans (Nat.pow_le_pow_right (by decide) (show (digs a).length ≤ (k / 32).toNat by omega)) ?_
      exact Nat.le_mul_of_pos_left _ (Nat.pow_pos (by decide))
    rw [this, digs_zero]
  · have hq : (k / 32).toNat < (digs a).length := by omega
    obtain ⟨ad, x, rfl, _, _⟩ := at_word r1 0 (by omega)
    have := shr_words ad c1 (digs a) ((digs a).drop (k / 32).toNat) k (k / 32).toNat (k % 32).toNat w r1 l1 hq ((digs_digs a).drop _) hk0 hk (by omega) (by omega) hf rfl (by rw [List.length_drop])
    have e : val ((digs a).drop (k / 32).toNat) / 2 ^ (k % 32).toNat = a / 2 ^ k.toNat := by
      have h1 := val_take_drop (digs a) (k / 32).toNat (Nat.le_of_lt hq)
      have h2 := val_lt ((digs_digs a).take (k / 32).toNat)
      rw [List.length_take, Nat.min_eq_left (Nat.le_of_lt hq)] at h2
      rw [val_digs] at h1
      have h3 : a / 4294967296 ^ (k / 32).toNat = val ((digs a).drop (k / 32).toNat) := by
        have := Nat.add_mul_div_left (val ((digs a).take (k / 32).toNat)) (val ((digs a).drop (k / 32).toNat)) (Nat.pow_pos (n := (k / 32).toNat) (show 0 < 4294967296 by decide))
        rw [← h1, Nat.div_eq_of_lt h2, Nat.zero_add] at this
        exact this
      rw [hp, Nat.mul_comm, ← Nat.div_div_eq_div_mul, h3]
    rw [e] at this
    exact this
end Go.Proofs.YtinmbcomnjmmjaaGreatDoor
namespace Go.Proofs.YtinmbcomnjmmjaaGreatDoor
open Go.RowKit Go.Proofs.YtinmbcomnjmmjaaGreatDoorW.PrintWords Go.Proofs.YtinmbcomnjmmjaaGreatDoorW.PrintLast Go.Proofs.YtinmbcomnjmmjaaGreatDoorW.PrintMore
open X
/-- The table of math/bits as its text lays it. -/
def Tab32 (w : World) : Prop := ∀ j, j < 32 → w.cell? ⟨2, j, none⟩ = some (.int .u8 (Lib.deBruijn32tab.getD j 0))
theorem Tab32.below {w w1 : World} (h : Tab32 w) (hb : Below w.heap.size w w1) : Tab32 w1 := fun j hj => pw_cell_below hb (h j hj)
theorem Tab32.turns {w w1 : World} {g : Nat} (h : Tab32 w) (hg : IntBlk w g) (ht : Turns g w w1) : Tab32 w1 := fun j hj => cell_turns hg ht (h j hj)
set_option maxHeartbeats 1000000 in
theorem tz_core (x : Int) (k idx : Nat) (w : World) (hx0 : (x == 0) = false)
    (key : bits BinOp.and IntKind.u32 x (-x % 4294967296) * 125613361 % 4294967296 / 134217728 = (idx : Int))
    (hi : idx < 32) (hk : k < 32) (hcell : w.cell? ⟨2, idx, none⟩ = some (.int .u8 k)) :
    Calls Tryz.prog 269 #[.int .u32 x] w fun e w' => e = .returned (.int .i64 k) ∧ w = w' := by
  go_enter Tryz.func269, Tryz.ntmps269
  go_wp2_with (simp only [key])
  go_ret
  exact ⟨rfl, rfl⟩
/-- The noughts behind the lowest one. -/
def tz (n : Nat) : Nat := Lib.ctz 32 n
theorem tz_calls (x : Int) (h0 : 0 < x) (h1 : x < 4294967296) (w : World) (hT : Tab32 w) :
    Calls Tryz.prog 269 #[.int .u32 x] w fun e w' => e = .returned (.int .i64 (tz x.toNat)) ∧ w = w' := by
  obtain ⟨n, rfl⟩ := Int.eq_ofNat_of_zero_le (Int.le_of_lt h0)
  rw [Int.toNat_natCast]
  obtain ⟨hlow, hk⟩ := Lib.lowest_bit 32 n (by omega) (by omega)
  obtain ⟨hi, htab⟩ := Lib.deBruijn32_at _ hk
  refine tz_core n (tz n) (2 ^ Lib.ctz 32 n * 125613361 % 4294967296 / 134217728) w (beq_eq_false_iff_ne.mpr (by omega)) ?_ hi hk ?_
  · have e1 : (-(n : Int)) % 4294967296 = ((4294967296 - n : Nat) : Int) := by omega
    have h2 := (bits_nat .u32 32 (by decide) (fun n h0 h1 => by rw [IntKind.wrap_u32]; omega) n (4294967296 - n) (by omega) (by omega)).1
    have e2 : (2 : Nat) ^ 32 = 4294967296 := rfl
    rw [e2] at hlow
    rw [e1, h2, hlow]; generalize 2 ^ Lib.ctz 32 n = p; clear hT hlow hk hi htab h2 e1 e2; omega
  · rw [hT _ hi, htab]; rfl
/-- A number's noughts behind its lowest one: word by word. -/
def zerosL : List Int → Nat
  | [] => 0
  | x :: xs => if x = 0 then 32 + zerosL xs else tz x.toNat
def zerosN (n : Nat) : Nat := zerosL (digs n)
theorem zerosL_drop {xs : List Int} : ∀ (i : Nat), i < xs.length → zerosL (xs.drop i) = if xs.getD i 0 = 0 then 32 + zerosL (xs.drop (i + 1)) else tz (xs.getD i 0).toNat := by
  intro i hi
  rw [List.drop_eq_getElem_cons hi]
  have : xs.getD i 0 = xs[i] := by simp [List.getD, hi]
  rw [this]; rfl
theorem zz_step {xs : List Int} {i : Nat} (h : ∀ j, j < i → xs.getD j 0 = 0) (hx : xs.getD i 0 = 0) : ∀ j, j < i + 1 → xs.getD j 0 = 0 := by
  intro j hj
  rcases Nat.lt_or_ge j i with h1 | h1
  · exact h j h1
  · rw [show j = i from by omega]; exact hx
theorem val_zero_all : ∀ (xs : List Int), (∀ j, j < xs.length → xs.getD j 0 = 0) → val xs = 0
  | [], _ => rfl
  | x :: xs, h => by
    have h0 : x = 0 := h 0 (by simp)
    have := val_zero_all xs (fun j hj => h (j + 1) (by simpa using hj))
    simp [val, h0, this]
set_option maxHeartbeats 1000000 in
set_option maxRecDepth 100000 in
theorem zeros_words (A1 : Option Addr) (c1 : Nat) (xs : List Int) (w : World) (h1 : Kd.C (Kd.int .u32) w A1 xs.length xs) (hd1 : Digs xs) (hm : xs.length ≤ 1000000000) (hT : Tab32 w) (hne : xs = [] ∨ val xs ≠ 0) :
    Calls Tryz.prog 234 #[.slice A1 xs.length c1] w fun e w' => e = .returned (.int .u64 (zerosL xs)) ∧ w = w' := by
  have H1 := Aside0.mk h1; have D1 := Aside0.mk hd1; have HT := Aside0.mk hT; have HN := Aside0.mk hne
  clear h1 hd1 hT hne
  go_enter Tryz.func234, Tryz.ntmps234
  go_wp2_with fail
  go_loop [3, 4, 7] (fun v3 v4 v7 => ∃ (i : Nat), v7 = .int .i64 i ∧ i ≤ xs.length ∧ Aside0 (zerosL xs = 32 * i + zerosL (xs.drop i)) ∧ Aside0 (∀ j, j < i → xs.getD j 0 = 0)) (fun _ _ i => xs.length - (intOf i).toNat)
  case atStart => exact ⟨0, rfl, by omega, ⟨by simp⟩, ⟨fun j hj => by omega⟩⟩
  case round =>
    obtain ⟨i, rfl, hi, HI, HZ⟩ := hrel
    by_cases hlt : i < xs.length
    · obtain ⟨ad1, x, e1, hx1, NX⟩ := at_word H1.out i hlt
      cases e1
      have dx := D1.out.getD i
      rw [← NX.out] at dx
      obtain ⟨x0, x1⟩ := dx
      by_cases hx : x = 0
      · subst hx
        go_wp2_with fail
        go_round
        case rel => exact ⟨i + 1, by go_num, by omega, ⟨by rw [HI.out, zerosL_drop i hlt, if_pos NX.out.symm]; omega⟩, ⟨zz_step HZ.out NX.out.symm⟩⟩
        case measure => simp [intOf]; omega
      · have hxb : (x != 0) = true := bne_iff_ne.mpr hx
        have hz : zerosL xs = 32 * i + tz x.toNat := by rw [HI.out, zerosL_drop i hlt, if_neg (by rw [← NX.out]; exact hx), ← NX.out]
        have HZZ := Aside0.mk hz
        clear hz
        have htz : tz x.toNat < 32 := by
          obtain ⟨n, rfl⟩ := Int.eq_ofNat_of_zero_le x0
          exact (Lib.lowest_bit 32 _ (by omega) (by omega)).2
        go_wp2_with (go_at_call 269; refine (tz_calls x (by omega) x1 _ HT.out).mono ?_; rintro e w2 ⟨rfl, rfl⟩)
        go_ret
        exact ⟨by rw [HZZ.out]; congr 2, rfl⟩
    · rcases HN.out with he | he
      · subst he
        go_wp2_with fail
        go_ret
        exact ⟨rfl, rfl⟩
      · exact absurd (val_zero_all xs (fun j hj => HZ.out j (by omega))) he
theorem zeros_calls {v : Value} {a : Nat} {w : World} (h1 : NatAt w v a) (f1 : Fits a) (hT : Tab32 w) :
    Calls Tryz.prog 234 #[v] w fun e w' => e = .returned (.int .u64 (zerosN a)) ∧ w = w' := by
  obtain ⟨A1, c1, rfl, l1, r1⟩ := h1
  refine zeros_words A1 c1 (digs a) w r1 (digs_digs a) f1 hT ?_
  rw [val_digs]
  by_cases h : a = 0
  · left; rw [h, digs_zero]
  · right; exact h
end Go.Proofs.YtinmbcomnjmmjaaGreatDoor
namespace Go.Proofs.YtinmbcomnjmmjaaGreatDoor
open Go.RowKit Go.Proofs.YtinmbcomnjmmjaaGreatDoorW.PrintWords Go.Proofs.YtinmbcomnjmmjaaGreatDoorW.PrintLast Go.Proofs.YtinmbcomnjmmjaaGreatDoorW.PrintMore
open X
theorem short_word {r x : Nat} (hr : r < 4294967296) (hx : x < 4294967296) : Go.bits .or .u64 (IntKind.u64.wrap ((r : Int) * 4294967296)) (IntKind.u64.wrap (x : Int)) = ((r * 4294967296 + x : Nat) : Int) := by
  rw [u64_id (by omega) (by omega), u64_id (by omega) (by omega)]
  have := bits_join .u64 64 (by decide) (fun n h0 h1 => u64_id h0 (by omega)) 32 ((r : Int) * 4294967296) (x : Int) (by omega) (by omega) (by omega) (by omega) (by omega) (by omega)
  rw [this]; omega
theorem short_arith {d q r p t X : Nat} (hd : 0 < d) (e : X = q * d + r) : (X * p + t) / d = q * p + (r * p + t) / d ∧ (X * p + t) % d = (r * p + t) % d := by
  have e1 : X * p + t = (r * p + t) + d * (q * p) := by subst e; grind
  rw [e1, Nat.add_mul_div_left _ _ hd, Nat.add_mul_mod_self_left]
  exact ⟨by omega, rfl⟩
theorem short_lt {r x d : Nat} (hr : r < d) (hx : x < 4294967296) : (r * 4294967296 + x) / d < 4294967296 := by
  rw [Nat.div_lt_iff_lt_mul (by omega)]
  have := Nat.mul_le_mul_left 4294967296 (show r + 1 ≤ d by omega)
  omega
theorem short_loop (xs : List Int) (d : Nat) (hd0 : 0 < d) (hd : d < 4294967296) (hx : Digs xs) (hm : xs.length ≤ 1000000000) (n : Nat) : ∀ (k rest : Nat) (out : List Int), n + xs.length + 2 < k → n ≤ xs.length → rest < d → out.length = xs.length → Digs out →
    big_nat_short.l0 k xs (d : Int) out (rest : Int) ((n : Int) - 1) = some (digs (val (out.drop n) * 4294967296 ^ n + (rest * 4294967296 ^ n + val (xs.take n)) / d), (((rest * 4294967296 ^ n + val (xs.take n)) % d : Nat) : Int)) := by
  induction n with
  | zero =>
    intro k rest out hk _ hr hl ho
    obtain ⟨k, rfl⟩ : ∃ m, k = m + 1 := ⟨k - 1, by omega⟩
    simp only [big_nat_short.l0]
    rw [if_neg (by omega)]
    unfold big_nat_trim.f
    rw [trim_f xs.length out k hl (by omega) (by omega) ho]
    simp only [Option.bind_some, List.drop_zero, Nat.pow_zero, Nat.mul_one, List.take_zero, val, Nat.add_zero, Nat.div_eq_of_lt hr, Nat.mod_eq_of_lt hr]
    congr 2
    omega
  | succ n ih =>
    intro k rest out hk hn hr hl ho
    obtain ⟨k, rfl⟩ : ∃ m, k = m + 1 := ⟨k - 1, by omega⟩
    have e1 : ((n + 1 : Nat) : Int) - 1 = (n : Int) := by omega
    have g0 : (n : Int) ≥ 0 := by omega
    have g1 : (n : Int) < (xs.length : Int) := by omega
    have g2 : (n : Int) < (out.length : Int) := by omega
    have g3 : ¬ ((d : Int) = 0) := by omega
    have w1 : wrap64 ((n : Int) - 1) = (n : Int) - 1 := by rw [wrap64_id (by omega) (by omega)]
    have hxd := hx.getD n
    obtain ⟨x, hxe⟩ := Int.eq_ofNat_of_zero_le hxd.1
    have hx1 : x < 4294967296 := by have := hxd.2; omega
    have hr1 : rest < 4294967296 := by omega
    have hq := short_lt hr hx1
    have hX : rest * 4294967296 + x < 18446744073709551616 := by omega
    have e4 : IntKind.u64.wrap (Int.tdiv ((rest * 4294967296 + x : Nat) : Int) (d : Int)) % 4294967296 = (((rest * 4294967296 + x) / d : Nat) : Int) := by
      rw [← Int.ofNat_tdiv]
      generalize (rest * 4294967296 + x) / d = Q at hq ⊢
      rw [u64_id (by omega) (by omega)]; omega
    have e5 : Int.tmod ((rest * 4294967296 + x : Nat) : Int) (d : Int) = (((rest * 4294967296 + x) % d : Nat) : Int) := (Int.ofNat_tmod _ _).symm
    simp only [big_nat_short.l0]
    rw [e1, if_pos g0, if_pos g0, if_pos g1, u64_id (x := (d : Int)) (by omega) (by omega), if_neg g3, if_pos g2, rd_eq, hxe, short_word hr1 hx1, e4, e5, w1, Int.toNat_natCast]
    rw [ih k ((rest * 4294967296 + x) % d) (out.set n (((rest * 4294967296 + x) / d : Nat) : Int)) (by omega) (by omega) (Nat.mod_lt _ hd0) (by rw [List.length_set, hl]) (ho.set _ ⟨by omega, by omega⟩)]
    have hlt : n < out.length := by omega
    have e6 : val ((out.set n (((rest * 4294967296 + x) / d : Nat) : Int)).drop n) = (rest * 4294967296 + x) / d + 4294967296 * val (out.drop (n + 1)) := by
      rw [List.drop_eq_getElem_cons (by rw [List.length_set]; exact hlt), List.getElem_set_self, List.drop_set_of_lt (by omega), val, Int.toNat_natCast]
    have e7 : val (xs.take (n + 1)) = val (xs.take n) + x * 4294967296 ^ n := by
      rw [val_take_succ (by omega), hxe, Int.toNat_natCast]
    obtain ⟨a1, a2⟩ := short_arith (p := 4294967296 ^ n) (t := val (xs.take n)) hd0 (show rest * 4294967296 + x = (rest * 4294967296 + x) / d * d + (rest * 4294967296 + x) % d from (Nat.div_add_mod' _ _).symm)
    have e8 : rest * 4294967296 ^ (n + 1) + val (xs.take (n + 1)) = (rest * 4294967296 + x) * 4294967296 ^ n + val (xs.take n) := by rw [e7, Nat.pow_succ]; generalize 4294967296 ^ n = p; grind
    rw [e8, a1, a2, e6]
    congr 2
    congr 1
    rw [Nat.pow_succ]
    generalize 4294967296 ^ n = p
    generalize (rest * 4294967296 + x) / d = q
    generalize val (out.drop (n + 1)) = o
    grind
theorem short_calls {v : Value} {a : Nat} {d : Int} {w : World} (h1 : NatAt w v a) (f1 : Fits a) (hd0 : 0 < d) (hd : d < 4294967296) :
    Calls Tryz.prog 306 #[v, .int .u32 d] w fun e w' => ∃ r, e = .returned (.tuple #[r, .int .u32 ((a % d.toNat : Nat) : Int)]) ∧ NatAt w' r (a / d.toNat) ∧ Below w.heap.size w w' := by
  obtain ⟨A1, c1, rfl, l1, r1⟩ := h1
  obtain ⟨d, rfl⟩ := Int.eq_ofNat_of_zero_le (Int.le_of_lt hd0)
  have f1' : (digs a).length ≤ 1000000000 := f1
  have hk := short_loop (digs a) d (by omega) (by omega) (digs_digs a) f1' (digs a).length ((digs a).length + (digs a).length + 3) 0 (List.replicate (digs a).length 0) (by omega) (Nat.le_refl _) (by omega) (by simp) (Digs.replicate _)
  rw [List.take_length, val_digs, List.drop_replicate, Nat.sub_self, List.replicate_zero] at hk
  simp only [val, Nat.zero_mul, Nat.zero_add] at hk
  refine (big_nat_short.calls ((digs a).length + (digs a).length + 3) A1 c1 (digs a) d (digs (a / d)) ((a % d : Nat)) w r1 l1 ?_).mono ?_
  · unfold big_nat_short.f
    have g1 : (0 : Int) ≤ ((digs a).length : Int) := by omega
    have g2 : ((digs a).length : Int).toNat ≤ 70368744177664 := by omega
    rw [if_pos g1, if_pos g2, Int.toNat_natCast, wrap64_id (by omega) (by omega)]
    exact hk
  · rintro e w' ⟨v, rfl, hv, hb⟩
    exact ⟨v, by rw [Int.toNat_natCast], NatAt.of_eq (Words.of_V hv) (by rw [Int.toNat_natCast]), hb⟩
end Go.Proofs.YtinmbcomnjmmjaaGreatDoor
namespace Go.Proofs.YtinmbcomnjmmjaaGreatDoor
open Go.RowKit Go.Proofs.YtinmbcomnjmmjaaGreatDoorW.PrintWords Go.Proofs.YtinmbcomnjmmjaaGreatDoorW.PrintLast Go.Proofs.YtinmbcomnjmmjaaGreatDoorW.PrintMore
open X
/-- A pointer to block g. -/
abbrev pt (g : Nat) : Value := .pointer (some ⟨g, 0, none⟩)
theorem blk_cell {w : World} {g : Nat} {a b : Value} {t : TypeId} {f : Nat × Nat} (h : w.heap[g]? = some (.cells #[a, b] t f)) : w.cell? ⟨g, 0, none⟩ = some a ∧ w.cell? ⟨g, 1, none⟩ = some b := by
  unfold World.cell?
  simp only [h]
  exact ⟨rfl, rfl⟩
theorem IntAt.open {w : World} {g : Nat} {z : Int} (h : IntAt w g z) : ∃ A c, w.cell? ⟨g, 0, none⟩ = some (.bool (decide (z < 0))) ∧ w.cell? ⟨g, 1, none⟩ = some (.slice A (digs z.natAbs).length c) ∧ Aside0 (NatAt w (.slice A (digs z.natAbs).length c) z.natAbs) := by
  obtain ⟨v, h1, A, c, rfl, h2⟩ := h
  exact ⟨A, c, (blk_cell h1).1, (blk_cell h1).2, ⟨A, c, rfl, h2⟩⟩
theorem IntBlk.open {w : World} {g : Nat} (h : IntBlk w g) : ∃ b A n c, w.cell? ⟨g, 0, none⟩ = some (.bool b) ∧ w.cell? ⟨g, 1, none⟩ = some (.slice A n c) ∧ (∀ i, w.frozen? ⟨g, i, none⟩ = false) := by
  obtain ⟨b, A, n, c, h⟩ := h
  exact ⟨b, A, n, c, (blk_cell h).1, (blk_cell h).2, blk_frozen h⟩
/-- A sign and a magnitude. -/
def signed (neg : Bool) (n : Nat) : Int := if neg then -(n : Int) else n
theorem signed_abs (neg : Bool) (n : Nat) : (signed neg n).natAbs = n := by unfold signed; cases neg <;> simp
theorem signed_neg (neg : Bool) (n : Nat) : decide (signed neg n < 0) = (neg && decide (n ≠ 0)) := by
  unfold signed; cases neg
  · simp
  · by_cases h : n = 0
    · simp [h]
    · simp [h]; omega
theorem signed_self (z : Int) : signed (decide (z < 0)) z.natAbs = z := by
  unfold signed
  by_cases h : z < 0
  · simp [h]; omega
  · simp [h]; omega
/-- (*Int).put. -/
theorem put_calls {w : World} {g : Nat} (hg : IntBlk w g) (neg : Bool) {v : Value} {n : Nat} (hv : NatAt w v n) :
    Calls Tryz.prog 198 #[pt g, .bool neg, v] w fun e w' => e = .returned (pt g) ∧ IntAt w' g (signed neg n) ∧ Turns g w w' := by
  have HV := Aside0.mk hv
  obtain ⟨A, c, rfl, hl, hr⟩ := hv
  have HG := Aside0.mk hg
  obtain ⟨b, A0, n0, c0, hc0, hc1, hf⟩ := hg.open
  have hf0 := hf 0
  have hf1 := hf 1
  clear hf hg hr
  go_enter Tryz.func198, Tryz.ntmps198
  have hput : ∀ b', b' = decide (signed neg n < 0) → IntAt ((w.setCell ⟨g, 0, none⟩ (.bool b')).setCell ⟨g, 1, none⟩ (.slice A (digs n).length c)) g (signed neg n) :=
    fun b' hb' => put_int HG.out (by rw [signed_abs]; exact HV.out) rfl hb'
  have hturn : ∀ b', Turns g w ((w.setCell ⟨g, 0, none⟩ (.bool b')).setCell ⟨g, 1, none⟩ (.slice A (digs n).length c)) := fun b' => (put_leaves HG.out b' A _ c).1
  have HP := Aside0.mk hput
  have HT := Aside0.mk hturn
  clear hput hturn
  cases neg
  · go_wp2
    go_ret
    exact ⟨rfl, HP.out _ (by rw [signed_neg]; rfl), HT.out _⟩
  · by_cases hn : 0 < (digs n).length
    · have hb : decide (0 < (digs n).length) = true := decide_eq_true hn
      have e := signed_neg true n
      rw [Bool.true_and, ← digs_len_pos, hb] at e
      go_wp2
      go_ret
      exact ⟨rfl, HP.out _ e.symm, HT.out _⟩
    · have hb : decide (0 < (digs n).length) = false := decide_eq_false hn
      have e := signed_neg true n
      rw [Bool.true_and, ← digs_len_pos, hb] at e
      go_wp2
      go_ret
      exact ⟨rfl, HP.out _ e.symm, HT.out _⟩
theorem Turns.drew {w w' : World} {g : Nat} (h : Turns g w.drew w') : Turns g w w' :=
  (Turns.of_below (pw_below_drewN (Below.refl _ _) 1)).trans h
set_option maxRecDepth 100000 in
/-- (*Int).Set. -/
theorem set_calls {w : World} {g gx : Nat} {x : Int} (hg : IntBlk w g) (hx : IntAt w gx x) :
    Calls Tryz.prog 180 #[pt g, pt gx] w fun e w' => e = .returned (pt g) ∧ IntAt w' g x ∧ Turns g w w' := by
  obtain ⟨A, c, h0, h1, HV⟩ := hx.open
  have HG := Aside0.mk hg
  clear hg hx
  go_enter Tryz.func180, Tryz.ntmps180
  go_upto_region 1 with (fail)
  go_still_tail 9, (by kernel_rfl)
  change wpList _ _ _ _ _ w.drew
  go_wp2_with (go_at_call 198; refine (put_calls (w := w.drew) HG.out _ HV.out).mono ?_; rintro e w9 ⟨rfl, hi9, ht9⟩; have HI9 := Aside0.mk hi9; have HT9 := Aside0.mk ht9; clear hi9 ht9)
  go_ret
  exact ⟨rfl, by have := HI9.out; rw [signed_self] at this; exact this, HT9.out.drew⟩
theorem Turns.after_below {g : Nat} {w w1 w2 : World} (h : Below w.heap.size w w1) (k : Turns g w1 w2) : Turns g w w2 := (Turns.of_below h).trans k
theorem neg_u64 {x : Int} (h : x < 0) (h1 : -9223372036854775808 ≤ x) : IntKind.u64.wrap (-(IntKind.u64.wrap x)) = -x := by
  simp [IntKind.wrap, IntKind.signed, IntKind.bits]; omega
set_option maxRecDepth 100000 in
/-- (*Int).SetInt64. -/
theorem setint_calls {w : World} {g : Nat} (hg : IntBlk w g) (x : Int) (h0 : -9223372036854775808 ≤ x) (h1 : x < 9223372036854775808) :
    Calls Tryz.prog 184 #[pt g, .int .i64 x] w fun e w' => e = .returned (pt g) ∧ IntAt w' g x ∧ Turns g w w' := by
  have HG := Aside0.mk hg
  clear hg
  by_cases hx : x < 0
  · have hb : decide (x < 0) = true := decide_eq_true hx
    have HW := Aside0.mk (neg_u64 hx h0)
    go_enter Tryz.func184, Tryz.ntmps184
    go_wp2_with (first | (go_at_call 199; refine (small_calls _ (by rw [HW.out]; omega) (by rw [HW.out]; omega) _).mono ?_; rintro e w2 ⟨r, rfl, hn2, hb2⟩; have HN2 := Aside0.mk hn2; have HB2 := Aside0.mk hb2; have HG2 := Aside0.mk (HG.out.below hb2); clear hn2 hb2) | (go_at_call 198; refine (put_calls HG2.out _ HN2.out).mono ?_; rintro e w9 ⟨rfl, hi9, ht9⟩; have HI9 := Aside0.mk hi9; have HT9 := Aside0.mk ht9; clear hi9 ht9))
    go_ret
    refine ⟨rfl, ?_, HT9.out.after_below HB2.out⟩
    have := HI9.out
    rw [HW.out] at this
    have e : signed true (-x).toNat = x := by unfold signed; simp; omega
    rw [e] at this; exact this
  · have hb : decide (x < 0) = false := decide_eq_false hx
    go_enter Tryz.func184, Tryz.ntmps184
    go_wp2_with (first | (go_at_call 199; refine (small_calls _ (by omega) (by omega) _).mono ?_; rintro e w2 ⟨r, rfl, hn2, hb2⟩; have HN2 := Aside0.mk hn2; have HB2 := Aside0.mk hb2; have HG2 := Aside0.mk (HG.out.below hb2); clear hn2 hb2) | (go_at_call 198; refine (put_calls HG2.out _ HN2.out).mono ?_; rintro e w9 ⟨rfl, hi9, ht9⟩; have HI9 := Aside0.mk hi9; have HT9 := Aside0.mk ht9; clear hi9 ht9))
    go_ret
    refine ⟨rfl, ?_, HT9.out.after_below HB2.out⟩
    have := HI9.out
    have e : signed false x.toNat = x := by unfold signed; simp; omega
    rw [e] at this; exact this
end Go.Proofs.YtinmbcomnjmmjaaGreatDoor
namespace Go.Proofs.YtinmbcomnjmmjaaGreatDoor
open Go.RowKit Go.Proofs.YtinmbcomnjmmjaaGreatDoorW.PrintWords Go.Proofs.YtinmbcomnjmmjaaGreatDoorW.PrintLast Go.Proofs.YtinmbcomnjmmjaaGreatDoorW.PrintMore
open X
theorem below_new {w w' : World} {o : Obj} {g : Nat} (hg : w.heap.size ≤ g) (h : Turns g (w.alloc o) w') : Below w.heap.size w w' :=
  Turns.below ((Below.refl _ w).alloc (Nat.le_refl _) o) (by show w.heap.size ≤ (w.heap.push o).size; simp) hg h
set_option maxRecDepth 100000 in
/-- NewInt. -/
theorem newint_calls (w : World) (x : Int) (h0 : -9223372036854775808 ≤ x) (h1 : x < 9223372036854775808) :
    Calls Tryz.prog 182 #[.int .i64 x] w fun e w' => ∃ g, e = .returned (pt g) ∧ w.heap.size ≤ g ∧ IntAt w' g x ∧ Below w.heap.size w w' := by
  have HG := Aside0.mk (IntAt.new w).blk
  go_enter Tryz.func182, Tryz.ntmps182
  go_wp2_with (go_at_call 184; refine (setint_calls HG.out _ h0 h1).mono ?_; rintro e w9 ⟨rfl, hi9, ht9⟩; have HI9 := Aside0.mk hi9; have HT9 := Aside0.mk ht9; clear hi9 ht9)
  go_ret
  exact ⟨_, rfl, Nat.le_refl _, HI9.out, below_new (Nat.le_refl _) HT9.out⟩
set_option maxRecDepth 100000 in
/-- (*Int).SetUint64. -/
theorem setuint_calls {w : World} {g : Nat} (hg : IntBlk w g) (x : Int) (h0 : 0 ≤ x) (h1 : x < 18446744073709551616) :
    Calls Tryz.prog 150 #[pt g, .int .u64 x] w fun e w' => e = .returned (pt g) ∧ IntAt w' g x ∧ Turns g w w' := by
  have HG := Aside0.mk hg
  clear hg
  go_enter Tryz.func150, Tryz.ntmps150
  go_wp2_with (first | (go_at_call 199; refine (small_calls _ h0 h1 _).mono ?_; rintro e w2 ⟨r, rfl, hn2, hb2⟩; have HN2 := Aside0.mk hn2; have HB2 := Aside0.mk hb2; have HG2 := Aside0.mk (HG.out.below hb2); clear hn2 hb2) | (go_at_call 198; refine (put_calls HG2.out _ HN2.out).mono ?_; rintro e w9 ⟨rfl, hi9, ht9⟩; have HI9 := Aside0.mk hi9; have HT9 := Aside0.mk ht9; clear hi9 ht9))
  go_ret
  refine ⟨rfl, ?_, HT9.out.after_below HB2.out⟩
  have := HI9.out
  have e : signed false x.toNat = x := by unfold signed; simp; omega
  rw [e] at this; exact this
theorem len_zero (z : Int) : (digs z.natAbs).length = 0 ↔ z = 0 := by
  rw [List.length_eq_zero_iff, digs_nil, Int.natAbs_eq_zero]
set_option maxRecDepth 100000 in
/-- (*Int).Sign. -/
theorem sign_calls {w : World} {g : Nat} {z : Int} (hz : IntAt w g z) : Calls Tryz.prog 179 #[pt g] w fun e w' => e = .returned (.int .i64 z.sign) ∧ w' = w := by
  obtain ⟨A, c, h0, h1, HV⟩ := hz.open
  clear hz
  by_cases hn : z = 0
  · rw [(len_zero z).2 hn] at h1
    subst hn
    go_enter Tryz.func179, Tryz.ntmps179
    go_wp2
    go_ret
    exact ⟨rfl, rfl⟩
  · have hl : ¬ (digs z.natAbs).length = 0 := fun e => hn ((len_zero z).1 e)
    have hb' : (((digs z.natAbs).length : Int) == 0) = false := beq_eq_false_iff_ne.mpr (by omega)
    by_cases hs : z < 0
    · have hb : decide (z < 0) = true := decide_eq_true hs
      rw [hb] at h0
      go_enter Tryz.func179, Tryz.ntmps179
      go_wp2
      go_ret
      exact ⟨by rw [Int.sign_eq_neg_one_of_neg hs]; rfl, rfl⟩
    · have hb : decide (z < 0) = false := decide_eq_false hs
      rw [hb] at h0
      go_enter Tryz.func179, Tryz.ntmps179
      go_wp2
      go_ret
      exact ⟨by rw [Int.sign_eq_one_of_pos (by omega)]; rfl, rfl⟩
set_option maxRecDepth 100000 in
/-- (*Int).CmpAbs. -/
theorem cmpabs_calls {w : World} {g1 g2 : Nat} {x y : Int} (hx : IntAt w g1 x) (hy : IntAt w g2 y) (f1 : Fits x.natAbs) :
    Calls Tryz.prog 183 #[pt g1, pt g2] w fun e w' => e = .returned (.int .i64 (cmpN x.natAbs y.natAbs)) ∧ Below w.heap.size w w' := by
  obtain ⟨A, c, h0, h1, HV⟩ := hx.open
  obtain ⟨A', c', h0', h1', HV'⟩ := hy.open
  clear hx hy
  go_enter Tryz.func183, Tryz.ntmps183
  go_upto_region 1 with (fail)
  go_still_tail 8, (by kernel_rfl)
  change wpList _ _ _ _ _ w.drew
  go_wp2_with (go_at_call 226; refine (cmp_calls (w := w.drew) HV.out HV'.out f1).mono ?_; rintro e w9 ⟨rfl, hb9⟩; have HB9 := Aside0.mk hb9; clear hb9)
  go_ret
  exact ⟨rfl, pw_below_drewN (Below.refl _ _) 1 |>.trans HB9.out⟩
set_option maxRecDepth 100000 in
/-- (*Int).Abs. -/
theorem abs_calls {w : World} {g gx : Nat} {x : Int} (hg : IntBlk w g) (hx : IntAt w gx x) :
    Calls Tryz.prog 162 #[pt g, pt gx] w fun e w' => e = .returned (pt g) ∧ IntAt w' g (x.natAbs : Int) ∧ Turns g w w' := by
  obtain ⟨A, c, h0, h1, HV⟩ := hx.open
  have HG := Aside0.mk hg
  clear hg hx
  go_enter Tryz.func162, Tryz.ntmps162
  go_wp2_with (go_at_call 198; refine (put_calls (w := w) HG.out _ HV.out).mono ?_; rintro e w9 ⟨rfl, hi9, ht9⟩; have HI9 := Aside0.mk hi9; have HT9 := Aside0.mk ht9; clear hi9 ht9)
  go_ret
  exact ⟨rfl, HI9.out, HT9.out⟩
set_option maxRecDepth 100000 in
/-- (*Int).Neg. -/
theorem neg_calls {w : World} {g gx : Nat} {x : Int} (hg : IntBlk w g) (hx : IntAt w gx x) :
    Calls Tryz.prog 151 #[pt g, pt gx] w fun e w' => e = .returned (pt g) ∧ IntAt w' g (-x) ∧ Turns g w w' := by
  obtain ⟨A, c, h0, h1, HV⟩ := hx.open
  have HG := Aside0.mk hg
  clear hg hx
  go_enter Tryz.func151, Tryz.ntmps151
  go_upto_region 1 with (fail)
  go_still_tail 10, (by kernel_rfl)
  change wpList _ _ _ _ _ w.drew
  go_wp2_with (go_at_call 198; refine (put_calls (w := w.drew) HG.out _ HV.out).mono ?_; rintro e w9 ⟨rfl, hi9, ht9⟩; have HI9 := Aside0.mk hi9; have HT9 := Aside0.mk ht9; clear hi9 ht9)
  go_ret
  refine ⟨rfl, ?_, HT9.out.drew⟩
  have := HI9.out
  have e : signed (!decide (x < 0)) x.natAbs = -x := by
    unfold signed
    by_cases h : x < 0
    · simp [h]; omega
    · simp [h]; omega
  rw [e] at this; exact this
end Go.Proofs.YtinmbcomnjmmjaaGreatDoor
