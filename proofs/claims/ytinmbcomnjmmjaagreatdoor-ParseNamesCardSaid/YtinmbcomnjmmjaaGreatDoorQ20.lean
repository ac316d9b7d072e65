/- Proved: a part of what the statement on the names of parse needs: walks of functions of the program, and plain laws. (Texts Br.) -/
import Derived.Test.YtinmbcomnjmmjaaGreatDoorQ18
import Derived.Test.YtinmbcomnjmmjaaGreatDoorQ19
namespace Go.Proofs.YtinmbcomnjmmjaaGreatDoor
open Go.RowKit Go.Proofs.YtinmbcomnjmmjaaGreatDoorW.PrintWords Go.Proofs.YtinmbcomnjmmjaaGreatDoorW.PrintLast Go.Proofs.YtinmbcomnjmmjaaGreatDoorW.PrintMore
open X
/-- How many bits a number has. -/
def bl (n : Nat) : Nat := if n = 0 then 0 else 32 * ((digs n).length - 1) + Lib.bitLen ((digs n).getD ((digs n).length - 1) 0).toNat
theorem digs_pos_len {n : Nat} (h : n ≠ 0) : 0 < (digs n).length := List.length_pos_iff.2 (fun e => h (digs_nil.1 e))
theorem digs_len_zero {n : Nat} (h : n = 0) : (digs n).length = 0 := by rw [h, digs_zero]; rfl
set_option maxRecDepth 100000 in
theorem bitlen_calls {v : Value} {a : Nat} {w : World} (h : NatAt w v a) (f : Fits a) :
    Calls Tryz.prog 237 #[v] w fun e w' => e = .returned (.int .i64 (bl a)) ∧ w' = w := by
  obtain ⟨A, c, rfl, hl, hr⟩ := h
  have f' : (digs a).length ≤ 1000000000 := f
  by_cases hn : a = 0
  · have hz := digs_len_zero hn
    rw [hz]
    clear hr hl
    go_enter Tryz.func237, Tryz.ntmps237
    go_wp2
    go_ret
    exact ⟨by subst hn; rfl, rfl⟩
  · have hp := digs_pos_len hn
    obtain ⟨ad, x, e1, hx, NX⟩ := at_word hr ((digs a).length - 1) (by omega)
    cases e1
    have dx := (digs_digs a).getD ((digs a).length - 1)
    rw [← NX.out] at dx
    obtain ⟨x0, x1⟩ := dx
    have HB : Aside0 (bl a = 32 * ((digs a).length - 1) + Lib.bitLen x.toNat) := ⟨by unfold bl; rw [if_neg hn, NX.out]⟩
    clear hr hl f
    obtain ⟨m, hm⟩ : ∃ m, (digs a).length = m + 1 := ⟨(digs a).length - 1, by omega⟩
    rw [hm] at hx HB f' ⊢
    rw [Nat.add_sub_cancel] at hx HB
    clear NX hp hm
    have hbl : Lib.bitLen x.toNat ≤ 32 := Lib.bitLen_le _ 32 (by decide) (by omega)
    go_enter Tryz.func237, Tryz.ntmps237
    go_wp2_with (go_at_call 270; refine (Tryz.bits_Len32 _ _ x0 (by omega)).mono ?_; rintro e w2 ⟨rfl, rfl⟩)
    go_ret
    exact ⟨ret_int (by rw [HB.out]; omega), rfl⟩
set_option maxRecDepth 100000 in
/-- (*Int).BitLen. -/
theorem ibitlen_calls {w : World} {g : Nat} {z : Int} (hz : IntAt w g z) (f : Fits z.natAbs) : Calls Tryz.prog 202 #[pt g] w fun e w' => e = .returned (.int .i64 (bl z.natAbs)) ∧ w' = w := by
  obtain ⟨A, c, h0, h1, HV⟩ := hz.open
  clear hz
  go_enter Tryz.func202, Tryz.ntmps202
  go_wp2_with (go_at_call 237; refine (bitlen_calls HV.out f).mono ?_; rintro e w2 ⟨rfl, rfl⟩)
  go_ret
  exact ⟨rfl, rfl⟩
set_option maxRecDepth 100000 in
/-- (*Int).TrailingZeroBits. -/
theorem itz_calls {w : World} {g : Nat} {z : Int} (hz : IntAt w g z) (f : Fits z.natAbs) (hT : Tab32 w) : Calls Tryz.prog 200 #[pt g] w fun e w' => e = .returned (.int .u64 (zerosN z.natAbs)) ∧ w' = w := by
  obtain ⟨A, c, h0, h1, HV⟩ := hz.open
  have HT := Aside0.mk hT
  clear hz hT
  go_enter Tryz.func200, Tryz.ntmps200
  go_wp2_with (go_at_call 234; refine (zeros_calls HV.out f HT.out).mono ?_; rintro e w2 ⟨rfl, rfl⟩)
  go_ret
  exact ⟨rfl, rfl⟩
/-- Bit i of a number. -/
def bitN (n : Nat) (i : Nat) : Int := ((digs n).getD (i / 32) 0) / 2 ^ (i % 32) % 2
theorem and_one {y : Int} (y0 : 0 ≤ y) (y1 : y < 4294967296) : bits .and .u64 (IntKind.u64.wrap y) 1 = y % 2 := by
  rw [u64_id y0 (by omega)]
  have := bits_mask .u64 64 (by decide) (fun n h0 h1 => u64_id h0 (by omega)) 1 (by decide) y y0 (by omega)
  simpa using this
theorem shr_bound {x : Int} {r : Nat} (x0 : 0 ≤ x) (x1 : x < 4294967296) : 0 ≤ x / 2 ^ r ∧ x / 2 ^ r < 4294967296 := by
  have hp : (0 : Int) < 2 ^ r := Int.pow_pos (by decide)
  refine ⟨Int.ediv_nonneg x0 (Int.le_of_lt hp), Int.ediv_lt_of_lt_mul hp ?_⟩
  have : (4294967296 : Int) * 1 ≤ 4294967296 * 2 ^ r := Int.mul_le_mul_of_nonneg_left hp (by decide)
  omega
set_option maxRecDepth 100000 in
/-- (*Int).Bit. -/
theorem ibit_calls {w : World} {g : Nat} {z : Int} (hz : IntAt w g z) (f : Fits z.natAbs) (i : Nat) (hi : i ≤ 4000000000) : Calls Tryz.prog 231 #[pt g, .int .i64 i] w fun e w' => e = .returned (.int .u64 (bitN z.natAbs i)) ∧ w' = w := by
  obtain ⟨A, c, h0, h1, HV⟩ := hz.open
  clear hz
  have f' : (digs z.natAbs).length ≤ 1000000000 := f
  clear f
  generalize hq : i / 32 = q at *
  have hq' : (i : Int) / 32 = (q : Int) := by omega
  have hqt : Int.tdiv (i : Int) 32 = (q : Int) := by rw [Int.tdiv_eq_ediv_of_nonneg (by omega)]; exact hq'
  by_cases hn : q < (digs z.natAbs).length
  · obtain ⟨A', c', e, hl, hr⟩ := HV.out
    cases e
    obtain ⟨ad, x, e1, hx, NX⟩ := at_word hr q hn
    cases e1
    have dx := (digs_digs z.natAbs).getD q
    rw [← NX.out] at dx
    obtain ⟨x0, x1⟩ := dx
    have HB : Aside0 (bitN z.natAbs i = x / 2 ^ (i % 32) % 2) := ⟨by unfold bitN; rw [hq, NX.out]⟩
    clear hr hl NX HV
    obtain ⟨r, hr⟩ : ∃ r, i % 32 = r := ⟨_, rfl⟩
    rw [hr] at HB
    have hrt : Int.tmod (i : Int) 32 = (r : Int) := by rw [Int.tmod_eq_emod_of_nonneg (by omega)]; omega
    have hr31 : r ≤ 31 := by omega
    clear hq hr
    go_enter Tryz.func231, Tryz.ntmps231
    go_wp2
    go_ret
    exact ⟨ret_int (by rw [HB.out]; exact and_one (shr_bound x0 x1).1 (shr_bound x0 x1).2), rfl⟩
  · have HB : Aside0 (bitN z.natAbs i = 0) := ⟨by unfold bitN; rw [hq, getD_big _ (by omega)]; simp⟩
    clear HV hq
    go_enter Tryz.func231, Tryz.ntmps231
    go_wp2
    go_ret
    exact ⟨ret_int (by rw [HB.out]), rfl⟩
end Go.Proofs.YtinmbcomnjmmjaaGreatDoor
