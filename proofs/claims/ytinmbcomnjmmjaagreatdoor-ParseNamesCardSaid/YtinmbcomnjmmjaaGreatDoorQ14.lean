/- Proved: a part of what the statement on the names of parse needs: walks of functions of the program, and plain laws. (Texts Bd, Be, Bf.) -/
import Derived.Test.YtinmbcomnjmmjaaGreatDoorQ13
namespace Go.Proofs.YtinmbcomnjmmjaaGreatDoor
open Go.RowKit Go.Proofs.YtinmbcomnjmmjaaGreatDoorW.PrintWords Go.Proofs.YtinmbcomnjmmjaaGreatDoorW.PrintLast Go.Proofs.YtinmbcomnjmmjaaGreatDoorW.PrintMore
open X
theorem R_of_own {w : World} {base : Nat} {v : Value} (h : w.ownsRow base 93 1 v 0 []) : Kd.R (Kd.int .u32) 93 w base (fun _ => True) v [] :=
  ⟨fun _ _ => trivial, [], h, Reps.none _ _⟩
theorem at_word {w : World} {A : Option Addr} {n : Nat} {xs : List Int} (h : Kd.C (Kd.int .u32) w A n xs) (i : Nat) (h1 : i < n) : ∃ ad x, A = some ad ∧ w.cell? (ad.add i) = some (.int .u32 x) ∧ Aside0 (x = xs.getD i 0) := by
  obtain ⟨ad, e, hx⟩ := Kd.at_int h (i : Int) (by omega) (by omega)
  rw [Int.toNat_natCast, rd_eq] at hx
  exact ⟨ad, _, e, hx, ⟨rfl⟩⟩
def AddInv (xs ys : List Int) (i : Nat) (o : List Int) (c : Int) : Prop := Digs o ∧ o.length = i ∧ val o + c.toNat * 4294967296 ^ i = val (xs.take i) + val (ys.take i)
theorem getD_big (xs : List Int) {i : Nat} (h : xs.length ≤ i) : xs.getD i 0 = 0 := by
  simp only [List.getD_eq_getElem?_getD]; rw [List.getElem?_eq_none h]; rfl
theorem val_take_succ' (xs : List Int) (i : Nat) : val (xs.take (i + 1)) = val (xs.take i) + (xs.getD i 0).toNat * 4294967296 ^ i := by
  by_cases h : i < xs.length
  · exact val_take_succ h
  · rw [getD_big xs (by omega), List.take_of_length_le (by omega), List.take_of_length_le (by omega)]; simp
theorem add_step {xs ys : List Int} {i : Nat} {o : List Int} {c : Int} (h : AddInv xs ys i o c) (hd1 : Digs xs) (hd2 : Digs ys) (hc : 0 ≤ c) {d : Int} (hd : d = c + xs.getD i 0 + ys.getD i 0) :
    AddInv xs ys (i + 1) (o ++ [d % 4294967296]) (d / 4294967296) := by
  obtain ⟨h1, h2, h3⟩ := h
  have dx := (hd1.getD i).1
  have dy := (hd2.getD i).1
  have hn : d.toNat = c.toNat + (xs.getD i 0).toNat + (ys.getD i 0).toNat := by omega
  have hs := toNat_split (x := d) (by omega)
  refine ⟨h1.append (Digs.one (dig_mod _)), by simp [h2], ?_⟩
  rw [val_snoc, h2, val_take_succ', val_take_succ', Nat.pow_succ]
  rw [hn] at hs
  clear hd hn dx dy
  generalize (d % 4294967296).toNat = l at *
  generalize (d / 4294967296).toNat = u at *
  generalize (xs.getD i 0).toNat = x at *
  generalize (ys.getD i 0).toNat = y at *
  generalize c.toNat = c at *
  generalize 4294967296 ^ i = p at *
  generalize (4294967296 : Nat) = B at *
  grind
theorem canon_of_ge {o : List Int} {n : Nat} (hd : Digs o) (hv : val o = n) (hge : o = [] ∨ 4294967296 ^ (o.length - 1) ≤ n) : o = digs n := by
  have hc : Canon o := by
    refine ⟨hd, fun e => ?_⟩
    rcases List.eq_nil_or_concat o with rfl | ⟨q, x, rfl⟩
    · simp at e
    · rw [List.concat_eq_append] at *
      have hx : x = 0 := by simpa using e
      subst hx
      rcases hge with hge | hge
      · simp at hge
      · rw [val_snoc] at hv
        have := val_lt (fun y hy => hd y (List.mem_append_left _ hy) : Digs q)
        simp only [List.length_append, List.length_cons, List.length_nil, Nat.zero_add, Nat.add_sub_cancel] at hge
        simp at hv
        omega
  exact (digs_eq hc hv).symm
theorem add_end0 {xs ys : List Int} {o : List Int} (h : AddInv xs ys xs.length o 0) (hx : Canon xs) (hl : ¬ xs.length < ys.length) : o = digs (val xs + val ys) := by
  obtain ⟨h1, h2, h3⟩ := h
  rw [List.take_length, List.take_of_length_le (by omega)] at h3
  refine canon_of_ge h1 (by simpa using h3) ?_
  by_cases hn : xs = []
  · left; subst hn; exact List.length_eq_zero_iff.1 h2
  · right
    have := canon_top hx hn
    rw [h2]; omega
theorem add_end1 {xs ys : List Int} {o : List Int} {c : Int} (h : AddInv xs ys xs.length o c) (hc : 0 < c) (hc1 : c ≤ 1) (hl : ¬ xs.length < ys.length) : o ++ [c] = digs (val xs + val ys) := by
  obtain ⟨h1, h2, h3⟩ := h
  rw [List.take_length, List.take_of_length_le (by omega)] at h3
  have hc' : c = 1 := by omega
  subst hc'
  have e1 : (1 : Int).toNat = 1 := rfl
  rw [e1, Nat.one_mul] at h3
  refine canon_of_ge (h1.append (Digs.one ⟨by omega, by omega⟩)) (by rw [val_snoc, h2, e1, Nat.mul_one]; exact h3) (.inr ?_)
  simp only [List.length_append, List.length_cons, List.length_nil, Nat.zero_add, Nat.add_sub_cancel, h2]
  omega
set_option maxHeartbeats 1000000 in
set_option maxRecDepth 100000 in
theorem add_words (A1 A2 : Option Addr) (c1 c2 : Nat) (xs ys : List Int) (w : World) (h1 : Kd.C (Kd.int .u32) w A1 xs.length xs) (h2 : Kd.C (Kd.int .u32) w A2 ys.length ys)
    (hl : ¬ xs.length < ys.length) (hd1 : Canon xs) (hd2 : Digs ys) (hm : xs.length ≤ 1000000000) :
    Calls Tryz.prog 225 #[.slice A1 xs.length c1, .slice A2 ys.length c2] w fun e w' => ∃ v, e = .returned v ∧ NatAt w' v (val xs + val ys) ∧ Below w.heap.size w w' := by
  have H1 := Aside0.mk h1; have H2 := Aside0.mk h2; have D1 := Aside0.mk hd1; have D2 := Aside0.mk hd2
  clear h1 h2 hd1 hd2
  go_enter Tryz.func225, Tryz.ntmps225
  obtain ⟨i0, hi, hz0, hz1, hz2⟩ := info_parts info93
  go_wp2_with (first
    | (at_make; refine wpList_make_own _ rfl _ _ 182 rfl w.heap.size 93 i0 (.int .u32 0) 1 Tryz.underlying182 hi hz0 hz1 .i64 .i64 ((xs.length + 1 : Nat) : Int) (xs.length + 1) rfl (by go_simp) rfl (by rw [hz2]; omega) (by unfold maxLen; omega) (by simp) ?_; intro w1 ho1 hg1))
  have hG := hg1; clear hg1 hi hz0 hz1 hz2
  go_loopw [5, 6, 7, 8, 22] (fun v5 v6 v7 v8 v22 wr => ∃ (i : Nat) (o : List Int) (c : Int), v22 = .int .i64 i ∧ v6 = .int .u64 c ∧ i ≤ xs.length ∧ 0 ≤ c ∧ c ≤ 1 ∧ Aside0 (AddInv xs ys i o c) ∧ Aside0 (Kd.R (Kd.int .u32) 93 wr w.heap.size (fun _ => True) v5 o) ∧ Aside0 (Below w.heap.size w wr)) (fun _ _ _ _ i _ => xs.length - (intOf i).toNat)
  case atStart => exact ⟨0, [], 0, rfl, rfl, by omega, by omega, by omega, ⟨Digs.nil, rfl, by simp [val]⟩, ⟨R_of_own ho1⟩, ⟨pw_below_grown (Below.refl _ _) none (Nat.le_refl _) hG (by simp)⟩⟩
  case round =>
    obtain ⟨i, o, c, rfl, rfl, hi, hc0, hc1, HI, HR, HB⟩ := hrel
    clear ho1 hG
    by_cases hlt : i < xs.length
    · obtain ⟨ad1, x, e1, hx1, NX⟩ := at_word (Kd.C_below H1.out HB.out) i hlt
      cases e1
      have dx := D1.out.1.getD i
      rw [← NX.out] at dx
      obtain ⟨x0, x1⟩ := dx
      by_cases hy : i < ys.length
      · obtain ⟨ad2, y, e2, hx2, NY⟩ := at_word (Kd.C_below H2.out HB.out) i hy
        cases e2
        have dy := D2.out.getD i
        rw [← NY.out] at dy
        obtain ⟨y0, y1⟩ := dy
        go_wp2_with (first | (at_builtin; refine Kd.R_append (Kd.int .u32) (w0 := w) w.heap.size rfl (.tmp 42) (.tmp 45) 182 93 (.int .u32 0) 4 rfl Tryz.underlying182 info93 rfl (by decide) (by omega) _ o ((c + x + y) % 4294967296) [.int .u32 ((c + x + y) % 4294967296)] (fun _ => True) (fun _ => False) rfl rfl ?aP (fun _ hk => hk.elim) ?aF ?aO ?aB ?aS ?aL ?_; (case aP => exact rfl); (case aB => exact HB.out); (case aF => exact (fun _ _ => trivial)); (case aO => exact HR.out); (case aS => exact HB.out.size); (case aL => (have hl9 := HI.out.2.1; omega)); intro v9 w9 ho9 hb9 hg9 hat9; have HR9 := Aside0.mk ho9; have HB9 := Aside0.mk hb9; clear ho9 hb9 hg9 hat9))
        go_roundw
        case rel => exact ⟨i + 1, _, _, by go_num, rfl, by omega, by omega, by omega, ⟨add_step HI.out D1.out.1 D2.out hc0 (by rw [← NX.out, ← NY.out])⟩, HR9, HB9⟩
        case measure => simp [intOf]; omega
      · go_wp2_with (first | (at_builtin; refine Kd.R_append (Kd.int .u32) (w0 := w) w.heap.size rfl (.tmp 42) (.tmp 45) 182 93 (.int .u32 0) 4 rfl Tryz.underlying182 info93 rfl (by decide) (by omega) _ o ((c + x) % 4294967296) [.int .u32 ((c + x) % 4294967296)] (fun _ => True) (fun _ => False) rfl rfl ?aP (fun _ hk => hk.elim) ?aF ?aO ?aB ?aS ?aL ?_; (case aP => exact rfl); (case aB => exact HB.out); (case aF => exact (fun _ _ => trivial)); (case aO => exact HR.out); (case aS => exact HB.out.size); (case aL => (have hl9 := HI.out.2.1; omega)); intro v9 w9 ho9 hb9 hg9 hat9; have HR9 := Aside0.mk ho9; have HB9 := Aside0.mk hb9; clear ho9 hb9 hg9 hat9))
        go_roundw
        case rel => exact ⟨i + 1, _, _, by go_num, rfl, by omega, by omega, by omega, ⟨add_step HI.out D1.out.1 D2.out hc0 (by rw [← NX.out, getD_big ys (by omega), Int.add_zero])⟩, HR9, HB9⟩
        case measure => simp [intOf]; omega
    · have hie : i = xs.length := by omega
      have HIE := Aside0.mk hie
      clear hie
      by_cases hcp : 0 < c
      · go_wp2_with (first | (at_builtin; refine Kd.R_append (Kd.int .u32) (w0 := w) w.heap.size rfl (.tmp 52) (.tmp 55) 182 93 (.int .u32 0) 4 rfl Tryz.underlying182 info93 rfl (by decide) (by omega) _ o c [.int .u32 c] (fun _ => True) (fun _ => False) rfl rfl ?aP (fun _ hk => hk.elim) ?aF ?aO ?aB ?aS ?aL ?_; (case aP => exact rfl); (case aB => exact HB.out); (case aF => exact (fun _ _ => trivial)); (case aO => exact HR.out); (case aS => exact HB.out.size); (case aL => (have hl9 := HI.out.2.1; omega)); intro v9 w9 ho9 hb9 hg9 hat9; have HR9 := Aside0.mk ho9; have HB9 := Aside0.mk hb9; clear ho9 hb9 hg9 hat9))
        go_ret
        exact ⟨_, rfl, NatAt.of_eq (Words.of_R HR9.out) (add_end1 (HIE.out ▸ HI.out) hcp hc1 hl), HB9.out⟩
      · have hcz : c = 0 := by omega
        subst hcz
        go_wp2
        go_ret
        exact ⟨_, rfl, NatAt.of_eq (Words.of_R HR.out) (add_end0 (HIE.out ▸ HI.out) D1.out hl), HB.out⟩
set_option maxHeartbeats 1000000 in
set_option maxRecDepth 100000 in
theorem add_words' (A1 A2 : Option Addr) (c1 c2 : Nat) (xs ys : List Int) (w : World) (h1 : Kd.C (Kd.int .u32) w A1 xs.length xs) (h2 : Kd.C (Kd.int .u32) w A2 ys.length ys)
    (hl' : ys.length < xs.length) (hd1 : Canon xs) (hd2 : Digs ys) (hm : xs.length ≤ 1000000000) :
    Calls Tryz.prog 225 #[.slice A2 ys.length c2, .slice A1 xs.length c1] w fun e w' => ∃ v, e = .returned v ∧ NatAt w' v (val xs + val ys) ∧ Below w.heap.size w w' := by
  have hl : ¬ xs.length < ys.length := by omega
  have H1 := Aside0.mk h1; have H2 := Aside0.mk h2; have D1 := Aside0.mk hd1; have D2 := Aside0.mk hd2
  clear h1 h2 hd1 hd2
  go_enter Tryz.func225, Tryz.ntmps225
  obtain ⟨i0, hi, hz0, hz1, hz2⟩ := info_parts info93
  go_wp2_with (first
    | (at_make; refine wpList_make_own _ rfl _ _ 182 rfl w.heap.size 93 i0 (.int .u32 0) 1 Tryz.underlying182 hi hz0 hz1 .i64 .i64 ((xs.length + 1 : Nat) : Int) (xs.length + 1) rfl (by go_simp) rfl (by rw [hz2]; omega) (by unfold maxLen; omega) (by simp) ?_; intro w1 ho1 hg1))
  have hG := hg1; clear hg1 hi hz0 hz1 hz2
  go_loopw [5, 6, 7, 8, 22] (fun v5 v6 v7 v8 v22 wr => ∃ (i : Nat) (o : List Int) (c : Int), v22 = .int .i64 i ∧ v6 = .int .u64 c ∧ i ≤ xs.length ∧ 0 ≤ c ∧ c ≤ 1 ∧ Aside0 (AddInv xs ys i o c) ∧ Aside0 (Kd.R (Kd.int .u32) 93 wr w.heap.size (fun _ => True) v5 o) ∧ Aside0 (Below w.heap.size w wr)) (fun _ _ _ _ i _ => xs.length - (intOf i).toNat)
  case atStart => exact ⟨0, [], 0, rfl, rfl, by omega, by omega, by omega, ⟨Digs.nil, rfl, by simp [val]⟩, ⟨R_of_own ho1⟩, ⟨pw_below_grown (Below.refl _ _) none (Nat.le_refl _) hG (by simp)⟩⟩
  case round =>
    obtain ⟨i, o, c, rfl, rfl, hi, hc0, hc1, HI, HR, HB⟩ := hrel
    clear ho1 hG
    by_cases hlt : i < xs.length
    · obtain ⟨ad1, x, e1, hx1, NX⟩ := at_word (Kd.C_below H1.out HB.out) i hlt
      cases e1
      have dx := D1.out.1.getD i
      rw [← NX.out] at dx
      obtain ⟨x0, x1⟩ := dx
      by_cases hy : i < ys.length
      · obtain ⟨ad2, y, e2, hx2, NY⟩ := at_word (Kd.C_below H2.out HB.out) i hy
        cases e2
        have dy := D2.out.getD i
        rw [← NY.out] at dy
        obtain ⟨y0, y1⟩ := dy
        go_wp2_with (first | (at_builtin; refine Kd.R_append (Kd.int .u32) (w0 := w) w.heap.size rfl (.tmp 42) (.tmp 45) 182 93 (.int .u32 0) 4 rfl Tryz.underlying182 info93 rfl (by decide) (by omega) _ o ((c + x + y) % 4294967296) [.int .u32 ((c + x + y) % 4294967296)] (fun _ => True) (fun _ => False) rfl rfl ?aP (fun _ hk => hk.elim) ?aF ?aO ?aB ?aS ?aL ?_; (case aP => exact rfl); (case aB => exact HB.out); (case aF => exact (fun _ _ => trivial)); (case aO => exact HR.out); (case aS => exact HB.out.size); (case aL => (have hl9 := HI.out.2.1; omega)); intro v9 w9 ho9 hb9 hg9 hat9; have HR9 := Aside0.mk ho9; have HB9 := Aside0.mk hb9; clear ho9 hb9 hg9 hat9))
        go_roundw
        case rel => exact ⟨i + 1, _, _, by go_num, rfl, by omega, by omega, by omega, ⟨add_step HI.out D1.out.1 D2.out hc0 (by rw [← NX.out, ← NY.out])⟩, HR9, HB9⟩
        case measure => simp [intOf]; omega
      · go_wp2_with (first | (at_builtin; refine Kd.R_append (Kd.int .u32) (w0 := w) w.heap.size rfl (.tmp 42) (.tmp 45) 182 93 (.int .u32 0) 4 rfl Tryz.underlying182 info93 rfl (by decide) (by omega) _ o ((c + x) % 4294967296) [.int .u32 ((c + x) % 4294967296)] (fun _ => True) (fun _ => False) rfl rfl ?aP (fun _ hk => hk.elim) ?aF ?aO ?aB ?aS ?aL ?_; (case aP => exact rfl); (case aB => exact HB.out); (case aF => exact (fun _ _ => trivial)); (case aO => exact HR.out); (case aS => exact HB.out.size); (case aL => (have hl9 := HI.out.2.1; omega)); intro v9 w9 ho9 hb9 hg9 hat9; have HR9 := Aside0.mk ho9; have HB9 := Aside0.mk hb9; clear ho9 hb9 hg9 hat9))
        go_roundw
        case rel => exact ⟨i + 1, _, _, by go_num, rfl, by omega, by omega, by omega, ⟨add_step HI.out D1.out.1 D2.out hc0 (by rw [← NX.out, getD_big ys (by omega), Int.add_zero])⟩, HR9, HB9⟩
        case measure => simp [intOf]; omega
    · have hie : i = xs.length := by omega
      have HIE := Aside0.mk hie
      clear hie
      by_cases hcp : 0 < c
      · go_wp2_with (first | (at_builtin; refine Kd.R_append (Kd.int .u32) (w0 := w) w.heap.size rfl (.tmp 52) (.tmp 55) 182 93 (.int .u32 0) 4 rfl Tryz.underlying182 info93 rfl (by decide) (by omega) _ o c [.int .u32 c] (fun _ => True) (fun _ => False) rfl rfl ?aP (fun _ hk => hk.elim) ?aF ?aO ?aB ?aS ?aL ?_; (case aP => exact rfl); (case aB => exact HB.out); (case aF => exact (fun _ _ => trivial)); (case aO => exact HR.out); (case aS => exact HB.out.size); (case aL => (have hl9 := HI.out.2.1; omega)); intro v9 w9 ho9 hb9 hg9 hat9; have HR9 := Aside0.mk ho9; have HB9 := Aside0.mk hb9; clear ho9 hb9 hg9 hat9))
        go_ret
        exact ⟨_, rfl, NatAt.of_eq (Words.of_R HR9.out) (add_end1 (HIE.out ▸ HI.out) hcp hc1 hl), HB9.out⟩
      · have hcz : c = 0 := by omega
        subst hcz
        go_wp2
        go_ret
        exact ⟨_, rfl, NatAt.of_eq (Words.of_R HR.out) (add_end0 (HIE.out ▸ HI.out) D1.out hl), HB.out⟩
/-- (nat).add. -/
theorem add_calls {v u : Value} {a b : Nat} {w : World} (h1 : NatAt w v a) (h2 : NatAt w u b) (f1 : Fits a) (f2 : Fits b) :
    Calls Tryz.prog 225 #[v, u] w fun e w' => ∃ r, e = .returned r ∧ NatAt w' r (a + b) ∧ Below w.heap.size w w' := by
  obtain ⟨A1, c1, rfl, l1, r1⟩ := h1
  obtain ⟨A2, c2, rfl, l2, r2⟩ := h2
  by_cases hl : (digs a).length < (digs b).length
  · have := add_words' A2 A1 c2 c1 (digs b) (digs a) w r2 r1 hl (canon_digs b) (digs_digs a) f2
    rw [val_digs, val_digs, Nat.add_comm b a] at this
    exact this
  · have := add_words A1 A2 c1 c2 (digs a) (digs b) w r1 r2 hl (canon_digs a) (digs_digs b) f1
    rw [val_digs, val_digs] at this
    exact this
end Go.Proofs.YtinmbcomnjmmjaaGreatDoor
namespace Go.Proofs.YtinmbcomnjmmjaaGreatDoor
open Go.RowKit Go.Proofs.YtinmbcomnjmmjaaGreatDoorW.PrintWords Go.Proofs.YtinmbcomnjmmjaaGreatDoorW.PrintLast Go.Proofs.YtinmbcomnjmmjaaGreatDoorW.PrintMore
open X
theorem trim_calls {v : Value} {xs : List Int} {w : World} (h : Words w v xs) (hd : Digs xs) (hm : xs.length ≤ 2000000000) :
    Calls Tryz.prog 233 #[v] w fun e w' => ∃ r, e = .returned r ∧ NatAt w' r (val xs) ∧ Below w.heap.size w w' := by
  have hv := h.toV
  obtain ⟨A, c, rfl, l, r⟩ := h
  refine (big_nat_trim.calls (xs.length + 1) (fun _ => True) A c xs (trimmed xs) w hv (trim_f xs.length xs _ rfl (Nat.lt_succ_self _) (by omega) hd)).mono ?_
  rintro e w' ⟨v, rfl, hv, hb⟩
  exact ⟨v, rfl, NatAt.of_eq (Words.of_V hv) rfl, hb⟩
theorem small_calls (x : Int) (h0 : 0 ≤ x) (h1 : x < 18446744073709551616) (w : World) :
    Calls Tryz.prog 199 #[.int .u64 x] w fun e w' => ∃ r, e = .returned r ∧ NatAt w' r x.toNat ∧ Below w.heap.size w w' := by
  obtain ⟨n, rfl⟩ := Int.eq_ofNat_of_zero_le h0
  refine (big_small.calls 3 n (digs n) w (small_f n (by omega))).mono ?_
  rintro e w' ⟨v, rfl, hv, hb⟩
  exact ⟨v, rfl, NatAt.of_eq (Words.of_V hv) (by rw [Int.toNat_natCast]), hb⟩
theorem mul_calls {v u : Value} {a b : Nat} {w : World} (h1 : NatAt w v a) (h2 : NatAt w u b) (f1 : Fits a) (f2 : Fits b) :
    Calls Tryz.prog 224 #[v, u] w fun e w' => ∃ r, e = .returned r ∧ NatAt w' r (a * b) ∧ Below w.heap.size w w' := by
  obtain ⟨A1, c1, rfl, l1, r1⟩ := h1
  obtain ⟨A2, c2, rfl, l2, r2⟩ := h2
  obtain ⟨k, hk⟩ := mul_f f1 f2
  refine (big_nat_mul.calls k A1 c1 (digs a) A2 c2 (digs b) _ w r1 l1 r2 l2 hk).mono ?_
  rintro e w' ⟨v, rfl, hv, hb⟩
  exact ⟨v, rfl, NatAt.of_eq (Words.of_V hv) rfl, hb⟩
/-- How two numbers compare. -/
def cmpN (a b : Nat) : Int := if a < b then -1 else if a = b then 0 else 1
theorem cmp_calls {v u : Value} {a b : Nat} {w : World} (h1 : NatAt w v a) (h2 : NatAt w u b) (f1 : Fits a) :
    Calls Tryz.prog 226 #[v, u] w fun e w' => e = .returned (.int .i64 (cmpN a b)) ∧ Below w.heap.size w w' := by
  obtain ⟨A1, c1, rfl, l1, r1⟩ := h1
  obtain ⟨A2, c2, rfl, l2, r2⟩ := h2
  obtain ⟨k, hk⟩ := cmp_f (b := b) f1
  refine (big_nat_cmp.calls k A1 c1 (digs a) A2 c2 (digs b) _ w r1 l1 r2 l2 hk).mono ?_
  rintro e w' ⟨rfl, hd⟩
  exact ⟨rfl, hd.below⟩
def SubInv (xs ys : List Int) (i : Nat) (o : List Int) (c : Int) : Prop := Digs o ∧ o.length = i ∧ val (xs.take i) + c.toNat * 4294967296 ^ i = val o + val (ys.take i)
theorem sub_step {xs ys : List Int} {i : Nat} {o : List Int} {c : Int} (h : SubInv xs ys i o c) (hd1 : Digs xs) (hd2 : Digs ys) (hc : 0 ≤ c) {x y d b : Int} (hx : x = xs.getD i 0) (hy : y = ys.getD i 0)
    (hdd : Dig d) (hb : 0 ≤ b) (e : d = x - (c + y) + b * 4294967296) : SubInv xs ys (i + 1) (o ++ [d]) b := by
  obtain ⟨h1, h2, h3⟩ := h
  have dx := (hd1.getD i).1
  have dy := (hd2.getD i).1
  rw [← hx] at dx; rw [← hy] at dy
  have hn : d.toNat + (c.toNat + y.toNat) = x.toNat + b.toNat * 4294967296 := by have := hdd.1; omega
  refine ⟨h1.append (Digs.one hdd), by simp [h2], ?_⟩
  rw [val_snoc, h2, val_take_succ', val_take_succ', Nat.pow_succ, ← hx, ← hy]
  clear hdd e
  generalize d.toNat = d at *
  generalize b.toNat = b at *
  generalize x.toNat = x at *
  generalize y.toNat = y at *
  generalize c.toNat = c at *
  generalize 4294967296 ^ i = p at *
  generalize (4294967296 : Nat) = B at *
  grind
theorem sub_wrap {x t : Int} (h0 : 0 ≤ x) (h1 : x < t) (h2 : t ≤ 4294967296) : IntKind.u64.wrap (x - t) % 4294967296 = x - t + 1 * 4294967296 := by
  have : IntKind.u64.wrap (x - t) = x - t + 18446744073709551616 := by
    simp [IntKind.wrap, IntKind.signed, IntKind.bits]; omega
  rw [this]; omega
theorem sub_end {xs ys o : List Int} {c : Int} (h : SubInv xs ys xs.length o c) (hl : ys.length ≤ xs.length) (hv : val ys ≤ val xs) : val o = val xs - val ys := by
  obtain ⟨h1, h2, h3⟩ := h
  rw [List.take_length, List.take_of_length_le hl] at h3
  have := val_lt h1
  rw [h2] at this
  rcases Nat.eq_zero_or_pos c.toNat with h0 | h0
  · rw [h0, Nat.zero_mul] at h3; omega
  · have := Nat.mul_le_mul_right (4294967296 ^ xs.length) h0
    generalize 4294967296 ^ xs.length = p at *
    omega
set_option maxHeartbeats 1000000 in
set_option maxRecDepth 100000 in
theorem sub_words (A1 A2 : Option Addr) (c1 c2 : Nat) (xs ys : List Int) (w : World) (h1 : Kd.C (Kd.int .u32) w A1 xs.length xs) (h2 : Kd.C (Kd.int .u32) w A2 ys.length ys)
    (hv : val ys ≤ val xs) (hl : ys.length ≤ xs.length) (hd1 : Canon xs) (hd2 : Digs ys) (hm : xs.length ≤ 1000000000) :
    Calls Tryz.prog 239 #[.slice A1 xs.length c1, .slice A2 ys.length c2] w fun e w' => ∃ v, e = .returned v ∧ NatAt w' v (val xs - val ys) ∧ Below w.heap.size w w' := by
  have H1 := Aside0.mk h1; have H2 := Aside0.mk h2; have D1 := Aside0.mk hd1; have D2 := Aside0.mk hd2; have HV := Aside0.mk hv
  clear h1 h2 hd1 hd2 hv
  go_enter Tryz.func239, Tryz.ntmps239
  obtain ⟨i0, hi, hz0, hz1, hz2⟩ := info_parts info93
  go_wp2_with (first | (at_make; refine wpList_make_own _ rfl _ _ 182 rfl w.heap.size 93 i0 (.int .u32 0) 1 Tryz.underlying182 hi hz0 hz1 .i64 .i64 ((xs.length : Nat) : Int) (xs.length) rfl (by go_simp) rfl (by rw [hz2]; omega) (by unfold maxLen; omega) (by simp) ?_; intro w1 ho1 hg1))
  have hG := hg1; clear hg1 hi hz0 hz1 hz2
  go_loopw [5, 6, 7, 8, 9, 15] (fun v5 v6 v7 v8 v9 v15 wr => ∃ (i : Nat) (o : List Int) (c : Int), v15 = .int .i64 i ∧ v6 = .int .u64 c ∧ i ≤ xs.length ∧ 0 ≤ c ∧ c ≤ 1 ∧ Aside0 (SubInv xs ys i o c) ∧ Aside0 (Kd.R (Kd.int .u32) 93 wr w.heap.size (fun _ => True) v5 o) ∧ Aside0 (Below w.heap.size w wr)) (fun _ _ _ _ _ i _ => xs.length - (intOf i).toNat)
  case atStart => exact ⟨0, [], 0, rfl, rfl, by omega, by omega, by omega, ⟨Digs.nil, rfl, by simp [val]⟩, ⟨R_of_own ho1⟩, ⟨pw_below_grown (Below.refl _ _) none (Nat.le_refl _) hG (by simp)⟩⟩
  case round =>
    obtain ⟨i, o, c, rfl, rfl, hi, hc0, hc1, HI, HR, HB⟩ := hrel
    clear ho1 hG
    by_cases hlt : i < xs.length
    · obtain ⟨ad1, x, e1, hx1, NX⟩ := at_word (Kd.C_below H1.out HB.out) i hlt
      cases e1
      have dx := D1.out.1.getD i
      rw [← NX.out] at dx
      obtain ⟨x0, x1⟩ := dx
      by_cases hy : i < ys.length
      · obtain ⟨ad2, y, e2, hx2, NY⟩ := at_word (Kd.C_below H2.out HB.out) i hy
        cases e2
        have dy := D2.out.getD i
        rw [← NY.out] at dy
        obtain ⟨y0, y1⟩ := dy
        by_cases hb : x < c + y
        · go_wp2_with (first | (at_builtin; refine Kd.R_append (Kd.int .u32) (w0 := w) w.heap.size rfl (.tmp 36) (.tmp 42) 182 93 (.int .u32 0) 4 rfl Tryz.underlying182 info93 rfl (by decide) (by omega) _ o ((IntKind.u64.wrap (x - (c + y)) % 4294967296)) [.int .u32 ((IntKind.u64.wrap (x - (c + y)) % 4294967296))] (fun _ => True) (fun _ => False) rfl rfl ?aP (fun _ hk => hk.elim) ?aF ?aO ?aB ?aS ?aL ?_; (case aP => exact rfl); (case aB => exact HB.out); (case aF => exact (fun _ _ => trivial)); (case aO => exact HR.out); (case aS => exact HB.out.size); (case aL => (have hl9 := HI.out.2.1; omega)); intro v9 w9 ho9 hb9 hg9 hat9; have HR9 := Aside0.mk ho9; have HB9 := Aside0.mk hb9; clear ho9 hb9 hg9 hat9))
          go_roundw
          case rel => exact ⟨i + 1, _, 1, by go_num, rfl, by omega, by omega, by omega, ⟨sub_step HI.out D1.out.1 D2.out hc0 NX.out NY.out (dig_mod _) (by omega) (sub_wrap x0 hb (by omega))⟩, HR9, HB9⟩
          case measure => simp [intOf]; omega
        · go_wp2_with (first | (at_builtin; refine Kd.R_append (Kd.int .u32) (w0 := w) w.heap.size rfl (.tmp 36) (.tmp 42) 182 93 (.int .u32 0) 4 rfl Tryz.underlying182 info93 rfl (by decide) (by omega) _ o (x - (c + y)) [.int .u32 (x - (c + y))] (fun _ => True) (fun _ => False) rfl rfl ?aP (fun _ hk => hk.elim) ?aF ?aO ?aB ?aS ?aL ?_; (case aP => exact rfl); (case aB => exact HB.out); (case aF => exact (fun _ _ => trivial)); (case aO => exact HR.out); (case aS => exact HB.out.size); (case aL => (have hl9 := HI.out.2.1; omega)); intro v9 w9 ho9 hb9 hg9 hat9; have HR9 := Aside0.mk ho9; have HB9 := Aside0.mk hb9; clear ho9 hb9 hg9 hat9))
          go_roundw
          case rel => exact ⟨i + 1, _, 0, by go_num, rfl, by omega, by omega, by omega, ⟨sub_step HI.out D1.out.1 D2.out hc0 NX.out NY.out ⟨by omega, by omega⟩ (by omega) (by omega)⟩, HR9, HB9⟩
          case measure => simp [intOf]; omega
      · by_cases hb : x < c
        · go_wp2_with (first | (at_builtin; refine Kd.R_append (Kd.int .u32) (w0 := w) w.heap.size rfl (.tmp 36) (.tmp 42) 182 93 (.int .u32 0) 4 rfl Tryz.underlying182 info93 rfl (by decide) (by omega) _ o ((IntKind.u64.wrap (x - c) % 4294967296)) [.int .u32 ((IntKind.u64.wrap (x - c) % 4294967296))] (fun _ => True) (fun _ => False) rfl rfl ?aP (fun _ hk => hk.elim) ?aF ?aO ?aB ?aS ?aL ?_; (case aP => exact rfl); (case aB => exact HB.out); (case aF => exact (fun _ _ => trivial)); (case aO => exact HR.out); (case aS => exact HB.out.size); (case aL => (have hl9 := HI.out.2.1; omega)); intro v9 w9 ho9 hb9 hg9 hat9; have HR9 := Aside0.mk ho9; have HB9 := Aside0.mk hb9; clear ho9 hb9 hg9 hat9))
          go_roundw
          case rel => exact ⟨i + 1, _, 1, by go_num, rfl, by omega, by omega, by omega, ⟨sub_step HI.out D1.out.1 D2.out hc0 NX.out (getD_big ys (by omega)).symm (dig_mod _) (by omega) (by rw [sub_wrap x0 hb (by omega), Int.add_zero])⟩, HR9, HB9⟩
          case measure => simp [intOf]; omega
        · go_wp2_with (first | (at_builtin; refine Kd.R_append (Kd.int .u32) (w0 := w) w.heap.size rfl (.tmp 36) (.tmp 42) 182 93 (.int .u32 0) 4 rfl Tryz.underlying182 info93 rfl (by decide) (by omega) _ o (x - c) [.int .u32 (x - c)] (fun _ => True) (fun _ => False) rfl rfl ?aP (fun _ hk => hk.elim) ?aF ?aO ?aB ?aS ?aL ?_; (case aP => exact rfl); (case aB => exact HB.out); (case aF => exact (fun _ _ => trivial)); (case aO => exact HR.out); (case aS => exact HB.out.size); (case aL => (have hl9 := HI.out.2.1; omega)); intro v9 w9 ho9 hb9 hg9 hat9; have HR9 := Aside0.mk ho9; have HB9 := Aside0.mk hb9; clear ho9 hb9 hg9 hat9))
          go_roundw
          case rel => exact ⟨i + 1, _, 0, by go_num, rfl, by omega, by omega, by omega, ⟨sub_step HI.out D1.out.1 D2.out hc0 NX.out (getD_big ys (by omega)).symm ⟨by omega, by omega⟩ (by omega) (by omega)⟩, HR9, HB9⟩
          case measure => simp [intOf]; omega
    · have hie : i = xs.length := by omega
      have HIE := Aside0.mk hie
      clear hie
      go_wp2_with (go_at_call 233; refine (trim_calls (Words.of_R HR.out) HI.out.1 (by have := HI.out.2.1; omega)).mono ?_; rintro e w2 ⟨r, rfl, hn2, hb2⟩; have HN2 := Aside0.mk hn2; have HB2 := Aside0.mk hb2; clear hn2 hb2)
      go_ret
      exact ⟨_, rfl, by rw [← sub_end (HIE.out ▸ HI.out) hl HV.out]; exact HN2.out, below_then HB.out HB.out.size HB2.out⟩
/-- (nat).sub. -/
theorem sub_calls {v u : Value} {a b : Nat} {w : World} (h1 : NatAt w v a) (h2 : NatAt w u b) (f1 : Fits a) (hab : b ≤ a) :
    Calls Tryz.prog 239 #[v, u] w fun e w' => ∃ r, e = .returned r ∧ NatAt w' r (a - b) ∧ Below w.heap.size w w' := by
  obtain ⟨A1, c1, rfl, l1, r1⟩ := h1
  obtain ⟨A2, c2, rfl, l2, r2⟩ := h2
  have := sub_words A1 A2 c1 c2 (digs a) (digs b) w r1 r2 (by rw [val_digs, val_digs]; exact hab) (digs_length_mono hab) (canon_digs a) (digs_digs b) f1
  rw [val_digs, val_digs] at this
  exact this
end Go.Proofs.YtinmbcomnjmmjaaGreatDoor
namespace Go.Proofs.YtinmbcomnjmmjaaGreatDoor
open Go.RowKit Go.Proofs.YtinmbcomnjmmjaaGreatDoorW.PrintWords Go.Proofs.YtinmbcomnjmmjaaGreatDoorW.PrintLast Go.Proofs.YtinmbcomnjmmjaaGreatDoorW.PrintMore
open X
theorem R_made (w : World) (base l c : Nat) (hlc : l ≤ c) (hc : c ≤ 9223372036854775807) (hb : base ≤ w.heap.size) :
    Kd.R (Kd.int .u32) 93 (w.alloc (.cells (madeCells #[.int .u32 0] c) 93)) base (fun _ => True) (.slice (some ⟨w.heap.size, 0, none⟩) l c) (List.replicate l 0) := by
  have h := own_take (own_made w base 93 .u32 c hb hc) hlc
  have e : (nums .u32 (List.replicate c 0)).take (l * 1) = nums .u32 (List.replicate l 0) := by
    simp [nums, List.take_replicate, Nat.min_eq_left hlc]
  rw [e] at h
  exact ⟨fun _ _ => trivial, _, by rw [List.length_replicate]; exact h, Kd.reps_scalar (enc := Value.int .u32) _⟩
theorem or_word {x c : Int} {r : Nat} (hr : r ≤ 31) (h0 : 0 ≤ c) (hc : c < 2 ^ r) : bits .or .u32 (x * 2 ^ r % 4294967296) c = x * 2 ^ r % 4294967296 + c := by
  have hp : (2 : Int) ^ r ≤ 2 ^ 32 := by
    have : (2 : Nat) ^ r ≤ 2 ^ 32 := Nat.pow_le_pow_right (by decide) (by omega)
    exact_mod_cast this
  have hm : x * 2 ^ r % 4294967296 % 2 ^ r = 0 := by
    have h1 : (2 : Int) ^ r ∣ 4294967296 := ⟨2 ^ (32 - r), by rw [← Int.pow_add, show r + (32 - r) = 32 from by omega]; rfl⟩
    rw [Int.emod_emod_of_dvd _ h1]; exact Int.mul_emod_left _ _
  refine bits_join .u32 32 (by decide) (fun n h0 h1 => by rw [IntKind.wrap_u32]; omega) r _ _ (by omega) hm (by omega) h0 hc (by omega)
/-- How far the shift has come: i words of xs are laid behind q noughts, c is carried. -/
def ShlInv (xs : List Int) (q r i : Nat) (o : List Int) (c : Int) : Prop := Digs o ∧ o.length = q + i ∧ c < 2 ^ r ∧ val o + c.toNat * 4294967296 ^ (q + i) = val (xs.take i) * 2 ^ r * 4294967296 ^ q
theorem shl_arith (l h c z x p q B vo vx s : Nat) (e1 : l + B * h = x * s) (e2 : vo + c * (q * p) = vx * s * q) (_hz : z = l + c) : vo + (q * p) * z + h * (q * (p * B)) = (vx + x * p) * s * q := by
  subst _hz; grind
theorem shl_step {xs : List Int} {q r i : Nat} {o : List Int} {c : Int} (h : ShlInv xs q r i o c) (hd : Digs xs) (hc : 0 ≤ c) (hr : r ≤ 31) {x : Int} (hx : x = xs.getD i 0) :
    ShlInv xs q r (i + 1) (o ++ [bits .or .u32 (x * 2 ^ r % 4294967296) c]) (x * 2 ^ r / 4294967296) := by
  obtain ⟨h1, h2, h3, h4⟩ := h
  have dx := hd.getD i
  rw [← hx] at dx
  rw [or_word hr hc h3]
  have hp0 : (0 : Int) < 2 ^ r := Int.pow_pos (by decide)
  have hp : (2 : Int) ^ r ≤ 2 ^ 31 := by
    have : (2 : Nat) ^ r ≤ 2 ^ 31 := Nat.pow_le_pow_right (by decide) hr
    exact_mod_cast this
  have hx0 : 0 ≤ x * 2 ^ r := Int.mul_nonneg dx.1 (Int.le_of_lt hp0)
  have hs := toNat_split hx0
  have ht : (x * 2 ^ r).toNat = x.toNat * 2 ^ r := by
    rw [Int.toNat_mul dx.1 (Int.le_of_lt hp0)]; congr 1
  rw [ht] at hs
  have hlt : x * 2 ^ r / 4294967296 < 2 ^ r := by
    refine Int.ediv_lt_of_lt_mul (by decide) ?_
    rw [Int.mul_comm ((2 : Int) ^ r)]
    exact Int.mul_lt_mul_of_pos_right dx.2 hp0
  have hm : x * 2 ^ r % 4294967296 + c < 4294967296 := by
    have hdv : (2 : Int) ^ r ∣ 4294967296 := ⟨2 ^ (32 - r), by rw [← Int.pow_add, show r + (32 - r) = 32 from by omega]; rfl⟩
    have hm0 : x * 2 ^ r % 4294967296 % 2 ^ r = 0 := by rw [Int.emod_emod_of_dvd _ hdv]; exact Int.mul_emod_left _ _
    obtain ⟨u, hu⟩ := Int.dvd_of_emod_eq_zero hm0
    obtain ⟨v, hv⟩ := hdv
    have hlt' : x * 2 ^ r % 4294967296 < 4294967296 := by omega
    rw [hu, hv] at hlt'
    have huv : u < v := Int.lt_of_mul_lt_mul_left hlt' (Int.le_of_lt hp0)
    have : 2 ^ r * (u + 1) ≤ 2 ^ r * v := Int.mul_le_mul_of_nonneg_left (by omega) (Int.le_of_lt hp0)
    rw [Int.mul_add, Int.mul_one, ← hv, ← hu] at this
    omega
  refine ⟨h1.append (Digs.one ⟨by omega, hm⟩), by simp [h2]; omega, hlt, ?_⟩
  have e5 : 4294967296 ^ (q + (i + 1)) = 4294967296 ^ q * (4294967296 ^ i * 4294967296) := by rw [Nat.pow_add, Nat.pow_succ]
  rw [Nat.pow_add] at h4
  rw [val_snoc, h2, val_take_succ', ← hx, e5, Nat.pow_add]
  refine shl_arith _ _ _ _ _ _ _ _ _ _ _ hs h4 ?_
  omega
theorem shl_c0 {x : Int} {r : Nat} (hx : 0 ≤ x) : 0 ≤ x * 2 ^ r / 4294967296 := by
  have hp0 : (0 : Int) < 2 ^ r := Int.pow_pos (by decide)
  have hx0 : 0 ≤ x * 2 ^ r := Int.mul_nonneg hx (Int.le_of_lt hp0)
  omega
theorem shl_c1 {x : Int} {r : Nat} (h0 : 0 ≤ x) (h1 : x < 4294967296) (hr : r ≤ 31) : x * 2 ^ r / 4294967296 < 4294967296 := by
  have hp0 : (0 : Int) < 2 ^ r := Int.pow_pos (by decide)
  have hp : (2 : Int) ^ r ≤ 2 ^ 31 := by
    have : (2 : Nat) ^ r ≤ 2 ^ 31 := Nat.pow_le_pow_right (by decide) hr
    exact_mod_cast this
  have : x * 2 ^ r ≤ 4294967295 * 2 ^ 31 := Int.mul_le_mul (by omega) hp (Int.le_of_lt hp0) (by omega)
  omega
theorem shl_c {x : Int} {r : Nat} (h0 : 0 ≤ x) (h1 : x < 4294967296) (hr : r ≤ 31) : IntKind.u64.wrap (x * 2 ^ r) / 4294967296 % 4294967296 = x * 2 ^ r / 4294967296 := by
  have a := shl_c0 (r := r) h0
  have b := shl_c1 h0 h1 hr
  rw [u64_id (by have hp0 : (0 : Int) < 2 ^ r := Int.pow_pos (by decide); exact Int.mul_nonneg h0 (Int.le_of_lt hp0)) (by omega)]
  omega
theorem pow_split {k : Int} {q r : Nat} (hk : 0 ≤ k) (hq : k / 32 = (q : Int)) (hr : k % 32 = (r : Int)) : 2 ^ k.toNat = 2 ^ r * 4294967296 ^ q := by
  have e : k.toNat = r + 32 * q := by omega
  rw [e, Nat.pow_add, Nat.pow_mul]
theorem shl_end {xs o : List Int} {q r : Nat} {c k : Int} (h : ShlInv xs q r xs.length o c) (hk : 0 ≤ k) (hq : k / 32 = (q : Int)) (hr : k % 32 = (r : Int)) : val (o ++ [c]) = val xs * 2 ^ k.toNat := by
  obtain ⟨h1, h2, h3, h4⟩ := h
  rw [val_snoc, h2, Nat.mul_comm (4294967296 ^ _), h4, List.take_length, pow_split hk hq hr, Nat.mul_assoc]
set_option maxHeartbeats 1000000 in
set_option maxRecDepth 100000 in
theorem shl_words (A1 : Option Addr) (c1 : Nat) (xs : List Int) (k : Int) (q r : Nat) (w : World) (h1 : Kd.C (Kd.int .u32) w A1 xs.length xs)
    (hn : 0 < xs.length) (hd1 : Canon xs) (hk0 : 0 ≤ k) (hk : k ≤ 1000000000) (hq : k / 32 = (q : Int)) (hr : k % 32 = (r : Int)) (hm : xs.length ≤ 1000000000) :
    Calls Tryz.prog 236 #[.slice A1 xs.length c1, .int .u64 k] w fun e w' => ∃ v, e = .returned v ∧ NatAt w' v (val xs * 2 ^ k.toNat) ∧ Below w.heap.size w w' := by
  have H1 := Aside0.mk h1; have D1 := Aside0.mk hd1
  clear h1 hd1
  have hq9 : q ≤ 1000000000 := by omega
  have hr9 : r ≤ 31 := by omega
  obtain ⟨i0, hi, hz0, hz1, hz2⟩ := info_parts info93
  have hmk := run_make (P := Tryz.prog) w 182 93 i0 (.int .u32 0) Tryz.underlying182 hi hz0 .i64 .i64 (q : Int) ((xs.length : Int) + (q : Int) + 1) (by omega) (by omega) (by rw [hz2]; omega) (by omega)
  rw [hz1, Nat.mul_one] at hmk
  have e1 : ((q : Int)).toNat = q := by omega
  have e2 : ((xs.length : Int) + (q : Int) + 1).toNat = xs.length + q + 1 := by omega
  rw [e1, e2] at hmk
  have hn0 : ((xs.length : Int) == 0) = false := beq_eq_false_iff_ne.mpr (by omega)
  have HR0 := Aside0.mk (R_made w w.heap.size q (xs.length + q + 1) (by omega) (by omega) (Nat.le_refl _))
  have HB0 := Aside0.mk (below_alloc (Below.refl w.heap.size w) (.cells (madeCells #[.int .u32 0] (xs.length + q + 1)) 93))
  clear e1 e2 hi hz0 hz1 hz2
  go_enter Tryz.func236, Tryz.ntmps236
  go_wp2_with fail
  generalize w.alloc _ = w1 at HR0 HB0 ⊢
  clear hmk
  simp only [hq, hr]
  go_loopw [5, 7, 9, 28] (fun v5 v7 v9 v28 wr => ∃ (i : Nat) (o : List Int) (c : Int), v28 = .int .i64 i ∧ v7 = .int .u32 c ∧ i ≤ xs.length ∧ 0 ≤ c ∧ c < 4294967296 ∧ Aside0 (ShlInv xs q r i o c) ∧ Aside0 (Kd.R (Kd.int .u32) 93 wr w.heap.size (fun _ => True) v5 o) ∧ Aside0 (Below w.heap.size w wr)) (fun _ _ _ i _ => xs.length - (intOf i).toNat)
  case atStart => exact ⟨0, _, 0, rfl, rfl, by omega, by omega, by omega, ⟨Digs.replicate _, by simp, by simpa using Int.pow_pos (by decide), by rw [val_replicate]; simp [val]⟩, HR0, HB0⟩
  case round =>
    obtain ⟨i, o, c, rfl, rfl, hi, hc0, hc1, HI, HR, HB⟩ := hrel
    clear HR0 HB0
    by_cases hlt : i < xs.length
    · obtain ⟨ad1, x, e1, hx1, NX⟩ := at_word (Kd.C_below H1.out HB.out) i hlt
      cases e1
      have dx := D1.out.1.getD i
      rw [← NX.out] at dx
      obtain ⟨x0, x1⟩ := dx
      go_wp2_with (first | (at_builtin; refine Kd.R_append (Kd.int .u32) (w0 := w) w.heap.size rfl (.tmp 32) (.tmp 38) 182 93 (.int .u32 0) 4 rfl Tryz.underlying182 info93 rfl (by decide) (by omega) _ o (bits .or .u32 (x * 2 ^ r % 4294967296) c) [.int .u32 (bits .or .u32 (x * 2 ^ r % 4294967296) c)] (fun _ => True) (fun _ => False) rfl rfl ?aP (fun _ hk => hk.elim) ?aF ?aO ?aB ?aS ?aL ?_; (case aP => exact rfl); (case aB => exact HB.out); (case aF => exact (fun _ _ => trivial)); (case aO => exact HR.out); (case aS => exact HB.out.size); (case aL => (have hl9 := HI.out.2.1; omega)); intro v9 w9 ho9 hb9 hg9 hat9; have HR9 := Aside0.mk ho9; have HB9 := Aside0.mk hb9; clear ho9 hb9 hg9 hat9))
      go_roundw
      case rel => exact ⟨i + 1, _, _, by go_num, rfl, by omega, by rw [shl_c x0 x1 hr9]; exact shl_c0 x0, by rw [shl_c x0 x1 hr9]; exact shl_c1 x0 x1 hr9, ⟨by rw [shl_c x0 x1 hr9]; exact shl_step HI.out D1.out.1 hc0 hr9 NX.out⟩, HR9, HB9⟩
      case measure => simp [intOf]; omega
    · have hie : i = xs.length := by omega
      have HIE := Aside0.mk hie
      clear hie
      have hdc : Dig c := ⟨hc0, hc1⟩
      have HDC := Aside0.mk hdc
      clear hdc
      go_wp2_with (first | (at_builtin; refine Kd.R_append (Kd.int .u32) (w0 := w) w.heap.size rfl (.tmp 47) (.tmp 49) 182 93 (.int .u32 0) 4 rfl Tryz.underlying182 info93 rfl (by decide) (by omega) _ o (c) [.int .u32 (c)] (fun _ => True) (fun _ => False) rfl rfl ?aP (fun _ hk => hk.elim) ?aF ?aO ?aB ?aS ?aL ?_; (case aP => exact rfl); (case aB => exact HB.out); (case aF => exact (fun _ _ => trivial)); (case aO => exact HR.out); (case aS => exact HB.out.size); (case aL => (have hl9 := HI.out.2.1; omega)); intro v9 w9 ho9 hb9 hg9 hat9; have HR9 := Aside0.mk ho9; have HB9 := Aside0.mk hb9; clear ho9 hb9 hg9 hat9) | (go_at_call 233; refine (trim_calls (Words.of_R HR9.out) (HI.out.1.append (Digs.one HDC.out)) (by have := HI.out.2.1; simp [this]; omega)).mono ?_; rintro e w2 ⟨v, rfl, hn2, hb2⟩; have HN2 := Aside0.mk hn2; have HB2 := Aside0.mk hb2; clear hn2 hb2))
      go_ret
      exact ⟨_, rfl, by rw [← shl_end (HIE.out ▸ HI.out) hk0 hq hr]; exact HN2.out, below_then HB9.out HB9.out.size HB2.out⟩
theorem shl_none (A1 : Option Addr) (c1 : Nat) (k : Int) (w : World) :
    Calls Tryz.prog 236 #[.slice A1 0 c1, .int .u64 k] w fun e w' => e = .returned (.slice none 0 0) ∧ w = w' := by
  go_enter Tryz.func236, Tryz.ntmps236
  go_wp2
  go_ret
  exact ⟨rfl, rfl⟩
/-- (nat).shl. -/
theorem shl_calls {v : Value} {a : Nat} {k : Int} {w : World} (h1 : NatAt w v a) (f1 : Fits a) (hk0 : 0 ≤ k) (hk : k ≤ 1000000000) :
    Calls Tryz.prog 236 #[v, .int .u64 k] w fun e w' => ∃ r, e = .returned r ∧ NatAt w' r (a * 2 ^ k.toNat) ∧ Below w.heap.size w w' := by
  obtain ⟨A1, c1, rfl, l1, r1⟩ := h1
  rcases Nat.eq_zero_or_pos a with rfl | hp
  · have e : (digs 0).length = 0 := by rw [digs_zero]; rfl
    rw [e]
    refine (shl_none A1 c1 k w).mono ?_
    rintro e w' ⟨rfl, rfl⟩
    refine ⟨_, rfl, NatAt.of_eq (xs := []) ⟨none, 0, rfl, Nat.le_refl _, Kd.C_nil _ _⟩ ?_, Below.refl _ _⟩
    rw [Nat.zero_mul, digs_zero]
  · have hn : 0 < (digs a).length := by
      have : digs a ≠ [] := fun e => by have := digs_nil.1 e; omega
      exact List.length_pos_iff.2 this
    have := shl_words A1 c1 (digs a) k (k / 32).toNat (k % 32).toNat w r1 hn (canon_digs a) hk0 hk (by omega) (by omega) f1
    rw [val_digs] at this
    exact this
end Go.Proofs.YtinmbcomnjmmjaaGreatDoor
