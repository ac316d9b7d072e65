/- Proved: a part of what the statement on the names of parse needs: walks of functions of the program, and plain laws. (Texts Eb, Ee, Fa, Fb.) -/
import Derived.Test.YtinmbcomnjmmjaaGreatDoorQ23
import Derived.Test.YtinmbcomnjmmjaaGreatDoorQ24
import Derived.Test.YtinmbcomnjmmjaaGreatDoorQ22
import Derived.Laws.FloatArith
namespace Go.Proofs.YtinmbcomnjmmjaaGreatDoor
open Go.RowKit Go.Proofs.YtinmbcomnjmmjaaGreatDoorW.PrintWords Go.Proofs.YtinmbcomnjmmjaaGreatDoorW.PrintLast Go.Proofs.YtinmbcomnjmmjaaGreatDoorW.PrintMore
open X
/-- A tree and where the reader stands then, or a fault and its place. -/
inductive Out
  | ok (x : Lf) (a : Fo) (p : Nat)
  | bad (e : Int) (z : Int)
/-- A decimal's ball (so far of two decimals alone). -/
def numB (s : ByteArray) : Option (Nat × Nat) :=
  if s.data.toList = [49] then some (4607182418800017408, 0) else if s.data.toList = [50] then some (4611686018427387904, 0) else none
/-- Whether the token there is this sign. -/
def isF (xs : List S77) (p : Nat) (s : List UInt8) : Option Bool := xs[p]?.map fun t => decide (t.f0 = 3) && decide (t.f1.data.toList = s)
/-- Opening something at the token there. -/
def deepF (xs : List S77) (p op : Nat) : Option (Option Int) := if 256 < op + 1 then xs[p]?.map fun t => some t.f2 else if p < xs.length then some none else none
def noText : ByteArray := ⟨#[]⟩
def callL (f : Int) : Lf := ⟨4, f, noText, noText, 0, 0, 0⟩
def nameL (s : ByteArray) : Lf := ⟨3, 0, s, noText, 0, 0, 0⟩
def numL (s : ByteArray) (b : Nat × Nat) : Lf := ⟨1, 0, noText, s, b.1, 0, b.2⟩
def two (x : Lf) (a : Fo) (y : Lf) (b : Fo) : Fo := .cons x a (.cons y b .nil)
/-- Operands with signs between them; the first is read. -/
def rowL (operand : Nat → Option Out) (sign : List UInt8 → Option Int) (xs : List S77) : Nat → Lf → Fo → Nat → Option Out
  | 0, _, _, _ => none
  | k + 1, x, a, p => match xs[p]? with
    | none => none
    | some t => if t.f0 = 3 then match sign t.f1.data.toList with
        | none => some (.ok x a p)
        | some f => match operand (p + 1) with
          | none => none
          | some (.bad e z) => some (.bad e z)
          | some (.ok y b q) => rowL operand sign xs k (callL f) (two x a y b) q
      else some (.ok x a p)
def rowF (operand : Nat → Option Out) (sign : List UInt8 → Option Int) (xs : List S77) (k : Nat) (p : Nat) : Option Out := match operand p with
  | none => none
  | some (.bad e z) => some (.bad e z)
  | some (.ok x a q) => rowL operand sign xs k x a q
def plusS (s : List UInt8) : Option Int := if s = [43] then some 24 else if s = [45] then some 25 else none
def timesS (s : List UInt8) : Option Int := if s = [42] then some 26 else if s = [47] then some 27 else none
/-- Arguments behind the first. -/
def argsL (operand : Nat → Option Out) (xs : List S77) : Nat → Fo → Nat → Option (Sum (Fo × Nat) (Int × Int))
  | 0, _, _ => none
  | k + 1, l, p => match isF xs p [44] with
    | none => none
    | some false => some (.inl (l, p))
    | some true => match operand (p + 1) with
      | none => none
      | some (.bad e z) => some (.inr (e, z))
      | some (.ok y b q) => argsL operand xs k (l.snoc y b) q
inductive Fn
  | sum
  | product
  | minus
  | power
  | atom
  | named
/-- What goes over a sign that must stand there. -/
def takeF (xs : List S77) (p : Nat) (s : List UInt8) : Option (Option Int) := match xs[p]? with
  | none => none
  | some t => if (decide (t.f0 = 3) && decide (t.f1.data.toList = s)) = true then some none else some (some t.f2)
def rdF (xs : List S77) : Nat → Fn → Nat → Nat → Option Out
  | 0, _, _, _ => none
  | k + 1, .sum, op, p => rowF (rdF xs k .product op) plusS xs k p
  | k + 1, .product, op, p => rowF (rdF xs k .minus op) timesS xs k p
  | k + 1, .minus, op, p => match isF xs p [45] with
    | none => none
    | some false => rdF xs k .power op p
    | some true => match deepF xs p op with
      | none => none
      | some (some z) => some (.bad 251 z)
      | some none => match rdF xs k .minus (op + 1) (p + 1) with
        | none => none
        | some (.bad e z) => some (.bad e z)
        | some (.ok y b q) => some (.ok (callL 1) (.cons y b .nil) q)
  | k + 1, .power, op, p => match rdF xs k .atom op p with
    | none => none
    | some (.bad e z) => some (.bad e z)
    | some (.ok x a q) => match isF xs q [94] with
      | none => none
      | some false => some (.ok x a q)
      | some true => match deepF xs q op with
        | none => none
        | some (some z) => some (.bad 251 z)
        | some none => match rdF xs k .minus (op + 1) (q + 1) with
          | none => none
          | some (.bad e z) => some (.bad e z)
          | some (.ok y b r) => some (.ok (callL 28) (two x a y b) r)
  | k + 1, .atom, op, p => match xs[p]? with
    | none => none
    | some t => if t.f0 = 1 then match numB t.f1 with
          | none => none
          | some b => some (.ok (numL t.f1 b) .nil (p + 1))
      else if t.f0 = 2 then rdF xs k .named op p
      else if (decide (t.f0 = 3) && decide (t.f1.data.toList = [91])) = true then none
      else if (decide (t.f0 = 3) && decide (t.f1.data.toList = [40])) = true then match deepF xs p op with
        | none => none
        | some (some z) => some (.bad 251 z)
        | some none => match rdF xs k .sum (op + 1) (p + 1) with
          | none => none
          | some (.bad e z) => some (.bad e z)
          | some (.ok x a q) => match takeF xs q [41] with
            | none => none
            | some (some z) => some (.bad 250 z)
            | some none => some (.ok x a (q + 1))
      else some (.bad 250 t.f2)
  | k + 1, .named, op, p => match xs[p]? with
    | none => none
    | some t => match X.parse_Find.f 40 t.f1 with
      | none => none
      | some (f, many, is) => match isF xs (p + 1) [40] with
        | none => none
        | some false => if is = true then some (.bad 252 t.f2) else some (.ok (nameL t.f1) .nil (p + 1))
        | some true => if is = true then match deepF xs (p + 1) op with
            | none => none
            | some (some z) => some (.bad 251 z)
            | some none => match rdF xs k .sum (op + 1) (p + 2) with
              | none => none
              | some (.bad e z) => some (.bad e z)
              | some (.ok x a q) => match argsL (rdF xs k .sum (op + 1)) xs k (.cons x a .nil) q with
                | none => none
                | some (.inr (e, z)) => some (.bad e z)
                | some (.inl (l, r)) => match takeF xs r [41] with
                  | none => none
                  | some (some z) => some (.bad 250 z)
                  | some none => if (l.len : Int) = many then some (.ok (callL f) l (r + 1)) else some (.bad 253 t.f2)
          else some (.bad 252 t.f2)
end Go.Proofs.YtinmbcomnjmmjaaGreatDoor
namespace Go.Proofs.YtinmbcomnjmmjaaGreatDoor
open Go.RowKit Go.Proofs.YtinmbcomnjmmjaaGreatDoorW.PrintWords Go.Proofs.YtinmbcomnjmmjaaGreatDoorW.PrintLast Go.Proofs.YtinmbcomnjmmjaaGreatDoorW.PrintMore
open X
theorem field77_0 (w : World) (a b c : Value) : (Instr.field 77 (.agg #[a, b, c]) 0).run Tryz.prog w = .ok a w := by kernel_rfl
theorem field77_1 (w : World) (a b c : Value) : (Instr.field 77 (.agg #[a, b, c]) 1).run Tryz.prog w = .ok b w := by kernel_rfl
theorem field77_2 (w : World) (a b c : Value) : (Instr.field 77 (.agg #[a, b, c]) 2).run Tryz.prog w = .ok c w := by kernel_rfl
attribute [local go_sem] st_float st_complex field77_0 field77_1 field77_2
def faultP (e z : Int) : List PanicEntry := [{ v := .iface 70 (.agg #[.int .i64 e, .int .i64 z]), recovered := false }]
theorem drew_below (w : World) : Below w.heap.size w w.drew := pw_below_drewN (Below.refl _ _) 1
theorem RdAt.open {w : World} {g B : Nat} {xs : List S77} {p op : Nat} {t : S77} (h : RdAt w g B xs p op) (ht : xs[p]? = some t) :
    ∃ ad c, w.cell? ⟨g, 0, none⟩ = some (.slice (some ad) xs.length c) ∧ w.cell? ⟨g, 1, none⟩ = some (.int .i64 (p : Int)) ∧ w.cell? ⟨g, 2, none⟩ = some (.int .i64 (op : Int)) ∧
      w.cell? (ad.add (p * 3)) = some (.int .i64 t.f0) ∧ w.cell? ⟨(ad.add (p * 3)).block, (ad.add (p * 3)).off + 1, none⟩ = some (.string t.f1) ∧ w.cell? ⟨(ad.add (p * 3)).block, (ad.add (p * 3)).off + 2, none⟩ = some (.int .i64 t.f2) := by
  obtain ⟨A, c, h0, h1, _⟩ := h
  have hne : xs ≠ [] := fun e => by rw [e] at ht; cases ht
  obtain ⟨ad, rfl, h3⟩ := h1 hne
  obtain ⟨k0, k1, k2⟩ := blk3 h0
  obtain ⟨a0, a1, a2⟩ := h3 p t ht
  exact ⟨ad, c, k0, k1, k2, a0, a1, a2⟩
theorem lt_of_some {xs : List S77} {p : Nat} {t : S77} (h : xs[p]? = some t) : p < xs.length := by
  rcases Nat.lt_or_ge p xs.length with h1 | h1
  · exact h1
  · rw [List.getElem?_eq_none h1] at h; cases h
set_option maxHeartbeats 2000000 in
set_option maxRecDepth 100000 in
/-- (*reader).here. -/
theorem here_calls {w : World} {g B : Nat} {xs : List S77} {p op : Nat} {t : S77} (h : RdAt w g B xs p op) (ht : xs[p]? = some t) :
    Calls Tryz.prog 65 #[pt g] w fun e w' => e = .returned (.agg #[.int .i64 t.f0, .string t.f1, .int .i64 t.f2]) ∧ Below w.heap.size w w' := by
  have hp := lt_of_some ht
  have HB1 := Aside0.mk (alloc_below w (.cells #[.int .i64 0, .string ⟨#[]⟩, .int .i64 0] 77))
  have h1 := h.below HB1.out
  have HBL := Aside0.mk (alloc_at w (.cells #[.int .i64 0, .string ⟨#[]⟩, .int .i64 0] 77))
  obtain ⟨ad, c, k0, k1, k2, a0, a1, a2⟩ := h1.open ht
  obtain ⟨l0, l1, l2⟩ := blk3 HBL.out
  have hfr := blk_frozen HBL.out
  have f0 := hfr 0; have f1 := hfr 1; have f2 := hfr 2
  clear h h1 ht hfr
  generalize hwa : w.alloc (.cells #[.int .i64 0, .string ⟨#[]⟩, .int .i64 0] 77) = wa at *
  have hsa : wa.heap.size = w.heap.size + 1 := by rw [← hwa, alloc_size]
  go_enter Tryz.func65, Tryz.ntmps65
  go_upto_region 1 with (fail)
  go_still_tail 10, (by kernel_rfl)
  change wpList _ _ _ _ _ wa.drew
  go_wp2_with fail
  refine bodyPost_ret (results_n rfl _ _ w.heap.size 77 #[.int .i64 t.f0, .string t.f1, .int .i64 t.f2] (0, 0) _ rfl (blk_put (blk_put (blk_put HBL.out 0 _ rfl) 1 _ rfl) 2 _ rfl) Tryz.underlying77 rfl (by kernel_rfl)) rfl ?_
  exact ⟨rfl, below_step (Turns.below HB1.out HB1.out.size (Nat.le_refl _) (((Turns.set _ w.heap.size 0 _).trans (Turns.set _ w.heap.size 1 _)).trans (Turns.set _ w.heap.size 2 _))) (drew_below _)⟩
set_option maxHeartbeats 2000000 in
set_option maxRecDepth 100000 in
/-- (*reader).is. -/
theorem is_calls {w : World} {g B : Nat} {xs : List S77} {p op : Nat} {s : ByteArray} {b : Bool} (h : RdAt w g B xs p op) (hb : isF xs p s.data.toList = some b) :
    Calls Tryz.prog 136 #[pt g, .string s] w fun e w' => e = .returned (.bool b) ∧ Below w.heap.size w w' := by
  unfold isF at hb
  rcases ht : xs[p]? with _ | t
  · rw [ht] at hb; cases hb
  · rw [ht] at hb
    have hb' : (decide (t.f0 = 3) && decide (t.f1.data.toList = s.data.toList)) = b := Option.some.inj hb
    have HT := Aside0.mk ht; have H0 := Aside0.mk h
    clear hb ht h
    by_cases h3 : t.f0 = 3
    · have hx3 : (t.f0 == 3) = true := by rw [h3]; rfl
      rw [decide_eq_true h3, Bool.true_and] at hb'
      have hx4 : (t.f1.toList == s.toList) = b := by
        rw [← hb', ByteArray.toList_eq, ByteArray.toList_eq]
        by_cases e : t.f1.data.toList = s.data.toList
        · rw [decide_eq_true e]; exact beq_iff_eq.2 e
        · rw [decide_eq_false e]; exact beq_eq_false_iff_ne.2 e
      clear hb' h3
      go_enter Tryz.func136, Tryz.ntmps136
      go_upto_region 1 with (fail)
      go_wp2_with (first
        | (go_at_call 65; have hflag := H0; clear hflag; (with_reducible refine (here_calls H0.out HT.out).mono ?_); rintro e w1 ⟨rfl, hb1⟩; have HB1 := Aside0.mk hb1; have H1 := Aside0.mk (H0.out.below hb1); clear hb1 H0)
        | (go_at_call 65; (with_reducible refine (here_calls H1.out HT.out).mono ?_); rintro e w2 ⟨rfl, hb2⟩; have HB2 := Aside0.mk (below_step HB1.out hb2); clear hb2))
      go_ret
      exact ⟨rfl, HB2.out⟩
    · have hx3 : (t.f0 == 3) = false := beq_eq_false_iff_ne.2 h3
      rw [decide_eq_false h3, Bool.false_and] at hb'
      subst hb'
      go_enter Tryz.func136, Tryz.ntmps136
      go_upto_region 1 with (fail)
      go_wp2_with (go_at_call 65; (with_reducible refine (here_calls H0.out HT.out).mono ?_); rintro e w1 ⟨rfl, hb1⟩; have HB1 := Aside0.mk hb1; clear hb1)
      go_ret
      exact ⟨rfl, HB1.out⟩
theorem isF_lt {xs : List S77} {p : Nat} {s : List UInt8} {b : Bool} (h : isF xs p s = some b) : p < xs.length := by
  unfold isF at h
  rcases ht : xs[p]? with _ | t
  · rw [ht] at h; cases h
  · exact lt_of_some ht
set_option maxHeartbeats 2000000 in
set_option maxRecDepth 100000 in
/-- (*reader).take, of the sign that stands there. -/
theorem take_ok {w : World} {g B : Nat} {xs : List S77} {p op : Nat} {s : ByteArray} (h : RdAt w g B xs p op) (hb : isF xs p s.data.toList = some true) :
    Calls Tryz.prog 214 #[pt g, .string s] w fun e w' => e = .returned (.tuple #[]) ∧ RdAt w' g B xs (p + 1) op ∧ Turns g w w' := by
  have hp := isF_lt hb
  have HP : Aside0 (p + 1 ≤ xs.length) := ⟨hp⟩
  have hlx : p ≤ 65536 := by obtain ⟨A, c, h0, h1, h2, h3, hB, h4, h5, h6, h7, h8⟩ := h; omega
  have H0 := Aside0.mk h; have HI := Aside0.mk hb
  clear h hb hp
  go_enter Tryz.func214, Tryz.ntmps214
  go_wp2_with ((go_at_call 136; (with_reducible refine (is_calls H0.out HI.out).mono ?_); rintro e w1 ⟨rfl, hb1⟩; have HB1 := Aside0.mk hb1; have H1 := Aside0.mk (H0.out.below hb1); obtain ⟨A, c, h0, _⟩ := H1.out; obtain ⟨k0, k1, k2⟩ := blk3 h0; have hfr := blk_frozen h0 1; clear hb1 h0))
  go_end0
  exact ⟨rfl, H1.out.step HP.out, (Turns.of_below HB1.out).trans (setCell_turns _ g 1 _)⟩
set_option maxHeartbeats 2000000 in
set_option maxRecDepth 100000 in
/-- (*reader).take, of a sign that does not stand there. -/
theorem take_bad {w : World} {g B : Nat} {xs : List S77} {p op : Nat} {s : ByteArray} {t : S77} (h : RdAt w g B xs p op) (hb : isF xs p s.data.toList = some false) (ht : xs[p]? = some t) :
    Calls Tryz.prog 214 #[pt g, .string s] w fun e w' => e = .panicked (faultP 250 t.f2) ∧ Below w.heap.size w w' := by
  have H0 := Aside0.mk h; have HI := Aside0.mk hb; have HT := Aside0.mk ht
  clear h hb ht
  go_enter Tryz.func214, Tryz.ntmps214
  go_wp2_with (first
    | (go_at_call 136; (with_reducible refine (is_calls H0.out HI.out).mono ?_); rintro e w1 ⟨rfl, hb1⟩; have HB1 := Aside0.mk hb1; have H1 := Aside0.mk (H0.out.below hb1); clear hb1)
    | (go_at_call 65; (with_reducible refine (here_calls H1.out HT.out).mono ?_); rintro e w2 ⟨rfl, hb2⟩; have HB2 := Aside0.mk (below_step HB1.out hb2); clear hb2))
  exact ⟨rfl, rfl, HB2.out⟩
set_option maxHeartbeats 2000000 in
set_option maxRecDepth 100000 in
/-- (*reader).deeper. -/
theorem deeper_ok {w : World} {g B : Nat} {xs : List S77} {p op : Nat} (h : RdAt w g B xs p op) (hp : p < xs.length) (ho : op + 1 ≤ 256) :
    Calls Tryz.prog 138 #[pt g] w fun e w' => e = .returned (.tuple #[]) ∧ RdAt w' g B xs (p + 1) (op + 1) ∧ Turns g w w' := by
  have hlx : p ≤ 65536 := by obtain ⟨A, c, h0, h1, h2, h3, hB, h4, h5, h6, h7, h8⟩ := h; omega
  have HP : Aside0 (p + 1 ≤ xs.length) := ⟨hp⟩
  have HO : Aside0 (((op : Nat) : Int) + 1 = ((op + 1 : Nat) : Int) ∧ op + 1 ≤ 257) := ⟨by omega, by omega⟩
  have H0 := Aside0.mk h
  obtain ⟨A, c, h0, _⟩ := h
  obtain ⟨k0, k1, k2⟩ := blk3 h0
  have hfr := blk_frozen h0; have f1 := hfr 1; have f2 := hfr 2
  clear h0 hp hfr
  go_enter Tryz.func138, Tryz.ntmps138
  go_wp2_with fail
  go_end0
  exact ⟨rfl, (H0.out.open' HO.out.2 HO.out.1).step HP.out, (setCell_turns _ g 2 _).trans (setCell_turns _ g 1 _)⟩
set_option maxHeartbeats 2000000 in
set_option maxRecDepth 100000 in
/-- (*reader).deeper, of too much. -/
theorem deeper_bad {w : World} {g B : Nat} {xs : List S77} {p op : Nat} {t : S77} (h : RdAt w g B xs p op) (ht : xs[p]? = some t) (ho : op = 256) :
    Calls Tryz.prog 138 #[pt g] w fun e w' => e = .panicked (faultP 251 t.f2) ∧ Turns g w w' := by
  subst ho
  have H1 := Aside0.mk (h.open' (q := 257) (z := 257) (Nat.le_refl _) rfl)
  have HT := Aside0.mk ht
  obtain ⟨A, c, h0, _⟩ := h
  obtain ⟨k0, k1, k2⟩ := blk3 h0
  have hfr := blk_frozen h0; have f2 := hfr 2
  clear h0 ht hfr
  go_enter Tryz.func138, Tryz.ntmps138
  go_wp2_with (go_at_call 65; (with_reducible refine (here_calls H1.out HT.out).mono ?_); rintro e w2 ⟨rfl, hb2⟩; have HB2 := Aside0.mk ((setCell_turns w g 2 (.int .i64 257)).trans (Turns.of_below hb2)); clear hb2)
  exact ⟨rfl, rfl, HB2.out⟩
set_option maxHeartbeats 2000000 in
set_option maxRecDepth 100000 in
/-- parse.call. -/
theorem call_calls (w : World) (f : Int) (A : Option Addr) (n c : Nat) :
    Calls Tryz.prog 113 #[.int .i64 f, .slice A n c] w fun e w' => e = .returned (.agg #[.int .i64 4, .int .i64 f, .string noText, .string noText, .complex .f64 0 0, .float .f64 0, .slice A n c]) ∧ Below w.heap.size w w' := by
  go_enter Tryz.func113, Tryz.ntmps113
  go_wp2_with fail
  refine bodyPost_ret (results_n rfl _ _ w.heap.size 28 #[.int .i64 4, .int .i64 f, .string noText, .string noText, .complex .f64 0 0, .float .f64 0, .slice A n c] (0, 0) _ rfl (alloc_at w _) Tryz.underlying28 rfl (by kernel_rfl)) rfl ?_
  exact ⟨rfl, alloc_below w _⟩
end Go.Proofs.YtinmbcomnjmmjaaGreatDoor
namespace Go.Proofs.YtinmbcomnjmmjaaGreatDoor
open Go.RowKit Go.Proofs.YtinmbcomnjmmjaaGreatDoorW.PrintWords Go.Proofs.YtinmbcomnjmmjaaGreatDoorW.PrintLast Go.Proofs.YtinmbcomnjmmjaaGreatDoorW.PrintMore
open X
theorem run53 (b : Nat) (w : World) : (callFunc 53 #[.float .f64 b]).run Tryz.prog w = .ok (.value (.int .u64 b)) w := by
  rw [run_callFunc_extern (e := Extern.MathFloatBits.float64bits) Tryz.func53 (by kernel_rfl) (by kernel_rfl) (by kernel_rfl) (by kernel_rfl)]; rfl
theorem run101 (b : Int) (w : World) : (callFunc 101 #[.int .u64 b]).run Tryz.prog w = .ok (.value (.float .f64 b.toNat)) w := by
  rw [run_callFunc_extern (e := Extern.MathFloatBits.float64frombits) Tryz.func101 (by kernel_rfl) (by kernel_rfl) (by kernel_rfl) (by kernel_rfl)]; rfl
/-- Bits of a float that is a number. -/
def IsNum (b : Nat) : Prop := b % 9223372036854775808 < 9218868437227405312
theorem IsNum.read {b : Nat} (h : IsNum b) : ∃ s m e, FloatKind.f64.format.read b = .number s m e := by
  unfold IsNum at h
  have e1 : FloatKind.f64.format.signWeight = 9223372036854775808 := by decide
  have e2 : FloatKind.f64.format.infRung = 9218868437227405312 := by decide
  unfold Ieee.Format.read
  simp only [e1, e2]
  split
  · exact ⟨_, _, _, rfl⟩
  · exact ⟨_, _, _, rfl⟩
/-- The product of floats. -/
def mulB (x y : Nat) : Nat := (FloatKind.f64.format.mul x y).getD 0
theorem mul_some {x y : Nat} (hx : IsNum x) (hy : IsNum y) : floatBits .mul .f64 x y = some (mulB x y) := by
  obtain ⟨s, m, e, h1⟩ := hx.read
  obtain ⟨s', m', e', h2⟩ := hy.read
  unfold mulB floatBits Ieee.Format.mul
  simp only [h1, h2, Ieee.Datum.product, Option.map_some, Option.getD_some]
def absB (b : Nat) : Nat := (bits .andNot .u64 (b : Int) 9223372036854775808).toNat
def ltB (x y : Nat) : Bool := FloatKind.f64.format.order x y == some .lt
def gtB (x y : Nat) : Bool := FloatKind.f64.format.order x y == some .gt
def eqB (x y : Nat) : Bool := FloatKind.f64.format.order x y == some .eq
def nanB (b : Nat) : Bool := FloatKind.f64.format.order b b != some .eq
def infB (b : Nat) : Bool := gtB (absB b) 9218868437227405311
def csB (a b : Nat) : Nat := (bits .or .u64 (bits .andNot .u64 (a : Int) 9223372036854775808) (bits .and .u64 (b : Int) 9223372036854775808)).toNat
theorem fabs_calls (b : Nat) (w : World) : Calls Tryz.prog 148 #[.float .f64 b] w fun e w' => e = .returned (.float .f64 (absB b)) ∧ w' = w := by
  have r53 := run53
  have r101 := run101
  go_enter Tryz.func148, Tryz.ntmps148
  go_wp2
  go_ret
  exact ⟨rfl, rfl⟩
theorem isnan_calls (b : Nat) (w : World) : Calls Tryz.prog 149 #[.float .f64 b] w fun e w' => e = .returned (.bool (nanB b)) ∧ w' = w := by
  go_enter Tryz.func149, Tryz.ntmps149
  go_wp2
  go_ret
  exact ⟨rfl, rfl⟩
theorem signbit_calls (b : Nat) (w : World) : Calls Tryz.prog 47 #[.float .f64 b] w fun e w' => e = .returned (.bool (decide (wrap64 (b : Int) < 0))) ∧ w' = w := by
  have r53 := run53
  go_enter Tryz.func47, Tryz.ntmps47
  go_wp2
  go_ret
  exact ⟨rfl, rfl⟩
theorem cs_calls (a b : Nat) (w : World) : Calls Tryz.prog 177 #[.float .f64 a, .float .f64 b] w fun e w' => e = .returned (.float .f64 (csB a b)) ∧ w' = w := by
  have r53 := run53
  have r101 := run101
  go_enter Tryz.func177, Tryz.ntmps177
  go_wp2
  go_ret
  exact ⟨rfl, rfl⟩
theorem isinf_calls (b : Nat) (w : World) : Calls Tryz.prog 123 #[.float .f64 b, .int .i64 0] w fun e w' => e = .returned (.bool (infB b)) ∧ w' = w := by
  go_enter Tryz.func123, Tryz.ntmps123
  go_wp2_with (go_at_call 148; refine (fabs_calls _ _).mono ?_; rintro e w ⟨rfl, rfl⟩)
  go_ret
  exact ⟨rfl, rfl⟩
theorem inf_calls (w : World) : Calls Tryz.prog 78 #[.int .i64 1] w fun e w' => e = .returned (.float .f64 9218868437227405312) ∧ w' = w := by
  have r101 := run101
  go_enter Tryz.func78, Tryz.ntmps78
  go_wp2
  go_ret
  exact ⟨rfl, rfl⟩
theorem ninf_calls (w : World) : Calls Tryz.prog 78 #[.int .i64 (-1)] w fun e w' => e = .returned (.float .f64 18442240474082181120) ∧ w' = w := by
  have r101 := run101
  go_enter Tryz.func78, Tryz.ntmps78
  go_wp2
  go_ret
  exact ⟨rfl, rfl⟩
end Go.Proofs.YtinmbcomnjmmjaaGreatDoor
namespace Go.Proofs.YtinmbcomnjmmjaaGreatDoor
open Go.RowKit Go.Proofs.YtinmbcomnjmmjaaGreatDoorW.PrintWords Go.Proofs.YtinmbcomnjmmjaaGreatDoorW.PrintLast Go.Proofs.YtinmbcomnjmmjaaGreatDoorW.PrintMore
open X
def normB (f : Nat) : Nat × Int := if ltB (absB f) 4503599627370496 then (mulB f 4841369599423283200, -52) else (f, 0)
theorem isnum_c1 : IsNum 4841369599423283200 := by unfold IsNum; decide
theorem norm_calls (f : Nat) (hN : IsNum f) (w : World) : Calls Tryz.prog 297 #[.float .f64 f] w fun e w' => e = .returned (.tuple #[.float .f64 (normB f).1, .int .i64 (normB f).2]) ∧ w' = w := by
  have hm := fun (w : World) => run_float_arith (P := Tryz.prog) w .mul 23 .f64 f 4841369599423283200 _ (mul_some hN isnum_c1)
  by_cases h : ltB (absB f) 4503599627370496 = true
  · have e : normB f = (mulB f 4841369599423283200, -52) := by unfold normB; rw [if_pos h]
    have HE := Aside0.mk e
    have h' : (FloatKind.f64.format.order (absB f) 4503599627370496 == some .lt) = true := h
    clear e h
    go_enter Tryz.func297, Tryz.ntmps297
    go_wp2_with (go_at_call 148; refine (fabs_calls _ _).mono ?_; rintro e w ⟨rfl, rfl⟩)
    go_ret2
    exact ⟨by rw [HE.out]; rfl, rfl⟩
  · have e : normB f = (f, 0) := by unfold normB; rw [if_neg h]
    have HE := Aside0.mk e
    have h' : (FloatKind.f64.format.order (absB f) 4503599627370496 == some .lt) = false := by simpa [ltB] using h
    clear e h
    go_enter Tryz.func297, Tryz.ntmps297
    go_wp2_with (go_at_call 148; refine (fabs_calls _ _).mono ?_; rintro e w ⟨rfl, rfl⟩)
    go_ret2
    exact ⟨by rw [HE.out]; rfl, rfl⟩
theorem IsNum.notNaN {f : Nat} (h : IsNum f) : nanB f = false := by
  obtain ⟨s, m, e, hr⟩ := h.read
  unfold nanB Ieee.Format.order
  rw [hr]
  simp [Ieee.Datum.order]
/-- The exponent of a float's bits. -/
def expB (x : Nat) : Int := ((x / 4503599627370496 % 2048 : Nat) : Int) - 1023
theorem expB_bits {x : Nat} (hx : x < 18446744073709551616) : bits .and .i64 ((x : Int) / 4503599627370496) 2047 = ((x / 4503599627370496 % 2048 : Nat) : Int) := by
  have := bits_mask .i64 63 (by decide) (fun n h0 h1 => by rw [IntKind.wrap_i64]; omega) 11 (by decide) ((x : Int) / 4503599627370496) (by omega) (by omega)
  rw [show (2 : Int) ^ 11 - 1 = 2047 from rfl] at this
  rw [this]; omega
/-- A float's bits with another exponent. -/
def putB (x : Nat) (e : Int) : Nat := (bits .or .u64 (bits .andNot .u64 (x : Int) 9218868437227405312) ((e + 1023) * 4503599627370496)).toNat
theorem andNot_nat (a b : Nat) (ha : a < 18446744073709551616) (hb : b < 18446744073709551616) : bits .andNot .u64 (a : Int) (b : Int) = ((a &&& (18446744073709551615 - b) : Nat) : Int) := by
  have h1 : a &&& (18446744073709551615 - b) ≤ a := Nat.and_le_left
  have e1 : a % 2 ^ IntKind.u64.bits = a := Nat.mod_eq_of_lt ha
  have e2 : b % 2 ^ IntKind.u64.bits = b := Nat.mod_eq_of_lt hb
  simp only [bits, BitVec.ofInt_natCast, BitVec.toNat_and, BitVec.toNat_ofNat, BitVec.toNat_not, e1, e2]
  rw [show 2 ^ IntKind.u64.bits - 1 - b = 18446744073709551615 - b from rfl]
  exact u64_id (by omega) (by omega)
theorem isnum_put {x : Nat} (hx : x < 18446744073709551616) {e : Int} (h0 : -1022 ≤ e) (h1 : e ≤ 1023) : IsNum (putB x e) := by
  obtain ⟨E, hE⟩ : ∃ E : Nat, e + 1023 = (E : Int) := ⟨(e + 1023).toNat, by omega⟩
  have hE1 : E ≤ 2046 := by omega
  have e2 : (E : Int) * 4503599627370496 = ((E * 4503599627370496 : Nat) : Int) := by omega
  unfold IsNum putB
  rw [hE, e2, show (9218868437227405312 : Int) = ((9218868437227405312 : Nat) : Int) from rfl, andNot_nat _ _ hx (by decide)]
  have h3 : x &&& (18446744073709551615 - 9218868437227405312) < 18446744073709551616 := Nat.lt_of_le_of_lt Nat.and_le_left hx
  rw [(bits_nat .u64 64 (by decide) (fun n h0 h1 => u64_id h0 (by omega)) _ (E * 4503599627370496) h3 (by omega)).2, Int.toNat_natCast]
  have e4 : ((x &&& (18446744073709551615 - 9218868437227405312)) ||| E * 4503599627370496) / 4503599627370496 % 2048 = E := by
    have s1 : ∀ n : Nat, n / 4503599627370496 = n >>> 52 := fun n => by rw [Nat.shiftRight_eq_div_pow]
    rw [s1, Nat.shiftRight_or_distrib, Nat.shiftRight_and_distrib, show (2048 : Nat) = 2 ^ 11 from rfl, Nat.or_mod_two_pow, Nat.and_mod_two_pow, ← s1 (E * 4503599627370496), Nat.mul_div_cancel _ (by decide)]
    have z : (18446744073709551615 - 9218868437227405312) >>> 52 % 2 ^ 11 = 0 := by decide
    rw [z, Nat.and_zero, Nat.zero_or, Nat.mod_eq_of_lt (by omega)]
  omega
/-- f times 2 to the e. -/
def ldexpB (f : Nat) (e : Int) : Nat :=
  if eqB f 0 then f
  else if infB f then f
  else
    if e + (normB f).2 + expB (normB f).1 < -1075 then csB 0 (normB f).1
    else if 1023 < e + (normB f).2 + expB (normB f).1 then (if ltB (normB f).1 0 then 18442240474082181120 else 9218868437227405312)
    else if e + (normB f).2 + expB (normB f).1 < -1022 then mulB 4368491638549381120 (putB (normB f).1 (e + (normB f).2 + expB (normB f).1 + 53))
    else mulB 4607182418800017408 (putB (normB f).1 (e + (normB f).2 + expB (normB f).1))
theorem expB_bound (x : Nat) : -1023 ≤ expB x ∧ expB x ≤ 1024 := by unfold expB; omega
theorem mulB_lt {x y : Nat} : mulB x y < 18446744073709551616 := by
  unfold mulB
  cases h : FloatKind.f64.format.mul x y with
  | none => decide
  | some r => exact Ieee.Format.mul_lt _ h
theorem normB_lt {f : Nat} (hf : f < 18446744073709551616) : (normB f).1 < 18446744073709551616 := by
  unfold normB; split
  · exact mulB_lt
  · exact hf
theorem normB_e (f : Nat) : (normB f).2 = -52 ∨ (normB f).2 = 0 := by unfold normB; split <;> simp
set_option maxHeartbeats 2000000 in
set_option maxRecDepth 100000 in
theorem ldexp_calls (f : Nat) (e : Int) (hN : IsNum f) (hf : f < 18446744073709551616) (he0 : -100000000 ≤ e) (he1 : e ≤ 100000000) (w : World) : Calls Tryz.prog 272 #[.float .f64 f, .int .i64 e] w fun e' w' => e' = .returned (.float .f64 (ldexpB f e)) ∧ w' = w := by
  have r53 := run53
  have r101 := run101
  have HN := Aside0.mk hN
  have HNN := Aside0.mk hN.notNaN
  by_cases c0 : eqB f 0 = true
  · have c0' : (FloatKind.f64.format.order f 0 == some .eq) = true := c0
    have HE : Aside0 (ldexpB f e = f) := ⟨by unfold ldexpB; rw [if_pos c0]⟩
    clear c0
    go_enter Tryz.func272, Tryz.ntmps272
    go_wp2
    go_ret
    exact ⟨by rw [HE.out]; rfl, rfl⟩
  have c0' : (FloatKind.f64.format.order f 0 == some .eq) = false := by simpa [eqB] using c0
  by_cases c1 : infB f = true
  · have HE : Aside0 (ldexpB f e = f) := ⟨by unfold ldexpB; rw [if_neg c0, if_pos c1]⟩
    clear c0
    go_enter Tryz.func272, Tryz.ntmps272
    go_wp2_with (go_at_call 123; refine (isinf_calls _ _).mono ?_; rintro e' w ⟨rfl, rfl⟩; rw [c1])
    go_ret
    exact ⟨by rw [HE.out]; rfl, rfl⟩
  have c1' : infB f = false := by simpa using c1
  have HL : Aside0 (ldexpB f e = if e + (normB f).2 + expB (normB f).1 < -1075 then csB 0 (normB f).1
    else if 1023 < e + (normB f).2 + expB (normB f).1 then (if ltB (normB f).1 0 then 18442240474082181120 else 9218868437227405312)
    else if e + (normB f).2 + expB (normB f).1 < -1022 then mulB 4368491638549381120 (putB (normB f).1 (e + (normB f).2 + expB (normB f).1 + 53))
    else mulB 4607182418800017408 (putB (normB f).1 (e + (normB f).2 + expB (normB f).1))) := ⟨by unfold ldexpB; rw [if_neg c0, if_neg c1]⟩
  have hd := normB_e f
  have hx := normB_lt hf
  generalize hg : (normB f).1 = g at *
  generalize hgd : (normB f).2 = d at *
  have HG : Aside0 (normB f = (g, d)) := ⟨by rw [← hg, ← hgd]⟩
  have hb := expB_bits hx
  have hbe := expB_bound g
  have hE : ((g / 4503599627370496 % 2048 : Nat) : Int) = expB g + 1023 := by unfold expB; omega
  rw [hE] at hb
  clear hE c0 c1 hg hgd hf hN
  generalize expB g = E at *
  obtain ⟨S, hS⟩ : ∃ S, e + d + E = S := ⟨_, rfl⟩
  rw [hS] at HL
  have hS1 : -200000000 ≤ S := by omega
  have hS2 : S ≤ 200000000 := by omega
  go_enter Tryz.func272, Tryz.ntmps272
  go_upto_region 9 with (first
    | (go_at_call 123; refine (isinf_calls _ _).mono ?_; rintro e' w ⟨rfl, rfl⟩; rw [c1'])
    | (go_at_call 149; refine (isnan_calls _ _).mono ?_; rintro e' w ⟨rfl, rfl⟩; rw [HNN.out])
    | (go_at_call 297; refine (norm_calls _ HN.out _).mono ?_; rintro e' w ⟨rfl, rfl⟩; rw [HG.out]))
  by_cases s1 : S < -1075
  · rw [if_pos s1] at HL
    go_wp2_with (go_at_call 177; refine (cs_calls _ _ _).mono ?_; rintro e' w ⟨rfl, rfl⟩)
    go_ret
    exact ⟨by rw [HL.out]; rfl, rfl⟩
  by_cases s2 : 1023 < S
  · rw [if_neg s1, if_pos s2] at HL
    by_cases s3 : ltB g 0 = true
    · rw [if_pos s3] at HL
      have s3' : (FloatKind.f64.format.order g 0 == some .lt) = true := s3
      go_wp2_with (go_at_call 78; refine (ninf_calls _).mono ?_; rintro e' w ⟨rfl, rfl⟩)
      go_ret
      exact ⟨by rw [HL.out]; rfl, rfl⟩
    · rw [if_neg s3] at HL
      have s3' : (FloatKind.f64.format.order g 0 == some .lt) = false := by simpa [ltB] using s3
      go_wp2_with (go_at_call 78; refine (inf_calls _).mono ?_; rintro e' w ⟨rfl, rfl⟩)
      go_ret
      exact ⟨by rw [HL.out]; rfl, rfl⟩
  by_cases s4 : S < -1022
  · rw [if_neg s1, if_neg s2, if_pos s4] at HL
    have hm := fun (w : World) => run_float_arith (P := Tryz.prog) w .mul 23 .f64 4368491638549381120 _ _ (mul_some (by unfold IsNum; decide) (isnum_put (e := S + 53) hx (by omega) (by omega)))
    unfold putB at hm
    go_wp2
    go_ret
    exact ⟨by rw [HL.out]; rfl, rfl⟩
  · rw [if_neg s1, if_neg s2, if_neg s4] at HL
    have hm := fun (w : World) => run_float_arith (P := Tryz.prog) w .mul 23 .f64 4607182418800017408 _ _ (mul_some (by unfold IsNum; decide) (isnum_put (e := S) hx (by omega) (by omega)))
    unfold putB at hm
    go_wp2
    go_ret
    exact ⟨by rw [HL.out]; rfl, rfl⟩
/-- math.Ldexp. -/
theorem Ldexp_calls (f : Nat) (e : Int) (hN : IsNum f) (hf : f < 18446744073709551616) (he0 : -100000000 ≤ e) (he1 : e ≤ 100000000) (w : World) : Calls Tryz.prog 242 #[.float .f64 f, .int .i64 e] w fun e' w' => e' = .returned (.float .f64 (ldexpB f e)) ∧ w' = w := by
  have HN := Aside0.mk hN
  clear hN
  go_enter Tryz.func242, Tryz.ntmps242
  go_wp2_with (go_at_call 272; refine (ldexp_calls _ _ HN.out hf he0 he1 _).mono ?_; rintro e' w ⟨rfl, rfl⟩)
  go_ret
  exact ⟨rfl, rfl⟩
theorem nearest_lt (N : Nat) (h : N < 1152921504606846976) (s : Bool) : IsNum (FloatKind.f64.format.nearest s N 0) := by
  have e1 : FloatKind.f64.format.infRung = 9218868437227405312 := by decide
  have e2 : FloatKind.f64.format.leastPlace = -1074 := by decide
  have e3 : FloatKind.f64.format.binade = 4503599627370496 := by decide
  have e4 : FloatKind.f64.format.signWeight = 9223372036854775808 := by decide
  have e5 : FloatKind.f64.format.fractionBits = 52 := by decide
  have hw : ∀ r : Nat, r < 9218868437227405312 → IsNum (FloatKind.f64.format.word s r) := by
    intro r hr
    unfold IsNum Ieee.Format.word
    rw [e4]
    cases s
    · simp; omega
    · simp; omega
  unfold Ieee.Format.nearest
  rw [e1, e2, e3, e5]
  by_cases h0 : N = 0
  · rw [if_pos h0]; exact hw 0 (by decide)
  · rw [if_neg h0]
    refine hw _ ?_
    have hl := Nat.log2_lt (n := N) (k := 60) h0
    have hl1 : N.log2 < 60 := hl.2 (by omega)
    have hN : N < 2 ^ (N.log2 + 1) := Nat.lt_log2_self
    obtain ⟨last, hlast⟩ : ∃ last, max (0 + (N.log2 : Int) - (52 : Nat)) (-1074) = last := ⟨_, rfl⟩
    simp only [hlast]
    have b1 : last ≤ 7 := by omega
    have b2 : -1074 ≤ last := by omega
    have hk : Ieee.Toward.even.cut s (N <<< (0 - last).toNat) (last - 0).toNat ≤ 1152921504606846977 := by
      by_cases hp : last ≤ 0
      · have z : (last - 0).toNat = 0 := by omega
        rw [z]
        unfold Ieee.Toward.cut
        have hsh : N <<< (0 - last).toNat < 2 ^ 53 := by
          rw [Nat.shiftLeft_eq]
          have : 2 ^ (N.log2 + 1) * 2 ^ (0 - last).toNat ≤ 2 ^ 53 := by
            rw [← Nat.pow_add]
            exact Nat.pow_le_pow_right (by decide) (by omega)
          exact Nat.lt_of_lt_of_le (Nat.mul_lt_mul_of_pos_right hN (Nat.pow_pos (by decide))) this
        generalize N <<< (0 - last).toNat = n at *
        simp only [Nat.zero_min, Nat.shiftLeft_zero, Nat.div_one, Nat.mod_one]
        have := Bool.toNat_le (decide ((1 : Nat) < 2 * 0) || (1 == 2 * 0 && n % 2 == 1))
        omega
      · have z : (0 - last).toNat = 0 := by omega
        rw [z, Nat.shiftLeft_zero]
        unfold Ieee.Toward.cut
        generalize (1 <<< min (last - 0).toNat (N.log2 + 2)) = gap
        have h1 : N / gap ≤ N := Nat.div_le_self _ _
        have := Bool.toNat_le (decide (gap < 2 * (N % gap)) || (gap == 2 * (N % gap) && N / gap % 2 == 1))
        simp only
        omega
    have h3 : (last - -1074).toNat ≤ 1081 := by clear hk hN hl hlast; omega
    have h4 : (last - -1074).toNat * 4503599627370496 ≤ 1081 * 4503599627370496 := Nat.mul_le_mul_right _ h3
    exact Nat.lt_of_le_of_lt (Nat.min_le_left _ _) (Nat.lt_of_le_of_lt (Nat.add_le_add h4 hk) (by decide))
/-- A whole number, as a float. -/
def ofU (m : Nat) : Nat := floatOfInt .f64 ((m % 18446744073709551616 : Nat) : Int)
theorem ofU_num {m : Nat} (h : m < 1152921504606846976) : IsNum (ofU m) ∧ ofU m < 18446744073709551616 := by
  constructor
  · unfold ofU
    rw [Nat.mod_eq_of_lt (by omega)]
    exact nearest_lt m h (decide ((m : Int) < 0))
  · have := floatOfInt_wf .f64 ((m % 18446744073709551616 : Nat) : Int)
    simpa [Lit.wf, ofU] using this
end Go.Proofs.YtinmbcomnjmmjaaGreatDoor
