/- Proved: a part of what the statement on the names of parse needs: walks of functions of the program, and plain laws. (Texts Ea.) -/
import Derived.Test.YtinmbcomnjmmjaaGreatDoorQ22
import Derived.Test.YtinmbcomnjmmjaaGreatDoorQ19
namespace Go.Proofs.YtinmbcomnjmmjaaGreatDoor
open Go.RowKit Go.Proofs.YtinmbcomnjmmjaaGreatDoorW.PrintWords Go.Proofs.YtinmbcomnjmmjaaGreatDoorW.PrintLast Go.Proofs.YtinmbcomnjmmjaaGreatDoorW.PrintMore
open X
theorem results_n {P : Program} {fn : Func} {p : Tmp} {ty : TypeId} (h : fn.results = #[.cell p ty]) (tmps : Array Value) (w : World) (g : Nat) (t : TypeId) (cs : Array Value) (fr : Nat × Nat) (d : TypeDesc)
    (hp : tmps.getD p undef = .pointer (some ⟨g, 0, none⟩)) (hg : w.heap[g]? = some (.cells cs t fr))
    (hu : P.underlying ty = some d) (hd : (match d with | .struct _ | .array _ _ => true | _ => false) = true) (hi : (P.info? ty).map (·.size) = some cs.size) :
    (results fn tmps).run P w = .ok (.agg cs) w := by
  have hp' : tmps[p]?.getD undef = .pointer (some ⟨g, 0, none⟩) := by simpa using hp
  simp [results, h, hp', asAddr, run_loadVar_row w g t ty cs fr d hg hu hd hi]
theorem st_float (P : Program) (w : World) (a : Addr) (m : Mode) (k : FloatKind) (n : Nat) : (store a (.float k n) m).run P w = stored P w a (.float k n) m := run_store P w a _ m rfl
theorem st_complex (P : Program) (w : World) (a : Addr) (m : Mode) (k : FloatKind) (n i : Nat) : (store a (.complex k n i) m).run P w = stored P w a (.complex k n i) m := run_store P w a _ m rfl
/-- What a node bears beside its arguments. -/
structure Lf where
  k : Int
  f : Int
  nm : ByteArray
  tx : ByteArray
  re : Nat
  im : Nat
  rad : Nat
/-- A row of trees. -/
inductive Fo
  | nil
  | cons (x : Lf) (args next : Fo)
def Fo.len : Fo → Nat
  | .nil => 0
  | .cons _ _ n => n.len + 1
def Fo.depth : Fo → Nat
  | .nil => 0
  | .cons _ a n => max (a.depth + 1) n.depth
def Fo.count : Fo → Nat
  | .nil => 0
  | .cons _ a n => a.count + 1 + n.count
def Fo.snoc : Fo → Lf → Fo → Fo
  | .nil, y, b => .cons y b .nil
  | .cons x a n, y, b => .cons x a (n.snoc y b)
theorem Fo.snoc_len (l : Fo) (y : Lf) (b : Fo) : (l.snoc y b).len = l.len + 1 := by
  induction l with
  | nil => rfl
  | cons x a n _ ih => simp only [Fo.snoc, Fo.len, ih]
def Lf.val (x : Lf) (v : Value) : Value := .agg #[.int .i64 x.k, .int .i64 x.f, .string x.nm, .string x.tx, .complex .f64 x.re x.im, .float .f64 x.rad, v]
/-- A node's seven cells. -/
def LfAt (w : World) (p : Addr) (x : Lf) (v : Value) : Prop :=
  w.cell? p = some (.int .i64 x.k) ∧ w.cell? ⟨p.block, p.off + 1, none⟩ = some (.int .i64 x.f) ∧ w.cell? ⟨p.block, p.off + 2, none⟩ = some (.string x.nm) ∧ w.cell? ⟨p.block, p.off + 3, none⟩ = some (.string x.tx) ∧
  w.cell? ⟨p.block, p.off + 4, none⟩ = some (.complex .f64 x.re x.im) ∧ w.cell? ⟨p.block, p.off + 5, none⟩ = some (.float .f64 x.rad) ∧ w.cell? ⟨p.block, p.off + 6, none⟩ = some v
/-- A row of trees in memory, all of it in blocks from lo on. -/
def FoAt (w : World) (lo : Nat) : Option Addr → Nat → Fo → Prop
  | _, _, .nil => True
  | A, i, .cons x a n => (∃ ad A' c', A = some ad ∧ lo ≤ ad.block ∧ a.len ≤ c' ∧ LfAt w (ad.add (i * 7)) x (.slice A' a.len c') ∧ FoAt w lo A' 0 a) ∧ FoAt w lo A (i + 1) n
/-- A value that is a tree. -/
def NodeV (w : World) (lo : Nat) (v : Value) (x : Lf) (a : Fo) : Prop := ∃ A c, v = x.val (.slice A a.len c) ∧ a.len ≤ c ∧ FoAt w lo A 0 a
theorem add_block (ad : Addr) (i : Nat) : (ad.add i).block = ad.block := by
  unfold Addr.add; repeat' (first | rfl | split)
theorem cell_turn2 {w w1 : World} {g : Nat} {a : Addr} {v : Value} (hc : w.cell? a = some v) (ht : Turns g w w1) (hn : a.block ≠ g) : w1.cell? a = some v := by
  have := ht.block (World.block_lt_of_cell? w a hc) hn
  unfold World.cell? at hc ⊢
  rw [this]; exact hc
theorem LfAt.below {w w1 : World} {p : Addr} {x : Lf} {v : Value} (h : LfAt w p x v) (hb : Below w.heap.size w w1) : LfAt w1 p x v := by
  obtain ⟨a0, a1, a2, a3, a4, a5, a6⟩ := h
  exact ⟨pw_cell_below hb a0, pw_cell_below hb a1, pw_cell_below hb a2, pw_cell_below hb a3, pw_cell_below hb a4, pw_cell_below hb a5, pw_cell_below hb a6⟩
theorem LfAt.turns {w w1 : World} {g : Nat} {p : Addr} {x : Lf} {v : Value} (h : LfAt w p x v) (ht : Turns g w w1) (hn : p.block ≠ g) : LfAt w1 p x v := by
  obtain ⟨a0, a1, a2, a3, a4, a5, a6⟩ := h
  exact ⟨cell_turn2 a0 ht hn, cell_turn2 a1 ht hn, cell_turn2 a2 ht hn, cell_turn2 a3 ht hn, cell_turn2 a4 ht hn, cell_turn2 a5 ht hn, cell_turn2 a6 ht hn⟩
theorem FoAt.below {w w1 : World} {lo : Nat} (hb : Below w.heap.size w w1) : ∀ (a : Fo) (A : Option Addr) (i : Nat), FoAt w lo A i a → FoAt w1 lo A i a
  | .nil, _, _, _ => trivial
  | .cons _ a n, A, i, ⟨⟨ad, A', c', e, hl, hc, h1, h2⟩, h3⟩ => ⟨⟨ad, A', c', e, hl, hc, h1.below hb, FoAt.below hb a A' 0 h2⟩, FoAt.below hb n A (i + 1) h3⟩
theorem FoAt.turns {w w1 : World} {lo g : Nat} (ht : Turns g w w1) (hg : g < lo) : ∀ (a : Fo) (A : Option Addr) (i : Nat), FoAt w lo A i a → FoAt w1 lo A i a
  | .nil, _, _, _ => trivial
  | .cons _ a n, A, i, ⟨⟨ad, A', c', e, hl, hc, h1, h2⟩, h3⟩ => ⟨⟨ad, A', c', e, hl, hc, h1.turns ht (by rw [add_block]; omega), FoAt.turns ht hg a A' 0 h2⟩, FoAt.turns ht hg n A (i + 1) h3⟩
theorem FoAt.mono {w : World} {lo lo' : Nat} (hl' : lo' ≤ lo) : ∀ (a : Fo) (A : Option Addr) (i : Nat), FoAt w lo A i a → FoAt w lo' A i a
  | .nil, _, _, _ => trivial
  | .cons _ a n, A, i, ⟨⟨ad, A', c', e, hl, hc, h1, h2⟩, h3⟩ => ⟨⟨ad, A', c', e, Nat.le_trans hl' hl, hc, h1, FoAt.mono hl' a A' 0 h2⟩, FoAt.mono hl' n A (i + 1) h3⟩
theorem NodeV.below {w w1 : World} {lo : Nat} {v : Value} {x : Lf} {a : Fo} (h : NodeV w lo v x a) (hb : Below w.heap.size w w1) : NodeV w1 lo v x a := by
  obtain ⟨A, c, e, hc, h1⟩ := h
  exact ⟨A, c, e, hc, FoAt.below hb a A 0 h1⟩
/-- Of every tree of a row. -/
def Fo.All (p : Lf → Fo → Prop) : Fo → Prop
  | .nil => True
  | .cons x a n => p x a ∧ n.All p
theorem Fo.all_of {p : Lf → Fo → Prop} (h : ∀ x a, a.All p → p x a) : ∀ fo : Fo, fo.All p
  | .nil => trivial
  | .cons x a n => ⟨h x a (Fo.all_of h a), Fo.all_of h n⟩
theorem Fo.one_of {p : Lf → Fo → Prop} (h : ∀ x a, a.All p → p x a) (x : Lf) (a : Fo) : p x a := h x a (Fo.all_of h a)
/-- Tokens in memory. -/
def ToksAt (w : World) (A : Option Addr) (xs : List S77) : Prop := xs ≠ [] → ∃ ad, A = some ad ∧ ∀ i t, xs[i]? = some t →
  w.cell? (ad.add (i * 3)) = some (.int .i64 t.f0) ∧ w.cell? ⟨(ad.add (i * 3)).block, (ad.add (i * 3)).off + 1, none⟩ = some (.string t.f1) ∧ w.cell? ⟨(ad.add (i * 3)).block, (ad.add (i * 3)).off + 2, none⟩ = some (.int .i64 t.f2)
theorem ToksAt.below {w w1 : World} {A : Option Addr} {xs : List S77} (h : ToksAt w A xs) (hb : Below w.heap.size w w1) : ToksAt w1 A xs := fun hn => by
  obtain ⟨ad, e, h1⟩ := h hn
  refine ⟨ad, e, fun i t hi => ?_⟩
  obtain ⟨a0, a1, a2⟩ := h1 i t hi
  exact ⟨pw_cell_below hb a0, pw_cell_below hb a1, pw_cell_below hb a2⟩
theorem ToksAt.turns {w w1 : World} {g : Nat} {A : Option Addr} {xs : List S77} (h : ToksAt w A xs) (ht : Turns g w w1) (hg : ∀ ad, A = some ad → ad.block ≠ g) : ToksAt w1 A xs := fun hn => by
  obtain ⟨ad, e, h1⟩ := h hn
  refine ⟨ad, e, fun i t hi => ?_⟩
  obtain ⟨a0, a1, a2⟩ := h1 i t hi
  have hne : (ad.add (i * 3)).block ≠ g := by rw [add_block]; exact hg ad e
  exact ⟨cell_turn2 a0 ht hne, cell_turn2 a1 ht hne, cell_turn2 a2 ht hne⟩
theorem ToksAt.of_C {w : World} {A : Option Addr} {xs : List S77} (h : Kd.C k77 w A xs.length xs) : ToksAt w A xs := fun hn => by
  rcases xs with _ | ⟨x0, xs⟩
  · exact absurd rfl hn
  · obtain ⟨ad, e, _, _, _⟩ := at_T77 h 0 (by decide) (by simp)
    refine ⟨ad, e, fun i t hi => ?_⟩
    have hi' : i < (x0 :: xs).length := by
      rcases Nat.lt_or_ge i (x0 :: xs).length with h | h
      · exact h
      · rw [List.getElem?_eq_none h] at hi; cases hi
    obtain ⟨ad', e', b0, b1, b2⟩ := at_T77 h (i : Int) (by omega) (by omega)
    rw [e] at e'; obtain rfl := Option.some.inj e'
    have ht : rd_T77 (x0 :: xs) (i : Int) = t := by
      unfold rd_T77; rw [Int.toNat_natCast, List.getD_eq_getElem?_getD, hi]; rfl
    rw [ht, Int.toNat_natCast] at b0 b1 b2
    exact ⟨b0, b1, b2⟩
/-- A reader: block g, at a token, with so many brackets open; it and the tokens lie below B. -/
def RdAt (w : World) (g B : Nat) (xs : List S77) (p op : Nat) : Prop := ∃ A c, w.heap[g]? = some (.cells #[.slice A xs.length c, .int .i64 (p : Int), .int .i64 (op : Int)] 67 (0, 0)) ∧
  ToksAt w A xs ∧ (∀ ad, A = some ad → ad.block ≠ g ∧ ad.block < B) ∧ 2 < g ∧ g < B ∧ Tab32 w ∧ xs.length ≤ c ∧ xs.length ≤ 65536 ∧ op ≤ 257 ∧ p ≤ xs.length
theorem Tab32.turn {w w1 : World} {g : Nat} (h : Tab32 w) (hg : 2 < g) (ht : Turns g w w1) : Tab32 w1 := fun j hj => cell_turn2 (h j hj) ht (by show 2 ≠ g; omega)
theorem RdAt.lt {w : World} {g B : Nat} {xs : List S77} {p op : Nat} (h : RdAt w g B xs p op) : g < w.heap.size := by
  obtain ⟨A, c, h, _⟩ := h; exact blk_lt h
theorem RdAt.below {w w1 : World} {g B : Nat} {xs : List S77} {p op : Nat} (h : RdAt w g B xs p op) (hb : Below w.heap.size w w1) : RdAt w1 g B xs p op := by
  obtain ⟨A, c, h0, h1, h2, h3, hB, h4, h5, h6, h7, h8⟩ := h
  exact ⟨A, c, (hb.block g (blk_lt h0)).trans h0, h1.below hb, h2, h3, hB, h4.below hb, h5, h6, h7, h8⟩
theorem RdAt.turns {w w1 : World} {g g' B : Nat} {xs : List S77} {p op : Nat} (h : RdAt w g B xs p op) (ht : Turns g' w w1) (hg : B ≤ g') : RdAt w1 g B xs p op := by
  obtain ⟨A, c, h0, h1, h2, h3, hB, h4, h5, h6, h7, h8⟩ := h
  exact ⟨A, c, (ht.block (blk_lt h0) (by omega)).trans h0, h1.turns ht (fun ad e => by have := (h2 ad e).2; omega), h2, h3, hB, h4.turn (by omega) ht, h5, h6, h7, h8⟩
/-- A write to a reader's field. -/
theorem setCell_turns (w : World) (g i : Nat) (v : Value) : Turns g w (w.setCell ⟨g, i, none⟩ v) :=
  ⟨rfl, rfl, rfl, by simp [World.setCell], fun j _ hn => Below.heap_setCell _ _ _ _ (fun e => hn (by rw [e]))⟩
theorem RdAt.step {w : World} {g B : Nat} {xs : List S77} {p op : Nat} (h : RdAt w g B xs p op) (hp : p + 1 ≤ xs.length) : RdAt (w.setCell ⟨g, 1, none⟩ (.int .i64 ((p : Int) + 1))) g B xs (p + 1) op := by
  obtain ⟨A, c, h0, h1, h2, h3, hB, h4, h5, h6, h7, h8⟩ := h
  exact ⟨A, c, blk_set h0 1 _, h1.turns (setCell_turns w g 1 _) (fun ad e => (h2 ad e).1), h2, h3, hB, h4.turn h3 (setCell_turns w g 1 _), h5, h6, h7, hp⟩
theorem RdAt.open' {w : World} {g B : Nat} {xs : List S77} {p op q : Nat} (h : RdAt w g B xs p op) (hq : q ≤ 257) {z : Int} (hz : z = q) : RdAt (w.setCell ⟨g, 2, none⟩ (.int .i64 z)) g B xs p q := by
  subst hz
  obtain ⟨A, c, h0, h1, h2, h3, hB, h4, h5, h6, h7, h8⟩ := h
  exact ⟨A, c, blk_set h0 2 _, h1.turns (setCell_turns w g 2 _) (fun ad e => (h2 ad e).1), h2, h3, hB, h4.turn h3 (setCell_turns w g 2 _), h5, h6, hq, h8⟩
end Go.Proofs.YtinmbcomnjmmjaaGreatDoor
