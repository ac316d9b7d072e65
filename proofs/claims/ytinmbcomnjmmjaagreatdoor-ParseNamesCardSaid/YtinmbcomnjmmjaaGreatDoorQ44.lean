/- Proved: a part of what the statement on the names of parse needs: walks of functions of the program, and plain laws. (Texts Ez, Hb, Eg, Hc.) -/
import Derived.Test.YtinmbcomnjmmjaaGreatDoorQ43
import Derived.Test.YtinmbcomnjmmjaaGreatDoorQ37
import Derived.Test.YtinmbcomnjmmjaaGreatDoorQ36
import Derived.Test.YtinmbcomnjmmjaaGreatDoorQ23
import Derived.StillTailTactics
import Derived.Deep.RegionHeld3
namespace Go.Proofs.YtinmbcomnjmmjaaGreatDoor
open Go.RowKit Go.Proofs.YtinmbcomnjmmjaaGreatDoorW.PrintWords Go.Proofs.YtinmbcomnjmmjaaGreatDoorW.PrintLast Go.Proofs.YtinmbcomnjmmjaaGreatDoorW.PrintMore
open X
theorem rd_zero (xs : List S77) (fn : Fn) (N : Nat) : RdC xs 0 fn N := by
  intro w g B p op o _ _ _ h
  simp [rdF] at h
theorem reads (xs : List S77) : ∀ k, k ≤ 1000000 → RdC xs k .sum 64 ∧ RdC xs k .product 92 ∧ RdC xs k .minus 114 ∧ RdC xs k .power 137 ∧ RdC xs k .atom 168 ∧ NamedC xs k
  | 0, _ => ⟨rd_zero _ _ _, rd_zero _ _ _, rd_zero _ _ _, rd_zero _ _ _, rd_zero _ _ _, by intro w g B p op o t _ _ _ _ h; simp [rdF] at h⟩
  | k + 1, hk => by
    obtain ⟨h1, h2, h3, h4, h5, h6⟩ := reads xs k (by omega)
    exact ⟨sum_step h2, product_step h3, minus_step h3 h4, power_step h5 h3, atom_step h1 h6, named_step (by omega) h1⟩
end Go.Proofs.YtinmbcomnjmmjaaGreatDoor
namespace Go.Proofs.YtinmbcomnjmmjaaGreatDoor
open Go.RowKit Go.Proofs.YtinmbcomnjmmjaaGreatDoorW.PrintWords Go.Proofs.YtinmbcomnjmmjaaGreatDoorW.PrintLast Go.Proofs.YtinmbcomnjmmjaaGreatDoorW.PrintMore
open X
attribute [local go_sem] st_float st_complex field77_0 field77_1 field77_2
/-- A block that holds a pointer to a fault. -/
def PtrBlk (w : World) (gb : Nat) (v : Option Addr) : Prop := w.heap[gb]? = some (.cells #[.pointer v] 63 (0, 0))
theorem ptr_blk {w : World} {gb : Nat} {v : Option Addr} (h : PtrBlk w gb v) : w.cell? ⟨gb, 0, none⟩ = some (.pointer v) ∧ w.frozen? ⟨gb, 0, none⟩ = false := by
  refine ⟨?_, blk_frozen h 0⟩
  unfold PtrBlk at h
  unfold World.cell?; simp only [h]; rfl
theorem results_cc {fn : Func} {p u : Tmp} (h : fn.results = #[.cell p 28, .cell u 63]) (tmps : Array Value) (w : World) (g gb : Nat) (cs : Array Value) (v : Option Addr)
    (hp : tmps.getD p undef = .pointer (some ⟨g, 0, none⟩)) (hg : w.heap[g]? = some (.cells cs 28 (0, 0))) (hc : cs.size = 7) (hu : tmps.getD u undef = .pointer (some ⟨gb, 0, none⟩)) (hb : PtrBlk w gb v) :
    (results fn tmps).run Tryz.prog w = .ok (.tuple #[.agg cs, .pointer v]) w := by
  have hp' : tmps[p]?.getD undef = .pointer (some ⟨g, 0, none⟩) := by simpa using hp
  have hu' : tmps[u]?.getD undef = .pointer (some ⟨gb, 0, none⟩) := by simpa using hu
  have h2 : (loadVar 63 ⟨gb, 0, none⟩).run Tryz.prog w = .ok (.pointer v) w := by
    obtain ⟨b0, _⟩ := ptr_blk hb
    simp [go_sem, b0]
  simp [results, h, hp', hu', asAddr, h2, run_loadVar_row w g 28 28 cs (0, 0) _ hg Tryz.underlying28 rfl (by rw [hc]; kernel_rfl)]
set_option maxHeartbeats 4000000 in
set_option maxRecDepth 100000 in
/-- (*reader).whole, of tokens that are a tree. -/
theorem whole_ok {w : World} {g B p q k : Nat} {xs : List S77} {x : Lf} {a : Fo} {t : S77} (hk : k ≤ 1000000) (hr : RdAt w g B xs p 0) (hB : B ≤ w.heap.size) (hf : rdF xs k .sum 0 p = some (.ok x a q)) (ht : xs[q]? = some t) (h0 : t.f0 = 0) :
    Calls Tryz.prog 31 #[pt g] w fun e w' => ∃ A c, e = .returned (.tuple #[.agg #[.int .i64 x.k, .int .i64 x.f, .string x.nm, .string x.tx, .complex .f64 x.re x.im, .float .f64 x.rad, .slice A a.len c], .pointer none]) ∧ a.len ≤ c ∧ FoAt w' w.heap.size A 0 a ∧ Turns g w w' := by
  have HTK := Aside0.mk ht
  have hx0 : (t.f0 == 0) = true := by rw [h0]; rfl
  have hx1 : (t.f0 != 0) = false := by rw [h0]; rfl
  clear ht h0
  have hb0 := below_step (alloc_below w (.cells #[.int .i64 zL.k, .int .i64 zL.f, .string zL.nm, .string zL.tx, .complex .f64 zL.re zL.im, .float .f64 zL.rad, .slice none 0 0] 28)) (alloc_below _ (.cells #[.pointer none] 63))
  have HL0 := Aside0.mk ((LfBlk.new w zL (.slice none 0 0)).below (alloc_below _ (.cells #[.pointer none] 63)))
  have hb := alloc_at (w.alloc (.cells #[.int .i64 zL.k, .int .i64 zL.f, .string zL.nm, .string zL.tx, .complex .f64 zL.re zL.im, .float .f64 zL.rad, .slice none 0 0] 28)) (.cells #[.pointer none] 63)
  have hsz := alloc_size (w.alloc (.cells #[.int .i64 zL.k, .int .i64 zL.f, .string zL.nm, .string zL.tx, .complex .f64 zL.re zL.im, .float .f64 zL.rad, .slice none 0 0] 28)) (.cells #[.pointer none] 63)
  rw [alloc_size w (.cells #[.int .i64 zL.k, .int .i64 zL.f, .string zL.nm, .string zL.tx, .complex .f64 zL.re zL.im, .float .f64 zL.rad, .slice none 0 0] 28)] at hb hsz
  have HB0 : Aside0 (PtrBlk ((w.alloc (.cells #[.int .i64 zL.k, .int .i64 zL.f, .string zL.nm, .string zL.tx, .complex .f64 zL.re zL.im, .float .f64 zL.rad, .slice none 0 0] 28)).alloc (.cells #[.pointer none] 63)) (w.heap.size + 1) none) := ⟨hb⟩
  have HT0 := Aside0.mk (Turns.of_below (g := g) hb0)
  have HR0 := Aside0.mk (hr.below hb0)
  have hgl := hr.lt
  have HH := Aside0.mk hf
  have HBW := Aside0.mk hB
  clear hr hb0 hb hf
  unfold zL noText at *
  generalize hwa : (w.alloc (.cells _ 28)).alloc (.cells #[.pointer none] 63) = w0 at *
  have HBB : Aside0 (B ≤ w0.heap.size) := ⟨by omega⟩
  clear hB
  go_enter_defers Tryz.func31, Tryz.ntmps31
  go_upto_region 3 with (go_at_call 64; (with_reducible refine ((reads xs k hk).1.ok HR0.out (by decide) HBB.out HH.out).mono ?_); rintro e w1 ⟨A1, c1, rfl, hc1, hf1, hr1, ht1⟩; have hs1 := ht1.size; have HC1 := Aside0.mk hc1; have HF1 := Aside0.mk hf1; have HR1 := Aside0.mk hr1; have HT1 := Aside0.mk (HT0.out.trans ht1); have HL1 := Aside0.mk (HL0.out.turns ht1 (by omega)); have HB1 : Aside0 (PtrBlk w1 (w.heap.size + 1) none) := ⟨(ht1.block (by omega) (by omega)).trans HB0.out⟩; obtain ⟨l0, l1, l2, l3, l4, l5, l6⟩ := HL1.out.cells; obtain ⟨f0, f1, f2, f3, f4, f5, f6⟩ := HL1.out.frozen; clear hc1 hf1 hr1 ht1)
  have ht2 := st7_turns w1 w.heap.size x (.slice A1 a.len c1)
  have HL2 := Aside0.mk (HL1.out.st x (.slice A1 a.len c1))
  have HR2 := Aside0.mk (HR1.out.turns ht2 HBW.out)
  have HT2 := Aside0.mk (HT1.out.new (Nat.le_refl _) ht2)
  have HB2 : Aside0 (PtrBlk (st7 w1 w.heap.size x (.slice A1 a.len c1)) (w.heap.size + 1) none) := ⟨(ht2.block (by omega) (by omega)).trans HB1.out⟩
  have HF2 := Aside0.mk (FoAt.turns ht2 (by omega) _ _ _ HF1.out)
  have hs2 := ht2.size
  change Code.wp _ _ _ _ (st7 w1 w.heap.size x (.slice A1 a.len c1))
  clear ht2 l0 l1 l2 l3 l4 l5 l6 f0 f1 f2 f3 f4 f5 f6
  generalize st7 w1 w.heap.size x (.slice A1 a.len c1) = w2 at *
  go_wp2_with (go_at_call 65; (with_reducible refine (here_calls HR2.out HTK.out).mono ?_); rintro e w3 ⟨rfl, hb3⟩; have hs3 := hb3.size; have HT3 := Aside0.mk (HT2.out.then_below hb3); have HL3 := Aside0.mk (HL2.out.below hb3); have HB3 : Aside0 (PtrBlk w3 (w.heap.size + 1) none) := ⟨blk_below HB2.out hb3⟩; have HF3 := Aside0.mk (FoAt.below hb3 _ _ _ HF2.out); obtain ⟨l0, l1, l2, l3, l4, l5, l6⟩ := HL3.out.cells; obtain ⟨f0, f1, f2, f3, f4, f5, f6⟩ := HL3.out.frozen; obtain ⟨b0, b1⟩ := ptr_blk HB3.out; clear hb3)
  have t1 := st7_turns w3 w.heap.size x (.slice A1 a.len c1)
  have t2 := setCell_turns (st7 w3 w.heap.size x (.slice A1 a.len c1)) (w.heap.size + 1) 0 (.pointer none)
  have r1 := (HL3.out.st x (.slice A1 a.len c1)).turns t2 (by omega)
  have r2 : PtrBlk _ (w.heap.size + 1) none := blk_put ((t1.block (by omega) (by omega)).trans HB3.out) 0 (.pointer none) rfl
  have r3 := FoAt.mono (lo' := w.heap.size) (by omega) _ _ _ (FoAt.turns t2 (by omega) _ _ _ (FoAt.turns t1 (by omega) _ _ _ HF3.out))
  have r4 := (HT3.out.new (Nat.le_refl _) t1).new (by omega) t2
  refine leaves_cons (f := 63) (args := #[.pointer (some ⟨w.heap.size, 0, none⟩), .pointer (some ⟨w.heap.size + 1, 0, none⟩)]) (by simp) (by simp [go_sem]) ?_
  refine (idle63 ⟨w.heap.size, 0, none⟩ ⟨w.heap.size + 1, 0, none⟩ _).mono ?_
  rintro e u' w'' ⟨rfl, rfl, rfl⟩
  exact ⟨_, results_cc rfl _ _ w.heap.size (w.heap.size + 1) _ none rfl r1 rfl rfl r2, A1, c1, rfl, HC1.out, r3, r4⟩
set_option maxHeartbeats 4000000 in
set_option maxRecDepth 100000 in
/-- (*reader).whole, of tokens that are none. -/
theorem whole_bad {w : World} {g B p k : Nat} {xs : List S77} {er z : Int} (hk : k ≤ 1000000) (hr : RdAt w g B xs p 0) (hB : B ≤ w.heap.size) (hf : rdF xs k .sum 0 p = some (.bad er z)) :
    Calls Tryz.prog 31 #[pt g] w fun e w' => ∃ gf, e = .returned (.tuple #[.agg #[.int .i64 0, .int .i64 0, .string ⟨#[]⟩, .string ⟨#[]⟩, .complex .f64 0 0, .float .f64 0, .slice none 0 0], .pointer (some ⟨gf, 0, none⟩)]) ∧ w'.heap[gf]? = some (.cells #[.int .i64 er, .int .i64 z] 70 (0, 0)) ∧ Turns g w w' := by
  have hb0 := below_step (alloc_below w (.cells #[.int .i64 zL.k, .int .i64 zL.f, .string zL.nm, .string zL.tx, .complex .f64 zL.re zL.im, .float .f64 zL.rad, .slice none 0 0] 28)) (alloc_below _ (.cells #[.pointer none] 63))
  have HL0 := Aside0.mk ((LfBlk.new w zL (.slice none 0 0)).below (alloc_below _ (.cells #[.pointer none] 63)))
  have hb := alloc_at (w.alloc (.cells #[.int .i64 zL.k, .int .i64 zL.f, .string zL.nm, .string zL.tx, .complex .f64 zL.re zL.im, .float .f64 zL.rad, .slice none 0 0] 28)) (.cells #[.pointer none] 63)
  have hsz := alloc_size (w.alloc (.cells #[.int .i64 zL.k, .int .i64 zL.f, .string zL.nm, .string zL.tx, .complex .f64 zL.re zL.im, .float .f64 zL.rad, .slice none 0 0] 28)) (.cells #[.pointer none] 63)
  rw [alloc_size w (.cells #[.int .i64 zL.k, .int .i64 zL.f, .string zL.nm, .string zL.tx, .complex .f64 zL.re zL.im, .float .f64 zL.rad, .slice none 0 0] 28)] at hb hsz
  have HB0 : Aside0 (PtrBlk ((w.alloc (.cells #[.int .i64 zL.k, .int .i64 zL.f, .string zL.nm, .string zL.tx, .complex .f64 zL.re zL.im, .float .f64 zL.rad, .slice none 0 0] 28)).alloc (.cells #[.pointer none] 63)) (w.heap.size + 1) none) := ⟨hb⟩
  have HT0 := Aside0.mk (Turns.of_below (g := g) hb0)
  have HR0 := Aside0.mk (hr.below hb0)
  have hgl := hr.lt
  have HH := Aside0.mk hf
  have HBW := Aside0.mk hB
  clear hr hb0 hb hf
  unfold zL noText at *
  generalize hwa : (w.alloc (.cells _ 28)).alloc (.cells #[.pointer none] 63) = w0 at *
  have HBB : Aside0 (B ≤ w0.heap.size) := ⟨by omega⟩
  clear hB
  go_enter_defers Tryz.func31, Tryz.ntmps31
  go_wp2_with (go_at_call 64; (with_reducible refine ((reads xs k hk).1.bad HR0.out (by decide) HBB.out HH.out).mono ?_); rintro e w1 ⟨rfl, ht1⟩; have hs1 := ht1.size; have HT1 := Aside0.mk (HT0.out.trans ht1); have HL1 := Aside0.mk (HL0.out.turns ht1 (by omega)); have HB1 : Aside0 (PtrBlk w1 (w.heap.size + 1) none) := ⟨(ht1.block (by omega) (by omega)).trans HB0.out⟩; clear ht1)
  have ba := alloc_below w1 (.cells #[.int .i64 er, .int .i64 z] 70)
  have hza := alloc_size w1 (.cells #[.int .i64 er, .int .i64 z] 70)
  have t1 := st7_turns (w1.alloc (.cells #[.int .i64 er, .int .i64 z] 70)) w.heap.size ⟨0, 0, ⟨#[]⟩, ⟨#[]⟩, 0, 0, 0⟩ (.slice none 0 0)
  have t2 := setCell_turns (st7 (w1.alloc (.cells #[.int .i64 er, .int .i64 z] 70)) w.heap.size ⟨0, 0, ⟨#[]⟩, ⟨#[]⟩, 0, 0, 0⟩ (.slice none 0 0)) (w.heap.size + 1) 0 (.pointer (some ⟨w1.heap.size, 0, none⟩))
  have r1 := ((HL1.out.below ba).st ⟨0, 0, ⟨#[]⟩, ⟨#[]⟩, 0, 0, 0⟩ (.slice none 0 0)).turns t2 (by omega)
  have r2 : PtrBlk _ (w.heap.size + 1) (some ⟨w1.heap.size, 0, none⟩) := blk_put ((t1.block (by omega) (by omega)).trans (blk_below HB1.out ba)) 0 (.pointer (some ⟨w1.heap.size, 0, none⟩)) rfl
  have r3 := (t2.block (i := w1.heap.size) (by have := t1.size; omega) (by omega)).trans ((t1.block (i := w1.heap.size) (by omega) (by omega)).trans (alloc_at w1 (.cells #[.int .i64 er, .int .i64 z] 70)))
  have r4 := ((HT1.out.then_below ba).new (Nat.le_refl _) t1).new (by omega) t2
  refine leaves_cons (f := 63) (args := #[.pointer (some ⟨w.heap.size, 0, none⟩), .pointer (some ⟨w.heap.size + 1, 0, none⟩)]) (by simp) (by simp [go_sem]) ?_
  refine (catch63 w.heap.size (w.heap.size + 1) _ _ none er z _ HL1.out HB1.out (by omega)).mono ?_
  rintro e u' w'' ⟨rfl, rfl, rfl⟩
  exact ⟨_, results_cc rfl _ _ w.heap.size (w.heap.size + 1) _ (some ⟨w1.heap.size, 0, none⟩) rfl r1 rfl rfl r2, w1.heap.size, rfl, r3, r4⟩
end Go.Proofs.YtinmbcomnjmmjaaGreatDoor
namespace Go.Proofs.YtinmbcomnjmmjaaGreatDoor
open Go.RowKit Go.Proofs.YtinmbcomnjmmjaaGreatDoorW.PrintWords Go.Proofs.YtinmbcomnjmmjaaGreatDoorW.PrintLast Go.Proofs.YtinmbcomnjmmjaaGreatDoorW.PrintMore
open X
/-- A text's tokens from place p on, behind those that are there. -/
def tokP : Nat → List UInt8 → Nat → List S77 → Option (List S77)
  | 0, _, _, _ => none
  | k + 1, l, p, acc => match blankN (l.drop p) with
    | none => none
    | some b => if acc.length < 65536 then (if p + b < l.length then match firstP (l.drop (p + b)) with
        | none => none
        | some (kd, n) => if 0 < n ∧ n ≤ l.length - (p + b) ∧ kd ≠ 0 then tokP k l (p + b + n) (acc ++ [⟨kd, ofL ((l.drop (p + b)).take n), (p : Int) + (b : Int)⟩]) else none
      else some (acc ++ [⟨0, ⟨#[]⟩, (p : Int) + (b : Int)⟩])) else none
set_option maxHeartbeats 4000000 in
set_option maxRecDepth 100000 in
/-- lex.Tokens. -/
theorem tokens_calls {w : World} {l : List UInt8} {r : List S77} {k : Nat} (hm : l.length ≤ 1048576) (h : tokP k l 0 [] = some r) :
    Calls Tryz.prog 30 #[.string (ofL l)] w fun e w' => ∃ v, e = .returned (.tuple #[v, .int .i64 0, .int .i64 0]) ∧ k77.R 77 w' w.heap.size (fun _ => True) v r ∧ Below w.heap.size w w' := by
  have hsz := ofL_size l
  have hlim : decide (1048576 < (l.length : Int)) = false := decide_eq_false (by omega)
  have H := Aside0.mk h
  clear h
  go_enter Tryz.func30, Tryz.ntmps30
  go_wp2_with fail
  go_loopw [5, 6] (fun v5 v6 wr => ∃ (p k : Nat) (acc : List S77), v6 = .int .i64 (p : Nat) ∧ p ≤ l.length ∧ Aside0 (tokP k l p acc = some r) ∧ Aside0 (k77.R 77 wr w.heap.size (fun _ => True) v5 acc) ∧ Aside0 (Below w.heap.size w wr)) (fun _ v6 _ => l.length - (intOf v6).toNat)
  case atStart => exact ⟨0, k, [], rfl, Nat.zero_le _, H, ⟨Kd.R_nil _ _ _ _ _⟩, ⟨Below.refl _ _⟩⟩
  case round =>
    obtain ⟨p, k, acc, rfl, hp, HT, HR, HB⟩ := hrel
    rcases k with _ | k
    · exact absurd HT.out (by simp [tokP])
    · have ht := HT.out
      unfold tokP at ht
      rcases hbk : blankN (l.drop p) with _ | b
      · rw [hbk] at ht; cases ht
      · rw [hbk] at ht
        simp only at ht
        split at ht
        · rename_i hacc
          have hble := blankN_le _ _ hbk
          rw [List.length_drop] at hble
          have hdp := ofL_size (l.drop p)
          have hex := extract_ofL l p
          rw [hsz] at hex
          have HBK := Aside0.mk (blanks_calls (w := wr) (s := ofL (l.drop p)) (by rw [hdp, List.length_drop]; omega) (by rw [ofL_list]; exact hbk))
          obtain ⟨A5, c5, rfl⟩ := Kd.R_slice HR.out
          clear HT hbk
          split at ht
          · rename_i hlt
            rcases hfp : firstP (l.drop (p + b)) with _ | ⟨kd, n⟩
            · rw [hfp] at ht; cases ht
            · rw [hfp] at ht
              simp only at ht
              split at ht
              · rename_i hc
                have HT2 := Aside0.mk ht
                have HFP := Aside0.mk hfp
                have HLM : Aside0 ((l.drop (p + b)).length ≤ 1000000000) := ⟨by rw [List.length_drop]; omega⟩
                have HNL : Aside0 (n ≤ (l.drop (p + b)).length) := ⟨by rw [List.length_drop]; omega⟩
                have hnn : n ≤ 1048576 := by omega
                have hn0 : 0 < n := hc.1
                have hpbn : p + b + n ≤ l.length := by omega
                have hkd : (kd == 0) = false := beq_eq_false_iff_ne.2 hc.2.2
                have hlt' : decide ((p : Int) + (b : Int) < (l.length : Int)) = true := decide_eq_true (by omega)
                have htk : (ofL ((l.drop (p + b)).take n)).size = n := by rw [ofL_size, List.length_take, List.length_drop]; omega
                have hex2 := extract_ofL l (p + b)
                rw [hsz] at hex2
                clear ht hfp hc
                go_upto_region 13 with (first
                  | (go_at_call 61; (with_reducible refine HBK.out.mono ?_); rintro e w1 ⟨rfl, hb1⟩; have HB1 := Aside0.mk (below_step HB.out hb1); have HR1 := Aside0.mk (Kd.R_below HR.out hb1); clear hb1)
                  | (go_at_call 62; (with_reducible refine (first_calls (k := kd) (n := n) HLM.out HFP.out HNL.out).mono ?_); rintro e w3 ⟨rfl, hb3⟩; have HBW := Aside0.mk (below_step (alloc_below w1 (.cells #[.int .i64 0, .string ⟨#[]⟩, .int .i64 0] 77)) hb3); have HBL3 := Aside0.mk (blk_below (alloc_at w1 _) hb3); obtain ⟨l0, l1, l2⟩ := blk3 HBL3.out; have hfr := blk_frozen HBL3.out; have f0 := hfr 0; have f1 := hfr 1; have f2 := hfr 2; have hlt3 := blk_lt HBL3.out; clear hb3 hfr))
                have hbl4 := blk_put (blk_put (blk_put HBL3.out 0 (.int .i64 kd) rfl) 1 (.string (ofL ((l.drop (p + b)).take n))) rfl) 2 (.int .i64 0) rfl
                have hbw4 := Turns.below HBW.out HBW.out.size (Nat.le_refl _) (((Turns.set w3 w1.heap.size 0 (.int .i64 kd)).trans (Turns.set _ w1.heap.size 1 (.string (ofL ((l.drop (p + b)).take n))))).trans (Turns.set _ w1.heap.size 2 (.int .i64 0)))
                clear HBL3 HBW l0 l1 l2 f0 f1 f2 hlt3
                generalize ((w3.setCell ⟨w1.heap.size, 0, none⟩ (.int .i64 kd)).setCell ⟨w1.heap.size, 1, none⟩ (.string (ofL ((l.drop (p + b)).take n)))).setCell ⟨w1.heap.size, 2, none⟩ (.int .i64 0) = w4 at *
                have HBL4 := Aside0.mk hbl4
                have HBW := Aside0.mk hbw4
                obtain ⟨l0, l1, l2⟩ := blk3 hbl4
                have hfr := blk_frozen hbl4
                have f0 := hfr 0; have f1 := hfr 1; have f2 := hfr 2
                have hlt3 := blk_lt hbl4
                clear hbl4 hbw4 hfr
                go_wp2_with (at_builtin; refine Kd.R_append k77 (w0 := w) w.heap.size rfl (.tmp 42) (.tmp 44) 43 77 (.agg #[(.int .i64 0), (.string ⟨#[]⟩), (.int .i64 0)]) 32 rfl Tryz.underlying43 info77 rfl (by decide) (by omega) _ acc ⟨kd, ofL ((l.drop (p + b)).take n), (p : Int) + (b : Int)⟩ [.int .i64 kd, .string (ofL ((l.drop (p + b)).take n)), .int .i64 ((p : Int) + (b : Int))] (fun _ => True) (fun _ => False) rfl ?aX ?aP (fun _ hk => hk.elim) ?aF ?aO ?aB ?aS ?aL ?_; (case aX => simp [World.setCell]; rfl); (case aP => exact k77_mkM _ _ _ _); (case aB => exact (below_step HB1.out (Turns.below HBW.out HBW.out.size (Nat.le_refl _) (Turns.set _ w1.heap.size 2 _)))); (case aF => exact (fun _ _ => trivial)); (case aO => exact (Kd.R_below HR1.out (Turns.below HBW.out HBW.out.size (Nat.le_refl _) (Turns.set _ w1.heap.size 2 _)))); (case aS => exact (below_step HB1.out (Turns.below HBW.out HBW.out.size (Nat.le_refl _) (Turns.set _ w1.heap.size 2 _))).size); (case aL => omega); intro v9 w9 ho9 hb9 hg9 hat9; have hgb := (hg9.block w1.heap.size (by simp [World.setCell]; omega) (by intro e; have := Kd.R_lt HR1.out _ e.symm; omega)).trans (blk_put HBL4.out 2 _ rfl); obtain ⟨q0, q1, q2⟩ := blk3 hgb; have HR9 := Aside0.mk ho9; have HB9 := Aside0.mk hb9; clear hgb ho9 hb9 hg9 hat9)
                go_roundw
                case rel => exact ⟨p + b + n, k, _, by go_num, hpbn, HT2, HR9, HB9⟩
                case measure => simp [intOf]; omega
              · cases ht
          · rename_i hge
            have hr := Option.some.inj ht
            clear ht
            go_wp2_with (first
              | (go_at_call 61; (with_reducible refine HBK.out.mono ?_); rintro e w1 ⟨rfl, hb1⟩; have HB1 := Aside0.mk (below_step HB.out hb1); have HR1 := Aside0.mk (Kd.R_below HR.out hb1); clear hb1)
              | (at_builtin; refine Kd.R_append k77 (w0 := w) w.heap.size rfl (.tmp 42) (.tmp 44) 43 77 (.agg #[(.int .i64 0), (.string ⟨#[]⟩), (.int .i64 0)]) 32 rfl Tryz.underlying43 info77 rfl (by decide) (by omega) _ acc ⟨0, ⟨#[]⟩, (p : Int) + (b : Int)⟩ [.int .i64 0, .string ⟨#[]⟩, .int .i64 ((p : Int) + (b : Int))] (fun _ => True) (fun _ => False) rfl ?aX ?aP (fun _ hk => hk.elim) ?aF ?aO ?aB ?aS ?aL ?_; (case aX => rw [alloc_size]; exact rfl); (case aP => exact k77_mkM _ _ _ _); (case aB => exact (below_step HB1.out (alloc_below _ _))); (case aF => exact (fun _ _ => trivial)); (case aO => exact (Kd.R_alloc HR1.out _)); (case aS => exact ((below_step HB1.out (alloc_below _ _))).size); (case aL => omega); intro v9 w9 ho9 hb9 hg9 hat9; have hgb := (hg9.block w1.heap.size (by rw [alloc_size]; omega) (by intro e; have := Kd.R_lt HR1.out _ e.symm; omega)).trans (alloc_at w1 _); obtain ⟨q0, q1, q2⟩ := blk3 hgb; have HR9 := Aside0.mk ho9; have HB9 := Aside0.mk hb9; clear hgb; clear ho9 hb9 hg9 hat9))
            go_ret3
            subst hr
            exact ⟨_, rfl, HR9.out, HB9.out⟩
        · cases ht
end Go.Proofs.YtinmbcomnjmmjaaGreatDoor
namespace Go.Proofs.YtinmbcomnjmmjaaGreatDoor
open Go.RowKit Go.Proofs.YtinmbcomnjmmjaaGreatDoorW.PrintWords Go.Proofs.YtinmbcomnjmmjaaGreatDoorW.PrintLast Go.Proofs.YtinmbcomnjmmjaaGreatDoorW.PrintMore
open X
attribute [local go_sem] st_float st_complex field77_0 field77_1 field77_2
theorem tokP_len : ∀ (k : Nat) (l : List UInt8) (p : Nat) (acc r : List S77), tokP k l p acc = some r → acc.length ≤ 65536 → r.length ≤ 65536
  | 0, _, _, _, _, h, _ => by simp [tokP] at h
  | k + 1, l, p, acc, r, h, _ => by
    unfold tokP at h
    split at h
    · cases h
    · split at h
      · rename_i hacc
        split at h
        · split at h
          · cases h
          · split at h
            · exact tokP_len k _ _ _ r h (by simp; omega)
            · cases h
        · have e := Option.some.inj h
          rw [← e]; simp; omega
      · cases h
theorem drew_cell {w : World} {a : Addr} {v : Value} (h : w.cell? a = some v) : w.drew.cell? a = some v := h
/-- A fresh reader. -/
theorem rd_new {w1 : World} {lo : Nat} {v : Value} {r : List S77} (hT : Tab32 w1) (hR : k77.R 77 w1 lo (fun _ => True) v r) (hl : r.length ≤ 65536) :
    ∃ A c, v = .slice A r.length c ∧ RdAt (w1.alloc (.cells #[.slice A r.length c, .int .i64 0, .int .i64 0] 67)) w1.heap.size (w1.heap.size + 1) r 0 0 := by
  obtain ⟨A, c, rfl, hc, hC⟩ := Kd.R_reads hR
  have hb := alloc_below w1 (.cells #[.slice A r.length c, .int .i64 0, .int .i64 0] 67)
  have h2 : 2 < w1.heap.size := World.block_lt_of_cell? w1 _ (hT 0 (by decide))
  refine ⟨A, c, rfl, A, c, alloc_at w1 _, (ToksAt.of_C hC).below hb, fun ad e => ?_, h2, by omega, hT.below hb, hc, hl, by omega, by omega⟩
  have := Kd.R_lt hR ad.block (by rw [e]; rfl)
  exact ⟨by omega, by omega⟩
set_option maxHeartbeats 4000000 in
set_option maxRecDepth 100000 in
/-- parse.Parse, of a text that is a tree. -/
theorem parse_ok {w : World} {l : List UInt8} {xs : List S77} {kt k q : Nat} {x : Lf} {a : Fo} {t : S77} (hlen : l.length ≤ 1048576) (hT : Tab32 w) (ht : tokP kt l 0 [] = some xs) (hkr : k ≤ 1000000) (hf : rdF xs k .sum 0 0 = some (.ok x a q)) (hend : xs[q]? = some t) (h0 : t.f0 = 0) (hd : a.depth + 1 ≤ 64) (hc : a.count + 1 ≤ 16384) :
    Calls Tryz.prog 8 #[.string (ofL l)] w fun e w' => ∃ lo A c, e = .returned (.tuple #[.agg #[.int .i64 x.k, .int .i64 x.f, .string x.nm, .string x.tx, .complex .f64 x.re x.im, .float .f64 x.rad, .slice A a.len c], .int .i64 0, .int .i64 0]) ∧ a.len ≤ c ∧ w.heap.size ≤ lo ∧ FoAt w' lo A 0 a ∧ Below w.heap.size w w' := by
  have HCN : Aside0 (a.count ≤ 1000000000) := ⟨by omega⟩
  have hd1 : decide (64 < (a.depth : Int) + 1) = false := decide_eq_false (by omega)
  have hd2 : decide (16384 < ((a.count + 1 : Nat) : Int)) = false := decide_eq_false (by omega)
  have hB0 := alloc_below w (.cells #[.int .i64 zL.k, .int .i64 zL.f, .string zL.nm, .string zL.tx, .complex .f64 zL.re zL.im, .float .f64 zL.rad, .slice none 0 0] 28)
  have HL0 := Aside0.mk (LfBlk.new w zL (.slice none 0 0))
  have HT0 := Aside0.mk (hT.below hB0)
  have hsz := alloc_size w (.cells #[.int .i64 zL.k, .int .i64 zL.f, .string zL.nm, .string zL.tx, .complex .f64 zL.re zL.im, .float .f64 zL.rad, .slice none 0 0] 28)
  have HB0 := Aside0.mk hB0
  have HTP := Aside0.mk ht
  have hrl := tokP_len kt l 0 [] xs ht (by simp)
  have HH := Aside0.mk hf
  clear hT hB0 ht hf
  unfold zL noText at *
  generalize hwa : w.alloc (.cells _ 28) = w0 at *
  go_enter Tryz.func8, Tryz.ntmps8
  go_upto_region 4 with (go_at_call 30; (with_reducible refine (tokens_calls (k := kt) hlen HTP.out).mono ?_); rintro e w1 ⟨v, rfl, hr1, hb1⟩; have hs1 := hb1.size; have HL1 := Aside0.mk (HL0.out.below hb1); have HBL1 := Aside0.mk (below_step HB0.out hb1); have HT1 := Aside0.mk (HT0.out.below hb1); have HV1 := Aside0.mk hr1; clear hr1 hb1)
  obtain ⟨A, c, rfl, hrd⟩ := rd_new HT1.out HV1.out hrl
  have HRD := Aside0.mk hrd
  have hzg := alloc_size w1 (.cells #[.slice A xs.length c, .int .i64 0, .int .i64 0] 67)
  have hbg := alloc_below w1 (.cells #[.slice A xs.length c, .int .i64 0, .int .i64 0] 67)
  have HL2 := Aside0.mk (HL1.out.below hbg)
  have HBL2 := Aside0.mk (below_step HBL1.out hbg)
  clear hrd HV1 hbg
  go_upto_region 5 with (go_at_call 31; (with_reducible refine (whole_ok hkr HRD.out (by rw [hzg]; omega) HH.out hend h0).mono ?_); rintro e w3 ⟨A3, c3, rfl, hc3, hf3, ht3⟩; have hs3 := ht3.size; have HC3 := Aside0.mk hc3; have HF3 := Aside0.mk hf3; have HL3 := Aside0.mk (HL2.out.turns ht3 (by omega)); have HBL3 := Aside0.mk (Turns.below HBL2.out (HBL2.out.size) (by omega) ht3); clear hc3 hf3 ht3)
  have hn4 := LfBlk.new w3 x (.slice A3 a.len c3)
  have hb4 := alloc_below w3 (.cells #[.int .i64 x.k, .int .i64 x.f, .string x.nm, .string x.tx, .complex .f64 x.re x.im, .float .f64 x.rad, .slice A3 a.len c3] 28)
  have hz4 := alloc_size w3 (.cells #[.int .i64 x.k, .int .i64 x.f, .string x.nm, .string x.tx, .complex .f64 x.re x.im, .float .f64 x.rad, .slice A3 a.len c3] 28)
  have HN4 := Aside0.mk hn4; have HL4 := Aside0.mk (HL3.out.below hb4); have HBL4 := Aside0.mk (below_step HBL3.out hb4)
  have HV4 : Aside0 (NodeV (w3.alloc (.cells #[.int .i64 x.k, .int .i64 x.f, .string x.nm, .string x.tx, .complex .f64 x.re x.im, .float .f64 x.rad, .slice A3 a.len c3] 28)) (w1.heap.size + 1) (.agg #[.int .i64 x.k, .int .i64 x.f, .string x.nm, .string x.tx, .complex .f64 x.re x.im, .float .f64 x.rad, .slice A3 a.len c3]) x a) := ⟨⟨A3, c3, rfl, HC3.out, FoAt.below hb4 _ _ _ (by rw [hzg] at HF3; exact HF3.out)⟩⟩
  clear hn4 hb4
  generalize w3.alloc (.cells #[.int .i64 x.k, .int .i64 x.f, .string x.nm, .string x.tx, .complex .f64 x.re x.im, .float .f64 x.rad, .slice A3 a.len c3] 28) = w4 at *
  obtain ⟨n0, n1, n2, n3, n4, n5, n6⟩ := HN4.out.cells
  go_wp2_with (first
    | (go_at_call 32; (with_reducible refine ((depth_calls x a).use HV4.out HCN.out).mono ?_); rintro e w5 ⟨rfl, hb5⟩; have hs5 := hb5.size; have HL5 := Aside0.mk (HL4.out.below hb5); have HN5 := Aside0.mk (HN4.out.below hb5); have HBL5 := Aside0.mk (below_step HBL4.out hb5); have HV5 := Aside0.mk (HV4.out.below hb5); obtain ⟨n0, n1, n2, n3, n4, n5, n6⟩ := HN5.out.cells; clear hb5)
    | (go_at_call 33; (with_reducible refine ((count_calls x a).use HV5.out HCN.out).mono ?_); rintro e w6 ⟨rfl, hb6⟩; have hs6 := hb6.size; have HL6 := Aside0.mk (HL5.out.below hb6); have HN6 := Aside0.mk (HN5.out.below hb6); have HBL6 := Aside0.mk (below_step HBL5.out hb6); have HV6 := Aside0.mk (HV5.out.below hb6); obtain ⟨n0, n1, n2, n3, n4, n5, n6⟩ := HN6.out.cells; obtain ⟨l0, l1, l2, l3, l4, l5, l6⟩ := HL6.out.cells; obtain ⟨f0, f1, f2, f3, f4, f5, f6⟩ := HL6.out.frozen; clear hb6))
  refine bodyPost_ret (results_ctt rfl _ _ w.heap.size 28 #[.int .i64 x.k, .int .i64 x.f, .string x.nm, .string x.tx, .complex .f64 x.re x.im, .float .f64 x.rad, .slice A3 a.len c3] (0, 0) _ rfl (HL6.out.st x (.slice A3 a.len c3)) Tryz.underlying28 rfl (by kernel_rfl)) rfl ?_
  obtain ⟨A6, c6, e6, hc6, hf6⟩ := HV6.out
  injection e6 with e6
  have e7 : A3 = A6 ∧ c3 = c6 := by simpa using e6
  obtain ⟨rfl, rfl⟩ := e7
  exact ⟨w1.heap.size + 1, A3, c3, rfl, HC3.out, by omega, FoAt.turns (st7_turns _ _ _ _) (by omega) _ _ _ hf6, Turns.below HBL6.out HBL6.out.size (Nat.le_refl _) (st7_turns _ _ _ _)⟩
set_option maxHeartbeats 4000000 in
set_option maxRecDepth 100000 in
/-- parse.Parse, of a text that is no tree. -/
theorem parse_bad {w : World} {l : List UInt8} {xs : List S77} {kt k : Nat} {er z : Int} (hlen : l.length ≤ 1048576) (hT : Tab32 w) (ht : tokP kt l 0 [] = some xs) (hkr : k ≤ 1000000) (hf : rdF xs k .sum 0 0 = some (.bad er z)) :
    Calls Tryz.prog 8 #[.string (ofL l)] w fun e w' => e = .returned (.tuple #[.agg #[.int .i64 0, .int .i64 0, .string ⟨#[]⟩, .string ⟨#[]⟩, .complex .f64 0 0, .float .f64 0, .slice none 0 0], .int .i64 z, .int .i64 er]) ∧ Below w.heap.size w w' := by
  have hB0 := alloc_below w (.cells #[.int .i64 zL.k, .int .i64 zL.f, .string zL.nm, .string zL.tx, .complex .f64 zL.re zL.im, .float .f64 zL.rad, .slice none 0 0] 28)
  have HL0 := Aside0.mk (LfBlk.new w zL (.slice none 0 0))
  have HT0 := Aside0.mk (hT.below hB0)
  have hsz := alloc_size w (.cells #[.int .i64 zL.k, .int .i64 zL.f, .string zL.nm, .string zL.tx, .complex .f64 zL.re zL.im, .float .f64 zL.rad, .slice none 0 0] 28)
  have HB0 := Aside0.mk hB0
  have HTP := Aside0.mk ht
  have hrl := tokP_len kt l 0 [] xs ht (by simp)
  have HH := Aside0.mk hf
  clear hT hB0 ht hf
  unfold zL noText at *
  generalize hwa : w.alloc (.cells _ 28) = w0 at *
  go_enter Tryz.func8, Tryz.ntmps8
  go_upto_region 4 with (go_at_call 30; (with_reducible refine (tokens_calls (k := kt) hlen HTP.out).mono ?_); rintro e w1 ⟨v, rfl, hr1, hb1⟩; have hs1 := hb1.size; have HL1 := Aside0.mk (HL0.out.below hb1); have HBL1 := Aside0.mk (below_step HB0.out hb1); have HT1 := Aside0.mk (HT0.out.below hb1); have HV1 := Aside0.mk hr1; clear hr1 hb1)
  obtain ⟨A, c, rfl, hrd⟩ := rd_new HT1.out HV1.out hrl
  have HRD := Aside0.mk hrd
  have hzg := alloc_size w1 (.cells #[.slice A xs.length c, .int .i64 0, .int .i64 0] 67)
  have hbg := alloc_below w1 (.cells #[.slice A xs.length c, .int .i64 0, .int .i64 0] 67)
  have HL2 := Aside0.mk (HL1.out.below hbg)
  have HBL2 := Aside0.mk (below_step HBL1.out hbg)
  clear hrd HV1 hbg
  go_upto_region 6 with (go_at_call 31; (with_reducible refine (whole_bad hkr HRD.out (by rw [hzg]; omega) HH.out).mono ?_); rintro e w3 ⟨gf, rfl, hg3, ht3⟩; have hs3 := ht3.size; have HG3 := Aside0.mk hg3; have HL3 := Aside0.mk (HL2.out.turns ht3 (by omega)); have HBL3 := Aside0.mk (Turns.below HBL2.out (HBL2.out.size) (by omega) ht3); clear hg3 ht3)
  have hb4 := alloc_below w3 (.cells #[.int .i64 0, .int .i64 0, .string ⟨#[]⟩, .string ⟨#[]⟩, .complex .f64 0 0, .float .f64 0, .slice none 0 0] 28)
  have HL4 := Aside0.mk (HL3.out.below hb4); have HBL4 := Aside0.mk (below_step HBL3.out hb4); have hg4 := blk_below HG3.out hb4
  clear hb4
  generalize w3.alloc (.cells #[.int .i64 0, .int .i64 0, .string ⟨#[]⟩, .string ⟨#[]⟩, .complex .f64 0 0, .float .f64 0, .slice none 0 0] 28) = w4 at *
  obtain ⟨g0, g1⟩ := blk_cell hg4
  obtain ⟨l0, l1, l2, l3, l4, l5, l6⟩ := HL4.out.cells; obtain ⟨f0, f1, f2, f3, f4, f5, f6⟩ := HL4.out.frozen; 
  have hgw : gf ≠ w.heap.size := by
    rintro rfl
    have := HL4.out
    unfold LfBlk at this
    rw [this] at hg4; cases hg4
  have hS0 : w4.drew.cell? ⟨gf, 0, none⟩ = some (.int .i64 er) ∧ w4.drew.cell? ⟨gf, 1, none⟩ = some (.int .i64 z) := ⟨g0, g1⟩
  have hq0 : (((((((w4.setCell ⟨w.heap.size, 0, none⟩ (.int .i64 0)).setCell ⟨w.heap.size, 1, none⟩ (.int .i64 0)).setCell ⟨w.heap.size, 2, none⟩ (.string ⟨#[]⟩)).setCell ⟨w.heap.size, 3, none⟩ (.string ⟨#[]⟩)).setCell ⟨w.heap.size, 4, none⟩ (.complex .f64 0 0)).setCell ⟨w.heap.size, 5, none⟩ (.float .f64 0)).setCell ⟨w.heap.size, 6, none⟩ (.slice none 0 0)).cell? ⟨gf, 0, none⟩ = some (.int .i64 er) := cell_turn2 g0 (st7_turns w4 w.heap.size ⟨0, 0, ⟨#[]⟩, ⟨#[]⟩, 0, 0, 0⟩ (.slice none 0 0)) hgw
  have hq1 : (((((((w4.setCell ⟨w.heap.size, 0, none⟩ (.int .i64 0)).setCell ⟨w.heap.size, 1, none⟩ (.int .i64 0)).setCell ⟨w.heap.size, 2, none⟩ (.string ⟨#[]⟩)).setCell ⟨w.heap.size, 3, none⟩ (.string ⟨#[]⟩)).setCell ⟨w.heap.size, 4, none⟩ (.complex .f64 0 0)).setCell ⟨w.heap.size, 5, none⟩ (.float .f64 0)).setCell ⟨w.heap.size, 6, none⟩ (.slice none 0 0)).cell? ⟨gf, 1, none⟩ = some (.int .i64 z) := cell_turn2 g1 (st7_turns w4 w.heap.size ⟨0, 0, ⟨#[]⟩, ⟨#[]⟩, 0, 0, 0⟩ (.slice none 0 0)) hgw
  have hSn : (((((((w4.setCell ⟨w.heap.size, 0, none⟩ (.int .i64 0)).setCell ⟨w.heap.size, 1, none⟩ (.int .i64 0)).setCell ⟨w.heap.size, 2, none⟩ (.string ⟨#[]⟩)).setCell ⟨w.heap.size, 3, none⟩ (.string ⟨#[]⟩)).setCell ⟨w.heap.size, 4, none⟩ (.complex .f64 0 0)).setCell ⟨w.heap.size, 5, none⟩ (.float .f64 0)).setCell ⟨w.heap.size, 6, none⟩ (.slice none 0 0)).drew.cell? ⟨gf, 0, none⟩ = some (.int .i64 er) ∧ (((((((w4.setCell ⟨w.heap.size, 0, none⟩ (.int .i64 0)).setCell ⟨w.heap.size, 1, none⟩ (.int .i64 0)).setCell ⟨w.heap.size, 2, none⟩ (.string ⟨#[]⟩)).setCell ⟨w.heap.size, 3, none⟩ (.string ⟨#[]⟩)).setCell ⟨w.heap.size, 4, none⟩ (.complex .f64 0 0)).setCell ⟨w.heap.size, 5, none⟩ (.float .f64 0)).setCell ⟨w.heap.size, 6, none⟩ (.slice none 0 0)).drew.cell? ⟨gf, 1, none⟩ = some (.int .i64 z) := ⟨drew_cell hq0, drew_cell hq1⟩
  clear hq0 hq1
  go_region_held3 (fun w' => w'.cell? ⟨gf, 0, none⟩ = some (.int .i64 er) ∧ w'.cell? ⟨gf, 1, none⟩ = some (.int .i64 z))
    (first | (with_reducible exact hS0) | (with_reducible exact hSn))
    (first | fail)
  go_wp2_with fail
  have q1 := HL4.out.st ⟨0, 0, ⟨#[]⟩, ⟨#[]⟩, 0, 0, 0⟩ (.slice none 0 0)
  have q2 := Turns.below HBL4.out HBL4.out.size (Nat.le_refl _) (st7_turns w4 w.heap.size ⟨0, 0, ⟨#[]⟩, ⟨#[]⟩, 0, 0, 0⟩ (.slice none 0 0))
  change bodyPost _ _ _ _ _ (World.drew (st7 w4 w.heap.size ⟨0, 0, ⟨#[]⟩, ⟨#[]⟩, 0, 0, 0⟩ (.slice none 0 0)))
  generalize (st7 w4 w.heap.size ⟨0, 0, ⟨#[]⟩, ⟨#[]⟩, 0, 0, 0⟩ (.slice none 0 0)) = wy at *
  have r1 : wy.drew.heap[w.heap.size]? = some (.cells #[.int .i64 0, .int .i64 0, .string ⟨#[]⟩, .string ⟨#[]⟩, .complex .f64 0 0, .float .f64 0, .slice none 0 0] 28 (0, 0)) := q1
  have r2 := below_step q2 (drew_below wy)
  generalize wy.drew = wz at *
  refine bodyPost_ret (results_ctt rfl _ _ w.heap.size 28 _ (0, 0) _ rfl r1 Tryz.underlying28 rfl (by kernel_rfl)) rfl ?_
  exact ⟨rfl, r2⟩
end Go.Proofs.YtinmbcomnjmmjaaGreatDoor
