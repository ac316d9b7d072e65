/- Proved: a part of what the statement on the names of parse needs: walks of functions of the program, and plain laws. (Texts Ed, Ey, Ec, Ef.) -/
import Derived.Test.YtinmbcomnjmmjaaGreatDoorQ23
import Derived.Test.YtinmbcomnjmmjaaGreatDoorQ35
import Derived.Test.YtinmbcomnjmmjaaGreatDoorQ32
import Derived.Test.YtinmbcomnjmmjaaGreatDoorQ24
import Derived.Test.YtinmbcomnjmmjaaGreatDoorQ31
namespace Go.Proofs.YtinmbcomnjmmjaaGreatDoor
open Go.RowKit Go.Proofs.YtinmbcomnjmmjaaGreatDoorW.PrintWords Go.Proofs.YtinmbcomnjmmjaaGreatDoorW.PrintLast Go.Proofs.YtinmbcomnjmmjaaGreatDoorW.PrintMore
open X
attribute [local go_sem] st_float st_complex
theorem Fo.len_le (a : Fo) : a.len ≤ a.count := by
  induction a with
  | nil => exact Nat.le_refl _
  | cons x a n _ ih => simp only [Fo.len, Fo.count]; omega
theorem Fo.depth_le (a : Fo) : a.depth ≤ a.count := by
  induction a with
  | nil => exact Nat.le_refl _
  | cons x a n ih1 ih => simp only [Fo.depth, Fo.count]; omega
/-- What boxing a node leaves. -/
theorem lf_box {w : World} {x : Lf} {v : Value} : LfAt (w.alloc (.cells #[.int .i64 x.k, .int .i64 x.f, .string x.nm, .string x.tx, .complex .f64 x.re x.im, .float .f64 x.rad, v] 28)) ⟨w.heap.size, 0, none⟩ x v := by
  have h := alloc_at w (.cells #[.int .i64 x.k, .int .i64 x.f, .string x.nm, .string x.tx, .complex .f64 x.re x.im, .float .f64 x.rad, v] 28)
  unfold LfAt World.cell?
  simp only [h]
  exact ⟨rfl, rfl, rfl, rfl, rfl, rfl, rfl⟩
def DepthP (x : Lf) (a : Fo) : Prop := ∀ (w : World) (lo : Nat) (v : Value), NodeV w lo v x a → a.count ≤ 1000000000 →
    Calls Tryz.prog 32 #[v] w fun e w' => e = .returned (.int .i64 ((a.depth : Nat) + 1)) ∧ Below w.heap.size w w'
theorem DepthP.use {x : Lf} {a : Fo} (h : DepthP x a) {w : World} {lo : Nat} {v : Value} (hv : NodeV w lo v x a) (hc : a.count ≤ 1000000000) :
    Calls Tryz.prog 32 #[v] w fun e w' => e = .returned (.int .i64 ((a.depth : Nat) + 1)) ∧ Below w.heap.size w w' := h w lo v hv hc
set_option maxHeartbeats 2000000 in
set_option maxRecDepth 100000 in
/-- parse.Depth. -/
theorem depth_calls (x : Lf) (a : Fo) : DepthP x a := by
  refine Fo.one_of (p := DepthP) ?_ x a
  clear x a
  intro x a hall w lo v hv hcount
  obtain ⟨A, c, rfl, hc, hf⟩ := hv
  have hlen := Nat.le_trans a.len_le hcount
  have hdep := Nat.le_trans a.depth_le hcount
  have HB1 := Aside0.mk (alloc_below w (.cells #[.int .i64 x.k, .int .i64 x.f, .string x.nm, .string x.tx, .complex .f64 x.re x.im, .float .f64 x.rad, .slice A a.len c] 28))
  have HALL := Aside0.mk hall; have HF := Aside0.mk (FoAt.below HB1.out a A 0 hf); have HCN := Aside0.mk hcount
  obtain ⟨b0, b1, b2, b3, b4, b5, b6⟩ := lf_box (w := w) (x := x) (v := .slice A a.len c)
  clear hall hf
  unfold Lf.val
  go_enter Tryz.func32, Tryz.ntmps32
  go_wp2_with fail
  go_loopw [3, 5, 9] (fun d _ i wr => ∃ (rest : Fo) (k m : Nat), i = .int .i64 (k : Nat) ∧ k + rest.len = a.len ∧ d = .int .i64 (m : Nat) ∧ Aside0 (rest.count ≤ 1000000000) ∧ Aside0 (FoAt wr lo A k rest) ∧ Aside0 (rest.All DepthP) ∧ Aside0 (max m rest.depth = a.depth) ∧ Aside0 (Below w.heap.size w wr)) (fun _ _ i _ => a.len - (intOf i).toNat)
  case atStart => exact ⟨a, 0, 0, rfl, Nat.zero_add _, rfl, HCN, HF, HALL, ⟨Nat.zero_max _⟩, HB1⟩
  case round =>
    obtain ⟨rest, k, m, rfl, hk, rfl, HC, HF1, HAL, HM, HB⟩ := hrel
    rcases rest with _ | ⟨y, b, n⟩
    · have hk' : k = a.len := hk
      subst hk'
      have HE : Aside0 (m = a.depth) := ⟨by have := HM.out; simpa [Fo.depth] using this⟩
      have hm : m ≤ 1000000000 := by have := HE.out; omega
      go_wp2_with fail
      go_ret
      exact ⟨by rw [HE.out]; rfl, HB.out⟩
    · obtain ⟨⟨ad, A', c', rfl, hlo, hc', hl, h2⟩, h3⟩ := HF1.out
      have hk' : k + (n.len + 1) = a.len := hk
      have hcnt : b.count + 1 + n.count ≤ 1000000000 := HC.out
      have hmd : max m (max (b.depth + 1) n.depth) = a.depth := HM.out
      have hx1 : decide ((k : Int) < (a.len : Int)) = true := decide_eq_true (by omega)
      have HB2 := Aside0.mk (alloc_below wr (.cells #[.int .i64 y.k, .int .i64 y.f, .string y.nm, .string y.tx, .complex .f64 y.re y.im, .float .f64 y.rad, .slice A' b.len c'] 28))
      obtain ⟨e0, e1, e2, e3, e4, e5, e6⟩ := lf_box (w := wr) (x := y) (v := .slice A' b.len c')
      obtain ⟨d0, d1, d2, d3, d4, d5, d6⟩ := hl
      have HN : Aside0 (NodeV (wr.alloc (.cells #[.int .i64 y.k, .int .i64 y.f, .string y.nm, .string y.tx, .complex .f64 y.re y.im, .float .f64 y.rad, .slice A' b.len c'] 28)) lo (.agg #[.int .i64 y.k, .int .i64 y.f, .string y.nm, .string y.tx, .complex .f64 y.re y.im, .float .f64 y.rad, .slice A' b.len c']) y b) := ⟨⟨A', c', rfl, hc', FoAt.below HB2.out b A' 0 h2⟩⟩
      have HF3 := Aside0.mk (FoAt.below HB2.out n (some ad) (k + 1) h3)
      have HBW := Aside0.mk (below_step HB.out HB2.out)
      have HCB : Aside0 (b.count ≤ 1000000000) := ⟨by omega⟩
      have HCM : Aside0 (n.count ≤ 1000000000) := ⟨by omega⟩
      have HMD : Aside0 (max (max m (b.depth + 1)) n.depth = a.depth) := ⟨by omega⟩
      have hdb : b.depth ≤ 1000000000 := by omega
      have hdm : m ≤ 1000000000 := by omega
      have HK : Aside0 (k + 1 + n.len = a.len) := ⟨by omega⟩
      have HP : Aside0 (DepthP y b) := ⟨HAL.out.1⟩
      have HR : Aside0 (n.All DepthP) := ⟨HAL.out.2⟩
      clear h2 h3 hcnt hmd hk HAL HF1 HC HM HB
      go_wp2_with (go_at_call 32; with_reducible refine (HP.out.use HN.out HCB.out).mono ?_; rintro e w4 ⟨rfl, hb4⟩; have HB4 := Aside0.mk (below_step HBW.out hb4); have HF4 := Aside0.mk (FoAt.below hb4 _ _ _ HF3.out); clear hb4)
      go_roundw
      case rel => exact ⟨n, k + 1, max m (b.depth + 1), by go_num, HK.out, by go_num, HCM, HF4, HR, HMD, HB4⟩
      case measure => simp [intOf]; omega
def CountP (x : Lf) (a : Fo) : Prop := ∀ (w : World) (lo : Nat) (v : Value), NodeV w lo v x a → a.count ≤ 1000000000 →
    Calls Tryz.prog 33 #[v] w fun e w' => e = .returned (.int .i64 ((a.count + 1 : Nat) : Int)) ∧ Below w.heap.size w w'
theorem CountP.use {x : Lf} {a : Fo} (h : CountP x a) {w : World} {lo : Nat} {v : Value} (hv : NodeV w lo v x a) (hc : a.count ≤ 1000000000) :
    Calls Tryz.prog 33 #[v] w fun e w' => e = .returned (.int .i64 ((a.count + 1 : Nat) : Int)) ∧ Below w.heap.size w w' := h w lo v hv hc
set_option maxHeartbeats 2000000 in
set_option maxRecDepth 100000 in
/-- parse.Count. -/
theorem count_calls (x : Lf) (a : Fo) : CountP x a := by
  refine Fo.one_of (p := CountP) ?_ x a
  clear x a
  intro x a hall w lo v hv hcount
  obtain ⟨A, c, rfl, hc, hf⟩ := hv
  have hlen := Nat.le_trans a.len_le hcount
  have hdep := Nat.le_trans a.depth_le hcount
  have HB1 := Aside0.mk (alloc_below w (.cells #[.int .i64 x.k, .int .i64 x.f, .string x.nm, .string x.tx, .complex .f64 x.re x.im, .float .f64 x.rad, .slice A a.len c] 28))
  have HALL := Aside0.mk hall; have HF := Aside0.mk (FoAt.below HB1.out a A 0 hf); have HCN := Aside0.mk hcount
  obtain ⟨b0, b1, b2, b3, b4, b5, b6⟩ := lf_box (w := w) (x := x) (v := .slice A a.len c)
  clear hall hf
  unfold Lf.val
  go_enter Tryz.func33, Tryz.ntmps33
  go_wp2_with fail
  go_loopw [3, 5, 9] (fun d _ i wr => ∃ (rest : Fo) (k m : Nat), i = .int .i64 (k : Nat) ∧ k + rest.len = a.len ∧ d = .int .i64 (m : Nat) ∧ Aside0 (rest.count ≤ 1000000000) ∧ Aside0 (FoAt wr lo A k rest) ∧ Aside0 (rest.All CountP) ∧ Aside0 (m + rest.count = a.count + 1) ∧ Aside0 (Below w.heap.size w wr)) (fun _ _ i _ => a.len - (intOf i).toNat)
  case atStart => exact ⟨a, 0, 1, rfl, Nat.zero_add _, rfl, HCN, HF, HALL, ⟨Nat.add_comm _ _⟩, HB1⟩
  case round =>
    obtain ⟨rest, k, m, rfl, hk, rfl, HC, HF1, HAL, HM, HB⟩ := hrel
    rcases rest with _ | ⟨y, b, n⟩
    · have hk' : k = a.len := hk
      subst hk'
      have HE : Aside0 (m = a.count + 1) := ⟨HM.out⟩
      go_wp2_with fail
      go_ret
      exact ⟨by rw [HE.out]; rfl, HB.out⟩
    · obtain ⟨⟨ad, A', c', rfl, hlo, hc', hl, h2⟩, h3⟩ := HF1.out
      have hk' : k + (n.len + 1) = a.len := hk
      have hcnt : b.count + 1 + n.count ≤ 1000000000 := HC.out
      have hmd : m + (b.count + 1 + n.count) = a.count + 1 := HM.out
      have hx1 : decide ((k : Int) < (a.len : Int)) = true := decide_eq_true (by omega)
      have HB2 := Aside0.mk (alloc_below wr (.cells #[.int .i64 y.k, .int .i64 y.f, .string y.nm, .string y.tx, .complex .f64 y.re y.im, .float .f64 y.rad, .slice A' b.len c'] 28))
      obtain ⟨e0, e1, e2, e3, e4, e5, e6⟩ := lf_box (w := wr) (x := y) (v := .slice A' b.len c')
      obtain ⟨d0, d1, d2, d3, d4, d5, d6⟩ := hl
      have HN : Aside0 (NodeV (wr.alloc (.cells #[.int .i64 y.k, .int .i64 y.f, .string y.nm, .string y.tx, .complex .f64 y.re y.im, .float .f64 y.rad, .slice A' b.len c'] 28)) lo (.agg #[.int .i64 y.k, .int .i64 y.f, .string y.nm, .string y.tx, .complex .f64 y.re y.im, .float .f64 y.rad, .slice A' b.len c']) y b) := ⟨⟨A', c', rfl, hc', FoAt.below HB2.out b A' 0 h2⟩⟩
      have HF3 := Aside0.mk (FoAt.below HB2.out n (some ad) (k + 1) h3)
      have HBW := Aside0.mk (below_step HB.out HB2.out)
      have HCB : Aside0 (b.count ≤ 1000000000) := ⟨by omega⟩
      have HCM : Aside0 (n.count ≤ 1000000000) := ⟨by omega⟩
      have HMD : Aside0 (m + (b.count + 1) + n.count = a.count + 1) := ⟨by omega⟩
      have hdb : b.count ≤ 1000000000 := by omega
      have hdm : m ≤ 1000000001 := by omega
      have HK : Aside0 (k + 1 + n.len = a.len) := ⟨by omega⟩
      have HP : Aside0 (CountP y b) := ⟨HAL.out.1⟩
      have HR : Aside0 (n.All CountP) := ⟨HAL.out.2⟩
      clear h2 h3 hcnt hmd hk HAL HF1 HC HM HB
      go_wp2_with (go_at_call 33; with_reducible refine (HP.out.use HN.out HCB.out).mono ?_; rintro e w4 ⟨rfl, hb4⟩; have HB4 := Aside0.mk (below_step HBW.out hb4); have HF4 := Aside0.mk (FoAt.below hb4 _ _ _ HF3.out); clear hb4)
      go_roundw
      case rel => exact ⟨n, k + 1, m + (b.count + 1), by go_num, HK.out, by go_num, HCM, HF4, HR, HMD, HB4⟩
      case measure => simp [intOf]; omega
end Go.Proofs.YtinmbcomnjmmjaaGreatDoor
namespace Go.Proofs.YtinmbcomnjmmjaaGreatDoor
open Go.RowKit Go.Proofs.YtinmbcomnjmmjaaGreatDoorW.PrintWords Go.Proofs.YtinmbcomnjmmjaaGreatDoorW.PrintLast Go.Proofs.YtinmbcomnjmmjaaGreatDoorW.PrintMore
open X
attribute [local go_sem] st_float st_complex
set_option maxHeartbeats 2000000 in
set_option maxRecDepth 100000 in
/-- ieee.Same, of a float and itself. -/
theorem fsame_refl (a : Nat) (w : World) : Calls Tryz.prog 129 #[.float .f64 a, .float .f64 a] w fun e w' => e = .returned (.bool true) ∧ Below w.heap.size w w' := by
  have r53 := run53
  go_enter Tryz.func129, Tryz.ntmps129
  go_wp2_with fail
  go_ret
  exact ⟨rfl, Below.refl _ _⟩
set_option maxHeartbeats 2000000 in
set_option maxRecDepth 100000 in
/-- parse.same, of a ball and itself. -/
theorem same_refl (re im rad : Nat) (w : World) : Calls Tryz.prog 100 #[.agg #[.complex .f64 re im, .float .f64 rad], .agg #[.complex .f64 re im, .float .f64 rad]] w fun e w' => e = .returned (.bool true) ∧ Below w.heap.size w w' := by
  have hb1 := alloc_below w (.cells #[.complex .f64 re im, .float .f64 rad] 25)
  have hb2 := below_step hb1 (alloc_below _ (.cells #[.complex .f64 re im, .float .f64 rad] 25))
  have h1 := blk_alloc (alloc_at w (.cells #[.complex .f64 re im, .float .f64 rad] 25)) (.cells #[.complex .f64 re im, .float .f64 rad] 25)
  have h2 := alloc_at (w.alloc (.cells #[.complex .f64 re im, .float .f64 rad] 25)) (.cells #[.complex .f64 re im, .float .f64 rad] 25)
  rw [alloc_size] at h2
  have H1 := Aside0.mk h1; have H2 := Aside0.mk h2; have HB2 := Aside0.mk hb2
  obtain ⟨c0, c1⟩ := blk_cell h1
  obtain ⟨d0, d1⟩ := blk_cell h2
  clear hb1 hb2 h1 h2
  generalize hW : (w.alloc (.cells #[.complex .f64 re im, .float .f64 rad] 25)).alloc (.cells #[.complex .f64 re im, .float .f64 rad] 25) = W at *
  have hf1 : True := trivial
  have hf2 : True := trivial
  go_enter Tryz.func100, Tryz.ntmps100
  go_wp2_with (first
    | (go_at_call 129; have hflag := hf1; clear hflag; (with_reducible refine (fsame_refl re _).mono ?_); rintro e w1 ⟨rfl, hb1⟩; have HB3 := Aside0.mk (below_step HB2.out hb1); have H3 := Aside0.mk (blk_below H1.out hb1); have H4 := Aside0.mk (blk_below H2.out hb1); obtain ⟨c0, c1⟩ := blk_cell H3.out; obtain ⟨d0, d1⟩ := blk_cell H4.out; clear hb1 hf1)
    | (go_at_call 129; have hflag := hf2; clear hflag; (with_reducible refine (fsame_refl im _).mono ?_); rintro e w2 ⟨rfl, hb1⟩; have HB4 := Aside0.mk (below_step HB3.out hb1); have H5 := Aside0.mk (blk_below H3.out hb1); have H6 := Aside0.mk (blk_below H4.out hb1); obtain ⟨c0, c1⟩ := blk_cell H5.out; obtain ⟨d0, d1⟩ := blk_cell H6.out; clear hb1 hf2)
    | (go_at_call 129; (with_reducible refine (fsame_refl rad _).mono ?_); rintro e w3 ⟨rfl, hb1⟩; have HB5 := Aside0.mk (below_step HB4.out hb1); clear hb1))
  go_ret
  exact ⟨rfl, HB5.out⟩
set_option maxHeartbeats 4000000 in
set_option maxRecDepth 100000 in
/-- parse.Equal, of two nodes without arguments that are alike. -/
theorem equal_leaf (x : Lf) (A A' : Option Addr) (c c' : Nat) (w : World) : Calls Tryz.prog 72 #[.agg #[.int .i64 x.k, .int .i64 x.f, .string x.nm, .string x.tx, .complex .f64 x.re x.im, .float .f64 x.rad, .slice A 0 c], .agg #[.int .i64 x.k, .int .i64 x.f, .string x.nm, .string x.tx, .complex .f64 x.re x.im, .float .f64 x.rad, .slice A' 0 c']] w fun e w' => e = .returned (.bool true) ∧ Below w.heap.size w w' := by
  have hb2 := below_step (alloc_below w (.cells #[.int .i64 x.k, .int .i64 x.f, .string x.nm, .string x.tx, .complex .f64 x.re x.im, .float .f64 x.rad, .slice A 0 c] 28)) (alloc_below _ (.cells #[.int .i64 x.k, .int .i64 x.f, .string x.nm, .string x.tx, .complex .f64 x.re x.im, .float .f64 x.rad, .slice A' 0 c'] 28))
  have h1 := (LfBlk.new w x (.slice A 0 c)).below (alloc_below _ (.cells #[.int .i64 x.k, .int .i64 x.f, .string x.nm, .string x.tx, .complex .f64 x.re x.im, .float .f64 x.rad, .slice A' 0 c'] 28))
  have h2 := LfBlk.new (w.alloc (.cells #[.int .i64 x.k, .int .i64 x.f, .string x.nm, .string x.tx, .complex .f64 x.re x.im, .float .f64 x.rad, .slice A 0 c] 28)) x (.slice A' 0 c')
  rw [alloc_size] at h2
  have H1 := Aside0.mk h1; have H2 := Aside0.mk h2; have HB2 := Aside0.mk hb2
  obtain ⟨c0, c1, c2, c3, c4, c5, c6⟩ := h1.cells
  obtain ⟨d0, d1, d2, d3, d4, d5, d6⟩ := h2.cells
  clear hb2 h1 h2
  generalize hW : (w.alloc (.cells #[.int .i64 x.k, .int .i64 x.f, .string x.nm, .string x.tx, .complex .f64 x.re x.im, .float .f64 x.rad, .slice A 0 c] 28)).alloc (.cells #[.int .i64 x.k, .int .i64 x.f, .string x.nm, .string x.tx, .complex .f64 x.re x.im, .float .f64 x.rad, .slice A' 0 c'] 28) = W at *
  go_enter Tryz.func72, Tryz.ntmps72
  go_wp2_with (go_at_call 100; (with_reducible refine (same_refl _ _ _ _).mono ?_); rintro e w1 ⟨rfl, hb1⟩; have HB3 := Aside0.mk (below_step HB2.out hb1); obtain ⟨c0, c1, c2, c3, c4, c5, c6⟩ := (H1.out.below hb1).cells; obtain ⟨d0, d1, d2, d3, d4, d5, d6⟩ := (H2.out.below hb1).cells; clear hb1)
  go_loopw [52] (fun v wr => v = .int .i64 0 ∧ Aside0 (Below w.heap.size w wr)) (fun _ _ => 0)
  case atStart => exact ⟨rfl, HB3⟩
  case round =>
    obtain ⟨rfl, HB4⟩ := hrel
    go_wp2_with fail
    go_ret
    exact ⟨rfl, HB4.out⟩
end Go.Proofs.YtinmbcomnjmmjaaGreatDoor
namespace Go.Proofs.YtinmbcomnjmmjaaGreatDoor
open Go.RowKit Go.Proofs.YtinmbcomnjmmjaaGreatDoorW.PrintWords Go.Proofs.YtinmbcomnjmmjaaGreatDoorW.PrintLast Go.Proofs.YtinmbcomnjmmjaaGreatDoorW.PrintMore
open X
def dig (c : UInt8) : Bool := decide (48 ≤ c.toNat) && decide (c.toNat ≤ 57)
/-- How many digits stand ahead. -/
def digN (l : List UInt8) : Nat := (l.takeWhile dig).length
def ofL (l : List UInt8) : ByteArray := ⟨l.toArray⟩
theorem ofL_list (l : List UInt8) : (ofL l).data.toList = l := by simp [ofL]
theorem ofL_size (l : List UInt8) : (ofL l).size = l.length := by show (l.toArray).size = _; simp
theorem extract_ofL (l : List UInt8) (i : Nat) : (ofL l).extract i (ofL l).size = ofL (l.drop i) := by
  apply ByteArray.ext
  apply Array.toList_inj.1
  rw [ofL_size]
  simp [ofL, ByteArray.data_extract]
  exact List.take_of_length_le (by simp)
theorem extract_ofL0 (l : List UInt8) (i : Nat) : (ofL l).extract 0 i = ofL (l.take i) := by
  apply ByteArray.ext
  apply Array.toList_inj.1
  simp [ofL, ByteArray.data_extract]
theorem digN_le (l : List UInt8) : digN l ≤ l.length := by
  unfold digN
  have := (List.takeWhile_sublist (p := dig) (l := l)).length_le
  exact this
theorem digN_drop {l : List UInt8} {i : Nat} (hi : i < l.length) (h : dig (l.getD i 0) = true) : digN (l.drop i) = digN (l.drop (i + 1)) + 1 := by
  rw [List.drop_eq_getElem_cons hi]
  rw [List.getD_eq_getElem?_getD, List.getElem?_eq_getElem hi] at h
  unfold digN
  rw [List.takeWhile_cons, if_pos (by simpa using h)]
  rfl
theorem digN_stop {l : List UInt8} {i : Nat} (hi : i < l.length) (h : dig (l.getD i 0) = false) : digN (l.drop i) = 0 := by
  rw [List.drop_eq_getElem_cons hi]
  rw [List.getD_eq_getElem?_getD, List.getElem?_eq_getElem hi] at h
  unfold digN
  rw [List.takeWhile_cons, if_neg (by simp at h; simp [h])]
  rfl
theorem byte_at {s : ByteArray} {pos : Nat} (hp : pos < s.size) : s[pos]'hp = s.data.toList.getD pos 0 := by
  have hl : pos < s.data.toList.length := by rw [data_length]; exact hp
  rw [List.getD_eq_getElem?_getD, List.getElem?_eq_getElem hl]; rfl
theorem dec_dig {s : ByteArray} {pos : Nat} (hp : pos < s.size) (h : dig (s.data.toList.getD pos 0) = true) : Utf8.decode s pos = ((s.data.toList.getD pos 0).toNat, 1) := by
  unfold dig at h
  rw [Bool.and_eq_true, decide_eq_true_eq, decide_eq_true_eq] at h
  rw [decode_ascii s pos hp (by rw [byte_at hp]; omega), byte_at hp]
theorem dec_nodig {s : ByteArray} {pos : Nat} (hp : pos < s.size) (h : dig (s.data.toList.getD pos 0) = false) : (Utf8.decode s pos).1 < 48 ∨ 57 < (Utf8.decode s pos).1 := by
  unfold dig at h
  rw [Bool.and_eq_false_iff, decide_eq_false_iff_not, decide_eq_false_iff_not] at h
  by_cases ha : (s[pos]'hp).toNat < 128
  · rw [decode_ascii s pos hp ha, byte_at hp]
    show (s.data.toList.getD pos 0).toNat < 48 ∨ 57 < (s.data.toList.getD pos 0).toNat
    omega
  · have := (decode_high s pos hp (by omega)).1
    right; omega
set_option maxHeartbeats 2000000 in
set_option maxRecDepth 100000 in
/-- lex.digits. -/
theorem digits_calls {w : World} {s : ByteArray} (hm : s.size ≤ 1000000000) :
    Calls Tryz.prog 112 #[.string s] w fun e w' => e = .returned (.int .i64 (digN s.data.toList : Nat)) ∧ Below w.heap.size w w' := by
  have hlen := data_length s
  go_enter Tryz.func112, Tryz.ntmps112
  go_wp2_with fail
  go_loopw [3, 4] (fun _ _ wr => ∃ (pos : Nat), pos ≤ s.size ∧ Aside0 (digN s.data.toList = pos + digN (s.data.toList.drop pos)) ∧ Aside0 (wr.heap[w.heap.size]? = some (.stringIter s pos)) ∧ Aside0 (Below w.heap.size w wr)) (fun _ _ wr => s.size - wr.iterPos w.heap.size)
  case atStart => exact ⟨0, by omega, ⟨by simp⟩, ⟨World.iter_heap w s 0⟩, ⟨(Below.refl _ w).alloc (Nat.le_refl _) _⟩⟩
  case round =>
    obtain ⟨pos, hpos, HD, HI, HB⟩ := hrel
    by_cases hp : pos < s.size
    · have hnx := fun ty => run_next_at (P := Tryz.prog) ty HI.out hp
      cases hd : dig (s.data.toList.getD pos 0)
      · have hx := dec_nodig hp hd
        have HE : Aside0 (digN s.data.toList = pos) := ⟨by rw [HD.out, digN_stop (by omega) hd]; rfl⟩
        have HB2 := Aside0.mk (Turns.below HB.out HB.out.size (Nat.le_refl _) (setIter_turns wr w.heap.size s (pos + (Utf8.decode s pos).2)))
        clear hd
        generalize Utf8.decode s pos = d at *
        generalize setIter wr w.heap.size s _ = wx at *
        clear HD HI
        rcases hx with hx | hx
        · have hx1 : decide (((d.1 : Nat) : Int) < 48) = true := decide_eq_true (by omega)
          clear hx
          go_wp2_with fail
          go_ret
          exact ⟨by rw [HE.out]; rfl, HB2.out⟩
        · have hx1 : decide (((d.1 : Nat) : Int) < 48) = false := decide_eq_false (by omega)
          have hx2 : decide (57 < ((d.1 : Nat) : Int)) = true := decide_eq_true (by omega)
          clear hx
          go_wp2_with fail
          go_ret
          exact ⟨by rw [HE.out]; rfl, HB2.out⟩
      · rw [dec_dig hp hd] at hnx
        have HE : Aside0 (digN s.data.toList = pos + 1 + digN (s.data.toList.drop (pos + 1))) := ⟨by rw [HD.out, digN_drop (by omega) hd]; omega⟩
        have hi2 := setIter_at (s := s) (p := pos + 1) (blk_lt HI.out)
        have hb2 := Turns.below HB.out HB.out.size (Nat.le_refl _) (setIter_turns wr w.heap.size s (pos + 1))
        have HI2 := Aside0.mk hi2; have HB2 := Aside0.mk hb2; have HPO := Aside0.mk (iterPos_of HI.out)
        clear hi2 hb2
        have hx1 : decide (((s.data.toList.getD pos 0).toNat : Int) < 48) = false := by
          unfold dig at hd; rw [Bool.and_eq_true, decide_eq_true_eq, decide_eq_true_eq] at hd
          exact decide_eq_false (by omega)
        have hx2 : decide (57 < ((s.data.toList.getD pos 0).toNat : Int)) = false := by
          unfold dig at hd; rw [Bool.and_eq_true, decide_eq_true_eq, decide_eq_true_eq] at hd
          exact decide_eq_false (by omega)
        clear hd
        generalize s.data.toList.getD pos 0 = b at *
        go_wp2_with fail
        go_roundw
        case rel => exact ⟨pos + 1, by omega, HE, HI2, HB2⟩
        case measure => rw [HPO.out, iterPos_of HI2.out]; omega
    · have hnx := fun ty => run_next_out (P := Tryz.prog) ty HI.out hp
      have HE : Aside0 (digN s.data.toList = s.size) := ⟨by rw [HD.out, List.drop_of_length_le (by omega)]; show pos + 0 = _; omega⟩
      go_wp2_with fail
      go_ret
      exact ⟨by rw [HE.out]; rfl, HB.out⟩
/-- How long a number at a text's beginning is; none: it bears a point or may bear an exponent. -/
def numP (l : List UInt8) : Option Nat := if (l.getD (digN l) 0) = 46 ∨ (l.getD (digN l) 0) = 101 ∨ (l.getD (digN l) 0) = 69 then none else some (digN l)
set_option maxHeartbeats 2000000 in
set_option maxRecDepth 100000 in
/-- lex.number of a text without a point or an exponent. -/
theorem number_calls {w : World} {s : ByteArray} {n : Nat} (hm : s.size ≤ 1000000000) (h : numP s.data.toList = some n) :
    Calls Tryz.prog 90 #[.string s] w fun e w' => e = .returned (.tuple #[.int .i64 (n : Int), .int .i64 (n : Int)]) ∧ Below w.heap.size w w' := by
  have hlen := data_length s
  have hle := digN_le s.data.toList
  unfold numP at h
  split at h
  · cases h
  · rename_i hno
    obtain rfl := Option.some.inj h
    clear h
    have HC := Aside0.mk (digits_calls (w := w) hm)
    have hbyte : ∀ hh : digN s.data.toList < s.size, (s[digN s.data.toList]'hh) = s.data.toList.getD (digN s.data.toList) 0 := fun hh => byte_at hh
    generalize s.data.toList.getD (digN s.data.toList) 0 = b at *
    generalize digN s.data.toList = n at *
    have hx1 : (((b.toNat : Nat) : Int) == 46) = false := beq_eq_false_iff_ne.mpr (fun e => hno (Or.inl (UInt8.toNat_inj.1 (by show b.toNat = 46; omega))))
    have hx2 : (((b.toNat : Nat) : Int) == 101) = false := beq_eq_false_iff_ne.mpr (fun e => hno (Or.inr (Or.inl (UInt8.toNat_inj.1 (by show b.toNat = 101; omega)))))
    have hx3 : (((b.toNat : Nat) : Int) == 69) = false := beq_eq_false_iff_ne.mpr (fun e => hno (Or.inr (Or.inr (UInt8.toNat_inj.1 (by show b.toNat = 69; omega)))))
    clear hno
    have hn' : n ≤ s.size := by omega
    clear hle hlen
    by_cases h0 : n = 0
    · subst h0
      by_cases hz : 0 < s.size
      · go_enter Tryz.func90, Tryz.ntmps90
        go_wp2_with (go_at_call 112; refine HC.out.mono ?_; rintro e w1 ⟨rfl, hb1⟩; have HB1 := Aside0.mk hb1; clear hb1)
        go_ret2
        exact ⟨rfl, HB1.out⟩
      · go_enter Tryz.func90, Tryz.ntmps90
        go_wp2_with (go_at_call 112; refine HC.out.mono ?_; rintro e w1 ⟨rfl, hb1⟩; have HB1 := Aside0.mk hb1; clear hb1)
        go_ret2
        exact ⟨rfl, HB1.out⟩
    · have h0' : (((n : Nat) : Int) == 0) = false := beq_eq_false_iff_ne.mpr (by omega)
      by_cases hz : n < s.size
      · go_enter Tryz.func90, Tryz.ntmps90
        go_wp2_with (go_at_call 112; refine HC.out.mono ?_; rintro e w1 ⟨rfl, hb1⟩; have HB1 := Aside0.mk hb1; clear hb1)
        go_ret2
        exact ⟨rfl, HB1.out⟩
      · go_enter Tryz.func90, Tryz.ntmps90
        go_wp2_with (go_at_call 112; refine HC.out.mono ?_; rintro e w1 ⟨rfl, hb1⟩; have HB1 := Aside0.mk hb1; clear hb1)
        go_ret2
        exact ⟨rfl, HB1.out⟩
end Go.Proofs.YtinmbcomnjmmjaaGreatDoor
namespace Go.Proofs.YtinmbcomnjmmjaaGreatDoor
open Go.RowKit Go.Proofs.YtinmbcomnjmmjaaGreatDoorW.PrintWords Go.Proofs.YtinmbcomnjmmjaaGreatDoorW.PrintLast Go.Proofs.YtinmbcomnjmmjaaGreatDoorW.PrintMore
open X
/-- How many blanks stand ahead; none: a remark does. -/
def blankN : List UInt8 → Option Nat
  | [] => some 0
  | c :: r => if c.toNat = 9 ∨ c.toNat = 10 ∨ c.toNat = 13 ∨ c.toNat = 32 then (blankN r).map (· + 1) else if c.toNat = 35 then none else some 0
theorem drop_getD {l : List UInt8} {i : Nat} (hi : i < l.length) : l.drop i = l.getD i 0 :: l.drop (i + 1) := by
  rw [List.drop_eq_getElem_cons hi, List.getD_eq_getElem?_getD, List.getElem?_eq_getElem hi]; rfl
theorem blankN_le : ∀ (l : List UInt8) (n : Nat), blankN l = some n → n ≤ l.length
  | [], n, h => by simp [blankN] at h; omega
  | c :: r, n, h => by
    unfold blankN at h
    split at h
    · rcases hr : blankN r with _ | m
      · rw [hr] at h; cases h
      · rw [hr] at h
        have := blankN_le r m hr
        have e : m + 1 = n := Option.some.inj h
        simp only [List.length_cons]; omega
    · split at h
      · cases h
      · have := Option.some.inj h; omega
set_option maxHeartbeats 2000000 in
set_option maxRecDepth 100000 in
/-- lex.blanks. -/
theorem blanks_calls {w : World} {s : ByteArray} {n : Nat} (hm : s.size ≤ 1000000000) (h : blankN s.data.toList = some n) :
    Calls Tryz.prog 61 #[.string s] w fun e w' => e = .returned (.int .i64 (n : Nat)) ∧ Below w.heap.size w w' := by
  have hlen := data_length s
  have H := Aside0.mk h
  clear h
  go_enter Tryz.func61, Tryz.ntmps61
  go_wp2_with fail
  go_step3
  go_wp2_with fail
  go_step3
  go_wp2_with fail
  go_loopw [3, 4, 12, 19] (fun v _ _ _ wr => ∃ (pos m : Nat), v = .int .i64 (pos : Nat) ∧ pos ≤ s.size ∧ Aside0 (blankN (s.data.toList.drop pos) = some m) ∧ Aside0 (n = pos + m) ∧ wr = w) (fun v _ _ _ _ => s.size - (intOf v).toNat)
  case atStart => exact ⟨0, n, rfl, by omega, H, ⟨by omega⟩, rfl⟩
  case round =>
    obtain ⟨pos, m, rfl, hpos, HN, HE, rfl⟩ := hrel
    by_cases hp : pos < s.size
    · have hd := HN.out
      rw [drop_getD (by omega)] at hd
      unfold blankN at hd
      have hb : ∀ hh : pos < s.size, s[pos]'hh = s.data.toList.getD pos 0 := fun hh => byte_at hh
      generalize s.data.toList.getD pos 0 = b at *
      have hx0 : decide ((pos : Int) < (s.size : Int)) = true := decide_eq_true (by omega)
      by_cases h1 : b.toNat = 9 ∨ b.toNat = 10 ∨ b.toNat = 13 ∨ b.toNat = 32
      · rw [if_pos h1] at hd
        obtain ⟨m', hm', e⟩ := Option.map_eq_some_iff.1 hd
        have HN' := Aside0.mk hm'
        have HE' : Aside0 (n = pos + 1 + m') := ⟨by have := HE.out; omega⟩
        clear hd hm' HN HE
        rcases h1 with h1 | h1 | h1 | h1
        all_goals (go_wp2_with fail; go_roundw; (case rel => refine ⟨pos + 1, m', by go_num, by omega, HN', HE', trivial⟩); (case measure => simp [intOf]; omega))
      · rw [if_neg h1] at hd
        by_cases h2 : b.toNat = 35
        · rw [if_pos h2] at hd; cases hd
        · rw [if_neg h2] at hd
          have hm0 : 0 = m := Option.some.inj hd
          have HE' : Aside0 (n = pos) := ⟨by have := HE.out; omega⟩
          have g1 : ((b.toNat : Int) == 9) = false := beq_eq_false_iff_ne.2 (fun e => h1 (Or.inl (by omega)))
          have g2 : ((b.toNat : Int) == 10) = false := beq_eq_false_iff_ne.2 (fun e => h1 (Or.inr (Or.inl (by omega))))
          have g3 : ((b.toNat : Int) == 13) = false := beq_eq_false_iff_ne.2 (fun e => h1 (Or.inr (Or.inr (Or.inl (by omega)))))
          have g4 : ((b.toNat : Int) == 32) = false := beq_eq_false_iff_ne.2 (fun e => h1 (Or.inr (Or.inr (Or.inr (by omega)))))
          have g5 : ((b.toNat : Int) == 35) = false := beq_eq_false_iff_ne.2 (fun e => h2 (by omega))
          clear h1 h2 hd HN HE hm0
          go_wp2_with fail
          simp only [Exit.noGoto]
          go_ret
          exact ⟨by rw [HE'.out]; rfl, Below.refl _ _⟩
    · have hx0 : decide ((pos : Int) < (s.size : Int)) = false := decide_eq_false (by omega)
      have HE' : Aside0 (n = pos) := ⟨by
        have h1 := HN.out
        rw [List.drop_of_length_le (by omega)] at h1
        have := Option.some.inj h1
        have := HE.out
        omega⟩
      clear HN HE
      go_wp2_with fail
      simp only [Exit.noGoto]
      go_ret
      exact ⟨by rw [HE'.out]; rfl, Below.refl _ _⟩
/-- The token at a text's beginning: its kind, how long it is. -/
def firstP (l : List UInt8) : Option (Int × Nat) := match X.lex_name.f (l.length + 2) (ofL l) with
  | none => none
  | some n => if 0 < n then (if n ≤ 64 then some (2, n.toNat) else none) else match numP l with
    | none => none
    | some m => if 0 < m then (if m ≤ 1100 then some (1, m) else none) else match l with
      | [] => none
      | c :: _ => if ([43, 45, 42, 47, 94, 40, 41, 44, 91, 93, 61, 126] : List UInt8).contains c then some (3, 1) else none
set_option maxHeartbeats 2000000 in
set_option maxRecDepth 100000 in
/-- lex.first. -/
theorem first_calls {w : World} {l : List UInt8} {k : Int} {n : Nat} (hm : l.length ≤ 1000000000) (h : firstP l = some (k, n)) (hn : n ≤ l.length) :
    Calls Tryz.prog 62 #[.string (ofL l)] w fun e w' => e = .returned (.tuple #[.agg #[.int .i64 k, .string (ofL (l.take n)), .int .i64 0], .int .i64 0]) ∧ Below w.heap.size w w' := by
  have hsz := ofL_size l
  have HB1 := Aside0.mk (alloc_below w (.cells #[.int .i64 0, .string ⟨#[]⟩, .int .i64 0] 77))
  have HBL := Aside0.mk (alloc_at w (.cells #[.int .i64 0, .string ⟨#[]⟩, .int .i64 0] 77))
  have hla := ofL_list l
  have hcut := extract_ofL0 l n
  unfold firstP at h
  split at h
  · cases h
  · rename_i nm hnm
    have HNM := Aside0.mk (X.lex_name.calls (l.length + 2) (ofL l) nm (w.alloc (.cells #[.int .i64 0, .string ⟨#[]⟩, .int .i64 0] 77)) hnm)
    split at h
    · rename_i hpos
      split at h
      · rename_i hle
        obtain ⟨rfl, rfl⟩ := Prod.mk.inj (Option.some.inj h)
        have hx : decide (0 < nm) = true := decide_eq_true hpos
        have hx2 : decide (64 < nm) = false := decide_eq_false (by omega)
        clear h hnm
        go_enter Tryz.func62, Tryz.ntmps62
        go_wp2_with (go_at_call 89; (with_reducible refine HNM.out.mono ?_); rintro e w1 ⟨rfl, hd⟩; have hb1 := hd.below; have HB2 := Aside0.mk (below_step HB1.out hb1); have HBL2 := Aside0.mk (blk_below HBL.out hb1); obtain ⟨l0, l1, l2⟩ := blk3 HBL2.out; have hfr := blk_frozen HBL2.out; have f0 := hfr 0; have f1 := hfr 1; have f2 := hfr 2; clear hd hb1 hfr)
        refine bodyPost_ret (results_ct rfl _ _ w.heap.size 77 #[.int .i64 2, .string (ofL (l.take nm.toNat)), .int .i64 0] (0, 0) _ rfl (blk_put (blk_put (blk_put HBL2.out 0 _ rfl) 1 _ rfl) 2 _ rfl) Tryz.underlying77 rfl (by kernel_rfl)) rfl ?_
        exact ⟨rfl, Turns.below HB2.out HB2.out.size (Nat.le_refl _) (((Turns.set _ w.heap.size 0 _).trans (Turns.set _ w.heap.size 1 _)).trans (Turns.set _ w.heap.size 2 _))⟩
      · cases h
    · rename_i hpos
      have hx : decide (0 < nm) = false := decide_eq_false hpos
      have HSZ : Aside0 ((ofL l).size ≤ 1000000000) := ⟨by omega⟩
      split at h
      · cases h
      · rename_i m hnum
        have HNU : Aside0 (numP (ofL l).data.toList = some m) := ⟨by rw [hla]; exact hnum⟩
        split at h
        · rename_i hm0
          split at h
          · rename_i hle
            obtain ⟨rfl, rfl⟩ := Prod.mk.inj (Option.some.inj h)
            have hx2 : decide (0 < (m : Int)) = true := decide_eq_true (by omega)
            have hx3 : decide (1100 < (m : Int)) = false := decide_eq_false (by omega)
            clear h hnm hnum
            go_enter Tryz.func62, Tryz.ntmps62
            go_wp2_with (first
              | (go_at_call 89; (with_reducible refine HNM.out.mono ?_); rintro e w1 ⟨rfl, hd⟩; have hb1 := hd.below; have HB2 := Aside0.mk (below_step HB1.out hb1); have HBL2 := Aside0.mk (blk_below HBL.out hb1); clear hd hb1)
              | (go_at_call 90; (with_reducible refine (number_calls HSZ.out HNU.out).mono ?_); rintro e w2 ⟨rfl, hb2⟩; have HB3 := Aside0.mk (below_step HB2.out hb2); have HBL3 := Aside0.mk (blk_below HBL2.out hb2); obtain ⟨l0, l1, l2⟩ := blk3 HBL3.out; have hfr := blk_frozen HBL3.out; have f0 := hfr 0; have f1 := hfr 1; have f2 := hfr 2; clear hb2 hfr))
            refine bodyPost_ret (results_ct rfl _ _ w.heap.size 77 #[.int .i64 1, .string (ofL (l.take m)), .int .i64 0] (0, 0) _ rfl (blk_put (blk_put (blk_put HBL3.out 0 _ rfl) 1 _ rfl) 2 _ rfl) Tryz.underlying77 rfl (by kernel_rfl)) rfl ?_
            exact ⟨rfl, Turns.below HB3.out HB3.out.size (Nat.le_refl _) (((Turns.set _ w.heap.size 0 _).trans (Turns.set _ w.heap.size 1 _)).trans (Turns.set _ w.heap.size 2 _))⟩
          · cases h
        · rename_i hm0
          have hm1 : m = 0 := by omega
          subst hm1
          rcases l with _ | ⟨c, r⟩
          · cases h
          · simp only at h
            split at h
            · rename_i hc
              obtain ⟨rfl, rfl⟩ := Prod.mk.inj (Option.some.inj h)
              have hb0 : ∀ hh : 0 < (ofL (c :: r)).size, (ofL (c :: r))[0]'hh = c := fun hh => by rw [byte_at, ofL_list]; rfl
              obtain ⟨z, hz, hz0⟩ : ∃ z, Lib.indexByte (⟨#[43, 45, 42, 47, 94, 40, 41, 44, 91, 93, 61, 126]⟩ : ByteArray).data.toList ((c.toNat : Int).toNat.toUInt8) = z ∧ decide (0 ≤ z) = true := by
                refine ⟨_, rfl, ?_⟩
                have hall : ∀ d ∈ ([43, 45, 42, 47, 94, 40, 41, 44, 91, 93, 61, 126] : List UInt8), decide (0 ≤ Lib.indexByte (⟨#[43, 45, 42, 47, 94, 40, 41, 44, 91, 93, 61, 126]⟩ : ByteArray).data.toList ((d.toNat : Int).toNat.toUInt8)) = true := by decide +kernel
                exact hall c (List.contains_iff_mem.1 hc)
              have HIX := Aside0.mk hz
              clear h hnm hnum hc hz
              go_enter Tryz.func62, Tryz.ntmps62
              go_wp2_with (first
                | (go_at_call 89; (with_reducible refine HNM.out.mono ?_); rintro e w1 ⟨rfl, hd⟩; have hb1 := hd.below; have HB2 := Aside0.mk (below_step HB1.out hb1); have HBL2 := Aside0.mk (blk_below HBL.out hb1); clear hd hb1)
                | (go_at_call 90; (with_reducible refine (number_calls HSZ.out HNU.out).mono ?_); rintro e w2 ⟨rfl, hb2⟩; have HB3 := Aside0.mk (below_step HB2.out hb2); have HBL3 := Aside0.mk (blk_below HBL2.out hb2); obtain ⟨l0, l1, l2⟩ := blk3 HBL3.out; have hfr := blk_frozen HBL3.out; have f0 := hfr 0; have f1 := hfr 1; have f2 := hfr 2; clear hb2 hfr)
                | (go_at_call 88; (with_reducible refine (Tryz.strings_IndexByte _ _ _).mono ?_); rintro e wr ⟨rfl, rfl⟩; rw [HIX.out]))
              refine bodyPost_ret (results_ct rfl _ _ w.heap.size 77 #[.int .i64 3, .string (ofL (List.take 1 (c :: r))), .int .i64 0] (0, 0) _ rfl (blk_put (blk_put (blk_put HBL3.out 0 _ rfl) 1 _ rfl) 2 _ rfl) Tryz.underlying77 rfl (by kernel_rfl)) rfl ?_
              exact ⟨rfl, Turns.below HB3.out HB3.out.size (Nat.le_refl _) (((Turns.set _ w.heap.size 0 _).trans (Turns.set _ w.heap.size 1 _)).trans (Turns.set _ w.heap.size 2 _))⟩
            · cases h
end Go.Proofs.YtinmbcomnjmmjaaGreatDoor
