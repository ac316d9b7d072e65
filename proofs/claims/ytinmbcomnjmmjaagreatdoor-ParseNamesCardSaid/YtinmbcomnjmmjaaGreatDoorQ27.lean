/- Proved: a part of what the statement on the names of parse needs: walks of functions of the program, and plain laws. (Texts Bp.) -/
import Derived.Test.YtinmbcomnjmmjaaGreatDoorQ16
namespace Go.Proofs.YtinmbcomnjmmjaaGreatDoor
open Go.RowKit Go.Proofs.YtinmbcomnjmmjaaGreatDoorW.PrintWords Go.Proofs.YtinmbcomnjmmjaaGreatDoorW.PrintLast Go.Proofs.YtinmbcomnjmmjaaGreatDoorW.PrintMore
open X
set_option maxHeartbeats 8000000 in
set_option maxRecDepth 100000 in
/-- (*Int).Mul. -/
theorem imul_calls {w : World} {g gx gy : Nat} {x y : Int} (hg : IntBlk w g) (hx : IntAt w gx x) (hy : IntAt w gy y) (f1 : Fits x.natAbs) (f2 : Fits y.natAbs) :
    Calls Tryz.prog 188 #[pt g, pt gx, pt gy] w fun e w' => e = .returned (pt g) ∧ IntAt w' g (x * y) ∧ Turns g w w' := by
  obtain ⟨A, c, h0, h1, HV⟩ := hx.open
  obtain ⟨A', c', h0', h1', HV'⟩ := hy.open
  have HG := Aside0.mk hg
  clear hg hx hy
  have h02 : w.drew.cell? ⟨gx, 0, none⟩ = _ := h0
  have h12 : w.drew.cell? ⟨gx, 1, none⟩ = _ := h1
  have h02' : w.drew.cell? ⟨gy, 0, none⟩ = _ := h0'
  have h12' : w.drew.cell? ⟨gy, 1, none⟩ = _ := h1'
  have HE := Aside0.mk (mul_signs x y)
  generalize decide (x < 0) = sx at *
  generalize decide (y < 0) = sy at *
  go_enter Tryz.func188, Tryz.ntmps188
  go_upto_region 1 with (fail)
  go_region_with (first | (go_at_call 224; refine (mul_calls (w := w.drew) HV.out HV'.out f1 f2).mono ?_; rintro e w3 ⟨r, rfl, hn3, hb3⟩; have h03 := pw_cell_below (w := w.drew) hb3 h02; have h03' := pw_cell_below (w := w.drew) hb3 h02'; have HN3 := Aside0.mk hn3; have HB3 := Aside0.mk hb3; have HG3 := Aside0.mk (IntBlk.below (w := w.drew) HG.out hb3); clear hn3 hb3) | (go_at_call 198; refine (put_calls HG3.out _ HN3.out).mono ?_; rintro e w9 ⟨rfl, hi9, ht9⟩; have HI9 := Aside0.mk hi9; have HT9 := Aside0.mk ht9; clear hi9 ht9))
  all_goals
    go_wp2
    go_ret
    exact ⟨rfl, by rw [← HE.out]; exact HI9.out, (HT9.out.after_below HB3.out).drew⟩
end Go.Proofs.YtinmbcomnjmmjaaGreatDoor
