/-
  law.signaling, nanFlags; exact.CmpFlags.
-/
import Derived.Test.YgcoacGreatFlF
import Derived.Test.YgcoacGreatCmpA
namespace Go.Proofs.YgcoacGreat
open Go.RowKit
set_option linter.unusedSimpArgs false
set_option linter.unusedVariables false

def cmpV (e m x y : Nat) : Int := cmpX (cls e m x : Int) (cls e m y : Int) (ngB e m x) (ngB e m y) (vNeg e m x) (vNeg e m y) (vNum e m x) (vDen e m x) (vNum e m y) (vDen e m y)
set_option maxHeartbeats 1000000 in
theorem cmpFlags_any (e m : Nat) (h : Fm e m) (a b : Nat) (ha : a < 18446744073709551616) (hb : b < 18446744073709551616) (w : World) :
    Calls Oacg.prog 18 #[.agg #[.int .u8 (e : Int), .int .u8 (m : Int)], .int .u64 (a : Int), .int .u64 (b : Int)] w fun r w' => r = .returned (.tuple #[.int .i8 (cmpV e m a b), .int .u8 (heardF e m a b)]) ∧ Ext w w' := by
  have HA := hide (exactCmp_any e m h a b ha hb)
  have HB := hide (heard_any e m h a b ha hb)
  unfold cmpV
  generalize cmpX (cls e m a : Int) (cls e m b : Int) (ngB e m a) (ngB e m b) (vNeg e m a) (vNeg e m b) (vNum e m a) (vDen e m a) (vNum e m b) (vDen e m b) = cv at *
  generalize heardF e m a b = hf at *
  clear ha hb
  have HC := hide (Cells2.new w e m 23)
  obtain ⟨W0, hW0⟩ : ∃ W0, W0 = w.alloc (.cells #[.int .u8 (e : Int), .int .u8 (m : Int)] 23) := ⟨_, rfl⟩
  have HX0 : Hid (Ext w W0) := by rw [hW0]; exact (Ext.refl w).alloc _ _
  rw [← hW0] at HC
  go_enter Oacg.func18, Oacg.ntmps18
  go_wp2_with fail
  rw [← hW0]
  clear hW0
  go_region_held3 (fun w' => Cells2 w' w.heap.size e m)
    (first | exact HC.out | exact HC.out.ext (by (repeat apply Ext.drew); first | exact Ext.refl _ | assumption))
    (first
      | (go_at_call 53; refine (HA.out _).mono ?_; rintro r w1 ⟨rfl, hx1⟩; have hE : Ext W0 w1 := Ext.trans (by (repeat apply Ext.drew); first | exact Ext.refl _ | assumption) hx1; clear hx1)
      | (go_at_call 37; refine (HB.out _).mono ?_; rintro r w2 ⟨rfl, hx2⟩; have hE2 : Ext W0 w2 := Ext.trans (by (repeat apply Ext.drew); first | exact Ext.refl _ | assumption) hx2; clear hx2))
  all_goals go_wp2_with fail
  all_goals simp [bodyPost, results, Oacg.results18, go_sem]
  all_goals exact HX0.out.trans (by (repeat apply Ext.drew); assumption)
end Go.Proofs.YgcoacGreat
