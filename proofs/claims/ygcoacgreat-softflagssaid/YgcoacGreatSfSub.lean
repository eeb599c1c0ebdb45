/-
  soft.SubFlags.
-/
import Derived.Test.YgcoacGreatSfAdd
namespace Go.Proofs.YgcoacGreat
open Go.RowKit
set_option linter.unusedSimpArgs false
set_option linter.unusedVariables false

set_option maxRecDepth 20000 in
set_option maxHeartbeats 2000000 in
theorem ssubFlags_any (e m : Nat) (h : Fm e m) (mode : Int) (x y : Nat) (hx : x < 18446744073709551616) (hy : y < 18446744073709551616) (w : World) :
    Calls Oacg.prog 20 #[.agg #[.int .u8 (e : Int), .int .u8 (m : Int)], .int .u8 mode, .int .u64 (x : Int), .int .u64 (y : Int)] w fun r w' => r = .returned (.tuple #[.int .u64 ((fsubP e m mode x y).1 : Int), .int .u8 (fsubP e m mode x y).2]) ∧ Ext w w' := by
  have HA := hide (saddFlags_any e m h mode x (flipS e m y) hx (flip_lt h hy))
  have HS := hide (signBit_any e m h)
  have hs := sgn_bd h
  have hxo : Go.bits BinOp.xor IntKind.u64 (y : Int) (sgn e m : Int) = (flipS e m y : Int) := u64_xor_nat y (sgn e m) hy (by omega)
  rw [show fsubP e m mode x y = faddP e m mode x (flipS e m y) from rfl]
  generalize ((faddP e m mode x (flipS e m y)).1 : Int) = pv at *
  generalize (faddP e m mode x (flipS e m y)).2 = pf at *
  generalize (flipS e m y : Int) = y' at *
  generalize (sgn e m : Int) = sI at *
  have HS2 : Hid (∀ wx, Calls Oacg.prog 55 #[.agg #[.int .u8 (e : Int), .int .u8 (m : Int)]] wx fun r w' => r = .returned (.int .u64 sI) ∧ Ext wx w') := fun wx => (HS.out wx).mono fun r w' ⟨h1, h2⟩ => ⟨h1, by obtain ⟨c1, c2, h2⟩ := h2; rw [h2]; exact ((Ext.refl wx).alloc _ _).alloc _ _⟩
  clear hx hy hs HS
  have HC := hide (Cells2.new w e m 23)
  obtain ⟨W0, hW0⟩ : ∃ W0, W0 = w.alloc (.cells #[.int .u8 (e : Int), .int .u8 (m : Int)] 23) := ⟨_, rfl⟩
  have HX0 : Hid (Ext w W0) := by rw [hW0]; exact (Ext.refl w).alloc _ _
  rw [← hW0] at HC
  go_enter Oacg.func20, Oacg.ntmps20
  go_wp2_with fail
  rw [← hW0]
  clear hW0
  go_region_held3 (fun w' => Cells2 w' w.heap.size e m)
    (first | exact HC.out | exact HC.out.ext (by (repeat apply Ext.drew); first | exact Ext.refl _ | assumption))
    (first
      | (go_at_call 55; refine (HS2.out _).mono ?_; rintro r w1 ⟨rfl, hx1⟩; have hE : Ext W0 w1 := Ext.trans (by (repeat apply Ext.drew); first | exact Ext.refl _ | assumption) hx1; clear hx1)
      | (go_at_call 19; refine (HA.out _).mono ?_; rintro r w2 ⟨rfl, hx2⟩; have hE2 : Ext W0 w2 := Ext.trans (by (repeat apply Ext.drew); first | exact Ext.refl _ | assumption) hx2; clear hx2))
  all_goals go_wp2_with fail
  all_goals simp [bodyPost, results, Oacg.results20, go_sem]
  all_goals exact HX0.out.trans (by (repeat apply Ext.drew); assumption)
end Go.Proofs.YgcoacGreat
