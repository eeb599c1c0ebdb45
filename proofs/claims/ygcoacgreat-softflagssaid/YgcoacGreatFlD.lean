/-
  law.biasOf, cmpSize, pow2Frac, mulFrac, divFrac.
-/
import Derived.Test.YgcoacGreatFlC
import Derived.Test.YgcoacGreatExF
namespace Go.Proofs.YgcoacGreat
open Go.RowKit
set_option linter.unusedSimpArgs false
set_option linter.unusedVariables false

theorem w64_of {x : Int} (h1 : -9223372036854775808 ≤ x) (h2 : x ≤ 9223372036854775807) : wrap64 x = x := by
  rw [← Go.IntWalk.i64_left]
  simp [IntKind.wrap, IntKind.bits, IntKind.signed]
  omega
theorem cmpE_any (A B : Nat) (va vb : Value) (w : World) (ha : NatAt w va A) (hb : NatAt w vb B) :
    Calls Oacg.prog 51 #[va, vb] w fun e w' => e = .returned (.int .i8 (cmpI A B)) ∧ Ext w w' :=
  (cmp_any A B va vb w ha hb).mono fun r w' ⟨h1, n, h2⟩ => ⟨h1, by rw [h2]; exact (Ext.refl w).drewN n⟩
end Go.Proofs.YgcoacGreat
