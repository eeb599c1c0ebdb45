/-
  THE FLAGS, plainly: the packed pattern's fields.
-/
import Derived.Test.YgcoacGreatFlA
namespace Go.Proofs.YgcoacGreat
open Go.RowKit
set_option linter.unusedSimpArgs false
set_option linter.unusedVariables false

theorem pack_ef {e m X : Nat} (h : Fm e m) (hX : X < infP e m) (neg : Bool) : ef e m (X + sg e m neg) = X / 2 ^ m ∧ X / 2 ^ m < 2 ^ e - 1 := by
  have hb := infP_bd h
  have h0 : 0 < 2 ^ m := Nat.pow_pos (by decide)
  have h1 : X / 2 ^ m < 2 ^ e - 1 := by rw [Nat.div_lt_iff_lt_mul h0]; exact hX
  refine ⟨?_, h1⟩
  unfold ef sg
  split
  · rw [sgn_eq, Nat.add_mul_div_right _ _ h0, Nat.add_mod_right]
    exact Nat.mod_eq_of_lt (Nat.lt_of_lt_of_le h1 (Nat.sub_le _ _))
  · rw [Nat.add_zero]; exact Nat.mod_eq_of_lt (Nat.lt_of_lt_of_le h1 (Nat.sub_le _ _))
theorem pack_ff {e m X : Nat} (neg : Bool) : ff m (X + sg e m neg) = X % 2 ^ m := by
  unfold ff sg
  split
  · rw [sgn_eq, Nat.mul_comm, Nat.add_mul_mod_self_left]
  · rfl
end Go.Proofs.YgcoacGreat
