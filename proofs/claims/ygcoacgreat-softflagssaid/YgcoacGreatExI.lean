/-
  exact.ToInt64, law.isFinite.
-/
import Derived.Test.YgcoacGreatExH
namespace Go.Proofs.YgcoacGreat
open Go.RowKit
set_option linter.unusedSimpArgs false
set_option linter.unusedVariables false

theorem cls_fin (e m x : Nat) : decide (cls e m x < 3) = decide (ef e m x ≠ 2 ^ e - 1) := by
  rw [decide_eq_decide]
  unfold cls
  split
  · split <;> simp_all
  · rename_i h
    constructor
    · intro _; exact h
    · intro _; split <;> (try split) <;> omega
end Go.Proofs.YgcoacGreat
