/-
  For exact.AddFlags, MulFlags, DivFlags.
-/
import Derived.Test.YgcoacGreatFlG
namespace Go.Proofs.YgcoacGreat
open Go.RowKit
set_option linter.unusedSimpArgs false
set_option linter.unusedVariables false

abbrev CellsM (w' : World) (A B1 B2 e m : Nat) (v1 v2 v3 v4 : Value) : Prop :=
  w'.cell? ⟨A, 0, none⟩ = some (.int .u8 (e : Int)) ∧ w'.cell? ⟨A, 1, none⟩ = some (.int .u8 (m : Int)) ∧ w'.cell? ⟨B1, 4, none⟩ = some v1 ∧ w'.cell? ⟨B1, 5, none⟩ = some v2 ∧ w'.cell? ⟨B2, 4, none⟩ = some v3 ∧ w'.cell? ⟨B2, 5, none⟩ = some v4
theorem sNum_lt {an bn : Bool} {a ad b bd : Nat} (ha : a < W 100) (had : ad < W 100) (hb : b < W 100) (hbd : bd < W 100) : sNum an a ad bn b bd < W 300 := by
  have h1 := mul_lt_W ha hbd
  have h2 := mul_lt_W hb had
  have h3 := add_lt_W h1 h2
  have h4 := lt_W_mono h3 (show 100 + 100 + 1 ≤ 300 by decide)
  unfold sNum
  split
  · exact h4
  · split <;> omega
theorem vNum_pos {e m : Nat} (h : Fm e m) (x : Nat) (hc : cls e m x = 1 ∨ cls e m x = 2) : 0 < vNum e m x := by
  unfold vNum
  refine Nat.mul_pos ?_ (Nat.pow_pos (by decide))
  unfold pMan
  rcases hc with hc | hc
  · rw [if_neg (by omega), if_pos hc]
    refine Nat.mul_pos ?_ (Nat.pow_pos (by decide))
    rcases Nat.eq_zero_or_pos (ff m x) with h' | h'
    · exfalso
      revert hc
      unfold cls
      rw [h']
      simp
      split <;> (try split) <;> simp
    · exact h'
  · rw [if_pos hc]
    have := two_pos m
    omega
end Go.Proofs.YgcoacGreat
