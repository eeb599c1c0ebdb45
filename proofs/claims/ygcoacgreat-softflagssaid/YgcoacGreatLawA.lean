/-
  law: expField, fracField, isNeg, isFinite, classOf, biasOf, signedZero, infOf, nanOf.
-/
import Derived.Test.YgcoacGreatRatV
import Derived.WalkSmall
namespace Go.Proofs.YgcoacGreat
open Go.RowKit
set_option linter.unusedSimpArgs false
set_option linter.unusedVariables false

/-- What the walk wants of a pattern's fields: each as a letter. -/
theorem field_rules {e m : Nat} (h : Fm e m) {x : Nat} (hx : x < 18446744073709551616) :
    IntKind.u64.wrap (2 ^ e) = ((2 ^ e : Nat) : Int) ∧ IntKind.u64.wrap (2 ^ m) = ((2 ^ m : Nat) : Int) ∧ (x : Int) / 2 ^ m = ((x / 2 ^ m : Nat) : Int) ∧
    Go.bits BinOp.and IntKind.u64 (((x / 2 ^ m : Nat) : Int)) (((2 ^ e : Nat) : Int) - 1) = ((ef e m x : Nat) : Int) ∧
    Go.bits BinOp.and IntKind.u64 (x : Int) (((2 ^ m : Nat) : Int) - 1) = ((ff m x : Nat) : Int) ∧
    4 ≤ 2 ^ e ∧ 2 ^ e ≤ 2048 ∧ 4 ≤ 2 ^ m ∧ 2 ^ m ≤ 4503599627370496 := by
  obtain ⟨h1, h2, h3, h4⟩ := h
  have he : e ≤ 63 := by omega
  have hm : m ≤ 63 := by omega
  have hq : x / 2 ^ m < 18446744073709551616 := Nat.lt_of_le_of_lt (Nat.div_le_self _ _) hx
  refine ⟨wrap_pow he, wrap_pow hm, by rw [two_pow_cast]; rfl, ?_, ?_, pow_le_of (show 2 ≤ e by omega), pow_le_of (show e ≤ 11 by omega), pow_le_of (show 2 ≤ m by omega), pow_le_of (show m ≤ 52 by omega)⟩
  · exact and_mask hq he (((2 ^ e : Nat) : Int) - 1) (by have := Nat.pow_pos (n := e) (show 0 < 2 by decide); omega)
  · exact and_mask hx hm (((2 ^ m : Nat) : Int) - 1) (by have := Nat.pow_pos (n := m) (show 0 < 2 by decide); omega)

end Go.Proofs.YgcoacGreat
