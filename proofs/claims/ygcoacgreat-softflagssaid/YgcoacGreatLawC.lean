/-
  law.negFrac, law.cmpFrac.
-/
import Derived.Test.YgcoacGreatLawS
namespace Go.Proofs.YgcoacGreat
open Go.RowKit
set_option linter.unusedSimpArgs false
set_option linter.unusedVariables false

/-- The order of two fractions. -/
def cmpQ (an : Bool) (a ad : Nat) (bn : Bool) (b bd : Nat) : Int :=
  if sNum an a ad (!bn) b bd = 0 then 0 else if sNeg an a ad (!bn) b bd then -1 else 1

theorem NatAt.len0 {w : World} {p : Option Addr} {k c n : Nat} (h : NatAt w (.slice p k c) n) : ((k : Int) == 0) = decide (n = 0) := by
  rcases h with ⟨h0, h1⟩ | ⟨l, b, off, cap, h1, h2, h3, h4, h5, h6, h7, h8⟩
  · injection h1 with _ h2 _
    rw [h2, h0]; rfl
  · injection h1 with _ h9 _
    have hne : l ≠ [] := by intro e; subst e; simp [val] at h6; omega
    have : 0 < l.length := List.length_pos_iff.2 hne
    rw [Bool.eq_iff_iff]
    simp only [beq_iff_eq, decide_eq_true_eq]
    omega

end Go.Proofs.YgcoacGreat
