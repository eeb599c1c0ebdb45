/-
  THE PLAIN MATHEMATICS OF LONG DIVISION by limbs. No Go text here.
-/
import Derived.Test.YgcoacGreatNatShl
namespace Go.Proofs.YgcoacGreat
open Go.RowKit
set_option linter.unusedSimpArgs false
set_option linter.unusedVariables false

/-! ### The quotient limb's guess: the greatest est below 2^32 with est * D2 ≤ U3 -/
/-- What the guess answers: D2 = d1*2^32 + d0, U3 = (u2*2^32 + u1)*2^32 + u0. -/
def IsGuess (U3 D2 est : Nat) : Prop := est < 4294967296 ∧ est * D2 ≤ U3 ∧ ∀ t, t < 4294967296 → t * D2 ≤ U3 → t ≤ est

/-- The loop's state: head = est * d1 + rest, and whatever is right is not above est. -/
def GuessInv (head u0 d1 d0 est rest : Nat) : Prop := head = est * d1 + rest ∧ ∀ t, t < 4294967296 → t * (d1 * 4294967296 + d0) ≤ head * 4294967296 + u0 → t ≤ est

theorem guess_test {head u0 d1 d0 est rest : Nat} (h : head = est * d1 + rest) : (est * d0 > rest * 4294967296 + u0) ↔ ¬ est * (d1 * 4294967296 + d0) ≤ head * 4294967296 + u0 := by
  have e : est * (d1 * 4294967296 + d0) = est * d1 * 4294967296 + est * d0 := by rw [Nat.mul_add, Nat.mul_assoc]
  rw [e, h]
  generalize est * d1 = p
  generalize est * d0 = q
  omega
theorem guess_start {head u0 d1 d0 : Nat} (hd : 0 < d1) (h0 : u0 < 4294967296) : GuessInv head u0 d1 d0 (head / d1) (head % d1) := by
  refine ⟨by rw [Nat.mul_comm]; exact (Nat.div_add_mod head d1).symm, fun t ht h => ?_⟩
  rw [Nat.le_div_iff_mul_le hd]
  have e : t * (d1 * 4294967296 + d0) = t * d1 * 4294967296 + t * d0 := by rw [Nat.mul_add, Nat.mul_assoc]
  rw [e] at h
  generalize t * d1 = p at *
  generalize t * d0 = q at *
  omega
theorem guess_step {head u0 d1 d0 est rest : Nat} (h : GuessInv head u0 d1 d0 est rest) (hpos : 0 < est) (hbad : est ≥ 4294967296 ∨ est * d0 > rest * 4294967296 + u0) : GuessInv head u0 d1 d0 (est - 1) (rest + d1) := by
  obtain ⟨h1, h2⟩ := h
  obtain ⟨k, rfl⟩ : ∃ k, est = k + 1 := ⟨est - 1, by omega⟩
  refine ⟨by rw [h1, Nat.add_sub_cancel, Nat.add_mul, Nat.one_mul]; omega, fun t ht hle => ?_⟩
  have ht1 := h2 t ht hle
  rcases Nat.eq_or_lt_of_le ht1 with e | e
  · exfalso
    rcases hbad with hb | hb
    · omega
    · rw [guess_test h1] at hb
      rw [← e] at hb
      exact hb hle
  · omega
theorem guess_end {head u0 d1 d0 est rest : Nat} (h : GuessInv head u0 d1 d0 est rest) (hlt : est < 4294967296) (hok : ¬ est * d0 > rest * 4294967296 + u0) : IsGuess (head * 4294967296 + u0) (d1 * 4294967296 + d0) est := by
  refine ⟨hlt, ?_, h.2⟩
  rw [guess_test h.1] at hok
  exact Classical.not_not.1 hok
/-- The break: rest has passed 2^32. -/
theorem guess_break {u2 u1 u0 d1 d0 est rest : Nat} (h : GuessInv (u2 * 4294967296 + u1) u0 d1 d0 est rest) (hu : u2 ≤ d1) (hu1 : u1 < 4294967296) (hd0 : d0 < 4294967296) (hd1 : 0 < d1) (hr : 4294967296 ≤ rest) :
    IsGuess ((u2 * 4294967296 + u1) * 4294967296 + u0) (d1 * 4294967296 + d0) est := by
  have h1 := h.1
  have hlt : est < 4294967296 := by
    rcases Nat.lt_or_ge est 4294967296 with h' | h'
    · exact h'
    · exfalso
      have : 4294967296 * d1 ≤ est * d1 := Nat.mul_le_mul_right _ h'
      omega
  refine guess_end h hlt ?_
  have : est * d0 ≤ 4294967295 * 4294967295 := Nat.mul_le_mul (by omega) (by omega)
  omega

/-! ### From the guess to the digit -/
/-- n - 2 limbs lie below the two that were looked at. -/
theorem digit_of_guess {U D U3 D2 ul dl est w : Nat} (hw : 0 < w) (hU : U = U3 * w + ul) (hul : ul < w) (hD : D = D2 * w + dl) (hdl : dl < w) (hD2 : 9223372036854775808 ≤ D2) (hlt : U < D * 4294967296) (h : IsGuess U3 D2 est) :
    est = U / D ∨ est = U / D + 1 := by
  obtain ⟨g1, g2, g3⟩ := h
  have hDpos : 0 < D := by rw [hD]; exact Nat.lt_of_lt_of_le (Nat.mul_pos (by omega) hw) (Nat.le_add_right _ _)
  have hq : U / D < 4294967296 := by rw [Nat.div_lt_iff_lt_mul hDpos, Nat.mul_comm]; exact hlt
  have k1 : U / D * D ≤ U := Nat.div_mul_le_self _ _
  have k2 : ∀ k, k * D ≤ U → k ≤ U / D := fun k hk => (Nat.le_div_iff_mul_le hDpos).2 hk
  generalize U / D = qd at *
  -- the true digit fits the guess's test
  have hle : qd ≤ est := by
    refine g3 _ hq ?_
    have h1 : qd * (D2 * w) + qd * dl ≤ U3 * w + ul := by rw [← Nat.mul_add, ← hD, ← hU]; exact k1
    rw [← Nat.mul_assoc] at h1
    have h3 : qd * D2 * w < (U3 + 1) * w := by rw [Nat.add_mul, Nat.one_mul]; omega
    have h4 := Nat.lt_of_mul_lt_mul_right h3
    omega
  have hge : est ≤ qd + 1 := by
    rcases Nat.eq_zero_or_pos est with h0 | h0
    · omega
    obtain ⟨k, rfl⟩ : ∃ k, est = k + 1 := ⟨est - 1, by omega⟩
    have : k ≤ qd := by
      refine k2 k ?_
      -- (k+1) * D2 ≤ U3, so k * D ≤ U
      have a1 : (k + 1) * D2 * w ≤ U3 * w := Nat.mul_le_mul_right _ g2
      have a2 : (k + 1) * D = (k + 1) * D2 * w + (k + 1) * dl := by rw [hD, Nat.mul_add, Nat.mul_assoc]
      have a3 : (k + 1) * dl ≤ (k + 1) * w := Nat.mul_le_mul_left _ (Nat.le_of_lt hdl)
      have a4 : (k + 1) * w ≤ D2 * w := Nat.mul_le_mul_right _ (by omega)
      have a5 : (k + 1) * D = k * D + D := by rw [Nat.add_mul, Nat.one_mul]
      have a6 : D2 * w ≤ D := by rw [hD]; exact Nat.le_add_right _ _
      omega
    omega
  omega
end Go.Proofs.YgcoacGreat
