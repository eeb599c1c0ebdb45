/-
  The root's plain law (bit by bit, and by halves).
-/
import Derived.Test.YgcoacGreatWdF
import Derived.Test.YgcoacGreatSqA
namespace Go.Proofs.YgcoacGreat
open Go.RowKit
set_option linter.unusedSimpArgs false
set_option linter.unusedVariables false

theorem sq_add (a b : Nat) : (a + b) * (a + b) = a * a + 2 * (a * b) + b * b := by
  rw [Nat.add_mul, Nat.mul_add, Nat.mul_add, Nat.mul_comm b a]; omega
structure RI (top k s l : Nat) : Prop where
  eq : s * s + l = top
  dv : s % 2 ^ k = 0
  lt : top < (s + 2 ^ k) * (s + 2 ^ k)
  le : s + 2 ^ k ≤ 65536
theorem RI.start {top : Nat} (h : top < 4294967296) : RI top 16 0 top := ⟨by omega, by decide, by omega, by decide⟩
theorem RI.trial (s b : Nat) : (2 * s + b) * b + s * s = (s + b) * (s + b) := by
  rw [sq_add, Nat.add_mul, Nat.mul_assoc]; omega
theorem RI.yes {top j s l : Nat} (h : RI top (j + 1) s l) (ht : (2 * s + 2 ^ j) * 2 ^ j ≤ l) : RI top j (s + 2 ^ j) (l - (2 * s + 2 ^ j) * 2 ^ j) := by
  have h1 := h.eq; have h2 := h.dv; have h3 := h.lt; have h4 := h.le
  have e := RI.trial s (2 ^ j)
  rw [show 2 ^ (j + 1) = 2 ^ j + 2 ^ j by rw [Nat.pow_succ]; omega, ← Nat.add_assoc] at h3 h4
  refine ⟨by omega, ?_, h3, by omega⟩
  rw [Nat.add_mod_right]
  have h5 := Nat.mod_mod_of_dvd s (Nat.pow_dvd_pow 2 (Nat.le_succ j))
  rw [show j.succ = j + 1 from rfl, h2] at h5
  rw [← h5, Nat.zero_mod]
theorem RI.no {top j s l : Nat} (h : RI top (j + 1) s l) (ht : ¬ (2 * s + 2 ^ j) * 2 ^ j ≤ l) : RI top j s l := by
  have h1 := h.eq; have h2 := h.dv; have h3 := h.lt; have h4 := h.le
  have e := RI.trial s (2 ^ j)
  rw [show 2 ^ (j + 1) = 2 ^ j + 2 ^ j by rw [Nat.pow_succ]; omega, ← Nat.add_assoc] at h4
  refine ⟨h1, ?_, by omega, by omega⟩
  have h5 := Nat.mod_mod_of_dvd s (Nat.pow_dvd_pow 2 (Nat.le_succ j))
  rw [show j.succ = j + 1 from rfl, h2] at h5
  rw [← h5, Nat.zero_mod]
theorem RI.last {top s l : Nat} (h : RI top 0 s l) (ht : 1073741824 ≤ top) : l ≤ 2 * s ∧ 32768 ≤ s ∧ s < 65536 := by
  have h1 := h.eq; have h3 := h.lt; have h4 := h.le
  rw [Nat.pow_zero, sq_add] at h3
  refine ⟨by omega, ?_, by omega⟩
  rcases Nat.lt_or_ge s 32768 with hs | hs
  · have := Nat.mul_le_mul (show s + 1 ≤ 32768 by omega) (show s + 1 ≤ 32768 by omega)
    rw [sq_add] at this
    omega
  · exact hs

theorem isq_of {s n : Nat} (h1 : s * s ≤ n) (h2 : n < (s + 1) * (s + 1)) : isq n = s := by
  have a := isq_le h1
  have b := isq_lt h2
  omega
/-- The root by halves. -/
theorem kara {B s l a1 a0 : Nat} (hl : l ≤ 2 * s) (hb : B ≤ 2 * s) (hB : 0 < B) (h1 : a1 < B) (h0 : a0 < B) :
    isq (((s * s + l) * B + a1) * B + a0) = if ((s * s + l) * B + a1) * B + a0 < (s * B + min ((l * B + a1) / (2 * s)) (B - 1)) * (s * B + min ((l * B + a1) / (2 * s)) (B - 1)) then s * B + min ((l * B + a1) / (2 * s)) (B - 1) - 1 else s * B + min ((l * B + a1) / (2 * s)) (B - 1) := by
  have hs : 0 < 2 * s := by omega
  have e1 := Nat.div_add_mod (l * B + a1) (2 * s)
  have e2 := Nat.mod_lt (l * B + a1) hs
  generalize (l * B + a1) / (2 * s) = q at *
  generalize (l * B + a1) % (2 * s) = u at *
  have hx : ((s * s + l) * B + a1) * B + a0 = (s * B) * (s * B) + 2 * (s * B * q) + u * B + a0 := by
    have f1 : ((s * s + l) * B + a1) * B = (s * B) * (s * B) + (l * B + a1) * B := by
      rw [Nat.add_mul (s * s), Nat.add_assoc, Nat.add_mul]
      congr 1
      ac_rfl
    rw [f1, ← e1, Nat.add_mul (2 * s * q)]
    have f2 : 2 * s * q * B = 2 * (s * B * q) := by rw [Nat.mul_assoc 2, Nat.mul_assoc 2]; congr 1; ac_rfl
    omega
  have hu : u * B + B ≤ 2 * (s * B) := by
    have := Nat.mul_le_mul_right B (show u + 1 ≤ 2 * s from e2)
    rw [Nat.add_mul, Nat.mul_assoc] at this
    omega
  have hBB : B * B ≤ 2 * (s * B) := by
    have := Nat.mul_le_mul_right B hb
    rw [Nat.mul_assoc] at this
    exact this
  rw [hx]
  have hlb : l * B ≤ 2 * (s * B) := by
    have := Nat.mul_le_mul_right B hl
    rw [Nat.mul_assoc] at this
    exact this
  rcases Nat.lt_or_ge q B with hq | hq
  · rw [Nat.min_eq_left (by omega)]
    have hqq := Nat.mul_le_mul (Nat.le_of_lt hq) (Nat.le_of_lt hq)
    rw [sq_add (s * B) q]
    generalize hS : s * B = S at *
    split
    · rename_i hlt
      obtain ⟨t, ht⟩ : ∃ t, S + q = t + 1 := ⟨S + q - 1, by omega⟩
      rw [ht, Nat.add_sub_cancel]
      have e3 := sq_add S q
      rw [ht, sq_add t 1] at e3
      have hq0 : 0 < q := by
        rcases Nat.eq_zero_or_pos q with h | h
        · subst h; rw [Nat.mul_zero, Nat.mul_zero] at hlt; omega
        · exact h
      refine isq_of (by omega) ?_
      rw [← ht, sq_add]
      omega
    · rename_i hge
      refine isq_of (by rw [sq_add]; omega) ?_
      rw [sq_add (S + q) 1, sq_add S q]
      omega
  · rw [Nat.min_eq_right (by omega)]
    have hqB : q = B := by
      rcases Nat.lt_or_ge B q with h | h
      · have := Nat.mul_le_mul_left (2 * s) (show B + 1 ≤ q from h)
        rw [Nat.mul_add, Nat.mul_assoc 2 s B] at this
        omega
      · omega
    subst hqB
    have hS1 : s * q + (q - 1) + 1 = s * q + q := by omega
    have e3 := sq_add (s * q) q
    have e4 := sq_add (s * q + (q - 1)) 1
    rw [hS1] at e4
    have e5 : l * q + a1 < 2 * (s * q) + q := by omega
    rw [Nat.mul_assoc 2 s q] at e1
    have hlt : s * q * (s * q) + 2 * (s * q * q) + u * q + a0 < (s * q + q) * (s * q + q) := by
      rw [← hx]
      have g1 : (s * s + l) * q + a1 + 1 ≤ (s + 1) * (s + 1) * q := by
        have := Nat.mul_le_mul_right q (show s * s + l + 1 ≤ (s + 1) * (s + 1) by rw [sq_add s 1]; omega)
        rw [Nat.add_mul _ 1] at this
        omega
      have g2 := Nat.mul_le_mul_right q g1
      rw [Nat.add_mul _ 1] at g2
      have g3 : (s + 1) * (s + 1) * q * q = (s * q + q) * (s * q + q) := by
        rw [show s * q + q = (s + 1) * q by rw [Nat.add_mul, Nat.one_mul]]; ac_rfl
      rw [g3] at g2
      omega
    split
    · omega
    · refine isq_of (by omega) ?_
      rw [hS1]; exact hlt
end Go.Proofs.YgcoacGreat
