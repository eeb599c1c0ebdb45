/-
  THE ROOT, plainly: the floor of a root, Newton's step, the rounded root of a fraction.
-/
import Derived.Test.YgcoacGreatFlC
namespace Go.Proofs.YgcoacGreat
open Go.RowKit
set_option linter.unusedSimpArgs false
set_option linter.unusedVariables false

def isq : Nat → Nat
  | 0 => 0
  | n + 1 => if (isq n + 1) * (isq n + 1) ≤ n + 1 then isq n + 1 else isq n
theorem sq_succ (s : Nat) : (s + 1) * (s + 1) = s * s + 2 * s + 1 := by rw [Nat.add_mul, Nat.mul_add]; omega
theorem isq_spec (n : Nat) : isq n * isq n ≤ n ∧ n < (isq n + 1) * (isq n + 1) := by
  induction n with
  | zero => exact ⟨Nat.le_refl _, by decide⟩
  | succ n ih =>
    unfold isq
    generalize isq n = s at *
    split
    · rename_i h
      refine ⟨h, ?_⟩
      rw [sq_succ (s + 1)]
      omega
    · rename_i h
      exact ⟨by omega, by omega⟩
theorem isq_le {s n : Nat} (h : s * s ≤ n) : s ≤ isq n := by
  rcases Nat.lt_or_ge (isq n) s with h1 | h1
  · have h2 := Nat.mul_le_mul (show isq n + 1 ≤ s from h1) (show isq n + 1 ≤ s from h1)
    have h3 := (isq_spec n).2
    omega
  · exact h1
theorem isq_lt {s n : Nat} (h : n < s * s) : isq n < s := by
  rcases Nat.lt_or_ge (isq n) s with h1 | h1
  · exact h1
  · have h2 := Nat.mul_le_mul h1 h1
    have h3 := (isq_spec n).1
    omega
theorem isq_sq (s : Nat) : isq (s * s) = s := by
  have h1 := isq_le (Nat.le_refl (s * s))
  have h2 := isq_lt (show s * s < (s + 1) * (s + 1) by rw [sq_succ]; omega)
  omega
theorem mean {t s r : Nat} (h : t + s = 2 * r) : t * s ≤ r * r := by
  rcases Nat.le_total t s with h1 | h1
  · obtain ⟨d, rfl⟩ : ∃ d, r = t + d := ⟨r - t, by omega⟩
    obtain rfl : s = t + 2 * d := by omega
    have e1 : t * (t + 2 * d) = t * t + 2 * (t * d) := by rw [Nat.mul_add, Nat.mul_left_comm]
    have e2 : (t + d) * (t + d) = t * t + 2 * (t * d) + d * d := by rw [Nat.add_mul, Nat.mul_add, Nat.mul_add, Nat.mul_comm d t]; omega
    omega
  · obtain ⟨d, rfl⟩ : ∃ d, r = s + d := ⟨r - s, by omega⟩
    obtain rfl : t = s + 2 * d := by omega
    have e1 : (s + 2 * d) * s = s * s + 2 * (s * d) := by rw [Nat.add_mul, Nat.mul_assoc, Nat.mul_comm d s]
    have e2 : (s + d) * (s + d) = s * s + 2 * (s * d) + d * d := by rw [Nat.add_mul, Nat.mul_add, Nat.mul_add, Nat.mul_comm d s]; omega
    omega
theorem newton_ge {a s : Nat} (hs : 0 < s) : isq a ≤ (s + a / s) / 2 := by
  have h1 := (isq_spec a).1
  generalize isq a = r at *
  rcases Nat.le_total (2 * r) s with h2 | h2
  · generalize a / s = g
    omega
  · obtain ⟨t, ht⟩ : ∃ t, t + s = 2 * r := ⟨2 * r - s, by omega⟩
    have h3 := mean ht
    have h4 : t ≤ a / s := by rw [Nat.le_div_iff_mul_le hs]; omega
    omega
theorem newton_stop {a s : Nat} (hs : 0 < s) (h : s ≤ (s + a / s) / 2) : s * s ≤ a := by
  have h1 : s ≤ a / s := by omega
  rw [Nat.le_div_iff_mul_le hs] at h1
  exact h1
theorem isq_top (a : Nat) : isq a ≤ 2 ^ ((bits a + 1) / 2) := by
  have h1 := bits_lt a
  have h2 : a < 2 ^ ((bits a + 1) / 2) * 2 ^ ((bits a + 1) / 2) := by
    rw [← Nat.pow_add]
    exact Nat.lt_of_lt_of_le h1 (pow_le_of (by omega))
  exact Nat.le_of_lt (isq_lt h2)
theorem isq_pos {a : Nat} (h : 0 < a) : 0 < isq a := isq_le (s := 1) (by omega)

/-! ### The root of num/den, rounded -/
def rtF (num den : Nat) : Nat := isq (num / den)
def rtH (n num den : Nat) : Int := cmpI (num * 4) ((n * 2 + 1) * (n * 2 + 1) * den)
def rtS (n num den : Nat) : Bool := decide (n * n * den ≠ num)
def rtN (mode : Int) (num den : Nat) : Nat :=
  if raisesQ mode false (decide (rtF num den % 2 = 1)) (rtH (rtF num den) num den) (rtS (rtF num den) num den) then rtF num den + 1 else rtF num den
theorem cmpI_scale {x y c : Nat} (hc : 0 < c) : cmpI (x * c) (y * c) = cmpI x y := by
  unfold cmpI
  have e1 : x * c < y * c ↔ x < y := Nat.mul_lt_mul_right hc
  have e2 : x * c = y * c ↔ x = y := ⟨fun h => Nat.eq_of_mul_eq_mul_right hc h, fun h => by rw [h]⟩
  simp only [e1, e2]
theorem rt_scale {a b c : Nat} (hc : 0 < c) : rtF (a * c) (b * c) = rtF a b ∧ (∀ n, rtH n (a * c) (b * c) = rtH n a b) ∧ ∀ n, rtS n (a * c) (b * c) = rtS n a b := by
  refine ⟨by unfold rtF; rw [Nat.mul_div_mul_right _ _ hc], fun n => ?_, fun n => ?_⟩
  · unfold rtH
    rw [Nat.mul_right_comm a c 4, ← Nat.mul_assoc, cmpI_scale hc]
  · unfold rtS
    rw [decide_eq_decide, ← Nat.mul_assoc]
    exact not_congr ⟨fun h => Nat.eq_of_mul_eq_mul_right hc h, fun h => by rw [h]⟩
theorem rtN_scale {mode : Int} {a b c : Nat} (hc : 0 < c) : rtN mode (a * c) (b * c) = rtN mode a b := by
  obtain ⟨h1, h2, h3⟩ := rt_scale (a := a) (b := b) hc
  unfold rtN
  rw [h1, h2, h3]
theorem rtN_cross {mode : Int} {a b c d : Nat} (hb : 0 < b) (hd : 0 < d) (h : a * d = c * b) : rtN mode a b = rtN mode c d := by
  rw [← rtN_scale (a := a) (b := b) hd, ← rtN_scale (a := c) (b := d) hb, h, Nat.mul_comm b d]
theorem rtN_le {mode : Int} {num den B : Nat} (hd : 0 < den) (h : num < den * (B * B)) : rtN mode num den ≤ B := by
  have h1 : num / den < B * B := by rw [Nat.div_lt_iff_lt_mul hd, Nat.mul_comm]; exact h
  have h2 := isq_lt h1
  unfold rtN rtF
  split <;> omega
theorem rtF_ge {num den B : Nat} (hd : 0 < den) (h : den * (B * B) ≤ num) : B ≤ rtF num den := isq_le (by rw [Nat.le_div_iff_mul_le hd, Nat.mul_comm]; exact h)
theorem rtN_ge {mode : Int} {num den : Nat} : rtF num den ≤ rtN mode num den := by unfold rtN; split <;> omega
/-- The root is exact just where nothing is left. -/
theorem rt_exact {mode : Int} {num den : Nat} (hd : 0 < den) : rtN mode num den * rtN mode num den * den = num ↔ rtS (rtF num den) num den = false := by
  constructor
  · intro h
    have hq : num / den = rtN mode num den * rtN mode num den := by
      generalize rtN mode num den = r at *
      rw [← h, Nat.mul_div_cancel _ hd]
    have hf : rtF num den = rtN mode num den := by
      generalize rtN mode num den = r at *
      unfold rtF; rw [hq, isq_sq]
    rw [hf]
    unfold rtS
    exact decide_eq_false (fun hh => hh h)
  · intro h
    have hs : rtF num den * rtF num den * den = num := by
      unfold rtS at h
      simpa using h
    have hh : rtH (rtF num den) num den = -1 := by
      unfold rtH
      refine cmpI_lt ?_
      generalize rtF num den = n at *
      have e0 : n * 2 * (n * 2) = n * n * 4 := by rw [Nat.mul_mul_mul_comm]
      have e : (n * 2 + 1) * (n * 2 + 1) = n * n * 4 + (n * 4 + 1) := by rw [sq_succ, e0]; omega
      rw [e, Nat.add_mul, ← hs, Nat.mul_right_comm]
      have := Nat.mul_pos (show 0 < n * 4 + 1 by omega) hd
      omega
    have hr : raisesQ mode false (decide (rtF num den % 2 = 1)) (rtH (rtF num den) num den) (rtS (rtF num den) num den) = false := by
      rw [hh, h]
      unfold raisesQ
      split
      · simp
      · split
        · rfl
        · split
          · simp
          · split <;> simp
    unfold rtN
    rw [hr, if_neg (by decide)]
    exact hs
end Go.Proofs.YgcoacGreat
