/-
  How numbers stand to each other, by their patterns, plainly.
-/
import Derived.Test.YgcoacGreatSfI
import Derived.Test.YgcoacGreatFlG
import Derived.Test.YgcoacGreatECmp
import Derived.Test.YgcoacGreatFlSub
namespace Go.Proofs.YgcoacGreat
open Go.RowKit
set_option linter.unusedSimpArgs false
set_option linter.unusedVariables false

/-- A size's pattern in units of the least positive number. -/
def unS (m l : Nat) : Nat := if l / 2 ^ m = 0 then l % 2 ^ m else (l % 2 ^ m + 2 ^ m) * 2 ^ (l / 2 ^ m - 1)
theorem unS_succ (m l : Nat) : unS m l < unS m (l + 1) := by
  have hp := two_pos m
  have e1 := Nat.div_add_mod l (2 ^ m)
  have h1 := Nat.mod_lt l hp
  unfold unS
  obtain ⟨q, hq⟩ : ∃ q, l / 2 ^ m = q := ⟨_, rfl⟩
  obtain ⟨r, hr⟩ : ∃ r, l % 2 ^ m = r := ⟨_, rfl⟩
  rw [hq, hr] at e1
  rw [hr] at h1
  rw [hq, hr]
  by_cases hc : r + 1 < 2 ^ m
  · have hq2 : (l + 1) / 2 ^ m = q := by
      rw [show l + 1 = (r + 1) + 2 ^ m * q by omega, Nat.add_mul_div_left _ _ hp, Nat.div_eq_of_lt hc, Nat.zero_add]
    have hr2 : (l + 1) % 2 ^ m = r + 1 := by
      rw [show l + 1 = (r + 1) + 2 ^ m * q by omega, Nat.add_mul_mod_self_left, Nat.mod_eq_of_lt hc]
    rw [hq2, hr2]
    by_cases h0 : q = 0
    · rw [if_pos h0, if_pos h0]; omega
    · rw [if_neg h0, if_neg h0]
      exact Nat.mul_lt_mul_of_pos_right (by omega) (two_pos _)
  · have hr1 : r + 1 = 2 ^ m := by omega
    have e2 : l + 1 = 2 ^ m * (q + 1) := by rw [Nat.mul_add, Nat.mul_one]; omega
    have hq2 : (l + 1) / 2 ^ m = q + 1 := by rw [e2, Nat.mul_div_cancel_left _ hp]
    have hr2 : (l + 1) % 2 ^ m = 0 := by rw [e2, Nat.mul_mod_right]
    rw [hq2, hr2, if_neg (show ¬ q + 1 = 0 by omega), Nat.add_sub_cancel, Nat.zero_add]
    by_cases h0 : q = 0
    · rw [if_pos h0, h0, Nat.pow_zero]; omega
    · rw [if_neg h0]
      obtain ⟨k, rfl⟩ : ∃ k, q = k + 1 := ⟨q - 1, by omega⟩
      have e3 : 2 ^ m * 2 ^ (k + 1) = (2 ^ m + 2 ^ m) * 2 ^ k := by rw [Nat.pow_succ, Nat.add_mul, ← Nat.mul_assoc]; omega
      rw [Nat.add_sub_cancel, e3]
      exact Nat.mul_lt_mul_of_pos_right (by omega) (two_pos _)
theorem unS_mono (m : Nat) {a b : Nat} (h : a < b) : unS m a < unS m b := by
  induction b with
  | zero => omega
  | succ b ih =>
    rcases Nat.lt_or_ge a b with h1 | h1
    · exact Nat.lt_trans (ih h1) (unS_succ m b)
    · obtain rfl : a = b := by omega
      exact unS_succ m a
theorem unS_lt (m a b : Nat) : unS m a < unS m b ↔ a < b := by
  constructor
  · intro h
    rcases Nat.lt_or_ge a b with h1 | h1
    · exact h1
    · rcases Nat.lt_or_ge b a with h2 | h2
      · have := unS_mono m h2; omega
      · obtain rfl : a = b := by omega
        omega
  · exact unS_mono m
theorem low_parts (e m x : Nat) : x % 2 ^ (e + m) / 2 ^ m = ef e m x ∧ x % 2 ^ (e + m) % 2 ^ m = ff m x := ⟨(ef_low e m x).symm, (ff_low e m x).symm⟩
theorem cls_ef {e m x : Nat} : (cls e m x = 0 → ef e m x = 0 ∧ ff m x = 0) ∧ (cls e m x = 1 → ef e m x = 0) ∧ (cls e m x = 2 → ef e m x ≠ 0) ∧ (cls e m x = 3 → ef e m x = 2 ^ e - 1 ∧ ff m x = 0) ∧ (cls e m x < 3 → ef e m x ≠ 2 ^ e - 1) := by
  unfold cls
  by_cases q1 : ef e m x = 2 ^ e - 1
  · rw [if_pos q1]
    by_cases q2 : ff m x = 0
    · rw [if_pos q2]; exact ⟨by omega, by omega, by omega, fun _ => ⟨q1, q2⟩, by omega⟩
    · rw [if_neg q2]; exact ⟨by omega, by omega, by omega, by omega, by omega⟩
  · rw [if_neg q1]
    by_cases q3 : ef e m x = 0
    · rw [if_pos q3]
      by_cases q2 : ff m x = 0
      · rw [if_pos q2]; exact ⟨fun _ => ⟨q3, q2⟩, by omega, by omega, by omega, fun _ => q1⟩
      · rw [if_neg q2]; exact ⟨by omega, fun _ => q3, by omega, by omega, fun _ => q1⟩
    · rw [if_neg q3]; exact ⟨by omega, by omega, fun _ => q3, by omega, fun _ => q1⟩
theorem val_units {e m x : Nat} (h : Fm e m) (hc : cls e m x < 3) : vNum e m x * shD 1 (eminI e - m) = shN (unS m (x % 2 ^ (e + m))) (eminI e - m) * vDen e m x := by
  obtain ⟨l1, l2⟩ := low_parts e m x
  obtain ⟨k0, k1, k2, _, _⟩ := cls_ef (e := e) (m := m) (x := x)
  have hF := ff_lt m x
  have hv : vDen e m x = shD 1 (pExp e m x) := by unfold vDen shD; rw [Nat.one_mul]
  have hn : vNum e m x = shN (pMan e m x) (pExp e m x) := rfl
  unfold unS
  rw [l1, l2]
  have hcc : cls e m x = 0 ∨ cls e m x = 1 ∨ cls e m x = 2 := by omega
  rcases hcc with c | c | c
  · obtain ⟨q1, q2⟩ := k0 c
    rw [if_pos q1, q2, hn, (pMan_facts h x).1 c]
    unfold shN
    rw [Nat.zero_mul, Nat.zero_mul, Nat.zero_mul, Nat.zero_mul]
  · rw [if_pos (k1 c), hv, hn]
    refine sc_eq (j := m + 1 - bits (ff m x)) ?_ ?_
    · unfold pMan; rw [c]; rfl
    · unfold pExp eminI; rw [c, if_neg (by decide), if_pos rfl]; omega
  · have hne := k2 c
    rw [if_neg hne, hv, hn]
    refine (sc_eq (j := ef e m x - 1) ?_ ?_).symm
    · unfold pMan; rw [c, if_pos rfl]
    · unfold pExp eminI; rw [c, if_pos rfl]; omega
theorem pat_lt {e m x y : Nat} (h : Fm e m) (hx : cls e m x < 3) (hy : cls e m y < 3) : vNum e m x * vDen e m y < vNum e m y * vDen e m x ↔ x % 2 ^ (e + m) < y % 2 ^ (e + m) := by
  have e1 := val_units h hx
  have e2 := val_units h hy
  rw [← unS_lt m (x % 2 ^ (e + m)) (y % 2 ^ (e + m))]
  have pE := sh1_pos (eminI e - m)
  have pF : 0 < 2 ^ (eminI e - m).toNat := two_pos _
  have pX : 0 < vDen e m x := two_pos _
  have pY : 0 < vDen e m y := two_pos _
  unfold shN at e1 e2
  generalize unS m (x % 2 ^ (e + m)) = ux at *
  generalize unS m (y % 2 ^ (e + m)) = uy at *
  generalize vNum e m x = nx at *
  generalize vNum e m y = ny at *
  generalize vDen e m x = dx at *
  generalize vDen e m y = dy at *
  generalize shD 1 (eminI e - m) = E at *
  generalize 2 ^ (eminI e - m).toNat = F at *
  have hK : 0 < F * dx * dy := Nat.mul_pos (Nat.mul_pos pF pX) pY
  have a1 : nx * dy * E = ux * (F * dx * dy) := by
    calc nx * dy * E = nx * E * dy := by ac_rfl
      _ = ux * F * dx * dy := by rw [e1]
      _ = ux * (F * dx * dy) := by ac_rfl
  have a2 : ny * dx * E = uy * (F * dx * dy) := by
    calc ny * dx * E = ny * E * dx := by ac_rfl
      _ = uy * F * dy * dx := by rw [e2]
      _ = uy * (F * dx * dy) := by ac_rfl
  rw [← Nat.mul_lt_mul_right pE, a1, a2, Nat.mul_lt_mul_right hK]
theorem low_inf {e m x : Nat} (hc : cls e m x = 3) : x % 2 ^ (e + m) = (2 ^ e - 1) * 2 ^ m := by
  obtain ⟨l1, l2⟩ := low_parts e m x
  obtain ⟨q1, q2⟩ := (cls_ef (e := e) (m := m) (x := x)).2.2.2.1 hc
  have := Nat.div_add_mod (x % 2 ^ (e + m)) (2 ^ m)
  rw [l1, l2, q1, q2, Nat.mul_comm] at this
  omega
theorem low_fin {e m x : Nat} (hc : cls e m x < 3) : x % 2 ^ (e + m) < (2 ^ e - 1) * 2 ^ m := by
  obtain ⟨l1, l2⟩ := low_parts e m x
  have q1 := (cls_ef (e := e) (m := m) (x := x)).2.2.2.2 hc
  have q2 := ef_lt e m x
  have q3 := ff_lt m x
  have := Nat.div_add_mod (x % 2 ^ (e + m)) (2 ^ m)
  rw [l1, l2] at this
  have h2 : (ef e m x + 1) * 2 ^ m ≤ (2 ^ e - 1) * 2 ^ m := Nat.mul_le_mul_right _ (by omega)
  rw [Nat.add_mul, Nat.one_mul, Nat.mul_comm (ef e m x)] at h2
  omega
/-- soft.Cmp's answer. -/
def scP (cx cy : Nat) (nx ny : Bool) (la lb : Nat) : Int :=
  if cx = 4 ∨ cy = 4 then 2
  else if (la = 0 ∧ lb = 0) ∨ (nx = ny ∧ la = lb) then 0
  else if (nx ≠ ny ∧ nx = true) ∨ (nx = ny ∧ decide (la < lb) ≠ nx) then -1 else 1
theorem cmp_fin (nx ny : Bool) {Nx Dx Ny Dy la lb : Nat} (pX : 0 < Dx) (pY : 0 < Dy) (h1 : Nx * Dy < Ny * Dx ↔ la < lb) (h2 : Ny * Dx < Nx * Dy ↔ lb < la) (h3 : Nx = 0 ↔ la = 0) (h4 : Ny = 0 ↔ lb = 0) :
    cmpQ nx Nx Dx ny Ny Dy = if (la = 0 ∧ lb = 0) ∨ (nx = ny ∧ la = lb) then 0
      else if (nx ≠ ny ∧ nx = true) ∨ (nx = ny ∧ decide (la < lb) ≠ nx) then -1 else 1 := by
  have h5 : Nx * Dy = 0 ↔ la = 0 := by rw [← h3, Nat.mul_eq_zero]; omega
  have h6 : Ny * Dx = 0 ↔ lb = 0 := by rw [← h4, Nat.mul_eq_zero]; omega
  unfold cmpQ sNum sNeg
  generalize Nx * Dy = A at *
  generalize Ny * Dx = B at *
  cases nx <;> cases ny
  all_goals simp only [Bool.not_false, Bool.not_true, reduceCtorEq, if_false, if_true, true_and, false_and, and_true, and_false, or_false, false_or, ne_eq, not_true_eq_false, not_false_eq_true, Bool.false_eq_true, Bool.not_eq_true, Bool.not_eq_false, decide_eq_false_iff_not, decide_eq_true_iff]
  all_goals
    by_cases g1 : A < B
    · have g2 := h1.1 g1
      clear h1 h2 h3 h4 pX pY
      repeat' split
      all_goals first | omega | (exfalso; simp_all; done)
    · have g2 : ¬ la < lb := fun hh => g1 (h1.2 hh)
      by_cases g3 : B < A
      · have g4 := h2.1 g3
        repeat' split
        all_goals first | omega | (exfalso; simp_all; done)
      · have g4 : ¬ lb < la := fun hh => g3 (h2.2 hh)
        repeat' split
        all_goals first | omega | (exfalso; simp_all; done)
theorem cmpV_low {e m : Nat} (h : Fm e m) (x y : Nat) : cmpV e m x y = scP (cls e m x) (cls e m y) (pNeg e m x) (pNeg e m y) (x % 2 ^ (e + m)) (y % 2 ^ (e + m)) := by
  have hcx := cls_cases e m x
  have hcy := cls_cases e m y
  unfold cmpV scP
  by_cases h4 : cls e m x = 4 ∨ cls e m y = 4
  · rw [if_pos h4]
    unfold cmpX
    rw [if_pos (by omega)]
  · rw [if_neg h4, ngB_pNeg (x := x) (by omega), ngB_pNeg (x := y) (by omega)]
    have hI : 0 < (2 ^ e - 1) * 2 ^ m := Nat.mul_pos (by
      have := pow_le_of (show 1 ≤ e by have := h.e1; omega)
      omega) (two_pos _)
    by_cases fx : cls e m x < 3
    · by_cases fy : cls e m y < 3
      · rw [cmpX_fin (by omega) (by omega) (by omega) (by omega), vNeg_pNeg (x := x) (by omega), vNeg_pNeg (x := y) (by omega), ngB_pNeg (x := x) (by omega), ngB_pNeg (x := y) (by omega)]
        have z : ∀ x, cls e m x < 3 → (vNum e m x = 0 ↔ x % 2 ^ (e + m) = 0) := by
          intro x fx
          obtain ⟨l1, l2⟩ := low_parts e m x
          obtain ⟨p1, p2⟩ := pMan_facts h x
          have hcx := cls_cases e m x
          constructor
          · intro hv
            have c0 : cls e m x = 0 := by
              rcases Nat.eq_zero_or_pos (cls e m x) with c | c
              · exact c
              · exfalso
                have g := p2 (by omega)
                have : 0 < vNum e m x := Nat.mul_pos (Nat.lt_of_lt_of_le (two_pos _) g) (two_pos _)
                omega
            obtain ⟨q1, q2⟩ := cls_ef.1 c0
            have := Nat.div_add_mod (x % 2 ^ (e + m)) (2 ^ m)
            rw [l1, l2, q1, q2] at this
            omega
          · intro hl
            have q1 : ef e m x = 0 := by rw [← l1, hl, Nat.zero_div]
            have q2 : ff m x = 0 := by rw [← l2, hl, Nat.zero_mod]
            have c0 : cls e m x = 0 := by
              have k := cls_ef (e := e) (m := m) (x := x)
              rcases hcx with c | c | c | c | c
              · exact c
              · exfalso
                unfold cls at c
                rw [q1, q2] at c
                revert c
                repeat' split
                all_goals simp_all
              · exact absurd q1 (k.2.2.1 c)
              · omega
              · omega
            unfold vNum
            rw [p1 c0, Nat.zero_mul]
        exact cmp_fin _ _ (two_pos _) (two_pos _) (pat_lt h fx fy) (pat_lt h fy fx) (z x fx) (z y fy)
      · have c3 : cls e m y = 3 := by omega
        have l1 := low_fin fx
        have l2 := low_inf c3
        unfold cmpX
        rw [if_neg (by omega)]
        have r1 : rankI (cls e m x : Int) (ngB e m x) = 0 := (rankI_zero _ _).2 (by omega)
        have r2 : rankI (cls e m y : Int) (ngB e m y) = if ngB e m y then -1 else 1 := by unfold rankI; rw [if_pos (by omega)]
        rw [r1, r2]
        rw [← l2] at l1 hI
        generalize x % 2 ^ (e + m) = la at *
        generalize y % 2 ^ (e + m) = lb at *
        have hlt := decide_eq_true l1
        rw [hlt, if_neg (by cases ngB e m y <;> simp)]
        cases ngB e m x <;> cases ngB e m y
        all_goals simp
        all_goals omega
    · have c3 : cls e m x = 3 := by omega
      have l1 := low_inf c3
      unfold cmpX
      rw [if_neg (by omega)]
      have r1 : rankI (cls e m x : Int) (ngB e m x) = if ngB e m x then -1 else 1 := by unfold rankI; rw [if_pos (by omega)]
      by_cases fy : cls e m y < 3
      · have l2 := low_fin fy
        have r2 : rankI (cls e m y : Int) (ngB e m y) = 0 := (rankI_zero _ _).2 (by omega)
        rw [r1, r2]
        rw [← l1] at l2 hI
        generalize x % 2 ^ (e + m) = la at *
        generalize y % 2 ^ (e + m) = lb at *
        have hlt : decide (la < lb) = false := decide_eq_false (by omega)
        rw [hlt, if_neg (by cases ngB e m x <;> simp)]
        cases ngB e m x <;> cases ngB e m y
        all_goals simp
        all_goals omega
      · have c3' : cls e m y = 3 := by omega
        have l2 := low_inf c3'
        have r2 : rankI (cls e m y : Int) (ngB e m y) = if ngB e m y then -1 else 1 := by unfold rankI; rw [if_pos (by omega)]
        rw [r1, r2, l1, l2]
        have hlt : decide ((2 ^ e - 1) * 2 ^ m < (2 ^ e - 1) * 2 ^ m) = false := decide_eq_false (by omega)
        rw [hlt]
        generalize (2 ^ e - 1) * 2 ^ m = I at *
        rw [if_neg (by cases ngB e m x <;> simp)]
        cases ngB e m x <;> cases ngB e m y
        all_goals simp
        all_goals omega
end Go.Proofs.YgcoacGreat
