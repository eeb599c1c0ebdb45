/-
  THE ROOT's law, plainly: what ExactFlagsSqrt asks of a value and its flags.
-/
import Derived.Test.YgcoacSqF
import Derived.Test.YgcoacFlBin
namespace Go.Proofs.Ygcoac
open Go.RowKit
set_option linter.unusedSimpArgs false
set_option linter.unusedVariables false

theorem ng_small {e m X : Nat} (h : Fm e m) (hX : X < infP e m) : ngB e m (X + sg e m false) = false := by
  have hi := infP_bd h
  unfold ngB sg
  rw [if_neg (by decide), Nat.add_zero, Nat.div_eq_of_lt (by unfold sgn at hi; omega)]
  rfl
theorem sq_fin {e m a : Nat} (h : Fm e m) (mode : Int) (hc : cls e m a = 1 ∨ cls e m a = 2) (hg : ngB e m a = false) : sqP e m mode a = (sqV e m mode (vNum e m a) (vDen e m a), sqF e m mode (vNum e m a) (vDen e m a)) := by
  unfold sqP
  rw [if_neg (by omega), if_neg (by omega), hg, if_neg (by decide), if_neg (by omega)]
theorem sqV_ne {e m a : Nat} (h : Fm e m) (mode : Int) (hc : cls e m a = 1 ∨ cls e m a = 2) : sqV e m mode (vNum e m a) (vDen e m a) ≠ nanV e m ∧ ngB e m (sqV e m mode (vNum e m a) (vDen e m a)) = false ∧ sqV e m mode (vNum e m a) (vDen e m a) < 18446744073709551616 := by
  have hok := sqOk_of h hc (vNum_pos h a hc)
  have hX := sq_pack (mode := mode) hok
  have hi := infP_bd h
  have hs := sgn_bd h
  rw [sqV_eq hok]
  exact ⟨ne_nan h false (by omega), ng_small h hX, by unfold sg; rw [if_neg (by decide)]; omega⟩
theorem sqP_lt {e m : Nat} (h : Fm e m) (mode : Int) (a : Nat) : (sqP e m mode a).1 < 18446744073709551616 := by
  have hn := nan_bd h
  have hs := sgn_bd h
  have hm : msk e m a < 18446744073709551616 := by
    obtain ⟨_, _, _, _⟩ := h
    unfold msk
    exact Nat.lt_of_lt_of_le (Nat.mod_lt _ (two_pos _)) (pow_le_of (show e + m + 1 ≤ 64 by omega))
  have hcc := cls_cases e m a
  unfold sqP
  split
  · show nanV e m < _; omega
  · split
    · exact hm
    · split
      · show nanV e m < _; omega
      · split
        · exact hm
        · exact (sqV_ne h mode (by omega)).2.2
/-- The flags as the law has them. -/
def lawS (e m : Nat) (mode : Int) (N D rn rd W : Nat) : Int :=
  if csQ (rn * rn) (rd * rd) N D = 0 then 0 else if tinyLS e m mode N D W then 24 else 16
theorem sq_law {e m a : Nat} (h : Fm e m) (mode : Int) (hc : cls e m a = 1 ∨ cls e m a = 2) (hg : ngB e m a = false) :
    (sqP e m mode a).2 = lawS e m mode (vNum e m a) (vDen e m a) (vNum e m (sqP e m mode a).1) (vDen e m (sqP e m mode a).1) (sqP e m mode (fourS e m (vNum e m a) (vDen e m a))).1 := by
  have hn := vNum_pos h a hc
  have hok := sqOk_of h hc hn
  have hff := four_fits h hc hn
  have hty := sq_tiny h mode hc hn
  have hsx := sq_exact (mode := mode) hok
  rw [sq_fin h mode hc hg]
  show sqF e m mode (vNum e m a) (vDen e m a) = _
  rw [sqF_eq hok]
  unfold lawS
  have ht2 : tinyLS e m mode (vNum e m a) (vDen e m a) (sqP e m mode (fourS e m (vNum e m a) (vDen e m a))).1 = tinyS e m mode (vNum e m a) (vDen e m a) := by
    rw [← hty]
    unfold tinyLS
    by_cases q : csQ (vNum e m a) (vDen e m a) (p2N (2 * leastQ e)) (p2D (2 * leastQ e)) < 0
    · obtain ⟨h1, h2, _⟩ := hff (cs_lt.1 q)
      have := sq_fin h mode (a := fourS e m (vNum e m a) (vDen e m a)) h1 h2
      rw [this]
    · rw [if_neg q, if_neg q]
  rw [ht2]
  generalize vNum e m a = N at *
  generalize vDen e m a = D at *
  by_cases hs : smS m N D (exS e N D) = false
  · rw [if_pos hs, if_pos (cs_zero.2 (hsx.2 hs))]
  · rw [if_neg hs, if_neg (fun hh => hs (hsx.1 (cs_zero.1 hh)))]
theorem ff_zero {e m x : Nat} (h : cls e m x = 0) : ff m x = 0 := by
  unfold cls at h
  split at h
  · split at h <;> omega
  · split at h
    · split at h
      · assumption
      · omega
    · omega
theorem sq_rest {e m : Nat} (h : Fm e m) (mode : Int) (a : Nat) :
    (cls e m a = 4 → (sqP e m mode a).2 = heardF e m a a) ∧ (cls e m a ≠ 4 → (sqP e m mode a).1 = nanV e m → (sqP e m mode a).2 = 1) ∧ (cls e m a ≠ 4 → (sqP e m mode a).1 ≠ nanV e m → cls e m a = 3 ∨ cls e m a = 0 → (sqP e m mode a).2 = 0) ∧
      (cls e m a ≠ 4 → (sqP e m mode a).1 ≠ nanV e m → ¬ (cls e m a = 3 ∨ cls e m a = 0) → ngB e m a = false) := by
  have hcc := cls_cases e m a
  have hz : cls e m a = 0 → msk e m a ≠ nanV e m := by
    intro hc hh
    have := ff_nan h
    rw [← hh, ff_msk, ff_zero hc] at this
    exact this rfl
  unfold sqP
  refine ⟨fun h4 => by rw [if_pos h4], fun h4 hv => ?_, fun h4 hv hi => ?_, fun h4 hv hi => ?_⟩
  · rw [if_neg h4] at hv ⊢
    split at hv
    · rename_i h0; exact absurd hv (hz h0)
    · rename_i h0
      rw [if_neg h0]
      split at hv
      · rename_i hg; rw [if_pos hg]
      · split at hv
        · rename_i h3; exact absurd hv (msk_ne_nan h h3)
        · exact absurd hv (sqV_ne h mode (by omega)).1
  · rw [if_neg h4] at hv ⊢
    split
    · rfl
    · rename_i h0
      rw [if_neg h0] at hv
      split
      · rename_i hg; rw [if_pos hg] at hv; exact absurd rfl hv
      · rw [if_pos (by omega)]
  · rw [if_neg h4, if_neg (by omega)] at hv
    cases hg : ngB e m a with
    | false => rfl
    | true => rw [hg, if_pos rfl] at hv; exact absurd rfl hv
end Go.Proofs.Ygcoac
