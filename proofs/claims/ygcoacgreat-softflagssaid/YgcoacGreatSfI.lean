/-
  Two Parts beside each other; what the plain operations say in terms of Parts.
-/
import Derived.Test.YgcoacGreatSfH
import Derived.Test.YgcoacGreatRules
import Derived.Test.YgcoacGreatFlBin
import Derived.Deep.QuietTactic
import Derived.BigQuiet
namespace Go.Proofs.YgcoacGreat
open Go.RowKit
set_option linter.unusedSimpArgs false
set_option linter.unusedVariables false

/-- A Parts' four cells. -/
abbrev Pt4 (w : World) (b : Nat) (x0 x1 x2 x3 : Value) : Prop :=
  w.cell? ⟨b, 0, none⟩ = some x0 ∧ w.cell? ⟨b, 1, none⟩ = some x1 ∧ w.cell? ⟨b, 2, none⟩ = some x2 ∧ w.cell? ⟨b, 3, none⟩ = some x3
theorem Pt4.ext {w w' : World} {b : Nat} {x0 x1 x2 x3 : Value} (h : Pt4 w b x0 x1 x2 x3) (x : Ext w w') : Pt4 w' b x0 x1 x2 x3 := ⟨x.cell h.1, x.cell h.2.1, x.cell h.2.2.1, x.cell h.2.2.2⟩
theorem lt2p {a b : Nat} (h : a < b) : a < b ∧ a < b + 1 := ⟨h, by omega⟩
theorem nl4 (w : World) : ∀ i, i < 4 → NL1 (w.alloc (.cells #[.bool false, .int .i8 0, .int .i16 0, .int .u64 0] 44)) w.heap.size i := by
  intro i hi
  match i, hi with
  | 0, _ => exact R.nlNew rfl rfl rfl
  | 1, _ => exact R.nlNew rfl rfl rfl
  | 2, _ => exact R.nlNew rfl rfl rfl
  | 3, _ => exact R.nlNew rfl rfl rfl
  | n + 4, h => omega
theorem pk1p {a b : World} (h : Ext (a.alloc (.cells #[.bool false, .int .i8 0, .int .i16 0, .int .u64 0] 44)) b) : a.heap.size < b.heap.size ∧ a.heap.size < b.heap.size + 1 ∧ (∀ i, i < 4 → NL1 b a.heap.size i) := by
  have := h.size
  simp at this
  exact ⟨by omega, by omega, fun i hi => R.nlExt (nl4 a i hi) h⟩
theorem pk2p {a b : World} (h : Ext ((a.alloc (.cells #[.bool false, .int .i8 0, .int .i16 0, .int .u64 0] 44)).alloc (.cells #[.bool false, .int .i8 0, .int .i16 0, .int .u64 0] 44)) b) : a.heap.size < b.heap.size ∧ a.heap.size < b.heap.size + 1 ∧ (∀ i, i < 4 → NL1 b a.heap.size i) ∧ a.heap.size + 1 < b.heap.size ∧ a.heap.size + 1 < b.heap.size + 1 ∧ (∀ i, i < 4 → NL1 b (a.heap.size + 1) i) := by
  have := h.size
  simp at this
  refine ⟨by omega, by omega, fun i hi => R.nlExt (R.nlAlloc (by simp) (nl4 a i hi)) h, by omega, by omega, fun i hi => ?_⟩
  have h2 := nl4 (a.alloc (.cells #[.bool false, .int .i8 0, .int .i16 0, .int .u64 0] 44)) i hi
  rw [World.size_alloc] at h2
  exact R.nlExt h2 h
theorem four {w : World} {b : Nat} (h : ∀ i, i < 4 → NL1 w b i) : NL1 w b 0 ∧ NL1 w b 1 ∧ NL1 w b 2 ∧ NL1 w b 3 :=
  ⟨h 0 (by decide), h 1 (by decide), h 2 (by decide), h 3 (by decide)⟩

theorem pMan_facts {e m : Nat} (h : Fm e m) (x : Nat) : (cls e m x = 0 → pMan e m x = 0) ∧ (cls e m x = 1 ∨ cls e m x = 2 → 2 ^ m ≤ pMan e m x) := by
  constructor
  · intro hc
    unfold pMan
    rw [if_neg (by omega), if_neg (by omega)]
  · intro hc
    unfold pMan
    have hf : ff m x < 2 ^ m := Nat.mod_lt _ (two_pos _)
    by_cases h2 : cls e m x = 2
    · rw [if_pos h2]; omega
    · have h1 : cls e m x = 1 := by omega
      rw [if_neg h2, if_pos h1]
      have h0 : 0 < ff m x := by
        rcases Nat.eq_zero_or_pos (ff m x) with hz | hz
        · exfalso; unfold cls at h1; rw [hz] at h1; revert h1; repeat' split
          all_goals simp_all
        · exact hz
      exact (sub_man_bd h0 hf).1
theorem jamS_lt {a : Nat} (ha : a < 340282366920938463463374607431768211456) : jamS a < 18446744073709551616 := by
  have h1 := tpA_lt ha
  unfold jamS
  split <;> omega
theorem top_ge {m man : Nat} (hm : m ≤ 52) (h : 2 ^ m ≤ man) : 9223372036854775808 ≤ man * 2 ^ (63 - m) := by
  have := Nat.mul_le_mul_right (2 ^ (63 - m)) h
  rw [← Nat.pow_add, show m + (63 - m) = 63 by omega] at this
  exact this
theorem neg_ne {a b : Bool} : (a != b) = !(a == b) := rfl
/-- The signs of numbers that are no NaN. -/
theorem ng2 {e m x y : Nat} (hx : ¬ cls e m x = 4) (hy : ¬ cls e m y = 4) : (!(ngB e m x == ngB e m y)) = (pNeg e m x != pNeg e m y) := by
  rw [ngB_pNeg hx, ngB_pNeg hy]; rfl

/-- The product, in Parts' terms. -/
theorem fmulP_parts {e m : Nat} {mode : Int} {x y : Nat} {P : Nat × Int} (hP : fmulP e m mode x y = P) :
    (if cls e m x = 4 ∨ cls e m y = 4 then (nanV e m, heardF e m x y)
    else if (cls e m x = 3 ∧ cls e m y = 0) ∨ (cls e m x = 0 ∧ cls e m y = 3) then (nanV e m, 1)
    else if cls e m x = 3 ∨ cls e m y = 3 then (infV e m (pNeg e m x != pNeg e m y), 0)
    else (rndV e m mode (pNeg e m x != pNeg e m y) (shN (pMan e m x) (pExp e m x) * shN (pMan e m y) (pExp e m y)) (shD 1 (pExp e m x) * shD 1 (pExp e m y)), rndF e m mode (pNeg e m x != pNeg e m y) (shN (pMan e m x) (pExp e m x) * shN (pMan e m y) (pExp e m y)) (shD 1 (pExp e m x) * shD 1 (pExp e m y)))) = P := by
  subst hP
  unfold fmulP
  by_cases h1 : cls e m x = 4 ∨ cls e m y = 4
  · simp only [if_pos h1]
  · rw [← ng2 (by omega) (by omega)]
    simp only [vNum_sh, vDen_sh]
/-- The quotient. -/
theorem fdivP_parts {e m : Nat} {mode : Int} {x y : Nat} {P : Nat × Int} (hP : fdivP e m mode x y = P) :
    (if cls e m x = 4 ∨ cls e m y = 4 then (nanV e m, heardF e m x y)
    else if (cls e m x = 3 ∧ cls e m y = 3) ∨ (cls e m x = 0 ∧ cls e m y = 0) then (nanV e m, 1)
    else if cls e m x = 3 then (infV e m (pNeg e m x != pNeg e m y), 0)
    else if cls e m y = 0 then (infV e m (pNeg e m x != pNeg e m y), 2)
    else if cls e m y = 3 then (sg e m (pNeg e m x != pNeg e m y), 0)
    else (rndV e m mode (pNeg e m x != pNeg e m y) (shN (pMan e m x) (pExp e m x) * shD 1 (pExp e m y)) (shD 1 (pExp e m x) * shN (pMan e m y) (pExp e m y)), rndF e m mode (pNeg e m x != pNeg e m y) (shN (pMan e m x) (pExp e m x) * shD 1 (pExp e m y)) (shD 1 (pExp e m x) * shN (pMan e m y) (pExp e m y)))) = P := by
  subst hP
  unfold fdivP
  by_cases h1 : cls e m x = 4 ∨ cls e m y = 4
  · simp only [if_pos h1]
  · rw [← ng2 (by omega) (by omega)]
    simp only [vNum_sh, vDen_sh]
end Go.Proofs.YgcoacGreat
