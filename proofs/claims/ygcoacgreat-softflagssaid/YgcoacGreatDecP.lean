/-
  nat.Pow5, exact.pow10.
-/
import Derived.Test.YgcoacGreatExF
import Derived.Deep.DeepCutAuto
namespace Go.Proofs.YgcoacGreat
open Go.RowKit
set_option linter.unusedSimpArgs false
set_option linter.unusedVariables false

theorem natAt_lit (w : World) (c : Nat) (h0 : 0 < c) (hc : c < 4294967296) (t : TypeId) : NatAt (w.alloc (.cells #[.int .u32 (c : Int)] t)) (.slice (some ⟨w.heap.size, 0, none⟩) 1 1) c := by
  refine .inr ⟨[c], w.heap.size, 0, 1, rfl, Nat.le_refl _, by decide, ?_, ?_, ?_, h0, ?_⟩
  · intro x hx
    have : x = c := by simpa using hx
    subst this; exact hc
  · intro h
    simp; omega
  · simp [val]
  · intro j x hj
    match j, hj with
    | 0, hj =>
      have : c = x := by simpa using hj
      subst this
      simp [go_sem]
    | j + 1, hj => simp at hj
theorem two_ltW {a b : Nat} (h : a < 32 * b) : 2 ^ a < W b := by rw [W_pow]; exact Nat.pow_lt_pow_right (by decide) h
theorem pow5_lt {s : Nat} (h : s ≤ 2000) : 5 ^ s < W 200 := by
  have h1 : 5 ^ s ≤ 8 ^ s := Nat.pow_le_pow_left (by decide) s
  have h2 : 8 ^ s = 2 ^ (3 * s) := by rw [show 8 = 2 ^ 3 from rfl, ← Nat.pow_mul]
  have h3 : 2 ^ (3 * s) < W 200 := two_ltW (by omega)
  omega

end Go.Proofs.YgcoacGreat
