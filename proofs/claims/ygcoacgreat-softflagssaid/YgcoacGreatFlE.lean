/-
  law.isTiny.
-/
import Derived.Test.YgcoacGreatFlD
import Derived.Test.YgcoacGreatExD
namespace Go.Proofs.YgcoacGreat
open Go.RowKit
set_option linter.unusedSimpArgs false
set_option linter.unusedVariables false

theorem two_lt_W {a b : Nat} (h : a < 32 * b) : 2 ^ a < W b := by rw [W_pow]; exact Nat.pow_lt_pow_right (by decide) h
theorem p2N_lt {k : Int} (h : k ≤ 3100) : p2N k < W 100 := two_lt_W (by omega)
theorem p2D_lt {k : Int} (h : -3100 ≤ k) : p2D k < W 100 := two_lt_W (by omega)

theorem two_W {n k : Nat} (h : n < W k) : n * 2 < W (k + 1) := by
  rw [W_succ]; omega
theorem rndV_lt {e m : Nat} (h : Fm e m) (mode : Int) (neg : Bool) (n d : Nat) (hd : 0 < d) : rndV e m mode neg n d < 18446744073709551616 := by
  have hs := sgn_bd h
  have hi := infP_bd h
  have hg : sg e m neg ≤ sgn e m := by unfold sg; split <;> omega
  have ho : overV e m mode neg < 18446744073709551616 := by unfold overV maxV infV; split <;> omega
  unfold rndV
  split
  · omega
  · split
    · exact ho
    · unfold packV
      split
      · exact ho
      · omega
abbrev CellsR (w' : World) (B : Nat) (neg : Bool) (vn vd : Value) : Prop := w'.cell? ⟨B, 0, none⟩ = some (.bool neg) ∧ w'.cell? ⟨B, 1, none⟩ = some vn ∧ w'.cell? ⟨B, 2, none⟩ = some vd
theorem CellsR.ext {w w' : World} {B : Nat} {neg : Bool} {vn vd : Value} (h : CellsR w B neg vn vd) (x : Ext w w') : CellsR w' B neg vn vd := ⟨x.cell h.1, x.cell h.2.1, x.cell h.2.2⟩
theorem RF.cr {w wr : World} {e m : Nat} {neg : Bool} {vn vd : Value} {n d : Nat} (h : RF w wr e m neg vn vd n d) : CellsR wr (w.heap.size + 1) neg vn vd := ⟨h.b0, h.b1, h.b2⟩

end Go.Proofs.YgcoacGreat
