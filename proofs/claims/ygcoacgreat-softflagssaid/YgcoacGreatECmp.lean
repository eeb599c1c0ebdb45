/-
  law.ExactCmp: Cmp is the order of the values.
-/
import Derived.Test.YgcoacGreatCmpA
namespace Go.Proofs.YgcoacGreat
open Go.RowKit
set_option linter.unusedSimpArgs false
set_option linter.unusedVariables false

/-- The plain law: what the switch makes of the classes and signs is the order that Cmp answers. -/
theorem cmpX_fin {cx cy : Int} {nx ny vx vy : Bool} {Nx Dx Ny Dy : Nat} (h1 : ¬ cx = 4) (h2 : ¬ cy = 4) (h3 : ¬ cx = 3) (h4 : ¬ cy = 3) : cmpX cx cy nx ny vx vy Nx Dx Ny Dy = cmpQ vx Nx Dx vy Ny Dy := by
  unfold cmpX rankI; simp [h1, h2, h3, h4]
theorem cmpX_nan {cx cy : Int} {nx ny vx vy : Bool} {Nx Dx Ny Dy : Nat} (h : cx = 4 ∨ cy = 4) : cmpX cx cy nx ny vx vy Nx Dx Ny Dy = 2 := by
  unfold cmpX; rw [if_pos h]
theorem cmpX_both {nx ny vx vy : Bool} {Nx Dx Ny Dy : Nat} : cmpX 3 3 nx ny vx vy Nx Dx Ny Dy = if nx = ny then 0 else if nx then -1 else 1 := by
  unfold cmpX rankI; cases nx <;> cases ny <;> simp
theorem cmpX_left {cy : Int} {nx ny vx vy : Bool} {Nx Dx Ny Dy : Nat} (h2 : ¬ cy = 4) (h4 : ¬ cy = 3) : cmpX 3 cy nx ny vx vy Nx Dx Ny Dy = if nx then -1 else 1 := by
  unfold cmpX rankI; cases nx <;> simp [h2, h4]
theorem cmpX_right {cx : Int} {nx ny vx vy : Bool} {Nx Dx Ny Dy : Nat} (h2 : ¬ cx = 4) (h4 : ¬ cx = 3) : cmpX cx 3 nx ny vx vy Nx Dx Ny Dy = if ny then 1 else -1 := by
  unfold cmpX rankI; cases ny <;> simp [h2, h4]

theorem u8_bd {x : Int} (h : (Lit.int .u8 x).wf = true) : 0 ≤ x ∧ x < 256 := by
  simp [Lit.wf, IntKind.min, IntKind.max, IntKind.signed, IntKind.bits] at h; omega
theorem u64_bd {x : Int} (h : (Lit.int .u64 x).wf = true) : 0 ≤ x ∧ x < 18446744073709551616 := by
  simp [Lit.wf, IntKind.min, IntKind.max, IntKind.signed, IntKind.bits] at h; omega
theorem fm_of {E M : Int} (h : okB E M = true) : ∃ e m : Nat, E = e ∧ M = m ∧ Fm e m := by
  unfold okB at h
  have h' := of_decide_eq_true h
  refine ⟨E.toNat, M.toNat, by omega, by omega, ⟨by omega, by omega, by omega, by omega⟩⟩

end Go.Proofs.YgcoacGreat
