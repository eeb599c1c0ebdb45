/-
  exact.ToInt64, law.isFinite.
-/
import Derived.Test.YgcoacExH
namespace Go.Proofs.Ygcoac
open Go.RowKit
set_option linter.unusedSimpArgs false
set_option linter.unusedVariables false

set_option maxHeartbeats 1000000 in
theorem toInt64_any (e m : Nat) (h : Fm e m) (mode : Int) (a : Nat) (ha : a < 18446744073709551616) (w : World) :
    Calls Oacg.prog 26 #[.agg #[.int .u8 (e : Int), .int .u8 (m : Int)], .int .u8 mode, .int .u64 (a : Int)] w fun r w' =>
      r = .returned (.tuple #[.int .i64 (tiA e m mode a).1, .bool (tiA e m mode a).2.1]) ∧ Ext w w' := by
  have HC := hide (toInt64Flags_any e m h mode a ha)
  unfold tiV at HC
  generalize (tiA e m mode a).1 = t1 at *
  generalize (tiA e m mode a).2.1 = t2 at *
  generalize (tiA e m mode a).2.2 = t3 at *
  clear h ha
  go_enter Oacg.func26, Oacg.ntmps26
  go_wp2_with fail
  refine (HC.out _).mono ?_
  rintro _ w1 ⟨rfl, hx1⟩
  have HX : Hid (Ext w w1) := ((Ext.refl w).alloc _ _).trans hx1
  clear hx1
  go_wp2_with fail
  simp [bodyPost, results, Oacg.results26, go_sem]
  exact HX.out

theorem cls_fin (e m x : Nat) : decide (cls e m x < 3) = decide (ef e m x ≠ 2 ^ e - 1) := by
  rw [decide_eq_decide]
  unfold cls
  split
  · split <;> simp_all
  · rename_i h
    constructor
    · intro _; exact h
    · intro _; split <;> (try split) <;> omega
set_option maxRecDepth 20000 in
set_option maxHeartbeats 1000000 in
theorem isFinite_any (e m : Nat) (h : Fm e m) (x : Nat) (hx : x < 18446744073709551616) (w : World) :
    Calls Oacg.prog 27 #[.agg #[.int .u8 (e : Int), .int .u8 (m : Int)], .int .u64 (x : Int)] w fun r w' => r = .returned (.bool (decide (cls e m x < 3))) ∧ Ext w w' := by
  rw [cls_fin]
  have HE := hide (expField_any e m h x hx)
  obtain ⟨h1, h2, h3, h4⟩ := h
  have hp := pow_le_of (show e ≤ 11 by omega)
  have hp2 := pow_le_of (show 2 ≤ e by omega)
  have hw1 : IntKind.u64.wrap (IntKind.u64.wrap (2 ^ e) - 1) = ((2 ^ e - 1 : Nat) : Int) := by
    rw [wu64, wu64, two_pow_cast]
    generalize 2 ^ e = q at *
    omega
  have hw2 : min (e : Int).toNat 64 = e := by omega
  have hne : (((ef e m x : Nat) : Int) != ((2 ^ e - 1 : Nat) : Int)) = decide (ef e m x ≠ 2 ^ e - 1) := by
    rw [Bool.eq_iff_iff]; simp only [bne_iff_ne, decide_eq_true_eq, ne_eq]; omega
  generalize decide (ef e m x ≠ 2 ^ e - 1) = R at *
  generalize ((ef e m x : Nat) : Int) = E at *
  generalize ((2 ^ e - 1 : Nat) : Int) = Q at *
  have HNE := Box.mk hne
  clear hx hp hp2 hne
  go_enter Oacg.func27, Oacg.ntmps27
  go_wp2_with fail
  go_region_held3 (fun w' => Cells2 w' w.heap.size e m)
    ((simp [go_sem, Cells2]; done))
    (first
      | (go_at_call 76; refine (HE.out _).mono ?_; rintro r w' ⟨rfl, c, rfl⟩))
  all_goals go_wp2_with fail
  all_goals go_ret
  all_goals exact ⟨ret_bool HNE.out, by repeat (first | apply Ext.drew | apply Ext.alloc | exact Ext.refl _)⟩
end Go.Proofs.Ygcoac
