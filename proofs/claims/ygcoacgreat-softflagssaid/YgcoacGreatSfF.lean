/-
  soft.FromUint64Flags, FromInt64Flags, ConvertFlags.
-/
import Derived.Test.YgcoacGreatSfE
import Derived.Test.YgcoacGreatExE
namespace Go.Proofs.YgcoacGreat
open Go.RowKit
set_option linter.unusedSimpArgs false
set_option linter.unusedVariables false

theorem shN_zero (n : Nat) : shN n 0 = n := by unfold shN; simp
theorem shD_zero (n : Nat) : shD n 0 = n := by unfold shD; simp
theorem vNum_sh (e m x : Nat) : vNum e m x = shN (pMan e m x) (pExp e m x) := rfl
theorem vDen_sh (e m x : Nat) : vDen e m x = shD 1 (pExp e m x) := by unfold vDen shD; rw [Nat.one_mul]
theorem pMan_bd {e m : Nat} (h : Fm e m) (x : Nat) : pMan e m x < 2 ^ (m + 1) := by
  unfold pMan
  have hf : ff m x < 2 ^ m := Nat.mod_lt _ (two_pos _)
  split
  · rw [Nat.pow_succ]; omega
  · split
    · rename_i h1 h2
      have h0 : 0 < ff m x := by
        rcases Nat.eq_zero_or_pos (ff m x) with hz | hz
        · exfalso; unfold cls at h2; rw [hz] at h2; revert h2; repeat' split
          all_goals simp_all
        · exact hz
      exact (sub_man_bd h0 hf).2
    · exact two_pos _
theorem pMan_u64 {e m : Nat} (h : Fm e m) (x : Nat) : pMan e m x < 18446744073709551616 :=
  Nat.lt_of_lt_of_le (pMan_bd h x) (Nat.le_trans (pow_le_of (show m + 1 ≤ 53 by have := h.m2; omega)) (by decide))
theorem vNeg_pNeg {e m x : Nat} (h : ¬ 3 ≤ cls e m x) : vNeg e m x = pNeg e m x := by
  unfold vNeg pNeg
  rw [if_neg h, if_neg (by omega)]
theorem ngB_pNeg {e m x : Nat} (h : ¬ cls e m x = 4) : pNeg e m x = ngB e m x := by
  unfold pNeg
  rw [if_neg h]

set_option maxRecDepth 20000 in
set_option maxHeartbeats 2000000 in
theorem sfromUint64Flags_any (e m : Nat) (h : Fm e m) (mode : Int) (n : Nat) (hn : n < 18446744073709551616) (w : World) :
    Calls Oacg.prog 13 #[.agg #[.int .u8 (e : Int), .int .u8 (m : Int)], .int .u8 mode, .int .u64 (n : Int)] w fun r w' =>
      r = .returned (.tuple #[.int .u64 (rndV e m mode false n 1 : Int), .int .u8 (rndF e m mode false n 1)]) ∧ Ext w w' := by
  have hok := okB_fm h
  have HR := hide (roundPack_any e m h mode false 0 (by decide) (by decide) n hn)
  rw [shN_zero, shD_zero] at HR
  generalize (rndV e m mode false n 1 : Int) = V at *
  generalize rndF e m mode false n 1 = F at *
  clear hn h
  go_enter Oacg.func13, Oacg.ntmps13
  go_wp2_with (first | (go_at_call 4; refine (ok_any _ _ _).mono ?_; rintro r w' ⟨rfl, rfl⟩))
  refine (HR.out _).mono ?_
  rintro _ w1 ⟨rfl, hx1⟩
  have HX : Hid (Ext w w1) := Ext.trans (by repeat (first | apply Ext.alloc | exact Ext.refl _)) hx1
  clear hx1
  go_wp2_with fail
  simp [bodyPost, results, Oacg.results13, go_sem]
  exact HX.out

set_option maxRecDepth 20000 in
set_option maxHeartbeats 2000000 in
theorem sfromInt64Flags_any (e m : Nat) (h : Fm e m) (mode : Int) (i : Int) (h1 : -9223372036854775808 ≤ i) (h2 : i ≤ 9223372036854775807) (w : World) :
    Calls Oacg.prog 11 #[.agg #[.int .u8 (e : Int), .int .u8 (m : Int)], .int .u8 mode, .int .i64 i] w fun r w' =>
      r = .returned (.tuple #[.int .u64 (rndV e m mode (decide (i < 0)) i.natAbs 1 : Int), .int .u8 (rndF e m mode (decide (i < 0)) i.natAbs 1)]) ∧ Ext w w' := by
  have hok := okB_fm h
  by_cases hi : i < 0
  · rw [show decide (i < 0) = true by simpa using hi]
    have HR := hide (roundPack_any e m h mode true 0 (by decide) (by decide) i.natAbs (by omega))
    rw [shN_zero, shD_zero] at HR
    have c1 : IntKind.u64.wrap (-IntKind.u64.wrap i) = (i.natAbs : Int) := by rw [wu64, wu64]; omega
    generalize (rndV e m mode true i.natAbs 1 : Int) = V at *
    generalize rndF e m mode true i.natAbs 1 = F at *
    obtain ⟨A, hA⟩ : ∃ A : Int, (i.natAbs : Int) = A := ⟨_, rfl⟩
    rw [hA] at HR c1
    clear hA h
    go_enter Oacg.func11, Oacg.ntmps11
    go_wp2_with (first | (go_at_call 4; refine (ok_any _ _ _).mono ?_; rintro r w' ⟨rfl, rfl⟩))
    refine (HR.out _).mono ?_
    rintro _ w1 ⟨rfl, hx1⟩
    have HX : Hid (Ext w w1) := Ext.trans (by repeat (first | apply Ext.alloc | exact Ext.refl _)) hx1
    clear hx1
    go_wp2_with fail
    simp [bodyPost, results, Oacg.results11, go_sem]
    exact HX.out
  · rw [show decide (i < 0) = false by simpa using hi]
    have HR := hide (roundPack_any e m h mode false 0 (by decide) (by decide) i.natAbs (by omega))
    rw [shN_zero, shD_zero] at HR
    have c1 : IntKind.u64.wrap i = (i.natAbs : Int) := by rw [wu64]; omega
    generalize (rndV e m mode false i.natAbs 1 : Int) = V at *
    generalize rndF e m mode false i.natAbs 1 = F at *
    obtain ⟨A, hA⟩ : ∃ A : Int, (i.natAbs : Int) = A := ⟨_, rfl⟩
    rw [hA] at HR c1
    clear hA h
    go_enter Oacg.func11, Oacg.ntmps11
    go_wp2_with (first | (go_at_call 4; refine (ok_any _ _ _).mono ?_; rintro r w' ⟨rfl, rfl⟩))
    refine (HR.out _).mono ?_
    rintro _ w1 ⟨rfl, hx1⟩
    have HX : Hid (Ext w w1) := Ext.trans (by repeat (first | apply Ext.alloc | exact Ext.refl _)) hx1
    clear hx1
    go_wp2_with fail
    simp [bodyPost, results, Oacg.results11, go_sem]
    exact HX.out
end Go.Proofs.YgcoacGreat
