/-
  soft.zero, overflow, cut, raises.
-/
import Derived.Test.YgcoacGreatWdI
import Derived.Test.YgcoacGreatIeeeV
namespace Go.Proofs.YgcoacGreat
open Go.RowKit
set_option linter.unusedSimpArgs false
set_option linter.unusedVariables false

theorem szero_any (e m : Nat) (h : Fm e m) (neg : Bool) (w : World) :
    Calls Oacg.prog 28 #[.agg #[.int .u8 (e : Int), .int .u8 (m : Int)], .bool neg] w fun r w' => r = .returned (.int .u64 (sg e m neg : Int)) ∧ Ext w w' := by
  cases neg with
  | false =>
    unfold sg
    go_enter Oacg.func28, Oacg.ntmps28
    go_wp2
    go_ret
    exact ⟨by simp, (Ext.refl w).alloc _ _⟩
  | true =>
    have HS := hide (signBit_any e m h)
    have hv : sg e m true = sgn e m := by unfold sg; simp
    rw [hv]
    clear hv
    generalize (sgn e m : Int) = sI at *
    go_enter Oacg.func28, Oacg.ntmps28
    go_wp2_with fail
    refine (HS.out _).mono ?_
    rintro _ w1 ⟨rfl, c1, c2, hw1⟩
    have HX : Hid (Ext w w1) := by rw [hw1]; exact ext3
    clear hw1
    go_wp2_with fail
    go_ret
    exact ⟨rfl, HX.out⟩
theorem soverflow_any (e m : Nat) (h : Fm e m) (mode : Int) (neg : Bool) (w : World) :
    Calls Oacg.prog 70 #[.agg #[.int .u8 (e : Int), .int .u8 (m : Int)], .int .u8 mode, .bool neg] w fun r w' => r = .returned (.tuple #[.int .u64 (overV e m mode neg : Int), .int .u8 20]) ∧ Ext w w' := by
  have HI := hide (inf_any e m h neg)
  have HM := hide (maxFinite_any e m h neg)
  have hv : overV e m mode neg = if toMax mode neg then maxV e m neg else infV e m neg := rfl
  have HV : Hid (∀ b, toMax mode neg = b → (overV e m mode neg : Int) = if b then (maxV e m neg : Int) else (infV e m neg : Int)) := by
    intro b hb; rw [hv, hb]; cases b <;> simp
  clear hv
  generalize (overV e m mode neg : Int) = oI at *
  generalize (maxV e m neg : Int) = mI at *
  generalize (infV e m neg : Int) = iI at *
  cases q2 : (mode == 2) <;> cases q3 : (mode == 3) <;> cases q4 : (mode == 4) <;> cases neg
  all_goals
    have hT := HV.out _ rfl
    simp only [toMax, q2, q3, q4, Bool.or_true, Bool.true_or, Bool.or_false, Bool.false_or, Bool.and_true, Bool.and_false, Bool.true_and, Bool.false_and, Bool.not_true, Bool.not_false, if_true, Bool.false_eq_true, if_false] at hT
    subst hT
    clear HV
    go_enter Oacg.func70, Oacg.ntmps70
    go_wp2_with (first | (go_at_call 31; refine (HI.out _).mono ?_; rintro _ w1 ⟨rfl, hx1⟩) | (go_at_call 92; refine (HM.out _).mono ?_; rintro _ w1 ⟨rfl, hx1⟩))
    simp [bodyPost, results, Oacg.results70, go_sem]
    exact ((Ext.refl w).alloc _ _).trans hx1

/-! ### cut -/
def restC (sig k : Nat) : Nat := if k = 0 then 0 else if k ≤ 64 then sig % 2 ^ k * 2 ^ (64 - k) else if sig = 0 then 0 else 1
set_option maxRecDepth 20000 in
set_option maxHeartbeats 1000000 in
theorem cut_any (sig : Nat) (hs : sig < 18446744073709551616) (k : Nat) (hk : k ≤ 32000) (w : World) :
    Calls Oacg.prog 48 #[.int .u64 (sig : Int), .int .i16 (k : Int)] w fun r w' => r = .returned (.tuple #[.int .u64 ((sig / 2 ^ k : Nat) : Int), .int .u64 (restC sig k : Int)]) ∧ Ext w w' := by
  by_cases h0 : k = 0
  · subst h0
    rw [Nat.pow_zero, Nat.div_one, show restC sig 0 = 0 from rfl]
    go_enter Oacg.func48, Oacg.ntmps48
    go_wp2
    simp [bodyPost, results, Oacg.results48, go_sem]
    exact Ext.refl w
  by_cases h1 : k ≤ 64
  · have hr : restC sig k = sig * 2 ^ (64 - k) % 18446744073709551616 := by
      unfold restC
      rw [if_neg h0, if_pos h1, show (18446744073709551616 : Nat) = 2 ^ k * 2 ^ (64 - k) by rw [← Nat.pow_add, show k + (64 - k) = 64 by omega], Nat.mul_mod_mul_right]
    rw [hr]
    obtain ⟨j, hj⟩ : ∃ j, 64 - k = j := ⟨_, rfl⟩
    rw [hj]
    have t1 : ((k : Int) == 0) = false := by rw [beq_eq_false_iff_ne]; omega
    have t2 : (k : Int) ≤ 64 := by omega
    have t3 : (64 : Int) - (k : Int) = (j : Int) := by omega
    have t3b : IntKind.i16.wrap (j : Int) = (j : Int) := by rw [wi16]; omega
    have e1 : (sig : Int) / 2 ^ k = ((sig / 2 ^ k : Nat) : Int) := by rw [two_pow_cast, ← Int.natCast_ediv]
    have e2 : IntKind.u64.wrap ((sig : Int) * 2 ^ j) = ((sig * 2 ^ j % 18446744073709551616 : Nat) : Int) := by rw [two_pow_cast, ← Int.natCast_mul, w64n]
    generalize sig / 2 ^ k = q at *
    generalize sig * 2 ^ j % 18446744073709551616 = r at *
    clear h0 h1 hr hj hs hk
    go_enter Oacg.func48, Oacg.ntmps48
    go_wp2
    go_region_held3 (fun w' => True) (exact True.intro) (fail)
    all_goals go_wp2
    all_goals simp [bodyPost, results, Oacg.results48, go_sem]
    all_goals exact (Ext.refl w).drew
  · have hd : sig / 2 ^ k = 0 := by
      refine Nat.div_eq_of_lt (Nat.lt_of_lt_of_le hs ?_)
      exact pow_le_of (show 64 ≤ k by omega)
    rw [hd]
    have t1 : ((k : Int) == 0) = false := by rw [beq_eq_false_iff_ne]; omega
    have t2 : ¬ (k : Int) ≤ 64 := by omega
    by_cases h2 : sig = 0
    · subst h2
      rw [show restC 0 k = 0 by unfold restC; rw [if_neg h0, if_neg h1, if_pos rfl]]
      clear h0 h1 hd hs hk
      go_enter Oacg.func48, Oacg.ntmps48
      go_wp2
      simp [bodyPost, results, Oacg.results48, go_sem]
      exact Ext.refl w
    · rw [show restC sig k = 1 by unfold restC; rw [if_neg h0, if_neg h1, if_neg h2]]
      have t3 : ((sig : Int) == 0) = false := by rw [beq_eq_false_iff_ne]; omega
      clear h0 h1 hd hs hk h2
      go_enter Oacg.func48, Oacg.ntmps48
      go_wp2
      simp [bodyPost, results, Oacg.results48, go_sem]
      exact Ext.refl w
/-! ### raises -/
def raisesS (mode : Int) (neg : Bool) (n rest : Nat) : Bool := raisesQ mode neg (decide (n % 2 = 1)) (cmpI rest 9223372036854775808) (decide (rest ≠ 0))
set_option maxRecDepth 20000 in
set_option maxHeartbeats 1000000 in
theorem sraises_any (mode : Int) (neg : Bool) (n rest : Nat) (hn : n < 18446744073709551616) (hr : rest < 18446744073709551616) (w : World) :
    Calls Oacg.prog 49 #[.int .u8 mode, .bool neg, .int .u64 (n : Int), .int .u64 (rest : Int)] w fun e w' => e = .returned (.bool (raisesS mode neg n rest)) ∧ w' = w := by
  obtain ⟨R, hR⟩ : ∃ R : Int, (rest : Int) = R := ⟨_, rfl⟩
  have h1 : decide ((9223372036854775808 : Int) ≤ R) = decide (0 ≤ cmpI rest 9223372036854775808) := by
    rw [decide_eq_decide]; unfold cmpI; split <;> (try split) <;> omega
  have h2 : decide ((9223372036854775808 : Int) < R) = decide (0 < cmpI rest 9223372036854775808) := by
    rw [decide_eq_decide]; unfold cmpI; split <;> (try split) <;> omega
  have h3 : (R == 9223372036854775808) = (cmpI rest 9223372036854775808 == 0) := by
    rw [Bool.eq_iff_iff, beq_iff_eq, beq_iff_eq]; unfold cmpI; split <;> (try split) <;> omega
  have h4 : (R != 0) = decide (rest ≠ 0) := by
    rw [Bool.eq_iff_iff, bne_iff_ne, decide_eq_true_iff]; omega
  have h5 : (Go.bits BinOp.and IntKind.u64 (n : Int) 1 == 1) = decide (n % 2 = 1) := by
    have := and_bit (k := 0) hn (by decide)
    have h6 := u64_and_nat n 1 hn (by decide)
    rw [show ((1 : Nat) : Int) = 1 from rfl] at h6
    rw [h6, show (1 : Nat) = 2 ^ 1 - 1 from rfl, Nat.and_two_pow_sub_one_eq_mod, Bool.eq_iff_iff, beq_iff_eq, decide_eq_true_iff]
    omega
  unfold raisesS raisesQ
  rw [hR]
  generalize cmpI rest 9223372036854775808 = hf at *
  rw [← h1, ← h2, ← h3, ← h4, ← h5]
  clear h1 h2 h3 h4 h5 hR hn hr
  go_enter Oacg.func49, Oacg.ntmps49
  go_wp2
  all_goals
    simp [bodyPost, results, Oacg.results49, go_sem, *]
end Go.Proofs.YgcoacGreat
