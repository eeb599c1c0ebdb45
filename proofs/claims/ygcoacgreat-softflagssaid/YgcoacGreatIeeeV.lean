/-
  ieee.signed, Inf, MaxFinite, TheNaN; exact.zero, emin, emax, overflow.
-/
import Derived.Test.YgcoacGreatLawC
import Derived.Deep.RegionHeld3
namespace Go.Proofs.YgcoacGreat
open Go.RowKit
set_option linter.unusedSimpArgs false
set_option linter.unusedVariables false

def infP (e m : Nat) : Nat := (2 ^ e - 1) * 2 ^ m
def sg (e m : Nat) (neg : Bool) : Nat := if neg then sgn e m else 0
def infV (e m : Nat) (neg : Bool) : Nat := infP e m + sg e m neg
def maxV (e m : Nat) (neg : Bool) : Nat := infP e m - 1 + sg e m neg
def nanV (e m : Nat) : Nat := infP e m + 2 ^ (m - 1)
theorem sgn_eq (e m : Nat) : sgn e m = 2 ^ e * 2 ^ m := by unfold sgn; rw [Nat.pow_add]
theorem infP_bd {e m : Nat} (h : Fm e m) : 12 ≤ infP e m ∧ infP e m + 2 ^ m = sgn e m ∧ infP e m < sgn e m := by
  obtain ⟨_, _, _, _⟩ := h
  have h1 := pow_le_of (show 2 ≤ e by omega)
  have h2 := pow_le_of (show 2 ≤ m by omega)
  have h3 : infP e m + 2 ^ m = sgn e m := by
    unfold infP; rw [sgn_eq, Nat.sub_mul, Nat.one_mul]
    have : 1 * 2 ^ m ≤ 2 ^ e * 2 ^ m := Nat.mul_le_mul_right _ (by omega)
    omega
  have h4 : 3 * 4 ≤ infP e m := by unfold infP; exact Nat.mul_le_mul (by omega) h2
  have h5 : 0 < 2 ^ m := Nat.pow_pos (by decide)
  omega
/-- The two shifts of Inf. -/
theorem inf_wrap {e m : Nat} (h : Fm e m) : IntKind.u64.wrap (IntKind.u64.wrap (IntKind.u64.wrap (2 ^ e) - 1) * 2 ^ m) = (infP e m : Int) := by
  have hb := infP_bd h
  have hs := sgn_bd h
  obtain ⟨_, _, _, _⟩ := h
  have h1 := pow_le_of (show e ≤ 11 by omega)
  have h1' := pow_le_of (show 2 ≤ e by omega)
  have e1 : IntKind.u64.wrap ((2 : Int) ^ e) = ((2 ^ e : Nat) : Int) := by rw [wu64, two_pow_cast]; omega
  have e2 : IntKind.u64.wrap (((2 ^ e : Nat) : Int) - 1) = ((2 ^ e - 1 : Nat) : Int) := by rw [wu64]; omega
  have e3 : ((2 ^ e - 1 : Nat) : Int) * 2 ^ m = (infP e m : Int) := by unfold infP; rw [Int.natCast_mul, Int.natCast_pow]; rfl
  rw [e1, e2, e3, wu64]
  omega

theorem signed_pos (e m : Nat) (x : Int) (w : World) :
    Calls Oacg.prog 65 #[.agg #[.int .u8 (e : Int), .int .u8 (m : Int)], .bool false, .int .u64 x] w fun r w' => r = .returned (.int .u64 x) ∧ ∃ c1, w' = w.alloc (.cells c1 23) := by
  go_enter Oacg.func65, Oacg.ntmps65
  go_wp2
  go_ret
  exact ⟨rfl, _, rfl⟩
theorem or_sgn {e m x : Nat} (h : Fm e m) (hx : x < sgn e m) : Go.bits BinOp.or IntKind.u64 (x : Int) (sgn e m : Int) = ((x + sgn e m : Nat) : Int) := by
  obtain ⟨_, _, _, _⟩ := h
  unfold sgn at *
  exact or_top hx (by omega)
theorem signed_neg (e m : Nat) (h : Fm e m) (x : Nat) (hx : x < sgn e m) (w : World) :
    Calls Oacg.prog 65 #[.agg #[.int .u8 (e : Int), .int .u8 (m : Int)], .bool true, .int .u64 (x : Int)] w fun r w' => r = .returned (.int .u64 ((x + sgn e m : Nat) : Int)) ∧ Ext w w' := by
  have ho := or_sgn h hx
  have HS := hide (signBit_any e m h)
  generalize (sgn e m : Int) = sI at *
  generalize ((x + sgn e m : Nat) : Int) = yI at *
  clear hx
  go_enter Oacg.func65, Oacg.ntmps65
  go_wp2_with fail
  refine (HS.out _).mono ?_
  rintro _ w1 ⟨rfl, c1, c2, hw1⟩
  have HX : Hid (Ext w w1) := by rw [hw1]; exact ((((Ext.refl w).alloc _ _).alloc _ _).alloc _ _)
  clear hw1
  go_wp2_with fail
  go_ret
  exact ⟨rfl, HX.out⟩
theorem inf_pos (e m : Nat) (h : Fm e m) (w : World) :
    Calls Oacg.prog 31 #[.agg #[.int .u8 (e : Int), .int .u8 (m : Int)], .bool false] w fun r w' => r = .returned (.int .u64 (infP e m : Int)) ∧ ∃ c1 c2 c3, w' = ((w.alloc (.cells c1 23)).alloc (.cells c2 23)).alloc (.cells c3 23) := by
  have hi := inf_wrap h
  obtain ⟨h1, h2, h3, h4⟩ := h
  generalize (infP e m : Int) = iI at *
  go_enter Oacg.func31, Oacg.ntmps31
  go_wp2
  go_ret
  exact ⟨rfl, _, _, _, rfl⟩
theorem ext3 {w : World} {c1 c2 c3 : Array Value} {t1 t2 t3 : TypeId} : Ext w (((w.alloc (.cells c1 t1)).alloc (.cells c2 t2)).alloc (.cells c3 t3)) := (((Ext.refl w).alloc _ _).alloc _ _).alloc _ _
theorem inf_any (e m : Nat) (h : Fm e m) (neg : Bool) (w : World) :
    Calls Oacg.prog 31 #[.agg #[.int .u8 (e : Int), .int .u8 (m : Int)], .bool neg] w fun r w' => r = .returned (.int .u64 (infV e m neg : Int)) ∧ Ext w w' := by
  cases neg with
  | false =>
    refine (inf_pos e m h w).mono ?_
    rintro _ _ ⟨rfl, c1, c2, c3, rfl⟩
    exact ⟨by unfold infV sg; simp, ext3⟩
  | true =>
    have hok := okB_fm h
    have hi := inf_wrap h
    have HS := hide (signed_neg e m h (infP e m) (infP_bd h).2.2)
    have hv : infV e m true = infP e m + sgn e m := by unfold infV sg; simp
    rw [hv]
    obtain ⟨h1, h2, h3, h4⟩ := h
    clear hv
    generalize (infP e m : Int) = iI at *
    generalize ((infP e m + sgn e m : Nat) : Int) = yI at *
    go_enter Oacg.func31, Oacg.ntmps31
    go_wp2_with (first | (go_at_call 4; refine (ok_any _ _ _).mono ?_; rintro r w' ⟨rfl, rfl⟩) | (go_at_call 65; refine (HS.out _).mono ?_; rintro _ w1 ⟨rfl, hx1⟩))
    go_ret
    exact ⟨rfl, (((Ext.refl w).alloc _ _).alloc _ _).trans hx1⟩
theorem max_wrap {e m : Nat} (h : Fm e m) : IntKind.u64.wrap ((infP e m : Int) - 1) = ((infP e m - 1 : Nat) : Int) := by
  have := infP_bd h
  have := sgn_bd h
  rw [wu64]; omega
theorem maxFinite_any (e m : Nat) (h : Fm e m) (neg : Bool) (w : World) :
    Calls Oacg.prog 92 #[.agg #[.int .u8 (e : Int), .int .u8 (m : Int)], .bool neg] w fun r w' => r = .returned (.int .u64 (maxV e m neg : Int)) ∧ Ext w w' := by
  have hok := okB_fm h
  have hi := inf_wrap h
  have hx := max_wrap h
  have HS := hide (signed_neg e m h (infP e m - 1) (by have := (infP_bd h).2.2; omega))
  have hv : maxV e m neg = if neg then infP e m - 1 + sgn e m else infP e m - 1 := by unfold maxV sg; cases neg <;> simp
  rw [hv]
  obtain ⟨h1, h2, h3, h4⟩ := h
  clear hv
  obtain ⟨y, hy⟩ : ∃ y, infP e m - 1 = y := ⟨_, rfl⟩
  rw [hy] at HS hx ⊢
  generalize (infP e m : Int) = iI at *
  clear hy
  cases neg with
  | false =>
    go_enter Oacg.func92, Oacg.ntmps92
    go_wp2
    go_ret
    exact ⟨rfl, ext3⟩
  | true =>
    go_enter Oacg.func92, Oacg.ntmps92
    go_wp2_with (first | (go_at_call 4; refine (ok_any _ _ _).mono ?_; rintro r w' ⟨rfl, rfl⟩) | (go_at_call 65; refine (HS.out _).mono ?_; rintro _ w1 ⟨rfl, hx1⟩))
    go_ret
    exact ⟨rfl, (((Ext.refl w).alloc _ _).alloc _ _).trans hx1⟩
theorem nan_or {e m : Nat} (h : Fm e m) : Go.bits BinOp.or IntKind.u64 (infP e m : Int) (IntKind.u64.wrap (2 ^ (m - 1))) = (nanV e m : Int) := by
  have hb := infP_bd h
  have hs := sgn_bd h
  obtain ⟨_, _, _, _⟩ := h
  have h1 := pow_le_of (show m - 1 ≤ 51 by omega)
  have e1 : IntKind.u64.wrap ((2 : Int) ^ (m - 1)) = ((2 ^ (m - 1) : Nat) : Int) := by
    rw [wu64, two_pow_cast]
    generalize 2 ^ (m - 1) = q at *
    omega
  rw [e1, u64_or_nat _ _ (by omega) (by omega)]
  unfold nanV
  have hd : infP e m % 2 ^ m = 0 := by unfold infP; exact Nat.mul_mod_left _ _
  rw [nat_join m (infP e m) (2 ^ (m - 1)) hd (Nat.pow_lt_pow_right (by decide) (by omega))]
theorem zero_any (e m : Nat) (h : Fm e m) (neg : Bool) (w : World) :
    Calls Oacg.prog 60 #[.agg #[.int .u8 (e : Int), .int .u8 (m : Int)], .bool neg] w fun r w' => r = .returned (.int .u64 (sg e m neg : Int)) ∧ Ext w w' := by
  cases neg with
  | false =>
    unfold sg
    go_enter Oacg.func60, Oacg.ntmps60
    go_wp2
    go_ret
    exact ⟨by simp, (Ext.refl w).alloc _ _⟩
  | true =>
    have HS := hide (signBit_any e m h)
    have hv : sg e m true = sgn e m := by unfold sg; simp
    rw [hv]
    clear hv
    generalize (sgn e m : Int) = sI at *
    go_enter Oacg.func60, Oacg.ntmps60
    go_wp2_with fail
    refine (HS.out _).mono ?_
    rintro _ w1 ⟨rfl, c1, c2, hw1⟩
    have HX : Hid (Ext w w1) := by rw [hw1]; exact ext3
    clear hw1
    go_wp2_with fail
    go_ret
    exact ⟨rfl, HX.out⟩
def eminI (e : Nat) : Int := 1 - (bias e : Int)
theorem emin_any (e m : Nat) (h : Fm e m) (w : World) :
    Calls Oacg.prog 39 #[.agg #[.int .u8 (e : Int), .int .u8 (m : Int)]] w fun r w' => r = .returned (.int .i64 (eminI e)) ∧ ∃ c1 c2 c3, w' = ((w.alloc (.cells c1 23)).alloc (.cells c2 23)).alloc (.cells c3 23) := by
  have hb := bias_bd h
  have HS := hide (bias_any e m h)
  unfold eminI
  have hb1 : (bias e : Int) ≤ 1023 := by omega
  have hb2 : (1 : Int) ≤ (bias e : Int) := by omega
  generalize (bias e : Int) = bI at *
  clear hb
  go_enter Oacg.func39, Oacg.ntmps39
  go_wp2_with fail
  refine (HS.out _).mono ?_
  rintro _ _ ⟨rfl, c1, c2, rfl⟩
  go_wp2_with fail
  go_ret
  exact ⟨rfl, _, _, _, rfl⟩
theorem emax_any (e m : Nat) (h : Fm e m) (w : World) :
    Calls Oacg.prog 40 #[.agg #[.int .u8 (e : Int), .int .u8 (m : Int)]] w fun r w' => r = .returned (.int .i64 (bias e : Int)) ∧ ∃ c1 c2 c3, w' = ((w.alloc (.cells c1 23)).alloc (.cells c2 23)).alloc (.cells c3 23) := by
  have hb := bias_bd h
  have HS := hide (bias_any e m h)
  have hb1 : (bias e : Int) ≤ 1023 := by omega
  have hb2 : (1 : Int) ≤ (bias e : Int) := by omega
  generalize (bias e : Int) = bI at *
  clear hb
  go_enter Oacg.func40, Oacg.ntmps40
  go_wp2_with fail
  refine (HS.out _).mono ?_
  rintro _ _ ⟨rfl, c1, c2, rfl⟩
  go_wp2_with fail
  go_ret
  exact ⟨rfl, _, _, _, rfl⟩
/-- Beyond the greatest finite value. -/
def toMax (mode : Int) (neg : Bool) : Bool := mode == 2 || (mode == 3 && neg) || (mode == 4 && !neg)
def overV (e m : Nat) (mode : Int) (neg : Bool) : Nat := if toMax mode neg then maxV e m neg else infV e m neg
theorem overflow_any (e m : Nat) (h : Fm e m) (mode : Int) (neg : Bool) (w : World) :
    Calls Oacg.prog 82 #[.agg #[.int .u8 (e : Int), .int .u8 (m : Int)], .int .u8 mode, .bool neg] w fun r w' => r = .returned (.tuple #[.int .u64 (overV e m mode neg : Int), .int .u8 20]) ∧ Ext w w' := by
  have HI := hide (inf_any e m h neg)
  have HM := hide (maxFinite_any e m h neg)
  have hv : overV e m mode neg = if toMax mode neg then maxV e m neg else infV e m neg := rfl
  have HV : Hid (∀ b, toMax mode neg = b → (overV e m mode neg : Int) = if b then (maxV e m neg : Int) else (infV e m neg : Int)) := by
    intro b hb; rw [hv, hb]; cases b <;> simp
  clear hv
  generalize (overV e m mode neg : Int) = oI at *
  generalize (maxV e m neg : Int) = mI at *
  generalize (infV e m neg : Int) = iI at *
  cases q2 : (mode == 2) <;> cases q3 : (mode == 3) <;> cases q4 : (mode == 4) <;> cases neg
  all_goals
    have hT := HV.out _ rfl
    simp only [toMax, q2, q3, q4, Bool.or_true, Bool.true_or, Bool.or_false, Bool.false_or, Bool.and_true, Bool.and_false, Bool.true_and, Bool.false_and, Bool.not_true, Bool.not_false, if_true, Bool.false_eq_true, if_false] at hT
    subst hT
    clear HV
    go_enter Oacg.func82, Oacg.ntmps82
    go_wp2_with (first | (go_at_call 31; refine (HI.out _).mono ?_; rintro _ w1 ⟨rfl, hx1⟩) | (go_at_call 92; refine (HM.out _).mono ?_; rintro _ w1 ⟨rfl, hx1⟩))
    simp [bodyPost, results, Oacg.results82, go_sem]
    exact ((Ext.refl w).alloc _ _).trans hx1
end Go.Proofs.YgcoacGreat
