/-
  ieee: Ok, SignBit, Mask, Bias, width.
-/
import Derived.Test.YgcoacGreatNatShl
namespace Go.Proofs.YgcoacGreat
open Go.RowKit
set_option linter.unusedSimpArgs false
set_option linter.unusedVariables false

/-- A format that is Ok, its numbers as the walk reads them. -/
structure Fm (e m : Nat) : Prop where
  e1 : (2 : Int) ≤ (e : Int)
  e2 : (e : Int) ≤ 11
  m1 : (2 : Int) ≤ (m : Int)
  m2 : (m : Int) ≤ 52

theorem Ext.rule {a b : World} (h : Ext a b) : (∀ k o, k < a.heap.size → b.cell? ⟨k, o, none⟩ = a.cell? ⟨k, o, none⟩) ∧ (∀ k o, b.frozen? ⟨k, o, none⟩ = a.frozen? ⟨k, o, none⟩) ∧ a.heap.size ≤ b.heap.size :=
  ⟨fun k o hk => h.below.cell (p := ⟨k, o, none⟩) hk, fun k o => h.froz ⟨k, o, none⟩, h.size⟩

theorem wi16 (n : Int) : IntKind.i16.wrap n = (n + 32768) % 65536 - 32768 := by
  simp [IntKind.wrap, IntKind.bits, IntKind.signed]
  split <;> omega

def okB (e m : Int) : Bool := decide (2 ≤ e ∧ e ≤ 11 ∧ 2 ≤ m ∧ m ≤ 52)
theorem okB_fm {e m : Nat} (h : Fm e m) : okB e m = true := by
  obtain ⟨_, _, _, _⟩ := h; simp [okB]; omega

theorem ok_any (e m : Int) (w : World) :
    Calls Oacg.prog 4 #[.agg #[.int .u8 e, .int .u8 m]] w fun r w' => r = .returned (.bool (okB e m)) ∧ w' = w.alloc (.cells #[.int .u8 e, .int .u8 m] 23) := by
  unfold okB
  go_enter Oacg.func4, Oacg.ntmps4
  go_wp2
  all_goals
    go_ret
    exact ⟨by simp [*] <;> omega, rfl⟩

/-- The sign bit; the exponent's top; the bias. -/
def sgn (e m : Nat) : Nat := 2 ^ (e + m)
def bias (e : Nat) : Nat := 2 ^ (e - 1) - 1

theorem pow_le_of {a b : Nat} (h : a ≤ b) : 2 ^ a ≤ 2 ^ b := Nat.pow_le_pow_right (by decide) h
theorem sgn_bd {e m : Nat} (h : Fm e m) : 16 ≤ sgn e m ∧ sgn e m ≤ 9223372036854775808 := by
  obtain ⟨_, _, _, _⟩ := h
  have h1 := pow_le_of (show 4 ≤ e + m by omega)
  have h2 := pow_le_of (show e + m ≤ 63 by omega)
  exact ⟨h1, h2⟩
theorem bias_bd {e m : Nat} (h : Fm e m) : 1 ≤ bias e ∧ bias e ≤ 1023 := by
  obtain ⟨_, _, _, _⟩ := h
  have h1 := pow_le_of (show 1 ≤ e - 1 by omega)
  have h2 := pow_le_of (show e - 1 ≤ 10 by omega)
  unfold bias
  omega
theorem two_pow_cast (n : Nat) : (2 : Int) ^ n = ((2 ^ n : Nat) : Int) := by rw [Int.natCast_pow]; rfl

theorem signBit_any (e m : Nat) (h : Fm e m) (w : World) :
    Calls Oacg.prog 55 #[.agg #[.int .u8 (e : Int), .int .u8 (m : Int)]] w fun r w' => r = .returned (.int .u64 (sgn e m : Int)) ∧ ∃ c1 c2, w' = (w.alloc (.cells c1 23)).alloc (.cells c2 23) := by
  have hs := sgn_bd h
  obtain ⟨h1, h2, h3, h4⟩ := h
  go_enter Oacg.func55, Oacg.ntmps55
  go_wp2
  go_ret
  refine ⟨ret_int ?_, _, _, rfl⟩
  rw [wu64, two_pow_cast]
  unfold sgn at *
  omega

theorem mask_any (e m : Nat) (h : Fm e m) (w : World) :
    Calls Oacg.prog 71 #[.agg #[.int .u8 (e : Int), .int .u8 (m : Int)]] w fun r w' => r = .returned (.int .u64 ((2 * sgn e m - 1 : Nat) : Int)) ∧ Ext w w' := by
  have hs := sgn_bd h
  obtain ⟨h1, h2, h3, h4⟩ := h
  go_enter Oacg.func71, Oacg.ntmps71
  go_wp2
  go_ret
  refine ⟨ret_int ?_, ?_⟩
  · rw [wu64, wu64, wu64, two_pow_cast]
    unfold sgn at *
    omega
  · repeat apply Ext.alloc
    exact Ext.refl _

theorem bias_any (e m : Nat) (h : Fm e m) (w : World) :
    Calls Oacg.prog 63 #[.agg #[.int .u8 (e : Int), .int .u8 (m : Int)]] w fun r w' => r = .returned (.int .i16 (bias e : Int)) ∧ ∃ c1 c2, w' = (w.alloc (.cells c1 23)).alloc (.cells c2 23) := by
  have hs := bias_bd h
  obtain ⟨h1, h2, h3, h4⟩ := h
  go_enter Oacg.func63, Oacg.ntmps63
  go_wp2
  go_ret
  refine ⟨ret_int ?_, _, _, rfl⟩
  rw [wi16, wi16, two_pow_cast]
  unfold bias at *
  omega
end Go.Proofs.YgcoacGreat
