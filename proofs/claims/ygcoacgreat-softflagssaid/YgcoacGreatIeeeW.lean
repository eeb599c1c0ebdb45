/-
  ieee.width: the number of significant bits.
-/
import Derived.Test.YgcoacGreatIeee
namespace Go.Proofs.YgcoacGreat
open Go.RowKit
set_option linter.unusedSimpArgs false
set_option linter.unusedVariables false

/-- One step of the smearing. -/
def sm (n x : Nat) : Nat := x ||| (x / 2 ^ n)

theorem sm_lt {n x : Nat} (h : x < 18446744073709551616) : sm n x < 18446744073709551616 := by
  unfold sm
  have h2 : x / 2 ^ n < 2 ^ 64 := Nat.lt_of_le_of_lt (Nat.div_le_self _ _) h
  exact Nat.or_lt_two_pow (n := 64) h h2

theorem or_sm {x : Nat} (n : Nat) (h : x < 18446744073709551616) (d : Int) (hd : d = ((2 ^ n : Nat) : Int)) : Go.bits BinOp.or IntKind.u64 (x : Int) ((x : Int) / d) = (sm n x : Int) := by
  rw [hd, ← Int.natCast_ediv, u64_or_nat x _ h (Nat.lt_of_le_of_lt (Nat.div_le_self _ _) h)]
  rfl

/-- y has k bits, the n highest of them set. -/
def Top (k n y : Nat) : Prop := y < 2 ^ k ∧ ∀ i, i < k → k ≤ i + n → y.testBit i = true

theorem top_start (x : Nat) : Top (bits x) 1 x := by
  refine ⟨bits_lt x, fun i h1 h2 => ?_⟩
  have hx : 0 < x := by
    rcases Nat.eq_zero_or_pos x with h | h
    · rw [h, bits_zero] at h1; omega
    · exact h
  have hi : i = bits x - 1 := by omega
  have h3 := bits_le hx
  have h4 := bits_lt x
  rw [← hi] at h3
  have h5 : bits x = i + 1 := by omega
  rw [h5, Nat.pow_succ] at h4
  rw [Nat.testBit_eq_decide_div_mod_eq]
  have h6 : x / 2 ^ i = 1 := by
    have h0 : 0 < 2 ^ i := Nat.pow_pos (by decide)
    refine Nat.div_eq_of_lt_le (by omega) (by omega)
  simp [h6]
theorem top_step {k n y : Nat} (h : Top k n y) : Top k (n + n) (sm n y) := by
  obtain ⟨h1, h2⟩ := h
  refine ⟨?_, fun i h3 h4 => ?_⟩
  · exact Nat.or_lt_two_pow h1 (Nat.lt_of_le_of_lt (Nat.div_le_self _ _) h1)
  · unfold sm
    rw [Nat.testBit_or, Nat.testBit_div_two_pow]
    by_cases h5 : k ≤ i + n
    · rw [h2 i h3 h5]; rfl
    · rw [h2 (i + n) (by omega) (by omega)]; simp
theorem top_end {k y : Nat} (h : Top k 64 y) (hk : k ≤ 64) : y = 2 ^ k - 1 := by
  obtain ⟨h1, h2⟩ := h
  apply Nat.eq_of_testBit_eq
  intro i
  rw [Nat.testBit_two_pow_sub_one]
  by_cases hi : i < k
  · rw [h2 i hi (by omega)]; simp [hi]
  · rw [Nat.testBit_lt_two_pow (Nat.lt_of_lt_of_le h1 (pow_le_of (by omega)))]; simp [hi]

/-- The counting of the 1 bits, as the walk spells it. -/
def pop (y : Int) : Int :=
  let a := IntKind.u64.wrap (y - Go.bits BinOp.and IntKind.u64 (y / 2) 6148914691236517205)
  let b := IntKind.u64.wrap (Go.bits BinOp.and IntKind.u64 a 3689348814741910323 + Go.bits BinOp.and IntKind.u64 (a / 4) 3689348814741910323)
  let c := Go.bits BinOp.and IntKind.u64 (IntKind.u64.wrap (b + b / 16)) 1085102592571150095
  IntKind.u64.wrap (c * 72340172838076673) / 72057594037927936 % 256
theorem pop_all : ∀ k : Nat, k < 65 → pop ((2 ^ k - 1 : Nat) : Int) = (k : Int) := by decide +kernel

theorem width_any (x : Nat) (hx : x < 18446744073709551616) (w : World) :
    Calls Oacg.prog 91 #[.int .u64 (x : Int)] w fun e w' => e = .returned (.int .u8 (bits x : Int)) ∧ w' = w := by
  have t1 := top_step (top_start x)
  have t2 := top_step t1
  have t3 := top_step t2
  have t4 := top_step t3
  have t5 := top_step t4
  have t6 := top_step t5
  have hk : bits x ≤ 64 := bits_le_of_lt hx
  have HT := hide (top_end t6 hk)
  have HP := hide (pop_all (bits x) (by omega))
  clear t1 t2 t3 t4 t5 t6
  have e1 := or_sm 1 hx 2 rfl
  have hx1 := sm_lt (n := 1) hx
  generalize sm 1 x = x1 at *
  have e2 := or_sm 2 hx1 4 rfl
  have hx2 := sm_lt (n := 2) hx1
  generalize sm 2 x1 = x2 at *
  have e3 := or_sm 4 hx2 16 rfl
  have hx3 := sm_lt (n := 4) hx2
  generalize sm 4 x2 = x3 at *
  have e4 := or_sm 8 hx3 256 rfl
  have hx4 := sm_lt (n := 8) hx3
  generalize sm 8 x3 = x4 at *
  have e5 := or_sm 16 hx4 65536 rfl
  have hx5 := sm_lt (n := 16) hx4
  generalize sm 16 x4 = x5 at *
  have e6 := or_sm 32 hx5 4294967296 rfl
  have hx6 := sm_lt (n := 32) hx5
  generalize sm 32 x5 = x6 at *
  clear hk
  go_enter Oacg.func91, Oacg.ntmps91
  go_wp2_with fail
  go_ret
  refine ⟨ret_int ?_, rfl⟩
  rw [← HP.out, ← HT.out]
  simp only [pop]
end Go.Proofs.YgcoacGreat
