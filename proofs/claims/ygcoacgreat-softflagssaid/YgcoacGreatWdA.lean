/-
  wide.Clz.
-/
import Derived.Test.YgcoacGreatIeee
namespace Go.Proofs.YgcoacGreat
open Go.RowKit
set_option linter.unusedSimpArgs false
set_option linter.unusedVariables false

/-! ### Smearing -/
/-- Bit i of y tells of a bit of x in the window [i, i + k). -/
def Smear (x y k : Nat) : Prop := ∀ i, y.testBit i = true ↔ ∃ j, j < k ∧ x.testBit (i + j) = true
theorem smear_start (x : Nat) : Smear x x 1 := by
  intro i
  constructor
  · intro h
    exact ⟨0, by decide, h⟩
  · rintro ⟨j, hj, h⟩
    have : j = 0 := by omega
    subst this
    exact h
theorem smear_step {x y k : Nat} (h : Smear x y k) : Smear x (y ||| y / 2 ^ k) (k + k) := by
  intro i
  rw [Nat.testBit_or, Bool.or_eq_true, Nat.testBit_div_two_pow, h i, h (i + k)]
  constructor
  · rintro (⟨j, hj, hb⟩ | ⟨j, hj, hb⟩)
    · exact ⟨j, by omega, hb⟩
    · exact ⟨k + j, by omega, by rw [← Nat.add_assoc]; exact hb⟩
  · rintro ⟨j, hj, hb⟩
    rcases Nat.lt_or_ge j k with h' | h'
    · exact .inl ⟨j, h', hb⟩
    · exact .inr ⟨j - k, by omega, by rw [show i + k + (j - k) = i + j by omega]; exact hb⟩
theorem smear_end {x y : Nat} (hx : x < 18446744073709551616) (h : Smear x y 64) : y = 2 ^ bits x - 1 := by
  apply Nat.eq_of_testBit_eq
  intro i
  rw [Nat.testBit_two_pow_sub_one, Bool.eq_iff_iff, h i, decide_eq_true_eq]
  constructor
  · rintro ⟨j, hj, hb⟩
    rcases Nat.lt_or_ge i (bits x) with h' | h'
    · exact h'
    · exfalso
      have h1 : x < 2 ^ (i + j) := Nat.lt_of_lt_of_le (bits_lt x) (pow_le_of (by omega))
      rw [Nat.testBit_lt_two_pow h1] at hb
      cases hb
  · intro hi
    have hx0 : 0 < x := by
      rcases Nat.eq_zero_or_pos x with h' | h'
      · rw [h', bits_zero] at hi; omega
      · exact h'
    have hb := bits_le hx0
    have hl := bits_lt x
    have h64 : bits x ≤ 64 := bits_le_of_lt hx
    obtain ⟨k, hk⟩ : ∃ k, bits x = k + 1 := ⟨bits x - 1, by omega⟩
    rw [hk] at hb hl hi h64
    refine ⟨k - i, by omega, ?_⟩
    rw [show i + (k - i) = k by omega, Nat.testBit_eq_decide_div_mod_eq, decide_eq_true_eq]
    rw [Nat.add_sub_cancel] at hb
    have : x / 2 ^ k = 1 := by
      rw [Nat.div_eq_iff (Nat.pow_pos (by decide))]
      rw [Nat.pow_succ] at hl
      omega
    rw [this]

theorem clz_tab : ∀ k : Fin 64, (2 ^ k.val * 285870213051386505 % 18446744073709551616) / 288230376151711744 < 64 ∧ (([63, 62, 15, 61, 6, 14, 35, 60, 2, 5, 13, 21, 25, 34, 46, 59, 1, 8, 4, 27, 10, 12, 20, 41, 18, 24, 30, 33, 39, 45, 51, 58, 0, 16, 7, 36, 3, 22, 26, 47, 9, 28, 11, 42, 19, 31, 40, 52, 17, 37, 23, 48, 29, 43, 32, 53, 38, 49, 44, 54, 50, 55, 56, 57] : List UInt8).getD ((2 ^ k.val * 285870213051386505 % 18446744073709551616) / 288230376151711744) 0).toNat = 63 - k.val := by decide +kernel
theorem byte_list (l : List UInt8) (q : Nat) (h : q < (ByteArray.mk l.toArray).size) : (ByteArray.mk l.toArray)[q] = l.getD q 0 := by
  have h1 : q < l.length := by simpa [ByteArray.size] using h
  rw [List.getD_eq_getElem?_getD, List.getElem?_eq_getElem h1]
  rfl
theorem or_shift {y : Nat} (k : Nat) (d : Int) (hd : d = ((2 ^ k : Nat) : Int)) (hy : y < 18446744073709551616) : Go.bits BinOp.or IntKind.u64 (y : Int) ((y : Int) / d) = ((y ||| y / 2 ^ k : Nat) : Int) ∧ (y ||| y / 2 ^ k) < 18446744073709551616 := by
  have h1 : y / 2 ^ k < 18446744073709551616 := Nat.lt_of_le_of_lt (Nat.div_le_self _ _) hy
  refine ⟨?_, Nat.or_lt_two_pow (n := 64) hy h1⟩
  rw [hd, ← Int.natCast_ediv, u64_or_nat y _ hy h1]

set_option maxRecDepth 20000 in
set_option maxHeartbeats 1000000 in
theorem clz_any (x : Nat) (hx : x < 18446744073709551616) (w : World) :
    Calls Oacg.prog 66 #[.int .u64 (x : Int)] w fun r w' => r = .returned (.int .u8 ((64 - bits x : Nat) : Int)) ∧ w' = w := by
  by_cases h0 : x = 0
  · subst h0
    go_enter Oacg.func66, Oacg.ntmps66
    go_wp2
    go_ret
    exact ⟨rfl, rfl⟩
  · have t0 : ((x : Int) == 0) = false := by rw [beq_eq_false_iff_ne]; omega
    obtain ⟨o1, l1⟩ := or_shift (y := x) 1 2 rfl hx
    have m1 := smear_step (smear_start x)
    obtain ⟨y1, hy1⟩ : ∃ y, (x ||| x / 2 ^ 1) = y := ⟨_, rfl⟩
    rw [hy1] at o1 l1 m1
    obtain ⟨o2, l2⟩ := or_shift (y := y1) 2 4 rfl l1
    have m2 := smear_step m1
    obtain ⟨y2, hy2⟩ : ∃ y, (y1 ||| y1 / 2 ^ 2) = y := ⟨_, rfl⟩
    rw [show 1 + 1 = 2 from rfl, hy2] at m2
    rw [hy2] at o2 l2
    obtain ⟨o3, l3⟩ := or_shift (y := y2) 4 16 rfl l2
    have m3 := smear_step m2
    obtain ⟨y3, hy3⟩ : ∃ y, (y2 ||| y2 / 2 ^ 4) = y := ⟨_, rfl⟩
    rw [show 2 + 2 = 4 from rfl, hy3] at m3
    rw [hy3] at o3 l3
    obtain ⟨o4, l4⟩ := or_shift (y := y3) 8 256 rfl l3
    have m4 := smear_step m3
    obtain ⟨y4, hy4⟩ : ∃ y, (y3 ||| y3 / 2 ^ 8) = y := ⟨_, rfl⟩
    rw [show 4 + 4 = 8 from rfl, hy4] at m4
    rw [hy4] at o4 l4
    obtain ⟨o5, l5⟩ := or_shift (y := y4) 16 65536 rfl l4
    have m5 := smear_step m4
    obtain ⟨y5, hy5⟩ : ∃ y, (y4 ||| y4 / 2 ^ 16) = y := ⟨_, rfl⟩
    rw [show 8 + 8 = 16 from rfl, hy5] at m5
    rw [hy5] at o5 l5
    obtain ⟨o6, l6⟩ := or_shift (y := y5) 32 4294967296 rfl l5
    have m6 := smear_step m5
    obtain ⟨y6, hy6⟩ : ∃ y, (y5 ||| y5 / 2 ^ 32) = y := ⟨_, rfl⟩
    rw [show 16 + 16 = 32 from rfl, hy6] at m6
    rw [hy6] at o6 l6
    have hend := smear_end hx m6
    have h64 : bits x ≤ 64 := bits_le_of_lt hx
    have hbp := bits_pos' (show 0 < x by omega)
    obtain ⟨k, hk⟩ : ∃ k, bits x = k + 1 := ⟨bits x - 1, by omega⟩
    have hxo : Go.bits BinOp.xor IntKind.u64 (y6 : Int) ((y6 : Int) / 2) = ((2 ^ k : Nat) : Int) := by
      have e1 : y6 / 2 = 2 ^ k - 1 := by
        rw [hend, hk, Nat.pow_succ]
        have := Nat.pow_pos (n := k) (show 0 < 2 by decide)
        omega
      have e2 : (y6 : Int) / 2 = ((2 ^ k - 1 : Nat) : Int) := by omega
      rw [e2, u64_xor_nat y6 _ l6 (by rw [← e1]; omega)]
      congr 1
      apply Nat.eq_of_testBit_eq
      intro i
      rw [Nat.testBit_xor, hend, hk, Nat.testBit_two_pow_sub_one, Nat.testBit_two_pow_sub_one, Nat.testBit_two_pow]
      rcases Nat.lt_trichotomy i k with h' | h' | h'
      · rw [decide_eq_true (show i < k + 1 by omega), decide_eq_true h', decide_eq_false (show ¬ k = i by omega)]; rfl
      · subst h'
        rw [decide_eq_true (show i < i + 1 by omega), decide_eq_false (show ¬ i < i by omega), decide_eq_true rfl]; rfl
      · rw [decide_eq_false (show ¬ i < k + 1 by omega), decide_eq_false (show ¬ i < k by omega), decide_eq_false (show ¬ k = i by omega)]; rfl
    obtain ⟨tq, te⟩ := clz_tab ⟨k, by omega⟩
    obtain ⟨q, hq⟩ : ∃ q, (2 ^ k * 285870213051386505 % 18446744073709551616) / 288230376151711744 = q := ⟨_, rfl⟩
    simp only at tq te
    rw [hq] at tq te
    obtain ⟨z, hz⟩ : ∃ z, 2 ^ k = z := ⟨_, rfl⟩
    rw [hz] at hxo hq
    have hqi : IntKind.u64.wrap ((z : Int) * 285870213051386505) / 288230376151711744 = (q : Int) := by
      rw [wu64, ← hq, Int.natCast_ediv, Int.natCast_emod, Int.natCast_mul]; rfl
    have tqi : (q : Int) < 64 := by omega
    have hres : 64 - bits x = 63 - k := by omega
    rw [hres]
    have TE := hide te
    clear hx h0 l1 l2 l3 l4 l5 l6 m1 m2 m3 m4 m5 m6 hy1 hy2 hy3 hy4 hy5 hy6 hend h64 hbp hk hz hq hres te
    go_enter Oacg.func66, Oacg.ntmps66
    go_wp2
    go_ret
    refine ⟨ret_int ?_, rfl⟩
    rw [← TE.out]
    have hq64 : q < 64 := by omega
    exact congrArg (fun b : UInt8 => (b.toNat : Int)) (byte_list [63, 62, 15, 61, 6, 14, 35, 60, 2, 5, 13, 21, 25, 34, 46, 59, 1, 8, 4, 27, 10, 12, 20, 41, 18, 24, 30, 33, 39, 45, 51, 58, 0, 16, 7, 36, 3, 22, 26, 47, 9, 28, 11, 42, 19, 31, 40, 52, 17, 37, 23, 48, 29, 43, 32, 53, 38, 49, 44, 54, 50, 55, 56, 57] q hq64)
end Go.Proofs.YgcoacGreat
