/-
  nat.FromU64, width32, BitLen, Bit.
-/
import Derived.Test.YgcoacGreatNatTrim
import Derived.Deep.QuietTactic
import Derived.BigQuiet
namespace Go.Proofs.YgcoacGreat
open Go.RowKit
set_option linter.unusedSimpArgs false
set_option linter.unusedVariables false

theorem ret_int {k : IntKind} {a b : Int} (h : a = b) : Ending.returned (.int k a) = .returned (.int k b) := by rw [h]
theorem ret_bool {a b : Bool} (h : a = b) : Ending.returned (.bool a) = .returned (.bool b) := by rw [h]

theorem two_limbs (n : Nat) (h1 : n < 18446744073709551616) (w : World) :
    cellsAt (w.alloc (Obj.cells #[Value.int IntKind.u32 ((n : Int) % 4294967296), Value.int IntKind.u32 ((n : Int) / 4294967296)] 113)) w.heap.size 0 [n % 4294967296, n / 4294967296] ∧
    Lim [n % 4294967296, n / 4294967296] ∧ val [n % 4294967296, n / 4294967296] = n := by
  refine ⟨?_, ?_, ?_⟩
  · intro j x hj
    match j, hj with
    | 0, hj => simp at hj; subst hj; simp
    | 1, hj => simp at hj; subst hj; simp
    | j + 2, hj => simp at hj
  · exact Lim.cons (by omega) (Lim.cons (by omega) Lim.nil)
  · simp only [val]; omega

theorem fromU64_any (x : Int) (h0 : 0 ≤ x) (h1 : x < 18446744073709551616) (w : World) :
    Calls Oacg.prog 47 #[.int .u64 x] w fun e w' => (∃ v, e = .returned v ∧ NatAt w' v x.toNat) ∧ Ext w w' := by
  obtain ⟨n, rfl⟩ := Int.eq_ofNat_of_zero_le h0
  rw [Int.toNat_natCast]
  obtain ⟨hc, hl, hv⟩ := two_limbs n (by omega) w
  have ht := trim_raw (some ⟨w.heap.size, 0, none⟩) 2 [n % 4294967296, n / 4294967296] _ (Nat.le_refl _) (by decide) hl (.inr ⟨_, _, rfl, hc⟩)
  rw [hv] at ht
  have HT := hide ht
  clear ht hc hl hv
  go_enter Oacg.func47, Oacg.ntmps47
  go_wp2_with fail
  refine HT.out.mono ?_
  rintro e w' ⟨⟨v, rfl, hn⟩, rfl⟩
  have HN := hide hn
  clear hn
  go_wp2_with fail
  go_ret
  exact ⟨⟨_, rfl, HN.out⟩, (Ext.refl _).alloc _ _⟩

/-- The number of significant bits. -/
def bl : Nat → Nat → Nat
  | 0, _ => 0
  | f + 1, x => if x = 0 then 0 else bl f (x / 2) + 1
def bits (x : Nat) : Nat := bl x x

theorem bl_stable (f : Nat) : ∀ (x g : Nat), x ≤ f → x ≤ g → bl f x = bl g x := by
  induction f with
  | zero => intro x g hf hg; (obtain rfl : x = 0 := by omega); cases g <;> simp [bl]
  | succ f ih =>
    intro x g hf hg
    cases g with
    | zero => (obtain rfl : x = 0 := by omega); simp [bl]
    | succ g =>
      simp only [bl]
      by_cases h : x = 0
      · simp [h]
      · rw [if_neg h, if_neg h, ih (x / 2) g (by omega) (by omega)]
theorem bits_zero : bits 0 = 0 := rfl
theorem bits_pos {x : Nat} (h : 0 < x) : bits x = bits (x / 2) + 1 := by
  unfold bits
  cases x with
  | zero => omega
  | succ x =>
    conv => lhs; unfold bl
    rw [if_neg (by omega), bl_stable x ((x + 1) / 2) ((x + 1) / 2) (by omega) (by omega)]
theorem bits_lt (x : Nat) : x < 2 ^ bits x := by
  induction x using Nat.strongRecOn with
  | _ x ih =>
    by_cases h : x = 0
    · subst h; decide
    · rw [bits_pos (by omega), Nat.pow_succ]
      have := ih (x / 2) (by omega)
      omega
theorem bits_le {x : Nat} (h : 0 < x) : 2 ^ (bits x - 1) ≤ x := by
  induction x using Nat.strongRecOn with
  | _ x ih =>
    rw [bits_pos h, Nat.add_sub_cancel]
    by_cases h1 : x / 2 = 0
    · rw [h1, bits_zero]; omega
    · have := ih (x / 2) (by omega) (by omega)
      have e : bits (x / 2) = (bits (x / 2) - 1) + 1 := by rw [bits_pos (by omega)]; omega
      rw [e, Nat.pow_succ]
      omega
theorem bits_pos' {x : Nat} (h : 0 < x) : 0 < bits x := by rw [bits_pos h]; omega
/-- What pins the number of bits. -/
theorem bits_eq {x k : Nat} (h1 : 2 ^ k ≤ x) (h2 : x < 2 ^ (k + 1)) : bits x = k + 1 := by
  have hx : 0 < x := Nat.lt_of_lt_of_le (Nat.pow_pos (by decide)) h1
  have h3 := bits_lt x
  have h4 := bits_le hx
  have h5 := bits_pos' hx
  have a : k < bits x := by
    rcases Nat.lt_or_ge k (bits x) with h | h
    · exact h
    · have := Nat.pow_le_pow_right (n := 2) (by decide) h; omega
  have b : bits x - 1 < k + 1 := by
    rcases Nat.lt_or_ge (bits x - 1) (k + 1) with h | h
    · exact h
    · have := Nat.pow_le_pow_right (n := 2) (by decide) h; omega
  omega
theorem bits_le_of_lt {x k : Nat} (h : x < 2 ^ k) : bits x ≤ k := by
  by_cases hx : x = 0
  · subst hx; simp [bits_zero]
  · have h4 := bits_le (x := x) (by omega)
    rcases Nat.lt_or_ge k (bits x) with h' | h'
    · have := Nat.pow_le_pow_right (n := 2) (by decide) (show k ≤ bits x - 1 by omega); omega
    · exact h'
theorem lt_bits_of_le {x k : Nat} (h : 2 ^ k ≤ x) : k < bits x := by
  have h3 := bits_lt x
  rcases Nat.lt_or_ge k (bits x) with h' | h'
  · exact h'
  · have := Nat.pow_le_pow_right (n := 2) (by decide) h'; omega

theorem width32_any (x : Int) (h0 : 0 ≤ x) (h1 : x < 4294967296) (w : World) :
    Calls Oacg.prog 81 #[.int .u32 x] w fun e w' => e = .returned (.int .i64 (bits x.toNat : Int)) ∧ w' = w := by
  obtain ⟨n, rfl⟩ := Int.eq_ofNat_of_zero_le h0
  rw [Int.toNat_natCast]
  have hb : bits n ≤ 32 := bits_le_of_lt (by omega)
  go_enter Oacg.func81, Oacg.ntmps81
  go_wp2_with fail
  go_loop [0, 3] (fun x i => ∃ k y : Nat, i = .int .i64 k ∧ x = .int .u32 y ∧ y < 4294967296 ∧ k ≤ 32 ∧ Hid (bits n = k + bits y)) (fun i _ => (intOf i).toNat)
  case atStart => exact ⟨0, n, rfl, rfl, by omega, by omega, (Nat.zero_add _).symm⟩
  case round =>
    obtain ⟨k, y, rfl, rfl, hy, hk, hh⟩ := hrel
    by_cases hy0 : y = 0
    · have hy1 : ((y : Int) != 0) = false := by simp [hy0]
      have Hy := hide hy0
      clear hy0
      go_wp2_with fail
      go_ret
      refine ⟨?_, rfl⟩
      have := hh.out
      rw [Hy.out, bits_zero] at this
      exact ret_int (by simp [this])
    · have hk2 : k < 32 := by have := hh.out; have := bits_pos' (x := y) (by omega); omega
      have hy1 : ((y : Int) != 0) = true := by simp [hy0]
      have Hy := hide hy0
      clear hy0 hb
      go_wp2_with fail
      go_round
      case rel => exact ⟨k + 1, y / 2, by go_num, by go_num, by omega, by omega, by have := hh.out; rw [bits_pos (x := y) (Nat.pos_of_ne_zero Hy.out)] at this; show _ = _; omega⟩
      case measure => have := Hy.out; simp [intOf]; omega
end Go.Proofs.YgcoacGreat
