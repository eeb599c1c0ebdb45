/-
  wide.root.
-/
import Derived.Test.YgcoacGreatWdG
namespace Go.Proofs.YgcoacGreat
open Go.RowKit
set_option linter.unusedSimpArgs false
set_option linter.unusedVariables false

theorem or_pow {s j : Nat} (hs : s % 2 ^ (j + 1) = 0) (hl : s < 18446744073709551616) (hj : j < 64) : Go.bits BinOp.or IntKind.u64 (s : Int) ((2 ^ j : Nat) : Int) = ((s + 2 ^ j : Nat) : Int) :=
  or_disj (k := j + 1) (by omega) hl (Nat.pow_lt_pow_right (by decide) (Nat.lt_succ_self j)) hs
theorem and_low16 {x : Nat} (hx : x < 18446744073709551616) : Go.bits BinOp.and IntKind.u64 (x : Int) 65535 = ((x % 65536 : Nat) : Int) := by
  have := u64_and_nat x 65535 hx (by decide)
  rw [show ((65535 : Nat) : Int) = (65535 : Int) from rfl] at this
  rw [this, show (65535 : Nat) = 2 ^ 16 - 1 from rfl, Nat.and_two_pow_sub_one_eq_mod]

set_option maxRecDepth 20000 in
set_option maxHeartbeats 1000000 in
theorem root_any (x : Nat) (h1 : 4611686018427387904 ≤ x) (h2 : x < 18446744073709551616) (w : World) :
    Calls Oacg.prog 67 #[.int .u64 (x : Int)] w fun r w' =>
      r = .returned (.tuple #[.int .u64 ((isq x : Nat) : Int), .int .u64 ((x - isq x * isq x : Nat) : Int)]) ∧ w' = w := by
  obtain ⟨top, ht⟩ : ∃ t, x / 4294967296 = t := ⟨_, rfl⟩
  have hti : (x : Int) / 4294967296 = (top : Int) := by omega
  have HST : Box (RI top 16 0 top) := ⟨RI.start (by omega)⟩
  have HTOP : Box (1073741824 ≤ top ∧ top < 4294967296 ∧ x / 4294967296 = top) := ⟨by omega⟩
  obtain ⟨S, hS⟩ : ∃ s, isq x = s := ⟨_, rfl⟩
  obtain ⟨R, hR⟩ : ∃ s, x - S * S = s := ⟨_, rfl⟩
  have HSX := Box.mk (And.intro hS hR)
  have HX12 := Box.mk (And.intro h1 h2)
  rw [hS, hR]
  clear ht hS hR h1 h2
  go_enter Oacg.func67, Oacg.ntmps67
  go_wp2
  go_loop [2, 5, 6] (fun vs vl vb => ∃ s l k : Nat, vs = .int .u64 (s : Int) ∧ vl = .int .u64 (l : Int) ∧ vb = .int .u64 ((2 ^ k / 2 : Nat) : Int) ∧ Box (k ≤ 16 ∧ RI top k s l)) (fun _ _ vb => (intOf vb).toNat)
  case atStart => exact ⟨0, top, 16, rfl, rfl, rfl, ⟨Nat.le_refl _, HST.out⟩⟩
  case round =>
    obtain ⟨s, l, k, rfl, rfl, rfl, HI⟩ := hrel
    cases k with
    | zero =>
      have b0 : ((2 ^ 0 / 2 : Nat) : Int) = 0 := rfl
      rw [b0]
      obtain ⟨l1, l2, l3⟩ := HI.out.2.last HTOP.out.1
      have e1 := HI.out.2.eq
      obtain ⟨x1, x2⟩ := HX12.out
      have hk := kara (B := 65536) (s := s) (l := l) (a1 := x / 65536 % 65536) (a0 := x % 65536) l1 (by omega) (by decide) (Nat.mod_lt _ (by decide)) (Nat.mod_lt _ (by decide))
      rw [e1] at hk
      rw [show (top * 65536 + x / 65536 % 65536) * 65536 + x % 65536 = x by have := HTOP.out.2.2; omega, HSX.out.1] at hk
      obtain ⟨a1, ha1⟩ : ∃ a, x / 65536 % 65536 = a := ⟨_, rfl⟩
      rw [ha1] at hk
      have f1 : Go.bits BinOp.and IntKind.u64 ((x : Int) / 65536) 65535 = (a1 : Int) := by
        rw [show (x : Int) / 65536 = ((x / 65536 : Nat) : Int) by omega, and_low16 (by omega), ha1]
      obtain ⟨N1, hN1⟩ : ∃ a, l * 65536 + a1 = a := ⟨_, rfl⟩
      have f2 : Go.bits BinOp.or IntKind.u64 (IntKind.u64.wrap ((l : Int) * 65536)) (a1 : Int) = (N1 : Int) := by
        rw [show IntKind.u64.wrap ((l : Int) * 65536) = ((l * 65536 : Nat) : Int) by rw [wu64]; omega, or_disj (k := 16) (by decide) (by omega) (by rw [show (2 : Nat) ^ 16 = 65536 from rfl]; omega) (by rw [show (2 : Nat) ^ 16 = 65536 from rfl, Nat.mul_mod_left]), hN1]
      rw [hN1] at hk
      obtain ⟨D, hD⟩ : ∃ a, 2 * s = a := ⟨_, rfl⟩
      have f3 : IntKind.u64.wrap (2 * (s : Int)) = (D : Int) := by rw [wu64]; omega
      have f4 : ¬ ((D : Int) = 0) := by omega
      have f4b : ((D : Int) == 0) = false := by rw [beq_eq_false_iff_ne]; exact f4
      rw [hD] at hk
      obtain ⟨q, hq⟩ : ∃ a, N1 / D = a := ⟨_, rfl⟩
      have f5 : (N1 : Int) / (D : Int) = (q : Int) := by rw [← hq]; rfl
      rw [hq] at hk
      obtain ⟨m, hm⟩ : ∃ a, min q (65536 - 1) = a := ⟨_, rfl⟩
      rw [hm] at hk
      have hm1 : m ≤ 65535 := by omega
      obtain ⟨s1, hs1⟩ : ∃ a, s * 65536 + m = a := ⟨_, rfl⟩
      have f7 : Go.bits BinOp.or IntKind.u64 (IntKind.u64.wrap ((s : Int) * 65536)) (m : Int) = (s1 : Int) := by
        rw [show IntKind.u64.wrap ((s : Int) * 65536) = ((s * 65536 : Nat) : Int) by rw [wu64]; omega, or_disj (k := 16) (by decide) (by omega) (by rw [show (2 : Nat) ^ 16 = 65536 from rfl]; omega) (by rw [show (2 : Nat) ^ 16 = 65536 from rfl, Nat.mul_mod_left]), hs1]
      rw [hs1] at hk
      have hsl : s1 * s1 ≤ 4294967295 * 4294967295 := Nat.mul_le_mul (by omega) (by omega)
      have f8 : IntKind.u64.wrap ((s1 : Int) * (s1 : Int)) = ((s1 * s1 : Nat) : Int) := by rw [← Int.natCast_mul, wu64]; omega
      obtain ⟨SS, hSS⟩ : ∃ a : Int, ((s1 * s1 : Nat) : Int) = a := ⟨_, rfl⟩
      rw [hSS] at f8
      have hsq := (isq_spec x).1
      rw [HSX.out.1] at hsq
      have f9 : IntKind.u64.wrap ((x : Int) - IntKind.u64.wrap ((S : Int) * (S : Int))) = (R : Int) := by
        rw [← Int.natCast_mul, ← HSX.out.2]
        generalize S * S = Y at *
        rw [wu64, wu64]; omega
      have hqd : q ≤ N1 := by rw [← hq]; exact Nat.div_le_self _ _
      have f5b : IntKind.u64.wrap (q : Int) = (q : Int) := by rw [wu64]; omega
      have f11 : Box (x < s1 * s1 → (x : Int) < SS ∧ IntKind.u64.wrap ((s1 : Int) - 1) = (S : Int)) := ⟨fun c1 => by
        rw [if_pos c1] at hk
        refine ⟨by omega, ?_⟩
        rw [wu64]; omega⟩
      have f12 : Box (¬ x < s1 * s1 → ¬ (x : Int) < SS ∧ S = s1) := ⟨fun c1 => by
        rw [if_neg c1] at hk
        exact ⟨by omega, hk⟩⟩
      by_cases cq : q ≤ 65535
      · have hqi : (q : Int) ≤ 65535 := by omega
        have hmq : m = q := by omega
        subst hmq
        clear hsq hSS hsl hs1 hm1 hm hq hD hN1 ha1 x1 x2 l1 l2 l3 e1 hk cq hqd
        by_cases c1 : x < s1 * s1
        · obtain ⟨c2, f10⟩ := f11.out c1
          clear c1
          go_wp2
          simp [bodyPost, results, Oacg.results67, go_sem]
        · obtain ⟨c2, hk⟩ := f12.out c1
          subst hk
          clear c1
          rw [f8] at f9
          go_wp2
          simp [bodyPost, results, Oacg.results67, go_sem]
      · have hqi : ¬ (q : Int) ≤ 65535 := by omega
        have hmq : m = 65535 := by omega
        subst hmq
        rw [show ((65535 : Nat) : Int) = 65535 from rfl] at f7
        clear hsq hSS hsl hs1 hm1 hm hq hD hN1 ha1 x1 x2 l1 l2 l3 e1 hk cq hqd
        by_cases c1 : x < s1 * s1
        · obtain ⟨c2, f10⟩ := f11.out c1
          clear c1
          go_wp2
          simp [bodyPost, results, Oacg.results67, go_sem]
        · obtain ⟨c2, hk⟩ := f12.out c1
          subst hk
          clear c1
          rw [f8] at f9
          go_wp2
          simp [bodyPost, results, Oacg.results67, go_sem]
    | succ j =>
      have b0 : ((2 ^ (j + 1) / 2 : Nat) : Int) = ((2 ^ j : Nat) : Int) := by rw [Nat.pow_succ, Nat.mul_div_cancel _ (by decide)]
      rw [b0]
      have hjp := Nat.pow_pos (n := j) (show 0 < 2 by decide)
      have hle := HI.out.2.le
      have hjl : 2 ^ j ≤ 32768 ∧ s ≤ 65536 := by rw [Nat.pow_succ] at hle; omega
      obtain ⟨b, hb⟩ : ∃ b, 2 ^ j = b := ⟨_, rfl⟩
      have HB := Box.mk hb
      rw [hb] at hjp hjl ⊢
      have hm : (2 * s + b) * b ≤ (2 * 65536 + 32768) * 32768 := Nat.mul_le_mul (by omega) (by omega)
      obtain ⟨T, hT⟩ : ∃ T, (2 * s + b) * b = T := ⟨_, rfl⟩
      rw [hT] at hm
      obtain ⟨Z, hZ⟩ : ∃ Z : Int, Z = (b : Int) := ⟨_, rfl⟩
      have w1 : IntKind.u64.wrap (IntKind.u64.wrap (IntKind.u64.wrap (2 * (s : Int)) + (b : Int)) * (b : Int)) = (T : Int) := by
        rw [show IntKind.u64.wrap (2 * (s : Int)) = ((2 * s : Nat) : Int) by rw [wu64]; omega, ← Int.natCast_add, show IntKind.u64.wrap (((2 * s + b : Nat) : Int)) = ((2 * s + b : Nat) : Int) by rw [wu64]; omega, ← Int.natCast_mul, hT, wu64]
        omega
      have w2 : (b : Int) / 2 = ((2 ^ j / 2 : Nat) : Int) := by rw [hb]; omega
      have c0 : (0 : Int) < (b : Int) := by omega
      by_cases c1 : T ≤ l
      · have w3 : IntKind.u64.wrap ((l : Int) - (T : Int)) = ((l - T : Nat) : Int) := by
          have := HI.out.2.eq
          have := HTOP.out
          rw [wu64]; omega
        have w4 : Go.bits BinOp.or IntKind.u64 (s : Int) (b : Int) = ((s + b : Nat) : Int) := by
          rw [← hb]; exact or_pow HI.out.2.dv (by omega) (by have := HI.out.1; omega)
        have HN : Box (j ≤ 16 ∧ RI top j (s + b) (l - T)) := ⟨by have := HI.out.1; omega, by
          have := HI.out.2.yes (by rw [hb, hT]; exact c1)
          rw [hb, hT] at this
          exact this⟩
        have c2 : (T : Int) ≤ (l : Int) := by omega
        clear c1 hT hb hm hjl hle b0
        go_wp2
        refine ⟨⟨s + b, l - T, j, by rw [Int.natCast_add], rfl, by rw [two_pow_cast]; rfl, HN⟩, ?_⟩
        rw [← HB.out] at hjp ⊢
        simp only [intOf]
        rw [two_pow_cast]
        omega
      · have HN : Box (j ≤ 16 ∧ RI top j s l) := ⟨by have := HI.out.1; omega, HI.out.2.no (by rw [hb, hT]; exact c1)⟩
        have c2 : ¬ (T : Int) ≤ (l : Int) := by omega
        clear c1 hT hb hm hjl hle b0
        go_wp2
        refine ⟨⟨s, l, j, rfl, rfl, by rw [two_pow_cast]; rfl, HN⟩, ?_⟩
        rw [← HB.out] at hjp ⊢
        simp only [intOf]
        rw [two_pow_cast]
        omega
end Go.Proofs.YgcoacGreat
