/-
  wide.Cmp, Shl, Shr, Add, Sub, Mul64.
-/
import Derived.Test.YgcoacGreatWdA
import Derived.Test.YgcoacGreatNatDiv
import Derived.Test.YgcoacGreatExR
namespace Go.Proofs.YgcoacGreat
open Go.RowKit
set_option linter.unusedSimpArgs false
set_option linter.unusedVariables false

/-- A number below 2^128 as wide holds it. -/
def uV (v : Nat) : Value := .agg #[.int .u64 ((v / 18446744073709551616 : Nat) : Int), .int .u64 ((v % 18446744073709551616 : Nat) : Int)]
theorem uV_of (h l : Nat) (hl : l < 18446744073709551616) : uV (h * 18446744073709551616 + l) = .agg #[.int .u64 (h : Int), .int .u64 (l : Int)] := by
  unfold uV
  rw [show (h * 18446744073709551616 + l) / 18446744073709551616 = h by omega, show (h * 18446744073709551616 + l) % 18446744073709551616 = l by omega]

def cmp4 (H1 L1 H2 L2 : Int) : Int := if H1 < H2 then -1 else if H1 = H2 then (if L1 < L2 then -1 else if L1 = L2 then 0 else 1) else 1
set_option maxRecDepth 20000 in
set_option maxHeartbeats 1000000 in
theorem wCmp_raw (H1 L1 H2 L2 : Int) (w : World) :
    Calls Oacg.prog 69 #[.agg #[.int .u64 H1, .int .u64 L1], .agg #[.int .u64 H2, .int .u64 L2]] w fun r w' => r = .returned (.int .i8 (cmp4 H1 L1 H2 L2)) ∧ Ext w w' := by
  unfold cmp4
  by_cases q1 : H1 < H2
  · rw [if_pos q1]
    go_enter Oacg.func69, Oacg.ntmps69
    go_wp2
    go_ret
    exact ⟨rfl, by repeat (first | apply Ext.alloc | exact Ext.refl _)⟩
  rw [if_neg q1]
  by_cases q2 : H1 = H2
  · rw [if_pos q2]
    subst q2
    by_cases q3 : L1 < L2
    · rw [if_pos q3]
      go_enter Oacg.func69, Oacg.ntmps69
      go_wp2
      go_ret
      exact ⟨rfl, by repeat (first | apply Ext.alloc | exact Ext.refl _)⟩
    · rw [if_neg q3]
      by_cases q4 : L1 = L2
      · rw [if_pos q4]
        subst q4
        go_enter Oacg.func69, Oacg.ntmps69
        go_wp2
        go_ret
        exact ⟨rfl, by repeat (first | apply Ext.alloc | exact Ext.refl _)⟩
      · rw [if_neg q4]
        have t4 : (L1 == L2) = false := by rw [beq_eq_false_iff_ne]; exact q4
        go_enter Oacg.func69, Oacg.ntmps69
        go_wp2
        go_ret
        exact ⟨rfl, by repeat (first | apply Ext.alloc | exact Ext.refl _)⟩
  · rw [if_neg q2]
    have t2 : (H1 == H2) = false := by rw [beq_eq_false_iff_ne]; exact q2
    go_enter Oacg.func69, Oacg.ntmps69
    go_wp2
    go_ret
    exact ⟨rfl, by repeat (first | apply Ext.alloc | exact Ext.refl _)⟩
theorem wCmp_any (a b : Nat) (w : World) :
    Calls Oacg.prog 69 #[uV a, uV b] w fun r w' => r = .returned (.int .i8 (cmpI a b)) ∧ Ext w w' := by
  have hc : cmp4 ((a / 18446744073709551616 : Nat) : Int) ((a % 18446744073709551616 : Nat) : Int) ((b / 18446744073709551616 : Nat) : Int) ((b % 18446744073709551616 : Nat) : Int) = cmpI a b := by
    unfold cmp4 cmpI
    have ea := Nat.div_add_mod a 18446744073709551616
    have eb := Nat.div_add_mod b 18446744073709551616
    have la := Nat.mod_lt a (show 0 < 18446744073709551616 by decide)
    have lb := Nat.mod_lt b (show 0 < 18446744073709551616 by decide)
    generalize a / 18446744073709551616 = h1 at *
    generalize a % 18446744073709551616 = l1 at *
    generalize b / 18446744073709551616 = h2 at *
    generalize b % 18446744073709551616 = l2 at *
    repeat' split
    all_goals omega
  rw [← hc]
  exact wCmp_raw _ _ _ _ w
theorem or_disj {a b k : Nat} (hk : k ≤ 64) (ha : a < 18446744073709551616) (hb : b < 2 ^ k) (hd : a % 2 ^ k = 0) : Go.bits BinOp.or IntKind.u64 (a : Int) (b : Int) = ((a + b : Nat) : Int) := by
  have h1 := pow_le_of hk
  rw [u64_or_nat a b ha (Nat.lt_of_lt_of_le hb h1)]
  congr 1
  obtain ⟨c, rfl⟩ : ∃ c, a = 2 ^ k * c := ⟨a / 2 ^ k, by have := Nat.div_add_mod a (2 ^ k); omega⟩
  exact (Nat.two_pow_add_eq_or_of_lt hb c).symm
theorem w64n (n : Nat) : IntKind.u64.wrap (n : Int) = ((n % 18446744073709551616 : Nat) : Int) := by rw [wu64]; omega
/-- Two halves of a number below 2^128. -/
theorem halves (x h l : Nat) (hx : x = h * 18446744073709551616 + l) (hl : l < 18446744073709551616) (hh : h < 18446744073709551616) :
    x % 340282366920938463463374607431768211456 / 18446744073709551616 = h ∧ x % 340282366920938463463374607431768211456 % 18446744073709551616 = l := by
  have : x < 340282366920938463463374607431768211456 := by omega
  rw [Nat.mod_eq_of_lt this]
  omega
theorem shl_lo {h l k : Nat} (hk : k < 64) (hl : l < 18446744073709551616) :
    ∃ a b : Nat, h * 2 ^ k % 18446744073709551616 = a ∧ l / 2 ^ (64 - k) = b ∧ a < 18446744073709551616 ∧ b < 2 ^ k ∧ a % 2 ^ k = 0 ∧ a + b < 18446744073709551616 ∧
      (h * 18446744073709551616 + l) * 2 ^ k % 340282366920938463463374607431768211456 = (a + b) * 18446744073709551616 + l * 2 ^ k % 18446744073709551616 := by
  have hP : 2 ^ (64 - k) * 2 ^ k = 18446744073709551616 := by rw [← Nat.pow_add, show 64 - k + k = 64 by omega]
  have h1 := Nat.pow_pos (n := k) (show 0 < 2 by decide)
  have h2 := Nat.pow_pos (n := 64 - k) (show 0 < 2 by decide)
  refine ⟨_, _, rfl, rfl, Nat.mod_lt _ (by decide), ?_, ?_, ?_, ?_⟩
  all_goals generalize 2 ^ k = K at *
  all_goals generalize 2 ^ (64 - k) = Q at *
  · rw [Nat.div_lt_iff_lt_mul h2, Nat.mul_comm]; omega
  · rw [Nat.mod_mod_of_dvd _ ⟨Q, by rw [Nat.mul_comm, hP]⟩, Nat.mul_mod_left]
  · have e1 : h * K % 18446744073709551616 = h % Q * K := by rw [← hP, Nat.mul_mod_mul_right]
    have e2 := Nat.mod_lt h h2
    have e3 : l / Q < K := by rw [Nat.div_lt_iff_lt_mul h2, Nat.mul_comm]; omega
    have e4 : (h % Q + 1) * K ≤ Q * K := Nat.mul_le_mul_right _ e2
    rw [e1]
    rw [Nat.add_mul] at e4
    omega
  · have e1 : h * K % 18446744073709551616 = h % Q * K := by rw [← hP, Nat.mul_mod_mul_right]
    have e5 : l * K % 18446744073709551616 = l % Q * K := by rw [← hP, Nat.mul_mod_mul_right]
    have e6 := Nat.div_add_mod l Q
    have e7 := Nat.div_add_mod h Q
    have e2 := Nat.mod_lt h h2
    have e8 := Nat.mod_lt l h2
    have e3 : l / Q < K := by rw [Nat.div_lt_iff_lt_mul h2, Nat.mul_comm]; omega
    rw [e1, e5]
    have f1 : (h * 18446744073709551616 + l) * K = h / Q * 340282366920938463463374607431768211456 + ((h % Q * K + l / Q) * 18446744073709551616 + l % Q * K) := by
      have g1 : h * K = h / Q * 18446744073709551616 + h % Q * K := by
        rw [← hP]
        calc h * K = (Q * (h / Q) + h % Q) * K := by rw [e7]
          _ = h / Q * (Q * K) + h % Q * K := by rw [Nat.add_mul]; ac_rfl
      have g2 : l * K = l / Q * 18446744073709551616 + l % Q * K := by
        rw [← hP]
        calc l * K = (Q * (l / Q) + l % Q) * K := by rw [e6]
          _ = l / Q * (Q * K) + l % Q * K := by rw [Nat.add_mul]; ac_rfl
      rw [Nat.add_mul, Nat.mul_right_comm, g1, g2]
      omega
    rw [f1, Nat.add_comm, Nat.add_mul_mod_self_right]
    refine Nat.mod_eq_of_lt ?_
    have e4 : (h % Q + 1) * K ≤ Q * K := Nat.mul_le_mul_right _ e2
    have e9 : (l % Q + 1) * K ≤ Q * K := Nat.mul_le_mul_right _ e8
    rw [Nat.add_mul] at e4 e9
    omega
set_option maxRecDepth 20000 in
set_option maxHeartbeats 1000000 in
theorem wShl_any (v : Nat) (hv : v < 340282366920938463463374607431768211456) (k : Nat) (hk : k ≤ 255) (w : World) :
    Calls Oacg.prog 68 #[uV v, .int .u8 (k : Int)] w fun r w' => r = .returned (uV (v * 2 ^ k % 340282366920938463463374607431768211456)) ∧ Ext w w' := by
  obtain ⟨h, hh⟩ : ∃ h, v / 18446744073709551616 = h := ⟨_, rfl⟩
  obtain ⟨l, hl⟩ : ∃ l, v % 18446744073709551616 = l := ⟨_, rfl⟩
  have hvv : v = h * 18446744073709551616 + l := by omega
  have hhl : h < 18446744073709551616 ∧ l < 18446744073709551616 := by omega
  by_cases q : 64 ≤ k
  · obtain ⟨j, rfl⟩ : ∃ j, k = j + 64 := ⟨k - 64, by omega⟩
    have t1 : decide ((64 : Int) ≤ ((j + 64 : Nat) : Int)) = true := by simp; omega
    have hres : v * 2 ^ (j + 64) % 340282366920938463463374607431768211456 = (l * 2 ^ j % 18446744073709551616) * 18446744073709551616 + 0 := by
      rw [hvv, Nat.pow_add, show (2 : Nat) ^ 64 = 18446744073709551616 from rfl]
      generalize 2 ^ j = J
      have e1 := Nat.div_add_mod (l * J) 18446744073709551616
      have e2 : (h * 18446744073709551616 + l) * (J * 18446744073709551616) = h * J * 340282366920938463463374607431768211456 + l * J * 18446744073709551616 := by
        rw [Nat.add_mul, show h * 18446744073709551616 * (J * 18446744073709551616) = h * J * (18446744073709551616 * 18446744073709551616) by ac_rfl, show l * (J * 18446744073709551616) = l * J * 18446744073709551616 by ac_rfl]
      rw [e2, Nat.mul_comm (h * J), Nat.mul_add_mod, show (340282366920938463463374607431768211456 : Nat) = 18446744073709551616 * 18446744073709551616 from rfl, Nat.mul_mod_mul_right, Nat.add_zero]
    have hki : (j : Int) ≤ 191 := by omega
    have hj : ((j + 64 : Nat) : Int) - 64 = (j : Int) := by omega
    rw [hres, uV_of _ _ (by decide)]
    obtain ⟨r, hr⟩ : ∃ r, l * 2 ^ j % 18446744073709551616 = r := ⟨_, rfl⟩
    have hmin : l * 2 ^ min j 64 % 18446744073709551616 = r := by
      rw [← hr]
      rcases Nat.lt_or_ge j 64 with h' | h'
      · rw [Nat.min_eq_left (by omega)]
      · rw [Nat.min_eq_right h']
        obtain ⟨i, rfl⟩ : ∃ i, j = i + 64 := ⟨j - 64, by omega⟩
        rw [Nat.pow_add, ← Nat.mul_assoc, show (2 : Nat) ^ 64 = 18446744073709551616 from rfl, Nat.mul_mod_left, Nat.mul_mod_left]
    have hw : IntKind.u64.wrap ((l : Int) * 2 ^ min j 64) = (r : Int) := by
      rw [two_pow_cast, ← Int.natCast_mul, w64n, hmin]
    rw [hr]
    have HW := Box.mk hw
    unfold uV
    rw [hh, hl]
    clear hres hvv hhl hv hh hl hr hw hmin
    go_enter Oacg.func68, Oacg.ntmps68
    go_wp2
    simp [bodyPost, results, Oacg.results68, go_sem]
    exact ⟨HW.out, by repeat (first | apply Ext.alloc | exact Ext.refl _)⟩
  · have t1 : decide ((64 : Int) ≤ (k : Int)) = false := by simp; omega
    obtain ⟨a, b, ha, hb, h1, h2, h3, h4, h5⟩ := shl_lo (h := h) (l := l) (k := k) (by omega) hhl.2
    rw [← hvv] at h5
    rw [h5, uV_of _ _ (Nat.mod_lt _ (by decide))]
    obtain ⟨ab, hab⟩ : ∃ ab, a + b = ab := ⟨_, rfl⟩
    obtain ⟨r, hr⟩ : ∃ r, l * 2 ^ k % 18446744073709551616 = r := ⟨_, rfl⟩
    rw [hab, hr]
    have e1 : IntKind.u64.wrap ((h : Int) * 2 ^ k) = (a : Int) := by rw [two_pow_cast, ← Int.natCast_mul, w64n, ha]
    have e2 : (l : Int) / 2 ^ (64 - k) = (b : Int) := by rw [two_pow_cast, ← Int.natCast_ediv, hb]
    have e3 := or_disj (by omega) h1 h2 h3
    have e4 : IntKind.u64.wrap ((l : Int) * 2 ^ k) = (r : Int) := by rw [two_pow_cast, ← Int.natCast_mul, w64n, hr]
    rw [hab] at e3
    unfold uV
    rw [hh, hl]
    have E3 : Box (Go.bits BinOp.or IntKind.u64 (IntKind.u64.wrap ((h : Int) * 2 ^ k)) ((l : Int) / 2 ^ (64 - k)) = (ab : Int)) := ⟨by rw [e1, e2]; exact e3⟩
    have E4 := Box.mk e4
    clear ha hb h1 h2 h3 h4 h5 e1 e2 e3 e4 hv hh hl hvv hhl hab hr
    go_enter Oacg.func68, Oacg.ntmps68
    go_wp2
    simp [bodyPost, results, Oacg.results68, go_sem]
    exact ⟨⟨E3.out, E4.out⟩, by repeat (first | apply Ext.alloc | exact Ext.refl _)⟩

/-! ### Shr -/
theorem shr_lo {h l k : Nat} (hk : k < 64) (hh : h < 18446744073709551616) (hl : l < 18446744073709551616) :
    ∃ a b : Nat, h * 2 ^ (64 - k) % 18446744073709551616 = a ∧ l / 2 ^ k = b ∧ a < 18446744073709551616 ∧ b < 2 ^ (64 - k) ∧ a % 2 ^ (64 - k) = 0 ∧ a + b < 18446744073709551616 ∧
      (h * 18446744073709551616 + l) / 2 ^ k = h / 2 ^ k * 18446744073709551616 + (a + b) := by
  have hP : 2 ^ k * 2 ^ (64 - k) = 18446744073709551616 := by rw [← Nat.pow_add, show k + (64 - k) = 64 by omega]
  have h1 := Nat.pow_pos (n := k) (show 0 < 2 by decide)
  have h2 := Nat.pow_pos (n := 64 - k) (show 0 < 2 by decide)
  refine ⟨_, _, rfl, rfl, Nat.mod_lt _ (by decide), ?_, ?_, ?_, ?_⟩
  all_goals generalize 2 ^ k = K at *
  all_goals generalize 2 ^ (64 - k) = Q at *
  · rw [Nat.div_lt_iff_lt_mul h1, Nat.mul_comm]; omega
  · rw [Nat.mod_mod_of_dvd _ ⟨K, by rw [Nat.mul_comm, hP]⟩, Nat.mul_mod_left]
  · have e1 : h * Q % 18446744073709551616 = h % K * Q := by rw [← hP, Nat.mul_mod_mul_right]
    have e2 := Nat.mod_lt h h1
    have e3 : l / K < Q := by rw [Nat.div_lt_iff_lt_mul h1, Nat.mul_comm]; omega
    have e4 : (h % K + 1) * Q ≤ K * Q := Nat.mul_le_mul_right _ e2
    rw [e1]
    rw [Nat.add_mul] at e4
    omega
  · have e1 : h * Q % 18446744073709551616 = h % K * Q := by rw [← hP, Nat.mul_mod_mul_right]
    have e7 := Nat.div_add_mod h K
    rw [e1]
    have f0 : h * (K * Q) = K * (h / K * (K * Q) + h % K * Q) := by
      calc h * (K * Q) = (K * (h / K) + h % K) * (K * Q) := by rw [e7]
        _ = K * (h / K * (K * Q) + h % K * Q) := by rw [Nat.add_mul, Nat.mul_add]; ac_rfl
    rw [hP] at f0
    rw [f0, Nat.mul_add_div h1, Nat.add_assoc]
set_option maxRecDepth 20000 in
set_option maxHeartbeats 1000000 in
theorem wShr_any (v : Nat) (hv : v < 340282366920938463463374607431768211456) (k : Nat) (hk : k ≤ 255) (w : World) :
    Calls Oacg.prog 33 #[uV v, .int .u8 (k : Int)] w fun r w' => r = .returned (uV (v / 2 ^ k)) ∧ Ext w w' := by
  obtain ⟨h, hh⟩ : ∃ h, v / 18446744073709551616 = h := ⟨_, rfl⟩
  obtain ⟨l, hl⟩ : ∃ l, v % 18446744073709551616 = l := ⟨_, rfl⟩
  have hvv : v = h * 18446744073709551616 + l := by omega
  have hhl : h < 18446744073709551616 ∧ l < 18446744073709551616 := by omega
  by_cases q : 64 ≤ k
  · obtain ⟨j, rfl⟩ : ∃ j, k = j + 64 := ⟨k - 64, by omega⟩
    have t1 : decide ((64 : Int) ≤ ((j + 64 : Nat) : Int)) = true := by simp; omega
    obtain ⟨r, hr⟩ : ∃ r, h / 2 ^ j = r := ⟨_, rfl⟩
    have hres : v / 2 ^ (j + 64) = 0 * 18446744073709551616 + r := by
      rw [Nat.add_comm j, Nat.pow_add, ← Nat.div_div_eq_div_mul, show (2 : Nat) ^ 64 = 18446744073709551616 from rfl, hh, hr]; omega
    have hrl : r < 18446744073709551616 := by rw [← hr]; exact Nat.lt_of_le_of_lt (Nat.div_le_self _ _) hhl.1
    have hki : (j : Int) ≤ 191 := by omega
    have hj : ((j + 64 : Nat) : Int) - 64 = (j : Int) := by omega
    have hmin : h / 2 ^ min j 64 = r := by
      rw [← hr]
      rcases Nat.lt_or_ge j 64 with h' | h'
      · rw [Nat.min_eq_left (by omega)]
      · have e64 : (2 : Nat) ^ 64 = 18446744073709551616 := by decide
        have h64 : h < 2 ^ 64 := by rw [e64]; exact hhl.1
        rw [Nat.min_eq_right h', Nat.div_eq_of_lt h64, Nat.div_eq_of_lt (Nat.lt_of_lt_of_le h64 (pow_le_of h'))]
    have hw : (h : Int) / 2 ^ min j 64 = (r : Int) := by
      rw [two_pow_cast, ← Int.natCast_ediv, hmin]
    have hw2 : (h : Int) / 2 ^ j = (r : Int) := by rw [two_pow_cast, ← Int.natCast_ediv, hr]
    rw [hres, uV_of _ _ hrl]
    have HW := Box.mk hw
    have HW2 := Box.mk hw2
    unfold uV
    rw [hh, hl]
    clear hres hvv hhl hv hh hl hr hw hw2 hrl hmin
    go_enter Oacg.func33, Oacg.ntmps33
    go_wp2
    simp [bodyPost, results, Oacg.results33, go_sem]
    exact ⟨by first | exact HW.out | exact HW2.out, by repeat (first | apply Ext.alloc | exact Ext.refl _)⟩
  · have t1 : decide ((64 : Int) ≤ (k : Int)) = false := by simp; omega
    obtain ⟨a, b, ha, hb, h1, h2, h3, h4, h5⟩ := shr_lo (h := h) (l := l) (k := k) (by omega) hhl.1 hhl.2
    rw [← hvv] at h5
    rw [h5, uV_of _ _ h4]
    obtain ⟨ab, hab⟩ : ∃ ab, a + b = ab := ⟨_, rfl⟩
    obtain ⟨r, hr⟩ : ∃ r, h / 2 ^ k = r := ⟨_, rfl⟩
    rw [hab, hr]
    have e1 : IntKind.u64.wrap ((h : Int) * 2 ^ (64 - k)) = (a : Int) := by rw [two_pow_cast, ← Int.natCast_mul, w64n, ha]
    have e2 : (l : Int) / 2 ^ k = (b : Int) := by rw [two_pow_cast, ← Int.natCast_ediv, hb]
    have e3 := or_disj (show 64 - k ≤ 64 by omega) h1 h2 h3
    have e4 : (h : Int) / 2 ^ k = (r : Int) := by rw [two_pow_cast, ← Int.natCast_ediv, hr]
    rw [hab] at e3
    have e5 : Go.bits BinOp.or IntKind.u64 (b : Int) (a : Int) = (ab : Int) := by
      have hbl := pow_le_of (show 64 - k ≤ 64 by omega)
      rw [u64_or_nat b a (Nat.lt_of_lt_of_le h2 hbl) h1, Nat.or_comm, ← u64_or_nat a b h1 (Nat.lt_of_lt_of_le h2 hbl)]
      exact e3
    unfold uV
    rw [hh, hl]
    have E3 : Box (Go.bits BinOp.or IntKind.u64 ((l : Int) / 2 ^ k) (IntKind.u64.wrap ((h : Int) * 2 ^ (64 - k))) = (ab : Int)) := ⟨by rw [e1, e2]; exact e5⟩
    have E4 := Box.mk e4
    clear ha hb h1 h2 h3 h4 h5 e1 e2 e3 e4 e5 hv hh hl hvv hhl hab hr
    go_enter Oacg.func33, Oacg.ntmps33
    go_wp2
    simp [bodyPost, results, Oacg.results33, go_sem]
    exact ⟨⟨E4.out, E3.out⟩, by repeat (first | apply Ext.alloc | exact Ext.refl _)⟩
end Go.Proofs.YgcoacGreat
