/-
  THE ROOT by its 64 leading bits and a sticky bit, plainly.
-/
import Derived.Test.YgcoacGreatSfH
import Derived.Test.YgcoacGreatSqB
namespace Go.Proofs.YgcoacGreat
open Go.RowKit
set_option linter.unusedSimpArgs false
set_option linter.unusedVariables false

theorem sq_le_iff {a b : Nat} : a * a ≤ b * b ↔ a ≤ b := by
  constructor
  · intro h
    rcases Nat.lt_or_ge b a with h1 | h1
    · have h2 := Nat.mul_le_mul (show b + 1 ≤ a from h1) (show b + 1 ≤ a from h1)
      rw [sq_succ] at h2
      omega
    · exact h1
  · intro h; exact Nat.mul_le_mul h h
theorem cmpI_of {a b c d : Nat} (h1 : b ≤ a ↔ d ≤ c) (h2 : a = b ↔ c = d) : cmpI a b = cmpI c d := by
  have h3 : a < b ↔ c < d := by omega
  unfold cmpI
  simp only [h3, h2]
/-- Against even numbers the sticky root stands as the root does. -/
theorem stk_key {S s : Nat} (h1 : s * s ≤ S) (h2 : S < (s + 1) * (s + 1)) (T : Nat) (hT : T % 2 = 0) :
    (T * T ≤ S ↔ T ≤ stk s (decide (s * s = S))) ∧ (S = T * T ↔ stk s (decide (s * s = S)) = T) := by
  by_cases hx : s * s = S
  · rw [decide_eq_true hx]
    unfold stk
    rw [if_pos rfl, ← hx]
    refine ⟨sq_le_iff, ?_⟩
    constructor
    · intro h
      have a1 := sq_le_iff.1 (Nat.le_of_eq h)
      have a2 := sq_le_iff.1 (Nat.le_of_eq h.symm)
      omega
    · intro h; rw [h]
  · rw [decide_eq_false hx]
    unfold stk
    rw [if_neg (by decide)]
    have b1 : T ≤ s → T * T ≤ S := fun h => Nat.le_trans (Nat.mul_le_mul h h) h1
    have b2 : s + 1 ≤ T → S < T * T := fun h => Nat.lt_of_lt_of_le h2 (Nat.mul_le_mul h h)
    have b3 : S ≠ T * T := by
      intro h
      rcases Nat.lt_or_ge s T with h' | h'
      · have := b2 h'; omega
      · have h4 : T * T ≤ s * s := Nat.mul_le_mul h' h'
        omega
    refine ⟨?_, ?_⟩
    · constructor
      · intro h
        rcases Nat.lt_or_ge s T with h' | h'
        · have := b2 h'; omega
        · omega
      · intro h; exact b1 (by omega)
    · constructor
      · intro h; exact absurd h b3
      · intro h; omega
theorem root_trip {S s g : Nat} (hg : 2 ≤ g) (h1 : s * s ≤ S) (h2 : S < (s + 1) * (s + 1)) :
    rtF S (2 ^ g * 2 ^ g) = stk s (decide (s * s = S)) / 2 ^ g ∧
    rtH (stk s (decide (s * s = S)) / 2 ^ g) S (2 ^ g * 2 ^ g) = halfQ (stk s (decide (s * s = S))) (2 ^ g) ∧
    rtS (stk s (decide (s * s = S)) / 2 ^ g) S (2 ^ g * 2 ^ g) = someQ (stk s (decide (s * s = S))) (2 ^ g) := by
  have key := stk_key h1 h2
  generalize stk s (decide (s * s = S)) = t at *
  obtain ⟨i, rfl⟩ : ∃ i, g = i + 2 := ⟨g - 2, by omega⟩
  have hI := two_pos i
  have hG : 2 ^ (i + 2) = 2 * (2 * 2 ^ i) := by rw [Nat.pow_add]; omega
  rw [hG]
  generalize 2 ^ i = I at *
  obtain ⟨H, hH⟩ : ∃ H, 2 * I = H := ⟨_, rfl⟩
  have hHe : H % 2 = 0 := by omega
  have hHp : 0 < H := by omega
  rw [hH]
  clear hG hI hH
  have hq := Nat.div_add_mod t (2 * H)
  have hr := Nat.mod_lt t (show 0 < 2 * H by omega)
  have hGp : 0 < 2 * H * (2 * H) := Nat.mul_pos (by omega) (by omega)
  obtain ⟨q, hqd⟩ : ∃ q, t / (2 * H) = q := ⟨_, rfl⟩
  obtain ⟨r, hrd⟩ : ∃ r, t % (2 * H) = r := ⟨_, rfl⟩
  rw [hqd, hrd] at hq
  rw [hrd] at hr
  rw [hqd]
  have ev : ∀ c : Nat, c * (2 * H) % 2 = 0 := fun c => by rw [Nat.mul_left_comm, Nat.mul_mod_right]
  have c1 : q * (2 * H) ≤ t := by rw [Nat.mul_comm]; omega
  have c2 : ¬ (q + 1) * (2 * H) ≤ t := by rw [Nat.add_mul, Nat.mul_comm q]; omega
  have sq4 : ∀ c : Nat, c * c * (2 * H * (2 * H)) = c * (2 * H) * (c * (2 * H)) := fun c => by ac_rfl
  refine ⟨?_, ?_, ?_⟩
  · unfold rtF
    have a1 : q ≤ isq (S / (2 * H * (2 * H))) := isq_le (by
      rw [Nat.le_div_iff_mul_le hGp, sq4]
      exact (key _ (ev q)).1.2 c1)
    have a2 : isq (S / (2 * H * (2 * H))) < q + 1 := isq_lt (by
      rw [Nat.div_lt_iff_lt_mul hGp, sq4]
      exact Nat.lt_of_not_le fun hh => c2 ((key _ (ev (q + 1))).1.1 hh))
    omega
  · unfold rtH halfQ
    rw [hrd]
    have e1 : (q * 2 + 1) * (q * 2 + 1) * (2 * H * (2 * H)) = (q * 2 + 1) * H * ((q * 2 + 1) * H) * 4 := by
      have : ∀ c : Nat, c * c * (2 * H * (2 * H)) = c * H * (c * H) * (2 * 2) := fun c => by ac_rfl
      exact this _
    rw [e1, cmpI_scale (by decide)]
    have hTe : (q * 2 + 1) * H % 2 = 0 := by rw [Nat.mul_mod, hHe, Nat.mul_zero]
    obtain ⟨k1, k2⟩ := key _ hTe
    have e2 : (q * 2 + 1) * H = 2 * H * q + H := by rw [Nat.add_mul, Nat.one_mul]; congr 1; ac_rfl
    rw [e2] at k1 k2 ⊢
    refine cmpI_of ?_ ?_
    · rw [k1, ← hq]; omega
    · rw [k2, ← hq]; omega
  · unfold rtS someQ
    rw [hrd, decide_eq_decide, sq4]
    have k2 := (key _ (ev q)).2
    rw [Nat.mul_comm q] at k2 ⊢
    refine not_congr ?_
    constructor
    · intro hh
      have := k2.1 hh.symm
      omega
    · intro hh
      exact (k2.2 (by omega)).symm
theorem rtS_cross {a b c d : Nat} (hb : 0 < b) (hd : 0 < d) (h : a * d = c * b) : rtS (rtF a b) a b = rtS (rtF c d) c d := by
  obtain ⟨f1, _, s1⟩ := rt_scale (a := a) (b := b) hd
  obtain ⟨f2, _, s2⟩ := rt_scale (a := c) (b := d) hb
  rw [← s1, ← s2, ← f1, ← f2, h, Nat.mul_comm b d]
theorem stk_bd {s : Nat} (b : Bool) (h1 : 9223372036854775808 ≤ s) (h2 : s < 18446744073709551616) : 9223372036854775808 ≤ stk s b ∧ stk s b < 18446744073709551616 := by
  unfold stk
  split <;> omega
theorem bits_64 {s : Nat} (h1 : 9223372036854775808 ≤ s) (h2 : s < 18446744073709551616) : bits s = 64 := by
  have a1 : bits s ≤ 64 := bits_le_of_lt h2
  have a2 := bits_lt s
  rcases Nat.lt_or_ge (bits s) 64 with h | h
  · have := pow_le_of (show bits s ≤ 63 by omega)
    have h3 : (2 : Nat) ^ 63 = 9223372036854775808 := by decide
    omega
  · omega
theorem bits_127 {s : Nat} (h1 : 85070591730234615865843651857942052864 ≤ s) (h2 : s < 340282366920938463463374607431768211456) : 127 ≤ bits s ∧ bits s ≤ 128 := by
  have a1 : bits s ≤ 128 := bits_le_of_lt h2
  have a2 := bits_lt s
  refine ⟨?_, a1⟩
  rcases Nat.lt_or_ge (bits s) 127 with h | h
  · have := pow_le_of (show bits s ≤ 126 by omega)
    have h3 : (2 : Nat) ^ 126 = 85070591730234615865843651857942052864 := by decide
    omega
  · omega
theorem isq_bd {S : Nat} (h1 : 85070591730234615865843651857942052864 ≤ S) (h2 : S < 340282366920938463463374607431768211456) : 9223372036854775808 ≤ isq S ∧ isq S < 18446744073709551616 :=
  ⟨isq_le (by omega), isq_lt (by omega)⟩

/-- The rounded root is the sticky root, rounded. -/
theorem sq_bridge {e m N D S : Nat} {P : Int} (h : SqOk e m N D) (mode : Int) (hS1 : 85070591730234615865843651857942052864 ≤ S) (hS2 : S < 340282366920938463463374607431768211456)
    (hx : N * shD 1 (2 * P) = shN S (2 * P) * D) :
    sqV e m mode N D = rndV e m mode false (shN (stk (isq S) (decide (isq S * isq S = S))) P) (shD 1 P) ∧
    sqF e m mode N D = rndF e m mode false (shN (stk (isq S) (decide (isq S * isq S = S))) P) (shD 1 P) := by
  have hb := bias_bd h.fm
  have hm2 := h.fm.m2
  obtain ⟨i1, i2⟩ := isq_bd hS1 hS2
  obtain ⟨s1, s2⟩ := isq_spec S
  have trip := fun g (hg : 2 ≤ g) => root_trip (g := g) hg s1 s2
  obtain ⟨t1, t2⟩ := stk_bd (decide (isq S * isq S = S)) i1 i2
  generalize stk (isq S) (decide (isq S * isq S = S)) = t at *
  generalize isq S = s at *
  have hbt := bits_64 t1 t2
  obtain ⟨b1, b2⟩ := bits_127 hS1 hS2
  have hd := sh1_pos P
  have hn : 0 < shN t P := Nat.mul_pos (by omega) (two_pos _)
  -- the real exponent
  have hre : reS e N D = P + 63 := by
    obtain ⟨r1, r2⟩ := re_lt2 h
    rw [lt2_cross h.d0 (sh1_pos (2 * P)) hx, lt2_exact (by omega)] at r1 r2
    omega
  have hexb := ex_bd h
  have hrq : ∀ u : Int, eminI e - 1 ≤ u → u ≤ (bias e : Int) + 1 → (u ≤ realQ e (shN t P) (shD 1 P) ↔ u ≤ P + 63) := by
    intro u h1 h2
    unfold realQ
    rw [real_iff hn hd h1 h2 (by unfold eminI; omega), lt2_exact (by omega), hbt]
    omega
  have hlo := realQ_bd e (shN t P) (shD 1 P) h.fm
  have hPb : P + 63 < bias e := by unfold exS at hexb; omega
  have hR1 : eminI e - 1 ≤ P + 63 → realQ e (shN t P) (shD 1 P) = P + 63 := by
    intro hh
    have a1 := (hrq (P + 63) hh (by omega)).2 (Int.le_refl _)
    have a2 : ¬ P + 64 ≤ realQ e (shN t P) (shD 1 P) := fun hq => by
      have := (hrq (P + 64) (by omega) (by omega)).1 hq
      omega
    omega
  have hR2 : P + 63 < eminI e - 1 → realQ e (shN t P) (shD 1 P) < eminI e - 1 := by
    intro hh
    rcases Int.lt_or_le (realQ e (shN t P) (shD 1 P)) (eminI e - 1) with h' | h'
    · exact h'
    · have := (hrq (eminI e - 1) (Int.le_refl _) (by unfold eminI; omega)).1 h'
      omega
  have hex : expQ e (shN t P) (shD 1 P) = exS e N D := by
    unfold expQ exS
    rw [hre]
    rcases Int.lt_or_le (P + 63) (eminI e - 1) with h' | h'
    · have := hR2 h'
      omega
    · rw [hR1 h']
  -- the rounding at an exponent
  have at' : ∀ ex : Int, P + 63 ≤ ex → raisedN mode false (shN (shN t P) ((m : Int) - ex)) (shD (shD 1 P) ((m : Int) - ex)) = rnS m mode N D ex ∧
      someQ (shN (shN t P) ((m : Int) - ex)) (shD (shD 1 P) ((m : Int) - ex)) = smS m N D ex := by
    intro ex hge
    obtain ⟨g, hg⟩ : ∃ g : Nat, (g : Int) = ex - m - P := ⟨(ex - m - P).toNat, by omega⟩
    obtain ⟨k, hk⟩ : ∃ k : Int, (m : Int) - ex = k := ⟨_, rfl⟩
    obtain ⟨r1, r2, r3⟩ := trip g (by omega)
    unfold smS rfS rnS
    rw [hk]
    have hpg := two_pos g
    have x1 : shN (shN t P) k * 2 ^ g = t * shD (shD 1 P) k := by
      unfold shN shD
      rw [Nat.one_mul, Nat.mul_assoc, Nat.mul_assoc, ← Nat.pow_add, ← Nat.pow_add, ← Nat.pow_add, show P.toNat + (k.toNat + g) = (-P).toNat + (-k).toNat by omega]
    have x2 : shN N (2 * k) * (2 ^ g * 2 ^ g) = S * shD D (2 * k) := by
      refine Nat.eq_of_mul_eq_mul_right (sh1_pos (2 * P)) ?_
      have e1 : shN N (2 * k) * (2 ^ g * 2 ^ g) * shD 1 (2 * P) = N * shD 1 (2 * P) * (2 ^ (2 * k).toNat * (2 ^ g * 2 ^ g)) := by unfold shN; ac_rfl
      rw [e1, hx]
      have e2 : shN S (2 * P) * D * (2 ^ (2 * k).toNat * (2 ^ g * 2 ^ g)) = S * D * 2 ^ ((2 * P).toNat + (2 * k).toNat + g + g) := by
        rw [Nat.pow_add, Nat.pow_add, Nat.pow_add]; unfold shN; ac_rfl
      have e3 : S * shD D (2 * k) * shD 1 (2 * P) = S * D * 2 ^ ((-(2 * k)).toNat + (-(2 * P)).toNat) := by
        rw [Nat.pow_add]; unfold shD; rw [Nat.one_mul]; ac_rfl
      rw [e2, e3, show (2 * P).toNat + (2 * k).toNat + g + g = (-(2 * k)).toNat + (-(2 * P)).toNat by omega]
    have hgg : 0 < 2 ^ g * 2 ^ g := Nat.mul_pos hpg hpg
    obtain ⟨q1, q2⟩ := raised_ratio mode false (shD_pos hd k) hpg x1
    rw [q1, q2, rtS_cross (shD_pos h.d0 _) hgg x2, rtN_cross (mode := mode) (shD_pos h.d0 _) hgg x2]
    unfold raisedN rtN
    rw [r1, r2, r3]
    exact ⟨rfl, rfl⟩
  have hge : P + 63 ≤ exS e N D := by unfold exS; omega
  obtain ⟨a1, a2⟩ := at' _ hge
  have hman : manQ e m mode false (shN t P) (shD 1 P) = manS e m mode N D := by
    unfold manQ manS
    rw [hex, a1]
  have hsm : smQ e m (shN t P) (shD 1 P) = smS m N D (exS e N D) := by
    unfold smQ
    rw [hex, a2]
  have hti : tinyQ e m mode false (shN t P) (shD 1 P) = tinyS e m mode N D := by
    unfold tinyQ tinyS fullQ
    rw [hre]
    rcases Int.lt_or_le (P + 63) (eminI e - 1) with h' | h'
    · have := hR2 h'
      rw [if_neg (by omega), if_neg (by omega), decide_eq_true (by omega), decide_eq_true (by omega)]
    · rw [hR1 h', (at' (P + 63) (Int.le_refl _)).1]
  have z1 : ¬ shN t P = 0 := by omega
  have z2 : ¬ (bias e : Int) < expQ e (shN t P) (shD 1 P) := by rw [hex]; omega
  unfold rndV rndF sqV sqF
  rw [if_neg z1, if_neg z1, if_neg z2, if_neg z2, hex, hman, hsm, hti]
  exact ⟨rfl, rfl⟩
end Go.Proofs.YgcoacGreat
