/-
  roundPack, plainly: the rounding of sig * 2^p by its 64 leading bits.
-/
import Derived.Test.YgcoacGreatSfA
import Derived.Test.YgcoacGreatStA
namespace Go.Proofs.YgcoacGreat
open Go.RowKit
set_option linter.unusedSimpArgs false
set_option linter.unusedVariables false

theorem lt_two_iff {s j : Nat} : s < 2 ^ j ↔ bits s ≤ j :=
  ⟨bits_le_of_lt, fun h => Nat.lt_of_lt_of_le (bits_lt s) (pow_le_of h)⟩
theorem shN_self (s : Nat) (p : Int) : shN (shN s p) (-p) = s * (2 ^ p.toNat * 2 ^ (-p).toNat) := by unfold shN; rw [Nat.mul_assoc]
theorem shD_self (p : Int) : shD (shD 1 p) (-p) = 2 ^ p.toNat * 2 ^ (-p).toNat := by unfold shD; rw [Int.neg_neg, Nat.one_mul, Nat.mul_comm]
theorem lt2_exact {s : Nat} (hs : 0 < s) (p t : Int) : Lt2 (shN s p) (shD 1 p) t ↔ p + (bits s : Int) ≤ t := by
  have hb := bits_pos' hs
  have hP : 0 < 2 ^ p.toNat * 2 ^ (-p).toNat := Nat.mul_pos (two_pos _) (two_pos _)
  have key : ∀ t : Int, ∀ j : Nat, (j : Int) = t - p → (Lt2 (shN s p) (shD 1 p) t ↔ bits s ≤ j) := by
    intro t j hj
    rw [lt2_scale_iff (k := -p) (j := j) (by omega), shN_self, shD_self, Nat.mul_comm (2 ^ p.toNat * 2 ^ (-p).toNat) (2 ^ j), Nat.mul_lt_mul_right hP, lt_two_iff]
  rcases Int.lt_or_le t p with h | h
  · refine ⟨fun h1 => ?_, fun h1 => by omega⟩
    have h2 := (key p 0 (by omega)).1 (lt2_mono h1 (by omega))
    omega
  · rw [key t (t - p).toNat (by omega)]
    omega
/-- The same fraction: floor and rest are the same. -/
theorem raised_ratio {a b a' b' : Nat} (mode : Int) (neg : Bool) (hb : 0 < b) (hb' : 0 < b') (hx : a * b' = a' * b) : raisedN mode neg a b = raisedN mode neg a' b' ∧ someQ a b = someQ a' b' := by
  have scale : ∀ a b c : Nat, 0 < c → raisedN mode neg (a * c) (b * c) = raisedN mode neg a b ∧ someQ (a * c) (b * c) = someQ a b := by
    intro a b c hc
    have e1 : a * c / (b * c) = a / b := Nat.mul_div_mul_right _ _ hc
    have e2 : a * c % (b * c) = a % b * c := Nat.mul_mod_mul_right _ _ _
    have e3 : someQ (a * c) (b * c) = someQ a b := by
      unfold someQ
      rw [e2, decide_eq_decide]
      constructor
      · intro h1 h2; exact h1 (by rw [h2, Nat.zero_mul])
      · intro h1 h2
        rcases Nat.mul_eq_zero.1 h2 with h3 | h3
        · exact h1 h3
        · omega
    have e4 : halfQ (a * c) (b * c) = halfQ a b := by
      unfold halfQ cmpI
      rw [e2, Nat.mul_right_comm]
      have f1 : a % b * 2 * c < b * c ↔ a % b * 2 < b := Nat.mul_lt_mul_right hc
      have f2 : a % b * 2 * c = b * c ↔ a % b * 2 = b := ⟨fun h => Nat.eq_of_mul_eq_mul_right hc h, fun h => by rw [h]⟩
      simp only [f1, f2]
    refine ⟨?_, e3⟩
    unfold raisedN
    rw [e1, e3, e4]
  obtain ⟨a1, a2⟩ := scale a b b' hb'
  obtain ⟨b1, b2⟩ := scale a' b' b hb
  rw [← a1, ← a2, ← b1, ← b2, hx, Nat.mul_comm b]
  exact ⟨rfl, rfl⟩
/-- S >> k, raised. -/
def upS (mode : Int) (neg : Bool) (S k : Nat) : Nat := if raisesS mode neg (S / 2 ^ k) (restC S k) then S / 2 ^ k + 1 else S / 2 ^ k
theorem cmpI_scaleR {a b c : Nat} (hc : 0 < c) : cmpI (a * c) (b * c) = cmpI a b := by
  unfold cmpI
  have f1 : a * c < b * c ↔ a < b := Nat.mul_lt_mul_right hc
  have f2 : a * c = b * c ↔ a = b := ⟨fun h => Nat.eq_of_mul_eq_mul_right hc h, fun h => by rw [h]⟩
  simp only [f1, f2]
theorem up_eq (mode : Int) (neg : Bool) {S : Nat} (hS : S < 18446744073709551616) (k : Nat) : raisedN mode neg S (2 ^ k) = upS mode neg S k ∧ someQ S (2 ^ k) = decide (restC S k ≠ 0) := by
  have hh : halfQ S (2 ^ k) = cmpI (restC S k) 9223372036854775808 := by
    unfold halfQ restC
    rcases Nat.eq_zero_or_pos k with h0 | h0
    · subst h0; rw [if_pos rfl, Nat.pow_zero, Nat.mod_one]; rfl
    rw [if_neg (by omega)]
    by_cases h1 : k ≤ 64
    · rw [if_pos h1, show (9223372036854775808 : Nat) = 2 ^ (k - 1) * 2 ^ (64 - k) by rw [← Nat.pow_add, show k - 1 + (64 - k) = 63 by omega], cmpI_scaleR (two_pos _), show 2 ^ k = 2 ^ (k - 1) * 2 by rw [← Nat.pow_succ, show (k - 1).succ = k by omega], cmpI_scaleR (by decide)]
    · rw [if_neg h1]
      have h2 : 18446744073709551616 * 2 ≤ 2 ^ k := pow_le_of (show 65 ≤ k by omega)
      rw [Nat.mod_eq_of_lt (by omega)]
      have h3 : cmpI (S * 2) (2 ^ k) = -1 := by unfold cmpI; rw [if_pos (by omega)]
      rw [h3]
      unfold cmpI
      split <;> rw [if_pos (by decide)]
  have hsm : someQ S (2 ^ k) = decide (restC S k ≠ 0) := by
    unfold someQ restC
    rw [decide_eq_decide]
    rcases Nat.eq_zero_or_pos k with h0 | h0
    · subst h0; rw [if_pos rfl, Nat.pow_zero, Nat.mod_one]
    rw [if_neg (by omega)]
    by_cases h1 : k ≤ 64
    · rw [if_pos h1]
      have := two_pos (64 - k)
      rw [Ne, Ne, Nat.mul_eq_zero]
      constructor
      · intro h2 h3; rcases h3 with h3 | h3
        · exact h2 h3
        · omega
      · intro h2 h3; exact h2 (.inl h3)
    · rw [if_neg h1]
      have h2 : 18446744073709551616 ≤ 2 ^ k := pow_le_of (show 64 ≤ k by omega)
      rw [Nat.mod_eq_of_lt (by omega)]
      split <;> omega
  refine ⟨?_, hsm⟩
  unfold raisedN upS raisesS
  rw [hh, hsm]

/-- sig moved up to the top. -/
def topS (s : Nat) : Nat := s * 2 ^ (64 - bits s)
def realS (s : Nat) (p : Int) : Int := p + (bits s : Int) - 1
def exS' (e s : Nat) (p : Int) : Int := max (realS s p) (eminI e)
def dropS (e m s : Nat) (p : Int) : Nat := (63 - (m : Int) + exS' e s p - realS s p).toNat
def tinyS' (e m : Nat) (mode : Int) (neg : Bool) (s : Nat) (p : Int) : Bool :=
  if realS s p = eminI e - 1 then (!raisesS mode neg (topS s / 2 ^ (63 - m)) (restC (topS s) (63 - m)) || decide (topS s / 2 ^ (63 - m) ≠ 2 ^ (m + 1) - 1)) else decide (realS s p < eminI e)
theorem topS_bd {s : Nat} (h0 : 0 < s) (hs : s < 18446744073709551616) : 9223372036854775808 ≤ topS s ∧ topS s < 18446744073709551616 :=
  ⟨(bits_norm h0 hs).1, (bits_norm h0 hs).2.1⟩
theorem top_ratio {s : Nat} (h0 : 0 < s) (hs : s < 18446744073709551616) {p q : Int} {k : Nat} (hk : (k : Int) = 63 - q - realS s p) : shN (shN s p) q * 2 ^ k = topS s * shD (shD 1 p) q := by
  have hb : bits s ≤ 64 := bits_le_of_lt (show s < 2 ^ 64 from hs)
  have hb1 := bits_pos' h0
  unfold realS at hk
  unfold topS shN shD
  rw [Nat.one_mul, Nat.mul_assoc, Nat.mul_assoc, ← Nat.pow_add, ← Nat.pow_add, Nat.mul_assoc, ← Nat.pow_add, ← Nat.pow_add]
  have : p.toNat + (q.toNat + k) = 64 - bits s + ((-p).toNat + (-q).toNat) := by omega
  rw [this]
theorem real_real {e m s : Nat} (h : Fm e m) (h0 : 0 < s) (p : Int) (t : Int) (h1 : eminI e - 1 ≤ t) (h2 : t ≤ (bias e : Int) + 1) : t ≤ realQ e (shN s p) (shD 1 p) ↔ t ≤ realS s p := by
  have hb := bias_bd h
  have hN : 0 < shN s p := Nat.mul_pos h0 (two_pos _)
  unfold realQ
  rw [real_iff hN (sh1_pos p) h1 h2 (by unfold eminI; omega), lt2_exact h0]
  unfold realS
  omega
theorem rp_over {e m s : Nat} (h : Fm e m) (mode : Int) (neg : Bool) (h0 : 0 < s) (p : Int) (hr : (bias e : Int) < exS' e s p) : rndV e m mode neg (shN s p) (shD 1 p) = overV e m mode neg ∧ rndF e m mode neg (shN s p) (shD 1 p) = 20 := by
  have hb := bias_bd h
  have hN : 0 < shN s p := Nat.mul_pos h0 (two_pos _)
  have h1 := (real_real h h0 p ((bias e : Int) + 1) (by unfold eminI; omega) (Int.le_refl _)).2 (by unfold exS' eminI at hr; omega)
  have hx : (bias e : Int) < expQ e (shN s p) (shD 1 p) := by unfold expQ; omega
  have hz : ¬ shN s p = 0 := by omega
  unfold rndV rndF
  simp only [if_neg hz, if_pos hx]
  exact ⟨trivial, trivial⟩
theorem upS_le {S m : Nat} (mode : Int) (neg : Bool) (hS : S < 18446744073709551616) {k : Nat} (hk : 63 - m ≤ k) (hm : m ≤ 63) : upS mode neg S k ≤ 2 ^ (m + 1) := by
  have : S / 2 ^ k < 2 ^ (m + 1) := by
    rw [Nat.div_lt_iff_lt_mul (two_pos _), ← Nat.pow_add]
    exact Nat.lt_of_lt_of_le hS (pow_le_of (show 64 ≤ m + 1 + k by omega))
  unfold upS
  split <;> omega
theorem rp_main {e m s : Nat} (h : Fm e m) (mode : Int) (neg : Bool) (h0 : 0 < s) (hs : s < 18446744073709551616) (p : Int) (hr : ¬ (bias e : Int) < exS' e s p) :
    rndV e m mode neg (shN s p) (shD 1 p) = packV e m mode neg (exS' e s p) (upS mode neg (topS s) (dropS e m s p)) ∧
    rndF e m mode neg (shN s p) (shD 1 p) = packF e m (exS' e s p) (upS mode neg (topS s) (dropS e m s p)) (decide (restC (topS s) (dropS e m s p) ≠ 0)) (tinyS' e m mode neg s p) := by
  have hb := bias_bd h
  have hN : 0 < shN s p := Nat.mul_pos h0 (two_pos _)
  have hD := sh1_pos p
  have hm2 : m ≤ 52 := by have := h.m2; omega
  obtain ⟨hS1, hS2⟩ := topS_bd h0 hs
  have hrl : realS s p ≤ bias e := by unfold exS' at hr; omega
  have hclose : (eminI e - 1 ≤ realS s p → realQ e (shN s p) (shD 1 p) = realS s p) ∧ (realS s p < eminI e - 1 → realQ e (shN s p) (shD 1 p) < eminI e - 1) := by
    have hbd := realQ_bd e (shN s p) (shD 1 p) h
    constructor
    · intro hlo
      have a1 := (real_real h h0 p (realS s p) hlo (by omega)).2 (Int.le_refl _)
      have a2 := mt (real_real h h0 p (realS s p + 1) (by omega) (by omega)).1 (by omega)
      omega
    · intro hlo
      have a2 := mt (real_real h h0 p (eminI e - 1) (by omega) (by unfold eminI; omega)).1 (by omega)
      omega
  have hex : expQ e (shN s p) (shD 1 p) = exS' e s p := by
    unfold expQ exS'
    rcases Int.lt_or_le (realS s p) (eminI e - 1) with hlo | hlo
    · have := hclose.2 hlo; omega
    · rw [hclose.1 hlo]
  have hk : (dropS e m s p : Int) = 63 - ((m : Int) - exS' e s p) - realS s p := by
    unfold dropS
    have : realS s p ≤ exS' e s p := by unfold exS'; omega
    omega
  have hdl : 63 - m ≤ dropS e m s p := by
    have : realS s p ≤ exS' e s p := by unfold exS'; omega
    omega
  obtain ⟨r1, r2⟩ := raised_ratio mode neg (shD_pos hD ((m : Int) - exS' e s p)) (two_pos _) (top_ratio h0 hs hk)
  obtain ⟨u1, u2⟩ := up_eq mode neg hS2 (dropS e m s p)
  have hman : manQ e m mode neg (shN s p) (shD 1 p) = upS mode neg (topS s) (dropS e m s p) := by
    unfold manQ
    rw [hex, r1, u1]
    refine Nat.mod_eq_of_lt (Nat.lt_of_le_of_lt (upS_le mode neg hS2 hdl (by omega)) ?_)
    exact Nat.lt_of_le_of_lt (pow_le_of (show m + 1 ≤ 53 by omega)) (by decide)
  have hsm : smQ e m (shN s p) (shD 1 p) = decide (restC (topS s) (dropS e m s p) ≠ 0) := by
    unfold smQ
    rw [hex, r2, u2]
  have htiny : tinyQ e m mode neg (shN s p) (shD 1 p) = tinyS' e m mode neg s p := by
    unfold tinyQ tinyS'
    by_cases hc : realS s p = eminI e - 1
    · have hq := hclose.1 (by omega)
      rw [hq, if_pos hc, if_pos hc]
      unfold fullQ
      rw [hq]
      obtain ⟨v1, v2⟩ := raised_ratio mode neg (shD_pos hD ((m : Int) - realS s p)) (two_pos _) (top_ratio h0 hs (q := (m : Int) - realS s p) (k := 63 - m) (by omega))
      obtain ⟨w1, w2⟩ := up_eq mode neg hS2 (63 - m)
      rw [v1, w1]
      unfold upS
      have hlo : 2 ^ m ≤ topS s / 2 ^ (63 - m) := by
        rw [Nat.le_div_iff_mul_le (two_pos _), ← Nat.pow_add, show m + (63 - m) = 63 by omega]
        exact hS1
      have hhi : topS s / 2 ^ (63 - m) < 2 ^ (m + 1) := by
        rw [Nat.div_lt_iff_lt_mul (two_pos _), ← Nat.pow_add, show m + 1 + (63 - m) = 64 by omega]
        exact hS2
      generalize topS s / 2 ^ (63 - m) = n at *
      have hbn : ∀ x, 2 ^ m ≤ x → ((bits x : Int) = (m : Int) + 1 ↔ x < 2 ^ (m + 1)) := by
        intro x hx
        rw [lt_two_iff]
        have := mt (lt_two_iff (s := x) (j := m)).2 (by omega)
        omega
      cases raisesS mode neg n (restC (topS s) (63 - m)) with
      | false =>
        rw [if_neg (by decide), Bool.not_false, Bool.true_or]
        exact decide_eq_true ((hbn n hlo).2 hhi)
      | true =>
        rw [if_pos rfl, Bool.not_true, Bool.false_or, decide_eq_decide, hbn (n + 1) (by omega)]
        omega
    · rw [if_neg hc, if_neg (fun hh => hc ?_)]
      · rw [decide_eq_decide]
        rcases Int.lt_or_le (realS s p) (eminI e - 1) with hlo | hlo
        · have := hclose.2 hlo; omega
        · rw [hclose.1 hlo]
      · rcases Int.lt_or_le (realS s p) (eminI e - 1) with hlo | hlo
        · have := hclose.2 hlo; omega
        · rw [← hclose.1 hlo]; exact hh
  unfold rndV rndF
  have hz : ¬ shN s p = 0 := by omega
  rw [hex]
  simp only [if_neg hz, if_neg hr, hman, hsm, htiny]
  exact ⟨trivial, trivial⟩
end Go.Proofs.YgcoacGreat
