/-
  The sticky bit in soft's operations, plainly: jam, the product, the quotient.
-/
import Derived.Test.YgcoacGreatSfG
namespace Go.Proofs.YgcoacGreat
open Go.RowKit
set_option linter.unusedSimpArgs false
set_option linter.unusedVariables false

/-- x * 2^q against y * 2^p, where q = p + j. -/
theorem sc_lt {x y j : Nat} {p q : Int} (hq : q = p + j) : (shN x q * shD 1 p < shN y p * shD 1 q ↔ x * 2 ^ j < y) ∧ (shN y p * shD 1 q < shN x q * shD 1 p ↔ y < x * 2 ^ j) := by
  have e := sc_eq (a := x * 2 ^ j) (b := x) (j := j) (p := p) (q := q) rfl hq
  rw [← e]
  have h1 : 0 < 2 ^ p.toNat * shD 1 q := Nat.mul_pos (two_pos _) (sh1_pos q)
  have f : ∀ t : Nat, shN t p * shD 1 q = t * (2 ^ p.toNat * shD 1 q) := fun t => by unfold shN; rw [Nat.mul_assoc]
  rw [f, f]
  exact ⟨Nat.mul_lt_mul_right h1, Nat.mul_lt_mul_right h1⟩
def stk (hi : Nat) (ex : Bool) : Nat := if ex then hi else hi / 2 * 2 + 1
/-- A number strictly between two neighbours, or the lower one itself. -/
theorem rnd_stk {e m N D hi : Nat} {P : Int} (h : Fm e m) (mode : Int) (neg : Bool) (hN : 0 < N) (hD : 0 < D) (ex : Bool) (hbig : 2 ^ (m + 2) ≤ hi)
    (h1 : ex = true → N * shD 1 P = shN hi P * D)
    (h2 : ex = false → shN hi P * D < N * shD 1 P ∧ N * shD 1 P < shN (hi + 1) P * D) :
    rndV e m mode neg N D = rndV e m mode neg (shN (stk hi ex) P) (shD 1 P) ∧ rndF e m mode neg N D = rndF e m mode neg (shN (stk hi ex) P) (shD 1 P) := by
  cases ex with
  | true =>
    exact rnd_cross h mode neg hN hD (sh1_pos P) (h1 rfl)
  | false =>
    obtain ⟨a1, a2⟩ := h2 rfl
    have hs : stk hi false = hi / 2 * 2 + 1 := rfl
    rw [hs]
    have mono : ∀ x y : Nat, x ≤ y → shN x P * D ≤ shN y P * D := fun x y hxy => Nat.mul_le_mul_right _ (Nat.mul_le_mul_right _ hxy)
    have hb2 : 2 ^ (m + 2) % 2 = 0 := by rw [Nat.pow_succ]; omega
    refine rnd_near h mode neg hN hD (by omega) (by omega) ⟨?_, ?_⟩
    · exact Nat.lt_of_le_of_lt (mono _ _ (by omega)) a1
    · exact Nat.lt_of_lt_of_le a2 (mono _ _ (by omega))
theorem jamS_stk (a : Nat) : jamS a = stk (tpA a / 18446744073709551616) (decide (tpA a % 18446744073709551616 = 0)) := by
  unfold jamS stk
  by_cases hc : tpA a % 18446744073709551616 = 0
  · rw [if_pos hc, decide_eq_true hc, if_pos rfl]
  · rw [if_neg hc, decide_eq_false hc, if_neg (by decide)]
theorem two_m2 {e m : Nat} (h : Fm e m) : 2 ^ (m + 2) ≤ 18014398509481984 := pow_le_of (show m + 2 ≤ 54 by have := h.m2; omega)
theorem tpA_ge {a : Nat} (h0 : 0 < a) (ha : a < 340282366920938463463374607431768211456) : 170141183460469231731687303715884105728 ≤ tpA a := by
  have hb : bits a ≤ 128 := bits_le_of_lt (show a < 2 ^ 128 from ha)
  have h3 := bits_pos' h0
  unfold tpA
  have e : (170141183460469231731687303715884105728 : Nat) = 2 ^ (bits a - 1) * 2 ^ (128 - bits a) := by rw [← Nat.pow_add, show bits a - 1 + (128 - bits a) = 127 by omega]
  rw [e]
  exact Nat.mul_le_mul_right _ (bits_le h0)
theorem rnd_jam {e m a : Nat} (h : Fm e m) (mode : Int) (neg : Bool) (h0 : 0 < a) (ha : a < 340282366920938463463374607431768211456) (p : Int) :
    rndV e m mode neg (shN a p) (shD 1 p) = rndV e m mode neg (shN (jamS a) (p + (bits a : Int) - 64)) (shD 1 (p + (bits a : Int) - 64)) ∧
    rndF e m mode neg (shN a p) (shD 1 p) = rndF e m mode neg (shN (jamS a) (p + (bits a : Int) - 64)) (shD 1 (p + (bits a : Int) - 64)) := by
  have hb : bits a ≤ 128 := bits_le_of_lt (show a < 2 ^ 128 from ha)
  obtain ⟨p0, hp0⟩ : ∃ p0 : Int, p = p0 + ((128 - bits a : Nat) : Int) := ⟨p - ((128 - bits a : Nat) : Int), by omega⟩
  have hP : p + (bits a : Int) - 64 = p0 + ((64 : Nat) : Int) := by omega
  rw [hP]
  have hN : 0 < shN a p := Nat.mul_pos h0 (two_pos _)
  have e1 := sc_eq (a := tpA a) (b := a) (j := 128 - bits a) (p := p0) (q := p) rfl hp0
  obtain ⟨r1, r2⟩ := rnd_cross h mode neg hN (sh1_pos p) (sh1_pos p0) e1.symm
  rw [r1, r2]
  have hA := tpA_lt ha
  have hA2 := tpA_ge h0 ha
  have hm := two_m2 h
  have hN2 : 0 < shN (tpA a) p0 := Nat.mul_pos (by omega) (two_pos _)
  rw [jamS_stk]
  generalize tpA a = A at *
  refine rnd_stk h mode neg hN2 (sh1_pos p0) _ (by omega) (fun hx => ?_) (fun hx => ?_)
  · have hx := of_decide_eq_true hx
    refine sc_eq (j := 64) ?_ rfl
    rw [show (2 : Nat) ^ 64 = 18446744073709551616 from rfl]
    omega
  · have hx := of_decide_eq_false hx
    rw [(sc_lt (j := 64) rfl).1, (sc_lt (j := 64) rfl).2, show (2 : Nat) ^ 64 = 18446744073709551616 from rfl]
    omega
/-! ### The product -/
theorem sh_mul (a b : Nat) (p q : Int) : shN a p * shN b q * shD 1 (p + q) = shN (a * b) (p + q) * (shD 1 p * shD 1 q) := by
  unfold shN shD
  have e : p.toNat + q.toNat + (-(p + q)).toNat = (p + q).toNat + ((-p).toNat + (-q).toNat) := by omega
  calc a * 2 ^ p.toNat * (b * 2 ^ q.toNat) * (1 * 2 ^ (-(p + q)).toNat) = a * b * (2 ^ p.toNat * 2 ^ q.toNat * 2 ^ (-(p + q)).toNat) := by rw [Nat.one_mul]; ac_rfl
    _ = a * b * 2 ^ (p.toNat + q.toNat + (-(p + q)).toNat) := by rw [← Nat.pow_add, ← Nat.pow_add]
    _ = a * b * 2 ^ ((p + q).toNat + ((-p).toNat + (-q).toNat)) := by rw [e]
    _ = a * b * 2 ^ (p + q).toNat * (1 * 2 ^ (-p).toNat * (1 * 2 ^ (-q).toNat)) := by rw [Nat.pow_add, Nat.pow_add, Nat.one_mul, Nat.one_mul]; ac_rfl
theorem rnd_mul {e m a b : Nat} (h : Fm e m) (mode : Int) (neg : Bool) (ha : 0 < a) (hb : 0 < b) (ha2 : a < 18446744073709551616) (hb2 : b < 18446744073709551616) (p q : Int) :
    rndV e m mode neg (shN a p * shN b q) (shD 1 p * shD 1 q) = rndV e m mode neg (shN (jamS (a * b)) (p + q + (bits (a * b) : Int) - 64)) (shD 1 (p + q + (bits (a * b) : Int) - 64)) ∧
    rndF e m mode neg (shN a p * shN b q) (shD 1 p * shD 1 q) = rndF e m mode neg (shN (jamS (a * b)) (p + q + (bits (a * b) : Int) - 64)) (shD 1 (p + q + (bits (a * b) : Int) - 64)) := by
  have hN : 0 < shN a p * shN b q := Nat.mul_pos (Nat.mul_pos ha (two_pos _)) (Nat.mul_pos hb (two_pos _))
  obtain ⟨r1, r2⟩ := rnd_cross h mode neg hN (Nat.mul_pos (sh1_pos p) (sh1_pos q)) (sh1_pos (p + q)) (sh_mul a b p q)
  rw [r1, r2]
  refine rnd_jam h mode neg (Nat.mul_pos ha hb) ?_ (p + q)
  have := Nat.mul_lt_mul'' ha2 hb2
  exact this
/-! ### The quotient -/
theorem sh_div {a b : Nat} {p q P : Int} {A B : Nat} {j k : Nat} (hA : A = a * 2 ^ j) (hB : B = b * 2 ^ k) (hP : P = p - j - (q - k) - 63) :
    shN a p * shD 1 q * shD 1 P * B = A * 9223372036854775808 * (2 ^ P.toNat * (shD 1 p * shN b q)) / 1 := by
  rw [Nat.div_one, hA, hB, show (9223372036854775808 : Nat) = 2 ^ 63 from rfl]
  unfold shN shD
  have e : p.toNat + (-q).toNat + (-P).toNat + k = j + 63 + (P.toNat + ((-p).toNat + q.toNat)) := by omega
  calc a * 2 ^ p.toNat * (1 * 2 ^ (-q).toNat) * (1 * 2 ^ (-P).toNat) * (b * 2 ^ k) = a * b * (2 ^ p.toNat * 2 ^ (-q).toNat * 2 ^ (-P).toNat * 2 ^ k) := by rw [Nat.one_mul, Nat.one_mul]; ac_rfl
    _ = a * b * 2 ^ (p.toNat + (-q).toNat + (-P).toNat + k) := by rw [← Nat.pow_add, ← Nat.pow_add, ← Nat.pow_add]
    _ = a * b * 2 ^ (j + 63 + (P.toNat + ((-p).toNat + q.toNat))) := by rw [e]
    _ = a * 2 ^ j * 2 ^ 63 * (2 ^ P.toNat * (1 * 2 ^ (-p).toNat * (b * 2 ^ q.toNat))) := by rw [Nat.pow_add, Nat.pow_add, Nat.pow_add, Nat.pow_add, Nat.one_mul]; ac_rfl
theorem rnd_div {e m a b : Nat} (h : Fm e m) (mode : Int) (neg : Bool) {A B j k : Nat} {p q P : Int} (hA : A = a * 2 ^ j) (hB : B = b * 2 ^ k) (hP : P = p - j - (q - k) - 63) (hA1 : 9223372036854775808 ≤ A) (hB1 : 0 < B) (hB2 : B < 18446744073709551616) :
    rndV e m mode neg (shN a p * shD 1 q) (shD 1 p * shN b q) = rndV e m mode neg (shN (stk (A * 9223372036854775808 / B) (decide (A * 9223372036854775808 % B = 0))) P) (shD 1 P) ∧
    rndF e m mode neg (shN a p * shD 1 q) (shD 1 p * shN b q) = rndF e m mode neg (shN (stk (A * 9223372036854775808 / B) (decide (A * 9223372036854775808 % B = 0))) P) (shD 1 P) := by
  have key := sh_div (A := A) (B := B) hA hB hP
  rw [Nat.div_one] at key
  have ha : 0 < a := by
    rcases Nat.eq_zero_or_pos a with h' | h'
    · rw [h', Nat.zero_mul] at hA; omega
    · exact h'
  have hb : 0 < b := by
    rcases Nat.eq_zero_or_pos b with h' | h'
    · rw [h', Nat.zero_mul] at hB; omega
    · exact h'
  have hN : 0 < shN a p * shD 1 q := Nat.mul_pos (Nat.mul_pos ha (two_pos _)) (sh1_pos q)
  have hD : 0 < shD 1 p * shN b q := Nat.mul_pos (sh1_pos p) (Nat.mul_pos hb (two_pos _))
  have hm := two_m2 h
  have hdm := Nat.div_add_mod (A * 9223372036854775808) B
  have hmod := Nat.mod_lt (A * 9223372036854775808) hB1
  have hbig : 2 ^ (m + 2) ≤ A * 9223372036854775808 / B := by
    rw [Nat.le_div_iff_mul_le hB1]
    refine Nat.le_trans (Nat.mul_le_mul hm (Nat.le_of_lt hB2)) (Nat.le_trans ?_ (Nat.mul_le_mul_right _ hA1))
    decide
  generalize A * 9223372036854775808 / B = Q at *
  generalize A * 9223372036854775808 % B = R at *
  generalize shN a p * shD 1 q = N at *
  generalize shD 1 p * shN b q = D at *
  have hK : 0 < 2 ^ P.toNat * D := Nat.mul_pos (two_pos _) hD
  have hshQ : ∀ t : Nat, shN t P * D * B = B * t * (2 ^ P.toNat * D) := fun t => by unfold shN; ac_rfl
  refine rnd_stk h mode neg hN hD _ hbig (fun hx => ?_) (fun hx => ?_)
  · have hx := of_decide_eq_true hx
    refine Nat.eq_of_mul_eq_mul_right hB1 ?_
    rw [hshQ, key]
    exact congrArg (fun t => t * (2 ^ P.toNat * D)) (show A * 9223372036854775808 = B * Q by omega)
  · have hx := of_decide_eq_false hx
    constructor
    · refine Nat.lt_of_mul_lt_mul_right (a := B) ?_
      rw [key, hshQ]
      refine Nat.mul_lt_mul_of_pos_right ?_ hK
      omega
    · refine Nat.lt_of_mul_lt_mul_right (a := B) ?_
      rw [key, hshQ, Nat.mul_add, Nat.mul_one]
      refine Nat.mul_lt_mul_of_pos_right ?_ hK
      omega
end Go.Proofs.YgcoacGreat
