/-
  The sum, plainly: the lesser operand cut off with a sticky bit.
-/
import Derived.Test.YgcoacGreatSfI
namespace Go.Proofs.YgcoacGreat
open Go.RowKit
set_option linter.unusedSimpArgs false
set_option linter.unusedVariables false

/-- A number's 128 bits: bit 126 leads, the lowest 74 are zero. -/
structure Nb (A : Nat) : Prop where
  lo : 85070591730234615865843651857942052864 ≤ A
  hi : A < 170141183460469231731687303715884105728
  dv : A % 18889465931478580854784 = 0
theorem jamN_facts {A B d : Nat} (hA : Nb A) (hB : Nb B) (hAB : d = 0 → B ≤ A) :
    jamN B (min d 255) ≤ A ∧ ((B = jamN B (min d 255) * 2 ^ d) ∨
      ((jamN B (min d 255) - 1) * 2 ^ d < B ∧ B < (jamN B (min d 255) + 1) * 2 ^ d ∧ jamN B (min d 255) % 2 = 1 ∧ jamN B (min d 255) ≤ 9007199254740992 ∧ 0 < d)) := by
  have h1 := hA.lo; have h2 := hB.lo; have h3 := hB.hi; have h4 := hB.dv
  by_cases hd : d ≤ 255
  · rw [Nat.min_eq_left hd]
    unfold jamN
    have hp := two_pos d
    have e := Nat.div_add_mod B (2 ^ d)
    rw [Nat.mul_comm] at e
    have hm := Nat.mod_lt B hp
    by_cases hz : B % 2 ^ d = 0
    · rw [if_pos hz]
      refine ⟨?_, .inl (by omega)⟩
      rcases Nat.eq_zero_or_pos d with h0 | h0
      · subst h0; rw [Nat.pow_zero, Nat.div_one]; exact hAB rfl
      · have : B / 2 ^ d ≤ B / 2 ^ 1 := Nat.div_le_div_left (pow_le_of h0) (by decide)
        rw [Nat.pow_one] at this
        omega
    · rw [if_neg hz]
      have hg : 75 ≤ d := by
        rcases Nat.lt_or_ge d 75 with h' | h'
        · exfalso
          have : (18889465931478580854784 : Nat) = 2 ^ d * 2 ^ (74 - d) := by rw [← Nat.pow_add, show d + (74 - d) = 74 by omega]
          have h5 := Nat.mod_mod_of_dvd B ⟨2 ^ (74 - d), this⟩
          rw [h4] at h5
          rw [Nat.zero_mod] at h5
          omega
        · exact h'
      have hle : B / 2 ^ d < 2 ^ 52 := by
        rw [Nat.div_lt_iff_lt_mul hp, ← Nat.pow_add]
        exact Nat.lt_of_lt_of_le h3 (pow_le_of (show 127 ≤ 52 + d by omega))
      rw [show (2 : Nat) ^ 52 = 4503599627370496 from rfl] at hle
      generalize B / 2 ^ d = q at *
      refine ⟨by omega, .inr ⟨?_, ?_, by omega, by omega, by omega⟩⟩
      · have : (q / 2 * 2 + 1 - 1) * 2 ^ d ≤ q * 2 ^ d := Nat.mul_le_mul_right _ (by omega)
        omega
      · have : (q + 1) * 2 ^ d ≤ (q / 2 * 2 + 1 + 1) * 2 ^ d := Nat.mul_le_mul_right _ (by omega)
        rw [Nat.add_mul q] at this
        omega
  · rw [Nat.min_eq_right (by omega)]
    have h5 : 2 ^ 128 ≤ 2 ^ 255 := pow_le_of (by decide)
    have h6 : 2 ^ 128 ≤ 2 ^ d := pow_le_of (by omega)
    rw [show (2 : Nat) ^ 128 = 340282366920938463463374607431768211456 from rfl] at h5 h6
    have hj : jamN B 255 = 1 := by
      unfold jamN
      generalize 2 ^ 255 = G at *
      rw [Nat.mod_eq_of_lt (show B < G by omega), if_neg (by omega), Nat.div_eq_of_lt (show B < G by omega)]
    rw [hj]
    generalize 2 ^ d = G at *
    refine ⟨by omega, .inr ⟨by omega, by omega, by decide, by decide, by omega⟩⟩
/-- The sum's 128 bits. -/
def sumS (same : Bool) (A B d : Nat) : Nat := if same then A + jamN B (min d 255) else A - jamN B (min d 255)
/-- The whole sum, in units of the lesser's exponent. -/
def sumT (same : Bool) (A B d : Nat) : Nat := if same then A * 2 ^ d + B else A * 2 ^ d - B
theorem sum_facts {A B d : Nat} (same : Bool) (hA : Nb A) (hB : Nb B) (hAB : d = 0 → B ≤ A) :
    (sumT same A B d = sumS same A B d * 2 ^ d) ∨
      ((sumS same A B d - 1) * 2 ^ d < sumT same A B d ∧ sumT same A B d < (sumS same A B d + 1) * 2 ^ d ∧ sumS same A B d % 2 = 1 ∧ 18014398509481984 ≤ sumS same A B d) := by
  obtain ⟨j1, j2⟩ := jamN_facts hA hB hAB
  have h1 := hA.lo; have h2 := hA.dv
  unfold sumS sumT
  generalize jamN B (min d 255) = J at *
  rcases j2 with j2 | ⟨k1, k2, k3, k4, k5⟩
  · left
    cases same
    · rw [if_neg (by decide), if_neg (by decide), Nat.sub_mul, ← j2]
    · rw [if_pos rfl, if_pos rfl, Nat.add_mul, ← j2]
  · right
    have hev : A % 2 = 0 := by omega
    cases same
    · rw [if_neg (by decide), if_neg (by decide)]
      refine ⟨?_, ?_, by omega, by omega⟩
      · rw [show A - J - 1 = A - (J + 1) by omega, Nat.sub_mul]
        have := Nat.mul_le_mul_right (2 ^ d) (show J + 1 ≤ A by omega)
        omega
      · rw [show A - J + 1 = A - (J - 1) by omega, Nat.sub_mul]
        have := Nat.mul_le_mul_right (2 ^ d) (show J - 1 ≤ A by omega)
        have := Nat.mul_le_mul_right (2 ^ d) (show J ≤ A by omega)
        have : B ≤ A * 2 ^ d := by
          have := Nat.mul_le_mul_right (2 ^ d) (show J + 1 ≤ A by omega)
          omega
        omega
    · rw [if_pos rfl, if_pos rfl]
      refine ⟨?_, ?_, by omega, by omega⟩
      · rw [show A + J - 1 = A + (J - 1) by omega, Nat.add_mul]
        omega
      · rw [Nat.add_assoc, Nat.add_mul]
        omega
theorem sum_rnd {e m A B d : Nat} (h : Fm e m) (mode : Int) (neg same : Bool) (hA : Nb A) (hB : Nb B) (hAB : d = 0 → B ≤ A) (hS : sumS same A B d ≠ 0) (p : Int) :
    rndV e m mode neg (shN (sumT same A B d) p) (shD 1 p) = rndV e m mode neg (shN (sumS same A B d) (p + d)) (shD 1 (p + d)) ∧
    rndF e m mode neg (shN (sumT same A B d) p) (shD 1 p) = rndF e m mode neg (shN (sumS same A B d) (p + d)) (shD 1 (p + d)) := by
  have hT : 0 < sumT same A B d := by
    rcases sum_facts same hA hB hAB with h1 | ⟨h1, _⟩
    · rw [h1]; exact Nat.mul_pos (by omega) (two_pos _)
    · omega
  have hN : 0 < shN (sumT same A B d) p := Nat.mul_pos hT (two_pos _)
  rcases sum_facts same hA hB hAB with h1 | ⟨h1, h2, h3, h4⟩
  · exact rnd_cross h mode neg hN (sh1_pos p) (sh1_pos _) (sc_eq h1 rfl)
  · refine rnd_near h mode neg hN (sh1_pos p) h3 (Nat.le_trans (two_m2 h) h4) ⟨?_, ?_⟩
    · rw [(sc_lt (j := d) rfl).1]; exact h1
    · rw [(sc_lt (j := d) rfl).2]; exact h2
theorem sum_zero {A B d : Nat} (same : Bool) (hA : Nb A) (hB : Nb B) (hAB : d = 0 → B ≤ A) (hS : sumS same A B d = 0) : sumT same A B d = 0 ∧ same = false := by
  rcases sum_facts same hA hB hAB with h1 | ⟨_, _, h3, _⟩
  · rw [hS, Nat.zero_mul] at h1
    refine ⟨h1, ?_⟩
    cases same with
    | false => rfl
    | true =>
      unfold sumT at h1
      rw [if_pos rfl] at h1
      have := hB.lo
      omega
  · omega
theorem sumS_lt {A B d : Nat} (same : Bool) (hA : Nb A) (hB : Nb B) (hAB : d = 0 → B ≤ A) : sumS same A B d < 340282366920938463463374607431768211456 := by
  obtain ⟨j1, _⟩ := jamN_facts hA hB hAB
  have := hA.hi
  unfold sumS
  split <;> omega

/-! ### The operation -/
def sumO (e m : Nat) (mode : Int) (na : Bool) (xa : Int) (A : Nat) (nb : Bool) (B d : Nat) : Nat × Int :=
  if sumS (na == nb) A B d = 0 then (sg e m (mode == 4), 0)
  else (rndV e m mode na (shN (sumS (na == nb) A B d) xa) (shD 1 xa), rndF e m mode na (shN (sumS (na == nb) A B d) xa) (shD 1 xa))
def sumP (e m : Nat) (mode : Int) (na : Bool) (xa : Int) (A : Nat) (nb : Bool) (xb : Int) (B : Nat) : Nat × Int :=
  if xa < xb ∨ (xa = xb ∧ A < B) then sumO e m mode nb xb B na A (xb - xa).toNat else sumO e m mode na xa A nb B (xa - xb).toNat
/-- The exact sum, by fractions. -/
def addR (e m : Nat) (mode : Int) (na : Bool) (Na Da : Nat) (nb : Bool) (Nb Db : Nat) : Nat × Int :=
  if sNum na Na Da nb Nb Db = 0 then (sg e m (if na = nb then na else (mode == 4)), 0)
  else (rndV e m mode (sNeg na Na Da nb Nb Db) (sNum na Na Da nb Nb Db) (Da * Db), rndF e m mode (sNeg na Na Da nb Nb Db) (sNum na Na Da nb Nb Db) (Da * Db))
/-- The greater operand first. -/
theorem add_great {e m : Nat} (h : Fm e m) (mode : Int) (na nb : Bool) {A B d : Nat} (hA : Nb A) (hB : Nb B) (hAB : d = 0 → B ≤ A) {Na Da Nb' Db : Nat} {p : Int} (hDa : 0 < Da) (hDb : 0 < Db)
    (ha : Na * shD 1 p = shN (A * 2 ^ d) p * Da) (hb : Nb' * shD 1 p = shN B p * Db) :
    addR e m mode na Na Da nb Nb' Db = sumO e m mode na (p + d) A nb B d ∧ addR e m mode nb Nb' Db na Na Da = sumO e m mode na (p + d) A nb B d := by
  have hs := sh1_pos p
  have hst : ∀ v, shN v p = v * 2 ^ p.toNat := fun v => rfl
  have ht := two_pos p.toNat
  have hD : 0 < Da * Db := Nat.mul_pos hDa hDb
  have hge : B ≤ A * 2 ^ d := by
    rcases Nat.eq_zero_or_pos d with h0 | h0
    · subst h0; rw [Nat.pow_zero, Nat.mul_one]; exact hAB rfl
    · have h1 := Nat.mul_le_mul_left A (show 2 ^ 1 ≤ 2 ^ d from pow_le_of h0)
      have := hA.lo; have := hB.hi
      omega
  have e1 : Na * Db * shD 1 p = A * 2 ^ d * (2 ^ p.toNat * (Da * Db)) := by
    rw [Nat.mul_right_comm, ha, hst]; ac_rfl
  have e2 : Nb' * Da * shD 1 p = B * (2 ^ p.toNat * (Da * Db)) := by
    rw [Nat.mul_right_comm, hb, hst]; ac_rfl
  have hle : Nb' * Da ≤ Na * Db := by
    refine Nat.le_of_mul_le_mul_right ?_ hs
    rw [e1, e2]
    exact Nat.mul_le_mul_right _ hge
  have hK : 0 < 2 ^ p.toNat * (Da * Db) := Nat.mul_pos ht hD
  -- what both orders come to
  have core : ∀ X : Nat, ∀ ng : Bool, X * shD 1 p = sumT (na == nb) A B d * (2 ^ p.toNat * (Da * Db)) → (X ≠ 0 → ng = na) →
      (if X = 0 then ((sg e m (if na = nb then na else (mode == 4)), 0) : Nat × Int) else (rndV e m mode ng X (Da * Db), rndF e m mode ng X (Da * Db))) = sumO e m mode na (p + d) A nb B d := by
    intro X ng hX hng
    have hX0 : X = 0 ↔ sumS (na == nb) A B d = 0 := by
      constructor
      · intro h0
        rw [h0, Nat.zero_mul] at hX
        have hT : sumT (na == nb) A B d = 0 := by
          rcases Nat.mul_eq_zero.1 hX.symm with h1 | h1
          · exact h1
          · omega
        rcases sum_facts (na == nb) hA hB hAB with h1 | ⟨h1, _⟩
        · rw [hT] at h1
          rcases Nat.mul_eq_zero.1 h1.symm with h2 | h2
          · exact h2
          · have := two_pos d; omega
        · omega
      · intro h0
        rw [(sum_zero _ hA hB hAB h0).1, Nat.zero_mul] at hX
        rcases Nat.mul_eq_zero.1 hX with h1 | h1
        · exact h1
        · omega
    unfold sumO
    by_cases h0 : X = 0
    · have hS := hX0.1 h0
      rw [if_pos h0, if_pos hS]
      have hsm := (sum_zero _ hA hB hAB hS).2
      have : ¬ na = nb := fun hh => by rw [hh, beq_self_eq_true] at hsm; exact Bool.noConfusion hsm
      rw [if_neg this]
    · have hS : ¬ sumS (na == nb) A B d = 0 := fun hh => h0 (hX0.2 hh)
      rw [if_neg h0, if_neg hS, hng h0]
      obtain ⟨r1, r2⟩ := rnd_cross h mode na (show 0 < X by omega) hD hs (show X * shD 1 p = shN (sumT (na == nb) A B d) p * (Da * Db) by rw [hX, hst]; ac_rfl)
      obtain ⟨q1, q2⟩ := sum_rnd h mode na (na == nb) hA hB hAB hS p
      rw [r1, r2, q1, q2]
  constructor
  · unfold addR
    refine core _ _ ?_ ?_
    · unfold sNum sumT
      by_cases hn : na = nb
      · rw [if_pos hn, if_pos (by rw [hn]; exact beq_self_eq_true nb), Nat.add_mul, Nat.add_mul, e1, e2]
      · rw [if_neg hn, if_pos hle, if_neg (by rw [beq_iff_eq]; exact hn), Nat.sub_mul, Nat.sub_mul, e1, e2]
    · intro _
      unfold sNeg
      by_cases hn : na = nb
      · rw [if_pos hn]
      · rw [if_neg hn, if_pos hle]
  · unfold addR
    rw [Nat.mul_comm Db Da]
    have hsg : (if nb = na then nb else (mode == 4)) = (if na = nb then na else (mode == 4)) := by
      by_cases hn : na = nb
      · rw [if_pos hn, if_pos hn.symm, hn]
      · rw [if_neg hn, if_neg (fun hh => hn hh.symm)]
    rw [hsg]
    refine core _ _ ?_ ?_
    · unfold sNum sumT
      by_cases hn : na = nb
      · rw [if_pos hn.symm, if_pos (by rw [hn]; exact beq_self_eq_true nb), Nat.add_mul, Nat.add_mul, e1, e2, Nat.add_comm]
      · have hnb : ¬ (na == nb) = true := by rw [beq_iff_eq]; exact hn
        rw [if_neg (fun hh => hn hh.symm), if_neg hnb]
        by_cases hq : Na * Db ≤ Nb' * Da
        · rw [if_pos hq]
          have hqq : Na * Db = Nb' * Da := by omega
          have : A * 2 ^ d = B := by
            refine Nat.eq_of_mul_eq_mul_right hK ?_
            rw [← e1, ← e2, hqq]
          rw [hqq, this, Nat.sub_self, Nat.sub_self, Nat.zero_mul, Nat.zero_mul]
        · rw [if_neg hq, Nat.sub_mul, Nat.sub_mul, e1, e2]
    · intro hX
      unfold sNeg
      unfold sNum at hX
      by_cases hn : na = nb
      · rw [if_pos hn.symm, hn]
      · rw [if_neg (fun hh => hn hh.symm)]
        rw [if_neg (fun hh => hn hh.symm)] at hX
        by_cases hq : Na * Db ≤ Nb' * Da
        · rw [if_pos hq] at hX
          omega
        · rw [if_neg hq]
/-- The exact sum of two finite numbers that are not zero is sum's. -/
theorem add_sum {e m : Nat} (h : Fm e m) (mode : Int) (na nb : Bool) {A B a b j : Nat} {p q : Int} (hA : A = a * 2 ^ j) (hB : B = b * 2 ^ j) (nA : Nb A) (nB : Nb B) :
    addR e m mode na (shN a p) (shD 1 p) nb (shN b q) (shD 1 q) = sumP e m mode na (p - j) A nb (q - j) B := by
  unfold sumP
  by_cases hc : p - j < q - j ∨ (p - j = q - j ∧ A < B)
  · rw [if_pos hc]
    obtain ⟨d, hd⟩ : ∃ d : Nat, (q - (j : Int) - (p - j)).toNat = d := ⟨_, rfl⟩
    rw [hd]
    have hdi : q - (j : Int) = (p - j) + (d : Int) := by omega
    have := (add_great h mode nb na (A := B) (B := A) (d := d) (p := p - j) nB nA (fun h0 => by omega) (sh1_pos q) (sh1_pos p)
      (show shN b q * shD 1 (p - j) = shN (B * 2 ^ d) (p - j) * shD 1 q from (sc_eq (j := j + d) (by rw [hB, Nat.mul_assoc, ← Nat.pow_add]) (by omega)).symm) (show shN a p * shD 1 (p - j) = shN A (p - j) * shD 1 p from (sc_eq (j := j) hA (by omega)).symm)).2
    rw [this, hdi]
  · rw [if_neg hc]
    obtain ⟨d, hd⟩ : ∃ d : Nat, (p - (j : Int) - (q - j)).toNat = d := ⟨_, rfl⟩
    rw [hd]
    have hdi : p - (j : Int) = (q - j) + (d : Int) := by omega
    have := (add_great h mode na nb (A := A) (B := B) (d := d) (p := q - j) nA nB (fun h0 => by omega) (sh1_pos p) (sh1_pos q)
      (show shN a p * shD 1 (q - j) = shN (A * 2 ^ d) (q - j) * shD 1 p from (sc_eq (j := j + d) (by rw [hA, Nat.mul_assoc, ← Nat.pow_add]) (by omega)).symm) (show shN b q * shD 1 (q - j) = shN B (q - j) * shD 1 q from (sc_eq (j := j) hB (by omega)).symm)).1
    rw [this, hdi]
end Go.Proofs.YgcoacGreat
