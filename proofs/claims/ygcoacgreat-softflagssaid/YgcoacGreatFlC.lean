/-
  THE FLAGS, plainly: the packed pattern's value; isTiny; wantFlags.
-/
import Derived.Test.YgcoacGreatFlB
namespace Go.Proofs.YgcoacGreat
open Go.RowKit
set_option linter.unusedSimpArgs false
set_option linter.unusedVariables false

theorem two_pos (k : Nat) : 0 < 2 ^ k := Nat.pow_pos (by decide)
/-- a * 2^p = b * 2^q, where a = b * 2^j and q = p + j. -/
theorem sc_eq {a b j : Nat} {p q : Int} (h : a = b * 2 ^ j) (hq : q = p + j) : shN a p * shD 1 q = shN b q * shD 1 p := by
  unfold shN shD
  subst h
  rw [Nat.one_mul, Nat.one_mul, Nat.mul_assoc, Nat.mul_assoc, Nat.mul_assoc, ← Nat.pow_add, ← Nat.pow_add, ← Nat.pow_add]
  congr 2
  omega
theorem bias_two {e m : Nat} (h : Fm e m) : 2 * (bias e + 1) = 2 ^ e := by
  obtain ⟨_, _, _, _⟩ := h
  unfold bias
  obtain ⟨k, rfl⟩ : ∃ k, e = k + 1 := ⟨e - 1, by omega⟩
  rw [Nat.add_sub_cancel, Nat.pow_succ]
  have := two_pos k
  omega
theorem div_low {a r P : Nat} (hr : r < P) : (a * P + r) / P = a ∧ (a * P + r) % P = r := by
  have hP : 0 < P := by omega
  constructor
  · rw [Nat.mul_comm, Nat.mul_add_div hP, Nat.div_eq_of_lt hr, Nat.add_zero]
  · rw [Nat.mul_comm, Nat.mul_add_mod, Nat.mod_eq_of_lt hr]
/-- The packed pattern's value is man * 2^(ex - m). -/
theorem pack_val {e m man : Nat} {ex : Int} (h : Fm e m) (h1 : eminI e ≤ ex) (h2 : man ≤ 2 ^ (m + 1)) (h3 : ex = eminI e ∨ 2 ^ m ≤ man) (hX : packX e m ex man < infP e m) (neg : Bool) :
    vNum e m (packX e m ex man + sg e m neg) * shD 1 (ex - m) = shN man (ex - m) * vDen e m (packX e m ex man + sg e m neg) := by
  obtain ⟨hef, hfl⟩ := pack_ef h hX neg
  have hff := pack_ff (e := e) (m := m) (X := packX e m ex man) neg
  have hb2 := bias_two h
  have hb := bias_bd h
  have hP := two_pos m
  have hPP : 2 ^ (m + 1) = 2 * 2 ^ m := by rw [Nat.pow_succ]; omega
  generalize hx : packX e m ex man + sg e m neg = x at *
  obtain ⟨t, ht⟩ : ∃ t : Nat, ex = eminI e + t := ⟨(ex - eminI e).toNat, by omega⟩
  have hXe : packX e m ex man = t * 2 ^ m + man := by unfold packX; rw [show (ex - eminI e).toNat = t by omega]
  rw [hXe] at hef hff hfl
  show shN (pMan e m x) (pExp e m x) * shD 1 (ex - m) = shN man (ex - m) * (2 ^ (-pExp e m x).toNat)
  rw [show 2 ^ (-pExp e m x).toNat = shD 1 (pExp e m x) by unfold shD; rw [Nat.one_mul]]
  by_cases hs : man < 2 ^ m
  · have ht0 : t = 0 := by omega
    subst ht0
    rw [Nat.zero_mul, Nat.zero_add, Nat.div_eq_of_lt hs] at hef
    rw [Nat.zero_mul, Nat.zero_add, Nat.mod_eq_of_lt hs] at hff
    by_cases hz : man = 0
    · have hc : cls e m x = 0 := by unfold cls; rw [hef, hff, if_neg (by omega), if_pos rfl, if_pos hz]
      have e1 : pMan e m x = 0 := by unfold pMan; rw [hc]; rfl
      rw [e1, hz]
      unfold shN
      rw [Nat.zero_mul, Nat.zero_mul, Nat.zero_mul, Nat.zero_mul]
    · have hc : cls e m x = 1 := by unfold cls; rw [hef, hff, if_neg (by omega), if_pos rfl, if_neg hz]
      have e1 : pMan e m x = man * 2 ^ (m + 1 - bits man) := by unfold pMan; rw [hc, hff]; rfl
      have e2 : pExp e m x = 1 - (bias e : Int) - (m : Int) - ((m + 1 - bits man : Nat) : Int) := by unfold pExp; rw [hc, hff]; rfl
      exact sc_eq e1 (by rw [e2, ht]; unfold eminI; omega)
  · by_cases hs2 : man < 2 ^ (m + 1)
    · obtain ⟨r, hr⟩ : ∃ r, man = 2 ^ m + r := ⟨man - 2 ^ m, by omega⟩
      have hd := div_low (a := t + 1) (r := r) (P := 2 ^ m) (by omega)
      have he : t * 2 ^ m + man = (t + 1) * 2 ^ m + r := by rw [Nat.add_mul, Nat.one_mul]; omega
      rw [he, hd.1] at hef hfl
      rw [he, hd.2] at hff
      have hc : cls e m x = 2 := by unfold cls; rw [hef, if_neg (by omega), if_neg (by omega)]
      have e1 : pMan e m x = man := by unfold pMan; rw [hc, hff, if_pos rfl]; omega
      have e2 : pExp e m x = ex - m := by unfold pExp; rw [hc, hef, if_pos rfl, ht]; unfold eminI; omega
      rw [e1, e2]
    · have hm2 : man = 2 * 2 ^ m := by omega
      have hd := div_low (a := t + 2) (r := 0) (P := 2 ^ m) (by omega)
      have he : t * 2 ^ m + man = (t + 2) * 2 ^ m + 0 := by rw [Nat.add_mul]; omega
      rw [he, hd.1] at hef hfl
      rw [he, hd.2] at hff
      have hc : cls e m x = 2 := by unfold cls; rw [hef, if_neg (by omega), if_neg (by omega)]
      have e1 : pMan e m x = 2 ^ m := by unfold pMan; rw [hc, hff, if_pos rfl]; omega
      have e2 : pExp e m x = ex - m + 1 := by unfold pExp; rw [hc, hef, if_pos rfl, ht]; unfold eminI; omega
      have := sc_eq (a := man) (b := 2 ^ m) (j := 1) (p := ex - m) (q := ex - m + 1) (by rw [Nat.pow_one]; omega) rfl
      rw [e1, e2]
      exact this.symm
theorem lt2_scale_iff {n d : Nat} {t k : Int} {j : Nat} (hj : (j : Int) = t + k) : Lt2 n d t ↔ shN n k < shD d k * 2 ^ j := by
  refine ⟨fun h => lt2_scale h hj, ?_⟩
  intro h
  unfold shN shD at h
  unfold Lt2 shN shD
  rw [Int.neg_neg]
  have e : k.toNat + t.toNat = j + (-k).toNat + (-t).toNat := by omega
  have h2 : n * 2 ^ k.toNat * 2 ^ (-t).toNat < d * 2 ^ (-k).toNat * 2 ^ j * 2 ^ (-t).toNat := Nat.mul_lt_mul_of_pos_right h (two_pos _)
  refine Nat.lt_of_mul_lt_mul_right (a := 2 ^ k.toNat) ?_
  rw [Nat.mul_assoc, Nat.mul_assoc, ← Nat.pow_add, ← Nat.pow_add, Nat.add_comm t.toNat, e]
  rw [Nat.mul_assoc, ← Nat.pow_add, Nat.mul_assoc, Nat.mul_assoc, ← Nat.pow_add, ← Nat.pow_add, show (-k).toNat + (j + (-t).toNat) = j + (-k).toNat + (-t).toNat by omega, Nat.add_comm k.toNat] at h2
  exact h2

/-! ### The law's arithmetic -/
def p2N (k : Int) : Nat := 2 ^ k.toNat
def p2D (k : Int) : Nat := 2 ^ (-k).toNat
/-- cmpSize. -/
def csQ (n d n' d' : Nat) : Int := cmpI (n * d') (n' * d)
theorem cs_lt {n d : Nat} {k : Int} : csQ n d (p2N k) (p2D k) < 0 ↔ Lt2 n d k := by
  unfold csQ p2N p2D Lt2 shN shD cmpI
  rw [Int.neg_neg, Nat.mul_comm (2 ^ k.toNat)]
  split
  · exact ⟨fun _ => by assumption, fun _ => by decide⟩
  · split
    · exact ⟨fun h => absurd h (by decide), fun h => by omega⟩
    · exact ⟨fun h => absurd h (by decide), fun h => by omega⟩
theorem cs_zero {n d n' d' : Nat} : csQ n d n' d' = 0 ↔ n * d' = n' * d := by
  unfold csQ cmpI
  split
  · exact ⟨fun h => absurd h (by decide), fun h => by omega⟩
  · split
    · exact ⟨fun _ => by assumption, fun _ => rfl⟩
    · exact ⟨fun h => absurd h (by decide), fun h => absurd h (by assumption)⟩
def leastQ (e : Nat) : Int := 1 - (bias e : Int)
def tinyL (e m : Nat) (mode : Int) (neg : Bool) (n d : Nat) : Bool :=
  if 0 ≤ csQ n d (p2N (leastQ e)) (p2D (leastQ e)) then false
  else if csQ n d (p2N (leastQ e - 1)) (p2D (leastQ e - 1)) < 0 then true
  else decide (csQ (vNum e m (rndV e m mode neg (n * 2) d)) (vDen e m (rndV e m mode neg (n * 2) d)) (p2N (leastQ e + 1)) (p2D (leastQ e + 1)) < 0)
def wantQ (e m : Nat) (mode : Int) (neg : Bool) (n d x : Nat) : Int :=
  if n = 0 then 0
  else if ef e m x = 2 ^ e - 1 then 20
  else if 0 ≤ csQ n d (p2N ((bias e : Int) + 1)) (p2D ((bias e : Int) + 1)) then 20
  else if csQ (vNum e m x) (vDen e m x) n d = 0 then 0
  else if tinyL e m mode neg n d then 24 else 16

theorem shD_one (d : Nat) (k : Int) : shD d k = d * shD 1 k := by unfold shD; rw [Nat.one_mul]
theorem shN_one (n : Nat) (k : Int) : shN n k = n * shD 1 (-k) := by unfold shN shD; rw [Nat.one_mul, Int.neg_neg]
theorem sh1_pos (k : Int) : 0 < shD 1 k := shD_pos (by decide) k
/-- Half as high. -/
theorem lt2_twice {n d : Nat} {t : Int} : Lt2 (n * 2) d (t + 1) ↔ Lt2 n d t := by
  obtain ⟨j, hj⟩ : ∃ j : Nat, (j : Int) = t + (t.natAbs : Int) := ⟨(t + (t.natAbs : Int)).toNat, by omega⟩
  rw [lt2_scale_iff (k := (t.natAbs : Int)) (j := j) hj, lt2_scale_iff (k := (t.natAbs : Int)) (j := j + 1) (by omega)]
  unfold shN shD
  rw [Nat.pow_succ, ← Nat.mul_assoc, show n * 2 * 2 ^ (t.natAbs : Int).toNat = n * 2 ^ (t.natAbs : Int).toNat * 2 by rw [Nat.mul_assoc, Nat.mul_comm 2, ← Nat.mul_assoc]]
  omega
theorem exp_bd {e m n d : Nat} (h : Fm e m) (hd : 0 < d) (hx : ¬ (bias e : Int) < expQ e n d) : Lt2 n d (expQ e n d + 1) := by
  have hb := bias_bd h
  refine lt2_real hd (lo := eminI e - 1) (hi := bias e) ?_ ?_ ?_ ?_
  · have : realQ e n d ≤ expQ e n d := by unfold expQ; omega
    unfold realQ at this; omega
  · unfold eminI; omega
  · have : realQ e n d ≤ expQ e n d := by unfold expQ; omega
    unfold realQ at this; exact this
  · have : eminI e ≤ expQ e n d := by unfold expQ; omega
    omega
theorem div_bd {e m n d : Nat} (h : Fm e m) (hd : 0 < d) (hx : ¬ (bias e : Int) < expQ e n d) : shN n ((m : Int) - expQ e n d) / shD d ((m : Int) - expQ e n d) < 2 ^ (m + 1) := by
  have h2 := lt2_scale (k := (m : Int) - expQ e n d) (j := m + 1) (exp_bd h hd hx) (by omega)
  rw [Nat.div_lt_iff_lt_mul (shD_pos hd _), Nat.mul_comm]; exact h2
theorem raisedN_ge {mode : Int} {neg : Bool} {n d : Nat} : n / d ≤ raisedN mode neg n d := by unfold raisedN; split <;> omega
theorem manQ_eq {e m : Nat} (h : Fm e m) (mode : Int) (neg : Bool) (n d : Nat) (hd : 0 < d) (hx : ¬ (bias e : Int) < expQ e n d) :
    manQ e m mode neg n d = raisedN mode neg (shN n ((m : Int) - expQ e n d)) (shD d ((m : Int) - expQ e n d)) := by
  have h2 := lt2_scale (k := (m : Int) - expQ e n d) (j := m + 1) (exp_bd h hd hx) (by omega)
  have h3 := raisedN_le (mode := mode) (neg := neg) h2 (shD_pos hd _)
  unfold manQ
  obtain ⟨_, _, _, _⟩ := h
  have h4 := pow_le_of (show m + 1 ≤ 53 by omega)
  have h5 : (2 : Nat) ^ 53 = 9007199254740992 := by decide
  exact Nat.mod_eq_of_lt (by omega)
/-- Above emin the mantissa is full. -/
theorem man_full {e m : Nat} (h : Fm e m) (mode : Int) (neg : Bool) (n d : Nat) (hn : 0 < n) (hd : 0 < d) (hx : ¬ (bias e : Int) < expQ e n d) : expQ e n d = eminI e ∨ 2 ^ m ≤ manQ e m mode neg n d := by
  have hb := bias_bd h
  by_cases hc : expQ e n d = eminI e
  · exact Or.inl hc
  · right
    have he : expQ e n d = realQ e n d := by unfold expQ at *; omega
    have hl := (real_iff hn hd (lo := eminI e - 1) (hi := bias e) (t := expQ e n d) (by unfold expQ; omega) (by omega) (by unfold eminI; omega)).1 (by rw [he]; exact Int.le_refl _)
    rw [lt2_scale_iff (k := (m : Int) - expQ e n d) (j := m) (by omega)] at hl
    rw [manQ_eq h mode neg n d hd hx]
    refine Nat.le_trans ?_ raisedN_ge
    rw [Nat.le_div_iff_mul_le (shD_pos hd _), Nat.mul_comm]
    omega
theorem raises_toMax {mode : Int} {neg odd : Bool} {half : Int} {sm : Bool} (h : raisesQ mode neg odd half sm = true) : toMax mode neg = false := by
  unfold raisesQ at h
  unfold toMax
  by_cases h1 : mode = 1
  · subst h1; simp
  · by_cases h2 : mode = 2
    · subst h2; simp at h
    · by_cases h3 : mode = 3
      · subst h3; simp at h; simp [h.2]
      · by_cases h4 : mode = 4
        · subst h4; simp at h; simp [h.2]
        · simp [h2, h3, h4]
theorem ef_inf {e m : Nat} (h : Fm e m) (neg : Bool) : ef e m (infV e m neg) = 2 ^ e - 1 := by
  have h0 := two_pos m
  have h1 := two_pos e
  unfold ef infV infP sg
  split
  · rw [sgn_eq, ← Nat.add_mul, Nat.mul_div_cancel _ h0, Nat.add_mod_right]
    exact Nat.mod_eq_of_lt (by omega)
  · rw [Nat.add_zero, Nat.mul_div_cancel _ h0]
    exact Nat.mod_eq_of_lt (by omega)
theorem tiny_eq {e m : Nat} (h : Fm e m) (mode : Int) (neg : Bool) (n d : Nat) (hn : 0 < n) (hd : 0 < d) : tinyL e m mode neg n d = tinyQ e m mode neg n d := by
  have hb := bias_bd h
  have hle : leastQ e = eminI e := rfl
  have r1 := real_lt h hn hd
  have r2 := real_sub h hn hd
  have c1 := cs_lt (n := n) (d := d) (k := eminI e)
  have c2 := cs_lt (n := n) (d := d) (k := eminI e - 1)
  unfold tinyL tinyQ
  rw [hle]
  by_cases q1 : Lt2 n d (eminI e)
  · rw [if_neg (by have := c1.2 q1; omega)]
    by_cases q2 : Lt2 n d (eminI e - 1)
    · rw [if_pos (c2.2 q2)]
      have q3 : ¬ eminI e - 1 ≤ realQ e n d := fun hh => r2.1 hh q2
      rw [if_neg (by omega)]
      exact (decide_eq_true (by omega)).symm
    · rw [if_neg (fun hh => q2 (c2.1 hh))]
      have q3 : realQ e n d = eminI e - 1 := by have a1 := r1.2 q1; have a2 := r2.2 q2; omega
      rw [if_pos q3]
      have hn2 : 0 < n * 2 := by omega
      have s1 : Lt2 (n * 2) d (eminI e + 1) := lt2_twice.2 q1
      have s2 : ¬ Lt2 (n * 2) d (eminI e) := by
        rw [show eminI e = eminI e - 1 + 1 by omega, lt2_twice]; exact q2
      have s3 : eminI e ≤ realQ e (n * 2) d := (real_iff hn2 hd (lo := eminI e - 1) (hi := bias e) (t := eminI e) (by omega) (by unfold eminI; omega) (by unfold eminI; omega)).2 s2
      have s4 : ¬ eminI e + 1 ≤ realQ e (n * 2) d := fun hh => (real_iff hn2 hd (lo := eminI e - 1) (hi := bias e) (t := eminI e + 1) (by omega) (by unfold eminI; omega) (by unfold eminI; omega)).1 hh s1
      have s5 : expQ e (n * 2) d = eminI e := by unfold expQ; omega
      have hx : ¬ (bias e : Int) < expQ e (n * 2) d := by rw [s5]; unfold eminI; omega
      have k0 : 0 ≤ (m : Int) - eminI e := by unfold eminI; omega
      have hfull : fullQ e m mode neg n d = manQ e m mode neg (n * 2) d := by
        rw [manQ_eq h mode neg _ d hd hx, s5]
        unfold fullQ
        rw [q3]
        have a1 : shN n ((m : Int) - (eminI e - 1)) = shN (n * 2) ((m : Int) - eminI e) := by
          unfold shN
          rw [show ((m : Int) - (eminI e - 1)).toNat = ((m : Int) - eminI e).toNat + 1 by omega, Nat.pow_succ, Nat.mul_assoc, Nat.mul_comm (2 ^ _) 2]
        have a2 : shD d ((m : Int) - (eminI e - 1)) = shD d ((m : Int) - eminI e) := by
          unfold shD
          rw [show (-((m : Int) - (eminI e - 1))).toNat = 0 by omega, show (-((m : Int) - eminI e)).toNat = 0 by omega]
        rw [a1, a2]
      have hlo : 2 ^ m ≤ manQ e m mode neg (n * 2) d := by
        rw [manQ_eq h mode neg _ d hd hx, s5]
        refine Nat.le_trans ?_ raisedN_ge
        rw [Nat.le_div_iff_mul_le (shD_pos hd _), Nat.mul_comm]
        rw [lt2_scale_iff (k := (m : Int) - eminI e) (j := m) (by omega)] at s2
        omega
      have hhi := manQ_le h mode neg (n * 2) d hd hx
      have hPP : 2 ^ (m + 1) = 2 * 2 ^ m := by rw [Nat.pow_succ]; omega
      have hXe : packX e m (eminI e) (manQ e m mode neg (n * 2) d) = manQ e m mode neg (n * 2) d := by
        unfold packX; rw [Int.sub_self]; simp
      have hinf : packX e m (eminI e) (manQ e m mode neg (n * 2) d) < infP e m := by
        rw [hXe]
        unfold infP
        have h3 : 4 ≤ 2 ^ e := by obtain ⟨_, _, _, _⟩ := h; exact pow_le_of (show 2 ≤ e by omega)
        have h4 : 3 * 2 ^ m ≤ (2 ^ e - 1) * 2 ^ m := Nat.mul_le_mul_right _ (by omega)
        have := two_pos m
        omega
      have hv := pack_val h (Int.le_refl _) hhi (Or.inl rfl) hinf neg
      have hR : rndV e m mode neg (n * 2) d = packX e m (eminI e) (manQ e m mode neg (n * 2) d) + sg e m neg := by
        unfold rndV
        rw [if_neg (by omega), if_neg hx, s5]
        unfold packV
        rw [if_neg (by omega)]
      rw [hR]
      generalize packX e m (eminI e) (manQ e m mode neg (n * 2) d) + sg e m neg = x at *
      rw [hfull]
      generalize manQ e m mode neg (n * 2) d = man at *
      have hcs := cs_lt (n := vNum e m x) (d := vDen e m x) (k := eminI e + 1)
      rw [lt2_scale_iff (k := (m : Int) - eminI e) (j := m + 1) (by omega)] at hcs
      have z1 : shN (vNum e m x) ((m : Int) - eminI e) = vNum e m x * shD 1 (eminI e - m) := by
        unfold shN shD; rw [Nat.one_mul, show -(eminI e - (m : Int)) = (m : Int) - eminI e by omega]
      have z2 : shD (vDen e m x) ((m : Int) - eminI e) = vDen e m x := by
        unfold shD; rw [show (-((m : Int) - eminI e)).toNat = 0 by omega]; simp
      have z3 : shN man (eminI e - m) = man := by unfold shN; rw [show (eminI e - (m : Int)).toNat = 0 by omega]; simp
      have hvp : 0 < vDen e m x := two_pos _
      rw [z1, z2, hv, z3, Nat.mul_comm man] at hcs
      have hcs2 : csQ (vNum e m x) (vDen e m x) (p2N (eminI e + 1)) (p2D (eminI e + 1)) < 0 ↔ man < 2 ^ (m + 1) := by
        rw [hcs]
        exact ⟨fun hh => Nat.lt_of_mul_lt_mul_left hh, fun hh => Nat.mul_lt_mul_of_pos_left hh hvp⟩
      rw [decide_eq_decide, hcs2]
      constructor
      · intro hh
        rw [bits_eq hlo hh]; omega
      · intro hh
        have b1 := bits_lt man
        have b2 : bits man = m + 1 := by omega
        rw [b2] at b1; exact b1
  · rw [if_pos (by have : ¬ csQ n d (p2N (eminI e)) (p2D (eminI e)) < 0 := fun hh => q1 (c1.1 hh)
                   omega)]
    have q3 : ¬ realQ e n d < eminI e := fun hh => q1 (r1.1 hh)
    rw [if_neg (by omega)]
    exact (decide_eq_false q3).symm

theorem want_eq {e m : Nat} (h : Fm e m) (mode : Int) (neg : Bool) (n d : Nat) (hd : 0 < d) : wantQ e m mode neg n d (rndV e m mode neg n d) = rndF e m mode neg n d := by
  unfold wantQ rndF
  by_cases hn0 : n = 0
  · rw [if_pos hn0, if_pos hn0]
  · rw [if_neg hn0, if_neg hn0]
    have hn : 0 < n := by omega
    have hb := bias_bd h
    have ho := exp_over h hn hd
    have c1 := cs_lt (n := n) (d := d) (k := (bias e : Int) + 1)
    by_cases hx : (bias e : Int) < expQ e n d
    · rw [if_pos hx]
      by_cases hf : ef e m (rndV e m mode neg n d) = 2 ^ e - 1
      · rw [if_pos hf]
      · rw [if_neg hf, if_pos]
        have : ¬ csQ n d (p2N ((bias e : Int) + 1)) (p2D ((bias e : Int) + 1)) < 0 := fun hh => ho.1 hx (c1.1 hh)
        omega
    · rw [if_neg hx]
      have hlt : Lt2 n d ((bias e : Int) + 1) := Classical.byContradiction fun hh => hx (ho.2 hh)
      have hcs := c1.2 hlt
      have hR : rndV e m mode neg n d = packV e m mode neg (expQ e n d) (manQ e m mode neg n d) := by
        unfold rndV; rw [if_neg hn0, if_neg hx]
      rw [hR]
      have hmle := manQ_le h mode neg n d hd hx
      have hem : eminI e ≤ expQ e n d := by unfold expQ; omega
      have hfu := man_full h mode neg n d hn hd hx
      unfold packF packV
      by_cases hi : infP e m ≤ packX e m (expQ e n d) (manQ e m mode neg n d)
      · rw [if_pos hi, if_pos hi]
        have hb2 := bias_two h
        have hPP : 2 ^ (m + 1) = 2 * 2 ^ m := by rw [Nat.pow_succ]; omega
        have hman : manQ e m mode neg n d = 2 ^ (m + 1) := by
          unfold packX infP at hi
          have hk : (expQ e n d - eminI e).toNat ≤ 2 ^ e - 3 := by unfold eminI at *; omega
          have hk2 : (expQ e n d - eminI e).toNat * 2 ^ m ≤ (2 ^ e - 3) * 2 ^ m := Nat.mul_le_mul_right _ hk
          have h4 : (2 ^ e - 1) * 2 ^ m = (2 ^ e - 3) * 2 ^ m + 2 * 2 ^ m := by rw [← Nat.add_mul]; congr 1; omega
          omega
        have hfl := div_bd h hd hx
        rw [manQ_eq h mode neg n d hd hx] at hman
        have hrz : toMax mode neg = false := by
          unfold raisedN at hman
          split at hman
          · rename_i hr; exact raises_toMax hr
          · omega
        have hov : overV e m mode neg = infV e m neg := by unfold overV; rw [hrz]; rfl
        rw [hov, if_pos (ef_inf h neg)]
      · rw [if_neg hi, if_neg hi]
        have hX : packX e m (expQ e n d) (manQ e m mode neg n d) < infP e m := by omega
        obtain ⟨hef, hfl⟩ := pack_ef h hX neg
        have hv := pack_val h hem hmle hfu hX neg
        have hre := raised_exact (mode := mode) (neg := neg) (n := shN n ((m : Int) - expQ e n d)) (d := shD d ((m : Int) - expQ e n d)) (shD_pos hd _)
        rw [← manQ_eq h mode neg n d hd hx] at hre
        rw [if_neg (by rw [hef]; omega), if_neg (by omega), tiny_eq h mode neg n d hn hd]
        generalize packX e m (expQ e n d) (manQ e m mode neg n d) + sg e m neg = x at *
        have hq : csQ (vNum e m x) (vDen e m x) n d = 0 ↔ smQ e m n d = false := by
          rw [cs_zero]
          unfold smQ
          rw [← hre]
          generalize manQ e m mode neg n d = man at *
          rw [shD_one d, shN_one n, show -((m : Int) - expQ e n d) = expQ e n d - m by omega]
          rw [shN_one man, show -(expQ e n d - (m : Int)) = (m : Int) - expQ e n d by omega] at hv
          have p1 := sh1_pos (expQ e n d - m)
          have p2 := sh1_pos ((m : Int) - expQ e n d)
          have p3 : 0 < vDen e m x := two_pos _
          generalize shD 1 (expQ e n d - m) = A at *
          generalize shD 1 ((m : Int) - expQ e n d) = B at *
          generalize vNum e m x = vn at *
          generalize vDen e m x = vd at *
          -- vn * A = man * B * vd
          constructor
          · intro hh
            refine Nat.eq_of_mul_eq_mul_right p3 ?_
            calc man * (d * B) * vd = man * B * vd * d := by ac_rfl
              _ = vn * A * d := by rw [hv]
              _ = vn * d * A := by ac_rfl
              _ = n * vd * A := by rw [hh]
              _ = n * A * vd := by ac_rfl
          · intro hh
            refine Nat.eq_of_mul_eq_mul_right p1 ?_
            calc vn * d * A = vn * A * d := by ac_rfl
              _ = man * B * vd * d := by rw [hv]
              _ = man * (d * B) * vd := by ac_rfl
              _ = n * A * vd := by rw [hh]
              _ = n * vd * A := by ac_rfl
        by_cases hs : smQ e m n d = false
        · rw [if_pos (hq.2 hs), hs]; rfl
        · rw [if_neg (fun hh => hs (hq.1 hh))]
          have hs' : smQ e m n d = true := by simpa using hs
          rw [hs']
          rfl
end Go.Proofs.YgcoacGreat
