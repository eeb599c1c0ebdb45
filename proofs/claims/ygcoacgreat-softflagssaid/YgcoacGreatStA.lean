/-
  THE STICKY BIT, plainly: rounding N/D and rounding s * 2^p, where s is odd and N/D lies strictly between its neighbours.
-/
import Derived.Test.YgcoacGreatFlC
namespace Go.Proofs.YgcoacGreat
open Go.RowKit
set_option linter.unusedSimpArgs false
set_option linter.unusedVariables false

/-- N/D is s * 2^p, or s tells of it all that rounding asks. -/
structure Near (N D s : Nat) (p : Int) : Prop where
  lo : shN (s - 1) p * D < N * shD 1 p
  hi : N * shD 1 p < shN (s + 1) p * D
theorem near_self {s : Nat} (hs : 0 < s) (p : Int) : Near (shN s p) (shD 1 p) s p := by
  have hp := sh1_pos p
  constructor
  · refine Nat.mul_lt_mul_of_pos_right ?_ hp
    unfold shN
    exact Nat.mul_lt_mul_of_pos_right (by omega) (two_pos _)
  · refine Nat.mul_lt_mul_of_pos_right ?_ hp
    unfold shN
    exact Nat.mul_lt_mul_of_pos_right (by omega) (two_pos _)
/-- At the unit 2^(-k). -/
theorem near_at {N D s : Nat} {p k : Int} {j : Nat} (h : Near N D s p) (hj : (j : Int) = -(p + k)) :
    (s - 1) * shD D k < shN N k * 2 ^ j ∧ shN N k * 2 ^ j < (s + 1) * shD D k := by
  obtain ⟨h1, h2⟩ := h
  have e : (-p).toNat + (-k).toNat = k.toNat + j + p.toNat := by omega
  have key : ∀ t : Nat, t * shD D k * 2 ^ p.toNat = shN t p * D * 2 ^ (-k).toNat := by
    intro t; unfold shN shD; ac_rfl
  have key2 : shN N k * 2 ^ j * 2 ^ p.toNat = N * shD 1 p * 2 ^ (-k).toNat := by
    unfold shN shD
    rw [Nat.one_mul, Nat.mul_assoc, Nat.mul_assoc, Nat.mul_assoc, ← Nat.pow_add, ← Nat.pow_add, ← Nat.pow_add, e, Nat.add_assoc]
  constructor
  · refine Nat.lt_of_mul_lt_mul_right (a := 2 ^ p.toNat) ?_
    rw [key, key2]
    exact Nat.mul_lt_mul_of_pos_right h1 (two_pos _)
  · refine Nat.lt_of_mul_lt_mul_right (a := 2 ^ p.toNat) ?_
    rw [key, key2]
    exact Nat.mul_lt_mul_of_pos_right h2 (two_pos _)
/-- Floor, half and rest are s's. -/
theorem near_trip {a b s j : Nat} (hb : 0 < b) (hj : 2 ≤ j) (hs : s % 2 = 1) (h1 : (s - 1) * b < a * 2 ^ j) (h2 : a * 2 ^ j < (s + 1) * b) :
    a / b = s / 2 ^ j ∧ someQ a b = true ∧ halfQ a b = (if s % 2 ^ j < 2 ^ (j - 1) then -1 else 1) := by
  obtain ⟨i, rfl⟩ : ∃ i, j = i + 2 := ⟨j - 2, by omega⟩
  have hP : 2 ^ (i + 2) = 4 * 2 ^ i := by rw [Nat.pow_add]; omega
  have hH : 2 ^ (i + 2 - 1) = 2 * 2 ^ i := by rw [show i + 2 - 1 = i + 1 from rfl, Nat.pow_succ]; omega
  have hi := two_pos i
  rw [hH]
  rw [hP] at h1 h2 ⊢
  generalize 2 ^ i = I at *
  have hq := Nat.div_add_mod s (4 * I)
  have hr := Nat.mod_lt s (show 0 < 4 * I by omega)
  have hro : s % (4 * I) % 2 = 1 := by rw [Nat.mod_mod_of_dvd _ ⟨2 * I, by omega⟩]; exact hs
  generalize s / (4 * I) = q at *
  generalize s % (4 * I) = r at *
  -- s = 4 I q + r
  have e1 : (s - 1) * b = 4 * I * (q * b) + (r - 1) * b := by
    rw [show s - 1 = 4 * I * q + (r - 1) by omega, Nat.add_mul, Nat.mul_assoc]
  have e2 : (s + 1) * b = 4 * I * (q * b) + (r + 1) * b := by
    rw [show s + 1 = 4 * I * q + (r + 1) by omega, Nat.add_mul, Nat.mul_assoc]
  rw [e1] at h1
  rw [e2] at h2
  have b1 : (r + 1) * b ≤ 4 * I * b := Nat.mul_le_mul_right _ (by omega)
  have hlow : q * b < a := by
    have : 4 * I * (q * b) < a * (4 * I) := by omega
    rw [Nat.mul_comm a] at this
    exact Nat.lt_of_mul_lt_mul_left this
  have hhigh : a < q * b + b := by
    have : a * (4 * I) < 4 * I * (q * b + b) := by rw [Nat.mul_add]; omega
    rw [Nat.mul_comm a] at this
    exact Nat.lt_of_mul_lt_mul_left this
  have hdiv : a / b = q := by
    rw [Nat.div_eq_iff hb]
    omega
  have hmod : a % b = a - q * b := by
    have := Nat.div_add_mod a b
    rw [hdiv, Nat.mul_comm] at this
    omega
  refine ⟨hdiv, ?_, ?_⟩
  · unfold someQ
    rw [hmod]
    exact decide_eq_true (by omega)
  · unfold halfQ
    rw [hmod]
    obtain ⟨d, hd⟩ : ∃ d, a = q * b + d := ⟨a - q * b, by omega⟩
    subst hd
    rw [show q * b + d - q * b = d by omega]
    have h1' : (r - 1) * b < d * (4 * I) := by
      rw [Nat.add_mul, Nat.mul_comm (q * b)] at h1
      omega
    have h2' : d * (4 * I) < (r + 1) * b := by
      rw [Nat.add_mul, Nat.mul_comm (q * b)] at h2
      omega
    split
    · rename_i hlt
      refine cmpI_lt ?_
      have c1 : (r + 1) * b ≤ 2 * I * b := Nat.mul_le_mul_right _ (by omega)
      have c2 : d * (4 * I) = 2 * I * (d * 2) := by rw [show 4 * I = 2 * (2 * I) by omega]; ac_rfl
      have c3 : 2 * I * (d * 2) < 2 * I * b := by omega
      exact Nat.lt_of_mul_lt_mul_left c3
    · rename_i hge
      refine cmpI_gt ?_
      have c1 : 2 * I * b ≤ (r - 1) * b := Nat.mul_le_mul_right _ (by omega)
      have c2 : d * (4 * I) = 2 * I * (d * 2) := by rw [show 4 * I = 2 * (2 * I) by omega]; ac_rfl
      have c3 : 2 * I * b < 2 * I * (d * 2) := by omega
      exact Nat.lt_of_mul_lt_mul_left c3
/-- Which power of two it stays below. -/
theorem near_lt2 {N D s : Nat} {p : Int} (hD : 0 < D) (h : Near N D s p) (hs : s % 2 = 1) (hs2 : 2 ≤ s) (t : Int) : Lt2 N D t ↔ (p < t ∧ s < 2 ^ (t - p).toNat) := by
  rcases Int.lt_or_le p t with hpt | hpt
  · obtain ⟨i, hi⟩ : ∃ i : Nat, t - p = (i + 1 : Nat) := ⟨(t - p).toNat - 1, by omega⟩
    rw [lt2_scale_iff (k := -p) (j := i + 1) (by omega), show (t - p).toNat = i + 1 by omega]
    obtain ⟨h1, h2⟩ := near_at (k := -p) (j := 0) h (by omega)
    rw [Nat.pow_zero, Nat.mul_one] at h1 h2
    have hd := shD_pos hD (-p)
    generalize shN N (-p) = a at *
    generalize shD D (-p) = b at *
    have hev : 2 ^ (i + 1) = 2 * 2 ^ i := by rw [Nat.pow_succ]; omega
    generalize 2 ^ i = I at *
    rw [hev]
    constructor
    · intro h3
      refine ⟨hpt, ?_⟩
      rcases Nat.lt_or_ge s (2 * I) with h' | h'
      · exact h'
      · have : 2 * I * b ≤ (s - 1) * b := Nat.mul_le_mul_right _ (by omega)
        rw [Nat.mul_comm b] at h3
        omega
    · rintro ⟨_, h3⟩
      have : (s + 1) * b ≤ 2 * I * b := Nat.mul_le_mul_right _ (by omega)
      rw [Nat.mul_comm b]
      omega
  · refine ⟨fun h3 => ?_, fun h3 => by omega⟩
    exfalso
    have h4 := lt2_mono h3 hpt
    rw [lt2_scale_iff (k := -p) (j := 0) (by omega)] at h4
    obtain ⟨h1, h2⟩ := near_at (k := -p) (j := 0) h (by omega)
    rw [Nat.pow_zero, Nat.mul_one] at h1 h2 h4
    have : 1 * shD D (-p) ≤ (s - 1) * shD D (-p) := Nat.mul_le_mul_right _ (by omega)
    omega
theorem real_ext {e m N D N' D' : Nat} (h : Fm e m) (hN : 0 < N) (hD : 0 < D) (hN' : 0 < N') (hD' : 0 < D') (hx : ∀ t, Lt2 N D t ↔ Lt2 N' D' t) : realQ e N D = realQ e N' D' := by
  have hb := bias_bd h
  have b1 := realQ_bd e N D h
  have b2 := realQ_bd e N' D' h
  have key : ∀ t, eminI e - 1 ≤ t → t ≤ (bias e : Int) + 1 → (t ≤ realQ e N D ↔ t ≤ realQ e N' D') := by
    intro t h1 h2
    unfold realQ
    rw [real_iff hN hD h1 h2 (by unfold eminI; omega), real_iff hN' hD' h1 h2 (by unfold eminI; omega), hx]
  rcases Int.lt_trichotomy (realQ e N D) (realQ e N' D') with h' | h' | h'
  · have := (key (realQ e N' D') (by omega) (by omega)).2 (Int.le_refl _)
    omega
  · exact h'
  · have := (key (realQ e N D) (by omega) (by omega)).1 (Int.le_refl _)
    omega
theorem rnd_ext {e m N D N' D' : Nat} (h : Fm e m) (mode : Int) (neg : Bool) (hN : 0 < N) (hN' : 0 < N') (hr : realQ e N D = realQ e N' D')
    (hk : ¬ (bias e : Int) < expQ e N D → raisedN mode neg (shN N ((m : Int) - expQ e N D)) (shD D ((m : Int) - expQ e N D)) = raisedN mode neg (shN N' ((m : Int) - expQ e N D)) (shD D' ((m : Int) - expQ e N D)) ∧ someQ (shN N ((m : Int) - expQ e N D)) (shD D ((m : Int) - expQ e N D)) = someQ (shN N' ((m : Int) - expQ e N D)) (shD D' ((m : Int) - expQ e N D)))
    (hf : realQ e N D = eminI e - 1 → raisedN mode neg (shN N ((m : Int) - realQ e N D)) (shD D ((m : Int) - realQ e N D)) = raisedN mode neg (shN N' ((m : Int) - realQ e N D)) (shD D' ((m : Int) - realQ e N D))) :
    rndV e m mode neg N D = rndV e m mode neg N' D' ∧ rndF e m mode neg N D = rndF e m mode neg N' D' := by
  have hex : expQ e N D = expQ e N' D' := by unfold expQ; rw [hr]
  have z1 : ¬ N = 0 := by omega
  have z2 : ¬ N' = 0 := by omega
  unfold rndV rndF
  simp only [if_neg z1, if_neg z2]
  rw [← hex]
  by_cases hx : (bias e : Int) < expQ e N D
  · refine ⟨?_, ?_⟩ <;> simp only [if_pos hx]
  · obtain ⟨h1, h2⟩ := hk hx
    have hm : manQ e m mode neg N D = manQ e m mode neg N' D' := by unfold manQ; rw [← hex, h1]
    have hs : smQ e m N D = smQ e m N' D' := by unfold smQ; rw [← hex, h2]
    have ht : tinyQ e m mode neg N D = tinyQ e m mode neg N' D' := by
      unfold tinyQ
      rw [← hr]
      by_cases hc : realQ e N D = eminI e - 1
      · rw [if_pos hc, if_pos hc]
        unfold fullQ
        rw [← hr, hf hc]
      · rw [if_neg hc, if_neg hc]
    refine ⟨?_, ?_⟩ <;> simp only [if_neg hx, hm, hs, ht]
/-- THE LAW OF THE STICKY BIT. -/
theorem rnd_near {e m N D s : Nat} {p : Int} (h : Fm e m) (mode : Int) (neg : Bool) (hN : 0 < N) (hD : 0 < D) (hs : s % 2 = 1) (hs2 : 2 ^ (m + 2) ≤ s) (hn : Near N D s p) :
    rndV e m mode neg N D = rndV e m mode neg (shN s p) (shD 1 p) ∧ rndF e m mode neg N D = rndF e m mode neg (shN s p) (shD 1 p) := by
  have hb := bias_bd h
  have h4 : 4 ≤ 2 ^ (m + 2) := pow_le_of (show 2 ≤ m + 2 by omega)
  have hn' := near_self (show 0 < s by omega) p
  have hD' := sh1_pos p
  have hN' : 0 < shN s p := Nat.mul_pos (by omega) (two_pos _)
  have hx : ∀ t, Lt2 N D t ↔ Lt2 (shN s p) (shD 1 p) t := fun t => by rw [near_lt2 hD hn hs (by omega), near_lt2 hD' hn' hs (by omega)]
  have hr := real_ext h hN hD hN' hD' hx
  have hbig : ¬ Lt2 N D (p + m + 2) := by
    rw [near_lt2 hD hn hs (by omega), show (p + m + 2 - p).toNat = m + 2 by omega]
    omega
  have trip : ∀ k : Int, p + k ≤ -2 → raisedN mode neg (shN N k) (shD D k) = raisedN mode neg (shN (shN s p) k) (shD (shD 1 p) k) ∧ someQ (shN N k) (shD D k) = someQ (shN (shN s p) k) (shD (shD 1 p) k) := by
    intro k hk
    obtain ⟨j, hj⟩ : ∃ j : Nat, (j : Int) = -(p + k) := ⟨(-(p + k)).toNat, by omega⟩
    obtain ⟨a1, a2⟩ := near_at (k := k) hn hj
    obtain ⟨b1, b2⟩ := near_at (k := k) hn' hj
    obtain ⟨u1, u2, u3⟩ := near_trip (shD_pos hD k) (show 2 ≤ j by omega) hs a1 a2
    obtain ⟨v1, v2, v3⟩ := near_trip (shD_pos hD' k) (show 2 ≤ j by omega) hs b1 b2
    unfold raisedN
    rw [u1, u2, u3, v1, v2, v3]
    exact ⟨rfl, rfl⟩
  refine rnd_ext h mode neg hN hN' hr (fun hov => trip _ ?_) (fun hc => (trip _ ?_).1)
  · have hlt : Lt2 N D ((bias e : Int) + 1) := Classical.byContradiction fun hh => hov ((exp_over h hN hD).2 hh)
    have hle : p + m + 2 ≤ (bias e : Int) := by
      rcases Int.lt_or_le (bias e : Int) (p + m + 2) with h' | h'
      · exact absurd (lt2_mono hlt (by omega)) hbig
      · exact h'
    have : p + m + 2 ≤ expQ e N D := by
      rcases Int.lt_or_le (p + m + 2) (eminI e - 1) with h' | h'
      · unfold expQ; omega
      · have := (real_iff hN hD (lo := eminI e - 1) (hi := bias e) (t := p + m + 2) h' (by omega) (by unfold eminI; omega)).2 hbig
        unfold expQ realQ
        omega
    omega
  · have hlt : Lt2 N D (eminI e) := (real_lt h hN hD).1 (by omega)
    have : p + m + 2 < eminI e := by
      rcases Int.lt_or_le (p + m + 2) (eminI e) with h' | h'
      · exact h'
      · exact absurd (lt2_mono hlt h') hbig
    omega
/-- What is the same fraction rounds the same. -/
theorem rnd_cross {e m N D N' D' : Nat} (h : Fm e m) (mode : Int) (neg : Bool) (hN : 0 < N) (hD : 0 < D) (hD' : 0 < D') (hx : N * D' = N' * D) :
    rndV e m mode neg N D = rndV e m mode neg N' D' ∧ rndF e m mode neg N D = rndF e m mode neg N' D' := by
  have hN' : 0 < N' := by
    rcases Nat.eq_zero_or_pos N' with h' | h'
    · rw [h', Nat.zero_mul] at hx
      have := Nat.mul_pos hN hD'
      omega
    · exact h'
  have key : ∀ k : Int, (shN N k) * (shD D' k) = shN N' k * shD D k := by
    intro k
    unfold shN shD
    calc N * 2 ^ k.toNat * (D' * 2 ^ (-k).toNat) = N * D' * (2 ^ k.toNat * 2 ^ (-k).toNat) := by ac_rfl
      _ = N' * D * (2 ^ k.toNat * 2 ^ (-k).toNat) := by rw [hx]
      _ = N' * 2 ^ k.toNat * (D * 2 ^ (-k).toNat) := by ac_rfl
  have scale : ∀ a b c : Nat, 0 < c → raisedN mode neg (a * c) (b * c) = raisedN mode neg a b ∧ someQ (a * c) (b * c) = someQ a b := by
    intro a b c hc
    have e1 : a * c / (b * c) = a / b := Nat.mul_div_mul_right _ _ hc
    have e2 : a * c % (b * c) = a % b * c := Nat.mul_mod_mul_right _ _ _
    have e3 : someQ (a * c) (b * c) = someQ a b := by
      unfold someQ
      rw [e2, decide_eq_decide]
      constructor
      · intro h1 h2; exact h1 (by rw [h2, Nat.zero_mul])
      · intro h1 h2
        rcases Nat.mul_eq_zero.1 h2 with h3 | h3
        · exact h1 h3
        · omega
    have e4 : halfQ (a * c) (b * c) = halfQ a b := by
      unfold halfQ cmpI
      rw [e2, Nat.mul_right_comm]
      have f1 : a % b * 2 * c < b * c ↔ a % b * 2 < b := Nat.mul_lt_mul_right hc
      have f2 : a % b * 2 * c = b * c ↔ a % b * 2 = b := ⟨fun h => Nat.eq_of_mul_eq_mul_right hc h, fun h => by rw [h]⟩
      simp only [f1, f2]
    refine ⟨?_, e3⟩
    unfold raisedN
    rw [e1, e3, e4]
  have trip : ∀ k : Int, raisedN mode neg (shN N k) (shD D k) = raisedN mode neg (shN N' k) (shD D' k) ∧ someQ (shN N k) (shD D k) = someQ (shN N' k) (shD D' k) := by
    intro k
    obtain ⟨a1, a2⟩ := scale (shN N k) (shD D k) (shD D' k) (shD_pos hD' k)
    obtain ⟨b1, b2⟩ := scale (shN N' k) (shD D' k) (shD D k) (shD_pos hD k)
    rw [← a1, ← a2, ← b1, ← b2, key k, Nat.mul_comm (shD D k)]
    exact ⟨rfl, rfl⟩
  have hlt : ∀ t, Lt2 N D t ↔ Lt2 N' D' t := by
    intro t
    unfold Lt2
    have k1 := key (-t)
    have p1 := shD_pos hD (-t)
    have p2 := shD_pos hD' (-t)
    generalize shN N (-t) = a at *
    generalize shD D (-t) = b at *
    generalize shN N' (-t) = a' at *
    generalize shD D' (-t) = b' at *
    have e1 : a < b ↔ a * b' < b * b' := (Nat.mul_lt_mul_right p2).symm
    have e2 : a' < b' ↔ a' * b < b' * b := (Nat.mul_lt_mul_right p1).symm
    rw [e1, e2, k1, Nat.mul_comm b b']
  exact rnd_ext h mode neg hN hN' (real_ext h hN hD hN' hD' hlt) (fun _ => trip _) (fun _ => (trip _).1)
end Go.Proofs.YgcoacGreat
