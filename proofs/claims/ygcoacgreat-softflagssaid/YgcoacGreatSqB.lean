/-
  THE ROOT's flags, plainly.
-/
import Derived.Test.YgcoacGreatSqA
import Derived.Test.YgcoacGreatExI
namespace Go.Proofs.YgcoacGreat
open Go.RowKit
set_option linter.unusedSimpArgs false
set_option linter.unusedVariables false

/-- A pattern's value is c * 2^p. -/
theorem pat_int {e m x : Nat} (h : Fm e m) (hc : cls e m x = 1 ∨ cls e m x = 2) : ∃ c : Nat, ∃ p : Int, 0 < c ∧ c < 2 ^ (m + 1) ∧ eminI e - m ≤ p ∧ p + m ≤ bias e ∧ vNum e m x * shD 1 p = shN c p * vDen e m x := by
  have hb := bias_bd h
  have hb2 := bias_two h
  have hF := ff_lt m x
  have hE := ef_lt e m x
  have hPP : 2 ^ (m + 1) = 2 * 2 ^ m := by rw [Nat.pow_succ]; omega
  have hv : vDen e m x = shD 1 (pExp e m x) := by unfold vDen shD; rw [Nat.one_mul]
  have hn : vNum e m x = shN (pMan e m x) (pExp e m x) := rfl
  rcases hc with hc | hc
  · have hef : ef e m x = 0 ∧ ff m x ≠ 0 := by
      unfold cls at hc
      split at hc
      · split at hc <;> omega
      · split at hc
        · rename_i h1
          split at hc
          · omega
          · rename_i h2; exact ⟨h1, h2⟩
        · omega
    refine ⟨ff m x, eminI e - m, by omega, by omega, Int.le_refl _, by unfold eminI; omega, ?_⟩
    rw [hv, hn]
    refine sc_eq (j := m + 1 - bits (ff m x)) ?_ ?_
    · unfold pMan; rw [hc]; rfl
    · unfold pExp eminI; rw [hc, if_neg (by decide), if_pos rfl]; omega
  · have hef : ef e m x ≠ 2 ^ e - 1 ∧ ef e m x ≠ 0 := by
      unfold cls at hc
      split at hc
      · split at hc <;> omega
      · rename_i h1
        split at hc
        · split at hc <;> omega
        · rename_i h2; exact ⟨h1, h2⟩
    have hp : pExp e m x = (ef e m x : Int) - (bias e : Int) - (m : Int) := by unfold pExp; rw [hc, if_pos rfl]
    have hm : pMan e m x = ff m x + 2 ^ m := by unfold pMan; rw [hc, if_pos rfl]
    have := two_pos m
    refine ⟨pMan e m x, pExp e m x, by omega, by omega, by rw [hp]; unfold eminI; omega, by rw [hp]; omega, ?_⟩
    rw [hv, hn]
theorem lt2_cross {n d n' d' : Nat} {t : Int} (hd : 0 < d) (hd' : 0 < d') (h : n * d' = n' * d) : Lt2 n d t ↔ Lt2 n' d' t := by
  unfold Lt2 shN shD
  generalize 2 ^ (-t).toNat = A
  generalize 2 ^ (- -t).toNat = B
  have e1 : n * A < d * B ↔ n * A * d' < d * B * d' := (Nat.mul_lt_mul_right hd').symm
  have e2 : n' * A < d' * B ↔ n' * A * d < d' * B * d := (Nat.mul_lt_mul_right hd).symm
  have e3 : n * A * d' = n' * A * d := by rw [Nat.mul_right_comm, h, Nat.mul_right_comm]
  have e4 : d * B * d' = d' * B * d := by ac_rfl
  rw [e1, e2, e3, e4]
theorem lt2_int {c : Nat} {p : Int} (j : Nat) : Lt2 (shN c p) (shD 1 p) (p + j) ↔ c < 2 ^ j := by
  rw [lt2_scale_iff (k := -p) (j := j) (by omega)]
  unfold shN shD
  rw [Int.neg_neg, Nat.one_mul]
  have hM : 0 < 2 ^ p.toNat * 2 ^ (-p).toNat := Nat.mul_pos (two_pos _) (two_pos _)
  rw [Nat.mul_assoc c, Nat.mul_comm (2 ^ (-p).toNat), Nat.mul_comm _ (2 ^ j)]
  exact Nat.mul_lt_mul_right hM
/-- What the root asks of its operand. -/
structure SqOk (e m N D : Nat) : Prop where
  fm : Fm e m
  n0 : 0 < N
  d0 : 0 < D
  lo : ¬ Lt2 N D (eminI e - m)
  hi : Lt2 N D ((bias e : Int) + 1)
theorem sqOk_of {e m x : Nat} (h : Fm e m) (hc : cls e m x = 1 ∨ cls e m x = 2) (hn : 0 < vNum e m x) : SqOk e m (vNum e m x) (vDen e m x) := by
  obtain ⟨c, p, h1, h2, h3, h4, h5⟩ := pat_int h hc
  have hd : 0 < vDen e m x := two_pos _
  refine ⟨h, hn, hd, ?_, ?_⟩
  · intro hh
    have := lt2_mono hh h3
    have h6 := (lt2_cross hd (sh1_pos p) h5).1 this
    have h7 := (lt2_int (c := c) (p := p) 0).1 (by rw [show p + ((0 : Nat) : Int) = p by omega]; exact h6)
    rw [Nat.pow_zero] at h7
    omega
  · refine lt2_mono (t := p + (m + 1 : Nat)) ?_ (by omega)
    rw [lt2_cross hd (sh1_pos p) h5, lt2_int]
    exact h2

def lgS (e N D : Nat) : Int := log2Q N D (2 * eminI e - 200) (2 * (bias e : Int))
def reS (e N D : Nat) : Int := lgS e N D / 2
def exS (e N D : Nat) : Int := max (reS e N D) (eminI e)
def rnS (m : Nat) (mode : Int) (N D : Nat) (ex : Int) : Nat := rtN mode (shN N (2 * ((m : Int) - ex))) (shD D (2 * ((m : Int) - ex)))
def rfS (m N D : Nat) (ex : Int) : Nat := rtF (shN N (2 * ((m : Int) - ex))) (shD D (2 * ((m : Int) - ex)))
def smS (m N D : Nat) (ex : Int) : Bool := rtS (rfS m N D ex) (shN N (2 * ((m : Int) - ex))) (shD D (2 * ((m : Int) - ex)))
def manS (e m : Nat) (mode : Int) (N D : Nat) : Nat := rnS m mode N D (exS e N D) % 18446744073709551616
def tinyS (e m : Nat) (mode : Int) (N D : Nat) : Bool := if reS e N D = eminI e - 1 then decide ((bits (rnS m mode N D (reS e N D)) : Int) = (m : Int) + 1) else decide (reS e N D < eminI e)
def sqV (e m : Nat) (mode : Int) (N D : Nat) : Nat := packV e m mode false (exS e N D) (manS e m mode N D)
def sqF (e m : Nat) (mode : Int) (N D : Nat) : Int := packF e m (exS e N D) (manS e m mode N D) (smS m N D (exS e N D)) (tinyS e m mode N D)

theorem lg_iff {e m N D : Nat} (h : SqOk e m N D) {t : Int} (h1 : 2 * eminI e - 200 ≤ t) (h2 : t ≤ 2 * (bias e : Int) + 1) : t ≤ lgS e N D ↔ ¬ Lt2 N D t := by
  have hb := bias_bd h.fm
  exact real_iff h.n0 h.d0 h1 h2 (by unfold eminI; omega)
theorem lg_bd {e m N D : Nat} (h : SqOk e m N D) : eminI e - m ≤ lgS e N D ∧ lgS e N D ≤ bias e := by
  have hb := bias_bd h.fm
  obtain ⟨_, _, hm1, hm2⟩ := h.fm
  refine ⟨(lg_iff h (by unfold eminI; omega) (by unfold eminI; omega)).2 h.lo, ?_⟩
  rcases Int.lt_or_le (bias e : Int) (lgS e N D) with h' | h'
  · exact absurd h.hi ((lg_iff h (by unfold eminI; omega) (by omega)).1 h')
  · exact h'
theorem re_lt2 {e m N D : Nat} (h : SqOk e m N D) : ¬ Lt2 N D (2 * reS e N D) ∧ Lt2 N D (2 * reS e N D + 2) := by
  have hb := bias_bd h.fm
  have hl := lg_bd h
  obtain ⟨_, _, hm1, hm2⟩ := h.fm
  have h1 := (lg_iff h (t := lgS e N D) (by unfold eminI at *; omega) (by omega)).1 (Int.le_refl _)
  have h2 : Lt2 N D (lgS e N D + 1) := Classical.byContradiction fun hh => by
    have := (lg_iff h (t := lgS e N D + 1) (by unfold eminI at *; omega) (by omega)).2 hh
    omega
  unfold reS
  exact ⟨fun hh => h1 (lt2_mono hh (by omega)), lt2_mono h2 (by omega)⟩
theorem re_iff {e m N D : Nat} (h : SqOk e m N D) {t : Int} (h1 : eminI e - 100 ≤ t) (h2 : t ≤ bias e) : t ≤ reS e N D ↔ ¬ Lt2 N D (2 * t) := by
  rw [← lg_iff h (t := 2 * t) (by omega) (by omega)]
  unfold reS
  omega
theorem ex_bd {e m N D : Nat} (h : SqOk e m N D) : eminI e ≤ exS e N D ∧ exS e N D < bias e := by
  have hb := bias_bd h.fm
  have hl := lg_bd h
  unfold exS reS eminI at *
  omega
theorem rn_le {m : Nat} {mode : Int} {N D : Nat} {ex : Int} (hD : 0 < D) (h : Lt2 N D (2 * ex + 2)) : rnS m mode N D ex ≤ 2 ^ (m + 1) := by
  have h1 := lt2_scale (k := 2 * ((m : Int) - ex)) (j := m + 1 + (m + 1)) h (by omega)
  rw [Nat.pow_add] at h1
  exact rtN_le (shD_pos hD _) h1
theorem rn_ge {m : Nat} {mode : Int} {N D : Nat} {ex : Int} (hD : 0 < D) (h : ¬ Lt2 N D (2 * ex)) : 2 ^ m ≤ rnS m mode N D ex := by
  rw [lt2_scale_iff (k := 2 * ((m : Int) - ex)) (j := m + m) (by omega), Nat.pow_add] at h
  exact Nat.le_trans (rtF_ge (shD_pos hD _) (by omega)) rtN_ge
theorem ex_lt2 {e m N D : Nat} (h : SqOk e m N D) : Lt2 N D (2 * exS e N D + 2) := lt2_mono (re_lt2 h).2 (by unfold exS; omega)
theorem man_eq {e m : Nat} {mode : Int} {N D : Nat} (h : SqOk e m N D) : manS e m mode N D = rnS m mode N D (exS e N D) := by
  have h1 := rn_le (m := m) (mode := mode) h.d0 (ex_lt2 h)
  obtain ⟨_, _, hm1, hm2⟩ := h.fm
  have h4 := pow_le_of (show m + 1 ≤ 53 by omega)
  have h5 : (2 : Nat) ^ 53 = 9007199254740992 := by decide
  unfold manS
  exact Nat.mod_eq_of_lt (by omega)
theorem man_bd {e m : Nat} {mode : Int} {N D : Nat} (h : SqOk e m N D) : manS e m mode N D ≤ 2 ^ (m + 1) ∧ (exS e N D = eminI e ∨ 2 ^ m ≤ manS e m mode N D) := by
  rw [man_eq h]
  refine ⟨rn_le h.d0 (ex_lt2 h), ?_⟩
  by_cases hc : exS e N D = eminI e
  · exact .inl hc
  · right
    have : exS e N D = reS e N D := by unfold exS at *; omega
    rw [this]
    exact rn_ge h.d0 (re_lt2 h).1
theorem sq_pack {e m : Nat} {mode : Int} {N D : Nat} (h : SqOk e m N D) : packX e m (exS e N D) (manS e m mode N D) < infP e m := by
  have h1 := ex_bd h
  have h2 := (man_bd (mode := mode) h).1
  have hb2 := bias_two h.fm
  have hPP : 2 ^ (m + 1) = 2 * 2 ^ m := by rw [Nat.pow_succ]; omega
  have hk : (exS e N D - eminI e).toNat + 2 ≤ 2 ^ e - 2 := by unfold eminI at *; omega
  have hk2 : ((exS e N D - eminI e).toNat + 2) * 2 ^ m ≤ (2 ^ e - 2) * 2 ^ m := Nat.mul_le_mul_right _ hk
  have h4 : (2 ^ e - 1) * 2 ^ m = (2 ^ e - 2) * 2 ^ m + 2 ^ m := by
    rw [show 2 ^ e - 1 = 2 ^ e - 2 + 1 by omega, Nat.add_mul, Nat.one_mul]
  have := two_pos m
  rw [Nat.add_mul] at hk2
  unfold packX infP
  omega
theorem sqV_eq {e m : Nat} {mode : Int} {N D : Nat} (h : SqOk e m N D) : sqV e m mode N D = packX e m (exS e N D) (manS e m mode N D) + sg e m false := by
  have := sq_pack (mode := mode) h
  unfold sqV packV
  rw [if_neg (by omega)]
theorem sqF_eq {e m : Nat} {mode : Int} {N D : Nat} (h : SqOk e m N D) : sqF e m mode N D = if smS m N D (exS e N D) = false then 0 else if tinyS e m mode N D then 24 else 16 := by
  have := sq_pack (mode := mode) h
  unfold sqF packF
  rw [if_neg (by omega)]
  cases smS m N D (exS e N D) <;> rfl
theorem toNat_two (x : Int) : (2 * x).toNat = x.toNat + x.toNat := by omega
/-- The root's square is the operand just where nothing was left. -/
theorem sq_exact {e m : Nat} {mode : Int} {N D : Nat} (h : SqOk e m N D) :
    vNum e m (sqV e m mode N D) * vNum e m (sqV e m mode N D) * D = N * (vDen e m (sqV e m mode N D) * vDen e m (sqV e m mode N D)) ↔ smS m N D (exS e N D) = false := by
  have hv := pack_val h.fm (ex_bd h).1 (man_bd (mode := mode) h).1 (man_bd (mode := mode) h).2 (sq_pack h) false
  rw [← sqV_eq h] at hv
  have hre := rt_exact (mode := mode) (num := shN N (2 * ((m : Int) - exS e N D))) (den := shD D (2 * ((m : Int) - exS e N D))) (shD_pos h.d0 _)
  rw [show rtN mode (shN N (2 * ((m : Int) - exS e N D))) (shD D (2 * ((m : Int) - exS e N D))) = manS e m mode N D from (man_eq h).symm] at hre
  rw [show smS m N D (exS e N D) = rtS (rtF (shN N (2 * ((m : Int) - exS e N D))) (shD D (2 * ((m : Int) - exS e N D)))) (shN N (2 * ((m : Int) - exS e N D))) (shD D (2 * ((m : Int) - exS e N D))) from rfl, ← hre]
  have p3 : 0 < vDen e m (sqV e m mode N D) := two_pos _
  generalize vNum e m (sqV e m mode N D) = rn at *
  generalize vDen e m (sqV e m mode N D) = rd at *
  generalize manS e m mode N D = r at *
  have e1 : shN N (2 * ((m : Int) - exS e N D)) = N * (shD 1 (exS e N D - m) * shD 1 (exS e N D - m)) := by
    unfold shN shD
    rw [toNat_two, Nat.pow_add, Nat.one_mul, show -(exS e N D - (m : Int)) = (m : Int) - exS e N D by omega]
  have e2 : shD D (2 * ((m : Int) - exS e N D)) = D * (shN 1 (exS e N D - m) * shN 1 (exS e N D - m)) := by
    unfold shN shD
    rw [show -(2 * ((m : Int) - exS e N D)) = 2 * (exS e N D - m) by omega, toNat_two, Nat.pow_add, Nat.one_mul]
  have e3 : shN r (exS e N D - m) = r * shN 1 (exS e N D - m) := by unfold shN; rw [Nat.one_mul]
  rw [e3] at hv
  rw [e1, e2]
  have pA : 0 < shN 1 (exS e N D - m) := by unfold shN; rw [Nat.one_mul]; exact two_pos _
  have pB := sh1_pos (exS e N D - m)
  generalize shN 1 (exS e N D - m) = A at *
  generalize shD 1 (exS e N D - m) = B at *
  -- rn * B = r * A * rd
  have hsq : rn * rn * (B * B) = r * r * (A * A) * (rd * rd) := by
    calc rn * rn * (B * B) = rn * B * (rn * B) := by ac_rfl
      _ = r * A * rd * (r * A * rd) := by rw [hv]
      _ = r * r * (A * A) * (rd * rd) := by ac_rfl
  constructor
  · intro hh
    refine Nat.eq_of_mul_eq_mul_right (Nat.mul_pos p3 p3) ?_
    calc r * r * (D * (A * A)) * (rd * rd) = r * r * (A * A) * (rd * rd) * D := by ac_rfl
      _ = rn * rn * (B * B) * D := by rw [hsq]
      _ = rn * rn * D * (B * B) := by ac_rfl
      _ = N * (rd * rd) * (B * B) := by rw [hh]
      _ = N * (B * B) * (rd * rd) := by ac_rfl
  · intro hh
    refine Nat.eq_of_mul_eq_mul_right (Nat.mul_pos pB pB) ?_
    calc rn * rn * D * (B * B) = rn * rn * (B * B) * D := by ac_rfl
      _ = r * r * (A * A) * (rd * rd) * D := by rw [hsq]
      _ = r * r * (D * (A * A)) * (rd * rd) := by ac_rfl
      _ = N * (B * B) * (rd * rd) := by rw [hh]
      _ = N * (rd * rd) * (B * B) := by ac_rfl

/-! ### Four times the operand, rounded, is itself -/
theorem lt2_four {n d : Nat} {t : Int} : Lt2 (n * 4) d (t + 2) ↔ Lt2 n d t := by
  rw [show n * 4 = n * 2 * 2 by omega, show t + 2 = t + 1 + 1 by omega, lt2_twice, lt2_twice]
theorem some_int {c N D : Nat} {p k : Int} (hD : 0 < D) (hx : N * shD 1 p = shN c p * D) (hk : 0 ≤ p + 2 + k) : someQ (shN (N * 4) k) (shD D k) = false := by
  have hz : shN (N * 4) k = c * 2 ^ (p + 2 + k).toNat * shD D k := by
    refine Nat.eq_of_mul_eq_mul_right (sh1_pos p) ?_
    have e1 : shN (N * 4) k * shD 1 p = N * shD 1 p * 4 * 2 ^ k.toNat := by unfold shN; ac_rfl
    rw [e1, hx]
    unfold shN shD
    rw [Nat.one_mul]
    have e2 : c * 2 ^ p.toNat * D * 4 * 2 ^ k.toNat = c * D * (2 ^ (p.toNat + k.toNat + 2)) := by
      rw [Nat.pow_add, Nat.pow_add, show (2 : Nat) ^ 2 = 4 from rfl]; ac_rfl
    have e3 : c * 2 ^ (p + 2 + k).toNat * (D * 2 ^ (-k).toNat) * 2 ^ (-p).toNat = c * D * (2 ^ ((p + 2 + k).toNat + (-k).toNat + (-p).toNat)) := by
      rw [Nat.pow_add, Nat.pow_add]; ac_rfl
    rw [e2, e3, show p.toNat + k.toNat + 2 = (p + 2 + k).toNat + (-k).toNat + (-p).toNat by omega]
  unfold someQ
  rw [hz, Nat.mul_mod_left]
  rfl
/-- Rounding what fits. -/
theorem rnd_fits {e m : Nat} (h : Fm e m) (mode : Int) {n d : Nat} (hn : 0 < n) (hd : 0 < d) (hlt : Lt2 n d ((bias e : Int) + 1)) (hs : smQ e m n d = false) :
    packX e m (expQ e n d) (manQ e m mode false n d) < infP e m ∧ rndV e m mode false n d = packX e m (expQ e n d) (manQ e m mode false n d) + sg e m false ∧ vNum e m (rndV e m mode false n d) * d = n * vDen e m (rndV e m mode false n d) := by
  have hb := bias_bd h
  have hb2 := bias_two h
  have hx : ¬ (bias e : Int) < expQ e n d := fun hh => (exp_over h hn hd).1 hh hlt
  have hem : eminI e ≤ expQ e n d := by unfold expQ; omega
  have hmle := manQ_le h mode false n d hd hx
  have hfu := man_full h mode false n d hn hd hx
  have hre := raised_exact (mode := mode) (neg := false) (n := shN n ((m : Int) - expQ e n d)) (d := shD d ((m : Int) - expQ e n d)) (shD_pos hd _)
  rw [← manQ_eq h mode false n d hd hx] at hre
  have hman := hre.2 hs
  have hlt2 : manQ e m mode false n d < 2 ^ (m + 1) := by
    have h1 := div_bd h hd hx
    rw [← hman, Nat.mul_div_cancel _ (shD_pos hd _)] at h1
    exact h1
  have hPP : 2 ^ (m + 1) = 2 * 2 ^ m := by rw [Nat.pow_succ]; omega
  have hX : packX e m (expQ e n d) (manQ e m mode false n d) < infP e m := by
    have hk : (expQ e n d - eminI e).toNat + 2 ≤ 2 ^ e - 1 := by unfold eminI at *; omega
    have hk2 : ((expQ e n d - eminI e).toNat + 2) * 2 ^ m ≤ (2 ^ e - 1) * 2 ^ m := Nat.mul_le_mul_right _ hk
    rw [Nat.add_mul] at hk2
    unfold packX infP
    omega
  have hR : rndV e m mode false n d = packX e m (expQ e n d) (manQ e m mode false n d) + sg e m false := by
    unfold rndV
    rw [if_neg (by omega), if_neg hx]
    unfold packV
    rw [if_neg (by omega)]
  refine ⟨hX, hR, ?_⟩
  have hv := pack_val h hem hmle hfu hX false
  rw [hR]
  generalize packX e m (expQ e n d) (manQ e m mode false n d) + sg e m false = x at *
  generalize manQ e m mode false n d = man at *
  rw [shD_one d, shN_one n, show -((m : Int) - expQ e n d) = expQ e n d - m by omega] at hman
  rw [shN_one man, show -(expQ e n d - (m : Int)) = (m : Int) - expQ e n d by omega] at hv
  have p1 := sh1_pos (expQ e n d - m)
  generalize shD 1 (expQ e n d - m) = A at *
  generalize shD 1 ((m : Int) - expQ e n d) = B at *
  generalize vNum e m x = vn at *
  generalize vDen e m x = vd at *
  refine Nat.eq_of_mul_eq_mul_right p1 ?_
  calc vn * d * A = vn * A * d := by ac_rfl
    _ = man * B * vd * d := by rw [hv]
    _ = man * (d * B) * vd := by ac_rfl
    _ = n * A * vd := by rw [hman]
    _ = n * vd * A := by ac_rfl
theorem exp_le {e m n d : Nat} (h : Fm e m) (hn : 0 < n) (hd : 0 < d) {t : Int} (h1 : eminI e ≤ t) (h2 : Lt2 n d (t + 1)) (hlt : Lt2 n d ((bias e : Int) + 1)) : expQ e n d ≤ t := by
  have hb := bias_bd h
  have hx : ¬ (bias e : Int) < expQ e n d := fun hh => (exp_over h hn hd).1 hh hlt
  rcases Int.lt_or_le (bias e : Int) t with h' | h'
  · omega
  · have := real_iff hn hd (lo := eminI e - 1) (hi := bias e) (t := t + 1) (by omega) (by omega) (by unfold eminI; omega)
    have h4 : ¬ t + 1 ≤ realQ e n d := fun hh => this.1 hh h2
    unfold expQ
    omega
theorem four_fits {e m x : Nat} (h : Fm e m) (hc : cls e m x = 1 ∨ cls e m x = 2) (hn : 0 < vNum e m x) (hlt : Lt2 (vNum e m x) (vDen e m x) (2 * eminI e)) :
    (cls e m (rndV e m 0 false (vNum e m x * 4) (vDen e m x)) = 1 ∨ cls e m (rndV e m 0 false (vNum e m x * 4) (vDen e m x)) = 2) ∧ ngB e m (rndV e m 0 false (vNum e m x * 4) (vDen e m x)) = false ∧
      vNum e m (rndV e m 0 false (vNum e m x * 4) (vDen e m x)) * vDen e m x = vNum e m x * 4 * vDen e m (rndV e m 0 false (vNum e m x * 4) (vDen e m x)) := by
  have hb := bias_bd h
  have hD : 0 < vDen e m x := two_pos _
  obtain ⟨c, p, h1, h2, h3, h4, h5⟩ := pat_int h hc
  generalize vNum e m x = N at *
  generalize vDen e m x = D at *
  have hn4 : 0 < N * 4 := by omega
  have hl4 : Lt2 (N * 4) D ((bias e : Int) + 1) := lt2_mono (lt2_four.2 hlt) (by unfold eminI; omega)
  have hlp : Lt2 (N * 4) D (p + m + 2 + 1) := by
    rw [show p + m + 2 + 1 = (p + ((m + 1 : Nat) : Int)) + 2 by omega, lt2_four, lt2_cross hD (sh1_pos p) h5, lt2_int]
    exact h2
  have hex := exp_le h hn4 hD (t := p + m + 2) (by omega) hlp hl4
  have hs : smQ e m (N * 4) D = false := some_int hD h5 (by omega)
  obtain ⟨hX, hR, hv⟩ := rnd_fits h 0 hn4 hD hl4 hs
  obtain ⟨hef, hfl⟩ := pack_ef h hX false
  rw [← hR] at hef
  have hng : ngB e m (rndV e m 0 false (N * 4) D) = false := by
    rw [hR]
    have hi := infP_bd h
    unfold ngB sg
    rw [if_neg (by decide), Nat.add_zero]
    have : packX e m (expQ e (N * 4) D) (manQ e m 0 false (N * 4) D) / 2 ^ (e + m) = 0 := Nat.div_eq_of_lt (by unfold sgn at hi; omega)
    rw [this]
    rfl
  refine ⟨?_, hng, hv⟩
  generalize rndV e m 0 false (N * 4) D = y at *
  have hvn : vNum e m y ≠ 0 := by
    intro hz
    rw [hz, Nat.zero_mul] at hv
    have := Nat.mul_pos hn4 (show 0 < vDen e m y from two_pos _)
    omega
  have hc0 : cls e m y ≠ 0 := by
    intro hz
    refine hvn ?_
    unfold vNum pMan
    rw [hz, if_neg (by decide), if_neg (by decide), Nat.zero_mul]
  have hc3 : cls e m y < 3 := by
    have := cls_fin e m y
    rw [decide_eq_decide] at this
    exact this.2 (by omega)
  omega
end Go.Proofs.YgcoacGreat
