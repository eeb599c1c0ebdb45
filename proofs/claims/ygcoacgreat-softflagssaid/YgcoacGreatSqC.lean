/-
  THE ROOT's flags, plainly: tininess.
-/
import Derived.Test.YgcoacGreatSqB
namespace Go.Proofs.YgcoacGreat
open Go.RowKit
set_option linter.unusedSimpArgs false
set_option linter.unusedVariables false

def fourS (e m N D : Nat) : Nat := rndV e m 0 false (N * 4) D
def tinyLS (e m : Nat) (mode : Int) (N D W : Nat) : Bool :=
  if csQ N D (p2N (2 * leastQ e)) (p2D (2 * leastQ e)) < 0 then
    (if 0 ≤ csQ N D (p2N (2 * leastQ e - 2)) (p2D (2 * leastQ e - 2)) then decide (csQ (vNum e m W) (vDen e m W) (p2N (leastQ e + 1)) (p2D (leastQ e + 1)) < 0) else true)
  else false
theorem cs_ge {n d : Nat} {k : Int} : 0 ≤ csQ n d (p2N k) (p2D k) ↔ ¬ Lt2 n d k := by
  rw [← cs_lt (n := n) (d := d) (k := k)]
  omega
theorem sq_tiny {e m x : Nat} (h : Fm e m) (mode : Int) (hc : cls e m x = 1 ∨ cls e m x = 2) (hn : 0 < vNum e m x) :
    tinyLS e m mode (vNum e m x) (vDen e m x) (sqV e m mode (vNum e m (fourS e m (vNum e m x) (vDen e m x))) (vDen e m (fourS e m (vNum e m x) (vDen e m x)))) = tinyS e m mode (vNum e m x) (vDen e m x) := by
  have hb := bias_bd h
  have hok := sqOk_of h hc hn
  have hff := four_fits h hc hn
  have hD : 0 < vDen e m x := two_pos _
  have r1 := re_iff hok (t := eminI e) (by omega) (by unfold eminI; omega)
  have r2 := re_iff hok (t := eminI e - 1) (by omega) (by unfold eminI; omega)
  have hL := re_lt2 hok
  generalize vNum e m x = N at *
  generalize vDen e m x = D at *
  unfold tinyLS tinyS
  rw [show leastQ e = eminI e from rfl]
  by_cases q1 : Lt2 N D (2 * eminI e)
  · have hr1 : reS e N D < eminI e := by
      rcases Int.lt_or_le (reS e N D) (eminI e) with h' | h'
      · exact h'
      · exact absurd q1 (r1.1 h')
    rw [if_pos (cs_lt.2 q1)]
    by_cases q2 : Lt2 N D (2 * eminI e - 2)
    · rw [if_neg (fun hh => cs_ge.1 hh q2)]
      have hr2 : ¬ eminI e - 1 ≤ reS e N D := fun hh => r2.1 hh (by rw [show 2 * (eminI e - 1) = 2 * eminI e - 2 by omega]; exact q2)
      rw [if_neg (by omega)]
      exact (decide_eq_true hr1).symm
    · rw [if_pos (cs_ge.2 q2)]
      have hr2 : eminI e - 1 ≤ reS e N D := r2.2 (by rw [show 2 * (eminI e - 1) = 2 * eminI e - 2 by omega]; exact q2)
      have hre : reS e N D = eminI e - 1 := by omega
      rw [if_pos hre, hre]
      obtain ⟨hc4, hng, hx4⟩ := hff q1
      have hlo : 2 ^ m ≤ rnS m mode N D (eminI e - 1) := rn_ge hD (by rw [show 2 * (eminI e - 1) = 2 * eminI e - 2 by omega]; exact q2)
      unfold fourS
      generalize rndV e m 0 false (N * 4) D = y at *
      have hn4 : 0 < vNum e m y := by
        rcases Nat.eq_zero_or_pos (vNum e m y) with hz | hz
        · rw [hz, Nat.zero_mul] at hx4
          have := Nat.mul_pos (show 0 < N * 4 by have := hok.n0; omega) (show 0 < vDen e m y from two_pos _)
          omega
        · exact hz
      have hok4 := sqOk_of h hc4 hn4
      have hD4 := hok4.d0
      have s1 := re_iff hok4 (t := eminI e) (by omega) (by unfold eminI; omega)
      generalize vNum e m y = N4 at *
      generalize vDen e m y = D4 at *
      have t1 : ¬ Lt2 N4 D4 (2 * eminI e) := by
        rw [lt2_cross hD4 hD hx4, show 2 * eminI e = 2 * eminI e - 2 + 2 by omega, lt2_four]; exact q2
      have t2 : Lt2 N4 D4 (2 * eminI e + 2) := by
        rw [lt2_cross hD4 hD hx4, lt2_four]; exact q1
      have hre4 : reS e N4 D4 = eminI e := by
        have a1 := s1.2 t1
        have a2 := (re_lt2 hok4).1
        rcases Int.lt_or_le (eminI e) (reS e N4 D4) with h' | h'
        · exact absurd (lt2_mono t2 (by omega)) a2
        · omega
      have hex4 : exS e N4 D4 = eminI e := by unfold exS; omega
      have k0 : 0 ≤ (m : Int) - eminI e := by unfold eminI; omega
      have hman : manS e m mode N4 D4 = rnS m mode N D (eminI e - 1) := by
        rw [man_eq hok4, hex4]
        unfold rnS
        refine rtN_cross (shD_pos hD4 _) (shD_pos hD _) ?_
        unfold shN shD
        rw [show (-(2 * ((m : Int) - (eminI e - 1)))).toNat = 0 by omega, show (-(2 * ((m : Int) - eminI e))).toNat = 0 by omega, show (2 * ((m : Int) - (eminI e - 1))).toNat = (2 * ((m : Int) - eminI e)).toNat + 2 by omega, Nat.pow_add, Nat.pow_zero, Nat.mul_one, Nat.mul_one, show (2 : Nat) ^ 2 = 4 from rfl]
        generalize 2 ^ (2 * ((m : Int) - eminI e)).toNat = T
        calc N4 * T * D = N4 * D * T := by ac_rfl
          _ = N * 4 * D4 * T := by rw [hx4]
          _ = N * (T * 4) * D4 := by ac_rfl
      have hv := pack_val h (ex_bd hok4).1 (man_bd (mode := mode) hok4).1 (man_bd (mode := mode) hok4).2 (sq_pack hok4) false
      rw [← sqV_eq hok4, hex4, hman] at hv
      generalize sqV e m mode N4 D4 = z at *
      generalize rnS m mode N D (eminI e - 1) = man at *
      have hcs := cs_lt (n := vNum e m z) (d := vDen e m z) (k := eminI e + 1)
      rw [lt2_scale_iff (k := (m : Int) - eminI e) (j := m + 1) (by omega)] at hcs
      have z1 : shN (vNum e m z) ((m : Int) - eminI e) = vNum e m z * shD 1 (eminI e - m) := by
        unfold shN shD; rw [Nat.one_mul, show -(eminI e - (m : Int)) = (m : Int) - eminI e by omega]
      have z2 : shD (vDen e m z) ((m : Int) - eminI e) = vDen e m z := by
        unfold shD; rw [show (-((m : Int) - eminI e)).toNat = 0 by omega]; simp
      have z3 : shN man (eminI e - m) = man := by unfold shN; rw [show (eminI e - (m : Int)).toNat = 0 by omega]; simp
      have hvp : 0 < vDen e m z := two_pos _
      rw [z1, z2, hv, z3, Nat.mul_comm man] at hcs
      have hcs2 : csQ (vNum e m z) (vDen e m z) (p2N (eminI e + 1)) (p2D (eminI e + 1)) < 0 ↔ man < 2 ^ (m + 1) := by
        rw [hcs]
        exact ⟨fun hh => Nat.lt_of_mul_lt_mul_left hh, fun hh => Nat.mul_lt_mul_of_pos_left hh hvp⟩
      rw [decide_eq_decide, hcs2]
      constructor
      · intro hh
        rw [bits_eq hlo hh]; omega
      · intro hh
        have b1 := bits_lt man
        have b2 : bits man = m + 1 := by omega
        rw [b2] at b1; exact b1
  · rw [if_neg (fun hh => q1 (cs_lt.1 hh))]
    have hr1 := r1.2 q1
    rw [if_neg (by omega)]
    exact (decide_eq_false (by omega)).symm
/-- cmpFrac of two that are not negative. -/
theorem cmpQ_pos (a ad b bd : Nat) : cmpQ false a ad false b bd = csQ a ad b bd := by
  have hne : (false : Bool) ≠ !false := by decide
  unfold cmpQ csQ
  by_cases hle : b * ad ≤ a * bd
  · obtain ⟨g1, g2⟩ := s_ge (a := a) (ad := ad) (b := b) (bd := bd) hne hle
    rw [g1, g2]
    by_cases h2 : a * bd = b * ad
    · rw [if_pos (by omega), cmpI_eq h2]
    · rw [if_neg (by omega), if_neg (by decide), cmpI_gt (by omega)]
  · obtain ⟨g1, g2⟩ := s_lt (a := a) (ad := ad) (b := b) (bd := bd) hne hle
    rw [g1, g2, if_neg (by omega), if_pos (by decide), cmpI_lt (by omega)]
end Go.Proofs.YgcoacGreat
