/-
  THE FLAGS, plainly: what log2Q says of n/d; the rest is zero or not.
-/
import Derived.Test.YgcoacGreatExC
namespace Go.Proofs.YgcoacGreat
open Go.RowKit
set_option linter.unusedSimpArgs false
set_option linter.unusedVariables false

theorem not_lt2_low {n d : Nat} (hn : 0 < n) : ¬ Lt2 n d ((bits n : Int) - (bits d : Int) - 1) := by
  have h1 := bits_le hn
  have h2 := bits_lt d
  have h3 := bits_pos' hn
  unfold Lt2 shN shD
  rw [Int.neg_neg]
  obtain ⟨p, hp⟩ : ∃ p, ((bits n : Int) - (bits d : Int) - 1).toNat = p := ⟨_, rfl⟩
  obtain ⟨q, hq⟩ : ∃ q, (-((bits n : Int) - (bits d : Int) - 1)).toNat = q := ⟨_, rfl⟩
  rw [hp, hq]
  have e : bits n - 1 + q = bits d + p := by omega
  have h4 : d * 2 ^ p ≤ 2 ^ bits d * 2 ^ p := Nat.mul_le_mul_right _ (Nat.le_of_lt h2)
  have h5 : 2 ^ (bits n - 1) * 2 ^ q ≤ n * 2 ^ q := Nat.mul_le_mul_right _ h1
  rw [← Nat.pow_add, e, Nat.pow_add] at h5
  omega
theorem real_iff {n d : Nat} (hn : 0 < n) (hd : 0 < d) {lo hi t : Int} (h1 : lo ≤ t) (h2 : t ≤ hi + 1) (hlh : lo ≤ hi) : t ≤ log2Q n d lo hi ↔ ¬ Lt2 n d t := by
  have ht := lt2_top (n := n) hd
  have hl := not_lt2_low (d := d) hn
  unfold log2Q
  generalize (bits n : Int) - (bits d : Int) = x at *
  split
  · rename_i c1
    exact ⟨fun _ h => hl (lt2_mono h (by omega)), fun _ => h2⟩
  · split
    · rename_i c2
      exact ⟨fun h => by omega, fun h => absurd (lt2_mono ht (by omega)) h⟩
    · split
      · rename_i c3
        have c3' : Lt2 n d x := c3
        exact ⟨fun h hh => hl (lt2_mono hh (by omega)), fun h => by
          rcases Int.lt_or_le (x - 1) t with h' | h'
          · exact absurd (lt2_mono c3' (by omega)) h
          · exact h'⟩
      · rename_i c3
        have c3' : ¬ Lt2 n d x := c3
        exact ⟨fun h hh => c3' (lt2_mono hh h), fun h => by
          rcases Int.lt_or_le x t with h' | h'
          · exact absurd (lt2_mono ht (by omega)) h
          · exact h'⟩
theorem exp_over {e m n d : Nat} (h : Fm e m) (hn : 0 < n) (hd : 0 < d) : (bias e : Int) < expQ e n d ↔ ¬ Lt2 n d ((bias e : Int) + 1) := by
  have hb := bias_bd h
  rw [← real_iff hn hd (lo := eminI e - 1) (hi := bias e) (by unfold eminI; omega) (Int.le_refl _) (by unfold eminI; omega)]
  unfold expQ realQ eminI
  omega
theorem real_lt {e m n d : Nat} (h : Fm e m) (hn : 0 < n) (hd : 0 < d) : realQ e n d < eminI e ↔ Lt2 n d (eminI e) := by
  have hb := bias_bd h
  have := real_iff hn hd (lo := eminI e - 1) (hi := bias e) (t := eminI e) (by omega) (by unfold eminI; omega) (by unfold eminI; omega)
  unfold realQ
  constructor
  · intro h1
    refine Classical.byContradiction fun h2 => ?_
    have := this.2 h2
    omega
  · intro h1
    rcases Int.lt_or_le (log2Q n d (eminI e - 1) (bias e)) (eminI e) with h2 | h2
    · exact h2
    · exact absurd h1 (this.1 h2)
theorem real_sub {e m n d : Nat} (h : Fm e m) (hn : 0 < n) (hd : 0 < d) : eminI e - 1 ≤ realQ e n d ↔ ¬ Lt2 n d (eminI e - 1) := by
  have hb := bias_bd h
  exact real_iff hn hd (lo := eminI e - 1) (hi := bias e) (Int.le_refl _) (by unfold eminI; omega) (by unfold eminI; omega)

/-! ### The rest -/
theorem cmp_zero {d : Nat} (hd : 0 < d) : cmpI 0 d = -1 := cmpI_lt hd
theorem raised_exact {mode : Int} {neg : Bool} {n d : Nat} (hd : 0 < d) : raisedN mode neg n d * d = n ↔ someQ n d = false := by
  have e := Nat.div_add_mod n d
  rw [Nat.mul_comm] at e
  have hm := Nat.mod_lt n hd
  unfold someQ
  constructor
  · intro h
    simp only [decide_eq_false_iff_not, ne_eq, Classical.not_not]
    unfold raisedN at h
    split at h
    · rw [Nat.add_mul, Nat.one_mul] at h; omega
    · omega
  · intro h
    have hz : n % d = 0 := by simpa using h
    have hr : raisesQ mode neg (decide (n / d % 2 = 1)) (halfQ n d) (someQ n d) = false := by
      unfold halfQ someQ
      rw [hz, Nat.zero_mul, cmp_zero hd]
      unfold raisesQ
      split
      · simp
      · split
        · rfl
        · split
          · simp
          · split <;> simp
    unfold raisedN
    rw [hr, if_neg (by decide)]
    omega
end Go.Proofs.YgcoacGreat
