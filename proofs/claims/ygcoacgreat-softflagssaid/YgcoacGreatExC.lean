/-
  exact.MakeRat; what RoundFlags answers, plainly.
-/
import Derived.Test.YgcoacGreatExB
namespace Go.Proofs.YgcoacGreat
open Go.RowKit
set_option linter.unusedSimpArgs false
set_option linter.unusedVariables false
attribute [local go_sem] nil_eq nil_ne

set_option maxHeartbeats 2000000 in
theorem makeRat_any (neg : Bool) (n d kn kd : Nat) (hn : n < W kn) (hd : d < W kd) (hkn : kn ≤ 1073741824) (hkd : kd ≤ 1073741824) (hd0 : 0 < d) (va vb : Value) (w : World) (ha : NatAt w va n) (hb : NatAt w vb d) :
    Calls Oacg.prog 83 #[.bool neg, va, vb] w fun r w' => (∃ v, r = .returned v ∧ RatAt w' v neg n d) ∧ Ext w w' := by
  have hE1 : Ext w (w.alloc (.cells #[.bool false, .slice none 0 0, .slice none 0 0] 60)) := (Ext.refl w).alloc _ _
  have HTB := hide (take_any d kd hd hkd vb _ (hb.ext hE1))
  have HTA := hide (fun wx (h : Ext w wx) => take_any n kn hn hkn va wx (ha.ext h))
  clear ha hb hE1 hn hd
  go_enter Oacg.func83, Oacg.ntmps83
  go_wp2_with fail
  refine HTB.out.mono ?_
  rintro _ w1 ⟨⟨v1, rfl, hv1⟩, hx1⟩
  have hE : Ext w w1 := ((Ext.refl w).alloc _ _).trans hx1
  obtain ⟨p1, k1, c1, rfl, hp1⟩ : ∃ p k c, v1 = .slice (some p) k c ∧ True := by
    rcases hv1 with ⟨h, _⟩ | ⟨l, b, off, cap, rfl, _⟩
    · omega
    · exact ⟨_, _, _, rfl, trivial⟩
  have HV1 := hide hv1
  have HX1 := hide hx1
  have HTA' := hide (HTA.out w1 hE)
  clear hv1 hE HTA HTB hx1
  go_wp2_with fail
  refine HTA'.out.mono ?_
  rintro _ w2 ⟨⟨v2, rfl, hv2⟩, hx2⟩
  obtain ⟨p2, k2, c2, rfl⟩ := hv2.shape
  have HX2 := hide (HX1.out.trans hx2)
  have HV2 := hide hv2
  have HV1' := hide (HV1.out.ext hx2)
  obtain ⟨q1, q2, q3⟩ := HX2.out.rule
  have hz : w.heap.size < w2.heap.size := by have := q3; simp at this; omega
  have d0 : w2.cell? ⟨w.heap.size, 0, none⟩ = some (.bool false) := by rw [q1 _ _ (by simp)]; simp [go_sem]
  have d1 : w2.cell? ⟨w.heap.size, 1, none⟩ = some (.slice none 0 0) := by rw [q1 _ _ (by simp)]; simp [go_sem]
  have d2 : w2.cell? ⟨w.heap.size, 2, none⟩ = some (.slice none 0 0) := by rw [q1 _ _ (by simp)]; simp [go_sem]
  have f0 : ∀ o, w2.frozen? ⟨w.heap.size, o, none⟩ = false := fun o => by rw [q2]; simp [go_sem]
  have HK := hide (keeps_rat (w := w2) (b := w.heap.size) d0 d1 d2 rfl rfl rfl)
  have HX3 : Hid (Ext w w2) := ((Ext.refl w).alloc _ _).trans HX2.out
  clear q1 q2 q3 hv2 hx2 HX1 HV1 HTA'
  go_wp2_with fail
  simp [bodyPost, results, Oacg.results83, go_sem, d0, d1, d2]
  exact ⟨⟨_, _, _, _, _, _, rfl, HK.out _ _ _ _ _ HV2.out, HK.out _ _ _ _ _ HV1'.out⟩, ((HX3.out.setCell (Nat.le_refl _) _).setCell (Nat.le_refl _) _).setCell (Nat.le_refl _) _⟩

/-! ### The rounding, plainly -/
def realQ (e n d : Nat) : Int := log2Q n d (eminI e - 1) (bias e)
def expQ (e n d : Nat) : Int := max (realQ e n d) (eminI e)
def fullQ (e m : Nat) (mode : Int) (neg : Bool) (n d : Nat) : Nat := raisedN mode neg (shN n ((m : Int) - realQ e n d)) (shD d ((m : Int) - realQ e n d))
def tinyQ (e m : Nat) (mode : Int) (neg : Bool) (n d : Nat) : Bool :=
  if realQ e n d = eminI e - 1 then decide ((bits (fullQ e m mode neg n d) : Int) = (m : Int) + 1) else decide (realQ e n d < eminI e)
def manQ (e m : Nat) (mode : Int) (neg : Bool) (n d : Nat) : Nat := raisedN mode neg (shN n ((m : Int) - expQ e n d)) (shD d ((m : Int) - expQ e n d)) % 18446744073709551616
def smQ (e m n d : Nat) : Bool := someQ (shN n ((m : Int) - expQ e n d)) (shD d ((m : Int) - expQ e n d))
def rndV (e m : Nat) (mode : Int) (neg : Bool) (n d : Nat) : Nat :=
  if n = 0 then sg e m neg else if (bias e : Int) < expQ e n d then overV e m mode neg else packV e m mode neg (expQ e n d) (manQ e m mode neg n d)
def rndF (e m : Nat) (mode : Int) (neg : Bool) (n d : Nat) : Int :=
  if n = 0 then 0 else if (bias e : Int) < expQ e n d then 20 else packF e m (expQ e n d) (manQ e m mode neg n d) (smQ e m n d) (tinyQ e m mode neg n d)

/-! ### n < d * 2^t -/
def Lt2 (n d : Nat) (t : Int) : Prop := shN n (-t) < shD d (-t)
theorem lt2_scale {n d : Nat} {t k : Int} {j : Nat} (h : Lt2 n d t) (hj : (j : Int) = t + k) : shN n k < shD d k * 2 ^ j := by
  unfold Lt2 shN shD at h
  unfold shN shD
  rw [Int.neg_neg] at h
  have e : k.toNat + t.toNat = j + (-k).toNat + (-t).toNat := by omega
  have h1 := Nat.mul_lt_mul_of_pos_right h (show 0 < 2 ^ k.toNat from Nat.pow_pos (by decide))
  rw [Nat.mul_assoc, Nat.mul_assoc, ← Nat.pow_add, ← Nat.pow_add, Nat.add_comm t.toNat, e] at h1
  have h2 : n * 2 ^ k.toNat * 2 ^ (-t).toNat < d * 2 ^ (-k).toNat * 2 ^ j * 2 ^ (-t).toNat := by
    rw [Nat.mul_assoc, ← Nat.pow_add, Nat.mul_assoc, Nat.mul_assoc, ← Nat.pow_add, ← Nat.pow_add, show (-k).toNat + (j + (-t).toNat) = j + (-k).toNat + (-t).toNat by omega, Nat.add_comm k.toNat]
    exact h1
  exact Nat.lt_of_mul_lt_mul_right h2
theorem lt2_mono {n d : Nat} {t u : Int} (h : Lt2 n d t) (hu : t ≤ u) : Lt2 n d u := by
  unfold Lt2
  obtain ⟨j, hj⟩ : ∃ j : Nat, u = t + j := ⟨(u - t).toNat, by omega⟩
  -- n * 2^(-u)⁺ < d * 2^(u)⁺
  have h1 := h
  unfold Lt2 shN shD at h1
  unfold shN shD
  rw [Int.neg_neg] at *
  have e1 : (-u).toNat ≤ (-t).toNat := by omega
  have e2 : t.toNat ≤ u.toNat := by omega
  exact Nat.lt_of_le_of_lt (Nat.mul_le_mul_left _ (pow_le_of e1)) (Nat.lt_of_lt_of_le h1 (Nat.mul_le_mul_left _ (pow_le_of e2)))
theorem lt2_top {n d : Nat} (hd : 0 < d) : Lt2 n d ((bits n : Int) - (bits d : Int) + 1) := by
  have h1 := bits_lt n
  have h2 := bits_le hd
  have h3 := bits_pos' hd
  unfold Lt2 shN shD
  rw [Int.neg_neg]
  obtain ⟨p, hp⟩ : ∃ p, ((bits n : Int) - (bits d : Int) + 1).toNat = p := ⟨_, rfl⟩
  obtain ⟨q, hq⟩ : ∃ q, (-((bits n : Int) - (bits d : Int) + 1)).toNat = q := ⟨_, rfl⟩
  rw [hp, hq]
  have e : bits n + q = bits d - 1 + p := by omega
  have h4 : n * 2 ^ q < 2 ^ bits n * 2 ^ q := Nat.mul_lt_mul_of_pos_right h1 (Nat.pow_pos (by decide))
  rw [← Nat.pow_add, e, Nat.pow_add] at h4
  exact Nat.lt_of_lt_of_le h4 (Nat.mul_le_mul_right _ h2)
theorem lt2_real {n d : Nat} (hd : 0 < d) {lo hi : Int} (hr : log2Q n d lo hi ≤ hi) (hlh : lo ≤ hi) {ex : Int} (h1 : log2Q n d lo hi ≤ ex) (h2 : lo ≤ ex + 1) : Lt2 n d (ex + 1) := by
  have ht := lt2_top (n := n) hd
  unfold log2Q at hr h1
  generalize (bits n : Int) - (bits d : Int) = x at *
  split at hr
  · omega
  · rename_i c1
    rw [if_neg c1] at h1
    split at hr
    · rename_i c2
      exact lt2_mono ht (by omega)
    · rename_i c2
      rw [if_neg c2] at h1
      split at hr
      · rename_i c3
        rw [if_pos c3] at h1
        have : Lt2 n d x := c3
        exact lt2_mono this (by omega)
      · rename_i c3
        rw [if_neg c3] at h1
        exact lt2_mono ht (by omega)
theorem raisedN_le {mode : Int} {neg : Bool} {n d B : Nat} (h : n < d * B) (hd : 0 < d) : raisedN mode neg n d ≤ B := by
  have : n / d < B := by rw [Nat.div_lt_iff_lt_mul hd, Nat.mul_comm]; exact h
  unfold raisedN
  split <;> omega
theorem W_ge {a b : Nat} (h : a ≤ 32 * b) : 2 ^ a ≤ W b := by rw [W_pow]; exact pow_le_of h
theorem shN_lt {n k : Nat} (hn : n < W k) {j : Int} (hj : j ≤ 65535) : shN n j < W (k + 2048) := by
  unfold shN
  rw [W_add]
  have h1 : 2 ^ j.toNat ≤ W 2048 := W_ge (by omega)
  exact Nat.lt_of_lt_of_le (Nat.mul_lt_mul_of_pos_right hn (Nat.pow_pos (by decide))) (Nat.mul_le_mul_left _ h1)
theorem shD_pos {d : Nat} (hd : 0 < d) (j : Int) : 0 < shD d j := Nat.mul_pos hd (Nat.pow_pos (by decide))
theorem realQ_bd (e n d : Nat) {m : Nat} (h : Fm e m) : eminI e - 2 ≤ realQ e n d ∧ realQ e n d ≤ (bias e : Int) + 1 := by
  have hb := bias_bd h
  unfold realQ log2Q eminI
  generalize (bits n : Int) - (bits d : Int) = x
  split
  · omega
  · split
    · omega
    · split <;> omega
theorem manQ_le {e m : Nat} (h : Fm e m) (mode : Int) (neg : Bool) (n d : Nat) (hd : 0 < d) (hx : ¬ (bias e : Int) < expQ e n d) : manQ e m mode neg n d ≤ 2 ^ (m + 1) := by
  have hb := bias_bd h
  have h1 : Lt2 n d (expQ e n d + 1) := by
    refine lt2_real hd (lo := eminI e - 1) (hi := bias e) ?_ ?_ ?_ ?_
    · have : realQ e n d ≤ expQ e n d := by unfold expQ; omega
      unfold realQ at this; omega
    · unfold eminI; omega
    · have : realQ e n d ≤ expQ e n d := by unfold expQ; omega
      unfold realQ at this; exact this
    · have : eminI e ≤ expQ e n d := by unfold expQ; omega
      omega
  have h2 := lt2_scale (k := (m : Int) - expQ e n d) (j := m + 1) h1 (by omega)
  unfold manQ
  exact Nat.le_trans (Nat.mod_le _ _) (raisedN_le h2 (shD_pos hd _))
end Go.Proofs.YgcoacGreat
