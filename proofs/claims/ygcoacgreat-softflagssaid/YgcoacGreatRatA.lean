/-
  exact.whole, exact.scaled.
-/
import Derived.Test.YgcoacGreatIeeeP
namespace Go.Proofs.YgcoacGreat
open Go.RowKit
set_option linter.unusedSimpArgs false
set_option linter.unusedVariables false

theorem NatAt.shape {w : World} {v : Value} {n : Nat} (h : NatAt w v n) : ∃ p k c, v = .slice p k c := by
  rcases h with ⟨_, rfl⟩ | ⟨l, b, off, cap, rfl, _⟩
  · exact ⟨_, _, _, rfl⟩
  · exact ⟨_, _, _, rfl⟩

/-- A fraction: its sign, its numerator, its denominator. -/
def RatAt (w : World) (v : Value) (neg : Bool) (n d : Nat) : Prop :=
  ∃ p k c p' k' c', v = .agg #[.bool neg, .slice p k c, .slice p' k' c'] ∧ NatAt w (.slice p k c) n ∧ NatAt w (.slice p' k' c') d
theorem RatAt.ext {w w' : World} {v : Value} {neg : Bool} {n d : Nat} (h : RatAt w v neg n d) (e : Ext w w') : RatAt w' v neg n d := by
  obtain ⟨p, k, c, p', k', c', h1, h2, h3⟩ := h
  exact ⟨p, k, c, p', k', c', h1, h2.ext e, h3.ext e⟩

/-! ### A store into a cell that holds no limb leaves every number as it was -/
def noLimb : Value → Bool
  | .int .u32 _ => false
  | _ => true
def Keeps (w w' : World) : Prop := ∀ v n, NatAt w v n → NatAt w' v n
theorem Keeps.refl (w : World) : Keeps w w := fun _ _ h => h
theorem Keeps.trans {a b c : World} (h : Keeps a b) (k : Keeps b c) : Keeps a c := fun v n x => k v n (h v n x)
theorem Ext.keeps {a b : World} (h : Ext a b) : Keeps a b := fun _ _ x => x.ext h
theorem keeps_setCell {w : World} {a : Addr} {u0 : Value} (h0 : w.cell? a = some u0) (hu : noLimb u0 = true) (u : Value) : Keeps w (w.setCell a u) := by
  intro v n h
  rcases h with h | ⟨l, b, off, cap, h1, h2, h3, h4, h5, h6, h7, h8⟩
  · exact .inl h
  · refine .inr ⟨l, b, off, cap, h1, h2, h3, h4, h5, h6, h7, fun j x hj => ?_⟩
    have hc := h8 j x hj
    rw [World.cell?_setCell_other]
    · exact hc
    · intro e
      rw [← e, h0] at hc
      obtain rfl : u0 = .int .u32 (x : Int) := by simpa using hc
      simp [noLimb] at hu
/-- A fraction's three cells are written. -/
theorem keeps_rat {w : World} {b : Nat} {x0 x1 x2 : Value} (h0 : w.cell? ⟨b, 0, none⟩ = some x0) (h1 : w.cell? ⟨b, 1, none⟩ = some x1) (h2 : w.cell? ⟨b, 2, none⟩ = some x2)
    (n0 : noLimb x0 = true) (n1 : noLimb x1 = true) (n2 : noLimb x2 = true) (u0 u1 u2 : Value) :
    Keeps w (((w.setCell ⟨b, 0, none⟩ u0).setCell ⟨b, 1, none⟩ u1).setCell ⟨b, 2, none⟩ u2) := by
  refine (keeps_setCell h0 n0 u0).trans ((keeps_setCell (u0 := x1) ?_ n1 u1).trans (keeps_setCell (u0 := x2) ?_ n2 u2))
  · rw [World.cell?_setCell_other _ _ _ _ (by simp)]; exact h1
  · rw [World.cell?_setCell_other _ _ _ _ (by simp), World.cell?_setCell_other _ _ _ _ (by simp)]; exact h2

set_option maxHeartbeats 400000 in
theorem whole_any (neg : Bool) (N : Nat) (v : Value) (w : World) (h : NatAt w v N) :
    Calls Oacg.prog 46 #[.bool neg, v] w fun r w' => (∃ u, r = .returned u ∧ RatAt w' u neg N 1) ∧ Ext w w' := by
  have H := hide h
  obtain ⟨p, k, c, rfl⟩ := h.shape
  clear h
  go_enter Oacg.func46, Oacg.ntmps46
  go_wp2_with fail
  refine (fromU64_any 1 (by decide) (by decide) _).mono ?_
  rintro r w1 ⟨⟨v1, rfl, hv1⟩, hext⟩
  obtain ⟨p1, k1, c1, rfl⟩ := hv1.shape
  obtain ⟨q1, q2, q3⟩ := hext.rule
  have HV := hide hv1
  have HE : Hid (Ext w w1) := ((Ext.refl _).alloc _ _).trans hext
  clear hext hv1
  have HK := hide (keeps_rat (b := w.heap.size) (w := w1) (x0 := .bool false) (x1 := .slice none 0 0) (x2 := .slice none 0 0) (by rw [q1 _ _ (by simp)]; simp) (by rw [q1 _ _ (by simp)]; simp) (by rw [q1 _ _ (by simp)]; simp) rfl rfl rfl (.bool neg) (.slice p k c) (.slice p1 k1 c1))
  go_wp2_with fail
  simp [bodyPost, results, Oacg.results46, go_sem, q1]
  exact ⟨⟨p, k, c, p1, k1, c1, rfl, HK.out _ _ (H.out.ext HE.out), HK.out _ _ HV.out⟩, ((HE.out.setCell (Nat.le_refl _) _).setCell (Nat.le_refl _) _).setCell (Nat.le_refl _) _⟩

theorem one_lt_W (k : Nat) (h : 0 < k) : 1 < W k := by
  have := W_mono (show 1 ≤ k from h)
  have e : W 1 = 4294967296 := rfl
  omega

set_option maxHeartbeats 400000 in
theorem scaled_neg (neg : Bool) (N : Nat) (j : Nat) (hj : 0 < j) (hj2 : j ≤ 65535) (v : Value) (w : World) (h : NatAt w v N) :
    Calls Oacg.prog 93 #[.bool neg, v, .int .i64 (-(j : Int))] w fun r w' => (∃ u, r = .returned u ∧ RatAt w' u neg N (2 ^ j)) ∧ Ext w w' := by
  have H := hide h
  obtain ⟨p, k, c, rfl⟩ := h.shape
  clear h
  go_enter Oacg.func93, Oacg.ntmps93
  go_wp2_with fail
  refine (fromU64_any 1 (by decide) (by decide) _).mono ?_
  rintro r w1 ⟨⟨v1, rfl, hv1⟩, hext⟩
  obtain ⟨p1, k1, c1, rfl⟩ := hv1.shape
  obtain ⟨q1, q2, q3⟩ := hext.rule
  have HV := hide hv1
  have HE := hide hext
  clear hext hv1
  go_wp2_with fail
  refine (shl_any 1 1 (one_lt_W 1 (by decide)) (by decide) j hj2 _ _ HV.out).mono ?_
  rintro r w2 ⟨⟨v2, rfl, hv2⟩, hext⟩
  obtain ⟨p2, k2, c2, rfl⟩ := hv2.shape
  rw [Nat.one_mul] at hv2
  have HV2 := hide hv2
  have HE2 := hide (HE.out.trans hext)
  clear hext hv2 q1 q2 q3
  obtain ⟨q1, q2, q3⟩ := HE2.out.rule
  have HK := hide (keeps_rat (b := w.heap.size) (w := w2) (x0 := .bool false) (x1 := .slice none 0 0) (x2 := .slice none 0 0) (by rw [q1 _ _ (by simp)]; simp) (by rw [q1 _ _ (by simp)]; simp) (by rw [q1 _ _ (by simp)]; simp) rfl rfl rfl (.bool neg) (.slice p k c) (.slice p2 k2 c2))
  go_wp2_with fail
  have hx : Ext w w2 := ((Ext.refl _).alloc _ _).trans HE2.out
  simp [bodyPost, results, Oacg.results93, go_sem, q1]
  exact ⟨⟨p, k, c, p2, k2, c2, rfl, HK.out _ _ (H.out.ext hx), HK.out _ _ HV2.out⟩, ((hx.setCell (Nat.le_refl _) _).setCell (Nat.le_refl _) _).setCell (Nat.le_refl _) _⟩

set_option maxHeartbeats 400000 in
theorem scaled_pos (neg : Bool) (N kn : Nat) (hN : N < W kn) (hkn : kn ≤ 1073741824) (j : Nat) (hj2 : j ≤ 65535) (v : Value) (w : World) (h : NatAt w v N) :
    Calls Oacg.prog 93 #[.bool neg, v, .int .i64 (j : Int)] w fun r w' => (∃ u, r = .returned u ∧ RatAt w' u neg (N * 2 ^ j) 1) ∧ Ext w w' := by
  have H := hide h
  obtain ⟨p, k, c, rfl⟩ := h.shape
  clear h
  have HN := hide hN
  clear hN
  go_enter Oacg.func93, Oacg.ntmps93
  go_wp2_with fail
  refine (shl_any N kn HN.out hkn j hj2 _ _ (H.out.ext ((Ext.refl _).alloc _ _))).mono ?_
  rintro r w1 ⟨⟨v1, rfl, hv1⟩, hext⟩
  obtain ⟨p1, k1, c1, rfl⟩ := hv1.shape
  have HV := hide hv1
  have HE := hide hext
  clear hext hv1
  go_wp2_with fail
  refine (whole_any neg _ _ _ HV.out).mono ?_
  rintro r w2 ⟨⟨v2, rfl, hv2⟩, hext⟩
  obtain ⟨p2, k2, c2, p3, k3, c3, rfl, hn, hd⟩ := hv2
  have HV2 := hide hn
  have HV3 := hide hd
  have HE2 := hide (HE.out.trans hext)
  clear hext hn hd
  obtain ⟨q1, q2, q3⟩ := HE2.out.rule
  have HK := hide (keeps_rat (b := w.heap.size) (w := w2) (x0 := .bool false) (x1 := .slice none 0 0) (x2 := .slice none 0 0) (by rw [q1 _ _ (by simp)]; simp) (by rw [q1 _ _ (by simp)]; simp) (by rw [q1 _ _ (by simp)]; simp) rfl rfl rfl (.bool neg) (.slice p2 k2 c2) (.slice p3 k3 c3))
  go_wp2_with fail
  have hx : Ext w w2 := ((Ext.refl _).alloc _ _).trans HE2.out
  simp [bodyPost, results, Oacg.results93, go_sem, q1]
  exact ⟨⟨p2, k2, c2, p3, k3, c3, rfl, HK.out _ _ HV2.out, HK.out _ _ HV3.out⟩, ((hx.setCell (Nat.le_refl _) _).setCell (Nat.le_refl _) _).setCell (Nat.le_refl _) _⟩

/-- n * 2^k, whatever k's sign. -/
theorem scaled_any (neg : Bool) (N kn : Nat) (hN : N < W kn) (hkn : kn ≤ 1073741824) (k : Int) (h1 : -65535 ≤ k) (h2 : k ≤ 65535) (v : Value) (w : World) (h : NatAt w v N) :
    Calls Oacg.prog 93 #[.bool neg, v, .int .i64 k] w fun r w' => (∃ u, r = .returned u ∧ RatAt w' u neg (N * 2 ^ k.toNat) (2 ^ (-k).toNat)) ∧ Ext w w' := by
  by_cases hk : k < 0
  · obtain ⟨j, rfl⟩ : ∃ j : Nat, k = -(j : Int) := ⟨(-k).toNat, by omega⟩
    have := scaled_neg neg N j (by omega) (by omega) v w h
    rw [show (-(j : Int)).toNat = 0 by omega, show (-(-(j : Int))).toNat = j by omega, Nat.pow_zero, Nat.mul_one]
    exact this
  · obtain ⟨j, rfl⟩ : ∃ j : Nat, k = (j : Int) := ⟨k.toNat, by omega⟩
    have := scaled_pos neg N kn hN hkn j (by omega) v w h
    rw [show ((j : Int)).toNat = j by omega, show (-((j : Int))).toNat = 0 by omega, Nat.pow_zero]
    exact this
end Go.Proofs.YgcoacGreat
