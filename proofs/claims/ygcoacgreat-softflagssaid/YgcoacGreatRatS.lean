/-
  exact.addRat: the sum of two fractions.
-/
import Derived.Test.YgcoacGreatLawA
namespace Go.Proofs.YgcoacGreat
open Go.RowKit
set_option linter.unusedSimpArgs false
set_option linter.unusedVariables false

/-- The sum's sign and numerator. -/
def sNeg (an : Bool) (a ad : Nat) (bn : Bool) (b bd : Nat) : Bool := if an = bn then an else if b * ad ≤ a * bd then an else bn
def sNum (an : Bool) (a ad : Nat) (bn : Bool) (b bd : Nat) : Nat := if an = bn then a * bd + b * ad else if b * ad ≤ a * bd then a * bd - b * ad else b * ad - a * bd

theorem mul_lt_W {a b k l : Nat} (ha : a < W k) (hb : b < W l) : a * b < W (k + l) := by
  rw [W_add]
  have h1 := W_pos l
  rcases Nat.eq_zero_or_pos a with h | h
  · rw [h, Nat.zero_mul]; exact Nat.mul_pos (W_pos k) h1
  · exact Nat.mul_lt_mul'' ha hb
theorem add_lt_W {a b k : Nat} (ha : a < W k) (hb : b < W k) : a + b < W (k + 1) := by
  rw [W_succ]; omega
theorem lt_W_mono {a k l : Nat} (ha : a < W k) (h : k ≤ l) : a < W l := Nat.lt_of_lt_of_le ha (W_mono h)

theorem Ext.set3 {a b : World} (h : Ext a b) {c : Nat} (hc : a.heap.size ≤ c) (u0 u1 u2 : Value) : Ext a (((b.setCell ⟨c, 0, none⟩ u0).setCell ⟨c, 1, none⟩ u1).setCell ⟨c, 2, none⟩ u2) :=
  ((h.setCell hc _).setCell hc _).setCell hc _

abbrev Cells6 (w : World) (b c : Nat) (x0 x1 x2 y0 y1 y2 : Value) : Prop :=
  w.cell? ⟨b, 0, none⟩ = some x0 ∧ w.cell? ⟨b, 1, none⟩ = some x1 ∧ w.cell? ⟨b, 2, none⟩ = some x2 ∧ w.cell? ⟨c, 0, none⟩ = some y0 ∧ w.cell? ⟨c, 1, none⟩ = some y1 ∧ w.cell? ⟨c, 2, none⟩ = some y2
theorem held6_ext {w w' : World} {b c : Nat} {x0 x1 x2 y0 y1 y2 : Value} (h : Cells6 w b c x0 x1 x2 y0 y1 y2) (e : Ext w w') : Cells6 w' b c x0 x1 x2 y0 y1 y2 :=
  ⟨e.cell h.1, e.cell h.2.1, e.cell h.2.2.1, e.cell h.2.2.2.1, e.cell h.2.2.2.2.1, e.cell h.2.2.2.2.2⟩
theorem held6_set {w : World} {b c d i : Nat} {u x0 x1 x2 y0 y1 y2 : Value} (h : Cells6 w b c x0 x1 x2 y0 y1 y2) (hb : d ≠ b) (hc : d ≠ c) : Cells6 (w.setCell ⟨d, i, none⟩ u) b c x0 x1 x2 y0 y1 y2 :=
  ⟨cell_set_other hb h.1, cell_set_other hb h.2.1, cell_set_other hb h.2.2.1, cell_set_other hc h.2.2.2.1, cell_set_other hc h.2.2.2.2.1, cell_set_other hc h.2.2.2.2.2⟩

theorem s_same {an bn : Bool} (a ad b bd : Nat) (h : an = bn) : sNeg an a ad bn b bd = an ∧ sNum an a ad bn b bd = a * bd + b * ad := by simp [sNeg, sNum, h]
theorem s_ge {an bn : Bool} {a ad b bd : Nat} (h : an ≠ bn) (hle : b * ad ≤ a * bd) : sNeg an a ad bn b bd = an ∧ sNum an a ad bn b bd = a * bd - b * ad := by simp [sNeg, sNum, h, hle]
theorem s_lt {an bn : Bool} {a ad b bd : Nat} (h : an ≠ bn) (hle : ¬ b * ad ≤ a * bd) : sNeg an a ad bn b bd = bn ∧ sNum an a ad bn b bd = b * ad - a * bd := by simp [sNeg, sNum, h, hle]

set_option maxHeartbeats 1000000 in
theorem addRat_any (an bn : Bool) (a ad b bd k : Nat) (ha : a < W k) (had : ad < W k) (hb : b < W k) (hbd : bd < W k) (hk : k ≤ 100000000) (va vb : Value) (w : World)
    (hva : RatAt w va an a ad) (hvb : RatAt w vb bn b bd) :
    Calls Oacg.prog 59 #[va, vb] w fun r w' => (∃ u, r = .returned u ∧ RatAt w' u (sNeg an a ad bn b bd) (sNum an a ad bn b bd) (ad * bd)) ∧ Ext w w' := by
  obtain ⟨p1, k1, c1, p2, k2, c2, rfl, n1, n2⟩ := hva
  obtain ⟨p3, k3, c3, p4, k4, c4, rfl, n3, n4⟩ := hvb
  have hw0 : Ext w (((w.alloc (.cells #[.bool an, .slice p1 k1 c1, .slice p2 k2 c2] 60)).alloc (.cells #[.bool bn, .slice p3 k3 c3, .slice p4 k4 c4] 60)).alloc (.cells #[.bool false, .slice none 0 0, .slice none 0 0] 60)) :=
    (((Ext.refl _).alloc _ _).alloc _ _).alloc _ _
  have HW0 := hide hw0
  have M1 := hide (fun w' (e : Ext w w') => mul_any a bd k k ha hbd (by omega) (by omega) _ _ w' (n1.ext e) (n4.ext e))
  have M2 := hide (fun w' (e : Ext w w') => mul_any b ad k k hb had (by omega) (by omega) _ _ w' (n3.ext e) (n2.ext e))
  have M3 := hide (fun w' (e : Ext w w') => mul_any ad bd k k had hbd (by omega) (by omega) _ _ w' (n2.ext e) (n4.ext e))
  have X1 := hide (mul_lt_W ha hbd)
  have X2 := hide (mul_lt_W hb had)
  clear n1 n2 n3 n4 ha had hb hbd hw0
  have S1 := hide (@s_same an bn a ad b bd)
  have S2 := hide (@s_ge an bn a ad b bd)
  have S3 := hide (@s_lt an bn a ad b bd)
  generalize sNeg an a ad bn b bd = sn at *
  generalize sNum an a ad bn b bd = sm at *
  have tok1 : True := trivial
  go_enter Oacg.func59, Oacg.ntmps59
  go_wp2_with fail
  go_region_held3 (fun w' => Cells6 w' w.heap.size (w.heap.size + 1) (.bool an) (.slice p1 k1 c1) (.slice p2 k2 c2) (.bool bn) (.slice p3 k3 c3) (.slice p4 k4 c4))
    (first | (simp [go_sem, Cells6]; done) | exact held6_ext (by assumption) (by assumption))
    (first
      | (go_at_call 61; have _t := tok1; refine (M1.out _ HW0.out.drew).mono ?_; rintro r w1 ⟨⟨v1, rfl, hv1⟩, hx1⟩; clear tok1; obtain ⟨p5, k5, c5, rfl⟩ := hv1.shape; have HV1 := hide hv1; have HE1 := hide (Ext.trans (Ext.drew (Ext.refl _)) hx1); clear hv1)
      | (go_at_call 61; refine (M2.out _ (HW0.out.trans HE1.out)).mono ?_; rintro r w2 ⟨⟨v2, rfl, hv2⟩, hx2⟩; obtain ⟨p6, k6, c6, rfl⟩ := hv2.shape; have HV2 := hide hv2; have HX2 := hide hx2; clear hv2))
  have HE2 := hide (HE1.out.trans HX2.out)
  have HV1' := hide (HV1.out.ext HX2.out)
  clear hx1 hx2 HX2 HE1 HV1 M1 M2
  obtain ⟨q1, q2, q3⟩ := HE2.out.rule
  go_wp2_with fail
  refine (M3.out _ (HW0.out.trans HE2.out)).mono ?_
  rintro r w3 ⟨⟨v3, rfl, hv3⟩, hx3⟩
  obtain ⟨p7, k7, c7, rfl⟩ := hv3.shape
  have HV3 := hide hv3
  have HE3 := hide (HE2.out.trans hx3)
  have HA1 := hide (HV1'.out.ext hx3)
  have HA2 := hide (HV2.out.ext hx3)
  clear hx3 hv3 q1 q2 q3 HV1' HV2 HE2 M3
  obtain ⟨q1, q2, q3⟩ := HE3.out.rule
  by_cases hs : an = bn
  · subst hs
    have HSP := hide (S1.out rfl)
    clear S1 S2 S3
    have HAdd := hide (fun w' (e : Ext w3 w') => add_any (a * bd) (b * ad) (k + k) (k + k) X1.out X2.out (by omega) (by omega) _ _ w' (HA1.out.ext e) (HA2.out.ext e))
    go_wp2_with fail
    go_region_held3 (fun w' => Cells6 w' w.heap.size (w.heap.size + 1) (.bool an) (.slice p1 k1 c1) (.slice p2 k2 c2) (.bool an) (.slice p3 k3 c3) (.slice p4 k4 c4))
      (first | (simp [go_sem, Cells6, q1]; done) | exact held6_ext (by assumption) (by assumption) | exact held6_set (held6_set (held6_set (by assumption) (by omega) (by omega)) (by omega) (by omega)) (by omega) (by omega))
      (first
        | (go_at_call 89; refine (HAdd.out _ (Ext.drew (Ext.refl _))).mono ?_; rintro r w4 ⟨⟨v4, rfl, hv4⟩, hx4⟩; obtain ⟨p8, k8, c8, rfl⟩ := hv4.shape; have HV4 := hide hv4; have HX4 := hide (Ext.trans (Ext.drew (Ext.refl _)) hx4); clear hv4 q1 q2 q3; have HE4 := hide (HE3.out.trans HX4.out); obtain ⟨q1, q2, q3⟩ := HE4.out.rule))
    have HK := hide (keeps_rat (b := w.heap.size + 1 + 1) (w := w4) (x0 := .bool false) (x1 := .slice none 0 0) (x2 := .slice none 0 0) (by rw [q1 _ _ (by simp)]; simp [go_sem]) (by rw [q1 _ _ (by simp)]; simp [go_sem]) (by rw [q1 _ _ (by simp)]; simp [go_sem]) rfl rfl rfl (.bool an) (.slice p8 k8 c8) (.slice p7 k7 c7))
    have hx := HW0.out.trans HE4.out
    have HD := hide (HV3.out.ext HX4.out)
    go_wp2_with fail
    simp [bodyPost, results, Oacg.results59, go_sem, q1]
    rw [HSP.out.1, HSP.out.2]
    exact ⟨⟨p8, k8, c8, p7, k7, c7, rfl, HK.out _ _ HV4.out, HK.out _ _ HD.out⟩, hx.set3 (by omega) _ _ _⟩
  · have hb : (an == bn) = false := by simp [hs]
    by_cases hle : b * ad ≤ a * bd
    · have HSP := hide (S2.out hs hle)
      clear S1 S2 S3
      have HS := hide (sub_any (a * bd) (b * ad) (k + k) X1.out (by omega) _ _ w3 HA1.out HA2.out hle)
      clear hle hs
      go_wp2_with fail
      refine HS.out.mono ?_
      rintro r w4 ⟨⟨v4, rfl, hv4⟩, hx4⟩
      obtain ⟨p8, k8, c8, rfl⟩ := hv4.shape
      have HV4 := hide hv4
      have HE4 := hide (HE3.out.trans hx4)
      have HD := hide (HV3.out.ext hx4)
      clear hx4 hv4 q1 q2 q3
      obtain ⟨q1, q2, q3⟩ := HE4.out.rule
      have HK := hide (keeps_rat (b := w.heap.size + 1 + 1) (w := w4) (x0 := .bool false) (x1 := .slice none 0 0) (x2 := .slice none 0 0) (by rw [q1 _ _ (by simp)]; simp [go_sem]) (by rw [q1 _ _ (by simp)]; simp [go_sem]) (by rw [q1 _ _ (by simp)]; simp [go_sem]) rfl rfl rfl (.bool an) (.slice p8 k8 c8) (.slice p7 k7 c7))
      have hx := HW0.out.trans HE4.out
      go_wp2_with fail
      simp [bodyPost, results, Oacg.results59, go_sem, q1]
      rw [HSP.out.1, HSP.out.2]
      exact ⟨⟨p8, k8, c8, p7, k7, c7, rfl, HK.out _ _ HV4.out, HK.out _ _ HD.out⟩, hx.set3 (by omega) _ _ _⟩
    · have HSP := hide (S3.out hs hle)
      clear S1 S2 S3
      have HS1 := hide (sub_less (a * bd) (b * ad) _ _ w3 HA1.out HA2.out (by omega))
      have HS2 := hide (fun w' (e : Ext w3 w') => sub_any (b * ad) (a * bd) (k + k) X2.out (by omega) _ _ w' (HA2.out.ext e) (HA1.out.ext e) (by omega))
      clear hle hs
      go_wp2_with fail
      refine HS1.out.mono ?_
      rintro r w4 ⟨rfl, hx4⟩
      have HX4 := hide hx4
      clear hx4 q1 q2 q3
      have HE4 := hide (HE3.out.trans HX4.out)
      obtain ⟨q1, q2, q3⟩ := HE4.out.rule
      go_wp2_with fail
      refine (HS2.out _ HX4.out).mono ?_
      rintro r w5 ⟨⟨v5, rfl, hv5⟩, hx5⟩
      obtain ⟨p8, k8, c8, rfl⟩ := hv5.shape
      have HV4 := hide hv5
      have HE5 := hide (HE4.out.trans hx5)
      have HD := hide ((HV3.out.ext HX4.out).ext hx5)
      clear hx5 hv5 q1 q2 q3
      obtain ⟨q1, q2, q3⟩ := HE5.out.rule
      have HK := hide (keeps_rat (b := w.heap.size + 1 + 1) (w := w5) (x0 := .bool false) (x1 := .slice none 0 0) (x2 := .slice none 0 0) (by rw [q1 _ _ (by simp)]; simp [go_sem]) (by rw [q1 _ _ (by simp)]; simp [go_sem]) (by rw [q1 _ _ (by simp)]; simp [go_sem]) rfl rfl rfl (.bool bn) (.slice p8 k8 c8) (.slice p7 k7 c7))
      have hx := HW0.out.trans HE5.out
      go_wp2_with fail
      simp [bodyPost, results, Oacg.results59, go_sem, q1]
      rw [HSP.out.1, HSP.out.2]
      exact ⟨⟨p8, k8, c8, p7, k7, c7, rfl, HK.out _ _ HV4.out, HK.out _ _ HD.out⟩, hx.set3 (by omega) _ _ _⟩
end Go.Proofs.YgcoacGreat
