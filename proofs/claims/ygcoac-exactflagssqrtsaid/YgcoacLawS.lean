/-
  law.sumFrac, negFrac, cmpFrac.
-/
import Derived.Test.YgcoacRatS
import Derived.Deep.DeepCutAuto
namespace Go.Proofs.Ygcoac
open Go.RowKit
set_option linter.unusedSimpArgs false
set_option linter.unusedVariables false

theorem fresh3 {w w3 : World} {x0 x1 x2 : Value} {t : TypeId} (h : Ext (w.alloc (.cells #[x0, x1, x2] t)) w3) :
    w3.cell? ⟨w.heap.size, 0, none⟩ = some x0 ∧ w3.cell? ⟨w.heap.size, 1, none⟩ = some x1 ∧ w3.cell? ⟨w.heap.size, 2, none⟩ = some x2 ∧ ∀ i, w3.frozen? ⟨w.heap.size, i, none⟩ = false :=
  ⟨h.cell (by simp), h.cell (by simp), h.cell (by simp), fun i => by rw [h.froz]; exact World.frozen?_alloc_new _ _ _ _⟩

theorem set3_cells {w : World} {b : Nat} {x0 x1 x2 : Value} (h0 : w.cell? ⟨b, 0, none⟩ = some x0) (h1 : w.cell? ⟨b, 1, none⟩ = some x1) (h2 : w.cell? ⟨b, 2, none⟩ = some x2) (u0 u1 u2 : Value) :
    (((w.setCell ⟨b, 0, none⟩ u0).setCell ⟨b, 1, none⟩ u1).setCell ⟨b, 2, none⟩ u2).cell? ⟨b, 0, none⟩ = some u0 ∧
    (((w.setCell ⟨b, 0, none⟩ u0).setCell ⟨b, 1, none⟩ u1).setCell ⟨b, 2, none⟩ u2).cell? ⟨b, 1, none⟩ = some u1 ∧
    (((w.setCell ⟨b, 0, none⟩ u0).setCell ⟨b, 1, none⟩ u1).setCell ⟨b, 2, none⟩ u2).cell? ⟨b, 2, none⟩ = some u2 := by
  refine ⟨?_, ?_, ?_⟩
  · rw [World.cell?_setCell_other _ _ _ _ (by simp), World.cell?_setCell_other _ _ _ _ (by simp), World.cell?_setCell_same _ _ _ h0]
  · rw [World.cell?_setCell_other _ _ _ _ (by simp), World.cell?_setCell_same _ _ _ (u := x1)]
    rw [World.cell?_setCell_other _ _ _ _ (by simp)]; exact h1
  · rw [World.cell?_setCell_same _ _ _ (u := x2)]
    rw [World.cell?_setCell_other _ _ _ _ (by simp), World.cell?_setCell_other _ _ _ _ (by simp)]; exact h2

set_option maxHeartbeats 2000000 in
theorem sumFrac_any (an bn : Bool) (a ad b bd k : Nat) (ha : a < W k) (had : ad < W k) (hb : b < W k) (hbd : bd < W k) (hk : k ≤ 100000000) (va vb : Value) (w : World)
    (hva : RatAt w va an a ad) (hvb : RatAt w vb bn b bd) :
    Calls Oacg.prog 47 #[va, vb] w fun r w' => (∃ u, r = .returned u ∧ RatAt w' u (sNeg an a ad bn b bd) (sNum an a ad bn b bd) (ad * bd)) ∧ Ext w w' := by
  obtain ⟨p1, k1, c1, p2, k2, c2, rfl, n1, n2⟩ := hva
  obtain ⟨p3, k3, c3, p4, k4, c4, rfl, n3, n4⟩ := hvb
  have hw0 : Ext w (((w.alloc (.cells #[.bool an, .slice p1 k1 c1, .slice p2 k2 c2] 37)).alloc (.cells #[.bool bn, .slice p3 k3 c3, .slice p4 k4 c4] 37)).alloc (.cells #[.bool false, .slice none 0 0, .slice none 0 0] 37)) :=
    (((Ext.refl _).alloc _ _).alloc _ _).alloc _ _
  have HW0 := hide hw0
  have M1 := hide (fun w' (e : Ext w w') => mul_any a bd k k ha hbd (by omega) (by omega) _ _ w' (n1.ext e) (n4.ext e))
  have M2 := hide (fun w' (e : Ext w w') => mul_any b ad k k hb had (by omega) (by omega) _ _ w' (n3.ext e) (n2.ext e))
  have M3 := hide (fun w' (e : Ext w w') => mul_any ad bd k k had hbd (by omega) (by omega) _ _ w' (n2.ext e) (n4.ext e))
  have X1 := hide (mul_lt_W ha hbd)
  have X2 := hide (mul_lt_W hb had)
  clear n1 n2 n3 n4 ha had hb hbd hw0
  have S1 := hide (@s_same an bn a ad b bd)
  have S2 := hide (@s_ge an bn a ad b bd)
  have S3 := hide (@s_lt an bn a ad b bd)
  generalize sNeg an a ad bn b bd = sn at *
  generalize sNum an a ad bn b bd = sm at *
  have tok1 : True := trivial
  go_enter Oacg.func47, Oacg.ntmps47
  go_wp2_with fail
  go_region_held3 (fun w' => Cells6 w' w.heap.size (w.heap.size + 1) (.bool an) (.slice p1 k1 c1) (.slice p2 k2 c2) (.bool bn) (.slice p3 k3 c3) (.slice p4 k4 c4))
    (first | (simp [go_sem, Cells6]; done) | exact held6_ext (by assumption) (by assumption))
    (first
      | (go_at_call 107; have _t := tok1; refine (M1.out _ HW0.out.drew).mono ?_; rintro r w1 ⟨⟨v1, rfl, hv1⟩, hx1⟩; clear tok1; obtain ⟨p5, k5, c5, rfl⟩ := hv1.shape; have HV1 := hide hv1; have HE1 := hide (Ext.trans (Ext.drew (Ext.refl _)) hx1); clear hv1)
      | (go_at_call 107; refine (M2.out _ (HW0.out.trans HE1.out)).mono ?_; rintro r w2 ⟨⟨v2, rfl, hv2⟩, hx2⟩; obtain ⟨p6, k6, c6, rfl⟩ := hv2.shape; have HV2 := hide hv2; have HX2 := hide hx2; clear hv2))
  have HE2 := hide (HE1.out.trans HX2.out)
  have HV1' := hide (HV1.out.ext HX2.out)
  clear hx1 hx2 HX2 HE1 HV1 M1 M2
  obtain ⟨q1, q2, q3⟩ := HE2.out.rule
  have HWX := hide (HW0.out.trans HE2.out)
  have hz2 : w.heap.size + 2 < w2.heap.size := by have := HE2.out.size; simp at this; omega
  go_wp2_with fail
  obtain ⟨d0, d1, d2, d3, d4, d5⟩ : Cells6 w2 w.heap.size (w.heap.size + 1) (.bool an) (.slice p1 k1 c1) (.slice p2 k2 c2) (.bool bn) (.slice p3 k3 c3) (.slice p4 k4 c4) := by assumption
  have hy1 : w.heap.size < w2.heap.size := by omega
  have hy2 : w.heap.size + 1 < w2.heap.size := by omega
  go_cut [7] (fun v wx => ∃ B p7 k7 c7, v = .pointer (some ⟨B, 0, none⟩) ∧ w2.heap.size ≤ B ∧ Hid (Ext w2 wx) ∧ Hid (NatAt wx (.slice p7 k7 c7) (ad * bd)) ∧
      wx.cell? ⟨B, 0, none⟩ = some (.bool an) ∧ wx.cell? ⟨B, 1, none⟩ = some (.slice none 0 0) ∧ wx.cell? ⟨B, 2, none⟩ = some (.slice p7 k7 c7))
  case first =>
    go_region_held3 (fun w' => Cells6 w' w.heap.size (w.heap.size + 1) (.bool an) (.slice p1 k1 c1) (.slice p2 k2 c2) (.bool bn) (.slice p3 k3 c3) (.slice p4 k4 c4))
      ((simp [go_sem, Cells6, d0, d1, d2, d3, d4, d5, hy1, hy2]; done))
      (first
        | (go_at_call 107; refine (M3.out _ (by (repeat (first | apply Ext.drew | apply Ext.alloc)); exact HWX.out)).mono ?_; rintro r w3 ⟨⟨v3, rfl, hv3⟩, hx3⟩; obtain ⟨p7, k7, c7, rfl⟩ := hv3.shape; have HV3 := hide hv3; (try (have hE : Ext (w2.alloc (.cells #[.bool false, .slice none 0 0, .slice none 0 0] 37)) w3 := Ext.trans (Ext.drew (Ext.refl _)) hx3; obtain ⟨r0, r1, r2, rf⟩ := fresh3 hE; clear hE)); have HX3 : Hid (Ext w2 w3) := Ext.trans (by (repeat (first | apply Ext.drew | apply Ext.alloc)); exact Ext.refl _) hx3; replace d0 := HX3.out.cell d0; replace d1 := HX3.out.cell d1; replace d2 := HX3.out.cell d2; replace d3 := HX3.out.cell d3; replace d4 := HX3.out.cell d4; replace d5 := HX3.out.cell d5; replace hy1 := Nat.lt_of_lt_of_le hy1 HX3.out.size; replace hy2 := Nat.lt_of_lt_of_le hy2 HX3.out.size; clear hv3 hx3))
    all_goals go_wp2_with fail
    all_goals go_meet
    case rel => exact ⟨w3.heap.size, p7, k7, c7, rfl, HX3.out.size, HX3.out.alloc _ _, HV3.out.ext ((Ext.refl _).alloc _ _), by simp, by simp, by simp⟩
    case rel =>
      obtain ⟨s0, s1, s2⟩ := set3_cells r0 r1 r2 (.bool an) (.slice none 0 0) (.slice p7 k7 c7)
      exact ⟨w2.heap.size, p7, k7, c7, rfl, Nat.le_refl _, HX3.out.set3 (Nat.le_refl _) _ _ _, keeps_rat r0 r1 r2 rfl rfl rfl _ _ _ _ _ HV3.out, s0, s1, s2⟩
  case rest =>
    obtain ⟨B, p7, k7, c7, rfl, hB, HX, HN7, b0, b1, b2⟩ := hcut
    have bf : ∀ i, wc.frozen? ⟨B, i, none⟩ = false := fun i => by rw [HX.out.froz]; exact frozen?_of_ge hB
    have HA1 := hide (HV1'.out.ext HX.out)
    have HA2 := hide (HV2.out.ext HX.out)
    have HEc := hide (HE2.out.trans HX.out)
    have hBn : w.heap.size + 1 + 1 ≠ B := by omega
    have hBn2 : w.heap.size ≤ B := by omega
    clear q1 q2 q3 d0 d1 d2 d3 d4 d5 hy1 hy2 HV1' HV2
    obtain ⟨q1, q2, q3⟩ := HEc.out.rule
    by_cases hs : an = bn
    · subst hs
      have HSP := hide (S1.out rfl)
      clear S1 S2 S3
      have HAdd := hide (add_any (a * bd) (b * ad) (k + k) (k + k) X1.out X2.out (by omega) (by omega) _ _ wc HA1.out HA2.out)
      go_wp2_with fail
      refine HAdd.out.mono ?_
      rintro r w4 ⟨⟨v4, rfl, hv4⟩, hx4⟩
      obtain ⟨p8, k8, c8, rfl⟩ := hv4.shape
      have HV4 := hide hv4
      have HE4 := hide (HEc.out.trans hx4)
      have HD := hide (HN7.out.ext hx4)
      replace b0 := hx4.cell b0
      replace b1 := hx4.cell b1
      replace b2 := hx4.cell b2
      replace bf : ∀ i, w4.frozen? ⟨B, i, none⟩ = false := fun i => by rw [hx4.froz]; exact bf i
      clear hx4 hv4 q1 q2 q3
      obtain ⟨q1, q2, q3⟩ := HE4.out.rule
      have HK := hide ((keeps_setCell b1 rfl (.slice p8 k8 c8)).trans (keeps_rat (b := w.heap.size + 1 + 1) (x0 := .bool false) (x1 := .slice none 0 0) (x2 := .slice none 0 0) (cell_set_other (Ne.symm hBn) (by rw [q1 _ _ (by simp)]; simp [go_sem])) (cell_set_other (Ne.symm hBn) (by rw [q1 _ _ (by simp)]; simp [go_sem])) (cell_set_other (Ne.symm hBn) (by rw [q1 _ _ (by simp)]; simp [go_sem])) rfl rfl rfl (.bool an) (.slice p8 k8 c8) (.slice p7 k7 c7)))
      have hx := HW0.out.trans HE4.out
      obtain ⟨s0, s1, s2⟩ := set3_cells (b := w.heap.size + 1 + 1) (w := w4.setCell ⟨B, 1, none⟩ (.slice p8 k8 c8)) (x0 := .bool false) (x1 := .slice none 0 0) (x2 := .slice none 0 0) (cell_set_other (Ne.symm hBn) (by rw [q1 _ _ (by simp)]; simp [go_sem])) (cell_set_other (Ne.symm hBn) (by rw [q1 _ _ (by simp)]; simp [go_sem])) (cell_set_other (Ne.symm hBn) (by rw [q1 _ _ (by simp)]; simp [go_sem])) (.bool an) (.slice p8 k8 c8) (.slice p7 k7 c7)
      go_wp2_with fail
      simp [bodyPost, results, Oacg.results47, go_sem, s0, s1, s2]
      rw [HSP.out.1, HSP.out.2]
      exact ⟨⟨p8, k8, c8, p7, k7, c7, rfl, HK.out _ _ HV4.out, HK.out _ _ HD.out⟩, (hx.setCell hBn2 _).set3 (by omega) _ _ _⟩
    · have hb : (an == bn) = false := by simp [hs]
      by_cases hle : b * ad ≤ a * bd
      · have HSP := hide (S2.out hs hle)
        clear S1 S2 S3
        have hcm : 0 ≤ cmpI (a * bd) (b * ad) := by unfold cmpI; rw [if_neg (by omega)]; split <;> decide
        have HC := hide (cmp_any (a * bd) (b * ad) _ _ wc HA1.out HA2.out)
        have HS := hide (fun n => sub_any (a * bd) (b * ad) (k + k) X1.out (by omega) _ _ (wc.drewN n) (HA1.out.ext ((Ext.refl _).drewN n)) (HA2.out.ext ((Ext.refl _).drewN n)) hle)
        clear hle hs
        go_wp2_with fail
        refine HC.out.mono ?_
        rintro r w4 ⟨rfl, n4, hw4⟩
        rw [hw4]
        clear hw4 w4
        go_wp2_with fail
        refine (HS.out n4).mono ?_
        rintro r w4 ⟨⟨v4, rfl, hv4⟩, hx40⟩
        have hx4 : Ext wc w4 := Ext.trans ((Ext.refl _).drewN n4) hx40
        obtain ⟨p8, k8, c8, rfl⟩ := hv4.shape
        have HV4 := hide hv4
        have HE4 := hide (HEc.out.trans hx4)
        have HD := hide (HN7.out.ext hx4)
        replace b0 := hx4.cell b0
        replace b1 := hx4.cell b1
        replace b2 := hx4.cell b2
        replace bf : ∀ i, w4.frozen? ⟨B, i, none⟩ = false := fun i => by rw [hx4.froz]; exact bf i
        clear hx4 hv4 q1 q2 q3 hx40
        obtain ⟨q1, q2, q3⟩ := HE4.out.rule
        have HK := hide ((keeps_setCell b1 rfl (.slice p8 k8 c8)).trans (keeps_rat (b := w.heap.size + 1 + 1) (x0 := .bool false) (x1 := .slice none 0 0) (x2 := .slice none 0 0) (cell_set_other (Ne.symm hBn) (by rw [q1 _ _ (by simp)]; simp [go_sem])) (cell_set_other (Ne.symm hBn) (by rw [q1 _ _ (by simp)]; simp [go_sem])) (cell_set_other (Ne.symm hBn) (by rw [q1 _ _ (by simp)]; simp [go_sem])) rfl rfl rfl (.bool an) (.slice p8 k8 c8) (.slice p7 k7 c7)))
        have hx := HW0.out.trans HE4.out
        obtain ⟨s0, s1, s2⟩ := set3_cells (b := w.heap.size + 1 + 1) (w := w4.setCell ⟨B, 1, none⟩ (.slice p8 k8 c8)) (x0 := .bool false) (x1 := .slice none 0 0) (x2 := .slice none 0 0) (cell_set_other (Ne.symm hBn) (by rw [q1 _ _ (by simp)]; simp [go_sem])) (cell_set_other (Ne.symm hBn) (by rw [q1 _ _ (by simp)]; simp [go_sem])) (cell_set_other (Ne.symm hBn) (by rw [q1 _ _ (by simp)]; simp [go_sem])) (.bool an) (.slice p8 k8 c8) (.slice p7 k7 c7)
        go_wp2_with fail
        simp [bodyPost, results, Oacg.results47, go_sem, s0, s1, s2]
        rw [HSP.out.1, HSP.out.2]
        exact ⟨⟨p8, k8, c8, p7, k7, c7, rfl, HK.out _ _ HV4.out, HK.out _ _ HD.out⟩, (hx.setCell hBn2 _).set3 (by omega) _ _ _⟩
      · have HSP := hide (S3.out hs hle)
        clear S1 S2 S3
        have hcm : cmpI (a * bd) (b * ad) = -1 := cmpI_lt (by omega)
        have HC := hide (cmp_any (a * bd) (b * ad) _ _ wc HA1.out HA2.out)
        have hkp := fun n => (((Ext.refl wc).drewN n).keeps).trans (keeps_setCell (w := wc.drewN n) (a := ⟨B, 0, none⟩) b0 rfl (.bool bn))
        have HKP := hide hkp
        have HS := hide (fun n => sub_any (b * ad) (a * bd) (k + k) X2.out (by omega) _ _ ((wc.drewN n).setCell ⟨B, 0, none⟩ (.bool bn)) (hkp n _ _ HA2.out) (hkp n _ _ HA1.out) (by omega))
        clear hle hs hkp
        go_wp2_with fail
        refine HC.out.mono ?_
        rintro r w4 ⟨rfl, n4, hw4⟩
        rw [hw4, hcm]
        clear hw4 w4
        go_wp2_with fail
        refine (HS.out n4).mono ?_
        rintro r w4 ⟨⟨v4, rfl, hv4⟩, hx4⟩
        obtain ⟨p8, k8, c8, rfl⟩ := hv4.shape
        have HV4 := hide hv4
        have HD := hide ((HKP.out n4 _ _ HN7.out).ext hx4)
        have HEb : Hid (Ext w ((wc.drewN n4).setCell ⟨B, 0, none⟩ (.bool bn))) := ((HW0.out.trans HEc.out).drewN n4).setCell hBn2 _
        have hx := HEb.out.trans hx4
        have b0' : w4.cell? ⟨B, 0, none⟩ = some (.bool bn) := hx4.cell (World.cell?_setCell_same _ _ _ (u := .bool an) b0)
        have b1' : w4.cell? ⟨B, 1, none⟩ = some (.slice none 0 0) := hx4.cell (by rw [World.cell?_setCell_other _ _ _ _ (by simp)]; exact b1)
        have b2' : w4.cell? ⟨B, 2, none⟩ = some (.slice p7 k7 c7) := hx4.cell (by rw [World.cell?_setCell_other _ _ _ _ (by simp)]; exact b2)
        have bf' : ∀ i, w4.frozen? ⟨B, i, none⟩ = false := fun i => by rw [hx4.froz, World.frozen?_setCell]; exact bf i
        have r0 : w4.cell? ⟨w.heap.size + 1 + 1, 0, none⟩ = some (.bool false) := hx4.cell (cell_set_other (Ne.symm hBn) (by show wc.cell? _ = _; rw [q1 _ _ (by simp)]; simp [go_sem]))
        have r1 : w4.cell? ⟨w.heap.size + 1 + 1, 1, none⟩ = some (.slice none 0 0) := hx4.cell (cell_set_other (Ne.symm hBn) (by show wc.cell? _ = _; rw [q1 _ _ (by simp)]; simp [go_sem]))
        have r2 : w4.cell? ⟨w.heap.size + 1 + 1, 2, none⟩ = some (.slice none 0 0) := hx4.cell (cell_set_other (Ne.symm hBn) (by show wc.cell? _ = _; rw [q1 _ _ (by simp)]; simp [go_sem]))
        have rf : ∀ i, w4.frozen? ⟨w.heap.size + 1 + 1, i, none⟩ = false := fun i => by rw [hx4.froz, World.frozen?_setCell]; show wc.frozen? _ = _; rw [q2]; simp [go_sem]
        clear hx4 hv4 q1 q2 q3 b0 b1 b2 bf
        have HK := hide ((keeps_setCell b1' rfl (.slice p8 k8 c8)).trans (keeps_rat (b := w.heap.size + 1 + 1) (x0 := .bool false) (x1 := .slice none 0 0) (x2 := .slice none 0 0) (cell_set_other (Ne.symm hBn) r0) (cell_set_other (Ne.symm hBn) r1) (cell_set_other (Ne.symm hBn) r2) rfl rfl rfl (.bool bn) (.slice p8 k8 c8) (.slice p7 k7 c7)))
        obtain ⟨s0, s1, s2⟩ := set3_cells (b := w.heap.size + 1 + 1) (w := w4.setCell ⟨B, 1, none⟩ (.slice p8 k8 c8)) (x0 := .bool false) (x1 := .slice none 0 0) (x2 := .slice none 0 0) (cell_set_other (Ne.symm hBn) r0) (cell_set_other (Ne.symm hBn) r1) (cell_set_other (Ne.symm hBn) r2) (.bool bn) (.slice p8 k8 c8) (.slice p7 k7 c7)
        go_wp2_with fail
        simp [bodyPost, results, Oacg.results47, go_sem, s0, s1, s2]
        rw [HSP.out.1, HSP.out.2]
        exact ⟨⟨p8, k8, c8, p7, k7, c7, rfl, HK.out _ _ HV4.out, HK.out _ _ HD.out⟩, (hx.setCell hBn2 _).set3 (by omega) _ _ _⟩
end Go.Proofs.Ygcoac
