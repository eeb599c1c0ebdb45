/-
  law.biasOf, cmpSize, pow2Frac, mulFrac, divFrac.
-/
import Derived.Test.YgcoacFlC
import Derived.Test.YgcoacExF
namespace Go.Proofs.Ygcoac
open Go.RowKit
set_option linter.unusedSimpArgs false
set_option linter.unusedVariables false

theorem w64_of {x : Int} (h1 : -9223372036854775808 ≤ x) (h2 : x ≤ 9223372036854775807) : wrap64 x = x := by
  rw [← Go.IntWalk.i64_left]
  simp [IntKind.wrap, IntKind.bits, IntKind.signed]
  omega
theorem cmpE_any (A B : Nat) (va vb : Value) (w : World) (ha : NatAt w va A) (hb : NatAt w vb B) :
    Calls Oacg.prog 31 #[va, vb] w fun e w' => e = .returned (.int .i8 (cmpI A B)) ∧ Ext w w' :=
  (cmp_any A B va vb w ha hb).mono fun r w' ⟨h1, n, h2⟩ => ⟨h1, by rw [h2]; exact (Ext.refl w).drewN n⟩
theorem biasOf_any (e m : Nat) (h : Fm e m) (w : World) :
    Calls Oacg.prog 53 #[.agg #[.int .u8 (e : Int), .int .u8 (m : Int)]] w fun r w' => r = .returned (.int .i64 (bias e : Int)) ∧ Ext w w' := by
  have hs := bias_bd h
  obtain ⟨h1, h2, h3, h4⟩ := h
  go_enter Oacg.func53, Oacg.ntmps53
  go_wp2
  go_ret
  refine ⟨ret_int ?_, by repeat (first | apply Ext.alloc | exact Ext.refl _)⟩
  have e1 : ((2 : Int) ^ (e - 1)) = ((2 ^ (e - 1) : Nat) : Int) := two_pow_cast _
  have e2 := pow_le_of (show e - 1 ≤ 10 by omega)
  unfold bias at *
  rw [e1]
  generalize 2 ^ (e - 1) = q at *
  rw [w64_of (x := (q : Int)) (by omega) (by omega), w64_of (by omega) (by omega)]
  omega

set_option maxHeartbeats 1000000 in
theorem pow2Frac_any (k : Int) (h1 : -65535 ≤ k) (h2 : k ≤ 65535) (w : World) :
    Calls Oacg.prog 54 #[.int .i64 k] w fun r w' => (∃ u, r = .returned u ∧ RatAt w' u false (p2N k) (p2D k)) ∧ Ext w w' := by
  by_cases hk : k < 0
  · obtain ⟨j, rfl⟩ : ∃ j : Nat, k = -(j : Int) := ⟨(-k).toNat, by omega⟩
    have e1 : p2N (-(j : Int)) = 1 := by unfold p2N; rw [show (-(j : Int)).toNat = 0 by omega]
    have e2 : p2D (-(j : Int)) = 2 ^ j := by unfold p2D; rw [show (-(-(j : Int))).toNat = j by omega]
    rw [e1, e2]
    have hj2 : (j : Int) ≤ 65535 := by omega
    clear e1 e2
    go_enter Oacg.func54, Oacg.ntmps54
    go_wp2_with fail
    refine (one_any _).mono ?_
    rintro _ w1 ⟨⟨v1, rfl, hv1⟩, hx1⟩
    have HV1 := hide hv1
    have HX1 := hide hx1
    obtain ⟨p1, k1, c1, rfl⟩ := hv1.shape
    clear hv1 hx1
    go_wp2_with fail
    refine (one_any _).mono ?_
    rintro _ w2 ⟨⟨v2, rfl, hv2⟩, hx2⟩
    have HV2 := hide hv2
    have HX2 := hide (HX1.out.trans hx2)
    have HNUM' := hide (HV1.out.ext hx2)
    clear hv2 hx2 HX1 HV1
    go_wp2_with fail
    refine (shl_any 1 1 (one_lt_W 1 (by decide)) (by decide) j (by omega) _ _ HV2.out).mono ?_
    rintro _ w3 ⟨⟨v3, rfl, hv3⟩, hx3⟩
    rw [Nat.one_mul] at hv3
    obtain ⟨p3, k3, c3, rfl⟩ := hv3.shape
    have HDEN := hide hv3
    have HNUM := hide (HNUM'.out.ext hx3)
    have HXF := hide (HX2.out.trans hx3)
    clear hv3 hx3 HX2 HV2 HNUM'
    obtain ⟨q1, q2, q3⟩ := HXF.out.rule
    have d0 : w3.cell? ⟨w.heap.size, 0, none⟩ = some (.bool false) := by rw [q1 _ _ (by simp)]; simp [go_sem]
    have d1 : w3.cell? ⟨w.heap.size, 1, none⟩ = some (.slice none 0 0) := by rw [q1 _ _ (by simp)]; simp [go_sem]
    have d2 : w3.cell? ⟨w.heap.size, 2, none⟩ = some (.slice none 0 0) := by rw [q1 _ _ (by simp)]; simp [go_sem]
    have f0 : ∀ o, w3.frozen? ⟨w.heap.size, o, none⟩ = false := fun o => by rw [q2]; simp [go_sem]
    have HK := hide (keeps_rat (w := w3) (b := w.heap.size) d0 d1 d2 rfl rfl rfl)
    have HX : Hid (Ext w w3) := ((Ext.refl w).alloc _ _).trans HXF.out
    clear q1 q2 q3 HXF
    go_wp2_with fail
    simp [bodyPost, results, Oacg.results54, go_sem, d0, d1, d2]
    exact ⟨⟨_, _, _, _, _, _, rfl, HK.out _ _ _ _ _ HNUM.out, HK.out _ _ _ _ _ HDEN.out⟩, ((HX.out.setCell (Nat.le_refl _) _).setCell (Nat.le_refl _) _).setCell (Nat.le_refl _) _⟩
  · obtain ⟨j, rfl⟩ : ∃ j : Nat, k = (j : Int) := ⟨k.toNat, by omega⟩
    have e1 : p2N (j : Int) = 2 ^ j := by unfold p2N; rw [Int.toNat_natCast]
    have e2 : p2D (j : Int) = 1 := by unfold p2D; rw [show (-(j : Int)).toNat = 0 by omega]
    rw [e1, e2]
    clear e1 e2
    go_enter Oacg.func54, Oacg.ntmps54
    go_wp2_with fail
    refine (one_any _).mono ?_
    rintro _ w1 ⟨⟨v1, rfl, hv1⟩, hx1⟩
    have HV1 := hide hv1
    have HX1 := hide hx1
    clear hv1 hx1
    go_wp2_with fail
    refine (shl_any 1 1 (one_lt_W 1 (by decide)) (by decide) j (by omega) _ _ HV1.out).mono ?_
    rintro _ w2 ⟨⟨v2, rfl, hv2⟩, hx2⟩
    rw [Nat.one_mul] at hv2
    obtain ⟨p2, k2, c2, rfl⟩ := hv2.shape
    have HV2 := hide hv2
    have HX2 := hide (HX1.out.trans hx2)
    clear hv2 hx2 HX1 HV1
    go_wp2_with fail
    refine (one_any _).mono ?_
    rintro _ w3 ⟨⟨v3, rfl, hv3⟩, hx3⟩
    obtain ⟨p3, k3, c3, rfl⟩ := hv3.shape
    have HDEN := hide hv3
    have HNUM := hide (HV2.out.ext hx3)
    have HXF := hide (HX2.out.trans hx3)
    clear hv3 hx3 HX2 HV2
    obtain ⟨q1, q2, q3⟩ := HXF.out.rule
    have d0 : w3.cell? ⟨w.heap.size, 0, none⟩ = some (.bool false) := by rw [q1 _ _ (by simp)]; simp [go_sem]
    have d1 : w3.cell? ⟨w.heap.size, 1, none⟩ = some (.slice none 0 0) := by rw [q1 _ _ (by simp)]; simp [go_sem]
    have d2 : w3.cell? ⟨w.heap.size, 2, none⟩ = some (.slice none 0 0) := by rw [q1 _ _ (by simp)]; simp [go_sem]
    have f0 : ∀ o, w3.frozen? ⟨w.heap.size, o, none⟩ = false := fun o => by rw [q2]; simp [go_sem]
    have HK := hide (keeps_rat (w := w3) (b := w.heap.size) d0 d1 d2 rfl rfl rfl)
    have HX : Hid (Ext w w3) := ((Ext.refl w).alloc _ _).trans HXF.out
    clear q1 q2 q3 HXF
    go_wp2_with fail
    simp [bodyPost, results, Oacg.results54, go_sem, d0, d1, d2]
    exact ⟨⟨_, _, _, _, _, _, rfl, HK.out _ _ _ _ _ HNUM.out, HK.out _ _ _ _ _ HDEN.out⟩, ((HX.out.setCell (Nat.le_refl _) _).setCell (Nat.le_refl _) _).setCell (Nat.le_refl _) _⟩

set_option maxRecDepth 20000 in
set_option maxHeartbeats 1000000 in
theorem cmpSize_any (an bn : Bool) (a ad b bd k : Nat) (ha : a < W k) (had : ad < W k) (hb : b < W k) (hbd : bd < W k) (hk : k ≤ 100000000) (va vb : Value) (w : World)
    (hva : RatAt w va an a ad) (hvb : RatAt w vb bn b bd) :
    Calls Oacg.prog 109 #[va, vb] w fun r w' => r = .returned (.int .i8 (csQ a ad b bd)) ∧ Ext w w' := by
  obtain ⟨p1, k1, c1, p2, k2, c2, rfl, n1, n2⟩ := hva
  obtain ⟨p3, k3, c3, p4, k4, c4, rfl, n3, n4⟩ := hvb
  obtain ⟨W0, hW0⟩ : ∃ W0, W0 = (w.alloc (.cells #[.bool an, .slice p1 k1 c1, .slice p2 k2 c2] 37)).alloc (.cells #[.bool bn, .slice p3 k3 c3, .slice p4 k4 c4] 37) := ⟨_, rfl⟩
  have HX0 : Hid (Ext w W0) := by rw [hW0]; exact ((Ext.refl _).alloc _ _).alloc _ _
  have HC0 : Hid (Cells6 W0 w.heap.size (w.heap.size + 1) (.bool an) (.slice p1 k1 c1) (.slice p2 k2 c2) (.bool bn) (.slice p3 k3 c3) (.slice p4 k4 c4)) := by rw [hW0]; refine ⟨?_, ?_, ?_, ?_, ?_, ?_⟩ <;> simp [go_sem]
  have M1 := hide (fun w' (e : Ext W0 w') => mul_any a bd k k ha hbd (by omega) (by omega) _ _ w' (n1.ext (HX0.out.trans e)) (n4.ext (HX0.out.trans e)))
  have M2 := hide (fun w' (e : Ext W0 w') => mul_any b ad k k hb had (by omega) (by omega) _ _ w' (n3.ext (HX0.out.trans e)) (n2.ext (HX0.out.trans e)))
  unfold csQ
  clear n1 n2 n3 n4 ha had hb hbd
  have tok1 : True := trivial
  have tok2 : True := trivial
  generalize a * bd = P at *
  generalize b * ad = Q at *
  go_enter Oacg.func109, Oacg.ntmps109
  go_wp2_with fail
  rw [← hW0]
  clear hW0
  go_region_held3 (fun w' => Cells6 w' w.heap.size (w.heap.size + 1) (.bool an) (.slice p1 k1 c1) (.slice p2 k2 c2) (.bool bn) (.slice p3 k3 c3) (.slice p4 k4 c4))
    (first | exact HC0.out | exact held6_ext HC0.out (by (repeat apply Ext.drew); first | exact Ext.refl _ | assumption))
    (first
      | (go_at_call 107; have _t := tok1; refine (M1.out _ ((Ext.refl _).drew)).mono ?_; clear tok1; rintro r w1 ⟨⟨v1, rfl, hv1⟩, hx1⟩; obtain ⟨p5, k5, c5, rfl⟩ := hv1.shape; have HV1 := hide hv1; have hE : Ext W0 w1 := Ext.trans (by (repeat apply Ext.drew); exact Ext.refl _) hx1; clear hv1 hx1)
      | (go_at_call 107; have _t := tok2; refine (M2.out _ (by first | assumption | exact Ext.drew (by assumption))).mono ?_; clear tok2; rintro r w2 ⟨⟨v2, rfl, hv2⟩, hx2⟩; obtain ⟨p6, k6, c6, rfl⟩ := hv2.shape; have HV2 := hide hv2; have HV1' := hide (HV1.out.ext (Ext.trans (by (repeat apply Ext.drew); exact Ext.refl _) hx2)); have hE2 : Ext W0 w2 := Ext.trans (by (repeat apply Ext.drew); assumption) hx2; clear hv2 hx2)
      | (go_at_call 31; refine (cmpE_any P Q _ _ _ (HV1'.out.ext (by (repeat apply Ext.drew); exact Ext.refl _)) (HV2.out.ext (by (repeat apply Ext.drew); exact Ext.refl _))).mono ?_; rintro r w3 ⟨rfl, hx3⟩; have hE3 : Ext W0 w3 := Ext.trans (by (repeat apply Ext.drew); assumption) hx3; clear hx3))
  all_goals go_wp2_with fail
  all_goals go_ret
  all_goals exact ⟨rfl, HX0.out.trans (by (repeat apply Ext.drew); assumption)⟩

set_option maxRecDepth 20000 in
set_option maxHeartbeats 2000000 in
theorem mulFrac_any (an bn : Bool) (a ad b bd k : Nat) (ha : a < W k) (had : ad < W k) (hb : b < W k) (hbd : bd < W k) (hk : k ≤ 100000000) (va vb : Value) (w : World)
    (hva : RatAt w va an a ad) (hvb : RatAt w vb bn b bd) :
    Calls Oacg.prog 49 #[va, vb] w fun r w' => (∃ u, r = .returned u ∧ RatAt w' u (!(an == bn)) (a * b) (ad * bd)) ∧ Ext w w' := by
  obtain ⟨p1, k1, c1, p2, k2, c2, rfl, n1, n2⟩ := hva
  obtain ⟨p3, k3, c3, p4, k4, c4, rfl, n3, n4⟩ := hvb
  obtain ⟨W0, hW0⟩ : ∃ W0, W0 = ((w.alloc (.cells #[.bool an, .slice p1 k1 c1, .slice p2 k2 c2] 37)).alloc (.cells #[.bool bn, .slice p3 k3 c3, .slice p4 k4 c4] 37)).alloc (.cells #[.bool false, .slice none 0 0, .slice none 0 0] 37) := ⟨_, rfl⟩
  have HX0 : Hid (Ext w W0) := by rw [hW0]; exact (((Ext.refl _).alloc _ _).alloc _ _).alloc _ _
  have HC0 : Hid (Cells6 W0 w.heap.size (w.heap.size + 1) (.bool an) (.slice p1 k1 c1) (.slice p2 k2 c2) (.bool bn) (.slice p3 k3 c3) (.slice p4 k4 c4)) := by rw [hW0]; refine ⟨?_, ?_, ?_, ?_, ?_, ?_⟩ <;> simp [go_sem]
  have g0 : W0.cell? ⟨w.heap.size + 1 + 1, 0, none⟩ = some (.bool false) := by rw [hW0]; simp [go_sem]
  have g1 : W0.cell? ⟨w.heap.size + 1 + 1, 1, none⟩ = some (.slice none 0 0) := by rw [hW0]; simp [go_sem]
  have g2 : W0.cell? ⟨w.heap.size + 1 + 1, 2, none⟩ = some (.slice none 0 0) := by rw [hW0]; simp [go_sem]
  have gf : ∀ i, W0.frozen? ⟨w.heap.size + 1 + 1, i, none⟩ = false := fun i => by rw [hW0]; simp [go_sem]
  have hne1 : w.heap.size + 1 + 1 ≠ w.heap.size := by omega
  have hne2 : w.heap.size + 1 + 1 ≠ w.heap.size + 1 := by omega
  have hle : w.heap.size ≤ w.heap.size + 1 + 1 := by omega
  have M1 := hide (fun w' (e : Ext W0 w') => mul_any a b k k ha hb (by omega) (by omega) _ _ w' (n1.ext (HX0.out.trans e)) (n3.ext (HX0.out.trans e)))
  have M2 := hide (fun w' (e : Ext W0 w') => mul_any ad bd k k had hbd (by omega) (by omega) _ _ w' (n2.ext (HX0.out.trans e)) (n4.ext (HX0.out.trans e)))
  clear n1 n2 n3 n4 ha had hb hbd
  have tok1 : True := trivial
  have tok2 : True := trivial
  generalize a * b = P at *
  generalize ad * bd = Q at *
  go_enter Oacg.func49, Oacg.ntmps49
  go_wp2_with fail
  rw [← hW0]
  clear hW0
  go_region_held3 (fun w' => Cells6 w' w.heap.size (w.heap.size + 1) (.bool an) (.slice p1 k1 c1) (.slice p2 k2 c2) (.bool bn) (.slice p3 k3 c3) (.slice p4 k4 c4))
    (first | exact HC0.out | exact held6_ext HC0.out (by (repeat apply Ext.drew); first | exact Ext.refl _ | assumption) | exact held6_set (held6_set (held6_set (held6_ext HC0.out (by (repeat apply Ext.drew); assumption)) hne1 hne2) hne1 hne2) hne1 hne2)
    (first
      | (go_at_call 107; have _t := tok1; refine (M1.out _ ((Ext.refl _).drew)).mono ?_; clear tok1; rintro r w1 ⟨⟨v1, rfl, hv1⟩, hx1⟩; obtain ⟨p5, k5, c5, rfl⟩ := hv1.shape; have HV1 := hide hv1; have hE : Ext W0 w1 := Ext.trans (by (repeat apply Ext.drew); exact Ext.refl _) hx1; clear hv1 hx1)
      | (go_at_call 107; have _t := tok2; refine (M2.out _ (by first | assumption | exact Ext.drew (by assumption))).mono ?_; clear tok2; rintro r w2 ⟨⟨v2, rfl, hv2⟩, hx2⟩; obtain ⟨p6, k6, c6, rfl⟩ := hv2.shape; have HV2 := hide hv2; have HV1' := hide (HV1.out.ext (Ext.trans (by (repeat apply Ext.drew); exact Ext.refl _) hx2)); have hE2 : Ext W0 w2 := Ext.trans (by (repeat apply Ext.drew); assumption) hx2; replace g0 := hE2.cell g0; replace g1 := hE2.cell g1; replace g2 := hE2.cell g2; replace gf : ∀ i, w2.frozen? ⟨w.heap.size + 1 + 1, i, none⟩ = false := (fun i => by rw [hE2.froz]; exact gf i); have HK := hide (keeps_rat (w := w2) (b := w.heap.size + 1 + 1) g0 g1 g2 rfl rfl rfl (.bool (!(an == bn))) (.slice p5 k5 c5) (.slice p6 k6 c6)); clear hv2 hx2))
  all_goals go_wp2_with fail
  all_goals simp [bodyPost, results, Oacg.results49, go_sem, g0, g1, g2]
  all_goals exact ⟨⟨_, _, _, _, _, _, rfl, HK.out _ _ HV1'.out, HK.out _ _ HV2.out⟩, (((HX0.out.trans hE2).setCell hle _).setCell hle _).setCell hle _⟩

set_option maxRecDepth 20000 in
set_option maxHeartbeats 2000000 in
theorem divFrac_any (an bn : Bool) (a ad b bd k : Nat) (ha : a < W k) (had : ad < W k) (hb : b < W k) (hbd : bd < W k) (hk : k ≤ 100000000) (va vb : Value) (w : World)
    (hva : RatAt w va an a ad) (hvb : RatAt w vb bn b bd) :
    Calls Oacg.prog 50 #[va, vb] w fun r w' => (∃ u, r = .returned u ∧ RatAt w' u (!(an == bn)) (a * bd) (ad * b)) ∧ Ext w w' := by
  obtain ⟨p1, k1, c1, p2, k2, c2, rfl, n1, n2⟩ := hva
  obtain ⟨p3, k3, c3, p4, k4, c4, rfl, n3, n4⟩ := hvb
  obtain ⟨W0, hW0⟩ : ∃ W0, W0 = ((w.alloc (.cells #[.bool an, .slice p1 k1 c1, .slice p2 k2 c2] 37)).alloc (.cells #[.bool bn, .slice p3 k3 c3, .slice p4 k4 c4] 37)).alloc (.cells #[.bool false, .slice none 0 0, .slice none 0 0] 37) := ⟨_, rfl⟩
  have HX0 : Hid (Ext w W0) := by rw [hW0]; exact (((Ext.refl _).alloc _ _).alloc _ _).alloc _ _
  have HC0 : Hid (Cells6 W0 w.heap.size (w.heap.size + 1) (.bool an) (.slice p1 k1 c1) (.slice p2 k2 c2) (.bool bn) (.slice p3 k3 c3) (.slice p4 k4 c4)) := by rw [hW0]; refine ⟨?_, ?_, ?_, ?_, ?_, ?_⟩ <;> simp [go_sem]
  have g0 : W0.cell? ⟨w.heap.size + 1 + 1, 0, none⟩ = some (.bool false) := by rw [hW0]; simp [go_sem]
  have g1 : W0.cell? ⟨w.heap.size + 1 + 1, 1, none⟩ = some (.slice none 0 0) := by rw [hW0]; simp [go_sem]
  have g2 : W0.cell? ⟨w.heap.size + 1 + 1, 2, none⟩ = some (.slice none 0 0) := by rw [hW0]; simp [go_sem]
  have gf : ∀ i, W0.frozen? ⟨w.heap.size + 1 + 1, i, none⟩ = false := fun i => by rw [hW0]; simp [go_sem]
  have hne1 : w.heap.size + 1 + 1 ≠ w.heap.size := by omega
  have hne2 : w.heap.size + 1 + 1 ≠ w.heap.size + 1 := by omega
  have hle : w.heap.size ≤ w.heap.size + 1 + 1 := by omega
  have M1 := hide (fun w' (e : Ext W0 w') => mul_any a bd k k ha hbd (by omega) (by omega) _ _ w' (n1.ext (HX0.out.trans e)) (n4.ext (HX0.out.trans e)))
  have M2 := hide (fun w' (e : Ext W0 w') => mul_any ad b k k had hb (by omega) (by omega) _ _ w' (n2.ext (HX0.out.trans e)) (n3.ext (HX0.out.trans e)))
  clear n1 n2 n3 n4 ha had hb hbd
  have tok1 : True := trivial
  have tok2 : True := trivial
  generalize a * bd = P at *
  generalize ad * b = Q at *
  go_enter Oacg.func50, Oacg.ntmps50
  go_wp2_with fail
  rw [← hW0]
  clear hW0
  go_region_held3 (fun w' => Cells6 w' w.heap.size (w.heap.size + 1) (.bool an) (.slice p1 k1 c1) (.slice p2 k2 c2) (.bool bn) (.slice p3 k3 c3) (.slice p4 k4 c4))
    (first | exact HC0.out | exact held6_ext HC0.out (by (repeat apply Ext.drew); first | exact Ext.refl _ | assumption) | exact held6_set (held6_set (held6_set (held6_ext HC0.out (by (repeat apply Ext.drew); assumption)) hne1 hne2) hne1 hne2) hne1 hne2)
    (first
      | (go_at_call 107; have _t := tok1; refine (M1.out _ ((Ext.refl _).drew)).mono ?_; clear tok1; rintro r w1 ⟨⟨v1, rfl, hv1⟩, hx1⟩; obtain ⟨p5, k5, c5, rfl⟩ := hv1.shape; have HV1 := hide hv1; have hE : Ext W0 w1 := Ext.trans (by (repeat apply Ext.drew); exact Ext.refl _) hx1; clear hv1 hx1)
      | (go_at_call 107; have _t := tok2; refine (M2.out _ (by first | assumption | exact Ext.drew (by assumption))).mono ?_; clear tok2; rintro r w2 ⟨⟨v2, rfl, hv2⟩, hx2⟩; obtain ⟨p6, k6, c6, rfl⟩ := hv2.shape; have HV2 := hide hv2; have HV1' := hide (HV1.out.ext (Ext.trans (by (repeat apply Ext.drew); exact Ext.refl _) hx2)); have hE2 : Ext W0 w2 := Ext.trans (by (repeat apply Ext.drew); assumption) hx2; replace g0 := hE2.cell g0; replace g1 := hE2.cell g1; replace g2 := hE2.cell g2; replace gf : ∀ i, w2.frozen? ⟨w.heap.size + 1 + 1, i, none⟩ = false := (fun i => by rw [hE2.froz]; exact gf i); have HK := hide (keeps_rat (w := w2) (b := w.heap.size + 1 + 1) g0 g1 g2 rfl rfl rfl (.bool (!(an == bn))) (.slice p5 k5 c5) (.slice p6 k6 c6)); clear hv2 hx2))
  all_goals go_wp2_with fail
  all_goals simp [bodyPost, results, Oacg.results50, go_sem, g0, g1, g2]
  all_goals exact ⟨⟨_, _, _, _, _, _, rfl, HK.out _ _ HV1'.out, HK.out _ _ HV2.out⟩, (((HX0.out.trans hE2).setCell hle _).setCell hle _).setCell hle _⟩
end Go.Proofs.Ygcoac
