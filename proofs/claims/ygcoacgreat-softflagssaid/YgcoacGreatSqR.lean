/-
  exact.rootAt.
-/
import Derived.Test.YgcoacGreatSqN
import Derived.Test.YgcoacGreatSqC
import Derived.Test.YgcoacGreatFlD
namespace Go.Proofs.YgcoacGreat
open Go.RowKit
set_option linter.unusedSimpArgs false
set_option linter.unusedVariables false
attribute [local go_sem] nil_eq nil_ne

theorem shD_ltW {d k : Nat} (hd : d < W k) {j : Int} (hj : -65535 ≤ j) : shD d j < W (k + 2048) := shN_lt (j := -j) hd (by omega)
set_option maxRecDepth 20000 in
set_option maxHeartbeats 2000000 in
theorem rootAt_any (e m : Nat) (h : Fm e m) (mode : Int) (neg : Bool) (N D : Nat) (hN : N < W 100) (hD : D < W 100) (hD0 : 0 < D) (ex : Int) (hx1 : -3000 ≤ ex) (hx2 : ex ≤ 3000) (v : Value) (w : World) (hv : RatAt w v neg N D) :
    Calls Oacg.prog 41 #[.agg #[.int .u8 (e : Int), .int .u8 (m : Int)], .int .u8 mode, v, .int .i64 ex] w fun r w' => (∃ u, r = .returned u ∧ FloorR (rnS m mode N D ex) (rtH (rfS m N D ex) (shN N (2 * ((m : Int) - ex))) (shD D (2 * ((m : Int) - ex)))) (smS m N D ex) u w') ∧ Ext w w' := by
  obtain ⟨p1, k1, c1, p2, k2, c2, rfl, hvn, hvd⟩ := hv
  obtain ⟨_, _, hm1, hm2⟩ := h
  obtain ⟨kk, hkk⟩ : ∃ kk : Int, 2 * ((m : Int) - ex) = kk := ⟨_, rfl⟩
  have hkb : -65535 ≤ kk ∧ kk ≤ 65535 := by omega
  have HSF := hide (fun wx (hx : Ext w wx) => shift_any N D 100 100 hN hD (by decide) (by decide) kk hkb.1 hkb.2 _ _ wx (hvn.ext hx) (hvd.ext hx))
  have hnl := shN_lt hN hkb.2
  have hdl := shD_ltW hD hkb.1
  have hdp := shD_pos hD0 kk
  have HRN : Box (rnS m mode N D ex = if raisesQ mode false (decide (rfS m N D ex % 2 = 1)) (rtH (rfS m N D ex) (shN N kk) (shD D kk)) (smS m N D ex) then rfS m N D ex + 1 else rfS m N D ex) := by
    constructor; rw [← hkk]; rfl
  have HSM : Box (smS m N D ex = decide (rfS m N D ex * rfS m N D ex * shD D kk ≠ shN N kk)) := by
    constructor; rw [← hkk]; rfl
  have HRH : Box (rtH (rfS m N D ex) (shN N kk) (shD D kk) = cmpI (shN N kk * 4) ((rfS m N D ex * 2 + 1) * (rfS m N D ex * 2 + 1) * shD D kk)) := ⟨rfl⟩
  have HRF : Box (rfS m N D ex = isq (shN N kk / shD D kk)) := by
    constructor; rw [← hkk]; rfl
  rw [hkk]
  generalize rnS m mode N D ex = RN at *
  generalize rtH (rfS m N D ex) (shN N kk) (shD D kk) = half at *
  generalize smS m N D ex = sm at *
  generalize rfS m N D ex = n at *
  generalize shN N kk = num at *
  generalize shD D kk = den at *
  have hql : num / den < W 2148 := Nat.lt_of_le_of_lt (Nat.div_le_self _ _) hnl
  have hnlt : n < W 2148 := by
    rw [HRF.out]
    refine Nat.lt_of_le_of_lt ?_ hql
    have h1 := (isq_spec (num / den)).1
    rcases Nat.eq_zero_or_pos (isq (num / den)) with h2 | h2
    · omega
    · exact Nat.le_trans (Nat.le_mul_of_pos_right _ h2) h1
  have htw : n * 2 + 1 < W 2150 := by
    have h1 := mul_lt_W hnlt (show 2 < W 1 by decide)
    exact add_lt_W h1 (one_lt_W _ (by decide))
  have HDM := hide (fun va vb wx ha hb => divMod_any num den 2148 hnl (by decide) hdp va vb wx ha hb)
  have HSQ := hide (fun va wx ha => natSqrt_any (num / den) 2148 hql (by decide) va wx ha)
  rw [← HRF.out] at HSQ
  have HS1 := hide (fun va wx ha => shl_any n 2148 hnlt (by decide) 1 (by decide) va wx ha)
  rw [Nat.pow_one, show ((1 : Nat) : Int) = 1 from rfl] at HS1
  have HSU := hide (fun va wx ha => succ_any (n * 2) 2150 (by omega) (by decide) va wx ha)
  have HS2 := hide (fun va wx ha => shl_any num 2148 hnl (by decide) 2 (by decide) va wx ha)
  rw [show (2 : Nat) ^ 2 = 4 from rfl, show ((2 : Nat) : Int) = 2 from rfl] at HS2
  have HM1 := hide (fun va wx ha => mul_any (n * 2 + 1) (n * 2 + 1) 2150 2150 htw htw (by decide) (by decide) va va wx ha ha)
  have ht2 := mul_lt_W htw htw
  have HM2 := hide (fun va vb wx ha hb => mul_any ((n * 2 + 1) * (n * 2 + 1)) den (2150 + 2150) 2148 ht2 hdl (by decide) (by decide) va vb wx ha hb)
  have HM3 := hide (fun va wx ha => mul_any n n 2148 2148 hnlt hnlt (by decide) (by decide) va va wx ha ha)
  have hn2 := mul_lt_W hnlt hnlt
  have HM4 := hide (fun va vb wx ha hb => mul_any (n * n) den (2148 + 2148) 2148 hn2 hdl (by decide) (by decide) va vb wx ha hb)
  have HC1 := hide (fun va vb wx ha hb => cmpE_any (num * 4) ((n * 2 + 1) * (n * 2 + 1) * den) va vb wx ha hb)
  rw [← HRH.out] at HC1
  have HC2 := hide (fun va vb wx ha hb => cmpE_any (n * n * den) num va vb wx ha hb)
  have hsm : (cmpI (n * n * den) num != 0) = sm := by
    rw [HSM.out]
    unfold cmpI
    by_cases q1 : n * n * den < num
    · rw [if_pos q1]; exact (decide_eq_true (by omega)).symm
    · rw [if_neg q1]
      by_cases q2 : n * n * den = num
      · rw [if_pos q2]; exact (decide_eq_false (by omega)).symm
      · rw [if_neg q2]; exact (decide_eq_true q2).symm
  have HNL := Box.mk hnlt
  generalize cmpI (n * n * den) num = cm2 at *
  generalize (n * 2 + 1) * (n * 2 + 1) * den = X2 at *
  generalize (n * 2 + 1) * (n * 2 + 1) = X1 at *
  generalize n * n * den = X4 at *
  generalize n * n = X3 at *
  generalize num * 4 = X0 at *
  generalize num / den = q at *
  clear hvn hvd hN hD hnl hdl hql hnlt htw ht2 hn2 HSM HRH HRF hkb
  have hmi : (m : Int) ≤ 52 := hm2
  obtain ⟨W0, hW0⟩ : ∃ W0, W0 = ((w.alloc (.cells #[.int .u8 (e : Int), .int .u8 (m : Int)] 23)).alloc (.cells #[.bool neg, .slice p1 k1 c1, .slice p2 k2 c2] 60)).alloc (.cells #[.int .i8 0, .bool false] 68) := ⟨_, rfl⟩
  have HX0 : Hid (Ext w W0) := by rw [hW0]; exact ext3
  have HZ0 : Hid (W0.cell? ⟨w.heap.size + 1 + 1, 0, none⟩ = some (.int .i8 0) ∧ W0.cell? ⟨w.heap.size + 1 + 1, 1, none⟩ = some (.bool false) ∧ ∀ i, W0.frozen? ⟨w.heap.size + 1 + 1, i, none⟩ = false) := by
    rw [hW0]; refine ⟨?_, ?_, fun i => ?_⟩ <;> simp [go_sem]
  go_enter Oacg.func41, Oacg.ntmps41
  go_wp2_with fail
  rw [← hW0]
  clear hW0
  refine (HSF.out _ HX0.out).mono ?_
  rintro _ w1 ⟨⟨_, rfl, vn, vd, rfl, hvn, hvd⟩, hx1⟩
  have HZ1 : Hid (w1.cell? ⟨w.heap.size + 1 + 1, 0, none⟩ = some (.int .i8 0) ∧ w1.cell? ⟨w.heap.size + 1 + 1, 1, none⟩ = some (.bool false) ∧ ∀ i, w1.frozen? ⟨w.heap.size + 1 + 1, i, none⟩ = false) :=
    ⟨hx1.cell HZ0.out.1, hx1.cell HZ0.out.2.1, fun i => by rw [hx1.froz]; exact HZ0.out.2.2 i⟩
  have HX1 := hide (HX0.out.trans hx1)
  have HVN := hide hvn
  have HVD := hide hvd
  clear hvn hvd hx1 HX0 HZ0 HSF hkk
  go_wp2_with fail
  refine (HDM.out _ _ _ HVN.out HVD.out).mono ?_
  rintro _ w2 ⟨⟨_, rfl, vq, vr, rfl, hvq, hvr⟩, hx2⟩
  have HX2 := hide hx2
  have HVQ := hide hvq
  clear hvq hvr hx2 HDM
  go_wp2_with fail
  refine (HSQ.out _ _ HVQ.out).mono ?_
  rintro _ w3 ⟨⟨vs, bs, rfl, hvs⟩, hx3⟩
  have HX3 := hide (HX2.out.trans hx3)
  have HVS := hide hvs
  clear hvs hx3 HSQ HX2 HVQ
  go_wp2_with fail
  refine (HS1.out _ _ HVS.out).mono ?_
  rintro _ w4 ⟨⟨v4, rfl, hv4⟩, hx4⟩
  have HV4 := hide hv4
  have HS4 := hide (HVS.out.ext hx4)
  have HX4 := hide (HX3.out.trans hx4)
  clear hv4 hx4 HS1 HX3 HVS
  go_wp2_with fail
  refine (HSU.out _ _ HV4.out).mono ?_
  rintro _ w5 ⟨⟨v5, rfl, hv5⟩, hx5⟩
  have HV5 := hide hv5
  have HS5 := hide (HS4.out.ext hx5)
  have HX5 := hide (HX4.out.trans hx5)
  clear hv5 hx5 HSU HX4 HS4 HV4
  go_wp2_with fail
  refine (HS2.out _ _ (HVN.out.ext HX5.out)).mono ?_
  rintro _ w6 ⟨⟨v6, rfl, hv6⟩, hx6⟩
  have HV6 := hide hv6
  have HT6 := hide (HV5.out.ext hx6)
  have HS6 := hide (HS5.out.ext hx6)
  have HX6 := hide (HX5.out.trans hx6)
  clear hv6 hx6 HS2 HX5 HS5 HV5
  go_wp2_with fail
  refine (HM1.out _ _ HT6.out).mono ?_
  rintro _ w7 ⟨⟨v7, rfl, hv7⟩, hx7⟩
  have HV7 := hide hv7
  have HU7 := hide (HV6.out.ext hx7)
  have HS7 := hide (HS6.out.ext hx7)
  have HX7 := hide (HX6.out.trans hx7)
  clear hv7 hx7 HM1 HX6 HS6 HV6 HT6
  go_wp2_with fail
  refine (HM2.out _ _ _ HV7.out (HVD.out.ext HX7.out)).mono ?_
  rintro _ w8 ⟨⟨v8, rfl, hv8⟩, hx8⟩
  have HV8 := hide hv8
  have HU8 := hide (HU7.out.ext hx8)
  have HS8 := hide (HS7.out.ext hx8)
  have HX8 := hide (HX7.out.trans hx8)
  clear hv8 hx8 HM2 HX7 HS7 HV7 HU7
  go_wp2_with fail
  refine (HC1.out _ _ _ HU8.out HV8.out).mono ?_
  rintro _ w9 ⟨rfl, hx9⟩
  have HS9 := hide (HS8.out.ext hx9)
  have HX9 := hide (HX8.out.trans hx9)
  clear hx9 HC1 HX8 HS8 HV8 HU8
  go_wp2_with fail
  refine (HM3.out _ _ HS9.out).mono ?_
  rintro _ w10 ⟨⟨v10, rfl, hv10⟩, hx10⟩
  have HV10 := hide hv10
  have HS10 := hide (HS9.out.ext hx10)
  have HX10 := hide (HX9.out.trans hx10)
  clear hv10 hx10 HM3 HX9 HS9
  go_wp2_with fail
  refine (HM4.out _ _ _ HV10.out (HVD.out.ext HX10.out)).mono ?_
  rintro _ w11 ⟨⟨v11, rfl, hv11⟩, hx11⟩
  have HV11 := hide hv11
  have HS11 := hide (HS10.out.ext hx11)
  have HX11 := hide (HX10.out.trans hx11)
  clear hv11 hx11 HM4 HX10 HS10 HV10
  go_wp2_with fail
  refine (HC2.out _ _ _ HV11.out (HVN.out.ext HX11.out)).mono ?_
  rintro _ w12 ⟨rfl, hx12⟩
  have HS12 := hide (HS11.out.ext hx12)
  have HX12 := hide (HX11.out.trans hx12)
  clear hx12 HC2 HX11 HS11 HV11 HVN HVD
  have HXA := hide (HX1.out.trans HX12.out)
  have HZA : Hid (w12.cell? ⟨w.heap.size + 1 + 1, 0, none⟩ = some (.int .i8 0) ∧ w12.cell? ⟨w.heap.size + 1 + 1, 1, none⟩ = some (.bool false) ∧ ∀ i, w12.frozen? ⟨w.heap.size + 1 + 1, i, none⟩ = false) :=
    ⟨HX12.out.cell HZ1.out.1, HX12.out.cell HZ1.out.2.1, fun i => by rw [HX12.out.froz]; exact HZ1.out.2.2 i⟩
  clear HX1 HX12 HZ1
  go_wp2_with fail
  obtain ⟨W1, hW1⟩ : ∃ W1, W1 = w12.alloc (.cells #[.int .i8 half, .bool sm] 68) := ⟨_, rfl⟩
  rw [← hW1]
  have hxa : Ext w12 W1 := by rw [hW1]; exact (Ext.refl _).alloc _ _
  have HG : Hid (W1.cell? ⟨w12.heap.size, 0, none⟩ = some (.int .i8 half) ∧ W1.cell? ⟨w12.heap.size, 1, none⟩ = some (.bool sm)) := by
    rw [hW1]; constructor <;> simp [go_sem]
  have HXB := hide (HXA.out.trans hxa)
  have HSB := hide (HS12.out.ext hxa)
  have HZB : Hid (W1.cell? ⟨w.heap.size + 1 + 1, 0, none⟩ = some (.int .i8 0) ∧ W1.cell? ⟨w.heap.size + 1 + 1, 1, none⟩ = some (.bool false) ∧ ∀ i, W1.frozen? ⟨w.heap.size + 1 + 1, i, none⟩ = false) :=
    ⟨hxa.cell HZA.out.1, hxa.cell HZA.out.2.1, fun i => by rw [hxa.froz]; exact HZA.out.2.2 i⟩
  have hneq : w12.heap.size ≠ w.heap.size + 1 + 1 := by
    have := World.block_lt_of_cell? _ _ HZA.out.1
    simp at this
    omega
  have HBT := hide (fun wx (hx : Ext W1 wx) => bit0_any n vs wx (HSB.out.ext hx))
  clear hW1 hxa HXA HS12 HZA hsm
  go_cut [69] (fun v wx => v = .bool (raisesQ mode false (decide (n % 2 = 1)) half sm) ∧ Hid (Ext W1 wx))
  case first =>
    go_region_held3 (fun w' => w'.cell? ⟨w12.heap.size, 0, none⟩ = some (.int .i8 half) ∧ w'.cell? ⟨w12.heap.size, 1, none⟩ = some (.bool sm))
      (first | exact HG.out | exact ⟨Ext.cell (by (repeat (first | apply Ext.drew | apply Ext.alloc)); first | exact Ext.refl _ | assumption) HG.out.1, Ext.cell (by (repeat (first | apply Ext.drew | apply Ext.alloc)); first | exact Ext.refl _ | assumption) HG.out.2⟩)
      (first
        | (go_at_call 79; refine (HBT.out _ (by (repeat (first | apply Ext.drew | apply Ext.alloc)); exact Ext.refl _)).mono ?_; rintro r w' ⟨rfl, rfl⟩)
        | (go_at_call 78; refine (raises_any _ _ _ _ _ _).mono ?_; rintro r w' ⟨rfl, rfl⟩))
    all_goals go_wp2_with fail
    all_goals go_meet
    all_goals exact ⟨rfl, show Ext _ _ by (repeat (first | apply Ext.drew | apply Ext.alloc)); exact Ext.refl _⟩
  case rest =>
    obtain ⟨rfl, HXc⟩ := hcut
    have HXD := hide (HXB.out.trans HXc.out)
    have HSD := hide (HSB.out.ext HXc.out)
    have HZD : Hid (wc.cell? ⟨w.heap.size + 1 + 1, 0, none⟩ = some (.int .i8 0) ∧ wc.cell? ⟨w.heap.size + 1 + 1, 1, none⟩ = some (.bool false) ∧ ∀ i, wc.frozen? ⟨w.heap.size + 1 + 1, i, none⟩ = false) :=
      ⟨HXc.out.cell HZB.out.1, HXc.out.cell HZB.out.2.1, fun i => by rw [HXc.out.froz]; exact HZB.out.2.2 i⟩
    have HGD : Hid (wc.cell? ⟨w12.heap.size, 0, none⟩ = some (.int .i8 half) ∧ wc.cell? ⟨w12.heap.size, 1, none⟩ = some (.bool sm)) := ⟨HXc.out.cell HG.out.1, HXc.out.cell HG.out.2⟩
    have hle : w.heap.size ≤ w.heap.size + 1 + 1 := by omega
    clear HXc HXB HSB HZB HG HBT
    cases hrz : raisesQ mode false (decide (n % 2 = 1)) half sm with
    | true =>
      have hR := HRN.out
      rw [hrz, if_pos rfl] at hR
      subst hR
      have HS := hide (succ_any n 2148 HNL.out (by decide) vs wc HSD.out)
      clear hrz
      go_wp2_with fail
      refine HS.out.mono ?_
      rintro _ w13 ⟨⟨v13, rfl, hv13⟩, hx13⟩
      have HX13 := hide (HXD.out.trans hx13)
      have HV13 := hide hv13
      have d0 := hx13.cell HZD.out.1
      have d1 := hx13.cell HZD.out.2.1
      have f0 : ∀ i, w13.frozen? ⟨w.heap.size + 1 + 1, i, none⟩ = false := fun i => by rw [hx13.froz]; exact HZD.out.2.2 i
      have g0 := hx13.cell HGD.out.1
      have g1 := hx13.cell HGD.out.2
      have HK := hide (keeps2 (w := w13) (b := w.heap.size + 1 + 1) d0 d1 rfl rfl)
      clear hv13 hx13 HZD HGD HS HXD HSD
      go_wp2_with fail
      go_region
      go_wp2_with fail
      simp [bodyPost, results, Oacg.results41, go_sem, d0, d1]
      exact ⟨⟨_, rfl, (HK.out _ _ _ _ HV13.out).ext (Ext.refl _).drew⟩, ((HX13.out.setCell hle _).setCell hle _).drew⟩
    | false =>
      have hR := HRN.out
      rw [hrz, if_neg (by decide)] at hR
      subst hR
      obtain ⟨d0, d1, f0⟩ := HZD.out
      obtain ⟨g0, g1⟩ := HGD.out
      have HK := hide (keeps2 (w := wc) (b := w.heap.size + 1 + 1) d0 d1 rfl rfl)
      clear hrz
      go_wp2_with fail
      go_region
      go_wp2_with fail
      simp [bodyPost, results, Oacg.results41, go_sem, d0, d1]
      exact ⟨⟨_, rfl, (HK.out _ _ _ _ HSD.out).ext (Ext.refl _).drew⟩, ((HXD.out.setCell hle _).setCell hle _).drew⟩
end Go.Proofs.YgcoacGreat
