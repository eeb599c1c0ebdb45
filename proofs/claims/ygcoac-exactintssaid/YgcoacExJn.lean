/-
  law.ExactInts, i negative.
-/
import Derived.Test.YgcoacExI
namespace Go.Proofs.Ygcoac
open Go.RowKit
set_option linter.unusedSimpArgs false
set_option linter.unusedVariables false
attribute [local go_sem] nil_eq nil_ne

set_option maxRecDepth 100000 in
set_option maxHeartbeats 4000000 in
theorem exactInts_neg (e m : Nat) (h : Fm e m) (mode : Int) (i : Int) (h1 : -9223372036854775808 ≤ i) (h2 : i ≤ 9223372036854775807) (hi : i < 0) (u : Nat) (hu : u < 18446744073709551616) (a : Nat) (ha : a < 18446744073709551616) (w : World) :
    Calls Oacg.prog 4 #[.agg #[.int .u8 (e : Int), .int .u8 (m : Int)], .int .u8 mode, .int .i64 i, .int .u64 (u : Int), .int .u64 (a : Int)] w fun r w' => r = .returned (.bool true) ∧ Ext w w' := by
  have hok := okB_fm h
  have hdi : decide (i < 0) = true := by simpa using hi
  have HFI := hide (fromInt64_any e m h mode i h1 h2)
  rw [hdi] at HFI
  have HFN := hide (fromUint64_any e m h mode u hu)
  obtain ⟨n1, hn1⟩ : ∃ n1, i.natAbs = n1 := ⟨_, rfl⟩
  rw [hn1] at HFI
  have hn1b : n1 < 18446744073709551616 := by omega
  have HR1 := hide (fun v wx hv => round_any e m h mode true n1 1 2 1 (lt_W2 hn1b) (one_lt_W 1 (by decide)) (by decide) (by decide) (by decide) v wx hv)
  have HR2 := hide (fun v wx hv => round_any e m h mode false u 1 2 1 (lt_W2 hu) (one_lt_W 1 (by decide)) (by decide) (by decide) (by decide) v wx hv)
  have HU1 : Hid (∀ wx, Calls Oacg.prog 24 #[.int .u64 (n1 : Int)] wx fun r w' => (∃ v, r = .returned v ∧ NatAt w' v n1) ∧ Ext wx w') := by
    intro wx; have := fromU64_any (n1 : Int) (by omega) (by omega) wx; rwa [Int.toNat_natCast] at this
  have HU2 : Hid (∀ wx, Calls Oacg.prog 24 #[.int .u64 (u : Int)] wx fun r w' => (∃ v, r = .returned v ∧ NatAt w' v u) ∧ Ext wx w') := by
    intro wx; have := fromU64_any (u : Int) (by omega) (by omega) wx; rwa [Int.toNat_natCast] at this
  have HTI := hide (toInt64_any e m h mode a ha)
  have HIF := hide (isFinite_any e m h a ha)
  have HVA := hide (value_any e m h a ha)
  obtain ⟨T1, hT1⟩ : ∃ T1, (tiA e m mode a).1 = T1 := ⟨_, rfl⟩
  obtain ⟨T2, hT2⟩ : ∃ T2, (tiA e m mode a).2.1 = T2 := ⟨_, rfl⟩
  obtain ⟨F, hF⟩ : ∃ F, decide (cls e m a < 3) = F := ⟨_, rfl⟩
  rw [hT1, hT2] at HTI
  rw [hF] at HIF
  have HBAD : Box (F = false → T1 = 0 ∧ T2 = false) := ⟨fun hf => by
    have hc : 3 ≤ cls e m a := by rw [hf] at hF; simpa using hF
    rw [← hT1, ← hT2]; unfold tiA; rw [if_pos hc]; exact ⟨rfl, rfl⟩⟩
  have HFIN : Box (F = true → vNeg e m a = ngB e m a ∧ (T1, T2) = ((tiR (ngB e m a) (raisedN mode (ngB e m a) (vNum e m a) (vDen e m a)) (someQ (vNum e m a) (vDen e m a))).1, (tiR (ngB e m a) (raisedN mode (ngB e m a) (vNum e m a) (vDen e m a)) (someQ (vNum e m a) (vDen e m a))).2.1)) := ⟨fun hf => by
    have hc : ¬ 3 ≤ cls e m a := by rw [hf] at hF; have : cls e m a < 3 := by simpa using hF
                                    omega
    refine ⟨by unfold vNeg; rw [if_neg hc], ?_⟩
    rw [← hT1, ← hT2]; unfold tiA; rw [if_neg hc]; rfl⟩
  have HVN := Box.mk (vNum_lt h a)
  have HVD := Box.mk (vDen_lt h a)
  have HVP := Box.mk (vDen_pos e m a)
  generalize vNum e m a = vN at *
  generalize vDen e m a = vD at *
  generalize vNeg e m a = vn at *
  generalize ngB e m a = ng at *
  generalize cls e m a = cl at *
  clear hT1 hT2 hF
  have H := hide h
  have hcv1 : IntKind.u64.wrap i = i + 18446744073709551616 := by rw [wu64]; omega
  have hcv2 : IntKind.u64.wrap (-(i + 18446744073709551616)) = (n1 : Int) := by rw [wu64]; omega
  have hn1i : (n1 : Int) < 18446744073709551616 := by omega
  have hui : (u : Int) < 18446744073709551616 := by omega
  generalize (rndV e m mode true n1 1 : Int) = rv1 at *
  generalize (rndV e m mode false u 1 : Int) = rv2 at *
  have HHA := Box.mk ha
  obtain ⟨W0, hW0⟩ : ∃ W0, W0 = (w.alloc (.cells #[.int .u8 (e : Int), .int .u8 (m : Int)] 23)).alloc (.cells #[.int .u8 (e : Int), .int .u8 (m : Int)] 23) := ⟨_, rfl⟩
  have HC : Hid (Cells2 W0 w.heap.size e m) := by rw [hW0]; exact (Cells2.new w e m _).ext ((Ext.refl _).alloc _ _)
  have HX0 : Hid (Ext w W0) := by rw [hW0]; exact ((Ext.refl w).alloc _ _).alloc _ _
  clear hu ha h hn1b hn1
  go_enter Oacg.func4, Oacg.ntmps4
  go_wp2_with (first | (go_at_call 14; refine (ok_any _ _ _).mono ?_; rintro r w' ⟨rfl, rfl⟩))
  rw [← hW0]
  clear hW0
  have tok1 : True := trivial
  have tok2 : True := trivial
  have tok3 : True := trivial
  go_region_held3 (fun w' => Cells2 w' w.heap.size e m)
    (first | exact HC.out | exact HC.out.ext (by (repeat apply Ext.drew); first | exact Ext.refl _ | assumption))
    (first
      | (go_at_call 22; refine (HFI.out _).mono ?_; rintro r w1 ⟨rfl, hx1⟩; have hE1 : Ext W0 w1 := Ext.trans (by (repeat apply Ext.drew); first | exact Ext.refl _ | assumption) hx1; clear hx1)
      | (go_at_call 25; refine (HFN.out _).mono ?_; rintro r w5 ⟨rfl, hx5⟩; have hE5 : Ext W0 w5 := Ext.trans (by (repeat apply Ext.drew); first | exact Ext.refl _ | assumption) hx5; clear hx5)
      | (go_at_call 24; have _t := tok1; refine (HU1.out _).mono ?_; rintro r w2 ⟨⟨v2, rfl, hv2⟩, hx2⟩; clear tok1; obtain ⟨p1, k1, c1, rfl⟩ := hv2.shape; have HV2 := hide hv2; have hE2 : Ext W0 w2 := Ext.trans (by (repeat apply Ext.drew); first | exact Ext.refl _ | assumption) hx2; clear hx2 hv2)
      | (go_at_call 24; refine (HU2.out _).mono ?_; rintro r w6 ⟨⟨v6, rfl, hv6⟩, hx6⟩; obtain ⟨p5, k5, c5, rfl⟩ := hv6.shape; have HV6 := hide hv6; have hE6 : Ext W0 w6 := Ext.trans (by (repeat apply Ext.drew); first | exact Ext.refl _ | assumption) hx6; clear hx6 hv6)
      | (go_at_call 23; have _t := tok2; refine (wholeFrac_any true n1 _ _ (by first | exact HV2.out | exact HV2.out.ext ((Ext.refl _).drew))).mono ?_; rintro r w3 ⟨⟨v3, rfl, hv3⟩, hx3⟩; clear tok2; obtain ⟨p2, k2, c2, p3, k3, c3, rfl, hn3, hd3⟩ := hv3; have HV3 : Hid (RatAt w3 (.agg #[.bool true, .slice p2 k2 c2, .slice p3 k3 c3]) true n1 1) := ⟨_, _, _, _, _, _, rfl, hn3, hd3⟩; have hE3 : Ext W0 w3 := Ext.trans (by (repeat apply Ext.drew); first | exact Ext.refl _ | assumption) hx3; clear hx3 hn3 hd3)
      | (go_at_call 23; refine (wholeFrac_any false u _ _ (by first | exact HV6.out | exact HV6.out.ext ((Ext.refl _).drew))).mono ?_; rintro r w7 ⟨⟨v7, rfl, hv7⟩, hx7⟩; obtain ⟨p6, k6, c6, p7, k7, c7, rfl, hn7, hd7⟩ := hv7; have HV7 : Hid (RatAt w7 (.agg #[.bool false, .slice p6 k6 c6, .slice p7 k7 c7]) false u 1) := ⟨_, _, _, _, _, _, rfl, hn7, hd7⟩; have hE7 : Ext W0 w7 := Ext.trans (by (repeat apply Ext.drew); first | exact Ext.refl _ | assumption) hx7; clear hx7 hn7 hd7)
      | (go_at_call 21; have _t := tok3; refine (HR1.out _ _ (by first | exact HV3.out | exact HV3.out.ext ((Ext.refl _).drew))).mono ?_; rintro r w4 ⟨rfl, hx4⟩; clear tok3; have hE4 : Ext W0 w4 := Ext.trans (by (repeat apply Ext.drew); first | exact Ext.refl _ | assumption) hx4; clear hx4)
      | (go_at_call 21; refine (HR2.out _ _ (by first | exact HV7.out | exact HV7.out.ext ((Ext.refl _).drew))).mono ?_; rintro r w8 ⟨rfl, hx8⟩; have hE8 : Ext W0 w8 := Ext.trans (by (repeat apply Ext.drew); first | exact Ext.refl _ | assumption) hx8; clear hx8))
  have HX8 : Hid (Ext w w8) := HX0.out.trans hE8
  have HC8 : Hid (Cells2 w8 w.heap.size e m) := HC.out.ext hE8
  have hzz : w.heap.size < w8.heap.size := World.block_lt_of_cell? _ _ HC8.out.1
  obtain ⟨a0, a1⟩ := HC8.out
  clear HFI HFN HR1 HR2 HU1 HU2 HV2 HV3 HV6 HV7 hE1 hE2 hE3 hE4 hE5 hE6 hE7 hE8 HC HX0 hcv1 hcv2 hn1i hui h1 h2 hi hdi
  go_wp2_with fail
  refine (HTI.out _).mono ?_
  rintro _ w9 ⟨rfl, hx9⟩
  have HX9 := hide (HX8.out.trans hx9)
  have HC9 := hide (HC8.out.ext hx9)
  clear hx9 HX8 HC8 a0 a1 HTI
  obtain ⟨a0, a1⟩ := HC9.out
  go_wp2_with fail
  refine (HIF.out _).mono ?_
  rintro _ w10 ⟨rfl, hx10⟩
  have HX10 := hide (HX9.out.trans hx10)
  have HC10 := hide (HC9.out.ext hx10)
  clear hx10 HX9 HC9 a0 a1 HIF
  obtain ⟨a0, a1⟩ := HC10.out
  cases F with
  | false =>
    obtain ⟨rfl, rfl⟩ := HBAD.out rfl
    go_wp2_with fail
    go_ret
    exact ⟨rfl, HX10.out⟩
  | true =>
    obtain ⟨hvn, hT⟩ := HFIN.out rfl
    subst hvn
    have HTT := Box.mk hT
    clear hT HFIN HBAD
    go_wp2_with fail
    refine (HVA.out _).mono ?_
    rintro _ w11 ⟨⟨_, rfl, p1, k1, c1, p2, k2, c2, rfl, hnN, hnD⟩, hx11⟩
    obtain ⟨W1, hW1⟩ : ∃ W1, W1 = w11.alloc (.cells #[.bool vn, .slice p1 k1 c1, .slice p2 k2 c2] 37) := ⟨_, rfl⟩
    have hxa : Ext w11 W1 := by rw [hW1]; exact (Ext.refl w11).alloc _ _
    have g0 : W1.cell? ⟨w11.heap.size, 0, none⟩ = some (.bool vn) := by rw [hW1]; simp [go_sem]
    have g2 : W1.cell? ⟨w11.heap.size, 2, none⟩ = some (.slice p2 k2 c2) := by rw [hW1]; simp [go_sem]
    have HX11 := hide (HX10.out.trans (hx11.trans hxa))
    have HND := hide (hnD.ext hxa)
    have HDM := hide (divMod_any vN vD 100 HVN.out (by decide) HVP.out _ _ W1 (hnN.ext hxa) HND.out)
    clear hx11 hxa hnN hnD HX10 HC10 HVA a0 a1
    go_wp2_with fail
    rw [← hW1]
    clear hW1
    refine HDM.out.mono ?_
    rintro _ w12 ⟨⟨_, rfl, vq, vr, rfl, hvq, hvr⟩, hx12⟩
    have HX12 := hide (HX11.out.trans hx12)
    have g02 := hx12.cell g0
    have g22 := hx12.cell g2
    have HND2 := hide (HND.out.ext hx12)
    have HQ := hide hvq
    have HR := hide hvr
    obtain ⟨sm, hsm, pr, kr, cr, rfl, hkr⟩ : ∃ sm, someQ vN vD = sm ∧ ∃ pr kr cr, vr = .slice pr kr cr ∧ ((kr : Int) != 0) = sm := by
      refine ⟨_, rfl, ?_⟩
      unfold someQ
      rcases hvr with ⟨hz, rfl⟩ | ⟨l, b, off, cap, rfl, _, _, _, _, hvl, h0, _⟩
      · exact ⟨_, _, _, rfl, by rw [hz]; rfl⟩
      · refine ⟨_, _, _, rfl, ?_⟩
        have hl : l ≠ [] := by intro hl; rw [hl] at hvl; simp [val] at hvl; omega
        have hlp := List.length_pos_iff.2 hl
        have e1 : ((l.length : Int) != 0) = true := by rw [bne_iff_ne]; omega
        have e2 : decide (vN % vD ≠ 0) = true := by rw [decide_eq_true_eq]; omega
        rw [e1, e2]
    have hhalf : cmpI (vN % vD + vN % vD) vD = halfQ vN vD := by unfold halfQ; rw [Nat.mul_two]
    have HRL := Box.mk (Nat.lt_of_le_of_lt (Nat.mod_le vN vD) HVN.out)
    have HQL := Box.mk (Nat.lt_of_le_of_lt (Nat.div_le_self vN vD) HVN.out)
    have hrd : raisedN mode vn vN vD = if raisesQ mode vn (decide (vN / vD % 2 = 1)) (halfQ vN vD) sm then vN / vD + 1 else vN / vD := by unfold raisedN; rw [hsm]
    have HAD := hide (fun wx (hx : Ext w12 wx) => add_any (vN % vD) (vN % vD) 100 100 HRL.out HRL.out (by decide) (by decide) _ _ wx (HR.out.ext hx) (HR.out.ext hx))
    have HBI := hide (fun wx (hx : Ext w12 wx) => bit0_any (vN / vD) vq wx (HQ.out.ext hx))
    have HCM := hide (fun v wx (hx : Ext w12 wx) (hv : NatAt wx v (vN % vD + vN % vD)) => cmp_any (vN % vD + vN % vD) vD v _ wx hv (HND2.out.ext hx))
    rw [hhalf] at HCM
    generalize halfQ vN vD = half at *
    have HRD := Box.mk hrd
    clear hvq hvr hx12 g0 g2 hsm hhalf hrd HX11 HND HDM HR
    generalize vN % vD + vN % vD = rr at *
    generalize vN / vD = q at *
    go_wp2_with fail
    go_region_held3 (fun w' => w'.cell? ⟨w11.heap.size, 0, none⟩ = some (.bool vn) ∧ w'.cell? ⟨w11.heap.size, 2, none⟩ = some (.slice p2 k2 c2))
      (first | exact ⟨g02, g22⟩ | exact ⟨Ext.cell (by (repeat apply Ext.drew); first | exact Ext.refl _ | assumption) g02, Ext.cell (by (repeat apply Ext.drew); first | exact Ext.refl _ | assumption) g22⟩)
      (first
        | (go_at_call 30; refine (HBI.out _ (by (repeat apply Ext.drew); first | exact Ext.refl _ | assumption)).mono ?_; rintro r wb ⟨rfl, rfl⟩)
        | (go_at_call 32; refine (HAD.out _ (by (repeat apply Ext.drew); first | exact Ext.refl _ | assumption)).mono ?_; rintro r w13 ⟨⟨v13, rfl, hv13⟩, hx13⟩; have HV13 := hide hv13; have hE13 : Ext w12 w13 := Ext.trans (by (repeat apply Ext.drew); first | exact Ext.refl _ | assumption) hx13; clear hv13 hx13)
        | (go_at_call 31; refine (HCM.out _ _ (by (repeat apply Ext.drew); first | exact Ext.refl _ | assumption) (by first | exact HV13.out | exact HV13.out.ext ((Ext.refl _).drew))).mono ?_; rintro r w14 ⟨rfl, nn, rfl⟩; have hE14 : Ext w12 (w13.drewN nn) := Ext.drewN (by assumption) nn)
        | (go_at_call 29; refine (goesUp_any _ _ _ _ _ _).mono ?_; rintro r wg ⟨rfl, rfl⟩))
    obtain ⟨RN, hRN⟩ : ∃ RN, raisedN mode vn vN vD = RN := ⟨_, rfl⟩
    rw [hRN] at HTT HRD
    have HX14 := hide (HX12.out.trans hE14)
    have HQ14 := hide (HQ.out.ext hE14)
    have gX := hE14.cell g02
    clear hRN HAD HBI HCM HX12 HQ hE13 hE14 g02 g22 HND2 HV13 hkr
    cases hrz : raisesQ mode vn (decide (q % 2 = 1)) half sm with
    | true =>
      have hR := HRD.out
      rw [hrz, if_pos rfl] at hR
      have HSU := hide (succ_any q 100 HQL.out (by decide) vq _ HQ14.out)
      rw [← hR] at HSU
      have HRZ := Box.mk hrz
      clear hrz hR HRD HQL
      go_wp2_with (fail)
      refine HSU.out.mono ?_
      rintro _ wS ⟨⟨vX, rfl, hvX⟩, hxS⟩
      have HXX := hide (HX14.out.trans hxS)
      have HNX := hide hvX
      replace gX := hxS.cell gX
      clear hvX hxS HSU HX14 HQ14
      have HONE := hide one_any
      go_wp2_with fail
      refine (HONE.out _).mono ?_
      rintro _ w15 ⟨⟨v15, rfl, hv15⟩, hx15⟩
      have HSL := hide (shl_any 1 1 (one_lt_W 1 (by decide)) (by decide) 63 (by decide) v15 w15 hv15)
      rw [show 1 * 2 ^ 63 = 9223372036854775808 from rfl] at HSL
      have HX15 := hide (HXX.out.trans hx15)
      have HN15 := hide (HNX.out.ext hx15)
      have g15 := hx15.cell gX
      clear hv15 hx15 HXX HNX gX HONE
      go_wp2_with fail
      refine HSL.out.mono ?_
      rintro _ w16 ⟨⟨v16, rfl, hv16⟩, hx16⟩
      have HCP := hide (cmp_any RN 9223372036854775808 vX v16 w16 (HN15.out.ext hx16) hv16)
      have HX16 := hide (HX15.out.trans hx16)
      have HN16 := hide (HN15.out.ext hx16)
      have g16 := hx16.cell g15
      clear hv16 hx16 HX15 HN15 g15 HSL
      by_cases hbig : limN vn < RN
      · obtain ⟨rfl, rfl⟩ : T1 = 0 ∧ T2 = false := by
          have := HTT.out
          unfold tiR at this
          rw [if_pos hbig] at this
          simpa using this
        clear HTT
        cases vn with
        | true =>
          have hb : 9223372036854775808 < RN := hbig
          rw [cmpI_gt hb] at HCP
          clear hb hbig
          go_wp2_with fail
          refine HCP.out.mono ?_
          rintro _ _ ⟨rfl, k17, hw17⟩
          rw [hw17]
          clear hw17
          go_wp2_with fail
          go_ret
          exact ⟨rfl, HX16.out.drewN k17⟩
        | false =>
          have hb : 9223372036854775807 < RN := hbig
          obtain ⟨z, hz, hzz2⟩ : ∃ z : Int, cmpI RN 9223372036854775808 = z ∧ (z = 1 ∨ z = 0) := ⟨_, rfl, by unfold cmpI; rw [if_neg (by omega)]; split <;> simp⟩
          rw [hz] at HCP
          clear hb hbig hz
          rcases hzz2 with rfl | rfl
          all_goals
            go_wp2_with fail
            refine HCP.out.mono ?_
            rintro _ _ ⟨rfl, k17, hw17⟩
            rw [hw17]
            clear hw17
            go_wp2_with fail
            go_ret
            exact ⟨rfl, HX16.out.drewN k17⟩
      · obtain ⟨hT1, rfl⟩ : T1 = (if vn then -(RN : Int) else (RN : Int)) ∧ T2 = true := by
          have := HTT.out
          unfold tiR at this
          rw [if_neg hbig] at this
          simpa using this
        clear HTT
        have HFR : Hid (∀ wx, Calls Oacg.prog 24 #[.int .u64 (RN : Int)] wx fun r w' => (∃ v, r = .returned v ∧ NatAt w' v RN) ∧ Ext wx w') := by
          intro wx
          have hb : RN ≤ 9223372036854775808 := by have := hbig; unfold limN at this; split at this <;> omega
          have := fromU64_any (RN : Int) (by omega) (by omega) wx; rwa [Int.toNat_natCast] at this
        have HSN := hide (fun v wx (h1 : NatAt wx vX RN) (h2 : NatAt wx v RN) => sameNat_any RN RN vX v wx h1 h2)
        rw [show decide (RN = RN) = true by simp] at HSN
        cases vn with
        | true =>
          have hb : ¬ 9223372036854775808 < RN := hbig
          obtain ⟨z, hz, hzz2⟩ : ∃ z : Int, cmpI RN 9223372036854775808 = z ∧ (z = -1 ∨ z = 0) := ⟨_, rfl, by unfold cmpI; split <;> (try split) <;> omega⟩
          rw [hz] at HCP
          simp only [if_true] at hT1
          rcases Nat.eq_zero_or_pos RN with hR0 | hR0
          · obtain rfl : T1 = 0 := by omega
            have hc1 : (RN : Int) = 0 := by omega
            have HFR0 := hide HFR.out
            rw [hc1] at HFR0
            clear hb hbig hz hT1 hc1 hR0 HFR
            rcases hzz2 with rfl | rfl
            all_goals
              go_wp2_with fail
              refine HCP.out.mono ?_
              rintro _ _ ⟨rfl, k17, hw17⟩
              rw [hw17]
              clear hw17
              go_wp2_with fail
              refine (HFR0.out _).mono ?_
              rintro _ w18 ⟨⟨v18, rfl, hv18⟩, hx18⟩
              have HX18 := hide ((HX16.out.drewN k17).trans hx18)
              have HS18 := hide (HSN.out v18 w18 (HN16.out.ext (((Ext.refl _).drewN k17).trans hx18)) hv18)
              have g18 := hx18.cell (show (w16.drewN k17).cell? ⟨w11.heap.size, 0, none⟩ = _ from g16)
              clear hv18 hx18
              go_wp2_with fail
              refine HS18.out.mono ?_
              rintro _ _ ⟨rfl, k19, hw19⟩
              rw [hw19]
              clear hw19
              go_wp2_with fail
              go_ret
              exact ⟨rfl, HX18.out.drewN k19⟩
          · have ht : T1 < 0 := by omega
            have hcvA : IntKind.u64.wrap T1 = T1 + 18446744073709551616 := by rw [wu64]; omega
            have hcvB : IntKind.u64.wrap (-(T1 + 18446744073709551616)) = (RN : Int) := by rw [wu64]; omega
            have hne0 : (T1 == 0) = false := by rw [beq_eq_false_iff_ne]; omega
            have hlt0 : decide (T1 < 0) = true := by simpa using ht
            have HFR0 := HFR
            clear hb hbig hz hT1 hR0 HFR
            rcases hzz2 with rfl | rfl
            all_goals
              go_wp2_with fail
              refine HCP.out.mono ?_
              rintro _ _ ⟨rfl, k17, hw17⟩
              rw [hw17]
              clear hw17
              go_wp2_with fail
              refine (HFR0.out _).mono ?_
              rintro _ w18 ⟨⟨v18, rfl, hv18⟩, hx18⟩
              have HX18 := hide ((HX16.out.drewN k17).trans hx18)
              have HS18 := hide (HSN.out v18 w18 (HN16.out.ext (((Ext.refl _).drewN k17).trans hx18)) hv18)
              have g18 := hx18.cell (show (w16.drewN k17).cell? ⟨w11.heap.size, 0, none⟩ = _ from g16)
              clear hv18 hx18
              go_wp2_with fail
              refine HS18.out.mono ?_
              rintro _ _ ⟨rfl, k19, hw19⟩
              rw [hw19]
              clear hw19
              go_wp2_with fail
              go_ret
              exact ⟨rfl, HX18.out.drewN k19⟩
        | false =>
          have hb : ¬ 9223372036854775807 < RN := hbig
          rw [cmpI_lt (show RN < 9223372036854775808 by omega)] at HCP
          simp only [Bool.false_eq_true, if_false] at hT1
          have hge0 : ¬ T1 < 0 := by omega
          have hcvA : IntKind.u64.wrap T1 = (RN : Int) := by rw [wu64]; omega
          have hlt0 : decide (T1 < 0) = false := by simpa using hge0
          have HFR0 := HFR
          cases hz0 : (T1 == 0) with
          | true =>
            clear hb hbig hT1 HFR
            go_wp2_with fail
            refine HCP.out.mono ?_
            rintro _ _ ⟨rfl, k17, hw17⟩
            rw [hw17]
            clear hw17
            go_wp2_with fail
            refine (HFR0.out _).mono ?_
            rintro _ w18 ⟨⟨v18, rfl, hv18⟩, hx18⟩
            have HX18 := hide ((HX16.out.drewN k17).trans hx18)
            have HS18 := hide (HSN.out v18 w18 (HN16.out.ext (((Ext.refl _).drewN k17).trans hx18)) hv18)
            have g18 := hx18.cell (show (w16.drewN k17).cell? ⟨w11.heap.size, 0, none⟩ = _ from g16)
            clear hv18 hx18
            go_wp2_with fail
            refine HS18.out.mono ?_
            rintro _ _ ⟨rfl, k19, hw19⟩
            rw [hw19]
            clear hw19
            go_wp2_with fail
            go_ret
            exact ⟨rfl, HX18.out.drewN k19⟩
          | false =>
            clear hb hbig hT1 HFR
            go_wp2_with fail
            refine HCP.out.mono ?_
            rintro _ _ ⟨rfl, k17, hw17⟩
            rw [hw17]
            clear hw17
            go_wp2_with fail
            refine (HFR0.out _).mono ?_
            rintro _ w18 ⟨⟨v18, rfl, hv18⟩, hx18⟩
            have HX18 := hide ((HX16.out.drewN k17).trans hx18)
            have HS18 := hide (HSN.out v18 w18 (HN16.out.ext (((Ext.refl _).drewN k17).trans hx18)) hv18)
            have g18 := hx18.cell (show (w16.drewN k17).cell? ⟨w11.heap.size, 0, none⟩ = _ from g16)
            clear hv18 hx18
            go_wp2_with fail
            refine HS18.out.mono ?_
            rintro _ _ ⟨rfl, k19, hw19⟩
            rw [hw19]
            clear hw19
            go_wp2_with fail
            go_ret
            exact ⟨rfl, HX18.out.drewN k19⟩
    | false =>
      have hR := HRD.out
      rw [hrz, if_neg (by decide)] at hR
      subst hR
      obtain ⟨vX, hvX⟩ : ∃ vX, vX = vq := ⟨_, rfl⟩
      subst hvX
      have HXX := HX14
      have HNX := HQ14
      clear HRD HQL HX14 HQ14
      have HONE := hide one_any
      go_wp2_with fail
      refine (HONE.out _).mono ?_
      rintro _ w15 ⟨⟨v15, rfl, hv15⟩, hx15⟩
      have HSL := hide (shl_any 1 1 (one_lt_W 1 (by decide)) (by decide) 63 (by decide) v15 w15 hv15)
      rw [show 1 * 2 ^ 63 = 9223372036854775808 from rfl] at HSL
      have HX15 := hide (HXX.out.trans hx15)
      have HN15 := hide (HNX.out.ext hx15)
      have g15 := hx15.cell gX
      clear hv15 hx15 HXX HNX gX HONE
      go_wp2_with fail
      refine HSL.out.mono ?_
      rintro _ w16 ⟨⟨v16, rfl, hv16⟩, hx16⟩
      have HCP := hide (cmp_any RN 9223372036854775808 vX v16 w16 (HN15.out.ext hx16) hv16)
      have HX16 := hide (HX15.out.trans hx16)
      have HN16 := hide (HN15.out.ext hx16)
      have g16 := hx16.cell g15
      clear hv16 hx16 HX15 HN15 g15 HSL
      by_cases hbig : limN vn < RN
      · obtain ⟨rfl, rfl⟩ : T1 = 0 ∧ T2 = false := by
          have := HTT.out
          unfold tiR at this
          rw [if_pos hbig] at this
          simpa using this
        clear HTT
        cases vn with
        | true =>
          have hb : 9223372036854775808 < RN := hbig
          rw [cmpI_gt hb] at HCP
          clear hb hbig
          go_wp2_with fail
          refine HCP.out.mono ?_
          rintro _ _ ⟨rfl, k17, hw17⟩
          rw [hw17]
          clear hw17
          go_wp2_with fail
          go_ret
          exact ⟨rfl, HX16.out.drewN k17⟩
        | false =>
          have hb : 9223372036854775807 < RN := hbig
          obtain ⟨z, hz, hzz2⟩ : ∃ z : Int, cmpI RN 9223372036854775808 = z ∧ (z = 1 ∨ z = 0) := ⟨_, rfl, by unfold cmpI; rw [if_neg (by omega)]; split <;> simp⟩
          rw [hz] at HCP
          clear hb hbig hz
          rcases hzz2 with rfl | rfl
          all_goals
            go_wp2_with fail
            refine HCP.out.mono ?_
            rintro _ _ ⟨rfl, k17, hw17⟩
            rw [hw17]
            clear hw17
            go_wp2_with fail
            go_ret
            exact ⟨rfl, HX16.out.drewN k17⟩
      · obtain ⟨hT1, rfl⟩ : T1 = (if vn then -(RN : Int) else (RN : Int)) ∧ T2 = true := by
          have := HTT.out
          unfold tiR at this
          rw [if_neg hbig] at this
          simpa using this
        clear HTT
        have HFR : Hid (∀ wx, Calls Oacg.prog 24 #[.int .u64 (RN : Int)] wx fun r w' => (∃ v, r = .returned v ∧ NatAt w' v RN) ∧ Ext wx w') := by
          intro wx
          have hb : RN ≤ 9223372036854775808 := by have := hbig; unfold limN at this; split at this <;> omega
          have := fromU64_any (RN : Int) (by omega) (by omega) wx; rwa [Int.toNat_natCast] at this
        have HSN := hide (fun v wx (h1 : NatAt wx vX RN) (h2 : NatAt wx v RN) => sameNat_any RN RN vX v wx h1 h2)
        rw [show decide (RN = RN) = true by simp] at HSN
        cases vn with
        | true =>
          have hb : ¬ 9223372036854775808 < RN := hbig
          obtain ⟨z, hz, hzz2⟩ : ∃ z : Int, cmpI RN 9223372036854775808 = z ∧ (z = -1 ∨ z = 0) := ⟨_, rfl, by unfold cmpI; split <;> (try split) <;> omega⟩
          rw [hz] at HCP
          simp only [if_true] at hT1
          rcases Nat.eq_zero_or_pos RN with hR0 | hR0
          · obtain rfl : T1 = 0 := by omega
            have hc1 : (RN : Int) = 0 := by omega
            have HFR0 := hide HFR.out
            rw [hc1] at HFR0
            clear hb hbig hz hT1 hc1 hR0 HFR
            rcases hzz2 with rfl | rfl
            all_goals
              go_wp2_with fail
              refine HCP.out.mono ?_
              rintro _ _ ⟨rfl, k17, hw17⟩
              rw [hw17]
              clear hw17
              go_wp2_with fail
              refine (HFR0.out _).mono ?_
              rintro _ w18 ⟨⟨v18, rfl, hv18⟩, hx18⟩
              have HX18 := hide ((HX16.out.drewN k17).trans hx18)
              have HS18 := hide (HSN.out v18 w18 (HN16.out.ext (((Ext.refl _).drewN k17).trans hx18)) hv18)
              have g18 := hx18.cell (show (w16.drewN k17).cell? ⟨w11.heap.size, 0, none⟩ = _ from g16)
              clear hv18 hx18
              go_wp2_with fail
              refine HS18.out.mono ?_
              rintro _ _ ⟨rfl, k19, hw19⟩
              rw [hw19]
              clear hw19
              go_wp2_with fail
              go_ret
              exact ⟨rfl, HX18.out.drewN k19⟩
          · have ht : T1 < 0 := by omega
            have hcvA : IntKind.u64.wrap T1 = T1 + 18446744073709551616 := by rw [wu64]; omega
            have hcvB : IntKind.u64.wrap (-(T1 + 18446744073709551616)) = (RN : Int) := by rw [wu64]; omega
            have hne0 : (T1 == 0) = false := by rw [beq_eq_false_iff_ne]; omega
            have hlt0 : decide (T1 < 0) = true := by simpa using ht
            have HFR0 := HFR
            clear hb hbig hz hT1 hR0 HFR
            rcases hzz2 with rfl | rfl
            all_goals
              go_wp2_with fail
              refine HCP.out.mono ?_
              rintro _ _ ⟨rfl, k17, hw17⟩
              rw [hw17]
              clear hw17
              go_wp2_with fail
              refine (HFR0.out _).mono ?_
              rintro _ w18 ⟨⟨v18, rfl, hv18⟩, hx18⟩
              have HX18 := hide ((HX16.out.drewN k17).trans hx18)
              have HS18 := hide (HSN.out v18 w18 (HN16.out.ext (((Ext.refl _).drewN k17).trans hx18)) hv18)
              have g18 := hx18.cell (show (w16.drewN k17).cell? ⟨w11.heap.size, 0, none⟩ = _ from g16)
              clear hv18 hx18
              go_wp2_with fail
              refine HS18.out.mono ?_
              rintro _ _ ⟨rfl, k19, hw19⟩
              rw [hw19]
              clear hw19
              go_wp2_with fail
              go_ret
              exact ⟨rfl, HX18.out.drewN k19⟩
        | false =>
          have hb : ¬ 9223372036854775807 < RN := hbig
          rw [cmpI_lt (show RN < 9223372036854775808 by omega)] at HCP
          simp only [Bool.false_eq_true, if_false] at hT1
          have hge0 : ¬ T1 < 0 := by omega
          have hcvA : IntKind.u64.wrap T1 = (RN : Int) := by rw [wu64]; omega
          have hlt0 : decide (T1 < 0) = false := by simpa using hge0
          have HFR0 := HFR
          cases hz0 : (T1 == 0) with
          | true =>
            clear hb hbig hT1 HFR
            go_wp2_with fail
            refine HCP.out.mono ?_
            rintro _ _ ⟨rfl, k17, hw17⟩
            rw [hw17]
            clear hw17
            go_wp2_with fail
            refine (HFR0.out _).mono ?_
            rintro _ w18 ⟨⟨v18, rfl, hv18⟩, hx18⟩
            have HX18 := hide ((HX16.out.drewN k17).trans hx18)
            have HS18 := hide (HSN.out v18 w18 (HN16.out.ext (((Ext.refl _).drewN k17).trans hx18)) hv18)
            have g18 := hx18.cell (show (w16.drewN k17).cell? ⟨w11.heap.size, 0, none⟩ = _ from g16)
            clear hv18 hx18
            go_wp2_with fail
            refine HS18.out.mono ?_
            rintro _ _ ⟨rfl, k19, hw19⟩
            rw [hw19]
            clear hw19
            go_wp2_with fail
            go_ret
            exact ⟨rfl, HX18.out.drewN k19⟩
          | false =>
            clear hb hbig hT1 HFR
            go_wp2_with fail
            refine HCP.out.mono ?_
            rintro _ _ ⟨rfl, k17, hw17⟩
            rw [hw17]
            clear hw17
            go_wp2_with fail
            refine (HFR0.out _).mono ?_
            rintro _ w18 ⟨⟨v18, rfl, hv18⟩, hx18⟩
            have HX18 := hide ((HX16.out.drewN k17).trans hx18)
            have HS18 := hide (HSN.out v18 w18 (HN16.out.ext (((Ext.refl _).drewN k17).trans hx18)) hv18)
            have g18 := hx18.cell (show (w16.drewN k17).cell? ⟨w11.heap.size, 0, none⟩ = _ from g16)
            clear hv18 hx18
            go_wp2_with fail
            refine HS18.out.mono ?_
            rintro _ _ ⟨rfl, k19, hw19⟩
            rw [hw19]
            clear hw19
            go_wp2_with fail
            go_ret
            exact ⟨rfl, HX18.out.drewN k19⟩
end Go.Proofs.Ygcoac
