/-
  law.ExactFlagsRest.
-/
import Derived.Test.YgcoacFlG
import Derived.Test.YgcoacExE
namespace Go.Proofs.Ygcoac
open Go.RowKit
set_option linter.unusedSimpArgs false
set_option linter.unusedVariables false
attribute [local go_sem] nil_eq nil_ne

theorem heard_self {e m a : Nat} (h : cls e m a ≠ 4) : heardF e m a a = 0 := by
  unfold heardF sigB; simp [h]

theorem NatAt.some0 {w : World} {p : Option Addr} {k c n : Nat} (h : NatAt w (.slice p k c) n) : p.isSome = decide (n ≠ 0) := by
  rcases h with ⟨h0, h1⟩ | ⟨l, b, off, cap, h1, h2, h3, h4, h5, h6, h7, h8⟩
  · injection h1 with h2 _ _
    rw [h2, h0]; rfl
  · injection h1 with h9 _ _
    rw [h9]
    exact (decide_eq_true (by omega)).symm
theorem ti_bad (e m : Nat) (mode : Int) (a : Nat) (h : (tiA e m mode a).2.1 = false) : (tiA e m mode a).2.2 = 1 := by
  unfold tiA tiR at *
  split
  · rfl
  · split
    · rfl
    · rename_i h1 h2
      rw [if_neg h1, if_neg h2] at h
      exact absurd h (by simp)
theorem ti_good (e m : Nat) (mode : Int) (a : Nat) (h : (tiA e m mode a).2.1 = true) : (tiA e m mode a).2.2 = if someQ (vNum e m a) (vDen e m a) then 16 else 0 := by
  unfold tiA tiR at *
  split
  · rename_i h1
    rw [if_pos h1] at h
    exact absurd h (by simp)
  · rename_i h1
    rw [if_neg h1] at h
    split
    · rename_i h2
      rw [if_pos h2] at h
      exact absurd h (by simp)
    · rfl

set_option maxRecDepth 100000 in
set_option maxHeartbeats 4000000 in
theorem exactFlagsRest_ok (e1 m1 : Nat) (h1 : Fm e1 m1) (e2 m2 : Nat) (h2 : Fm e2 m2) (mode : Int) (a : Nat) (ha : a < 18446744073709551616) (b : Nat) (hb : b < 18446744073709551616) (i : Int) (hi1 : -9223372036854775808 ≤ i) (hi2 : i ≤ 9223372036854775807) (u : Nat) (hu : u < 18446744073709551616) (w : World) :
    Calls Oacg.prog 9 #[.agg #[.int .u8 (e1 : Int), .int .u8 (m1 : Int)], .agg #[.int .u8 (e2 : Int), .int .u8 (m2 : Int)], .int .u8 mode, .int .u64 (a : Int), .int .u64 (b : Int), .int .i64 i, .int .u64 (u : Int)] w fun r w' => r = .returned (.bool true) ∧ Ext w w' := by
  have hok1 := okB_fm h1
  have hok2 := okB_fm h2
  have HCF := hide (convertFlags_any e1 m1 h1 e2 m2 h2 mode a ha)
  have HCO := hide (convert_any e1 m1 h1 e2 m2 h2 mode a ha)
  have HNF := hide (nanFlags_any e1 m1 h1 a a ha ha)
  have HIF := hide (isFinite_any e1 m1 h1 a ha)
  have HVA := hide (value_any e1 m1 h1 a ha)
  have HWF : Hid (∀ v wx, cls e1 m1 a < 3 → RatAt wx v (vNeg e1 m1 a) (vNum e1 m1 a) (vDen e1 m1 a) → Calls Oacg.prog 51 #[.agg #[.int .u8 (e2 : Int), .int .u8 (m2 : Int)], .int .u8 mode, v, .int .u64 (cvV e1 m1 e2 m2 mode a : Int)] wx fun r w' => r = .returned (.int .u8 (cvF e1 m1 e2 m2 mode a)) ∧ Ext wx w') := by
    intro v wx hc hv
    have := wantRnd_any e2 m2 h2 mode _ _ _ 100 (vNum_lt h1 a) (vDen_lt h1 a) (by decide) (by decide) (vDen_pos _ _ _) v wx hv
    unfold cvV cvF
    rw [if_neg (by omega), if_neg (by omega), if_neg (by omega), if_neg (by omega)]
    exact this
  have HNN : Hid (¬ cls e1 m1 a < 3 → heardF e1 m1 a a = cvF e1 m1 e2 m2 mode a) := by
    intro hc
    unfold cvF
    have := cls_cases e1 m1 a
    by_cases h4 : cls e1 m1 a = 4
    · rw [if_pos h4]
    · rw [if_neg h4, if_pos (by omega)]; exact heard_self h4
  have HCP := hide (cmpFlags_any e1 m1 h1 a b ha hb)
  have HCM := hide (exactCmp_any e1 m1 h1 a b ha hb)
  rw [show cmpX (cls e1 m1 a : Int) (cls e1 m1 b : Int) (ngB e1 m1 a) (ngB e1 m1 b) (vNeg e1 m1 a) (vNeg e1 m1 b) (vNum e1 m1 a) (vDen e1 m1 a) (vNum e1 m1 b) (vDen e1 m1 b) = cmpV e1 m1 a b from rfl] at HCM
  have HNB := hide (nanFlags_any e1 m1 h1 a b ha hb)
  have HFF := hide (fromInt64Flags_any e1 m1 h1 mode i hi1 hi2)
  have HFI := hide (fromInt64_any e1 m1 h1 mode i hi1 hi2)
  have HUF := hide (fromUint64Flags_any e1 m1 h1 mode u hu)
  have HFU := hide (fromUint64_any e1 m1 h1 mode u hu)
  obtain ⟨n1, hn1⟩ : ∃ n1, i.natAbs = n1 := ⟨_, rfl⟩
  rw [hn1] at HFF HFI
  have hn1b : n1 < 18446744073709551616 := by omega
  have HW1 := hide (fun v wx hv => wantRnd_any e1 m1 h1 mode (decide (i < 0)) n1 1 100 (lt_W_mono (lt_W2 hn1b) (by decide)) (one_lt_W 100 (by decide)) (by decide) (by decide) (by decide) v wx hv)
  have HW2 := hide (fun v wx hv => wantRnd_any e1 m1 h1 mode false u 1 100 (lt_W_mono (lt_W2 hu) (by decide)) (one_lt_W 100 (by decide)) (by decide) (by decide) (by decide) v wx hv)
  have HU1 : Hid (∀ wx, Calls Oacg.prog 24 #[.int .u64 (n1 : Int)] wx fun r w' => (∃ v, r = .returned v ∧ NatAt w' v n1) ∧ Ext wx w') := by
    intro wx; have := fromU64_any (n1 : Int) (by omega) (by omega) wx; rwa [Int.toNat_natCast] at this
  have HU2 : Hid (∀ wx, Calls Oacg.prog 24 #[.int .u64 (u : Int)] wx fun r w' => (∃ v, r = .returned v ∧ NatAt w' v u) ∧ Ext wx w') := by
    intro wx; have := fromU64_any (u : Int) (by omega) (by omega) wx; rwa [Int.toNat_natCast] at this
  have HTF := hide (toInt64Flags_any e1 m1 h1 mode a ha)
  have HTI := hide (toInt64_any e1 m1 h1 mode a ha)
  unfold tiV at HTF
  have HT0 := Box.mk (ti_bad e1 m1 mode a)
  have HT1 := Box.mk (ti_good e1 m1 mode a)
  have HVN := Box.mk (vNum_lt h1 a)
  have HVD := Box.mk (vDen_lt h1 a)
  have HVP := Box.mk (vDen_pos e1 m1 a)
  have hneg1 : Box (i < 0 → IntKind.u64.wrap (-(IntKind.u64.wrap i)) = (n1 : Int)) := ⟨fun hh => by rw [wu64, wu64]; omega⟩
  have hpos1 : Box (¬ i < 0 → IntKind.u64.wrap i = (n1 : Int)) := ⟨fun hh => by rw [wu64]; omega⟩
  clear ha hb hu hn1 hn1b h1 h2
  generalize (tiA e1 m1 mode a).1 = T1 at *
  generalize (tiA e1 m1 mode a).2.1 = T2 at *
  generalize (tiA e1 m1 mode a).2.2 = T3 at *
  generalize heardF e1 m1 a b = hab at *
  generalize cmpV e1 m1 a b = cab at *
  generalize cvF e1 m1 e2 m2 mode a = xF at *
  generalize (cvV e1 m1 e2 m2 mode a : Int) = xV at *
  generalize (rndV e1 m1 mode (decide (i < 0)) n1 1 : Int) = rv1 at *
  generalize rndF e1 m1 mode (decide (i < 0)) n1 1 = rf1 at *
  generalize (rndV e1 m1 mode false u 1 : Int) = rv2 at *
  generalize rndF e1 m1 mode false u 1 = rf2 at *
  generalize vNum e1 m1 a = vN at *
  generalize vDen e1 m1 a = vD at *
  generalize vNeg e1 m1 a = vn at *
  go_enter Oacg.func9, Oacg.ntmps9
  go_wp2_with (first | (go_at_call 14; refine (ok_any _ _ _).mono ?_; rintro r w' ⟨rfl, rfl⟩))
  refine (HCF.out _).mono ?_
  rintro _ w1 ⟨rfl, hx1⟩
  have HC1 : Hid (Cells22 w1 w.heap.size e1 m1 e2 m2) := by
    refine Cells22.ext ?_ hx1
    refine ⟨?_, ?_, ?_, ?_⟩ <;> simp [go_sem]
  have HX1 : Hid (Ext w w1) := Ext.trans (by repeat (first | apply Ext.alloc | exact Ext.refl _)) hx1
  clear hx1 HCF
  obtain ⟨a0, a1, b0, b1⟩ := HC1.out
  go_wp2_with fail
  refine (HNF.out _).mono ?_
  rintro _ w2 ⟨rfl, hx2⟩
  have HC2 := hide (HC1.out.ext hx2)
  have HX2 := hide (HX1.out.trans hx2)
  clear hx2 HNF HC1 HX1 a0 a1 b0 b1
  obtain ⟨a0, a1, b0, b1⟩ := HC2.out
  go_wp2_with fail
  refine (HIF.out _).mono ?_
  rintro _ w3 ⟨rfl, hx3⟩
  have HC3 := hide (HC2.out.ext hx3)
  have HX3 := hide (HX2.out.trans hx3)
  clear hx3 HIF HC2 HX2 a0 a1 b0 b1
  obtain ⟨a0, a1, b0, b1⟩ := HC3.out
  go_upto_if 55 with fail
  go_cut [17] (fun v wx => v = .int .u8 xF ∧ Hid (Ext w3 wx))
  case first =>
    by_cases hc : cls e1 m1 a < 3
    · rw [decide_eq_true hc]
      have HC := Box.mk hc
      clear hc
      go_wp2_with fail
      refine (HVA.out _).mono ?_
      rintro _ w4 ⟨⟨_, rfl, p1, k1, c1, p2, k2, c2, rfl, hnN, hnD⟩, hx4⟩
      obtain ⟨W4, hW4⟩ : ∃ W4, W4 = w4.alloc (.cells #[.bool vn, .slice p1 k1 c1, .slice p2 k2 c2] 37) := ⟨_, rfl⟩
      have hxa : Ext w4 W4 := by rw [hW4]; exact (Ext.refl w4).alloc _ _
      have HWW := hide (HWF.out _ W4 HC.out ⟨p1, k1, c1, p2, k2, c2, rfl, hnN.ext hxa, hnD.ext hxa⟩)
      have HX4 := hide (hx4.trans hxa)
      obtain ⟨e0, e1', f0, f1⟩ := HC3.out.ext hx4
      have hz0 : w.heap.size + 1 < w4.heap.size := World.block_lt_of_cell? _ _ f0
      have hz1 : w.heap.size < w4.heap.size := by omega
      clear hx4 hxa hnN hnD a0 a1 b0 b1
      go_wp2_with fail
      rw [← hW4]
      refine HWW.out.mono ?_
      rintro _ w5 ⟨rfl, hx5⟩
      have HX5 := hide (HX4.out.trans hx5)
      clear hx5 hW4 HX4
      go_wp2_with fail
      go_meet
      exact ⟨rfl, HX5.out⟩
    · rw [decide_eq_false hc]
      have hq := HNN.out hc
      rw [hq]
      clear hq hc
      go_wp2_with fail
      go_meet
      exact ⟨rfl, Ext.refl w3⟩
  case rest =>
    obtain ⟨rfl, HXc⟩ := hcut
    have HC4 := hide (HC3.out.ext HXc.out)
    have HX4 := hide (HX3.out.trans HXc.out)
    clear HC3 HX3 HXc a0 a1 b0 b1 HNN HWF
    obtain ⟨a0, a1, b0, b1⟩ := HC4.out
    go_wp2_with fail
    refine (HCO.out _).mono ?_
    rintro _ w5 ⟨rfl, hx5⟩
    have HC5 := hide (HC4.out.ext hx5)
    have HX5 := hide (HX4.out.trans hx5)
    clear hx5 HC4 HX4 a0 a1 b0 b1 HCO
    obtain ⟨a0, a1, b0, b1⟩ := HC5.out
    go_wp2_with fail
    refine (HCP.out _).mono ?_
    rintro _ w6 ⟨rfl, hx6⟩
    have HC6 := hide (HC5.out.ext hx6)
    have HX6 := hide (HX5.out.trans hx6)
    clear hx6 HC5 HX5 a0 a1 b0 b1 HCP
    obtain ⟨a0, a1, b0, b1⟩ := HC6.out
    go_wp2_with fail
    refine (HCM.out _).mono ?_
    rintro _ w7 ⟨rfl, hx7⟩
    have HC7 := hide (HC6.out.ext hx7)
    have HX7 := hide (HX6.out.trans hx7)
    clear hx7 HC6 HX6 a0 a1 b0 b1 HCM
    obtain ⟨a0, a1, b0, b1⟩ := HC7.out
    go_wp2_with fail
    refine (HNB.out _).mono ?_
    rintro _ w8 ⟨rfl, hx8⟩
    have HC8 := hide (HC7.out.ext hx8)
    have HX8 := hide (HX7.out.trans hx8)
    clear hx8 HC7 HX7 a0 a1 b0 b1 HNB
    obtain ⟨a0, a1, b0, b1⟩ := HC8.out
    go_upto_if 103 with fail
    go_cut [21] (fun v wx => v = .int .u64 (n1 : Int) ∧ wx = w8)
    case first =>
      by_cases hi : i < 0
      · have hq := hneg1.out hi
        go_wp2_with fail
        go_meet
        exact ⟨by first | rfl | (rw [hq]), rfl⟩
      · have hq := hpos1.out (by omega)
        rw [hq]
        go_wp2_with fail
        go_meet
        exact ⟨rfl, rfl⟩
    case rest =>
      obtain ⟨rfl, rfl⟩ := hcut
      clear hneg1 hpos1 hi1 hi2
      go_wp2_with fail
      refine (HFF.out _).mono ?_
      rintro _ w9 ⟨rfl, hx9⟩
      have HC9 := hide (HC8.out.ext hx9)
      have HX9 := hide (HX8.out.trans hx9)
      clear hx9 HC8 HX8 a0 a1 b0 b1 HFF
      obtain ⟨a0, a1, b0, b1⟩ := HC9.out
      go_wp2_with fail
      refine (HUF.out _).mono ?_
      rintro _ w10 ⟨rfl, hx10⟩
      have HC10 := hide (HC9.out.ext hx10)
      have HX10 := hide (HX9.out.trans hx10)
      have HCC : Hid (Cells2 w10 w.heap.size e1 m1) := ⟨HC10.out.1, HC10.out.2.1⟩
      clear hx10 HC9 HX9 a0 a1 b0 b1 HUF
      have tok1 : True := trivial
      have tok2 : True := trivial
      have tok3 : True := trivial
      go_wp2_with fail
      go_cut [157] (fun v wx => v = .bool false ∧ Hid (Ext w10 wx))
      case first =>
        go_region_held3 (fun w' => Cells2 w' w.heap.size e1 m1)
          (first | exact HCC.out | exact HCC.out.ext (by (repeat apply Ext.drew); first | exact Ext.refl _ | assumption))
          (first
            | (go_at_call 22; refine (HFI.out _).mono ?_; rintro r w1 ⟨rfl, hx1⟩; have hE1 : Ext w10 w1 := Ext.trans (by (repeat apply Ext.drew); first | exact Ext.refl _ | assumption) hx1; clear hx1)
            | (go_at_call 25; refine (HFU.out _).mono ?_; rintro r w5 ⟨rfl, hx5⟩; have hE5 : Ext w10 w5 := Ext.trans (by (repeat apply Ext.drew); first | exact Ext.refl _ | assumption) hx5; clear hx5)
            | (go_at_call 24; have _t := tok1; refine (HU1.out _).mono ?_; rintro r w2 ⟨⟨v2, rfl, hv2⟩, hx2⟩; clear tok1; obtain ⟨p1, k1, c1, rfl⟩ := hv2.shape; have HV2 := hide hv2; have hE2 : Ext w10 w2 := Ext.trans (by (repeat apply Ext.drew); first | exact Ext.refl _ | assumption) hx2; clear hx2 hv2)
            | (go_at_call 24; refine (HU2.out _).mono ?_; rintro r w6 ⟨⟨v6, rfl, hv6⟩, hx6⟩; obtain ⟨p5, k5, c5, rfl⟩ := hv6.shape; have HV6 := hide hv6; have hE6 : Ext w10 w6 := Ext.trans (by (repeat apply Ext.drew); first | exact Ext.refl _ | assumption) hx6; clear hx6 hv6)
            | (go_at_call 23; have _t := tok2; refine (wholeFrac_any (decide (i < 0)) n1 _ _ (by first | exact HV2.out | exact HV2.out.ext ((Ext.refl _).drew))).mono ?_; rintro r w3 ⟨⟨v3, rfl, hv3⟩, hx3⟩; clear tok2; have HV3 := hide hv3; have hE3 : Ext w10 w3 := Ext.trans (by (repeat apply Ext.drew); first | exact Ext.refl _ | assumption) hx3; clear hx3 hv3)
            | (go_at_call 23; refine (wholeFrac_any false u _ _ (by first | exact HV6.out | exact HV6.out.ext ((Ext.refl _).drew))).mono ?_; rintro r w7 ⟨⟨v7, rfl, hv7⟩, hx7⟩; have HV7 := hide hv7; have hE7 : Ext w10 w7 := Ext.trans (by (repeat apply Ext.drew); first | exact Ext.refl _ | assumption) hx7; clear hx7 hv7)
            | (go_at_call 51; have _t := tok3; refine (HW1.out _ _ (by first | exact HV3.out | exact HV3.out.ext ((Ext.refl _).drew))).mono ?_; rintro r w4 ⟨rfl, hx4⟩; clear tok3; have hE4 : Ext w10 w4 := Ext.trans (by (repeat apply Ext.drew); first | exact Ext.refl _ | assumption) hx4; clear hx4)
            | (go_at_call 51; refine (HW2.out _ _ (by first | exact HV7.out | exact HV7.out.ext ((Ext.refl _).drew))).mono ?_; rintro r w8 ⟨rfl, hx8⟩; have hE8 : Ext w10 w8 := Ext.trans (by (repeat apply Ext.drew); first | exact Ext.refl _ | assumption) hx8; clear hx8))
        all_goals go_wp2_with fail
        all_goals go_meet
        all_goals exact ⟨rfl, show Ext _ _ by (repeat apply Ext.drew); assumption⟩
      case rest =>
        obtain ⟨rfl, HXc⟩ := hcut
        have HC11 := hide (HC10.out.ext HXc.out)
        have HX11 := hide (HX10.out.trans HXc.out)
        clear HC10 HX10 HXc HCC HU1 HU2 HW1 HW2 HFI HFU
        obtain ⟨a0, a1, b0, b1⟩ := HC11.out
        go_wp2_with fail
        refine (HTF.out _).mono ?_
        rintro _ w12 ⟨rfl, hx12⟩
        have HC12 := hide (HC11.out.ext hx12)
        have HX12 := hide (HX11.out.trans hx12)
        clear hx12 HC11 HX11 a0 a1 b0 b1 HTF
        obtain ⟨a0, a1, b0, b1⟩ := HC12.out
        go_wp2_with fail
        refine (HTI.out _).mono ?_
        rintro _ w13 ⟨rfl, hx13⟩
        have HC13 := hide (HC12.out.ext hx13)
        have HX13 := hide (HX12.out.trans hx13)
        clear hx13 HC12 HX12 a0 a1 b0 b1 HTI
        obtain ⟨a0, a1, b0, b1⟩ := HC13.out
        cases T2 with
        | false =>
          have hT := HT0.out rfl
          subst hT
          go_wp2_with fail
          go_ret
          exact ⟨by simp, HX13.out⟩
        | true =>
          have hT := HT1.out rfl
          have HT := Box.mk hT
          clear hT HT0 HT1
          go_wp2_with fail
          refine (HVA.out _).mono ?_
          rintro _ w14 ⟨⟨_, rfl, p1, k1, c1, p2, k2, c2, rfl, hnN, hnD⟩, hx14⟩
          obtain ⟨W1, hW1⟩ : ∃ W1, W1 = w14.alloc (.cells #[.bool vn, .slice p1 k1 c1, .slice p2 k2 c2] 37) := ⟨_, rfl⟩
          have hxa : Ext w14 W1 := by rw [hW1]; exact (Ext.refl w14).alloc _ _
          have HX14 := hide (HX13.out.trans (hx14.trans hxa))
          have HDM := hide (divMod_any vN vD 100 HVN.out (by decide) HVP.out _ _ W1 (hnN.ext hxa) (hnD.ext hxa))
          clear hx14 hxa hnN hnD HX13 HC13 HVA a0 a1 b0 b1
          go_wp2_with fail
          rw [← hW1]
          clear hW1
          refine HDM.out.mono ?_
          rintro _ w15 ⟨⟨_, rfl, vq, vr, rfl, hvq, hvr⟩, hx15⟩
          have HX15 := hide (HX14.out.trans hx15)
          obtain ⟨pr, kr, cr, rfl⟩ := hvr.shape
          obtain ⟨sm, hsm⟩ : ∃ sm, someQ vN vD = sm := ⟨_, rfl⟩
          have hps : pr.isSome = sm := by rw [hvr.some0, ← hsm]; rfl
          have hT := HT.out
          rw [hsm] at hT
          obtain ⟨pq, kq, cq, rfl⟩ := hvq.shape
          clear hvq hvr hx15 hsm HDM HX14 HT
          cases sm with
          | true =>
            rw [if_pos rfl] at hT
            subst hT
            go_wp2_with fail
            go_ret
            exact ⟨by simp, HX15.out⟩
          | false =>
            rw [if_neg (by decide)] at hT
            subst hT
            go_wp2_with fail
            go_ret
            exact ⟨by simp, HX15.out⟩
set_option maxRecDepth 100000 in
theorem exactFlagsRestLaw_any (E M : Int) (wE : (Lit.int .u8 E).wf = true) (wM : (Lit.int .u8 M).wf = true) (E' M' : Int) (wE' : (Lit.int .u8 E').wf = true) (wM' : (Lit.int .u8 M').wf = true) (mode : Int) (wm : (Lit.int .u8 mode).wf = true) (a : Int) (wa : (Lit.int .u64 a).wf = true) (b : Int) (wb : (Lit.int .u64 b).wf = true) (i : Int) (wi : (Lit.int .i64 i).wf = true) (u : Int) (wu : (Lit.int .u64 u).wf = true) (w : World) :
    Calls Oacg.prog 9 #[.agg #[.int .u8 E, .int .u8 M], .agg #[.int .u8 E', .int .u8 M'], .int .u8 mode, .int .u64 a, .int .u64 b, .int .i64 i, .int .u64 u] w fun r w' => r = .returned (.bool true) ∧ Ext w w' := by
  cases hok : okB E M
  · clear wE wM wE' wM' wm wa wb wi wu
    go_enter Oacg.func9, Oacg.ntmps9
    go_wp2_with (first | (go_at_call 14; refine (ok_any _ _ _).mono ?_; rintro r w' ⟨rfl, rfl⟩))
    go_ret
    exact ⟨rfl, by repeat (first | apply Ext.alloc | exact Ext.refl _)⟩
  · cases hok' : okB E' M'
    · clear wE wM wE' wM' wm wa wb wi wu
      go_enter Oacg.func9, Oacg.ntmps9
      go_wp2_with (first | (go_at_call 14; refine (ok_any _ _ _).mono ?_; rintro r w' ⟨rfl, rfl⟩))
      go_ret
      exact ⟨rfl, by repeat (first | apply Ext.alloc | exact Ext.refl _)⟩
    · obtain ⟨e, m, rfl, rfl, h⟩ := fm_of hok
      obtain ⟨e', m', rfl, rfl, h'⟩ := fm_of hok'
      obtain ⟨hx0, hx1⟩ := u64_bd wa
      obtain ⟨a, rfl⟩ := Int.eq_ofNat_of_zero_le hx0
      obtain ⟨hy0, hy1⟩ := u64_bd wb
      obtain ⟨b, rfl⟩ := Int.eq_ofNat_of_zero_le hy0
      obtain ⟨hz0, hz1⟩ := u64_bd wu
      obtain ⟨u, rfl⟩ := Int.eq_ofNat_of_zero_le hz0
      have hi' : -9223372036854775808 ≤ i ∧ i ≤ 9223372036854775807 := by
        simp [Lit.wf, IntKind.min, IntKind.max, IntKind.signed, IntKind.bits] at wi; omega
      exact exactFlagsRest_ok e m h e' m' h' mode a (by omega) b (by omega) i hi'.1 hi'.2 u (by omega) w
end Go.Proofs.Ygcoac
