/-
  nat.Sqrt.
-/
import Derived.Test.YgcoacGreatSqA
import Derived.Test.YgcoacGreatDecP
import Derived.Deep.LoopGhost
namespace Go.Proofs.YgcoacGreat
open Go.RowKit
set_option linter.unusedSimpArgs false
set_option linter.unusedVariables false
attribute [local go_sem] nil_eq nil_ne

theorem shr1_any (A ka : Nat) (hA : A < W ka) (hka : ka ≤ 1073741824) (v : Value) (w : World) (h : NatAt w v A) :
    Calls Oacg.prog 98 #[v, .int .u16 1] w fun e w' => (∃ v, e = .returned v ∧ ShrR (A / 2) v w') ∧ Ext w w' := by
  obtain ⟨p, cap, l, rfl, hc, hm, hl, hn, hv, h1⟩ := h.open
  subst hv
  have hp : l = [] ∨ ∃ b off, p = some ⟨b, off, none⟩ ∧ cellsAt w b off l := by
    rcases h1 with ⟨h, _⟩ | ⟨_, _, h⟩
    · exact .inl h
    · exact .inr h
  have := shr_raw p cap l 1 (by decide) (Nat.le_trans (length_le hn hA) hka) w hc hm hl hp
  rw [Nat.pow_one] at this
  exact this
theorem fin_some {w : World} {v : Value} {n : Nat} (h : NatAt w v n) (h0 : 0 < n) : ∃ p k c, v = .slice (some p) k c := by
  rcases h with ⟨h', _⟩ | ⟨l, b, off, cap, rfl, _⟩
  · omega
  · exact ⟨_, _, _, rfl⟩

set_option maxRecDepth 20000 in
set_option maxHeartbeats 2000000 in
theorem natSqrt_any (A ka : Nat) (hA : A < W ka) (hka : ka ≤ 1000000) (v : Value) (w : World) (h : NatAt w v A) :
    Calls Oacg.prog 75 #[v] w fun e w' => (∃ u b, e = .returned (.tuple #[u, .bool b]) ∧ NatAt w' u (isq A)) ∧ Ext w w' := by
  have HA := hide h
  rcases Nat.eq_zero_or_pos A with h0 | h0
  · subst h0
    rcases h with ⟨_, rfl⟩ | ⟨l, b, off, cap, _, _, _, _, _, _, h', _⟩
    · clear hA
      go_enter Oacg.func75, Oacg.ntmps75
      go_wp2_with fail
      refine (trim_nat _ _ _ HA.out).mono ?_
      rintro e w1 ⟨rfl, hw1⟩
      rw [hw1]
      clear hw1 w1
      go_wp2_with fail
      simp [bodyPost, results, Oacg.results75, go_sem]
      exact ⟨natAt_nil _, Ext.refl _⟩
    · omega
  · obtain ⟨p, kk, cc, rfl⟩ := fin_some h h0
    have hb := bits_W hA
    have hbb : (bits A : Int) ≤ 32000000 := by omega
    obtain ⟨j, hj⟩ : ∃ j, (bits A + 1) / 2 = j := ⟨_, rfl⟩
    have hji : ((bits A : Int) + 1) / 2 = (j : Int) := by omega
    have hjt : Int.tdiv ((bits A : Int) + 1) 2 = (j : Int) := by rw [Int.tdiv_eq_ediv_of_nonneg (by omega)]; exact hji
    have htop := isq_top A
    rw [hj] at htop
    have HBL := hide (fun wx (hx : Ext w wx) => bitLen_any A _ wx (HA.out.ext hx))
    have HLI := hide (fun v wx (hv : NatAt wx v 1) => lift_any 1 1 (one_lt_W 1 (by decide)) (by decide) j (by omega) v wx hv)
    rw [Nat.one_mul] at HLI
    have HJL : Box (2 ^ j < W (ka + 1)) := ⟨two_ltW (by omega)⟩
    have HTOP := Box.mk htop
    have HPOS := Box.mk (isq_pos h0)
    have HAL := Box.mk hA
    have hjb : (j : Int) ≤ 32000000 := by omega
    have hb0 : (0 : Int) ≤ (bits A : Int) := by omega
    generalize (bits A : Int) = bA at *
    clear h hA hb hj h0 htop
    go_enter Oacg.func75, Oacg.ntmps75
    go_wp2_with fail
    refine (trim_nat _ _ _ HA.out).mono ?_
    rintro e w1 ⟨rfl, hw1⟩
    rw [hw1]
    clear hw1 w1
    go_wp2_with fail
    refine (HBL.out _ ((Ext.refl w).alloc _ _)).mono ?_
    rintro _ w1 ⟨rfl, hw1⟩
    rw [hw1]
    clear hw1 w1 HBL
    go_wp2_with fail
    refine (HLI.out _ _ (natAt_lit w 1 (by decide) (by decide) _)).mono ?_
    rintro _ w1 ⟨⟨v1, rfl, hv1⟩, hx1⟩
    have HX1 : Hid (Ext w w1) := ((Ext.refl w).alloc _ _).trans hx1
    have HV1 := hide hv1
    clear hv1 hx1 HLI hji hjt hbb hb0
    go_wp2_with fail
    go_loopg [2] (2 ^ j) (fun g vs wr => g < W (ka + 1) ∧ Hid (NatAt wr vs g) ∧ isq A ≤ g ∧ Hid (Ext w wr))
    case atStart => exact ⟨HJL.out, HV1, HTOP.out, HX1⟩
    case round =>
      obtain ⟨hgl, HV, hge, HX⟩ := hrel
      have hgp : 0 < gk := Nat.lt_of_lt_of_le HPOS.out hge
      have HGL := Box.mk hgl
      have HGE := Box.mk hge
      have HGP := Box.mk hgp
      have hql : A / gk < W ka := Nat.lt_of_le_of_lt (Nat.div_le_self _ _) HAL.out
      have hsl : gk + A / gk < W (ka + 1 + 1) := add_lt_W hgl (lt_W_mono hql (by omega))
      have HDM := hide (divMod_any A gk ka HAL.out (by omega) hgp _ u2 wr (HA.out.ext HX.out) HV.out)
      have HAD := hide (fun vq wx (h1 : NatAt wx u2 gk) (h2 : NatAt wx vq (A / gk)) => add_any gk (A / gk) (ka + 1) ka hgl hql (by omega) (by omega) u2 vq wx h1 h2)
      have HSH := hide (fun vs wx (h1 : NatAt wx vs (gk + A / gk)) => shr1_any (gk + A / gk) (ka + 1 + 1) hsl (by omega) vs wx h1)
      have NG := Box.mk (newton_ge (a := A) hgp)
      have NS := Box.mk (newton_stop (a := A) hgp)
      clear hgl hge hgp hql hsl
      generalize A / gk = dq at *
      go_wp2_with fail
      refine HDM.out.mono ?_
      rintro _ w2 ⟨⟨_, rfl, vq, vr, rfl, hvq, hvr⟩, hx2⟩
      have HVQ := hide hvq
      have HV2 := hide (HV.out.ext hx2)
      have HX2 := hide (HX.out.trans hx2)
      clear hvq hvr hx2 HV HX HDM
      go_wp2_with fail
      refine (HAD.out _ _ HV2.out HVQ.out).mono ?_
      rintro _ w3 ⟨⟨v3, rfl, hv3⟩, hx3⟩
      have HS3 := hide hv3
      have HV3 := hide (HV2.out.ext hx3)
      have HX3 := hide (HX2.out.trans hx3)
      clear hv3 hx3 HV2 HX2 HAD HVQ
      go_wp2_with fail
      refine (HSH.out _ _ HS3.out).mono ?_
      rintro _ w4 ⟨⟨_, rfl, v4, b4, rfl, hv4⟩, hx4⟩
      have HS4 := hide hv4
      have HV4 := hide (HV3.out.ext hx4)
      have HX4 := hide (HX3.out.trans hx4)
      clear hv4 hx4 HV3 HX3 HSH HS3
      generalize (gk + dq) / 2 = nx at *
      have HCM := hide (cmp_any nx gk v4 u2 w4 HS4.out HV4.out)
      go_wp2_with fail
      refine HCM.out.mono ?_
      rintro _ w5 ⟨rfl, nn, hw5⟩
      have hx5 : Ext w4 w5 := by rw [hw5]; exact (Ext.refl w4).drewN nn
      have HS5 := hide (HS4.out.ext hx5)
      have HV5 := hide (HV4.out.ext hx5)
      have HX5 := hide (HX4.out.trans hx5)
      clear hx5 hw5 HS4 HV4 HX4 HCM
      by_cases hlt : nx < gk
      · have hc : cmpI nx gk = -1 := cmpI_lt hlt
        rw [hc]
        have HLT := Box.mk hlt
        clear hc hlt
        go_wp2_with fail
        go_roundg nx
        case measure => exact HLT.out
        case rel => exact ⟨Nat.lt_trans HLT.out HGL.out, HS5, NG.out, HX5⟩
      · have hge2 : gk ≤ nx := by omega
        have hc : decide (0 ≤ cmpI nx gk) = true := by
          unfold cmpI
          rw [if_neg hlt]
          split <;> rfl
        have hsq := NS.out hge2
        have heq : isq A = gk := by
          have h1 := isq_le hsq
          have h2 := HGE.out
          omega
        have HEQ := Box.mk heq
        have HMU := hide (mul_any gk gk (ka + 1) (ka + 1) HGL.out HGL.out (by omega) (by omega) u2 u2 w5 HV5.out HV5.out)
        generalize cmpI nx gk = cm at *
        clear hlt hge2 hsq heq
        go_wp2_with fail
        refine HMU.out.mono ?_
        rintro _ w6 ⟨⟨v6, rfl, hv6⟩, hx6⟩
        have HX6 := hide (HX5.out.trans hx6)
        have HV6 := hide (HV5.out.ext hx6)
        have HCM := hide (cmp_any (gk * gk) A v6 _ w6 hv6 (HA.out.ext HX6.out))
        clear hv6 hx6 HX5 HV5 HMU
        generalize cmpI (gk * gk) A = cm2 at *
        go_wp2_with fail
        refine HCM.out.mono ?_
        rintro _ w7 ⟨rfl, n7, hw7⟩
        have HX7 : Hid (Ext w w7) := HX6.out.trans (by rw [hw7]; exact (Ext.refl w6).drewN n7)
        have HV7 : Hid (NatAt w7 u2 (isq A)) := by rw [HEQ.out]; exact HV6.out.ext (by rw [hw7]; exact (Ext.refl w6).drewN n7)
        clear hw7 HX6 HV6 HCM
        go_wp2_with fail
        simp [bodyPost, results, Oacg.results75, go_sem]
        refine ⟨⟨u2, ?_, HV7.out⟩, HX7.out⟩
        rcases Classical.em (cm2 = 0) with hq | hq
        · exact .inr ⟨rfl, hq⟩
        · exact .inl ⟨rfl, hq⟩
end Go.Proofs.YgcoacGreat
