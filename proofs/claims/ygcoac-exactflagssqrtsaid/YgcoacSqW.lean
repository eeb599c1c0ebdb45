/-
  law.ExactFlagsSqrt.
-/
import Derived.Test.YgcoacSqL
import Derived.Deep.QuietTactic
import Derived.BigQuiet
namespace Go.Proofs.Ygcoac
open Go.RowKit
set_option linter.unusedSimpArgs false
set_option linter.unusedVariables false

/-- The law's world: the format's box, the operand's value in a box. -/
structure SV (w wr : World) (B e m : Nat) (s1 s2 : Value) (N D : Nat) : Prop where
  ext : Ext w wr
  a0 : wr.cell? ⟨w.heap.size, 0, none⟩ = some (.int .u8 (e : Int))
  a1 : wr.cell? ⟨w.heap.size, 1, none⟩ = some (.int .u8 (m : Int))
  b0 : wr.cell? ⟨B, 0, none⟩ = some (.bool false)
  b1 : wr.cell? ⟨B, 1, none⟩ = some s1
  b2 : wr.cell? ⟨B, 2, none⟩ = some s2
  nn : NatAt wr s1 N
  nd : NatAt wr s2 D
theorem SV.next {w wr w' : World} {B e m : Nat} {s1 s2 : Value} {N D : Nat} (h : SV w wr B e m s1 s2 N D) (x : Ext wr w') : SV w w' B e m s1 s2 N D :=
  ⟨h.ext.trans x, x.cell h.a0, x.cell h.a1, x.cell h.b0, x.cell h.b1, x.cell h.b2, h.nn.ext x, h.nd.ext x⟩

set_option maxRecDepth 100000 in
set_option maxHeartbeats 4000000 in
theorem exactFlagsSqrt_ok (e m : Nat) (h : Fm e m) (mode : Int) (a : Nat) (ha : a < 18446744073709551616) (w : World) :
    Calls Oacg.prog 8 #[.agg #[.int .u8 (e : Int), .int .u8 (m : Int)], .int .u8 mode, .int .u64 (a : Int)] w fun r w' => r = .returned (.bool true) ∧ Ext w w' := by
  have hok := okB_fm h
  have hb := bias_bd h
  have hL1 : -1022 ≤ leastQ e := by unfold leastQ; omega
  have hL2 : leastQ e ≤ 0 := by unfold leastQ; omega
  have HSF := hide (sqrtFlags_any e m h mode a ha)
  have HSQ := hide (fsqrt_any e m h mode a ha)
  have HKC := hide (classOf_any e m h a ha)
  have HNF := hide (nanFlags_any e m h a a ha ha)
  have HNO := hide (nanOf_any e m h)
  have HVA := hide (value_any e m h a ha)
  have HVR := hide (value_any e m h (sqP e m mode a).1 (sqP_lt h mode a))
  have HBI := hide (biasOf_any e m h)
  obtain ⟨l1, l2, l3, l4⟩ := sq_rest h mode a
  have LW : Box (cls e m a ≠ 4 → (sqP e m mode a).1 ≠ nanV e m → ¬ (cls e m a = 3 ∨ cls e m a = 0) → vNeg e m a = false ∧ (sqP e m mode a).2 = lawS e m mode (vNum e m a) (vDen e m a) (vNum e m (sqP e m mode a).1) (vDen e m (sqP e m mode a).1) (sqP e m mode (fourS e m (vNum e m a) (vDen e m a))).1 ∧
      (csQ (vNum e m a) (vDen e m a) (p2N (2 * leastQ e)) (p2D (2 * leastQ e)) < 0 → vNeg e m (sqP e m mode (fourS e m (vNum e m a) (vDen e m a))).1 = false)) := by
    refine ⟨fun h4 hv hi => ?_⟩
    have hcc := cls_cases e m a
    have hc : cls e m a = 1 ∨ cls e m a = 2 := by omega
    have hg := l4 h4 hv hi
    refine ⟨by rw [vNeg_fin (by omega)]; exact hg, sq_law h mode hc hg, fun hq => ?_⟩
    obtain ⟨h1, h2, _⟩ := four_fits h hc (vNum_pos h a hc) (cs_lt.1 hq)
    have := sq_fin h mode (a := fourS e m (vNum e m a) (vDen e m a)) h1 h2
    rw [this]
    show vNeg e m (sqV e m mode _ _) = false
    have h3 := (sqV_ne h mode h1).2.1
    unfold vNeg
    split
    · rfl
    · exact h3
  unfold lawS tinyLS at LW
  have L1 := Box.mk l1
  have L2 := Box.mk l2
  have L3 := Box.mk l3
  have CC := Box.mk (cls_cases e m a)
  have q1 := vNum_lt h a
  have q2 := vDen_lt h a
  have q3 := vNum_lt h (sqP e m mode a).1
  have q4 := vDen_lt h (sqP e m mode a).1
  have HF4 : Box (fourS e m (vNum e m a) (vDen e m a) < 18446744073709551616) := ⟨rndV_lt h _ _ _ _ (vDen_pos e m a)⟩
  have HRD := hide (fun v wx (hv : RatAt wx v false (vNum e m a * 4) (vDen e m a)) => round_any e m h 0 false (vNum e m a * 4) (vDen e m a) 200 200 (lt_W_mono (mul_lt_W q1 (show 4 < W 1 by decide)) (by decide)) (lt_W_mono q2 (by decide)) (by decide) (by decide) (vDen_pos e m a) v wx hv)
  rw [show rndV e m 0 false (vNum e m a * 4) (vDen e m a) = fourS e m (vNum e m a) (vDen e m a) from rfl] at HRD
  have HS4 := hide (fsqrt_any e m h mode (fourS e m (vNum e m a) (vDen e m a)) HF4.out)
  have HV4 := hide (value_any e m h (sqP e m mode (fourS e m (vNum e m a) (vDen e m a))).1 (sqP_lt h mode _))
  have q5 := vNum_lt h (sqP e m mode (fourS e m (vNum e m a) (vDen e m a))).1
  have q6 := vDen_lt h (sqP e m mode (fourS e m (vNum e m a) (vDen e m a))).1
  generalize (sqP e m mode (fourS e m (vNum e m a) (vDen e m a))).1 = W4 at *
  generalize fourS e m (vNum e m a) (vDen e m a) = F4 at *
  generalize (sqP e m mode a).1 = pv at *
  generalize (sqP e m mode a).2 = pf at *
  generalize cls e m a = cl at *
  generalize heardF e m a a = hF at *
  generalize nanV e m = nV at *
  generalize vNum e m a = N at *
  generalize vDen e m a = D at *
  generalize vNeg e m a = vn at *
  generalize vNum e m pv = rn at *
  generalize vDen e m pv = rd at *
  generalize vNeg e m pv = nr at *
  generalize vNum e m W4 = wn at *
  generalize vDen e m W4 = wd at *
  generalize vNeg e m W4 = wg at *
  have HMU := hide (fun va vb wx hva hvb => mulFrac_any nr nr rn rd rn rd 100 q3 q4 q3 q4 (by decide) va vb wx hva hvb)
  rw [show (!(nr == nr)) = false by cases nr <;> rfl] at HMU
  have HC1 := hide (fun va vb wx hva hvb => cmpFrac_any false false (rn * rn) (rd * rd) N D 300 (lt_W_mono (mul_lt_W q3 q3) (by decide)) (lt_W_mono (mul_lt_W q4 q4) (by decide)) (lt_W_mono q1 (by decide)) (lt_W_mono q2 (by decide)) (by decide) va vb wx hva hvb)
  rw [cmpQ_pos] at HC1
  have HC2 := hide (fun (K : Int) (k1 : -2500 ≤ K) (k2 : K ≤ 2500) va vb wx hva hvb => cmpFrac_any false false N D (p2N K) (p2D K) 300 (lt_W_mono q1 (by decide)) (lt_W_mono q2 (by decide)) (lt_W_mono (p2N_lt (by omega)) (by decide)) (lt_W_mono (p2D_lt (by omega)) (by decide)) (by decide) va vb wx hva hvb)
  have HC3 := hide (fun (K : Int) (k1 : -2500 ≤ K) (k2 : K ≤ 2500) va vb wx hva hvb => cmpFrac_any false false wn wd (p2N K) (p2D K) 300 (lt_W_mono q5 (by decide)) (lt_W_mono q6 (by decide)) (lt_W_mono (p2N_lt (by omega)) (by decide)) (lt_W_mono (p2D_lt (by omega)) (by decide)) (by decide) va vb wx hva hvb)
  have HM4 := hide (fun va vb wx hva hvb => mulFrac_any false false N D (p2N 2) (p2D 2) 200 (lt_W_mono q1 (by decide)) (lt_W_mono q2 (by decide)) (lt_W_mono (p2N_lt (by decide)) (by decide)) (lt_W_mono (p2D_lt (by decide)) (by decide)) (by decide) va vb wx hva hvb)
  rw [show (!(false == false)) = false from rfl, show N * p2N 2 = N * 4 from rfl, show D * p2D 2 = D from Nat.mul_one D] at HM4
  clear h ha l1 l2 l3 l4 q1 q2 q3 q4 q5 q6 HF4
  obtain ⟨W0, hW0⟩ : ∃ W0, W0 = (w.alloc (.cells #[.int .u8 (e : Int), .int .u8 (m : Int)] 23)).alloc (.cells #[.int .u8 (e : Int), .int .u8 (m : Int)] 23) := ⟨_, rfl⟩
  have HC0 : Hid (Cells2 W0 w.heap.size e m) := by rw [hW0]; exact (Cells2.new w e m _).ext ((Ext.refl _).alloc _ _)
  have HX0 : Hid (Ext w W0) := by rw [hW0]; exact ((Ext.refl w).alloc _ _).alloc _ _
  go_enter Oacg.func8, Oacg.ntmps8
  go_wp2_with (first | (go_at_call 14; refine (ok_any _ _ _).mono ?_; rintro r w' ⟨rfl, rfl⟩))
  rw [← hW0]
  clear hW0
  refine (HSF.out _).mono ?_
  rintro _ w1 ⟨rfl, hx1⟩
  have HCc := hide (HC0.out.ext hx1)
  have HXc := hide (HX0.out.trans hx1)
  clear hx1 HC0 HX0 HSF hok
  obtain ⟨a0, a1⟩ := HCc.out
  go_wp2_with fail
  refine (HSQ.out _).mono ?_
  rintro _ w2 ⟨rfl, hx2⟩
  have HCd := hide (HCc.out.ext hx2)
  have HXd := hide (HXc.out.trans hx2)
  clear hx2 HCc HXc HSQ a0 a1
  obtain ⟨a0, a1⟩ := HCd.out
  go_wp2_with fail
  refine (HKC.out _).mono ?_
  rintro _ w3 ⟨rfl, hx3⟩
  have HCe := hide (HCd.out.ext hx3)
  have HXe := hide (HXd.out.trans hx3)
  clear hx3 HCd HXd HKC a0 a1
  obtain ⟨a0, a1⟩ := HCe.out
  by_cases c4 : cl = 4
  · have t4 : ((cl : Int) == 4) = true := by rw [c4]; rfl
    have hq := L1.out c4
    subst hq
    clear c4
    go_wp2_with fail
    refine (HNF.out _).mono ?_
    rintro _ w4 ⟨rfl, hx4⟩
    have HX4 := hide (HXe.out.trans hx4)
    clear hx4
    go_wp2_with fail
    go_ret
    exact ⟨by simp, HX4.out⟩
  have t4 : ((cl : Int) == 4) = false := by rw [beq_eq_false_iff_ne]; omega
  have N4 := Box.mk c4
  clear c4 HNF
  go_wp2_with fail
  refine (HNO.out _).mono ?_
  rintro _ w4 ⟨rfl, hx4⟩
  have HCf := hide (HCe.out.ext hx4)
  have HXf := hide (HXe.out.trans hx4)
  clear hx4 HCe HXe HNO a0 a1
  obtain ⟨a0, a1⟩ := HCf.out
  by_cases hg : pv = nV
  · have g1 : ((pv : Int) == (nV : Int)) = true := by rw [hg]; simp
    have hq := L2.out N4.out hg
    subst hq
    clear hg
    go_wp2_with fail
    go_ret
    exact ⟨by simp, HXf.out⟩
  have g1 : ((pv : Int) == (nV : Int)) = false := by rw [beq_eq_false_iff_ne]; omega
  have NG := Box.mk hg
  clear hg
  by_cases c3 : cl = 3
  · have t3 : ((cl : Int) == 3) = true := by rw [c3]; rfl
    have hq := L3.out N4.out NG.out (.inl c3)
    subst hq
    clear c3
    go_wp2_with fail
    go_ret
    exact ⟨by simp, HXf.out⟩
  have t3 : ((cl : Int) == 3) = false := by rw [beq_eq_false_iff_ne]; omega
  by_cases c0 : cl = 0
  · have t0 : ((cl : Int) == 0) = true := by rw [c0]; rfl
    have hq := L3.out N4.out NG.out (.inr c0)
    subst hq
    clear c3 c0
    go_wp2_with fail
    go_ret
    exact ⟨by simp, HXf.out⟩
  have t0 : ((cl : Int) == 0) = false := by rw [beq_eq_false_iff_ne]; omega
  obtain ⟨hvn, hpf, hwg⟩ := LW.out N4.out NG.out (by omega)
  subst hvn
  have HPF := Box.mk hpf
  have HWG := Box.mk hwg
  clear c3 c0 LW L1 L2 L3 CC N4 NG hpf hwg
  go_wp2_with fail
  refine (HVA.out _).mono ?_
  rintro _ w5 ⟨⟨_, rfl, p1, k1, c1, p2, k2, c2, rfl, hn1, hd1⟩, hx5⟩
  obtain ⟨W5, hW5⟩ : ∃ W5, W5 = w5.alloc (.cells #[.bool false, .slice p1 k1 c1, .slice p2 k2 c2] 37) := ⟨_, rfl⟩
  have hxa : Ext w5 W5 := by rw [hW5]; exact (Ext.refl w5).alloc _ _
  have HS5 : Hid (SV w W5 w5.heap.size e m (.slice p1 k1 c1) (.slice p2 k2 c2) N D) := by
    refine ⟨HXf.out.trans (hx5.trans hxa), (hx5.trans hxa).cell HCf.out.1, (hx5.trans hxa).cell HCf.out.2, ?_, ?_, ?_, hn1.ext hxa, hd1.ext hxa⟩ <;> rw [hW5] <;> simp [go_sem]
  clear a0 a1
  obtain ⟨a0, a1⟩ := HCf.out.ext hx5
  have hz5 : w.heap.size < w5.heap.size := World.block_lt_of_cell? _ _ a0
  clear hx5 hxa hn1 hd1 HCf HXf
  go_wp2_with fail
  rw [← hW5]
  clear hW5
  refine (HVR.out _).mono ?_
  rintro _ w6 ⟨⟨_, rfl, p3, k3, c3, p4, k4, c4, rfl, hn2, hd2⟩, hx6⟩
  obtain ⟨W6, hW6⟩ : ∃ W6, W6 = w6.alloc (.cells #[.bool nr, .slice p3 k3 c3, .slice p4 k4 c4] 37) := ⟨_, rfl⟩
  have hxb : Ext w6 W6 := by rw [hW6]; exact (Ext.refl w6).alloc _ _
  have HS6 := hide (HS5.out.next (hx6.trans hxb))
  have HRR : Hid (∀ wx, Ext W6 wx → RatAt wx (.agg #[.bool nr, .slice p3 k3 c3, .slice p4 k4 c4]) nr rn rd) := fun wx hx => ⟨_, _, _, _, _, _, rfl, hn2.ext (hxb.trans hx), hd2.ext (hxb.trans hx)⟩
  have HR6 : Hid (CellsR W6 w6.heap.size nr (.slice p3 k3 c3) (.slice p4 k4 c4)) := by rw [hW6]; exact ⟨by simp, by simp, by simp⟩
  have HH6 : Hid (∀ w', Ext W6 w' → Cells6 w' w5.heap.size w6.heap.size (.bool false) (.slice p1 k1 c1) (.slice p2 k2 c2) (.bool nr) (.slice p3 k3 c3) (.slice p4 k4 c4)) := fun w' hx => ⟨hx.cell HS6.out.b0, hx.cell HS6.out.b1, hx.cell HS6.out.b2, hx.cell HR6.out.1, hx.cell HR6.out.2.1, hx.cell HR6.out.2.2⟩
  have HRV : Hid (∀ wx, Ext W6 wx → RatAt wx (.agg #[.bool false, .slice p1 k1 c1, .slice p2 k2 c2]) false N D) := fun wx hx => ⟨_, _, _, _, _, _, rfl, HS6.out.nn.ext hx, HS6.out.nd.ext hx⟩
  clear hx6 hxb hn2 hd2 HS5 a0 a1 HVA HVR
  go_wp2_with fail
  rw [← hW6]
  clear hW6
  go_cut [80] (fun v wx => v = .bool (csQ (rn * rn) (rd * rd) N D == 0) ∧ Hid (Ext W6 wx))
  case first =>
    go_region_held3 (fun w' => Cells6 w' w5.heap.size w6.heap.size (.bool false) (.slice p1 k1 c1) (.slice p2 k2 c2) (.bool nr) (.slice p3 k3 c3) (.slice p4 k4 c4))
      (first | exact HH6.out _ (Ext.refl _) | exact HH6.out _ (by (repeat apply Ext.drew); first | exact Ext.refl _ | assumption))
      (first
        | (go_at_call 49; refine (HMU.out _ _ _ (HRR.out _ (by (repeat apply Ext.drew); first | exact Ext.refl _ | assumption)) (HRR.out _ (by (repeat apply Ext.drew); first | exact Ext.refl _ | assumption))).mono ?_; rintro r w7 ⟨⟨v7, rfl, hv7⟩, hx7⟩; have HV7 := hide hv7; have hE7 : Ext W6 w7 := Ext.trans (by (repeat apply Ext.drew); first | exact Ext.refl _ | assumption) hx7; clear hv7 hx7)
        | (go_at_call 38; refine (HC1.out _ _ _ (by first | exact HV7.out | exact HV7.out.ext ((Ext.refl _).drew)) (HRV.out _ (by (repeat apply Ext.drew); first | exact Ext.refl _ | assumption))).mono ?_; rintro r w8 ⟨rfl, hx8⟩; have hE8 : Ext W6 w8 := Ext.trans (by (repeat apply Ext.drew); first | exact Ext.refl _ | assumption) hx8; clear hx8))
    all_goals go_wp2_with fail
    all_goals go_meet
    all_goals exact ⟨rfl, show Ext _ _ by (repeat apply Ext.drew); assumption⟩
  case rest =>
    obtain ⟨rfl, HXc⟩ := hcut
    have HS7 := hide (HS6.out.next HXc.out)
    clear HXc HS6 HRR HR6 HH6 HRV HC1 HMU
    generalize csQ (rn * rn) (rd * rd) N D = z1 at *
    by_cases hz : z1 = 0
    · have hpf := HPF.out
      rw [if_pos hz] at hpf
      subst hpf
      rw [hz]
      clear hz
      go_wp2_with fail
      go_ret
      exact ⟨by simp, HS7.out.ext⟩
    have hz1 : (z1 == 0) = false := by rw [beq_eq_false_iff_ne]; exact hz
    have hpf := HPF.out
    rw [if_neg hz] at hpf
    have HP2 := Box.mk hpf
    rw [hz1]
    clear hz hz1 hpf HPF
    have a0 := HS7.out.a0
    have a1 := HS7.out.a1
    go_wp2_with fail
    refine (HBI.out _).mono ?_
    rintro _ w9 ⟨rfl, hx9⟩
    have HS9 := hide (HS7.out.next hx9)
    have HRV : Hid (∀ wx, Ext w9 wx → RatAt wx (.agg #[.bool false, .slice p1 k1 c1, .slice p2 k2 c2]) false N D) := fun wx hx => ⟨_, _, _, _, _, _, rfl, HS9.out.nn.ext hx, HS9.out.nd.ext hx⟩
    have HHV : Hid (∀ w', Ext w9 w' → w'.cell? ⟨w5.heap.size, 0, none⟩ = some (.bool false) ∧ w'.cell? ⟨w5.heap.size, 1, none⟩ = some (.slice p1 k1 c1) ∧ w'.cell? ⟨w5.heap.size, 2, none⟩ = some (.slice p2 k2 c2)) := fun w' hx => ⟨hx.cell HS9.out.b0, hx.cell HS9.out.b1, hx.cell HS9.out.b2⟩
    clear hx9 HS7 a0 a1 HBI
    have hw1 : IntKind.i64.wrap (2 * leastQ e) = 2 * leastQ e := by rw [Go.IntWalk.i64_left]; exact w64_of (by omega) (by omega)
    go_wp2_with fail
    rw [show 1 - (bias e : Int) = leastQ e from rfl]
    go_cut [15] (fun v wx => v = .bool (decide (csQ N D (p2N (2 * leastQ e)) (p2D (2 * leastQ e)) < 0)) ∧ Hid (Ext w9 wx))
    case first =>
      have HCC := hide (HC2.out (2 * leastQ e) (by omega) (by omega))
      rw [cmpQ_pos] at HCC
      go_region_held3 (fun w' => w'.cell? ⟨w5.heap.size, 0, none⟩ = some (.bool false) ∧ w'.cell? ⟨w5.heap.size, 1, none⟩ = some (.slice p1 k1 c1) ∧ w'.cell? ⟨w5.heap.size, 2, none⟩ = some (.slice p2 k2 c2))
        (first | exact HHV.out _ (Ext.refl _) | exact HHV.out _ (by (repeat apply Ext.drew); first | exact Ext.refl _ | assumption))
        (first
          | (go_at_call 54; refine (pow2Frac_any (2 * leastQ e) (by omega) (by omega) _).mono ?_; rintro r w10 ⟨⟨u10, rfl, hu⟩, hx10⟩; have HU := hide hu; have hE10 : Ext w9 w10 := Ext.trans (by (repeat apply Ext.drew); first | exact Ext.refl _ | assumption) hx10; clear hx10 hu)
          | (go_at_call 38; refine (HCC.out _ _ _ (HRV.out _ (by (repeat apply Ext.drew); first | exact Ext.refl _ | assumption)) (HU.out.ext (by (repeat apply Ext.drew); exact Ext.refl _))).mono ?_; rintro r w11 ⟨rfl, hx11⟩; have hE11 : Ext w9 w11 := Ext.trans (by (repeat apply Ext.drew); first | exact Ext.refl _ | assumption) hx11; clear hx11))
      all_goals go_wp2_with fail
      all_goals go_meet
      all_goals exact ⟨rfl, show Ext _ _ by (repeat apply Ext.drew); assumption⟩
    case rest =>
      obtain ⟨rfl, HXc⟩ := hcut
      have HSa := hide (HS9.out.next HXc.out)
      have HRa : Hid (∀ wx, Ext wc wx → RatAt wx (.agg #[.bool false, .slice p1 k1 c1, .slice p2 k2 c2]) false N D) := fun wx hx => ⟨_, _, _, _, _, _, rfl, HSa.out.nn.ext hx, HSa.out.nd.ext hx⟩
      have HHa : Hid (∀ w', Ext wc w' → w'.cell? ⟨w5.heap.size, 0, none⟩ = some (.bool false) ∧ w'.cell? ⟨w5.heap.size, 1, none⟩ = some (.slice p1 k1 c1) ∧ w'.cell? ⟨w5.heap.size, 2, none⟩ = some (.slice p2 k2 c2)) := fun w' hx => ⟨hx.cell HSa.out.b0, hx.cell HSa.out.b1, hx.cell HSa.out.b2⟩
      clear HXc HS9 HRV HHV hw1
      generalize csQ N D (p2N (2 * leastQ e)) (p2D (2 * leastQ e)) = z2 at *
      by_cases hz2 : z2 < 0
      · have hpf := HP2.out
        rw [if_pos hz2] at hpf
        have hwg := HWG.out hz2
        subst hwg
        have HP3 := Box.mk hpf
        rw [decide_eq_true hz2]
        clear hz2 hpf HP2 HWG
        have hw1 : IntKind.i64.wrap (2 * leastQ e) = 2 * leastQ e := by rw [Go.IntWalk.i64_left]; exact w64_of (by omega) (by omega)
        have hw2 : IntKind.i64.wrap (2 * leastQ e - 2) = 2 * leastQ e - 2 := by rw [Go.IntWalk.i64_left]; exact w64_of (by omega) (by omega)
        go_wp2_with fail
        go_cut [101] (fun v wx => v = .bool (decide (0 ≤ csQ N D (p2N (2 * leastQ e - 2)) (p2D (2 * leastQ e - 2)))) ∧ Hid (Ext wc wx))
        case first =>
          have HCC := hide (HC2.out (2 * leastQ e - 2) (by omega) (by omega))
          rw [cmpQ_pos] at HCC
          go_region_held3 (fun w' => w'.cell? ⟨w5.heap.size, 0, none⟩ = some (.bool false) ∧ w'.cell? ⟨w5.heap.size, 1, none⟩ = some (.slice p1 k1 c1) ∧ w'.cell? ⟨w5.heap.size, 2, none⟩ = some (.slice p2 k2 c2))
            (first | exact HHa.out _ (Ext.refl _) | exact HHa.out _ (by (repeat apply Ext.drew); first | exact Ext.refl _ | assumption))
            (first
              | (go_at_call 54; refine (pow2Frac_any (2 * leastQ e - 2) (by omega) (by omega) _).mono ?_; rintro r w10 ⟨⟨u10, rfl, hu⟩, hx10⟩; have HU := hide hu; have hE10 : Ext wc w10 := Ext.trans (by (repeat apply Ext.drew); first | exact Ext.refl _ | assumption) hx10; clear hx10 hu)
              | (go_at_call 38; refine (HCC.out _ _ _ (HRa.out _ (by (repeat apply Ext.drew); first | exact Ext.refl _ | assumption)) (HU.out.ext (by (repeat apply Ext.drew); exact Ext.refl _))).mono ?_; rintro r w11 ⟨rfl, hx11⟩; have hE11 : Ext wc w11 := Ext.trans (by (repeat apply Ext.drew); first | exact Ext.refl _ | assumption) hx11; clear hx11))
          all_goals go_wp2_with fail
          all_goals go_meet
          all_goals exact ⟨rfl, show Ext _ _ by (repeat apply Ext.drew); assumption⟩
        case rest =>
          obtain ⟨rfl, HXc⟩ := hcut
          have HSb := hide (HSa.out.next HXc.out)
          have HRb : Hid (∀ wx, Ext wc wx → RatAt wx (.agg #[.bool false, .slice p1 k1 c1, .slice p2 k2 c2]) false N D) := fun wx hx => ⟨_, _, _, _, _, _, rfl, HSb.out.nn.ext hx, HSb.out.nd.ext hx⟩
          have HHb : Hid (∀ w', Ext wc w' → (w'.cell? ⟨w.heap.size, 0, none⟩ = some (.int .u8 (e : Int)) ∧ w'.cell? ⟨w.heap.size, 1, none⟩ = some (.int .u8 (m : Int))) ∧ w'.cell? ⟨w5.heap.size, 0, none⟩ = some (.bool false) ∧ w'.cell? ⟨w5.heap.size, 1, none⟩ = some (.slice p1 k1 c1) ∧ w'.cell? ⟨w5.heap.size, 2, none⟩ = some (.slice p2 k2 c2)) := fun w' hx => ⟨⟨hx.cell HSb.out.a0, hx.cell HSb.out.a1⟩, hx.cell HSb.out.b0, hx.cell HSb.out.b1, hx.cell HSb.out.b2⟩
          clear HXc HSa HRa HHa hw1 hw2 HC2
          generalize csQ N D (p2N (2 * leastQ e - 2)) (p2D (2 * leastQ e - 2)) = z3 at *
          by_cases hz3 : 0 ≤ z3
          · have hpf := HP3.out
            rw [if_pos hz3] at hpf
            have HP4 := Box.mk hpf
            rw [decide_eq_true hz3]
            clear hz3 hpf HP3
            go_wp2_with fail
            go_cut [16] (fun v wx => v = .int .u64 (F4 : Int) ∧ Hid (Ext wc wx))
            case first =>
              go_region_held3 (fun w' => (w'.cell? ⟨w.heap.size, 0, none⟩ = some (.int .u8 (e : Int)) ∧ w'.cell? ⟨w.heap.size, 1, none⟩ = some (.int .u8 (m : Int))) ∧ w'.cell? ⟨w5.heap.size, 0, none⟩ = some (.bool false) ∧ w'.cell? ⟨w5.heap.size, 1, none⟩ = some (.slice p1 k1 c1) ∧ w'.cell? ⟨w5.heap.size, 2, none⟩ = some (.slice p2 k2 c2))
                (first | exact HHb.out _ (Ext.refl _) | exact HHb.out _ (by (repeat apply Ext.drew); first | exact Ext.refl _ | assumption))
                (first
                  | (go_at_call 54; refine (pow2Frac_any 2 (by decide) (by decide) _).mono ?_; rintro r w10 ⟨⟨u10, rfl, hu⟩, hx10⟩; have HU := hide hu; have hE10 : Ext wc w10 := Ext.trans (by (repeat apply Ext.drew); first | exact Ext.refl _ | assumption) hx10; clear hx10 hu)
                  | (go_at_call 49; refine (HM4.out _ _ _ (HRb.out _ (by (repeat apply Ext.drew); first | exact Ext.refl _ | assumption)) (HU.out.ext (by (repeat apply Ext.drew); exact Ext.refl _))).mono ?_; rintro r w11 ⟨⟨u11, rfl, hu⟩, hx11⟩; have HU11 := hide hu; have hE11 : Ext wc w11 := Ext.trans (by (repeat apply Ext.drew); first | exact Ext.refl _ | assumption) hx11; clear hx11 hu)
                  | (go_at_call 21; refine (HRD.out _ _ (HU11.out.ext (by (repeat apply Ext.drew); exact Ext.refl _))).mono ?_; rintro r w12 ⟨rfl, hx12⟩; have hE12 : Ext wc w12 := Ext.trans (by (repeat apply Ext.drew); first | exact Ext.refl _ | assumption) hx12; clear hx12))
              all_goals go_wp2_with fail
              all_goals go_meet
              all_goals exact ⟨rfl, show Ext _ _ by (repeat apply Ext.drew); assumption⟩
            case rest =>
              obtain ⟨rfl, HXc⟩ := hcut
              have HSd := hide (HSb.out.next HXc.out)
              have HHd : Hid (∀ w', Ext wc w' → w'.cell? ⟨w.heap.size, 0, none⟩ = some (.int .u8 (e : Int)) ∧ w'.cell? ⟨w.heap.size, 1, none⟩ = some (.int .u8 (m : Int))) := fun w' hx => ⟨hx.cell HSd.out.a0, hx.cell HSd.out.a1⟩
              clear HXc HSb HRb HHb HRD HM4
              go_wp2_with fail
              go_cut [17] (fun v17 wx => ∃ B p5 k5 c5 p6 k6 c6, v17 = .pointer (some ⟨B, 0, none⟩) ∧ CellsR wx B false (.slice p5 k5 c5) (.slice p6 k6 c6) ∧ Hid (NatAt wx (.slice p5 k5 c5) wn ∧ NatAt wx (.slice p6 k6 c6) wd) ∧ Hid (Ext wc wx))
              case first =>
                go_region_held3 (fun w' => w'.cell? ⟨w.heap.size, 0, none⟩ = some (.int .u8 (e : Int)) ∧ w'.cell? ⟨w.heap.size, 1, none⟩ = some (.int .u8 (m : Int)))
                  (first | exact HHd.out _ (Ext.refl _) | exact HHd.out _ (by (repeat (first | apply Ext.drew | apply Ext.alloc)); first | exact Ext.refl _ | assumption) | exact HHd.out _ (R.extSet (by first | exact Nat.le_refl _ | assumption) (R.extSet (by first | exact Nat.le_refl _ | assumption) (R.extSet (by first | exact Nat.le_refl _ | assumption) (by assumption)))))
                  (first
                    | (go_at_call 43; refine (HS4.out _).mono ?_; rintro r w13 ⟨rfl, hx13⟩; have hP : Ext wc w13 := Ext.trans (by (repeat (first | apply Ext.drew | apply Ext.alloc)); exact Ext.refl _) hx13; (try (replace r0 := hP.cell r0; replace r1 := hP.cell r1; replace r2 := hP.cell r2; replace rf : ∀ i, w13.frozen? _ = false := fun i => (by rw [hP.froz]; exact rf i))); (try (have hF : Ext (wc.alloc (.cells #[.bool false, .slice none 0 0, .slice none 0 0] 37)) w13 := Ext.trans (by (repeat apply Ext.drew); exact Ext.refl _) hx13; obtain ⟨r0, r1, r2, rf⟩ := fresh3 hF; clear hF)); have hEw13 : Ext wc w13 := Ext.trans (by (repeat (first | apply Ext.drew | apply Ext.alloc)); first | exact Ext.refl _ | assumption) hP; have hsw13 : wc.heap.size ≤ w13.heap.size := hEw13.size; clear hP hx13)
                    | (go_at_call 20; refine (HV4.out _).mono ?_; rintro r w14 ⟨⟨u14, rfl, p5, k5, c5, p6, k6, c6, rfl, hn5, hd5⟩, hx14⟩; have HN5 := hide hn5; have HD5 := hide hd5; clear hn5 hd5; have hP : Ext w13 w14 := Ext.trans (by (repeat (first | apply Ext.drew | apply Ext.alloc)); exact Ext.refl _) hx14; (try (replace r0 := hP.cell r0; replace r1 := hP.cell r1; replace r2 := hP.cell r2; replace rf : ∀ i, w14.frozen? _ = false := fun i => (by rw [hP.froz]; exact rf i))); (try (have hF : Ext (w13.alloc (.cells #[.bool false, .slice none 0 0, .slice none 0 0] 37)) w14 := Ext.trans (by (repeat apply Ext.drew); exact Ext.refl _) hx14; obtain ⟨r0, r1, r2, rf⟩ := fresh3 hF; clear hF)); have hEw14 : Ext wc w14 := Ext.trans (by (repeat (first | apply Ext.drew | apply Ext.alloc)); first | exact Ext.refl _ | assumption) hP; have hsw14 : wc.heap.size ≤ w14.heap.size := hEw14.size; clear hP hx14))
                all_goals go_wp2_with fail
                all_goals go_meet
                all_goals first
                  | (have _r := r0; exact ⟨_, p5, k5, c5, p6, k6, c6, rfl, set3_cells r0 r1 r2 _ _ _, ⟨keeps_rat r0 r1 r2 rfl rfl rfl _ _ _ _ _ HN5.out, keeps_rat r0 r1 r2 rfl rfl rfl _ _ _ _ _ HD5.out⟩, (R.extSet (by first | exact Nat.le_refl _ | assumption) (R.extSet (by first | exact Nat.le_refl _ | assumption) (R.extSet (by first | exact Nat.le_refl _ | assumption) (by assumption))))⟩)
                  | exact ⟨w14.heap.size, p5, k5, c5, p6, k6, c6, rfl, ⟨by simp, by simp, by simp⟩, ⟨HN5.out.ext ((Ext.refl _).alloc _ _), HD5.out.ext ((Ext.refl _).alloc _ _)⟩, hEw14.alloc _ _⟩
              case rest =>
                obtain ⟨B, p5, k5, c5, p6, k6, c6, rfl, hcb, HN, HX⟩ := hcut
                have HXX := hide (HSd.out.ext.trans HX.out)
                have HCB := hide hcb
                have hwe1 : IntKind.i64.wrap (leastQ e + 1) = leastQ e + 1 := by rw [Go.IntWalk.i64_left]; exact w64_of (by omega) (by omega)
                have HCC := hide (HC3.out (leastQ e + 1) (by omega) (by omega))
                rw [cmpQ_pos] at HCC
                have HRW : Hid (∀ wx, Ext wc wx → RatAt wx (.agg #[.bool false, .slice p5 k5 c5, .slice p6 k6 c6]) false wn wd) := fun wx hx => ⟨_, _, _, _, _, _, rfl, HN.out.1.ext hx, HN.out.2.ext hx⟩
                obtain ⟨z4, hz4⟩ : ∃ z4, csQ wn wd (p2N (leastQ e + 1)) (p2D (leastQ e + 1)) = z4 := ⟨_, rfl⟩
                have hpf := HP4.out
                rw [hz4] at hpf HCC
                have HP5 := Box.mk hpf
                clear hz4 hpf HP4 HN HX hcb HSd HHd HS4 HV4 HC3
                by_cases hz5 : z4 < 0
                · have hpf := HP5.out
                  rw [decide_eq_true hz5, if_pos rfl] at hpf
                  subst hpf
                  have u1 : decide (z4 < 0) = true := decide_eq_true hz5
                  clear hz5 HP5
                  go_wp2_with fail
                  go_region_held3 (fun w' => CellsR w' B false (.slice p5 k5 c5) (.slice p6 k6 c6))
                    (first | exact HCB.out | exact HCB.out.ext (by (repeat apply Ext.drew); first | exact Ext.refl _ | assumption))
                    (first
                      | (go_at_call 54; refine (pow2Frac_any (leastQ e + 1) (by omega) (by omega) _).mono ?_; rintro r w15 ⟨⟨u15, rfl, hu⟩, hx15⟩; have HU := hide hu; have hE15 : Ext wc w15 := Ext.trans (by (repeat apply Ext.drew); first | exact Ext.refl _ | assumption) hx15; clear hx15 hu)
                      | (go_at_call 38; refine (HCC.out _ _ _ (HRW.out _ (by (repeat apply Ext.drew); first | exact Ext.refl _ | assumption)) (HU.out.ext (by (repeat apply Ext.drew); exact Ext.refl _))).mono ?_; rintro r w16 ⟨rfl, hx16⟩; have hE16 : Ext wc w16 := Ext.trans (by (repeat apply Ext.drew); first | exact Ext.refl _ | assumption) hx16; clear hx16))
                  all_goals go_wp2_with fail
                  all_goals go_ret
                  all_goals exact ⟨by simp, HXX.out.trans (by (repeat apply Ext.drew); assumption)⟩
                · have hpf := HP5.out
                  rw [decide_eq_false hz5, if_neg (by decide)] at hpf
                  subst hpf
                  have u1 : decide (z4 < 0) = false := decide_eq_false hz5
                  clear hz5 HP5
                  go_wp2_with fail
                  go_region_held3 (fun w' => CellsR w' B false (.slice p5 k5 c5) (.slice p6 k6 c6))
                    (first | exact HCB.out | exact HCB.out.ext (by (repeat apply Ext.drew); first | exact Ext.refl _ | assumption))
                    (first
                      | (go_at_call 54; refine (pow2Frac_any (leastQ e + 1) (by omega) (by omega) _).mono ?_; rintro r w15 ⟨⟨u15, rfl, hu⟩, hx15⟩; have HU := hide hu; have hE15 : Ext wc w15 := Ext.trans (by (repeat apply Ext.drew); first | exact Ext.refl _ | assumption) hx15; clear hx15 hu)
                      | (go_at_call 38; refine (HCC.out _ _ _ (HRW.out _ (by (repeat apply Ext.drew); first | exact Ext.refl _ | assumption)) (HU.out.ext (by (repeat apply Ext.drew); exact Ext.refl _))).mono ?_; rintro r w16 ⟨rfl, hx16⟩; have hE16 : Ext wc w16 := Ext.trans (by (repeat apply Ext.drew); first | exact Ext.refl _ | assumption) hx16; clear hx16))
                  all_goals go_wp2_with fail
                  all_goals go_ret
                  all_goals exact ⟨by simp, HXX.out.trans (by (repeat apply Ext.drew); assumption)⟩
          · have hpf := HP3.out
            rw [if_neg hz3, if_pos rfl] at hpf
            subst hpf
            rw [decide_eq_false hz3]
            clear hz3 HP3
            go_wp2_with fail
            go_ret
            exact ⟨by simp, HSb.out.ext⟩
      · have hpf := HP2.out
        rw [if_neg hz2, if_neg (by decide)] at hpf
        subst hpf
        rw [decide_eq_false hz2]
        clear hz2 HP2 HWG
        go_wp2_with fail
        go_quiet (fail)
        all_goals go_wp2_with fail
        all_goals go_ret
        all_goals exact ⟨by simp, HSa.out.ext.trans (by (repeat (first | apply Ext.drew | apply Ext.drewN)); first | exact Ext.refl _ | assumption)⟩

set_option maxRecDepth 100000 in
theorem exactFlagsSqrtLaw_any (E M : Int) (wE : (Lit.int .u8 E).wf = true) (wM : (Lit.int .u8 M).wf = true) (mode : Int) (wm : (Lit.int .u8 mode).wf = true) (a : Int) (wa : (Lit.int .u64 a).wf = true) (w : World) :
    Calls Oacg.prog 8 #[.agg #[.int .u8 E, .int .u8 M], .int .u8 mode, .int .u64 a] w fun r w' => r = .returned (.bool true) ∧ Ext w w' := by
  cases hok : okB E M
  · clear wE wM wm wa
    go_enter Oacg.func8, Oacg.ntmps8
    go_wp2_with (first | (go_at_call 14; refine (ok_any _ _ _).mono ?_; rintro r w' ⟨rfl, rfl⟩))
    go_ret
    exact ⟨rfl, by repeat (first | apply Ext.alloc | exact Ext.refl _)⟩
  · obtain ⟨e, m, rfl, rfl, h⟩ := fm_of hok
    obtain ⟨hx0, hx1⟩ := u64_bd wa
    obtain ⟨a, rfl⟩ := Int.eq_ofNat_of_zero_le hx0
    exact exactFlagsSqrt_ok e m h mode a (by omega) w
end Go.Proofs.Ygcoac
