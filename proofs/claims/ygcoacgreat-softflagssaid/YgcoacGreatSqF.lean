/-
  exact.SqrtFlags, Sqrt.
-/
import Derived.Test.YgcoacGreatSqR
import Derived.Test.YgcoacGreatExD
import Derived.Test.YgcoacGreatFlO
namespace Go.Proofs.YgcoacGreat
open Go.RowKit
set_option linter.unusedSimpArgs false
set_option linter.unusedVariables false
attribute [local go_sem] nil_eq nil_ne

def sqP (e m : Nat) (mode : Int) (a : Nat) : Nat × Int :=
  if cls e m a = 4 then (nanV e m, heardF e m a a)
  else if cls e m a = 0 then (msk e m a, 0)
  else if ngB e m a = true then (nanV e m, 1)
  else if cls e m a = 3 then (msk e m a, 0)
  else (sqV e m mode (vNum e m a) (vDen e m a), sqF e m mode (vNum e m a) (vDen e m a))
/-- SqrtFlags' world: the format's box, the operand's value. -/
structure SF (w wr : World) (B e m : Nat) (vx : Bool) (s1 s2 : Value) (N D : Nat) : Prop where
  ext : Ext w wr
  a0 : wr.cell? ⟨w.heap.size, 0, none⟩ = some (.int .u8 (e : Int))
  a1 : wr.cell? ⟨w.heap.size, 1, none⟩ = some (.int .u8 (m : Int))
  b3 : wr.cell? ⟨B, 3, none⟩ = some (.bool vx)
  b4 : wr.cell? ⟨B, 4, none⟩ = some s1
  b5 : wr.cell? ⟨B, 5, none⟩ = some s2
  nn : NatAt wr s1 N
  nd : NatAt wr s2 D
theorem SF.next {w wr w' : World} {B e m : Nat} {vx : Bool} {s1 s2 : Value} {N D : Nat} (h : SF w wr B e m vx s1 s2 N D) (x : Ext wr w') : SF w w' B e m vx s1 s2 N D :=
  ⟨h.ext.trans x, x.cell h.a0, x.cell h.a1, x.cell h.b3, x.cell h.b4, x.cell h.b5, h.nn.ext x, h.nd.ext x⟩
theorem SF.cells {w wr : World} {B e m : Nat} {vx : Bool} {s1 s2 : Value} {N D : Nat} (h : SF w wr B e m vx s1 s2 N D) :
    wr.cell? ⟨w.heap.size, 0, none⟩ = some (.int .u8 (e : Int)) ∧ wr.cell? ⟨w.heap.size, 1, none⟩ = some (.int .u8 (m : Int)) ∧ wr.cell? ⟨B, 3, none⟩ = some (.bool vx) ∧ wr.cell? ⟨B, 4, none⟩ = some s1 ∧ wr.cell? ⟨B, 5, none⟩ = some s2 := ⟨h.a0, h.a1, h.b3, h.b4, h.b5⟩

set_option maxRecDepth 100000 in
set_option maxHeartbeats 4000000 in
theorem sqrtFlags_any (e m : Nat) (h : Fm e m) (mode : Int) (a : Nat) (ha : a < 18446744073709551616) (w : World) :
    Calls Oacg.prog 8 #[.agg #[.int .u8 (e : Int), .int .u8 (m : Int)], .int .u8 mode, .int .u64 (a : Int)] w fun r w' => r = .returned (.tuple #[.int .u64 ((sqP e m mode a).1 : Int), .int .u8 (sqP e m mode a).2]) ∧ Ext w w' := by
  have hok := okB_fm h
  have HO := hide (open_any e m h a ha)
  have HNA := hide (theNaN_any e m h)
  have HHE := hide (heard_any e m h a a ha ha)
  have HEM : Hid (∀ wx, Calls Oacg.prog 39 #[.agg #[.int .u8 (e : Int), .int .u8 (m : Int)]] wx fun r w' => r = .returned (.int .i64 (eminI e)) ∧ Ext wx w') := fun wx => (emin_any e m h wx).mono fun r w' ⟨h1, c1, c2, c3, h2⟩ => ⟨h1, by rw [h2]; exact ext3⟩
  have HEX : Hid (∀ wx, Calls Oacg.prog 40 #[.agg #[.int .u8 (e : Int), .int .u8 (m : Int)]] wx fun r w' => r = .returned (.int .i64 (bias e : Int)) ∧ Ext wx w') := fun wx => (emax_any e m h wx).mono fun r w' ⟨h1, c1, c2, c3, h2⟩ => ⟨h1, by rw [h2]; exact ext3⟩
  have hb := bias_bd h
  have HLG := hide (fun va vb wx ha hb => log2_any (vNum e m a) (vDen e m a) 100 100 (vNum_lt h a) (vDen_lt h a) (by decide) (by decide) (2 * eminI e - 200) (2 * (bias e : Int)) (by unfold eminI; omega) (by unfold eminI; omega) (by omega) (by omega) va vb wx ha hb)
  rw [show log2Q (vNum e m a) (vDen e m a) (2 * eminI e - 200) (2 * (bias e : Int)) = lgS e (vNum e m a) (vDen e m a) from rfl] at HLG
  have HRT := hide (fun neg ex q1 q2 v wx hv => rootAt_any e m h mode neg (vNum e m a) (vDen e m a) (vNum_lt h a) (vDen_lt h a) (vDen_pos e m a) ex q1 q2 v wx hv)
  have HOK := Box.mk (fun hc => sqOk_of (x := a) h hc (vNum_pos h a hc))
  have HCL := Box.mk (cls_cases e m a)
  obtain ⟨P, hP⟩ : ∃ P, sqP e m mode a = P := ⟨_, rfl⟩
  rw [hP]
  unfold sqP at hP
  have H := hide h
  generalize msk e m a = mk at *
  generalize ngB e m a = ng at *
  generalize cls e m a = cl at *
  generalize vNeg e m a = vn at *
  generalize vNum e m a = N at *
  generalize vDen e m a = D at *
  generalize heardF e m a a = hF at *
  generalize nanV e m = nV at *
  have HP := Box.mk hP
  clear hP h ha
  go_enter Oacg.func8, Oacg.ntmps8
  go_wp2_with (first | (go_at_call 4; refine (ok_any _ _ _).mono ?_; rintro r w' ⟨rfl, rfl⟩))
  refine (HO.out _).mono ?_
  rintro _ w1 ⟨⟨p1, k1, c1, p2, k2, c2, rfl, hn1, hd1⟩, hx1⟩
  have hC1 : Cells2 w1 w.heap.size e m := Cells2.ext ((Cells2.new w e m _).ext ((Ext.refl _).alloc _ _)) hx1
  have hX1 : Ext w w1 := Ext.trans (by repeat (first | apply Ext.alloc | exact Ext.refl _)) hx1
  obtain ⟨W1, hW1⟩ : ∃ W1, W1 = w1.alloc (.cells #[.int .u64 (mk : Int), .bool ng, .int .i8 (cl : Int), .bool vn, .slice p1 k1 c1, .slice p2 k2 c2] 62) := ⟨_, rfl⟩
  have hxa : Ext w1 W1 := by rw [hW1]; exact (Ext.refl w1).alloc _ _
  have HX := hide (hX1.trans hxa)
  have HC := hide (hC1.ext hxa)
  have HSF : Hid (SF w W1 w1.heap.size e m vn (.slice p1 k1 c1) (.slice p2 k2 c2) N D) := by
    refine ⟨HX.out, HC.out.1, HC.out.2, ?_, ?_, ?_, hn1.ext hxa, hd1.ext hxa⟩ <;> rw [hW1] <;> simp [go_sem]
  obtain ⟨a0, a1⟩ := hC1
  have hz0 : w.heap.size < w1.heap.size := World.block_lt_of_cell? _ _ a0
  clear hX1 hn1 hd1 hx1 hxa HO
  by_cases c4 : cl = 4
  · have t4 : ((cl : Int) == 4) = true := by rw [c4]; rfl
    have hP := HP.out
    rw [if_pos c4] at hP
    subst hP
    clear c4
    go_wp2_with fail
    rw [← hW1]
    clear hW1
    go_region_held3 (fun w' => Cells2 w' w.heap.size e m)
      (first | exact HC.out | exact HC.out.ext (by (repeat apply Ext.drew); first | exact Ext.refl _ | assumption))
      (first
        | (go_at_call 29; refine (HNA.out _).mono ?_; rintro r w2 ⟨rfl, hx2⟩; have hE : Ext W1 w2 := Ext.trans (by (repeat apply Ext.drew); first | exact Ext.refl _ | assumption) hx2; clear hx2)
        | (go_at_call 37; refine (HHE.out _).mono ?_; rintro r w3 ⟨rfl, hx3⟩; have hE : Ext W1 w3 := Ext.trans (by (repeat apply Ext.drew); first | exact Ext.refl _ | assumption) hx3; clear hx3))
    all_goals go_wp2_with fail
    all_goals simp [bodyPost, results, Oacg.results8, go_sem]
    all_goals exact HX.out.trans (by (repeat apply Ext.drew); assumption)
  have t4 : ((cl : Int) == 4) = false := by rw [beq_eq_false_iff_ne]; omega
  by_cases c0 : cl = 0
  · have t0 : ((cl : Int) == 0) = true := by rw [c0]; rfl
    have hP := HP.out
    rw [if_neg c4, if_pos c0] at hP
    subst hP
    clear c4 c0
    go_wp2_with fail
    rw [← hW1]
    simp [bodyPost, results, Oacg.results8, go_sem]
    exact HX.out
  have t0 : ((cl : Int) == 0) = false := by rw [beq_eq_false_iff_ne]; omega
  cases ng with
  | true =>
    have hP := HP.out
    rw [if_neg c4, if_neg c0, if_pos rfl] at hP
    subst hP
    clear c4 c0
    go_wp2_with fail
    rw [← hW1]
    refine (HNA.out _).mono ?_
    rintro _ w2 ⟨rfl, hx2⟩
    have HX2 := hide (HX.out.trans hx2)
    clear hx2 hW1
    go_wp2_with fail
    simp [bodyPost, results, Oacg.results8, go_sem]
    exact HX2.out
  | false =>
    by_cases c3 : cl = 3
    · have t3 : ((cl : Int) == 3) = true := by rw [c3]; rfl
      have hP := HP.out
      rw [if_neg c4, if_neg c0, if_neg (by decide), if_pos c3] at hP
      subst hP
      clear c4 c0 c3
      go_wp2_with fail
      rw [← hW1]
      simp [bodyPost, results, Oacg.results8, go_sem]
      exact HX.out
    · have t3 : ((cl : Int) == 3) = false := by rw [beq_eq_false_iff_ne]; omega
      have hP := HP.out
      rw [if_neg c4, if_neg c0, if_neg (by decide), if_neg c3] at hP
      have hsq := HOK.out (by have := HCL.out; omega)
      have hexb := ex_bd hsq
      have hlgb := lg_bd hsq
      have hmb := (man_bd (mode := mode) hsq).1
      have HMB := Box.mk hmb
      have HV : Box (sqV e m mode N D = packV e m mode false (exS e N D) (rnS m mode N D (exS e N D) % 18446744073709551616)) := ⟨rfl⟩
      have HF : Box (sqF e m mode N D = packF e m (exS e N D) (rnS m mode N D (exS e N D) % 18446744073709551616) (smS m N D (exS e N D)) (tinyS e m mode N D)) := ⟨rfl⟩
      have HM : Box (rnS m mode N D (exS e N D) % 18446744073709551616 ≤ 2 ^ (m + 1)) := ⟨hmb⟩
      have HTY : Box (tinyS e m mode N D = if reS e N D = eminI e - 1 then decide ((bits (rnS m mode N D (reS e N D)) : Int) = (m : Int) + 1) else decide (reS e N D < eminI e)) := ⟨rfl⟩
      have hre : lgS e N D / 2 = reS e N D := rfl
      have hreb : -1300 ≤ reS e N D ∧ reS e N D ≤ 1300 := by
        obtain ⟨_, _, q1, q2⟩ := H.out
        unfold eminI at *
        omega
      have hexA : (if reS e N D < eminI e then eminI e else reS e N D) = exS e N D := by unfold exS; split <;> omega
      have hexB : (if eminI e < reS e N D then reS e N D else eminI e) = exS e N D := by unfold exS; split <;> omega
      have HPB := Box.mk hP
      have hw1 : IntKind.i64.wrap (2 * eminI e) = 2 * eminI e := by rw [Go.IntWalk.i64_left]; exact w64_of (by unfold eminI; omega) (by unfold eminI; omega)
      have hw2 : IntKind.i64.wrap (2 * eminI e - 200) = 2 * eminI e - 200 := by rw [Go.IntWalk.i64_left]; exact w64_of (by unfold eminI; omega) (by unfold eminI; omega)
      have hw3 : IntKind.i64.wrap (2 * (bias e : Int)) = 2 * (bias e : Int) := by rw [Go.IntWalk.i64_left]; exact w64_of (by omega) (by omega)
      have HCL5 := hide HSF.out.cells
      have HCLe : Hid (∀ w', Ext W1 w' → w'.cell? ⟨w.heap.size, 0, none⟩ = some (.int .u8 (e : Int)) ∧ w'.cell? ⟨w.heap.size, 1, none⟩ = some (.int .u8 (m : Int)) ∧ w'.cell? ⟨w1.heap.size, 3, none⟩ = some (.bool vn) ∧ w'.cell? ⟨w1.heap.size, 4, none⟩ = some (.slice p1 k1 c1) ∧ w'.cell? ⟨w1.heap.size, 5, none⟩ = some (.slice p2 k2 c2)) := fun w' hx => (HSF.out.next hx).cells
      clear c4 c0 c3 HNA HHE HP hP hmb HOK HCL
      have hme : (m : Int) ≤ 52 ∧ (2 : Int) ≤ (m : Int) := ⟨H.out.m2, H.out.m1⟩
      have hbs : (bias e : Int) ≤ 1023 := by omega
      have hem1 : -1022 ≤ eminI e := by unfold eminI; omega
      have hem2 : eminI e ≤ 0 := by unfold eminI; omega
      obtain ⟨hme1, hme2⟩ := hme
      have HEXB := Box.mk hexb
      have HREB := Box.mk hreb
      have HFB := Box.mk (show sqF e m mode N D = packF e m (exS e N D) (rnS m mode N D (exS e N D) % 18446744073709551616) (smS m N D (exS e N D)) (tinyS e m mode N D) from rfl)
      rw [HFB.out, HV.out] at HPB
      clear HF HV HFB HMB hsq hlgb
      generalize tinyS e m mode N D = ty at *
      generalize exS e N D = ex at *
      generalize reS e N D = rl at *
      generalize lgS e N D = lg at *
      go_wp2_with fail
      rw [← hW1]
      clear hW1
      go_cut [9] (fun v wx => v = .int .i64 rl ∧ Hid (Ext W1 wx))
      case first =>
        go_region_held3 (fun w' => w'.cell? ⟨w.heap.size, 0, none⟩ = some (.int .u8 (e : Int)) ∧ w'.cell? ⟨w.heap.size, 1, none⟩ = some (.int .u8 (m : Int)) ∧ w'.cell? ⟨w1.heap.size, 3, none⟩ = some (.bool vn) ∧ w'.cell? ⟨w1.heap.size, 4, none⟩ = some (.slice p1 k1 c1) ∧ w'.cell? ⟨w1.heap.size, 5, none⟩ = some (.slice p2 k2 c2))
          (first | exact HCL5.out | exact HCLe.out _ (by (repeat apply Ext.drew); first | exact Ext.refl _ | assumption))
          (first
            | (go_at_call 39; refine (HEM.out _).mono ?_; rintro r w3 ⟨rfl, hx3⟩; have hE3 : Ext W1 w3 := Ext.trans (by (repeat apply Ext.drew); first | exact Ext.refl _ | assumption) hx3; clear hx3)
            | (go_at_call 40; refine (HEX.out _).mono ?_; rintro r w4 ⟨rfl, hx4⟩; have hE4 : Ext W1 w4 := Ext.trans (by (repeat apply Ext.drew); first | exact Ext.refl _ | assumption) hx4; clear hx4)
            | (go_at_call 38; refine (HLG.out _ _ _ (HSF.out.nn.ext (by (repeat apply Ext.drew); first | exact Ext.refl _ | assumption)) (HSF.out.nd.ext (by (repeat apply Ext.drew); first | exact Ext.refl _ | assumption))).mono ?_; rintro r w5 ⟨rfl, hx5⟩; have hE5 : Ext W1 w5 := Ext.trans (by (repeat apply Ext.drew); first | exact Ext.refl _ | assumption) hx5; clear hx5))
        all_goals go_wp2_with fail
        all_goals go_meet
        all_goals exact ⟨rfl, show Ext _ _ by (repeat apply Ext.drew); assumption⟩
      case rest =>
        obtain ⟨rfl, HXc⟩ := hcut
        have HS2 := hide (HSF.out.next HXc.out)
        clear HXc HSF HCL5 HCLe HC HX HLG HEX hre hw1 hw2 hw3 a0 a1 t0 t3 t4
        obtain ⟨a0, a1, b3, b4, b5⟩ := HS2.out.cells
        go_wp2_with fail
        refine (HEM.out _).mono ?_
        rintro _ w6 ⟨rfl, hx6⟩
        have HS6 := hide (HS2.out.next hx6)
        clear hx6 HS2 a0 a1 b3 b4 b5
        obtain ⟨a0, a1, b3, b4, b5⟩ := HS6.out.cells
        have HRR := hide (HRT.out vn ex (by omega) (by omega) (.agg #[.bool vn, .slice p1 k1 c1, .slice p2 k2 c2]) w6 ⟨_, _, _, _, _, _, rfl, HS6.out.nn, HS6.out.nd⟩)
        generalize rtH (rfS m N D ex) (shN N (2 * ((m : Int) - ex))) (shD D (2 * ((m : Int) - ex))) = half at *
        generalize smS m N D ex = sm at *
        generalize rnS m mode N D ex = RN at *
        go_wp2_with fail
        refine HRR.out.mono ?_
        rintro _ w7 ⟨⟨_, rfl, vR, rfl, hvR⟩, hx7⟩
        clear hexA hexB HRR
        obtain ⟨W7, hW7⟩ : ∃ W7, W7 = w7.alloc (.cells #[.int .i8 half, .bool sm] 68) := ⟨_, rfl⟩
        have hxb : Ext w7 W7 := by rw [hW7]; exact (Ext.refl w7).alloc _ _
        have HS7 := hide (HS6.out.next (hx7.trans hxb))
        have HVR := hide (hvR.ext hxb)
        have g0 : W7.cell? ⟨w7.heap.size, 0, none⟩ = some (.int .i8 half) := by rw [hW7]; simp [go_sem]
        have g1 : W7.cell? ⟨w7.heap.size, 1, none⟩ = some (.bool sm) := by rw [hW7]; simp [go_sem]
        clear a0 a1 b3 b4 b5
        obtain ⟨a0, a1, b3, b4, b5⟩ := (HS6.out.next hx7).cells
        have hz7 : w.heap.size < w7.heap.size := World.block_lt_of_cell? _ _ a0
        have hz8 : w1.heap.size < w7.heap.size := World.block_lt_of_cell? _ _ b3
        clear hx7 hxb hvR HS6
        go_wp2_with fail
        rw [← hW7]
        clear hW7
        refine (HEM.out _).mono ?_
        rintro _ w8 ⟨rfl, hx8⟩
        have HS8 := hide (HS7.out.next hx8)
        have HVR8 := hide (HVR.out.ext hx8)
        have g2 := hx8.cell g0
        have g3 := hx8.cell g1
        clear hx8 HS7 HVR g0 g1 a0 a1 b3 b4 b5
        obtain ⟨a0, a1, b3, b4, b5⟩ := HS8.out.cells
        go_wp2_with fail
        refine (HEM.out _).mono ?_
        rintro _ w9 ⟨rfl, hx9⟩
        have HS9 := hide (HS8.out.next hx9)
        have HVR9 := hide (HVR8.out.ext hx9)
        have g0 := hx9.cell g2
        have g1 := hx9.cell g3
        clear hx9 HS8 HVR8 g2 g3 a0 a1 b3 b4 b5
        obtain ⟨a0, a1, b3, b4, b5⟩ := HS9.out.cells
        go_upto_if 85 with fail
        go_cut [13] (fun v wx => v = .bool ty ∧ Hid (Ext w9 wx))
        case first =>
          by_cases hsub : rl = eminI e - 1
          · have t1 : (rl == eminI e - 1) = true := by rw [hsub]; simp
            have hty := HTY.out
            rw [if_pos hsub] at hty
            have HRR := hide (HRT.out vn rl (by omega) (by omega) (.agg #[.bool vn, .slice p1 k1 c1, .slice p2 k2 c2]) w9 ⟨_, _, _, _, _, _, rfl, HS9.out.nn, HS9.out.nd⟩)
            generalize rtH (rfS m N D rl) (shN N (2 * ((m : Int) - rl))) (shD D (2 * ((m : Int) - rl))) = half2 at *
            generalize smS m N D rl = sm2 at *
            generalize rnS m mode N D rl = R2 at *
            have HT := Box.mk hty
            have hwm : IntKind.i64.wrap ((m : Int) + 1) = (m : Int) + 1 := by rw [Go.IntWalk.i64_left]; exact w64_of (by omega) (by omega)
            have hwm0 : IntKind.i64.wrap (m : Int) = (m : Int) := by rw [Go.IntWalk.i64_left]; exact w64_of (by omega) (by omega)
            have HWM := Box.mk hwm0
            have HWM2 := Box.mk hwm
            clear hsub hty HTY hwm0 hwm
            go_wp2_with fail
            refine HRR.out.mono ?_
            rintro _ w10 ⟨⟨_, rfl, v2, rfl, hv2⟩, hx10⟩
            obtain ⟨W10, hW10⟩ : ∃ W10, W10 = w10.alloc (.cells #[.int .i8 half2, .bool sm2] 68) := ⟨_, rfl⟩
            have hxc : Ext w10 W10 := by rw [hW10]; exact (Ext.refl w10).alloc _ _
            have HX10 := hide (hx10.trans hxc)
            have HC10 : Hid (Cells2 W10 w.heap.size e m) := ⟨HX10.out.cell a0, HX10.out.cell a1⟩
            have HBL := hide (fun wx (hx : Ext W10 wx) => bitLen_any R2 v2 wx (hv2.ext (hxc.trans hx)))
            clear hx10 hxc hv2 HRR a0 a1 b3 b4 b5 g0 g1
            go_wp2_with fail
            rw [← hW10]
            clear hW10
            go_region_held3 (fun w' => Cells2 w' w.heap.size e m)
              (first | exact HC10.out | exact HC10.out.ext (by (repeat apply Ext.drew); first | exact Ext.refl _ | assumption))
              (first
                | (go_at_call 42; refine (HBL.out _ (by (repeat apply Ext.drew); exact Ext.refl _)).mono ?_; rintro r w11 ⟨rfl, rfl⟩))
            all_goals go_wp2_with fail
            all_goals go_meet
            all_goals refine ⟨?_, show Ext _ _ from HX10.out.trans (by (repeat apply Ext.drew); exact Ext.refl _)⟩
            all_goals rw [HT.out]
            all_goals congr 1
            all_goals rw [Bool.eq_iff_iff]
            all_goals simp only [beq_iff_eq, decide_eq_true_eq]
            all_goals rw [HWM.out, HWM2.out]
          · have t1 : (rl == eminI e - 1) = false := by rw [beq_eq_false_iff_ne]; exact hsub
            have hty := HTY.out
            rw [if_neg hsub] at hty
            have HT := Box.mk hty
            clear hsub hty HTY
            go_wp2_with fail
            go_meet
            exact ⟨by rw [HT.out], Ext.refl w9⟩
        case rest =>
          obtain ⟨rfl, HXc⟩ := hcut
          have HSE := hide (HS9.out.next HXc.out)
          have HVE := hide (HVR9.out.ext HXc.out)
          have HGE : Hid (wc.cell? ⟨w7.heap.size, 0, none⟩ = some (.int .i8 half) ∧ wc.cell? ⟨w7.heap.size, 1, none⟩ = some (.bool sm)) := ⟨HXc.out.cell g0, HXc.out.cell g1⟩
          have HTU := hide (fun wx (hx : Ext wc wx) => toU64_any RN vR wx (HVE.out.ext hx))
          have HPK := hide (fun wx => pack_any e m H.out mode false ex HEXB.out.1 (Int.le_of_lt HEXB.out.2) (RN % 18446744073709551616) HM.out half sm ty wx)
          have hP := HPB.out
          have HH : Hid (∀ w', Ext wc w' → w'.cell? ⟨w.heap.size, 0, none⟩ = some (.int .u8 (e : Int)) ∧ w'.cell? ⟨w.heap.size, 1, none⟩ = some (.int .u8 (m : Int)) ∧ w'.cell? ⟨w7.heap.size, 0, none⟩ = some (.int .i8 half) ∧ w'.cell? ⟨w7.heap.size, 1, none⟩ = some (.bool sm)) := fun w' hx => ⟨hx.cell HSE.out.a0, hx.cell HSE.out.a1, hx.cell HGE.out.1, hx.cell HGE.out.2⟩
          generalize packV e m mode false ex (RN % 18446744073709551616) = pv at *
          generalize packF e m ex (RN % 18446744073709551616) sm ty = pf at *
          have HP2 := Box.mk hP
          generalize ((RN % 18446744073709551616 : Nat) : Int) = ru at *
          clear HPB HM HXc a0 a1 b3 b4 b5 g0 g1 HVE HVR9 HS9 hP HRT HEM hexb hreb HTY HGE
          go_wp2_with fail
          go_region_held3 (fun w' => w'.cell? ⟨w.heap.size, 0, none⟩ = some (.int .u8 (e : Int)) ∧ w'.cell? ⟨w.heap.size, 1, none⟩ = some (.int .u8 (m : Int)) ∧ w'.cell? ⟨w7.heap.size, 0, none⟩ = some (.int .i8 half) ∧ w'.cell? ⟨w7.heap.size, 1, none⟩ = some (.bool sm))
            (first | exact HH.out _ (Ext.refl _) | exact HH.out _ (by (repeat apply Ext.drew); first | exact Ext.refl _ | assumption))
            (first
              | (go_at_call 44; refine (HTU.out _ (by (repeat apply Ext.drew); exact Ext.refl _)).mono ?_; rintro r wu ⟨rfl, rfl⟩)
              | (go_at_call 43; refine (HPK.out _).mono ?_; rintro r w12 ⟨rfl, hx12⟩; have hE12 : Ext wc w12 := Ext.trans (by (repeat apply Ext.drew); first | exact Ext.refl _ | assumption) hx12; clear hx12))
          all_goals have hP := HP2.out
          all_goals subst hP
          all_goals go_wp2_with fail
          all_goals simp [bodyPost, results, Oacg.results8, go_sem]
          all_goals exact HSE.out.ext.trans (by (repeat apply Ext.drew); assumption)

end Go.Proofs.YgcoacGreat
