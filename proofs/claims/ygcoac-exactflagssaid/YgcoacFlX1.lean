/-
  law.ExactFlags, op & 3 = 1.
-/
import Derived.Test.YgcoacFlBin
namespace Go.Proofs.Ygcoac
open Go.RowKit
set_option linter.unusedSimpArgs false
set_option linter.unusedVariables false

set_option maxRecDepth 100000 in
set_option maxHeartbeats 4000000 in
theorem exactFlags_1 (e m : Nat) (h : Fm e m) (mode : Int) (op : Int) (hop : Go.bits BinOp.and IntKind.u8 op 3 = 1) (x y : Nat) (hx : x < 18446744073709551616) (hy : y < 18446744073709551616) (w : World) :
    Calls Oacg.prog 7 #[.agg #[.int .u8 (e : Int), .int .u8 (m : Int)], .int .u8 mode, .int .u8 op, .int .u64 (x : Int), .int .u64 (y : Int)] w fun r w' => r = .returned (.bool true) ∧ Ext w w' := by
  have hok := okB_fm h
  have HBF := hide (bin1F_any e m h mode x y hx hy)
  have HBB := hide (bin1_any e m h mode x y hx hy)
  have HKX := hide (classOf_any e m h x hx)
  have HKY := hide (classOf_any e m h y hy)
  have HNF := hide (nanFlags_any e m h x y hx hy)
  have HNO := hide (nanOf_any e m h)
  have HVX := hide (value_any e m h x hx)
  have HVY := hide (value_any e m h y hy)
  have HOP := hide (fun va vb wx hva hvb => sumFrac_any (vNeg e m x) (!vNeg e m y) (vNum e m x) (vDen e m x) (vNum e m y) (vDen e m y) 100 (vNum_lt h x) (vDen_lt h x) (vNum_lt h y) (vDen_lt h y) (by decide) va vb wx hva hvb)
  have HWC : Hid (cls e m x < 3 → cls e m y < 3 → WantC e m mode (sNeg (vNeg e m x) (vNum e m x) (vDen e m x) (!vNeg e m y) (vNum e m y) (vDen e m y)) (sNum (vNeg e m x) (vNum e m x) (vDen e m x) (!vNeg e m y) (vNum e m y) (vDen e m y)) (vDen e m x * vDen e m y) (fsubP e m mode x y)) := fun q1 q2 => fsub_want h mode x y q1 q2
  have HL := fsub_law h mode x y 1 (by decide)
  have L1 := Box.mk HL.nan
  have L2 := Box.mk HL.inv
  have L3 := Box.mk HL.inf
  have L4 := Box.mk HL.zero
  have C1 := Box.mk (cls_cases e m x)
  have C2 := Box.mk (cls_cases e m y)
  clear HL hx hy h
  obtain ⟨pv, hpv⟩ : ∃ pv, (fsubP e m mode x y).1 = pv := ⟨_, rfl⟩
  obtain ⟨pf, hpf⟩ : ∃ pf, (fsubP e m mode x y).2 = pf := ⟨_, rfl⟩
  unfold WantC at HWC
  rw [hpv] at L2 L3 L4 HBF HBB HWC
  rw [hpf] at L1 L2 L3 L4 HBF HWC
  clear hpv hpf
  generalize (sNeg (vNeg e m x) (vNum e m x) (vDen e m x) (!vNeg e m y) (vNum e m y) (vDen e m y)) = rn at *
  generalize (sNum (vNeg e m x) (vNum e m x) (vDen e m x) (!vNeg e m y) (vNum e m y) (vDen e m y)) = rN at *
  generalize (vDen e m x * vDen e m y) = rD at *
  generalize cls e m x = cx at *
  generalize cls e m y = cy at *
  generalize heardF e m x y = hF at *
  generalize nanV e m = nV at *
  generalize vNum e m x = Nx at *
  generalize vNum e m y = Ny at *
  generalize vDen e m x = Dx at *
  generalize vDen e m y = Dy at *
  generalize vNeg e m x = vx at *
  generalize vNeg e m y = vy at *
  obtain ⟨W0, hW0⟩ : ∃ W0, W0 = (w.alloc (.cells #[.int .u8 (e : Int), .int .u8 (m : Int)] 23)).alloc (.cells #[.int .u8 (e : Int), .int .u8 (m : Int)] 23) := ⟨_, rfl⟩
  have HC0 : Hid (Cells2 W0 w.heap.size e m) := by rw [hW0]; exact (Cells2.new w e m _).ext ((Ext.refl _).alloc _ _)
  have HX0 : Hid (Ext w W0) := by rw [hW0]; exact ((Ext.refl w).alloc _ _).alloc _ _
  go_enter Oacg.func7, Oacg.ntmps7
  go_wp2_with (first | (go_at_call 14; refine (ok_any _ _ _).mono ?_; rintro r w' ⟨rfl, rfl⟩))
  rw [← hW0]
  clear hW0
  refine (HBF.out _).mono ?_
  rintro _ w1 ⟨rfl, hx1⟩
  have HC1 := hide (HC0.out.ext hx1)
  have HX1 := hide (HX0.out.trans hx1)
  clear hx1 HC0 HX0 HBF hok
  obtain ⟨a0, a1⟩ := HC1.out
  go_wp2_with fail
  refine (HBB.out _).mono ?_
  rintro _ w2 ⟨rfl, hx2⟩
  have HC2 := hide (HC1.out.ext hx2)
  have HX2 := hide (HX1.out.trans hx2)
  clear hx2 HC1 HX1 HBB a0 a1
  have tok1 : True := trivial
  go_wp2_with fail
  go_cut [13, 14] (fun v13 v14 wx => v13 = .int .i8 (cx : Int) ∧ v14 = .int .i8 (cy : Int) ∧ Hid (Ext w2 wx))
  case first =>
    go_region_held3 (fun w' => Cells2 w' w.heap.size e m)
      (first | exact HC2.out | exact HC2.out.ext (by (repeat apply Ext.drew); first | exact Ext.refl _ | assumption))
      (first
        | (go_at_call 16; have _t := tok1; refine (HKX.out _).mono ?_; clear tok1; rintro r w3 ⟨rfl, hx3⟩; have hE : Ext w2 w3 := Ext.trans (by (repeat apply Ext.drew); first | exact Ext.refl _ | assumption) hx3; clear hx3)
        | (go_at_call 16; refine (HKY.out _).mono ?_; rintro r w4 ⟨rfl, hx4⟩; have hE4 : Ext w2 w4 := Ext.trans (by (repeat apply Ext.drew); first | exact Ext.refl _ | assumption) hx4; clear hx4))
    all_goals go_wp2_with fail
    all_goals go_meet
    all_goals exact ⟨rfl, rfl, show Ext _ _ by (repeat apply Ext.drew); assumption⟩
  case rest =>
    obtain ⟨rfl, rfl, HXc⟩ := hcut
    have HC3 := hide (HC2.out.ext HXc.out)
    have HX3 := hide (HX2.out.trans HXc.out)
    clear HC2 HX2 HXc HKX HKY tok1
    obtain ⟨a0, a1⟩ := HC3.out
    by_cases hN1 : cx = 4
    · have b1 : ((cx : Int) == 4) = true := by rw [hN1]; rfl
      have hq := L1.out (.inl hN1)
      subst hq
      clear hN1
      go_wp2_with fail
      refine (HNF.out _).mono ?_
      rintro _ w4 ⟨rfl, hx4⟩
      have HX4 := hide (HX3.out.trans hx4)
      clear hx4
      go_wp2_with fail
      go_ret
      exact ⟨by simp, HX4.out⟩
    have b1 : ((cx : Int) == 4) = false := by rw [beq_eq_false_iff_ne]; omega
    by_cases hN2 : cy = 4
    · have b2 : ((cy : Int) == 4) = true := by rw [hN2]; rfl
      have hq := L1.out (.inr hN2)
      subst hq
      clear hN1 hN2
      go_wp2_with fail
      refine (HNF.out _).mono ?_
      rintro _ w4 ⟨rfl, hx4⟩
      have HX4 := hide (HX3.out.trans hx4)
      clear hx4
      go_wp2_with fail
      go_ret
      exact ⟨by simp, HX4.out⟩
    have b2 : ((cy : Int) == 4) = false := by rw [beq_eq_false_iff_ne]; omega
    have H4 : Box (¬ (cx = 4 ∨ cy = 4)) := ⟨by omega⟩
    have HNA := Box.mk hN1
    have HNB := Box.mk hN2
    clear hN1 hN2 HNF
    go_wp2_with fail
    refine (HNO.out _).mono ?_
    rintro _ w4 ⟨rfl, hx4⟩
    have HC4 := hide (HC3.out.ext hx4)
    have HX4 := hide (HX3.out.trans hx4)
    clear hx4 HC3 HX3 a0 a1 HNO
    obtain ⟨a0, a1⟩ := HC4.out
    by_cases hg : pv = nV
    · have g1 : ((pv : Int) == (nV : Int)) = true := by rw [hg]; simp
      have hq := L2.out H4.out hg
      subst hq
      clear hg
      go_wp2_with fail
      go_ret
      exact ⟨by simp, HX4.out⟩
    have g1 : ((pv : Int) == (nV : Int)) = false := by rw [beq_eq_false_iff_ne]; omega
    have HG := Box.mk hg
    clear hg
    by_cases hI1 : cx = 3
    · have i1 : ((cx : Int) == 3) = true := by rw [hI1]; rfl
      have hq := L3.out H4.out HG.out (.inl hI1)
      subst hq
      clear hI1
      go_wp2_with fail
      go_ret
      exact ⟨by simp, HX4.out⟩
    have i1 : ((cx : Int) == 3) = false := by rw [beq_eq_false_iff_ne]; omega
    by_cases hI2 : cy = 3
    · have i2 : ((cy : Int) == 3) = true := by rw [hI2]; rfl
      have hq := L3.out H4.out HG.out (.inr hI2)
      subst hq
      clear hI1 hI2
      go_wp2_with fail
      go_ret
      exact ⟨by simp, HX4.out⟩
    have i2 : ((cy : Int) == 3) = false := by rw [beq_eq_false_iff_ne]; omega
    have HW := hide (HWC.out (by have := C1.out; have := HNA.out; omega) (by have := C2.out; have := HNB.out; omega))
    clear hI1 hI2 L1 L2 L3 L4 C1 C2 H4 HG HNA HNB HWC
    go_wp2_with fail
    refine (HVX.out _).mono ?_
    rintro _ w5 ⟨⟨_, rfl, p1, k1, c1, p2, k2, c2, rfl, hn1, hd1⟩, hx5⟩
    obtain ⟨W5, hW5⟩ : ∃ W5, W5 = w5.alloc (.cells #[.bool vx, .slice p1 k1 c1, .slice p2 k2 c2] 37) := ⟨_, rfl⟩
    have hxa : Ext w5 W5 := by rw [hW5]; exact (Ext.refl w5).alloc _ _
    have HC5 := hide (HC4.out.ext hx5)
    have HX5 := hide (HX4.out.trans (hx5.trans hxa))
    have HC5' := hide (HC5.out.ext hxa)
    have HR5 : Hid (CellsR W5 w5.heap.size vx (.slice p1 k1 c1) (.slice p2 k2 c2)) := by rw [hW5]; exact ⟨by simp, by simp, by simp⟩
    have HN1 := hide (hn1.ext hxa)
    have HD1 := hide (hd1.ext hxa)
    clear a0 a1 hx5 hxa hn1 hd1 HC4 HX4
    obtain ⟨a0, a1⟩ := HC5.out
    have hz5 : w.heap.size < w5.heap.size := World.block_lt_of_cell? _ _ a0
    go_wp2_with fail
    rw [← hW5]
    refine (HVY.out _).mono ?_
    rintro _ w6 ⟨⟨_, rfl, p3, k3, c3, p4, k4, c4, rfl, hn2, hd2⟩, hx6⟩
    obtain ⟨W6, hW6⟩ : ∃ W6, W6 = (w6.alloc (.cells #[.bool vy, .slice p3 k3 c3, .slice p4 k4 c4] 37)).alloc (.cells #[.bool false, .slice none 0 0, .slice none 0 0] 37) := ⟨_, rfl⟩
    have hxb : Ext w6 W6 := by rw [hW6]; exact ((Ext.refl w6).alloc _ _).alloc _ _
    have HC6 := hide (HC5'.out.ext hx6)
    have HX6 := hide (HX5.out.trans (hx6.trans hxb))
    have HR6 := hide (HR5.out.ext hx6)
    have HCW := hide (HC6.out.ext hxb)
    have HRX : Hid (∀ wx, Ext W6 wx → RatAt wx (.agg #[.bool vx, .slice p1 k1 c1, .slice p2 k2 c2]) vx Nx Dx) := fun wx hx => ⟨_, _, _, _, _, _, rfl, HN1.out.ext (hx6.trans (hxb.trans hx)), HD1.out.ext (hx6.trans (hxb.trans hx))⟩
    have HRY : Hid (∀ wx ng, Ext W6 wx → RatAt wx (.agg #[.bool ng, .slice p3 k3 c3, .slice p4 k4 c4]) ng Ny Dy) := fun wx ng hx => ⟨_, _, _, _, _, _, rfl, hn2.ext (hxb.trans hx), hd2.ext (hxb.trans hx)⟩
    have HZR : Hid (CellsR W6 (w6.heap.size + 1) false (.slice none 0 0) (.slice none 0 0)) := by rw [hW6]; exact ⟨by simp [go_sem], by simp [go_sem], by simp [go_sem]⟩
    have HZY : Hid (CellsR W6 w6.heap.size vy (.slice p3 k3 c3) (.slice p4 k4 c4)) := by rw [hW6]; exact ⟨by simp [go_sem], by simp [go_sem], by simp [go_sem]⟩
    have HZX := hide (HR6.out.ext hxb)
    have HZF : Hid (∀ i, W6.frozen? ⟨w6.heap.size + 1, i, none⟩ = false) := fun i => by rw [hW6]; simp [go_sem]
    have hlw : w.heap.size ≤ w6.heap.size + 1 := by have := HX5.out.size; have := hx6.size; omega
    clear a0 a1 hW5 hx6 hxb hn2 hd2 HC5 HC5' HX5 HR5 HN1 HD1 hz5
    obtain ⟨a0, a1⟩ := HC6.out
    obtain ⟨x0, x1, x2⟩ := HR6.out
    have hz6 : w.heap.size < w6.heap.size := World.block_lt_of_cell? _ _ a0
    have hz7 : w5.heap.size < w6.heap.size := World.block_lt_of_cell? _ _ x0
    have hz6' : w.heap.size < w6.heap.size + 1 := by omega
    have hz7' : w5.heap.size < w6.heap.size + 1 := by omega
    have HH : Hid (∀ w', Ext W6 w' → Cells6 w' w5.heap.size w6.heap.size (.bool vx) (.slice p1 k1 c1) (.slice p2 k2 c2) (.bool vy) (.slice p3 k3 c3) (.slice p4 k4 c4)) := fun w' hx => ⟨hx.cell HZX.out.1, hx.cell HZX.out.2.1, hx.cell HZX.out.2.2, hx.cell HZY.out.1, hx.cell HZY.out.2.1, hx.cell HZY.out.2.2⟩
    have hne1 : w6.heap.size + 1 ≠ w5.heap.size := by omega
    have hne2 : w6.heap.size + 1 ≠ w6.heap.size := by omega
    obtain ⟨g0, g1', g2⟩ := HZR.out
    have gf := HZF.out
    go_wp2_with fail
    rw [← hW6]
    clear hW6
    go_region_held3 (fun w' => Cells6 w' w5.heap.size w6.heap.size (.bool vx) (.slice p1 k1 c1) (.slice p2 k2 c2) (.bool vy) (.slice p3 k3 c3) (.slice p4 k4 c4))
      (first | exact HH.out _ (Ext.refl _) | exact HH.out _ (by (repeat apply Ext.drew); first | exact Ext.refl _ | assumption) | exact held6_set (held6_set (held6_set (HH.out _ (by (repeat apply Ext.drew); assumption)) hne1 hne2) hne1 hne2) hne1 hne2)
      (first
        | (go_at_call 48; refine (negFrac_any _ _ _ _ _ _ _ _).mono ?_; rintro r w7 ⟨rfl, hx7⟩; have hE7 : Ext W6 w7 := Ext.trans (by (repeat apply Ext.drew); first | exact Ext.refl _ | assumption) hx7; clear hx7)
        | (go_at_call 47; refine (HOP.out _ _ _ (HRX.out _ (by (repeat apply Ext.drew); first | exact Ext.refl _ | assumption)) (HRY.out _ _ (by (repeat apply Ext.drew); first | exact Ext.refl _ | assumption))).mono ?_; rintro r w8 ⟨⟨v8, rfl, p5, k5, c5, p6, k6, c6, rfl, hn8, hd8⟩, hx8⟩; have hE8 : Ext W6 w8 := Ext.trans (by (repeat apply Ext.drew); first | exact Ext.refl _ | assumption) hx8; have HN8 := hide hn8; have HD8 := hide hd8; replace g0 := hE8.cell g0; replace g1' := hE8.cell g1'; replace g2 := hE8.cell g2; replace gf : ∀ i, w8.frozen? ⟨w6.heap.size + 1, i, none⟩ = false := (fun i => by rw [hE8.froz]; exact gf i); clear hn8 hd8 hx8))
    have hKp := keeps_rat (w := w8) (b := w6.heap.size + 1) g0 g1' g2 rfl rfl rfl (.bool rn) (.slice p5 k5 c5) (.slice p6 k6 c6)
    obtain ⟨W9, hW9⟩ : ∃ W9, W9 = ((w8.setCell ⟨w6.heap.size + 1, 0, none⟩ (.bool rn)).setCell ⟨w6.heap.size + 1, 1, none⟩ (.slice p5 k5 c5)).setCell ⟨w6.heap.size + 1, 2, none⟩ (.slice p6 k6 c6) := ⟨_, rfl⟩
    have HX9 : Hid (Ext w W9) := by rw [hW9]; exact (((HX6.out.trans hE8).setCell hlw _).setCell hlw _).setCell hlw _
    have HRT : Hid (RatAt W9 (.agg #[.bool rn, .slice p5 k5 c5, .slice p6 k6 c6]) rn rN rD) := by rw [hW9]; exact ⟨_, _, _, _, _, _, rfl, hKp _ _ HN8.out, hKp _ _ HD8.out⟩
    obtain ⟨f0, f1⟩ := HCW.out.ext hE8
    have hne : ¬ w6.heap.size + 1 = w.heap.size := by omega
    have HWW := hide (HW.out _ W9 HRT.out)
    clear hKp a0 a1 x0 x1 x2
    go_wp2_with fail
    rw [← hW9]
    refine HWW.out.mono ?_
    rintro _ w10 ⟨rfl, hx10⟩
    have HX10 := hide (HX9.out.trans hx10)
    clear hx10 hW9
    go_wp2_with fail
    go_ret
    exact ⟨by simp, HX10.out⟩
end Go.Proofs.Ygcoac
