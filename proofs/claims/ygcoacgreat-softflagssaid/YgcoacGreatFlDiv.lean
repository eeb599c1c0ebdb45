/-
  exact.DivFlags, Div.
-/
import Derived.Test.YgcoacGreatFlO
namespace Go.Proofs.YgcoacGreat
open Go.RowKit
set_option linter.unusedSimpArgs false
set_option linter.unusedVariables false
attribute [local go_sem] nil_eq nil_ne

def fdivP (e m : Nat) (mode : Int) (a b : Nat) : Nat × Int :=
  if cls e m a = 4 ∨ cls e m b = 4 then (nanV e m, heardF e m a b)
  else if (cls e m a = 3 ∧ cls e m b = 3) ∨ (cls e m a = 0 ∧ cls e m b = 0) then (nanV e m, 1)
  else if cls e m a = 3 then (infV e m (!(ngB e m a == ngB e m b)), 0)
  else if cls e m b = 0 then (infV e m (!(ngB e m a == ngB e m b)), 2)
  else if cls e m b = 3 then (sg e m (!(ngB e m a == ngB e m b)), 0)
  else (rndV e m mode (!(ngB e m a == ngB e m b)) (vNum e m a * vDen e m b) (vDen e m a * vNum e m b), rndF e m mode (!(ngB e m a == ngB e m b)) (vNum e m a * vDen e m b) (vDen e m a * vNum e m b))

set_option maxRecDepth 20000 in
set_option maxHeartbeats 4000000 in
theorem fdivFlags_any (e m : Nat) (h : Fm e m) (mode : Int) (x y : Nat) (hx : x < 18446744073709551616) (hy : y < 18446744073709551616) (w : World) :
    Calls Oacg.prog 26 #[.agg #[.int .u8 (e : Int), .int .u8 (m : Int)], .int .u8 mode, .int .u64 (x : Int), .int .u64 (y : Int)] w fun r w' => r = .returned (.tuple #[.int .u64 ((fdivP e m mode x y).1 : Int), .int .u8 (fdivP e m mode x y).2]) ∧ Ext w w' := by
  have H := hide h
  have hok := okB_fm h
  have HOx := hide (open_any e m h x hx)
  have HOy := hide (open_any e m h y hy)
  have hbd : vNum e m x < W 100 ∧ vDen e m x < W 100 ∧ vNum e m y < W 100 ∧ vDen e m y < W 100 := ⟨vNum_lt h x, vDen_lt h x, vNum_lt h y, vDen_lt h y⟩
  have HNA := hide (theNaN_any e m h)
  have HHE := hide (heard_any e m h x y hx hy)
  have HZE := hide (fun b => zero_any e m h b)
  have HIN := hide (fun b => inf_any e m h b)
  have HRF := hide (fun neg n d v wx (q1 : n < W 300) (q2 : d < W 300) (q3 : 0 < d) hv => roundFlags_any e m h mode neg n d 300 300 q1 q2 (by decide) (by decide) q3 v wx hv)
  unfold RndR at HRF
  have HDP := Box.mk (show 0 < vDen e m x ∧ 0 < vDen e m y from ⟨vDen_pos e m x, vDen_pos e m y⟩)
  have HCX := Box.mk (cls_cases e m x)
  have HCY := Box.mk (cls_cases e m y)
  have HYP := Box.mk (vNum_pos h y)
  obtain ⟨P, hP⟩ : ∃ P, fdivP e m mode x y = P := ⟨_, rfl⟩
  rw [hP]
  unfold fdivP at hP
  obtain ⟨h1, h2, h3, h4⟩ := h
  clear hx hy
  generalize msk e m x = bxn at *
  generalize msk e m y = byn at *
  generalize ngB e m x = nx at *
  generalize ngB e m y = ny at *
  generalize cls e m x = cx at *
  generalize cls e m y = cy at *
  generalize vNeg e m x = vx at *
  generalize vNeg e m y = vy at *
  generalize vNum e m x = Nx at *
  generalize vNum e m y = Ny at *
  generalize vDen e m x = Dx at *
  generalize vDen e m y = Dy at *
  generalize heardF e m x y = hF at *
  generalize nanV e m = nV at *
  have HP := Box.mk hP
  have HBd := Box.mk hbd
  clear hP hbd
  obtain ⟨W0, hW0⟩ : ∃ W0, W0 = ((w.alloc (.cells #[.int .u8 (e : Int), .int .u8 (m : Int)] 23)).alloc (.cells #[.int .u8 (e : Int), .int .u8 (m : Int)] 23)) := ⟨_, rfl⟩
  have d0 : W0.cell? ⟨w.heap.size, 0, none⟩ = some (.int .u8 (e : Int)) := by rw [hW0]; simp [go_sem]
  have d1 : W0.cell? ⟨w.heap.size, 1, none⟩ = some (.int .u8 (m : Int)) := by rw [hW0]; simp [go_sem]
  have hy1 : w.heap.size < W0.heap.size := by rw [hW0]; simp; omega
  have hy1' : w.heap.size < W0.heap.size + 1 := by omega
  have m0 : ¬ W0.heap.size = w.heap.size := by omega
  have m0' : ¬ W0.heap.size + 1 = w.heap.size := by omega
  have HW0 : Hid (Ext w W0) := by rw [hW0]; exact ((Ext.refl _).alloc _ _).alloc _ _
  have HD0 : Hid (Cells2 W0 w.heap.size e m) := ⟨d0, d1⟩
  go_enter Oacg.func26, Oacg.ntmps26
  go_wp2_with (first | (go_at_call 4; refine (ok_any _ _ _).mono ?_; rintro r w' ⟨rfl, rfl⟩))
  rw [← hW0]
  clear hW0
  have tok1 : True := trivial
  obtain ⟨bx, hbx⟩ : ∃ bx : Int, bx = (bxn : Int) := ⟨_, rfl⟩
  obtain ⟨by_, hby⟩ : ∃ by_ : Int, by_ = (byn : Int) := ⟨_, rfl⟩
  rw [← hbx] at HOx
  rw [← hby] at HOy
  have HBX := Box.mk hbx
  have HBY := Box.mk hby
  clear hbx hby
  go_cut [10, 11] (fun v7 v8 wx => ∃ B1 B2 p1 k1 c1 p2 k2 c2 p3 k3 c3 p4 k4 c4, v7 = .pointer (some ⟨B1, 0, none⟩) ∧ v8 = .pointer (some ⟨B2, 0, none⟩) ∧ B1 ≠ B2 ∧ W0.heap.size ≤ B1 ∧ W0.heap.size ≤ B2 ∧ Hid (Ext W0 wx) ∧
      Hid (NatAt wx (.slice p1 k1 c1) Nx ∧ NatAt wx (.slice p2 k2 c2) Dx ∧ NatAt wx (.slice p3 k3 c3) Ny ∧ NatAt wx (.slice p4 k4 c4) Dy) ∧
      Op6 wx B1 (.int .u64 bx) (.bool nx) (.int .i8 (cx : Int)) (.bool vx) (.slice p1 k1 c1) (.slice p2 k2 c2) ∧ Op6 wx B2 (.int .u64 by_) (.bool ny) (.int .i8 (cy : Int)) (.bool vy) (.slice p3 k3 c3) (.slice p4 k4 c4))
  case first =>
    go_region_held3 (fun w' => w'.cell? ⟨w.heap.size, 0, none⟩ = some (.int .u8 (e : Int)) ∧ w'.cell? ⟨w.heap.size, 1, none⟩ = some (.int .u8 (m : Int)))
      (first | (simp [go_sem, d0, d1, hy1, hy1']; done) | (simp [go_sem, e0, e1, y1, y1']; done) | (simp [go_sem, g0, g1, y2, y2', m0, m0', m1, m1']; done))
      (first
        | (go_at_call 36; have _t := tok1; refine (HOx.out _).mono ?_; rintro r w1 ⟨⟨p1, k1, c1, p2, k2, c2, rfl, hn1, hd1⟩, hx1⟩; clear tok1; have HX1 : Hid (Ext W0 w1) := Ext.trans (by (repeat (first | apply Ext.drew | apply Ext.alloc)); exact Ext.refl _) hx1; have HN1 := hide hn1; have HD1 := hide hd1; obtain ⟨q1, f1, z1⟩ := hx1.rule; obtain ⟨y1, y1'⟩ := lt2 (Nat.lt_of_lt_of_le hy1 HX1.out.size); have e0 := HX1.out.cell d0; have e1 := HX1.out.cell d1; have m1 : ¬ w1.heap.size = w.heap.size := Nat.ne_of_gt y1; have m1' : ¬ w1.heap.size + 1 = w.heap.size := Nat.ne_of_gt y1'; (try (have hE : Ext (W0.alloc (.cells #[.int .u64 0, .bool false, .int .i8 0, .bool false, .slice none 0 0, .slice none 0 0] 62)) w1 := Ext.trans (Ext.drew (Ext.refl _)) hx1; obtain ⟨a1, a1', l1⟩ := pk1 hE; have L1 := hide l1; clear hE l1)); (try (have hE : Ext ((W0.alloc (.cells #[.int .u64 0, .bool false, .int .i8 0, .bool false, .slice none 0 0, .slice none 0 0] 62)).alloc (.cells #[.int .u64 0, .bool false, .int .i8 0, .bool false, .slice none 0 0, .slice none 0 0] 62)) w1 := Ext.trans (Ext.drew (Ext.refl _)) hx1; obtain ⟨a1, a1', l1, a2, a2', l2⟩ := pk2 hE; have L1 := hide l1; have L2 := hide l2; clear hE l1 l2)); clear hn1 hd1 hx1)
        | (go_at_call 36; refine (HOy.out _).mono ?_; rintro r w2 ⟨⟨p3, k3, c3, p4, k4, c4, rfl, hn2, hd2⟩, hx2⟩; have HX2 : Hid (Ext w1 w2) := Ext.trans (by (repeat (first | apply Ext.drew | apply Ext.alloc)); exact Ext.refl _) hx2; have HN2 := hide hn2; have HD2 := hide hd2; obtain ⟨q2, f2, z2⟩ := hx2.rule; have g0 := HX2.out.cell e0; have g1 := HX2.out.cell e1; obtain ⟨y2, y2'⟩ := lt2 (Nat.lt_of_lt_of_le y1 HX2.out.size); (try (have hE : W0.heap.size < w2.heap.size := Nat.lt_of_lt_of_le a1 HX2.out.size; obtain ⟨a3, a3'⟩ := lt2 hE; clear hE)); (try (have hE : W0.heap.size + 1 < w2.heap.size := Nat.lt_of_lt_of_le a2 HX2.out.size; obtain ⟨a4, a4'⟩ := lt2 hE; clear hE)); (try (have hE : Ext (w1.alloc (.cells #[.int .u64 0, .bool false, .int .i8 0, .bool false, .slice none 0 0, .slice none 0 0] 62)) w2 := hx2; obtain ⟨a5, a5', l3⟩ := pk1 hE; have L3 := hide l3; clear hE l3)); (try (have hE : Ext ((w1.alloc (.cells #[.int .u64 0, .bool false, .int .i8 0, .bool false, .slice none 0 0, .slice none 0 0] 62)).alloc (.cells #[.int .u64 0, .bool false, .int .i8 0, .bool false, .slice none 0 0, .slice none 0 0] 62)) w2 := hx2; obtain ⟨a5, a5', l3, a6, a6', l4⟩ := pk2 hE; have L3 := hide l3; have L4 := hide l4; clear hE l3 l4)); clear hn2 hd2 hx2))
    all_goals go_wp2_with fail
    all_goals go_meet
    all_goals
      have s1 : W0.heap.size ≤ w1.heap.size := HX1.out.size
      have s1' : W0.heap.size ≤ w1.heap.size + 1 := Nat.le_succ_of_le s1
      have s2 : w1.heap.size ≤ w2.heap.size := HX2.out.size
      have s2' : W0.heap.size ≤ w2.heap.size := Nat.le_trans s1 s2
      have s2'' : W0.heap.size ≤ w2.heap.size + 1 := Nat.le_succ_of_le s2'
      have hxx : Ext W0 w2 := HX1.out.trans HX2.out
      have hkr : Keeps w2 w2 := Keeps.refl _
      (try (have l1 : NL1 w2 W0.heap.size 0 ∧ NL1 w2 W0.heap.size 1 ∧ NL1 w2 W0.heap.size 2 ∧ NL1 w2 W0.heap.size 3 ∧ NL1 w2 W0.heap.size 4 ∧ NL1 w2 W0.heap.size 5 := six (fun i hi => R.nlExt (L1.out i hi) HX2.out)))
      (try (have l2 : NL1 w2 (W0.heap.size + 1) 0 ∧ NL1 w2 (W0.heap.size + 1) 1 ∧ NL1 w2 (W0.heap.size + 1) 2 ∧ NL1 w2 (W0.heap.size + 1) 3 ∧ NL1 w2 (W0.heap.size + 1) 4 ∧ NL1 w2 (W0.heap.size + 1) 5 := six (fun i hi => R.nlExt (L2.out i hi) HX2.out)))
      (try (have l3 : NL1 w2 w1.heap.size 0 ∧ NL1 w2 w1.heap.size 1 ∧ NL1 w2 w1.heap.size 2 ∧ NL1 w2 w1.heap.size 3 ∧ NL1 w2 w1.heap.size 4 ∧ NL1 w2 w1.heap.size 5 := six L3.out))
      (try (have l4 : NL1 w2 (w1.heap.size + 1) 0 ∧ NL1 w2 (w1.heap.size + 1) 1 ∧ NL1 w2 (w1.heap.size + 1) 2 ∧ NL1 w2 (w1.heap.size + 1) 3 ∧ NL1 w2 (w1.heap.size + 1) 4 ∧ NL1 w2 (w1.heap.size + 1) 5 := six L4.out))
      clear q1 f1 z1 q2 f2 z2 m0 m0' m1 m1' d0 d1 e0 e1 g0 g1 hy1 hy1' y1 y1' y2 y2'
      refine ⟨_, _, p1, k1, c1, p2, k2, c2, p3, k3, c3, p4, k4, c4, rfl, rfl, ?_, ?_, ?_, ?_, keeps4 ?_ ⟨HN1.out.ext HX2.out, HD1.out.ext HX2.out, HN2.out, HD2.out⟩, ?_, ?_⟩
      · omega
      · omega
      · omega
      · show Ext _ _
        simp (maxDischargeDepth := 100) only [R.extAlloc, R.extDrew, R.extSet, Nat.le_refl, Nat.le_add_right, s1, s1', s2', s2'', hxx]
      · simp (maxDischargeDepth := 100) only [R.kpAlloc, R.kpDrew, R.kpSet, R.nlSet, R.nlAlloc, R.nlDrew, World.size_setCell, World.size_alloc, R.n64, R.ni8, R.nb, R.ns, eq_self, Nat.reduceLT, Nat.lt_add_one, *]
      · (try simp (maxDischargeDepth := 100) only [Op6, R.cellSame, R.cellOffLt, R.cellOffGt, R.cellLt, R.cellGt, R.cellPast, R.cellNew, R.cellDrew, R.nlSet, R.nlAlloc, R.nlDrew, World.size_setCell, World.size_alloc, R.n64, R.ni8, R.nb, R.ns, eq_self, and_self, Nat.reduceLT, Nat.lt_add_one, *])
        all_goals (first | exact ⟨rfl, rfl, rfl, rfl, rfl, rfl⟩ | trace_state)
      · (try simp (maxDischargeDepth := 100) only [Op6, R.cellSame, R.cellOffLt, R.cellOffGt, R.cellLt, R.cellGt, R.cellPast, R.cellNew, R.cellDrew, R.nlSet, R.nlAlloc, R.nlDrew, World.size_setCell, World.size_alloc, R.n64, R.ni8, R.nb, R.ns, eq_self, and_self, Nat.reduceLT, Nat.lt_add_one, *])
        all_goals (first | exact ⟨rfl, rfl, rfl, rfl, rfl, rfl⟩ | trace_state)

  case rest =>
    obtain ⟨B1, B2, p1, k1, c1, p2, k2, c2, p3, k3, c3, p4, k4, c4, rfl, rfl, hB, hB1, hB2, HX, HN, o1, o2⟩ := hcut
    have HO1 := hide o1
    have HO2 := hide o2
    obtain ⟨o10, o11, o12, o13, o14, o15⟩ := o1
    obtain ⟨o20, o21, o22, o23, o24, o25⟩ := o2
    have HXw := hide (HW0.out.trans HX.out)
    have HCC := hide (HD0.out.ext HX.out)
    obtain ⟨a0, a1⟩ := HCC.out
    clear d0 d1 hy1 hy1' m0 m0' tok1 HX HD0 HW0
    by_cases hN1 : cx = 4
    · have b1 : ((cx : Int) == 4) = true := by rw [hN1]; rfl
      have hq := HP.out
      rw [if_pos (.inl hN1)] at hq
      subst hq
      clear hN1
      go_wp2_with fail
      go_region_held3 (fun w' => Cells2 w' w.heap.size e m)
        (first | exact HCC.out | exact HCC.out.ext (by (repeat apply Ext.drew); first | exact Ext.refl _ | assumption))
        (first
          | (go_at_call 29; refine (HNA.out _).mono ?_; rintro r w2 ⟨rfl, hx2⟩; have hE : Ext wc w2 := Ext.trans (by (repeat apply Ext.drew); first | exact Ext.refl _ | assumption) hx2; clear hx2)
          | (go_at_call 37; refine (HHE.out _).mono ?_; rintro r w3 ⟨rfl, hx3⟩; have hE3 : Ext wc w3 := Ext.trans (by (repeat apply Ext.drew); first | exact Ext.refl _ | assumption) hx3; clear hx3))
      all_goals go_wp2_with fail
      all_goals simp [bodyPost, results, Oacg.results26, go_sem]
      all_goals exact HXw.out.trans (by (repeat apply Ext.drew); assumption)
    have b1 : ((cx : Int) == 4) = false := by rw [beq_eq_false_iff_ne]; omega
    by_cases hN2 : cy = 4
    · have b2 : ((cy : Int) == 4) = true := by rw [hN2]; rfl
      have hq := HP.out
      rw [if_pos (.inr hN2)] at hq
      subst hq
      clear hN1 hN2
      go_wp2_with fail
      go_region_held3 (fun w' => Cells2 w' w.heap.size e m)
        (first | exact HCC.out | exact HCC.out.ext (by (repeat apply Ext.drew); first | exact Ext.refl _ | assumption))
        (first
          | (go_at_call 29; refine (HNA.out _).mono ?_; rintro r w2 ⟨rfl, hx2⟩; have hE : Ext wc w2 := Ext.trans (by (repeat apply Ext.drew); first | exact Ext.refl _ | assumption) hx2; clear hx2)
          | (go_at_call 37; refine (HHE.out _).mono ?_; rintro r w3 ⟨rfl, hx3⟩; have hE3 : Ext wc w3 := Ext.trans (by (repeat apply Ext.drew); first | exact Ext.refl _ | assumption) hx3; clear hx3))
      all_goals go_wp2_with fail
      all_goals simp [bodyPost, results, Oacg.results26, go_sem]
      all_goals exact HXw.out.trans (by (repeat apply Ext.drew); assumption)
    have b2 : ((cy : Int) == 4) = false := by rw [beq_eq_false_iff_ne]; omega
    have hq := HP.out
    rw [if_neg (by omega)] at hq
    have HP2 := Box.mk hq
    clear hN1 hN2 HP hq HHE
    by_cases hI1 : cx = 3
    · have i1 : ((cx : Int) == 3) = true := by rw [hI1]; rfl
      have z1 : ((cx : Int) == 0) = false := by rw [hI1]; rfl
      by_cases hI2 : cy = 3
      · have i2 : ((cy : Int) == 3) = true := by rw [hI2]; rfl
        have hq := HP2.out
        rw [if_pos (.inl ⟨hI1, hI2⟩)] at hq
        subst hq
        clear hI1 hI2
        go_wp2_with fail
        refine (HNA.out _).mono ?_
        rintro _ w2 ⟨rfl, hx2⟩
        have HX2 := hide (HXw.out.trans hx2)
        clear hx2
        go_wp2_with fail
        simp [bodyPost, results, Oacg.results26, go_sem]
        exact HX2.out
      · have i2 : ((cy : Int) == 3) = false := by rw [beq_eq_false_iff_ne]; omega
        have hq := HP2.out
        rw [if_neg (by omega), if_pos hI1] at hq
        subst hq
        clear hI1 hI2
        go_wp2_with fail
        refine (HIN.out (!(nx == ny)) _).mono ?_
        rintro _ w2 ⟨rfl, hx2⟩
        have HX2 := hide (HXw.out.trans hx2)
        clear hx2
        go_wp2_with fail
        simp [bodyPost, results, Oacg.results26, go_sem]
        exact HX2.out
    have i1 : ((cx : Int) == 3) = false := by rw [beq_eq_false_iff_ne]; omega
    by_cases hZ2 : cy = 0
    · have z2 : ((cy : Int) == 0) = true := by rw [hZ2]; rfl
      have i2 : ((cy : Int) == 3) = false := by rw [hZ2]; rfl
      by_cases hZ1 : cx = 0
      · have z1 : ((cx : Int) == 0) = true := by rw [hZ1]; rfl
        have hq := HP2.out
        rw [if_pos (.inr ⟨hZ1, hZ2⟩)] at hq
        subst hq
        clear hI1 hZ2 hZ1
        go_wp2_with fail
        refine (HNA.out _).mono ?_
        rintro _ w2 ⟨rfl, hx2⟩
        have HX2 := hide (HXw.out.trans hx2)
        clear hx2
        go_wp2_with fail
        simp [bodyPost, results, Oacg.results26, go_sem]
        exact HX2.out
      · have z1 : ((cx : Int) == 0) = false := by rw [beq_eq_false_iff_ne]; omega
        have hq := HP2.out
        rw [if_neg (by omega), if_neg hI1, if_pos hZ2] at hq
        subst hq
        clear hI1 hZ2 hZ1
        go_wp2_with fail
        refine (HIN.out (!(nx == ny)) _).mono ?_
        rintro _ w2 ⟨rfl, hx2⟩
        have HX2 := hide (HXw.out.trans hx2)
        clear hx2
        go_wp2_with fail
        simp [bodyPost, results, Oacg.results26, go_sem]
        exact HX2.out
    have z2 : ((cy : Int) == 0) = false := by rw [beq_eq_false_iff_ne]; omega
    by_cases hI2 : cy = 3
    · have i2 : ((cy : Int) == 3) = true := by rw [hI2]; rfl
      have hq := HP2.out
      rw [if_neg (by omega), if_neg hI1, if_neg hZ2, if_pos hI2] at hq
      subst hq
      clear hI1 hI2 hZ2
      cases zz : ((cx : Int) == 0) with
      | true =>
        go_wp2_with fail
        refine (HZE.out (!(nx == ny)) _).mono ?_
        rintro _ w2 ⟨rfl, hx2⟩
        have HX2 := hide (HXw.out.trans hx2)
        clear hx2
        go_wp2_with fail
        simp [bodyPost, results, Oacg.results26, go_sem]
        exact HX2.out
      | false =>
        go_wp2_with fail
        refine (HZE.out (!(nx == ny)) _).mono ?_
        rintro _ w2 ⟨rfl, hx2⟩
        have HX2 := hide (HXw.out.trans hx2)
        clear hx2
        go_wp2_with fail
        simp [bodyPost, results, Oacg.results26, go_sem]
        exact HX2.out
    have i2 : ((cy : Int) == 3) = false := by rw [beq_eq_false_iff_ne]; omega
    have hq := HP2.out
    rw [if_neg (by omega), if_neg hI1, if_neg hZ2, if_neg hI2] at hq
    have HPF := Box.mk hq
    have HDP2 := Box.mk (Nat.mul_pos HDP.out.1 (HYP.out (by have h0 := HCY.out; have h4 : ¬ ((cy : Int) = 4) := (by rw [beq_eq_false_iff_ne] at b2; exact b2); omega)))
    clear hI1 hI2 hZ2 hq HP2
    cases zz : ((cx : Int) == 0) with
    | true =>
      have M1 := hide (fun wx (hx : Ext wc wx) => mul_any Nx Dy 100 100 HBd.out.1 HBd.out.2.2.2 (by decide) (by decide) _ _ wx (HN.out.1.ext hx) (HN.out.2.2.2.ext hx))
      have M2 := hide (fun wx (hx : Ext wc wx) => mul_any Dx Ny 100 100 HBd.out.2.1 HBd.out.2.2.1 (by decide) (by decide) _ _ wx (HN.out.2.1.ext hx) (HN.out.2.2.1.ext hx))
      have HNL := Box.mk (lt_W_mono (mul_lt_W HBd.out.1 HBd.out.2.2.2) (show 100 + 100 ≤ 300 by decide))
      have HDL := Box.mk (lt_W_mono (mul_lt_W HBd.out.2.1 HBd.out.2.2.1) (show 100 + 100 ≤ 300 by decide))
      generalize Nx * Dy = nn at *
      generalize Dx * Ny = dd at *
      have HRR := hide (fun v wx hv => HRF.out (!(nx == ny)) nn dd v wx HNL.out HDL.out HDP2.out hv)
      generalize rndV e m mode (!(nx == ny)) nn dd = rV at *
      generalize rndF e m mode (!(nx == ny)) nn dd = rF at *
      clear HRF
      have tok2 : True := trivial
      have tok3 : True := trivial
      have HH : Hid (∀ w', Ext wc w' → CellsM w' w.heap.size B1 B2 e m (.slice p1 k1 c1) (.slice p2 k2 c2) (.slice p3 k3 c3) (.slice p4 k4 c4)) :=
        fun w' hx => ⟨hx.cell HCC.out.1, hx.cell HCC.out.2, hx.cell HO1.out.2.2.2.2.1, hx.cell HO1.out.2.2.2.2.2, hx.cell HO2.out.2.2.2.2.1, hx.cell HO2.out.2.2.2.2.2⟩
      clear HN o10 o13 o20 o23 HO1 HO2 HBX HBY HOx HOy HNA HZE HIN HBd HDP HCX HCY
      go_wp2_with fail
      go_region_held3 (fun w' => CellsM w' w.heap.size B1 B2 e m (.slice p1 k1 c1) (.slice p2 k2 c2) (.slice p3 k3 c3) (.slice p4 k4 c4))
        (first | exact HH.out _ (Ext.refl _) | exact HH.out _ (by (repeat apply Ext.drew); first | exact Ext.refl _ | assumption))
        (first
          | (go_at_call 61; have _t := tok2; refine (M1.out _ ((Ext.refl _).drew)).mono ?_; clear tok2; rintro r w5 ⟨⟨v5, rfl, hv5⟩, hx5⟩; obtain ⟨p5, k5, c5, rfl⟩ := hv5.shape; have HV5 := hide hv5; have hE5 : Ext wc w5 := Ext.trans (by (repeat apply Ext.drew); first | exact Ext.refl _ | assumption) hx5; clear hv5 hx5)
          | (go_at_call 61; have _t := tok3; refine (M2.out _ (by first | assumption | exact Ext.drew (by assumption))).mono ?_; clear tok3; rintro r w6 ⟨⟨v6, rfl, hv6⟩, hx6⟩; obtain ⟨p6, k6, c6, rfl⟩ := hv6.shape; have HV6 : Hid (∀ ng, RatAt w6 (.agg #[.bool ng, .slice p5 k5 c5, .slice p6 k6 c6]) ng nn dd) := (fun ng => ⟨_, _, _, _, _, _, rfl, HV5.out.ext (Ext.trans (by (repeat apply Ext.drew); exact Ext.refl _) hx6), hv6⟩); have hE6 : Ext wc w6 := Ext.trans (by (repeat apply Ext.drew); first | exact Ext.refl _ | assumption) hx6; clear hv6 hx6)
          | (go_at_call 45; refine (HRR.out _ _ (by first | exact HV6.out _ | exact (HV6.out _).ext ((Ext.refl _).drew))).mono ?_; rintro r w7 ⟨⟨_, rfl, rfl⟩, hx7⟩; have hE7 : Ext wc w7 := Ext.trans (by (repeat apply Ext.drew); first | exact Ext.refl _ | assumption) hx7; clear hx7))
      have HXF : Hid (Ext w w7) := HXw.out.trans hE7
      clear HH M1 M2 HNL HDL HDP2 HRR o11 o12 o14 o15 o21 o22 o24 o25 a0 a1 b1 b2 i1 i2 zz hB hB1 hB2 HV5 HV6 hE5 hE6 hE7 HCC HXw
      have hq := HPF.out
      subst hq
      go_wp2_with fail
      simp [bodyPost, results, Oacg.results26, go_sem]
      exact HXF.out
    | false =>
      have M1 := hide (fun wx (hx : Ext wc wx) => mul_any Nx Dy 100 100 HBd.out.1 HBd.out.2.2.2 (by decide) (by decide) _ _ wx (HN.out.1.ext hx) (HN.out.2.2.2.ext hx))
      have M2 := hide (fun wx (hx : Ext wc wx) => mul_any Dx Ny 100 100 HBd.out.2.1 HBd.out.2.2.1 (by decide) (by decide) _ _ wx (HN.out.2.1.ext hx) (HN.out.2.2.1.ext hx))
      have HNL := Box.mk (lt_W_mono (mul_lt_W HBd.out.1 HBd.out.2.2.2) (show 100 + 100 ≤ 300 by decide))
      have HDL := Box.mk (lt_W_mono (mul_lt_W HBd.out.2.1 HBd.out.2.2.1) (show 100 + 100 ≤ 300 by decide))
      generalize Nx * Dy = nn at *
      generalize Dx * Ny = dd at *
      have HRR := hide (fun v wx hv => HRF.out (!(nx == ny)) nn dd v wx HNL.out HDL.out HDP2.out hv)
      generalize rndV e m mode (!(nx == ny)) nn dd = rV at *
      generalize rndF e m mode (!(nx == ny)) nn dd = rF at *
      clear HRF
      have tok2 : True := trivial
      have tok3 : True := trivial
      have HH : Hid (∀ w', Ext wc w' → CellsM w' w.heap.size B1 B2 e m (.slice p1 k1 c1) (.slice p2 k2 c2) (.slice p3 k3 c3) (.slice p4 k4 c4)) :=
        fun w' hx => ⟨hx.cell HCC.out.1, hx.cell HCC.out.2, hx.cell HO1.out.2.2.2.2.1, hx.cell HO1.out.2.2.2.2.2, hx.cell HO2.out.2.2.2.2.1, hx.cell HO2.out.2.2.2.2.2⟩
      clear HN o10 o13 o20 o23 HO1 HO2 HBX HBY HOx HOy HNA HZE HIN HBd HDP HCX HCY
      go_wp2_with fail
      go_region_held3 (fun w' => CellsM w' w.heap.size B1 B2 e m (.slice p1 k1 c1) (.slice p2 k2 c2) (.slice p3 k3 c3) (.slice p4 k4 c4))
        (first | exact HH.out _ (Ext.refl _) | exact HH.out _ (by (repeat apply Ext.drew); first | exact Ext.refl _ | assumption))
        (first
          | (go_at_call 61; have _t := tok2; refine (M1.out _ ((Ext.refl _).drew)).mono ?_; clear tok2; rintro r w5 ⟨⟨v5, rfl, hv5⟩, hx5⟩; obtain ⟨p5, k5, c5, rfl⟩ := hv5.shape; have HV5 := hide hv5; have hE5 : Ext wc w5 := Ext.trans (by (repeat apply Ext.drew); first | exact Ext.refl _ | assumption) hx5; clear hv5 hx5)
          | (go_at_call 61; have _t := tok3; refine (M2.out _ (by first | assumption | exact Ext.drew (by assumption))).mono ?_; clear tok3; rintro r w6 ⟨⟨v6, rfl, hv6⟩, hx6⟩; obtain ⟨p6, k6, c6, rfl⟩ := hv6.shape; have HV6 : Hid (∀ ng, RatAt w6 (.agg #[.bool ng, .slice p5 k5 c5, .slice p6 k6 c6]) ng nn dd) := (fun ng => ⟨_, _, _, _, _, _, rfl, HV5.out.ext (Ext.trans (by (repeat apply Ext.drew); exact Ext.refl _) hx6), hv6⟩); have hE6 : Ext wc w6 := Ext.trans (by (repeat apply Ext.drew); first | exact Ext.refl _ | assumption) hx6; clear hv6 hx6)
          | (go_at_call 45; refine (HRR.out _ _ (by first | exact HV6.out _ | exact (HV6.out _).ext ((Ext.refl _).drew))).mono ?_; rintro r w7 ⟨⟨_, rfl, rfl⟩, hx7⟩; have hE7 : Ext wc w7 := Ext.trans (by (repeat apply Ext.drew); first | exact Ext.refl _ | assumption) hx7; clear hx7))
      have HXF : Hid (Ext w w7) := HXw.out.trans hE7
      clear HH M1 M2 HNL HDL HDP2 HRR o11 o12 o14 o15 o21 o22 o24 o25 a0 a1 b1 b2 i1 i2 zz hB hB1 hB2 HV5 HV6 hE5 hE6 hE7 HCC HXw
      have hq := HPF.out
      subst hq
      go_wp2_with fail
      simp [bodyPost, results, Oacg.results26, go_sem]
      exact HXF.out

end Go.Proofs.YgcoacGreat
