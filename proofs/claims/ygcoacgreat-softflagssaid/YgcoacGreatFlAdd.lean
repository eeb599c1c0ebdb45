/-
  exact.AddFlags, Add.
-/
import Derived.Test.YgcoacGreatFlO
namespace Go.Proofs.YgcoacGreat
open Go.RowKit
set_option linter.unusedSimpArgs false
set_option linter.unusedVariables false
attribute [local go_sem] nil_eq nil_ne

def faddP (e m : Nat) (mode : Int) (a b : Nat) : Nat × Int :=
  if cls e m a = 4 ∨ cls e m b = 4 then (nanV e m, heardF e m a b)
  else if cls e m a = 3 ∧ cls e m b = 3 ∧ ngB e m a ≠ ngB e m b then (nanV e m, 1)
  else if cls e m a = 3 then (msk e m a, 0)
  else if cls e m b = 3 then (msk e m b, 0)
  else if sNum (vNeg e m a) (vNum e m a) (vDen e m a) (vNeg e m b) (vNum e m b) (vDen e m b) = 0 then (sg e m (if ngB e m a = ngB e m b then ngB e m a else (mode == 4)), 0)
  else (rndV e m mode (sNeg (vNeg e m a) (vNum e m a) (vDen e m a) (vNeg e m b) (vNum e m b) (vDen e m b)) (sNum (vNeg e m a) (vNum e m a) (vDen e m a) (vNeg e m b) (vNum e m b) (vDen e m b)) (vDen e m a * vDen e m b),
    rndF e m mode (sNeg (vNeg e m a) (vNum e m a) (vDen e m a) (vNeg e m b) (vNum e m b) (vDen e m b)) (sNum (vNeg e m a) (vNum e m a) (vDen e m a) (vNeg e m b) (vNum e m b) (vDen e m b)) (vDen e m a * vDen e m b))

set_option maxRecDepth 20000 in
set_option maxHeartbeats 4000000 in
theorem faddFlags_any (e m : Nat) (h : Fm e m) (mode : Int) (x y : Nat) (hx : x < 18446744073709551616) (hy : y < 18446744073709551616) (w : World) :
    Calls Oacg.prog 23 #[.agg #[.int .u8 (e : Int), .int .u8 (m : Int)], .int .u8 mode, .int .u64 (x : Int), .int .u64 (y : Int)] w fun r w' => r = .returned (.tuple #[.int .u64 ((faddP e m mode x y).1 : Int), .int .u8 (faddP e m mode x y).2]) ∧ Ext w w' := by
  have H := hide h
  have hok := okB_fm h
  have HOx := hide (open_any e m h x hx)
  have HOy := hide (open_any e m h y hy)
  have hbd : vNum e m x < W 100 ∧ vDen e m x < W 100 ∧ vNum e m y < W 100 ∧ vDen e m y < W 100 := ⟨vNum_lt h x, vDen_lt h x, vNum_lt h y, vDen_lt h y⟩
  have HNA := hide (theNaN_any e m h)
  have HHE := hide (heard_any e m h x y hx hy)
  have HZE := hide (fun b => zero_any e m h b)
  have HIN := hide (fun b => inf_any e m h b)
  have HRF := hide (fun neg n d v wx (q1 : n < W 300) (q2 : d < W 300) (q3 : 0 < d) hv => roundFlags_any e m h mode neg n d 300 300 q1 q2 (by decide) (by decide) q3 v wx hv)
  unfold RndR at HRF
  have HDP := Box.mk (show 0 < vDen e m x ∧ 0 < vDen e m y from ⟨vDen_pos e m x, vDen_pos e m y⟩)
  have HCX := Box.mk (cls_cases e m x)
  have HCY := Box.mk (cls_cases e m y)
  obtain ⟨P, hP⟩ : ∃ P, faddP e m mode x y = P := ⟨_, rfl⟩
  rw [hP]
  unfold faddP at hP
  obtain ⟨h1, h2, h3, h4⟩ := h
  clear hx hy
  generalize msk e m x = bxn at *
  generalize msk e m y = byn at *
  generalize ngB e m x = nx at *
  generalize ngB e m y = ny at *
  generalize cls e m x = cx at *
  generalize cls e m y = cy at *
  generalize vNeg e m x = vx at *
  generalize vNeg e m y = vy at *
  generalize vNum e m x = Nx at *
  generalize vNum e m y = Ny at *
  generalize vDen e m x = Dx at *
  generalize vDen e m y = Dy at *
  generalize heardF e m x y = hF at *
  generalize nanV e m = nV at *
  have HP := Box.mk hP
  have HBd := Box.mk hbd
  clear hP hbd
  obtain ⟨W0, hW0⟩ : ∃ W0, W0 = ((w.alloc (.cells #[.int .u8 (e : Int), .int .u8 (m : Int)] 23)).alloc (.cells #[.int .u8 (e : Int), .int .u8 (m : Int)] 23)) := ⟨_, rfl⟩
  have d0 : W0.cell? ⟨w.heap.size, 0, none⟩ = some (.int .u8 (e : Int)) := by rw [hW0]; simp [go_sem]
  have d1 : W0.cell? ⟨w.heap.size, 1, none⟩ = some (.int .u8 (m : Int)) := by rw [hW0]; simp [go_sem]
  have hy1 : w.heap.size < W0.heap.size := by rw [hW0]; simp; omega
  have hy1' : w.heap.size < W0.heap.size + 1 := by omega
  have m0 : ¬ W0.heap.size = w.heap.size := by omega
  have m0' : ¬ W0.heap.size + 1 = w.heap.size := by omega
  have HW0 : Hid (Ext w W0) := by rw [hW0]; exact ((Ext.refl _).alloc _ _).alloc _ _
  have HD0 : Hid (Cells2 W0 w.heap.size e m) := ⟨d0, d1⟩
  go_enter Oacg.func23, Oacg.ntmps23
  go_wp2_with (first | (go_at_call 4; refine (ok_any _ _ _).mono ?_; rintro r w' ⟨rfl, rfl⟩))
  rw [← hW0]
  clear hW0
  have tok1 : True := trivial
  obtain ⟨bx, hbx⟩ : ∃ bx : Int, bx = (bxn : Int) := ⟨_, rfl⟩
  obtain ⟨by_, hby⟩ : ∃ by_ : Int, by_ = (byn : Int) := ⟨_, rfl⟩
  rw [← hbx] at HOx
  rw [← hby] at HOy
  have HBX := Box.mk hbx
  have HBY := Box.mk hby
  clear hbx hby
  go_cut [10, 11] (fun v7 v8 wx => ∃ B1 B2 p1 k1 c1 p2 k2 c2 p3 k3 c3 p4 k4 c4, v7 = .pointer (some ⟨B1, 0, none⟩) ∧ v8 = .pointer (some ⟨B2, 0, none⟩) ∧ B1 ≠ B2 ∧ W0.heap.size ≤ B1 ∧ W0.heap.size ≤ B2 ∧ Hid (Ext W0 wx) ∧
      Hid (NatAt wx (.slice p1 k1 c1) Nx ∧ NatAt wx (.slice p2 k2 c2) Dx ∧ NatAt wx (.slice p3 k3 c3) Ny ∧ NatAt wx (.slice p4 k4 c4) Dy) ∧
      Op6 wx B1 (.int .u64 bx) (.bool nx) (.int .i8 (cx : Int)) (.bool vx) (.slice p1 k1 c1) (.slice p2 k2 c2) ∧ Op6 wx B2 (.int .u64 by_) (.bool ny) (.int .i8 (cy : Int)) (.bool vy) (.slice p3 k3 c3) (.slice p4 k4 c4))
  case first =>
    go_region_held3 (fun w' => w'.cell? ⟨w.heap.size, 0, none⟩ = some (.int .u8 (e : Int)) ∧ w'.cell? ⟨w.heap.size, 1, none⟩ = some (.int .u8 (m : Int)))
      (first | (simp [go_sem, d0, d1, hy1, hy1']; done) | (simp [go_sem, e0, e1, y1, y1']; done) | (simp [go_sem, g0, g1, y2, y2', m0, m0', m1, m1']; done))
      (first
        | (go_at_call 36; have _t := tok1; refine (HOx.out _).mono ?_; rintro r w1 ⟨⟨p1, k1, c1, p2, k2, c2, rfl, hn1, hd1⟩, hx1⟩; clear tok1; have HX1 : Hid (Ext W0 w1) := Ext.trans (by (repeat (first | apply Ext.drew | apply Ext.alloc)); exact Ext.refl _) hx1; have HN1 := hide hn1; have HD1 := hide hd1; obtain ⟨q1, f1, z1⟩ := hx1.rule; obtain ⟨y1, y1'⟩ := lt2 (Nat.lt_of_lt_of_le hy1 HX1.out.size); have e0 := HX1.out.cell d0; have e1 := HX1.out.cell d1; have m1 : ¬ w1.heap.size = w.heap.size := Nat.ne_of_gt y1; have m1' : ¬ w1.heap.size + 1 = w.heap.size := Nat.ne_of_gt y1'; (try (have hE : Ext (W0.alloc (.cells #[.int .u64 0, .bool false, .int .i8 0, .bool false, .slice none 0 0, .slice none 0 0] 62)) w1 := Ext.trans (Ext.drew (Ext.refl _)) hx1; obtain ⟨a1, a1', l1⟩ := pk1 hE; have L1 := hide l1; clear hE l1)); (try (have hE : Ext ((W0.alloc (.cells #[.int .u64 0, .bool false, .int .i8 0, .bool false, .slice none 0 0, .slice none 0 0] 62)).alloc (.cells #[.int .u64 0, .bool false, .int .i8 0, .bool false, .slice none 0 0, .slice none 0 0] 62)) w1 := Ext.trans (Ext.drew (Ext.refl _)) hx1; obtain ⟨a1, a1', l1, a2, a2', l2⟩ := pk2 hE; have L1 := hide l1; have L2 := hide l2; clear hE l1 l2)); clear hn1 hd1 hx1)
        | (go_at_call 36; refine (HOy.out _).mono ?_; rintro r w2 ⟨⟨p3, k3, c3, p4, k4, c4, rfl, hn2, hd2⟩, hx2⟩; have HX2 : Hid (Ext w1 w2) := Ext.trans (by (repeat (first | apply Ext.drew | apply Ext.alloc)); exact Ext.refl _) hx2; have HN2 := hide hn2; have HD2 := hide hd2; obtain ⟨q2, f2, z2⟩ := hx2.rule; have g0 := HX2.out.cell e0; have g1 := HX2.out.cell e1; obtain ⟨y2, y2'⟩ := lt2 (Nat.lt_of_lt_of_le y1 HX2.out.size); (try (have hE : W0.heap.size < w2.heap.size := Nat.lt_of_lt_of_le a1 HX2.out.size; obtain ⟨a3, a3'⟩ := lt2 hE; clear hE)); (try (have hE : W0.heap.size + 1 < w2.heap.size := Nat.lt_of_lt_of_le a2 HX2.out.size; obtain ⟨a4, a4'⟩ := lt2 hE; clear hE)); (try (have hE : Ext (w1.alloc (.cells #[.int .u64 0, .bool false, .int .i8 0, .bool false, .slice none 0 0, .slice none 0 0] 62)) w2 := hx2; obtain ⟨a5, a5', l3⟩ := pk1 hE; have L3 := hide l3; clear hE l3)); (try (have hE : Ext ((w1.alloc (.cells #[.int .u64 0, .bool false, .int .i8 0, .bool false, .slice none 0 0, .slice none 0 0] 62)).alloc (.cells #[.int .u64 0, .bool false, .int .i8 0, .bool false, .slice none 0 0, .slice none 0 0] 62)) w2 := hx2; obtain ⟨a5, a5', l3, a6, a6', l4⟩ := pk2 hE; have L3 := hide l3; have L4 := hide l4; clear hE l3 l4)); clear hn2 hd2 hx2))
    all_goals go_wp2_with fail
    all_goals go_meet
    all_goals
      have s1 : W0.heap.size ≤ w1.heap.size := HX1.out.size
      have s1' : W0.heap.size ≤ w1.heap.size + 1 := Nat.le_succ_of_le s1
      have s2 : w1.heap.size ≤ w2.heap.size := HX2.out.size
      have s2' : W0.heap.size ≤ w2.heap.size := Nat.le_trans s1 s2
      have s2'' : W0.heap.size ≤ w2.heap.size + 1 := Nat.le_succ_of_le s2'
      have hxx : Ext W0 w2 := HX1.out.trans HX2.out
      have hkr : Keeps w2 w2 := Keeps.refl _
      (try (have l1 : NL1 w2 W0.heap.size 0 ∧ NL1 w2 W0.heap.size 1 ∧ NL1 w2 W0.heap.size 2 ∧ NL1 w2 W0.heap.size 3 ∧ NL1 w2 W0.heap.size 4 ∧ NL1 w2 W0.heap.size 5 := six (fun i hi => R.nlExt (L1.out i hi) HX2.out)))
      (try (have l2 : NL1 w2 (W0.heap.size + 1) 0 ∧ NL1 w2 (W0.heap.size + 1) 1 ∧ NL1 w2 (W0.heap.size + 1) 2 ∧ NL1 w2 (W0.heap.size + 1) 3 ∧ NL1 w2 (W0.heap.size + 1) 4 ∧ NL1 w2 (W0.heap.size + 1) 5 := six (fun i hi => R.nlExt (L2.out i hi) HX2.out)))
      (try (have l3 : NL1 w2 w1.heap.size 0 ∧ NL1 w2 w1.heap.size 1 ∧ NL1 w2 w1.heap.size 2 ∧ NL1 w2 w1.heap.size 3 ∧ NL1 w2 w1.heap.size 4 ∧ NL1 w2 w1.heap.size 5 := six L3.out))
      (try (have l4 : NL1 w2 (w1.heap.size + 1) 0 ∧ NL1 w2 (w1.heap.size + 1) 1 ∧ NL1 w2 (w1.heap.size + 1) 2 ∧ NL1 w2 (w1.heap.size + 1) 3 ∧ NL1 w2 (w1.heap.size + 1) 4 ∧ NL1 w2 (w1.heap.size + 1) 5 := six L4.out))
      clear q1 f1 z1 q2 f2 z2 m0 m0' m1 m1' d0 d1 e0 e1 g0 g1 hy1 hy1' y1 y1' y2 y2'
      refine ⟨_, _, p1, k1, c1, p2, k2, c2, p3, k3, c3, p4, k4, c4, rfl, rfl, ?_, ?_, ?_, ?_, keeps4 ?_ ⟨HN1.out.ext HX2.out, HD1.out.ext HX2.out, HN2.out, HD2.out⟩, ?_, ?_⟩
      · omega
      · omega
      · omega
      · show Ext _ _
        simp (maxDischargeDepth := 100) only [R.extAlloc, R.extDrew, R.extSet, Nat.le_refl, Nat.le_add_right, s1, s1', s2', s2'', hxx]
      · simp (maxDischargeDepth := 100) only [R.kpAlloc, R.kpDrew, R.kpSet, R.nlSet, R.nlAlloc, R.nlDrew, World.size_setCell, World.size_alloc, R.n64, R.ni8, R.nb, R.ns, eq_self, Nat.reduceLT, Nat.lt_add_one, *]
      · (try simp (maxDischargeDepth := 100) only [Op6, R.cellSame, R.cellOffLt, R.cellOffGt, R.cellLt, R.cellGt, R.cellPast, R.cellNew, R.cellDrew, R.nlSet, R.nlAlloc, R.nlDrew, World.size_setCell, World.size_alloc, R.n64, R.ni8, R.nb, R.ns, eq_self, and_self, Nat.reduceLT, Nat.lt_add_one, *])
        all_goals (first | exact ⟨rfl, rfl, rfl, rfl, rfl, rfl⟩ | trace_state)
      · (try simp (maxDischargeDepth := 100) only [Op6, R.cellSame, R.cellOffLt, R.cellOffGt, R.cellLt, R.cellGt, R.cellPast, R.cellNew, R.cellDrew, R.nlSet, R.nlAlloc, R.nlDrew, World.size_setCell, World.size_alloc, R.n64, R.ni8, R.nb, R.ns, eq_self, and_self, Nat.reduceLT, Nat.lt_add_one, *])
        all_goals (first | exact ⟨rfl, rfl, rfl, rfl, rfl, rfl⟩ | trace_state)

  case rest =>
    obtain ⟨B1, B2, p1, k1, c1, p2, k2, c2, p3, k3, c3, p4, k4, c4, rfl, rfl, hB, hB1, hB2, HX, HN, o1, o2⟩ := hcut
    have HO1 := hide o1
    have HO2 := hide o2
    obtain ⟨o10, o11, o12, o13, o14, o15⟩ := o1
    obtain ⟨o20, o21, o22, o23, o24, o25⟩ := o2
    have HXw := hide (HW0.out.trans HX.out)
    have HCC := hide (HD0.out.ext HX.out)
    obtain ⟨a0, a1⟩ := HCC.out
    clear d0 d1 hy1 hy1' m0 m0' tok1 HX HD0 HW0
    by_cases hN1 : cx = 4
    · have b1 : ((cx : Int) == 4) = true := by rw [hN1]; rfl
      have hq := HP.out
      rw [if_pos (.inl hN1)] at hq
      subst hq
      clear hN1
      go_wp2_with fail
      go_region_held3 (fun w' => Cells2 w' w.heap.size e m)
        (first | exact HCC.out | exact HCC.out.ext (by (repeat apply Ext.drew); first | exact Ext.refl _ | assumption))
        (first
          | (go_at_call 29; refine (HNA.out _).mono ?_; rintro r w2 ⟨rfl, hx2⟩; have hE : Ext wc w2 := Ext.trans (by (repeat apply Ext.drew); first | exact Ext.refl _ | assumption) hx2; clear hx2)
          | (go_at_call 37; refine (HHE.out _).mono ?_; rintro r w3 ⟨rfl, hx3⟩; have hE3 : Ext wc w3 := Ext.trans (by (repeat apply Ext.drew); first | exact Ext.refl _ | assumption) hx3; clear hx3))
      all_goals go_wp2_with fail
      all_goals simp [bodyPost, results, Oacg.results23, go_sem]
      all_goals exact HXw.out.trans (by (repeat apply Ext.drew); assumption)
    have b1 : ((cx : Int) == 4) = false := by rw [beq_eq_false_iff_ne]; omega
    by_cases hN2 : cy = 4
    · have b2 : ((cy : Int) == 4) = true := by rw [hN2]; rfl
      have hq := HP.out
      rw [if_pos (.inr hN2)] at hq
      subst hq
      clear hN1 hN2
      go_wp2_with fail
      go_region_held3 (fun w' => Cells2 w' w.heap.size e m)
        (first | exact HCC.out | exact HCC.out.ext (by (repeat apply Ext.drew); first | exact Ext.refl _ | assumption))
        (first
          | (go_at_call 29; refine (HNA.out _).mono ?_; rintro r w2 ⟨rfl, hx2⟩; have hE : Ext wc w2 := Ext.trans (by (repeat apply Ext.drew); first | exact Ext.refl _ | assumption) hx2; clear hx2)
          | (go_at_call 37; refine (HHE.out _).mono ?_; rintro r w3 ⟨rfl, hx3⟩; have hE3 : Ext wc w3 := Ext.trans (by (repeat apply Ext.drew); first | exact Ext.refl _ | assumption) hx3; clear hx3))
      all_goals go_wp2_with fail
      all_goals simp [bodyPost, results, Oacg.results23, go_sem]
      all_goals exact HXw.out.trans (by (repeat apply Ext.drew); assumption)
    have b2 : ((cy : Int) == 4) = false := by rw [beq_eq_false_iff_ne]; omega
    have hq := HP.out
    rw [if_neg (by omega)] at hq
    have HP2 := Box.mk hq
    clear hN1 hN2 HP hq HHE
    by_cases hI1 : cx = 3
    · have i1 : ((cx : Int) == 3) = true := by rw [hI1]; rfl
      by_cases hI2 : cy = 3
      · have i2 : ((cy : Int) == 3) = true := by rw [hI2]; rfl
        by_cases hn : nx = ny
        · have hq := HP2.out
          rw [if_neg (fun hh => hh.2.2 hn), if_pos hI1] at hq
          subst hq
          subst hn
          have hbx := HBX.out
          clear hI1 hI2
          cases nx <;>
          · go_wp2_with fail
            simp [bodyPost, results, Oacg.results23, go_sem]
            first | exact HXw.out | exact ⟨hbx, HXw.out⟩
        · have hq := HP2.out
          rw [if_pos ⟨hI1, hI2, hn⟩] at hq
          subst hq
          have hnn : (nx == ny) = false := by rw [beq_eq_false_iff_ne]; exact hn
          clear hI1 hI2 hn
          cases nx <;> cases ny <;> first | (exact absurd hnn (by decide)) | skip
          all_goals go_wp2_with fail
          all_goals refine (HNA.out _).mono ?_
          all_goals rintro _ w2 ⟨rfl, hx2⟩
          all_goals have HX2 := hide (HXw.out.trans hx2)
          all_goals clear hx2
          all_goals go_wp2_with fail
          all_goals simp [bodyPost, results, Oacg.results23, go_sem]
          all_goals exact HX2.out
      · have i2 : ((cy : Int) == 3) = false := by rw [beq_eq_false_iff_ne]; omega
        have hq := HP2.out
        rw [if_neg (fun hh => hI2 hh.2.1), if_pos hI1] at hq
        subst hq
        have hbx := HBX.out
        clear hI1 hI2
        go_wp2_with fail
        simp [bodyPost, results, Oacg.results23, go_sem]
        first | exact HXw.out | exact ⟨hbx, HXw.out⟩
    have i1 : ((cx : Int) == 3) = false := by rw [beq_eq_false_iff_ne]; omega
    have hq := HP2.out
    rw [if_neg (fun hh => hI1 hh.1), if_neg hI1] at hq
    have HP3 := Box.mk hq
    clear hq HP2 hI1
    by_cases hI2 : cy = 3
    · have i2 : ((cy : Int) == 3) = true := by rw [hI2]; rfl
      have hq := HP3.out
      rw [if_pos hI2] at hq
      subst hq
      have hby := HBY.out
      clear hI2
      go_wp2_with fail
      simp [bodyPost, results, Oacg.results23, go_sem]
      first | exact HXw.out | exact ⟨hby, HXw.out⟩
    have i2 : ((cy : Int) == 3) = false := by rw [beq_eq_false_iff_ne]; omega
    have hq := HP3.out
    rw [if_neg hI2] at hq
    have HP4 := Box.mk hq
    clear hq HP3 hI2
    have HAR := hide (addRat_any vx vy Nx Dx Ny Dy 100 HBd.out.1 HBd.out.2.1 HBd.out.2.2.1 HBd.out.2.2.2 (by omega) (.agg #[.bool vx, .slice p1 k1 c1, .slice p2 k2 c2]) (.agg #[.bool vy, .slice p3 k3 c3, .slice p4 k4 c4]) wc
      ⟨_, _, _, _, _, _, rfl, HN.out.1, HN.out.2.1⟩ ⟨_, _, _, _, _, _, rfl, HN.out.2.2.1, HN.out.2.2.2⟩)
    have HSL := Box.mk (sNum_lt HBd.out.1 HBd.out.2.1 HBd.out.2.2.1 HBd.out.2.2.2 (an := vx) (bn := vy))
    have HDL := Box.mk (lt_W_mono (mul_lt_W HBd.out.2.1 HBd.out.2.2.2) (show 100 + 100 ≤ 300 by decide))
    have HDP2 := Box.mk (Nat.mul_pos HDP.out.1 HDP.out.2)
    generalize sNum vx Nx Dx vy Ny Dy = sm at *
    generalize sNeg vx Nx Dx vy Ny Dy = sn at *
    generalize Dx * Dy = dd at *
    go_wp2_with fail
    refine HAR.out.mono ?_
    rintro r w5 ⟨⟨v5, rfl, hv5⟩, hx5⟩
    obtain ⟨p7, k7, c7, p8, k8, c8, rfl, hn, hd⟩ := hv5
    have hiso := hn.isNone
    obtain ⟨W5, hW5⟩ : ∃ W5, W5 = w5.alloc (.cells #[.bool sn, .slice p7 k7 c7, .slice p8 k8 c8] 60) := ⟨_, rfl⟩
    have hxa : Ext w5 W5 := by rw [hW5]; exact (Ext.refl w5).alloc _ _
    have HX5 := hide (HXw.out.trans (hx5.trans hxa))
    have HRT : Hid (RatAt W5 (.agg #[.bool sn, .slice p7 k7 c7, .slice p8 k8 c8]) sn sm dd) := ⟨_, _, _, _, _, _, rfl, hn.ext hxa, hd.ext hxa⟩
    obtain ⟨e0, e1⟩ := HCC.out.ext hx5
    replace o11 := hx5.cell o11
    replace o21 := hx5.cell o21
    have l1 : B1 < w5.heap.size := World.block_lt_of_cell? _ _ o11
    have l2 : B2 < w5.heap.size := World.block_lt_of_cell? _ _ o21
    have l0 : w.heap.size < w5.heap.size := World.block_lt_of_cell? _ _ e0
    clear hx5 hxa hn hd o10 o12 o13 o14 o15 o20 o22 o23 o24 o25 HAR HN HXw HCC HO1 HO2 a0 a1
    by_cases hz : sm = 0
    · have hz2 : p7.isNone = true := by rw [hiso]; simp [hz]
      have hq := HP4.out
      rw [if_pos hz] at hq
      clear hiso hz HRT HRF
      cases hnn : (nx == ny) with
      | true =>
        rw [if_pos (by simpa using hnn)] at hq
        subst hq
        go_wp2_with fail
        rw [← hW5]
        refine (HZE.out nx _).mono ?_
        rintro _ w6 ⟨rfl, hx6⟩
        have HX6 := hide (HX5.out.trans hx6)
        clear hx6 hW5
        go_wp2_with fail
        simp [bodyPost, results, Oacg.results23, go_sem]
        exact HX6.out
      | false =>
        rw [if_neg (by simpa using hnn)] at hq
        subst hq
        go_wp2_with fail
        rw [← hW5]
        refine (HZE.out (mode == 4) _).mono ?_
        rintro _ w6 ⟨rfl, hx6⟩
        have HX6 := hide (HX5.out.trans hx6)
        clear hx6 hW5
        go_wp2_with fail
        simp [bodyPost, results, Oacg.results23, go_sem]
        exact HX6.out
    · have hz2 : p7.isNone = false := by rw [hiso]; simp [hz]
      have hq := HP4.out
      rw [if_neg hz] at hq
      subst hq
      clear hiso hz
      have HRR := hide (HRF.out sn sm dd _ W5 HSL.out HDL.out HDP2.out HRT.out)
      go_wp2_with fail
      rw [← hW5]
      refine HRR.out.mono ?_
      rintro _ w6 ⟨⟨_, rfl, rfl⟩, hx6⟩
      have HX6 := hide (HX5.out.trans hx6)
      clear hx6 hW5
      go_wp2_with fail
      simp [bodyPost, results, Oacg.results23, go_sem]
      exact HX6.out

end Go.Proofs.YgcoacGreat
