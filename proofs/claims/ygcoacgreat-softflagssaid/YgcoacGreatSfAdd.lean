/-
  soft.AddFlags.
-/
import Derived.Test.YgcoacGreatSfL
namespace Go.Proofs.YgcoacGreat
open Go.RowKit
set_option linter.unusedSimpArgs false
set_option linter.unusedVariables false

set_option maxRecDepth 20000 in
set_option maxHeartbeats 4000000 in
theorem saddFlags_any (e m : Nat) (h : Fm e m) (mode : Int) (x y : Nat) (hx : x < 18446744073709551616) (hy : y < 18446744073709551616) (w : World) :
    Calls Oacg.prog 19 #[.agg #[.int .u8 (e : Int), .int .u8 (m : Int)], .int .u8 mode, .int .u64 (x : Int), .int .u64 (y : Int)] w fun r w' => r = .returned (.tuple #[.int .u64 ((faddP e m mode x y).1 : Int), .int .u8 (faddP e m mode x y).2]) ∧ Ext w w' := by
  have H := hide h
  have hok := okB_fm h
  have HUx := hide (unpack_any e m h x hx)
  have HUy := hide (unpack_any e m h y hy)
  unfold parts at HUx HUy
  have HNA := hide (theNaN_any e m h)
  have HHE := hide (sheard_any e m h x y hx hy)
  have HIN := hide (fun b => inf_any e m h b)
  have HBX := Box.mk (pExp_bd h x)
  have HBY := Box.mk (pExp_bd h y)
  have HMX := Box.mk (pMan_bd h x)
  have HMY := Box.mk (pMan_bd h y)
  have HMX6 := Box.mk (pMan_u64 h x)
  have HMY6 := Box.mk (pMan_u64 h y)
  have HCX := Box.mk (cls_cases e m x)
  have HCY := Box.mk (cls_cases e m y)
  have HZX : Box ((cls e m x = 0 → pMan e m x = 0) ∧ (cls e m x = 1 ∨ cls e m x = 2 → 2 ^ m ≤ pMan e m x)) := ⟨pMan_facts h x⟩
  have HZY : Box ((cls e m y = 0 → pMan e m y = 0) ∧ (cls e m y = 1 ∨ cls e m y = 2 → 2 ^ m ≤ pMan e m y)) := ⟨pMan_facts h y⟩
  have HAF := hide (fun (gx : ¬ cls e m x = 0 → 2 ^ m ≤ pMan e m x) (gy : ¬ cls e m y = 0 → 2 ^ m ≤ pMan e m y) => addFinite_any e m h mode (pNeg e m x) (cls e m x) (pExp e m x) (pMan e m x) (pNeg e m y) (cls e m y) (pExp e m y) (pMan e m y) (by have := HBX.out; omega) (by have := HBX.out; omega) (by have := HBY.out; omega) (by have := HBY.out; omega) HMX.out HMY.out gx gy)
  obtain ⟨P, hP⟩ : ∃ P, faddP e m mode x y = P := ⟨_, rfl⟩
  rw [hP]
  have hP := faddP_parts h hP
  obtain ⟨h1, h2, h3, h4⟩ := h
  clear hx hy
  generalize pNeg e m x = nx at *
  generalize pNeg e m y = ny at *
  generalize cls e m x = cx at *
  generalize cls e m y = cy at *
  generalize pExp e m x = ex at *
  generalize pExp e m y = ey at *
  generalize pMan e m x = mx at *
  generalize pMan e m y = my at *
  generalize heardF e m x y = hF at *
  generalize nanV e m = nV at *
  have HP := Box.mk hP
  clear hP
  obtain ⟨W0, hW0⟩ : ∃ W0, W0 = ((w.alloc (.cells #[.int .u8 (e : Int), .int .u8 (m : Int)] 23)).alloc (.cells #[.int .u8 (e : Int), .int .u8 (m : Int)] 23)) := ⟨_, rfl⟩
  have d0 : W0.cell? ⟨w.heap.size, 0, none⟩ = some (.int .u8 (e : Int)) := by rw [hW0]; simp [go_sem]
  have d1 : W0.cell? ⟨w.heap.size, 1, none⟩ = some (.int .u8 (m : Int)) := by rw [hW0]; simp [go_sem]
  have hy1 : w.heap.size < W0.heap.size := by rw [hW0]; simp; omega
  have hy1' : w.heap.size < W0.heap.size + 1 := by omega
  have m0 : ¬ W0.heap.size = w.heap.size := by omega
  have m0' : ¬ W0.heap.size + 1 = w.heap.size := by omega
  have HW0 : Hid (Ext w W0) := by rw [hW0]; exact ((Ext.refl _).alloc _ _).alloc _ _
  have HD0 : Hid (Cells2 W0 w.heap.size e m) := ⟨d0, d1⟩
  go_enter Oacg.func19, Oacg.ntmps19
  go_wp2_with (first | (go_at_call 4; refine (ok_any _ _ _).mono ?_; rintro r w' ⟨rfl, rfl⟩))
  rw [← hW0]
  clear hW0
  have tok1 : True := trivial
  go_cut [10, 11] (fun v7 v8 wx => ∃ B1 B2, v7 = .pointer (some ⟨B1, 0, none⟩) ∧ v8 = .pointer (some ⟨B2, 0, none⟩) ∧ B1 ≠ B2 ∧ W0.heap.size ≤ B1 ∧ W0.heap.size ≤ B2 ∧ Hid (Ext W0 wx) ∧
      Pt4 wx B1 (.bool nx) (.int .i8 (cx : Int)) (.int .i16 ex) (.int .u64 (mx : Int)) ∧ Pt4 wx B2 (.bool ny) (.int .i8 (cy : Int)) (.int .i16 ey) (.int .u64 (my : Int)))
  case first =>
    go_region_held3 (fun w' => w'.cell? ⟨w.heap.size, 0, none⟩ = some (.int .u8 (e : Int)) ∧ w'.cell? ⟨w.heap.size, 1, none⟩ = some (.int .u8 (m : Int)))
      (first | (simp [go_sem, d0, d1, hy1, hy1']; done) | (simp [go_sem, e0, e1, y1, y1']; done) | (simp [go_sem, g0, g1, y2, y2', m0, m0', m1, m1']; done))
      (first
        | (go_at_call 27; have _t := tok1; refine (HUx.out _).mono ?_; rintro r w1 ⟨rfl, hx1⟩; clear tok1; have HX1 : Hid (Ext W0 w1) := Ext.trans (by (repeat (first | apply Ext.drew | apply Ext.alloc)); exact Ext.refl _) hx1; obtain ⟨q1, f1, z1⟩ := hx1.rule; obtain ⟨y1, y1'⟩ := lt2p (Nat.lt_of_lt_of_le hy1 HX1.out.size); have e0 := HX1.out.cell d0; have e1 := HX1.out.cell d1; have m1 : ¬ w1.heap.size = w.heap.size := Nat.ne_of_gt y1; have m1' : ¬ w1.heap.size + 1 = w.heap.size := Nat.ne_of_gt y1'; (try (have hE : Ext (W0.alloc (.cells #[.bool false, .int .i8 0, .int .i16 0, .int .u64 0] 44)) w1 := Ext.trans (Ext.drew (Ext.refl _)) hx1; obtain ⟨a1, a1', l1⟩ := pk1p hE; have L1 := hide l1; clear hE l1)); (try (have hE : Ext ((W0.alloc (.cells #[.bool false, .int .i8 0, .int .i16 0, .int .u64 0] 44)).alloc (.cells #[.bool false, .int .i8 0, .int .i16 0, .int .u64 0] 44)) w1 := Ext.trans (Ext.drew (Ext.refl _)) hx1; obtain ⟨a1, a1', l1, a2, a2', l2⟩ := pk2p hE; have L1 := hide l1; have L2 := hide l2; clear hE l1 l2)); clear hx1)
        | (go_at_call 27; refine (HUy.out _).mono ?_; rintro r w2 ⟨rfl, hx2⟩; have HX2 : Hid (Ext w1 w2) := Ext.trans (by (repeat (first | apply Ext.drew | apply Ext.alloc)); exact Ext.refl _) hx2; obtain ⟨q2, f2, z2⟩ := hx2.rule; have g0 := HX2.out.cell e0; have g1 := HX2.out.cell e1; obtain ⟨y2, y2'⟩ := lt2p (Nat.lt_of_lt_of_le y1 HX2.out.size); (try (have hE : W0.heap.size < w2.heap.size := Nat.lt_of_lt_of_le a1 HX2.out.size; obtain ⟨a3, a3'⟩ := lt2p hE; clear hE)); (try (have hE : W0.heap.size + 1 < w2.heap.size := Nat.lt_of_lt_of_le a2 HX2.out.size; obtain ⟨a4, a4'⟩ := lt2p hE; clear hE)); (try (have hE : Ext (w1.alloc (.cells #[.bool false, .int .i8 0, .int .i16 0, .int .u64 0] 44)) w2 := hx2; obtain ⟨a5, a5', l3⟩ := pk1p hE; have L3 := hide l3; clear hE l3)); (try (have hE : Ext ((w1.alloc (.cells #[.bool false, .int .i8 0, .int .i16 0, .int .u64 0] 44)).alloc (.cells #[.bool false, .int .i8 0, .int .i16 0, .int .u64 0] 44)) w2 := hx2; obtain ⟨a5, a5', l3, a6, a6', l4⟩ := pk2p hE; have L3 := hide l3; have L4 := hide l4; clear hE l3 l4)); clear hx2))
    all_goals go_wp2_with fail
    all_goals go_meet
    all_goals
      have s1 : W0.heap.size ≤ w1.heap.size := HX1.out.size
      have s1' : W0.heap.size ≤ w1.heap.size + 1 := Nat.le_succ_of_le s1
      have s2 : w1.heap.size ≤ w2.heap.size := HX2.out.size
      have s2' : W0.heap.size ≤ w2.heap.size := Nat.le_trans s1 s2
      have s2'' : W0.heap.size ≤ w2.heap.size + 1 := Nat.le_succ_of_le s2'
      have hxx : Ext W0 w2 := HX1.out.trans HX2.out
      (try (have l1 : NL1 w2 W0.heap.size 0 ∧ NL1 w2 W0.heap.size 1 ∧ NL1 w2 W0.heap.size 2 ∧ NL1 w2 W0.heap.size 3 := four (fun i hi => R.nlExt (L1.out i hi) HX2.out)))
      (try (have l2 : NL1 w2 (W0.heap.size + 1) 0 ∧ NL1 w2 (W0.heap.size + 1) 1 ∧ NL1 w2 (W0.heap.size + 1) 2 ∧ NL1 w2 (W0.heap.size + 1) 3 := four (fun i hi => R.nlExt (L2.out i hi) HX2.out)))
      (try (have l3 : NL1 w2 w1.heap.size 0 ∧ NL1 w2 w1.heap.size 1 ∧ NL1 w2 w1.heap.size 2 ∧ NL1 w2 w1.heap.size 3 := four L3.out))
      (try (have l4 : NL1 w2 (w1.heap.size + 1) 0 ∧ NL1 w2 (w1.heap.size + 1) 1 ∧ NL1 w2 (w1.heap.size + 1) 2 ∧ NL1 w2 (w1.heap.size + 1) 3 := four L4.out))
      clear q1 f1 z1 q2 f2 z2 m0 m0' m1 m1' d0 d1 e0 e1 g0 g1 hy1 hy1' y1 y1' y2 y2'
      refine ⟨_, _, rfl, rfl, ?_, ?_, ?_, ?_, ?_, ?_⟩
      · omega
      · omega
      · omega
      · show Ext _ _
        simp (maxDischargeDepth := 100) only [R.extAlloc, R.extDrew, R.extSet, Nat.le_refl, Nat.le_add_right, s1, s1', s2', s2'', hxx]
      · (try simp (maxDischargeDepth := 100) only [Pt4, R.cellSame, R.cellOffLt, R.cellOffGt, R.cellLt, R.cellGt, R.cellPast, R.cellNew, R.cellDrew, R.nlSet, R.nlAlloc, R.nlDrew, World.size_setCell, World.size_alloc, R.n64, R.ni8, R.ni16, R.nb, R.ns, eq_self, and_self, Nat.reduceLT, Nat.lt_add_one, *])
        all_goals (first | exact ⟨rfl, rfl, rfl, rfl⟩ | trace_state)
      · (try simp (maxDischargeDepth := 100) only [Pt4, R.cellSame, R.cellOffLt, R.cellOffGt, R.cellLt, R.cellGt, R.cellPast, R.cellNew, R.cellDrew, R.nlSet, R.nlAlloc, R.nlDrew, World.size_setCell, World.size_alloc, R.n64, R.ni8, R.ni16, R.nb, R.ns, eq_self, and_self, Nat.reduceLT, Nat.lt_add_one, *])
        all_goals (first | exact ⟨rfl, rfl, rfl, rfl⟩ | trace_state)

  case rest =>
    obtain ⟨B1, B2, rfl, rfl, hB, hB1, hB2, HX, o1, o2⟩ := hcut
    have HO1 := hide o1
    have HO2 := hide o2
    obtain ⟨o10, o11, o12, o13⟩ := o1
    obtain ⟨o20, o21, o22, o23⟩ := o2
    have HXw := hide (HW0.out.trans HX.out)
    have HCC := hide (HD0.out.ext HX.out)
    obtain ⟨a0, a1⟩ := HCC.out
    clear d0 d1 hy1 hy1' m0 m0' tok1 HX HD0 HW0 HUx HUy
    by_cases hN : cx = 4 ∨ cy = 4
    · have hq := HP.out
      rw [if_pos hN] at hq
      subst hq
      rcases hN with hN | hN
      · have b1 : ((cx : Int) == 4) = true := by rw [hN]; rfl
        clear hN
        go_wp2_with fail
        go_region_held3 (fun w' => Cells2 w' w.heap.size e m)
          (first | exact HCC.out | exact HCC.out.ext (by (repeat apply Ext.drew); first | exact Ext.refl _ | assumption))
          (first
            | (go_at_call 29; refine (HNA.out _).mono ?_; rintro r w2 ⟨rfl, hx2⟩; have hE : Ext wc w2 := Ext.trans (by (repeat apply Ext.drew); first | exact Ext.refl _ | assumption) hx2; clear hx2)
            | (go_at_call 30; refine (HHE.out _).mono ?_; rintro r w3 ⟨rfl, hx3⟩; have hE3 : Ext wc w3 := Ext.trans (by (repeat apply Ext.drew); first | exact Ext.refl _ | assumption) hx3; clear hx3))
        all_goals go_wp2_with fail
        all_goals simp [bodyPost, results, Oacg.results19, go_sem]
        all_goals exact HXw.out.trans (by (repeat apply Ext.drew); assumption)

      · have b2 : ((cy : Int) == 4) = true := by rw [hN]; rfl
        clear hN
        cases b1 : ((cx : Int) == 4)
        all_goals
          go_wp2_with fail
          go_region_held3 (fun w' => Cells2 w' w.heap.size e m)
            (first | exact HCC.out | exact HCC.out.ext (by (repeat apply Ext.drew); first | exact Ext.refl _ | assumption))
            (first
              | (go_at_call 29; refine (HNA.out _).mono ?_; rintro r w2 ⟨rfl, hx2⟩; have hE : Ext wc w2 := Ext.trans (by (repeat apply Ext.drew); first | exact Ext.refl _ | assumption) hx2; clear hx2)
              | (go_at_call 30; refine (HHE.out _).mono ?_; rintro r w3 ⟨rfl, hx3⟩; have hE3 : Ext wc w3 := Ext.trans (by (repeat apply Ext.drew); first | exact Ext.refl _ | assumption) hx3; clear hx3))
          all_goals go_wp2_with fail
          all_goals simp [bodyPost, results, Oacg.results19, go_sem]
          all_goals exact HXw.out.trans (by (repeat apply Ext.drew); assumption)

    have b1 : ((cx : Int) == 4) = false := by rw [beq_eq_false_iff_ne]; omega
    have b2 : ((cy : Int) == 4) = false := by rw [beq_eq_false_iff_ne]; omega
    have hcx : cx = 0 ∨ cx = 3 ∨ (cx = 1 ∨ cx = 2) := by have := HCX.out; omega
    have hcy : cy = 0 ∨ cy = 3 ∨ (cy = 1 ∨ cy = 2) := by have := HCY.out; omega
    have hq := HP.out
    rw [if_neg hN] at hq
    clear HP HHE
    rcases hcx with hxv | hxv | hxv <;> rcases hcy with hyv | hyv | hyv
    · have x3 : ((cx : Int) == 3) = false := by rw [beq_eq_false_iff_ne]; omega
      have x0 : ((cx : Int) == 0) = true := by rw [hxv]; rfl
      have y3 : ((cy : Int) == 3) = false := by rw [beq_eq_false_iff_ne]; omega
      have y0 : ((cy : Int) == 0) = true := by rw [hyv]; rfl
      rw [if_neg (by omega), if_neg (by omega), if_neg (by omega)] at hq
      have HA2 := hide (HAF.out (fun _ => HZX.out.2 (by omega)) (fun _ => HZY.out.2 (by omega)))
      generalize afP e m mode nx cx ex mx ny cy ey my = AP at *
      subst hq
      clear hN hxv hyv HCX HCY HZX HZY HAF HNA HIN
      go_wp2_with fail
      refine (HA2.out _).mono ?_
      rintro _ w2 ⟨rfl, hx2⟩
      have HX2 := hide (HXw.out.trans hx2)
      clear hx2
      go_wp2_with fail
      simp [bodyPost, results, Oacg.results19, go_sem]
      first | exact HX2.out | exact ⟨rfl, HX2.out⟩
    · have x3 : ((cx : Int) == 3) = false := by rw [beq_eq_false_iff_ne]; omega
      have x0 : ((cx : Int) == 0) = true := by rw [hxv]; rfl
      have y3 : ((cy : Int) == 3) = true := by rw [hyv]; rfl
      have y0 : ((cy : Int) == 0) = false := by rw [beq_eq_false_iff_ne]; omega
      rw [if_neg (by omega), if_neg (by omega), if_pos (by omega)] at hq
      subst hq
      clear hN hxv hyv HCX HCY HZX HZY HAF HNA
      go_wp2_with fail
      refine (HIN.out _ _).mono ?_
      rintro _ w2 ⟨rfl, hx2⟩
      have HX2 := hide (HXw.out.trans hx2)
      clear hx2
      go_wp2_with fail
      simp [bodyPost, results, Oacg.results19, go_sem]
      first | exact HX2.out | exact ⟨rfl, HX2.out⟩
    · have x3 : ((cx : Int) == 3) = false := by rw [beq_eq_false_iff_ne]; omega
      have x0 : ((cx : Int) == 0) = true := by rw [hxv]; rfl
      have y3 : ((cy : Int) == 3) = false := by rw [beq_eq_false_iff_ne]; omega
      have y0 : ((cy : Int) == 0) = false := by rw [beq_eq_false_iff_ne]; omega
      rw [if_neg (by omega), if_neg (by omega), if_neg (by omega)] at hq
      have HA2 := hide (HAF.out (fun _ => HZX.out.2 (by omega)) (fun _ => HZY.out.2 (by omega)))
      generalize afP e m mode nx cx ex mx ny cy ey my = AP at *
      subst hq
      clear hN hxv hyv HCX HCY HZX HZY HAF HNA HIN
      go_wp2_with fail
      refine (HA2.out _).mono ?_
      rintro _ w2 ⟨rfl, hx2⟩
      have HX2 := hide (HXw.out.trans hx2)
      clear hx2
      go_wp2_with fail
      simp [bodyPost, results, Oacg.results19, go_sem]
      first | exact HX2.out | exact ⟨rfl, HX2.out⟩
    · have x3 : ((cx : Int) == 3) = true := by rw [hxv]; rfl
      have x0 : ((cx : Int) == 0) = false := by rw [beq_eq_false_iff_ne]; omega
      have y3 : ((cy : Int) == 3) = false := by rw [beq_eq_false_iff_ne]; omega
      have y0 : ((cy : Int) == 0) = true := by rw [hyv]; rfl
      rw [if_neg (by omega), if_pos (by omega)] at hq
      subst hq
      clear hN hxv hyv HCX HCY HZX HZY HAF HNA
      go_wp2_with fail
      refine (HIN.out _ _).mono ?_
      rintro _ w2 ⟨rfl, hx2⟩
      have HX2 := hide (HXw.out.trans hx2)
      clear hx2
      go_wp2_with fail
      simp [bodyPost, results, Oacg.results19, go_sem]
      first | exact HX2.out | exact ⟨rfl, HX2.out⟩
    · have x3 : ((cx : Int) == 3) = true := by rw [hxv]; rfl
      have x0 : ((cx : Int) == 0) = false := by rw [beq_eq_false_iff_ne]; omega
      have y3 : ((cy : Int) == 3) = true := by rw [hyv]; rfl
      have y0 : ((cy : Int) == 0) = false := by rw [beq_eq_false_iff_ne]; omega
      cases nx <;> cases ny
      all_goals
        first
          | rw [if_pos ⟨hxv, hyv, by decide⟩] at hq
          | rw [if_neg (fun hh => hh.2.2 rfl), if_pos hxv] at hq
      all_goals subst hq
      all_goals clear hN hxv hyv HCX HCY HZX HZY HAF
      all_goals go_wp2_with fail
      all_goals first | refine (HNA.out _).mono ?_ | refine (HIN.out _ _).mono ?_
      all_goals rintro _ w2 ⟨rfl, hx2⟩
      all_goals have HX2 := hide (HXw.out.trans hx2)
      all_goals clear hx2
      all_goals go_wp2_with fail
      all_goals simp [bodyPost, results, Oacg.results19, go_sem]
      all_goals first | exact HX2.out | exact ⟨rfl, HX2.out⟩
    · have x3 : ((cx : Int) == 3) = true := by rw [hxv]; rfl
      have x0 : ((cx : Int) == 0) = false := by rw [beq_eq_false_iff_ne]; omega
      have y3 : ((cy : Int) == 3) = false := by rw [beq_eq_false_iff_ne]; omega
      have y0 : ((cy : Int) == 0) = false := by rw [beq_eq_false_iff_ne]; omega
      rw [if_neg (by omega), if_pos (by omega)] at hq
      subst hq
      clear hN hxv hyv HCX HCY HZX HZY HAF HNA
      go_wp2_with fail
      refine (HIN.out _ _).mono ?_
      rintro _ w2 ⟨rfl, hx2⟩
      have HX2 := hide (HXw.out.trans hx2)
      clear hx2
      go_wp2_with fail
      simp [bodyPost, results, Oacg.results19, go_sem]
      first | exact HX2.out | exact ⟨rfl, HX2.out⟩
    · have x3 : ((cx : Int) == 3) = false := by rw [beq_eq_false_iff_ne]; omega
      have x0 : ((cx : Int) == 0) = false := by rw [beq_eq_false_iff_ne]; omega
      have y3 : ((cy : Int) == 3) = false := by rw [beq_eq_false_iff_ne]; omega
      have y0 : ((cy : Int) == 0) = true := by rw [hyv]; rfl
      rw [if_neg (by omega), if_neg (by omega), if_neg (by omega)] at hq
      have HA2 := hide (HAF.out (fun _ => HZX.out.2 (by omega)) (fun _ => HZY.out.2 (by omega)))
      generalize afP e m mode nx cx ex mx ny cy ey my = AP at *
      subst hq
      clear hN hxv hyv HCX HCY HZX HZY HAF HNA HIN
      go_wp2_with fail
      refine (HA2.out _).mono ?_
      rintro _ w2 ⟨rfl, hx2⟩
      have HX2 := hide (HXw.out.trans hx2)
      clear hx2
      go_wp2_with fail
      simp [bodyPost, results, Oacg.results19, go_sem]
      first | exact HX2.out | exact ⟨rfl, HX2.out⟩
    · have x3 : ((cx : Int) == 3) = false := by rw [beq_eq_false_iff_ne]; omega
      have x0 : ((cx : Int) == 0) = false := by rw [beq_eq_false_iff_ne]; omega
      have y3 : ((cy : Int) == 3) = true := by rw [hyv]; rfl
      have y0 : ((cy : Int) == 0) = false := by rw [beq_eq_false_iff_ne]; omega
      rw [if_neg (by omega), if_neg (by omega), if_pos (by omega)] at hq
      subst hq
      clear hN hxv hyv HCX HCY HZX HZY HAF HNA
      go_wp2_with fail
      refine (HIN.out _ _).mono ?_
      rintro _ w2 ⟨rfl, hx2⟩
      have HX2 := hide (HXw.out.trans hx2)
      clear hx2
      go_wp2_with fail
      simp [bodyPost, results, Oacg.results19, go_sem]
      first | exact HX2.out | exact ⟨rfl, HX2.out⟩
    · have x3 : ((cx : Int) == 3) = false := by rw [beq_eq_false_iff_ne]; omega
      have x0 : ((cx : Int) == 0) = false := by rw [beq_eq_false_iff_ne]; omega
      have y3 : ((cy : Int) == 3) = false := by rw [beq_eq_false_iff_ne]; omega
      have y0 : ((cy : Int) == 0) = false := by rw [beq_eq_false_iff_ne]; omega
      rw [if_neg (by omega), if_neg (by omega), if_neg (by omega)] at hq
      have HA2 := hide (HAF.out (fun _ => HZX.out.2 (by omega)) (fun _ => HZY.out.2 (by omega)))
      generalize afP e m mode nx cx ex mx ny cy ey my = AP at *
      subst hq
      clear hN hxv hyv HCX HCY HZX HZY HAF HNA HIN
      go_wp2_with fail
      refine (HA2.out _).mono ?_
      rintro _ w2 ⟨rfl, hx2⟩
      have HX2 := hide (HXw.out.trans hx2)
      clear hx2
      go_wp2_with fail
      simp [bodyPost, results, Oacg.results19, go_sem]
      first | exact HX2.out | exact ⟨rfl, HX2.out⟩
end Go.Proofs.YgcoacGreat
