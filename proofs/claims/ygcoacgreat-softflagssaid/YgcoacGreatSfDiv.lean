/-
  soft.DivFlags.
-/
import Derived.Test.YgcoacGreatSfI
namespace Go.Proofs.YgcoacGreat
open Go.RowKit
set_option linter.unusedSimpArgs false
set_option linter.unusedVariables false

set_option maxRecDepth 20000 in
set_option maxHeartbeats 4000000 in
theorem sdivFlags_any (e m : Nat) (h : Fm e m) (mode : Int) (x y : Nat) (hx : x < 18446744073709551616) (hy : y < 18446744073709551616) (w : World) :
    Calls Oacg.prog 22 #[.agg #[.int .u8 (e : Int), .int .u8 (m : Int)], .int .u8 mode, .int .u64 (x : Int), .int .u64 (y : Int)] w fun r w' => r = .returned (.tuple #[.int .u64 ((fdivP e m mode x y).1 : Int), .int .u8 (fdivP e m mode x y).2]) ∧ Ext w w' := by
  have H := hide h
  have hok := okB_fm h
  have HUx := hide (unpack_any e m h x hx)
  have HUy := hide (unpack_any e m h y hy)
  unfold parts at HUx HUy
  have HNA := hide (theNaN_any e m h)
  have HHE := hide (sheard_any e m h x y hx hy)
  have HZE := hide (fun b => szero_any e m h b)
  have HIN := hide (fun b => inf_any e m h b)
  have HBX := Box.mk (pExp_bd h x)
  have HBY := Box.mk (pExp_bd h y)
  have HMX := Box.mk (pMan_bd h x)
  have HMY := Box.mk (pMan_bd h y)
  have HMX6 := Box.mk (pMan_u64 h x)
  have HMY6 := Box.mk (pMan_u64 h y)
  have HCX := Box.mk (cls_cases e m x)
  have HCY := Box.mk (cls_cases e m y)
  have HZX : Box ((cls e m x = 0 → pMan e m x = 0) ∧ (cls e m x = 1 ∨ cls e m x = 2 → 2 ^ m ≤ pMan e m x)) := ⟨pMan_facts h x⟩
  have HZY : Box ((cls e m y = 0 → pMan e m y = 0) ∧ (cls e m y = 1 ∨ cls e m y = 2 → 2 ^ m ≤ pMan e m y)) := ⟨pMan_facts h y⟩
  have HTX := hide (fun (q1 : -20000 ≤ pExp e m x) (q2 : pExp e m x ≤ 20000) q3 => top_any e m h (pNeg e m x) (cls e m x : Int) (pExp e m x) q1 q2 (pMan e m x) q3)
  have HTY := hide (fun (q1 : -20000 ≤ pExp e m y) (q2 : pExp e m y ≤ 20000) q3 => top_any e m h (pNeg e m y) (cls e m y : Int) (pExp e m y) q1 q2 (pMan e m y) q3)
  have HDV := hide (fun a d h1 h2 => wDiv_any a d h1 h2)
  have HRP := hide (fun neg p h1 h2 s hs => roundPack_any e m h mode neg p h1 h2 s hs)
  have HRL := hide (fun neg A B j k p q P (hA : A = pMan e m x * 2 ^ j) (hB : B = pMan e m y * 2 ^ k) hP h1 h2 h3 => rnd_div h mode neg (a := pMan e m x) (b := pMan e m y) (A := A) (B := B) (j := j) (k := k) (p := p) (q := q) (P := P) hA hB hP h1 h2 h3)
  obtain ⟨P, hP⟩ : ∃ P, fdivP e m mode x y = P := ⟨_, rfl⟩
  rw [hP]
  have hP := fdivP_parts hP
  obtain ⟨h1, h2, h3, h4⟩ := h
  clear hx hy
  generalize pNeg e m x = nx at *
  generalize pNeg e m y = ny at *
  generalize cls e m x = cx at *
  generalize cls e m y = cy at *
  generalize pExp e m x = ex at *
  generalize pExp e m y = ey at *
  generalize pMan e m x = mx at *
  generalize pMan e m y = my at *
  generalize heardF e m x y = hF at *
  generalize nanV e m = nV at *
  have HP := Box.mk hP
  clear hP
  obtain ⟨W0, hW0⟩ : ∃ W0, W0 = ((w.alloc (.cells #[.int .u8 (e : Int), .int .u8 (m : Int)] 23)).alloc (.cells #[.int .u8 (e : Int), .int .u8 (m : Int)] 23)) := ⟨_, rfl⟩
  have d0 : W0.cell? ⟨w.heap.size, 0, none⟩ = some (.int .u8 (e : Int)) := by rw [hW0]; simp [go_sem]
  have d1 : W0.cell? ⟨w.heap.size, 1, none⟩ = some (.int .u8 (m : Int)) := by rw [hW0]; simp [go_sem]
  have hy1 : w.heap.size < W0.heap.size := by rw [hW0]; simp; omega
  have hy1' : w.heap.size < W0.heap.size + 1 := by omega
  have m0 : ¬ W0.heap.size = w.heap.size := by omega
  have m0' : ¬ W0.heap.size + 1 = w.heap.size := by omega
  have HW0 : Hid (Ext w W0) := by rw [hW0]; exact ((Ext.refl _).alloc _ _).alloc _ _
  have HD0 : Hid (Cells2 W0 w.heap.size e m) := ⟨d0, d1⟩
  go_enter Oacg.func22, Oacg.ntmps22
  go_wp2_with (first | (go_at_call 4; refine (ok_any _ _ _).mono ?_; rintro r w' ⟨rfl, rfl⟩))
  rw [← hW0]
  clear hW0
  have tok1 : True := trivial
  go_cut [10, 11] (fun v7 v8 wx => ∃ B1 B2, v7 = .pointer (some ⟨B1, 0, none⟩) ∧ v8 = .pointer (some ⟨B2, 0, none⟩) ∧ B1 ≠ B2 ∧ W0.heap.size ≤ B1 ∧ W0.heap.size ≤ B2 ∧ Hid (Ext W0 wx) ∧
      Pt4 wx B1 (.bool nx) (.int .i8 (cx : Int)) (.int .i16 ex) (.int .u64 (mx : Int)) ∧ Pt4 wx B2 (.bool ny) (.int .i8 (cy : Int)) (.int .i16 ey) (.int .u64 (my : Int)))
  case first =>
    go_region_held3 (fun w' => w'.cell? ⟨w.heap.size, 0, none⟩ = some (.int .u8 (e : Int)) ∧ w'.cell? ⟨w.heap.size, 1, none⟩ = some (.int .u8 (m : Int)))
      (first | (simp [go_sem, d0, d1, hy1, hy1']; done) | (simp [go_sem, e0, e1, y1, y1']; done) | (simp [go_sem, g0, g1, y2, y2', m0, m0', m1, m1']; done))
      (first
        | (go_at_call 27; have _t := tok1; refine (HUx.out _).mono ?_; rintro r w1 ⟨rfl, hx1⟩; clear tok1; have HX1 : Hid (Ext W0 w1) := Ext.trans (by (repeat (first | apply Ext.drew | apply Ext.alloc)); exact Ext.refl _) hx1; obtain ⟨q1, f1, z1⟩ := hx1.rule; obtain ⟨y1, y1'⟩ := lt2p (Nat.lt_of_lt_of_le hy1 HX1.out.size); have e0 := HX1.out.cell d0; have e1 := HX1.out.cell d1; have m1 : ¬ w1.heap.size = w.heap.size := Nat.ne_of_gt y1; have m1' : ¬ w1.heap.size + 1 = w.heap.size := Nat.ne_of_gt y1'; (try (have hE : Ext (W0.alloc (.cells #[.bool false, .int .i8 0, .int .i16 0, .int .u64 0] 44)) w1 := Ext.trans (Ext.drew (Ext.refl _)) hx1; obtain ⟨a1, a1', l1⟩ := pk1p hE; have L1 := hide l1; clear hE l1)); (try (have hE : Ext ((W0.alloc (.cells #[.bool false, .int .i8 0, .int .i16 0, .int .u64 0] 44)).alloc (.cells #[.bool false, .int .i8 0, .int .i16 0, .int .u64 0] 44)) w1 := Ext.trans (Ext.drew (Ext.refl _)) hx1; obtain ⟨a1, a1', l1, a2, a2', l2⟩ := pk2p hE; have L1 := hide l1; have L2 := hide l2; clear hE l1 l2)); clear hx1)
        | (go_at_call 27; refine (HUy.out _).mono ?_; rintro r w2 ⟨rfl, hx2⟩; have HX2 : Hid (Ext w1 w2) := Ext.trans (by (repeat (first | apply Ext.drew | apply Ext.alloc)); exact Ext.refl _) hx2; obtain ⟨q2, f2, z2⟩ := hx2.rule; have g0 := HX2.out.cell e0; have g1 := HX2.out.cell e1; obtain ⟨y2, y2'⟩ := lt2p (Nat.lt_of_lt_of_le y1 HX2.out.size); (try (have hE : W0.heap.size < w2.heap.size := Nat.lt_of_lt_of_le a1 HX2.out.size; obtain ⟨a3, a3'⟩ := lt2p hE; clear hE)); (try (have hE : W0.heap.size + 1 < w2.heap.size := Nat.lt_of_lt_of_le a2 HX2.out.size; obtain ⟨a4, a4'⟩ := lt2p hE; clear hE)); (try (have hE : Ext (w1.alloc (.cells #[.bool false, .int .i8 0, .int .i16 0, .int .u64 0] 44)) w2 := hx2; obtain ⟨a5, a5', l3⟩ := pk1p hE; have L3 := hide l3; clear hE l3)); (try (have hE : Ext ((w1.alloc (.cells #[.bool false, .int .i8 0, .int .i16 0, .int .u64 0] 44)).alloc (.cells #[.bool false, .int .i8 0, .int .i16 0, .int .u64 0] 44)) w2 := hx2; obtain ⟨a5, a5', l3, a6, a6', l4⟩ := pk2p hE; have L3 := hide l3; have L4 := hide l4; clear hE l3 l4)); clear hx2))
    all_goals go_wp2_with fail
    all_goals go_meet
    all_goals
      have s1 : W0.heap.size ≤ w1.heap.size := HX1.out.size
      have s1' : W0.heap.size ≤ w1.heap.size + 1 := Nat.le_succ_of_le s1
      have s2 : w1.heap.size ≤ w2.heap.size := HX2.out.size
      have s2' : W0.heap.size ≤ w2.heap.size := Nat.le_trans s1 s2
      have s2'' : W0.heap.size ≤ w2.heap.size + 1 := Nat.le_succ_of_le s2'
      have hxx : Ext W0 w2 := HX1.out.trans HX2.out
      (try (have l1 : NL1 w2 W0.heap.size 0 ∧ NL1 w2 W0.heap.size 1 ∧ NL1 w2 W0.heap.size 2 ∧ NL1 w2 W0.heap.size 3 := four (fun i hi => R.nlExt (L1.out i hi) HX2.out)))
      (try (have l2 : NL1 w2 (W0.heap.size + 1) 0 ∧ NL1 w2 (W0.heap.size + 1) 1 ∧ NL1 w2 (W0.heap.size + 1) 2 ∧ NL1 w2 (W0.heap.size + 1) 3 := four (fun i hi => R.nlExt (L2.out i hi) HX2.out)))
      (try (have l3 : NL1 w2 w1.heap.size 0 ∧ NL1 w2 w1.heap.size 1 ∧ NL1 w2 w1.heap.size 2 ∧ NL1 w2 w1.heap.size 3 := four L3.out))
      (try (have l4 : NL1 w2 (w1.heap.size + 1) 0 ∧ NL1 w2 (w1.heap.size + 1) 1 ∧ NL1 w2 (w1.heap.size + 1) 2 ∧ NL1 w2 (w1.heap.size + 1) 3 := four L4.out))
      clear q1 f1 z1 q2 f2 z2 m0 m0' m1 m1' d0 d1 e0 e1 g0 g1 hy1 hy1' y1 y1' y2 y2'
      refine ⟨_, _, rfl, rfl, ?_, ?_, ?_, ?_, ?_, ?_⟩
      · omega
      · omega
      · omega
      · show Ext _ _
        simp (maxDischargeDepth := 100) only [R.extAlloc, R.extDrew, R.extSet, Nat.le_refl, Nat.le_add_right, s1, s1', s2', s2'', hxx]
      · (try simp (maxDischargeDepth := 100) only [Pt4, R.cellSame, R.cellOffLt, R.cellOffGt, R.cellLt, R.cellGt, R.cellPast, R.cellNew, R.cellDrew, R.nlSet, R.nlAlloc, R.nlDrew, World.size_setCell, World.size_alloc, R.n64, R.ni8, R.ni16, R.nb, R.ns, eq_self, and_self, Nat.reduceLT, Nat.lt_add_one, *])
        all_goals (first | exact ⟨rfl, rfl, rfl, rfl⟩ | trace_state)
      · (try simp (maxDischargeDepth := 100) only [Pt4, R.cellSame, R.cellOffLt, R.cellOffGt, R.cellLt, R.cellGt, R.cellPast, R.cellNew, R.cellDrew, R.nlSet, R.nlAlloc, R.nlDrew, World.size_setCell, World.size_alloc, R.n64, R.ni8, R.ni16, R.nb, R.ns, eq_self, and_self, Nat.reduceLT, Nat.lt_add_one, *])
        all_goals (first | exact ⟨rfl, rfl, rfl, rfl⟩ | trace_state)

  case rest =>
    obtain ⟨B1, B2, rfl, rfl, hB, hB1, hB2, HX, o1, o2⟩ := hcut
    have HO1 := hide o1
    have HO2 := hide o2
    obtain ⟨o10, o11, o12, o13⟩ := o1
    obtain ⟨o20, o21, o22, o23⟩ := o2
    have HXw := hide (HW0.out.trans HX.out)
    have HCC := hide (HD0.out.ext HX.out)
    obtain ⟨a0, a1⟩ := HCC.out
    clear d0 d1 hy1 hy1' m0 m0' tok1 HX HD0 HW0 HUx HUy
    by_cases hN : cx = 4 ∨ cy = 4
    · have hq := HP.out
      rw [if_pos hN] at hq
      subst hq
      rcases hN with hN | hN
      · have b1 : ((cx : Int) == 4) = true := by rw [hN]; rfl
        clear hN
        go_wp2_with fail
        go_region_held3 (fun w' => Cells2 w' w.heap.size e m)
          (first | exact HCC.out | exact HCC.out.ext (by (repeat apply Ext.drew); first | exact Ext.refl _ | assumption))
          (first
            | (go_at_call 29; refine (HNA.out _).mono ?_; rintro r w2 ⟨rfl, hx2⟩; have hE : Ext wc w2 := Ext.trans (by (repeat apply Ext.drew); first | exact Ext.refl _ | assumption) hx2; clear hx2)
            | (go_at_call 30; refine (HHE.out _).mono ?_; rintro r w3 ⟨rfl, hx3⟩; have hE3 : Ext wc w3 := Ext.trans (by (repeat apply Ext.drew); first | exact Ext.refl _ | assumption) hx3; clear hx3))
        all_goals go_wp2_with fail
        all_goals simp [bodyPost, results, Oacg.results22, go_sem]
        all_goals exact HXw.out.trans (by (repeat apply Ext.drew); assumption)

      · have b2 : ((cy : Int) == 4) = true := by rw [hN]; rfl
        clear hN
        cases b1 : ((cx : Int) == 4)
        all_goals
          go_wp2_with fail
          go_region_held3 (fun w' => Cells2 w' w.heap.size e m)
            (first | exact HCC.out | exact HCC.out.ext (by (repeat apply Ext.drew); first | exact Ext.refl _ | assumption))
            (first
              | (go_at_call 29; refine (HNA.out _).mono ?_; rintro r w2 ⟨rfl, hx2⟩; have hE : Ext wc w2 := Ext.trans (by (repeat apply Ext.drew); first | exact Ext.refl _ | assumption) hx2; clear hx2)
              | (go_at_call 30; refine (HHE.out _).mono ?_; rintro r w3 ⟨rfl, hx3⟩; have hE3 : Ext wc w3 := Ext.trans (by (repeat apply Ext.drew); first | exact Ext.refl _ | assumption) hx3; clear hx3))
          all_goals go_wp2_with fail
          all_goals simp [bodyPost, results, Oacg.results22, go_sem]
          all_goals exact HXw.out.trans (by (repeat apply Ext.drew); assumption)

    have b1 : ((cx : Int) == 4) = false := by rw [beq_eq_false_iff_ne]; omega
    have b2 : ((cy : Int) == 4) = false := by rw [beq_eq_false_iff_ne]; omega
    have hcx : cx = 0 ∨ cx = 3 ∨ (cx = 1 ∨ cx = 2) := by have := HCX.out; omega
    have hcy : cy = 0 ∨ cy = 3 ∨ (cy = 1 ∨ cy = 2) := by have := HCY.out; omega
    have hq := HP.out
    rw [if_neg hN] at hq
    clear HP HHE
    rcases hcx with hxv | hxv | hxv <;> rcases hcy with hyv | hyv | hyv
    · have x3 : ((cx : Int) == 3) = false := by rw [beq_eq_false_iff_ne]; omega
      have x0 : ((cx : Int) == 0) = true := by rw [hxv]; rfl
      have y3 : ((cy : Int) == 3) = false := by rw [beq_eq_false_iff_ne]; omega
      have y0 : ((cy : Int) == 0) = true := by rw [hyv]; rfl
      rw [if_pos (by omega)] at hq
      subst hq
      clear hN hxv hyv HCX HCY HZX HZY HTX HTY HDV HRP HRL HZE HIN
      go_wp2_with fail
      refine (HNA.out _).mono ?_
      rintro _ w2 ⟨rfl, hx2⟩
      have HX2 := hide (HXw.out.trans hx2)
      clear hx2
      go_wp2_with fail
      simp [bodyPost, results, Oacg.results22, go_sem]
      first | exact HX2.out | exact ⟨rfl, HX2.out⟩
    · have x3 : ((cx : Int) == 3) = false := by rw [beq_eq_false_iff_ne]; omega
      have x0 : ((cx : Int) == 0) = true := by rw [hxv]; rfl
      have y3 : ((cy : Int) == 3) = true := by rw [hyv]; rfl
      have y0 : ((cy : Int) == 0) = false := by rw [beq_eq_false_iff_ne]; omega
      rw [if_neg (by omega), if_neg (by omega), if_neg (by omega), if_pos (by omega)] at hq
      subst hq
      clear hN hxv hyv HCX HCY HZX HZY HTX HTY HDV HRP HRL HIN HNA
      go_wp2_with fail
      refine (HZE.out _ _).mono ?_
      rintro _ w2 ⟨rfl, hx2⟩
      have HX2 := hide (HXw.out.trans hx2)
      clear hx2
      go_wp2_with fail
      simp [bodyPost, results, Oacg.results22, go_sem]
      first | exact HX2.out | exact ⟨rfl, HX2.out⟩
    · have x3 : ((cx : Int) == 3) = false := by rw [beq_eq_false_iff_ne]; omega
      have x0 : ((cx : Int) == 0) = true := by rw [hxv]; rfl
      have y3 : ((cy : Int) == 3) = false := by rw [beq_eq_false_iff_ne]; omega
      have y0 : ((cy : Int) == 0) = false := by rw [beq_eq_false_iff_ne]; omega
      rw [if_neg (by omega), if_neg (by omega), if_neg (by omega), if_neg (by omega)] at hq
      have hz := HZX.out.1 hxv
      rw [hz, show ∀ p, shN 0 p = 0 from fun p => Nat.zero_mul _, Nat.zero_mul] at hq
      unfold rndV rndF at hq
      rw [if_pos rfl, if_pos rfl] at hq
      subst hq
      clear hN hxv hyv HCX HCY HZX HZY HTX HTY HDV HRP HRL HIN HNA hz
      go_wp2_with fail
      refine (HZE.out _ _).mono ?_
      rintro _ w2 ⟨rfl, hx2⟩
      have HX2 := hide (HXw.out.trans hx2)
      clear hx2
      go_wp2_with fail
      simp [bodyPost, results, Oacg.results22, go_sem]
      first | exact HX2.out | exact ⟨rfl, HX2.out⟩
    · have x3 : ((cx : Int) == 3) = true := by rw [hxv]; rfl
      have x0 : ((cx : Int) == 0) = false := by rw [beq_eq_false_iff_ne]; omega
      have y3 : ((cy : Int) == 3) = false := by rw [beq_eq_false_iff_ne]; omega
      have y0 : ((cy : Int) == 0) = true := by rw [hyv]; rfl
      rw [if_neg (by omega), if_pos (by omega)] at hq
      subst hq
      clear hN hxv hyv HCX HCY HZX HZY HTX HTY HDV HRP HRL HZE HNA
      go_wp2_with fail
      refine (HIN.out _ _).mono ?_
      rintro _ w2 ⟨rfl, hx2⟩
      have HX2 := hide (HXw.out.trans hx2)
      clear hx2
      go_wp2_with fail
      simp [bodyPost, results, Oacg.results22, go_sem]
      first | exact HX2.out | exact ⟨rfl, HX2.out⟩
    · have x3 : ((cx : Int) == 3) = true := by rw [hxv]; rfl
      have x0 : ((cx : Int) == 0) = false := by rw [beq_eq_false_iff_ne]; omega
      have y3 : ((cy : Int) == 3) = true := by rw [hyv]; rfl
      have y0 : ((cy : Int) == 0) = false := by rw [beq_eq_false_iff_ne]; omega
      rw [if_pos (by omega)] at hq
      subst hq
      clear hN hxv hyv HCX HCY HZX HZY HTX HTY HDV HRP HRL HZE HIN
      go_wp2_with fail
      refine (HNA.out _).mono ?_
      rintro _ w2 ⟨rfl, hx2⟩
      have HX2 := hide (HXw.out.trans hx2)
      clear hx2
      go_wp2_with fail
      simp [bodyPost, results, Oacg.results22, go_sem]
      first | exact HX2.out | exact ⟨rfl, HX2.out⟩
    · have x3 : ((cx : Int) == 3) = true := by rw [hxv]; rfl
      have x0 : ((cx : Int) == 0) = false := by rw [beq_eq_false_iff_ne]; omega
      have y3 : ((cy : Int) == 3) = false := by rw [beq_eq_false_iff_ne]; omega
      have y0 : ((cy : Int) == 0) = false := by rw [beq_eq_false_iff_ne]; omega
      rw [if_neg (by omega), if_pos (by omega)] at hq
      subst hq
      clear hN hxv hyv HCX HCY HZX HZY HTX HTY HDV HRP HRL HZE HNA
      go_wp2_with fail
      refine (HIN.out _ _).mono ?_
      rintro _ w2 ⟨rfl, hx2⟩
      have HX2 := hide (HXw.out.trans hx2)
      clear hx2
      go_wp2_with fail
      simp [bodyPost, results, Oacg.results22, go_sem]
      first | exact HX2.out | exact ⟨rfl, HX2.out⟩
    · have x3 : ((cx : Int) == 3) = false := by rw [beq_eq_false_iff_ne]; omega
      have x0 : ((cx : Int) == 0) = false := by rw [beq_eq_false_iff_ne]; omega
      have y3 : ((cy : Int) == 3) = false := by rw [beq_eq_false_iff_ne]; omega
      have y0 : ((cy : Int) == 0) = true := by rw [hyv]; rfl
      rw [if_neg (by omega), if_neg (by omega), if_pos (by omega)] at hq
      subst hq
      clear hN hxv hyv HCX HCY HZX HZY HTX HTY HDV HRP HRL HZE HNA
      go_wp2_with fail
      refine (HIN.out _ _).mono ?_
      rintro _ w2 ⟨rfl, hx2⟩
      have HX2 := hide (HXw.out.trans hx2)
      clear hx2
      go_wp2_with fail
      simp [bodyPost, results, Oacg.results22, go_sem]
      first | exact HX2.out | exact ⟨rfl, HX2.out⟩
    · have x3 : ((cx : Int) == 3) = false := by rw [beq_eq_false_iff_ne]; omega
      have x0 : ((cx : Int) == 0) = false := by rw [beq_eq_false_iff_ne]; omega
      have y3 : ((cy : Int) == 3) = true := by rw [hyv]; rfl
      have y0 : ((cy : Int) == 0) = false := by rw [beq_eq_false_iff_ne]; omega
      rw [if_neg (by omega), if_neg (by omega), if_neg (by omega), if_pos (by omega)] at hq
      subst hq
      clear hN hxv hyv HCX HCY HZX HZY HTX HTY HDV HRP HRL HIN HNA
      go_wp2_with fail
      refine (HZE.out _ _).mono ?_
      rintro _ w2 ⟨rfl, hx2⟩
      have HX2 := hide (HXw.out.trans hx2)
      clear hx2
      go_wp2_with fail
      simp [bodyPost, results, Oacg.results22, go_sem]
      first | exact HX2.out | exact ⟨rfl, HX2.out⟩
    · have x3 : ((cx : Int) == 3) = false := by rw [beq_eq_false_iff_ne]; omega
      have x0 : ((cx : Int) == 0) = false := by rw [beq_eq_false_iff_ne]; omega
      have y3 : ((cy : Int) == 3) = false := by rw [beq_eq_false_iff_ne]; omega
      have y0 : ((cy : Int) == 0) = false := by rw [beq_eq_false_iff_ne]; omega
      rw [if_neg (by omega), if_neg (by omega), if_neg (by omega), if_neg (by omega)] at hq
      have hmx := HZX.out.2 hxv
      have hmy := HZY.out.2 hyv
      have hbe := HBX.out
      have hbf := HBY.out
      obtain ⟨u, hu⟩ : ∃ u, 63 - m = u := ⟨_, rfl⟩
      have hax2 := man_top (by omega) HMX.out
      have hay2 := man_top (by omega) HMY.out
      have hax1 : 9223372036854775808 ≤ mx * 2 ^ (63 - m) := top_ge (by omega) hmx
      have hay1 : 9223372036854775808 ≤ my * 2 ^ (63 - m) := top_ge (by omega) hmy
      have HTX2 := hide (HTX.out (by omega) (by omega) HMX.out)
      have HTY2 := hide (HTY.out (by omega) (by omega) HMY.out)
      obtain ⟨r1, r2⟩ := HRL.out (nx != ny) (mx * 2 ^ (63 - m)) (my * 2 ^ (63 - m)) (63 - m) (63 - m) ex ey (ex - ((63 - m : Nat) : Int) - (ey - ((63 - m : Nat) : Int)) - 63) rfl rfl rfl hax1 (by omega) hay2
      rw [hu] at hax1 hax2 hay1 hay2 r1 r2 HTX2 HTY2
      rw [r1, r2] at hq
      clear r1 r2
      obtain ⟨AX, hAX⟩ : ∃ v, mx * 2 ^ u = v := ⟨_, rfl⟩
      obtain ⟨AY, hAY⟩ : ∃ v, my * 2 ^ u = v := ⟨_, rfl⟩
      rw [hAX] at hax1 hax2 HTX2 hq
      rw [hAY] at hay1 hay2 HTY2 hq
      have HDV2 := hide (HDV.out (AX * 9223372036854775808) AY (by omega) hay2)
      have hql : AX * 9223372036854775808 / AY < 18446744073709551616 := by
        rw [Nat.div_lt_iff_lt_mul (by omega)]; omega
      obtain ⟨q, hqv⟩ : ∃ q, AX * 9223372036854775808 / AY = q := ⟨_, rfl⟩
      obtain ⟨r, hrv⟩ : ∃ r, AX * 9223372036854775808 % AY = r := ⟨_, rfl⟩
      rw [hqv, hrv] at HDV2 hq
      rw [hqv] at hql
      obtain ⟨Q, hQ⟩ : ∃ Q : Int, ex - (u : Int) - (ey - (u : Int)) - 63 = Q := ⟨_, rfl⟩
      have hstl : stk q (decide (r = 0)) < 18446744073709551616 := by
        unfold stk; split <;> omega
      have HRP2 := hide (HRP.out (nx != ny) Q (by omega) (by omega) (stk q (decide (r = 0))) hstl)
      rw [hQ] at hq
      have c1 : (AX : Int) / 2 = ((AX * 9223372036854775808 / 18446744073709551616 : Nat) : Int) := by omega
      have c2 : IntKind.u64.wrap ((AX : Int) * 9223372036854775808) = ((AX * 9223372036854775808 % 18446744073709551616 : Nat) : Int) := by rw [wu64]; omega
      obtain ⟨XE, hXE⟩ : ∃ x : Int, ex - (u : Int) = x := ⟨_, rfl⟩
      obtain ⟨YE, hYE⟩ : ∃ x : Int, ey - (u : Int) = x := ⟨_, rfl⟩
      rw [hXE] at HTX2
      rw [hYE] at HTY2
      obtain ⟨DE, hDE⟩ : ∃ x : Int, XE - YE = x := ⟨_, rfl⟩
      have c3 : IntKind.i16.wrap (XE - YE) = DE := by rw [wi16]; omega
      have c4 : IntKind.i16.wrap (DE - 63) = Q := by rw [wi16]; omega
      have HST : Box (((r : Int) != 0) = false ∧ stk q (decide (r = 0)) = q ∨ ((r : Int) != 0) = true ∧ ((stk q (decide (r = 0)) : Nat) : Int) = Go.bits BinOp.or IntKind.u64 (q : Int) 1) := by
        constructor
        by_cases hr : r = 0
        · left; rw [decide_eq_true hr, hr]; exact ⟨rfl, rfl⟩
        · right
          rw [decide_eq_false hr, or_one hql]
          exact ⟨by rw [bne_iff_ne]; omega, rfl⟩
      generalize rndV e m mode (nx != ny) (shN (stk q (decide (r = 0))) Q) (shD 1 Q) = rV at *
      generalize rndF e m mode (nx != ny) (shN (stk q (decide (r = 0))) Q) (shD 1 Q) = rF at *
      generalize stk q (decide (r = 0)) = sq at *
      unfold uV at *
      obtain ⟨UH, hUH⟩ : ∃ x : Int, ((AX * 9223372036854775808 / 18446744073709551616 : Nat) : Int) = x := ⟨_, rfl⟩
      obtain ⟨UL, hUL⟩ : ∃ x : Int, ((AX * 9223372036854775808 % 18446744073709551616 : Nat) : Int) = x := ⟨_, rfl⟩
      rw [hUH, hUL] at HDV2
      rw [hUH] at c1
      rw [hUL] at c2
      subst hq
      clear hUH hUL hDE hXE hYE hQ hstl hqv hrv hql hAX hAY hax1 hax2 hay1 hay2 hu hbe hbf hmx hmy hN hxv hyv HCX HCY HZX HZY HRL HRP HTX HTY HDV HIN HNA HZE HMX HMY HMX6 HMY6
      go_wp2_with fail
      refine (HTX2.out _).mono ?_
      rintro _ w2 ⟨rfl, hx2⟩
      have HX2 := hide hx2
      obtain ⟨a0, a1⟩ := HCC.out.ext HX2.out
      obtain ⟨o20, o21, o22, o23⟩ := HO2.out.ext HX2.out
      clear hx2
      go_wp2_with fail
      refine (HTY2.out _).mono ?_
      rintro _ w3 ⟨rfl, hx3⟩
      have HX3 := hide (HX2.out.trans hx3)
      clear hx3
      go_wp2_with fail
      refine (HDV2.out _).mono ?_
      rintro _ w4 ⟨rfl, hx4⟩
      have HX4 := hide (HX3.out.trans hx4)
      clear hx4
      go_upto_if 118 with fail
      go_cut [17] (fun v wx => v = .int .u64 (sq : Int) ∧ wx = w4)
      case first =>
        rcases HST.out with ⟨t1, t2⟩ | ⟨t1, t2⟩
        · subst t2
          go_wp2_with fail
          go_meet
          exact ⟨rfl, rfl⟩
        · have t3 := t2.symm
          clear t2
          go_wp2_with fail
          go_meet
          exact ⟨rfl, rfl⟩
      case rest =>
        obtain ⟨rfl, rfl⟩ := hcut
        obtain ⟨a0, a1⟩ := HCC.out.ext HX4.out
        have HXe := hide (HXw.out.trans HX4.out)
        go_wp2_with fail
        refine (HRP2.out _).mono ?_
        rintro _ w5 ⟨rfl, hx5⟩
        have HX5 := hide (HXe.out.trans hx5)
        clear hx5
        go_wp2_with fail
        simp [bodyPost, results, Oacg.results22, go_sem]
        exact HX5.out
end Go.Proofs.YgcoacGreat
