/-
  soft.Cmp, CmpFlags.
-/
import Derived.Test.YgcoacGreatSfQ
import Derived.Test.YgcoacGreatSfK
namespace Go.Proofs.YgcoacGreat
open Go.RowKit
set_option linter.unusedSimpArgs false
set_option linter.unusedVariables false

theorem and_size {e m : Nat} (h : Fm e m) {x : Nat} (hx : x < 18446744073709551616) : Go.bits BinOp.and IntKind.u64 (x : Int) ((2 ^ (e + m) - 1 : Nat) : Int) = ((x % 2 ^ (e + m) : Nat) : Int) := by
  have hs := sgn_bd h
  unfold sgn at hs
  rw [u64_and_nat x _ hx (by omega), Nat.and_two_pow_sub_one_eq_mod]

set_option maxRecDepth 20000 in
set_option maxHeartbeats 4000000 in
theorem scmp_any (e m : Nat) (h : Fm e m) (x y : Nat) (hx : x < 18446744073709551616) (hy : y < 18446744073709551616) (w : World) :
    Calls Oacg.prog 52 #[.agg #[.int .u8 (e : Int), .int .u8 (m : Int)], .int .u64 (x : Int), .int .u64 (y : Int)] w fun r w' => r = .returned (.int .i8 (cmpV e m x y)) ∧ Ext w w' := by
  have hok := okB_fm h
  have HUx := hide (unpack_any e m h x hx)
  have HUy := hide (unpack_any e m h y hy)
  unfold parts at HUx HUy
  have HS := hide (signBit_any e m h)
  have hsb := sgn_bd h
  have ax := and_size h hx
  have ay := and_size h hy
  have hlx : x % 2 ^ (e + m) < 18446744073709551616 := Nat.lt_of_le_of_lt (Nat.mod_le _ _) hx
  have hly : y % 2 ^ (e + m) < 18446744073709551616 := Nat.lt_of_le_of_lt (Nat.mod_le _ _) hy
  have hsz : IntKind.u64.wrap ((sgn e m : Int) - 1) = ((2 ^ (e + m) - 1 : Nat) : Int) := by
    unfold sgn at *
    have := two_pos (e + m)
    rw [wu64]
    generalize 2 ^ (e + m) = S at *
    omega
  generalize ((2 ^ (e + m) - 1 : Nat) : Int) = SZ at *
  generalize (sgn e m : Int) = sI at *
  have HS2 : Hid (∀ wx, Calls Oacg.prog 55 #[.agg #[.int .u8 (e : Int), .int .u8 (m : Int)]] wx fun r w' => r = .returned (.int .u64 sI) ∧ Ext wx w') := fun wx => (HS.out wx).mono fun r w' ⟨h1, h2⟩ => ⟨h1, by obtain ⟨c1, c2, h2⟩ := h2; rw [h2]; exact ((Ext.refl wx).alloc _ _).alloc _ _⟩
  obtain ⟨P, hP⟩ : ∃ P, cmpV e m x y = P := ⟨_, rfl⟩
  rw [hP]
  rw [cmpV_low h] at hP
  clear HS hsb h hx hy
  generalize x % 2 ^ (e + m) = la at *
  generalize y % 2 ^ (e + m) = lb at *
  generalize pNeg e m x = nx at *
  generalize pNeg e m y = ny at *
  generalize cls e m x = cx at *
  generalize cls e m y = cy at *
  generalize pExp e m x = ex at *
  generalize pExp e m y = ey at *
  generalize pMan e m x = mx at *
  generalize pMan e m y = my at *
  have HP := Box.mk hP
  have hoz : (Go.bits BinOp.or IntKind.u64 (la : Int) (lb : Int) == 0) = decide (la = 0 ∧ lb = 0) := by
    rw [u64_or_nat _ _ hlx hly, Bool.eq_iff_iff, beq_iff_eq, decide_eq_true_iff, ← or_zero_iff]
    omega
  have hqe : ((la : Int) == (lb : Int)) = decide (la = lb) := by
    rw [Bool.eq_iff_iff, beq_iff_eq, decide_eq_true_iff]; omega
  obtain ⟨LA, hLA⟩ : ∃ x : Int, (la : Int) = x := ⟨_, rfl⟩
  obtain ⟨LB, hLB⟩ : ∃ x : Int, (lb : Int) = x := ⟨_, rfl⟩
  have HLT : Box (LA < LB ↔ la < lb) := ⟨by omega⟩
  rw [hLA] at hoz hqe ax
  rw [hLB] at hoz hqe ay
  clear hP hLA hLB hlx hly
  obtain ⟨W0, hW0⟩ : ∃ W0, W0 = ((w.alloc (.cells #[.int .u8 (e : Int), .int .u8 (m : Int)] 23)).alloc (.cells #[.int .u8 (e : Int), .int .u8 (m : Int)] 23)) := ⟨_, rfl⟩
  have d0 : W0.cell? ⟨w.heap.size, 0, none⟩ = some (.int .u8 (e : Int)) := by rw [hW0]; simp [go_sem]
  have d1 : W0.cell? ⟨w.heap.size, 1, none⟩ = some (.int .u8 (m : Int)) := by rw [hW0]; simp [go_sem]
  have hy1 : w.heap.size < W0.heap.size := by rw [hW0]; simp; omega
  have hy1' : w.heap.size < W0.heap.size + 1 := by omega
  have m0 : ¬ W0.heap.size = w.heap.size := by omega
  have m0' : ¬ W0.heap.size + 1 = w.heap.size := by omega
  have HW0 : Hid (Ext w W0) := by rw [hW0]; exact ((Ext.refl _).alloc _ _).alloc _ _
  have HD0 : Hid (Cells2 W0 w.heap.size e m) := ⟨d0, d1⟩
  go_enter Oacg.func52, Oacg.ntmps52
  go_wp2_with (first | (go_at_call 4; refine (ok_any _ _ _).mono ?_; rintro r w' ⟨rfl, rfl⟩))
  rw [← hW0]
  clear hW0
  have tok1 : True := trivial
  go_cut [7, 8] (fun v7 v8 wx => ∃ B1 B2, v7 = .pointer (some ⟨B1, 0, none⟩) ∧ v8 = .pointer (some ⟨B2, 0, none⟩) ∧ B1 ≠ B2 ∧ W0.heap.size ≤ B1 ∧ W0.heap.size ≤ B2 ∧ Hid (Ext W0 wx) ∧
      Pt4 wx B1 (.bool nx) (.int .i8 (cx : Int)) (.int .i16 ex) (.int .u64 (mx : Int)) ∧ Pt4 wx B2 (.bool ny) (.int .i8 (cy : Int)) (.int .i16 ey) (.int .u64 (my : Int)))
  case first =>
    go_region_held3 (fun w' => w'.cell? ⟨w.heap.size, 0, none⟩ = some (.int .u8 (e : Int)) ∧ w'.cell? ⟨w.heap.size, 1, none⟩ = some (.int .u8 (m : Int)))
      (first | (simp [go_sem, d0, d1, hy1, hy1']; done) | (simp [go_sem, e0, e1, y1, y1']; done) | (simp [go_sem, g0, g1, y2, y2', m0, m0', m1, m1']; done))
      (first
        | (go_at_call 27; have _t := tok1; refine (HUx.out _).mono ?_; rintro r w1 ⟨rfl, hx1⟩; clear tok1; have HX1 : Hid (Ext W0 w1) := Ext.trans (by (repeat (first | apply Ext.drew | apply Ext.alloc)); exact Ext.refl _) hx1; obtain ⟨q1, f1, z1⟩ := hx1.rule; obtain ⟨y1, y1'⟩ := lt2p (Nat.lt_of_lt_of_le hy1 HX1.out.size); have e0 := HX1.out.cell d0; have e1 := HX1.out.cell d1; have m1 : ¬ w1.heap.size = w.heap.size := Nat.ne_of_gt y1; have m1' : ¬ w1.heap.size + 1 = w.heap.size := Nat.ne_of_gt y1'; (try (have hE : Ext (W0.alloc (.cells #[.bool false, .int .i8 0, .int .i16 0, .int .u64 0] 44)) w1 := Ext.trans (Ext.drew (Ext.refl _)) hx1; obtain ⟨a1, a1', l1⟩ := pk1p hE; have L1 := hide l1; clear hE l1)); (try (have hE : Ext ((W0.alloc (.cells #[.bool false, .int .i8 0, .int .i16 0, .int .u64 0] 44)).alloc (.cells #[.bool false, .int .i8 0, .int .i16 0, .int .u64 0] 44)) w1 := Ext.trans (Ext.drew (Ext.refl _)) hx1; obtain ⟨a1, a1', l1, a2, a2', l2⟩ := pk2p hE; have L1 := hide l1; have L2 := hide l2; clear hE l1 l2)); clear hx1)
        | (go_at_call 27; refine (HUy.out _).mono ?_; rintro r w2 ⟨rfl, hx2⟩; have HX2 : Hid (Ext w1 w2) := Ext.trans (by (repeat (first | apply Ext.drew | apply Ext.alloc)); exact Ext.refl _) hx2; obtain ⟨q2, f2, z2⟩ := hx2.rule; have g0 := HX2.out.cell e0; have g1 := HX2.out.cell e1; obtain ⟨y2, y2'⟩ := lt2p (Nat.lt_of_lt_of_le y1 HX2.out.size); (try (have hE : W0.heap.size < w2.heap.size := Nat.lt_of_lt_of_le a1 HX2.out.size; obtain ⟨a3, a3'⟩ := lt2p hE; clear hE)); (try (have hE : W0.heap.size + 1 < w2.heap.size := Nat.lt_of_lt_of_le a2 HX2.out.size; obtain ⟨a4, a4'⟩ := lt2p hE; clear hE)); (try (have hE : Ext (w1.alloc (.cells #[.bool false, .int .i8 0, .int .i16 0, .int .u64 0] 44)) w2 := hx2; obtain ⟨a5, a5', l3⟩ := pk1p hE; have L3 := hide l3; clear hE l3)); (try (have hE : Ext ((w1.alloc (.cells #[.bool false, .int .i8 0, .int .i16 0, .int .u64 0] 44)).alloc (.cells #[.bool false, .int .i8 0, .int .i16 0, .int .u64 0] 44)) w2 := hx2; obtain ⟨a5, a5', l3, a6, a6', l4⟩ := pk2p hE; have L3 := hide l3; have L4 := hide l4; clear hE l3 l4)); clear hx2))
    all_goals go_wp2_with fail
    all_goals go_meet
    all_goals
      have s1 : W0.heap.size ≤ w1.heap.size := HX1.out.size
      have s1' : W0.heap.size ≤ w1.heap.size + 1 := Nat.le_succ_of_le s1
      have s2 : w1.heap.size ≤ w2.heap.size := HX2.out.size
      have s2' : W0.heap.size ≤ w2.heap.size := Nat.le_trans s1 s2
      have s2'' : W0.heap.size ≤ w2.heap.size + 1 := Nat.le_succ_of_le s2'
      have hxx : Ext W0 w2 := HX1.out.trans HX2.out
      (try (have l1 : NL1 w2 W0.heap.size 0 ∧ NL1 w2 W0.heap.size 1 ∧ NL1 w2 W0.heap.size 2 ∧ NL1 w2 W0.heap.size 3 := four (fun i hi => R.nlExt (L1.out i hi) HX2.out)))
      (try (have l2 : NL1 w2 (W0.heap.size + 1) 0 ∧ NL1 w2 (W0.heap.size + 1) 1 ∧ NL1 w2 (W0.heap.size + 1) 2 ∧ NL1 w2 (W0.heap.size + 1) 3 := four (fun i hi => R.nlExt (L2.out i hi) HX2.out)))
      (try (have l3 : NL1 w2 w1.heap.size 0 ∧ NL1 w2 w1.heap.size 1 ∧ NL1 w2 w1.heap.size 2 ∧ NL1 w2 w1.heap.size 3 := four L3.out))
      (try (have l4 : NL1 w2 (w1.heap.size + 1) 0 ∧ NL1 w2 (w1.heap.size + 1) 1 ∧ NL1 w2 (w1.heap.size + 1) 2 ∧ NL1 w2 (w1.heap.size + 1) 3 := four L4.out))
      clear q1 f1 z1 q2 f2 z2 m0 m0' m1 m1' d0 d1 e0 e1 g0 g1 hy1 hy1' y1 y1' y2 y2'
      refine ⟨_, _, rfl, rfl, ?_, ?_, ?_, ?_, ?_, ?_⟩
      · omega
      · omega
      · omega
      · show Ext _ _
        simp (maxDischargeDepth := 100) only [R.extAlloc, R.extDrew, R.extSet, Nat.le_refl, Nat.le_add_right, s1, s1', s2', s2'', hxx]
      · (try simp (maxDischargeDepth := 100) only [Pt4, R.cellSame, R.cellOffLt, R.cellOffGt, R.cellLt, R.cellGt, R.cellPast, R.cellNew, R.cellDrew, R.nlSet, R.nlAlloc, R.nlDrew, World.size_setCell, World.size_alloc, R.n64, R.ni8, R.ni16, R.nb, R.ns, eq_self, and_self, Nat.reduceLT, Nat.lt_add_one, *])
        all_goals (first | exact ⟨rfl, rfl, rfl, rfl⟩ | trace_state)
      · (try simp (maxDischargeDepth := 100) only [Pt4, R.cellSame, R.cellOffLt, R.cellOffGt, R.cellLt, R.cellGt, R.cellPast, R.cellNew, R.cellDrew, R.nlSet, R.nlAlloc, R.nlDrew, World.size_setCell, World.size_alloc, R.n64, R.ni8, R.ni16, R.nb, R.ns, eq_self, and_self, Nat.reduceLT, Nat.lt_add_one, *])
        all_goals (first | exact ⟨rfl, rfl, rfl, rfl⟩ | trace_state)

  case rest =>
    obtain ⟨B1, B2, rfl, rfl, hB, hB1, hB2, HX, o1, o2⟩ := hcut
    have HO1 := hide o1
    have HO2 := hide o2
    clear o1 o2
    have HXw := hide (HW0.out.trans HX.out)
    have HCC := hide (HD0.out.ext HX.out)
    obtain ⟨a0, a1⟩ := HCC.out
    clear d0 d1 hy1 hy1' m0 m0' tok1 HX HD0 HW0 HUx HUy
    go_wp2_with fail
    refine (HS2.out _).mono ?_
    rintro _ w2 ⟨rfl, hx2⟩
    have HX2 := hide (HXw.out.trans hx2)
    obtain ⟨o10, o11, o12, o13⟩ := HO1.out.ext hx2
    obtain ⟨o20, o21, o22, o23⟩ := HO2.out.ext hx2
    clear hx2 HXw HCC HO1 HO2 a0 a1 HS2
    by_cases hN : cx = 4 ∨ cy = 4
    · have hq := HP.out
      unfold scP at hq
      rw [if_pos hN] at hq
      subst hq
      rcases hN with hN | hN
      · have b1 : ((cx : Int) == 4) = true := by rw [hN]; rfl
        clear hN hoz hqe
        go_wp2_with fail
        simp [bodyPost, results, Oacg.results52, go_sem]
        exact HX2.out
      · have b2 : ((cy : Int) == 4) = true := by rw [hN]; rfl
        clear hN hoz hqe
        cases b1 : ((cx : Int) == 4)
        all_goals go_wp2_with fail
        all_goals simp [bodyPost, results, Oacg.results52, go_sem]
        all_goals exact HX2.out
    · have b1 : ((cx : Int) == 4) = false := by rw [beq_eq_false_iff_ne]; omega
      have b2 : ((cy : Int) == 4) = false := by rw [beq_eq_false_iff_ne]; omega
      have hq := HP.out
      unfold scP at hq
      rw [if_neg hN] at hq
      clear hN HP
      by_cases hz : la = 0 ∧ lb = 0
      · rw [if_pos (.inl hz)] at hq
        subst hq
        rw [decide_eq_true hz] at hoz
        clear hz hqe HLT
        go_wp2_with fail
        simp [bodyPost, results, Oacg.results52, go_sem]
        exact HX2.out
      · rw [decide_eq_false hz] at hoz
        by_cases hl : la < lb
        · have l1 : LA < LB := HLT.out.2 hl
          have hne : ¬ la = lb := by omega
          rw [decide_eq_false hne] at hqe
          rw [decide_eq_true hl] at hq
          cases nx <;> cases ny
          all_goals simp only [hz, hne, reduceCtorEq, if_false, if_true, true_and, false_and, and_true, and_false, or_false, false_or, ne_eq, not_true_eq_false, not_false_eq_true, or_self, and_self, Bool.true_eq_false, Bool.false_eq_true] at hq
          all_goals subst hq
          all_goals clear hz hne hl HLT
          all_goals go_wp2_with fail
          all_goals simp [bodyPost, results, Oacg.results52, go_sem]
          all_goals exact HX2.out
        · have l1 : decide (LA < LB) = false := decide_eq_false fun hh => hl (HLT.out.1 hh)
          rw [decide_eq_false hl] at hq
          by_cases hne : la = lb
          · rw [decide_eq_true hne] at hqe
            cases nx <;> cases ny
            all_goals simp only [hz, hne, reduceCtorEq, if_false, if_true, true_and, false_and, and_true, and_false, or_false, false_or, ne_eq, not_true_eq_false, not_false_eq_true, or_self, and_self, or_true, true_or, Bool.true_eq_false, Bool.false_eq_true] at hq
            all_goals try (rw [if_neg (fun hh => hz ⟨by omega, by omega⟩)] at hq)
            all_goals subst hq
            all_goals clear hz hne hl HLT
            all_goals go_wp2_with fail
            all_goals simp [bodyPost, results, Oacg.results52, go_sem]
            all_goals exact HX2.out
          · rw [decide_eq_false hne] at hqe
            cases nx <;> cases ny
            all_goals simp only [hz, hne, reduceCtorEq, if_false, if_true, true_and, false_and, and_true, and_false, or_false, false_or, ne_eq, not_true_eq_false, not_false_eq_true, or_self, and_self, Bool.true_eq_false, Bool.false_eq_true] at hq
            all_goals subst hq
            all_goals clear hz hne hl HLT
            all_goals go_wp2_with fail
            all_goals simp [bodyPost, results, Oacg.results52, go_sem]
            all_goals exact HX2.out
set_option maxHeartbeats 1000000 in
theorem scmpFlags_any (e m : Nat) (h : Fm e m) (a b : Nat) (ha : a < 18446744073709551616) (hb : b < 18446744073709551616) (w : World) :
    Calls Oacg.prog 17 #[.agg #[.int .u8 (e : Int), .int .u8 (m : Int)], .int .u64 (a : Int), .int .u64 (b : Int)] w fun r w' => r = .returned (.tuple #[.int .i8 (cmpV e m a b), .int .u8 (heardF e m a b)]) ∧ Ext w w' := by
  have HA := hide (scmp_any e m h a b ha hb)
  have HB := hide (sheard_any e m h a b ha hb)
  generalize cmpV e m a b = cv at *
  generalize heardF e m a b = hf at *
  clear ha hb
  have HC := hide (Cells2.new w e m 23)
  obtain ⟨W0, hW0⟩ : ∃ W0, W0 = w.alloc (.cells #[.int .u8 (e : Int), .int .u8 (m : Int)] 23) := ⟨_, rfl⟩
  have HX0 : Hid (Ext w W0) := by rw [hW0]; exact (Ext.refl w).alloc _ _
  rw [← hW0] at HC
  go_enter Oacg.func17, Oacg.ntmps17
  go_wp2_with fail
  rw [← hW0]
  clear hW0
  go_region_held3 (fun w' => Cells2 w' w.heap.size e m)
    (first | exact HC.out | exact HC.out.ext (by (repeat apply Ext.drew); first | exact Ext.refl _ | assumption))
    (first
      | (go_at_call 52; refine (HA.out _).mono ?_; rintro r w1 ⟨rfl, hx1⟩; have hE : Ext W0 w1 := Ext.trans (by (repeat apply Ext.drew); first | exact Ext.refl _ | assumption) hx1; clear hx1)
      | (go_at_call 30; refine (HB.out _).mono ?_; rintro r w2 ⟨rfl, hx2⟩; have hE2 : Ext W0 w2 := Ext.trans (by (repeat apply Ext.drew); first | exact Ext.refl _ | assumption) hx2; clear hx2))
  all_goals go_wp2_with fail
  all_goals simp [bodyPost, results, Oacg.results17, go_sem]
  all_goals exact HX0.out.trans (by (repeat apply Ext.drew); assumption)
end Go.Proofs.YgcoacGreat
