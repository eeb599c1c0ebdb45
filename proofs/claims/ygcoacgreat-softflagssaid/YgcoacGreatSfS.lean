/-
  law.softBinFlags, exactBinFlags (every op), SoftFlags.
-/
import Derived.Test.YgcoacGreatSfMul
import Derived.Test.YgcoacGreatSfDiv
import Derived.Test.YgcoacGreatSfSub
import Derived.Test.YgcoacGreatSfO
import Derived.Test.YgcoacGreatSfP
import Derived.Test.YgcoacGreatSfR
import Derived.Test.YgcoacGreatSfG
import Derived.Test.YgcoacGreatExF
import Derived.Test.YgcoacGreatExE
namespace Go.Proofs.YgcoacGreat
open Go.RowKit
set_option linter.unusedSimpArgs false
set_option linter.unusedVariables false

/-- The operation k on patterns. -/
def binP (k : Nat) (e m : Nat) (mode : Int) (x y : Nat) : Nat × Int :=
  if k = 0 then faddP e m mode x y else if k = 1 then fsubP e m mode x y else if k = 2 then fmulP e m mode x y else fdivP e m mode x y
theorem op_and {o : Nat} (h : o < 256) : Go.bits BinOp.and IntKind.u8 (o : Int) 3 = ((o % 4 : Nat) : Int) := by
  have := u8_and_nat o 3 h (by decide)
  rw [show (o &&& 3) = o % 4 from Nat.and_two_pow_sub_one_eq_mod o 2] at this
  exact this

set_option maxRecDepth 20000 in
set_option maxHeartbeats 2000000 in
theorem binS_any (e m : Nat) (h : Fm e m) (mode : Int) (o : Nat) (ho : o < 256) (x y : Nat) (hx : x < 18446744073709551616) (hy : y < 18446744073709551616) (w : World) :
    Calls Oacg.prog 5 #[.agg #[.int .u8 (e : Int), .int .u8 (m : Int)], .int .u8 mode, .int .u8 (o : Int), .int .u64 (x : Int), .int .u64 (y : Int)] w fun r w' => r = .returned (.tuple #[.int .u64 ((binP (o % 4) e m mode x y).1 : Int), .int .u8 (binP (o % 4) e m mode x y).2]) ∧ Ext w w' := by
  have hoa := op_and ho
  have hk : o % 4 = 0 ∨ o % 4 = 1 ∨ o % 4 = 2 ∨ o % 4 = 3 := by omega
  have HA := hide (saddFlags_any e m h mode x y hx hy)
  have HB := hide (ssubFlags_any e m h mode x y hx hy)
  have HC := hide (smulFlags_any e m h mode x y hx hy)
  have HD := hide (sdivFlags_any e m h mode x y hx hy)
  obtain ⟨P, hP⟩ : ∃ P, binP (o % 4) e m mode x y = P := ⟨_, rfl⟩
  rw [hP]
  unfold binP at hP
  generalize o % 4 = k at *
  generalize faddP e m mode x y = pa at *
  generalize fsubP e m mode x y = pb at *
  generalize fmulP e m mode x y = pc at *
  generalize fdivP e m mode x y = pd at *
  clear hx hy h ho
  rcases hk with hk | hk | hk | hk
  · subst hk
    rw [if_pos rfl] at hP
    subst hP
    rw [show ((0 : Nat) : Int) = 0 from rfl] at hoa
    clear HB HC HD
    go_enter Oacg.func5, Oacg.ntmps5
    go_wp2_with fail
    refine (HA.out _).mono ?_
    rintro _ w1 ⟨rfl, hx1⟩
    have HX : Hid (Ext w w1) := ((Ext.refl w).alloc _ _).trans hx1
    clear hx1
    go_wp2_with fail
    simp [bodyPost, results, Oacg.results5, go_sem]
    exact HX.out
  · subst hk
    rw [if_neg (by decide), if_pos rfl] at hP
    subst hP
    rw [show ((1 : Nat) : Int) = 1 from rfl] at hoa
    clear HA HC HD
    go_enter Oacg.func5, Oacg.ntmps5
    go_wp2_with fail
    refine (HB.out _).mono ?_
    rintro _ w1 ⟨rfl, hx1⟩
    have HX : Hid (Ext w w1) := ((Ext.refl w).alloc _ _).trans hx1
    clear hx1
    go_wp2_with fail
    simp [bodyPost, results, Oacg.results5, go_sem]
    exact HX.out
  · subst hk
    rw [if_neg (by decide), if_neg (by decide), if_pos rfl] at hP
    subst hP
    rw [show ((2 : Nat) : Int) = 2 from rfl] at hoa
    clear HA HB HD
    go_enter Oacg.func5, Oacg.ntmps5
    go_wp2_with fail
    refine (HC.out _).mono ?_
    rintro _ w1 ⟨rfl, hx1⟩
    have HX : Hid (Ext w w1) := ((Ext.refl w).alloc _ _).trans hx1
    clear hx1
    go_wp2_with fail
    simp [bodyPost, results, Oacg.results5, go_sem]
    exact HX.out
  · subst hk
    rw [if_neg (by decide), if_neg (by decide), if_neg (by decide)] at hP
    subst hP
    rw [show ((3 : Nat) : Int) = 3 from rfl] at hoa
    clear HA HB HC
    go_enter Oacg.func5, Oacg.ntmps5
    go_wp2_with fail
    refine (HD.out _).mono ?_
    rintro _ w1 ⟨rfl, hx1⟩
    have HX : Hid (Ext w w1) := ((Ext.refl w).alloc _ _).trans hx1
    clear hx1
    go_wp2_with fail
    simp [bodyPost, results, Oacg.results5, go_sem]
    exact HX.out

set_option maxRecDepth 20000 in
set_option maxHeartbeats 2000000 in
theorem binE_any (e m : Nat) (h : Fm e m) (mode : Int) (o : Nat) (ho : o < 256) (x y : Nat) (hx : x < 18446744073709551616) (hy : y < 18446744073709551616) (w : World) :
    Calls Oacg.prog 6 #[.agg #[.int .u8 (e : Int), .int .u8 (m : Int)], .int .u8 mode, .int .u8 (o : Int), .int .u64 (x : Int), .int .u64 (y : Int)] w fun r w' => r = .returned (.tuple #[.int .u64 ((binP (o % 4) e m mode x y).1 : Int), .int .u8 (binP (o % 4) e m mode x y).2]) ∧ Ext w w' := by
  have hoa := op_and ho
  have hk : o % 4 = 0 ∨ o % 4 = 1 ∨ o % 4 = 2 ∨ o % 4 = 3 := by omega
  have HA := hide (faddFlags_any e m h mode x y hx hy)
  have HB := hide (fsubFlags_any e m h mode x y hx hy)
  have HC := hide (fmulFlags_any e m h mode x y hx hy)
  have HD := hide (fdivFlags_any e m h mode x y hx hy)
  obtain ⟨P, hP⟩ : ∃ P, binP (o % 4) e m mode x y = P := ⟨_, rfl⟩
  rw [hP]
  unfold binP at hP
  generalize o % 4 = k at *
  generalize faddP e m mode x y = pa at *
  generalize fsubP e m mode x y = pb at *
  generalize fmulP e m mode x y = pc at *
  generalize fdivP e m mode x y = pd at *
  clear hx hy h ho
  rcases hk with hk | hk | hk | hk
  · subst hk
    rw [if_pos rfl] at hP
    subst hP
    rw [show ((0 : Nat) : Int) = 0 from rfl] at hoa
    clear HB HC HD
    go_enter Oacg.func6, Oacg.ntmps6
    go_wp2_with fail
    refine (HA.out _).mono ?_
    rintro _ w1 ⟨rfl, hx1⟩
    have HX : Hid (Ext w w1) := ((Ext.refl w).alloc _ _).trans hx1
    clear hx1
    go_wp2_with fail
    simp [bodyPost, results, Oacg.results6, go_sem]
    exact HX.out
  · subst hk
    rw [if_neg (by decide), if_pos rfl] at hP
    subst hP
    rw [show ((1 : Nat) : Int) = 1 from rfl] at hoa
    clear HA HC HD
    go_enter Oacg.func6, Oacg.ntmps6
    go_wp2_with fail
    refine (HB.out _).mono ?_
    rintro _ w1 ⟨rfl, hx1⟩
    have HX : Hid (Ext w w1) := ((Ext.refl w).alloc _ _).trans hx1
    clear hx1
    go_wp2_with fail
    simp [bodyPost, results, Oacg.results6, go_sem]
    exact HX.out
  · subst hk
    rw [if_neg (by decide), if_neg (by decide), if_pos rfl] at hP
    subst hP
    rw [show ((2 : Nat) : Int) = 2 from rfl] at hoa
    clear HA HB HD
    go_enter Oacg.func6, Oacg.ntmps6
    go_wp2_with fail
    refine (HC.out _).mono ?_
    rintro _ w1 ⟨rfl, hx1⟩
    have HX : Hid (Ext w w1) := ((Ext.refl w).alloc _ _).trans hx1
    clear hx1
    go_wp2_with fail
    simp [bodyPost, results, Oacg.results6, go_sem]
    exact HX.out
  · subst hk
    rw [if_neg (by decide), if_neg (by decide), if_neg (by decide)] at hP
    subst hP
    rw [show ((3 : Nat) : Int) = 3 from rfl] at hoa
    clear HA HB HC
    go_enter Oacg.func6, Oacg.ntmps6
    go_wp2_with fail
    refine (HD.out _).mono ?_
    rintro _ w1 ⟨rfl, hx1⟩
    have HX : Hid (Ext w w1) := ((Ext.refl w).alloc _ _).trans hx1
    clear hx1
    go_wp2_with fail
    simp [bodyPost, results, Oacg.results6, go_sem]
    exact HX.out

set_option maxRecDepth 20000 in
set_option maxHeartbeats 4000000 in
theorem softFlags_ok (e m : Nat) (h : Fm e m) (e' m' : Nat) (h' : Fm e' m') (mode : Int) (o : Nat) (ho : o < 256) (a : Nat) (ha : a < 18446744073709551616) (b : Nat) (hb : b < 18446744073709551616) (i : Int) (hi1 : -9223372036854775808 ≤ i) (hi2 : i ≤ 9223372036854775807) (u : Nat) (hu : u < 18446744073709551616) (w : World) :
    Calls Oacg.prog 3 #[.agg #[.int .u8 (e : Int), .int .u8 (m : Int)], .agg #[.int .u8 (e' : Int), .int .u8 (m' : Int)], .int .u8 mode, .int .u8 (o : Int), .int .u64 (a : Int), .int .u64 (b : Int), .int .i64 i, .int .u64 (u : Int)] w fun r w' => r = .returned (.bool true) ∧ Ext w w' := by
  have hok := okB_fm h
  have hok' := okB_fm h'
  have H1 := hide (binS_any e m h mode o ho a b ha hb)
  have H2 := hide (binE_any e m h mode o ho a b ha hb)
  have H3 := hide (ssqrtFlags_any e m h mode a ha)
  have H4 := hide (sqrtFlags_any e m h mode a ha)
  have H5 := hide (sconvertFlags_any e m h e' m' h' mode a ha)
  have H6 := hide (convertFlags_any e m h e' m' h' mode a ha)
  have H7 := hide (sfromInt64Flags_any e m h mode i hi1 hi2)
  have H8 := hide (fromInt64Flags_any e m h mode i hi1 hi2)
  have H9 := hide (sfromUint64Flags_any e m h mode u hu)
  have H10 := hide (fromUint64Flags_any e m h mode u hu)
  have H11 := hide (stoInt64Flags_any e m h mode a ha)
  have H12 := hide (toInt64Flags_any e m h mode a ha)
  have H13 := hide (scmpFlags_any e m h a b ha hb)
  have H14 := hide (cmpFlags_any e m h a b ha hb)
  unfold tiV at H11 H12
  generalize ((binP (o % 4) e m mode a b).1 : Int) = v1 at *
  generalize (binP (o % 4) e m mode a b).2 = v2 at *
  generalize ((sqP e m mode a).1 : Int) = v3 at *
  generalize (sqP e m mode a).2 = v4 at *
  generalize (cvV e m e' m' mode a : Int) = v5 at *
  generalize cvF e m e' m' mode a = v6 at *
  generalize (rndV e m mode (decide (i < 0)) i.natAbs 1 : Int) = v7 at *
  generalize rndF e m mode (decide (i < 0)) i.natAbs 1 = v8 at *
  generalize (rndV e m mode false u 1 : Int) = v9 at *
  generalize rndF e m mode false u 1 = v10 at *
  generalize (tiA e m mode a).1 = v11 at *
  generalize (tiA e m mode a).2.1 = v12 at *
  generalize (tiA e m mode a).2.2 = v13 at *
  generalize cmpV e m a b = v14 at *
  generalize heardF e m a b = v15 at *
  clear ha hb hu hi1 hi2 ho h h'
  go_enter Oacg.func3, Oacg.ntmps3
  go_wp2_with (first | (go_at_call 4; refine (ok_any _ _ _).mono ?_; rintro r w' ⟨rfl, rfl⟩))
  obtain ⟨W0, hW0⟩ : ∃ W0, W0 = (((w.alloc (.cells #[.int .u8 (e : Int), .int .u8 (m : Int)] 23)).alloc (.cells #[.int .u8 (e' : Int), .int .u8 (m' : Int)] 23)).alloc (.cells #[.int .u8 (e : Int), .int .u8 (m : Int)] 23)).alloc (.cells #[.int .u8 (e' : Int), .int .u8 (m' : Int)] 23) := ⟨_, rfl⟩
  rw [← hW0]
  have HC0 : Hid (Cells22 W0 w.heap.size e m e' m') := by
    rw [hW0]
    refine ⟨?_, ?_, ?_, ?_⟩ <;> simp [go_sem]
  have HX0 : Hid (Ext w W0) := by rw [hW0]; exact ((((Ext.refl w).alloc _ _).alloc _ _).alloc _ _).alloc _ _
  clear hW0
  refine (H1.out _).mono ?_
  rintro _ w1 ⟨rfl, hx1⟩
  have HX1 := hide (HX0.out.trans hx1)
  have HC1 := hide (HC0.out.ext hx1)
  clear hx1 HX0 HC0 H1
  obtain ⟨a0, a1, b0, b1⟩ := HC1.out
  go_wp2_with fail
  refine (H2.out _).mono ?_
  rintro _ w2 ⟨rfl, hx2⟩
  have HX2 := hide (HX1.out.trans hx2)
  have HC2 := hide (HC1.out.ext hx2)
  clear hx2 HX1 HC1 H2 a0 a1 b0 b1
  obtain ⟨a0, a1, b0, b1⟩ := HC2.out
  go_wp2_with fail
  refine (H3.out _).mono ?_
  rintro _ w3 ⟨rfl, hx3⟩
  have HX3 := hide (HX2.out.trans hx3)
  have HC3 := hide (HC2.out.ext hx3)
  clear hx3 HX2 HC2 H3 a0 a1 b0 b1
  obtain ⟨a0, a1, b0, b1⟩ := HC3.out
  go_wp2_with fail
  refine (H4.out _).mono ?_
  rintro _ w4 ⟨rfl, hx4⟩
  have HX4 := hide (HX3.out.trans hx4)
  have HC4 := hide (HC3.out.ext hx4)
  clear hx4 HX3 HC3 H4 a0 a1 b0 b1
  obtain ⟨a0, a1, b0, b1⟩ := HC4.out
  go_wp2_with fail
  refine (H5.out _).mono ?_
  rintro _ w5 ⟨rfl, hx5⟩
  have HX5 := hide (HX4.out.trans hx5)
  have HC5 := hide (HC4.out.ext hx5)
  clear hx5 HX4 HC4 H5 a0 a1 b0 b1
  obtain ⟨a0, a1, b0, b1⟩ := HC5.out
  go_wp2_with fail
  refine (H6.out _).mono ?_
  rintro _ w6 ⟨rfl, hx6⟩
  have HX6 := hide (HX5.out.trans hx6)
  have HC6 := hide (HC5.out.ext hx6)
  clear hx6 HX5 HC5 H6 a0 a1 b0 b1
  obtain ⟨a0, a1, b0, b1⟩ := HC6.out
  go_wp2_with fail
  refine (H7.out _).mono ?_
  rintro _ w7 ⟨rfl, hx7⟩
  have HX7 := hide (HX6.out.trans hx7)
  have HC7 := hide (HC6.out.ext hx7)
  clear hx7 HX6 HC6 H7 a0 a1 b0 b1
  obtain ⟨a0, a1, b0, b1⟩ := HC7.out
  go_wp2_with fail
  refine (H8.out _).mono ?_
  rintro _ w8 ⟨rfl, hx8⟩
  have HX8 := hide (HX7.out.trans hx8)
  have HC8 := hide (HC7.out.ext hx8)
  clear hx8 HX7 HC7 H8 a0 a1 b0 b1
  obtain ⟨a0, a1, b0, b1⟩ := HC8.out
  go_wp2_with fail
  refine (H9.out _).mono ?_
  rintro _ w9 ⟨rfl, hx9⟩
  have HX9 := hide (HX8.out.trans hx9)
  have HC9 := hide (HC8.out.ext hx9)
  clear hx9 HX8 HC8 H9 a0 a1 b0 b1
  obtain ⟨a0, a1, b0, b1⟩ := HC9.out
  go_wp2_with fail
  refine (H10.out _).mono ?_
  rintro _ w10 ⟨rfl, hx10⟩
  have HX10 := hide (HX9.out.trans hx10)
  have HC10 := hide (HC9.out.ext hx10)
  clear hx10 HX9 HC9 H10 a0 a1 b0 b1
  obtain ⟨a0, a1, b0, b1⟩ := HC10.out
  go_wp2_with fail
  refine (H11.out _).mono ?_
  rintro _ w11 ⟨rfl, hx11⟩
  have HX11 := hide (HX10.out.trans hx11)
  have HC11 := hide (HC10.out.ext hx11)
  clear hx11 HX10 HC10 H11 a0 a1 b0 b1
  obtain ⟨a0, a1, b0, b1⟩ := HC11.out
  go_wp2_with fail
  refine (H12.out _).mono ?_
  rintro _ w12 ⟨rfl, hx12⟩
  have HX12 := hide (HX11.out.trans hx12)
  have HC12 := hide (HC11.out.ext hx12)
  clear hx12 HX11 HC11 H12 a0 a1 b0 b1
  obtain ⟨a0, a1, b0, b1⟩ := HC12.out
  go_wp2_with fail
  refine (H13.out _).mono ?_
  rintro _ w13 ⟨rfl, hx13⟩
  have HX13 := hide (HX12.out.trans hx13)
  have HC13 := hide (HC12.out.ext hx13)
  clear hx13 HX12 HC12 H13 a0 a1 b0 b1
  obtain ⟨a0, a1, b0, b1⟩ := HC13.out
  go_wp2_with fail
  refine (H14.out _).mono ?_
  rintro _ w14 ⟨rfl, hx14⟩
  have HX14 := hide (HX13.out.trans hx14)
  have HC14 := hide (HC13.out.ext hx14)
  clear hx14 HX13 HC13 H14 a0 a1 b0 b1
  obtain ⟨a0, a1, b0, b1⟩ := HC14.out
  go_wp2_with fail
  simp [bodyPost, results, Oacg.results3, go_sem]
  exact HX14.out

theorem u8_bdS {n : Int} (h : (Lit.int .u8 n).wf = true) : 0 ≤ n ∧ n < 256 := by
  simp [Lit.wf, IntKind.min, IntKind.max, IntKind.signed, IntKind.bits] at h; omega
set_option maxRecDepth 100000 in
theorem softFlagsLaw_any (E M : Int) (wE : (Lit.int .u8 E).wf = true) (wM : (Lit.int .u8 M).wf = true) (E' M' : Int) (wE' : (Lit.int .u8 E').wf = true) (wM' : (Lit.int .u8 M').wf = true) (mode : Int) (wm : (Lit.int .u8 mode).wf = true) (o : Int) (wo : (Lit.int .u8 o).wf = true) (a : Int) (wa : (Lit.int .u64 a).wf = true) (b : Int) (wb : (Lit.int .u64 b).wf = true) (i : Int) (wi : (Lit.int .i64 i).wf = true) (u : Int) (wu : (Lit.int .u64 u).wf = true) (w : World) :
    Calls Oacg.prog 3 #[.agg #[.int .u8 E, .int .u8 M], .agg #[.int .u8 E', .int .u8 M'], .int .u8 mode, .int .u8 o, .int .u64 a, .int .u64 b, .int .i64 i, .int .u64 u] w fun r w' => r = .returned (.bool true) ∧ Ext w w' := by
  cases hok : okB E M
  · clear wE wM wE' wM' wm wo wa wb wi wu
    go_enter Oacg.func3, Oacg.ntmps3
    go_wp2_with (first | (go_at_call 4; refine (ok_any _ _ _).mono ?_; rintro r w' ⟨rfl, rfl⟩))
    go_ret
    exact ⟨rfl, by repeat (first | apply Ext.alloc | exact Ext.refl _)⟩
  · cases hok' : okB E' M'
    · clear wE wM wE' wM' wm wo wa wb wi wu
      go_enter Oacg.func3, Oacg.ntmps3
      go_wp2_with (first | (go_at_call 4; refine (ok_any _ _ _).mono ?_; rintro r w' ⟨rfl, rfl⟩))
      go_ret
      exact ⟨rfl, by repeat (first | apply Ext.alloc | exact Ext.refl _)⟩
    · obtain ⟨e, m, rfl, rfl, h⟩ := fm_of hok
      obtain ⟨e', m', rfl, rfl, h'⟩ := fm_of hok'
      obtain ⟨hx0, hx1⟩ := u64_bd wa
      obtain ⟨a, rfl⟩ := Int.eq_ofNat_of_zero_le hx0
      obtain ⟨hy0, hy1⟩ := u64_bd wb
      obtain ⟨b, rfl⟩ := Int.eq_ofNat_of_zero_le hy0
      obtain ⟨hz0, hz1⟩ := u64_bd wu
      obtain ⟨u, rfl⟩ := Int.eq_ofNat_of_zero_le hz0
      obtain ⟨ho0, ho1⟩ := u8_bdS wo
      obtain ⟨o, rfl⟩ := Int.eq_ofNat_of_zero_le ho0
      have hi' : -9223372036854775808 ≤ i ∧ i ≤ 9223372036854775807 := by
        simp [Lit.wf, IntKind.min, IntKind.max, IntKind.signed, IntKind.bits] at wi; omega
      exact softFlags_ok e m h e' m' h' mode o (by omega) a (by omega) b (by omega) i hi'.1 hi'.2 u (by omega) w
end Go.Proofs.YgcoacGreat
