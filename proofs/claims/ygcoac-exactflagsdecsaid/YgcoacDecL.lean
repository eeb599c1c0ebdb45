/-
  exact.RoundDecFlags, RoundDec; law.ExactFlagsDec.
-/
import Derived.Test.YgcoacDecO
import Derived.Test.YgcoacFlF
namespace Go.Proofs.Ygcoac
open Go.RowKit
set_option linter.unusedSimpArgs false
set_option linter.unusedVariables false

def rdP (e m : Nat) (mode : Int) (n : Bool) (t : ByteArray) (x : Int) : Nat × Int :=
  if okD t x then (rndV e m mode (odG n t x) (odN t x) (odD t x), rndF e m mode (odG n t x) (odN t x) (odD t x)) else (0, 0)
abbrev CellsFD (w' : World) (B e m : Nat) (n : Bool) (t : ByteArray) (x : Int) : Prop := w'.cell? ⟨B, 0, none⟩ = some (.int .u8 (e : Int)) ∧ w'.cell? ⟨B, 1, none⟩ = some (.int .u8 (m : Int)) ∧ w'.cell? ⟨B + 1, 0, none⟩ = some (.bool n) ∧ w'.cell? ⟨B + 1, 1, none⟩ = some (.string t) ∧ w'.cell? ⟨B + 1, 2, none⟩ = some (.int .i16 x)
theorem CellsFD.ext {w w' : World} {B e m : Nat} {n : Bool} {t : ByteArray} {x : Int} (h : CellsFD w B e m n t x) (y : Ext w w') : CellsFD w' B e m n t x := ⟨y.cell h.1, y.cell h.2.1, y.cell h.2.2.1, y.cell h.2.2.2.1, y.cell h.2.2.2.2⟩

set_option maxRecDepth 20000 in
set_option maxHeartbeats 2000000 in
theorem roundDecFlags_any (e m : Nat) (h : Fm e m) (mode : Int) (n : Bool) (t : ByteArray) (x : Int) (hs : (t.size : Int) ≤ 140737488355328) (w : World) :
    Calls Oacg.prog 61 #[.agg #[.int .u8 (e : Int), .int .u8 (m : Int)], .int .u8 mode, .agg #[.bool n, .string t, .int .i16 x]] w fun r w' => r = .returned (.tuple #[.int .u64 ((rdP e m mode n t x).1 : Int), .int .u8 (rdP e m mode n t x).2]) ∧ Ext w w' := by
  have HOK := hide (decOk_any n t x hs)
  have HOD := hide (ofDec_any n t x hs)
  have HRF := hide (fun v wx hv => roundFlags_any e m h mode (odG n t x) (odN t x) (odD t x) 600 600 (odN_lt t x) (odD_lt t x).1 (by decide) (by decide) (odD_lt t x).2 v wx hv)
  unfold RndR at HRF
  obtain ⟨P, hP⟩ : ∃ P, rdP e m mode n t x = P := ⟨_, rfl⟩
  rw [hP]
  unfold rdP at hP
  generalize rndV e m mode (odG n t x) (odN t x) (odD t x) = rV at *
  generalize rndF e m mode (odG n t x) (odN t x) (odD t x) = rF at *
  generalize odG n t x = oG at *
  generalize odN t x = oN at *
  generalize odD t x = oD at *
  have HP := Box.mk hP
  clear hP h hs
  obtain ⟨W0, hW0⟩ : ∃ W0, W0 = (w.alloc (.cells #[.int .u8 (e : Int), .int .u8 (m : Int)] 23)).alloc (.cells #[.bool n, .string t, .int .i16 x] 72) := ⟨_, rfl⟩
  have HX0 : Hid (Ext w W0) := by rw [hW0]; exact ((Ext.refl _).alloc _ _).alloc _ _
  have HC0 : Hid (CellsFD W0 w.heap.size e m n t x) := by rw [hW0]; refine ⟨?_, ?_, ?_, ?_, ?_⟩ <;> simp [go_sem]
  go_enter Oacg.func61, Oacg.ntmps61
  go_wp2_with fail
  rw [← hW0]
  clear hW0
  refine (HOK.out _).mono ?_
  rintro _ w1 ⟨rfl, hx1⟩
  have HX1 := hide (HX0.out.trans hx1)
  have HC1 := hide (HC0.out.ext hx1)
  clear hx1 HX0 HC0 HOK
  cases hok : okD t x with
  | false =>
    have hP := HP.out
    rw [hok, if_neg (by decide)] at hP
    subst hP
    clear hok
    go_wp2_with fail
    simp [bodyPost, results, Oacg.results61, go_sem]
    exact HX1.out
  | true =>
    have hP := HP.out
    rw [hok, if_pos rfl] at hP
    subst hP
    clear hok
    go_wp2_with fail
    go_region_held3 (fun w' => CellsFD w' w.heap.size e m n t x)
      (first | exact HC1.out | exact HC1.out.ext (by (repeat apply Ext.drew); first | exact Ext.refl _ | assumption))
      (first
        | (go_at_call 63; refine (HOD.out _).mono ?_; rintro r w2 ⟨⟨v2, rfl, hv2⟩, hx2⟩; have HV2 := hide hv2; have hE2 : Ext w1 w2 := Ext.trans (by (repeat apply Ext.drew); exact Ext.refl _) hx2; clear hv2 hx2)
        | (go_at_call 81; refine (HRF.out _ _ (by first | exact HV2.out | exact HV2.out.ext ((Ext.refl _).drew))).mono ?_; rintro r w3 ⟨⟨_, rfl, rfl⟩, hx3⟩; have hE3 : Ext w1 w3 := Ext.trans (by (repeat apply Ext.drew); assumption) hx3; clear hx3))
    all_goals go_wp2_with fail
    all_goals simp [bodyPost, results, Oacg.results61, go_sem]
    all_goals exact HX1.out.trans (by (repeat apply Ext.drew); assumption)

set_option maxHeartbeats 1000000 in
theorem roundDec_any (e m : Nat) (h : Fm e m) (mode : Int) (n : Bool) (t : ByteArray) (x : Int) (hs : (t.size : Int) ≤ 140737488355328) (w : World) :
    Calls Oacg.prog 62 #[.agg #[.int .u8 (e : Int), .int .u8 (m : Int)], .int .u8 mode, .agg #[.bool n, .string t, .int .i16 x]] w fun r w' => r = .returned (.int .u64 ((rdP e m mode n t x).1 : Int)) ∧ Ext w w' := by
  have HC := hide (roundDecFlags_any e m h mode n t x hs)
  clear h hs
  generalize ((rdP e m mode n t x).1 : Int) = cv at *
  generalize (rdP e m mode n t x).2 = cf at *
  go_enter Oacg.func62, Oacg.ntmps62
  go_wp2_with fail
  refine (HC.out _).mono ?_
  rintro _ w1 ⟨rfl, hx1⟩
  have HX : Hid (Ext w w1) := (((Ext.refl w).alloc _ _).alloc _ _).trans hx1
  clear hx1
  go_wp2_with fail
  go_ret
  exact ⟨rfl, HX.out⟩
theorem rdWant {e m : Nat} (h : Fm e m) (mode : Int) (n : Bool) (t : ByteArray) (x : Int) (v : Value) (w : World) (hv : RatAt w v (odG n t x) (odN t x) (odD t x)) :
    Calls Oacg.prog 51 #[.agg #[.int .u8 (e : Int), .int .u8 (m : Int)], .int .u8 mode, v, .int .u64 ((rdP e m mode n t x).1 : Int)] w fun r w' => r = .returned (.int .u8 (rdP e m mode n t x).2) ∧ Ext w w' := by
  have q1 := odN_lt t x
  have q2 := odD_lt t x
  unfold rdP
  cases hok : okD t x with
  | true =>
    rw [if_pos rfl]
    exact wantRnd_any e m h mode _ _ _ 600 q1 q2.1 (by decide) (by decide) q2.2 v w hv
  | false =>
    rw [if_neg (by decide)]
    have hn : odN t x = 0 := by unfold odN; rw [hok]; rfl
    have := wantFlags_any e m h mode _ _ _ 600 q1 q2.1 (by decide) (by decide) q2.2 0 (by decide) v w hv
    rw [show wantQ e m mode (odG n t x) (odN t x) (odD t x) 0 = 0 by unfold wantQ; rw [if_pos hn]] at this
    exact this

set_option maxRecDepth 100000 in
set_option maxHeartbeats 2000000 in
theorem exactFlagsDec_ok (e m : Nat) (h : Fm e m) (mode : Int) (neg : Bool) (s : ByteArray) (hs : (s.size : Int) ≤ 140737488355328) (x : Int) (hx1 : -9223372036854775808 ≤ x) (hx2 : x ≤ 9223372036854775807) (w : World) :
    Calls Oacg.prog 10 #[.agg #[.int .u8 (e : Int), .int .u8 (m : Int)], .int .u8 mode, .bool neg, .string s, .int .i64 x] w fun r w' => r = .returned (.bool true) ∧ Ext w w' := by
  have hokf := okB_fm h
  have HMK := hide (decMake_any neg s x hx1 hx2 hs)
  have H := hide h
  have HS := Box.mk hs
  have HC := hide (Cells2.new w e m 23)
  clear h hs
  go_enter Oacg.func10, Oacg.ntmps10
  go_wp2_with fail
  refine (HMK.out _).mono ?_
  rintro _ w1 ⟨⟨_, rfl, n, t, y, ok, rfl, ht, hy1, hy2⟩, hx1'⟩
  unfold decR
  have hts : (t.size : Int) ≤ 140737488355328 := by have := HS.out; omega
  have HRF := hide (roundDecFlags_any e m H.out mode n t y hts)
  have HRD := hide (roundDec_any e m H.out mode n t y hts)
  have HOD := hide (ofDec_any n t y hts)
  have HWT := hide (fun v wx hv => rdWant H.out mode n t y v wx hv)
  generalize (rdP e m mode n t y).2 = pf at *
  generalize ((rdP e m mode n t y).1 : Int) = pv at *
  generalize odG n t y = oG at *
  generalize odN t y = oN at *
  generalize odD t y = oD at *
  obtain ⟨W1, hW1⟩ : ∃ W1, W1 = w1.alloc (.cells #[.bool n, .string t, .int .i16 y] 72) := ⟨_, rfl⟩
  have hxa : Ext w1 W1 := by rw [hW1]; exact (Ext.refl w1).alloc _ _
  have HX1 : Hid (Ext w W1) := ((Ext.refl w).alloc _ _).trans (hx1'.trans hxa)
  obtain ⟨a0, a1⟩ := HC.out.ext hx1'
  have HCW := hide ((HC.out.ext hx1').ext hxa)
  have HDW : Hid (CellsD W1 w1.heap.size n t y) := by rw [hW1]; refine ⟨?_, ?_, ?_⟩ <;> simp [go_sem]
  have hz : w.heap.size < w1.heap.size := World.block_lt_of_cell? _ _ a0
  clear hx1' hxa ht hts HMK hx1 hx2 HS
  cases ok with
  | false =>
    go_wp2_with fail
    rw [← hW1]
    go_ret
    exact ⟨rfl, HX1.out⟩
  | true =>
    go_wp2_with (first | (go_at_call 14; refine (ok_any _ _ _).mono ?_; rintro r w' ⟨rfl, rfl⟩))
    rw [← hW1]
    obtain ⟨W2, hW2⟩ : ∃ W2, W2 = W1.alloc (.cells #[.int .u8 (e : Int), .int .u8 (m : Int)] 23) := ⟨_, rfl⟩
    rw [← hW2]
    have hxb : Ext W1 W2 := by rw [hW2]; exact (Ext.refl W1).alloc _ _
    refine (HRF.out _).mono ?_
    rintro _ w3 ⟨rfl, hx3⟩
    have HX3 := hide (HX1.out.trans (hxb.trans hx3))
    have HH : Hid (∀ w', Ext w3 w' → Cells2 w' w.heap.size e m ∧ CellsD w' w1.heap.size n t y) := fun w' hx => ⟨HCW.out.ext (hxb.trans (hx3.trans hx)), HDW.out.ext (hxb.trans (hx3.trans hx))⟩
    clear hx3 hxb hW2 hW1 a0 a1 HC HRF HX1 HCW HDW
    go_wp2_with fail
    go_region_held3 (fun w' => Cells2 w' w.heap.size e m ∧ CellsD w' w1.heap.size n t y)
      (first | exact HH.out _ (Ext.refl _) | exact HH.out _ (by (repeat apply Ext.drew); first | exact Ext.refl _ | assumption))
      (first
        | (go_at_call 62; refine (HRD.out _).mono ?_; rintro r w4 ⟨rfl, hx4⟩; have hE4 : Ext w3 w4 := Ext.trans (by (repeat apply Ext.drew); first | exact Ext.refl _ | assumption) hx4; clear hx4)
        | (go_at_call 63; refine (HOD.out _).mono ?_; rintro r w5 ⟨⟨v5, rfl, hv5⟩, hx5⟩; have HV5 := hide hv5; have hE5 : Ext w3 w5 := Ext.trans (by (repeat apply Ext.drew); first | exact Ext.refl _ | assumption) hx5; clear hv5 hx5)
        | (go_at_call 51; refine (HWT.out _ _ (by first | exact HV5.out | exact HV5.out.ext ((Ext.refl _).drew))).mono ?_; rintro r w6 ⟨rfl, hx6⟩; have hE6 : Ext w3 w6 := Ext.trans (by (repeat apply Ext.drew); first | exact Ext.refl _ | assumption) hx6; clear hx6))
    all_goals go_wp2_with fail
    all_goals go_ret
    all_goals exact ⟨by simp, HX3.out.trans (by (repeat apply Ext.drew); assumption)⟩
set_option maxRecDepth 100000 in
set_option maxHeartbeats 1000000 in
theorem exactFlagsDecLaw_any (E M : Int) (wE : (Lit.int .u8 E).wf = true) (wM : (Lit.int .u8 M).wf = true) (mode : Int) (wm : (Lit.int .u8 mode).wf = true) (neg : Bool) (s : ByteArray) (hs : (s.size : Int) ≤ 140737488355328) (x : Int) (wx : (Lit.int .i64 x).wf = true) (w : World) :
    Calls Oacg.prog 10 #[.agg #[.int .u8 E, .int .u8 M], .int .u8 mode, .bool neg, .string s, .int .i64 x] w fun r w' => r = .returned (.bool true) ∧ Ext w w' := by
  have hx' : -9223372036854775808 ≤ x ∧ x ≤ 9223372036854775807 := by
    simp [Lit.wf, IntKind.min, IntKind.max, IntKind.signed, IntKind.bits] at wx; omega
  cases hok : okB E M
  · have HMK := hide (decMake_any neg s x hx'.1 hx'.2 hs)
    clear wE wM wm wx hs hx'
    go_enter Oacg.func10, Oacg.ntmps10
    go_wp2_with fail
    refine (HMK.out _).mono ?_
    rintro _ w1 ⟨⟨_, rfl, n, t, y, ok, rfl, ht, hy1, hy2⟩, hx1'⟩
    unfold decR
    have a0 : w1.cell? ⟨w.heap.size, 0, none⟩ = some (.int .u8 E) := hx1'.cell (by simp)
    have a1 : w1.cell? ⟨w.heap.size, 1, none⟩ = some (.int .u8 M) := hx1'.cell (by simp)
    have HX1 : Hid (Ext w w1) := ((Ext.refl w).alloc _ _).trans hx1'
    have hz : w.heap.size < w1.heap.size := World.block_lt_of_cell? _ _ a0
    clear hx1' ht HMK
    cases ok with
    | false =>
      go_wp2_with fail
      go_ret
      exact ⟨rfl, HX1.out.alloc _ _⟩
    | true =>
      go_wp2_with (first | (go_at_call 14; refine (ok_any _ _ _).mono ?_; rintro r w' ⟨rfl, rfl⟩))
      go_ret
      exact ⟨rfl, (HX1.out.alloc _ _).alloc _ _⟩
  · obtain ⟨e, m, rfl, rfl, h⟩ := fm_of hok
    exact exactFlagsDec_ok e m h mode neg s hs x hx'.1 hx'.2 w
end Go.Proofs.Ygcoac
