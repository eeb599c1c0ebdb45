/-
  exact.ToInt64Flags, ToInt64.
-/
import Derived.Test.YgcoacGreatExG
import Derived.Test.YgcoacGreatExE
namespace Go.Proofs.YgcoacGreat
open Go.RowKit
set_option linter.unusedSimpArgs false
set_option linter.unusedVariables false
attribute [local go_sem] nil_eq nil_ne

def tiN (e m : Nat) (mode : Int) (a : Nat) : Nat := raisedN mode (ngB e m a) (vNum e m a) (vDen e m a)
def limN (neg : Bool) : Nat := if neg then 9223372036854775808 else 9223372036854775807
/-- What ToInt64Flags answers of a sign and a size. -/
def tiR (neg : Bool) (n : Nat) (sm : Bool) : Int × Bool × Int := if limN neg < n then (0, false, 1) else ((if neg then -(n : Int) else (n : Int)), true, if sm then 16 else 0)
def tiA (e m : Nat) (mode : Int) (a : Nat) : Int × Bool × Int :=
  if 3 ≤ cls e m a then (0, false, 1) else tiR (ngB e m a) (tiN e m mode a) (someQ (vNum e m a) (vDen e m a))
def tiV (t : Int × Bool × Int) : Value := .tuple #[.int .i64 t.1, .bool t.2.1, .int .u8 t.2.2]

set_option maxRecDepth 20000 in
set_option maxHeartbeats 2000000 in
theorem toInt64Flags_any (e m : Nat) (h : Fm e m) (mode : Int) (a : Nat) (ha : a < 18446744073709551616) (w : World) :
    Calls Oacg.prog 16 #[.agg #[.int .u8 (e : Int), .int .u8 (m : Int)], .int .u8 mode, .int .u64 (a : Int)] w fun r w' => r = .returned (tiV (tiA e m mode a)) ∧ Ext w w' := by
  have hok := okB_fm h
  have HO := hide (open_any e m h a ha)
  have HRS := hide (fun v1 v2 wx h1 h2 => raised_any mode (ngB e m a) (vNum e m a) (vDen e m a) 100 (vNum_lt h a) (by decide) (vDen_pos e m a) v1 v2 wx h1 h2)
  have HA : Hid (∀ c, cls e m a = c → tiA e m mode a = if 3 ≤ c then (0, false, 1) else tiR (ngB e m a) (tiN e m mode a) (someQ (vNum e m a) (vDen e m a))) := by intro c hc; subst hc; rfl
  obtain ⟨cl, hcl⟩ : ∃ cl, cls e m a = cl := ⟨_, rfl⟩
  have hA := HA.out cl hcl
  rw [hA]
  rw [hcl] at HO
  have hclb : cl = 0 ∨ cl = 1 ∨ cl = 2 ∨ cl = 3 ∨ cl = 4 := by have := cls_cases e m a; rw [hcl] at this; exact this
  unfold tiN
  clear HA hA hcl ha h
  generalize halfQ (vNum e m a) (vDen e m a) = half at *
  generalize someQ (vNum e m a) (vDen e m a) = sm at *
  generalize raisedN mode (ngB e m a) (vNum e m a) (vDen e m a) = RN at *
  generalize ngB e m a = ng at *
  generalize vNeg e m a = vn at *
  generalize vNum e m a = vN at *
  generalize vDen e m a = vD at *
  generalize msk e m a = mk at *
  obtain ⟨T, hT⟩ : ∃ T, (if 3 ≤ cl then ((0 : Int), false, (1 : Int)) else tiR ng RN sm) = T := ⟨_, rfl⟩
  rw [hT]
  have HT := hide hT
  clear hT
  go_enter Oacg.func16, Oacg.ntmps16
  go_wp2_with (first | (go_at_call 4; refine (ok_any _ _ _).mono ?_; rintro r w' ⟨rfl, rfl⟩))
  refine (HO.out _).mono ?_
  rintro _ w1 ⟨⟨p1, k1, c1, p2, k2, c2, rfl, hn1, hd1⟩, hx1⟩
  have hX1 : Ext w w1 := Ext.trans (by repeat (first | apply Ext.alloc | exact Ext.refl _)) hx1
  have hxa : Ext w1 (w1.alloc (.cells #[.int .u64 (mk : Int), .bool ng, .int .i8 (cl : Int), .bool vn, .slice p1 k1 c1, .slice p2 k2 c2] 62)) := (Ext.refl w1).alloc _ _
  have HX := hide (hX1.trans hxa)
  have HRS1 := hide (HRS.out _ _ _ (hn1.ext hxa) (hd1.ext hxa))
  clear hx1 hX1 hxa hn1 hd1 HRS HO
  by_cases c3 : 3 ≤ cl
  · have hT := HT.out
    rw [if_pos c3] at hT
    subst hT
    by_cases c4 : cl = 4
    · have t4 : ((cl : Int) == 4) = true := by rw [c4]; rfl
      clear c4 c3 hclb HT
      go_wp2_with fail
      simp [tiV, bodyPost, results, Oacg.results16, go_sem]
      exact HX.out
    · have t4 : ((cl : Int) == 4) = false := by rw [beq_eq_false_iff_ne]; omega
      have t3 : ((cl : Int) == 3) = true := by rw [beq_iff_eq]; omega
      clear c4 c3 hclb HT
      go_wp2_with fail
      simp [tiV, bodyPost, results, Oacg.results16, go_sem]
      exact HX.out
  · have t4 : ((cl : Int) == 4) = false := by rw [beq_eq_false_iff_ne]; omega
    have t3 : ((cl : Int) == 3) = false := by rw [beq_eq_false_iff_ne]; omega
    have hT := HT.out
    rw [if_neg c3] at hT
    have HT2 := hide hT
    clear c3 hclb HT hT
    go_wp2_with fail
    refine HRS1.out.mono ?_
    rintro _ w2 ⟨⟨_, rfl, vR, rfl, hvR⟩, hx2⟩
    have hxb := hx2.alloc #[.int .i8 half, .bool sm] 68
    obtain ⟨W2, hW2⟩ : ∃ W2, W2 = w2.alloc (.cells #[.int .i8 half, .bool sm] 68) := ⟨_, rfl⟩
    have r1 : W2.cell? ⟨w2.heap.size, 1, none⟩ = some (.bool sm) := by rw [hW2]; simp [go_sem]
    rw [← hW2] at hxb
    have g1 : W2.cell? ⟨w1.heap.size, 1, none⟩ = some (.bool ng) := hxb.cell (by simp [go_sem])
    have HVR2 : Hid (NatAt W2 vR RN) := by rw [hW2]; exact hvR.ext ((Ext.refl w2).alloc _ _)
    have HX2 := hide (HX.out.trans hxb)
    have HFU1 := hide (fromU64_any 9223372036854775807 (by decide) (by decide))
    have HFU2 := hide (fromU64_any 9223372036854775808 (by decide) (by decide))
    rw [show (9223372036854775807 : Int).toNat = 9223372036854775807 from rfl] at HFU1
    rw [show (9223372036854775808 : Int).toNat = 9223372036854775808 from rfl] at HFU2
    clear hx2 hxb hvR HX HRS1
    go_wp2_with fail
    rw [← hW2]
    clear hW2
    refine (HFU1.out _).mono ?_
    rintro _ w4 ⟨⟨vL, rfl, hvL⟩, hx4⟩
    have HVL := hide hvL
    have HVR4 := hide (HVR2.out.ext hx4)
    have HX4 := hide (HX2.out.trans hx4)
    have g14 := hx4.cell g1
    have r14 := hx4.cell r1
    clear hvL hx4 g1 r1 HVR2 HX2 HFU1
    cases ng with
    | false =>
      have HC := hide (cmp_any RN 9223372036854775807 vR vL w4 (HVR4.out) HVL.out)
      by_cases hgt : 9223372036854775807 < RN
      · rw [cmpI_gt hgt] at HC
        have hT := HT2.out
        unfold tiR at hT
        rw [if_pos (show limN false < RN from hgt)] at hT
        subst hT
        clear HT2 hgt
        go_wp2_with fail
        refine HC.out.mono ?_
        rintro _ _ ⟨rfl, k, hw5⟩
        rw [hw5]
        clear hw5
        go_wp2_with fail
        simp [tiV, bodyPost, results, Oacg.results16, go_sem]
        exact HX4.out.drewN k
      · obtain ⟨z, hcm, hz⟩ : ∃ z : Int, cmpI RN 9223372036854775807 = z ∧ ¬ 0 < z := ⟨_, rfl, by unfold cmpI; split <;> (try split) <;> omega⟩
        rw [hcm] at HC
        have hT := HT2.out
        unfold tiR at hT
        rw [if_neg (show ¬ limN false < RN from hgt)] at hT
        have hRi : (RN : Int) ≤ 9223372036854775807 := by omega
        have HTU := hide (fun k => toU64_any RN vR (w4.drewN k) (HVR4.out.ext ((Ext.refl _).drewN k)))
        rw [show RN % 18446744073709551616 = RN by omega] at HTU
        have hw1 : IntKind.i64.wrap (RN : Int) = (RN : Int) := by simp [IntKind.wrap, IntKind.bits, IntKind.signed]; split <;> omega
        subst hT
        clear HT2 hgt hcm
        go_wp2_with fail
        refine HC.out.mono ?_
        rintro _ _ ⟨rfl, k, hw5⟩
        rw [hw5]
        clear hw5
        go_wp2_with fail
        refine (HTU.out k).mono ?_
        rintro _ _ ⟨rfl, hw6⟩
        rw [hw6]
        clear hw6
        cases sm with
        | true =>
          go_wp2_with fail
          simp [tiV, bodyPost, results, Oacg.results16, go_sem]
          exact HX4.out.drewN k
        | false =>
          go_wp2_with fail
          simp [tiV, bodyPost, results, Oacg.results16, go_sem]
          exact HX4.out.drewN k
    | true =>
      go_wp2_with fail
      refine (HFU2.out _).mono ?_
      rintro _ w5 ⟨⟨vL2, rfl, hvL2⟩, hx5⟩
      replace HVL := hide hvL2
      have HVR5 := hide (HVR4.out.ext hx5)
      have HX5 := hide (HX4.out.trans hx5)
      have g15 := hx5.cell g14
      have r15 := hx5.cell r14
      clear hvL2 hx5 g14 r14 HVR4 HX4 HFU2
      have HC := hide (cmp_any RN 9223372036854775808 vR vL2 w5 (HVR5.out) HVL.out)
      by_cases hgt : 9223372036854775808 < RN
      · rw [cmpI_gt hgt] at HC
        have hT := HT2.out
        unfold tiR at hT
        rw [if_pos (show limN true < RN from hgt)] at hT
        subst hT
        clear HT2 hgt
        go_wp2_with fail
        refine HC.out.mono ?_
        rintro _ _ ⟨rfl, k, hw5⟩
        rw [hw5]
        clear hw5
        go_wp2_with fail
        simp [tiV, bodyPost, results, Oacg.results16, go_sem]
        exact HX5.out.drewN k
      · obtain ⟨z, hcm, hz⟩ : ∃ z : Int, cmpI RN 9223372036854775808 = z ∧ ¬ 0 < z := ⟨_, rfl, by unfold cmpI; split <;> (try split) <;> omega⟩
        rw [hcm] at HC
        have hT := HT2.out
        unfold tiR at hT
        rw [if_neg (show ¬ limN true < RN from hgt)] at hT
        have hRi : (RN : Int) ≤ 9223372036854775808 := by omega
        have HTU := hide (fun k => toU64_any RN vR (w5.drewN k) (HVR5.out.ext ((Ext.refl _).drewN k)))
        rw [show RN % 18446744073709551616 = RN by omega] at HTU
        have hw1 : IntKind.i64.wrap (-(IntKind.i64.wrap (RN : Int))) = -(RN : Int) := by simp [IntKind.wrap, IntKind.bits, IntKind.signed]; split <;> (try split) <;> omega
        have HW2 : Box (wrap64 (-(wrap64 (RN : Int))) = -(RN : Int)) := ⟨by have h := hw1; rw [Go.IntWalk.i64_left, Go.IntWalk.i64_left] at h; exact h⟩
        subst hT
        clear HT2 hgt hcm
        go_wp2_with fail
        refine HC.out.mono ?_
        rintro _ _ ⟨rfl, k, hw5⟩
        rw [hw5]
        clear hw5
        go_wp2_with fail
        refine (HTU.out k).mono ?_
        rintro _ _ ⟨rfl, hw6⟩
        rw [hw6]
        clear hw6
        cases sm with
        | true =>
          go_wp2_with fail
          simp [tiV, bodyPost, results, Oacg.results16, go_sem]
          exact ⟨HW2.out, HX5.out.drewN k⟩
        | false =>
          go_wp2_with fail
          simp [tiV, bodyPost, results, Oacg.results16, go_sem]
          exact ⟨HW2.out, HX5.out.drewN k⟩
end Go.Proofs.YgcoacGreat
