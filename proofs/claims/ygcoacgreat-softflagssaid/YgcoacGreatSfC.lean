/-
  soft.roundPack.
-/
import Derived.Test.YgcoacGreatSfB
import Derived.Deep.QuietTactic
import Derived.BigQuiet
namespace Go.Proofs.YgcoacGreat
open Go.RowKit
set_option linter.unusedSimpArgs false
set_option linter.unusedVariables false

theorem restC_lt {S : Nat} (hS : S < 18446744073709551616) (k : Nat) : restC S k < 18446744073709551616 := by
  unfold restC
  split
  · decide
  · split
    · rename_i h0 h1
      have := Nat.mul_lt_mul_of_pos_right (Nat.mod_lt S (two_pos k)) (two_pos (64 - k))
      rw [← Nat.pow_add, show k + (64 - k) = 64 by omega] at this
      exact this
    · split <;> decide
theorem roundPack_zero (e m : Nat) (h : Fm e m) (mode : Int) (neg : Bool) (p : Int) (w : World) :
    Calls Oacg.prog 35 #[.agg #[.int .u8 (e : Int), .int .u8 (m : Int)], .int .u8 mode, .bool neg, .int .i16 p, .int .u64 0] w fun r w' =>
      r = .returned (.tuple #[.int .u64 (sg e m neg : Int), .int .u8 0]) ∧ Ext w w' := by
  have HZ := hide (szero_any e m h neg)
  generalize (sg e m neg : Int) = S at *
  clear h
  go_enter Oacg.func35, Oacg.ntmps35
  go_wp2_with fail
  refine (HZ.out _).mono ?_
  rintro _ w1 ⟨rfl, hx1⟩
  have HX : Hid (Ext w w1) := ((Ext.refl w).alloc _ _).trans hx1
  clear hx1
  go_wp2_with fail
  simp [bodyPost, results, Oacg.results35, go_sem]
  exact HX.out

set_option maxRecDepth 20000 in
set_option maxHeartbeats 4000000 in
theorem roundPack_pos (e m : Nat) (h : Fm e m) (mode : Int) (neg : Bool) (p : Int) (hp1 : -20000 ≤ p) (hp2 : p ≤ 20000) (s : Nat) (h0 : 0 < s) (hs : s < 18446744073709551616) (w : World) :
    Calls Oacg.prog 35 #[.agg #[.int .u8 (e : Int), .int .u8 (m : Int)], .int .u8 mode, .bool neg, .int .i16 p, .int .u64 (s : Int)] w fun r w' =>
      r = .returned (.tuple #[.int .u64 (rndV e m mode neg (shN s p) (shD 1 p) : Int), .int .u8 (rndF e m mode neg (shN s p) (shD 1 p))]) ∧ Ext w w' := by
  have hb := bias_bd h
  have hbs : bits s ≤ 64 := bits_le_of_lt (show s < 2 ^ 64 from hs)
  have hbp := bits_pos' h0
  obtain ⟨hS1, hS2⟩ := topS_bd h0 hs
  have HRO := hide (rp_over h mode neg h0 p)
  have HRM := hide (rp_main h mode neg h0 hs p)
  have HCZ := hide (clz_any s hs)
  have HBI := hide (bias_any e m h)
  have HOV := hide (soverflow_any e m h mode neg)
  have HZ := hide (szero_any e m h neg)
  have HIN := hide (inf_pos e m h)
  obtain ⟨V, hV⟩ : ∃ x, rndV e m mode neg (shN s p) (shD 1 p) = x := ⟨_, rfl⟩
  obtain ⟨F, hF⟩ : ∃ x, rndF e m mode neg (shN s p) (shD 1 p) = x := ⟨_, rfl⟩
  rw [hV, hF]
  rw [hV, hF] at HRO HRM
  clear hV hF
  obtain ⟨ld, hld⟩ : ∃ x, 64 - bits s = x := ⟨_, rfl⟩
  rw [hld] at HCZ
  have hls : ld ≤ 63 := by omega
  obtain ⟨S, hS⟩ : ∃ x, topS s = x := ⟨_, rfl⟩
  have c1 : IntKind.u64.wrap ((s : Int) * 2 ^ ld) = (S : Int) := by
    rw [two_pow_cast, ← Int.natCast_mul, w64n, ← hld]
    show ((topS s % _ : Nat) : Int) = _
    rw [Nat.mod_eq_of_lt hS2, hS]
  rw [hS] at hS1 hS2
  obtain ⟨RE, hRE⟩ : ∃ x, realS s p = x := ⟨_, rfl⟩
  have hREv : p - (ld : Int) + 63 = RE := by unfold realS at hRE; omega
  obtain ⟨EM, hEM⟩ : ∃ x, eminI e = x := ⟨_, rfl⟩
  have hEMv : 1 - (bias e : Int) = EM := hEM
  obtain ⟨EX, hEX⟩ : ∃ x, exS' e s p = x := ⟨_, rfl⟩
  have hEXv : max RE EM = EX := by unfold exS' at hEX; rw [hRE, hEM] at hEX; exact hEX
  obtain ⟨bI, hbI⟩ : ∃ x : Int, (bias e : Int) = x := ⟨_, rfl⟩
  obtain ⟨K, hK⟩ : ∃ x, dropS e m s p = x := ⟨_, rfl⟩
  have hm1 := h.m1; have hm2 := h.m2; have he1 := h.e1; have he2 := h.e2
  have hKv : (63 - (m : Int)) + EX - RE = (K : Int) := by
    unfold dropS at hK; rw [hEX, hRE] at hK; omega
  have c2 : IntKind.i16.wrap (ld : Int) = (ld : Int) := by rw [wi16]; omega
  have c3 : IntKind.i16.wrap (p - (ld : Int)) = p - (ld : Int) := by rw [wi16]; omega
  have c4 : IntKind.i16.wrap (p - (ld : Int) + 63) = RE := by rw [wi16]; omega
  have c5 : IntKind.i16.wrap (1 - (bias e : Int)) = EM := by rw [wi16]; omega
  rw [hbI] at c5 HBI HRO HRM
  rw [hEX] at HRO HRM
  have HEXC : Box ((RE < EM ∧ EX = EM) ∨ (¬ RE < EM ∧ EX = RE)) := ⟨by omega⟩
  obtain ⟨D1, hD1⟩ : ∃ x, 63 - m = x := ⟨_, rfl⟩
  have c6 : IntKind.i16.wrap (63 - (m : Int)) = (D1 : Int) := by rw [wi16]; omega
  have c7 : IntKind.i16.wrap (m : Int) = (m : Int) := by rw [wi16]; omega
  have c8 : IntKind.i16.wrap (EM - 1) = EM - 1 := by rw [wi16]; omega
  obtain ⟨TN, hTN⟩ : ∃ x, tinyS' e m mode neg s p = x := ⟨_, rfl⟩
  obtain ⟨T1, hT1⟩ : ∃ x, S / 2 ^ D1 = x := ⟨_, rfl⟩
  obtain ⟨R1, hR1⟩ : ∃ x, restC S D1 = x := ⟨_, rfl⟩
  have hrl : ∀ k, restC S k < 18446744073709551616 := restC_lt hS2
  have hT1l : T1 < 18446744073709551616 := by rw [← hT1]; exact Nat.lt_of_le_of_lt (Nat.div_le_self _ _) hS2
  have HCU1 := hide (cut_any S hS2 D1 (by omega))
  have HRS1 := hide (sraises_any mode neg T1 R1 hT1l (by rw [← hR1]; exact hrl _))
  rw [hT1, hR1] at HCU1
  obtain ⟨RS1, hRS1⟩ : ∃ x, raisesS mode neg T1 R1 = x := ⟨_, rfl⟩
  rw [hRS1] at HRS1
  obtain ⟨M1, hM1⟩ : ∃ x : Int, ((2 ^ (m + 1) - 1 : Nat) : Int) = x := ⟨_, rfl⟩
  have HTN : Box ((RE = EM - 1 → TN = (!RS1 || ((T1 : Int) != M1))) ∧ (RE ≠ EM - 1 → TN = decide (RE < EM))) := by
    constructor
    rw [← hTN]
    unfold tinyS'
    rw [hRE, hEM, hS, hD1, hT1, hR1, hRS1]
    refine ⟨fun hh => ?_, fun hh => by rw [if_neg hh]⟩
    rw [if_pos hh, ← hM1]
    congr 1
    rw [Bool.eq_iff_iff, bne_iff_ne, decide_eq_true_iff]
    omega
  have hPm : 2 ^ (m + 1) ≤ 2 ^ 53 := pow_le_of (by omega)
  have hPp := two_pos (m + 1)
  have c9 : IntKind.u64.wrap (2 ^ (m + 1)) - 1 = M1 := by
    rw [two_pow_cast, w64n, ← hM1]
    rw [show (2 : Nat) ^ 53 = 9007199254740992 from rfl] at hPm
    generalize 2 ^ (m + 1) = P at *
    omega
  have c9b : IntKind.u64.wrap M1 = M1 := by
    rw [← hM1, w64n]
    rw [show (2 : Nat) ^ 53 = 9007199254740992 from rfl] at hPm
    generalize 2 ^ (m + 1) = P at *
    omega
  have c10 : IntKind.u8.wrap ((m : Int) + 1) = ((m + 1 : Nat) : Int) := by simp [IntKind.wrap, IntKind.bits, IntKind.signed]; omega
  obtain ⟨T2, hT2⟩ : ∃ x, S / 2 ^ K = x := ⟨_, rfl⟩
  obtain ⟨R2, hR2⟩ : ∃ x, restC S K = x := ⟨_, rfl⟩
  have hT2l : T2 < 18446744073709551616 := by rw [← hT2]; exact Nat.lt_of_le_of_lt (Nat.div_le_self _ _) hS2
  have HCU2 := hide (cut_any S hS2 K (by omega))
  have HRS2 := hide (sraises_any mode neg T2 R2 hT2l (by rw [← hR2]; exact hrl _))
  rw [hT2, hR2] at HCU2
  obtain ⟨RS2, hRS2⟩ : ∃ x, raisesS mode neg T2 R2 = x := ⟨_, rfl⟩
  rw [hRS2] at HRS2
  obtain ⟨UP, hUP⟩ : ∃ x, upS mode neg S K = x := ⟨_, rfl⟩
  have hUPl : UP ≤ 2 ^ (m + 1) := by rw [← hUP]; exact upS_le mode neg hS2 (by omega) (by omega)
  have hUPv : UP = if RS2 then T2 + 1 else T2 := by rw [← hUP]; unfold upS; rw [hT2, hR2, hRS2]
  rw [hS, hK, hUP, hR2, hTN] at HRM
  have HT2L : Box (T2 + 1 < 18446744073709551616) := by
    constructor
    rw [show (2 : Nat) ^ 53 = 9007199254740992 from rfl] at hPm
    have : T2 ≤ UP := by rw [hUPv]; split <;> omega
    omega
  have c11 : IntKind.i16.wrap ((D1 : Int) + EX) = (D1 : Int) + EX := by rw [wi16]; omega
  have c12 : IntKind.i16.wrap ((D1 : Int) + EX - RE) = (K : Int) := by rw [wi16]; omega
  have HUPV := Box.mk hUPv
  have HUPL := Box.mk hUPl
  have hsz : ((s : Int) == 0) = false := by rw [beq_eq_false_iff_ne]; omega
  have hsi : (ld : Int) < 64 := by omega
  have HB := Box.mk (show EM ≤ EX ∧ -1100 ≤ EM ∧ RE ≤ 30000 ∧ -30000 ≤ RE ∧ EM ≤ 0 ∧ 1 - bI = EM ∧ bI ≤ 1023 by omega)
  have HFM := Box.mk h
  have HEME := Box.mk (And.intro hEM hbI)
  clear hrl hT1l hT2l hUPl hUPv hPm hPp hM1 hTN hT1 hR1 hRS1 hT2 hR2 hRS2 hUP hS hK hEX hRE hEM hEMv hEXv hREv hKv hD1 hS1 hS2 hbs hbp hb h0 hs hld hls hbI h
  go_enter Oacg.func35, Oacg.ntmps35
  go_wp2_with fail
  refine (HCZ.out _).mono ?_
  rintro _ w1 ⟨rfl, rfl⟩
  go_wp2_with fail
  refine (HBI.out _).mono ?_
  rintro _ w1 ⟨rfl, k1, k2, hw1⟩
  have hx1 : Ext w w1 := by rw [hw1]; exact ext3
  have g0 : w1.cell? ⟨w.heap.size, 0, none⟩ = some (.int .u8 (e : Int)) := by rw [hw1]; simp [go_sem]
  have g1 : w1.cell? ⟨w.heap.size, 1, none⟩ = some (.int .u8 (m : Int)) := by rw [hw1]; simp [go_sem]
  have HC : Hid (∀ w', Ext w1 w' → w'.cell? ⟨w.heap.size, 0, none⟩ = some (.int .u8 (e : Int)) ∧ w'.cell? ⟨w.heap.size, 1, none⟩ = some (.int .u8 (m : Int))) := fun w' hx => ⟨hx.cell g0, hx.cell g1⟩
  have HX1 := hide hx1
  clear hx1 hw1
  go_upto_region 7 with fail
  go_cut [15] (fun v wx => v = .int .i16 EX ∧ wx = w1)
  case first =>
    rcases HEXC.out with ⟨q1, rfl⟩ | ⟨q1, rfl⟩
    · go_wp2_with fail
      go_meet
      exact ⟨rfl, rfl⟩
    · go_wp2_with fail
      go_meet
      exact ⟨rfl, rfl⟩
  case rest =>
    obtain ⟨rfl, rfl⟩ := hcut
    clear HEXC
    go_wp2_with fail
    refine (HBI.out _).mono ?_
    rintro _ w2 ⟨rfl, k3, k4, hw2⟩
    have HX2 : Hid (Ext wc w2) := by rw [hw2]; exact ((Ext.refl wc).alloc _ _).alloc _ _
    obtain ⟨g0, g1⟩ := HC.out _ HX2.out
    clear hw2 HBI
    by_cases hov : bI < EX
    · obtain ⟨rfl, rfl⟩ := HRO.out hov
      clear HRO HRM
      go_wp2_with fail
      refine (HOV.out _).mono ?_
      rintro _ w3 ⟨rfl, hx3⟩
      have HX3 : Hid (Ext w w3) := (HX1.out.trans HX2.out).trans hx3
      clear hx3
      go_wp2_with fail
      simp [bodyPost, results, Oacg.results35, go_sem]
      exact HX3.out
    · obtain ⟨hVV, hFF⟩ := HRM.out (by omega)
      have HVF := Box.mk (And.intro hVV hFF)
      clear hVV hFF HRO HRM
      go_upto_if 64 with fail
      go_cut [17] (fun v wx => v = .bool TN ∧ Hid (Ext wc wx))
      case first =>
        by_cases ht : RE = EM - 1
        · have ht1 := HTN.out.1 ht
          have ht2 : (RE == EM - 1) = true := by rw [beq_iff_eq]; exact ht
          clear ht HTN
          go_wp2_with fail
          refine (HCU1.out _).mono ?_
          rintro _ w3 ⟨rfl, hx3⟩
          have HX3 := hide (HX2.out.trans hx3)
          obtain ⟨g0, g1⟩ := HC.out _ HX3.out
          clear hx3
          go_wp2_with fail
          refine (HRS1.out _).mono ?_
          rintro _ w4 ⟨rfl, hw4⟩
          rw [hw4]
          clear hw4 w4
          cases RS1 with
          | true =>
            rw [Bool.not_true, Bool.false_or] at ht1
            subst ht1
            go_wp2_with fail
            go_meet
            exact ⟨rfl, HX3⟩
          | false =>
            rw [Bool.not_false, Bool.true_or] at ht1
            subst ht1
            go_wp2_with fail
            go_meet
            exact ⟨rfl, HX3⟩
        · have ht1 := HTN.out.2 ht
          have ht2 : (RE == EM - 1) = false := by rw [beq_eq_false_iff_ne]; exact ht
          clear ht HTN
          subst ht1
          go_wp2_with fail
          go_meet
          exact ⟨rfl, HX2⟩
      case rest =>
        obtain ⟨rfl, HX3⟩ := hcut
        obtain ⟨g0, g1⟩ := HC.out _ HX3.out
        have HX4 := hide (HX1.out.trans HX3.out)
        clear HTN HCU1 HRS1 HX2
        go_wp2_with fail
        refine (HCU2.out _).mono ?_
        rintro _ w5 ⟨rfl, hx5⟩
        have HX5 := hide (HX4.out.trans hx5)
        have HXc := hide (HX3.out.trans hx5)
        clear hx5
        go_wp2_with fail
        refine (HRS2.out _).mono ?_
        rintro _ w6 ⟨rfl, hw6⟩
        rw [hw6]
        clear hw6 w6 HCU2 HRS2
        go_upto_if 100 with fail
        have c15 : IntKind.u64.wrap ((T2 : Int) + 1) = ((T2 + 1 : Nat) : Int) := by
          rw [← Int.natCast_one, ← Int.natCast_add, w64n, Nat.mod_eq_of_lt HT2L.out]
        go_cut [20] (fun v wx => v = .int .u64 (UP : Int) ∧ wx = w5)
        case first =>
          have hup := HUPV.out
          cases RS2 with
          | true =>
            rw [if_pos rfl] at hup
            subst hup
            go_wp2_with fail
            go_meet
            exact ⟨by rw [Int.natCast_add]; rfl, rfl⟩
          | false =>
            rw [if_neg (by decide)] at hup
            subst hup
            go_wp2_with fail
            go_meet
            exact ⟨rfl, rfl⟩
        case rest =>
          obtain ⟨rfl, rfl⟩ := hcut
          clear HUPV HT2L
          rename_i wz _ _ wd
          have hpx := packX_bd HFM.out (ex := EX) (by have := HB.out; rw [HEME.out.1]; omega) (by rw [HEME.out.2]; omega) HUPL.out
          obtain ⟨KE, hKE⟩ : ∃ K : Nat, (EX - EM).toNat = K := ⟨_, rfl⟩
          have hKi : EX - EM = (KE : Int) := by have := HB.out; omega
          have hX : packX e m EX UP = KE * 2 ^ m + UP := by unfold packX; rw [HEME.out.1, hKE]
          have hKb : KE ≤ 4096 := by have := HB.out; omega
          have d1 : IntKind.i16.wrap (EX - EM) = (KE : Int) := by rw [hKi, wi16]; omega
          have d2 : IntKind.u64.wrap (KE : Int) = (KE : Int) := by rw [wu64]; omega
          have d3 : IntKind.u64.wrap ((KE : Int) * 2 ^ m) = ((KE * 2 ^ m : Nat) : Int) := by
            rw [two_pow_cast, ← Int.natCast_mul, w64n, Nat.mod_eq_of_lt (by omega)]
          obtain ⟨T, hT⟩ : ∃ T : Int, ((KE * 2 ^ m : Nat) : Int) = T := ⟨_, rfl⟩
          rw [hT] at d3
          obtain ⟨X, hXX⟩ : ∃ X : Nat, packX e m EX UP = X := ⟨_, rfl⟩
          have d4 : IntKind.u64.wrap (T + (UP : Int)) = (X : Int) := by rw [wu64]; omega
          obtain ⟨I, hII⟩ : ∃ I : Nat, infP e m = I := ⟨_, rfl⟩
          have hor : ¬ I ≤ X → Go.bits BinOp.or IntKind.u64 (X : Int) (sg e m neg : Int) = ((X + sg e m neg : Nat) : Int) := by
            intro hb
            rw [← hII] at hb
            cases neg with
            | false => unfold sg; simp only [Bool.false_eq_true, if_false]; have := u64_or_nat X 0 (by omega) (by decide); rw [Nat.or_zero] at this; rw [Nat.add_zero]; exact this
            | true =>
              have := infP_bd HFM.out
              unfold sg; simp only [if_true]
              exact or_sgn HFM.out (by omega)
          have HOR := hide hor
          obtain ⟨hVV, hFF⟩ := HVF.out
          unfold packV at hVV
          unfold packF at hFF
          rw [hXX, hII] at hVV hFF
          rw [hII] at HIN
          have HVV := Box.mk hVV
          have HFF := Box.mk hFF
          have HXE := hide (HX1.out.trans (HX3.out.trans (Ext.refl _)))
          obtain ⟨g0, g1⟩ := HC.out _ HXc.out
          clear hVV hFF hor hII hXX hT hX hpx hKE hKi hKb HVF c15
          go_wp2_with fail
          refine (HIN.out _).mono ?_
          rintro _ w7 ⟨rfl, k5, k6, k7, hw7⟩
          have hx7 : Ext wc w7 := by rw [hw7]; exact (((Ext.refl wc).alloc _ _).alloc _ _).alloc _ _
          have HX7 := hide (HX5.out.trans hx7)
          obtain ⟨g0, g1⟩ := HC.out _ (HXc.out.trans hx7)
          clear hw7 hx7
          by_cases hb : I ≤ X
          · have hbi : (I : Int) ≤ (X : Int) := by omega
            have v1 := HVV.out
            have v2 := HFF.out
            rw [if_pos hb] at v1 v2
            subst v1 v2
            clear HVV HFF HOR hb
            go_wp2_with fail
            refine (HOV.out _).mono ?_
            rintro _ w8 ⟨rfl, hx8⟩
            have HX8 := hide (HX7.out.trans hx8)
            clear hx8
            go_wp2_with fail
            simp [bodyPost, results, Oacg.results35, go_sem]
            exact HX8.out
          · have hbi : ¬ (I : Int) ≤ (X : Int) := by omega
            have v1 := HVV.out
            have v2 := HFF.out
            have ho := HOR.out hb
            rw [if_neg hb] at v1 v2
            subst v1
            clear HVV HFF HOR hb
            by_cases hr : R2 = 0
            · subst hr
              rw [show (!decide ((0 : Nat) ≠ 0)) = true from rfl, if_pos rfl] at v2
              subst v2
              go_wp2_with fail
              refine (HZ.out _).mono ?_
              rintro _ w8 ⟨rfl, hx8⟩
              have HX8 := hide (HX7.out.trans hx8)
              clear hx8
              go_wp2_with fail
              simp [bodyPost, results, Oacg.results35, go_sem]
              exact HX8.out
            · have hrz : ((R2 : Int) == 0) = false := by rw [beq_eq_false_iff_ne]; omega
              rw [decide_eq_true hr, if_neg (by decide)] at v2
              clear hr
              cases TN with
              | false =>
                rw [if_neg (by decide)] at v2
                subst v2
                go_wp2_with fail
                refine (HZ.out _).mono ?_
                rintro _ w8 ⟨rfl, hx8⟩
                have HX8 := hide (HX7.out.trans hx8)
                clear hx8
                go_wp2_with fail
                simp [bodyPost, results, Oacg.results35, go_sem]
                exact HX8.out
              | true =>
                rw [if_pos rfl] at v2
                subst v2
                go_wp2_with fail
                refine (HZ.out _).mono ?_
                rintro _ w8 ⟨rfl, hx8⟩
                have HX8 := hide (HX7.out.trans hx8)
                clear hx8
                go_wp2_with fail
                simp [bodyPost, results, Oacg.results35, go_sem]
                exact HX8.out
theorem roundPack_any (e m : Nat) (h : Fm e m) (mode : Int) (neg : Bool) (p : Int) (hp1 : -20000 ≤ p) (hp2 : p ≤ 20000) (s : Nat) (hs : s < 18446744073709551616) (w : World) :
    Calls Oacg.prog 35 #[.agg #[.int .u8 (e : Int), .int .u8 (m : Int)], .int .u8 mode, .bool neg, .int .i16 p, .int .u64 (s : Int)] w fun r w' =>
      r = .returned (.tuple #[.int .u64 (rndV e m mode neg (shN s p) (shD 1 p) : Int), .int .u8 (rndF e m mode neg (shN s p) (shD 1 p))]) ∧ Ext w w' := by
  rcases Nat.eq_zero_or_pos s with h0 | h0
  · subst h0
    have e1 : shN 0 p = 0 := Nat.zero_mul _
    rw [e1, show rndV e m mode neg 0 (shD 1 p) = sg e m neg by unfold rndV; rw [if_pos rfl], show rndF e m mode neg 0 (shD 1 p) = 0 by unfold rndF; rw [if_pos rfl]]
    exact roundPack_zero e m h mode neg p w
  · exact roundPack_pos e m h mode neg p hp1 hp2 s h0 hs w
end Go.Proofs.YgcoacGreat
