/-
  wide.Sqrt, for a radicand whose upper half has its top bit or the one below.
-/
import Derived.Test.YgcoacGreatWdH
import Derived.Deep.QuietTactic
import Derived.BigQuiet
namespace Go.Proofs.YgcoacGreat
open Go.RowKit
set_option linter.unusedSimpArgs false
set_option linter.unusedVariables false

theorem clz_even {h : Nat} (h1 : 4611686018427387904 ≤ h) (h2 : h < 18446744073709551616) : Go.bits BinOp.andNot IntKind.u8 ((64 - bits h : Nat) : Int) 1 = 0 := by
  have a : bits h ≤ 64 := bits_le_of_lt (show h < 2 ^ 64 from h2)
  have b : 63 ≤ bits h := by
    rcases Nat.lt_or_ge (bits h) 63 with hb | hb
    · have := bits_lt h
      have := Nat.pow_le_pow_right (show 0 < 2 by decide) (show bits h ≤ 62 by omega)
      rw [show (2 : Nat) ^ 62 = 4611686018427387904 from rfl] at this
      omega
    · exact hb
  rcases (show bits h = 63 ∨ bits h = 64 by omega) with e | e <;> rw [e] <;> decide

set_option maxRecDepth 20000 in
set_option maxHeartbeats 2000000 in
theorem wSqrt_any (a : Nat) (h1 : 85070591730234615865843651857942052864 ≤ a) (h2 : a < 340282366920938463463374607431768211456) (w : World) :
    Calls Oacg.prog 34 #[uV a] w fun r w' =>
      r = .returned (.tuple #[.int .u64 ((isq a : Nat) : Int), .bool (decide (isq a * isq a = a))]) ∧ Ext w w' := by
  obtain ⟨hi, hhi⟩ : ∃ x, a / 18446744073709551616 = x := ⟨_, rfl⟩
  obtain ⟨lo, hlo⟩ : ∃ x, a % 18446744073709551616 = x := ⟨_, rfl⟩
  have hi1 : 4611686018427387904 ≤ hi := by omega
  have hi2 : hi < 18446744073709551616 := by omega
  have lo2 : lo < 18446744073709551616 := by omega
  have HCZ := hide (clz_any hi hi2)
  have hce := clz_even hi1 hi2
  generalize 64 - bits hi = cz at *
  have HSL := hide (wShl_any a h2 0 (by decide))
  rw [Nat.pow_zero, Nat.mul_one, Nat.mod_eq_of_lt h2] at HSL
  have HRT := hide (root_any hi hi1 hi2)
  obtain ⟨q1, q2⟩ := isq_spec hi
  obtain ⟨hg, hhg⟩ : ∃ x, isq hi = x := ⟨_, rfl⟩
  obtain ⟨rs, hrs⟩ : ∃ x, hi - hg * hg = x := ⟨_, rfl⟩
  rw [hhg] at q1 q2
  rw [hhg, hrs] at HRT
  rw [sq_add] at q2
  have hrl : rs ≤ 2 * hg := by omega
  have hgg : 2147483648 ≤ hg := by
    rcases Nat.lt_or_ge hg 2147483648 with h | h
    · have := Nat.mul_le_mul (show hg + 1 ≤ 2147483648 by omega) (show hg + 1 ≤ 2147483648 by omega)
      rw [sq_add] at this
      omega
    · exact h
  have hgl : hg < 4294967296 := by
    rcases Nat.lt_or_ge hg 4294967296 with h | h
    · exact h
    · have := Nat.mul_le_mul h h
      omega
  have hk := kara (B := 4294967296) (s := hg) (l := rs) (a1 := lo / 4294967296) (a0 := lo % 4294967296) hrl (by omega) (by decide) (by omega) (Nat.mod_lt _ (by decide))
  rw [show hg * hg + rs = hi by omega, show (hi * 4294967296 + lo / 4294967296) * 4294967296 + lo % 4294967296 = a by omega] at hk
  obtain ⟨N, hN⟩ : ∃ x, rs * 4294967296 + lo / 4294967296 = x := ⟨_, rfl⟩
  have HDV := hide (wDiv_any N (2 * hg) (by omega) (by omega))
  rw [hN] at hk
  obtain ⟨q, hq⟩ : ∃ x, N / (2 * hg) = x := ⟨_, rfl⟩
  rw [hq] at hk HDV
  generalize N % (2 * hg) = rr at HDV
  obtain ⟨m, hm⟩ : ∃ x, min q (4294967296 - 1) = x := ⟨_, rfl⟩
  rw [hm] at hk
  have hm1 : m ≤ 4294967295 := by omega
  obtain ⟨s1, hs1⟩ : ∃ x, hg * 4294967296 + m = x := ⟨_, rfl⟩
  rw [hs1] at hk
  have hs1l : s1 < 18446744073709551616 := by omega
  have HM1 := hide (mul64_any s1 s1 hs1l hs1l)
  have HCM := hide (wCmp_any (s1 * s1) a)
  obtain ⟨S, hS⟩ : ∃ x, isq a = x := ⟨_, rfl⟩
  rw [hS] at hk
  rw [hS]
  have hSl : S < 18446744073709551616 := by rw [hk]; split <;> omega
  have HM2 := hide (mul64_any S S hSl hSl)
  have hcm : decide ((0 : Int) < cmpI (s1 * s1) a) = decide (a < s1 * s1) := by
    unfold cmpI
    split
    · rw [decide_eq_false (by omega), decide_eq_false (by omega)]
    · split
      · rw [decide_eq_false (by omega), decide_eq_false (by omega)]
      · rw [decide_eq_true (by omega), decide_eq_true (by omega)]
  obtain ⟨cm, hcmv⟩ : ∃ x, cmpI (s1 * s1) a = x := ⟨_, rfl⟩
  rw [hcmv] at HCM hcm
  have d1 : IntKind.u64.wrap (2 * (hg : Int)) = ((2 * hg : Nat) : Int) := by rw [wu64]; omega
  obtain ⟨H1, hH1⟩ : ∃ H : Int, H = ((a / 18446744073709551616 : Nat) : Int) := ⟨_, rfl⟩
  obtain ⟨L1, hL1⟩ : ∃ H : Int, H = ((a % 18446744073709551616 : Nat) : Int) := ⟨_, rfl⟩
  obtain ⟨H2, hH2⟩ : ∃ H : Int, H = ((N / 18446744073709551616 : Nat) : Int) := ⟨_, rfl⟩
  obtain ⟨L2, hL2⟩ : ∃ H : Int, H = ((N % 18446744073709551616 : Nat) : Int) := ⟨_, rfl⟩
  obtain ⟨H3, hH3⟩ : ∃ H : Int, H = ((s1 * s1 / 18446744073709551616 : Nat) : Int) := ⟨_, rfl⟩
  obtain ⟨L3, hL3⟩ : ∃ H : Int, H = ((s1 * s1 % 18446744073709551616 : Nat) : Int) := ⟨_, rfl⟩
  obtain ⟨H4, hH4⟩ : ∃ H : Int, H = ((S * S / 18446744073709551616 : Nat) : Int) := ⟨_, rfl⟩
  obtain ⟨L4, hL4⟩ : ∃ H : Int, H = ((S * S % 18446744073709551616 : Nat) : Int) := ⟨_, rfl⟩
  have d2 : (rs : Int) / 4294967296 = H2 := by omega
  have d3 : Go.bits BinOp.or IntKind.u64 (IntKind.u64.wrap ((rs : Int) * 4294967296)) (L1 / 4294967296) = L2 := by
    rw [show L1 / 4294967296 = ((lo / 4294967296 : Nat) : Int) by omega, hL2, ← hN, wu64,
      show (rs : Int) * 4294967296 % 18446744073709551616 = ((rs % 4294967296 * 4294967296 : Nat) : Int) by omega]
    rw [or_disj (k := 32) (by decide) (by omega) (by rw [show (2 : Nat) ^ 32 = 4294967296 from rfl]; omega) (by rw [show (2 : Nat) ^ 32 = 4294967296 from rfl, Nat.mul_mod_left])]
    omega
  have f7 : Box (Go.bits BinOp.or IntKind.u64 (IntKind.u64.wrap ((hg : Int) * 4294967296)) (m : Int) = (s1 : Int)) := by
    constructor
    rw [or_limbsw hgl (by omega), hs1]
  have HQS : Box (((q : Int) ≤ 4294967295 ∧ m = q) ∨ (¬ (q : Int) ≤ 4294967295 ∧ m = 4294967295)) := ⟨by omega⟩
  have HSS : Box ((a < s1 * s1 → IntKind.u64.wrap ((s1 : Int) - 1) = (S : Int)) ∧ (¬ a < s1 * s1 → S = s1)) := by
    refine ⟨⟨fun c => ?_, fun c => ?_⟩⟩
    · rw [if_pos c] at hk
      rw [wu64]
      have : 0 < s1 := by
        rcases Nat.eq_zero_or_pos s1 with h | h
        · rw [h] at c; omega
        · exact h
      omega
    · rw [if_neg c] at hk; exact hk
  have HEQ : Box ((S * S = a ∧ H4 = H1 ∧ L4 = L1) ∨ (¬ S * S = a ∧ (H4 == H1) = false) ∨ (¬ S * S = a ∧ H4 = H1 ∧ (L4 == L1) = false)) := by
    constructor
    by_cases c : S * S = a
    · left; rw [c] at hH4 hL4; exact ⟨c, by omega, by omega⟩
    · right
      by_cases c2 : H4 = H1
      · right; refine ⟨c, c2, ?_⟩; rw [beq_eq_false_iff_ne]; omega
      · left; exact ⟨c, by rw [beq_eq_false_iff_ne]; exact c2⟩
  obtain ⟨EQ, hEQ⟩ : ∃ b : Bool, decide (S * S = a) = b := ⟨_, rfl⟩
  rw [hEQ]
  obtain ⟨GT, hGT⟩ : ∃ b : Bool, decide (a < s1 * s1) = b := ⟨_, rfl⟩
  rw [hGT] at hcm
  have HGT := Box.mk hGT
  have HEQB := Box.mk hEQ
  have hz : (H1 == 0) = false := by rw [beq_eq_false_iff_ne]; omega
  have e1 : ((hi : Nat) : Int) = H1 := by omega
  obtain ⟨D2, hD2⟩ : ∃ x : Int, ((2 * hg : Nat) : Int) = x := ⟨_, rfl⟩
  unfold uV at *
  rw [← hH1, ← hL1] at HSL
  rw [← hH2, ← hL2, hD2] at HDV
  rw [← hH3, ← hL3] at HM1
  rw [← hH3, ← hL3, ← hH1, ← hL1] at HCM
  rw [← hH4, ← hL4] at HM2
  rw [← hH1, ← hL1]
  rw [e1] at HCZ HRT
  rw [hD2] at d1
  rw [show ((0 : Nat) : Int) = 0 from rfl] at HSL
  clear hD2 e1 hEQ hGT hH1 hL1 hH2 hL2 hH3 hL3 hH4 hL4 hk hS hSl hs1 hs1l hm hm1 hq hN hrl hgg hgl q1 q2 hhg hrs hcmv hi1 hi2 lo2 hhi hlo h1 h2
  go_enter Oacg.func34, Oacg.ntmps34
  go_wp2_with fail
  refine (HCZ.out _).mono ?_
  rintro _ w1 ⟨rfl, rfl⟩
  go_wp2_with fail
  refine (HSL.out _).mono ?_
  rintro _ w1 ⟨rfl, hx1⟩
  have g0 : w1.cell? ⟨w.heap.size, 0, none⟩ = some (.int .u64 H1) := hx1.cell (by simp [go_sem])
  have g1 : w1.cell? ⟨w.heap.size, 1, none⟩ = some (.int .u64 L1) := hx1.cell (by simp [go_sem])
  obtain ⟨W1, hW1⟩ : ∃ W1, W1 = w1.alloc (.cells #[.int .u64 H1, .int .u64 L1] 52) := ⟨_, rfl⟩
  have hxa : Ext w1 W1 := by rw [hW1]; exact (Ext.refl w1).alloc _ _
  have HX1 : Hid (Ext w W1) := (((Ext.refl w).alloc _ _).trans hx1).trans hxa
  have k0 : W1.cell? ⟨w1.heap.size, 0, none⟩ = some (.int .u64 H1) := by rw [hW1]; simp [go_sem]
  have k1 : W1.cell? ⟨w1.heap.size, 1, none⟩ = some (.int .u64 L1) := by rw [hW1]; simp [go_sem]
  have HC4 : Hid (∀ w', Ext W1 w' → w'.cell? ⟨w.heap.size, 0, none⟩ = some (.int .u64 H1) ∧ w'.cell? ⟨w.heap.size, 1, none⟩ = some (.int .u64 L1) ∧ w'.cell? ⟨w1.heap.size, 0, none⟩ = some (.int .u64 H1) ∧ w'.cell? ⟨w1.heap.size, 1, none⟩ = some (.int .u64 L1)) := fun w' hx => ⟨(hxa.trans hx).cell g0, (hxa.trans hx).cell g1, hx.cell k0, hx.cell k1⟩
  clear hx1 hxa HCZ HSL g0 g1 k0 k1
  go_wp2_with fail
  rw [← hW1]
  clear hW1
  refine (HRT.out _).mono ?_
  rintro _ w2 ⟨rfl, hw2⟩
  rw [hw2]
  clear hw2 w2 HRT
  obtain ⟨c0, c1, k0, k1⟩ := HC4.out _ (Ext.refl _)
  go_wp2_with fail
  refine (HDV.out _).mono ?_
  rintro _ w2 ⟨rfl, hx2⟩
  have HX2 : Hid (Ext W1 w2) := hx2
  clear hx2 HDV c0 c1 k0 k1 d1 d2 d3 hz hce
  go_upto_region 12 with fail
  go_cut [2] (fun v wx => v = .int .u64 (s1 : Int) ∧ wx = w2)
  case first =>
    rcases HQS.out with ⟨hqi, e0⟩ | ⟨hqi, e0⟩
    · subst e0
      have f8 := f7.out
      go_wp2_with fail
      go_meet
      exact ⟨rfl, rfl⟩
    · subst e0
      have f8 := f7.out
      rw [show ((4294967295 : Nat) : Int) = 4294967295 from rfl] at f8
      go_wp2_with fail
      go_meet
      exact ⟨rfl, rfl⟩
  case rest =>
    obtain ⟨rfl, rfl⟩ := hcut
    clear f7 HQS
    go_upto_region 13 with fail
    go_cut [80] (fun v wx => v = .bool GT ∧ Hid (Ext W1 wx))
    case first =>
      go_region_held3 (fun w' => w'.cell? ⟨w.heap.size, 0, none⟩ = some (.int .u64 H1) ∧ w'.cell? ⟨w.heap.size, 1, none⟩ = some (.int .u64 L1) ∧ w'.cell? ⟨w1.heap.size, 0, none⟩ = some (.int .u64 H1) ∧ w'.cell? ⟨w1.heap.size, 1, none⟩ = some (.int .u64 L1))
        (first | exact HC4.out _ HX2.out | exact HC4.out _ (by (repeat apply Ext.drew); first | exact HX2.out | assumption))
        (first
          | (go_at_call 57; refine (HM1.out _).mono ?_; rintro rr w3 ⟨rfl, hx3⟩; have hE : Ext W1 w3 := Ext.trans (by (repeat apply Ext.drew); first | exact HX2.out | assumption) hx3; clear hx3)
          | (go_at_call 69; refine (HCM.out _).mono ?_; rintro rr w3 ⟨rfl, hx3⟩; have hE : Ext W1 w3 := Ext.trans (by (repeat apply Ext.drew); first | exact HX2.out | assumption) hx3; clear hx3))
      all_goals go_wp2_with fail
      all_goals go_meet
      all_goals exact ⟨rfl, ‹Ext W1 _›⟩
    case rest =>
      obtain ⟨rfl, HX3⟩ := hcut
      clear HM1 HCM hcm HX2
      go_upto_if 80 with fail
      go_cut [2] (fun v wx => v = .int .u64 (S : Int) ∧ wx = wc)
      case first =>
        by_cases c1 : a < s1 * s1
        · have hg1 := HGT.out
          rw [decide_eq_true c1] at hg1
          subst hg1
          have hs2 := HSS.out.1 c1
          clear c1 HGT
          go_wp2_with fail
          go_meet
          exact ⟨rfl, rfl⟩
        · have hg1 := HGT.out
          rw [decide_eq_false c1] at hg1
          subst hg1
          have hs2 := HSS.out.2 c1
          clear c1 HGT
          subst hs2
          go_wp2_with fail
          go_meet
          exact ⟨rfl, rfl⟩
      case rest =>
        obtain ⟨rfl, rfl⟩ := hcut
        clear HSS HGT
        have hp0 : (2 : Int) ^ 0 = 1 := rfl
        go_upto_region 16 with fail
        have HEB := HEQB.out
        rcases HEQ.out with ⟨e0, e1, e2⟩ | ⟨e0, e2⟩ | ⟨e0, e1, e2⟩
        · subst e1 e2
          rw [decide_eq_true e0] at HEB
          clear HEQ HEQB e0
          subst HEB
          go_region_held3 (fun w' => w'.cell? ⟨w.heap.size, 0, none⟩ = some (.int .u64 H4) ∧ w'.cell? ⟨w.heap.size, 1, none⟩ = some (.int .u64 L4) ∧ w'.cell? ⟨w1.heap.size, 0, none⟩ = some (.int .u64 H4) ∧ w'.cell? ⟨w1.heap.size, 1, none⟩ = some (.int .u64 L4))
            (first | exact HC4.out _ HX3.out | exact HC4.out _ (by (repeat apply Ext.drew); first | exact HX3.out | assumption))
            (first
              | (go_at_call 57; refine (HM2.out _).mono ?_; rintro rr w3 ⟨rfl, hx3⟩; have hE : Ext W1 w3 := Ext.trans (by (repeat apply Ext.drew); first | exact HX3.out | assumption) hx3; clear hx3))
          all_goals go_wp2_with fail
          all_goals simp [bodyPost, results, Oacg.results34, go_sem]
          all_goals first
            | exact HX1.out.trans ‹Ext W1 _›
            | exact ⟨e2, HX1.out.trans ‹Ext W1 _›⟩
        · rw [decide_eq_false e0] at HEB
          clear HEQ HEQB e0
          subst HEB
          go_region_held3 (fun w' => w'.cell? ⟨w.heap.size, 0, none⟩ = some (.int .u64 H1) ∧ w'.cell? ⟨w.heap.size, 1, none⟩ = some (.int .u64 L1) ∧ w'.cell? ⟨w1.heap.size, 0, none⟩ = some (.int .u64 H1) ∧ w'.cell? ⟨w1.heap.size, 1, none⟩ = some (.int .u64 L1))
            (first | exact HC4.out _ HX3.out | exact HC4.out _ (by (repeat apply Ext.drew); first | exact HX3.out | assumption))
            (first
              | (go_at_call 57; refine (HM2.out _).mono ?_; rintro rr w3 ⟨rfl, hx3⟩; have hE : Ext W1 w3 := Ext.trans (by (repeat apply Ext.drew); first | exact HX3.out | assumption) hx3; clear hx3))
          all_goals go_wp2_with fail
          all_goals simp [bodyPost, results, Oacg.results34, go_sem]
          all_goals first
            | exact HX1.out.trans ‹Ext W1 _›
            | exact ⟨e2, HX1.out.trans ‹Ext W1 _›⟩
        · subst e1
          rw [decide_eq_false e0] at HEB
          clear HEQ HEQB e0
          subst HEB
          go_region_held3 (fun w' => w'.cell? ⟨w.heap.size, 0, none⟩ = some (.int .u64 H4) ∧ w'.cell? ⟨w.heap.size, 1, none⟩ = some (.int .u64 L1) ∧ w'.cell? ⟨w1.heap.size, 0, none⟩ = some (.int .u64 H4) ∧ w'.cell? ⟨w1.heap.size, 1, none⟩ = some (.int .u64 L1))
            (first | exact HC4.out _ HX3.out | exact HC4.out _ (by (repeat apply Ext.drew); first | exact HX3.out | assumption))
            (first
              | (go_at_call 57; refine (HM2.out _).mono ?_; rintro rr w3 ⟨rfl, hx3⟩; have hE : Ext W1 w3 := Ext.trans (by (repeat apply Ext.drew); first | exact HX3.out | assumption) hx3; clear hx3))
          all_goals go_wp2_with fail
          all_goals simp [bodyPost, results, Oacg.results34, go_sem]
          all_goals first
            | exact HX1.out.trans ‹Ext W1 _›
            | exact ⟨e2, HX1.out.trans ‹Ext W1 _›⟩
end Go.Proofs.YgcoacGreat
