/-
  nat.Pow5, exact.pow10.
-/
import Derived.Test.YgcoacExF
import Derived.Deep.DeepCutAuto
namespace Go.Proofs.Ygcoac
open Go.RowKit
set_option linter.unusedSimpArgs false
set_option linter.unusedVariables false

theorem natAt_lit (w : World) (c : Nat) (h0 : 0 < c) (hc : c < 4294967296) (t : TypeId) : NatAt (w.alloc (.cells #[.int .u32 (c : Int)] t)) (.slice (some ⟨w.heap.size, 0, none⟩) 1 1) c := by
  refine .inr ⟨[c], w.heap.size, 0, 1, rfl, Nat.le_refl _, by decide, ?_, ?_, ?_, h0, ?_⟩
  · intro x hx
    have : x = c := by simpa using hx
    subst this; exact hc
  · intro h
    simp; omega
  · simp [val]
  · intro j x hj
    match j, hj with
    | 0, hj =>
      have : c = x := by simpa using hj
      subst this
      simp [go_sem]
    | j + 1, hj => simp at hj
theorem two_ltW {a b : Nat} (h : a < 32 * b) : 2 ^ a < W b := by rw [W_pow]; exact Nat.pow_lt_pow_right (by decide) h
theorem pow5_lt {s : Nat} (h : s ≤ 2000) : 5 ^ s < W 200 := by
  have h1 : 5 ^ s ≤ 8 ^ s := Nat.pow_le_pow_left (by decide) s
  have h2 : 8 ^ s = 2 ^ (3 * s) := by rw [show 8 = 2 ^ 3 from rfl, ← Nat.pow_mul]
  have h3 : 2 ^ (3 * s) < W 200 := two_ltW (by omega)
  omega

set_option maxRecDepth 20000 in
set_option maxHeartbeats 2000000 in
theorem pow5_any (k : Nat) (hk : k ≤ 2000) (w : World) :
    Calls Oacg.prog 148 #[.int .u16 (k : Int)] w fun r w' => (∃ v, r = .returned v ∧ NatAt w' v (5 ^ k)) ∧ Ext w w' := by
  go_enter Oacg.func148, Oacg.ntmps148
  go_wp2
  go_loopw [3, 4] (fun vp vi wr => ∃ q : Nat, vi = .int .i64 ((q : Int) - 1) ∧ q ≤ 16 ∧ Hid (NatAt wr vp (5 ^ (k / 2 ^ q))) ∧ Hid (Ext w wr)) (fun _ i _ => (intOf i + 1).toNat)
  case atStart =>
    refine ⟨16, rfl, Nat.le_refl _, ?_, (Ext.refl w).alloc _ _⟩
    show NatAt _ _ _
    rw [Nat.div_eq_of_lt (show k < 2 ^ 16 by omega)]
    exact natAt_lit w 1 (by decide) (by decide) _
  case round =>
    rename_i wr
    obtain ⟨q, rfl, hq, HN, HX⟩ := hrel
    rcases Nat.eq_zero_or_pos q with hq0 | hq0
    · subst hq0
      rw [Nat.pow_zero, Nat.div_one] at HN
      go_wp2
      go_ret
      exact ⟨⟨_, rfl, HN.out⟩, HX.out⟩
    · obtain ⟨j, rfl⟩ : ∃ j, q = j + 1 := ⟨q - 1, by omega⟩
      have hjj : ((j + 1 : Nat) : Int) - 1 = (j : Int) := by omega
      rw [hjj]
      obtain ⟨r, hr⟩ : ∃ r, k / 2 ^ j = r := ⟨_, rfl⟩
      obtain ⟨s, hs⟩ : ∃ s, k / 2 ^ (j + 1) = s := ⟨_, rfl⟩
      have hrs : r / 2 = s := by rw [← hr, ← hs, Nat.pow_succ, Nat.div_div_eq_div_mul]
      have hri : (k : Int) / 2 ^ j = (r : Int) := by rw [two_pow_cast, ← Int.natCast_ediv, hr]
      have hrk : r ≤ 2000 := by rw [← hr]; exact Nat.le_trans (Nat.div_le_self _ _) hk
      rw [hs] at HN
      have hs2 : s ≤ 1000 := by omega
      have hand : Go.bits BinOp.and IntKind.u16 (r : Int) 1 = ((r % 2 : Nat) : Int) := by
        have := u16_and_nat r 1 (by omega) (by decide)
        rw [show ((1 : Nat) : Int) = (1 : Int) from rfl] at this
        rw [this, Nat.and_one_is_mod]
      have hji : (j : Int) ≤ 15 := by omega
      have HR := Box.mk hr
      have HM := hide (mul_any (5 ^ s) (5 ^ s) 200 200 (pow5_lt (by omega)) (pow5_lt (by omega)) (by decide) (by decide) u3 u3 wr HN.out HN.out)
      rw [← Nat.pow_add] at HM
      have HM5 := hide (fun v wx hv5 v5 (h5 : NatAt wx v5 5) => mul_any (5 ^ (s + s)) 5 200 1 (pow5_lt (by omega)) (by decide) (by decide) (by decide) v v5 wx hv5 h5)
      rw [← Nat.pow_succ] at HM5
      clear hjj hr hs hk hq hq0
      by_cases hr0 : r = 0
      · subst hr0
        have hs0 : s = 0 := by omega
        subst hs0
        clear HM HM5 hrs hrk hs2 hand
        have HF : Hid (NatAt wr u3 (5 ^ (k / 2 ^ j))) := by rw [HR.out]; exact HN.out
        clear HN HR
        go_wp2
        exact ⟨⟨j, rfl, by omega, HF, HX⟩, by first | (simp [intOf]; done) | (simp [intOf]; omega)⟩
      · have t0 : ((r : Int) != 0) = true := by rw [bne_iff_ne]; omega
        by_cases hodd : r % 2 = 1
        · have t1 : (((r % 2 : Nat) : Int) == 1) = true := by rw [hodd]; rfl
          have h2s : (s + s).succ = r := by omega
          rw [h2s] at HM5
          clear hrs hrk hs2 hodd hr0 h2s
          go_wp2_with fail
          refine HM.out.mono ?_
          rintro _ w1 ⟨⟨v1, rfl, hv1⟩, hx1⟩
          have HX1 := hide (HX.out.trans hx1)
          have HV1 := hide hv1
          clear hv1 hx1 HX HN HM
          go_wp2_with fail
          refine (HM5.out _ _ (HV1.out.ext ((Ext.refl _).alloc _ _)) _ (natAt_lit w1 5 (by decide) (by decide) _)).mono ?_
          rintro _ w2 ⟨⟨v2, rfl, hv2⟩, hx2⟩
          have HX2 : Hid (Ext w w2) := HX1.out.trans (((Ext.refl _).alloc _ _).trans hx2)
          have HF : Hid (NatAt w2 v2 (5 ^ (k / 2 ^ j))) := by rw [HR.out]; exact hv2
          clear hv2 hx2 HX1 HV1 HM5 HR
          go_wp2
          exact ⟨⟨j, rfl, by omega, HF, HX2⟩, by first | (simp [intOf]; done) | (simp [intOf]; omega)⟩
        · have t1 : (((r % 2 : Nat) : Int) == 1) = false := by rw [beq_eq_false_iff_ne]; omega
          have h2s : s + s = r := by omega
          rw [h2s] at HM
          clear hrs hrk hs2 hodd hr0 h2s HM5
          go_wp2_with fail
          refine HM.out.mono ?_
          rintro _ w1 ⟨⟨v1, rfl, hv1⟩, hx1⟩
          have HX1 := hide (HX.out.trans hx1)
          have HF : Hid (NatAt w1 v1 (5 ^ (k / 2 ^ j))) := by rw [HR.out]; exact hv1
          clear hv1 hx1 HX HN HM HR
          go_wp2
          exact ⟨⟨j, rfl, by omega, HF, HX1⟩, by first | (simp [intOf]; done) | (simp [intOf]; omega)⟩
theorem pow10_any (k : Nat) (hk : k ≤ 2000) (w : World) :
    Calls Oacg.prog 124 #[.int .i64 (k : Int)] w fun r w' => (∃ v, r = .returned v ∧ NatAt w' v (5 ^ k * 2 ^ k)) ∧ Ext w w' := by
  have HP := hide (pow5_any k hk)
  have hki : (k : Int) ≤ 2000 := by omega
  go_enter Oacg.func124, Oacg.ntmps124
  go_wp2_with fail
  refine (HP.out _).mono ?_
  rintro _ w1 ⟨⟨v1, rfl, hv1⟩, hx1⟩
  have HS := hide (shl_any (5 ^ k) 200 (pow5_lt hk) (by decide) k (by omega) v1 w1 hv1)
  have HX := hide hx1
  clear hv1 hx1 hk
  go_wp2_with fail
  refine HS.out.mono ?_
  rintro _ w2 ⟨⟨v2, rfl, hv2⟩, hx2⟩
  have HV := hide hv2
  have HX2 := hide (HX.out.trans hx2)
  clear hv2 hx2
  go_wp2_with fail
  go_ret
  exact ⟨⟨_, rfl, HV.out⟩, HX2.out⟩
end Go.Proofs.Ygcoac
