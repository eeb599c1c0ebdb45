/-
  exact.raised, pack.
-/
import Derived.Test.YgcoacGreatExA
import Derived.Test.YgcoacGreatRules
import Derived.Deep.QuietTactic
import Derived.BigQuiet
namespace Go.Proofs.YgcoacGreat
open Go.RowKit
set_option linter.unusedSimpArgs false
set_option linter.unusedVariables false
attribute [local go_sem] nil_eq nil_ne

def raisedN (mode : Int) (neg : Bool) (n d : Nat) : Nat := if raisesQ mode neg (decide (n / d % 2 = 1)) (halfQ n d) (someQ n d) then n / d + 1 else n / d

set_option maxHeartbeats 2000000 in
theorem raised_any (mode : Int) (neg : Bool) (n d kn : Nat) (hn : n < W kn) (hkn : kn ≤ 1073741000) (hd : 0 < d) (va vb : Value) (w : World) (ha : NatAt w va n) (hb : NatAt w vb d) :
    Calls Oacg.prog 50 #[.int .u8 mode, .bool neg, va, vb] w fun e w' => (∃ v, e = .returned v ∧ FloorR (raisedN mode neg n d) (halfQ n d) (someQ n d) v w') ∧ Ext w w' := by
  have hE1 : Ext w (w.alloc (.cells #[.int .i8 0, .bool false] 68)) := (Ext.refl w).alloc _ _
  have HF := hide (floor_any n d kn hn hkn hd va vb _ (ha.ext hE1) (hb.ext hE1))
  have hq : n / d < W kn := Nat.lt_of_le_of_lt (Nat.div_le_self _ _) hn
  unfold raisedN
  generalize halfQ n d = half at *
  generalize someQ n d = sm at *
  generalize n / d = q at *
  obtain ⟨R, hR⟩ : ∃ R, (if raisesQ mode neg (decide (q % 2 = 1)) half sm = true then q + 1 else q) = R := ⟨_, rfl⟩
  rw [hR]
  have HRR := hide hR
  clear ha hb hE1 hn hd hR
  go_enter Oacg.func50, Oacg.ntmps50
  go_wp2_with fail
  refine HF.out.mono ?_
  rintro _ w1 ⟨⟨v, rfl, vq, rfl, hvq⟩, hx1⟩
  have HX1 := hide hx1
  have HQ := hide hvq
  have HBIT := hide (fun wx (h : Ext w1 wx) => bit0_any q vq wx (hvq.ext h))
  obtain ⟨q1, q2, q3⟩ := HX1.out.rule
  have hz : w.heap.size < w1.heap.size := by have := q3; simp at this; omega
  have d0 : w1.cell? ⟨w.heap.size, 0, none⟩ = some (.int .i8 0) := by rw [q1 _ _ (by simp)]; simp [go_sem]
  have d1 : w1.cell? ⟨w.heap.size, 1, none⟩ = some (.bool false) := by rw [q1 _ _ (by simp)]; simp [go_sem]
  have f0 : ∀ o, w1.frozen? ⟨w.heap.size, o, none⟩ = false := fun o => by rw [q2]; simp [go_sem]
  clear q1 q2 q3 hvq hx1 HF
  go_wp2_with fail
  go_region_held3 (fun w' => w'.cell? ⟨w1.heap.size, 0, none⟩ = some (.int .i8 half) ∧ w'.cell? ⟨w1.heap.size, 1, none⟩ = some (.bool sm))
    ((simp [go_sem]; done))
    (first
      | (go_at_call 79; refine (HBIT.out _ (by (repeat (first | apply Ext.drew | apply Ext.alloc)); exact Ext.refl _)).mono ?_; rintro r w' ⟨rfl, rfl⟩)
      | (go_at_call 78; refine (raises_any _ _ _ _ _ _).mono ?_; rintro r w' ⟨rfl, rfl⟩))
  have HW : Hid (∀ W, Ext w1 W → Ext w W) := fun W h => (((Ext.refl w).alloc _ _).trans HX1.out).trans h
  obtain ⟨W2, hW2⟩ : ∃ W2, W2 = ((w1.alloc (.cells #[.int .i8 half, .bool sm] 68)).alloc (.cells #[.int .i8 half, .bool sm] 68)).drew := ⟨_, rfl⟩
  have HE2 : Hid (Ext w1 W2) := by rw [hW2]; exact (((Ext.refl w1).alloc _ _).alloc _ _).drew
  have g0 : W2.cell? ⟨w1.heap.size, 0, none⟩ = some (.int .i8 half) := by rw [hW2]; simp [go_sem]
  have g1 : W2.cell? ⟨w1.heap.size, 1, none⟩ = some (.bool sm) := by rw [hW2]; simp [go_sem]
  have s2 : w1.heap.size < W2.heap.size := by rw [hW2]; simp [go_sem]
  rw [← hW2]
  clear hW2
  have HD : Hid (∀ W, Ext W2 W → W.cell? ⟨w.heap.size, 0, none⟩ = some (.int .i8 0) ∧ W.cell? ⟨w.heap.size, 1, none⟩ = some (.bool false) ∧ (∀ o, W.frozen? ⟨w.heap.size, o, none⟩ = false) ∧ W.cell? ⟨w1.heap.size, 0, none⟩ = some (.int .i8 half) ∧ W.cell? ⟨w1.heap.size, 1, none⟩ = some (.bool sm)) := fun W h =>
    ⟨(HE2.out.trans h).cell d0, (HE2.out.trans h).cell d1, fun o => by rw [(HE2.out.trans h).froz]; exact f0 o, h.cell g0, h.cell g1⟩
  clear d0 d1 f0 g0 g1 HBIT
  have hne : ¬ w1.heap.size = w.heap.size := by omega
  cases hrz : raisesQ mode neg (decide (q % 2 = 1)) half sm with
  | true =>
    have hR := HRR.out
    rw [hrz, if_pos rfl] at hR
    subst hR
    have HS := hide (succ_any q kn hq (by omega) vq W2 (HQ.out.ext HE2.out))
    go_wp2_with fail
    refine HS.out.mono ?_
    rintro _ W3 ⟨⟨v3, rfl, hv3⟩, hx3⟩
    obtain ⟨d0, d1, f0, g0, g1⟩ := HD.out W3 hx3
    have HV3 := hide hv3
    have HX3 := hide (HW.out _ (HE2.out.trans hx3))
    have HK := hide (keeps2 (w := W3) (b := w.heap.size) d0 d1 rfl rfl)
    clear hv3 hx3 HD HS
    go_wp2_with fail
    go_region
    go_wp2_with fail
    simp [bodyPost, results, Oacg.results50, go_sem, d0, d1]
    exact ⟨⟨_, rfl, (HK.out _ _ _ _ HV3.out).ext (Ext.refl _).drew⟩, ((HX3.out.setCell (Nat.le_refl _) _).setCell (Nat.le_refl _) _).drew⟩
  | false =>
    have hR := HRR.out
    rw [hrz, if_neg (by decide)] at hR
    subst hR
    obtain ⟨d0, d1, f0, g0, g1⟩ := HD.out W2 (Ext.refl _)
    have HV3 := hide (HQ.out.ext HE2.out)
    have HX3 := hide (HW.out _ HE2.out)
    have HK := hide (keeps2 (w := W2) (b := w.heap.size) d0 d1 rfl rfl)
    clear HD
    go_wp2_with fail
    go_region
    go_wp2_with fail
    simp [bodyPost, results, Oacg.results50, go_sem, d0, d1]
    exact ⟨⟨_, rfl, (HK.out _ _ _ _ HV3.out).ext (Ext.refl _).drew⟩, ((HX3.out.setCell (Nat.le_refl _) _).setCell (Nat.le_refl _) _).drew⟩

/-! ### pack -/
/-- The pattern of n * 2^(ex - M), and its flags. -/
def packX (e m : Nat) (ex : Int) (n : Nat) : Nat := (ex - eminI e).toNat * 2 ^ m + n
def packV (e m : Nat) (mode : Int) (neg : Bool) (ex : Int) (n : Nat) : Nat := if infP e m ≤ packX e m ex n then overV e m mode neg else packX e m ex n + sg e m neg
def packF (e m : Nat) (ex : Int) (n : Nat) (sm tiny : Bool) : Int := if infP e m ≤ packX e m ex n then 20 else if !sm then 0 else if tiny then 24 else 16
theorem packX_bd {e m : Nat} (h : Fm e m) {ex : Int} (h1 : eminI e ≤ ex) (h2 : ex ≤ bias e) {n : Nat} (hn : n ≤ 2 ^ (m + 1)) : packX e m ex n < 18446744073709551616 := by
  have hb := bias_bd h
  obtain ⟨_, _, _, _⟩ := h
  have hk : (ex - eminI e).toNat ≤ 4096 := by unfold eminI at *; omega
  have hm : 2 ^ m ≤ 2 ^ 52 := pow_le_of (by omega)
  have h3 : (ex - eminI e).toNat * 2 ^ m ≤ 4096 * 2 ^ 52 := Nat.mul_le_mul hk hm
  have h4 : 2 ^ (m + 1) ≤ 2 ^ 53 := pow_le_of (by omega)
  unfold packX
  have e1 : (4096 : Nat) * 2 ^ 52 = 18446744073709551616 := by decide
  have hk2 : (ex - eminI e).toNat ≤ 2045 := by unfold eminI at *; omega
  have h5 : (ex - eminI e).toNat * 2 ^ m ≤ 2045 * 2 ^ 52 := Nat.mul_le_mul hk2 hm
  have e2 : (2045 : Nat) * 2 ^ 52 = 9209861237972664320 := by decide
  have e3 : (2 : Nat) ^ 53 = 9007199254740992 := by decide
  omega
set_option maxHeartbeats 2000000 in
theorem pack_any (e m : Nat) (h : Fm e m) (mode : Int) (neg : Bool) (ex : Int) (h1 : eminI e ≤ ex) (h2 : ex ≤ bias e) (n : Nat) (hn : n ≤ 2 ^ (m + 1)) (half : Int) (sm tiny : Bool) (w : World) :
    Calls Oacg.prog 43 #[.agg #[.int .u8 (e : Int), .int .u8 (m : Int)], .int .u8 mode, .bool neg, .int .i64 ex, .int .u64 (n : Int), .agg #[.int .i8 half, .bool sm], .bool tiny] w fun r w' =>
      r = .returned (.tuple #[.int .u64 (packV e m mode neg ex n : Int), .int .u8 (packF e m ex n sm tiny)]) ∧ Ext w w' := by
  have HEM := hide (emin_any e m h)
  have HIN := hide (inf_pos e m h)
  have HOV := hide (overflow_any e m h mode neg)
  have HZ := hide (zero_any e m h neg)
  have hpx := packX_bd h h1 h2 hn
  obtain ⟨K, hK⟩ : ∃ K : Nat, (ex - eminI e).toNat = K := ⟨_, rfl⟩
  have hKi : ex - eminI e = (K : Int) := by omega
  have hX : packX e m ex n = K * 2 ^ m + n := by unfold packX; rw [hK]
  have hKb : K ≤ 4096 := by have := bias_bd h; unfold eminI at hKi; omega
  have hms : IntKind.u64.wrap ((K : Int) * 2 ^ m) = ((K * 2 ^ m : Nat) : Int) := by
    have e0 : (K : Int) * 2 ^ m = ((K * 2 ^ m : Nat) : Int) := by rw [Int.natCast_mul, Int.natCast_pow]; rfl
    rw [hX] at hpx
    rw [wu64, e0]
    generalize K * 2 ^ m = q at *
    omega
  have hV : ∀ b, decide (infP e m ≤ packX e m ex n) = b → (packV e m mode neg ex n : Int) = (if b then (overV e m mode neg : Int) else ((packX e m ex n + sg e m neg : Nat) : Int)) ∧ packF e m ex n sm tiny = if b then 20 else if !sm then 0 else if tiny then 24 else 16 := by
    intro b hb
    unfold packV packF
    cases b with
    | true => have hb' : infP e m ≤ packX e m ex n := by simpa using hb
              simp [hb']
    | false => have hb' : ¬ infP e m ≤ packX e m ex n := by simpa using hb
               simp [hb']
  have HV := hide hV
  have hor : ¬ infP e m ≤ packX e m ex n → Go.bits BinOp.or IntKind.u64 (packX e m ex n : Int) (sg e m neg : Int) = ((packX e m ex n + sg e m neg : Nat) : Int) := by
    intro hb
    cases neg with
    | false => unfold sg; simp only [Bool.false_eq_true, if_false]; have := u64_or_nat (packX e m ex n) 0 hpx (by decide); rw [Nat.or_zero] at this; rw [Nat.add_zero]; exact this
    | true =>
      have := infP_bd h
      unfold sg; simp only [if_true]
      exact or_sgn h (by omega)
  have HOR := hide hor
  have hpy : ((K * 2 ^ m : Nat) : Int) + (n : Int) = (packX e m ex n : Int) := by rw [hX]; omega
  have hpz : (packX e m ex n : Int) < 18446744073709551616 := by omega
  have hw4 : IntKind.u64.wrap (IntKind.u64.wrap (IntKind.u64.wrap (IntKind.i64.wrap (K : Int)) * 2 ^ m) + (n : Int)) = (packX e m ex n : Int) := by
    have a1 : IntKind.i64.wrap (K : Int) = (K : Int) := by simp [IntKind.wrap, IntKind.bits, IntKind.signed]; split <;> omega
    have a2 : IntKind.u64.wrap (K : Int) = (K : Int) := by rw [wu64]; omega
    rw [a1, a2, hms, hpy, wu64]; omega
  have hpw : (0 : Int) ≤ (packX e m ex n : Int) := by omega
  have hme : (m : Int) ≤ 52 := by obtain ⟨_, _, _, h52⟩ := h; omega
  have hem : -1100 ≤ eminI e ∧ eminI e ≤ 0 := by have := bias_bd h; unfold eminI; omega
  have hexb : ex ≤ 1023 := by have := bias_bd h; omega
  obtain ⟨X, hXX⟩ : ∃ X : Nat, packX e m ex n = X := ⟨_, rfl⟩
  obtain ⟨I, hII⟩ : ∃ I : Nat, infP e m = I := ⟨_, rfl⟩
  have hdec : ((I : Int) ≤ (X : Int)) ↔ I ≤ X := by omega
  rw [hXX] at HV HOR hpy hpz hpw hw4
  rw [hII] at HV HOR HIN
  generalize (packV e m mode neg ex n : Int) = pV at *
  generalize packF e m ex n sm tiny = pF at *
  generalize (overV e m mode neg : Int) = oV at *
  generalize (X + sg e m neg : Nat) = Y at *
  generalize (sg e m neg : Int) = S at *
  generalize ((K * 2 ^ m : Nat) : Int) = T at *
  obtain ⟨em1, em2⟩ := hem
  generalize eminI e = em at *
  clear hX hpx hV hor hXX hII hK h h2 hn hKb
  go_enter Oacg.func43, Oacg.ntmps43
  go_wp2_with fail
  go_region_held3 (fun w' => w'.cell? ⟨w.heap.size, 0, none⟩ = some (.int .u8 (e : Int)) ∧ w'.cell? ⟨w.heap.size, 1, none⟩ = some (.int .u8 (m : Int)))
    ((simp [go_sem]; done))
    (first
      | (go_at_call 39; refine (HEM.out _).mono ?_; rintro r w' ⟨rfl, c1, c2, c3, rfl⟩))
  clear hms hpy
  by_cases hb : I ≤ X
  · obtain ⟨v1, v2⟩ := HV.out true (by simpa using hb)
    have hbi : (I : Int) ≤ (X : Int) := by omega
    simp only [if_true] at v1 v2
    subst v1 v2
    clear HV HOR hdec
    go_wp2_with (first | (go_at_call 31; refine (HIN.out _).mono ?_; rintro r w' ⟨rfl, c4, c5, c6, rfl⟩) | (go_at_call 82; refine (HOV.out _).mono ?_; rintro _ w9 ⟨rfl, hx9⟩))
    simp [bodyPost, results, Oacg.results43, go_sem]
    exact Ext.trans (by repeat (first | apply Ext.drew | apply Ext.alloc | exact Ext.refl _)) hx9
  · obtain ⟨v1, v2⟩ := HV.out false (by simpa using hb)
    have hbi : ¬ (I : Int) ≤ (X : Int) := by omega
    have hor := HOR.out hb
    simp only [Bool.false_eq_true, if_false] at v1 v2
    subst v1
    clear HV HOR hdec
    cases sm with
    | false =>
      simp only [Bool.not_false, if_true] at v2
      subst v2
      go_wp2_with (first | (go_at_call 31; refine (HIN.out _).mono ?_; rintro r w' ⟨rfl, c4, c5, c6, rfl⟩) | (go_at_call 60; refine (HZ.out _).mono ?_; rintro _ w9 ⟨rfl, hx9⟩))
      simp [bodyPost, results, Oacg.results43, go_sem]
      exact Ext.trans (by repeat (first | apply Ext.drew | apply Ext.alloc | exact Ext.refl _)) hx9
    | true =>
      simp only [Bool.not_true, Bool.false_eq_true, if_false] at v2
      cases tiny with
      | false =>
        simp only [Bool.false_eq_true, if_false] at v2
        subst v2
        go_wp2_with (first | (go_at_call 31; refine (HIN.out _).mono ?_; rintro r w' ⟨rfl, c4, c5, c6, rfl⟩) | (go_at_call 60; refine (HZ.out _).mono ?_; rintro _ w9 ⟨rfl, hx9⟩))
        simp [bodyPost, results, Oacg.results43, go_sem]
        exact Ext.trans (by repeat (first | apply Ext.drew | apply Ext.alloc | exact Ext.refl _)) hx9
      | true =>
        simp only [if_true] at v2
        subst v2
        go_wp2_with (first | (go_at_call 31; refine (HIN.out _).mono ?_; rintro r w' ⟨rfl, c4, c5, c6, rfl⟩) | (go_at_call 60; refine (HZ.out _).mono ?_; rintro _ w9 ⟨rfl, hx9⟩))
        simp [bodyPost, results, Oacg.results43, go_sem]
        exact Ext.trans (by repeat (first | apply Ext.drew | apply Ext.alloc | exact Ext.refl _)) hx9
end Go.Proofs.YgcoacGreat
