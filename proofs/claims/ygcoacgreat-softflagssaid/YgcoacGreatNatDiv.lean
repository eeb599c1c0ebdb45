/-
  nat.DivMod.
-/
import Derived.Test.YgcoacGreatNatLong
namespace Go.Proofs.YgcoacGreat
open Go.RowKit
set_option linter.unusedSimpArgs false
set_option linter.unusedVariables false
attribute [local go_sem] nil_eq nil_ne

def DivR (q r : Nat) (v : Value) (w' : World) : Prop := ∃ a b, v = .tuple #[a, b, .bool true] ∧ NatAt w' a q ∧ NatAt w' b r

set_option maxRecDepth 20000 in
set_option maxHeartbeats 2000000 in
theorem divMod_any (A Bv ka : Nat) (hA : A < W ka) (hka : ka ≤ 1073741000) (hB : 0 < Bv) (va vb : Value) (w : World) (ha : NatAt w va A) (hb : NatAt w vb Bv) :
    Calls Oacg.prog 74 #[va, vb] w fun e w' => (∃ v, e = .returned v ∧ DivR (A / Bv) (A % Bv) v w') ∧ Ext w w' := by
  have HA := hide ha
  have HB := hide hb
  obtain ⟨lb, bb, ob, cb, rfl, hcb, hcbm, hlb, hnb, rfl, hclb⟩ := hb.list hB
  have HTA := hide (trim_nat _ _ _ HA.out)
  have HTB := hide (trim_nat _ _ _ HB.out)
  have HC := hide (cmp_any A (val lb) va _ w HA.out HB.out)
  obtain ⟨p, ca, la, rfl, hca, hcam, hla, hna, rfl, ha1⟩ := ha.open
  have hlb1 : 1 ≤ lb.length := by
    rcases Nat.eq_zero_or_pos lb.length with h | h
    · rw [List.eq_nil_of_length_eq_zero h] at hB; simp [val] at hB
    · exact h
  clear ha hb ha1
  by_cases hlt : val la < val lb
  · have hcm : cmpI (val la) (val lb) = -1 := by unfold cmpI; simp; omega
    rw [hcm] at HC
    have HTK := fun w' (h : NatAt w' (.slice p la.length ca) (val la)) => take_any (val la) ka hA (by omega) _ w' h
    have HTK' := hide HTK
    have hq : val la / val lb = 0 := Nat.div_eq_of_lt hlt
    have hr : val la % val lb = val la := Nat.mod_eq_of_lt hlt
    rw [hq, hr]
    clear HTK hq hr
    go_enter Oacg.func74, Oacg.ntmps74
    go_wp2_with fail
    refine HTA.out.mono ?_
    rintro _ _ ⟨rfl, hw1⟩
    rw [hw1]
    clear hw1
    go_wp2_with fail
    refine HTB.out.mono ?_
    rintro _ _ ⟨rfl, hw1⟩
    rw [hw1]
    clear hw1
    go_wp2_with fail
    refine HC.out.mono ?_
    rintro _ _ ⟨rfl, n, hw1⟩
    rw [hw1]
    clear hw1
    go_wp2_with fail
    refine (HTK'.out _ (HA.out.ext ((Ext.refl w).drewN n))).mono ?_
    rintro _ w2 ⟨⟨v, rfl, hv⟩, hx⟩
    have HR : Hid (DivR 0 (val la) (.tuple #[.slice none 0 0, v, .bool true]) w2) := ⟨_, _, rfl, natAt_nil _, hv⟩
    have HX := hide (((Ext.refl w).drewN n).trans hx)
    clear hv hx
    go_wp2_with fail
    simp [bodyPost, results, Oacg.results74, go_sem]
    exact ⟨HR.out, HX.out⟩
  · obtain ⟨z, hcm, hz⟩ : ∃ z : Int, cmpI (val la) (val lb) = z ∧ 0 ≤ z := ⟨_, rfl, by unfold cmpI; split <;> (try split) <;> omega⟩
    rw [hcm] at HC
    clear hcm
    by_cases h1 : lb.length = 1
    · obtain ⟨t, gt⟩ := get_some (show 0 < lb.length by omega)
      have ht := hlb.at gt
      have hvt : val lb = t := by
        have := val_take_succ gt
        rw [val_take_all (by omega)] at this
        simpa [val, W] using this
      have ct := hclb 0 t gt
      rw [Nat.add_zero] at ct
      have t1 : ((lb.length : Int) == 1) = true := by rw [h1]; rfl
      rw [hvt] at hB hlt ⊢
      have HDL := hide (fun w' (h : NatAt w' (.slice p la.length ca) (val la)) => divLimb_any (val la) ka t hA (by omega) hB ht _ w' h)
      have hml : val la % t < t := Nat.mod_lt _ hB
      obtain ⟨r0, hr0⟩ : ∃ r0, val la % t = r0 := ⟨_, rfl⟩
      rw [hr0] at HDL hml ⊢
      have HFU := hide (fromU64_any (r0 : Int) (by omega) (by omega))
      rw [Int.toNat_natCast] at HFU
      have hli : (0 : Int) < (lb.length : Int) := by omega
      clear gt hr0 h1 hvt
      go_enter Oacg.func74, Oacg.ntmps74
      go_wp2_with fail
      refine HTA.out.mono ?_
      rintro _ _ ⟨rfl, hw1⟩
      rw [hw1]
      clear hw1
      go_wp2_with fail
      refine HTB.out.mono ?_
      rintro _ _ ⟨rfl, hw1⟩
      rw [hw1]
      clear hw1
      go_wp2_with fail
      refine HC.out.mono ?_
      rintro _ _ ⟨rfl, n, hw1⟩
      rw [hw1]
      clear hw1
      go_wp2_with fail
      refine (HDL.out _ (HA.out.ext ((Ext.refl w).drewN n))).mono ?_
      rintro _ w2 ⟨⟨v, rfl, hv⟩, hx⟩
      have HV := hide hv
      have HX := hide (((Ext.refl w).drewN n).trans hx)
      clear hv hx
      go_wp2_with fail
      refine (HFU.out _).mono ?_
      rintro _ w3 ⟨⟨v3, rfl, hv3⟩, hx3⟩
      have HR : Hid (DivR (val la / t) r0 (.tuple #[v, v3, .bool true]) w3) := ⟨_, _, rfl, HV.out.ext hx3, hv3⟩
      have HX3 := hide (HX.out.trans hx3)
      clear hv3 hx3
      go_wp2_with fail
      simp [bodyPost, results, Oacg.results74, go_sem]
      exact ⟨HR.out, HX3.out⟩
    · have t1 : ((lb.length : Int) == 1) = false := by rw [beq_eq_false_iff_ne]; omega
      have hW1 : W 1 ≤ val lb := Nat.le_trans (W_mono (show 1 ≤ lb.length - 1 by omega)) (val_ge hnb (by intro h; rw [h] at hlb1; simp at hlb1))
      have HDL := hide (fun w' (h : NatAt w' (.slice p la.length ca) (val la)) (h' : NatAt w' (.slice (some ⟨bb, ob, none⟩) lb.length cb) (val lb)) => divLong_any (val la) (val lb) ka hA hka (by omega) hW1 _ _ w' h h')
      clear hclb
      go_enter Oacg.func74, Oacg.ntmps74
      go_wp2_with fail
      refine HTA.out.mono ?_
      rintro _ _ ⟨rfl, hw1⟩
      rw [hw1]
      clear hw1
      go_wp2_with fail
      refine HTB.out.mono ?_
      rintro _ _ ⟨rfl, hw1⟩
      rw [hw1]
      clear hw1
      go_wp2_with fail
      refine HC.out.mono ?_
      rintro _ _ ⟨rfl, n, hw1⟩
      rw [hw1]
      clear hw1
      go_wp2_with fail
      refine (HDL.out _ (HA.out.ext ((Ext.refl w).drewN n)) (HB.out.ext ((Ext.refl w).drewN n))).mono ?_
      rintro _ w2 ⟨⟨v, rfl, a, b, rfl, hv1, hv2⟩, hx⟩
      have HR : Hid (DivR (val la / val lb) (val la % val lb) (.tuple #[a, b, .bool true]) w2) := ⟨_, _, rfl, hv1, hv2⟩
      have HX := hide (((Ext.refl w).drewN n).trans hx)
      clear hv1 hv2 hx
      go_wp2_with fail
      simp [bodyPost, results, Oacg.results74, go_sem]
      exact ⟨HR.out, HX.out⟩
end Go.Proofs.YgcoacGreat
