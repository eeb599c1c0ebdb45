/-
  soft.ConvertFlags.
-/
import Derived.Test.YgcoacGreatSfF
import Derived.Deep.QuietTactic
import Derived.BigQuiet
namespace Go.Proofs.YgcoacGreat
open Go.RowKit
set_option linter.unusedSimpArgs false
set_option linter.unusedVariables false

set_option maxRecDepth 20000 in
set_option maxHeartbeats 2000000 in
theorem sconvertFlags_any (e1 m1 : Nat) (h1 : Fm e1 m1) (e2 m2 : Nat) (h2 : Fm e2 m2) (mode : Int) (a : Nat) (ha : a < 18446744073709551616) (w : World) :
    Calls Oacg.prog 9 #[.agg #[.int .u8 (e1 : Int), .int .u8 (m1 : Int)], .agg #[.int .u8 (e2 : Int), .int .u8 (m2 : Int)], .int .u8 mode, .int .u64 (a : Int)] w fun r w' =>
      r = .returned (.tuple #[.int .u64 (cvV e1 m1 e2 m2 mode a : Int), .int .u8 (cvF e1 m1 e2 m2 mode a)]) ∧ Ext w w' := by
  have hok1 := okB_fm h1
  have hok2 := okB_fm h2
  have HU := hide (unpack_any e1 m1 h1 a ha)
  have HNA := hide (theNaN_any e2 m2 h2)
  have HHE := hide (sheard_any e1 m1 h1 a a ha ha)
  have HIN := hide (inf_any e2 m2 h2 (pNeg e1 m1 a))
  have hpe := pExp_bd h1 a
  have HRF := hide (roundPack_any e2 m2 h2 mode (pNeg e1 m1 a) (pExp e1 m1 a) (by omega) (by omega) (pMan e1 m1 a) (pMan_u64 h1 a))
  rw [← vNum_sh, ← vDen_sh] at HRF
  have HVN : Box (¬ 3 ≤ cls e1 m1 a → vNeg e1 m1 a = pNeg e1 m1 a) := ⟨fun hh => vNeg_pNeg hh⟩
  have HNG : Box (¬ cls e1 m1 a = 4 → pNeg e1 m1 a = ngB e1 m1 a) := ⟨fun hh => ngB_pNeg hh⟩
  have HV : Hid (∀ c, cls e1 m1 a = c → cvV e1 m1 e2 m2 mode a = (if c = 4 then nanV e2 m2 else if c = 3 then infV e2 m2 (pNeg e1 m1 a) else rndV e2 m2 mode (pNeg e1 m1 a) (vNum e1 m1 a) (vDen e1 m1 a)) ∧
      cvF e1 m1 e2 m2 mode a = (if c = 4 then heardF e1 m1 a a else if c = 3 then 0 else rndF e2 m2 mode (pNeg e1 m1 a) (vNum e1 m1 a) (vDen e1 m1 a))) := by
    intro c hc
    have hcc := cls_cases e1 m1 a
    unfold cvV cvF
    rw [hc] at hcc ⊢
    by_cases c4 : c = 4
    · simp only [if_pos c4]; exact ⟨trivial, trivial⟩
    · by_cases c3 : c = 3
      · simp only [if_neg c4, if_pos c3]
        rw [HNG.out (by omega)]
        exact ⟨rfl, trivial⟩
      · simp only [if_neg c4, if_neg c3]
        rw [HVN.out (by omega)]
        exact ⟨rfl, rfl⟩
  obtain ⟨cl, hcl⟩ : ∃ cl, cls e1 m1 a = cl := ⟨_, rfl⟩
  obtain ⟨v1, v2⟩ := HV.out cl hcl
  rw [v1, v2]
  unfold parts at HU
  rw [hcl] at HU
  have hclb : cl = 0 ∨ cl = 1 ∨ cl = 2 ∨ cl = 3 ∨ cl = 4 := by have := cls_cases e1 m1 a; rw [hcl] at this; exact this
  clear HV v1 v2 hcl ha h1 h2 HVN HNG hpe
  generalize nanV e2 m2 = nV at *
  generalize infV e2 m2 (pNeg e1 m1 a) = iV at *
  generalize heardF e1 m1 a a = hF at *
  generalize rndV e2 m2 mode (pNeg e1 m1 a) (vNum e1 m1 a) (vDen e1 m1 a) = rV at *
  generalize rndF e2 m2 mode (pNeg e1 m1 a) (vNum e1 m1 a) (vDen e1 m1 a) = rF at *
  generalize pNeg e1 m1 a = ng at *
  generalize pExp e1 m1 a = px at *
  generalize pMan e1 m1 a = pm at *
  obtain ⟨oV, hoV⟩ : ∃ oV : Nat, (if cl = 4 then nV else if cl = 3 then iV else rV) = oV := ⟨_, rfl⟩
  obtain ⟨oF, hoF⟩ : ∃ oF : Int, (if cl = 4 then hF else if cl = 3 then 0 else rF) = oF := ⟨_, rfl⟩
  rw [hoV, hoF]
  have HOV := hide hoV
  have HOF := hide hoF
  clear hoV hoF
  go_enter Oacg.func9, Oacg.ntmps9
  go_wp2_with (first | (go_at_call 4; refine (ok_any _ _ _).mono ?_; rintro r w' ⟨rfl, rfl⟩))
  refine (HU.out _).mono ?_
  rintro _ w1 ⟨rfl, hx1⟩
  have hC1 : Cells22 w1 w.heap.size e1 m1 e2 m2 := by
    refine Cells22.ext ?_ hx1
    refine ⟨?_, ?_, ?_, ?_⟩ <;> simp [go_sem]
  have hX1 : Ext w w1 := Ext.trans (by repeat (first | apply Ext.alloc | exact Ext.refl _)) hx1
  obtain ⟨W1, hW1⟩ : ∃ W1, W1 = w1.alloc (.cells #[.bool ng, .int .i8 (cl : Int), .int .i16 px, .int .u64 (pm : Int)] 44) := ⟨_, rfl⟩
  have hxa : Ext w1 W1 := by rw [hW1]; exact (Ext.refl w1).alloc _ _
  have HX := hide (hX1.trans hxa)
  have HC := hide (hC1.ext hxa)
  have g0 : W1.cell? ⟨w1.heap.size, 0, none⟩ = some (.bool ng) := by rw [hW1]; simp [go_sem]
  have g1 : W1.cell? ⟨w1.heap.size, 1, none⟩ = some (.int .i8 (cl : Int)) := by rw [hW1]; simp [go_sem]
  have g2 : W1.cell? ⟨w1.heap.size, 2, none⟩ = some (.int .i16 px) := by rw [hW1]; simp [go_sem]
  have g3 : W1.cell? ⟨w1.heap.size, 3, none⟩ = some (.int .u64 (pm : Int)) := by rw [hW1]; simp [go_sem]
  obtain ⟨a0, a1, b0, b1⟩ := hC1
  have hz1 : w.heap.size + 1 < w1.heap.size := World.block_lt_of_cell? _ _ b0
  have hz0 : w.heap.size < w1.heap.size := by omega
  clear hX1 hx1 hxa HU
  have hoV := HOV.out
  have hoF := HOF.out
  clear HOV HOF
  by_cases c4 : cl = 4
  · have t4 : ((cl : Int) == 4) = true := by rw [c4]; rfl
    rw [if_pos c4] at hoV hoF
    subst hoV hoF
    clear c4 hclb g0 g1 g2 g3 HIN HRF
    go_wp2_with fail
    rw [← hW1]
    clear hW1
    go_region_held3 (fun w' => Cells22 w' w.heap.size e1 m1 e2 m2)
      (first | exact HC.out | exact HC.out.ext (by (repeat apply Ext.drew); first | exact Ext.refl _ | assumption))
      (first
        | (go_at_call 29; refine (HNA.out _).mono ?_; rintro r w2 ⟨rfl, hx2⟩; have hE : Ext W1 w2 := Ext.trans (by (repeat apply Ext.drew); first | exact Ext.refl _ | assumption) hx2; clear hx2)
        | (go_at_call 30; refine (HHE.out _).mono ?_; rintro r w3 ⟨rfl, hx3⟩; have hE : Ext W1 w3 := Ext.trans (by (repeat apply Ext.drew); first | exact Ext.refl _ | assumption) hx3; clear hx3))
    all_goals go_wp2_with fail
    all_goals simp [bodyPost, results, Oacg.results9, go_sem]
    all_goals exact HX.out.trans (by (repeat apply Ext.drew); assumption)
  · have t4 : ((cl : Int) == 4) = false := by rw [beq_eq_false_iff_ne]; omega
    rw [if_neg c4] at hoV hoF
    by_cases c3 : cl = 3
    · have t3 : ((cl : Int) == 3) = true := by rw [c3]; rfl
      rw [if_pos c3] at hoV hoF
      subst hoV hoF
      clear c4 c3 hclb HNA HHE HRF g1 g2 g3
      go_wp2_with fail
      rw [← hW1]
      refine (HIN.out _).mono ?_
      rintro _ w2 ⟨rfl, hx2⟩
      have HX2 := hide (HX.out.trans hx2)
      clear hx2 HX hW1
      go_wp2_with fail
      simp [bodyPost, results, Oacg.results9, go_sem]
      exact HX2.out
    · have t3 : ((cl : Int) == 3) = false := by rw [beq_eq_false_iff_ne]; omega
      rw [if_neg c3] at hoV hoF
      subst hoV hoF
      clear c4 c3 hclb HNA HHE HIN g1
      go_wp2_with fail
      rw [← hW1]
      refine (HRF.out _).mono ?_
      rintro _ w2 ⟨rfl, hx2⟩
      have HX2 := hide (HX.out.trans hx2)
      clear hx2 HX hW1
      go_wp2_with fail
      simp [bodyPost, results, Oacg.results9, go_sem]
      exact HX2.out
end Go.Proofs.YgcoacGreat
