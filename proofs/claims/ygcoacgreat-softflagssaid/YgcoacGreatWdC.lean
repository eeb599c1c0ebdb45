/-
  wide.Add, Sub, Mul64, ShrJam.
-/
import Derived.Test.YgcoacGreatWdB
namespace Go.Proofs.YgcoacGreat
open Go.RowKit
set_option linter.unusedSimpArgs false
set_option linter.unusedVariables false

set_option maxRecDepth 20000 in
set_option maxHeartbeats 1000000 in
theorem wAdd_any (a b : Nat) (hs : a + b < 340282366920938463463374607431768211456) (w : World) :
    Calls Oacg.prog 100 #[uV a, uV b] w fun r w' => r = .returned (.tuple #[uV (a + b), .bool false]) ∧ Ext w w' := by
  obtain ⟨H1, hH1⟩ : ∃ H : Int, H = ((a / 18446744073709551616 : Nat) : Int) := ⟨_, rfl⟩
  obtain ⟨L1, hL1⟩ : ∃ H : Int, H = ((a % 18446744073709551616 : Nat) : Int) := ⟨_, rfl⟩
  obtain ⟨H2, hH2⟩ : ∃ H : Int, H = ((b / 18446744073709551616 : Nat) : Int) := ⟨_, rfl⟩
  obtain ⟨L2, hL2⟩ : ∃ H : Int, H = ((b % 18446744073709551616 : Nat) : Int) := ⟨_, rfl⟩
  obtain ⟨RH, hRH⟩ : ∃ H : Int, H = (((a + b) / 18446744073709551616 : Nat) : Int) := ⟨_, rfl⟩
  obtain ⟨RL, hRL⟩ : ∃ H : Int, H = (((a + b) % 18446744073709551616 : Nat) : Int) := ⟨_, rfl⟩
  unfold uV
  rw [← hH1, ← hL1, ← hH2, ← hL2, ← hRH, ← hRL]
  have b1 : 0 ≤ H1 ∧ 0 ≤ L1 ∧ 0 ≤ H2 ∧ 0 ≤ L2 ∧ L1 < 18446744073709551616 ∧ L2 < 18446744073709551616 := by omega
  by_cases q : L1 + L2 < 18446744073709551616
  · have e1 : IntKind.u64.wrap (L1 + L2) = RL := by rw [wu64]; omega
    have e2 : IntKind.u64.wrap (H1 + H2) = RH := by rw [wu64]; omega
    have t1 : decide (RL < L1) = false := by simp; omega
    have t2 : decide (RH < H1) = false := by simp; omega
    clear hs hH1 hL1 hH2 hL2 hRH hRL b1 q
    go_enter Oacg.func100, Oacg.ntmps100
    go_wp2
    simp [bodyPost, results, Oacg.results100, go_sem]
    repeat (first | apply Ext.alloc | exact Ext.refl _)
  · have e1 : IntKind.u64.wrap (L1 + L2) = RL := by rw [wu64]; omega
    have e2 : IntKind.u64.wrap (H1 + H2) = RH - 1 := by rw [wu64]; omega
    have e3 : IntKind.u64.wrap RH = RH := by rw [wu64]; omega
    have t1 : decide (RL < L1) = true := by simp; omega
    have t2 : decide (RH - 1 < H1) = false := by simp; omega
    have t3 : (RH == 0) = false := by rw [beq_eq_false_iff_ne]; omega
    clear hs hH1 hL1 hH2 hL2 hRH hRL b1 q
    go_enter Oacg.func100, Oacg.ntmps100
    go_wp2
    simp [bodyPost, results, Oacg.results100, go_sem]
    repeat (first | apply Ext.alloc | exact Ext.refl _)

set_option maxRecDepth 20000 in
set_option maxHeartbeats 1000000 in
theorem wSub_any (a b : Nat) (ha : a < 340282366920938463463374607431768211456) (hb : b ≤ a) (w : World) :
    Calls Oacg.prog 101 #[uV a, uV b] w fun r w' => r = .returned (.tuple #[uV (a - b), .bool false]) ∧ Ext w w' := by
  have HC := hide (wCmp_any a b)
  have hcm : decide (cmpI a b < 0) = false := by
    unfold cmpI
    rw [if_neg (by omega)]
    split <;> rfl
  generalize cmpI a b = cm at *
  obtain ⟨H1, hH1⟩ : ∃ H : Int, H = ((a / 18446744073709551616 : Nat) : Int) := ⟨_, rfl⟩
  obtain ⟨L1, hL1⟩ : ∃ H : Int, H = ((a % 18446744073709551616 : Nat) : Int) := ⟨_, rfl⟩
  obtain ⟨H2, hH2⟩ : ∃ H : Int, H = ((b / 18446744073709551616 : Nat) : Int) := ⟨_, rfl⟩
  obtain ⟨L2, hL2⟩ : ∃ H : Int, H = ((b % 18446744073709551616 : Nat) : Int) := ⟨_, rfl⟩
  obtain ⟨RH, hRH⟩ : ∃ H : Int, H = (((a - b) / 18446744073709551616 : Nat) : Int) := ⟨_, rfl⟩
  obtain ⟨RL, hRL⟩ : ∃ H : Int, H = (((a - b) % 18446744073709551616 : Nat) : Int) := ⟨_, rfl⟩
  unfold uV at *
  rw [← hH1, ← hL1, ← hH2, ← hL2] at HC
  rw [← hH1, ← hL1, ← hH2, ← hL2, ← hRH, ← hRL]
  have e1 : IntKind.u64.wrap (L1 - L2) = RL := by rw [wu64]; omega
  have HL : Box (L1 < L2 → IntKind.u64.wrap (IntKind.u64.wrap (H1 - H2) - 1) = RH) := ⟨fun q => by rw [wu64, wu64]; omega⟩
  have HG : Box (¬ L1 < L2 → IntKind.u64.wrap (H1 - H2) = RH) := ⟨fun q => by rw [wu64]; omega⟩
  clear ha hb hH1 hL1 hH2 hL2 hRH hRL
  obtain ⟨W0, hW0⟩ : ∃ W0, W0 = ((w.alloc (.cells #[.int .u64 H1, .int .u64 L1] 52)).alloc (.cells #[.int .u64 H2, .int .u64 L2] 52)).alloc (.cells #[.int .u64 0, .int .u64 0] 52) := ⟨_, rfl⟩
  have HX0 : Hid (Ext w W0) := by rw [hW0]; exact ext3
  have HC0 : Hid (W0.cell? ⟨w.heap.size, 0, none⟩ = some (.int .u64 H1) ∧ W0.cell? ⟨w.heap.size, 1, none⟩ = some (.int .u64 L1) ∧ W0.cell? ⟨w.heap.size + 1, 0, none⟩ = some (.int .u64 H2) ∧ W0.cell? ⟨w.heap.size + 1, 1, none⟩ = some (.int .u64 L2)) := by
    rw [hW0]; refine ⟨?_, ?_, ?_, ?_⟩ <;> simp [go_sem]
  have g0 : W0.cell? ⟨w.heap.size + 1 + 1, 0, none⟩ = some (.int .u64 0) := by rw [hW0]; simp [go_sem]
  have g1 : W0.cell? ⟨w.heap.size + 1 + 1, 1, none⟩ = some (.int .u64 0) := by rw [hW0]; simp [go_sem]
  have gf : ∀ i, W0.frozen? ⟨w.heap.size + 1 + 1, i, none⟩ = false := fun i => by rw [hW0]; simp [go_sem]
  have hne1 : w.heap.size + 1 + 1 ≠ w.heap.size := by omega
  have hne2 : w.heap.size + 1 + 1 ≠ w.heap.size + 1 := by omega
  have hle : w.heap.size ≤ w.heap.size + 1 + 1 := by omega
  have HH : Hid (∀ w', Ext W0 w' → w'.cell? ⟨w.heap.size, 0, none⟩ = some (.int .u64 H1) ∧ w'.cell? ⟨w.heap.size, 1, none⟩ = some (.int .u64 L1) ∧ w'.cell? ⟨w.heap.size + 1, 0, none⟩ = some (.int .u64 H2) ∧ w'.cell? ⟨w.heap.size + 1, 1, none⟩ = some (.int .u64 L2)) := fun w' hx => ⟨hx.cell HC0.out.1, hx.cell HC0.out.2.1, hx.cell HC0.out.2.2.1, hx.cell HC0.out.2.2.2⟩
  have HS : Hid (∀ w' u0 u1, Ext W0 w' → (fun w' => w'.cell? ⟨w.heap.size, 0, none⟩ = some (.int .u64 H1) ∧ w'.cell? ⟨w.heap.size, 1, none⟩ = some (.int .u64 L1) ∧ w'.cell? ⟨w.heap.size + 1, 0, none⟩ = some (.int .u64 H2) ∧ w'.cell? ⟨w.heap.size + 1, 1, none⟩ = some (.int .u64 L2)) ((w'.setCell ⟨w.heap.size + 1 + 1, 0, none⟩ u0).setCell ⟨w.heap.size + 1 + 1, 1, none⟩ u1)) := fun w' u0 u1 hx =>
    ⟨cell_set_other hne1 (cell_set_other hne1 (hx.cell HC0.out.1)), cell_set_other hne1 (cell_set_other hne1 (hx.cell HC0.out.2.1)), cell_set_other hne2 (cell_set_other hne2 (hx.cell HC0.out.2.2.1)), cell_set_other hne2 (cell_set_other hne2 (hx.cell HC0.out.2.2.2))⟩
  by_cases q : L1 < L2
  · have e2 := HL.out q
    clear HL HG HC0
    go_enter Oacg.func101, Oacg.ntmps101
    go_wp2_with fail
    rw [← hW0]
    clear hW0
    go_region_held3 (fun w' => w'.cell? ⟨w.heap.size, 0, none⟩ = some (.int .u64 H1) ∧ w'.cell? ⟨w.heap.size, 1, none⟩ = some (.int .u64 L1) ∧ w'.cell? ⟨w.heap.size + 1, 0, none⟩ = some (.int .u64 H2) ∧ w'.cell? ⟨w.heap.size + 1, 1, none⟩ = some (.int .u64 L2))
      (first | exact HH.out _ (Ext.refl _) | exact HH.out _ (by (repeat apply Ext.drew); first | exact Ext.refl _ | assumption) | exact HS.out _ _ _ (by (repeat apply Ext.drew); assumption))
      (first
        | (go_at_call 69; refine (HC.out _).mono ?_; rintro r w1 ⟨rfl, hx1⟩; have hE : Ext W0 w1 := Ext.trans (by (repeat apply Ext.drew); first | exact Ext.refl _ | assumption) hx1; replace g0 := hE.cell g0; replace g1 := hE.cell g1; replace gf : ∀ i, w1.frozen? ⟨w.heap.size + 1 + 1, i, none⟩ = false := (fun i => by rw [hE.froz]; exact gf i); clear hx1))
    all_goals go_wp2_with fail
    all_goals simp [bodyPost, results, Oacg.results101, go_sem, g0, g1]
    all_goals exact ((HX0.out.trans hE).setCell hle _).setCell hle _
  · have e2 := HG.out q
    clear HL HG HC0
    go_enter Oacg.func101, Oacg.ntmps101
    go_wp2_with fail
    rw [← hW0]
    clear hW0
    go_region_held3 (fun w' => w'.cell? ⟨w.heap.size, 0, none⟩ = some (.int .u64 H1) ∧ w'.cell? ⟨w.heap.size, 1, none⟩ = some (.int .u64 L1) ∧ w'.cell? ⟨w.heap.size + 1, 0, none⟩ = some (.int .u64 H2) ∧ w'.cell? ⟨w.heap.size + 1, 1, none⟩ = some (.int .u64 L2))
      (first | exact HH.out _ (Ext.refl _) | exact HH.out _ (by (repeat apply Ext.drew); first | exact Ext.refl _ | assumption) | exact HS.out _ _ _ (by (repeat apply Ext.drew); assumption))
      (first
        | (go_at_call 69; refine (HC.out _).mono ?_; rintro r w1 ⟨rfl, hx1⟩; have hE : Ext W0 w1 := Ext.trans (by (repeat apply Ext.drew); first | exact Ext.refl _ | assumption) hx1; replace g0 := hE.cell g0; replace g1 := hE.cell g1; replace gf : ∀ i, w1.frozen? ⟨w.heap.size + 1 + 1, i, none⟩ = false := (fun i => by rw [hE.froz]; exact gf i); clear hx1))
    all_goals go_wp2_with fail
    all_goals simp [bodyPost, results, Oacg.results101, go_sem, g0, g1]
    all_goals exact ((HX0.out.trans hE).setCell hle _).setCell hle _
end Go.Proofs.YgcoacGreat
