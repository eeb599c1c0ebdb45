/-
  wide.Mul64, ShrJam.
-/
import Derived.Test.YgcoacGreatWdC
namespace Go.Proofs.YgcoacGreat
open Go.RowKit
set_option linter.unusedSimpArgs false
set_option linter.unusedVariables false

theorem mul_lim {x y : Nat} (hx : x < 4294967296) (hy : y < 4294967296) : x * y ≤ 18446744065119617025 := by
  have := Nat.mul_le_mul (show x ≤ 4294967295 by omega) (show y ≤ 4294967295 by omega)
  omega
theorem and_low32 {x : Nat} (hx : x < 18446744073709551616) : Go.bits BinOp.and IntKind.u64 (x : Int) 4294967295 = ((x % 4294967296 : Nat) : Int) := by
  have := u64_and_nat x 4294967295 hx (by decide)
  rw [show ((4294967295 : Nat) : Int) = (4294967295 : Int) from rfl] at this
  rw [this, show (4294967295 : Nat) = 2 ^ 32 - 1 from rfl, Nat.and_two_pow_sub_one_eq_mod]
set_option maxRecDepth 20000 in
set_option maxHeartbeats 1000000 in
theorem mul64_any (a b : Nat) (ha : a < 18446744073709551616) (hb : b < 18446744073709551616) (w : World) :
    Calls Oacg.prog 57 #[.int .u64 (a : Int), .int .u64 (b : Int)] w fun r w' => r = .returned (uV (a * b)) ∧ Ext w w' := by
  obtain ⟨a1, ha1⟩ : ∃ x, a / 4294967296 = x := ⟨_, rfl⟩
  obtain ⟨a0, ha0⟩ : ∃ x, a % 4294967296 = x := ⟨_, rfl⟩
  obtain ⟨b1, hb1⟩ : ∃ x, b / 4294967296 = x := ⟨_, rfl⟩
  obtain ⟨b0, hb0⟩ : ∃ x, b % 4294967296 = x := ⟨_, rfl⟩
  have l1 : a1 < 4294967296 ∧ a0 < 4294967296 ∧ b1 < 4294967296 ∧ b0 < 4294967296 := by omega
  obtain ⟨la1, la0, lb1, lb0⟩ := l1
  have m11 := mul_lim la1 lb1
  have m10 := mul_lim la1 lb0
  have m01 := mul_lim la0 lb1
  have m00 := mul_lim la0 lb0
  have hab : a * b = a1 * b1 * 18446744073709551616 + (a1 * b0 + a0 * b1) * 4294967296 + a0 * b0 := by
    rw [show a = a1 * 4294967296 + a0 by omega, show b = b1 * 4294967296 + b0 by omega, Nat.add_mul, Nat.mul_add, Nat.mul_add, Nat.add_mul]
    rw [show a1 * 4294967296 * (b1 * 4294967296) = a1 * b1 * (4294967296 * 4294967296) by ac_rfl, show a1 * 4294967296 * b0 = a1 * b0 * 4294967296 by ac_rfl, show a0 * (b1 * 4294967296) = a0 * b1 * 4294967296 by ac_rfl]
    omega
  have f1 : (a : Int) / 4294967296 = (a1 : Int) := by omega
  have f2 : (b : Int) / 4294967296 = (b1 : Int) := by omega
  have f3 : Go.bits BinOp.and IntKind.u64 (a : Int) 4294967295 = (a0 : Int) := by rw [and_low32 ha, ha0]
  have f4 : Go.bits BinOp.and IntKind.u64 (b : Int) 4294967295 = (b0 : Int) := by rw [and_low32 hb, hb0]
  have f5 : IntKind.u64.wrap ((a : Int) * (b : Int)) = ((a * b % 18446744073709551616 : Nat) : Int) := by rw [← Int.natCast_mul, w64n]
  have f6 : (a1 : Int) * (b0 : Int) = ((a1 * b0 : Nat) : Int) := (Int.natCast_mul _ _).symm
  have f7 : (a0 : Int) * (b0 : Int) = ((a0 * b0 : Nat) : Int) := (Int.natCast_mul _ _).symm
  have f8 : (a0 : Int) * (b1 : Int) = ((a0 * b1 : Nat) : Int) := (Int.natCast_mul _ _).symm
  have f9 : (a1 : Int) * (b1 : Int) = ((a1 * b1 : Nat) : Int) := (Int.natCast_mul _ _).symm
  unfold uV
  rw [hab] at *
  generalize a1 * b1 = p11 at *
  generalize a1 * b0 = p10 at *
  generalize a0 * b1 = p01 at *
  generalize a0 * b0 = p00 at *
  obtain ⟨LO, hLO⟩ : ∃ x, (p11 * 18446744073709551616 + (p10 + p01) * 4294967296 + p00) % 18446744073709551616 = x := ⟨_, rfl⟩
  obtain ⟨HI, hHI⟩ : ∃ x, (p11 * 18446744073709551616 + (p10 + p01) * 4294967296 + p00) / 18446744073709551616 = x := ⟨_, rfl⟩
  rw [hLO, hHI]
  rw [hLO] at f5
  obtain ⟨mid, hmid⟩ : ∃ x, p10 + p00 / 4294967296 = x := ⟨_, rfl⟩
  have hml : mid < 18446744073709551616 := by omega
  obtain ⟨mid2, hmid2⟩ : ∃ x, p01 + mid % 4294967296 = x := ⟨_, rfl⟩
  have g1 : IntKind.u64.wrap (p10 : Int) = (p10 : Int) := by rw [wu64]; omega
  have g2 : IntKind.u64.wrap (p00 : Int) = (p00 : Int) := by rw [wu64]; omega
  have g3 : IntKind.u64.wrap ((p10 : Int) + (p00 : Int) / 4294967296) = (mid : Int) := by rw [wu64]; omega
  have g4 : IntKind.u64.wrap (p01 : Int) = (p01 : Int) := by rw [wu64]; omega
  have g5 : Go.bits BinOp.and IntKind.u64 (mid : Int) 4294967295 = ((mid % 4294967296 : Nat) : Int) := and_low32 hml
  have g6 : IntKind.u64.wrap ((p01 : Int) + ((mid % 4294967296 : Nat) : Int)) = (mid2 : Int) := by rw [wu64]; omega
  have g7 : IntKind.u64.wrap (p11 : Int) = (p11 : Int) := by rw [wu64]; omega
  have g8 : IntKind.u64.wrap (IntKind.u64.wrap ((p11 : Int) + (mid : Int) / 4294967296) + (mid2 : Int) / 4294967296) = (HI : Int) := by rw [wu64, wu64]; omega
  obtain ⟨ml, hml2⟩ : ∃ x : Int, ((mid % 4294967296 : Nat) : Int) = x := ⟨_, rfl⟩
  rw [hml2] at g5 g6
  clear hab hLO hHI hmid hmid2 hml hml2 m11 m10 m01 m00 la1 la0 lb1 lb0 ha hb ha1 ha0 hb1 hb0
  go_enter Oacg.func57, Oacg.ntmps57
  go_wp2
  simp [bodyPost, results, Oacg.results57, go_sem]
  exact (Ext.refl w).alloc _ _

/-! ### ShrJam -/
def jamN (v k : Nat) : Nat := if v % 2 ^ k = 0 then v / 2 ^ k else v / 2 ^ k / 2 * 2 + 1
theorem or_one {x : Nat} (hx : x < 18446744073709551616) : Go.bits BinOp.or IntKind.u64 (x : Int) 1 = ((x / 2 * 2 + 1 : Nat) : Int) := by
  have := u64_or_nat x 1 hx (by decide)
  rw [show ((1 : Nat) : Int) = (1 : Int) from rfl] at this
  rw [this]
  have h1 : x ||| 1 = x / 2 * 2 + 1 := by
    have h2 := Nat.two_pow_add_eq_or_of_lt (i := 1) (b := 1) (by decide) (x / 2)
    rw [Nat.pow_one] at h2
    rcases Nat.mod_two_eq_zero_or_one x with h | h
    · have e : x = 2 * (x / 2) := by omega
      calc x ||| 1 = 2 * (x / 2) ||| 1 := by rw [← e]
        _ = 2 * (x / 2) + 1 := h2.symm
        _ = x / 2 * 2 + 1 := by omega
    · have e : x = 2 * (x / 2) + 1 := by omega
      have e2 : x = 2 * (x / 2) ||| 1 := by rw [← h2]; exact e
      calc x ||| 1 = (2 * (x / 2) ||| 1) ||| 1 := by rw [← e2]
        _ = 2 * (x / 2) ||| 1 := by rw [Nat.or_assoc, Nat.or_self]
        _ = x := e2.symm
        _ = x / 2 * 2 + 1 := by omega
  rw [h1]
theorem uV_ne {a b : Nat} (h : a ≠ b) : uV a ≠ uV b := by
  intro hh
  unfold uV at hh
  injection hh with h1
  injection h1 with h2
  simp only [List.cons.injEq, Value.int.injEq, true_and, and_true] at h2
  omega
set_option maxRecDepth 20000 in
set_option maxHeartbeats 1000000 in
theorem shrJam_any (v : Nat) (hv : v < 340282366920938463463374607431768211456) (k : Nat) (hk : k ≤ 255) (w : World) :
    Calls Oacg.prog 99 #[uV v, .int .u8 (k : Int)] w fun r w' => r = .returned (uV (jamN v k)) ∧ Ext w w' := by
  have hq : v / 2 ^ k < 340282366920938463463374607431768211456 := Nat.lt_of_le_of_lt (Nat.div_le_self _ _) hv
  have HR := hide (wShr_any v hv k hk)
  have HL := hide (wShl_any (v / 2 ^ k) hq k hk)
  have hle0 : v / 2 ^ k * 2 ^ k ≤ v := Nat.div_mul_le_self _ _
  rw [Nat.mod_eq_of_lt (Nat.lt_of_le_of_lt hle0 hv)] at HL
  have hdm := Nat.div_add_mod v (2 ^ k)
  rw [Nat.mul_comm] at hdm
  unfold jamN
  generalize v / 2 ^ k = q at *
  have heq : v % 2 ^ k = 0 ↔ q * 2 ^ k = v := by omega
  generalize v % 2 ^ k = r at *
  generalize q * 2 ^ k = z at *
  obtain ⟨H1, hH1⟩ : ∃ H : Int, H = ((v / 18446744073709551616 : Nat) : Int) := ⟨_, rfl⟩
  obtain ⟨L1, hL1⟩ : ∃ H : Int, H = ((v % 18446744073709551616 : Nat) : Int) := ⟨_, rfl⟩
  obtain ⟨H2, hH2⟩ : ∃ H : Int, H = ((q / 18446744073709551616 : Nat) : Int) := ⟨_, rfl⟩
  obtain ⟨L2, hL2⟩ : ∃ H : Int, H = ((q % 18446744073709551616 : Nat) : Int) := ⟨_, rfl⟩
  obtain ⟨H3, hH3⟩ : ∃ H : Int, H = ((z / 18446744073709551616 : Nat) : Int) := ⟨_, rfl⟩
  obtain ⟨L3, hL3⟩ : ∃ H : Int, H = ((z % 18446744073709551616 : Nat) : Int) := ⟨_, rfl⟩
  have HJ : Box (Go.bits BinOp.or IntKind.u64 L2 1 = (((q / 2 * 2 + 1) % 18446744073709551616 : Nat) : Int) ∧ H2 = (((q / 2 * 2 + 1) / 18446744073709551616 : Nat) : Int)) := by
    constructor
    rw [hL2, hH2, or_one (Nat.mod_lt _ (by decide))]
    constructor
    · congr 1; omega
    · congr 1; omega
  have HEQ : Box (r = 0 → H3 = H1 ∧ L3 = L1) := ⟨fun h0 => by have := heq.1 h0; subst this; omega⟩
  have HNE : Box (r ≠ 0 → ¬ (H3 = H1 ∧ L3 = L1)) := ⟨fun h0 hh => h0 (heq.2 (by omega))⟩
  unfold uV at *
  rw [← hH1, ← hL1, ← hH2, ← hL2] at HR
  rw [← hH2, ← hL2, ← hH3, ← hL3] at HL
  rw [← hH1, ← hL1]
  have HU2 := Box.mk (And.intro hH2 hL2)
  clear hH1 hL1 hH3 hL3 hv hk hq hle0 hdm heq hH2 hL2
  go_enter Oacg.func99, Oacg.ntmps99
  go_wp2_with fail
  refine (HR.out _).mono ?_
  rintro _ w1 ⟨rfl, hx1⟩
  have hc0 : w1.cell? ⟨w.heap.size, 0, none⟩ = some (.int .u64 H1) := hx1.cell (by simp [go_sem])
  have hc1 : w1.cell? ⟨w.heap.size, 1, none⟩ = some (.int .u64 L1) := hx1.cell (by simp [go_sem])
  have hz0 : w1.cell? ⟨w.heap.size + 1, 0, none⟩ = some (.int .u64 0) := hx1.cell (by simp [go_sem])
  have hz1 : w1.cell? ⟨w.heap.size + 1, 1, none⟩ = some (.int .u64 0) := hx1.cell (by simp [go_sem])
  have hzf : ∀ i, w1.frozen? ⟨w.heap.size + 1, i, none⟩ = false := fun i => by rw [hx1.froz]; simp [go_sem]
  obtain ⟨W1, hW1⟩ : ∃ W1, W1 = w1.alloc (.cells #[.int .u64 H2, .int .u64 L2] 52) := ⟨_, rfl⟩
  have hxa : Ext w1 W1 := by rw [hW1]; exact (Ext.refl w1).alloc _ _
  have HX1 : Hid (Ext w W1) := ((((Ext.refl w).alloc _ _).alloc _ _).trans hx1).trans hxa
  have g0 : W1.cell? ⟨w1.heap.size, 0, none⟩ = some (.int .u64 H2) := by rw [hW1]; simp [go_sem]
  have g1 : W1.cell? ⟨w1.heap.size, 1, none⟩ = some (.int .u64 L2) := by rw [hW1]; simp [go_sem]
  have gf : ∀ i, W1.frozen? ⟨w1.heap.size, i, none⟩ = false := fun i => by rw [hW1]; simp [go_sem]
  have hlt : w.heap.size + 1 < w1.heap.size := World.block_lt_of_cell? _ _ hz0
  have hneq : w1.heap.size ≠ w.heap.size + 1 := by omega
  have HC4 : Hid (∀ w', Ext W1 w' → w'.cell? ⟨w.heap.size, 0, none⟩ = some (.int .u64 H1) ∧ w'.cell? ⟨w.heap.size, 1, none⟩ = some (.int .u64 L1) ∧ w'.cell? ⟨w1.heap.size, 0, none⟩ = some (.int .u64 H2) ∧ w'.cell? ⟨w1.heap.size, 1, none⟩ = some (.int .u64 L2)) := fun w' hx => ⟨(hxa.trans hx).cell hc0, (hxa.trans hx).cell hc1, hx.cell g0, hx.cell g1⟩
  have HZ : Hid (∀ w', Ext W1 w' → w'.cell? ⟨w.heap.size + 1, 0, none⟩ = some (.int .u64 0) ∧ w'.cell? ⟨w.heap.size + 1, 1, none⟩ = some (.int .u64 0) ∧ (∀ i, w'.frozen? ⟨w.heap.size + 1, i, none⟩ = false) ∧ ∀ i, w'.frozen? ⟨w1.heap.size, i, none⟩ = false) := fun w' hx => ⟨(hxa.trans hx).cell hz0, (hxa.trans hx).cell hz1, fun i => by rw [(hxa.trans hx).froz]; exact hzf i, fun i => by rw [hx.froz]; exact gf i⟩
  clear hx1 hxa hc0 hc1 hz0 hz1 hzf g0 g1 gf HR
  go_wp2_with fail
  rw [← hW1]
  clear hW1
  by_cases hr : r = 0
  · obtain ⟨e1, e2⟩ := HEQ.out hr
    subst e1 e2
    go_cut [13] (fun v wx => v = .bool false ∧ Hid (Ext W1 wx))
    case first =>
      go_region_held3 (fun w' => w'.cell? ⟨w.heap.size, 0, none⟩ = some (.int .u64 H3) ∧ w'.cell? ⟨w.heap.size, 1, none⟩ = some (.int .u64 L3) ∧ w'.cell? ⟨w1.heap.size, 0, none⟩ = some (.int .u64 H2) ∧ w'.cell? ⟨w1.heap.size, 1, none⟩ = some (.int .u64 L2))
        (first | exact HC4.out _ (Ext.refl _) | exact HC4.out _ (by (repeat apply Ext.drew); first | exact Ext.refl _ | assumption))
        (first
          | (go_at_call 68; refine (HL.out _).mono ?_; rintro rr w2 ⟨rfl, hx2⟩; have hE : Ext W1 w2 := Ext.trans (by (repeat apply Ext.drew); first | exact Ext.refl _ | assumption) hx2; clear hx2))
      all_goals go_wp2_with fail
      all_goals go_meet
      all_goals exact ⟨rfl, ‹Ext W1 _›⟩
    case rest =>
      obtain ⟨rfl, HX3⟩ := hcut
      obtain ⟨hc0, hc1, g0, g1⟩ := HC4.out _ HX3.out
      obtain ⟨hz0, hz1, hzf, gf⟩ := HZ.out _ HX3.out
      have HX4 : Hid (Ext w wc) := HX1.out.trans HX3.out
      have hlq : ¬ w.heap.size + 1 = w1.heap.size := fun h => hneq h.symm
      have gf0 := gf 0
      have gf1 := gf 1
      have hzf0 := hzf 0
      have hzf1 := hzf 1
      clear HC4 HZ HX1 HX3 HL gf hzf
      go_wp2
      simp [bodyPost, results, Oacg.results99, go_sem, *]
      have hj := HJ.out
      have hu := HU2.out
      refine ⟨⟨by omega, by omega⟩, ?_⟩
      repeat (refine Ext.setCell ?_ (show w.heap.size ≤ _ by simp only []; omega) _)
      exact HX4.out
  · have hp := HNE.out hr
    by_cases e1 : H3 = H1
    · subst e1
      have e2 : (L3 == L1) = false := by simp only [beq_eq_false_iff_ne]; exact fun h => hp ⟨rfl, h⟩
      clear hp HEQ HNE
      go_cut [13] (fun v wx => v = .bool true ∧ Hid (Ext W1 wx))
      case first =>
        go_region_held3 (fun w' => w'.cell? ⟨w.heap.size, 0, none⟩ = some (.int .u64 H3) ∧ w'.cell? ⟨w.heap.size, 1, none⟩ = some (.int .u64 L1) ∧ w'.cell? ⟨w1.heap.size, 0, none⟩ = some (.int .u64 H2) ∧ w'.cell? ⟨w1.heap.size, 1, none⟩ = some (.int .u64 L2))
          (first | exact HC4.out _ (Ext.refl _) | exact HC4.out _ (by (repeat apply Ext.drew); first | exact Ext.refl _ | assumption))
          (first
            | (go_at_call 68; refine (HL.out _).mono ?_; rintro rr w2 ⟨rfl, hx2⟩; have hE : Ext W1 w2 := Ext.trans (by (repeat apply Ext.drew); first | exact Ext.refl _ | assumption) hx2; clear hx2))
        all_goals go_wp2_with fail
        all_goals go_meet
        all_goals exact ⟨rfl, ‹Ext W1 _›⟩
      case rest =>
        obtain ⟨rfl, HX3⟩ := hcut
        obtain ⟨hc0, hc1, g0, g1⟩ := HC4.out _ HX3.out
        obtain ⟨hz0, hz1, hzf, gf⟩ := HZ.out _ HX3.out
        have HX4 : Hid (Ext w wc) := HX1.out.trans HX3.out
        have hlq : ¬ w.heap.size + 1 = w1.heap.size := fun h => hneq h.symm
        have gf0 := gf 0
        have gf1 := gf 1
        have hzf0 := hzf 0
        have hzf1 := hzf 1
        clear HC4 HZ HX1 HX3 HL gf hzf
        go_wp2
        simp [bodyPost, results, Oacg.results99, go_sem, *]
        have hj := HJ.out
        have hu := HU2.out
        refine ⟨⟨by omega, by omega⟩, ?_⟩
        repeat (refine Ext.setCell ?_ (show w.heap.size ≤ _ by simp only []; omega) _)
        exact HX4.out
    · have e2 : (H3 == H1) = false := by simp only [beq_eq_false_iff_ne]; exact e1
      clear hp HEQ HNE e1
      go_cut [13] (fun v wx => v = .bool true ∧ Hid (Ext W1 wx))
      case first =>
        go_region_held3 (fun w' => w'.cell? ⟨w.heap.size, 0, none⟩ = some (.int .u64 H1) ∧ w'.cell? ⟨w.heap.size, 1, none⟩ = some (.int .u64 L1) ∧ w'.cell? ⟨w1.heap.size, 0, none⟩ = some (.int .u64 H2) ∧ w'.cell? ⟨w1.heap.size, 1, none⟩ = some (.int .u64 L2))
          (first | exact HC4.out _ (Ext.refl _) | exact HC4.out _ (by (repeat apply Ext.drew); first | exact Ext.refl _ | assumption))
          (first
            | (go_at_call 68; refine (HL.out _).mono ?_; rintro rr w2 ⟨rfl, hx2⟩; have hE : Ext W1 w2 := Ext.trans (by (repeat apply Ext.drew); first | exact Ext.refl _ | assumption) hx2; clear hx2))
        all_goals go_wp2_with fail
        all_goals go_meet
        all_goals exact ⟨rfl, ‹Ext W1 _›⟩
      case rest =>
        obtain ⟨rfl, HX3⟩ := hcut
        obtain ⟨hc0, hc1, g0, g1⟩ := HC4.out _ HX3.out
        obtain ⟨hz0, hz1, hzf, gf⟩ := HZ.out _ HX3.out
        have HX4 : Hid (Ext w wc) := HX1.out.trans HX3.out
        have hlq : ¬ w.heap.size + 1 = w1.heap.size := fun h => hneq h.symm
        have gf0 := gf 0
        have gf1 := gf 1
        have hzf0 := hzf 0
        have hzf1 := hzf 1
        clear HC4 HZ HX1 HX3 HL gf hzf
        go_wp2
        simp [bodyPost, results, Oacg.results99, go_sem, *]
        have hj := HJ.out
        have hu := HU2.out
        refine ⟨⟨by omega, by omega⟩, ?_⟩
        repeat (refine Ext.setCell ?_ (show w.heap.size ≤ _ by simp only []; omega) _)
        exact HX4.out

end Go.Proofs.YgcoacGreat
