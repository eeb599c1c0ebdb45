/-
  soft.top, numberOf.
-/
import Derived.Test.YgcoacGreatSfD
namespace Go.Proofs.YgcoacGreat
open Go.RowKit
set_option linter.unusedSimpArgs false
set_option linter.unusedVariables false

/-- A number: sign, exponent, and the 128 bits in two halves. -/
def nbV (neg : Bool) (x : Int) (a : Nat) : Value := .agg #[.bool neg, .int .i16 x, .int .u64 ((a / 18446744073709551616 : Nat) : Int), .int .u64 ((a % 18446744073709551616 : Nat) : Int)]
theorem man_top {m man : Nat} (hm : m ≤ 52) (h : man < 2 ^ (m + 1)) : man * 2 ^ (63 - m) < 18446744073709551616 := by
  have := Nat.mul_lt_mul_of_pos_right h (two_pos (63 - m))
  rw [← Nat.pow_add, show m + 1 + (63 - m) = 64 by omega] at this
  exact this
set_option maxRecDepth 20000 in
set_option maxHeartbeats 2000000 in
theorem top_any (e m : Nat) (h : Fm e m) (pn : Bool) (c x : Int) (hx1 : -20000 ≤ x) (hx2 : x ≤ 20000) (man : Nat) (hman : man < 2 ^ (m + 1)) (w : World) :
    Calls Oacg.prog 32 #[.agg #[.int .u8 (e : Int), .int .u8 (m : Int)], .agg #[.bool pn, .int .i8 c, .int .i16 x, .int .u64 (man : Int)]] w fun r w' =>
      r = .returned (.tuple #[.int .u64 ((man * 2 ^ (63 - m) : Nat) : Int), .int .i16 (x - ((63 - m : Nat) : Int))]) ∧ Ext w w' := by
  have hm1 := h.m1; have hm2 := h.m2
  have hlt := man_top (by omega) hman
  obtain ⟨u, hu⟩ : ∃ x, 63 - m = x := ⟨_, rfl⟩
  rw [hu] at hlt ⊢
  have c1 : IntKind.u8.wrap (63 - (m : Int)) = (u : Int) := by simp [IntKind.wrap, IntKind.bits, IntKind.signed]; omega
  have c2 : IntKind.u64.wrap ((man : Int) * 2 ^ u) = ((man * 2 ^ u : Nat) : Int) := by rw [two_pow_cast, ← Int.natCast_mul, w64n, Nat.mod_eq_of_lt hlt]
  have c3 : IntKind.i16.wrap (u : Int) = (u : Int) := by rw [wi16]; omega
  have c5 : (u : Int) < 64 := by omega
  generalize ((man * 2 ^ u : Nat) : Int) = T at *
  obtain ⟨Y, hY⟩ : ∃ Y, x - (u : Int) = Y := ⟨_, rfl⟩
  have c4 : IntKind.i16.wrap (x - (u : Int)) = Y := by rw [wi16]; omega
  rw [hY]
  clear hY hlt hu hman h hx1 hx2
  obtain ⟨W0, hW0⟩ : ∃ W0, W0 = (w.alloc (.cells #[.int .u8 (e : Int), .int .u8 (m : Int)] 23)).alloc (.cells #[.bool pn, .int .i8 c, .int .i16 x, .int .u64 (man : Int)] 44) := ⟨_, rfl⟩
  have HX0 : Hid (Ext w W0) := by rw [hW0]; exact ((Ext.refl w).alloc _ _).alloc _ _
  have HC : Hid (∀ w', Ext W0 w' → w'.cell? ⟨w.heap.size + 1, 2, none⟩ = some (.int .i16 x) ∧ w'.cell? ⟨w.heap.size + 1, 3, none⟩ = some (.int .u64 (man : Int))) := fun w' hx => ⟨hx.cell (by rw [hW0]; simp [go_sem]), hx.cell (by rw [hW0]; simp [go_sem])⟩
  go_enter Oacg.func32, Oacg.ntmps32
  go_wp2_with fail
  rw [← hW0]
  clear hW0
  go_region_held3 (fun w' => w'.cell? ⟨w.heap.size + 1, 2, none⟩ = some (.int .i16 x) ∧ w'.cell? ⟨w.heap.size + 1, 3, none⟩ = some (.int .u64 (man : Int)))
    (first | exact HC.out _ (Ext.refl _) | exact HC.out _ (by (repeat apply Ext.drew); first | exact Ext.refl _ | assumption))
    (fail)
  all_goals go_wp2_with fail
  all_goals simp [bodyPost, results, Oacg.results32, go_sem]
  all_goals exact HX0.out.drew
set_option maxRecDepth 20000 in
set_option maxHeartbeats 2000000 in
theorem numberOf_any (e m : Nat) (h : Fm e m) (pn : Bool) (c x : Int) (hx1 : -15000 ≤ x) (hx2 : x ≤ 15000) (man : Nat) (hman : man < 2 ^ (m + 1)) (w : World) :
    Calls Oacg.prog 87 #[.agg #[.int .u8 (e : Int), .int .u8 (m : Int)], .agg #[.bool pn, .int .i8 c, .int .i16 x, .int .u64 (man : Int)]] w fun r w' =>
      r = .returned (nbV pn (x - ((63 - m : Nat) : Int) - 63) (man * 2 ^ (63 - m) * 9223372036854775808)) ∧ Ext w w' := by
  have hm1 := h.m1; have hm2 := h.m2
  have hlt := man_top (by omega) hman
  have HT := hide (top_any e m h pn c x (by omega) (by omega) man hman)
  have c1 : IntKind.i16.wrap (x - ((63 - m : Nat) : Int) - 63) = x - ((63 - m : Nat) : Int) - 63 := by rw [wi16]; omega
  generalize man * 2 ^ (63 - m) = T at *
  generalize x - ((63 - m : Nat) : Int) = Y at *
  unfold nbV
  have c2 : (T : Int) / 2 = ((T * 9223372036854775808 / 18446744073709551616 : Nat) : Int) := by omega
  have c3 : IntKind.u64.wrap ((T : Int) * 9223372036854775808) = ((T * 9223372036854775808 % 18446744073709551616 : Nat) : Int) := by
    rw [wu64]; omega
  obtain ⟨A1, hA1⟩ : ∃ x : Int, ((T * 9223372036854775808 / 18446744073709551616 : Nat) : Int) = x := ⟨_, rfl⟩
  obtain ⟨A2, hA2⟩ : ∃ x : Int, ((T * 9223372036854775808 % 18446744073709551616 : Nat) : Int) = x := ⟨_, rfl⟩
  rw [hA1] at c2 ⊢
  rw [hA2] at c3 ⊢
  obtain ⟨Y2, hY2⟩ : ∃ x : Int, Y - 63 = x := ⟨_, rfl⟩
  have c1' : IntKind.i16.wrap (Y - 63) = Y2 := by rw [c1, hY2]
  rw [hY2]
  clear c1
  clear hY2 hA1 hA2 hlt hman h hx1 hx2
  obtain ⟨W0, hW0⟩ : ∃ W0, W0 = ((w.alloc (.cells #[.int .u8 (e : Int), .int .u8 (m : Int)] 23)).alloc (.cells #[.bool pn, .int .i8 c, .int .i16 x, .int .u64 (man : Int)] 44)).alloc (.cells #[.bool false, .int .i16 0, .int .u64 0, .int .u64 0] 119) := ⟨_, rfl⟩
  go_enter Oacg.func87, Oacg.ntmps87
  go_wp2_with fail
  rw [← hW0]
  refine (HT.out _).mono ?_
  rintro _ w1 ⟨rfl, hx1⟩
  have k0 : w1.cell? ⟨w.heap.size + 1, 0, none⟩ = some (.bool pn) := hx1.cell (by rw [hW0]; simp [go_sem])
  have r0 : w1.cell? ⟨w.heap.size + 1 + 1, 0, none⟩ = some (.bool false) := hx1.cell (by rw [hW0]; simp [go_sem])
  have r1 : w1.cell? ⟨w.heap.size + 1 + 1, 1, none⟩ = some (.int .i16 0) := hx1.cell (by rw [hW0]; simp [go_sem])
  have r2 : w1.cell? ⟨w.heap.size + 1 + 1, 2, none⟩ = some (.int .u64 0) := hx1.cell (by rw [hW0]; simp [go_sem])
  have r3 : w1.cell? ⟨w.heap.size + 1 + 1, 3, none⟩ = some (.int .u64 0) := hx1.cell (by rw [hW0]; simp [go_sem])
  have rf : ∀ i, w1.frozen? ⟨w.heap.size + 1 + 1, i, none⟩ = false := fun i => by rw [hx1.froz, hW0]; simp [go_sem]
  have f0 := rf 0
  have f1 := rf 1
  have f2 := rf 2
  have f3 := rf 3
  have HX0 : Hid (Ext w W0) := by rw [hW0]; exact (((Ext.refl w).alloc _ _).alloc _ _).alloc _ _
  have HX1 := hide (HX0.out.trans hx1)
  clear hx1 hW0 rf HT HX0
  go_wp2_with fail
  simp [bodyPost, results, Oacg.results87, go_sem, *]
  repeat (refine Ext.setCell ?_ (show w.heap.size ≤ _ by simp only []; omega) _)
  exact HX1.out
end Go.Proofs.YgcoacGreat
