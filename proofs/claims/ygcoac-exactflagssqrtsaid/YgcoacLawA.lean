/-
  law: expField, fracField, isNeg, isFinite, classOf, biasOf, signedZero, infOf, nanOf.
-/
import Derived.Test.YgcoacRatV
import Derived.WalkSmall
namespace Go.Proofs.Ygcoac
open Go.RowKit
set_option linter.unusedSimpArgs false
set_option linter.unusedVariables false

/-- What the walk wants of a pattern's fields: each as a letter. -/
theorem field_rules {e m : Nat} (h : Fm e m) {x : Nat} (hx : x < 18446744073709551616) :
    IntKind.u64.wrap (2 ^ e) = ((2 ^ e : Nat) : Int) ∧ IntKind.u64.wrap (2 ^ m) = ((2 ^ m : Nat) : Int) ∧ (x : Int) / 2 ^ m = ((x / 2 ^ m : Nat) : Int) ∧
    Go.bits BinOp.and IntKind.u64 (((x / 2 ^ m : Nat) : Int)) (((2 ^ e : Nat) : Int) - 1) = ((ef e m x : Nat) : Int) ∧
    Go.bits BinOp.and IntKind.u64 (x : Int) (((2 ^ m : Nat) : Int) - 1) = ((ff m x : Nat) : Int) ∧
    4 ≤ 2 ^ e ∧ 2 ^ e ≤ 2048 ∧ 4 ≤ 2 ^ m ∧ 2 ^ m ≤ 4503599627370496 := by
  obtain ⟨h1, h2, h3, h4⟩ := h
  have he : e ≤ 63 := by omega
  have hm : m ≤ 63 := by omega
  have hq : x / 2 ^ m < 18446744073709551616 := Nat.lt_of_le_of_lt (Nat.div_le_self _ _) hx
  refine ⟨wrap_pow he, wrap_pow hm, by rw [two_pow_cast]; rfl, ?_, ?_, pow_le_of (show 2 ≤ e by omega), pow_le_of (show e ≤ 11 by omega), pow_le_of (show 2 ≤ m by omega), pow_le_of (show m ≤ 52 by omega)⟩
  · exact and_mask hq he (((2 ^ e : Nat) : Int) - 1) (by have := Nat.pow_pos (n := e) (show 0 < 2 by decide); omega)
  · exact and_mask hx hm (((2 ^ m : Nat) : Int) - 1) (by have := Nat.pow_pos (n := m) (show 0 < 2 by decide); omega)

theorem expField_any (e m : Nat) (h : Fm e m) (x : Nat) (hx : x < 18446744073709551616) (w : World) :
    Calls Oacg.prog 76 #[.agg #[.int .u8 (e : Int), .int .u8 (m : Int)], .int .u64 (x : Int)] w fun r w' => r = .returned (.int .u64 (ef e m x : Int)) ∧ ∃ c, w' = w.alloc (.cells c 23) := by
  obtain ⟨q1, q2, q3, q4, q5, p1, p2, p3, p4⟩ := field_rules h hx
  obtain ⟨h1, h2, h3, h4⟩ := h
  generalize ef e m x = E at *
  generalize ff m x = F at *
  generalize x / 2 ^ m = q at *
  generalize 2 ^ e = P at *
  generalize 2 ^ m = Q at *
  go_enter Oacg.func76, Oacg.ntmps76
  go_wp2
  go_ret
  exact ⟨rfl, _, rfl⟩

theorem fracField_any (e m : Nat) (h : Fm e m) (x : Nat) (hx : x < 18446744073709551616) (w : World) :
    Calls Oacg.prog 77 #[.agg #[.int .u8 (e : Int), .int .u8 (m : Int)], .int .u64 (x : Int)] w fun r w' => r = .returned (.int .u64 (ff m x : Int)) ∧ ∃ c, w' = w.alloc (.cells c 23) := by
  obtain ⟨q1, q2, q3, q4, q5, p1, p2, p3, p4⟩ := field_rules h hx
  obtain ⟨h1, h2, h3, h4⟩ := h
  generalize ef e m x = E at *
  generalize ff m x = F at *
  generalize x / 2 ^ m = q at *
  generalize 2 ^ e = P at *
  generalize 2 ^ m = Q at *
  go_enter Oacg.func77, Oacg.ntmps77
  go_wp2
  go_ret
  exact ⟨rfl, _, rfl⟩

theorem isNeg_any (e m : Nat) (h : Fm e m) (x : Nat) (hx : x < 18446744073709551616) (w : World) :
    Calls Oacg.prog 19 #[.agg #[.int .u8 (e : Int), .int .u8 (m : Int)], .int .u64 (x : Int)] w fun r w' => r = .returned (.bool (ngB e m x)) ∧ Ext w w' := by
  have q3 : (x : Int) / 2 ^ (e + m) = ((x / 2 ^ (e + m) : Nat) : Int) := by rw [two_pow_cast]; rfl
  have hq : x / 2 ^ (e + m) < 18446744073709551616 := Nat.lt_of_le_of_lt (Nat.div_le_self _ _) hx
  have hng : ngB e m x = decide (x / 2 ^ (e + m) % 2 = 1) := rfl
  obtain ⟨h1, h2, h3, h4⟩ := h
  rw [hng]
  clear hng
  generalize x / 2 ^ (e + m) = q at *
  have q4 := and_one_u64 (q : Int) (by omega) (by omega)
  have hng : decide (q % 2 = 1) = ((q : Int) % 2 == 1) := by rw [Bool.eq_iff_iff]; simp only [decide_eq_true_eq, beq_iff_eq]; omega
  rw [hng]
  clear hng
  clear hq
  go_enter Oacg.func19, Oacg.ntmps19
  go_wp2
  go_ret
  exact ⟨rfl, (Ext.refl _).alloc _ _⟩

set_option maxHeartbeats 1000000 in
theorem classOf_any (e m : Nat) (h : Fm e m) (x : Nat) (hx : x < 18446744073709551616) (w : World) :
    Calls Oacg.prog 16 #[.agg #[.int .u8 (e : Int), .int .u8 (m : Int)], .int .u64 (x : Int)] w fun r w' => r = .returned (.int .i8 (cls e m x : Int)) ∧ Ext w w' := by
  have H := hide h
  obtain ⟨q1, q2, q3, q4, q5, p1, p2, p3, p4⟩ := field_rules h hx
  obtain ⟨h1, h2, h3, h4⟩ := h
  have HE := hide (expField_any e m H.out x hx)
  have HF := hide (fracField_any e m H.out x hx)
  have hc : cls e m x = if ef e m x = 2 ^ e - 1 then (if ff m x = 0 then 3 else 4) else if ef e m x = 0 then (if ff m x = 0 then 0 else 1) else 2 := rfl
  have HC := hide hc
  clear hc hx
  generalize cls e m x = cl at *
  generalize ef e m x = E at *
  generalize ff m x = F at *
  generalize x / 2 ^ m = q at *
  generalize 2 ^ e = P at *
  generalize 2 ^ m = Q at *
  have key : ∀ (b1 b2 b3 : Bool), ((E : Int) == (P : Int) - 1) = b1 → ((F : Int) != 0) = b2 → ((E : Int) != 0) = b3 →
      (cl : Int) = (if b1 then (if b2 then 4 else 3) else if b3 then 2 else if b2 then 1 else 0) := by
    rintro b1 b2 b3 rfl rfl rfl
    rw [HC.out]
    simp only [beq_iff_eq, bne_iff_ne]
    repeat' split
    all_goals first | rfl | omega
  have KEY := hide key
  clear key
  rcases hb1 : ((E : Int) == (P : Int) - 1) with _ | _ <;> rcases hb2 : ((F : Int) != 0) with _ | _ <;> rcases hb3 : ((E : Int) != 0) with _ | _
  all_goals
    have hfin := hide (KEY.out _ _ _ hb1 hb2 hb3)
    go_enter Oacg.func16, Oacg.ntmps16
    go_wp2_with fail
    go_region_held3 (fun w' => w'.cell? ⟨w.heap.size, 0, none⟩ = some (.int .u8 (e : Int)) ∧ w'.cell? ⟨w.heap.size, 1, none⟩ = some (.int .u8 (m : Int))) (simp [go_sem, World.cell?_alloc_past])
      (first
        | (go_at_call 76; refine (HE.out _).mono ?_; rintro r w' ⟨rfl, o1, rfl⟩)
        | (go_at_call 77; refine (HF.out _).mono ?_; rintro r w' ⟨rfl, o2, rfl⟩))
    go_wp2
    go_ret
    refine ⟨ret_int (by rw [hfin.out]; rfl), ?_⟩
    repeat (first | apply Ext.alloc | apply Ext.drew | apply Ext.drewN)
    exact Ext.refl _
end Go.Proofs.Ygcoac
