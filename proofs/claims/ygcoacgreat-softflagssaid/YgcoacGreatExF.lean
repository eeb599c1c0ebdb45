/-
  exact.FromInt64, FromUint64; law.wholeFrac, isFinite, goesUp, one.
-/
import Derived.Test.YgcoacGreatExD
import Derived.Test.YgcoacGreatECmp
namespace Go.Proofs.YgcoacGreat
open Go.RowKit
set_option linter.unusedSimpArgs false
set_option linter.unusedVariables false

theorem lt_W2 {n : Nat} (h : n < 18446744073709551616) : n < W 2 := h
/-- whole(neg, FromU64(x)) rounded: the three calls in a row. -/
structure Chain (e m : Nat) (mode : Int) (neg : Bool) (n : Nat) (W0 : World) : Prop where
  fu : ∀ wx, Ext W0 wx → Calls Oacg.prog 47 #[.int .u64 (n : Int)] wx fun r w' => (∃ v, r = .returned v ∧ NatAt w' v n) ∧ Ext wx w'
  wh : ∀ v wx, NatAt wx v n → Calls Oacg.prog 46 #[.bool neg, v] wx fun r w' => (∃ u, r = .returned u ∧ RatAt w' u neg n 1) ∧ Ext wx w'
  rf : ∀ u wx, RatAt wx u neg n 1 → Calls Oacg.prog 45 #[.agg #[.int .u8 (e : Int), .int .u8 (m : Int)], .int .u8 mode, u] wx fun r w' => (∃ x, r = .returned x ∧ x = .tuple #[.int .u64 (rndV e m mode neg n 1 : Int), .int .u8 (rndF e m mode neg n 1)]) ∧ Ext wx w'
theorem chain {e m : Nat} (h : Fm e m) (mode : Int) (neg : Bool) {n : Nat} (hn : n < 18446744073709551616) (W0 : World) : Chain e m mode neg n W0 := by
  refine ⟨fun wx _ => ?_, fun v wx hv => whole_any neg n v wx hv, fun u wx hu => roundFlags_any e m h mode neg n 1 2 1 (lt_W2 hn) (one_lt_W 1 (by decide)) (by decide) (by decide) (by decide) u wx hu⟩
  have := fromU64_any (n : Int) (by omega) (by omega) wx
  rw [Int.toNat_natCast] at this
  exact this

set_option maxRecDepth 20000 in
set_option maxHeartbeats 2000000 in
theorem fromUint64Flags_any (e m : Nat) (h : Fm e m) (mode : Int) (n : Nat) (hn : n < 18446744073709551616) (w : World) :
    Calls Oacg.prog 14 #[.agg #[.int .u8 (e : Int), .int .u8 (m : Int)], .int .u8 mode, .int .u64 (n : Int)] w fun r w' =>
      r = .returned (.tuple #[.int .u64 (rndV e m mode false n 1 : Int), .int .u8 (rndF e m mode false n 1)]) ∧ Ext w w' := by
  obtain ⟨W0, hW0⟩ : ∃ W0, W0 = w.alloc (.cells #[.int .u8 (e : Int), .int .u8 (m : Int)] 23) := ⟨_, rfl⟩
  have HCH := Box.mk (chain h mode false hn W0)
  have HC : Hid (Cells2 W0 w.heap.size e m) := by rw [hW0]; exact Cells2.new w e m _
  have HX0 : Hid (Ext w W0) := by rw [hW0]; exact (Ext.refl w).alloc _ _
  clear hn h
  go_enter Oacg.func14, Oacg.ntmps14
  go_wp2_with fail
  rw [← hW0]
  clear hW0
  go_region_held3 (fun w' => Cells2 w' w.heap.size e m)
    (first | exact HC.out | exact HC.out.ext (by (repeat apply Ext.drew); first | exact Ext.refl _ | assumption))
    (first
      | (go_at_call 47; refine (HCH.out.fu _ (by (repeat apply Ext.drew); first | exact Ext.refl _ | assumption)).mono ?_; rintro r w1 ⟨⟨v1, rfl, hv1⟩, hx1⟩; have HV1 := hide hv1; have hE1 : Ext W0 w1 := Ext.trans (by (repeat apply Ext.drew); first | exact Ext.refl _ | assumption) hx1; clear hx1 hv1)
      | (go_at_call 46; refine (HCH.out.wh _ _ (by first | exact HV1.out | exact HV1.out.ext ((Ext.refl _).drew))).mono ?_; rintro r w2 ⟨⟨v2, rfl, hv2⟩, hx2⟩; obtain ⟨p1, k1, c1, p2, k2, c2, rfl, hn2, hd2⟩ := hv2; have HV2 : Hid (RatAt w2 (.agg #[.bool false, .slice p1 k1 c1, .slice p2 k2 c2]) false n 1) := ⟨_, _, _, _, _, _, rfl, hn2, hd2⟩; have hE2 : Ext W0 w2 := Ext.trans (by (repeat apply Ext.drew); first | exact Ext.refl _ | assumption) hx2; clear hx2 hn2 hd2)
      | (go_at_call 45; refine (HCH.out.rf _ _ (by first | exact HV2.out | exact HV2.out.ext ((Ext.refl _).drew))).mono ?_; rintro r w3 ⟨⟨_, rfl, rfl⟩, hx3⟩; have hE3 : Ext W0 w3 := Ext.trans (by (repeat apply Ext.drew); first | exact Ext.refl _ | assumption) hx3; clear hx3))
  all_goals go_wp2_with fail
  all_goals simp [bodyPost, results, Oacg.results14, go_sem]
  all_goals exact HX0.out.trans (by (repeat apply Ext.drew); assumption)
set_option maxRecDepth 20000 in
set_option maxHeartbeats 2000000 in
theorem fromInt64Flags_neg (e m : Nat) (h : Fm e m) (mode : Int) (i : Int) (h1 : -9223372036854775808 ≤ i) (h2 : i ≤ 9223372036854775807) (hi : i < 0) (w : World) :
    Calls Oacg.prog 12 #[.agg #[.int .u8 (e : Int), .int .u8 (m : Int)], .int .u8 mode, .int .i64 i] w fun r w' =>
      r = .returned (.tuple #[.int .u64 (rndV e m mode true i.natAbs 1 : Int), .int .u8 (rndF e m mode true i.natAbs 1)]) ∧ Ext w w' := by
  obtain ⟨n, hnn⟩ : ∃ n, i.natAbs = n := ⟨_, rfl⟩
  have hn : n < 18446744073709551616 := by omega
  have hcv : IntKind.u64.wrap (-(IntKind.u64.wrap i)) = (n : Int) := by rw [wu64, wu64]; omega
  rw [hnn]
  have ht : decide (i < 0) = true := by simpa using hi
  obtain ⟨W0, hW0⟩ : ∃ W0, W0 = w.alloc (.cells #[.int .u8 (e : Int), .int .u8 (m : Int)] 23) := ⟨_, rfl⟩
  have HCH := Box.mk (chain h mode true hn W0)
  have HC : Hid (Cells2 W0 w.heap.size e m) := by rw [hW0]; exact Cells2.new w e m _
  have HX0 : Hid (Ext w W0) := by rw [hW0]; exact (Ext.refl w).alloc _ _
  clear hn h
  clear hnn
  go_enter Oacg.func12, Oacg.ntmps12
  go_wp2_with fail
  rw [← hW0]
  clear hW0
  go_region_held3 (fun w' => Cells2 w' w.heap.size e m)
    (first | exact HC.out | exact HC.out.ext (by (repeat apply Ext.drew); first | exact Ext.refl _ | assumption))
    (first
      | (go_at_call 47; refine (HCH.out.fu _ (by (repeat apply Ext.drew); first | exact Ext.refl _ | assumption)).mono ?_; rintro r w1 ⟨⟨v1, rfl, hv1⟩, hx1⟩; have HV1 := hide hv1; have hE1 : Ext W0 w1 := Ext.trans (by (repeat apply Ext.drew); first | exact Ext.refl _ | assumption) hx1; clear hx1 hv1)
      | (go_at_call 46; refine (HCH.out.wh _ _ (by first | exact HV1.out | exact HV1.out.ext ((Ext.refl _).drew))).mono ?_; rintro r w2 ⟨⟨v2, rfl, hv2⟩, hx2⟩; obtain ⟨p1, k1, c1, p2, k2, c2, rfl, hn2, hd2⟩ := hv2; have HV2 : Hid (RatAt w2 (.agg #[.bool true, .slice p1 k1 c1, .slice p2 k2 c2]) true n 1) := ⟨_, _, _, _, _, _, rfl, hn2, hd2⟩; have hE2 : Ext W0 w2 := Ext.trans (by (repeat apply Ext.drew); first | exact Ext.refl _ | assumption) hx2; clear hx2 hn2 hd2)
      | (go_at_call 45; refine (HCH.out.rf _ _ (by first | exact HV2.out | exact HV2.out.ext ((Ext.refl _).drew))).mono ?_; rintro r w3 ⟨⟨_, rfl, rfl⟩, hx3⟩; have hE3 : Ext W0 w3 := Ext.trans (by (repeat apply Ext.drew); first | exact Ext.refl _ | assumption) hx3; clear hx3))
  all_goals go_wp2_with fail
  all_goals simp [bodyPost, results, Oacg.results12, go_sem]
  all_goals exact HX0.out.trans (by (repeat apply Ext.drew); assumption)
set_option maxRecDepth 20000 in
set_option maxHeartbeats 2000000 in
theorem fromInt64Flags_pos (e m : Nat) (h : Fm e m) (mode : Int) (i : Int) (h1 : -9223372036854775808 ≤ i) (h2 : i ≤ 9223372036854775807) (hi : ¬ i < 0) (w : World) :
    Calls Oacg.prog 12 #[.agg #[.int .u8 (e : Int), .int .u8 (m : Int)], .int .u8 mode, .int .i64 i] w fun r w' =>
      r = .returned (.tuple #[.int .u64 (rndV e m mode false i.natAbs 1 : Int), .int .u8 (rndF e m mode false i.natAbs 1)]) ∧ Ext w w' := by
  obtain ⟨n, hnn⟩ : ∃ n, i.natAbs = n := ⟨_, rfl⟩
  have hn : n < 18446744073709551616 := by omega
  have hcv : IntKind.u64.wrap i = (n : Int) := by rw [wu64]; omega
  rw [hnn]
  have ht : decide (i < 0) = false := by simpa using hi
  obtain ⟨W0, hW0⟩ : ∃ W0, W0 = w.alloc (.cells #[.int .u8 (e : Int), .int .u8 (m : Int)] 23) := ⟨_, rfl⟩
  have HCH := Box.mk (chain h mode false hn W0)
  have HC : Hid (Cells2 W0 w.heap.size e m) := by rw [hW0]; exact Cells2.new w e m _
  have HX0 : Hid (Ext w W0) := by rw [hW0]; exact (Ext.refl w).alloc _ _
  clear hn h
  clear hnn
  go_enter Oacg.func12, Oacg.ntmps12
  go_wp2_with fail
  rw [← hW0]
  clear hW0
  go_region_held3 (fun w' => Cells2 w' w.heap.size e m)
    (first | exact HC.out | exact HC.out.ext (by (repeat apply Ext.drew); first | exact Ext.refl _ | assumption))
    (first
      | (go_at_call 47; refine (HCH.out.fu _ (by (repeat apply Ext.drew); first | exact Ext.refl _ | assumption)).mono ?_; rintro r w1 ⟨⟨v1, rfl, hv1⟩, hx1⟩; have HV1 := hide hv1; have hE1 : Ext W0 w1 := Ext.trans (by (repeat apply Ext.drew); first | exact Ext.refl _ | assumption) hx1; clear hx1 hv1)
      | (go_at_call 46; refine (HCH.out.wh _ _ (by first | exact HV1.out | exact HV1.out.ext ((Ext.refl _).drew))).mono ?_; rintro r w2 ⟨⟨v2, rfl, hv2⟩, hx2⟩; obtain ⟨p1, k1, c1, p2, k2, c2, rfl, hn2, hd2⟩ := hv2; have HV2 : Hid (RatAt w2 (.agg #[.bool false, .slice p1 k1 c1, .slice p2 k2 c2]) false n 1) := ⟨_, _, _, _, _, _, rfl, hn2, hd2⟩; have hE2 : Ext W0 w2 := Ext.trans (by (repeat apply Ext.drew); first | exact Ext.refl _ | assumption) hx2; clear hx2 hn2 hd2)
      | (go_at_call 45; refine (HCH.out.rf _ _ (by first | exact HV2.out | exact HV2.out.ext ((Ext.refl _).drew))).mono ?_; rintro r w3 ⟨⟨_, rfl, rfl⟩, hx3⟩; have hE3 : Ext W0 w3 := Ext.trans (by (repeat apply Ext.drew); first | exact Ext.refl _ | assumption) hx3; clear hx3))
  all_goals go_wp2_with fail
  all_goals simp [bodyPost, results, Oacg.results12, go_sem]
  all_goals exact HX0.out.trans (by (repeat apply Ext.drew); assumption)
theorem fromInt64Flags_any (e m : Nat) (h : Fm e m) (mode : Int) (i : Int) (h1 : -9223372036854775808 ≤ i) (h2 : i ≤ 9223372036854775807) (w : World) :
    Calls Oacg.prog 12 #[.agg #[.int .u8 (e : Int), .int .u8 (m : Int)], .int .u8 mode, .int .i64 i] w fun r w' =>
      r = .returned (.tuple #[.int .u64 (rndV e m mode (decide (i < 0)) i.natAbs 1 : Int), .int .u8 (rndF e m mode (decide (i < 0)) i.natAbs 1)]) ∧ Ext w w' := by
  by_cases hi : i < 0
  · rw [show decide (i < 0) = true by simpa using hi]; exact fromInt64Flags_neg e m h mode i h1 h2 hi w
  · rw [show decide (i < 0) = false by simpa using hi]; exact fromInt64Flags_pos e m h mode i h1 h2 hi w
/-! ### law.one, wholeFrac, goesUp, isFinite -/
end Go.Proofs.YgcoacGreat
