/-
  law.signaling, nanFlags; exact.CmpFlags.
-/
import Derived.Test.YgcoacFlF
import Derived.Test.YgcoacCmpA
namespace Go.Proofs.Ygcoac
open Go.RowKit
set_option linter.unusedSimpArgs false
set_option linter.unusedVariables false

set_option maxRecDepth 20000 in
set_option maxHeartbeats 1000000 in
theorem signaling_any (e m : Nat) (h : Fm e m) (x : Nat) (hx : x < 18446744073709551616) (w : World) :
    Calls Oacg.prog 106 #[.agg #[.int .u8 (e : Int), .int .u8 (m : Int)], .int .u64 (x : Int)] w fun r w' => r = .returned (.bool (sigB e m x)) ∧ Ext w w' := by
  have HU := hide (classOf_any e m h x hx)
  go_enter Oacg.func106, Oacg.ntmps106
  go_wp2_with fail
  refine (HU.out _).mono ?_
  rintro _ w1 ⟨rfl, hx1⟩
  have hc : w1.cell? ⟨w.heap.size, 1, none⟩ = some (.int .u8 (m : Int)) := (hx1.cell (Cells2.new w e m 23).2)
  have HX : Hid (Ext w w1) := ((Ext.refl w).alloc _ _).trans hx1
  obtain ⟨h1, h2, h3, h4⟩ := h
  have hm1 : (m : Int) - 1 = ((m - 1 : Nat) : Int) := by omega
  obtain ⟨y, hy⟩ : ∃ y : Nat, x / 2 ^ (m - 1) = y := ⟨_, rfl⟩
  have hyi : (x : Int) / 2 ^ (m - 1) = (y : Int) := by rw [two_pow_cast, ← Int.natCast_ediv, hy]
  have hyl : y < 18446744073709551616 := by rw [← hy]; exact Nat.lt_of_le_of_lt (Nat.div_le_self _ _) hx
  have hand : Go.bits BinOp.and IntKind.u64 (y : Int) 1 = ((y % 2 : Nat) : Int) := by
    have := u64_and_nat y 1 hyl (by decide)
    rw [show ((1 : Nat) : Int) = (1 : Int) from rfl] at this
    rw [this, Nat.and_one_is_mod]
  have hmb : (m : Int) - 1 ≤ 51 := by omega
  clear hx1 hx hyl HU
  by_cases h4' : cls e m x = 4
  · have t1 : ((cls e m x : Int) == 4) = true := by rw [h4']; rfl
    have hs : sigB e m x = decide (y % 2 = 0) := by unfold sigB; rw [h4', hy]; simp
    have HSS := Box.mk hs
    have HY := Box.mk hy
    clear hs hy h4'
    generalize (cls e m x : Int) = cl at *
    go_wp2_with fail
    go_ret
    refine ⟨ret_bool (a := ((y : Int) % 2 == 0)) ?_, HX.out⟩
    rw [HSS.out, Bool.eq_iff_iff]
    simp only [beq_iff_eq, decide_eq_true_eq]
    omega
  · have t1 : ((cls e m x : Int) == 4) = false := by rw [beq_eq_false_iff_ne]; omega
    have hs : sigB e m x = false := by unfold sigB; simp [h4']
    have HSS := Box.mk hs
    clear hs hy h4'
    generalize (cls e m x : Int) = cl at *
    go_wp2_with fail
    go_ret
    exact ⟨by rw [HSS.out]; rfl, HX.out⟩

set_option maxHeartbeats 1000000 in
theorem nanFlags_any (e m : Nat) (h : Fm e m) (a b : Nat) (ha : a < 18446744073709551616) (hb : b < 18446744073709551616) (w : World) :
    Calls Oacg.prog 46 #[.agg #[.int .u8 (e : Int), .int .u8 (m : Int)], .int .u64 (a : Int), .int .u64 (b : Int)] w fun r w' => r = .returned (.int .u8 (heardF e m a b)) ∧ Ext w w' := by
  have HA := hide (signaling_any e m h a ha)
  have HB := hide (signaling_any e m h b hb)
  have HF : Hid (∀ x y, sigB e m a = x → sigB e m b = y → heardF e m a b = if x || y then 1 else 0) := by
    intro x y hx hy; unfold heardF; rw [hx, hy]
  clear ha hb
  have HC := hide (Cells2.new w e m 23)
  obtain ⟨sa, hsa⟩ : ∃ sa, sigB e m a = sa := ⟨_, rfl⟩
  obtain ⟨sb, hsb⟩ : ∃ sb, sigB e m b = sb := ⟨_, rfl⟩
  have hF := HF.out sa sb hsa hsb
  rw [hsa] at HA
  rw [hsb] at HB
  rw [hF]
  clear HF hF hsa hsb
  go_enter Oacg.func46, Oacg.ntmps46
  go_wp2_with fail
  refine (HA.out _).mono ?_
  rintro _ w1 ⟨rfl, hx1⟩
  have HX1 : Hid (Ext w w1) := ((Ext.refl w).alloc _ _).trans hx1
  obtain ⟨c0, c1⟩ := HC.out.ext hx1
  clear hx1 HC
  cases sa with
  | true =>
    go_wp2_with fail
    go_ret
    exact ⟨rfl, HX1.out⟩
  | false =>
    go_wp2_with fail
    refine (HB.out _).mono ?_
    rintro _ w2 ⟨rfl, hx2⟩
    have HX2 := hide (HX1.out.trans hx2)
    clear hx2
    cases sb with
    | true =>
      go_wp2_with fail
      go_ret
      exact ⟨rfl, HX2.out⟩
    | false =>
      go_wp2_with fail
      go_ret
      exact ⟨rfl, HX2.out⟩

def cmpV (e m x y : Nat) : Int := cmpX (cls e m x : Int) (cls e m y : Int) (ngB e m x) (ngB e m y) (vNeg e m x) (vNeg e m y) (vNum e m x) (vDen e m x) (vNum e m y) (vDen e m y)
set_option maxHeartbeats 1000000 in
theorem cmpFlags_any (e m : Nat) (h : Fm e m) (a b : Nat) (ha : a < 18446744073709551616) (hb : b < 18446744073709551616) (w : World) :
    Calls Oacg.prog 56 #[.agg #[.int .u8 (e : Int), .int .u8 (m : Int)], .int .u64 (a : Int), .int .u64 (b : Int)] w fun r w' => r = .returned (.tuple #[.int .i8 (cmpV e m a b), .int .u8 (heardF e m a b)]) ∧ Ext w w' := by
  have HA := hide (exactCmp_any e m h a b ha hb)
  have HB := hide (heard_any e m h a b ha hb)
  unfold cmpV
  generalize cmpX (cls e m a : Int) (cls e m b : Int) (ngB e m a) (ngB e m b) (vNeg e m a) (vNeg e m b) (vNum e m a) (vDen e m a) (vNum e m b) (vDen e m b) = cv at *
  generalize heardF e m a b = hf at *
  clear ha hb
  have HC := hide (Cells2.new w e m 23)
  obtain ⟨W0, hW0⟩ : ∃ W0, W0 = w.alloc (.cells #[.int .u8 (e : Int), .int .u8 (m : Int)] 23) := ⟨_, rfl⟩
  have HX0 : Hid (Ext w W0) := by rw [hW0]; exact (Ext.refl w).alloc _ _
  rw [← hW0] at HC
  go_enter Oacg.func56, Oacg.ntmps56
  go_wp2_with fail
  rw [← hW0]
  clear hW0
  go_region_held3 (fun w' => Cells2 w' w.heap.size e m)
    (first | exact HC.out | exact HC.out.ext (by (repeat apply Ext.drew); first | exact Ext.refl _ | assumption))
    (first
      | (go_at_call 37; refine (HA.out _).mono ?_; rintro r w1 ⟨rfl, hx1⟩; have hE : Ext W0 w1 := Ext.trans (by (repeat apply Ext.drew); first | exact Ext.refl _ | assumption) hx1; clear hx1)
      | (go_at_call 112; refine (HB.out _).mono ?_; rintro r w2 ⟨rfl, hx2⟩; have hE2 : Ext W0 w2 := Ext.trans (by (repeat apply Ext.drew); first | exact Ext.refl _ | assumption) hx2; clear hx2))
  all_goals go_wp2_with fail
  all_goals simp [bodyPost, results, Oacg.results56, go_sem]
  all_goals exact HX0.out.trans (by (repeat apply Ext.drew); assumption)
end Go.Proofs.Ygcoac
