/-
  ieee.TheNaN, Signals; exact.heard, Round.
-/
import Derived.Test.YgcoacGreatExR
import Derived.Test.YgcoacGreatOpen
namespace Go.Proofs.YgcoacGreat
open Go.RowKit
set_option linter.unusedSimpArgs false
set_option linter.unusedVariables false

set_option maxHeartbeats 1000000 in
theorem theNaN_any (e m : Nat) (h : Fm e m) (w : World) :
    Calls Oacg.prog 29 #[.agg #[.int .u8 (e : Int), .int .u8 (m : Int)]] w fun r w' => r = .returned (.int .u64 (nanV e m : Int)) ∧ Ext w w' := by
  have hok := okB_fm h
  have HI := hide (inf_pos e m h)
  have ho := nan_or h
  obtain ⟨h1, h2, h3, h4⟩ := h
  have hm1 : (m : Int) - 1 = ((m - 1 : Nat) : Int) := by omega
  have hmw : min (IntKind.u8.wrap ((m - 1 : Nat) : Int)).toNat 64 = m - 1 := by
    have : IntKind.u8.wrap ((m - 1 : Nat) : Int) = ((m - 1 : Nat) : Int) := by simp [IntKind.wrap, IntKind.bits, IntKind.signed]; omega
    rw [this]; omega
  generalize (nanV e m : Int) = nV at *
  generalize (infP e m : Int) = iP at *
  have ho2 := Box.mk (show Go.bits BinOp.or IntKind.u64 iP (IntKind.u64.wrap (2 ^ min (IntKind.u8.wrap ((m - 1 : Nat) : Int)).toNat 64)) = nV by rw [hmw]; exact ho)
  clear ho hmw
  go_enter Oacg.func29, Oacg.ntmps29
  go_wp2_with (first | (go_at_call 4; refine (ok_any _ _ _).mono ?_; rintro r w' ⟨rfl, rfl⟩))
  go_region_held3 (fun w' => w'.cell? ⟨w.heap.size, 0, none⟩ = some (.int .u8 (e : Int)) ∧ w'.cell? ⟨w.heap.size, 1, none⟩ = some (.int .u8 (m : Int)))
    ((simp [go_sem]; done))
    (first
      | (go_at_call 31; refine (HI.out _).mono ?_; rintro r w' ⟨rfl, c1, c2, c3, rfl⟩))
  all_goals go_wp2_with fail
  all_goals go_ret
  all_goals exact ⟨ret_int ho2.out, by repeat (first | apply Ext.drew | apply Ext.alloc | exact Ext.refl _)⟩
/-! ### law.signedZero, infOf, nanOf -/
theorem sgn_wrap {e m : Nat} (h : Fm e m) : IntKind.u64.wrap (2 ^ (e + m)) = (sgn e m : Int) := by
  have := sgn_bd h
  rw [wu64, two_pow_cast]; unfold sgn at *; omega
abbrev Cells2 (w' : World) (B e m : Nat) : Prop := w'.cell? ⟨B, 0, none⟩ = some (.int .u8 (e : Int)) ∧ w'.cell? ⟨B, 1, none⟩ = some (.int .u8 (m : Int))
theorem Cells2.ext {w w' : World} {B e m : Nat} (h : Cells2 w B e m) (x : Ext w w') : Cells2 w' B e m := ⟨x.cell h.1, x.cell h.2⟩
theorem Cells2.new (w : World) (e m : Nat) (t : TypeId) : Cells2 (w.alloc (.cells #[.int .u8 (e : Int), .int .u8 (m : Int)] t)) w.heap.size e m := by constructor <;> simp [go_sem]
theorem field_class (a : Bool) (b c d : Int) (w : World) : (Instr.field 44 (.agg #[.bool a, .int .i8 b, .int .i16 c, .int .u64 d]) 1).run Oacg.prog w = .ok (.int .i8 b) w := by kernel_rfl
def sigB (e m x : Nat) : Bool := decide (cls e m x = 4) && decide (x / 2 ^ (m - 1) % 2 = 0)
set_option maxRecDepth 20000 in
set_option maxHeartbeats 1000000 in
theorem signals_any (e m : Nat) (h : Fm e m) (x : Nat) (hx : x < 18446744073709551616) (w : World) :
    Calls Oacg.prog 64 #[.agg #[.int .u8 (e : Int), .int .u8 (m : Int)], .int .u64 (x : Int)] w fun r w' => r = .returned (.bool (sigB e m x)) ∧ Ext w w' := by
  have HU := hide (unpack_any e m h x hx)
  unfold parts at HU
  go_enter Oacg.func64, Oacg.ntmps64
  go_wp2_with fail
  refine (HU.out _).mono ?_
  rintro _ w1 ⟨rfl, hx1⟩
  have hc : w1.cell? ⟨w.heap.size, 1, none⟩ = some (.int .u8 (m : Int)) := (hx1.cell (Cells2.new w e m 23).2)
  have HX : Hid (Ext w w1) := ((Ext.refl w).alloc _ _).trans hx1
  obtain ⟨h1, h2, h3, h4⟩ := h
  have hm1 : (m : Int) - 1 = ((m - 1 : Nat) : Int) := by omega
  obtain ⟨y, hy⟩ : ∃ y : Nat, x / 2 ^ (m - 1) = y := ⟨_, rfl⟩
  have hyi : (x : Int) / 2 ^ (m - 1) = (y : Int) := by rw [two_pow_cast, ← Int.natCast_ediv, hy]
  have hyl : y < 18446744073709551616 := by rw [← hy]; exact Nat.lt_of_le_of_lt (Nat.div_le_self _ _) hx
  have hand : Go.bits BinOp.and IntKind.u64 (y : Int) 1 = ((y % 2 : Nat) : Int) := by
    have := u64_and_nat y 1 hyl (by decide)
    rw [show ((1 : Nat) : Int) = (1 : Int) from rfl] at this
    rw [this, Nat.and_one_is_mod]
  have hmb : (m : Int) - 1 ≤ 51 := by omega
  clear hx1 hx hyl HU
  by_cases h4' : cls e m x = 4
  · have t1 : ((cls e m x : Int) == 4) = true := by rw [h4']; rfl
    have hs : sigB e m x = decide (y % 2 = 0) := by unfold sigB; rw [h4', hy]; simp
    have HSS := Box.mk hs
    have HY := Box.mk hy
    clear hs hy h4'
    generalize (cls e m x : Int) = cl at *
    generalize pNeg e m x = pn at *
    generalize pExp e m x = pe at *
    generalize (pMan e m x : Int) = pm at *
    have hfd := field_class pn cl pe pm
    go_wp2_with fail
    go_ret
    refine ⟨ret_bool (a := ((y : Int) % 2 == 0)) ?_, HX.out⟩
    rw [HSS.out, Bool.eq_iff_iff]
    simp only [beq_iff_eq, decide_eq_true_eq]
    omega
  · have t1 : ((cls e m x : Int) == 4) = false := by rw [beq_eq_false_iff_ne]; omega
    have hs : sigB e m x = false := by unfold sigB; simp [h4']
    have HSS := Box.mk hs
    clear hs hy h4'
    generalize (cls e m x : Int) = cl at *
    generalize pNeg e m x = pn at *
    generalize pExp e m x = pe at *
    generalize (pMan e m x : Int) = pm at *
    have hfd := field_class pn cl pe pm
    go_wp2_with fail
    go_ret
    exact ⟨by rw [HSS.out]; rfl, HX.out⟩

/-! ### exact.heard, Round -/
def heardF (e m a b : Nat) : Int := if sigB e m a || sigB e m b then 1 else 0
set_option maxHeartbeats 1000000 in
theorem heard_any (e m : Nat) (h : Fm e m) (a b : Nat) (ha : a < 18446744073709551616) (hb : b < 18446744073709551616) (w : World) :
    Calls Oacg.prog 37 #[.agg #[.int .u8 (e : Int), .int .u8 (m : Int)], .int .u64 (a : Int), .int .u64 (b : Int)] w fun r w' => r = .returned (.int .u8 (heardF e m a b)) ∧ Ext w w' := by
  have HA := hide (signals_any e m h a ha)
  have HB := hide (signals_any e m h b hb)
  have HF : Hid (∀ x y, sigB e m a = x → sigB e m b = y → heardF e m a b = if x || y then 1 else 0) := by
    intro x y hx hy; unfold heardF; rw [hx, hy]
  clear ha hb
  have HC := hide (Cells2.new w e m 23)
  obtain ⟨sa, hsa⟩ : ∃ sa, sigB e m a = sa := ⟨_, rfl⟩
  obtain ⟨sb, hsb⟩ : ∃ sb, sigB e m b = sb := ⟨_, rfl⟩
  have hF := HF.out sa sb hsa hsb
  rw [hsa] at HA
  rw [hsb] at HB
  rw [hF]
  clear HF hF hsa hsb
  go_enter Oacg.func37, Oacg.ntmps37
  go_wp2_with fail
  refine (HA.out _).mono ?_
  rintro _ w1 ⟨rfl, hx1⟩
  have HX1 : Hid (Ext w w1) := ((Ext.refl w).alloc _ _).trans hx1
  obtain ⟨c0, c1⟩ := HC.out.ext hx1
  clear hx1 HC
  cases sa with
  | true =>
    go_wp2_with fail
    go_ret
    exact ⟨rfl, HX1.out⟩
  | false =>
    go_wp2_with fail
    refine (HB.out _).mono ?_
    rintro _ w2 ⟨rfl, hx2⟩
    have HX2 := hide (HX1.out.trans hx2)
    clear hx2
    cases sb with
    | true =>
      go_wp2_with fail
      go_ret
      exact ⟨rfl, HX2.out⟩
    | false =>
      go_wp2_with fail
      go_ret
      exact ⟨rfl, HX2.out⟩
end Go.Proofs.YgcoacGreat
