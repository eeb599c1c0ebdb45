/-
  law.ExactFlags.
-/
import Derived.Test.YgcoacFlX0
import Derived.Test.YgcoacFlX1
import Derived.Test.YgcoacFlX2
import Derived.Test.YgcoacFlX3
namespace Go.Proofs.Ygcoac
open Go.RowKit
set_option linter.unusedSimpArgs false
set_option linter.unusedVariables false

theorem and3 {op : Int} (h : (Lit.int .u8 op).wf = true) : Go.bits BinOp.and IntKind.u8 op 3 = 0 ∨ Go.bits BinOp.and IntKind.u8 op 3 = 1 ∨ Go.bits BinOp.and IntKind.u8 op 3 = 2 ∨ Go.bits BinOp.and IntKind.u8 op 3 = 3 := by
  have hb : 0 ≤ op ∧ op < 256 := by
    simp [Lit.wf, IntKind.min, IntKind.max, IntKind.signed, IntKind.bits] at h; omega
  obtain ⟨n, rfl⟩ := Int.eq_ofNat_of_zero_le hb.1
  have hn : n < 256 := by omega
  clear h hb
  have key : ∀ i : Fin 256, (Go.bits BinOp.and IntKind.u8 ((i.val : Nat) : Int) 3 == 0 || Go.bits BinOp.and IntKind.u8 ((i.val : Nat) : Int) 3 == 1 || Go.bits BinOp.and IntKind.u8 ((i.val : Nat) : Int) 3 == 2 || Go.bits BinOp.and IntKind.u8 ((i.val : Nat) : Int) 3 == 3) = true := by decide +kernel
  have := key ⟨n, hn⟩
  simp only [Bool.or_eq_true, beq_iff_eq] at this
  omega
set_option maxRecDepth 100000 in
theorem exactFlagsLaw_any (E M : Int) (wE : (Lit.int .u8 E).wf = true) (wM : (Lit.int .u8 M).wf = true) (mode : Int) (wm : (Lit.int .u8 mode).wf = true) (op : Int) (wo : (Lit.int .u8 op).wf = true) (a : Int) (wa : (Lit.int .u64 a).wf = true) (b : Int) (wb : (Lit.int .u64 b).wf = true) (w : World) :
    Calls Oacg.prog 7 #[.agg #[.int .u8 E, .int .u8 M], .int .u8 mode, .int .u8 op, .int .u64 a, .int .u64 b] w fun r w' => r = .returned (.bool true) ∧ Ext w w' := by
  cases hok : okB E M
  · clear wE wM wm wa wb wo
    go_enter Oacg.func7, Oacg.ntmps7
    go_wp2_with (first | (go_at_call 14; refine (ok_any _ _ _).mono ?_; rintro r w' ⟨rfl, rfl⟩))
    go_ret
    exact ⟨rfl, by repeat (first | apply Ext.alloc | exact Ext.refl _)⟩
  · obtain ⟨e, m, rfl, rfl, h⟩ := fm_of hok
    obtain ⟨hx0, hx1⟩ := u64_bd wa
    obtain ⟨a, rfl⟩ := Int.eq_ofNat_of_zero_le hx0
    obtain ⟨hy0, hy1⟩ := u64_bd wb
    obtain ⟨b, rfl⟩ := Int.eq_ofNat_of_zero_le hy0
    rcases and3 wo with h0 | h0 | h0 | h0
    · exact exactFlags_0 e m h mode op h0 a b (by omega) (by omega) w
    · exact exactFlags_1 e m h mode op h0 a b (by omega) (by omega) w
    · exact exactFlags_2 e m h mode op h0 a b (by omega) (by omega) w
    · exact exactFlags_3 e m h mode op h0 a b (by omega) (by omega) w
end Go.Proofs.Ygcoac
