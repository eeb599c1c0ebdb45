/-
  law.ExactInts.
-/
import Derived.Test.YgcoacExJn
import Derived.Test.YgcoacExJp
namespace Go.Proofs.Ygcoac
open Go.RowKit
set_option linter.unusedSimpArgs false
set_option linter.unusedVariables false

theorem exactIntsLaw_any (E M : Int) (wE : (Lit.int .u8 E).wf = true) (wM : (Lit.int .u8 M).wf = true) (mode : Int) (wm : (Lit.int .u8 mode).wf = true) (i : Int) (wi : (Lit.int .i64 i).wf = true) (u : Int) (wu : (Lit.int .u64 u).wf = true) (a : Int) (wa : (Lit.int .u64 a).wf = true) (w : World) :
    Calls Oacg.prog 4 #[.agg #[.int .u8 E, .int .u8 M], .int .u8 mode, .int .i64 i, .int .u64 u, .int .u64 a] w fun r w' => r = .returned (.bool true) ∧ Ext w w' := by
  cases hok : okB E M
  · clear wE wM wm wi wu wa
    go_enter Oacg.func4, Oacg.ntmps4
    go_wp2_with (first | (go_at_call 14; refine (ok_any _ _ _).mono ?_; rintro r w' ⟨rfl, rfl⟩))
    go_ret
    exact ⟨rfl, by repeat (first | apply Ext.alloc | exact Ext.refl _)⟩
  · obtain ⟨e, m, rfl, rfl, h⟩ := fm_of hok
    obtain ⟨hu0, hu1⟩ := u64_bd wu
    obtain ⟨ha0, ha1⟩ := u64_bd wa
    obtain ⟨u, rfl⟩ := Int.eq_ofNat_of_zero_le hu0
    obtain ⟨a, rfl⟩ := Int.eq_ofNat_of_zero_le ha0
    have hi' : -9223372036854775808 ≤ i ∧ i ≤ 9223372036854775807 := by
      simp [Lit.wf, IntKind.min, IntKind.max, IntKind.signed, IntKind.bits] at wi; omega
    by_cases hi : i < 0
    · exact exactInts_neg e m h mode i hi'.1 hi'.2 hi u (by omega) a (by omega) w
    · exact exactInts_pos e m h mode i hi'.1 hi'.2 hi u (by omega) a (by omega) w
end Go.Proofs.Ygcoac
