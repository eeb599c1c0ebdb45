/-
  'Rows.FormatsSaid' ('softfloat/law.Formats'): THE ROW's STEP, off the guide's template, over the walk of YgcoacFormatsWalk.
-/
import Derived.Test.YgcoacRows
import Derived.Test.YgcoacFormatsWalk
import Derived.WalkKit
import Derived.ProofKit

namespace Go.Proofs.Ygcoac.formats
open Go.ChangeShapes Go.WideShapes Go.ChangeAt Go.RowKit

theorem own : ownKnob Oacg.prog.godebug = none := by kernel_rfl

/-! ### THE ROW's STEP: WRITTEN OUT: LEAVE IT -/
set_option maxRecDepth 100000 in
theorem lifted (os : Os) (started : os.Started) (H : Type) (enc : TypeId × Value → H) :
    ReturnsInHanded {} Oacg.checked os 11 .any (Rows.formatsSpec.pre6 enc Oacg.prog Oacg.f11 Rows.formatsRow.domain false) (Rows.formatsSpec.post enc Oacg.prog Oacg.f11 false true false false) := by
  refine returnsInHanded_of_change (C := Oacg.checked) own started (by kernel_rfl) Oacg.func11
    (ChangeSpec.witness6 (enc := enc) (C := Oacg.checked) false ⟨#[], #[], []⟩ 8 (by kernel_rfl) (by kernel_rfl) (by kernel_rfl) (by kernel_rfl)) ?_
  intro W base args ds gs before hval0 hW hcnd _
  have hval : ∀ (j : Nat) t v, Oacg.f11.params[j]? = some t → args[j]? = some v → Value.okWide Oacg.prog W .any base t v := hval0
  have hW' := hW
  obtain ⟨p, q, hA0, hV, rfl, hfz, hnd⟩ := hW
  have hA : DataW.TrodAll enc Oacg.prog W 0 (fun _ => true) true Oacg.f11.params.toList args.toList ds p := hA0
  rw [Oacg.params11] at hA hval
  obtain ⟨rfl, rfl, rfl⟩ := trodAll_none hA
  obtain ⟨rfl, rfl⟩ := trodVars_none hV
  clear hA0 hval0
  simp only [List.append_nil] at hW'
  refine (formats_any W).mono fun e W' ⟨he, hg⟩ => ?_
  subst he
  exact ⟨_, rfl, post_of_same (pa := []) (pv := []) hW' (fun _ _ _ => trodAll_mk1 (shut_bool Oacg.underlying4 _)) (fun sp _ => rfl) (fun _ _ => rfl) rfl
    (hg.frame _) hg.2.1 (ok_one (by kernel_rfl) rfl (okWide_bool_mk Oacg.underlying4 _))⟩

theorem over : Rows.formatsRow.holds Oacg.pinned (OpenSpec.ofChange Rows.formatsSpec) :=
  OpenClaim.holds_of_wide 11 Oacg.f11 rfl rfl rfl rfl rfl rfl rfl ⟨rfl, rfl, rfl, rfl, rfl⟩ rfl rfl rfl rfl rfl (by kernel_rfl) Oacg.func11 (by kernel_rfl)
    (of_decide_eq_true (by kernel_rfl)) (by unfold Func.isWrapper; first | (rw [if_pos (by decide +kernel)]; kernel_rfl) | (rw [if_neg (by decide +kernel)]; exact ⟨rfl, rfl⟩))
    (fun os started H enc _ => lifted os started H enc)

end Go.Proofs.Ygcoac.formats
namespace Go.Proofs.Ygcoac
/-- THE STATEMENT. -/
theorem formatsProved : Rows.FormatsSaid := formats.over
end Go.Proofs.Ygcoac
