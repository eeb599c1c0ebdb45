/-
  'Rows.ExactFlagsSqrtSaid' ('softfloat/law.ExactFlagsSqrt'): THE ROW's STEP, off the guide's template, over the walk 'exactFlagsSqrtLaw_any'.
-/
import Derived.Test.YgcoacRows
import Derived.Test.YgcoacSqW
import Derived.WalkKit
import Derived.ProofKit
import Derived.OpenShut
import Derived.ShutString
import Derived.Lib.SmallJoins
import Derived.SizedLaws
namespace Go.Proofs.Ygcoac.exactFlagsSqrt
open Go.ChangeShapes Go.WideShapes Go.ChangeAt Go.RowKit Go.Joins
open Go.ChangeMaps (open_string shut_string)
set_option linter.unusedVariables false
set_option linter.unusedSimpArgs false

theorem own : ownKnob Oacg.prog.godebug = none := by kernel_rfl
theorem cellsF : Oacg.prog.cellsOf 23 = 2 := by kernel_rfl

set_option maxRecDepth 100000 in
theorem lifted (os : Os) (started : os.Started) (H : Type) (enc : TypeId × Value → H) :
    ReturnsInHanded {} Oacg.checked os 8 .any (Rows.exactFlagsSqrtSpec.pre6 enc Oacg.prog Oacg.f8 Rows.exactFlagsSqrtRow.domain false) (Rows.exactFlagsSqrtSpec.post enc Oacg.prog Oacg.f8 false true false false) := by
  refine returnsInHanded_of_change (C := Oacg.checked) own started (by kernel_rfl) Oacg.func8
    (ChangeSpec.witness6 (enc := enc) (C := Oacg.checked) false ⟨#[], #[.agg #[.int .u8 0, .int .u8 0], .int .u8 0, .int .u64 0], []⟩ 8 (by kernel_rfl) (by kernel_rfl) (by kernel_rfl) (by kernel_rfl)) ?_
  intro W base args ds gs before hval0 hW hcnd hsz
  have hval : ∀ (j : Nat) t v, Oacg.f8.params[j]? = some t → args[j]? = some v → Value.okWide Oacg.prog W .any base t v := hval0
  have hW' := hW
  obtain ⟨p, q, hA0, hV, rfl, hfz, hnd⟩ := hW
  have hA : DataW.TrodAll enc Oacg.prog W 0 (fun _ => true) true Oacg.f8.params.toList args.toList ds p := hA0
  rw [Oacg.params8] at hA hval
  obtain ⟨v0, vs0, d0, ds0, p0, q0, hargs, rfl, rfl, h0, r0⟩ := trodAll_cons hA
  obtain ⟨v1, vs1, d1, ds1, p1, q1, rfl, rfl, rfl, h1, r1⟩ := trodAll_cons r0
  obtain ⟨v2, vs2, d2, ds2, p2, q2, rfl, rfl, rfl, h2, r2⟩ := trodAll_cons r1
  obtain ⟨rfl, rfl, rfl⟩ := trodAll_nil r2
  obtain rfl : args = #[v0, v1, v2] := by cases args; simp_all
  obtain ⟨rfl, rfl⟩ := trodVars_none hV
  obtain ⟨ca0, cb0, y0, z0, m0, rfl, rfl, rfl, hy0, hz0⟩ := open_agg2 Oacg.underlying23 (by kernel_rfl) cellsF (hval 0 23 v0 rfl rfl) h0
  obtain ⟨e0, ee0, rfl, we0⟩ := DataW.trod_int Oacg.underlying5 hy0
  obtain ⟨f0, ef0, rfl, wf0⟩ := DataW.trod_int Oacg.underlying5 hz0
  simp at ee0 ef0
  subst ee0 ef0
  obtain ⟨a1, rfl, rfl, rfl, w1⟩ := open_int Oacg.underlying24 (hval 1 24 v1 rfl rfl) h1
  obtain ⟨a2, rfl, rfl, rfl, w2⟩ := open_int Oacg.underlying25 (hval 2 25 v2 rfl rfl) h2
  clear hA0 hval0
  simp only [List.append_nil, List.nil_append] at hW'
  have sr0 : ∀ (W' : World) (sp : Nat → Bool), DataW.Trod enc Oacg.prog W' 0 sp true 23 (.agg #[.int .u8 e0, .int .u8 f0]) (.agg [.lit (.int .u8 e0), .lit (.int .u8 f0)]) [] := fun W' sp =>
    shut_agg2 (y0 := (.lit (.int .u8 e0), [])) (y1 := (.lit (.int .u8 f0), [])) Oacg.underlying23 (by kernel_rfl) cellsF ⟨1, by simp [DataW.trod, Oacg.underlying5, we0]⟩ ⟨1, by simp [DataW.trod, Oacg.underlying5, wf0]⟩
  refine (exactFlagsSqrtLaw_any e0 f0 we0 wf0 a1 w1 a2 w2 W).mono fun e W' ⟨he, hx⟩ => ?_
  have hg := hx.grown
  subst he
  exact ⟨_, rfl, post_of_same (pa := []) (pv := []) hW' (fun _ _ _ => (trodAll_cons_mk (shut_bool Oacg.underlying4 _) trodAll_mk0)) (fun sp _ => (trodAll_cons_mk (sr0 _ sp) (trodAll_cons_mk (shut_int Oacg.underlying24 w1) (trodAll_cons_mk (shut_int Oacg.underlying25 w2) trodAll_mk0)))) (fun _ _ => rfl) rfl
    (hg.frame _) hg.2.1 (ok_one (by kernel_rfl) rfl (okWide_bool_mk Oacg.underlying4 _))⟩

theorem over : Rows.exactFlagsSqrtRow.holds Oacg.pinned (OpenSpec.ofChange Rows.exactFlagsSqrtSpec) :=
  OpenClaim.holds_of_wide 8 Oacg.f8 rfl rfl rfl rfl rfl rfl rfl ⟨rfl, rfl, rfl, rfl, rfl⟩ rfl rfl rfl rfl rfl (by kernel_rfl) Oacg.func8 (by kernel_rfl)
    (of_decide_eq_true (by kernel_rfl)) (by unfold Func.isWrapper; first | (rw [if_pos (by decide +kernel)]; kernel_rfl) | (rw [if_neg (by decide +kernel)]; exact ⟨rfl, rfl⟩))
    (fun os started H enc _ => lifted os started H enc)
end Go.Proofs.Ygcoac.exactFlagsSqrt
namespace Go.Proofs.Ygcoac
/-- THE STATEMENT. -/
theorem exactFlagsSqrtProved : Rows.ExactFlagsSqrtSaid := exactFlagsSqrt.over
end Go.Proofs.Ygcoac
