/-
  'Rows.HexMakeSaid' ('softfloat/law.HexMake'): THE ROW's STEP, off the guide's template, over the walk 'hexMakeLaw_any'.
-/
import Derived.Test.YgcoacRows
import Derived.Test.YgcoacHexL
import Derived.WalkKit
import Derived.ProofKit
import Derived.OpenShut
import Derived.ShutString
import Derived.Lib.SmallJoins
import Derived.SizedLaws
namespace Go.Proofs.Ygcoac.hexMake
open Go.ChangeShapes Go.WideShapes Go.ChangeAt Go.RowKit Go.Joins
open Go.ChangeMaps (open_string shut_string)
set_option linter.unusedVariables false
set_option linter.unusedSimpArgs false

theorem own : ownKnob Oacg.prog.godebug = none := by kernel_rfl

set_option maxRecDepth 100000 in
theorem lifted (os : Os) (started : os.Started) (H : Type) (enc : TypeId × Value → H) :
    ReturnsInHanded {} Oacg.checked os 13 .any (Rows.hexMakeSpec.pre6 enc Oacg.prog Oacg.f13 Rows.hexMakeRow.domain false) (Rows.hexMakeSpec.post enc Oacg.prog Oacg.f13 false true false false) := by
  refine returnsInHanded_of_change_sized (C := Oacg.checked) own started (by kernel_rfl) Oacg.func13
    (ChangeSpec.witness6 (enc := enc) (C := Oacg.checked) false ⟨#[], #[.bool false, .string ByteArray.empty, .int .i64 0], []⟩ 8 (by kernel_rfl) (by kernel_rfl) (by kernel_rfl) (by kernel_rfl)) ?_
  intro W base args ds gs before hval0 hW hcnd hsz _
  have hval : ∀ (j : Nat) t v, Oacg.f13.params[j]? = some t → args[j]? = some v → Value.okWide Oacg.prog W .any base t v := hval0
  have hW' := hW
  obtain ⟨p, q, hA0, hV, rfl, hfz, hnd⟩ := hW
  have hA : DataW.TrodAll enc Oacg.prog W 0 (fun _ => true) true Oacg.f13.params.toList args.toList ds p := hA0
  rw [Oacg.params13] at hA hval
  obtain ⟨v0, vs0, d0, ds0, p0, q0, hargs, rfl, rfl, h0, r0⟩ := trodAll_cons hA
  obtain ⟨v1, vs1, d1, ds1, p1, q1, rfl, rfl, rfl, h1, r1⟩ := trodAll_cons r0
  obtain ⟨v2, vs2, d2, ds2, p2, q2, rfl, rfl, rfl, h2, r2⟩ := trodAll_cons r1
  obtain ⟨rfl, rfl, rfl⟩ := trodAll_nil r2
  obtain rfl : args = #[v0, v1, v2] := by cases args; simp_all
  obtain ⟨rfl, rfl⟩ := trodVars_none hV
  obtain ⟨a0, rfl, rfl, rfl⟩ := open_bool Oacg.underlying4 (hval 0 4 v0 rfl rfl) h0
  obtain ⟨a1, rfl, rfl, rfl, w1⟩ := open_string Oacg.underlying9 (hval 1 9 v1 rfl rfl) h1
  obtain ⟨a2, rfl, rfl, rfl, w2⟩ := open_int Oacg.underlying3 (hval 2 3 v2 rfl rfl) h2
  have s1 : (a1.size : Int) ≤ 140737488355328 := by
    have h1 := sized_string hsz (j := 1) (t := 9) rfl rfl
    have h2 : a1.data.toList.length = a1.size := Array.length_toList
    unfold reachBytes at h1
    omega
  clear hA0 hval0
  simp only [List.append_nil, List.nil_append] at hW'
  refine (hexMakeLaw_any a0 a1 s1 a2 w2 W).mono fun e W' ⟨he, hx⟩ => ?_
  have hg := hx.grown
  subst he
  exact ⟨_, rfl, post_of_same (pa := []) (pv := []) hW' (fun _ _ _ => (trodAll_cons_mk (shut_bool Oacg.underlying4 _) trodAll_mk0)) (fun sp _ => (trodAll_cons_mk (shut_bool Oacg.underlying4 _) (trodAll_cons_mk (shut_string Oacg.underlying9 w1) (trodAll_cons_mk (shut_int Oacg.underlying3 w2) trodAll_mk0)))) (fun _ _ => rfl) rfl
    (hg.frame _) hg.2.1 (ok_one (by kernel_rfl) rfl (okWide_bool_mk Oacg.underlying4 _))⟩

theorem over : Rows.hexMakeRow.holds Oacg.pinned (OpenSpec.ofChange Rows.hexMakeSpec) :=
  OpenClaim.holds_of_wide 13 Oacg.f13 rfl rfl rfl rfl rfl rfl rfl ⟨rfl, rfl, rfl, rfl, rfl⟩ rfl rfl rfl rfl rfl (by kernel_rfl) Oacg.func13 (by kernel_rfl)
    (of_decide_eq_true (by kernel_rfl)) (by unfold Func.isWrapper; first | (rw [if_pos (by decide +kernel)]; kernel_rfl) | (rw [if_neg (by decide +kernel)]; exact ⟨rfl, rfl⟩))
    (fun os started H enc _ => lifted os started H enc)
end Go.Proofs.Ygcoac.hexMake
namespace Go.Proofs.Ygcoac
/-- THE STATEMENT. -/
theorem hexMakeProved : Rows.HexMakeSaid := hexMake.over
end Go.Proofs.Ygcoac
