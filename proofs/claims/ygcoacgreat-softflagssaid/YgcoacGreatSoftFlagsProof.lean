/-
  'Rows.SoftFlagsSaid' ('softfloat/law.SoftFlags'): THE ROW's STEP, off the guide's template, over the walk 'softFlagsLaw_any'.
-/
import Derived.Test.YgcoacGreatRows
import Derived.Test.YgcoacGreatSfS
import Derived.WalkKit
import Derived.ProofKit
import Derived.OpenShut
import Derived.ShutString
import Derived.Lib.SmallJoins
import Derived.SizedLaws
namespace Go.Proofs.YgcoacGreat.softFlags
open Go.ChangeShapes Go.WideShapes Go.ChangeAt Go.RowKit Go.Joins
open Go.ChangeMaps (open_string shut_string)
set_option linter.unusedVariables false
set_option linter.unusedSimpArgs false

theorem own : ownKnob Oacg.prog.godebug = none := by kernel_rfl
theorem cellsF : Oacg.prog.cellsOf 23 = 2 := by kernel_rfl

set_option maxRecDepth 100000 in
theorem lifted (os : Os) (started : os.Started) (H : Type) (enc : TypeId × Value → H) :
    ReturnsInHanded {} Oacg.checked os 3 .any (Rows.softFlagsSpec.pre6 enc Oacg.prog Oacg.f3 Rows.softFlagsRow.domain false) (Rows.softFlagsSpec.post enc Oacg.prog Oacg.f3 false true false false) := by
  refine returnsInHanded_of_change (C := Oacg.checked) own started (by kernel_rfl) Oacg.func3
    (ChangeSpec.witness6 (enc := enc) (C := Oacg.checked) false ⟨#[], #[.agg #[.int .u8 0, .int .u8 0], .agg #[.int .u8 0, .int .u8 0], .int .u8 0, .int .u8 0, .int .u64 0, .int .u64 0, .int .i64 0, .int .u64 0], []⟩ 8 (by kernel_rfl) (by kernel_rfl) (by kernel_rfl) (by kernel_rfl)) ?_
  intro W base args ds gs before hval0 hW hcnd hsz
  have hval : ∀ (j : Nat) t v, Oacg.f3.params[j]? = some t → args[j]? = some v → Value.okWide Oacg.prog W .any base t v := hval0
  have hW' := hW
  obtain ⟨p, q, hA0, hV, rfl, hfz, hnd⟩ := hW
  have hA : DataW.TrodAll enc Oacg.prog W 0 (fun _ => true) true Oacg.f3.params.toList args.toList ds p := hA0
  rw [Oacg.params3] at hA hval
  obtain ⟨v0, vs0, d0, ds0, p0, q0, hargs, rfl, rfl, h0, r0⟩ := trodAll_cons hA
  obtain ⟨v1, vs1, d1, ds1, p1, q1, rfl, rfl, rfl, h1, r1⟩ := trodAll_cons r0
  obtain ⟨v2, vs2, d2, ds2, p2, q2, rfl, rfl, rfl, h2, r2⟩ := trodAll_cons r1
  obtain ⟨v3, vs3, d3, ds3, p3, q3, rfl, rfl, rfl, h3, r3⟩ := trodAll_cons r2
  obtain ⟨v4, vs4, d4, ds4, p4, q4, rfl, rfl, rfl, h4, r4⟩ := trodAll_cons r3
  obtain ⟨v5, vs5, d5, ds5, p5, q5, rfl, rfl, rfl, h5, r5⟩ := trodAll_cons r4
  obtain ⟨v6, vs6, d6, ds6, p6, q6, rfl, rfl, rfl, h6, r6⟩ := trodAll_cons r5
  obtain ⟨v7, vs7, d7, ds7, p7, q7, rfl, rfl, rfl, h7, r7⟩ := trodAll_cons r6
  obtain ⟨rfl, rfl, rfl⟩ := trodAll_nil r7
  obtain rfl : args = #[v0, v1, v2, v3, v4, v5, v6, v7] := by cases args; simp_all
  obtain ⟨rfl, rfl⟩ := trodVars_none hV
  obtain ⟨ca0, cb0, y0, z0, m0, rfl, rfl, rfl, hy0, hz0⟩ := open_agg2 Oacg.underlying23 (by kernel_rfl) cellsF (hval 0 23 v0 rfl rfl) h0
  obtain ⟨e0, ee0, rfl, we0⟩ := DataW.trod_int Oacg.underlying5 hy0
  obtain ⟨f0, ef0, rfl, wf0⟩ := DataW.trod_int Oacg.underlying5 hz0
  simp at ee0 ef0
  subst ee0 ef0
  obtain ⟨ca1, cb1, y1, z1, m1, rfl, rfl, rfl, hy1, hz1⟩ := open_agg2 Oacg.underlying23 (by kernel_rfl) cellsF (hval 1 23 v1 rfl rfl) h1
  obtain ⟨e1, ee1, rfl, we1⟩ := DataW.trod_int Oacg.underlying5 hy1
  obtain ⟨f1, ef1, rfl, wf1⟩ := DataW.trod_int Oacg.underlying5 hz1
  simp at ee1 ef1
  subst ee1 ef1
  obtain ⟨a2, rfl, rfl, rfl, w2⟩ := open_int Oacg.underlying24 (hval 2 24 v2 rfl rfl) h2
  obtain ⟨a3, rfl, rfl, rfl, w3⟩ := open_int Oacg.underlying5 (hval 3 5 v3 rfl rfl) h3
  obtain ⟨a4, rfl, rfl, rfl, w4⟩ := open_int Oacg.underlying25 (hval 4 25 v4 rfl rfl) h4
  obtain ⟨a5, rfl, rfl, rfl, w5⟩ := open_int Oacg.underlying25 (hval 5 25 v5 rfl rfl) h5
  obtain ⟨a6, rfl, rfl, rfl, w6⟩ := open_int Oacg.underlying2 (hval 6 2 v6 rfl rfl) h6
  obtain ⟨a7, rfl, rfl, rfl, w7⟩ := open_int Oacg.underlying25 (hval 7 25 v7 rfl rfl) h7
  clear hA0 hval0
  simp only [List.append_nil, List.nil_append] at hW'
  have sr0 : ∀ (W' : World) (sp : Nat → Bool), DataW.Trod enc Oacg.prog W' 0 sp true 23 (.agg #[.int .u8 e0, .int .u8 f0]) (.agg [.lit (.int .u8 e0), .lit (.int .u8 f0)]) [] := fun W' sp =>
    shut_agg2 (y0 := (.lit (.int .u8 e0), [])) (y1 := (.lit (.int .u8 f0), [])) Oacg.underlying23 (by kernel_rfl) cellsF ⟨1, by simp [DataW.trod, Oacg.underlying5, we0]⟩ ⟨1, by simp [DataW.trod, Oacg.underlying5, wf0]⟩
  have sr1 : ∀ (W' : World) (sp : Nat → Bool), DataW.Trod enc Oacg.prog W' 0 sp true 23 (.agg #[.int .u8 e1, .int .u8 f1]) (.agg [.lit (.int .u8 e1), .lit (.int .u8 f1)]) [] := fun W' sp =>
    shut_agg2 (y0 := (.lit (.int .u8 e1), [])) (y1 := (.lit (.int .u8 f1), [])) Oacg.underlying23 (by kernel_rfl) cellsF ⟨1, by simp [DataW.trod, Oacg.underlying5, we1]⟩ ⟨1, by simp [DataW.trod, Oacg.underlying5, wf1]⟩
  refine (softFlagsLaw_any e0 f0 we0 wf0 e1 f1 we1 wf1 a2 w2 a3 w3 a4 w4 a5 w5 a6 w6 a7 w7 W).mono fun e W' ⟨he, hx⟩ => ?_
  have hg := hx.grown
  subst he
  exact ⟨_, rfl, post_of_same (pa := []) (pv := []) hW' (fun _ _ _ => (trodAll_cons_mk (shut_bool Oacg.underlying4 _) trodAll_mk0)) (fun sp _ => (trodAll_cons_mk (sr0 _ sp) (trodAll_cons_mk (sr1 _ sp) (trodAll_cons_mk (shut_int Oacg.underlying24 w2) (trodAll_cons_mk (shut_int Oacg.underlying5 w3) (trodAll_cons_mk (shut_int Oacg.underlying25 w4) (trodAll_cons_mk (shut_int Oacg.underlying25 w5) (trodAll_cons_mk (shut_int Oacg.underlying2 w6) (trodAll_cons_mk (shut_int Oacg.underlying25 w7) trodAll_mk0))))))))) (fun _ _ => rfl) rfl
    (hg.frame _) hg.2.1 (ok_one (by kernel_rfl) rfl (okWide_bool_mk Oacg.underlying4 _))⟩

theorem over : Rows.softFlagsRow.holds Oacg.pinned (OpenSpec.ofChange Rows.softFlagsSpec) :=
  OpenClaim.holds_of_wide 3 Oacg.f3 rfl rfl rfl rfl rfl rfl rfl ⟨rfl, rfl, rfl, rfl, rfl⟩ rfl rfl rfl rfl rfl (by kernel_rfl) Oacg.func3 (by kernel_rfl)
    (of_decide_eq_true (by kernel_rfl)) (by unfold Func.isWrapper; first | (rw [if_pos (by decide +kernel)]; kernel_rfl) | (rw [if_neg (by decide +kernel)]; exact ⟨rfl, rfl⟩))
    (fun os started H enc _ => lifted os started H enc)
end Go.Proofs.YgcoacGreat.softFlags
namespace Go.Proofs.YgcoacGreat
/-- THE STATEMENT. -/
theorem softFlagsProved : Rows.SoftFlagsSaid := softFlags.over
end Go.Proofs.YgcoacGreat
