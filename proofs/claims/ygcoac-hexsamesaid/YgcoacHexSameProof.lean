/-
  'Rows.HexSameSaid' ('softfloat/law.HexSame'): THE ROW's STEP, off the guide's template, over the walk 'hexSameLaw_any'.
-/
import Derived.Test.YgcoacRows
import Derived.Test.YgcoacHexZ
import Derived.WalkKit
import Derived.ProofKit
import Derived.OpenShut
import Derived.ShutString
import Derived.Lib.SmallJoins
import Derived.SizedLaws
namespace Go.Proofs.Ygcoac.hexSame
open Go.ChangeShapes Go.WideShapes Go.ChangeAt Go.RowKit Go.Joins
open Go.ChangeMaps (open_string shut_string)
set_option linter.unusedVariables false
set_option linter.unusedSimpArgs false

theorem own : ownKnob Oacg.prog.godebug = none := by kernel_rfl

/-- The row's end where the arguments hold no memory: what lies below stands; nothing is asked of the new blocks. -/
theorem post_nil {H : Type} {enc : TypeId × Value → H} {P : Program} {f : Func} {s : ChangeSpec} {apart fresh handsOn again : Bool} {W W' : World} {args : Array Value} {v : Value} {ds gs : List (DataW H)}
    (hW : DataW.Whole enc P f.params.toList s.vars apart W args.toList ds gs [])
    (hres : ∀ (b : Nat) (sp : Nat → Bool) (hd : Bool), DataW.TrodAll enc P W' b sp hd f.resultTypes.toList (v.resultList f.resultTypes.size) (s.fn H (ds ++ gs)).results [])
    (hargs : ∀ sp : Nat → Bool, DataW.TrodAll enc P W' 0 sp true f.params.toList args.toList (s.fn H (ds ++ gs)).args [])
    (hvars : ∀ sp : Nat → Bool, DataW.TrodVars enc P W' sp s.vars (s.fn H (ds ++ gs)).vars [])
    (hk : W.keptBut W' (· ∈ ([] : List MemPlace)))
    (hok : ∀ (j : Nat) (t : TypeId) (r : Value), f.resultTypes[j]? = some t → (v.resultList f.resultTypes.size)[j]? = some r → Value.okWide P W' .any 0 t r) :
    s.post enc P f apart fresh handsOn again W args v W' := by
  refine ⟨ds, gs, [], [], [], [], hW, hres _ _ _, hargs _, hvars _, World.keptBut_mono (fun p hp => by simp at hp) hk, fun _ => ?_⟩
  refine ⟨hok, _, _, ([] ++ []) ++ [], ⟨[] ++ [], [], trodAll_append (hargs _) (hres _ _ _), hvars _, rfl, ?_, ?_⟩, ?_⟩
  · intro b off hp; simp at hp
  · intro ha; simp
  · intro p hp; simp at hp

set_option maxRecDepth 100000 in
theorem lifted (os : Os) (started : os.Started) (H : Type) (enc : TypeId × Value → H) :
    ReturnsInHanded {} Oacg.checked os 12 .any (Rows.hexSameSpec.pre6 enc Oacg.prog Oacg.f12 Rows.hexSameRow.domain false) (Rows.hexSameSpec.post enc Oacg.prog Oacg.f12 false true false false) := by
  refine returnsInHanded_of_change_sized (C := Oacg.checked) own started (by kernel_rfl) Oacg.func12
    (ChangeSpec.witness6 (enc := enc) (C := Oacg.checked) false ⟨#[], #[.string ByteArray.empty], []⟩ 8 (by kernel_rfl) (by kernel_rfl) (by kernel_rfl) (by kernel_rfl)) ?_
  intro W base args ds gs before hval0 hW hcnd hsz _
  have hval : ∀ (j : Nat) t v, Oacg.f12.params[j]? = some t → args[j]? = some v → Value.okWide Oacg.prog W .any base t v := hval0
  have hW' := hW
  obtain ⟨p, q, hA0, hV, rfl, hfz, hnd⟩ := hW
  have hA : DataW.TrodAll enc Oacg.prog W 0 (fun _ => true) true Oacg.f12.params.toList args.toList ds p := hA0
  rw [Oacg.params12] at hA hval
  obtain ⟨v0, vs0, d0, ds0, p0, q0, hargs, rfl, rfl, h0, r0⟩ := trodAll_cons hA
  obtain ⟨rfl, rfl, rfl⟩ := trodAll_nil r0
  obtain rfl : args = #[v0] := by cases args; simp_all
  obtain ⟨rfl, rfl⟩ := trodVars_none hV
  obtain ⟨a0, rfl, rfl, rfl, w0⟩ := open_string Oacg.underlying9 (hval 0 9 v0 rfl rfl) h0
  have s0 : (a0.size : Int) ≤ 140737488355328 := by
    have h1 := sized_string hsz (j := 0) (t := 9) rfl rfl
    have h2 : a0.data.toList.length = a0.size := Array.length_toList
    unfold reachBytes at h1
    omega
  clear hA0 hval0
  simp only [List.append_nil, List.nil_append] at hW'
  refine (hexSameLaw_any a0 s0 W).mono fun e W' ⟨he, hx⟩ => ?_
  subst he
  exact ⟨_, rfl, post_nil hW' (fun _ _ _ => (trodAll_cons_mk (shut_bool Oacg.underlying4 _) trodAll_mk0)) (fun sp => (trodAll_cons_mk (shut_string Oacg.underlying9 w0) trodAll_mk0)) (fun _ => rfl)
    (hx.frame _) (ok_one (by kernel_rfl) rfl (okWide_bool_mk Oacg.underlying4 _))⟩

theorem over : Rows.hexSameRow.holds Oacg.pinned (OpenSpec.ofChange Rows.hexSameSpec) :=
  OpenClaim.holds_of_wide 12 Oacg.f12 rfl rfl rfl rfl rfl rfl rfl ⟨rfl, rfl, rfl, rfl, rfl⟩ rfl rfl rfl rfl rfl (by kernel_rfl) Oacg.func12 (by kernel_rfl)
    (of_decide_eq_true (by kernel_rfl)) (by unfold Func.isWrapper; first | (rw [if_pos (by decide +kernel)]; kernel_rfl) | (rw [if_neg (by decide +kernel)]; exact ⟨rfl, rfl⟩))
    (fun os started H enc _ => lifted os started H enc)
end Go.Proofs.Ygcoac.hexSame
namespace Go.Proofs.Ygcoac
/-- THE STATEMENT. -/
theorem hexSameProved : Rows.HexSameSaid := hexSame.over
end Go.Proofs.Ygcoac
