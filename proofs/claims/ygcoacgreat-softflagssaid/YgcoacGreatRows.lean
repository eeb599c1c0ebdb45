/-
  No cell of these rows narrows 'for every input' (looked for: loops, veiled, ifaces, maps, wideKeys, modest, calm, conditions, laid).
  DERIVED. THE GIVEN ROWS OF THIS SEAT. 1 by the template 'for every input the law returns true; each argument reads behind the call as it read before'; 0 by the template 'total and deterministic' (their statements: YgcoacGreatTotals.lean).
  GIVEN WITH THE SEED: the statements are not yours to turn. If you find one false, say at which input.
  Laid BY PROGRAM, IN A SANDBOX (cutbox-rows.mjs): the forced cells as the released guide's own fill.sh prints them over the translation c902d6903f37801b… (all of the seat's roots in one cut). By AI agents, Wed Nov 11 2026. No macro, syntax, notation, axiom, sorry.
-/
import Derived.Test.YgcoacGreatChecked
import GoSem.Claim
import GoSem.ClaimJoined
import GoSem.ClaimMapViews
import Derived.JoinedTies
import Derived.KernelRfl
namespace Go.Proofs.YgcoacGreat
/- THE CELL 'sum', in the pinned program and in every row, IS THE sha256 OF THE DUMP (.gsa) THAT YgcoacGreatProg.lean LOADS. Nothing in Lean hashes anything: it is a label: what it is worth is what the hold of that sum in a sandbox is worth. -/
noncomputable def Oacg.pinned : Pinned := { name := "ygcoacgreat", sum := "c902d6903f37801ba470b513fe90f19f4c47698a1d6fd78b5091b9e47a72a260", checked := Oacg.checked }
namespace Rows
def none {H : Type} : Left H := { results := [], args := [] }

/-- 'law.SoftFlags': WHATEVER THE INPUT: true; the input reads as it did. -/
def softFlagsSpec : ChangeSpec := { name := "softFlags", fn := fun _ => fun
  | [d1, d2, d3, d4, d5, d6, d7, d8] => { results := [.lit (.bool true)], args := [d1, d2, d3, d4, d5, d6, d7, d8] }
  | _ => none }
def softFlagsRow : OpenClaim := { program := "ygcoacgreat", sum := "c902d6903f37801ba470b513fe90f19f4c47698a1d6fd78b5091b9e47a72a260", func := "softfloat/law.SoftFlags", spec := "softFlags", apart := false }
def SoftFlagsSaid : Prop := softFlagsRow.holds Oacg.pinned (OpenSpec.ofChange softFlagsSpec)

/-- ITS FALSE NEIGHBOUR: 'it returns false'. Refute it at one input. -/
def softFlagsWrong : ChangeSpec := { name := "softFlags", fn := fun _ => fun
  | [d1, d2, d3, d4, d5, d6, d7, d8] => { results := [.lit (.bool false)], args := [d1, d2, d3, d4, d5, d6, d7, d8] }
  | _ => none }
def SoftFlagsWrongFalsely : Prop := softFlagsRow.holds Oacg.pinned (OpenSpec.ofChange softFlagsWrong)

end Rows
end Go.Proofs.YgcoacGreat
