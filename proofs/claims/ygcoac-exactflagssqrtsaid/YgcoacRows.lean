/-
  No cell of these rows narrows 'for every input' (looked for: loops, veiled, ifaces, maps, wideKeys, modest, calm, conditions, laid).
  DERIVED. THE GIVEN ROWS OF THIS SEAT. 11 by the template 'for every input the law returns true; each argument reads behind the call as it read before'; 0 by the template 'total and deterministic' (their statements: YgcoacTotals.lean).
  GIVEN WITH THE SEED: the statements are not yours to turn. If you find one false, say at which input.
  Laid BY PROGRAM, IN A SANDBOX (cutbox-rows.mjs): the forced cells as the released guide's own fill.sh prints them over the translation 5c5ffc5f0be98a92… (all of the seat's roots in one cut). By AI agents, Wed Nov 11 2026. No macro, syntax, notation, axiom, sorry.
-/
import Derived.Test.YgcoacChecked
import GoSem.Claim
import GoSem.ClaimJoined
import GoSem.ClaimMapViews
import Derived.JoinedTies
import Derived.KernelRfl
namespace Go.Proofs.Ygcoac
/- THE CELL 'sum', in the pinned program and in every row, IS THE sha256 OF THE DUMP (.gsa) THAT YgcoacProg.lean LOADS. Nothing in Lean hashes anything: it is a label: what it is worth is what the hold of that sum in a sandbox is worth. -/
noncomputable def Oacg.pinned : Pinned := { name := "ygcoac", sum := "5c5ffc5f0be98a92aaac2c2a7c816b7f3c6fbd6bdfce81677a2d11c797892612", checked := Oacg.checked }
namespace Rows
def none {H : Type} : Left H := { results := [], args := [] }

/-- 'law.ExactConvert': WHATEVER THE INPUT: true; the input reads as it did. -/
def exactConvertSpec : ChangeSpec := { name := "exactConvert", fn := fun _ => fun
  | [d1, d2, d3, d4] => { results := [.lit (.bool true)], args := [d1, d2, d3, d4] }
  | _ => none }
def exactConvertRow : OpenClaim := { program := "ygcoac", sum := "5c5ffc5f0be98a92aaac2c2a7c816b7f3c6fbd6bdfce81677a2d11c797892612", func := "softfloat/law.ExactConvert", spec := "exactConvert", apart := false }
def ExactConvertSaid : Prop := exactConvertRow.holds Oacg.pinned (OpenSpec.ofChange exactConvertSpec)

/-- ITS FALSE NEIGHBOUR: 'it returns false'. Refute it at one input. -/
def exactConvertWrong : ChangeSpec := { name := "exactConvert", fn := fun _ => fun
  | [d1, d2, d3, d4] => { results := [.lit (.bool false)], args := [d1, d2, d3, d4] }
  | _ => none }
def ExactConvertWrongFalsely : Prop := exactConvertRow.holds Oacg.pinned (OpenSpec.ofChange exactConvertWrong)

/-- 'law.ExactInts': WHATEVER THE INPUT: true; the input reads as it did. -/
def exactIntsSpec : ChangeSpec := { name := "exactInts", fn := fun _ => fun
  | [d1, d2, d3, d4, d5] => { results := [.lit (.bool true)], args := [d1, d2, d3, d4, d5] }
  | _ => none }
def exactIntsRow : OpenClaim := { program := "ygcoac", sum := "5c5ffc5f0be98a92aaac2c2a7c816b7f3c6fbd6bdfce81677a2d11c797892612", func := "softfloat/law.ExactInts", spec := "exactInts", apart := false }
def ExactIntsSaid : Prop := exactIntsRow.holds Oacg.pinned (OpenSpec.ofChange exactIntsSpec)

/-- ITS FALSE NEIGHBOUR: 'it returns false'. Refute it at one input. -/
def exactIntsWrong : ChangeSpec := { name := "exactInts", fn := fun _ => fun
  | [d1, d2, d3, d4, d5] => { results := [.lit (.bool false)], args := [d1, d2, d3, d4, d5] }
  | _ => none }
def ExactIntsWrongFalsely : Prop := exactIntsRow.holds Oacg.pinned (OpenSpec.ofChange exactIntsWrong)

/-- 'law.ExactCmp': WHATEVER THE INPUT: true; the input reads as it did. -/
def exactCmpSpec : ChangeSpec := { name := "exactCmp", fn := fun _ => fun
  | [d1, d2, d3] => { results := [.lit (.bool true)], args := [d1, d2, d3] }
  | _ => none }
def exactCmpRow : OpenClaim := { program := "ygcoac", sum := "5c5ffc5f0be98a92aaac2c2a7c816b7f3c6fbd6bdfce81677a2d11c797892612", func := "softfloat/law.ExactCmp", spec := "exactCmp", apart := false }
def ExactCmpSaid : Prop := exactCmpRow.holds Oacg.pinned (OpenSpec.ofChange exactCmpSpec)

/-- ITS FALSE NEIGHBOUR: 'it returns false'. Refute it at one input. -/
def exactCmpWrong : ChangeSpec := { name := "exactCmp", fn := fun _ => fun
  | [d1, d2, d3] => { results := [.lit (.bool false)], args := [d1, d2, d3] }
  | _ => none }
def ExactCmpWrongFalsely : Prop := exactCmpRow.holds Oacg.pinned (OpenSpec.ofChange exactCmpWrong)

/-- 'law.Masked': WHATEVER THE INPUT: true; the input reads as it did. -/
def maskedSpec : ChangeSpec := { name := "masked", fn := fun _ => fun
  | [d1, d2, d3, d4, d5] => { results := [.lit (.bool true)], args := [d1, d2, d3, d4, d5] }
  | _ => none }
def maskedRow : OpenClaim := { program := "ygcoac", sum := "5c5ffc5f0be98a92aaac2c2a7c816b7f3c6fbd6bdfce81677a2d11c797892612", func := "softfloat/law.Masked", spec := "masked", apart := false }
def MaskedSaid : Prop := maskedRow.holds Oacg.pinned (OpenSpec.ofChange maskedSpec)

/-- ITS FALSE NEIGHBOUR: 'it returns false'. Refute it at one input. -/
def maskedWrong : ChangeSpec := { name := "masked", fn := fun _ => fun
  | [d1, d2, d3, d4, d5] => { results := [.lit (.bool false)], args := [d1, d2, d3, d4, d5] }
  | _ => none }
def MaskedWrongFalsely : Prop := maskedRow.holds Oacg.pinned (OpenSpec.ofChange maskedWrong)

/-- 'law.ExactFlags': WHATEVER THE INPUT: true; the input reads as it did. -/
def exactFlagsSpec : ChangeSpec := { name := "exactFlags", fn := fun _ => fun
  | [d1, d2, d3, d4, d5] => { results := [.lit (.bool true)], args := [d1, d2, d3, d4, d5] }
  | _ => none }
def exactFlagsRow : OpenClaim := { program := "ygcoac", sum := "5c5ffc5f0be98a92aaac2c2a7c816b7f3c6fbd6bdfce81677a2d11c797892612", func := "softfloat/law.ExactFlags", spec := "exactFlags", apart := false }
def ExactFlagsSaid : Prop := exactFlagsRow.holds Oacg.pinned (OpenSpec.ofChange exactFlagsSpec)

/-- ITS FALSE NEIGHBOUR: 'it returns false'. Refute it at one input. -/
def exactFlagsWrong : ChangeSpec := { name := "exactFlags", fn := fun _ => fun
  | [d1, d2, d3, d4, d5] => { results := [.lit (.bool false)], args := [d1, d2, d3, d4, d5] }
  | _ => none }
def ExactFlagsWrongFalsely : Prop := exactFlagsRow.holds Oacg.pinned (OpenSpec.ofChange exactFlagsWrong)

/-- 'law.ExactFlagsSqrt': WHATEVER THE INPUT: true; the input reads as it did. -/
def exactFlagsSqrtSpec : ChangeSpec := { name := "exactFlagsSqrt", fn := fun _ => fun
  | [d1, d2, d3] => { results := [.lit (.bool true)], args := [d1, d2, d3] }
  | _ => none }
def exactFlagsSqrtRow : OpenClaim := { program := "ygcoac", sum := "5c5ffc5f0be98a92aaac2c2a7c816b7f3c6fbd6bdfce81677a2d11c797892612", func := "softfloat/law.ExactFlagsSqrt", spec := "exactFlagsSqrt", apart := false }
def ExactFlagsSqrtSaid : Prop := exactFlagsSqrtRow.holds Oacg.pinned (OpenSpec.ofChange exactFlagsSqrtSpec)

/-- ITS FALSE NEIGHBOUR: 'it returns false'. Refute it at one input. -/
def exactFlagsSqrtWrong : ChangeSpec := { name := "exactFlagsSqrt", fn := fun _ => fun
  | [d1, d2, d3] => { results := [.lit (.bool false)], args := [d1, d2, d3] }
  | _ => none }
def ExactFlagsSqrtWrongFalsely : Prop := exactFlagsSqrtRow.holds Oacg.pinned (OpenSpec.ofChange exactFlagsSqrtWrong)

/-- 'law.ExactFlagsRest': WHATEVER THE INPUT: true; the input reads as it did. -/
def exactFlagsRestSpec : ChangeSpec := { name := "exactFlagsRest", fn := fun _ => fun
  | [d1, d2, d3, d4, d5, d6, d7] => { results := [.lit (.bool true)], args := [d1, d2, d3, d4, d5, d6, d7] }
  | _ => none }
def exactFlagsRestRow : OpenClaim := { program := "ygcoac", sum := "5c5ffc5f0be98a92aaac2c2a7c816b7f3c6fbd6bdfce81677a2d11c797892612", func := "softfloat/law.ExactFlagsRest", spec := "exactFlagsRest", apart := false }
def ExactFlagsRestSaid : Prop := exactFlagsRestRow.holds Oacg.pinned (OpenSpec.ofChange exactFlagsRestSpec)

/-- ITS FALSE NEIGHBOUR: 'it returns false'. Refute it at one input. -/
def exactFlagsRestWrong : ChangeSpec := { name := "exactFlagsRest", fn := fun _ => fun
  | [d1, d2, d3, d4, d5, d6, d7] => { results := [.lit (.bool false)], args := [d1, d2, d3, d4, d5, d6, d7] }
  | _ => none }
def ExactFlagsRestWrongFalsely : Prop := exactFlagsRestRow.holds Oacg.pinned (OpenSpec.ofChange exactFlagsRestWrong)

/-- 'law.ExactFlagsDec': WHATEVER THE INPUT: true; the input reads as it did. -/
def exactFlagsDecSpec : ChangeSpec := { name := "exactFlagsDec", fn := fun _ => fun
  | [d1, d2, d3, d4, d5] => { results := [.lit (.bool true)], args := [d1, d2, d3, d4, d5] }
  | _ => none }
def exactFlagsDecRow : OpenClaim := { program := "ygcoac", sum := "5c5ffc5f0be98a92aaac2c2a7c816b7f3c6fbd6bdfce81677a2d11c797892612", func := "softfloat/law.ExactFlagsDec", spec := "exactFlagsDec", apart := false }
def ExactFlagsDecSaid : Prop := exactFlagsDecRow.holds Oacg.pinned (OpenSpec.ofChange exactFlagsDecSpec)

/-- ITS FALSE NEIGHBOUR: 'it returns false'. Refute it at one input. -/
def exactFlagsDecWrong : ChangeSpec := { name := "exactFlagsDec", fn := fun _ => fun
  | [d1, d2, d3, d4, d5] => { results := [.lit (.bool false)], args := [d1, d2, d3, d4, d5] }
  | _ => none }
def ExactFlagsDecWrongFalsely : Prop := exactFlagsDecRow.holds Oacg.pinned (OpenSpec.ofChange exactFlagsDecWrong)

/-- 'law.Formats': WHATEVER THE INPUT: true; the input reads as it did. -/
def formatsSpec : ChangeSpec := { name := "formats", fn := fun _ => fun
  | [] => { results := [.lit (.bool true)], args := [] }
  | _ => none }
def formatsRow : OpenClaim := { program := "ygcoac", sum := "5c5ffc5f0be98a92aaac2c2a7c816b7f3c6fbd6bdfce81677a2d11c797892612", func := "softfloat/law.Formats", spec := "formats", apart := false }
def FormatsSaid : Prop := formatsRow.holds Oacg.pinned (OpenSpec.ofChange formatsSpec)

/-- ITS FALSE NEIGHBOUR: 'it returns false'. Refute it at one input. -/
def formatsWrong : ChangeSpec := { name := "formats", fn := fun _ => fun
  | [] => { results := [.lit (.bool false)], args := [] }
  | _ => none }
def FormatsWrongFalsely : Prop := formatsRow.holds Oacg.pinned (OpenSpec.ofChange formatsWrong)

/-- 'law.HexSame': WHATEVER THE INPUT: true; the input reads as it did. -/
def hexSameSpec : ChangeSpec := { name := "hexSame", fn := fun _ => fun
  | [d] => { results := [.lit (.bool true)], args := [d] }
  | _ => none }
def hexSameRow : OpenClaim := { program := "ygcoac", sum := "5c5ffc5f0be98a92aaac2c2a7c816b7f3c6fbd6bdfce81677a2d11c797892612", func := "softfloat/law.HexSame", spec := "hexSame", apart := false }
def HexSameSaid : Prop := hexSameRow.holds Oacg.pinned (OpenSpec.ofChange hexSameSpec)

/-- ITS FALSE NEIGHBOUR: 'it returns false'. Refute it at one input. -/
def hexSameWrong : ChangeSpec := { name := "hexSame", fn := fun _ => fun
  | [d] => { results := [.lit (.bool false)], args := [d] }
  | _ => none }
def HexSameWrongFalsely : Prop := hexSameRow.holds Oacg.pinned (OpenSpec.ofChange hexSameWrong)

/-- 'law.HexMake': WHATEVER THE INPUT: true; the input reads as it did. -/
def hexMakeSpec : ChangeSpec := { name := "hexMake", fn := fun _ => fun
  | [d1, d2, d3] => { results := [.lit (.bool true)], args := [d1, d2, d3] }
  | _ => none }
def hexMakeRow : OpenClaim := { program := "ygcoac", sum := "5c5ffc5f0be98a92aaac2c2a7c816b7f3c6fbd6bdfce81677a2d11c797892612", func := "softfloat/law.HexMake", spec := "hexMake", apart := false }
def HexMakeSaid : Prop := hexMakeRow.holds Oacg.pinned (OpenSpec.ofChange hexMakeSpec)

/-- ITS FALSE NEIGHBOUR: 'it returns false'. Refute it at one input. -/
def hexMakeWrong : ChangeSpec := { name := "hexMake", fn := fun _ => fun
  | [d1, d2, d3] => { results := [.lit (.bool false)], args := [d1, d2, d3] }
  | _ => none }
def HexMakeWrongFalsely : Prop := hexMakeRow.holds Oacg.pinned (OpenSpec.ofChange hexMakeWrong)

end Rows
end Go.Proofs.Ygcoac
