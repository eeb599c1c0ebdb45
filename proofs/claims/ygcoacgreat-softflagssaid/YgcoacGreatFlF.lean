/-
  law.wantFlags.
-/
import Derived.Test.YgcoacGreatFlE
import Derived.Test.YgcoacGreatExI
namespace Go.Proofs.YgcoacGreat
open Go.RowKit
set_option linter.unusedSimpArgs false
set_option linter.unusedVariables false

end Go.Proofs.YgcoacGreat
