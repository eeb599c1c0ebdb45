import Derived.Test.YgcoacProg
import Derived.WalkKit
import Derived.ProofKit
namespace Go.Proofs.Ygcoac.formats
open Go.ChangeShapes Go.WideShapes Go.ChangeAt Go.RowKit

theorem f65_any (w : World) :
    Calls Oacg.prog 65 #[] w fun r w' => r = .returned (.agg #[.int .u8 5, .int .u8 10]) ∧ w' = w.alloc (.cells #[.int .u8 5, .int .u8 10] 23) := by
  go_enter Oacg.func65, Oacg.ntmps65
  go_wp2
  simp [bodyPost, results, Oacg.results65, go_sem]

theorem f66_any (w : World) :
    Calls Oacg.prog 66 #[] w fun r w' => r = .returned (.agg #[.int .u8 8, .int .u8 7]) ∧ w' = w.alloc (.cells #[.int .u8 8, .int .u8 7] 23) := by
  go_enter Oacg.func66, Oacg.ntmps66
  go_wp2
  simp [bodyPost, results, Oacg.results66, go_sem]

theorem f67_any (w : World) :
    Calls Oacg.prog 67 #[] w fun r w' => r = .returned (.agg #[.int .u8 8, .int .u8 23]) ∧ w' = w.alloc (.cells #[.int .u8 8, .int .u8 23] 23) := by
  go_enter Oacg.func67, Oacg.ntmps67
  go_wp2
  simp [bodyPost, results, Oacg.results67, go_sem]

theorem f68_any (w : World) :
    Calls Oacg.prog 68 #[] w fun r w' => r = .returned (.agg #[.int .u8 11, .int .u8 52]) ∧ w' = w.alloc (.cells #[.int .u8 11, .int .u8 52] 23) := by
  go_enter Oacg.func68, Oacg.ntmps68
  go_wp2
  simp [bodyPost, results, Oacg.results68, go_sem]

theorem f69_any (w : World) :
    Calls Oacg.prog 69 #[] w fun r w' => r = .returned (.agg #[.int .u8 4, .int .u8 3]) ∧ w' = w.alloc (.cells #[.int .u8 4, .int .u8 3] 23) := by
  go_enter Oacg.func69, Oacg.ntmps69
  go_wp2
  simp [bodyPost, results, Oacg.results69, go_sem]

theorem f70_any (w : World) :
    Calls Oacg.prog 70 #[] w fun r w' => r = .returned (.agg #[.int .u8 5, .int .u8 2]) ∧ w' = w.alloc (.cells #[.int .u8 5, .int .u8 2] 23) := by
  go_enter Oacg.func70, Oacg.ntmps70
  go_wp2
  simp [bodyPost, results, Oacg.results70, go_sem]

theorem isFormat_any (e m : Int) (h1 : 2 ≤ e) (h2 : e ≤ 11) (h3 : 2 ≤ m) (h4 : m ≤ 52) (w : World) :
    Calls Oacg.prog 64 #[.agg #[.int .u8 e, .int .u8 m], .int .u8 e, .int .u8 m] w fun r w' => r = .returned (.bool true) ∧ ∃ c d, w' = (w.alloc (.cells c 23)).alloc (.cells d 23) := by
  go_enter Oacg.func64, Oacg.ntmps64
  go_wp2
  go_ret
  exact ⟨rfl, _, _, rfl⟩

theorem formats_any (w : World) :
    Calls Oacg.prog 11 #[] w fun r w' => r = .returned (.bool true) ∧ Grown w w' := by
  go_enter Oacg.func11, Oacg.ntmps11
  go_wp2_with fail
  refine (f65_any _).mono ?_
  rintro e w' ⟨rfl, rfl⟩
  go_wp2_with fail
  refine (isFormat_any 5 10 (by decide) (by decide) (by decide) (by decide) _).mono ?_
  rintro e w' ⟨rfl, c65, d65, rfl⟩
  go_wp2_with fail
  refine (f66_any _).mono ?_
  rintro e w' ⟨rfl, rfl⟩
  go_wp2_with fail
  refine (isFormat_any 8 7 (by decide) (by decide) (by decide) (by decide) _).mono ?_
  rintro e w' ⟨rfl, c66, d66, rfl⟩
  go_wp2_with fail
  refine (f67_any _).mono ?_
  rintro e w' ⟨rfl, rfl⟩
  go_wp2_with fail
  refine (isFormat_any 8 23 (by decide) (by decide) (by decide) (by decide) _).mono ?_
  rintro e w' ⟨rfl, c67, d67, rfl⟩
  go_wp2_with fail
  refine (f68_any _).mono ?_
  rintro e w' ⟨rfl, rfl⟩
  go_wp2_with fail
  refine (isFormat_any 11 52 (by decide) (by decide) (by decide) (by decide) _).mono ?_
  rintro e w' ⟨rfl, c68, d68, rfl⟩
  go_wp2_with fail
  refine (f69_any _).mono ?_
  rintro e w' ⟨rfl, rfl⟩
  go_wp2_with fail
  refine (isFormat_any 4 3 (by decide) (by decide) (by decide) (by decide) _).mono ?_
  rintro e w' ⟨rfl, c69, d69, rfl⟩
  go_wp2_with fail
  refine (f70_any _).mono ?_
  rintro e w' ⟨rfl, rfl⟩
  go_wp2_with fail
  refine (isFormat_any 5 2 (by decide) (by decide) (by decide) (by decide) _).mono ?_
  rintro e w' ⟨rfl, c70, d70, rfl⟩
  go_wp2_with fail
  go_ret
  refine ⟨rfl, ?_⟩
  repeat apply Grown.alloc
  exact Grown.refl _
end Go.Proofs.Ygcoac.formats
