/-
  hmodel.Scan whole; law.HexSame.
-/
import Derived.Test.YgcoacHexYn
import Derived.Test.YgcoacHexYp
import Derived.Test.YgcoacHexYm
import Derived.Test.YgcoacHexT
namespace Go.Proofs.Ygcoac
open Go.RowKit
set_option linter.unusedSimpArgs false
set_option linter.unusedVariables false

set_option maxRecDepth 1000000 in
set_option maxHeartbeats 4000000 in
theorem scan2_big (s : ByteArray) (hbig : 1024 < s.size) (w : World) :
    Calls Oacg.prog 72 #[.string s] w fun r w' => (∃ v, r = .returned v ∧ ScanR s v) ∧ Below w.heap.size w w' := by
  have ht : decide ((1024 : Int) < (s.size : Int)) = true := by simp; omega
  go_enter Oacg.func72, Oacg.ntmps72
  go_wp2
  simp [bodyPost, results, Oacg.results72, go_sem]
  exact ⟨by unfold ScanR; rw [if_pos hbig]; rfl, (Below.refl _ _).alloc (Nat.le_refl _) _⟩

set_option maxRecDepth 1000000 in
set_option maxHeartbeats 4000000 in
theorem scan2_empty (s : ByteArray) (h0 : s.size = 0) (w : World) :
    Calls Oacg.prog 72 #[.string s] w fun r w' => (∃ v, r = .returned v ∧ ScanR s v) ∧ Below w.heap.size w w' := by
  have hbig : ¬ 1024 < s.size := by omega
  have ht : decide ((1024 : Int) < (s.size : Int)) = false := by simp; omega
  have hem := isEmpty_zero h0
  have hz0 : ((s.size : Int) == 0) = true := by rw [h0]; rfl
  have hsz : (s.size : Int) ≤ 140737488355328 := by omega
  have HR := hide (ans_wrong hbig (p := 0) (Nat.zero_le _) ((Sgn.none (s := s) (fun h => by omega)).bad (fun h => by omega)))
  go_enter Oacg.func72, Oacg.ntmps72
  go_wp2_with fail
  refine (wrong_int s hsz 0 (Nat.zero_le _) _ rfl _).mono ?_
  rintro _ w5 ⟨rfl, hb5⟩
  have hM := (MW.start w).next hb5
  obtain ⟨hA0, hA1, hA2, hA3, hA4, hA5, hA6⟩ := hM.cells
  have HB := hide hM.bel
  clear hM hb5
  go_wp2
  simp [bodyPost, results, Oacg.results72, go_sem, hA0, hA1, hA2, hA3, hA4, hA5]
  exact ⟨HR.out, below_set6 HB.out (Nat.le_refl _) _ _ _ _ _ _⟩

theorem scan2_any (s : ByteArray) (w : World) :
    Calls Oacg.prog 72 #[.string s] w fun r w' => (∃ v, r = .returned v ∧ ScanR s v) ∧ Below w.heap.size w w' := by
  by_cases hbig : 1024 < s.size
  · exact scan2_big s hbig w
  · by_cases h0 : 0 < s.size
    · cases q45 : ((s[0].toNat : Int) == 45) with
      | true =>
        exact scan2_m s hbig h0 (by simp only [beq_iff_eq] at q45; rw [q45]; rfl) q45 w
      | false =>
        cases q43 : ((s[0].toNat : Int) == 43) with
        | true => exact scan2_p s hbig h0 q43 q45 w
        | false => exact scan2_n s hbig h0 q43 q45 w
    · exact scan2_empty s (by omega) w

set_option maxRecDepth 100000 in
theorem hexSameLaw_any (s : ByteArray) (hs : (s.size : Int) ≤ 140737488355328) (w : World) :
    Calls Oacg.prog 12 #[.string s] w fun r w' => r = .returned (.bool true) ∧ Below w.heap.size w w' := by
  go_enter Oacg.func12, Oacg.ntmps12
  go_wp2_with fail
  refine (scan_any s hs _).mono ?_
  rintro _ w1 ⟨⟨v1, rfl, h1⟩, hb1⟩
  go_wp2_with fail
  refine (scan2_any s _).mono ?_
  rintro _ w2 ⟨⟨v2, rfl, h2⟩, hb2⟩
  obtain rfl := h1.same h2
  obtain ⟨k, n, t, x, p, g, rfl⟩ := h1.agg
  have HB := hide (hb1.trans (hb2.mono hb1.size))
  clear h1 h2 hb1 hb2
  unfold scanV
  go_wp2
  go_ret
  exact ⟨rfl, HB.out⟩
end Go.Proofs.Ygcoac
