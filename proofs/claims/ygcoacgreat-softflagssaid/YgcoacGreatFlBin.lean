/-
  What + - * / raise, plainly, as law.ExactFlags asks; law.wantFlags of them.
-/
import Derived.Test.YgcoacGreatFlSub
import Derived.Test.YgcoacGreatFlMul
import Derived.Test.YgcoacGreatFlDiv
namespace Go.Proofs.YgcoacGreat
open Go.RowKit
set_option linter.unusedSimpArgs false
set_option linter.unusedVariables false

theorem nan_bd {e m : Nat} (h : Fm e m) : infP e m < nanV e m ∧ nanV e m < sgn e m := by
  have hi := infP_bd h
  obtain ⟨_, _, _, _⟩ := h
  unfold nanV
  have h1 := two_pos (m - 1)
  have h2 : 2 ^ (m - 1) < 2 ^ m := Nat.pow_lt_pow_right (by decide) (by omega)
  omega
theorem ne_nan {e m X : Nat} (h : Fm e m) (neg : Bool) (hX : X ≤ infP e m) : X + sg e m neg ≠ nanV e m := by
  have := nan_bd h
  unfold sg
  split <;> omega
theorem sg_ne_nan {e m : Nat} (h : Fm e m) (neg : Bool) : sg e m neg ≠ nanV e m := by
  have := ne_nan h neg (Nat.zero_le _)
  rwa [Nat.zero_add] at this
theorem inf_ne_nan {e m : Nat} (h : Fm e m) (neg : Bool) : infV e m neg ≠ nanV e m := ne_nan h neg (Nat.le_refl _)
theorem over_ne_nan {e m : Nat} (h : Fm e m) (mode : Int) (neg : Bool) : overV e m mode neg ≠ nanV e m := by
  unfold overV
  split
  · exact ne_nan h neg (Nat.sub_le _ _)
  · exact inf_ne_nan h neg
theorem rnd_ne_nan {e m : Nat} (h : Fm e m) (mode : Int) (neg : Bool) (n d : Nat) : rndV e m mode neg n d ≠ nanV e m := by
  unfold rndV
  split
  · exact sg_ne_nan h neg
  · split
    · exact over_ne_nan h mode neg
    · unfold packV
      split
      · exact over_ne_nan h mode neg
      · exact ne_nan h neg (by omega)
theorem ff_nan {e m : Nat} (h : Fm e m) : ff m (nanV e m) ≠ 0 := by
  obtain ⟨_, _, _, _⟩ := h
  have h2 : 2 ^ (m - 1) < 2 ^ m := Nat.pow_lt_pow_right (by decide) (by omega)
  have h1 := two_pos (m - 1)
  unfold nanV infP ff
  rw [Nat.mul_comm, Nat.mul_add_mod, Nat.mod_eq_of_lt h2]
  omega
theorem ff_msk (e m x : Nat) : ff m (msk e m x) = ff m x := by
  unfold ff msk
  rw [Nat.mod_mod_of_dvd _ (Nat.pow_dvd_pow 2 (by omega))]
theorem ff_inf {e m x : Nat} (h : cls e m x = 3) : ff m x = 0 := by
  unfold cls at h
  split at h
  · split at h
    · assumption
    · omega
  · split at h
    · split at h <;> omega
    · omega
theorem msk_ne_nan {e m x : Nat} (h : Fm e m) (hc : cls e m x = 3) : msk e m x ≠ nanV e m := by
  intro hh
  have := ff_nan h
  rw [← hh, ff_msk, ff_inf hc] at this
  exact this rfl
theorem vNeg_fin {e m x : Nat} (h : cls e m x < 3) : vNeg e m x = ngB e m x := by unfold vNeg; rw [if_neg (by omega)]

/-- What ExactFlags asks of a value and its flags, where an operand is no finite number (k = 3: or the second is zero). -/
structure BinLaw (k e m a b : Nat) (P : Nat × Int) : Prop where
  nan : cls e m a = 4 ∨ cls e m b = 4 → P.2 = heardF e m a b
  inv : ¬ (cls e m a = 4 ∨ cls e m b = 4) → P.1 = nanV e m → P.2 = 1
  inf : ¬ (cls e m a = 4 ∨ cls e m b = 4) → P.1 ≠ nanV e m → cls e m a = 3 ∨ cls e m b = 3 → P.2 = 0
  zero : k = 3 → ¬ (cls e m a = 4 ∨ cls e m b = 4) → P.1 ≠ nanV e m → ¬ (cls e m a = 3 ∨ cls e m b = 3) → cls e m b = 0 → P.2 = 2

theorem fadd_law {e m : Nat} (h : Fm e m) (mode : Int) (a b k : Nat) (hk : k ≠ 3) : BinLaw k e m a b (faddP e m mode a b) := by
  unfold faddP
  refine ⟨?_, ?_, ?_, fun hk3 => absurd hk3 hk⟩
  · intro h4; rw [if_pos h4]
  · intro h4 hv
    rw [if_neg h4] at hv ⊢
    split at hv
    · rename_i h1; rw [if_pos h1]
    · split at hv
      · rename_i h2; exact absurd hv (msk_ne_nan h h2)
      · split at hv
        · rename_i h2; exact absurd hv (msk_ne_nan h h2)
        · split at hv
          · exact absurd hv (sg_ne_nan h _)
          · exact absurd hv (rnd_ne_nan h _ _ _ _)
  · intro h4 hv hi
    rw [if_neg h4] at hv ⊢
    split
    · rename_i h1
      rw [if_pos h1] at hv
      exact absurd rfl hv
    · split
      · rfl
      · rw [if_pos (by omega)]
theorem fsub_law {e m : Nat} (h : Fm e m) (mode : Int) (a b k : Nat) (hk : k ≠ 3) : BinLaw k e m a b (fsubP e m mode a b) := by
  obtain ⟨l1, l2, l3, l4⟩ := fadd_law h mode a (flipS e m b) k hk
  rw [flip_cls] at l1 l2 l3
  rw [flip_heard h] at l1
  exact ⟨l1, l2, l3, fun hk3 => absurd hk3 hk⟩
theorem fmul_law {e m : Nat} (h : Fm e m) (mode : Int) (a b k : Nat) (hk : k ≠ 3) : BinLaw k e m a b (fmulP e m mode a b) := by
  unfold fmulP
  refine ⟨?_, ?_, ?_, fun hk3 => absurd hk3 hk⟩
  · intro h4; rw [if_pos h4]
  · intro h4 hv
    rw [if_neg h4] at hv ⊢
    split at hv
    · rename_i h1; rw [if_pos h1]
    · split at hv
      · exact absurd hv (inf_ne_nan h _)
      · exact absurd hv (rnd_ne_nan h _ _ _ _)
  · intro h4 hv hi
    rw [if_neg h4] at hv ⊢
    split
    · rename_i h1
      rw [if_pos h1] at hv
      exact absurd rfl hv
    · first | rfl | rw [if_pos hi]
theorem fdiv_law {e m : Nat} (h : Fm e m) (mode : Int) (a b k : Nat) : BinLaw k e m a b (fdivP e m mode a b) := by
  unfold fdivP
  refine ⟨?_, ?_, ?_, ?_⟩
  · intro h4; rw [if_pos h4]
  · intro h4 hv
    rw [if_neg h4] at hv ⊢
    split at hv
    · rename_i h1; rw [if_pos h1]
    · split at hv
      · exact absurd hv (inf_ne_nan h _)
      · split at hv
        · exact absurd hv (inf_ne_nan h _)
        · split at hv
          · exact absurd hv (sg_ne_nan h _)
          · exact absurd hv (rnd_ne_nan h _ _ _ _)
  · intro h4 hv hi
    rw [if_neg h4] at hv ⊢
    split
    · rename_i h1
      rw [if_pos h1] at hv
      exact absurd rfl hv
    · split
      · rfl
      · rw [if_neg (by omega), if_pos (by omega)]
  · intro _ h4 hv hi hz
    rw [if_neg h4] at hv ⊢
    split
    · rename_i h1
      rw [if_pos h1] at hv
      exact absurd rfl hv
    · rw [if_neg (by omega)]
      all_goals first | rfl | rw [if_pos hz]

/-! ### wantFlags of the results of finite operands -/
set_option maxRecDepth 20000 in
set_option maxHeartbeats 1000000 in
theorem bin0F_any (e m : Nat) (h : Fm e m) (mode : Int) (x y : Nat) (hx : x < 18446744073709551616) (hy : y < 18446744073709551616) (w : World) :
    Calls Oacg.prog 6 #[.agg #[.int .u8 (e : Int), .int .u8 (m : Int)], .int .u8 mode, .int .u8 0, .int .u64 (x : Int), .int .u64 (y : Int)] w fun r w' => r = .returned (.tuple #[.int .u64 ((faddP e m mode x y).1 : Int), .int .u8 (faddP e m mode x y).2]) ∧ Ext w w' := by
  have HC := hide (faddFlags_any e m h mode x y hx hy)
  clear hx hy h
  generalize ((faddP e m mode x y).1 : Int) = cv at *
  generalize (faddP e m mode x y).2 = cf at *
  go_enter Oacg.func6, Oacg.ntmps6
  go_wp2_with fail
  refine (HC.out _).mono ?_
  rintro _ w1 ⟨rfl, hx1⟩
  have HX : Hid (Ext w w1) := ((Ext.refl w).alloc _ _).trans hx1
  clear hx1
  go_wp2_with fail
  simp [bodyPost, results, Oacg.results6, go_sem]
  exact HX.out
set_option maxRecDepth 20000 in
set_option maxHeartbeats 1000000 in
theorem bin1F_any (e m : Nat) (h : Fm e m) (mode : Int) (x y : Nat) (hx : x < 18446744073709551616) (hy : y < 18446744073709551616) (w : World) :
    Calls Oacg.prog 6 #[.agg #[.int .u8 (e : Int), .int .u8 (m : Int)], .int .u8 mode, .int .u8 1, .int .u64 (x : Int), .int .u64 (y : Int)] w fun r w' => r = .returned (.tuple #[.int .u64 ((fsubP e m mode x y).1 : Int), .int .u8 (fsubP e m mode x y).2]) ∧ Ext w w' := by
  have HC := hide (fsubFlags_any e m h mode x y hx hy)
  clear hx hy h
  generalize ((fsubP e m mode x y).1 : Int) = cv at *
  generalize (fsubP e m mode x y).2 = cf at *
  go_enter Oacg.func6, Oacg.ntmps6
  go_wp2_with fail
  refine (HC.out _).mono ?_
  rintro _ w1 ⟨rfl, hx1⟩
  have HX : Hid (Ext w w1) := ((Ext.refl w).alloc _ _).trans hx1
  clear hx1
  go_wp2_with fail
  simp [bodyPost, results, Oacg.results6, go_sem]
  exact HX.out
set_option maxRecDepth 20000 in
set_option maxHeartbeats 1000000 in
theorem bin2F_any (e m : Nat) (h : Fm e m) (mode : Int) (x y : Nat) (hx : x < 18446744073709551616) (hy : y < 18446744073709551616) (w : World) :
    Calls Oacg.prog 6 #[.agg #[.int .u8 (e : Int), .int .u8 (m : Int)], .int .u8 mode, .int .u8 2, .int .u64 (x : Int), .int .u64 (y : Int)] w fun r w' => r = .returned (.tuple #[.int .u64 ((fmulP e m mode x y).1 : Int), .int .u8 (fmulP e m mode x y).2]) ∧ Ext w w' := by
  have HC := hide (fmulFlags_any e m h mode x y hx hy)
  clear hx hy h
  generalize ((fmulP e m mode x y).1 : Int) = cv at *
  generalize (fmulP e m mode x y).2 = cf at *
  go_enter Oacg.func6, Oacg.ntmps6
  go_wp2_with fail
  refine (HC.out _).mono ?_
  rintro _ w1 ⟨rfl, hx1⟩
  have HX : Hid (Ext w w1) := ((Ext.refl w).alloc _ _).trans hx1
  clear hx1
  go_wp2_with fail
  simp [bodyPost, results, Oacg.results6, go_sem]
  exact HX.out
set_option maxRecDepth 20000 in
set_option maxHeartbeats 1000000 in
theorem bin3F_any (e m : Nat) (h : Fm e m) (mode : Int) (x y : Nat) (hx : x < 18446744073709551616) (hy : y < 18446744073709551616) (w : World) :
    Calls Oacg.prog 6 #[.agg #[.int .u8 (e : Int), .int .u8 (m : Int)], .int .u8 mode, .int .u8 3, .int .u64 (x : Int), .int .u64 (y : Int)] w fun r w' => r = .returned (.tuple #[.int .u64 ((fdivP e m mode x y).1 : Int), .int .u8 (fdivP e m mode x y).2]) ∧ Ext w w' := by
  have HC := hide (fdivFlags_any e m h mode x y hx hy)
  clear hx hy h
  generalize ((fdivP e m mode x y).1 : Int) = cv at *
  generalize (fdivP e m mode x y).2 = cf at *
  go_enter Oacg.func6, Oacg.ntmps6
  go_wp2_with fail
  refine (HC.out _).mono ?_
  rintro _ w1 ⟨rfl, hx1⟩
  have HX : Hid (Ext w w1) := ((Ext.refl w).alloc _ _).trans hx1
  clear hx1
  go_wp2_with fail
  simp [bodyPost, results, Oacg.results6, go_sem]
  exact HX.out
end Go.Proofs.YgcoacGreat
