/-
  exact.SubFlags, Sub.
-/
import Derived.Test.YgcoacGreatFlAdd
namespace Go.Proofs.YgcoacGreat
open Go.RowKit
set_option linter.unusedSimpArgs false
set_option linter.unusedVariables false

/-- The sign turned. -/
def flipS (e m b : Nat) : Nat := b ^^^ sgn e m
theorem flip_low (e m b : Nat) : flipS e m b % 2 ^ (e + m) = b % 2 ^ (e + m) := by
  unfold flipS sgn
  rw [Nat.xor_mod_two_pow, Nat.mod_self, Nat.xor_zero]
theorem flip_ng (e m b : Nat) : ngB e m (flipS e m b) = !ngB e m b := by
  unfold ngB flipS sgn
  rw [← Nat.testBit_eq_decide_div_mod_eq, ← Nat.testBit_eq_decide_div_mod_eq, Nat.testBit_xor, Nat.testBit_two_pow_self]
  cases b.testBit (e + m) <;> rfl
theorem ef_low (e m x : Nat) : ef e m x = x % 2 ^ (e + m) / 2 ^ m := by
  unfold ef
  rw [Nat.add_comm, Nat.pow_add, Nat.mod_mul_right_div_self]
theorem ff_low (e m x : Nat) : ff m x = x % 2 ^ (e + m) % 2 ^ m := by
  unfold ff
  rw [Nat.mod_mod_of_dvd _ (Nat.pow_dvd_pow 2 (Nat.le_add_left m e))]
theorem flip_ef (e m b : Nat) : ef e m (flipS e m b) = ef e m b := by rw [ef_low, ef_low, flip_low]
theorem flip_ff (e m b : Nat) : ff m (flipS e m b) = ff m b := by rw [ff_low e, ff_low e, flip_low]
theorem flip_cls (e m b : Nat) : cls e m (flipS e m b) = cls e m b := by unfold cls; rw [flip_ef, flip_ff]
theorem flip_num (e m b : Nat) : vNum e m (flipS e m b) = vNum e m b := by unfold vNum pMan pExp; rw [flip_cls, flip_ef, flip_ff]
theorem flip_den (e m b : Nat) : vDen e m (flipS e m b) = vDen e m b := by unfold vDen pExp; rw [flip_cls, flip_ef, flip_ff]
theorem flip_neg {e m b : Nat} (h : cls e m b < 3) : vNeg e m (flipS e m b) = !vNeg e m b := by
  unfold vNeg; rw [flip_cls, flip_ng, if_neg (by omega), if_neg (by omega)]
theorem flip_sig {e m : Nat} (h : Fm e m) (b : Nat) : sigB e m (flipS e m b) = sigB e m b := by
  obtain ⟨_, _, _, _⟩ := h
  have key : ∀ x : Nat, x / 2 ^ (m - 1) % 2 = ff m x / 2 ^ (m - 1) := by
    intro x
    unfold ff
    obtain ⟨k, rfl⟩ : ∃ k, m = k + 1 := ⟨m - 1, by omega⟩
    rw [Nat.add_sub_cancel, Nat.pow_succ, Nat.mod_mul_right_div_self]
  unfold sigB
  rw [flip_cls, key, key, flip_ff]
theorem flip_heard {e m : Nat} (h : Fm e m) (a b : Nat) : heardF e m a (flipS e m b) = heardF e m a b := by unfold heardF; rw [flip_sig h]
theorem flip_lt {e m b : Nat} (h : Fm e m) (hb : b < 18446744073709551616) : flipS e m b < 18446744073709551616 := by
  have hs := sgn_bd h
  unfold flipS
  exact Nat.xor_lt_two_pow (n := 64) hb (by omega)

def fsubP (e m : Nat) (mode : Int) (a b : Nat) : Nat × Int := faddP e m mode a (flipS e m b)
set_option maxRecDepth 20000 in
set_option maxHeartbeats 2000000 in
theorem fsubFlags_any (e m : Nat) (h : Fm e m) (mode : Int) (x y : Nat) (hx : x < 18446744073709551616) (hy : y < 18446744073709551616) (w : World) :
    Calls Oacg.prog 24 #[.agg #[.int .u8 (e : Int), .int .u8 (m : Int)], .int .u8 mode, .int .u64 (x : Int), .int .u64 (y : Int)] w fun r w' => r = .returned (.tuple #[.int .u64 ((fsubP e m mode x y).1 : Int), .int .u8 (fsubP e m mode x y).2]) ∧ Ext w w' := by
  have HA := hide (faddFlags_any e m h mode x (flipS e m y) hx (flip_lt h hy))
  have HS := hide (signBit_any e m h)
  have hs := sgn_bd h
  have hxo : Go.bits BinOp.xor IntKind.u64 (y : Int) (sgn e m : Int) = (flipS e m y : Int) := u64_xor_nat y (sgn e m) hy (by omega)
  rw [show fsubP e m mode x y = faddP e m mode x (flipS e m y) from rfl]
  generalize ((faddP e m mode x (flipS e m y)).1 : Int) = pv at *
  generalize (faddP e m mode x (flipS e m y)).2 = pf at *
  generalize (flipS e m y : Int) = y' at *
  generalize (sgn e m : Int) = sI at *
  have HS2 : Hid (∀ wx, Calls Oacg.prog 55 #[.agg #[.int .u8 (e : Int), .int .u8 (m : Int)]] wx fun r w' => r = .returned (.int .u64 sI) ∧ Ext wx w') := fun wx => (HS.out wx).mono fun r w' ⟨h1, h2⟩ => ⟨h1, by obtain ⟨c1, c2, h2⟩ := h2; rw [h2]; exact ((Ext.refl wx).alloc _ _).alloc _ _⟩
  clear hx hy hs HS
  have HC := hide (Cells2.new w e m 23)
  obtain ⟨W0, hW0⟩ : ∃ W0, W0 = w.alloc (.cells #[.int .u8 (e : Int), .int .u8 (m : Int)] 23) := ⟨_, rfl⟩
  have HX0 : Hid (Ext w W0) := by rw [hW0]; exact (Ext.refl w).alloc _ _
  rw [← hW0] at HC
  go_enter Oacg.func24, Oacg.ntmps24
  go_wp2_with fail
  rw [← hW0]
  clear hW0
  go_region_held3 (fun w' => Cells2 w' w.heap.size e m)
    (first | exact HC.out | exact HC.out.ext (by (repeat apply Ext.drew); first | exact Ext.refl _ | assumption))
    (first
      | (go_at_call 55; refine (HS2.out _).mono ?_; rintro r w1 ⟨rfl, hx1⟩; have hE : Ext W0 w1 := Ext.trans (by (repeat apply Ext.drew); first | exact Ext.refl _ | assumption) hx1; clear hx1)
      | (go_at_call 23; refine (HA.out _).mono ?_; rintro r w2 ⟨rfl, hx2⟩; have hE2 : Ext W0 w2 := Ext.trans (by (repeat apply Ext.drew); first | exact Ext.refl _ | assumption) hx2; clear hx2))
  all_goals go_wp2_with fail
  all_goals simp [bodyPost, results, Oacg.results24, go_sem]
  all_goals exact HX0.out.trans (by (repeat apply Ext.drew); assumption)
end Go.Proofs.YgcoacGreat
