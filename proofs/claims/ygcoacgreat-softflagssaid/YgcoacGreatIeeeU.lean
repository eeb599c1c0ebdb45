/-
  ieee.subnormal, ieee.Unpack.
-/
import Derived.Test.YgcoacGreatIeeeW
import Derived.Deep.QuietTactic
import Derived.BigQuiet
import Derived.Deep.RegionHeld3
namespace Go.Proofs.YgcoacGreat
open Go.RowKit
set_option linter.unusedSimpArgs false
set_option linter.unusedVariables false

theorem sub_man_bd {m man : Nat} (h0 : 0 < man) (hm : man < 2 ^ m) : 2 ^ m ≤ man * 2 ^ (m + 1 - bits man) ∧ man * 2 ^ (m + 1 - bits man) < 2 ^ (m + 1) := by
  have hb : bits man ≤ m := bits_le_of_lt hm
  have h1 := bits_lt man
  have h2 := bits_le h0
  have h3 := bits_pos' h0
  constructor
  · have e : 2 ^ m = 2 ^ (bits man - 1) * 2 ^ (m + 1 - bits man) := by rw [← Nat.pow_add]; congr 1; omega
    rw [e]; exact Nat.mul_le_mul_right _ h2
  · have e : 2 ^ (m + 1) = 2 ^ bits man * 2 ^ (m + 1 - bits man) := by rw [← Nat.pow_add]; congr 1; omega
    rw [e]; exact Nat.mul_lt_mul_of_pos_right h1 (Nat.pow_pos (by decide))
theorem sub_man_lt {m man : Nat} (hm : man < 2 ^ m) (hm52 : m ≤ 52) (h0 : 0 < man) : man * 2 ^ (m + 1 - bits man) < 18446744073709551616 :=
  Nat.lt_of_lt_of_le (sub_man_bd h0 hm).2 (pow_le_of (show m + 1 ≤ 64 by omega))

set_option maxHeartbeats 1000000 in
theorem subnormal_any (e m : Nat) (h : Fm e m) (neg : Bool) (man : Nat) (h0 : 0 < man) (hm : man < 2 ^ m) (w : World) :
    Calls Oacg.prog 62 #[.agg #[.int .u8 (e : Int), .int .u8 (m : Int)], .bool neg, .int .u64 (man : Int)] w fun r w' =>
      r = .returned (.agg #[.bool neg, .int .i8 1, .int .i16 (1 - (bias e : Int) - (m : Int) - ((m + 1 - bits man : Nat) : Int)), .int .u64 ((man * 2 ^ (m + 1 - bits man) : Nat) : Int)]) ∧ Ext w w' := by
  have H := hide h
  obtain ⟨h1, h2, h3, h4⟩ := h
  have hb1 := bias_bd H.out
  have hm64 : man < 18446744073709551616 := Nat.lt_of_lt_of_le hm (pow_le_of (show m ≤ 64 by omega))
  have hbm : bits man ≤ m := bits_le_of_lt hm
  have hbp := bits_pos' h0
  have HW := hide (width_any man hm64)
  have HB := hide (sub_man_lt hm (by omega) h0)
  clear hm h0
  generalize bits man = k at *
  go_enter Oacg.func62, Oacg.ntmps62
  go_wp2_with fail
  go_quiet ((go_at_call 91; exact Calls.quiet_of_same (HW.out _)))
  go_wp2_with fail
  go_region_held3 (fun w' => w'.cell? ⟨w.heap.size, 0, none⟩ = some (.int .u8 (e : Int)) ∧ w'.cell? ⟨w.heap.size, 1, none⟩ = some (.int .u8 (m : Int))) (simp [go_sem, World.cell?_alloc_past])
    (first
      | (go_at_call 63; refine (bias_any e m H.out _).mono ?_; rintro e w' ⟨rfl, o1, o2, rfl⟩))
  all_goals go_wp2
  simp [bodyPost, results, Oacg.results62, go_sem]
  refine ⟨⟨?_, ?_⟩, ?_⟩
  · simp only [wi16]; omega
  · rw [wu64, two_pow_cast, ← Int.natCast_mul]
    have := HB.out
    omega
  · repeat (first | apply Ext.alloc | (refine Ext.setCell ?_ (Nat.le_succ _) _) | apply Ext.drewN)
    exact Ext.refl _
end Go.Proofs.YgcoacGreat
