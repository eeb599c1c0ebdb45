/-
  nat.BitLen, Bit (at 0), Cmp.
-/
import Derived.Test.YgcoacGreatNatA
import Derived.WalkSpells
namespace Go.Proofs.YgcoacGreat
open Go.RowKit
set_option linter.unusedSimpArgs false
set_option linter.unusedVariables false

theorem W_pow (k : Nat) : W k = 2 ^ (32 * k) := by
  unfold W
  rw [show (4294967296 : Nat) = 2 ^ 32 from rfl, ← Nat.pow_mul]

theorem val_snoc (l : List Nat) (x : Nat) : val (l ++ [x]) = val l + W l.length * x := by
  rw [val_append]; simp [val]

theorem bits_val {l : List Nat} {m x : Nat} (hl : Lim l) (hm : l.length = m + 1) (hx : l[m]? = some x) (h0 : 0 < x) : bits (val l) = 32 * m + bits x := by
  have e : l = l.take m ++ [x] := by
    have h1 : m < l.length := by omega
    rw [List.getElem?_eq_getElem h1] at hx
    have hx' : l[m] = x := by simpa using hx
    rw [← hx', ← List.take_succ_eq_append_getElem h1, List.take_of_length_le (by omega)]
  have hlt := val_lt (hl.take m)
  have hlen : (l.take m).length = m := by rw [List.length_take]; omega
  rw [hlen] at hlt
  have hv : val l = val (l.take m) + W m * x := by
    conv => lhs; rw [e]
    rw [val_snoc, hlen]
  have hb1 := bits_lt x
  have hb2 := bits_le h0
  have hb3 := bits_pos' h0
  have hb4 : bits x = (bits x - 1) + 1 := by omega
  rw [hb4, ← Nat.add_assoc]
  rw [hb4] at hb1
  generalize bits x - 1 = k at *
  have hW : W m = 2 ^ (32 * m) := W_pow m
  apply bits_eq
  · rw [hv, Nat.pow_add, ← hW]
    exact Nat.le_trans (Nat.mul_le_mul_left _ hb2) (Nat.le_add_left _ _)
  · rw [hv, Nat.add_assoc, Nat.pow_add, ← hW]
    have : W m * (x + 1) ≤ W m * 2 ^ (k + 1) := Nat.mul_le_mul_left _ hb1
    rw [Nat.mul_add, Nat.mul_one] at this
    omega

/-- A number that is not zero, opened at its top limb. -/
theorem NatAt.top {w : World} {v : Value} {n : Nat} (h : NatAt w v n) (h0 : 0 < n) :
    ∃ l b off cap m x, v = .slice (some ⟨b, off, none⟩) (m + 1) cap ∧ l.length = m + 1 ∧ m + 1 ≤ cap ∧ cap ≤ 1099511627776 ∧ Lim l ∧ Norm l ∧ val l = n ∧ cellsAt w b off l ∧ l[m]? = some x ∧ 0 < x ∧ x < 4294967296 := by
  rcases h with ⟨rfl, _⟩ | ⟨l, b, off, cap, rfl, hc, hm, hl, hn, hv, h0, hcl⟩
  · omega
  · have hne : l ≠ [] := by intro h; subst h; simp [val] at hv; omega
    have hlen : 0 < l.length := List.length_pos_iff.2 hne
    obtain ⟨m, hm1⟩ : ∃ m, l.length = m + 1 := ⟨l.length - 1, by omega⟩
    have hlm : l[m]? = some l[m] := List.getElem?_eq_getElem (by omega)
    have hx0 : l[m] ≠ 0 := by
      have := hn hne
      rw [List.getLast_eq_getElem] at this
      simpa [hm1] using this
    exact ⟨l, b, off, cap, m, l[m], by rw [hm1], hm1, by omega, hm, hl, hn, hv, hcl, hlm, by omega, hl.at hlm⟩

theorem nil_eq (w : World) (a : Option Addr) (n c : Nat) : (binOp .eql 58 (.slice a n c) (.slice none 0 0)).run Oacg.prog w = .ok (.bool a.isNone) w :=
  Lib.run_eql_slice_nil w _ _ a n c 0 0 Oacg.underlying58
theorem nil_ne (w : World) (a : Option Addr) (n c : Nat) : (binOp .neq 58 (.slice a n c) (.slice none 0 0)).run Oacg.prog w = .ok (.bool !a.isNone) w :=
  run_neq_slice_nil_any w _ _ a n c 0 0 Oacg.underlying58
attribute [local go_sem] nil_eq nil_ne

set_option maxHeartbeats 400000 in
theorem bitLen_any (n : Nat) (v : Value) (w : World) (h : NatAt w v n) :
    Calls Oacg.prog 42 #[v] w fun e w' => e = .returned (.int .i64 (bits n : Int)) ∧ w' = w := by
  have H := hide h
  by_cases h0 : n = 0
  · subst h0
    rcases h with ⟨_, rfl⟩ | ⟨l, b, off, cap, rfl, hc, hm, hl, hn, hv, h0, hcl⟩
    · go_enter Oacg.func42, Oacg.ntmps42
      go_wp2_with fail
      refine (trim_nat 0 _ _ H.out).mono ?_
      rintro e w' ⟨rfl, rfl⟩
      go_wp2_with fail
      go_ret
      exact ⟨ret_int rfl, rfl⟩
    · omega
  · obtain ⟨l, b, off, cap, m, x, rfl, hlen, hc, hcap, hl, hn, hv, hcl, hx, h0x, hx1⟩ := h.top (by omega)
    have hbits := hide (bits_val hl hlen hx h0x)
    rw [hv] at hbits
    have hcx := hcl m x hx
    have hb32 : bits x ≤ 32 := bits_le_of_lt hx1
    have hm : m < 1099511627776 := by omega
    have hw := width32_any x (by omega) (by omega)
    rw [Int.toNat_natCast] at hw
    have HW := hide hw
    clear hw
    clear hlen hl hn hv hcl hx h0x h0 hc hcap h
    generalize bits x = bx at *
    go_enter Oacg.func42, Oacg.ntmps42
    go_wp2_with fail
    refine (trim_nat n _ _ H.out).mono ?_
    rintro e w' ⟨rfl, rfl⟩
    go_wp2_with fail
    refine (HW.out _).mono ?_
    rintro e w' ⟨rfl, rfl⟩
    go_wp2_with fail
    go_ret
    exact ⟨ret_int (by rw [hbits.out]; omega), rfl⟩
end Go.Proofs.YgcoacGreat
