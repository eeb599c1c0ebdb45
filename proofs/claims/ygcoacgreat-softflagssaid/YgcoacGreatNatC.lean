/-
  nat.Bit (at 0), nat.Cmp.
-/
import Derived.Test.YgcoacGreatNatB
import Derived.Deep.QuietTactic
import Derived.BigQuiet
namespace Go.Proofs.YgcoacGreat
open Go.RowKit
set_option linter.unusedSimpArgs false
set_option linter.unusedVariables false

theorem val_mod2 (x : Nat) (l : List Nat) : val (x :: l) % 2 = x % 2 := by rw [val_cons]; omega

theorem cellsAt.head {w : World} {b off : Nat} {l : List Nat} {x : Nat} (h : cellsAt w b off l) (hx : l[0]? = some x) : w.cell? ⟨b, off, none⟩ = some (.int .u32 (x : Int)) := by
  simpa using h 0 x hx

theorem bit0_any (n : Nat) (v : Value) (w : World) (h : NatAt w v n) :
    Calls Oacg.prog 79 #[v, .int .i64 0] w fun e w' => e = .returned (.bool (decide (n % 2 = 1))) ∧ w' = w := by
  by_cases h0 : n = 0
  · subst h0
    rcases h with ⟨_, rfl⟩ | ⟨l, b, off, cap, rfl, hc, hm, hl, hn, hv, h0, hcl⟩
    · go_enter Oacg.func79, Oacg.ntmps79
      go_wp2_with fail
      go_ret
      exact ⟨rfl, rfl⟩
    · omega
  · obtain ⟨l, b, off, cap, m, x, rfl, hlen, hc, hcap, hl, hn, hv, hcl, hx, h0x, hx1⟩ := h.top (by omega)
    obtain ⟨y, l', rfl⟩ : ∃ y l', l = y :: l' := by
      cases l with
      | nil => simp at hlen
      | cons y l' => exact ⟨y, l', rfl⟩
    have hcx := hcl.head (x := y) rfl
    have hp := hide (val_mod2 y l')
    rw [hv] at hp
    have hy := hl.head
    clear hlen hl hn hv hcl hx h0x h0 hc hcap h
    go_enter Oacg.func79, Oacg.ntmps79
    go_wp2_with fail
    go_ret
    refine ⟨ret_bool ?_, rfl⟩
    rw [hp.out, u32_and y 1 (by omega) (by omega) (by decide) (by decide)]
    simp only [Int.toNat_natCast, Int.toNat_one, nat_mask1]
    rw [Bool.eq_iff_iff]
    simp
    omega

theorem drewN2 (w : World) (n m : Nat) : (w.drewN n).drewN m = w.drewN (n + m) := by simp [World.drewN, Nat.add_assoc]
theorem drewN3 (w : World) (n m k : Nat) : ((w.drewN n).drewN m).drewN k = w.drewN (n + m + k) := by rw [drewN2, drewN2, Nat.add_assoc]

def cmpI (a b : Nat) : Int := if a < b then -1 else if a = b then 0 else 1

theorem cmpI_lt {a b : Nat} (h : a < b) : cmpI a b = -1 := by simp [cmpI, h]
theorem cmpI_gt {a b : Nat} (h : b < a) : cmpI a b = 1 := by
  unfold cmpI; rw [if_neg (by omega), if_neg (by omega)]
theorem cmpI_eq {a b : Nat} (h : a = b) : cmpI a b = 0 := by simp [cmpI, h]

theorem val_split {l : List Nat} {m x : Nat} (hx : l[m]? = some x) : val l = val (l.take m) + W m * (x + 4294967296 * val (l.drop (m + 1))) ∧ (l.take m).length = m := by
  have hlt : m < l.length := by
    rcases Nat.lt_or_ge m l.length with h | h
    · exact h
    · simp [List.getElem?_eq_none h] at hx
  have hlen : (l.take m).length = m := by rw [List.length_take]; omega
  refine ⟨?_, hlen⟩
  have e : l.drop m = x :: l.drop (m + 1) := by
    rw [List.getElem?_eq_getElem hlt] at hx
    have hx' : l[m] = x := by simpa using hx
    rw [List.drop_eq_getElem_cons hlt, hx']
  conv => lhs; rw [← List.take_append_drop m l, val_append, hlen, e, val_cons]

theorem val_lt_of_top {a b : List Nat} {m x y : Nat} (la : Lim a) (hx : a[m]? = some x) (hy : b[m]? = some y) (hd : a.drop (m + 1) = b.drop (m + 1)) (h : x < y) : val a < val b := by
  obtain ⟨e1, l1⟩ := val_split hx
  obtain ⟨e2, l2⟩ := val_split hy
  have h1 := val_lt (la.take m)
  rw [l1] at h1
  rw [e1, e2, hd]
  generalize val (b.drop (m + 1)) = t
  have : W m * (x + 4294967296 * t + 1) ≤ W m * (y + 4294967296 * t) := Nat.mul_le_mul_left _ (by omega)
  rw [Nat.mul_add, Nat.mul_one] at this
  omega
theorem val_lt_of_len {a b : List Nat} (la : Lim a) (nb : Norm b) (h : a.length < b.length) : val a < val b := by
  have h1 := val_lt la
  have h2 := val_ge nb (by intro e; subst e; simp at h)
  have := W_mono (show a.length ≤ b.length - 1 by omega)
  omega

theorem drop_step {a b : List Nat} {m x : Nat} (hx : a[m]? = some x) (hy : b[m]? = some x) (hd : a.drop (m + 1) = b.drop (m + 1)) : a.drop m = b.drop m := by
  have f : ∀ {l : List Nat}, l[m]? = some x → l.drop m = x :: l.drop (m + 1) := by
    intro l h
    have hlt : m < l.length := by
      rcases Nat.lt_or_ge m l.length with h' | h'
      · exact h'
      · simp [List.getElem?_eq_none h'] at h
    rw [List.getElem?_eq_getElem hlt] at h
    have h' : l[m] = x := by simpa using h
    rw [List.drop_eq_getElem_cons hlt, h']
  rw [f hx, f hy, hd]

set_option maxHeartbeats 800000 in
theorem cmp_any (A B : Nat) (va vb : Value) (w : World) (ha : NatAt w va A) (hb : NatAt w vb B) :
    Calls Oacg.prog 51 #[va, vb] w fun e w' => e = .returned (.int .i8 (cmpI A B)) ∧ ∃ n, w' = w.drewN n := by
  have HA := hide ha
  have HB := hide hb
  obtain ⟨p, ca, la, rfl, hca, hcam, lla, nla, rfl, ha1⟩ := ha.open
  obtain ⟨q, cb, lb, rfl, hcb, hcbm, llb, nlb, rfl, hb1⟩ := hb.open
  clear ha hb
  by_cases hlen : la.length = lb.length
  · have h2 : ((la.length : Int) != (lb.length : Int)) = false := by simp [hlen]
    have HL := hide hlen
    have HA1 := hide ha1
    have HB1 := hide hb1
    clear ha1 hb1 hlen
    go_enter Oacg.func51, Oacg.ntmps51
    go_wp2_with fail
    refine (trim_nat _ _ _ HA.out).mono ?_
    rintro e w' ⟨rfl, rfl⟩
    go_wp2_with fail
    refine (trim_nat _ _ _ HB.out).mono ?_
    rintro e w' ⟨rfl, rfl⟩
    go_wp2_with fail
    go_loopw [5] (fun i wr => ∃ k : Nat, k ≤ la.length ∧ i = .int .i64 ((k : Int) - 1) ∧ Hid (la.drop k = lb.drop k) ∧ ∃ n, wr = World.drewN _ n) (fun i _ => (intOf i + 1).toNat)
    case atStart => exact ⟨la.length, Nat.le_refl _, rfl, by show _ = _; rw [List.drop_of_length_le (Nat.le_refl _), List.drop_of_length_le (by have := HL.out; omega)], 0, rfl⟩
    case round =>
      obtain ⟨k, hk, rfl, hd, n, rfl⟩ := hrel
      rcases k with _ | m
      · go_wp2_with fail
        go_ret
        refine ⟨ret_int (cmpI_eq ?_).symm, n, rfl⟩
        have := hd.out
        rw [List.drop_zero, List.drop_zero] at this
        rw [this]
      · have hm : m < la.length := by omega
        have hm2 : m < lb.length := by have := HL.out; omega
        have gx : la[m]? = some la[m] := List.getElem?_eq_getElem hm
        have gy : lb[m]? = some lb[m] := List.getElem?_eq_getElem hm2
        obtain ⟨b, off, rfl, hcl⟩ : ∃ b off, p = some ⟨b, off, none⟩ ∧ cellsAt _ b off la := by
          rcases HA1.out with ⟨h, _⟩ | ⟨_, _, h⟩
          · rw [h] at hm; simp at hm
          · exact h
        obtain ⟨b2, off2, rfl, hcl2⟩ : ∃ b off, q = some ⟨b, off, none⟩ ∧ cellsAt _ b off lb := by
          rcases HB1.out with ⟨h, _⟩ | ⟨_, _, h⟩
          · rw [h] at hm2; simp at hm2
          · exact h
        have c1 := hcl m _ gx
        have c2 := hcl2 m _ gy
        have i1 : (m : Int) < (la.length : Int) := by omega
        have i2 : (m : Int) < (lb.length : Int) := by omega
        clear hcl hcl2
        have GX := hide gx
        have GY := hide gy
        clear gx gy
        generalize la[m] = x at *
        generalize lb[m] = y at *
        by_cases hlt : x < y
        · have t1 : (x : Int) < (y : Int) := by omega
          go_wp2_with fail
          go_quiet (fail)
          go_wp2_with fail
          go_ret
          exact ⟨ret_int (cmpI_lt (val_lt_of_top lla GX.out GY.out hd.out hlt)).symm, _, drewN2 _ _ _⟩
        · have t1 : ¬ (x : Int) < (y : Int) := by omega
          by_cases hgt : y < x
          · have t2 : (y : Int) < (x : Int) := by omega
            go_wp2_with fail
            go_quiet (fail)
            go_wp2_with fail
            go_quiet (fail)
            go_wp2_with fail
            go_ret
            exact ⟨ret_int (cmpI_gt (val_lt_of_top llb GY.out GX.out hd.out.symm hgt)).symm, _, drewN3 _ _ _ _⟩
          · obtain rfl : x = y := by omega
            go_wp2_with fail
            go_quiet (fail)
            go_wp2_with fail
            go_quiet (fail)
            go_wp2_with fail
            go_roundw
            case rel => exact ⟨m, by omega, by go_num, drop_step GX.out GY.out hd.out, _, rfl⟩
            case measure => simp [intOf]
  · have h2 : ((la.length : Int) != (lb.length : Int)) = true := by simp; omega
    have HL := hide hlen
    clear ha1 hb1 hlen
    have hcase : la.length < lb.length ∨ lb.length < la.length := by have := HL.out; omega
    rcases hcase with hlt | hgt
    · have t1 : (la.length : Int) < (lb.length : Int) := by omega
      go_enter Oacg.func51, Oacg.ntmps51
      go_wp2_with fail
      refine (trim_nat _ _ _ HA.out).mono ?_
      rintro e w' ⟨rfl, rfl⟩
      go_wp2_with fail
      refine (trim_nat _ _ _ HB.out).mono ?_
      rintro e w' ⟨rfl, rfl⟩
      go_wp2_with fail
      go_ret
      exact ⟨ret_int (cmpI_lt (val_lt_of_len lla nlb hlt)).symm, 0, rfl⟩
    · have t1 : ¬ (la.length : Int) < (lb.length : Int) := by omega
      go_enter Oacg.func51, Oacg.ntmps51
      go_wp2_with fail
      refine (trim_nat _ _ _ HA.out).mono ?_
      rintro e w' ⟨rfl, rfl⟩
      go_wp2_with fail
      refine (trim_nat _ _ _ HB.out).mono ?_
      rintro e w' ⟨rfl, rfl⟩
      go_wp2_with fail
      go_ret
      exact ⟨ret_int (cmpI_gt (val_lt_of_len llb nla hgt)).symm, 0, rfl⟩
end Go.Proofs.YgcoacGreat
