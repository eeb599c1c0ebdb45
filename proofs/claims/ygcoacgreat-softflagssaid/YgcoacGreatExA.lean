/-
  exact.toU64, shift, log2, raises, floor.
-/
import Derived.Test.YgcoacGreatIeeeV
import Derived.Test.YgcoacGreatNatDiv
namespace Go.Proofs.YgcoacGreat
open Go.RowKit
set_option linter.unusedSimpArgs false
set_option linter.unusedVariables false
attribute [local go_sem] nil_eq nil_ne

theorem toU64_any (n : Nat) (v : Value) (w : World) (h : NatAt w v n) :
    Calls Oacg.prog 44 #[v] w fun e w' => e = .returned (.int .u64 ((n % 18446744073709551616 : Nat) : Int)) ∧ w' = w := by
  rcases h with ⟨rfl, rfl⟩ | ⟨l, b, off, cap, rfl, hc, hm, hl, hn, rfl, h0, hcl⟩
  · go_enter Oacg.func44, Oacg.ntmps44
    go_wp2
    go_ret
    exact ⟨rfl, rfl⟩
  · match l, hl, h0, hcl with
    | [], _, h0, _ => simp [val] at h0
    | [x], hl, h0, hcl =>
      have c0 := hcl 0 x rfl
      rw [Nat.add_zero] at c0
      have hx := hl x (by simp)
      have hv : val [x] % 18446744073709551616 = x := by simp only [val]; omega
      rw [hv]
      have ho := or_limbs (a := 0) (b := x) (by decide) hx
      rw [Nat.zero_mul, Nat.zero_add, show ((0 : Nat) : Int) * 4294967296 = 0 from rfl] at ho
      clear hcl hc hm hn h0 hv
      go_enter Oacg.func44, Oacg.ntmps44
      go_wp2
      go_ret
      exact ⟨rfl, rfl⟩
    | x :: y :: r, hl, h0, hcl =>
      have c0 := hcl 0 x rfl
      rw [Nat.add_zero] at c0
      have c1 := hcl 1 y rfl
      have hx := hl x (by simp)
      have hy := hl y (by simp)
      have hv : val (x :: y :: r) % 18446744073709551616 = y * 4294967296 + x := by simp only [val]; omega
      rw [hv]
      have ho := or_limbs (a := y) (b := x) hy hx
      have hlen : (x :: y :: r).length = r.length + 2 := rfl
      rw [hlen]
      have hl1 : (1 : Int) < (r.length : Int) + 2 := by omega
      clear hcl hc hm hn h0 hv hlen hl
      go_enter Oacg.func44, Oacg.ntmps44
      go_wp2
      go_ret
      exact ⟨rfl, rfl⟩

/-! ### shift -/
def shN (n : Nat) (k : Int) : Nat := n * 2 ^ k.toNat
def shD (d : Nat) (k : Int) : Nat := d * 2 ^ (-k).toNat
def TwoR (a b : Nat) (v : Value) (w' : World) : Prop := ∃ x y, v = .tuple #[x, y] ∧ NatAt w' x a ∧ NatAt w' y b
theorem shift_any (n d kn kd : Nat) (hn : n < W kn) (hd : d < W kd) (hkn : kn ≤ 1073741824) (hkd : kd ≤ 1073741824) (k : Int) (h1 : -65535 ≤ k) (h2 : k ≤ 65535) (va vb : Value) (w : World) (ha : NatAt w va n) (hb : NatAt w vb d) :
    Calls Oacg.prog 73 #[va, vb, .int .i64 k] w fun e w' => (∃ v, e = .returned v ∧ TwoR (shN n k) (shD d k) v w') ∧ Ext w w' := by
  have HA := hide ha
  have HB := hide hb
  by_cases hk : k < 0
  · obtain ⟨j, hj⟩ : ∃ j : Nat, -k = (j : Int) := ⟨(-k).toNat, by omega⟩
    have HS := hide (shl_any d kd hd hkd j (by omega) vb w hb)
    have e1 : shN n k = n := by unfold shN; rw [show k.toNat = 0 by omega]; simp
    have e2 : shD d k = d * 2 ^ j := by unfold shD; rw [show (-k).toNat = j by omega]
    rw [e1, e2]
    have hj2 : (j : Int) ≤ 65535 := by omega
    clear ha hb e1 e2 hn hd
    go_enter Oacg.func73, Oacg.ntmps73
    go_wp2_with fail
    refine HS.out.mono ?_
    rintro _ w1 ⟨⟨v, rfl, hv⟩, hx⟩
    have HR : Hid (TwoR n (d * 2 ^ j) (.tuple #[va, v]) w1) := ⟨_, _, rfl, HA.out.ext hx, hv⟩
    have HX := hide hx
    clear hv hx
    go_wp2_with fail
    simp [bodyPost, results, Oacg.results73, go_sem]
    exact ⟨HR.out, HX.out⟩
  · obtain ⟨j, rfl⟩ : ∃ j : Nat, k = (j : Int) := ⟨k.toNat, by omega⟩
    have HS := hide (shl_any n kn hn hkn j (by omega) va w ha)
    have e1 : shN n j = n * 2 ^ j := by unfold shN; rw [Int.toNat_natCast]
    have e2 : shD d j = d := by unfold shD; rw [show (-(j : Int)).toNat = 0 by omega]; simp
    rw [e1, e2]
    clear ha hb e1 e2 hn hd
    go_enter Oacg.func73, Oacg.ntmps73
    go_wp2_with fail
    refine HS.out.mono ?_
    rintro _ w1 ⟨⟨v, rfl, hv⟩, hx⟩
    have HR : Hid (TwoR (n * 2 ^ j) d (.tuple #[v, vb]) w1) := ⟨_, _, rfl, hv, HB.out.ext hx⟩
    have HX := hide hx
    clear hv hx
    go_wp2_with fail
    simp [bodyPost, results, Oacg.results73, go_sem]
    exact ⟨HR.out, HX.out⟩

/-! ### log2 -/
def log2Q (n d : Nat) (lo hi : Int) : Int :=
  if hi + 1 < (bits n : Int) - (bits d : Int) then hi + 1
  else if (bits n : Int) - (bits d : Int) < lo then lo - 1
  else if shN n (-((bits n : Int) - (bits d : Int))) < shD d (-((bits n : Int) - (bits d : Int))) then (bits n : Int) - (bits d : Int) - 1 else (bits n : Int) - (bits d : Int)
theorem bits_W {n k : Nat} (h : n < W k) : bits n ≤ 32 * k := by
  rw [W_pow] at h
  exact bits_le_of_lt h
theorem log2_any (n d kn kd : Nat) (hn : n < W kn) (hd : d < W kd) (hkn : kn ≤ 1073741824) (hkd : kd ≤ 1073741824) (lo hi : Int) (l1 : -60000 ≤ lo) (l2 : lo ≤ 60000) (h1 : -60000 ≤ hi) (h2 : hi ≤ 60000) (va vb : Value) (w : World) (ha : NatAt w va n) (hb : NatAt w vb d) :
    Calls Oacg.prog 38 #[va, vb, .int .i64 lo, .int .i64 hi] w fun e w' => e = .returned (.int .i64 (log2Q n d lo hi)) ∧ Ext w w' := by
  have b1 := bits_W hn
  have b2 := bits_W hd
  have HBA := hide (bitLen_any n va w ha)
  have HBB := hide (bitLen_any d vb w hb)
  have q1 : (bits n : Int) ≤ 34359738368 := by omega
  have q2 : (bits d : Int) ≤ 34359738368 := by omega
  have HL : Hid (∀ x, (bits n : Int) - (bits d : Int) = x → log2Q n d lo hi = if hi + 1 < x then hi + 1 else if x < lo then lo - 1 else if shN n (-x) < shD d (-x) then x - 1 else x) := by
    intro x hx; subst hx; rfl
  have HSF := hide (fun k k1 k2 => shift_any n d kn kd hn hd hkn hkd k k1 k2 va vb w ha hb)
  have q3 : (0 : Int) ≤ (bits n : Int) := by omega
  have q4 : (0 : Int) ≤ (bits d : Int) := by omega
  obtain ⟨x, hx⟩ : ∃ x, (bits n : Int) - (bits d : Int) = x := ⟨_, rfl⟩
  have hL := HL.out x hx
  rw [hL]
  clear hL HL b1 b2 ha hb hn hd
  generalize (bits n : Int) = bn at *
  generalize (bits d : Int) = bd at *
  by_cases c1 : hi + 1 < x
  · rw [if_pos c1]
    go_enter Oacg.func38, Oacg.ntmps38
    go_wp2_with fail
    refine HBA.out.mono ?_
    rintro _ _ ⟨rfl, hw1⟩
    rw [hw1]
    clear hw1
    go_wp2_with fail
    refine HBB.out.mono ?_
    rintro _ _ ⟨rfl, hw1⟩
    rw [hw1]
    clear hw1
    go_wp2_with fail
    go_ret
    exact ⟨rfl, Ext.refl _⟩
  rw [if_neg c1]
  by_cases c2 : x < lo
  · rw [if_pos c2]
    go_enter Oacg.func38, Oacg.ntmps38
    go_wp2_with fail
    refine HBA.out.mono ?_
    rintro _ _ ⟨rfl, hw1⟩
    rw [hw1]
    clear hw1
    go_wp2_with fail
    refine HBB.out.mono ?_
    rintro _ _ ⟨rfl, hw1⟩
    rw [hw1]
    clear hw1
    go_wp2_with fail
    go_ret
    exact ⟨rfl, Ext.refl _⟩
  rw [if_neg c2]
  have HSF' := hide (HSF.out (-x) (by omega) (by omega))
  clear HSF
  obtain ⟨a, ha⟩ : ∃ a, shN n (-x) = a := ⟨_, rfl⟩
  obtain ⟨b, hb⟩ : ∃ b, shD d (-x) = b := ⟨_, rfl⟩
  rw [ha, hb] at HSF' ⊢
  clear ha hb
  go_enter Oacg.func38, Oacg.ntmps38
  go_wp2_with fail
  refine HBA.out.mono ?_
  rintro _ _ ⟨rfl, hw1⟩
  rw [hw1]
  clear hw1
  go_wp2_with fail
  refine HBB.out.mono ?_
  rintro _ _ ⟨rfl, hw1⟩
  rw [hw1]
  clear hw1
  go_wp2_with fail
  refine HSF'.out.mono ?_
  rintro _ w1 ⟨⟨v, rfl, va', vb', rfl, hva, hvb⟩, hx1⟩
  have HC := hide (cmp_any a b va' vb' w1 hva hvb)
  have HX := hide hx1
  clear hva hvb hx1
  by_cases c3 : a < b
  · rw [cmpI_lt c3] at HC
    go_wp2_with fail
    refine HC.out.mono ?_
    rintro _ _ ⟨rfl, m, hw1⟩
    rw [hw1]
    clear hw1
    go_wp2_with fail
    go_ret
    exact ⟨rfl, HX.out.drewN m⟩
  · obtain ⟨z, hcm, hz⟩ : ∃ z : Int, cmpI a b = z ∧ 0 ≤ z := ⟨_, rfl, by unfold cmpI; split <;> (try split) <;> omega⟩
    rw [hcm] at HC
    clear hcm
    go_wp2_with fail
    refine HC.out.mono ?_
    rintro _ _ ⟨rfl, m, hw1⟩
    rw [hw1]
    clear hw1
    go_wp2_with fail
    go_ret
    exact ⟨rfl, HX.out.drewN m⟩

/-! ### raises -/
def raisesQ (mode : Int) (neg odd : Bool) (half : Int) (sm : Bool) : Bool :=
  if mode == 1 then decide (0 ≤ half) else if mode == 2 then false else if mode == 3 then (sm && !neg) else if mode == 4 then (sm && neg) else (decide (0 < half) || (half == 0 && odd))
theorem raises_any (mode : Int) (neg odd : Bool) (half : Int) (sm : Bool) (w : World) :
    Calls Oacg.prog 78 #[.int .u8 mode, .bool neg, .bool odd, .agg #[.int .i8 half, .bool sm]] w fun e w' => e = .returned (.bool (raisesQ mode neg odd half sm)) ∧ w' = w.alloc (.cells #[.int .i8 half, .bool sm] 68) := by
  unfold raisesQ
  go_enter Oacg.func78, Oacg.ntmps78
  go_wp2
  all_goals
    go_ret
    refine ⟨ret_bool ?_, rfl⟩
    simp [*]

/-! ### floor -/
def halfQ (n d : Nat) : Int := cmpI (n % d * 2) d
def someQ (n d : Nat) : Bool := decide (n % d ≠ 0)
def FloorR (q : Nat) (half : Int) (sm : Bool) (v : Value) (w' : World) : Prop := ∃ x, v = .tuple #[x, .agg #[.int .i8 half, .bool sm]] ∧ NatAt w' x q
theorem keeps2 {w : World} {b : Nat} {x0 x1 : Value} (h0 : w.cell? ⟨b, 0, none⟩ = some x0) (h1 : w.cell? ⟨b, 1, none⟩ = some x1) (n0 : noLimb x0 = true) (n1 : noLimb x1 = true) (u0 u1 : Value) :
    Keeps w ((w.setCell ⟨b, 0, none⟩ u0).setCell ⟨b, 1, none⟩ u1) :=
  (keeps_setCell h0 n0 u0).trans (keeps_setCell (u0 := x1) (by rw [World.cell?_setCell_other _ _ _ _ (by simp)]; exact h1) n1 u1)
set_option maxHeartbeats 2000000 in
theorem floor_any (n d kn : Nat) (hn : n < W kn) (hkn : kn ≤ 1073741000) (hd : 0 < d) (va vb : Value) (w : World) (ha : NatAt w va n) (hb : NatAt w vb d) :
    Calls Oacg.prog 84 #[va, vb] w fun e w' => (∃ v, e = .returned v ∧ FloorR (n / d) (halfQ n d) (someQ n d) v w') ∧ Ext w w' := by
  have hE1 : Ext w (w.alloc (.cells #[.int .i8 0, .bool false] 68)) := (Ext.refl w).alloc _ _
  have HD := hide (divMod_any n d kn hn hkn hd va vb _ (ha.ext hE1) (hb.ext hE1))
  have HB := hide hb
  clear ha hb hE1
  have hmd : n % d < W kn := Nat.lt_of_le_of_lt (Nat.mod_le _ _) hn
  unfold halfQ someQ
  obtain ⟨r, hr⟩ : ∃ r, n % d = r := ⟨_, rfl⟩
  obtain ⟨q, hq⟩ : ∃ q, n / d = q := ⟨_, rfl⟩
  rw [hr, hq] at HD ⊢
  rw [hr] at hmd
  clear hr hq hn
  go_enter Oacg.func84, Oacg.ntmps84
  go_wp2_with fail
  refine HD.out.mono ?_
  rintro _ w1 ⟨⟨v, rfl, vq, vr, rfl, hvq, hvr⟩, hx1⟩
  have HS := hide (shl_any r kn hmd (by omega) 1 (by omega) vr w1 hvr)
  have HX1 := hide hx1
  have HQ := hide hvq
  have HB1 := hide (HB.out.ext (((Ext.refl w).alloc _ _).trans hx1))
  have hnz : (∃ b, b = decide (r ≠ 0) ∧ ((vr = .slice none 0 0 ∧ b = false) ∨ (∃ p k c, vr = .slice (some p) k c ∧ b = true))) := by
    rcases hvr with ⟨rfl, rfl⟩ | ⟨l, b, off, cap, rfl, _, _, _, _, _, h0, _⟩
    · exact ⟨_, rfl, .inl ⟨rfl, by simp⟩⟩
    · exact ⟨_, rfl, .inr ⟨_, _, _, rfl, by simp; omega⟩⟩
  obtain ⟨sb, hsb, hvr2⟩ := hnz
  have HSB : Hid (decide (r ≠ 0) = sb) := hsb.symm
  clear hsb
  rw [show r * 2 ^ 1 = r * 2 from rfl] at HS
  clear hvq hx1 hvr HD
  rcases hvr2 with ⟨rfl, rfl⟩ | ⟨p, k, c, rfl, rfl⟩
  all_goals
    go_wp2_with fail
    refine HS.out.mono ?_
    rintro _ w2 ⟨⟨v2, rfl, hv2⟩, hx2⟩
    have HC := hide (cmp_any (r * 2) d v2 vb w2 hv2 (HB1.out.ext hx2))
    have HQ2 := hide (HQ.out.ext hx2)
    have HX2 := hide (HX1.out.trans hx2)
    clear hv2 hx2 HS
    go_wp2_with fail
    refine HC.out.mono ?_
    rintro _ _ ⟨rfl, m, hw3⟩
    rw [hw3]
    clear hw3
    obtain ⟨q1, q2, q3⟩ := HX2.out.rule
    have hz : w.heap.size < w2.heap.size := by have := q3; simp at this; omega
    have d0 : w2.cell? ⟨w.heap.size, 0, none⟩ = some (.int .i8 0) := by rw [q1 _ _ (by simp)]; simp [go_sem]
    have d1 : w2.cell? ⟨w.heap.size, 1, none⟩ = some (.bool false) := by rw [q1 _ _ (by simp)]; simp [go_sem]
    have f0 : ∀ o, w2.frozen? ⟨w.heap.size, o, none⟩ = false := fun o => by rw [q2]; simp [go_sem]
    have HK := hide (keeps2 (w := w2.drewN m) (b := w.heap.size) d0 d1 rfl rfl)
    have HX3 : Hid (Ext w w2) := ((Ext.refl w).alloc _ _).trans HX2.out
    clear q1 q2 q3
    go_wp2_with fail
    simp only [HSB.out]
    simp [bodyPost, results, Oacg.results84, go_sem, d0, d1]
    exact ⟨⟨_, rfl, HK.out _ _ _ _ (HQ2.out.ext ((Ext.refl _).drewN m))⟩, ((HX3.out.drewN m).setCell (Nat.le_refl _) _).setCell (Nat.le_refl _) _⟩
end Go.Proofs.YgcoacGreat
