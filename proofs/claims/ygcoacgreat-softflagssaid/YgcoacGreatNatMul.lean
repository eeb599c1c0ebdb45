/-
  nat.Mul.
-/
import Derived.Test.YgcoacGreatNatSub
import Derived.Deep.QuietTactic
import Derived.BigQuiet
namespace Go.Proofs.YgcoacGreat
open Go.RowKit
set_option linter.unusedSimpArgs false
set_option linter.unusedVariables false

/-- The outer loop: the first k limbs of a are through. -/
def MulInv (la lb L : List Nat) (k : Nat) : Prop := Lim L ∧ val (L.take (k + lb.length)) = val (la.take k) * val lb
/-- The inner loop: j limbs of b are through, times x. -/
def MulIn (L0 lb L : List Nat) (k x j c : Nat) : Prop := Lim L ∧ L.drop (k + j) = L0.drop (k + j) ∧ val (L.take (k + j)) + W (k + j) * c = val (L0.take (k + j)) + W k * (x * val (lb.take j))

theorem mulInv_zero (la lb : List Nat) (n : Nat) : MulInv la lb (zeros n) 0 := by
  refine ⟨zeros_lim n, ?_⟩
  have : (zeros n).take (0 + lb.length) = zeros (min (0 + lb.length) n) := by simp [zeros]
  rw [this, zeros_val]
  simp [val]
theorem mulIn_zero {L0 : List Nat} (lb : List Nat) (k x : Nat) (h : Lim L0) : MulIn L0 lb L0 k x 0 0 := ⟨h, rfl, by simp [val]⟩
theorem get_of_drop {L L0 : List Nat} {n : Nat} (h : L.drop n = L0.drop n) : L[n]? = L0[n]? := by
  have := congrArg (fun l : List Nat => l[0]?) h
  simpa [List.getElem?_drop] using this
theorem drop_succ_of {L L0 : List Nat} {n : Nat} (h : L.drop n = L0.drop n) : L.drop (n + 1) = L0.drop (n + 1) := by
  have := congrArg (fun l : List Nat => l.drop 1) h
  simpa [List.drop_drop] using this
theorem drop_set_past {L : List Nat} {n : Nat} (x : Nat) : (L.set n x).drop (n + 1) = L.drop (n + 1) := by
  rw [List.drop_set_of_lt (Nat.lt_succ_self n)]
theorem mul_limb {w v r r0 c x s t y z : Nat} (h : r + w * c = r0 + v * (x * t)) (u : Nat) (hw : w = v * u) (hs : s = c + (x * y + z)) :
    r + w * (s % 4294967296) + (4294967296 * w) * (s / 4294967296) = r0 + w * z + v * (x * (t + u * y)) := by
  have e : w * s = w * (s % 4294967296) + (4294967296 * w) * (s / 4294967296) := by
    rw [Nat.mul_comm 4294967296 w, Nat.mul_assoc, ← Nat.mul_add, Nat.add_comm, Nat.div_add_mod]
  have e2 : w * s = w * c + (w * (x * y) + w * z) := by rw [hs, Nat.mul_add, Nat.mul_add]
  have e3 : v * (x * (t + u * y)) = v * (x * t) + w * (x * y) := by
    rw [Nat.mul_add, Nat.mul_add, hw]
    congr 1
    simp only [Nat.mul_left_comm, Nat.mul_comm]
  omega
theorem mulIn_step {L0 lb L : List Nat} {k x j c y z : Nat} (h : MulIn L0 lb L k x j c) (hz : L[k + j]? = some z) (hy : lb[j]? = some y) :
    MulIn L0 lb (L.set (k + j) ((c + (x * y + z)) % 4294967296)) k x (j + 1) ((c + (x * y + z)) / 4294967296) := by
  obtain ⟨h1, h2, h3⟩ := h
  have hlt := lt_of_get hz
  refine ⟨h1.set _ (by omega), ?_, ?_⟩
  · rw [← Nat.add_assoc, drop_set_past]; exact drop_succ_of h2
  · have hz0 : L0[k + j]? = some z := by rw [← get_of_drop h2]; exact hz
    rw [← Nat.add_assoc, val_take_set hlt, val_take_succ hz0, val_take_succ hy, W_succ]
    exact mul_limb h3 (W j) (W_add k j) rfl
theorem mulIn_carry {c x y z : Nat} (hc : c < 4294967296) (hx : x < 4294967296) (hy : y < 4294967296) (hz : z < 4294967296) : (c + (x * y + z)) / 4294967296 < 4294967296 := by
  have : x * y ≤ 4294967295 * 4294967295 := Nat.mul_le_mul (by omega) (by omega)
  omega
theorem mulInv_step {la lb L0 L : List Nat} {k x c : Nat} (h0 : MulInv la lb L0 k) (h : MulIn L0 lb L k x lb.length c) (hx : la[k]? = some x) (hL : k + lb.length < L.length) (hc : c < 4294967296) :
    MulInv la lb (L.set (k + lb.length) c) (k + 1) := by
  obtain ⟨h1, h2, h3⟩ := h
  refine ⟨h1.set _ hc, ?_⟩
  rw [show k + 1 + lb.length = k + lb.length + 1 by omega, val_take_set hL, h3, h0.2, val_take_succ hx, val_take_all (Nat.le_refl lb.length), Nat.add_mul, Nat.mul_assoc]
theorem mulInv_end {la lb L : List Nat} (h : MulInv la lb L la.length) (hL : L.length = la.length + lb.length) : Lim L ∧ val L = val la * val lb := by
  obtain ⟨h1, h2⟩ := h
  refine ⟨h1, ?_⟩
  rw [val_take_all (L := L) (by omega), val_take_all (Nat.le_refl _)] at h2
  exact h2
theorem mul_bound {x y : Nat} (hx : x < 4294967296) (hy : y < 4294967296) : 0 ≤ (x : Int) * (y : Int) ∧ (x : Int) * (y : Int) ≤ 18446744065119617025 := by
  have h : x * y ≤ 4294967295 * 4294967295 := Nat.mul_le_mul (by omega) (by omega)
  rw [← Int.natCast_mul]
  omega

set_option maxHeartbeats 1000000 in
theorem mul_any (A B ka kb : Nat) (hA : A < W ka) (hB : B < W kb) (hka : ka ≤ 1073741824) (hkb : kb ≤ 1073741824) (va vb : Value) (w : World) (ha : NatAt w va A) (hb : NatAt w vb B) :
    Calls Oacg.prog 61 #[va, vb] w fun e w' => (∃ v, e = .returned v ∧ NatAt w' v (A * B)) ∧ Ext w w' := by
  have HA := hide ha
  have HB := hide hb
  obtain ⟨p, ca, la, rfl, hca, hcam, llla, nla, rfl, ha1⟩ := ha.open
  obtain ⟨q, cb, lb, rfl, hcb, hcbm, lllb, nlb, rfl, hb1⟩ := hb.open
  have HA1 := hide ha1
  have HB1 := hide hb1
  clear ha hb ha1 hb1
  have hla : la.length ≤ 1073741824 := Nat.le_trans (length_le nla hA) hka
  have hlb : lb.length ≤ 1073741824 := Nat.le_trans (length_le nlb hB) hkb
  clear hA hB hka hkb
  have hmk := make_nat (la.length + lb.length) (by omega)
  rw [show ((la.length + lb.length : Nat) : Int) = (la.length : Int) + (lb.length : Int) from rfl] at hmk
  go_enter Oacg.func61, Oacg.ntmps61
  go_wp2_with fail
  refine (trim_nat _ _ _ HA.out).mono ?_
  rintro e w1 ⟨rfl, hw1⟩
  rw [hw1]
  clear hw1 w1
  go_wp2_with fail
  refine (trim_nat _ _ _ HB.out).mono ?_
  rintro e w1 ⟨rfl, hw1⟩
  rw [hw1]
  clear hw1 w1
  go_wp2_with fail
  go_loopw [21] (fun i wr => ∃ k : Nat, ∃ L : List Nat, k ≤ la.length ∧ i = .int .i64 k ∧ Hid (L.length = la.length + lb.length) ∧ Hid (MulInv la lb L k) ∧ Hid (OwnAt wr w.heap.size L) ∧ Hid (Ext w wr)) (fun i _ => (la.length - intOf i).toNat)
  case atStart => exact ⟨0, zeros (la.length + lb.length), Nat.zero_le _, rfl, zeros_length _, mulInv_zero _ _ _, OwnAt.new _ _, (Ext.refl _).alloc _ _⟩
  case round =>
    obtain ⟨k, L0, hk, rfl, HL0, HI0, HO0, HE0⟩ := hrel
    obtain ⟨wo, rfl⟩ : ∃ wo : World, wo = wr := ⟨_, rfl⟩
    by_cases hlt : k < la.length
    · have i1 : (k : Int) < (la.length : Int) := by omega
      obtain ⟨b, off, rfl, hcl⟩ : ∃ b off, p = some ⟨b, off, none⟩ ∧ cellsAt w b off la := by
        rcases HA1.out with ⟨h, _⟩ | ⟨_, _, h⟩
        · rw [h] at hlt; simp at hlt
        · exact h
      obtain ⟨x, gx⟩ := get_some hlt
      have CX := hide (hcl k _ gx)
      have x1 := llla.at gx
      have GX := hide gx
      clear gx hcl
      go_wp2_with fail
      go_loopw [7, 26] (fun c i wr => ∃ j cc : Nat, ∃ L : List Nat, j ≤ lb.length ∧ i = .int .i64 j ∧ c = .int .u64 cc ∧ cc < 4294967296 ∧ Hid (L.length = la.length + lb.length) ∧ Hid (MulIn L0 lb L k x j cc) ∧ Hid (OwnAt wr w.heap.size L) ∧ Hid (Ext w wr)) (fun _ i _ => (lb.length - intOf i).toNat)
      case atStart => exact ⟨0, 0, L0, Nat.zero_le _, rfl, rfl, by decide, HL0, mulIn_zero lb k x HI0.out.1, HO0, HE0⟩
      case round =>
        obtain ⟨j, c, L, hj, rfl, rfl, hc1, HL, HI, HO, HE⟩ := hrel
        by_cases hlt2 : j < lb.length
        · have i2 : (j : Int) < (lb.length : Int) := by omega
          obtain ⟨b2, off2, rfl, hcl2⟩ : ∃ b off, q = some ⟨b, off, none⟩ ∧ cellsAt w b off lb := by
            rcases HB1.out with ⟨h, _⟩ | ⟨_, _, h⟩
            · rw [h] at hlt2; simp at hlt2
            · exact h
          obtain ⟨y, gy⟩ := get_some hlt2
          have c2 := HE.out.cell (hcl2 j _ gy)
          have y1 := lllb.at gy
          have GY := hide gy
          have c1 := HE.out.cell CX.out
          obtain ⟨z, gz⟩ := get_some (show k + j < L.length by have := HL.out; omega)
          have c3 := HO.out.cell gz
          have f3 := HO.out.frozen (k + j)
          have z1 := HI.out.1.at gz
          have GZ := hide gz
          have i3 : (k : Int) + (j : Int) < (la.length : Int) + (lb.length : Int) := by omega
          clear gz gy hcl2
          obtain ⟨m1, m2⟩ := mul_bound x1 y1
          go_wp2_with fail
          go_quiet (fail)
          go_wp2_with fail
          go_roundw
          case rel => exact ⟨j + 1, (c + (x * y + z)) / 4294967296, L.set (k + j) ((c + (x * y + z)) % 4294967296), by omega, by go_num, by rw [← Int.natCast_mul]; go_num, mulIn_carry hc1 x1 y1 z1, by have := HL.out; show _ = _; simpa using this, mulIn_step HI.out GZ.out GY.out, (HO.out.drewN nq).set' (k + j) _ _ (by rw [← Int.natCast_mul]; omega), (HE.out.drewN nq).setCell (Nat.le_refl _) _⟩
          case measure => simp [intOf]; omega
        · obtain rfl : j = lb.length := by omega
          obtain ⟨z, gz⟩ := get_some (show k + lb.length < L.length by have := HL.out; omega)
          have c3 := HO.out.cell gz
          have f3 := HO.out.frozen (k + lb.length)
          have i3 : (k : Int) + (lb.length : Int) < (la.length : Int) + (lb.length : Int) := by omega
          have HKL := hide (lt_of_get gz)
          clear gz
          go_wp2_with fail
          go_roundw
          case rel => exact ⟨k + 1, L.set (k + lb.length) c, by omega, by go_num, by have := HL.out; show _ = _; simpa using this, mulInv_step HI0.out HI.out GX.out HKL.out hc1, HO.out.set' (k + lb.length) _ _ (by omega), HE.out.setCell (Nat.le_refl _) _⟩
          case measure => simp [intOf]; omega
    · obtain rfl : k = la.length := by omega
      have hend := mulInv_end HI0.out HL0.out
      have ht := trim_raw (some ⟨w.heap.size, 0, none⟩) (la.length + lb.length) L0 wo (by have := HL0.out; omega) (by omega) hend.1 (.inr ⟨_, _, rfl, HO0.out.cellsAt⟩)
      rw [hend.2, HL0.out] at ht
      have HT := hide ht
      clear ht hend
      go_wp2_with fail
      refine HT.out.mono ?_
      rintro e w1 ⟨⟨v, rfl, hv⟩, hw1⟩
      rw [hw1]
      have HV := hide hv
      clear hw1 w1 hv
      go_wp2_with fail
      go_ret
      exact ⟨⟨_, rfl, HV.out⟩, HE0.out⟩
end Go.Proofs.YgcoacGreat
