/-
  nat.Sub.
-/
import Derived.Test.YgcoacGreatNatAdd
namespace Go.Proofs.YgcoacGreat
open Go.RowKit
set_option linter.unusedSimpArgs false
set_option linter.unusedVariables false

theorem wu64 (n : Int) : IntKind.u64.wrap n = n % 18446744073709551616 := by simp [IntKind.wrap, IntKind.bits, IntKind.signed]

/-- What a round leaves: the difference's first k limbs and the borrow. -/
def SubInv (la lb L : List Nat) (k c : Nat) : Prop := Lim L ∧ val (L.take k) + val (lb.take k) = val (la.take k) + W k * c

theorem subInv_zero (la lb : List Nat) (n : Nat) : SubInv la lb (zeros n) 0 0 := ⟨zeros_lim n, by simp [val]⟩
theorem sub_limb {w r a b c : Nat} (h : r + b = a + w * c) (x y z d : Nat) (hs : z + y + c = x + 4294967296 * d) : r + w * z + (b + w * y) = a + w * x + (4294967296 * w) * d := by
  have e : w * z + w * y + w * c = w * x + (4294967296 * w) * d := by
    rw [Nat.mul_comm 4294967296 w, Nat.mul_assoc, ← Nat.mul_add, ← Nat.mul_add, ← Nat.mul_add, hs]
  omega
theorem subInv_both {la lb L : List Nat} {k c x y : Nat} (h : SubInv la lb L k c) (hk : k < L.length) (hx : la[k]? = some x) (hy : lb[k]? = some y) (z d : Nat) (hz : z < 4294967296) (hs : z + y + c = x + 4294967296 * d) :
    SubInv la lb (L.set k z) (k + 1) d := by
  obtain ⟨h1, h2⟩ := h
  refine ⟨h1.set k hz, ?_⟩
  rw [val_take_set hk, val_take_succ hx, val_take_succ hy, W_succ]
  exact sub_limb h2 x y z d hs
theorem subInv_one {la lb L : List Nat} {k c x : Nat} (h : SubInv la lb L k c) (hk : k < L.length) (hx : la[k]? = some x) (hy : lb.length ≤ k) (z d : Nat) (hz : z < 4294967296) (hs : z + c = x + 4294967296 * d) :
    SubInv la lb (L.set k z) (k + 1) d := by
  obtain ⟨h1, h2⟩ := h
  refine ⟨h1.set k hz, ?_⟩
  rw [val_take_set hk, val_take_succ hx, W_succ, val_take_all (L := lb) (by omega)]
  rw [val_take_all (L := lb) hy] at h2
  have := sub_limb h2 x 0 z d (by omega)
  simpa using this
theorem subInv_end {la lb L : List Nat} {c : Nat} (h : SubInv la lb L la.length c) (hL : L.length = la.length) (hb : lb.length ≤ la.length) (hle : val lb ≤ val la) :
    Lim L ∧ val L = val la - val lb := by
  obtain ⟨h1, h2⟩ := h
  refine ⟨h1, ?_⟩
  rw [val_take_all (L := la) (Nat.le_refl _), val_take_all (L := lb) hb, val_take_all (L := L) (by omega)] at h2
  have hlt := val_lt h1
  rw [hL] at hlt
  rcases c with _ | c
  · omega
  · exfalso
    have : W la.length * 1 ≤ W la.length * (c + 1) := Nat.mul_le_mul_left _ (by omega)
    omega

set_option maxHeartbeats 400000 in
theorem sub_less (A B : Nat) (va vb : Value) (w : World) (ha : NatAt w va A) (hb : NatAt w vb B) (hlt : A < B) :
    Calls Oacg.prog 90 #[va, vb] w fun e w' => e = .returned (.tuple #[.slice none 0 0, .bool false]) ∧ Ext w w' := by
  have HA := hide ha
  have HB := hide hb
  clear ha hb
  have hc := cmpI_lt hlt
  have HLT := hide hlt
  clear hlt
  go_enter Oacg.func90, Oacg.ntmps90
  go_wp2_with fail
  refine (trim_nat _ _ _ HA.out).mono ?_
  rintro e w1 ⟨rfl, hw1⟩
  rw [hw1]
  clear hw1 w1
  go_wp2_with fail
  refine (trim_nat _ _ _ HB.out).mono ?_
  rintro e w1 ⟨rfl, hw1⟩
  rw [hw1]
  clear hw1 w1
  go_wp2_with fail
  refine (cmp_any A B _ _ _ HA.out HB.out).mono ?_
  rintro e w1 ⟨rfl, n, hw1⟩
  rw [hw1, hc]
  clear hw1 w1
  go_wp2_with fail
  go_ret2
  exact ⟨rfl, (Ext.refl _).drewN n⟩

set_option maxHeartbeats 1000000 in
theorem sub_any (A B ka : Nat) (hA : A < W ka) (hka : ka ≤ 1073741824) (va vb : Value) (w : World) (ha : NatAt w va A) (hb : NatAt w vb B) (hle : B ≤ A) :
    Calls Oacg.prog 90 #[va, vb] w fun e w' => (∃ v, e = .returned (.tuple #[v, .bool true]) ∧ NatAt w' v (A - B)) ∧ Ext w w' := by
  have HA := hide ha
  have HB := hide hb
  obtain ⟨p, ca, la, rfl, hca, hcam, llla, nla, rfl, ha1⟩ := ha.open
  obtain ⟨q, cb, lb, rfl, hcb, hcbm, lllb, nlb, rfl, hb1⟩ := hb.open
  have HA1 := hide ha1
  have HB1 := hide hb1
  clear ha hb ha1 hb1
  have hla : la.length ≤ 1073741824 := Nat.le_trans (length_le nla hA) hka
  have HLen : Hid (lb.length ≤ la.length) := length_le nlb (Nat.lt_of_le_of_lt hle (val_lt llla))
  have HLE := hide hle
  have hcmp : ¬ cmpI (val la) (val lb) < 0 := by unfold cmpI; rw [if_neg (by omega)]; split <;> decide
  clear hA hka hle
  have hmk := make_nat la.length (by omega)
  go_enter Oacg.func90, Oacg.ntmps90
  go_wp2_with fail
  refine (trim_nat _ _ _ HA.out).mono ?_
  rintro e w1 ⟨rfl, hw1⟩
  rw [hw1]
  clear hw1 w1
  go_wp2_with fail
  refine (trim_nat _ _ _ HB.out).mono ?_
  rintro e w1 ⟨rfl, hw1⟩
  rw [hw1]
  clear hw1 w1
  go_wp2_with fail
  refine (cmp_any _ _ _ _ _ HA.out HB.out).mono ?_
  rintro e w1 ⟨rfl, n, hw1⟩
  rw [hw1]
  clear hw1 w1
  have HE0 : Hid (Ext w (w.drewN n)) := (Ext.refl _).drewN n
  have hs0 : (w.drewN n).heap.size = w.heap.size := rfl
  go_wp2_with fail
  go_loopw [7, 23] (fun c i wr => ∃ k cc : Nat, ∃ L : List Nat, k ≤ la.length ∧ i = .int .i64 k ∧ c = .int .u64 cc ∧ cc ≤ 1 ∧ Hid (L.length = la.length) ∧ Hid (SubInv la lb L k cc) ∧ Hid (OwnAt wr w.heap.size L) ∧ Hid (Ext w wr)) (fun _ i _ => (la.length - intOf i).toNat)
  case atStart => exact ⟨0, 0, zeros la.length, Nat.zero_le _, rfl, rfl, by decide, zeros_length _, subInv_zero _ _ _, OwnAt.new _ _, HE0.out.alloc _ _⟩
  case round =>
    obtain ⟨k, c, L, hk, rfl, rfl, hc1, HL, HI, HO, HE⟩ := hrel
    by_cases hlt : k < la.length
    · have i1 : (k : Int) < (la.length : Int) := by omega
      obtain ⟨b, off, rfl, hcl⟩ : ∃ b off, p = some ⟨b, off, none⟩ ∧ cellsAt w b off la := by
        rcases HA1.out with ⟨h, _⟩ | ⟨_, _, h⟩
        · rw [h] at hlt; simp at hlt
        · exact h
      obtain ⟨x, gx⟩ := get_some hlt
      have c1 := HE.out.cell (hcl k _ gx)
      have x1 := llla.at gx
      have GX := hide gx
      have HKL : Hid (k < L.length) := by have := HL.out; show _ < _; omega
      obtain ⟨z, gz⟩ := get_some HKL.out
      have c3 := HO.out.cell gz
      have f3 := HO.out.frozen k
      clear gz gx hcl
      by_cases hlb : k < lb.length
      · have i2 : (k : Int) < (lb.length : Int) := by omega
        obtain ⟨b2, off2, rfl, hcl2⟩ : ∃ b off, q = some ⟨b, off, none⟩ ∧ cellsAt w b off lb := by
          rcases HB1.out with ⟨h, _⟩ | ⟨_, _, h⟩
          · rw [h] at hlb; simp at hlb
          · exact h
        obtain ⟨y, gy⟩ := get_some hlb
        have c2 := HE.out.cell (hcl2 k _ gy)
        have y1 := lllb.at gy
        have GY := hide gy
        clear gy hcl2
        by_cases hge : y + c ≤ x
        · go_wp2_with fail
          go_roundw
          case rel => exact ⟨k + 1, 0, L.set k (x - y - c), by omega, by go_num, by (try simp only [wu64]); go_num, by omega, by have := HL.out; show _ = _; simpa using this, subInv_both HI.out HKL.out GX.out GY.out _ _ (by omega) (by omega), HO.out.set' k _ _ (by (try simp only [wu64]); omega), HE.out.setCell (Nat.le_refl _) _⟩
          case measure => simp [intOf]; omega
        · go_wp2_with fail
          go_roundw
          case rel => exact ⟨k + 1, 1, L.set k (x + 4294967296 - y - c), by omega, by go_num, by (try simp only [wu64]); go_num, by omega, by have := HL.out; show _ = _; simpa using this, subInv_both HI.out HKL.out GX.out GY.out _ _ (by omega) (by omega), HO.out.set' k _ _ (by (try simp only [wu64]); omega), HE.out.setCell (Nat.le_refl _) _⟩
          case measure => simp [intOf]; omega
      · have i2 : ¬ (k : Int) < (lb.length : Int) := by omega
        by_cases hge : c ≤ x
        · go_wp2_with fail
          go_roundw
          case rel => exact ⟨k + 1, 0, L.set k (x - c), by omega, by go_num, by (try simp only [wu64]); go_num, by omega, by have := HL.out; show _ = _; simpa using this, subInv_one HI.out HKL.out GX.out (by omega) _ _ (by omega) (by omega), HO.out.set' k _ _ (by (try simp only [wu64]); omega), HE.out.setCell (Nat.le_refl _) _⟩
          case measure => simp [intOf]; omega
        · go_wp2_with fail
          go_roundw
          case rel => exact ⟨k + 1, 1, L.set k (x + 4294967296 - c), by omega, by go_num, by (try simp only [wu64]); go_num, by omega, by have := HL.out; show _ = _; simpa using this, subInv_one HI.out HKL.out GX.out (by omega) _ _ (by omega) (by omega), HO.out.set' k _ _ (by (try simp only [wu64]); omega), HE.out.setCell (Nat.le_refl _) _⟩
          case measure => simp [intOf]; omega
    · obtain rfl : k = la.length := by omega
      have hend := subInv_end HI.out HL.out HLen.out HLE.out
      have ht := trim_raw (some ⟨w.heap.size, 0, none⟩) la.length L wr (by have := HL.out; omega) (by omega) hend.1 (.inr ⟨_, _, rfl, HO.out.cellsAt⟩)
      rw [hend.2, HL.out] at ht
      have HT := hide ht
      clear ht hend
      go_wp2_with fail
      refine HT.out.mono ?_
      rintro e w1 ⟨⟨v, rfl, hv⟩, hw1⟩
      rw [hw1]
      have HV := hide hv
      clear hw1 w1 hv
      go_wp2_with fail
      go_ret2
      exact ⟨⟨_, rfl, HV.out⟩, HE.out⟩
end Go.Proofs.YgcoacGreat
