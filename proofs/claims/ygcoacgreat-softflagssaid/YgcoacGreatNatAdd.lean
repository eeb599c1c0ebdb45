/-
  nat.Add.
-/
import Derived.Test.YgcoacGreatNatOwn
namespace Go.Proofs.YgcoacGreat
open Go.RowKit
set_option linter.unusedSimpArgs false
set_option linter.unusedVariables false

/-! ### Plain facts on rows -/
theorem take_set_succ {L : List Nat} {k : Nat} (h : k < L.length) (x : Nat) : (L.set k x).take (k + 1) = L.take k ++ [x] := by
  rw [List.take_succ_eq_append_getElem (by simpa using h), List.take_set_of_le (Nat.le_refl _)]
  simp
theorem take_snoc {L : List Nat} {k x : Nat} (h : L[k]? = some x) : L.take (k + 1) = L.take k ++ [x] := by
  rw [List.take_add_one, h]; rfl
theorem lt_of_get {L : List Nat} {k x : Nat} (h : L[k]? = some x) : k < L.length := by
  rcases Nat.lt_or_ge k L.length with h' | h'
  · exact h'
  · simp [List.getElem?_eq_none h'] at h
theorem take_len {L : List Nat} {k : Nat} (h : k ≤ L.length) : (L.take k).length = k := by rw [List.length_take]; omega
theorem val_take_succ {L : List Nat} {k x : Nat} (h : L[k]? = some x) : val (L.take (k + 1)) = val (L.take k) + W k * x := by
  rw [take_snoc h, val_snoc, take_len (Nat.le_of_lt (lt_of_get h))]
theorem val_take_set {L : List Nat} {k : Nat} (h : k < L.length) (x : Nat) : val ((L.set k x).take (k + 1)) = val (L.take k) + W k * x := by
  rw [take_set_succ h, val_snoc, take_len (Nat.le_of_lt h)]
theorem val_take_all {L : List Nat} {k : Nat} (h : L.length ≤ k) : val (L.take k) = val L := by rw [List.take_of_length_le h]
theorem Lim.set {L : List Nat} (h : Lim L) (k : Nat) {x : Nat} (hx : x < 4294967296) : Lim (L.set k x) := by
  intro y hy
  rcases List.mem_or_eq_of_mem_set hy with h' | h'
  · exact h y h'
  · omega

/-- One limb of a sum. -/
theorem add_limb {w r a b c s : Nat} (h : r + w * c = a + b) (x y : Nat) (hs : s = c + x + y) : r + w * (s % 4294967296) + (4294967296 * w) * (s / 4294967296) = a + w * x + (b + w * y) := by
  have e : w * s = w * (s % 4294967296) + (4294967296 * w) * (s / 4294967296) := by
    rw [Nat.mul_comm 4294967296 w, Nat.mul_assoc, ← Nat.mul_add, Nat.add_comm, Nat.div_add_mod]
  have e2 : w * s = w * c + w * x + w * y := by rw [hs, Nat.mul_add, Nat.mul_add]
  omega

/-- What a round leaves: the sum's first k limbs and the carry. -/
def AddInv (la lb L : List Nat) (k c : Nat) : Prop := Lim L ∧ val (L.take k) + W k * c = val (la.take k) + val (lb.take k)

theorem addInv_zero (la lb : List Nat) (n : Nat) : AddInv la lb (zeros n) 0 0 := ⟨zeros_lim n, by simp [val]⟩
theorem addInv_both {la lb L : List Nat} {k c x y : Nat} (h : AddInv la lb L k c) (hk : k < L.length) (hx : la[k]? = some x) (hy : lb[k]? = some y) :
    AddInv la lb (L.set k ((c + x + y) % 4294967296)) (k + 1) ((c + x + y) / 4294967296) := by
  obtain ⟨h1, h2⟩ := h
  refine ⟨h1.set k (by omega), ?_⟩
  rw [val_take_set hk, val_take_succ hx, val_take_succ hy, W_succ]
  exact add_limb h2 x y rfl
theorem addInv_one {la lb L : List Nat} {k c x : Nat} (h : AddInv la lb L k c) (hk : k < L.length) (hx : la[k]? = some x) (hy : lb.length ≤ k) :
    AddInv la lb (L.set k ((c + x) % 4294967296)) (k + 1) ((c + x) / 4294967296) := by
  obtain ⟨h1, h2⟩ := h
  refine ⟨h1.set k (by omega), ?_⟩
  rw [val_take_set hk, val_take_succ hx, W_succ, val_take_all (L := lb) (by omega)]
  rw [val_take_all (L := lb) hy] at h2
  have := add_limb (s := c + x) h2 x 0 rfl
  simpa using this
theorem addInv_end {la lb L : List Nat} {c : Nat} (h : AddInv la lb L la.length c) (hL : L.length = la.length + 1) (hb : lb.length ≤ la.length) (hc : c < 4294967296) :
    Lim (L.set la.length c) ∧ val (L.set la.length c) = val la + val lb := by
  obtain ⟨h1, h2⟩ := h
  refine ⟨h1.set _ hc, ?_⟩
  rw [val_take_all (L := la) (Nat.le_refl _), val_take_all (L := lb) hb] at h2
  rw [← h2, ← val_take_set (by omega), val_take_all (by simp; omega)]

set_option maxHeartbeats 1000000 in
theorem add_any (A B ka kb : Nat) (hA : A < W ka) (hB : B < W kb) (hka : ka ≤ 1073741824) (hkb : kb ≤ 1073741824) (va vb : Value) (w : World) (ha : NatAt w va A) (hb : NatAt w vb B) :
    Calls Oacg.prog 89 #[va, vb] w fun e w' => (∃ v, e = .returned v ∧ NatAt w' v (A + B)) ∧ Ext w w' := by
  have HA := hide ha
  have HB := hide hb
  obtain ⟨p, ca, la, rfl, hca, hcam, llla, nla, rfl, ha1⟩ := ha.open
  obtain ⟨q, cb, lb, rfl, hcb, hcbm, lllb, nlb, rfl, hb1⟩ := hb.open
  have HA1 := hide ha1
  have HB1 := hide hb1
  clear ha hb ha1 hb1
  have hla : la.length ≤ 1073741824 := Nat.le_trans (length_le nla hA) hka
  have hlb : lb.length ≤ 1073741824 := Nat.le_trans (length_le nlb hB) hkb
  clear hA hB hka hkb
  by_cases hlen : la.length < lb.length
  · have t1 : (la.length : Int) < (lb.length : Int) := by omega
    have hmk := make_nat (lb.length + 1) (by omega)
    rw [show ((lb.length + 1 : Nat) : Int) = (lb.length : Int) + 1 from rfl] at hmk
    have HLen := hide hlen
    clear hlen
    go_enter Oacg.func89, Oacg.ntmps89
    go_wp2_with fail
    refine (trim_nat _ _ _ HA.out).mono ?_
    rintro e w1 ⟨rfl, hw1⟩
    rw [hw1]
    clear hw1 w1
    go_wp2_with fail
    refine (trim_nat _ _ _ HB.out).mono ?_
    rintro e w1 ⟨rfl, hw1⟩
    rw [hw1]
    clear hw1 w1
    go_wp2_with fail
    go_loopw [6, 25] (fun c i wr => ∃ k cc : Nat, ∃ L : List Nat, k ≤ lb.length ∧ i = .int .i64 k ∧ c = .int .u64 cc ∧ cc ≤ 1 ∧ Hid (L.length = lb.length + 1) ∧ Hid (AddInv lb la L k cc) ∧ Hid (OwnAt wr w.heap.size L) ∧ Hid (Ext w wr)) (fun _ i _ => (lb.length - intOf i).toNat)
    case atStart => exact ⟨0, 0, zeros (lb.length + 1), Nat.zero_le _, rfl, rfl, by decide, zeros_length _, addInv_zero _ _ _, OwnAt.new _ _, (Ext.refl _).alloc _ _⟩
    case round =>
      obtain ⟨k, c, L, hk, rfl, rfl, hc1, HL, HI, HO, HE⟩ := hrel
      by_cases hlt : k < lb.length
      · have i1 : (k : Int) < (lb.length : Int) := by omega
        obtain ⟨b, off, rfl, hcl⟩ : ∃ b off, q = some ⟨b, off, none⟩ ∧ cellsAt w b off lb := by
          rcases HB1.out with ⟨h, _⟩ | ⟨_, _, h⟩
          · rw [h] at hlt; simp at hlt
          · exact h
        obtain ⟨x, gx⟩ := get_some hlt
        have c1 := HE.out.cell (hcl k _ gx)
        have x1 := lllb.at gx
        have GX := hide gx
        have HKL : Hid (k < L.length) := by have := HL.out; show _ < _; omega
        obtain ⟨z, gz⟩ := get_some HKL.out
        have c3 := HO.out.cell gz
        have f3 := HO.out.frozen k
        have i3 : (k : Int) < (lb.length : Int) + 1 := by omega
        clear gz gx hcl
        by_cases hlb : k < la.length
        · have i2 : (k : Int) < (la.length : Int) := by omega
          obtain ⟨b2, off2, rfl, hcl2⟩ : ∃ b off, p = some ⟨b, off, none⟩ ∧ cellsAt w b off la := by
            rcases HA1.out with ⟨h, _⟩ | ⟨_, _, h⟩
            · rw [h] at hlb; simp at hlb
            · exact h
          obtain ⟨y, gy⟩ := get_some hlb
          have c2 := HE.out.cell (hcl2 k _ gy)
          have y1 := llla.at gy
          have GY := hide gy
          clear gy hcl2
          go_wp2_with fail
          go_roundw
          case rel => exact ⟨k + 1, (c + x + y) / 4294967296, L.set k ((c + x + y) % 4294967296), by omega, by go_num, by go_num, by omega, by have := HL.out; show _ = _; simpa using this, addInv_both HI.out HKL.out GX.out GY.out, HO.out.set k _, HE.out.setCell (Nat.le_refl _) _⟩
          case measure => simp [intOf]; omega
        · have i2 : ¬ (k : Int) < (la.length : Int) := by omega
          go_wp2_with fail
          go_roundw
          case rel => exact ⟨k + 1, (c + x) / 4294967296, L.set k ((c + x) % 4294967296), by omega, by go_num, by go_num, by omega, by have := HL.out; show _ = _; simpa using this, addInv_one HI.out HKL.out GX.out (by omega), HO.out.set k _, HE.out.setCell (Nat.le_refl _) _⟩
          case measure => simp [intOf]; omega
      · obtain rfl : k = lb.length := by omega
        obtain ⟨z, gz⟩ := get_some (show lb.length < L.length by have := HL.out; omega)
        have c3 := HO.out.cell gz
        have f3 := HO.out.frozen lb.length
        have i3 : (lb.length : Int) < (lb.length : Int) + 1 := by omega
        clear gz
        have hend := addInv_end HI.out HL.out (by have := HLen.out; omega) (by omega)
        have ho2 := HO.out.set lb.length c
        have ht := trim_raw (some ⟨w.heap.size, 0, none⟩) (lb.length + 1) (L.set lb.length c) _ (by have := HL.out; simp; omega) (by omega) hend.1 (.inr ⟨_, _, rfl, ho2.cellsAt⟩)
        rw [hend.2, List.length_set, HL.out] at ht
        have HT := hide ht
        have HE2 := hide (HE.out.setCell (p := ⟨w.heap.size, lb.length, none⟩) (Nat.le_refl _) (.int .u32 c))
        clear ht hend ho2
        go_wp2_with fail
        refine HT.out.mono ?_
        rintro e w1 ⟨⟨v, rfl, hv⟩, hw1⟩
        rw [hw1]
        have HV := hide (show NatAt _ v (val la + val lb) by rw [Nat.add_comm (val la)]; exact hv)
        clear hw1 w1 hv
        go_wp2_with fail
        go_ret
        exact ⟨⟨_, rfl, HV.out⟩, HE2.out⟩
  · have t1 : ¬ (la.length : Int) < (lb.length : Int) := by omega
    have hmk := make_nat (la.length + 1) (by omega)
    rw [show ((la.length + 1 : Nat) : Int) = (la.length : Int) + 1 from rfl] at hmk
    have HLen := hide hlen
    clear hlen
    go_enter Oacg.func89, Oacg.ntmps89
    go_wp2_with fail
    refine (trim_nat _ _ _ HA.out).mono ?_
    rintro e w1 ⟨rfl, hw1⟩
    rw [hw1]
    clear hw1 w1
    go_wp2_with fail
    refine (trim_nat _ _ _ HB.out).mono ?_
    rintro e w1 ⟨rfl, hw1⟩
    rw [hw1]
    clear hw1 w1
    go_wp2_with fail
    go_loopw [6, 25] (fun c i wr => ∃ k cc : Nat, ∃ L : List Nat, k ≤ la.length ∧ i = .int .i64 k ∧ c = .int .u64 cc ∧ cc ≤ 1 ∧ Hid (L.length = la.length + 1) ∧ Hid (AddInv la lb L k cc) ∧ Hid (OwnAt wr w.heap.size L) ∧ Hid (Ext w wr)) (fun _ i _ => (la.length - intOf i).toNat)
    case atStart => exact ⟨0, 0, zeros (la.length + 1), Nat.zero_le _, rfl, rfl, by decide, zeros_length _, addInv_zero _ _ _, OwnAt.new _ _, (Ext.refl _).alloc _ _⟩
    case round =>
      obtain ⟨k, c, L, hk, rfl, rfl, hc1, HL, HI, HO, HE⟩ := hrel
      by_cases hlt : k < la.length
      · have i1 : (k : Int) < (la.length : Int) := by omega
        obtain ⟨b, off, rfl, hcl⟩ : ∃ b off, p = some ⟨b, off, none⟩ ∧ cellsAt w b off la := by
          rcases HA1.out with ⟨h, _⟩ | ⟨_, _, h⟩
          · rw [h] at hlt; simp at hlt
          · exact h
        obtain ⟨x, gx⟩ := get_some hlt
        have c1 := HE.out.cell (hcl k _ gx)
        have x1 := llla.at gx
        have GX := hide gx
        have HKL : Hid (k < L.length) := by have := HL.out; show _ < _; omega
        obtain ⟨z, gz⟩ := get_some HKL.out
        have c3 := HO.out.cell gz
        have f3 := HO.out.frozen k
        have i3 : (k : Int) < (la.length : Int) + 1 := by omega
        clear gz gx hcl
        by_cases hlb : k < lb.length
        · have i2 : (k : Int) < (lb.length : Int) := by omega
          obtain ⟨b2, off2, rfl, hcl2⟩ : ∃ b off, q = some ⟨b, off, none⟩ ∧ cellsAt w b off lb := by
            rcases HB1.out with ⟨h, _⟩ | ⟨_, _, h⟩
            · rw [h] at hlb; simp at hlb
            · exact h
          obtain ⟨y, gy⟩ := get_some hlb
          have c2 := HE.out.cell (hcl2 k _ gy)
          have y1 := lllb.at gy
          have GY := hide gy
          clear gy hcl2
          go_wp2_with fail
          go_roundw
          case rel => exact ⟨k + 1, (c + x + y) / 4294967296, L.set k ((c + x + y) % 4294967296), by omega, by go_num, by go_num, by omega, by have := HL.out; show _ = _; simpa using this, addInv_both HI.out HKL.out GX.out GY.out, HO.out.set k _, HE.out.setCell (Nat.le_refl _) _⟩
          case measure => simp [intOf]; omega
        · have i2 : ¬ (k : Int) < (lb.length : Int) := by omega
          go_wp2_with fail
          go_roundw
          case rel => exact ⟨k + 1, (c + x) / 4294967296, L.set k ((c + x) % 4294967296), by omega, by go_num, by go_num, by omega, by have := HL.out; show _ = _; simpa using this, addInv_one HI.out HKL.out GX.out (by omega), HO.out.set k _, HE.out.setCell (Nat.le_refl _) _⟩
          case measure => simp [intOf]; omega
      · obtain rfl : k = la.length := by omega
        obtain ⟨z, gz⟩ := get_some (show la.length < L.length by have := HL.out; omega)
        have c3 := HO.out.cell gz
        have f3 := HO.out.frozen la.length
        have i3 : (la.length : Int) < (la.length : Int) + 1 := by omega
        clear gz
        have hend := addInv_end HI.out HL.out (by have := HLen.out; omega) (by omega)
        have ho2 := HO.out.set la.length c
        have ht := trim_raw (some ⟨w.heap.size, 0, none⟩) (la.length + 1) (L.set la.length c) _ (by have := HL.out; simp; omega) (by omega) hend.1 (.inr ⟨_, _, rfl, ho2.cellsAt⟩)
        rw [hend.2, List.length_set, HL.out] at ht
        have HT := hide ht
        have HE2 := hide (HE.out.setCell (p := ⟨w.heap.size, la.length, none⟩) (Nat.le_refl _) (.int .u32 c))
        clear ht hend ho2
        go_wp2_with fail
        refine HT.out.mono ?_
        rintro e w1 ⟨⟨v, rfl, hv⟩, hw1⟩
        rw [hw1]
        have HV := hide hv
        clear hw1 w1 hv
        go_wp2_with fail
        go_ret
        exact ⟨⟨_, rfl, HV.out⟩, HE2.out⟩
end Go.Proofs.YgcoacGreat
