/-
  nat.lift, nat.Shl.
-/
import Derived.Test.YgcoacGreatNatMul
namespace Go.Proofs.YgcoacGreat
open Go.RowKit
set_option linter.unusedSimpArgs false
set_option linter.unusedVariables false
attribute [local go_sem] nil_eq nil_ne

theorem pow_lt_32 {r : Nat} (h : r < 32) : 2 ^ r ≤ 2147483648 := Nat.pow_le_pow_right (n := 2) (by decide) (show r ≤ 31 by omega)
theorem shl_lt {x r : Nat} (hx : x < 4294967296) (hr : r < 32) : x * 2 ^ r < 9223372036854775808 := by
  have h1 := pow_lt_32 hr
  have : x * 2 ^ r ≤ 4294967295 * 2147483648 := Nat.mul_le_mul (by omega) h1
  omega
theorem shl_hi {x r : Nat} (hx : x < 4294967296) : x * 2 ^ r / 4294967296 < 2 ^ r := by
  have h0 : 0 < 2 ^ r := Nat.pow_pos (by decide)
  rw [Nat.div_lt_iff_lt_mul (by decide), Nat.mul_comm]
  exact Nat.mul_lt_mul_of_pos_left hx h0
theorem shl_lo_mod {x r : Nat} (hr : r < 32) : x * 2 ^ r % 4294967296 % 2 ^ r = 0 := by
  have hd : 2 ^ r ∣ 4294967296 := by
    rw [show (4294967296 : Nat) = 2 ^ 32 from rfl]
    exact Nat.pow_dvd_pow 2 (by omega)
  rw [Nat.mod_mod_of_dvd _ hd, Nat.mul_mod_left]
theorem shl_lo_lt {x r z : Nat} (hr : r < 32) (hz : z < 2 ^ r) : z + x * 2 ^ r % 4294967296 < 4294967296 := by
  have h1 := shl_lo_mod (x := x) hr
  have h2 : x * 2 ^ r % 4294967296 < 4294967296 := Nat.mod_lt _ (by decide)
  have hd : 2 ^ r ∣ 4294967296 := by
    rw [show (4294967296 : Nat) = 2 ^ 32 from rfl]
    exact Nat.pow_dvd_pow 2 (by omega)
  obtain ⟨u, hu⟩ := hd
  obtain ⟨v, hv⟩ := Nat.dvd_of_mod_eq_zero h1
  rw [hv] at h2 ⊢
  rw [hu] at h2
  have h3 : v < u := Nat.lt_of_mul_lt_mul_left h2
  have h4 : 2 ^ r * (v + 1) ≤ 2 ^ r * u := Nat.mul_le_mul_left _ h3
  rw [← hu, Nat.mul_add, Nat.mul_one] at h4
  omega
theorem wrap_shl {x r : Nat} (hx : x < 4294967296) (hr : r < 32) : IntKind.u64.wrap ((x : Int) * 2 ^ r) = ((x * 2 ^ r : Nat) : Int) := by
  have h := shl_lt hx hr
  have e : (x : Int) * 2 ^ r = ((x * 2 ^ r : Nat) : Int) := by rw [Int.natCast_mul, Int.natCast_pow]; rfl
  rw [wu64, e]
  omega
theorem lift_lo {x r z : Nat} (hx : x < 4294967296) (hr : r < 32) (hz : z < 2 ^ r) :
    Go.bits BinOp.or IntKind.u32 (z : Int) (IntKind.u64.wrap ((x : Int) * 2 ^ r) % 4294967296) = ((z + x * 2 ^ r % 4294967296 : Nat) : Int) := by
  rw [wrap_shl hx hr]
  have h1 := pow_lt_32 hr
  have h2 : x * 2 ^ r % 4294967296 < 4294967296 := Nat.mod_lt _ (by decide)
  rw [show ((x * 2 ^ r : Nat) : Int) % 4294967296 = ((x * 2 ^ r % 4294967296 : Nat) : Int) from rfl, u32_or_nat z _ (by omega) h2, Nat.or_comm, nat_join r _ z (shl_lo_mod hr) hz, Nat.add_comm]
theorem lift_hi {x r : Nat} (hx : x < 4294967296) (hr : r < 32) :
    IntKind.u64.wrap ((x : Int) * 2 ^ r) / 4294967296 % 4294967296 = ((x * 2 ^ r / 4294967296 : Nat) : Int) := by
  rw [wrap_shl hx hr]
  have := shl_lt hx hr
  omega

theorem limb_split (w y : Nat) : w * y = w * (y % 4294967296) + 4294967296 * w * (y / 4294967296) := by
  rw [Nat.mul_comm 4294967296, Nat.mul_assoc, ← Nat.mul_add, Nat.add_comm (y % 4294967296), Nat.div_add_mod]

/-- k limbs are through: the limb at the top is the carry, below 2^r. -/
def LiftInv (la L : List Nat) (k m r : Nat) : Prop := Lim L ∧ (∀ t, L[k + m]? = some t → t < 2 ^ r) ∧ val (L.take (k + m + 1)) = W m * (2 ^ r * val (la.take k))

theorem liftInv_zero (la : List Nat) (n m r : Nat) : LiftInv la (zeros n) 0 m r := by
  refine ⟨zeros_lim n, fun t ht => ?_, ?_⟩
  · have : t ∈ zeros n := List.mem_of_getElem? ht
    rw [(List.mem_replicate.1 this).2]
    exact Nat.pow_pos (by decide)
  · have : (zeros n).take (0 + m + 1) = zeros (min (0 + m + 1) n) := by simp [zeros]
    rw [this, zeros_val]
    simp [val]
theorem liftInv_step {la L : List Nat} {k m r x z : Nat} (h : LiftInv la L k m r) (hr : r < 32) (hx : x < 4294967296) (gx : la[k]? = some x) (gz : L[k + m]? = some z) (hL : k + m + 1 < L.length) :
    LiftInv la ((L.set (k + m) (z + x * 2 ^ r % 4294967296)).set (k + m + 1) (x * 2 ^ r / 4294967296)) (k + 1) m r := by
  obtain ⟨h1, h2, h3⟩ := h
  have hz := h2 z gz
  have hi : x * 2 ^ r / 4294967296 < 4294967296 := Nat.lt_of_lt_of_le (shl_hi hx) (Nat.le_trans (pow_lt_32 hr) (by decide))
  refine ⟨(h1.set _ (shl_lo_lt hr hz)).set _ hi, fun t ht => ?_, ?_⟩
  · rw [show k + 1 + m = k + m + 1 by omega, List.getElem?_set_self (by simpa using hL)] at ht
    have : t = x * 2 ^ r / 4294967296 := by simpa using ht.symm
    rw [this]; exact shl_hi hx
  · rw [show k + 1 + m + 1 = k + m + 1 + 1 by omega, val_take_set (by simpa using hL), val_take_set (by omega), W_succ]
    rw [val_take_succ gz] at h3
    rw [val_take_succ gx, Nat.mul_add (2 ^ r), Nat.mul_add (W m), ← h3]
    have e1 : W m * (2 ^ r * (W k * x)) = W (k + m) * (x * 2 ^ r) := by
      rw [W_add]; ac_rfl
    rw [e1]
    generalize x * 2 ^ r = y
    have e2 := limb_split (W (k + m)) y
    rw [Nat.mul_add]
    omega
theorem liftInv_end {la L : List Nat} {m r : Nat} (h : LiftInv la L la.length m r) (hL : L.length = la.length + m + 1) : Lim L ∧ val L = val la * 2 ^ (32 * m + r) := by
  obtain ⟨h1, h2, h3⟩ := h
  refine ⟨h1, ?_⟩
  rw [val_take_all (L := L) (by omega), val_take_all (Nat.le_refl _)] at h3
  rw [h3, Nat.pow_add, ← W_pow, Nat.mul_comm (val la), Nat.mul_assoc]

set_option maxHeartbeats 1000000 in
theorem lift_any (A ka : Nat) (hA : A < W ka) (hka : ka ≤ 1073741824) (k : Nat) (hk : k ≤ 1073741824) (va : Value) (w : World) (ha : NatAt w va A) :
    Calls Oacg.prog 97 #[va, .int .i64 (k : Int)] w fun e w' => (∃ v, e = .returned v ∧ NatAt w' v (A * 2 ^ k)) ∧ Ext w w' := by
  have HA := hide ha
  rcases Nat.eq_zero_or_pos A with h0 | h0
  · subst h0
    rcases ha with ⟨_, rfl⟩ | ⟨l, b, off, cap, rfl, hc, hm, hl, hn, hv, h0, hcl⟩
    · have hk1 : (k : Int) ≤ 1073741824 := by omega
      clear hA hka hk
      go_enter Oacg.func97, Oacg.ntmps97
      go_wp2_with fail
      refine (trim_nat _ _ _ HA.out).mono ?_
      rintro e w1 ⟨rfl, hw1⟩
      rw [hw1]
      clear hw1 w1
      go_wp2_with fail
      go_ret
      exact ⟨⟨_, rfl, by rw [Nat.zero_mul]; exact natAt_nil _⟩, Ext.refl _⟩
    · omega
  obtain ⟨m, r, rfl, hr⟩ : ∃ m r, k = 32 * m + r ∧ r < 32 := ⟨k / 32, k % 32, by omega, by omega⟩
  have e1 : (((32 * m + r : Nat) : Int)) / 32 = (m : Int) := by omega
  have e2 : (((32 * m + r : Nat) : Int)) % 32 = (r : Int) := by omega
  have e3 : (0 : Int) ≤ ((32 * m + r : Nat) : Int) := by omega
  have hm : m ≤ 33554432 := by omega
  generalize ((32 * m + r : Nat) : Int) = kk at *
  obtain ⟨p, ca, la, rfl, hca, hcam, llla, nla, rfl, ha1⟩ := ha.open
  obtain ⟨hne, _, b, off, rfl, hcl⟩ : la ≠ [] ∧ 0 < val la ∧ ∃ b off, p = some ⟨b, off, none⟩ ∧ cellsAt w b off la := by
    rcases ha1 with ⟨_, _, _, h⟩ | h
    · omega
    · exact h
  have HC := hide hcl
  have hla : la.length ≤ 1073741824 := Nat.le_trans (length_le nla hA) hka
  clear hA hka hk ha hcl hne ha1 h0
  have hmk := make_nat (la.length + m + 1) (by omega)
  rw [show ((la.length + m + 1 : Nat) : Int) = (la.length : Int) + (m : Int) + 1 from rfl] at hmk
  go_enter Oacg.func97, Oacg.ntmps97
  go_wp2_with fail
  refine (trim_nat _ _ _ HA.out).mono ?_
  rintro e w1 ⟨rfl, hw1⟩
  rw [hw1]
  clear hw1 w1
  go_wp2_with fail
  go_loopw [27] (fun i wr => ∃ k : Nat, ∃ L : List Nat, k ≤ la.length ∧ i = .int .i64 k ∧ Hid (L.length = la.length + m + 1) ∧ Hid (LiftInv la L k m r) ∧ Hid (OwnAt wr w.heap.size L) ∧ Hid (Ext w wr)) (fun i _ => (la.length - intOf i).toNat)
  case atStart => exact ⟨0, zeros (la.length + m + 1), Nat.zero_le _, rfl, zeros_length _, liftInv_zero _ _ _ _, OwnAt.new _ _, (Ext.refl _).alloc _ _⟩
  case round =>
    obtain ⟨k, L, hk, rfl, HL, HI, HO, HE⟩ := hrel
    by_cases hlt : k < la.length
    · have i1 : (k : Int) < (la.length : Int) := by omega
      obtain ⟨x, gx⟩ := get_some hlt
      have c1 := HE.out.cell (HC.out k _ gx)
      have x1 := llla.at gx
      obtain ⟨z, gz⟩ := get_some (show k + m < L.length by have := HL.out; omega)
      have c3 := HO.out.cell gz
      have f3 := HO.out.frozen (k + m)
      obtain ⟨z2, gz2⟩ := get_some (show k + m + 1 < L.length by have := HL.out; omega)
      have c4 := HO.out.cell gz2
      have f4 := HO.out.frozen (k + m + 1)
      have i3 : (k : Int) + (m : Int) < (la.length : Int) + (m : Int) + 1 := by omega
      have i4 : (k : Int) + (m : Int) + 1 < (la.length : Int) + (m : Int) + 1 := by omega
      have GX := hide gx
      have GZ := hide gz
      have HZ := hide (HI.out.2.1 z gz)
      have HKL := hide (lt_of_get gz2)
      clear gz gz2 gx
      go_wp2_with fail
      go_roundw
      case rel => exact ⟨k + 1, (L.set (k + m) (z + x * 2 ^ r % 4294967296)).set (k + m + 1) (x * 2 ^ r / 4294967296), by omega, by go_num, by have := HL.out; show _ = _; simpa using this, liftInv_step HI.out hr x1 GX.out GZ.out HKL.out, (HO.out.set' (k + m) _ _ (lift_lo x1 hr HZ.out)).set' (k + m + 1) _ _ (lift_hi x1 hr), (HE.out.setCell (Nat.le_refl _) _).setCell (Nat.le_refl _) _⟩
      case measure => simp [intOf]; omega
    · obtain rfl : k = la.length := by omega
      have hend := liftInv_end HI.out HL.out
      have ht := trim_raw (some ⟨w.heap.size, 0, none⟩) (la.length + m + 1) L wr (by have := HL.out; omega) (by omega) hend.1 (.inr ⟨_, _, rfl, HO.out.cellsAt⟩)
      rw [hend.2, HL.out] at ht
      have HT := hide ht
      clear ht hend
      go_wp2_with fail
      refine HT.out.mono ?_
      rintro e w1 ⟨⟨v, rfl, hv⟩, hw1⟩
      rw [hw1]
      have HV := hide hv
      clear hw1 w1 hv
      go_wp2_with fail
      go_ret
      exact ⟨⟨_, rfl, HV.out⟩, HE.out⟩

theorem shl_any (A ka : Nat) (hA : A < W ka) (hka : ka ≤ 1073741824) (k : Nat) (hk : k ≤ 65535) (va : Value) (w : World) (ha : NatAt w va A) :
    Calls Oacg.prog 77 #[va, .int .u16 (k : Int)] w fun e w' => (∃ v, e = .returned v ∧ NatAt w' v (A * 2 ^ k)) ∧ Ext w w' := by
  have HL := hide (lift_any A ka hA hka k (by omega) va w ha)
  clear hA hka ha
  go_enter Oacg.func77, Oacg.ntmps77
  go_wp2_with fail
  refine HL.out.mono ?_
  rintro e w1 ⟨⟨v, rfl, hv⟩, he⟩
  have HV := hide hv
  have HE := hide he
  clear hv he HL
  go_wp2_with fail
  go_ret
  exact ⟨⟨_, rfl, HV.out⟩, HE.out⟩
end Go.Proofs.YgcoacGreat
