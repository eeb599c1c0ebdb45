/-
  nat.Shr by less than a limb.
-/
import Derived.Test.YgcoacGreatNatCopy
import Derived.Deep.QuietTactic
import Derived.BigQuiet
namespace Go.Proofs.YgcoacGreat
open Go.RowKit
set_option linter.unusedSimpArgs false
set_option linter.unusedVariables false
attribute [local go_sem] nil_eq nil_ne

theorem or_limbs2 {a b : Nat} (ha : a < 4294967296) (hb : b < 4294967296) : Go.bits BinOp.or IntKind.u64 (b : Int) ((a : Int) * 4294967296) = ((a * 4294967296 + b : Nat) : Int) := by
  have e : (a : Int) * 4294967296 = ((a * 4294967296 : Nat) : Int) := by omega
  rw [e, u64_or_nat _ _ (by omega) (by omega), Nat.or_comm, nat_join 32 (a * 4294967296) b (by rw [show (2 : Nat) ^ 32 = 4294967296 from rfl]; omega) (by rw [show (2 : Nat) ^ 32 = 4294967296 from rfl]; exact hb)]
theorem limb_shr {x y T r : Nat} (hr : r < 32) : (x + 4294967296 * (y + 4294967296 * T)) / 2 ^ r % 4294967296 = (x + 4294967296 * y) / 2 ^ r % 4294967296 := by
  have e : (4294967296 : Nat) = 2 ^ r * 2 ^ (32 - r) := by rw [← Nat.pow_add, Nat.add_sub_cancel' (by omega)]
  have e2 : x + 4294967296 * (y + 4294967296 * T) = (x + 4294967296 * y) + 2 ^ r * (4294967296 * (2 ^ (32 - r) * T)) := by
    have : 4294967296 * (4294967296 * T) = 2 ^ r * (4294967296 * (2 ^ (32 - r) * T)) := by
      rw [Nat.mul_left_comm (2 ^ r), ← Nat.mul_assoc (2 ^ r), ← e]
    rw [Nat.mul_add, ← this]; omega
  rw [e2, Nat.add_mul_div_left _ _ (Nat.pow_pos (by decide)), Nat.add_mul_mod_self_left]
theorem val_div_W {la : List Nat} (h : Lim la) (i : Nat) : val la / W i = val (la.drop i) := by
  rcases Nat.lt_or_ge i la.length with hi | hi
  · have hl : (la.take i).length = i := by rw [List.length_take]; omega
    have e := val_append (la.take i) (la.drop i)
    rw [List.take_append_drop, hl] at e
    have hlt : val (la.take i) < W i := by
      have := val_lt (l := la.take i) (fun x hx => h x (List.mem_of_mem_take hx))
      rwa [hl] at this
    rw [e, Nat.add_mul_div_left _ _ (W_pos i), Nat.div_eq_of_lt hlt, Nat.zero_add]
  · rw [List.drop_eq_nil_of_le hi, Nat.div_eq_of_lt (Nat.lt_of_lt_of_le (val_lt h) (W_mono hi))]; rfl
def ShrInv (la L : List Nat) (r i : Nat) : Prop := Lim L ∧ L.length = la.length ∧ val (L.take i) = val la / 2 ^ r % W i
theorem shr_start (la : List Nat) (r : Nat) : ShrInv la (zeros la.length) r 0 := ⟨zeros_lim _, zeros_length _, by simp [val, W, Nat.mod_one]⟩
/-- What stands in limb i and the next. -/
def pair (la : List Nat) (i : Nat) : Nat := (la[i]?).getD 0 + 4294967296 * (la[i + 1]?).getD 0
theorem shr_step {la L : List Nat} {r i : Nat} (h : ShrInv la L r i) (hl : Lim la) (hr : r < 32) (hi : i < la.length) : ShrInv la (L.set i (pair la i / 2 ^ r % 4294967296)) r (i + 1) := by
  obtain ⟨h1, h2, h3⟩ := h
  refine ⟨h1.set _ (Nat.mod_lt _ (by decide)), by simpa using h2, ?_⟩
  rw [val_take_set (by omega), h3, show W (i + 1) = W i * 4294967296 by rw [W_succ, Nat.mul_comm], Nat.mod_mul]
  congr 2
  rw [Nat.div_div_eq_div_mul, Nat.mul_comm (2 ^ r), ← Nat.div_div_eq_div_mul, val_div_W hl]
  obtain ⟨x, gx⟩ := get_some hi
  rw [show val (la.drop i) = x + 4294967296 * val (la.drop (i + 1)) from by
    have hx := lt_of_get gx
    rw [List.drop_eq_getElem_cons hx, val_cons]
    rw [List.getElem?_eq_getElem hx] at gx
    injection gx with gx; rw [gx]]
  unfold pair
  rw [gx]
  rcases Nat.lt_or_ge (i + 1) la.length with h5 | h5
  · obtain ⟨y, gy⟩ := get_some h5
    rw [show val (la.drop (i + 1)) = y + 4294967296 * val (la.drop (i + 1 + 1)) from by
      rw [List.drop_eq_getElem_cons h5, val_cons]
      rw [List.getElem?_eq_getElem h5] at gy
      injection gy with gy; rw [gy], gy]
    exact (limb_shr hr).symm
  · rw [List.drop_eq_nil_of_le h5, List.getElem?_eq_none h5]; rfl
theorem shr_end {la L : List Nat} {r : Nat} (h : ShrInv la L r la.length) (hl : Lim la) : Lim L ∧ val L = val la / 2 ^ r := by
  obtain ⟨h1, h2, h3⟩ := h
  rw [val_take_all (by omega)] at h3
  refine ⟨h1, by rw [h3]; exact Nat.mod_eq_of_lt (Nat.lt_of_le_of_lt (Nat.div_le_self _ _) (val_lt hl))⟩
theorem pair_lt {la : List Nat} (hl : Lim la) (i : Nat) : pair la i < 18446744073709551616 := by
  unfold pair
  have h : ∀ j : Nat, (la[j]?).getD 0 < 4294967296 := fun j => by
    cases hj : la[j]? with
    | none => simp
    | some x => exact hl.at hj
  have := h i
  have := h (i + 1)
  omega

def ShrR (n : Nat) (v : Value) (w' : World) : Prop := ∃ u b, v = .tuple #[u, .bool b] ∧ NatAt w' u n
set_option maxRecDepth 20000 in
set_option maxHeartbeats 1000000 in
theorem shr_raw (p : Option Addr) (cap : Nat) (l : List Nat) (r : Nat) (hr : r < 32) (hll : l.length ≤ 1073741824) (w : World) (hc : l.length ≤ cap) (hm : cap ≤ 1099511627776) (hl : Lim l) (hp : l = [] ∨ ∃ b off, p = some ⟨b, off, none⟩ ∧ cellsAt w b off l) :
    Calls Oacg.prog 98 #[.slice p l.length cap, .int .u16 (r : Int)] w fun e w' => (∃ v, e = .returned v ∧ ShrR (val l / 2 ^ r) v w') ∧ Ext w w' := by
  have HT := hide (trim_raw p cap l w hc hm hl hp)
  have hbl : val l < W l.length := val_lt hl
  have HBL := hide hbl
  have e1 : (r : Int) / 32 = 0 := by omega
  have e2 : (r : Int) % 32 = (r : Int) := by omega
  have e3 : (0 : Int) ≤ (r : Int) := by omega
  have hri : (r : Int) < 32 := by omega
  clear hp hbl hc hm
  go_enter Oacg.func98, Oacg.ntmps98
  go_wp2_with fail
  refine HT.out.mono ?_
  rintro e w1 ⟨⟨v, rfl, hv⟩, hw1⟩
  rw [hw1]
  clear hw1 w1 HT
  obtain ⟨q, ca, la, rfl, hca, hcam, llla, nla, hval, ha1⟩ := hv.open
  have hlal : la.length ≤ l.length := length_le nla (by rw [hval]; exact HBL.out)
  have hli : (la.length : Int) ≤ 1073741824 := by omega
  have HVL := hide hval
  have HA1 := hide ha1
  clear hv ha1 hval HBL
  go_wp2_with fail
  go_loop [5, 8] (fun b i => b = .bool false ∧ i = .int .i64 0) (fun _ _ => 0)
  case atStart => exact ⟨rfl, rfl⟩
  case round =>
    obtain ⟨rfl, rfl⟩ := hrel
    by_cases h0 : la = []
    · subst h0
      have hv0 : val l = 0 := by rw [← HVL.out]; rfl
      have HV0 : Hid (∀ b, ShrR (val l / 2 ^ r) (.tuple #[.slice none 0 0, .bool b]) w) := fun b => ⟨_, _, rfl, by rw [hv0, Nat.zero_div]; exact natAt_nil _⟩
      clear hv0
      go_wp2_with fail
      simp [bodyPost, results, Oacg.results98, go_sem]
      exact ⟨HV0.out _, Ext.refl _⟩
    · have hpos : (0 : Int) < (la.length : Int) := by
        have := List.length_pos_iff.2 h0
        omega
      obtain ⟨b, off, rfl, hcl⟩ : ∃ b off, q = some ⟨b, off, none⟩ ∧ cellsAt w b off la := by
        rcases HA1.out with ⟨h, _⟩ | ⟨_, _, h⟩
        · exact absurd h h0
        · exact h
      obtain ⟨x0, gx0⟩ := get_some (List.length_pos_iff.2 h0)
      have c0 := hcl 0 x0 gx0
      rw [Nat.add_zero] at c0
      have HCL := hide hcl
      have hmk := make_nat la.length (by omega)
      clear HA1 hcl gx0
      go_wp2_with fail
      go_quiet (fail)
      go_wp2_with fail
      go_loopw [62] (fun vi wr => ∃ i : Nat, ∃ L : List Nat, vi = .int .i64 (i : Int) ∧ i ≤ la.length ∧ Hid (ShrInv la L r i) ∧ Hid (OwnAt wr w.heap.size L) ∧ Hid (Ext w wr)) (fun i _ => (la.length - intOf i).toNat)
      case atStart => exact ⟨0, _, rfl, Nat.zero_le _, shr_start la r, OwnAt.new _ _, ((Ext.refl _).drewN nq).alloc _ _⟩
      case round =>
        obtain ⟨i, L, rfl, hi, HI, HO, HE⟩ := hrel
        by_cases hlt : i < la.length
        · have i1 : (i : Int) < (la.length : Int) := by omega
          obtain ⟨x, gx⟩ := get_some hlt
          have c1 := HE.out.cell (HCL.out i x gx)
          have hx := llla.at gx
          have HST := hide (shr_step HI.out llla hr hlt)
          obtain ⟨z, gz⟩ := get_some (show i < L.length by have := HI.out.2.1; omega)
          have c2 := HO.out.cell gz
          have f2 := HO.out.frozen i
          by_cases h2 : i + 1 < la.length
          · have t1 : decide ((i : Int) + 1 < (la.length : Int)) = true := by simp; omega
            obtain ⟨y, gy⟩ := get_some h2
            have c3 := HE.out.cell (HCL.out (i + 1) y gy)
            have hy := llla.at gy
            have i2 : (i : Int) + 1 < (la.length : Int) := by omega
            have r2 := or_limbs2 (a := y) (b := x) hy hx
            have hpr : pair la i = y * 4294967296 + x := by unfold pair; rw [gx, gy]; simp; omega
            rw [hpr] at HST
            obtain ⟨Y, hY⟩ : ∃ Y : Nat, y * 4294967296 + x = Y := ⟨_, rfl⟩
            have hYb : Y < 18446744073709551616 := by omega
            rw [hY] at HST r2
            clear gx gy gz hpr hY c0
            go_wp2_with fail
            go_roundw
            case rel => exact ⟨i + 1, _, by go_num, hlt, HST, HO.out.set' i _ _ (by rw [Int.natCast_emod, Int.natCast_ediv, Int.natCast_pow]; rfl), HE.out.setCell (Nat.le_refl _) _⟩
            case measure => simp [intOf]; omega
          · have t1 : decide ((i : Int) + 1 < (la.length : Int)) = false := by simp; omega
            have hpr : pair la i = x := by unfold pair; rw [gx, List.getElem?_eq_none (by omega)]; simp
            rw [hpr] at HST
            clear gx gz hpr c0
            go_wp2_with fail
            go_roundw
            case rel => exact ⟨i + 1, _, by go_num, hlt, HST, HO.out.set' i _ _ (by rw [Int.natCast_emod, Int.natCast_ediv, Int.natCast_pow]; rfl), HE.out.setCell (Nat.le_refl _) _⟩
            case measure => simp [intOf]; omega
        · obtain rfl : i = la.length := by omega
          obtain ⟨d1, d2⟩ := shr_end HI.out llla
          have ht := trim_raw (some ⟨w.heap.size, 0, none⟩) la.length L wr (by have := HI.out.2.1; omega) (by omega) d1 (.inr ⟨_, _, rfl, HO.out.cellsAt⟩)
          rw [d2, HI.out.2.1, HVL.out] at ht
          have HT := hide ht
          clear ht d1 d2 HI HO c0
          go_wp2_with fail
          refine HT.out.mono ?_
          rintro e w1 ⟨⟨v, rfl, hv⟩, hw1⟩
          rw [hw1]
          have HV : Hid (∀ b, ShrR (val l / 2 ^ r) (.tuple #[v, .bool b]) wr) := fun b => ⟨_, _, rfl, hv⟩
          clear hw1 w1 hv
          go_wp2_with fail
          simp [bodyPost, results, Oacg.results98, go_sem]
          exact ⟨HV.out _, HE.out⟩
end Go.Proofs.YgcoacGreat
