/-
  nat.divLimb.
-/
import Derived.Test.YgcoacGreatNatCopy
import Derived.Test.YgcoacGreatNatGuess
import Derived.Deep.QuietTactic
import Derived.BigQuiet
namespace Go.Proofs.YgcoacGreat
open Go.RowKit
set_option linter.unusedSimpArgs false
set_option linter.unusedVariables false

theorem drop_set_self {L : List Nat} {j : Nat} (h : j < L.length) (x : Nat) : (L.set j x).drop j = x :: L.drop (j + 1) := by
  rw [List.drop_eq_getElem_cons (by simpa using h), List.getElem_set_self, drop_set_past]
theorem val_drop_step {la : List Nat} {j x : Nat} (h : la[j]? = some x) : val (la.drop j) = x + 4294967296 * val (la.drop (j + 1)) := by
  have hl := lt_of_get h
  rw [List.drop_eq_getElem_cons hl, val_cons]
  rw [List.getElem?_eq_getElem hl] at h
  injection h with h; rw [h]
def LimbInv (la L : List Nat) (d k rest : Nat) : Prop := Lim L ∧ L.length = la.length ∧ rest < d ∧ val (L.drop k) * d + rest = val (la.drop k)
theorem limb_start (la : List Nat) {d : Nat} (hd : 0 < d) : LimbInv la (zeros la.length) d la.length 0 :=
  ⟨zeros_lim _, zeros_length _, hd, by rw [List.drop_eq_nil_of_le (by rw [zeros_length]; exact Nat.le_refl _), List.drop_eq_nil_of_le (Nat.le_refl _)]; simp [val]⟩
theorem limb_step {la L : List Nat} {d j rest x : Nat} (h : LimbInv la L d (j + 1) rest) (hx : la[j]? = some x) (hxl : x < 4294967296) (hd : d < 4294967296) :
    LimbInv la (L.set j ((rest * 4294967296 + x) / d)) d j ((rest * 4294967296 + x) % d) ∧ (rest * 4294967296 + x) / d < 4294967296 := by
  obtain ⟨h1, h2, h3, h4⟩ := h
  have hl := lt_of_get hx
  have hq : (rest * 4294967296 + x) / d < 4294967296 := by
    rw [Nat.div_lt_iff_lt_mul (by omega)]
    have : (rest + 1) * 4294967296 ≤ d * 4294967296 := Nat.mul_le_mul_right _ h3
    omega
  refine ⟨⟨h1.set _ hq, by simpa using h2, Nat.mod_lt _ (by omega), ?_⟩, hq⟩
  rw [drop_set_self (by omega), val_cons, val_drop_step hx, ← h4, Nat.add_mul]
  have e := Nat.div_add_mod (rest * 4294967296 + x) d
  rw [Nat.mul_comm d] at e
  generalize (rest * 4294967296 + x) / d * d = A at *
  generalize (rest * 4294967296 + x) % d = M at *
  rw [Nat.mul_add, Nat.mul_assoc]
  omega
theorem limb_end {la L : List Nat} {d rest : Nat} (h : LimbInv la L d 0 rest) : Lim L ∧ val L = val la / d ∧ rest = val la % d := by
  obtain ⟨h1, h2, h3, h4⟩ := h
  rw [List.drop_zero, List.drop_zero] at h4
  have hd : 0 < d := by omega
  refine ⟨h1, ?_, ?_⟩
  · rw [← h4, Nat.mul_comm, Nat.mul_add_div hd, Nat.div_eq_of_lt h3]; simp
  · rw [← h4, Nat.mul_comm, Nat.mul_add_mod, Nat.mod_eq_of_lt h3]

set_option maxHeartbeats 1000000 in
theorem divLimb_any (A ka d : Nat) (hA : A < W ka) (hka : ka ≤ 1073741824) (hd0 : 0 < d) (hd : d < 4294967296) (va : Value) (w : World) (ha : NatAt w va A) :
    Calls Oacg.prog 95 #[va, .int .u32 (d : Int)] w fun e w' => (∃ v, e = .returned (.tuple #[v, .int .u32 ((A % d : Nat) : Int)]) ∧ NatAt w' v (A / d)) ∧ Ext w w' := by
  obtain ⟨p, ca, la, rfl, hca, hcam, llla, nla, rfl, ha1⟩ := ha.open
  have hla : la.length ≤ 1073741824 := Nat.le_trans (length_le nla hA) hka
  have HC : Hid (∀ j x : Nat, la[j]? = some x → ∃ b off, p = some ⟨b, off, none⟩ ∧ w.cell? ⟨b, off + j, none⟩ = some (.int .u32 (x : Int))) := by
    intro j x hj
    rcases ha1 with ⟨h, _⟩ | ⟨_, _, b, off, hp, hcl⟩
    · rw [h] at hj; simp at hj
    · exact ⟨b, off, hp, hcl j x hj⟩
  have hmk := make_nat la.length (by omega)
  have hli : (la.length : Int) ≤ 1073741824 := by omega
  have hdz : ((d : Int) == 0) = false := by rw [beq_eq_false_iff_ne]; omega
  clear ha ha1 hA hka hca hcam nla
  go_enter Oacg.func95, Oacg.ntmps95
  go_wp2_with fail
  go_loopw [7, 8] (fun vr vi wr => ∃ k rest : Nat, ∃ L : List Nat, vr = .int .u64 (rest : Int) ∧ vi = .int .i64 ((k : Int) - 1) ∧ k ≤ la.length ∧ Hid (LimbInv la L d k rest) ∧ Hid (OwnAt wr w.heap.size L) ∧ Hid (Ext w wr)) (fun _ i _ => (intOf i + 1).toNat)
  case atStart => exact ⟨la.length, 0, _, rfl, rfl, Nat.le_refl _, limb_start la hd0, OwnAt.new _ _, (Ext.refl _).alloc _ _⟩
  case round =>
    obtain ⟨k, rest, L, rfl, rfl, hk, HI, HO, HE⟩ := hrel
    rcases Nat.eq_zero_or_pos k with hk0 | hk0
    · subst hk0
      obtain ⟨e1, e2, e3⟩ := limb_end HI.out
      have hrl := HI.out.2.2.1
      have hLl := HI.out.2.1
      have ht := trim_raw (some ⟨w.heap.size, 0, none⟩) la.length L wr (by omega) (by omega) e1 (.inr ⟨_, _, rfl, HO.out.cellsAt⟩)
      rw [e2, hLl] at ht
      have HT := hide ht
      have HR := hide e3
      clear ht e1 e2 e3 HI HO hLl
      go_wp2_with fail
      refine HT.out.mono ?_
      rintro e w1 ⟨⟨v, rfl, hv⟩, hw1⟩
      rw [hw1]
      have HV := hide hv
      have hrl2 : (rest : Int) < 4294967296 := by omega
      clear hw1 w1 hv
      go_wp2_with fail
      simp [bodyPost, results, Oacg.results95, go_sem]
      exact ⟨⟨v, ⟨rfl, by have := HR.out; omega⟩, HV.out⟩, HE.out⟩
    · obtain ⟨j, rfl⟩ : ∃ j, k = j + 1 := ⟨k - 1, by omega⟩
      have hji : (((j + 1 : Nat) : Int) - 1) = (j : Int) := by omega
      rw [hji]
      obtain ⟨x, gx⟩ := get_some (show j < la.length by omega)
      obtain ⟨b, off, rfl, hcx⟩ := HC.out j x gx
      have c1 := HE.out.cell hcx
      have hx := llla.at gx
      obtain ⟨hs1, hs2⟩ := limb_step HI.out gx hx hd
      have hrl := HI.out.2.2.1
      obtain ⟨z, gz⟩ := get_some (show j < L.length by have := HI.out.2.1; omega)
      have c2 := HO.out.cell gz
      have f2 := HO.out.frozen j
      have r2 := or_limbs (a := rest) (b := x) (by omega) hx
      obtain ⟨Y, hY⟩ : ∃ Y : Nat, rest * 4294967296 + x = Y := ⟨_, rfl⟩
      have hYb : Y < 18446744073709551616 := by omega
      rw [hY] at hs1 hs2 r2
      obtain ⟨q, hq⟩ : ∃ q : Nat, Y / d = q := ⟨_, rfl⟩
      obtain ⟨r0, hr0⟩ : ∃ r0 : Nat, Y % d = r0 := ⟨_, rfl⟩
      have hqi : (Y : Int) / (d : Int) = (q : Int) := by rw [← Int.natCast_ediv, hq]
      have hri : (Y : Int) % (d : Int) = (r0 : Int) := by rw [← Int.natCast_emod, hr0]
      rw [hq] at hs1 hs2
      rw [hr0] at hs1
      have hq2 : (q : Int) < 4294967296 := by omega
      have HS := hide hs1
      have HYB := hide hYb
      have i1 : (j : Int) < (la.length : Int) := by omega
      clear hs1 gx gz hcx HC hY hYb hs2 hq hr0
      go_wp2_with fail
      go_roundw
      case rel => exact ⟨j, r0, _, by rw [hri], by go_num, by omega, HS, HO.out.set' j _ _ rfl, HE.out.setCell (Nat.le_refl _) _⟩
      case measure => simp [intOf]
end Go.Proofs.YgcoacGreat
