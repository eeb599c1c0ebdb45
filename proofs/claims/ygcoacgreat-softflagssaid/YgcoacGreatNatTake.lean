/-
  nat.takeAway, nat.putBack: in place, in a part of a row that the caller has made.
-/
import Derived.Test.YgcoacGreatNatCopy
import Derived.Deep.QuietTactic
import Derived.BigQuiet
namespace Go.Proofs.YgcoacGreat
open Go.RowKit
set_option linter.unusedSimpArgs false
set_option linter.unusedVariables false

/-! ### Writes to one block alone -/
structure OnlyAt (g : Nat) (w w' : World) : Prop where
  os : w'.os = w.os
  tape : w'.tape = w.tape
  output : w'.output = w.output
  size : w'.heap.size = w.heap.size
  block : ∀ k, k ≠ g → w'.heap[k]? = w.heap[k]?
  froz : ∀ a, w'.frozen? a = w.frozen? a
theorem OnlyAt.refl (g : Nat) (w : World) : OnlyAt g w w := ⟨rfl, rfl, rfl, rfl, fun _ _ => rfl, fun _ => rfl⟩
theorem OnlyAt.trans {g : Nat} {a b c : World} (h : OnlyAt g a b) (k : OnlyAt g b c) : OnlyAt g a c :=
  ⟨k.os.trans h.os, k.tape.trans h.tape, k.output.trans h.output, k.size.trans h.size, fun i hi => (k.block i hi).trans (h.block i hi), fun x => (k.froz x).trans (h.froz x)⟩
theorem OnlyAt.drewN {g : Nat} {a b : World} (h : OnlyAt g a b) (n : Nat) : OnlyAt g a (b.drewN n) := ⟨h.os, h.tape, h.output, h.size, h.block, h.froz⟩
theorem OnlyAt.set {g : Nat} {a b : World} (h : OnlyAt g a b) (j : Nat) (u : Value) : OnlyAt g a (b.setCell ⟨g, j, none⟩ u) := by
  refine ⟨h.os, h.tape, h.output, ?_, fun k hk => ?_, fun x => ?_⟩
  · rw [← h.size]; simp [World.setCell]
  · rw [Below.heap_setCell _ _ _ _ hk]; exact h.block k hk
  · rw [World.frozen?_setCell]; exact h.froz x
theorem OnlyAt.cell {g : Nat} {a b : World} (h : OnlyAt g a b) {p : Addr} {v : Value} (hp : p.block ≠ g) (hc : a.cell? p = some v) : b.cell? p = some v := by
  rw [World.cell?_of_block (h.block _ hp)]; exact hc
theorem OnlyAt.ext {g : Nat} {a b c : World} (h : OnlyAt g b c) (e : Ext a b) (hg : a.heap.size ≤ g) : Ext a c := by
  refine ⟨⟨h.os.trans e.below.os, h.tape.trans e.below.tape, h.output.trans e.below.output, by rw [h.size]; exact e.size, fun k hk => ?_⟩, fun x => (h.froz x).trans (e.froz x)⟩
  rw [h.block k (by omega)]; exact e.below.block k hk

theorem get_mid {P U S : List Nat} {i x : Nat} (h : U[i]? = some x) : (P ++ U ++ S)[P.length + i]? = some x := by
  have hl := lt_of_get h
  rw [List.append_assoc, List.getElem?_append_right (by omega), Nat.add_sub_cancel_left, List.getElem?_append_left hl]
  exact h
theorem set_mid {P U S : List Nat} {i x : Nat} (h : i < U.length) : (P ++ U ++ S).set (P.length + i) x = P ++ U.set i x ++ S := by
  rw [List.append_assoc, List.set_append_right _ _ (by omega), Nat.add_sub_cancel_left, List.set_append_left _ _ h, List.append_assoc]

/-! ### takeAway -/
def TakeInv (U ld U' : List Nat) (dg i c bo : Nat) : Prop := Lim U' ∧ U'.length = U.length ∧ U'.drop i = U.drop i ∧ (c < 4294967296 ∧ (ld.length < i → c = 0)) ∧ bo ≤ 1 ∧ val (U'.take i) + dg * val (ld.take i) = val (U.take i) + W i * (c + bo)
theorem take_start {U : List Nat} (h : Lim U) (ld : List Nat) (dg : Nat) : TakeInv U ld U dg 0 0 0 := ⟨h, rfl, rfl, ⟨by omega, fun _ => rfl⟩, by omega, by simp [val]⟩
/-- The limb and the borrow out of u - low - bo. -/
def subLimb (u low bo : Nat) : Nat := if low + bo ≤ u then u - (low + bo) else u + 4294967296 - (low + bo)
def subBor (u low bo : Nat) : Nat := if low + bo ≤ u then 0 else 1
theorem sub_eq {u low bo : Nat} (hu : u < 4294967296) (hl : low < 4294967296) (hb : bo ≤ 1) : subLimb u low bo + (low + bo) = u + 4294967296 * subBor u low bo ∧ subLimb u low bo < 4294967296 ∧ subBor u low bo ≤ 1 := by
  unfold subLimb subBor
  split <;> omega
theorem sub_wrap {u low bo : Nat} (hu : u < 4294967296) (hl : low < 4294967296) (hb : bo ≤ 1) :
    IntKind.u64.wrap (IntKind.u64.wrap ((u : Int) - (low : Int)) - (bo : Int)) % 4294967296 = (subLimb u low bo : Int) ∧ IntKind.u64.wrap (IntKind.u64.wrap ((u : Int) - (low : Int)) - (bo : Int)) / 9223372036854775808 = (subBor u low bo : Int) := by
  rw [wu64, wu64]
  unfold subLimb subBor
  split <;> omega
theorem take_step_lt {U ld U' : List Nat} {dg i c bo u y : Nat} (h : TakeInv U ld U' dg i c bo) (hu : U'[i]? = some u) (hy : ld[i]? = some y) (hdg : dg < 4294967296) (hyl : y < 4294967296) :
    TakeInv U ld (U'.set i (subLimb u ((c + dg * y) % 4294967296) bo)) dg (i + 1) ((c + dg * y) / 4294967296) (subBor u ((c + dg * y) % 4294967296) bo) := by
  obtain ⟨h1, h2, h3, h4, h5, h6⟩ := h
  have hlt := lt_of_get hu
  have hul := h1.at hu
  have hm : (c + dg * y) % 4294967296 < 4294967296 := Nat.mod_lt _ (by decide)
  obtain ⟨s1, s2, s3⟩ := sub_eq hul hm h5
  have hu0 : U[i]? = some u := by rw [← get_of_drop h3]; exact hu
  have hp : dg * y ≤ 4294967295 * 4294967295 := Nat.mul_le_mul (by omega) (by omega)
  refine ⟨h1.set _ s2, by simpa using h2, by rw [drop_set_past]; exact drop_succ_of h3, ⟨by omega, fun hx => by have := lt_of_get hy; omega⟩, s3, ?_⟩
  rw [val_take_set hlt, val_take_succ hu0, val_take_succ hy, W_succ]
  have e0 : dg * (val (ld.take i) + W i * y) = dg * val (ld.take i) + W i * (dg * y) := by rw [Nat.mul_add, Nat.mul_left_comm]
  rw [e0]
  generalize dg * val (ld.take i) = A at *
  generalize hpq : dg * y = p at *
  generalize subLimb u ((c + p) % 4294967296) bo = m at *
  generalize subBor u ((c + p) % 4294967296) bo = b' at *
  have k1 : W i * (m + ((c + p) % 4294967296 + bo)) = W i * (u + 4294967296 * b') := by rw [s1]
  have k2 : W i * (c + p) = W i * ((c + p) % 4294967296) + 4294967296 * W i * ((c + p) / 4294967296) := by
    rw [Nat.mul_comm 4294967296 (W i), Nat.mul_assoc, ← Nat.mul_add, Nat.add_comm ((c + p) % 4294967296), Nat.div_add_mod]
  have k3 : W i * (4294967296 * b') = 4294967296 * W i * b' := by rw [← Nat.mul_assoc, Nat.mul_comm (W i) 4294967296]
  simp only [Nat.mul_add] at *
  omega
theorem take_step_top {U ld U' : List Nat} {dg i c bo u : Nat} (h : TakeInv U ld U' dg i c bo) (hu : U'[i]? = some u) (hy : ld.length ≤ i) :
    TakeInv U ld (U'.set i (subLimb u (c % 4294967296) bo)) dg (i + 1) (c / 4294967296) (subBor u (c % 4294967296) bo) := by
  obtain ⟨h1, h2, h3, h4, h5, h6⟩ := h
  have hlt := lt_of_get hu
  have hul := h1.at hu
  have hm : c % 4294967296 < 4294967296 := Nat.mod_lt _ (by decide)
  obtain ⟨s1, s2, s3⟩ := sub_eq hul hm h5
  have hu0 : U[i]? = some u := by rw [← get_of_drop h3]; exact hu
  refine ⟨h1.set _ s2, by simpa using h2, by rw [drop_set_past]; exact drop_succ_of h3, ⟨by omega, fun _ => by omega⟩, s3, ?_⟩
  rw [val_take_all hy] at h6
  rw [val_take_set hlt, val_take_succ hu0, val_take_all (Nat.le_succ_of_le hy), W_succ]
  have hc0 : c / 4294967296 = 0 := by omega
  have hc1 : c % 4294967296 = c := by omega
  rw [hc0]
  rw [hc1] at s1 s2 s3 ⊢
  generalize dg * val ld = A at *
  generalize subLimb u c bo = m at *
  generalize subBor u c bo = b' at *
  have k1 : W i * (m + (c + bo)) = W i * (u + 4294967296 * b') := by rw [s1]
  have k3 : W i * (4294967296 * b') = 4294967296 * W i * b' := by rw [← Nat.mul_assoc, Nat.mul_comm (W i) 4294967296]
  simp only [Nat.mul_add] at *
  omega
theorem take_end {U ld U' : List Nat} {dg c bo : Nat} (h : TakeInv U ld U' dg U.length c bo) (hl : ld.length < U.length) : Lim U' ∧ U'.length = U.length ∧ bo ≤ 1 ∧ val U' + dg * val ld = val U + W U.length * bo := by
  obtain ⟨h1, h2, h3, ⟨_, h4⟩, h5, h6⟩ := h
  rw [h4 hl, Nat.zero_add] at h6
  rw [val_take_all (by omega), val_take_all (by omega), val_take_all (Nat.le_refl _)] at h6
  exact ⟨h1, h2, h5, h6⟩

theorem and_low {c : Nat} (h : c < 18446744073709551616) : Go.bits BinOp.and IntKind.u64 (c : Int) 4294967295 = ((c % 4294967296 : Nat) : Int) := by
  have := u64_and_nat c 4294967295 h (by decide)
  rw [show ((4294967295 : Nat) : Int) = (4294967295 : Int) from rfl] at this
  rw [this, show (4294967295 : Nat) = 2 ^ 32 - 1 from rfl, Nat.and_two_pow_sub_one_eq_mod]

def TakeR (P U S ld : List Nat) (g dg : Nat) (b : Bool) (w' : World) : Prop :=
  ∃ U', Lim U' ∧ U'.length = U.length ∧ val U' + dg * val ld = val U + (if b then W U.length else 0) ∧ OwnAt w' g (P ++ U' ++ S)

set_option maxHeartbeats 1000000 in
theorem takeAway_any (P U S ld : List Nat) (g bd od cu cd dg : Nat) (hU : Lim U) (hld : Lim ld) (hlen : U.length = ld.length + 1) (hll : ld.length ≤ 1073741824) (hdg : dg < 4294967296) (w : World) (ho : OwnAt w g (P ++ U ++ S)) (hd : cellsAt w bd od ld) (hne : bd ≠ g) :
    Calls Oacg.prog 103 #[.slice (some ⟨g, P.length, none⟩) U.length cu, .slice (some ⟨bd, od, none⟩) ld.length cd, .int .u32 (dg : Int)] w fun r w' =>
      (∃ b, r = .returned (.bool b) ∧ TakeR P U S ld g dg b w') ∧ OnlyAt g w w' := by
  have hli : (ld.length : Int) ≤ 1073741824 := by omega
  have hleni : (U.length : Int) = (ld.length : Int) + 1 := by omega
  have HO0 := hide ho
  have HD := hide hd
  clear ho hd
  go_enter Oacg.func103, Oacg.ntmps103
  go_wp2_with fail
  go_loopw [7, 8, 13] (fun vc vb vi wr => ∃ i c bo : Nat, ∃ U' : List Nat, vc = .int .u64 (c : Int) ∧ vb = .int .u64 (bo : Int) ∧ vi = .int .i64 (i : Int) ∧ i ≤ U.length ∧ Hid (TakeInv U ld U' dg i c bo) ∧ Hid (OwnAt wr g (P ++ U' ++ S)) ∧ Hid (OnlyAt g w wr)) (fun _ _ i _ => (U.length - intOf i).toNat)
  case atStart => exact ⟨0, 0, 0, U, rfl, rfl, rfl, Nat.zero_le _, take_start hU ld dg, HO0.out, OnlyAt.refl _ _⟩
  case round =>
    obtain ⟨i, c, bo, U', rfl, rfl, rfl, hi, HI, HO, HE⟩ := hrel
    by_cases hlt : i < U.length
    · have i1 : (i : Int) < (U.length : Int) := by omega
      obtain ⟨u, gu⟩ := get_some (show i < U'.length by have := HI.out.2.1; omega)
      have hu := HI.out.1.at gu
      have c1 := HO.out.cell (get_mid (P := P) (S := S) gu)
      have f1 := HO.out.frozen (P.length + i)
      have hc := HI.out.2.2.2.1.1
      have hbo := HI.out.2.2.2.2.1
      have GU := hide gu
      have HUL := hide (lt_of_get gu)
      clear gu
      by_cases hl2 : i < ld.length
      · have t1 : decide ((i : Int) < (ld.length : Int)) = true := by simp; omega
        have i2 : (i : Int) < (ld.length : Int) := by omega
        obtain ⟨y, gy⟩ := get_some hl2
        have hy := hld.at gy
        have c2 := HE.out.cell (p := ⟨bd, od + i, none⟩) hne (HD.out i _ gy)
        obtain ⟨m1, m2⟩ := mul_bound hdg hy
        have HST := hide (take_step_lt HI.out GU.out gy hdg hy)
        have hml := Nat.mod_lt (c + dg * y) (show 0 < 4294967296 by decide)
        have hpi : (dg : Int) * (y : Int) = ((dg * y : Nat) : Int) := by rw [Int.natCast_mul]
        obtain ⟨p, hp⟩ : ∃ p : Nat, dg * y = p := ⟨_, rfl⟩
        rw [hp] at HST hpi hml
        rw [hpi] at m1 m2
        have hal := and_low (c := c + p) (by omega)
        rw [Int.natCast_add] at hal
        obtain ⟨sw1, sw2⟩ := sub_wrap hu hml hbo
        rw [show (((c + p) % 4294967296 : Nat) : Int) = ((c : Int) + (p : Int)) % 4294967296 by omega] at sw1 sw2
        have HS1 := hide sw1
        have HS2 := hide sw2
        clear gy hp sw1 sw2 hml
        go_wp2_with fail
        go_roundw
        case rel =>
          refine ⟨i + 1, (c + p) / 4294967296, _, _, by congr 1, by rw [HS2.out], by go_num, hlt, HST, ?_, HE.out.set _ _⟩
          have h1 := HO.out.set' (P.length + i) _ _ HS1.out
          rw [set_mid HUL.out] at h1
          exact h1
        case measure => simp [intOf]; omega
      · have t1 : decide ((i : Int) < (ld.length : Int)) = false := by simp; omega
        have HST := hide (take_step_top HI.out GU.out (by omega))
        have hml := Nat.mod_lt c (show 0 < 4294967296 by decide)
        have hal := and_low (c := c) (by omega)
        obtain ⟨sw1, sw2⟩ := sub_wrap hu hml hbo
        rw [show ((c % 4294967296 : Nat) : Int) = (c : Int) % 4294967296 by omega] at sw1 sw2 hal
        have HS1 := hide sw1
        have HS2 := hide sw2
        have hcc : (c : Int) % 4294967296 = (c : Int) := by omega
        rw [hcc] at HS1 HS2 hal
        clear sw1 sw2 hml hcc
        go_wp2_with fail
        go_roundw
        case rel =>
          refine ⟨i + 1, c / 4294967296, _, _, by congr 1, by rw [HS2.out], by go_num, hlt, HST, ?_, HE.out.set _ _⟩
          have h1 := HO.out.set' (P.length + i) _ _ HS1.out
          rw [set_mid HUL.out] at h1
          exact h1
        case measure => simp [intOf]; omega
    · obtain rfl : i = U.length := by omega
      obtain ⟨e1, e2, e3, e4⟩ := take_end HI.out (by omega)
      have HR : Hid (∀ b : Bool, b = ((bo : Int) == 1) → TakeR P U S ld g dg b wr) := by
        intro b hb
        refine ⟨U', e1, e2, ?_, HO.out⟩
        rw [e4]
        rcases Nat.lt_or_ge bo 1 with h | h
        · have : bo = 0 := by omega
          subst this; rw [hb]; simp
        · have : bo = 1 := by omega
          subst this; rw [hb]; simp
      clear e1 e2 e3 e4 HI HO
      go_wp2_with fail
      go_ret
      exact ⟨⟨_, rfl, HR.out _ rfl⟩, HE.out⟩

/-! ### putBack -/
def PutInv (U ld U' : List Nat) (i c : Nat) : Prop := Lim U' ∧ U'.length = U.length ∧ U'.drop i = U.drop i ∧ c ≤ 1 ∧ val (U'.take i) + W i * c = val (U.take i) + val (ld.take i)
theorem put_start {U : List Nat} (h : Lim U) (ld : List Nat) : PutInv U ld U 0 0 := ⟨h, rfl, rfl, by omega, by simp [val]⟩
theorem put_step {U ld U' : List Nat} {i c u y : Nat} (h : PutInv U ld U' i c) (hu : U'[i]? = some u) (hy : ld[i]? = some y ∨ (ld.length ≤ i ∧ y = 0)) (hyl : y < 4294967296) :
    PutInv U ld (U'.set i ((c + u + y) % 4294967296)) (i + 1) ((c + u + y) / 4294967296) := by
  obtain ⟨h1, h2, h3, h4, h5⟩ := h
  have hlt := lt_of_get hu
  have hul := h1.at hu
  have hm : (c + u + y) % 4294967296 < 4294967296 := Nat.mod_lt _ (by decide)
  have hu0 : U[i]? = some u := by rw [← get_of_drop h3]; exact hu
  refine ⟨h1.set _ hm, by simpa using h2, by rw [drop_set_past]; exact drop_succ_of h3, by omega, ?_⟩
  have hld : val (ld.take (i + 1)) = val (ld.take i) + W i * y := by
    rcases hy with hy | ⟨hy, rfl⟩
    · exact val_take_succ hy
    · rw [val_take_all hy, val_take_all (Nat.le_succ_of_le hy)]; simp
  rw [val_take_set hlt, val_take_succ hu0, hld, W_succ]
  have k2 : W i * (c + u + y) = W i * ((c + u + y) % 4294967296) + 4294967296 * W i * ((c + u + y) / 4294967296) := by
    rw [Nat.mul_comm 4294967296 (W i), Nat.mul_assoc, ← Nat.mul_add, Nat.add_comm ((c + u + y) % 4294967296), Nat.div_add_mod]
  rw [Nat.mul_add, Nat.mul_add] at k2
  omega
theorem put_end {U ld U' : List Nat} {c : Nat} (h : PutInv U ld U' U.length c) (hl : ld.length ≤ U.length) : Lim U' ∧ U'.length = U.length ∧ c ≤ 1 ∧ val U' + W U.length * c = val U + val ld := by
  obtain ⟨h1, h2, h3, h4, h6⟩ := h
  rw [val_take_all (by omega), val_take_all (by omega), val_take_all hl] at h6
  exact ⟨h1, h2, h4, h6⟩

def PutR (P U S ld : List Nat) (g : Nat) (w' : World) : Prop := ∃ U' c, Lim U' ∧ U'.length = U.length ∧ c ≤ 1 ∧ val U' + W U.length * c = val U + val ld ∧ OwnAt w' g (P ++ U' ++ S)

set_option maxHeartbeats 1000000 in
theorem putBack_any (P U S ld : List Nat) (g bd od cu cd : Nat) (hU : Lim U) (hld : Lim ld) (hlen : U.length = ld.length + 1) (hll : ld.length ≤ 1073741824) (w : World) (ho : OwnAt w g (P ++ U ++ S)) (hd : cellsAt w bd od ld) (hne : bd ≠ g) :
    Calls Oacg.prog 104 #[.slice (some ⟨g, P.length, none⟩) U.length cu, .slice (some ⟨bd, od, none⟩) ld.length cd] w fun r w' =>
      ((∃ v, r = .returned v) ∧ PutR P U S ld g w') ∧ OnlyAt g w w' := by
  have hli : (ld.length : Int) ≤ 1073741824 := by omega
  have hleni : (U.length : Int) = (ld.length : Int) + 1 := by omega
  have HO0 := hide ho
  have HD := hide hd
  clear ho hd
  go_enter Oacg.func104, Oacg.ntmps104
  go_wp2_with fail
  go_loopw [4, 8] (fun vc vi wr => ∃ i c : Nat, ∃ U' : List Nat, vc = .int .u64 (c : Int) ∧ vi = .int .i64 (i : Int) ∧ i ≤ U.length ∧ Hid (PutInv U ld U' i c) ∧ Hid (OwnAt wr g (P ++ U' ++ S)) ∧ Hid (OnlyAt g w wr)) (fun _ i _ => (U.length - intOf i).toNat)
  case atStart => exact ⟨0, 0, U, rfl, rfl, Nat.zero_le _, put_start hU ld, HO0.out, OnlyAt.refl _ _⟩
  case round =>
    obtain ⟨i, c, U', rfl, rfl, hi, HI, HO, HE⟩ := hrel
    by_cases hlt : i < U.length
    · have i1 : (i : Int) < (U.length : Int) := by omega
      obtain ⟨u, gu⟩ := get_some (show i < U'.length by have := HI.out.2.1; omega)
      have hu := HI.out.1.at gu
      have c1 := HO.out.cell (get_mid (P := P) (S := S) gu)
      have f1 := HO.out.frozen (P.length + i)
      have hc := HI.out.2.2.2.1
      have GU := hide gu
      have HUL := hide (lt_of_get gu)
      clear gu
      by_cases hl2 : i < ld.length
      · have t1 : decide ((i : Int) < (ld.length : Int)) = true := by simp; omega
        have i2 : (i : Int) < (ld.length : Int) := by omega
        obtain ⟨y, gy⟩ := get_some hl2
        have hy := hld.at gy
        have c2 := HE.out.cell (p := ⟨bd, od + i, none⟩) hne (HD.out i _ gy)
        have HST := hide (put_step HI.out GU.out (.inl gy) hy)
        clear gy
        go_wp2_with fail
        go_roundw
        case rel =>
          refine ⟨i + 1, _, _, by congr 1, by go_num, hlt, HST, ?_, HE.out.set _ _⟩
          have h1 := HO.out.set' (P.length + i) ((c + u + y) % 4294967296) (((c : Int) + (u : Int) + (y : Int)) % 4294967296) (by omega)
          rw [set_mid HUL.out] at h1
          exact h1
        case measure => simp [intOf]; omega
      · have t1 : decide ((i : Int) < (ld.length : Int)) = false := by simp; omega
        have HST := hide (put_step HI.out GU.out (.inr ⟨by omega, rfl⟩) (by decide))
        rw [Nat.add_zero] at HST
        go_wp2_with fail
        go_roundw
        case rel =>
          refine ⟨i + 1, _, _, by congr 1, by go_num, hlt, HST, ?_, HE.out.set _ _⟩
          have h1 := HO.out.set' (P.length + i) ((c + u) % 4294967296) (((c : Int) + (u : Int)) % 4294967296) (by omega)
          rw [set_mid HUL.out] at h1
          exact h1
        case measure => simp [intOf]; omega
    · obtain rfl : i = U.length := by omega
      obtain ⟨e1, e2, e3, e4⟩ := put_end HI.out (by omega)
      have HR : Hid (PutR P U S ld g wr) := ⟨U', c, e1, e2, e3, e4, HO.out⟩
      clear e1 e2 e3 e4 HI HO
      go_wp2_with fail
      simp [bodyPost, results, Oacg.results104]
      exact ⟨HR.out, HE.out⟩
end Go.Proofs.YgcoacGreat
