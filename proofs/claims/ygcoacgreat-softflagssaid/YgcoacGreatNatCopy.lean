/-
  nat.Take, nat.Succ (the builtin copy).
-/
import Derived.Test.YgcoacGreatNatShl
import Derived.Laws.CopyRow
import Derived.Laws.CopyOwn
namespace Go.Proofs.YgcoacGreat
open Go.RowKit
set_option linter.unusedSimpArgs false
set_option linter.unusedVariables false
attribute [local go_sem] nil_eq nil_ne

theorem Ext.setRow {a b : World} (h : Ext a b) {g : Nat} (hg : a.heap.size ≤ g) {L : List Nat} (ho : OwnAt b g L) (cs : Array Value) : Ext a (b.setRow g cs) := by
  refine ⟨below_setRow h.below hg cs, fun x => ?_⟩
  rw [← h.froz x]
  by_cases hx : x.block = g
  · have h1 : (b.setRow g cs).heap[x.block]? = some (.cells cs 113 (0, 0)) := by rw [hx]; exact setRow_heap b g _ cs _ _ ho
    have h2 : b.heap[x.block]? = some (.cells (limbsArr L) 113 (0, 0)) := by rw [hx]; exact ho
    unfold World.frozen?
    rw [h1, h2]
  · unfold World.frozen?
    rw [setRow_other b g _ cs hx]
theorem wu32 (n : Int) : IntKind.u32.wrap n = n % 4294967296 := by simp [IntKind.wrap, IntKind.bits, IntKind.signed]
theorem addr_add (b off j : Nat) : (⟨b, off, none⟩ : Addr).add j = ⟨b, off + j, none⟩ := by unfold Addr.add; split <;> simp_all
theorem limbs_list (L : List Nat) : (limbsArr L).toList = L.map (fun x : Nat => Value.int .u32 (x : Int)) := by simp [limbsArr]
/-- copy(dst, src): the source's limbs lie at the row's head. -/
theorem copy_nat {w : World} {g : Nat} {L la : List Nat} (ho : OwnAt w g L) {b off : Nat} (hc : cellsAt w b off la) (hl : la.length ≤ L.length) (dc sc : Nat) (ty : TypeId) :
    (Builtin.copy_ #[58, 58] ty #[.slice (some ⟨g, 0, none⟩) L.length dc, .slice (some ⟨b, off, none⟩) la.length sc]).run Oacg.prog w =
      .ok (.int .i64 (la.length : Int)) (w.setRow g (limbsArr (la ++ L.drop la.length))) := by
  have h := run_copy_row (P := Oacg.prog) w 58 58 ty 113 g 0 L.length dc ⟨b, off, none⟩ la.length sc (limbsArr L) 113 (la.map (fun x : Nat => Value.int .u32 (x : Int))) Oacg.underlying58 (by kernel_rfl) ho
    (by rw [List.length_map]; exact (Nat.min_eq_left hl).symm)
    (by
      intro j v hj
      rw [List.getElem?_map] at hj
      cases hx : la[j]? with
      | none => rw [hx] at hj; cases hj
      | some x =>
        rw [hx] at hj
        simp only [Option.map_some, Option.some.injEq] at hj
        subst hj
        have := hc j x hx
        rw [addr_add]
        exact this)
    (by rw [List.length_map, limbsArr]; simp; exact hl)
    (by intro v hv; rw [List.mem_map] at hv; obtain ⟨x, _, rfl⟩ := hv; rfl)
  have e1 : goInt (la.map (fun x : Nat => Value.int .u32 (x : Int))).length = .int .i64 (la.length : Int) := by rw [List.length_map]; rfl
  have e2 : ((limbsArr L).toList.take 0 ++ la.map (fun x : Nat => Value.int .u32 (x : Int)) ++ (limbsArr L).toList.drop (0 + (la.map (fun x : Nat => Value.int .u32 (x : Int))).length)).toArray = limbsArr (la ++ L.drop la.length) := by
    rw [limbs_list, List.length_map, Nat.zero_add, List.take_zero, List.nil_append, ← List.map_drop, ← List.map_append]; rfl
  rw [h, e1, e2]
theorem OwnAt.row {w : World} {g : Nat} {L : List Nat} (ho : OwnAt w g L) (M : List Nat) : OwnAt (w.setRow g (limbsArr M)) g M := setRow_heap w g _ _ _ _ ho

theorem drop_zeros (n k : Nat) : (zeros n).drop k = zeros (n - k) := by simp [zeros]

set_option maxHeartbeats 1000000 in
theorem take_any (A ka : Nat) (hA : A < W ka) (hka : ka ≤ 1073741824) (va : Value) (w : World) (ha : NatAt w va A) :
    Calls Oacg.prog 94 #[va] w fun e w' => (∃ v, e = .returned v ∧ NatAt w' v A) ∧ Ext w w' := by
  have HA := hide ha
  rcases ha with ⟨rfl, rfl⟩ | ⟨l, b, off, cap, rfl, hc, hm, hl, hn, rfl, h0, hcl⟩
  · clear hA hka
    go_enter Oacg.func94, Oacg.ntmps94
    go_wp2_with fail
    refine (trim_nat _ _ _ HA.out).mono ?_
    rintro e w1 ⟨rfl, hw1⟩
    rw [hw1]
    clear hw1 w1
    go_wp2_with fail
    go_ret
    exact ⟨⟨_, rfl, natAt_nil _⟩, Ext.refl _⟩
  · have hla : l.length ≤ 1073741824 := Nat.le_trans (length_le hn hA) hka
    have hmk := make_nat l.length (by omega)
    have ho := OwnAt.new w (zeros l.length)
    have hcp := copy_nat (w := w.alloc (.cells (limbsArr (zeros l.length)) 113)) ho (hcl.ext ((Ext.refl w).alloc _ _)) (by rw [zeros_length]; exact Nat.le_refl _) l.length cap
    rw [zeros_length, drop_zeros, Nat.sub_self, show zeros 0 = [] from rfl, List.append_nil] at hcp
    have HE := hide (((Ext.refl w).alloc (limbsArr (zeros l.length)) 113).setRow (Nat.le_refl _) ho (limbsArr l))
    have HO := hide (ho.row l)
    have HV : Hid (∀ w', OwnAt w' w.heap.size l → NatAt w' (.slice (some ⟨w.heap.size, 0, none⟩) l.length l.length) (val l)) := fun w' h => .inr ⟨l, _, _, _, rfl, Nat.le_refl _, by omega, hl, hn, rfl, h0, h.cellsAt⟩
    clear hcl ho hA hka hc hm hl hn h0
    go_enter Oacg.func94, Oacg.ntmps94
    go_wp2_with fail
    refine (trim_nat _ _ _ HA.out).mono ?_
    rintro e w1 ⟨rfl, hw1⟩
    rw [hw1]
    clear hw1 w1
    go_wp2_with fail
    go_ret
    exact ⟨⟨_, rfl, HV.out _ HO.out⟩, HE.out⟩

/-! ### Succ -/
/-- The first k limbs were all ones; the carry is in hand. -/
def SuccInv (L0 L : List Nat) (k : Nat) : Prop := Lim L ∧ L.length = L0.length ∧ L.drop k = L0.drop k ∧ val (L.take k) + W k = val (L0.take k) + 1
theorem succ_start {L : List Nat} (h : Lim L) : SuccInv L L 0 := ⟨h, rfl, rfl, by simp [val, W]⟩
theorem succ_step {L0 L : List Nat} {k x : Nat} (h : SuccInv L0 L k) (hx : L[k]? = some x) (hw : (x + 1) % 4294967296 = 0) : SuccInv L0 (L.set k 0) (k + 1) := by
  obtain ⟨h1, h2, h3, h4⟩ := h
  have hlt := lt_of_get hx
  have hx0 : L0[k]? = some x := by rw [← get_of_drop h3]; exact hx
  have hxl := h1.at hx
  refine ⟨h1.set _ (by omega), by simpa using h2, by rw [drop_set_past]; exact drop_succ_of h3, ?_⟩
  rw [val_take_set hlt, val_take_succ hx0, W_succ]
  have : x = 4294967295 := by omega
  subst this
  omega
theorem succ_end {L0 L : List Nat} {k x : Nat} (h : SuccInv L0 L k) (hx : L[k]? = some x) (hw : (x + 1) % 4294967296 ≠ 0) : Lim (L.set k (x + 1)) ∧ val (L.set k (x + 1)) = val L0 + 1 := by
  obtain ⟨h1, h2, h3, h4⟩ := h
  have hlt := lt_of_get hx
  have hx0 : L0[k]? = some x := by rw [← get_of_drop h3]; exact hx
  have hxl := h1.at hx
  refine ⟨h1.set _ (by omega), ?_⟩
  have hs : (L.set k (x + 1))[k]? = some (x + 1) := List.getElem?_set_self hlt
  have e1 := (val_split hs).1
  have e2 := (val_split hx0).1
  rw [drop_set_past, drop_succ_of h3, List.take_set_of_le (Nat.le_refl _)] at e1
  rw [e1, e2, Nat.mul_add, Nat.mul_add, Nat.mul_add, Nat.mul_one]
  omega
theorem succ_over {la L : List Nat} (hl : Lim la) (h : SuccInv (la ++ [0]) L (la.length + 1)) : False := by
  obtain ⟨h1, h2, h3, h4⟩ := h
  have e : (la ++ [0]).take (la.length + 1) = la ++ [0] := List.take_of_length_le (by simp)
  rw [e, val_append] at h4
  have hv := val_lt hl
  have hw := W_succ la.length
  simp only [val] at h4
  omega

set_option maxHeartbeats 1000000 in
theorem succ_any (A ka : Nat) (hA : A < W ka) (hka : ka ≤ 1073741824) (va : Value) (w : World) (ha : NatAt w va A) :
    Calls Oacg.prog 76 #[va] w fun e w' => (∃ v, e = .returned v ∧ NatAt w' v (A + 1)) ∧ Ext w w' := by
  have HA := hide ha
  obtain ⟨p, ca, la, rfl, hca, hcam, llla, nla, rfl, ha1⟩ := ha.open
  have hla : la.length ≤ 1073741824 := Nat.le_trans (length_le nla hA) hka
  have hmk := make_nat (la.length + 1) (by omega)
  rw [show ((la.length + 1 : Nat) : Int) = (la.length : Int) + 1 from rfl] at hmk
  have ho := OwnAt.new w (zeros (la.length + 1))
  obtain ⟨w1, hcp, hE1, hO1⟩ : ∃ w1, (∀ ty, (Builtin.copy_ #[58, 58] ty #[.slice (some ⟨w.heap.size, 0, none⟩) (la.length + 1) (la.length + 1), .slice p la.length ca]).run Oacg.prog (w.alloc (.cells (limbsArr (zeros (la.length + 1))) 113)) = .ok (.int .i64 (la.length : Int)) w1) ∧ Ext w w1 ∧ OwnAt w1 w.heap.size (la ++ [0]) := by
    rcases ha1 with ⟨rfl, rfl, rfl, _⟩ | ⟨_, _, b, off, rfl, hcl⟩
    · refine ⟨_, fun ty => ?_, (Ext.refl w).alloc _ _, ho⟩
      exact run_copy_nil (P := Oacg.prog) _ 58 58 ty 113 _ _ _ Oacg.underlying58 (by kernel_rfl)
    · refine ⟨_, fun ty => ?_, ((Ext.refl w).alloc (limbsArr (zeros (la.length + 1))) 113).setRow (Nat.le_refl _) ho (limbsArr (la ++ [0])), ho.row _⟩
      have hcp := copy_nat (w := w.alloc (.cells (limbsArr (zeros (la.length + 1))) 113)) ho (hcl.ext ((Ext.refl w).alloc _ _)) (by rw [zeros_length]; omega) (la.length + 1) ca ty
      rw [zeros_length, drop_zeros, Nat.add_sub_cancel_left, show zeros 1 = [0] from rfl] at hcp
      exact hcp
  have HO1 := hide hO1
  have HE1 := hide hE1
  have hL0 : Lim (la ++ [0]) := by
    intro x hx
    rcases List.mem_append.1 hx with h | h
    · exact llla x h
    · simp at h; omega
  have hv0 : val (la ++ [0]) = val la := by rw [val_append]; simp [val]
  have HL0 := hide hL0
  have HV0 := hide hv0
  clear hA hka ha ha1 ho hO1 hE1 hL0 hv0 hca hcam
  go_enter Oacg.func76, Oacg.ntmps76
  go_wp2_with fail
  refine (trim_nat _ _ _ HA.out).mono ?_
  rintro e w2 ⟨rfl, hw2⟩
  rw [hw2]
  clear hw2 w2
  go_wp2_with fail
  go_loopw [16] (fun i wr => ∃ k : Nat, ∃ L : List Nat, k ≤ la.length + 1 ∧ i = .int .i64 k ∧ Hid (L.length = la.length + 1) ∧ Hid (SuccInv (la ++ [0]) L k) ∧ Hid (OwnAt wr w.heap.size L) ∧ Hid (Ext w wr)) (fun i _ => (la.length + 1 - intOf i).toNat)
  case atStart => exact ⟨0, la ++ [0], Nat.zero_le _, rfl, (by show _ = _; simp), succ_start HL0.out, HO1.out, HE1.out⟩
  case round =>
    obtain ⟨k, L, hk, rfl, HL, HI, HO, HE⟩ := hrel
    by_cases hlt : k < la.length + 1
    · have i1 : (k : Int) < (la.length : Int) + 1 := by omega
      obtain ⟨x, gx⟩ := get_some (show k < L.length by have := HL.out; omega)
      have c1 := HO.out.cell gx
      have f1 := HO.out.frozen k
      have x1 := HI.out.1.at gx
      have GX := hide gx
      clear gx
      by_cases hw : (x + 1) % 4294967296 = 0
      · have hwr : IntKind.u32.wrap ((x : Int) + 1) = 0 := by rw [wu32]; omega
        have HI2 := hide (succ_step HI.out GX.out hw)
        go_wp2_with fail
        go_roundw
        case rel => exact ⟨k + 1, L.set k 0, by omega, by go_num, by have := HL.out; show _ = _; simpa using this, HI2, HO.out.set' k 0 _ rfl, HE.out.setCell (Nat.le_refl _) _⟩
        case measure => simp [intOf]; omega
      · have hwr : IntKind.u32.wrap ((x : Int) + 1) = (x : Int) + 1 := by rw [wu32]; omega
        have hnz : (((x : Int) + 1) != 0) = true := by simp; omega
        have hend := succ_end HI.out GX.out hw
        have HO2 := hide (HO.out.set' k (x + 1) ((x : Int) + 1) rfl)
        have HE2 := hide (HE.out.setCell (p := ⟨w.heap.size, k, none⟩) (Nat.le_refl _) (.int .u32 ((x : Int) + 1)))
        have ht := trim_raw (some ⟨w.heap.size, 0, none⟩) (la.length + 1) (L.set k (x + 1)) (wr.setCell ⟨w.heap.size, k, none⟩ (.int .u32 ((x : Int) + 1))) (by have := HL.out; simp; omega) (by omega) hend.1 (.inr ⟨_, _, rfl, HO2.out.cellsAt⟩)
        rw [hend.2, List.length_set, HL.out, HV0.out] at ht
        have HT := hide ht
        clear ht hend
        go_wp2_with fail
        refine HT.out.mono ?_
        rintro e w3 ⟨⟨v, rfl, hv⟩, hw3⟩
        rw [hw3]
        have HV := hide hv
        clear hw3 w3 hv
        go_wp2_with fail
        go_ret
        exact ⟨⟨_, rfl, HV.out⟩, HE2.out⟩
    · obtain rfl : k = la.length + 1 := by omega
      exact (succ_over llla HI.out).elim
end Go.Proofs.YgcoacGreat
