/-
  dec.Dec.Ok.
-/
import Derived.Test.YgcoacDecM
import Derived.Test.YgcoacExF
namespace Go.Proofs.Ygcoac
open Go.RowKit
set_option linter.unusedSimpArgs false
set_option linter.unusedVariables false

def dgB (c : UInt8) : Bool := decide (48 ≤ c.toNat) && decide (c.toNat ≤ 57)
/-- What Ok answers. -/
def okD (t : ByteArray) (x : Int) : Bool :=
  if t.size = 0 then (x == 0) else if 800 < t.size then false
  else if (bytes t).all dgB then (((bytes t).getD 0 0).toNat != 48 && (((bytes t).getD (t.size - 1) 0).toNat != 48 && (decide (-2000 ≤ x) && decide (x ≤ 2000)))) else false
theorem okD_dg {t : ByteArray} {x : Int} (h : okD t x = true) : (bytes t).all dgB = true ∧ t.size ≤ 800 ∧ -2000 ≤ x ∧ x ≤ 2000 := by
  unfold okD at h
  split at h
  · rename_i h0
    have hx : x = 0 := by simpa using h
    have hb : bytes t = [] := List.length_eq_zero_iff.1 (by rw [bytes_length]; exact h0)
    rw [hb]
    exact ⟨rfl, by omega, by omega, by omega⟩
  · split at h
    · cases h
    · split at h
      · rename_i h1 h2 h3
        simp only [Bool.and_eq_true, decide_eq_true_eq] at h
        exact ⟨h3, by omega, h.2.2.1, h.2.2.2⟩
      · cases h
theorem byte_getD {t : ByteArray} {k : Nat} (hk : k < t.size) : ((bytes t).getD k 0) = t[k] := by
  rw [List.getD_eq_getElem?_getD, bytes_get t k hk]; rfl

set_option maxHeartbeats 2000000 in
set_option maxRecDepth 20000 in
theorem decOk_any (n : Bool) (t : ByteArray) (x : Int) (hs : (t.size : Int) ≤ 140737488355328) (w : World) :
    Calls Oacg.prog 122 #[.agg #[.bool n, .string t, .int .i16 x]] w fun r w' => r = .returned (.bool (okD t x)) ∧ Ext w w' := by
  have HR : Box (∀ b, b = okD t x → b = okD t x) := ⟨fun _ h => h⟩
  have hx : Ext w (w.alloc (.cells #[.bool n, .string t, .int .i16 x] 72)) := (Ext.refl w).alloc _ _
  have HX := hide hx
  clear hx
  by_cases h0 : t.size = 0
  · have e1 : okD t x = (x == 0) := by unfold okD; rw [if_pos h0]
    rw [e1]
    have t1 : ((t.size : Int) == 0) = true := by simp [h0]
    clear h0 e1 HR
    go_enter Oacg.func122, Oacg.ntmps122
    go_wp2
    go_ret
    exact ⟨rfl, HX.out⟩
  have t1 : ((t.size : Int) == 0) = false := by rw [beq_eq_false_iff_ne]; omega
  by_cases h8 : 800 < t.size
  · have e1 : okD t x = false := by unfold okD; rw [if_neg h0, if_pos h8]
    rw [e1]
    have t2 : decide ((800 : Int) < (t.size : Int)) = true := by simp; omega
    clear h0 h8 e1 HR
    go_enter Oacg.func122, Oacg.ntmps122
    go_wp2
    go_ret
    exact ⟨rfl, HX.out⟩
  have t2 : decide ((800 : Int) < (t.size : Int)) = false := by simp; omega
  obtain ⟨Res, hRes⟩ : ∃ Res, okD t x = Res := ⟨_, rfl⟩
  rw [hRes]
  have e1 : (if (bytes t).all dgB then (((bytes t).getD 0 0).toNat != 48 && (((bytes t).getD (t.size - 1) 0).toNat != 48 && (decide (-2000 ≤ x) && decide (x ≤ 2000)))) else false) = Res := by
    rw [← hRes]; unfold okD; rw [if_neg h0, if_neg h8]
  have E1 := Box.mk e1
  clear hRes e1 HR h8
  go_enter Oacg.func122, Oacg.ntmps122
  go_wp2
  go_loopw [4] (fun vi wr => ∃ (k : Nat), vi = .int .i64 (k : Int) ∧ k ≤ t.size ∧ Hid (∀ j, (hj : j < k) → dgB ((bytes t).getD j 0) = true) ∧ wr = w.alloc (.cells #[.bool n, .string t, .int .i16 x] 72)) (fun i _ => t.size - (intOf i).toNat)
  case atStart =>
    exact ⟨0, rfl, Nat.zero_le _, fun j hj => by omega, rfl⟩
  case round =>
    obtain ⟨k, rfl, hk, HD, rfl⟩ := hrel
    by_cases hlt : k < t.size
    · obtain ⟨c, hc⟩ : ∃ c : Nat, t[k].toNat = c := ⟨_, rfl⟩
      have HB := Box.mk (byte_getD hlt)
      by_cases hd : 48 ≤ c ∧ c ≤ 57
      · have t3 : decide ((c : Int) < 48) = false := by simp; omega
        have t4 : decide ((57 : Int) < (c : Int)) = false := by simp; omega
        have HD2 : Hid (∀ j, (hj : j < k + 1) → dgB ((bytes t).getD j 0) = true) := by
          intro j hj
          rcases Nat.lt_or_ge j k with h' | h'
          · exact HD.out j h'
          · have : j = k := by omega
            subst this
            rw [HB.out]
            unfold dgB
            rw [hc]
            simp; omega
        clear hd HD HB
        go_wp2
        exact ⟨⟨k + 1, by simp, by omega, HD2, trivial⟩, by simp [intOf]; omega⟩
      · have hno : (bytes t).all dgB = false := by
          rw [Bool.eq_false_iff]
          intro hall
          have h1 := List.all_eq_true.1 hall (t[k]) (by rw [← HB.out]; rw [List.getD_eq_getElem?_getD, List.getElem?_eq_getElem (by rw [bytes_length]; exact hlt)]; exact List.getElem_mem _)
          unfold dgB at h1
          rw [hc] at h1
          simp only [Bool.and_eq_true, decide_eq_true_eq] at h1
          exact hd h1
        have hR := E1.out
        rw [hno, if_neg (by decide)] at hR
        subst hR
        by_cases h1 : c < 48
        · have t3 : decide ((c : Int) < 48) = true := by simp; omega
          clear hd h1 HB hno E1 HD
          go_wp2
          go_ret
          exact ⟨rfl, HX.out⟩
        · have t3 : decide ((c : Int) < 48) = false := by simp; omega
          have t4 : decide ((57 : Int) < (c : Int)) = true := by simp; omega
          clear hd h1 HB hno E1 HD
          go_wp2
          go_ret
          exact ⟨rfl, HX.out⟩
    · have hke : k = t.size := by omega
      subst hke
      have hall : (bytes t).all dgB = true := by
        rw [List.all_eq_true]
        intro b hb
        obtain ⟨j, hj, rfl⟩ := List.mem_iff_getElem.1 hb
        have := HD.out j (by rw [← bytes_length]; exact hj)
        rw [List.getD_eq_getElem?_getD, List.getElem?_eq_getElem hj] at this
        exact this
      have hR := E1.out
      rw [hall, if_pos rfl] at hR
      have hpos : 0 < t.size := by omega
      obtain ⟨q, hq⟩ : ∃ q : Nat, (t.size : Int) - 1 = (q : Int) := ⟨t.size - 1, by omega⟩
      have hqs : t.size - 1 = q := by omega
      have hqlt : q < t.size := by omega
      rw [hqs, byte_getD hpos, byte_getD hqlt] at hR
      obtain ⟨c0, hc0⟩ : ∃ c : Nat, t[0].toNat = c := ⟨_, rfl⟩
      obtain ⟨cq, hcq⟩ : ∃ c : Nat, t[q].toNat = c := ⟨_, rfl⟩
      rw [hc0, hcq] at hR
      have HRR := Box.mk hR
      have hqi : (q : Int) < (t.size : Int) := by omega
      clear hR hall HD E1 hk hlt hqs h0
      have e0 : ((c0 : Int) != 48) = (c0 != 48) := by rw [Bool.eq_iff_iff]; simp only [bne_iff_ne]; omega
      have eq : ((cq : Int) != 48) = (cq != 48) := by rw [Bool.eq_iff_iff]; simp only [bne_iff_ne]; omega
      cases b0 : (c0 != 48) with
      | false =>
        have hR := HRR.out
        rw [b0, Bool.false_and] at hR
        subst hR
        rw [b0] at e0
        clear HRR
        go_wp2
        go_ret
        exact ⟨rfl, HX.out⟩
      | true =>
        rw [b0] at e0
        cases bq : (cq != 48) with
        | false =>
          have hR := HRR.out
          rw [b0, bq, Bool.false_and, Bool.and_false] at hR
          subst hR
          rw [bq] at eq
          clear HRR
          go_wp2
          go_ret
          exact ⟨rfl, HX.out⟩
        | true =>
          rw [bq] at eq
          have hR := HRR.out
          rw [b0, bq, Bool.true_and, Bool.true_and] at hR
          clear HRR
          cases x1 : decide (-2000 ≤ x) with
          | false =>
            rw [x1, Bool.false_and] at hR
            subst hR
            go_wp2
            go_ret
            exact ⟨rfl, HX.out⟩
          | true =>
            rw [x1, Bool.true_and] at hR
            subst hR
            go_wp2
            go_ret
            exact ⟨rfl, HX.out⟩
end Go.Proofs.Ygcoac
