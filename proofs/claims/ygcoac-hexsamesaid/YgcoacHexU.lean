/-
  hmodel: wrong, cut, run.
-/
import Derived.Test.YgcoacHexW
import Derived.Laws.BitsAllLaws
import Derived.WalkKit
import Derived.WalkSpells
import Derived.Deep.QuietTactic
import Derived.BigQuiet
namespace Go.Proofs.Ygcoac
open Go.RowKit
set_option linter.unusedSimpArgs false
set_option linter.unusedVariables false

/-! ### A text's end -/
theorem get_tail (s : ByteArray) (n j : Nat) : (s.extract n s.size).get! j = s.get! (n + j) := by
  simp only [ByteArray.get!, ByteArray.data_extract, Array.getElem!_eq_getD, Array.getD_eq_getD_getElem?, Array.getElem?_extract]
  split
  · rfl
  · rename_i h
    have : s.data.size ≤ n + j := by have : s.data.size = s.size := rfl; omega
    rw [Array.getElem?_eq_none this]
theorem decode_tail (s : ByteArray) (n : Nat) : Utf8.decode (s.extract n s.size) 0 = Utf8.decode s n := by
  have hz : (s.extract n s.size).size = s.size - n := by rw [ByteArray.size_extract]; omega
  have e : ∀ i, decide (i < s.size - n) = decide (n + i < s.size) := fun i => by rw [decide_eq_decide]; omega
  simp only [Utf8.decode, get_tail, hz, Nat.zero_add, Nat.add_zero, e]

set_option maxRecDepth 20000 in
set_option maxHeartbeats 2000000 in
theorem wrong_any (s : ByteArray) (hs : (s.size : Int) ≤ 140737488355328) (p : Nat) (hp : p ≤ s.size) (w : World) :
    Calls Oacg.prog 126 #[.string s, .int .i64 (p : Int)] w fun r w' => r = .returned (wrongV s p) ∧ Below w.heap.size w w' := by
  have hpi : (p : Int) ≤ (s.size : Int) := by omega
  go_enter Oacg.func126, Oacg.ntmps126
  go_wp2
  go_loopw [6] (fun _ wr => ScW w wr (s.extract p s.size) 0 (.slice none 0 0) []) (fun _ _ => 0)
  case atStart => exact ScW.start w _
  case round =>
    have hz : (s.extract p s.size).size = s.size - p := by rw [ByteArray.size_extract]; omega
    by_cases h : p < s.size
    · have hnx : ∀ ty, (Instr.next (.pointer (some ⟨w.heap.size + 1, 0, none⟩)) true ty).run Oacg.prog wr = _ := fun ty => Lib.run_next_any_at wr (w.heap.size + 1) (s.extract p s.size) 0 ty hrel.it (by omega)
      rw [decode_tail] at hnx
      have hW1 := hrel.next (0 + (Utf8.decode s p).2)
      obtain ⟨W1, hWe⟩ : ∃ W1, W1 = wr.iterAt (w.heap.size + 1) (s.extract p s.size) (0 + (Utf8.decode s p).2) := ⟨_, rfl⟩
      rw [← hWe] at hnx hW1
      have hg : wrongV s p = .agg #[.int .u8 3, .bool false, .string ⟨#[]⟩, .int .i16 0, .int .i64 (p : Int), .int .i32 ((Utf8.decode s p).1 : Int)] := by
        unfold wrongV gotOf; rw [if_pos h]; rfl
      obtain ⟨hA0, hA1, hA2, hA3, hA4, hA5, hA6⟩ := hW1.cells
      have HB := hide hW1.bel
      have HG := hide hg
      clear hWe hrel hW1 hg hz
      go_wp2
      simp [bodyPost, results, Oacg.results126, go_sem, hA0, hA1, hA2, hA3, hA4, hA5]
      exact ⟨HG.out.symm, below_set6 HB.out (Nat.le_refl _) _ _ _ _ _ _⟩
    · have hnx : ∀ ty, (Instr.next (.pointer (some ⟨w.heap.size + 1, 0, none⟩)) true ty).run Oacg.prog wr = _ := fun ty => Lib.run_next_end_at wr (w.heap.size + 1) (s.extract p s.size) 0 ty hrel.it (by omega)
      have hg : wrongV s p = .agg #[.int .u8 3, .bool false, .string ⟨#[]⟩, .int .i16 0, .int .i64 (p : Int), .int .i32 (-1)] := by
        unfold wrongV gotOf; rw [if_neg h]; rfl
      obtain ⟨hA0, hA1, hA2, hA3, hA4, hA5, hA6⟩ := hrel.cells
      have HB := hide hrel.bel
      have HG := hide hg
      clear hrel hg hz
      go_wp2
      simp [bodyPost, results, Oacg.results126, go_sem, hA0, hA1, hA2, hA3, hA4, hA5]
      exact ⟨HG.out.symm, below_set6 HB.out (Nat.le_refl _) _ _ _ _ _ _⟩

/-! ### cut -/
inductive CutR (q : UInt8 → Bool) (l : List UInt8) : List UInt8 → List UInt8 → Bool → Prop
  | none (h : l.all (fun x => !q x) = true) : CutR q l l [] false
  | found (m : List UInt8) (x : UInt8) (r : List UInt8) (h : l = m ++ x :: r) (hm : m.all (fun x => !q x) = true) (hx : q x = true) : CutR q l m r true
def isB (a b : Int) (x : UInt8) : Bool := (x.toNat : Int) == a || (x.toNat : Int) == b
def CutV (q : UInt8 → Bool) (s : ByteArray) (v : Value) : Prop := ∃ t u f, v = .tuple #[.string t, .string u, .bool f] ∧ CutR q (bytes s) (bytes t) (bytes u) f
theorem bytes_split {s : ByteArray} {k : Nat} (h : k < s.size) : bytes s = (bytes s).take k ++ s[k] :: (bytes s).drop (k + 1) := by
  have h' : k < (bytes s).length := by rw [bytes_length]; exact h
  conv => lhs; rw [← List.take_append_drop k (bytes s), List.drop_eq_getElem_cons h']
  congr 2
theorem cut_found {s : ByteArray} {k : Nat} {q : UInt8 → Bool} (h : k < s.size) (H : Hid (((bytes s).take k).all (fun x => !q x) = true)) (hq : q s[k] = true) :
    CutV q s (.tuple #[.string (s.extract 0 k), .string (s.extract (k + 1) s.size), .bool true]) := by
  refine ⟨_, _, _, rfl, ?_⟩
  rw [bytes_extract, bytes_extract, List.drop_zero, List.take_of_length_le (i := s.size) (by rw [bytes_length]; exact Nat.le_refl _)]
  exact .found _ s[k] _ (bytes_split h) H.out hq
theorem cut_none {s : ByteArray} {k : Nat} {q : UInt8 → Bool} (h : ¬ k < s.size) (H : Hid (((bytes s).take k).all (fun x => !q x) = true)) :
    CutV q s (.tuple #[.string s, .string ⟨#[]⟩, .bool false]) := by
  refine ⟨_, _, _, rfl, ?_⟩
  have := H.out
  rw [List.take_of_length_le (by rw [bytes_length]; omega)] at this
  exact .none this
theorem take_step {s : ByteArray} {k : Nat} {q : UInt8 → Bool} (h : k < s.size) (H : Hid (((bytes s).take k).all q = true)) (hq : q s[k] = true) : Hid (((bytes s).take (k + 1)).all q = true) := by
  show _ = _
  rw [List.take_add_one, bytes_get s k h]
  simp only [Option.toList, List.all_append, List.all_cons, List.all_nil, Bool.and_true, Bool.and_eq_true]
  exact ⟨H.out, hq⟩

set_option maxRecDepth 20000 in
set_option maxHeartbeats 2000000 in
theorem cut_any (s : ByteArray) (hs : (s.size : Int) ≤ 140737488355328) (a b : Int) (w : World) :
    Calls Oacg.prog 127 #[.string s, .int .u8 a, .int .u8 b] w fun r w' => (∃ v, r = .returned v ∧ CutV (isB a b) s v) ∧ Below w.heap.size w w' := by
  go_enter Oacg.func127, Oacg.ntmps127
  go_wp2
  go_loop [9] (fun i => ∃ k : Nat, i = .int .i64 (k : Int) ∧ k ≤ s.size ∧ Hid (((bytes s).take k).all (fun x => !isB a b x) = true)) (fun i => s.size - (intOf i).toNat)
  case atStart => exact ⟨0, rfl, Nat.zero_le _, rfl⟩
  case round =>
    obtain ⟨k, rfl, hk, H⟩ := hrel
    by_cases hlt : k < s.size
    · have hlti : (k : Int) < (s.size : Int) := by omega
      cases q1 : ((s[k].toNat : Int) == a) with
      | true =>
        have HC := hide (cut_found hlt H (show isB a b s[k] = true by simp only [isB, q1, Bool.true_or]))
        go_wp2
        go_quiet (fail)
        go_wp2
        simp [bodyPost, results, Oacg.results127, go_sem]
        exact ⟨HC.out, below_drewN (Below.refl _ _) _⟩
      | false =>
        cases q2 : ((s[k].toNat : Int) == b) with
        | true =>
          have HC := hide (cut_found hlt H (show isB a b s[k] = true by simp only [isB, q2, Bool.or_true]))
          go_wp2
          go_quiet (fail)
          go_wp2
          simp [bodyPost, results, Oacg.results127, go_sem]
          exact ⟨HC.out, below_drewN (Below.refl _ _) _⟩
        | false =>
          have HC := take_step hlt H (show (!isB a b s[k]) = true by simp only [isB, q1, q2]; rfl)
          go_wp2
          exact ⟨⟨k + 1, int_succ k, hlt, HC⟩, meas hlt⟩
    · have HC := hide (cut_none hlt H)
      go_wp2
      simp [bodyPost, results, Oacg.results127, go_sem]
      exact ⟨HC.out, Below.refl _ _⟩

/-! ### run -/
def digB (h : Bool) (x : UInt8) : Bool := if h then hexB x else decB x
def RunR (s : ByteArray) (h : Bool) (n : Nat) : Prop := n ≤ s.size ∧ ((bytes s).take n).all (digB h) = true ∧ ∀ (hn : n < s.size), digB h s[n] = false
def letrI (o : Int) : Bool := decide (97 ≤ o) && decide (o ≤ 102)
set_option maxRecDepth 100000 in
theorem hexB_fin : ∀ n : Fin 256, decide (0 ≤ hv (n.val : Int)) = (decI (n.val : Int) || letrI ((n.val ||| 32 : Nat) : Int)) := by decide
theorem hexB_eq (x : UInt8) : hexB x = (decI (x.toNat : Int) || letrI (Go.bits BinOp.or IntKind.u8 (x.toNat : Int) 32)) := by
  have h1 : Go.bits BinOp.or IntKind.u8 (x.toNat : Int) 32 = ((x.toNat ||| 32 : Nat) : Int) := u8_or_nat x.toNat 32 x.toNat_lt (by decide)
  rw [h1]
  exact hexB_fin ⟨x.toNat, x.toNat_lt⟩
set_option maxRecDepth 20000 in
set_option maxHeartbeats 2000000 in
theorem run_any (s : ByteArray) (hs : (s.size : Int) ≤ 140737488355328) (h : Bool) (w : World) :
    Calls Oacg.prog 128 #[.string s, .bool h] w fun r w' => (∃ n : Nat, r = .returned (.int .i64 (n : Int)) ∧ RunR s h n) ∧ w' = w := by
  go_enter Oacg.func128, Oacg.ntmps128
  go_wp2
  go_loop [5] (fun i => ∃ k : Nat, i = .int .i64 (k : Int) ∧ k ≤ s.size ∧ Hid (((bytes s).take k).all (digB h) = true)) (fun i => s.size - (intOf i).toNat)
  case atStart => exact ⟨0, rfl, Nat.zero_le _, rfl⟩
  case round =>
    obtain ⟨k, rfl, hk, H⟩ := hrel
    by_cases hlt : k < s.size
    · have hlti : (k : Int) < (s.size : Int) := by omega
      have HX := hide (hexB_eq s[k])
      have HE : Hid (decB s[k] = decI (s[k].toNat : Int)) := rfl
      have hgo : Hid (digB h s[k] = true → Hid (((bytes s).take (k + 1)).all (digB h) = true)) := fun hq => take_step hlt H hq
      have hstop : Hid (digB h s[k] = false → RunR s h k) := fun hq => ⟨hk, H.out, fun _ => hq⟩
      cases q1 : decide ((97 : Int) ≤ Go.bits BinOp.or IntKind.u8 (s[k].toNat : Int) 32) <;> cases q2 : decide (Go.bits BinOp.or IntKind.u8 (s[k].toNat : Int) 32 ≤ (102 : Int)) <;>
        cases q3 : decide ((48 : Int) ≤ (s[k].toNat : Int)) <;> cases q4 : decide ((s[k].toNat : Int) ≤ (57 : Int)) <;> cases h
      all_goals
        go_wp2
        first
          | exact ⟨⟨k + 1, int_succ k, hlt, hgo.out (by simp only [digB, HX.out, HE.out, decI, letrI, q1, q2, q3, q4]; rfl)⟩, meas hlt⟩
          | (go_ret; exact ⟨⟨k, rfl, hstop.out (by simp only [digB, HX.out, HE.out, decI, letrI, q1, q2, q3, q4]; rfl)⟩, rfl⟩)
    · have HC : Hid (RunR s h k) := ⟨hk, H.out, fun hn => absurd hn hlt⟩
      go_wp2
      go_ret
      exact ⟨⟨k, rfl, HC.out⟩, rfl⟩
end Go.Proofs.Ygcoac
