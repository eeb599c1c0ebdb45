/-
  hmodel.Scan.
-/
import Derived.Test.YgcoacHexX
import Derived.WalkKit
import Derived.WalkSpells
namespace Go.Proofs.Ygcoac
open Go.RowKit
set_option linter.unusedSimpArgs false
set_option linter.unusedVariables false

theorem ans_at {s : ByteArray} (hbig : ¬ 1024 < s.size) {e : ByteArray} {j m p : Nat} (he : bytes e = (bytes s).drop j) (hj : j + e.size = s.size) (h : goS Sc.start (bytes s) = .wrong ((bytes e).drop m)) (hm : m ≤ e.size) (hp : p = j + m) :
    ScanR s (.agg #[.int .u8 3, .bool false, .string ⟨#[]⟩, .int .i16 0, .int .i64 (p : Int), .int .i32 (gotOf s p)]) := by
  subst hp
  refine ans_wrong hbig (by omega) ?_
  rw [h, he, List.drop_drop]
theorem bytes_tail (s : ByteArray) (i : Nat) : bytes (s.extract i s.size) = (bytes s).drop i := by
  rw [bytes_extract, List.take_of_length_le (by rw [bytes_length]; exact Nat.le_refl _)]
theorem bytes_app (a b : ByteArray) : bytes (a ++ b) = bytes a ++ bytes b := by simp [bytes]
set_option maxRecDepth 100000 in
theorem isX_fin : ∀ n : Fin 256, (((n.val ||| 32 : Nat) : Int) == 120) = isX (n.val : Int) := by decide
theorem u8_isX (x : UInt8) : (Go.bits BinOp.or IntKind.u8 (x.toNat : Int) 32 == 120) = isX (x.toNat : Int) := by
  have h1 : Go.bits BinOp.or IntKind.u8 (x.toNat : Int) 32 = ((x.toNat ||| 32 : Nat) : Int) := u8_or_nat x.toNat 32 x.toNat_lt (by decide)
  rw [h1]
  exact isX_fin ⟨x.toNat, x.toNat_lt⟩
theorem dec_at {e : ByteArray} {m k : Nat} (hr : RunR e false m) (hn : ¬ m < e.size) (hk : k < e.size) : 48 ≤ (e[k].toNat : Int) ∧ (e[k].toNat : Int) ≤ 57 := by
  have h := all_mem (all_dec (hr.full hn).1) (List.mem_of_getElem? (bytes_get e k hk))
  simp only [decB, decI, Bool.and_eq_true, decide_eq_true_eq] at h
  exact h
theorem sat_step {e : ByteArray} {k : Nat} (hk : k < e.size) : satL 0 ((bytes e).take (k + 1)) = satE (satL 0 ((bytes e).take k)) (e[k].toNat : Int) := by
  rw [List.take_add_one, bytes_get e k hk]
  simp [satL]
theorem sat_if {x : Nat} {r : Int} (h1 : 48 ≤ r) (h2 : r ≤ 57) : ((satE x r : Nat) : Int) = if 1000000 < 10 * (x : Int) + (r - 48) then 1000000 else 10 * (x : Int) + (r - 48) := by
  unfold satE
  split <;> omega
theorem made_shape {l : List UInt8} {n : Bool} {x : Int} {v : Value} (h : Made l n x v) : ∃ n' t x' ok, v = .tuple #[.agg #[.bool n', .string t, .int .i16 x'], .bool ok] := by
  cases h <;> exact ⟨_, _, _, _, rfl⟩
theorem end_below {w w2 : World} (h : Below w.heap.size w w2) (u0 u1 u2 a0 a1 a2 a3 a4 a5 : Value) : Below w.heap.size w (((((((w2.setCell ⟨w.heap.size, 0, none⟩ a0).setCell ⟨w.heap.size, 1, none⟩ a1).setCell ⟨w.heap.size, 2, none⟩ a2).setCell ⟨w.heap.size, 3, none⟩ a3).setCell ⟨w.heap.size, 4, none⟩ a4).setCell ⟨w.heap.size, 5, none⟩ a5).alloc (.cells #[u0, u1, u2] 103)) :=
  (below_set6 h (Nat.le_refl _) _ _ _ _ _ _).alloc (below_set6 h (Nat.le_refl _) a0 a1 a2 a3 a4 a5).size _
end Go.Proofs.Ygcoac
