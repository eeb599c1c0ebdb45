/-
  The scanner's world.
-/
import Derived.Test.YgcoacHexS
import Derived.WalkKit
namespace Go.Proofs.Ygcoac
open Go.RowKit
set_option linter.unusedSimpArgs false
set_option linter.unusedVariables false

def mkB (x : UInt8) : Value := .int .u8 (x.toNat : Int)
def zero6 : Array Value := #[.int .u8 0, .bool false, .string ⟨#[]⟩, .int .i16 0, .int .i64 0, .int .i32 0]
/-- What the scanner's world holds: the result's cells, the iterator, the digits. -/
structure ScW (w wr : World) (s : ByteArray) (k : Nat) (v : Value) (d : List UInt8) : Prop where
  bel : Below w.heap.size w wr
  res : wr.heap[w.heap.size]? = some (.cells zero6 105)
  it : wr.heap[w.heap.size + 1]? = some (.stringIter s k)
  own : wr.ownsRow (w.heap.size + 2) 5 1 v d.length (d.map mkB)

theorem ownsRow_iterAt {w : World} {base : Nat} {e : TypeId} {size : Nat} {v : Value} {n : Nat} {xs : List Value} (h : w.ownsRow base e size v n xs) {k : Nat} (hk : k < base) (s : ByteArray) (p : Nat) : (w.iterAt k s p).ownsRow base e size v n xs := by
  obtain ⟨h1, h2⟩ := h
  refine ⟨h1, ?_⟩
  rcases h2 with h2 | ⟨g, cap, cur, a, b, c, d⟩
  · exact .inl h2
  · exact .inr ⟨g, cap, cur, a, b, by rw [Lib.iterAt_other _ _ _ _ _ (by omega)]; exact c, d⟩
theorem iterPos_of {w : World} {k : Nat} {s : ByteArray} {p : Nat} (h : w.heap[k]? = some (.stringIter s p)) : w.iterPos k = p := by simp [World.iterPos, h]
theorem lt_of_obj {w : World} {k : Nat} {o : Obj} (h : w.heap[k]? = some o) : k < w.heap.size := (Array.getElem?_eq_some_iff.1 h).1

theorem ScW.start (w : World) (s : ByteArray) : ScW w ((w.alloc (.cells zero6 105)).alloc (.stringIter s 0)) s 0 (.slice none 0 0) [] := by
  refine ⟨((Below.refl _ _).alloc (Nat.le_refl _) _).alloc ?_ _, ?_, ?_, World.ownsRow_nil _ _ _ _⟩
  · rw [World.size_alloc]; omega
  · show ((w.heap.push _).push _)[w.heap.size]? = _
    rw [Array.getElem?_push, if_neg (by simp), Array.getElem?_push, if_pos rfl]
  · show ((w.heap.push _).push _)[w.heap.size + 1]? = _
    rw [Array.getElem?_push, if_pos (by simp)]
theorem ScW.next {w wr : World} {s : ByteArray} {k : Nat} {v : Value} {d : List UInt8} (h : ScW w wr s k v d) (k' : Nat) : ScW w (wr.iterAt (w.heap.size + 1) s k') s k' v d :=
  ⟨Lib.below_iterAt h.bel (by omega) s k', by rw [Lib.iterAt_other _ _ _ _ _ (by omega)]; exact h.res, Lib.iterAt_heap _ _ _ _ _ h.it, ownsRow_iterAt h.own (by omega) s k'⟩
theorem ScW.size {w wr : World} {s : ByteArray} {k : Nat} {v : Value} {d : List UInt8} (h : ScW w wr s k v d) : w.heap.size + 2 ≤ wr.heap.size := lt_of_obj h.it
theorem ScW.push {w wr w3 : World} {s : ByteArray} {k : Nat} {v v' : Value} {d : List UInt8} (h : ScW w wr s k v d) {o : Obj} {b : UInt8}
    (hown : w3.ownsRow (w.heap.size + 2) 5 1 v' (d.length + 1) (d.map mkB ++ [mkB b])) (hg : (wr.alloc o).grownBy w3 v.ownBlock) : ScW w w3 s k v' (d ++ [b]) := by
  have hsz := h.size
  have hb : ∀ j, j < w.heap.size + 2 → w3.heap[j]? = wr.heap[j]? := fun j hj => by
    rw [hg.block j (by rw [World.size_alloc]; omega) (fun e => by have := (h.own.lt _ e.symm).1; omega), Below.heap_alloc _ _ _ (by omega)]
  refine ⟨Below.grown (h.bel.alloc (by omega) _) hg (by rw [World.size_alloc]; omega) (fun j hj => by have := (h.own.lt _ hj).1; omega), ?_, ?_, ?_⟩
  · rw [hb _ (by omega)]; exact h.res
  · rw [hb _ (by omega)]; exact h.it
  · simpa using hown
theorem ScW.cells {w wr : World} {s : ByteArray} {k : Nat} {v : Value} {d : List UInt8} (h : ScW w wr s k v d) :
    wr.cell? ⟨w.heap.size, 0, none⟩ = some (.int .u8 0) ∧ wr.cell? ⟨w.heap.size, 1, none⟩ = some (.bool false) ∧ wr.cell? ⟨w.heap.size, 2, none⟩ = some (.string ⟨#[]⟩) ∧
    wr.cell? ⟨w.heap.size, 3, none⟩ = some (.int .i16 0) ∧ wr.cell? ⟨w.heap.size, 4, none⟩ = some (.int .i64 0) ∧ wr.cell? ⟨w.heap.size, 5, none⟩ = some (.int .i32 0) ∧ ∀ o, wr.frozen? ⟨w.heap.size, o, none⟩ = false := by
  have := h.res
  refine ⟨?_, ?_, ?_, ?_, ?_, ?_, fun o => ?_⟩
  all_goals first
    | (unfold World.cell?; simp only [this]; rfl)
    | (unfold World.frozen?; simp only [this]; simp)
theorem below_set6 {a b : World} {B : Nat} (h : Below B a b) {c : Nat} (hc : B ≤ c) (u0 u1 u2 u3 u4 u5 : Value) :
    Below B a ((((((b.setCell ⟨c, 0, none⟩ u0).setCell ⟨c, 1, none⟩ u1).setCell ⟨c, 2, none⟩ u2).setCell ⟨c, 3, none⟩ u3).setCell ⟨c, 4, none⟩ u4).setCell ⟨c, 5, none⟩ u5) :=
  (((((h.setCell hc _).setCell hc _).setCell hc _).setCell hc _).setCell hc _).setCell hc _

theorem below_drewN {B : Nat} {a w : World} (h : Below B a w) (n : Nat) : Below B a (w.drewN n) := h.trans ⟨rfl, rfl, rfl, Nat.le_refl _, fun _ _ => rfl⟩
end Go.Proofs.Ygcoac
