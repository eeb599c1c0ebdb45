/-
  A row of limbs that a call has made itself: its whole block is known.
-/
import Derived.Test.YgcoacGreatNatC
namespace Go.Proofs.YgcoacGreat
open Go.RowKit
set_option linter.unusedSimpArgs false
set_option linter.unusedVariables false

def limbsArr (L : List Nat) : Array Value := (L.map (fun x : Nat => Value.int .u32 (x : Int))).toArray
def zeros (n : Nat) : List Nat := List.replicate n 0
theorem zeros_length (n : Nat) : (zeros n).length = n := by simp [zeros]
theorem zeros_lim (n : Nat) : Lim (zeros n) := by intro x hx; have := (List.mem_replicate.1 hx).2; omega
theorem zeros_val (n : Nat) : val (zeros n) = 0 := val_zeros n
theorem zeros_get {n j : Nat} (h : j < n) : (zeros n)[j]? = some 0 := by simp [zeros, h]

theorem get_some {L : List Nat} {k : Nat} (h : k < L.length) : ∃ x, L[k]? = some x := ⟨_, List.getElem?_eq_getElem h⟩

def OwnAt (w : World) (b : Nat) (L : List Nat) : Prop := w.heap[b]? = some (.cells (limbsArr L) 113)

theorem limbsArr_get (L : List Nat) (j : Nat) : (limbsArr L)[j]? = L[j]?.map (fun x : Nat => Value.int .u32 (x : Int)) := by
  simp [limbsArr]
theorem OwnAt.lt {w : World} {b : Nat} {L : List Nat} (h : OwnAt w b L) : b < w.heap.size := by
  rcases Nat.lt_or_ge b w.heap.size with h' | h'
  · exact h'
  · unfold OwnAt at h; rw [Array.getElem?_eq_none h'] at h; cases h
theorem OwnAt.cell {w : World} {b : Nat} {L : List Nat} (h : OwnAt w b L) {j x : Nat} (hj : L[j]? = some x) : w.cell? ⟨b, j, none⟩ = some (.int .u32 (x : Int)) := by
  unfold OwnAt at h
  unfold World.cell?
  simp only [h, Option.isSome_none, Bool.false_eq_true, if_false, limbsArr_get, hj, Option.map_some]
theorem OwnAt.frozen {w : World} {b : Nat} {L : List Nat} (h : OwnAt w b L) (j : Nat) : w.frozen? ⟨b, j, none⟩ = false := by
  unfold OwnAt at h
  unfold World.frozen?
  simp [h]
theorem OwnAt.cellsAt {w : World} {b : Nat} {L : List Nat} (h : OwnAt w b L) : cellsAt w b 0 L := by
  intro j x hj
  rw [Nat.zero_add]
  exact h.cell hj
theorem OwnAt.new (w : World) (L : List Nat) : OwnAt (w.alloc (.cells (limbsArr L) 113)) w.heap.size L := by
  unfold OwnAt
  show (w.heap.push _)[w.heap.size]? = _
  simp
theorem OwnAt.alloc {w : World} {b : Nat} {L : List Nat} (h : OwnAt w b L) (o : Obj) : OwnAt (w.alloc o) b L := by
  have hb := h.lt
  unfold OwnAt at *
  rw [Below.heap_alloc _ _ _ hb]
  exact h
theorem OwnAt.ext {w w' : World} {b : Nat} {L : List Nat} (h : OwnAt w b L) (e : Ext w w') : OwnAt w' b L := by
  have hb := h.lt
  unfold OwnAt at *
  rw [e.below.block b hb]
  exact h
theorem OwnAt.drewN {w : World} {b : Nat} {L : List Nat} (h : OwnAt w b L) (n : Nat) : OwnAt (w.drewN n) b L := h
theorem OwnAt.set {w : World} {b : Nat} {L : List Nat} (h : OwnAt w b L) (j x : Nat) : OwnAt (w.setCell ⟨b, j, none⟩ (.int .u32 (x : Int))) b (L.set j x) := by
  unfold OwnAt at *
  simp only [World.setCell, Array.getElem?_modify, if_true, h, Option.map_some]
  congr 2
  simp [limbsArr, List.map_set]
theorem OwnAt.set' {w : World} {b : Nat} {L : List Nat} (h : OwnAt w b L) (j x : Nat) (e : Int) (he : e = (x : Int)) : OwnAt (w.setCell ⟨b, j, none⟩ (.int .u32 e)) b (L.set j x) := by
  subst he; exact h.set j x
theorem OwnAt.other {w : World} {b c : Nat} {L : List Nat} (h : OwnAt w b L) (hc : c ≠ b) (j : Nat) (u : Value) : OwnAt (w.setCell ⟨c, j, none⟩ u) b L := by
  unfold OwnAt at *
  rw [Below.heap_setCell _ _ _ _ (by simpa using fun e => hc e.symm)]
  exact h

theorem info_u32 : (Oacg.prog.info? 113).map (fun i => (i.zero, i.size, i.bytes)) = some (some (.int .u32 0), 1, 4) := by kernel_rfl

theorem made_zeros (n : Nat) : madeCells (Value.int .u32 0).cells n = limbsArr (zeros n) := by
  apply Array.ext
  · simp [size_madeCells, limbsArr, zeros_length]
  · intro j h3 h4
    simp [madeCells, limbsArr, zeros, Value.cells, Nat.mod_one]

theorem make_nat (n : Nat) (h : n ≤ 4398046511104) (w : World) :
    (Instr.makeSlice 58 (.int .i64 (n : Int)) (.int .i64 (n : Int))).run Oacg.prog w = .ok (.slice (some ⟨w.heap.size, 0, none⟩) n n) (w.alloc (.cells (limbsArr (zeros n)) 113)) := by
  obtain ⟨i, hi, h0, h1, h2⟩ := info_parts info_u32
  have hr := run_make (P := Oacg.prog) w 58 113 i (.int .u32 0) Oacg.underlying58 hi h0 .i64 .i64 n n (by omega) (Int.le_refl _) (by rw [h2]; omega) (by omega)
  rw [hr, Int.toNat_natCast, h1, Nat.mul_one, made_zeros]
end Go.Proofs.YgcoacGreat
