/-
  THE GROUND: numbers as lists of 32-bit limbs; a slice of limbs in memory; worlds that have only grown. No Go text here.
-/
import Derived.WalkKit
import Derived.ProofKit
import Derived.Deep.Draws
namespace Go.Proofs.YgcoacGreat
open Go.RowKit
set_option linter.unusedSimpArgs false
set_option linter.unusedVariables false

theorem hide {p : Prop} (h : p) : Hid p := h

/-! ### Lists of limbs -/
def val : List Nat → Nat
  | [] => 0
  | x :: l => x + 4294967296 * val l

def Lim (l : List Nat) : Prop := ∀ x ∈ l, x < 4294967296

/-- No zero limb at the top. -/
def Norm (l : List Nat) : Prop := ∀ h : l ≠ [], l.getLast h ≠ 0

/-- 2^(32 k). -/
def W (k : Nat) : Nat := 4294967296 ^ k

theorem W_zero : W 0 = 1 := rfl
theorem W_succ (k : Nat) : W (k + 1) = 4294967296 * W k := by unfold W; rw [Nat.pow_succ, Nat.mul_comm]
theorem W_add (a b : Nat) : W (a + b) = W a * W b := by unfold W; rw [Nat.pow_add]
theorem W_pos (k : Nat) : 0 < W k := Nat.pow_pos (by decide)
theorem W_mono {a b : Nat} (h : a ≤ b) : W a ≤ W b := Nat.pow_le_pow_right (by decide) h

theorem val_nil : val [] = 0 := rfl
theorem val_cons (x : Nat) (l : List Nat) : val (x :: l) = x + 4294967296 * val l := rfl
theorem val_append (a b : List Nat) : val (a ++ b) = val a + W a.length * val b := by
  induction a with
  | nil => simp [val, W_zero]
  | cons x a ih =>
    simp only [List.cons_append, val_cons, List.length_cons, W_succ, ih, Nat.mul_add, Nat.mul_assoc, Nat.add_assoc]

theorem Lim.nil : Lim [] := by intro x h; cases h
theorem Lim.cons {x : Nat} {l : List Nat} (hx : x < 4294967296) (hl : Lim l) : Lim (x :: l) := by
  intro y hy
  rcases List.mem_cons.1 hy with rfl | h
  · exact hx
  · exact hl y h
theorem Lim.head {x : Nat} {l : List Nat} (h : Lim (x :: l)) : x < 4294967296 := h x (List.mem_cons.2 (.inl rfl))
theorem Lim.tail {x : Nat} {l : List Nat} (h : Lim (x :: l)) : Lim l := fun y hy => h y (List.mem_cons.2 (.inr hy))
theorem Lim.append {a b : List Nat} (ha : Lim a) (hb : Lim b) : Lim (a ++ b) := by
  intro y hy
  rcases List.mem_append.1 hy with h | h
  · exact ha y h
  · exact hb y h
theorem Lim.take {l : List Nat} (h : Lim l) (k : Nat) : Lim (l.take k) := fun x hx => h x (List.mem_of_mem_take hx)
theorem Lim.drop {l : List Nat} (h : Lim l) (k : Nat) : Lim (l.drop k) := fun x hx => h x (List.mem_of_mem_drop hx)
theorem Lim.at {l : List Nat} (h : Lim l) {j x : Nat} (hj : l[j]? = some x) : x < 4294967296 := h x (List.mem_of_getElem? hj)

theorem val_lt {l : List Nat} (h : Lim l) : val l < W l.length := by
  induction l with
  | nil => decide
  | cons x l ih =>
    have h1 := h.head
    have h2 := ih h.tail
    simp only [val_cons, List.length_cons, W_succ]
    omega

theorem val_zeros (k : Nat) : val (List.replicate k 0) = 0 := by
  induction k with
  | zero => rfl
  | succ k ih => simp [List.replicate_succ, val_cons, ih]

/-- The limb at the top makes the number at least W (n - 1). -/
theorem val_ge {l : List Nat} (hn : Norm l) (hne : l ≠ []) : W (l.length - 1) ≤ val l := by
  have e := List.dropLast_concat_getLast hne
  have hl : l.dropLast.length = l.length - 1 := by simp
  have h0 : l.getLast hne ≠ 0 := hn hne
  have hv : val l = val l.dropLast + W l.dropLast.length * val [l.getLast hne] := by
    rw [← val_append, e]
  rw [hv, hl]
  simp only [val_cons, val_nil, Nat.mul_zero, Nat.add_zero]
  exact Nat.le_trans (Nat.le_mul_of_pos_right _ (by omega)) (Nat.le_add_left _ _)

theorem Norm.nil : Norm [] := fun h => absurd rfl h
theorem norm_zero {l : List Nat} (hn : Norm l) (h : val l = 0) : l = [] := by
  by_cases hne : l = []
  · exact hne
  · have := val_ge hn hne
    have := W_pos (l.length - 1)
    omega
theorem length_le {l : List Nat} (hn : Norm l) {k : Nat} (h : val l < W k) : l.length ≤ k := by
  by_cases hne : l = []
  · simp [hne]
  · have h1 := val_ge hn hne
    rcases Nat.lt_or_ge k l.length with hk | hk
    · have := W_mono (show k ≤ l.length - 1 by omega)
      omega
    · exact hk

theorem val_inj {a b : List Nat} (ha : Lim a) (hb : Lim b) (hl : a.length = b.length) (h : val a = val b) : a = b := by
  induction a generalizing b with
  | nil => cases b with
    | nil => rfl
    | cons y b => simp at hl
  | cons x a ih => cases b with
    | nil => simp at hl
    | cons y b =>
      have h1 := ha.head
      have h2 := hb.head
      simp only [val_cons] at h
      have e1 : x = y := by omega
      have e2 : val a = val b := by omega
      rw [e1, ih ha.tail hb.tail (by simpa using hl) e2]
theorem norm_inj {a b : List Nat} (ha : Lim a) (hb : Lim b) (na : Norm a) (nb : Norm b) (h : val a = val b) : a = b := by
  refine val_inj ha hb ?_ h
  have h1 := length_le na (k := b.length) (by rw [h]; exact val_lt hb)
  have h2 := length_le nb (k := a.length) (by rw [← h]; exact val_lt ha)
  omega

/-- Without the zero limbs at the top. -/
theorem norm_take {l : List Nat} {n : Nat} (hn : n ≤ l.length) (hz : ∀ (j x : Nat), n ≤ j → l[j]? = some x → x = 0) (ht : n = 0 ∨ ∃ x, l[n - 1]? = some x ∧ x ≠ 0) :
    Norm (l.take n) ∧ val (l.take n) = val l := by
  constructor
  · intro hne
    rcases ht with rfl | ⟨x, hx, h0⟩
    · simp at hne
    · have hlen : (l.take n).length = n := by simp [hn]
      have hn0 : n ≠ 0 := by intro h; subst h; simp at hne
      have : (l.take n).getLast hne = x := by
        rw [List.getLast_eq_getElem]
        have : (l.take n)[(l.take n).length - 1]? = some x := by
          rw [hlen, List.getElem?_take_of_lt (by omega)]; exact hx
        rw [List.getElem?_eq_getElem (by omega)] at this
        simpa using this
      rw [this]; exact h0
  · have e := List.take_append_drop n l
    have hd : val (l.drop n) = 0 := by
      have hall : ∀ x ∈ l.drop n, x = 0 := by
        intro x hx
        obtain ⟨j, hj⟩ := List.mem_iff_getElem?.1 hx
        rw [List.getElem?_drop] at hj
        exact hz _ _ (Nat.le_add_right _ _) hj
      rw [List.eq_replicate_of_mem hall, val_zeros]
    calc val (l.take n) = val (l.take n) + W (l.take n).length * val (l.drop n) := by rw [hd]; simp
      _ = val (l.take n ++ l.drop n) := (val_append _ _).symm
      _ = val l := by rw [e]

/-! ### Worlds that have only grown -/
structure Ext (w w' : World) : Prop where
  below : Below w.heap.size w w'
  froz : ∀ a, w'.frozen? a = w.frozen? a

theorem Ext.refl (w : World) : Ext w w := ⟨Below.refl _ _, fun _ => rfl⟩
theorem Ext.trans {a b c : World} (h : Ext a b) (k : Ext b c) : Ext a c :=
  ⟨h.below.trans (k.below.mono h.below.size), fun x => (k.froz x).trans (h.froz x)⟩
theorem Ext.size {a b : World} (h : Ext a b) : a.heap.size ≤ b.heap.size := h.below.size
theorem frozen?_of_ge {w : World} {a : Addr} (h : w.heap.size ≤ a.block) : w.frozen? a = false := by
  unfold World.frozen?
  rw [Array.getElem?_eq_none h]
theorem Ext.alloc {a b : World} (h : Ext a b) (c : Array Value) (t : TypeId) : Ext a (b.alloc (.cells c t)) := by
  refine ⟨h.below.alloc h.size _, fun x => ?_⟩
  rw [← h.froz x]
  by_cases hx : x.block = b.heap.size
  · rw [frozen?_of_ge (w := b) (by omega)]
    obtain ⟨xb, xo, xs⟩ := x
    dsimp only at hx
    subst hx
    exact World.frozen?_alloc_new _ _ _ _
  · exact World.frozen?_alloc_old _ _ _ hx
theorem Ext.setCell {a b : World} (h : Ext a b) {p : Addr} (hp : a.heap.size ≤ p.block) (u : Value) : Ext a (b.setCell p u) :=
  ⟨h.below.setCell hp u, fun x => by rw [World.frozen?_setCell]; exact h.froz x⟩
theorem Ext.drew {a b : World} (h : Ext a b) : Ext a b.drew := ⟨h.below.drew, h.froz⟩
theorem Ext.drewN {a b : World} (h : Ext a b) (n : Nat) : Ext a (b.drewN n) := ⟨⟨h.below.os, h.below.tape, h.below.output, h.below.size, h.below.block⟩, h.froz⟩
theorem Ext.cell {a b : World} (h : Ext a b) {p : Addr} {v : Value} (hc : a.cell? p = some v) : b.cell? p = some v := by
  rw [h.below.cell (World.block_lt_of_cell? _ _ hc)]; exact hc
theorem Ext.grown {a b : World} (h : Ext a b) : Grown a b :=
  ⟨h.below.frame _, h.froz, h.size⟩

/-! ### A slice of limbs -/
def cellsAt (w : World) (b off : Nat) (l : List Nat) : Prop := ∀ (j : Nat) (x : Nat), l[j]? = some x → w.cell? ⟨b, off + j, none⟩ = some (.int .u32 (x : Int))

def SliceAt (w : World) (v : Value) (l : List Nat) : Prop :=
  ∃ p cap, v = .slice p l.length cap ∧ l.length ≤ cap ∧ cap ≤ 1099511627776 ∧ Lim l ∧ (l = [] ∨ ∃ b off, p = some ⟨b, off, none⟩ ∧ cellsAt w b off l)

/-- The value v is the normal form of the number n. -/
def NatAt (w : World) (v : Value) (n : Nat) : Prop :=
  (n = 0 ∧ v = .slice none 0 0) ∨ ∃ l b off cap, v = .slice (some ⟨b, off, none⟩) l.length cap ∧ l.length ≤ cap ∧ cap ≤ 1099511627776 ∧ Lim l ∧ Norm l ∧ val l = n ∧ 0 < n ∧ cellsAt w b off l

theorem cellsAt.ext {w w' : World} {b off : Nat} {l : List Nat} (h : cellsAt w b off l) (e : Ext w w') : cellsAt w' b off l :=
  fun j x hj => e.cell (h j x hj)
theorem SliceAt.ext {w w' : World} {v : Value} {l : List Nat} (h : SliceAt w v l) (e : Ext w w') : SliceAt w' v l := by
  obtain ⟨p, cap, h1, h2, h3, h4, h5⟩ := h
  refine ⟨p, cap, h1, h2, h3, h4, ?_⟩
  rcases h5 with h5 | ⟨b, off, h5, h6⟩
  · exact .inl h5
  · exact .inr ⟨b, off, h5, h6.ext e⟩
theorem NatAt.ext {w w' : World} {v : Value} {n : Nat} (h : NatAt w v n) (e : Ext w w') : NatAt w' v n := by
  rcases h with h | ⟨l, b, off, cap, h1, h2, h3, h4, h5, h6, h7, h8⟩
  · exact .inl h
  · exact .inr ⟨l, b, off, cap, h1, h2, h3, h4, h5, h6, h7, h8.ext e⟩
theorem NatAt.slice {w : World} {v : Value} {n : Nat} (h : NatAt w v n) : ∃ l, SliceAt w v l ∧ Norm l ∧ val l = n := by
  rcases h with ⟨rfl, rfl⟩ | ⟨l, b, off, cap, h1, h2, h3, h4, h5, h6, h7, h8⟩
  · exact ⟨[], ⟨none, 0, rfl, Nat.le_refl _, by decide, Lim.nil, .inl rfl⟩, Norm.nil, rfl⟩
  · exact ⟨l, ⟨_, cap, h1, h2, h3, h4, .inr ⟨b, off, rfl, h8⟩⟩, h5, h6⟩
theorem natAt_nil (w : World) : NatAt w (.slice none 0 0) 0 := .inl ⟨rfl, rfl⟩

/-- As the functions of nat open an operand: its pointer, its capacity, its limbs. -/
theorem NatAt.open {w : World} {v : Value} {n : Nat} (h : NatAt w v n) :
    ∃ p cap l, v = .slice p l.length cap ∧ l.length ≤ cap ∧ cap ≤ 1099511627776 ∧ Lim l ∧ Norm l ∧ val l = n ∧ (l = [] ∧ p = none ∧ cap = 0 ∧ n = 0 ∨ l ≠ [] ∧ 0 < n ∧ ∃ b off, p = some ⟨b, off, none⟩ ∧ cellsAt w b off l) := by
  rcases h with ⟨rfl, rfl⟩ | ⟨l, b, off, cap, h1, h2, h3, h4, h5, h6, h7, h8⟩
  · exact ⟨none, 0, [], rfl, Nat.le_refl _, by decide, Lim.nil, Norm.nil, rfl, .inl ⟨rfl, rfl, rfl, rfl⟩⟩
  · refine ⟨_, cap, l, h1, h2, h3, h4, h5, h6, .inr ⟨?_, h7, b, off, rfl, h8⟩⟩
    intro e; subst e; simp [val] at h6; omega
end Go.Proofs.YgcoacGreat
