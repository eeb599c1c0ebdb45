/-
  RULES BY WHICH 'simp only' CLOSES WHAT IS SAID OF A WORLD THAT IS WRITTEN OUT (stores, new blocks, draws over a world that is a letter).
-/
import Derived.Test.YgcoacGreatOpen
namespace Go.Proofs.YgcoacGreat
open Go.RowKit
set_option linter.unusedSimpArgs false
set_option linter.unusedVariables false

/-- The cell holds something that is no limb. -/
def NL1 (w : World) (b i : Nat) : Prop := ∃ x, w.cell? ⟨b, i, none⟩ = some x ∧ noLimb x = true

namespace R
theorem extAlloc {a X : World} {c : Array Value} {t : TypeId} (h : Ext a X) : Ext a (X.alloc (.cells c t)) := h.alloc c t
theorem extDrew {a X : World} (h : Ext a X) : Ext a X.drew := h.drew
theorem extDrewN {a X : World} {n : Nat} (h : Ext a X) : Ext a (X.drewN n) := h.drewN n
theorem extSet {a X : World} {b i : Nat} {u : Value} (hb : a.heap.size ≤ b) (h : Ext a X) : Ext a (X.setCell ⟨b, i, none⟩ u) := h.setCell hb u

theorem nlSet {X : World} {b i b' i' : Nat} {u : Value} (hu : noLimb u = true) (h : NL1 X b i) : NL1 (X.setCell ⟨b', i', none⟩ u) b i := by
  obtain ⟨x, h1, h2⟩ := h
  by_cases e : (⟨b', i', none⟩ : Addr) = ⟨b, i, none⟩
  · rw [e]; exact ⟨u, World.cell?_setCell_same _ _ _ h1, hu⟩
  · exact ⟨x, by rw [World.cell?_setCell_other _ _ _ _ e]; exact h1, h2⟩
theorem nlAlloc {X : World} {b i : Nat} {o : Obj} (hb : b < X.heap.size) (h : NL1 X b i) : NL1 (X.alloc o) b i := by
  obtain ⟨x, h1, h2⟩ := h
  exact ⟨x, by rw [World.cell?_alloc_past _ _ _ hb]; exact h1, h2⟩
theorem nlNew {X : World} {i b : Nat} {c : Array Value} {t : TypeId} {x : Value} (hb : b = X.heap.size) (hx : c[i]? = some x) (hu : noLimb x = true) : NL1 (X.alloc (.cells c t)) b i := by
  subst hb; exact ⟨x, by rw [World.cell?_alloc_new]; exact hx, hu⟩
theorem nlDrew {X : World} {b i : Nat} (h : NL1 X b i) : NL1 X.drew b i := h
theorem nlExt {X Y : World} {b i : Nat} (h : NL1 X b i) (e : Ext X Y) : NL1 Y b i := by
  obtain ⟨x, h1, h2⟩ := h
  exact ⟨x, e.cell h1, h2⟩

theorem kpAlloc {a X : World} {c : Array Value} {t : TypeId} (h : Keeps a X) : Keeps a (X.alloc (.cells c t)) := h.trans ((Ext.refl _).alloc c t).keeps
theorem kpDrew {a X : World} (h : Keeps a X) : Keeps a X.drew := h.trans (Ext.refl _).drew.keeps
theorem kpSet {a X : World} {b i : Nat} {u : Value} (hn : NL1 X b i) (h : Keeps a X) : Keeps a (X.setCell ⟨b, i, none⟩ u) := by
  obtain ⟨x, h1, h2⟩ := hn
  exact h.trans (keeps_setCell h1 h2 u)

theorem n64 (n : Int) : noLimb (.int .u64 n) = true := by simp [noLimb]
theorem ni8 (n : Int) : noLimb (.int .i8 n) = true := by simp [noLimb]
theorem nu8 (n : Int) : noLimb (.int .u8 n) = true := by simp [noLimb]
theorem ni16 (n : Int) : noLimb (.int .i16 n) = true := by simp [noLimb]
theorem ni64 (n : Int) : noLimb (.int .i64 n) = true := by simp [noLimb]
theorem nb (b : Bool) : noLimb (.bool b) = true := by simp [noLimb]
theorem ns (p : Option Addr) (k c : Nat) : noLimb (.slice p k c) = true := by simp [noLimb]

theorem cellSame {X : World} {b i : Nat} {u : Value} (h : NL1 X b i) : (X.setCell ⟨b, i, none⟩ u).cell? ⟨b, i, none⟩ = some u := by
  obtain ⟨x, h1, h2⟩ := h
  exact World.cell?_setCell_same _ _ _ h1
theorem cellOff {X : World} {b b' i i' : Nat} {u : Value} (h : i ≠ i') : (X.setCell ⟨b, i, none⟩ u).cell? ⟨b', i', none⟩ = X.cell? ⟨b', i', none⟩ :=
  World.cell?_setCell_other _ _ _ _ (by simp only [ne_eq, Addr.mk.injEq]; omega)
theorem cellOffLt {X : World} {b b' i i' : Nat} {u : Value} (h : i < i') : (X.setCell ⟨b, i, none⟩ u).cell? ⟨b', i', none⟩ = X.cell? ⟨b', i', none⟩ := cellOff (by omega)
theorem cellOffGt {X : World} {b b' i i' : Nat} {u : Value} (h : i' < i) : (X.setCell ⟨b, i, none⟩ u).cell? ⟨b', i', none⟩ = X.cell? ⟨b', i', none⟩ := cellOff (by omega)
theorem cellLt {X : World} {b b' i i' : Nat} {u : Value} (h : b < b') : (X.setCell ⟨b, i, none⟩ u).cell? ⟨b', i', none⟩ = X.cell? ⟨b', i', none⟩ :=
  World.cell?_setCell_other _ _ _ _ (by simp only [ne_eq, Addr.mk.injEq]; omega)
theorem cellGt {X : World} {b b' i i' : Nat} {u : Value} (h : b' < b) : (X.setCell ⟨b, i, none⟩ u).cell? ⟨b', i', none⟩ = X.cell? ⟨b', i', none⟩ :=
  World.cell?_setCell_other _ _ _ _ (by simp only [ne_eq, Addr.mk.injEq]; omega)
theorem cellPast {X : World} {b i : Nat} {o : Obj} (h : b < X.heap.size) : (X.alloc o).cell? ⟨b, i, none⟩ = X.cell? ⟨b, i, none⟩ := World.cell?_alloc_past _ _ _ h
theorem cellNew {X : World} {b i : Nat} {c : Array Value} {t : TypeId} (h : b = X.heap.size) : (X.alloc (.cells c t)).cell? ⟨b, i, none⟩ = c[i]? := by
  subst h; exact World.cell?_alloc_new _ _ _ _
theorem cellDrew {X : World} {a : Addr} : X.drew.cell? a = X.cell? a := rfl
end R
end Go.Proofs.YgcoacGreat
