/-
  law.normal, sameNat, isFinite; exact.ToInt64.
-/
import Derived.Test.YgcoacGreatExF
import Derived.Deep.QuietTactic
import Derived.BigQuiet
namespace Go.Proofs.YgcoacGreat
open Go.RowKit
set_option linter.unusedSimpArgs false
set_option linter.unusedVariables false
attribute [local go_sem] nil_eq nil_ne

theorem norm_top {l : List Nat} {m t : Nat} (hl : Lim l) (hn : Norm l) (hm : l.length = m + 1) (gt : l[m]? = some t) : 0 < t := by
  rcases Nat.eq_zero_or_pos t with h | h
  · exfalso
    have e := val_take_succ gt
    rw [val_take_all (by omega), h, Nat.mul_zero, Nat.add_zero] at e
    have h1 := take_lt hl m
    have h2 := val_ge hn (by intro h; rw [h] at hm; simp at hm)
    rw [hm, Nat.add_sub_cancel] at h2
    omega
  · exact h
theorem norm_same {a b : List Nat} (ha : Lim a) (hb : Lim b) (na : Norm a) (nb : Norm b) (h : val a = val b) : a = b := by
  have h1 : a.length ≤ b.length := length_le na (by rw [h]; exact val_lt hb)
  have h2 : b.length ≤ a.length := length_le nb (by rw [← h]; exact val_lt ha)
  exact val_inj ha hb (by omega) h

end Go.Proofs.YgcoacGreat
