/-
  nat.trim: a slice of limbs without the zero limbs at its top.
-/
import Derived.Test.YgcoacGreatProg
import Derived.Test.YgcoacGreatBase
namespace Go.Proofs.YgcoacGreat
open Go.RowKit
set_option linter.unusedSimpArgs false
set_option linter.unusedVariables false

theorem trim_end0 {l : List Nat} (hz : ∀ (j x : Nat), 0 ≤ j → l[j]? = some x → x = 0) : val l = 0 := by
  have h := (norm_take (l := l) (n := 0) (Nat.zero_le _) hz (.inl rfl)).2
  simpa [val] using h.symm

theorem natAt_take {w : World} {b off cap : Nat} {l : List Nat} {m x : Nat} (hc : l.length ≤ cap) (hm : cap ≤ 1099511627776) (hl : Lim l) (hcl : cellsAt w b off l)
    (hz : ∀ (j x : Nat), m + 1 ≤ j → l[j]? = some x → x = 0) (hk : m + 1 ≤ l.length) (hx : l[m]? = some x) (h0 : x ≠ 0) :
    NatAt w (.slice (some ⟨b, off, none⟩) (m + 1) cap) (val l) := by
  obtain ⟨hn, hv⟩ := norm_take hk hz (.inr ⟨x, by simpa using hx, h0⟩)
  refine .inr ⟨l.take (m + 1), b, off, cap, by simp [Nat.min_eq_left hk], by rw [List.length_take]; omega, hm, hl.take _, hn, hv, ?_, ?_⟩
  · rw [← hv]
    have := val_ge hn (by intro h; have := congrArg List.length h; rw [List.length_take, List.length_nil] at this; omega)
    have := W_pos ((l.take (m + 1)).length - 1)
    omega
  · intro j y hj
    refine hcl j y ?_
    rw [List.getElem?_take] at hj
    split at hj
    · exact hj
    · cases hj

set_option maxHeartbeats 400000 in
/-- Any limbs: the normal form of the number. -/
theorem trim_raw (p : Option Addr) (cap : Nat) (l : List Nat) (w : World) (hc : l.length ≤ cap) (hm : cap ≤ 1099511627776) (hl : Lim l)
    (hp : l = [] ∨ ∃ b off, p = some ⟨b, off, none⟩ ∧ cellsAt w b off l) :
    Calls Oacg.prog 80 #[.slice p l.length cap] w fun e w' => (∃ v, e = .returned v ∧ NatAt w v (val l)) ∧ w' = w := by
  have HP := hide hp
  clear hp
  go_enter Oacg.func80, Oacg.ntmps80
  go_wp2
  go_loop [3] (fun i => ∃ k : Nat, k ≤ l.length ∧ i = .int .i64 k ∧ Hid (∀ (j x : Nat), k ≤ j → l[j]? = some x → x = 0)) (fun i => (intOf i).toNat)
  case atStart => exact ⟨l.length, Nat.le_refl _, rfl, fun j x h hx => by simp [List.getElem?_eq_none h] at hx⟩
  case round =>
    obtain ⟨k, hk, rfl, hz⟩ := hrel
    rcases k with _ | m
    · go_wp2_with fail
      go_ret
      refine ⟨⟨_, rfl, ?_⟩, rfl⟩
      rw [trim_end0 hz.out]
      exact natAt_nil _
    · obtain ⟨b, off, rfl, hcl⟩ := HP.out.resolve_left (by intro h; subst h; simp at hk)
      have hlm : l[m]? = some l[m] := List.getElem?_eq_getElem (by omega)
      have hx := hcl m _ hlm
      generalize l[m] = x at *
      by_cases h0 : x = 0
      · subst h0
        go_wp2_with fail
        go_round
        case rel =>
          refine ⟨m, by omega, rfl, fun j y hj hy => ?_⟩
          rcases Nat.eq_or_lt_of_le hj with e | e
          · subst e; rw [hlm] at hy; simpa using hy.symm
          · exact hz.out j y e hy
        case measure => simp [intOf]
      · go_wp2_with fail
        go_ret
        exact ⟨⟨_, rfl, natAt_take hc hm hl hcl hz.out hk hlm h0⟩, rfl⟩

/-- A normal number: itself. -/
theorem trim_nat (n : Nat) (v : Value) (w : World) (h : NatAt w v n) :
    Calls Oacg.prog 80 #[v] w fun e w' => e = .returned v ∧ w' = w := by
  rcases h with ⟨rfl, rfl⟩ | ⟨l, b, off, cap, rfl, hc, hm, hl, hn, hv, h0, hcl⟩
  · go_enter Oacg.func80, Oacg.ntmps80
    go_wp2
    go_loop [3] (fun i => i = .int .i64 0) (fun i => (intOf i).toNat)
    case atStart => rfl
    case round =>
      subst hrel
      go_wp2_with fail
      go_ret
      exact ⟨rfl, rfl⟩
  · have hne : l ≠ [] := by intro h; subst h; simp [val] at hv; omega
    have hlen : 0 < l.length := List.length_pos_iff.2 hne
    obtain ⟨m, hm1⟩ : ∃ m, l.length = m + 1 := ⟨l.length - 1, by omega⟩
    have hlm : l[m]? = some l[m] := List.getElem?_eq_getElem (by omega)
    have hx0 : l[m] ≠ 0 := by
      have := hn hne
      rw [List.getLast_eq_getElem] at this
      simpa [hm1] using this
    have hx := hcl m _ hlm
    generalize l[m] = x at *
    rw [hm1] at hc ⊢
    clear hm1 hlm hcl hl hn hv hne hlen
    go_enter Oacg.func80, Oacg.ntmps80
    go_wp2
    go_loop [3] (fun i => i = .int .i64 ((m + 1 : Nat) : Int)) (fun i => (intOf i).toNat)
    case atStart => rfl
    case round =>
      subst hrel
      go_wp2_with fail
      go_ret
      exact ⟨rfl, rfl⟩
end Go.Proofs.YgcoacGreat
