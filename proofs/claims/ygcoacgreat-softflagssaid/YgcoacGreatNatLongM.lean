/-
  THE PLAIN MATHEMATICS OF nat.divLong. No Go text here but the guess's contract.
-/
import Derived.Test.YgcoacGreatNatGuess
import Derived.Test.YgcoacGreatNatTake
import Derived.Test.YgcoacGreatNatLimb
namespace Go.Proofs.YgcoacGreat
open Go.RowKit
set_option linter.unusedSimpArgs false
set_option linter.unusedVariables false

/-! ### The guess, as a number -/
def gd (U3 D2 : Nat) : Nat := min (U3 / D2) 4294967295
theorem gd_lt (U3 D2 : Nat) : gd U3 D2 < 4294967296 := by unfold gd; omega
theorem isGuess_eq {U3 D2 est : Nat} (hD : 0 < D2) (h : IsGuess U3 D2 est) : est = gd U3 D2 := by
  obtain ⟨h1, h2, h3⟩ := h
  have h4 : est ≤ U3 / D2 := (Nat.le_div_iff_mul_le hD).2 h2
  have h5 : gd U3 D2 ≤ est := by
    refine h3 _ (by unfold gd; omega) ?_
    exact Nat.le_trans (Nat.mul_le_mul_right _ (Nat.min_le_left _ _)) (Nat.div_mul_le_self _ _)
  unfold gd at *
  omega
theorem gd_isGuess {U3 D2 : Nat} (hD : 0 < D2) : IsGuess U3 D2 (gd U3 D2) := by
  refine ⟨by unfold gd; omega, Nat.le_trans (Nat.mul_le_mul_right _ (Nat.min_le_left _ _)) (Nat.div_mul_le_self _ _), fun t ht h => ?_⟩
  have : t ≤ U3 / D2 := (Nat.le_div_iff_mul_le hD).2 h
  unfold gd
  omega
theorem guess_fix (u2 u1 u0 d1 d0 : Nat) (hu2 : u2 ≤ d1) (h1 : u1 < 4294967296) (h0 : u0 < 4294967296) (hd1 : d1 < 4294967296) (hdh : 2147483648 ≤ d1) (hd0 : d0 < 4294967296) (w : World) :
    Calls Oacg.prog 102 #[.int .u32 (u2 : Int), .int .u32 (u1 : Int), .int .u32 (u0 : Int), .int .u32 (d1 : Int), .int .u32 (d0 : Int)] w fun r w' =>
      r = .returned (.int .u32 ((gd ((u2 * 4294967296 + u1) * 4294967296 + u0) (d1 * 4294967296 + d0) : Nat) : Int)) ∧ ∃ n, w' = w.drewN n := by
  refine (guess_any u2 u1 u0 d1 d0 hu2 h1 h0 hd1 hdh hd0 w).mono ?_
  rintro r w' ⟨⟨est, rfl, he⟩, hn⟩
  exact ⟨by rw [isGuess_eq (by omega) he], hn⟩

/-! ### Two or three limbs at a list's top -/
theorem top2 {l : List Nat} {m d0 d1 : Nat} (hl : l.length = m + 2) (h0 : l[m]? = some d0) (h1 : l[m + 1]? = some d1) : val l = (d1 * 4294967296 + d0) * W m + val (l.take m) := by
  have e1 := val_take_succ h1
  rw [val_take_all (by omega), val_take_succ h0, W_succ] at e1
  rw [e1]
  generalize W m = w
  simp only [Nat.add_mul, Nat.mul_add, Nat.mul_assoc, Nat.mul_comm, Nat.mul_left_comm]
  omega
theorem top3 {l : List Nat} {m u0 u1 u2 : Nat} (hl : l.length = m + 3) (h0 : l[m]? = some u0) (h1 : l[m + 1]? = some u1) (h2 : l[m + 2]? = some u2) : val l = ((u2 * 4294967296 + u1) * 4294967296 + u0) * W m + val (l.take m) := by
  have e1 := val_take_succ h2
  rw [val_take_all (by omega), val_take_succ h1, val_take_succ h0, show W (m + 2) = 4294967296 * (4294967296 * W m) by rw [show m + 2 = m + 1 + 1 from rfl, W_succ, W_succ], W_succ] at e1
  rw [e1]
  generalize W m = w
  simp only [Nat.add_mul, Nat.mul_add, Nat.mul_assoc, Nat.mul_comm, Nat.mul_left_comm]
  omega
theorem take_lt {l : List Nat} (h : Lim l) (m : Nat) : val (l.take m) < W m := by
  have h1 := val_lt (l := l.take m) (fun x hx => h x (List.mem_of_mem_take hx))
  exact Nat.lt_of_lt_of_le h1 (W_mono (by rw [List.length_take]; omega))

/-! ### The loop -/
structure LongInv (u0 Lu Lq : List Nat) (D k : Nat) : Prop where
  lu : Lim Lu
  lq : Lim Lq
  len : Lu.length = u0.length
  low : Lu.take k = u0.take k
  lt : val (Lu.drop k) < D
  eq : val (Lq.drop k) * D + val (Lu.drop k) = val (u0.drop k)
/-- The piece of u that a round looks at. -/
structure Piece (Lu : List Nat) (D n j : Nat) (P U S : List Nat) : Prop where
  cut : Lu = P ++ U ++ S
  lp : P.length = j
  lU : U.length = n + 1
  lim : Lim U
  zero : val S = 0
  hval : val (Lu.drop j) = val U
  small : val U < D * 4294967296
theorem lim_part {P U S : List Nat} (h : Lim (P ++ U ++ S)) : Lim U := fun x hx => h x (by simp [hx])
theorem LongInv.piece {u0 Lu Lq : List Nat} {D n j : Nat} (h : LongInv u0 Lu Lq D (j + 1)) (hD : D < W n) (hl : j + n + 1 ≤ Lu.length) :
    Piece Lu D n j (Lu.take j) ((Lu.drop j).take (n + 1)) (Lu.drop (j + n + 1)) := by
  have hcut : Lu = Lu.take j ++ (Lu.drop j).take (n + 1) ++ Lu.drop (j + n + 1) := by
    rw [List.append_assoc, show Lu.drop (j + n + 1) = (Lu.drop j).drop (n + 1) by rw [List.drop_drop]; congr 1, List.take_append_drop, List.take_append_drop]
  have hlU : ((Lu.drop j).take (n + 1)).length = n + 1 := by rw [List.length_take, List.length_drop]; omega
  have hsplit : Lu.drop (j + 1) = (Lu.drop (j + 1)).take n ++ Lu.drop (j + n + 1) := by
    rw [show Lu.drop (j + n + 1) = (Lu.drop (j + 1)).drop n by rw [List.drop_drop]; congr 1; omega, List.take_append_drop]
  have hv := congrArg val hsplit
  have hln : ((Lu.drop (j + 1)).take n).length = n := by rw [List.length_take, List.length_drop]; omega
  rw [val_append, hln] at hv
  have hS : val (Lu.drop (j + n + 1)) = 0 := by
    rcases Nat.eq_zero_or_pos (val (Lu.drop (j + n + 1))) with h0 | h0
    · exact h0
    · have : W n * 1 ≤ W n * val (Lu.drop (j + n + 1)) := Nat.mul_le_mul_left _ h0
      have := h.lt
      omega
  have hvj : val (Lu.drop j) = val ((Lu.drop j).take (n + 1)) := by
    have e : Lu.drop j = (Lu.drop j).take (n + 1) ++ Lu.drop (j + n + 1) := by
      rw [show Lu.drop (j + n + 1) = (Lu.drop j).drop (n + 1) by rw [List.drop_drop]; congr 1, List.take_append_drop]
    have e2 := congrArg val e
    rw [val_append, hS, Nat.mul_zero, Nat.add_zero] at e2
    exact e2
  obtain ⟨x, gx⟩ := get_some (show j < Lu.length by omega)
  have hx := h.lu.at gx
  refine ⟨hcut, by rw [List.length_take]; omega, hlU, fun y hy => h.lu y (List.mem_of_mem_drop (List.mem_of_mem_take hy)), hS, hvj, ?_⟩
  rw [← hvj, val_drop_step gx]
  have := h.lt
  omega
/-- A round's end: the piece is replaced by its remainder, the digit laid. -/
theorem LongInv.step {u0 Lu Lq : List Nat} {D n j : Nat} (h : LongInv u0 Lu Lq D (j + 1)) {P U S : List Nat} (hp : Piece Lu D n j P U S) {U' : List Nat} (hD : 0 < D) (hU' : Lim U') (hlU : U'.length = U.length) (hv : val U' = val U % D) (hq : j < Lq.length) (hju : j < u0.length) :
    LongInv u0 (P ++ U' ++ S) (Lq.set j (val U / D)) D j ∧ val U / D < 4294967296 := by
  have hdg : val U / D < 4294967296 := by rw [Nat.div_lt_iff_lt_mul hD, Nat.mul_comm]; exact hp.small
  have hdrop : (P ++ U' ++ S).drop j = U' ++ S := by
    rw [List.append_assoc, List.drop_append_of_le_length (by rw [hp.lp]; exact Nat.le_refl _), List.drop_eq_nil_of_le (by rw [hp.lp]; exact Nat.le_refl _), List.nil_append]
  have hvd : val ((P ++ U' ++ S).drop j) = val U % D := by rw [hdrop, val_append, hp.zero, Nat.mul_zero, Nat.add_zero, hv]
  have hlow : (P ++ U' ++ S).take j = u0.take j := by
    rw [List.append_assoc, List.take_append_of_le_length (by rw [hp.lp]; exact Nat.le_refl _), List.take_of_length_le (by rw [hp.lp]; exact Nat.le_refl _)]
    have e1 : Lu.take j = P := by
      rw [hp.cut, List.append_assoc, List.take_append_of_le_length (by rw [hp.lp]; exact Nat.le_refl _), List.take_of_length_le (by rw [hp.lp]; exact Nat.le_refl _)]
    have e2 : (Lu.take (j + 1)).take j = (u0.take (j + 1)).take j := by rw [h.low]
    rw [List.take_take, List.take_take, Nat.min_eq_left (Nat.le_succ j)] at e2
    rw [← e1, e2]
  refine ⟨⟨?_, h.lq.set _ hdg, ?_, hlow, ?_, ?_⟩, hdg⟩
  · have := h.lu
    rw [hp.cut] at this
    intro x hx
    rcases List.mem_append.1 hx with hx | hx
    · rcases List.mem_append.1 hx with hx | hx
      · exact this x (by simp [hx])
      · exact hU' x hx
    · exact this x (by simp [hx])
  · have := h.len
    rw [hp.cut] at this
    simp only [List.length_append] at this ⊢
    omega
  · rw [hvd]; exact Nat.mod_lt _ hD
  · obtain ⟨x, gx⟩ := get_some hju
    have gxu : Lu[j]? = some x := by
      have e : (Lu.take (j + 1))[j]? = (u0.take (j + 1))[j]? := by rw [h.low]
      rw [List.getElem?_take_of_lt (Nat.lt_succ_self j), List.getElem?_take_of_lt (Nat.lt_succ_self j)] at e
      rw [e]; exact gx
    rw [hvd, drop_set_self hq, val_cons, val_drop_step gx, ← h.eq]
    have e2 : val U = x + 4294967296 * val (Lu.drop (j + 1)) := by rw [← hp.hval, val_drop_step gxu]
    have e3 := Nat.div_add_mod (val U) D
    rw [Nat.add_mul, Nat.mul_assoc, Nat.mul_add]
    rw [Nat.mul_comm] at e3
    generalize val U / D * D = X at *
    generalize val U % D = Y at *
    omega
/-- The two ways of a round. -/
theorem round_fit {D n est : Nat} {U U' ld : List Nat} (hD : 0 < D) (hld : val ld = D) (hest : est = val U / D ∨ est = val U / D + 1) (h : val U' + est * D = val U + 0) : est = val U / D ∧ val U' = val U % D := by
  have e3 := Nat.div_add_mod (val U) D
  have e4 := Nat.mod_lt (val U) hD
  rw [Nat.mul_comm] at e3
  rcases hest with h1 | h1
  · rw [h1] at h
    exact ⟨h1, by omega⟩
  · rw [h1, Nat.add_mul, Nat.one_mul] at h
    omega
theorem round_over {D n est c : Nat} {U U' U2 : List Nat} (hD : 0 < D) (hDW : D ≤ W n) (hU' : val U' < W n) (hU2 : val U2 < W n) (hc : c ≤ 1) (hest : est = val U / D ∨ est = val U / D + 1) (h : val U' + est * D = val U + W n) (h2 : val U2 + W n * c = val U' + D) :
    est = val U / D + 1 ∧ val U2 = val U % D := by
  have e3 := Nat.div_add_mod (val U) D
  have e4 := Nat.mod_lt (val U) hD
  rw [Nat.mul_comm] at e3
  rcases hest with h1 | h1
  · rw [h1] at h
    exfalso; omega
  · rw [h1, Nat.add_mul, Nat.one_mul] at h
    refine ⟨h1, ?_⟩
    rcases Nat.eq_zero_or_pos c with h0 | h0
    · rw [h0] at h2; omega
    · have : c = 1 := by omega
      rw [this] at h2; omega
end Go.Proofs.YgcoacGreat
