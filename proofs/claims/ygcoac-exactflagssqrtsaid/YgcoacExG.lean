/-
  law.normal, sameNat, isFinite; exact.ToInt64.
-/
import Derived.Test.YgcoacExF
import Derived.Deep.QuietTactic
import Derived.BigQuiet
namespace Go.Proofs.Ygcoac
open Go.RowKit
set_option linter.unusedSimpArgs false
set_option linter.unusedVariables false
attribute [local go_sem] nil_eq nil_ne

theorem norm_top {l : List Nat} {m t : Nat} (hl : Lim l) (hn : Norm l) (hm : l.length = m + 1) (gt : l[m]? = some t) : 0 < t := by
  rcases Nat.eq_zero_or_pos t with h | h
  · exfalso
    have e := val_take_succ gt
    rw [val_take_all (by omega), h, Nat.mul_zero, Nat.add_zero] at e
    have h1 := take_lt hl m
    have h2 := val_ge hn (by intro h; rw [h] at hm; simp at hm)
    rw [hm, Nat.add_sub_cancel] at h2
    omega
  · exact h
theorem norm_same {a b : List Nat} (ha : Lim a) (hb : Lim b) (na : Norm a) (nb : Norm b) (h : val a = val b) : a = b := by
  have h1 : a.length ≤ b.length := length_le na (by rw [h]; exact val_lt hb)
  have h2 : b.length ≤ a.length := length_le nb (by rw [← h]; exact val_lt ha)
  exact val_inj ha hb (by omega) h

theorem normal_any (n : Nat) (v : Value) (w : World) (h : NatAt w v n) : Calls Oacg.prog 87 #[v] w fun e w' => e = .returned (.bool true) ∧ w' = w := by
  rcases h with ⟨rfl, rfl⟩ | ⟨l, b, off, cap, rfl, hc, hm, hl, hn, rfl, h0, hcl⟩
  · go_enter Oacg.func87, Oacg.ntmps87
    go_wp2
    go_ret
    exact ⟨rfl, rfl⟩
  · obtain ⟨k, hk⟩ : ∃ k, l.length = k + 1 := by
      cases l with
      | nil => simp [val] at h0
      | cons x r => exact ⟨r.length, rfl⟩
    obtain ⟨t, gt⟩ := get_some (show k < l.length by omega)
    have ht := norm_top hl hn hk gt
    have ct := hcl k t gt
    have hx := hl.at gt
    have hnz : ((t : Int) != 0) = true := by simp; omega
    have hki : (k : Int) + 1 ≤ 1099511627776 := by omega
    rw [hk]
    have hke : ((k : Int) + 1 == 0) = false := by rw [beq_eq_false_iff_ne]; omega
    clear hcl hc hm hl hn h0 gt hk ht
    go_enter Oacg.func87, Oacg.ntmps87
    go_wp2
    go_ret
    exact ⟨rfl, rfl⟩

set_option maxHeartbeats 1000000 in
theorem sameNat_any (A B : Nat) (va vb : Value) (w : World) (ha : NatAt w va A) (hb : NatAt w vb B) :
    Calls Oacg.prog 36 #[va, vb] w fun e w' => e = .returned (.bool (decide (A = B))) ∧ ∃ n, w' = w.drewN n := by
  have HA := hide (normal_any A va w ha)
  have HB := hide (normal_any B vb w hb)
  obtain ⟨p, ca, la, rfl, hca, hcam, hla, hna, rfl, ha1⟩ := ha.open
  obtain ⟨q, cb, lb, rfl, hcb, hcbm, hlb, hnb, rfl, hb1⟩ := hb.open
  have HC : Hid (∀ j x : Nat, la[j]? = some x → ∃ b off, p = some ⟨b, off, none⟩ ∧ w.cell? ⟨b, off + j, none⟩ = some (.int .u32 (x : Int))) := by
    intro j x hj
    rcases ha1 with ⟨h, _⟩ | ⟨_, _, b, off, hp, hcl⟩
    · rw [h] at hj; simp at hj
    · exact ⟨b, off, hp, hcl j x hj⟩
  have HD : Hid (∀ j x : Nat, lb[j]? = some x → ∃ b off, q = some ⟨b, off, none⟩ ∧ w.cell? ⟨b, off + j, none⟩ = some (.int .u32 (x : Int))) := by
    intro j x hj
    rcases hb1 with ⟨h, _⟩ | ⟨_, _, b, off, hp, hcl⟩
    · rw [h] at hj; simp at hj
    · exact ⟨b, off, hp, hcl j x hj⟩
  have HEQ : Hid (∀ b, decide (la = lb) = b → decide (val la = val lb) = b) := by
    intro b hb; rw [← hb, decide_eq_decide]
    exact ⟨fun h => norm_same hla hlb hna hnb h, fun h => by rw [h]⟩
  have hli : (la.length : Int) ≤ 1099511627776 := by omega
  have hlj : (lb.length : Int) ≤ 1099511627776 := by omega
  obtain ⟨R, hR⟩ : ∃ R, decide (val la = val lb) = R := ⟨_, rfl⟩
  have HR : Hid (∀ b, decide (la = lb) = b → R = b) := fun b hb => by rw [← hR]; exact HEQ.out b hb
  rw [hR]
  clear ha hb ha1 hb1 hca hcam hcb hcbm hna hnb HEQ hR
  by_cases hlen : la.length = lb.length
  · have t1 : ((la.length : Int) != (lb.length : Int)) = false := by rw [hlen]; simp
    have HLEN := Box.mk hlen
    have hleni : (lb.length : Int) = (la.length : Int) := by omega
    clear hlen hleni
    go_enter Oacg.func36, Oacg.ntmps36
    go_wp2_with fail
    refine HA.out.mono ?_
    rintro _ _ ⟨rfl, hw1⟩
    rw [hw1]
    clear hw1
    go_wp2_with fail
    refine HB.out.mono ?_
    rintro _ _ ⟨rfl, hw1⟩
    rw [hw1]
    clear hw1
    go_wp2_with fail
    go_loopw [23] (fun vi wr => ∃ i k : Nat, vi = .int .i64 (i : Int) ∧ i ≤ la.length ∧ Hid (la.take i = lb.take i) ∧ wr = w.drewN k) (fun i _ => (la.length - intOf i).toNat)
    case atStart => exact ⟨0, 0, rfl, Nat.zero_le _, rfl, rfl⟩
    case round =>
      obtain ⟨i, k, rfl, hi, HT, rfl⟩ := hrel
      by_cases hlt : i < la.length
      · have i1 : (i : Int) < (la.length : Int) := by omega
        have i2 : (i : Int) < (lb.length : Int) := by have := HLEN.out; omega
        obtain ⟨x, gx⟩ := get_some hlt
        obtain ⟨y, gy⟩ := get_some (show i < lb.length by have := HLEN.out; omega)
        obtain ⟨b1, o1, rfl, c1⟩ := HC.out i x gx
        obtain ⟨b2, o2, rfl, c2⟩ := HD.out i y gy
        have hx := hla.at gx
        have hy := hlb.at gy
        by_cases hxy : x = y
        · subst hxy
          have HT2 : Hid (la.take (i + 1) = lb.take (i + 1)) := by show _ = _; rw [List.take_add_one, List.take_add_one, HT.out, gx, gy]
          clear gx gy HC HD
          go_wp2_with fail
          go_quiet (fail)
          go_wp2_with fail
          go_roundw
          case rel => exact ⟨i + 1, k + nq, by go_num, by omega, HT2, by first | rfl | rw [World.drewN_drewN]⟩
          case measure => simp [intOf]; omega
        · have t2 : ((x : Int) != (y : Int)) = true := by simp; omega
          have hR := HR.out false (by simp; intro h; rw [h] at gx; rw [gx] at gy; exact hxy (by simpa using gy))
          clear gx gy HC HD
          go_wp2_with fail
          go_quiet (fail)
          go_wp2_with fail
          go_ret
          exact ⟨by rw [hR]; rfl, _, by first | rfl | rw [World.drewN_drewN]⟩
      · have hR := HR.out true (by
          have e := HT.out
          rw [List.take_of_length_le (by omega), List.take_of_length_le (by have := HLEN.out; omega)] at e
          simpa using e)
        go_wp2_with fail
        go_ret
        exact ⟨by rw [hR]; rfl, _, by first | rfl | rw [World.drewN_drewN]⟩
  · have t1 : ((la.length : Int) != (lb.length : Int)) = true := by simp; omega
    have hR := HR.out false (by simp; intro h; exact hlen (by rw [h]))
    have HRR := Box.mk hR
    clear hR hlen
    go_enter Oacg.func36, Oacg.ntmps36
    go_wp2_with fail
    refine HA.out.mono ?_
    rintro _ _ ⟨rfl, hw1⟩
    rw [hw1]
    clear hw1
    go_wp2_with fail
    refine HB.out.mono ?_
    rintro _ _ ⟨rfl, hw1⟩
    rw [hw1]
    clear hw1
    go_wp2_with fail
    go_ret
    exact ⟨by rw [HRR.out]; rfl, 0, rfl⟩
end Go.Proofs.Ygcoac
