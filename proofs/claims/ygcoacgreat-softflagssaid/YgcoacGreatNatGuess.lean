/-
  nat.guess.
-/
import Derived.Test.YgcoacGreatNatDivM
import Derived.Deep.QuietTactic
import Derived.BigQuiet
namespace Go.Proofs.YgcoacGreat
open Go.RowKit
set_option linter.unusedSimpArgs false
set_option linter.unusedVariables false

theorem or_limbs {a b : Nat} (ha : a < 4294967296) (hb : b < 4294967296) : Go.bits BinOp.or IntKind.u64 ((a : Int) * 4294967296) (b : Int) = ((a * 4294967296 + b : Nat) : Int) := by
  have e : (a : Int) * 4294967296 = ((a * 4294967296 : Nat) : Int) := by omega
  rw [e, u64_or_nat _ _ (by omega) (by omega), nat_join 32 (a * 4294967296) b (by rw [show (2 : Nat) ^ 32 = 4294967296 from rfl]; omega) (by rw [show (2 : Nat) ^ 32 = 4294967296 from rfl]; exact hb)]

theorem head_bd {u2 u1 d1 : Nat} (h1 : u1 < 4294967296) (hu : u2 ≤ d1) (hd : 2147483648 ≤ d1) : (u2 * 4294967296 + u1) / d1 ≤ 4294967298 := by
  apply Nat.le_of_lt_succ
  rw [Nat.div_lt_iff_lt_mul (by omega)]
  have : u2 * 4294967296 ≤ d1 * 4294967296 := Nat.mul_le_mul_right _ hu
  omega

set_option maxHeartbeats 1000000 in
theorem guess_any (u2 u1 u0 d1 d0 : Nat) (hu2 : u2 ≤ d1) (h1 : u1 < 4294967296) (h0 : u0 < 4294967296) (hd1 : d1 < 4294967296) (hdh : 2147483648 ≤ d1) (hd0 : d0 < 4294967296) (w : World) :
    Calls Oacg.prog 102 #[.int .u32 (u2 : Int), .int .u32 (u1 : Int), .int .u32 (u0 : Int), .int .u32 (d1 : Int), .int .u32 (d0 : Int)] w fun r w' =>
      (∃ est : Nat, r = .returned (.int .u32 (est : Int)) ∧ IsGuess ((u2 * 4294967296 + u1) * 4294967296 + u0) (d1 * 4294967296 + d0) est) ∧ ∃ n, w' = w.drewN n := by
  have r1 := or_limbs (a := u2) (b := u1) (by omega) h1
  have hh := head_bd h1 hu2 hdh
  have HS := hide (guess_start (head := u2 * 4294967296 + u1) (u0 := u0) (d1 := d1) (d0 := d0) (by omega) h0)
  have HB := hide (fun est rest (h : GuessInv (u2 * 4294967296 + u1) u0 d1 d0 est rest) hr => guess_break h hu2 h1 hd0 (by omega) hr)
  have hhd : u2 * 4294967296 + u1 < 18446744073709551616 := by omega
  obtain ⟨head, hhead⟩ : ∃ head : Nat, u2 * 4294967296 + u1 = head := ⟨_, rfl⟩
  rw [hhead] at r1 hh HS HB hhd
  have HQ : Hid (u2 * 4294967296 + u1 = head) := hhead
  rw [hhead]
  clear hhead
  have hd1z : ((d1 : Int) == 0) = false := by rw [beq_eq_false_iff_ne]; omega
  have hu2i : (u2 : Int) < 4294967296 := by omega
  have HHD := hide hhd
  have HH := hide hh
  clear hhd hh hu2
  obtain ⟨q, hq⟩ : ∃ q : Nat, head / d1 = q := ⟨_, rfl⟩
  obtain ⟨r0, hr0⟩ : ∃ r0 : Nat, head % d1 = r0 := ⟨_, rfl⟩
  have hqi : (head : Int) / (d1 : Int) = (q : Int) := by rw [← Int.natCast_ediv, hq]
  have hri : (head : Int) % (d1 : Int) = (r0 : Int) := by rw [← Int.natCast_emod, hr0]
  have hrl : head % d1 < d1 := Nat.mod_lt _ (by omega)
  rw [hq] at HH HS
  rw [hr0] at HS hrl
  have hql : (q : Int) ≤ 4294967298 := by have := HH.out; omega
  clear hq hr0
  go_enter Oacg.func102, Oacg.ntmps102
  go_wp2_with fail
  go_quiet (fail)
  go_wp2_with fail
  go_loop [12, 13] (fun ve vr => ∃ est rest : Nat, ve = .int .u64 (est : Int) ∧ vr = .int .u64 (rest : Int) ∧ Hid (GuessInv head u0 d1 d0 est rest) ∧ est ≤ 4294967298 ∧ rest < 4294967296) (fun ve _ => (intOf ve).toNat)
  case atStart => exact ⟨q, r0, rfl, by rw [hri], HS.out, HH.out, by omega⟩
  case round =>
    obtain ⟨est, rest, rfl, rfl, HI, he, hr⟩ := hrel
    have r2 := or_limbs (a := rest) (b := u0) hr h0
    clear HS hqi hri hrl r1 HQ HHD HH hu2i h1 hql
    by_cases hbig : 4294967296 ≤ est
    · have t1 : decide ((4294967296 : Int) ≤ (est : Int)) = true := by simp; omega
      have hpos : 0 < est := by omega
      have hst := guess_step HI.out hpos (.inl hbig)
      have hsub : ((est : Int) - 1) = ((est - 1 : Nat) : Int) := by omega
      have HST := hide hst
      by_cases hbr : 4294967296 ≤ rest + d1
      · have t3 : decide ((4294967296 : Int) ≤ (rest : Int) + (d1 : Int)) = true := by simp; omega
        have HG := hide (HB.out _ _ hst hbr)
        have hgl : est - 1 < 4294967296 := HG.out.1
        have hgi : ((est - 1 : Nat) : Int) < 4294967296 := by omega
        clear hst HB HST HI
        go_wp2_with fail
        go_ret
        exact ⟨⟨est - 1, by first | rfl | (congr 2; omega), HG.out⟩, ⟨_, rfl⟩⟩
      · have t3 : decide ((4294967296 : Int) ≤ (rest : Int) + (d1 : Int)) = false := by simp; omega
        clear hst HI
        go_wp2_with fail
        exact ⟨⟨est - 1, rest + d1, by first | rfl | (congr 1; omega), by first | rfl | (congr 1; omega), HST, by omega, by omega⟩, by simp [intOf]; omega⟩
    · have t1 : decide ((4294967296 : Int) ≤ (est : Int)) = false := by simp; omega
      obtain ⟨m1, m2⟩ := mul_bound (show est < 4294967296 by omega) hd0
      obtain ⟨P, hP⟩ : ∃ P : Nat, est * d0 = P := ⟨_, rfl⟩
      have hPi : (est : Int) * (d0 : Int) = (P : Int) := by rw [← Int.natCast_mul, hP]
      rw [hPi] at m1 m2
      obtain ⟨R, hR⟩ : ∃ R : Nat, rest * 4294967296 + u0 = R := ⟨_, rfl⟩
      rw [hR] at r2
      by_cases hgt : R < P
      · have t2 : decide ((R : Int) < (P : Int)) = true := by simp; omega
        have hbad : est * d0 > rest * 4294967296 + u0 := by rw [hP, hR]; exact hgt
        have hpos : 0 < est := by
          rcases Nat.eq_zero_or_pos est with h | h
          · rw [h] at hbad; omega
          · exact h
        have HBAD := hide hbad
        clear hbad hP hR
        have hst := guess_step HI.out hpos (.inr HBAD.out)
        have hsub : ((est : Int) - 1) = ((est - 1 : Nat) : Int) := by omega
        have HST := hide hst
        by_cases hbr : 4294967296 ≤ rest + d1
        · have t3 : decide ((4294967296 : Int) ≤ (rest : Int) + (d1 : Int)) = true := by simp; omega
          have HG := hide (HB.out _ _ hst hbr)
          have hgl : est - 1 < 4294967296 := HG.out.1
          have hgi : ((est - 1 : Nat) : Int) < 4294967296 := by omega
          clear hst HB HST HI
          go_wp2_with fail
          go_ret
          exact ⟨⟨est - 1, by first | rfl | (congr 2; omega), HG.out⟩, ⟨_, rfl⟩⟩
        · have t3 : decide ((4294967296 : Int) ≤ (rest : Int) + (d1 : Int)) = false := by simp; omega
          clear hst HI
          go_wp2_with fail
          exact ⟨⟨est - 1, rest + d1, by first | rfl | (congr 1; omega), by first | rfl | (congr 1; omega), HST, by omega, by omega⟩, by simp [intOf]; omega⟩
      · have t2 : decide ((R : Int) < (P : Int)) = false := by simp; omega
        have HG := hide (guess_end HI.out (by omega) (show ¬ est * d0 > rest * 4294967296 + u0 by rw [hP, hR]; omega))
        have hei : (est : Int) < 4294967296 := by omega
        clear HI HB hP hR
        go_wp2_with fail
        go_ret
        exact ⟨⟨est, rfl, HG.out⟩, ⟨_, rfl⟩⟩
end Go.Proofs.YgcoacGreat
