/-
  wide.Div.
-/
import Derived.Test.YgcoacGreatWdE
namespace Go.Proofs.YgcoacGreat
open Go.RowKit
set_option linter.unusedSimpArgs false
set_option linter.unusedVariables false

theorem div_two' {A dn n1 n0 hi B : Nat} (hA : A = (hi * B + n1) * B + n0) (hd : 0 < dn) :
    A / dn = (hi * B + n1) / dn * B + ((hi * B + n1) % dn * B + n0) / dn ∧
    A % dn = ((hi * B + n1) % dn * B + n0) % dn := by
  have e1 := Nat.div_add_mod (hi * B + n1) dn
  generalize (hi * B + n1) / dn = Q1 at *
  generalize (hi * B + n1) % dn = R1 at *
  have e2 := Nat.div_add_mod (R1 * B + n0) dn
  have l := Nat.mod_lt (R1 * B + n0) hd
  generalize (R1 * B + n0) / dn = Q0 at *
  generalize (R1 * B + n0) % dn = R0 at *
  rw [Nat.div_mod_unique hd]
  refine ⟨?_, l⟩
  have e3 : (dn * Q1 + R1) * B = dn * (Q1 * B) + R1 * B := by rw [Nat.add_mul, Nat.mul_assoc]
  rw [hA, ← e1, e3, Nat.mul_add]
  omega
theorem div_two {A dn n1 n0 hi : Nat} (hA : A = (hi * 4294967296 + n1) * 4294967296 + n0) (hd : 0 < dn) :
    A / dn = (hi * 4294967296 + n1) / dn * 4294967296 + ((hi * 4294967296 + n1) % dn * 4294967296 + n0) / dn ∧
    A % dn = ((hi * 4294967296 + n1) % dn * 4294967296 + n0) % dn := div_two' hA hd
theorem bits_norm {d : Nat} (h0 : 0 < d) (hd : d < 18446744073709551616) : 9223372036854775808 ≤ d * 2 ^ (64 - bits d) ∧ d * 2 ^ (64 - bits d) < 18446744073709551616 ∧ 64 - bits d < 64 := by
  have hb : bits d ≤ 64 := bits_le_of_lt (show d < 2 ^ 64 from hd)
  have h1 := bits_lt d
  have h2 := bits_le h0
  have h3 := bits_pos' h0
  refine ⟨?_, ?_, by omega⟩
  · have e : 9223372036854775808 = 2 ^ (bits d - 1) * 2 ^ (64 - bits d) := by rw [← Nat.pow_add, show bits d - 1 + (64 - bits d) = 63 by omega]
    rw [e]; exact Nat.mul_le_mul_right _ h2
  · have e : 18446744073709551616 = 2 ^ bits d * 2 ^ (64 - bits d) := by rw [← Nat.pow_add, show bits d + (64 - bits d) = 64 by omega]
    rw [e]; exact Nat.mul_lt_mul_of_pos_right h1 (Nat.pow_pos (by decide))

set_option maxRecDepth 20000 in
set_option maxHeartbeats 1000000 in
theorem wDiv_any (a d : Nat) (h : a / 18446744073709551616 < d) (hd2 : d < 18446744073709551616) (w : World) :
    Calls Oacg.prog 58 #[uV a, .int .u64 (d : Int)] w fun r w' =>
      r = .returned (.tuple #[.int .u64 ((a / d : Nat) : Int), .int .u64 ((a % d : Nat) : Int), .bool true]) ∧ Ext w w' := by
  obtain ⟨n1, n2, n3⟩ := bits_norm (show 0 < d by omega) hd2
  have HCZ := hide (clz_any d hd2)
  obtain ⟨s, hs⟩ : ∃ s, 64 - bits d = s := ⟨_, rfl⟩
  rw [hs] at n1 n2 n3 HCZ
  have hps := Nat.pow_pos (n := s) (show 0 < 2 by decide)
  have hal : a < d * 18446744073709551616 := by omega
  have hAl : a * 2 ^ s < d * 2 ^ s * 18446744073709551616 := by
    rw [show d * 2 ^ s * 18446744073709551616 = d * 18446744073709551616 * 2 ^ s by ac_rfl]
    exact Nat.mul_lt_mul_of_pos_right hal hps
  have HSL := hide (wShl_any a (by omega) s (by omega))
  have hq : a * 2 ^ s / (d * 2 ^ s) = a / d := Nat.mul_div_mul_right _ _ hps
  have hr : a * 2 ^ s % (d * 2 ^ s) = a % d * 2 ^ s := Nat.mul_mod_mul_right _ _ _
  have hwd : IntKind.u64.wrap ((d : Int) * 2 ^ s) = ((d * 2 ^ s : Nat) : Int) := by rw [two_pow_cast, ← Int.natCast_mul, w64n, Nat.mod_eq_of_lt n2]
  rw [Nat.mod_eq_of_lt (by omega)] at HSL
  generalize hA : a * 2 ^ s = A at *
  generalize hdn : d * 2 ^ s = dn at *
  have hA2 : A = (A / 18446744073709551616 * 4294967296 + A % 18446744073709551616 / 4294967296) * 4294967296 + A % 4294967296 := by omega
  obtain ⟨d1, d2⟩ := div_two hA2 (show 0 < dn by omega)
  have HH1 := hide (divHalf_any (A / 18446744073709551616) (A % 18446744073709551616 / 4294967296) dn (by omega) (by omega) n1 n2)
  have HH2 := hide (divHalf_any ((A / 18446744073709551616 * 4294967296 + A % 18446744073709551616 / 4294967296) % dn) (A % 4294967296) dn (Nat.mod_lt _ (by omega)) (by omega) n1 n2)
  obtain ⟨Q1, hQ1⟩ : ∃ x, (A / 18446744073709551616 * 4294967296 + A % 18446744073709551616 / 4294967296) / dn = x := ⟨_, rfl⟩
  obtain ⟨R1, hR1⟩ : ∃ x, (A / 18446744073709551616 * 4294967296 + A % 18446744073709551616 / 4294967296) % dn = x := ⟨_, rfl⟩
  rw [hQ1, hR1] at HH1
  rw [hR1] at HH2
  rw [hQ1, hR1] at d1
  rw [hR1] at d2
  obtain ⟨Q0, hQ0⟩ : ∃ x, (R1 * 4294967296 + A % 4294967296) / dn = x := ⟨_, rfl⟩
  obtain ⟨R0, hR0⟩ : ∃ x, (R1 * 4294967296 + A % 4294967296) % dn = x := ⟨_, rfl⟩
  rw [hQ0, hR0] at HH2
  rw [hQ0] at d1
  rw [hR0] at d2
  have hQ0l : Q0 < 4294967296 := by
    rw [← hQ0, Nat.div_lt_iff_lt_mul (by omega)]
    have l := Nat.mod_lt (A / 18446744073709551616 * 4294967296 + A % 18446744073709551616 / 4294967296) (show dn > 0 by omega)
    rw [hR1] at l
    omega
  have hQ1l : Q1 < 4294967296 := by
    rw [← hQ1, Nat.div_lt_iff_lt_mul (by omega)]
    omega
  obtain ⟨H1, hH1⟩ : ∃ H : Int, H = ((a / 18446744073709551616 : Nat) : Int) := ⟨_, rfl⟩
  obtain ⟨L1, hL1⟩ : ∃ H : Int, H = ((a % 18446744073709551616 : Nat) : Int) := ⟨_, rfl⟩
  obtain ⟨H2, hH2⟩ : ∃ H : Int, H = ((A / 18446744073709551616 : Nat) : Int) := ⟨_, rfl⟩
  obtain ⟨L2, hL2⟩ : ∃ H : Int, H = ((A % 18446744073709551616 : Nat) : Int) := ⟨_, rfl⟩
  obtain ⟨M1, hM1⟩ : ∃ H : Int, H = ((A % 18446744073709551616 / 4294967296 : Nat) : Int) := ⟨_, rfl⟩
  obtain ⟨M0, hM0⟩ : ∃ H : Int, H = ((A % 4294967296 : Nat) : Int) := ⟨_, rfl⟩
  have f1 : L2 / 4294967296 = M1 := by omega
  have f2 : Go.bits BinOp.and IntKind.u64 L2 4294967295 = M0 := by
    rw [hL2, and_low32 (Nat.mod_lt _ (by decide)), hM0]
    omega
  have f3 : Box (Go.bits BinOp.or IntKind.u64 (IntKind.u64.wrap ((Q1 : Int) * 4294967296)) (Q0 : Int) = ((a / d : Nat) : Int)) := ⟨by
    rw [or_limbsw hQ1l hQ0l, ← d1, hq]⟩
  have f4 : Box ((R0 : Int) / 2 ^ s = ((a % d : Nat) : Int)) := ⟨by
    rw [two_pow_cast, ← Int.natCast_ediv, ← d2, hr, Nat.mul_div_cancel _ hps]⟩
  have t0 : decide ((d : Int) ≤ H1) = false := by simp; omega
  have hsi : (s : Int) < 64 := by omega
  generalize a / d = q at *
  generalize a % d = r at *
  unfold uV at *
  rw [← hH1, ← hL1, ← hH2, ← hL2] at HSL
  rw [← hH2, ← hM1] at HH1
  rw [← hM0] at HH2
  rw [← hH1, ← hL1]
  clear hM0 hM1 hH1 hL1 hH2 hL2 hQ1 hR1 hQ0 hR0 d1 d2 hA2 hA hdn hq hr hal hAl hps n1 n2 n3 h hd2 hs hQ0l hQ1l
  go_enter Oacg.func58, Oacg.ntmps58
  go_wp2_with fail
  refine (HCZ.out _).mono ?_
  rintro _ w1 ⟨rfl, rfl⟩
  go_wp2_with fail
  refine (HSL.out _).mono ?_
  rintro _ w1 ⟨rfl, hx1⟩
  have g0 : w1.cell? ⟨w.heap.size, 0, none⟩ = some (.int .u64 H1) := hx1.cell (by simp [go_sem])
  have g1 : w1.cell? ⟨w.heap.size, 1, none⟩ = some (.int .u64 L1) := hx1.cell (by simp [go_sem])
  have gf : ∀ i, w1.frozen? ⟨w.heap.size, i, none⟩ = false := fun i => by rw [hx1.froz]; simp [go_sem]
  have gf0 := gf 0
  have gf1 := gf 1
  have HX1 : Hid (Ext w w1) := ((Ext.refl w).alloc _ _).trans hx1
  clear hx1 gf HCZ HSL
  go_wp2_with fail
  refine (HH1.out _).mono ?_
  rintro _ w2 ⟨rfl, hx2⟩
  have k0 : w2.cell? ⟨w.heap.size, 0, none⟩ = some (.int .u64 H2) := hx2.cell (by simp [go_sem, g0, g1])
  have k1 : w2.cell? ⟨w.heap.size, 1, none⟩ = some (.int .u64 L2) := hx2.cell (by simp [go_sem, g0, g1])
  have HX2 : Hid (Ext w w2) := ((HX1.out.setCell (Nat.le_refl _) _).setCell (Nat.le_refl _) _).trans hx2
  clear hx2 HX1 g0 g1 gf0 gf1 HH1
  go_wp2_with fail
  refine (HH2.out _).mono ?_
  rintro _ w3 ⟨rfl, hx3⟩
  have HX3 : Hid (Ext w w3) := HX2.out.trans hx3
  clear hx3 HX2 HH2 k0 k1
  go_wp2_with fail
  simp [bodyPost, results, Oacg.results58, go_sem]
  exact ⟨⟨f3.out, f4.out⟩, HX3.out⟩
end Go.Proofs.YgcoacGreat
