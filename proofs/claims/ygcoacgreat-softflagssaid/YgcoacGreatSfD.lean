/-
  soft.heard, jam, top, numberOf.
-/
import Derived.Test.YgcoacGreatSfC
import Derived.Test.YgcoacGreatExD
namespace Go.Proofs.YgcoacGreat
open Go.RowKit
set_option linter.unusedSimpArgs false
set_option linter.unusedVariables false

set_option maxHeartbeats 1000000 in
theorem sheard_any (e m : Nat) (h : Fm e m) (a b : Nat) (ha : a < 18446744073709551616) (hb : b < 18446744073709551616) (w : World) :
    Calls Oacg.prog 30 #[.agg #[.int .u8 (e : Int), .int .u8 (m : Int)], .int .u64 (a : Int), .int .u64 (b : Int)] w fun r w' => r = .returned (.int .u8 (heardF e m a b)) ∧ Ext w w' := by
  have HA := hide (signals_any e m h a ha)
  have HB := hide (signals_any e m h b hb)
  have HF : Hid (∀ x y, sigB e m a = x → sigB e m b = y → heardF e m a b = if x || y then 1 else 0) := by
    intro x y hx hy; unfold heardF; rw [hx, hy]
  clear ha hb
  have HC := hide (Cells2.new w e m 23)
  obtain ⟨sa, hsa⟩ : ∃ sa, sigB e m a = sa := ⟨_, rfl⟩
  obtain ⟨sb, hsb⟩ : ∃ sb, sigB e m b = sb := ⟨_, rfl⟩
  have hF := HF.out sa sb hsa hsb
  rw [hsa] at HA
  rw [hsb] at HB
  rw [hF]
  clear HF hF hsa hsb
  go_enter Oacg.func30, Oacg.ntmps30
  go_wp2_with fail
  refine (HA.out _).mono ?_
  rintro _ w1 ⟨rfl, hx1⟩
  have HX1 : Hid (Ext w w1) := ((Ext.refl w).alloc _ _).trans hx1
  obtain ⟨c0, c1⟩ := HC.out.ext hx1
  clear hx1 HC
  cases sa with
  | true =>
    go_wp2_with fail
    go_ret
    exact ⟨rfl, HX1.out⟩
  | false =>
    go_wp2_with fail
    refine (HB.out _).mono ?_
    rintro _ w2 ⟨rfl, hx2⟩
    have HX2 := hide (HX1.out.trans hx2)
    clear hx2
    cases sb with
    | true =>
      go_wp2_with fail
      go_ret
      exact ⟨rfl, HX2.out⟩
    | false =>
      go_wp2_with fail
      go_ret
      exact ⟨rfl, HX2.out⟩

/-! ### jam -/
/-- a's 128 bits moved up to the top; the upper half, its lowest bit set for what lies below. -/
def tpA (a : Nat) : Nat := a * 2 ^ (128 - bits a)
def jamS (a : Nat) : Nat := if tpA a % 18446744073709551616 = 0 then tpA a / 18446744073709551616 else tpA a / 18446744073709551616 / 2 * 2 + 1
theorem tpA_lt {a : Nat} (ha : a < 340282366920938463463374607431768211456) : tpA a < 340282366920938463463374607431768211456 := by
  have hb : bits a ≤ 128 := bits_le_of_lt (show a < 2 ^ 128 from ha)
  unfold tpA
  have e : (340282366920938463463374607431768211456 : Nat) = 2 ^ bits a * 2 ^ (128 - bits a) := by rw [← Nat.pow_add, show bits a + (128 - bits a) = 128 by omega]
  rw [e]
  exact Nat.mul_lt_mul_of_pos_right (bits_lt a) (two_pos _)
theorem bits_hi {a : Nat} (h : 0 < a / 18446744073709551616) : bits a = 64 + bits (a / 18446744073709551616) := by
  have h1 := bits_lt (a / 18446744073709551616)
  have h2 := bits_le h
  have h3 := bits_pos' h
  obtain ⟨hi, hhi⟩ : ∃ x, a / 18446744073709551616 = x := ⟨_, rfl⟩
  have hl := Nat.div_add_mod a 18446744073709551616
  rw [hhi] at h h1 h2 h3 hl ⊢
  have hm := Nat.mod_lt a (show 0 < 18446744073709551616 by decide)
  have a1 : bits a ≤ 64 + bits hi := by
    rw [← lt_two_iff, Nat.pow_add, show (2 : Nat) ^ 64 = 18446744073709551616 from rfl]
    have := Nat.mul_le_mul_left 18446744073709551616 (show hi + 1 ≤ 2 ^ bits hi from h1)
    omega
  have a2 : ¬ bits a ≤ 63 + bits hi := by
    rw [← lt_two_iff, show 63 + bits hi = 64 + (bits hi - 1) by omega, Nat.pow_add, show (2 : Nat) ^ 64 = 18446744073709551616 from rfl]
    have := Nat.mul_le_mul_left 18446744073709551616 h2
    omega
  omega
set_option maxRecDepth 20000 in
set_option maxHeartbeats 2000000 in
theorem jam_any (a : Nat) (ha : a < 340282366920938463463374607431768211456) (p : Int) (hp1 : -25000 ≤ p) (hp2 : p ≤ 25000) (w : World) :
    Calls Oacg.prog 56 #[uV a, .int .i16 p] w fun r w' =>
      r = .returned (.tuple #[.int .u64 (jamS a : Int), .int .i16 (p + (bits a : Int) - 64)]) ∧ Ext w w' := by
  obtain ⟨hi, hhi⟩ : ∃ x, a / 18446744073709551616 = x := ⟨_, rfl⟩
  obtain ⟨lo, hlo⟩ : ∃ x, a % 18446744073709551616 = x := ⟨_, rfl⟩
  have hi2 : hi < 18446744073709551616 := by omega
  have lo2 : lo < 18446744073709551616 := by omega
  have hb : bits a ≤ 128 := bits_le_of_lt (show a < 2 ^ 128 from ha)
  have HCH := hide (clz_any hi hi2)
  have HCL := hide (clz_any lo lo2)
  have HSL := hide (wShl_any a ha (128 - bits a) (by omega))
  have hlt := tpA_lt ha
  unfold tpA at hlt
  rw [Nat.mod_eq_of_lt hlt] at HSL
  unfold jamS tpA
  obtain ⟨ld, hld⟩ : ∃ x, 128 - bits a = x := ⟨_, rfl⟩
  rw [hld] at HSL hlt ⊢
  obtain ⟨A, hA⟩ : ∃ x, a * 2 ^ ld = x := ⟨_, rfl⟩
  rw [hA] at HSL hlt ⊢
  have hbh : bits hi ≤ 64 := bits_le_of_lt (show hi < 2 ^ 64 from hi2)
  have hbl : bits lo ≤ 64 := bits_le_of_lt (show lo < 2 ^ 64 from lo2)
  have hhc : 0 < hi → bits a = 64 + bits hi := fun h => by rw [← hhi] at h ⊢; exact bits_hi h
  have hlc : hi = 0 → bits a = bits lo := fun h => by rw [show a = lo by omega]
  obtain ⟨P, hP⟩ : ∃ x : Int, p + (bits a : Int) - 64 = x := ⟨_, rfl⟩
  rw [hP]
  obtain ⟨lh, hlh⟩ : ∃ x, 64 - bits hi = x := ⟨_, rfl⟩
  obtain ⟨ll, hll⟩ : ∃ x, 64 - bits lo = x := ⟨_, rfl⟩
  rw [hlh] at HCH
  rw [hll] at HCL
  have c1 : IntKind.i16.wrap (p + 64) = p + 64 := by rw [wi16]; omega
  have c2 : IntKind.i16.wrap (ld : Int) = (ld : Int) := by rw [wi16]; omega
  have c3 : IntKind.i16.wrap (p + 64 - (ld : Int)) = P := by rw [wi16]; omega
  have HLD : Box ((((hi : Int) == 0) = false ∧ lh = ld) ∨ (((hi : Int) == 0) = true ∧ IntKind.u8.wrap ((lh : Int) + (ll : Int)) = (ld : Int))) := by
    constructor
    rcases Nat.eq_zero_or_pos hi with h | h
    · right
      have := hlc h
      refine ⟨by rw [h]; rfl, ?_⟩
      have h0 : bits hi = 0 := by rw [h]; exact bits_zero
      simp [IntKind.wrap, IntKind.bits, IntKind.signed]
      omega
    · left
      have := hhc h
      exact ⟨by rw [beq_eq_false_iff_ne]; omega, by omega⟩
  obtain ⟨H1, hH1⟩ : ∃ H : Int, H = (hi : Int) := ⟨_, rfl⟩
  obtain ⟨L1, hL1⟩ : ∃ H : Int, H = (lo : Int) := ⟨_, rfl⟩
  obtain ⟨H2, hH2⟩ : ∃ H : Int, H = ((A / 18446744073709551616 : Nat) : Int) := ⟨_, rfl⟩
  obtain ⟨L2, hL2⟩ : ∃ H : Int, H = ((A % 18446744073709551616 : Nat) : Int) := ⟨_, rfl⟩
  have HJ : Box ((L2 != 0) = false ∧ (((if A % 18446744073709551616 = 0 then A / 18446744073709551616 else A / 18446744073709551616 / 2 * 2 + 1) : Nat) : Int) = H2 ∨ (L2 != 0) = true ∧ (((if A % 18446744073709551616 = 0 then A / 18446744073709551616 else A / 18446744073709551616 / 2 * 2 + 1) : Nat) : Int) = Go.bits BinOp.or IntKind.u64 H2 1) := by
    constructor
    by_cases c : A % 18446744073709551616 = 0
    · left
      rw [if_pos c]
      exact ⟨by rw [hL2, c]; rfl, hH2.symm⟩
    · right
      rw [if_neg c, hH2, or_one (by omega)]
      exact ⟨by rw [bne_iff_ne]; omega, rfl⟩
  obtain ⟨R, hR⟩ : ∃ x : Int, (((if A % 18446744073709551616 = 0 then A / 18446744073709551616 else A / 18446744073709551616 / 2 * 2 + 1) : Nat) : Int) = x := ⟨_, rfl⟩
  rw [hR] at HJ ⊢
  unfold uV at *
  rw [hhi, hlo, ← hH1, ← hL1] at HSL ⊢
  rw [← hH2, ← hL2] at HSL
  rw [← hH1] at HCH HLD
  rw [← hL1] at HCL
  clear hR hH2 hL2 hH1 hL1 hlh hll hP hhc hlc hbh hbl hA hlt hld hb hhi hlo hi2 lo2 ha
  go_enter Oacg.func56, Oacg.ntmps56
  go_wp2_with fail
  refine (HCH.out _).mono ?_
  rintro _ w1 ⟨rfl, rfl⟩
  go_upto_if 12 with fail
  obtain ⟨W0, hW0⟩ : ∃ W0, W0 = w.alloc (.cells #[.int .u64 H1, .int .u64 L1] 52) := ⟨_, rfl⟩
  have HX0 : Hid (Ext w W0) := by rw [hW0]; exact (Ext.refl w).alloc _ _
  have g0 : W0.cell? ⟨w.heap.size, 0, none⟩ = some (.int .u64 H1) := by rw [hW0]; simp [go_sem]
  have g1 : W0.cell? ⟨w.heap.size, 1, none⟩ = some (.int .u64 L1) := by rw [hW0]; simp [go_sem]
  have gf0 : W0.frozen? ⟨w.heap.size, 0, none⟩ = false := by rw [hW0]; simp [go_sem]
  have gf1 : W0.frozen? ⟨w.heap.size, 1, none⟩ = false := by rw [hW0]; simp [go_sem]
  rw [← hW0]
  clear hW0
  go_cut [6] (fun v wx => v = .int .u8 (ld : Int) ∧ wx = W0)
  case first =>
    rcases HLD.out with ⟨q1, q2⟩ | ⟨q1, q2⟩
    · subst q2
      go_wp2_with fail
      go_meet
      exact ⟨rfl, rfl⟩
    · go_wp2_with fail
      refine (HCL.out _).mono ?_
      rintro _ w1 ⟨rfl, rfl⟩
      go_wp2_with fail
      go_meet
      exact ⟨rfl, rfl⟩
  case rest =>
    obtain ⟨rfl, rfl⟩ := hcut
    clear HLD HCL HCH
    go_wp2_with fail
    refine (HSL.out _).mono ?_
    rintro _ w1 ⟨rfl, hx1⟩
    have k0 := hx1.cell g0
    have k1 := hx1.cell g1
    have kf0 : w1.frozen? ⟨w.heap.size, 0, none⟩ = false := by rw [hx1.froz]; exact gf0
    have kf1 : w1.frozen? ⟨w.heap.size, 1, none⟩ = false := by rw [hx1.froz]; exact gf1
    have HX1 := hide (HX0.out.trans hx1)
    clear hx1 g0 g1 gf0 gf1 HSL HX0
    rcases HJ.out with ⟨q1, rfl⟩ | ⟨q1, rfl⟩
    · go_wp2_with fail
      simp [bodyPost, results, Oacg.results56, go_sem, *]
      exact (HX1.out.setCell (Nat.le_refl _) _).setCell (Nat.le_refl _) _
    · go_wp2_with fail
      simp [bodyPost, results, Oacg.results56, go_sem, *]
      exact ((HX1.out.setCell (Nat.le_refl _) _).setCell (Nat.le_refl _) _).setCell (Nat.le_refl _) _
end Go.Proofs.YgcoacGreat
