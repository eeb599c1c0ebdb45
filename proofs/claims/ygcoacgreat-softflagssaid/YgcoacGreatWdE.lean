/-
  wide.divHalf, Div.
-/
import Derived.Test.YgcoacGreatWdD
namespace Go.Proofs.YgcoacGreat
open Go.RowKit
set_option linter.unusedSimpArgs false
set_option linter.unusedVariables false

theorem or_limbsw {a b : Nat} (ha : a < 4294967296) (hb : b < 4294967296) : Go.bits BinOp.or IntKind.u64 (IntKind.u64.wrap ((a : Int) * 4294967296)) (b : Int) = ((a * 4294967296 + b : Nat) : Int) := by
  rw [show IntKind.u64.wrap ((a : Int) * 4294967296) = (a : Int) * 4294967296 by rw [wu64]; omega]
  exact or_limbs ha hb
/-! ### The half's plain law -/
structure DH (hi nx d d1 d0 q rest : Nat) : Prop where
  d_eq : d = d1 * 4294967296 + d0
  d0_lt : d0 < 4294967296
  d1_ge : 2147483648 ≤ d1
  d1_lt : d1 < 4294967296
  hi_lt : hi < d
  nx_lt : nx < 4294967296
  eq : q * d1 + rest = hi
  ge : (hi * 4294967296 + nx) / d ≤ q
  le : q ≤ 4294967297
theorem DH.qlt {hi nx d d1 d0 q rest : Nat} (h : DH hi nx d d1 d0 q rest) : (hi * 4294967296 + nx) / d < 4294967296 := by
  have h1 := h.hi_lt; have h2 := h.nx_lt
  rw [Nat.div_lt_iff_lt_mul (by omega)]
  have : (hi + 1) * 4294967296 ≤ d * 4294967296 := Nat.mul_le_mul_right _ h1
  omega
theorem DH.test {hi nx d d1 d0 q rest : Nat} (h : DH hi nx d d1 d0 q rest) : rest * 4294967296 + nx < q * d0 ↔ (hi * 4294967296 + nx) / d < q := by
  have h1 := h.hi_lt
  rw [Nat.div_lt_iff_lt_mul (by omega), h.d_eq, ← h.eq]
  have e : q * (d1 * 4294967296 + d0) = q * d1 * 4294967296 + q * d0 := by rw [Nat.mul_add, Nat.mul_assoc]
  rw [e]
  generalize q * d1 = A
  generalize q * d0 = B
  omega
theorem DH.step {hi nx d d1 d0 q rest : Nat} (h : DH hi nx d d1 d0 q rest) (hq : (hi * 4294967296 + nx) / d < q) : DH hi nx d d1 d0 (q - 1) (rest + d1) := by
  obtain ⟨q', rfl⟩ : ∃ q', q = q' + 1 := ⟨q - 1, by have := Nat.lt_of_le_of_lt (Nat.zero_le _) hq; omega⟩
  refine ⟨h.d_eq, h.d0_lt, h.d1_ge, h.d1_lt, h.hi_lt, h.nx_lt, ?_, by omega, by have := h.le; omega⟩
  have := h.eq
  rw [Nat.add_mul] at this
  rw [Nat.add_sub_cancel]
  omega
theorem DH.over {hi nx d d1 d0 q rest : Nat} (h : DH hi nx d d1 d0 q rest) (hr : 4294967296 ≤ rest) (hq : q ≤ 4294967296) : q = (hi * 4294967296 + nx) / d := by
  have h1 := h.ge
  have h2 := h.test
  have h3 : q * d0 ≤ 4294967296 * 4294967295 := Nat.mul_le_mul hq (by have := h.d0_lt; omega)
  omega
theorem DH.start {hi nx d : Nat} (h : hi < d) (hn : nx < 4294967296) (hd : 9223372036854775808 ≤ d) (hd2 : d < 18446744073709551616) :
    DH hi nx d (d / 4294967296) (d % 4294967296) (hi / (d / 4294967296)) (hi % (d / 4294967296)) := by
  have ed : d = d / 4294967296 * 4294967296 + d % 4294967296 := by omega
  have l0 : d % 4294967296 < 4294967296 := Nat.mod_lt _ (by decide)
  have l1 : 2147483648 ≤ d / 4294967296 := by omega
  have l2 : d / 4294967296 < 4294967296 := by omega
  generalize d / 4294967296 = d1 at *
  generalize d % 4294967296 = d0 at *
  have e1 := Nat.div_add_mod hi d1
  have e2 := Nat.mod_lt hi (show d1 > 0 by omega)
  rw [Nat.mul_comm] at e1
  have e3 : hi / d1 < 4294967298 := by
    rw [Nat.div_lt_iff_lt_mul (by omega)]
    omega
  refine ⟨ed, l0, l1, l2, h, hn, e1, ?_, by omega⟩
  generalize hi / d1 = q at *
  generalize hi % d1 = r at *
  refine Nat.le_of_lt_succ ?_
  rw [Nat.div_lt_iff_lt_mul (by omega), ed, ← e1]
  have e4 : (q + 1) * (d1 * 4294967296 + d0) = q * d1 * 4294967296 + d1 * 4294967296 + (q + 1) * d0 := by rw [Nat.mul_add, Nat.add_mul, Nat.add_mul, Nat.one_mul, Nat.mul_assoc]
  rw [show Nat.succ q = q + 1 from rfl, e4]
  generalize q * d1 = A at *
  generalize (q + 1) * d0 = B at *
  omega

set_option maxRecDepth 20000 in
set_option maxHeartbeats 1000000 in
theorem divHalf_any (hi nx d : Nat) (h : hi < d) (hn : nx < 4294967296) (hd : 9223372036854775808 ≤ d) (hd2 : d < 18446744073709551616) (w : World) :
    Calls Oacg.prog 88 #[.int .u64 (hi : Int), .int .u64 (nx : Int), .int .u64 (d : Int)] w fun r w' =>
      r = .returned (.tuple #[.int .u64 (((hi * 4294967296 + nx) / d : Nat) : Int), .int .u64 (((hi * 4294967296 + nx) % d : Nat) : Int)]) ∧ Ext w w' := by
  have HD := DH.start h hn hd hd2
  obtain ⟨q0, hq0⟩ : ∃ x, hi / (d / 4294967296) = x := ⟨_, rfl⟩
  obtain ⟨r0, hr0⟩ : ∃ x, hi % (d / 4294967296) = x := ⟨_, rfl⟩
  have hrl : r0 < 4294967296 := by
    have := Nat.mod_lt hi (show d / 4294967296 > 0 by omega)
    omega
  obtain ⟨d1, hd1⟩ : ∃ x, d / 4294967296 = x := ⟨_, rfl⟩
  obtain ⟨d0, hd0⟩ : ∃ x, d % 4294967296 = x := ⟨_, rfl⟩
  rw [hq0, hr0, hd1, hd0] at HD
  rw [hd1] at hq0 hr0
  have f1 : (d : Int) / 4294967296 = (d1 : Int) := by omega
  have f2 : Go.bits BinOp.and IntKind.u64 (d : Int) 4294967295 = (d0 : Int) := by rw [and_low32 hd2, hd0]
  have f3 : (hi : Int) / (d1 : Int) = (q0 : Int) := by rw [← hq0]; rfl
  have f4 : (hi : Int) % (d1 : Int) = (r0 : Int) := by rw [← hr0]; rfl
  have hz : ((d1 : Int) == 0) = false := by rw [beq_eq_false_iff_ne]; have := HD.d1_ge; omega
  have hz1 : ¬ ((d1 : Int) = 0) := by have := HD.d1_ge; omega
  have hz2 : ¬ (d1 = 0) := by omega
  have hz3 : ((d1 : Int) ≠ 0) := hz1
  have hz4 : (0 : Int) < (d1 : Int) := by omega
  have f5 : Int.tmod (hi : Int) (d1 : Int) = (r0 : Int) := by rw [← hr0]; rfl
  have f6 : IntKind.u64.wrap (q0 : Int) = (q0 : Int) := by rw [wu64]; have := HD.le; omega
  obtain ⟨Q, hQ⟩ : ∃ x, (hi * 4294967296 + nx) / d = x := ⟨_, rfl⟩
  obtain ⟨R, hR⟩ : ∃ x, (hi * 4294967296 + nx) % d = x := ⟨_, rfl⟩
  rw [hQ, hR]
  have HE : Box (IntKind.u64.wrap (IntKind.u64.wrap (IntKind.u64.wrap ((hi : Int) * 4294967296) + (nx : Int)) - IntKind.u64.wrap ((Q : Int) * (d : Int))) = (R : Int)) := by
    constructor
    have e := Nat.div_add_mod (hi * 4294967296 + nx) d
    rw [hQ, hR, Nat.mul_comm] at e
    have l := Nat.mod_lt (hi * 4294967296 + nx) (show d > 0 by omega)
    rw [hR] at l
    rw [wu64, wu64, wu64, wu64, ← Int.natCast_mul]
    generalize Q * d = P at *
    omega
  have HDB := Box.mk HD
  have HQ := Box.mk hQ
  have HRL := Box.mk hrl
  clear hQ hR HD hq0 hr0 hd0 hd1 hrl h hn hd hd2
  go_enter Oacg.func88, Oacg.ntmps88
  go_wp2
  go_cut [6, 10] (fun v6 v10 wx => v6 = .int .u64 (q0 : Int) ∧ v10 = .int .u64 (r0 : Int) ∧ Hid (Ext w wx))
  case first =>
    go_region_held3 (fun w' => True) (exact True.intro) (fail)
    all_goals go_wp2
    all_goals go_meet
    all_goals exact ⟨rfl, rfl, (Ext.refl w).drew⟩
  case rest =>
    obtain ⟨rfl, rfl, HX⟩ := hcut
    clear f3 f4 f5 f6 f1 f2 hz
    go_wp2
    go_loop [6, 10] (fun vq vr => ∃ q r : Nat, vq = .int .u64 (q : Int) ∧ vr = .int .u64 (r : Int) ∧ Box (r < 4294967296) ∧ Box (DH hi nx d d1 d0 q r)) (fun vq _ => (intOf vq).toNat)
    case atStart => exact ⟨q0, r0, rfl, rfl, HRL, HDB⟩
    case round =>
      obtain ⟨q, r, rfl, rfl, HR, HI⟩ := hrel
      have HT := Box.mk HI.out.test
      rw [HQ.out] at HT
      have HQL := Box.mk HI.out.qlt
      rw [HQ.out] at HQL
      have HGE := Box.mk HI.out.ge
      rw [HQ.out] at HGE
      obtain ⟨Z, hZ⟩ : ∃ Z : Int, ((q : Nat) : Int) = Z := ⟨_, rfl⟩
      obtain ⟨Y, hY⟩ : ∃ Z : Int, ((r : Nat) : Int) = Z := ⟨_, rfl⟩
      rw [hZ, hY]
      have HZ := Box.mk hZ
      have HY := Box.mk hY
      by_cases c0 : Q < q
      · have HS := Box.mk (HI.out.step (by rw [HQ.out]; exact c0))
        obtain ⟨q', rfl⟩ : ∃ q', q = q' + 1 := ⟨q - 1, by omega⟩
        rw [Nat.add_sub_cancel] at HS
        have s1 : IntKind.u64.wrap (Z - 1) = (q' : Int) := by rw [wu64]; have := HI.out.le; omega
        have s2 : IntKind.u64.wrap (Y + (d1 : Int)) = ((r + d1 : Nat) : Int) := by rw [wu64]; have := HR.out; have := HI.out.d1_lt; omega
        obtain ⟨Y2, hY2⟩ : ∃ Z : Int, ((r + d1 : Nat) : Int) = Z := ⟨_, rfl⟩
        rw [hY2] at s2
        have HY2 := Box.mk hY2
        obtain ⟨Z2, hZ2⟩ : ∃ Z : Int, ((q' : Nat) : Int) = Z := ⟨_, rfl⟩
        rw [hZ2] at s1
        have HZ2 := Box.mk hZ2
        have HM : Box (4294967295 < Y2 → q' = Q) := ⟨fun h => by rw [← HQ.out]; exact HS.out.over (by omega) (by have := HI.out.le; omega)⟩
        clear hZ hY hZ2 hY2
        by_cases c1 : 4294967296 ≤ q' + 1
        · have c2 : (4294967295 : Int) < Z := by have := HZ.out; omega
          clear c1 c0
          go_wp2
          all_goals first
            | (case roundEnd =>
                refine ⟨⟨q', r + d1, by rw [HZ2.out], by rw [HY2.out], ⟨?_⟩, HS⟩, ?_⟩
                · have := HY2.out; omega
                · have := HZ2.out; have := HZ.out; simp only [intOf]; omega)
            | (have e1 := HM.out ‹_›
               have e2 := HZ2.out
               subst e1 e2
               have e3 := HE.out
               simp [bodyPost, results, Oacg.results88, go_sem]
               exact ⟨e3, HX.out⟩)
        · have c2 : ¬ (4294967295 : Int) < Z := by have := HZ.out; omega
          have hml : (q' + 1) * d0 < 18446744073709551616 := by
            have := mul_lim (x := q' + 1) (y := d0) (by omega) HI.out.d0_lt
            omega
          obtain ⟨P, hP⟩ : ∃ P : Int, P = (((q' + 1) * d0 : Nat) : Int) := ⟨_, rfl⟩
          obtain ⟨S, hS⟩ : ∃ P : Int, P = ((r * 4294967296 + nx : Nat) : Int) := ⟨_, rfl⟩
          have t1 : IntKind.u64.wrap (Z * (d0 : Int)) = P := by
            rw [← HZ.out, ← Int.natCast_mul, wu64, hP]; omega
          have t2 : Go.bits BinOp.or IntKind.u64 (IntKind.u64.wrap (Y * 4294967296)) (nx : Int) = S := by
            rw [← HY.out, hS]
            exact or_limbsw HR.out HI.out.nx_lt
          have t3 : S < P := by have := HT.out.2 c0; omega
          clear hml hP hS c1 c0
          go_wp2
          all_goals first
            | (case roundEnd =>
                refine ⟨⟨q', r + d1, by rw [HZ2.out], by rw [HY2.out], ⟨?_⟩, HS⟩, ?_⟩
                · have := HY2.out; omega
                · have := HZ2.out; have := HZ.out; simp only [intOf]; omega)
            | (have e1 := HM.out ‹_›
               have e2 := HZ2.out
               subst e1 e2
               have e3 := HE.out
               simp [bodyPost, results, Oacg.results88, go_sem]
               exact ⟨e3, HX.out⟩)
      · have e0 : q = Q := by have := HGE.out; omega
        have c2 : ¬ (4294967295 : Int) < Z := by have := HQL.out; omega
        have hml : q * d0 < 18446744073709551616 := by
          have := mul_lim (x := q) (y := d0) (by have := HQL.out; omega) HI.out.d0_lt
          omega
        obtain ⟨P, hP⟩ : ∃ P : Int, P = ((q * d0 : Nat) : Int) := ⟨_, rfl⟩
        obtain ⟨S, hS⟩ : ∃ P : Int, P = ((r * 4294967296 + nx : Nat) : Int) := ⟨_, rfl⟩
        have t1 : IntKind.u64.wrap (Z * (d0 : Int)) = P := by
          rw [← HZ.out, ← Int.natCast_mul, wu64, hP]; omega
        have t2 : Go.bits BinOp.or IntKind.u64 (IntKind.u64.wrap (Y * 4294967296)) (nx : Int) = S := by
          rw [← HY.out, hS]
          exact or_limbsw HR.out HI.out.nx_lt
        have t3 : ¬ S < P := by have := (not_congr HT.out).2 c0; omega
        clear hml hP hS c0 hZ hY
        go_wp2
        subst e0
        have e2 := HZ.out
        subst e2
        have e3 := HE.out
        simp [bodyPost, results, Oacg.results88, go_sem]
        exact ⟨e3, HX.out⟩
end Go.Proofs.YgcoacGreat
