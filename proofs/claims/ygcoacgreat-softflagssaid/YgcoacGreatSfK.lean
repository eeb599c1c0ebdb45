/-
  soft.sum.
-/
import Derived.Test.YgcoacGreatSfJ
namespace Go.Proofs.YgcoacGreat
open Go.RowKit
set_option linter.unusedSimpArgs false
set_option linter.unusedVariables false

/-- sum's world: the format, the greater number, the lesser one. -/
structure SW (w wr : World) (e m : Nat) (n1 : Bool) (x1 H1 L1 : Int) (n2 : Bool) (x2 H2 L2 : Int) : Prop where
  ext : Ext w wr
  f : Cells2 wr w.heap.size e m
  a : Pt4 wr (w.heap.size + 1) (.bool n1) (.int .i16 x1) (.int .u64 H1) (.int .u64 L1)
  b : Pt4 wr (w.heap.size + 1 + 1) (.bool n2) (.int .i16 x2) (.int .u64 H2) (.int .u64 L2)
  fa : ∀ i, wr.frozen? ⟨w.heap.size + 1, i, none⟩ = false
  fb : ∀ i, wr.frozen? ⟨w.heap.size + 1 + 1, i, none⟩ = false
theorem SW.next {w wr wx : World} {e m : Nat} {n1 : Bool} {x1 H1 L1 : Int} {n2 : Bool} {x2 H2 L2 : Int} (h : SW w wr e m n1 x1 H1 L1 n2 x2 H2 L2) (x : Ext wr wx) : SW w wx e m n1 x1 H1 L1 n2 x2 H2 L2 :=
  ⟨h.ext.trans x, h.f.ext x, h.a.ext x, h.b.ext x, fun i => by rw [x.froz]; exact h.fa i, fun i => by rw [x.froz]; exact h.fb i⟩
theorem SW.start (w : World) (e m : Nat) (n1 : Bool) (x1 H1 L1 : Int) (n2 : Bool) (x2 H2 L2 : Int) : SW w (((w.alloc (.cells #[.int .u8 (e : Int), .int .u8 (m : Int)] 23)).alloc (.cells #[.bool n1, .int .i16 x1, .int .u64 H1, .int .u64 L1] 119)).alloc (.cells #[.bool n2, .int .i16 x2, .int .u64 H2, .int .u64 L2] 119)) e m n1 x1 H1 L1 n2 x2 H2 L2 := by
  refine ⟨ext3, ⟨?_, ?_⟩, ⟨?_, ?_, ?_, ?_⟩, ⟨?_, ?_, ?_, ?_⟩, fun i => ?_, fun i => ?_⟩
  all_goals simp [go_sem]

set_option maxHeartbeats 1000000 in
theorem SW.swap {w wr : World} {e m : Nat} {n1 : Bool} {x1 H1 L1 : Int} {n2 : Bool} {x2 H2 L2 : Int} (h : SW w wr e m n1 x1 H1 L1 n2 x2 H2 L2) :
    SW w ((((((((wr.setCell ⟨w.heap.size + 1, 0, none⟩ (.bool n2)).setCell ⟨w.heap.size + 1, 1, none⟩ (.int .i16 x2)).setCell ⟨w.heap.size + 1, 2, none⟩ (.int .u64 H2)).setCell ⟨w.heap.size + 1, 3, none⟩ (.int .u64 L2)).setCell ⟨w.heap.size + 1 + 1, 0, none⟩ (.bool n1)).setCell ⟨w.heap.size + 1 + 1, 1, none⟩ (.int .i16 x1)).setCell ⟨w.heap.size + 1 + 1, 2, none⟩ (.int .u64 H1)).setCell ⟨w.heap.size + 1 + 1, 3, none⟩ (.int .u64 L1)) e m n2 x2 H2 L2 n1 x1 H1 L1 := by
  obtain ⟨h1, ⟨f0, f1⟩, ⟨a0, a1, a2, a3⟩, ⟨b0, b1, b2, b3⟩, fa, fb⟩ := h
  refine ⟨?_, ⟨?_, ?_⟩, ⟨?_, ?_, ?_, ?_⟩, ⟨?_, ?_, ?_, ?_⟩, fun i => ?_, fun i => ?_⟩
  · repeat (refine Ext.setCell ?_ (show w.heap.size ≤ _ by simp only []; omega) _)
    exact h1
  all_goals simp [go_sem, f0, f1, a0, a1, a2, a3, b0, b1, b2, b3, fa, fb]
set_option maxHeartbeats 1000000 in
theorem SW.setB {w wr : World} {e m : Nat} {n1 : Bool} {x1 H1 L1 : Int} {n2 : Bool} {x2 H2 L2 : Int} (h : SW w wr e m n1 x1 H1 L1 n2 x2 H2 L2) (H L : Int) :
    SW w ((wr.setCell ⟨w.heap.size + 1 + 1, 2, none⟩ (.int .u64 H)).setCell ⟨w.heap.size + 1 + 1, 3, none⟩ (.int .u64 L)) e m n1 x1 H1 L1 n2 x2 H L := by
  obtain ⟨h1, ⟨f0, f1⟩, ⟨a0, a1, a2, a3⟩, ⟨b0, b1, b2, b3⟩, fa, fb⟩ := h
  refine ⟨?_, ⟨?_, ?_⟩, ⟨?_, ?_, ?_, ?_⟩, ⟨?_, ?_, ?_, ?_⟩, fun i => ?_, fun i => ?_⟩
  · repeat (refine Ext.setCell ?_ (show w.heap.size ≤ _ by simp only []; omega) _)
    exact h1
  all_goals simp [go_sem, f0, f1, a0, a1, a2, a3, b0, b1, b2, b3, fa, fb]
set_option maxHeartbeats 1000000 in
theorem SW.setA {w wr : World} {e m : Nat} {n1 : Bool} {x1 H1 L1 : Int} {n2 : Bool} {x2 H2 L2 : Int} (h : SW w wr e m n1 x1 H1 L1 n2 x2 H2 L2) (H L : Int) :
    SW w ((wr.setCell ⟨w.heap.size + 1, 2, none⟩ (.int .u64 H)).setCell ⟨w.heap.size + 1, 3, none⟩ (.int .u64 L)) e m n1 x1 H L n2 x2 H2 L2 := by
  obtain ⟨h1, ⟨f0, f1⟩, ⟨a0, a1, a2, a3⟩, ⟨b0, b1, b2, b3⟩, fa, fb⟩ := h
  refine ⟨?_, ⟨?_, ?_⟩, ⟨?_, ?_, ?_, ?_⟩, ⟨?_, ?_, ?_, ?_⟩, fun i => ?_, fun i => ?_⟩
  · repeat (refine Ext.setCell ?_ (show w.heap.size ≤ _ by simp only []; omega) _)
    exact h1
  all_goals simp [go_sem, f0, f1, a0, a1, a2, a3, b0, b1, b2, b3, fa, fb]
theorem or_zero_iff {a b : Nat} : a ||| b = 0 ↔ a = 0 ∧ b = 0 := Nat.or_eq_zero_iff
theorem uor_zero {S : Nat} (hS : S < 340282366920938463463374607431768211456) : (Go.bits BinOp.or IntKind.u64 ((S / 18446744073709551616 : Nat) : Int) ((S % 18446744073709551616 : Nat) : Int) == 0) = decide (S = 0) := by
  rw [u64_or_nat _ _ (by omega) (by omega), Bool.eq_iff_iff, beq_iff_eq, decide_eq_true_iff]
  constructor
  · intro hh
    have h2 : S / 18446744073709551616 ||| S % 18446744073709551616 = 0 := by omega
    rw [or_zero_iff] at h2
    omega
  · intro hh; subst hh; rfl

set_option maxRecDepth 20000 in
set_option maxHeartbeats 4000000 in
theorem sum_any (e m : Nat) (h : Fm e m) (mode : Int) (na nb : Bool) (xa xb : Int) (ha1 : -5000 ≤ xa) (ha2 : xa ≤ 5000) (hb1 : -5000 ≤ xb) (hb2 : xb ≤ 5000) (A B : Nat) (hA : Nb A) (hB : Nb B) (w : World) :
    Calls Oacg.prog 86 #[.agg #[.int .u8 (e : Int), .int .u8 (m : Int)], .int .u8 mode, nbV na xa A, nbV nb xb B] w fun r w' =>
      r = .returned (.tuple #[.int .u64 ((sumP e m mode na xa A nb xb B).1 : Int), .int .u8 (sumP e m mode na xa A nb xb B).2]) ∧ Ext w w' := by
  have hok := okB_fm h
  have HCM := hide (wCmp_any A B)
  have HAL := hA.hi
  have HBL := hB.hi
  -- the greater one first
  obtain ⟨n1, x1, A1, n2, x2, B1, hsw, hP, nA, nB, hAB, hx21, hxl, hxg⟩ : ∃ (n1 : Bool) (x1 : Int) (A1 : Nat) (n2 : Bool) (x2 : Int) (B1 : Nat),
      (((xa < xb ∨ (xa = xb ∧ A < B)) ∧ n1 = nb ∧ x1 = xb ∧ A1 = B ∧ n2 = na ∧ x2 = xa ∧ B1 = A) ∨ (¬ (xa < xb ∨ (xa = xb ∧ A < B)) ∧ n1 = na ∧ x1 = xa ∧ A1 = A ∧ n2 = nb ∧ x2 = xb ∧ B1 = B)) ∧
      sumP e m mode na xa A nb xb B = sumO e m mode n1 x1 A1 n2 B1 (x1 - x2).toNat ∧ Nb A1 ∧ Nb B1 ∧ ((x1 - x2).toNat = 0 → B1 ≤ A1) ∧ x2 ≤ x1 ∧ -5000 ≤ x2 ∧ x1 ≤ 5000 := by
    by_cases hc : xa < xb ∨ (xa = xb ∧ A < B)
    · refine ⟨nb, xb, B, na, xa, A, .inl ⟨hc, rfl, rfl, rfl, rfl, rfl, rfl⟩, ?_, hB, hA, by omega, by omega, by omega, by omega⟩
      unfold sumP; rw [if_pos hc]
    · refine ⟨na, xa, A, nb, xb, B, .inr ⟨hc, rfl, rfl, rfl, rfl, rfl, rfl⟩, ?_, hA, hB, by omega, by omega, by omega, by omega⟩
      unfold sumP; rw [if_neg hc]
  rw [hP]
  obtain ⟨P, hPd⟩ : ∃ P, sumO e m mode n1 x1 A1 n2 B1 (x1 - x2).toNat = P := ⟨_, rfl⟩
  rw [hPd]
  have HPP := Box.mk hPd
  clear hPd
  obtain ⟨HA, hHA⟩ : ∃ x : Int, ((A / 18446744073709551616 : Nat) : Int) = x := ⟨_, rfl⟩
  obtain ⟨LA, hLA⟩ : ∃ x : Int, ((A % 18446744073709551616 : Nat) : Int) = x := ⟨_, rfl⟩
  obtain ⟨HB, hHB⟩ : ∃ x : Int, ((B / 18446744073709551616 : Nat) : Int) = x := ⟨_, rfl⟩
  obtain ⟨LB, hLB⟩ : ∃ x : Int, ((B % 18446744073709551616 : Nat) : Int) = x := ⟨_, rfl⟩
  obtain ⟨H1, hH1⟩ : ∃ x : Int, ((A1 / 18446744073709551616 : Nat) : Int) = x := ⟨_, rfl⟩
  obtain ⟨L1, hL1⟩ : ∃ x : Int, ((A1 % 18446744073709551616 : Nat) : Int) = x := ⟨_, rfl⟩
  obtain ⟨H2, hH2⟩ : ∃ x : Int, ((B1 / 18446744073709551616 : Nat) : Int) = x := ⟨_, rfl⟩
  obtain ⟨L2, hL2⟩ : ∃ x : Int, ((B1 % 18446744073709551616 : Nat) : Int) = x := ⟨_, rfl⟩
  obtain ⟨SWP, hSWP⟩ : ∃ b : Bool, decide (xa < xb ∨ (xa = xb ∧ A < B)) = b := ⟨_, rfl⟩
  have HSW : Box ((SWP = true ∧ n1 = nb ∧ x1 = xb ∧ H1 = HB ∧ L1 = LB ∧ n2 = na ∧ x2 = xa ∧ H2 = HA ∧ L2 = LA) ∨ (SWP = false ∧ n1 = na ∧ x1 = xa ∧ H1 = HA ∧ L1 = LA ∧ n2 = nb ∧ x2 = xb ∧ H2 = HB ∧ L2 = LB)) := by
    constructor
    rcases hsw with ⟨hc, r1, r2, r3, r4, r5, r6⟩ | ⟨hc, r1, r2, r3, r4, r5, r6⟩
    · left
      subst r3 r6
      exact ⟨by rw [← hSWP]; exact decide_eq_true hc, r1, r2, by omega, by omega, r4, r5, by omega, by omega⟩
    · right
      subst r3 r6
      exact ⟨by rw [← hSWP]; exact decide_eq_false hc, r1, r2, by omega, by omega, r4, r5, by omega, by omega⟩
  have HCD : Box ((xa < xb ∧ SWP = true) ∨ (¬ xa < xb ∧ (xa == xb) = false ∧ SWP = false) ∨ (¬ xa < xb ∧ (xa == xb) = true ∧ decide (cmpI A B < 0) = SWP)) := by
    constructor
    rw [← hSWP]
    rcases Int.lt_trichotomy xa xb with hc | hc | hc
    · left; exact ⟨hc, decide_eq_true (.inl hc)⟩
    · right; right
      refine ⟨by omega, by rw [beq_iff_eq]; exact hc, ?_⟩
      rw [decide_eq_decide]
      unfold cmpI
      split
      · omega
      · split <;> omega
    · right; left
      exact ⟨by omega, by rw [beq_eq_false_iff_ne]; omega, decide_eq_false (by omega)⟩
  generalize cmpI A B = cm at *
  unfold nbV uV at *
  rw [hHA, hLA, hHB, hLB] at HCM ⊢
  clear hsw hHA hLA hHB hLB hSWP HAL HBL hA hB ha1 ha2 hb1 hb2 hP
  go_enter Oacg.func86, Oacg.ntmps86
  have HS0 := hide (SW.start w e m na xa HA LA nb xb HB LB)
  obtain ⟨W0, hW0⟩ : ∃ W0, W0 = (((w.alloc (.cells #[.int .u8 (e : Int), .int .u8 (m : Int)] 23)).alloc (.cells #[.bool na, .int .i16 xa, .int .u64 HA, .int .u64 LA] 119)).alloc (.cells #[.bool nb, .int .i16 xb, .int .u64 HB, .int .u64 LB] 119)) := ⟨_, rfl⟩
  rw [← hW0] at HS0
  go_upto_region 1 with fail
  rw [← hW0]
  clear hW0
  obtain ⟨p0, p1, p2, p3⟩ := HS0.out.a
  obtain ⟨q0, q1, q2, q3⟩ := HS0.out.b
  go_cut [33] (fun v wx => v = .bool SWP ∧ Hid (Ext W0 wx))
  case first =>
    rcases HCD.out with ⟨t1, t2⟩ | ⟨t1, t2, t3⟩ | ⟨t1, t2, t3⟩
    · subst t2
      go_wp2_with fail
      go_meet
      exact ⟨rfl, Ext.refl _⟩
    · subst t3
      go_wp2_with fail
      go_meet
      exact ⟨rfl, Ext.refl _⟩
    · go_wp2_with fail
      refine (HCM.out _).mono ?_
      rintro _ w2 ⟨rfl, hx2⟩
      have HX2 := hide hx2
      clear hx2
      go_wp2_with fail
      go_meet
      exact ⟨rfl, HX2⟩
  case rest =>
    obtain ⟨rfl, HX1⟩ := hcut
    have HS1 := hide (HS0.out.next HX1.out)
    clear HS0 HX1 HCM HCD p0 p1 p2 p3 q0 q1 q2 q3
    obtain ⟨p0, p1, p2, p3⟩ := HS1.out.a
    obtain ⟨q0, q1, q2, q3⟩ := HS1.out.b
    have fa0 := HS1.out.fa 0
    have fa1 := HS1.out.fa 1
    have fa2 := HS1.out.fa 2
    have fa3 := HS1.out.fa 3
    have fb0 := HS1.out.fb 0
    have fb1 := HS1.out.fb 1
    have fb2 := HS1.out.fb 2
    have fb3 := HS1.out.fb 3
    go_upto_if 33 with fail
    go_cut [33] (fun v wx => Hid (SW w wx e m n1 x1 H1 L1 n2 x2 H2 L2))
    case first =>
      rcases HSW.out with ⟨rfl, rfl, rfl, rfl, rfl, rfl, rfl, rfl, rfl⟩ | ⟨rfl, rfl, rfl, rfl, rfl, rfl, rfl, rfl, rfl⟩
      · go_wp2_with fail
        go_meet
        exact HS1.out.swap
      · go_wp2_with fail
        go_meet
        exact HS1
    case rest =>
      have HS2 := hcut
      clear HS1 HSW p0 p1 p2 p3 q0 q1 q2 q3 fa0 fa1 fa2 fa3 fb0 fb1 fb2 fb3
      obtain ⟨d, hd⟩ : ∃ d, (x1 - x2).toNat = d := ⟨_, rfl⟩
      rw [hd] at hAB
      rw [hd] at HPP
      have hxd : x1 - x2 = (d : Int) := by omega
      have c1 : IntKind.i16.wrap (x1 - x2) = (d : Int) := by rw [wi16]; omega
      obtain ⟨g, hg⟩ : ∃ g, min d 255 = g := ⟨_, rfl⟩
      have HG : Box (((d : Int) ≤ 255 ∧ g = d) ∨ (¬ (d : Int) ≤ 255 ∧ g = 255)) := ⟨by omega⟩
      have hg2 : g ≤ 255 := by omega
      have c2 : IntKind.u8.wrap (g : Int) = (g : Int) := by simp [IntKind.wrap, IntKind.bits, IntKind.signed]; omega
      have HSJ := hide (shrJam_any B1 (by have := nB.hi; omega) g hg2)
      have hSl := sumS_lt (n1 == n2) nA nB hAB
      obtain ⟨hJle, _⟩ := jamN_facts nA nB hAB
      have hSdef : sumS (n1 == n2) A1 B1 d = if (n1 == n2) = true then A1 + jamN B1 (min d 255) else A1 - jamN B1 (min d 255) := rfl
      rw [hg] at hSdef hJle
      unfold sumO at HPP
      obtain ⟨S, hSv⟩ : ∃ S, sumS (n1 == n2) A1 B1 d = S := ⟨_, rfl⟩
      rw [hSv] at hSdef hSl HPP
      obtain ⟨J, hJ⟩ : ∃ J, jamN B1 g = J := ⟨_, rfl⟩
      rw [hJ] at hSdef hJle HSJ
      have HAD : Box ((n1 == n2) = true → ∀ w, Calls Oacg.prog 100 #[uV A1, uV J] w fun r w' => r = .returned (.tuple #[uV S, .bool false]) ∧ Ext w w') := ⟨fun hh => by
        rw [if_pos hh] at hSdef
        rw [hSdef] at hSl ⊢
        exact wAdd_any A1 J (by omega)⟩
      have HSB : Box (¬ (n1 == n2) = true → ∀ w, Calls Oacg.prog 101 #[uV A1, uV J] w fun r w' => r = .returned (.tuple #[uV S, .bool false]) ∧ Ext w w') := ⟨fun hh => by
        rw [if_neg hh] at hSdef
        rw [hSdef]
        exact wSub_any A1 J (by have := nA.hi; omega) hJle⟩
      have HC2 := hide (wCmp_any A1 J)
      have hcm : decide (cmpI A1 J < 0) = false := by
        unfold cmpI
        rw [if_neg (by omega)]
        split <;> rfl
      generalize cmpI A1 J = cm2 at *
      have hoz := uor_zero hSl
      have HJM := hide (jam_any S hSl x1 (by omega) (by omega))
      have hbS : bits S ≤ 128 := bits_le_of_lt hSl
      have HRP := hide (roundPack_any e m h mode n1 (x1 + (bits S : Int) - 64) (by omega) (by omega) (jamS S) (jamS_lt hSl))
      have HRJ := Box.mk (fun h0 => rnd_jam h mode n1 (a := S) h0 hSl x1)
      have HZE := hide (szero_any e m h (mode == 4))
      unfold uV at *
      obtain ⟨HJ, hHJ⟩ : ∃ x : Int, ((J / 18446744073709551616 : Nat) : Int) = x := ⟨_, rfl⟩
      obtain ⟨LJ, hLJ⟩ : ∃ x : Int, ((J % 18446744073709551616 : Nat) : Int) = x := ⟨_, rfl⟩
      obtain ⟨HS, hHS⟩ : ∃ x : Int, ((S / 18446744073709551616 : Nat) : Int) = x := ⟨_, rfl⟩
      obtain ⟨LS, hLS⟩ : ∃ x : Int, ((S % 18446744073709551616 : Nat) : Int) = x := ⟨_, rfl⟩
      rw [hH2, hL2, hHJ, hLJ] at HSJ
      rw [hH1, hL1, hHJ, hLJ, hHS, hLS] at HAD HSB
      rw [hH1, hL1, hHJ, hLJ] at HC2
      rw [hHS, hLS] at hoz HJM
      clear hSdef hSl hSv hJ hJle hbS hHJ hLJ hHS hLS hH1 hL1 hH2 hL2 hg hg2 hxd hd hxl hxg hx21 hAB nA nB
      obtain ⟨p0, p1, p2, p3⟩ := HS2.out.a
      obtain ⟨q0, q1, q2, q3⟩ := HS2.out.b
      go_upto_region 3 with fail
      go_cut [10] (fun v wx => v = .int .i16 (g : Int) ∧ wx = wc)
      case first =>
        rcases HG.out with ⟨t1, t2⟩ | ⟨t1, t2⟩
        · subst t2
          go_wp2_with fail
          go_meet
          exact ⟨rfl, rfl⟩
        · subst t2
          go_wp2_with fail
          go_meet
          exact ⟨rfl, rfl⟩
      case rest =>
        obtain ⟨rfl, rfl⟩ := hcut
        clear HG
        go_wp2_with fail
        refine (HSJ.out _).mono ?_
        rintro _ w2 ⟨rfl, hx2⟩
        have HS3 := hide (HS2.out.next hx2)
        clear hx2 HS2 HSJ p0 p1 p2 p3 q0 q1 q2 q3
        obtain ⟨p0, p1, p2, p3⟩ := HS3.out.a
        obtain ⟨q0, q1, q2, q3⟩ := HS3.out.b
        have fb2 := HS3.out.fb 2
        have fb3 := HS3.out.fb 3
        have HS4 := hide (HS3.out.setB HJ LJ)
        go_upto_if 52 with fail
        obtain ⟨W4, hW4⟩ : ∃ W4, W4 = ((w2.setCell ⟨w.heap.size + 1 + 1, 2, none⟩ (.int .u64 HJ)).setCell ⟨w.heap.size + 1 + 1, 3, none⟩ (.int .u64 LJ)) := ⟨_, rfl⟩
        rw [← hW4] at HS4 ⊢
        clear hW4 HS3 p0 p1 p2 p3 q0 q1 q2 q3 fb2 fb3
        obtain ⟨p0, p1, p2, p3⟩ := HS4.out.a
        obtain ⟨q0, q1, q2, q3⟩ := HS4.out.b
        go_cut [11] (fun v wx => Hid (SW w wx e m n1 x1 HS LS n2 x2 HJ LJ))
        case first =>
          cases hsm : (n1 == n2) with
          | true =>
            have HAD2 := hide (HAD.out hsm)
            go_wp2_with fail
            refine (HAD2.out _).mono ?_
            rintro _ w5 ⟨rfl, hx5⟩
            have HS5 := hide (HS4.out.next hx5)
            clear hx5 HS4 p0 p1 p2 p3 q0 q1 q2 q3
            obtain ⟨p0, p1, p2, p3⟩ := HS5.out.a
            have fa2 := HS5.out.fa 2
            have fa3 := HS5.out.fa 3
            go_wp2_with fail
            go_meet
            exact HS5.out.setA HS LS
          | false =>
            have HSB2 := hide (HSB.out (by rw [hsm]; decide))
            go_wp2_with fail
            refine (HC2.out _).mono ?_
            rintro _ w5 ⟨rfl, hx5⟩
            have HS5 := hide (HS4.out.next hx5)
            clear hx5 HS4 p0 p1 p2 p3 q0 q1 q2 q3
            obtain ⟨p0, p1, p2, p3⟩ := HS5.out.a
            obtain ⟨q0, q1, q2, q3⟩ := HS5.out.b
            go_wp2_with fail
            refine (HSB2.out _).mono ?_
            rintro _ w6 ⟨rfl, hx6⟩
            have HS6 := hide (HS5.out.next hx6)
            clear hx6 HS5 p0 p1 p2 p3 q0 q1 q2 q3
            obtain ⟨p0, p1, p2, p3⟩ := HS6.out.a
            have fa2 := HS6.out.fa 2
            have fa3 := HS6.out.fa 3
            go_wp2_with fail
            go_meet
            exact HS6.out.setA HS LS
        case rest =>
          have HS5 := hcut
          clear HS4 HAD HSB HC2 p0 p1 p2 p3 q0 q1 q2 q3
          obtain ⟨p0, p1, p2, p3⟩ := HS5.out.a
          obtain ⟨f0, f1⟩ := HS5.out.f
          by_cases hS0 : S = 0
          · have hz : (Go.bits BinOp.or IntKind.u64 HS LS == 0) = true := by rw [hoz]; exact decide_eq_true hS0
            have hq := HPP.out
            rw [if_pos hS0] at hq
            subst hq
            clear hoz
            go_wp2_with fail
            refine (HZE.out _).mono ?_
            rintro _ w7 ⟨rfl, hx7⟩
            have HX7 := hide (HS5.out.ext.trans hx7)
            clear hx7
            go_wp2_with fail
            simp [bodyPost, results, Oacg.results86, go_sem]
            exact HX7.out
          · have hz : (Go.bits BinOp.or IntKind.u64 HS LS == 0) = false := by rw [hoz]; exact decide_eq_false hS0
            have hq := HPP.out
            obtain ⟨r1, r2⟩ := HRJ.out (by omega)
            rw [if_neg hS0, r1, r2] at hq
            clear hoz r1 r2 HRJ HPP
            generalize rndV e m mode n1 (shN (jamS S) (x1 + (bits S : Int) - 64)) (shD 1 (x1 + (bits S : Int) - 64)) = rV at *
            generalize rndF e m mode n1 (shN (jamS S) (x1 + (bits S : Int) - 64)) (shD 1 (x1 + (bits S : Int) - 64)) = rF at *
            generalize x1 + (bits S : Int) - 64 = Q at *
            generalize jamS S = JS at *
            subst hq
            go_wp2_with fail
            refine (HJM.out _).mono ?_
            rintro _ w7 ⟨rfl, hx7⟩
            have HS7 := hide (HS5.out.next hx7)
            clear hx7 p0 p1 p2 p3 f0 f1
            obtain ⟨p0, p1, p2, p3⟩ := HS7.out.a
            obtain ⟨f0, f1⟩ := HS7.out.f
            go_wp2_with fail
            refine (HRP.out _).mono ?_
            rintro _ w8 ⟨rfl, hx8⟩
            have HX8 := hide (HS7.out.ext.trans hx8)
            clear hx8
            go_wp2_with fail
            simp [bodyPost, results, Oacg.results86, go_sem]
            exact HX8.out
end Go.Proofs.YgcoacGreat
