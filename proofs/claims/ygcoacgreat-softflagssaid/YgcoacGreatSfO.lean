/-
  soft.SqrtFlags.
-/
import Derived.Test.YgcoacGreatSfN
import Derived.Test.YgcoacGreatSfL
import Derived.Test.YgcoacGreatSqF
import Derived.Test.YgcoacGreatWdI
namespace Go.Proofs.YgcoacGreat
open Go.RowKit
set_option linter.unusedSimpArgs false
set_option linter.unusedVariables false

theorem and1_i16 (x : Int) : Go.bits BinOp.and IntKind.i16 x 1 = x % 2 := by
  show IntKind.i16.wrap ((BitVec.ofInt 16 x &&& BitVec.ofInt 16 1).toNat : Int) = _
  have e1 : (BitVec.ofInt 16 1).toNat = 1 := by decide
  rw [BitVec.toNat_and, BitVec.toNat_ofInt, e1, Nat.and_one_is_mod, wi16]
  omega
theorem msk_zero {e m x : Nat} (hc : cls e m x = 0) : msk e m x = sg e m (pNeg e m x) := by
  have h1 : ef e m x = 0 ∧ ff m x = 0 := by
    unfold cls at hc
    by_cases q1 : ef e m x = 2 ^ e - 1
    · rw [if_pos q1] at hc; revert hc; split <;> omega
    · rw [if_neg q1] at hc
      by_cases q2 : ef e m x = 0
      · rw [if_pos q2] at hc
        by_cases q3 : ff m x = 0
        · exact ⟨q2, q3⟩
        · rw [if_neg q3] at hc; omega
      · rw [if_neg q2] at hc; omega
  rw [ngB_pNeg (by omega)]
  unfold msk sg sgn ngB
  unfold ef ff at h1
  have e1 : x % 2 ^ (e + m + 1) = x % 2 ^ m + 2 ^ m * (x / 2 ^ m % 2 ^ e) + 2 ^ (e + m) * (x / 2 ^ (e + m) % 2) := by
    rw [Nat.pow_succ, Nat.mod_mul, Nat.add_comm e m, Nat.pow_add, Nat.mod_mul]
  rw [e1, h1.1, h1.2]
  rcases Nat.mod_two_eq_zero_or_one (x / 2 ^ (e + m)) with hz | hz
  · rw [hz, decide_eq_false (by decide), if_neg (by decide)]; omega
  · rw [hz, decide_eq_true (by decide), if_pos rfl]; omega
/-- The root's operand, 128 bits, and its half exponent. -/
def sqS (M : Nat) (x : Int) : Nat := if x % 2 = 0 then M * 18446744073709551616 else M * 9223372036854775808
def sqX (x : Int) : Int := if x % 2 = 0 then x / 2 - 32 else (x + 1) / 2 - 32
def sqT (S : Nat) : Nat := stk (isq S) (decide (isq S * isq S = S))
theorem sqS_bd {M : Nat} (h1 : 9223372036854775808 ≤ M) (h2 : M < 18446744073709551616) (x : Int) : 85070591730234615865843651857942052864 ≤ sqS M x ∧ sqS M x < 340282366920938463463374607431768211456 := by
  unfold sqS
  split <;> omega
theorem sqT_lt {S : Nat} (h1 : 85070591730234615865843651857942052864 ≤ S) (h2 : S < 340282366920938463463374607431768211456) : sqT S < 18446744073709551616 := by
  obtain ⟨i1, i2⟩ := isq_bd h1 h2
  exact (stk_bd _ i1 i2).2
/-- The root, in Parts' terms. -/
theorem sqP_parts {e m : Nat} (h : Fm e m) (mode : Int) (a M : Nat) (X : Int) (hM : M = pMan e m a * 2 ^ (63 - m)) (hX : X = pExp e m a - ((63 - m : Nat) : Int)) :
    sqP e m mode a = if cls e m a = 0 then (sg e m (pNeg e m a), 0) else if cls e m a = 4 then (nanV e m, heardF e m a a) else if pNeg e m a = true then (nanV e m, 1) else if cls e m a = 3 then (infV e m false, 0)
      else (rndV e m mode false (shN (sqT (sqS M X)) (sqX X)) (shD 1 (sqX X)), rndF e m mode false (shN (sqT (sqS M X)) (sqX X)) (shD 1 (sqX X))) := by
  have hm2 := h.m2
  unfold sqP
  by_cases c4 : cls e m a = 4
  · rw [if_pos c4, if_neg (by omega), if_pos c4]
  · rw [if_neg c4]
    by_cases c0 : cls e m a = 0
    · rw [if_pos c0, if_pos c0, msk_zero c0]
    · rw [if_neg c0, if_neg c0, if_neg c4, ← ngB_pNeg c4]
      by_cases cn : pNeg e m a = true
      · rw [if_pos cn, if_pos cn]
      · rw [if_neg cn, if_neg cn]
        by_cases c3 : cls e m a = 3
        · rw [if_pos c3, if_pos c3, msk_inf c3]
          rw [Bool.not_eq_true] at cn
          rw [cn]
        · rw [if_neg c3, if_neg c3]
          have hcc := cls_cases e m a
          have hc : cls e m a = 1 ∨ cls e m a = 2 := by omega
          have hmn := (pMan_facts h a).2 hc
          have hn : 0 < vNum e m a := Nat.mul_pos (Nat.lt_of_lt_of_le (two_pos _) hmn) (two_pos _)
          have hM1 : 9223372036854775808 ≤ M := by rw [hM]; exact top_ge (by omega) hmn
          have hM2 : M < 18446744073709551616 := by rw [hM]; exact man_top (by omega) (pMan_bd h a)
          obtain ⟨s1, s2⟩ := sqS_bd hM1 hM2 X
          obtain ⟨r1, r2⟩ := sq_bridge (P := sqX X) (sqOk_of h hc hn) mode s1 s2 (by
            rw [vNum_sh, vDen_sh]
            unfold sqS sqX
            by_cases hp : X % 2 = 0
            · rw [if_pos hp, if_pos hp]
              refine (sc_eq (j := 63 - m + 64) ?_ ?_).symm
              · rw [hM, Nat.pow_add, ← Nat.mul_assoc]
              · omega
            · rw [if_neg hp, if_neg hp]
              refine (sc_eq (j := 63 - m + 63) ?_ ?_).symm
              · rw [hM, Nat.pow_add, ← Nat.mul_assoc]
              · omega)
          unfold sqT
          rw [r1, r2]
structure SQ (w wr : World) (B e m : Nat) (UH UL : Int) : Prop where
  ext : Ext w wr
  f : Cells2 wr w.heap.size e m
  a0 : wr.cell? ⟨B, 0, none⟩ = some (.int .u64 UH)
  a1 : wr.cell? ⟨B, 1, none⟩ = some (.int .u64 UL)
  fa : ∀ i, wr.frozen? ⟨B, i, none⟩ = false
  le : w.heap.size < B
theorem SQ.next {w wr wx : World} {B e m : Nat} {UH UL : Int} (h : SQ w wr B e m UH UL) (x : Ext wr wx) : SQ w wx B e m UH UL :=
  ⟨h.ext.trans x, h.f.ext x, x.cell h.a0, x.cell h.a1, fun i => by rw [x.froz]; exact h.fa i, h.le⟩
theorem SQ.set {w wr : World} {B e m : Nat} {UH UL : Int} (h : SQ w wr B e m UH UL) (H L : Int) : SQ w ((wr.setCell ⟨B, 0, none⟩ (.int .u64 H)).setCell ⟨B, 1, none⟩ (.int .u64 L)) B e m H L := by
  obtain ⟨h1, ⟨f0, f1⟩, a0, a1, fa, le⟩ := h
  have ne : ¬ B = w.heap.size := by omega
  refine ⟨?_, ⟨?_, ?_⟩, ?_, ?_, fun i => ?_, le⟩
  · repeat (refine Ext.setCell ?_ (show w.heap.size ≤ _ by simp only []; omega) _)
    exact h1
  all_goals simp [go_sem, f0, f1, a0, a1, fa, ne]

set_option maxRecDepth 20000 in
set_option maxHeartbeats 4000000 in
theorem ssqrtFlags_any (e m : Nat) (h : Fm e m) (mode : Int) (a : Nat) (ha : a < 18446744073709551616) (w : World) :
    Calls Oacg.prog 7 #[.agg #[.int .u8 (e : Int), .int .u8 (m : Int)], .int .u8 mode, .int .u64 (a : Int)] w fun r w' => r = .returned (.tuple #[.int .u64 ((sqP e m mode a).1 : Int), .int .u8 (sqP e m mode a).2]) ∧ Ext w w' := by
  have hok := okB_fm h
  have hm2 := h.m2
  have HU := hide (unpack_any e m h a ha)
  have HNA := hide (theNaN_any e m h)
  have HHE := hide (sheard_any e m h a a ha ha)
  have HZE := hide (szero_any e m h (pNeg e m a))
  have HIN := hide (inf_any e m h false)
  have hpe := pExp_bd h a
  obtain ⟨M, hM⟩ : ∃ M, M = pMan e m a * 2 ^ (63 - m) := ⟨_, rfl⟩
  obtain ⟨X, hX⟩ : ∃ X, X = pExp e m a - ((63 - m : Nat) : Int) := ⟨_, rfl⟩
  have HTP : Hid (∀ w : World, Calls Oacg.prog 32 #[.agg #[.int .u8 (e : Int), .int .u8 (m : Int)], .agg #[.bool (pNeg e m a), .int .i8 (cls e m a : Int), .int .i16 (pExp e m a), .int .u64 (pMan e m a : Int)]] w fun r w' => r = .returned (.tuple #[.int .u64 (M : Int), .int .i16 X]) ∧ Ext w w') := by
    subst hM hX
    exact top_any e m h (pNeg e m a) (cls e m a : Int) (pExp e m a) (by omega) (by omega) (pMan e m a) (pMan_bd h a)
  have hXb1 : -2000 ≤ X := by omega
  have hXb2 : X ≤ 2000 := by omega
  have HM : Box (cls e m a = 1 ∨ cls e m a = 2 → 9223372036854775808 ≤ M ∧ M < 18446744073709551616) := ⟨fun hc => by
    rw [hM]
    exact ⟨top_ge (by omega) ((pMan_facts h a).2 hc), man_top (by omega) (pMan_bd h a)⟩⟩
  have hxb : -20000 ≤ sqX X ∧ sqX X ≤ 20000 := by unfold sqX; split <;> omega
  have HRP : Box (cls e m a = 1 ∨ cls e m a = 2 → ∀ w : World, Calls Oacg.prog 35 #[.agg #[.int .u8 (e : Int), .int .u8 (m : Int)], .int .u8 mode, .bool false, .int .i16 (sqX X), .int .u64 (sqT (sqS M X) : Int)] w fun r w' =>
      r = .returned (.tuple #[.int .u64 (rndV e m mode false (shN (sqT (sqS M X)) (sqX X)) (shD 1 (sqX X)) : Int), .int .u8 (rndF e m mode false (shN (sqT (sqS M X)) (sqX X)) (shD 1 (sqX X)))]) ∧ Ext w w') := ⟨fun hc => by
    obtain ⟨m1, m2⟩ := HM.out hc
    obtain ⟨s1, s2⟩ := sqS_bd m1 m2 X
    exact roundPack_any e m h mode false (sqX X) hxb.1 hxb.2 _ (sqT_lt s1 s2)⟩
  obtain ⟨P, hP⟩ : ∃ P, sqP e m mode a = P := ⟨_, rfl⟩
  rw [hP]
  rw [sqP_parts h mode a M X hM hX] at hP
  have hclb := cls_cases e m a
  unfold parts at HU
  clear hM hX hxb hpe ha h hm2
  generalize rndV e m mode false (shN (sqT (sqS M X)) (sqX X)) (shD 1 (sqX X)) = rV at *
  generalize rndF e m mode false (shN (sqT (sqS M X)) (sqX X)) (shD 1 (sqX X)) = rF at *
  generalize nanV e m = nV at *
  generalize infV e m false = iV at *
  generalize heardF e m a a = hF at *
  generalize sg e m (pNeg e m a) = zV at *
  generalize pNeg e m a = ng at *
  generalize pExp e m a = px at *
  generalize pMan e m a = pm at *
  generalize cls e m a = cl at *
  have HP := Box.mk hP
  have HCB := Box.mk hclb
  clear hP hclb
  go_enter Oacg.func7, Oacg.ntmps7
  go_wp2_with (first | (go_at_call 4; refine (ok_any _ _ _).mono ?_; rintro r w' ⟨rfl, rfl⟩))
  refine (HU.out _).mono ?_
  rintro _ w1 ⟨rfl, hx1⟩
  have hC1 : Cells2 w1 w.heap.size e m := by
    refine Cells2.ext ?_ hx1
    refine ⟨?_, ?_⟩ <;> simp [go_sem]
  have hX1 : Ext w w1 := Ext.trans (by repeat (first | apply Ext.alloc | exact Ext.refl _)) hx1
  obtain ⟨W1, hW1⟩ : ∃ W1, W1 = w1.alloc (.cells #[.bool ng, .int .i8 (cl : Int), .int .i16 px, .int .u64 (pm : Int)] 44) := ⟨_, rfl⟩
  have hxa : Ext w1 W1 := by rw [hW1]; exact (Ext.refl w1).alloc _ _
  have HX := hide (hX1.trans hxa)
  have HC := hide (hC1.ext hxa)
  have g0 : W1.cell? ⟨w1.heap.size, 0, none⟩ = some (.bool ng) := by rw [hW1]; simp [go_sem]
  have g1 : W1.cell? ⟨w1.heap.size, 1, none⟩ = some (.int .i8 (cl : Int)) := by rw [hW1]; simp [go_sem]
  have g2 : W1.cell? ⟨w1.heap.size, 2, none⟩ = some (.int .i16 px) := by rw [hW1]; simp [go_sem]
  have g3 : W1.cell? ⟨w1.heap.size, 3, none⟩ = some (.int .u64 (pm : Int)) := by rw [hW1]; simp [go_sem]
  clear hC1 hX1 hx1 hxa HU
  go_upto_region 4 with fail
  rw [← hW1]
  clear hW1
  obtain ⟨a0, a1⟩ := HC.out
  by_cases c0 : cl = 0
  · have t0 : ((cl : Int) == 0) = true := by rw [c0]; rfl
    have hq := HP.out
    rw [if_pos c0] at hq
    subst hq
    clear c0 HP HNA HHE HIN HTP HRP HM
    go_wp2_with fail
    refine (HZE.out _).mono ?_
    rintro _ w2 ⟨rfl, hx2⟩
    have HX2 := hide (HX.out.trans hx2)
    clear hx2
    go_wp2_with fail
    simp [bodyPost, results, Oacg.results7, go_sem]
    exact HX2.out
  · have t0 : ((cl : Int) == 0) = false := by rw [beq_eq_false_iff_ne]; omega
    have hq := HP.out
    rw [if_neg c0] at hq
    clear HP
    by_cases c4 : cl = 4
    · have t4 : ((cl : Int) == 4) = true := by rw [c4]; rfl
      rw [if_pos c4] at hq
      subst hq
      clear c0 c4 HZE HIN HTP HRP HM
      go_wp2_with fail
      go_region_held3 (fun w' => Cells2 w' w.heap.size e m)
        (first | exact HC.out | exact HC.out.ext (by (repeat apply Ext.drew); first | exact Ext.refl _ | assumption))
        (first
          | (go_at_call 29; refine (HNA.out _).mono ?_; rintro r w2 ⟨rfl, hx2⟩; have hE : Ext W1 w2 := Ext.trans (by (repeat apply Ext.drew); first | exact Ext.refl _ | assumption) hx2; clear hx2)
          | (go_at_call 30; refine (HHE.out _).mono ?_; rintro r w3 ⟨rfl, hx3⟩; have hE : Ext W1 w3 := Ext.trans (by (repeat apply Ext.drew); first | exact Ext.refl _ | assumption) hx3; clear hx3))
      all_goals go_wp2_with fail
      all_goals simp [bodyPost, results, Oacg.results7, go_sem]
      all_goals exact HX.out.trans (by (repeat apply Ext.drew); assumption)
    · have t4 : ((cl : Int) == 4) = false := by rw [beq_eq_false_iff_ne]; omega
      rw [if_neg c4] at hq
      cases ng with
      | true =>
        rw [if_pos rfl] at hq
        subst hq
        clear c0 c4 HZE HIN HTP HRP HM HHE
        go_wp2_with fail
        refine (HNA.out _).mono ?_
        rintro _ w2 ⟨rfl, hx2⟩
        have HX2 := hide (HX.out.trans hx2)
        clear hx2
        go_wp2_with fail
        simp [bodyPost, results, Oacg.results7, go_sem]
        exact HX2.out
      | false =>
        rw [if_neg (by decide)] at hq
        by_cases c3 : cl = 3
        · have t3 : ((cl : Int) == 3) = true := by rw [c3]; rfl
          rw [if_pos c3] at hq
          subst hq
          clear c0 c4 c3 HZE HNA HTP HRP HM HHE
          go_wp2_with fail
          refine (HIN.out _).mono ?_
          rintro _ w2 ⟨rfl, hx2⟩
          have HX2 := hide (HX.out.trans hx2)
          clear hx2
          go_wp2_with fail
          simp [bodyPost, results, Oacg.results7, go_sem]
          exact HX2.out
        · have t3 : ((cl : Int) == 3) = false := by rw [beq_eq_false_iff_ne]; omega
          rw [if_neg c3] at hq
          subst hq
          have hcc : cl = 1 ∨ cl = 2 := by have := HCB.out; omega
          have HR2 := hide (HRP.out hcc)
          obtain ⟨m1, m2⟩ := HM.out hcc
          obtain ⟨s1, s2⟩ := sqS_bd m1 m2 X
          have HSQ := hide (wSqrt_any (sqS M X) s1 s2)
          obtain ⟨i1, i2⟩ := isq_bd s1 s2
          have HSH := hide (wShr_any (M * 18446744073709551616) (by omega) 1 (by decide))
          have hdv : M * 18446744073709551616 / 2 ^ 1 = M * 9223372036854775808 := by omega
          rw [hdv] at HSH
          have c0h : (M * 18446744073709551616 / 18446744073709551616 : Nat) = M := by omega
          have c0l : (M * 18446744073709551616 % 18446744073709551616 : Nat) = 0 := by omega
          have hso : Go.bits BinOp.or IntKind.u64 (isq (sqS M X) : Int) 1 = ((isq (sqS M X) / 2 * 2 + 1 : Nat) : Int) := or_one i2
          have HWH : Box (decide (isq (sqS M X) * isq (sqS M X) = sqS M X) = true ∧ sqT (sqS M X) = isq (sqS M X) ∨ decide (isq (sqS M X) * isq (sqS M X) = sqS M X) = false ∧ Go.bits BinOp.or IntKind.u64 (isq (sqS M X) : Int) 1 = (sqT (sqS M X) : Int)) := by
            constructor
            unfold sqT
            cases hb : decide (isq (sqS M X) * isq (sqS M X) = sqS M X)
            · right; exact ⟨rfl, hso⟩
            · left; exact ⟨rfl, rfl⟩
          generalize decide (isq (sqS M X) * isq (sqS M X) = sqS M X) = wh at *
          have HPA : Box ((Go.bits BinOp.and IntKind.i16 X 1 != 0) = false ∧ sqS M X = M * 18446744073709551616 ∧ IntKind.i16.wrap (X.tdiv 2) = X.tdiv 2 ∧ IntKind.i16.wrap (X.tdiv 2 - 32) = sqX X ∨
              (Go.bits BinOp.and IntKind.i16 X 1 != 0) = true ∧ sqS M X = M * 9223372036854775808 ∧ IntKind.i16.wrap (X + 1) = X + 1 ∧ IntKind.i16.wrap ((X + 1).tdiv 2) = (X + 1).tdiv 2 ∧ IntKind.i16.wrap ((X + 1).tdiv 2 - 32) = sqX X) := by
            constructor
            rw [and1_i16]
            unfold sqS sqX
            by_cases hp : X % 2 = 0
            · left
              rw [hp, if_pos rfl, if_pos rfl]
              rw [Int.tdiv_eq_ediv_of_dvd (Int.dvd_of_emod_eq_zero hp), wi16, wi16]
              refine ⟨rfl, rfl, ?_, ?_⟩ <;> omega
            · right
              have hp1 : X % 2 = 1 := by omega
              rw [hp1, if_neg (by decide), if_neg (by decide)]
              rw [Int.tdiv_eq_ediv_of_dvd (Int.dvd_of_emod_eq_zero (by omega)), wi16, wi16, wi16]
              refine ⟨rfl, rfl, ?_, ?_, ?_⟩ <;> omega
          unfold uV at *
          rw [c0h, c0l] at HSH
          generalize isq (sqS M X) = is at *
          generalize sqT (sqS M X) = sT at *
          generalize sqX X = sX at *
          clear c0 c4 c3 HZE HNA HIN HRP HM HHE HCB hcc hso m1 m2 s1 s2 i1 i2 hdv hXb1 hXb2
          go_wp2_with fail
          refine (HTP.out _).mono ?_
          rintro _ w2 ⟨rfl, hx2⟩
          obtain ⟨W2, hW2⟩ : ∃ W2, W2 = w2.alloc (.cells #[.int .u64 (M : Int), .int .u64 0] 52) := ⟨_, rfl⟩
          have HQ2 : Hid (SQ w W2 w2.heap.size e m (M : Int) 0) := by
            have hs : w1.heap.size < W1.heap.size := World.block_lt_of_cell? _ _ g0
            have hs2 : w.heap.size < W1.heap.size := World.block_lt_of_cell? _ _ a0
            have hs3 := hx2.size
            refine ⟨?_, ?_, ?_, ?_, fun i => ?_, by omega⟩
            · rw [hW2]; exact (HX.out.trans hx2).alloc _ _
            · rw [hW2]; exact (HC.out.ext hx2).ext ((Ext.refl _).alloc _ _)
            · rw [hW2]; simp [go_sem]
            · rw [hW2]; simp [go_sem]
            · rw [hW2]; simp [go_sem]
          clear hx2 HX HC a0 a1 g0 g1 g2 g3
          rcases HPA.out with ⟨p1, p2, p3, p4⟩ | ⟨p1, p2, p3, p4, p5⟩
          · rw [p2, c0h, c0l, show ((0 : Nat) : Int) = 0 from rfl] at HSQ
            clear c0h c0l HSH HPA p2
            obtain ⟨v0, v1⟩ : W2.cell? ⟨w2.heap.size, 0, none⟩ = some (.int .u64 (M : Int)) ∧ W2.cell? ⟨w2.heap.size, 1, none⟩ = some (.int .u64 0) := ⟨HQ2.out.a0, HQ2.out.a1⟩
            go_wp2_with fail
            rw [← hW2]
            clear hW2
            refine (HSQ.out _).mono ?_
            rintro _ w3 ⟨rfl, hx3⟩
            have HQ3 := hide (HQ2.out.next hx3)
            clear hx3 v0 v1 HQ2
            obtain ⟨a0, a1⟩ := HQ3.out.f
            rcases HWH.out with ⟨r1, r2⟩ | ⟨r1, r2⟩
            · subst r1
              subst r2
              go_wp2_with fail
              refine (HR2.out _).mono ?_
              rintro _ w6 ⟨rfl, hx6⟩
              have HX6 := hide (HQ3.out.ext.trans hx6)
              clear hx6
              go_wp2_with fail
              simp [bodyPost, results, Oacg.results7, go_sem]
              exact HX6.out
            · subst r1
              go_wp2_with fail
              refine (HR2.out _).mono ?_
              rintro _ w6 ⟨rfl, hx6⟩
              have HX6 := hide (HQ3.out.ext.trans hx6)
              clear hx6
              go_wp2_with fail
              simp [bodyPost, results, Oacg.results7, go_sem]
              exact HX6.out
          · rw [show ((0 : Nat) : Int) = 0 from rfl, show ((1 : Nat) : Int) = 1 from rfl] at HSH
            rw [p2] at HSQ
            clear c0h c0l HPA p2
            obtain ⟨UH, hUH⟩ : ∃ x : Int, ((M * 9223372036854775808 / 18446744073709551616 : Nat) : Int) = x := ⟨_, rfl⟩
            obtain ⟨UL, hUL⟩ : ∃ x : Int, ((M * 9223372036854775808 % 18446744073709551616 : Nat) : Int) = x := ⟨_, rfl⟩
            rw [hUH, hUL] at HSH HSQ
            clear hUH hUL
            go_wp2_with fail
            rw [← hW2]
            clear hW2
            refine (HSH.out _).mono ?_
            rintro _ w3 ⟨rfl, hx3⟩
            have HQ3 := hide (HQ2.out.next hx3)
            have HQ4 := hide (HQ3.out.set UH UL)
            have v0 := HQ3.out.a0
            have v1 := HQ3.out.a1
            have fa0 := HQ3.out.fa 0
            have fa1 := HQ3.out.fa 1
            clear hx3 HQ2 HQ3 HSH
            go_wp2_with fail
            obtain ⟨W4, hW4⟩ : ∃ W4, W4 = (w3.setCell ⟨w2.heap.size, 0, none⟩ (.int .u64 UH)).setCell ⟨w2.heap.size, 1, none⟩ (.int .u64 UL) := ⟨_, rfl⟩
            rw [← hW4] at HQ4 ⊢
            clear hW4 v0 v1 fa0 fa1
            refine (HSQ.out _).mono ?_
            rintro _ w5 ⟨rfl, hx5⟩
            have HQ3 := hide (HQ4.out.next hx5)
            clear hx5 HQ4
            obtain ⟨a0, a1⟩ := HQ3.out.f
            rcases HWH.out with ⟨r1, r2⟩ | ⟨r1, r2⟩
            · subst r1
              subst r2
              go_wp2_with fail
              refine (HR2.out _).mono ?_
              rintro _ w6 ⟨rfl, hx6⟩
              have HX6 := hide (HQ3.out.ext.trans hx6)
              clear hx6
              go_wp2_with fail
              simp [bodyPost, results, Oacg.results7, go_sem]
              exact HX6.out
            · subst r1
              go_wp2_with fail
              refine (HR2.out _).mono ?_
              rintro _ w6 ⟨rfl, hx6⟩
              have HX6 := hide (HQ3.out.ext.trans hx6)
              clear hx6
              go_wp2_with fail
              simp [bodyPost, results, Oacg.results7, go_sem]
              exact HX6.out
end Go.Proofs.YgcoacGreat
