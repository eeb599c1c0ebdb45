/-
  soft.ToInt64Flags.
-/
import Derived.Test.YgcoacGreatSfI
import Derived.Test.YgcoacGreatExH
namespace Go.Proofs.YgcoacGreat
open Go.RowKit
set_option linter.unusedSimpArgs false
set_option linter.unusedVariables false

theorem raised_one (mode : Int) (neg : Bool) (n : Nat) : raisedN mode neg n 1 = n ∧ someQ n 1 = false := by
  have hm : n % 1 = 0 := Nat.mod_one n
  have e1 : halfQ n 1 = -1 := by unfold halfQ; rw [hm]; rfl
  have e2 : someQ n 1 = false := by unfold someQ; rw [hm]; rfl
  refine ⟨?_, e2⟩
  unfold raisedN
  rw [e1, e2, Nat.div_one]
  have : raisesQ mode neg (decide (n % 2 = 1)) (-1) false = false := by
    unfold raisesQ
    split
    · rfl
    · split
      · rfl
      · split
        · rfl
        · split
          · rfl
          · rfl
  rw [this]
  rfl
theorem tiA_parts {e m : Nat} (h : Fm e m) (mode : Int) (a : Nat) :
    tiA e m mode a = if cls e m a = 0 then (0, true, 0) else if cls e m a = 4 ∨ cls e m a = 3 ∨ 63 < pExp e m a + m then (0, false, 1)
      else if 0 ≤ pExp e m a then tiR (pNeg e m a) (pMan e m a * 2 ^ (pExp e m a).toNat) false
      else tiR (pNeg e m a) (upS mode (pNeg e m a) (pMan e m a) (-pExp e m a).toNat) (decide (restC (pMan e m a) (-pExp e m a).toNat ≠ 0)) := by
  have hm1 := h.m1
  have hm2 := h.m2
  obtain ⟨f1, f2⟩ := pMan_facts h a
  have hcc := cls_cases e m a
  unfold tiA
  by_cases c0 : cls e m a = 0
  · rw [if_neg (by omega), if_pos c0]
    unfold tiN vNum vDen
    have hpe : pExp e m a = 0 := by unfold pExp; rw [if_neg (by omega), if_neg (by omega)]
    rw [f1 c0, hpe, Nat.zero_mul, show (2 : Nat) ^ (-(0 : Int)).toNat = 1 from rfl, (raised_one mode (ngB e m a) 0).1, (raised_one mode (ngB e m a) 0).2]
    unfold tiR limN
    cases ngB e m a <;> rfl
  · rw [if_neg c0]
    by_cases c3 : 3 ≤ cls e m a
    · rw [if_pos c3, if_pos (by omega)]
    · rw [if_neg c3, ngB_pNeg (by omega)]
      have g := f2 (by omega)
      by_cases c6 : 63 < pExp e m a + m
      · rw [if_pos (by omega)]
        unfold tiR
        rw [if_pos]
        have h1 : 18446744073709551616 ≤ tiN e m mode a := by
          unfold tiN
          refine Nat.le_trans ?_ raisedN_ge
          unfold vNum vDen
          rw [show (-pExp e m a).toNat = 0 by omega, Nat.pow_zero, Nat.div_one]
          refine Nat.le_trans ?_ (Nat.mul_le_mul_right _ g)
          rw [← Nat.pow_add]
          exact Nat.le_trans (by decide) (pow_le_of (show 64 ≤ m + (pExp e m a).toNat by omega))
        unfold limN
        split <;> omega
      · rw [if_neg (by omega)]
        unfold tiN vNum vDen
        by_cases hp : 0 ≤ pExp e m a
        · rw [if_pos hp, show (-pExp e m a).toNat = 0 by omega, Nat.pow_zero, (raised_one mode (ngB e m a) _).1, (raised_one mode (ngB e m a) _).2]
        · rw [if_neg hp, show (pExp e m a).toNat = 0 by omega, Nat.pow_zero, Nat.mul_one]
          obtain ⟨u1, u2⟩ := up_eq mode (ngB e m a) (pMan_u64 h a) (-pExp e m a).toNat
          rw [u1, u2]
theorem conv_i64 {n : Nat} (h : n < 9223372036854775808) : IntKind.i64.wrap (n : Int) = (n : Int) := by
  simp [IntKind.wrap, IntKind.bits, IntKind.signed]; omega
theorem neg_w64 {n : Nat} (h : n ≤ 9223372036854775808) : wrap64 (-wrap64 (n : Int)) = -(n : Int) := by
  unfold wrap64; omega
theorem neg_i64 {n : Nat} (h : n ≤ 9223372036854775808) : IntKind.i64.wrap (-IntKind.i64.wrap (n : Int)) = -(n : Int) := by
  simp [IntKind.wrap, IntKind.bits, IntKind.signed]; omega

set_option maxRecDepth 20000 in
set_option maxHeartbeats 4000000 in
theorem stoInt64Flags_any (e m : Nat) (h : Fm e m) (mode : Int) (a : Nat) (ha : a < 18446744073709551616) (w : World) :
    Calls Oacg.prog 15 #[.agg #[.int .u8 (e : Int), .int .u8 (m : Int)], .int .u8 mode, .int .u64 (a : Int)] w fun r w' => r = .returned (tiV (tiA e m mode a)) ∧ Ext w w' := by
  have hok := okB_fm h
  have hm1 := h.m1
  have hm2 := h.m2
  have HU := hide (unpack_any e m h a ha)
  have hpe := pExp_bd h a
  have hpm := pMan_u64 h a
  have hpb := pMan_bd h a
  have HCB := Box.mk (cls_cases e m a)
  obtain ⟨P, hP⟩ : ∃ P, tiA e m mode a = P := ⟨_, rfl⟩
  rw [hP]
  rw [tiA_parts h mode a] at hP
  unfold parts at HU
  generalize pNeg e m a = ng at *
  generalize pExp e m a = px at *
  generalize pMan e m a = pm at *
  generalize cls e m a = cl at *
  have HP := Box.mk hP
  clear hP ha h
  unfold tiV
  have c1 : IntKind.i16.wrap (m : Int) = (m : Int) := by rw [wi16]; omega
  obtain ⟨E, hE⟩ : ∃ E, px + (m : Int) = E := ⟨_, rfl⟩
  have c2 : IntKind.i16.wrap (px + (m : Int)) = E := by rw [wi16]; omega
  rw [hE] at HP
  go_enter Oacg.func15, Oacg.ntmps15
  go_wp2_with fail
  refine (HU.out _).mono ?_
  rintro _ w1 ⟨rfl, hx1⟩
  have hC1 : Cells2 w1 w.heap.size e m := by
    refine Cells2.ext ?_ hx1
    refine ⟨?_, ?_⟩ <;> simp [go_sem]
  have hX1 : Ext w w1 := Ext.trans (by repeat (first | apply Ext.alloc | exact Ext.refl _)) hx1
  obtain ⟨W1, hW1⟩ : ∃ W1, W1 = w1.alloc (.cells #[.bool ng, .int .i8 (cl : Int), .int .i16 px, .int .u64 (pm : Int)] 44) := ⟨_, rfl⟩
  have hxa : Ext w1 W1 := by rw [hW1]; exact (Ext.refl w1).alloc _ _
  obtain ⟨W2, hW2⟩ : ∃ W2, W2 = W1.alloc (.cells #[.int .u8 (e : Int), .int .u8 (m : Int)] 23) := ⟨_, rfl⟩
  have hxb : Ext W1 W2 := by rw [hW2]; exact (Ext.refl W1).alloc _ _
  have HX := hide ((hX1.trans hxa).trans hxb)
  obtain ⟨a0, a1⟩ := (hC1.ext hxa).ext hxb
  obtain ⟨b0, b1⟩ := hC1
  have hlt : w.heap.size < w1.heap.size := World.block_lt_of_cell? _ _ b0
  have HG : Hid (Pt4 W2 w1.heap.size (.bool ng) (.int .i8 (cl : Int)) (.int .i16 px) (.int .u64 (pm : Int))) := by
    refine Pt4.ext ?_ hxb
    rw [hW1]
    refine ⟨?_, ?_, ?_, ?_⟩ <;> simp [go_sem]
  obtain ⟨g0, g1, g2, g3⟩ := HG.out
  clear hX1 hx1 hxa hxb HU
  go_upto_region 4 with (first | (go_at_call 4; refine (ok_any _ _ _).mono ?_; rintro r w' ⟨rfl, rfl⟩))
  rw [← hW1, ← hW2]
  clear hW1 hW2 b0 b1
  by_cases c0 : cl = 0
  · have t0 : ((cl : Int) == 0) = true := by rw [c0]; rfl
    have hq := HP.out
    rw [if_pos c0] at hq
    subst hq
    clear c0 HP HCB hpe hpm hpb hE hlt
    go_wp2_with fail
    simp [bodyPost, results, Oacg.results15, go_sem]
    exact HX.out
  · have t0 : ((cl : Int) == 0) = false := by rw [beq_eq_false_iff_ne]; omega
    have hq := HP.out
    rw [if_neg c0] at hq
    clear HP
    by_cases c9 : cl = 4 ∨ cl = 3 ∨ 63 < E
    · rw [if_pos c9] at hq
      subst hq
      clear hpe hpm hpb hE hlt c0
      by_cases c4 : cl = 4
      · have t4 : ((cl : Int) == 4) = true := by rw [c4]; rfl
        clear c9 c4 HCB
        go_wp2_with fail
        simp [bodyPost, results, Oacg.results15, go_sem]
        exact HX.out
      · have t4 : ((cl : Int) == 4) = false := by rw [beq_eq_false_iff_ne]; omega
        by_cases c3 : cl = 3
        · have t3 : ((cl : Int) == 3) = true := by rw [c3]; rfl
          clear c9 c4 c3 HCB
          go_wp2_with fail
          simp [bodyPost, results, Oacg.results15, go_sem]
          exact HX.out
        · have t3 : ((cl : Int) == 3) = false := by rw [beq_eq_false_iff_ne]; omega
          have t6 : 63 < E := by omega
          clear c9 c4 c3 HCB
          go_wp2_with fail
          simp [bodyPost, results, Oacg.results15, go_sem]
          exact HX.out
    · rw [if_neg c9] at hq
      have t4 : ((cl : Int) == 4) = false := by rw [beq_eq_false_iff_ne]; omega
      have t3 : ((cl : Int) == 3) = false := by rw [beq_eq_false_iff_ne]; omega
      have t6 : ¬ 63 < E := by omega
      -- the whole number and the rest
      obtain ⟨n, rs, hn, hnr, hrl⟩ : ∃ n rs : Nat, ((0 ≤ px ∧ n = pm * 2 ^ px.toNat ∧ rs = 0) ∨ (¬ 0 ≤ px ∧ n = upS mode ng pm (-px).toNat ∧ rs = restC pm (-px).toNat)) ∧ n < 18446744073709551616 ∧ rs < 18446744073709551616 := by
        by_cases hp : 0 ≤ px
        · refine ⟨_, _, .inl ⟨hp, rfl, rfl⟩, ?_, by decide⟩
          have := Nat.mul_lt_mul_of_pos_right hpb (two_pos px.toNat)
          rw [← Nat.pow_add] at this
          exact Nat.lt_of_lt_of_le this (Nat.le_trans (pow_le_of (show m + 1 + px.toNat ≤ 64 by omega)) (by decide))
        · refine ⟨_, _, .inr ⟨hp, rfl, rfl⟩, ?_, restC_lt hpm _⟩
          have h5 : pm / 2 ^ (-px).toNat < 18446744073709551615 := by
            have h6 : pm < 9007199254740992 := Nat.lt_of_lt_of_le hpb (pow_le_of (show m + 1 ≤ 53 by omega))
            have := Nat.div_le_self pm (2 ^ (-px).toNat)
            omega
          unfold upS
          split <;> omega
      have HTI : Box (tiR ng n (decide (rs ≠ 0)) = P) := by
        constructor
        rcases hn with ⟨q1, q2, q3⟩ | ⟨q1, q2, q3⟩
        · rw [if_pos q1] at hq; rw [q2, q3]; exact hq
        · rw [if_neg q1] at hq; rw [q2, q3]; exact hq
      have hp6 : px ≤ 63 := by omega
      have HNR := Box.mk hn
      have HNL := Box.mk hnr
      clear hn hq c9 c0 HCB hE hnr
      go_upto_if 42 with fail
      go_cut [10, 11] (fun v1 v2 wx => v1 = .int .u64 (n : Int) ∧ v2 = .int .u64 (rs : Int) ∧ Hid (Ext W2 wx))
      case first =>
        rcases HNR.out with ⟨q1, q2, q3⟩ | ⟨q1, q2, q3⟩
        · obtain ⟨Q, rfl⟩ : ∃ Q : Nat, px = (Q : Int) := ⟨px.toNat, by omega⟩
          rw [Int.toNat_natCast] at q2
          have c5 : IntKind.u64.wrap ((pm : Int) * 2 ^ Q) = (n : Int) := by rw [two_pow_cast, ← Int.natCast_mul, w64n, Nat.mod_eq_of_lt (by rw [← q2]; exact HNL.out), q2]
          have c6 : (Q : Int) < 64 := by omega
          subst q3
          clear q2 HNR HNL HTI hpe hpm hpb
          go_wp2_with fail
          go_meet
          exact ⟨rfl, rfl, Ext.refl _⟩
        · obtain ⟨k, hk⟩ : ∃ k : Nat, (-px).toNat = k := ⟨_, rfl⟩
          have c5 : IntKind.i16.wrap (-px) = (k : Int) := by rw [wi16]; omega
          rw [hk] at q2 q3
          have HCU := hide (cut_any pm hpm k (by omega))
          rw [← q3] at HCU
          have hql : pm / 2 ^ k < 18446744073709551616 := Nat.lt_of_le_of_lt (Nat.div_le_self _ _) hpm
          have HRA := hide (sraises_any mode ng (pm / 2 ^ k) rs hql hrl)
          unfold upS at q2
          rw [← q3] at q2
          obtain ⟨d, hd⟩ : ∃ d, pm / 2 ^ k = d := ⟨_, rfl⟩
          rw [hd] at HCU HRA q2
          have c6 : IntKind.u64.wrap ((d : Int) + 1) = ((d : Int) + 1) % 18446744073709551616 := by rw [wu64]
          have HRR : Box (raisesS mode ng d rs = true ∧ IntKind.u64.wrap ((d : Int) + 1) = (n : Int) ∨ raisesS mode ng d rs = false ∧ n = d) := by
            constructor
            have := HNL.out
            cases hb : raisesS mode ng d rs
            · right; rw [hb, if_neg (by decide)] at q2; exact ⟨rfl, q2⟩
            · left; rw [hb, if_pos rfl] at q2; exact ⟨rfl, by rw [wu64]; omega⟩
          generalize raisesS mode ng d rs = rb at *
          clear q2 q3 HNR HNL HTI hpe hpm hpb hk hd hql c6 hrl
          go_wp2_with fail
          refine (HCU.out _).mono ?_
          rintro _ w3 ⟨rfl, hx3⟩
          have HX3 := hide hx3
          obtain ⟨g0, g1, g2, g3⟩ := HG.out.ext hx3
          clear hx3
          go_wp2_with fail
          refine (HRA.out _).mono ?_
          rintro _ w4 ⟨rfl, rfl⟩
          rcases HRR.out with ⟨r1, r2⟩ | ⟨r1, r2⟩
          · subst r1
            go_wp2_with fail
            go_meet
            exact ⟨rfl, rfl, HX3⟩
          · subst r1 r2
            go_wp2_with fail
            go_meet
            exact ⟨rfl, rfl, HX3⟩
      case rest =>
        obtain ⟨rfl, rfl, HX3⟩ := hcut
        have HXE := hide (HX.out.trans HX3.out)
        have HG3 := hide (HG.out.ext HX3.out)
        clear HX HX3 HG HNR g0 g1 g2 g3 a0 a1
        obtain ⟨g0, g1, g2, g3⟩ := HG3.out
        obtain ⟨fl, hfl⟩ : ∃ fl : Int, (if rs = 0 then 0 else 16) = fl := ⟨_, rfl⟩
        have HFL : Box (((rs : Int) != 0) = false ∧ fl = 0 ∨ ((rs : Int) != 0) = true ∧ fl = 16) := by
          constructor
          by_cases h0 : rs = 0
          · left; rw [if_pos h0] at hfl; rw [h0]; exact ⟨rfl, hfl.symm⟩
          · right; rw [if_neg h0] at hfl; exact ⟨by rw [bne_iff_ne]; omega, hfl.symm⟩
        have HT2 : Box ((if limN ng < n then ((0, false, 1) : Int × Bool × Int) else ((if ng then -(n : Int) else (n : Int)), true, fl)) = P) := by
          constructor
          have := HTI.out
          unfold tiR at this
          rw [← this, ← hfl]
          by_cases h0 : rs = 0
          · rw [if_pos h0, decide_eq_false (by omega)]; rfl
          · rw [if_neg h0, decide_eq_true h0]; rfl
        clear hfl HTI
        go_upto_if 65 with fail
        go_cut [12] (fun v wx => v = .int .u8 fl ∧ wx = wc)
        case first =>
          rcases HFL.out with ⟨r1, r2⟩ | ⟨r1, r2⟩
          · subst r2
            go_wp2_with fail
            go_meet
            exact ⟨rfl, rfl⟩
          · subst r2
            go_wp2_with fail
            go_meet
            exact ⟨rfl, rfl⟩
        case rest =>
          obtain ⟨rfl, rfl⟩ := hcut
          clear HFL
          have hq := HT2.out
          unfold limN at hq
          obtain ⟨N, hN⟩ : ∃ N : Int, (n : Int) = N := ⟨_, rfl⟩
          cases ng with
          | true =>
            rw [if_pos rfl, if_pos rfl] at hq
            by_cases hl : 9223372036854775808 < n
            · rw [if_pos hl] at hq
              subst hq
              have u1 : ¬ N ≤ 9223372036854775808 := by omega
              rw [hN]
              clear hl hN HT2 HNL
              go_wp2_with fail
              simp [bodyPost, results, Oacg.results15, go_sem]
              exact HXE.out
            · rw [if_neg hl, hN] at hq
              subst hq
              have u1 : N ≤ 9223372036854775808 := by omega
              have u2 := neg_i64 (show n ≤ 9223372036854775808 by omega)
              have u3 := Box.mk (neg_w64 (show n ≤ 9223372036854775808 by omega))
              rw [hN] at u2 u3 ⊢
              clear hl hN HT2 HNL
              go_wp2_with fail
              simp [bodyPost, results, Oacg.results15, go_sem]
              exact ⟨u3.out, HXE.out⟩
          | false =>
            rw [if_neg (show ¬ (false = true) by decide), if_neg (show ¬ (false = true) by decide)] at hq
            by_cases hl : 9223372036854775807 < n
            · rw [if_pos hl] at hq
              subst hq
              have u1 : ¬ N < 9223372036854775808 := by omega
              rw [hN]
              clear hl hN HT2 HNL
              go_wp2_with fail
              simp [bodyPost, results, Oacg.results15, go_sem]
              exact HXE.out
            · rw [if_neg hl, hN] at hq
              subst hq
              have u1 : N < 9223372036854775808 := by omega
              have u2 := conv_i64 (show n < 9223372036854775808 by omega)
              rw [hN] at u2 ⊢
              clear hl hN HT2 HNL
              go_wp2_with fail
              simp [bodyPost, results, Oacg.results15, go_sem]
              exact HXE.out
end Go.Proofs.YgcoacGreat
