/-
  exact.RoundFlags.
-/
import Derived.Test.YgcoacGreatExC
namespace Go.Proofs.YgcoacGreat
open Go.RowKit
set_option linter.unusedSimpArgs false
set_option linter.unusedVariables false
attribute [local go_sem] nil_eq nil_ne

/-- As 'Hid', but not seen through by unfolding. -/
structure Box (p : Prop) : Prop where
  out : p
/-- RoundFlags' world: the format's box, the fraction's. -/
structure RF (w wr : World) (e m : Nat) (neg : Bool) (vn vd : Value) (n d : Nat) : Prop where
  ext : Ext w wr
  a0 : wr.cell? ⟨w.heap.size, 0, none⟩ = some (.int .u8 (e : Int))
  a1 : wr.cell? ⟨w.heap.size, 1, none⟩ = some (.int .u8 (m : Int))
  b0 : wr.cell? ⟨w.heap.size + 1, 0, none⟩ = some (.bool neg)
  b1 : wr.cell? ⟨w.heap.size + 1, 1, none⟩ = some vn
  b2 : wr.cell? ⟨w.heap.size + 1, 2, none⟩ = some vd
  nn : NatAt wr vn n
  nd : NatAt wr vd d
theorem RF.next {w wr w' : World} {e m : Nat} {neg : Bool} {vn vd : Value} {n d : Nat} (h : RF w wr e m neg vn vd n d) (x : Ext wr w') : RF w w' e m neg vn vd n d :=
  ⟨h.ext.trans x, x.cell h.a0, x.cell h.a1, x.cell h.b0, x.cell h.b1, x.cell h.b2, h.nn.ext x, h.nd.ext x⟩
theorem RF.cells {w wr : World} {e m : Nat} {neg : Bool} {vn vd : Value} {n d : Nat} (h : RF w wr e m neg vn vd n d) :
    wr.cell? ⟨w.heap.size, 0, none⟩ = some (.int .u8 (e : Int)) ∧ wr.cell? ⟨w.heap.size, 1, none⟩ = some (.int .u8 (m : Int)) ∧ wr.cell? ⟨w.heap.size + 1, 0, none⟩ = some (.bool neg) ∧ wr.cell? ⟨w.heap.size + 1, 1, none⟩ = some vn ∧ wr.cell? ⟨w.heap.size + 1, 2, none⟩ = some vd :=
  ⟨h.a0, h.a1, h.b0, h.b1, h.b2⟩
theorem RF.lt {w wr : World} {e m : Nat} {neg : Bool} {vn vd : Value} {n d : Nat} (h : RF w wr e m neg vn vd n d) : w.heap.size + 1 < wr.heap.size := World.block_lt_of_cell? _ _ h.b0

/-- What region 17 reads. -/
abbrev Cells5 (w' : World) (B C e m : Nat) (neg : Bool) (half : Int) (sm : Bool) : Prop :=
  w'.cell? ⟨B, 0, none⟩ = some (.int .u8 (e : Int)) ∧ w'.cell? ⟨B, 1, none⟩ = some (.int .u8 (m : Int)) ∧ w'.cell? ⟨B + 1, 0, none⟩ = some (.bool neg) ∧ w'.cell? ⟨C, 0, none⟩ = some (.int .i8 half) ∧ w'.cell? ⟨C, 1, none⟩ = some (.bool sm)
theorem Cells5.ext {w w' : World} {B C e m : Nat} {neg : Bool} {half : Int} {sm : Bool} (h : Cells5 w B C e m neg half sm) (x : Ext w w') : Cells5 w' B C e m neg half sm := ⟨x.cell h.1, x.cell h.2.1, x.cell h.2.2.1, x.cell h.2.2.2.1, x.cell h.2.2.2.2⟩
/-- What region 6 reads. -/
abbrev Cells4 (w' : World) (B e m : Nat) (vn vd : Value) : Prop :=
  w'.cell? ⟨B, 0, none⟩ = some (.int .u8 (e : Int)) ∧ w'.cell? ⟨B, 1, none⟩ = some (.int .u8 (m : Int)) ∧ w'.cell? ⟨B + 1, 1, none⟩ = some vn ∧ w'.cell? ⟨B + 1, 2, none⟩ = some vd
theorem Cells4.ext {w w' : World} {B e m : Nat} {vn vd : Value} (h : Cells4 w B e m vn vd) (x : Ext w w') : Cells4 w' B e m vn vd := ⟨x.cell h.1, x.cell h.2.1, x.cell h.2.2.1, x.cell h.2.2.2⟩
def RndR (e m : Nat) (mode : Int) (neg : Bool) (n d : Nat) (v : Value) : Prop := v = .tuple #[.int .u64 (rndV e m mode neg n d : Int), .int .u8 (rndF e m mode neg n d)]

set_option maxRecDepth 100000 in
set_option maxHeartbeats 4000000 in
theorem roundFlags_any (e m : Nat) (h : Fm e m) (mode : Int) (neg : Bool) (n d kn kd : Nat) (hn : n < W kn) (hd : d < W kd) (hkn : kn ≤ 1000000) (hkd : kd ≤ 1000000) (hd0 : 0 < d) (v : Value) (w : World) (hv : RatAt w v neg n d) :
    Calls Oacg.prog 45 #[.agg #[.int .u8 (e : Int), .int .u8 (m : Int)], .int .u8 mode, v] w fun r w' => (∃ u, r = .returned u ∧ RndR e m mode neg n d u) ∧ Ext w w' := by
  obtain ⟨p1, k1, c1, p2, k2, c2, rfl, hvn, hvd⟩ := hv
  have hok := okB_fm h
  have HMR := hide (fun wx (hx : Ext w wx) => makeRat_any neg n d kn kd hn hd (by omega) (by omega) hd0 _ _ wx (hvn.ext hx) (hvd.ext hx))
  have HEM := hide (emin_any e m h)
  have HEX := hide (emax_any e m h)
  have H := hide h
  clear hvn hvd h
  go_enter Oacg.func45, Oacg.ntmps45
  go_wp2_with (first | (go_at_call 4; refine (ok_any _ _ _).mono ?_; rintro r w' ⟨rfl, rfl⟩))
  have hxA : Ext w (((w.alloc (.cells #[.int .u8 (e : Int), .int .u8 (m : Int)] 23)).alloc (.cells #[.bool neg, .slice p1 k1 c1, .slice p2 k2 c2] 60)).alloc (.cells #[.int .u8 (e : Int), .int .u8 (m : Int)] 23)) := ext3
  refine (HMR.out _ hxA).mono ?_
  rintro _ w1 ⟨⟨v1, rfl, p3, k3, c3, p4, k4, c4, rfl, hn1, hd1⟩, hx1⟩
  obtain ⟨q1, q2, q3⟩ := hx1.rule
  have hz : w.heap.size + 1 < w1.heap.size := by have := q3; simp at this; omega
  have e0 : w1.cell? ⟨w.heap.size, 0, none⟩ = some (.int .u8 (e : Int)) := by rw [q1 _ _ (by simp; omega)]; simp [go_sem]
  have e1 : w1.cell? ⟨w.heap.size, 1, none⟩ = some (.int .u8 (m : Int)) := by rw [q1 _ _ (by simp; omega)]; simp [go_sem]
  have g0 : w1.cell? ⟨w.heap.size + 1, 0, none⟩ = some (.bool neg) := by rw [q1 _ _ (by simp)]; simp [go_sem]
  have g1 : w1.cell? ⟨w.heap.size + 1, 1, none⟩ = some (.slice p1 k1 c1) := by rw [q1 _ _ (by simp)]; simp [go_sem]
  have g2 : w1.cell? ⟨w.heap.size + 1, 2, none⟩ = some (.slice p2 k2 c2) := by rw [q1 _ _ (by simp)]; simp [go_sem]
  have f0 : ∀ o, w1.frozen? ⟨w.heap.size + 1, o, none⟩ = false := fun o => by rw [q2]; simp [go_sem]
  have hKp := keeps_rat (w := w1) (b := w.heap.size + 1) g0 g1 g2 rfl rfl rfl (.bool neg) (.slice p3 k3 c3) (.slice p4 k4 c4)
  obtain ⟨w2, hw2⟩ : ∃ w2, w2 = ((w1.setCell ⟨w.heap.size + 1, 0, none⟩ (.bool neg)).setCell ⟨w.heap.size + 1, 1, none⟩ (.slice p3 k3 c3)).setCell ⟨w.heap.size + 1, 2, none⟩ (.slice p4 k4 c4) := ⟨_, rfl⟩
  have hRF : RF w w2 e m neg (.slice p3 k3 c3) (.slice p4 k4 c4) n d := by
    rw [hw2]
    refine ⟨(((hxA.trans hx1).setCell (Nat.le_succ _) _).setCell (Nat.le_succ _) _).setCell (Nat.le_succ _) _, ?_, ?_, ?_, ?_, ?_, hKp _ _ hn1, hKp _ _ hd1⟩
    · simp [go_sem, e0]
    · simp [go_sem, e1]
    · simp [go_sem, g0]
    · simp [go_sem, g1]
    · simp [go_sem, g2]
  have HRF := hide hRF
  have hsh : (n = 0 ∧ p3 = none ∧ k3 = 0 ∧ c3 = 0) ∨ (0 < n ∧ ∃ a, p3 = some a) := by
    rcases hn1 with ⟨h, h'⟩ | ⟨l, b, off, cap, h', _, _, _, _, _, h0, _⟩
    · cases h'; exact .inl ⟨h, rfl, rfl, rfl⟩
    · cases h'; exact .inr ⟨h0, _, rfl⟩
  clear hKp hRF hn1 hd1 q1 q2 q3 hx1 hxA HMR
  rcases hsh with ⟨hn0, rfl, rfl, rfl⟩ | ⟨hn0, ad, rfl⟩
  · have HZ := hide (zero_any e m H.out neg)
    have HR : Hid (RndR e m mode neg n d (.tuple #[.int .u64 (sg e m neg : Int), .int .u8 0])) := by show _ = _; unfold rndV rndF; rw [if_pos hn0, if_pos hn0]
    clear hn0
    generalize (sg e m neg : Int) = S at *
    go_wp2_with fail
    rw [← hw2]
    refine (HZ.out _).mono ?_
    rintro _ w3 ⟨rfl, hx3⟩
    have HX := hide (HRF.out.ext.trans hx3)
    clear hx3
    go_wp2_with fail
    simp [bodyPost, results, Oacg.results45, go_sem]
    exact ⟨HR.out, HX.out⟩
  · go_wp2_with fail
    rw [← hw2]
    clear hw2 e0 e1 g0 g1 g2 f0 hz
    have hb := bias_bd H.out
    have HEM' : Hid (∀ wx, Calls Oacg.prog 39 #[.agg #[.int .u8 (e : Int), .int .u8 (m : Int)]] wx fun r w' => r = .returned (.int .i64 (eminI e)) ∧ Ext wx w') := fun wx => (HEM.out wx).mono fun r w' ⟨h1, c1, c2, c3, h2⟩ => ⟨h1, by rw [h2]; exact ext3⟩
    have HEX' : Hid (∀ wx, Calls Oacg.prog 40 #[.agg #[.int .u8 (e : Int), .int .u8 (m : Int)]] wx fun r w' => r = .returned (.int .i64 (bias e : Int)) ∧ Ext wx w') := fun wx => (HEX.out wx).mono fun r w' ⟨h1, c1, c2, c3, h2⟩ => ⟨h1, by rw [h2]; exact ext3⟩
    have HL := hide (fun wx (hx : Ext w2 wx) => log2_any n d kn kd hn hd (by omega) (by omega) (eminI e - 1) (bias e : Int) (by unfold eminI; omega) (by unfold eminI; omega) (by omega) (by omega) _ _ wx (HRF.out.nn.ext hx) (HRF.out.nd.ext hx))
    have hreal : log2Q n d (eminI e - 1) (bias e : Int) = realQ e n d := rfl
    rw [hreal] at HL
    have hrb := realQ_bd e n d H.out
    have hem1 : -1022 ≤ eminI e := by unfold eminI; omega
    have hem2 : eminI e ≤ 0 := by unfold eminI; omega
    have hwe : IntKind.i64.wrap (eminI e - 1) = eminI e - 1 := by simp [IntKind.wrap, IntKind.bits, IntKind.signed]; split <;> omega
    have HC0 : Hid (Cells4 w2 w.heap.size e m (.slice (some ad) k3 c3) (.slice p4 k4 c4)) := ⟨HRF.out.a0, HRF.out.a1, HRF.out.b1, HRF.out.b2⟩
    clear HEM HEX hreal
    go_cut [8] (fun v8 wx => v8 = .int .i64 (realQ e n d) ∧ Hid (RF w wx e m neg (.slice (some ad) k3 c3) (.slice p4 k4 c4) n d))
    case first =>
      go_region_held3 (fun w' => Cells4 w' w.heap.size e m (.slice (some ad) k3 c3) (.slice p4 k4 c4))
        (first | exact HC0.out | exact HC0.out.ext (by (repeat apply Ext.drew); first | exact Ext.refl _ | assumption))
        (first
          | (go_at_call 39; refine (HEM'.out _).mono ?_; rintro r w3 ⟨rfl, hx3⟩; have hE : Ext w2 w3 := Ext.trans (by (repeat apply Ext.drew); first | exact Ext.refl _ | assumption) hx3; clear hx3)
          | (go_at_call 40; refine (HEX'.out _).mono ?_; rintro r w4 ⟨rfl, hx4⟩; have hE : Ext w2 w4 := Ext.trans (by (repeat apply Ext.drew); first | exact Ext.refl _ | assumption) hx4; clear hx4)
          | (go_at_call 38; refine (HL.out _ (by (repeat apply Ext.drew); first | exact Ext.refl _ | assumption)).mono ?_; rintro r w5 ⟨rfl, hx5⟩; have hE5 : Ext w2 w5 := Ext.trans (by (repeat apply Ext.drew); first | exact Ext.refl _ | assumption) hx5; clear hx5))
      all_goals go_wp2_with fail
      all_goals go_meet
      all_goals exact ⟨rfl, HRF.out.next (by (repeat apply Ext.drew); assumption)⟩
    case rest =>
      obtain ⟨rfl, HF⟩ := hcut
      clear HRF HC0 HL hwe
      have hex1 : expQ e n d = if realQ e n d < eminI e then eminI e else realQ e n d := by unfold expQ; split <;> omega
      have HV : Hid (rndV e m mode neg n d = if (bias e : Int) < expQ e n d then overV e m mode neg else packV e m mode neg (expQ e n d) (manQ e m mode neg n d)) := by show _ = _; unfold rndV; rw [if_neg (by omega)]
      have HVF : Hid (rndF e m mode neg n d = if (bias e : Int) < expQ e n d then 20 else packF e m (expQ e n d) (manQ e m mode neg n d) (smQ e m n d) (tinyQ e m mode neg n d)) := by show _ = _; unfold rndF; rw [if_neg (by omega)]
      have hexb : eminI e ≤ expQ e n d ∧ expQ e n d ≤ (bias e : Int) + 1 := by unfold expQ; omega
      obtain ⟨rl, hrl⟩ : ∃ rl, realQ e n d = rl := ⟨_, rfl⟩
      obtain ⟨ex, hex⟩ : ∃ ex, expQ e n d = ex := ⟨_, rfl⟩
      rw [hrl, hex] at hex1
      rw [hrl] at hrb
      rw [hex] at hexb
      have HRL := hide hrl
      have HEX2 := hide hex
      have HEX1 := hide hex1
      have hexA : (if rl < eminI e then eminI e else rl) = ex := hex1.symm
      have hexB : (if eminI e < rl then rl else eminI e) = ex := by rw [hex1]; split <;> split <;> omega
      rw [hrl]
      obtain ⟨a0, a1, b0, b1, b2⟩ : wc.cell? ⟨w.heap.size, 0, none⟩ = some (.int .u8 (e : Int)) ∧ wc.cell? ⟨w.heap.size, 1, none⟩ = some (.int .u8 (m : Int)) ∧ wc.cell? ⟨w.heap.size + 1, 0, none⟩ = some (.bool neg) ∧ wc.cell? ⟨w.heap.size + 1, 1, none⟩ = some (.slice (some ad) k3 c3) ∧ wc.cell? ⟨w.heap.size + 1, 2, none⟩ = some (.slice p4 k4 c4) := ⟨HF.out.a0, HF.out.a1, HF.out.b0, HF.out.b1, HF.out.b2⟩
      clear hrl hex hex1
      go_wp2_with fail
      refine (HEM'.out _).mono ?_
      rintro _ w6 ⟨rfl, hx6⟩
      have HF6 := hide (HF.out.next hx6)
      clear hx6 HF a0 a1 b0 b1 b2
      obtain ⟨a0, a1, b0, b1, b2⟩ := HF6.out.cells
      have HN := Box.mk hn
      have HDD := Box.mk hd
      have HD0 := Box.mk hd0
      have HKN := Box.mk (And.intro hkn hkd)
      clear hn hd hd0 hkn hkd hn0 hok
      go_wp2_with fail
      have HEXB := hide hexb
      have HRBB := hide hrb
      have HBB := hide hb
      clear hexA hexB HEX1
      by_cases hov : (bias e : Int) < ex
      · have HO := hide (overflow_any e m H.out mode neg)
        have HR : Hid (RndR e m mode neg n d (.tuple #[.int .u64 (overV e m mode neg : Int), .int .u8 20])) := by
          show _ = _
          rw [HV.out, HVF.out, HEX2.out, if_pos hov, if_pos hov]
        generalize (overV e m mode neg : Int) = oV at *
        refine (HEX'.out _).mono ?_
        rintro _ w7 ⟨rfl, hx7⟩
        have HF7 := hide (HF6.out.next hx7)
        clear hx7 HF6 a0 a1 b0 b1 b2
        obtain ⟨a0, a1, b0, b1, b2⟩ := HF7.out.cells
        go_wp2_with fail
        refine (HO.out _).mono ?_
        rintro _ w8 ⟨rfl, hx8⟩
        have HX := hide (HF7.out.ext.trans hx8)
        clear hx8
        go_wp2_with fail
        simp [bodyPost, results, Oacg.results45, go_sem]
        exact ⟨HR.out, HX.out⟩
      · have hme : (m : Int) ≤ 52 ∧ (2 : Int) ≤ (m : Int) := ⟨H.out.m2, H.out.m1⟩
        have hkb : -65535 ≤ (m : Int) - ex ∧ (m : Int) - ex ≤ 65535 := by omega
        have HMN0 := Box.mk (manQ_le H.out mode neg n d HD0.out (by rw [HEX2.out]; exact hov))
        have hmq : manQ e m mode neg n d = raisedN mode neg (shN n ((m : Int) - ex)) (shD d ((m : Int) - ex)) % 18446744073709551616 := by unfold manQ; rw [HEX2.out]
        have hsq : smQ e m n d = someQ (shN n ((m : Int) - ex)) (shD d ((m : Int) - ex)) := by unfold smQ; rw [HEX2.out]
        have HNB := Box.mk (shN_lt HN.out (j := (m : Int) - ex) hkb.2)
        have HDP := Box.mk (shD_pos HD0.out ((m : Int) - ex))
        have HSH := hide (fun wx (h1 : NatAt wx (.slice (some ad) k3 c3) n) (h2 : NatAt wx (.slice p4 k4 c4) d) => shift_any n d kn kd HN.out HDD.out (by have := HKN.out; omega) (by have := HKN.out; omega) ((m : Int) - ex) hkb.1 hkb.2 _ _ wx h1 h2)
        obtain ⟨NN, hNN⟩ : ∃ NN, shN n ((m : Int) - ex) = NN := ⟨_, rfl⟩
        obtain ⟨DD, hDD⟩ : ∃ DD, shD d ((m : Int) - ex) = DD := ⟨_, rfl⟩
        rw [hNN, hDD] at hmq hsq HSH
        rw [hNN] at HNB
        rw [hDD] at HDP
        have HRS := hide (fun vN vD wx (h1 : NatAt wx vN NN) (h2 : NatAt wx vD DD) => raised_any mode neg NN DD (kn + 2048) HNB.out (by have := HKN.out; omega) HDP.out vN vD wx h1 h2)
        obtain ⟨RN, hRN⟩ : ∃ RN, raisedN mode neg NN DD = RN := ⟨_, rfl⟩
        obtain ⟨half, hhalf⟩ : ∃ half, halfQ NN DD = half := ⟨_, rfl⟩
        obtain ⟨sm, hsm⟩ : ∃ sm, someQ NN DD = sm := ⟨_, rfl⟩
        rw [hRN, hhalf, hsm] at HRS
        rw [hRN] at hmq
        rw [hsm] at hsq
        have HMN : Box (RN % 18446744073709551616 ≤ 2 ^ (m + 1)) := ⟨by rw [← hmq]; exact HMN0.out⟩
        have HRES0 : Hid (∀ t, tinyQ e m mode neg n d = t → RndR e m mode neg n d (.tuple #[.int .u64 (packV e m mode neg ex (RN % 18446744073709551616) : Int), .int .u8 (packF e m ex (RN % 18446744073709551616) sm t)])) := by
          intro t ht
          show _ = _
          rw [HV.out, HVF.out, HEX2.out, if_neg hov, if_neg hov, hmq, hsq, ht]
        clear hNN hDD hRN hhalf hsm hmq hsq HMN0 HV HVF
        have hovi : ¬ (bias e : Int) < ex := hov
        have hbs : (bias e : Int) ≤ 1023 := by omega
        have hex3 : -1022 ≤ ex := by omega
        have hex4 : ex ≤ 1023 := by omega
        have hrl3 : -1025 ≤ rl := by omega
        have hrl4 : rl ≤ 1025 := by omega
        obtain ⟨hm52, hm2⟩ := hme
        clear hkb hb hexb hrb hbs
        refine (HEX'.out _).mono ?_
        rintro _ w7 ⟨rfl, hx7⟩
        have HF7 := hide (HF6.out.next hx7)
        clear hx7 HF6 a0 a1 b0 b1 b2
        obtain ⟨a0, a1, b0, b1, b2⟩ := HF7.out.cells
        go_wp2_with fail
        refine (HSH.out _ HF7.out.nn HF7.out.nd).mono ?_
        rintro _ w8 ⟨⟨_, rfl, vN, vD, rfl, hvN, hvD⟩, hx8⟩
        have HF8 := hide (HF7.out.next hx8)
        have HRS8 := hide (HRS.out vN vD w8 hvN hvD)
        clear hx8 HF7 a0 a1 b0 b1 b2 hvN hvD HSH HRS
        obtain ⟨a0, a1, b0, b1, b2⟩ := HF8.out.cells
        go_wp2_with fail
        refine HRS8.out.mono ?_
        rintro _ w9 ⟨⟨_, rfl, vR, rfl, hvR⟩, hx9⟩
        have HF9 := hide (HF8.out.next (hx9.alloc #[.int .i8 half, .bool sm] 68))
        have HVR9 := hide (hvR.ext ((Ext.refl w9).alloc #[.int .i8 half, .bool sm] 68))
        have hz9 : w.heap.size + 1 < w9.heap.size := (HF8.out.next hx9).lt
        clear hx9 HF8 a0 a1 b0 b1 b2 hvR HRS8
        obtain ⟨a0, a1, b0, b1, b2⟩ := HF9.out.cells
        have g0 : (w9.alloc (.cells #[.int .i8 half, .bool sm] 68)).cell? ⟨w9.heap.size, 0, none⟩ = some (.int .i8 half) := by simp [go_sem]
        have g1 : (w9.alloc (.cells #[.int .i8 half, .bool sm] 68)).cell? ⟨w9.heap.size, 1, none⟩ = some (.bool sm) := by simp [go_sem]
        obtain ⟨W9, hW9⟩ : ∃ W9, W9 = w9.alloc (.cells #[.int .i8 half, .bool sm] 68) := ⟨_, rfl⟩
        go_wp2_with fail
        try rw [← hW9]
        rw [← hW9] at HF9 HVR9 a0 a1 b0 b1 b2 g0 g1
        refine (HEM'.out _).mono ?_
        rintro _ w10 ⟨rfl, hx10⟩
        have HF10 := hide (HF9.out.next hx10)
        have HVR10 := hide (HVR9.out.ext hx10)
        have h0 := hx10.cell g0
        have h1 := hx10.cell g1
        clear hx10 HF9 HVR9 a0 a1 b0 b1 b2 g0 g1 hW9
        obtain ⟨a0, a1, b0, b1, b2⟩ := HF10.out.cells
        go_wp2_with fail
        refine (HEM'.out _).mono ?_
        rintro _ w11 ⟨rfl, hx11⟩
        have HF11 := hide (HF10.out.next hx11)
        have HVR11 := hide (HVR10.out.ext hx11)
        have g0 := hx11.cell h0
        have g1 := hx11.cell h1
        clear hx11 HF10 HVR10 a0 a1 b0 b1 b2 h0 h1
        obtain ⟨a0, a1, b0, b1, b2⟩ := HF11.out.cells
        by_cases hsub : rl = eminI e - 1
        · have t1 : (rl == eminI e - 1) = true := by rw [hsub]; simp
          have hkb2 : -65535 ≤ (m : Int) - rl ∧ (m : Int) - rl ≤ 65535 := by omega
          have HNB2 := Box.mk (shN_lt HN.out (j := (m : Int) - rl) hkb2.2)
          have HDP2 := Box.mk (shD_pos HD0.out ((m : Int) - rl))
          have HSH2 := hide (shift_any n d kn kd HN.out HDD.out (by have := HKN.out; omega) (by have := HKN.out; omega) ((m : Int) - rl) hkb2.1 hkb2.2 _ _ w11 HF11.out.nn HF11.out.nd)
          have HTY : Hid (tinyQ e m mode neg n d = decide ((bits (raisedN mode neg (shN n ((m : Int) - rl)) (shD d ((m : Int) - rl))) : Int) = (m : Int) + 1)) := by
            show _ = _
            unfold tinyQ fullQ
            rw [HRL.out, if_pos hsub]
          obtain ⟨N2, hN2⟩ : ∃ N2, shN n ((m : Int) - rl) = N2 := ⟨_, rfl⟩
          obtain ⟨D2, hD2⟩ : ∃ D2, shD d ((m : Int) - rl) = D2 := ⟨_, rfl⟩
          rw [hN2] at HNB2 HSH2 HTY
          rw [hD2] at HDP2 HSH2 HTY
          have HRS2 := hide (fun vN vD wx (h1 : NatAt wx vN N2) (h2 : NatAt wx vD D2) => raised_any mode neg N2 D2 (kn + 2048) HNB2.out (by have := HKN.out; omega) HDP2.out vN vD wx h1 h2)
          obtain ⟨half2, hhalf2⟩ : ∃ half2, halfQ N2 D2 = half2 := ⟨_, rfl⟩
          obtain ⟨sm2, hsm2⟩ : ∃ sm2, someQ N2 D2 = sm2 := ⟨_, rfl⟩
          have HRB := Box.mk (bits_W (Nat.lt_of_le_of_lt (raisedN_le (mode := mode) (neg := neg) (n := N2) (d := D2) (B := W (kn + 2048)) (Nat.lt_of_lt_of_le HNB2.out (Nat.le_mul_of_pos_left _ HDP2.out)) HDP2.out) (show W (kn + 2048) < W (kn + 2048 + 1) by have h1 := W_succ (kn + 2048); have h2 := W_pos (kn + 2048); omega)))
          rw [hhalf2, hsm2] at HRS2
          obtain ⟨R2, hR2⟩ : ∃ R2, raisedN mode neg N2 D2 = R2 := ⟨_, rfl⟩
          rw [hR2] at HRS2 HTY HRB
          clear hN2 hD2 hhalf2 hsm2 hR2 hsub HNB2 HDP2
          go_wp2_with fail
          refine HSH2.out.mono ?_
          rintro _ w12 ⟨⟨_, rfl, vN2, vD2, rfl, hvN2, hvD2⟩, hx12⟩
          have HF12 := hide (HF11.out.next hx12)
          have HVR12 := hide (HVR11.out.ext hx12)
          have h0 := hx12.cell g0
          have h1 := hx12.cell g1
          have HRS12 := hide (HRS2.out vN2 vD2 w12 hvN2 hvD2)
          clear hx12 HF11 HVR11 a0 a1 b0 b1 b2 g0 g1 hvN2 hvD2 HSH2 HRS2
          obtain ⟨a0, a1, b0, b1, b2⟩ := HF12.out.cells
          go_wp2_with fail
          refine HRS12.out.mono ?_
          rintro _ w13 ⟨⟨_, rfl, vR2, rfl, hvR2⟩, hx13⟩
          have hxa := hx13.alloc #[.int .i8 half2, .bool sm2] 68
          have HF13 := hide (HF12.out.next hxa)
          have HVR := hide (HVR12.out.ext hxa)
          have g0 := hxa.cell h0
          have g1 := hxa.cell h1
          have HBL := hide (fun k => bitLen_any R2 vR2 ((w13.alloc (.cells #[.int .i8 half2, .bool sm2] 68)).drewN k) (hvR2.ext (((Ext.refl w13).alloc _ _).drewN k)))
          clear hx13 hxa HF12 HVR12 a0 a1 b0 b1 b2 h0 h1 hvR2 HRS12
          have hrb2 : (bits R2 : Int) ≤ 34359738368 := by have := HRB.out; have := HKN.out; omega
          obtain ⟨WA, hWA⟩ : ∃ WA, WA = w13.alloc (.cells #[.int .i8 half2, .bool sm2] 68) := ⟨_, rfl⟩
          go_wp2_with fail
          rw [← hWA] at HF13 HVR g0 g1 HBL ⊢
          clear hWA
          obtain ⟨a0, a1, b0, b1, b2⟩ := HF13.out.cells
          go_quiet ((go_at_call 42; exact Calls.quiet_of_same (HBL.out _)))
          obtain ⟨WB, hWB⟩ : ∃ WB, WB = WA.drewN nq := ⟨_, rfl⟩
          have HFB : Hid (RF w WB e m neg (.slice (some ad) k3 c3) (.slice p4 k4 c4) n d) := by rw [hWB]; exact HF13.out.next ((Ext.refl _).drewN nq)
          have hxB : Ext WA WB := by rw [hWB]; exact (Ext.refl _).drewN nq
          replace HVR := hide (HVR.out.ext hxB)
          replace g0 := hxB.cell g0
          replace g1 := hxB.cell g1
          clear HF13 a0 a1 b0 b1 b2 HBL hxB
          obtain ⟨a0, a1, b0, b1, b2⟩ := HFB.out.cells
          rw [← hWB]
          clear hWB
          obtain ⟨ty, hty⟩ : ∃ ty, decide ((bits R2 : Int) = (m : Int) + 1) = ty := ⟨_, rfl⟩
          have hty2 : ((bits R2 : Int) == (m : Int) + 1) = ty := by rw [← hty]; rfl
          have HRES := hide (HRES0.out ty (by rw [HTY.out]; exact hty))
          clear HTY hty HRES0
          have HTU := hide (fun wx (hx : Ext WB wx) => toU64_any RN vR wx (HVR.out.ext hx))
          have HPK := hide (fun wx => pack_any e m H.out mode neg ex HEXB.out.1 (by have := hovi; omega) (RN % 18446744073709551616) HMN.out half sm ty wx)
          have HC5 : Hid (Cells5 WB w.heap.size w9.heap.size e m neg half sm) := ⟨a0, a1, b0, g0, g1⟩
          go_wp2_with fail
          go_region_held3 (fun w' => Cells5 w' w.heap.size w9.heap.size e m neg half sm)
            (first | exact HC5.out | exact HC5.out.ext (by (repeat apply Ext.drew); first | exact Ext.refl _ | assumption))
            (first
              | (go_at_call 44; refine (HTU.out _ (by (repeat apply Ext.drew); first | exact Ext.refl _ | assumption)).mono ?_; rintro r wt ⟨rfl, rfl⟩)
              | (go_at_call 43; refine (HPK.out _).mono ?_; rintro r wp ⟨rfl, hxp⟩; have hEp : Ext WB wp := Ext.trans (by (repeat apply Ext.drew); first | exact Ext.refl _ | assumption) hxp; clear hxp))
          all_goals go_wp2_with fail
          all_goals simp [bodyPost, results, Oacg.results45, go_sem]
          all_goals exact ⟨HRES.out, HFB.out.ext.trans (by (repeat apply Ext.drew); assumption)⟩
        · have t1 : (rl == eminI e - 1) = false := by simpa using hsub
          have hty : tinyQ e m mode neg n d = decide (rl < eminI e) := by unfold tinyQ; rw [HRL.out, if_neg hsub]
          obtain ⟨ty, hty2⟩ : ∃ ty, decide (rl < eminI e) = ty := ⟨_, rfl⟩
          have HRES := hide (HRES0.out ty (by rw [hty]; exact hty2))
          obtain ⟨WB, hWB⟩ : ∃ WB, WB = w11 := ⟨_, rfl⟩
          have HFB := HF11
          have HVR := HVR11
          clear hty HRES0 HF11 HVR11
          subst hWB
          have HTU := hide (fun wx (hx : Ext WB wx) => toU64_any RN vR wx (HVR.out.ext hx))
          have HPK := hide (fun wx => pack_any e m H.out mode neg ex HEXB.out.1 (by have := hovi; omega) (RN % 18446744073709551616) HMN.out half sm ty wx)
          have HC5 : Hid (Cells5 WB w.heap.size w9.heap.size e m neg half sm) := ⟨a0, a1, b0, g0, g1⟩
          go_wp2_with fail
          go_region_held3 (fun w' => Cells5 w' w.heap.size w9.heap.size e m neg half sm)
            (first | exact HC5.out | exact HC5.out.ext (by (repeat apply Ext.drew); first | exact Ext.refl _ | assumption))
            (first
              | (go_at_call 44; refine (HTU.out _ (by (repeat apply Ext.drew); first | exact Ext.refl _ | assumption)).mono ?_; rintro r wt ⟨rfl, rfl⟩)
              | (go_at_call 43; refine (HPK.out _).mono ?_; rintro r wp ⟨rfl, hxp⟩; have hEp : Ext WB wp := Ext.trans (by (repeat apply Ext.drew); first | exact Ext.refl _ | assumption) hxp; clear hxp))
          all_goals go_wp2_with fail
          all_goals simp [bodyPost, results, Oacg.results45, go_sem]
          all_goals exact ⟨HRES.out, HFB.out.ext.trans (by (repeat apply Ext.drew); assumption)⟩
end Go.Proofs.YgcoacGreat
