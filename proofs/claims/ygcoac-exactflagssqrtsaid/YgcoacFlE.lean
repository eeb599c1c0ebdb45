/-
  law.isTiny.
-/
import Derived.Test.YgcoacFlD
import Derived.Test.YgcoacExD
namespace Go.Proofs.Ygcoac
open Go.RowKit
set_option linter.unusedSimpArgs false
set_option linter.unusedVariables false

theorem two_lt_W {a b : Nat} (h : a < 32 * b) : 2 ^ a < W b := by rw [W_pow]; exact Nat.pow_lt_pow_right (by decide) h
theorem p2N_lt {k : Int} (h : k ≤ 3100) : p2N k < W 100 := two_lt_W (by omega)
theorem p2D_lt {k : Int} (h : -3100 ≤ k) : p2D k < W 100 := two_lt_W (by omega)

theorem two_W {n k : Nat} (h : n < W k) : n * 2 < W (k + 1) := by
  rw [W_succ]; omega
theorem rndV_lt {e m : Nat} (h : Fm e m) (mode : Int) (neg : Bool) (n d : Nat) (hd : 0 < d) : rndV e m mode neg n d < 18446744073709551616 := by
  have hs := sgn_bd h
  have hi := infP_bd h
  have hg : sg e m neg ≤ sgn e m := by unfold sg; split <;> omega
  have ho : overV e m mode neg < 18446744073709551616 := by unfold overV maxV infV; split <;> omega
  unfold rndV
  split
  · omega
  · split
    · exact ho
    · unfold packV
      split
      · exact ho
      · omega
abbrev CellsR (w' : World) (B : Nat) (neg : Bool) (vn vd : Value) : Prop := w'.cell? ⟨B, 0, none⟩ = some (.bool neg) ∧ w'.cell? ⟨B, 1, none⟩ = some vn ∧ w'.cell? ⟨B, 2, none⟩ = some vd
theorem CellsR.ext {w w' : World} {B : Nat} {neg : Bool} {vn vd : Value} (h : CellsR w B neg vn vd) (x : Ext w w') : CellsR w' B neg vn vd := ⟨x.cell h.1, x.cell h.2.1, x.cell h.2.2⟩
theorem RF.cr {w wr : World} {e m : Nat} {neg : Bool} {vn vd : Value} {n d : Nat} (h : RF w wr e m neg vn vd n d) : CellsR wr (w.heap.size + 1) neg vn vd := ⟨h.b0, h.b1, h.b2⟩

set_option maxRecDepth 20000 in
set_option maxHeartbeats 2000000 in
theorem isTiny_any (e m : Nat) (h : Fm e m) (mode : Int) (neg : Bool) (n d k : Nat) (hn : n < W k) (hd : d < W k) (hk1 : 100 ≤ k) (hk : k ≤ 400000) (hd0 : 0 < d) (v : Value) (w : World) (hv : RatAt w v neg n d) :
    Calls Oacg.prog 110 #[.agg #[.int .u8 (e : Int), .int .u8 (m : Int)], .int .u8 mode, v] w fun r w' => r = .returned (.bool (tinyL e m mode neg n d)) ∧ Ext w w' := by
  obtain ⟨p1, k1, c1, p2, k2, c2, rfl, hvn, hvd⟩ := hv
  obtain ⟨W0, hW0⟩ : ∃ W0, W0 = (w.alloc (.cells #[.int .u8 (e : Int), .int .u8 (m : Int)] 23)).alloc (.cells #[.bool neg, .slice p1 k1 c1, .slice p2 k2 c2] 37) := ⟨_, rfl⟩
  have HX0 : Hid (Ext w W0) := by rw [hW0]; exact ((Ext.refl _).alloc _ _).alloc _ _
  have HRF : Hid (RF w W0 e m neg (.slice p1 k1 c1) (.slice p2 k2 c2) n d) := by
    refine ⟨HX0.out, ?_, ?_, ?_, ?_, ?_, hvn.ext HX0.out, hvd.ext HX0.out⟩ <;> rw [hW0] <;> simp [go_sem]
  have HB := hide (biasOf_any e m h)
  have hb := bias_bd h
  obtain ⟨Res, hR⟩ : ∃ Res, tinyL e m mode neg n d = Res := ⟨_, rfl⟩
  rw [hR]
  have HR := Box.mk hR
  clear hR
  go_enter Oacg.func110, Oacg.ntmps110
  go_wp2_with fail
  rw [← hW0]
  clear hW0
  refine (HB.out _).mono ?_
  rintro _ w1 ⟨rfl, hx1⟩
  have HRF1 := hide (HRF.out.next hx1)
  clear hx1 HB
  have hl1 : -1100 ≤ leastQ e := by unfold leastQ; omega
  have hl2 : leastQ e ≤ 0 := by unfold leastQ; omega
  have HCS := hide (fun wx u (K : Int) (hx : Ext w wx) (q1 : -1200 ≤ K) (q2 : K ≤ 1200) (hu : RatAt wx u false (p2N K) (p2D K)) => cmpSize_any neg false n d (p2N K) (p2D K) k hn hd (lt_W_mono (p2N_lt (by omega)) hk1) (lt_W_mono (p2D_lt (by omega)) hk1) (by omega) (.agg #[.bool neg, .slice p1 k1 c1, .slice p2 k2 c2]) u wx ⟨_, _, _, _, _, _, rfl, hvn.ext hx, hvd.ext hx⟩ hu)
  have HRAT : Hid (∀ wx, Ext w wx → RatAt wx (.agg #[.bool neg, .slice p1 k1 c1, .slice p2 k2 c2]) neg n d) := fun wx hx => ⟨_, _, _, _, _, _, rfl, hvn.ext hx, hvd.ext hx⟩
  clear hvn hvd
  go_wp2_with fail
  rw [show 1 - (bias e : Int) = leastQ e from rfl]
  have HC1 := hide HRF1.out.cr
  go_cut [17] (fun v wx => v = .bool (decide (0 ≤ csQ n d (p2N (leastQ e)) (p2D (leastQ e)))) ∧ Hid (RF w wx e m neg (.slice p1 k1 c1) (.slice p2 k2 c2) n d))
  case first =>
    go_region_held3 (fun w' => CellsR w' (w.heap.size + 1) neg (.slice p1 k1 c1) (.slice p2 k2 c2))
      (first | exact HC1.out | exact HC1.out.ext (by (repeat apply Ext.drew); first | exact Ext.refl _ | assumption))
      (first
        | (go_at_call 54; refine (pow2Frac_any (leastQ e) (by omega) (by omega) _).mono ?_; rintro r w2 ⟨⟨u, rfl, hu⟩, hx2⟩; have HU := hide hu; have hE : Ext w1 w2 := Ext.trans (by (repeat apply Ext.drew); first | exact Ext.refl _ | assumption) hx2; clear hx2 hu)
        | (go_at_call 109; refine (HCS.out _ _ (leastQ e) (HRF1.out.ext.trans (by (repeat apply Ext.drew); assumption)) (by omega) (by omega) (HU.out.ext (by (repeat apply Ext.drew); exact Ext.refl _))).mono ?_; rintro r w3 ⟨rfl, hx3⟩; have hE3 : Ext w1 w3 := Ext.trans (by (repeat apply Ext.drew); assumption) hx3; clear hx3))
    all_goals go_wp2_with fail
    all_goals go_meet
    all_goals exact ⟨rfl, HRF1.out.next (by (repeat apply Ext.drew); assumption)⟩
  case rest =>
    obtain ⟨rfl, HRF2⟩ := hcut
    clear HRF1 HC1 HRF
    by_cases z1 : 0 ≤ csQ n d (p2N (leastQ e)) (p2D (leastQ e))
    · have hR := HR.out
      unfold tinyL at hR
      rw [if_pos z1] at hR
      subst hR
      rw [decide_eq_true z1]
      clear z1
      go_wp2_with fail
      go_ret
      exact ⟨rfl, HRF2.out.ext⟩
    · rw [decide_eq_false z1]
      have Z1 := Box.mk z1
      clear z1
      have hwe : IntKind.i64.wrap (leastQ e - 1) = leastQ e - 1 := by rw [Go.IntWalk.i64_left]; exact w64_of (by omega) (by omega)
      go_wp2_with fail
      have HC1 := hide HRF2.out.cr
      go_cut [23] (fun v wx => v = .bool (decide (csQ n d (p2N (leastQ e - 1)) (p2D (leastQ e - 1)) < 0)) ∧ Hid (RF w wx e m neg (.slice p1 k1 c1) (.slice p2 k2 c2) n d))
      case first =>
        go_region_held3 (fun w' => CellsR w' (w.heap.size + 1) neg (.slice p1 k1 c1) (.slice p2 k2 c2))
          (first | exact HC1.out | exact HC1.out.ext (by (repeat apply Ext.drew); first | exact Ext.refl _ | assumption))
          (first
            | (go_at_call 54; refine (pow2Frac_any (leastQ e - 1) (by omega) (by omega) _).mono ?_; rintro r w2 ⟨⟨u, rfl, hu⟩, hx2⟩; have HU := hide hu; have hE : Ext wc w2 := Ext.trans (by (repeat apply Ext.drew); first | exact Ext.refl _ | assumption) hx2; clear hx2 hu)
            | (go_at_call 109; refine (HCS.out _ _ (leastQ e - 1) (HRF2.out.ext.trans (by (repeat apply Ext.drew); assumption)) (by omega) (by omega) (HU.out.ext (by (repeat apply Ext.drew); exact Ext.refl _))).mono ?_; rintro r w3 ⟨rfl, hx3⟩; have hE3 : Ext wc w3 := Ext.trans (by (repeat apply Ext.drew); assumption) hx3; clear hx3))
        all_goals go_wp2_with fail
        all_goals go_meet
        all_goals exact ⟨rfl, HRF2.out.next (by (repeat apply Ext.drew); assumption)⟩
      case rest =>
        obtain ⟨rfl, HRF3⟩ := hcut
        clear HRF2 HC1
        by_cases z2 : csQ n d (p2N (leastQ e - 1)) (p2D (leastQ e - 1)) < 0
        · have hR := HR.out
          unfold tinyL at hR
          rw [if_neg (by have := Z1.out; omega), if_pos z2] at hR
          subst hR
          rw [decide_eq_true z2]
          clear z2
          go_wp2_with fail
          go_ret
          exact ⟨rfl, HRF3.out.ext⟩
        · rw [decide_eq_false z2]
          have Z2 := Box.mk z2
          clear z2
          have MF := hide (fun wx u (hx : Ext w wx) (hu : RatAt wx u false (p2N 1) (p2D 1)) => mulFrac_any neg false n d (p2N 1) (p2D 1) k hn hd (lt_W_mono (p2N_lt (by omega)) hk1) (lt_W_mono (p2D_lt (by omega)) hk1) (by omega) (.agg #[.bool neg, .slice p1 k1 c1, .slice p2 k2 c2]) u wx (HRAT.out wx hx) hu)
          rw [show (!(neg == false)) = neg by cases neg <;> rfl, show d * p2D 1 = d from Nat.mul_one d, show n * p2N 1 = n * 2 from rfl] at MF
          have HRD := hide (fun wx u (hu : RatAt wx u neg (n * 2) d) => round_any e m h mode neg (n * 2) d (k + 1) k (two_W hn) hd (by omega) (by omega) hd0 u wx hu)
          obtain ⟨X, hX⟩ : ∃ X, rndV e m mode neg (n * 2) d = X := ⟨_, rfl⟩
          have hXl : X < 18446744073709551616 := by rw [← hX]; exact rndV_lt h mode neg _ _ hd0
          rw [hX] at HRD
          have HVA := hide (value_any e m h X hXl)
          have hR := HR.out
          unfold tinyL at hR
          rw [if_neg (by have := Z1.out; omega), if_neg (by have := Z2.out; omega), hX] at hR
          have HR2 := Box.mk hR
          have HC1 := hide HRF3.out.cells
          have HC1e : Hid (∀ w', Ext wc w' → w'.cell? ⟨w.heap.size, 0, none⟩ = some (.int .u8 (e : Int)) ∧ w'.cell? ⟨w.heap.size, 1, none⟩ = some (.int .u8 (m : Int)) ∧ w'.cell? ⟨w.heap.size + 1, 0, none⟩ = some (.bool neg) ∧ w'.cell? ⟨w.heap.size + 1, 1, none⟩ = some (.slice p1 k1 c1) ∧ w'.cell? ⟨w.heap.size + 1, 2, none⟩ = some (.slice p2 k2 c2)) := fun w' hx => (HRF3.out.next hx).cells
          clear hX hR HR Z1 Z2 hXl
          go_wp2_with fail
          go_cut [8] (fun v8 wx => ∃ B p5 k5 c5 p6 k6 c6 ng, v8 = .pointer (some ⟨B, 0, none⟩) ∧ CellsR wx B ng (.slice p5 k5 c5) (.slice p6 k6 c6) ∧ Hid (NatAt wx (.slice p5 k5 c5) (vNum e m X) ∧ NatAt wx (.slice p6 k6 c6) (vDen e m X)) ∧ Hid (Ext wc wx))
          case first =>
            go_region_held3 (fun w' => w'.cell? ⟨w.heap.size, 0, none⟩ = some (.int .u8 (e : Int)) ∧ w'.cell? ⟨w.heap.size, 1, none⟩ = some (.int .u8 (m : Int)) ∧ w'.cell? ⟨w.heap.size + 1, 0, none⟩ = some (.bool neg) ∧ w'.cell? ⟨w.heap.size + 1, 1, none⟩ = some (.slice p1 k1 c1) ∧ w'.cell? ⟨w.heap.size + 1, 2, none⟩ = some (.slice p2 k2 c2))
              (first | exact HC1.out | exact HC1e.out _ (by (repeat (first | apply Ext.drew | apply Ext.alloc)); first | exact Ext.refl _ | assumption) | exact HC1e.out _ (R.extSet (by first | exact Nat.le_refl _ | assumption) (R.extSet (by first | exact Nat.le_refl _ | assumption) (R.extSet (by first | exact Nat.le_refl _ | assumption) (by assumption)))))
              (first
                | (go_at_call 54; refine (pow2Frac_any 1 (by decide) (by decide) _).mono ?_; rintro r w5 ⟨⟨u5, rfl, hu5⟩, hx5⟩; have HU5 := hide hu5; clear hu5; have hP : Ext wc w5 := Ext.trans (by (repeat (first | apply Ext.drew | apply Ext.alloc)); exact Ext.refl _) hx5; (try (replace r0 := hP.cell r0; replace r1 := hP.cell r1; replace r2 := hP.cell r2; replace rf : ∀ i, w5.frozen? _ = false := fun i => (by rw [hP.froz]; exact rf i))); (try (have hF : Ext (wc.alloc (.cells #[.bool false, .slice none 0 0, .slice none 0 0] 37)) w5 := Ext.trans (by (repeat apply Ext.drew); exact Ext.refl _) hx5; obtain ⟨r0, r1, r2, rf⟩ := fresh3 hF; clear hF)); have hEw5 : Ext wc w5 := Ext.trans (by (repeat (first | apply Ext.drew | apply Ext.alloc)); first | exact Ext.refl _ | assumption) hP; have hsw5 : wc.heap.size ≤ w5.heap.size := hEw5.size; clear hP hx5)
                | (go_at_call 49; refine (MF.out _ _ (HRF3.out.ext.trans (by (repeat (first | apply Ext.drew | apply Ext.alloc)); first | exact Ext.refl _ | assumption)) (HU5.out.ext (by (repeat (first | apply Ext.drew | apply Ext.alloc)); first | exact Ext.refl _ | assumption))).mono ?_; rintro r w6 ⟨⟨u6, rfl, hu6⟩, hx6⟩; have HU6 := hide hu6; clear hu6; have hP : Ext w5 w6 := Ext.trans (by (repeat (first | apply Ext.drew | apply Ext.alloc)); exact Ext.refl _) hx6; (try (replace r0 := hP.cell r0; replace r1 := hP.cell r1; replace r2 := hP.cell r2; replace rf : ∀ i, w6.frozen? _ = false := fun i => (by rw [hP.froz]; exact rf i))); (try (have hF : Ext (w5.alloc (.cells #[.bool false, .slice none 0 0, .slice none 0 0] 37)) w6 := Ext.trans (by (repeat apply Ext.drew); exact Ext.refl _) hx6; obtain ⟨r0, r1, r2, rf⟩ := fresh3 hF; clear hF)); have hEw6 : Ext wc w6 := Ext.trans (by (repeat (first | apply Ext.drew | apply Ext.alloc)); first | exact Ext.refl _ | assumption) hP; have hsw6 : wc.heap.size ≤ w6.heap.size := hEw6.size; clear hP hx6)
                | (go_at_call 21; refine (HRD.out _ _ (HU6.out.ext (by (repeat (first | apply Ext.drew | apply Ext.alloc)); first | exact Ext.refl _ | assumption))).mono ?_; rintro r w7 ⟨rfl, hx7⟩; have hP : Ext w6 w7 := Ext.trans (by (repeat (first | apply Ext.drew | apply Ext.alloc)); exact Ext.refl _) hx7; (try (replace r0 := hP.cell r0; replace r1 := hP.cell r1; replace r2 := hP.cell r2; replace rf : ∀ i, w7.frozen? _ = false := fun i => (by rw [hP.froz]; exact rf i))); (try (have hF : Ext (w6.alloc (.cells #[.bool false, .slice none 0 0, .slice none 0 0] 37)) w7 := Ext.trans (by (repeat apply Ext.drew); exact Ext.refl _) hx7; obtain ⟨r0, r1, r2, rf⟩ := fresh3 hF; clear hF)); have hEw7 : Ext wc w7 := Ext.trans (by (repeat (first | apply Ext.drew | apply Ext.alloc)); first | exact Ext.refl _ | assumption) hP; have hsw7 : wc.heap.size ≤ w7.heap.size := hEw7.size; clear hP hx7)
                | (go_at_call 20; refine (HVA.out _).mono ?_; rintro r w8 ⟨⟨u8, rfl, p5, k5, c5, p6, k6, c6, rfl, hn5, hd5⟩, hx8⟩; have HN5 := hide hn5; have HD5 := hide hd5; clear hn5 hd5; have hP : Ext w7 w8 := Ext.trans (by (repeat (first | apply Ext.drew | apply Ext.alloc)); exact Ext.refl _) hx8; (try (replace r0 := hP.cell r0; replace r1 := hP.cell r1; replace r2 := hP.cell r2; replace rf : ∀ i, w8.frozen? _ = false := fun i => (by rw [hP.froz]; exact rf i))); (try (have hF : Ext (w7.alloc (.cells #[.bool false, .slice none 0 0, .slice none 0 0] 37)) w8 := Ext.trans (by (repeat apply Ext.drew); exact Ext.refl _) hx8; obtain ⟨r0, r1, r2, rf⟩ := fresh3 hF; clear hF)); have hEw8 : Ext wc w8 := Ext.trans (by (repeat (first | apply Ext.drew | apply Ext.alloc)); first | exact Ext.refl _ | assumption) hP; have hsw8 : wc.heap.size ≤ w8.heap.size := hEw8.size; clear hP hx8))
            all_goals go_wp2_with fail
            all_goals go_meet
            all_goals first
              | (have _r := r0; exact ⟨_, p5, k5, c5, p6, k6, c6, vNeg e m X, rfl, set3_cells r0 r1 r2 _ _ _, ⟨keeps_rat r0 r1 r2 rfl rfl rfl _ _ _ _ _ HN5.out, keeps_rat r0 r1 r2 rfl rfl rfl _ _ _ _ _ HD5.out⟩, (R.extSet (by first | exact Nat.le_refl _ | assumption) (R.extSet (by first | exact Nat.le_refl _ | assumption) (R.extSet (by first | exact Nat.le_refl _ | assumption) (by assumption))))⟩)
              | exact ⟨w8.heap.size, p5, k5, c5, p6, k6, c6, vNeg e m X, rfl, ⟨by simp, by simp, by simp⟩, ⟨HN5.out.ext ((Ext.refl _).alloc _ _), HD5.out.ext ((Ext.refl _).alloc _ _)⟩, hEw8.alloc _ _⟩
          case rest =>
            obtain ⟨B, p5, k5, c5, p6, k6, c6, ng, rfl, hcb, HN, HX⟩ := hcut
            have HXX := hide (HRF3.out.ext.trans HX.out)
            have HCB := hide hcb
            have hwe1 : IntKind.i64.wrap (leastQ e + 1) = leastQ e + 1 := by rw [Go.IntWalk.i64_left]; exact w64_of (by omega) (by omega)
            have HCS2 := hide (fun wx u (hx : Ext wc wx) (hu : RatAt wx u false (p2N (leastQ e + 1)) (p2D (leastQ e + 1))) => cmpSize_any ng false (vNum e m X) (vDen e m X) (p2N (leastQ e + 1)) (p2D (leastQ e + 1)) k (lt_W_mono (vNum_lt h X) hk1) (lt_W_mono (vDen_lt h X) hk1) (lt_W_mono (p2N_lt (by omega)) hk1) (lt_W_mono (p2D_lt (by omega)) hk1) (by omega) (.agg #[.bool ng, .slice p5 k5 c5, .slice p6 k6 c6]) u wx ⟨_, _, _, _, _, _, rfl, HN.out.1.ext hx, HN.out.2.ext hx⟩ hu)
            clear hwe HRF3 MF HRD HVA HC1 HC1e HX HN HCS
            go_wp2_with fail
            go_region_held3 (fun w' => CellsR w' B ng (.slice p5 k5 c5) (.slice p6 k6 c6))
              (first | exact HCB.out | exact HCB.out.ext (by (repeat apply Ext.drew); first | exact Ext.refl _ | assumption))
              (first
                | (go_at_call 54; refine (pow2Frac_any (leastQ e + 1) (by omega) (by omega) _).mono ?_; rintro r w9 ⟨⟨u9, rfl, hu⟩, hx9⟩; have HU := hide hu; have hE : Ext wc w9 := Ext.trans (by (repeat apply Ext.drew); first | exact Ext.refl _ | assumption) hx9; clear hx9 hu)
                | (go_at_call 109; refine (HCS2.out _ _ (by (repeat apply Ext.drew); assumption) (HU.out.ext (by (repeat apply Ext.drew); exact Ext.refl _))).mono ?_; rintro r w10 ⟨rfl, hx10⟩; have hE3 : Ext wc w10 := Ext.trans (by (repeat apply Ext.drew); assumption) hx10; clear hx10))
            all_goals go_wp2_with fail
            all_goals go_ret
            all_goals exact ⟨ret_bool HR2.out, HXX.out.trans (by (repeat apply Ext.drew); assumption)⟩
end Go.Proofs.Ygcoac
