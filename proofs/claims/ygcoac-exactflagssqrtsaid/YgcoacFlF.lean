/-
  law.wantFlags.
-/
import Derived.Test.YgcoacFlE
import Derived.Test.YgcoacExI
namespace Go.Proofs.Ygcoac
open Go.RowKit
set_option linter.unusedSimpArgs false
set_option linter.unusedVariables false

set_option maxRecDepth 20000 in
set_option maxHeartbeats 2000000 in
theorem wantFlags_any (e m : Nat) (h : Fm e m) (mode : Int) (neg : Bool) (n d k : Nat) (hn : n < W k) (hd : d < W k) (hk1 : 100 ≤ k) (hk : k ≤ 400000) (hd0 : 0 < d) (x : Nat) (hx : x < 18446744073709551616) (v : Value) (w : World) (hv : RatAt w v neg n d) :
    Calls Oacg.prog 51 #[.agg #[.int .u8 (e : Int), .int .u8 (m : Int)], .int .u8 mode, v, .int .u64 (x : Int)] w fun r w' => r = .returned (.int .u8 (wantQ e m mode neg n d x)) ∧ Ext w w' := by
  obtain ⟨p1, k1, c1, p2, k2, c2, rfl, hvn, hvd⟩ := hv
  obtain ⟨W0, hW0⟩ : ∃ W0, W0 = (w.alloc (.cells #[.int .u8 (e : Int), .int .u8 (m : Int)] 23)).alloc (.cells #[.bool neg, .slice p1 k1 c1, .slice p2 k2 c2] 37) := ⟨_, rfl⟩
  have HX0 : Hid (Ext w W0) := by rw [hW0]; exact ((Ext.refl _).alloc _ _).alloc _ _
  have HRF : Hid (RF w W0 e m neg (.slice p1 k1 c1) (.slice p2 k2 c2) n d) := by
    refine ⟨HX0.out, ?_, ?_, ?_, ?_, ?_, hvn.ext HX0.out, hvd.ext HX0.out⟩ <;> rw [hW0] <;> simp [go_sem]
  have HVA := hide (value_any e m h x hx)
  have HFI := hide (isFinite_any e m h x hx)
  have HB := hide (biasOf_any e m h)
  have HT := hide (fun wx (hxx : Ext w wx) => isTiny_any e m h mode neg n d k hn hd hk1 hk hd0 (.agg #[.bool neg, .slice p1 k1 c1, .slice p2 k2 c2]) wx ⟨_, _, _, _, _, _, rfl, hvn.ext hxx, hvd.ext hxx⟩)
  have HCS := hide (fun wx u (hxx : Ext w wx) (hu : RatAt wx u false (p2N ((bias e : Int) + 1)) (p2D ((bias e : Int) + 1))) => cmpSize_any neg false n d (p2N ((bias e : Int) + 1)) (p2D ((bias e : Int) + 1)) k hn hd (lt_W_mono (p2N_lt (by have := bias_bd h; omega)) hk1) (lt_W_mono (p2D_lt (by omega)) hk1) (by omega) (.agg #[.bool neg, .slice p1 k1 c1, .slice p2 k2 c2]) u wx ⟨_, _, _, _, _, _, rfl, hvn.ext hxx, hvd.ext hxx⟩ hu)
  have HCV := hide (fun wx vn q1 l1 d1 q2 l2 d2 (hxx : Ext w wx) (u1 : NatAt wx (.slice q1 l1 d1) (vNum e m x)) (u2 : NatAt wx (.slice q2 l2 d2) (vDen e m x)) => cmpSize_any vn neg (vNum e m x) (vDen e m x) n d k (lt_W_mono (vNum_lt h x) hk1) (lt_W_mono (vDen_lt h x) hk1) hn hd (by omega) (.agg #[.bool vn, .slice q1 l1 d1, .slice q2 l2 d2]) (.agg #[.bool neg, .slice p1 k1 c1, .slice p2 k2 c2]) wx ⟨_, _, _, _, _, _, rfl, u1, u2⟩ ⟨_, _, _, _, _, _, rfl, hvn.ext hxx, hvd.ext hxx⟩)
  rw [cls_fin] at HFI
  have hb := bias_bd h
  have hl := hvn.len0
  obtain ⟨Res, hR⟩ : ∃ Res, wantQ e m mode neg n d x = Res := ⟨_, rfl⟩
  rw [hR]
  unfold wantQ at hR
  have HR := Box.mk hR
  clear hR hvn hvd hn hd hd0 hk hk1 hx h
  go_enter Oacg.func51, Oacg.ntmps51
  go_wp2_with fail
  rw [← hW0]
  clear hW0
  refine (HVA.out _).mono ?_
  rintro _ w1 ⟨⟨u1, rfl, p5, k5, c5, p6, k6, c6, rfl, hn5, hd5⟩, hx1⟩
  obtain ⟨W1, hW1⟩ : ∃ W1, W1 = w1.alloc (.cells #[.bool (vNeg e m x), .slice p5 k5 c5, .slice p6 k6 c6] 37) := ⟨_, rfl⟩
  have hxa : Ext w1 W1 := by rw [hW1]; exact (Ext.refl w1).alloc _ _
  have HRF1 := hide (HRF.out.next (hx1.trans hxa))
  have HCV1 : Hid (CellsR W1 w1.heap.size (vNeg e m x) (.slice p5 k5 c5) (.slice p6 k6 c6)) := by rw [hW1]; exact ⟨by simp, by simp, by simp⟩
  have HN5 := hide (hn5.ext hxa)
  have HD5 := hide (hd5.ext hxa)
  obtain ⟨a0, a1, b0, b1, b2⟩ := (HRF.out.next hx1).cells
  have hz1 : w.heap.size + 1 < w1.heap.size := World.block_lt_of_cell? _ _ ((HRF.out.next hx1).b0)
  have hz0 : w.heap.size < w1.heap.size := by omega
  clear hn5 hd5 hx1 hxa HRF HVA
  by_cases hz : n = 0
  · have hl2 : ((k1 : Int) == 0) = true := by rw [hl]; simp [hz]
    have hR := HR.out
    rw [if_pos hz] at hR
    subst hR
    clear hz hl
    go_wp2_with fail
    rw [← hW1]
    go_ret
    exact ⟨rfl, HRF1.out.ext⟩
  · have hl2 : ((k1 : Int) == 0) = false := by rw [hl]; simp [hz]
    have hR := HR.out
    rw [if_neg hz] at hR
    have HR2 := Box.mk hR
    clear hz hl HR hR
    go_wp2_with fail
    rw [← hW1]
    refine (HFI.out _).mono ?_
    rintro _ w2 ⟨rfl, hx2⟩
    have HRF2 := hide (HRF1.out.next hx2)
    have HCV2 := hide (HCV1.out.ext hx2)
    have HN := hide (HN5.out.ext hx2)
    have HD := hide (HD5.out.ext hx2)
    clear hx2 hW1 HRF1 HCV1 HN5 HD5 a0 a1 b0 b1 b2
    obtain ⟨a0, a1, b0, b1, b2⟩ := HRF2.out.cells
    by_cases hf : ef e m x = 2 ^ e - 1
    · have hR := HR2.out
      rw [if_pos hf] at hR
      subst hR
      rw [decide_eq_false (by omega)]
      clear hf
      go_wp2_with fail
      go_ret
      exact ⟨rfl, HRF2.out.ext⟩
    · have hR := HR2.out
      rw [if_neg hf] at hR
      rw [decide_eq_true hf]
      have HR3 := Box.mk hR
      clear hf HR2 hR
      have hwe : IntKind.i64.wrap ((bias e : Int) + 1) = (bias e : Int) + 1 := by rw [Go.IntWalk.i64_left]; exact w64_of (by omega) (by omega)
      have HC1 := hide HRF2.out.cells
      have HC1e : Hid (∀ w', Ext w2 w' → w'.cell? ⟨w.heap.size, 0, none⟩ = some (.int .u8 (e : Int)) ∧ w'.cell? ⟨w.heap.size, 1, none⟩ = some (.int .u8 (m : Int)) ∧ w'.cell? ⟨w.heap.size + 1, 0, none⟩ = some (.bool neg) ∧ w'.cell? ⟨w.heap.size + 1, 1, none⟩ = some (.slice p1 k1 c1) ∧ w'.cell? ⟨w.heap.size + 1, 2, none⟩ = some (.slice p2 k2 c2)) := fun w' hx => (HRF2.out.next hx).cells
      clear a0 a1 b0 b1 b2
      go_wp2_with fail
      go_cut [22] (fun v wx => v = .bool (decide (0 ≤ csQ n d (p2N ((bias e : Int) + 1)) (p2D ((bias e : Int) + 1)))) ∧ Hid (Ext w2 wx))
      case first =>
        go_region_held3 (fun w' => w'.cell? ⟨w.heap.size, 0, none⟩ = some (.int .u8 (e : Int)) ∧ w'.cell? ⟨w.heap.size, 1, none⟩ = some (.int .u8 (m : Int)) ∧ w'.cell? ⟨w.heap.size + 1, 0, none⟩ = some (.bool neg) ∧ w'.cell? ⟨w.heap.size + 1, 1, none⟩ = some (.slice p1 k1 c1) ∧ w'.cell? ⟨w.heap.size + 1, 2, none⟩ = some (.slice p2 k2 c2))
          (first | exact HC1.out | exact HC1e.out _ (by (repeat apply Ext.drew); first | exact Ext.refl _ | assumption))
          (first
            | (go_at_call 53; refine (HB.out _).mono ?_; rintro r w3 ⟨rfl, hx3⟩; have hE : Ext w2 w3 := Ext.trans (by (repeat apply Ext.drew); first | exact Ext.refl _ | assumption) hx3; clear hx3)
            | (go_at_call 54; refine (pow2Frac_any ((bias e : Int) + 1) (by omega) (by omega) _).mono ?_; rintro r w4 ⟨⟨u, rfl, hu⟩, hx4⟩; have HU := hide hu; have hE4 : Ext w2 w4 := Ext.trans (by (repeat apply Ext.drew); first | exact Ext.refl _ | assumption) hx4; clear hx4 hu)
            | (go_at_call 109; refine (HCS.out _ _ (HRF2.out.ext.trans (by (repeat apply Ext.drew); assumption)) (HU.out.ext (by (repeat apply Ext.drew); exact Ext.refl _))).mono ?_; rintro r w5 ⟨rfl, hx5⟩; have hE5 : Ext w2 w5 := Ext.trans (by (repeat apply Ext.drew); assumption) hx5; clear hx5))
        all_goals go_wp2_with fail
        all_goals go_meet
        all_goals exact ⟨rfl, show Ext _ _ by (repeat apply Ext.drew); assumption⟩
      case rest =>
        obtain ⟨rfl, HX3⟩ := hcut
        have HRF3 := hide (HRF2.out.next HX3.out)
        have HCV3 := hide (HCV2.out.ext HX3.out)
        have HN3 := hide (HN.out.ext HX3.out)
        have HD3 := hide (HD.out.ext HX3.out)
        clear HRF2 HCV2 HN HD HX3 HC1 HC1e hwe HCS HB HFI
        obtain ⟨a0, a1, b0, b1, b2⟩ := HRF3.out.cells
        obtain ⟨y0, y1, y2⟩ := HCV3.out
        by_cases z1 : 0 ≤ csQ n d (p2N ((bias e : Int) + 1)) (p2D ((bias e : Int) + 1))
        · have hR := HR3.out
          rw [if_pos z1] at hR
          subst hR
          rw [decide_eq_true z1]
          clear z1
          go_wp2_with fail
          go_ret
          exact ⟨rfl, HRF3.out.ext⟩
        · have hR := HR3.out
          rw [if_neg z1] at hR
          rw [decide_eq_false z1]
          have HR4 := Box.mk hR
          clear z1 HR3 hR
          have HC := hide (HCV.out wc (vNeg e m x) _ _ _ _ _ _ HRF3.out.ext HN3.out HD3.out)
          go_wp2_with fail
          refine HC.out.mono ?_
          rintro _ w6 ⟨rfl, hx6⟩
          have HRF6 := hide (HRF3.out.next hx6)
          clear hx6 HRF3 a0 a1 b0 b1 b2 y0 y1 y2 HN3 HD3 HCV3 HC HCV
          obtain ⟨a0, a1, b0, b1, b2⟩ := HRF6.out.cells
          by_cases z2 : csQ (vNum e m x) (vDen e m x) n d = 0
          · have hR := HR4.out
            rw [if_pos z2] at hR
            subst hR
            rw [z2]
            clear z2
            go_wp2_with fail
            go_ret
            exact ⟨rfl, HRF6.out.ext⟩
          · have hR := HR4.out
            rw [if_neg z2] at hR
            have t2 : (csQ (vNum e m x) (vDen e m x) n d == 0) = false := by rw [beq_eq_false_iff_ne]; exact z2
            have HR5 := Box.mk hR
            clear z2 HR4 hR
            generalize csQ (vNum e m x) (vDen e m x) n d = cs at *
            have HTT := hide (HT.out w6 HRF6.out.ext)
            go_wp2_with fail
            refine HTT.out.mono ?_
            rintro _ w7 ⟨rfl, hx7⟩
            have HX7 := hide (HRF6.out.ext.trans hx7)
            have hR := HR5.out
            clear hx7 HRF6 a0 a1 b0 b1 b2 HTT HT HR5
            cases ht : tinyL e m mode neg n d with
            | true =>
              rw [ht, if_pos rfl] at hR
              subst hR
              clear ht
              go_wp2_with fail
              go_ret
              exact ⟨rfl, HX7.out⟩
            | false =>
              rw [ht, if_neg (by decide)] at hR
              subst hR
              clear ht
              go_wp2_with fail
              go_ret
              exact ⟨rfl, HX7.out⟩
theorem wantRnd_any (e m : Nat) (h : Fm e m) (mode : Int) (neg : Bool) (n d k : Nat) (hn : n < W k) (hd : d < W k) (hk1 : 100 ≤ k) (hk : k ≤ 400000) (hd0 : 0 < d) (v : Value) (w : World) (hv : RatAt w v neg n d) :
    Calls Oacg.prog 51 #[.agg #[.int .u8 (e : Int), .int .u8 (m : Int)], .int .u8 mode, v, .int .u64 (rndV e m mode neg n d : Int)] w fun r w' => r = .returned (.int .u8 (rndF e m mode neg n d)) ∧ Ext w w' := by
  have := wantFlags_any e m h mode neg n d k hn hd hk1 hk hd0 (rndV e m mode neg n d) (rndV_lt h mode neg n d hd0) v w hv
  rw [want_eq h mode neg n d hd0] at this
  exact this
end Go.Proofs.Ygcoac
