/-
  law.ExactCmp: Cmp is the order of the values.
-/
import Derived.Test.YgcoacCmpA
namespace Go.Proofs.Ygcoac
open Go.RowKit
set_option linter.unusedSimpArgs false
set_option linter.unusedVariables false

/-- The plain law: what the switch makes of the classes and signs is the order that Cmp answers. -/
theorem cmpX_fin {cx cy : Int} {nx ny vx vy : Bool} {Nx Dx Ny Dy : Nat} (h1 : ¬ cx = 4) (h2 : ¬ cy = 4) (h3 : ¬ cx = 3) (h4 : ¬ cy = 3) : cmpX cx cy nx ny vx vy Nx Dx Ny Dy = cmpQ vx Nx Dx vy Ny Dy := by
  unfold cmpX rankI; simp [h1, h2, h3, h4]
theorem cmpX_nan {cx cy : Int} {nx ny vx vy : Bool} {Nx Dx Ny Dy : Nat} (h : cx = 4 ∨ cy = 4) : cmpX cx cy nx ny vx vy Nx Dx Ny Dy = 2 := by
  unfold cmpX; rw [if_pos h]
theorem cmpX_both {nx ny vx vy : Bool} {Nx Dx Ny Dy : Nat} : cmpX 3 3 nx ny vx vy Nx Dx Ny Dy = if nx = ny then 0 else if nx then -1 else 1 := by
  unfold cmpX rankI; cases nx <;> cases ny <;> simp
theorem cmpX_left {cy : Int} {nx ny vx vy : Bool} {Nx Dx Ny Dy : Nat} (h2 : ¬ cy = 4) (h4 : ¬ cy = 3) : cmpX 3 cy nx ny vx vy Nx Dx Ny Dy = if nx then -1 else 1 := by
  unfold cmpX rankI; cases nx <;> simp [h2, h4]
theorem cmpX_right {cx : Int} {nx ny vx vy : Bool} {Nx Dx Ny Dy : Nat} (h2 : ¬ cx = 4) (h4 : ¬ cx = 3) : cmpX cx 3 nx ny vx vy Nx Dx Ny Dy = if ny then 1 else -1 := by
  unfold cmpX rankI; cases ny <;> simp [h2, h4]

set_option maxHeartbeats 4000000 in
theorem exactCmpLaw_ok (e m : Nat) (h : Fm e m) (x y : Nat) (hx : x < 18446744073709551616) (hy : y < 18446744073709551616) (w : World) :
    Calls Oacg.prog 5 #[.agg #[.int .u8 (e : Int), .int .u8 (m : Int)], .int .u64 (x : Int), .int .u64 (y : Int)] w fun r w' => r = .returned (.bool true) ∧ Ext w w' := by
  have H := hide h
  have hok := okB_fm h
  have HC := hide (exactCmp_any e m h x y hx hy)
  have HCx := hide (classOf_any e m h x hx)
  have HCy := hide (classOf_any e m h y hy)
  have HVx := hide (value_any e m h x hx)
  have HVy := hide (value_any e m h y hy)
  have HNx := hide (isNeg_any e m h x hx)
  have HNy := hide (isNeg_any e m h y hy)
  have HBd := hide (show vNum e m x < W 100 ∧ vDen e m x < W 100 ∧ vNum e m y < W 100 ∧ vDen e m y < W 100 from ⟨vNum_lt h x, vDen_lt h x, vNum_lt h y, vDen_lt h y⟩)
  obtain ⟨h1, h2, h3, h4⟩ := h
  clear hx hy
  generalize ngB e m x = nx at *
  generalize ngB e m y = ny at *
  generalize (cls e m x : Int) = cx at *
  generalize (cls e m y : Int) = cy at *
  generalize vNeg e m x = vx at *
  generalize vNeg e m y = vy at *
  generalize vNum e m x = Nx at *
  generalize vNum e m y = Ny at *
  generalize vDen e m x = Dx at *
  generalize vDen e m y = Dy at *
  have K1 := hide (@cmpX_fin cx cy nx ny vx vy Nx Dx Ny Dy)
  have K2 := hide (@cmpX_nan cx cy nx ny vx vy Nx Dx Ny Dy)
  have K3 := hide (fun (h1 : cx = 3) (h2 : cy = 3) => (show cmpX cx cy nx ny vx vy Nx Dx Ny Dy = if nx = ny then 0 else if nx then -1 else 1 by rw [h1, h2]; exact cmpX_both))
  have K4 := hide (fun (h1 : cx = 3) h2 h4 => (show cmpX cx cy nx ny vx vy Nx Dx Ny Dy = if nx then -1 else 1 by rw [h1]; exact cmpX_left h2 h4))
  have K5 := hide (fun (h1 : cy = 3) h2 h4 => (show cmpX cx cy nx ny vx vy Nx Dx Ny Dy = if ny then 1 else -1 by rw [h1]; exact cmpX_right h2 h4))
  generalize cmpX cx cy nx ny vx vy Nx Dx Ny Dy = cq at *
  obtain ⟨W0, hW0⟩ : ∃ W0, W0 = ((w.alloc (.cells #[.int .u8 (e : Int), .int .u8 (m : Int)] 23)).alloc (.cells #[.int .u8 (e : Int), .int .u8 (m : Int)] 23)) := ⟨_, rfl⟩
  have d0 : W0.cell? ⟨w.heap.size, 0, none⟩ = some (.int .u8 (e : Int)) := by rw [hW0]; simp [go_sem]
  have d1 : W0.cell? ⟨w.heap.size, 1, none⟩ = some (.int .u8 (m : Int)) := by rw [hW0]; simp [go_sem]
  have HW0 : Hid (Ext w W0) := by rw [hW0]; exact ((Ext.refl _).alloc _ _).alloc _ _
  go_enter Oacg.func5, Oacg.ntmps5
  go_wp2_with (first | (go_at_call 14; refine (ok_any _ _ _).mono ?_; rintro r w' ⟨rfl, rfl⟩))
  rw [← hW0]
  clear hW0
  refine (HC.out _).mono ?_
  rintro r w1 ⟨rfl, hx1⟩
  have HE1 := hide (HW0.out.trans hx1)
  replace d0 := hx1.cell d0
  replace d1 := hx1.cell d1
  clear hx1 HW0 HC
  go_wp2_with fail
  have tok1 : True := trivial
  go_region_held3 (fun w' => w'.cell? ⟨w.heap.size, 0, none⟩ = some (.int .u8 (e : Int)) ∧ w'.cell? ⟨w.heap.size, 1, none⟩ = some (.int .u8 (m : Int)))
    ((simp [go_sem, d0, d1]; done))
    (first
      | (go_at_call 16; have _t := tok1; refine (HCx.out _).mono ?_; rintro r w2 ⟨rfl, hx2⟩; clear tok1; have HX2 : Hid (Ext w1 w2) := Ext.trans (Ext.drew (Ext.refl _)) hx2; replace d0 := HX2.out.cell d0; replace d1 := HX2.out.cell d1; clear hx2)
      | (go_at_call 16; refine (HCy.out _).mono ?_; rintro r w3 ⟨rfl, hx3⟩; have HX3 := hide hx3; replace d0 := HX3.out.cell d0; replace d1 := HX3.out.cell d1; clear hx3))
  have HE3 := hide ((HE1.out.trans HX2.out).trans HX3.out)
  clear HE1 HX2 HX3 HCx HCy
  by_cases hN : cx = 4 ∨ cy = 4
  · have hq := K2.out hN
    subst hq
    clear K1 K2 K3 K4 K5
    by_cases hN1 : cx = 4
    · have b1 : (cx == 4) = true := by simp [hN1]
      clear hN hN1
      go_wp2_with fail
      go_ret
      exact ⟨rfl, HE3.out⟩
    · have b1 : (cx == 4) = false := by simp [hN1]
      have b2 : (cy == 4) = true := by rcases hN with h | h; · exact absurd h hN1
                                       · simp [h]
      clear hN hN1
      go_wp2_with fail
      go_ret
      exact ⟨rfl, HE3.out⟩
  have hN1 : ¬ cx = 4 := fun h => hN (.inl h)
  have hN2 : ¬ cy = 4 := fun h => hN (.inr h)
  have b1 : (cx == 4) = false := by simp [hN1]
  have b2 : (cy == 4) = false := by simp [hN2]
  have HN1 := hide hN1
  have HN2 := hide hN2
  clear hN hN1 hN2 K2
  go_wp2_with fail
  refine (HVx.out _).mono ?_
  rintro r w4 ⟨⟨v4, rfl, hv4⟩, hx4⟩
  obtain ⟨p1, k1, c1, p2, k2, c2, rfl, hn1, hd1⟩ := hv4
  have HE4 := hide (HE3.out.trans hx4)
  have HV1 := hide hn1
  have HV2 := hide hd1
  replace d0 := hx4.cell d0
  replace d1 := hx4.cell d1
  have l4 : w.heap.size < w4.heap.size := World.block_lt_of_cell? _ _ d0
  clear hx4 hn1 hd1 HE3 HVx
  go_wp2_with fail
  refine (HVy.out _).mono ?_
  rintro r w5 ⟨⟨v5, rfl, hv5⟩, hx5⟩
  obtain ⟨p3, k3, c3, p4, k4, c4, rfl, hn2, hd2⟩ := hv5
  obtain ⟨x0, x1, x2, xf⟩ := fresh3 hx5
  have hx45 : Ext w4 w5 := ((Ext.refl _).alloc _ _).trans hx5
  have HE5 := hide (HE4.out.trans hx45)
  have HV1' := hide (HV1.out.ext hx45)
  have HV2' := hide (HV2.out.ext hx45)
  have HV3 := hide hn2
  have HV4 := hide hd2
  replace d0 := hx45.cell d0
  replace d1 := hx45.cell d1
  have l5 : w.heap.size < w5.heap.size := World.block_lt_of_cell? _ _ d0
  have l6 : w4.heap.size < w5.heap.size := World.block_lt_of_cell? _ _ x0
  clear hx5 hx45 hn2 hd2 HE4 HVy HV1 HV2 l4
  have HCF := hide (fun w' (e : Ext w5 w') => cmpFrac_any vx vy Nx Dx Ny Dy 100 HBd.out.1 HBd.out.2.1 HBd.out.2.2.1 HBd.out.2.2.2 (by omega) (.agg #[.bool vx, .slice p1 k1 c1, .slice p2 k2 c2]) (.agg #[.bool vy, .slice p3 k3 c3, .slice p4 k4 c4]) w'
    ⟨_, _, _, _, _, _, rfl, HV1'.out.ext e, HV2'.out.ext e⟩ ⟨_, _, _, _, _, _, rfl, HV3.out.ext e, HV4.out.ext e⟩)
  go_wp2_with fail
  refine (HCF.out _ ((Ext.refl _).alloc _ _)).mono ?_
  rintro r w6 ⟨rfl, hx6⟩
  have hx56 : Ext w5 w6 := ((Ext.refl _).alloc _ _).trans hx6
  have HE6 := hide (HE5.out.trans hx56)
  replace d0 := hx56.cell d0
  replace d1 := hx56.cell d1
  clear hx6 hx56 HE5 HCF HV1' HV2' HV3 HV4 x0 x1 x2 xf l5 l6
  generalize cmpQ vx Nx Dx vy Ny Dy = cw at *
  by_cases hc3 : cx = 3
  · have b3 : (cx == 3) = true := by simp [hc3]
    by_cases hc4 : cy = 3
    · have b4 : (cy == 3) = true := by simp [hc4]
      have HQ := hide (K3.out hc3 hc4)
      clear K1 K3 K4 K5 hc3 hc4
      have tok2 : True := trivial
      go_wp2_with fail
      go_region_held3 (fun w' => w'.cell? ⟨w.heap.size, 0, none⟩ = some (.int .u8 (e : Int)) ∧ w'.cell? ⟨w.heap.size, 1, none⟩ = some (.int .u8 (m : Int)))
        ((simp [go_sem, d0, d1]; done))
        (first
          | (go_at_call 19; have _t := tok2; refine (HNx.out _).mono ?_; rintro r w7 ⟨rfl, hx7⟩; clear tok2; have HX7 : Hid (Ext w6 w7) := Ext.trans (Ext.drew (Ext.refl _)) hx7; replace d0 := HX7.out.cell d0; replace d1 := HX7.out.cell d1; clear hx7)
          | (go_at_call 19; refine (HNy.out _).mono ?_; rintro r w8 ⟨rfl, hx8⟩; have HX8 := hide hx8; replace d0 := HX8.out.cell d0; replace d1 := HX8.out.cell d1; clear hx8))
      have HE8 := hide ((HE6.out.trans HX7.out).trans HX8.out)
      have hq := HQ.out
      clear HQ HE6 HX7 HX8
      cases nx <;> cases ny <;> simp at hq <;> subst hq
      · go_wp2_with fail
        go_ret
        exact ⟨rfl, HE8.out⟩
      · go_wp2_with fail
        refine (HNx.out _).mono ?_
        rintro r w9 ⟨rfl, hx9⟩
        have HE9 := hide (HE8.out.trans hx9)
        replace d0 := hx9.cell d0
        replace d1 := hx9.cell d1
        clear hx9
        go_wp2_with fail
        refine (HNy.out _).mono ?_
        rintro r w10 ⟨rfl, hx10⟩
        have HE10 := hide (HE9.out.trans hx10)
        clear hx10
        go_wp2_with fail
        go_ret
        exact ⟨rfl, HE10.out⟩
      · go_wp2_with fail
        refine (HNx.out _).mono ?_
        rintro r w9 ⟨rfl, hx9⟩
        have HE9 := hide (HE8.out.trans hx9)
        clear hx9
        go_wp2_with fail
        go_ret
        exact ⟨rfl, HE9.out⟩
      · go_wp2_with fail
        go_ret
        exact ⟨rfl, HE8.out⟩
    · have b4 : (cy == 3) = false := by simp [hc4]
      have hq := K4.out hc3 HN2.out hc4
      clear K1 K3 K4 K5 hc3 hc4
      cases nx <;> simp at hq <;> subst hq
      all_goals
        go_wp2_with fail
        go_quiet (fail)
        go_wp2_with fail
        refine (HNx.out _).mono ?_
        rintro r w9 ⟨rfl, hx9⟩
        have HE9 := hide (Ext.trans (HE6.out.drewN _) hx9)
        clear hx9
        go_wp2_with fail
        go_ret
        exact ⟨rfl, HE9.out⟩
  · have b3 : (cx == 3) = false := by simp [hc3]
    by_cases hc4 : cy = 3
    · have b4 : (cy == 3) = true := by simp [hc4]
      have hq := K5.out hc4 HN1.out hc3
      clear K1 K3 K4 K5 hc3 hc4
      cases ny <;> simp at hq <;> subst hq
      all_goals
        go_wp2_with fail
        go_quiet (fail)
        go_wp2_with fail
        refine (HNy.out _).mono ?_
        rintro r w9 ⟨rfl, hx9⟩
        have HE9 := hide (Ext.trans (HE6.out.drewN _) hx9)
        clear hx9
        go_wp2_with fail
        go_ret
        exact ⟨rfl, HE9.out⟩
    · have b4 : (cy == 3) = false := by simp [hc4]
      have hq := K1.out HN1.out HN2.out hc3 hc4
      subst hq
      clear K1 K3 K4 K5 hc3 hc4
      go_wp2_with fail
      go_quiet (fail)
      go_wp2_with fail
      go_ret
      exact ⟨ret_bool (by simp), HE6.out.drewN _⟩

theorem u8_bd {x : Int} (h : (Lit.int .u8 x).wf = true) : 0 ≤ x ∧ x < 256 := by
  simp [Lit.wf, IntKind.min, IntKind.max, IntKind.signed, IntKind.bits] at h; omega
theorem u64_bd {x : Int} (h : (Lit.int .u64 x).wf = true) : 0 ≤ x ∧ x < 18446744073709551616 := by
  simp [Lit.wf, IntKind.min, IntKind.max, IntKind.signed, IntKind.bits] at h; omega
theorem fm_of {E M : Int} (h : okB E M = true) : ∃ e m : Nat, E = e ∧ M = m ∧ Fm e m := by
  unfold okB at h
  have h' := of_decide_eq_true h
  refine ⟨E.toNat, M.toNat, by omega, by omega, ⟨by omega, by omega, by omega, by omega⟩⟩

theorem exactCmpLaw_any (E M : Int) (wE : (Lit.int .u8 E).wf = true) (wM : (Lit.int .u8 M).wf = true) (x : Int) (wx : (Lit.int .u64 x).wf = true) (y : Int) (wy : (Lit.int .u64 y).wf = true) (w : World) :
    Calls Oacg.prog 5 #[.agg #[.int .u8 E, .int .u8 M], .int .u64 x, .int .u64 y] w fun r w' => r = .returned (.bool true) ∧ Ext w w' := by
  cases hok : okB E M
  · clear wE wM wx wy
    go_enter Oacg.func5, Oacg.ntmps5
    go_wp2_with (first | (go_at_call 14; refine (ok_any _ _ _).mono ?_; rintro r w' ⟨rfl, rfl⟩))
    go_ret
    exact ⟨rfl, ((Ext.refl _).alloc _ _).alloc _ _⟩
  · obtain ⟨e, m, rfl, rfl, h⟩ := fm_of hok
    obtain ⟨hx0, hx1⟩ := u64_bd wx
    obtain ⟨hy0, hy1⟩ := u64_bd wy
    obtain ⟨x, rfl⟩ := Int.eq_ofNat_of_zero_le hx0
    obtain ⟨y, rfl⟩ := Int.eq_ofNat_of_zero_le hy0
    exact exactCmpLaw_ok e m h x y (by omega) (by omega) w
end Go.Proofs.Ygcoac
