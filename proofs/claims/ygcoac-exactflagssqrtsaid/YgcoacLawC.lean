/-
  law.negFrac, law.cmpFrac.
-/
import Derived.Test.YgcoacLawS
namespace Go.Proofs.Ygcoac
open Go.RowKit
set_option linter.unusedSimpArgs false
set_option linter.unusedVariables false

theorem negFrac_any (n : Bool) (p p' : Option Addr) (k c k' c' : Nat) (w : World) :
    Calls Oacg.prog 48 #[.agg #[.bool n, .slice p k c, .slice p' k' c']] w fun r w' => r = .returned (.agg #[.bool !n, .slice p k c, .slice p' k' c']) ∧ Ext w w' := by
  go_enter Oacg.func48, Oacg.ntmps48
  go_wp2
  simp [bodyPost, results, Oacg.results48, go_sem]
  repeat (first | apply Ext.alloc | (refine Ext.setCell ?_ (Nat.le_refl _) _) | (refine Ext.setCell ?_ (Nat.le_succ _) _))
  exact Ext.refl _

/-- The order of two fractions. -/
def cmpQ (an : Bool) (a ad : Nat) (bn : Bool) (b bd : Nat) : Int :=
  if sNum an a ad (!bn) b bd = 0 then 0 else if sNeg an a ad (!bn) b bd then -1 else 1

theorem NatAt.len0 {w : World} {p : Option Addr} {k c n : Nat} (h : NatAt w (.slice p k c) n) : ((k : Int) == 0) = decide (n = 0) := by
  rcases h with ⟨h0, h1⟩ | ⟨l, b, off, cap, h1, h2, h3, h4, h5, h6, h7, h8⟩
  · injection h1 with _ h2 _
    rw [h2, h0]; rfl
  · injection h1 with _ h9 _
    have hne : l ≠ [] := by intro e; subst e; simp [val] at h6; omega
    have : 0 < l.length := List.length_pos_iff.2 hne
    rw [Bool.eq_iff_iff]
    simp only [beq_iff_eq, decide_eq_true_eq]
    omega

set_option maxHeartbeats 2000000 in
theorem cmpFrac_any (an bn : Bool) (a ad b bd kk : Nat) (ha : a < W kk) (had : ad < W kk) (hb : b < W kk) (hbd : bd < W kk) (hk : kk ≤ 100000000) (va vb : Value) (w : World)
    (hva : RatAt w va an a ad) (hvb : RatAt w vb bn b bd) :
    Calls Oacg.prog 38 #[va, vb] w fun r w' => r = .returned (.int .i8 (cmpQ an a ad bn b bd)) ∧ Ext w w' := by
  obtain ⟨p1, k1, c1, p2, k2, c2, rfl, n1, n2⟩ := hva
  obtain ⟨p3, k3, c3, p4, k4, c4, rfl, n3, n4⟩ := hvb
  have HS := hide (fun w' (e : Ext w w') => sumFrac_any an (!bn) a ad b bd kk ha had hb hbd hk (.agg #[.bool an, .slice p1 k1 c1, .slice p2 k2 c2]) (.agg #[.bool !bn, .slice p3 k3 c3, .slice p4 k4 c4]) w' ⟨_, _, _, _, _, _, rfl, n1.ext e, n2.ext e⟩ ⟨_, _, _, _, _, _, rfl, n3.ext e, n4.ext e⟩)
  have hq : cmpQ an a ad bn b bd = if sNum an a ad (!bn) b bd = 0 then 0 else if sNeg an a ad (!bn) b bd then -1 else 1 := rfl
  have HQ := hide hq
  clear n1 n2 n3 n4 ha had hb hbd hq
  generalize cmpQ an a ad bn b bd = cq at *
  generalize sNeg an a ad (!bn) b bd = sn at *
  generalize sNum an a ad (!bn) b bd = sm at *
  generalize ad * bd = dd at *
  have hw0 : Ext w ((w.alloc (.cells #[.bool an, .slice p1 k1 c1, .slice p2 k2 c2] 37)).alloc (.cells #[.bool bn, .slice p3 k3 c3, .slice p4 k4 c4] 37)) := ((Ext.refl _).alloc _ _).alloc _ _
  have HW0 := hide hw0
  clear hw0
  obtain ⟨W0, hW0⟩ : ∃ W0, W0 = ((w.alloc (.cells #[.bool an, .slice p1 k1 c1, .slice p2 k2 c2] 37)).alloc (.cells #[.bool bn, .slice p3 k3 c3, .slice p4 k4 c4] 37)) := ⟨_, rfl⟩
  obtain ⟨d0, d1, d2, d3, d4, d5⟩ : Cells6 W0 w.heap.size (w.heap.size + 1) (.bool an) (.slice p1 k1 c1) (.slice p2 k2 c2) (.bool bn) (.slice p3 k3 c3) (.slice p4 k4 c4) := by rw [hW0]; simp [go_sem, Cells6]
  have hy1 : w.heap.size < W0.heap.size := by rw [hW0]; simp; omega
  have hy2 : w.heap.size + 1 < W0.heap.size := by rw [hW0]; simp
  rw [← hW0] at HW0
  have hm1 : ¬ W0.heap.size = w.heap.size := by omega
  have hm2 : ¬ W0.heap.size = w.heap.size + 1 := by omega
  go_enter Oacg.func38, Oacg.ntmps38
  go_wp2_with fail
  rw [← hW0]
  clear hW0
  go_cut [5] (fun v wx => ∃ B p7 k7 c7 p8 k8 c8, v = .pointer (some ⟨B, 0, none⟩) ∧ Hid (Ext w wx) ∧ Hid (NatAt wx (.slice p7 k7 c7) sm) ∧
      wx.cell? ⟨B, 0, none⟩ = some (.bool sn) ∧ wx.cell? ⟨B, 1, none⟩ = some (.slice p7 k7 c7) ∧ wx.cell? ⟨B, 2, none⟩ = some (.slice p8 k8 c8))
  case first =>
    go_region_held3 (fun w' => Cells6 w' w.heap.size (w.heap.size + 1) (.bool an) (.slice p1 k1 c1) (.slice p2 k2 c2) (.bool bn) (.slice p3 k3 c3) (.slice p4 k4 c4))
      (first | (simp [go_sem, Cells6, d0, d1, d2, d3, d4, d5, hy1, hy2, hm1, hm2]; done) | (simp [go_sem, Cells6, d0, d1, d2, d3, d4, d5, hn1, hn2]; done))
      (first
        | (go_at_call 48; refine (negFrac_any _ _ _ _ _ _ _ _).mono ?_; rintro r w3 ⟨rfl, hx3⟩; (try (have hE : Ext (W0.alloc (.cells #[.bool false, .slice none 0 0, .slice none 0 0] 37)) w3 := Ext.trans (Ext.drew (Ext.refl _)) hx3; obtain ⟨r0, r1, r2, rf⟩ := fresh3 hE; clear hE)); have HX3 : Hid (Ext W0 w3) := Ext.trans (by (repeat (first | apply Ext.drew | apply Ext.alloc)); exact Ext.refl _) hx3; replace d0 := HX3.out.cell d0; replace d1 := HX3.out.cell d1; replace d2 := HX3.out.cell d2; replace d3 := HX3.out.cell d3; replace d4 := HX3.out.cell d4; replace d5 := HX3.out.cell d5; replace hy1 := Nat.lt_of_lt_of_le hy1 HX3.out.size; replace hy2 := Nat.lt_of_lt_of_le hy2 HX3.out.size; have hn1 : ¬ w3.heap.size = w.heap.size := (by omega); have hn2 : ¬ w3.heap.size = w.heap.size + 1 := (by omega); clear hx3)
        | (go_at_call 47; refine (HS.out _ (by (repeat (first | apply Ext.drew | apply Ext.alloc)); exact HW0.out.trans HX3.out)).mono ?_; rintro r w4 ⟨⟨v4, rfl, hv4⟩, hx4⟩; obtain ⟨p7, k7, c7, p8, k8, c8, rfl, hn, hd⟩ := hv4; have HN := hide hn; (try (have hE : Ext (w3.alloc (.cells #[.bool false, .slice none 0 0, .slice none 0 0] 37)) w4 := hx4; obtain ⟨r0, r1, r2, rf⟩ := fresh3 hE; clear hE)); have HX4 : Hid (Ext w3 w4) := Ext.trans (by (repeat (first | apply Ext.drew | apply Ext.alloc)); exact Ext.refl _) hx4; (try (replace r0 := HX4.out.cell (p := ⟨W0.heap.size, 0, none⟩) r0; replace r1 := HX4.out.cell (p := ⟨W0.heap.size, 1, none⟩) r1; replace r2 := HX4.out.cell (p := ⟨W0.heap.size, 2, none⟩) r2; replace rf : ∀ i, w4.frozen? ⟨W0.heap.size, i, none⟩ = false := fun i => (HX4.out.froz _).trans (rf i))); replace d0 := HX4.out.cell d0; replace d1 := HX4.out.cell d1; replace d2 := HX4.out.cell d2; replace d3 := HX4.out.cell d3; replace d4 := HX4.out.cell d4; replace d5 := HX4.out.cell d5; replace hy1 := Nat.lt_of_lt_of_le hy1 HX4.out.size; replace hy2 := Nat.lt_of_lt_of_le hy2 HX4.out.size; clear hx4 hn hd))
    all_goals go_wp2_with fail
    all_goals go_meet
    case rel => exact ⟨w4.heap.size, p7, k7, c7, p8, k8, c8, rfl, ((HW0.out.trans HX3.out).trans HX4.out).alloc _ _, HN.out.ext ((Ext.refl _).alloc _ _), by simp, by simp, by simp⟩
    case rel =>
      obtain ⟨s0, s1, s2⟩ := set3_cells r0 r1 r2 (.bool sn) (.slice p7 k7 c7) (.slice p8 k8 c8)
      exact ⟨w3.heap.size, p7, k7, c7, p8, k8, c8, rfl, ((HW0.out.trans HX3.out).trans HX4.out).set3 (by have := HW0.out.size; have := HX3.out.size; omega) _ _ _, keeps_rat r0 r1 r2 rfl rfl rfl _ _ _ _ _ HN.out, s0, s1, s2⟩
    case rel =>
      obtain ⟨s0, s1, s2⟩ := set3_cells r0 r1 r2 (.bool sn) (.slice p7 k7 c7) (.slice p8 k8 c8)
      exact ⟨W0.heap.size, p7, k7, c7, p8, k8, c8, rfl, ((HW0.out.trans HX3.out).trans HX4.out).set3 HW0.out.size _ _ _, keeps_rat r0 r1 r2 rfl rfl rfl _ _ _ _ _ HN.out, s0, s1, s2⟩
  case rest =>
    obtain ⟨B, p7, k7, c7, p8, k8, c8, rfl, HX, HN, b0, b1, b2⟩ := hcut
    have hl := HN.out.len0
    by_cases hz : sm = 0
    · have hl2 : ((k7 : Int) == 0) = true := by rw [hl]; simp [hz]
      have HZ := hide hz
      clear hl hz
      go_wp2_with fail
      go_ret
      exact ⟨ret_int (by rw [HQ.out, if_pos HZ.out]), HX.out⟩
    · have hl2 : ((k7 : Int) == 0) = false := by rw [hl]; simp [hz]
      have HZ := hide hz
      clear hl hz
      cases sn
      · go_wp2_with fail
        go_ret
        exact ⟨ret_int (by rw [HQ.out, if_neg HZ.out]; rfl), HX.out⟩
      · go_wp2_with fail
        go_ret
        exact ⟨ret_int (by rw [HQ.out, if_neg HZ.out]; rfl), HX.out⟩
end Go.Proofs.Ygcoac
