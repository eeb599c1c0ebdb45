/-
  exact.OfDec.
-/
import Derived.Test.YgcoacDecD
import Derived.Test.YgcoacDecP
import Derived.Test.YgcoacExD
namespace Go.Proofs.Ygcoac
open Go.RowKit
set_option linter.unusedSimpArgs false
set_option linter.unusedVariables false

def odG (n : Bool) (t : ByteArray) (x : Int) : Bool := if okD t x then n else false
def odN (t : ByteArray) (x : Int) : Nat := if okD t x then (if x < 0 then digV (bytes t) else digV (bytes t) * (5 ^ x.toNat * 2 ^ x.toNat)) else 0
def odD (t : ByteArray) (x : Int) : Nat := if okD t x then (if x < 0 then 5 ^ (-x).toNat * 2 ^ (-x).toNat else 1) else 1
theorem ten_pow_lt {k : Nat} (h : k ≤ 2000) : 5 ^ k * 2 ^ k < W 400 := mul_lt_W (k := 200) (l := 200) (pow5_lt h) (two_ltW (by omega))
theorem dig_lt {t : ByteArray} {x : Int} (h : okD t x = true) : digV (bytes t) < W 101 := by
  obtain ⟨h1, h2, _, _⟩ := okD_dg h
  have h3 := digV_lt h1 (bytes t).length (Nat.le_refl _)
  rw [List.take_length, bytes_length] at h3
  exact Nat.lt_trans h3 (ten_lt h2)
theorem odN_lt (t : ByteArray) (x : Int) : odN t x < W 600 := by
  unfold odN
  split
  · rename_i h
    have h1 := dig_lt h
    obtain ⟨_, _, _, h2⟩ := okD_dg h
    split
    · exact lt_W_mono h1 (by decide)
    · exact lt_W_mono (mul_lt_W h1 (ten_pow_lt (show x.toNat ≤ 2000 by omega))) (by decide)
  · exact W_pos _
theorem odD_lt (t : ByteArray) (x : Int) : odD t x < W 600 ∧ 0 < odD t x := by
  unfold odD
  split
  · rename_i h
    obtain ⟨_, _, h1, _⟩ := okD_dg h
    split
    · exact ⟨lt_W_mono (ten_pow_lt (show (-x).toNat ≤ 2000 by omega)) (by decide), Nat.mul_pos (Nat.pow_pos (by decide)) (Nat.pow_pos (by decide))⟩
    · exact ⟨one_lt_W 600 (by decide), by decide⟩
  · exact ⟨one_lt_W 600 (by decide), by decide⟩
abbrev CellsD (w' : World) (B : Nat) (n : Bool) (t : ByteArray) (x : Int) : Prop := w'.cell? ⟨B, 0, none⟩ = some (.bool n) ∧ w'.cell? ⟨B, 1, none⟩ = some (.string t) ∧ w'.cell? ⟨B, 2, none⟩ = some (.int .i16 x)
theorem CellsD.ext {w w' : World} {B : Nat} {n : Bool} {t : ByteArray} {x : Int} (h : CellsD w B n t x) (e : Ext w w') : CellsD w' B n t x := ⟨e.cell h.1, e.cell h.2.1, e.cell h.2.2⟩
theorem CellsD.set {w : World} {B c i : Nat} {n : Bool} {t : ByteArray} {x : Int} {u : Value} (h : CellsD w B n t x) (hc : c ≠ B) : CellsD (w.setCell ⟨c, i, none⟩ u) B n t x := ⟨cell_set_other hc h.1, cell_set_other hc h.2.1, cell_set_other hc h.2.2⟩

set_option maxRecDepth 20000 in
set_option maxHeartbeats 2000000 in
theorem ofDec_any (n : Bool) (t : ByteArray) (x : Int) (hs : (t.size : Int) ≤ 140737488355328) (w : World) :
    Calls Oacg.prog 63 #[.agg #[.bool n, .string t, .int .i16 x]] w fun r w' => (∃ u, r = .returned u ∧ RatAt w' u (odG n t x) (odN t x) (odD t x)) ∧ Ext w w' := by
  have HOK := hide (decOk_any n t x hs)
  obtain ⟨W0, hW0⟩ : ∃ W0, W0 = (w.alloc (.cells #[.bool n, .string t, .int .i16 x] 72)).alloc (.cells #[.bool false, .slice none 0 0, .slice none 0 0] 37) := ⟨_, rfl⟩
  have HX0 : Hid (Ext w W0) := by rw [hW0]; exact ((Ext.refl _).alloc _ _).alloc _ _
  have HC0 : Hid (CellsD W0 w.heap.size n t x) := by rw [hW0]; refine ⟨?_, ?_, ?_⟩ <;> simp [go_sem]
  have HZ0 : Hid (W0.cell? ⟨w.heap.size + 1, 0, none⟩ = some (.bool false) ∧ W0.cell? ⟨w.heap.size + 1, 1, none⟩ = some (.slice none 0 0) ∧ W0.cell? ⟨w.heap.size + 1, 2, none⟩ = some (.slice none 0 0) ∧ ∀ i, W0.frozen? ⟨w.heap.size + 1, i, none⟩ = false) := by
    rw [hW0]; refine ⟨?_, ?_, ?_, fun i => ?_⟩ <;> simp [go_sem]
  have hle : w.heap.size ≤ w.heap.size + 1 := by omega
  have hne : w.heap.size + 1 ≠ w.heap.size := by omega
  obtain ⟨rG, hG⟩ : ∃ g, odG n t x = g := ⟨_, rfl⟩
  obtain ⟨rN, hN⟩ : ∃ g, odN t x = g := ⟨_, rfl⟩
  obtain ⟨rD, hD⟩ : ∃ g, odD t x = g := ⟨_, rfl⟩
  rw [hG, hN, hD]
  unfold odG at hG
  unfold odN at hN
  unfold odD at hD
  have HG := Box.mk hG
  have HN := Box.mk hN
  have HD := Box.mk hD
  clear hG hN hD
  go_enter Oacg.func63, Oacg.ntmps63
  go_wp2_with fail
  rw [← hW0]
  clear hW0
  refine (HOK.out _).mono ?_
  rintro _ w1 ⟨rfl, hx1⟩
  have HX1 := hide (HX0.out.trans hx1)
  have HC1 := hide (HC0.out.ext hx1)
  have HZ1 : Hid (w1.cell? ⟨w.heap.size + 1, 0, none⟩ = some (.bool false) ∧ w1.cell? ⟨w.heap.size + 1, 1, none⟩ = some (.slice none 0 0) ∧ w1.cell? ⟨w.heap.size + 1, 2, none⟩ = some (.slice none 0 0) ∧ ∀ i, w1.frozen? ⟨w.heap.size + 1, i, none⟩ = false) :=
    ⟨hx1.cell HZ0.out.1, hx1.cell HZ0.out.2.1, hx1.cell HZ0.out.2.2.1, fun i => by rw [hx1.froz]; exact HZ0.out.2.2.2 i⟩
  clear hx1 HX0 HC0 HZ0 HOK
  cases hok : okD t x with
  | false =>
    have hG := HG.out
    have hN := HN.out
    have hD := HD.out
    rw [hok, if_neg (by decide)] at hG hN hD
    subst hG hN hD
    clear HG HN HD
    go_wp2_with fail
    refine (whole_any false 0 _ _ (natAt_nil _)).mono ?_
    rintro _ w2 ⟨⟨_, rfl, p3, k3, c3, p4, k4, c4, rfl, hn2, hd2⟩, hx2⟩
    have d0 := hx2.cell HZ1.out.1
    have d1 := hx2.cell HZ1.out.2.1
    have d2 := hx2.cell HZ1.out.2.2.1
    have f0 : ∀ i, w2.frozen? ⟨w.heap.size + 1, i, none⟩ = false := fun i => by rw [hx2.froz]; exact HZ1.out.2.2.2 i
    have HK := hide (keeps_rat (w := w2) (b := w.heap.size + 1) d0 d1 d2 rfl rfl rfl)
    have HX2 := hide (HX1.out.trans hx2)
    have HN2 := hide hn2
    have HD2 := hide hd2
    clear hx2 hn2 hd2
    go_wp2_with fail
    simp [bodyPost, results, Oacg.results63, go_sem, d0, d1, d2]
    exact ⟨⟨_, _, _, _, _, _, rfl, HK.out _ _ _ _ _ HN2.out, HK.out _ _ _ _ _ HD2.out⟩, ((HX2.out.setCell hle _).setCell hle _).setCell hle _⟩
  | true =>
    have hG := HG.out
    have hN := HN.out
    have hD := HD.out
    rw [hok, if_pos rfl] at hG hN hD
    obtain ⟨k1, k2, k3, k4⟩ := okD_dg hok
    have hdl := dig_lt hok
    subst hG
    have HN' := Box.mk hN
    have HD' := Box.mk hD
    have HOD := hide (ofDigits_any t k2 k1)
    obtain ⟨c0, c1, c2⟩ := HC1.out
    clear HG HN HD hok hN hD k1 k2
    generalize digV (bytes t) = dv at *
    go_wp2_with fail
    refine (HOD.out _).mono ?_
    rintro _ w2 ⟨⟨vd, rfl, hvd⟩, hx2⟩
    have HX2 := hide (HX1.out.trans hx2)
    have HC2 := hide (HC1.out.ext hx2)
    have HV2 := hide hvd
    obtain ⟨p1, q1, s1, rfl⟩ := hvd.shape
    have d0 := hx2.cell HZ1.out.1
    have d1 := hx2.cell HZ1.out.2.1
    have d2 := hx2.cell HZ1.out.2.2.1
    have f0 : ∀ i, w2.frozen? ⟨w.heap.size + 1, i, none⟩ = false := fun i => by rw [hx2.froz]; exact HZ1.out.2.2.2 i
    clear hx2 hvd HX1 HC1 HZ1 HOD c0 c1 c2
    obtain ⟨c0, c1, c2⟩ := HC2.out
    by_cases hx0 : x < 0
    · have hN := HN'.out
      have hD := HD'.out
      rw [if_pos hx0] at hN hD
      obtain ⟨j, hj⟩ : ∃ j : Nat, -x = (j : Int) := ⟨(-x).toNat, by omega⟩
      have hj2 : (-x).toNat = j := by omega
      have hj3 : j ≤ 2000 := by omega
      rw [hj2] at hD
      subst hN hD
      have HP := hide (pow10_any j hj3)
      have hw1 : IntKind.i64.wrap x = x := by simp [IntKind.wrap, IntKind.bits, IntKind.signed]; split <;> omega
      have hji : (j : Int) ≤ 2000 := by omega
      have hw2 : IntKind.i64.wrap (j : Int) = (j : Int) := by simp [IntKind.wrap, IntKind.bits, IntKind.signed]; split <;> omega
      clear HN' HD' hj2 hj3 c0 c1
      go_wp2_with fail
      go_region_held3 (fun w' => CellsD w' w.heap.size n t x)
        (first | exact HC2.out | exact HC2.out.ext (by (repeat apply Ext.drew); first | exact Ext.refl _ | assumption) | exact CellsD.set (CellsD.set (CellsD.set (HC2.out.ext (by (repeat apply Ext.drew); assumption)) hne) hne) hne)
        (first
          | (go_at_call 124; refine (HP.out _).mono ?_; rintro r w3 ⟨⟨v3, rfl, hv3⟩, hx3⟩; obtain ⟨p3, q3, s3, rfl⟩ := hv3.shape; have hE : Ext w2 w3 := Ext.trans (by (repeat apply Ext.drew); exact Ext.refl _) hx3; have HV3 := hide hv3; replace d0 := hE.cell d0; replace d1 := hE.cell d1; replace d2 := hE.cell d2; replace f0 : ∀ i, w3.frozen? ⟨w.heap.size + 1, i, none⟩ = false := (fun i => by rw [hE.froz]; exact f0 i); have HK := hide (keeps_rat (w := w3) (b := w.heap.size + 1) d0 d1 d2 rfl rfl rfl (.bool n) (.slice p1 q1 s1) (.slice p3 q3 s3)); clear hv3 hx3))
      all_goals go_wp2_with fail
      all_goals simp [bodyPost, results, Oacg.results63, go_sem, d0, d1, d2]
      all_goals exact ⟨⟨_, _, _, _, _, _, rfl, HK.out _ _ (HV2.out.ext hE), HK.out _ _ HV3.out⟩, (((HX2.out.trans hE).setCell hle _).setCell hle _).setCell hle _⟩
    · have hN := HN'.out
      have hD := HD'.out
      rw [if_neg hx0] at hN hD
      obtain ⟨j, hj⟩ : ∃ j : Nat, x = (j : Int) := ⟨x.toNat, by omega⟩
      subst hj
      have hj3 : j ≤ 2000 := by omega
      rw [Int.toNat_natCast] at hN
      have hjx : decide ((j : Int) < 0) = false := by simp
      have HP := hide (pow10_any j hj3)
      have hji : (j : Int) ≤ 2000 := by omega
      have hw2 : IntKind.i64.wrap (j : Int) = (j : Int) := by simp [IntKind.wrap, IntKind.bits, IntKind.signed]; split <;> omega
      have HTL := Box.mk (ten_pow_lt hj3)
      have HMU := hide (fun v3 wx (hv : NatAt wx (.slice p1 q1 s1) dv) (hv3 : NatAt wx v3 (5 ^ j * 2 ^ j)) => mul_any dv (5 ^ j * 2 ^ j) 101 400 hdl HTL.out (by decide) (by decide) (.slice p1 q1 s1) v3 wx hv hv3)
      rw [hN] at HMU
      subst hD
      generalize 5 ^ j * 2 ^ j = tp at *
      clear HN' HD' hN c0 c1 hj3 hx0 HTL hdl
      go_wp2_with fail
      go_region_held3 (fun w' => CellsD w' w.heap.size n t j)
        (first | exact HC2.out | exact HC2.out.ext (by (repeat apply Ext.drew); first | exact Ext.refl _ | assumption) | exact CellsD.set (CellsD.set (CellsD.set (HC2.out.ext (by (repeat apply Ext.drew); assumption)) hne) hne) hne)
        (first
          | (go_at_call 124; refine (HP.out _).mono ?_; rintro r w3 ⟨⟨v3, rfl, hv3⟩, hx3⟩; have hE3 : Ext w2 w3 := Ext.trans (by (repeat apply Ext.drew); exact Ext.refl _) hx3; have HV3 := hide hv3; clear hv3 hx3)
          | (go_at_call 107; refine (HMU.out _ _ (HV2.out.ext (by (repeat apply Ext.drew); assumption)) (HV3.out.ext (by (repeat apply Ext.drew); exact Ext.refl _))).mono ?_; rintro r w4 ⟨⟨v4, rfl, hv4⟩, hx4⟩; have hE4 : Ext w2 w4 := Ext.trans (by (repeat apply Ext.drew); assumption) hx4; have HV4 := hide hv4; clear hv4 hx4)
          | (go_at_call 79; refine (whole_any n rN _ _ (HV4.out.ext (by (repeat apply Ext.drew); exact Ext.refl _))).mono ?_; rintro r w5 ⟨⟨v5, rfl, p5, q5, s5, p6, q6, s6, rfl, hn5, hd5⟩, hx5⟩; have hE : Ext w2 w5 := Ext.trans (by (repeat apply Ext.drew); assumption) hx5; have HN5 := hide hn5; have HD5 := hide hd5; replace d0 := hE.cell d0; replace d1 := hE.cell d1; replace d2 := hE.cell d2; replace f0 : ∀ i, w5.frozen? ⟨w.heap.size + 1, i, none⟩ = false := (fun i => by rw [hE.froz]; exact f0 i); have HK := hide (keeps_rat (w := w5) (b := w.heap.size + 1) d0 d1 d2 rfl rfl rfl (.bool n) (.slice p5 q5 s5) (.slice p6 q6 s6)); clear hn5 hd5 hx5))
      all_goals go_wp2_with fail
      all_goals simp [bodyPost, results, Oacg.results63, go_sem, d0, d1, d2]
      all_goals exact ⟨⟨_, _, _, _, _, _, rfl, HK.out _ _ HN5.out, HK.out _ _ HD5.out⟩, (((HX2.out.trans hE).setCell hle _).setCell hle _).setCell hle _⟩
end Go.Proofs.Ygcoac
