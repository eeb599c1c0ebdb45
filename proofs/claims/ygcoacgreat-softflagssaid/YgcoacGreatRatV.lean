/-
  exact.Value: what a pattern means.
-/
import Derived.Test.YgcoacGreatRatA
import Derived.Deep.RegionHeld3
namespace Go.Proofs.YgcoacGreat
open Go.RowKit
set_option linter.unusedSimpArgs false
set_option linter.unusedVariables false

/-! ### A variable's four cells, whatever the world does elsewhere (for 'go_region_held3') -/
def H1 (w : World) (b : Nat) (x0 : Value) : Prop := w.cell? ⟨b, 0, none⟩ = some x0
theorem cell_set_other {w : World} {b c i j : Nat} (hc : c ≠ b) {u x : Value} (h : w.cell? ⟨b, j, none⟩ = some x) : (w.setCell ⟨c, i, none⟩ u).cell? ⟨b, j, none⟩ = some x := by
  rw [World.cell?_setCell_other _ _ _ _ (by simp only [ne_eq, Addr.mk.injEq]; omega)]; exact h
theorem held4_ext {w w' : World} {b : Nat} {x0 x1 x2 x3 : Value} (h : w.cell? ⟨b, 0, none⟩ = some x0 ∧ w.cell? ⟨b, 1, none⟩ = some x1 ∧ w.cell? ⟨b, 2, none⟩ = some x2 ∧ w.cell? ⟨b, 3, none⟩ = some x3) (e : Ext w w') :
    w'.cell? ⟨b, 0, none⟩ = some x0 ∧ w'.cell? ⟨b, 1, none⟩ = some x1 ∧ w'.cell? ⟨b, 2, none⟩ = some x2 ∧ w'.cell? ⟨b, 3, none⟩ = some x3 :=
  ⟨e.cell h.1, e.cell h.2.1, e.cell h.2.2.1, e.cell h.2.2.2⟩
theorem held4_set {w : World} {b c i : Nat} {u x0 x1 x2 x3 : Value} (h : w.cell? ⟨b, 0, none⟩ = some x0 ∧ w.cell? ⟨b, 1, none⟩ = some x1 ∧ w.cell? ⟨b, 2, none⟩ = some x2 ∧ w.cell? ⟨b, 3, none⟩ = some x3) (hc : c ≠ b) :
    (w.setCell ⟨c, i, none⟩ u).cell? ⟨b, 0, none⟩ = some x0 ∧ (w.setCell ⟨c, i, none⟩ u).cell? ⟨b, 1, none⟩ = some x1 ∧ (w.setCell ⟨c, i, none⟩ u).cell? ⟨b, 2, none⟩ = some x2 ∧ (w.setCell ⟨c, i, none⟩ u).cell? ⟨b, 3, none⟩ = some x3 :=
  ⟨cell_set_other hc h.1, cell_set_other hc h.2.1, cell_set_other hc h.2.2.1, cell_set_other hc h.2.2.2⟩

/-! ### The value of a pattern -/
def vNeg (e m x : Nat) : Bool := if 3 ≤ cls e m x then false else ngB e m x
def vNum (e m x : Nat) : Nat := pMan e m x * 2 ^ (pExp e m x).toNat
def vDen (e m x : Nat) : Nat := 2 ^ (-pExp e m x).toNat

theorem cls_cases (e m x : Nat) : cls e m x = 0 ∨ cls e m x = 1 ∨ cls e m x = 2 ∨ cls e m x = 3 ∨ cls e m x = 4 := by
  unfold cls; repeat' split
  all_goals simp
theorem pExp_bd {e m : Nat} (h : Fm e m) (x : Nat) : -1200 ≤ pExp e m x ∧ pExp e m x ≤ 1100 := by
  have hb := bias_bd h
  obtain ⟨_, _, _, _⟩ := h
  have hE := ef_lt e m x
  have p1 := pow_le_of (show e ≤ 11 by omega)
  have p2 : (2 : Nat) ^ 11 = 2048 := rfl
  have hbias : 2 * (bias e + 1) = 2 ^ e := by
    unfold bias
    obtain ⟨k, rfl⟩ : ∃ k, e = k + 1 := ⟨e - 1, by omega⟩
    rw [Nat.add_sub_cancel, Nat.pow_succ]
    have := Nat.pow_pos (n := k) (show 0 < 2 by decide)
    omega
  unfold pExp
  split
  · omega
  · split <;> omega
theorem pMan_lt (e m x : Nat) : pMan e m x < 2 ^ (m + 1) := by
  have hF := ff_lt m x
  unfold pMan
  split
  · rw [Nat.pow_succ]; omega
  · split
    · rename_i h1 h2
      have h0 : 0 < ff m x := by
        rcases Nat.eq_zero_or_pos (ff m x) with h' | h'
        · exfalso
          revert h2
          unfold cls
          rw [h']
          simp
          split <;> (try split) <;> simp
        · exact h'
      exact (sub_man_bd h0 hF).2
    · exact Nat.pow_pos (by decide)
theorem pMan_lt64 {e m : Nat} (h : Fm e m) (x : Nat) : pMan e m x < 18446744073709551616 := by
  have h1 := pMan_lt e m x
  obtain ⟨_, _, _, _⟩ := h
  exact Nat.lt_of_lt_of_le h1 (pow_le_of (show m + 1 ≤ 64 by omega))
theorem pMan_special {e m x : Nat} (h : 3 ≤ cls e m x) : pMan e m x = 0 ∧ pExp e m x = 0 := by
  unfold pMan pExp
  constructor <;> rw [if_neg (by omega), if_neg (by omega)]

set_option maxHeartbeats 1000000 in
theorem value_any (e m : Nat) (h : Fm e m) (x : Nat) (hx : x < 18446744073709551616) (w : World) :
    Calls Oacg.prog 72 #[.agg #[.int .u8 (e : Int), .int .u8 (m : Int)], .int .u64 (x : Int)] w fun r w' =>
      (∃ u, r = .returned (.tuple #[u, .int .i8 (cls e m x : Int)]) ∧ RatAt w' u (vNeg e m x) (vNum e m x) (vDen e m x)) ∧ Ext w w' := by
  have H := hide h
  obtain ⟨h1, h2, h3, h4⟩ := h
  have hok := okB_fm H.out
  have HU := hide (unpack_any e m H.out x hx)
  have he := pExp_bd H.out x
  have hM := pMan_lt64 H.out x
  have hc := cls_cases e m x
  unfold parts at HU
  by_cases hs : 3 ≤ cls e m x
  · have t4 : ((cls e m x : Int) == 4) = true ∨ ((cls e m x : Int) == 4) = false ∧ ((cls e m x : Int) == 3) = true := by
      rcases hc with h | h | h | h | h <;> simp [h] at hs ⊢
    have e1 : vNeg e m x = false := by unfold vNeg; rw [if_pos hs]
    have e2 : vNum e m x = 0 := by unfold vNum; rw [(pMan_special hs).1, Nat.zero_mul]
    have e3 : vDen e m x = 1 := by unfold vDen; rw [(pMan_special hs).2]; rfl
    rw [(pMan_special hs).1, (pMan_special hs).2] at HU
    rw [e1, e2, e3]
    clear e1 e2 e3 he hM hc hs hx
    generalize pNeg e m x = pn at *
    generalize (cls e m x : Int) = cl at *
    rcases t4 with t4 | ⟨t4, t3⟩
    · -- NaN
      go_enter Oacg.func72, Oacg.ntmps72
      go_wp2_with (first | (go_at_call 4; refine (ok_any _ _ _).mono ?_; rintro r w' ⟨rfl, rfl⟩))
      refine (HU.out _).mono ?_
      rintro r w1 ⟨rfl, hext⟩
      obtain ⟨q1, q2, q3⟩ := hext.rule
      have HE := hide hext
      clear hext
      have hne : w.heap.size + 1 ≠ w1.heap.size := by have := q3; simp at this; omega
      go_wp2_with fail
      go_region_held3 (fun w' => w'.cell? ⟨w1.heap.size, 0, none⟩ = some (.bool pn) ∧ w'.cell? ⟨w1.heap.size, 1, none⟩ = some (.int .i8 cl) ∧ w'.cell? ⟨w1.heap.size, 2, none⟩ = some (.int .i16 0) ∧ w'.cell? ⟨w1.heap.size, 3, none⟩ = some (.int .u64 0))
        (first | (simp [go_sem]; done) | exact held4_ext (by assumption) (by assumption) | exact held4_set (held4_set (held4_set (by assumption) hne) hne) hne)
        (first
          | (go_at_call 46; refine (whole_any false 0 _ _ (natAt_nil _)).mono ?_; rintro r w3 ⟨⟨v3, rfl, hv3⟩, hx3⟩; obtain ⟨p3, k3, c3, p4, k4, c4, rfl, hn, hd⟩ := hv3; have HE3 := hide (((HE.out.alloc _ _).drew).trans hx3); have HN := hide hn; have HD := hide hd; clear hn hd q1 q2 q3; obtain ⟨q1, q2, q3⟩ := HE3.out.rule))
      have HK := hide (keeps_rat (b := w.heap.size + 1) (w := w3) (x0 := .bool false) (x1 := .slice none 0 0) (x2 := .slice none 0 0) (by rw [q1 _ _ (by simp)]; simp [go_sem]) (by rw [q1 _ _ (by simp)]; simp [go_sem]) (by rw [q1 _ _ (by simp)]; simp [go_sem]) rfl rfl rfl (.bool false) (.slice p3 k3 c3) (.slice p4 k4 c4))
      have hx : Ext w w3 := (((Ext.refl _).alloc _ _).alloc _ _).alloc _ _ |>.trans HE3.out
      go_wp2_with fail
      simp [bodyPost, results, Oacg.results72, go_sem, q1]
      refine ⟨⟨p3, k3, c3, p4, k4, c4, rfl, HK.out _ _ HN.out, HK.out _ _ HD.out⟩, ((hx.setCell (Nat.le_succ _) _).setCell (Nat.le_succ _) _).setCell (Nat.le_succ _) _⟩
    · -- an infinity
      go_enter Oacg.func72, Oacg.ntmps72
      go_wp2_with (first | (go_at_call 4; refine (ok_any _ _ _).mono ?_; rintro r w' ⟨rfl, rfl⟩))
      refine (HU.out _).mono ?_
      rintro r w1 ⟨rfl, hext⟩
      obtain ⟨q1, q2, q3⟩ := hext.rule
      have HE := hide hext
      clear hext
      have hne : w.heap.size + 1 ≠ w1.heap.size := by have := q3; simp at this; omega
      go_wp2_with fail
      go_region_held3 (fun w' => w'.cell? ⟨w1.heap.size, 0, none⟩ = some (.bool pn) ∧ w'.cell? ⟨w1.heap.size, 1, none⟩ = some (.int .i8 cl) ∧ w'.cell? ⟨w1.heap.size, 2, none⟩ = some (.int .i16 0) ∧ w'.cell? ⟨w1.heap.size, 3, none⟩ = some (.int .u64 0))
        (first | (simp [go_sem]; done) | exact held4_ext (by assumption) (by assumption) | exact held4_set (held4_set (held4_set (by assumption) hne) hne) hne)
        (first
          | (go_at_call 46; refine (whole_any false 0 _ _ (natAt_nil _)).mono ?_; rintro r w3 ⟨⟨v3, rfl, hv3⟩, hx3⟩; obtain ⟨p3, k3, c3, p4, k4, c4, rfl, hn, hd⟩ := hv3; have HE3 := hide (((HE.out.alloc _ _).drew).trans hx3); have HN := hide hn; have HD := hide hd; clear hn hd q1 q2 q3; obtain ⟨q1, q2, q3⟩ := HE3.out.rule))
      have HK := hide (keeps_rat (b := w.heap.size + 1) (w := w3) (x0 := .bool false) (x1 := .slice none 0 0) (x2 := .slice none 0 0) (by rw [q1 _ _ (by simp)]; simp [go_sem]) (by rw [q1 _ _ (by simp)]; simp [go_sem]) (by rw [q1 _ _ (by simp)]; simp [go_sem]) rfl rfl rfl (.bool false) (.slice p3 k3 c3) (.slice p4 k4 c4))
      have hx : Ext w w3 := (((Ext.refl _).alloc _ _).alloc _ _).alloc _ _ |>.trans HE3.out
      go_wp2_with fail
      simp [bodyPost, results, Oacg.results72, go_sem, q1]
      refine ⟨⟨p3, k3, c3, p4, k4, c4, rfl, HK.out _ _ HN.out, HK.out _ _ HD.out⟩, ((hx.setCell (Nat.le_succ _) _).setCell (Nat.le_succ _) _).setCell (Nat.le_succ _) _⟩
  · have t4 : ((cls e m x : Int) == 4) = false := by rw [beq_eq_false_iff_ne]; omega
    have t3 : ((cls e m x : Int) == 3) = false := by rw [beq_eq_false_iff_ne]; omega
    have hn : pNeg e m x = vNeg e m x := by unfold pNeg vNeg; rw [if_neg (by omega), if_neg hs]
    have HV := hide (show vNum e m x = pMan e m x * 2 ^ (pExp e m x).toNat ∧ vDen e m x = 2 ^ (-pExp e m x).toNat from ⟨rfl, rfl⟩)
    rw [hn] at HU
    clear hn hs hc
    generalize vNum e m x = vn at *
    generalize vDen e m x = vd at *
    generalize vNeg e m x = neg at *
    generalize pMan e m x = mn at *
    generalize pExp e m x = ex at *
    generalize (cls e m x : Int) = cl at *
    have HM : Hid ((mn : Int).toNat < W 2) := by show _ < _; rw [Int.toNat_natCast]; exact hM
    go_enter Oacg.func72, Oacg.ntmps72
    go_wp2_with (first | (go_at_call 4; refine (ok_any _ _ _).mono ?_; rintro r w' ⟨rfl, rfl⟩))
    refine (HU.out _).mono ?_
    rintro r w1 ⟨rfl, hext⟩
    obtain ⟨q1, q2, q3⟩ := hext.rule
    have HE := hide hext
    clear hext
    have hne : w.heap.size + 1 ≠ w1.heap.size := by have := q3; simp at this; omega
    have HF := hide (fromU64_any (mn : Int) (by omega) (by omega))
    have HSC := hide (fun v w (h : NatAt w v (mn : Int).toNat) => scaled_any neg _ 2 HM.out (by omega) ex (by omega) (by omega) v w h)
    have hwx : IntKind.i64.wrap ex = ex := by rw [IntKind.wrap_i64]; omega
    clear hM hx HM
    go_wp2_with fail
    go_region_held3 (fun w' => w'.cell? ⟨w1.heap.size, 0, none⟩ = some (.bool neg) ∧ w'.cell? ⟨w1.heap.size, 1, none⟩ = some (.int .i8 cl) ∧ w'.cell? ⟨w1.heap.size, 2, none⟩ = some (.int .i16 ex) ∧ w'.cell? ⟨w1.heap.size, 3, none⟩ = some (.int .u64 (mn : Int)))
      (first | (simp [go_sem]; done) | exact held4_ext (by assumption) (by assumption) | exact held4_set (held4_set (held4_set (by assumption) hne) hne) hne)
      (first
        | (go_at_call 47; refine (HF.out _).mono ?_; rintro r w2 ⟨⟨v2, rfl, hv2⟩, hx2⟩; obtain ⟨p2, k2, c2, rfl⟩ := hv2.shape; have HE2 := hide (((HE.out.alloc _ _).drew).trans hx2); have HV2 := hide hv2; clear hv2)
        | (go_at_call 93; refine (HSC.out _ _ HV2.out).mono ?_; rintro r w3 ⟨⟨v3, rfl, hv3⟩, hx3⟩; obtain ⟨p3, k3, c3, p4, k4, c4, rfl, hn, hd⟩ := hv3; have HE3 := hide (HE2.out.trans hx3); have HN := hide hn; have HD := hide hd; clear hn hd q1 q2 q3; obtain ⟨q1, q2, q3⟩ := HE3.out.rule))
    have HK := hide (keeps_rat (b := w.heap.size + 1) (w := w3) (x0 := .bool false) (x1 := .slice none 0 0) (x2 := .slice none 0 0) (by rw [q1 _ _ (by simp)]; simp [go_sem]) (by rw [q1 _ _ (by simp)]; simp [go_sem]) (by rw [q1 _ _ (by simp)]; simp [go_sem]) rfl rfl rfl (.bool neg) (.slice p3 k3 c3) (.slice p4 k4 c4))
    have hx : Ext w w3 := (((Ext.refl _).alloc _ _).alloc _ _).alloc _ _ |>.trans HE3.out
    go_wp2_with fail
    simp [bodyPost, results, Oacg.results72, go_sem, q1]
    rw [Int.toNat_natCast] at HN
    refine ⟨⟨p3, k3, c3, p4, k4, c4, rfl, ?_, ?_⟩, ((hx.setCell (Nat.le_succ _) _).setCell (Nat.le_succ _) _).setCell (Nat.le_succ _) _⟩
    · rw [HV.out.1]; exact HK.out _ _ HN.out
    · rw [HV.out.2]; exact HK.out _ _ HD.out
end Go.Proofs.YgcoacGreat
