/-
  exact.open: a pattern with what it means.
-/
import Derived.Test.YgcoacGreatLawC
namespace Go.Proofs.YgcoacGreat
open Go.RowKit
set_option linter.unusedSimpArgs false
set_option linter.unusedVariables false

/-- The pattern's own bits. -/
def msk (e m x : Nat) : Nat := x % 2 ^ (e + m + 1)

theorem mod_div_mod (x a b : Nat) : x % 2 ^ (a + b) / 2 ^ a = x / 2 ^ a % 2 ^ b := by
  rw [Nat.pow_add, Nat.mod_mul_right_div_self]
theorem msk_ef (e m x : Nat) : ef e m (msk e m x) = ef e m x := by
  unfold ef msk
  rw [show e + m + 1 = m + (e + 1) by omega, mod_div_mod, Nat.pow_succ, Nat.mod_mul_right_mod]
theorem msk_ff (e m x : Nat) : ff m (msk e m x) = ff m x := by
  unfold ff msk
  rw [show e + m + 1 = m + (e + 1) by omega, Nat.pow_add, Nat.mod_mul_right_mod]
theorem msk_ng (e m x : Nat) : ngB e m (msk e m x) = ngB e m x := by
  unfold ngB msk
  rw [mod_div_mod, Nat.pow_one, Nat.mod_mod]
theorem msk_cls (e m x : Nat) : cls e m (msk e m x) = cls e m x := by unfold cls; rw [msk_ef, msk_ff]
theorem msk_exp (e m x : Nat) : pExp e m (msk e m x) = pExp e m x := by unfold pExp; rw [msk_cls, msk_ef, msk_ff]
theorem msk_man (e m x : Nat) : pMan e m (msk e m x) = pMan e m x := by unfold pMan; rw [msk_cls, msk_ff]
theorem msk_vNeg (e m x : Nat) : vNeg e m (msk e m x) = vNeg e m x := by unfold vNeg; rw [msk_cls, msk_ng]
theorem msk_vNum (e m x : Nat) : vNum e m (msk e m x) = vNum e m x := by unfold vNum; rw [msk_exp, msk_man]
theorem msk_vDen (e m x : Nat) : vDen e m (msk e m x) = vDen e m x := by unfold vDen; rw [msk_exp]
theorem msk_lt {e m : Nat} (h : Fm e m) (x : Nat) : msk e m x < 18446744073709551616 := by
  obtain ⟨_, _, _, _⟩ := h
  exact Nat.lt_of_lt_of_le (Nat.mod_lt _ (Nat.pow_pos (by decide))) (pow_le_of (show e + m + 1 ≤ 64 by omega))
theorem and_msk {e m : Nat} (h : Fm e m) {x : Nat} (hx : x < 18446744073709551616) :
    Go.bits BinOp.and IntKind.u64 (x : Int) ((2 * sgn e m - 1 : Nat) : Int) = (msk e m x : Int) := by
  have hs := sgn_bd h
  have e2 : 2 * sgn e m = 2 ^ (e + m + 1) := by unfold sgn; rw [Nat.pow_succ]; omega
  rw [u64_and_nat x _ hx (by omega), e2, Nat.and_two_pow_sub_one_eq_mod]
  rfl
theorem and_sgn {e m : Nat} (h : Fm e m) {x : Nat} (hx : x < 18446744073709551616) :
    (Go.bits BinOp.and IntKind.u64 (x : Int) ((sgn e m : Nat) : Int) != 0) = ngB e m x := by
  obtain ⟨_, _, _, _⟩ := h
  exact and_bit hx (k := e + m) (by omega)

/-! ### A variable none of whose n cells holds a limb -/
def NoL (w : World) (b n : Nat) : Prop := ∀ j, j < n → ∃ x, w.cell? ⟨b, j, none⟩ = some x ∧ noLimb x = true
theorem NoL.keeps {w : World} {b n : Nat} (h : NoL w b n) {j : Nat} (hj : j < n) (u : Value) : Keeps w (w.setCell ⟨b, j, none⟩ u) := by
  obtain ⟨x, h1, h2⟩ := h j hj
  exact keeps_setCell h1 h2 u
theorem NoL.set {w : World} {b n : Nat} (h : NoL w b n) (i : Nat) {u : Value} (hu : noLimb u = true) : NoL (w.setCell ⟨b, i, none⟩ u) b n := by
  intro j hj
  obtain ⟨x, h1, h2⟩ := h j hj
  by_cases e : i = j
  · subst e
    exact ⟨u, World.cell?_setCell_same _ _ _ h1, hu⟩
  · exact ⟨x, by rw [World.cell?_setCell_other _ _ _ _ (by simp [e])]; exact h1, h2⟩
theorem NoL.ext {w w' : World} {b n : Nat} (h : NoL w b n) (e : Ext w w') : NoL w' b n := fun j hj => by
  obtain ⟨x, h1, h2⟩ := h j hj
  exact ⟨x, e.cell h1, h2⟩
theorem NoL.new (w : World) (xs : List Value) (t : TypeId) (h : xs.all noLimb = true) : NoL (w.alloc (.cells xs.toArray t)) w.heap.size xs.length := by
  intro j hj
  refine ⟨xs[j], by rw [World.cell?_alloc_new]; simp [hj], ?_⟩
  exact List.all_eq_true.1 h _ (List.getElem_mem hj)
theorem NoL.keeps6 {w : World} {b : Nat} (h : NoL w b 6) {u0 u1 u2 u3 u4 u5 : Value} (n0 : noLimb u0 = true) (n1 : noLimb u1 = true) (n2 : noLimb u2 = true) (n3 : noLimb u3 = true) (n4 : noLimb u4 = true) :
    Keeps w ((((((w.setCell ⟨b, 0, none⟩ u0).setCell ⟨b, 1, none⟩ u1).setCell ⟨b, 2, none⟩ u2).setCell ⟨b, 3, none⟩ u3).setCell ⟨b, 4, none⟩ u4).setCell ⟨b, 5, none⟩ u5) :=
  ((((((h.keeps (by decide) _).trans ((h.set 0 n0).keeps (by decide) _)).trans (((h.set 0 n0).set 1 n1).keeps (by decide) _)).trans ((((h.set 0 n0).set 1 n1).set 2 n2).keeps (by decide) _)).trans
    (((((h.set 0 n0).set 1 n1).set 2 n2).set 3 n3).keeps (by decide) _)).trans ((((((h.set 0 n0).set 1 n1).set 2 n2).set 3 n3).set 4 n4).keeps (by decide) _))
theorem Ext.set6 {a b : World} (h : Ext a b) {c : Nat} (hc : a.heap.size ≤ c) (u0 u1 u2 u3 u4 u5 : Value) :
    Ext a ((((((b.setCell ⟨c, 0, none⟩ u0).setCell ⟨c, 1, none⟩ u1).setCell ⟨c, 2, none⟩ u2).setCell ⟨c, 3, none⟩ u3).setCell ⟨c, 4, none⟩ u4).setCell ⟨c, 5, none⟩ u5) :=
  (((((h.setCell hc _).setCell hc _).setCell hc _).setCell hc _).setCell hc _).setCell hc _

set_option maxHeartbeats 2000000 in
theorem open_any (e m : Nat) (h : Fm e m) (x : Nat) (hx : x < 18446744073709551616) (w : World) :
    Calls Oacg.prog 36 #[.agg #[.int .u8 (e : Int), .int .u8 (m : Int)], .int .u64 (x : Int)] w fun r w' =>
      (∃ p k c p' k' c', r = .returned (.agg #[.int .u64 (msk e m x : Int), .bool (ngB e m x), .int .i8 (cls e m x : Int), .bool (vNeg e m x), .slice p k c, .slice p' k' c']) ∧
        NatAt w' (.slice p k c) (vNum e m x) ∧ NatAt w' (.slice p' k' c') (vDen e m x)) ∧ Ext w w' := by
  have H := hide h
  obtain ⟨h1, h2, h3, h4⟩ := h
  have q6 := and_msk H.out hx
  have q7 := and_sgn H.out (msk_lt H.out x)
  rw [msk_ng] at q7
  have HM := hide (mask_any e m H.out)
  have HS := hide (signBit_any e m H.out)
  have HV := hide (value_any e m H.out (msk e m x) (msk_lt H.out x))
  rw [msk_cls, msk_vNeg, msk_vNum, msk_vDen] at HV
  clear hx
  generalize msk e m x = y at *
  generalize ngB e m x = ng at *
  generalize (cls e m x : Int) = cl at *
  generalize vNeg e m x = vn at *
  generalize vNum e m x = nn at *
  generalize vDen e m x = dd at *
  generalize 2 * sgn e m - 1 = mk at *
  generalize sgn e m = sg at *
  go_enter Oacg.func36, Oacg.ntmps36
  go_wp2_with fail
  refine (HM.out _).mono ?_
  rintro r w1 ⟨rfl, hx1⟩
  have HE1 := hide hx1
  obtain ⟨q1, q2, q3⟩ := HE1.out.rule
  clear hx1
  go_wp2_with fail
  refine (HV.out _).mono ?_
  rintro r w2 ⟨⟨v2, rfl, hv2⟩, hx2⟩
  obtain ⟨p7, k7, c7, p8, k8, c8, rfl, hn, hd⟩ := hv2
  have HE2 := hide (HE1.out.trans hx2)
  have HN := hide hn
  have HD := hide hd
  clear hx2 hn hd q1 q2 q3 HE1
  obtain ⟨q1, q2, q3⟩ := HE2.out.rule
  have hz : w.heap.size + 2 ≤ w2.heap.size := by have := q3; simp at this; omega
  have d0 : w2.cell? ⟨w.heap.size, 0, none⟩ = some (.int .u8 (e : Int)) := by rw [q1 _ _ (by simp; try omega)]; simp [go_sem]
  have d1 : w2.cell? ⟨w.heap.size, 1, none⟩ = some (.int .u8 (m : Int)) := by rw [q1 _ _ (by simp; try omega)]; simp [go_sem]
  have hy1 : w.heap.size < w2.heap.size := by omega
  have hy2 : w.heap.size + 1 < w2.heap.size := by omega
  have hy3 : w.heap.size < w2.heap.size + 1 := by omega
  have hy4 : w.heap.size < w2.heap.size + 1 + 1 := by omega
  have hn1 : ¬ w2.heap.size = w.heap.size := by omega
  have hn2 : ¬ w.heap.size + 1 = w2.heap.size := by omega
  go_wp2_with fail
  go_region_held3 (fun w' => w'.cell? ⟨w.heap.size, 0, none⟩ = some (.int .u8 (e : Int)) ∧ w'.cell? ⟨w.heap.size, 1, none⟩ = some (.int .u8 (m : Int)) ∧ w'.cell? ⟨w2.heap.size, 0, none⟩ = some (.bool vn) ∧ w'.cell? ⟨w2.heap.size, 1, none⟩ = some (.slice p7 k7 c7) ∧ w'.cell? ⟨w2.heap.size, 2, none⟩ = some (.slice p8 k8 c8))
    ((simp [go_sem, d0, d1, hy1, hy2, hy3, hy4, hn1, hn2]; done))
    (first
      | (go_at_call 55; refine (HS.out _).mono ?_; rintro r w' ⟨rfl, o1, o2, rfl⟩))
  all_goals go_wp2_with fail
  have hNL : NoL w2 (w.heap.size + 1) 6 := by
    have h0 := NoL.new (w.alloc (.cells #[.int .u8 (e : Int), .int .u8 (m : Int)] 23)) [.int .u64 0, .bool false, .int .i8 0, .bool false, .slice none 0 0, .slice none 0 0] 62 rfl
    rw [World.size_alloc] at h0
    exact h0.ext HE2.out
  have HK := hide (hNL.keeps6 (u0 := .int .u64 (y : Int)) (u1 := .bool ng) (u2 := .int .i8 cl) (u3 := .bool vn) (u4 := .slice p7 k7 c7) (u5 := .slice p8 k8 c8) rfl rfl rfl rfl rfl)
  have hx : Ext w w2 := (((Ext.refl _).alloc _ _).alloc _ _).trans HE2.out
  simp [bodyPost, results, Oacg.results36, go_sem, q1, hy1, hy2, hy3, hy4]
  have hA : ∀ (X : World) a b c ta tb tc, Ext X (((X.alloc (.cells a ta)).alloc (.cells b tb)).alloc (.cells c tc)).drew := fun X a b c ta tb tc => ((((Ext.refl X).alloc a ta).alloc b tb).alloc c tc).drew
  exact ⟨⟨p7, k7, c7, p8, k8, c8, ⟨⟨rfl, rfl, rfl⟩, rfl, rfl, rfl⟩, (HK.out _ _ HN.out).ext (hA _ _ _ _ _ _ _), (HK.out _ _ HD.out).ext (hA _ _ _ _ _ _ _)⟩, (hx.set6 (Nat.le_succ _) _ _ _ _ _ _).trans (hA _ _ _ _ _ _ _)⟩
end Go.Proofs.YgcoacGreat
