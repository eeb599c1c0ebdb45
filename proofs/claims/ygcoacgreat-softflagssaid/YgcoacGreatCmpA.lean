/-
  exact.rank, exact.Cmp.
-/
import Derived.Test.YgcoacGreatRules
namespace Go.Proofs.YgcoacGreat
open Go.RowKit
attribute [local go_sem] nil_eq nil_ne
set_option linter.unusedSimpArgs false
set_option linter.unusedVariables false

/-- An operand's six cells. -/
abbrev Op6 (w : World) (b : Nat) (x0 x1 x2 x3 x4 x5 : Value) : Prop :=
  w.cell? ⟨b, 0, none⟩ = some x0 ∧ w.cell? ⟨b, 1, none⟩ = some x1 ∧ w.cell? ⟨b, 2, none⟩ = some x2 ∧ w.cell? ⟨b, 3, none⟩ = some x3 ∧ w.cell? ⟨b, 4, none⟩ = some x4 ∧ w.cell? ⟨b, 5, none⟩ = some x5
def Zero6 : Obj := (.cells #[.int .u64 0, .bool false, .int .i8 0, .bool false, .slice none 0 0, .slice none 0 0] 62)
theorem lt2 {a b : Nat} (h : a < b) : a < b ∧ a < b + 1 := ⟨h, by omega⟩
theorem nl6 (w : World) : ∀ i, i < 6 → NL1 (w.alloc (.cells #[.int .u64 0, .bool false, .int .i8 0, .bool false, .slice none 0 0, .slice none 0 0] 62)) w.heap.size i := by
  intro i hi
  match i, hi with
  | 0, _ => exact R.nlNew rfl rfl rfl
  | 1, _ => exact R.nlNew rfl rfl rfl
  | 2, _ => exact R.nlNew rfl rfl rfl
  | 3, _ => exact R.nlNew rfl rfl rfl
  | 4, _ => exact R.nlNew rfl rfl rfl
  | 5, _ => exact R.nlNew rfl rfl rfl
  | n + 6, h => omega
theorem pk1 {a b : World} (h : Ext (a.alloc (.cells #[.int .u64 0, .bool false, .int .i8 0, .bool false, .slice none 0 0, .slice none 0 0] 62)) b) : a.heap.size < b.heap.size ∧ a.heap.size < b.heap.size + 1 ∧ (∀ i, i < 6 → NL1 b a.heap.size i) := by
  have := h.size
  simp at this
  exact ⟨by omega, by omega, fun i hi => R.nlExt (nl6 a i hi) h⟩
theorem pk2 {a b : World} (h : Ext ((a.alloc (.cells #[.int .u64 0, .bool false, .int .i8 0, .bool false, .slice none 0 0, .slice none 0 0] 62)).alloc (.cells #[.int .u64 0, .bool false, .int .i8 0, .bool false, .slice none 0 0, .slice none 0 0] 62)) b) : a.heap.size < b.heap.size ∧ a.heap.size < b.heap.size + 1 ∧ (∀ i, i < 6 → NL1 b a.heap.size i) ∧ a.heap.size + 1 < b.heap.size ∧ a.heap.size + 1 < b.heap.size + 1 ∧ (∀ i, i < 6 → NL1 b (a.heap.size + 1) i) := by
  have := h.size
  simp at this
  refine ⟨by omega, by omega, fun i hi => R.nlExt (R.nlAlloc (by simp) (nl6 a i hi)) h, by omega, by omega, fun i hi => ?_⟩
  have h2 := nl6 (a.alloc (.cells #[.int .u64 0, .bool false, .int .i8 0, .bool false, .slice none 0 0, .slice none 0 0] 62)) i hi
  rw [World.size_alloc] at h2
  exact R.nlExt h2 h
theorem six {w : World} {b : Nat} (h : ∀ i, i < 6 → NL1 w b i) : NL1 w b 0 ∧ NL1 w b 1 ∧ NL1 w b 2 ∧ NL1 w b 3 ∧ NL1 w b 4 ∧ NL1 w b 5 :=
  ⟨h 0 (by decide), h 1 (by decide), h 2 (by decide), h 3 (by decide), h 4 (by decide), h 5 (by decide)⟩
theorem keeps4 {w X : World} {v1 v2 v3 v4 : Value} {n1 n2 n3 n4 : Nat} (hk : Keeps w X) (h : NatAt w v1 n1 ∧ NatAt w v2 n2 ∧ NatAt w v3 n3 ∧ NatAt w v4 n4) : NatAt X v1 n1 ∧ NatAt X v2 n2 ∧ NatAt X v3 n3 ∧ NatAt X v4 n4 :=
  ⟨hk _ _ h.1, hk _ _ h.2.1, hk _ _ h.2.2.1, hk _ _ h.2.2.2⟩

theorem two_pow_lt_W {a k : Nat} (h : a < 32 * k) : 2 ^ a < W k := by rw [W_pow]; exact Nat.pow_lt_pow_right (by decide) h
theorem lt_W_of_pow {n a k : Nat} (hn : n < 2 ^ a) (h : a ≤ 32 * k) : n < W k := by rw [W_pow]; exact Nat.lt_of_lt_of_le hn (pow_le_of h)
theorem vNum_lt {e m : Nat} (h : Fm e m) (x : Nat) : vNum e m x < W 100 := by
  have h1 := pMan_lt e m x
  have h2 := pExp_bd h x
  obtain ⟨_, _, _, _⟩ := h
  have h3 : pMan e m x < W 2 := lt_W_of_pow h1 (by omega)
  exact mul_lt_W (l := 98) h3 (two_pow_lt_W (by omega))
theorem vDen_lt {e m : Nat} (h : Fm e m) (x : Nat) : vDen e m x < W 100 := by
  have h2 := pExp_bd h x
  exact two_pow_lt_W (by omega)

theorem NatAt.isNone {w : World} {p : Option Addr} {k c n : Nat} (h : NatAt w (.slice p k c) n) : p.isNone = decide (n = 0) := by
  rcases h with ⟨h0, h1⟩ | ⟨l, b, off, cap, h1, h2, h3, h4, h5, h6, h7, h8⟩
  · injection h1 with h1 _ _
    rw [h1, h0]; rfl
  · injection h1 with h1 _ _
    rw [h1]
    simp
    omega

def rankI (c : Int) (n : Bool) : Int := if c = 3 then (if n then -1 else 1) else 0

theorem rankI_zero (c : Int) (n : Bool) : (rankI c n = 0) ↔ c ≠ 3 := by
  unfold rankI
  by_cases h : c = 3
  · cases n <;> simp [h]
  · simp [h]

theorem rank_any (bx cx : Int) (nx vx : Bool) (p1 p2 : Option Addr) (k1 c1 k2 c2 : Nat) (w : World) :
    Calls Oacg.prog 85 #[.agg #[.int .u64 bx, .bool nx, .int .i8 cx, .bool vx, .slice p1 k1 c1, .slice p2 k2 c2]] w fun r w' => r = .returned (.int .i8 (rankI cx nx)) ∧ ∃ o, w' = w.alloc (.cells o 62) := by
  unfold rankI
  by_cases h3 : cx = 3
  · subst h3
    cases nx
    all_goals
      go_enter Oacg.func85, Oacg.ntmps85
      go_wp2
      go_ret
      exact ⟨rfl, _, rfl⟩
  · have hb : (cx != 3) = true := by simp [h3]
    rw [if_neg h3]
    clear h3
    go_enter Oacg.func85, Oacg.ntmps85
    go_wp2
    go_ret
    exact ⟨rfl, _, rfl⟩

/-- exact.Cmp's answer, out of the operands' classes, signs and values. -/
def cmpX (cx cy : Int) (nx ny vx vy : Bool) (Nx Dx Ny Dy : Nat) : Int :=
  if cx = 4 ∨ cy = 4 then 2
  else if rankI cx nx = 0 ∧ rankI cy ny = 0 then cmpQ vx Nx Dx vy Ny Dy
  else if rankI cx nx < rankI cy ny then -1 else if rankI cy ny < rankI cx nx then 1 else 0

set_option maxHeartbeats 4000000 in
theorem exactCmp_any (e m : Nat) (h : Fm e m) (x y : Nat) (hx : x < 18446744073709551616) (hy : y < 18446744073709551616) (w : World) :
    Calls Oacg.prog 53 #[.agg #[.int .u8 (e : Int), .int .u8 (m : Int)], .int .u64 (x : Int), .int .u64 (y : Int)] w fun r w' => r = .returned (.int .i8 (cmpX (cls e m x : Int) (cls e m y : Int) (ngB e m x) (ngB e m y) (vNeg e m x) (vNeg e m y) (vNum e m x) (vDen e m x) (vNum e m y) (vDen e m y))) ∧ Ext w w' := by
  have H := hide h
  have hok := okB_fm h
  have HOx := hide (open_any e m h x hx)
  have HOy := hide (open_any e m h y hy)
  have hbd : vNum e m x < W 100 ∧ vDen e m x < W 100 ∧ vNum e m y < W 100 ∧ vDen e m y < W 100 := ⟨vNum_lt h x, vDen_lt h x, vNum_lt h y, vDen_lt h y⟩
  obtain ⟨h1, h2, h3, h4⟩ := h
  clear hx hy
  generalize (msk e m x : Int) = bx at *
  generalize (msk e m y : Int) = by_ at *
  generalize ngB e m x = nx at *
  generalize ngB e m y = ny at *
  generalize (cls e m x : Int) = cx at *
  generalize (cls e m y : Int) = cy at *
  generalize vNeg e m x = vx at *
  generalize vNeg e m y = vy at *
  generalize vNum e m x = Nx at *
  generalize vNum e m y = Ny at *
  generalize vDen e m x = Dx at *
  generalize vDen e m y = Dy at *
  have hq : cmpX cx cy nx ny vx vy Nx Dx Ny Dy = if cx = 4 ∨ cy = 4 then 2 else if rankI cx nx = 0 ∧ rankI cy ny = 0 then cmpQ vx Nx Dx vy Ny Dy else if rankI cx nx < rankI cy ny then -1 else if rankI cy ny < rankI cx nx then 1 else 0 := rfl
  have HQ := hide hq
  clear hq
  generalize cmpX cx cy nx ny vx vy Nx Dx Ny Dy = cq at *
  have HBd := hide hbd
  clear hbd
  obtain ⟨W0, hW0⟩ : ∃ W0, W0 = ((w.alloc (.cells #[.int .u8 (e : Int), .int .u8 (m : Int)] 23)).alloc (.cells #[.int .u8 (e : Int), .int .u8 (m : Int)] 23)) := ⟨_, rfl⟩
  have d0 : W0.cell? ⟨w.heap.size, 0, none⟩ = some (.int .u8 (e : Int)) := by rw [hW0]; simp [go_sem]
  have d1 : W0.cell? ⟨w.heap.size, 1, none⟩ = some (.int .u8 (m : Int)) := by rw [hW0]; simp [go_sem]
  have hy1 : w.heap.size < W0.heap.size := by rw [hW0]; simp; omega
  have hy1' : w.heap.size < W0.heap.size + 1 := by omega
  have m0 : ¬ W0.heap.size = w.heap.size := by omega
  have m0' : ¬ W0.heap.size + 1 = w.heap.size := by omega
  have HW0 : Hid (Ext w W0) := by rw [hW0]; exact ((Ext.refl _).alloc _ _).alloc _ _
  go_enter Oacg.func53, Oacg.ntmps53
  go_wp2_with (first | (go_at_call 4; refine (ok_any _ _ _).mono ?_; rintro r w' ⟨rfl, rfl⟩))
  rw [← hW0]
  clear hW0
  have tok1 : True := trivial
  go_cut [7, 8] (fun v7 v8 wx => ∃ B1 B2 p1 k1 c1 p2 k2 c2 p3 k3 c3 p4 k4 c4, v7 = .pointer (some ⟨B1, 0, none⟩) ∧ v8 = .pointer (some ⟨B2, 0, none⟩) ∧ B1 ≠ B2 ∧ W0.heap.size ≤ B1 ∧ W0.heap.size ≤ B2 ∧ Hid (Ext W0 wx) ∧
      Hid (NatAt wx (.slice p1 k1 c1) Nx ∧ NatAt wx (.slice p2 k2 c2) Dx ∧ NatAt wx (.slice p3 k3 c3) Ny ∧ NatAt wx (.slice p4 k4 c4) Dy) ∧
      Op6 wx B1 (.int .u64 bx) (.bool nx) (.int .i8 cx) (.bool vx) (.slice p1 k1 c1) (.slice p2 k2 c2) ∧ Op6 wx B2 (.int .u64 by_) (.bool ny) (.int .i8 cy) (.bool vy) (.slice p3 k3 c3) (.slice p4 k4 c4))
  case first =>
    go_region_held3 (fun w' => w'.cell? ⟨w.heap.size, 0, none⟩ = some (.int .u8 (e : Int)) ∧ w'.cell? ⟨w.heap.size, 1, none⟩ = some (.int .u8 (m : Int)))
      (first | (simp [go_sem, d0, d1, hy1, hy1']; done) | (simp [go_sem, e0, e1, y1, y1']; done) | (simp [go_sem, g0, g1, y2, y2', m0, m0', m1, m1']; done))
      (first
        | (go_at_call 36; have _t := tok1; refine (HOx.out _).mono ?_; rintro r w1 ⟨⟨p1, k1, c1, p2, k2, c2, rfl, hn1, hd1⟩, hx1⟩; clear tok1; have HX1 : Hid (Ext W0 w1) := Ext.trans (by (repeat (first | apply Ext.drew | apply Ext.alloc)); exact Ext.refl _) hx1; have HN1 := hide hn1; have HD1 := hide hd1; obtain ⟨q1, f1, z1⟩ := hx1.rule; obtain ⟨y1, y1'⟩ := lt2 (Nat.lt_of_lt_of_le hy1 HX1.out.size); have e0 := HX1.out.cell d0; have e1 := HX1.out.cell d1; have m1 : ¬ w1.heap.size = w.heap.size := Nat.ne_of_gt y1; have m1' : ¬ w1.heap.size + 1 = w.heap.size := Nat.ne_of_gt y1'; (try (have hE : Ext (W0.alloc (.cells #[.int .u64 0, .bool false, .int .i8 0, .bool false, .slice none 0 0, .slice none 0 0] 62)) w1 := Ext.trans (Ext.drew (Ext.refl _)) hx1; obtain ⟨a1, a1', l1⟩ := pk1 hE; have L1 := hide l1; clear hE l1)); (try (have hE : Ext ((W0.alloc (.cells #[.int .u64 0, .bool false, .int .i8 0, .bool false, .slice none 0 0, .slice none 0 0] 62)).alloc (.cells #[.int .u64 0, .bool false, .int .i8 0, .bool false, .slice none 0 0, .slice none 0 0] 62)) w1 := Ext.trans (Ext.drew (Ext.refl _)) hx1; obtain ⟨a1, a1', l1, a2, a2', l2⟩ := pk2 hE; have L1 := hide l1; have L2 := hide l2; clear hE l1 l2)); clear hn1 hd1 hx1)
        | (go_at_call 36; refine (HOy.out _).mono ?_; rintro r w2 ⟨⟨p3, k3, c3, p4, k4, c4, rfl, hn2, hd2⟩, hx2⟩; have HX2 : Hid (Ext w1 w2) := Ext.trans (by (repeat (first | apply Ext.drew | apply Ext.alloc)); exact Ext.refl _) hx2; have HN2 := hide hn2; have HD2 := hide hd2; obtain ⟨q2, f2, z2⟩ := hx2.rule; have g0 := HX2.out.cell e0; have g1 := HX2.out.cell e1; obtain ⟨y2, y2'⟩ := lt2 (Nat.lt_of_lt_of_le y1 HX2.out.size); (try (have hE : W0.heap.size < w2.heap.size := Nat.lt_of_lt_of_le a1 HX2.out.size; obtain ⟨a3, a3'⟩ := lt2 hE; clear hE)); (try (have hE : W0.heap.size + 1 < w2.heap.size := Nat.lt_of_lt_of_le a2 HX2.out.size; obtain ⟨a4, a4'⟩ := lt2 hE; clear hE)); (try (have hE : Ext (w1.alloc (.cells #[.int .u64 0, .bool false, .int .i8 0, .bool false, .slice none 0 0, .slice none 0 0] 62)) w2 := hx2; obtain ⟨a5, a5', l3⟩ := pk1 hE; have L3 := hide l3; clear hE l3)); (try (have hE : Ext ((w1.alloc (.cells #[.int .u64 0, .bool false, .int .i8 0, .bool false, .slice none 0 0, .slice none 0 0] 62)).alloc (.cells #[.int .u64 0, .bool false, .int .i8 0, .bool false, .slice none 0 0, .slice none 0 0] 62)) w2 := hx2; obtain ⟨a5, a5', l3, a6, a6', l4⟩ := pk2 hE; have L3 := hide l3; have L4 := hide l4; clear hE l3 l4)); clear hn2 hd2 hx2))
    all_goals go_wp2_with fail
    all_goals go_meet
    all_goals
      have s1 : W0.heap.size ≤ w1.heap.size := HX1.out.size
      have s1' : W0.heap.size ≤ w1.heap.size + 1 := Nat.le_succ_of_le s1
      have s2 : w1.heap.size ≤ w2.heap.size := HX2.out.size
      have s2' : W0.heap.size ≤ w2.heap.size := Nat.le_trans s1 s2
      have s2'' : W0.heap.size ≤ w2.heap.size + 1 := Nat.le_succ_of_le s2'
      have hxx : Ext W0 w2 := HX1.out.trans HX2.out
      have hkr : Keeps w2 w2 := Keeps.refl _
      (try (have l1 : NL1 w2 W0.heap.size 0 ∧ NL1 w2 W0.heap.size 1 ∧ NL1 w2 W0.heap.size 2 ∧ NL1 w2 W0.heap.size 3 ∧ NL1 w2 W0.heap.size 4 ∧ NL1 w2 W0.heap.size 5 := six (fun i hi => R.nlExt (L1.out i hi) HX2.out)))
      (try (have l2 : NL1 w2 (W0.heap.size + 1) 0 ∧ NL1 w2 (W0.heap.size + 1) 1 ∧ NL1 w2 (W0.heap.size + 1) 2 ∧ NL1 w2 (W0.heap.size + 1) 3 ∧ NL1 w2 (W0.heap.size + 1) 4 ∧ NL1 w2 (W0.heap.size + 1) 5 := six (fun i hi => R.nlExt (L2.out i hi) HX2.out)))
      (try (have l3 : NL1 w2 w1.heap.size 0 ∧ NL1 w2 w1.heap.size 1 ∧ NL1 w2 w1.heap.size 2 ∧ NL1 w2 w1.heap.size 3 ∧ NL1 w2 w1.heap.size 4 ∧ NL1 w2 w1.heap.size 5 := six L3.out))
      (try (have l4 : NL1 w2 (w1.heap.size + 1) 0 ∧ NL1 w2 (w1.heap.size + 1) 1 ∧ NL1 w2 (w1.heap.size + 1) 2 ∧ NL1 w2 (w1.heap.size + 1) 3 ∧ NL1 w2 (w1.heap.size + 1) 4 ∧ NL1 w2 (w1.heap.size + 1) 5 := six L4.out))
      clear q1 f1 z1 q2 f2 z2 m0 m0' m1 m1' d0 d1 e0 e1 g0 g1 hy1 hy1' y1 y1' y2 y2'
      refine ⟨_, _, p1, k1, c1, p2, k2, c2, p3, k3, c3, p4, k4, c4, rfl, rfl, ?_, ?_, ?_, ?_, keeps4 ?_ ⟨HN1.out.ext HX2.out, HD1.out.ext HX2.out, HN2.out, HD2.out⟩, ?_, ?_⟩
      · omega
      · omega
      · omega
      · show Ext _ _
        simp (maxDischargeDepth := 100) only [R.extAlloc, R.extDrew, R.extSet, Nat.le_refl, Nat.le_add_right, s1, s1', s2', s2'', hxx]
      · simp (maxDischargeDepth := 100) only [R.kpAlloc, R.kpDrew, R.kpSet, R.nlSet, R.nlAlloc, R.nlDrew, World.size_setCell, World.size_alloc, R.n64, R.ni8, R.nb, R.ns, eq_self, Nat.reduceLT, Nat.lt_add_one, *]
      · (try simp (maxDischargeDepth := 100) only [Op6, R.cellSame, R.cellOffLt, R.cellOffGt, R.cellLt, R.cellGt, R.cellPast, R.cellNew, R.cellDrew, R.nlSet, R.nlAlloc, R.nlDrew, World.size_setCell, World.size_alloc, R.n64, R.ni8, R.nb, R.ns, eq_self, and_self, Nat.reduceLT, Nat.lt_add_one, *])
        all_goals (first | exact ⟨rfl, rfl, rfl, rfl, rfl, rfl⟩ | trace_state)
      · (try simp (maxDischargeDepth := 100) only [Op6, R.cellSame, R.cellOffLt, R.cellOffGt, R.cellLt, R.cellGt, R.cellPast, R.cellNew, R.cellDrew, R.nlSet, R.nlAlloc, R.nlDrew, World.size_setCell, World.size_alloc, R.n64, R.ni8, R.nb, R.ns, eq_self, and_self, Nat.reduceLT, Nat.lt_add_one, *])
        all_goals (first | exact ⟨rfl, rfl, rfl, rfl, rfl, rfl⟩ | trace_state)
  case rest =>
    obtain ⟨B1, B2, p1, k1, c1, p2, k2, c2, p3, k3, c3, p4, k4, c4, rfl, rfl, hB, hB1, hB2, HX, HN, o1, o2⟩ := hcut
    obtain ⟨o10, o11, o12, o13, o14, o15⟩ := o1
    obtain ⟨o20, o21, o22, o23, o24, o25⟩ := o2
    have hHx : Ext w wc := HW0.out.trans HX.out
    have HHx := hide hHx
    clear hHx d0 d1 hy1 hy1' m0 m0' tok1
    by_cases hN1 : cx = 4
    · have b1 : (cx == 4) = true := by simp [hN1]
      have HQ2 := hide (HQ.out.trans (if_pos (.inl hN1)))
      clear hN1
      go_wp2_with fail
      go_ret
      exact ⟨ret_int HQ2.out.symm, HHx.out⟩
    by_cases hN2 : cy = 4
    · have b1 : (cx == 4) = false := by simp [hN1]
      have b2 : (cy == 4) = true := by simp [hN2]
      have HQ2 := hide (HQ.out.trans (if_pos (.inr hN2)))
      clear hN1 hN2
      go_wp2_with fail
      go_ret
      exact ⟨ret_int HQ2.out.symm, HHx.out⟩
    have b1 : (cx == 4) = false := by simp [hN1]
    have b2 : (cy == 4) = false := by simp [hN2]
    have HQ2 := hide (HQ.out.trans (if_neg (by omega)))
    clear hN1 hN2 HQ
    have l1 : B1 < wc.heap.size := World.block_lt_of_cell? _ _ o10
    have l2 : B2 < wc.heap.size := World.block_lt_of_cell? _ _ o20
    have l1' : B1 < wc.heap.size + 1 := by omega
    have l2' : B2 < wc.heap.size + 1 := by omega
    have tok1 : True := trivial
    go_wp2_with fail
    go_region_held3 (fun w' => Op6 w' B1 (.int .u64 bx) (.bool nx) (.int .i8 cx) (.bool vx) (.slice p1 k1 c1) (.slice p2 k2 c2) ∧ Op6 w' B2 (.int .u64 by_) (.bool ny) (.int .i8 cy) (.bool vy) (.slice p3 k3 c3) (.slice p4 k4 c4))
      ((simp [go_sem, Op6, o10, o11, o12, o13, o14, o15, o20, o21, o22, o23, o24, o25, l1, l2, l1', l2']; done))
      (first
        | (go_at_call 85; have _t := tok1; refine (rank_any bx cx nx vx p1 p2 k1 c1 k2 c2 _).mono ?_; rintro r w1 ⟨rfl, z1, rfl⟩; clear tok1)
        | (go_at_call 85; refine (rank_any by_ cy ny vy p3 p4 k3 c3 k4 c4 _).mono ?_; rintro r w1 ⟨rfl, z2, rfl⟩))
    have HZ := hide (rankI_zero cx nx)
    have HZ2 := hide (rankI_zero cy ny)
    generalize rankI cx nx = rx at *
    generalize rankI cy ny = ry at *
    have hA : ∀ (X : World) a b ta tb, Ext X ((X.alloc (.cells a ta)).alloc (.cells b tb)).drew := fun X a b ta tb => (((Ext.refl X).alloc a ta).alloc b tb).drew
    obtain ⟨W3, hW3⟩ : ∃ W3, W3 = ((wc.alloc (.cells z1 62)).alloc (.cells z2 62)).drew := ⟨_, rfl⟩
    have hX3 : Ext wc W3 := by rw [hW3]; exact hA _ _ _ _ _
    rw [← hW3]
    have HX3 := hide hX3
    replace o10 := hX3.cell o10
    replace o11 := hX3.cell o11
    replace o12 := hX3.cell o12
    replace o13 := hX3.cell o13
    replace o14 := hX3.cell o14
    replace o15 := hX3.cell o15
    replace o20 := hX3.cell o20
    replace o21 := hX3.cell o21
    replace o22 := hX3.cell o22
    replace o23 := hX3.cell o23
    replace o24 := hX3.cell o24
    replace o25 := hX3.cell o25
    have hB2f : ∀ i, W3.frozen? ⟨B2, i, none⟩ = false := by
      intro i
      rw [hX3.froz, HX.out.froz]
      exact frozen?_of_ge hB2
    clear hX3 hW3 hA l1 l2 l1' l2'
    by_cases hr : rx = 0 ∧ ry = 0
    · have b3 : (rx != 0) = false := by simp [hr.1]
      have b4 : (ry != 0) = false := by simp [hr.2]
      have HQ3 := hide (HQ2.out.trans (if_pos hr))
      have hq : cmpQ vx Nx Dx vy Ny Dy = if sNum vx Nx Dx (!vy) Ny Dy = 0 then 0 else if sNeg vx Nx Dx (!vy) Ny Dy then -1 else 1 := rfl
      rw [hq] at HQ3
      have hk := keeps_setCell o23 rfl (.bool !vy)
      have HAR := hide (addRat_any vx (!vy) Nx Dx Ny Dy 100 HBd.out.1 HBd.out.2.1 HBd.out.2.2.1 HBd.out.2.2.2 (by omega) (.agg #[.bool vx, .slice p1 k1 c1, .slice p2 k2 c2]) (.agg #[.bool !vy, .slice p3 k3 c3, .slice p4 k4 c4]) (W3.setCell ⟨B2, 3, none⟩ (.bool !vy))
        ⟨_, _, _, _, _, _, rfl, hk _ _ (HN.out.1.ext HX3.out), hk _ _ (HN.out.2.1.ext HX3.out)⟩ ⟨_, _, _, _, _, _, rfl, hk _ _ (HN.out.2.2.1.ext HX3.out), hk _ _ (HN.out.2.2.2.ext HX3.out)⟩)
      have HE4 : Hid (Ext w (W3.setCell ⟨B2, 3, none⟩ (.bool !vy))) := (HHx.out.trans HX3.out).setCell (Nat.le_trans HW0.out.size hB2) _
      clear hr hq hk HQ2
      generalize sNum vx Nx Dx (!vy) Ny Dy = sm at *
      generalize sNeg vx Nx Dx (!vy) Ny Dy = sn at *
      go_wp2_with fail
      refine HAR.out.mono ?_
      rintro r w5 ⟨⟨v5, rfl, hv5⟩, hx5⟩
      obtain ⟨p7, k7, c7, p8, k8, c8, rfl, hn, hd⟩ := hv5
      have hiso := hn.isNone
      have HE5 := hide (HE4.out.trans hx5)
      clear hx5 hn hd
      by_cases hz : sm = 0
      · have hz2 : p7.isNone = true := by rw [hiso]; simp [hz]
        have HQ4 := hide (HQ3.out.trans (if_pos hz))
        clear hiso hz
        go_wp2_with fail
        go_ret
        exact ⟨ret_int HQ4.out.symm, HE5.out.alloc _ _⟩
      · have hz2 : p7.isNone = false := by rw [hiso]; simp [hz]
        have HQ4 := hide (HQ3.out.trans (if_neg hz))
        clear hiso hz
        cases sn
        all_goals
          go_wp2_with fail
          go_ret
          exact ⟨ret_int HQ4.out.symm, HE5.out.alloc _ _⟩
    · by_cases hx0 : rx = 0
      · have hy0 : ¬ ry = 0 := fun h => hr ⟨hx0, h⟩
        have b3 : (rx != 0) = false := by simp [hx0]
        have b4 : (ry != 0) = true := by simp [hy0]
        have HQ3 := hide (HQ2.out.trans (if_neg hr))
        clear hr hx0 hy0 HQ2
        by_cases hl : rx < ry
        · have HQ4 := hide (HQ3.out.trans (if_pos hl))
          go_wp2_with fail
          go_ret
          exact ⟨ret_int HQ4.out.symm, HHx.out.trans HX3.out⟩
        · have HQ4 := hide (HQ3.out.trans (if_neg hl))
          by_cases hg : ry < rx
          · have HQ5 := hide (HQ4.out.trans (if_pos hg))
            go_wp2_with fail
            go_ret
            exact ⟨ret_int HQ5.out.symm, HHx.out.trans HX3.out⟩
          · have HQ5 := hide (HQ4.out.trans (if_neg hg))
            go_wp2_with fail
            go_ret
            exact ⟨ret_int HQ5.out.symm, HHx.out.trans HX3.out⟩
      · have b3 : (rx != 0) = true := by simp [hx0]
        have HQ3 := hide (HQ2.out.trans (if_neg hr))
        clear hr hx0 HQ2
        by_cases hl : rx < ry
        · have HQ4 := hide (HQ3.out.trans (if_pos hl))
          go_wp2_with fail
          go_ret
          exact ⟨ret_int HQ4.out.symm, HHx.out.trans HX3.out⟩
        · have HQ4 := hide (HQ3.out.trans (if_neg hl))
          by_cases hg : ry < rx
          · have HQ5 := hide (HQ4.out.trans (if_pos hg))
            go_wp2_with fail
            go_ret
            exact ⟨ret_int HQ5.out.symm, HHx.out.trans HX3.out⟩
          · have HQ5 := hide (HQ4.out.trans (if_neg hg))
            go_wp2_with fail
            go_ret
            exact ⟨ret_int HQ5.out.symm, HHx.out.trans HX3.out⟩
end Go.Proofs.YgcoacGreat
