/-
  soft.addFinite; the sum in Parts' terms.
-/
import Derived.Test.YgcoacGreatSfK
namespace Go.Proofs.YgcoacGreat
open Go.RowKit
set_option linter.unusedSimpArgs false
set_option linter.unusedVariables false

/-- addFinite's answer. -/
def afP (e m : Nat) (mode : Int) (nx : Bool) (cx : Nat) (ex : Int) (mx : Nat) (ny : Bool) (cy : Nat) (ey : Int) (my : Nat) : Nat × Int :=
  if cx = 0 ∧ cy = 0 then (sg e m (if nx = ny then nx else (mode == 4)), 0)
  else if cx = 0 then (rndV e m mode ny (shN my ey) (shD 1 ey), rndF e m mode ny (shN my ey) (shD 1 ey))
  else if cy = 0 then (rndV e m mode nx (shN mx ex) (shD 1 ex), rndF e m mode nx (shN mx ex) (shD 1 ex))
  else sumP e m mode nx (ex - ((63 - m : Nat) : Int) - 63) (mx * 2 ^ (63 - m) * 9223372036854775808) ny (ey - ((63 - m : Nat) : Int) - 63) (my * 2 ^ (63 - m) * 9223372036854775808)
theorem nb_man {m man : Nat} (hm : m ≤ 52) (h1 : 2 ^ m ≤ man) (h2 : man < 2 ^ (m + 1)) : Nb (man * 2 ^ (63 - m) * 9223372036854775808) := by
  have a1 := top_ge hm h1
  have a2 := man_top hm h2
  refine ⟨?_, ?_, ?_⟩
  · omega
  · omega
  · have : man * 2 ^ (63 - m) * 9223372036854775808 = man * 2 ^ (52 - m) * 18889465931478580854784 := by
      rw [show 63 - m = (52 - m) + 11 by omega, Nat.pow_add, Nat.mul_assoc, Nat.mul_assoc, Nat.mul_assoc]
    rw [this]
    exact Nat.mul_mod_left _ _
theorem shN_0 (p : Int) : shN 0 p = 0 := Nat.zero_mul _
/-- The exact sum is addFinite's. -/
theorem addR_af {e m : Nat} (h : Fm e m) (mode : Int) (nx ny : Bool) {cx cy mx my : Nat} (ex ey : Int)
    (zx : cx = 0 → mx = 0) (zy : cy = 0 → my = 0) (gx : ¬ cx = 0 → 2 ^ m ≤ mx) (gy : ¬ cy = 0 → 2 ^ m ≤ my) (bx : mx < 2 ^ (m + 1)) (by' : my < 2 ^ (m + 1)) :
    addR e m mode nx (shN mx ex) (shD 1 ex) ny (shN my ey) (shD 1 ey) = afP e m mode nx cx ex mx ny cy ey my := by
  have hm2 := h.m2
  have dx := sh1_pos ex
  have dy := sh1_pos ey
  unfold afP
  by_cases hx : cx = 0
  · by_cases hy : cy = 0
    · rw [if_pos ⟨hx, hy⟩, zx hx, zy hy, shN_0, shN_0]
      unfold addR
      rw [if_pos]
      unfold sNum
      simp
    · rw [if_neg (by omega), if_pos hx, zx hx, shN_0]
      have hN : 0 < shN my ey := Nat.mul_pos (Nat.lt_of_lt_of_le (two_pos _) (gy hy)) (two_pos _)
      have hp : 0 < shN my ey * shD 1 ex := Nat.mul_pos hN dx
      have e1 : sNum nx 0 (shD 1 ex) ny (shN my ey) (shD 1 ey) = shN my ey * shD 1 ex := by
        unfold sNum
        rw [Nat.zero_mul, Nat.zero_add, Nat.sub_zero, if_neg (by omega : ¬ shN my ey * shD 1 ex ≤ 0)]
        split <;> rfl
      have e2 : sNeg nx 0 (shD 1 ex) ny (shN my ey) (shD 1 ey) = ny := by
        unfold sNeg
        rw [Nat.zero_mul, if_neg (by omega : ¬ shN my ey * shD 1 ex ≤ 0)]
        split
        · assumption
        · rfl
      unfold addR
      rw [e1, e2, if_neg (by omega)]
      obtain ⟨r1, r2⟩ := rnd_cross h mode ny hp (Nat.mul_pos dx dy) dy (show shN my ey * shD 1 ex * shD 1 ey = shN my ey * (shD 1 ex * shD 1 ey) from Nat.mul_assoc _ _ _)
      rw [r1, r2]
  · by_cases hy : cy = 0
    · rw [if_neg (by omega), if_neg hx, if_pos hy, zy hy, shN_0]
      have hN : 0 < shN mx ex := Nat.mul_pos (Nat.lt_of_lt_of_le (two_pos _) (gx hx)) (two_pos _)
      have hp : 0 < shN mx ex * shD 1 ey := Nat.mul_pos hN dy
      have e1 : sNum nx (shN mx ex) (shD 1 ex) ny 0 (shD 1 ey) = shN mx ex * shD 1 ey := by
        unfold sNum
        rw [Nat.zero_mul, Nat.add_zero, Nat.sub_zero, if_pos (Nat.zero_le _)]
        split <;> rfl
      have e2 : sNeg nx (shN mx ex) (shD 1 ex) ny 0 (shD 1 ey) = nx := by
        unfold sNeg
        rw [Nat.zero_mul, if_pos (Nat.zero_le _)]
        split <;> rfl
      unfold addR
      rw [e1, e2, if_neg (by omega)]
      obtain ⟨r1, r2⟩ := rnd_cross h mode nx hp (Nat.mul_pos dx dy) dx (show shN mx ex * shD 1 ey * shD 1 ex = shN mx ex * (shD 1 ex * shD 1 ey) by rw [Nat.mul_assoc, Nat.mul_comm (shD 1 ey)])
      rw [r1, r2]
    · rw [if_neg (by omega), if_neg hx, if_neg hy]
      have hj : ((63 - m : Nat) : Int) + 63 = ((63 - m + 63 : Nat) : Int) := by omega
      rw [Int.sub_sub, Int.sub_sub, hj]
      exact add_sum h mode nx ny (j := 63 - m + 63) (by rw [Nat.pow_add, ← Nat.mul_assoc]) (by rw [Nat.pow_add, ← Nat.mul_assoc]) (nb_man (by omega) (gx hx) bx) (nb_man (by omega) (gy hy) by')
theorem msk_inf {e m x : Nat} (hc : cls e m x = 3) : msk e m x = infV e m (pNeg e m x) := by
  have h1 : ef e m x = 2 ^ e - 1 ∧ ff m x = 0 := by
    unfold cls at hc
    by_cases q1 : ef e m x = 2 ^ e - 1
    · by_cases q2 : ff m x = 0
      · exact ⟨q1, q2⟩
      · rw [if_pos q1, if_neg q2] at hc; omega
    · rw [if_neg q1] at hc
      revert hc
      split
      · split <;> omega
      · omega
  rw [ngB_pNeg (by omega)]
  unfold msk infV infP sg sgn ngB
  unfold ef ff at h1
  have e1 : x % 2 ^ (e + m + 1) = x % 2 ^ m + 2 ^ m * (x / 2 ^ m % 2 ^ e) + 2 ^ (e + m) * (x / 2 ^ (e + m) % 2) := by
    rw [Nat.pow_succ, Nat.mod_mul, Nat.add_comm e m, Nat.pow_add, Nat.mod_mul]
  rw [e1, h1.1, h1.2, Nat.zero_add, Nat.mul_comm (2 ^ m)]
  rcases Nat.mod_two_eq_zero_or_one (x / 2 ^ (e + m)) with hz | hz
  · rw [hz, decide_eq_false (by decide), if_neg (by decide)]; omega
  · rw [hz, decide_eq_true (by decide), if_pos rfl]; omega
/-- The sum, in Parts' terms. -/
theorem faddP_parts {e m : Nat} (h : Fm e m) {mode : Int} {x y : Nat} {P : Nat × Int} (hP : faddP e m mode x y = P) :
    (if cls e m x = 4 ∨ cls e m y = 4 then (nanV e m, heardF e m x y)
    else if cls e m x = 3 ∧ cls e m y = 3 ∧ pNeg e m x ≠ pNeg e m y then (nanV e m, 1)
    else if cls e m x = 3 then (infV e m (pNeg e m x), 0)
    else if cls e m y = 3 then (infV e m (pNeg e m y), 0)
    else afP e m mode (pNeg e m x) (cls e m x) (pExp e m x) (pMan e m x) (pNeg e m y) (cls e m y) (pExp e m y) (pMan e m y)) = P := by
  subst hP
  unfold faddP
  by_cases h1 : cls e m x = 4 ∨ cls e m y = 4
  · rw [if_pos h1, if_pos h1]
  · rw [if_neg h1, if_neg h1, ngB_pNeg (x := x) (by omega), ngB_pNeg (x := y) (by omega)]
    by_cases h2 : cls e m x = 3 ∧ cls e m y = 3 ∧ ngB e m x ≠ ngB e m y
    · rw [if_pos h2, if_pos h2]
    · rw [if_neg h2, if_neg h2]
      by_cases h3 : cls e m x = 3
      · rw [if_pos h3, if_pos h3, msk_inf h3, ngB_pNeg (by omega)]
      · rw [if_neg h3, if_neg h3]
        by_cases h4 : cls e m y = 3
        · rw [if_pos h4, if_pos h4, msk_inf h4, ngB_pNeg (by omega)]
        · rw [if_neg h4, if_neg h4]
          have hcx := cls_cases e m x
          have hcy := cls_cases e m y
          obtain ⟨fx1, fx2⟩ := pMan_facts h x
          obtain ⟨fy1, fy2⟩ := pMan_facts h y
          rw [← addR_af h mode (ngB e m x) (ngB e m y) (pExp e m x) (pExp e m y) fx1 fy1 (fun _ => fx2 (by omega)) (fun _ => fy2 (by omega)) (pMan_bd h x) (pMan_bd h y)]
          unfold addR
          rw [vNeg_pNeg (x := x) (by omega), vNeg_pNeg (x := y) (by omega), ngB_pNeg (x := x) (by omega), ngB_pNeg (x := y) (by omega), vNum_sh, vNum_sh, vDen_sh, vDen_sh]

set_option maxRecDepth 20000 in
set_option maxHeartbeats 4000000 in
theorem addFinite_any (e m : Nat) (h : Fm e m) (mode : Int) (nx : Bool) (cx : Nat) (ex : Int) (mx : Nat) (ny : Bool) (cy : Nat) (ey : Int) (my : Nat)
    (hx1 : -4000 ≤ ex) (hx2 : ex ≤ 4000) (hy1 : -4000 ≤ ey) (hy2 : ey ≤ 4000) (bx : mx < 2 ^ (m + 1)) (by' : my < 2 ^ (m + 1)) (gx : ¬ cx = 0 → 2 ^ m ≤ mx) (gy : ¬ cy = 0 → 2 ^ m ≤ my) (w : World) :
    Calls Oacg.prog 54 #[.agg #[.int .u8 (e : Int), .int .u8 (m : Int)], .int .u8 mode, .agg #[.bool nx, .int .i8 (cx : Int), .int .i16 ex, .int .u64 (mx : Int)], .agg #[.bool ny, .int .i8 (cy : Int), .int .i16 ey, .int .u64 (my : Int)]] w fun r w' =>
      r = .returned (.tuple #[.int .u64 ((afP e m mode nx cx ex mx ny cy ey my).1 : Int), .int .u8 (afP e m mode nx cx ex mx ny cy ey my).2]) ∧ Ext w w' := by
  have hm1 := h.m1
  have hm2 := h.m2
  have hm5 : m ≤ 52 := by omega
  have ux : mx < 18446744073709551616 := Nat.lt_of_lt_of_le bx (Nat.le_trans (pow_le_of (show m + 1 ≤ 53 by omega)) (by decide))
  have uy : my < 18446744073709551616 := Nat.lt_of_lt_of_le by' (Nat.le_trans (pow_le_of (show m + 1 ≤ 53 by omega)) (by decide))
  have HZE := hide (fun b => szero_any e m h b)
  have HRX := hide (roundPack_any e m h mode nx ex (by omega) (by omega) mx ux)
  have HRY := hide (roundPack_any e m h mode ny ey (by omega) (by omega) my uy)
  obtain ⟨MX, hMX⟩ : ∃ v, v = mx * 2 ^ (63 - m) * 9223372036854775808 := ⟨_, rfl⟩
  obtain ⟨MY, hMY⟩ : ∃ v, v = my * 2 ^ (63 - m) * 9223372036854775808 := ⟨_, rfl⟩
  obtain ⟨XX, hXX⟩ : ∃ v, v = ex - ((63 - m : Nat) : Int) - 63 := ⟨_, rfl⟩
  obtain ⟨YY, hYY⟩ : ∃ v, v = ey - ((63 - m : Nat) : Int) - 63 := ⟨_, rfl⟩
  have HNX : Hid (∀ w : World, Calls Oacg.prog 87 #[.agg #[.int .u8 (e : Int), .int .u8 (m : Int)], .agg #[.bool nx, .int .i8 (cx : Int), .int .i16 ex, .int .u64 (mx : Int)]] w fun r w' => r = .returned (nbV nx XX MX) ∧ Ext w w') := by
    subst hMX hXX
    exact numberOf_any e m h nx (cx : Int) ex (by omega) (by omega) mx bx
  have HNY : Hid (∀ w : World, Calls Oacg.prog 87 #[.agg #[.int .u8 (e : Int), .int .u8 (m : Int)], .agg #[.bool ny, .int .i8 (cy : Int), .int .i16 ey, .int .u64 (my : Int)]] w fun r w' => r = .returned (nbV ny YY MY) ∧ Ext w w') := by
    subst hMY hYY
    exact numberOf_any e m h ny (cy : Int) ey (by omega) (by omega) my by'
  have HSU : Box (¬ cx = 0 → ¬ cy = 0 → ∀ w : World, Calls Oacg.prog 86 #[.agg #[.int .u8 (e : Int), .int .u8 (m : Int)], .int .u8 mode, nbV nx XX MX, nbV ny YY MY] w fun r w' =>
      r = .returned (.tuple #[.int .u64 ((sumP e m mode nx XX MX ny YY MY).1 : Int), .int .u8 (sumP e m mode nx XX MX ny YY MY).2]) ∧ Ext w w') := by
    subst hXX hYY
    exact ⟨fun h1 h2 => sum_any e m h mode nx ny _ _ (by omega) (by omega) (by omega) (by omega) _ _ (by rw [hMX]; exact nb_man hm5 (gx h1) bx) (by rw [hMY]; exact nb_man hm5 (gy h2) by')⟩
  obtain ⟨P, hP⟩ : ∃ P, afP e m mode nx cx ex mx ny cy ey my = P := ⟨_, rfl⟩
  rw [hP]
  have HP : Box ((if cx = 0 ∧ cy = 0 then (sg e m (if nx = ny then nx else (mode == 4)), 0)
      else if cx = 0 then (rndV e m mode ny (shN my ey) (shD 1 ey), rndF e m mode ny (shN my ey) (shD 1 ey))
      else if cy = 0 then (rndV e m mode nx (shN mx ex) (shD 1 ex), rndF e m mode nx (shN mx ex) (shD 1 ex))
      else sumP e m mode nx XX MX ny YY MY) = P) := by
    subst hMX hMY hXX hYY
    exact ⟨hP⟩
  clear hP bx by' gx gy ux uy hm1 hm2 hm5 hx1 hx2 hy1 hy2 hMX hMY hXX hYY
  generalize sumP e m mode nx XX MX ny YY MY = SP at *
  generalize rndV e m mode nx (shN mx ex) (shD 1 ex) = rXV at *
  generalize rndF e m mode nx (shN mx ex) (shD 1 ex) = rXF at *
  generalize rndV e m mode ny (shN my ey) (shD 1 ey) = rYV at *
  generalize rndF e m mode ny (shN my ey) (shD 1 ey) = rYF at *
  clear h
  unfold nbV at *
  obtain ⟨MXH, hMXH⟩ : ∃ x : Int, ((MX / 18446744073709551616 : Nat) : Int) = x := ⟨_, rfl⟩
  obtain ⟨MXL, hMXL⟩ : ∃ x : Int, ((MX % 18446744073709551616 : Nat) : Int) = x := ⟨_, rfl⟩
  obtain ⟨MYH, hMYH⟩ : ∃ x : Int, ((MY / 18446744073709551616 : Nat) : Int) = x := ⟨_, rfl⟩
  obtain ⟨MYL, hMYL⟩ : ∃ x : Int, ((MY % 18446744073709551616 : Nat) : Int) = x := ⟨_, rfl⟩
  rw [hMXH, hMXL] at HNX
  rw [hMYH, hMYL] at HNY
  rw [hMXH, hMXL, hMYH, hMYL] at HSU
  clear hMXH hMXL hMYH hMYL
  obtain ⟨W0, hW0⟩ : ∃ W0, W0 = (((w.alloc (.cells #[.int .u8 (e : Int), .int .u8 (m : Int)] 23)).alloc (.cells #[.bool nx, .int .i8 (cx : Int), .int .i16 ex, .int .u64 (mx : Int)] 44)).alloc (.cells #[.bool ny, .int .i8 (cy : Int), .int .i16 ey, .int .u64 (my : Int)] 44)) := ⟨_, rfl⟩
  have HW0 : Hid (Ext w W0) := by rw [hW0]; exact ext3
  have HCC : Hid (Cells2 W0 w.heap.size e m ∧ Pt4 W0 (w.heap.size + 1) (.bool nx) (.int .i8 (cx : Int)) (.int .i16 ex) (.int .u64 (mx : Int)) ∧ Pt4 W0 (w.heap.size + 1 + 1) (.bool ny) (.int .i8 (cy : Int)) (.int .i16 ey) (.int .u64 (my : Int))) := by
    rw [hW0]
    refine ⟨⟨?_, ?_⟩, ⟨?_, ?_, ?_, ?_⟩, ⟨?_, ?_, ?_, ?_⟩⟩
    all_goals simp [go_sem]
  go_enter Oacg.func54, Oacg.ntmps54
  go_upto_region 1 with fail
  rw [← hW0]
  clear hW0
  obtain ⟨⟨a0, a1⟩, ⟨p0, p1, p2, p3⟩, ⟨q0, q1, q2, q3⟩⟩ := HCC.out
  by_cases hcx : cx = 0
  · have b1 : ((cx : Int) == 0) = true := by rw [hcx]; rfl
    by_cases hcy : cy = 0
    · have b2 : ((cy : Int) == 0) = true := by rw [hcy]; rfl
      have hq := HP.out
      rw [if_pos ⟨hcx, hcy⟩] at hq
      subst hq
      clear hcx hcy HP HRX HRY HNX HNY HSU
      cases nx <;> cases ny
      all_goals cases b4 : (mode == 4)
      all_goals go_wp2_with fail
      all_goals refine (HZE.out _ _).mono ?_
      all_goals rintro _ w2 ⟨rfl, hx2⟩
      all_goals have HX2 := hide (HW0.out.trans hx2)
      all_goals clear hx2
      all_goals go_wp2_with fail
      all_goals simp [bodyPost, results, Oacg.results54, go_sem]
      all_goals exact HX2.out
    · have b2 : ((cy : Int) == 0) = false := by rw [beq_eq_false_iff_ne]; omega
      have hq := HP.out
      rw [if_neg (by omega), if_pos hcx] at hq
      subst hq
      clear hcx hcy HP HRX HZE HNX HNY HSU
      go_wp2_with fail
      refine (HRY.out _).mono ?_
      rintro _ w2 ⟨rfl, hx2⟩
      have HX2 := hide (HW0.out.trans hx2)
      clear hx2
      go_wp2_with fail
      simp [bodyPost, results, Oacg.results54, go_sem]
      exact HX2.out
  · have b1 : ((cx : Int) == 0) = false := by rw [beq_eq_false_iff_ne]; omega
    by_cases hcy : cy = 0
    · have b2 : ((cy : Int) == 0) = true := by rw [hcy]; rfl
      have hq := HP.out
      rw [if_neg (by omega), if_neg hcx, if_pos hcy] at hq
      subst hq
      clear hcx hcy HP HRY HZE HNX HNY HSU
      go_wp2_with fail
      refine (HRX.out _).mono ?_
      rintro _ w2 ⟨rfl, hx2⟩
      have HX2 := hide (HW0.out.trans hx2)
      clear hx2
      go_wp2_with fail
      simp [bodyPost, results, Oacg.results54, go_sem]
      exact HX2.out
    · have b2 : ((cy : Int) == 0) = false := by rw [beq_eq_false_iff_ne]; omega
      have hq := HP.out
      rw [if_neg (by omega), if_neg hcx, if_neg hcy] at hq
      subst hq
      have HS2 := hide (HSU.out hcx hcy)
      clear hcx hcy HP HRX HRY HZE HSU
      have tok1 : True := trivial
      go_wp2_with fail
      clear b1 b2 a0 a1 p0 p1 p2 p3 q0 q1 q2 q3
      go_region_held3 (fun w' => Cells2 w' w.heap.size e m ∧ Pt4 w' (w.heap.size + 1) (.bool nx) (.int .i8 (cx : Int)) (.int .i16 ex) (.int .u64 (mx : Int)) ∧ Pt4 w' (w.heap.size + 1 + 1) (.bool ny) (.int .i8 (cy : Int)) (.int .i16 ey) (.int .u64 (my : Int)))
        (first | exact HCC.out | exact ⟨HCC.out.1.ext (by (repeat apply Ext.drew); first | exact Ext.refl _ | assumption), HCC.out.2.1.ext (by (repeat apply Ext.drew); first | exact Ext.refl _ | assumption), HCC.out.2.2.ext (by (repeat apply Ext.drew); first | exact Ext.refl _ | assumption)⟩)
        (first
          | (go_at_call 87; have _t := tok1; refine (HNX.out _).mono ?_; clear tok1 _t; rintro r w2 ⟨rfl, hx2⟩; have hE : Ext W0 w2 := Ext.trans (by (repeat apply Ext.drew); first | exact Ext.refl _ | assumption) hx2; clear hx2)
          | (go_at_call 87; refine (HNY.out _).mono ?_; rintro r w3 ⟨rfl, hx3⟩; have hE3 : Ext W0 w3 := Ext.trans (by (repeat apply Ext.drew); first | exact Ext.refl _ | assumption) hx3; clear hx3)
          | (go_at_call 86; refine (HS2.out _).mono ?_; rintro r w4 ⟨rfl, hx4⟩; have hE4 : Ext W0 w4 := Ext.trans (by (repeat apply Ext.drew); first | exact Ext.refl _ | assumption) hx4; clear hx4))
      all_goals go_wp2_with fail
      all_goals simp [bodyPost, results, Oacg.results54, go_sem]
      all_goals exact HW0.out.trans (by (repeat apply Ext.drew); first | exact Ext.refl _ | assumption)
end Go.Proofs.YgcoacGreat
