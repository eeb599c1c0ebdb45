/-
  ieee.Unpack: the parts of a pattern.
-/
import Derived.Test.YgcoacGreatIeeeU
namespace Go.Proofs.YgcoacGreat
open Go.RowKit
set_option linter.unusedSimpArgs false
set_option linter.unusedVariables false

/-! ### The fields of a pattern, its kind and its parts, as plain numbers -/
def ef (e m x : Nat) : Nat := x / 2 ^ m % 2 ^ e
def ff (m x : Nat) : Nat := x % 2 ^ m
def ngB (e m x : Nat) : Bool := decide (x / 2 ^ (e + m) % 2 = 1)
def cls (e m x : Nat) : Nat :=
  if ef e m x = 2 ^ e - 1 then (if ff m x = 0 then 3 else 4) else if ef e m x = 0 then (if ff m x = 0 then 0 else 1) else 2
def pNeg (e m x : Nat) : Bool := if cls e m x = 4 then false else ngB e m x
def pExp (e m x : Nat) : Int :=
  if cls e m x = 2 then (ef e m x : Int) - (bias e : Int) - (m : Int)
  else if cls e m x = 1 then 1 - (bias e : Int) - (m : Int) - ((m + 1 - bits (ff m x) : Nat) : Int) else 0
def pMan (e m x : Nat) : Nat :=
  if cls e m x = 2 then ff m x + 2 ^ m else if cls e m x = 1 then ff m x * 2 ^ (m + 1 - bits (ff m x)) else 0
/-- What Unpack answers. -/
def parts (e m x : Nat) : Value := .agg #[.bool (pNeg e m x), .int .i8 (cls e m x : Int), .int .i16 (pExp e m x), .int .u64 (pMan e m x : Int)]

theorem and_mask {x : Nat} (hx : x < 18446744073709551616) {k : Nat} (hk : k ≤ 63) (d : Int) (hd : d = ((2 ^ k - 1 : Nat) : Int)) : Go.bits BinOp.and IntKind.u64 (x : Int) d = ((x % 2 ^ k : Nat) : Int) := by
  have h1 := pow_le_of hk
  have h2 : 0 < 2 ^ k := Nat.pow_pos (by decide)
  rw [hd, u64_and_nat x _ hx (by omega), Nat.and_two_pow_sub_one_eq_mod]
theorem and_bit {x : Nat} (hx : x < 18446744073709551616) {k : Nat} (hk : k ≤ 63) : (Go.bits BinOp.and IntKind.u64 (x : Int) ((2 ^ k : Nat) : Int) != 0) = decide (x / 2 ^ k % 2 = 1) := by
  have h1 := pow_le_of hk
  have h0 : 0 < 2 ^ k := Nat.pow_pos (by decide)
  rw [u64_and_nat x _ hx (by omega), nat_bit, Bool.eq_iff_iff]
  simp only [bne_iff_ne, decide_eq_true_eq]
  rcases Nat.mod_two_eq_zero_or_one (x / 2 ^ k) with h | h
  · rw [h]; simp
  · rw [h, Nat.one_mul]; omega
theorem or_top {x k : Nat} (hx : x < 2 ^ k) (hk : k ≤ 63) : Go.bits BinOp.or IntKind.u64 (x : Int) ((2 ^ k : Nat) : Int) = ((x + 2 ^ k : Nat) : Int) := by
  have h1 := pow_le_of hk
  rw [u64_or_nat x _ (by omega) (by omega), Nat.or_comm, nat_join k _ x (by simp) hx, Nat.add_comm]

theorem ef_lt (e m x : Nat) : ef e m x < 2 ^ e := Nat.mod_lt _ (Nat.pow_pos (by decide))
theorem ff_lt (m x : Nat) : ff m x < 2 ^ m := Nat.mod_lt _ (Nat.pow_pos (by decide))
theorem wrap_pow {k : Nat} (hk : k ≤ 63) : IntKind.u64.wrap (2 ^ k) = ((2 ^ k : Nat) : Int) := by
  have h1 := pow_le_of hk
  rw [wu64, two_pow_cast]
  generalize 2 ^ k = t at *
  omega

theorem parts_nan {e m x : Nat} (h1 : ef e m x = 2 ^ e - 1) (h2 : ff m x ≠ 0) : parts e m x = .agg #[.bool false, .int .i8 4, .int .i16 0, .int .u64 0] := by
  simp [parts, pNeg, pExp, pMan, cls, h1, h2]
theorem parts_inf {e m x : Nat} (h1 : ef e m x = 2 ^ e - 1) (h2 : ff m x = 0) : parts e m x = .agg #[.bool (ngB e m x), .int .i8 3, .int .i16 0, .int .u64 0] := by
  simp [parts, pNeg, pExp, pMan, cls, h1, h2]
theorem parts_zero {e m x : Nat} (h0 : 2 ≤ e) (h1 : ef e m x = 0) (h2 : ff m x = 0) : parts e m x = .agg #[.bool (ngB e m x), .int .i8 0, .int .i16 0, .int .u64 0] := by
  have : ¬ 0 = 2 ^ e - 1 := by have := pow_le_of h0; omega
  simp [parts, pNeg, pExp, pMan, cls, h1, h2, this]
theorem parts_sub {e m x : Nat} (h0 : 2 ≤ e) (h1 : ef e m x = 0) (h2 : ff m x ≠ 0) :
    parts e m x = .agg #[.bool (ngB e m x), .int .i8 1, .int .i16 (1 - (bias e : Int) - (m : Int) - ((m + 1 - bits (ff m x) : Nat) : Int)), .int .u64 ((ff m x * 2 ^ (m + 1 - bits (ff m x)) : Nat) : Int)] := by
  have : ¬ 0 = 2 ^ e - 1 := by have := pow_le_of h0; omega
  simp [parts, pNeg, pExp, pMan, cls, h1, h2, this]
theorem parts_norm {e m x : Nat} (h1 : ef e m x ≠ 2 ^ e - 1) (h2 : ef e m x ≠ 0) :
    parts e m x = .agg #[.bool (ngB e m x), .int .i8 2, .int .i16 ((ef e m x : Int) - (bias e : Int) - (m : Int)), .int .u64 ((ff m x + 2 ^ m : Nat) : Int)] := by
  simp [parts, pNeg, pExp, pMan, cls, h1, h2]

set_option maxHeartbeats 1000000 in
theorem unpack_any (e m : Nat) (h : Fm e m) (x : Nat) (hx : x < 18446744073709551616) (w : World) :
    Calls Oacg.prog 27 #[.agg #[.int .u8 (e : Int), .int .u8 (m : Int)], .int .u64 (x : Int)] w fun r w' => r = .returned (parts e m x) ∧ Ext w w' := by
  have H := hide h
  obtain ⟨h1, h2, h3, h4⟩ := h
  have hok := okB_fm H.out
  have hb := bias_bd H.out
  have he : e ≤ 63 := by omega
  have hm : m ≤ 63 := by omega
  have he2 : 2 ≤ e := by omega
  have q1 := wrap_pow he
  have q2 := wrap_pow hm
  have q3 : (x : Int) / 2 ^ m = ((x / 2 ^ m : Nat) : Int) := by rw [two_pow_cast]; rfl
  have hq : x / 2 ^ m < 18446744073709551616 := Nat.lt_of_le_of_lt (Nat.div_le_self _ _) hx
  have q4 := and_mask hq he (((2 ^ e : Nat) : Int) - 1) (by have := Nat.pow_pos (n := e) (show 0 < 2 by decide); omega)
  have q5 := and_mask hx hm (((2 ^ m : Nat) : Int) - 1) (by have := Nat.pow_pos (n := m) (show 0 < 2 by decide); omega)
  have q6 := and_bit hx (k := e + m) (by omega)
  have q7 := or_top (ff_lt m x) hm
  have hE := ef_lt e m x
  have hF := ff_lt m x
  have p1 := pow_le_of (show e ≤ 11 by omega)
  have p2 := pow_le_of he2
  have p3 := pow_le_of (show m ≤ 52 by omega)
  have p4 := pow_le_of (show 2 ≤ m by omega)
  change Go.bits BinOp.and IntKind.u64 (((x / 2 ^ m : Nat) : Int)) (((2 ^ e : Nat) : Int) - 1) = ((ef e m x : Nat) : Int) at q4
  change Go.bits BinOp.and IntKind.u64 (x : Int) (((2 ^ m : Nat) : Int) - 1) = ((ff m x : Nat) : Int) at q5
  change (Go.bits BinOp.and IntKind.u64 (x : Int) ((sgn e m : Nat) : Int) != 0) = ngB e m x at q6
  change 2 ^ e ≤ 2048 at p1
  change 4 ≤ 2 ^ e at p2
  change 2 ^ m ≤ 4503599627370496 at p3
  change 4 ≤ 2 ^ m at p4
  have HS := hide (signBit_any e m H.out)
  have n1 := hide (@parts_nan e m x)
  have n2 := hide (@parts_inf e m x)
  have n3 := hide (@parts_zero e m x he2)
  have n4 := hide (@parts_sub e m x he2)
  have n5 := hide (@parts_norm e m x)
  have HX := hide (subnormal_any e m H.out (ngB e m x) (ff m x))
  generalize parts e m x = pv at *
  generalize ngB e m x = neg at *
  generalize ef e m x = E at *
  generalize ff m x = F at *
  generalize sgn e m = S at *
  generalize x / 2 ^ m = q at *
  generalize 2 ^ e = P at *
  generalize 2 ^ m = Q at *
  clear he2 he hm
  by_cases t1 : E = P - 1
  · have b1 : ((E : Int) == (P : Int) - 1) = true := by rw [beq_iff_eq]; omega
    by_cases t2 : F = 0
    · have b2 : ((F : Int) != 0) = false := by simp [t2]
      have T1 := hide t1
      have T2 := hide t2
      clear t1 t2
      go_enter Oacg.func27, Oacg.ntmps27
      go_wp2_with (first | (go_at_call 4; refine (ok_any _ _ _).mono ?_; rintro r w' ⟨rfl, rfl⟩) | (go_at_call 55; refine (HS.out _).mono ?_; rintro r w' ⟨rfl, c1, c2, rfl⟩))
      rw [n2.out T1.out T2.out]
      simp [bodyPost, results, Oacg.results27, go_sem]
      repeat apply Ext.alloc
      exact Ext.refl _
    · have b2 : ((F : Int) != 0) = true := by simp [t2]
      have T1 := hide t1
      have T2 := hide t2
      clear t1 t2
      go_enter Oacg.func27, Oacg.ntmps27
      go_wp2_with (first | (go_at_call 4; refine (ok_any _ _ _).mono ?_; rintro r w' ⟨rfl, rfl⟩) | (go_at_call 55; refine (HS.out _).mono ?_; rintro r w' ⟨rfl, c1, c2, rfl⟩))
      rw [n1.out T1.out T2.out]
      simp [bodyPost, results, Oacg.results27, go_sem]
      repeat apply Ext.alloc
      exact Ext.refl _
  · have b1 : ((E : Int) == (P : Int) - 1) = false := by rw [beq_eq_false_iff_ne]; omega
    by_cases t2 : E = 0
    · have b2 : ((E : Int) == 0) = true := by simp [t2]
      by_cases t3 : F = 0
      · have b3 : ((F : Int) == 0) = true := by simp [t3]
        have T1 := hide t2
        have T2 := hide t3
        clear t1 t2 t3
        go_enter Oacg.func27, Oacg.ntmps27
        go_wp2_with (first | (go_at_call 4; refine (ok_any _ _ _).mono ?_; rintro r w' ⟨rfl, rfl⟩) | (go_at_call 55; refine (HS.out _).mono ?_; rintro r w' ⟨rfl, c1, c2, rfl⟩))
        rw [n3.out T1.out T2.out]
        simp [bodyPost, results, Oacg.results27, go_sem]
        repeat apply Ext.alloc
        exact Ext.refl _
      · have b3 : ((F : Int) == 0) = false := by simp [t3]
        have T1 := hide t2
        have T2 := hide t3
        have hF0 : 0 < F := by omega
        clear t1 t2 t3
        go_enter Oacg.func27, Oacg.ntmps27
        go_wp2_with (first | (go_at_call 4; refine (ok_any _ _ _).mono ?_; rintro r w' ⟨rfl, rfl⟩) | (go_at_call 55; refine (HS.out _).mono ?_; rintro r w' ⟨rfl, c1, c2, rfl⟩))
        refine (HX.out hF0 hF _).mono ?_
        rintro r w1 ⟨rfl, hext⟩
        obtain ⟨k1, k2, k3⟩ := hext.rule
        have HE : Hid (Ext w w1) := by
          refine Ext.trans ?_ hext
          repeat apply Ext.alloc
          exact Ext.refl _
        clear hext
        go_wp2_with fail
        rw [n4.out T1.out T2.out]
        simp [bodyPost, results, Oacg.results27, go_sem, k1]
        repeat (refine Ext.setCell ?_ (Nat.le_succ _) _)
        exact HE.out
    · have b2 : ((E : Int) == 0) = false := by simp [t2]
      have T1 := hide t1
      have T2 := hide t2
      clear t1 t2
      go_enter Oacg.func27, Oacg.ntmps27
      go_wp2_with (first | (go_at_call 4; refine (ok_any _ _ _).mono ?_; rintro r w' ⟨rfl, rfl⟩) | (go_at_call 55; refine (HS.out _).mono ?_; rintro r w' ⟨rfl, c1, c2, rfl⟩))
      go_region_held3 (fun w' => w'.cell? ⟨w.heap.size, 0, none⟩ = some (.int .u8 (e : Int)) ∧ w'.cell? ⟨w.heap.size, 1, none⟩ = some (.int .u8 (m : Int))) (simp [go_sem, World.cell?_alloc_past])
        (first
          | (go_at_call 63; refine (bias_any e m H.out _).mono ?_; rintro e w' ⟨rfl, o1, o2, rfl⟩))
      all_goals go_wp2
      rw [n5.out T1.out T2.out]
      simp [bodyPost, results, Oacg.results27, go_sem]
      refine ⟨by simp only [wi16]; omega, ?_⟩
      apply Ext.drew
      repeat apply Ext.alloc
      exact Ext.refl _
end Go.Proofs.YgcoacGreat
