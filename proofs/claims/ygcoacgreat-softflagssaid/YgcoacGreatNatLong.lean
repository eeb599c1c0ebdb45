/-
  nat.divLong.
-/
import Derived.Test.YgcoacGreatNatLongM
import Derived.Test.YgcoacGreatNatShr
import Derived.Deep.QuietTactic
import Derived.BigQuiet
namespace Go.Proofs.YgcoacGreat
open Go.RowKit
set_option linter.unusedSimpArgs false
set_option linter.unusedVariables false
attribute [local go_sem] nil_eq nil_ne

/-! ### The divisor, shifted so that its top bit is set -/
structure Shifted (lb : List Nat) (m s D : Nat) (ld : List Nat) : Prop where
  len : ld.length = m + 2
  lim : Lim ld
  hval : val ld = D
  lt : D < W (m + 2)
  top : ∃ d1 d0, ld[m + 1]? = some d1 ∧ ld[m]? = some d0 ∧ 2147483648 ≤ d1 ∧ d1 < 4294967296 ∧ d0 < 4294967296
theorem shifted {lb ld : List Nat} {m t : Nat} (hlen : lb.length = m + 2) (hlb : Lim lb) (ht : lb[m + 1]? = some t) (ht0 : 0 < t) (hld : Lim ld) (hn : Norm ld) (hv : val ld = val lb * 2 ^ (32 - bits t)) : Shifted lb m (32 - bits t) (val ld) ld := by
  have htl := hlb.at ht
  have hb32 : bits t ≤ 32 := bits_le_of_lt (by simpa using htl)
  have hb1 := bits_lt t
  have hb2 := bits_le ht0
  have hb3 := bits_pos' ht0
  have e := val_take_succ ht
  rw [val_take_all (by omega)] at e
  have hlow := take_lt hlb (m + 1)
  have hpow : 2 ^ bits t * 2 ^ (32 - bits t) = 4294967296 := by rw [← Nat.pow_add, Nat.add_sub_cancel' hb32]
  have hpow2 : 2 ^ (bits t - 1) * 2 ^ (32 - bits t) = 2147483648 := by rw [← Nat.pow_add, show bits t - 1 + (32 - bits t) = 31 by omega]
  have hpp : 0 < 2 ^ (32 - bits t) := Nat.pow_pos (by decide)
  have hub : val ld < W (m + 2) := by
    rw [hv, W_succ, ← hpow, e]
    have h1 : val (lb.take (m + 1)) + W (m + 1) * t < W (m + 1) * 2 ^ bits t := by
      have : W (m + 1) * (t + 1) ≤ W (m + 1) * 2 ^ bits t := Nat.mul_le_mul_left _ hb1
      rw [Nat.mul_add, Nat.mul_one] at this
      omega
    have h2 := Nat.mul_lt_mul_of_pos_right h1 hpp
    rwa [Nat.mul_comm (2 ^ bits t * 2 ^ (32 - bits t)), ← Nat.mul_assoc]
  have hlo : W (m + 1) * 2147483648 ≤ val ld := by
    rw [hv, ← hpow2, ← Nat.mul_assoc]
    apply Nat.mul_le_mul_right
    rw [e]
    exact Nat.le_trans (Nat.mul_le_mul_left _ hb2) (Nat.le_add_left _ _)
  have hl1 : ld.length ≤ m + 2 := length_le hn hub
  have hl2 : m + 1 < ld.length := by
    rcases Nat.lt_or_ge (m + 1) ld.length with h | h
    · exact h
    · have h1 := val_lt hld
      have h2 := W_mono h
      have h3 : W (m + 1) * 1 ≤ W (m + 1) * 2147483648 := Nat.mul_le_mul_left _ (by decide)
      omega
  refine ⟨by omega, hld, rfl, hub, ?_⟩
  obtain ⟨d1, g1⟩ := get_some hl2
  obtain ⟨d0, g0⟩ := get_some (show m < ld.length by omega)
  refine ⟨d1, d0, g1, g0, ?_, hld.at g1, hld.at g0⟩
  have e2 := val_take_succ g1
  rw [val_take_all (by omega)] at e2
  have h5 := take_lt hld (m + 1)
  rw [e2] at hlo
  rcases Nat.lt_or_ge d1 2147483648 with h | h
  · have : W (m + 1) * (d1 + 1) ≤ W (m + 1) * 2147483648 := Nat.mul_le_mul_left _ h
    rw [Nat.mul_add, Nat.mul_one] at this
    omega
  · exact h
/-- What a round's guess is worth. -/
theorem guess_worth {Lu P U S ld : List Nat} {D m j u0 u1 u2 d1 d0 : Nat} (hp : Piece Lu D (m + 2) j P U S) (hll : ld.length = m + 2) (hld : Lim ld) (hv : val ld = D) (g0 : U[m]? = some u0) (g1 : U[m + 1]? = some u1) (g2 : U[m + 2]? = some u2) (k0 : ld[m]? = some d0) (k1 : ld[m + 1]? = some d1) (hd1 : 2147483648 ≤ d1) :
    u2 ≤ d1 ∧ (gd ((u2 * 4294967296 + u1) * 4294967296 + u0) (d1 * 4294967296 + d0) = val U / D ∨ gd ((u2 * 4294967296 + u1) * 4294967296 + u0) (d1 * 4294967296 + d0) = val U / D + 1) := by
  have eU := top3 (by rw [hp.lU]) g0 g1 g2
  have eD := top2 hll k0 k1
  rw [hv] at eD
  have hul := take_lt hp.lim m
  have hdl := take_lt hld m
  constructor
  · have h1 : val (ld.take (m + 1)) < W (m + 1) := take_lt hld (m + 1)
    have e1 := val_take_succ k1
    rw [val_take_all (by omega), hv] at e1
    have e2 := val_take_succ g2
    rw [val_take_all (by rw [hp.lU]; exact Nat.le_refl _)] at e2
    have hs := hp.small
    rw [e2] at hs
    rcases Nat.lt_or_ge d1 u2 with h | h
    · exfalso
      have hW : W (m + 2) = 4294967296 * W (m + 1) := W_succ (m + 1)
      have h3 : W (m + 2) * (d1 + 1) ≤ W (m + 2) * u2 := Nat.mul_le_mul_left _ h
      have h4 : D * 4294967296 < W (m + 1) * (d1 + 1) * 4294967296 := by
        apply Nat.mul_lt_mul_of_pos_right _ (by decide)
        rw [e1, Nat.mul_add, Nat.mul_one]; omega
      have h5 : W (m + 1) * (d1 + 1) * 4294967296 = W (m + 2) * (d1 + 1) := by rw [hW, Nat.mul_comm, Nat.mul_assoc]
      omega
    · exact h
  · exact digit_of_guess (W_pos m) eU hul eD hdl (by omega) hp.small (gd_isGuess (by omega))

theorem long_start {la lb u0 : List Nat} {m s D : Nat} (hla : Lim la) (hlu : Lim u0) (hnb : W (m + 1) ≤ val lb) (hmn : m + 2 ≤ la.length) (hlen : u0.length = la.length + 1) (hv : val u0 = val la * 2 ^ s) (hD : D = val lb * 2 ^ s) (hDp : 0 < D) :
    LongInv u0 u0 (zeros (la.length - (m + 2) + 1)) D (la.length - (m + 2) + 1) := by
  refine ⟨hlu, zeros_lim _, rfl, rfl, ?_, ?_⟩
  · rw [← val_div_W hlu, hv, Nat.div_lt_iff_lt_mul (W_pos _), hD]
    have h1 := val_lt hla
    have h2 : W la.length = W (m + 1) * W (la.length - (m + 2) + 1) := by rw [← W_add]; congr 1; omega
    have h3 : W (m + 1) * W (la.length - (m + 2) + 1) ≤ val lb * W (la.length - (m + 2) + 1) := Nat.mul_le_mul_right _ hnb
    have h4 : val la < val lb * W (la.length - (m + 2) + 1) := by omega
    have h5 := Nat.mul_lt_mul_of_pos_right h4 (show 0 < 2 ^ s from Nat.pow_pos (by decide))
    rwa [Nat.mul_right_comm] at h5
  · rw [List.drop_eq_nil_of_le (by rw [zeros_length]; exact Nat.le_refl _)]; simp [val]
theorem long_end {la lb u0 Lu Lq : List Nat} {s D : Nat} (h : LongInv u0 Lu Lq D 0) (hv : val u0 = val la * 2 ^ s) (hD : D = val lb * 2 ^ s) (hb : 0 < val lb) : val Lq = val la / val lb ∧ val Lu / 2 ^ s = val la % val lb := by
  have hp : 0 < 2 ^ s := Nat.pow_pos (by decide)
  have e := h.eq
  have hlt := h.lt
  rw [List.drop_zero] at e hlt
  rw [List.drop_zero, List.drop_zero, hv] at e
  have hDp : 0 < D := by rw [hD]; exact Nat.mul_pos hb hp
  have q1 : val la * 2 ^ s / D = val Lq := by rw [← e, Nat.mul_comm, Nat.mul_add_div hDp, Nat.div_eq_of_lt hlt, Nat.add_zero]
  have q2 : val la * 2 ^ s % D = val Lu := by rw [← e, Nat.mul_comm, Nat.mul_add_mod, Nat.mod_eq_of_lt hlt]
  rw [hD, Nat.mul_div_mul_right _ _ hp] at q1
  rw [hD, Nat.mul_mod_mul_right] at q2
  exact ⟨q1.symm, by rw [← q2, Nat.mul_div_cancel _ hp]⟩

theorem OwnAt.only {w w' : World} {b g : Nat} {L : List Nat} (h : OwnAt w b L) (e : OnlyAt g w w') (hne : b ≠ g) : OwnAt w' b L := by
  unfold OwnAt at *
  rw [e.block b hne]; exact h
theorem NatAt.list {w : World} {v : Value} {n : Nat} (h : NatAt w v n) (h0 : 0 < n) : ∃ l b off cap, v = .slice (some ⟨b, off, none⟩) l.length cap ∧ l.length ≤ cap ∧ cap ≤ 1099511627776 ∧ Lim l ∧ Norm l ∧ val l = n ∧ cellsAt w b off l := by
  rcases h with ⟨h, _⟩ | ⟨l, b, off, cap, h1, h2, h3, h4, h5, h6, _, h8⟩
  · omega
  · exact ⟨l, b, off, cap, h1, h2, h3, h4, h5, h6, h8⟩
def LongR (q r : Nat) (v : Value) (w' : World) : Prop := ∃ a b, v = .tuple #[a, b] ∧ NatAt w' a q ∧ NatAt w' b r

set_option maxRecDepth 20000 in
set_option maxHeartbeats 4000000 in
theorem divLong_any (A Bv ka : Nat) (hA : A < W ka) (hka : ka ≤ 1073741000) (hge : Bv ≤ A) (h2 : W 1 ≤ Bv) (va vb : Value) (w : World) (ha : NatAt w va A) (hb : NatAt w vb Bv) :
    Calls Oacg.prog 96 #[va, vb] w fun e w' => (∃ v, e = .returned v ∧ LongR (A / Bv) (A % Bv) v w') ∧ Ext w w' := by
  have hB0 : 0 < Bv := Nat.lt_of_lt_of_le (W_pos 1) h2
  have HNA := hide ha
  have HNB := hide hb
  obtain ⟨la, ba, oa, ca, rfl, hca, hcam, hla, hna, rfl, hcl⟩ := ha.list (by omega)
  obtain ⟨lb, bb, ob, cb, rfl, hcb, hcbm, hlb, hnb, rfl, hclb⟩ := hb.list hB0
  have hlal : la.length ≤ 1073741000 := Nat.le_trans (length_le hna hA) hka
  have hlbl : lb.length ≤ la.length := length_le hnb (Nat.lt_of_le_of_lt hge (val_lt hla))
  have hlb2 : 2 ≤ lb.length := by
    rcases Nat.lt_or_ge lb.length 2 with h | h
    · have := val_lt hlb
      have := W_mono (show lb.length ≤ 1 by omega)
      omega
    · exact h
  obtain ⟨m, hm⟩ : ∃ m, lb.length = m + 2 := ⟨lb.length - 2, by omega⟩
  obtain ⟨t, gt⟩ := get_some (show m + 1 < lb.length by omega)
  have ht := hlb.at gt
  have hWb : W (m + 1) ≤ val lb := by
    have := val_ge hnb (by intro h; rw [h] at hm; simp at hm)
    rwa [hm] at this
  have ht0 : 0 < t := by
    rcases Nat.eq_zero_or_pos t with h | h
    · exfalso
      have e := val_take_succ gt
      rw [val_take_all (by omega), h, Nat.mul_zero, Nat.add_zero] at e
      have := take_lt hlb (m + 1)
      omega
    · exact h
  have ct := hclb (m + 1) t gt
  have hb32 : bits t ≤ 32 := bits_le_of_lt (by simpa using ht)
  have hbp := bits_pos' ht0
  obtain ⟨s, hs⟩ : ∃ s, 32 - bits t = s := ⟨_, rfl⟩
  have hs32 : s < 32 := by omega
  have hsi : (32 : Int) - (bits t : Int) = (s : Int) := by omega
  have HWT := hide (width32_any (t : Int) (by omega) (by omega))
  rw [Int.toNat_natCast] at HWT
  have HLB := hide (lift_any (val lb) lb.length (val_lt hlb) (by omega) s (by omega) _ w HNB.out)
  have hsh : ∀ ld, Lim ld → Norm ld → val ld = val lb * 2 ^ s → Shifted lb m s (val ld) ld := fun ld h1 h2 h3 => by
    subst hs; exact shifted hm hlb gt ht0 h1 h2 h3
  have HSH := hide hsh
  have HCA := hide hcl
  have HLAv := hide (val_lt hla)
  rw [hm]
  rw [hm] at HLB
  have hmi : (m : Int) ≤ 1073741000 := by omega
  have q3 : (m : Int) + 2 - 1 = (m : Int) + 1 := by omega
  clear hsh hcl hclb gt ha hb hbp hb32 hs
  go_enter Oacg.func96, Oacg.ntmps96
  go_wp2_with fail
  refine (HWT.out _).mono ?_
  rintro _ _ ⟨rfl, hw1⟩
  rw [hw1]
  clear hw1
  go_wp2_with fail
  refine HLB.out.mono ?_
  rintro _ w2 ⟨⟨vd, rfl, hvd⟩, hx2⟩
  have hp2 : 0 < 2 ^ s := Nat.pow_pos (by decide)
  obtain ⟨ld, bd, od, cd, rfl, hcd, hcdm, hld, hnd, hvld, hcld⟩ := hvd.list (Nat.mul_pos hB0 hp2)
  have hSd := HSH.out ld hld hnd hvld
  have hldl := hSd.len
  have HSD := hide hSd
  have HVLD := hide hvld
  have HX2 := hide hx2
  have HCD := hide hcld
  have HNA2 := hide (HNA.out.ext hx2)
  have hbd : bd < w2.heap.size := World.block_lt_of_cell? _ _ (hcld 0 _ (List.getElem?_eq_getElem (show 0 < ld.length by omega)))
  have hmk := make_nat (la.length + 1) (by omega)
  rw [show ((la.length + 1 : Nat) : Int) = (la.length : Int) + 1 from rfl] at hmk
  have HLA := hide (lift_any (val la) la.length HLAv.out (by omega) s (by omega) _ _ (HNA2.out.ext ((Ext.refl w2).alloc (limbsArr (zeros (la.length + 1))) 113)))
  have hli : (la.length : Int) ≤ 1073741000 := by omega
  rw [hldl]
  clear hvd hx2 hcld hSd hvld HLB HSH HWT HNA HNB ct hsi hld hnd
  go_wp2_with fail
  refine HLA.out.mono ?_
  rintro _ w4 ⟨⟨vu, rfl, hvu⟩, hx4⟩
  have hA0 : 0 < val la := by omega
  obtain ⟨lu, bu, ou, cu, rfl, hcu, hcum, hlu, hnu, hvlu, hclu⟩ := hvu.list (Nat.mul_pos hA0 hp2)
  have hluL : lu.length ≤ la.length + 1 := by
    refine length_le hnu ?_
    rw [hvlu, W_succ, Nat.mul_comm 4294967296]
    have h1 : (2 : Nat) ^ s ≤ 2 ^ 32 := Nat.pow_le_pow_right (by decide) (by omega)
    exact Nat.lt_of_lt_of_le (Nat.mul_lt_mul_of_pos_right HLAv.out hp2) (Nat.mul_le_mul_left _ h1)
  have hoz : OwnAt w4 w2.heap.size (zeros (la.length + 1)) := (OwnAt.new w2 _).ext hx4
  have hcp := fun ty => copy_nat hoz hclu (by rw [zeros_length]; exact hluL) (la.length + 1) cu ty
  rw [zeros_length, drop_zeros] at hcp
  obtain ⟨u0, hu0⟩ : ∃ u0, lu ++ zeros (la.length + 1 - lu.length) = u0 := ⟨_, rfl⟩
  rw [hu0] at hcp
  have hu0l : u0.length = la.length + 1 := by rw [← hu0, List.length_append, zeros_length]; omega
  have hu0v : val u0 = val la * 2 ^ s := by rw [← hu0, val_append, zeros_val, Nat.mul_zero, Nat.add_zero, hvlu]
  have hu0m : Lim u0 := by
    rw [← hu0]
    intro x hx
    rcases List.mem_append.1 hx with h | h
    · exact hlu x h
    · exact zeros_lim _ x h
  have hE4 : Ext w2 w4 := ((Ext.refl w2).alloc _ _).trans hx4
  have HE5 := hide (hE4.setRow (Nat.le_refl _) hoz (limbsArr u0))
  have HO5 := hide (hoz.row u0)
  obtain ⟨w5, hw5⟩ : ∃ w5, w5 = w4.setRow w2.heap.size (limbsArr u0) := ⟨_, rfl⟩
  rw [← hw5] at hcp HE5 HO5
  have HI0 := hide (long_start hla hu0m hWb (by omega) hu0l hu0v HVLD.out (by rw [HVLD.out]; exact Nat.mul_pos hB0 hp2))
  have HU0 := hide hu0v
  have hg5 : w2.heap.size < w5.heap.size := HO5.out.lt
  obtain ⟨K, hK⟩ : ∃ K, la.length - (m + 2) + 1 = K := ⟨_, rfl⟩
  rw [hK] at HI0
  have HKL : Hid (la.length = K + m + 1) := by show _ = _; omega
  have hmk2 := make_nat K (by omega)
  have hKi : (la.length : Int) - ((m : Int) + 2) + 1 = (K : Int) := by omega
  have hKb : (K : Int) ≤ 1073741000 := by omega
  clear hK
  clear hvu hx4 hclu hoz hu0 hu0v hu0m hE4 hw5 hvlu hlu hnu hluL hcu hcum HLA hmk HLAv HNA2 HCA
  go_wp2_with fail
  go_loopw [11] (fun vi wr => ∃ k : Nat, ∃ Lu Lq : List Nat, vi = .int .i64 ((k : Int) - 1) ∧ k ≤ K ∧ Hid (LongInv u0 Lu Lq (val ld) k) ∧ Hid (Lq.length = K) ∧ Hid (OwnAt wr w2.heap.size Lu) ∧ Hid (OwnAt wr w5.heap.size Lq) ∧ Hid (Ext w2 wr)) (fun i _ => (intOf i + 1).toNat)
  case atStart => exact ⟨K, u0, zeros K, by congr 1, Nat.le_refl _, HI0.out, zeros_length _, HO5.out.alloc _, OwnAt.new _ _, HE5.out.alloc _ _⟩
  case round =>
    obtain ⟨k, Lu, Lq, rfl, hk, HI, HQL, HU, HQ, HE⟩ := hrel
    rcases Nat.eq_zero_or_pos k with hk0 | hk0
    · subst hk0
      obtain ⟨z1, z2⟩ := long_end HI.out HU0.out HVLD.out hB0
      have hLul : Lu.length = la.length + 1 := by rw [HI.out.len, hu0l]
      have hsr := shr_raw (some ⟨w2.heap.size, 0, none⟩) (la.length + 1) Lu s hs32 (by omega) wr (by omega) (by omega) HI.out.lu (.inr ⟨_, _, rfl, HU.out.cellsAt⟩)
      rw [hLul, z2] at hsr
      have HSR := hide hsr
      have hsi2 : (s : Int) < 32 := by omega
      have HZ1 := hide z1
      have HLQ := hide HI.out.lq
      clear hsr z1 z2 hLul HI hcp hmk2
      go_wp2_with fail
      refine HSR.out.mono ?_
      rintro _ w8 ⟨⟨v8, rfl, vr, br, rfl, hvr⟩, hx8⟩
      have hQ8 : OwnAt w8 w5.heap.size Lq := HQ.out.ext hx8
      have htq := trim_raw (some ⟨w5.heap.size, 0, none⟩) K Lq w8 (by rw [HQL.out]; exact Nat.le_refl _) (by omega) HLQ.out (.inr ⟨_, _, rfl, hQ8.cellsAt⟩)
      rw [HQL.out, HZ1.out] at htq
      have HTQ := hide htq
      have HVR := hide hvr
      have HX8 := hide (HX2.out.trans (HE.out.trans hx8))
      clear htq hvr hx8 hQ8 HSR HQ HU HE
      go_wp2_with fail
      refine HTQ.out.mono ?_
      rintro _ w9 ⟨⟨vq, rfl, hvq⟩, hw9⟩
      rw [hw9]
      have HR : Hid (LongR (val la / val lb) (val la % val lb) (.tuple #[vq, vr]) w8) := ⟨_, _, rfl, hvq, HVR.out⟩
      clear hw9 w9 hvq
      go_wp2_with fail
      simp [bodyPost, results, Oacg.results96, go_sem]
      exact ⟨HR.out, HX8.out⟩
    · obtain ⟨j, rfl⟩ : ∃ j, k = j + 1 := ⟨k - 1, by omega⟩
      have hji : (((j + 1 : Nat) : Int) - 1) = (j : Int) := by omega
      rw [hji]
      have hjK : (j : Int) < (K : Int) := by omega
      have hLul : Lu.length = K + m + 2 := by rw [HI.out.len, hu0l, HKL.out]
      have hp := HI.out.piece (n := m + 2) HSD.out.lt (by omega)
      obtain ⟨P, hP⟩ : ∃ P, Lu.take j = P := ⟨_, rfl⟩
      obtain ⟨U, hU⟩ : ∃ U, (Lu.drop j).take (m + 2 + 1) = U := ⟨_, rfl⟩
      obtain ⟨S, hS⟩ : ∃ S, Lu.drop (j + (m + 2) + 1) = S := ⟨_, rfl⟩
      rw [hP, hU, hS] at hp
      have HP := hide hp
      have hPl := hp.lp
      have hUl := hp.lU
      obtain ⟨x0, g0⟩ := get_some (show m < U.length by omega)
      obtain ⟨x1, g1⟩ := get_some (show m + 1 < U.length by omega)
      obtain ⟨x2, g2⟩ := get_some (show m + 2 < U.length by omega)
      have hu := HU.out
      rw [hp.cut] at hu
      have c0 := hu.cell (get_mid (P := P) (S := S) g0)
      have c1 := hu.cell (get_mid (P := P) (S := S) g1)
      have c2 := hu.cell (get_mid (P := P) (S := S) g2)
      rw [hPl] at c0 c1 c2
      have X0 := hp.lim.at g0
      have X1 := hp.lim.at g1
      have X2 := hp.lim.at g2
      obtain ⟨d1, d0, k1, k0, D1, D2, D3⟩ := HSD.out.top
      have e1 := (HE.out.cell (HCD.out (m + 1) d1 k1))
      have e0 := (HE.out.cell (HCD.out m d0 k0))
      obtain ⟨hle, hest⟩ := guess_worth hp hldl HSD.out.lim rfl g0 g1 g2 k0 k1 D1
      have HG := hide (guess_fix x2 x1 x0 d1 d0 hle X1 X0 D2 D1 D3)
      obtain ⟨est, hE⟩ : ∃ est, gd ((x2 * 4294967296 + x1) * 4294967296 + x0) (d1 * 4294967296 + d0) = est := ⟨_, rfl⟩
      rw [hE] at HG hest
      have hel : est < 4294967296 := by rw [← hE]; exact gd_lt _ _
      have HEST := hide hest
      have HOU := hide hu
      have i2 : (j : Int) + ((m : Int) + 2) < (la.length : Int) + 1 := by have := HKL.out; omega
      have i3 : (j : Int) + ((m : Int) + 1) < (la.length : Int) + 1 := by have := HKL.out; omega
      have i4 : (j : Int) + (m : Int) < (la.length : Int) + 1 := by have := HKL.out; omega
      have q1 : (j : Int) + ((m : Int) + 2) - 1 = (j : Int) + ((m : Int) + 1) := by omega
      have q2 : (j : Int) + ((m : Int) + 2) - 2 = (j : Int) + (m : Int) := by omega
      have q4 : (m : Int) + 2 - 2 = (m : Int) := by omega
      clear hp hP hU hS g0 g1 g2 k1 k0 hest hE hu hle hPl hUl hLul hcp hmk2
      go_wp2_with fail
      go_quiet ((go_at_call 102; exact Calls.quiet_of (HG.out _)))
      go_wp2_with fail
      have HCUT : Hid (j + (m + 2) + 1 - j = m + 2 + 1) := by show _ = _; omega
      have hbg : bd ≠ w2.heap.size := Nat.ne_of_lt hbd
      have hcd2 : cellsAt (wr.drewN nq) bd od ld := HCD.out.ext (HE.out.drewN nq)
      have hta := takeAway_any P U S ld w2.heap.size bd od (la.length + 1 - j) cd est HP.out.lim HSD.out.lim (by rw [HP.out.lU, hldl]) (by omega) hel (wr.drewN nq) (HOU.out.drewN nq) hcd2 hbg
      rw [HP.out.lp, HP.out.lU, hldl, ← HCUT.out] at hta
      refine hta.mono ?_
      clear hta
      rintro _ w7 ⟨⟨bb7, rfl, U', hU1, hU2, hU3, hO7⟩, hOn7⟩
      have hQ7 : OwnAt w7 w5.heap.size Lq := (HQ.out.drewN nq).only hOn7 (Nat.ne_of_gt hg5)
      have hE7 : Ext w2 w7 := hOn7.ext (HE.out.drewN nq) (Nat.le_refl _)
      obtain ⟨z, gz⟩ := get_some (show j < Lq.length by rw [HQL.out]; omega)
      have HUU := hide hU2
      have HUL := hide hU1
      have hDp : 0 < val ld := by rw [HVLD.out]; exact Nat.mul_pos hB0 hp2
      have HJL := hide (lt_of_get gz)
      have HJU : Hid (j < u0.length) := by show _ < _; have := HKL.out; omega
      clear c0 c1 c2 e0 e1 HG hU1 hU2 i3 i4 hcd2
      cases bb7 with
      | false =>
        obtain ⟨r1, r2⟩ := round_fit (n := m) hDp rfl HEST.out (by simpa using hU3)
        obtain ⟨s1, s2⟩ := HI.out.step HP.out hDp HUL.out HUU.out r2 HJL.out HJU.out
        rw [← r1] at s1
        have HS1 := hide s1
        have c7 := hQ7.cell gz
        have f7 := hQ7.frozen j
        have HQ7 := hide hQ7
        have HO7 := hide hO7
        have HE7 := hide hE7
        clear hU3 r1 r2 s1 s2 gz hQ7 hO7 hE7 hOn7 hDp HI HU HQ HE HEST HOU
        go_wp2_with fail
        go_roundw
        case rel => exact ⟨j, P ++ U' ++ S, Lq.set j est, by go_num, by omega, HS1, by have := HQL.out; show _ = _; simpa using this, HO7.out.other (Nat.ne_of_gt hg5) _ _, HQ7.out.set' j _ _ rfl, HE7.out.setCell (Nat.le_of_lt hg5) _⟩
        case measure => simp [intOf]
      | true =>
        have hlW : val U' < W (m + 2 + 1) := by
          have := val_lt HUL.out
          rwa [HUU.out, HP.out.lU] at this
        have hU3' : val U' + est * val ld = val U + W (m + 2 + 1) := by rw [← HP.out.lU]; simpa using hU3
        have hest1 : 1 ≤ est := by
          rcases Nat.eq_zero_or_pos est with h | h
          · rw [h, Nat.zero_mul] at hU3'; omega
          · exact h
        have hw1 : IntKind.u32.wrap ((est : Int) - 1) = ((est - 1 : Nat) : Int) := by rw [wu32]; omega
        have HQ7 := hide hQ7
        have HO7 := hide hO7
        have HE7 := hide hE7
        have HU3 := hide hU3'
        have HLW := hide hlW
        have GZ := hide gz
        clear hU3 hU3' hlW gz hQ7 hO7 hE7 hOn7 HU HQ HE HOU
        go_wp2_with fail
        have hpb := putBack_any P U' S ld w2.heap.size bd od (la.length + 1 - j) cd HUL.out HSD.out.lim (by rw [HUU.out, HP.out.lU, hldl]) (by omega) w7 HO7.out (HCD.out.ext HE7.out) hbg
        rw [HP.out.lp, HUU.out, HP.out.lU, hldl, ← HCUT.out] at hpb
        refine hpb.mono ?_
        clear hpb
        rintro _ w8 ⟨⟨⟨v8, rfl⟩, U2, c, hV1, hV2, hV3, hV4, hO8⟩, hOn8⟩
        have hQ8 : OwnAt w8 w5.heap.size Lq := HQ7.out.only hOn8 (Nat.ne_of_gt hg5)
        have hE8 : Ext w2 w8 := hOn8.ext HE7.out (Nat.le_refl _)
        rw [HUU.out, HP.out.lU] at hV4 hV2
        have hV2W : val U2 < W (m + 2 + 1) := by
          have := val_lt hV1
          rwa [hV2] at this
        obtain ⟨r1, r2⟩ := round_over (n := m + 2 + 1) hDp (Nat.le_of_lt (Nat.lt_of_lt_of_le HSD.out.lt (W_mono (Nat.le_succ _)))) HLW.out hV2W hV3 HEST.out HU3.out hV4
        obtain ⟨s1, s2⟩ := HI.out.step HP.out hDp hV1 (by rw [hV2, HP.out.lU]) r2 HJL.out HJU.out
        rw [show val U / val ld = est - 1 by omega] at s1
        have HS1 := hide s1
        have c7 := hQ8.cell GZ.out
        have f7 := hQ8.frozen j
        have HQ8 := hide hQ8
        have HO8 := hide hO8
        have HE8 := hide hE8
        clear hV1 hV2 hV3 hV4 hV2W r1 r2 s1 s2 hQ8 hO8 hE8 hOn8 HI HQ7 HO7 HE7 HU3 HLW GZ HEST
        go_wp2_with fail
        go_roundw
        case rel => exact ⟨j, P ++ U2 ++ S, Lq.set j (est - 1), by go_num, by omega, HS1, by have := HQL.out; show _ = _; simpa using this, HO8.out.other (Nat.ne_of_gt hg5) _ _, HQ8.out.set' j _ _ (by omega), HE8.out.setCell (Nat.le_of_lt hg5) _⟩
        case measure => simp [intOf]
end Go.Proofs.YgcoacGreat
