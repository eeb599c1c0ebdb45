/-
  exact.ofDigits.
-/
import Derived.Test.YgcoacDecK
namespace Go.Proofs.Ygcoac
open Go.RowKit
set_option linter.unusedSimpArgs false
set_option linter.unusedVariables false

def digV (l : List UInt8) : Nat := l.foldl (fun a c => 10 * a + (c.toNat - 48)) 0
theorem digV_succ {l : List UInt8} {i : Nat} (h : i < l.length) : digV (l.take (i + 1)) = 10 * digV (l.take i) + (l[i].toNat - 48) := by
  unfold digV
  rw [← List.take_append_getElem h, List.foldl_append]
  rfl
theorem dg_at {l : List UInt8} (h : l.all dgB = true) {i : Nat} (hi : i < l.length) : 48 ≤ l[i].toNat ∧ l[i].toNat ≤ 57 := by
  have := List.all_eq_true.1 h _ (List.getElem_mem hi)
  unfold dgB at this
  simpa using this
theorem digV_lt {l : List UInt8} (h : l.all dgB = true) (i : Nat) (hi : i ≤ l.length) : digV (l.take i) < 10 ^ i := by
  induction i with
  | zero => simp [digV]
  | succ i ih =>
    have h1 := ih (by omega)
    have h2 := dg_at h (show i < l.length by omega)
    rw [digV_succ (by omega), Nat.pow_succ]
    omega
def InR (l : List UInt8) (i j v p : Nat) : Prop := p = 10 ^ j ∧ v < p ∧ digV (l.take i) * p + v = digV (l.take (i + j))
theorem InR.start (l : List UInt8) (i : Nat) : InR l i 0 0 1 := ⟨rfl, by decide, by simp⟩
theorem InR.step {l : List UInt8} {i j v p c : Nat} (h : InR l i j v p) (hl : i + j < l.length) (hc : l[i + j].toNat = c) (h1 : 48 ≤ c) (h2 : c ≤ 57) : InR l i (j + 1) (10 * v + (c - 48)) (p * 10) := by
  obtain ⟨a1, a2, a3⟩ := h
  refine ⟨by rw [a1, Nat.pow_succ], by omega, ?_⟩
  rw [show i + (j + 1) = i + j + 1 from rfl, digV_succ hl, ← a3, hc, ← Nat.mul_assoc]
  generalize digV (l.take i) * p = q
  omega
theorem ten_lt {i : Nat} (h : i ≤ 800) : 10 ^ i < W 101 := by
  have h1 : 10 ^ i ≤ 16 ^ i := Nat.pow_le_pow_left (by decide) i
  have h2 : 16 ^ i = 2 ^ (4 * i) := by rw [show 16 = 2 ^ 4 from rfl, ← Nat.pow_mul]
  have h3 : ∀ a b : Nat, a < 32 * b → 2 ^ a < W b := fun a b hh => by rw [W_pow]; exact Nat.pow_lt_pow_right (by decide) hh
  have h4 := h3 (4 * i) 101 (by omega)
  omega
theorem p_le {j : Nat} (h : j ≤ 9) : 10 ^ j ≤ 1000000000 := Nat.pow_le_pow_right (show 0 < 10 by decide) h

set_option maxRecDepth 20000 in
set_option maxHeartbeats 2000000 in
theorem ofDigits_any (s : ByteArray) (hs : s.size ≤ 800) (hd : (bytes s).all dgB = true) (w : World) :
    Calls Oacg.prog 123 #[.string s] w fun r w' => (∃ v, r = .returned v ∧ NatAt w' v (digV (bytes s))) ∧ Ext w w' := by
  have HD := Box.mk hd
  have hsi : (s.size : Int) ≤ 800 := by omega
  have HLT : Box (∀ i, i ≤ s.size → digV ((bytes s).take i) < W 101) := ⟨fun i hi => Nat.lt_trans (digV_lt hd i (by rw [bytes_length]; exact hi)) (ten_lt (by omega))⟩
  clear hd
  go_enter Oacg.func123, Oacg.ntmps123
  go_wp2
  go_loopw [3, 4] (fun vn vi wr => ∃ i : Nat, vi = .int .i64 (i : Int) ∧ i ≤ s.size ∧ Hid (NatAt wr vn (digV ((bytes s).take i))) ∧ Hid (Ext w wr)) (fun _ i _ => (s.size - intOf i).toNat)
  case atStart =>
    exact ⟨0, rfl, Nat.zero_le _, natAt_nil _, Ext.refl w⟩
  case round =>
    rename_i wr
    obtain ⟨i, rfl, hi, HN, HX⟩ := hrel
    by_cases hlt : i < s.size
    · have hlti : (i : Int) < (s.size : Int) := by omega
      go_wp2
      go_loopw [4, 5, 6, 7] (fun vi vv vp vj wx => ∃ j v p : Nat, vi = .int .i64 ((i : Int) + (j : Int)) ∧ vv = .int .u64 (v : Int) ∧ vp = .int .u64 (p : Int) ∧ vj = .int .i64 (j : Int) ∧ j ≤ 9 ∧ i + j ≤ s.size ∧ Hid (InR (bytes s) i j v p) ∧ wx = wr) (fun _ _ _ vj _ => (9 - intOf vj).toNat)
      case atStart =>
        exact ⟨0, 0, 1, by simp, rfl, rfl, rfl, by decide, by omega, InR.start _ _, rfl⟩
      case round =>
        obtain ⟨j, v, p, rfl, rfl, rfl, rfl, hj, hij, HI, rfl⟩ := hrel
        by_cases hc : j < 9 ∧ i + j < s.size
        · obtain ⟨hc1, hc2⟩ := hc
          obtain ⟨q, hq⟩ : ∃ q : Nat, i + j = q := ⟨_, rfl⟩
          have hqi : (i : Int) + (j : Int) = (q : Int) := by omega
          rw [hq] at hc2
          have hqlt : (q : Int) < (s.size : Int) := by omega
          have hj9 : (j : Int) < 9 := by omega
          obtain ⟨c, hcc⟩ : ∃ c : Nat, s[q].toNat = c := ⟨_, rfl⟩
          have hql : q < (bytes s).length := by rw [bytes_length]; exact hc2
          have hgq : (bytes s)[q].toNat = c := by
            have h1 := bytes_get s q hc2
            rw [List.getElem?_eq_getElem hql] at h1
            have h2 := Option.some.inj h1
            exact (congrArg UInt8.toNat h2).trans hcc
          have hdd := dg_at HD.out hql
          rw [hgq] at hdd
          have HI2 : Hid (InR (bytes s) i (j + 1) (10 * v + (c - 48)) (p * 10)) := by
            have hgq2 : (bytes s)[i + j]'(by rw [hq]; exact hql) = (bytes s)[q] := by congr
            exact HI.out.step (by rw [hq]; exact hql) (by rw [hgq2]; exact hgq) hdd.1 hdd.2
          have hv : (v : Int) < 100000000 ∧ (p : Int) ≤ 100000000 := by
            obtain ⟨a1, a2, a3⟩ := HI.out
            have := Nat.pow_le_pow_right (show 0 < 10 by decide) (show j ≤ 8 by omega)
            omega
          obtain ⟨hv1, hv2⟩ := hv
          obtain ⟨d, hdc⟩ : ∃ d : Nat, (c : Int) - 48 = (d : Int) := ⟨c - 48, by omega⟩
          have hd9 : (d : Int) ≤ 9 := by omega
          have hcd : c - 48 = d := by omega
          rw [hcd] at HI2
          have hdw : IntKind.u8.wrap (d : Int) = (d : Int) := by simp [IntKind.wrap, IntKind.bits, IntKind.signed]; omega
          have hci : (48 : Int) ≤ (c : Int) := by omega
          have hci2 : (c : Int) ≤ 57 := by omega
          have hq1 : (q : Int) + 1 = (i : Int) + ((j + 1 : Nat) : Int) := by omega
          have HQ1 := Box.mk hq1
          have hj1 : j + 1 ≤ 9 := by omega
          have hij1 : i + (j + 1) ≤ s.size := by omega
          clear hdd hgq HI hc1 hq hcd hij hj hq1
          go_wp2
          exact ⟨⟨j + 1, 10 * v + d, p * 10, by rw [HQ1.out], by simp, by simp, by simp, hj1, hij1, HI2, trivial⟩, by first | (simp [intOf]; done) | (simp [intOf]; omega)⟩
        · have hjp : 0 < j := by omega
          obtain ⟨q, hq⟩ : ∃ q : Nat, i + j = q := ⟨_, rfl⟩
          have hqi : (i : Int) + (j : Int) = (q : Int) := by omega
          have hqs : q ≤ s.size := by omega
          have hiq : i < q := by omega
          have HR := HI.out
          unfold InR at HR
          rw [hq] at HR
          have hvp : v ≤ 1000000000 ∧ p ≤ 1000000000 := by
            have := p_le hj
            obtain ⟨a1, a2, a3⟩ := HR
            omega
          have HMU := hide (fun v2 wx hv1 (hv2 : NatAt wx v2 p) => mul_any (digV ((bytes s).take i)) p 101 1 (HLT.out i (by omega)) (show p < W 1 by have : W 1 = 4294967296 := rfl; omega) (by decide) (by decide) u3 v2 wx hv1 hv2)
          have hml : digV ((bytes s).take i) * p < W 101 := Nat.lt_of_le_of_lt (by rw [← HR.2.2]; exact Nat.le_add_right _ _) (HLT.out q hqs)
          have HAD := hide (fun v1 v2 wx hv1 (hv2 : NatAt wx v2 v) => add_any (digV ((bytes s).take i) * p) v 101 1 hml (show v < W 1 by have : W 1 = 4294967296 := rfl; omega) (by decide) (by decide) v1 v2 wx hv1 hv2)
          rw [HR.2.2] at HAD
          have HFP : Hid (∀ wx, Calls Oacg.prog 24 #[.int .u64 (p : Int)] wx fun r w' => (∃ v, r = .returned v ∧ NatAt w' v p) ∧ Ext wx w') := by
            intro wx; have := fromU64_any (p : Int) (by omega) (by omega) wx; rwa [Int.toNat_natCast] at this
          have HFV : Hid (∀ wx, Calls Oacg.prog 24 #[.int .u64 (v : Int)] wx fun r w' => (∃ u, r = .returned u ∧ NatAt w' u v) ∧ Ext wx w') := by
            intro wx; have := fromU64_any (v : Int) (by omega) (by omega) wx; rwa [Int.toNat_natCast] at this
          have HIQ := Box.mk hiq
          generalize digV ((bytes s).take i) * p = M at *
          have hvi : (v : Int) ≤ 1000000000 := by omega
          have hpi : (p : Int) ≤ 1000000000 := by omega
          have hcb : decide ((j : Int) < 9) = false ∨ (j : Int) < 9 ∧ q = s.size := by
            rcases Nat.lt_or_ge j 9 with h' | h'
            · right; omega
            · left; simp; omega
          clear HR hvp hml hc hjp hq hj hij HI hiq
          rcases hcb with t1 | ⟨t1, rfl⟩
          all_goals
            go_wp2_with fail
            refine (HFP.out _).mono ?_
            rintro _ w1 ⟨⟨v1, rfl, hv1⟩, hx1⟩
            have HV1 := hide hv1
            have HX1 := hide hx1
            clear hv1 hx1
            go_wp2_with fail
            refine (HMU.out _ _ (HN.out.ext HX1.out) HV1.out).mono ?_
            rintro _ w2 ⟨⟨v2, rfl, hv2⟩, hx2⟩
            have HV2 := hide hv2
            have HX2 := hide (HX1.out.trans hx2)
            clear hv2 hx2 HX1 HV1
            go_wp2_with fail
            refine (HFV.out _).mono ?_
            rintro _ w3 ⟨⟨v3, rfl, hv3⟩, hx3⟩
            have HV3 := hide hv3
            have HV2' := hide (HV2.out.ext hx3)
            have HX3 := hide (HX2.out.trans hx3)
            clear hv3 hx3 HX2 HV2
            go_wp2_with fail
            refine (HAD.out _ _ _ HV2'.out HV3.out).mono ?_
            rintro _ w4 ⟨⟨v4, rfl, hv4⟩, hx4⟩
            have HV4 := hide hv4
            have HX4 := hide (HX.out.trans (HX3.out.trans hx4))
            clear hv4 hx4 HX3 HV3 HV2'
            go_wp2_with fail
            exact ⟨⟨_, rfl, hqs, HV4, HX4⟩, by have := HIQ.out; simp [intOf]; omega⟩
    · have hie : i = s.size := by omega
      subst hie
      have HF : Hid (NatAt wr u3 (digV (bytes s))) := by
        have h1 := HN.out
        rw [← bytes_length, List.take_length] at h1
        exact h1
      clear HN hlt hi
      go_wp2
      go_ret
      exact ⟨⟨_, rfl, HF.out⟩, HX.out⟩
end Go.Proofs.Ygcoac
