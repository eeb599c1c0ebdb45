/-
  hexa.Scan.
-/
import Derived.Test.YgcoacHexR0
import Derived.Test.YgcoacHexR1
import Derived.Test.YgcoacHexR2
namespace Go.Proofs.Ygcoac
open Go.RowKit
set_option linter.unusedSimpArgs false
set_option linter.unusedVariables false

set_option maxRecDepth 1000000 in
set_option maxHeartbeats 4000000 in
theorem scan_any (s : ByteArray) (hs : (s.size : Int) ≤ 140737488355328) (w : World) :
    Calls Oacg.prog 71 #[.string s] w fun r w' => (∃ v, r = .returned v ∧ ScanR s v) ∧ Below w.heap.size w w' := by
  obtain ⟨i0, hi, hz0, hz1, hz2⟩ := info_parts Oacg.info5
  by_cases hbig : 1024 < s.size
  · have ht : decide ((1024 : Int) < (s.size : Int)) = true := by simp; omega
    go_enter Oacg.func71, Oacg.ntmps71
    go_wp2
    go_step3
    go_wp2
    rw [Exit.noGoto_ret]
    show bodyPost Oacg.prog Oacg.f71 _ Exit.ret _ _
    simp [bodyPost, results, Oacg.results71, go_sem]
    exact ⟨by unfold ScanR; rw [if_pos hbig]; rfl, (Below.refl _ _).alloc (Nat.le_refl _) _⟩
  · have ht : decide ((1024 : Int) < (s.size : Int)) = false := by simp; omega
    go_enter Oacg.func71, Oacg.ntmps71
    go_wp2
    go_step3
    go_wp2
    go_step3
    go_wp2
    go_loopw [3, 4, 5, 6, 7, 8] (fun v3 v4 v5 v6 v7 v8 wr => ScRel w s v3 v4 v5 v6 v7 v8 wr) (fun _ _ _ _ _ _ wr => s.size - wr.iterPos (w.heap.size + 1))
    case atStart => exact ⟨0, Sc.start, 0, ScW.start w s, rfl, rfl, rfl, rfl, rfl, rfl, by decide, Nat.zero_le _, Nat.zero_le _, Nat.zero_le _, by decide, rfl⟩
    case round =>
      obtain ⟨k, c, z, hW, rfl, rfl, rfl, rfl, rfl, hz, hst, hk, hf, hd, hx, HS⟩ := hrel
      by_cases hp : k < s.size
      · have hnx : ∀ ty, (Instr.next (.pointer (some ⟨w.heap.size + 1, 0, none⟩)) true ty).run Oacg.prog wr = _ := fun ty => Lib.run_next_any_at wr (w.heap.size + 1) s k ty hW.it hp
        have hW1 := hW.next (k + (Utf8.decode s k).2)
        obtain ⟨W1, hWe⟩ : ∃ W1, W1 = wr.iterAt (w.heap.size + 1) s (k + (Utf8.decode s k).2) := ⟨_, rfl⟩
        rw [← hWe] at hnx hW1
        obtain ⟨r, hr⟩ : ∃ r : Int, ((Utf8.decode s k).1 : Int) = r := ⟨_, rfl⟩
        rw [hr] at hnx
        have hm0 := iterPos_of hW.it
        have hr0 : 0 ≤ r := by omega
        have hr1 : r ≤ 2147483647 := by have := decode_le s k; omega
        clear hWe hW
        obtain ⟨st, ng, en, fr, ex, dg⟩ := c
        simp only at hW1 hz hst hf hd hx
        have HW := hide hW1
        have HD : Hid (z = (st : Int)) := hz
        clear hz hW1
        by_cases h0 : st = 0
        · have hz' : z = 0 := by have := HD.out; omega
          subst h0 hz'
          exact round0 hbig hp hr hnx ng en fr ex dg _ _ _ _ _ _ _ _ _ _ _ _ _ _ _ _ _ _ _ _ _ _ _ _ _ _ _ _ _ _ _ _ _ _ _ _ _ _ _ _ _ _ _ _ _ _ _ _ _ _ _ _ _ _ _ _ _ _ _ _ _ _ _ _ _ _ _ _ _ _ _ _ _ _ _ _ _ _ _ _ _ _ _ _ _ _ _ _ _ _ _ _ _ _ _ _ _ _ _ _ _ _ _ _ _ _ _ _ _ _ _ _ _ _ _ _ _ _ _ _ _ _ _ _ _ _ _ _ _ _ _ _ _ HW hm0 hr0 hr1 hf hd hx HS _ (fun a w' h => h)
        by_cases h1 : st = 1
        · have hz' : z = 1 := by have := HD.out; omega
          subst h1 hz'
          exact round1 hbig hp hr hnx ng en fr ex dg _ _ _ _ _ _ _ _ _ _ _ _ _ _ _ _ _ _ _ _ _ _ _ _ _ _ _ _ _ _ _ _ _ _ _ _ _ _ _ _ _ _ _ _ _ _ _ _ _ _ _ _ _ _ _ _ _ _ _ _ _ _ _ _ _ _ _ _ _ _ _ _ _ _ _ _ _ _ _ _ _ _ _ _ _ _ _ _ _ _ _ _ _ _ _ _ _ _ _ _ _ _ _ _ _ _ _ _ _ _ _ _ _ _ _ _ _ _ _ _ _ _ _ _ _ _ _ _ _ _ _ _ _ HW hm0 hr0 hr1 hf hd hx HS _ (fun a w' h => h)
        by_cases h2 : st = 2
        · have hz' : z = 2 := by have := HD.out; omega
          subst h2 hz'
          exact round2 hbig hp hr hnx ng en fr ex dg _ _ _ _ _ _ _ _ _ _ _ _ _ _ _ _ _ _ _ _ _ _ _ _ _ _ _ _ _ _ _ _ _ _ _ _ _ _ _ _ _ _ _ _ _ _ _ _ _ _ _ _ _ _ _ _ _ _ _ _ _ _ _ _ _ _ _ _ _ _ _ _ _ _ _ _ _ _ _ _ _ _ _ _ _ _ _ _ _ _ _ _ _ _ _ _ _ _ _ _ _ _ _ _ _ _ _ _ _ _ _ _ _ _ _ _ _ _ _ _ _ _ _ _ _ _ _ _ _ _ _ _ _ HW hm0 hr0 hr1 hf hd hx HS _ (fun a w' h => h)
        by_cases h3 : st = 3
        · have hz' : z = 3 := by have := HD.out; omega
          subst h3 hz'
          exact round3 hbig hp hr hnx ng en fr ex dg _ _ _ _ _ _ _ _ _ _ _ _ _ _ _ _ _ _ _ _ _ _ _ _ _ _ _ _ _ _ _ _ _ _ _ _ _ _ _ _ _ _ _ _ _ _ _ _ _ _ _ _ _ _ _ _ _ _ _ _ _ _ _ _ _ _ _ _ _ _ _ _ _ _ _ _ _ _ _ _ _ _ _ _ _ _ _ _ _ _ _ _ _ _ _ _ _ _ _ _ _ _ _ _ _ _ _ _ _ _ _ _ _ _ _ _ _ _ _ _ _ _ _ _ _ _ _ _ _ _ _ _ _ HW hm0 hr0 hr1 hf hd hx HS _ (fun a w' h => h)
        by_cases h4 : st = 4
        · have hz' : z = 4 := by have := HD.out; omega
          subst h4 hz'
          exact round4 hbig hp hr hnx ng en fr ex dg _ _ _ _ _ _ _ _ _ _ _ _ _ _ _ _ _ _ _ _ _ _ _ _ _ _ _ _ _ _ _ _ _ _ _ _ _ _ _ _ _ _ _ _ _ _ _ _ _ _ _ _ _ _ _ _ _ _ _ _ _ _ _ _ _ _ _ _ _ _ _ _ _ _ _ _ _ _ _ _ _ _ _ _ _ _ _ _ _ _ _ _ _ _ _ _ _ _ _ _ _ _ _ _ _ _ _ _ _ _ _ _ _ _ _ _ _ _ _ _ _ _ _ _ _ _ _ _ _ _ _ _ _ HW hm0 hr0 hr1 hf hd hx HS _ (fun a w' h => h)
        by_cases h5 : st = 5
        · have hz' : z = 5 := by have := HD.out; omega
          subst h5 hz'
          exact round5 hbig hp hr hnx ng en fr ex dg _ _ _ _ _ _ _ _ _ _ _ _ _ _ _ _ _ _ _ _ _ _ _ _ _ _ _ _ _ _ _ _ _ _ _ _ _ _ _ _ _ _ _ _ _ _ _ _ _ _ _ _ _ _ _ _ _ _ _ _ _ _ _ _ _ _ _ _ _ _ _ _ _ _ _ _ _ _ _ _ _ _ _ _ _ _ _ _ _ _ _ _ _ _ _ _ _ _ _ _ _ _ _ _ _ _ _ _ _ _ _ _ _ _ _ _ _ _ _ _ _ _ _ _ _ _ _ _ _ _ _ _ _ HW hm0 hr0 hr1 hf hd hx HS _ (fun a w' h => h)
        by_cases h6 : st = 6
        · have hz' : z = 6 := by have := HD.out; omega
          subst h6 hz'
          exact round6 hbig hp hr hnx ng en fr ex dg _ _ _ _ _ _ _ _ _ _ _ _ _ _ _ _ _ _ _ _ _ _ _ _ _ _ _ _ _ _ _ _ _ _ _ _ _ _ _ _ _ _ _ _ _ _ _ _ _ _ _ _ _ _ _ _ _ _ _ _ _ _ _ _ _ _ _ _ _ _ _ _ _ _ _ _ _ _ _ _ _ _ _ _ _ _ _ _ _ _ _ _ _ _ _ _ _ _ _ _ _ _ _ _ _ _ _ _ _ _ _ _ _ _ _ _ _ _ _ _ _ _ _ _ _ _ _ _ _ _ _ _ _ HW hm0 hr0 hr1 hf hd hx HS _ (fun a w' h => h)
        by_cases h7 : st = 7
        · have hz' : z = 7 := by have := HD.out; omega
          subst h7 hz'
          exact round7 hbig hp hr hnx ng en fr ex dg _ _ _ _ _ _ _ _ _ _ _ _ _ _ _ _ _ _ _ _ _ _ _ _ _ _ _ _ _ _ _ _ _ _ _ _ _ _ _ _ _ _ _ _ _ _ _ _ _ _ _ _ _ _ _ _ _ _ _ _ _ _ _ _ _ _ _ _ _ _ _ _ _ _ _ _ _ _ _ _ _ _ _ _ _ _ _ _ _ _ _ _ _ _ _ _ _ _ _ _ _ _ _ _ _ _ _ _ _ _ _ _ _ _ _ _ _ _ _ _ _ _ _ _ _ _ _ _ _ _ _ _ _ HW hm0 hr0 hr1 hf hd hx HS _ (fun a w' h => h)
        by_cases h8 : st = 8
        · have hz' : z = 8 := by have := HD.out; omega
          subst h8 hz'
          exact round8 hbig hp hr hnx ng en fr ex dg _ _ _ _ _ _ _ _ _ _ _ _ _ _ _ _ _ _ _ _ _ _ _ _ _ _ _ _ _ _ _ _ _ _ _ _ _ _ _ _ _ _ _ _ _ _ _ _ _ _ _ _ _ _ _ _ _ _ _ _ _ _ _ _ _ _ _ _ _ _ _ _ _ _ _ _ _ _ _ _ _ _ _ _ _ _ _ _ _ _ _ _ _ _ _ _ _ _ _ _ _ _ _ _ _ _ _ _ _ _ _ _ _ _ _ _ _ _ _ _ _ _ _ _ _ _ _ _ _ _ _ _ _ HW hm0 hr0 hr1 hf hd hx HS _ (fun a w' h => h)
        by_cases h9 : st = 9
        · have hz' : z = 9 := by have := HD.out; omega
          subst h9 hz'
          exact round9 hbig hp hr hnx ng en fr ex dg _ _ _ _ _ _ _ _ _ _ _ _ _ _ _ _ _ _ _ _ _ _ _ _ _ _ _ _ _ _ _ _ _ _ _ _ _ _ _ _ _ _ _ _ _ _ _ _ _ _ _ _ _ _ _ _ _ _ _ _ _ _ _ _ _ _ _ _ _ _ _ _ _ _ _ _ _ _ _ _ _ _ _ _ _ _ _ _ _ _ _ _ _ _ _ _ _ _ _ _ _ _ _ _ _ _ _ _ _ _ _ _ _ _ _ _ _ _ _ _ _ _ _ _ _ _ _ _ _ _ _ _ _ HW hm0 hr0 hr1 hf hd hx HS _ (fun a w' h => h)
        by_cases h10 : st = 10
        · have hz' : z = 10 := by have := HD.out; omega
          subst h10 hz'
          exact round10 hbig hp hr hnx ng en fr ex dg _ _ _ _ _ _ _ _ _ _ _ _ _ _ _ _ _ _ _ _ _ _ _ _ _ _ _ _ _ _ _ _ _ _ _ _ _ _ _ _ _ _ _ _ _ _ _ _ _ _ _ _ _ _ _ _ _ _ _ _ _ _ _ _ _ _ _ _ _ _ _ _ _ _ _ _ _ _ _ _ _ _ _ _ _ _ _ _ _ _ _ _ _ _ _ _ _ _ _ _ _ _ _ _ _ _ _ _ _ _ _ _ _ _ _ _ _ _ _ _ _ _ _ _ _ _ _ _ _ _ _ _ _ HW hm0 hr0 hr1 hf hd hx HS _ (fun a w' h => h)
        omega
      · have hke : k = s.size := by omega
        have hnx : ∀ ty, (Instr.next (.pointer (some ⟨w.heap.size + 1, 0, none⟩)) true ty).run Oacg.prog wr = _ := fun ty => Lib.run_next_end_at wr (w.heap.size + 1) s k ty hW.it hp
        have hfin : goS Sc.start (bytes s) = c.fin := by rw [← HS.out, List.drop_eq_nil_of_le (by rw [bytes_length]; omega)]; rfl
        obtain ⟨hA0, hA1, hA2, hA3, hA4, hA5, hA6⟩ := hW.cells
        have HB := hide hW.bel
        have hconv := own_conv hW.own
        have hsz := hW.size
        have hlen : c.dig.length ≤ 1024 := by omega
        have hfr : (c.frac : Int) ≤ 1024 := by omega
        have hex : (c.ex : Int) ≤ 1000000 := by omega
        have HF := hide hfin
        have HD : Hid (z = (c.st : Int)) := hz
        clear hz hW HS hfin hf hd hx hk hst
        by_cases h10 : c.st = 10
        · have hz' : z = 10 := by have := HD.out; omega
          subst hz'
          have hdb : bytes ⟨c.dig.toArray⟩ = c.dig := by simp [bytes]
          have hds : ((⟨c.dig.toArray⟩ : ByteArray).size : Int) ≤ 140737488355328 := by rw [← bytes_length, hdb]; omega
          obtain ⟨y, hy⟩ : ∃ y : Int, y = (if c.en then -(c.ex : Int) else (c.ex : Int)) - 4 * (c.frac : Int) := ⟨_, rfl⟩
          have hyb : -1100000 ≤ y ∧ y ≤ 1100000 := by rw [hy]; split <;> omega
          have hw4 : IntKind.i64.wrap (4 * (c.frac : Int)) = 4 * (c.frac : Int) := by simp [IntKind.wrap, IntKind.bits, IntKind.signed]; split <;> omega
          have HM := hide (fun wx => make_any c.neg ⟨c.dig.toArray⟩ y (by omega) (by omega) hds wx)
          have HL := hide (fun u v hm hs => rel_made (u := u) (v := v) hbig HF.out h10 hy hdb hm hs)
          have hyw : IntKind.i64.wrap y = y := by simp [IntKind.wrap, IntKind.bits, IntKind.signed]; split <;> omega
          have Hy := hide hy
          clear HF HD hy h10 hdb hds hke
          have hend : ∀ (wx : World), Ext wr wx → ∀ u0 u1 u2 a0 a1 a2 a3 a4 a5, Below w.heap.size w (((((((wx.setCell ⟨w.heap.size, 0, none⟩ a0).setCell ⟨w.heap.size, 1, none⟩ a1).setCell ⟨w.heap.size, 2, none⟩ a2).setCell ⟨w.heap.size, 3, none⟩ a3).setCell ⟨w.heap.size, 4, none⟩ a4).setCell ⟨w.heap.size, 5, none⟩ a5).alloc (.cells #[u0, u1, u2] 103)) := fun wx hx u0 u1 u2 a0 a1 a2 a3 a4 a5 =>
            (below_set6 (HB.out.trans (hx.below.mono (by omega))) (Nat.le_refl _) _ _ _ _ _ _).alloc (by have := (below_set6 (HB.out.trans (hx.below.mono (by omega))) (Nat.le_refl _) a0 a1 a2 a3 a4 a5).size; omega) _
          have HEND := hide hend
          clear hend
          rcases hen : c.en with _ | _
          · have e1 : (c.ex : Int) - 4 * (c.frac : Int) = y := by rw [Hy.out, hen]; simp
            clear Hy
            go_wp2_with fail
            refine (HM.out _).mono ?_
            rintro _ w2 ⟨⟨v, rfl, hm⟩, hx2⟩
            obtain ⟨n', t', x', ok, rfl⟩ := hm.shape
            have hB0 := hx2.cell hA0
            have hB1 := hx2.cell hA1
            have hB2 := hx2.cell hA2
            have hB3 := hx2.cell hA3
            have hB4 := hx2.cell hA4
            have hB5 := hx2.cell hA5
            have hB6 : ∀ o, w2.frozen? ⟨w.heap.size, o, none⟩ = false := fun o => (hx2.froz _).trans (hA6 o)
            have hy1 : w.heap.size < w2.heap.size := by have := hx2.size; omega
            have HX := hide hx2
            have HMm := hide hm
            clear hA0 hA1 hA2 hA3 hA4 hA5 hA6 hx2 hm hnx hconv hsz
            cases ok
            · have HR := hide (HL.out _ tooBig HMm.out (.bad _ _ _))
              clear HL HMm HM
              go_wp2
              rw [Exit.noGoto_ret]
              show bodyPost Oacg.prog Oacg.f71 _ Exit.ret _ _
              simp [bodyPost, results, Oacg.results71, go_sem, hB0, hB1, hB2, hB3, hB4, hB5, hy1]
              exact ⟨HR.out, HEND.out _ HX.out _ _ _ _ _ _ _ _ _⟩
            · have HR := hide (HL.out _ (scanV 0 n' t' x' 0 0) HMm.out (.good _ _ _))
              clear HL HMm HM
              go_wp2
              rw [Exit.noGoto_ret]
              show bodyPost Oacg.prog Oacg.f71 _ Exit.ret _ _
              simp [bodyPost, results, Oacg.results71, go_sem, hB0, hB1, hB2, hB3, hB4, hB5, hy1]
              exact ⟨HR.out, HEND.out _ HX.out _ _ _ _ _ _ _ _ _⟩
          · have e1 : -(c.ex : Int) - 4 * (c.frac : Int) = y := by rw [Hy.out, hen]; simp
            have hwn : IntKind.i64.wrap (-(c.ex : Int)) = -(c.ex : Int) := by simp [IntKind.wrap, IntKind.bits, IntKind.signed]; split <;> omega
            clear Hy
            go_wp2_with fail
            refine (HM.out _).mono ?_
            rintro _ w2 ⟨⟨v, rfl, hm⟩, hx2⟩
            obtain ⟨n', t', x', ok, rfl⟩ := hm.shape
            have hB0 := hx2.cell hA0
            have hB1 := hx2.cell hA1
            have hB2 := hx2.cell hA2
            have hB3 := hx2.cell hA3
            have hB4 := hx2.cell hA4
            have hB5 := hx2.cell hA5
            have hB6 : ∀ o, w2.frozen? ⟨w.heap.size, o, none⟩ = false := fun o => (hx2.froz _).trans (hA6 o)
            have hy1 : w.heap.size < w2.heap.size := by have := hx2.size; omega
            have HX := hide hx2
            have HMm := hide hm
            clear hA0 hA1 hA2 hA3 hA4 hA5 hA6 hx2 hm hnx hconv hsz
            cases ok
            · have HR := hide (HL.out _ tooBig HMm.out (.bad _ _ _))
              clear HL HMm HM
              go_wp2
              rw [Exit.noGoto_ret]
              show bodyPost Oacg.prog Oacg.f71 _ Exit.ret _ _
              simp [bodyPost, results, Oacg.results71, go_sem, hB0, hB1, hB2, hB3, hB4, hB5, hy1]
              exact ⟨HR.out, HEND.out _ HX.out _ _ _ _ _ _ _ _ _⟩
            · have HR := hide (HL.out _ (scanV 0 n' t' x' 0 0) HMm.out (.good _ _ _))
              clear HL HMm HM
              go_wp2
              rw [Exit.noGoto_ret]
              show bodyPost Oacg.prog Oacg.f71 _ Exit.ret _ _
              simp [bodyPost, results, Oacg.results71, go_sem, hB0, hB1, hB2, hB3, hB4, hB5, hy1]
              exact ⟨HR.out, HEND.out _ HX.out _ _ _ _ _ _ _ _ _⟩
        · have q10 : (z == 10) = false := by have := HD.out; simp; omega
          have q10' : (z != 10) = true := by have := HD.out; simp; omega
          have HR := hide (rel_end hbig HF.out h10)
          clear HF HD h10 hconv
          go_wp2
          rw [Exit.noGoto_ret]
          show bodyPost Oacg.prog Oacg.f71 _ Exit.ret _ _
          simp [bodyPost, results, Oacg.results71, go_sem, hA0, hA1, hA2, hA3, hA4, hA5]
          exact ⟨HR.out, below_set6 HB.out (Nat.le_refl _) _ _ _ _ _ _⟩
end Go.Proofs.Ygcoac
