/-
  hmodel.Scan.
-/
import Derived.Test.YgcoacHexY
import Derived.WalkKit
import Derived.WalkSpells
namespace Go.Proofs.Ygcoac
open Go.RowKit
set_option linter.unusedSimpArgs false
set_option linter.unusedVariables false

set_option maxRecDepth 1000000 in
set_option maxHeartbeats 8000000 in
theorem scan2_m (s : ByteArray) (hbig : ¬ 1024 < s.size) (h0 : 0 < s.size) (q43 : ((s[0].toNat : Int) == 43) = false) (q45 : ((s[0].toNat : Int) == 45) = true) (w : World) :
    Calls Oacg.prog 72 #[.string s] w fun r w' => (∃ v, r = .returned v ∧ ScanR s v) ∧ Below w.heap.size w w' := by
  have ht : decide ((1024 : Int) < (s.size : Int)) = false := by simp; omega
  have hem := isEmpty_pos h0
  have h0i : (0 : Int) < (s.size : Int) := by omega
  have hsz : (s.size : Int) ≤ 140737488355328 := by omega
  have hz0 : ((s.size : Int) == 0) = false := beq_eq_false_iff_ne.2 (by omega)
  have HS : Hid (Sgn s 1 true) := by
    have := Sgn.some h0 (by simp only [sgnI, q43, q45]; rfl)
    rw [q45] at this; exact this
  by_cases hl : 1 < s.size
  rotate_left
  · have hl1 : ((s.size : Int) == 1) = true := by simp; omega
    have HPL : Hid (1 ≤ s.size) := by show _ ≤ _; omega
    have HR := hide (ans_wrong hbig HPL.out (HS.out.bad (fun h => absurd h hl)))
    go_enter Oacg.func72, Oacg.ntmps72
    go_wp2_with fail
    refine (wrong_int s hsz 1 HPL.out _ (by first | rfl | omega) _).mono ?_
    rintro _ w5 ⟨rfl, hb5⟩
    have hM := (MW.start w).next hb5
    obtain ⟨hA0, hA1, hA2, hA3, hA4, hA5, hA6⟩ := hM.cells
    have HB := hide hM.bel
    clear hM hb5
    go_wp2
    simp [bodyPost, results, Oacg.results72, go_sem, hA0, hA1, hA2, hA3, hA4, hA5]
    exact ⟨HR.out, below_set6 HB.out (Nat.le_refl _) _ _ _ _ _ _⟩
  have hl1 : ((s.size : Int) == 1) = false := by simp; omega
  have hli : (1 : Int) < (s.size : Int) := by omega
  cases q48 : ((s[1].toNat : Int) == 48) with
  | false =>
    have q48' : ((s[1].toNat : Int) != 48) = true := by simp only [bne, q48]; rfl
    have HPL : Hid (1 ≤ s.size) := by show _ ≤ _; omega
    have HR := hide (ans_wrong hbig HPL.out (HS.out.bad (fun _ => q48)))
    go_enter Oacg.func72, Oacg.ntmps72
    go_wp2_with fail
    refine (wrong_int s hsz 1 HPL.out _ (by first | rfl | omega) _).mono ?_
    rintro _ w5 ⟨rfl, hb5⟩
    have hM := (MW.start w).next hb5
    obtain ⟨hA0, hA1, hA2, hA3, hA4, hA5, hA6⟩ := hM.cells
    have HB := hide hM.bel
    clear hM hb5
    go_wp2
    simp [bodyPost, results, Oacg.results72, go_sem, hA0, hA1, hA2, hA3, hA4, hA5]
    exact ⟨HR.out, below_set6 HB.out (Nat.le_refl _) _ _ _ _ _ _⟩
  | true =>
    have q48' : ((s[1].toNat : Int) != 48) = false := by simp only [bne, q48]; rfl
    have HZ := hide (HS.out.zero hl q48)
    clear HS
    by_cases hl2 : 2 < s.size
    rotate_left
    · have hl3 : ((s.size : Int) == 2) = true := by simp; omega
      have HPL : Hid (2 ≤ s.size) := by show _ ≤ _; omega
      have HR := hide (ans_wrong hbig HPL.out (x_bad HZ.out (fun h => absurd h hl2)))
      go_enter Oacg.func72, Oacg.ntmps72
      go_wp2_with fail
      refine (wrong_int s hsz 2 HPL.out _ (by first | rfl | omega) _).mono ?_
      rintro _ w5 ⟨rfl, hb5⟩
      have hM := (MW.start w).next hb5
      obtain ⟨hA0, hA1, hA2, hA3, hA4, hA5, hA6⟩ := hM.cells
      have HB := hide hM.bel
      clear hM hb5
      go_wp2
      simp [bodyPost, results, Oacg.results72, go_sem, hA0, hA1, hA2, hA3, hA4, hA5]
      exact ⟨HR.out, below_set6 HB.out (Nat.le_refl _) _ _ _ _ _ _⟩
    have hl3 : ((s.size : Int) == 2) = false := by simp; omega
    have hl3i : (2 : Int) < (s.size : Int) := by omega
    have hux := u8_isX s[2]
    cases qX : (Go.bits BinOp.or IntKind.u8 (s[2].toNat : Int) 32 == 120) with
    | false =>
      have qX' : (Go.bits BinOp.or IntKind.u8 (s[2].toNat : Int) 32 != 120) = true := by simp only [bne, qX]; rfl
      rw [qX] at hux
      have HU := hide hux.symm
      clear hux
      have HPL : Hid (2 ≤ s.size) := by show _ ≤ _; omega
      have HR := hide (ans_wrong hbig HPL.out (x_bad HZ.out (fun _ => HU.out)))
      go_enter Oacg.func72, Oacg.ntmps72
      go_wp2_with fail
      refine (wrong_int s hsz 2 HPL.out _ (by first | rfl | omega) _).mono ?_
      rintro _ w5 ⟨rfl, hb5⟩
      have hM := (MW.start w).next hb5
      obtain ⟨hA0, hA1, hA2, hA3, hA4, hA5, hA6⟩ := hM.cells
      have HB := hide hM.bel
      clear hM hb5
      go_wp2
      simp [bodyPost, results, Oacg.results72, go_sem, hA0, hA1, hA2, hA3, hA4, hA5]
      exact ⟨HR.out, below_set6 HB.out (Nat.le_refl _) _ _ _ _ _ _⟩
    | true =>
      have qX' : (Go.bits BinOp.or IntKind.u8 (s[2].toNat : Int) 32 != 120) = false := by simp only [bne, qX]; rfl
      rw [qX] at hux
      have HT : Hid (goS Sc.start (bytes s) = goS ⟨3, true, false, 0, 0, []⟩ (bytes (s.extract 3 s.size))) := x_good HZ.out hl2 hux.symm
      have hl4i : (3 : Int) ≤ (s.size : Int) := by omega
      have hts : (s.extract 3 s.size).size = s.size - 3 := by rw [← bytes_length, bytes_tail, List.length_drop, bytes_length]
      have hTS : Hid (3 + (s.extract 3 s.size).size = s.size) := by show _ = _; omega
      clear HZ hux hts
      go_enter Oacg.func72, Oacg.ntmps72
      go_wp2_with fail
      refine (cut_any _ (by have := hTS.out; omega) 112 80 _).mono ?_
      rintro _ w1 ⟨⟨_, rfl, man, exp, f, rfl, hc1⟩, hb1⟩
      have HM1 := hide ((MW.start w).next hb1)
      have hn1 := hc1.len
      rw [bytes_length, bytes_length, bytes_length] at hn1
      have hms : man.size + exp.size ≤ s.size := by have := hTS.out; omega
      have HC1 := hide hc1
      have HN1 := hide hn1
      have hmsi : (man.size : Int) ≤ 1024 := by omega
      have hesi : (exp.size : Int) ≤ 1024 := by omega
      clear hc1 hb1 hn1 q43 q45 hem hz0 hl1 q48 q48' hl3 qX qX' ht
      go_wp2_with fail
      refine (cut_any _ (by omega) 46 46 _).mono ?_
      rintro _ w2 ⟨⟨_, rfl, ip, fp, f2, rfl, hc2⟩, hb2⟩
      have HM2 := hide (HM1.out.next hb2)
      have hn2 := hc2.len
      rw [bytes_length, bytes_length, bytes_length] at hn2
      have HC2 := hide hc2
      have hips : ip.size + fp.size ≤ man.size := hn2.1
      have hipi : (ip.size : Int) ≤ 1024 := by omega
      have hfpi : (fp.size : Int) ≤ 1024 := by omega
      clear HM1 hc2 hb2 hn2
      go_wp2_with fail
      refine (run_any _ (by omega) true _).mono ?_
      rintro _ w3 ⟨⟨n1, rfl, hr1⟩, hw3⟩
      obtain rfl := hw3.symm
      clear hw3
      have hn1l : n1 ≤ ip.size := hr1.1
      have HR1 := hide hr1
      clear hr1
      by_cases hn1 : n1 < ip.size
      · have t1 : decide ((n1 : Int) < (ip.size : Int)) = true := by simp; omega
        have P := p_ip (ng := true) HC1.out HC2.out HR1.out hn1
        have hPl := P.2
        rw [bytes_length] at hPl
        have HPL : Hid (3 + n1 ≤ s.size) := by show _ ≤ _; have := hTS.out; omega
        have HR := hide (ans_at hbig (bytes_tail s 3) hTS.out (HT.out.trans P.1) hPl (p := 3 + n1) rfl)
        clear hPl P HC1 HC2 HR1 HT hTS HN1
        go_wp2_with fail
        refine (wrong_int s hsz (3 + n1) HPL.out _ (by first | rfl | omega) _).mono ?_
        rintro _ w5 ⟨rfl, hb5⟩
        have hM := HM2.out.next hb5
        obtain ⟨hA0, hA1, hA2, hA3, hA4, hA5, hA6⟩ := hM.cells
        have HB := hide hM.bel
        clear hM hb5
        go_wp2
        simp [bodyPost, results, Oacg.results72, go_sem, hA0, hA1, hA2, hA3, hA4, hA5]
        exact ⟨HR.out, below_set6 HB.out (Nat.le_refl _) _ _ _ _ _ _⟩
      have t1 : decide ((n1 : Int) < (ip.size : Int)) = false := by simp; omega
      have HI := hide (HR1.out.full hn1).1
      clear HR1
      go_wp2_with fail
      refine (run_any _ (by omega) true _).mono ?_
      rintro _ w3 ⟨⟨n2, rfl, hr2⟩, hw3⟩
      obtain rfl := hw3.symm
      clear hw3
      have hn2l : n2 ≤ fp.size := hr2.1
      have HR2 := hide hr2
      clear hr2
      by_cases hn2 : n2 < fp.size
      · have t2 : decide ((n2 : Int) < (fp.size : Int)) = true := by simp; omega
        have P := p_fp (ng := true) HC1.out HC2.out HI.out HR2.out hn2
        have hPl := P.2
        rw [bytes_length] at hPl
        have HPL : Hid (3 + (ip.size + 1 + n2) ≤ s.size) := by show _ ≤ _; have := hTS.out; omega
        have HR := hide (ans_at hbig (bytes_tail s 3) hTS.out (HT.out.trans P.1) hPl (p := 3 + (ip.size + 1 + n2)) rfl)
        clear P HC1 HC2 HR2 HT hTS HN1 HI hPl
        go_wp2_with fail
        refine (wrong_int s hsz (3 + (ip.size + 1 + n2)) HPL.out _ (by first | rfl | omega) _).mono ?_
        rintro _ w5 ⟨rfl, hb5⟩
        have hM := HM2.out.next hb5
        obtain ⟨hA0, hA1, hA2, hA3, hA4, hA5, hA6⟩ := hM.cells
        have HB := hide hM.bel
        clear hM hb5
        go_wp2
        simp [bodyPost, results, Oacg.results72, go_sem, hA0, hA1, hA2, hA3, hA4, hA5]
        exact ⟨HR.out, below_set6 HB.out (Nat.le_refl _) _ _ _ _ _ _⟩
      have t2 : decide ((n2 : Int) < (fp.size : Int)) = false := by simp; omega
      have HF := hide (HR2.out.full hn2).1
      clear HR2
      have hcat : ip.size + fp.size ≤ 9223372036854775807 := by omega
      have happ : (ip ++ fp).size = ip.size + fp.size := by rw [← bytes_length, bytes_app, List.length_append, bytes_length, bytes_length]
      by_cases hz : ip.size + fp.size = 0
      · have t3 := isEmpty_zero (t := ip ++ fp) (by omega)
        have P := p_end (ng := true) HC1.out HC2.out HI.out HF.out (.inl (by apply List.eq_nil_of_length_eq_zero; rw [List.length_append, bytes_length, bytes_length]; exact hz))
        rw [bytes_length] at P
        have hPl := P.2
        rw [bytes_length] at hPl
        have HPL : Hid (3 + man.size ≤ s.size) := by show _ ≤ _; have := hTS.out; omega
        have HR := hide (ans_at hbig (bytes_tail s 3) hTS.out (HT.out.trans P.1) hPl (p := 3 + man.size) rfl)
        clear P HC1 HC2 HF HT hTS HN1 HI hPl happ
        go_wp2_with fail
        refine (wrong_int s hsz (3 + man.size) HPL.out _ (by first | rfl | omega) _).mono ?_
        rintro _ w5 ⟨rfl, hb5⟩
        have hM := HM2.out.next hb5
        obtain ⟨hA0, hA1, hA2, hA3, hA4, hA5, hA6⟩ := hM.cells
        have HB := hide hM.bel
        clear hM hb5
        go_wp2
        simp [bodyPost, results, Oacg.results72, go_sem, hA0, hA1, hA2, hA3, hA4, hA5]
        exact ⟨HR.out, below_set6 HB.out (Nat.le_refl _) _ _ _ _ _ _⟩
      have t3 := isEmpty_pos (t := ip ++ fp) (by omega)
      cases f with
      | false =>
        have P := p_end (ng := true) HC1.out HC2.out HI.out HF.out (.inr rfl)
        rw [bytes_length] at P
        have hPl := P.2
        rw [bytes_length] at hPl
        have HPL : Hid (3 + man.size ≤ s.size) := by show _ ≤ _; have := hTS.out; omega
        have HR := hide (ans_at hbig (bytes_tail s 3) hTS.out (HT.out.trans P.1) hPl (p := 3 + man.size) rfl)
        clear P HC1 HC2 HF HT hTS HN1 HI hPl happ
        go_wp2_with fail
        refine (wrong_int s hsz (3 + man.size) HPL.out _ (by first | rfl | omega) _).mono ?_
        rintro _ w5 ⟨rfl, hb5⟩
        have hM := HM2.out.next hb5
        obtain ⟨hA0, hA1, hA2, hA3, hA4, hA5, hA6⟩ := hM.cells
        have HB := hide hM.bel
        clear hM hb5
        go_wp2
        simp [bodyPost, results, Oacg.results72, go_sem, hA0, hA1, hA2, hA3, hA4, hA5]
        exact ⟨HR.out, below_set6 HB.out (Nat.le_refl _) _ _ _ _ _ _⟩
      | true =>
        have P := p_go (ng := true) HC1.out HC2.out HI.out HF.out (fun h => by have h' := congrArg List.length h; rw [List.length_append, bytes_length, bytes_length, List.length_nil] at h'; exact hz h') rfl
        rw [bytes_length, bytes_length, bytes_length] at P
        have HG := hide (HT.out.trans P.1)
        have HXB : Hid (bytes exp = (bytes s).drop (3 + man.size + 1)) := by show _ = _; rw [P.2.1, bytes_tail, List.drop_drop, Nat.add_assoc]
        have HXS : Hid (3 + man.size + 1 + exp.size = s.size) := by show _ = _; have := P.2.2; have := hTS.out; omega
        have HL : Hid True := trivial
        clear P HC1 HC2 HF HT hTS HN1 HI
        by_cases hx0 : 0 < exp.size
        rotate_left
        · replace hx0 : exp.size = 0 := by omega
          have hxe := isEmpty_zero hx0
          have hE : goS Sc.start (bytes s) = goS ⟨8, true, false, fp.size, 0, bytes ip ++ bytes fp⟩ (bytes exp) := HG.out
          have hEb : bytes exp = (bytes s).drop (3 + man.size + 1) := HXB.out
          have hEs : 3 + man.size + 1 + exp.size = s.size := by have := HXS.out; omega
          have h8 : ∀ (h : 0 < exp.size), sgnI (exp[0].toNat : Int) = false := fun h => by omega
          have HE := hide hE
          have HEb := hide hEb
          have HEs := hide hEs
          have H8 := hide h8
          clear hE hEb hEs h8 HG HXB HXS
          go_wp2_with fail
          refine (run_any exp (by have := HEs.out; omega) false _).mono ?_
          rintro _ w4 ⟨⟨m, rfl, hr4⟩, hw4⟩
          obtain rfl := hw4.symm
          clear hw4
          obtain ⟨e, hee⟩ : ∃ e, e = exp := ⟨_, rfl⟩
          subst hee
          have H8' := H8
          clear H8
          have hesz : (e.size : Int) ≤ 1024 := by have := HEs.out; omega
          have hml : m ≤ e.size := hr4.1
          have HR4 := hide hr4
          clear hr4
          have hm1 : ¬ m < e.size := by omega
          have t5 : decide ((m : Int) < (e.size : Int)) = false := by simp; omega
          have hm2 : m = 0 := by omega
          have t6 : ((m : Int) == 0) = true := by simp; omega
          have HPL : Hid (3 + man.size + 1 + m ≤ s.size) := by show _ ≤ _; have := HEs.out; omega
          have HR := hide (ans_at hbig HEb.out HEs.out (HE.out.trans (e_bad (st := 8) (by decide) HR4.out (.inr hm2) (fun _ => H8'.out))) hml (p := 3 + man.size + 1 + m) rfl)
          clear HE HEb HEs HR4 H8' hm2
          go_wp2_with fail
          refine (wrong_int s hsz (3 + man.size + 1 + m) HPL.out _ (by first | rfl | omega) _).mono ?_
          rintro _ w5 ⟨rfl, hb5⟩
          have hM := HM2.out.next hb5
          obtain ⟨hA0, hA1, hA2, hA3, hA4, hA5, hA6⟩ := hM.cells
          have HB := hide hM.bel
          clear hM hb5
          go_wp2
          simp [bodyPost, results, Oacg.results72, go_sem, hA0, hA1, hA2, hA3, hA4, hA5]
          exact ⟨HR.out, below_set6 HB.out (Nat.le_refl _) _ _ _ _ _ _⟩
        cases x45 : ((exp[0].toNat : Int) == 45) with
        | true =>
          have hxe := isEmpty_pos hx0
          have hx0i : (0 : Int) < (exp.size : Int) := by omega
          have hx1i : (1 : Int) ≤ (exp.size : Int) := by omega
          have hE : goS Sc.start (bytes s) = goS ⟨9, true, true, fp.size, 0, bytes ip ++ bytes fp⟩ (bytes (exp.extract 1 exp.size)) := by
            rw [HG.out, e_sgn hx0 (by simp only [sgnI, x45, Bool.or_true]), x45]
          have hes : (exp.extract 1 exp.size).size = exp.size - 1 := by rw [← bytes_length, bytes_tail, List.length_drop, bytes_length]
          have hEb : bytes (exp.extract 1 exp.size) = (bytes s).drop (3 + man.size + 1 + 1) := by rw [bytes_tail, HXB.out, List.drop_drop]
          have hEs : 3 + man.size + 1 + 1 + (exp.extract 1 exp.size).size = s.size := by have := HXS.out; omega
          have h8 : True := trivial
          have HE := hide hE
          have HEb := hide hEb
          have HEs := hide hEs
          have H8 := hide h8
          clear hE hEb hEs h8 HG HXB HXS
          go_wp2_with fail
          refine (run_any (exp.extract 1 exp.size) (by have := HEs.out; omega) false _).mono ?_
          rintro _ w4 ⟨⟨m, rfl, hr4⟩, hw4⟩
          obtain rfl := hw4.symm
          clear hw4
          obtain ⟨e, hee⟩ : ∃ e, (exp.extract 1 exp.size) = e := ⟨_, rfl⟩
          rw [hee] at HE HEb HEs hr4 ⊢
          have H8' : Hid True := H8
          clear H8 hee hes
          have hesz : (e.size : Int) ≤ 1024 := by have := HEs.out; omega
          have hml : m ≤ e.size := hr4.1
          have HR4 := hide hr4
          clear hr4
          by_cases hm1 : m < e.size
          · have t5 : decide ((m : Int) < (e.size : Int)) = true := by simp; omega
            have HPL : Hid (3 + man.size + 1 + 1 + m ≤ s.size) := by show _ ≤ _; have := HEs.out; omega
            have HR := hide (ans_at hbig HEb.out HEs.out (HE.out.trans (e_bad (st := 9) (by decide) HR4.out (.inl hm1) (fun h => absurd h (by decide)))) hml (p := 3 + man.size + 1 + 1 + m) rfl)
            clear HE HEb HEs HR4 H8'
            go_wp2_with fail
            refine (wrong_int s hsz (3 + man.size + 1 + 1 + m) HPL.out _ (by first | rfl | omega) _).mono ?_
            rintro _ w5 ⟨rfl, hb5⟩
            have hM := HM2.out.next hb5
            obtain ⟨hA0, hA1, hA2, hA3, hA4, hA5, hA6⟩ := hM.cells
            have HB := hide hM.bel
            clear hM hb5
            go_wp2
            simp [bodyPost, results, Oacg.results72, go_sem, hA0, hA1, hA2, hA3, hA4, hA5]
            exact ⟨HR.out, below_set6 HB.out (Nat.le_refl _) _ _ _ _ _ _⟩
          have t5 : decide ((m : Int) < (e.size : Int)) = false := by simp; omega
          by_cases hm2 : m = 0
          · have t6 : ((m : Int) == 0) = true := by simp; omega
            have HPL : Hid (3 + man.size + 1 + 1 + m ≤ s.size) := by show _ ≤ _; have := HEs.out; omega
            have HR := hide (ans_at hbig HEb.out HEs.out (HE.out.trans (e_bad (st := 9) (by decide) HR4.out (.inr hm2) (fun h => absurd h (by decide)))) hml (p := 3 + man.size + 1 + 1 + m) rfl)
            clear HE HEb HEs HR4 H8' hm2
            go_wp2_with fail
            refine (wrong_int s hsz (3 + man.size + 1 + 1 + m) HPL.out _ (by first | rfl | omega) _).mono ?_
            rintro _ w5 ⟨rfl, hb5⟩
            have hM := HM2.out.next hb5
            obtain ⟨hA0, hA1, hA2, hA3, hA4, hA5, hA6⟩ := hM.cells
            have HB := hide hM.bel
            clear hM hb5
            go_wp2
            simp [bodyPost, results, Oacg.results72, go_sem, hA0, hA1, hA2, hA3, hA4, hA5]
            exact ⟨HR.out, below_set6 HB.out (Nat.le_refl _) _ _ _ _ _ _⟩
          have t6 : ((m : Int) == 0) = false := by simp; omega
          have HO := hide (HE.out.trans (e_good (st := 9) (by decide) HR4.out hm1 hm2))
          have hdec : ∀ k, (hk : k < e.size) → 48 ≤ (e[k].toNat : Int) ∧ (e[k].toNat : Int) ≤ 57 := fun k hk => dec_at HR4.out hm1 hk
          have HDEC := hide hdec
          clear hdec HE HEb HEs HR4 H8'
          go_wp2_with fail
          go_loop [15, 16] (fun x i => ∃ k : Nat, i = .int .i64 (k : Int) ∧ k ≤ e.size ∧ x = .int .i64 ((satL 0 ((bytes e).take k) : Nat) : Int)) (fun _ i => e.size - (intOf i).toNat)
          case atStart => exact ⟨0, rfl, Nat.zero_le _, rfl⟩
          case round =>
            obtain ⟨k, rfl, hk, rfl⟩ := hrel
            by_cases hlt : k < e.size
            · have hlti : (k : Int) < (e.size : Int) := by omega
              obtain ⟨d1, d2⟩ := HDEC.out k hlt
              have hst := sat_step hlt
              have hif := sat_if (x := satL 0 ((bytes e).take k)) d1 d2
              have hxl : satL 0 ((bytes e).take k) ≤ 1000000 := satL_le _ _ (by decide)
              rw [← hst] at hif
              generalize satL 0 ((bytes e).take k) = x at *
              obtain ⟨c, hc⟩ : ∃ c : Int, (e[k].toNat : Int) = c := ⟨_, rfl⟩
              rw [hc] at d1 d2 hif
              have w8 : IntKind.u8.wrap (c - 48) = c - 48 := by simp [IntKind.wrap, IntKind.bits, IntKind.signed]; omega
              have w64 : IntKind.i64.wrap (c - 48) = c - 48 := by simp [IntKind.wrap, IntKind.bits, IntKind.signed]; split <;> omega
              have w10 : IntKind.i64.wrap (10 * (x : Int)) = 10 * (x : Int) := by simp [IntKind.wrap, IntKind.bits, IntKind.signed]; split <;> omega
              have wa : IntKind.i64.wrap (10 * (x : Int) + (c - 48)) = 10 * (x : Int) + (c - 48) := by simp [IntKind.wrap, IntKind.bits, IntKind.signed]; split <;> omega
              have HIF := hide hif
              clear hst hif d1 d2 HDEC HO HL HM2 hxl
              by_cases hcm : (1000000 : Int) < 10 * (x : Int) + (c - 48)
              · have h2 := hide (HIF.out.trans (if_pos hcm))
                go_wp2
                exact ⟨⟨k + 1, int_succ k, hlt, by rw [h2.out]⟩, meas hlt⟩
              · have h2 := hide (HIF.out.trans (if_neg hcm))
                go_wp2
                exact ⟨⟨k + 1, int_succ k, hlt, by rw [h2.out]⟩, meas hlt⟩
            · have hke : k = e.size := by omega
              have htk : (bytes e).take k = bytes e := List.take_of_length_le (by rw [bytes_length]; omega)
              rw [htk]
              have hxl : satL 0 (bytes e) ≤ 1000000 := satL_le _ _ (by decide)
              have hki : ¬ (k : Int) < (e.size : Int) := by omega
              generalize satL 0 (bytes e) = x at *
              clear HDEC htk hke hk hlt
              obtain ⟨y, hy⟩ : ∃ y : Int, y = -(x : Int) - 4 * (fp.size : Int) := ⟨_, rfl⟩
              have hyb : -1100000 ≤ y ∧ y ≤ 1100000 := by omega
              have HO' : Hid (goS Sc.start (bytes s) = .made true (bytes ip ++ bytes fp) y) := by
                show _ = _
                rw [HO.out, hy]; rfl
              have w4 : IntKind.i64.wrap (4 * (fp.size : Int)) = 4 * (fp.size : Int) := by simp [IntKind.wrap, IntKind.bits, IntKind.signed]; split <;> omega
              have wn : IntKind.i64.wrap (-(x : Int)) = -(x : Int) := by simp [IntKind.wrap, IntKind.bits, IntKind.signed]; split <;> omega
              have wy : IntKind.i64.wrap y = y := by simp [IntKind.wrap, IntKind.bits, IntKind.signed]; split <;> omega
              have hpb := bytes_app ip fp
              have hps : ((ip ++ fp).size : Int) ≤ 140737488355328 := by rw [← bytes_length, hpb, List.length_append, bytes_length, bytes_length]; omega
              have HMK := hide (fun wx => make_any true (ip ++ fp) y (by omega) (by omega) hps wx)
              have HLL := hide (fun u v hm hs => ans_made (u := u) (v := v) hbig HO'.out hpb hm hs)
              have hy' := hy.symm
              clear HO HO' hpb hps hy HL
              go_wp2_with fail
              refine (HMK.out _).mono ?_
              rintro _ w6 ⟨⟨v, rfl, hm6⟩, hx6⟩
              obtain ⟨n', t', x', ok, rfl⟩ := made_shape hm6
              have hM := HM2.out.next hx6.below
              obtain ⟨hA0, hA1, hA2, hA3, hA4, hA5, hA6⟩ := hM.cells
              have hy1 : w.heap.size < w6.heap.size := lt_of_obj hM.res
              have HB := hide hM.bel
              have HMm := hide hm6
              clear hM hx6 hm6 HM2 HMK
              cases ok
              · have HR := hide (HLL.out _ tooBig HMm.out (.bad _ _ _))
                clear HLL HMm
                go_wp2
                simp [bodyPost, results, Oacg.results72, go_sem, hA0, hA1, hA2, hA3, hA4, hA5, hy1]
                exact ⟨HR.out, end_below HB.out _ _ _ _ _ _ _ _ _⟩
              · have HR := hide (HLL.out _ (scanV 0 n' t' x' 0 0) HMm.out (.good _ _ _))
                clear HLL HMm
                go_wp2
                simp [bodyPost, results, Oacg.results72, go_sem, hA0, hA1, hA2, hA3, hA4, hA5, hy1]
                exact ⟨HR.out, end_below HB.out _ _ _ _ _ _ _ _ _⟩
        | false =>
          cases x43 : ((exp[0].toNat : Int) == 43) with
          | true =>
            have hxe := isEmpty_pos hx0
            have hx0i : (0 : Int) < (exp.size : Int) := by omega
            have hx1i : (1 : Int) ≤ (exp.size : Int) := by omega
            have hE : goS Sc.start (bytes s) = goS ⟨9, true, false, fp.size, 0, bytes ip ++ bytes fp⟩ (bytes (exp.extract 1 exp.size)) := by
              rw [HG.out, e_sgn hx0 (by simp only [sgnI, x43, Bool.true_or]), x45]
            have hes : (exp.extract 1 exp.size).size = exp.size - 1 := by rw [← bytes_length, bytes_tail, List.length_drop, bytes_length]
            have hEb : bytes (exp.extract 1 exp.size) = (bytes s).drop (3 + man.size + 1 + 1) := by rw [bytes_tail, HXB.out, List.drop_drop]
            have hEs : 3 + man.size + 1 + 1 + (exp.extract 1 exp.size).size = s.size := by have := HXS.out; omega
            have h8 : True := trivial
            have HE := hide hE
            have HEb := hide hEb
            have HEs := hide hEs
            have H8 := hide h8
            clear hE hEb hEs h8 HG HXB HXS
            go_wp2_with fail
            refine (run_any (exp.extract 1 exp.size) (by have := HEs.out; omega) false _).mono ?_
            rintro _ w4 ⟨⟨m, rfl, hr4⟩, hw4⟩
            obtain rfl := hw4.symm
            clear hw4
            obtain ⟨e, hee⟩ : ∃ e, (exp.extract 1 exp.size) = e := ⟨_, rfl⟩
            rw [hee] at HE HEb HEs hr4 ⊢
            have H8' : Hid True := H8
            clear H8 hee hes
            have hesz : (e.size : Int) ≤ 1024 := by have := HEs.out; omega
            have hml : m ≤ e.size := hr4.1
            have HR4 := hide hr4
            clear hr4
            by_cases hm1 : m < e.size
            · have t5 : decide ((m : Int) < (e.size : Int)) = true := by simp; omega
              have HPL : Hid (3 + man.size + 1 + 1 + m ≤ s.size) := by show _ ≤ _; have := HEs.out; omega
              have HR := hide (ans_at hbig HEb.out HEs.out (HE.out.trans (e_bad (st := 9) (by decide) HR4.out (.inl hm1) (fun h => absurd h (by decide)))) hml (p := 3 + man.size + 1 + 1 + m) rfl)
              clear HE HEb HEs HR4 H8'
              go_wp2_with fail
              refine (wrong_int s hsz (3 + man.size + 1 + 1 + m) HPL.out _ (by first | rfl | omega) _).mono ?_
              rintro _ w5 ⟨rfl, hb5⟩
              have hM := HM2.out.next hb5
              obtain ⟨hA0, hA1, hA2, hA3, hA4, hA5, hA6⟩ := hM.cells
              have HB := hide hM.bel
              clear hM hb5
              go_wp2
              simp [bodyPost, results, Oacg.results72, go_sem, hA0, hA1, hA2, hA3, hA4, hA5]
              exact ⟨HR.out, below_set6 HB.out (Nat.le_refl _) _ _ _ _ _ _⟩
            have t5 : decide ((m : Int) < (e.size : Int)) = false := by simp; omega
            by_cases hm2 : m = 0
            · have t6 : ((m : Int) == 0) = true := by simp; omega
              have HPL : Hid (3 + man.size + 1 + 1 + m ≤ s.size) := by show _ ≤ _; have := HEs.out; omega
              have HR := hide (ans_at hbig HEb.out HEs.out (HE.out.trans (e_bad (st := 9) (by decide) HR4.out (.inr hm2) (fun h => absurd h (by decide)))) hml (p := 3 + man.size + 1 + 1 + m) rfl)
              clear HE HEb HEs HR4 H8' hm2
              go_wp2_with fail
              refine (wrong_int s hsz (3 + man.size + 1 + 1 + m) HPL.out _ (by first | rfl | omega) _).mono ?_
              rintro _ w5 ⟨rfl, hb5⟩
              have hM := HM2.out.next hb5
              obtain ⟨hA0, hA1, hA2, hA3, hA4, hA5, hA6⟩ := hM.cells
              have HB := hide hM.bel
              clear hM hb5
              go_wp2
              simp [bodyPost, results, Oacg.results72, go_sem, hA0, hA1, hA2, hA3, hA4, hA5]
              exact ⟨HR.out, below_set6 HB.out (Nat.le_refl _) _ _ _ _ _ _⟩
            have t6 : ((m : Int) == 0) = false := by simp; omega
            have HO := hide (HE.out.trans (e_good (st := 9) (by decide) HR4.out hm1 hm2))
            have hdec : ∀ k, (hk : k < e.size) → 48 ≤ (e[k].toNat : Int) ∧ (e[k].toNat : Int) ≤ 57 := fun k hk => dec_at HR4.out hm1 hk
            have HDEC := hide hdec
            clear hdec HE HEb HEs HR4 H8'
            go_wp2_with fail
            go_loop [15, 16] (fun x i => ∃ k : Nat, i = .int .i64 (k : Int) ∧ k ≤ e.size ∧ x = .int .i64 ((satL 0 ((bytes e).take k) : Nat) : Int)) (fun _ i => e.size - (intOf i).toNat)
            case atStart => exact ⟨0, rfl, Nat.zero_le _, rfl⟩
            case round =>
              obtain ⟨k, rfl, hk, rfl⟩ := hrel
              by_cases hlt : k < e.size
              · have hlti : (k : Int) < (e.size : Int) := by omega
                obtain ⟨d1, d2⟩ := HDEC.out k hlt
                have hst := sat_step hlt
                have hif := sat_if (x := satL 0 ((bytes e).take k)) d1 d2
                have hxl : satL 0 ((bytes e).take k) ≤ 1000000 := satL_le _ _ (by decide)
                rw [← hst] at hif
                generalize satL 0 ((bytes e).take k) = x at *
                obtain ⟨c, hc⟩ : ∃ c : Int, (e[k].toNat : Int) = c := ⟨_, rfl⟩
                rw [hc] at d1 d2 hif
                have w8 : IntKind.u8.wrap (c - 48) = c - 48 := by simp [IntKind.wrap, IntKind.bits, IntKind.signed]; omega
                have w64 : IntKind.i64.wrap (c - 48) = c - 48 := by simp [IntKind.wrap, IntKind.bits, IntKind.signed]; split <;> omega
                have w10 : IntKind.i64.wrap (10 * (x : Int)) = 10 * (x : Int) := by simp [IntKind.wrap, IntKind.bits, IntKind.signed]; split <;> omega
                have wa : IntKind.i64.wrap (10 * (x : Int) + (c - 48)) = 10 * (x : Int) + (c - 48) := by simp [IntKind.wrap, IntKind.bits, IntKind.signed]; split <;> omega
                have HIF := hide hif
                clear hst hif d1 d2 HDEC HO HL HM2 hxl
                by_cases hcm : (1000000 : Int) < 10 * (x : Int) + (c - 48)
                · have h2 := hide (HIF.out.trans (if_pos hcm))
                  go_wp2
                  exact ⟨⟨k + 1, int_succ k, hlt, by rw [h2.out]⟩, meas hlt⟩
                · have h2 := hide (HIF.out.trans (if_neg hcm))
                  go_wp2
                  exact ⟨⟨k + 1, int_succ k, hlt, by rw [h2.out]⟩, meas hlt⟩
              · have hke : k = e.size := by omega
                have htk : (bytes e).take k = bytes e := List.take_of_length_le (by rw [bytes_length]; omega)
                rw [htk]
                have hxl : satL 0 (bytes e) ≤ 1000000 := satL_le _ _ (by decide)
                have hki : ¬ (k : Int) < (e.size : Int) := by omega
                generalize satL 0 (bytes e) = x at *
                clear HDEC htk hke hk hlt
                obtain ⟨y, hy⟩ : ∃ y : Int, y = (x : Int) - 4 * (fp.size : Int) := ⟨_, rfl⟩
                have hyb : -1100000 ≤ y ∧ y ≤ 1100000 := by omega
                have HO' : Hid (goS Sc.start (bytes s) = .made true (bytes ip ++ bytes fp) y) := by
                  show _ = _
                  rw [HO.out, hy]; rfl
                have w4 : IntKind.i64.wrap (4 * (fp.size : Int)) = 4 * (fp.size : Int) := by simp [IntKind.wrap, IntKind.bits, IntKind.signed]; split <;> omega
                have wn : IntKind.i64.wrap (-(x : Int)) = -(x : Int) := by simp [IntKind.wrap, IntKind.bits, IntKind.signed]; split <;> omega
                have wy : IntKind.i64.wrap y = y := by simp [IntKind.wrap, IntKind.bits, IntKind.signed]; split <;> omega
                have hpb := bytes_app ip fp
                have hps : ((ip ++ fp).size : Int) ≤ 140737488355328 := by rw [← bytes_length, hpb, List.length_append, bytes_length, bytes_length]; omega
                have HMK := hide (fun wx => make_any true (ip ++ fp) y (by omega) (by omega) hps wx)
                have HLL := hide (fun u v hm hs => ans_made (u := u) (v := v) hbig HO'.out hpb hm hs)
                have hy' := hy.symm
                clear HO HO' hpb hps hy HL
                go_wp2_with fail
                refine (HMK.out _).mono ?_
                rintro _ w6 ⟨⟨v, rfl, hm6⟩, hx6⟩
                obtain ⟨n', t', x', ok, rfl⟩ := made_shape hm6
                have hM := HM2.out.next hx6.below
                obtain ⟨hA0, hA1, hA2, hA3, hA4, hA5, hA6⟩ := hM.cells
                have hy1 : w.heap.size < w6.heap.size := lt_of_obj hM.res
                have HB := hide hM.bel
                have HMm := hide hm6
                clear hM hx6 hm6 HM2 HMK
                cases ok
                · have HR := hide (HLL.out _ tooBig HMm.out (.bad _ _ _))
                  clear HLL HMm
                  go_wp2
                  simp [bodyPost, results, Oacg.results72, go_sem, hA0, hA1, hA2, hA3, hA4, hA5, hy1]
                  exact ⟨HR.out, end_below HB.out _ _ _ _ _ _ _ _ _⟩
                · have HR := hide (HLL.out _ (scanV 0 n' t' x' 0 0) HMm.out (.good _ _ _))
                  clear HLL HMm
                  go_wp2
                  simp [bodyPost, results, Oacg.results72, go_sem, hA0, hA1, hA2, hA3, hA4, hA5, hy1]
                  exact ⟨HR.out, end_below HB.out _ _ _ _ _ _ _ _ _⟩
          | false =>
            have hxe := isEmpty_pos hx0
            have hx0i : (0 : Int) < (exp.size : Int) := by omega
            have hE : goS Sc.start (bytes s) = goS ⟨8, true, false, fp.size, 0, bytes ip ++ bytes fp⟩ (bytes exp) := HG.out
            have hEb : bytes exp = (bytes s).drop (3 + man.size + 1) := HXB.out
            have hEs : 3 + man.size + 1 + exp.size = s.size := by have := HXS.out; omega
            have h8 : ∀ (h : 0 < exp.size), sgnI (exp[0].toNat : Int) = false := fun h => by simp only [sgnI, x43, x45]; rfl
            have HE := hide hE
            have HEb := hide hEb
            have HEs := hide hEs
            have H8 := hide h8
            clear hE hEb hEs h8 HG HXB HXS
            go_wp2_with fail
            refine (run_any exp (by have := HEs.out; omega) false _).mono ?_
            rintro _ w4 ⟨⟨m, rfl, hr4⟩, hw4⟩
            obtain rfl := hw4.symm
            clear hw4
            obtain ⟨e, hee⟩ : ∃ e, e = exp := ⟨_, rfl⟩
            subst hee
            have H8' := H8
            clear H8
            have hesz : (e.size : Int) ≤ 1024 := by have := HEs.out; omega
            have hml : m ≤ e.size := hr4.1
            have HR4 := hide hr4
            clear hr4
            by_cases hm1 : m < e.size
            · have t5 : decide ((m : Int) < (e.size : Int)) = true := by simp; omega
              have HPL : Hid (3 + man.size + 1 + m ≤ s.size) := by show _ ≤ _; have := HEs.out; omega
              have HR := hide (ans_at hbig HEb.out HEs.out (HE.out.trans (e_bad (st := 8) (by decide) HR4.out (.inl hm1) (fun _ => H8'.out))) hml (p := 3 + man.size + 1 + m) rfl)
              clear HE HEb HEs HR4 H8'
              go_wp2_with fail
              refine (wrong_int s hsz (3 + man.size + 1 + m) HPL.out _ (by first | rfl | omega) _).mono ?_
              rintro _ w5 ⟨rfl, hb5⟩
              have hM := HM2.out.next hb5
              obtain ⟨hA0, hA1, hA2, hA3, hA4, hA5, hA6⟩ := hM.cells
              have HB := hide hM.bel
              clear hM hb5
              go_wp2
              simp [bodyPost, results, Oacg.results72, go_sem, hA0, hA1, hA2, hA3, hA4, hA5]
              exact ⟨HR.out, below_set6 HB.out (Nat.le_refl _) _ _ _ _ _ _⟩
            have t5 : decide ((m : Int) < (e.size : Int)) = false := by simp; omega
            by_cases hm2 : m = 0
            · have t6 : ((m : Int) == 0) = true := by simp; omega
              have HPL : Hid (3 + man.size + 1 + m ≤ s.size) := by show _ ≤ _; have := HEs.out; omega
              have HR := hide (ans_at hbig HEb.out HEs.out (HE.out.trans (e_bad (st := 8) (by decide) HR4.out (.inr hm2) (fun _ => H8'.out))) hml (p := 3 + man.size + 1 + m) rfl)
              clear HE HEb HEs HR4 H8' hm2
              go_wp2_with fail
              refine (wrong_int s hsz (3 + man.size + 1 + m) HPL.out _ (by first | rfl | omega) _).mono ?_
              rintro _ w5 ⟨rfl, hb5⟩
              have hM := HM2.out.next hb5
              obtain ⟨hA0, hA1, hA2, hA3, hA4, hA5, hA6⟩ := hM.cells
              have HB := hide hM.bel
              clear hM hb5
              go_wp2
              simp [bodyPost, results, Oacg.results72, go_sem, hA0, hA1, hA2, hA3, hA4, hA5]
              exact ⟨HR.out, below_set6 HB.out (Nat.le_refl _) _ _ _ _ _ _⟩
            have t6 : ((m : Int) == 0) = false := by simp; omega
            have HO := hide (HE.out.trans (e_good (st := 8) (by decide) HR4.out hm1 hm2))
            have hdec : ∀ k, (hk : k < e.size) → 48 ≤ (e[k].toNat : Int) ∧ (e[k].toNat : Int) ≤ 57 := fun k hk => dec_at HR4.out hm1 hk
            have HDEC := hide hdec
            clear hdec HE HEb HEs HR4 H8'
            go_wp2_with fail
            go_loop [15, 16] (fun x i => ∃ k : Nat, i = .int .i64 (k : Int) ∧ k ≤ e.size ∧ x = .int .i64 ((satL 0 ((bytes e).take k) : Nat) : Int)) (fun _ i => e.size - (intOf i).toNat)
            case atStart => exact ⟨0, rfl, Nat.zero_le _, rfl⟩
            case round =>
              obtain ⟨k, rfl, hk, rfl⟩ := hrel
              by_cases hlt : k < e.size
              · have hlti : (k : Int) < (e.size : Int) := by omega
                obtain ⟨d1, d2⟩ := HDEC.out k hlt
                have hst := sat_step hlt
                have hif := sat_if (x := satL 0 ((bytes e).take k)) d1 d2
                have hxl : satL 0 ((bytes e).take k) ≤ 1000000 := satL_le _ _ (by decide)
                rw [← hst] at hif
                generalize satL 0 ((bytes e).take k) = x at *
                obtain ⟨c, hc⟩ : ∃ c : Int, (e[k].toNat : Int) = c := ⟨_, rfl⟩
                rw [hc] at d1 d2 hif
                have w8 : IntKind.u8.wrap (c - 48) = c - 48 := by simp [IntKind.wrap, IntKind.bits, IntKind.signed]; omega
                have w64 : IntKind.i64.wrap (c - 48) = c - 48 := by simp [IntKind.wrap, IntKind.bits, IntKind.signed]; split <;> omega
                have w10 : IntKind.i64.wrap (10 * (x : Int)) = 10 * (x : Int) := by simp [IntKind.wrap, IntKind.bits, IntKind.signed]; split <;> omega
                have wa : IntKind.i64.wrap (10 * (x : Int) + (c - 48)) = 10 * (x : Int) + (c - 48) := by simp [IntKind.wrap, IntKind.bits, IntKind.signed]; split <;> omega
                have HIF := hide hif
                clear hst hif d1 d2 HDEC HO HL HM2 hxl
                by_cases hcm : (1000000 : Int) < 10 * (x : Int) + (c - 48)
                · have h2 := hide (HIF.out.trans (if_pos hcm))
                  go_wp2
                  exact ⟨⟨k + 1, int_succ k, hlt, by rw [h2.out]⟩, meas hlt⟩
                · have h2 := hide (HIF.out.trans (if_neg hcm))
                  go_wp2
                  exact ⟨⟨k + 1, int_succ k, hlt, by rw [h2.out]⟩, meas hlt⟩
              · have hke : k = e.size := by omega
                have htk : (bytes e).take k = bytes e := List.take_of_length_le (by rw [bytes_length]; omega)
                rw [htk]
                have hxl : satL 0 (bytes e) ≤ 1000000 := satL_le _ _ (by decide)
                have hki : ¬ (k : Int) < (e.size : Int) := by omega
                generalize satL 0 (bytes e) = x at *
                clear HDEC htk hke hk hlt
                obtain ⟨y, hy⟩ : ∃ y : Int, y = (x : Int) - 4 * (fp.size : Int) := ⟨_, rfl⟩
                have hyb : -1100000 ≤ y ∧ y ≤ 1100000 := by omega
                have HO' : Hid (goS Sc.start (bytes s) = .made true (bytes ip ++ bytes fp) y) := by
                  show _ = _
                  rw [HO.out, hy]; rfl
                have w4 : IntKind.i64.wrap (4 * (fp.size : Int)) = 4 * (fp.size : Int) := by simp [IntKind.wrap, IntKind.bits, IntKind.signed]; split <;> omega
                have wn : IntKind.i64.wrap (-(x : Int)) = -(x : Int) := by simp [IntKind.wrap, IntKind.bits, IntKind.signed]; split <;> omega
                have wy : IntKind.i64.wrap y = y := by simp [IntKind.wrap, IntKind.bits, IntKind.signed]; split <;> omega
                have hpb := bytes_app ip fp
                have hps : ((ip ++ fp).size : Int) ≤ 140737488355328 := by rw [← bytes_length, hpb, List.length_append, bytes_length, bytes_length]; omega
                have HMK := hide (fun wx => make_any true (ip ++ fp) y (by omega) (by omega) hps wx)
                have HLL := hide (fun u v hm hs => ans_made (u := u) (v := v) hbig HO'.out hpb hm hs)
                have hy' := hy.symm
                clear HO HO' hpb hps hy HL
                go_wp2_with fail
                refine (HMK.out _).mono ?_
                rintro _ w6 ⟨⟨v, rfl, hm6⟩, hx6⟩
                obtain ⟨n', t', x', ok, rfl⟩ := made_shape hm6
                have hM := HM2.out.next hx6.below
                obtain ⟨hA0, hA1, hA2, hA3, hA4, hA5, hA6⟩ := hM.cells
                have hy1 : w.heap.size < w6.heap.size := lt_of_obj hM.res
                have HB := hide hM.bel
                have HMm := hide hm6
                clear hM hx6 hm6 HM2 HMK
                cases ok
                · have HR := hide (HLL.out _ tooBig HMm.out (.bad _ _ _))
                  clear HLL HMm
                  go_wp2
                  simp [bodyPost, results, Oacg.results72, go_sem, hA0, hA1, hA2, hA3, hA4, hA5, hy1]
                  exact ⟨HR.out, end_below HB.out _ _ _ _ _ _ _ _ _⟩
                · have HR := hide (HLL.out _ (scanV 0 n' t' x' 0 0) HMm.out (.good _ _ _))
                  clear HLL HMm
                  go_wp2
                  simp [bodyPost, results, Oacg.results72, go_sem, hA0, hA1, hA2, hA3, hA4, hA5, hy1]
                  exact ⟨HR.out, end_below HB.out _ _ _ _ _ _ _ _ _⟩
end Go.Proofs.Ygcoac
