/-
  law.HexMake.
-/
import Derived.Test.YgcoacHexM
import Derived.Deep.QuietTactic
import Derived.BigQuiet
import Derived.Deep.RegionHeld3
namespace Go.Proofs.Ygcoac
open Go.RowKit
set_option linter.unusedSimpArgs false
set_option linter.unusedVariables false

theorem vAt_get {l : List UInt8} {j : Nat} (h : j < l.length) : vAt l j = hv ((l[j]).toNat : Int) := by
  unfold vAt; rw [List.getD_eq_getElem?_getD, List.getElem?_eq_getElem h]; rfl
theorem all_of {l : List UInt8} (h : ∀ j, j < l.length → 0 ≤ vAt l j) : l.all hexB = true := by
  rw [List.all_eq_true]
  intro b hb
  obtain ⟨j, hj, rfl⟩ := List.mem_iff_getElem.1 hb
  have := h j hj
  rw [vAt_get hj] at this
  simp [hexB, this]
theorem of_all {l : List UInt8} (h : l.all hexB = true) {j : Nat} (hj : j < l.length) : 0 ≤ vAt l j := by
  rw [vAt_get hj]
  have := List.all_eq_true.1 h _ (List.getElem_mem hj)
  simpa [hexB] using this

theorem hexMake_bad (n : Bool) (s : ByteArray) (x : Int) (hx1 : -9223372036854775808 ≤ x) (hx2 : x ≤ 9223372036854775807) (hs : (s.size : Int) ≤ 140737488355328) (w : World)
    (hb : (bytes s).all hexB = false) :
    Calls Oacg.prog 13 #[.bool n, .string s, .int .i64 x] w fun r w' => r = .returned (.bool true) ∧ Ext w w' := by
  go_enter Oacg.func13, Oacg.ntmps13
  go_wp2_with fail
  refine (make_any n s x hx1 hx2 hs _).mono ?_
  rintro r w1 ⟨⟨v, rfl, hm⟩, he⟩
  have hv : v = hexR false ⟨#[]⟩ 0 false := by
    have hno : ∀ f e, ¬ Spans (bytes s) (bytes s).length f e := fun f e h => by
      rw [all_of h.hex] at hb; cases hb
    cases hm with
    | bad => rfl
    | zero f h => exact absurd h (hno _ _)
    | over f e _ h => exact absurd h (hno _ _)
    | ok f e t _ h => exact absurd h (hno _ _)
  subst hv
  unfold hexR
  go_wp2_with (go_at_call 74; refine (isHex_any _ (by omega) _).mono ?_; rintro r w' ⟨rfl, rfl⟩)
  go_ret
  exact ⟨rfl, he.alloc _ _⟩

/-! ### A string's pieces -/
theorem size_of {t : ByteArray} {l : List UInt8} (h : bytes t = l) : t.size = l.length := by rw [← h, bytes_length]
theorem empty_of {t : ByteArray} (h : bytes t = []) : t = ⟨#[]⟩ := by
  cases t with
  | mk d => cases d with | mk l => simp only [bytes] at h; subst h; rfl

theorem isEmpty_of {t : ByteArray} {l : List UInt8} (h : bytes t = l) : t.toList.isEmpty = l.isEmpty := by rw [ByteArray.toList_eq, ← h]; rfl
theorem isEmpty_zero {t : ByteArray} (h : t.size = 0) : t.toList.isEmpty = true := by
  have := bytes_length t
  rw [isEmpty_of rfl, List.isEmpty_iff]; exact List.length_eq_zero_iff.1 (by omega)
theorem isEmpty_pos {t : ByteArray} (h : 0 < t.size) : t.toList.isEmpty = false := by
  have := bytes_length t
  rw [isEmpty_of rfl]
  cases hb : bytes t with
  | nil => rw [hb] at this; simp at this; omega
  | cons => rfl
theorem bytes_extract (t : ByteArray) (i j : Nat) : bytes (t.extract i j) = ((bytes t).take j).drop i := by
  simp [bytes, ByteArray.data_extract, List.extract_eq_take_drop, List.drop_take]
theorem hv_zero {c : Int} : hv c = 0 ↔ c = 48 := by
  unfold hv; split
  · omega
  · split
    · omega
    · split <;> omega
theorem byte_at {t : ByteArray} {l : List UInt8} (h : bytes t = l) {m : Nat} (hm : m < t.size) : hv (t[m].toNat : Int) = vAt l m := by
  have h1 := bytes_get t m hm
  rw [h] at h1
  unfold vAt
  rw [List.getD_eq_getElem?_getD, h1]; rfl
theorem vAt_take {l : List UInt8} {k m : Nat} (h : m < k) : vAt (l.take k) m = vAt l m := by
  unfold vAt
  rw [List.getD_eq_getElem?_getD, List.getElem?_take, if_pos h, List.getD_eq_getElem?_getD]
theorem vAt_drop (l : List UInt8) (i m : Nat) : vAt (l.drop i) m = vAt l (i + m) := by
  unfold vAt
  rw [List.getD_eq_getElem?_getD, List.getElem?_drop, List.getD_eq_getElem?_getD]

/-- The ways of a call of Make whose digits are digits. -/
def Ways (l : List UInt8) (n : Bool) (x : Int) (f e : Nat) (mn : Bool) (mt : ByteArray) (mx : Int) (mk : Bool) : Prop :=
  (e = 0 ∧ mn = n ∧ mt = ⟨#[]⟩ ∧ mx = 0 ∧ mk = true) ∨
  (0 < e ∧ (800 < (e : Int) - f ∨ 16000 < x ∨ 16000 < x + 4 * ((l.length : Int) - e) ∨ x + 4 * ((l.length : Int) - e) < -16000) ∧ mn = false ∧ mt = ⟨#[]⟩ ∧ mx = 0 ∧ mk = false) ∨
  (0 < e ∧ (e : Int) - f ≤ 800 ∧ x + 4 * ((l.length : Int) - e) ≤ 16000 ∧ -16000 ≤ x + 4 * ((l.length : Int) - e) ∧ mn = n ∧ mk = true ∧ mx = x + 4 * ((l.length : Int) - e) ∧
    ∃ t : List UInt8, mt = ⟨t.toArray⟩ ∧ (t.length : Int) = (e : Int) - f ∧ ∀ j, j < t.length → t[j]? = some (lowB (vAt l (f + j)).toNat))
theorem made_ways {l : List UInt8} {n : Bool} {x : Int} {v : Value} (hb : l.all hexB = true) (hm : Made l n x v) :
    ∃ f e mn mt mx mk, v = hexR mn mt mx mk ∧ Spans l l.length f e ∧ Ways l n x f e mn mt mx mk := by
  cases hm with
  | bad j hj hn => have := of_all hb hj; omega
  | zero f h => exact ⟨_, _, _, _, _, _, rfl, h, .inl ⟨rfl, rfl, rfl, rfl, rfl⟩⟩
  | over f e he h ho => exact ⟨_, _, _, _, _, _, rfl, h, .inr (.inl ⟨he, ho, rfl, rfl, rfl, rfl⟩)⟩
  | ok f e t he h h1 h2 h3 ht hl => exact ⟨_, _, _, _, _, _, rfl, h, .inr (.inr ⟨he, h1, h2, h3, rfl, rfl, rfl, t, rfl, ht, hl⟩)⟩

theorem int_succ (k : Nat) : Value.int .i64 ((k : Int) + 1) = .int .i64 ((k + 1 : Nat) : Int) := by simp
theorem meas {d k : Nat} (h : k < d) : d - (intOf (.int .i64 ((k : Int) + 1))).toNat < d - (intOf (.int .i64 (k : Int))).toNat := by
  simp [intOf]; omega
theorem lowB_fin : ∀ v : Fin 16, hv ((lowB v.val).toNat : Int) = (v.val : Int) ∧ ¬ (65 ≤ (lowB v.val).toNat ∧ (lowB v.val).toNat ≤ 70) := by decide
theorem lowB_hv {v : Int} (h0 : 0 ≤ v) (h1 : v ≤ 15) : hv ((lowB v.toNat).toNat : Int) = v ∧ ¬ (65 ≤ (lowB v.toNat).toNat ∧ (lowB v.toNat).toNat ≤ 70) := by
  obtain ⟨k, rfl⟩ := Int.eq_ofNat_of_zero_le h0
  exact lowB_fin ⟨k, by omega⟩
set_option maxHeartbeats 4000000 in
set_option maxRecDepth 20000 in
theorem hexMake_good (n : Bool) (s : ByteArray) (x : Int) (hx1 : -9223372036854775808 ≤ x) (hx2 : x ≤ 9223372036854775807) (hs : (s.size : Int) ≤ 140737488355328) (w : World)
    (hb : (bytes s).all hexB = true) :
    Calls Oacg.prog 13 #[.bool n, .string s, .int .i64 x] w fun r w' => r = .returned (.bool true) ∧ Ext w w' := by
  go_enter Oacg.func13, Oacg.ntmps13
  go_wp2_with fail
  refine (make_any n s x hx1 hx2 hs _).mono ?_
  rintro r w1 ⟨⟨v, rfl, hm⟩, he⟩
  obtain ⟨f, e, mn, mt, mx, mk, rfl, hsp, hm⟩ := made_ways hb hm
  have hes : e ≤ s.size := by
    rw [← bytes_length]
    rcases hsp.parts with ⟨_, h, _⟩ | ⟨_, h, _⟩ <;> omega
  have HM : Hid (Ways (bytes s) n x f e mn mt mx mk) := hm
  have HS : Hid (Spans (bytes s) (bytes s).length f e) := hsp
  have HX : Hid (-9223372036854775808 ≤ x ∧ x ≤ 9223372036854775807) := ⟨hx1, hx2⟩
  clear hm hsp hx1 hx2
  unfold hexR
  go_wp2_with (go_at_call 74; refine (isHex_any _ (by omega) _).mono ?_; rintro r w' ⟨rfl, rfl⟩)
  go_loop [9, 10] (fun z t => ∃ (k : Nat) (b : ByteArray), z = .int .i64 (4 * ((s.size : Int) - (k : Int))) ∧ t = .string b ∧ e ≤ k ∧ k ≤ s.size ∧ Hid (bytes b = (bytes s).take k))
    (fun z _ => (4 * (s.size : Int) - intOf z).toNat)
  case atStart => exact ⟨s.size, s, by simp, rfl, hes, Nat.le_refl _, by show _ = _; rw [List.take_of_length_le (by rw [bytes_length]; exact Nat.le_refl _)]⟩
  case round =>
    obtain ⟨k, b, rfl, rfl, hek, hk, hbk⟩ := hrel
    have hbs : b.size = k := by rw [size_of hbk.out, List.length_take, bytes_length]; omega
    rcases Nat.eq_or_lt_of_le hek with rfl | hlt
    · rcases e with _ | m
      · -- nothing but zeros
        have hemp := isEmpty_zero hbs
        have hw : mn = n ∧ mt = ⟨#[]⟩ ∧ mx = 0 ∧ mk = true := by
          rcases HM.out with ⟨_, h⟩ | ⟨h, _⟩ | ⟨h, _⟩
          · exact h
          · omega
          · omega
        obtain ⟨rfl, rfl, rfl, rfl⟩ := hw
        go_wp2_with fail
        go_loop [10] (fun t => t = .string b) (fun _ => 0)
        case atStart => rfl
        case round =>
          subst hrel
          go_wp2
          go_ret
          exact ⟨rfl, he.alloc _ _⟩
      · have hemp := isEmpty_pos (t := b) (by omega)
        have hne : ((b[m].toNat : Int) == 48) = false := by
          have h1 := byte_at hbk.out (show m < b.size by omega)
          rw [vAt_take (by omega)] at h1
          have h2 : 0 < vAt (bytes s) m := by
            rcases HS.out.parts with ⟨_, h, _⟩ | ⟨_, _, _, h, _⟩
            · omega
            · exact h
          simp only [beq_eq_false_iff_ne]
          intro h3
          rw [h3, show hv 48 = 0 from rfl] at h1
          omega
        have hsm : s.size = (bytes s).length := (bytes_length s).symm
        obtain ⟨hfe, hnf, hzf⟩ : f < m + 1 ∧ 0 < vAt (bytes s) f ∧ ∀ j, j < f → vAt (bytes s) j = 0 := by
          rcases HS.out.parts with ⟨_, h, _⟩ | ⟨h1, _, h3, _, h5, _⟩
          · omega
          · exact ⟨h1, h3, h5⟩
        have HZ : Hid (0 < vAt (bytes s) f ∧ ∀ j, j < f → vAt (bytes s) j = 0) := ⟨hnf, hzf⟩
        clear hnf hzf hsm
        go_wp2_with fail
        go_loop [10] (fun t => ∃ (i : Nat) (c : ByteArray), t = .string c ∧ i ≤ f ∧ Hid (bytes c = ((bytes s).take (m + 1)).drop i))
          (fun t => match t with | .string c => c.size | _ => 0)
        case atStart => exact ⟨0, b, rfl, Nat.zero_le _, hbk⟩
        case round =>
          obtain ⟨i, c, rfl, hif, hc⟩ := hrel
          obtain ⟨d, hd⟩ : ∃ d, d = m + 1 - i := ⟨_, rfl⟩
          have hcs : c.size = d := by rw [size_of hc.out, List.length_drop, List.length_take, bytes_length]; omega
          have h0c : 0 < c.size := by omega
          have HD : Hid (d = m + 1 - i) := hd
          clear hd
          have hce := isEmpty_pos (t := c) h0c
          have hc0 := byte_at hc.out h0c
          rw [vAt_drop, vAt_take (by omega)] at hc0
          rcases Nat.eq_or_lt_of_le hif with hif' | hif'
          · have hc1 : ((c[0].toNat : Int) == 48) = false := by
              simp only [beq_eq_false_iff_ne]
              intro h3
              have := HZ.out.1
              rw [h3, show hv 48 = 0 from rfl, hif', Nat.add_zero] at hc0
              omega
            have HC0 : Hid (hv ↑c[0].toNat = vAt (bytes s) (i + 0)) := hc0
            subst hif'
            obtain ⟨q, hq⟩ : ∃ q : Nat, (4 : Int) * ((s.size : Int) - ((m : Int) + 1)) = (q : Int) := ⟨4 * (s.size - (m + 1)), by omega⟩
            have hqb : (q : Int) ≤ 562949953421312 := by omega
            obtain ⟨hx1, hx2⟩ := HX.out
            obtain ⟨a1, ha1⟩ : ∃ a1 : Int, (16000 : Int) - (q : Int) = a1 := ⟨_, rfl⟩
            obtain ⟨a2, ha2⟩ : ∃ a2 : Int, (-16000 : Int) - (q : Int) = a2 := ⟨_, rfl⟩
            have hw1 : IntKind.i64.wrap a1 = a1 := by
              simp [IntKind.wrap, IntKind.bits, IntKind.signed]; split <;> omega
            have hw2 : IntKind.i64.wrap a2 = a2 := by
              simp [IntKind.wrap, IntKind.bits, IntKind.signed]; split <;> omega
            have hlq : x + 4 * (((bytes s).length : Int) - ((m + 1 : Nat) : Int)) = x + (q : Int) := by rw [bytes_length]; omega
            rcases HM.out with ⟨h, _⟩ | ⟨_, ho, rfl, rfl, rfl, rfl⟩ | ⟨_, h1, h2, h3, rfl, rfl, hmx, t, hmt, ht, hl⟩
            · omega
            · rw [hlq] at ho
              have hd := HD.out
              have ho' : 800 < (d : Int) ∨ (¬ 800 < (d : Int) ∧ a1 < x) ∨ (¬ 800 < (d : Int) ∧ ¬ a1 < x ∧ x < a2) := by omega
              clear ho hlq hx1 hx2 hqb hd hc0
              rcases ho' with h8 | ⟨h8, h9⟩ | ⟨h8, h9, h10⟩
              · have ht : decide ((800 : Int) < (d : Int)) = true := by simpa using h8
                clear h8
                go_wp2
                go_ret
                exact ⟨rfl, he.alloc _ _⟩
              · have ht : decide ((800 : Int) < (d : Int)) = false := by simpa using h8
                have ht2 : decide (a1 < x) = true := by simpa using h9
                clear h8 h9
                go_wp2
                go_ret
                exact ⟨rfl, he.alloc _ _⟩
              · have ht : decide ((800 : Int) < (d : Int)) = false := by simpa using h8
                have ht2 : decide (a1 < x) = false := by simpa using h9
                have ht3 : decide (x < a2) = true := by simpa using h10
                clear h8 h9 h10
                go_wp2
                go_ret
                exact ⟨rfl, he.alloc _ _⟩
            · rw [hlq] at hmx h2 h3
              have hd := HD.out
              have hbt : bytes mt = t := by rw [hmt]; rfl
              have hts : mt.size = d := by rw [size_of hbt]; omega
              have hw3 : IntKind.i64.wrap mx = mx := by
                simp [IntKind.wrap, IntKind.bits, IntKind.signed]; split <;> omega
              have hxq : x + (q : Int) = mx := hmx.symm
              have ht1 : decide ((800 : Int) < (d : Int)) = false := by simp; omega
              have ht2 : decide (a1 < x) = false := by simp; omega
              have ht3 : decide (x < a2) = false := by simp; omega
              have HL : Hid (∀ j, j < t.length → t[j]? = some (lowB (vAt (bytes s) (i + j)).toNat)) := hl
              have HT : Hid (bytes mt = t) := hbt
              clear hl hbt hmt hmx h1 h2 h3 hd hlq hx1 hx2 hqb ht hc0
              go_wp2_with fail
              go_loopw [11] (fun iv wr => ∃ k : Nat, iv = .int .i64 (k : Int) ∧ k ≤ d ∧ Ext (w1.alloc (.cells #[.bool mn, .string mt, .int .i16 mx] 103)) wr) (fun iv _ => d - (intOf iv).toNat)
              case atStart => exact ⟨0, rfl, Nat.zero_le _, Ext.refl _⟩
              case round =>
                rename_i wr
                obtain ⟨k, rfl, hkd, hex⟩ := hrel
                obtain ⟨hA0, hA1, hA2, hA3⟩ := hex_cells hex
                rcases Nat.eq_or_lt_of_le hkd with hkd' | hkd'
                · subst hkd'
                  go_wp2
                  go_ret
                  exact ⟨rfl, (he.alloc _ _).trans hex⟩
                · have hk1 : k < c.size := by omega
                  have hk2 : k < mt.size := by omega
                  have hkb : (k : Int) + 1 ≤ 140737488355328 := by have := HD.out; omega
                  have hck := byte_at hc.out hk1
                  rw [vAt_drop, vAt_take (by have := HD.out; omega)] at hck
                  have hvb := hv_bd (c[k].toNat : Int)
                  have hv0 : 0 ≤ vAt (bytes s) (i + k) := HS.out.hex _ (by have := HD.out; have := bytes_length s; omega)
                  have hmk : mt[k] = lowB (vAt (bytes s) (i + k)).toNat := by
                    have h1 := bytes_get mt k hk2
                    rw [HT.out, HL.out k (by rw [← HT.out, bytes_length]; exact hk2)] at h1
                    exact (Option.some.inj h1).symm
                  obtain ⟨hl1, hl2⟩ := lowB_hv hv0 (by rw [← hck]; exact hvb.2)
                  rw [← hmk] at hl1 hl2
                  have hv1 : hv (mt[k].toNat : Int) = hv (c[k].toNat : Int) := by rw [hl1, hck]
                  obtain ⟨g1, hg1⟩ : ∃ g1 : Int, hv (c[k].toNat : Int) = g1 := ⟨_, rfl⟩
                  rw [hg1] at hv1
                  obtain ⟨g2, hg2⟩ : ∃ g2 : Int, (mt[k].toNat : Int) = g2 := ⟨_, rfl⟩
                  have hl2' : ¬ ((65 : Int) ≤ g2 ∧ g2 ≤ 70) := by omega
                  rw [hg2] at hv1
                  clear hl1 hl2 hmk hv0 hvb hck
                  clear hw1 hw2 ha1 ha2 hq hw3 hxq ht1 ht2 ht3 HL HT HD HM HS HX HZ hb hbk hne hc HC0 hc1 hce hfe hif
                  by_cases h65 : (65 : Int) ≤ g2
                  · have ht6 : decide ((65 : Int) ≤ g2) = true := by simpa using h65
                    have ht7 : decide (g2 ≤ (70 : Int)) = false := by simp; omega
                    clear h65 hl2'
                    go_wp2_with fail
                    go_quiet ((go_at_call 75; exact Calls.quiet_of_same (hexValue_any _ _)))
                    go_wp2
                    exact ⟨⟨k + 1, int_succ k, hkd', hex.drewN _⟩, meas hkd'⟩
                  · have ht6 : decide ((65 : Int) ≤ g2) = false := by simpa using h65
                    clear h65 hl2'
                    go_wp2_with fail
                    go_quiet ((go_at_call 75; exact Calls.quiet_of_same (hexValue_any _ _)))
                    go_wp2
                    exact ⟨⟨k + 1, int_succ k, hkd', hex.drewN _⟩, meas hkd'⟩
          · have hc1 : ((c[0].toNat : Int) == 48) = true := by
              rw [HZ.out.2 _ (by omega)] at hc0
              simpa using hv_zero.1 hc0
            go_wp2_with fail
            refine ⟨⟨i + 1, _, rfl, by omega, ?_⟩, ?_⟩
            · show bytes (c.extract _ _) = _
              rw [bytes_extract, List.take_of_length_le (by rw [bytes_length, hcs]; exact Nat.le_refl _), hc.out, List.drop_drop]
            · show (c.extract _ _).size < c.size
              rw [size_of (bytes_extract _ _ _), List.length_drop, List.length_take, bytes_length]
              omega
    · obtain ⟨m, rfl⟩ : ∃ m, k = m + 1 := ⟨k - 1, by omega⟩
      have hemp := isEmpty_pos (t := b) (by omega)
      have hne : ((b[m].toNat : Int) == 48) = true := by
        have h1 := byte_at hbk.out (show m < b.size by omega)
        rw [vAt_take (by omega)] at h1
        have h2 : vAt (bytes s) m = 0 := by
          have := bytes_length s
          rcases HS.out.parts with ⟨_, _, h⟩ | ⟨_, _, _, _, _, h⟩
          · exact h m (by omega)
          · exact h m (by omega) (by omega)
        rw [h2] at h1
        simpa using hv_zero.1 h1
      go_wp2_with fail
      refine ⟨⟨m, _, ?_, rfl, by omega, by omega, ?_⟩, ?_⟩
      · congr 1; omega
      · show bytes (b.extract 0 _) = _
        rw [bytes_extract, hbk.out, List.take_take, List.drop_zero]
        congr 1; omega
      · simp [intOf]; omega

theorem hexMakeLaw_any (n : Bool) (s : ByteArray) (hs : (s.size : Int) ≤ 140737488355328) (x : Int) (hx : (Lit.int .i64 x).wf = true) (w : World) :
    Calls Oacg.prog 13 #[.bool n, .string s, .int .i64 x] w fun r w' => r = .returned (.bool true) ∧ Ext w w' := by
  have hx' : -9223372036854775808 ≤ x ∧ x ≤ 9223372036854775807 := by
    simp [Lit.wf, IntKind.min, IntKind.max, IntKind.signed, IntKind.bits] at hx; omega
  cases hb : (bytes s).all hexB with
  | true => exact hexMake_good n s x hx'.1 hx'.2 hs w hb
  | false => exact hexMake_bad n s x hx'.1 hx'.2 hs w hb
end Go.Proofs.Ygcoac
