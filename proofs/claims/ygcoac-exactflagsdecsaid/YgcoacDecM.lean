/-
  dec.Make: what kind of answer it gives.
-/
import Derived.Test.YgcoacHexA
import Derived.Laws.IdiomStrings
import Derived.Laws.Strings2
namespace Go.Proofs.Ygcoac
open Go.RowKit
set_option linter.unusedSimpArgs false
set_option linter.unusedVariables false

def decV (n : Bool) (t : ByteArray) (x : Int) : Value := .agg #[.bool n, .string t, .int .i16 x]
def decR (n : Bool) (t : ByteArray) (x : Int) (ok : Bool) : Value := .tuple #[.agg #[.bool n, .string t, .int .i16 x], .bool ok]
def DecMade (s : ByteArray) (v : Value) : Prop := ∃ n t x ok, v = decR n t x ok ∧ t.size ≤ s.size ∧ -32768 ≤ x ∧ x ≤ 32767
theorem dec_cells {w wr : World} {a b c : Value} {t : TypeId} (h : Ext (w.alloc (.cells #[a, b, c] t)) wr) :
    wr.cell? ⟨w.heap.size, 0, none⟩ = some a ∧ wr.cell? ⟨w.heap.size, 1, none⟩ = some b ∧ wr.cell? ⟨w.heap.size, 2, none⟩ = some c ∧ ∀ o, wr.frozen? ⟨w.heap.size, o, none⟩ = false :=
  ⟨h.cell (by simp), h.cell (by simp), h.cell (by simp), fun i => by rw [h.froz]; exact World.frozen?_alloc_new _ _ _ _⟩

set_option maxHeartbeats 2000000 in
set_option maxRecDepth 20000 in
theorem decMake_any (n : Bool) (s : ByteArray) (x : Int) (hx1 : -9223372036854775808 ≤ x) (hx2 : x ≤ 9223372036854775807) (hs : (s.size : Int) ≤ 140737488355328) (w : World) :
    Calls Oacg.prog 60 #[.bool n, .string s, .int .i64 x] w fun r w' => (∃ v, r = .returned v ∧ DecMade s v) ∧ Ext w w' := by
  go_enter Oacg.func60, Oacg.ntmps60
  go_wp2
  go_loopw [8, 9, 10] (fun vf ve vi wr => ∃ (k f e : Nat), vf = .int .i64 (f : Int) ∧ ve = .int .i64 (e : Int) ∧ vi = .int .i64 (k : Int) ∧ k ≤ s.size ∧ f ≤ s.size ∧ e ≤ k ∧ (e = 0 ∨ f < e) ∧ (e ≠ 0 ∨ f = s.size) ∧
      Ext (w.alloc (.cells #[.bool false, .string ⟨#[]⟩, .int .i16 0] 72)) wr) (fun _ _ i _ => s.size - (intOf i).toNat)
  case atStart =>
    exact ⟨0, s.size, 0, rfl, rfl, rfl, Nat.zero_le _, Nat.le_refl _, Nat.le_refl _, .inl rfl, .inr rfl, Ext.refl _⟩
  case round =>
    rename_i wr
    obtain ⟨k, f, e, rfl, rfl, rfl, hk, hf, he, hfe, hfe2, hext⟩ := hrel
    have hextw : Ext w wr := ((Ext.refl w).alloc _ _).trans hext
    obtain ⟨hA0, hA1, hA2, hA3⟩ := dec_cells hext
    have hend : ∀ (u0 u1 u2 : Value), Ext w (((wr.setCell ⟨w.heap.size, 0, none⟩ u0).setCell ⟨w.heap.size, 1, none⟩ u1).setCell ⟨w.heap.size, 2, none⟩ u2) := fun u0 u1 u2 =>
        ((hextw.setCell (Nat.le_refl _) _).setCell (Nat.le_refl _) _).setCell (Nat.le_refl _) _
    have hbad : Hid (DecMade s (decR false ⟨#[]⟩ 0 false)) := ⟨_, _, _, _, rfl, Nat.zero_le _, by decide, by decide⟩
    have hzero : Hid (DecMade s (decR n ⟨#[]⟩ 0 true)) := ⟨_, _, _, _, rfl, Nat.zero_le _, by decide, by decide⟩
    by_cases hlt : k < s.size
    · obtain ⟨c, hc⟩ : ∃ c : Nat, s[k].toNat = c := ⟨_, rfl⟩
      have hcb : c < 256 := by rw [← hc]; exact s[k].toNat_lt
      by_cases h1 : c < 48
      · have t1 : decide ((c : Int) < 48) = true := by simp; omega
        clear h1 hcb hfe hfe2
        go_wp2
        refine bodyPost_ret (v := decR false ⟨#[]⟩ 0 false) (by rw [results_cell_tmp rfl]; go_simp; rfl) rfl ⟨⟨_, rfl, hbad.out⟩, hend _ _ _⟩
      · have t1 : decide ((c : Int) < 48) = false := by simp; omega
        by_cases h2 : 57 < c
        · have t2 : decide ((57 : Int) < (c : Int)) = true := by simp; omega
          clear h1 h2 hcb hfe hfe2
          go_wp2
          refine bodyPost_ret (v := decR false ⟨#[]⟩ 0 false) (by rw [results_cell_tmp rfl]; go_simp; rfl) rfl ⟨⟨_, rfl, hbad.out⟩, hend _ _ _⟩
        · have t2 : decide ((57 : Int) < (c : Int)) = false := by simp; omega
          by_cases h3 : c = 48
          · have t3 : ((c : Int) != 48) = false := by simp; omega
            clear h1 h2 h3 hcb
            go_wp2
            exact ⟨⟨k + 1, f, e, rfl, rfl, by simp, by omega, hf, by omega, hfe, hfe2, hext⟩, by simp [intOf]; omega⟩
          · have t3 : ((c : Int) != 48) = true := by simp; omega
            clear h1 h2 h3 hcb
            rcases Nat.lt_or_ge k f with hfk | hfk
            · go_wp2
              exact ⟨⟨k + 1, k, k + 1, rfl, by simp, by simp, by omega, by omega, by omega, .inr (by omega), .inl (by omega), hext⟩, by simp [intOf]; omega⟩
            · have hfk' : (f : Int) ≤ (k : Int) := by omega
              have hmin : (if (k : Int) < (f : Int) then (k : Int) else (f : Int)) = (f : Int) := by rw [if_neg (by omega)]
              go_wp2
              exact ⟨⟨k + 1, f, k + 1, rfl, by simp, by simp, by omega, hf, by omega, .inr (by omega), .inl (by omega), hext⟩, by simp [intOf]; omega⟩
    · have hke : k = s.size := by omega
      subst hke
      clear hextw hext
      rcases Nat.eq_zero_or_pos e with he0 | he0
      · subst he0
        clear hfe hfe2
        go_wp2
        refine bodyPost_ret (v := decR n ⟨#[]⟩ 0 true) (by rw [results_cell_tmp rfl]; go_simp; rfl) rfl ⟨⟨_, rfl, hzero.out⟩, hend _ _ _⟩
      · have het : ((e : Int) == 0) = false := by simp; omega
        have hdf : f < e := by omega
        obtain ⟨q, hq⟩ : ∃ q : Nat, (s.size : Int) - (e : Int) = (q : Int) := ⟨s.size - e, by omega⟩
        obtain ⟨d, hd⟩ : ∃ d : Nat, (e : Int) - (f : Int) = (d : Int) := ⟨e - f, by omega⟩
        have hqb : (q : Int) ≤ 562949953421312 := by omega
        clear hfe hfe2
        by_cases hd8 : (800 : Int) < (d : Int)
        · have u1 : decide ((800 : Int) < (d : Int)) = true := by simp; omega
          clear hd8
          go_wp2
          refine bodyPost_ret (v := decR false ⟨#[]⟩ 0 false) (by rw [results_cell_tmp rfl]; go_simp; rfl) rfl ⟨⟨_, rfl, hbad.out⟩, hend _ _ _⟩
        · have u1 : decide ((800 : Int) < (d : Int)) = false := by simp; omega
          by_cases hx3 : (2000 : Int) < x
          · have u2 : decide ((2000 : Int) < x) = true := by simp; omega
            clear hd8 hx3
            go_wp2
            refine bodyPost_ret (v := decR false ⟨#[]⟩ 0 false) (by rw [results_cell_tmp rfl]; go_simp; rfl) rfl ⟨⟨_, rfl, hbad.out⟩, hend _ _ _⟩
          · have u2 : decide ((2000 : Int) < x) = false := by simp; omega
            obtain ⟨y, hy⟩ : ∃ y : Int, x + (q : Int) = y := ⟨_, rfl⟩
            have hyw : IntKind.i64.wrap y = y := by
              simp [IntKind.wrap, IntKind.bits, IntKind.signed]; split <;> omega
            by_cases hy3 : (2000 : Int) < y
            · have u3 : decide ((2000 : Int) < y) = true := by simp; omega
              clear hd8 hx3 hy3
              go_wp2
              refine bodyPost_ret (v := decR false ⟨#[]⟩ 0 false) (by rw [results_cell_tmp rfl]; go_simp; rfl) rfl ⟨⟨_, rfl, hbad.out⟩, hend _ _ _⟩
            · have u3 : decide ((2000 : Int) < y) = false := by simp; omega
              by_cases hy4 : y < (-2000 : Int)
              · have u4 : decide (y < (-2000 : Int)) = true := by simp; omega
                clear hd8 hx3 hy3 hy4
                go_wp2
                refine bodyPost_ret (v := decR false ⟨#[]⟩ 0 false) (by rw [results_cell_tmp rfl]; go_simp; rfl) rfl ⟨⟨_, rfl, hbad.out⟩, hend _ _ _⟩
              · have u4 : decide (y < (-2000 : Int)) = false := by simp; omega
                have hyw2 : IntKind.i16.wrap y = y := by
                  simp [IntKind.wrap, IntKind.bits, IntKind.signed]; split <;> omega
                have hyb : -32768 ≤ y ∧ y ≤ 32767 := by omega
                have HYB := hide hyb
                have hslc : ∀ wx : World, (Instr.slice 9 (.string s) (some (.int .i64 (f : Int))) (some (.int .i64 (e : Int))) none).run Oacg.prog wx = .ok (.string (s.extract f e)) wx := fun wx => by
                  have := run_slice_string (P := Oacg.prog) wx 9 s .i64 .i64 (f : Int) (e : Int) Oacg.underlying9 (by omega) (by omega) (by omega)
                  simpa using this
                have hmade : Hid (DecMade s (decR n (s.extract f e) y true)) := ⟨_, _, _, _, rfl, by rw [ByteArray.size_extract]; omega, HYB.out.1, HYB.out.2⟩
                have hdf' : (f : Int) ≤ (e : Int) := by omega
                clear hd8 hx3 hy3 hy4 hyb
                go_wp2
                refine bodyPost_ret (v := decR n (s.extract f e) y true) (by rw [results_cell_tmp rfl]; go_simp; rfl) rfl ⟨⟨_, rfl, hmade.out⟩, hend _ _ _⟩
end Go.Proofs.Ygcoac
