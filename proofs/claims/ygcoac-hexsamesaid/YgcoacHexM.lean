/-
  hexa.Make.
-/
import Derived.Test.YgcoacHexA
import Derived.Laws.IdiomStrings
namespace Go.Proofs.Ygcoac
open Go.RowKit
set_option linter.unusedSimpArgs false
set_option linter.unusedVariables false

/-! ### The buffer of 2048 bytes -/
def bytesArr (L : List UInt8) : Array Value := (L.map (fun x : UInt8 => Value.int .u8 (x.toNat : Int))).toArray
def BufAt (w : World) (b : Nat) (L : List UInt8) : Prop := w.heap[b]? = some (.cells (bytesArr L) 157)
theorem bytesArr_get (L : List UInt8) (j : Nat) : (bytesArr L)[j]? = L[j]?.map (fun x : UInt8 => Value.int .u8 (x.toNat : Int)) := by
  simp [bytesArr]
theorem BufAt.lt {w : World} {b : Nat} {L : List UInt8} (h : BufAt w b L) : b < w.heap.size := by
  rcases Nat.lt_or_ge b w.heap.size with h' | h'
  · exact h'
  · unfold BufAt at h; rw [Array.getElem?_eq_none h'] at h; cases h
theorem BufAt.cell {w : World} {b : Nat} {L : List UInt8} (h : BufAt w b L) {j : Nat} {x : UInt8} (hj : L[j]? = some x) : w.cell? ⟨b, j, none⟩ = some (.int .u8 (x.toNat : Int)) := by
  unfold BufAt at h
  unfold World.cell?
  simp only [h, Option.isSome_none, Bool.false_eq_true, if_false, bytesArr_get, hj, Option.map_some]
theorem BufAt.frozen {w : World} {b : Nat} {L : List UInt8} (h : BufAt w b L) (j : Nat) : w.frozen? ⟨b, j, none⟩ = false := by
  unfold BufAt at h
  unfold World.frozen?
  simp [h]
theorem BufAt.set {w : World} {b : Nat} {L : List UInt8} (h : BufAt w b L) (j : Nat) (x : UInt8) (e : Int) (he : e = (x.toNat : Int)) : BufAt (w.setCell ⟨b, j, none⟩ (.int .u8 e)) b (L.set j x) := by
  subst he
  unfold BufAt at *
  simp only [World.setCell, Array.getElem?_modify, if_true, h, Option.map_some]
  congr 2
  simp [bytesArr, List.map_set]
def zeroBuf : List UInt8 := List.replicate 2048 0
theorem zeroBuf_length : zeroBuf.length = 2048 := by unfold zeroBuf; rw [List.length_replicate]
theorem zero157 : Oacg.zeroCells157 = bytesArr zeroBuf := by kernel_rfl
theorem BufAt.new (w : World) : BufAt (w.alloc (.cells Oacg.zeroCells157 157)) w.heap.size zeroBuf := by
  rw [zero157]
  unfold BufAt
  show (w.heap.push _)[w.heap.size]? = _
  simp

theorem hex_cells {w wr : World} {a b c : Value} (h : Ext (w.alloc (.cells #[a, b, c] 103)) wr) :
    wr.cell? ⟨w.heap.size, 0, none⟩ = some a ∧ wr.cell? ⟨w.heap.size, 1, none⟩ = some b ∧ wr.cell? ⟨w.heap.size, 2, none⟩ = some c ∧ ∀ o, wr.frozen? ⟨w.heap.size, o, none⟩ = false := by
  have hb : (w.alloc (.cells #[a, b, c] 103)).heap[w.heap.size]? = some (.cells #[a, b, c] 103) := by
    show (w.heap.push _)[w.heap.size]? = _
    simp
  refine ⟨h.cell ?_, h.cell ?_, h.cell ?_, fun o => ?_⟩
  · unfold World.cell?; simp only [hb]; rfl
  · unfold World.cell?; simp only [hb]; rfl
  · unfold World.cell?; simp only [hb]; rfl
  · rw [h.froz]; unfold World.frozen?; simp only [hb]; simp
/-! ### What the loop has seen -/
/-- The j-th character's value. -/
def vAt (l : List UInt8) (j : Nat) : Int := hv ((l.getD j 0).toNat : Int)
/-- Behind k characters, all of them digits: 'first' is f, 'end' is e. -/
structure Spans (l : List UInt8) (k f e : Nat) : Prop where
  hex : ∀ j, j < k → 0 ≤ vAt l j
  parts : (f = l.length ∧ e = 0 ∧ ∀ j, j < k → vAt l j = 0) ∨
    (f < e ∧ e ≤ k ∧ 0 < vAt l f ∧ 0 < vAt l (e - 1) ∧ (∀ j, j < f → vAt l j = 0) ∧ (∀ j, e ≤ j → j < k → vAt l j = 0))
theorem Spans.start (l : List UInt8) : Spans l 0 l.length 0 := ⟨fun j h => by omega, .inl ⟨rfl, rfl, fun j h => by omega⟩⟩
theorem Spans.zero {l : List UInt8} {k f e : Nat} (h : Spans l k f e) (hv : vAt l k = 0) : Spans l (k + 1) f e := by
  refine ⟨fun j hj => ?_, ?_⟩
  · rcases Nat.lt_or_ge j k with h' | h'
    · exact h.hex j h'
    · have : j = k := by omega
      subst this; omega
  · rcases h.parts with ⟨h1, h2, h3⟩ | ⟨h1, h2, h3, h4, h5, h6⟩
    · refine .inl ⟨h1, h2, fun j hj => ?_⟩
      rcases Nat.lt_or_ge j k with h' | h'
      · exact h3 j h'
      · have : j = k := by omega
        subst this; exact hv
    · refine .inr ⟨h1, by omega, h3, h4, h5, fun j hj hk => ?_⟩
      rcases Nat.lt_or_ge j k with h' | h'
      · exact h6 j hj h'
      · have : j = k := by omega
        subst this; exact hv
theorem Spans.more {l : List UInt8} {k f e : Nat} (h : Spans l k f e) (hk : k < l.length) (hv : 0 < vAt l k) : Spans l (k + 1) (min f k) (k + 1) := by
  refine ⟨fun j hj => ?_, .inr ?_⟩
  · rcases Nat.lt_or_ge j k with h' | h'
    · exact h.hex j h'
    · have : j = k := by omega
      subst this; omega
  · rcases h.parts with ⟨h1, h2, h3⟩ | ⟨h1, h2, h3, h4, h5, h6⟩
    · have : min f k = k := by omega
      rw [this]
      refine ⟨by omega, by omega, hv, by simpa using hv, h3, fun j _ _ => by omega⟩
    · have : min f k = f := by omega
      rw [this]
      refine ⟨by omega, by omega, h3, by simpa using hv, h5, fun j _ _ => by omega⟩

/-- A digit in lower case. -/
def lowB (v : Nat) : UInt8 := if v < 10 then UInt8.ofNat (48 + v) else UInt8.ofNat (87 + v)
theorem low_fin : ∀ v : Fin 16, (⟨#[48, 49, 50, 51, 52, 53, 54, 55, 56, 57, 97, 98, 99, 100, 101, 102]⟩ : ByteArray)[v.val]'(v.isLt) = lowB v.val := by decide
theorem low_eq (v : Nat) (h : v < (⟨#[48, 49, 50, 51, 52, 53, 54, 55, 56, 57, 97, 98, 99, 100, 101, 102]⟩ : ByteArray).size) :
    ((⟨#[48, 49, 50, 51, 52, 53, 54, 55, 56, 57, 97, 98, 99, 100, 101, 102]⟩ : ByteArray)[v].toNat : Int) = ((lowB v).toNat : Int) := by
  rw [← low_fin ⟨v, h⟩]
/-- What the buffer holds behind k characters. -/
def Low (l L : List UInt8) (k f : Nat) : Prop := L.length = 2048 ∧ ∀ j, f + j < k → j < 2048 → L[j]? = some (lowB (vAt l (f + j)).toNat)
theorem Low.store {l L : List UInt8} {k f j : Nat} (h : Low l L k f) (hk : (k : Int) - (f : Int) = (j : Int)) (hj : (j : Int) < 2048) {v : Nat} (hv : vAt l k = (v : Int)) : Low l (L.set j (lowB v)) (k + 1) f := by
  refine ⟨by rw [List.length_set]; exact h.1, fun i hi hi2 => ?_⟩
  rcases Nat.lt_or_ge (f + i) k with h' | h'
  · rw [List.getElem?_set_ne (by omega)]
    exact h.2 i h' hi2
  · have : i = j := by omega
    subst this
    have hfi : f + i = k := by omega
    rw [List.getElem?_set_self (by have := h.1; omega), hfi, hv]
    rfl
theorem Low.first {l L : List UInt8} {k f : Nat} (h : Low l L k f) {v : Nat} (hv : vAt l k = (v : Int)) : Low l (L.set 0 (lowB v)) (k + 1) k := by
  refine ⟨by rw [List.length_set]; exact h.1, fun i hi hi2 => ?_⟩
  have : i = 0 := by omega
  subst this
  rw [List.getElem?_set_self (by have := h.1; omega), Nat.add_zero, hv]
  rfl
theorem Low.skip {l L : List UInt8} {k f : Nat} (h : Low l L k f) (hk : (k : Int) < f ∨ ∃ j : Nat, (k : Int) - (f : Int) = (j : Int) ∧ decide ((j : Int) < 2048) = false) : Low l L (k + 1) f := by
  refine ⟨h.1, fun i hi hi2 => ?_⟩
  rcases hk with hk | ⟨j, hj, hj2⟩
  · omega
  · have : ¬ (j : Int) < 2048 := by simpa using hj2
    exact h.2 i (by omega) hi2

/-- What Make hands back. -/
def hexR (n : Bool) (t : ByteArray) (x : Int) (ok : Bool) : Value := .tuple #[.agg #[.bool n, .string t, .int .i16 x], .bool ok]
inductive Made (l : List UInt8) (n : Bool) (x : Int) : Value → Prop
  | bad (j : Nat) (hj : j < l.length) (hn : vAt l j < 0) : Made l n x (hexR false ⟨#[]⟩ 0 false)
  | zero (f : Nat) (h : Spans l l.length f 0) : Made l n x (hexR n ⟨#[]⟩ 0 true)
  | over (f e : Nat) (he : 0 < e) (h : Spans l l.length f e) (ho : 800 < (e : Int) - f ∨ 16000 < x ∨ 16000 < x + 4 * ((l.length : Int) - e) ∨ x + 4 * ((l.length : Int) - e) < -16000) : Made l n x (hexR false ⟨#[]⟩ 0 false)
  | ok (f e : Nat) (t : List UInt8) (he : 0 < e) (h : Spans l l.length f e) (h1 : (e : Int) - f ≤ 800) (h2 : x + 4 * ((l.length : Int) - e) ≤ 16000) (h3 : -16000 ≤ x + 4 * ((l.length : Int) - e))
      (ht : (t.length : Int) = (e : Int) - f) (hl : ∀ j, j < t.length → t[j]? = some (lowB (vAt l (f + j)).toNat)) : Made l n x (hexR n ⟨t.toArray⟩ (x + 4 * ((l.length : Int) - e)) true)

theorem plain_add (b j : Nat) : (⟨b, 0, none⟩ : Addr).add j = ⟨b, j, none⟩ := by unfold Addr.add; split <;> simp_all

set_option maxHeartbeats 2000000 in
set_option maxRecDepth 20000 in
theorem make_any (n : Bool) (s : ByteArray) (x : Int) (hx1 : -9223372036854775808 ≤ x) (hx2 : x ≤ 9223372036854775807) (hs : (s.size : Int) ≤ 140737488355328) (w : World) :
    Calls Oacg.prog 73 #[.bool n, .string s, .int .i64 x] w fun r w' => (∃ v, r = .returned v ∧ Made (bytes s) n x v) ∧ Ext w w' := by
  go_enter Oacg.func73, Oacg.ntmps73
  go_wp2
  go_loopw [8, 9, 11] (fun vf ve vi wr => ∃ (k f e : Nat) (L : List UInt8), vf = .int .i64 (f : Int) ∧ ve = .int .i64 (e : Int) ∧ vi = .int .i64 (k : Int) ∧ k ≤ s.size ∧ f ≤ s.size ∧ e ≤ k ∧
      Hid (Spans (bytes s) k f e) ∧ Hid (Low (bytes s) L k f) ∧ BufAt wr (w.heap.size + 1) L ∧ Ext (w.alloc (.cells #[.bool false, .string ⟨#[]⟩, .int .i16 0] 103)) wr) (fun _ _ i _ => s.size - (intOf i).toNat)
  case atStart =>
    refine ⟨0, s.size, 0, zeroBuf, rfl, rfl, rfl, Nat.zero_le _, Nat.le_refl _, Nat.le_refl _, ?_, ?_, ?_, ?_⟩
    · show Spans _ _ _ _
      rw [← bytes_length]; exact Spans.start _
    · exact ⟨zeroBuf_length, fun j h => by omega⟩
    · have := BufAt.new (w.alloc (.cells #[.bool false, .string ⟨#[]⟩, .int .i16 0] 103))
      have hh : (w.alloc (.cells #[.bool false, .string ⟨#[]⟩, .int .i16 0] 103)).heap.size = w.heap.size + 1 := by show (w.heap.push _).size = _; simp
      rw [hh] at this
      exact this
    · exact (Ext.refl _).alloc _ _
  case round =>
    rename_i wr
    obtain ⟨k, f, e, L, rfl, rfl, rfl, hk, hf, he, hsp, hlow, hbuf, hext⟩ := hrel
    have hextw : Ext w wr := ((Ext.refl w).alloc _ _).trans hext
    obtain ⟨hA0, hA1, hA2, hA3⟩ := hex_cells hext
    by_cases hlt : k < s.size
    · have hi32 : IntKind.i32.wrap (s[k].toNat : Int) = (s[k].toNat : Int) := by
        have := s[k].toNat_lt
        simp [IntKind.wrap, IntKind.bits, IntKind.signed]; split <;> omega
      have hvv : vAt (bytes s) k = hv (s[k].toNat : Int) := by
        unfold vAt; rw [List.getD_eq_getElem?_getD, bytes_get s k hlt]; rfl
      have hvb := hv_bd (s[k].toNat : Int)
      rcases Int.lt_trichotomy (hv (s[k].toNat : Int)) 0 with hneg | hz | hpos
      · go_wp2_with (go_at_call 125; refine (digit_any _ _).mono ?_; rintro r w' ⟨rfl, rfl⟩)
        refine bodyPost_ret (v := hexR false ⟨#[]⟩ 0 false) (by rw [results_cell_tmp rfl]; go_simp; rfl) rfl ⟨⟨_, rfl, .bad k (by rw [bytes_length]; exact hlt) (by rw [hvv]; exact hneg)⟩, ?_⟩
        exact ((hextw.setCell (Nat.le_refl _) _).setCell (Nat.le_refl _) _).setCell (Nat.le_refl _) _
      · rcases Nat.lt_or_ge k f with hfk | hfk
        · go_wp2_with (go_at_call 125; refine (digit_any _ _).mono ?_; rintro r w' ⟨rfl, rfl⟩)
          exact ⟨⟨k + 1, f, e, L, rfl, rfl, by simp, by omega, hf, by omega, hsp.out.zero (by rw [hvv, hz]), hlow.out.skip (.inl (by omega)), hbuf, hext⟩, by simp [intOf]; omega⟩
        · have hfk' : (f : Int) ≤ (k : Int) := by omega
          obtain ⟨j, hj⟩ : ∃ j, k = f + j := ⟨k - f, by omega⟩
          have hkf : (k : Int) - (f : Int) = (j : Int) := by omega
          rcases Nat.lt_or_ge j 2048 with hj2 | hj2
          · obtain ⟨y, hy⟩ : ∃ y, L[j]? = some y := ⟨_, List.getElem?_eq_getElem (by have := hlow.out.1; omega)⟩
            have hcy := hbuf.cell hy
            have hfy := hbuf.frozen j
            have hj3 : (j : Int) < 2048 := by omega
            clear hj hj2 hfk
            go_wp2_with (go_at_call 125; refine (digit_any _ _).mono ?_; rintro r w' ⟨rfl, rfl⟩)
            exact ⟨⟨k + 1, f, e, L.set j (lowB 0), rfl, rfl, by simp, by omega, hf, by omega, hsp.out.zero (by rw [hvv, hz]), hlow.out.store hkf hj3 (by rw [hvv, hz]; rfl),
              hbuf.set j _ _ (low_eq 0 _), hext.setCell (by show (w.heap.push _).size ≤ _; simp) _⟩, by simp [intOf]; omega⟩
          · have hj3 : decide ((j : Int) < 2048) = false := by simp; omega
            clear hj hj2 hfk
            go_wp2_with (go_at_call 125; refine (digit_any _ _).mono ?_; rintro r w' ⟨rfl, rfl⟩)
            exact ⟨⟨k + 1, f, e, L, rfl, rfl, by simp, by omega, hf, by omega, hsp.out.zero (by rw [hvv, hz]), hlow.out.skip (.inr ⟨j, hkf, hj3⟩), hbuf, hext⟩, by simp [intOf]; omega⟩
      · obtain ⟨v, hvn⟩ : ∃ v : Nat, hv (s[k].toNat : Int) = (v : Int) := ⟨(hv (s[k].toNat : Int)).toNat, by omega⟩
        rw [hvn] at hpos hvb hvv
        rcases Nat.lt_or_ge k f with hfk | hfk
        · obtain ⟨y, hy⟩ : ∃ y, L[0]? = some y := ⟨_, List.getElem?_eq_getElem (by have := hlow.out.1; omega)⟩
          have hcy := hbuf.cell hy
          have hfy := hbuf.frozen 0
          go_wp2_with (go_at_call 125; refine (digit_any _ _).mono ?_; rintro r w' ⟨rfl, rfl⟩)
          have hsp' := hsp.out.more (by rw [bytes_length]; exact hlt) (by rw [hvv]; exact hpos)
          rw [Nat.min_eq_right (by omega)] at hsp'
          exact ⟨⟨k + 1, k, k + 1, L.set 0 (lowB v), rfl, by simp, by simp, by omega, by omega, by omega, hsp', hlow.out.first hvv,
              hbuf.set 0 _ _ (low_eq v _), hext.setCell (by show (w.heap.push _).size ≤ _; simp) _⟩, by simp [intOf]; omega⟩
        · have hfk' : (f : Int) ≤ (k : Int) := by omega
          have hmin : (if (k : Int) < (f : Int) then (k : Int) else (f : Int)) = (f : Int) := by rw [if_neg (by omega)]
          have hsp' := hsp.out.more (by rw [bytes_length]; exact hlt) (by rw [hvv]; exact hpos)
          rw [Nat.min_eq_left (by omega)] at hsp'
          have hsp'' : Hid (Spans (bytes s) (k + 1) f (k + 1)) := hsp'
          clear hsp'
          obtain ⟨j, hj⟩ : ∃ j, k = f + j := ⟨k - f, by omega⟩
          have hkf : (k : Int) - (f : Int) = (j : Int) := by omega
          rcases Nat.lt_or_ge j 2048 with hj2 | hj2
          · obtain ⟨y, hy⟩ : ∃ y, L[j]? = some y := ⟨_, List.getElem?_eq_getElem (by have := hlow.out.1; omega)⟩
            have hcy := hbuf.cell hy
            have hfy := hbuf.frozen j
            have hj3 : (j : Int) < 2048 := by omega
            clear hj hj2 hfk
            go_wp2_with (go_at_call 125; refine (digit_any _ _).mono ?_; rintro r w' ⟨rfl, rfl⟩)
            exact ⟨⟨k + 1, f, k + 1, L.set j (lowB v), rfl, by simp, by simp, by omega, hf, by omega, hsp'', hlow.out.store hkf hj3 hvv,
              hbuf.set j _ _ (low_eq v _), hext.setCell (by show (w.heap.push _).size ≤ _; simp) _⟩, by simp [intOf]; omega⟩
          · have hj3 : decide ((j : Int) < 2048) = false := by simp; omega
            clear hj hj2 hfk
            go_wp2_with (go_at_call 125; refine (digit_any _ _).mono ?_; rintro r w' ⟨rfl, rfl⟩)
            exact ⟨⟨k + 1, f, k + 1, L, rfl, by simp, by simp, by omega, hf, by omega, hsp'', hlow.out.skip (.inr ⟨j, hkf, hj3⟩), hbuf, hext⟩, by simp [intOf]; omega⟩
    · have hke : k = s.size := by omega
      subst hke
      have hsp' : Spans (bytes s) (bytes s).length f e := by rw [bytes_length]; exact hsp.out
      have HS : Hid (Spans (bytes s) (bytes s).length f e) := hsp'
      have hend : ∀ (u0 u1 u2 : Value), Ext w (((wr.setCell ⟨w.heap.size, 0, none⟩ u0).setCell ⟨w.heap.size, 1, none⟩ u1).setCell ⟨w.heap.size, 2, none⟩ u2) := fun u0 u1 u2 =>
        ((hextw.setCell (Nat.le_refl _) _).setCell (Nat.le_refl _) _).setCell (Nat.le_refl _) _
      clear hsp' hextw hext hsp
      rcases Nat.eq_zero_or_pos e with he0 | he0
      · subst he0
        clear hlow hbuf
        go_wp2
        refine bodyPost_ret (v := hexR n ⟨#[]⟩ 0 true) (by rw [results_cell_tmp rfl]; go_simp; rfl) rfl ⟨⟨_, rfl, .zero f HS.out⟩, hend _ _ _⟩
      · have het : ((e : Int) == 0) = false := by simp; omega
        obtain ⟨q, hq⟩ : ∃ q : Nat, (4 : Int) * ((s.size : Int) - (e : Int)) = (q : Int) := ⟨4 * (s.size - e), by omega⟩
        have hqw : IntKind.i64.wrap (q : Int) = (q : Int) := by
          simp [IntKind.wrap, IntKind.bits, IntKind.signed]; split <;> omega
        have hdf : (f : Int) < e := by
          rcases HS.out.parts with ⟨_, h, _⟩ | ⟨h, _⟩
          · omega
          · omega
        obtain ⟨d, hd⟩ : ∃ d : Nat, (e : Int) - (f : Int) = (d : Int) := ⟨e - f, by omega⟩
        have hlen : x + 4 * (((bytes s).length : Int) - (e : Int)) = x + (q : Int) := by rw [bytes_length, hq]
        have hqb : (q : Int) ≤ 562949953421312 := by omega
        by_cases hd8 : (800 : Int) < (d : Int)
        · have ht : decide ((800 : Int) < (d : Int)) = true := by simp; omega
          have hov := Made.over (n := n) (x := x) f e he0 HS.out (.inl (by omega))
          have HO : Hid (Made (bytes s) n x (hexR false ⟨#[]⟩ 0 false)) := hov
          clear hlow hbuf hd8 hlen hov HS
          go_wp2
          refine bodyPost_ret (v := hexR false ⟨#[]⟩ 0 false) (by rw [results_cell_tmp rfl]; go_simp; rfl) rfl ⟨⟨_, rfl, HO.out⟩, hend _ _ _⟩
        · have ht : decide ((800 : Int) < (d : Int)) = false := by simp; omega
          by_cases hx3 : (16000 : Int) < x
          · have ht2 : decide ((16000 : Int) < x) = true := by simp; omega
            have hov := Made.over (n := n) (x := x) f e he0 HS.out (.inr (.inl (by omega)))
            have HO : Hid (Made (bytes s) n x (hexR false ⟨#[]⟩ 0 false)) := hov
            clear hlow hbuf hd8 hlen hov HS hx3
            go_wp2
            refine bodyPost_ret (v := hexR false ⟨#[]⟩ 0 false) (by rw [results_cell_tmp rfl]; go_simp; rfl) rfl ⟨⟨_, rfl, HO.out⟩, hend _ _ _⟩
          · have ht2 : decide ((16000 : Int) < x) = false := by simp; omega
            obtain ⟨y, hy⟩ : ∃ y : Int, x + (q : Int) = y := ⟨_, rfl⟩
            have hyw : IntKind.i64.wrap y = y := by
              simp [IntKind.wrap, IntKind.bits, IntKind.signed]; split <;> omega
            rw [hy] at hlen
            by_cases hy3 : (16000 : Int) < y
            · have ht3 : decide ((16000 : Int) < y) = true := by simp; omega
              have hov := Made.over (n := n) (x := x) f e he0 HS.out (.inr (.inr (.inl (by omega))))
              have HO : Hid (Made (bytes s) n x (hexR false ⟨#[]⟩ 0 false)) := hov
              clear hlow hbuf hd8 hlen hov HS hx3 hy3
              go_wp2
              refine bodyPost_ret (v := hexR false ⟨#[]⟩ 0 false) (by rw [results_cell_tmp rfl]; go_simp; rfl) rfl ⟨⟨_, rfl, HO.out⟩, hend _ _ _⟩
            · have ht3 : decide ((16000 : Int) < y) = false := by simp; omega
              by_cases hy4 : y < (-16000 : Int)
              · have ht4 : decide (y < (-16000 : Int)) = true := by simp; omega
                have hov := Made.over (n := n) (x := x) f e he0 HS.out (.inr (.inr (.inr (by omega))))
                have HO : Hid (Made (bytes s) n x (hexR false ⟨#[]⟩ 0 false)) := hov
                clear hlow hbuf hd8 hlen hov HS hx3 hy3 hy4
                go_wp2
                refine bodyPost_ret (v := hexR false ⟨#[]⟩ 0 false) (by rw [results_cell_tmp rfl]; go_simp; rfl) rfl ⟨⟨_, rfl, HO.out⟩, hend _ _ _⟩
              · have ht4 : decide (y < (-16000 : Int)) = false := by simp; omega
                have hyw2 : IntKind.i16.wrap y = y := by
                  simp [IntKind.wrap, IntKind.bits, IntKind.signed]; split <;> omega
                obtain ⟨t, htl⟩ : ∃ t : List UInt8, t = L.take d := ⟨_, rfl⟩
                have htn : t.length = d := by
                  have := hlow.out.1
                  rw [htl, List.length_take]; omega
                have hfe : f + d ≤ s.size := by omega
                have hget : ∀ j, j < t.length → t[j]? = some (lowB (vAt (bytes s) (f + j)).toNat) := by
                  intro j hj
                  rw [htl, List.getElem?_take, if_pos (by omega)]
                  exact hlow.out.2 j (by omega) (by omega)
                have hconv := run_convert_bytes_back (P := Oacg.prog) wr 151 9 5 ⟨w.heap.size + 1, 0, none⟩ 2048 t Oacg.underlying151 Oacg.underlying5 Oacg.underlying9 (by
                  intro j hj
                  rw [plain_add]
                  refine hbuf.cell ?_
                  have h2 : t[j]? = some t[j] := List.getElem?_eq_getElem hj
                  rw [← h2, htl, List.getElem?_take, if_pos (by omega)])
                rw [htn] at hconv
                have hov := Made.ok (n := n) (x := x) f e t he0 HS.out (by omega) (by omega) (by omega) (by rw [htn]; omega) hget
                rw [hlen] at hov
                have HO : Hid (Made (bytes s) n x (hexR n ⟨t.toArray⟩ y true)) := hov
                have hd9 : (d : Int) ≤ 2048 := by omega
                clear hlow hbuf hd8 hlen hov HS hx3 hy3 hy4 hget htl htn
                go_wp2
                refine bodyPost_ret (v := hexR n ⟨t.toArray⟩ y true) (by rw [results_cell_tmp rfl]; go_simp; rfl) rfl ⟨⟨_, rfl, HO.out⟩, hend _ _ _⟩
end Go.Proofs.Ygcoac
