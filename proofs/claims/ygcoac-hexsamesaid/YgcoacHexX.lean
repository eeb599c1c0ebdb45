/-
  hmodel.Scan: what its pieces say of the machine.
-/
import Derived.Test.YgcoacHexU
namespace Go.Proofs.Ygcoac
open Go.RowKit
set_option linter.unusedSimpArgs false
set_option linter.unusedVariables false

/-! ### Answers -/
theorem ans_wrong {s : ByteArray} (hbig : ¬ 1024 < s.size) {p : Nat} (hp : p ≤ s.size) (h : goS Sc.start (bytes s) = .wrong ((bytes s).drop p)) :
    ScanR s (.agg #[.int .u8 3, .bool false, .string ⟨#[]⟩, .int .i16 0, .int .i64 (p : Int), .int .i32 (gotOf s p)]) := by
  unfold ScanR
  rw [if_neg hbig, h]
  show _ = wrongV s _
  have : s.size - ((bytes s).drop p).length = p := by rw [List.length_drop, bytes_length]; omega
  rw [this]; rfl
theorem ans_made {s : ByteArray} (hbig : ¬ 1024 < s.size) {n : Bool} {d : List UInt8} {y : Int} (h : goS Sc.start (bytes s) = .made n d y) {t : ByteArray} (ht : bytes t = d) {u v : Value} (hm : Made (bytes t) n y u) (hs : ScanOf u v) : ScanR s v := by
  unfold ScanR
  rw [if_neg hbig, h]
  exact ⟨u, by rw [← ht]; exact hm, hs⟩
theorem wrong_int (s : ByteArray) (hs : (s.size : Int) ≤ 140737488355328) (p : Nat) (hp : p ≤ s.size) (z : Int) (hz : z = (p : Int)) (w : World) :
    Calls Oacg.prog 126 #[.string s, .int .i64 z] w fun r w' => r = .returned (.agg #[.int .u8 3, .bool false, .string ⟨#[]⟩, .int .i16 0, .int .i64 (p : Int), .int .i32 (gotOf s p)]) ∧ Below w.heap.size w w' := by
  subst hz
  exact wrong_any s hs p hp w

/-! ### The head: a sign, 0, x -/
/-- Behind the sign, if there is one. -/
structure Sgn (s : ByteArray) (a : Nat) (ng : Bool) : Prop where
  le : a ≤ s.size
  run : goS Sc.start (bytes s) = goS ⟨a, ng, false, 0, 0, []⟩ ((bytes s).drop a)
  st : a = 0 ∨ a = 1
  no : a = 0 → ∀ (h : 0 < s.size), sgnI (s[0].toNat : Int) = false
theorem drop_cons {s : ByteArray} {k : Nat} (h : k < s.size) : (bytes s).drop k = s[k] :: (bytes s).drop (k + 1) := by
  have h' : k < (bytes s).length := by rw [bytes_length]; exact h
  rw [List.drop_eq_getElem_cons h']
  congr 1
theorem drop_nil {s : ByteArray} {k : Nat} (h : ¬ k < s.size) : (bytes s).drop k = [] := List.drop_eq_nil_of_le (by rw [bytes_length]; omega)
theorem Sgn.none {s : ByteArray} (h : ∀ (h : 0 < s.size), sgnI (s[0].toNat : Int) = false) : Sgn s 0 false := ⟨Nat.zero_le _, rfl, .inl rfl, fun _ => h⟩
theorem Sgn.some {s : ByteArray} (h : 0 < s.size) (hs : sgnI (s[0].toNat : Int) = true) : Sgn s 1 ((s[0].toNat : Int) == 45) := by
  refine ⟨h, ?_, .inr rfl, fun h => by omega⟩
  have e : bytes s = s[0] :: (bytes s).drop 1 := by have := drop_cons h; rwa [List.drop_zero] at this
  conv => lhs; rw [e]
  exact goS_some (by simp [stepS, Sc.start, hs])
theorem Sgn.bad {s : ByteArray} {a : Nat} {ng : Bool} (h : Sgn s a ng) (hb : ∀ (h : a < s.size), ((s[a].toNat : Int) == 48) = false) : goS Sc.start (bytes s) = .wrong ((bytes s).drop a) := by
  rw [h.run]
  by_cases hl : a < s.size
  · rw [drop_cons hl]
    rcases h.st with rfl | rfl
    · exact goS_none (by simp [stepS, h.no rfl hl, hb hl])
    · exact goS_none (by simp [stepS, hb hl])
  · rw [drop_nil hl]
    rcases h.st with rfl | rfl <;> rfl
theorem Sgn.zero {s : ByteArray} {a : Nat} {ng : Bool} (h : Sgn s a ng) (hl : a < s.size) (hb : ((s[a].toNat : Int) == 48) = true) : goS Sc.start (bytes s) = goS ⟨2, ng, false, 0, 0, []⟩ ((bytes s).drop (a + 1)) := by
  rw [h.run, drop_cons hl]
  rcases h.st with rfl | rfl
  · exact goS_some (by simp [stepS, h.no rfl hl, hb])
  · exact goS_some (by simp [stepS, hb])
theorem x_bad {s : ByteArray} {a : Nat} {ng : Bool} (h : goS Sc.start (bytes s) = goS ⟨2, ng, false, 0, 0, []⟩ ((bytes s).drop (a + 1))) (hb : ∀ (h : a + 1 < s.size), isX (s[a + 1].toNat : Int) = false) :
    goS Sc.start (bytes s) = .wrong ((bytes s).drop (a + 1)) := by
  rw [h]
  by_cases hl : a + 1 < s.size
  · rw [drop_cons hl]; exact goS_none (by simp [stepS, hb hl])
  · rw [drop_nil hl]; rfl
theorem x_good {s : ByteArray} {a : Nat} {ng : Bool} (h : goS Sc.start (bytes s) = goS ⟨2, ng, false, 0, 0, []⟩ ((bytes s).drop (a + 1))) (hl : a + 1 < s.size) (hb : isX (s[a + 1].toNat : Int) = true) :
    goS Sc.start (bytes s) = goS ⟨3, ng, false, 0, 0, []⟩ (bytes (s.extract (a + 2) s.size)) := by
  rw [h, drop_cons hl, bytes_extract, List.take_of_length_le (by rw [bytes_length]; exact Nat.le_refl _)]
  exact goS_some (by simp [stepS, hb])

/-! ### The pieces -/
theorem CutR.len {q : UInt8 → Bool} {l m r : List UInt8} {f : Bool} (h : CutR q l m r f) : m.length + r.length ≤ l.length ∧ (f = true → m.length + r.length + 1 = l.length) ∧ (f = false → m.length = l.length ∧ r = []) := by
  cases h with
  | none _ => simp
  | found _ x _ h _ _ => subst h; simp; omega
theorem CutR.head {q : UInt8 → Bool} {l m r : List UInt8} {f : Bool} (h : CutR q l m r f) : ∃ t, l = m ++ t ∧ m.all (fun x => !q x) = true := by
  cases h with
  | none h => exact ⟨[], by simp, h⟩
  | found _ x _ h hm _ => exact ⟨_, h, hm⟩
theorem isP_of {x : UInt8} (h : (!isB 112 80 x) = true) : isP (x.toNat : Int) = false := by
  simp only [isB, Bool.not_or, Bool.and_eq_true, Bool.not_eq_true', beq_eq_false_iff_ne] at h
  simp [isP, h.1, h.2]
theorem isP_of' {x : UInt8} (h : isB 112 80 x = true) : isP (x.toNat : Int) = true := by
  simp only [isB, Bool.or_eq_true] at h
  simp only [isP, Bool.or_eq_true]
  exact h.symm
theorem dot_of {x : UInt8} (h : (!isB 46 46 x) = true) : ¬ x.toNat = 46 := by
  simp only [isB, Bool.or_self, Bool.not_eq_true', beq_eq_false_iff_ne] at h
  omega
theorem dot_of' {x : UInt8} (h : isB 46 46 x = true) : x.toNat = 46 := by
  simp only [isB, Bool.or_self, beq_iff_eq] at h
  omega
theorem RunR.split {s : ByteArray} {h : Bool} {n : Nat} (hr : RunR s h n) (hn : n < s.size) : ∃ b, bytes s = (bytes s).take n ++ b :: (bytes s).drop (n + 1) ∧ digB h b = false ∧ b ∈ bytes s := by
  refine ⟨s[n], bytes_split hn, hr.2.2 hn, ?_⟩
  have h := List.mem_of_getElem? (bytes_get s n hn)
  exact h
theorem RunR.full {s : ByteArray} {h : Bool} {n : Nat} (hr : RunR s h n) (hn : ¬ n < s.size) : (bytes s).all (digB h) = true ∧ n = s.size := by
  have h1 := hr.1
  have h2 := hr.2.1
  rw [List.take_of_length_le (by rw [bytes_length]; omega)] at h2
  exact ⟨h2, by omega⟩
theorem all_mem {q : UInt8 → Bool} {l : List UInt8} (h : l.all q = true) {x : UInt8} (hx : x ∈ l) : q x = true := List.all_eq_true.1 h x hx
theorem all_hex {l : List UInt8} (h : l.all (digB true) = true) : l.all hexB = true := h
theorem all_dec {l : List UInt8} (h : l.all (digB false) = true) : l.all decB = true := h

/-- Ahead of the p a digit is missing: in the first piece. -/
theorem p_ip {T : List UInt8} {man exp : List UInt8} {f : Bool} {ng : Bool} {ip : ByteArray} {fp : List UInt8} {f2 : Bool} {n : Nat}
    (h1 : CutR (isB 112 80) T man exp f) (h2 : CutR (isB 46 46) man (bytes ip) fp f2) (hr : RunR ip true n) (hn : n < ip.size) :
    goS ⟨3, ng, false, 0, 0, []⟩ T = .wrong (T.drop n) ∧ n ≤ T.length := by
  obtain ⟨t1, e1, a1⟩ := h1.head
  obtain ⟨t2, e2, a2⟩ := h2.head
  obtain ⟨b, e3, hb, hm⟩ := hr.split hn
  have hmm : b ∈ man := by rw [e2]; exact List.mem_append_left _ hm
  have e4 : T = (bytes ip).take n ++ b :: ((bytes ip).drop (n + 1) ++ t2 ++ t1) := by
    rw [e1, e2]
    conv => lhs; rw [e3]
    simp
  have hl : ((bytes ip).take n).length = n := by rw [List.length_take, bytes_length]; omega
  have e5 : T.drop n = b :: ((bytes ip).drop (n + 1) ++ t2 ++ t1) := by
    rw [e4, List.drop_append_of_le_length (by omega), List.drop_eq_nil_of_le (by omega), List.nil_append]
  constructor
  · rw [e5]
    conv => lhs; rw [e4]
    exact wrong_ip ng (all_hex hr.2.1) hb (dot_of (all_mem a2 hm)) (isP_of (all_mem a1 hmm))
  · rw [e4]; simp [hl]
/-- .. in the second. -/
theorem p_fp {T : List UInt8} {man exp : List UInt8} {f : Bool} {ng : Bool} {ip fp : ByteArray} {f2 : Bool} {n : Nat}
    (h1 : CutR (isB 112 80) T man exp f) (h2 : CutR (isB 46 46) man (bytes ip) (bytes fp) f2) (hi : (bytes ip).all (digB true) = true) (hr : RunR fp true n) (hn : n < fp.size) :
    goS ⟨3, ng, false, 0, 0, []⟩ T = .wrong (T.drop (ip.size + 1 + n)) ∧ ip.size + 1 + n ≤ T.length := by
  obtain ⟨t1, e1, a1⟩ := h1.head
  obtain ⟨b, e3, hb, hm⟩ := hr.split hn
  cases hf2 : f2 with
  | false =>
    rw [hf2] at h2
    have := (h2.len.2.2 rfl).2
    rw [← bytes_length, this] at hn; simp at hn
  | true =>
    rw [hf2] at h2
    obtain ⟨d, h, hd⟩ : ∃ d, man = bytes ip ++ d :: bytes fp ∧ isB 46 46 d = true := by
      generalize bytes ip = a at h2
      generalize bytes fp = b at h2
      cases h2 with
      | found _ d _ h _ hd => exact ⟨d, h, hd⟩
    have hmm : b ∈ man := by rw [h]; exact List.mem_append_right _ (List.mem_cons_of_mem _ hm)
    have e4 : T = bytes ip ++ d :: ((bytes fp).take n ++ b :: ((bytes fp).drop (n + 1) ++ t1)) := by
      rw [e1, h]
      conv => lhs; rw [e3]
      simp
    have hl : ((bytes fp).take n).length = n := by rw [List.length_take, bytes_length]; omega
    have hli : (bytes ip).length = ip.size := bytes_length ip
    have e6 : T = (bytes ip ++ d :: (bytes fp).take n) ++ b :: ((bytes fp).drop (n + 1) ++ t1) := by rw [e4]; simp
    have hl6 : (bytes ip ++ d :: (bytes fp).take n).length = ip.size + 1 + n := by simp [hl, hli]; omega
    have e5 : T.drop (ip.size + 1 + n) = b :: ((bytes fp).drop (n + 1) ++ t1) := by
      rw [e6, List.drop_append_of_le_length (by omega), List.drop_eq_nil_of_le (by omega), List.nil_append]
    constructor
    · rw [e5]
      conv => lhs; rw [e4]
      exact wrong_fp ng (all_hex hi) (dot_of' hd) (all_hex hr.2.1) hb (isP_of (all_mem a1 hmm))
    · rw [e6, List.length_append, hl6]; simp
theorem man_of {man : List UInt8} {ip fp : ByteArray} {f2 : Bool} (h2 : CutR (isB 46 46) man (bytes ip) (bytes fp) f2) : Man (bytes ip) (bytes fp) man := by
  cases hq : f2 with
  | false =>
    rw [hq] at h2
    have h := h2.len.2.2 rfl
    generalize bytes ip = a at *
    generalize bytes fp = b at *
    cases h2 with
    | none _ => exact .plain rfl
  | true =>
    rw [hq] at h2
    generalize bytes ip = a at *
    generalize bytes fp = b at *
    cases h2 with
    | found _ d _ h _ hd => subst h; exact .dot d (dot_of' hd)
/-- No p, or no digit. -/
theorem p_end {T man exp : List UInt8} {f ng : Bool} {ip fp : ByteArray} {f2 : Bool} (h1 : CutR (isB 112 80) T man exp f) (h2 : CutR (isB 46 46) man (bytes ip) (bytes fp) f2)
    (hi : (bytes ip).all (digB true) = true) (hf : (bytes fp).all (digB true) = true) (hc : bytes ip ++ bytes fp = [] ∨ f = false) :
    goS ⟨3, ng, false, 0, 0, []⟩ T = .wrong (T.drop man.length) ∧ man.length ≤ T.length := by
  have hm := man_of h2
  cases h1 with
  | none h => exact ⟨by rw [List.drop_length]; exact wrong_end ng hm (all_hex hi) (all_hex hf), Nat.le_refl _⟩
  | found _ x _ h hm1 hx =>
    rcases hc with hc | hc
    · subst h
      refine ⟨?_, by simp⟩
      rw [List.drop_append_of_le_length (Nat.le_refl _), List.drop_length, List.nil_append]
      exact wrong_p ng hm (all_hex hi) (all_hex hf) hc (isP_of' hx)
    · cases hc
/-- Digits and a p. -/
theorem p_go {T man exp : List UInt8} {f ng : Bool} {ip fp : ByteArray} {f2 : Bool} (h1 : CutR (isB 112 80) T man exp f) (h2 : CutR (isB 46 46) man (bytes ip) (bytes fp) f2)
    (hi : (bytes ip).all (digB true) = true) (hf : (bytes fp).all (digB true) = true) (hc : bytes ip ++ bytes fp ≠ []) (hft : f = true) :
    goS ⟨3, ng, false, 0, 0, []⟩ T = goS ⟨8, ng, false, fp.size, 0, bytes ip ++ bytes fp⟩ exp ∧ exp = T.drop (man.length + 1) ∧ man.length + 1 + exp.length = T.length := by
  have hm := man_of h2
  cases h1 with
  | none h => cases hft
  | found _ x _ h hm1 hx =>
    subst h
    refine ⟨?_, ?_, ?_⟩
    · rw [goS_p ng hm (all_hex hi) (all_hex hf) hc (isP_of' hx), bytes_length]
    · rw [← List.drop_drop, List.drop_append_of_le_length (Nat.le_refl _), List.drop_length, List.nil_append]; rfl
    · simp; omega
/-- The exponent's sign. -/
theorem e_sgn {ng : Bool} {n : Nat} {d : List UInt8} {e : ByteArray} (h : 0 < e.size) (hs : sgnI (e[0].toNat : Int) = true) :
    goS ⟨8, ng, false, n, 0, d⟩ (bytes e) = goS ⟨9, ng, (e[0].toNat : Int) == 45, n, 0, d⟩ (bytes (e.extract 1 e.size)) := by
  have e1 : bytes e = e[0] :: (bytes e).drop 1 := by have := drop_cons h; rwa [List.drop_zero] at this
  rw [bytes_extract, List.take_of_length_le (by rw [bytes_length]; exact Nat.le_refl _)]
  conv => lhs; rw [e1]
  exact goS_some (by simp [stepS, hs])
theorem e_bad {st : Nat} (hst : st = 8 ∨ st = 9) {ng en : Bool} {n m : Nat} {d : List UInt8} {e : ByteArray} (hr : RunR e false m) (hn : m < e.size ∨ m = 0) (h8 : st = 8 → ∀ (h : 0 < e.size), sgnI (e[0].toNat : Int) = false) :
    goS ⟨st, ng, en, n, 0, d⟩ (bytes e) = .wrong ((bytes e).drop m) := by
  by_cases hm : m < e.size
  · obtain ⟨b, e3, hb, _⟩ := hr.split hm
    have hl : ((bytes e).take m).length = m := by rw [List.length_take, bytes_length]; omega
    have e5 : (bytes e).drop m = b :: (bytes e).drop (m + 1) := by
      conv => lhs; rw [e3]
      rw [List.drop_append_of_le_length (by omega), List.drop_eq_nil_of_le (by omega), List.nil_append]
    rw [e5]
    conv => lhs; rw [e3]
    refine wrong_e st hst ng en n d (all_dec hr.2.1) hb (fun h0 hnil => ?_)
    have hm0 : m = 0 := by rw [hnil] at hl; simpa using hl.symm
    subst hm0
    have := h8 h0 (by omega)
    have e6 := drop_cons (s := e) (k := 0) (by omega)
    rw [e5] at e6
    injection e6 with e7
    rw [e7]; exact this
  · have hm0 : m = 0 := by omega
    subst hm0
    rw [List.drop_zero]
    have : bytes e = [] := by have := drop_nil hm; rwa [List.drop_zero] at this
    rw [this]
    exact wrong_e0 st hst ng en n d
theorem e_good {st : Nat} (hst : st = 8 ∨ st = 9) {ng en : Bool} {n m : Nat} {d : List UInt8} {e : ByteArray} (hr : RunR e false m) (hn : ¬ m < e.size) (h0 : ¬ m = 0) :
    goS ⟨st, ng, en, n, 0, d⟩ (bytes e) = .made ng d ((if en then -(satL 0 (bytes e) : Int) else (satL 0 (bytes e) : Int)) - 4 * (n : Int)) := by
  obtain ⟨h1, h2⟩ := hr.full hn
  exact good_e st hst ng en n d (all_dec h1) (fun h => by rw [← bytes_length, h] at h2; simp at h2; omega)

/-! ### The world -/
structure MW (w wr : World) : Prop where
  bel : Below w.heap.size w wr
  res : wr.heap[w.heap.size]? = some (.cells zero6 105)
theorem MW.start (w : World) : MW w (w.alloc (.cells zero6 105)) := by
  refine ⟨(Below.refl _ _).alloc (Nat.le_refl _) _, ?_⟩
  show (w.heap.push _)[w.heap.size]? = _
  rw [Array.getElem?_push, if_pos rfl]
theorem MW.next {w wr w2 : World} (h : MW w wr) (hb : Below wr.heap.size wr w2) : MW w w2 :=
  ⟨h.bel.trans (hb.mono h.bel.size), by rw [hb.block _ (lt_of_obj h.res)]; exact h.res⟩
theorem MW.cells {w wr : World} (h : MW w wr) :
    wr.cell? ⟨w.heap.size, 0, none⟩ = some (.int .u8 0) ∧ wr.cell? ⟨w.heap.size, 1, none⟩ = some (.bool false) ∧ wr.cell? ⟨w.heap.size, 2, none⟩ = some (.string ⟨#[]⟩) ∧
    wr.cell? ⟨w.heap.size, 3, none⟩ = some (.int .i16 0) ∧ wr.cell? ⟨w.heap.size, 4, none⟩ = some (.int .i64 0) ∧ wr.cell? ⟨w.heap.size, 5, none⟩ = some (.int .i32 0) ∧ ∀ o, wr.frozen? ⟨w.heap.size, o, none⟩ = false := by
  have := h.res
  refine ⟨?_, ?_, ?_, ?_, ?_, ?_, fun o => ?_⟩
  all_goals first
    | (unfold World.cell?; simp only [this]; rfl)
    | (unfold World.frozen?; simp only [this]; simp)
end Go.Proofs.Ygcoac
