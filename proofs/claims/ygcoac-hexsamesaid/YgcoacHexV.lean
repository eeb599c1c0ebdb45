/-
  hexa.Scan: a round, plainly.
-/
import Derived.Test.YgcoacHexW
import Derived.WalkKit
import Derived.WalkSpells
import Derived.WalkMore
namespace Go.Proofs.Ygcoac
open Go.RowKit
set_option linter.unusedSimpArgs false
set_option linter.unusedVariables false

theorem Oacg.info5 : (Oacg.prog.info? 5).map (fun i => (i.zero, i.size, i.bytes)) = some (some (.int .u8 0), 1, 1) := by kernel_rfl

/-! ### A round, plainly -/
theorem drop_at {s : ByteArray} {k : Nat} (h : k < s.size) : (bytes s).drop k = s[k] :: (bytes s).drop (k + 1) := by
  have h' : k < (bytes s).length := by rw [bytes_length]; exact h
  rw [List.drop_eq_getElem_cons h']
  congr 1
theorem rune_parts {s : ByteArray} {k : Nat} (h : k < s.size) : (((Utf8.decode s k).1 : Int) = (s[k].toNat : Int) ∧ (Utf8.decode s k).2 = 1) ∨ (128 ≤ ((Utf8.decode s k).1 : Int) ∧ 128 ≤ (s[k].toNat : Int) ∧ 1 ≤ (Utf8.decode s k).2) := by
  rcases Nat.lt_or_ge (s[k].toNat) 128 with h1 | h1
  · left; rw [decode_ascii s k h h1]; exact ⟨rfl, rfl⟩
  · right; have := decode_high s k h h1; exact ⟨by omega, by omega, this.2⟩
theorem round_some {s : ByteArray} {k : Nat} (h : k < s.size) {c d : Sc} {r : Int} (hr : ((Utf8.decode s k).1 : Int) = r) (hd : stepS c r s[k] = some d) :
    goS c ((bytes s).drop k) = goS d ((bytes s).drop (k + 1)) ∧ (Utf8.decode s k).2 = 1 ∧ r = (s[k].toNat : Int) := by
  rcases rune_parts h with ⟨h1, h2⟩ | ⟨h1, _, _⟩
  · refine ⟨?_, h2, by omega⟩
    rw [drop_at h]
    exact goS_some (by rw [← h1, hr]; exact hd)
  · rw [step_high c (by omega)] at hd; cases hd
theorem round_none {s : ByteArray} {k : Nat} (h : k < s.size) {c : Sc} {r : Int} (hr : ((Utf8.decode s k).1 : Int) = r) (hd : stepS c r s[k] = none) :
    goS c ((bytes s).drop k) = .wrong ((bytes s).drop k) := by
  rw [drop_at h]
  rcases rune_parts h with ⟨h1, h2⟩ | ⟨h1, h3, _⟩
  · exact goS_none (by rw [← h1, hr]; exact hd)
  · exact goS_none (step_high c h3 _)
theorem or_nat (n m : Nat) (hm : m ∈ [120, 112]) : ((n ||| 32) = m ↔ n = m - 32 ∨ n = m) := by
  constructor
  · intro h
    have h1 : n ≤ n ||| 32 := Nat.left_le_or
    have h2 : n ≤ 120 := by simp at hm; omega
    have : ∀ n : Fin 121, ∀ m ∈ [120, 112], (n.val ||| 32) = m → n.val = m - 32 ∨ n.val = m := by decide
    exact this ⟨n, by omega⟩ m hm h
  · intro h
    simp at hm
    rcases hm with rfl | rfl <;> rcases h with rfl | rfl <;> decide
theorem or_i32 {r : Int} (h0 : 0 ≤ r) (h1 : r ≤ 2147483647) : Go.bits BinOp.or IntKind.i32 r 32 = ((r.toNat ||| 32 : Nat) : Int) := by
  obtain ⟨n, rfl⟩ := Int.eq_ofNat_of_zero_le h0
  have hb : n ||| 32 < 2 ^ 31 := Nat.or_lt_two_pow (by omega) (by decide)
  have e1 : (BitVec.ofInt 32 (n : Int)).toNat = n := by rw [BitVec.toNat_ofInt]; omega
  show IntKind.i32.wrap ((BitVec.ofInt 32 (n : Int) ||| BitVec.ofInt 32 32).toNat : Int) = _
  rw [BitVec.toNat_or, e1, show (BitVec.ofInt 32 32).toNat = 32 by decide, show ((n : Int).toNat) = n from rfl]
  generalize n ||| 32 = q at *
  simp [IntKind.wrap, IntKind.bits, IntKind.signed]; split <;> omega
theorem or_x {r : Int} (h0 : 0 ≤ r) (h1 : r ≤ 2147483647) : (Go.bits BinOp.or IntKind.i32 r 32 == 120) = isX r := by
  rw [or_i32 h0 h1]
  have := or_nat r.toNat 120 (by decide)
  rw [Bool.eq_iff_iff]
  simp only [isX, beq_iff_eq, Bool.or_eq_true]
  omega
theorem or_p {r : Int} (h0 : 0 ≤ r) (h1 : r ≤ 2147483647) : (Go.bits BinOp.or IntKind.i32 r 32 == 112) = isP r := by
  rw [or_i32 h0 h1]
  have := or_nat r.toNat 112 (by decide)
  rw [Bool.eq_iff_iff]
  simp only [isP, beq_iff_eq, Bool.or_eq_true]
  omega

/-! ### The relation -/
def ScRel (w : World) (s : ByteArray) (v3 v4 v5 v6 v7 v8 : Value) (wr : World) : Prop :=
  ∃ (k : Nat) (c : Sc) (z : Int), ScW w wr s k v3 c.dig ∧ v4 = .bool c.neg ∧ v5 = .bool c.en ∧ v6 = .int .i64 (c.frac : Int) ∧ v7 = .int .i64 (c.ex : Int) ∧ v8 = .int .i64 z ∧
    z = (c.st : Int) ∧ c.st ≤ 10 ∧ k ≤ s.size ∧ c.frac ≤ k ∧ c.dig.length ≤ k ∧ c.ex ≤ 1000000 ∧ Hid (goS c ((bytes s).drop k) = goS Sc.start (bytes s))
theorem rel_next {w W1 : World} {s : ByteArray} {k k0 : Nat} (hp : k < s.size) {c d : Sc} {r : Int} (hr : ((Utf8.decode s k).1 : Int) = r) (HS : Hid (goS c ((bytes s).drop k) = goS Sc.start (bytes s)))
    (hstep : stepS c r s[k] = some d) {v : Value} (hW : ScW w W1 s (k + (Utf8.decode s k).2) v d.dig) (hk0 : k0 = k) (hst : d.st ≤ 10) (hf : d.frac ≤ k + 1) (hd : d.dig.length ≤ k + 1) (hx : d.ex ≤ 1000000) :
    ScRel w s v (.bool d.neg) (.bool d.en) (.int .i64 (d.frac : Int)) (.int .i64 (d.ex : Int)) (.int .i64 (d.st : Int)) W1 ∧ s.size - W1.iterPos (w.heap.size + 1) < s.size - k0 := by
  obtain ⟨e1, e2, e3⟩ := round_some hp hr hstep
  rw [e2] at hW
  refine ⟨⟨k + 1, d, _, hW, rfl, rfl, rfl, rfl, rfl, rfl, hst, hp, hf, hd, hx, ?_⟩, ?_⟩
  · show _ = _
    rw [← e1]; exact HS.out
  · rw [iterPos_of hW.it]; omega
theorem rel_wrong {s : ByteArray} {k : Nat} (hbig : ¬ 1024 < s.size) (hp : k < s.size) {c : Sc} {r : Int} (hr : ((Utf8.decode s k).1 : Int) = r) (HS : Hid (goS c ((bytes s).drop k) = goS Sc.start (bytes s)))
    (hstep : stepS c r s[k] = none) : ScanR s (.agg #[.int .u8 3, .bool false, .string ⟨#[]⟩, .int .i16 0, .int .i64 (k : Int), .int .i32 r]) := by
  unfold ScanR
  rw [if_neg hbig, ← HS.out, round_none hp hr hstep]
  show _ = wrongV s _
  have : s.size - ((bytes s).drop k).length = k := by rw [List.length_drop, bytes_length]; omega
  rw [this]
  unfold wrongV gotOf
  rw [if_pos hp, hr]
  rfl
theorem step_byte {s : ByteArray} {k : Nat} (hp : k < s.size) {r : Int} (hr : ((Utf8.decode s k).1 : Int) = r) (hh : hexI r = true) : Value.int .u8 r = mkB s[k] := by
  have hlt : r < 128 := by
    rcases Int.lt_or_le r 128 with h | h
    · exact h
    · simp [hexI, hv_high h] at hh
  rcases rune_parts hp with ⟨h1, h2⟩ | ⟨h1, h3, _⟩
  · unfold mkB; rw [← h1, hr]
  · omega
theorem one_new (w : World) (a : Value) (t : TypeId) : ∀ j u, [a][j]? = some u → (w.alloc (.cells #[a] t)).cell? ((⟨w.heap.size, 0, none⟩ : Addr).add j) = some u := by
  intro j u hj
  match j, hj with
  | 0, hj => simp at hj; subst hj; simp [Addr.add]
  | j + 1, hj => simp at hj
theorem sat_int {x : Nat} {r : Int} (h1 : 48 ≤ r) (h2 : r ≤ 57) : ((satE x r : Nat) : Int) = if 1000000 < 10 * (x : Int) + (r - 48) then 1000000 else 10 * (x : Int) + (r - 48) := by
  unfold satE
  split <;> omega
theorem own_conv {wr : World} {B : Nat} {v : Value} {d : List UInt8} (h : wr.ownsRow B 5 1 v d.length (d.map mkB)) : (Go.convert 151 9 v).run Oacg.prog wr = .ok (.string ⟨d.toArray⟩) wr := by
  rcases h.2 with ⟨rfl, h0⟩ | ⟨g, cap, cur, rfl, hb, hg, hn, hm, hsz, htk⟩
  · obtain rfl : d = [] := List.eq_nil_of_length_eq_zero h0
    rw [run_convert_bytes_string wr 151 9 5 _ 0 0 Oacg.underlying151 Oacg.underlying5 Oacg.underlying9]
    simp [Conv.bytesToString]
    rfl
  · refine run_convert_bytes_back (P := Oacg.prog) wr 151 9 5 ⟨g, 0, none⟩ cap d Oacg.underlying151 Oacg.underlying5 Oacg.underlying9 (fun j hj => ?_)
    refine h.cells (g := g) rfl j _ ?_
    rw [List.getElem?_map, List.getElem?_eq_getElem hj]; rfl
theorem Made.shape {l : List UInt8} {n : Bool} {x : Int} {v : Value} (h : Made l n x v) : ∃ n' t x' ok, v = .tuple #[.agg #[.bool n', .string t, .int .i16 x'], .bool ok] := by
  cases h <;> exact ⟨_, _, _, _, rfl⟩
theorem rel_made {s : ByteArray} (hbig : ¬ 1024 < s.size) {c : Sc} (hfin : goS Sc.start (bytes s) = c.fin) (hst : c.st = 10) {y : Int} (hy : y = (if c.en then -(c.ex : Int) else (c.ex : Int)) - 4 * (c.frac : Int))
    {t : ByteArray} (ht : bytes t = c.dig) {u v : Value} (hm : Made (bytes t) c.neg y u) (hs : ScanOf u v) : ScanR s v := by
  unfold ScanR
  rw [if_neg hbig, hfin]
  unfold Sc.fin
  rw [if_pos hst]
  exact ⟨u, by rw [← hy, ← ht]; exact hm, hs⟩
theorem rel_end {s : ByteArray} (hbig : ¬ 1024 < s.size) {c : Sc} (hfin : goS Sc.start (bytes s) = c.fin) (hst : ¬ c.st = 10) :
    ScanR s (.agg #[.int .u8 3, .bool false, .string ⟨#[]⟩, .int .i16 0, .int .i64 (s.size : Int), .int .i32 (-1)]) := by
  unfold ScanR
  rw [if_neg hbig, hfin]
  unfold Sc.fin
  rw [if_neg hst]
  show _ = wrongV s _
  unfold wrongV gotOf
  rw [if_neg (by simp)]
  rfl

/-! ### The loop's body, and its relation over the whole frame -/
def firstLoop : Code → Option Code
  | .loop c => some c
  | .seq a b => match firstLoop a with
    | some c => some c
    | none => firstLoop b
  | .block _ c => firstLoop c
  | .scope c => firstLoop c
  | .cond _ a b => match firstLoop a with
    | some c => some c
    | none => firstLoop b
  | _ => none
noncomputable def body71 : Code := ((Oacg.f71.body.bind firstLoop).getD .skip)
set_option maxRecDepth 1000000 in
def WI (w : World) (s : ByteArray) (c17 : Value) (a' : Act) (w' : World) : Prop :=
  ∃ u3 u4 u5 u6 u7 u8 u9 u10 u11 u12 u21 u22 u23 u24 u25 u26 u27 u28 u29 u30 u31 u32 u33 u34 u35 u36 u37 u38 u39 u40 u41 u42 u43 u44 u45 u46 u47 u48 u49 u50 u51 u52 u53 u54 u55 u56 u57 u58 u59 u60 u61 u62 u63 u64 u65 u66 u67 u68 u69 u70 u71 u72 u73 u74 u75 u76 u77 u78 u79 u80 u81 u82 u83 u84 u85 u86 u87 u88 u89 u90 u91 u92 u93 u94 u95 u96 u97 u98 u99 u100 u101 u102 u103 u104 u105 u106 u107 u108 u109 u110 u111 u112 u113 u114 u115 u116 u117 u118 u119 u120 u121 u122 u123 u124 u125 u126 u127 u128 u129 u130 u131 u132 u133 u134 u135 u136 u137 u138 u139 u140 u141 u142 u143 u144 u145 u146 u147 : Value, ScRel w s u3 u4 u5 u6 u7 u8 w' ∧ a' = ⟨#[.string s, undef, .pointer (some ⟨w.heap.size, 0, none⟩), u3, u4, u5, u6, u7, u8, u9, u10, u11, u12, undef, undef, .string s, .int .i64 (s.size : Int), c17, undef, .string s, .pointer (some ⟨w.heap.size + 1, 0, none⟩), u21, u22, u23, u24, u25, u26, u27, u28, u29, u30, u31, u32, u33, u34, u35, u36, u37, u38, u39, u40, u41, u42, u43, u44, u45, u46, u47, u48, u49, u50, u51, u52, u53, u54, u55, u56, u57, u58, u59, u60, u61, u62, u63, u64, u65, u66, u67, u68, u69, u70, u71, u72, u73, u74, u75, u76, u77, u78, u79, u80, u81, u82, u83, u84, u85, u86, u87, u88, u89, u90, u91, u92, u93, u94, u95, u96, u97, u98, u99, u100, u101, u102, u103, u104, u105, u106, u107, u108, u109, u110, u111, u112, u113, u114, u115, u116, u117, u118, u119, u120, u121, u122, u123, u124, u125, u126, u127, u128, u129, u130, u131, u132, u133, u134, u135, u136, u137, u138, u139, u140, u141, u142, u143, u144, u145, u146, u147, undef, undef, undef, undef, undef, undef, undef, undef, undef, undef, undef, undef, undef, undef, undef, undef, undef, undef, undef, undef, undef, undef, undef, undef], []⟩
def ScPost (w : World) (s : ByteArray) : Ending → World → Prop := fun r w' => (∃ v, r = .returned v ∧ ScanR s v) ∧ Below w.heap.size w w'
end Go.Proofs.Ygcoac
