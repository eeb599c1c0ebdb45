/-
  hexa.Scan: the rounds.
-/
import Derived.Test.YgcoacHexV
import Derived.WalkKit
import Derived.WalkSpells
import Derived.WalkMore
namespace Go.Proofs.Ygcoac
open Go.RowKit
set_option linter.unusedSimpArgs false
set_option linter.unusedVariables false

set_option maxRecDepth 1000000 in
set_option maxHeartbeats 4000000 in
theorem round0 {w wr W1 : World} {s : ByteArray} (hbig : ¬ 1024 < s.size) {k : Nat} (hp : k < s.size) {r : Int} (hr : ((Utf8.decode s k).1 : Int) = r)
    (hnx : ∀ ty, (Instr.next (.pointer (some ⟨w.heap.size + 1, 0, none⟩)) true ty).run Oacg.prog wr = .ok (.tuple #[.bool true, .int .i64 (k : Int), .int .i32 r]) W1)
    (ng en : Bool) (fr ex : Nat) (dg : List UInt8) (c17 u3 u9 u10 u11 u12 u21 u22 u23 u24 u25 u26 u27 u28 u29 u30 u31 u32 u33 u34 u35 u36 u37 u38 u39 u40 u41 u42 u43 u44 u45 u46 u47 u48 u49 u50 u51 u52 u53 u54 u55 u56 u57 u58 u59 u60 u61 u62 u63 u64 u65 u66 u67 u68 u69 u70 u71 u72 u73 u74 u75 u76 u77 u78 u79 u80 u81 u82 u83 u84 u85 u86 u87 u88 u89 u90 u91 u92 u93 u94 u95 u96 u97 u98 u99 u100 u101 u102 u103 u104 u105 u106 u107 u108 u109 u110 u111 u112 u113 u114 u115 u116 u117 u118 u119 u120 u121 u122 u123 u124 u125 u126 u127 u128 u129 u130 u131 u132 u133 u134 u135 u136 u137 u138 u139 u140 u141 u142 u143 u144 u145 u146 u147 : Value) (HW : Hid (ScW w W1 s (k + (Utf8.decode s k).2) u3 dg)) (hm0 : wr.iterPos (w.heap.size + 1) = k)
    (hr0 : 0 ≤ r) (hr1 : r ≤ 2147483647) (hf : fr ≤ k) (hd : dg.length ≤ k) (hx : ex ≤ 1000000) (HS : Hid (goS ⟨0, ng, en, fr, ex, dg⟩ ((bytes s).drop k) = goS Sc.start (bytes s)))
    (Q0 : Exit → Act → World → Prop) (hQ : ∀ a w', bodyPost Oacg.prog Oacg.f71 (ScPost w s) .ret a w' → Q0 .ret a w') :
    Code.wp Oacg.prog body71 (Exit.then (fun a' w' => WI w s c17 a' w' ∧ s.size - w'.iterPos (w.heap.size + 1) < s.size - wr.iterPos (w.heap.size + 1)) Q0)
      ⟨#[.string s, undef, .pointer (some ⟨w.heap.size, 0, none⟩), u3, .bool ng, .bool en, .int .i64 (fr : Int), .int .i64 (ex : Int), .int .i64 0, u9, u10, u11, u12, undef, undef, .string s, .int .i64 (s.size : Int), c17, undef, .string s, .pointer (some ⟨w.heap.size + 1, 0, none⟩), u21, u22, u23, u24, u25, u26, u27, u28, u29, u30, u31, u32, u33, u34, u35, u36, u37, u38, u39, u40, u41, u42, u43, u44, u45, u46, u47, u48, u49, u50, u51, u52, u53, u54, u55, u56, u57, u58, u59, u60, u61, u62, u63, u64, u65, u66, u67, u68, u69, u70, u71, u72, u73, u74, u75, u76, u77, u78, u79, u80, u81, u82, u83, u84, u85, u86, u87, u88, u89, u90, u91, u92, u93, u94, u95, u96, u97, u98, u99, u100, u101, u102, u103, u104, u105, u106, u107, u108, u109, u110, u111, u112, u113, u114, u115, u116, u117, u118, u119, u120, u121, u122, u123, u124, u125, u126, u127, u128, u129, u130, u131, u132, u133, u134, u135, u136, u137, u138, u139, u140, u141, u142, u143, u144, u145, u146, u147, undef, undef, undef, undef, undef, undef, undef, undef, undef, undef, undef, undef, undef, undef, undef, undef, undef, undef, undef, undef, undef, undef, undef, undef], []⟩ wr := by
  conv => arg 2; whnf
  obtain ⟨i0, hi, hz0, hz1, hz2⟩ := info_parts Oacg.info5
  obtain ⟨hA0, hA1, hA2, hA3, hA4, hA5, hA6⟩ := HW.out.cells
  have hX := or_x hr0 hr1
  have hP := or_p hr0 hr1
  have hsk : s.size ≤ 1024 := by omega
  have HM0 := hide hm0
  clear hm0
  unfold ScPost at hQ
  cases q43 : (r == 43) with
  | true =>
    have hr43 : r = 43 := by simpa using q43
    subst hr43
    have qH : decide (0 ≤ hv 43) = false := by decide
    clear hX hP q43
    have qX : (Go.bits BinOp.or IntKind.i32 43 32 == 120) = false := by decide
    have qP : (Go.bits BinOp.or IntKind.i32 43 32 == 112) = false := by decide
    have hstep : stepS ⟨0, ng, en, fr, ex, dg⟩ 43 s[k] = some ⟨1, false, en, fr, ex, dg⟩ := by simp [stepS, hexI, qH, isX, isP, sgnI, decI]
    have HT := hide hstep
    clear hstep
    go_wp2_with (first | (go_at_call 125; refine (digit_any _ _).mono ?_; rintro _ w' ⟨rfl, hw'⟩; obtain rfl := hw'.symm))
    have Y := rel_next hp hr HS HT.out HW.out HM0.out (by simp) (by simp; omega) (by simp; omega) hx
    exact ⟨⟨_, _, _, _, _, _, _, _, _, _, _, _, _, _, _, _, _, _, _, _, _, _, _, _, _, _, _, _, _, _, _, _, _, _, _, _, _, _, _, _, _, _, _, _, _, _, _, _, _, _, _, _, _, _, _, _, _, _, _, _, _, _, _, _, _, _, _, _, _, _, _, _, _, _, _, _, _, _, _, _, _, _, _, _, _, _, _, _, _, _, _, _, _, _, _, _, _, _, _, _, _, _, _, _, _, _, _, _, _, _, _, _, _, _, _, _, _, _, _, _, _, _, _, _, _, _, _, _, _, _, _, _, _, _, _, _, _, Y.1, rfl⟩, Y.2⟩
  | false =>
    cases q45 : (r == 45) with
    | true =>
      have hstep : stepS ⟨0, ng, en, fr, ex, dg⟩ r s[k] = some ⟨1, true, en, fr, ex, dg⟩ := by simp [stepS, hexI, sgnI, decI, q43, q45]
      have HT := hide hstep
      clear hstep
      go_wp2_with (first | (go_at_call 125; refine (digit_any _ _).mono ?_; rintro _ w' ⟨rfl, hw'⟩; obtain rfl := hw'.symm))
      have Y := rel_next hp hr HS HT.out HW.out HM0.out (by simp) (by simp; omega) (by simp; omega) hx
      exact ⟨⟨_, _, _, _, _, _, _, _, _, _, _, _, _, _, _, _, _, _, _, _, _, _, _, _, _, _, _, _, _, _, _, _, _, _, _, _, _, _, _, _, _, _, _, _, _, _, _, _, _, _, _, _, _, _, _, _, _, _, _, _, _, _, _, _, _, _, _, _, _, _, _, _, _, _, _, _, _, _, _, _, _, _, _, _, _, _, _, _, _, _, _, _, _, _, _, _, _, _, _, _, _, _, _, _, _, _, _, _, _, _, _, _, _, _, _, _, _, _, _, _, _, _, _, _, _, _, _, _, _, _, _, _, _, _, _, _, _, Y.1, rfl⟩, Y.2⟩
    | false =>
      cases q48 : (r == 48) with
      | true =>
        have hstep : stepS ⟨0, ng, en, fr, ex, dg⟩ r s[k] = some ⟨2, ng, en, fr, ex, dg⟩ := by simp [stepS, hexI, sgnI, decI, q43, q45, q48]
        have HT := hide hstep
        clear hstep
        go_wp2_with (first | (go_at_call 125; refine (digit_any _ _).mono ?_; rintro _ w' ⟨rfl, hw'⟩; obtain rfl := hw'.symm))
        have Y := rel_next hp hr HS HT.out HW.out HM0.out (by simp) (by simp; omega) (by simp; omega) hx
        exact ⟨⟨_, _, _, _, _, _, _, _, _, _, _, _, _, _, _, _, _, _, _, _, _, _, _, _, _, _, _, _, _, _, _, _, _, _, _, _, _, _, _, _, _, _, _, _, _, _, _, _, _, _, _, _, _, _, _, _, _, _, _, _, _, _, _, _, _, _, _, _, _, _, _, _, _, _, _, _, _, _, _, _, _, _, _, _, _, _, _, _, _, _, _, _, _, _, _, _, _, _, _, _, _, _, _, _, _, _, _, _, _, _, _, _, _, _, _, _, _, _, _, _, _, _, _, _, _, _, _, _, _, _, _, _, _, _, _, _, _, Y.1, rfl⟩, Y.2⟩
      | false =>
        have hstep : stepS ⟨0, ng, en, fr, ex, dg⟩ r s[k] = none := by simp [stepS, hexI, sgnI, decI, q43, q45, q48]
        have HR := hide (rel_wrong hbig hp hr HS hstep)
        have HB := hide HW.out.bel
        clear hstep HS hr HW
        go_wp2_with (first | (go_at_call 125; refine (digit_any _ _).mono ?_; rintro _ w' ⟨rfl, hw'⟩; obtain rfl := hw'.symm))
        try refine hQ _ _ ?_
        simp [bodyPost, results, Oacg.results71, go_sem, hA0, hA1, hA2, hA3, hA4, hA5]
        exact ⟨HR.out, below_set6 HB.out (Nat.le_refl _) _ _ _ _ _ _⟩

set_option maxRecDepth 1000000 in
set_option maxHeartbeats 4000000 in
theorem round1 {w wr W1 : World} {s : ByteArray} (hbig : ¬ 1024 < s.size) {k : Nat} (hp : k < s.size) {r : Int} (hr : ((Utf8.decode s k).1 : Int) = r)
    (hnx : ∀ ty, (Instr.next (.pointer (some ⟨w.heap.size + 1, 0, none⟩)) true ty).run Oacg.prog wr = .ok (.tuple #[.bool true, .int .i64 (k : Int), .int .i32 r]) W1)
    (ng en : Bool) (fr ex : Nat) (dg : List UInt8) (c17 u3 u9 u10 u11 u12 u21 u22 u23 u24 u25 u26 u27 u28 u29 u30 u31 u32 u33 u34 u35 u36 u37 u38 u39 u40 u41 u42 u43 u44 u45 u46 u47 u48 u49 u50 u51 u52 u53 u54 u55 u56 u57 u58 u59 u60 u61 u62 u63 u64 u65 u66 u67 u68 u69 u70 u71 u72 u73 u74 u75 u76 u77 u78 u79 u80 u81 u82 u83 u84 u85 u86 u87 u88 u89 u90 u91 u92 u93 u94 u95 u96 u97 u98 u99 u100 u101 u102 u103 u104 u105 u106 u107 u108 u109 u110 u111 u112 u113 u114 u115 u116 u117 u118 u119 u120 u121 u122 u123 u124 u125 u126 u127 u128 u129 u130 u131 u132 u133 u134 u135 u136 u137 u138 u139 u140 u141 u142 u143 u144 u145 u146 u147 : Value) (HW : Hid (ScW w W1 s (k + (Utf8.decode s k).2) u3 dg)) (hm0 : wr.iterPos (w.heap.size + 1) = k)
    (hr0 : 0 ≤ r) (hr1 : r ≤ 2147483647) (hf : fr ≤ k) (hd : dg.length ≤ k) (hx : ex ≤ 1000000) (HS : Hid (goS ⟨1, ng, en, fr, ex, dg⟩ ((bytes s).drop k) = goS Sc.start (bytes s)))
    (Q0 : Exit → Act → World → Prop) (hQ : ∀ a w', bodyPost Oacg.prog Oacg.f71 (ScPost w s) .ret a w' → Q0 .ret a w') :
    Code.wp Oacg.prog body71 (Exit.then (fun a' w' => WI w s c17 a' w' ∧ s.size - w'.iterPos (w.heap.size + 1) < s.size - wr.iterPos (w.heap.size + 1)) Q0)
      ⟨#[.string s, undef, .pointer (some ⟨w.heap.size, 0, none⟩), u3, .bool ng, .bool en, .int .i64 (fr : Int), .int .i64 (ex : Int), .int .i64 1, u9, u10, u11, u12, undef, undef, .string s, .int .i64 (s.size : Int), c17, undef, .string s, .pointer (some ⟨w.heap.size + 1, 0, none⟩), u21, u22, u23, u24, u25, u26, u27, u28, u29, u30, u31, u32, u33, u34, u35, u36, u37, u38, u39, u40, u41, u42, u43, u44, u45, u46, u47, u48, u49, u50, u51, u52, u53, u54, u55, u56, u57, u58, u59, u60, u61, u62, u63, u64, u65, u66, u67, u68, u69, u70, u71, u72, u73, u74, u75, u76, u77, u78, u79, u80, u81, u82, u83, u84, u85, u86, u87, u88, u89, u90, u91, u92, u93, u94, u95, u96, u97, u98, u99, u100, u101, u102, u103, u104, u105, u106, u107, u108, u109, u110, u111, u112, u113, u114, u115, u116, u117, u118, u119, u120, u121, u122, u123, u124, u125, u126, u127, u128, u129, u130, u131, u132, u133, u134, u135, u136, u137, u138, u139, u140, u141, u142, u143, u144, u145, u146, u147, undef, undef, undef, undef, undef, undef, undef, undef, undef, undef, undef, undef, undef, undef, undef, undef, undef, undef, undef, undef, undef, undef, undef, undef], []⟩ wr := by
  conv => arg 2; whnf
  obtain ⟨i0, hi, hz0, hz1, hz2⟩ := info_parts Oacg.info5
  obtain ⟨hA0, hA1, hA2, hA3, hA4, hA5, hA6⟩ := HW.out.cells
  have hX := or_x hr0 hr1
  have hP := or_p hr0 hr1
  have hsk : s.size ≤ 1024 := by omega
  have HM0 := hide hm0
  clear hm0
  unfold ScPost at hQ
  cases q43 : (r == 43) with
  | true =>
    have hr43 : r = 43 := by simpa using q43
    subst hr43
    have qH : decide (0 ≤ hv 43) = false := by decide
    clear hX hP q43
    have qX : (Go.bits BinOp.or IntKind.i32 43 32 == 120) = false := by decide
    have qP : (Go.bits BinOp.or IntKind.i32 43 32 == 112) = false := by decide
    have hstep : stepS ⟨1, ng, en, fr, ex, dg⟩ 43 s[k] = none := by simp [stepS, hexI, qH, isX, isP, sgnI, decI]
    have HR := hide (rel_wrong hbig hp hr HS hstep)
    have HB := hide HW.out.bel
    clear hstep HS hr HW
    go_wp2_with (first | (go_at_call 125; refine (digit_any _ _).mono ?_; rintro _ w' ⟨rfl, hw'⟩; obtain rfl := hw'.symm))
    try refine hQ _ _ ?_
    simp [bodyPost, results, Oacg.results71, go_sem, hA0, hA1, hA2, hA3, hA4, hA5]
    exact ⟨HR.out, below_set6 HB.out (Nat.le_refl _) _ _ _ _ _ _⟩
  | false =>
    cases q48 : (r == 48) with
    | true =>
      have hstep : stepS ⟨1, ng, en, fr, ex, dg⟩ r s[k] = some ⟨2, ng, en, fr, ex, dg⟩ := by simp [stepS, hexI, sgnI, decI, q43, q48]
      have HT := hide hstep
      clear hstep
      go_wp2_with (first | (go_at_call 125; refine (digit_any _ _).mono ?_; rintro _ w' ⟨rfl, hw'⟩; obtain rfl := hw'.symm))
      have Y := rel_next hp hr HS HT.out HW.out HM0.out (by simp) (by simp; omega) (by simp; omega) hx
      exact ⟨⟨_, _, _, _, _, _, _, _, _, _, _, _, _, _, _, _, _, _, _, _, _, _, _, _, _, _, _, _, _, _, _, _, _, _, _, _, _, _, _, _, _, _, _, _, _, _, _, _, _, _, _, _, _, _, _, _, _, _, _, _, _, _, _, _, _, _, _, _, _, _, _, _, _, _, _, _, _, _, _, _, _, _, _, _, _, _, _, _, _, _, _, _, _, _, _, _, _, _, _, _, _, _, _, _, _, _, _, _, _, _, _, _, _, _, _, _, _, _, _, _, _, _, _, _, _, _, _, _, _, _, _, _, _, _, _, _, _, Y.1, rfl⟩, Y.2⟩
    | false =>
      have hstep : stepS ⟨1, ng, en, fr, ex, dg⟩ r s[k] = none := by simp [stepS, hexI, sgnI, decI, q43, q48]
      have HR := hide (rel_wrong hbig hp hr HS hstep)
      have HB := hide HW.out.bel
      clear hstep HS hr HW
      go_wp2_with (first | (go_at_call 125; refine (digit_any _ _).mono ?_; rintro _ w' ⟨rfl, hw'⟩; obtain rfl := hw'.symm))
      try refine hQ _ _ ?_
      simp [bodyPost, results, Oacg.results71, go_sem, hA0, hA1, hA2, hA3, hA4, hA5]
      exact ⟨HR.out, below_set6 HB.out (Nat.le_refl _) _ _ _ _ _ _⟩

set_option maxRecDepth 1000000 in
set_option maxHeartbeats 4000000 in
theorem round2 {w wr W1 : World} {s : ByteArray} (hbig : ¬ 1024 < s.size) {k : Nat} (hp : k < s.size) {r : Int} (hr : ((Utf8.decode s k).1 : Int) = r)
    (hnx : ∀ ty, (Instr.next (.pointer (some ⟨w.heap.size + 1, 0, none⟩)) true ty).run Oacg.prog wr = .ok (.tuple #[.bool true, .int .i64 (k : Int), .int .i32 r]) W1)
    (ng en : Bool) (fr ex : Nat) (dg : List UInt8) (c17 u3 u9 u10 u11 u12 u21 u22 u23 u24 u25 u26 u27 u28 u29 u30 u31 u32 u33 u34 u35 u36 u37 u38 u39 u40 u41 u42 u43 u44 u45 u46 u47 u48 u49 u50 u51 u52 u53 u54 u55 u56 u57 u58 u59 u60 u61 u62 u63 u64 u65 u66 u67 u68 u69 u70 u71 u72 u73 u74 u75 u76 u77 u78 u79 u80 u81 u82 u83 u84 u85 u86 u87 u88 u89 u90 u91 u92 u93 u94 u95 u96 u97 u98 u99 u100 u101 u102 u103 u104 u105 u106 u107 u108 u109 u110 u111 u112 u113 u114 u115 u116 u117 u118 u119 u120 u121 u122 u123 u124 u125 u126 u127 u128 u129 u130 u131 u132 u133 u134 u135 u136 u137 u138 u139 u140 u141 u142 u143 u144 u145 u146 u147 : Value) (HW : Hid (ScW w W1 s (k + (Utf8.decode s k).2) u3 dg)) (hm0 : wr.iterPos (w.heap.size + 1) = k)
    (hr0 : 0 ≤ r) (hr1 : r ≤ 2147483647) (hf : fr ≤ k) (hd : dg.length ≤ k) (hx : ex ≤ 1000000) (HS : Hid (goS ⟨2, ng, en, fr, ex, dg⟩ ((bytes s).drop k) = goS Sc.start (bytes s)))
    (Q0 : Exit → Act → World → Prop) (hQ : ∀ a w', bodyPost Oacg.prog Oacg.f71 (ScPost w s) .ret a w' → Q0 .ret a w') :
    Code.wp Oacg.prog body71 (Exit.then (fun a' w' => WI w s c17 a' w' ∧ s.size - w'.iterPos (w.heap.size + 1) < s.size - wr.iterPos (w.heap.size + 1)) Q0)
      ⟨#[.string s, undef, .pointer (some ⟨w.heap.size, 0, none⟩), u3, .bool ng, .bool en, .int .i64 (fr : Int), .int .i64 (ex : Int), .int .i64 2, u9, u10, u11, u12, undef, undef, .string s, .int .i64 (s.size : Int), c17, undef, .string s, .pointer (some ⟨w.heap.size + 1, 0, none⟩), u21, u22, u23, u24, u25, u26, u27, u28, u29, u30, u31, u32, u33, u34, u35, u36, u37, u38, u39, u40, u41, u42, u43, u44, u45, u46, u47, u48, u49, u50, u51, u52, u53, u54, u55, u56, u57, u58, u59, u60, u61, u62, u63, u64, u65, u66, u67, u68, u69, u70, u71, u72, u73, u74, u75, u76, u77, u78, u79, u80, u81, u82, u83, u84, u85, u86, u87, u88, u89, u90, u91, u92, u93, u94, u95, u96, u97, u98, u99, u100, u101, u102, u103, u104, u105, u106, u107, u108, u109, u110, u111, u112, u113, u114, u115, u116, u117, u118, u119, u120, u121, u122, u123, u124, u125, u126, u127, u128, u129, u130, u131, u132, u133, u134, u135, u136, u137, u138, u139, u140, u141, u142, u143, u144, u145, u146, u147, undef, undef, undef, undef, undef, undef, undef, undef, undef, undef, undef, undef, undef, undef, undef, undef, undef, undef, undef, undef, undef, undef, undef, undef], []⟩ wr := by
  conv => arg 2; whnf
  obtain ⟨i0, hi, hz0, hz1, hz2⟩ := info_parts Oacg.info5
  obtain ⟨hA0, hA1, hA2, hA3, hA4, hA5, hA6⟩ := HW.out.cells
  have hX := or_x hr0 hr1
  have hP := or_p hr0 hr1
  have hsk : s.size ≤ 1024 := by omega
  have HM0 := hide hm0
  clear hm0
  unfold ScPost at hQ
  cases q43 : (r == 43) with
  | true =>
    have hr43 : r = 43 := by simpa using q43
    subst hr43
    have qH : decide (0 ≤ hv 43) = false := by decide
    clear hX hP q43
    have qX : (Go.bits BinOp.or IntKind.i32 43 32 == 120) = false := by decide
    have qP : (Go.bits BinOp.or IntKind.i32 43 32 == 112) = false := by decide
    have hstep : stepS ⟨2, ng, en, fr, ex, dg⟩ 43 s[k] = none := by simp [stepS, hexI, qH, isX, isP, sgnI, decI]
    have HR := hide (rel_wrong hbig hp hr HS hstep)
    have HB := hide HW.out.bel
    clear hstep HS hr HW
    go_wp2_with (first | (go_at_call 125; refine (digit_any _ _).mono ?_; rintro _ w' ⟨rfl, hw'⟩; obtain rfl := hw'.symm))
    try refine hQ _ _ ?_
    simp [bodyPost, results, Oacg.results71, go_sem, hA0, hA1, hA2, hA3, hA4, hA5]
    exact ⟨HR.out, below_set6 HB.out (Nat.le_refl _) _ _ _ _ _ _⟩
  | false =>
    cases qX : (isX r) with
    | true =>
      rw [qX] at hX
      have hstep : stepS ⟨2, ng, en, fr, ex, dg⟩ r s[k] = some ⟨3, ng, en, fr, ex, dg⟩ := by simp [stepS, hexI, sgnI, decI, q43, qX]
      have HT := hide hstep
      clear hstep
      go_wp2_with (first | (go_at_call 125; refine (digit_any _ _).mono ?_; rintro _ w' ⟨rfl, hw'⟩; obtain rfl := hw'.symm))
      have Y := rel_next hp hr HS HT.out HW.out HM0.out (by simp) (by simp; omega) (by simp; omega) hx
      exact ⟨⟨_, _, _, _, _, _, _, _, _, _, _, _, _, _, _, _, _, _, _, _, _, _, _, _, _, _, _, _, _, _, _, _, _, _, _, _, _, _, _, _, _, _, _, _, _, _, _, _, _, _, _, _, _, _, _, _, _, _, _, _, _, _, _, _, _, _, _, _, _, _, _, _, _, _, _, _, _, _, _, _, _, _, _, _, _, _, _, _, _, _, _, _, _, _, _, _, _, _, _, _, _, _, _, _, _, _, _, _, _, _, _, _, _, _, _, _, _, _, _, _, _, _, _, _, _, _, _, _, _, _, _, _, _, _, _, _, _, Y.1, rfl⟩, Y.2⟩
    | false =>
      rw [qX] at hX
      have hstep : stepS ⟨2, ng, en, fr, ex, dg⟩ r s[k] = none := by simp [stepS, hexI, sgnI, decI, q43, qX]
      have HR := hide (rel_wrong hbig hp hr HS hstep)
      have HB := hide HW.out.bel
      clear hstep HS hr HW
      go_wp2_with (first | (go_at_call 125; refine (digit_any _ _).mono ?_; rintro _ w' ⟨rfl, hw'⟩; obtain rfl := hw'.symm))
      try refine hQ _ _ ?_
      simp [bodyPost, results, Oacg.results71, go_sem, hA0, hA1, hA2, hA3, hA4, hA5]
      exact ⟨HR.out, below_set6 HB.out (Nat.le_refl _) _ _ _ _ _ _⟩

set_option maxRecDepth 1000000 in
set_option maxHeartbeats 4000000 in
theorem round3 {w wr W1 : World} {s : ByteArray} (hbig : ¬ 1024 < s.size) {k : Nat} (hp : k < s.size) {r : Int} (hr : ((Utf8.decode s k).1 : Int) = r)
    (hnx : ∀ ty, (Instr.next (.pointer (some ⟨w.heap.size + 1, 0, none⟩)) true ty).run Oacg.prog wr = .ok (.tuple #[.bool true, .int .i64 (k : Int), .int .i32 r]) W1)
    (ng en : Bool) (fr ex : Nat) (dg : List UInt8) (c17 u3 u9 u10 u11 u12 u21 u22 u23 u24 u25 u26 u27 u28 u29 u30 u31 u32 u33 u34 u35 u36 u37 u38 u39 u40 u41 u42 u43 u44 u45 u46 u47 u48 u49 u50 u51 u52 u53 u54 u55 u56 u57 u58 u59 u60 u61 u62 u63 u64 u65 u66 u67 u68 u69 u70 u71 u72 u73 u74 u75 u76 u77 u78 u79 u80 u81 u82 u83 u84 u85 u86 u87 u88 u89 u90 u91 u92 u93 u94 u95 u96 u97 u98 u99 u100 u101 u102 u103 u104 u105 u106 u107 u108 u109 u110 u111 u112 u113 u114 u115 u116 u117 u118 u119 u120 u121 u122 u123 u124 u125 u126 u127 u128 u129 u130 u131 u132 u133 u134 u135 u136 u137 u138 u139 u140 u141 u142 u143 u144 u145 u146 u147 : Value) (HW : Hid (ScW w W1 s (k + (Utf8.decode s k).2) u3 dg)) (hm0 : wr.iterPos (w.heap.size + 1) = k)
    (hr0 : 0 ≤ r) (hr1 : r ≤ 2147483647) (hf : fr ≤ k) (hd : dg.length ≤ k) (hx : ex ≤ 1000000) (HS : Hid (goS ⟨3, ng, en, fr, ex, dg⟩ ((bytes s).drop k) = goS Sc.start (bytes s)))
    (Q0 : Exit → Act → World → Prop) (hQ : ∀ a w', bodyPost Oacg.prog Oacg.f71 (ScPost w s) .ret a w' → Q0 .ret a w') :
    Code.wp Oacg.prog body71 (Exit.then (fun a' w' => WI w s c17 a' w' ∧ s.size - w'.iterPos (w.heap.size + 1) < s.size - wr.iterPos (w.heap.size + 1)) Q0)
      ⟨#[.string s, undef, .pointer (some ⟨w.heap.size, 0, none⟩), u3, .bool ng, .bool en, .int .i64 (fr : Int), .int .i64 (ex : Int), .int .i64 3, u9, u10, u11, u12, undef, undef, .string s, .int .i64 (s.size : Int), c17, undef, .string s, .pointer (some ⟨w.heap.size + 1, 0, none⟩), u21, u22, u23, u24, u25, u26, u27, u28, u29, u30, u31, u32, u33, u34, u35, u36, u37, u38, u39, u40, u41, u42, u43, u44, u45, u46, u47, u48, u49, u50, u51, u52, u53, u54, u55, u56, u57, u58, u59, u60, u61, u62, u63, u64, u65, u66, u67, u68, u69, u70, u71, u72, u73, u74, u75, u76, u77, u78, u79, u80, u81, u82, u83, u84, u85, u86, u87, u88, u89, u90, u91, u92, u93, u94, u95, u96, u97, u98, u99, u100, u101, u102, u103, u104, u105, u106, u107, u108, u109, u110, u111, u112, u113, u114, u115, u116, u117, u118, u119, u120, u121, u122, u123, u124, u125, u126, u127, u128, u129, u130, u131, u132, u133, u134, u135, u136, u137, u138, u139, u140, u141, u142, u143, u144, u145, u146, u147, undef, undef, undef, undef, undef, undef, undef, undef, undef, undef, undef, undef, undef, undef, undef, undef, undef, undef, undef, undef, undef, undef, undef, undef], []⟩ wr := by
  conv => arg 2; whnf
  obtain ⟨i0, hi, hz0, hz1, hz2⟩ := info_parts Oacg.info5
  obtain ⟨hA0, hA1, hA2, hA3, hA4, hA5, hA6⟩ := HW.out.cells
  have hX := or_x hr0 hr1
  have hP := or_p hr0 hr1
  have hsk : s.size ≤ 1024 := by omega
  have HM0 := hide hm0
  clear hm0
  unfold ScPost at hQ
  cases q43 : (r == 43) with
  | true =>
    have hr43 : r = 43 := by simpa using q43
    subst hr43
    have qH : decide (0 ≤ hv 43) = false := by decide
    clear hX hP q43
    have qX : (Go.bits BinOp.or IntKind.i32 43 32 == 120) = false := by decide
    have qP : (Go.bits BinOp.or IntKind.i32 43 32 == 112) = false := by decide
    have hstep : stepS ⟨3, ng, en, fr, ex, dg⟩ 43 s[k] = none := by simp [stepS, hexI, qH, isX, isP, sgnI, decI]
    have HR := hide (rel_wrong hbig hp hr HS hstep)
    have HB := hide HW.out.bel
    clear hstep HS hr HW
    go_wp2_with (first | (go_at_call 125; refine (digit_any _ _).mono ?_; rintro _ w' ⟨rfl, hw'⟩; obtain rfl := hw'.symm))
    try refine hQ _ _ ?_
    simp [bodyPost, results, Oacg.results71, go_sem, hA0, hA1, hA2, hA3, hA4, hA5]
    exact ⟨HR.out, below_set6 HB.out (Nat.le_refl _) _ _ _ _ _ _⟩
  | false =>
    cases qH : (decide (0 ≤ hv r)) with
    | true =>
      have hstep : stepS ⟨3, ng, en, fr, ex, dg⟩ r s[k] = some ⟨4, ng, en, fr, ex, dg ++ [s[k]]⟩ := by simp [stepS, hexI, sgnI, decI, q43, qH]
      have HT := hide hstep
      have hby := step_byte hp hr (show hexI r = true from qH)
      have hu8 : IntKind.u8.wrap r = r := by
        have h1 := (round_some hp hr hstep).2.2
        have h2 := s[k].toNat_lt
        simp [IntKind.wrap, IntKind.bits, IntKind.signed]; omega
      have HY := hide hby
      clear hstep hby
      go_wp2_with (first | (go_at_call 125; refine (digit_any _ _).mono ?_; rintro _ w' ⟨rfl, hw'⟩; obtain rfl := hw'.symm) | (at_builtin; refine wpList_append_own _ rfl _ _ 151 rfl (w.heap.size + 2) 5 i0 (.int .u8 0) 1 1 Oacg.underlying151 hi hz0 hz1 hz2 rfl (by decide) _ _ _ rfl (HW.out.own.alloc _) ⟨W1.heap.size, 0, none⟩ 1 1 [.int .u8 r] rfl rfl (one_new _ _ _) (by intro u hu; simp at hu; subst hu; rfl) (by unfold maxLen; omega) (by omega) (by rw [World.size_alloc]; exact Nat.le_succ_of_le HW.out.size) ?_; intro v' w3 hown' hgrow3 _; have X : Hid (ScW w w3 s (k + (Utf8.decode s k).2) v' (dg ++ [s[k]])) := HW.out.push (by rw [← HY.out]; exact hown') hgrow3; clear hown' hgrow3))
      have Y := rel_next hp hr HS HT.out X.out HM0.out (by simp) (by simp; omega) (by simp; omega) hx
      exact ⟨⟨_, _, _, _, _, _, _, _, _, _, _, _, _, _, _, _, _, _, _, _, _, _, _, _, _, _, _, _, _, _, _, _, _, _, _, _, _, _, _, _, _, _, _, _, _, _, _, _, _, _, _, _, _, _, _, _, _, _, _, _, _, _, _, _, _, _, _, _, _, _, _, _, _, _, _, _, _, _, _, _, _, _, _, _, _, _, _, _, _, _, _, _, _, _, _, _, _, _, _, _, _, _, _, _, _, _, _, _, _, _, _, _, _, _, _, _, _, _, _, _, _, _, _, _, _, _, _, _, _, _, _, _, _, _, _, _, _, Y.1, rfl⟩, Y.2⟩
    | false =>
      cases q46 : (r == 46) with
      | true =>
        have hstep : stepS ⟨3, ng, en, fr, ex, dg⟩ r s[k] = some ⟨6, ng, en, fr, ex, dg⟩ := by simp [stepS, hexI, sgnI, decI, q43, qH, q46]
        have HT := hide hstep
        clear hstep
        go_wp2_with (first | (go_at_call 125; refine (digit_any _ _).mono ?_; rintro _ w' ⟨rfl, hw'⟩; obtain rfl := hw'.symm))
        have Y := rel_next hp hr HS HT.out HW.out HM0.out (by simp) (by simp; omega) (by simp; omega) hx
        exact ⟨⟨_, _, _, _, _, _, _, _, _, _, _, _, _, _, _, _, _, _, _, _, _, _, _, _, _, _, _, _, _, _, _, _, _, _, _, _, _, _, _, _, _, _, _, _, _, _, _, _, _, _, _, _, _, _, _, _, _, _, _, _, _, _, _, _, _, _, _, _, _, _, _, _, _, _, _, _, _, _, _, _, _, _, _, _, _, _, _, _, _, _, _, _, _, _, _, _, _, _, _, _, _, _, _, _, _, _, _, _, _, _, _, _, _, _, _, _, _, _, _, _, _, _, _, _, _, _, _, _, _, _, _, _, _, _, _, _, _, Y.1, rfl⟩, Y.2⟩
      | false =>
        have hstep : stepS ⟨3, ng, en, fr, ex, dg⟩ r s[k] = none := by simp [stepS, hexI, sgnI, decI, q43, qH, q46]
        have HR := hide (rel_wrong hbig hp hr HS hstep)
        have HB := hide HW.out.bel
        clear hstep HS hr HW
        go_wp2_with (first | (go_at_call 125; refine (digit_any _ _).mono ?_; rintro _ w' ⟨rfl, hw'⟩; obtain rfl := hw'.symm))
        try refine hQ _ _ ?_
        simp [bodyPost, results, Oacg.results71, go_sem, hA0, hA1, hA2, hA3, hA4, hA5]
        exact ⟨HR.out, below_set6 HB.out (Nat.le_refl _) _ _ _ _ _ _⟩
end Go.Proofs.Ygcoac
