/-
  hexa.Scan and hmodel.Scan: the plain machine.
-/
import Derived.Test.YgcoacHexL
import Derived.Lib.OthersKept
namespace Go.Proofs.Ygcoac
open Go.RowKit
set_option linter.unusedSimpArgs false
set_option linter.unusedVariables false

/-! ### The machine -/
structure Sc where
  st : Nat
  neg : Bool
  en : Bool
  frac : Nat
  ex : Nat
  dig : List UInt8
def Sc.start : Sc := ⟨0, false, false, 0, 0, []⟩
def sgnI (r : Int) : Bool := r == 43 || r == 45
def hexI (r : Int) : Bool := decide (0 ≤ hv r)
def isX (r : Int) : Bool := r == 88 || r == 120
def isP (r : Int) : Bool := r == 80 || r == 112
def decI (r : Int) : Bool := decide (48 ≤ r) && decide (r ≤ 57)
def satE (x : Nat) (r : Int) : Nat := min (10 * x + (r - 48).toNat) 1000000
def stepS (c : Sc) (r : Int) (b : UInt8) : Option Sc :=
  match c.st with
  | 0 => if sgnI r then some { c with neg := r == 45, st := 1 } else if r == 48 then some { c with st := 2 } else none
  | 1 => if r == 48 then some { c with st := 2 } else none
  | 2 => if isX r then some { c with st := 3 } else none
  | 3 => if hexI r then some { c with st := 4, dig := c.dig ++ [b] } else if r == 46 then some { c with st := 6 } else none
  | 4 => if hexI r then some { c with st := 4, dig := c.dig ++ [b] } else if r == 46 then some { c with st := 5 } else if isP r then some { c with st := 8 } else none
  | 5 => if hexI r then some { c with st := 7, dig := c.dig ++ [b], frac := c.frac + 1 } else if isP r then some { c with st := 8 } else none
  | 6 => if hexI r then some { c with st := 7, dig := c.dig ++ [b], frac := c.frac + 1 } else none
  | 7 => if hexI r then some { c with st := 7, dig := c.dig ++ [b], frac := c.frac + 1 } else if isP r then some { c with st := 8 } else none
  | 8 => if sgnI r then some { c with en := r == 45, st := 9 } else if decI r then some { c with st := 10, ex := satE c.ex r } else none
  | 9 => if decI r then some { c with st := 10, ex := satE c.ex r } else none
  | 10 => if decI r then some { c with st := 10, ex := satE c.ex r } else none
  | _ => none

inductive Out
  | wrong (left : List UInt8)
  | made (neg : Bool) (dig : List UInt8) (x : Int)
def Sc.fin (c : Sc) : Out := if c.st = 10 then .made c.neg c.dig ((if c.en then -(c.ex : Int) else (c.ex : Int)) - 4 * (c.frac : Int)) else .wrong []
def goS : Sc → List UInt8 → Out
  | c, [] => c.fin
  | c, b :: t => match stepS c (b.toNat : Int) b with
    | some d => goS d t
    | none => .wrong (b :: t)

theorem goS_nil (c : Sc) : goS c [] = c.fin := rfl
theorem goS_some {c d : Sc} {b : UInt8} {t : List UInt8} (h : stepS c (b.toNat : Int) b = some d) : goS c (b :: t) = goS d t := by simp [goS, h]
theorem goS_none {c : Sc} {b : UInt8} {t : List UInt8} (h : stepS c (b.toNat : Int) b = none) : goS c (b :: t) = .wrong (b :: t) := by simp [goS, h]

/-- A rune beyond ASCII stops the machine in every state. -/
theorem hv_high {r : Int} (h : 128 ≤ r) : hv r = -1 := by unfold hv; rw [if_neg (by omega), if_neg (by omega), if_neg (by omega)]
theorem step_high (c : Sc) {r : Int} (h : 128 ≤ r) (b : UInt8) : stepS c r b = none := by
  have h1 : sgnI r = false := by simp [sgnI]; omega
  have h2 : (r == 48) = false := by simp; omega
  have h3 : isX r = false := by simp [isX]; omega
  have h4 : hexI r = false := by simp [hexI, hv_high h]
  have h5 : (r == 46) = false := by simp; omega
  have h6 : isP r = false := by simp [isP]; omega
  have h7 : decI r = false := by simp [decI]; omega
  unfold stepS
  split <;> simp [*]

/-! ### Runs -/
theorem goS_int (n e : Bool) (f x : Nat) : ∀ (h d r : List UInt8), h.all hexB = true → goS ⟨4, n, e, f, x, d⟩ (h ++ r) = goS ⟨4, n, e, f, x, d ++ h⟩ r
  | [], d, r, _ => by simp
  | b :: h, d, r, ha => by
    simp only [List.all_cons, Bool.and_eq_true] at ha
    have hb : hexI (b.toNat : Int) = true := ha.1
    rw [List.cons_append, goS_some (d := ⟨4, n, e, f, x, d ++ [b]⟩) (by simp [stepS, hb]), goS_int n e f x h _ r ha.2]
    simp
theorem goS_frac (n e : Bool) (x : Nat) : ∀ (h d r : List UInt8) (f : Nat), h.all hexB = true → goS ⟨7, n, e, f, x, d⟩ (h ++ r) = goS ⟨7, n, e, f + h.length, x, d ++ h⟩ r
  | [], d, r, f, _ => by simp
  | b :: h, d, r, f, ha => by
    simp only [List.all_cons, Bool.and_eq_true] at ha
    have hb : hexI (b.toNat : Int) = true := ha.1
    rw [List.cons_append, goS_some (d := ⟨7, n, e, f + 1, x, d ++ [b]⟩) (by simp [stepS, hb]), goS_frac n e x h _ r (f + 1) ha.2]
    simp [Nat.add_comm, Nat.add_left_comm]
def decB (b : UInt8) : Bool := decI (b.toNat : Int)
/-- The saturated exponent. -/
def satL (x : Nat) (l : List UInt8) : Nat := l.foldl (fun a b => satE a (b.toNat : Int)) x
theorem goS_exp (n e : Bool) (f : Nat) (d : List UInt8) : ∀ (h r : List UInt8) (x : Nat), h.all decB = true → goS ⟨10, n, e, f, x, d⟩ (h ++ r) = goS ⟨10, n, e, f, satL x h, d⟩ r
  | [], r, x, _ => by simp [satL]
  | b :: h, r, x, ha => by
    simp only [List.all_cons, Bool.and_eq_true] at ha
    have hb : decI (b.toNat : Int) = true := ha.1
    rw [List.cons_append, goS_some (d := ⟨10, n, e, f, satE x (b.toNat : Int), d⟩) (by simp [stepS, hb]), goS_exp n e f d h r _ ha.2]
    rfl

/-- The states behind the digits ahead of a point, and behind those that follow it. -/
def stI (h : List UInt8) : Nat := if h = [] then 3 else 4
theorem goS_ip (n : Bool) {h : List UInt8} (ha : h.all hexB = true) (r : List UInt8) : goS ⟨3, n, false, 0, 0, []⟩ (h ++ r) = goS ⟨stI h, n, false, 0, 0, h⟩ r := by
  cases h with
  | nil => rfl
  | cons b h =>
    simp only [List.all_cons, Bool.and_eq_true] at ha
    have hb : hexI (b.toNat : Int) = true := ha.1
    rw [List.cons_append, goS_some (d := ⟨4, n, false, 0, 0, [] ++ [b]⟩) (by simp [stepS, hb]), goS_int _ _ _ _ _ _ _ ha.2]
    simp [stI]
theorem goS_dot (n : Bool) (h r : List UInt8) {b : UInt8} (hb : b.toNat = 46) : goS ⟨stI h, n, false, 0, 0, h⟩ (b :: r) = goS ⟨if h = [] then 6 else 5, n, false, 0, 0, h⟩ r := by
  have h1 : hexI 46 = false := by decide
  unfold stI
  split
  · exact goS_some (by simp [stepS, hb, h1])
  · exact goS_some (by simp [stepS, hb, h1])
def stF (h g : List UInt8) : Nat := if g = [] then (if h = [] then 6 else 5) else 7
theorem goS_fp (n : Bool) (h : List UInt8) {g : List UInt8} (ha : g.all hexB = true) (r : List UInt8) :
    goS ⟨if h = [] then 6 else 5, n, false, 0, 0, h⟩ (g ++ r) = goS ⟨stF h g, n, false, g.length, 0, h ++ g⟩ r := by
  cases g with
  | nil => simp [stF]
  | cons b g =>
    simp only [List.all_cons, Bool.and_eq_true] at ha
    have hb : hexI (b.toNat : Int) = true := ha.1
    have hs : goS ⟨if h = [] then 6 else 5, n, false, 0, 0, h⟩ (b :: (g ++ r)) = goS ⟨7, n, false, 1, 0, h ++ [b]⟩ (g ++ r) := by
      split
      · exact goS_some (by simp [stepS, hb])
      · exact goS_some (by simp [stepS, hb])
    rw [List.cons_append, hs, goS_frac _ _ _ _ _ _ _ ha.2]
    simp [stF, Nat.add_comm]

/-! ### Where it goes wrong -/
theorem wrong_ip (n : Bool) {h r : List UInt8} {b : UInt8} (ha : h.all hexB = true) (hb : hexB b = false) (hd : ¬ b.toNat = 46) (hp : isP (b.toNat : Int) = false) :
    goS ⟨3, n, false, 0, 0, []⟩ (h ++ b :: r) = .wrong (b :: r) := by
  have hb' : hexI (b.toNat : Int) = false := hb
  have hd' : ((b.toNat : Int) == 46) = false := by simp; omega
  rw [goS_ip n ha]
  unfold stI
  split
  · exact goS_none (by simp [stepS, hb', hd'])
  · exact goS_none (by simp [stepS, hb', hd', hp])
theorem wrong_fp (n : Bool) {h g r : List UInt8} {d b : UInt8} (ha : h.all hexB = true) (hd : d.toNat = 46) (hg : g.all hexB = true) (hb : hexB b = false) (hp : isP (b.toNat : Int) = false) :
    goS ⟨3, n, false, 0, 0, []⟩ (h ++ d :: (g ++ b :: r)) = .wrong (b :: r) := by
  have hb' : hexI (b.toNat : Int) = false := hb
  rw [goS_ip n ha, goS_dot n h _ hd, goS_fp n h hg]
  unfold stF
  split
  · split
    · exact goS_none (by simp [stepS, hb'])
    · exact goS_none (by simp [stepS, hb', hp])
  · exact goS_none (by simp [stepS, hb', hp])
/-- The pieces ahead of the p: digits, and maybe a point and digits. -/
inductive Man (h g : List UInt8) : List UInt8 → Prop
  | plain (hg : g = []) : Man h g h
  | dot (d : UInt8) (hd : d.toNat = 46) : Man h g (h ++ d :: g)
def stM (h g m : List UInt8) : Nat := if m = h then stI h else stF h g
theorem goS_man (n : Bool) {h g m r : List UInt8} (hm : Man h g m) (ha : h.all hexB = true) (hg : g.all hexB = true) :
    ∃ st, goS ⟨3, n, false, 0, 0, []⟩ (m ++ r) = goS ⟨st, n, false, g.length, 0, h ++ g⟩ r ∧ ((h ++ g = [] ∧ (st = 3 ∨ st = 6)) ∨ (h ++ g ≠ [] ∧ (st = 4 ∨ st = 5 ∨ st = 7))) := by
  cases hm with
  | plain hg0 =>
    subst hg0
    refine ⟨stI h, by rw [goS_ip n ha]; simp, ?_⟩
    unfold stI
    by_cases hh : h = []
    · simp [hh]
    · simp [hh]
  | dot d hd =>
    refine ⟨stF h g, by rw [List.append_assoc, goS_ip n ha, List.cons_append, goS_dot n h _ hd, goS_fp n h hg], ?_⟩
    unfold stF
    split
    · split <;> simp_all
    · simp_all
theorem wrong_end (n : Bool) {h g m : List UInt8} (hm : Man h g m) (ha : h.all hexB = true) (hg : g.all hexB = true) :
    goS ⟨3, n, false, 0, 0, []⟩ m = .wrong [] := by
  obtain ⟨st, h1, h2⟩ := goS_man n (r := []) hm ha hg
  rw [List.append_nil] at h1
  rw [h1, goS_nil]
  unfold Sc.fin
  rw [if_neg]
  show ¬ st = 10
  rcases h2 with ⟨_, h | h⟩ | ⟨_, h | h | h⟩ <;> omega
theorem wrong_p (n : Bool) {h g m r : List UInt8} {b : UInt8} (hm : Man h g m) (ha : h.all hexB = true) (hg : g.all hexB = true) (he : h ++ g = []) (hp : isP (b.toNat : Int) = true) :
    goS ⟨3, n, false, 0, 0, []⟩ (m ++ b :: r) = .wrong (b :: r) := by
  obtain ⟨st, h1, h2⟩ := goS_man n (r := b :: r) hm ha hg
  have hx : hexI (b.toNat : Int) = false ∧ ((b.toNat : Int) == 46) = false := by
    simp only [isP, Bool.or_eq_true, beq_iff_eq] at hp
    rcases hp with hp | hp <;> rw [hp] <;> decide
  rw [h1]
  rcases h2 with ⟨_, h | h⟩ | ⟨h, _⟩
  · subst h; exact goS_none (by simp [stepS, hx.1, hx.2])
  · subst h; exact goS_none (by simp [stepS, hx.1, hx.2])
  · exact absurd he h
theorem goS_p (n : Bool) {h g m r : List UInt8} {b : UInt8} (hm : Man h g m) (ha : h.all hexB = true) (hg : g.all hexB = true) (he : h ++ g ≠ []) (hp : isP (b.toNat : Int) = true) :
    goS ⟨3, n, false, 0, 0, []⟩ (m ++ b :: r) = goS ⟨8, n, false, g.length, 0, h ++ g⟩ r := by
  obtain ⟨st, h1, h2⟩ := goS_man n (r := b :: r) hm ha hg
  have hx : hexI (b.toNat : Int) = false ∧ ((b.toNat : Int) == 46) = false := by
    simp only [isP, Bool.or_eq_true, beq_iff_eq] at hp
    rcases hp with hp | hp <;> rw [hp] <;> decide
  rw [h1]
  rcases h2 with ⟨h, _⟩ | ⟨_, h | h | h⟩
  · exact absurd h he
  · subst h; exact goS_some (by simp [stepS, hx.1, hx.2, hp])
  · subst h; exact goS_some (by simp [stepS, hx.1, hx.2, hp])
  · subst h; exact goS_some (by simp [stepS, hx.1, hx.2, hp])
/-- The exponent, behind the p (8) or its sign (9). -/
theorem dec_not_sgn {r : Int} (h : decI r = true) : sgnI r = false := by
  simp only [decI, Bool.and_eq_true, decide_eq_true_eq] at h
  simp [sgnI]; omega
theorem goS_e (st : Nat) (hst : st = 8 ∨ st = 9) (n e : Bool) (f : Nat) (d : List UInt8) {h : List UInt8} (ha : h.all decB = true) (hne : h ≠ []) (r : List UInt8) :
    goS ⟨st, n, e, f, 0, d⟩ (h ++ r) = goS ⟨10, n, e, f, satL 0 h, d⟩ r := by
  cases h with
  | nil => exact absurd rfl hne
  | cons b h =>
    simp only [List.all_cons, Bool.and_eq_true] at ha
    have hb : decI (b.toNat : Int) = true := ha.1
    have hs := dec_not_sgn hb
    have h1 : goS ⟨st, n, e, f, 0, d⟩ (b :: (h ++ r)) = goS ⟨10, n, e, f, satE 0 (b.toNat : Int), d⟩ (h ++ r) := by
      rcases hst with rfl | rfl
      · exact goS_some (by simp [stepS, hb, hs])
      · exact goS_some (by simp [stepS, hb])
    rw [List.cons_append, h1, goS_exp _ _ _ _ _ _ _ ha.2]
    rfl
theorem wrong_e (st : Nat) (hst : st = 8 ∨ st = 9) (n e : Bool) (f : Nat) (d : List UInt8) {h r : List UInt8} {b : UInt8} (ha : h.all decB = true) (hb : decB b = false) (hs : st = 8 → h = [] → sgnI (b.toNat : Int) = false) :
    goS ⟨st, n, e, f, 0, d⟩ (h ++ b :: r) = .wrong (b :: r) := by
  have hb' : decI (b.toNat : Int) = false := hb
  by_cases hne : h = []
  · subst hne
    rcases hst with rfl | rfl
    · exact goS_none (by simp [stepS, hb', hs rfl rfl])
    · exact goS_none (by simp [stepS, hb'])
  · rw [goS_e st hst n e f d ha hne]
    exact goS_none (by simp [stepS, hb'])
theorem wrong_e0 (st : Nat) (hst : st = 8 ∨ st = 9) (n e : Bool) (f : Nat) (d : List UInt8) : goS ⟨st, n, e, f, 0, d⟩ [] = .wrong [] := by
  rcases hst with rfl | rfl <;> rfl
theorem good_e (st : Nat) (hst : st = 8 ∨ st = 9) (n e : Bool) (f : Nat) (d : List UInt8) {h : List UInt8} (ha : h.all decB = true) (hne : h ≠ []) :
    goS ⟨st, n, e, f, 0, d⟩ h = .made n d ((if e then -(satL 0 h : Int) else (satL 0 h : Int)) - 4 * (f : Int)) := by
  have := goS_e st hst n e f d ha hne []
  rw [List.append_nil] at this
  rw [this]; rfl
theorem satL_le (l : List UInt8) : ∀ x, x ≤ 1000000 → satL x l ≤ 1000000 := by
  induction l with
  | nil => intro x h; exact h
  | cons b l ih => intro x h; exact ih _ (Nat.min_le_right _ _)

/-! ### What both scanners answer -/
def gotOf (s : ByteArray) (p : Nat) : Int := if p < s.size then ((Utf8.decode s p).1 : Int) else -1
def scanV (k : Int) (n : Bool) (t : ByteArray) (x p g : Int) : Value := .agg #[.int .u8 k, .bool n, .string t, .int .i16 x, .int .i64 p, .int .i32 g]
def wrongV (s : ByteArray) (p : Nat) : Value := scanV 3 false ⟨#[]⟩ 0 (p : Int) (gotOf s p)
def tooBig : Value := scanV 4 false ⟨#[]⟩ 0 0 0
/-- What Scan makes of Make's answer. -/
inductive ScanOf : Value → Value → Prop
  | bad (n : Bool) (t : ByteArray) (x : Int) : ScanOf (hexR n t x false) tooBig
  | good (n : Bool) (t : ByteArray) (x : Int) : ScanOf (hexR n t x true) (scanV 0 n t x 0 0)
def ScanR (s : ByteArray) (v : Value) : Prop :=
  if 1024 < s.size then v = tooBig
  else match goS Sc.start (bytes s) with
    | .wrong l => v = wrongV s (s.size - l.length)
    | .made n d x => ∃ u, Made d n x u ∧ ScanOf u v

theorem Spans.last_eq {l : List UInt8} {f e f' e' : Nat} (h : Spans l l.length f e) (h' : Spans l l.length f' e') : f = f' ∧ e = e' := by
  rcases h.parts with ⟨a, b, c⟩ | ⟨a, b, c, d, g, i⟩
  · rcases h'.parts with ⟨a', b', c'⟩ | ⟨a', b', c', d', g', i'⟩
    · omega
    · have := c f' (by omega); omega
  · rcases h'.parts with ⟨a', b', c'⟩ | ⟨a', b', c', d', g', i'⟩
    · have := c' f (by omega); omega
    · have h1 : f = f' := by
        rcases Nat.lt_trichotomy f f' with h | h | h
        · have := g' f h; omega
        · exact h
        · have := g f' h; omega
      have h2 : e = e' := by
        rcases Nat.lt_trichotomy e e' with h | h | h
        · have := i (e' - 1) (by omega) (by omega); omega
        · exact h
        · have := i' (e - 1) (by omega) (by omega); omega
      exact ⟨h1, h2⟩
theorem Spans.end_le {l : List UInt8} {f e : Nat} (h : Spans l l.length f e) : e ≤ l.length := by
  rcases h.parts with ⟨a, b, c⟩ | ⟨a, b, c, d, g, i⟩ <;> omega
theorem Made.same {l : List UInt8} {n : Bool} {x : Int} {u v : Value} (h : Made l n x u) (k : Made l n x v) : u = v := by
  cases h with
  | bad j hj hn =>
    cases k with
    | bad => rfl
    | zero f hs => have := hs.hex j hj; omega
    | over => rfl
    | ok f e t he hs => have := hs.hex j hj; omega
  | zero f hs =>
    cases k with
    | bad j hj hn => have := hs.hex j hj; omega
    | zero => rfl
    | over f e he hs' => have := (hs.last_eq hs').2; omega
    | ok f e t he hs' => have := (hs.last_eq hs').2; omega
  | over f e he hs ho =>
    cases k with
    | bad => rfl
    | zero f hs' => have := (hs.last_eq hs').2; omega
    | over => rfl
    | ok f' e' t he' hs' h1 h2 h3 => have := hs.end_le; obtain ⟨rfl, rfl⟩ := hs.last_eq hs'; omega
  | ok f e t he hs h1 h2 h3 ht hl =>
    cases k with
    | bad j hj hn => have := hs.hex j hj; omega
    | zero f hs' => have := (hs.last_eq hs').2; omega
    | over f' e' he' hs' ho => have := hs.end_le; obtain ⟨rfl, rfl⟩ := hs.last_eq hs'; omega
    | ok f' e' t' he' hs' h1' h2' h3' ht' hl' =>
      obtain ⟨rfl, rfl⟩ := hs.last_eq hs'
      have : t = t' := by
        apply List.ext_getElem?
        intro j
        by_cases hj : j < t.length
        · rw [hl j hj, hl' j (by omega)]
        · rw [List.getElem?_eq_none (by omega), List.getElem?_eq_none (by omega)]
      rw [this]
theorem ScanR.same {s : ByteArray} {u v : Value} (h : ScanR s u) (k : ScanR s v) : u = v := by
  unfold ScanR at h k
  split at h
  · rename_i hs
    rw [if_pos hs] at k; rw [h, k]
  · rename_i hs
    rw [if_neg hs] at k
    cases hg : goS Sc.start (bytes s) with
    | wrong l => rw [hg] at h k; simp only at h k; rw [h, k]
    | made n d x =>
      rw [hg] at h k
      obtain ⟨a, ha, hb⟩ := h
      obtain ⟨a', ha', hb'⟩ := k
      rw [ha.same ha'] at hb
      cases hb with
      | bad => cases hb'; rfl
      | good => cases hb'; rfl
theorem ScanR.agg {s : ByteArray} {v : Value} (h : ScanR s v) : ∃ k n t x p g, v = scanV k n t x p g := by
  unfold ScanR at h
  split at h
  · exact ⟨_, _, _, _, _, _, h⟩
  · split at h
    · exact ⟨_, _, _, _, _, _, h⟩
    · obtain ⟨a, ha, hb⟩ := h
      cases hb
      · exact ⟨_, _, _, _, _, _, rfl⟩
      · exact ⟨_, _, _, _, _, _, rfl⟩
end Go.Proofs.Ygcoac
