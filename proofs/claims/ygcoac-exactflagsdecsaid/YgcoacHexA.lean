/-
  hexa: the digits' values.
-/
import Derived.Test.YgcoacNatTrim
namespace Go.Proofs.Ygcoac
open Go.RowKit
set_option linter.unusedSimpArgs false
set_option linter.unusedVariables false

/-- A character's value as a hexadecimal digit, or -1. -/
def hv (c : Int) : Int :=
  if 48 ≤ c ∧ c ≤ 57 then c - 48 else if 97 ≤ c ∧ c ≤ 102 then c - 87 else if 65 ≤ c ∧ c ≤ 70 then c - 55 else -1

theorem hv_bd (c : Int) : -1 ≤ hv c ∧ hv c ≤ 15 := by
  unfold hv; split
  · omega
  · split
    · omega
    · split <;> omega

theorem hexValue_any (c : Int) (w : World) :
    Calls Oacg.prog 75 #[.int .u8 c] w fun r w' => r = .returned (.int .i64 (hv c)) ∧ w' = w := by
  unfold hv
  go_enter Oacg.func75, Oacg.ntmps75
  go_wp2
  all_goals
    go_ret
    exact ⟨by simp [*] <;> omega, rfl⟩

theorem digit_any (c : Int) (w : World) :
    Calls Oacg.prog 125 #[.int .i32 c] w fun r w' => r = .returned (.int .i64 (hv c)) ∧ w' = w := by
  unfold hv
  go_enter Oacg.func125, Oacg.ntmps125
  go_wp2
  all_goals
    go_ret
    exact ⟨by simp [*] <;> omega, rfl⟩

/-- The bytes of a string. -/
def bytes (s : ByteArray) : List UInt8 := s.data.toList
theorem bytes_length (s : ByteArray) : (bytes s).length = s.size := by simp [bytes]
theorem bytes_get (s : ByteArray) (k : Nat) (h : k < s.size) : (bytes s)[k]? = some s[k] := by
  have : k < s.data.toList.length := by simpa using h
  rw [bytes, List.getElem?_eq_getElem this]; rfl
def hexB (b : UInt8) : Bool := decide (0 ≤ hv (b.toNat : Int))
theorem take_succ_all {l : List UInt8} {k : Nat} {b : UInt8} (h : l[k]? = some b) : (l.take (k + 1)).all hexB = ((l.take k).all hexB && hexB b) := by
  rw [List.take_add_one, h]; simp

theorem all_false {l : List UInt8} {k : Nat} {b : UInt8} (h : l[k]? = some b) (hb : hexB b = false) : l.all hexB = false := by
  rw [List.all_eq_false]
  exact ⟨b, List.mem_of_getElem? h, by simp [hb]⟩

theorem isHex_any (s : ByteArray) (hs : s.size ≤ 140737488355328) (w : World) :
    Calls Oacg.prog 74 #[.string s] w fun r w' => r = .returned (.bool ((bytes s).all hexB)) ∧ w' = w := by
  go_enter Oacg.func74, Oacg.ntmps74
  go_wp2
  go_loop [3] (fun i => ∃ k : Nat, i = .int .i64 (k : Int) ∧ k ≤ s.size ∧ Hid (((bytes s).take k).all hexB = true))
    (fun i => s.size - (intOf i).toNat)
  case atStart => exact ⟨0, rfl, Nat.zero_le _, rfl⟩
  case round =>
    obtain ⟨k, rfl, hk, hall⟩ := hrel
    go_wp2_with (go_at_call 75; refine (hexValue_any _ _).mono ?_; rintro r w' ⟨rfl, rfl⟩)
    · have hlt : k < s.size := by assumption
      have hneg : hv ↑s[k].toNat < 0 := by assumption
      go_ret
      exact ⟨by rw [all_false (bytes_get s k hlt) (by simp [hexB]; omega)]; rfl, rfl⟩
    · have hlt : k < s.size := by assumption
      have hneg : 0 ≤ hv ↑s[k].toNat := by assumption
      refine ⟨⟨k + 1, by simp, by omega, ?_⟩, by simp [intOf]; omega⟩
      show _ = true
      rw [take_succ_all (bytes_get s k hlt), hall.out]
      simp [hexB]; omega
    · have hk' : k = s.size := by omega
      have hall' := hall.out
      rw [hk', ← bytes_length, List.take_length] at hall'
      go_wp2
      go_ret
      exact ⟨by rw [hall']; rfl, rfl⟩
end Go.Proofs.Ygcoac
