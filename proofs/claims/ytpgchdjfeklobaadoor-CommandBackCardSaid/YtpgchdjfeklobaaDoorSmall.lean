/-
  Walks of small checks: keys, values, whether a command is small.
-/
import Derived.Test.YtpgchdjfeklobaaDoorName
namespace Go.Proofs.YtpgchdjfeklobaaDoor
open Go.RowKit

def keyE (s : ByteArray) : Int := if s.size < 1 ∨ 40 < s.size then 100 else 0
def valE (s : ByteArray) : Int := if 200 < s.size then 101 else 0
theorem key_any (s : ByteArray) (w : World) (hs : s.size ≤ 1000000) : Calls Tryd.prog 49 #[.string s] w fun e w' => e = .returned (.int .i64 (keyE s)) ∧ w = w' := by
  unfold keyE
  by_cases h : s.size < 1
  · rw [if_pos (.inl h)]
    go_enter Tryd.func49, Tryd.ntmps49
    go_wp2
    go_ret
    exact ⟨rfl, rfl⟩
  · by_cases h2 : 40 < s.size
    · rw [if_pos (.inr h2)]
      go_enter Tryd.func49, Tryd.ntmps49
      go_wp2
      go_ret
      exact ⟨rfl, rfl⟩
    · rw [if_neg (by omega)]
      go_enter Tryd.func49, Tryd.ntmps49
      go_wp2
      go_ret
      exact ⟨rfl, rfl⟩
theorem rkey_any (s : ByteArray) (w : World) (hs : s.size ≤ 1000000) : Calls Tryd.prog 84 #[.string s] w fun e w' => e = .returned (.int .i64 (keyE s)) ∧ w = w' := by
  unfold keyE
  by_cases h : s.size < 1
  · rw [if_pos (.inl h)]
    go_enter Tryd.func84, Tryd.ntmps84
    go_wp2
    go_ret
    exact ⟨rfl, rfl⟩
  · by_cases h2 : 40 < s.size
    · rw [if_pos (.inr h2)]
      go_enter Tryd.func84, Tryd.ntmps84
      go_wp2
      go_ret
      exact ⟨rfl, rfl⟩
    · rw [if_neg (by omega)]
      go_enter Tryd.func84, Tryd.ntmps84
      go_wp2
      go_ret
      exact ⟨rfl, rfl⟩
theorem val_any (s : ByteArray) (w : World) (hs : s.size ≤ 1000000) : Calls Tryd.prog 50 #[.string s] w fun e w' => e = .returned (.int .i64 (valE s)) ∧ w = w' := by
  unfold valE
  by_cases h2 : 200 < s.size
  · rw [if_pos h2]
    go_enter Tryd.func50, Tryd.ntmps50
    go_wp2
    go_ret
    exact ⟨rfl, rfl⟩
  · rw [if_neg h2]
    go_enter Tryd.func50, Tryd.ntmps50
    go_wp2
    go_ret
    exact ⟨rfl, rfl⟩
theorem rval_any (s : ByteArray) (w : World) (hs : s.size ≤ 1000000) : Calls Tryd.prog 85 #[.string s] w fun e w' => e = .returned (.int .i64 (valE s)) ∧ w = w' := by
  unfold valE
  by_cases h2 : 200 < s.size
  · rw [if_pos h2]
    go_enter Tryd.func85, Tryd.ntmps85
    go_wp2
    go_ret
    exact ⟨rfl, rfl⟩
  · rw [if_neg h2]
    go_enter Tryd.func85, Tryd.ntmps85
    go_wp2
    go_ret
    exact ⟨rfl, rfl⟩

/-! ### texts of commits -/
def charOk (c : Int) : Bool := decide (32 ≤ c ∧ c ≤ 126)
def charsTo (s : ByteArray) (k : Nat) : Bool := (List.range k).all fun j => charOk (byteAt s j)
def textOk (s : ByteArray) : Bool := decide (s.size ≤ 60) && charsTo s s.size
theorem charsTo_succ (s : ByteArray) (k : Nat) : charsTo s (k + 1) = (charsTo s k && charOk (byteAt s k)) := by
  unfold charsTo; rw [List.range_succ, List.all_append]; simp
theorem charsTo_false {s : ByteArray} {k : Nat} (hk : k < s.size) (h : charOk (byteAt s k) = false) : charsTo s s.size = false := by
  unfold charsTo; rw [List.all_eq_false]; exact ⟨k, by simpa using hk, by simp [h]⟩
set_option maxRecDepth 100000 in
set_option maxHeartbeats 1000000 in
theorem rtextok_any (s : ByteArray) (w : World) (hs : s.size ≤ maxLen) : Calls Tryd.prog 87 #[.string s] w fun e w' => e = .returned (.bool (textOk s)) ∧ w = w' := by
  unfold maxLen at hs
  go_enter Tryd.func87, Tryd.ntmps87
  go_wp2
  go_loop [3] (fun i => ∃ k : Nat, k ≤ s.size ∧ i = .int .i64 k ∧ charsTo s k = true) (fun i => s.size - (intOf i).toNat)
  case atStart => exact ⟨0, Nat.zero_le _, rfl, rfl⟩
  case round =>
    obtain ⟨k, hk, rfl, ht⟩ := hrel
    have HT := Lib.hid ht
    clear ht
    go_wp2
    all_goals try (have hlt : k < s.size := by assumption)
    all_goals first
      | (go_round
         case rel =>
           refine ⟨k + 1, by omega, by go_num, ?_⟩
           rw [charsTo_succ, HT.out, byteAt_get hlt]
           grind [charOk]
         case measure => simp [intOf]; omega)
      | (go_ret
         refine ⟨ret_bool ?_, rfl⟩
         first
          | (have h0 : charOk (byteAt s k) = false := by rw [byteAt_get hlt]; grind [charOk]
             rw [textOk, charsTo_false hlt h0]; simp; done)
          | (obtain rfl : k = s.size := by omega
             rw [textOk, HT.out]; grind))
end Go.Proofs.YtpgchdjfeklobaaDoor
