/-
  Walk: texts of commits, in the program.
-/
import Derived.Test.YtpgchdjfeklobaaDoorNeeds
namespace Go.Proofs.YtpgchdjfeklobaaDoor
open Go.RowKit

theorem badchar_any (c : Int) (w : World) (h0 : 0 ≤ c) (h1 : c ≤ 255) : Calls Tryd.prog 92 #[.int .u8 c] w fun e w' => e = .returned (.bool (!charOk c)) ∧ w = w' := by
  by_cases ha : c < 32
  · go_enter Tryd.func92, Tryd.ntmps92
    go_wp2
    go_ret
    exact ⟨ret_bool (by simp [charOk]; omega), rfl⟩
  · by_cases hb : 126 < c
    · have q : decide (126 < c) = true := by simpa using hb
      go_enter Tryd.func92, Tryd.ntmps92
      go_wp2
      go_ret
      exact ⟨ret_bool (by simp [charOk]; omega), rfl⟩
    · have q : decide (126 < c) = false := by simpa using hb
      go_enter Tryd.func92, Tryd.ntmps92
      go_wp2
      go_ret
      exact ⟨ret_bool (by simp [charOk]; omega), rfl⟩
def IdxSaid (s : ByteArray) (w : World) (e : Ending) (w' : World) : Prop := ∃ r : Int, e = .returned (.int .i64 r) ∧ decide (0 ≤ r) = !charsTo s s.size ∧ w = w'
set_option maxRecDepth 100000 in
set_option maxHeartbeats 1000000 in
theorem index_any (s : ByteArray) (b cap : Nat) (w : World) (hs : s.size ≤ 1000000) (hc : ∀ j, j < s.size → w.cell? ⟨b, j, none⟩ = some (.int .u8 (byteAt s j))) :
    Calls Tryd.prog 107 #[.slice (some ⟨b, 0, none⟩) s.size cap, .func (.func 92) #[] #[]] w (IdxSaid s w) := by
  have HC := Lib.hid hc
  clear hc
  go_enter Tryd.func107, Tryd.ntmps107
  go_wp2
  go_loop [5, 8] (fun _ i => ∃ k : Nat, k ≤ s.size ∧ i = .int .i64 k ∧ charsTo s k = true) (fun _ i => s.size - (intOf i).toNat)
  case atStart => exact ⟨0, Nat.zero_le _, rfl, rfl⟩
  case round =>
    obtain ⟨k, hk, rfl, ht⟩ := hrel
    have HT := Lib.hid ht
    clear ht
    obtain ⟨c0, c1⟩ := byteAt_bd s k
    have hcell : k < s.size → w.cell? ⟨b, k, none⟩ = some (.int .u8 (byteAt s k)) := fun h => HC.out k h
    go_wp2_with (go_at_call 92; refine (badchar_any _ _ (by omega) (by omega)).mono ?_; rintro e w1 ⟨rfl, rfl⟩)
    · have hlt : k < s.size := by assumption
      have h0 : charOk (byteAt s k) = false := by
        have h1 : (!charOk (byteAt s k)) = true := by assumption
        simpa using h1
      go_ret
      exact ⟨_, rfl, by rw [charsTo_false hlt h0]; simp, rfl⟩
    · have hlt : k < s.size := by assumption
      have h0 : charOk (byteAt s k) = true := by
        have h1 : (!charOk (byteAt s k)) = false := by assumption
        simpa using h1
      exact ⟨⟨k + 1, by omega, by go_num, by rw [charsTo_succ, HT.out, h0]; rfl⟩, by simp [intOf]; omega⟩
    · have hge : ¬ k < s.size := by assumption
      obtain rfl : k = s.size := by omega
      go_ret
      exact ⟨_, rfl, by rw [HT.out]; rfl, rfl⟩
def ContSaid (s : ByteArray) (w : World) (e : Ending) (w' : World) : Prop := e = .returned (.bool (!charsTo s s.size)) ∧ w = w'
set_option maxRecDepth 100000 in
set_option maxHeartbeats 1000000 in
theorem contains_any (s : ByteArray) (b cap : Nat) (w : World) (hs : s.size ≤ 1000000) (hc : ∀ j, j < s.size → w.cell? ⟨b, j, none⟩ = some (.int .u8 (byteAt s j))) :
    Calls Tryd.prog 91 #[.slice (some ⟨b, 0, none⟩) s.size cap, .func (.func 92) #[] #[]] w (ContSaid s w) := by
  have HC := Lib.hid hc
  clear hc
  go_enter Tryd.func91, Tryd.ntmps91
  go_wp2_with (go_at_call 107; refine (index_any s b cap w hs HC.out).mono ?_; rintro e w1 ⟨r, rfl, hr, rfl⟩; have HR := Lib.hid hr; clear hr)
  go_ret
  exact ⟨ret_bool HR.out, rfl⟩
set_option maxRecDepth 100000 in
set_option maxHeartbeats 1000000 in
theorem text16 (s : ByteArray) (w : World) (hs : s.size ≤ 1000000) : Calls Tryd.prog 53 #[.string s] w fun e w' => e = .returned (.bool (textOk s)) ∧ Below w.heap.size w w' := by
  by_cases h60 : 60 < s.size
  · go_enter Tryd.func53, Tryd.ntmps53
    go_wp2
    go_ret
    exact ⟨ret_bool (by unfold textOk; rw [decide_eq_false (by omega)]; rfl), Below.refl _ _⟩
  · obtain ⟨W, cap, hconv, hcell, hb⟩ := bytes_of w (P := Tryd.prog) 9 24 5 s Tryd.underlying9 Tryd.underlying24 Tryd.underlying5
    have HC := Lib.hid hcell
    have HB := Lib.hid hb
    clear hcell hb
    go_enter Tryd.func53, Tryd.ntmps53
    go_wp2_with (go_at_call 91; refine (contains_any s _ cap W hs HC.out).mono ?_; rintro e w1 ⟨rfl, rfl⟩)
    go_ret
    exact ⟨ret_bool (by unfold textOk; rw [decide_eq_true (by omega)]; simp), HB.out⟩
end Go.Proofs.YtpgchdjfeklobaaDoor
