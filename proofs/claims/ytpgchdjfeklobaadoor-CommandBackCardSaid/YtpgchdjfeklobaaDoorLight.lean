/-
  Walk: whether a command is small.
-/
import Derived.Test.YtpgchdjfeklobaaDoorSmall
namespace Go.Proofs.YtpgchdjfeklobaaDoor
open Go.RowKit

def light (c : CmdD) : Bool := decide (c.name.size ≤ 60) && (decide (c.other.size ≤ 60) && (decide (c.key.size ≤ 60) && decide (c.val.size ≤ 250)))
theorem below_box (w : World) (o : Obj) : Below w.heap.size w (w.alloc o) := (Below.refl _ _).alloc (Nat.le_refl _) _
set_option maxRecDepth 100000 in
set_option maxHeartbeats 1000000 in
theorem light_any (c : CmdD) (w : World) (ht : ∀ s ∈ c.texts, s.size ≤ maxLen) : Calls Tryd.prog 10 #[.agg c.cells] w fun e w' => e = .returned (.bool (light c)) ∧ Below w.heap.size w w' := by
  have h1 : c.name.size ≤ maxLen := ht _ (by simp)
  have h2 : c.other.size ≤ maxLen := ht _ (by simp)
  have h3 : c.key.size ≤ maxLen := ht _ (by simp)
  have h4 : c.val.size ≤ maxLen := ht _ (by simp)
  unfold maxLen at h1 h2 h3 h4
  clear ht
  unfold light
  by_cases q1 : c.name.size ≤ 60
  · by_cases q2 : c.other.size ≤ 60
    · by_cases q3 : c.key.size ≤ 60
      · by_cases q4 : c.val.size ≤ 250
        all_goals
          go_enter Tryd.func10, Tryd.ntmps10
          go_wp2
          go_ret
          exact ⟨ret_bool (by simp [*]; try omega), below_box _ _⟩
      · go_enter Tryd.func10, Tryd.ntmps10
        go_wp2
        go_ret
        exact ⟨ret_bool (by simp [*]; try omega), below_box _ _⟩
    · go_enter Tryd.func10, Tryd.ntmps10
      go_wp2
      go_ret
      exact ⟨ret_bool (by simp [*]; try omega), below_box _ _⟩
  · go_enter Tryd.func10, Tryd.ntmps10
    go_wp2
    go_ret
    exact ⟨ret_bool (by simp [*]; try omega), below_box _ _⟩
end Go.Proofs.YtpgchdjfeklobaaDoor
