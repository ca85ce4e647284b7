/-
  Walks of the small words of checks: within, holds, when.
-/
import Derived.Test.YtpgchdjfeklobaaDoorLight
namespace Go.Proofs.YtpgchdjfeklobaaDoor
open Go.RowKit

def whenE (is : Bool) (e : Int) : Int := if is then e else 0
theorem when_any (is : Bool) (e : Int) (w : World) : Calls Tryd.prog 86 #[.bool is, .int .i64 e] w fun r w' => r = .returned (.int .i64 (whenE is e)) ∧ w = w' := by
  cases is
  · go_enter Tryd.func86, Tryd.ntmps86
    go_wp2
    go_ret
    exact ⟨rfl, rfl⟩
  · go_enter Tryd.func86, Tryd.ntmps86
    go_wp2
    go_ret
    exact ⟨rfl, rfl⟩
theorem holds_any (is : Bool) (e : Int) (w : World) : Calls Tryd.prog 52 #[.bool is, .int .i64 e] w fun r w' => r = .returned (.int .i64 (whenE (!is) e)) ∧ w = w' := by
  cases is
  · go_enter Tryd.func52, Tryd.ntmps52
    go_wp2
    go_ret
    exact ⟨rfl, rfl⟩
  · go_enter Tryd.func52, Tryd.ntmps52
    go_wp2
    go_ret
    exact ⟨rfl, rfl⟩
theorem within_any (n most e : Int) (w : World) : Calls Tryd.prog 51 #[.int .i64 n, .int .i64 most, .int .i64 e] w fun r w' => r = .returned (.int .i64 (whenE (decide (n < 0 ∨ most < n)) e)) ∧ w = w' := by
  by_cases h : n < 0
  · have e1 : whenE (decide (n < 0 ∨ most < n)) e = e := by simp [whenE, h]
    rw [e1]
    clear e1
    go_enter Tryd.func51, Tryd.ntmps51
    go_wp2
    go_ret
    exact ⟨rfl, rfl⟩
  · by_cases h2 : most < n
    · have e1 : whenE (decide (n < 0 ∨ most < n)) e = e := by simp [whenE, h2]
      rw [e1]
      clear e1
      go_enter Tryd.func51, Tryd.ntmps51
      go_wp2
      go_ret
      exact ⟨rfl, rfl⟩
    · have e1 : whenE (decide (n < 0 ∨ most < n)) e = 0 := by simp [whenE, h, h2]
      rw [e1]
      clear e1
      go_enter Tryd.func51, Tryd.ntmps51
      go_wp2
      go_ret
      exact ⟨rfl, rfl⟩
end Go.Proofs.YtpgchdjfeklobaaDoor
