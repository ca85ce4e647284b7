/-
  Walk: Check of the reference, whatever the command.
-/
import Derived.Test.YtpgchdjfeklobaaDoorR1
import Derived.Test.YtpgchdjfeklobaaDoorR2
import Derived.Test.YtpgchdjfeklobaaDoorR3
import Derived.Test.YtpgchdjfeklobaaDoorR4
import Derived.Test.YtpgchdjfeklobaaDoorR5
namespace Go.Proofs.YtpgchdjfeklobaaDoor
open Go.RowKit

set_option maxRecDepth 100000 in
set_option maxHeartbeats 4000000 in
theorem rcheck_out (c : CmdD) (w : World) (h : ¬ (1 ≤ c.kind ∧ c.kind ≤ 20)) : Calls Tryd.prog 39 #[.agg c.cells] w (ChkSaid c w) := by
  have HK := Lib.hid (chk_out h)
  have q1 : (c.kind == 1) = false := by rw [beq_eq_false_iff_ne]; omega
  have q2 : (c.kind == 2) = false := by rw [beq_eq_false_iff_ne]; omega
  have q3 : (c.kind == 3) = false := by rw [beq_eq_false_iff_ne]; omega
  have q4 : (c.kind == 4) = false := by rw [beq_eq_false_iff_ne]; omega
  have q5 : (c.kind == 5) = false := by rw [beq_eq_false_iff_ne]; omega
  have q6 : (c.kind == 6) = false := by rw [beq_eq_false_iff_ne]; omega
  have q7 : (c.kind == 7) = false := by rw [beq_eq_false_iff_ne]; omega
  have q8 : (c.kind == 8) = false := by rw [beq_eq_false_iff_ne]; omega
  have q9 : (c.kind == 9) = false := by rw [beq_eq_false_iff_ne]; omega
  have q10 : (c.kind == 10) = false := by rw [beq_eq_false_iff_ne]; omega
  have q11 : (c.kind == 11) = false := by rw [beq_eq_false_iff_ne]; omega
  have q12 : (c.kind == 12) = false := by rw [beq_eq_false_iff_ne]; omega
  have q13 : (c.kind == 13) = false := by rw [beq_eq_false_iff_ne]; omega
  have q14 : (c.kind == 14) = false := by rw [beq_eq_false_iff_ne]; omega
  have q15 : (c.kind == 15) = false := by rw [beq_eq_false_iff_ne]; omega
  have q16 : (c.kind == 16) = false := by rw [beq_eq_false_iff_ne]; omega
  have q17 : (c.kind == 17) = false := by rw [beq_eq_false_iff_ne]; omega
  have q18 : (c.kind == 18) = false := by rw [beq_eq_false_iff_ne]; omega
  have q19 : (c.kind == 19) = false := by rw [beq_eq_false_iff_ne]; omega
  have q20 : (c.kind == 20) = false := by rw [beq_eq_false_iff_ne]; omega
  clear h
  go_enter Tryd.func39, Tryd.ntmps39
  go_wp2
  go_ret
  exact ⟨ret_i HK.out.symm, (((Below.refl _ _).alloc (Nat.le_refl _) _).alloc (by simp) _)⟩
theorem rcheck_any (c : CmdD) (w : World) (hs : c.Small) : Calls Tryd.prog 39 #[.agg c.cells] w (ChkSaid c w) := by
  by_cases h : 1 ≤ c.kind ∧ c.kind ≤ 20
  · obtain ⟨kd, a, b, k, v, n⟩ := c
    have hk : kd = 1 ∨ kd = 2 ∨ kd = 3 ∨ kd = 4 ∨ kd = 5 ∨ kd = 6 ∨ kd = 7 ∨ kd = 8 ∨ kd = 9 ∨ kd = 10 ∨ kd = 11 ∨ kd = 12 ∨ kd = 13 ∨ kd = 14 ∨ kd = 15 ∨ kd = 16 ∨ kd = 17 ∨ kd = 18 ∨ kd = 19 ∨ kd = 20 := by simp only at h; omega
    rcases hk with rfl | rfl | rfl | rfl | rfl | rfl | rfl | rfl | rfl | rfl | rfl | rfl | rfl | rfl | rfl | rfl | rfl | rfl | rfl | rfl
    · exact rcheck1 a b k v n w hs
    · exact rcheck2 a b k v n w hs
    · exact rcheck3 a b k v n w hs
    · exact rcheck4 a b k v n w hs
    · exact rcheck5 a b k v n w hs
    · exact rcheck6 a b k v n w hs
    · exact rcheck7 a b k v n w hs
    · exact rcheck8 a b k v n w hs
    · exact rcheck9 a b k v n w hs
    · exact rcheck10 a b k v n w hs
    · exact rcheck11 a b k v n w hs
    · exact rcheck12 a b k v n w hs
    · exact rcheck13 a b k v n w hs
    · exact rcheck14 a b k v n w hs
    · exact rcheck15 a b k v n w hs
    · exact rcheck16 a b k v n w hs
    · exact rcheck17 a b k v n w hs
    · exact rcheck18 a b k v n w hs
    · exact rcheck19 a b k v n w hs
    · exact rcheck20 a b k v n w hs
  · exact rcheck_out c w h
end Go.Proofs.YtpgchdjfeklobaaDoor
