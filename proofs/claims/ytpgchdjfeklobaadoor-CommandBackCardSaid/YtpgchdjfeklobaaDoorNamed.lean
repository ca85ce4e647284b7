/-
  Walk: what a kind of command names.
-/
import Derived.Test.YtpgchdjfeklobaaDoorText
namespace Go.Proofs.YtpgchdjfeklobaaDoor
open Go.RowKit

abbrev Uses.cells (u : Uses) : Array Value := #[.bool u.name, .bool u.other, .bool u.key, .bool u.val, .bool u.n]
def NamedSaid (k : Int) (w : World) (e : Ending) (w' : World) : Prop := e = .returned (.tuple #[.agg (usesOf k).cells, .bool (kindOk k)]) ∧ Below w.heap.size w w'
set_option maxRecDepth 100000 in
set_option maxHeartbeats 4000000 in
theorem named_in (k : Int) (w : World) (h : 1 ≤ k ∧ k ≤ 20) : Calls Tryd.prog 47 #[.int .i64 k] w (NamedSaid k w) := by
  have hk : k = 1 ∨ k = 2 ∨ k = 3 ∨ k = 4 ∨ k = 5 ∨ k = 6 ∨ k = 7 ∨ k = 8 ∨ k = 9 ∨ k = 10 ∨ k = 11 ∨ k = 12 ∨ k = 13 ∨ k = 14 ∨ k = 15 ∨ k = 16 ∨ k = 17 ∨ k = 18 ∨ k = 19 ∨ k = 20 := by omega
  clear h
  rcases hk with rfl | rfl | rfl | rfl | rfl | rfl | rfl | rfl | rfl | rfl | rfl | rfl | rfl | rfl | rfl | rfl | rfl | rfl | rfl | rfl
  · go_enter Tryd.func47, Tryd.ntmps47
    go_wp2
    exact bodyPost_ret (v := .tuple #[.agg #[.bool false, .bool false, .bool true, .bool true, .bool false], .bool true]) (by simp [results, Tryd.results47, go_sem]) rfl ⟨rfl, below_box _ _⟩
  · go_enter Tryd.func47, Tryd.ntmps47
    go_wp2
    exact bodyPost_ret (v := .tuple #[.agg #[.bool false, .bool false, .bool true, .bool false, .bool false], .bool true]) (by simp [results, Tryd.results47, go_sem]) rfl ⟨rfl, below_box _ _⟩
  · go_enter Tryd.func47, Tryd.ntmps47
    go_wp2
    exact bodyPost_ret (v := .tuple #[.agg #[.bool false, .bool false, .bool true, .bool false, .bool false], .bool true]) (by simp [results, Tryd.results47, go_sem]) rfl ⟨rfl, below_box _ _⟩
  · go_enter Tryd.func47, Tryd.ntmps47
    go_wp2
    exact bodyPost_ret (v := .tuple #[.agg #[.bool false, .bool false, .bool true, .bool true, .bool true], .bool true]) (by simp [results, Tryd.results47, go_sem]) rfl ⟨rfl, below_box _ _⟩
  · go_enter Tryd.func47, Tryd.ntmps47
    go_wp2
    exact bodyPost_ret (v := .tuple #[.agg #[.bool false, .bool false, .bool false, .bool true, .bool false], .bool true]) (by simp [results, Tryd.results47, go_sem]) rfl ⟨rfl, below_box _ _⟩
  · go_enter Tryd.func47, Tryd.ntmps47
    go_wp2
    exact bodyPost_ret (v := .tuple #[.agg #[.bool true, .bool true, .bool false, .bool false, .bool false], .bool true]) (by simp [results, Tryd.results47, go_sem]) rfl ⟨rfl, below_box _ _⟩
  · go_enter Tryd.func47, Tryd.ntmps47
    go_wp2
    exact bodyPost_ret (v := .tuple #[.agg #[.bool true, .bool true, .bool false, .bool false, .bool false], .bool true]) (by simp [results, Tryd.results47, go_sem]) rfl ⟨rfl, below_box _ _⟩
  · go_enter Tryd.func47, Tryd.ntmps47
    go_wp2
    exact bodyPost_ret (v := .tuple #[.agg #[.bool true, .bool false, .bool false, .bool false, .bool false], .bool true]) (by simp [results, Tryd.results47, go_sem]) rfl ⟨rfl, below_box _ _⟩
  · go_enter Tryd.func47, Tryd.ntmps47
    go_wp2
    exact bodyPost_ret (v := .tuple #[.agg #[.bool true, .bool false, .bool false, .bool false, .bool false], .bool true]) (by simp [results, Tryd.results47, go_sem]) rfl ⟨rfl, below_box _ _⟩
  · go_enter Tryd.func47, Tryd.ntmps47
    go_wp2
    exact bodyPost_ret (v := .tuple #[.agg #[.bool false, .bool true, .bool false, .bool false, .bool false], .bool true]) (by simp [results, Tryd.results47, go_sem]) rfl ⟨rfl, below_box _ _⟩
  · go_enter Tryd.func47, Tryd.ntmps47
    go_wp2
    exact bodyPost_ret (v := .tuple #[.agg #[.bool false, .bool true, .bool false, .bool false, .bool true], .bool true]) (by simp [results, Tryd.results47, go_sem]) rfl ⟨rfl, below_box _ _⟩
  · go_enter Tryd.func47, Tryd.ntmps47
    go_wp2
    exact bodyPost_ret (v := .tuple #[.agg #[.bool false, .bool false, .bool true, .bool true, .bool true], .bool true]) (by simp [results, Tryd.results47, go_sem]) rfl ⟨rfl, below_box _ _⟩
  · go_enter Tryd.func47, Tryd.ntmps47
    go_wp2
    exact bodyPost_ret (v := .tuple #[.agg #[.bool false, .bool false, .bool false, .bool false, .bool false], .bool true]) (by simp [results, Tryd.results47, go_sem]) rfl ⟨rfl, below_box _ _⟩
  · go_enter Tryd.func47, Tryd.ntmps47
    go_wp2
    exact bodyPost_ret (v := .tuple #[.agg #[.bool false, .bool true, .bool false, .bool false, .bool false], .bool true]) (by simp [results, Tryd.results47, go_sem]) rfl ⟨rfl, below_box _ _⟩
  · go_enter Tryd.func47, Tryd.ntmps47
    go_wp2
    exact bodyPost_ret (v := .tuple #[.agg #[.bool false, .bool true, .bool false, .bool false, .bool false], .bool true]) (by simp [results, Tryd.results47, go_sem]) rfl ⟨rfl, below_box _ _⟩
  · go_enter Tryd.func47, Tryd.ntmps47
    go_wp2
    exact bodyPost_ret (v := .tuple #[.agg #[.bool true, .bool true, .bool false, .bool false, .bool false], .bool true]) (by simp [results, Tryd.results47, go_sem]) rfl ⟨rfl, below_box _ _⟩
  · go_enter Tryd.func47, Tryd.ntmps47
    go_wp2
    exact bodyPost_ret (v := .tuple #[.agg #[.bool false, .bool true, .bool false, .bool false, .bool true], .bool true]) (by simp [results, Tryd.results47, go_sem]) rfl ⟨rfl, below_box _ _⟩
  · go_enter Tryd.func47, Tryd.ntmps47
    go_wp2
    exact bodyPost_ret (v := .tuple #[.agg #[.bool true, .bool true, .bool false, .bool false, .bool false], .bool true]) (by simp [results, Tryd.results47, go_sem]) rfl ⟨rfl, below_box _ _⟩
  · go_enter Tryd.func47, Tryd.ntmps47
    go_wp2
    exact bodyPost_ret (v := .tuple #[.agg #[.bool false, .bool false, .bool false, .bool false, .bool false], .bool true]) (by simp [results, Tryd.results47, go_sem]) rfl ⟨rfl, below_box _ _⟩
  · go_enter Tryd.func47, Tryd.ntmps47
    go_wp2
    exact bodyPost_ret (v := .tuple #[.agg #[.bool false, .bool false, .bool false, .bool false, .bool false], .bool true]) (by simp [results, Tryd.results47, go_sem]) rfl ⟨rfl, below_box _ _⟩
set_option maxRecDepth 100000 in
set_option maxHeartbeats 4000000 in
theorem named_out (k : Int) (w : World) (h : ¬ (1 ≤ k ∧ k ≤ 20)) : Calls Tryd.prog 47 #[.int .i64 k] w (NamedSaid k w) := by
  have q1 : (k == 1) = false := by rw [beq_eq_false_iff_ne]; omega
  have q2 : (k == 2) = false := by rw [beq_eq_false_iff_ne]; omega
  have q3 : (k == 3) = false := by rw [beq_eq_false_iff_ne]; omega
  have q4 : (k == 4) = false := by rw [beq_eq_false_iff_ne]; omega
  have q5 : (k == 5) = false := by rw [beq_eq_false_iff_ne]; omega
  have q6 : (k == 6) = false := by rw [beq_eq_false_iff_ne]; omega
  have q7 : (k == 7) = false := by rw [beq_eq_false_iff_ne]; omega
  have q8 : (k == 8) = false := by rw [beq_eq_false_iff_ne]; omega
  have q9 : (k == 9) = false := by rw [beq_eq_false_iff_ne]; omega
  have q10 : (k == 10) = false := by rw [beq_eq_false_iff_ne]; omega
  have q11 : (k == 11) = false := by rw [beq_eq_false_iff_ne]; omega
  have q12 : (k == 12) = false := by rw [beq_eq_false_iff_ne]; omega
  have q13 : (k == 13) = false := by rw [beq_eq_false_iff_ne]; omega
  have q14 : (k == 14) = false := by rw [beq_eq_false_iff_ne]; omega
  have q15 : (k == 15) = false := by rw [beq_eq_false_iff_ne]; omega
  have q16 : (k == 16) = false := by rw [beq_eq_false_iff_ne]; omega
  have q17 : (k == 17) = false := by rw [beq_eq_false_iff_ne]; omega
  have q18 : (k == 18) = false := by rw [beq_eq_false_iff_ne]; omega
  have q19 : (k == 19) = false := by rw [beq_eq_false_iff_ne]; omega
  have q20 : (k == 20) = false := by rw [beq_eq_false_iff_ne]; omega
  have e : usesOf k = ⟨false, false, false, false, false⟩ := by
    unfold usesOf
    rw [if_neg (by omega), if_neg (by omega), if_neg (by omega), if_neg (by omega), if_neg (by omega), if_neg (by omega), if_neg (by omega), if_neg (by omega)]
  have e2 : kindOk k = false := by unfold kindOk; simpa using h
  have E := Lib.hid (And.intro e e2)
  clear e e2 h
  go_enter Tryd.func47, Tryd.ntmps47
  go_wp2
  exact bodyPost_ret (v := .tuple #[.agg #[.bool false, .bool false, .bool false, .bool false, .bool false], .bool false]) (by simp [results, Tryd.results47, go_sem]) rfl ⟨by rw [E.out.1, E.out.2], below_box _ _⟩
theorem named_any (k : Int) (w : World) : Calls Tryd.prog 47 #[.int .i64 k] w (NamedSaid k w) := by
  by_cases h : 1 ≤ k ∧ k ≤ 20
  · exact named_in k w h
  · exact named_out k w h
end Go.Proofs.YtpgchdjfeklobaaDoor
