/-
  Walks: what is wrong with a ref, in the program and in the reference; texts of commits in the program; what a kind of command names.
-/
import Derived.Test.YtpgchdjfeklobaaDoorCRef
namespace Go.Proofs.YtpgchdjfeklobaaDoor
open Go.RowKit

theorem empty_iff (s : ByteArray) : (s.toList = []) ↔ s.size = 0 := by
  rw [Lib.toList_data]
  constructor
  · intro h; have := congrArg List.length h; simpa using this
  · intro h; exact List.eq_nil_of_length_eq_zero (by simpa using h)
theorem ret_i {a b : Int} (h : a = b) : Ending.returned (.int .i64 a) = .returned (.int .i64 b) := by rw [h]
set_option maxRecDepth 100000 in
set_option maxHeartbeats 1000000 in
theorem cneeds_any (s : ByteArray) (empty : Bool) (w : World) (hs : s.size ≤ 1000000) (hV : Vars w) : Calls Tryd.prog 55 #[.string s, .bool empty] w fun e w' => e = .returned (.int .i64 (needE s empty)) ∧ Below w.heap.size w w' := by
  have F := Lib.hid (cref_any s w hs hV)
  clear hV
  go_enter Tryd.func55, Tryd.ntmps55
  go_wp2_with fail
  refine F.out.mono ?_
  rintro e w1 ⟨a, n, b, rfl, hR, hb⟩
  have HB := Lib.hid hb
  have hr := hR.isRef
  subst hr
  clear hb hR
  cases hr : refB s
  · have HR := Lib.hid hr
    clear hr
    cases empty
    · go_wp2
      go_ret
      exact ⟨ret_i (by unfold needE; rw [HR.out]; rfl), HB.out⟩
    · by_cases h0 : s.size = 0
      · have q := (empty_iff s).2 h0
        have q2 : s.toList.isEmpty = true := by rw [q]; rfl
        have H0 := Lib.hid h0
        clear h0
        go_wp2
        go_ret
        exact ⟨ret_i (by unfold needE; rw [HR.out, H0.out]; rfl), HB.out⟩
      · have q2 : s.toList.isEmpty = false := by rw [List.isEmpty_eq_false_iff]; exact fun e => h0 ((empty_iff s).1 e)
        go_wp2
        go_ret
        exact ⟨ret_i (by unfold needE; rw [HR.out, decide_eq_false h0]; rfl), HB.out⟩
  · have HR := Lib.hid hr
    clear hr
    go_wp2
    go_ret
    exact ⟨ret_i (by unfold needE; rw [HR.out]; rfl), HB.out⟩
set_option maxRecDepth 100000 in
set_option maxHeartbeats 1000000 in
theorem rneeds_any (s : ByteArray) (empty : Bool) (w : World) (hs : s.size ≤ 1000000) : Calls Tryd.prog 88 #[.string s, .bool empty] w fun e w' => e = .returned (.int .i64 (needE s empty)) ∧ Below w.heap.size w w' := by
  have F := Lib.hid (rref_any s w hs)
  go_enter Tryd.func88, Tryd.ntmps88
  go_wp2_with fail
  refine F.out.mono ?_
  rintro e w1 ⟨a, n, b, rfl, hR, hb⟩
  have HB := Lib.hid hb
  have hr := hR.isRef
  subst hr
  clear hb hR
  cases hr : refB s
  · have HR := Lib.hid hr
    clear hr
    cases empty
    · go_wp2
      go_ret
      exact ⟨ret_i (by unfold needE; rw [HR.out]; rfl), HB.out⟩
    · by_cases h0 : s.size = 0
      · have q := (empty_iff s).2 h0
        have q2 : s.toList.isEmpty = true := by rw [q]; rfl
        have H0 := Lib.hid h0
        clear h0
        go_wp2
        go_ret
        exact ⟨ret_i (by unfold needE; rw [HR.out, H0.out]; rfl), HB.out⟩
      · have q2 : s.toList.isEmpty = false := by rw [List.isEmpty_eq_false_iff]; exact fun e => h0 ((empty_iff s).1 e)
        go_wp2
        go_ret
        exact ⟨ret_i (by unfold needE; rw [HR.out, decide_eq_false h0]; rfl), HB.out⟩
  · have HR := Lib.hid hr
    clear hr
    go_wp2
    go_ret
    exact ⟨ret_i (by unfold needE; rw [HR.out]; rfl), HB.out⟩
end Go.Proofs.YtpgchdjfeklobaaDoor
