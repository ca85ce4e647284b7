/-
  Walk: Check of the program, whatever the command.
-/
import Derived.Test.YtpgchdjfeklobaaDoorC1
import Derived.Test.YtpgchdjfeklobaaDoorC2
import Derived.Test.YtpgchdjfeklobaaDoorC3
import Derived.Test.YtpgchdjfeklobaaDoorC4
import Derived.Test.YtpgchdjfeklobaaDoorC5
namespace Go.Proofs.YtpgchdjfeklobaaDoor
open Go.RowKit

theorem chk_out {c : CmdD} (h : ¬ (1 ≤ c.kind ∧ c.kind ≤ 20)) : chk c = 160 := by
  have e : kindOk c.kind = false := by unfold kindOk; simpa using h
  unfold chk; rw [e]; rfl
theorem uses_out {k : Int} (h : ¬ (1 ≤ k ∧ k ≤ 20)) : usesOf k = ⟨false, false, false, false, false⟩ := by
  unfold usesOf
  rw [if_neg (by omega), if_neg (by omega), if_neg (by omega), if_neg (by omega), if_neg (by omega), if_neg (by omega), if_neg (by omega), if_neg (by omega)]
set_option maxRecDepth 100000 in
set_option maxHeartbeats 4000000 in
theorem check_out (c : CmdD) (w : World) (h : ¬ (1 ≤ c.kind ∧ c.kind ≤ 20)) (hs : c.Small) : Calls Tryd.prog 15 #[.agg c.cells] w (ChkSaid c w) := by
  have HK := Lib.hid (chk_out h)
  have F := fun w => named_out c.kind w h
  have e2 : kindOk c.kind = false := by unfold kindOk; simpa using h
  unfold NamedSaid at F
  rw [uses_out h, e2] at F
  have HF := Lib.hid F
  have hsa := hs.txt c.name (by simp)
  have hsb := hs.txt c.other (by simp)
  have hsk := hs.txt c.key (by simp)
  have hsv := hs.txt c.val (by simp)
  clear F e2 h hs
  go_enter Tryd.func15, Tryd.ntmps15
  go_wp2_with (go_at_call 47; refine (HF.out _).mono ?_; rintro e w1 ⟨rfl, hb1⟩; obtain ⟨hc1, hf1⟩ := bcell hb1; have HB1 := Lib.hid hb1; have hz1 : w.heap.size < w1.heap.size := (by have := hb1.size; rw [World.size_alloc] at this; omega))
  all_goals
    go_ret
    exact ⟨ret_i HK.out.symm, ((below_box _ _).trans (HB1.out.mono (by simp))).trans (below_box' _ (by omega))⟩
theorem check_any (c : CmdD) (w : World) (hs : c.Small) (hV : Vars w) : Calls Tryd.prog 15 #[.agg c.cells] w (ChkSaid c w) := by
  by_cases h : 1 ≤ c.kind ∧ c.kind ≤ 20
  · obtain ⟨kd, a, b, k, v, n⟩ := c
    have hk : kd = 1 ∨ kd = 2 ∨ kd = 3 ∨ kd = 4 ∨ kd = 5 ∨ kd = 6 ∨ kd = 7 ∨ kd = 8 ∨ kd = 9 ∨ kd = 10 ∨ kd = 11 ∨ kd = 12 ∨ kd = 13 ∨ kd = 14 ∨ kd = 15 ∨ kd = 16 ∨ kd = 17 ∨ kd = 18 ∨ kd = 19 ∨ kd = 20 := by simp only at h; omega
    rcases hk with rfl | rfl | rfl | rfl | rfl | rfl | rfl | rfl | rfl | rfl | rfl | rfl | rfl | rfl | rfl | rfl | rfl | rfl | rfl | rfl
    · exact check1 a b k v n w hs hV
    · exact check2 a b k v n w hs hV
    · exact check3 a b k v n w hs hV
    · exact check4 a b k v n w hs hV
    · exact check5 a b k v n w hs hV
    · exact check6 a b k v n w hs hV
    · exact check7 a b k v n w hs hV
    · exact check8 a b k v n w hs hV
    · exact check9 a b k v n w hs hV
    · exact check10 a b k v n w hs hV
    · exact check11 a b k v n w hs hV
    · exact check12 a b k v n w hs hV
    · exact check13 a b k v n w hs hV
    · exact check14 a b k v n w hs hV
    · exact check15 a b k v n w hs hV
    · exact check16 a b k v n w hs hV
    · exact check17 a b k v n w hs hV
    · exact check18 a b k v n w hs hV
    · exact check19 a b k v n w hs hV
    · exact check20 a b k v n w hs hV
  · exact check_out c w h hs
end Go.Proofs.YtpgchdjfeklobaaDoor
