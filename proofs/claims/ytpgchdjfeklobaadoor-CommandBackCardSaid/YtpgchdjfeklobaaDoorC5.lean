/-
  Walks: Check of the program, kind 12.
-/
import Derived.Deep.RegionHeld3
import Derived.StillTailTactics
import Derived.Deep.RegionWith
import Derived.Test.YtpgchdjfeklobaaDoorC0
namespace Go.Proofs.YtpgchdjfeklobaaDoor
open Go.RowKit

theorem settle_yes {n : Int} {v : ByteArray} (h : n = 0) : decide (n ≠ 0 ∧ v.size ≠ 0) = false := by simp [h]
theorem settle_no {n : Int} {v : ByteArray} (h : ¬ n = 0) : decide (n ≠ 0 ∧ v.size ≠ 0) = !v.toList.isEmpty := by
  by_cases hv : v.size = 0
  · have := (empty_iff v).2 hv
    simp [hv, this]
  · have : ¬ v.toList = [] := fun e => hv ((empty_iff v).1 e)
    simp [h, hv, this]
theorem same_of {P : Program} {f : FuncId} {a : Array Value} {v : Value} {w : World} (h : Calls P f a w fun e w1 => e = .returned v ∧ w = w1) : Calls P f a w fun e w2 => e = .returned v ∧ w2 = w := h.mono fun _ _ ⟨a, b⟩ => ⟨a, b.symm⟩
theorem zero12 (a b k v : ByteArray) (n : Int) : zeroOk ⟨12, a, b, k, v, n⟩ = (decide (a.toList = [])  && (decide (b.toList = []) )) := by simp [zeroOk, usesOf, empty_iff]
set_option maxRecDepth 100000 in
set_option maxHeartbeats 4000000 in
theorem check12 (a b k v : ByteArray) (n : Int) (w : World) (hc : (CmdD.mk 12 a b k v n).Small) (hV : Vars w) : Calls Tryd.prog 15 #[.agg (CmdD.mk 12 a b k v n).cells] w (ChkSaid ⟨12, a, b, k, v, n⟩ w) := by
  have HV := Lib.hid hV
  have HC := Lib.hid hc
  have hsa := hc.txt a (by simp)
  have hsb := hc.txt b (by simp)
  have hsk := hc.txt k (by simp)
  have hsv := hc.txt v (by simp)
  clear hV hc
  have F : ∀ w, Calls Tryd.prog 47 #[.int .i64 12] w fun e w' => e = .returned (.tuple #[.agg #[.bool false, .bool false, .bool true, .bool true, .bool true], .bool true]) ∧ Below w.heap.size w w' := fun w => named_any 12 w
  have HF := Lib.hid F
  clear F
  go_enter Tryd.func15, Tryd.ntmps15
  go_wp2_with (go_at_call 47; refine (HF.out _).mono ?_; rintro e w1 ⟨rfl, hb1⟩; obtain ⟨hc1, hf1⟩ := bcell hb1; have HB1 := Lib.hid hb1; have hz1 : w.heap.size < w1.heap.size := (by have := hb1.size; rw [World.size_alloc] at this; omega); have VW := Lib.hid (HV.out.below (((below_box w (.cells (CmdD.mk 12 a b k v n).cells 23)).trans (hb1.mono (by simp))).trans (below_box' (.cells #[.bool false, .bool false, .bool true, .bool true, .bool true] 84) (by omega)))))
  all_goals first
    | (go_ret
       refine ⟨ret_i (chk_bad ?_).symm, ?_⟩
       · rw [zero12]
         first
           | (simp [show ¬ a.toList = [] by assumption]; done)
           | (simp [show ¬ b.toList = [] by assumption]; done)
       · exact ((below_box _ _).trans (HB1.out.mono (by simp))).trans (below_box' _ (by omega)))
    | skip
  have ha : a.toList = [] := by assumption
  have hb : b.toList = [] := by assumption
  have hz : zeroOk ⟨12, a, b, k, v, n⟩ = true := by rw [zero12]; simp [ha, hb]
  have HZ := Lib.hid (chk_ok (c := ⟨12, a, b, k, v, n⟩) rfl hz)
  clear hz ha hb
  have HX := Lib.hid (((Blk.new w 23 (CmdD.mk 12 a b k v n).cells).below HB1.out (by simp)).alloc (.cells #[.bool false, .bool false, .bool true, .bool true, .bool true] 84))
  have HB2 := Lib.hid (((below_box w (.cells (CmdD.mk 12 a b k v n).cells 23)).trans (HB1.out.mono (by simp))).trans (below_box' (.cells #[.bool false, .bool false, .bool true, .bool true, .bool true] 84) (by omega)))
  clear hc1 hf1 VW
  generalize hW : w1.alloc (.cells #[.bool false, .bool false, .bool true, .bool true, .bool true] 84) = W at *
  have hz : w.heap.size < W.heap.size := by rw [← hW]; simp; omega
  clear hW
  have e3 : W.cell? ⟨w.heap.size, 3, none⟩ = some (.string k) := by rw [HX.out.cell]; rfl
  have e4 : W.cell? ⟨w.heap.size, 4, none⟩ = some (.string v) := by rw [HX.out.cell]; rfl
  have e5 : W.cell? ⟨w.heap.size, 5, none⟩ = some (.int .i64 n) := by rw [HX.out.cell]; rfl
  have HE := Lib.hid (settle_e n v)
  by_cases hn : n = 0
  · have q : (n == 0) = true := by simp [hn]
    have HN := Lib.hid hn
    clear hn
    go_still_tail 18, (by kernel_rfl)
    still_call (same_of (key_any k _ hsk))
    repeat still_step
    still_call (same_of (within_e _ _ _ _))
    repeat still_step
    still_call (same_of (val_any v _ hsv))
    repeat still_step
    still_call (same_of (holds_any _ _ _))
    repeat still_step
    refine wpStill_nil ?_
    go_wp2_with (go_at_call 48; refine (first_any _ _ [keyE k, withinE n 3 137, valE v, whenE false 160] _ _ (by first | exact (reads_new _ 27 [intV (keyE k), intV (withinE n 3 137), intV (valE v), intV (whenE false 160)]).drew | exact reads_new _ 27 [intV (keyE k), intV (withinE n 3 137), intV (valE v), intV (whenE false 160)]) (by simp)).mono ?_; rintro e w' ⟨rfl, rfl⟩)
    go_ret
    exact ⟨ret_i (by rw [HZ.out]; unfold errsOf; simp only []; rw [settle_yes HN.out]; rfl), by first | exact (HB2.out).trans (below_box' _ (Nat.le_of_lt hz)).drew | exact (HB2.out).trans (below_box' _ (Nat.le_of_lt hz))⟩
  · have q : (n == 0) = false := by simp [hn]
    have HN := Lib.hid hn
    clear hn
    go_region_held3 (fun W' => W'.cell? ⟨w.heap.size, 3, none⟩ = some (.string k) ∧ W'.cell? ⟨w.heap.size, 4, none⟩ = some (.string v) ∧ W'.cell? ⟨w.heap.size, 5, none⟩ = some (.int .i64 n))
      (first | exact ⟨e3, e4, e5⟩ | exact ⟨(World.cell?_alloc_lt _ _ _ hz).trans e3, (World.cell?_alloc_lt _ _ _ hz).trans e4, (World.cell?_alloc_lt _ _ _ hz).trans e5⟩)
      (first
        | (go_at_call 49; refine (key_any k _ hsk).mono ?_; rintro e w' ⟨rfl, rfl⟩)
        | (go_at_call 50; refine (val_any v _ hsv).mono ?_; rintro e w' ⟨rfl, rfl⟩)
        | (go_at_call 51; refine (within_e _ _ _ _).mono ?_; rintro e w' ⟨rfl, rfl⟩)
        | (go_at_call 52; refine (holds_any _ _ _).mono ?_; rintro e w' ⟨rfl, rfl⟩)
        | (go_at_call 48; refine (first_any _ _ [keyE k, withinE n 3 137, valE v, whenE (!v.toList.isEmpty) 160] _ _ (by first | exact (reads_new _ 27 [intV (keyE k), intV (withinE n 3 137), intV (valE v), intV (whenE (!v.toList.isEmpty) 160)]).drew | exact reads_new _ 27 [intV (keyE k), intV (withinE n 3 137), intV (valE v), intV (whenE (!v.toList.isEmpty) 160)]) (by simp)).mono ?_; rintro e w' ⟨rfl, rfl⟩))
    go_wp2
    go_ret
    exact ⟨ret_i (by rw [HZ.out]; unfold errsOf; simp only []; rw [settle_no HN.out]; rfl), by first | exact (HB2.out).trans (below_box' _ (Nat.le_of_lt hz)).drew | exact (HB2.out).trans (below_box' _ (Nat.le_of_lt hz))⟩
end Go.Proofs.YtpgchdjfeklobaaDoor
