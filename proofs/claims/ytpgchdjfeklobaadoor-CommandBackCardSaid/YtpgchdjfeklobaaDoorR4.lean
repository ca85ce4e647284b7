/-
  Walks: Check of the reference, kinds 4, 12.
-/
import Derived.Deep.RegionHeld3
import Derived.Deep.RegionWith
import Derived.StillTailTactics
import Derived.Test.YtpgchdjfeklobaaDoorR0
namespace Go.Proofs.YtpgchdjfeklobaaDoor
open Go.RowKit

theorem scan_hi {a b k v : ByteArray} {n : Int} (h : 40 < k.size) : firstE (errsOf ⟨4, a, b, k, v, n⟩) = firstE [whenE true 100, whenE (decide (n < 0)) 1] := by
  have e : decide (40 < k.size ∨ 40 < v.size) = true := by simp [h]
  show firstE [whenE (decide (40 < k.size ∨ 40 < v.size)) 100, whenE (decide (n < 0)) 1] = _
  rw [e]
theorem scan_lo {a b k v : ByteArray} {n : Int} (h : ¬ 40 < k.size) : firstE (errsOf ⟨4, a, b, k, v, n⟩) = firstE [whenE (decide ((40 : Int) < (v.size : Int))) 100, whenE (decide (n < 0)) 1] := by
  have e : decide (40 < k.size ∨ 40 < v.size) = decide ((40 : Int) < (v.size : Int)) := by simp only [decide_eq_decide]; omega
  show firstE [whenE (decide (40 < k.size ∨ 40 < v.size)) 100, whenE (decide (n < 0)) 1] = _
  rw [e]
theorem resolve_lo {a b k v : ByteArray} {n : Int} (h : n < 0) : firstE (errsOf ⟨12, a, b, k, v, n⟩) = firstE [keyE k, whenE true 137, valE v, whenE (!v.toList.isEmpty) 160] := by
  have e : decide (n < 0 ∨ 3 < n) = true := by simp [h]
  show firstE [keyE k, whenE (decide (n < 0 ∨ 3 < n)) 137, valE v, whenE (decide (n ≠ 0 ∧ v.size ≠ 0)) 160] = _
  rw [e, settle_no (by omega)]
theorem resolve_at {a b k v : ByteArray} {n : Int} (h : n = 0) : firstE (errsOf ⟨12, a, b, k, v, n⟩) = firstE [keyE k, whenE false 137, valE v, whenE false 160] := by
  have e : decide (n < 0 ∨ 3 < n) = false := by simp [h]
  show firstE [keyE k, whenE (decide (n < 0 ∨ 3 < n)) 137, valE v, whenE (decide (n ≠ 0 ∧ v.size ≠ 0)) 160] = _
  rw [e, settle_yes h]
theorem resolve_hi {a b k v : ByteArray} {n : Int} (h : 0 < n) : firstE (errsOf ⟨12, a, b, k, v, n⟩) = firstE [keyE k, whenE (decide (3 < n)) 137, valE v, whenE (!v.toList.isEmpty) 160] := by
  have e : decide (n < 0 ∨ 3 < n) = decide (3 < n) := by simp only [decide_eq_decide]; omega
  show firstE [keyE k, whenE (decide (n < 0 ∨ 3 < n)) 137, valE v, whenE (decide (n ≠ 0 ∧ v.size ≠ 0)) 160] = _
  rw [e, settle_no (by omega)]
set_option maxRecDepth 100000 in
set_option maxHeartbeats 4000000 in
theorem rcheck4 (a b k v : ByteArray) (n : Int) (w : World) (hc : (CmdD.mk 4 a b k v n).Small) : Calls Tryd.prog 39 #[.agg (CmdD.mk 4 a b k v n).cells] w (ChkSaid ⟨4, a, b, k, v, n⟩ w) := by
  have hsa := hc.txt a (by simp)
  have hsb := hc.txt b (by simp)
  have hsk := hc.txt k (by simp)
  have hsv := hc.txt v (by simp)
  clear hc
  go_enter Tryd.func39, Tryd.ntmps39
  go_wp2
  go_region_held3 (fun W' => W'.cell? ⟨w.heap.size, 3, none⟩ = some (.string k) ∧ W'.cell? ⟨w.heap.size, 4, none⟩ = some (.string v) ∧ W'.cell? ⟨w.heap.size, 5, none⟩ = some (.int .i64 n))
    (first | (refine ⟨?_, ?_, ?_⟩ <;> go_simp; done))
    (first | fail)
  go_wp2
  have HX1 := Lib.hid (Blk.drew ((Blk.new w 23 (CmdD.mk 4 a b k v n).cells).alloc (.cells #[.int .i64 4, .string ⟨#[]⟩, .string ⟨#[]⟩, .string k, .string v, .int .i64 n] 23)))
  have HX2 := Lib.hid (Blk.drew (Blk.new (w.alloc (.cells (CmdD.mk 4 a b k v n).cells 23)) 23 #[.int .i64 4, .string ⟨#[]⟩, .string ⟨#[]⟩, .string k, .string v, .int .i64 n]))
  have HB2 := Lib.hid (Below.drew ((below_box w (.cells (CmdD.mk 4 a b k v n).cells 23)).trans (below_box' (w := w) (w1 := w.alloc (.cells (CmdD.mk 4 a b k v n).cells 23)) (.cells #[.int .i64 4, .string ⟨#[]⟩, .string ⟨#[]⟩, .string k, .string v, .int .i64 n] 23) (by simp))))
  generalize hW : ((w.alloc (.cells (CmdD.mk 4 a b k v n).cells 23)).alloc (.cells #[.int .i64 4, .string ⟨#[]⟩, .string ⟨#[]⟩, .string k, .string v, .int .i64 n] 23)).drew = W at *
  have hz : w.heap.size < W.heap.size := by rw [← hW]; simp; omega
  have hz' : w.heap.size + 1 < W.heap.size := by rw [← hW]; simp
  clear hW
  have e0 : W.cell? ⟨w.heap.size, 0, none⟩ = some (.int .i64 4) := by rw [HX1.out.cell]; rfl
  have x0 : W.cell? ⟨w.heap.size + 1, 0, none⟩ = some (.int .i64 4) := by have := HX2.out.cell 0; rw [World.size_alloc] at this; rw [this]; rfl
  have e1 : W.cell? ⟨w.heap.size, 1, none⟩ = some (.string a) := by rw [HX1.out.cell]; rfl
  have x1 : W.cell? ⟨w.heap.size + 1, 1, none⟩ = some (.string ⟨#[]⟩) := by have := HX2.out.cell 1; rw [World.size_alloc] at this; rw [this]; rfl
  have e2 : W.cell? ⟨w.heap.size, 2, none⟩ = some (.string b) := by rw [HX1.out.cell]; rfl
  have x2 : W.cell? ⟨w.heap.size + 1, 2, none⟩ = some (.string ⟨#[]⟩) := by have := HX2.out.cell 2; rw [World.size_alloc] at this; rw [this]; rfl
  have e3 : W.cell? ⟨w.heap.size, 3, none⟩ = some (.string k) := by rw [HX1.out.cell]; rfl
  have x3 : W.cell? ⟨w.heap.size + 1, 3, none⟩ = some (.string k) := by have := HX2.out.cell 3; rw [World.size_alloc] at this; rw [this]; rfl
  have e4 : W.cell? ⟨w.heap.size, 4, none⟩ = some (.string v) := by rw [HX1.out.cell]; rfl
  have x4 : W.cell? ⟨w.heap.size + 1, 4, none⟩ = some (.string v) := by have := HX2.out.cell 4; rw [World.size_alloc] at this; rw [this]; rfl
  have e5 : W.cell? ⟨w.heap.size, 5, none⟩ = some (.int .i64 n) := by rw [HX1.out.cell]; rfl
  have x5 : W.cell? ⟨w.heap.size + 1, 5, none⟩ = some (.int .i64 n) := by have := HX2.out.cell 5; rw [World.size_alloc] at this; rw [this]; rfl
  by_cases h40 : 40 < k.size
  · have q1 : decide ((40 : Int) < (k.size : Int)) = true := by simp; omega
    have q2 : (40 : Int) < (k.size : Int) := by omega
    have H40 := Lib.hid h40
    go_still_tail 15, (by kernel_rfl)
    still_call (same_of (when_any _ _ _))
    repeat still_step
    still_call (same_of (when_any _ _ _))
    repeat still_step
    refine wpStill_nil ?_
    go_wp2_with (go_at_call 89; refine (rfirst_any _ _ [whenE true 100, whenE (decide (n < 0)) 1] _ _ (by first | exact (reads_at _ 3 [intV (whenE true 100), intV (whenE (decide (n < 0)) 1)] (by first | rfl | simp)).drew | exact reads_at _ 3 [intV (whenE true 100), intV (whenE (decide (n < 0)) 1)] (by first | rfl | simp)) (by simp)).mono ?_; rintro e w' ⟨rfl, rfl⟩)
    all_goals first
      | (have hbad : zeroOk ⟨4, a, b, k, v, n⟩ = false := by
           rw [zero4]
           first
             | (simp [show ¬ a.toList = [] by assumption]; done)
             | (simp [show ¬ b.toList = [] by assumption]; done)
         go_ret
         exact ⟨ret_i (chk_bad hbad).symm, (by first | exact (HB2.out.drew).trans (below_box' _ (Nat.le_of_lt hz)).drew | exact (HB2.out.drew).trans (below_box' _ (Nat.le_of_lt hz)))⟩)
      | (have ha : a.toList = [] := by assumption
         have hb : b.toList = [] := by assumption
         have hzo : zeroOk ⟨4, a, b, k, v, n⟩ = true := by rw [zero4]; simp [ha, hb]
         have HZ := chk_ok (c := ⟨4, a, b, k, v, n⟩) rfl hzo
         go_ret
         exact ⟨ret_i (by rw [HZ]; exact (scan_hi (by have := H40.out; omega)).symm), (by first | exact (HB2.out.drew).trans (below_box' _ (Nat.le_of_lt hz)).drew | exact (HB2.out.drew).trans (below_box' _ (Nat.le_of_lt hz)))⟩)
  · have q1 : decide ((40 : Int) < (k.size : Int)) = false := by simp; omega
    have q2 : ¬ (40 : Int) < (k.size : Int) := by omega
    have H40 := Lib.hid h40
    go_still_tail 15, (by kernel_rfl)
    still_call (same_of (when_any _ _ _))
    repeat still_step
    still_call (same_of (when_any _ _ _))
    repeat still_step
    refine wpStill_nil ?_
    go_wp2_with (go_at_call 89; refine (rfirst_any _ _ [whenE (decide ((40 : Int) < (v.size : Int))) 100, whenE (decide (n < 0)) 1] _ _ (by first | exact (reads_at _ 3 [intV (whenE (decide ((40 : Int) < (v.size : Int))) 100), intV (whenE (decide (n < 0)) 1)] (by first | rfl | simp)).drew | exact reads_at _ 3 [intV (whenE (decide ((40 : Int) < (v.size : Int))) 100), intV (whenE (decide (n < 0)) 1)] (by first | rfl | simp)) (by simp)).mono ?_; rintro e w' ⟨rfl, rfl⟩)
    all_goals first
      | (have hbad : zeroOk ⟨4, a, b, k, v, n⟩ = false := by
           rw [zero4]
           first
             | (simp [show ¬ a.toList = [] by assumption]; done)
             | (simp [show ¬ b.toList = [] by assumption]; done)
         go_ret
         exact ⟨ret_i (chk_bad hbad).symm, (by first | exact (HB2.out.drew).trans (below_box' _ (Nat.le_of_lt hz)).drew | exact (HB2.out.drew).trans (below_box' _ (Nat.le_of_lt hz)))⟩)
      | (have ha : a.toList = [] := by assumption
         have hb : b.toList = [] := by assumption
         have hzo : zeroOk ⟨4, a, b, k, v, n⟩ = true := by rw [zero4]; simp [ha, hb]
         have HZ := chk_ok (c := ⟨4, a, b, k, v, n⟩) rfl hzo
         go_ret
         exact ⟨ret_i (by rw [HZ]; exact (scan_lo (by have := H40.out; omega)).symm), (by first | exact (HB2.out.drew).trans (below_box' _ (Nat.le_of_lt hz)).drew | exact (HB2.out.drew).trans (below_box' _ (Nat.le_of_lt hz)))⟩)

set_option maxRecDepth 100000 in
set_option maxHeartbeats 4000000 in
theorem rcheck12 (a b k v : ByteArray) (n : Int) (w : World) (hc : (CmdD.mk 12 a b k v n).Small) : Calls Tryd.prog 39 #[.agg (CmdD.mk 12 a b k v n).cells] w (ChkSaid ⟨12, a, b, k, v, n⟩ w) := by
  have hsa := hc.txt a (by simp)
  have hsb := hc.txt b (by simp)
  have hsk := hc.txt k (by simp)
  have hsv := hc.txt v (by simp)
  clear hc
  go_enter Tryd.func39, Tryd.ntmps39
  go_wp2
  go_region_held3 (fun W' => W'.cell? ⟨w.heap.size, 3, none⟩ = some (.string k) ∧ W'.cell? ⟨w.heap.size, 4, none⟩ = some (.string v) ∧ W'.cell? ⟨w.heap.size, 5, none⟩ = some (.int .i64 n))
    (first | (refine ⟨?_, ?_, ?_⟩ <;> go_simp; done))
    (first | fail)
  go_wp2
  have HX1 := Lib.hid (Blk.drew ((Blk.new w 23 (CmdD.mk 12 a b k v n).cells).alloc (.cells #[.int .i64 12, .string ⟨#[]⟩, .string ⟨#[]⟩, .string k, .string v, .int .i64 n] 23)))
  have HX2 := Lib.hid (Blk.drew (Blk.new (w.alloc (.cells (CmdD.mk 12 a b k v n).cells 23)) 23 #[.int .i64 12, .string ⟨#[]⟩, .string ⟨#[]⟩, .string k, .string v, .int .i64 n]))
  have HB2 := Lib.hid (Below.drew ((below_box w (.cells (CmdD.mk 12 a b k v n).cells 23)).trans (below_box' (w := w) (w1 := w.alloc (.cells (CmdD.mk 12 a b k v n).cells 23)) (.cells #[.int .i64 12, .string ⟨#[]⟩, .string ⟨#[]⟩, .string k, .string v, .int .i64 n] 23) (by simp))))
  generalize hW : ((w.alloc (.cells (CmdD.mk 12 a b k v n).cells 23)).alloc (.cells #[.int .i64 12, .string ⟨#[]⟩, .string ⟨#[]⟩, .string k, .string v, .int .i64 n] 23)).drew = W at *
  have hz : w.heap.size < W.heap.size := by rw [← hW]; simp; omega
  have hz' : w.heap.size + 1 < W.heap.size := by rw [← hW]; simp
  clear hW
  have e0 : W.cell? ⟨w.heap.size, 0, none⟩ = some (.int .i64 12) := by rw [HX1.out.cell]; rfl
  have x0 : W.cell? ⟨w.heap.size + 1, 0, none⟩ = some (.int .i64 12) := by have := HX2.out.cell 0; rw [World.size_alloc] at this; rw [this]; rfl
  have e1 : W.cell? ⟨w.heap.size, 1, none⟩ = some (.string a) := by rw [HX1.out.cell]; rfl
  have x1 : W.cell? ⟨w.heap.size + 1, 1, none⟩ = some (.string ⟨#[]⟩) := by have := HX2.out.cell 1; rw [World.size_alloc] at this; rw [this]; rfl
  have e2 : W.cell? ⟨w.heap.size, 2, none⟩ = some (.string b) := by rw [HX1.out.cell]; rfl
  have x2 : W.cell? ⟨w.heap.size + 1, 2, none⟩ = some (.string ⟨#[]⟩) := by have := HX2.out.cell 2; rw [World.size_alloc] at this; rw [this]; rfl
  have e3 : W.cell? ⟨w.heap.size, 3, none⟩ = some (.string k) := by rw [HX1.out.cell]; rfl
  have x3 : W.cell? ⟨w.heap.size + 1, 3, none⟩ = some (.string k) := by have := HX2.out.cell 3; rw [World.size_alloc] at this; rw [this]; rfl
  have e4 : W.cell? ⟨w.heap.size, 4, none⟩ = some (.string v) := by rw [HX1.out.cell]; rfl
  have x4 : W.cell? ⟨w.heap.size + 1, 4, none⟩ = some (.string v) := by have := HX2.out.cell 4; rw [World.size_alloc] at this; rw [this]; rfl
  have e5 : W.cell? ⟨w.heap.size, 5, none⟩ = some (.int .i64 n) := by rw [HX1.out.cell]; rfl
  have x5 : W.cell? ⟨w.heap.size + 1, 5, none⟩ = some (.int .i64 n) := by have := HX2.out.cell 5; rw [World.size_alloc] at this; rw [this]; rfl
  rcases (by omega : n < 0 ∨ n = 0 ∨ 0 < n) with hn0 | hn0 | hn0
  · have q1 : decide (n < 0) = true := by simpa using hn0
    have q2 : (n == 0) = false := by rw [beq_eq_false_iff_ne]; omega
    have q3 : (n != 0) = true := by rw [bne_iff_ne]; omega
    have HN0 := Lib.hid hn0
    go_still_tail 24, (by kernel_rfl)
    still_call (same_of (rkey_any k _ hsk))
    repeat still_step
    still_call (same_of (when_any _ _ _))
    repeat still_step
    still_call (same_of (rval_any v _ hsv))
    repeat still_step
    still_call (same_of (when_any _ _ _))
    repeat still_step
    refine wpStill_nil ?_
    go_wp2_with (go_at_call 89; refine (rfirst_any _ _ [keyE k, whenE true 137, valE v, whenE (!v.toList.isEmpty) 160] _ _ (by first | exact (reads_at _ 3 [intV (keyE k), intV (whenE true 137), intV (valE v), intV (whenE (!v.toList.isEmpty) 160)] (by first | rfl | simp)).drew | exact reads_at _ 3 [intV (keyE k), intV (whenE true 137), intV (valE v), intV (whenE (!v.toList.isEmpty) 160)] (by first | rfl | simp)) (by simp)).mono ?_; rintro e w' ⟨rfl, rfl⟩)
    all_goals first
      | (have hbad : zeroOk ⟨12, a, b, k, v, n⟩ = false := by
           rw [zero12]
           first
             | (simp [show ¬ a.toList = [] by assumption]; done)
             | (simp [show ¬ b.toList = [] by assumption]; done)
         go_ret
         exact ⟨ret_i (chk_bad hbad).symm, (by first | exact (HB2.out.drew).trans (below_box' _ (Nat.le_of_lt hz)).drew | exact (HB2.out.drew).trans (below_box' _ (Nat.le_of_lt hz)))⟩)
      | (have ha : a.toList = [] := by assumption
         have hb : b.toList = [] := by assumption
         have hzo : zeroOk ⟨12, a, b, k, v, n⟩ = true := by rw [zero12]; simp [ha, hb]
         have HZ := chk_ok (c := ⟨12, a, b, k, v, n⟩) rfl hzo
         go_ret
         exact ⟨ret_i (by rw [HZ]; exact (resolve_lo (by have := HN0.out; omega)).symm), (by first | exact (HB2.out.drew).trans (below_box' _ (Nat.le_of_lt hz)).drew | exact (HB2.out.drew).trans (below_box' _ (Nat.le_of_lt hz)))⟩)
  · have q1 : decide (n < 0) = false := by simp; omega
    have q2 : (n == 0) = true := by simp [hn0]
    have q3 : (n != 0) = false := by simp [hn0]
    have q4 : decide (3 < n) = false := by simp; omega
    have HN0 := Lib.hid hn0
    clear hn0
    go_still_tail 24, (by kernel_rfl)
    still_call (same_of (rkey_any k _ hsk))
    repeat still_step
    still_call (same_of (when_any _ _ _))
    repeat still_step
    still_call (same_of (rval_any v _ hsv))
    repeat still_step
    still_call (same_of (when_any _ _ _))
    repeat still_step
    refine wpStill_nil ?_
    go_wp2_with (go_at_call 89; refine (rfirst_any _ _ [keyE k, whenE false 137, valE v, whenE false 160] _ _ (by first | exact (reads_at _ 3 [intV (keyE k), intV (whenE false 137), intV (valE v), intV (whenE false 160)] (by first | rfl | simp)).drew | exact reads_at _ 3 [intV (keyE k), intV (whenE false 137), intV (valE v), intV (whenE false 160)] (by first | rfl | simp)) (by simp)).mono ?_; rintro e w' ⟨rfl, rfl⟩)
    all_goals first
      | (have hbad : zeroOk ⟨12, a, b, k, v, n⟩ = false := by
           rw [zero12]
           first
             | (simp [show ¬ a.toList = [] by assumption]; done)
             | (simp [show ¬ b.toList = [] by assumption]; done)
         go_ret
         exact ⟨ret_i (chk_bad hbad).symm, (by first | exact (HB2.out.drew).trans (below_box' _ (Nat.le_of_lt hz)).drew | exact (HB2.out.drew).trans (below_box' _ (Nat.le_of_lt hz)))⟩)
      | (have ha : a.toList = [] := by assumption
         have hb : b.toList = [] := by assumption
         have hzo : zeroOk ⟨12, a, b, k, v, n⟩ = true := by rw [zero12]; simp [ha, hb]
         have HZ := chk_ok (c := ⟨12, a, b, k, v, n⟩) rfl hzo
         go_ret
         exact ⟨ret_i (by rw [HZ]; exact (resolve_at (by have := HN0.out; omega)).symm), (by first | exact (HB2.out.drew).trans (below_box' _ (Nat.le_of_lt hz)).drew | exact (HB2.out.drew).trans (below_box' _ (Nat.le_of_lt hz)))⟩)
  · have q1 : decide (n < 0) = false := by simp; omega
    have q2 : (n == 0) = false := by rw [beq_eq_false_iff_ne]; omega
    have q3 : (n != 0) = true := by rw [bne_iff_ne]; omega
    have HN0 := Lib.hid hn0
    go_still_tail 24, (by kernel_rfl)
    still_call (same_of (rkey_any k _ hsk))
    repeat still_step
    still_call (same_of (when_any _ _ _))
    repeat still_step
    still_call (same_of (rval_any v _ hsv))
    repeat still_step
    still_call (same_of (when_any _ _ _))
    repeat still_step
    refine wpStill_nil ?_
    go_wp2_with (go_at_call 89; refine (rfirst_any _ _ [keyE k, whenE (decide (3 < n)) 137, valE v, whenE (!v.toList.isEmpty) 160] _ _ (by first | exact (reads_at _ 3 [intV (keyE k), intV (whenE (decide (3 < n)) 137), intV (valE v), intV (whenE (!v.toList.isEmpty) 160)] (by first | rfl | simp)).drew | exact reads_at _ 3 [intV (keyE k), intV (whenE (decide (3 < n)) 137), intV (valE v), intV (whenE (!v.toList.isEmpty) 160)] (by first | rfl | simp)) (by simp)).mono ?_; rintro e w' ⟨rfl, rfl⟩)
    all_goals first
      | (have hbad : zeroOk ⟨12, a, b, k, v, n⟩ = false := by
           rw [zero12]
           first
             | (simp [show ¬ a.toList = [] by assumption]; done)
             | (simp [show ¬ b.toList = [] by assumption]; done)
         go_ret
         exact ⟨ret_i (chk_bad hbad).symm, (by first | exact (HB2.out.drew).trans (below_box' _ (Nat.le_of_lt hz)).drew | exact (HB2.out.drew).trans (below_box' _ (Nat.le_of_lt hz)))⟩)
      | (have ha : a.toList = [] := by assumption
         have hb : b.toList = [] := by assumption
         have hzo : zeroOk ⟨12, a, b, k, v, n⟩ = true := by rw [zero12]; simp [ha, hb]
         have HZ := chk_ok (c := ⟨12, a, b, k, v, n⟩) rfl hzo
         go_ret
         exact ⟨ret_i (by rw [HZ]; exact (resolve_hi (by have := HN0.out; omega)).symm), (by first | exact (HB2.out.drew).trans (below_box' _ (Nat.le_of_lt hz)).drew | exact (HB2.out.drew).trans (below_box' _ (Nat.le_of_lt hz)))⟩)
end Go.Proofs.YtpgchdjfeklobaaDoor
