/-
  Walks: Check of the reference, kind 11.
-/
import Derived.Deep.RegionHeld3
import Derived.Deep.RegionWith
import Derived.StillTailTactics
import Derived.Test.YtpgchdjfeklobaaDoorR0
namespace Go.Proofs.YtpgchdjfeklobaaDoor
open Go.RowKit

theorem merge_lo {a b k v : ByteArray} {n : Int} (h : n < 0) : firstE (errsOf ⟨11, a, b, k, v, n⟩) = firstE [needE b false, whenE true 137] := by
  have e : decide (n < 0 ∨ 2 < n) = true := by simp [h]
  show firstE [needE b false, whenE (decide (n < 0 ∨ 2 < n)) 137] = _
  rw [e]
theorem merge_hi {a b k v : ByteArray} {n : Int} (h : ¬ n < 0) : firstE (errsOf ⟨11, a, b, k, v, n⟩) = firstE [needE b false, whenE (decide (2 < n)) 137] := by
  have e : decide (n < 0 ∨ 2 < n) = decide (2 < n) := by simp only [decide_eq_decide]; omega
  show firstE [needE b false, whenE (decide (n < 0 ∨ 2 < n)) 137] = _
  rw [e]
set_option maxRecDepth 100000 in
set_option maxHeartbeats 4000000 in
theorem rcheck11 (a b k v : ByteArray) (n : Int) (w : World) (hc : (CmdD.mk 11 a b k v n).Small) : Calls Tryd.prog 39 #[.agg (CmdD.mk 11 a b k v n).cells] w (ChkSaid ⟨11, a, b, k, v, n⟩ w) := by
  have hsa := hc.txt a (by simp)
  have hsb := hc.txt b (by simp)
  have hsk := hc.txt k (by simp)
  have hsv := hc.txt v (by simp)
  clear hc
  go_enter Tryd.func39, Tryd.ntmps39
  go_wp2
  go_region_held3 (fun W' => W'.cell? ⟨w.heap.size, 2, none⟩ = some (.string b) ∧ W'.cell? ⟨w.heap.size, 5, none⟩ = some (.int .i64 n))
    (first | (refine ⟨?_, ?_⟩ <;> go_simp; done))
    (first | fail)
  go_wp2
  have HX1 := Lib.hid (Blk.drew ((Blk.new w 23 (CmdD.mk 11 a b k v n).cells).alloc (.cells #[.int .i64 11, .string ⟨#[]⟩, .string b, .string ⟨#[]⟩, .string ⟨#[]⟩, .int .i64 n] 23)))
  have HX2 := Lib.hid (Blk.drew (Blk.new (w.alloc (.cells (CmdD.mk 11 a b k v n).cells 23)) 23 #[.int .i64 11, .string ⟨#[]⟩, .string b, .string ⟨#[]⟩, .string ⟨#[]⟩, .int .i64 n]))
  have HB2 := Lib.hid (Below.drew ((below_box w (.cells (CmdD.mk 11 a b k v n).cells 23)).trans (below_box' (w := w) (w1 := w.alloc (.cells (CmdD.mk 11 a b k v n).cells 23)) (.cells #[.int .i64 11, .string ⟨#[]⟩, .string b, .string ⟨#[]⟩, .string ⟨#[]⟩, .int .i64 n] 23) (by simp))))
  generalize hW : ((w.alloc (.cells (CmdD.mk 11 a b k v n).cells 23)).alloc (.cells #[.int .i64 11, .string ⟨#[]⟩, .string b, .string ⟨#[]⟩, .string ⟨#[]⟩, .int .i64 n] 23)).drew = W at *
  have hz : w.heap.size < W.heap.size := by rw [← hW]; simp; omega
  have hz' : w.heap.size + 1 < W.heap.size := by rw [← hW]; simp
  clear hW
  have e0 : W.cell? ⟨w.heap.size, 0, none⟩ = some (.int .i64 11) := by rw [HX1.out.cell]; rfl
  have x0 : W.cell? ⟨w.heap.size + 1, 0, none⟩ = some (.int .i64 11) := by have := HX2.out.cell 0; rw [World.size_alloc] at this; rw [this]; rfl
  have e1 : W.cell? ⟨w.heap.size, 1, none⟩ = some (.string a) := by rw [HX1.out.cell]; rfl
  have x1 : W.cell? ⟨w.heap.size + 1, 1, none⟩ = some (.string ⟨#[]⟩) := by have := HX2.out.cell 1; rw [World.size_alloc] at this; rw [this]; rfl
  have e2 : W.cell? ⟨w.heap.size, 2, none⟩ = some (.string b) := by rw [HX1.out.cell]; rfl
  have x2 : W.cell? ⟨w.heap.size + 1, 2, none⟩ = some (.string b) := by have := HX2.out.cell 2; rw [World.size_alloc] at this; rw [this]; rfl
  have e3 : W.cell? ⟨w.heap.size, 3, none⟩ = some (.string k) := by rw [HX1.out.cell]; rfl
  have x3 : W.cell? ⟨w.heap.size + 1, 3, none⟩ = some (.string ⟨#[]⟩) := by have := HX2.out.cell 3; rw [World.size_alloc] at this; rw [this]; rfl
  have e4 : W.cell? ⟨w.heap.size, 4, none⟩ = some (.string v) := by rw [HX1.out.cell]; rfl
  have x4 : W.cell? ⟨w.heap.size + 1, 4, none⟩ = some (.string ⟨#[]⟩) := by have := HX2.out.cell 4; rw [World.size_alloc] at this; rw [this]; rfl
  have e5 : W.cell? ⟨w.heap.size, 5, none⟩ = some (.int .i64 n) := by rw [HX1.out.cell]; rfl
  have x5 : W.cell? ⟨w.heap.size + 1, 5, none⟩ = some (.int .i64 n) := by have := HX2.out.cell 5; rw [World.size_alloc] at this; rw [this]; rfl
  by_cases hn0 : n < 0
  · have q1 : decide (n < 0) = true := by simpa using hn0
    have HN0 := Lib.hid hn0
    first
      | (go_region_with (first
            | (go_at_call 88; refine (rneeds_any b false _ hsb).mono ?_; rintro e w3 ⟨rfl, hb3⟩; have f0 : w3.cell? ⟨w.heap.size, 0, none⟩ = some (.int .i64 11) := ((bcell hb3).1 _ _ hz).trans e0; have xf0 : w3.cell? ⟨w.heap.size + 1, 0, none⟩ = some (.int .i64 11) := ((bcell hb3).1 _ _ hz').trans x0; have f1 : w3.cell? ⟨w.heap.size, 1, none⟩ = some (.string a) := ((bcell hb3).1 _ _ hz).trans e1; have xf1 : w3.cell? ⟨w.heap.size + 1, 1, none⟩ = some (.string ⟨#[]⟩) := ((bcell hb3).1 _ _ hz').trans x1; have f2 : w3.cell? ⟨w.heap.size, 2, none⟩ = some (.string b) := ((bcell hb3).1 _ _ hz).trans e2; have xf2 : w3.cell? ⟨w.heap.size + 1, 2, none⟩ = some (.string b) := ((bcell hb3).1 _ _ hz').trans x2; have f3 : w3.cell? ⟨w.heap.size, 3, none⟩ = some (.string k) := ((bcell hb3).1 _ _ hz).trans e3; have xf3 : w3.cell? ⟨w.heap.size + 1, 3, none⟩ = some (.string ⟨#[]⟩) := ((bcell hb3).1 _ _ hz').trans x3; have f4 : w3.cell? ⟨w.heap.size, 4, none⟩ = some (.string v) := ((bcell hb3).1 _ _ hz).trans e4; have xf4 : w3.cell? ⟨w.heap.size + 1, 4, none⟩ = some (.string ⟨#[]⟩) := ((bcell hb3).1 _ _ hz').trans x4; have f5 : w3.cell? ⟨w.heap.size, 5, none⟩ = some (.int .i64 n) := ((bcell hb3).1 _ _ hz).trans e5; have xf5 : w3.cell? ⟨w.heap.size + 1, 5, none⟩ = some (.int .i64 n) := ((bcell hb3).1 _ _ hz').trans x5; have hz3 : w.heap.size < w3.heap.size := Nat.lt_of_lt_of_le hz hb3.size; have hz3' : w.heap.size + 1 < w3.heap.size := Nat.lt_of_lt_of_le hz' hb3.size; have HB3 := Lib.hid ((HB2.out.drew).trans (hb3.mono (Nat.le_of_lt hz))); clear hb3)
            | (go_at_call 86; refine (when_any _ _ _).mono ?_; rintro e w' ⟨rfl, rfl⟩)))
      | fail
    all_goals (go_wp2_with (go_at_call 89; refine (rfirst_any _ _ [needE b false, whenE true 137] _ _ (by first | exact (reads_at _ 3 [intV (needE b false), intV (whenE true 137)] (by first | rfl | simp)).drew | exact reads_at _ 3 [intV (needE b false), intV (whenE true 137)] (by first | rfl | simp)) (by simp)).mono ?_; rintro e w' ⟨rfl, rfl⟩))
    all_goals first
      | (have hbad : zeroOk ⟨11, a, b, k, v, n⟩ = false := by
           rw [zero11]
           first
             | (simp [show ¬ a.toList = [] by assumption]; done)
             | (simp [show ¬ k.toList = [] by assumption]; done)
             | (simp [show ¬ v.toList = [] by assumption]; done)
         go_ret
         exact ⟨ret_i (chk_bad hbad).symm, (by first | exact (HB3.out).trans (below_box' _ (Nat.le_of_lt hz3)).drew | exact (HB3.out).trans (below_box' _ (Nat.le_of_lt hz3)))⟩)
      | (have ha : a.toList = [] := by assumption
         have hk : k.toList = [] := by assumption
         have hv : v.toList = [] := by assumption
         have hzo : zeroOk ⟨11, a, b, k, v, n⟩ = true := by rw [zero11]; simp [ha, hk, hv]
         have HZ := chk_ok (c := ⟨11, a, b, k, v, n⟩) rfl hzo
         go_ret
         exact ⟨ret_i (by rw [HZ]; exact (merge_lo (by have := HN0.out; omega)).symm), (by first | exact (HB3.out).trans (below_box' _ (Nat.le_of_lt hz3)).drew | exact (HB3.out).trans (below_box' _ (Nat.le_of_lt hz3)))⟩)
  · have q1 : decide (n < 0) = false := by simpa using hn0
    have HN0 := Lib.hid hn0
    go_region_held3 (fun W' => W'.cell? ⟨w.heap.size, 2, none⟩ = some (.string b) ∧ W'.cell? ⟨w.heap.size, 5, none⟩ = some (.int .i64 n))
          (first | exact ⟨e2, e5⟩ | exact ⟨f2, f5⟩ | exact ⟨(World.cell?_alloc_lt _ _ _ hz3).trans f2, (World.cell?_alloc_lt _ _ _ hz3).trans f5⟩)
          (first
            | (go_at_call 88; refine (rneeds_any b false _ hsb).mono ?_; rintro e w3 ⟨rfl, hb3⟩; have f0 : w3.cell? ⟨w.heap.size, 0, none⟩ = some (.int .i64 11) := ((bcell hb3).1 _ _ hz).trans e0; have xf0 : w3.cell? ⟨w.heap.size + 1, 0, none⟩ = some (.int .i64 11) := ((bcell hb3).1 _ _ hz').trans x0; have f1 : w3.cell? ⟨w.heap.size, 1, none⟩ = some (.string a) := ((bcell hb3).1 _ _ hz).trans e1; have xf1 : w3.cell? ⟨w.heap.size + 1, 1, none⟩ = some (.string ⟨#[]⟩) := ((bcell hb3).1 _ _ hz').trans x1; have f2 : w3.cell? ⟨w.heap.size, 2, none⟩ = some (.string b) := ((bcell hb3).1 _ _ hz).trans e2; have xf2 : w3.cell? ⟨w.heap.size + 1, 2, none⟩ = some (.string b) := ((bcell hb3).1 _ _ hz').trans x2; have f3 : w3.cell? ⟨w.heap.size, 3, none⟩ = some (.string k) := ((bcell hb3).1 _ _ hz).trans e3; have xf3 : w3.cell? ⟨w.heap.size + 1, 3, none⟩ = some (.string ⟨#[]⟩) := ((bcell hb3).1 _ _ hz').trans x3; have f4 : w3.cell? ⟨w.heap.size, 4, none⟩ = some (.string v) := ((bcell hb3).1 _ _ hz).trans e4; have xf4 : w3.cell? ⟨w.heap.size + 1, 4, none⟩ = some (.string ⟨#[]⟩) := ((bcell hb3).1 _ _ hz').trans x4; have f5 : w3.cell? ⟨w.heap.size, 5, none⟩ = some (.int .i64 n) := ((bcell hb3).1 _ _ hz).trans e5; have xf5 : w3.cell? ⟨w.heap.size + 1, 5, none⟩ = some (.int .i64 n) := ((bcell hb3).1 _ _ hz').trans x5; have hz3 : w.heap.size < w3.heap.size := Nat.lt_of_lt_of_le hz hb3.size; have hz3' : w.heap.size + 1 < w3.heap.size := Nat.lt_of_lt_of_le hz' hb3.size; have HB3 := Lib.hid ((HB2.out.drew).trans (hb3.mono (Nat.le_of_lt hz))); clear hb3)
            | (go_at_call 86; refine (when_any _ _ _).mono ?_; rintro e w' ⟨rfl, rfl⟩))
    all_goals (go_wp2_with (go_at_call 89; refine (rfirst_any _ _ [needE b false, whenE (decide (2 < n)) 137] _ _ (by first | exact (reads_at _ 3 [intV (needE b false), intV (whenE (decide (2 < n)) 137)] (by first | rfl | simp)).drew | exact reads_at _ 3 [intV (needE b false), intV (whenE (decide (2 < n)) 137)] (by first | rfl | simp)) (by simp)).mono ?_; rintro e w' ⟨rfl, rfl⟩))
    all_goals first
      | (have hbad : zeroOk ⟨11, a, b, k, v, n⟩ = false := by
           rw [zero11]
           first
             | (simp [show ¬ a.toList = [] by assumption]; done)
             | (simp [show ¬ k.toList = [] by assumption]; done)
             | (simp [show ¬ v.toList = [] by assumption]; done)
         go_ret
         exact ⟨ret_i (chk_bad hbad).symm, (by first | exact (HB3.out).trans (below_box' _ (Nat.le_of_lt hz3)).drew | exact (HB3.out).trans (below_box' _ (Nat.le_of_lt hz3)))⟩)
      | (have ha : a.toList = [] := by assumption
         have hk : k.toList = [] := by assumption
         have hv : v.toList = [] := by assumption
         have hzo : zeroOk ⟨11, a, b, k, v, n⟩ = true := by rw [zero11]; simp [ha, hk, hv]
         have HZ := chk_ok (c := ⟨11, a, b, k, v, n⟩) rfl hzo
         go_ret
         exact ⟨ret_i (by rw [HZ]; exact (merge_hi (by have := HN0.out; omega)).symm), (by first | exact (HB3.out).trans (below_box' _ (Nat.le_of_lt hz3)).drew | exact (HB3.out).trans (below_box' _ (Nat.le_of_lt hz3)))⟩)
end Go.Proofs.YtpgchdjfeklobaaDoor
