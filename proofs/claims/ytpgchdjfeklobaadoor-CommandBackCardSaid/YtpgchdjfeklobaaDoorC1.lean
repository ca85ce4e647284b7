/-
  Walks: Check of the program, kinds 1, 2, 3, 4.
-/
import Derived.Deep.RegionHeld3
import Derived.Deep.RegionWith
import Derived.Test.YtpgchdjfeklobaaDoorC0
namespace Go.Proofs.YtpgchdjfeklobaaDoor
open Go.RowKit

theorem zero1 (a b k v : ByteArray) (n : Int) : zeroOk ⟨1, a, b, k, v, n⟩ = (decide (a.toList = [])  && (decide (b.toList = [])  && (decide (n = 0) ))) := by simp [zeroOk, usesOf, empty_iff]
set_option maxRecDepth 100000 in
set_option maxHeartbeats 4000000 in
theorem check1 (a b k v : ByteArray) (n : Int) (w : World) (hc : (CmdD.mk 1 a b k v n).Small) (hV : Vars w) : Calls Tryd.prog 15 #[.agg (CmdD.mk 1 a b k v n).cells] w (ChkSaid ⟨1, a, b, k, v, n⟩ w) := by
  have HV := Lib.hid hV
  have HC := Lib.hid hc
  have hsa := hc.txt a (by simp)
  have hsb := hc.txt b (by simp)
  have hsk := hc.txt k (by simp)
  have hsv := hc.txt v (by simp)
  clear hV hc
  have F : ∀ w, Calls Tryd.prog 47 #[.int .i64 1] w fun e w' => e = .returned (.tuple #[.agg #[.bool false, .bool false, .bool true, .bool true, .bool false], .bool true]) ∧ Below w.heap.size w w' := fun w => named_any 1 w
  have HF := Lib.hid F
  clear F
  go_enter Tryd.func15, Tryd.ntmps15
  go_wp2_with (go_at_call 47; refine (HF.out _).mono ?_; rintro e w1 ⟨rfl, hb1⟩; obtain ⟨hc1, hf1⟩ := bcell hb1; have HB1 := Lib.hid hb1; have hz1 : w.heap.size < w1.heap.size := (by have := hb1.size; rw [World.size_alloc] at this; omega); have VW := Lib.hid (HV.out.below (((below_box w (.cells (CmdD.mk 1 a b k v n).cells 23)).trans (hb1.mono (by simp))).trans (below_box' (.cells #[.bool false, .bool false, .bool true, .bool true, .bool false] 84) (by omega)))))
  all_goals first
    | (go_ret
       refine ⟨ret_i (chk_bad ?_).symm, ?_⟩
       · rw [zero1]
         first
           | (simp [show ¬ a.toList = [] by assumption]; done)
           | (simp [show ¬ b.toList = [] by assumption]; done)
           | (have hn : (!n == 0) = true := by assumption
              simp at hn; simp [hn]; done)
       · exact ((below_box _ _).trans (HB1.out.mono (by simp))).trans (below_box' _ (by omega)))
    | skip
  have ha : a.toList = [] := by assumption
  have hb : b.toList = [] := by assumption
  have hn : (!n == 0) = false := by assumption
  have hz : zeroOk ⟨1, a, b, k, v, n⟩ = true := by rw [zero1]; simp at hn; simp [ha, hb, hn]
  have HZ := Lib.hid (chk_ok (c := ⟨1, a, b, k, v, n⟩) rfl hz)
  clear hz ha hb hn
  have HX := Lib.hid (((Blk.new w 23 (CmdD.mk 1 a b k v n).cells).below HB1.out (by simp)).alloc (.cells #[.bool false, .bool false, .bool true, .bool true, .bool false] 84))
  have HB2 := Lib.hid (((below_box w (.cells (CmdD.mk 1 a b k v n).cells 23)).trans (HB1.out.mono (by simp))).trans (below_box' (.cells #[.bool false, .bool false, .bool true, .bool true, .bool false] 84) (by omega)))
  clear hc1 hf1 VW
  generalize hW : w1.alloc (.cells #[.bool false, .bool false, .bool true, .bool true, .bool false] 84) = W at *
  have hz : w.heap.size < W.heap.size := by rw [← hW]; simp; omega
  clear hW
  have e3 : W.cell? ⟨w.heap.size, 3, none⟩ = some (.string k) := by rw [HX.out.cell]; rfl
  have e4 : W.cell? ⟨w.heap.size, 4, none⟩ = some (.string v) := by rw [HX.out.cell]; rfl
  have V0 := Lib.hid (HV.out.below HB2.out.drew)
  go_region_held3 (fun W' => W'.cell? ⟨w.heap.size, 3, none⟩ = some (.string k) ∧ W'.cell? ⟨w.heap.size, 4, none⟩ = some (.string v))
    (first | exact ⟨e3, e4⟩ | exact ⟨(World.cell?_alloc_lt _ _ _ hz).trans e3, (World.cell?_alloc_lt _ _ _ hz).trans e4⟩)
    (first
      | (go_at_call 49; refine (key_any k _ hsk).mono ?_; rintro e w' ⟨rfl, rfl⟩)
      | (go_at_call 50; refine (val_any v _ hsv).mono ?_; rintro e w' ⟨rfl, rfl⟩)
      | (go_at_call 48; refine (first_any _ _ [keyE k, valE v] _ _ (by first | exact (reads_new _ 27 [intV (keyE k), intV (valE v)]).drew | exact reads_new _ 27 [intV (keyE k), intV (valE v)]) (by simp)).mono ?_; rintro e w' ⟨rfl, rfl⟩))
  go_wp2
  go_ret
  exact ⟨ret_i (by rw [HZ.out]; exact rfl), by first | exact (HB2.out.drew).trans (below_box' _ (Nat.le_of_lt hz)).drew | exact (HB2.out.drew).trans (below_box' _ (Nat.le_of_lt hz))⟩

theorem zero2 (a b k v : ByteArray) (n : Int) : zeroOk ⟨2, a, b, k, v, n⟩ = (decide (a.toList = [])  && (decide (b.toList = [])  && (decide (v.toList = [])  && (decide (n = 0) )))) := by simp [zeroOk, usesOf, empty_iff]
set_option maxRecDepth 100000 in
set_option maxHeartbeats 4000000 in
theorem check2 (a b k v : ByteArray) (n : Int) (w : World) (hc : (CmdD.mk 2 a b k v n).Small) (hV : Vars w) : Calls Tryd.prog 15 #[.agg (CmdD.mk 2 a b k v n).cells] w (ChkSaid ⟨2, a, b, k, v, n⟩ w) := by
  have HV := Lib.hid hV
  have HC := Lib.hid hc
  have hsa := hc.txt a (by simp)
  have hsb := hc.txt b (by simp)
  have hsk := hc.txt k (by simp)
  have hsv := hc.txt v (by simp)
  clear hV hc
  have F : ∀ w, Calls Tryd.prog 47 #[.int .i64 2] w fun e w' => e = .returned (.tuple #[.agg #[.bool false, .bool false, .bool true, .bool false, .bool false], .bool true]) ∧ Below w.heap.size w w' := fun w => named_any 2 w
  have HF := Lib.hid F
  clear F
  go_enter Tryd.func15, Tryd.ntmps15
  go_wp2_with (first
    | (go_at_call 47; refine (HF.out _).mono ?_; rintro e w1 ⟨rfl, hb1⟩; obtain ⟨hc1, hf1⟩ := bcell hb1; have HB1 := Lib.hid hb1; have hz1 : w.heap.size < w1.heap.size := (by have := hb1.size; rw [World.size_alloc] at this; omega); have VW := Lib.hid (HV.out.below (((below_box w (.cells (CmdD.mk 2 a b k v n).cells 23)).trans (hb1.mono (by simp))).trans (below_box' (.cells #[.bool false, .bool false, .bool true, .bool false, .bool false] 84) (by omega)))))
    | (go_at_call 49; refine (key_any k _ hsk).mono ?_; rintro e w' ⟨rfl, rfl⟩))
  all_goals first
    | (go_ret
       refine ⟨ret_i (chk_bad ?_).symm, ?_⟩
       · rw [zero2]
         first
           | (simp [show ¬ a.toList = [] by assumption]; done)
           | (simp [show ¬ b.toList = [] by assumption]; done)
           | (simp [show ¬ v.toList = [] by assumption]; done)
           | (have hn : (!n == 0) = true := by assumption
              simp at hn; simp [hn]; done)
       · exact ((below_box _ _).trans (HB1.out.mono (by simp))).trans (below_box' _ (by omega)))
    | (have ha : a.toList = [] := by assumption
       have hb : b.toList = [] := by assumption
       have hv : v.toList = [] := by assumption
       have hn : (!n == 0) = false := by assumption
       have hz : zeroOk ⟨2, a, b, k, v, n⟩ = true := by rw [zero2]; simp at hn; simp [ha, hb, hv, hn]
       have HZ := Lib.hid (chk_ok (c := ⟨2, a, b, k, v, n⟩) rfl hz)
       go_ret
       exact ⟨ret_i (by rw [HZ.out]; exact (firstE_one _).symm), (((below_box _ _).trans (HB1.out.mono (by simp))).trans (below_box' _ (by omega)))⟩)

theorem zero3 (a b k v : ByteArray) (n : Int) : zeroOk ⟨3, a, b, k, v, n⟩ = (decide (a.toList = [])  && (decide (b.toList = [])  && (decide (v.toList = [])  && (decide (n = 0) )))) := by simp [zeroOk, usesOf, empty_iff]
set_option maxRecDepth 100000 in
set_option maxHeartbeats 4000000 in
theorem check3 (a b k v : ByteArray) (n : Int) (w : World) (hc : (CmdD.mk 3 a b k v n).Small) (hV : Vars w) : Calls Tryd.prog 15 #[.agg (CmdD.mk 3 a b k v n).cells] w (ChkSaid ⟨3, a, b, k, v, n⟩ w) := by
  have HV := Lib.hid hV
  have HC := Lib.hid hc
  have hsa := hc.txt a (by simp)
  have hsb := hc.txt b (by simp)
  have hsk := hc.txt k (by simp)
  have hsv := hc.txt v (by simp)
  clear hV hc
  have F : ∀ w, Calls Tryd.prog 47 #[.int .i64 3] w fun e w' => e = .returned (.tuple #[.agg #[.bool false, .bool false, .bool true, .bool false, .bool false], .bool true]) ∧ Below w.heap.size w w' := fun w => named_any 3 w
  have HF := Lib.hid F
  clear F
  go_enter Tryd.func15, Tryd.ntmps15
  go_wp2_with (first
    | (go_at_call 47; refine (HF.out _).mono ?_; rintro e w1 ⟨rfl, hb1⟩; obtain ⟨hc1, hf1⟩ := bcell hb1; have HB1 := Lib.hid hb1; have hz1 : w.heap.size < w1.heap.size := (by have := hb1.size; rw [World.size_alloc] at this; omega); have VW := Lib.hid (HV.out.below (((below_box w (.cells (CmdD.mk 3 a b k v n).cells 23)).trans (hb1.mono (by simp))).trans (below_box' (.cells #[.bool false, .bool false, .bool true, .bool false, .bool false] 84) (by omega)))))
    | (go_at_call 49; refine (key_any k _ hsk).mono ?_; rintro e w' ⟨rfl, rfl⟩))
  all_goals first
    | (go_ret
       refine ⟨ret_i (chk_bad ?_).symm, ?_⟩
       · rw [zero3]
         first
           | (simp [show ¬ a.toList = [] by assumption]; done)
           | (simp [show ¬ b.toList = [] by assumption]; done)
           | (simp [show ¬ v.toList = [] by assumption]; done)
           | (have hn : (!n == 0) = true := by assumption
              simp at hn; simp [hn]; done)
       · exact ((below_box _ _).trans (HB1.out.mono (by simp))).trans (below_box' _ (by omega)))
    | (have ha : a.toList = [] := by assumption
       have hb : b.toList = [] := by assumption
       have hv : v.toList = [] := by assumption
       have hn : (!n == 0) = false := by assumption
       have hz : zeroOk ⟨3, a, b, k, v, n⟩ = true := by rw [zero3]; simp at hn; simp [ha, hb, hv, hn]
       have HZ := Lib.hid (chk_ok (c := ⟨3, a, b, k, v, n⟩) rfl hz)
       go_ret
       exact ⟨ret_i (by rw [HZ.out]; exact (firstE_one _).symm), (((below_box _ _).trans (HB1.out.mono (by simp))).trans (below_box' _ (by omega)))⟩)

theorem zero4 (a b k v : ByteArray) (n : Int) : zeroOk ⟨4, a, b, k, v, n⟩ = (decide (a.toList = [])  && (decide (b.toList = []) )) := by simp [zeroOk, usesOf, empty_iff]
set_option maxRecDepth 100000 in
set_option maxHeartbeats 4000000 in
theorem check4 (a b k v : ByteArray) (n : Int) (w : World) (hc : (CmdD.mk 4 a b k v n).Small) (hV : Vars w) : Calls Tryd.prog 15 #[.agg (CmdD.mk 4 a b k v n).cells] w (ChkSaid ⟨4, a, b, k, v, n⟩ w) := by
  have HV := Lib.hid hV
  have HC := Lib.hid hc
  have hsa := hc.txt a (by simp)
  have hsb := hc.txt b (by simp)
  have hsk := hc.txt k (by simp)
  have hsv := hc.txt v (by simp)
  clear hV hc
  have F : ∀ w, Calls Tryd.prog 47 #[.int .i64 4] w fun e w' => e = .returned (.tuple #[.agg #[.bool false, .bool false, .bool true, .bool true, .bool true], .bool true]) ∧ Below w.heap.size w w' := fun w => named_any 4 w
  have HF := Lib.hid F
  clear F
  go_enter Tryd.func15, Tryd.ntmps15
  go_wp2_with (go_at_call 47; refine (HF.out _).mono ?_; rintro e w1 ⟨rfl, hb1⟩; obtain ⟨hc1, hf1⟩ := bcell hb1; have HB1 := Lib.hid hb1; have hz1 : w.heap.size < w1.heap.size := (by have := hb1.size; rw [World.size_alloc] at this; omega); have VW := Lib.hid (HV.out.below (((below_box w (.cells (CmdD.mk 4 a b k v n).cells 23)).trans (hb1.mono (by simp))).trans (below_box' (.cells #[.bool false, .bool false, .bool true, .bool true, .bool true] 84) (by omega)))))
  all_goals first
    | (go_ret
       refine ⟨ret_i (chk_bad ?_).symm, ?_⟩
       · rw [zero4]
         first
           | (simp [show ¬ a.toList = [] by assumption]; done)
           | (simp [show ¬ b.toList = [] by assumption]; done)
       · exact ((below_box _ _).trans (HB1.out.mono (by simp))).trans (below_box' _ (by omega)))
    | skip
  have ha : a.toList = [] := by assumption
  have hb : b.toList = [] := by assumption
  have hz : zeroOk ⟨4, a, b, k, v, n⟩ = true := by rw [zero4]; simp [ha, hb]
  have HZ := Lib.hid (chk_ok (c := ⟨4, a, b, k, v, n⟩) rfl hz)
  clear hz ha hb
  have HX := Lib.hid (((Blk.new w 23 (CmdD.mk 4 a b k v n).cells).below HB1.out (by simp)).alloc (.cells #[.bool false, .bool false, .bool true, .bool true, .bool true] 84))
  have HB2 := Lib.hid (((below_box w (.cells (CmdD.mk 4 a b k v n).cells 23)).trans (HB1.out.mono (by simp))).trans (below_box' (.cells #[.bool false, .bool false, .bool true, .bool true, .bool true] 84) (by omega)))
  clear hc1 hf1 VW
  generalize hW : w1.alloc (.cells #[.bool false, .bool false, .bool true, .bool true, .bool true] 84) = W at *
  have hz : w.heap.size < W.heap.size := by rw [← hW]; simp; omega
  clear hW
  have e3 : W.cell? ⟨w.heap.size, 3, none⟩ = some (.string k) := by rw [HX.out.cell]; rfl
  have e4 : W.cell? ⟨w.heap.size, 4, none⟩ = some (.string v) := by rw [HX.out.cell]; rfl
  have e5 : W.cell? ⟨w.heap.size, 5, none⟩ = some (.int .i64 n) := by rw [HX.out.cell]; rfl
  have V0 := Lib.hid (HV.out.below HB2.out.drew)
  go_region_held3 (fun W' => W'.cell? ⟨w.heap.size, 3, none⟩ = some (.string k) ∧ W'.cell? ⟨w.heap.size, 4, none⟩ = some (.string v) ∧ W'.cell? ⟨w.heap.size, 5, none⟩ = some (.int .i64 n))
    (first | exact ⟨e3, e4, e5⟩ | exact ⟨(World.cell?_alloc_lt _ _ _ hz).trans e3, (World.cell?_alloc_lt _ _ _ hz).trans e4, (World.cell?_alloc_lt _ _ _ hz).trans e5⟩)
    (first
      | (go_at_call 51; refine (within_e _ _ _ _).mono ?_; rintro e w' ⟨rfl, rfl⟩)
      | (go_at_call 48; refine (first_any _ _ [withinE (k.size : Int) 40 100, withinE (v.size : Int) 40 100, withinE n 9223372036854775807 1] _ _ (by first | exact (reads_new _ 27 [intV (withinE (k.size : Int) 40 100), intV (withinE (v.size : Int) 40 100), intV (withinE n 9223372036854775807 1)]).drew | exact reads_new _ 27 [intV (withinE (k.size : Int) 40 100), intV (withinE (v.size : Int) 40 100), intV (withinE n 9223372036854775807 1)]) (by simp)).mono ?_; rintro e w' ⟨rfl, rfl⟩))
  go_wp2
  go_ret
  exact ⟨ret_i (by rw [HZ.out]; exact (scan_errs' HC.out.n1).symm), by first | exact (HB2.out.drew).trans (below_box' _ (Nat.le_of_lt hz)).drew | exact (HB2.out.drew).trans (below_box' _ (Nat.le_of_lt hz))⟩
end Go.Proofs.YtpgchdjfeklobaaDoor
