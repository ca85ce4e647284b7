/-
  Walks: Check of the program, kinds 10, 11, 13, 14, 15.
-/
import Derived.Deep.RegionHeld3
import Derived.Deep.RegionWith
import Derived.Test.YtpgchdjfeklobaaDoorC0
namespace Go.Proofs.YtpgchdjfeklobaaDoor
open Go.RowKit

theorem zero10 (a b k v : ByteArray) (n : Int) : zeroOk ⟨10, a, b, k, v, n⟩ = (decide (a.toList = [])  && (decide (k.toList = [])  && (decide (v.toList = [])  && (decide (n = 0) )))) := by simp [zeroOk, usesOf, empty_iff]
set_option maxRecDepth 100000 in
set_option maxHeartbeats 4000000 in
theorem check10 (a b k v : ByteArray) (n : Int) (w : World) (hc : (CmdD.mk 10 a b k v n).Small) (hV : Vars w) : Calls Tryd.prog 15 #[.agg (CmdD.mk 10 a b k v n).cells] w (ChkSaid ⟨10, a, b, k, v, n⟩ w) := by
  have HV := Lib.hid hV
  have HC := Lib.hid hc
  have hsa := hc.txt a (by simp)
  have hsb := hc.txt b (by simp)
  have hsk := hc.txt k (by simp)
  have hsv := hc.txt v (by simp)
  clear hV hc
  have F : ∀ w, Calls Tryd.prog 47 #[.int .i64 10] w fun e w' => e = .returned (.tuple #[.agg #[.bool false, .bool true, .bool false, .bool false, .bool false], .bool true]) ∧ Below w.heap.size w w' := fun w => named_any 10 w
  have HF := Lib.hid F
  clear F
  go_enter Tryd.func15, Tryd.ntmps15
  go_wp2_with (first
    | (go_at_call 47; refine (HF.out _).mono ?_; rintro e w1 ⟨rfl, hb1⟩; obtain ⟨hc1, hf1⟩ := bcell hb1; have HB1 := Lib.hid hb1; have hz1 : w.heap.size < w1.heap.size := (by have := hb1.size; rw [World.size_alloc] at this; omega); have VW := Lib.hid (HV.out.below (((below_box w (.cells (CmdD.mk 10 a b k v n).cells 23)).trans (hb1.mono (by simp))).trans (below_box' (.cells #[.bool false, .bool true, .bool false, .bool false, .bool false] 84) (by omega)))))
    | (go_at_call 55; refine (cneeds_any b false _ hsb VW.out).mono ?_; rintro e w3 ⟨rfl, hb3⟩; have HB3 := Lib.hid hb3; clear hb3))
  all_goals first
    | (go_ret
       refine ⟨ret_i (chk_bad ?_).symm, ?_⟩
       · rw [zero10]
         first
           | (simp [show ¬ a.toList = [] by assumption]; done)
           | (simp [show ¬ k.toList = [] by assumption]; done)
           | (simp [show ¬ v.toList = [] by assumption]; done)
           | (have hn : (!n == 0) = true := by assumption
              simp at hn; simp [hn]; done)
       · exact ((below_box _ _).trans (HB1.out.mono (by simp))).trans (below_box' _ (by omega)))
    | (have ha : a.toList = [] := by assumption
       have hk : k.toList = [] := by assumption
       have hv : v.toList = [] := by assumption
       have hn : (!n == 0) = false := by assumption
       have hz : zeroOk ⟨10, a, b, k, v, n⟩ = true := by rw [zero10]; simp at hn; simp [ha, hk, hv, hn]
       have HZ := Lib.hid (chk_ok (c := ⟨10, a, b, k, v, n⟩) rfl hz)
       go_ret
       exact ⟨ret_i (by rw [HZ.out]; exact (firstE_one _).symm), ((((below_box _ _).trans (HB1.out.mono (by simp))).trans (below_box' _ (by omega))).trans (HB3.out.mono (by simp; omega)))⟩)

theorem zero11 (a b k v : ByteArray) (n : Int) : zeroOk ⟨11, a, b, k, v, n⟩ = (decide (a.toList = [])  && (decide (k.toList = [])  && (decide (v.toList = []) ))) := by simp [zeroOk, usesOf, empty_iff]
set_option maxRecDepth 100000 in
set_option maxHeartbeats 4000000 in
theorem check11 (a b k v : ByteArray) (n : Int) (w : World) (hc : (CmdD.mk 11 a b k v n).Small) (hV : Vars w) : Calls Tryd.prog 15 #[.agg (CmdD.mk 11 a b k v n).cells] w (ChkSaid ⟨11, a, b, k, v, n⟩ w) := by
  have HV := Lib.hid hV
  have HC := Lib.hid hc
  have hsa := hc.txt a (by simp)
  have hsb := hc.txt b (by simp)
  have hsk := hc.txt k (by simp)
  have hsv := hc.txt v (by simp)
  clear hV hc
  have F : ∀ w, Calls Tryd.prog 47 #[.int .i64 11] w fun e w' => e = .returned (.tuple #[.agg #[.bool false, .bool true, .bool false, .bool false, .bool true], .bool true]) ∧ Below w.heap.size w w' := fun w => named_any 11 w
  have HF := Lib.hid F
  clear F
  go_enter Tryd.func15, Tryd.ntmps15
  go_wp2_with (go_at_call 47; refine (HF.out _).mono ?_; rintro e w1 ⟨rfl, hb1⟩; obtain ⟨hc1, hf1⟩ := bcell hb1; have HB1 := Lib.hid hb1; have hz1 : w.heap.size < w1.heap.size := (by have := hb1.size; rw [World.size_alloc] at this; omega); have VW := Lib.hid (HV.out.below (((below_box w (.cells (CmdD.mk 11 a b k v n).cells 23)).trans (hb1.mono (by simp))).trans (below_box' (.cells #[.bool false, .bool true, .bool false, .bool false, .bool true] 84) (by omega)))))
  all_goals first
    | (go_ret
       refine ⟨ret_i (chk_bad ?_).symm, ?_⟩
       · rw [zero11]
         first
           | (simp [show ¬ a.toList = [] by assumption]; done)
           | (simp [show ¬ k.toList = [] by assumption]; done)
           | (simp [show ¬ v.toList = [] by assumption]; done)
       · exact ((below_box _ _).trans (HB1.out.mono (by simp))).trans (below_box' _ (by omega)))
    | skip
  have ha : a.toList = [] := by assumption
  have hk : k.toList = [] := by assumption
  have hv : v.toList = [] := by assumption
  have hz : zeroOk ⟨11, a, b, k, v, n⟩ = true := by rw [zero11]; simp [ha, hk, hv]
  have HZ := Lib.hid (chk_ok (c := ⟨11, a, b, k, v, n⟩) rfl hz)
  clear hz ha hk hv
  have HX := Lib.hid (((Blk.new w 23 (CmdD.mk 11 a b k v n).cells).below HB1.out (by simp)).alloc (.cells #[.bool false, .bool true, .bool false, .bool false, .bool true] 84))
  have HB2 := Lib.hid (((below_box w (.cells (CmdD.mk 11 a b k v n).cells 23)).trans (HB1.out.mono (by simp))).trans (below_box' (.cells #[.bool false, .bool true, .bool false, .bool false, .bool true] 84) (by omega)))
  clear hc1 hf1 VW
  generalize hW : w1.alloc (.cells #[.bool false, .bool true, .bool false, .bool false, .bool true] 84) = W at *
  have hz : w.heap.size < W.heap.size := by rw [← hW]; simp; omega
  clear hW
  have e2 : W.cell? ⟨w.heap.size, 2, none⟩ = some (.string b) := by rw [HX.out.cell]; rfl
  have e5 : W.cell? ⟨w.heap.size, 5, none⟩ = some (.int .i64 n) := by rw [HX.out.cell]; rfl
  have V0 := Lib.hid (HV.out.below HB2.out.drew)
  go_region_held3 (fun W' => W'.cell? ⟨w.heap.size, 2, none⟩ = some (.string b) ∧ W'.cell? ⟨w.heap.size, 5, none⟩ = some (.int .i64 n))
    (first | exact ⟨e2, e5⟩ | exact ⟨f2, f5⟩ | exact ⟨(World.cell?_alloc_lt _ _ _ hz3).trans f2, (World.cell?_alloc_lt _ _ _ hz3).trans f5⟩)
    (first
      | (go_at_call 55; refine (cneeds_any b false _ hsb V0.out).mono ?_; rintro e w3 ⟨rfl, hb3⟩; have f2 : w3.cell? ⟨w.heap.size, 2, none⟩ = some (.string b) := ((bcell hb3).1 _ _ hz).trans e2; have f5 : w3.cell? ⟨w.heap.size, 5, none⟩ = some (.int .i64 n) := ((bcell hb3).1 _ _ hz).trans e5; have hz3 : w.heap.size < w3.heap.size := Nat.lt_of_lt_of_le hz hb3.size; have HB3 := Lib.hid ((HB2.out.drew).trans (hb3.mono (Nat.le_of_lt hz))); have V3 := Lib.hid (HV.out.below HB3.out); clear hb3)
      | (go_at_call 51; refine (within_e _ _ _ _).mono ?_; rintro e w' ⟨rfl, rfl⟩)
      | (go_at_call 48; refine (first_any _ _ [needE b false, withinE n 2 137] _ _ (by first | exact (reads_new _ 27 [intV (needE b false), intV (withinE n 2 137)]).drew | exact reads_new _ 27 [intV (needE b false), intV (withinE n 2 137)]) (by simp)).mono ?_; rintro e w' ⟨rfl, rfl⟩))
  go_wp2
  go_ret
  exact ⟨ret_i (by rw [HZ.out]; exact rfl), by first | exact (HB3.out).trans (below_box' _ (Nat.le_of_lt hz3)).drew | exact (HB3.out).trans (below_box' _ (Nat.le_of_lt hz3))⟩

theorem zero13 (a b k v : ByteArray) (n : Int) : zeroOk ⟨13, a, b, k, v, n⟩ = (decide (a.toList = [])  && (decide (b.toList = [])  && (decide (k.toList = [])  && (decide (v.toList = [])  && (decide (n = 0) ))))) := by simp [zeroOk, usesOf, empty_iff]
set_option maxRecDepth 100000 in
set_option maxHeartbeats 4000000 in
theorem check13 (a b k v : ByteArray) (n : Int) (w : World) (hc : (CmdD.mk 13 a b k v n).Small) (hV : Vars w) : Calls Tryd.prog 15 #[.agg (CmdD.mk 13 a b k v n).cells] w (ChkSaid ⟨13, a, b, k, v, n⟩ w) := by
  have HV := Lib.hid hV
  have HC := Lib.hid hc
  have hsa := hc.txt a (by simp)
  have hsb := hc.txt b (by simp)
  have hsk := hc.txt k (by simp)
  have hsv := hc.txt v (by simp)
  clear hV hc
  have F : ∀ w, Calls Tryd.prog 47 #[.int .i64 13] w fun e w' => e = .returned (.tuple #[.agg #[.bool false, .bool false, .bool false, .bool false, .bool false], .bool true]) ∧ Below w.heap.size w w' := fun w => named_any 13 w
  have HF := Lib.hid F
  clear F
  go_enter Tryd.func15, Tryd.ntmps15
  go_wp2_with (first
    | (go_at_call 47; refine (HF.out _).mono ?_; rintro e w1 ⟨rfl, hb1⟩; obtain ⟨hc1, hf1⟩ := bcell hb1; have HB1 := Lib.hid hb1; have hz1 : w.heap.size < w1.heap.size := (by have := hb1.size; rw [World.size_alloc] at this; omega); have VW := Lib.hid (HV.out.below (((below_box w (.cells (CmdD.mk 13 a b k v n).cells 23)).trans (hb1.mono (by simp))).trans (below_box' (.cells #[.bool false, .bool false, .bool false, .bool false, .bool false] 84) (by omega))))))
  all_goals first
    | (go_ret
       refine ⟨ret_i (chk_bad ?_).symm, ?_⟩
       · rw [zero13]
         first
           | (simp [show ¬ a.toList = [] by assumption]; done)
           | (simp [show ¬ b.toList = [] by assumption]; done)
           | (simp [show ¬ k.toList = [] by assumption]; done)
           | (simp [show ¬ v.toList = [] by assumption]; done)
           | (have hn : (!n == 0) = true := by assumption
              simp at hn; simp [hn]; done)
       · exact ((below_box _ _).trans (HB1.out.mono (by simp))).trans (below_box' _ (by omega)))
    | (have ha : a.toList = [] := by assumption
       have hb : b.toList = [] := by assumption
       have hk : k.toList = [] := by assumption
       have hv : v.toList = [] := by assumption
       have hn : (!n == 0) = false := by assumption
       have hz : zeroOk ⟨13, a, b, k, v, n⟩ = true := by rw [zero13]; simp at hn; simp [ha, hb, hk, hv, hn]
       have HZ := Lib.hid (chk_ok (c := ⟨13, a, b, k, v, n⟩) rfl hz)
       go_ret
       exact ⟨ret_i (by rw [HZ.out]; rfl), (((below_box _ _).trans (HB1.out.mono (by simp))).trans (below_box' _ (by omega)))⟩)

theorem zero14 (a b k v : ByteArray) (n : Int) : zeroOk ⟨14, a, b, k, v, n⟩ = (decide (a.toList = [])  && (decide (k.toList = [])  && (decide (v.toList = [])  && (decide (n = 0) )))) := by simp [zeroOk, usesOf, empty_iff]
set_option maxRecDepth 100000 in
set_option maxHeartbeats 4000000 in
theorem check14 (a b k v : ByteArray) (n : Int) (w : World) (hc : (CmdD.mk 14 a b k v n).Small) (hV : Vars w) : Calls Tryd.prog 15 #[.agg (CmdD.mk 14 a b k v n).cells] w (ChkSaid ⟨14, a, b, k, v, n⟩ w) := by
  have HV := Lib.hid hV
  have HC := Lib.hid hc
  have hsa := hc.txt a (by simp)
  have hsb := hc.txt b (by simp)
  have hsk := hc.txt k (by simp)
  have hsv := hc.txt v (by simp)
  clear hV hc
  have F : ∀ w, Calls Tryd.prog 47 #[.int .i64 14] w fun e w' => e = .returned (.tuple #[.agg #[.bool false, .bool true, .bool false, .bool false, .bool false], .bool true]) ∧ Below w.heap.size w w' := fun w => named_any 14 w
  have HF := Lib.hid F
  clear F
  go_enter Tryd.func15, Tryd.ntmps15
  go_wp2_with (first
    | (go_at_call 47; refine (HF.out _).mono ?_; rintro e w1 ⟨rfl, hb1⟩; obtain ⟨hc1, hf1⟩ := bcell hb1; have HB1 := Lib.hid hb1; have hz1 : w.heap.size < w1.heap.size := (by have := hb1.size; rw [World.size_alloc] at this; omega); have VW := Lib.hid (HV.out.below (((below_box w (.cells (CmdD.mk 14 a b k v n).cells 23)).trans (hb1.mono (by simp))).trans (below_box' (.cells #[.bool false, .bool true, .bool false, .bool false, .bool false] 84) (by omega)))))
    | (go_at_call 55; refine (cneeds_any b false _ hsb VW.out).mono ?_; rintro e w3 ⟨rfl, hb3⟩; have HB3 := Lib.hid hb3; clear hb3))
  all_goals first
    | (go_ret
       refine ⟨ret_i (chk_bad ?_).symm, ?_⟩
       · rw [zero14]
         first
           | (simp [show ¬ a.toList = [] by assumption]; done)
           | (simp [show ¬ k.toList = [] by assumption]; done)
           | (simp [show ¬ v.toList = [] by assumption]; done)
           | (have hn : (!n == 0) = true := by assumption
              simp at hn; simp [hn]; done)
       · exact ((below_box _ _).trans (HB1.out.mono (by simp))).trans (below_box' _ (by omega)))
    | (have ha : a.toList = [] := by assumption
       have hk : k.toList = [] := by assumption
       have hv : v.toList = [] := by assumption
       have hn : (!n == 0) = false := by assumption
       have hz : zeroOk ⟨14, a, b, k, v, n⟩ = true := by rw [zero14]; simp at hn; simp [ha, hk, hv, hn]
       have HZ := Lib.hid (chk_ok (c := ⟨14, a, b, k, v, n⟩) rfl hz)
       go_ret
       exact ⟨ret_i (by rw [HZ.out]; exact (firstE_one _).symm), ((((below_box _ _).trans (HB1.out.mono (by simp))).trans (below_box' _ (by omega))).trans (HB3.out.mono (by simp; omega)))⟩)

theorem zero15 (a b k v : ByteArray) (n : Int) : zeroOk ⟨15, a, b, k, v, n⟩ = (decide (a.toList = [])  && (decide (k.toList = [])  && (decide (v.toList = [])  && (decide (n = 0) )))) := by simp [zeroOk, usesOf, empty_iff]
set_option maxRecDepth 100000 in
set_option maxHeartbeats 4000000 in
theorem check15 (a b k v : ByteArray) (n : Int) (w : World) (hc : (CmdD.mk 15 a b k v n).Small) (hV : Vars w) : Calls Tryd.prog 15 #[.agg (CmdD.mk 15 a b k v n).cells] w (ChkSaid ⟨15, a, b, k, v, n⟩ w) := by
  have HV := Lib.hid hV
  have HC := Lib.hid hc
  have hsa := hc.txt a (by simp)
  have hsb := hc.txt b (by simp)
  have hsk := hc.txt k (by simp)
  have hsv := hc.txt v (by simp)
  clear hV hc
  have F : ∀ w, Calls Tryd.prog 47 #[.int .i64 15] w fun e w' => e = .returned (.tuple #[.agg #[.bool false, .bool true, .bool false, .bool false, .bool false], .bool true]) ∧ Below w.heap.size w w' := fun w => named_any 15 w
  have HF := Lib.hid F
  clear F
  go_enter Tryd.func15, Tryd.ntmps15
  go_wp2_with (first
    | (go_at_call 47; refine (HF.out _).mono ?_; rintro e w1 ⟨rfl, hb1⟩; obtain ⟨hc1, hf1⟩ := bcell hb1; have HB1 := Lib.hid hb1; have hz1 : w.heap.size < w1.heap.size := (by have := hb1.size; rw [World.size_alloc] at this; omega); have VW := Lib.hid (HV.out.below (((below_box w (.cells (CmdD.mk 15 a b k v n).cells 23)).trans (hb1.mono (by simp))).trans (below_box' (.cells #[.bool false, .bool true, .bool false, .bool false, .bool false] 84) (by omega)))))
    | (go_at_call 55; refine (cneeds_any b false _ hsb VW.out).mono ?_; rintro e w3 ⟨rfl, hb3⟩; have HB3 := Lib.hid hb3; clear hb3))
  all_goals first
    | (go_ret
       refine ⟨ret_i (chk_bad ?_).symm, ?_⟩
       · rw [zero15]
         first
           | (simp [show ¬ a.toList = [] by assumption]; done)
           | (simp [show ¬ k.toList = [] by assumption]; done)
           | (simp [show ¬ v.toList = [] by assumption]; done)
           | (have hn : (!n == 0) = true := by assumption
              simp at hn; simp [hn]; done)
       · exact ((below_box _ _).trans (HB1.out.mono (by simp))).trans (below_box' _ (by omega)))
    | (have ha : a.toList = [] := by assumption
       have hk : k.toList = [] := by assumption
       have hv : v.toList = [] := by assumption
       have hn : (!n == 0) = false := by assumption
       have hz : zeroOk ⟨15, a, b, k, v, n⟩ = true := by rw [zero15]; simp at hn; simp [ha, hk, hv, hn]
       have HZ := Lib.hid (chk_ok (c := ⟨15, a, b, k, v, n⟩) rfl hz)
       go_ret
       exact ⟨ret_i (by rw [HZ.out]; exact (firstE_one _).symm), ((((below_box _ _).trans (HB1.out.mono (by simp))).trans (below_box' _ (by omega))).trans (HB3.out.mono (by simp; omega)))⟩)
end Go.Proofs.YtpgchdjfeklobaaDoor
