/-
  Walks: Check of the program, kinds 16, 17, 18, 19, 20.
-/
import Derived.Deep.RegionHeld3
import Derived.Deep.RegionWith
import Derived.Test.YtpgchdjfeklobaaDoorC0
namespace Go.Proofs.YtpgchdjfeklobaaDoor
open Go.RowKit

theorem zero16 (a b k v : ByteArray) (n : Int) : zeroOk ⟨16, a, b, k, v, n⟩ = (decide (k.toList = [])  && (decide (v.toList = [])  && (decide (n = 0) ))) := by simp [zeroOk, usesOf, empty_iff]
set_option maxRecDepth 100000 in
set_option maxHeartbeats 4000000 in
theorem check16 (a b k v : ByteArray) (n : Int) (w : World) (hc : (CmdD.mk 16 a b k v n).Small) (hV : Vars w) : Calls Tryd.prog 15 #[.agg (CmdD.mk 16 a b k v n).cells] w (ChkSaid ⟨16, a, b, k, v, n⟩ w) := by
  have HV := Lib.hid hV
  have HC := Lib.hid hc
  have hsa := hc.txt a (by simp)
  have hsb := hc.txt b (by simp)
  have hsk := hc.txt k (by simp)
  have hsv := hc.txt v (by simp)
  clear hV hc
  have F : ∀ w, Calls Tryd.prog 47 #[.int .i64 16] w fun e w' => e = .returned (.tuple #[.agg #[.bool true, .bool true, .bool false, .bool false, .bool false], .bool true]) ∧ Below w.heap.size w w' := fun w => named_any 16 w
  have HF := Lib.hid F
  clear F
  go_enter Tryd.func15, Tryd.ntmps15
  go_wp2_with (go_at_call 47; refine (HF.out _).mono ?_; rintro e w1 ⟨rfl, hb1⟩; obtain ⟨hc1, hf1⟩ := bcell hb1; have HB1 := Lib.hid hb1; have hz1 : w.heap.size < w1.heap.size := (by have := hb1.size; rw [World.size_alloc] at this; omega); have VW := Lib.hid (HV.out.below (((below_box w (.cells (CmdD.mk 16 a b k v n).cells 23)).trans (hb1.mono (by simp))).trans (below_box' (.cells #[.bool true, .bool true, .bool false, .bool false, .bool false] 84) (by omega)))))
  all_goals first
    | (go_ret
       refine ⟨ret_i (chk_bad ?_).symm, ?_⟩
       · rw [zero16]
         first
           | (simp [show ¬ k.toList = [] by assumption]; done)
           | (simp [show ¬ v.toList = [] by assumption]; done)
           | (have hn : (!n == 0) = true := by assumption
              simp at hn; simp [hn]; done)
       · exact ((below_box _ _).trans (HB1.out.mono (by simp))).trans (below_box' _ (by omega)))
    | skip
  have hk : k.toList = [] := by assumption
  have hv : v.toList = [] := by assumption
  have hn : (!n == 0) = false := by assumption
  have hz : zeroOk ⟨16, a, b, k, v, n⟩ = true := by rw [zero16]; simp at hn; simp [hk, hv, hn]
  have HZ := Lib.hid (chk_ok (c := ⟨16, a, b, k, v, n⟩) rfl hz)
  clear hz hk hv hn
  have HX := Lib.hid (((Blk.new w 23 (CmdD.mk 16 a b k v n).cells).below HB1.out (by simp)).alloc (.cells #[.bool true, .bool true, .bool false, .bool false, .bool false] 84))
  have HB2 := Lib.hid (((below_box w (.cells (CmdD.mk 16 a b k v n).cells 23)).trans (HB1.out.mono (by simp))).trans (below_box' (.cells #[.bool true, .bool true, .bool false, .bool false, .bool false] 84) (by omega)))
  clear hc1 hf1 VW
  generalize hW : w1.alloc (.cells #[.bool true, .bool true, .bool false, .bool false, .bool false] 84) = W at *
  have hz : w.heap.size < W.heap.size := by rw [← hW]; simp; omega
  clear hW
  have e1 : W.cell? ⟨w.heap.size, 1, none⟩ = some (.string a) := by rw [HX.out.cell]; rfl
  have e2 : W.cell? ⟨w.heap.size, 2, none⟩ = some (.string b) := by rw [HX.out.cell]; rfl
  have V0 := Lib.hid (HV.out.below HB2.out.drew)
  go_region_held3 (fun W' => W'.cell? ⟨w.heap.size, 1, none⟩ = some (.string a) ∧ W'.cell? ⟨w.heap.size, 2, none⟩ = some (.string b))
    (first | exact ⟨e1, e2⟩ | exact ⟨f1, f2⟩ | exact ⟨g1, g2⟩ | exact ⟨(World.cell?_alloc_lt _ _ _ hz4).trans g1, (World.cell?_alloc_lt _ _ _ hz4).trans g2⟩)
    (first
      | (go_at_call_of 55 a; refine (cneeds_any a true _ hsa V0.out).mono ?_; rintro e w3 ⟨rfl, hb3⟩; have f1 : w3.cell? ⟨w.heap.size, 1, none⟩ = some (.string a) := ((bcell hb3).1 _ _ hz).trans e1; have f2 : w3.cell? ⟨w.heap.size, 2, none⟩ = some (.string b) := ((bcell hb3).1 _ _ hz).trans e2; have hz3 : w.heap.size < w3.heap.size := Nat.lt_of_lt_of_le hz hb3.size; have HB3 := Lib.hid ((HB2.out.drew).trans (hb3.mono (Nat.le_of_lt hz))); have V3 := Lib.hid (HV.out.below HB3.out); clear hb3)
      | (go_at_call_of 55 b; refine (cneeds_any b true _ hsb V3.out).mono ?_; rintro e w4 ⟨rfl, hb4⟩; have g1 : w4.cell? ⟨w.heap.size, 1, none⟩ = some (.string a) := ((bcell hb4).1 _ _ hz3).trans f1; have g2 : w4.cell? ⟨w.heap.size, 2, none⟩ = some (.string b) := ((bcell hb4).1 _ _ hz3).trans f2; have hz4 : w.heap.size < w4.heap.size := Nat.lt_of_lt_of_le hz3 hb4.size; have HB4 := Lib.hid ((HB3.out).trans (hb4.mono (Nat.le_of_lt hz3))); have V4 := Lib.hid (HV.out.below HB4.out); clear hb4)
      | (go_at_call 48; refine (first_any _ _ [needE a true, needE b true] _ _ (by first | exact (reads_new _ 27 [intV (needE a true), intV (needE b true)]).drew | exact reads_new _ 27 [intV (needE a true), intV (needE b true)]) (by simp)).mono ?_; rintro e w' ⟨rfl, rfl⟩))
  go_wp2
  go_ret
  exact ⟨ret_i (by rw [HZ.out]; exact rfl), by first | exact (HB4.out).trans (below_box' _ (Nat.le_of_lt hz4)).drew | exact (HB4.out).trans (below_box' _ (Nat.le_of_lt hz4))⟩

theorem zero17 (a b k v : ByteArray) (n : Int) : zeroOk ⟨17, a, b, k, v, n⟩ = (decide (a.toList = [])  && (decide (k.toList = [])  && (decide (v.toList = []) ))) := by simp [zeroOk, usesOf, empty_iff]
set_option maxRecDepth 100000 in
set_option maxHeartbeats 4000000 in
theorem check17 (a b k v : ByteArray) (n : Int) (w : World) (hc : (CmdD.mk 17 a b k v n).Small) (hV : Vars w) : Calls Tryd.prog 15 #[.agg (CmdD.mk 17 a b k v n).cells] w (ChkSaid ⟨17, a, b, k, v, n⟩ w) := by
  have HV := Lib.hid hV
  have HC := Lib.hid hc
  have hsa := hc.txt a (by simp)
  have hsb := hc.txt b (by simp)
  have hsk := hc.txt k (by simp)
  have hsv := hc.txt v (by simp)
  clear hV hc
  have F : ∀ w, Calls Tryd.prog 47 #[.int .i64 17] w fun e w' => e = .returned (.tuple #[.agg #[.bool false, .bool true, .bool false, .bool false, .bool true], .bool true]) ∧ Below w.heap.size w w' := fun w => named_any 17 w
  have HF := Lib.hid F
  clear F
  go_enter Tryd.func15, Tryd.ntmps15
  go_wp2_with (go_at_call 47; refine (HF.out _).mono ?_; rintro e w1 ⟨rfl, hb1⟩; obtain ⟨hc1, hf1⟩ := bcell hb1; have HB1 := Lib.hid hb1; have hz1 : w.heap.size < w1.heap.size := (by have := hb1.size; rw [World.size_alloc] at this; omega); have VW := Lib.hid (HV.out.below (((below_box w (.cells (CmdD.mk 17 a b k v n).cells 23)).trans (hb1.mono (by simp))).trans (below_box' (.cells #[.bool false, .bool true, .bool false, .bool false, .bool true] 84) (by omega)))))
  all_goals first
    | (go_ret
       refine ⟨ret_i (chk_bad ?_).symm, ?_⟩
       · rw [zero17]
         first
           | (simp [show ¬ a.toList = [] by assumption]; done)
           | (simp [show ¬ k.toList = [] by assumption]; done)
           | (simp [show ¬ v.toList = [] by assumption]; done)
       · exact ((below_box _ _).trans (HB1.out.mono (by simp))).trans (below_box' _ (by omega)))
    | skip
  have ha : a.toList = [] := by assumption
  have hk : k.toList = [] := by assumption
  have hv : v.toList = [] := by assumption
  have hz : zeroOk ⟨17, a, b, k, v, n⟩ = true := by rw [zero17]; simp [ha, hk, hv]
  have HZ := Lib.hid (chk_ok (c := ⟨17, a, b, k, v, n⟩) rfl hz)
  clear hz ha hk hv
  have HX := Lib.hid (((Blk.new w 23 (CmdD.mk 17 a b k v n).cells).below HB1.out (by simp)).alloc (.cells #[.bool false, .bool true, .bool false, .bool false, .bool true] 84))
  have HB2 := Lib.hid (((below_box w (.cells (CmdD.mk 17 a b k v n).cells 23)).trans (HB1.out.mono (by simp))).trans (below_box' (.cells #[.bool false, .bool true, .bool false, .bool false, .bool true] 84) (by omega)))
  clear hc1 hf1 VW
  generalize hW : w1.alloc (.cells #[.bool false, .bool true, .bool false, .bool false, .bool true] 84) = W at *
  have hz : w.heap.size < W.heap.size := by rw [← hW]; simp; omega
  clear hW
  have e2 : W.cell? ⟨w.heap.size, 2, none⟩ = some (.string b) := by rw [HX.out.cell]; rfl
  have e5 : W.cell? ⟨w.heap.size, 5, none⟩ = some (.int .i64 n) := by rw [HX.out.cell]; rfl
  have V0 := Lib.hid (HV.out.below HB2.out.drew)
  go_region_held3 (fun W' => W'.cell? ⟨w.heap.size, 2, none⟩ = some (.string b) ∧ W'.cell? ⟨w.heap.size, 5, none⟩ = some (.int .i64 n))
    (first | exact ⟨e2, e5⟩ | exact ⟨f2, f5⟩ | exact ⟨(World.cell?_alloc_lt _ _ _ hz3).trans f2, (World.cell?_alloc_lt _ _ _ hz3).trans f5⟩)
    (first
      | (go_at_call 55; refine (cneeds_any b true _ hsb V0.out).mono ?_; rintro e w3 ⟨rfl, hb3⟩; have f2 : w3.cell? ⟨w.heap.size, 2, none⟩ = some (.string b) := ((bcell hb3).1 _ _ hz).trans e2; have f5 : w3.cell? ⟨w.heap.size, 5, none⟩ = some (.int .i64 n) := ((bcell hb3).1 _ _ hz).trans e5; have hz3 : w.heap.size < w3.heap.size := Nat.lt_of_lt_of_le hz hb3.size; have HB3 := Lib.hid ((HB2.out.drew).trans (hb3.mono (Nat.le_of_lt hz))); have V3 := Lib.hid (HV.out.below HB3.out); clear hb3)
      | (go_at_call 51; refine (within_e _ _ _ _).mono ?_; rintro e w' ⟨rfl, rfl⟩)
      | (go_at_call 48; refine (first_any _ _ [needE b true, withinE n 9223372036854775807 1] _ _ (by first | exact (reads_new _ 27 [intV (needE b true), intV (withinE n 9223372036854775807 1)]).drew | exact reads_new _ 27 [intV (needE b true), intV (withinE n 9223372036854775807 1)]) (by simp)).mono ?_; rintro e w' ⟨rfl, rfl⟩))
  go_wp2
  go_ret
  exact ⟨ret_i (by rw [HZ.out]; exact (by rw [← log_e HC.out.n1]; rfl)), by first | exact (HB3.out).trans (below_box' _ (Nat.le_of_lt hz3)).drew | exact (HB3.out).trans (below_box' _ (Nat.le_of_lt hz3))⟩

theorem zero18 (a b k v : ByteArray) (n : Int) : zeroOk ⟨18, a, b, k, v, n⟩ = (decide (k.toList = [])  && (decide (v.toList = [])  && (decide (n = 0) ))) := by simp [zeroOk, usesOf, empty_iff]
set_option maxRecDepth 100000 in
set_option maxHeartbeats 4000000 in
theorem check18 (a b k v : ByteArray) (n : Int) (w : World) (hc : (CmdD.mk 18 a b k v n).Small) (hV : Vars w) : Calls Tryd.prog 15 #[.agg (CmdD.mk 18 a b k v n).cells] w (ChkSaid ⟨18, a, b, k, v, n⟩ w) := by
  have HV := Lib.hid hV
  have HC := Lib.hid hc
  have hsa := hc.txt a (by simp)
  have hsb := hc.txt b (by simp)
  have hsk := hc.txt k (by simp)
  have hsv := hc.txt v (by simp)
  clear hV hc
  have F : ∀ w, Calls Tryd.prog 47 #[.int .i64 18] w fun e w' => e = .returned (.tuple #[.agg #[.bool true, .bool true, .bool false, .bool false, .bool false], .bool true]) ∧ Below w.heap.size w w' := fun w => named_any 18 w
  have HF := Lib.hid F
  clear F
  go_enter Tryd.func15, Tryd.ntmps15
  go_wp2_with (go_at_call 47; refine (HF.out _).mono ?_; rintro e w1 ⟨rfl, hb1⟩; obtain ⟨hc1, hf1⟩ := bcell hb1; have HB1 := Lib.hid hb1; have hz1 : w.heap.size < w1.heap.size := (by have := hb1.size; rw [World.size_alloc] at this; omega); have VW := Lib.hid (HV.out.below (((below_box w (.cells (CmdD.mk 18 a b k v n).cells 23)).trans (hb1.mono (by simp))).trans (below_box' (.cells #[.bool true, .bool true, .bool false, .bool false, .bool false] 84) (by omega)))))
  all_goals first
    | (go_ret
       refine ⟨ret_i (chk_bad ?_).symm, ?_⟩
       · rw [zero18]
         first
           | (simp [show ¬ k.toList = [] by assumption]; done)
           | (simp [show ¬ v.toList = [] by assumption]; done)
           | (have hn : (!n == 0) = true := by assumption
              simp at hn; simp [hn]; done)
       · exact ((below_box _ _).trans (HB1.out.mono (by simp))).trans (below_box' _ (by omega)))
    | skip
  have hk : k.toList = [] := by assumption
  have hv : v.toList = [] := by assumption
  have hn : (!n == 0) = false := by assumption
  have hz : zeroOk ⟨18, a, b, k, v, n⟩ = true := by rw [zero18]; simp at hn; simp [hk, hv, hn]
  have HZ := Lib.hid (chk_ok (c := ⟨18, a, b, k, v, n⟩) rfl hz)
  clear hz hk hv hn
  have HX := Lib.hid (((Blk.new w 23 (CmdD.mk 18 a b k v n).cells).below HB1.out (by simp)).alloc (.cells #[.bool true, .bool true, .bool false, .bool false, .bool false] 84))
  have HB2 := Lib.hid (((below_box w (.cells (CmdD.mk 18 a b k v n).cells 23)).trans (HB1.out.mono (by simp))).trans (below_box' (.cells #[.bool true, .bool true, .bool false, .bool false, .bool false] 84) (by omega)))
  clear hc1 hf1 VW
  generalize hW : w1.alloc (.cells #[.bool true, .bool true, .bool false, .bool false, .bool false] 84) = W at *
  have hz : w.heap.size < W.heap.size := by rw [← hW]; simp; omega
  clear hW
  have e1 : W.cell? ⟨w.heap.size, 1, none⟩ = some (.string a) := by rw [HX.out.cell]; rfl
  have e2 : W.cell? ⟨w.heap.size, 2, none⟩ = some (.string b) := by rw [HX.out.cell]; rfl
  have V0 := Lib.hid (HV.out.below HB2.out.drew)
  go_region_held3 (fun W' => W'.cell? ⟨w.heap.size, 1, none⟩ = some (.string a) ∧ W'.cell? ⟨w.heap.size, 2, none⟩ = some (.string b))
    (first | exact ⟨e1, e2⟩ | exact ⟨f1, f2⟩ | exact ⟨g1, g2⟩ | exact ⟨(World.cell?_alloc_lt _ _ _ hz4).trans g1, (World.cell?_alloc_lt _ _ _ hz4).trans g2⟩)
    (first
      | (go_at_call_of 55 a; refine (cneeds_any a true _ hsa V0.out).mono ?_; rintro e w3 ⟨rfl, hb3⟩; have f1 : w3.cell? ⟨w.heap.size, 1, none⟩ = some (.string a) := ((bcell hb3).1 _ _ hz).trans e1; have f2 : w3.cell? ⟨w.heap.size, 2, none⟩ = some (.string b) := ((bcell hb3).1 _ _ hz).trans e2; have hz3 : w.heap.size < w3.heap.size := Nat.lt_of_lt_of_le hz hb3.size; have HB3 := Lib.hid ((HB2.out.drew).trans (hb3.mono (Nat.le_of_lt hz))); have V3 := Lib.hid (HV.out.below HB3.out); clear hb3)
      | (go_at_call_of 55 b; refine (cneeds_any b true _ hsb V3.out).mono ?_; rintro e w4 ⟨rfl, hb4⟩; have g1 : w4.cell? ⟨w.heap.size, 1, none⟩ = some (.string a) := ((bcell hb4).1 _ _ hz3).trans f1; have g2 : w4.cell? ⟨w.heap.size, 2, none⟩ = some (.string b) := ((bcell hb4).1 _ _ hz3).trans f2; have hz4 : w.heap.size < w4.heap.size := Nat.lt_of_lt_of_le hz3 hb4.size; have HB4 := Lib.hid ((HB3.out).trans (hb4.mono (Nat.le_of_lt hz3))); have V4 := Lib.hid (HV.out.below HB4.out); clear hb4)
      | (go_at_call 48; refine (first_any _ _ [needE a true, needE b true] _ _ (by first | exact (reads_new _ 27 [intV (needE a true), intV (needE b true)]).drew | exact reads_new _ 27 [intV (needE a true), intV (needE b true)]) (by simp)).mono ?_; rintro e w' ⟨rfl, rfl⟩))
  go_wp2
  go_ret
  exact ⟨ret_i (by rw [HZ.out]; exact rfl), by first | exact (HB4.out).trans (below_box' _ (Nat.le_of_lt hz4)).drew | exact (HB4.out).trans (below_box' _ (Nat.le_of_lt hz4))⟩

theorem zero19 (a b k v : ByteArray) (n : Int) : zeroOk ⟨19, a, b, k, v, n⟩ = (decide (a.toList = [])  && (decide (b.toList = [])  && (decide (k.toList = [])  && (decide (v.toList = [])  && (decide (n = 0) ))))) := by simp [zeroOk, usesOf, empty_iff]
set_option maxRecDepth 100000 in
set_option maxHeartbeats 4000000 in
theorem check19 (a b k v : ByteArray) (n : Int) (w : World) (hc : (CmdD.mk 19 a b k v n).Small) (hV : Vars w) : Calls Tryd.prog 15 #[.agg (CmdD.mk 19 a b k v n).cells] w (ChkSaid ⟨19, a, b, k, v, n⟩ w) := by
  have HV := Lib.hid hV
  have HC := Lib.hid hc
  have hsa := hc.txt a (by simp)
  have hsb := hc.txt b (by simp)
  have hsk := hc.txt k (by simp)
  have hsv := hc.txt v (by simp)
  clear hV hc
  have F : ∀ w, Calls Tryd.prog 47 #[.int .i64 19] w fun e w' => e = .returned (.tuple #[.agg #[.bool false, .bool false, .bool false, .bool false, .bool false], .bool true]) ∧ Below w.heap.size w w' := fun w => named_any 19 w
  have HF := Lib.hid F
  clear F
  go_enter Tryd.func15, Tryd.ntmps15
  go_wp2_with (first
    | (go_at_call 47; refine (HF.out _).mono ?_; rintro e w1 ⟨rfl, hb1⟩; obtain ⟨hc1, hf1⟩ := bcell hb1; have HB1 := Lib.hid hb1; have hz1 : w.heap.size < w1.heap.size := (by have := hb1.size; rw [World.size_alloc] at this; omega); have VW := Lib.hid (HV.out.below (((below_box w (.cells (CmdD.mk 19 a b k v n).cells 23)).trans (hb1.mono (by simp))).trans (below_box' (.cells #[.bool false, .bool false, .bool false, .bool false, .bool false] 84) (by omega))))))
  all_goals first
    | (go_ret
       refine ⟨ret_i (chk_bad ?_).symm, ?_⟩
       · rw [zero19]
         first
           | (simp [show ¬ a.toList = [] by assumption]; done)
           | (simp [show ¬ b.toList = [] by assumption]; done)
           | (simp [show ¬ k.toList = [] by assumption]; done)
           | (simp [show ¬ v.toList = [] by assumption]; done)
           | (have hn : (!n == 0) = true := by assumption
              simp at hn; simp [hn]; done)
       · exact ((below_box _ _).trans (HB1.out.mono (by simp))).trans (below_box' _ (by omega)))
    | (have ha : a.toList = [] := by assumption
       have hb : b.toList = [] := by assumption
       have hk : k.toList = [] := by assumption
       have hv : v.toList = [] := by assumption
       have hn : (!n == 0) = false := by assumption
       have hz : zeroOk ⟨19, a, b, k, v, n⟩ = true := by rw [zero19]; simp at hn; simp [ha, hb, hk, hv, hn]
       have HZ := Lib.hid (chk_ok (c := ⟨19, a, b, k, v, n⟩) rfl hz)
       go_ret
       exact ⟨ret_i (by rw [HZ.out]; rfl), (((below_box _ _).trans (HB1.out.mono (by simp))).trans (below_box' _ (by omega)))⟩)

theorem zero20 (a b k v : ByteArray) (n : Int) : zeroOk ⟨20, a, b, k, v, n⟩ = (decide (a.toList = [])  && (decide (b.toList = [])  && (decide (k.toList = [])  && (decide (v.toList = [])  && (decide (n = 0) ))))) := by simp [zeroOk, usesOf, empty_iff]
set_option maxRecDepth 100000 in
set_option maxHeartbeats 4000000 in
theorem check20 (a b k v : ByteArray) (n : Int) (w : World) (hc : (CmdD.mk 20 a b k v n).Small) (hV : Vars w) : Calls Tryd.prog 15 #[.agg (CmdD.mk 20 a b k v n).cells] w (ChkSaid ⟨20, a, b, k, v, n⟩ w) := by
  have HV := Lib.hid hV
  have HC := Lib.hid hc
  have hsa := hc.txt a (by simp)
  have hsb := hc.txt b (by simp)
  have hsk := hc.txt k (by simp)
  have hsv := hc.txt v (by simp)
  clear hV hc
  have F : ∀ w, Calls Tryd.prog 47 #[.int .i64 20] w fun e w' => e = .returned (.tuple #[.agg #[.bool false, .bool false, .bool false, .bool false, .bool false], .bool true]) ∧ Below w.heap.size w w' := fun w => named_any 20 w
  have HF := Lib.hid F
  clear F
  go_enter Tryd.func15, Tryd.ntmps15
  go_wp2_with (first
    | (go_at_call 47; refine (HF.out _).mono ?_; rintro e w1 ⟨rfl, hb1⟩; obtain ⟨hc1, hf1⟩ := bcell hb1; have HB1 := Lib.hid hb1; have hz1 : w.heap.size < w1.heap.size := (by have := hb1.size; rw [World.size_alloc] at this; omega); have VW := Lib.hid (HV.out.below (((below_box w (.cells (CmdD.mk 20 a b k v n).cells 23)).trans (hb1.mono (by simp))).trans (below_box' (.cells #[.bool false, .bool false, .bool false, .bool false, .bool false] 84) (by omega))))))
  all_goals first
    | (go_ret
       refine ⟨ret_i (chk_bad ?_).symm, ?_⟩
       · rw [zero20]
         first
           | (simp [show ¬ a.toList = [] by assumption]; done)
           | (simp [show ¬ b.toList = [] by assumption]; done)
           | (simp [show ¬ k.toList = [] by assumption]; done)
           | (simp [show ¬ v.toList = [] by assumption]; done)
           | (have hn : (!n == 0) = true := by assumption
              simp at hn; simp [hn]; done)
       · exact ((below_box _ _).trans (HB1.out.mono (by simp))).trans (below_box' _ (by omega)))
    | (have ha : a.toList = [] := by assumption
       have hb : b.toList = [] := by assumption
       have hk : k.toList = [] := by assumption
       have hv : v.toList = [] := by assumption
       have hn : (!n == 0) = false := by assumption
       have hz : zeroOk ⟨20, a, b, k, v, n⟩ = true := by rw [zero20]; simp at hn; simp [ha, hb, hk, hv, hn]
       have HZ := Lib.hid (chk_ok (c := ⟨20, a, b, k, v, n⟩) rfl hz)
       go_ret
       exact ⟨ret_i (by rw [HZ.out]; rfl), (((below_box _ _).trans (HB1.out.mono (by simp))).trans (below_box' _ (by omega)))⟩)
end Go.Proofs.YtpgchdjfeklobaaDoor
