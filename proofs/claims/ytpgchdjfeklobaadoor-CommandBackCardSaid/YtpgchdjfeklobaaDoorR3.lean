/-
  Walks: Check of the reference, kinds 16, 17, 18, 19, 20.
-/
import Derived.Deep.RegionHeld3
import Derived.Deep.RegionWith
import Derived.Test.YtpgchdjfeklobaaDoorR0
namespace Go.Proofs.YtpgchdjfeklobaaDoor
open Go.RowKit

set_option maxRecDepth 100000 in
set_option maxHeartbeats 4000000 in
theorem rcheck16 (a b k v : ByteArray) (n : Int) (w : World) (hc : (CmdD.mk 16 a b k v n).Small) : Calls Tryd.prog 39 #[.agg (CmdD.mk 16 a b k v n).cells] w (ChkSaid ⟨16, a, b, k, v, n⟩ w) := by
  have hsa := hc.txt a (by simp)
  have hsb := hc.txt b (by simp)
  have hsk := hc.txt k (by simp)
  have hsv := hc.txt v (by simp)
  clear hc
  go_enter Tryd.func39, Tryd.ntmps39
  go_wp2
  go_region_held3 (fun W' => W'.cell? ⟨w.heap.size, 1, none⟩ = some (.string a) ∧ W'.cell? ⟨w.heap.size, 2, none⟩ = some (.string b))
    (first | (refine ⟨?_, ?_⟩ <;> go_simp; done))
    (first | fail)
  go_wp2
  have HX1 := Lib.hid (Blk.drew ((Blk.new w 23 (CmdD.mk 16 a b k v n).cells).alloc (.cells #[.int .i64 16, .string a, .string b, .string ⟨#[]⟩, .string ⟨#[]⟩, .int .i64 0] 23)))
  have HX2 := Lib.hid (Blk.drew (Blk.new (w.alloc (.cells (CmdD.mk 16 a b k v n).cells 23)) 23 #[.int .i64 16, .string a, .string b, .string ⟨#[]⟩, .string ⟨#[]⟩, .int .i64 0]))
  have HB2 := Lib.hid (Below.drew ((below_box w (.cells (CmdD.mk 16 a b k v n).cells 23)).trans (below_box' (w := w) (w1 := w.alloc (.cells (CmdD.mk 16 a b k v n).cells 23)) (.cells #[.int .i64 16, .string a, .string b, .string ⟨#[]⟩, .string ⟨#[]⟩, .int .i64 0] 23) (by simp))))
  generalize hW : ((w.alloc (.cells (CmdD.mk 16 a b k v n).cells 23)).alloc (.cells #[.int .i64 16, .string a, .string b, .string ⟨#[]⟩, .string ⟨#[]⟩, .int .i64 0] 23)).drew = W at *
  have hz : w.heap.size < W.heap.size := by rw [← hW]; simp; omega
  have hz' : w.heap.size + 1 < W.heap.size := by rw [← hW]; simp
  clear hW
  have e0 : W.cell? ⟨w.heap.size, 0, none⟩ = some (.int .i64 16) := by rw [HX1.out.cell]; rfl
  have x0 : W.cell? ⟨w.heap.size + 1, 0, none⟩ = some (.int .i64 16) := by have := HX2.out.cell 0; rw [World.size_alloc] at this; rw [this]; rfl
  have e1 : W.cell? ⟨w.heap.size, 1, none⟩ = some (.string a) := by rw [HX1.out.cell]; rfl
  have x1 : W.cell? ⟨w.heap.size + 1, 1, none⟩ = some (.string a) := by have := HX2.out.cell 1; rw [World.size_alloc] at this; rw [this]; rfl
  have e2 : W.cell? ⟨w.heap.size, 2, none⟩ = some (.string b) := by rw [HX1.out.cell]; rfl
  have x2 : W.cell? ⟨w.heap.size + 1, 2, none⟩ = some (.string b) := by have := HX2.out.cell 2; rw [World.size_alloc] at this; rw [this]; rfl
  have e3 : W.cell? ⟨w.heap.size, 3, none⟩ = some (.string k) := by rw [HX1.out.cell]; rfl
  have x3 : W.cell? ⟨w.heap.size + 1, 3, none⟩ = some (.string ⟨#[]⟩) := by have := HX2.out.cell 3; rw [World.size_alloc] at this; rw [this]; rfl
  have e4 : W.cell? ⟨w.heap.size, 4, none⟩ = some (.string v) := by rw [HX1.out.cell]; rfl
  have x4 : W.cell? ⟨w.heap.size + 1, 4, none⟩ = some (.string ⟨#[]⟩) := by have := HX2.out.cell 4; rw [World.size_alloc] at this; rw [this]; rfl
  have e5 : W.cell? ⟨w.heap.size, 5, none⟩ = some (.int .i64 n) := by rw [HX1.out.cell]; rfl
  have x5 : W.cell? ⟨w.heap.size + 1, 5, none⟩ = some (.int .i64 0) := by have := HX2.out.cell 5; rw [World.size_alloc] at this; rw [this]; rfl
  go_region_held3 (fun W' => W'.cell? ⟨w.heap.size, 1, none⟩ = some (.string a) ∧ W'.cell? ⟨w.heap.size, 2, none⟩ = some (.string b))
    (first | exact ⟨e1, e2⟩ | exact ⟨f1, f2⟩ | exact ⟨g1, g2⟩ | exact ⟨(World.cell?_alloc_lt _ _ _ hz4).trans g1, (World.cell?_alloc_lt _ _ _ hz4).trans g2⟩)
    (first
      | (go_at_call_of 88 a; refine (rneeds_any a true _ hsa).mono ?_; rintro e w3 ⟨rfl, hb3⟩; have f0 : w3.cell? ⟨w.heap.size, 0, none⟩ = some (.int .i64 16) := ((bcell hb3).1 _ _ hz).trans e0; have xf0 : w3.cell? ⟨w.heap.size + 1, 0, none⟩ = some (.int .i64 16) := ((bcell hb3).1 _ _ hz').trans x0; have f1 : w3.cell? ⟨w.heap.size, 1, none⟩ = some (.string a) := ((bcell hb3).1 _ _ hz).trans e1; have xf1 : w3.cell? ⟨w.heap.size + 1, 1, none⟩ = some (.string a) := ((bcell hb3).1 _ _ hz').trans x1; have f2 : w3.cell? ⟨w.heap.size, 2, none⟩ = some (.string b) := ((bcell hb3).1 _ _ hz).trans e2; have xf2 : w3.cell? ⟨w.heap.size + 1, 2, none⟩ = some (.string b) := ((bcell hb3).1 _ _ hz').trans x2; have f3 : w3.cell? ⟨w.heap.size, 3, none⟩ = some (.string k) := ((bcell hb3).1 _ _ hz).trans e3; have xf3 : w3.cell? ⟨w.heap.size + 1, 3, none⟩ = some (.string ⟨#[]⟩) := ((bcell hb3).1 _ _ hz').trans x3; have f4 : w3.cell? ⟨w.heap.size, 4, none⟩ = some (.string v) := ((bcell hb3).1 _ _ hz).trans e4; have xf4 : w3.cell? ⟨w.heap.size + 1, 4, none⟩ = some (.string ⟨#[]⟩) := ((bcell hb3).1 _ _ hz').trans x4; have f5 : w3.cell? ⟨w.heap.size, 5, none⟩ = some (.int .i64 n) := ((bcell hb3).1 _ _ hz).trans e5; have xf5 : w3.cell? ⟨w.heap.size + 1, 5, none⟩ = some (.int .i64 0) := ((bcell hb3).1 _ _ hz').trans x5; have hz3 : w.heap.size < w3.heap.size := Nat.lt_of_lt_of_le hz hb3.size; have hz3' : w.heap.size + 1 < w3.heap.size := Nat.lt_of_lt_of_le hz' hb3.size; have HB3 := Lib.hid ((HB2.out.drew).trans (hb3.mono (Nat.le_of_lt hz))); clear hb3)
      | (go_at_call_of 88 b; refine (rneeds_any b true _ hsb).mono ?_; rintro e w4 ⟨rfl, hb4⟩; have g0 : w4.cell? ⟨w.heap.size, 0, none⟩ = some (.int .i64 16) := ((bcell hb4).1 _ _ hz3).trans f0; have xg0 : w4.cell? ⟨w.heap.size + 1, 0, none⟩ = some (.int .i64 16) := ((bcell hb4).1 _ _ hz3').trans xf0; have g1 : w4.cell? ⟨w.heap.size, 1, none⟩ = some (.string a) := ((bcell hb4).1 _ _ hz3).trans f1; have xg1 : w4.cell? ⟨w.heap.size + 1, 1, none⟩ = some (.string a) := ((bcell hb4).1 _ _ hz3').trans xf1; have g2 : w4.cell? ⟨w.heap.size, 2, none⟩ = some (.string b) := ((bcell hb4).1 _ _ hz3).trans f2; have xg2 : w4.cell? ⟨w.heap.size + 1, 2, none⟩ = some (.string b) := ((bcell hb4).1 _ _ hz3').trans xf2; have g3 : w4.cell? ⟨w.heap.size, 3, none⟩ = some (.string k) := ((bcell hb4).1 _ _ hz3).trans f3; have xg3 : w4.cell? ⟨w.heap.size + 1, 3, none⟩ = some (.string ⟨#[]⟩) := ((bcell hb4).1 _ _ hz3').trans xf3; have g4 : w4.cell? ⟨w.heap.size, 4, none⟩ = some (.string v) := ((bcell hb4).1 _ _ hz3).trans f4; have xg4 : w4.cell? ⟨w.heap.size + 1, 4, none⟩ = some (.string ⟨#[]⟩) := ((bcell hb4).1 _ _ hz3').trans xf4; have g5 : w4.cell? ⟨w.heap.size, 5, none⟩ = some (.int .i64 n) := ((bcell hb4).1 _ _ hz3).trans f5; have xg5 : w4.cell? ⟨w.heap.size + 1, 5, none⟩ = some (.int .i64 0) := ((bcell hb4).1 _ _ hz3').trans xf5; have hz4 : w.heap.size < w4.heap.size := Nat.lt_of_lt_of_le hz3 hb4.size; have hz4' : w.heap.size + 1 < w4.heap.size := Nat.lt_of_lt_of_le hz3' hb4.size; have HB4 := Lib.hid ((HB3.out).trans (hb4.mono (Nat.le_of_lt hz3))); clear hb4))
  go_wp2_with (go_at_call 89; refine (rfirst_any _ _ [needE a true, needE b true] _ _ (by first | exact (reads_at _ 3 [intV (needE a true), intV (needE b true)] (by first | rfl | simp)).drew | exact reads_at _ 3 [intV (needE a true), intV (needE b true)] (by first | rfl | simp)) (by simp)).mono ?_; rintro e w' ⟨rfl, rfl⟩)
  all_goals first
    | (have hbad : zeroOk ⟨16, a, b, k, v, n⟩ = false := by
         rw [zero16]
         first
           | (simp [show ¬ k.toList = [] by assumption]; done)
           | (simp [show ¬ v.toList = [] by assumption]; done)
           | (have hn : ¬ 0 = n := by assumption
              have hn2 : ¬ n = 0 := fun e => hn e.symm
              simp [hn2]; done)
       go_ret
       exact ⟨ret_i (chk_bad hbad).symm, (by first | exact (HB4.out).trans (below_box' _ (Nat.le_of_lt hz4)).drew | exact (HB4.out).trans (below_box' _ (Nat.le_of_lt hz4)))⟩)
    | (have hk : k.toList = [] := by assumption
       have hv : v.toList = [] := by assumption
       have hn : 0 = n := by assumption
       have hzo : zeroOk ⟨16, a, b, k, v, n⟩ = true := by rw [zero16]; simp [hk, hv, hn.symm]
       have HZ := chk_ok (c := ⟨16, a, b, k, v, n⟩) rfl hzo
       go_ret
       exact ⟨ret_i (by rw [HZ]; exact rfl), (by first | exact (HB4.out).trans (below_box' _ (Nat.le_of_lt hz4)).drew | exact (HB4.out).trans (below_box' _ (Nat.le_of_lt hz4)))⟩)

set_option maxRecDepth 100000 in
set_option maxHeartbeats 4000000 in
theorem rcheck17 (a b k v : ByteArray) (n : Int) (w : World) (hc : (CmdD.mk 17 a b k v n).Small) : Calls Tryd.prog 39 #[.agg (CmdD.mk 17 a b k v n).cells] w (ChkSaid ⟨17, a, b, k, v, n⟩ w) := by
  have hsa := hc.txt a (by simp)
  have hsb := hc.txt b (by simp)
  have hsk := hc.txt k (by simp)
  have hsv := hc.txt v (by simp)
  clear hc
  go_enter Tryd.func39, Tryd.ntmps39
  go_wp2
  go_region_held3 (fun W' => W'.cell? ⟨w.heap.size, 2, none⟩ = some (.string b) ∧ W'.cell? ⟨w.heap.size, 5, none⟩ = some (.int .i64 n))
    (first | (refine ⟨?_, ?_⟩ <;> go_simp; done))
    (first | fail)
  go_wp2
  have HX1 := Lib.hid (Blk.drew ((Blk.new w 23 (CmdD.mk 17 a b k v n).cells).alloc (.cells #[.int .i64 17, .string ⟨#[]⟩, .string b, .string ⟨#[]⟩, .string ⟨#[]⟩, .int .i64 n] 23)))
  have HX2 := Lib.hid (Blk.drew (Blk.new (w.alloc (.cells (CmdD.mk 17 a b k v n).cells 23)) 23 #[.int .i64 17, .string ⟨#[]⟩, .string b, .string ⟨#[]⟩, .string ⟨#[]⟩, .int .i64 n]))
  have HB2 := Lib.hid (Below.drew ((below_box w (.cells (CmdD.mk 17 a b k v n).cells 23)).trans (below_box' (w := w) (w1 := w.alloc (.cells (CmdD.mk 17 a b k v n).cells 23)) (.cells #[.int .i64 17, .string ⟨#[]⟩, .string b, .string ⟨#[]⟩, .string ⟨#[]⟩, .int .i64 n] 23) (by simp))))
  generalize hW : ((w.alloc (.cells (CmdD.mk 17 a b k v n).cells 23)).alloc (.cells #[.int .i64 17, .string ⟨#[]⟩, .string b, .string ⟨#[]⟩, .string ⟨#[]⟩, .int .i64 n] 23)).drew = W at *
  have hz : w.heap.size < W.heap.size := by rw [← hW]; simp; omega
  have hz' : w.heap.size + 1 < W.heap.size := by rw [← hW]; simp
  clear hW
  have e0 : W.cell? ⟨w.heap.size, 0, none⟩ = some (.int .i64 17) := by rw [HX1.out.cell]; rfl
  have x0 : W.cell? ⟨w.heap.size + 1, 0, none⟩ = some (.int .i64 17) := by have := HX2.out.cell 0; rw [World.size_alloc] at this; rw [this]; rfl
  have e1 : W.cell? ⟨w.heap.size, 1, none⟩ = some (.string a) := by rw [HX1.out.cell]; rfl
  have x1 : W.cell? ⟨w.heap.size + 1, 1, none⟩ = some (.string ⟨#[]⟩) := by have := HX2.out.cell 1; rw [World.size_alloc] at this; rw [this]; rfl
  have e2 : W.cell? ⟨w.heap.size, 2, none⟩ = some (.string b) := by rw [HX1.out.cell]; rfl
  have x2 : W.cell? ⟨w.heap.size + 1, 2, none⟩ = some (.string b) := by have := HX2.out.cell 2; rw [World.size_alloc] at this; rw [this]; rfl
  have e3 : W.cell? ⟨w.heap.size, 3, none⟩ = some (.string k) := by rw [HX1.out.cell]; rfl
  have x3 : W.cell? ⟨w.heap.size + 1, 3, none⟩ = some (.string ⟨#[]⟩) := by have := HX2.out.cell 3; rw [World.size_alloc] at this; rw [this]; rfl
  have e4 : W.cell? ⟨w.heap.size, 4, none⟩ = some (.string v) := by rw [HX1.out.cell]; rfl
  have x4 : W.cell? ⟨w.heap.size + 1, 4, none⟩ = some (.string ⟨#[]⟩) := by have := HX2.out.cell 4; rw [World.size_alloc] at this; rw [this]; rfl
  have e5 : W.cell? ⟨w.heap.size, 5, none⟩ = some (.int .i64 n) := by rw [HX1.out.cell]; rfl
  have x5 : W.cell? ⟨w.heap.size + 1, 5, none⟩ = some (.int .i64 n) := by have := HX2.out.cell 5; rw [World.size_alloc] at this; rw [this]; rfl
  go_region_held3 (fun W' => W'.cell? ⟨w.heap.size, 2, none⟩ = some (.string b) ∧ W'.cell? ⟨w.heap.size, 5, none⟩ = some (.int .i64 n))
    (first | exact ⟨e2, e5⟩ | exact ⟨f2, f5⟩ | exact ⟨(World.cell?_alloc_lt _ _ _ hz3).trans f2, (World.cell?_alloc_lt _ _ _ hz3).trans f5⟩)
    (first
      | (go_at_call 88; refine (rneeds_any b true _ hsb).mono ?_; rintro e w3 ⟨rfl, hb3⟩; have f0 : w3.cell? ⟨w.heap.size, 0, none⟩ = some (.int .i64 17) := ((bcell hb3).1 _ _ hz).trans e0; have xf0 : w3.cell? ⟨w.heap.size + 1, 0, none⟩ = some (.int .i64 17) := ((bcell hb3).1 _ _ hz').trans x0; have f1 : w3.cell? ⟨w.heap.size, 1, none⟩ = some (.string a) := ((bcell hb3).1 _ _ hz).trans e1; have xf1 : w3.cell? ⟨w.heap.size + 1, 1, none⟩ = some (.string ⟨#[]⟩) := ((bcell hb3).1 _ _ hz').trans x1; have f2 : w3.cell? ⟨w.heap.size, 2, none⟩ = some (.string b) := ((bcell hb3).1 _ _ hz).trans e2; have xf2 : w3.cell? ⟨w.heap.size + 1, 2, none⟩ = some (.string b) := ((bcell hb3).1 _ _ hz').trans x2; have f3 : w3.cell? ⟨w.heap.size, 3, none⟩ = some (.string k) := ((bcell hb3).1 _ _ hz).trans e3; have xf3 : w3.cell? ⟨w.heap.size + 1, 3, none⟩ = some (.string ⟨#[]⟩) := ((bcell hb3).1 _ _ hz').trans x3; have f4 : w3.cell? ⟨w.heap.size, 4, none⟩ = some (.string v) := ((bcell hb3).1 _ _ hz).trans e4; have xf4 : w3.cell? ⟨w.heap.size + 1, 4, none⟩ = some (.string ⟨#[]⟩) := ((bcell hb3).1 _ _ hz').trans x4; have f5 : w3.cell? ⟨w.heap.size, 5, none⟩ = some (.int .i64 n) := ((bcell hb3).1 _ _ hz).trans e5; have xf5 : w3.cell? ⟨w.heap.size + 1, 5, none⟩ = some (.int .i64 n) := ((bcell hb3).1 _ _ hz').trans x5; have hz3 : w.heap.size < w3.heap.size := Nat.lt_of_lt_of_le hz hb3.size; have hz3' : w.heap.size + 1 < w3.heap.size := Nat.lt_of_lt_of_le hz' hb3.size; have HB3 := Lib.hid ((HB2.out.drew).trans (hb3.mono (Nat.le_of_lt hz))); clear hb3)
      | (go_at_call 86; refine (when_any _ _ _).mono ?_; rintro e w' ⟨rfl, rfl⟩))
  go_wp2_with (go_at_call 89; refine (rfirst_any _ _ [needE b true, whenE (decide (n < 0)) 1] _ _ (by first | exact (reads_at _ 3 [intV (needE b true), intV (whenE (decide (n < 0)) 1)] (by first | rfl | simp)).drew | exact reads_at _ 3 [intV (needE b true), intV (whenE (decide (n < 0)) 1)] (by first | rfl | simp)) (by simp)).mono ?_; rintro e w' ⟨rfl, rfl⟩)
  all_goals first
    | (have hbad : zeroOk ⟨17, a, b, k, v, n⟩ = false := by
         rw [zero17]
         first
           | (simp [show ¬ a.toList = [] by assumption]; done)
           | (simp [show ¬ k.toList = [] by assumption]; done)
           | (simp [show ¬ v.toList = [] by assumption]; done)
       go_ret
       exact ⟨ret_i (chk_bad hbad).symm, (by first | exact (HB3.out).trans (below_box' _ (Nat.le_of_lt hz3)).drew | exact (HB3.out).trans (below_box' _ (Nat.le_of_lt hz3)))⟩)
    | (have ha : a.toList = [] := by assumption
       have hk : k.toList = [] := by assumption
       have hv : v.toList = [] := by assumption
       have hzo : zeroOk ⟨17, a, b, k, v, n⟩ = true := by rw [zero17]; simp [ha, hk, hv]
       have HZ := chk_ok (c := ⟨17, a, b, k, v, n⟩) rfl hzo
       go_ret
       exact ⟨ret_i (by rw [HZ]; exact rfl), (by first | exact (HB3.out).trans (below_box' _ (Nat.le_of_lt hz3)).drew | exact (HB3.out).trans (below_box' _ (Nat.le_of_lt hz3)))⟩)

set_option maxRecDepth 100000 in
set_option maxHeartbeats 4000000 in
theorem rcheck18 (a b k v : ByteArray) (n : Int) (w : World) (hc : (CmdD.mk 18 a b k v n).Small) : Calls Tryd.prog 39 #[.agg (CmdD.mk 18 a b k v n).cells] w (ChkSaid ⟨18, a, b, k, v, n⟩ w) := by
  have hsa := hc.txt a (by simp)
  have hsb := hc.txt b (by simp)
  have hsk := hc.txt k (by simp)
  have hsv := hc.txt v (by simp)
  clear hc
  go_enter Tryd.func39, Tryd.ntmps39
  go_wp2
  go_region_held3 (fun W' => W'.cell? ⟨w.heap.size, 1, none⟩ = some (.string a) ∧ W'.cell? ⟨w.heap.size, 2, none⟩ = some (.string b))
    (first | (refine ⟨?_, ?_⟩ <;> go_simp; done))
    (first | fail)
  go_wp2
  have HX1 := Lib.hid (Blk.drew ((Blk.new w 23 (CmdD.mk 18 a b k v n).cells).alloc (.cells #[.int .i64 18, .string a, .string b, .string ⟨#[]⟩, .string ⟨#[]⟩, .int .i64 0] 23)))
  have HX2 := Lib.hid (Blk.drew (Blk.new (w.alloc (.cells (CmdD.mk 18 a b k v n).cells 23)) 23 #[.int .i64 18, .string a, .string b, .string ⟨#[]⟩, .string ⟨#[]⟩, .int .i64 0]))
  have HB2 := Lib.hid (Below.drew ((below_box w (.cells (CmdD.mk 18 a b k v n).cells 23)).trans (below_box' (w := w) (w1 := w.alloc (.cells (CmdD.mk 18 a b k v n).cells 23)) (.cells #[.int .i64 18, .string a, .string b, .string ⟨#[]⟩, .string ⟨#[]⟩, .int .i64 0] 23) (by simp))))
  generalize hW : ((w.alloc (.cells (CmdD.mk 18 a b k v n).cells 23)).alloc (.cells #[.int .i64 18, .string a, .string b, .string ⟨#[]⟩, .string ⟨#[]⟩, .int .i64 0] 23)).drew = W at *
  have hz : w.heap.size < W.heap.size := by rw [← hW]; simp; omega
  have hz' : w.heap.size + 1 < W.heap.size := by rw [← hW]; simp
  clear hW
  have e0 : W.cell? ⟨w.heap.size, 0, none⟩ = some (.int .i64 18) := by rw [HX1.out.cell]; rfl
  have x0 : W.cell? ⟨w.heap.size + 1, 0, none⟩ = some (.int .i64 18) := by have := HX2.out.cell 0; rw [World.size_alloc] at this; rw [this]; rfl
  have e1 : W.cell? ⟨w.heap.size, 1, none⟩ = some (.string a) := by rw [HX1.out.cell]; rfl
  have x1 : W.cell? ⟨w.heap.size + 1, 1, none⟩ = some (.string a) := by have := HX2.out.cell 1; rw [World.size_alloc] at this; rw [this]; rfl
  have e2 : W.cell? ⟨w.heap.size, 2, none⟩ = some (.string b) := by rw [HX1.out.cell]; rfl
  have x2 : W.cell? ⟨w.heap.size + 1, 2, none⟩ = some (.string b) := by have := HX2.out.cell 2; rw [World.size_alloc] at this; rw [this]; rfl
  have e3 : W.cell? ⟨w.heap.size, 3, none⟩ = some (.string k) := by rw [HX1.out.cell]; rfl
  have x3 : W.cell? ⟨w.heap.size + 1, 3, none⟩ = some (.string ⟨#[]⟩) := by have := HX2.out.cell 3; rw [World.size_alloc] at this; rw [this]; rfl
  have e4 : W.cell? ⟨w.heap.size, 4, none⟩ = some (.string v) := by rw [HX1.out.cell]; rfl
  have x4 : W.cell? ⟨w.heap.size + 1, 4, none⟩ = some (.string ⟨#[]⟩) := by have := HX2.out.cell 4; rw [World.size_alloc] at this; rw [this]; rfl
  have e5 : W.cell? ⟨w.heap.size, 5, none⟩ = some (.int .i64 n) := by rw [HX1.out.cell]; rfl
  have x5 : W.cell? ⟨w.heap.size + 1, 5, none⟩ = some (.int .i64 0) := by have := HX2.out.cell 5; rw [World.size_alloc] at this; rw [this]; rfl
  go_region_held3 (fun W' => W'.cell? ⟨w.heap.size, 1, none⟩ = some (.string a) ∧ W'.cell? ⟨w.heap.size, 2, none⟩ = some (.string b))
    (first | exact ⟨e1, e2⟩ | exact ⟨f1, f2⟩ | exact ⟨g1, g2⟩ | exact ⟨(World.cell?_alloc_lt _ _ _ hz4).trans g1, (World.cell?_alloc_lt _ _ _ hz4).trans g2⟩)
    (first
      | (go_at_call_of 88 a; refine (rneeds_any a true _ hsa).mono ?_; rintro e w3 ⟨rfl, hb3⟩; have f0 : w3.cell? ⟨w.heap.size, 0, none⟩ = some (.int .i64 18) := ((bcell hb3).1 _ _ hz).trans e0; have xf0 : w3.cell? ⟨w.heap.size + 1, 0, none⟩ = some (.int .i64 18) := ((bcell hb3).1 _ _ hz').trans x0; have f1 : w3.cell? ⟨w.heap.size, 1, none⟩ = some (.string a) := ((bcell hb3).1 _ _ hz).trans e1; have xf1 : w3.cell? ⟨w.heap.size + 1, 1, none⟩ = some (.string a) := ((bcell hb3).1 _ _ hz').trans x1; have f2 : w3.cell? ⟨w.heap.size, 2, none⟩ = some (.string b) := ((bcell hb3).1 _ _ hz).trans e2; have xf2 : w3.cell? ⟨w.heap.size + 1, 2, none⟩ = some (.string b) := ((bcell hb3).1 _ _ hz').trans x2; have f3 : w3.cell? ⟨w.heap.size, 3, none⟩ = some (.string k) := ((bcell hb3).1 _ _ hz).trans e3; have xf3 : w3.cell? ⟨w.heap.size + 1, 3, none⟩ = some (.string ⟨#[]⟩) := ((bcell hb3).1 _ _ hz').trans x3; have f4 : w3.cell? ⟨w.heap.size, 4, none⟩ = some (.string v) := ((bcell hb3).1 _ _ hz).trans e4; have xf4 : w3.cell? ⟨w.heap.size + 1, 4, none⟩ = some (.string ⟨#[]⟩) := ((bcell hb3).1 _ _ hz').trans x4; have f5 : w3.cell? ⟨w.heap.size, 5, none⟩ = some (.int .i64 n) := ((bcell hb3).1 _ _ hz).trans e5; have xf5 : w3.cell? ⟨w.heap.size + 1, 5, none⟩ = some (.int .i64 0) := ((bcell hb3).1 _ _ hz').trans x5; have hz3 : w.heap.size < w3.heap.size := Nat.lt_of_lt_of_le hz hb3.size; have hz3' : w.heap.size + 1 < w3.heap.size := Nat.lt_of_lt_of_le hz' hb3.size; have HB3 := Lib.hid ((HB2.out.drew).trans (hb3.mono (Nat.le_of_lt hz))); clear hb3)
      | (go_at_call_of 88 b; refine (rneeds_any b true _ hsb).mono ?_; rintro e w4 ⟨rfl, hb4⟩; have g0 : w4.cell? ⟨w.heap.size, 0, none⟩ = some (.int .i64 18) := ((bcell hb4).1 _ _ hz3).trans f0; have xg0 : w4.cell? ⟨w.heap.size + 1, 0, none⟩ = some (.int .i64 18) := ((bcell hb4).1 _ _ hz3').trans xf0; have g1 : w4.cell? ⟨w.heap.size, 1, none⟩ = some (.string a) := ((bcell hb4).1 _ _ hz3).trans f1; have xg1 : w4.cell? ⟨w.heap.size + 1, 1, none⟩ = some (.string a) := ((bcell hb4).1 _ _ hz3').trans xf1; have g2 : w4.cell? ⟨w.heap.size, 2, none⟩ = some (.string b) := ((bcell hb4).1 _ _ hz3).trans f2; have xg2 : w4.cell? ⟨w.heap.size + 1, 2, none⟩ = some (.string b) := ((bcell hb4).1 _ _ hz3').trans xf2; have g3 : w4.cell? ⟨w.heap.size, 3, none⟩ = some (.string k) := ((bcell hb4).1 _ _ hz3).trans f3; have xg3 : w4.cell? ⟨w.heap.size + 1, 3, none⟩ = some (.string ⟨#[]⟩) := ((bcell hb4).1 _ _ hz3').trans xf3; have g4 : w4.cell? ⟨w.heap.size, 4, none⟩ = some (.string v) := ((bcell hb4).1 _ _ hz3).trans f4; have xg4 : w4.cell? ⟨w.heap.size + 1, 4, none⟩ = some (.string ⟨#[]⟩) := ((bcell hb4).1 _ _ hz3').trans xf4; have g5 : w4.cell? ⟨w.heap.size, 5, none⟩ = some (.int .i64 n) := ((bcell hb4).1 _ _ hz3).trans f5; have xg5 : w4.cell? ⟨w.heap.size + 1, 5, none⟩ = some (.int .i64 0) := ((bcell hb4).1 _ _ hz3').trans xf5; have hz4 : w.heap.size < w4.heap.size := Nat.lt_of_lt_of_le hz3 hb4.size; have hz4' : w.heap.size + 1 < w4.heap.size := Nat.lt_of_lt_of_le hz3' hb4.size; have HB4 := Lib.hid ((HB3.out).trans (hb4.mono (Nat.le_of_lt hz3))); clear hb4))
  go_wp2_with (go_at_call 89; refine (rfirst_any _ _ [needE a true, needE b true] _ _ (by first | exact (reads_at _ 3 [intV (needE a true), intV (needE b true)] (by first | rfl | simp)).drew | exact reads_at _ 3 [intV (needE a true), intV (needE b true)] (by first | rfl | simp)) (by simp)).mono ?_; rintro e w' ⟨rfl, rfl⟩)
  all_goals first
    | (have hbad : zeroOk ⟨18, a, b, k, v, n⟩ = false := by
         rw [zero18]
         first
           | (simp [show ¬ k.toList = [] by assumption]; done)
           | (simp [show ¬ v.toList = [] by assumption]; done)
           | (have hn : ¬ 0 = n := by assumption
              have hn2 : ¬ n = 0 := fun e => hn e.symm
              simp [hn2]; done)
       go_ret
       exact ⟨ret_i (chk_bad hbad).symm, (by first | exact (HB4.out).trans (below_box' _ (Nat.le_of_lt hz4)).drew | exact (HB4.out).trans (below_box' _ (Nat.le_of_lt hz4)))⟩)
    | (have hk : k.toList = [] := by assumption
       have hv : v.toList = [] := by assumption
       have hn : 0 = n := by assumption
       have hzo : zeroOk ⟨18, a, b, k, v, n⟩ = true := by rw [zero18]; simp [hk, hv, hn.symm]
       have HZ := chk_ok (c := ⟨18, a, b, k, v, n⟩) rfl hzo
       go_ret
       exact ⟨ret_i (by rw [HZ]; exact rfl), (by first | exact (HB4.out).trans (below_box' _ (Nat.le_of_lt hz4)).drew | exact (HB4.out).trans (below_box' _ (Nat.le_of_lt hz4)))⟩)

set_option maxRecDepth 100000 in
set_option maxHeartbeats 4000000 in
theorem rcheck19 (a b k v : ByteArray) (n : Int) (w : World) (hc : (CmdD.mk 19 a b k v n).Small) : Calls Tryd.prog 39 #[.agg (CmdD.mk 19 a b k v n).cells] w (ChkSaid ⟨19, a, b, k, v, n⟩ w) := by
  have hsa := hc.txt a (by simp)
  have hsb := hc.txt b (by simp)
  have hsk := hc.txt k (by simp)
  have hsv := hc.txt v (by simp)
  clear hc
  go_enter Tryd.func39, Tryd.ntmps39
  go_wp2_with (first
    | (go_at_call 89; refine (rfirst_any none 0 [] 0 _ Reads.none_ (by simp)).mono ?_; rintro e w' ⟨rfl, rfl⟩))
  all_goals first
    | (have hbad : zeroOk ⟨19, a, b, k, v, n⟩ = false := by
         rw [zero19]
         first
           | (simp [show ¬ a.toList = [] by assumption]; done)
           | (simp [show ¬ b.toList = [] by assumption]; done)
           | (simp [show ¬ k.toList = [] by assumption]; done)
           | (simp [show ¬ v.toList = [] by assumption]; done)
           | (have hn : ¬ 0 = n := by assumption
              have hn2 : ¬ n = 0 := fun e => hn e.symm
              simp [hn2]; done)
       go_ret
       exact ⟨ret_i (chk_bad hbad).symm, (((Below.refl _ _).alloc (Nat.le_refl _) _).alloc (by simp) _)⟩)
    | (have ha : a.toList = [] := by assumption
       have hb : b.toList = [] := by assumption
       have hk : k.toList = [] := by assumption
       have hv : v.toList = [] := by assumption
       have hn : 0 = n := by assumption
       have hzo : zeroOk ⟨19, a, b, k, v, n⟩ = true := by rw [zero19]; simp [ha, hb, hk, hv, hn.symm]
       have HZ := chk_ok (c := ⟨19, a, b, k, v, n⟩) rfl hzo
       go_ret
       exact ⟨ret_i (by rw [HZ]; exact rfl), (((Below.refl _ _).alloc (Nat.le_refl _) _).alloc (by simp) _)⟩)

set_option maxRecDepth 100000 in
set_option maxHeartbeats 4000000 in
theorem rcheck20 (a b k v : ByteArray) (n : Int) (w : World) (hc : (CmdD.mk 20 a b k v n).Small) : Calls Tryd.prog 39 #[.agg (CmdD.mk 20 a b k v n).cells] w (ChkSaid ⟨20, a, b, k, v, n⟩ w) := by
  have hsa := hc.txt a (by simp)
  have hsb := hc.txt b (by simp)
  have hsk := hc.txt k (by simp)
  have hsv := hc.txt v (by simp)
  clear hc
  go_enter Tryd.func39, Tryd.ntmps39
  go_wp2_with (first
    | (go_at_call 89; refine (rfirst_any none 0 [] 0 _ Reads.none_ (by simp)).mono ?_; rintro e w' ⟨rfl, rfl⟩))
  all_goals first
    | (have hbad : zeroOk ⟨20, a, b, k, v, n⟩ = false := by
         rw [zero20]
         first
           | (simp [show ¬ a.toList = [] by assumption]; done)
           | (simp [show ¬ b.toList = [] by assumption]; done)
           | (simp [show ¬ k.toList = [] by assumption]; done)
           | (simp [show ¬ v.toList = [] by assumption]; done)
           | (have hn : ¬ 0 = n := by assumption
              have hn2 : ¬ n = 0 := fun e => hn e.symm
              simp [hn2]; done)
       go_ret
       exact ⟨ret_i (chk_bad hbad).symm, (((Below.refl _ _).alloc (Nat.le_refl _) _).alloc (by simp) _)⟩)
    | (have ha : a.toList = [] := by assumption
       have hb : b.toList = [] := by assumption
       have hk : k.toList = [] := by assumption
       have hv : v.toList = [] := by assumption
       have hn : 0 = n := by assumption
       have hzo : zeroOk ⟨20, a, b, k, v, n⟩ = true := by rw [zero20]; simp [ha, hb, hk, hv, hn.symm]
       have HZ := chk_ok (c := ⟨20, a, b, k, v, n⟩) rfl hzo
       go_ret
       exact ⟨ret_i (by rw [HZ]; exact rfl), (((Below.refl _ _).alloc (Nat.le_refl _) _).alloc (by simp) _)⟩)
end Go.Proofs.YtpgchdjfeklobaaDoor
