/-
  Walks: Check of the reference, kinds 1, 2, 3, 5, 6, 7.
-/
import Derived.Deep.RegionHeld3
import Derived.Deep.RegionWith
import Derived.Test.YtpgchdjfeklobaaDoorR0
namespace Go.Proofs.YtpgchdjfeklobaaDoor
open Go.RowKit

set_option maxRecDepth 100000 in
set_option maxHeartbeats 4000000 in
theorem rcheck1 (a b k v : ByteArray) (n : Int) (w : World) (hc : (CmdD.mk 1 a b k v n).Small) : Calls Tryd.prog 39 #[.agg (CmdD.mk 1 a b k v n).cells] w (ChkSaid ⟨1, a, b, k, v, n⟩ w) := by
  have hsa := hc.txt a (by simp)
  have hsb := hc.txt b (by simp)
  have hsk := hc.txt k (by simp)
  have hsv := hc.txt v (by simp)
  clear hc
  go_enter Tryd.func39, Tryd.ntmps39
  go_wp2
  go_region_held3 (fun W' => W'.cell? ⟨w.heap.size, 3, none⟩ = some (.string k) ∧ W'.cell? ⟨w.heap.size, 4, none⟩ = some (.string v))
    (first | (refine ⟨?_, ?_⟩ <;> go_simp; done))
    (first | fail)
  go_wp2
  have HX1 := Lib.hid (Blk.drew ((Blk.new w 23 (CmdD.mk 1 a b k v n).cells).alloc (.cells #[.int .i64 1, .string ⟨#[]⟩, .string ⟨#[]⟩, .string k, .string v, .int .i64 0] 23)))
  have HX2 := Lib.hid (Blk.drew (Blk.new (w.alloc (.cells (CmdD.mk 1 a b k v n).cells 23)) 23 #[.int .i64 1, .string ⟨#[]⟩, .string ⟨#[]⟩, .string k, .string v, .int .i64 0]))
  have HB2 := Lib.hid (Below.drew ((below_box w (.cells (CmdD.mk 1 a b k v n).cells 23)).trans (below_box' (w := w) (w1 := w.alloc (.cells (CmdD.mk 1 a b k v n).cells 23)) (.cells #[.int .i64 1, .string ⟨#[]⟩, .string ⟨#[]⟩, .string k, .string v, .int .i64 0] 23) (by simp))))
  generalize hW : ((w.alloc (.cells (CmdD.mk 1 a b k v n).cells 23)).alloc (.cells #[.int .i64 1, .string ⟨#[]⟩, .string ⟨#[]⟩, .string k, .string v, .int .i64 0] 23)).drew = W at *
  have hz : w.heap.size < W.heap.size := by rw [← hW]; simp; omega
  have hz' : w.heap.size + 1 < W.heap.size := by rw [← hW]; simp
  clear hW
  have e0 : W.cell? ⟨w.heap.size, 0, none⟩ = some (.int .i64 1) := by rw [HX1.out.cell]; rfl
  have x0 : W.cell? ⟨w.heap.size + 1, 0, none⟩ = some (.int .i64 1) := by have := HX2.out.cell 0; rw [World.size_alloc] at this; rw [this]; rfl
  have e1 : W.cell? ⟨w.heap.size, 1, none⟩ = some (.string a) := by rw [HX1.out.cell]; rfl
  have x1 : W.cell? ⟨w.heap.size + 1, 1, none⟩ = some (.string ⟨#[]⟩) := by have := HX2.out.cell 1; rw [World.size_alloc] at this; rw [this]; rfl
  have e2 : W.cell? ⟨w.heap.size, 2, none⟩ = some (.string b) := by rw [HX1.out.cell]; rfl
  have x2 : W.cell? ⟨w.heap.size + 1, 2, none⟩ = some (.string ⟨#[]⟩) := by have := HX2.out.cell 2; rw [World.size_alloc] at this; rw [this]; rfl
  have e3 : W.cell? ⟨w.heap.size, 3, none⟩ = some (.string k) := by rw [HX1.out.cell]; rfl
  have x3 : W.cell? ⟨w.heap.size + 1, 3, none⟩ = some (.string k) := by have := HX2.out.cell 3; rw [World.size_alloc] at this; rw [this]; rfl
  have e4 : W.cell? ⟨w.heap.size, 4, none⟩ = some (.string v) := by rw [HX1.out.cell]; rfl
  have x4 : W.cell? ⟨w.heap.size + 1, 4, none⟩ = some (.string v) := by have := HX2.out.cell 4; rw [World.size_alloc] at this; rw [this]; rfl
  have e5 : W.cell? ⟨w.heap.size, 5, none⟩ = some (.int .i64 n) := by rw [HX1.out.cell]; rfl
  have x5 : W.cell? ⟨w.heap.size + 1, 5, none⟩ = some (.int .i64 0) := by have := HX2.out.cell 5; rw [World.size_alloc] at this; rw [this]; rfl
  go_region_held3 (fun W' => W'.cell? ⟨w.heap.size, 3, none⟩ = some (.string k) ∧ W'.cell? ⟨w.heap.size, 4, none⟩ = some (.string v))
    (first | exact ⟨e3, e4⟩ | exact ⟨(World.cell?_alloc_lt _ _ _ hz).trans e3, (World.cell?_alloc_lt _ _ _ hz).trans e4⟩)
    (first
      | (go_at_call 84; refine (rkey_any k _ hsk).mono ?_; rintro e w' ⟨rfl, rfl⟩)
      | (go_at_call 85; refine (rval_any v _ hsv).mono ?_; rintro e w' ⟨rfl, rfl⟩))
  go_wp2_with (go_at_call 89; refine (rfirst_any _ _ [keyE k, valE v] _ _ (by first | exact (reads_at _ 3 [intV (keyE k), intV (valE v)] (by first | rfl | simp)).drew | exact reads_at _ 3 [intV (keyE k), intV (valE v)] (by first | rfl | simp)) (by simp)).mono ?_; rintro e w' ⟨rfl, rfl⟩)
  all_goals first
    | (have hbad : zeroOk ⟨1, a, b, k, v, n⟩ = false := by
         rw [zero1]
         first
           | (simp [show ¬ a.toList = [] by assumption]; done)
           | (simp [show ¬ b.toList = [] by assumption]; done)
           | (have hn : ¬ 0 = n := by assumption
              have hn2 : ¬ n = 0 := fun e => hn e.symm
              simp [hn2]; done)
       go_ret
       exact ⟨ret_i (chk_bad hbad).symm, (by first | exact (HB2.out.drew).trans (below_box' _ (Nat.le_of_lt hz)).drew | exact (HB2.out.drew).trans (below_box' _ (Nat.le_of_lt hz)))⟩)
    | (have ha : a.toList = [] := by assumption
       have hb : b.toList = [] := by assumption
       have hn : 0 = n := by assumption
       have hzo : zeroOk ⟨1, a, b, k, v, n⟩ = true := by rw [zero1]; simp [ha, hb, hn.symm]
       have HZ := chk_ok (c := ⟨1, a, b, k, v, n⟩) rfl hzo
       go_ret
       exact ⟨ret_i (by rw [HZ]; exact rfl), (by first | exact (HB2.out.drew).trans (below_box' _ (Nat.le_of_lt hz)).drew | exact (HB2.out.drew).trans (below_box' _ (Nat.le_of_lt hz)))⟩)

set_option maxRecDepth 100000 in
set_option maxHeartbeats 4000000 in
theorem rcheck2 (a b k v : ByteArray) (n : Int) (w : World) (hc : (CmdD.mk 2 a b k v n).Small) : Calls Tryd.prog 39 #[.agg (CmdD.mk 2 a b k v n).cells] w (ChkSaid ⟨2, a, b, k, v, n⟩ w) := by
  have hsa := hc.txt a (by simp)
  have hsb := hc.txt b (by simp)
  have hsk := hc.txt k (by simp)
  have hsv := hc.txt v (by simp)
  clear hc
  go_enter Tryd.func39, Tryd.ntmps39
  go_wp2_with (first
    | (go_at_call 84; refine (rkey_any k _ hsk).mono ?_; rintro e w' ⟨rfl, rfl⟩)
    | (go_at_call 89; refine (rfirst_any _ _ [keyE k] _ _ (by first | exact (reads_at _ 3 [intV (keyE k)] (by first | rfl | simp)).drew | exact reads_at _ 3 [intV (keyE k)] (by first | rfl | simp)) (by simp)).mono ?_; rintro e w' ⟨rfl, rfl⟩))
  all_goals first
    | (have hbad : zeroOk ⟨2, a, b, k, v, n⟩ = false := by
         rw [zero2]
         first
           | (simp [show ¬ a.toList = [] by assumption]; done)
           | (simp [show ¬ b.toList = [] by assumption]; done)
           | (simp [show ¬ v.toList = [] by assumption]; done)
           | (have hn : ¬ 0 = n := by assumption
              have hn2 : ¬ n = 0 := fun e => hn e.symm
              simp [hn2]; done)
       go_ret
       exact ⟨ret_i (chk_bad hbad).symm, (Below.trans (((Below.refl _ _).alloc (Nat.le_refl _) _).alloc (by simp) _) ((Below.refl _ _).alloc (by first | (simp; omega) | omega) _))⟩)
    | (have ha : a.toList = [] := by assumption
       have hb : b.toList = [] := by assumption
       have hv : v.toList = [] := by assumption
       have hn : 0 = n := by assumption
       have hzo : zeroOk ⟨2, a, b, k, v, n⟩ = true := by rw [zero2]; simp [ha, hb, hv, hn.symm]
       have HZ := chk_ok (c := ⟨2, a, b, k, v, n⟩) rfl hzo
       go_ret
       exact ⟨ret_i (by rw [HZ]; exact rfl), (Below.trans (((Below.refl _ _).alloc (Nat.le_refl _) _).alloc (by simp) _) ((Below.refl _ _).alloc (by first | (simp; omega) | omega) _))⟩)

set_option maxRecDepth 100000 in
set_option maxHeartbeats 4000000 in
theorem rcheck3 (a b k v : ByteArray) (n : Int) (w : World) (hc : (CmdD.mk 3 a b k v n).Small) : Calls Tryd.prog 39 #[.agg (CmdD.mk 3 a b k v n).cells] w (ChkSaid ⟨3, a, b, k, v, n⟩ w) := by
  have hsa := hc.txt a (by simp)
  have hsb := hc.txt b (by simp)
  have hsk := hc.txt k (by simp)
  have hsv := hc.txt v (by simp)
  clear hc
  go_enter Tryd.func39, Tryd.ntmps39
  go_wp2_with (first
    | (go_at_call 84; refine (rkey_any k _ hsk).mono ?_; rintro e w' ⟨rfl, rfl⟩)
    | (go_at_call 89; refine (rfirst_any _ _ [keyE k] _ _ (by first | exact (reads_at _ 3 [intV (keyE k)] (by first | rfl | simp)).drew | exact reads_at _ 3 [intV (keyE k)] (by first | rfl | simp)) (by simp)).mono ?_; rintro e w' ⟨rfl, rfl⟩))
  all_goals first
    | (have hbad : zeroOk ⟨3, a, b, k, v, n⟩ = false := by
         rw [zero3]
         first
           | (simp [show ¬ a.toList = [] by assumption]; done)
           | (simp [show ¬ b.toList = [] by assumption]; done)
           | (simp [show ¬ v.toList = [] by assumption]; done)
           | (have hn : ¬ 0 = n := by assumption
              have hn2 : ¬ n = 0 := fun e => hn e.symm
              simp [hn2]; done)
       go_ret
       exact ⟨ret_i (chk_bad hbad).symm, (Below.trans (((Below.refl _ _).alloc (Nat.le_refl _) _).alloc (by simp) _) ((Below.refl _ _).alloc (by first | (simp; omega) | omega) _))⟩)
    | (have ha : a.toList = [] := by assumption
       have hb : b.toList = [] := by assumption
       have hv : v.toList = [] := by assumption
       have hn : 0 = n := by assumption
       have hzo : zeroOk ⟨3, a, b, k, v, n⟩ = true := by rw [zero3]; simp [ha, hb, hv, hn.symm]
       have HZ := chk_ok (c := ⟨3, a, b, k, v, n⟩) rfl hzo
       go_ret
       exact ⟨ret_i (by rw [HZ]; exact rfl), (Below.trans (((Below.refl _ _).alloc (Nat.le_refl _) _).alloc (by simp) _) ((Below.refl _ _).alloc (by first | (simp; omega) | omega) _))⟩)

set_option maxRecDepth 100000 in
set_option maxHeartbeats 4000000 in
theorem rcheck5 (a b k v : ByteArray) (n : Int) (w : World) (hc : (CmdD.mk 5 a b k v n).Small) : Calls Tryd.prog 39 #[.agg (CmdD.mk 5 a b k v n).cells] w (ChkSaid ⟨5, a, b, k, v, n⟩ w) := by
  have hsa := hc.txt a (by simp)
  have hsb := hc.txt b (by simp)
  have hsk := hc.txt k (by simp)
  have hsv := hc.txt v (by simp)
  clear hc
  go_enter Tryd.func39, Tryd.ntmps39
  go_wp2_with (first
    | (go_at_call 87; refine (rtextok_any v _ (by unfold maxLen; omega)).mono ?_; rintro e w' ⟨rfl, rfl⟩)
    | (go_at_call 86; refine (when_any _ _ _).mono ?_; rintro e w' ⟨rfl, rfl⟩)
    | (go_at_call 89; refine (rfirst_any _ _ [textE v] _ _ (by first | exact (reads_at _ 3 [intV (textE v)] (by first | rfl | simp)).drew | exact reads_at _ 3 [intV (textE v)] (by first | rfl | simp)) (by simp)).mono ?_; rintro e w' ⟨rfl, rfl⟩))
  all_goals first
    | (have hbad : zeroOk ⟨5, a, b, k, v, n⟩ = false := by
         rw [zero5]
         first
           | (simp [show ¬ a.toList = [] by assumption]; done)
           | (simp [show ¬ b.toList = [] by assumption]; done)
           | (simp [show ¬ k.toList = [] by assumption]; done)
           | (have hn : ¬ 0 = n := by assumption
              have hn2 : ¬ n = 0 := fun e => hn e.symm
              simp [hn2]; done)
       go_ret
       exact ⟨ret_i (chk_bad hbad).symm, (Below.trans (((Below.refl _ _).alloc (Nat.le_refl _) _).alloc (by simp) _) ((Below.refl _ _).alloc (by first | (simp; omega) | omega) _))⟩)
    | (have ha : a.toList = [] := by assumption
       have hb : b.toList = [] := by assumption
       have hk : k.toList = [] := by assumption
       have hn : 0 = n := by assumption
       have hzo : zeroOk ⟨5, a, b, k, v, n⟩ = true := by rw [zero5]; simp [ha, hb, hk, hn.symm]
       have HZ := chk_ok (c := ⟨5, a, b, k, v, n⟩) rfl hzo
       go_ret
       exact ⟨ret_i (by rw [HZ]; exact rfl), (Below.trans (((Below.refl _ _).alloc (Nat.le_refl _) _).alloc (by simp) _) ((Below.refl _ _).alloc (by first | (simp; omega) | omega) _))⟩)

set_option maxRecDepth 100000 in
set_option maxHeartbeats 4000000 in
theorem rcheck6 (a b k v : ByteArray) (n : Int) (w : World) (hc : (CmdD.mk 6 a b k v n).Small) : Calls Tryd.prog 39 #[.agg (CmdD.mk 6 a b k v n).cells] w (ChkSaid ⟨6, a, b, k, v, n⟩ w) := by
  have hsa := hc.txt a (by simp)
  have hsb := hc.txt b (by simp)
  have hsk := hc.txt k (by simp)
  have hsv := hc.txt v (by simp)
  clear hc
  go_enter Tryd.func39, Tryd.ntmps39
  go_wp2
  go_region_held3 (fun W' => W'.cell? ⟨w.heap.size, 1, none⟩ = some (.string a) ∧ W'.cell? ⟨w.heap.size, 2, none⟩ = some (.string b))
    (first | (refine ⟨?_, ?_⟩ <;> go_simp; done))
    (first | fail)
  go_wp2
  have HX1 := Lib.hid (Blk.drew ((Blk.new w 23 (CmdD.mk 6 a b k v n).cells).alloc (.cells #[.int .i64 6, .string a, .string b, .string ⟨#[]⟩, .string ⟨#[]⟩, .int .i64 0] 23)))
  have HX2 := Lib.hid (Blk.drew (Blk.new (w.alloc (.cells (CmdD.mk 6 a b k v n).cells 23)) 23 #[.int .i64 6, .string a, .string b, .string ⟨#[]⟩, .string ⟨#[]⟩, .int .i64 0]))
  have HB2 := Lib.hid (Below.drew ((below_box w (.cells (CmdD.mk 6 a b k v n).cells 23)).trans (below_box' (w := w) (w1 := w.alloc (.cells (CmdD.mk 6 a b k v n).cells 23)) (.cells #[.int .i64 6, .string a, .string b, .string ⟨#[]⟩, .string ⟨#[]⟩, .int .i64 0] 23) (by simp))))
  generalize hW : ((w.alloc (.cells (CmdD.mk 6 a b k v n).cells 23)).alloc (.cells #[.int .i64 6, .string a, .string b, .string ⟨#[]⟩, .string ⟨#[]⟩, .int .i64 0] 23)).drew = W at *
  have hz : w.heap.size < W.heap.size := by rw [← hW]; simp; omega
  have hz' : w.heap.size + 1 < W.heap.size := by rw [← hW]; simp
  clear hW
  have e0 : W.cell? ⟨w.heap.size, 0, none⟩ = some (.int .i64 6) := by rw [HX1.out.cell]; rfl
  have x0 : W.cell? ⟨w.heap.size + 1, 0, none⟩ = some (.int .i64 6) := by have := HX2.out.cell 0; rw [World.size_alloc] at this; rw [this]; rfl
  have e1 : W.cell? ⟨w.heap.size, 1, none⟩ = some (.string a) := by rw [HX1.out.cell]; rfl
  have x1 : W.cell? ⟨w.heap.size + 1, 1, none⟩ = some (.string a) := by have := HX2.out.cell 1; rw [World.size_alloc] at this; rw [this]; rfl
  have e2 : W.cell? ⟨w.heap.size, 2, none⟩ = some (.string b) := by rw [HX1.out.cell]; rfl
  have x2 : W.cell? ⟨w.heap.size + 1, 2, none⟩ = some (.string b) := by have := HX2.out.cell 2; rw [World.size_alloc] at this; rw [this]; rfl
  have e3 : W.cell? ⟨w.heap.size, 3, none⟩ = some (.string k) := by rw [HX1.out.cell]; rfl
  have x3 : W.cell? ⟨w.heap.size + 1, 3, none⟩ = some (.string ⟨#[]⟩) := by have := HX2.out.cell 3; rw [World.size_alloc] at this; rw [this]; rfl
  have e4 : W.cell? ⟨w.heap.size, 4, none⟩ = some (.string v) := by rw [HX1.out.cell]; rfl
  have x4 : W.cell? ⟨w.heap.size + 1, 4, none⟩ = some (.string ⟨#[]⟩) := by have := HX2.out.cell 4; rw [World.size_alloc] at this; rw [this]; rfl
  have e5 : W.cell? ⟨w.heap.size, 5, none⟩ = some (.int .i64 n) := by rw [HX1.out.cell]; rfl
  have x5 : W.cell? ⟨w.heap.size + 1, 5, none⟩ = some (.int .i64 0) := by have := HX2.out.cell 5; rw [World.size_alloc] at this; rw [this]; rfl
  go_region_held3 (fun W' => W'.cell? ⟨w.heap.size, 1, none⟩ = some (.string a) ∧ W'.cell? ⟨w.heap.size, 2, none⟩ = some (.string b))
    (first | exact ⟨e1, e2⟩ | exact ⟨f1, f2⟩ | exact ⟨(World.cell?_alloc_lt _ _ _ hz3).trans f1, (World.cell?_alloc_lt _ _ _ hz3).trans f2⟩)
    (first
      | (go_at_call 72; refine (name14 a _ (by unfold maxLen; omega)).mono ?_; rintro e w' ⟨rfl, rfl⟩)
      | (go_at_call 86; refine (when_any _ _ _).mono ?_; rintro e w' ⟨rfl, rfl⟩)
      | (go_at_call 88; refine (rneeds_any b true _ hsb).mono ?_; rintro e w3 ⟨rfl, hb3⟩; have f0 : w3.cell? ⟨w.heap.size, 0, none⟩ = some (.int .i64 6) := ((bcell hb3).1 _ _ hz).trans e0; have xf0 : w3.cell? ⟨w.heap.size + 1, 0, none⟩ = some (.int .i64 6) := ((bcell hb3).1 _ _ hz').trans x0; have f1 : w3.cell? ⟨w.heap.size, 1, none⟩ = some (.string a) := ((bcell hb3).1 _ _ hz).trans e1; have xf1 : w3.cell? ⟨w.heap.size + 1, 1, none⟩ = some (.string a) := ((bcell hb3).1 _ _ hz').trans x1; have f2 : w3.cell? ⟨w.heap.size, 2, none⟩ = some (.string b) := ((bcell hb3).1 _ _ hz).trans e2; have xf2 : w3.cell? ⟨w.heap.size + 1, 2, none⟩ = some (.string b) := ((bcell hb3).1 _ _ hz').trans x2; have f3 : w3.cell? ⟨w.heap.size, 3, none⟩ = some (.string k) := ((bcell hb3).1 _ _ hz).trans e3; have xf3 : w3.cell? ⟨w.heap.size + 1, 3, none⟩ = some (.string ⟨#[]⟩) := ((bcell hb3).1 _ _ hz').trans x3; have f4 : w3.cell? ⟨w.heap.size, 4, none⟩ = some (.string v) := ((bcell hb3).1 _ _ hz).trans e4; have xf4 : w3.cell? ⟨w.heap.size + 1, 4, none⟩ = some (.string ⟨#[]⟩) := ((bcell hb3).1 _ _ hz').trans x4; have f5 : w3.cell? ⟨w.heap.size, 5, none⟩ = some (.int .i64 n) := ((bcell hb3).1 _ _ hz).trans e5; have xf5 : w3.cell? ⟨w.heap.size + 1, 5, none⟩ = some (.int .i64 0) := ((bcell hb3).1 _ _ hz').trans x5; have hz3 : w.heap.size < w3.heap.size := Nat.lt_of_lt_of_le hz hb3.size; have hz3' : w.heap.size + 1 < w3.heap.size := Nat.lt_of_lt_of_le hz' hb3.size; have HB3 := Lib.hid ((HB2.out.drew).trans (hb3.mono (Nat.le_of_lt hz))); clear hb3))
  go_wp2_with (go_at_call 89; refine (rfirst_any _ _ [nameE a, needE b true] _ _ (by first | exact (reads_at _ 3 [intV (nameE a), intV (needE b true)] (by first | rfl | simp)).drew | exact reads_at _ 3 [intV (nameE a), intV (needE b true)] (by first | rfl | simp)) (by simp)).mono ?_; rintro e w' ⟨rfl, rfl⟩)
  all_goals first
    | (have hbad : zeroOk ⟨6, a, b, k, v, n⟩ = false := by
         rw [zero6]
         first
           | (simp [show ¬ k.toList = [] by assumption]; done)
           | (simp [show ¬ v.toList = [] by assumption]; done)
           | (have hn : ¬ 0 = n := by assumption
              have hn2 : ¬ n = 0 := fun e => hn e.symm
              simp [hn2]; done)
       go_ret
       exact ⟨ret_i (chk_bad hbad).symm, (by first | exact (HB3.out).trans (below_box' _ (Nat.le_of_lt hz3)).drew | exact (HB3.out).trans (below_box' _ (Nat.le_of_lt hz3)))⟩)
    | (have hk : k.toList = [] := by assumption
       have hv : v.toList = [] := by assumption
       have hn : 0 = n := by assumption
       have hzo : zeroOk ⟨6, a, b, k, v, n⟩ = true := by rw [zero6]; simp [hk, hv, hn.symm]
       have HZ := chk_ok (c := ⟨6, a, b, k, v, n⟩) rfl hzo
       go_ret
       exact ⟨ret_i (by rw [HZ]; exact rfl), (by first | exact (HB3.out).trans (below_box' _ (Nat.le_of_lt hz3)).drew | exact (HB3.out).trans (below_box' _ (Nat.le_of_lt hz3)))⟩)

set_option maxRecDepth 100000 in
set_option maxHeartbeats 4000000 in
theorem rcheck7 (a b k v : ByteArray) (n : Int) (w : World) (hc : (CmdD.mk 7 a b k v n).Small) : Calls Tryd.prog 39 #[.agg (CmdD.mk 7 a b k v n).cells] w (ChkSaid ⟨7, a, b, k, v, n⟩ w) := by
  have hsa := hc.txt a (by simp)
  have hsb := hc.txt b (by simp)
  have hsk := hc.txt k (by simp)
  have hsv := hc.txt v (by simp)
  clear hc
  go_enter Tryd.func39, Tryd.ntmps39
  go_wp2
  go_region_held3 (fun W' => W'.cell? ⟨w.heap.size, 1, none⟩ = some (.string a) ∧ W'.cell? ⟨w.heap.size, 2, none⟩ = some (.string b))
    (first | (refine ⟨?_, ?_⟩ <;> go_simp; done))
    (first | fail)
  go_wp2
  have HX1 := Lib.hid (Blk.drew ((Blk.new w 23 (CmdD.mk 7 a b k v n).cells).alloc (.cells #[.int .i64 7, .string a, .string b, .string ⟨#[]⟩, .string ⟨#[]⟩, .int .i64 0] 23)))
  have HX2 := Lib.hid (Blk.drew (Blk.new (w.alloc (.cells (CmdD.mk 7 a b k v n).cells 23)) 23 #[.int .i64 7, .string a, .string b, .string ⟨#[]⟩, .string ⟨#[]⟩, .int .i64 0]))
  have HB2 := Lib.hid (Below.drew ((below_box w (.cells (CmdD.mk 7 a b k v n).cells 23)).trans (below_box' (w := w) (w1 := w.alloc (.cells (CmdD.mk 7 a b k v n).cells 23)) (.cells #[.int .i64 7, .string a, .string b, .string ⟨#[]⟩, .string ⟨#[]⟩, .int .i64 0] 23) (by simp))))
  generalize hW : ((w.alloc (.cells (CmdD.mk 7 a b k v n).cells 23)).alloc (.cells #[.int .i64 7, .string a, .string b, .string ⟨#[]⟩, .string ⟨#[]⟩, .int .i64 0] 23)).drew = W at *
  have hz : w.heap.size < W.heap.size := by rw [← hW]; simp; omega
  have hz' : w.heap.size + 1 < W.heap.size := by rw [← hW]; simp
  clear hW
  have e0 : W.cell? ⟨w.heap.size, 0, none⟩ = some (.int .i64 7) := by rw [HX1.out.cell]; rfl
  have x0 : W.cell? ⟨w.heap.size + 1, 0, none⟩ = some (.int .i64 7) := by have := HX2.out.cell 0; rw [World.size_alloc] at this; rw [this]; rfl
  have e1 : W.cell? ⟨w.heap.size, 1, none⟩ = some (.string a) := by rw [HX1.out.cell]; rfl
  have x1 : W.cell? ⟨w.heap.size + 1, 1, none⟩ = some (.string a) := by have := HX2.out.cell 1; rw [World.size_alloc] at this; rw [this]; rfl
  have e2 : W.cell? ⟨w.heap.size, 2, none⟩ = some (.string b) := by rw [HX1.out.cell]; rfl
  have x2 : W.cell? ⟨w.heap.size + 1, 2, none⟩ = some (.string b) := by have := HX2.out.cell 2; rw [World.size_alloc] at this; rw [this]; rfl
  have e3 : W.cell? ⟨w.heap.size, 3, none⟩ = some (.string k) := by rw [HX1.out.cell]; rfl
  have x3 : W.cell? ⟨w.heap.size + 1, 3, none⟩ = some (.string ⟨#[]⟩) := by have := HX2.out.cell 3; rw [World.size_alloc] at this; rw [this]; rfl
  have e4 : W.cell? ⟨w.heap.size, 4, none⟩ = some (.string v) := by rw [HX1.out.cell]; rfl
  have x4 : W.cell? ⟨w.heap.size + 1, 4, none⟩ = some (.string ⟨#[]⟩) := by have := HX2.out.cell 4; rw [World.size_alloc] at this; rw [this]; rfl
  have e5 : W.cell? ⟨w.heap.size, 5, none⟩ = some (.int .i64 n) := by rw [HX1.out.cell]; rfl
  have x5 : W.cell? ⟨w.heap.size + 1, 5, none⟩ = some (.int .i64 0) := by have := HX2.out.cell 5; rw [World.size_alloc] at this; rw [this]; rfl
  go_region_held3 (fun W' => W'.cell? ⟨w.heap.size, 1, none⟩ = some (.string a) ∧ W'.cell? ⟨w.heap.size, 2, none⟩ = some (.string b))
    (first | exact ⟨e1, e2⟩ | exact ⟨f1, f2⟩ | exact ⟨(World.cell?_alloc_lt _ _ _ hz3).trans f1, (World.cell?_alloc_lt _ _ _ hz3).trans f2⟩)
    (first
      | (go_at_call 72; refine (name14 a _ (by unfold maxLen; omega)).mono ?_; rintro e w' ⟨rfl, rfl⟩)
      | (go_at_call 86; refine (when_any _ _ _).mono ?_; rintro e w' ⟨rfl, rfl⟩)
      | (go_at_call 88; refine (rneeds_any b true _ hsb).mono ?_; rintro e w3 ⟨rfl, hb3⟩; have f0 : w3.cell? ⟨w.heap.size, 0, none⟩ = some (.int .i64 7) := ((bcell hb3).1 _ _ hz).trans e0; have xf0 : w3.cell? ⟨w.heap.size + 1, 0, none⟩ = some (.int .i64 7) := ((bcell hb3).1 _ _ hz').trans x0; have f1 : w3.cell? ⟨w.heap.size, 1, none⟩ = some (.string a) := ((bcell hb3).1 _ _ hz).trans e1; have xf1 : w3.cell? ⟨w.heap.size + 1, 1, none⟩ = some (.string a) := ((bcell hb3).1 _ _ hz').trans x1; have f2 : w3.cell? ⟨w.heap.size, 2, none⟩ = some (.string b) := ((bcell hb3).1 _ _ hz).trans e2; have xf2 : w3.cell? ⟨w.heap.size + 1, 2, none⟩ = some (.string b) := ((bcell hb3).1 _ _ hz').trans x2; have f3 : w3.cell? ⟨w.heap.size, 3, none⟩ = some (.string k) := ((bcell hb3).1 _ _ hz).trans e3; have xf3 : w3.cell? ⟨w.heap.size + 1, 3, none⟩ = some (.string ⟨#[]⟩) := ((bcell hb3).1 _ _ hz').trans x3; have f4 : w3.cell? ⟨w.heap.size, 4, none⟩ = some (.string v) := ((bcell hb3).1 _ _ hz).trans e4; have xf4 : w3.cell? ⟨w.heap.size + 1, 4, none⟩ = some (.string ⟨#[]⟩) := ((bcell hb3).1 _ _ hz').trans x4; have f5 : w3.cell? ⟨w.heap.size, 5, none⟩ = some (.int .i64 n) := ((bcell hb3).1 _ _ hz).trans e5; have xf5 : w3.cell? ⟨w.heap.size + 1, 5, none⟩ = some (.int .i64 0) := ((bcell hb3).1 _ _ hz').trans x5; have hz3 : w.heap.size < w3.heap.size := Nat.lt_of_lt_of_le hz hb3.size; have hz3' : w.heap.size + 1 < w3.heap.size := Nat.lt_of_lt_of_le hz' hb3.size; have HB3 := Lib.hid ((HB2.out.drew).trans (hb3.mono (Nat.le_of_lt hz))); clear hb3))
  go_wp2_with (go_at_call 89; refine (rfirst_any _ _ [nameE a, needE b true] _ _ (by first | exact (reads_at _ 3 [intV (nameE a), intV (needE b true)] (by first | rfl | simp)).drew | exact reads_at _ 3 [intV (nameE a), intV (needE b true)] (by first | rfl | simp)) (by simp)).mono ?_; rintro e w' ⟨rfl, rfl⟩)
  all_goals first
    | (have hbad : zeroOk ⟨7, a, b, k, v, n⟩ = false := by
         rw [zero7]
         first
           | (simp [show ¬ k.toList = [] by assumption]; done)
           | (simp [show ¬ v.toList = [] by assumption]; done)
           | (have hn : ¬ 0 = n := by assumption
              have hn2 : ¬ n = 0 := fun e => hn e.symm
              simp [hn2]; done)
       go_ret
       exact ⟨ret_i (chk_bad hbad).symm, (by first | exact (HB3.out).trans (below_box' _ (Nat.le_of_lt hz3)).drew | exact (HB3.out).trans (below_box' _ (Nat.le_of_lt hz3)))⟩)
    | (have hk : k.toList = [] := by assumption
       have hv : v.toList = [] := by assumption
       have hn : 0 = n := by assumption
       have hzo : zeroOk ⟨7, a, b, k, v, n⟩ = true := by rw [zero7]; simp [hk, hv, hn.symm]
       have HZ := chk_ok (c := ⟨7, a, b, k, v, n⟩) rfl hzo
       go_ret
       exact ⟨ret_i (by rw [HZ]; exact rfl), (by first | exact (HB3.out).trans (below_box' _ (Nat.le_of_lt hz3)).drew | exact (HB3.out).trans (below_box' _ (Nat.le_of_lt hz3)))⟩)
end Go.Proofs.YtpgchdjfeklobaaDoor
