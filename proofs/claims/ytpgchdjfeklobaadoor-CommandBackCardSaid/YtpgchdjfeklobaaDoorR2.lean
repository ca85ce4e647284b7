/-
  Walks: Check of the reference, kinds 8, 9, 10, 13, 14, 15.
-/
import Derived.Deep.RegionHeld3
import Derived.Deep.RegionWith
import Derived.Test.YtpgchdjfeklobaaDoorR0
namespace Go.Proofs.YtpgchdjfeklobaaDoor
open Go.RowKit

set_option maxRecDepth 100000 in
set_option maxHeartbeats 4000000 in
theorem rcheck8 (a b k v : ByteArray) (n : Int) (w : World) (hc : (CmdD.mk 8 a b k v n).Small) : Calls Tryd.prog 39 #[.agg (CmdD.mk 8 a b k v n).cells] w (ChkSaid ⟨8, a, b, k, v, n⟩ w) := by
  have hsa := hc.txt a (by simp)
  have hsb := hc.txt b (by simp)
  have hsk := hc.txt k (by simp)
  have hsv := hc.txt v (by simp)
  clear hc
  go_enter Tryd.func39, Tryd.ntmps39
  go_wp2_with (first
    | (go_at_call 72; refine (name14 a _ (by unfold maxLen; omega)).mono ?_; rintro e w' ⟨rfl, rfl⟩)
    | (go_at_call 86; refine (when_any _ _ _).mono ?_; rintro e w' ⟨rfl, rfl⟩)
    | (go_at_call 89; refine (rfirst_any _ _ [nameE a] _ _ (by first | exact (reads_at _ 3 [intV (nameE a)] (by first | rfl | simp)).drew | exact reads_at _ 3 [intV (nameE a)] (by first | rfl | simp)) (by simp)).mono ?_; rintro e w' ⟨rfl, rfl⟩))
  all_goals first
    | (have hbad : zeroOk ⟨8, a, b, k, v, n⟩ = false := by
         rw [zero8]
         first
           | (simp [show ¬ b.toList = [] by assumption]; done)
           | (simp [show ¬ k.toList = [] by assumption]; done)
           | (simp [show ¬ v.toList = [] by assumption]; done)
           | (have hn : ¬ 0 = n := by assumption
              have hn2 : ¬ n = 0 := fun e => hn e.symm
              simp [hn2]; done)
       go_ret
       exact ⟨ret_i (chk_bad hbad).symm, (Below.trans (((Below.refl _ _).alloc (Nat.le_refl _) _).alloc (by simp) _) ((Below.refl _ _).alloc (by first | (simp; omega) | omega) _))⟩)
    | (have hb : b.toList = [] := by assumption
       have hk : k.toList = [] := by assumption
       have hv : v.toList = [] := by assumption
       have hn : 0 = n := by assumption
       have hzo : zeroOk ⟨8, a, b, k, v, n⟩ = true := by rw [zero8]; simp [hb, hk, hv, hn.symm]
       have HZ := chk_ok (c := ⟨8, a, b, k, v, n⟩) rfl hzo
       go_ret
       exact ⟨ret_i (by rw [HZ]; exact rfl), (Below.trans (((Below.refl _ _).alloc (Nat.le_refl _) _).alloc (by simp) _) ((Below.refl _ _).alloc (by first | (simp; omega) | omega) _))⟩)

set_option maxRecDepth 100000 in
set_option maxHeartbeats 4000000 in
theorem rcheck9 (a b k v : ByteArray) (n : Int) (w : World) (hc : (CmdD.mk 9 a b k v n).Small) : Calls Tryd.prog 39 #[.agg (CmdD.mk 9 a b k v n).cells] w (ChkSaid ⟨9, a, b, k, v, n⟩ w) := by
  have hsa := hc.txt a (by simp)
  have hsb := hc.txt b (by simp)
  have hsk := hc.txt k (by simp)
  have hsv := hc.txt v (by simp)
  clear hc
  go_enter Tryd.func39, Tryd.ntmps39
  go_wp2_with (first
    | (go_at_call 72; refine (name14 a _ (by unfold maxLen; omega)).mono ?_; rintro e w' ⟨rfl, rfl⟩)
    | (go_at_call 86; refine (when_any _ _ _).mono ?_; rintro e w' ⟨rfl, rfl⟩)
    | (go_at_call 89; refine (rfirst_any _ _ [nameE a] _ _ (by first | exact (reads_at _ 3 [intV (nameE a)] (by first | rfl | simp)).drew | exact reads_at _ 3 [intV (nameE a)] (by first | rfl | simp)) (by simp)).mono ?_; rintro e w' ⟨rfl, rfl⟩))
  all_goals first
    | (have hbad : zeroOk ⟨9, a, b, k, v, n⟩ = false := by
         rw [zero9]
         first
           | (simp [show ¬ b.toList = [] by assumption]; done)
           | (simp [show ¬ k.toList = [] by assumption]; done)
           | (simp [show ¬ v.toList = [] by assumption]; done)
           | (have hn : ¬ 0 = n := by assumption
              have hn2 : ¬ n = 0 := fun e => hn e.symm
              simp [hn2]; done)
       go_ret
       exact ⟨ret_i (chk_bad hbad).symm, (Below.trans (((Below.refl _ _).alloc (Nat.le_refl _) _).alloc (by simp) _) ((Below.refl _ _).alloc (by first | (simp; omega) | omega) _))⟩)
    | (have hb : b.toList = [] := by assumption
       have hk : k.toList = [] := by assumption
       have hv : v.toList = [] := by assumption
       have hn : 0 = n := by assumption
       have hzo : zeroOk ⟨9, a, b, k, v, n⟩ = true := by rw [zero9]; simp [hb, hk, hv, hn.symm]
       have HZ := chk_ok (c := ⟨9, a, b, k, v, n⟩) rfl hzo
       go_ret
       exact ⟨ret_i (by rw [HZ]; exact rfl), (Below.trans (((Below.refl _ _).alloc (Nat.le_refl _) _).alloc (by simp) _) ((Below.refl _ _).alloc (by first | (simp; omega) | omega) _))⟩)

set_option maxRecDepth 100000 in
set_option maxHeartbeats 4000000 in
theorem rcheck10 (a b k v : ByteArray) (n : Int) (w : World) (hc : (CmdD.mk 10 a b k v n).Small) : Calls Tryd.prog 39 #[.agg (CmdD.mk 10 a b k v n).cells] w (ChkSaid ⟨10, a, b, k, v, n⟩ w) := by
  have hsa := hc.txt a (by simp)
  have hsb := hc.txt b (by simp)
  have hsk := hc.txt k (by simp)
  have hsv := hc.txt v (by simp)
  clear hc
  go_enter Tryd.func39, Tryd.ntmps39
  go_wp2_with (first
    | (go_at_call 88; refine (rneeds_any b false _ hsb).mono ?_; rintro e w3 ⟨rfl, hb3⟩; obtain ⟨hc3, hf3⟩ := bcell hb3; have HB3 := Lib.hid hb3; have hz3 : w.heap.size < w3.heap.size := (by have := hb3.size; simp at this; omega); have hz4 : w.heap.size + 1 < w3.heap.size := (by have := hb3.size; simp at this; omega); clear hb3)
    | (go_at_call 89; refine (rfirst_any _ _ [needE b false] _ _ (by first | exact (reads_at _ 3 [intV (needE b false)] (by first | rfl | simp)).drew | exact reads_at _ 3 [intV (needE b false)] (by first | rfl | simp)) (by simp)).mono ?_; rintro e w' ⟨rfl, rfl⟩))
  all_goals first
    | (have hbad : zeroOk ⟨10, a, b, k, v, n⟩ = false := by
         rw [zero10]
         first
           | (simp [show ¬ a.toList = [] by assumption]; done)
           | (simp [show ¬ k.toList = [] by assumption]; done)
           | (simp [show ¬ v.toList = [] by assumption]; done)
           | (have hn : ¬ 0 = n := by assumption
              have hn2 : ¬ n = 0 := fun e => hn e.symm
              simp [hn2]; done)
       go_ret
       exact ⟨ret_i (chk_bad hbad).symm, (Below.trans ((((Below.refl _ _).alloc (Nat.le_refl _) _).alloc (by simp) _).trans (HB3.out.mono (by simp; omega))) ((Below.refl _ _).alloc (by first | (simp; omega) | omega) _))⟩)
    | (have ha : a.toList = [] := by assumption
       have hk : k.toList = [] := by assumption
       have hv : v.toList = [] := by assumption
       have hn : 0 = n := by assumption
       have hzo : zeroOk ⟨10, a, b, k, v, n⟩ = true := by rw [zero10]; simp [ha, hk, hv, hn.symm]
       have HZ := chk_ok (c := ⟨10, a, b, k, v, n⟩) rfl hzo
       go_ret
       exact ⟨ret_i (by rw [HZ]; exact rfl), (Below.trans ((((Below.refl _ _).alloc (Nat.le_refl _) _).alloc (by simp) _).trans (HB3.out.mono (by simp; omega))) ((Below.refl _ _).alloc (by first | (simp; omega) | omega) _))⟩)

set_option maxRecDepth 100000 in
set_option maxHeartbeats 4000000 in
theorem rcheck13 (a b k v : ByteArray) (n : Int) (w : World) (hc : (CmdD.mk 13 a b k v n).Small) : Calls Tryd.prog 39 #[.agg (CmdD.mk 13 a b k v n).cells] w (ChkSaid ⟨13, a, b, k, v, n⟩ w) := by
  have hsa := hc.txt a (by simp)
  have hsb := hc.txt b (by simp)
  have hsk := hc.txt k (by simp)
  have hsv := hc.txt v (by simp)
  clear hc
  go_enter Tryd.func39, Tryd.ntmps39
  go_wp2_with (first
    | (go_at_call 89; refine (rfirst_any none 0 [] 0 _ Reads.none_ (by simp)).mono ?_; rintro e w' ⟨rfl, rfl⟩))
  all_goals first
    | (have hbad : zeroOk ⟨13, a, b, k, v, n⟩ = false := by
         rw [zero13]
         first
           | (simp [show ¬ a.toList = [] by assumption]; done)
           | (simp [show ¬ b.toList = [] by assumption]; done)
           | (simp [show ¬ k.toList = [] by assumption]; done)
           | (simp [show ¬ v.toList = [] by assumption]; done)
           | (have hn : ¬ 0 = n := by assumption
              have hn2 : ¬ n = 0 := fun e => hn e.symm
              simp [hn2]; done)
       go_ret
       exact ⟨ret_i (chk_bad hbad).symm, (((Below.refl _ _).alloc (Nat.le_refl _) _).alloc (by simp) _)⟩)
    | (have ha : a.toList = [] := by assumption
       have hb : b.toList = [] := by assumption
       have hk : k.toList = [] := by assumption
       have hv : v.toList = [] := by assumption
       have hn : 0 = n := by assumption
       have hzo : zeroOk ⟨13, a, b, k, v, n⟩ = true := by rw [zero13]; simp [ha, hb, hk, hv, hn.symm]
       have HZ := chk_ok (c := ⟨13, a, b, k, v, n⟩) rfl hzo
       go_ret
       exact ⟨ret_i (by rw [HZ]; exact rfl), (((Below.refl _ _).alloc (Nat.le_refl _) _).alloc (by simp) _)⟩)

set_option maxRecDepth 100000 in
set_option maxHeartbeats 4000000 in
theorem rcheck14 (a b k v : ByteArray) (n : Int) (w : World) (hc : (CmdD.mk 14 a b k v n).Small) : Calls Tryd.prog 39 #[.agg (CmdD.mk 14 a b k v n).cells] w (ChkSaid ⟨14, a, b, k, v, n⟩ w) := by
  have hsa := hc.txt a (by simp)
  have hsb := hc.txt b (by simp)
  have hsk := hc.txt k (by simp)
  have hsv := hc.txt v (by simp)
  clear hc
  go_enter Tryd.func39, Tryd.ntmps39
  go_wp2_with (first
    | (go_at_call 88; refine (rneeds_any b false _ hsb).mono ?_; rintro e w3 ⟨rfl, hb3⟩; obtain ⟨hc3, hf3⟩ := bcell hb3; have HB3 := Lib.hid hb3; have hz3 : w.heap.size < w3.heap.size := (by have := hb3.size; simp at this; omega); have hz4 : w.heap.size + 1 < w3.heap.size := (by have := hb3.size; simp at this; omega); clear hb3)
    | (go_at_call 89; refine (rfirst_any _ _ [needE b false] _ _ (by first | exact (reads_at _ 3 [intV (needE b false)] (by first | rfl | simp)).drew | exact reads_at _ 3 [intV (needE b false)] (by first | rfl | simp)) (by simp)).mono ?_; rintro e w' ⟨rfl, rfl⟩))
  all_goals first
    | (have hbad : zeroOk ⟨14, a, b, k, v, n⟩ = false := by
         rw [zero14]
         first
           | (simp [show ¬ a.toList = [] by assumption]; done)
           | (simp [show ¬ k.toList = [] by assumption]; done)
           | (simp [show ¬ v.toList = [] by assumption]; done)
           | (have hn : ¬ 0 = n := by assumption
              have hn2 : ¬ n = 0 := fun e => hn e.symm
              simp [hn2]; done)
       go_ret
       exact ⟨ret_i (chk_bad hbad).symm, (Below.trans ((((Below.refl _ _).alloc (Nat.le_refl _) _).alloc (by simp) _).trans (HB3.out.mono (by simp; omega))) ((Below.refl _ _).alloc (by first | (simp; omega) | omega) _))⟩)
    | (have ha : a.toList = [] := by assumption
       have hk : k.toList = [] := by assumption
       have hv : v.toList = [] := by assumption
       have hn : 0 = n := by assumption
       have hzo : zeroOk ⟨14, a, b, k, v, n⟩ = true := by rw [zero14]; simp [ha, hk, hv, hn.symm]
       have HZ := chk_ok (c := ⟨14, a, b, k, v, n⟩) rfl hzo
       go_ret
       exact ⟨ret_i (by rw [HZ]; exact rfl), (Below.trans ((((Below.refl _ _).alloc (Nat.le_refl _) _).alloc (by simp) _).trans (HB3.out.mono (by simp; omega))) ((Below.refl _ _).alloc (by first | (simp; omega) | omega) _))⟩)

set_option maxRecDepth 100000 in
set_option maxHeartbeats 4000000 in
theorem rcheck15 (a b k v : ByteArray) (n : Int) (w : World) (hc : (CmdD.mk 15 a b k v n).Small) : Calls Tryd.prog 39 #[.agg (CmdD.mk 15 a b k v n).cells] w (ChkSaid ⟨15, a, b, k, v, n⟩ w) := by
  have hsa := hc.txt a (by simp)
  have hsb := hc.txt b (by simp)
  have hsk := hc.txt k (by simp)
  have hsv := hc.txt v (by simp)
  clear hc
  go_enter Tryd.func39, Tryd.ntmps39
  go_wp2_with (first
    | (go_at_call 88; refine (rneeds_any b false _ hsb).mono ?_; rintro e w3 ⟨rfl, hb3⟩; obtain ⟨hc3, hf3⟩ := bcell hb3; have HB3 := Lib.hid hb3; have hz3 : w.heap.size < w3.heap.size := (by have := hb3.size; simp at this; omega); have hz4 : w.heap.size + 1 < w3.heap.size := (by have := hb3.size; simp at this; omega); clear hb3)
    | (go_at_call 89; refine (rfirst_any _ _ [needE b false] _ _ (by first | exact (reads_at _ 3 [intV (needE b false)] (by first | rfl | simp)).drew | exact reads_at _ 3 [intV (needE b false)] (by first | rfl | simp)) (by simp)).mono ?_; rintro e w' ⟨rfl, rfl⟩))
  all_goals first
    | (have hbad : zeroOk ⟨15, a, b, k, v, n⟩ = false := by
         rw [zero15]
         first
           | (simp [show ¬ a.toList = [] by assumption]; done)
           | (simp [show ¬ k.toList = [] by assumption]; done)
           | (simp [show ¬ v.toList = [] by assumption]; done)
           | (have hn : ¬ 0 = n := by assumption
              have hn2 : ¬ n = 0 := fun e => hn e.symm
              simp [hn2]; done)
       go_ret
       exact ⟨ret_i (chk_bad hbad).symm, (Below.trans ((((Below.refl _ _).alloc (Nat.le_refl _) _).alloc (by simp) _).trans (HB3.out.mono (by simp; omega))) ((Below.refl _ _).alloc (by first | (simp; omega) | omega) _))⟩)
    | (have ha : a.toList = [] := by assumption
       have hk : k.toList = [] := by assumption
       have hv : v.toList = [] := by assumption
       have hn : 0 = n := by assumption
       have hzo : zeroOk ⟨15, a, b, k, v, n⟩ = true := by rw [zero15]; simp [ha, hk, hv, hn.symm]
       have HZ := chk_ok (c := ⟨15, a, b, k, v, n⟩) rfl hzo
       go_ret
       exact ⟨ret_i (by rw [HZ]; exact rfl), (Below.trans ((((Below.refl _ _).alloc (Nat.le_refl _) _).alloc (by simp) _).trans (HB3.out.mono (by simp; omega))) ((Below.refl _ _).alloc (by first | (simp; omega) | omega) _))⟩)
end Go.Proofs.YtpgchdjfeklobaaDoor
