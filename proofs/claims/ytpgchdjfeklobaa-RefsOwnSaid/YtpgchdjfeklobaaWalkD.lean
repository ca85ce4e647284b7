/-
  Walks: the program's Set and Drop on a table.
-/
import Derived.Test.YtpgchdjfeklobaaWalkC
namespace Go.Proofs.Ytpgchdjfeklobaa
open Go.RowKit Go.Maps

set_option maxHeartbeats 1000000 in
theorem set_none (s : ByteArray) (old id : Int) (w : World) (pb b : Nat) (L : List RefD) (h : Tab w pb b L) (hs : s.size ≤ maxLen) (hg : getL L s = none) :
    Calls Try.prog 11 #[.pointer (some ⟨pb, 0, none⟩), .string s, .int .u64 old, .int .u64 id] w fun e w' => e = .returned (.int .i64 111) ∧ Below w.heap.size w w' := by
  have hp := h.lt
  have hc := h.cell
  have hm := h.map
  have HTb := Lib.hid h
  clear h
  have hbl := hm.lt
  have HG := Lib.hid hg
  clear hg
  go_enter Try.func11, Try.ntmps11
  go_wp2_with (first
    | (go_at_call 19; refine (get_some s _ pb b L HTb.out hs).mono ?_; rintro e w1 ⟨rfl, hb1⟩; obtain ⟨hc1, hf1⟩ := bcell hb1; have hz1 : w.heap.size ≤ w1.heap.size := hb1.size; have hz1p : pb < w1.heap.size := (by omega); have hm1 := mapIs_step hm hb1; have HB1 := Lib.hid hb1; clear hb1; rw [HG.out]; simp only [Option.isSome_none, Option.getD_none])
    )
  go_ret
  exact ⟨rfl, below_alloc (below_step (Below.refl _ _) HB1.out) _⟩
set_option maxHeartbeats 1000000 in
theorem set_tag (r : RefD) (old id : Int) (w : World) (pb b : Nat) (L : List RefD) (h : Tab w pb b L) (hs : r.name.size ≤ maxLen) (hg : getL L r.name = some r) (ht : r.tag = true) :
    Calls Try.prog 11 #[.pointer (some ⟨pb, 0, none⟩), .string r.name, .int .u64 old, .int .u64 id] w fun e w' => e = .returned (.int .i64 114) ∧ Below w.heap.size w w' := by
  have hp := h.lt
  have hc := h.cell
  have hm := h.map
  have HTb := Lib.hid h
  clear h
  have hbl := hm.lt
  have HG := Lib.hid hg
  clear hg
  go_enter Try.func11, Try.ntmps11
  go_wp2_with (first
    | (go_at_call 19; refine (get_some r.name _ pb b L HTb.out hs).mono ?_; rintro e w1 ⟨rfl, hb1⟩; obtain ⟨hc1, hf1⟩ := bcell hb1; have hz1 : w.heap.size ≤ w1.heap.size := hb1.size; have hz1p : pb < w1.heap.size := (by omega); have hm1 := mapIs_step hm hb1; have HB1 := Lib.hid hb1; clear hb1; rw [HG.out]; simp only [Option.isSome_some, Option.getD_some])
    )
  go_ret
  exact ⟨rfl, below_alloc (below_step (Below.refl _ _) HB1.out) _⟩
set_option maxHeartbeats 1000000 in
theorem set_stale (r : RefD) (old id : Int) (w : World) (pb b : Nat) (L : List RefD) (h : Tab w pb b L) (hs : r.name.size ≤ maxLen) (hg : getL L r.name = some r) (ht : r.tag = false) (hne : (r.id != old) = true) :
    Calls Try.prog 11 #[.pointer (some ⟨pb, 0, none⟩), .string r.name, .int .u64 old, .int .u64 id] w fun e w' => e = .returned (.int .i64 113) ∧ Below w.heap.size w w' := by
  have hp := h.lt
  have hc := h.cell
  have hm := h.map
  have HTb := Lib.hid h
  clear h
  have hbl := hm.lt
  have HG := Lib.hid hg
  clear hg
  go_enter Try.func11, Try.ntmps11
  go_wp2_with (first
    | (go_at_call 19; refine (get_some r.name _ pb b L HTb.out hs).mono ?_; rintro e w1 ⟨rfl, hb1⟩; obtain ⟨hc1, hf1⟩ := bcell hb1; have hz1 : w.heap.size ≤ w1.heap.size := hb1.size; have hz1p : pb < w1.heap.size := (by omega); have hm1 := mapIs_step hm hb1; have HB1 := Lib.hid hb1; clear hb1; rw [HG.out]; simp only [Option.isSome_some, Option.getD_some])
    )
  go_ret
  exact ⟨rfl, below_alloc (below_step (Below.refl _ _) HB1.out) _⟩
set_option maxHeartbeats 1000000 in
theorem set_done (r : RefD) (old id : Int) (w : World) (pb b : Nat) (L : List RefD) (h : Tab w pb b L) (hs : r.name.size ≤ maxLen) (hg : getL L r.name = some r) (ht : r.tag = false) (hne : (r.id != old) = false) (hR : Rising L) (hl : L.length ≤ 40) :
    Calls Try.prog 11 #[.pointer (some ⟨pb, 0, none⟩), .string r.name, .int .u64 old, .int .u64 id] w fun e w' => e = .returned (.int .i64 0) ∧ MapIs w' b (L.map fun x => if x.name = r.name then { r with id := id } else x) ∧ w.grownBy w' (some b) := by
  have hp := h.lt
  have hc := h.cell
  have hm := h.map
  have HTb := Lib.hid h
  clear h
  have hbl := hm.lt
  have hput := put_old (r := ⟨r.name, false, id⟩) hR (by rw [hg]; rfl)
  have HP := Lib.hid hput
  have HG := Lib.hid hg
  clear hg hput hR
  go_enter Try.func11, Try.ntmps11
  go_wp2_with (first
    | (go_at_call 19; refine (get_some r.name _ pb b L HTb.out hs).mono ?_; rintro e w1 ⟨rfl, hb1⟩; obtain ⟨hc1, hf1⟩ := bcell hb1; have hz1 : w.heap.size ≤ w1.heap.size := hb1.size; have hz1p : pb < w1.heap.size := (by omega); have hm1 := mapIs_step hm hb1; have HB1 := Lib.hid hb1; clear hb1; rw [HG.out]; simp only [Option.isSome_some, Option.getD_some])
    )
  have q0 : (w1.alloc (.cells #[.string r.name, .bool false, .int .u64 id] 32)).cell? ⟨pb, 0, none⟩ = some (.map (some b)) := by go_simp
  have q1 : (w1.alloc (.cells #[.string r.name, .bool false, .int .u64 id] 32)).cell? ⟨w1.heap.size, 0, none⟩ = some (.string r.name) := by go_simp
  have q2 : (w1.alloc (.cells #[.string r.name, .bool false, .int .u64 id] 32)).cell? ⟨w1.heap.size, 1, none⟩ = some (.bool false) := by go_simp
  have q3 : (w1.alloc (.cells #[.string r.name, .bool false, .int .u64 id] 32)).cell? ⟨w1.heap.size, 2, none⟩ = some (.int .u64 id) := by go_simp
  have q4 : MapIs (w1.alloc (.cells #[.string r.name, .bool false, .int .u64 id] 32)) b L := hm1.alloc _
  have q5 := Lib.hid (below_alloc (below_step (Below.refl _ _) HB1.out) (.cells #[.string r.name, .bool false, .int .u64 id] 32))
  generalize w1.alloc (.cells #[.string r.name, .bool false, .int .u64 id] 32) = W3 at *
  go_still_tail 6, (by kernel_rfl)
  refine wpList_put53 _ rfl _ _ _ rfl b L ⟨r.name, false, id⟩ rfl rfl rfl hs q4.drew (by unfold maxLen; omega) _ HP.out ?_
  intro w3 hm3 hg3
  have HG3 := Lib.hid hg3
  clear hg3
  go_wp2
  go_ret
  refine ⟨rfl, ?_, grown_trans' (grown_of_below q5.out.drew _) HG3.out⟩
  rw [ht]
  exact hm3
theorem set_some (s : ByteArray) (old id : Int) (w : World) (pb b : Nat) (L : List RefD) (h : Tab w pb b L) (hs : s.size ≤ maxLen) (hL : Good L) :
    Calls Try.prog 11 #[.pointer (some ⟨pb, 0, none⟩), .string s, .int .u64 old, .int .u64 id] w fun e w' => e = .returned (.int .i64 (setL L s old id).1) ∧ MapIs w' b (setL L s old id).2 ∧ w.grownBy w' (some b) := by
  cases hg : getL L s with
  | none =>
    have e1 : setL L s old id = (111, L) := by unfold setL; rw [hg]
    rw [e1]
    exact (set_none s old id w pb b L h hs hg).mono fun e w' hh => ⟨hh.1, mapIs_step h.map hh.2, grown_of_below hh.2 _⟩
  | some r =>
    obtain ⟨_, rfl⟩ := getL_some hg
    cases ht : r.tag
    · by_cases hne : r.id = old
      · have e1 : setL L r.name old id = (0, L.map fun x => if x.name = r.name then { x with id := id } else x) := by
          unfold setL; rw [hg]; simp [ht, hne]
        have e2 : (L.map fun x => if x.name = r.name then { x with id := id } else x) = L.map fun x => if x.name = r.name then { r with id := id } else x := by
          apply List.map_congr_left
          intro x hx
          by_cases e : x.name = r.name
          · rw [if_pos e, if_pos e, getL_unique hL.rising hg hx e]
          · rw [if_neg e, if_neg e]
        rw [e1]
        simp only [e2]
        exact set_done r old id w pb b L h hs hg ht (by simp [hne]) hL.rising hL.few
      · have e1 : setL L r.name old id = (113, L) := by
          unfold setL; rw [hg]; simp [ht, hne]
        rw [e1]
        exact (set_stale r old id w pb b L h hs hg ht (by simp [hne])).mono fun e w' hh => ⟨hh.1, mapIs_step h.map hh.2, grown_of_below hh.2 _⟩
    · have e1 : setL L r.name old id = (114, L) := by
        unfold setL; rw [hg]; simp [ht]
      rw [e1]
      exact (set_tag r old id w pb b L h hs hg ht).mono fun e w' hh => ⟨hh.1, mapIs_step h.map hh.2, grown_of_below hh.2 _⟩

set_option maxHeartbeats 1000000 in
theorem drop_none (s : ByteArray) (w : World) (pb b : Nat) (L : List RefD) (h : Tab w pb b L) (hs : s.size ≤ maxLen) (hg : getL L s = none) :
    Calls Try.prog 13 #[.pointer (some ⟨pb, 0, none⟩), .string s] w fun e w' => e = .returned (.int .i64 111) ∧ Below w.heap.size w w' := by
  have hp := h.lt
  have hc := h.cell
  have hm := h.map
  have HTb := Lib.hid h
  clear h
  have hbl := hm.lt
  have HG := Lib.hid hg
  clear hg
  go_enter Try.func13, Try.ntmps13
  go_wp2_with (first
    | (go_at_call 19; refine (get_some s _ pb b L HTb.out hs).mono ?_; rintro e w1 ⟨rfl, hb1⟩; obtain ⟨hc1, hf1⟩ := bcell hb1; have hz1 : w.heap.size ≤ w1.heap.size := hb1.size; have hz1p : pb < w1.heap.size := (by omega); have hm1 := mapIs_step hm hb1; have HB1 := Lib.hid hb1; clear hb1; rw [HG.out]; simp only [Option.isSome_none, Option.getD_none])
    )
  go_ret
  exact ⟨rfl, below_alloc (below_step (Below.refl _ _) HB1.out) _⟩
set_option maxHeartbeats 1000000 in
theorem drop_done (s : ByteArray) (r : RefD) (w : World) (pb b : Nat) (L : List RefD) (h : Tab w pb b L) (hs : s.size ≤ maxLen) (hg : getL L s = some r) :
    Calls Try.prog 13 #[.pointer (some ⟨pb, 0, none⟩), .string s] w fun e w' => e = .returned (.int .i64 0) ∧ MapIs w' b (L.filter fun x => !decide (x.name = s)) ∧ w.grownBy w' (some b) := by
  have hp := h.lt
  have hc := h.cell
  have hm := h.map
  have HTb := Lib.hid h
  clear h
  have hbl := hm.lt
  have HG := Lib.hid hg
  clear hg
  go_enter Try.func13, Try.ntmps13
  go_wp2_with (first
    | (go_at_call 19; refine (get_some s _ pb b L HTb.out hs).mono ?_; rintro e w1 ⟨rfl, hb1⟩; obtain ⟨hc1, hf1⟩ := bcell hb1; have hz1 : w.heap.size ≤ w1.heap.size := hb1.size; have hz1p : pb < w1.heap.size := (by omega); have hm1 := mapIs_step hm hb1; have HB1 := Lib.hid hb1; clear hb1; rw [HG.out]; simp only [Option.isSome_some, Option.getD_some])
    | (at_delete; refine wpList_del53 _ rfl _ _ rfl b L s rfl rfl hs (hm1.alloc _) ?_; intro w3 hm3 hg3; have HG3 := Lib.hid hg3; clear hg3))
  go_ret
  exact ⟨rfl, hm3, grown_trans' (grown_of_below (below_alloc (below_step (Below.refl _ _) HB1.out) _) _) HG3.out⟩
theorem drop_some (s : ByteArray) (w : World) (pb b : Nat) (L : List RefD) (h : Tab w pb b L) (hs : s.size ≤ maxLen) :
    Calls Try.prog 13 #[.pointer (some ⟨pb, 0, none⟩), .string s] w fun e w' => e = .returned (.int .i64 (dropL L s).1) ∧ MapIs w' b (dropL L s).2 ∧ w.grownBy w' (some b) := by
  cases hg : getL L s with
  | none =>
    have e1 : dropL L s = (111, L) := by unfold dropL; rw [hg]
    rw [e1]
    exact (drop_none s w pb b L h hs hg).mono fun e w' hh => ⟨hh.1, mapIs_step h.map hh.2, grown_of_below hh.2 _⟩
  | some r =>
    have e1 : dropL L s = (0, L.filter fun x => !decide (x.name = s)) := by unfold dropL; rw [hg]
    rw [e1]
    exact drop_done s r w pb b L h hs hg
set_option maxHeartbeats 1000000 in
theorem set_nil (s : ByteArray) (old id : Int) (w : World) : Calls Try.prog 11 #[.pointer none, .string s, .int .u64 old, .int .u64 id] w fun e w' => e = .returned (.int .i64 111) ∧ Below w.heap.size w w' := by
  go_enter Try.func11, Try.ntmps11
  go_wp2_with (go_at_call 19; refine (get_nil s _).mono ?_; rintro e w1 ⟨rfl, hb1⟩; have HB1 := Lib.hid hb1; clear hb1)
  go_ret
  exact ⟨rfl, below_alloc (below_step (Below.refl _ _) HB1.out) _⟩
set_option maxHeartbeats 1000000 in
theorem drop_nil (s : ByteArray) (w : World) : Calls Try.prog 13 #[.pointer none, .string s] w fun e w' => e = .returned (.int .i64 111) ∧ Below w.heap.size w w' := by
  go_enter Try.func13, Try.ntmps13
  go_wp2_with (go_at_call 19; refine (get_nil s _).mono ?_; rintro e w1 ⟨rfl, hb1⟩; have HB1 := Lib.hid hb1; clear hb1)
  go_ret
  exact ⟨rfl, below_alloc (below_step (Below.refl _ _) HB1.out) _⟩
end Go.Proofs.Ytpgchdjfeklobaa
