/-
  Walks: the program's Make, Set and Drop on a table.
-/
import Derived.Test.YtpgchdjfeklobaaWalkB
namespace Go.Proofs.Ytpgchdjfeklobaa
open Go.RowKit Go.Maps

theorem bcell {W w1 : World} (hb : Below W.heap.size W w1) : (∀ b o, b < W.heap.size → w1.cell? ⟨b, o, none⟩ = W.cell? ⟨b, o, none⟩) ∧ (∀ b o, b < W.heap.size → w1.frozen? ⟨b, o, none⟩ = W.frozen? ⟨b, o, none⟩) :=
  ⟨fun b o h => hb.cell (p := ⟨b, o, none⟩) h, fun b o h => hb.frozen (p := ⟨b, o, none⟩) h⟩
theorem grown_below {a w w' : World} {row : Option Nat} (h : a.grownBy w row) (k : Below w.heap.size w w') : a.grownBy w' row :=
  ⟨k.os.trans h.os, k.tape.trans h.tape, k.output.trans h.output, Nat.le_trans h.size k.size, fun i hi hne => (k.block i (Nat.lt_of_lt_of_le hi h.size)).trans (h.block i hi hne)⟩
theorem grown_of_below {a w : World} (h : Below a.heap.size a w) (row : Option Nat) : a.grownBy w row := ⟨h.os, h.tape, h.output, h.size, fun i hi _ => h.block i hi⟩
theorem grown_trans' {a b c : World} {row : Option Nat} (h : a.grownBy b row) (k : b.grownBy c row) : a.grownBy c row :=
  ⟨k.os.trans h.os, k.tape.trans h.tape, k.output.trans h.output, Nat.le_trans h.size k.size, fun i hi hne => (k.block i (Nat.lt_of_lt_of_le hi h.size) hne).trans (h.block i hi hne)⟩

theorem below_step {w W w' : World} (h : Below w.heap.size w W) (k : Below W.heap.size W w') : Below w.heap.size w w' := h.trans (k.mono h.size)
theorem below_alloc {w W : World} (h : Below w.heap.size w W) (o : Obj) : Below w.heap.size w (W.alloc o) := h.alloc h.size o
theorem mapIs_step {W w1 : World} {b : Nat} {L : List RefD} (h : MapIs W b L) (hb : Below W.heap.size W w1) : MapIs w1 b L := h.below hb h.lt

set_option maxHeartbeats 1000000 in
theorem make_bad (r : RefD) (w : World) (pb b : Nat) (L : List RefD) (h : Tab w pb b L) (hs : r.name.size ≤ maxLen) (hn : nameOk r.name = false) :
    Calls Try.prog 9 #[.pointer (some ⟨pb, 0, none⟩), refV r] w fun e w' => e = .returned (.int .i64 110) ∧ Below w.heap.size w w' := by
  have hp := h.lt
  have hc := h.cell
  have hm := h.map
  have HTb := Lib.hid h
  clear h
  have hbl := hm.lt
  have HN := Lib.hid hn
  clear hn
  go_enter Try.func9, Try.ntmps9
  go_wp2_with (first
    | (go_at_call 19; refine (get_some r.name _ pb b L (HTb.out.alloc _) hs).mono ?_; rintro e w1 ⟨rfl, hb1⟩; obtain ⟨hc1, hf1⟩ := bcell hb1; have hz1 : w.heap.size < w1.heap.size := (by have := hb1.size; simp at this; omega); have hz1p : pb < w1.heap.size := (by omega); have hm1 := mapIs_step (hm.alloc _) hb1; have HB1 := Lib.hid hb1; clear hb1)
    | (go_at_call 23; refine (ok_some _ _ b (by go_simp)).mono ?_; rintro e w' ⟨rfl, rfl⟩)
    | (go_at_call 21; refine (name16 r.name _ hs).mono ?_; rintro e w2 ⟨rfl, hb2⟩; rw [HN.out]; obtain ⟨hc2, hf2⟩ := bcell hb2; have hz2 : w1.heap.size < w2.heap.size := (by have := hb2.size; simp at this; omega); have hz2w : w.heap.size < w2.heap.size := (by omega); have hz2p : pb < w2.heap.size := (by omega); have hm2 := mapIs_step (hm1.alloc _) hb2; have HB2 := Lib.hid hb2; clear hb2)
    )
  go_ret
  exact ⟨rfl, below_step (below_alloc (below_step (below_alloc (Below.refl _ _) _) HB1.out) _) HB2.out⟩
set_option maxHeartbeats 1000000 in
theorem make_there (r : RefD) (w : World) (pb b : Nat) (L : List RefD) (h : Tab w pb b L) (hs : r.name.size ≤ maxLen) (hn : nameOk r.name = true) (ht : (getL L r.name).isSome = true) :
    Calls Try.prog 9 #[.pointer (some ⟨pb, 0, none⟩), refV r] w fun e w' => e = .returned (.int .i64 112) ∧ Below w.heap.size w w' := by
  have hp := h.lt
  have hc := h.cell
  have hm := h.map
  have HTb := Lib.hid h
  clear h
  have hbl := hm.lt
  have HN := Lib.hid hn
  clear hn
  have HT := Lib.hid ht
  clear ht
  go_enter Try.func9, Try.ntmps9
  go_wp2_with (first
    | (go_at_call 19; refine (get_some r.name _ pb b L (HTb.out.alloc _) hs).mono ?_; rintro e w1 ⟨rfl, hb1⟩; obtain ⟨hc1, hf1⟩ := bcell hb1; have hz1 : w.heap.size < w1.heap.size := (by have := hb1.size; simp at this; omega); have hz1p : pb < w1.heap.size := (by omega); have hm1 := mapIs_step (hm.alloc _) hb1; have HB1 := Lib.hid hb1; clear hb1; rw [HT.out])
    | (go_at_call 23; refine (ok_some _ _ b (by go_simp)).mono ?_; rintro e w' ⟨rfl, rfl⟩)
    | (go_at_call 21; refine (name16 r.name _ hs).mono ?_; rintro e w2 ⟨rfl, hb2⟩; rw [HN.out]; obtain ⟨hc2, hf2⟩ := bcell hb2; have hz2 : w1.heap.size < w2.heap.size := (by have := hb2.size; simp at this; omega); have hz2w : w.heap.size < w2.heap.size := (by omega); have hz2p : pb < w2.heap.size := (by omega); have hm2 := mapIs_step (hm1.alloc _) hb2; have HB2 := Lib.hid hb2; clear hb2)
    )
  go_ret
  exact ⟨rfl, below_step (below_alloc (below_step (below_alloc (Below.refl _ _) _) HB1.out) _) HB2.out⟩
set_option maxHeartbeats 1000000 in
theorem make_many (r : RefD) (w : World) (pb b : Nat) (L : List RefD) (h : Tab w pb b L) (hs : r.name.size ≤ maxLen) (hn : nameOk r.name = true) (ht : (getL L r.name).isSome = false) (hl : 40 ≤ L.length) :
    Calls Try.prog 9 #[.pointer (some ⟨pb, 0, none⟩), refV r] w fun e w' => e = .returned (.int .i64 4) ∧ Below w.heap.size w w' := by
  have hp := h.lt
  have hc := h.cell
  have hm := h.map
  have HTb := Lib.hid h
  clear h
  have hbl := hm.lt
  have HN := Lib.hid hn
  clear hn
  have HT := Lib.hid ht
  clear ht
  go_enter Try.func9, Try.ntmps9
  go_wp2_with (first
    | (go_at_call 19; refine (get_some r.name _ pb b L (HTb.out.alloc _) hs).mono ?_; rintro e w1 ⟨rfl, hb1⟩; obtain ⟨hc1, hf1⟩ := bcell hb1; have hz1 : w.heap.size < w1.heap.size := (by have := hb1.size; simp at this; omega); have hz1p : pb < w1.heap.size := (by omega); have hm1 := mapIs_step (hm.alloc _) hb1; have HB1 := Lib.hid hb1; clear hb1; rw [HT.out])
    | (go_at_call 23; refine (ok_some _ _ b (by go_simp)).mono ?_; rintro e w' ⟨rfl, rfl⟩)
    | (go_at_call 21; refine (name16 r.name _ hs).mono ?_; rintro e w2 ⟨rfl, hb2⟩; rw [HN.out]; obtain ⟨hc2, hf2⟩ := bcell hb2; have hz2 : w1.heap.size < w2.heap.size := (by have := hb2.size; simp at this; omega); have hz2w : w.heap.size < w2.heap.size := (by omega); have hz2p : pb < w2.heap.size := (by omega); have hm2 := mapIs_step (hm1.alloc _) hb2; have HB2 := Lib.hid hb2; clear hb2)
    | (at_len; refine wpList_len53 _ rfl _ rfl b L rfl hm2 ?_))
  go_ret
  exact ⟨rfl, below_step (below_alloc (below_step (below_alloc (Below.refl _ _) _) HB1.out) _) HB2.out⟩
set_option maxHeartbeats 1000000 in
theorem make_new (r : RefD) (w : World) (pb b : Nat) (L : List RefD) (h : Tab w pb b L) (hs : r.name.size ≤ maxLen) (hn : nameOk r.name = true) (ht : (getL L r.name).isSome = false) (hl : L.length < 40) :
    Calls Try.prog 9 #[.pointer (some ⟨pb, 0, none⟩), refV r] w fun e w' => e = .returned (.int .i64 0) ∧ MapIs w' b (insL r L) ∧ w.grownBy w' (some b) := by
  have hp := h.lt
  have hc := h.cell
  have hm := h.map
  have HTb := Lib.hid h
  clear h
  have hbl := hm.lt
  have HN := Lib.hid hn
  clear hn
  have hput := put_new (L := L) (r := r) (by simpa using ht)
  have HP := Lib.hid hput
  have HT := Lib.hid ht
  clear ht hput
  go_enter Try.func9, Try.ntmps9
  go_wp2_with (first
    | (go_at_call 19; refine (get_some r.name _ pb b L (HTb.out.alloc _) hs).mono ?_; rintro e w1 ⟨rfl, hb1⟩; obtain ⟨hc1, hf1⟩ := bcell hb1; have hz1 : w.heap.size < w1.heap.size := (by have := hb1.size; simp at this; omega); have hz1p : pb < w1.heap.size := (by omega); have hm1 := mapIs_step (hm.alloc _) hb1; have HB1 := Lib.hid hb1; clear hb1; rw [HT.out])
    | (go_at_call 23; refine (ok_some _ _ b (by go_simp)).mono ?_; rintro e w' ⟨rfl, rfl⟩)
    | (go_at_call 21; refine (name16 r.name _ hs).mono ?_; rintro e w2 ⟨rfl, hb2⟩; rw [HN.out]; obtain ⟨hc2, hf2⟩ := bcell hb2; have hz2 : w1.heap.size < w2.heap.size := (by have := hb2.size; simp at this; omega); have hz2w : w.heap.size < w2.heap.size := (by omega); have hz2p : pb < w2.heap.size := (by omega); have hm2 := mapIs_step (hm1.alloc _) hb2; have HB2 := Lib.hid hb2; clear hb2)
    | (at_len; refine wpList_len53 _ rfl _ rfl b L rfl hm2 ?_))
  go_still_tail 7, (by kernel_rfl)
  refine wpList_put53 _ rfl _ _ _ rfl b L r rfl rfl rfl hs hm2.drew (by unfold maxLen; omega) _ HP.out ?_
  intro w3 hm3 hg3
  have HG := Lib.hid hg3
  clear hg3
  go_wp2
  go_ret
  exact ⟨rfl, hm3, grown_trans' (grown_of_below (below_step (below_alloc (below_step (below_alloc (Below.refl _ _) _) HB1.out) _) HB2.out).drew _) HG.out⟩
theorem make_some (r : RefD) (w : World) (pb b : Nat) (L : List RefD) (h : Tab w pb b L) (hs : r.name.size ≤ maxLen) :
    Calls Try.prog 9 #[.pointer (some ⟨pb, 0, none⟩), refV r] w fun e w' => e = .returned (.int .i64 (makeL L r).1) ∧ MapIs w' b (makeL L r).2 ∧ w.grownBy w' (some b) := by
  by_cases hn : nameOk r.name = true
  · cases ht : (getL L r.name).isSome
    · by_cases hl : L.length < 40
      · have e1 : makeL L r = (0, insL r L) := by
          unfold makeL
          rw [if_neg (by simp [hn]), if_neg (by simp [ht]), if_neg (by omega)]
        rw [e1]
        exact make_new r w pb b L h hs hn ht hl
      · have e1 : makeL L r = (4, L) := by
          unfold makeL
          rw [if_neg (by simp [hn]), if_neg (by simp [ht]), if_pos (by omega)]
        rw [e1]
        exact (make_many r w pb b L h hs hn ht (by omega)).mono fun e w' hh => ⟨hh.1, mapIs_step h.map hh.2, grown_of_below hh.2 _⟩
    · have e1 : makeL L r = (112, L) := by
        unfold makeL
        rw [if_neg (by simp [hn]), if_pos (by simp [ht])]
      rw [e1]
      exact (make_there r w pb b L h hs hn ht).mono fun e w' hh => ⟨hh.1, mapIs_step h.map hh.2, grown_of_below hh.2 _⟩
  · have hn' : nameOk r.name = false := by simpa using hn
    have e1 : makeL L r = (110, L) := by
      unfold makeL
      rw [if_pos hn']
    rw [e1]
    exact (make_bad r w pb b L h hs hn').mono fun e w' hh => ⟨hh.1, mapIs_step h.map hh.2, grown_of_below hh.2 _⟩

set_option maxHeartbeats 1000000 in
theorem make_nil (r : RefD) (w : World) : Calls Try.prog 9 #[.pointer none, refV r] w fun e w' => e = .returned (.int .i64 110) ∧ Below w.heap.size w w' := by
  go_enter Try.func9, Try.ntmps9
  go_wp2_with (first
    | (go_at_call 19; refine (get_nil r.name _).mono ?_; rintro e w1 ⟨rfl, hb1⟩; have hz1 : w.heap.size < w1.heap.size := (by have := hb1.size; simp at this; omega); have HB1 := Lib.hid hb1; clear hb1)
    | (go_at_call 23; refine (ok_nil _).mono ?_; rintro e w' ⟨rfl, rfl⟩))
  go_ret
  exact ⟨rfl, below_alloc (below_step (below_alloc (Below.refl _ _) _) HB1.out) _⟩
end Go.Proofs.Ytpgchdjfeklobaa
