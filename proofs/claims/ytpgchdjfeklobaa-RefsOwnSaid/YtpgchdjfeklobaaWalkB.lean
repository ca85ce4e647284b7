/-
  Walks: the table's ok, Get and Len.
-/
import Derived.Test.YtpgchdjfeklobaaWalkA
namespace Go.Proofs.Ytpgchdjfeklobaa
open Go.RowKit Go.Maps

theorem neq53 (b : Option Nat) (W : World) : (binOp .neq 53 (.map b) (.map none)).run Try.prog W = .ok (.bool (!b.isNone)) W := run_neq_map_nil W 53 9 32 b Try.underlying53
theorem ok_nil (w : World) : Calls Try.prog 23 #[.pointer none] w fun e w' => e = .returned (.bool false) ∧ w = w' := by
  go_enter Try.func23, Try.ntmps23
  go_wp2
  go_ret
  exact ⟨rfl, rfl⟩
theorem ok_some (w : World) (p : Addr) (b : Nat) (hc : w.cell? p = some (.map (some b))) : Calls Try.prog 23 #[.pointer (some p)] w fun e w' => e = .returned (.bool true) ∧ w = w' := by
  have hn := neq53 (some b)
  go_enter Try.func23, Try.ntmps23
  go_wp2
  go_ret
  exact ⟨rfl, rfl⟩

/-- The table in block pb holds L: its cell leads to the map's block b. -/
structure Tab (w : World) (pb b : Nat) (L : List RefD) : Prop where
  blk : w.heap[pb]? = some (.cells #[.map (some b)] 55 (0, 0))
  map : MapIs w b L
theorem Tab.lt {w : World} {pb b : Nat} {L : List RefD} (h : Tab w pb b L) : pb < w.heap.size := (Array.getElem?_eq_some_iff.1 h.blk).1
theorem Tab.cell {w : World} {pb b : Nat} {L : List RefD} (h : Tab w pb b L) : w.cell? ⟨pb, 0, none⟩ = some (.map (some b)) := by
  rw [cell_of_row w pb 0 _ _ _ h.blk]; rfl
theorem Tab.alloc {w : World} {pb b : Nat} {L : List RefD} (h : Tab w pb b L) (o : Obj) : Tab (w.alloc o) pb b L :=
  ⟨(heap_alloc_old w o h.lt).trans h.blk, h.map.alloc o⟩
theorem Tab.below {w w' : World} {pb b B : Nat} {L : List RefD} (h : Tab w pb b L) (hb : Below B w w') (h1 : pb < B) (h2 : b < B) : Tab w' pb b L :=
  ⟨(hb.block pb h1).trans h.blk, h.map.below hb h2⟩

theorem get_nil (s : ByteArray) (w : World) : Calls Try.prog 19 #[.pointer none, .string s] w fun e w' => e = .returned (.tuple #[refV zeroR, .bool false]) ∧ Below w.heap.size w w' := by
  go_enter Try.func19, Try.ntmps19
  go_wp2_with (go_at_call 23; refine (ok_nil _).mono ?_; rintro e w' ⟨rfl, rfl⟩)
  refine bodyPost_ret (v := .tuple #[refV zeroR, .bool false]) (by simp [results, Try.results19, go_sem, zeroR]; rfl) rfl ⟨rfl, ?_⟩
  exact (Below.refl _ _).alloc (Nat.le_refl _) _
theorem get_some (s : ByteArray) (w : World) (pb b : Nat) (L : List RefD) (h : Tab w pb b L) (hs : s.size ≤ maxLen) : Calls Try.prog 19 #[.pointer (some ⟨pb, 0, none⟩), .string s] w fun e w' =>
    e = .returned (.tuple #[refV ((getL L s).getD zeroR), .bool (getL L s).isSome]) ∧ Below w.heap.size w w' := by
  have hp := h.lt
  have hc := h.cell
  have hm := h.map
  clear h
  generalize hr : (getL L s).getD zeroR = r
  generalize ht : (getL L s).isSome = t
  have HR := Lib.hid hr
  have HT := Lib.hid ht
  clear hr ht
  go_enter Try.func19, Try.ntmps19
  go_wp2_with (first
    | (go_at_call 23; refine (ok_some _ _ b (by go_simp)).mono ?_; rintro e w' ⟨rfl, rfl⟩)
    | (at_lookup; refine wpList_look53 _ rfl _ _ rfl b L s rfl rfl hs (hm.alloc _) r t HR.out HT.out ?_))
  refine bodyPost_ret (v := .tuple #[refV r, .bool t]) (by simp [results, Try.results19, go_sem]) rfl ⟨rfl, ?_⟩
  exact ((Below.refl _ _).alloc (Nat.le_refl _) _).alloc (by simp) _
theorem len_nil (w : World) : Calls Try.prog 18 #[.pointer none] w fun e w' => e = .returned (.int .i64 0) ∧ w = w' := by
  go_enter Try.func18, Try.ntmps18
  go_wp2_with (go_at_call 23; refine (ok_nil _).mono ?_; rintro e w' ⟨rfl, rfl⟩)
  go_ret
  exact ⟨rfl, rfl⟩
theorem len_some (w : World) (pb b : Nat) (L : List RefD) (h : Tab w pb b L) : Calls Try.prog 18 #[.pointer (some ⟨pb, 0, none⟩)] w fun e w' => e = .returned (.int .i64 L.length) ∧ w = w' := by
  have hp := h.lt
  have hc := h.cell
  have hm := h.map
  clear h
  go_enter Try.func18, Try.ntmps18
  go_wp2_with (first
    | (go_at_call 23; refine (ok_some _ _ b (by go_simp)).mono ?_; rintro e w' ⟨rfl, rfl⟩)
    | (at_len; refine wpList_len53 _ rfl _ rfl b L rfl hm ?_))
  go_ret
  exact ⟨rfl, rfl⟩
end Go.Proofs.Ytpgchdjfeklobaa
