/-
  Walks: the reference's SameRefs, At and Get.
-/
import Derived.Deep.QuietTactic
import Derived.BigQuiet
import Derived.Deep.RegionHeld3
import Derived.Test.YtpgchdjfeklobaaWalkE
namespace Go.Proofs.Ytpgchdjfeklobaa
open Go.RowKit Go.Maps

/-- The slice value of the refs L, in a row of base's own or later, that may be written. -/
def RowOf (w : World) (base : Nat) (A : Option Addr) (cap : Nat) (L : List RefD) : Prop :=
  (L = [] ∧ A = none ∧ cap = 0) ∨ ∃ (g : Nat) (cur : Array Value), A = some ⟨g, 0, none⟩ ∧ base ≤ g ∧ w.heap[g]? = some (Obj.cells cur 32 (0, 0)) ∧ L.length ≤ cap ∧ cap * 3 ≤ cur.size ∧ cap ≤ maxLen ∧
    ∀ (j : Nat) (r : RefD), L[j]? = some r → cur[j * 3]? = some (Value.string r.name) ∧ cur[j * 3 + 1]? = some (Value.bool r.tag) ∧ cur[j * 3 + 2]? = some (Value.int .u64 r.id)
/-- The reference's table in block pb holds L. -/
def RTab (w : World) (base pb : Nat) (L : List RefD) : Prop := ∃ A cap, w.heap[pb]? = some (.cells #[.slice A L.length cap] 46 (0, 0)) ∧ RowOf w base A cap L
theorem blk_lt {w : World} {g : Nat} {o : Obj} (h : w.heap[g]? = some o) : g < w.heap.size := (Array.getElem?_eq_some_iff.1 h).1
theorem blk_cell {w : World} {g i : Nat} {cs : Array Value} {t : TypeId} {f : Nat × Nat} (h : w.heap[g]? = some (.cells cs t f)) : w.cell? ⟨g, i, none⟩ = cs[i]? := cell_of_row w g i cs t f h
theorem blk_frozen {w : World} {g i : Nat} {cs : Array Value} {t : TypeId} (h : w.heap[g]? = some (.cells cs t (0, 0))) : w.frozen? ⟨g, i, none⟩ = false := by simp [World.frozen?, h]
theorem RowOf.refs {w : World} {base : Nat} {A : Option Addr} {cap : Nat} {L : List RefD} (h : RowOf w base A cap L) : RefsAt w A L := by
  rcases h with ⟨rfl, _⟩ | ⟨g, cur, rfl, _, hg, _, _, _, hc⟩
  · exact .inl rfl
  · refine .inr ⟨g, 0, rfl, blk_lt hg, fun j r hj => ?_⟩
    obtain ⟨h1, h2, h3⟩ := hc j r hj
    refine ⟨?_, ?_, ?_⟩
    · rw [blk_cell hg, Nat.zero_add]; exact h1
    · rw [blk_cell hg, Nat.zero_add]; exact h2
    · rw [blk_cell hg, Nat.zero_add]; exact h3
theorem RowOf.grown {w w' : World} {base : Nat} {A : Option Addr} {cap : Nat} {L : List RefD} {row : Option Nat} (h : RowOf w base A cap L) (hg : w.grownBy w' row) (hne : ∀ g, A = some ⟨g, 0, none⟩ → some g ≠ row) : RowOf w' base A cap L := by
  rcases h with h | ⟨g, cur, rfl, hb, hgb, rest⟩
  · exact .inl h
  · exact .inr ⟨g, cur, rfl, hb, (hg.block g (blk_lt hgb) (hne g rfl)).trans hgb, rest⟩
theorem RTab.grown {w w' : World} {base pb : Nat} {L : List RefD} {row : Option Nat} (h : RTab w base pb L) (hg : w.grownBy w' row) (hne : ∀ k cs t f, row = some k → w.heap[k]? = some (.cells cs t f) → t ≠ 46 ∧ t ≠ 32) : RTab w' base pb L := by
  obtain ⟨A, cap, hb, hr⟩ := h
  refine ⟨A, cap, (hg.block pb (blk_lt hb) (fun e => (hne pb _ _ _ e.symm hb).1 rfl)).trans hb, ?_⟩
  rcases hr with h | ⟨g, cur, rfl, hbg, hgb, rest⟩
  · exact .inl h
  · exact .inr ⟨g, cur, rfl, hbg, (hg.block g (blk_lt hgb) (fun e => (hne g _ _ _ e.symm hgb).2 rfl)).trans hgb, rest⟩
theorem RTab.below {w w' : World} {base pb : Nat} {L : List RefD} (h : RTab w base pb L) (hb : Below w.heap.size w w') : RTab w' base pb L :=
  h.grown (grown_of_below hb none) (fun k cs t f e => by cases e)

theorem below_drewN {B : Nat} {a w : World} (h : Below B a w) (n : Nat) : Below B a (w.drewN n) := ⟨h.os, h.tape, h.output, h.size, h.block⟩
theorem RTab.lt {w : World} {base pb : Nat} {L : List RefD} (h : RTab w base pb L) : pb < w.heap.size := by obtain ⟨A, cap, hb, _⟩ := h; exact blk_lt hb
theorem RTab.alloc {w : World} {base pb : Nat} {L : List RefD} (h : RTab w base pb L) (o : Obj) : RTab (w.alloc o) base pb L := h.below ((Below.refl _ _).alloc (Nat.le_refl _) _)

/-! ### SameRefs -/
def sameTo (a b : List RefD) (k : Nat) : Prop := a.take k = b.take k
theorem refs_get2 {w : World} {A : Option Addr} {ls : List RefD} {k : Nat} (h : RefsAt w A ls) (hk : k < ls.length) : ∃ g off r, A = some ⟨g, off, none⟩ ∧ ls[k]? = some r ∧
    w.cell? ⟨g, off + k * 3, none⟩ = some (.string r.name) ∧ w.cell? ⟨g, off + k * 3 + 1, none⟩ = some (.bool r.tag) ∧ w.cell? ⟨g, off + k * 3 + 2, none⟩ = some (.int .u64 r.id) := by
  obtain ⟨g, off, r, h1, _, h3, h4⟩ := h.get hk
  exact ⟨g, off, r, h1, h3, h4⟩
set_option maxHeartbeats 2000000 in
theorem same_yes (A B : Option Addr) (ca cb : Nat) (L : List RefD) (w : World) (hl : L.length ≤ maxLen) (hA : RefsAt w A L) (hB : RefsAt w B L) :
    Calls Try.prog 16 #[.slice A L.length ca, .slice B L.length cb] w fun e w' => e = .returned (.bool true) ∧ Below w.heap.size w w' := by
  unfold maxLen at hl
  have HA := Lib.hid hA
  have HB := Lib.hid hB
  clear hA hB
  generalize hn : L.length = n at *
  have HN := Lib.hid hn
  clear hn
  go_enter Try.func16, Try.ntmps16
  go_wp2
  go_loopw [5, 13] (fun _ i W => ∃ k : Nat, k ≤ n ∧ i = .int .i64 k ∧ Below w.heap.size w W) (fun _ i _ => n - (intOf i).toNat)
  case atStart => exact ⟨0, Nat.zero_le _, rfl, Below.refl _ _⟩
  case round =>
    obtain ⟨k, hk, rfl, hb⟩ := hrel
    by_cases hlt : k < n
    · obtain ⟨g, off, r, hA, hr, c0, c1, c2⟩ := refs_get2 (HA.out.below hb) (k := k) (by rw [HN.out]; exact hlt)
      obtain ⟨g', off', r', hB, hr', d0, d1, d2⟩ := refs_get2 (HB.out.below hb) (k := k) (by rw [HN.out]; exact hlt)
      subst hA hB
      rw [hr] at hr'
      cases hr'
      have HB' := Lib.hid hb
      clear hb hr
      go_wp2
      go_quiet (fail)
      go_wp2
      go_roundw
      case rel => exact ⟨k + 1, by omega, by go_num, below_drewN HB'.out nq⟩
      case measure => simp [intOf]; omega
    · go_wp2
      go_ret
      exact ⟨rfl, hb⟩

/-! ### At -/
/-- No ref of the first k bears the name s. -/
def noneTo (L : List RefD) (s : ByteArray) (k : Nat) : Prop := ∀ r ∈ L.take k, r.name ≠ s
theorem noneTo_succ {L : List RefD} {s : ByteArray} {k : Nat} {r : RefD} (h : noneTo L s k) (hr : L[k]? = some r) (hn : r.name ≠ s) : noneTo L s (k + 1) := by
  intro x hx
  rw [List.take_add_one, hr, List.mem_append] at hx
  rcases hx with hx | hx
  · exact h x hx
  · simp at hx; rw [hx]; exact hn
theorem getL_of_noneTo {L : List RefD} {s : ByteArray} (h : noneTo L s L.length) : getL L s = none := by
  unfold noneTo at h
  rw [List.take_length] at h
  cases hg : getL L s with
  | none => rfl
  | some r => exact absurd (getL_some hg).2 (h r (getL_some hg).1)
/-- Where the first ref of the name s stands. -/
def idx (L : List RefD) (s : ByteArray) : Nat := L.findIdx fun r => decide (r.name = s)
theorem idx_some {L : List RefD} {s : ByteArray} {r : RefD} (h : getL L s = some r) : L[idx L s]? = some r ∧ idx L s < L.length := by
  induction L with
  | nil => cases h
  | cons x l ih =>
    unfold getL at h
    unfold idx at *
    rw [List.findIdx_cons]
    split at h
    · rename_i e
      cases h
      simp [e]
    · rename_i e
      have := ih h
      refine ⟨?_, by simp [e, this.2]⟩
      simp only [e, decide_false, cond_false, List.getElem?_cons_succ]
      exact this.1
theorem idx_at {L : List RefD} {s : ByteArray} {r : RefD} {k : Nat} (h : noneTo L s k) (hr : L[k]? = some r) (hn : r.name = s) : idx L s = k := by
  have hk : k < L.length := (List.getElem?_eq_some_iff.1 hr).1
  have he : L[k] = r := (List.getElem?_eq_some_iff.1 hr).2
  unfold idx
  rw [List.findIdx_eq hk]
  refine ⟨by simp [he, hn], fun j hj => ?_⟩
  have : L[j] ∈ L.take k := List.mem_take_iff_getElem.2 ⟨j, by omega, rfl⟩
  simpa using h _ this
theorem getL_at_idx {L : List RefD} {s : ByteArray} {r : RefD} {k : Nat} (h : noneTo L s k) (hr : L[k]? = some r) (hn : r.name = s) : getL L s = some r := by
  cases hg : getL L s with
  | none => exact absurd hn (getL_none hg r (List.mem_of_getElem? hr))
  | some x =>
    have h1 := (idx_some hg).1
    rw [idx_at h hr hn, hr] at h1
    exact h1.symm
/-- What At answers. -/
def atI (L : List RefD) (s : ByteArray) : Int := match getL L s with | none => -1 | some _ => idx L s
set_option maxHeartbeats 2000000 in
theorem at_any (base pb : Nat) (L : List RefD) (s : ByteArray) (w : World) (hl : L.length ≤ maxLen) (hs : ∀ r ∈ L, r.name.size ≤ maxLen) (h : RTab w base pb L) :
    Calls Try.prog 24 #[.pointer (some ⟨pb, 0, none⟩), .string s] w fun e w' => e = .returned (.int .i64 (atI L s)) ∧ Below w.heap.size w w' := by
  unfold maxLen at hl
  obtain ⟨A, cap, hb, hr⟩ := h
  have hc : w.cell? ⟨pb, 0, none⟩ = some (.slice A L.length cap) := by rw [blk_cell hb]; rfl
  have HR := Lib.hid hr.refs
  have HS := Lib.hid hs
  clear hr hs hb
  generalize hn : L.length = n at *
  have HN := Lib.hid hn
  clear hn
  go_enter Try.func24, Try.ntmps24
  go_wp2
  go_loopw [5, 6, 12] (fun _ _ i W => ∃ k : Nat, k ≤ n ∧ i = .int .i64 k ∧ noneTo L s k ∧ Below w.heap.size w W) (fun _ _ i _ => n - (intOf i).toNat)
  case atStart => exact ⟨0, Nat.zero_le _, rfl, by simp [noneTo], Below.refl _ _⟩
  case round =>
    obtain ⟨k, hk, rfl, ht, hb⟩ := hrel
    have HT := Lib.hid ht
    clear ht
    by_cases hlt : k < n
    · obtain ⟨g, off, r, hA, hr, c0, c1, c2⟩ := refs_get2 (HR.out.below hb) (k := k) (by rw [HN.out]; exact hlt)
      subst hA
      have HB' := Lib.hid hb
      have HRr := Lib.hid hr
      clear hb hr
      go_wp2
      · have he : r.name = s := by have := ‹(r.name.toList == s.toList) = true›; rw [beq_iff_eq, Lib.toList_data, Lib.toList_data] at this; exact WideShapes.bytes_inj this
        go_ret
        refine ⟨ret_int ?_, below_alloc HB'.out _⟩
        unfold atI
        rw [getL_at_idx HT.out HRr.out he, idx_at HT.out HRr.out he]
      · have he : r.name ≠ s := by rintro rfl; have := ‹(r.name.toList == r.name.toList) = false›; simp at this
        go_roundw
        case rel => exact ⟨k + 1, by omega, by go_num, noneTo_succ HT.out HRr.out he, below_alloc HB'.out _⟩
        case measure => simp [intOf]; omega
    · have HB' := Lib.hid hb
      clear hb
      go_wp2
      go_ret
      have e1 : k = L.length := by rw [HN.out]; omega
      refine ⟨ret_int ?_, HB'.out⟩
      unfold atI
      rw [getL_of_noneTo (e1 ▸ HT.out)]

set_option maxHeartbeats 2000000 in
theorem rget_any (base pb : Nat) (L : List RefD) (s : ByteArray) (w : World) (hl : L.length ≤ maxLen) (hs : ∀ r ∈ L, r.name.size ≤ maxLen) (h : RTab w base pb L) :
    Calls Try.prog 20 #[.pointer (some ⟨pb, 0, none⟩), .string s] w fun e w' => e = .returned (.tuple #[refV ((getL L s).getD zeroR), .bool (getL L s).isSome]) ∧ Below w.heap.size w w' := by
  cases hg : getL L s with
  | none =>
    have hat : atI L s = -1 := by unfold atI; rw [hg]
    have HA := Lib.hid hat
    clear hat hg
    go_enter Try.func20, Try.ntmps20
    go_wp2_with (go_at_call 24; refine (at_any base pb L s _ hl hs (h.alloc _)).mono ?_; rintro e w1 ⟨rfl, hb1⟩; rw [HA.out]; obtain ⟨hc1, hf1⟩ := bcell hb1; have hz1 : w.heap.size < w1.heap.size := (by have := hb1.size; simp at this; omega); have HB1 := Lib.hid hb1; clear hb1)
    refine bodyPost_ret (v := .tuple #[refV zeroR, .bool false]) ?_ rfl ⟨rfl, ?_⟩
    · simp [results, Try.results20, go_sem, zeroR, hc1]
      rfl
    · exact (((below_step (below_alloc (Below.refl _ _) _) HB1.out).setCell (p := ⟨w.heap.size, 0, none⟩) (Nat.le_refl _) _).setCell (p := ⟨w.heap.size, 1, none⟩) (Nat.le_refl _) _).setCell (p := ⟨w.heap.size, 2, none⟩) (Nat.le_refl _) _
  | some r =>
    obtain ⟨hi, hlt⟩ := idx_some hg
    have hat : atI L s = (idx L s : Int) := by unfold atI; rw [hg]
    generalize idx L s = k at *
    have HA := Lib.hid hat
    clear hat hg
    obtain ⟨A, cap, hb, hr⟩ := h
    have hpl := blk_lt hb
    obtain ⟨g, off, r', hA, hgl, hr', c0, c1, c2⟩ := hr.refs.get hlt
    rw [hi] at hr'
    cases hr'
    subst hA
    have hc : w.cell? ⟨pb, 0, none⟩ = some (.slice (some ⟨g, off, none⟩) L.length cap) := by rw [blk_cell hb]; rfl
    have HT := Lib.hid (show RTab w base pb L from ⟨_, cap, hb, hr⟩)
    clear hb hr hi
    unfold maxLen at hl
    generalize hn : L.length = n at *
    have HN := Lib.hid hn
    clear hn
    go_enter Try.func20, Try.ntmps20
    go_wp2_with (go_at_call 24; refine (at_any base pb L s _ (by unfold maxLen; rw [HN.out]; omega) hs (HT.out.alloc _)).mono ?_; rintro e w1 ⟨rfl, hb1⟩; rw [HA.out]; obtain ⟨hc1, hf1⟩ := bcell hb1; have hz1 : w.heap.size < w1.heap.size := (by have := hb1.size; simp at this; omega); have hz1p : pb < w1.heap.size := (by omega); have HB1 := Lib.hid hb1; clear hb1)
    refine bodyPost_ret (v := .tuple #[refV r, .bool true]) ?_ rfl ⟨rfl, ?_⟩
    · simp [results, Try.results20, go_sem, hc1]
    · exact (((below_step (below_alloc (Below.refl _ _) _) HB1.out).setCell (p := ⟨w.heap.size, 0, none⟩) (Nat.le_refl _) _).setCell (p := ⟨w.heap.size, 1, none⟩) (Nat.le_refl _) _).setCell (p := ⟨w.heap.size, 2, none⟩) (Nat.le_refl _) _
end Go.Proofs.Ytpgchdjfeklobaa
