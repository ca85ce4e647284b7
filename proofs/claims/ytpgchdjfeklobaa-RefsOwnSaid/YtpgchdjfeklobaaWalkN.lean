/-
  The deeds of the law of refs; what a round of the law keeps.
-/
import Derived.Deep.RegionHeld3
import Derived.Deep.DeepCutAuto
import Derived.Deep.CutRange
import Derived.Deep.CutBlock
import Derived.Test.YtpgchdjfeklobaaWalkM
namespace Go.Proofs.Ytpgchdjfeklobaa
open Go.RowKit Go.Maps Go.Shelf Go.Sort

theorem told_refs (w : World) (pb b : Nat) (L : List RefD) (h : Tab w pb b L) (hL : Good L) :
    Calls Try.prog 17 #[.pointer (some ⟨pb, 0, none⟩)] w fun e w' => ∃ A cap, e = .returned (.slice A L.length cap) ∧ RefsAt w' A L ∧ Below w.heap.size w w' := by
  refine (told_some w pb b L h hL).mono ?_
  rintro e w' ⟨v, rfl, ho, hb⟩
  obtain ⟨hlen, ho⟩ := ho
  rcases ho with ⟨rfl, h0⟩ | ⟨g, cap, cur, rfl, hg, hw, hn, hm, hs, ht⟩
  · have e0 : L = [] := List.eq_nil_of_length_eq_zero h0
    subst e0
    exact ⟨none, 0, rfl, RefsAt.nil _ _, hb⟩
  · refine ⟨_, _, rfl, .inr ⟨g, 0, rfl, blk_lt hw, fun j r hj => ?_⟩, hb⟩
    obtain ⟨h1, h2, h3⟩ := flat_at hj
    have hjl : j < L.length := (List.getElem?_eq_some_iff.1 hj).1
    have e : ∀ i v, i < 3 → (L.flatMap refCs)[j * 3 + i]? = some v → w'.cell? ⟨g, 0 + j * 3 + i, none⟩ = some v := by
      intro i v hi hv
      rw [blk_cell hw, Nat.zero_add]
      rw [← ht, List.getElem?_take] at hv
      rw [if_pos (by omega)] at hv
      simpa using hv
    exact ⟨e 0 _ (by omega) h1, e 1 _ (by omega) h2, e 2 _ (by omega) h3⟩

structure DeedD where
  kind : Int
  r : RefD
  old : Int
/-- The slice at A holds the deeds ds, five cells each. -/
def DeedsAt (w : World) (A : Option Addr) (ds : List DeedD) : Prop :=
  ds = [] ∨ ∃ g off, A = some ⟨g, off, none⟩ ∧ g < w.heap.size ∧ ∀ j d, ds[j]? = some d →
    w.cell? ⟨g, off + j * 5, none⟩ = some (.int .i64 d.kind) ∧ w.cell? ⟨g, off + j * 5 + 1, none⟩ = some (.string d.r.name) ∧ w.cell? ⟨g, off + j * 5 + 2, none⟩ = some (.bool d.r.tag) ∧
    w.cell? ⟨g, off + j * 5 + 3, none⟩ = some (.int .u64 d.r.id) ∧ w.cell? ⟨g, off + j * 5 + 4, none⟩ = some (.int .u64 d.old)
theorem DeedsAt.get {w : World} {A : Option Addr} {ds : List DeedD} {k : Nat} (h : DeedsAt w A ds) (hk : k < ds.length) : ∃ g off d, A = some ⟨g, off, none⟩ ∧ g < w.heap.size ∧ ds[k]? = some d ∧
    w.cell? ⟨g, off + k * 5, none⟩ = some (.int .i64 d.kind) ∧ w.cell? ⟨g, off + k * 5 + 1, none⟩ = some (.string d.r.name) ∧ w.cell? ⟨g, off + k * 5 + 2, none⟩ = some (.bool d.r.tag) ∧
    w.cell? ⟨g, off + k * 5 + 3, none⟩ = some (.int .u64 d.r.id) ∧ w.cell? ⟨g, off + k * 5 + 4, none⟩ = some (.int .u64 d.old) := by
  rcases h with rfl | ⟨g, off, e, hg, hc⟩
  · simp at hk
  · exact ⟨g, off, ds[k], e, hg, List.getElem?_eq_getElem hk, hc k _ (List.getElem?_eq_getElem hk)⟩
theorem DeedsAt.below {w w' : World} {A : Option Addr} {ds : List DeedD} (h : DeedsAt w A ds) (hb : Below w.heap.size w w') : DeedsAt w' A ds := by
  rcases h with rfl | ⟨g, off, e, hg, hc⟩
  · exact .inl rfl
  · exact .inr ⟨g, off, e, Nat.lt_of_lt_of_le hg hb.size, fun j r hj => by
      have e1 : ∀ i, w'.cell? ⟨g, i, none⟩ = w.cell? ⟨g, i, none⟩ := fun i => hb.cell (p := ⟨g, _, none⟩) hg
      simp only [e1]
      exact hc j r hj⟩

theorem map_no_cells {w : World} {pb b : Nat} {L : List RefD} (h : Tab w pb b L) {cs : Array Value} {t : TypeId} {f : Nat × Nat} : w.heap[b]? ≠ some (Obj.cells cs t f) := by
  intro hk
  obtain ⟨es, clock, hb, _⟩ := h.map
  rw [hb] at hk
  cases hk
/-- The program's table stays while the reference's call works. -/
theorem Tab.rkeep {w w' : World} {base pb b : Nat} {L : List RefD} (h : Tab w pb b L) (k : RKeep base w w') : Tab w' pb b L := by
  refine ⟨(k.block pb h.lt (.inr fun cs t f e => ?_)).trans h.blk, ?_⟩
  · rw [h.blk] at e
    cases e
    exact ⟨by decide, by decide⟩
  · have hm := h.map.lt
    have hn := @map_no_cells _ _ _ _ h
    obtain ⟨es, clock, hb, r⟩ := h.map
    exact ⟨es, clock, (k.block b hm (.inr fun cs t f e => (hn e).elim)).trans hb, r⟩
/-- The reference's table stays while the program's call works. -/
theorem RTab.tgrown {w w' : World} {base rb pb b : Nat} {L M : List RefD} (h : RTab w base rb M) (ht : Tab w pb b L) (hg : w.grownBy w' (some b)) : RTab w' base rb M :=
  h.grown hg (fun k cs t f e hk => by cases e; exact (map_no_cells ht hk).elim)
theorem box_grown {w w' : World} {pb b g : Nat} {L : List RefD} {cs : Array Value} (hb : w.heap[g]? = some (.cells cs 34 (0, 0))) (ht : Tab w pb b L) (hg : w.grownBy w' (some b)) : w'.heap[g]? = some (.cells cs 34 (0, 0)) :=
  (hg.block g (blk_lt hb) (fun e => by cases e; exact map_no_cells ht hb)).trans hb
theorem box_rkeep {w w' : World} {base g : Nat} {cs : Array Value} (hb : w.heap[g]? = some (.cells cs 34 (0, 0))) (hg : RKeep base w w') : w'.heap[g]? = some (.cells cs 34 (0, 0)) :=
  (hg.block g (blk_lt hb) (.inr fun _ t f e => by rw [hb] at e; cases e; exact ⟨by decide, by decide⟩)).trans hb
theorem Tab.drew {w : World} {pb b : Nat} {L : List RefD} (h : Tab w pb b L) : Tab w.drew pb b L := ⟨h.blk, h.map⟩
theorem RTab.drew {w : World} {base pb : Nat} {L : List RefD} (h : RTab w base pb L) : RTab w.drew base pb L := h

/-- What stands between two deeds and within one: the program's table holds L, the reference's M. -/
structure Both (w : World) (base pb b : Nat) (L M : List RefD) (W : World) : Prop where
  tab : Tab W pb b L
  rtab : RTab W base base M
  below : Below w.heap.size w W
  lo : w.heap.size ≤ b
  base : w.heap.size ≤ base
theorem Both.alloc {w W : World} {base pb b : Nat} {L M : List RefD} (h : Both w base pb b L M W) (o : Obj) : Both w base pb b L M (W.alloc o) :=
  ⟨h.tab.alloc o, h.rtab.alloc o, below_alloc h.below o, h.lo, h.base⟩
theorem Both.drew {w W : World} {base pb b : Nat} {L M : List RefD} (h : Both w base pb b L M W) : Both w base pb b L M W.drew :=
  ⟨h.tab.drew, h.rtab.drew, h.below.drew, h.lo, h.base⟩
theorem Both.step {w W W' : World} {base pb b : Nat} {L M : List RefD} (h : Both w base pb b L M W) (hb : Below W.heap.size W W') : Both w base pb b L M W' :=
  ⟨h.tab.below hb h.tab.lt h.tab.map.lt, h.rtab.below hb, below_step h.below hb, h.lo, h.base⟩
theorem Both.grown {w W W' : World} {base pb b : Nat} {L M L' : List RefD} (h : Both w base pb b L M W) (hm : MapIs W' b L') (hg : W.grownBy W' (some b)) : Both w base pb b L' M W' :=
  ⟨h.tab.grown hm hg (fun e => by have := h.tab.blk; rw [e] at this; exact map_no_cells h.tab this), h.rtab.tgrown h.tab hg, below_grown h.below hg h.lo, h.lo, h.base⟩
theorem Both.rkeep {w W W' : World} {base pb b : Nat} {L M M' : List RefD} (h : Both w base pb b L M W) (hm : RTab W' base base M') (hk : RKeep base W W') : Both w base pb b L M' W' :=
  ⟨h.tab.rkeep hk, hm, ⟨hk.os.trans h.below.os, hk.tape.trans h.below.tape, hk.output.trans h.below.output, Nat.le_trans h.below.size hk.size, fun i hi => (hk.block i (Nat.lt_of_lt_of_le hi h.below.size) (.inl (Nat.lt_of_lt_of_le hi h.base))).trans (h.below.block i hi)⟩, h.lo, h.base⟩
/-- The blocks of deeds stay. -/
def KeepBox (W W' : World) : Prop := ∀ (g : Nat) (cs : Array Value), W.heap[g]? = some (.cells cs 34 (0, 0)) → W'.heap[g]? = some (.cells cs 34 (0, 0))

section
variable {w W : World} {base pb b : Nat} {L M : List RefD}
theorem make_both (r : RefD) (h : Both w base pb b L M W) (hr : r.name.size ≤ maxLen) :
    Calls Try.prog 9 #[.pointer (some ⟨pb, 0, none⟩), refV r] W fun e W' => e = .returned (.int .i64 (makeL L r).1) ∧ Both w base pb b (makeL L r).2 M W' ∧ KeepBox W W' :=
  (make_some r W pb b L h.tab hr).mono fun _ _ hh => ⟨hh.1, h.grown hh.2.1 hh.2.2, fun _ _ hb => box_grown hb h.tab hh.2.2⟩
theorem set_both (s : ByteArray) (old id : Int) (h : Both w base pb b L M W) (hL : Good L) (hs : s.size ≤ maxLen) :
    Calls Try.prog 11 #[.pointer (some ⟨pb, 0, none⟩), .string s, .int .u64 old, .int .u64 id] W fun e W' => e = .returned (.int .i64 (setL L s old id).1) ∧ Both w base pb b (setL L s old id).2 M W' ∧ KeepBox W W' :=
  (set_some s old id W pb b L h.tab hs hL).mono fun _ _ hh => ⟨hh.1, h.grown hh.2.1 hh.2.2, fun _ _ hb => box_grown hb h.tab hh.2.2⟩
theorem drop_both (s : ByteArray) (h : Both w base pb b L M W) (hs : s.size ≤ maxLen) :
    Calls Try.prog 13 #[.pointer (some ⟨pb, 0, none⟩), .string s] W fun e W' => e = .returned (.int .i64 (dropL L s).1) ∧ Both w base pb b (dropL L s).2 M W' ∧ KeepBox W W' :=
  (drop_some s W pb b L h.tab hs).mono fun _ _ hh => ⟨hh.1, h.grown hh.2.1 hh.2.2, fun _ _ hb => box_grown hb h.tab hh.2.2⟩
theorem rmake_both (r : RefD) (h : Both w base pb b L M W) (hM : Good M) (hr : r.name.size ≤ maxLen) :
    Calls Try.prog 10 #[.pointer (some ⟨base, 0, none⟩), refV r] W fun e W' => e = .returned (.int .i64 (makeL M r).1) ∧ Both w base pb b L (makeL M r).2 W' ∧ KeepBox W W' :=
  (rmake_any base base M r W hM (Nat.le_of_lt h.rtab.lt) (Nat.le_refl _) hr h.rtab).mono fun _ _ hh => ⟨hh.1, h.rkeep hh.2.1 hh.2.2, fun _ _ hb => box_rkeep hb hh.2.2⟩
theorem rset_both (s : ByteArray) (old id : Int) (h : Both w base pb b L M W) (hM : Good M) :
    Calls Try.prog 12 #[.pointer (some ⟨base, 0, none⟩), .string s, .int .u64 old, .int .u64 id] W fun e W' => e = .returned (.int .i64 (setL M s old id).1) ∧ Both w base pb b L (setL M s old id).2 W' ∧ KeepBox W W' :=
  (rset_any base base M s old id W hM h.rtab).mono fun _ _ hh => ⟨hh.1, h.rkeep hh.2.1 hh.2.2, fun _ _ hb => box_rkeep hb hh.2.2⟩
theorem rdrop_both (s : ByteArray) (h : Both w base pb b L M W) (hM : Good M) :
    Calls Try.prog 14 #[.pointer (some ⟨base, 0, none⟩), .string s] W fun e W' => e = .returned (.int .i64 (dropL M s).1) ∧ Both w base pb b L (dropL M s).2 W' ∧ KeepBox W W' :=
  (rdrop_any base base M s W hM (Nat.le_of_lt h.rtab.lt) (Nat.le_refl _) h.rtab).mono fun _ _ hh => ⟨hh.1, h.rkeep hh.2.1 hh.2.2, fun _ _ hb => box_rkeep hb hh.2.2⟩
end
end Go.Proofs.Ytpgchdjfeklobaa
