/-
  Walks: Few and New.
-/
import Derived.Test.YtpgchdjfeklobaaWalkD
namespace Go.Proofs.Ytpgchdjfeklobaa
open Go.RowKit Go.Maps

theorem info32 : (Try.prog.info? 32).map (fun i => (i.zero, i.size, i.bytes)) = some (some (.agg #[.string ByteArray.empty, .bool false, .int .u64 0]), 3, 32) := by kernel_rfl
def few (ls : List RefD) : Bool := ls.all (fun r => decide (r.name.size ≤ 40)) && decide (ls.length ≤ 45)
def fewTo (ls : List RefD) (k : Nat) : Bool := (ls.take k).all (fun r => decide (r.name.size ≤ 40))
theorem fewTo_succ {ls : List RefD} {k : Nat} {r : RefD} (h : ls[k]? = some r) : fewTo ls (k + 1) = (fewTo ls k && decide (r.name.size ≤ 40)) := by
  unfold fewTo
  rw [List.take_add_one, h, List.all_append]
  simp
theorem fewTo_false {ls : List RefD} {k : Nat} {r : RefD} (h : ls[k]? = some r) (hr : ¬ r.name.size ≤ 40) : few ls = false := by
  have : ls.all (fun r => decide (r.name.size ≤ 40)) = false := by
    rw [List.all_eq_false]
    exact ⟨r, List.mem_of_getElem? h, by simpa using hr⟩
  unfold few
  rw [this]; rfl
set_option maxHeartbeats 1000000 in
theorem few_any (A : Option Addr) (cap : Nat) (ls : List RefD) (w : World) (hl : ls.length ≤ maxLen) (hs : ∀ r ∈ ls, r.name.size ≤ maxLen) (h : RefsAt w A ls) :
    Calls Try.prog 6 #[.slice A ls.length cap] w fun e w' => e = .returned (.bool (few ls)) ∧ Below w.heap.size w w' := by
  unfold maxLen at hl hs
  have H := Lib.hid h
  have HS := Lib.hid hs
  clear h hs
  generalize hn : ls.length = n at *
  have HN := Lib.hid hn
  clear hn
  go_enter Try.func6, Try.ntmps6
  go_wp2
  go_loopw [4, 7] (fun _ i W => ∃ k : Nat, k ≤ n ∧ i = .int .i64 k ∧ fewTo ls k = true ∧ Below w.heap.size w W) (fun _ i _ => n - (intOf i).toNat)
  case atStart => exact ⟨0, Nat.zero_le _, rfl, rfl, Below.refl _ _⟩
  case round =>
    obtain ⟨k, hk, rfl, ht, hb⟩ := hrel
    rename_i W
    have HT := Lib.hid ht
    clear ht
    by_cases hlt : k < n
    · obtain ⟨g, off, r, hA, hg, hr, c0, c1, c2⟩ := RefsAt.get (H.out.below hb) (k := k) (by rw [HN.out]; exact hlt)
      subst hA
      have HB := Lib.hid hb
      have HR := Lib.hid hr
      have hrs := HS.out r (List.mem_of_getElem? hr)
      clear hb hr
      go_wp2
      · go_ret
        exact ⟨ret_bool (by rw [fewTo_false HR.out (by omega)]), below_alloc HB.out _⟩
      · go_roundw
        case rel => exact ⟨k + 1, by omega, by go_num, by rw [fewTo_succ HR.out, HT.out]; simp; omega, below_alloc HB.out _⟩
        case measure => simp [intOf]; omega
    · have HB := Lib.hid hb
      clear hb
      go_wp2
      go_ret
      refine ⟨ret_bool ?_, HB.out⟩
      have e1 : k = n := by omega
      have ht := HT.out
      unfold fewTo at ht
      rw [e1, ← HN.out, List.take_length] at ht
      unfold few
      rw [ht, HN.out]
      grind

def newL (ls : List RefD) : List RefD := ls.foldl (fun L r => (makeL L r).2) []
theorem newL_succ {ls : List RefD} {k : Nat} {r : RefD} (h : ls[k]? = some r) : newL (ls.take (k + 1)) = (makeL (newL (ls.take k)) r).2 := by
  unfold newL
  rw [List.take_add_one, h, List.foldl_append]
  rfl
theorem good_newL (ls : List RefD) : Good (newL ls) := by
  unfold newL
  suffices h : ∀ L, Good L → Good (ls.foldl (fun L r => (makeL L r).2) L) from h [] good_nil
  induction ls with
  | nil => intro L h; exact h
  | cons r ls ih => intro L h; exact ih _ (good_make h r)
theorem Tab.grown {w w' : World} {pb b : Nat} {L L' : List RefD} (h : Tab w pb b L) (hm : MapIs w' b L') (hg : w.grownBy w' (some b)) (hne : pb ≠ b) : Tab w' pb b L' :=
  ⟨(hg.block pb h.lt (by simp [hne])).trans h.blk, hm⟩
theorem map_of_made (w : World) : MapIs (w.alloc (.map #[] 0)) w.heap.size [] := World.ownsMap_made w Try.prog 9 refElem
theorem below_grown {w W w' : World} {b : Nat} (h : Below w.heap.size w W) (hg : W.grownBy w' (some b)) (hb : w.heap.size ≤ b) : Below w.heap.size w w' :=
  h.grown hg h.size (fun k e => by cases e; exact hb)

set_option maxHeartbeats 1000000 in
theorem new_any (A : Option Addr) (cap : Nat) (ls : List RefD) (w : World) (hl : ls.length ≤ maxLen) (hs : ∀ r ∈ ls, r.name.size ≤ maxLen) (h : RefsAt w A ls) :
    Calls Try.prog 7 #[.slice A ls.length cap] w fun e w' => e = .returned (.pointer (some ⟨w.heap.size + 1, 0, none⟩)) ∧ Tab w' (w.heap.size + 1) w.heap.size (newL ls) ∧ Below w.heap.size w w' := by
  unfold maxLen at hl
  have H := Lib.hid h
  have HS := Lib.hid hs
  clear h hs
  generalize hn : ls.length = n at *
  have HN := Lib.hid hn
  clear hn
  have hmm := @run_makeMap Try.prog
  go_enter Try.func7, Try.ntmps7
  go_wp2
  go_loopw [6, 14] (fun _ i W => ∃ k : Nat, k ≤ n ∧ i = .int .i64 k ∧ Tab W (w.heap.size + 1) w.heap.size (newL (ls.take k)) ∧ Below w.heap.size w W) (fun _ i _ => n - (intOf i).toNat)
  case atStart =>
    refine ⟨0, Nat.zero_le _, rfl, ⟨?_, (map_of_made w).alloc _⟩, below_alloc (below_alloc (Below.refl _ _) _) _⟩
    have h := heap_alloc_new (w.alloc (.map #[] 0)) (Obj.cells #[.map (some w.heap.size)] 55 (0, 0)); rwa [World.size_alloc] at h
  case round =>
    obtain ⟨k, hk, rfl, ht, hb⟩ := hrel
    by_cases hlt : k < n
    · obtain ⟨g, off, r, hA, hg, hr, c0, c1, c2⟩ := RefsAt.get (H.out.below hb) (k := k) (by rw [HN.out]; exact hlt)
      subst hA
      have HB := Lib.hid hb
      have HR := Lib.hid hr
      have hrs := HS.out r (List.mem_of_getElem? hr)
      clear hb hr
      go_wp2_with (go_at_call 9; refine (make_some r _ _ _ _ (ht.alloc _) hrs).mono ?_; rintro e w1 ⟨rfl, hm1, hg1⟩; have ht1 := Tab.grown (ht.alloc _) hm1 hg1 (by omega); have HG1 := Lib.hid hg1; clear hm1 hg1)
      go_roundw
      case rel => exact ⟨k + 1, by omega, by go_num, by rw [newL_succ HR.out]; exact ht1, below_grown (below_alloc HB.out _) HG1.out (Nat.le_refl _)⟩
      case measure => simp [intOf]; omega
    · have HB := Lib.hid hb
      have e1 : ls.take k = ls := by rw [List.take_of_length_le]; rw [HN.out]; omega
      rw [e1] at ht
      clear hb e1
      go_wp2
      go_ret
      exact ⟨rfl, ht, HB.out⟩
end Go.Proofs.Ytpgchdjfeklobaa
