/-
  Walks of NewTable, the example, and what a table that nobody made tells.
-/
import Derived.Test.YtpgchdjfeklobaaWalkL
import Derived.Test.YtpgchdjfeklobaaWalkH
namespace Go.Proofs.Ytpgchdjfeklobaa
open Go.RowKit Go.Maps Go.Shelf Go.Sort
attribute [local go_sem] Oper.semAt_some

theorem Good.sizes {L : List RefD} (h : Good L) : ∀ r ∈ L, r.name.size ≤ maxLen := fun r hr => by
  have := nameOk_size (h.names r hr); unfold maxLen; omega
theorem rmake_any (base pb : Nat) (L : List RefD) (r : RefD) (w : World) (hL : Good L) (hbw : base ≤ w.heap.size) (hbp : base ≤ pb) (hr : r.name.size ≤ maxLen) (h : RTab w base pb L) :
    Calls Try.prog 10 #[.pointer (some ⟨pb, 0, none⟩), refV r] w fun e w' => e = .returned (.int .i64 (makeL L r).1) ∧ RTab w' base pb (makeL L r).2 ∧ RKeep base w w' := by
  have hs := hL.sizes
  have hl := hL.few
  by_cases hn : nameOk r.name = true
  · cases hg : getL L r.name with
    | none =>
      by_cases hl4 : L.length < 40
      · have e1 : makeL L r = (0, insL r L) := by
          unfold makeL
          rw [if_neg (by simp [hn]), if_neg (by simp [hg]), if_neg (by omega)]
        rw [e1]
        exact rmake_new base pb L r w hl4 hbw hbp hs hr h hn hg
      · have e1 : makeL L r = (4, L) := by
          unfold makeL
          rw [if_neg (by simp [hn]), if_neg (by simp [hg]), if_pos (by omega)]
        rw [e1]
        exact (rmake_many base pb L r w (by omega) hs hr h hn hg).mono fun e w' hh => ⟨hh.1, h.below hh.2, RKeep.of_below hh.2⟩
    | some x =>
      have e1 : makeL L r = (112, L) := by
        unfold makeL
        rw [if_neg (by simp [hn]), if_pos (by simp [hg])]
      rw [e1]
      exact (rmake_there base pb L r x w hl hs hr h hn hg).mono fun e w' hh => ⟨hh.1, h.below hh.2, RKeep.of_below hh.2⟩
  · have hn' : nameOk r.name = false := by simpa using hn
    have e1 : makeL L r = (110, L) := by
      unfold makeL
      rw [if_pos hn']
    rw [e1]
    exact (rmake_bad pb r w hr hn').mono fun e w' hh => ⟨hh.1, h.below hh.2, RKeep.of_below hh.2⟩
theorem rset_any (base pb : Nat) (L : List RefD) (s : ByteArray) (old id : Int) (w : World) (hL : Good L) (h : RTab w base pb L) :
    Calls Try.prog 12 #[.pointer (some ⟨pb, 0, none⟩), .string s, .int .u64 old, .int .u64 id] w fun e w' => e = .returned (.int .i64 (setL L s old id).1) ∧ RTab w' base pb (setL L s old id).2 ∧ RKeep base w w' := by
  have hl := hL.few
  cases hg : getL L s with
  | none =>
    have e1 : setL L s old id = (111, L) := by unfold setL; rw [hg]
    rw [e1]
    exact (rset_none base pb L s old id w (by unfold maxLen; omega) hL.sizes h hg).mono fun e w' hh => ⟨hh.1, h.below hh.2, RKeep.of_below hh.2⟩
  | some r => exact rset_some base pb L s old id r w (by unfold maxLen; omega) hL.sizes hL.rising h hg
theorem rdrop_any (base pb : Nat) (L : List RefD) (s : ByteArray) (w : World) (hL : Good L) (hbw : base ≤ w.heap.size) (hbp : base ≤ pb) (h : RTab w base pb L) :
    Calls Try.prog 14 #[.pointer (some ⟨pb, 0, none⟩), .string s] w fun e w' => e = .returned (.int .i64 (dropL L s).1) ∧ RTab w' base pb (dropL L s).2 ∧ RKeep base w w' := by
  have hl := hL.few
  cases hg : getL L s with
  | none =>
    have e1 : dropL L s = (111, L) := by unfold dropL; rw [hg]
    rw [e1]
    exact (rdrop_none base pb L s w (by unfold maxLen; omega) hL.sizes h hg).mono fun e w' hh => ⟨hh.1, h.below hh.2, RKeep.of_below hh.2⟩
  | some r =>
    have e1 : dropL L s = (0, L.filter fun x => !decide (x.name = s)) := by unfold dropL; rw [hg]
    rw [e1]
    exact rdrop_some base pb L s r w hl hbw hbp hL.sizes hL.rising h hg

set_option maxHeartbeats 1000000 in
theorem newtable_any (A : Option Addr) (cap : Nat) (ls : List RefD) (w : World) (hl : ls.length ≤ maxLen) (hs : ∀ r ∈ ls, r.name.size ≤ maxLen) (h : RefsAt w A ls) :
    Calls Try.prog 8 #[.slice A ls.length cap] w fun e w' => e = .returned (.pointer (some ⟨w.heap.size, 0, none⟩)) ∧ RTab w' w.heap.size w.heap.size (newL ls) ∧ Below w.heap.size w w' := by
  unfold maxLen at hl
  have H := Lib.hid h
  have HS := Lib.hid hs
  clear h hs
  generalize hn : ls.length = n at *
  have HN := Lib.hid hn
  clear hn
  go_enter Try.func8, Try.ntmps8
  go_wp2
  go_loopw [5, 10] (fun _ i W => ∃ k : Nat, k ≤ n ∧ i = .int .i64 k ∧ RTab W w.heap.size w.heap.size (newL (ls.take k)) ∧ Below w.heap.size w W) (fun _ i _ => n - (intOf i).toNat)
  case atStart =>
    refine ⟨0, Nat.zero_le _, rfl, ⟨none, 0, ?_, .inl ⟨rfl, rfl, rfl⟩⟩, below_alloc (Below.refl _ _) _⟩
    exact heap_alloc_new w _
  case round =>
    obtain ⟨k, hk, rfl, ht, hb⟩ := hrel
    by_cases hlt : k < n
    · obtain ⟨g, off, r, hA, hg, hr, c0, c1, c2⟩ := RefsAt.get (H.out.below hb) (k := k) (by rw [HN.out]; exact hlt)
      subst hA
      have HB := Lib.hid hb
      have HR := Lib.hid hr
      have hrs := HS.out r (List.mem_of_getElem? hr)
      have hbs := hb.size
      clear hb hr
      go_wp2_with (go_at_call 10; refine (rmake_any w.heap.size w.heap.size _ r _ (good_newL _) (by simp; omega) (Nat.le_refl _) hrs (ht.alloc _)).mono ?_; rintro e w1 ⟨rfl, hm1, hk1⟩; have HK1 := Lib.hid hk1; clear hk1)
      go_roundw
      case rel => exact ⟨k + 1, by omega, by go_num, by rw [newL_succ HR.out]; exact hm1, RKeep.below (below_alloc HB.out _) HK1.out (by simp; omega)⟩
      case measure => simp [intOf]; omega
    · have HB := Lib.hid hb
      have e1 : ls.take k = ls := by rw [List.take_of_length_le]; rw [HN.out]; omega
      rw [e1] at ht
      clear hb e1
      go_wp2
      go_ret
      exact ⟨rfl, ht, HB.out⟩

/-! ### the example -/
abbrev nameA : ByteArray := ⟨#[97]⟩
abbrev refA : RefD := ⟨nameA, false, 0⟩
theorem awake1 : makeL (newL []) refA = (0, [refA]) := by kernel_rfl
theorem awake2 : makeL [refA] refA = (112, [refA]) := by kernel_rfl
theorem awake3 : nameOk ⟨#[97, 45, 49]⟩ = true := by decide +kernel
set_option maxHeartbeats 1000000 in
theorem awake_any (w : World) : Calls Try.prog 5 #[] w fun e w' => e = .returned (.bool true) ∧ Below w.heap.size w w' := by
  have hsz : nameA.size ≤ maxLen := by unfold maxLen; decide
  go_enter Try.func5, Try.ntmps5
  go_wp2_with (go_at_call 7; refine (new_any none 0 [] w (by simp) (by simp) (RefsAt.nil _ _)).mono ?_; rintro e w1 ⟨rfl, hT1, hb1⟩)
  go_wp2_with fail
  refine (make_some refA w1 _ _ _ hT1 hsz).mono ?_
  rintro e w2 ⟨rfl, hm2, hg2⟩
  rw [awake1] at hm2 ⊢
  have hT2 := Tab.grown hT1 hm2 hg2 (by omega)
  go_wp2_with fail
  refine (make_some refA w2 _ _ _ hT2 hsz).mono ?_
  rintro e w3 ⟨rfl, hm3, hg3⟩
  rw [awake2] at hm3 ⊢
  go_wp2_with fail
  refine (name16 ⟨#[97, 45, 49]⟩ w3 (by unfold maxLen; decide)).mono ?_
  rintro e w4 ⟨rfl, hb4⟩
  rw [awake3]
  go_wp2
  go_ret
  exact ⟨rfl, below_step (below_grown (below_grown hb1 hg2 (Nat.le_refl _)) hg3 (Nat.le_refl _)) hb4⟩
end Go.Proofs.Ytpgchdjfeklobaa
