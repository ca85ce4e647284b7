/-
  Walks of the reference's Make and NewTable.
-/
import Derived.Test.YtpgchdjfeklobaaWalkK
namespace Go.Proofs.Ytpgchdjfeklobaa
open Go.RowKit Go.Maps

/-- The first k refs stand before r. -/
def lessTo (L : List RefD) (r : RefD) (k : Nat) : Prop := ∀ x ∈ L.take k, bytesBefore x.key r.key = true
theorem insL_at {r : RefD} : ∀ {L : List RefD} {k : Nat}, lessTo L r k → (∀ x, L[k]? = some x → bytesBefore x.key r.key = false) → insL r L = L.take k ++ ([r] ++ L.drop k)
  | [], k, _, _ => by simp [insL]
  | y :: l, 0, _, h => by
    unfold insL
    rw [if_neg (by rw [h y rfl]; decide)]
    rfl
  | y :: l, k + 1, h0, h => by
    unfold insL
    rw [if_pos (h0 y (by simp)), insL_at (k := k) (fun x hx => h0 x (by simp [hx])) (fun x hx => h x (by simpa using hx))]
    rfl
theorem lessTo_succ {L : List RefD} {r x : RefD} {k : Nat} (h : lessTo L r k) (hx : L[k]? = some x) (hb : bytesBefore x.key r.key = true) : lessTo L r (k + 1) := by
  intro y hy
  rw [List.take_add_one, hx, List.mem_append] at hy
  rcases hy with hy | hy
  · exact h y hy
  · simp at hy; rw [hy]; exact hb
theorem less_iff (x r : RefD) : Op.bytesLess x.name.toList r.name.toList = bytesBefore x.key r.key := by
  rw [less_before, Lib.toList_data, Lib.toList_data]; rfl

theorem refs_new1 (W : World) (r : RefD) : RefsAt (W.alloc (.cells #[.string r.name, .bool r.tag, .int .u64 r.id] 32)) (some ⟨W.heap.size, 0, none⟩) [r] := by
  refine .inr ⟨W.heap.size, 0, rfl, by simp, fun j x hj => ?_⟩
  match j, hj with
  | 0, hj =>
    simp at hj
    subst hj
    simp

set_option maxHeartbeats 2000000 in
theorem rmake_bad (pb : Nat) (r : RefD) (w : World) (hr : r.name.size ≤ maxLen) (hn : nameOk r.name = false) :
    Calls Try.prog 10 #[.pointer (some ⟨pb, 0, none⟩), refV r] w fun e w' => e = .returned (.int .i64 110) ∧ Below w.heap.size w w' := by
  have HN := Lib.hid hn
  clear hn
  go_enter Try.func10, Try.ntmps10
  go_wp2_with (go_at_call 22; refine (name14 r.name _ hr).mono ?_; rintro e w1 ⟨rfl, rfl⟩; rw [HN.out])
  go_ret
  exact ⟨rfl, below_alloc (Below.refl _ _) _⟩
set_option maxHeartbeats 2000000 in
theorem rmake_there (base pb : Nat) (L : List RefD) (r x : RefD) (w : World) (hl : L.length ≤ 40) (hs : ∀ r ∈ L, r.name.size ≤ maxLen) (hr : r.name.size ≤ maxLen) (h : RTab w base pb L) (hn : nameOk r.name = true) (hg : getL L r.name = some x) :
    Calls Try.prog 10 #[.pointer (some ⟨pb, 0, none⟩), refV r] w fun e w' => e = .returned (.int .i64 112) ∧ Below w.heap.size w w' := by
  have hat : atI L r.name = (idx L r.name : Int) := by unfold atI; rw [hg]
  generalize idx L r.name = k at *
  have HA := Lib.hid hat
  have HN := Lib.hid hn
  clear hn hat hg
  go_enter Try.func10, Try.ntmps10
  go_wp2_with (first
    | (go_at_call 22; refine (name14 r.name _ hr).mono ?_; rintro e w1 ⟨rfl, rfl⟩; rw [HN.out])
    | (go_at_call 24; refine (at_any base pb L r.name _ (by unfold maxLen; omega) hs (h.alloc _)).mono ?_; rintro e w1 ⟨rfl, hb1⟩; rw [HA.out]; have HB1 := Lib.hid hb1; clear hb1))
  go_ret
  exact ⟨rfl, below_step (below_alloc (Below.refl _ _) _) HB1.out⟩
set_option maxHeartbeats 2000000 in
theorem rmake_many (base pb : Nat) (L : List RefD) (r : RefD) (w : World) (hl : L.length = 40) (hs : ∀ r ∈ L, r.name.size ≤ maxLen) (hr : r.name.size ≤ maxLen) (h : RTab w base pb L) (hn : nameOk r.name = true) (hg : getL L r.name = none) :
    Calls Try.prog 10 #[.pointer (some ⟨pb, 0, none⟩), refV r] w fun e w' => e = .returned (.int .i64 4) ∧ Below w.heap.size w w' := by
  have hat : atI L r.name = -1 := by unfold atI; rw [hg]
  have HA := Lib.hid hat
  have HN := Lib.hid hn
  have HT := Lib.hid h
  obtain ⟨A, cap, hb, hrow⟩ := h
  have hpl := blk_lt hb
  have hc : w.cell? ⟨pb, 0, none⟩ = some (.slice A 40 cap) := by rw [blk_cell hb, ← hl]; rfl
  have HL := Lib.hid hl
  clear hn hat hg hb hrow hl
  go_enter Try.func10, Try.ntmps10
  go_wp2_with (first
    | (go_at_call 22; refine (name14 r.name _ hr).mono ?_; rintro e w1 ⟨rfl, rfl⟩; rw [HN.out])
    | (go_at_call 24; refine (at_any base pb L r.name _ (by unfold maxLen; rw [HL.out]; omega) hs (HT.out.alloc _)).mono ?_; rintro e w1 ⟨rfl, hb1⟩; rw [HA.out]; obtain ⟨hc1, hf1⟩ := bcell hb1; have HB1 := Lib.hid hb1; clear hb1))
  go_ret
  exact ⟨rfl, below_step (below_alloc (Below.refl _ _) _) HB1.out⟩

set_option maxHeartbeats 4000000 in
theorem rmake_new (base pb : Nat) (L : List RefD) (r : RefD) (w : World) (hl : L.length < 40) (hbw : base ≤ w.heap.size) (hbp : base ≤ pb) (hs : ∀ r ∈ L, r.name.size ≤ maxLen) (hr : r.name.size ≤ maxLen) (h : RTab w base pb L) (hn : nameOk r.name = true) (hg : getL L r.name = none) :
    Calls Try.prog 10 #[.pointer (some ⟨pb, 0, none⟩), refV r] w fun e w' => e = .returned (.int .i64 0) ∧ RTab w' base pb (insL r L) ∧ RKeep base w w' := by
  have hat : atI L r.name = -1 := by unfold atI; rw [hg]
  have HA := Lib.hid hat
  have HN := Lib.hid hn
  have HT := Lib.hid h
  obtain ⟨A, cap, hb, hrow⟩ := h
  have hpl := blk_lt hb
  have hrefs := hrow.refs
  have hc : w.cell? ⟨pb, 0, none⟩ = some (.slice A L.length cap) := by rw [blk_cell hb]; rfl
  have hf : w.frozen? ⟨pb, 0, none⟩ = false := blk_frozen hb
  have hlc : L.length ≤ cap ∧ (A = none → L.length = 0 ∧ cap = 0) ∧ cap ≤ 9223372036854775807 := by
    rcases hrow with ⟨rfl, rfl, rfl⟩ | ⟨g, cur, rfl, _, _, h1, _, h2, _⟩
    · simp
    · exact ⟨h1, by simp, h2⟩
  obtain ⟨hlc, hA0, hcm⟩ := hlc
  clear hn hat hg hrow
  generalize hnl : L.length = n at *
  have HI := Lib.hid (And.intro hb (And.intro hrefs hA0))
  clear hb hrefs hA0
  have HL := Lib.hid hnl
  clear hnl
  go_enter Try.func10, Try.ntmps10
  go_wp2_with (first
    | (go_at_call 22; refine (name14 r.name _ hr).mono ?_; rintro e w1 ⟨rfl, rfl⟩; rw [HN.out])
    | (go_at_call 24; refine (at_any base pb L r.name _ (by unfold maxLen; rw [HL.out]; omega) hs (HT.out.alloc _)).mono ?_; rintro e w1 ⟨rfl, hb1⟩; rw [HA.out]; obtain ⟨hc1, hf1⟩ := bcell hb1; have hz1 : w.heap.size < w1.heap.size := (by have := hb1.size; simp at this; omega); have hz1p : pb < w1.heap.size := (by omega); have HB1 := Lib.hid hb1; clear hb1))
  have hcw : w1.cell? ⟨pb, 0, none⟩ = some (.slice A n cap) := by rw [hc1 _ _ (by simp; omega)]; go_simp
  have hfw : w1.frozen? ⟨pb, 0, none⟩ = false := by rw [hf1 _ _ (by simp; omega)]; go_simp
  have hx0 : w1.cell? ⟨w.heap.size, 0, none⟩ = some (.string r.name) := by rw [hc1 _ _ (by simp)]; go_simp
  have hx1 : w1.cell? ⟨w.heap.size, 1, none⟩ = some (.bool r.tag) := by rw [hc1 _ _ (by simp)]; go_simp
  have hx2 : w1.cell? ⟨w.heap.size, 2, none⟩ = some (.int .u64 r.id) := by rw [hc1 _ _ (by simp)]; go_simp
  have hR1 : RefsAt w1 A L := HI.out.2.1.below (below_step (below_alloc (Below.refl _ _) _) HB1.out)
  have HR1 := Lib.hid hR1
  clear hc1 hf1 hc hf hR1
  go_loopw [5] (fun i W => ∃ k m : Nat, k ≤ n ∧ i = .int .i64 k ∧ lessTo L r k ∧ W = w1.drewN m) (fun i _ => n - (intOf i).toNat)
  case atStart => exact ⟨0, 0, Nat.zero_le _, rfl, by simp [lessTo], rfl⟩
  case round =>
    obtain ⟨k, m, hk, rfl, ht, rfl⟩ := hrel
    have HTo := Lib.hid ht
    clear ht
    by_cases hlt : k < n
    · obtain ⟨g, off, x, hA, hx, c0, c1, c2⟩ := refs_get2 HR1.out (k := k) (by rw [HL.out]; exact hlt)
      have HX := Lib.hid hx
      clear hx
      have hd : decide ((k : Int) < (n : Int)) = true := by simp; omega
      have hd' : decide (k < n) = true := by simp; omega
      cases hls : Op.bytesLess x.name.toList r.name.toList
      · subst hA
        have hno : ∀ y, L[k]? = some y → bytesBefore y.key r.key = false := fun y hy => by
          rw [HX.out] at hy
          cases hy
          rw [← less_iff x r]
          exact hls
        have HNO := Lib.hid hno
        clear hno
        go_wp2
        go_quiet (fail)
        go_wp2
        have q0 : ((w1.drewN m).drewN nq).cell? ⟨pb, 0, none⟩ = some (.slice (some ⟨g, off, none⟩) n cap) := hcw
        have qf : ((w1.drewN m).drewN nq).frozen? ⟨pb, 0, none⟩ = false := hfw
        have q1 : ((w1.drewN m).drewN nq).cell? ⟨w.heap.size, 0, none⟩ = some (.string r.name) := hx0
        have q2 : ((w1.drewN m).drewN nq).cell? ⟨w.heap.size, 1, none⟩ = some (.bool r.tag) := hx1
        have q3 : ((w1.drewN m).drewN nq).cell? ⟨w.heap.size, 2, none⟩ = some (.int .u64 r.id) := hx2
        have qz : w.heap.size < ((w1.drewN m).drewN nq).heap.size := hz1
        have qp : pb < ((w1.drewN m).drewN nq).heap.size := hz1p
        have qR := Lib.hid (show RefsAt ((w1.drewN m).drewN nq) (some ⟨g, off, none⟩) L from HR1.out)
        have qb := Lib.hid (show ((w1.drewN m).drewN nq).heap[pb]? = some (.cells #[.slice (some ⟨g, off, none⟩) n cap] 46 (0, 0)) from ((below_step (below_alloc (Below.refl _ _) _) HB1.out).block pb hpl).trans HI.out.1)
        have qB := Lib.hid (below_drewN (below_drewN (below_step (below_alloc (Below.refl _ _) _) HB1.out) m) nq)
        clear hcw hfw hx0 hx1 hx2 hz1 hz1p HB1 HR1
        generalize (w1.drewN m).drewN nq = W2 at *
        have qs : base ≤ W2.heap.size := by omega
        have s1 := fun W => slice_hm W (some ⟨g, off, none⟩) n cap k (by omega)
        have s2 := fun W => slice_l W (some ⟨g, off, none⟩) n cap k (by omega)
        generalize hB : (if cap = k then (some ⟨g, off, none⟩) else Option.map (fun x : Addr => x.add (k * 3)) (some ⟨g, off, none⟩)) = B at s2
        have hRB := Lib.hid (show RefsAt W2 B (L.drop k) by rw [← hB]; exact refs_drop qR.out (by rw [HL.out]; exact hlc) k)
        clear hB
        have hpos : 0 < n - k := by omega
        go_region_law (first
          | (refine step_append_new _ (by rfl) _ _ (by rfl) (by rfl) base (by simp; omega) (W2.heap.size + 1) (by first | rfl | simp) (some ⟨W2.heap.size, 0, none⟩) 1 1 [r] (by rfl) (refs_new1 W2 r) rfl (by intro h; cases h) B (n - k) (cap - k) (L.drop k) (by rfl) (hRB.out.below (((Below.refl _ _).alloc (Nat.le_refl _) (Obj.cells #[.string r.name, .bool r.tag, .int .u64 r.id] 32)).drew)) (by rw [List.length_drop, HL.out]) (by omega) (by omega) (by omega) ?_; intro c3 W3 hc3 hd3 hrow3 hbel3 hsz3; have hbb3 : Below W2.heap.size W2 W3 := below_step (((Below.refl _ _).alloc (Nat.le_refl _) (Obj.cells #[.string r.name, .bool r.tag, .int .u64 r.id] 32)).drew) hbel3; obtain ⟨hcc3, hff3⟩ := bcell hbb3; have t0 : W3.cell? ⟨pb, 0, none⟩ = some (.slice (some ⟨g, off, none⟩) n cap) := (hcc3 pb 0 qp).trans q0; have tz : base ≤ W3.heap.size := (by have := hbb3.size; omega); clear hcc3 hff3 hbel3; have HR3 := Lib.hid hrow3; have HBB3 := Lib.hid hbb3; clear hrow3 hbb3)
          | (refine step_append_new _ (by rfl) _ _ (by rfl) (by rfl) base (tz) (W3.heap.size) (by first | rfl | simp) (some ⟨g, off, none⟩) k k (L.take k) (by rfl) (refs_take (qR.out.below (HBB3.out)) k) (by rw [List.length_take, HL.out]; omega) (fun h => by have := HI.out.2.2 h; omega) (some ⟨W2.heap.size + 1, 0, none⟩) (1 + (n - k)) c3 ([r] ++ L.drop k) (by rfl) (HR3.out.refs) (by rw [List.length_append, List.length_drop, HL.out]; rfl) (by omega) (by omega) (by omega) ?_; intro c4 W4 hc4 hd4 hrow4 hbel4 hsz4; have hbb : Below W2.heap.size W2 W4 := below_step HBB3.out hbel4; obtain ⟨hcc4, hff4⟩ := bcell hbb; have r0 : W4.cell? ⟨pb, 0, none⟩ = some (.slice (some ⟨g, off, none⟩) n cap) := (hcc4 pb 0 qp).trans q0; have rf : W4.frozen? ⟨pb, 0, none⟩ = false := (hff4 pb 0 qp).trans qf; clear hcc4 hff4 hbel4; have HR4 := Lib.hid hrow4; have HBB := Lib.hid hbb; clear hrow4 hbb))
        all_goals
          go_wp2
          go_ret
          have hb2 : W4.heap[pb]? = _ := (HBB.out.block pb qp).trans qb.out
          refine ⟨rfl, ?_, (RKeep.of_below (below_step qB.out HBB.out)).trans (RKeep.setCell hbp hb2 (.inl rfl) _)⟩
          rw [insL_at HTo.out HNO.out]
          exact rtab_of_store hb2 _ c4 (by simp only [List.length_append, List.length_take, List.length_drop, List.length_cons, List.length_nil, HL.out]; omega) (by have h5 := HR4.out; rw [hsz3] at h5; exact h5)
      · subst hA
        have HLs := Lib.hid (hls.symm.trans (less_iff x r))
        go_wp2
        go_quiet (fail)
        go_wp2
        go_roundw
        case rel => exact ⟨k + 1, _, by omega, by go_num, lessTo_succ HTo.out HX.out HLs.out.symm, rfl⟩
        case measure => simp [intOf]; omega
    · have hd : decide ((k : Int) < (n : Int)) = false := by simp; omega
      have hd' : decide (k < n) = false := by simp; omega
      go_wp2
      go_quiet (fail)
      go_wp2
      have q0 : ((w1.drewN m).drewN nq).cell? ⟨pb, 0, none⟩ = some (.slice (A) n cap) := hcw
      have qf : ((w1.drewN m).drewN nq).frozen? ⟨pb, 0, none⟩ = false := hfw
      have q1 : ((w1.drewN m).drewN nq).cell? ⟨w.heap.size, 0, none⟩ = some (.string r.name) := hx0
      have q2 : ((w1.drewN m).drewN nq).cell? ⟨w.heap.size, 1, none⟩ = some (.bool r.tag) := hx1
      have q3 : ((w1.drewN m).drewN nq).cell? ⟨w.heap.size, 2, none⟩ = some (.int .u64 r.id) := hx2
      have qz : w.heap.size < ((w1.drewN m).drewN nq).heap.size := hz1
      have qp : pb < ((w1.drewN m).drewN nq).heap.size := hz1p
      have qR := Lib.hid (show RefsAt ((w1.drewN m).drewN nq) (A) L from HR1.out)
      have qb := Lib.hid (show ((w1.drewN m).drewN nq).heap[pb]? = some (.cells #[.slice (A) n cap] 46 (0, 0)) from ((below_step (below_alloc (Below.refl _ _) _) HB1.out).block pb hpl).trans HI.out.1)
      have qB := Lib.hid (below_drewN (below_drewN (below_step (below_alloc (Below.refl _ _) _) HB1.out) m) nq)
      clear hcw hfw hx0 hx1 hx2 hz1 hz1p HB1 HR1
      generalize (w1.drewN m).drewN nq = W2 at *
      have qs : base ≤ W2.heap.size := by omega
      have s1 := fun W => slice_hm W (A) n cap k (by omega)
      have s2 := fun W => slice_l W (A) n cap k (by omega)
      generalize hB : (if cap = k then (A) else Option.map (fun x : Addr => x.add (k * 3)) (A)) = B at s2
      have hRB := Lib.hid (show RefsAt W2 B (L.drop k) by rw [← hB]; exact refs_drop qR.out (by rw [HL.out]; exact hlc) k)
      clear hB
      have e0 : n - k = 0 := by omega
      simp only [e0] at s2
      clear e0
      go_region_law (first
        | (refine step_append_zero _ (by rfl) _ _ (by rfl) (by rfl) (some ⟨W2.heap.size, 0, none⟩) 1 1 (by rfl) B (cap - k) (by rfl) (by omega) ?_)
        | (refine step_append_new _ (by rfl) _ _ (by rfl) (by rfl) base (by simp; omega) (W2.heap.size + 1) (by first | rfl | simp) (A) k k (L.take k) (by rfl) (refs_take (qR.out.below (((Below.refl _ _).alloc (Nat.le_refl _) (Obj.cells #[.string r.name, .bool r.tag, .int .u64 r.id] 32)))) k) (by rw [List.length_take, HL.out]; omega) (fun h => by have := HI.out.2.2 h; omega) (some ⟨W2.heap.size, 0, none⟩) (1) 1 ([r]) (by rfl) (refs_new1 W2 r) (rfl) (by omega) (by omega) (by omega) ?_; intro c4 W4 hc4 hd4 hrow4 hbel4 hsz4; have hbb : Below W2.heap.size W2 W4 := below_step (((Below.refl _ _).alloc (Nat.le_refl _) (Obj.cells #[.string r.name, .bool r.tag, .int .u64 r.id] 32)).drew) hbel4; obtain ⟨hcc4, hff4⟩ := bcell hbb; have r0 : W4.cell? ⟨pb, 0, none⟩ = some (.slice (A) n cap) := (hcc4 pb 0 qp).trans q0; have rf : W4.frozen? ⟨pb, 0, none⟩ = false := (hff4 pb 0 qp).trans qf; clear hcc4 hff4 hbel4; have HR4 := Lib.hid hrow4; have HBB := Lib.hid hbb; clear hrow4 hbb))
      all_goals
        go_wp2
        go_ret
        have hb2 : W4.heap[pb]? = _ := (HBB.out.block pb qp).trans qb.out
        refine ⟨rfl, ?_, (RKeep.of_below (below_step qB.out HBB.out)).trans (RKeep.setCell hbp hb2 (.inl rfl) _)⟩
        rw [insL_at HTo.out (fun x hx => by have := (List.getElem?_eq_some_iff.1 hx).1; rw [HL.out] at this; omega)]
        rw [List.drop_eq_nil_of_le (by rw [HL.out]; omega), List.append_nil]
        exact rtab_of_store hb2 _ c4 (by simp only [List.length_append, List.length_take, List.length_cons, List.length_nil, HL.out]; omega) HR4.out
end Go.Proofs.Ytpgchdjfeklobaa
