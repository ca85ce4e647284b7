/-
  Walk of the law of refs: RefsOwn.
-/
import Derived.Test.YtpgchdjfeklobaaWalkQ
namespace Go.Proofs.Ytpgchdjfeklobaa
open Go.RowKit Go.Maps Go.Shelf Go.Sort

theorem RefsAt.tgrown {w w' : World} {A : Option Addr} {ls L : List RefD} {pb b : Nat} (h : RefsAt w A ls) (ht : Tab w pb b L) (hg : w.grownBy w' (some b)) : RefsAt w' A ls := by
  rcases h with rfl | ⟨g, off, e, hgl, hc⟩
  · exact .inl rfl
  · cases hz : ls with
    | nil => exact .inl rfl
    | cons r0 rest =>
      rw [← hz]
      have h0 := (hc 0 r0 (by rw [hz]; rfl)).1
      have hne : g ≠ b := by
        intro e
        subst e
        obtain ⟨es, clock, hb, _⟩ := ht.map
        unfold World.cell? at h0
        rw [hb] at h0
        cases h0
      have hk : w'.heap[g]? = w.heap[g]? := hg.block g hgl (by simp [hne])
      refine .inr ⟨g, off, e, Nat.lt_of_lt_of_le hgl hg.size, fun j r hj => ?_⟩
      have e1 : ∀ i, w'.cell? ⟨g, i, none⟩ = w.cell? ⟨g, i, none⟩ := fun i => by unfold World.cell?; simp only [hk]
      simp only [e1]
      exact hc j r hj
/-- A table that is worked on, a copy of its beginning, and the copy's refs. -/
structure Apart (w : World) (pb b : Nat) (L : List RefD) (p2 b2 : Nat) (M : List RefD) (A : Option Addr) (W : World) : Prop where
  tab : Tab W pb b L
  copy : Tab W p2 b2 M
  refs : RefsAt W A M
  ne : b2 ≠ b
  below : Below w.heap.size w W
  lo : w.heap.size ≤ b
section
variable {w W W' : World} {pb b p2 b2 : Nat} {L M : List RefD} {A : Option Addr}
theorem Apart.step (h : Apart w pb b L p2 b2 M A W) (hb : Below W.heap.size W W') : Apart w pb b L p2 b2 M A W' :=
  ⟨h.tab.below hb h.tab.lt h.tab.map.lt, h.copy.below hb h.copy.lt h.copy.map.lt, h.refs.below hb, h.ne, below_step h.below hb, h.lo⟩
theorem Apart.grown {L' : List RefD} (h : Apart w pb b L p2 b2 M A W) (hm : MapIs W' b L') (hg : W.grownBy W' (some b)) : Apart w pb b L' p2 b2 M A W' :=
  ⟨h.tab.grown hm hg (fun e => by have := h.tab.blk; rw [e] at this; exact map_no_cells h.tab this),
   ⟨(hg.block p2 h.copy.lt (fun e => by cases e; exact map_no_cells h.tab h.copy.blk)).trans h.copy.blk, h.copy.map.kept hg (fun e => h.ne (by cases e; rfl))⟩,
   h.refs.tgrown h.tab hg, h.ne, below_grown h.below hg h.lo, h.lo⟩
theorem make_apart (r : RefD) (h : Apart w pb b L p2 b2 M A W) (hr : r.name.size ≤ maxLen) :
    Calls Try.prog 9 #[.pointer (some ⟨pb, 0, none⟩), refV r] W fun e W' => e = .returned (.int .i64 (makeL L r).1) ∧ Apart w pb b (makeL L r).2 p2 b2 M A W' ∧ KeepBox W W' :=
  (make_some r W pb b L h.tab hr).mono fun _ _ hh => ⟨hh.1, h.grown hh.2.1 hh.2.2, fun _ _ hb => box_grown hb h.tab hh.2.2⟩
theorem set_apart (s : ByteArray) (old id : Int) (h : Apart w pb b L p2 b2 M A W) (hL : Good L) (hs : s.size ≤ maxLen) :
    Calls Try.prog 11 #[.pointer (some ⟨pb, 0, none⟩), .string s, .int .u64 old, .int .u64 id] W fun e W' => e = .returned (.int .i64 (setL L s old id).1) ∧ Apart w pb b (setL L s old id).2 p2 b2 M A W' ∧ KeepBox W W' :=
  (set_some s old id W pb b L h.tab hs hL).mono fun _ _ hh => ⟨hh.1, h.grown hh.2.1 hh.2.2, fun _ _ hb => box_grown hb h.tab hh.2.2⟩
theorem drop_apart (s : ByteArray) (h : Apart w pb b L p2 b2 M A W) (hs : s.size ≤ maxLen) :
    Calls Try.prog 13 #[.pointer (some ⟨pb, 0, none⟩), .string s] W fun e W' => e = .returned (.int .i64 (dropL L s).1) ∧ Apart w pb b (dropL L s).2 p2 b2 M A W' ∧ KeepBox W W' :=
  (drop_some s W pb b L h.tab hs).mono fun _ _ hh => ⟨hh.1, h.grown hh.2.1 hh.2.2, fun _ _ hb => box_grown hb h.tab hh.2.2⟩
end

set_option maxRecDepth 100000 in
set_option maxHeartbeats 4000000 in
theorem refsown_walk (A : Option Addr) (ca : Nat) (ls : List RefD) (d : DeedD) (w : World) (hl : ls.length ≤ maxLen) (hs : ∀ r ∈ ls, r.name.size ≤ maxLen) (hdn : d.r.name.size ≤ 40) (hfew : few ls = true) (h : RefsAt w A ls) :
    Calls Try.prog 4 #[.slice A ls.length ca, .agg #[.int .i64 d.kind, .string d.r.name, .bool d.r.tag, .int .u64 d.r.id, .int .u64 d.old]] w fun e w' => e = .returned (.bool true) ∧ Below w.heap.size w w' := by
  have F6 := fun W hr => few_any A ca ls W hl hs hr
  rw [hfew] at F6
  have F7 := fun W hr => new_any A ca ls W hl hs hr
  have H := Lib.hid h
  have hgood := good_newL ls
  clear h hs hfew
  generalize newL ls = L0 at *
  generalize ls.length = n at *
  unfold maxLen at hl
  have F6 := Lib.hid F6
  have F7 := Lib.hid F7
  have HG := Lib.hid hgood
  have hdm : d.r.name.size ≤ maxLen := by unfold maxLen; omega
  have HDM := Lib.hid hdm
  have hl0 : L0.length ≤ maxLen := by have := hgood.few; unfold maxLen; omega
  have HL0 := Lib.hid hl0
  have ha : (⟨#[97]⟩ : ByteArray).size ≤ maxLen := by unfold maxLen; decide
  have HA := Lib.hid ha
  clear hgood hdm hl0 ha
  have hbox := heap_alloc_new w (.cells #[.int .i64 d.kind, .string d.r.name, .bool d.r.tag, .int .u64 d.r.id, .int .u64 d.old] 34 (0, 0))
  have HBox := Lib.hid hbox
  clear hbox
  go_enter Try.func4, Try.ntmps4
  go_upto_region 8 with (first
    | (go_at_call 5; refine (awake_any _).mono ?_; rintro e w1 ⟨rfl, hb1⟩; have HB1 := Lib.hid (below_step (below_alloc (Below.refl _ _) _) hb1); obtain ⟨hc1, -⟩ := bcell hb1; have HX1 := Lib.hid ((hb1.block _ (blk_lt HBox.out)).trans HBox.out); have hz1 : w.heap.size < w1.heap.size := blk_lt HX1.out; clear hb1)
    | (go_at_call 6; refine (F6.out w1 (H.out.below HB1.out)).mono ?_; rintro e w2 ⟨rfl, hb2⟩; have HB2 := Lib.hid (below_step HB1.out hb2); obtain ⟨hc2, -⟩ := bcell hb2; have HX2 := Lib.hid ((hb2.block _ (blk_lt HX1.out)).trans HX1.out); have hz2 : w.heap.size < w2.heap.size := blk_lt HX2.out; clear hb2)
    | (go_at_call 7; refine (F7.out w2 (H.out.below HB2.out)).mono ?_; rintro e w3 ⟨rfl, hT3, hb3⟩; have HT3 := Lib.hid hT3; have HB3 := Lib.hid (below_step HB2.out hb3); have HX3 := Lib.hid ((hb3.block _ (blk_lt HX2.out)).trans HX2.out); clear hT3 hb3)
    | (go_at_call 15; refine (copy_some w3 _ _ L0 HT3.out HG.out).mono ?_; rintro e w4 ⟨rfl, hT4, hb4⟩; have HT4 := Lib.hid hT4; have HB4 := Lib.hid hb4; have HX4 := Lib.hid ((hb4.block _ (blk_lt HX3.out)).trans HX3.out); clear hT4 hb4)
    | (go_at_call 17; refine (told_refs w4 _ _ L0 HT4.out HG.out).mono ?_; rintro e w5 ⟨A5, c5, rfl, hR5, hb5⟩; have HX5 := Lib.hid ((hb5.block _ (blk_lt HX4.out)).trans HX4.out); have p1 : w5.cell? ⟨w.heap.size, 1, none⟩ = some (.string d.r.name) := (by rw [blk_cell HX5.out]; rfl); have p2 : w5.cell? ⟨w.heap.size, 2, none⟩ = some (.bool d.r.tag) := (by rw [blk_cell HX5.out]; rfl); have p3 : w5.cell? ⟨w.heap.size, 3, none⟩ = some (.int .u64 d.r.id) := (by rw [blk_cell HX5.out]; rfl); have p4 : w5.cell? ⟨w.heap.size, 4, none⟩ = some (.int .u64 d.old) := (by rw [blk_cell HX5.out]; rfl); have HP5 := Lib.hid (show Apart w (w2.heap.size + 1) w2.heap.size L0 (w3.heap.size + 1) w3.heap.size L0 A5 w5 from ⟨(HT3.out.below HB4.out HT3.out.lt HT3.out.map.lt).below hb5 (Nat.lt_of_lt_of_le HT3.out.lt HB4.out.size) (Nat.lt_of_lt_of_le HT3.out.map.lt HB4.out.size), HT4.out.below hb5 HT4.out.lt HT4.out.map.lt, hR5, Nat.ne_of_gt HT3.out.map.lt, below_step (below_step HB3.out HB4.out) hb5, HB2.out.size⟩); clear hR5 hb5))
  go_upto_region 13 with (first
    | (go_at_call 9; refine (make_apart d.r HP5.out HDM.out).mono ?_; rintro e w6 ⟨rfl, hP6, hx6⟩; have HP6 := Lib.hid hP6; have HX6 := Lib.hid (hx6 _ _ HX5.out); have q1 : w6.cell? ⟨w.heap.size, 1, none⟩ = some (.string d.r.name) := (by rw [blk_cell HX6.out]; rfl); have q2 : w6.cell? ⟨w.heap.size, 2, none⟩ = some (.bool d.r.tag) := (by rw [blk_cell HX6.out]; rfl); have q3 : w6.cell? ⟨w.heap.size, 3, none⟩ = some (.int .u64 d.r.id) := (by rw [blk_cell HX6.out]; rfl); have q4 : w6.cell? ⟨w.heap.size, 4, none⟩ = some (.int .u64 d.old) := (by rw [blk_cell HX6.out]; rfl); clear hP6 hx6)
    | (go_at_call 11; refine (set_apart d.r.name d.r.id d.old HP6.out (good_make HG.out _) HDM.out).mono ?_; rintro e w7 ⟨rfl, hP7, hx7⟩; have HP7 := Lib.hid hP7; have HX7 := Lib.hid (hx7 _ _ HX6.out); have r1 : w7.cell? ⟨w.heap.size, 1, none⟩ = some (.string d.r.name) := (by rw [blk_cell HX7.out]; rfl); have r2 : w7.cell? ⟨w.heap.size, 2, none⟩ = some (.bool d.r.tag) := (by rw [blk_cell HX7.out]; rfl); have r3 : w7.cell? ⟨w.heap.size, 3, none⟩ = some (.int .u64 d.r.id) := (by rw [blk_cell HX7.out]; rfl); have r4 : w7.cell? ⟨w.heap.size, 4, none⟩ = some (.int .u64 d.old) := (by rw [blk_cell HX7.out]; rfl); clear hP7 hx7)
    | (go_at_call 13; refine (drop_apart d.r.name HP7.out HDM.out).mono ?_; rintro e w8 ⟨rfl, hP8, hx8⟩; have HP8 := Lib.hid hP8; clear hP8 hx8)
    | (go_at_call 19; refine (get_nil _ w8).mono ?_; rintro e w9 ⟨rfl, hb9⟩; have HP9 := Lib.hid ((HP8.out.step hb9).step (below_alloc (Below.refl _ _) (.cells #[.string zeroR.name, .bool zeroR.tag, .int .u64 zeroR.id] 32))); clear hb9))
  go_wp2_with (first
    | (go_at_call_of 17 (Value.pointer none); refine (told_nil w14).mono ?_; rintro e w16 ⟨rfl, hb16⟩; have HB16 := Lib.hid (below_step HB14.out hb16); clear hb16)
    | (go_at_call 17; refine (told_refs _ _ _ L0 HP9.out.copy HG.out).mono ?_; rintro e w10 ⟨A10, c10, rfl, hR10, hb10⟩; have HR10 := Lib.hid hR10; have HP10 := Lib.hid (HP9.out.step hb10); clear hR10 hb10)
    | (go_at_call 16; refine (same_yes A10 A5 c10 c5 L0 w10 HL0.out HR10.out HP10.out.refs).mono ?_; rintro e w11 ⟨rfl, hb11⟩; have HB11 := Lib.hid (below_step HP10.out.below hb11); clear hb11)
    | (go_at_call 9; refine (make_nil ⟨⟨#[97]⟩, false, 0⟩ w11).mono ?_; rintro e w12 ⟨rfl, hb12⟩; have HB12 := Lib.hid (below_step HB11.out hb12); clear hb12)
    | (go_at_call 11; refine (set_nil _ _ _ w12).mono ?_; rintro e w13 ⟨rfl, hb13⟩; have HB13 := Lib.hid (below_step HB12.out hb13); clear hb13)
    | (go_at_call 13; refine (drop_nil _ w13).mono ?_; rintro e w14 ⟨rfl, hb14⟩; have HB14 := Lib.hid (below_step HB13.out hb14); clear hb14)
    | (go_at_call 18; refine (len_nil w14).mono ?_; rintro e w15 ⟨rfl, rfl⟩)
    | (go_at_call 15; refine (copy_nil w16).mono ?_; rintro e w17 ⟨rfl, rfl⟩))
  go_ret
  exact ⟨rfl, HB16.out⟩

set_option maxHeartbeats 1000000 in
theorem refsown_any (A : Option Addr) (ca : Nat) (ls : List RefD) (d : DeedD) (w : World) (hl : ls.length ≤ maxLen) (hs : ∀ r ∈ ls, r.name.size ≤ maxLen) (hdn : d.r.name.size ≤ maxLen) (h : RefsAt w A ls) :
    Calls Try.prog 4 #[.slice A ls.length ca, .agg #[.int .i64 d.kind, .string d.r.name, .bool d.r.tag, .int .u64 d.r.id, .int .u64 d.old]] w fun e w' => e = .returned (.bool true) ∧ Below w.heap.size w w' := by
  by_cases hgo : few ls = true ∧ d.r.name.size ≤ 40
  · exact refsown_walk A ca ls d w hl hs hgo.2 hgo.1 h
  have F6 := fun W hr => few_any A ca ls W hl hs hr
  have H := Lib.hid h
  clear h hs
  generalize few ls = f at *
  generalize ls.length = n at *
  unfold maxLen at hl hdn
  have F6 := Lib.hid F6
  by_cases hf : f = true
  · subst hf
    have hs4 : 40 < d.r.name.size := by
      rcases Nat.lt_or_ge 40 d.r.name.size with hlt | hge
      · exact hlt
      · exact (hgo ⟨rfl, hge⟩).elim
    clear hgo
    have HBox := Lib.hid (heap_alloc_new w (.cells #[.int .i64 d.kind, .string d.r.name, .bool d.r.tag, .int .u64 d.r.id, .int .u64 d.old] 34 (0, 0)))
    go_enter Try.func4, Try.ntmps4
    go_wp2_with (first
      | (go_at_call 5; refine (awake_any _).mono ?_; rintro e w1 ⟨rfl, hb1⟩; have HB1 := Lib.hid (below_step (below_alloc (Below.refl _ _) _) hb1); have HX1 := Lib.hid ((hb1.block _ (blk_lt HBox.out)).trans HBox.out); clear hb1)
      | (go_at_call 6; refine (F6.out w1 (H.out.below HB1.out)).mono ?_; rintro e w2 ⟨rfl, hb2⟩; have HB2 := Lib.hid (below_step HB1.out hb2); have HX2 := Lib.hid ((hb2.block _ (blk_lt HX1.out)).trans HX1.out); have e1 : w2.cell? ⟨w.heap.size, 1, none⟩ = some (.string d.r.name) := (by rw [blk_cell HX2.out]; rfl); clear hb2))
    go_ret
    exact ⟨rfl, HB2.out⟩
  · have hf' : f = false := by simpa using hf
    subst hf'
    clear hgo hf
    go_enter Try.func4, Try.ntmps4
    go_wp2_with (first
      | (go_at_call 5; refine (awake_any _).mono ?_; rintro e w1 ⟨rfl, hb1⟩; have HB1 := Lib.hid (below_step (below_alloc (Below.refl _ _) _) hb1); clear hb1)
      | (go_at_call 6; refine (F6.out w1 (H.out.below HB1.out)).mono ?_; rintro e w2 ⟨rfl, hb2⟩; have HB2 := Lib.hid (below_step HB1.out hb2); clear hb2))
    go_ret
    exact ⟨rfl, HB2.out⟩
end Go.Proofs.Ytpgchdjfeklobaa
