/-
  Walk of the law of refs: RefsDo.
-/
import Derived.Test.YtpgchdjfeklobaaWalkN
namespace Go.Proofs.Ytpgchdjfeklobaa
open Go.RowKit Go.Maps Go.Shelf Go.Sort

set_option maxRecDepth 100000 in
set_option maxHeartbeats 4000000 in
theorem refsdo_walk (A : Option Addr) (ca : Nat) (ls : List RefD) (B : Option Addr) (cb : Nat) (ds : List DeedD) (s : ByteArray) (w : World) (hl : ls.length ≤ maxLen) (hs : ∀ r ∈ ls, r.name.size ≤ maxLen)
    (hdl : ds.length ≤ 40) (hds : ∀ d ∈ ds, d.r.name.size ≤ maxLen) (hss : s.size ≤ 40) (hfew : few ls = true) (h : RefsAt w A ls) (hd : DeedsAt w B ds) :
    Calls Try.prog 3 #[.slice A ls.length ca, .slice B ds.length cb, .string s] w fun e w' => e = .returned (.bool true) ∧ Below w.heap.size w w' := by
  have F6 := fun W hr => few_any A ca ls W hl hs hr
  rw [hfew] at F6
  have F7 := fun W hr => new_any A ca ls W hl hs hr
  have F8 := fun W hr => newtable_any A ca ls W hl hs hr
  have H := Lib.hid h
  have HD := Lib.hid hd
  have HDS := Lib.hid hds
  have hgood := good_newL ls
  clear h hd hs hds hfew
  generalize newL ls = L0 at *
  generalize hm : ds.length = m at *
  generalize ls.length = n at *
  have hnn := hl
  unfold maxLen at hl
  have F6 := Lib.hid F6
  have F7 := Lib.hid F7
  have F8 := Lib.hid F8
  have HM := Lib.hid hm
  have HG := Lib.hid hgood
  clear hm hgood
  go_enter Try.func3, Try.ntmps3
  go_upto_region 1 with fail
  go_wp2_with (first
    | (go_at_call 5; refine (awake_any _).mono ?_; rintro e w1 ⟨rfl, hb1⟩; have HB1 := Lib.hid hb1; clear hb1)
    | (go_at_call 6; refine (F6.out w1 (H.out.below HB1.out)).mono ?_; rintro e w2 ⟨rfl, hb2⟩; have HB2 := Lib.hid (below_step HB1.out hb2); clear hb2)
    | (go_at_call 7; refine (F7.out w2 (H.out.below HB2.out)).mono ?_; rintro e w3 ⟨rfl, hT3, hb3⟩; have HT3 := Lib.hid hT3; have HB3 := Lib.hid hb3; clear hT3 hb3)
    | (go_at_call 8; refine (F8.out w3 (H.out.below (below_step HB2.out HB3.out))).mono ?_; rintro e w4 ⟨rfl, hT4, hb4⟩))
  have hB0 : Both w w3.heap.size (w2.heap.size + 1) w2.heap.size L0 L0 w4 :=
    ⟨HT3.out.below hb4 HT3.out.lt HT3.out.map.lt, hT4, below_step (below_step HB2.out HB3.out) hb4, HB2.out.size, (below_step HB2.out HB3.out).size⟩
  clear hT4 hb4
  go_loopw [7, 10, 11, 12, 38] (fun s7 _ _ _ i W => ∃ (k pb b : Nat) (L : List RefD), k ≤ m ∧ i = .int .i64 k ∧ s7 = .pointer (some ⟨pb, 0, none⟩) ∧ Good L ∧ Both w w3.heap.size pb b L L W) (fun _ _ _ _ i _ => m - (intOf i).toNat)
  case atStart => exact ⟨0, _, _, _, Nat.zero_le _, rfl, rfl, HG.out, hB0⟩
  case round =>
    obtain ⟨k, pb, b, L, hk, rfl, rfl, hL, hB⟩ := hrel
    clear hB0
    have HB := Lib.hid hB
    have HL := Lib.hid hL
    clear hB hL
    by_cases hlt : k < m
    · obtain ⟨g, off, d, hA, hg, hr, c0, c1, c2, c3, c4⟩ := DeedsAt.get (HD.out.below HB.out.below) (k := k) (by rw [HM.out]; exact hlt)
      subst hA
      have hdn := HDS.out d (List.mem_of_getElem? hr)
      clear hr
      by_cases hbig : 40 < d.r.name.size
      · go_wp2
        go_ret
        exact ⟨rfl, below_alloc HB.out.below _⟩
      · go_upto_block 2 with fail
        have hbox := heap_alloc_new wr (.cells #[.int .i64 d.kind, .string d.r.name, .bool d.r.tag, .int .u64 d.r.id, .int .u64 d.old] 34 (0, 0))
        have HB1' := Lib.hid (HB.out.alloc (.cells #[.int .i64 d.kind, .string d.r.name, .bool d.r.tag, .int .u64 d.r.id, .int .u64 d.old] 34 (0, 0)))
        go_cut [7, 11, 12] from 39 to 118 (fun s7 s11 s12 W => ∃ (pb b : Nat) (L : List RefD) (X : Int), s7 = .pointer (some ⟨pb, 0, none⟩) ∧ s11 = .int .i64 X ∧ s12 = .int .i64 X ∧ Good L ∧ Both w w3.heap.size pb b L L W)
        case first =>
          have W0 := HB1'.out
          generalize wr.alloc (.cells #[.int .i64 d.kind, .string d.r.name, .bool d.r.tag, .int .u64 d.r.id, .int .u64 d.old] 34 (0, 0)) = w0 at *
          have HBox := Lib.hid hbox
          have e0 : w0.cell? ⟨wr.heap.size, 0, none⟩ = some (.int .i64 d.kind) := by rw [blk_cell hbox]; rfl
          have e1 : w0.cell? ⟨wr.heap.size, 1, none⟩ = some (.string d.r.name) := by rw [blk_cell hbox]; rfl
          have e2 : w0.cell? ⟨wr.heap.size, 2, none⟩ = some (.bool d.r.tag) := by rw [blk_cell hbox]; rfl
          have e3 : w0.cell? ⟨wr.heap.size, 3, none⟩ = some (.int .u64 d.r.id) := by rw [blk_cell hbox]; rfl
          have e4 : w0.cell? ⟨wr.heap.size, 4, none⟩ = some (.int .u64 d.old) := by rw [blk_cell hbox]; rfl
          have HW := Lib.hid W0
          clear hbox W0 c0 c1 c2 c3 c4
          by_cases hk0 : d.kind = 0
          · have k0 : (d.kind == 0) = true := by simp [hk0]
            go_upto_region 15 with fail
            go_region_held3 (fun W => W.cell? ⟨wr.heap.size, 1, none⟩ = some (.string d.r.name) ∧ W.cell? ⟨wr.heap.size, 2, none⟩ = some (.bool d.r.tag) ∧ W.cell? ⟨wr.heap.size, 3, none⟩ = some (.int .u64 d.r.id))
              (first | exact ⟨e1, e2, e3⟩ | exact ⟨f1, f2, f3⟩ | exact ⟨g1, g2, g3⟩)
              (first
                | (go_at_call 9; refine (make_both d.r (Both.drew HW.out) hdn).mono ?_; rintro e w5 ⟨rfl, hB5, hx5⟩; have HX5 := Lib.hid (hx5 _ _ HBox.out); have HW5 := Lib.hid hB5; have f1 : w5.cell? ⟨wr.heap.size, 1, none⟩ = some (.string d.r.name) := (by rw [blk_cell HX5.out]; rfl); have f2 : w5.cell? ⟨wr.heap.size, 2, none⟩ = some (.bool d.r.tag) := (by rw [blk_cell HX5.out]; rfl); have f3 : w5.cell? ⟨wr.heap.size, 3, none⟩ = some (.int .u64 d.r.id) := (by rw [blk_cell HX5.out]; rfl); clear hB5 hx5)
                | (go_at_call 10; refine (rmake_both d.r HW5.out HL.out hdn).mono ?_; rintro e w6 ⟨rfl, hB6, hx6⟩; have HX6 := Lib.hid (hx6 _ _ HX5.out); have HW6 := Lib.hid hB6; have g1 : w6.cell? ⟨wr.heap.size, 1, none⟩ = some (.string d.r.name) := (by rw [blk_cell HX6.out]; rfl); have g2 : w6.cell? ⟨wr.heap.size, 2, none⟩ = some (.bool d.r.tag) := (by rw [blk_cell HX6.out]; rfl); have g3 : w6.cell? ⟨wr.heap.size, 3, none⟩ = some (.int .u64 d.r.id) := (by rw [blk_cell HX6.out]; rfl); clear hB6 hx6))
            all_goals (go_wp2_with fail; go_meet; exact ⟨_, _, _, _, rfl, rfl, rfl, good_make HL.out _, HW6.out⟩)
          · have k0 : (d.kind == 0) = false := by simp [hk0]
            by_cases hk1 : d.kind = 1
            · have k1 : (d.kind == 1) = true := by simp [hk1]
              go_upto_region 17 with fail
              go_region_held3 (fun W => W.cell? ⟨wr.heap.size, 1, none⟩ = some (.string d.r.name) ∧ W.cell? ⟨wr.heap.size, 3, none⟩ = some (.int .u64 d.r.id) ∧ W.cell? ⟨wr.heap.size, 4, none⟩ = some (.int .u64 d.old))
                (first | exact ⟨e1, e3, e4⟩ | exact ⟨f1, f3, f4⟩ | exact ⟨g1, g3, g4⟩)
                (first
                  | (go_at_call 11; refine (set_both d.r.name d.old d.r.id (Both.drew HW.out) HL.out hdn).mono ?_; rintro e w5 ⟨rfl, hB5, hx5⟩; have HX5 := Lib.hid (hx5 _ _ HBox.out); have HW5 := Lib.hid hB5; have f1 : w5.cell? ⟨wr.heap.size, 1, none⟩ = some (.string d.r.name) := (by rw [blk_cell HX5.out]; rfl); have f3 : w5.cell? ⟨wr.heap.size, 3, none⟩ = some (.int .u64 d.r.id) := (by rw [blk_cell HX5.out]; rfl); have f4 : w5.cell? ⟨wr.heap.size, 4, none⟩ = some (.int .u64 d.old) := (by rw [blk_cell HX5.out]; rfl); clear hB5 hx5)
                  | (go_at_call 12; refine (rset_both d.r.name d.old d.r.id HW5.out HL.out).mono ?_; rintro e w6 ⟨rfl, hB6, hx6⟩; have HX6 := Lib.hid (hx6 _ _ HX5.out); have HW6 := Lib.hid hB6; have g1 : w6.cell? ⟨wr.heap.size, 1, none⟩ = some (.string d.r.name) := (by rw [blk_cell HX6.out]; rfl); have g3 : w6.cell? ⟨wr.heap.size, 3, none⟩ = some (.int .u64 d.r.id) := (by rw [blk_cell HX6.out]; rfl); have g4 : w6.cell? ⟨wr.heap.size, 4, none⟩ = some (.int .u64 d.old) := (by rw [blk_cell HX6.out]; rfl); clear hB6 hx6))
              all_goals (go_wp2_with fail; go_meet; exact ⟨_, _, _, _, rfl, rfl, rfl, good_set HL.out _ _ _, HW6.out⟩)
            · have k1 : (d.kind == 1) = false := by simp [hk1]
              by_cases hk2 : d.kind = 2
              · have k2 : (d.kind == 2) = true := by simp [hk2]
                go_upto_region 19 with fail
                go_region_held3 (fun W => W.cell? ⟨wr.heap.size, 1, none⟩ = some (.string d.r.name))
                  (first | exact e1 | exact f1 | exact g1)
                  (first
                    | (go_at_call 13; refine (drop_both d.r.name (Both.drew HW.out) hdn).mono ?_; rintro e w5 ⟨rfl, hB5, hx5⟩; have HX5 := Lib.hid (hx5 _ _ HBox.out); have HW5 := Lib.hid hB5; have f1 : w5.cell? ⟨wr.heap.size, 1, none⟩ = some (.string d.r.name) := (by rw [blk_cell HX5.out]; rfl); clear hB5 hx5)
                    | (go_at_call 14; refine (rdrop_both d.r.name HW5.out HL.out).mono ?_; rintro e w6 ⟨rfl, hB6, hx6⟩; have HX6 := Lib.hid (hx6 _ _ HX5.out); have HW6 := Lib.hid hB6; have g1 : w6.cell? ⟨wr.heap.size, 1, none⟩ = some (.string d.r.name) := (by rw [blk_cell HX6.out]; rfl); clear hB6 hx6))
                all_goals (go_wp2_with fail; go_meet; exact ⟨_, _, _, _, rfl, rfl, rfl, good_drop HL.out _, HW6.out⟩)
              · have k2 : (d.kind == 2) = false := by simp [hk2]
                go_wp2_with (go_at_call 15; refine (copy_some w0 pb b L HW.out.tab HL.out).mono ?_; rintro e w5 ⟨rfl, hT5, hb5⟩; have HT5 := Lib.hid hT5; have HB5 := Lib.hid hb5; clear hT5 hb5)
                go_meet
                exact ⟨_, _, _, _, rfl, rfl, rfl, HL.out, ⟨HT5.out, HW.out.rtab.below HB5.out, below_step HW.out.below HB5.out, HW.out.below.size, HW.out.base⟩⟩
        case rest =>
          obtain ⟨pb2, b2, L2, X, rfl, rfl, rfl, hL2, hB2⟩ := hcut
          obtain ⟨A2, cap2, hb2, hr2⟩ := hB2.rtab
          have r0 : wc.cell? ⟨w3.heap.size, 0, none⟩ = some (.slice A2 L2.length cap2) := by rw [blk_cell hb2]; rfl
          have hpl := blk_lt hb2
          have hRefs := Lib.hid hr2.refs
          have HL2 := Lib.hid hL2
          have HW2 := Lib.hid hB2
          have hl2 : L2.length ≤ maxLen := by have := hL2.few; unfold maxLen; omega
          have F16 := fun (A' : Option Addr) (c' : Nat) (W : World) (h1 : RefsAt W A' L2) (h2 : RefsAt W A2 L2) => same_yes A' A2 c' cap2 L2 W hl2 h1 h2
          have F17 := fun (W : World) (h1 : Tab W pb2 b2 L2) => told_refs W pb2 b2 L2 h1 hL2
          have F18 := fun (W : World) (h1 : Tab W pb2 b2 L2) => len_some W pb2 b2 L2 h1
          have x0 : (X != X) = false := by simp
          generalize hq : L2.length = q at *
          have x1 : ((q : Int) != (q : Int)) = false := by simp
          have F16 := Lib.hid F16
          have F17 := Lib.hid F17
          have F18 := Lib.hid F18
          clear hL2 hB2 hb2 hr2 hq hbox HB1' c0 c1 c2 c3 c4
          go_upto_region 20 with fail
          go_region_held3 (fun W => W.cell? ⟨w3.heap.size, 0, none⟩ = some (.slice A2 q cap2))
            (first | exact r0 | exact f0 | exact g0)
            (first
              | (go_at_call 17; refine (F17.out _ (Tab.drew HW2.out.tab)).mono ?_; rintro e w5 ⟨A5, c5, rfl, hR5, hb5⟩; have HR5 := Lib.hid hR5; have HW5 := Lib.hid (HW2.out.drew.step hb5); have HQ5 := Lib.hid (RefsAt.below (by exact hRefs.out) hb5); have f0 : w5.cell? ⟨w3.heap.size, 0, none⟩ = some (.slice A2 q cap2) := (by rw [(bcell hb5).1 _ _ hpl]; exact r0); have hp5 : w3.heap.size < w5.heap.size := (by have := hb5.size; exact Nat.lt_of_lt_of_le hpl this); clear hR5 hb5)
              | (go_at_call 16; refine (F16.out _ _ _ HR5.out HQ5.out).mono ?_; rintro e w6 ⟨rfl, hb6⟩; have HW6 := Lib.hid (HW5.out.step hb6); have g0 : w6.cell? ⟨w3.heap.size, 0, none⟩ = some (.slice A2 q cap2) := (by rw [(bcell hb6).1 _ _ hp5]; exact f0); clear hb6)
              | (go_at_call 18; refine (F18.out _ HW6.out.tab).mono ?_; rintro e w7 ⟨rfl, rfl⟩))
          all_goals
            go_wp2_with fail
            go_roundw
            case rel => exact ⟨k + 1, pb2, b2, L2, by omega, by go_num, rfl, HL2.out, HW6.out⟩
            case measure => simp [intOf]; omega
    · have F19 := get_some s wr pb b L HB.out.tab (by unfold maxLen; omega)
      have F20 := fun W (hr : RTab W w3.heap.size w3.heap.size L) => rget_any w3.heap.size w3.heap.size L s W (by have := HL.out.few; unfold maxLen; omega) HL.out.sizes hr
      generalize (getL L s).getD zeroR = r at F19 F20
      generalize (getL L s).isSome = t at F19 F20
      have F19 := Lib.hid F19
      have F20 := Lib.hid F20
      go_wp2_with (first
        | (go_at_call 19; refine F19.out.mono ?_; rintro e w5 ⟨rfl, hb5⟩; have HB5 := Lib.hid (HB.out.step hb5); clear hb5)
        | (go_at_call 20; refine (F20.out _ (HB5.out.rtab.alloc _)).mono ?_; rintro e w6 ⟨rfl, hb6⟩; obtain ⟨hc6, -⟩ := bcell hb6; have hz6 : w5.heap.size < w6.heap.size := (by have := hb6.size; simp at this; omega); have HB6 := Lib.hid ((HB5.out.alloc _).step hb6); clear hb6)
        | (go_at_call 21; refine (name16 s _ (by unfold maxLen; omega)).mono ?_; rintro e w7 ⟨rfl, hb7⟩; have HB7 := Lib.hid ((HB6.out.alloc _).step hb7); clear hb7)
        | (go_at_call 22; refine (name14 s _ (by unfold maxLen; omega)).mono ?_; rintro e w8 ⟨rfl, rfl⟩))
      go_ret
      exact ⟨rfl, HB7.out.below⟩
end Go.Proofs.Ytpgchdjfeklobaa
