/-
  Walks of the program's writer: Num, Text, Bytes, and command.Put.
-/
import Derived.RangeFuncBox
import Derived.Deep.RegionHeld3
import Derived.Deep.DeepCutAuto
import Derived.Deep.CutRange
import Derived.Deep.CutBlock
import Derived.Test.YtpgchdjfeklobaaDoorWrite
namespace Go.Proofs.YtpgchdjfeklobaaDoor
open Go.RowKit

theorem Own.shape {w : World} {base : Nat} {v : Value} {bs : List UInt8} (h : Own w base v bs) : ∃ A n cap, v = .slice A n cap := by
  obtain ⟨A, cap, e, _⟩ := h.form
  exact ⟨A, _, cap, e⟩
/-- The writer in block pb has written bs. -/
structure WrAt (W : World) (base pb : Nat) (bs : List UInt8) : Prop where
  ex : ∃ v, Blk W pb 74 #[v] ∧ Own W base v bs
  lo : base ≤ pb
theorem WrAt.lt {W : World} {base pb : Nat} {bs : List UInt8} (h : WrAt W base pb bs) : pb < W.heap.size := by obtain ⟨v, hb, _⟩ := h.ex; exact hb.lt
theorem WrAt.alloc {W : World} {base pb : Nat} {bs : List UInt8} (h : WrAt W base pb bs) (o : Obj) : WrAt (W.alloc o) base pb bs := by
  obtain ⟨v, hb, ho⟩ := h.ex
  exact ⟨⟨v, hb.alloc o, ho.alloc o⟩, h.lo⟩
/-- A new value is stored in the writer. -/
theorem WrAt.store {W : World} {base pb : Nat} {u v : Value} {bs : List UInt8} (hb : Blk W pb 74 #[u]) (ho : Own W base v bs) (hlo : base ≤ pb) : WrAt (W.setCell ⟨pb, 0, none⟩ v) base pb bs :=
  ⟨⟨v, hb.set_ 0 v, ho.kept (grownBy_setCell' W pb v) (.inr (own_blk_ne ho hb (by decide)))⟩, hlo⟩
theorem below_store {W : World} {B pb : Nat} (v : Value) (hB : B ≤ pb) (hs : B ≤ W.heap.size) : Below B W (W.setCell ⟨pb, 0, none⟩ v) :=
  (Below.refl _ _).grown (grownBy_setCell' W pb v) hs (fun k e => by cases e; exact hB)

set_option maxRecDepth 100000 in
set_option maxHeartbeats 1000000 in
theorem wnum_any (base pb : Nat) (bs : List UInt8) (B : Option Addr) (cb : Nat) (ns : List Nat) (w : World) (h : WrAt w base pb bs) (hl : bs.length ≤ 1000000000) (hbw : base ≤ w.heap.size)
    (hB : Reads w w.heap.size 1 B ns.length (ns.map numV)) (hns : ns.length ≤ 1000000) (hn : ∀ n ∈ ns, n < 18446744073709551616) :
    Calls Tryd.prog 40 #[.pointer (some ⟨pb, 0, none⟩), .slice B ns.length cb] w fun e w' => e = .returned (.tuple #[]) ∧ WrAt w' base pb (bs ++ ns.flatMap lebB) ∧ Below base w w' := by
  obtain ⟨v, hb, ho⟩ := h.ex
  obtain ⟨A, cap, rfl, hr⟩ := ho.form
  have hlo := h.lo
  have F := lebput_any A cap bs B cb ns w hr hl hB hns hn
  have HF := Lib.hid F
  have HBk := Lib.hid hb
  have hc := hb.cell 0
  have hp := hb.lt
  have HBW := Lib.hid hbw
  have HLO := Lib.hid hlo
  simp at hc
  clear hb ho hr hB hn h F hbw hlo
  generalize bs.length = m at *
  generalize ns.length = q at *
  go_enter Tryd.func40, Tryd.ntmps40
  go_wp2_with (go_at_call 90; refine HF.out.mono ?_; rintro e w1 ⟨v1, rfl, ho1, hb1⟩; obtain ⟨A1, n1, cap1, rfl⟩ := ho1.shape; have HO1 := Lib.hid ho1; have HB1 := Lib.hid hb1; have hk1 := HBk.out.below hb1 hp; have HK1 := Lib.hid hk1; have hf1 := hk1.frozen 0; have hc1 := hk1.cell 0; have hp1 := hk1.lt; simp at hc1; clear ho1 hb1 hk1)
  go_end0
  exact ⟨rfl, WrAt.store HK1.out (HO1.out.mono HBW.out) HLO.out, (HB1.out.mono HBW.out).trans (below_store _ HLO.out (Nat.le_trans HBW.out HB1.out.size))⟩

set_option maxRecDepth 100000 in
set_option maxHeartbeats 1000000 in
theorem wtext_any (base pb : Nat) (bs : List UInt8) (s : ByteArray) (w : World) (h : WrAt w base pb bs) (hl : bs.length ≤ 100000000) (hbw : base ≤ w.heap.size) (hs : s.size ≤ 1000000) :
    Calls Tryd.prog 41 #[.pointer (some ⟨pb, 0, none⟩), .string s] w fun e w' => e = .returned (.tuple #[]) ∧ WrAt w' base pb (bs ++ textB s) ∧ Below base w w' := by
  have hB : Reads (w.alloc (.cells #[numV s.size] 42)) (w.alloc (.cells #[numV s.size] 42)).heap.size 1 (some ⟨w.heap.size, 0, none⟩) 1 ([s.size].map numV) := by
    refine ⟨rfl, fun _ => ⟨_, rfl, by simp, fun j u hj => ?_⟩⟩
    match j, hj with
    | 0, hj => simp at hj; subst hj; simp [Addr.add]
  have F := wnum_any base pb bs (some ⟨w.heap.size, 0, none⟩) 1 [s.size] (w.alloc (.cells #[numV s.size] 42)) (h.alloc _) (by omega) (by simp; omega) hB (by simp) (by simp; omega)
  simp only [List.length_cons, List.length_nil, List.flatMap_cons, List.flatMap_nil, List.append_nil, Nat.zero_add] at F
  have HF := Lib.hid F
  have HBW := Lib.hid hbw
  have HL := Lib.hid hl
  have HLO := Lib.hid h.lo
  have hl10 := lebB_len10 (n := s.size) (by omega)
  have H10 := Lib.hid hl10
  clear h hl hbw hB F hl10
  go_enter Tryd.func41, Tryd.ntmps41
  go_upto_region 2 with (go_at_call 40; refine HF.out.mono ?_; rintro e w1 ⟨rfl, hw1, hb1⟩; have HW1 := Lib.hid hw1; have HB1 := Lib.hid hb1; clear hw1 hb1)
  obtain ⟨v, hk1, ho1⟩ := HW1.out.ex
  obtain ⟨A, n1, cap, rfl⟩ := ho1.shape
  have hf1 := hk1.frozen 0
  have hc1 := hk1.cell 0
  have hp1 := hk1.lt
  have HK1 := Lib.hid hk1
  have HO1 := Lib.hid ho1
  simp at hc1
  have hsz := HB1.out.size
  simp at hsz
  clear hk1 ho1
  go_wp2_with (at_builtin; refine wpB_str _ rfl _ _ rfl base _ (bs ++ lebB s.size) rfl HO1.out s rfl (by have := HL.out; have := H10.out; simp; omega) (by omega) (Nat.le_trans HBW.out (by omega)) ?_; intro v2 w2 ho2 hs2; obtain ⟨A2, n2, cap2, rfl⟩ := ho2.shape; have HO2 := Lib.hid ho2; have HS2 := Lib.hid hs2; have hk2 := HK1.out.grown hs2.grown (fun e => own_blk_ne HO1.out HK1.out (by decide) e.symm); have HK2 := Lib.hid hk2; have hf2 := hk2.frozen 0; have hp2 := hk2.lt; have hc2 := hk2.cell 0; simp at hc2; clear ho2 hs2 hk2)
  go_end0
  have hb0 : base ≤ w1.heap.size := Nat.le_trans HBW.out (by omega)
  refine ⟨rfl, ?_, ?_⟩
  · unfold textB
    rw [← List.append_assoc]
    exact WrAt.store HK2.out HO2.out HLO.out
  · have h1 : Below base w w1 := ((Below.refl _ _).alloc HBW.out _).trans HB1.out
    have h2 : Below base w1 w2 := HS2.out.below HO1.out hb0
    exact (h1.trans h2).trans (below_store _ HLO.out (Nat.le_trans hb0 h2.size))

theorem Own.full {w : World} {base : Nat} {v : Value} {bs : List UInt8} (h : Own w base v bs) : ∃ A cap, v = .slice A bs.length cap ∧ Reads w w.heap.size 1 A bs.length (cellsB bs) ∧ (A = none → bs.length = 0 ∧ cap = 0) := by
  have h' : w.ownsRow base 5 1 v bs.length (cellsB bs) := h
  rcases h.2 with ⟨rfl, h0⟩ | ⟨g, cap, cur, rfl, _⟩
  · refine ⟨none, 0, by rw [h0], ?_, fun _ => ⟨h0, rfl⟩⟩
    rw [List.eq_nil_of_length_eq_zero h0]
    exact Reads.none_
  · exact ⟨_, cap, rfl, Reads.of_own h', fun e => by cases e⟩
set_option maxRecDepth 100000 in
set_option maxHeartbeats 1000000 in
theorem wbytes_any (base pb : Nat) (bs : List UInt8) (w : World) (h : WrAt w base pb bs) (hl : bs.length ≤ 1000000000) :
    Calls Tryd.prog 43 #[.pointer (some ⟨pb, 0, none⟩)] w fun e w' => ∃ v', e = .returned v' ∧ Own w' w.heap.size v' bs ∧ Below w.heap.size w w' := by
  obtain ⟨v, hb, ho⟩ := h.ex
  obtain ⟨A, cap, rfl, hr, hn⟩ := ho.full
  have F := clone_any A cap bs w hr hn (by omega)
  have HF := Lib.hid F
  have hc := hb.cell 0
  have hp := hb.lt
  simp at hc
  clear hb ho hr hn h F
  generalize bs.length = m at *
  go_enter Tryd.func43, Tryd.ntmps43
  go_wp2_with (go_at_call 77; refine HF.out.mono ?_; rintro e w1 ⟨v1, rfl, ho1, hb1⟩)
  go_ret
  exact ⟨_, rfl, ho1, hb1⟩

theorem one_num (w : World) (n : Nat) : Reads (w.alloc (.cells #[numV n] 42)) (w.alloc (.cells #[numV n] 42)).heap.size 1 (some ⟨w.heap.size, 0, none⟩) 1 ([n].map numV) := by
  refine ⟨rfl, fun _ => ⟨_, rfl, by simp, fun j u hj => ?_⟩⟩
  match j, hj with
  | 0, hj => simp at hj; subst hj; simp [Addr.add]
theorem wnum_one (base pb : Nat) (bs : List UInt8) (n : Nat) (w : World) (h : WrAt w base pb bs) (hl : bs.length ≤ 1000000000) (hbw : base ≤ w.heap.size) (hn : n < 18446744073709551616) :
    Calls Tryd.prog 40 #[.pointer (some ⟨pb, 0, none⟩), .slice (some ⟨w.heap.size, 0, none⟩) 1 1] (w.alloc (.cells #[numV n] 42)) fun e w' => e = .returned (.tuple #[]) ∧ WrAt w' base pb (bs ++ lebB n) ∧ Below base w w' := by
  have F := wnum_any base pb bs (some ⟨w.heap.size, 0, none⟩) 1 [n] (w.alloc (.cells #[numV n] 42)) (h.alloc _) hl (by simp; omega) (one_num w n) (by simp) (by simp; omega)
  simp only [List.length_cons, List.length_nil, List.flatMap_cons, List.flatMap_nil, List.append_nil, Nat.zero_add] at F
  exact F.mono fun e w' ⟨he, h1, h2⟩ => ⟨he, h1, ((Below.refl _ _).alloc hbw _).trans h2⟩

theorem index76 (c : CmdD) (k : Nat) (s : ByteArray) (hs : c.texts[k]? = some s) (W : World) :
    (Instr.index 76 (.agg #[.string c.name, .string c.other, .string c.key, .string c.val]) (.int .i64 (k : Int))).run Tryd.prog W = .ok (.string s) W := by
  have hu := Tryd.underlying76
  have hd := Tryd.sizeOf9
  have hg := Tryd.isAgg9
  have hk : k < 4 := by have := (List.getElem?_eq_some_iff.1 hs).1; simpa using this
  match k, hk, hs with
  | 0, _, hs => simp at hs; subst hs; simp [Instr.index, run_underlying hu, asIntOf, go_sem]
  | 1, _, hs => simp at hs; subst hs; simp [Instr.index, run_underlying hu, asIntOf, go_sem]
  | 2, _, hs => simp at hs; subst hs; simp [Instr.index, run_underlying hu, asIntOf, go_sem]
  | 3, _, hs => simp at hs; subst hs; simp [Instr.index, run_underlying hu, asIntOf, go_sem]
set_option maxRecDepth 100000 in
set_option maxHeartbeats 2000000 in
theorem put_any (c : CmdD) (w : World) (hc : c.Small) : Calls Tryd.prog 13 #[.agg c.cells] w fun e w' => ∃ v', e = .returned v' ∧ Own w' w.heap.size v' (putB c) ∧ Below w.heap.size w w' := by
  obtain ⟨k0, k1, n0, n1, ht⟩ := hc
  have HT := Lib.hid ht
  clear ht
  obtain ⟨m, hm, hm1⟩ : ∃ m : Nat, IntKind.u64.wrap c.kind = m ∧ m < 18446744073709551616 := ⟨(c.kind % 18446744073709551616).toNat, by rw [IntKind.wrap_u64]; omega, by omega⟩
  have HBX := Lib.hid (Blk.new w 23 c.cells)
  go_enter Tryd.func13, Tryd.ntmps13
  have hw0 : WrAt ((w.alloc (.cells c.cells 23)).alloc (.cells #[.slice none 0 0] 74)) (w.heap.size + 1) (w.heap.size + 1) [] :=
    ⟨⟨.slice none 0 0, by have h := Blk.new (w.alloc (.cells c.cells 23)) 74 #[.slice none 0 0]; rwa [World.size_alloc] at h, Own.nil _ _⟩, Nat.le_refl _⟩
  have HW0 := Lib.hid hw0
  have F := wnum_one (w.heap.size + 1) (w.heap.size + 1) [] m _ hw0 (by simp) (by simp) hm1
  simp only [World.size_alloc, List.nil_append] at F
  have HF := Lib.hid F
  have HM := Lib.hid (lebB_len10 hm1)
  clear hw0 F
  go_wp2_with (go_at_call 40; refine HF.out.mono ?_; rintro e w1 ⟨rfl, hw1, hb1⟩; have HW1 := Lib.hid hw1; have HB1 := Lib.hid hb1; have hx1 := (HBX.out.alloc (.cells #[.slice none 0 0] 74)).below hb1 (by omega); have HX1 := Lib.hid hx1; have hx1c := hx1.cell; have hz1 := hx1.lt; clear hw1 hb1 hx1)
  go_loopw [5, 23] (fun _ i W => ∃ k : Nat, k ≤ 4 ∧ i = .int .i64 k ∧ WrAt W (w.heap.size + 1) (w.heap.size + 1) (lebB m ++ (c.texts.take k).flatMap textB) ∧ Below (w.heap.size + 1) w1 W) (fun _ i _ => 4 - (intOf i).toNat)
  case atStart => exact ⟨0, by omega, rfl, by simpa using HW1.out, Below.refl _ _⟩
  case round =>
    obtain ⟨k, hk, rfl, hw, hb⟩ := hrel
    have hxw := HX1.out.below hb (by omega)
    have hxc := hxw.cell
    have hsz := hb.size
    have hlen : (lebB m ++ (c.texts.take k).flatMap textB).length ≤ 100000000 := by
      have h1 := HM.out
      have h2 := texts_len (l := c.texts.take k) (fun x hx => HT.out x (List.mem_of_mem_take hx))
      rw [List.length_take] at h2
      rw [List.length_append]
      simp only [List.length_cons, List.length_nil] at h2
      omega
    have HW := Lib.hid hw
    have HB := Lib.hid hb
    clear hw hb hxw
    by_cases hlt : k < 4
    · obtain ⟨s, hs⟩ : ∃ s, c.texts[k]? = some s := ⟨_, List.getElem?_eq_getElem (by simpa using hlt)⟩
      have hix := index76 c k s hs
      have F2 := wtext_any _ _ _ s wr HW.out hlen (by omega) (HT.out s (List.mem_of_getElem? hs))
      have HF2 := Lib.hid F2
      have HSS := Lib.hid hs
      clear F2 hs hlen
      go_wp2_with (go_at_call 41; refine HF2.out.mono ?_; rintro e w3 ⟨rfl, hw3, hb3⟩; have HW3 := Lib.hid hw3; have HB3 := Lib.hid hb3; clear hw3 hb3)
      go_roundw
      case rel => exact ⟨k + 1, by omega, by go_num, by rw [take_texts HSS.out, ← List.append_assoc]; exact HW3.out, HB.out.trans HB3.out⟩
      case measure => simp [intOf]; omega
    · have hk4 : k = 4 := by omega
      subst hk4
      have hz := zig_bd n0 n1
      obtain ⟨z, hz1, hz2⟩ : ∃ z : Nat, zigI c.n = z ∧ z < 18446744073709551616 := ⟨(zigI c.n).toNat, by omega, by omega⟩
      have F2 := wnum_one (w.heap.size + 1) (w.heap.size + 1) _ z wr HW.out (by omega) (by omega) hz2
      have HF2 := Lib.hid F2
      have hlen2 : ((lebB m ++ (c.texts.take 4).flatMap textB) ++ lebB z).length ≤ 1000000000 := by
        have := lebB_len10 hz2
        rw [List.length_append]
        omega
      have HLN := Lib.hid hlen2
      clear F2 hlen2 hz hlen
      go_wp2_with (first
        | (go_at_call 42; refine (zig_any c.n wr n0 n1).mono ?_; rw [hz1]; rintro e w3 ⟨rfl, rfl⟩)
        | (go_at_call 40; refine HF2.out.mono ?_; rintro e w3 ⟨rfl, hw3, hb3⟩; have HW3 := Lib.hid hw3; have HB3 := Lib.hid hb3; clear hw3 hb3)
        | (go_at_call 43; refine (wbytes_any _ _ _ w3 HW3.out HLN.out).mono ?_; rintro e w4 ⟨v4, rfl, ho4, hb4⟩; have HO4 := Lib.hid ho4; have HB4 := Lib.hid hb4; clear ho4 hb4))
      go_ret
      have e1 : (c.kind % 18446744073709551616).toNat = m := by rw [IntKind.wrap_u64] at hm; omega
      have e2 : (zigI c.n).toNat = z := by omega
      have b1 : Below w.heap.size w w1 := (((Below.refl _ _).alloc (Nat.le_refl _) (.cells c.cells 23)).alloc (by simp) (.cells #[.slice none 0 0] 74)).trans (HB1.out.mono (by omega))
      have b2 := (b1.trans (HB.out.mono (by omega))).trans (HB3.out.mono (by omega))
      refine ⟨_, rfl, ?_, b2.trans (HB4.out.mono b2.size)⟩
      unfold putB
      rw [e1, e2, ← List.append_assoc]
      exact HO4.out.mono b2.size
end Go.Proofs.YtpgchdjfeklobaaDoor
