/-
  Walks: the command that bytes are, in the program and in the reference.
-/
import Derived.Test.YtpgchdjfeklobaaDoorRCheck
namespace Go.Proofs.YtpgchdjfeklobaaDoor
open Go.RowKit

abbrev zcmd : CmdD := ⟨0, ⟨#[]⟩, ⟨#[]⟩, ⟨#[]⟩, ⟨#[]⟩, 0⟩
abbrev zcells : Array Value := #[.int .i64 0, .string ⟨#[]⟩, .string ⟨#[]⟩, .string ⟨#[]⟩, .string ⟨#[]⟩, .int .i64 0]
/-- The command that bytes are, and the error. -/
def ofR (bs : List UInt8) : CmdD × Int := if (parse bs).2 = true ∧ chk (parse bs).1 = 0 then ((parse bs).1, 0) else (zcmd, 20)
def OfSaid (bs : List UInt8) (w : World) (e : Ending) (w' : World) : Prop := e = .returned (.tuple #[.agg (ofR bs).1.cells, .int .i64 (ofR bs).2]) ∧ Below w.heap.size w w'
theorem ofR_good {bs : List UInt8} {c : CmdD} (h : parse bs = (c, true)) (hc : chk c = 0) : ofR bs = (c, 0) := by unfold ofR; rw [h]; simp [hc]
theorem ofR_bad1 {bs : List UInt8} {c : CmdD} (h : parse bs = (c, false)) : ofR bs = (zcmd, 20) := by unfold ofR; rw [h]; simp
theorem ofR_bad2 {bs : List UInt8} {c : CmdD} {x : Bool} (h : parse bs = (c, x)) (hc : chk c ≠ 0) : ofR bs = (zcmd, 20) := by unfold ofR; rw [h]; simp [hc]
theorem numR_le (s : RdS) (most : Nat) : (numR s most).1 ≤ most := by
  unfold numR
  split
  · simp
  · split
    · simp
    · split
      · simp
      · simp only; omega
theorem textR_le (s : RdS) (most : Nat) : (textR s most).1.length ≤ most := by
  have := numR_le s most
  unfold textR
  simp only
  split
  · simp
  · split
    · simp
    · rw [List.length_take]; omega
theorem below6 {base b : Nat} {w W : World} (h : Below base w W) (hb : base ≤ b) (u0 u1 u2 u3 u4 u5 : Value) :
    Below base w ((((((W.setCell ⟨b, 0, none⟩ u0).setCell ⟨b, 1, none⟩ u1).setCell ⟨b, 2, none⟩ u2).setCell ⟨b, 3, none⟩ u3).setCell ⟨b, 4, none⟩ u4).setCell ⟨b, 5, none⟩ u5) :=
  (((((h.setCell (p := ⟨b, 0, none⟩) hb _).setCell (p := ⟨b, 1, none⟩) hb _).setCell (p := ⟨b, 2, none⟩) hb _).setCell (p := ⟨b, 3, none⟩) hb _).setCell (p := ⟨b, 4, none⟩) hb _).setCell (p := ⟨b, 5, none⟩) hb _
theorem RdAt.lt {W : World} {T : TypeId} {pb : Nat} {s : RdS} (h : RdAt W T pb s) : pb < W.heap.size := by
  obtain ⟨A, cap, hb, _, _⟩ := h.ex
  exact hb.lt
theorem RdAt.raw {w : World} {cap : Nat} {A : Option Addr} {bs : List UInt8} (h : Reads w w.heap.size 1 A bs.length (cellsB bs)) (hc : bs.length ≤ cap) (hl : bs.length ≤ 4294967296) (T : TypeId) : RdAt (w.alloc (.cells #[.slice A bs.length cap, .bool false] T)) T w.heap.size ⟨bs, false⟩ :=
  ⟨⟨A, cap, Blk.new _ _ _, h.alloc (Nat.le_refl _) _, hc⟩, hl, fun h => by cases h⟩
theorem RdAt.far {W : World} {T : TypeId} {pb : Nat} {s : RdS} (h : RdAt W T pb s) {p : Addr} (hp : pb < p.block) (u : Value) : RdAt (W.setCell p u) T pb s := by
  obtain ⟨A, cap, hb, hr, hc⟩ := h.ex
  exact ⟨⟨A, cap, hb.far (by omega) u, hr.setCell (Nat.le_of_lt hp) u, hc⟩, h.few, h.bad⟩
set_option maxRecDepth 100000 in
set_option maxHeartbeats 4000000 in
theorem of_any (A : Option Addr) (cap : Nat) (bs : List UInt8) (w : World) (h : Reads w w.heap.size 1 A bs.length (cellsB bs)) (hn : A = none → bs.length = 0 ∧ cap = 0) (_hcap : bs.length ≤ cap) (hl : bs.length ≤ 4294967296) (hV : Vars w) :
    Calls Tryd.prog 11 #[.slice A bs.length cap] w (OfSaid bs w) := by
  have HV := Lib.hid hV
  clear hV
  obtain ⟨k, s1, e0⟩ : ∃ k' t', numR ⟨bs, false⟩ 20 = (k', t') := ⟨_, _, rfl⟩
  obtain ⟨sa, s2, e1⟩ : ∃ a' t', textR s1 300 = (a', t') := ⟨_, _, rfl⟩
  obtain ⟨sb, s3, e2⟩ : ∃ a' t', textR s2 300 = (a', t') := ⟨_, _, rfl⟩
  obtain ⟨sc, s4, e3⟩ : ∃ a' t', textR s3 300 = (a', t') := ⟨_, _, rfl⟩
  obtain ⟨sd, s5, e4⟩ : ∃ a' t', textR s4 300 = (a', t') := ⟨_, _, rfl⟩
  obtain ⟨n, s6, e5⟩ : ∃ n' t', numR s5 18446744073709551615 = (n', t') := ⟨_, _, rfl⟩
  have k20 : k ≤ 20 := by have := numR_le ⟨bs, false⟩ 20; rw [e0] at this; exact this
  have n64 : n ≤ 18446744073709551615 := by have := numR_le s5 18446744073709551615; rw [e5] at this; exact this
  have la : sa.length ≤ 300 := by have := textR_le s1 300; rw [e1] at this; exact this
  have lb : sb.length ≤ 300 := by have := textR_le s2 300; rw [e2] at this; exact this
  have lc : sc.length ≤ 300 := by have := textR_le s3 300; rw [e3] at this; exact this
  have ld : sd.length ≤ 300 := by have := textR_le s4 300; rw [e4] at this; exact this
  have hp : parse bs = (⟨k, ⟨sa.toArray⟩, ⟨sb.toArray⟩, ⟨sc.toArray⟩, ⟨sd.toArray⟩, zagI n⟩, !s6.bad && decide (s6.bs = [])) := by
    unfold parse; simp only [e0, e1, e2, e3, e4, e5]
  have HP := Lib.hid hp
  clear hp
  have F0 := Lib.hid (fun (W : World) (pb : Nat) (h : RdAt W 129 pb ⟨bs, false⟩) => (show Calls Tryd.prog 31 #[.pointer (some ⟨pb, 0, none⟩), numV 20] W fun e w' => e = .returned (numV k) ∧ RdAt w' 129 pb s1 ∧ W.grownBy w' (some pb) by have := num_any 20 h; rw [e0] at this; exact this))
  have F1 := Lib.hid (fun (W : World) (pb : Nat) (h : RdAt W 129 pb s1) => (show Calls Tryd.prog 32 #[.pointer (some ⟨pb, 0, none⟩), .int .i64 300] W fun e w' => e = .returned (.string ⟨sa.toArray⟩) ∧ RdAt w' 129 pb s2 ∧ W.grownBy w' (some pb) by have := text_any 300 (by omega) h; rw [e1] at this; exact this))
  have F2 := Lib.hid (fun (W : World) (pb : Nat) (h : RdAt W 129 pb s2) => (show Calls Tryd.prog 32 #[.pointer (some ⟨pb, 0, none⟩), .int .i64 300] W fun e w' => e = .returned (.string ⟨sb.toArray⟩) ∧ RdAt w' 129 pb s3 ∧ W.grownBy w' (some pb) by have := text_any 300 (by omega) h; rw [e2] at this; exact this))
  have F3 := Lib.hid (fun (W : World) (pb : Nat) (h : RdAt W 129 pb s3) => (show Calls Tryd.prog 32 #[.pointer (some ⟨pb, 0, none⟩), .int .i64 300] W fun e w' => e = .returned (.string ⟨sc.toArray⟩) ∧ RdAt w' 129 pb s4 ∧ W.grownBy w' (some pb) by have := text_any 300 (by omega) h; rw [e3] at this; exact this))
  have F4 := Lib.hid (fun (W : World) (pb : Nat) (h : RdAt W 129 pb s4) => (show Calls Tryd.prog 32 #[.pointer (some ⟨pb, 0, none⟩), .int .i64 300] W fun e w' => e = .returned (.string ⟨sd.toArray⟩) ∧ RdAt w' 129 pb s5 ∧ W.grownBy w' (some pb) by have := text_any 300 (by omega) h; rw [e4] at this; exact this))
  have F5 := Lib.hid (fun (W : World) (pb : Nat) (h : RdAt W 129 pb s5) => (show Calls Tryd.prog 31 #[.pointer (some ⟨pb, 0, none⟩), numV 18446744073709551615] W fun e w' => e = .returned (numV n) ∧ RdAt w' 129 pb s6 ∧ W.grownBy w' (some pb) by have := num_any 18446744073709551615 h; rw [e5] at this; exact this))
  clear e0 e1 e2 e3 e4 e5
  have za : (⟨sa.toArray⟩ : ByteArray).size ≤ 300 := by simpa [ByteArray.size] using la
  have zb : (⟨sb.toArray⟩ : ByteArray).size ≤ 300 := by simpa [ByteArray.size] using lb
  have zc : (⟨sc.toArray⟩ : ByteArray).size ≤ 300 := by simpa [ByteArray.size] using lc
  have zd : (⟨sd.toArray⟩ : ByteArray).size ≤ 300 := by simpa [ByteArray.size] using ld
  clear la lb lc ld
  generalize (⟨sa.toArray⟩ : ByteArray) = a at *
  generalize (⟨sb.toArray⟩ : ByteArray) = b at *
  generalize (⟨sc.toArray⟩ : ByteArray) = c at *
  generalize (⟨sd.toArray⟩ : ByteArray) = d at *
  have zn := zag_bd (u := (n : Int)) (by omega) (by omega)
  have FZ := Lib.hid (fun W => zag_any (n : Int) W (by omega) (by omega))
  generalize zagI (n : Int) = zn' at *
  have HSm := Lib.hid (show (CmdD.mk k a b c d zn').Small from ⟨by simp only; omega, by simp only; omega, zn.1, zn.2, by intro s hs; simp at hs; rcases hs with rfl | rfl | rfl | rfl <;> omega⟩)
  have HZ0 := Lib.hid (Blk.new w 23 zcells)
  have HB0 := Lib.hid (below_box w (.cells zcells 23))
  have HRd := Lib.hid (h.alloc (Nat.le_refl _) (.cells zcells 23))
  clear h
  have FR := Lib.hid (read_any A cap bs (w.alloc (.cells zcells 23)) ((HRd.out).more (by simp)) hn hl)
  clear hn
  generalize bs.length = m at *
  go_enter Tryd.func11, Tryd.ntmps11
  go_wp2_with fail
  refine FR.out.mono ?_
  rintro e w1 ⟨pb, rfl, hpb, hr1, hb1⟩
  have HR1 := Lib.hid hr1
  have hpb0 : w.heap.size < pb := by rw [World.size_alloc] at hpb; omega
  have hpb1 : pb < w1.heap.size := hr1.lt
  have HZ1 := Lib.hid (HZ0.out.below hb1 (by simp))
  have HB1 := Lib.hid (HB0.out.trans (hb1.mono (by simp)))
  clear hr1 hb1 hpb
  go_wp2_with fail
  refine (F0.out _ _ HR1.out).mono ?_
  rintro e w2 ⟨rfl, hr2, hg2⟩
  have HR2 := Lib.hid (hr2.below (below_box w2 (.cells #[.int .i64 k, .string ⟨#[]⟩, .string ⟨#[]⟩, .string ⟨#[]⟩, .string ⟨#[]⟩, .int .i64 0] 23)))
  have HZ2 := Lib.hid ((HZ1.out.grown hg2 (by simp; omega)).alloc (.cells #[.int .i64 k, .string ⟨#[]⟩, .string ⟨#[]⟩, .string ⟨#[]⟩, .string ⟨#[]⟩, .int .i64 0] 23))
  have hs2 := hg2.size
  have HB2 := Lib.hid ((HB1.out.grown hg2 HB1.out.size (fun k e => by cases e; omega)).alloc (Nat.le_trans HB1.out.size hs2) (.cells #[.int .i64 k, .string ⟨#[]⟩, .string ⟨#[]⟩, .string ⟨#[]⟩, .string ⟨#[]⟩, .int .i64 0] 23))
  have HX2 := Lib.hid (Blk.new w2 23 #[.int .i64 k, .string ⟨#[]⟩, .string ⟨#[]⟩, .string ⟨#[]⟩, .string ⟨#[]⟩, .int .i64 0])
  clear hr2 hg2
  go_wp2_with fail
  obtain ⟨g, hg⟩ : ∃ g, g = w2.heap.size := ⟨_, rfl⟩
  have hpg : pb < g := by omega
  have h0g : w.heap.size < g := by omega
  rw [← hg] at HX2
  rw [← hg]
  generalize w2.alloc (.cells #[.int .i64 k, .string ⟨#[]⟩, .string ⟨#[]⟩, .string ⟨#[]⟩, .string ⟨#[]⟩, .int .i64 0] 23) = W2 at *
  clear hg hs2 hpb1
  refine (F1.out _ _ HR2.out).mono ?_
  rintro e v1 ⟨rfl, hr, hg⟩
  have hx := HX2.out.grown hg (by simp; omega)
  have hxc := hx.cell
  have hxf := hx.frozen
  have hxz := hx.lt
  have HR3 := Lib.hid (hr.far (p := ⟨g, 1, none⟩) hpg (.string a))
  have hx' : Blk (v1.setCell ⟨g, 1, none⟩ (.string a)) g 23 #[.int .i64 k, .string a, .string ⟨#[]⟩, .string ⟨#[]⟩, .string ⟨#[]⟩, .int .i64 0] := hx.set_ 1 (.string a)
  have HX3 := Lib.hid hx'
  have HZ3 := Lib.hid ((HZ2.out.grown hg (by simp; omega)).far (p := ⟨g, 1, none⟩) (by show w.heap.size ≠ g; omega) (.string a))
  have HB3 := Lib.hid ((HB2.out.grown hg HB2.out.size (fun k e => by cases e; omega)).setCell (p := ⟨g, 1, none⟩) (by show w.heap.size ≤ g; omega) (.string a))
  clear hr hg hx'
  go_wp2_with fail
  clear hxc hxf hx hxz
  generalize v1.setCell ⟨g, 1, none⟩ (.string a) = W3 at *
  refine (F2.out _ _ HR3.out).mono ?_
  rintro e v2 ⟨rfl, hr, hg⟩
  have hx := HX3.out.grown hg (by simp; omega)
  have hxc := hx.cell
  have hxf := hx.frozen
  have hxz := hx.lt
  have HR4 := Lib.hid (hr.far (p := ⟨g, 2, none⟩) hpg (.string b))
  have hx' : Blk (v2.setCell ⟨g, 2, none⟩ (.string b)) g 23 #[.int .i64 k, .string a, .string b, .string ⟨#[]⟩, .string ⟨#[]⟩, .int .i64 0] := hx.set_ 2 (.string b)
  have HX4 := Lib.hid hx'
  have HZ4 := Lib.hid ((HZ3.out.grown hg (by simp; omega)).far (p := ⟨g, 2, none⟩) (by show w.heap.size ≠ g; omega) (.string b))
  have HB4 := Lib.hid ((HB3.out.grown hg HB3.out.size (fun k e => by cases e; omega)).setCell (p := ⟨g, 2, none⟩) (by show w.heap.size ≤ g; omega) (.string b))
  clear hr hg hx'
  go_wp2_with fail
  clear hxc hxf hx hxz
  generalize v2.setCell ⟨g, 2, none⟩ (.string b) = W4 at *
  refine (F3.out _ _ HR4.out).mono ?_
  rintro e v3 ⟨rfl, hr, hg⟩
  have hx := HX4.out.grown hg (by simp; omega)
  have hxc := hx.cell
  have hxf := hx.frozen
  have hxz := hx.lt
  have HR5 := Lib.hid (hr.far (p := ⟨g, 3, none⟩) hpg (.string c))
  have hx' : Blk (v3.setCell ⟨g, 3, none⟩ (.string c)) g 23 #[.int .i64 k, .string a, .string b, .string c, .string ⟨#[]⟩, .int .i64 0] := hx.set_ 3 (.string c)
  have HX5 := Lib.hid hx'
  have HZ5 := Lib.hid ((HZ4.out.grown hg (by simp; omega)).far (p := ⟨g, 3, none⟩) (by show w.heap.size ≠ g; omega) (.string c))
  have HB5 := Lib.hid ((HB4.out.grown hg HB4.out.size (fun k e => by cases e; omega)).setCell (p := ⟨g, 3, none⟩) (by show w.heap.size ≤ g; omega) (.string c))
  clear hr hg hx'
  go_wp2_with fail
  clear hxc hxf hx hxz
  generalize v3.setCell ⟨g, 3, none⟩ (.string c) = W5 at *
  refine (F4.out _ _ HR5.out).mono ?_
  rintro e v4 ⟨rfl, hr, hg⟩
  have hx := HX5.out.grown hg (by simp; omega)
  have hxc := hx.cell
  have hxf := hx.frozen
  have hxz := hx.lt
  have HR6 := Lib.hid (hr.far (p := ⟨g, 4, none⟩) hpg (.string d))
  have hx' : Blk (v4.setCell ⟨g, 4, none⟩ (.string d)) g 23 #[.int .i64 k, .string a, .string b, .string c, .string d, .int .i64 0] := hx.set_ 4 (.string d)
  have HX6 := Lib.hid hx'
  have HZ6 := Lib.hid ((HZ5.out.grown hg (by simp; omega)).far (p := ⟨g, 4, none⟩) (by show w.heap.size ≠ g; omega) (.string d))
  have HB6 := Lib.hid ((HB5.out.grown hg HB5.out.size (fun k e => by cases e; omega)).setCell (p := ⟨g, 4, none⟩) (by show w.heap.size ≤ g; omega) (.string d))
  clear hr hg hx'
  go_wp2_with fail
  clear hxc hxf hx hxz
  generalize v4.setCell ⟨g, 4, none⟩ (.string d) = W6 at *
  refine (F5.out _ _ HR6.out).mono ?_
  rintro e v5 ⟨rfl, hr, hg⟩
  have hx := HX6.out.grown hg (by simp; omega)
  have hxc := hx.cell
  have hxf := hx.frozen
  have hxz := hx.lt
  have HR7 := Lib.hid (hr.far (p := ⟨g, 5, none⟩) hpg (.int .i64 zn'))
  have hx' : Blk (v5.setCell ⟨g, 5, none⟩ (.int .i64 zn')) g 23 #[.int .i64 k, .string a, .string b, .string c, .string d, .int .i64 zn'] := hx.set_ 5 (.int .i64 zn')
  have HX7 := Lib.hid hx'
  have HZ7 := Lib.hid ((HZ6.out.grown hg (by simp; omega)).far (p := ⟨g, 5, none⟩) (by show w.heap.size ≠ g; omega) (.int .i64 zn'))
  have HB7 := Lib.hid ((HB6.out.grown hg HB6.out.size (fun k e => by cases e; omega)).setCell (p := ⟨g, 5, none⟩) (by show w.heap.size ≤ g; omega) (.int .i64 zn'))
  clear hr hg hx'
  go_wp2_with (go_at_call 33; refine (FZ.out _).mono ?_; rintro e w' ⟨rfl, rfl⟩)
  clear hxc hxf hx hxz
  generalize v5.setCell ⟨g, 5, none⟩ (.int .i64 zn') = W7 at *
  refine (done_any HR7.out).mono ?_
  rintro e w8 ⟨rfl, rfl⟩
  generalize (!s6.bad && decide (s6.bs = [])) = x at *
  have hzc := HZ7.out.cell
  have hzf := HZ7.out.frozen
  have hzz := HZ7.out.lt
  cases x
  · have E := Lib.hid (ofR_bad1 HP.out)
    go_wp2
    refine bodyPost_ret (v := .tuple #[.agg zcells, .int .i64 20]) (by simp [results, Tryd.results11, go_sem, hzc]) rfl ⟨by rw [E.out], ?_⟩
    exact below6 HB7.out (Nat.le_refl _) _ _ _ _ _ _
  · have hxc := HX7.out.cell
    have hxz := HX7.out.lt
    go_wp2_with fail
    refine (check_any _ _ HSm.out (HV.out.below HB7.out)).mono ?_
    rintro e w9 ⟨rfl, hb9⟩
    have HX9 := HX7.out.below hb9 HX7.out.lt
    have HZ9 := HZ7.out.below hb9 HZ7.out.lt
    have HB9 := Lib.hid (HB7.out.trans (hb9.mono (Nat.le_trans (Nat.le_of_lt h0g) (Nat.le_of_lt hxz))))
    have hE : ofR bs = if chk ⟨k, a, b, c, d, zn'⟩ = 0 then (⟨k, a, b, c, d, zn'⟩, 0) else (zcmd, 20) := by
      split
      · rename_i h; exact ofR_good HP.out h
      · rename_i h; exact ofR_bad2 HP.out h
    clear hxc hzc hzf hzz hb9
    have hxc := HX9.cell
    have hxz9 := HX9.lt
    have hzc := HZ9.cell
    have hzf := HZ9.frozen
    have hzz := HZ9.lt
    generalize chk ⟨k, a, b, c, d, zn'⟩ = ck at *
    by_cases h0 : ck = 0
    · rw [if_pos h0] at hE
      have E := Lib.hid hE
      clear hE
      subst h0
      go_wp2
      refine bodyPost_ret (v := .tuple #[.agg #[.int .i64 k, .string a, .string b, .string c, .string d, .int .i64 zn'], .int .i64 0]) (by simp [results, Tryd.results11, go_sem, hzc]) rfl ⟨by rw [E.out], ?_⟩
      exact below6 HB9.out (Nat.le_refl _) _ _ _ _ _ _
    · rw [if_neg h0] at hE
      have E := Lib.hid hE
      have q : (ck != 0) = true := by rw [bne_iff_ne]; exact h0
      clear hE h0
      go_wp2
      refine bodyPost_ret (v := .tuple #[.agg zcells, .int .i64 20]) (by simp [results, Tryd.results11, go_sem, hzc]) rfl ⟨by rw [E.out], ?_⟩
      exact below6 HB9.out (Nat.le_refl _) _ _ _ _ _ _
set_option maxRecDepth 100000 in
set_option maxHeartbeats 4000000 in
theorem rof_any (A : Option Addr) (cap : Nat) (bs : List UInt8) (w : World) (h : Reads w w.heap.size 1 A bs.length (cellsB bs)) (_hn : A = none → bs.length = 0 ∧ cap = 0) (hcap : bs.length ≤ cap) (hl : bs.length ≤ 4294967296) :
    Calls Tryd.prog 12 #[.slice A bs.length cap] w (OfSaid bs w) := by
  obtain ⟨k, s1, e0⟩ : ∃ k' t', numR ⟨bs, false⟩ 20 = (k', t') := ⟨_, _, rfl⟩
  obtain ⟨sa, s2, e1⟩ : ∃ a' t', textR s1 300 = (a', t') := ⟨_, _, rfl⟩
  obtain ⟨sb, s3, e2⟩ : ∃ a' t', textR s2 300 = (a', t') := ⟨_, _, rfl⟩
  obtain ⟨sc, s4, e3⟩ : ∃ a' t', textR s3 300 = (a', t') := ⟨_, _, rfl⟩
  obtain ⟨sd, s5, e4⟩ : ∃ a' t', textR s4 300 = (a', t') := ⟨_, _, rfl⟩
  obtain ⟨n, s6, e5⟩ : ∃ n' t', numR s5 18446744073709551615 = (n', t') := ⟨_, _, rfl⟩
  have k20 : k ≤ 20 := by have := numR_le ⟨bs, false⟩ 20; rw [e0] at this; exact this
  have n64 : n ≤ 18446744073709551615 := by have := numR_le s5 18446744073709551615; rw [e5] at this; exact this
  have la : sa.length ≤ 300 := by have := textR_le s1 300; rw [e1] at this; exact this
  have lb : sb.length ≤ 300 := by have := textR_le s2 300; rw [e2] at this; exact this
  have lc : sc.length ≤ 300 := by have := textR_le s3 300; rw [e3] at this; exact this
  have ld : sd.length ≤ 300 := by have := textR_le s4 300; rw [e4] at this; exact this
  have hp : parse bs = (⟨k, ⟨sa.toArray⟩, ⟨sb.toArray⟩, ⟨sc.toArray⟩, ⟨sd.toArray⟩, zagI n⟩, !s6.bad && decide (s6.bs = [])) := by
    unfold parse; simp only [e0, e1, e2, e3, e4, e5]
  have HP := Lib.hid hp
  clear hp
  have F0 := Lib.hid (fun (W : World) (pb : Nat) (h : RdAt W 70 pb ⟨bs, false⟩) => (show Calls Tryd.prog 35 #[.pointer (some ⟨pb, 0, none⟩), numV 20] W fun e w' => e = .returned (numV k) ∧ RdAt w' 70 pb s1 ∧ W.grownBy w' (some pb) by have := rrnum_any 20 h; rw [e0] at this; exact this))
  have F1 := Lib.hid (fun (W : World) (pb : Nat) (h : RdAt W 70 pb s1) => (show Calls Tryd.prog 36 #[.pointer (some ⟨pb, 0, none⟩), .int .i64 300] W fun e w' => e = .returned (.string ⟨sa.toArray⟩) ∧ RdAt w' 70 pb s2 ∧ W.grownBy w' (some pb) by have := rrtext_any 300 (by omega) h; rw [e1] at this; exact this))
  have F2 := Lib.hid (fun (W : World) (pb : Nat) (h : RdAt W 70 pb s2) => (show Calls Tryd.prog 36 #[.pointer (some ⟨pb, 0, none⟩), .int .i64 300] W fun e w' => e = .returned (.string ⟨sb.toArray⟩) ∧ RdAt w' 70 pb s3 ∧ W.grownBy w' (some pb) by have := rrtext_any 300 (by omega) h; rw [e2] at this; exact this))
  have F3 := Lib.hid (fun (W : World) (pb : Nat) (h : RdAt W 70 pb s3) => (show Calls Tryd.prog 36 #[.pointer (some ⟨pb, 0, none⟩), .int .i64 300] W fun e w' => e = .returned (.string ⟨sc.toArray⟩) ∧ RdAt w' 70 pb s4 ∧ W.grownBy w' (some pb) by have := rrtext_any 300 (by omega) h; rw [e3] at this; exact this))
  have F4 := Lib.hid (fun (W : World) (pb : Nat) (h : RdAt W 70 pb s4) => (show Calls Tryd.prog 36 #[.pointer (some ⟨pb, 0, none⟩), .int .i64 300] W fun e w' => e = .returned (.string ⟨sd.toArray⟩) ∧ RdAt w' 70 pb s5 ∧ W.grownBy w' (some pb) by have := rrtext_any 300 (by omega) h; rw [e4] at this; exact this))
  have F5 := Lib.hid (fun (W : World) (pb : Nat) (h : RdAt W 70 pb s5) => (show Calls Tryd.prog 35 #[.pointer (some ⟨pb, 0, none⟩), numV 18446744073709551615] W fun e w' => e = .returned (numV n) ∧ RdAt w' 70 pb s6 ∧ W.grownBy w' (some pb) by have := rrnum_any 18446744073709551615 h; rw [e5] at this; exact this))
  clear e0 e1 e2 e3 e4 e5
  have za : (⟨sa.toArray⟩ : ByteArray).size ≤ 300 := by simpa [ByteArray.size] using la
  have zb : (⟨sb.toArray⟩ : ByteArray).size ≤ 300 := by simpa [ByteArray.size] using lb
  have zc : (⟨sc.toArray⟩ : ByteArray).size ≤ 300 := by simpa [ByteArray.size] using lc
  have zd : (⟨sd.toArray⟩ : ByteArray).size ≤ 300 := by simpa [ByteArray.size] using ld
  clear la lb lc ld
  generalize (⟨sa.toArray⟩ : ByteArray) = a at *
  generalize (⟨sb.toArray⟩ : ByteArray) = b at *
  generalize (⟨sc.toArray⟩ : ByteArray) = c at *
  generalize (⟨sd.toArray⟩ : ByteArray) = d at *
  have zn := zag_bd (u := (n : Int)) (by omega) (by omega)
  have FZ := Lib.hid (fun W => rzag_any (n : Int) W (by omega) (by omega))
  generalize zagI (n : Int) = zn' at *
  have HSm := Lib.hid (show (CmdD.mk k a b c d zn').Small from ⟨by simp only; omega, by simp only; omega, zn.1, zn.2, by intro s hs; simp at hs; rcases hs with rfl | rfl | rfl | rfl <;> omega⟩)
  have HZ0 := Lib.hid (Blk.new w 23 zcells)
  have HB0 := Lib.hid (below_box w (.cells zcells 23))
  have HRd := Lib.hid (h.alloc (Nat.le_refl _) (.cells zcells 23))
  clear h
  go_enter Tryd.func12, Tryd.ntmps12
  have HR1 := Lib.hid (RdAt.raw (HRd.out.more (by simp)) hcap hl 70)
  have HZ1 := Lib.hid (HZ0.out.alloc (.cells #[.slice A bs.length cap, .bool false] 70))
  have HB1 := Lib.hid (HB0.out.trans (below_box' (.cells #[.slice A bs.length cap, .bool false] 70) (by simp)))
  clear _hn
  generalize bs.length = m at *
  go_wp2_with fail
  obtain ⟨pb, hpb⟩ : ∃ pb, pb = w.heap.size + 1 := ⟨_, rfl⟩
  have hpb0 : w.heap.size < pb := by omega
  have hpb1 : pb < ((w.alloc (.cells zcells 23)).alloc (.cells #[.slice A m cap, .bool false] 70)).heap.size := by simp; omega
  rw [World.size_alloc, ← hpb] at HR1
  rw [← hpb]
  generalize (w.alloc (.cells zcells 23)).alloc (.cells #[.slice A m cap, .bool false] 70) = w1 at *
  clear hpb
  refine (F0.out _ _ HR1.out).mono ?_
  rintro e w2 ⟨rfl, hr2, hg2⟩
  have HR2 := Lib.hid (hr2.below (below_box w2 (.cells #[.int .i64 k, .string ⟨#[]⟩, .string ⟨#[]⟩, .string ⟨#[]⟩, .string ⟨#[]⟩, .int .i64 0] 23)))
  have HZ2 := Lib.hid ((HZ1.out.grown hg2 (by simp; omega)).alloc (.cells #[.int .i64 k, .string ⟨#[]⟩, .string ⟨#[]⟩, .string ⟨#[]⟩, .string ⟨#[]⟩, .int .i64 0] 23))
  have hs2 := hg2.size
  have HB2 := Lib.hid ((HB1.out.grown hg2 HB1.out.size (fun k e => by cases e; omega)).alloc (Nat.le_trans HB1.out.size hs2) (.cells #[.int .i64 k, .string ⟨#[]⟩, .string ⟨#[]⟩, .string ⟨#[]⟩, .string ⟨#[]⟩, .int .i64 0] 23))
  have HX2 := Lib.hid (Blk.new w2 23 #[.int .i64 k, .string ⟨#[]⟩, .string ⟨#[]⟩, .string ⟨#[]⟩, .string ⟨#[]⟩, .int .i64 0])
  clear hr2 hg2
  go_wp2_with fail
  obtain ⟨g, hg⟩ : ∃ g, g = w2.heap.size := ⟨_, rfl⟩
  have hpg : pb < g := by omega
  have h0g : w.heap.size < g := by omega
  rw [← hg] at HX2
  rw [← hg]
  generalize w2.alloc (.cells #[.int .i64 k, .string ⟨#[]⟩, .string ⟨#[]⟩, .string ⟨#[]⟩, .string ⟨#[]⟩, .int .i64 0] 23) = W2 at *
  clear hg hs2 hpb1
  refine (F1.out _ _ HR2.out).mono ?_
  rintro e v1 ⟨rfl, hr, hg⟩
  have hx := HX2.out.grown hg (by simp; omega)
  have hxc := hx.cell
  have hxf := hx.frozen
  have hxz := hx.lt
  have HR3 := Lib.hid (hr.far (p := ⟨g, 1, none⟩) hpg (.string a))
  have hx' : Blk (v1.setCell ⟨g, 1, none⟩ (.string a)) g 23 #[.int .i64 k, .string a, .string ⟨#[]⟩, .string ⟨#[]⟩, .string ⟨#[]⟩, .int .i64 0] := hx.set_ 1 (.string a)
  have HX3 := Lib.hid hx'
  have HZ3 := Lib.hid ((HZ2.out.grown hg (by simp; omega)).far (p := ⟨g, 1, none⟩) (by show w.heap.size ≠ g; omega) (.string a))
  have HB3 := Lib.hid ((HB2.out.grown hg HB2.out.size (fun k e => by cases e; omega)).setCell (p := ⟨g, 1, none⟩) (by show w.heap.size ≤ g; omega) (.string a))
  clear hr hg hx'
  go_wp2_with fail
  clear hxc hxf hx hxz
  generalize v1.setCell ⟨g, 1, none⟩ (.string a) = W3 at *
  refine (F2.out _ _ HR3.out).mono ?_
  rintro e v2 ⟨rfl, hr, hg⟩
  have hx := HX3.out.grown hg (by simp; omega)
  have hxc := hx.cell
  have hxf := hx.frozen
  have hxz := hx.lt
  have HR4 := Lib.hid (hr.far (p := ⟨g, 2, none⟩) hpg (.string b))
  have hx' : Blk (v2.setCell ⟨g, 2, none⟩ (.string b)) g 23 #[.int .i64 k, .string a, .string b, .string ⟨#[]⟩, .string ⟨#[]⟩, .int .i64 0] := hx.set_ 2 (.string b)
  have HX4 := Lib.hid hx'
  have HZ4 := Lib.hid ((HZ3.out.grown hg (by simp; omega)).far (p := ⟨g, 2, none⟩) (by show w.heap.size ≠ g; omega) (.string b))
  have HB4 := Lib.hid ((HB3.out.grown hg HB3.out.size (fun k e => by cases e; omega)).setCell (p := ⟨g, 2, none⟩) (by show w.heap.size ≤ g; omega) (.string b))
  clear hr hg hx'
  go_wp2_with fail
  clear hxc hxf hx hxz
  generalize v2.setCell ⟨g, 2, none⟩ (.string b) = W4 at *
  refine (F3.out _ _ HR4.out).mono ?_
  rintro e v3 ⟨rfl, hr, hg⟩
  have hx := HX4.out.grown hg (by simp; omega)
  have hxc := hx.cell
  have hxf := hx.frozen
  have hxz := hx.lt
  have HR5 := Lib.hid (hr.far (p := ⟨g, 3, none⟩) hpg (.string c))
  have hx' : Blk (v3.setCell ⟨g, 3, none⟩ (.string c)) g 23 #[.int .i64 k, .string a, .string b, .string c, .string ⟨#[]⟩, .int .i64 0] := hx.set_ 3 (.string c)
  have HX5 := Lib.hid hx'
  have HZ5 := Lib.hid ((HZ4.out.grown hg (by simp; omega)).far (p := ⟨g, 3, none⟩) (by show w.heap.size ≠ g; omega) (.string c))
  have HB5 := Lib.hid ((HB4.out.grown hg HB4.out.size (fun k e => by cases e; omega)).setCell (p := ⟨g, 3, none⟩) (by show w.heap.size ≤ g; omega) (.string c))
  clear hr hg hx'
  go_wp2_with fail
  clear hxc hxf hx hxz
  generalize v3.setCell ⟨g, 3, none⟩ (.string c) = W5 at *
  refine (F4.out _ _ HR5.out).mono ?_
  rintro e v4 ⟨rfl, hr, hg⟩
  have hx := HX5.out.grown hg (by simp; omega)
  have hxc := hx.cell
  have hxf := hx.frozen
  have hxz := hx.lt
  have HR6 := Lib.hid (hr.far (p := ⟨g, 4, none⟩) hpg (.string d))
  have hx' : Blk (v4.setCell ⟨g, 4, none⟩ (.string d)) g 23 #[.int .i64 k, .string a, .string b, .string c, .string d, .int .i64 0] := hx.set_ 4 (.string d)
  have HX6 := Lib.hid hx'
  have HZ6 := Lib.hid ((HZ5.out.grown hg (by simp; omega)).far (p := ⟨g, 4, none⟩) (by show w.heap.size ≠ g; omega) (.string d))
  have HB6 := Lib.hid ((HB5.out.grown hg HB5.out.size (fun k e => by cases e; omega)).setCell (p := ⟨g, 4, none⟩) (by show w.heap.size ≤ g; omega) (.string d))
  clear hr hg hx'
  go_wp2_with fail
  clear hxc hxf hx hxz
  generalize v4.setCell ⟨g, 4, none⟩ (.string d) = W6 at *
  refine (F5.out _ _ HR6.out).mono ?_
  rintro e v5 ⟨rfl, hr, hg⟩
  have hx := HX6.out.grown hg (by simp; omega)
  have hxc := hx.cell
  have hxf := hx.frozen
  have hxz := hx.lt
  have HR7 := Lib.hid (hr.far (p := ⟨g, 5, none⟩) hpg (.int .i64 zn'))
  have hx' : Blk (v5.setCell ⟨g, 5, none⟩ (.int .i64 zn')) g 23 #[.int .i64 k, .string a, .string b, .string c, .string d, .int .i64 zn'] := hx.set_ 5 (.int .i64 zn')
  have HX7 := Lib.hid hx'
  have HZ7 := Lib.hid ((HZ6.out.grown hg (by simp; omega)).far (p := ⟨g, 5, none⟩) (by show w.heap.size ≠ g; omega) (.int .i64 zn'))
  have HB7 := Lib.hid ((HB6.out.grown hg HB6.out.size (fun k e => by cases e; omega)).setCell (p := ⟨g, 5, none⟩) (by show w.heap.size ≤ g; omega) (.int .i64 zn'))
  clear hr hg hx'
  go_wp2_with (go_at_call 37; refine (FZ.out _).mono ?_; rintro e w' ⟨rfl, rfl⟩)
  clear hxc hxf hx hxz
  generalize v5.setCell ⟨g, 5, none⟩ (.int .i64 zn') = W7 at *
  refine (rdone_any HR7.out).mono ?_
  rintro e w8 ⟨rfl, rfl⟩
  generalize (!s6.bad && decide (s6.bs = [])) = x at *
  have hzc := HZ7.out.cell
  have hzf := HZ7.out.frozen
  have hzz := HZ7.out.lt
  cases x
  · have E := Lib.hid (ofR_bad1 HP.out)
    go_wp2
    refine bodyPost_ret (v := .tuple #[.agg zcells, .int .i64 20]) (by simp [results, Tryd.results12, go_sem, hzc]) rfl ⟨by rw [E.out], ?_⟩
    exact below6 HB7.out (Nat.le_refl _) _ _ _ _ _ _
  · have hxc := HX7.out.cell
    have hxz := HX7.out.lt
    go_wp2_with fail
    refine (rcheck_any _ _ HSm.out).mono ?_
    rintro e w9 ⟨rfl, hb9⟩
    have HX9 := HX7.out.below hb9 HX7.out.lt
    have HZ9 := HZ7.out.below hb9 HZ7.out.lt
    have HB9 := Lib.hid (HB7.out.trans (hb9.mono (Nat.le_trans (Nat.le_of_lt h0g) (Nat.le_of_lt hxz))))
    have hE : ofR bs = if chk ⟨k, a, b, c, d, zn'⟩ = 0 then (⟨k, a, b, c, d, zn'⟩, 0) else (zcmd, 20) := by
      split
      · rename_i h; exact ofR_good HP.out h
      · rename_i h; exact ofR_bad2 HP.out h
    clear hxc hzc hzf hzz hb9
    have hxc := HX9.cell
    have hxz9 := HX9.lt
    have hzc := HZ9.cell
    have hzf := HZ9.frozen
    have hzz := HZ9.lt
    generalize chk ⟨k, a, b, c, d, zn'⟩ = ck at *
    by_cases h0 : ck = 0
    · rw [if_pos h0] at hE
      have E := Lib.hid hE
      clear hE
      subst h0
      go_wp2
      refine bodyPost_ret (v := .tuple #[.agg #[.int .i64 k, .string a, .string b, .string c, .string d, .int .i64 zn'], .int .i64 0]) (by simp [results, Tryd.results12, go_sem, hzc]) rfl ⟨by rw [E.out], ?_⟩
      exact below6 HB9.out (Nat.le_refl _) _ _ _ _ _ _
    · rw [if_neg h0] at hE
      have E := Lib.hid hE
      have q : (ck != 0) = true := by rw [bne_iff_ne]; exact h0
      clear hE h0
      go_wp2
      refine bodyPost_ret (v := .tuple #[.agg zcells, .int .i64 20]) (by simp [results, Tryd.results12, go_sem, hzc]) rfl ⟨by rw [E.out], ?_⟩
      exact below6 HB9.out (Nat.le_refl _) _ _ _ _ _ _
end Go.Proofs.YtpgchdjfeklobaaDoor
