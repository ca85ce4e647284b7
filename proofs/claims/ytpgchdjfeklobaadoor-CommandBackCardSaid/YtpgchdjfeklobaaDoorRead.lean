/-
  Walks of the program's reader: ok, fail, Left, Done, Num, Text, Read.
-/
import Derived.Laws.BytesString
import Derived.Laws.IdiomStrings
import Derived.Shelf.Bytes.SlSmallAll
import Derived.Test.YtpgchdjfeklobaaDoorLeb
namespace Go.Proofs.YtpgchdjfeklobaaDoor
open Go.RowKit

structure RdS where
  bs : List UInt8
  bad : Bool
def RdS.failed : RdS := ⟨[], true⟩
def numR (s : RdS) (most : Nat) : Nat × RdS :=
  if s.bad then (0, s) else match lebOf s.bs with | none => (0, RdS.failed) | some (n, k) => if most < n then (0, RdS.failed) else (n, ⟨s.bs.drop k, false⟩)
def textR (s : RdS) (most : Nat) : List UInt8 × RdS :=
  let r := numR s most
  if r.2.bad then ([], r.2) else if r.2.bs.length < r.1 then ([], RdS.failed) else (r.2.bs.take r.1, ⟨r.2.bs.drop r.1, false⟩)
/-- The reader in block pb (of type T) is at s. -/
structure RdAt (W : World) (T : TypeId) (pb : Nat) (s : RdS) : Prop where
  ex : ∃ A cap, Blk W pb T #[.slice A s.bs.length cap, .bool s.bad] ∧ Reads W pb 1 A s.bs.length (cellsB s.bs) ∧ s.bs.length ≤ cap
  few : s.bs.length ≤ 4294967296
  bad : s.bad = true → s.bs = []
theorem conv_reads {w : World} {B : Nat} {A : Option Addr} {bs : List UInt8} (h : Reads w B 1 A bs.length (cellsB bs)) (cap : Nat) : (convert 24 9 (.slice A bs.length cap)).run Tryd.prog w = .ok (.string ⟨bs.toArray⟩) w := by
  cases hb : bs with
  | nil => exact run_convert_bytes_zero w 24 5 Tryd.underlying24 Tryd.underlying5 A cap 9 Tryd.underlying9
  | cons x l =>
    rw [← hb]
    obtain ⟨ad, rfl, _, hc⟩ := h.2 (by rw [hb]; simp)
    refine run_convert_bytes_back w 24 9 5 ad cap bs Tryd.underlying24 Tryd.underlying5 Tryd.underlying9 fun j hj => ?_
    exact hc j _ (by unfold cellsB; rw [List.getElem?_map, List.getElem?_eq_getElem hj]; rfl)

theorem len0 (bs : List UInt8) : ((bs.length : Int) == 0) = decide (bs = []) := by cases bs <;> simp; omega
section
variable {W : World} {pb : Nat} {s : RdS}
set_option maxHeartbeats 1000000 in
theorem ok_any (h : RdAt W 129 pb s) : Calls Tryd.prog 78 #[.pointer (some ⟨pb, 0, none⟩)] W fun e w' => e = .returned (.bool (!s.bad)) ∧ W = w' := by
  obtain ⟨A, cap, hb, _, _⟩ := h.ex
  have hc := hb.cell 1
  have hp := hb.lt
  simp at hc
  clear h hb
  go_enter Tryd.func78, Tryd.ntmps78
  go_wp2
  go_ret
  exact ⟨rfl, rfl⟩
theorem fail_at {T : TypeId} {W : World} {a b : Value} (hb : Blk W pb T #[a, b]) : RdAt ((W.setCell ⟨pb, 0, none⟩ (.slice none 0 0)).setCell ⟨pb, 1, none⟩ (.bool true)) T pb RdS.failed ∧ W.grownBy ((W.setCell ⟨pb, 0, none⟩ (.slice none 0 0)).setCell ⟨pb, 1, none⟩ (.bool true)) (some pb) := by
  have h1 := (hb.set_ 0 (.slice none 0 0)).set_ 1 (.bool true)
  refine ⟨⟨⟨none, 0, h1, Reads.none_, Nat.le_refl _⟩, by simp [RdS.failed], fun _ => rfl⟩, ?_⟩
  have g1 : W.grownBy (W.setCell ⟨pb, 0, none⟩ (.slice none 0 0)) (some pb) := grownBy_setCell' W pb _
  refine ⟨rfl, rfl, rfl, by simp [World.setCell], fun k hk hne => ?_⟩
  rw [Below.heap_setCell _ ⟨pb, 1, none⟩ _ k (fun e => hne (by rw [e])), Below.heap_setCell _ ⟨pb, 0, none⟩ _ k (fun e => hne (by rw [e]))]
set_option maxHeartbeats 1000000 in
theorem fail_any (h : RdAt W 129 pb s) : Calls Tryd.prog 80 #[.pointer (some ⟨pb, 0, none⟩)] W fun e w' => e = .returned (.tuple #[]) ∧ RdAt w' 129 pb RdS.failed ∧ W.grownBy w' (some pb) := by
  obtain ⟨A, cap, hb, _, _⟩ := h.ex
  have hc0 := hb.cell 0
  have hc1 := hb.cell 1
  have hf0 := hb.frozen 0
  have hf1 := hb.frozen 1
  have hp := hb.lt
  have HB := Lib.hid hb
  simp at hc0 hc1
  clear h hb
  go_enter Tryd.func80, Tryd.ntmps80
  go_wp2
  go_end0
  exact ⟨rfl, fail_at HB.out⟩
set_option maxHeartbeats 1000000 in
theorem left_any (h : RdAt W 129 pb s) : Calls Tryd.prog 81 #[.pointer (some ⟨pb, 0, none⟩)] W fun e w' => e = .returned (.int .i64 s.bs.length) ∧ W = w' := by
  obtain ⟨A, cap, hb, hr, _⟩ := h.ex
  have hc := hb.cell 0
  have hp := hb.lt
  have H := Lib.hid h
  simp at hc
  by_cases hbad : s.bad = true
  · have e0 : s.bs = [] := h.bad hbad
    have HE := Lib.hid e0
    clear h hb hr hc e0
    go_enter Tryd.func81, Tryd.ntmps81
    go_wp2_with (go_at_call 78; refine (ok_any H.out).mono ?_; rw [hbad]; rintro e w' ⟨rfl, rfl⟩)
    go_ret
    exact ⟨by rw [HE.out]; rfl, rfl⟩
  · have hbad' : s.bad = false := by simpa using hbad
    clear h hb hr hbad
    go_enter Tryd.func81, Tryd.ntmps81
    go_wp2_with (go_at_call 78; refine (ok_any H.out).mono ?_; rw [hbad']; rintro e w' ⟨rfl, rfl⟩)
    go_ret
    exact ⟨rfl, rfl⟩
set_option maxHeartbeats 1000000 in
theorem done_any (h : RdAt W 129 pb s) : Calls Tryd.prog 34 #[.pointer (some ⟨pb, 0, none⟩)] W fun e w' => e = .returned (.bool (!s.bad && decide (s.bs = []))) ∧ W = w' := by
  obtain ⟨A, cap, hb, hr, _⟩ := h.ex
  have hc := hb.cell 0
  have hp := hb.lt
  have H := Lib.hid h
  simp at hc
  by_cases hbad : s.bad = true
  · clear h hb hr hc
    go_enter Tryd.func34, Tryd.ntmps34
    go_wp2_with (go_at_call 78; refine (ok_any H.out).mono ?_; rw [hbad]; rintro e w' ⟨rfl, rfl⟩)
    go_ret
    exact ⟨by rw [hbad]; rfl, rfl⟩
  · have hbad' : s.bad = false := by simpa using hbad
    clear h hb hr hbad
    go_enter Tryd.func34, Tryd.ntmps34
    go_wp2_with (go_at_call 78; refine (ok_any H.out).mono ?_; rw [hbad']; rintro e w' ⟨rfl, rfl⟩)
    go_ret
    exact ⟨by rw [hbad', ← len0 s.bs]; rfl, rfl⟩
end

theorem slice_lo (W : World) (A : Option Addr) (n cap k : Nat) (hk : k ≤ n) : (Instr.sliceAt 24 (.slice A n cap) (some (.int .i64 (k : Int))) none none).run Tryd.prog W = .ok (.slice (if cap = k then A else A.map (·.add (k * 1))) (n - k) (cap - k)) W := by
  have h1 : (0 : Int) ≤ (k : Int) := by omega
  have h2 : (k : Int) ≤ (n : Int) := by omega
  obtain ⟨i0, hi, hz0, hz1, hz2⟩ := info5'
  simp [Instr.sliceAt, Instr.slice, run_underlying Tryd.underlying24, Instr.sliceBounds, run_sliceBound, h1, h2, sizeOf, typeInfo, hi, hz1, Result.andThen]
theorem slice_lo_u (W : World) (A : Option Addr) (n cap k : Nat) (hk : k ≤ n) : (Instr.sliceAt 24 (.slice A n cap) (some (.int .u64 (k : Int))) none none).run Tryd.prog W = .ok (.slice (if cap = k then A else A.map (·.add (k * 1))) (n - k) (cap - k)) W := by
  have h1 : (0 : Int) ≤ (k : Int) := by omega
  have h2 : (k : Int) ≤ (n : Int) := by omega
  obtain ⟨i0, hi, hz0, hz1, hz2⟩ := info5'
  simp [Instr.sliceAt, Instr.slice, run_underlying Tryd.underlying24, Instr.sliceBounds, run_sliceBound, h1, h2, sizeOf, typeInfo, hi, hz1, Result.andThen]
theorem slice_hi_u (W : World) (A : Option Addr) (n cap k : Nat) (hk : k ≤ cap) : (Instr.sliceAt 24 (.slice A n cap) none (some (.int .u64 (k : Int))) none).run Tryd.prog W = .ok (.slice A k cap) W := by
  have h1 : (0 : Int) ≤ (k : Int) := by omega
  have h2 : (k : Int) ≤ (cap : Int) := by omega
  obtain ⟨i0, hi, hz0, hz1, hz2⟩ := info5'
  simp [Instr.sliceAt, Instr.slice, run_underlying Tryd.underlying24, Instr.sliceBounds, run_sliceBound, h1, h2, sizeOf, typeInfo, hi, Result.andThen]
  try (intro h; cases A with
    | none => rfl
    | some a => simp [Addr.add])
/-- What is left of a reader's slice behind k bytes. -/
theorem RdAt.cut {W : World} {T : TypeId} {pb : Nat} {A : Option Addr} {bs : List UInt8} {cap k : Nat} {u : Value} (hb : Blk W pb T #[u, .bool false]) (hr : Reads W pb 1 A bs.length (cellsB bs)) (hc : bs.length ≤ cap) (hf : bs.length ≤ 4294967296) (hk : k ≤ bs.length) :
    RdAt (W.setCell ⟨pb, 0, none⟩ (.slice (if cap = k then A else A.map (·.add (k * 1))) (bs.length - k) (cap - k))) T pb ⟨bs.drop k, false⟩ := by
  have h1 := hb.set_ 0 (.slice (if cap = k then A else A.map (·.add (k * 1))) (bs.length - k) (cap - k))
  have h2 := hr.cut hk hc
  have e1 : (cellsB bs).drop (k * 1) = cellsB (bs.drop k) := by unfold cellsB; rw [Nat.mul_one, List.map_drop]
  rw [e1] at h2
  have e2 : (bs.drop k).length = bs.length - k := List.length_drop
  rw [← e2] at h1 h2 ⊢
  exact ⟨⟨(if cap = k then A else A.map (·.add (k * 1))), cap - k, h1, h2.setCell (Nat.le_refl _) _, by show (bs.drop k).length ≤ _; omega⟩, by show (bs.drop k).length ≤ _; omega, fun h => by cases h⟩

section
variable {W : World} {pb : Nat} {s : RdS}
set_option maxRecDepth 100000 in
set_option maxHeartbeats 2000000 in
theorem num_any (most : Nat) (h : RdAt W 129 pb s) : Calls Tryd.prog 31 #[.pointer (some ⟨pb, 0, none⟩), numV most] W fun e w' => e = .returned (numV (numR s most).1) ∧ RdAt w' 129 pb (numR s most).2 ∧ W.grownBy w' (some pb) := by
  obtain ⟨A, cap, hb, hr, hcap⟩ := h.ex
  have hp := hb.lt
  have H := Lib.hid h
  by_cases hbad : s.bad = true
  · have e1 : numR s most = (0, s) := by unfold numR; rw [if_pos hbad]
    rw [e1]
    clear h hb hr hcap e1
    go_enter Tryd.func31, Tryd.ntmps31
    go_wp2_with (go_at_call 78; refine (ok_any H.out).mono ?_; rw [hbad]; rintro e w' ⟨rfl, rfl⟩)
    go_ret
    exact ⟨rfl, H.out, grown_refl _ _⟩
  · have hbad' : s.bad = false := by simpa using hbad
    rw [hbad'] at hb
    have hc := hb.cell 0
    have hf := hb.frozen 0
    simp at hc
    have F := lebof_any A cap s.bs pb W hr h.few
    have hfew := h.few
    cases hL : lebOf s.bs with
    | none =>
      have e1 : numR s most = (0, RdS.failed) := by unfold numR; rw [if_neg hbad, hL]
      rw [e1]
      rw [hL] at F
      simp only [lebV] at F
      have HF := Lib.hid F
      clear h hb hr hcap e1 F hbad hL
      generalize s.bs.length = m at *
      go_enter Tryd.func31, Tryd.ntmps31
      go_wp2_with (first
        | (go_at_call 78; refine (ok_any H.out).mono ?_; rw [hbad']; rintro e w' ⟨rfl, rfl⟩)
        | (go_at_call 79; refine HF.out.mono ?_; rintro e w' ⟨rfl, rfl⟩)
        | (go_at_call 80; refine (fail_any H.out).mono ?_; rintro e w' ⟨rfl, hr2, hg2⟩))
      go_ret
      exact ⟨rfl, hr2, hg2⟩
    | some p =>
      obtain ⟨n, k⟩ := p
      obtain ⟨hn, hk, hbs⟩ := lebOf_of hL
      have hkl : k ≤ s.bs.length := by
        have := congrArg List.length hbs
        rw [List.length_append] at this
        omega
      rw [hL] at F
      simp only [lebV] at F
      have HF := Lib.hid F
      by_cases hmost : most < n
      · have e1 : numR s most = (0, RdS.failed) := by unfold numR; rw [if_neg hbad, hL]; simp [hmost]
        rw [e1]
        clear h hb hr hcap e1 F hbad hL hbs hk
        generalize s.bs.length = m at *
        go_enter Tryd.func31, Tryd.ntmps31
        go_wp2_with (first
          | (go_at_call 78; refine (ok_any H.out).mono ?_; rw [hbad']; rintro e w' ⟨rfl, rfl⟩)
          | (go_at_call 79; refine HF.out.mono ?_; rintro e w' ⟨rfl, rfl⟩)
          | (go_at_call 80; refine (fail_any H.out).mono ?_; rintro e w' ⟨rfl, hr2, hg2⟩))
        go_ret
        exact ⟨rfl, hr2, hg2⟩
      · have e1 : numR s most = (n, ⟨s.bs.drop k, false⟩) := by unfold numR; rw [if_neg hbad, hL]; simp [hmost]
        rw [e1]
        have hsl := fun W => slice_lo W A s.bs.length cap k hkl
        have hcut := RdAt.cut hb hr hcap hfew hkl
        generalize (if cap = k then A else A.map (·.add (k * 1))) = A' at hsl hcut
        have HC := Lib.hid hcut
        clear h hb hr e1 F hbad hL hbs hk hcut
        generalize s.bs.length = m at *
        go_enter Tryd.func31, Tryd.ntmps31
        go_wp2_with (first
          | (go_at_call 78; refine (ok_any H.out).mono ?_; rw [hbad']; rintro e w' ⟨rfl, rfl⟩)
          | (go_at_call 79; refine HF.out.mono ?_; rintro e w' ⟨rfl, rfl⟩))
        go_ret
        exact ⟨rfl, HC.out, grownBy_setCell' _ _ _⟩
theorem numR_bad {s : RdS} {most : Nat} (h : (numR s most).2.bad = true) : (numR s most).1 = 0 := by
  unfold numR at *
  split at h
  · rename_i h1; rw [if_pos h1]
  · rename_i h1
    rw [if_neg h1]
    split at h
    · rfl
    · split at h
      · rename_i h2; rw [if_pos h2]
      · cases h
theorem Reads.front {B n k : Nat} {A : Option Addr} {bs : List UInt8} (h : Reads W B 1 A n (cellsB bs)) (hk : k ≤ n) : Reads W B 1 A k (cellsB (bs.take k)) := by
  have hl : bs.length = n := by have := h.1; simpa [cellsB] using this
  refine ⟨by simp [cellsB]; omega, fun h0 => ?_⟩
  obtain ⟨ad, e, hb, hc⟩ := h.2 (by omega)
  refine ⟨ad, e, hb, fun j u hj => hc j u ?_⟩
  unfold cellsB at hj ⊢
  rw [List.getElem?_map, List.getElem?_take] at hj
  rw [List.getElem?_map]
  split at hj
  · exact hj
  · cases hj
theorem grown_trans {a b c : World} {row : Option Nat} (h : a.grownBy b row) (k : b.grownBy c row) : a.grownBy c row :=
  ⟨k.os.trans h.os, k.tape.trans h.tape, k.output.trans h.output, Nat.le_trans h.size k.size, fun i hi hne => (k.block i (Nat.lt_of_lt_of_le hi h.size) hne).trans (h.block i hi hne)⟩

set_option maxRecDepth 100000 in
set_option maxHeartbeats 2000000 in
theorem text_any (most : Nat) (hm : most ≤ 1000000000) (h : RdAt W 129 pb s) : Calls Tryd.prog 32 #[.pointer (some ⟨pb, 0, none⟩), .int .i64 most] W fun e w' => e = .returned (.string ⟨(textR s most).1.toArray⟩) ∧ RdAt w' 129 pb (textR s most).2 ∧ W.grownBy w' (some pb) := by
  have F := num_any most h
  have HBad := Lib.hid (@numR_bad s most)
  unfold textR
  generalize numR s most = r at *
  obtain ⟨n, s1⟩ := r
  simp only at F HBad ⊢
  have HF := Lib.hid F
  clear F
  by_cases hbad : s1.bad = true
  · have hn0 : n = 0 := HBad.out hbad
    rw [if_pos hbad]
    clear h
    go_enter Tryd.func32, Tryd.ntmps32
    go_wp2_with (first
      | (go_at_call 31; refine HF.out.mono ?_; rw [hn0]; rintro e w1 ⟨rfl, hr1, hg1⟩; have HR1 := Lib.hid hr1; have HG1 := Lib.hid hg1; have hz := hr1.bad hbad; have HZ := Lib.hid hz; clear hr1 hg1 hz)
      | (go_at_call 81; refine (left_any HR1.out).mono ?_; rw [HZ.out]; rintro e w' ⟨rfl, rfl⟩)
      | (go_at_call 78; refine (ok_any HR1.out).mono ?_; rw [hbad]; rintro e w' ⟨rfl, rfl⟩))
    go_ret
    exact ⟨rfl, HR1.out, HG1.out⟩
  · have hbad' : s1.bad = false := by simpa using hbad
    rw [if_neg hbad]
    clear h hbad
    by_cases hlt : s1.bs.length < n
    · rw [if_pos hlt]
      go_enter Tryd.func32, Tryd.ntmps32
      go_wp2_with (first
        | (go_at_call 31; refine HF.out.mono ?_; rintro e w1 ⟨rfl, hr1, hg1⟩; have HR1 := Lib.hid hr1; have HG1 := Lib.hid hg1; have hfw := hr1.few; clear hr1 hg1)
        | (go_at_call 81; refine (left_any HR1.out).mono ?_; rintro e w' ⟨rfl, rfl⟩)
        | (go_at_call 80; refine (fail_any HR1.out).mono ?_; rintro e w2 ⟨rfl, hr2, hg2⟩; have HR2 := Lib.hid hr2; have HG2 := Lib.hid hg2; clear hr2 hg2)
        | (go_at_call 78; refine (ok_any HR2.out).mono ?_; rintro e w' ⟨rfl, rfl⟩))
      go_ret
      exact ⟨rfl, HR2.out, grown_trans HG1.out HG2.out⟩
    · rw [if_neg hlt]
      go_enter Tryd.func32, Tryd.ntmps32
      go_upto_region 9 with (first
        | (go_at_call 31; refine HF.out.mono ?_; rintro e w1 ⟨rfl, hr1, hg1⟩; have HR1 := Lib.hid hr1; have HG1 := Lib.hid hg1; have hfw := hr1.few; clear hr1 hg1)
        | (go_at_call 81; refine (left_any HR1.out).mono ?_; rintro e w' ⟨rfl, rfl⟩)
        | (go_at_call 78; refine (ok_any HR1.out).mono ?_; rw [hbad']; rintro e w' ⟨rfl, rfl⟩))
      obtain ⟨A1, cap1, hb1, hrd1, hcp1⟩ := HR1.out.ex
      have hn : n ≤ s1.bs.length := by omega
      have etk : (s1.bs.take n).length = n := by rw [List.length_take, Nat.min_eq_left hn]
      have hfr := hrd1.front hn
      generalize htk : s1.bs.take n = tk at etk hfr ⊢
      have HTK := Lib.hid htk
      clear htk
      rw [← etk] at hfr
      have hcv := conv_reads hfr cap1
      rw [etk] at hcv
      have hsh := fun W => slice_hi_u W A1 s1.bs.length cap1 n (by omega)
      have hsl := fun W => slice_lo_u W A1 s1.bs.length cap1 n hn
      have hc1 := hb1.cell 0
      have hf1 := hb1.frozen 0
      have hp1 := hb1.lt
      simp at hc1
      rw [hbad'] at hb1
      have hcut := RdAt.cut hb1 hrd1 hcp1 hfw hn
      generalize (if cap1 = n then A1 else A1.map (·.add (n * 1))) = A' at hsl hcut
      have HC := Lib.hid hcut
      clear hb1 hrd1 hcut hfr etk
      generalize s1.bs.length = m at *
      go_wp2
      go_ret
      exact ⟨by rw [HTK.out]; rfl, HC.out, grown_trans HG1.out (grownBy_setCell' _ _ _)⟩
end

theorem RdAt.new_ {w : World} {base n cap : Nat} {A : Option Addr} {bs : List UInt8} (h : Own w base (.slice A n cap) bs) (hl : bs.length ≤ 4294967296) (T : TypeId) : RdAt (w.alloc (.cells #[.slice A n cap, .bool false] T)) T w.heap.size ⟨bs, false⟩ := by
  have h' : w.ownsRow base 5 1 (.slice A n cap) bs.length (cellsB bs) := h
  have hb := Blk.new w T #[.slice A n cap, .bool false]
  have key : n = bs.length ∧ n ≤ cap := by
    rcases h.2 with ⟨e, h0⟩ | ⟨g, cap', cur, e, _, _, hn, _⟩
    · cases e; exact ⟨h0.symm, Nat.le_refl _⟩
    · cases e; exact ⟨rfl, hn⟩
  obtain ⟨rfl, hc⟩ := key
  exact ⟨⟨A, cap, hb, (Reads.of_own h').alloc (Nat.le_refl _) _, hc⟩, hl, fun e => by cases e⟩

set_option maxRecDepth 100000 in
set_option maxHeartbeats 1000000 in
theorem read_any (A : Option Addr) (cap : Nat) (bs : List UInt8) (w : World) (h : Reads w w.heap.size 1 A bs.length (cellsB bs)) (hn : A = none → bs.length = 0 ∧ cap = 0) (hl : bs.length ≤ 4294967296) :
    Calls Tryd.prog 30 #[.slice A bs.length cap] w fun e w' => ∃ pb, e = .returned (.pointer (some ⟨pb, 0, none⟩)) ∧ w.heap.size ≤ pb ∧ RdAt w' 129 pb ⟨bs, false⟩ ∧ Below w.heap.size w w' := by
  have F := clone_any A cap bs w h hn hl
  have HF := Lib.hid F
  have HL := Lib.hid hl
  clear h hn F hl
  generalize hm : bs.length = m at HF ⊢
  have HM := Lib.hid hm
  clear hm
  go_enter Tryd.func30, Tryd.ntmps30
  go_wp2_with (go_at_call 77; refine HF.out.mono ?_; rintro e w1 ⟨v1, rfl, ho1, hb1⟩; have HO1 := Lib.hid ho1; obtain ⟨A1, n1, cap1, rfl⟩ := ho1.shape; have HB1 := Lib.hid hb1; clear ho1 hb1)
  go_ret
  exact ⟨_, rfl, HB1.out.size, RdAt.new_ HO1.out HL.out 129, HB1.out.alloc HB1.out.size _⟩
end Go.Proofs.YtpgchdjfeklobaaDoor
