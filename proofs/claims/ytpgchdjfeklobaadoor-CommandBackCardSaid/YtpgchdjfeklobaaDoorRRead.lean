/-
  Walks of the reference's reader: fail, Done, Num, Text.
-/
import Derived.Test.YtpgchdjfeklobaaDoorRLeb
namespace Go.Proofs.YtpgchdjfeklobaaDoor
open Go.RowKit

theorem grown_both {a b c : World} {pb : Nat} (h : Below a.heap.size a b) (k : b.grownBy c (some pb)) : a.grownBy c (some pb) :=
  grown_trans ⟨h.os, h.tape, h.output, h.size, fun i hi _ => h.block i hi⟩ k
theorem bsame {a b : World} {pb : Nat} (h : Below a.heap.size a b) (hp : pb < a.heap.size) (i : Nat) : b.cell? ⟨pb, i, none⟩ = a.cell? ⟨pb, i, none⟩ := h.cell (p := ⟨pb, i, none⟩) hp
section
variable {W : World} {pb : Nat} {s : RdS}
set_option maxHeartbeats 1000000 in
theorem rfail_any (h : RdAt W 70 pb s) : Calls Tryd.prog 83 #[.pointer (some ⟨pb, 0, none⟩)] W fun e w' => e = .returned (.tuple #[]) ∧ RdAt w' 70 pb RdS.failed ∧ W.grownBy w' (some pb) := by
  obtain ⟨A, cap, hb, _, _⟩ := h.ex
  have hc0 := hb.cell 0
  have hc1 := hb.cell 1
  have hf0 := hb.frozen 0
  have hf1 := hb.frozen 1
  have hp := hb.lt
  have HB := Lib.hid hb
  simp at hc0 hc1
  clear h hb
  go_enter Tryd.func83, Tryd.ntmps83
  go_wp2
  go_end0
  exact ⟨rfl, fail_at HB.out⟩
set_option maxHeartbeats 1000000 in
theorem rdone_any (h : RdAt W 70 pb s) : Calls Tryd.prog 38 #[.pointer (some ⟨pb, 0, none⟩)] W fun e w' => e = .returned (.bool (!s.bad && decide (s.bs = []))) ∧ W = w' := by
  obtain ⟨A, cap, hb, hr, _⟩ := h.ex
  have hp := hb.lt
  by_cases hbad : s.bad = true
  · rw [hbad] at hb
    have hc := hb.cell 0
    have hc1 := hb.cell 1
    simp at hc hc1
    clear h hb hr
    go_enter Tryd.func38, Tryd.ntmps38
    go_wp2
    go_ret
    exact ⟨by rw [hbad]; rfl, rfl⟩
  · have hbad' : s.bad = false := by simpa using hbad
    rw [hbad'] at hb
    have hc := hb.cell 0
    have hc1 := hb.cell 1
    simp at hc hc1
    clear h hb hr hbad
    go_enter Tryd.func38, Tryd.ntmps38
    go_wp2
    go_ret
    exact ⟨by rw [hbad', ← len0 s.bs]; rfl, rfl⟩
theorem RdAt.below {w : World} {T : TypeId} (h : RdAt W T pb s) (hb : Below W.heap.size W w) : RdAt w T pb s := by
  obtain ⟨A, cap, hk, hr, hc⟩ := h.ex
  have hp := hk.lt
  exact ⟨⟨A, cap, hk.below hb hp, hr.keep (fun p hpb => hb.cell (by omega)), hc⟩, h.few, h.bad⟩
set_option maxRecDepth 100000 in
set_option maxHeartbeats 2000000 in
theorem rrnum_any (most : Nat) (h : RdAt W 70 pb s) : Calls Tryd.prog 35 #[.pointer (some ⟨pb, 0, none⟩), numV most] W fun e w' => e = .returned (numV (numR s most).1) ∧ RdAt w' 70 pb (numR s most).2 ∧ W.grownBy w' (some pb) := by
  obtain ⟨A, cap, hb, hr, hcap⟩ := h.ex
  have hp := hb.lt
  have H := Lib.hid h
  have F := rleb_any A cap s.bs W (hr.more (Nat.le_of_lt hp)) hcap
  have hfew := h.few
  have hc0 := hb.cell 0
  have hc1 := hb.cell 1
  simp at hc0 hc1
  by_cases hbad : s.bad = true
  · have e0 : s.bs = [] := h.bad hbad
    have e1 : numR s most = (0, s) := by unfold numR; rw [if_pos hbad]
    have e2 : s = RdS.failed := by cases s; simp only at e0 hbad; subst e0; subst hbad; rfl
    rw [e1]
    have HE := Lib.hid e2
    rw [hbad] at hc1
    generalize lebOf s.bs = L at *
    have HF := Lib.hid F
    have hk := Lib.hid hb
    clear h hb hr hcap e1 F e0 e2
    generalize s.bs.length = m at *
    go_enter Tryd.func35, Tryd.ntmps35
    go_wp2_with (first
      | (go_at_call 82; refine HF.out.mono ?_; rintro e w1 ⟨rfl, hb1⟩; have HB1 := Lib.hid hb1; have hd1 := (bsame hb1 hp 1).trans hc1; have HR1 := Lib.hid (H.out.below hb1); have hp1 : pb < w1.heap.size := Nat.lt_of_lt_of_le hp hb1.size; clear hb1)
      | (go_at_call 83; refine (rfail_any HR1.out).mono ?_; rintro e w' ⟨rfl, hr2, hg2⟩))
    go_ret
    exact ⟨rfl, by rw [HE.out]; exact hr2, grown_both HB1.out hg2⟩
  · have hbad' : s.bad = false := by simpa using hbad
    rw [hbad'] at hb hc1
    cases hL : lebOf s.bs with
    | none =>
      have e1 : numR s most = (0, RdS.failed) := by unfold numR; rw [if_neg hbad, hL]
      rw [e1]
      rw [hL] at F
      simp only [lebV] at F
      have HF := Lib.hid F
      clear h hb hr hcap e1 F hbad hL
      generalize s.bs.length = m at *
      go_enter Tryd.func35, Tryd.ntmps35
      go_wp2_with (first
        | (go_at_call 82; refine HF.out.mono ?_; rintro e w1 ⟨rfl, hb1⟩; have HB1 := Lib.hid hb1; have hd0 := (bsame hb1 hp 0).trans hc0; have hd1 := (bsame hb1 hp 1).trans hc1; have HR1 := Lib.hid (H.out.below hb1); have hp1 : pb < w1.heap.size := Nat.lt_of_lt_of_le hp hb1.size; clear hb1)
        | (go_at_call 83; refine (rfail_any HR1.out).mono ?_; rintro e w' ⟨rfl, hr2, hg2⟩))
      go_ret
      exact ⟨rfl, hr2, grown_both HB1.out hg2⟩
    | some p =>
      obtain ⟨n, k⟩ := p
      obtain ⟨hn, hk, hbs⟩ := lebOf_of hL
      have hkl : k ≤ s.bs.length := by
        have := congrArg List.length hbs
        rw [List.length_append] at this
        omega
      rw [hL] at F
      simp only [lebV] at F
      have HF := Lib.hid F
      by_cases hmost : most < n
      · have e1 : numR s most = (0, RdS.failed) := by unfold numR; rw [if_neg hbad, hL]; simp [hmost]
        rw [e1]
        clear h hb hr hcap e1 F hbad hL hbs hk
        generalize s.bs.length = m at *
        go_enter Tryd.func35, Tryd.ntmps35
        go_wp2_with (first
          | (go_at_call 82; refine HF.out.mono ?_; rintro e w1 ⟨rfl, hb1⟩; have HB1 := Lib.hid hb1; have hd0 := (bsame hb1 hp 0).trans hc0; have hd1 := (bsame hb1 hp 1).trans hc1; have HR1 := Lib.hid (H.out.below hb1); have hp1 : pb < w1.heap.size := Nat.lt_of_lt_of_le hp hb1.size; clear hb1)
          | (go_at_call 83; refine (rfail_any HR1.out).mono ?_; rintro e w' ⟨rfl, hr2, hg2⟩))
        go_ret
        exact ⟨rfl, hr2, grown_both HB1.out hg2⟩
      · have e1 : numR s most = (n, ⟨s.bs.drop k, false⟩) := by unfold numR; rw [if_neg hbad, hL]; simp [hmost]
        rw [e1]
        have hsl := fun W => slice_lo W A s.bs.length cap k hkl
        have hcut := fun (w1 : World) (h1 : Below W.heap.size W w1) => RdAt.cut (hb.below h1 hp) (hr.keep (fun p hpb => h1.cell (by omega))) hcap hfew hkl
        generalize (if cap = k then A else A.map (·.add (k * 1))) = A' at hsl hcut
        have HC := Lib.hid hcut
        have hfz := hb.frozen 0
        have hfr := fun (w1 : World) (h1 : Below W.heap.size W w1) => (hb.below h1 hp).frozen 0
        have HFR := Lib.hid hfr
        clear h hb hr e1 F hbad hL hbs hk hcut hfr
        generalize s.bs.length = m at *
        go_enter Tryd.func35, Tryd.ntmps35
        go_wp2_with (go_at_call 82; refine HF.out.mono ?_; rintro e w1 ⟨rfl, hb1⟩; have HB1 := Lib.hid hb1; have hd0 := (bsame hb1 hp 0).trans hc0; have hd1 := (bsame hb1 hp 1).trans hc1; have hf1 := HFR.out w1 hb1; have hp1 : pb < w1.heap.size := Nat.lt_of_lt_of_le hp hb1.size; clear hb1)
        go_ret
        exact ⟨rfl, HC.out _ HB1.out, grown_both HB1.out (grownBy_setCell' _ _ _)⟩
set_option maxRecDepth 100000 in
set_option maxHeartbeats 2000000 in
theorem rrtext_any (most : Nat) (hm : most ≤ 1000000000) (h : RdAt W 70 pb s) : Calls Tryd.prog 36 #[.pointer (some ⟨pb, 0, none⟩), .int .i64 most] W fun e w' => e = .returned (.string ⟨(textR s most).1.toArray⟩) ∧ RdAt w' 70 pb (textR s most).2 ∧ W.grownBy w' (some pb) := by
  have F := rrnum_any most h
  have HBad := Lib.hid (@numR_bad s most)
  unfold textR
  generalize numR s most = r at *
  obtain ⟨n, s1⟩ := r
  simp only at F HBad ⊢
  obtain ⟨bs1, bad1⟩ := s1
  simp only at F HBad ⊢
  have HF := Lib.hid F
  clear F
  cases bad1 with
  | true =>
    have hn0 : n = 0 := HBad.out rfl
    rw [if_pos rfl]
    clear h
    go_enter Tryd.func36, Tryd.ntmps36
    go_wp2_with (first
      | (go_at_call 35; refine HF.out.mono ?_; rintro e w1 ⟨rfl, hr1, hg1⟩; have HR1 := Lib.hid hr1; have HG1 := Lib.hid hg1; have hfw := hr1.few; obtain ⟨A1, cap1, hb1, hrd1, hcp1⟩ := hr1.ex; have hd0 := hb1.cell 0; have hd1 := hb1.cell 1; have hf1 := hb1.frozen 0; have hp1 := hb1.lt; simp at hd0 hd1; have hz := hr1.bad rfl; have HZ := Lib.hid hz; clear hr1 hg1 hb1 hrd1 hz)
      | (go_at_call 83; refine (rfail_any HR1.out).mono ?_; rintro e w' ⟨rfl, hr2, hg2⟩))
    go_ret
    exact ⟨rfl, by have hz : bs1 = [] := HZ.out; rw [hz]; exact hr2, grown_trans HG1.out hg2⟩
  | false =>
    rw [if_neg (by simp)]
    clear h
    by_cases hlt : bs1.length < n
    · rw [if_pos hlt]
      go_enter Tryd.func36, Tryd.ntmps36
      go_wp2_with (first
        | (go_at_call 35; refine HF.out.mono ?_; rintro e w1 ⟨rfl, hr1, hg1⟩; have HR1 := Lib.hid hr1; have HG1 := Lib.hid hg1; have hfw := hr1.few; obtain ⟨A1, cap1, hb1, hrd1, hcp1⟩ := hr1.ex; have hd0 := hb1.cell 0; have hd1 := hb1.cell 1; have hf1 := hb1.frozen 0; have hp1 := hb1.lt; simp at hd0 hd1; clear hr1 hg1 hb1 hrd1)
        | (go_at_call 83; refine (rfail_any HR1.out).mono ?_; rintro e w' ⟨rfl, hr2, hg2⟩))
      go_ret
      exact ⟨rfl, hr2, grown_trans HG1.out hg2⟩
    · rw [if_neg hlt]
      go_enter Tryd.func36, Tryd.ntmps36
      go_upto_region 8 with (go_at_call 35; refine HF.out.mono ?_; rintro e w1 ⟨rfl, hr1, hg1⟩; have HR1 := Lib.hid hr1; have HG1 := Lib.hid hg1; have hfw := hr1.few; obtain ⟨A1, cap1, hb1, hrd1, hcp1⟩ := hr1.ex; have hd0 := hb1.cell 0; have hd1 := hb1.cell 1; have hf1 := hb1.frozen 0; have hp1 := hb1.lt; simp at hd0 hd1; clear hr1 hg1 hb1 hrd1)
      obtain ⟨A2, cap2, hb2, hrd2, hcp2⟩ := HR1.out.ex
      have hq := hb2.cell 0
      simp at hq
      have hn : n ≤ bs1.length := by omega
      have etk : (bs1.take n).length = n := by rw [List.length_take, Nat.min_eq_left hn]
      have hfr := hrd2.front hn
      generalize htk : bs1.take n = tk at etk hfr ⊢
      have HTK := Lib.hid htk
      clear htk
      rw [← etk] at hfr
      have hcv := conv_reads hfr cap2
      rw [etk] at hcv
      have hsh := fun W => slice_hi_u W A2 bs1.length cap2 n (Nat.le_trans hn hcp2)
      have hsl := fun W => slice_lo_u W A2 bs1.length cap2 n hn
      have hcut := RdAt.cut hb2 hrd2 hcp2 hfw hn
      generalize (if cap2 = n then A2 else A2.map (·.add (n * 1))) = A' at hsl hcut
      have HC := Lib.hid hcut
      clear hb2 hrd2 hcut hfr etk hd0
      have hcp1' : bs1.length ≤ cap1 := hcp1
      have hfw' : bs1.length ≤ 4294967296 := hfw
      clear hcp1 hfw
      generalize bs1.length = m at *
      go_wp2
      go_ret
      exact ⟨by rw [HTK.out]; rfl, HC.out, grown_trans HG1.out (grownBy_setCell' _ _ _)⟩
end
end Go.Proofs.YtpgchdjfeklobaaDoor
