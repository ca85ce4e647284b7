/-
  The law of an append that finds no room, for slices of refs; walks of the reference's Set and Drop.
-/
import Derived.Test.YtpgchdjfeklobaaWalkI
namespace Go.Proofs.Ytpgchdjfeklobaa
open Go.RowKit Go.Maps

theorem flat_len (L : List RefD) : (L.flatMap refCs).length = L.length * 3 := by
  induction L with
  | nil => rfl
  | cons r l ih => rw [List.flatMap_cons, List.length_append, ih]; simp [refCs]; omega
theorem flat_at : ∀ {L : List RefD} {j : Nat} {r : RefD}, L[j]? = some r → (L.flatMap refCs)[j * 3]? = some (Value.string r.name) ∧ (L.flatMap refCs)[j * 3 + 1]? = some (Value.bool r.tag) ∧ (L.flatMap refCs)[j * 3 + 2]? = some (Value.int .u64 r.id)
  | [], _, _, h => by cases h
  | x :: l, 0, r, h => by
    simp at h
    subst h
    simp [refCs]
  | x :: l, j + 1, r, h => by
    have h' : l[j]? = some r := by simpa using h
    obtain ⟨h1, h2, h3⟩ := flat_at h'
    rw [List.flatMap_cons]
    have e : ∀ i, (refCs x ++ l.flatMap refCs)[(j + 1) * 3 + i]? = (l.flatMap refCs)[j * 3 + i]? := by
      intro i
      rw [List.getElem?_append_right (by simp [refCs]; omega)]
      congr 1
      simp [refCs]; omega
    exact ⟨by have := e 0; simp only [Nat.add_zero] at this; rw [this]; exact h1, by rw [e 1]; exact h2, by rw [e 2]; exact h3⟩
theorem refsAt_cells {w : World} : ∀ {L : List RefD} {g off : Nat}, (∀ (j : Nat) (r : RefD), L[j]? = some r → w.cell? ⟨g, off + j * 3, none⟩ = some (.string r.name) ∧ w.cell? ⟨g, off + j * 3 + 1, none⟩ = some (.bool r.tag) ∧ w.cell? ⟨g, off + j * 3 + 2, none⟩ = some (.int .u64 r.id)) →
    ∀ (j : Nat) (v : Value), (L.flatMap refCs)[j]? = some v → w.cell? ((⟨g, off, none⟩ : Addr).add j) = some v
  | [], _, _, _, _, _, h => by cases h
  | x :: l, g, off, hc, j, v, h => by
    have hadd : ∀ (o k : Nat), (⟨g, o, none⟩ : Addr).add k = ⟨g, o + k, none⟩ := by intro o k; unfold Addr.add; split <;> simp_all
    obtain ⟨h1, h2, h3⟩ := hc 0 x rfl
    rw [hadd]
    rcases Nat.lt_or_ge j 3 with hj | hj
    · rw [List.flatMap_cons, List.getElem?_append_left (by simpa [refCs] using hj)] at h
      match j, hj, h with
      | 0, _, h => simp [refCs] at h; subst h; simpa using h1
      | 1, _, h => simp [refCs] at h; subst h; simpa using h2
      | 2, _, h => simp [refCs] at h; subst h; simpa using h3
    · rw [List.flatMap_cons, List.getElem?_append_right (by simpa [refCs] using hj)] at h
      have h' : (l.flatMap refCs)[j - 3]? = some v := by simpa [refCs] using h
      have := refsAt_cells (L := l) (g := g) (off := off + 3) (fun i r hi => by
        have := hc (i + 1) r (by simpa using hi)
        have e1 : off + 3 + i * 3 = off + (i + 1) * 3 := by omega
        rw [e1]
        exact this) (j - 3) v h'
      rw [hadd] at this
      have e2 : off + 3 + (j - 3) = off + j := by omega
      rwa [e2] at this
theorem RefsAt.cells {w : World} {g off : Nat} {L : List RefD} (h : RefsAt w (some ⟨g, off, none⟩) L) : ∀ (j : Nat) (v : Value), (L.flatMap refCs)[j]? = some v → w.cell? ((⟨g, off, none⟩ : Addr).add j) = some v := by
  rcases h with rfl | ⟨g', off', e, _, hc⟩
  · intro j v h; cases h
  · cases e
    exact refsAt_cells hc
theorem RefsAt.cells' {w : World} {a : Addr} {L : List RefD} (h : RefsAt w (some a) L) : ∀ (j : Nat) (v : Value), (L.flatMap refCs)[j]? = some v → w.cell? (a.add j) = some v := by
  rcases h with rfl | ⟨g', off', e, hg, hc⟩
  · intro j v h; cases h
  · cases e
    exact refsAt_cells hc
theorem zeroCells_size (c : Array Value) (n : Nat) : (Builtin.zeroCells c n).size = n * c.size := by simp [Builtin.zeroCells]
theorem grownCap_ge (w : World) (need old : Nat) (e : TypeId) (h : need ≤ maxLen) : need ≤ grownCap w need old e ∧ grownCap w need old e ≤ maxLen := by
  have hd : grownCap w need old e = need + w.tape w.drawn (.appendCap need old e) % (2 ^ 63 - need) := rfl
  rw [hd]
  unfold maxLen at *
  have hp : 0 < 2 ^ 63 - need := by omega
  have := Nat.mod_lt (w.tape w.drawn (.appendCap need old e)) hp
  omega

/-- An append of refs that finds no room: a new row. -/
theorem run_append_new (w : World) (A : Option Addr) (k cap : Nat) (olds : List RefD) (hA : RefsAt w A olds) (ho : olds.length = k) (hAn : A = none → k = 0 ∧ cap = 0) (B : Option Addr) (m c : Nat) (news : List RefD) (hB : RefsAt w B news) (hm : news.length = m)
    (hroom : cap < k + m) (hk : k ≤ cap) (hb : (k + m) * 32 ≤ 140737488355328) :
    ∃ c', (Builtin.append_ #[22, 22] 22 #[.slice A k cap, .slice B m c]).run Try.prog w = .ok (.slice (some ⟨w.heap.size, 0, none⟩) (k + m) c') (w.drew.alloc (.cells ((olds ++ news).flatMap refCs ++ (Builtin.zeroCells #[.string ByteArray.empty, .bool false, .int .u64 0] (c' - (k + m))).toList).toArray 32)) ∧
      k + m ≤ c' ∧ c' ≤ maxLen := by
  obtain ⟨i0, hi, hz0, hz1, hz2⟩ := info_parts info32
  have hml : k + m ≤ maxLen := by unfold maxLen; omega
  have hgc := grownCap_ge w (k + m) cap 32 hml
  have hnn : 0 < m := by omega
  have hBs : ∃ b, B = some b := by
    rcases hB with rfl | ⟨g, off, e, _⟩
    · simp at hm; omega
    · exact ⟨_, e⟩
  obtain ⟨b, rfl⟩ := hBs
  refine ⟨grownCap w (k + m) cap 32, ?_, hgc⟩
  have hl2 : (news.flatMap refCs).length = m * i0.size := by rw [flat_len, hz1, hm]
  cases A with
  | none =>
    obtain ⟨rfl, rfl⟩ := hAn rfl
    have ho' : olds = [] := List.eq_nil_of_length_eq_zero ho
    subst ho'
    have hrun := run_append_nil (P := Try.prog) w 22 22 32 i0 _ Try.underlying22 hi hz0 b m c (news.flatMap refCs) hl2 hB.cells' hnn (by omega) (by rw [hz2]; omega)
    simp only [Nat.zero_add] at *
    rw [hrun]
    congr 3
    simp [Value.cells]
  | some a =>
    have hl1 : (olds.flatMap refCs).length = k * i0.size := by rw [flat_len, hz1, ho]
    have hrun := run_append_grow (P := Try.prog) w 22 22 32 i0 _ Try.underlying22 hi hz0 a k cap (olds.flatMap refCs) hl1 hA.cells' b m c (news.flatMap refCs) hl2 hB.cells' hroom (by unfold maxLen at hml; omega) (by rw [hz2]; exact growslice_fits hroom hb)
    rw [hrun]
    congr 3
    simp [Value.cells]
/-- The new row holds them. -/
theorem row_new (w : World) (base : Nat) (hb : base ≤ w.heap.size) (L : List RefD) (zs : Array Value) (c' n : Nat) (hn : L.length = n) (hl : n ≤ c') (hm : c' ≤ maxLen) (hz : zs.size = (c' - n) * 3) (W : World)
    (hW : W.heap[w.heap.size]? = some (.cells (L.flatMap refCs ++ zs.toList).toArray 32 (0, 0))) : RowOf W base (some ⟨w.heap.size, 0, none⟩) c' L := by
  refine .inr ⟨w.heap.size, _, rfl, hb, hW, by omega, ?_, hm, fun j r hj => ?_⟩
  · simp only [List.size_toArray, List.length_append, flat_len, Array.length_toList, hz, hn]
    omega
  · have hjl : j < L.length := (List.getElem?_eq_some_iff.1 hj).1
    obtain ⟨h1, h2, h3⟩ := flat_at hj
    have e : ∀ i, i < 3 → (L.flatMap refCs ++ zs.toList).toArray[j * 3 + i]? = (L.flatMap refCs)[j * 3 + i]? := by
      intro i hi
      rw [List.getElem?_toArray, List.getElem?_append_left (by rw [flat_len]; omega)]
    exact ⟨by have := e 0 (by omega); simp only [Nat.add_zero] at this; rw [this]; exact h1, by rw [e 1 (by omega)]; exact h2, by rw [e 2 (by omega)]; exact h3⟩

/-- What the reference's calls keep: all below base, and all that is no row of refs and no table of its own. -/
structure RKeep (base : Nat) (w w' : World) : Prop where
  os : w'.os = w.os
  tape : w'.tape = w.tape
  output : w'.output = w.output
  size : w.heap.size ≤ w'.heap.size
  block : ∀ k, k < w.heap.size → (k < base ∨ ∀ (cs : Array Value) (t : TypeId) (f : Nat × Nat), w.heap[k]? = some (Obj.cells cs t f) → t ≠ 46 ∧ t ≠ 32) → w'.heap[k]? = w.heap[k]?
theorem RKeep.of_below {base : Nat} {w w' : World} (h : Below w.heap.size w w') : RKeep base w w' := ⟨h.os, h.tape, h.output, h.size, fun k hk _ => h.block k hk⟩
theorem RKeep.trans {base : Nat} {a b c : World} (h : RKeep base a b) (k : RKeep base b c) : RKeep base a c :=
  ⟨k.os.trans h.os, k.tape.trans h.tape, k.output.trans h.output, Nat.le_trans h.size k.size, fun i hi hx => by
    have h1 := h.block i hi hx
    refine (k.block i (Nat.lt_of_lt_of_le hi h.size) ?_).trans h1
    rcases hx with hx | hx
    · exact .inl hx
    · exact .inr (fun cs t f e => hx cs t f (h1 ▸ e))⟩
theorem RKeep.setCell {base : Nat} {w : World} {g i : Nat} {cur : Array Value} {t : TypeId} (hb : base ≤ g) (hg : w.heap[g]? = some (.cells cur t (0, 0))) (ht : t = 46 ∨ t = 32) (u : Value) : RKeep base w (w.setCell ⟨g, i, none⟩ u) :=
  ⟨rfl, rfl, rfl, by simp [World.setCell], fun k _ hx => Below.heap_setCell w ⟨g, i, none⟩ u k (fun e => by
    have e' : k = g := e
    subst e'
    rcases hx with hx | hx
    · exact absurd hx (Nat.not_lt.2 hb)
    · have := hx _ _ _ hg
      rcases ht with rfl | rfl
      · exact this.1 rfl
      · exact this.2 rfl)⟩
theorem RKeep.below {base : Nat} {a w w' : World} (h : Below base a w) (k : RKeep base w w') (hb : base ≤ w.heap.size) : Below base a w' :=
  ⟨k.os.trans h.os, k.tape.trans h.tape, k.output.trans h.output, Nat.le_trans h.size k.size, fun i hi => (k.block i (Nat.lt_of_lt_of_le hi hb) (.inl hi)).trans (h.block i hi)⟩

theorem map_set {L : List RefD} (hL : Rising L) {s : ByteArray} {r : RefD} (id : Int) (h : getL L s = some r) : (L.map fun x => if x.name = s then { x with id := id } else x) = L.set (idx L s) { r with id := id } := by
  obtain ⟨hi, hlt⟩ := idx_some h
  obtain ⟨_, hn⟩ := getL_some h
  apply List.ext_getElem?
  intro j
  rw [List.getElem?_map, List.getElem?_set]
  by_cases e : idx L s = j
  · subst e
    rw [hi]
    simp [hlt, hn]
  · rw [if_neg e]
    cases hj : L[j]? with
    | none => rfl
    | some x =>
      simp only [Option.map_some]
      by_cases hx : x.name = s
      · have h1 := getL_unique hL h (List.mem_of_getElem? hj) hx
        subst h1
        exfalso
        have hjl := (List.getElem?_eq_some_iff.1 hj)
        have hil := (List.getElem?_eq_some_iff.1 hi)
        have hp := List.pairwise_iff_getElem.1 hL
        rcases Nat.lt_or_gt_of_ne e with hlt' | hlt'
        · have := hp _ _ hil.1 hjl.1 hlt'
          rw [hil.2, hjl.2, WideAt.bytes_irrefl] at this
          cases this
        · have := hp _ _ hjl.1 hil.1 hlt'
          rw [hil.2, hjl.2, WideAt.bytes_irrefl] at this
          cases this
      · rw [if_neg hx]
theorem rtab_set {w : World} {base pb g cap k : Nat} {L : List RefD} {cur : Array Value} {r : RefD} (id : Int) (hb : w.heap[pb]? = some (.cells #[.slice (some ⟨g, 0, none⟩) L.length cap] 46 (0, 0))) (hbg : base ≤ g)
    (hg : w.heap[g]? = some (.cells cur 32 (0, 0))) (hlc : L.length ≤ cap) (hcs : cap * 3 ≤ cur.size) (hcm : cap ≤ maxLen)
    (hc : ∀ (j : Nat) (r : RefD), L[j]? = some r → cur[j * 3]? = some (Value.string r.name) ∧ cur[j * 3 + 1]? = some (Value.bool r.tag) ∧ cur[j * 3 + 2]? = some (Value.int .u64 r.id))
    (hr : L[k]? = some r) : RTab (w.setCell ⟨g, k * 3 + 2, none⟩ (.int .u64 id)) base pb (L.set k { r with id := id }) := by
  have hne : pb ≠ g := by
    rintro rfl
    rw [hb] at hg
    simp at hg
  have hk := (List.getElem?_eq_some_iff.1 hr).1
  have hg' : (w.setCell ⟨g, k * 3 + 2, none⟩ (.int .u64 id)).heap[g]? = some (.cells (cur.setIfInBounds (k * 3 + 2) (.int .u64 id)) 32 (0, 0)) := by
    simp [World.setCell, Array.getElem?_modify, hg]
  refine ⟨some ⟨g, 0, none⟩, cap, ?_, .inr ⟨g, _, rfl, hbg, hg', ?_, ?_, hcm, ?_⟩⟩
  · rw [List.length_set]
    exact (Below.heap_setCell w ⟨g, k * 3 + 2, none⟩ _ pb hne).trans hb
  · rw [List.length_set]; exact hlc
  · simpa using hcs
  · intro j x hj
    rw [List.getElem?_set] at hj
    simp only [Array.getElem?_setIfInBounds]
    by_cases e : k = j
    · subst e
      rw [if_pos rfl, if_pos hk] at hj
      cases hj
      obtain ⟨h1, h2, h3⟩ := hc k r hr
      refine ⟨?_, ?_, ?_⟩
      · rw [if_neg (by omega)]; exact h1
      · rw [if_neg (by omega)]; exact h2
      · rw [if_pos rfl, if_pos (by omega)]
    · rw [if_neg e] at hj
      obtain ⟨h1, h2, h3⟩ := hc j x hj
      refine ⟨?_, ?_, ?_⟩
      · rw [if_neg (by omega)]; exact h1
      · rw [if_neg (by omega)]; exact h2
      · rw [if_neg (by omega)]; exact h3

set_option maxHeartbeats 2000000 in
theorem rset_none (base pb : Nat) (L : List RefD) (s : ByteArray) (old id : Int) (w : World) (hl : L.length ≤ maxLen) (hs : ∀ r ∈ L, r.name.size ≤ maxLen) (h : RTab w base pb L) (hg : getL L s = none) :
    Calls Try.prog 12 #[.pointer (some ⟨pb, 0, none⟩), .string s, .int .u64 old, .int .u64 id] w fun e w' => e = .returned (.int .i64 111) ∧ Below w.heap.size w w' := by
  have hat : atI L s = -1 := by unfold atI; rw [hg]
  have HA := Lib.hid hat
  clear hat hg
  go_enter Try.func12, Try.ntmps12
  go_wp2_with (go_at_call 24; refine (at_any base pb L s _ hl hs h).mono ?_; rintro e w1 ⟨rfl, hb1⟩; rw [HA.out]; have HB1 := Lib.hid hb1; clear hb1)
  go_ret
  exact ⟨rfl, HB1.out⟩

set_option maxHeartbeats 2000000 in
theorem rset_some (base pb : Nat) (L : List RefD) (s : ByteArray) (old id : Int) (r : RefD) (w : World) (hl : L.length ≤ maxLen) (hs : ∀ r ∈ L, r.name.size ≤ maxLen) (hL : Rising L) (h : RTab w base pb L) (hg : getL L s = some r) :
    Calls Try.prog 12 #[.pointer (some ⟨pb, 0, none⟩), .string s, .int .u64 old, .int .u64 id] w fun e w' => e = .returned (.int .i64 (setL L s old id).1) ∧ RTab w' base pb (setL L s old id).2 ∧ RKeep base w w' := by
  have hms := map_set hL id hg
  have e1 : setL L s old id = (if r.tag = true then (114, L) else if r.id ≠ old then (113, L) else (0, L.set (idx L s) { r with id := id })) := by
    unfold setL; rw [hg]; simp only [hms]
  rw [e1]
  clear hms e1
  obtain ⟨hi, hlt⟩ := idx_some hg
  have hat : atI L s = (idx L s : Int) := by unfold atI; rw [hg]
  generalize idx L s = k at *
  have HA := Lib.hid hat
  clear hat hg
  have HTab := Lib.hid h
  obtain ⟨A, cap, hb, hr⟩ := h
  have hpl := blk_lt hb
  rcases hr with ⟨rfl, _⟩ | ⟨g, cur, rfl, hbg, hgb, hlc, hcs, hcm, hcc⟩
  · cases hi
  · have hgl := blk_lt hgb
    have hc : w.cell? ⟨pb, 0, none⟩ = some (.slice (some ⟨g, 0, none⟩) L.length cap) := by rw [blk_cell hb]; rfl
    obtain ⟨q0, q1, q2⟩ := hcc k r hi
    have c1 : w.cell? ⟨g, k * 3 + 1, none⟩ = some (.bool r.tag) := by rw [blk_cell hgb]; exact q1
    have c2 : w.cell? ⟨g, k * 3 + 2, none⟩ = some (.int .u64 r.id) := by rw [blk_cell hgb]; exact q2
    have f2 : w.frozen? ⟨g, k * 3 + 2, none⟩ = false := blk_frozen hgb
    have HI := Lib.hid (And.intro hb (And.intro hgb (And.intro hcc hi)))
    clear hb hgb hcc hi q0 q1 q2 hL
    unfold maxLen at hl
    generalize hn : L.length = n at *
    have HN := Lib.hid hn
    clear hn
    cases ht : r.tag with
    | true =>
      go_enter Try.func12, Try.ntmps12
      go_wp2_with (go_at_call 24; refine (at_any base pb L s _ (by unfold maxLen; rw [HN.out]; omega) hs HTab.out).mono ?_; rintro e w1 ⟨rfl, hb1⟩; rw [HA.out]; obtain ⟨hc1, hf1⟩ := bcell hb1; have HB1 := Lib.hid hb1; clear hb1)
      go_ret
      exact ⟨rfl, HTab.out.below HB1.out, RKeep.of_below HB1.out⟩
    | false =>
      by_cases hne : r.id = old
      · have hneq : (r.id != old) = false := by simp [hne]
        have HNE := Lib.hid hne
        clear hne
        go_enter Try.func12, Try.ntmps12
        go_wp2_with (go_at_call 24; refine (at_any base pb L s _ (by unfold maxLen; rw [HN.out]; omega) hs HTab.out).mono ?_; rintro e w1 ⟨rfl, hb1⟩; rw [HA.out]; obtain ⟨hc1, hf1⟩ := bcell hb1; have HB1 := Lib.hid hb1; clear hb1)
        go_ret
        obtain ⟨hb, hgb, hcc, hi⟩ := HI.out
        have hb1' := (HB1.out.block pb hpl).trans hb
        have hg1' := (HB1.out.block g hgl).trans hgb
        rw [← HN.out] at hb1' hlc
        have hfin := rtab_set id hb1' hbg hg1' hlc hcs hcm hcc hi
        rw [ht] at hfin
        exact ⟨rfl, hfin, (RKeep.of_below HB1.out).trans (RKeep.setCell hbg hg1' (.inr rfl) _)⟩
      · have hneq : (r.id != old) = true := by simp [hne]
        have HNE := Lib.hid hne
        clear hne
        go_enter Try.func12, Try.ntmps12
        go_wp2_with (go_at_call 24; refine (at_any base pb L s _ (by unfold maxLen; rw [HN.out]; omega) hs HTab.out).mono ?_; rintro e w1 ⟨rfl, hb1⟩; rw [HA.out]; obtain ⟨hc1, hf1⟩ := bcell hb1; have HB1 := Lib.hid hb1; clear hb1)
        go_ret
        exact ⟨rfl, HTab.out.below HB1.out, RKeep.of_below HB1.out⟩
end Go.Proofs.Ytpgchdjfeklobaa
