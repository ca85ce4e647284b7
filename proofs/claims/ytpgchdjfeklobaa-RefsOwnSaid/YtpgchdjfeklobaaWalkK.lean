/-
  Walks of the reference's Drop, Make and NewTable.
-/
import Derived.RangeFuncBox
import Derived.Deep.RegionLaw
import Derived.Test.YtpgchdjfeklobaaWalkJ
namespace Go.Proofs.Ytpgchdjfeklobaa
open Go.RowKit Go.Maps

theorem rowOf_take {w : World} {base g cap k : Nat} {L : List RefD} {cur : Array Value} (hbg : base ≤ g) (hg : w.heap[g]? = some (.cells cur 32 (0, 0))) (hcs : cap * 3 ≤ cur.size) (hcm : cap ≤ maxLen)
    (hc : ∀ (j : Nat) (r : RefD), L[j]? = some r → cur[j * 3]? = some (Value.string r.name) ∧ cur[j * 3 + 1]? = some (Value.bool r.tag) ∧ cur[j * 3 + 2]? = some (Value.int .u64 r.id))
    (hk : k ≤ cap) : RowOf w base (some ⟨g, 0, none⟩) k (L.take k) := by
  refine .inr ⟨g, cur, rfl, hbg, hg, by rw [List.length_take]; omega, by omega, by omega, fun j r hj => ?_⟩
  rw [List.getElem?_take] at hj
  split at hj
  · exact hc j r hj
  · cases hj
theorem refs_take {w : World} {A : Option Addr} {L : List RefD} (h : RefsAt w A L) (k : Nat) : RefsAt w A (L.take k) := by
  rcases h with rfl | ⟨g, off, e, hg, hc⟩
  · exact .inl (by simp)
  · refine .inr ⟨g, off, e, hg, fun j r hj => hc j r ?_⟩
    rw [List.getElem?_take] at hj
    split at hj
    · exact hj
    · cases hj
theorem refs_drop {w : World} {A : Option Addr} {L : List RefD} {cap : Nat} (h : RefsAt w A L) (hcap : L.length ≤ cap) (k : Nat) : RefsAt w (if cap = k then A else A.map (·.add (k * 3))) (L.drop k) := by
  rcases h with rfl | ⟨g, off, rfl, hg, hc⟩
  · exact .inl (by simp)
  · rcases Nat.lt_or_ge k L.length with hlt | hge
    · rw [if_neg (by omega)]
      refine .inr ⟨g, off + k * 3, ?_, hg, fun j r hj => ?_⟩
      · have hadd : (⟨g, off, none⟩ : Addr).add (k * 3) = ⟨g, off + k * 3, none⟩ := by unfold Addr.add; split <;> simp_all
        simp [hadd]
      · rw [List.getElem?_drop] at hj
        have := hc (k + j) r hj
        have e : off + (k + j) * 3 = off + k * 3 + j * 3 := by omega
        rwa [e] at this
    · exact .inl (List.drop_eq_nil_of_le hge)
theorem filter_drop {L : List RefD} (hL : Rising L) {s : ByteArray} {r : RefD} (h : getL L s = some r) : (L.filter fun x => !decide (x.name = s)) = L.take (idx L s) ++ L.drop (idx L s + 1) := by
  obtain ⟨hi, hlt⟩ := idx_some h
  have hi' := (List.getElem?_eq_some_iff.1 hi).2
  obtain ⟨_, hn⟩ := getL_some h
  have hp := List.pairwise_iff_getElem.1 hL
  have hne : ∀ (j : Nat) (hj : j < L.length), j ≠ idx L s → L[j].name ≠ s := by
    intro j hj hne hx
    have h1 := getL_unique hL h (List.getElem_mem hj) hx
    rcases Nat.lt_or_gt_of_ne hne with hl | hl
    · have := hp j _ hj hlt hl
      rw [hi', h1, WideAt.bytes_irrefl] at this
      cases this
    · have := hp _ j hlt hj hl
      rw [hi', h1, WideAt.bytes_irrefl] at this
      cases this
  conv => lhs; rw [← List.take_append_drop (idx L s) L]
  rw [List.filter_append, List.drop_eq_getElem_cons hlt, List.filter_cons, hi', hn]
  simp only [decide_true, Bool.not_true, Bool.false_eq_true, if_false]
  congr 1
  · rw [List.filter_eq_self]
    intro x hx
    obtain ⟨j, hj, rfl⟩ := List.getElem_of_mem hx
    rw [List.length_take] at hj
    have := hne j (by omega) (by omega)
    simpa using this
  · rw [List.filter_eq_self]
    intro x hx
    obtain ⟨j, hj, rfl⟩ := List.getElem_of_mem hx
    rw [List.length_drop] at hj
    have := hne (idx L s + 1 + j) (by omega) (by omega)
    simpa using this

theorem rtab_of_store {w : World} {base pb : Nat} {u : Value} (hb : w.heap[pb]? = some (.cells #[u] 46 (0, 0))) (A : Option Addr) (cap : Nat) {L : List RefD} {n : Nat} (hn : L.length = n) (h : RowOf w base A cap L) : RTab (w.setCell ⟨pb, 0, none⟩ (.slice A n cap)) base pb L := by
  subst hn
  refine ⟨A, cap, ?_, h.grown (grownBy_setCell' w pb _) ?_⟩
  · simp [World.setCell, Array.getElem?_modify, hb]
  · intro g e hne
    cases hne
    rcases h with ⟨_, h0, _⟩ | ⟨g', cur, h1, _, hg, _⟩
    · rw [e] at h0; cases h0
    · rw [e] at h1
      cases h1
      rw [hb] at hg
      simp at hg
theorem run_append_zero (w : World) (A : Option Addr) (k cap : Nat) (B : Option Addr) (c : Nat) (hk : k ≤ cap) : (Builtin.append_ #[22, 22] 22 #[.slice A k cap, .slice B 0 c]).run Try.prog w = .ok (.slice A k cap) w := by
  obtain ⟨i0, hi, hz0, hz1, hz2⟩ := info_parts info32
  cases B <;> cases A <;> simp [Builtin.append_, run_underlying Try.underlying22, sizeOf, typeInfo, hi, Builtin.lenOf, Builtin.firstCells, hk, storeCells, loadCells, loadCellsFrom]

theorem slice_hm (W : World) (A : Option Addr) (n cap k : Nat) (hk : k ≤ cap) : (Instr.sliceAt 22 (.slice A n cap) none (some (.int .i64 (k : Int))) (some (.int .i64 (k : Int)))).run Try.prog W = .ok (.slice A k k) W := by
  have h1 : (0 : Int) ≤ (k : Int) := by omega
  have h2 : (k : Int) ≤ (cap : Int) := by omega
  obtain ⟨i0, hi, hz0, hz1, hz2⟩ := info_parts info32
  simp [Instr.sliceAt, Instr.slice, run_underlying Try.underlying22, Instr.sliceBounds, run_sliceBound, h1, h2, sizeOf, typeInfo, hi, Result.andThen]
  intro h
  cases A with
  | none => rfl
  | some a => simp [Addr.add]
theorem slice_l (W : World) (A : Option Addr) (n cap k : Nat) (hk : k ≤ n) : (Instr.sliceAt 22 (.slice A n cap) (some (.int .i64 (k : Int))) none none).run Try.prog W = .ok (.slice (if cap = k then A else A.map (·.add (k * 3))) (n - k) (cap - k)) W := by
  have h1 : (0 : Int) ≤ (k : Int) := by omega
  have h2 : (k : Int) ≤ (n : Int) := by omega
  obtain ⟨i0, hi, hz0, hz1, hz2⟩ := info_parts info32
  simp [Instr.sliceAt, Instr.slice, run_underlying Try.underlying22, Instr.sliceBounds, run_sliceBound, h1, h2, sizeOf, typeInfo, hi, hz1, Result.andThen]

section
variable {ops : Array Oper} {o : Oper} {a : Act} {K : Act → World → Prop} {Q : Exit → Act → World → Prop} {E : Prop}
theorem step_append_new (w : World) (hgd : o.guard = none) (s x : Operand) (ho : o.op = .call { callee := .builtin .append, args := #[s, x], argTypes := #[22, 22] }) (hty : o.type = 22)
    (base : Nat) (hbase : base ≤ w.heap.size) (H : Nat) (hH : w.heap.size = H)
    (A : Option Addr) (k cap : Nat) (olds : List RefD) (hs : a.eval s = .slice A k cap) (hA : RefsAt w A olds) (hol : olds.length = k) (hAn : A = none → k = 0 ∧ cap = 0)
    (B : Option Addr) (m c : Nat) (news : List RefD) (hx : a.eval x = .slice B m c) (hB : RefsAt w B news) (hm : news.length = m) (hroom : cap < k + m) (hk : k ≤ cap) (hb : (k + m) * 32 ≤ 140737488355328)
    (h : ∀ c' W', k + m ≤ c' → c' ≤ maxLen → RowOf W' base (some ⟨H, 0, none⟩) c' (olds ++ news) → Below w.heap.size w W' → W'.heap.size = H + 1 → K (a.put o.dst (.slice (some ⟨H, 0, none⟩) (k + m) c')) W') :
    if Region.wanted o (yielded ops a.tmps) = true then Oper.wp Try.prog o a w K Q else E := by
  have hw : Region.wanted o (yielded ops a.tmps) = true := by simp [Region.wanted, hgd]
  rw [if_pos hw]
  obtain ⟨c', hrun, h1, h2⟩ := run_append_new w A k cap olds hA hol hAn B m c news hB hm hroom hk hb
  unfold Oper.wp execOp
  simp only [ho, hty, resolve, invoke, builtin, Sem.run_bind, Sem.run_pure, Result.andThen_ok, List.map_toArray, List.map_cons, List.map_nil, hs, hx, hrun]
  subst hH
  refine h c' _ h1 h2 (row_new w base hbase (olds ++ news) _ c' (k + m) (by rw [List.length_append, hol, hm]) h1 h2 (by rw [zeroCells_size]; simp) _ (heap_alloc_new w.drew _)) ((Below.refl _ w).drew.alloc (Nat.le_refl _) _) (by simp)
theorem step_append_zero (w : World) (hgd : o.guard = none) (s x : Operand) (ho : o.op = .call { callee := .builtin .append, args := #[s, x], argTypes := #[22, 22] }) (hty : o.type = 22)
    (A : Option Addr) (k cap : Nat) (hs : a.eval s = .slice A k cap) (B : Option Addr) (c : Nat) (hx : a.eval x = .slice B 0 c) (hk : k ≤ cap) (h : K (a.put o.dst (.slice A k cap)) w) :
    if Region.wanted o (yielded ops a.tmps) = true then Oper.wp Try.prog o a w K Q else E := by
  have hw : Region.wanted o (yielded ops a.tmps) = true := by simp [Region.wanted, hgd]
  rw [if_pos hw]
  have hrun := run_append_zero w A k cap B c hk
  unfold Oper.wp execOp
  simp only [ho, hty, resolve, invoke, builtin, Sem.run_bind, Sem.run_pure, Result.andThen_ok, List.map_toArray, List.map_cons, List.map_nil, hs, hx, hrun]
  exact h
end

set_option maxHeartbeats 2000000 in
theorem rdrop_none (base pb : Nat) (L : List RefD) (s : ByteArray) (w : World) (hl : L.length ≤ maxLen) (hs : ∀ r ∈ L, r.name.size ≤ maxLen) (h : RTab w base pb L) (hg : getL L s = none) :
    Calls Try.prog 14 #[.pointer (some ⟨pb, 0, none⟩), .string s] w fun e w' => e = .returned (.int .i64 111) ∧ Below w.heap.size w w' := by
  have hat : atI L s = -1 := by unfold atI; rw [hg]
  have HA := Lib.hid hat
  clear hat hg
  go_enter Try.func14, Try.ntmps14
  go_wp2_with (go_at_call 24; refine (at_any base pb L s _ hl hs h).mono ?_; rintro e w1 ⟨rfl, hb1⟩; rw [HA.out]; have HB1 := Lib.hid hb1; clear hb1)
  go_ret
  exact ⟨rfl, HB1.out⟩

set_option maxHeartbeats 2000000 in
theorem rdrop_some (base pb : Nat) (L : List RefD) (s : ByteArray) (r : RefD) (w : World) (hl : L.length ≤ 40) (_hbw : base ≤ w.heap.size) (hbp : base ≤ pb) (hs : ∀ r ∈ L, r.name.size ≤ maxLen) (hL : Rising L) (h : RTab w base pb L) (hg : getL L s = some r) :
    Calls Try.prog 14 #[.pointer (some ⟨pb, 0, none⟩), .string s] w fun e w' => e = .returned (.int .i64 0) ∧ RTab w' base pb (L.filter fun x => !decide (x.name = s)) ∧ RKeep base w w' := by
  rw [filter_drop hL hg]
  obtain ⟨hi, hlt⟩ := idx_some hg
  have hat : atI L s = (idx L s : Int) := by unfold atI; rw [hg]
  generalize idx L s = k at *
  have HA := Lib.hid hat
  clear hat hg
  have HTab := Lib.hid h
  obtain ⟨A, cap, hb, hr⟩ := h
  have hpl := blk_lt hb
  have hrefs := hr.refs
  rcases hr with ⟨rfl, _⟩ | ⟨g, cur, rfl, hbg, hgb, hlc, hcs, hcm, hcc⟩
  · cases hi
  · have hgl := blk_lt hgb
    have hc : w.cell? ⟨pb, 0, none⟩ = some (.slice (some ⟨g, 0, none⟩) L.length cap) := by rw [blk_cell hb]; rfl
    have hf : w.frozen? ⟨pb, 0, none⟩ = false := blk_frozen hb
    have HI := Lib.hid (And.intro hb (And.intro hgb (And.intro hcc (And.intro hi hrefs))))
    clear hb hgb hcc hi hL hrefs
    generalize hn : L.length = n at *
    have HN := Lib.hid hn
    clear hn
    unfold maxLen at hcm
    have s1 := fun W => slice_hm W (some ⟨g, 0, none⟩) n cap k (by omega)
    have s2 := fun W => slice_l W (some ⟨g, 0, none⟩) n cap (k + 1) (by omega)
    rw [Int.natCast_add, Int.natCast_one] at s2
    have s3 : IntKind.i64.wrap ((k : Int) + 1) = (k : Int) + 1 := IntWalk.i64_in _ (by omega)
    generalize hB : (if cap = k + 1 then some (⟨g, 0, none⟩ : Addr) else Option.map (fun x : Addr => x.add ((k + 1) * 3)) (some ⟨g, 0, none⟩)) = B at s2
    have HB := Lib.hid hB
    clear hB
    by_cases hm : n = k + 1
    · have e0 : n - (k + 1) = 0 := by omega
      simp only [e0] at s2
      have HM := Lib.hid hm
      clear hm e0
      go_enter Try.func14, Try.ntmps14
      go_wp2_with (go_at_call 24; refine (at_any base pb L s _ (by unfold maxLen; rw [HN.out]; omega) hs HTab.out).mono ?_; rintro e w1 ⟨rfl, hb1⟩; rw [HA.out]; obtain ⟨hc1, hf1⟩ := bcell hb1; have hz1p : pb < w1.heap.size := (by have := hb1.size; omega); have HB1 := Lib.hid hb1; clear hb1)
      have hcw : w1.cell? ⟨pb, 0, none⟩ = some (.slice (some ⟨g, 0, none⟩) n cap) := by rw [hc1 _ _ hpl]; exact hc
      have hfw : w1.frozen? ⟨pb, 0, none⟩ = false := by rw [hf1 _ _ hpl]; exact hf
      clear hc1 hf1 hc hf
      go_region_law (first | (refine step_append_zero _ (by rfl) _ _ (by rfl) (by rfl) (some ⟨g, 0, none⟩) k k (by rfl) B (cap - (k + 1)) (by rfl) (by omega) ?_))
      all_goals
        go_wp2
        go_ret
        obtain ⟨hb, hgb, hcc, hi, hrefs⟩ := HI.out
        have hb1' := (HB1.out.block pb hpl).trans hb
        have hg1' := (HB1.out.block g hgl).trans hgb
        have e1 : L.drop (k + 1) = [] := List.drop_eq_nil_of_le (by rw [HN.out]; have := HM.out; omega)
        refine ⟨rfl, ?_, (RKeep.of_below (Below.drew HB1.out)).trans (RKeep.setCell (w := w1.drew) hbp hb1' (.inl rfl) _)⟩
        rw [e1, List.append_nil]
        exact rtab_of_store (w := w1.drew) hb1' _ k (by rw [List.length_take, HN.out]; omega) (rowOf_take hbg hg1' hcs (by unfold maxLen; omega) hcc (by omega))
    · have hm1 : 0 < n - (k + 1) := by omega
      have HM := Lib.hid hm
      clear hm
      go_enter Try.func14, Try.ntmps14
      go_wp2_with (go_at_call 24; refine (at_any base pb L s _ (by unfold maxLen; rw [HN.out]; omega) hs HTab.out).mono ?_; rintro e w1 ⟨rfl, hb1⟩; rw [HA.out]; obtain ⟨hc1, hf1⟩ := bcell hb1; have hz1p : pb < w1.heap.size := (by have := hb1.size; omega); have HB1 := Lib.hid hb1; clear hb1)
      have hcw : w1.cell? ⟨pb, 0, none⟩ = some (.slice (some ⟨g, 0, none⟩) n cap) := by rw [hc1 _ _ hpl]; exact hc
      have hfw : w1.frozen? ⟨pb, 0, none⟩ = false := by rw [hf1 _ _ hpl]; exact hf
      obtain ⟨hb, hgb, hcc, hi, hrefs⟩ := HI.out
      have hR1 : RefsAt w1 (some ⟨g, 0, none⟩) L := hrefs.below HB1.out
      have hRa := Lib.hid (refs_take hR1 k)
      have hRb : RefsAt w1 B (L.drop (k + 1)) := by rw [← HB.out]; exact refs_drop hR1 (by rw [HN.out]; exact hlc) (k + 1)
      have HRb := Lib.hid hRb
      have hsz : base ≤ w1.heap.size := by have := HB1.out.size; omega
      clear hc1 hf1 hc hf hb hgb hcc hi hrefs hR1 hRb
      go_region_law (first | (refine step_append_new _ (by rfl) _ _ (by rfl) (by rfl) base hsz w1.heap.size (by rfl) (some ⟨g, 0, none⟩) k k (L.take k) (by rfl) hRa.out (by rw [List.length_take, HN.out]; omega) (by intro h; cases h) B (n - (k + 1)) (cap - (k + 1)) (L.drop (k + 1)) (by rfl) HRb.out (by rw [List.length_drop, HN.out]) (by omega) (by omega) (by omega) ?_; intro c' W' hc1 hc2 hrow hbel hsz'; obtain ⟨hcc1, hff1⟩ := bcell hbel; have hcW : W'.cell? ⟨pb, 0, none⟩ = some (.slice (some ⟨g, 0, none⟩) n cap) := (hcc1 pb 0 hz1p).trans hcw; have hfW : W'.frozen? ⟨pb, 0, none⟩ = false := (hff1 pb 0 hz1p).trans hfw; clear hcc1 hff1; have HR := Lib.hid hrow; have HBL := Lib.hid hbel; clear hrow hbel))
      all_goals
        go_wp2
        go_ret
        obtain ⟨hb, hgb, hcc, hi, hrefs⟩ := HI.out
        have hb2 : W'.heap[pb]? = _ := ((HBL.out.block pb hz1p).trans (HB1.out.block pb hpl)).trans hb
        refine ⟨rfl, rtab_of_store hb2 _ c' (by rw [List.length_append, List.length_take, List.length_drop, HN.out]; omega) HR.out, (RKeep.of_below (below_step (Below.drew HB1.out) HBL.out)).trans (RKeep.setCell hbp hb2 (.inl rfl) _)⟩
end Go.Proofs.Ytpgchdjfeklobaa
