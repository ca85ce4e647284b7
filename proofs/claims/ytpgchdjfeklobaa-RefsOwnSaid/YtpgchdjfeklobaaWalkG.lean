/-
  Walks: what a table tells, as a slice of refs.
-/
import Derived.RangeFuncBox
import Derived.Test.YtpgchdjfeklobaaWalkF
namespace Go.Proofs.Ytpgchdjfeklobaa
open Go.RowKit Go.Maps Go.Shelf Go.Sort
attribute [local go_sem] Oper.semAt_some

theorem keepR_b {n₀ : Nat} {w : World} (hn : n₀ ≤ w.heap.size) (W : World) (l : Nat) (o o' : Obj) (hl : w.heap.size ≤ l) (ho : W.heap[l]? = some o) (hc : o.isCells = false) (_ : o.isWalk = false) : KeepR n₀ W (W.putObj l o') := by
  have hg := grownBy_putObj' W l o'
  refine ⟨(Below.refl n₀ W).grown hg ?_ (fun k e => by cases e; omega), KeepT.grown hg ?_, KeepT.grown hg ?_⟩
  · have := (Array.getElem?_eq_some_iff.1 ho).1; omega
  · intro k cs f e hk; cases e; rw [ho] at hk; cases hk; cases hc
  · intro k cs f e hk; cases e; rw [ho] at hk; cases hk; cases hc
theorem KeepT.setCell {t t' : TypeId} {W : World} {B : Nat} {v : Value} (h : Boxed W B t' v) (ht : t' ≠ t) (u : Value) : KeepT t W (W.setCell ⟨B, 0, none⟩ u) :=
  KeepT.grown (grownBy_setCell' W B u) (fun k cs f e hk => by
    cases e
    have := (show W.heap[B]? = _ from h).symm.trans hk
    simp at this
    exact ht this.2.1)
theorem KeepT.row {t e : TypeId} {base size k : Nat} {v : Value} {xs : List Value} {W w1 : World} (hr : W.ownsRow base e size v k xs) (hne : e ≠ t) (hg : W.grownBy w1 v.ownBlock) : KeepT t W w1 :=
  KeepT.grown hg (fun k cs f e' hk => by
    rcases hr.2 with ⟨rfl, _⟩ | ⟨g, cap, cur, rfl, _, hgb, _⟩
    · simp [Value.ownBlock] at e'
    · simp only [Value.ownBlock, Option.some.injEq] at e'
      subst e'
      rw [hgb] at hk
      simp at hk
      exact hne hk.2.1)

/-- A ref in a block of its own. -/
def RefBox (W : World) (B : Nat) (r : RefD) : Prop := W.heap[B]? = some (.cells #[.string r.name, .bool r.tag, .int .u64 r.id] 32 (0, 0))
theorem RefBox.new (W : World) (r : RefD) : RefBox (W.alloc (.cells #[.string r.name, .bool r.tag, .int .u64 r.id] 32)) W.heap.size r := World.alloc_heap_new W _
theorem RefBox.own {β : Type} (B : Nat) (r : RefD) (p : β → Prop) : Own (fun (s : β) W => RefBox W B r ∧ p s) := fun s X Y row hs hg hrow => by
  refine ⟨(hg.block B (Array.getElem?_eq_some_iff.1 hs.1).1 (fun e => ?_)).trans hs.1, hs.2⟩
  obtain ⟨o, ho, hc⟩ := hrow B e.symm
  rw [show X.heap[B]? = _ from hs.1] at ho; cases ho; cases hc
theorem cells_new3 (w : World) (x y z : Value) (t : TypeId) : ∀ (j : Nat) (u : Value), [x, y, z][j]? = some u → (w.alloc (.cells #[x, y, z] t)).cell? ((⟨w.heap.size, 0, none⟩ : Addr).add j) = some u := by
  intro j u hj
  match j, hj with
  | 0, hj => simp at hj; subst hj; simp [Addr.add]
  | 1, hj => simp at hj; subst hj; simp [Addr.add]
  | 2, hj => simp at hj; subst hj; simp [Addr.add]
theorem refCs_one (r : RefD) : ∀ u ∈ refCs r, u.oneCell' = true := by simp [refCs, Value.oneCell']
theorem flat_snoc (pre : List RefD) (r : RefD) : (pre ++ [r]).flatMap refCs = pre.flatMap refCs ++ [.string r.name, .bool r.tag, .int .u64 r.id] := by simp [refCs]
theorem all_stops (n n₀ Bt pb b : Nat) (L : List RefD) (hn : 6 ≤ n) (hL : Good L) (hp0 : pb < n₀) (hb0 : b < n₀) (w : World) (hn0 : n₀ ≤ w.heap.size)
    (hB : Boxed w Bt 26 (.pointer (some ⟨pb, 0, none⟩))) (hT : Tab w pb b L) :
    SeqStopsK Fence.wide n Try.prog 26 #[.pointer (some ⟨Bt, 0, none⟩)] (fun r : RefD => #[refV r]) (KeepR n₀) (fun xs => xs = L) (fun pre => pre <+: L) L.length w := fun l J Jx W hW hJ _ hY h0 =>
  all1_some n l n₀ Bt pb b L hn hL (fun r hr => by have := nameOk_size (hL.names r hr); unfold maxLen; omega) hp0 hb0 J Jx (fun pre x W h h' _ => hY pre x W h h') W (Nat.le_trans hn0 hW.size) hJ ((hW.block Bt hB.lt).trans hB) (hT.below hW hT.lt hT.map.lt) h0

/-- A ref whose name is no longer than a string may be. -/
abbrev NRef := { r : RefD // r.name.size ≤ maxLen }
theorem all_stopsS (n n₀ Bt pb b : Nat) (L : List RefD) (hn : 6 ≤ n) (hL : Good L) (hp0 : pb < n₀) (hb0 : b < n₀) (w : World) (hn0 : n₀ ≤ w.heap.size)
    (hB : Boxed w Bt 26 (.pointer (some ⟨pb, 0, none⟩))) (hT : Tab w pb b L) :
    SeqStopsK Fence.wide n Try.prog 26 #[.pointer (some ⟨Bt, 0, none⟩)] (fun r : NRef => #[refV r.1]) (KeepR n₀) (fun xs => xs.map (·.1) = L) (fun pre => pre.map (·.1) <+: L) L.length w := fun l J Jx W hW hJ _ hY h0 => by
  refine (all1_some n l n₀ Bt pb b L hn hL (fun r hr => by have := nameOk_size (hL.names r hr); unfold maxLen; omega) hp0 hb0 (fun pre W => ∃ ps : List NRef, ps.map (·.1) = pre ∧ J ps W) (fun pre W => ∃ ps : List NRef, ps.map (·.1) = pre ∧ Jx ps W) ?_ W (Nat.le_trans hn0 hW.size)
    (fun s A B row hs hg hr => by obtain ⟨ps, e, h⟩ := hs; exact ⟨ps, e, hJ ps A B row h hg hr⟩) ((hW.block Bt hB.lt).trans hB) (hT.below hW hT.lt hT.map.lt) ⟨[], rfl, h0⟩).mono ?_
  · rintro pre x W1 ⟨ps, rfl, hj⟩ hlen hx
    obtain ⟨fn, tmps, assign, body, hy, hR⟩ := hY ps ⟨x, hx⟩ W1 hj (by simpa using hlen)
    refine ⟨fn, tmps, assign, body, hy, hR.mono ?_⟩
    rintro e W' (⟨he, h1, h2⟩ | ⟨he, h1⟩)
    · exact .inl ⟨he, ⟨_, by simp, h1⟩, h2⟩
    · exact .inr ⟨he, ⟨_, by simp, h1⟩⟩
  · rintro e W' ⟨he, ⟨xs, rfl, ps, hps, hj⟩ | ⟨pre, hpre, ps, rfl, hj⟩⟩
    · exact ⟨he, .inl ⟨ps, hps, hj⟩⟩
    · exact ⟨he, .inr ⟨ps, hpre, hj⟩⟩

set_option maxRecDepth 100000 in
set_option maxHeartbeats 2000000 in
theorem told_some (w : World) (pb b : Nat) (L : List RefD) (h : Tab w pb b L) (hL : Good L) :
    Calls Try.prog 17 #[.pointer (some ⟨pb, 0, none⟩)] w fun e w' => ∃ v, e = .returned v ∧ w'.ownsRow w.heap.size 32 3 v L.length (L.flatMap refCs) ∧ Below w.heap.size w w' := by
  have hp := h.lt
  have hbl := h.map.lt
  have hn1 : (1 : Nat) ≤ 9 := by omega
  have hf25 : Fence.wide.fn 25 := trivial
  obtain ⟨i0, hi, hz0, hz1, hz2⟩ := info_parts info32
  refine (callsIn_wide (n := 9)).1 ?_
  refine callsIn_of_wp_marks Try.func17 rfl trivial ?_ rfl
  simp only [Try.ntmps17, List.size_toArray, List.length_cons, List.length_nil, Nat.reduceAdd, Nat.reduceSub, Array.replicate_succ, Array.replicate_zero, List.push_toArray, List.append_toArray, List.nil_append, List.cons_append]
  gi_wp2_with (gi_at_call 25; refine (callsIn_wide.2 (all_any _ _)).mono ?_; rintro e w' ⟨rfl, rfl⟩)
  have bO := Boxed.new w 22 (.slice none 0 0)
  have bT := Boxed.new (w.alloc (.cells #[.slice none 0 0] 22)) 26 (.pointer (some ⟨pb, 0, none⟩))
  rw [World.size_alloc] at bT
  have hB0 : Below w.heap.size w ((w.alloc (.cells #[.slice none 0 0] 22)).alloc (.cells #[.pointer (some ⟨pb, 0, none⟩)] 26)) := below_alloc (below_alloc (Below.refl _ _) _) _
  have hL40 := hL.few
  refine wpIn_rangeFunc_ownH (α := RefD) rfl hn1 (gf := 26) (lb := #[.pointer (some ⟨w.heap.size + 1, 0, none⟩)]) rfl trivial (enters_of Try.func26 (by kernel_rfl) rfl)
    (all_stops 8 w.heap.size (w.heap.size + 1) pb b L (by omega) hL hp hbl _ hB0.size bT (h.below hB0 hp hbl)) KeepR.trans (keepR_b hB0.size) (Below.refl _ _) (fun _ => rfl)
    (fun pre W => (∃ v, Boxed W w.heap.size 22 v ∧ W.ownsRow w.heap.size 32 3 v pre.length (pre.flatMap refCs) ∧ True) ∧ Below w.heap.size w W)
    (fun _ _ _ => False)
    (OwnFrom.and (Own.from (holdsRow_own w.heap.size w.heap.size 22 32 3 (fun pre : List RefD => pre.length) (fun pre => pre.flatMap refCs) (fun _ _ => True)) _) (ownFrom_below (Nat.le_refl _) (by simp; omega)))
    (fun _ _ _ _ _ hs _ _ => hs)
    ⟨⟨_, bO.alloc _, World.ownsRow_nil _ _ _ _, trivial⟩, hB0⟩
    (fun r a' W => ∃ Bx, RefBox W Bx r ∧ w.heap.size < Bx ∧ a' = { tmps := #[.pointer (some ⟨pb, 0, none⟩), undef, .slice none 0 0, .pointer (some ⟨w.heap.size, 0, none⟩), .pointer (some ⟨Bx, 0, none⟩), .pointer (some ⟨pb, 0, none⟩), .func (.func 26) #[] #[.pointer (some ⟨w.heap.size + 1, 0, none⟩)], refV r, undef, undef, undef, undef, undef], defers := [] })
    (fun r a' => Own.from (fun s X Y row hs hg hrow => by
      obtain ⟨Bx, h1, h2⟩ := hs
      exact ⟨Bx, (RefBox.own Bx r (fun _ => w.heap.size < Bx ∧ _) () X Y row ⟨h1, h2⟩ hg hrow)⟩) _)
    ?assign ?body ?done ?stop
  case assign =>
    rintro l pre r W K ⟨⟨v, hv, hrow, _⟩, hB⟩ hK
    have hsz : w.heap.size < W.heap.size := hv.lt
    gi_wp2
    exact hK _ _ ((KeepsOthers.alloc _ _).from _) (KeepR.of_below ((Below.refl _ _).alloc (Nat.le_refl _) _) hB.size) ⟨⟨v, hv.alloc _, hrow.alloc _, trivial⟩, below_alloc hB _⟩ ⟨W.heap.size, RefBox.new W r, hsz, rfl⟩
  case body =>
    rintro l pre r a' W _ _ ⟨⟨v, hv, hrow, _⟩, hB⟩ ⟨Bx, hx, hBx, rfl⟩ hlt
    have hc := hv.cell
    have c0 : W.cell? ⟨Bx, 0, none⟩ = some (.string r.name) := by rw [cell_of_blk hx]; rfl
    have c1 : W.cell? ⟨Bx, 1, none⟩ = some (.bool r.tag) := by rw [cell_of_blk hx]; rfl
    have c2 : W.cell? ⟨Bx, 2, none⟩ = some (.int .u64 r.id) := by rw [cell_of_blk hx]; rfl
    gi_wp2_with (gi_at_builtin; refine wpListIn_append_own _ rfl _ _ 22 rfl w.heap.size 32 i0 _ 3 32 Try.underlying22 hi hz0 hz1 hz2 rfl (by decide) _ _ _ rfl (hrow.alloc _) ⟨W.heap.size, 0, none⟩ 1 1 [.string r.name, .bool r.tag, .int .u64 r.id] rfl rfl (cells_new3 _ _ _ _ _) (by simp [Value.oneCell']) (by unfold maxLen; omega) (by omega) (by have := hB.size; simp; omega) ?_; intro v' w1 hown' hgrow _; obtain ⟨g', cap', rfl⟩ := ownsRow_succ hown'; obtain ⟨hv1, hv2, hr2, hk2, hb2⟩ := hv.appended (by decide) hrow hB.size (Nat.le_refl _) hown' hgrow; have hc1 := hv1.cell; have hf1 := hv1.frozen)
    have k9 : KeepT 9 W w1 := (KeepT.below ((Below.refl _ _).alloc (Nat.le_refl _) _)).trans (KeepT.row (hrow.alloc _) (by decide) hgrow)
    have k26 : KeepT 26 W w1 := (KeepT.below ((Below.refl _ _).alloc (Nat.le_refl _) _)).trans (KeepT.row (hrow.alloc _) (by decide) hgrow)
    exact ⟨hk2.from _, ⟨hb2, k9.trans (KeepT.setCell hv1 (by decide) _), k26.trans (KeepT.setCell hv1 (by decide) _)⟩, ⟨_, hv2, by rw [flat_snoc]; simpa using hr2, trivial⟩, hB.trans hb2⟩
  case done =>
    rintro D ys W hD rfl ⟨⟨v, hv, hrow, _⟩, hB⟩ hK
    have hc := hv.cell
    gi_wp2
    refine ⟨by simp, .inl ⟨_, _, rfl, run_takeDeferred hK, ?_⟩⟩
    exact ⟨_, results_tmp rfl _ _ _, v, rfl, ownsRow_putObj hrow _ hK rfl, hB.trans (belowK_b (w := w) (Nat.le_refl _) W D _ _ (by simp at hD; omega) hK rfl rfl)⟩
  case stop =>
    rintro D c pre W _ _ h _
    exact h.elim
end Go.Proofs.Ytpgchdjfeklobaa
