/-
  Walk: what a table that nobody made tells.
-/
import Derived.Test.YtpgchdjfeklobaaWalkP
namespace Go.Proofs.Ytpgchdjfeklobaa
open Go.RowKit Go.Maps Go.Shelf Go.Sort
attribute [local go_sem] Oper.semAt_some

theorem all1_nil (n l Bt : Nat) (hn : 2 ≤ n) (W : World) (hB : W.heap[Bt]? = some (.cells #[.pointer none] 26 (0, 0))) :
    CallsIn Fence.wide n Try.prog 26 #[.func (.yield l) #[] #[], .pointer (some ⟨Bt, 0, none⟩)] W fun e W' => (∃ v, e = .returned v) ∧ W' = W := by
  have h1 : 1 ≤ n := by omega
  have hcB : W.cell? ⟨Bt, 0, none⟩ = some (.pointer none) := by rw [cell_of_blk hB]; rfl
  have hf23 : Fence.wide.fn 23 := trivial
  refine callsIn_of_wp Try.func26 rfl trivial ?_ rfl
  simp only [Try.ntmps26, List.size_toArray, List.length_cons, List.length_nil, Nat.reduceAdd, Nat.reduceSub, Array.replicate_succ, Array.replicate_zero, List.push_toArray, List.append_toArray, List.nil_append, List.cons_append]
  gi_wp2_with (gi_at_call 23; refine (callsIn_wide.2 (ok_nil _)).mono ?_; rintro e w' ⟨rfl, rfl⟩)
  refine bodyPost_ret (results_none rfl _ _ _) rfl ?_
  exact ⟨⟨_, rfl⟩, rfl⟩
theorem all_stops_nil (n n₀ Bt : Nat) (hn : 2 ≤ n) (w : World) (hB : Boxed w Bt 26 (.pointer none)) :
    SeqStopsK Fence.wide n Try.prog 26 #[.pointer (some ⟨Bt, 0, none⟩)] (fun r : RefD => #[refV r]) (KeepR n₀) (fun xs => xs = []) (fun pre => pre = []) 0 w := fun l _ _ W hW _ _ _ h0 =>
  (all1_nil n l Bt hn W ((hW.block Bt hB.lt).trans hB)).mono fun _ _ ⟨he, hw⟩ => ⟨he, .inl ⟨[], rfl, hw ▸ h0⟩⟩

set_option maxRecDepth 100000 in
set_option maxHeartbeats 2000000 in
theorem told_nil (w : World) : Calls Try.prog 17 #[.pointer none] w fun e w' => e = .returned (.slice none 0 0) ∧ Below w.heap.size w w' := by
  have hn1 : (1 : Nat) ≤ 9 := by omega
  have hf25 : Fence.wide.fn 25 := trivial
  refine (callsIn_wide (n := 9)).1 ?_
  refine callsIn_of_wp_marks Try.func17 rfl trivial ?_ rfl
  simp only [Try.ntmps17, List.size_toArray, List.length_cons, List.length_nil, Nat.reduceAdd, Nat.reduceSub, Array.replicate_succ, Array.replicate_zero, List.push_toArray, List.append_toArray, List.nil_append, List.cons_append]
  gi_wp2_with (gi_at_call 25; refine (callsIn_wide.2 (all_any _ _)).mono ?_; rintro e w' ⟨rfl, rfl⟩)
  have bO := Boxed.new w 22 (.slice none 0 0)
  have bT := Boxed.new (w.alloc (.cells #[.slice none 0 0] 22)) 26 (.pointer none)
  rw [World.size_alloc] at bT
  have hB0 : Below w.heap.size w ((w.alloc (.cells #[.slice none 0 0] 22)).alloc (.cells #[.pointer none] 26)) := below_alloc (below_alloc (Below.refl _ _) _) _
  refine wpIn_rangeFunc_ownH (α := RefD) rfl hn1 (gf := 26) (lb := #[.pointer (some ⟨w.heap.size + 1, 0, none⟩)]) rfl trivial (enters_of Try.func26 (by kernel_rfl) rfl)
    (all_stops_nil 8 w.heap.size (w.heap.size + 1) (by omega) _ bT) KeepR.trans (keepR_b hB0.size) (Below.refl _ _) (fun _ => rfl)
    (fun _ W => Boxed W w.heap.size 22 (.slice none 0 0) ∧ Below w.heap.size w W)
    (fun _ _ _ => False)
    (OwnFrom.and (Own.from (boxed_own _ _ (fun _ => .slice none 0 0)) _) (ownFrom_below (Nat.le_refl _) (by simp; omega)))
    (fun _ _ _ _ _ hs _ _ => hs)
    ⟨bO.alloc _, hB0⟩
    (fun r a' W => ∃ Bx, RefBox W Bx r ∧ w.heap.size < Bx ∧ a' = { tmps := #[.pointer none, undef, .slice none 0 0, .pointer (some ⟨w.heap.size, 0, none⟩), .pointer (some ⟨Bx, 0, none⟩), .pointer none, .func (.func 26) #[] #[.pointer (some ⟨w.heap.size + 1, 0, none⟩)], refV r, undef, undef, undef, undef, undef], defers := [] })
    (fun r a' => Own.from (fun s X Y row hs hg hrow => by
      obtain ⟨Bx, h1, h2⟩ := hs
      exact ⟨Bx, (RefBox.own Bx r (fun _ => w.heap.size < Bx ∧ _) () X Y row ⟨h1, h2⟩ hg hrow)⟩) _)
    ?assign ?body ?done ?stop
  case assign =>
    rintro l pre r W K ⟨hv, hB⟩ hK
    have hsz : w.heap.size < W.heap.size := hv.lt
    gi_wp2
    exact hK _ _ ((KeepsOthers.alloc _ _).from _) (KeepR.of_below ((Below.refl _ _).alloc (Nat.le_refl _) _) hB.size) ⟨hv.alloc _, below_alloc hB _⟩ ⟨W.heap.size, RefBox.new W r, hsz, rfl⟩
  case body =>
    rintro l pre r a' W _ _ _ _ hlt
    exact absurd hlt (Nat.not_lt_zero _)
  case done =>
    rintro D ys W hD rfl ⟨hv, hB⟩ hK
    have hc := hv.cell
    gi_wp2
    refine ⟨by simp, .inl ⟨_, _, rfl, run_takeDeferred hK, ?_⟩⟩
    exact ⟨_, results_tmp rfl _ _ _, rfl, hB.trans (belowK_b (w := w) (Nat.le_refl _) W D _ _ (by simp at hD; omega) hK rfl rfl)⟩
  case stop =>
    rintro D c pre W _ _ h _
    exact h.elim
end Go.Proofs.Ytpgchdjfeklobaa
