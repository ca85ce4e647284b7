/-
  Walks: Copy; what a table that nobody made tells.
-/
import Derived.Test.YtpgchdjfeklobaaWalkG
namespace Go.Proofs.Ytpgchdjfeklobaa
open Go.RowKit Go.Maps Go.Shelf Go.Sort
attribute [local go_sem] Oper.semAt_some

theorem insL_last {r : RefD} : ∀ {L : List RefD}, (∀ x ∈ L, bytesBefore x.key r.key = true) → insL r L = L ++ [r]
  | [], _ => rfl
  | y :: l, h => by
    unfold insL
    rw [if_pos (h y (by simp)), insL_last (fun x hx => h x (List.mem_cons_of_mem _ hx))]
    rfl
theorem newL_take {L : List RefD} (hL : Good L) : ∀ k, k ≤ L.length → newL (L.take k) = L.take k
  | 0, _ => rfl
  | k + 1, hk => by
    obtain ⟨r, hr⟩ : ∃ r, L[k]? = some r := ⟨_, List.getElem?_eq_getElem (by omega)⟩
    rw [newL_succ hr, newL_take hL k (by omega)]
    have hb : ∀ x ∈ L.take k, bytesBefore x.key r.key = true := by
      intro x hx
      obtain ⟨j, hj, rfl⟩ := List.getElem_of_mem hx
      rw [List.length_take] at hj
      have hp := List.pairwise_iff_getElem.1 hL.rising j k (by omega) (by omega) (by omega)
      have e1 : L[k] = r := by rw [List.getElem?_eq_getElem (by omega)] at hr; exact Option.some.inj hr
      rw [e1] at hp
      simpa using hp
    have hno : getL (L.take k) r.name = none := by
      cases hg : getL (L.take k) r.name with
      | none => rfl
      | some x =>
        obtain ⟨hx, hn⟩ := getL_some hg
        have := hb x hx
        have hkey : x.key = r.key := by unfold RefD.key; rw [hn]
        rw [hkey, WideAt.bytes_irrefl] at this
        cases this
    have hok := hL.names r (List.mem_of_getElem? hr)
    have hfew := hL.few
    unfold makeL
    rw [if_neg (by simp [hok]), if_neg (by simp [hno]), if_neg (by rw [List.length_take]; omega)]
    simp only
    rw [insL_last hb, List.take_add_one, hr]
    rfl
theorem newL_good {L : List RefD} (hL : Good L) : newL L = L := by
  have := newL_take hL L.length (Nat.le_refl _)
  rwa [List.take_length] at this

theorem copy_nil (w : World) : Calls Try.prog 15 #[.pointer none] w fun e w' => e = .returned (.pointer none) ∧ w = w' := by
  go_enter Try.func15, Try.ntmps15
  go_wp2_with (go_at_call 23; refine (ok_nil _).mono ?_; rintro e w' ⟨rfl, rfl⟩)
  go_ret
  exact ⟨rfl, rfl⟩

theorem newL_snoc (pre : List RefD) (r : RefD) : newL (pre ++ [r]) = (makeL (newL pre) r).2 := by
  unfold newL; rw [List.foldl_append]; rfl
theorem tab_own (B pb b : Nat) (hb : b < B) : OwnFrom B (fun (pre : List NRef) W => Tab W pb b (newL (pre.map (·.1)))) := fun s X Y row hs hg hr => by
  refine ⟨(hg.block pb hs.lt (fun e => ?_)).trans hs.blk, hs.map.kept hg (fun e => ?_)⟩
  · obtain ⟨_, o, ho, hc⟩ := hr pb e.symm
    rw [hs.blk] at ho
    cases ho
    cases hc
  · have := (hr b e.symm).1
    omega

set_option maxRecDepth 100000 in
set_option maxHeartbeats 2000000 in
theorem copy_some (w : World) (pb b : Nat) (L : List RefD) (h : Tab w pb b L) (hL : Good L) :
    Calls Try.prog 15 #[.pointer (some ⟨pb, 0, none⟩)] w fun e w' => e = .returned (.pointer (some ⟨w.heap.size + 1, 0, none⟩)) ∧ Tab w' (w.heap.size + 1) w.heap.size L ∧ Below w.heap.size w w' := by
  have hp := h.lt
  have hc := h.cell
  have hbl := h.map.lt
  have hn1 : (1 : Nat) ≤ 9 := by omega
  have hn2 : (1 : Nat) ≤ 9 - 1 - 1 := by omega
  have hf25 : Fence.wide.fn 25 := trivial
  have hf23 : Fence.wide.fn 23 := trivial
  have hf9 : Fence.wide.fn 9 := trivial
  have hf7 : Fence.wide.fn 7 := trivial
  refine (callsIn_wide (n := 9)).1 ?_
  refine callsIn_of_wp_marks Try.func15 rfl trivial ?_ rfl
  simp only [Try.ntmps15, List.size_toArray, List.length_cons, List.length_nil, Nat.reduceAdd, Nat.reduceSub, Array.replicate_succ, Array.replicate_zero, List.push_toArray, List.append_toArray, List.nil_append, List.cons_append]
  gi_wp2_with (first
    | (gi_at_call 23; refine (callsIn_wide.2 (ok_some _ _ b (by go_simp))).mono ?_; rintro e w' ⟨rfl, rfl⟩)
    | (gi_at_call 7; refine (callsIn_wide.2 (new_any none 0 [] w (by simp) (by simp) (RefsAt.nil _ _))).mono ?_; rintro e w1 ⟨rfl, hT1, hb1⟩; have hz1 : w.heap.size + 1 < w1.heap.size := hT1.lt)
    | (gi_at_call 25; refine (callsIn_wide.2 (all_any _ _)).mono ?_; rintro e w' ⟨rfl, rfl⟩))
  have bO := Boxed.new w1 26 (.pointer (some ⟨w.heap.size + 1, 0, none⟩))
  have bT := Boxed.new (w1.alloc (.cells #[.pointer (some ⟨w.heap.size + 1, 0, none⟩)] 26)) 26 (.pointer (some ⟨pb, 0, none⟩))
  rw [World.size_alloc] at bT
  have hB0 : Below w.heap.size w ((w1.alloc (.cells #[.pointer (some ⟨w.heap.size + 1, 0, none⟩)] 26)).alloc (.cells #[.pointer (some ⟨pb, 0, none⟩)] 26)) := below_alloc (below_alloc hb1 _) _
  have hT0 := (hT1.alloc (.cells #[.pointer (some ⟨w.heap.size + 1, 0, none⟩)] 26)).alloc (.cells #[.pointer (some ⟨pb, 0, none⟩)] 26)
  refine wpIn_rangeFunc_ownH (α := NRef) rfl hn1 (gf := 26) (lb := #[.pointer (some ⟨w1.heap.size + 1, 0, none⟩)]) rfl trivial (enters_of Try.func26 (by kernel_rfl) rfl)
    (all_stopsS 8 w.heap.size (w1.heap.size + 1) pb b L (by omega) hL hp hbl _ hB0.size bT (h.below hB0 hp hbl)) KeepR.trans (keepR_b hB0.size) (Below.refl _ _) (fun _ => rfl)
    (fun pre W => (Tab W (w.heap.size + 1) w.heap.size (newL (pre.map (·.1))) ∧ Boxed W w1.heap.size 26 (.pointer (some ⟨w.heap.size + 1, 0, none⟩))) ∧ Below w.heap.size w W)
    (fun _ _ _ => False)
    (OwnFrom.and (OwnFrom.and (tab_own _ _ _ (by simp; omega)) (Own.from (boxed_own _ _ (fun _ => .pointer (some ⟨w.heap.size + 1, 0, none⟩))) _)) (ownFrom_below (Nat.le_refl _) hB0.size))
    (fun _ _ _ _ _ hs _ _ => hs)
    ⟨⟨hT0, bO.alloc _⟩, hB0⟩
    (fun r a' W => ∃ Bx, RefBox W Bx r.1 ∧ w.heap.size < Bx ∧ a' = { tmps := #[.pointer (some ⟨pb, 0, none⟩), undef, .pointer none, .pointer (some ⟨w1.heap.size, 0, none⟩), .pointer (some ⟨Bx, 0, none⟩), .pointer (some ⟨pb, 0, none⟩), .bool true, .bool false, .pointer (some ⟨w.heap.size + 1, 0, none⟩), .pointer (some ⟨pb, 0, none⟩), .func (.func 26) #[] #[.pointer (some ⟨w1.heap.size + 1, 0, none⟩)], refV r.1, undef, undef, undef, undef], defers := [] })
    (fun r a' => Own.from (fun s X Y row hs hg hrow => by
      obtain ⟨Bx, h1, h2⟩ := hs
      exact ⟨Bx, (RefBox.own Bx r.1 (fun _ => w.heap.size < Bx ∧ _) () X Y row ⟨h1, h2⟩ hg hrow)⟩) _)
    ?assign ?body ?done ?stop
  case assign =>
    rintro l pre r W K ⟨⟨hT, hO⟩, hB⟩ hK
    have hsz : w.heap.size < W.heap.size := hT.map.lt
    gi_wp2
    exact hK _ _ ((KeepsOthers.alloc _ _).from _) (KeepR.of_below ((Below.refl _ _).alloc (Nat.le_refl _) _) hB.size) ⟨⟨hT.alloc _, hO.alloc _⟩, below_alloc hB _⟩ ⟨W.heap.size, RefBox.new W r.1, hsz, rfl⟩
  case body =>
    rintro l pre r a' W _ _ ⟨⟨hT, hO⟩, hB⟩ ⟨Bx, hx, hBx, rfl⟩ hlt
    have hcO := hO.cell
    have c0 : W.cell? ⟨Bx, 0, none⟩ = some (.string r.1.name) := by rw [cell_of_blk hx]; rfl
    have c1 : W.cell? ⟨Bx, 1, none⟩ = some (.bool r.1.tag) := by rw [cell_of_blk hx]; rfl
    have c2 : W.cell? ⟨Bx, 2, none⟩ = some (.int .u64 r.1.id) := by rw [cell_of_blk hx]; rfl
    gi_wp2_with (gi_at_call 9; refine (CallsIn.inRound l (callsIn_wide.2 (make_some r.1 W _ _ _ hT r.2))).mono ?_; rintro e w3 ⟨rfl, hm3, hg3⟩)
    have hne : w.heap.size + 1 ≠ w.heap.size := by omega
    have hmap : ∀ (k : Nat) (cs : Array Value) (t : TypeId) (f : Nat × Nat), some w.heap.size = some k → W.heap[k]? ≠ some (Obj.cells cs t f) := by
      intro k cs t f e hk
      cases e
      obtain ⟨es, clock, hb, _⟩ := hT.map
      rw [hb] at hk
      cases hk
    exact ⟨KeepsFrom.of_grownBy hg3 (fun j e => by cases e; simp; omega), ⟨(Below.refl _ W).grown hg3 hB.size (fun k e => by cases e; exact Nat.le_refl _), KeepT.grown hg3 (fun k cs f => hmap k cs 9 f), KeepT.grown hg3 (fun k cs f => hmap k cs 26 f)⟩,
      ⟨by rw [List.map_append]; exact (newL_snoc _ _) ▸ Tab.grown hT hm3 hg3 hne, hO.kept hg3 (by simp; omega)⟩, below_grown hB hg3 (Nat.le_refl _)⟩
  case done =>
    rintro D ys W hD hys ⟨⟨hT, hO⟩, hB⟩ hK
    have hcO := hO.cell
    gi_wp2
    refine ⟨by simp, .inl ⟨_, _, rfl, run_takeDeferred hK, ?_⟩⟩
    have hD' : w.heap.size + 1 < D := by simp at hD; omega
    have hBD : Below D W (W.putObj D (.deferred none)) := (Below.refl D W).grown (grownBy_putObj' W D _) (by have := (Array.getElem?_eq_some_iff.1 hK).1; omega) (fun k e => by cases e; exact Nat.le_refl _)
    rw [hys, newL_good hL] at hT
    exact ⟨_, results_tmp rfl _ _ _, rfl, hT.below hBD (by omega) (by omega), hB.trans (hBD.mono (by omega))⟩
  case stop =>
    rintro D c pre W _ _ h _
    exact h.elim
end Go.Proofs.Ytpgchdjfeklobaa
