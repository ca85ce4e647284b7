/-
  Walks: All and its closure, the iterator over a table.
-/
import Derived.RangeFuncNested
import Derived.RangeFuncBound
import Derived.RangeFuncCalls
import Derived.RangeFuncLeaves
import Derived.Shelf.Abstract
import Derived.Shelf.RegionOpen
import Derived.OwnWalkIn
import Derived.TacticsInMore
import Derived.LoopNIn
import Derived.LoopIn
import Derived.Test.YtpgchdjfeklobaaWalkE
import Derived.Test.YtpgchdjfeklobaaIter
namespace Go.Proofs.Ytpgchdjfeklobaa
open Go.RowKit Go.Maps Go.Shelf Go.Sort
attribute [local go_sem] Oper.semAt_some

/-- Blocks of cells of type t stay as they are. -/
structure KeepT (t : TypeId) (W W' : World) : Prop where
  same : ∀ (k : Nat) (cs : Array Value) (f : Nat × Nat), W.heap[k]? = some (Obj.cells cs t f) → W'.heap[k]? = some (Obj.cells cs t f)
theorem KeepT.refl (t : TypeId) (W : World) : KeepT t W W := ⟨fun _ _ _ h => h⟩
theorem KeepT.trans {t : TypeId} {A B C : World} (h : KeepT t A B) (k : KeepT t B C) : KeepT t A C := ⟨fun i cs f hi => k.same i cs f (h.same i cs f hi)⟩
theorem KeepT.below {t : TypeId} {A B : World} (h : Below A.heap.size A B) : KeepT t A B :=
  ⟨fun i _ _ hi => (h.block i (Array.getElem?_eq_some_iff.1 hi).1).trans hi⟩
theorem KeepT.grown {t : TypeId} {A B : World} {row : Option Nat} (h : A.grownBy B row) (hr : ∀ (k : Nat) (cs : Array Value) (f : Nat × Nat), row = some k → A.heap[k]? ≠ some (Obj.cells cs t f)) : KeepT t A B :=
  ⟨fun i cs f hi => (h.block i (Array.getElem?_eq_some_iff.1 hi).1 (fun e => hr i cs f e.symm hi)).trans hi⟩

/-- What a round over a table keeps. -/
structure KeepR (n₀ : Nat) (W W' : World) : Prop where
  below : Below n₀ W W'
  keys : KeepT 9 W W'
  boxes : KeepT 26 W W'
theorem KeepR.refl (n₀ : Nat) (W : World) : KeepR n₀ W W := ⟨Below.refl _ _, KeepT.refl _ _, KeepT.refl _ _⟩
theorem KeepR.trans {n₀ : Nat} {A B C : World} (h : KeepR n₀ A B) (k : KeepR n₀ B C) : KeepR n₀ A C := ⟨h.below.trans k.below, h.keys.trans k.keys, h.boxes.trans k.boxes⟩
theorem KeepR.of_below {n₀ : Nat} {A B : World} (h : Below A.heap.size A B) (hn : n₀ ≤ A.heap.size) : KeepR n₀ A B := ⟨h.mono hn, KeepT.below h, KeepT.below h⟩

theorem all_any (p : Option Addr) (w : World) : Calls Try.prog 25 #[.pointer p] w fun e w' => e = .returned (.func (.func 26) #[] #[.pointer (some ⟨w.heap.size, 0, none⟩)]) ∧ w.alloc (.cells #[.pointer p] 26) = w' := by
  go_enter Try.func25, Try.ntmps25
  go_wp2
  go_ret
  exact ⟨rfl, rfl⟩

theorem key_name (r : RefD) : encStr r.key = .string r.name := rfl
theorem getL_at {L : List RefD} (hL : Rising L) {k : Nat} {r : RefD} (h : L[k]? = some r) : getL L r.name = some r := by
  have hm := List.mem_of_getElem? h
  cases hg : getL L r.name with
  | none => exact absurd rfl (getL_none hg r hm)
  | some x => rw [getL_unique hL hg hm rfl]
theorem cell_of_blk {w : World} {g i : Nat} {cs : Array Value} {t : TypeId} {f : Nat × Nat} (h : w.heap[g]? = some (Obj.cells cs t f)) : w.cell? ⟨g, i, none⟩ = cs[i]? := cell_of_row w g i cs t f h
theorem take_snoc' {α : Type} {l : List α} {k : Nat} {r : α} (h : l[k]? = some r) : l.take (k + 1) = l.take k ++ [r] := by
  rw [List.take_add_one, h]; rfl

theorem keys_row {w : World} {base : Nat} {v : Value} {ss : List (List UInt8)} {L : List RefD} (hL : Good L) (hS : ss.Perm (strKeys (DM L))) (h : w.ownsRow base 9 1 v ss.length ((ss.mergeSort (fun x y => decide (x ≤ y))).map encStr)) :
    ∃ A cap, v = .slice A L.length cap ∧ (L = [] ∨ ∃ (g : Nat) (cur : Array Value), A = some ⟨g, 0, none⟩ ∧ w.heap[g]? = some (.cells cur 9 (0, 0)) ∧ ∀ (k : Nat) (r : RefD), L[k]? = some r → cur[k]? = some (Value.string r.name)) := by
  rw [keys_DM] at hS
  have hlen : ss.length = L.length := by have := hS.length_eq; simpa using this
  rw [sorted_keys hL.rising hS, hlen] at h
  rcases h.2 with ⟨rfl, h0⟩ | ⟨g, cap, cur, rfl, _, hg, _, _, _, ht⟩
  · exact ⟨none, 0, by rw [h0], .inl (List.eq_nil_of_length_eq_zero h0)⟩
  · refine ⟨_, cap, rfl, .inr ⟨g, cur, rfl, hg, fun k r hk => ?_⟩⟩
    have h1 : ((L.map RefD.key).map encStr)[k]? = some (Value.string r.name) := by
      rw [List.getElem?_map, List.getElem?_map, hk]; rfl
    rw [← ht, List.getElem?_take] at h1
    split at h1
    · simpa using h1
    · cases h1

set_option maxHeartbeats 2000000 in
theorem all1_some (n l n₀ Bt pb b : Nat) (L : List RefD) (hn : 6 ≤ n) (hL : Good L) (hs : ∀ r ∈ L, r.name.size ≤ maxLen) (hp0 : pb < n₀) (hb0 : b < n₀) (J Jx : List RefD → World → Prop)
    (hY : ∀ pre x W, J pre W → pre.length < L.length → x.name.size ≤ maxLen → YieldAt Fence.wide (n - 1) Try.prog l #[refV x] W fun e W' =>
      (e = .returned (.bool true) ∧ J (pre ++ [x]) W' ∧ KeepR n₀ W W') ∨ (e = .returned (.bool false) ∧ Jx (pre ++ [x]) W'))
    (W : World) (_hn0 : n₀ ≤ W.heap.size) (hJ : AbidesFrom W.heap.size J) (hB : W.heap[Bt]? = some (.cells #[.pointer (some ⟨pb, 0, none⟩)] 26 (0, 0))) (hT : Tab W pb b L) (h0 : J [] W) :
    CallsIn Fence.wide n Try.prog 26 #[.func (.yield l) #[] #[], .pointer (some ⟨Bt, 0, none⟩)] W fun e W' => (∃ v, e = .returned v) ∧
      ((∃ xs, xs = L ∧ J xs W') ∨ (∃ pre, pre <+: L ∧ Jx pre W')) := by
  have h1 : 1 ≤ n := by omega
  have hcB : W.cell? ⟨Bt, 0, none⟩ = some (.pointer (some ⟨pb, 0, none⟩)) := by rw [cell_of_blk hB]; rfl
  have hp := hT.lt
  have hc := hT.cell
  have hm := hT.map
  have hTW := hT
  clear hT
  have hbl := hm.lt
  have hfK : Fence.wide.fn 28 := trivial
  have hfS : Fence.wide.fn 27 := trivial
  have hf23 : Fence.wide.fn 23 := trivial
  refine callsIn_of_wp Try.func26 rfl trivial ?_ rfl
  simp only [Try.ntmps26, List.size_toArray, List.length_cons, List.length_nil, Nat.reduceAdd, Nat.reduceSub, Array.replicate_succ, Array.replicate_zero, List.push_toArray, List.append_toArray, List.nil_append, List.cons_append]
  gi_wp2_with (first
    | (gi_at_call 23; refine (callsIn_wide.2 (ok_some _ _ b (by go_simp))).mono ?_; rintro e w' ⟨rfl, rfl⟩)
    | (gi_at_call 28; refine (callsIn_wide.2 (callsIn_wide.1 (Try.maps_Keys_28 _ _))).mono ?_; rintro e w' ⟨rfl, rfl⟩)
    | (gi_at_call 27; refine (callsIn_wide.2 (callsIn_wide.1 (Try.slices_Sorted_keys_27_28 b L.length (DM L) refElem _ hm (by rw [size_DM]; have := hL.few; unfold maxLen; omega) (by rw [size_DM]; have := hL.few; omega)))).mono ?_; rintro e w1 ⟨v, ss, rfl, hS, hrow, hnil, hb1⟩))
  obtain ⟨A, cap, rfl, hrows⟩ := keys_row hL hS hrow
  clear hS hrow hnil
  have hb2 : Below W.heap.size W w1 := below_step (below_alloc (Below.refl _ _) _) hb1
  have hJ1 : J [] w1 := hJ [] W w1 none h0 (grown_of_below hb2 none) (fun r e => by cases e)
  have hB1 : w1.heap[Bt]? = some (.cells #[.pointer (some ⟨pb, 0, none⟩)] 26 (0, 0)) := (hb2.block Bt (Array.getElem?_eq_some_iff.1 hB).1).trans hB
  have hT1 : Tab w1 pb b L := hTW.below hb2 hp hbl
  clear hb1 hb2 hB hcB hc hm h0 hJ hTW
  have HR := Lib.hid hrows
  clear hrows
  generalize hnl : L.length = nl at *
  have HN := Lib.hid hnl
  have HL := Lib.hid hL
  have hnl40 : nl ≤ 40 := by have := hL.few; omega
  clear hnl hL
  go_simp
  gi_wp2
  gi_loopw [4, 15] (fun _ i wr => ∃ k : Nat, k ≤ nl ∧ i = .int .i64 k ∧ J (L.take k) wr ∧ KeepR n₀ w1 wr) (fun _ i _ => nl - (intOf i).toNat)
  case atStart => exact ⟨0, Nat.zero_le _, rfl, hJ1, KeepR.refl _ _⟩
  case round =>
    obtain ⟨k, hk, rfl, hJk, hKp⟩ := hrel
    have hTr : Tab wr pb b L := hT1.below hKp.below hp0 hb0
    have hBr : wr.heap[Bt]? = some (.cells #[.pointer (some ⟨pb, 0, none⟩)] 26 (0, 0)) := hKp.boxes.same _ _ _ hB1
    have hcBr : wr.cell? ⟨Bt, 0, none⟩ = some (.pointer (some ⟨pb, 0, none⟩)) := by rw [cell_of_blk hBr]; rfl
    have hcr := hTr.cell
    by_cases hlt : k < nl
    · obtain ⟨r, hr⟩ : ∃ r, L[k]? = some r := ⟨_, List.getElem?_eq_getElem (by rw [HN.out]; exact hlt)⟩
      rcases HR.out with h0 | ⟨g, cur, hA, hg, hcur⟩
      · rw [h0] at hr; cases hr
      · subst hA
        have hcg : wr.cell? ⟨g, k, none⟩ = some (.string r.name) := by rw [cell_of_blk (hKp.keys.same _ _ _ hg)]; exact hcur k r hr
        have hrun := hTr.map.look1 r.name (hs r (List.mem_of_getElem? hr))
        rw [getL_at HL.out.rising hr] at hrun
        simp only [Option.getD_some] at hrun
        obtain ⟨fn, tmps, assign, body, hy, hR⟩ := hY _ r wr hJk (by rw [List.length_take, HN.out]; omega) (hs r (List.mem_of_getElem? hr))
        have hts := take_snoc' hr
        rw [← hts] at hR
        have HTS := Lib.hid hts
        have HRr := Lib.hid hr
        have HKp := Lib.hid hKp
        clear hts hr hKp hBr hg hcur
        gi_wp2
        refine hR.mono ?_
        rintro e W3 (⟨rfl, hJ3, hk3⟩ | ⟨rfl, hJx3⟩)
        · gi_wp2
          go_roundw
          case rel => exact ⟨k + 1, by omega, by go_num, hJ3, HKp.out.trans hk3⟩
          case measure => simp [intOf]; omega
        · gi_wp2
          refine bodyPost_ret (results_none rfl _ _ _) rfl ?_
          exact ⟨⟨_, rfl⟩, .inr ⟨_, List.take_prefix _ _, hJx3⟩⟩
    · have e1 : L.take k = L := by rw [List.take_of_length_le]; rw [HN.out]; omega
      rw [e1] at hJk
      clear e1
      gi_wp2
      go_end0
      exact ⟨⟨_, rfl⟩, .inl ⟨_, rfl, hJk⟩⟩
end Go.Proofs.Ytpgchdjfeklobaa
