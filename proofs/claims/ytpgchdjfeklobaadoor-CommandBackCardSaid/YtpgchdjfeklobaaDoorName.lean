/-
  Walks: what may be a name, in the program and in the reference.
-/
import Derived.Lib.ConvBytes
import Derived.Test.YtpgchdjfeklobaaDoorPlainB
namespace Go.Proofs.YtpgchdjfeklobaaDoor
open Go.RowKit

theorem ret_bool {a b : Bool} (h : a = b) : Ending.returned (.bool a) = .returned (.bool b) := by rw [h]
/-! ### names -/
def okAt (j : Nat) (c : Int) : Bool := decide (97 ≤ c ∧ c ≤ 122) || (decide (0 < j) && (decide (48 ≤ c ∧ c ≤ 57) || decide (c = 45)))
def byteAt (s : ByteArray) (j : Nat) : Int := ((s.data.toList.getD j 0).toNat : Int)
def okTo (s : ByteArray) (k : Nat) : Bool := (List.range k).all fun j => okAt j (byteAt s j)
def nameOk (s : ByteArray) : Bool := decide (1 ≤ s.size ∧ s.size ≤ 20) && okTo s s.size
theorem okTo_succ (s : ByteArray) (k : Nat) : okTo s (k + 1) = (okTo s k && okAt k (byteAt s k)) := by
  unfold okTo; rw [List.range_succ, List.all_append]; simp
theorem okTo_false {s : ByteArray} {k : Nat} (hk : k < s.size) (h : okAt k (byteAt s k) = false) : okTo s s.size = false := by
  unfold okTo; rw [List.all_eq_false]; exact ⟨k, by simpa using hk, by simp [h]⟩
theorem byteAt_get {s : ByteArray} {k : Nat} (h : k < s.size) : byteAt s k = ((s[k]).toNat : Int) := by
  unfold byteAt; rw [List.getD_eq_getElem?_getD, List.getElem?_eq_getElem (by simpa using h)]; rfl
theorem byteAt_bd (s : ByteArray) (k : Nat) : 0 ≤ byteAt s k ∧ byteAt s k ≤ 255 := by
  unfold byteAt; have := (s.data.toList.getD k 0).toNat_lt; omega
theorem nameOk_size {s : ByteArray} (h : nameOk s = true) : s.size ≤ 20 := by
  unfold nameOk at h; simp at h; exact h.1.2

theorem below_bytes (w : World) (e : TypeId) (s : ByteArray) : Below w.heap.size w (Lib.bytesWorld w e s) :=
  ⟨rfl, rfl, rfl, by rw [Lib.bytesWorld_size]; omega, fun k hk => Lib.bytesWorld_at_old w e s k hk⟩
theorem bytes_of (w : World) {P : Program} (src dst e : TypeId) (s : ByteArray) (hs : P.underlying src = some .string) (hd : P.underlying dst = some (.slice e)) (he : P.underlying e = some (.int .u8)) :
    ∃ W cap, (convert src dst (.string s)).run P w = .ok (.slice (some ⟨w.heap.size, 0, none⟩) s.size cap) W ∧ (∀ j, j < s.size → W.cell? ⟨w.heap.size, j, none⟩ = some (.int .u8 (byteAt s j))) ∧ Below w.heap.size w W :=
  ⟨_, _, Lib.run_convert_string_bytes w src dst e s hs hd he, fun j hj => by rw [Lib.bytesWorld_cell w e s j hj]; rfl, below_bytes w e s⟩

set_option maxRecDepth 100000 in
set_option maxHeartbeats 1000000 in
theorem name14 (s : ByteArray) (w : World) (hs : s.size ≤ maxLen) : Calls Tryd.prog 72 #[.string s] w fun e w' => e = .returned (.bool (nameOk s)) ∧ w = w' := by
  unfold maxLen at hs
  go_enter Tryd.func72, Tryd.ntmps72
  go_wp2
  go_loop [3] (fun i => ∃ k : Nat, k ≤ s.size ∧ i = .int .i64 k ∧ okTo s k = true) (fun i => s.size - (intOf i).toNat)
  case atStart => exact ⟨0, Nat.zero_le _, rfl, rfl⟩
  case round =>
    obtain ⟨k, hk, rfl, ht⟩ := hrel
    have HT := Lib.hid ht
    clear ht
    go_wp2
    all_goals try (have hlt : k < s.size := by assumption)
    all_goals first
      | (go_round
         case rel =>
           refine ⟨k + 1, by omega, by go_num, ?_⟩
           rw [okTo_succ, HT.out, byteAt_get hlt]
           grind [okAt]
         case measure => simp [intOf]; omega)
      | (go_ret
         refine ⟨ret_bool ?_, rfl⟩
         first
          | (have h0 : okAt k (byteAt s k) = false := by rw [byteAt_get hlt]; grind [okAt]
             rw [nameOk, okTo_false hlt h0]; simp; done)
          | (obtain rfl : k = s.size := by omega
             rw [nameOk, HT.out]; grind))

set_option maxRecDepth 100000 in
set_option maxHeartbeats 1000000 in
theorem name16 (s : ByteArray) (w : World) (hs : s.size ≤ maxLen) : Calls Tryd.prog 54 #[.string s] w fun e w' => e = .returned (.bool (nameOk s)) ∧ Below w.heap.size w w' := by
  unfold maxLen at hs
  obtain ⟨W, cap, hconv, hcell, hb⟩ := bytes_of w (P := Tryd.prog) 9 24 5 s Tryd.underlying9 Tryd.underlying24 Tryd.underlying5
  have HC := Lib.hid hcell
  have HB := Lib.hid hb
  clear hcell hb
  by_cases h1 : 1 ≤ s.size ∧ s.size ≤ 20
  · obtain ⟨h1, h2⟩ := h1
    go_enter Tryd.func54, Tryd.ntmps54
    go_wp2
    go_loop [3, 18] (fun _ i => ∃ k : Nat, k ≤ s.size ∧ i = .int .i64 k ∧ okTo s k = true) (fun _ i => s.size - (intOf i).toNat)
    case atStart => exact ⟨0, Nat.zero_le _, rfl, rfl⟩
    case round =>
      obtain ⟨k, hk, rfl, ht⟩ := hrel
      have HT := Lib.hid ht
      clear ht
      obtain ⟨c0, c1⟩ := byteAt_bd s k
      have hcell : k < s.size → W.cell? ⟨w.heap.size, k, none⟩ = some (.int .u8 (byteAt s k)) := fun h => HC.out k h
      go_wp2
      all_goals try (have hlt : k < s.size := by assumption)
      all_goals first
        | (go_round
           case rel =>
             refine ⟨k + 1, by omega, by first | (go_num; done) | (simp [*]; done), ?_⟩
             rw [okTo_succ, HT.out]
             grind [okAt]
           case measure => simp [intOf]; omega)
        | (go_ret
           refine ⟨ret_bool ?_, HB.out⟩
           first
            | (have h0 : okAt k (byteAt s k) = false := by grind [okAt]
               rw [nameOk, okTo_false hlt h0]; simp; done)
            | (obtain rfl : k = s.size := by omega
               rw [nameOk, HT.out]; grind))
  · have h2 : s.size < 1 ∨ 20 < s.size := by omega
    have hn : nameOk s = false := by unfold nameOk; grind
    have HN := Lib.hid hn
    clear hn hconv h1
    rcases h2 with h2 | h2
    all_goals
      go_enter Tryd.func54, Tryd.ntmps54
      go_wp2
      go_ret
      exact ⟨ret_bool HN.out.symm, Below.refl _ _⟩

end Go.Proofs.YtpgchdjfeklobaaDoor
