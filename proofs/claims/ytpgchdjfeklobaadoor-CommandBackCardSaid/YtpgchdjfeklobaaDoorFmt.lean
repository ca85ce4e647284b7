/-
  Walk: a number's digits, by the library's FormatUint.
-/
import Derived.Test.YtpgchdjfeklobaaDoorLay
import Derived.Test.YtpgchdjfeklobaaDoorRRef
import Derived.Lib.ItoaMem
import Derived.Lib.AppendIntMem
import Derived.Lib.Walk
import Derived.BigCall
import Derived.BigGuard
namespace Go.Proofs.YtpgchdjfeklobaaDoor
open Go.RowKit Go.Sort Go.Lib

/-- What the listed variables hold. -/
structure Vars (w : World) : Prop where
  syn : ∃ tp p, w.cell? ⟨1, 0, none⟩ = some (.iface tp p)
  rng : ∃ tp p, w.cell? ⟨2, 0, none⟩ = some (.iface tp p)
  tab : Lib.TabBelow Tryd.prog w.heap.size w "internal/strconv.uint64pow10" .u64 Lib.pow10Tab
  size : 3 ≤ w.heap.size
theorem Vars.below {w w' : World} (h : Vars w) (hb : Below w.heap.size w w') : Vars w' := by
  have hs := h.size
  refine ⟨?_, ?_, fun w2 hb2 => h.tab w2 (hb.trans (hb2.mono hb.size)), Nat.le_trans hs hb.size⟩
  · obtain ⟨tp, p, e⟩ := h.syn
    exact ⟨tp, p, by rw [hb.cell (by show 1 < _; omega)]; exact e⟩
  · obtain ⟨tp, p, e⟩ := h.rng
    exact ⟨tp, p, by rw [hb.cell (by show 2 < _; omega)]; exact e⟩
theorem put_below (w : World) (o : Obj) (k : Nat) (d : Array UInt8) : Below w.heap.size w ((putRow (fun (b : UInt8) => Value.int .u8 (b.toNat : Int)) (w.alloc o) w.heap.size 0 d).drewN k) := by
  obtain ⟨os, e⟩ := Lib.fin_at w o d k 0
  rw [e]
  exact Lib.below_grow _ _ (Nat.le_refl _) _ _
set_option maxRecDepth 100000 in
set_option maxHeartbeats 6400000 in
theorem fmtin_any (u : Nat) (w : World) (hu64 : u < 18446744073709551616) (hV : Vars w) :
    Calls Tryd.prog 106 #[numV u, .int .i64 10] w fun e w' => e = .returned (.string ⟨(Lib.decDigits u).toArray⟩) ∧ Below w.heap.size w w' := by
  have htab := hV.tab.here
  have HT := Lib.hid htab
  clear htab hV
  by_cases hs : u < 100
  · go_enter Tryd.func106, Tryd.ntmps106
    go_wp2_with (go_at_call 118; refine (Tryd.internal_strconv_small u hs _).mono ?_; rintro e w' ⟨rfl, rfl⟩)
    go_ret
    exact ⟨rfl, Below.refl _ _⟩
  · have hu1 : 1 ≤ u := by omega
    have hnd20 : Lib.nDigits u ≤ 20 := by have := Lib.numDigits_eq u hu1 hu64; split at this <;> omega
    have hal : Tryd.prog.arrayLen 164 = 24 := by simp [Program.arrayLen, Tryd.underlying164]
    have hsl1 : ∀ W, (Instr.sliceAt 164 (.pointer (some ⟨w.heap.size, 0, none⟩)) none (some (.int .i64 (Lib.nDigits u : Int))) none).run Tryd.prog W = .ok (.slice (some ⟨w.heap.size, 0, none⟩) (Lib.nDigits u) 24) W := fun W => by
      rw [run_sliceAt_array_h W 164 ⟨w.heap.size, 0, none⟩ (by simp [Program.arrayLen, Program.elem, Tryd.underlying164]) .i64 (Lib.nDigits u : Int) (by omega) (by rw [hal]; omega)]
      go_simp
      try omega
    have hH0 := Lib.holds_zero0 w 164 (Lib.nDigits u) (by omega)
    have hfmt := Tryd.internal_strconv_formatBase10 w.heap.size 0 24 u (Array.replicate (Lib.nDigits u) 0) (w.alloc (.cells Lib.zeros24 164)) hH0 (by rw [Array.size_replicate]; exact Lib.lt_pow_nDigits u) hu64 (by rw [Array.size_replicate]; omega)
    rw [Array.size_replicate] at hfmt
    have HH0 := Lib.hid hH0
    have HF := Lib.hid hfmt
    clear hH0 hal hfmt
    go_enter Tryd.func106, Tryd.ntmps106
    go_wp2_with (first
      | (go_at_call 119; refine (Tryd.internal_strconv_numDigits u hu1 hu64 _ (Lib.tabIs_alloc HT.out _)).mono ?_; rintro e w' ⟨rfl, rfl⟩))
    go_at_call 120
    refine HF.out.mono ?_
    rintro e w' ⟨rfl, k, v', dk, rfl, hF⟩
    have hcv : (convert 24 9 (.slice (some ⟨w.heap.size, 0, none⟩) (Lib.nDigits u) 24)).run Tryd.prog ((putRow (fun (b : UInt8) => Value.int .u8 (b.toNat : Int)) (w.alloc (.cells Lib.zeros24 164)) w.heap.size 0 dk).drewN k) = .ok (.string ⟨(Lib.decDigits u).toArray⟩) ((putRow (fun (b : UInt8) => Value.int .u8 (b.toNat : Int)) (w.alloc (.cells Lib.zeros24 164)) w.heap.size 0 dk).drewN k) := by
      have h := run_convert_bytes_back (P := Tryd.prog) ((putRow (fun (b : UInt8) => Value.int .u8 (b.toNat : Int)) (w.alloc (.cells Lib.zeros24 164)) w.heap.size 0 dk).drewN k) 24 9 5 ⟨w.heap.size, 0, none⟩ 24 (Lib.decDigits u) Tryd.underlying24 Tryd.underlying5 Tryd.underlying9 (fun j hj => by
        rw [Lib.row_is_numeral hF j hj, Lib.add_plain, World.cell?_drewN]
        exact cell?_putRow (fun (b : UInt8) => Value.int .u8 (b.toNat : Int)) _ w.heap.size 0 _ dk HH0.out (by rw [hF.size, Array.size_replicate]) j (by rw [hF.size]; rw [Lib.decDigits_length] at hj; exact hj))
      rw [Lib.decDigits_length] at h
      exact h
    go_wp2
    go_ret
    exact ⟨rfl, put_below w _ k dk⟩
theorem fmt_any (u : Nat) (w : World) (hu64 : u < 18446744073709551616) (hV : Vars w) :
    Calls Tryd.prog 76 #[numV u, .int .i64 10] w fun e w' => e = .returned (.string ⟨(Lib.decDigits u).toArray⟩) ∧ Below w.heap.size w w' := by
  have F := Lib.hid (fmtin_any u w hu64 hV)
  clear hV
  go_enter Tryd.func76, Tryd.ntmps76
  go_wp2_with (go_at_call 106; refine F.out.mono ?_; rintro e w' ⟨rfl, hb⟩)
  go_ret
  exact ⟨rfl, hb⟩
end Go.Proofs.YtpgchdjfeklobaaDoor
