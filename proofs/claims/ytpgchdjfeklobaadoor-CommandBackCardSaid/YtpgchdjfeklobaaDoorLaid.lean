/-
  What the listed variables give a walk; a world that meets the condition.
-/
import Derived.Test.YtpgchdjfeklobaaDoorRows
import Derived.Test.YtpgchdjfeklobaaDoorOnce
import Derived.ProofKit
import Derived.LaidMore
import Derived.OpenShut
import Derived.LaidLaws
import Derived.Stop.Joined
namespace Go.Proofs.YtpgchdjfeklobaaDoor
open Go.ChangeShapes Go.WideShapes Go.ChangeAt Go.RowKit

def laid5 : List (String × DataW Unit) := [("math/bits.deBruijn32tab", Rows.laid_math_bits_deBruijn32tab), ("math/bits.deBruijn64tab", Rows.laid_math_bits_deBruijn64tab), ("internal/strconv.uint64pow10", Rows.laid_internal_strconv_uint64pow10), ("strconv.ErrRange", Rows.laid_strconv_ErrRange), ("strconv.ErrSyntax", Rows.laid_strconv_ErrSyntax)]
theorem own : ownKnob Tryd.prog.godebug = none := by kernel_rfl
theorem laidOut : laidOutB Tryd.prog = true := by kernel_rfl
theorem gSyn : Tryd.prog.globalNamed "strconv.ErrSyntax" = some 1 := by kernel_rfl
theorem gRng : Tryd.prog.globalNamed "strconv.ErrRange" = some 2 := by kernel_rfl
theorem gPow : Tryd.prog.globalNamed "internal/strconv.uint64pow10" = some 3 := by kernel_rfl
theorem tSyn : (Tryd.prog.globals[1]?).map (·.type) = some 97 := by kernel_rfl
theorem tRng : (Tryd.prog.globals[2]?).map (·.type) = some 97 := by kernel_rfl
theorem tPow : (Tryd.prog.globals[3]?).map (·.type) = some 175 := by kernel_rfl
theorem pow_data : Rows.laid_internal_strconv_uint64pow10 (H := Unit) = Lib.tabData .u64 Lib.pow10Tab := by rfl
theorem door_met (os : Os) (args : Array Value) : laidMetH Tryd.prog laid5 ((World.doorLaid Tryd.prog 400 os).forCall (fun _ _ => 0) ⟨#[], args, []⟩).memory :=
  laidMetH_of_parts3 (fuel := 8) (laidMet_of_run' 8 (by kernel_rfl) (by kernel_rfl)) (by kernel_rfl) (by kernel_rfl)
theorem vars_of_laid {W : World} (h : laidMetH Tryd.prog laid5 W) : Vars W := by
  rw [MakeChecks.laidMetH_plain _ _ _ (by kernel_rfl)] at h
  obtain ⟨ps, ⟨g0, t0, cs0, f0, p0, q0, hg0, ht0, hv0, hd0, ⟨g1, t1, cs1, f1, p1, q1, hg1, ht1, hv1, hd1, ⟨g2, t2, cs2, f2, p2, q2, hg2, ht2, hv2, hd2, ⟨g3, t3, cs3, f3, p3, q3, hg3, ht3, hv3, hd3, ⟨g4, t4, cs4, f4, p4, q4, hg4, ht4, hv4, hd4, _, _⟩, _⟩, _⟩, _⟩, _⟩, _, _⟩ := h
  obtain rfl := Option.some.inj (gRng.symm.trans hg3)
  obtain rfl := Option.some.inj (gSyn.symm.trans hg4)
  obtain rfl := Option.some.inj (gPow.symm.trans hg2)
  obtain rfl := Option.some.inj (tRng.symm.trans ht3)
  obtain rfl := Option.some.inj (tSyn.symm.trans ht4)
  obtain rfl := Option.some.inj (tPow.symm.trans ht2)
  obtain ⟨f5, u5, v5, e5, _, _⟩ := iface_of_trod Tryd.underlying97 hd3
  obtain ⟨f6, u6, v6, e6, _, _⟩ := iface_of_trod Tryd.underlying97 hd4
  have hp : cs2.toList = Lib.pow10Tab.map fun z => Value.int .u64 z := Lib.cells_of_tab Tryd.underlying175 Tryd.underlying42 (by kernel_rfl) (by kernel_rfl) (by rw [← pow_data]; exact hd2)
  have ht : Lib.TabIs Tryd.prog W "internal/strconv.uint64pow10" .u64 Lib.pow10Tab := by
    unfold Lib.TabIs
    rw [hv2, ← hp]
  have c3 := World.var?_cell hg3 hv3 0
  have c4 := World.var?_cell hg4 hv4 0
  rw [Array.eq_one_of_toList e5] at c3
  rw [Array.eq_one_of_toList e6] at c4
  have c5 := ht.cell gPow 0 (by rw [Lib.pow10Tab_length]; omega)
  refine ⟨⟨u6, v6, by simpa using c4⟩, ⟨u5, v5, by simpa using c3⟩, Lib.tabBelow_of_tabIs ht, ?_⟩
  have := block_lt_of_cell c5
  simp only at this
  omega

theorem add_in (a : Addr) (i : Nat) : (a.add i).block = a.block := block_of_add a i
theorem u8_of {z : Int} (h : (Lit.int .u8 z).wf = true) : ((UInt8.ofNat z.toNat).toNat : Int) = z := by
  have e1 : IntKind.u8.min = 0 := rfl
  have e2 : IntKind.u8.max = 255 := rfl
  simp [Lit.wf] at h
  rw [e1, e2] at h
  rw [UInt8.toNat_ofNat']
  omega
/-- A slice of bytes that came in. -/
theorem open_bytes {H : Type} {enc : TypeId × Value → H} {w : World} {base : Nat} {spare : Nat → Bool} {held : Bool} {fuel : Nat} {A : Option Addr} {len cap : Nat} {x : DataW H × List MemPlace}
    (h : DataW.trod enc Tryd.prog w base spare held fuel 24 [.slice A len cap] = some x) :
    ∃ bs : List UInt8, bs.length = len ∧ len ≤ maxLen ∧ len ≤ cap ∧ Reads w w.heap.size 1 A len (cellsB bs) ∧ (A = none → len = 0 ∧ cap = 0) := by
  rcases open_ints Tryd.underlying24 Tryd.underlying5 (by kernel_rfl) h with ⟨hc, _⟩ | ⟨a, l, c, zs, hc, _, hlc, hcm, hz, _, hcell, hwf⟩
  · simp at hc
    obtain ⟨rfl, rfl, rfl⟩ := hc
    exact ⟨[], rfl, by unfold maxLen; omega, Nat.le_refl _, Reads.none_, fun _ => ⟨rfl, rfl⟩⟩
  · simp at hc
    obtain ⟨rfl, rfl, rfl⟩ := hc
    have hlz : len ≤ zs.length := by rw [hz]; split <;> omega
    refine ⟨(zs.take len).map fun z => UInt8.ofNat z.toNat, by simp; omega, by omega, hlc, ⟨by simp [cellsB]; omega, fun h0 => ?_⟩, fun e => by cases e⟩
    have hb : a.block < w.heap.size := by
      have := block_lt_of_cell (hcell 0 (by omega))
      rw [add_in] at this
      exact this
    refine ⟨a, rfl, hb, fun j u hj => ?_⟩
    have hj' := (List.getElem?_eq_some_iff.1 hj).1
    simp [cellsB] at hj'
    rw [hcell j (by omega)]
    unfold cellsB at hj
    rw [List.map_map, List.getElem?_map, List.getElem?_take, if_pos (by omega), List.getElem?_eq_getElem (by omega)] at hj
    simp only [Option.map_some, Option.some.injEq, Function.comp] at hj
    rw [← hj, List.getD_eq_getElem?_getD, List.getElem?_eq_getElem (by omega)]
    unfold byteV
    rw [u8_of (hwf _ (List.getElem_mem _))]
    rfl
end Go.Proofs.YtpgchdjfeklobaaDoor
