/-
  Memory words for the walks: a ref as a value, the map of a table, the slice of refs; small facts of the program's own tables.
-/
import Derived.Test.YtpgchdjfeklobaaProg
import Derived.Test.YtpgchdjfeklobaaPlain
import Derived.WalkKit
import Derived.WalkSpells
import Derived.WalkLawsBesides
import Derived.StillTailTactics
import Derived.KernelRfl
import Derived.StringKeys
import Derived.Lib.Hide
import Derived.Lib.ConvBytes
import Derived.Maps.OwnSet
import Derived.Maps.AppendAt
import Derived.Deep.AppendLies
import Derived.Deep.Draws
import Derived.Laws.OwnMore
namespace Go.Proofs.Ytpgchdjfeklobaa
open Go.RowKit Go.Maps Go.WideMaps

theorem ret_bool {a b : Bool} (h : a = b) : Ending.returned (.bool a) = .returned (.bool b) := by rw [h]
theorem ret_int {k : IntKind} {a b : Int} (h : a = b) : Ending.returned (.int k a) = .returned (.int k b) := by rw [h]

abbrev refV (r : RefD) : Value := .agg #[.string r.name, .bool r.tag, .int .u64 r.id]
def refCs (r : RefD) : List Value := [.string r.name, .bool r.tag, .int .u64 r.id]
def refElem : Value → Option (DataW Unit × List MemPlace)
  | .agg cs => match cs.toList with
    | [.string s, .bool t, .int .u64 i] => some (.agg [.lit (.string s.data.toList), .lit (.bool t), .lit (.int .u64 i)], [])
    | _ => none
  | _ => none
theorem refElem_mk (r : RefD) : refElem (refV r) = some (refD r, []) := rfl
theorem refElem_inv {v : Value} {r : RefD} {ps : List MemPlace} (h : refElem v = some (refD r, ps)) : v = refV r := by
  unfold refElem at h
  split at h
  · rename_i cs
    split at h
    · rename_i s t i hc
      simp only [Option.some.injEq, Prod.mk.injEq, refD, DataW.agg.injEq, List.cons.injEq, DataW.lit.injEq, Lit.string.injEq, Lit.bool.injEq, Lit.int.injEq] at h
      obtain ⟨⟨h1, h2, h3, _⟩, _⟩ := h
      have e1 : s = r.name := WideShapes.bytes_inj h1
      obtain ⟨cl⟩ := cs
      simp only at hc
      rw [hc, e1, h2, h3.2]
    · cases h
  · cases h

theorem zero32 (w : World) : (zeroValue 32).run Try.prog w = .ok (refV zeroR) w := by kernel_rfl
theorem strLaw : Keyed Try.prog 9 := string_keyed Try.underlying9

/-- Block b is the map that holds the table L. -/
def MapIs (w : World) (b : Nat) (L : List RefD) : Prop := w.ownsMap Try.prog 9 refElem b L.length (DM L)
theorem MapIs.of {w : World} {b n : Nat} {L : List RefD} (h : w.ownsMap Try.prog 9 refElem b n (DM L)) : MapIs w b L := by
  obtain ⟨es, clock, hb, F, hs, hD⟩ := h
  refine ⟨es, clock, hb, F, ?_, hD⟩
  have h1 : Maps.size (DM L) = es.size := by
    rw [hD]
    simp [Maps.size, length_sorted]
  rw [size_DM] at h1
  omega
theorem MapIs.lt {w : World} {b : Nat} {L : List RefD} (h : MapIs w b L) : b < w.heap.size := World.ownsMap.lt h
theorem MapIs.kept {w w' : World} {b : Nat} {L : List RefD} {row : Option Nat} (h : MapIs w b L) (hg : w.grownBy w' row) (hne : some b ≠ row) : MapIs w' b L := World.ownsMap.kept h hg hne
theorem MapIs.below {w w' : World} {b B : Nat} {L : List RefD} (h : MapIs w b L) (hg : Below B w w') (hlt : b < B) : MapIs w' b L := by
  obtain ⟨es, clock, hb, r⟩ := h
  exact ⟨es, clock, (hg.block b hlt).trans hb, r⟩
theorem MapIs.look {w : World} {b : Nat} {L : List RefD} (h : MapIs w b L) (s : ByteArray) (hs : s.size ≤ maxLen) :
    (Instr.lookup 53 (.map (some b)) (.string s) true).run Try.prog w = .ok (.tuple #[refV ((getL L s).getD zeroR), .bool (getL L s).isSome]) w := by
  obtain ⟨v, ps, hrun, hv⟩ := World.ownsMap.look_ok h strLaw (t := 53) (e := 32) Try.underlying53 (zero32 w) (refElem_mk zeroR) (keyOf_string_mk Try.underlying9 hs)
  rw [at_DM] at hv
  rw [has_DM] at hrun
  have h1 : v = refV ((getL L s).getD zeroR) := by
    cases hg : getL L s with
    | none => rw [hg] at hv; exact refElem_inv hv
    | some r => rw [hg] at hv; exact refElem_inv hv
  rw [hrun, h1]
theorem MapIs.look1 {w : World} {b : Nat} {L : List RefD} (h : MapIs w b L) (s : ByteArray) (hs : s.size ≤ maxLen) :
    (Instr.lookup 53 (.map (some b)) (.string s) false).run Try.prog w = .ok (refV ((getL L s).getD zeroR)) w := by
  obtain ⟨v, ps, hrun, hv⟩ := World.ownsMap.lookup h strLaw (t := 53) (e := 32) Try.underlying53 (zero32 w) (refElem_mk zeroR) (keyOf_string_mk Try.underlying9 hs)
  rw [at_DM] at hv
  have h1 : v = refV ((getL L s).getD zeroR) := by
    cases hg : getL L s with
    | none => rw [hg] at hv; exact refElem_inv hv
    | some r => rw [hg] at hv; exact refElem_inv hv
  rw [hrun, h1]
/-- The slice at A holds the refs ls, three cells each. -/
def RefsAt (w : World) (A : Option Addr) (ls : List RefD) : Prop :=
  ls = [] ∨ ∃ g off, A = some ⟨g, off, none⟩ ∧ g < w.heap.size ∧ ∀ j r, ls[j]? = some r →
    w.cell? ⟨g, off + j * 3, none⟩ = some (.string r.name) ∧ w.cell? ⟨g, off + j * 3 + 1, none⟩ = some (.bool r.tag) ∧ w.cell? ⟨g, off + j * 3 + 2, none⟩ = some (.int .u64 r.id)
theorem RefsAt.nil (w : World) (A : Option Addr) : RefsAt w A [] := .inl rfl
theorem RefsAt.get {w : World} {A : Option Addr} {ls : List RefD} {k : Nat} (h : RefsAt w A ls) (hk : k < ls.length) : ∃ g off r, A = some ⟨g, off, none⟩ ∧ g < w.heap.size ∧ ls[k]? = some r ∧
    w.cell? ⟨g, off + k * 3, none⟩ = some (.string r.name) ∧ w.cell? ⟨g, off + k * 3 + 1, none⟩ = some (.bool r.tag) ∧ w.cell? ⟨g, off + k * 3 + 2, none⟩ = some (.int .u64 r.id) := by
  rcases h with rfl | ⟨g, off, e, hg, hc⟩
  · simp at hk
  · exact ⟨g, off, ls[k], e, hg, List.getElem?_eq_getElem hk, hc k _ (List.getElem?_eq_getElem hk)⟩
theorem RefsAt.below {w w' : World} {A : Option Addr} {ls : List RefD} (h : RefsAt w A ls) (hb : Below w.heap.size w w') : RefsAt w' A ls := by
  rcases h with rfl | ⟨g, off, e, hg, hc⟩
  · exact .inl rfl
  · exact .inr ⟨g, off, e, Nat.lt_of_lt_of_le hg hb.size, fun j r hj => by
      obtain ⟨h1, h2, h3⟩ := hc j r hj
      exact ⟨(hb.cell (p := ⟨g, _, none⟩) hg).trans h1, (hb.cell (p := ⟨g, _, none⟩) hg).trans h2, (hb.cell (p := ⟨g, _, none⟩) hg).trans h3⟩⟩
theorem MapIs.alloc {w : World} {b : Nat} {L : List RefD} (h : MapIs w b L) (o : Obj) : MapIs (w.alloc o) b L := World.ownsMap.alloc h o
theorem MapIs.drew {w : World} {b : Nat} {L : List RefD} (h : MapIs w b L) : MapIs w.drew b L := h
theorem MapIs.drewN {w : World} {b : Nat} {L : List RefD} (h : MapIs w b L) (n : Nat) : MapIs (w.drewN n) b L := h
theorem MapIs.setCell {w : World} {b : Nat} {L : List RefD} (h : MapIs w b L) {a : Addr} (ha : b ≠ a.block) (u : Value) : MapIs (w.setCell a u) b L := World.ownsMap.setCell h ha u

section
variable {ops : Array Oper} {rest : List Oper} {o : Oper} {a : Act} {Q : Exit → Act → World → Prop}
theorem wpList_look53 (w : World) (hg : o.guard = none) (m x : Operand) (hop : o.op = Op.lookup 53 m x true) (b : Nat) (L : List RefD) (s : ByteArray) (hm : a.eval m = .map (some b)) (hx : a.eval x = .string s)
    (hs : s.size ≤ maxLen) (hown : MapIs w b L) (r : RefD) (t : Bool) (hr : (getL L s).getD zeroR = r) (ht : (getL L s).isSome = t)
    (hK : wpList Try.prog ops Q rest (a.put o.dst (.tuple #[.agg #[.string r.name, .bool r.tag, .int .u64 r.id], .bool t])) w) : wpList Try.prog ops Q (o :: rest) a w := by
  refine wpList_plain hg fun K' hK' => ?_
  have hrun := hown.look s hs
  rw [hr, ht] at hrun
  unfold Oper.wp
  simp [execOp, hop, hm, hx, hrun, Result.andThen]
  exact hK' _ _ hK
theorem wpList_look53' (w : World) (hg : o.guard = none) (m x : Operand) (hop : o.op = Op.lookup 53 m x false) (b : Nat) (L : List RefD) (s : ByteArray) (hm : a.eval m = .map (some b)) (hx : a.eval x = .string s)
    (hs : s.size ≤ maxLen) (hown : MapIs w b L) (r : RefD) (hr : (getL L s).getD zeroR = r)
    (hK : wpList Try.prog ops Q rest (a.put o.dst (.agg #[.string r.name, .bool r.tag, .int .u64 r.id])) w) : wpList Try.prog ops Q (o :: rest) a w := by
  refine wpList_plain hg fun K' hK' => ?_
  have hrun := hown.look1 s hs
  rw [hr] at hrun
  unfold Oper.wp
  simp [execOp, hop, hm, hx, hrun, Result.andThen]
  exact hK' _ _ hK
theorem wpList_put53 (w : World) (hg : o.guard = none) (m x v : Operand) (hop : o.op = Op.mapUpdate 53 m x v) (b : Nat) (L : List RefD) (r : RefD) (hm : a.eval m = .map (some b)) (hx : a.eval x = .string r.name) (hv : a.eval v = refV r)
    (hs : r.name.size ≤ maxLen) (hown : MapIs w b L) (hl : L.length < maxLen) (L' : List RefD) (hL' : (DM L).put (.string r.key) (refD r) = DM L')
    (hK : ∀ w', MapIs w' b L' → w.grownBy w' (some b) → wpList Try.prog ops Q rest (a.put o.dst undef) w') : wpList Try.prog ops Q (o :: rest) a w :=
  wpList_mapUpdate_own w hg m x v 53 hop 9 32 strLaw Try.underlying53 refElem b L.length (DM L) hm hown hl _ _ (.string r.key) hx hv (keyOf_string_mk Try.underlying9 hs) (refD r) [] (refElem_mk r)
    (fun w' h1 h2 => hK w' (MapIs.of (hL' ▸ h1)) h2)
theorem wpList_del53 (w : World) (hg : o.guard = none) (m x : Operand) (hop : o.op = Op.call { callee := Callee.builtin Builtin.delete, args := #[m, x], argTypes := #[53, 9] }) (b : Nat) (L : List RefD) (s : ByteArray) (hm : a.eval m = .map (some b)) (hx : a.eval x = .string s)
    (hs : s.size ≤ maxLen) (hown : MapIs w b L)
    (hK : ∀ w', MapIs w' b (L.filter fun x => !decide (x.name = s)) → w.grownBy w' (some b) → wpList Try.prog ops Q rest (a.put o.dst (.tuple #[])) w') : wpList Try.prog ops Q (o :: rest) a w :=
  wpList_delete_own w hg m x 53 9 hop 32 strLaw Try.underlying53 refElem b L.length (DM L) hm hown _ (.string s.data.toList) hx (keyOf_string_mk Try.underlying9 hs)
    (fun w' h1 h2 => hK w' (MapIs.of (del_DM L s ▸ h1)) h2.grown)
theorem wpList_len53 (w : World) (hg : o.guard = none) (m : Operand) (hop : o.op = Op.call { callee := Callee.builtin Builtin.len, args := #[m], argTypes := #[53] }) (b : Nat) (L : List RefD) (hm : a.eval m = .map (some b)) (hown : MapIs w b L)
    (hK : wpList Try.prog ops Q rest (a.put o.dst (.int .i64 (L.length : Int))) w) : wpList Try.prog ops Q (o :: rest) a w :=
  wpList_len_own w hg m 53 hop 9 32 Try.underlying53 refElem b L.length (DM L) hm hown (by rw [size_DM]; exact hK)
end
end Go.Proofs.Ytpgchdjfeklobaa
