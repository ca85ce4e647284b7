/-
  Rows of bytes that a call owns, what is appended to them; walks of the reference's Num, Text and Put.
-/
import Derived.Test.YtpgchdjfeklobaaDoorWords
import Derived.Test.YtpgchdjfeklobaaDoorNums
import Derived.Lib.AppendStr
import Derived.Deep.Onto
import Derived.Lib.Hide
import Derived.WalkSpells
import Derived.WalkLawsBesides
namespace Go.Proofs.YtpgchdjfeklobaaDoor
open Go.RowKit

abbrev byteV (b : UInt8) : Value := .int .u8 (b.toNat : Int)
def cellsB (bs : List UInt8) : List Value := bs.map byteV
theorem cellsB_append (a b : List UInt8) : cellsB (a ++ b) = cellsB a ++ cellsB b := List.map_append
theorem cellsB_one (bs : List UInt8) : ∀ u ∈ cellsB bs, u.oneCell' = true := by
  intro u hu
  obtain ⟨b, _, rfl⟩ := List.mem_map.1 hu
  rfl
theorem info5 : (Tryd.prog.info? 5).map (fun i => (i.zero, i.size, i.bytes)) = some (some (.int .u8 0), 1, 1) := by kernel_rfl
theorem info5' : ∃ i, Tryd.prog.info? 5 = some i ∧ i.zero = some (.int .u8 0) ∧ i.size = 1 ∧ i.bytes = 1 := by
  have h := info5
  cases hi : Tryd.prog.info? 5 with
  | none => rw [hi] at h; cases h
  | some i =>
    rw [hi] at h
    simp at h
    exact ⟨i, rfl, h.1, h.2.1, h.2.2⟩

/-- The value v is a row of bytes of base's own or later that holds bs. -/
def Own (w : World) (base : Nat) (v : Value) (bs : List UInt8) : Prop := w.ownsRow base 5 1 v bs.length (cellsB bs)
theorem Own.nil (w : World) (base : Nat) : Own w base (.slice none 0 0) [] := World.ownsRow_nil _ _ _ _
theorem Own.alloc {w : World} {base : Nat} {v : Value} {bs : List UInt8} (h : Own w base v bs) (o : Obj) : Own (w.alloc o) base v bs := World.ownsRow.alloc h o
theorem Own.drew {w : World} {base : Nat} {v : Value} {bs : List UInt8} (h : Own w base v bs) : Own w.drew base v bs := h
theorem Own.mono {w : World} {base base' : Nat} {v : Value} {bs : List UInt8} (h : Own w base v bs) (hb : base' ≤ base) : Own w base' v bs := World.ownsRow.mono h hb
theorem Own.lt {w : World} {base : Nat} {v : Value} {bs : List UInt8} (h : Own w base v bs) : ∀ k, v.ownBlock = some k → base ≤ k ∧ k < w.heap.size := World.ownsRow.lt h
theorem Own.kept {w w' : World} {base : Nat} {v : Value} {bs : List UInt8} {row : Option Nat} (h : Own w base v bs) (hg : w.grownBy w' row) (hne : v.ownBlock = none ∨ v.ownBlock ≠ row) : Own w' base v bs := World.ownsRow.kept h hg hne
/-- A row that is owned is a slice of its length. -/
theorem Own.form {w : World} {base : Nat} {v : Value} {bs : List UInt8} (h : Own w base v bs) : ∃ A cap, v = .slice A bs.length cap ∧ Reads w w.heap.size 1 A bs.length (cellsB bs) := by
  have h' : w.ownsRow base 5 1 v bs.length (cellsB bs) := h
  rcases h.2 with ⟨rfl, h0⟩ | ⟨g, cap, cur, rfl, _⟩
  · refine ⟨none, 0, by rw [h0], ?_⟩
    rw [List.eq_nil_of_length_eq_zero h0]
    exact Reads.none_
  · exact ⟨_, cap, rfl, Reads.of_own h'⟩

/-- What an append keeps: all but the row's own block; the row lies where it lay, or anew. -/
structure Step (w w' : World) (v v' : Value) : Prop where
  grown : w.grownBy w' v.ownBlock
  own : v'.ownBlock = v.ownBlock ∨ ∀ g, v'.ownBlock = some g → w.heap.size ≤ g
theorem grown_refl (w : World) (row : Option Nat) : w.grownBy w row := ⟨rfl, rfl, rfl, Nat.le_refl _, fun _ _ _ => rfl⟩
theorem Step.refl (w : World) (v : Value) : Step w w v v := ⟨grown_refl _ _, .inl rfl⟩
theorem Step.trans {a b c : World} {u v x : Value} (h : Step a b u v) (k : Step b c v x) : Step a c u x := by
  refine ⟨⟨k.grown.os.trans h.grown.os, k.grown.tape.trans h.grown.tape, k.grown.output.trans h.grown.output, Nat.le_trans h.grown.size k.grown.size, fun i hi hne => ?_⟩, ?_⟩
  · refine (k.grown.block i (Nat.lt_of_lt_of_le hi h.grown.size) (fun e => ?_)).trans (h.grown.block i hi hne)
    rcases h.own with h1 | h1
    · exact hne (e.trans h1)
    · exact absurd hi (Nat.not_lt.2 (h1 i e.symm))
  · rcases k.own with k1 | k1
    · rcases h.own with h1 | h1
      · exact .inl (k1.trans h1)
      · exact .inr (fun g e => h1 g (k1 ▸ e))
    · exact .inr (fun g e => Nat.le_trans h.grown.size (k1 g e))
theorem Step.alloc (w : World) (v : Value) (o : Obj) : Step w (w.alloc o) v v :=
  ⟨⟨rfl, rfl, rfl, by simp, fun k hk _ => heap_alloc_old w o hk⟩, .inl rfl⟩
theorem Step.below {w w' : World} {v v' : Value} {base : Nat} {bs : List UInt8} (h : Step w w' v v') (ho : Own w base v bs) (hb : base ≤ w.heap.size) : Below base w w' :=
  (Below.refl base w).grown h.grown hb (fun k e => (ho.lt k e).1)
theorem Step.of_below {w w' : World} (h : Below w.heap.size w w') (v : Value) : Step w w' v v :=
  ⟨⟨h.os, h.tape, h.output, h.size, fun k hk _ => h.block k hk⟩, .inl rfl⟩

section
variable {ops : Array Oper} {rest : List Oper} {o : Oper} {a : Act} {Q : Exit → Act → World → Prop}
theorem wpB_one (w : World) (hgd : o.guard = none) (s x : Operand) (ho : o.op = .call { callee := .builtin .append, args := #[s, x], argTypes := #[24, 24] }) (base : Nat) (v : Value) (bs : List UInt8) (hs : a.eval s = v)
    (hown : Own w base v bs) (g : Nat) (X : Int) (b : UInt8) (hx : a.eval x = .slice (some ⟨g, 0, none⟩) 1 1) (hc : w.cell? ⟨g, 0, none⟩ = some (.int .u8 X)) (hX : X = (b.toNat : Int)) (hl : bs.length ≤ 4294967296) (hbase : base ≤ w.heap.size)
    (h : ∀ v' w', Own w' base v' (bs ++ [b]) → Step w w' v v' → wpList Tryd.prog ops Q rest (a.put o.dst v') w') : wpList Tryd.prog ops Q (o :: rest) a w := by
  obtain ⟨i, hi, hz, h1, h2⟩ := info5'
  refine wpList_append_own_at w hgd s x 24 ho base 5 i _ 1 1 Tryd.underlying24 hi hz h1 h2 rfl (by decide) v bs.length (cellsB bs) hs hown ⟨g, 0, none⟩ 1 1 [.int .u8 X] hx rfl ?_ (by simp [Value.oneCell']) (by unfold maxLen; omega) (by omega) hbase ?_
  · intro j u hj
    match j, hj with
    | 0, hj => simp at hj; subst hj; simpa [Addr.add] using hc
  · intro v' w' h3 h4 _ h5
    refine h v' w' ?_ ⟨h4, h5.imp id fun e g hg => ?_⟩
    · subst hX
      unfold Own
      rw [cellsB_append, List.length_append]
      exact h3
    · rw [e] at hg; cases hg; exact Nat.le_refl _
theorem str_lies (w : World) (base : Nat) (ty : TypeId) (v : Value) (bs : List UInt8) (hown : Own w base v bs) (t : ByteArray) (hl : bs.length ≤ 4294967296) (ht : t.size ≤ 4294967296) (v' : Value) (w' : World)
    (hr : (Builtin.append_ #[24, 9] ty #[v, .string t]).run Tryd.prog w = .ok v' w') : v'.ownBlock = v.ownBlock ∨ v'.ownBlock = some w.heap.size := by
  obtain ⟨i, hi, hz, h1, h2⟩ := info5'
  have h' : w.ownsRow base 5 1 v bs.length (cellsB bs) := hown
  rcases hown.2 with ⟨rfl, h0⟩ | ⟨g, cap, cur, rfl, hbg, hg, hnc, hcm, hcs, htake⟩
  · by_cases hm : t.size = 0
    · have hf := Lib.run_firstCells_string (P := Tryd.prog) w 1 t
      rw [hm] at hf
      have hn : Lib.strCells t = [] := List.eq_nil_of_length_eq_zero (by rw [Lib.strCells_length]; exact hm)
      have : (Builtin.append_ #[24, 9] ty #[.slice none 0 0, .string t]).run Tryd.prog w = .ok (.slice none 0 0) w := by
        simp [Builtin.append_, run_underlying Tryd.underlying24, run_underlying Tryd.underlying9, sizeOf, typeInfo, hi, h1, Builtin.lenOf, hm, hf]
      rw [this] at hr
      cases hr
      exact .inl rfl
    · have := run_append_nil_string (P := Tryd.prog) w 24 9 ty 5 i (.int .u8 0) Tryd.underlying24 Tryd.underlying9 hi hz t (by omega) (by omega) (by rw [h2]; omega)
      rw [this] at hr
      cases hr
      exact .inr rfl
  · by_cases hroom : bs.length + t.size ≤ cap
    · have := Lib.run_append_room_string (P := Tryd.prog) w 24 9 ty 5 i Tryd.underlying24 Tryd.underlying9 hi h1 g bs.length cap cur hg t hroom (by omega)
      rw [this] at hr
      cases hr
      exact .inl rfl
    · have := Lib.run_append_grow_string (P := Tryd.prog) w 24 9 ty 5 i (.int .u8 0) Tryd.underlying24 Tryd.underlying9 hi hz ⟨g, 0, none⟩ bs.length cap (cellsB bs) (by rw [h1]; simp [cellsB]) (h'.cells (g := g) rfl) t (by omega) (by omega) (by rw [h2]; exact growslice_fits (by omega) (by omega))
      rw [this] at hr
      cases hr
      exact .inr rfl
theorem wpB_str (w : World) (hgd : o.guard = none) (s x : Operand) (ho : o.op = .call { callee := .builtin .append, args := #[s, x], argTypes := #[24, 9] }) (base : Nat) (v : Value) (bs : List UInt8) (hs : a.eval s = v)
    (hown : Own w base v bs) (t : ByteArray) (hx : a.eval x = .string t) (hl : bs.length ≤ 4294967296) (ht : t.size ≤ 4294967296) (hbase : base ≤ w.heap.size)
    (h : ∀ v' w', Own w' base v' (bs ++ t.data.toList) → Step w w' v v' → wpList Tryd.prog ops Q rest (a.put o.dst v') w') : wpList Tryd.prog ops Q (o :: rest) a w := by
  obtain ⟨i, hi, hz, h1, h2⟩ := info5'
  refine wpList_plain hgd fun K hK => ?_
  obtain ⟨v', w', hr, h3, h4, _⟩ := Lib.run_append_own_string (P := Tryd.prog) w base 24 9 o.type 5 i Tryd.underlying24 Tryd.underlying9 hi hz h1 h2 v bs.length (cellsB bs) hown t (by unfold maxLen; omega) (by omega) hbase
  have h5 := str_lies w base o.type v bs hown t hl ht v' w' hr
  unfold Oper.wp execOp
  simp only [ho, resolve, invoke, builtin, Sem.run_bind, Sem.run_pure, Result.andThen_ok, List.map_toArray, List.map_cons, List.map_nil, hs, hx, hr]
  refine hK _ _ (h v' w' ?_ ⟨h4, h5.imp id fun e g hg => ?_⟩)
  · unfold Own
    rw [cellsB_append, List.length_append]
    exact h3
  · rw [e] at hg; cases hg; exact Nat.le_refl _
end
end Go.Proofs.YtpgchdjfeklobaaDoor
