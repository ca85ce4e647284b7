/-
  The arguments of the laws of refs, opened: slices of refs, slices of deeds, a deed.
-/
import Derived.Deep.Slices
import Derived.Deep.Fields
import Derived.ChangeSame
import Derived.Test.YtpgchdjfeklobaaWalkN
namespace Go.Proofs.Ytpgchdjfeklobaa
open Go.ChangeShapes Go.WideShapes Go.Deep

section
variable {H : Type} {enc : TypeId × Value → H} {w : World} {base : Nat} {spare : Nat → Bool} {held : Bool}
theorem trod_ref {n : Nat} {cs : List Value} {x : DataW H × List MemPlace} (h : DataW.trod enc Try.prog w base spare held n 32 cs = some x) :
    ∃ r : RefD, cs = [.string r.name, .bool r.tag, .int .u64 r.id] ∧ r.name.size ≤ maxLen := by
  obtain ⟨xs, n', _, _, hl, hx, hf⟩ := DataW.trod_struct Try.underlying32 h
  have hc : Try.prog.cellsOf 32 = 3 := by kernel_rfl
  have hc9 : Try.prog.cellsOf 9 = 1 := by kernel_rfl
  have hc4 : Try.prog.cellsOf 4 = 1 := by kernel_rfl
  have hc30 : Try.prog.cellsOf 30 = 1 := by kernel_rfl
  rw [hc] at hl
  match cs, hl with
  | [a, b, c], _ =>
    match xs, hx with
    | [x0, x1, x2], _ =>
      have h0 : DataW.trod enc Try.prog w base spare held n' 9 (([a, b, c].drop 0).take (Try.prog.cellsOf 9)) = some x0 := hf 0 _ rfl
      have h1 : DataW.trod enc Try.prog w base spare held n' 4 (([a, b, c].drop 1).take (Try.prog.cellsOf 4)) = some x1 := hf 1 _ rfl
      have h2 : DataW.trod enc Try.prog w base spare held n' 30 (([a, b, c].drop 2).take (Try.prog.cellsOf 30)) = some x2 := hf 2 _ rfl
      rw [hc9] at h0
      rw [hc4] at h1
      rw [hc30] at h2
      obtain ⟨s, e0, _, hs⟩ := DataW.trod_string Try.underlying9 h0
      obtain ⟨t, e1, _⟩ := DataW.trod_bool Try.underlying4 h1
      obtain ⟨i, e2, _⟩ := DataW.trod_int Try.underlying30 h2
      simp at e0 e1 e2
      exact ⟨⟨s, t, i⟩, by rw [e0, e1, e2], hs⟩
theorem trod_deed {n : Nat} {cs : List Value} {x : DataW H × List MemPlace} (h : DataW.trod enc Try.prog w base spare held n 34 cs = some x) :
    ∃ d : DeedD, cs = [.int .i64 d.kind, .string d.r.name, .bool d.r.tag, .int .u64 d.r.id, .int .u64 d.old] ∧ d.r.name.size ≤ maxLen := by
  obtain ⟨xs, n', _, _, hl, hx, hf⟩ := DataW.trod_struct Try.underlying34 h
  have hc : Try.prog.cellsOf 34 = 5 := by kernel_rfl
  have hc32 : Try.prog.cellsOf 32 = 3 := by kernel_rfl
  have hc3 : Try.prog.cellsOf 3 = 1 := by kernel_rfl
  have hc30 : Try.prog.cellsOf 30 = 1 := by kernel_rfl
  rw [hc] at hl
  match cs, hl with
  | [a, b, c, d, e], _ =>
    match xs, hx with
    | [x0, x1, x2], _ =>
      have h0 : DataW.trod enc Try.prog w base spare held n' 3 (([a, b, c, d, e].drop 0).take (Try.prog.cellsOf 3)) = some x0 := hf 0 _ rfl
      have h1 : DataW.trod enc Try.prog w base spare held n' 32 (([a, b, c, d, e].drop 1).take (Try.prog.cellsOf 32)) = some x1 := hf 1 _ rfl
      have h2 : DataW.trod enc Try.prog w base spare held n' 30 (([a, b, c, d, e].drop 4).take (Try.prog.cellsOf 30)) = some x2 := hf 2 _ rfl
      rw [hc3] at h0
      rw [hc32] at h1
      rw [hc30] at h2
      obtain ⟨k, e0, _⟩ := DataW.trod_int Try.underlying3 h0
      obtain ⟨r, e1, hr⟩ := trod_ref h1
      obtain ⟨o, e2, _⟩ := DataW.trod_int Try.underlying30 h2
      simp at e0 e1 e2
      exact ⟨⟨k, r, o⟩, by rw [e0, e1.1, e1.2.1, e1.2.2, e2], hr⟩

theorem cell_spot {a : Addr} {v : Value} (h : w.cell? a = some v) : a.spot = none ∧ a.block < w.heap.size := by
  unfold World.cell? at h
  split at h
  · rename_i hb
    refine ⟨?_, (Array.getElem?_eq_some_iff.1 hb).1⟩
    cases hs : a.spot with
    | none => rfl
    | some x => rw [hs] at h; simp at h
  · cases h
theorem add_none (g off k : Nat) : (⟨g, off, none⟩ : Addr).add k = ⟨g, off + k, none⟩ := by unfold Addr.add; split <;> simp_all
/-- A list of what each element reads. -/
theorem listed {α : Type} (P : Nat → α → Prop) : ∀ (len : Nat), (∀ i, i < len → ∃ r, P i r) → ∃ l : List α, l.length = len ∧ ∀ (j : Nat) (r : α), l[j]? = some r → P j r
  | 0, _ => ⟨[], rfl, fun j r h => by cases h⟩
  | n + 1, h => by
    obtain ⟨l, hl, hp⟩ := listed P n (fun i hi => h i (by omega))
    obtain ⟨r, hr⟩ := h n (by omega)
    refine ⟨l ++ [r], by simp [hl], fun j x hx => ?_⟩
    rcases Nat.lt_or_ge j l.length with hj | hj
    · rw [List.getElem?_append_left hj] at hx; exact hp j x hx
    · rw [List.getElem?_append_right hj] at hx
      have e : j = n := by
        have := (List.getElem?_eq_some_iff.1 hx).1
        simp at this; omega
      subst e
      rw [hl, Nat.sub_self] at hx
      cases hx
      exact hr
theorem open_refs {fuel : Nat} {A : Option Addr} {len cap : Nat} {x : DataW H × List MemPlace} (h : DataW.trod enc Try.prog w base spare held fuel 22 [.slice A len cap] = some x) :
    ∃ ls : List RefD, ls.length = len ∧ len ≤ maxLen ∧ (∀ r ∈ ls, r.name.size ≤ maxLen) ∧ RefsAt w A ls := by
  rcases open_slice Try.underlying22 h with ⟨hc, _⟩ | ⟨a, l, c, m, n, D, Pl, hc, _, hlc, hcm, hm, _, hi⟩
  · simp at hc
    obtain ⟨rfl, rfl, rfl⟩ := hc
    exact ⟨[], rfl, by unfold maxLen; omega, by simp, .inl rfl⟩
  · simp at hc
    obtain ⟨rfl, rfl, rfl⟩ := hc
    have hcell : Try.prog.cellsOf 32 = 3 := by kernel_rfl
    have hlm : len ≤ m := by rw [hm]; split <;> omega
    have hr : ∀ i, i < len → ∃ r : RefD, r.name.size ≤ maxLen ∧ w.cell? ((a.add (i * 3)).add 0) = some (.string r.name) ∧ w.cell? ((a.add (i * 3)).add 1) = some (.bool r.tag) ∧ w.cell? ((a.add (i * 3)).add 2) = some (.int .u64 r.id) := by
      intro i hi'
      obtain ⟨cs, hcs, ht⟩ := hi i (by omega)
      obtain ⟨r, rfl, hr⟩ := trod_ref ht
      rw [hcell] at hcs
      obtain ⟨_, _, hat⟩ := World.cells?_some hcs
      exact ⟨r, hr, hat 0 (by omega), hat 1 (by omega), hat 2 (by omega)⟩
    obtain ⟨ls, hl, hp⟩ := listed _ len hr
    refine ⟨ls, hl, by omega, fun r hr' => ?_, ?_⟩
    · obtain ⟨j, hj, rfl⟩ := List.getElem_of_mem hr'
      exact (hp j _ (List.getElem?_eq_getElem hj)).1
    · cases hz : ls with
      | nil => exact .inl rfl
      | cons r0 rest =>
        rw [← hz]
        have h0 := (hp 0 r0 (by rw [hz]; rfl)).2.1
        have hs := cell_spot h0
        have e0 : (a.add (0 * 3)).add 0 = a := by simp [Addr.add]
        rw [e0] at hs
        obtain ⟨g, off, sp⟩ := a
        obtain ⟨rfl, hg⟩ := hs
        refine .inr ⟨g, off, rfl, hg, fun j r hj => ?_⟩
        have := (hp j r hj).2
        simpa only [add_none, Nat.add_zero] using this
theorem open_deeds {fuel : Nat} {A : Option Addr} {len cap : Nat} {x : DataW H × List MemPlace} (h : DataW.trod enc Try.prog w base spare held fuel 23 [.slice A len cap] = some x) :
    ∃ ls : List DeedD, ls.length = len ∧ len ≤ maxLen ∧ (∀ r ∈ ls, r.r.name.size ≤ maxLen) ∧ DeedsAt w A ls := by
  rcases open_slice Try.underlying23 h with ⟨hc, _⟩ | ⟨a, l, c, m, n, D, Pl, hc, _, hlc, hcm, hm, _, hi⟩
  · simp at hc
    obtain ⟨rfl, rfl, rfl⟩ := hc
    exact ⟨[], rfl, by unfold maxLen; omega, by simp, .inl rfl⟩
  · simp at hc
    obtain ⟨rfl, rfl, rfl⟩ := hc
    have hcell : Try.prog.cellsOf 34 = 5 := by kernel_rfl
    have hlm : len ≤ m := by rw [hm]; split <;> omega
    have hr : ∀ i, i < len → ∃ d : DeedD, d.r.name.size ≤ maxLen ∧ w.cell? ((a.add (i * 5)).add 0) = some (.int .i64 d.kind) ∧ w.cell? ((a.add (i * 5)).add 1) = some (.string d.r.name) ∧ w.cell? ((a.add (i * 5)).add 2) = some (.bool d.r.tag) ∧
        w.cell? ((a.add (i * 5)).add 3) = some (.int .u64 d.r.id) ∧ w.cell? ((a.add (i * 5)).add 4) = some (.int .u64 d.old) := by
      intro i hi'
      obtain ⟨cs, hcs, ht⟩ := hi i (by omega)
      obtain ⟨r, rfl, hr⟩ := trod_deed ht
      rw [hcell] at hcs
      obtain ⟨_, _, hat⟩ := World.cells?_some hcs
      exact ⟨r, hr, hat 0 (by omega), hat 1 (by omega), hat 2 (by omega), hat 3 (by omega), hat 4 (by omega)⟩
    obtain ⟨ls, hl, hp⟩ := listed _ len hr
    refine ⟨ls, hl, by omega, fun r hr' => ?_, ?_⟩
    · obtain ⟨j, hj, rfl⟩ := List.getElem_of_mem hr'
      exact (hp j _ (List.getElem?_eq_getElem hj)).1
    · cases hz : ls with
      | nil => exact .inl rfl
      | cons r0 rest =>
        rw [← hz]
        have h0 := (hp 0 r0 (by rw [hz]; rfl)).2.1
        have hs := cell_spot h0
        have e0 : (a.add (0 * 5)).add 0 = a := by simp [Addr.add]
        rw [e0] at hs
        obtain ⟨g, off, sp⟩ := a
        obtain ⟨rfl, hg⟩ := hs
        refine .inr ⟨g, off, rfl, hg, fun j r hj => ?_⟩
        have := (hp j r hj).2
        simpa only [add_none, Nat.add_zero] using this
end
end Go.Proofs.Ytpgchdjfeklobaa
