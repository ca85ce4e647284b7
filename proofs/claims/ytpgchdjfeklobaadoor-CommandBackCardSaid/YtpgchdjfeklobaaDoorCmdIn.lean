/-
  A command that came in, opened.
-/
import Derived.Test.YtpgchdjfeklobaaDoorLaid
import Derived.Test.YtpgchdjfeklobaaDoorPuts
import Derived.Lib.SmallJoins
namespace Go.Proofs.YtpgchdjfeklobaaDoor
open Go.Joins Go.ChangeShapes Go.WideShapes Go.ChangeAt Go.RowKit Go.Deep

theorem i64_of {z : Int} (h : (Lit.int .i64 z).wf = true) : -9223372036854775808 ≤ z ∧ z ≤ 9223372036854775807 := by
  have e1 : IntKind.i64.min = -9223372036854775808 := rfl
  have e2 : IntKind.i64.max = 9223372036854775807 := rfl
  simp [Lit.wf] at h
  first
    | exact h
    | exact ⟨e1 ▸ h.1, e2 ▸ h.2⟩
set_option maxRecDepth 100000 in
theorem open_cmd {H : Type} {enc : TypeId × Value → H} {w : World} {base : Nat} {spare : Nat → Bool} {held : Bool} {r : Reach} {b0 : Nat} {v : Value} {d : DataW H} {p : List MemPlace}
    (hv : Value.okWide Tryd.prog w r b0 23 v) (h : DataW.Trod enc Tryd.prog w base spare held 23 v d p) : ∃ c : CmdD, v = .agg c.cells ∧ c.Fit := by
  obtain ⟨cs, rfl, hsz⟩ := okWide_struct Tryd.underlying23 hv
  obtain ⟨l⟩ := cs
  have hC : Tryd.prog.cellsOf 23 = 6 := by kernel_rfl
  have hc3 : Tryd.prog.cellsOf 3 = 1 := by kernel_rfl
  have hc9 : Tryd.prog.cellsOf 9 = 1 := by kernel_rfl
  match l, hsz.trans hC with
  | [c0, c1, c2, c3, c4, c5], _ =>
    obtain ⟨fuel, hf⟩ := h
    obtain ⟨xs, n, _, hx, _, hlen, hg⟩ := DataW.trod_struct Tryd.underlying23 hf
    match xs, hlen with
    | [y0, y1, y2, y3, y4, y5], _ =>
      have h0 : DataW.trod enc Tryd.prog w base spare held n 3 [c0] = some y0 := by simpa [Value.cells, hc3] using hg 0 _ rfl
      have h1 : DataW.trod enc Tryd.prog w base spare held n 9 [c1] = some y1 := by simpa [Value.cells, hc9] using hg 1 _ rfl
      have h2 : DataW.trod enc Tryd.prog w base spare held n 9 [c2] = some y2 := by simpa [Value.cells, hc9] using hg 2 _ rfl
      have h3 : DataW.trod enc Tryd.prog w base spare held n 9 [c3] = some y3 := by simpa [Value.cells, hc9] using hg 3 _ rfl
      have h4 : DataW.trod enc Tryd.prog w base spare held n 9 [c4] = some y4 := by simpa [Value.cells, hc9] using hg 4 _ rfl
      have h5 : DataW.trod enc Tryd.prog w base spare held n 3 [c5] = some y5 := by simpa [Value.cells, hc3] using hg 5 _ rfl
      obtain ⟨k, e0, _, w0⟩ := DataW.trod_int Tryd.underlying3 h0
      obtain ⟨a, e1, _, w1⟩ := DataW.trod_string Tryd.underlying9 h1
      obtain ⟨b, e2, _, w2⟩ := DataW.trod_string Tryd.underlying9 h2
      obtain ⟨c, e3, _, w3⟩ := DataW.trod_string Tryd.underlying9 h3
      obtain ⟨d, e4, _, w4⟩ := DataW.trod_string Tryd.underlying9 h4
      obtain ⟨m, e5, _, w5⟩ := DataW.trod_int Tryd.underlying3 h5
      simp at e0 e1 e2 e3 e4 e5
      subst e0 e1 e2 e3 e4 e5
      refine ⟨⟨k, a, b, c, d, m⟩, rfl, (i64_of w0).1, (i64_of w0).2, (i64_of w5).1, (i64_of w5).2, fun s hs => ?_⟩
      simp at hs
      rcases hs with rfl | rfl | rfl | rfl <;> assumption
end Go.Proofs.YtpgchdjfeklobaaDoor
