/-
  Plain: what a command's bytes are told as; two commands are the same where their bytes are.
-/
import Derived.Test.YtpgchdjfeklobaaDoorPuts
namespace Go.Proofs.YtpgchdjfeklobaaDoor
open Go.RowKit

theorem numR_failed (most : Nat) : numR RdS.failed most = (0, RdS.failed) := by simp [numR, RdS.failed]
theorem textR_failed (most : Nat) : textR RdS.failed most = ([], RdS.failed) := by
  unfold textR
  rw [numR_failed]
  simp [RdS.failed]
theorem parse_bad {c : CmdD} (h : 20 < (c.kind % 18446744073709551616).toNat) : ∃ z, parse (putB c) = (z, false) := by
  have e : numR ⟨putB c, false⟩ 20 = (0, RdS.failed) := by
    unfold numR
    rw [if_neg (by simp), putB_eq, lebOf_put _ (by omega)]
    simp only [h, if_true]
  unfold parse
  rw [e]
  simp only [textR_failed, numR_failed]
  exact ⟨_, rfl⟩
theorem small_texts {c : CmdD} (h : light c = true) : ∀ s ∈ c.texts, s.size ≤ 300 := by
  unfold light at h
  simp at h
  intro s hs
  simp at hs
  rcases hs with rfl | rfl | rfl | rfl <;> omega
theorem ofR_put {c : CmdD} (h : light c = true) (hf : c.Fit) : ofR (putB c) = if chk c = 0 then (c, 0) else (zcmd, 20) := by
  by_cases hk : 0 ≤ c.kind ∧ c.kind ≤ 20
  · have hp := parse_put hk.1 hk.2 hf.n0 hf.n1 (small_texts h)
    unfold ofR
    rw [hp]
    by_cases hc : chk c = 0 <;> simp [hc]
  · have hc : chk c = 160 := chk_out (by omega)
    obtain ⟨z, hz⟩ := parse_bad (c := c) (by have := hf.k0; have := hf.k1; omega)
    rw [ofR_bad1 hz, if_neg (by rw [hc]; omega)]
theorem chk_kind {c : CmdD} (h : chk c = 0) : 1 ≤ c.kind ∧ c.kind ≤ 20 := by
  by_cases hk : 1 ≤ c.kind ∧ c.kind ≤ 20
  · exact hk
  · rw [chk_out hk] at h; omega
theorem putB_inj {c d : CmdD} (hc : light c = true) (hd : light d = true) (fc : c.Fit) (fd : d.Fit) (kc : chk c = 0) (kd : chk d = 0) (h : putB c = putB d) : c = d := by
  have h1 := parse_put (by have := (chk_kind kc).1; omega) (chk_kind kc).2 fc.n0 fc.n1 (small_texts hc)
  have h2 := parse_put (by have := (chk_kind kd).1; omega) (chk_kind kd).2 fd.n0 fd.n1 (small_texts hd)
  rw [h, h2] at h1
  exact (Prod.mk.inj h1).1.symm
theorem putB_len {c : CmdD} (h : c.Small) : (putB c).length ≤ 5000000 := by
  have hz := zig_bd h.n0 h.n1
  have h1 := lebB_len10 (n := (c.kind % 18446744073709551616).toNat) (by omega)
  have h2 := lebB_len10 (n := (zigI c.n).toNat) (by omega)
  have h3 := texts_len (l := c.texts) h.txt
  simp only [List.length_cons, List.length_nil] at h3
  unfold putB
  rw [List.length_append, List.length_append]
  omega
/-- Whether two commands are the same, field by field. -/
def cmdEq (c d : CmdD) : Bool :=
  decide (c.kind = d.kind) && (decide (c.name.toList = d.name.toList) && (decide (c.other.toList = d.other.toList) && (decide (c.key.toList = d.key.toList) && (decide (c.val.toList = d.val.toList) && decide (c.n = d.n)))))
theorem toList_inj {a b : ByteArray} (h : a.toList = b.toList) : a = b := by
  rw [Lib.toList_data, Lib.toList_data] at h
  cases a; cases b
  congr 1
  exact Array.toList_inj.1 h
theorem cmdEq_iff {c d : CmdD} : cmdEq c d = true ↔ c = d := by
  constructor
  · intro h
    unfold cmdEq at h
    simp at h
    obtain ⟨h1, h2, h3, h4, h5, h6⟩ := h
    cases c; cases d
    simp only at h1 h2 h3 h4 h5 h6
    rw [h1, toList_inj h2, toList_inj h3, toList_inj h4, toList_inj h5, h6]
  · rintro rfl
    simp [cmdEq]
theorem puts_same {c d : CmdD} (hc : light c = true) (hd : light d = true) (fc : c.Fit) (fd : d.Fit) (kc : chk c = 0) (kd : chk d = 0) : (putB c == putB d) = cmdEq c d := by
  by_cases h : c = d
  · subst h
    rw [cmdEq_iff.2 rfl]
    simp
  · have h1 : cmdEq c d = false := by
      cases hq : cmdEq c d
      · rfl
      · exact absurd (cmdEq_iff.1 hq) h
    rw [h1]
    simp
    exact fun e => h (putB_inj hc hd fc fd kc kd e)
set_option maxRecDepth 100000 in
set_option maxHeartbeats 1000000 in
theorem struct_eq (c d : CmdD) (W : World) : (binOp .eql 23 (.agg c.cells) (.agg d.cells)).run Tryd.prog W = .ok (.bool (cmdEq c d)) W := by
  obtain ⟨k, a, b, x, v, n⟩ := c
  obtain ⟨k', a', b', x', v', n'⟩ := d
  unfold cmdEq
  go_simp
  by_cases h1 : k = k' <;> by_cases h2 : a.toList = a'.toList <;> by_cases h3 : b.toList = b'.toList <;> by_cases h4 : x.toList = x'.toList <;> by_cases h5 : v.toList = v'.toList <;> by_cases h6 : n = n' <;> simp [h1, h2, h3, h4, h5, h6]
theorem Own.form2 {w : World} {base : Nat} {v : Value} {bs : List UInt8} (h : Own w base v bs) : ∃ A cap, v = .slice A bs.length cap ∧ Reads w w.heap.size 1 A bs.length (cellsB bs) ∧ (A = none → bs.length = 0 ∧ cap = 0) ∧ bs.length ≤ cap := by
  have h' : w.ownsRow base 5 1 v bs.length (cellsB bs) := h
  rcases h.2 with ⟨rfl, h0⟩ | ⟨g, cap, cur, rfl, _, _, hnc, _⟩
  · refine ⟨none, 0, by rw [h0], ?_, fun _ => ⟨h0, rfl⟩, by omega⟩
    rw [List.eq_nil_of_length_eq_zero h0]
    exact Reads.none_
  · exact ⟨_, cap, rfl, Reads.of_own h', (fun e => by cases e), hnc⟩
end Go.Proofs.YtpgchdjfeklobaaDoor
