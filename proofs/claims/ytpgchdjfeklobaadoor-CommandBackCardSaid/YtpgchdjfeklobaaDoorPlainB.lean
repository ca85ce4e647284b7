/-
  Plain lemmas: what a command's bytes are read as, and that each is the other's way back.
-/
import Derived.Test.YtpgchdjfeklobaaDoorRRead
namespace Go.Proofs.YtpgchdjfeklobaaDoor

/-- What is read of bytes, whether it is a command or not; is all read, and well? -/
def parse (bs : List UInt8) : CmdD × Bool :=
  let k := numR ⟨bs, false⟩ 20
  let a := textR k.2 300
  let b := textR a.2 300
  let c := textR b.2 300
  let d := textR c.2 300
  let n := numR d.2 18446744073709551615
  (⟨k.1, ⟨a.1.toArray⟩, ⟨b.1.toArray⟩, ⟨c.1.toArray⟩, ⟨d.1.toArray⟩, zagI n.1⟩, !n.2.bad && decide (n.2.bs = []))

theorem numR_put (rest : List UInt8) {n most : Nat} (hn : n < 18446744073709551616) (hm : n ≤ most) : numR ⟨lebB n ++ rest, false⟩ most = (n, ⟨rest, false⟩) := by
  unfold numR
  rw [if_neg (by simp), lebOf_put rest hn]
  simp [Nat.not_lt.2 hm]
theorem textR_put (rest : List UInt8) {s : ByteArray} {most : Nat} (hs : s.size < 18446744073709551616) (hm : s.size ≤ most) : textR ⟨textB s ++ rest, false⟩ most = (s.data.toList, ⟨rest, false⟩) := by
  unfold textR textB
  rw [List.append_assoc, numR_put _ hs hm]
  have e : s.data.toList.length = s.size := by simp
  simp only [Bool.false_eq_true, if_false, List.length_append, e]
  rw [if_neg (by omega), ← e, List.take_left, List.drop_left]
theorem numR_of {s : RdS} {most n : Nat} {t : RdS} (h : numR s most = (n, t)) (hb : t.bad = false) : s.bad = false ∧ n ≤ most ∧ n < 18446744073709551616 ∧ s.bs = lebB n ++ t.bs := by
  unfold numR at h
  split at h
  · rename_i h1
    cases h
    rw [h1] at hb; cases hb
  · rename_i h1
    have h1' : s.bad = false := by simpa using h1
    split at h
    · cases h; cases hb
    · rename_i m k hl
      split at h
      · cases h; cases hb
      · rename_i h2
        cases h
        obtain ⟨a1, a2, a3⟩ := lebOf_of hl
        exact ⟨h1', by omega, by omega, a3⟩
theorem textR_of {s : RdS} {most : Nat} {l : List UInt8} {t : RdS} (h : textR s most = (l, t)) (hb : t.bad = false) : s.bad = false ∧ l.length ≤ most ∧ s.bs = lebB l.length ++ (l ++ t.bs) := by
  unfold textR at h
  cases hr : numR s most with
  | mk n u =>
    rw [hr] at h
    simp only at h
    split at h
    · rename_i h1
      cases h
      rw [h1] at hb; cases hb
    · rename_i h1
      split at h
      · cases h; cases hb
      · rename_i h2
        cases h
        obtain ⟨a1, a2, _, a3⟩ := numR_of hr (by simpa using h1)
        have e : (u.bs.take n).length = n := by rw [List.length_take]; omega
        rw [e]
        exact ⟨a1, a2, by rw [a3]; simp⟩

theorem putB_eq (c : CmdD) : putB c = lebB (c.kind % 18446744073709551616).toNat ++ (textB c.name ++ (textB c.other ++ (textB c.key ++ (textB c.val ++ (lebB (zigI c.n).toNat ++ []))))) := by
  unfold putB
  simp [List.flatMap_cons]
theorem bytes_back (s : ByteArray) : (⟨s.data.toList.toArray⟩ : ByteArray) = s := by cases s; simp
theorem parse_put {c : CmdD} (k0 : 0 ≤ c.kind) (k1 : c.kind ≤ 20) (n0 : -9223372036854775808 ≤ c.n) (n1 : c.n ≤ 9223372036854775807) (ht : ∀ s ∈ c.texts, s.size ≤ 300) : parse (putB c) = (c, true) := by
  have hz := zig_bd n0 n1
  have h1 : c.name.size ≤ 300 := ht _ (by simp)
  have h2 : c.other.size ≤ 300 := ht _ (by simp)
  have h3 : c.key.size ≤ 300 := ht _ (by simp)
  have h4 : c.val.size ≤ 300 := ht _ (by simp)
  unfold parse
  rw [putB_eq, numR_put _ (by omega) (by omega)]
  simp only
  rw [textR_put _ (by omega) h1]
  simp only
  rw [textR_put _ (by omega) h2]
  simp only
  rw [textR_put _ (by omega) h3]
  simp only
  rw [textR_put _ (by omega) h4]
  simp only
  rw [numR_put _ (by omega) (by omega)]
  simp only [bytes_back, Bool.not_false, Bool.true_and, decide_true]
  have e1 : (((c.kind % 18446744073709551616).toNat : Nat) : Int) = c.kind := by omega
  have e2 : (((zigI c.n).toNat : Nat) : Int) = zigI c.n := by omega
  rw [e1, e2, zag_zig]
theorem parse_of {bs : List UInt8} {c : CmdD} (h : parse bs = (c, true)) : putB c = bs ∧ 0 ≤ c.kind ∧ c.kind ≤ 20 ∧ -9223372036854775808 ≤ c.n ∧ c.n ≤ 9223372036854775807 ∧ ∀ s ∈ c.texts, s.size ≤ 300 := by
  unfold parse at h
  simp only [Prod.mk.injEq, Bool.and_eq_true, Bool.not_eq_true', decide_eq_true_eq] at h
  obtain ⟨hc, hbad, hnil⟩ := h
  generalize hk : numR ⟨bs, false⟩ 20 = k at *
  obtain ⟨k, s1⟩ := k
  simp only at hc hbad hnil
  generalize ha : textR s1 300 = a at *
  obtain ⟨a, s2⟩ := a
  simp only at hc hbad hnil
  generalize hb : textR s2 300 = b at *
  obtain ⟨b, s3⟩ := b
  simp only at hc hbad hnil
  generalize hcc : textR s3 300 = cc at *
  obtain ⟨cc, s4⟩ := cc
  simp only at hc hbad hnil
  generalize hd : textR s4 300 = d at *
  obtain ⟨d, s5⟩ := d
  simp only at hc hbad hnil
  generalize hn : numR s5 18446744073709551615 = n at *
  obtain ⟨n, s6⟩ := n
  simp only at hc hbad hnil
  obtain ⟨b5, m1, m2, m3⟩ := numR_of hn hbad
  obtain ⟨b4, d1, d2⟩ := textR_of hd b5
  obtain ⟨b3, c1, c2⟩ := textR_of hcc b4
  obtain ⟨b2, y1, y2⟩ := textR_of hb b3
  obtain ⟨b1, x1, x2⟩ := textR_of ha b2
  obtain ⟨_, k1, k2, k3⟩ := numR_of hk b1
  subst hc
  have hz := zag_bd (u := (n : Int)) (by omega) (by omega)
  refine ⟨?_, by simp only; omega, by simp only; omega, hz.1, hz.2, ?_⟩
  · rw [putB_eq]
    have e1 : (((k : Int) % 18446744073709551616).toNat) = k := by omega
    have e2 : (zigI (zagI (n : Int))).toNat = n := by rw [zig_zag (by omega)]; omega
    simp only [e1, e2]
    unfold textB
    simp only at k3
    rw [k3, x2, y2, c2, d2, m3, hnil]
    simp [ByteArray.size]
  · intro s hs
    simp only [List.mem_cons, List.not_mem_nil, or_false] at hs
    rcases hs with rfl | rfl | rfl | rfl <;> simpa [ByteArray.size]
end Go.Proofs.YtpgchdjfeklobaaDoor
