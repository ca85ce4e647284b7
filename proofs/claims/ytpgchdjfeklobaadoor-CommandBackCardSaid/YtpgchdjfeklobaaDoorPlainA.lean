/-
  Plain lemmas for numbers and texts as bytes: what is written, what is read, and that each is the other's way back. No program, no memory.
-/
import Derived.WideShapes
import Derived.Lib.Strings
namespace Go.Proofs.YtpgchdjfeklobaaDoor

/-! ### numbers -/
def lebB (n : Nat) : List UInt8 := if n < 128 then [UInt8.ofNat n] else UInt8.ofNat (n % 128 + 128) :: lebB (n / 128)
termination_by n
decreasing_by omega
def lebGo : List UInt8 → Nat → Nat → Option (Nat × Nat)
  | [], _, _ => none
  | x :: r, i, acc =>
    if 10 ≤ i ∨ (i = 9 ∧ 1 < x.toNat) then none
    else if x.toNat < 128 then (if x.toNat = 0 ∧ 0 < i then none else some (acc + x.toNat % 128 * 128 ^ i, i + 1))
    else lebGo r (i + 1) (acc + x.toNat % 128 * 128 ^ i)
def lebOf (bs : List UInt8) : Option (Nat × Nat) := lebGo bs 0 0

theorem lebB_small {n : Nat} (h : n < 128) : lebB n = [UInt8.ofNat n] := by rw [lebB, if_pos h]
theorem lebB_big {n : Nat} (h : 128 ≤ n) : lebB n = UInt8.ofNat (n % 128 + 128) :: lebB (n / 128) := by rw [lebB, if_neg (by omega)]
theorem toNat_ofNat {n : Nat} (h : n < 256) : (UInt8.ofNat n).toNat = n := by simp; omega
theorem lebB_pos (n : Nat) : 0 < (lebB n).length := by
  rw [lebB]; split <;> simp
/-- A number that is written is read. -/
theorem lebGo_put (rest : List UInt8) : ∀ (n i acc : Nat), i ≤ 9 → n * 128 ^ i < 2 ^ 64 → (0 < n ∨ i = 0) → lebGo (lebB n ++ rest) i acc = some (acc + n * 128 ^ i, i + (lebB n).length) := by
  intro n
  induction n using Nat.strongRecOn with
  | _ n ih =>
    intro i acc hi hn h0
    rcases Nat.lt_or_ge n 128 with hlt | hge
    · rw [lebB_small hlt]
      have hx : (UInt8.ofNat n).toNat = n := toNat_ofNat (by omega)
      have h9 : i = 9 → n ≤ 1 := by
        rintro rfl
        rcases Nat.lt_or_ge n 2 with h | h
        · omega
        · have : 2 * 128 ^ 9 ≤ n * 128 ^ 9 := Nat.mul_le_mul_right _ h
          simp at hn
          omega
      simp only [List.cons_append, List.nil_append, lebGo, hx, List.length_cons, List.length_nil]
      rw [if_neg (by omega), if_pos hlt, if_neg (by omega), Nat.mod_eq_of_lt hlt]
    · rw [lebB_big hge]
      have hx : (UInt8.ofNat (n % 128 + 128)).toNat = n % 128 + 128 := toNat_ofNat (by omega)
      have hi8 : i ≤ 8 := by
        rcases Nat.lt_or_ge i 9 with h | h
        · omega
        · have e : i = 9 := by omega
          subst e
          have : 128 * 128 ^ 9 ≤ n * 128 ^ 9 := Nat.mul_le_mul_right _ hge
          simp at hn
          omega
      have hdiv : n / 128 * 128 ^ (i + 1) ≤ n * 128 ^ i := by
        rw [Nat.pow_succ, Nat.mul_comm (128 ^ i) 128, ← Nat.mul_assoc]
        exact Nat.mul_le_mul_right _ (Nat.div_mul_le_self n 128)
      simp only [List.cons_append, lebGo, hx]
      rw [if_neg (by omega), if_neg (by omega), ih (n / 128) (by omega) (i + 1) _ (by omega) (by omega) (.inl (by omega))]
      have hm : (n % 128 + 128) % 128 = n % 128 := by omega
      have hsum : n % 128 * 128 ^ i + n / 128 * 128 ^ (i + 1) = n * 128 ^ i := by
        rw [Nat.pow_succ, Nat.mul_comm (128 ^ i) 128, ← Nat.mul_assoc, ← Nat.add_mul]
        congr 1
        omega
      rw [hm]
      simp only [List.length_cons]
      congr 1
      refine Prod.ext ?_ ?_
      · simp only; omega
      · simp only; omega
theorem lebOf_put (rest : List UInt8) {n : Nat} (h : n < 2 ^ 64) : lebOf (lebB n ++ rest) = some (n, (lebB n).length) := by
  unfold lebOf
  rw [lebGo_put rest n 0 0 (by omega) (by simpa using h) (.inr rfl)]
  simp
/-- A number that is read is what was written. -/
theorem lebGo_of : ∀ (bs : List UInt8) (i acc n k : Nat), lebGo bs i acc = some (n, k) → ∃ m, n = acc + m * 128 ^ i ∧ m * 128 ^ i < 2 ^ 64 ∧ (0 < m ∨ i = 0) ∧ k = i + (lebB m).length ∧ bs = lebB m ++ bs.drop (lebB m).length := by
  intro bs
  induction bs with
  | nil => intro i acc n k h; cases h
  | cons x r ih =>
    intro i acc n k h
    have hx := x.toNat_lt
    unfold lebGo at h
    split at h
    · cases h
    · rename_i h1
      split at h
      · rename_i h2
        split at h
        · cases h
        · rename_i h3
          simp only [Option.some.injEq, Prod.mk.injEq] at h
          rw [Nat.mod_eq_of_lt h2] at h
          refine ⟨x.toNat, h.1.symm, ?_, ?_, ?_, ?_⟩
          · have hp : 128 ^ i ≤ 128 ^ 9 := Nat.pow_le_pow_right (by omega) (by omega)
            rcases Nat.lt_or_ge i 9 with h9 | h9
            · have hp8 : 128 ^ i ≤ 128 ^ 8 := Nat.pow_le_pow_right (by omega) (by omega)
              have : x.toNat * 128 ^ i ≤ 127 * 128 ^ 8 := Nat.mul_le_mul (by omega) hp8
              omega
            · have : x.toNat * 128 ^ i ≤ 1 * 128 ^ 9 := Nat.mul_le_mul (by omega) hp
              omega
          · omega
          · rw [lebB_small h2]; simp; omega
          · rw [lebB_small h2]; simp
      · rename_i h2
        obtain ⟨m, e1, e2, e3, e4, e5⟩ := ih _ _ _ _ h
        have hm0 : 0 < m := by omega
        have hn : 128 ≤ x.toNat % 128 + m * 128 := by omega
        have hb : lebB (x.toNat % 128 + m * 128) = x :: lebB m := by
          rw [lebB_big hn]
          have a1 : (x.toNat % 128 + m * 128) % 128 + 128 = x.toNat := by omega
          have a2 : (x.toNat % 128 + m * 128) / 128 = m := by omega
          rw [a1, a2, UInt8.ofNat_toNat]
        have hmul : (x.toNat % 128 + m * 128) * 128 ^ i = x.toNat % 128 * 128 ^ i + m * 128 ^ (i + 1) := by
          rw [Nat.add_mul, Nat.pow_succ, Nat.mul_comm (128 ^ i) 128, Nat.mul_assoc]
        refine ⟨x.toNat % 128 + m * 128, ?_, ?_, .inl (by omega), ?_, ?_⟩
        · rw [hmul]; omega
        · rw [hmul]
          have hi : i ≤ 8 := by
            rcases Nat.lt_or_ge i 9 with h9 | h9
            · omega
            · exfalso
              have : 128 ^ 10 ≤ m * 128 ^ (i + 1) := by
                have q1 : 128 ^ 10 ≤ 128 ^ (i + 1) := Nat.pow_le_pow_right (by omega) (by omega)
                have q2 : 1 * 128 ^ (i + 1) ≤ m * 128 ^ (i + 1) := Nat.mul_le_mul_right _ hm0
                omega
              omega
          have q : x.toNat % 128 * 128 ^ i + 128 ^ i ≤ 128 ^ (i + 1) := by
            rw [Nat.pow_succ, Nat.mul_comm (128 ^ i) 128]
            have : (x.toNat % 128 + 1) * 128 ^ i ≤ 128 * 128 ^ i := Nat.mul_le_mul_right _ (by omega)
            rw [Nat.add_mul] at this
            omega
          have hd : (2 : Nat) ^ 64 = 2 ^ (64 - 7 * (i + 1)) * 128 ^ (i + 1) := by
            have e : (128 : Nat) = 2 ^ 7 := rfl
            rw [e, ← Nat.pow_mul, ← Nat.pow_add]
            congr 1
            omega
          rw [hd] at e2 ⊢
          have hm : m + 1 ≤ 2 ^ (64 - 7 * (i + 1)) := Nat.lt_of_mul_lt_mul_right e2
          have := Nat.mul_le_mul_right (128 ^ (i + 1)) hm
          rw [Nat.add_mul] at this
          have hp : 0 < 128 ^ i := Nat.pow_pos (by omega)
          omega
        · rw [hb]; simp; omega
        · rw [hb]
          simp only [List.cons_append, List.length_cons, List.drop_succ_cons]
          rw [← e5]
theorem lebOf_of {bs : List UInt8} {n k : Nat} (h : lebOf bs = some (n, k)) : n < 2 ^ 64 ∧ k = (lebB n).length ∧ bs = lebB n ++ bs.drop k := by
  obtain ⟨m, e1, e2, _, e4, e5⟩ := lebGo_of bs 0 0 n k h
  simp at e1 e2 e4
  subst e1
  subst e4
  exact ⟨by simpa using e2, rfl, e5⟩
end Go.Proofs.YtpgchdjfeklobaaDoor
