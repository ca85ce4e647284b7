/-
  Plain lemmas: digits, and the number that they are.
-/
import Derived.Test.YtpgchdjfeklobaaDoorDec
namespace Go.Proofs.YtpgchdjfeklobaaDoor

def valL (l : List UInt8) : Nat := l.foldl (fun a c => a * 10 + (c.toNat - 48)) 0
def digit (c : UInt8) : Bool := decide (48 ≤ c.toNat ∧ c.toNat ≤ 57)
theorem valL_snoc (l : List UInt8) (c : UInt8) : valL (l ++ [c]) = valL l * 10 + (c.toNat - 48) := by simp [valL]
theorem dec_ind {P : Nat → Prop} (h1 : ∀ n, n < 10 → P n) (h2 : ∀ n, ¬ n < 10 → P (n / 10) → P n) (n : Nat) : P n := by
  induction n using Nat.strongRecOn with
  | _ n ih =>
    by_cases h : n < 10
    · exact h1 n h
    · exact h2 n h (ih _ (by omega))
theorem val_dec (n : Nat) : valL (Lib.decDigits n) = n := by
  refine dec_ind (P := fun n => valL (Lib.decDigits n) = n) (fun n h => ?_) (fun n h ih => ?_) n
  · rw [dec_small h]
    simp only [valL, List.foldl_cons, List.foldl_nil]
    rw [toNat_ofNat (by omega)]; omega
  · rw [dec_big h, valL_snoc, ih, toNat_ofNat (by omega)]; omega
theorem digit_dec (n : Nat) : ∀ c ∈ Lib.decDigits n, digit c = true := by
  refine dec_ind (P := fun n => ∀ c ∈ Lib.decDigits n, digit c = true) (fun n h => ?_) (fun n h ih => ?_) n
  · rw [dec_small h]
    intro c hc
    simp only [List.mem_singleton] at hc
    rw [hc]
    unfold digit
    rw [toNat_ofNat (by omega)]
    simp; omega
  · rw [dec_big h]
    intro c hc
    rcases List.mem_append.1 hc with hc | hc
    · exact ih c hc
    · simp only [List.mem_singleton] at hc
      rw [hc]
      unfold digit
      rw [toNat_ofNat (by omega)]
      simp; omega
theorem dec_pos (n : Nat) : 0 < (Lib.decDigits n).length := by
  by_cases h : n < 10
  · rw [dec_small h]; simp
  · rw [dec_big h]; simp
end Go.Proofs.YtpgchdjfeklobaaDoor
