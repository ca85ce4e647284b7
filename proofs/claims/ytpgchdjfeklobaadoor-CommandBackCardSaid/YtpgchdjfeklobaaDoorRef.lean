/-
  What a text is as a ref; walk of the reference's Ref.
-/
import Derived.Test.YtpgchdjfeklobaaDoorNumber
namespace Go.Proofs.YtpgchdjfeklobaaDoor
open Go.RowKit

/-- What a text is as a ref: a name; a number from 1 on behind '@'; neither. -/
def RefSaid (s a : ByteArray) (n : Nat) (b : Bool) : Prop :=
  (nameOk s = true ∧ a = s ∧ n = 0 ∧ b = true) ∨
  (nameOk s = false ∧ a = ⟨#[]⟩ ∧ ((b = true ∧ 0 < n ∧ n < 18446744073709551616 ∧ s.data.toList = 64 :: Lib.decDigits n) ∨
    (b = false ∧ n = 0 ∧ ∀ m, 0 < m → m < 18446744073709551616 → s.data.toList ≠ 64 :: Lib.decDigits m)))
theorem RefSaid.same {s a a' : ByteArray} {n n' : Nat} {b b' : Bool} (h : RefSaid s a n b) (k : RefSaid s a' n' b') : a = a' ∧ n = n' ∧ b = b' := by
  rcases h with ⟨h1, rfl, rfl, rfl⟩ | ⟨h1, rfl, h2⟩
  · rcases k with ⟨_, rfl, rfl, rfl⟩ | ⟨k1, _⟩
    · exact ⟨rfl, rfl, rfl⟩
    · rw [h1] at k1; cases k1
  · rcases k with ⟨k1, _⟩ | ⟨_, rfl, k2⟩
    · rw [h1] at k1; cases k1
    · rcases h2 with ⟨rfl, p, q, e⟩ | ⟨rfl, rfl, e⟩
      · rcases k2 with ⟨rfl, p', q', e'⟩ | ⟨rfl, rfl, e'⟩
        · have e2 : Lib.decDigits n = Lib.decDigits n' := by rw [e] at e'; exact (List.cons.inj e').2
          have := congrArg valL e2
          rw [val_dec, val_dec] at this
          exact ⟨rfl, this, rfl⟩
        · exact absurd e (e' n p q)
      · rcases k2 with ⟨rfl, p', q', e'⟩ | ⟨rfl, rfl, e'⟩
        · exact absurd e' (e n' p' q')
        · exact ⟨rfl, rfl, rfl⟩
end Go.Proofs.YtpgchdjfeklobaaDoor
