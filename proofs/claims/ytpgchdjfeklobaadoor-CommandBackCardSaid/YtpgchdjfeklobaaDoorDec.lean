/-
  Walk: a number's digits, in the reference.
-/
import Derived.Lib.ItoaNum
import Derived.Test.YtpgchdjfeklobaaDoorFirst
namespace Go.Proofs.YtpgchdjfeklobaaDoor
open Go.RowKit

theorem dec_small {n : Nat} (h : n < 10) : Lib.decDigits n = [UInt8.ofNat (48 + n)] := by rw [Lib.decDigits, dif_pos h]
theorem dec_big {n : Nat} (h : ¬ n < 10) : Lib.decDigits n = Lib.decDigits (n / 10) ++ [UInt8.ofNat (48 + n % 10)] := by rw [Lib.decDigits, dif_neg h]
theorem dec_len : ∀ (k n : Nat), n < 10 ^ k → 0 < k → (Lib.decDigits n).length ≤ k
  | 0, _, _, h => absurd h (by omega)
  | k + 1, n, hn, _ => by
    by_cases h : n < 10
    · rw [dec_small h]; simp
    · rw [dec_big h, List.length_append]
      have hk : 0 < k := by
        rcases Nat.eq_zero_or_pos k with rfl | h0
        · simp at hn; omega
        · exact h0
      have := dec_len k (n / 10) (by rw [Nat.pow_succ] at hn; exact Nat.div_lt_of_lt_mul (by omega)) hk
      simp
      omega
theorem conv_one (w : World) (X : Int) (b : UInt8) (hX : X = (b.toNat : Int)) : (convert 24 9 (.slice (some ⟨w.heap.size, 0, none⟩) 1 1)).run Tryd.prog (w.alloc (.cells #[.int .u8 X] 5)) = .ok (.string ⟨#[b]⟩) (w.alloc (.cells #[.int .u8 X] 5)) := by
  subst hX
  refine conv_reads (B := w.heap.size + 1) (bs := [b]) ⟨rfl, fun _ => ⟨_, rfl, by simp, fun j u hj => ?_⟩⟩ 1
  match j, hj with
  | 0, hj => simp [cellsB] at hj; subst hj; simp [Addr.add]
set_option maxRecDepth 100000 in
set_option maxHeartbeats 1000000 in
theorem rdec_any : ∀ (n : Nat) (w : World), n < 18446744073709551616 → Calls Tryd.prog 26 #[.int .u64 n] w fun e w' => e = .returned (.string ⟨(Lib.decDigits n).toArray⟩) ∧ Below w.heap.size w w' := by
  intro n
  induction n using Nat.strongRecOn with
  | _ n ih =>
    intro w hn
    by_cases h : n < 10
    · obtain ⟨b, hb⟩ : ∃ b, b = UInt8.ofNat (48 + n) := ⟨_, rfl⟩
      have e1 : Lib.decDigits n = [b] := by rw [dec_small h, hb]
      have cv := conv_one w (48 + (n : Int) % 10) b (by rw [hb, toNat_ofNat (by omega)]; omega)
      have E1 := Lib.hid e1
      clear ih hb e1
      go_enter Tryd.func26, Tryd.ntmps26
      go_wp2
      go_ret
      exact ⟨by rw [E1.out]; rfl, below_box _ _⟩
    · obtain ⟨b, hb⟩ : ∃ b, b = UInt8.ofNat (48 + n % 10) := ⟨_, rfl⟩
      have e1 : Lib.decDigits n = Lib.decDigits (n / 10) ++ [b] := by rw [dec_big h, hb]
      have F := fun w => ih (n / 10) (by omega) w (by omega)
      rw [Int.natCast_ediv] at F
      have IH := Lib.hid F
      have cv := conv_one w (48 + (n : Int) % 10) b (by rw [hb, toNat_ofNat (by omega)]; omega)
      have hlen : (Lib.decDigits (n / 10)).length ≤ 20 := dec_len 20 _ (by omega) (by omega)
      have E1 := Lib.hid e1
      clear ih hb e1 F
      generalize Lib.decDigits (n / 10) = D at *
      have hsz : (⟨D.toArray⟩ : ByteArray).size ≤ 20 := by simpa [ByteArray.size] using hlen
      generalize hDB : (⟨D.toArray⟩ : ByteArray) = DB at *
      have HDB := Lib.hid hDB
      clear hDB
      have hone : (⟨#[b]⟩ : ByteArray).size = 1 := rfl
      generalize hBB : (⟨#[b]⟩ : ByteArray) = BB at *
      have HBB := Lib.hid hBB
      clear hBB
      go_enter Tryd.func26, Tryd.ntmps26
      go_wp2_with (go_at_call 26; refine (IH.out _).mono ?_; rintro e w1 ⟨rfl, hb1⟩)
      go_ret
      refine ⟨?_, (below_box _ _).trans (hb1.mono (by simp))⟩
      rw [E1.out]
      have e2 : (⟨(D ++ [b]).toArray⟩ : ByteArray) = DB ++ BB := by
        rw [← HDB.out, ← HBB.out]
        apply ByteArray.ext
        simp [ByteArray.data_append]
      rw [e2]
      rfl
end Go.Proofs.YtpgchdjfeklobaaDoor
