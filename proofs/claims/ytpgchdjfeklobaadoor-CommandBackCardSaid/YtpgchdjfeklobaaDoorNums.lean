/-
  Walks: signed numbers as unsigned ones, and back, in the program and in the reference.
-/
import Derived.Test.YtpgchdjfeklobaaDoorProg
import Derived.Test.YtpgchdjfeklobaaDoorPlainA
import Derived.WalkKit
import Derived.IntWalk
import Derived.Laws.Bits64
import Derived.Laws.Bits64b
import Derived.Laws.DeepNot64
namespace Go.Proofs.YtpgchdjfeklobaaDoor
open Go.RowKit

def zigI (n : Int) : Int := if 0 ≤ n then 2 * n else -2 * n - 1
def zagI (u : Int) : Int := if u % 2 = 0 then u / 2 else -(u / 2) - 1
theorem zag_zig (n : Int) : zagI (zigI n) = n := by unfold zagI zigI; split <;> split <;> omega
theorem zig_zag {u : Int} (h : 0 ≤ u) : zigI (zagI u) = u := by unfold zagI zigI; split <;> split <;> omega
theorem zig_bd {n : Int} (h0 : -9223372036854775808 ≤ n) (h1 : n ≤ 9223372036854775807) : 0 ≤ zigI n ∧ zigI n ≤ 18446744073709551615 := by unfold zigI; split <;> omega
theorem zag_bd {u : Int} (h0 : 0 ≤ u) (h1 : u ≤ 18446744073709551615) : -9223372036854775808 ≤ zagI u ∧ zagI u ≤ 9223372036854775807 := by unfold zagI; split <;> omega

theorem xor_ones (a : Nat) (ha : a < 18446744073709551616) : a ^^^ 18446744073709551615 = 18446744073709551615 - a := by
  have h := BitVec.toNat_not (x := BitVec.ofNat 64 a)
  rw [BitVec.toNat_ofNat, Nat.mod_eq_of_lt (by omega)] at h
  have h2 : (~~~ (BitVec.ofNat 64 a)) = (BitVec.ofNat 64 a) ^^^ (BitVec.ofNat 64 18446744073709551615) := by
    rw [← BitVec.xor_allOnes]; rfl
  rw [h2, BitVec.toNat_xor, BitVec.toNat_ofNat, BitVec.toNat_ofNat, Nat.mod_eq_of_lt (by omega), Nat.mod_eq_of_lt (by omega)] at h
  rw [h]
theorem zig_eq (n : Int) (h0 : -9223372036854775808 ≤ n) (h1 : n ≤ 9223372036854775807) :
    bits .xor .u64 (IntKind.u64.wrap (IntKind.u64.wrap n * 2)) (IntKind.u64.wrap (n / 9223372036854775808)) = zigI n := by
  simp only [IntKind.wrap_u64]
  unfold zigI
  by_cases h : 0 ≤ n
  · have e1 : (n % 18446744073709551616 * 2) % 18446744073709551616 = ((2 * n).toNat : Int) := by omega
    have e2 : (n / 9223372036854775808) % 18446744073709551616 = ((0 : Nat) : Int) := by omega
    rw [e1, e2, bits_xor_u64_nat _ _ (by omega) (by omega), if_pos h, Nat.xor_zero]
    omega
  · have e1 : (n % 18446744073709551616 * 2) % 18446744073709551616 = ((18446744073709551616 + 2 * n).toNat : Int) := by omega
    have e2 : (n / 9223372036854775808) % 18446744073709551616 = ((18446744073709551615 : Nat) : Int) := by omega
    rw [e1, e2, bits_xor_u64_nat _ _ (by omega) (by omega), if_neg h, xor_ones _ (by omega)]
    omega
theorem i64_xor_zero (a : Int) (h0 : -9223372036854775808 ≤ a) (h1 : a ≤ 9223372036854775807) : bits .xor .i64 a 0 = a := by
  show IntKind.i64.wrap ((BitVec.ofInt 64 a ^^^ BitVec.ofInt 64 0).toNat : Int) = a
  have e : BitVec.ofInt 64 0 = 0#64 := rfl
  rw [e, BitVec.xor_zero, BitVec.toNat_ofInt]
  simp only [IntKind.wrap, IntKind.bits, IntKind.signed]
  simp
  split <;> omega
theorem i64_xor_comm (a b : Int) : bits .xor .i64 a b = bits .xor .i64 b a := by
  show IntKind.i64.wrap ((BitVec.ofInt 64 a ^^^ BitVec.ofInt 64 b).toNat : Int) = IntKind.i64.wrap ((BitVec.ofInt 64 b ^^^ BitVec.ofInt 64 a).toNat : Int)
  rw [BitVec.xor_comm]
theorem wrap64_in {n : Int} (h0 : -9223372036854775808 ≤ n) (h1 : n ≤ 9223372036854775807) : wrap64 n = n := by unfold wrap64; omega
theorem zag_eq (n : Int) (h0 : 0 ≤ n) (h1 : n ≤ 18446744073709551615) :
    bits .xor .i64 (wrap64 (n / 2)) (wrap64 (-wrap64 (bits .and .u64 n 1))) = zagI n := by
  obtain ⟨m, rfl⟩ : ∃ m : Nat, n = m := ⟨n.toNat, by omega⟩
  have e1 : bits .and .u64 (m : Int) 1 = ((m % 2 : Nat) : Int) := by
    have := bits_and_u64_nat m 1 (by omega) (by omega)
    rw [Nat.and_one_is_mod] at this
    exact this
  rw [e1, wrap64_in (n := (m : Int) / 2) (by omega) (by omega), wrap64_in (n := ((m % 2 : Nat) : Int)) (by omega) (by omega), wrap64_in (by omega) (by omega)]
  unfold zagI
  rcases Nat.mod_two_eq_zero_or_one m with h | h
  · rw [h, if_pos (by omega)]
    exact i64_xor_zero _ (by omega) (by omega)
  · rw [h, if_neg (by omega), i64_xor_comm]
    have := i64_not (m / 2) (by omega)
    have e2 : -((1 : Nat) : Int) = -1 := rfl
    have e3 : ((m / 2 : Nat) : Int) = (m : Int) / 2 := by omega
    rw [e2, ← e3, this]
    omega

theorem ret_u {k : IntKind} {a b : Int} {w : World} (h : a = b) : Ending.returned (.int k a) = .returned (.int k b) ∧ w = w := by rw [h]; exact ⟨rfl, rfl⟩
theorem zig_any (n : Int) (w : World) (h0 : -9223372036854775808 ≤ n) (h1 : n ≤ 9223372036854775807) : Calls Tryd.prog 42 #[.int .i64 n] w fun e w' => e = .returned (.int .u64 (zigI n)) ∧ w = w' := by
  have e := zig_eq n h0 h1
  clear h0 h1
  go_enter Tryd.func42, Tryd.ntmps42
  go_wp2
  go_ret
  exact ret_u rfl
theorem zag_any (n : Int) (w : World) (h0 : 0 ≤ n) (h1 : n ≤ 18446744073709551615) : Calls Tryd.prog 33 #[.int .u64 n] w fun e w' => e = .returned (.int .i64 (zagI n)) ∧ w = w' := by
  have e := zag_eq n h0 h1
  clear h0 h1
  go_enter Tryd.func33, Tryd.ntmps33
  go_wp2
  go_ret
  exact ret_u rfl
theorem rzig_any (n : Int) (w : World) (h0 : -9223372036854775808 ≤ n) (h1 : n ≤ 9223372036854775807) : Calls Tryd.prog 46 #[.int .i64 n] w fun e w' => e = .returned (.int .u64 (zigI n)) ∧ w = w' := by
  by_cases h : 0 ≤ n
  · go_enter Tryd.func46, Tryd.ntmps46
    go_wp2
    go_ret
    exact ret_u (by unfold zigI; omega)
  · go_enter Tryd.func46, Tryd.ntmps46
    go_wp2
    go_ret
    exact ret_u (by unfold zigI; omega)
theorem rzag_any (n : Int) (w : World) (h0 : 0 ≤ n) (h1 : n ≤ 18446744073709551615) : Calls Tryd.prog 37 #[.int .u64 n] w fun e w' => e = .returned (.int .i64 (zagI n)) ∧ w = w' := by
  go_enter Tryd.func37, Tryd.ntmps37
  go_wp2
  · rename_i hz
    have hz' : n % 2 = 0 := by simpa using hz
    go_ret
    exact ret_u (by unfold zagI; omega)
  · rename_i hz
    have hz' : ¬ n % 2 = 0 := by simpa using hz
    go_ret
    exact ret_u (by unfold zagI; omega)
end Go.Proofs.YtpgchdjfeklobaaDoor
