/-
  Walks: a number that bytes begin with, in the program and in the reference.
-/
import Derived.Test.YtpgchdjfeklobaaDoorWriter
namespace Go.Proofs.YtpgchdjfeklobaaDoor
open Go.RowKit

def lebV (r : Option (Nat × Nat)) : Nat × Nat × Int := match r with | some (n, k) => (n, k, 0) | none => (0, 0, 20)

theorem pow7 (k : Nat) : 128 ^ k = 2 ^ (7 * k) := by rw [Nat.pow_mul]
theorem or_add {acc y k : Nat} (ha : acc < 128 ^ k) (hk : k < 10) (h9 : k = 9 → y ≤ 1) :
    bits .or .u64 (acc : Int) (IntKind.u64.wrap ((y : Int) % 128 * 2 ^ (7 * k))) = ((acc + y % 128 * 128 ^ k : Nat) : Int) := by
  have hp : 128 ^ k ≤ 128 ^ 9 := Nat.pow_le_pow_right (by omega) (by omega)
  have hz : y % 128 * 128 ^ k < 18446744073709551616 := by
    rcases Nat.lt_or_ge k 9 with h | h
    · have hp8 : 128 ^ k ≤ 128 ^ 8 := Nat.pow_le_pow_right (by omega) (by omega)
      have : y % 128 * 128 ^ k ≤ 127 * 128 ^ 8 := Nat.mul_le_mul (by omega) hp8
      omega
    · have : y % 128 * 128 ^ k ≤ 1 * 128 ^ 9 := Nat.mul_le_mul (by have := h9 (by omega); omega) hp
      omega
  have e1 : (y : Int) % 128 * 2 ^ (7 * k) = ((y % 128 * 128 ^ k : Nat) : Int) := by
    rw [pow7]; push_cast; rfl
  have e2 : IntKind.u64.wrap ((y % 128 * 128 ^ k : Nat) : Int) = ((y % 128 * 128 ^ k : Nat) : Int) := by rw [IntKind.wrap_u64]; omega
  rw [e1, e2, bits_or_u64_nat _ _ (by omega) hz]
  have e3 : y % 128 * 128 ^ k = (y % 128) <<< (7 * k) := by rw [Nat.shiftLeft_eq, pow7]
  rw [pow7] at ha
  rw [e3, Nat.or_comm, ← Nat.shiftLeft_add_eq_or_of_lt ha]
  omega
theorem acc_lt {acc y k : Nat} (ha : acc < 128 ^ k) : acc + y % 128 * 128 ^ k < 128 ^ (k + 1) := by
  have : (y % 128 + 1) * 128 ^ k ≤ 128 * 128 ^ k := Nat.mul_le_mul_right _ (by omega)
  rw [Nat.add_mul] at this
  rw [Nat.pow_succ, Nat.mul_comm (128 ^ k) 128]
  omega

set_option maxRecDepth 100000 in
set_option maxHeartbeats 2000000 in
theorem lebof_any (A : Option Addr) (cap : Nat) (bs : List UInt8) (B : Nat) (w : World) (h : Reads w B 1 A bs.length (cellsB bs)) (_hl : bs.length ≤ 4294967296) :
    Calls Tryd.prog 79 #[.slice A bs.length cap] w fun e w' => e = .returned (.tuple #[numV (lebV (lebOf bs)).1, .int .i64 (lebV (lebOf bs)).2.1, .int .i64 (lebV (lebOf bs)).2.2]) ∧ w = w' := by
  have H := Lib.hid h
  clear h
  generalize hm : bs.length = m at *
  have HM := Lib.hid hm
  clear hm
  go_enter Tryd.func79, Tryd.ntmps79
  go_wp2
  go_loop [2, 5, 6, 7, 10] (fun s2 _ _ _ i => ∃ k acc : Nat, k ≤ m ∧ i = .int .i64 k ∧ s2 = .int .u64 acc ∧ acc < 128 ^ k ∧ (k ≤ 10) ∧ lebOf bs = lebGo (bs.drop k) k acc) (fun _ _ _ _ i => m - (intOf i).toNat)
  case atStart => exact ⟨0, 0, Nat.zero_le _, rfl, rfl, by simp, by omega, rfl⟩
  case round =>
    obtain ⟨k, acc, hk, rfl, rfl, hacc, hk10, hg⟩ := hrel
    by_cases hlt : k < m
    · obtain ⟨ad, u, rfl, _, hu, hc⟩ := H.out.at_ hlt
      have hlb : k < bs.length := by rw [HM.out]; exact hlt
      have hu' : u = byteV (bs[k]) := by
        unfold cellsB at hu
        rw [List.getElem?_map, List.getElem?_eq_getElem hlb] at hu
        simpa using hu.symm
      subst hu'
      have hc' : w.cell? (ad.add k) = some (.int .u8 ((bs[k]).toNat : Int)) := hc
      clear hc hu
      have hd : bs.drop k = bs[k] :: bs.drop (k + 1) := List.drop_eq_getElem_cons hlb
      rw [hd] at hg
      have hy := (bs[k]).toNat_lt
      generalize hyy : (bs[k]).toNat = y at *
      by_cases hA : 10 ≤ k ∨ (k = 9 ∧ 1 < y)
      · have e1 : lebOf bs = none := by rw [hg]; unfold lebGo; rw [hyy, if_pos hA]
        have E1 := Lib.hid e1
        clear hg hd e1 hyy
        rcases hA with h10 | ⟨h9, hy1⟩
        · go_wp2
          refine bodyPost_ret (v := .tuple #[numV 0, .int .i64 0, .int .i64 20]) (by simp [results, Tryd.results79, go_sem]) rfl ⟨by rw [E1.out]; rfl, rfl⟩
        · have q9 : ((k : Int) == 9) = true := by simp [h9]
          have q10 : k < 10 := by omega
          clear h9 hk10 hacc
          go_wp2
          refine bodyPost_ret (v := .tuple #[numV 0, .int .i64 0, .int .i64 20]) (by simp [results, Tryd.results79, go_sem]) rfl ⟨by rw [E1.out]; rfl, rfl⟩
      · have hA1 : k < 10 := by omega
        have hA2 : k = 9 → y ≤ 1 := by omega
        have hg' := hg
        unfold lebGo at hg'
        rw [hyy, if_neg hA] at hg'
        have q9 : k = 9 → ¬ (1 : Int) < (y : Int) := by omega
        by_cases hC : y < 128
        · rw [if_pos hC] at hg'
          by_cases hD : y = 0 ∧ 0 < k
          · rw [if_pos hD] at hg'
            have E1 := Lib.hid hg'
            have hy0 : ((y : Int) == 0) = true := by simp [hD.1]
            have hk0 := hD.2
            have hy1 : ¬ (1 : Int) < (y : Int) := by omega
            clear hg' hg hd hyy hA hD hA2 hacc q9
            by_cases h9 : k = 9
            · have q9' : ((k : Int) == 9) = true := by simp [h9]
              clear h9
              go_wp2
              refine bodyPost_ret (v := .tuple #[numV 0, .int .i64 0, .int .i64 20]) (by simp [results, Tryd.results79, go_sem]) rfl ⟨by rw [E1.out]; rfl, rfl⟩
            · have q9' : ((k : Int) == 9) = false := by simp; omega
              clear h9
              go_wp2
              refine bodyPost_ret (v := .tuple #[numV 0, .int .i64 0, .int .i64 20]) (by simp [results, Tryd.results79, go_sem]) rfl ⟨by rw [E1.out]; rfl, rfl⟩
          · rw [if_neg hD] at hg'
            have E1 := Lib.hid hg'
            have hor := or_add hacc hA1 hA2
            have hq9 : ((k : Int) == 9) = true ∧ ¬ (1 : Int) < (y : Int) ∨ ((k : Int) == 9) = false := by
              by_cases h : k = 9
              · exact .inl ⟨by simp [h], q9 h⟩
              · exact .inr (by simp; omega)
            have hq0 : ((y : Int) == 0) = true ∧ ¬ (0 : Int) < (k : Int) ∨ ((y : Int) == 0) = false := by
              by_cases h : y = 0
              · exact .inl ⟨by simp [h], by omega⟩
              · exact .inr (by simp; omega)
            clear hg' hg hd hyy hA hD hA2 hacc q9
            rcases hq9 with ⟨q1, q2⟩ | q1 <;> rcases hq0 with ⟨q3, q4⟩ | q3
            all_goals
              go_wp2
              refine bodyPost_ret (v := .tuple #[numV (acc + y % 128 * 128 ^ k), .int .i64 ((k : Int) + 1), .int .i64 0]) (by simp [results, Tryd.results79, go_sem]) rfl ⟨by rw [E1.out]; rfl, rfl⟩
        · rw [if_neg hC] at hg'
          have E1 := Lib.hid hg'
          have hor := or_add hacc hA1 hA2
          have HAC := Lib.hid (acc_lt (y := y) hacc)
          have hq9 : ((k : Int) == 9) = true ∧ ¬ (1 : Int) < (y : Int) ∨ ((k : Int) == 9) = false := by
            by_cases h : k = 9
            · exact .inl ⟨by simp [h], q9 h⟩
            · exact .inr (by simp; omega)
          clear hg' hg hd hyy hA hA2 hacc q9
          rcases hq9 with ⟨q1, q2⟩ | q1
          · exfalso; omega
          · go_wp2
            go_round
            case rel => exact ⟨k + 1, _, by omega, by go_num, rfl, HAC.out, by omega, E1.out⟩
            case measure => simp [intOf]; omega
    · have e1 : bs.drop k = [] := List.drop_eq_nil_of_le (by rw [HM.out]; omega)
      rw [e1] at hg
      have E1 := Lib.hid hg
      clear hg e1
      go_wp2
      refine bodyPost_ret (v := .tuple #[numV 0, .int .i64 0, .int .i64 20]) (by simp [results, Tryd.results79, go_sem]) rfl ⟨by rw [E1.out]; rfl, rfl⟩
end Go.Proofs.YtpgchdjfeklobaaDoor
