/-
  Walks: the first error of some, in the program and in the reference.
-/
import Derived.Test.YtpgchdjfeklobaaDoorTests
namespace Go.Proofs.YtpgchdjfeklobaaDoor
open Go.RowKit

abbrev intV (n : Int) : Value := .int .i64 n
def firstE : List Int → Int
  | [] => 0
  | x :: l => if x = 0 then firstE l else x
theorem firstE_cons (x : Int) (l : List Int) : firstE (x :: l) = if x = 0 then firstE l else x := rfl
set_option maxRecDepth 100000 in
set_option maxHeartbeats 1000000 in
theorem first_any (A : Option Addr) (cap : Nat) (es : List Int) (B : Nat) (w : World) (h : Reads w B 1 A es.length (es.map intV)) (hl : es.length ≤ 1000) :
    Calls Tryd.prog 48 #[.slice A es.length cap] w fun e w' => e = .returned (.int .i64 (firstE es)) ∧ w = w' := by
  have H := Lib.hid h
  clear h
  generalize hm : es.length = m at *
  have HM := Lib.hid hm
  clear hm
  go_enter Tryd.func48, Tryd.ntmps48
  go_wp2
  go_loop [4, 7] (fun _ i => ∃ k : Nat, k ≤ m ∧ i = .int .i64 k ∧ firstE es = firstE (es.drop k)) (fun _ i => m - (intOf i).toNat)
  case atStart => exact ⟨0, Nat.zero_le _, rfl, rfl⟩
  case round =>
    obtain ⟨k, hk, rfl, hf⟩ := hrel
    by_cases hlt : k < m
    · obtain ⟨ad, u, rfl, _, hu, hc⟩ := H.out.at_ hlt
      have hlb : k < es.length := by rw [HM.out]; exact hlt
      rw [List.getElem?_map, List.getElem?_eq_getElem hlb] at hu
      simp only [Option.map_some, Option.some.injEq] at hu
      subst hu
      rw [List.drop_eq_getElem_cons hlb] at hf
      rw [firstE_cons] at hf
      generalize es[k] = x at *
      by_cases hx : x = 0
      · rw [if_pos hx] at hf
        have HF := Lib.hid hf
        have q : (x != 0) = false := by simp [hx]
        clear hf hx hlb
        go_wp2
        go_round
        case rel => exact ⟨k + 1, by omega, by go_num, HF.out⟩
        case measure => simp [intOf]; omega
      · rw [if_neg hx] at hf
        have HF := Lib.hid hf
        have q : (x != 0) = true := by simp [hx]
        clear hf hlb
        go_wp2
        go_ret
        exact ⟨by rw [HF.out]; rfl, rfl⟩
    · rw [List.drop_eq_nil_of_le (by rw [HM.out]; omega)] at hf
      have HF := Lib.hid hf
      clear hf
      go_wp2
      go_ret
      exact ⟨by rw [HF.out]; rfl, rfl⟩
set_option maxRecDepth 100000 in
set_option maxHeartbeats 1000000 in
theorem rfirst_any (A : Option Addr) (cap : Nat) (es : List Int) (B : Nat) (w : World) (h : Reads w B 1 A es.length (es.map intV)) (hl : es.length ≤ 1000) :
    Calls Tryd.prog 89 #[.slice A es.length cap] w fun e w' => e = .returned (.int .i64 (firstE es)) ∧ w = w' := by
  have H := Lib.hid h
  clear h
  generalize hm : es.length = m at *
  have HM := Lib.hid hm
  clear hm
  go_enter Tryd.func89, Tryd.ntmps89
  go_wp2
  go_loop [4, 7] (fun _ i => ∃ k : Nat, k ≤ m ∧ i = .int .i64 k ∧ firstE es = firstE (es.drop k)) (fun _ i => m - (intOf i).toNat)
  case atStart => exact ⟨0, Nat.zero_le _, rfl, rfl⟩
  case round =>
    obtain ⟨k, hk, rfl, hf⟩ := hrel
    by_cases hlt : k < m
    · obtain ⟨ad, u, rfl, _, hu, hc⟩ := H.out.at_ hlt
      have hlb : k < es.length := by rw [HM.out]; exact hlt
      rw [List.getElem?_map, List.getElem?_eq_getElem hlb] at hu
      simp only [Option.map_some, Option.some.injEq] at hu
      subst hu
      rw [List.drop_eq_getElem_cons hlb] at hf
      rw [firstE_cons] at hf
      generalize es[k] = x at *
      by_cases hx : x = 0
      · rw [if_pos hx] at hf
        have HF := Lib.hid hf
        have q : (x != 0) = false := by simp [hx]
        clear hf hx hlb
        go_wp2
        go_round
        case rel => exact ⟨k + 1, by omega, by go_num, HF.out⟩
        case measure => simp [intOf]; omega
      · rw [if_neg hx] at hf
        have HF := Lib.hid hf
        have q : (x != 0) = true := by simp [hx]
        clear hf hlb
        go_wp2
        go_ret
        exact ⟨by rw [HF.out]; rfl, rfl⟩
    · rw [List.drop_eq_nil_of_le (by rw [HM.out]; omega)] at hf
      have HF := Lib.hid hf
      clear hf
      go_wp2
      go_ret
      exact ⟨by rw [HF.out]; rfl, rfl⟩
end Go.Proofs.YtpgchdjfeklobaaDoor
