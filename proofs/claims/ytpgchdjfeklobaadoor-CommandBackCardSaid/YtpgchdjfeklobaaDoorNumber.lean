/-
  Walk: the number that digits are, in the reference.
-/
import Derived.Test.YtpgchdjfeklobaaDoorPlainC
namespace Go.Proofs.YtpgchdjfeklobaaDoor
open Go.RowKit

/-- What the reference's number says: the number, if the text is just its digits. -/
def NumberSaid (s : ByteArray) (n : Nat) (b : Bool) : Prop :=
  n < 18446744073709551616 ∧ (b = true → Lib.decDigits n = s.data.toList) ∧ (b = false → ∀ m, m < 18446744073709551616 → Lib.decDigits m ≠ s.data.toList)
theorem fold_ge : ∀ (l : List UInt8) (a : Nat), a ≤ l.foldl (fun a c => a * 10 + (c.toNat - 48)) a
  | [], _ => Nat.le_refl _
  | c :: l, a => Nat.le_trans (by omega) (fold_ge l (a * 10 + (c.toNat - 48)))
theorem val_take_le (l : List UInt8) (k : Nat) : valL (l.take k) ≤ valL l := by
  have e : l = l.take k ++ l.drop k := (List.take_append_drop k l).symm
  have h : valL l = (l.drop k).foldl (fun a c => a * 10 + (c.toNat - 48)) (valL (l.take k)) := by
    conv => lhs; rw [e]
    unfold valL
    rw [List.foldl_append]
  rw [h]
  exact fold_ge _ _
def NumberEnd (s : ByteArray) (w : World) (e : Ending) (w' : World) : Prop := ∃ n b, e = .returned (.tuple #[numV n, .bool b]) ∧ NumberSaid s n b ∧ Below w.heap.size w w'
theorem number_bad {s : ByteArray} {w w' : World} (h : ∀ m, m < 18446744073709551616 → Lib.decDigits m ≠ s.data.toList) (hb : Below w.heap.size w w') : NumberEnd s w (.returned (.tuple #[numV 0, .bool false])) w' :=
  ⟨0, false, rfl, ⟨by omega, (fun e => by cases e), fun _ => h⟩, hb⟩
theorem bad_char {s : ByteArray} {k : Nat} (hk : k < s.size) (h : digit (s[k]) = false) : ∀ m, m < 18446744073709551616 → Lib.decDigits m ≠ s.data.toList := by
  intro m _ e
  have hm : s[k] ∈ s.data.toList := by
    have : s[k] = s.data.toList[k]'(by simpa using hk) := by simp; rfl
    rw [this]; exact List.getElem_mem _
  have := digit_dec m (s[k]) (e ▸ hm)
  rw [h] at this; cases this
theorem take_next {s : ByteArray} {k : Nat} (hk : k < s.size) : s.data.toList.take (k + 1) = s.data.toList.take k ++ [s[k]] := by
  have e : s[k] = s.data.toList[k]'(by simpa using hk) := by simp; rfl
  rw [List.take_succ_eq_append_getElem (by simpa using hk), ← e]
theorem too_many {s : ByteArray} {k n : Nat} (hk : k < s.size) (hn : n < 18446744073709551616) (hv : n % 18446744073709551616 = valL (s.data.toList.take k) % 18446744073709551616) (hm : 1844674407370955161 < n) : ∀ m, m < 18446744073709551616 → Lib.decDigits m ≠ s.data.toList := by
  intro m hlt e
  have h1 : valL s.data.toList = m := by rw [← e, val_dec]
  have h2 := val_take_le s.data.toList (k + 1)
  rw [take_next hk, valL_snoc, h1] at h2
  omega
set_option maxRecDepth 100000 in
set_option maxHeartbeats 2000000 in
theorem number_any (s : ByteArray) (w : World) (hs : s.size ≤ 1000000) : Calls Tryd.prog 60 #[.string s] w (NumberEnd s w) := by
  go_enter Tryd.func60, Tryd.ntmps60
  go_wp2
  go_loop [4, 5] (fun s4 i => ∃ k n : Nat, k ≤ s.size ∧ i = .int .i64 k ∧ s4 = .int .u64 n ∧ n < 18446744073709551616 ∧ (s.data.toList.take k).all digit = true ∧ n % 18446744073709551616 = valL (s.data.toList.take k) % 18446744073709551616) (fun _ i => s.size - (intOf i).toNat)
  case atStart => exact ⟨0, 0, Nat.zero_le _, rfl, rfl, by omega, rfl, rfl⟩
  case round =>
    obtain ⟨k, n, hk, rfl, rfl, hn, hd, hv⟩ := hrel
    have HD := Lib.hid (And.intro hd hv)
    clear hd hv
    go_wp2_with (go_at_call 26; refine (rdec_any n _ hn).mono ?_; rintro e w1 ⟨rfl, hb1⟩; have HB1 := Lib.hid hb1; clear hb1)
    · rename_i hlt h1 h2 h3
      refine bodyPost_ret (v := .tuple #[numV 0, .bool false]) (by simp [results, Tryd.results60, go_sem]) rfl (number_bad (too_many (by assumption) hn HD.out.2 (by omega)) (Below.refl _ _))
    · have hlt : k < s.size := by assumption
      refine ⟨⟨k + 1, (n * 10 + ((s[k]).toNat - 48)) % 18446744073709551616, by omega, by go_num, ?_, by omega, ?_, ?_⟩, by simp [intOf]; omega⟩
      · congr 1
        rw [IntKind.wrap_u64]
        omega
      · rw [take_next hlt, List.all_append, HD.out.1]
        simp [digit]; omega
      · have := HD.out.2
        rw [take_next hlt, valL_snoc]
        omega
    · have hlt : k < s.size := by assumption
      refine bodyPost_ret (v := .tuple #[numV 0, .bool false]) (by simp [results, Tryd.results60, go_sem]) rfl (number_bad (bad_char hlt (by simp [digit]; omega)) (Below.refl _ _))
    · have hlt : k < s.size := by assumption
      refine bodyPost_ret (v := .tuple #[numV 0, .bool false]) (by simp [results, Tryd.results60, go_sem]) rfl (number_bad (bad_char hlt (by simp [digit]; omega)) (Below.refl _ _))
    · refine bodyPost_ret (v := .tuple #[numV n, .bool (Lib.decDigits n == s.toList)]) (by simp [results, Tryd.results60, go_sem]) rfl ⟨n, _, rfl, ⟨hn, fun h => ?_, fun h m hm e => ?_⟩, HB1.out⟩
      · rw [Lib.toList_data] at h; simpa using h
      · rw [Lib.toList_data] at h
        have hne : ¬ Lib.decDigits n = s.data.toList := by simpa using h
        have h1 : s.data.toList.take k = s.data.toList := List.take_of_length_le (by simp; omega)
        have h2 := HD.out.2
        rw [h1, ← e, val_dec] at h2
        have : n = m := by omega
        exact hne (this ▸ e)
end Go.Proofs.YtpgchdjfeklobaaDoor
