/-
  Walk: what a text is as a ref, in the reference.
-/
import Derived.Test.YtpgchdjfeklobaaDoorChk
namespace Go.Proofs.YtpgchdjfeklobaaDoor
open Go.RowKit

def RefEnd (s : ByteArray) (w : World) (e : Ending) (w' : World) : Prop := ∃ a n b, e = .returned (.tuple #[.string a, numV n, .bool b]) ∧ RefSaid s a n b ∧ Below w.heap.size w w'
theorem no_ref_short {s : ByteArray} (h : s.size < 2) : ∀ m, 0 < m → m < 18446744073709551616 → s.data.toList ≠ 64 :: Lib.decDigits m := by
  intro m _ _ e
  have := congrArg List.length e
  have := dec_pos m
  simp at *
  omega
theorem head_of {s : ByteArray} {l : List UInt8} (h : 0 < s.size) (e : s.data.toList = 64 :: l) : s[0] = 64 := by
  have e1 : s[0] = s.data.toList[0]'(by simpa using h) := by simp; rfl
  rw [e1]
  simp [e]
theorem no_ref_head {s : ByteArray} (h : 0 < s.size) (hne : s[0] ≠ 64) : ∀ m, 0 < m → m < 18446744073709551616 → s.data.toList ≠ 64 :: Lib.decDigits m :=
  fun _ _ _ e => hne (head_of h e)
theorem tail_of {s : ByteArray} (h : 0 < s.size) (h64 : s[0] = 64) : s.data.toList = 64 :: (s.extract 1 s.size).data.toList := by
  have e1 : s.data.toList[0]? = some 64 := by
    rw [← h64, List.getElem?_eq_getElem (by simpa using h)]; simp; rfl
  have e2 : (s.extract 1 s.size).data.toList = s.data.toList.tail := by
    rw [ByteArray.data_extract, Array.toList_extract]
    simp [List.drop_one]
    rw [List.take_of_length_le]
    simp
  rw [e2]
  generalize s.data.toList = l at *
  cases l with
  | nil => simp at e1
  | cons a l => simp at e1; rw [e1]; rfl
set_option maxRecDepth 100000 in
set_option maxHeartbeats 2000000 in
theorem rref_any (s : ByteArray) (w : World) (hs : s.size ≤ 1000000) : Calls Tryd.prog 59 #[.string s] w (RefEnd s w) := by
  have hml : s.size ≤ maxLen := by unfold maxLen; omega
  by_cases hn : nameOk s = true
  · go_enter Tryd.func59, Tryd.ntmps59
    go_wp2_with (go_at_call 72; refine (name14 s _ hml).mono ?_; rw [hn]; rintro e w1 ⟨rfl, rfl⟩)
    go_ret3
    exact ⟨s, 0, true, rfl, .inl ⟨hn, rfl, rfl, rfl⟩, Below.refl _ _⟩
  · have hn' : nameOk s = false := by simpa using hn
    clear hn
    by_cases h2 : s.size < 2
    · go_enter Tryd.func59, Tryd.ntmps59
      go_wp2_with (go_at_call 72; refine (name14 s _ hml).mono ?_; rw [hn']; rintro e w1 ⟨rfl, rfl⟩)
      go_ret3
      exact ⟨_, 0, false, rfl, .inr ⟨hn', rfl, .inr ⟨rfl, rfl, no_ref_short h2⟩⟩, Below.refl _ _⟩
    · have h0 : 0 < s.size := by omega
      by_cases h64 : s[0] = 64
      · have ht := tail_of h0 h64
        have HT := Lib.hid ht
        have q : ((s[0].toNat : Int) != 64) = false := by rw [h64]; rfl
        have hsz : (s.extract 1 s.size).size ≤ 1000000 := by simp; omega
        have F := fun w => number_any (s.extract 1 s.size) w hsz
        clear ht h64 hsz
        go_enter Tryd.func59, Tryd.ntmps59
        go_wp2_with (go_at_call 72; refine (name14 s _ hml).mono ?_; rw [hn']; rintro e w1 ⟨rfl, rfl⟩)
        refine (F _).mono ?_
        rintro e w2 ⟨n, b, rfl, hN, hb⟩
        have HN := Lib.hid hN
        have HB := Lib.hid hb
        clear hN hb F
        cases b
        · go_wp2
          go_ret3
          exact ⟨_, 0, false, rfl, .inr ⟨hn', rfl, .inr ⟨rfl, rfl, fun m _ hm e => HN.out.2.2 rfl m hm (List.cons.inj (HT.out.symm.trans e)).2.symm⟩⟩, HB.out⟩
        · by_cases hz : n = 0
          · have q0 : ((n : Int) == 0) = true := by simp [hz]
            have HZ := Lib.hid hz
            clear hz
            go_wp2
            go_ret3
            refine ⟨_, 0, false, rfl, .inr ⟨hn', rfl, .inr ⟨rfl, rfl, fun m h0 hm e => ?_⟩⟩, HB.out⟩
            have e1 := HN.out.2.1 rfl
            have e2 := (List.cons.inj (HT.out.symm.trans e)).2
            have e3 := congrArg valL (e1.trans e2)
            rw [val_dec, val_dec, HZ.out] at e3
            omega
          · have q0 : ((n : Int) == 0) = false := by simp; omega
            go_wp2
            go_ret3
            exact ⟨_, n, true, rfl, .inr ⟨hn', rfl, .inl ⟨rfl, by omega, HN.out.1, by rw [HT.out, HN.out.2.1 rfl]⟩⟩, HB.out⟩
      · go_enter Tryd.func59, Tryd.ntmps59
        have q : ((s[0].toNat : Int) != 64) = true := by
          rw [bne_iff_ne]
          intro e
          exact h64 (UInt8.toNat_inj.1 (by have : s[0].toNat = 64 := by omega
                                           rw [this]; rfl))
        have HQ := Lib.hid h64
        clear h64
        go_wp2_with (go_at_call 72; refine (name14 s _ hml).mono ?_; rw [hn']; rintro e w1 ⟨rfl, rfl⟩)
        go_ret3
        exact ⟨_, 0, false, rfl, .inr ⟨hn', rfl, .inr ⟨rfl, rfl, no_ref_head h0 HQ.out⟩⟩, Below.refl _ _⟩
end Go.Proofs.YtpgchdjfeklobaaDoor
