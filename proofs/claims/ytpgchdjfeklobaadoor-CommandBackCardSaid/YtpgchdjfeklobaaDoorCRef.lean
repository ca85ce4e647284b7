/-
  Walk: what a text is as a ref, in the program.
-/
import Derived.Lib.ParseIntBCases
import Derived.Test.YtpgchdjfeklobaaDoorFmt
namespace Go.Proofs.YtpgchdjfeklobaaDoor
open Go.RowKit

theorem parse_digits : ∀ (l : List UInt8) (a : Nat), (∀ c ∈ l, digit c = true) → l.foldl (fun a c => a * 10 + (c.toNat - 48)) a < 18446744073709551616 →
    Lib.parseUint10 a l = .ok (l.foldl (fun a c => a * 10 + (c.toNat - 48)) a)
  | [], _, _, _ => rfl
  | c :: l, a, hd, hl => by
    have hc : 48 ≤ c.toNat ∧ c.toNat ≤ 57 := by have := hd c (by simp); simpa [digit] using this
    have hg := fold_ge l (a * 10 + (c.toNat - 48))
    rw [List.foldl_cons] at hl
    unfold Lib.parseUint10
    rw [if_pos hc, if_neg (by omega), if_neg (by omega), List.foldl_cons]
    exact parse_digits l _ (fun x hx => hd x (List.mem_cons_of_mem _ hx)) hl
theorem parse_dec {m : Nat} (h : m < 18446744073709551616) : Lib.parseUintB 64 (Lib.decDigits m) = .ok m := by
  rw [Lib.parseUintB_64]
  unfold Lib.parseMag
  have hp := dec_pos m
  rw [if_neg (fun e => by rw [e] at hp; simp at hp)]
  have hv : (Lib.decDigits m).foldl (fun a c => a * 10 + (c.toNat - 48)) 0 = m := val_dec m
  rw [parse_digits _ 0 (digit_dec m) (by rw [hv]; exact h), hv]
theorem pre_at (s : ByteArray) : (Lib.hasPrefix s.data.toList [64] = true ∧ s.data.toList = 64 :: Lib.trimPrefix s.data.toList [64]) ∨ (Lib.hasPrefix s.data.toList [64] = false ∧ ∀ l, s.data.toList ≠ 64 :: l) := by
  cases hs : s.data.toList with
  | nil => exact .inr ⟨rfl, fun l e => by cases e⟩
  | cons c l =>
    by_cases hc : c = 64
    · subst hc
      exact .inl ⟨by simp [Lib.hasPrefix, List.isPrefixOf], by simp [Lib.trimPrefix, Lib.hasPrefix, List.isPrefixOf]⟩
    · exact .inr ⟨by simp [Lib.hasPrefix, List.isPrefixOf]; exact fun e => hc e.symm, fun l' e => hc (List.cons.inj e).1⟩
theorem below_drop {w w' : World} {s : ByteArray} (h : w' = w ∨ w' = Lib.bytesWorld w 5 s) : Below w.heap.size w w' := by
  rcases h with rfl | rfl
  · exact Below.refl _ _
  · exact below_bytes _ _ _
theorem pu_ok (s : ByteArray) (u : Nat) (w : World) (hs : s.size ≤ 1000000) (h : Lib.parseUintB 64 s.data.toList = .ok u) :
    Calls Tryd.prog 75 #[.string s, .int .i64 10, .int .i64 64] w fun e w' => e = .returned (.tuple #[numV u, .nilIface]) ∧ Below w.heap.size w w' :=
  (Tryd.strconv_ParseUint_10_at64_ok s (by omega) u h w).mono fun _ _ ⟨a, b⟩ => ⟨a, below_drop b⟩
theorem pu_bad (s : ByteArray) (w : World) (hs : s.size ≤ 1000000) (hV : Vars w) (h : ∀ u, Lib.parseUintB 64 s.data.toList ≠ .ok u) :
    Calls Tryd.prog 75 #[.string s, .int .i64 10, .int .i64 64] w fun e w' => ∃ n N, e = .returned (.tuple #[.int .u64 n, .iface 158 (.pointer (some ⟨N, 0, none⟩))]) ∧ Below w.heap.size w w' := by
  rcases hP : Lib.parseUintB 64 s.data.toList with u | _ | _
  · exact absurd hP (h u)
  · obtain ⟨tp, p, e⟩ := hV.syn
    exact (Any.strconv_ParseUint_10_at64_syntax Tryd.laysPu14 s (by omega) hP _ w e (.inr ⟨tp, p, rfl⟩)).mono fun _ _ ⟨N, a, _, _, b⟩ => ⟨_, N, a, b⟩
  · obtain ⟨tp, p, e⟩ := hV.rng
    exact (Tryd.strconv_ParseUint_10_at64_range s (by omega) hP _ w e (.inr ⟨tp, p, rfl⟩)).mono fun _ _ ⟨N, a, _, _, b⟩ => ⟨_, N, a, b⟩
theorem no_ref_bad {s DB : ByteArray} (hs : s.data.toList = 64 :: DB.data.toList) (h : ∀ u, Lib.parseUintB 64 DB.data.toList ≠ .ok u) : ∀ m, 0 < m → m < 18446744073709551616 → s.data.toList ≠ 64 :: Lib.decDigits m := by
  intro m _ hm e
  have e2 : DB.data.toList = Lib.decDigits m := (List.cons.inj (hs.symm.trans e)).2
  exact h m (by rw [e2]; exact parse_dec hm)
theorem no_ref_other {s DB : ByteArray} {u : Nat} (hs : s.data.toList = 64 :: DB.data.toList) (h : Lib.parseUintB 64 DB.data.toList = .ok u) (hu : u = 0 ∨ Lib.decDigits u ≠ DB.data.toList) : ∀ m, 0 < m → m < 18446744073709551616 → s.data.toList ≠ 64 :: Lib.decDigits m := by
  intro m h0 hm e
  have e2 : DB.data.toList = Lib.decDigits m := (List.cons.inj (hs.symm.trans e)).2
  have e3 : u = m := by
    have := parse_dec hm
    rw [← e2, h] at this
    injection this
  rcases hu with rfl | hu
  · omega
  · exact hu (by rw [e3, e2])
set_option maxRecDepth 100000 in
set_option maxHeartbeats 2000000 in
theorem cref_any (s : ByteArray) (w : World) (hs : s.size ≤ 1000000) (hV : Vars w) : Calls Tryd.prog 28 #[.string s] w (RefEnd s w) := by
  have hml : s.size ≤ maxLen := by unfold maxLen; omega
  have HV := Lib.hid hV
  clear hV
  by_cases hn : nameOk s = true
  · go_enter Tryd.func28, Tryd.ntmps28
    go_wp2_with (go_at_call 54; refine (name16 s _ hml).mono ?_; rw [hn]; rintro e w1 ⟨rfl, hb1⟩)
    go_ret3
    exact ⟨s, 0, true, rfl, .inl ⟨hn, rfl, rfl, rfl⟩, hb1⟩
  · have hn' : nameOk s = false := by simpa using hn
    clear hn
    have F := pre_at s
    have hl : (Lib.trimPrefix s.data.toList [64]).length ≤ 1000000 := by
      have := Lib.trimPrefix_le s.data.toList [64]
      have : s.data.toList.length = s.size := by simp
      omega
    have CP := fun w => Tryd.strings_CutPrefix s ⟨#[64]⟩ w
    have e64 : (⟨#[64]⟩ : ByteArray).data.toList = [64] := rfl
    rw [e64] at CP
    generalize Lib.trimPrefix s.data.toList [64] = D at *
    generalize hDB : (⟨D.toArray⟩ : ByteArray) = DB at *
    have hDL : DB.data.toList = D := by rw [← hDB]
    have hDz : DB.size ≤ 1000000 := by rw [← hDB]; simpa [ByteArray.size] using hl
    have HDL := Lib.hid hDL
    have HCP := Lib.hid CP
    clear CP hDL hDB hl e64
    rcases F with ⟨hp, hs1⟩ | ⟨hp, hs1⟩
    · rw [← HDL.out] at hs1
      have HS := Lib.hid hs1
      rw [hp] at HCP
      clear hs1 hp
      by_cases hP : ∃ u, Lib.parseUintB 64 DB.data.toList = .ok u
      · obtain ⟨u, hP⟩ := hP
        have hu := Lib.parseUintB_le hP
        have hu' : u < 18446744073709551616 := by omega
        have HP := Lib.hid hP
        clear hP hu
        by_cases hz : u = 0
        · have q0 : ((u : Int) == 0) = true := by simp [hz]
          have HZ := Lib.hid hz
          clear hz
          go_enter Tryd.func28, Tryd.ntmps28
          go_wp2_with (first
            | (go_at_call 54; refine (name16 s _ hml).mono ?_; rw [hn']; rintro e w1 ⟨rfl, hb1⟩; have HB1 := Lib.hid hb1; clear hb1)
            | (go_at_call 74; refine (HCP.out _).mono ?_; rintro e w' ⟨rfl, rfl⟩)
            | (go_at_call 75; refine (pu_ok DB u _ hDz HP.out).mono ?_; rintro e w2 ⟨rfl, hb2⟩; have HB2 := Lib.hid hb2; clear hb2))
          go_ret3
          exact ⟨_, 0, false, rfl, .inr ⟨hn', rfl, .inr ⟨rfl, rfl, no_ref_other HS.out HP.out (.inl HZ.out)⟩⟩, HB1.out.trans (HB2.out.mono HB1.out.size)⟩
        · have q0 : ((u : Int) == 0) = false := by simp; omega
          have hpos : 0 < u := by omega
          go_enter Tryd.func28, Tryd.ntmps28
          go_wp2_with (first
            | (go_at_call 54; refine (name16 s _ hml).mono ?_; rw [hn']; rintro e w1 ⟨rfl, hb1⟩; have HB1 := Lib.hid hb1; clear hb1)
            | (go_at_call 74; refine (HCP.out _).mono ?_; rintro e w' ⟨rfl, rfl⟩)
            | (go_at_call 75; refine (pu_ok DB u _ hDz HP.out).mono ?_; rintro e w2 ⟨rfl, hb2⟩; have HB2 := Lib.hid (HB1.out.trans (hb2.mono HB1.out.size)); clear hb2)
            | (go_at_call 76; refine (fmt_any u _ hu' (HV.out.below HB2.out)).mono ?_; rintro e w3 ⟨rfl, hb3⟩; have HB3 := Lib.hid hb3; clear hb3))
          · rename_i hne
            go_ret3
            refine ⟨_, 0, false, rfl, .inr ⟨hn', rfl, .inr ⟨rfl, rfl, no_ref_other HS.out HP.out (.inr ?_)⟩⟩, HB2.out.trans (HB3.out.mono HB2.out.size)⟩
            rw [Lib.toList_data] at hne
            simpa using hne
          · rename_i hne
            go_ret3
            refine ⟨_, u, true, rfl, .inr ⟨hn', rfl, .inl ⟨rfl, hpos, hu', ?_⟩⟩, HB2.out.trans (HB3.out.mono HB2.out.size)⟩
            rw [Lib.toList_data] at hne
            rw [HS.out]
            congr 1
            symm
            simpa using hne
      · have hbad : ∀ u, Lib.parseUintB 64 DB.data.toList ≠ .ok u := fun u e => hP ⟨u, e⟩
        have HBAD := Lib.hid hbad
        clear hP hbad
        go_enter Tryd.func28, Tryd.ntmps28
        go_wp2_with (first
          | (go_at_call 54; refine (name16 s _ hml).mono ?_; rw [hn']; rintro e w1 ⟨rfl, hb1⟩; have HB1 := Lib.hid hb1; clear hb1)
          | (go_at_call 74; refine (HCP.out _).mono ?_; rintro e w' ⟨rfl, rfl⟩)
          | (go_at_call 75; refine (pu_bad DB _ hDz (HV.out.below HB1.out) HBAD.out).mono ?_; rintro e w2 ⟨n, N, rfl, hb2⟩; have HB2 := Lib.hid (HB1.out.trans (hb2.mono HB1.out.size)); clear hb2))
        go_ret3
        exact ⟨_, 0, false, rfl, .inr ⟨hn', rfl, .inr ⟨rfl, rfl, no_ref_bad HS.out HBAD.out⟩⟩, HB2.out⟩
    · have HS := Lib.hid hs1
      rw [hp] at HCP
      clear hs1 hp
      by_cases hP : ∃ u, Lib.parseUintB 64 DB.data.toList = .ok u
      · obtain ⟨u, hP⟩ := hP
        have HP := Lib.hid hP
        clear hP
        go_enter Tryd.func28, Tryd.ntmps28
        go_wp2_with (first
          | (go_at_call 54; refine (name16 s _ hml).mono ?_; rw [hn']; rintro e w1 ⟨rfl, hb1⟩; have HB1 := Lib.hid hb1; clear hb1)
          | (go_at_call 74; refine (HCP.out _).mono ?_; rintro e w' ⟨rfl, rfl⟩)
          | (go_at_call 75; refine (pu_ok DB u _ hDz HP.out).mono ?_; rintro e w2 ⟨rfl, hb2⟩; have HB2 := Lib.hid (HB1.out.trans (hb2.mono HB1.out.size)); clear hb2))
        go_ret3
        exact ⟨_, 0, false, rfl, .inr ⟨hn', rfl, .inr ⟨rfl, rfl, fun m _ _ => HS.out _⟩⟩, HB2.out⟩
      · have hbad : ∀ u, Lib.parseUintB 64 DB.data.toList ≠ .ok u := fun u e => hP ⟨u, e⟩
        have HBAD := Lib.hid hbad
        clear hP hbad
        go_enter Tryd.func28, Tryd.ntmps28
        go_wp2_with (first
          | (go_at_call 54; refine (name16 s _ hml).mono ?_; rw [hn']; rintro e w1 ⟨rfl, hb1⟩; have HB1 := Lib.hid hb1; clear hb1)
          | (go_at_call 74; refine (HCP.out _).mono ?_; rintro e w' ⟨rfl, rfl⟩)
          | (go_at_call 75; refine (pu_bad DB _ hDz (HV.out.below HB1.out) HBAD.out).mono ?_; rintro e w2 ⟨n, N, rfl, hb2⟩; have HB2 := Lib.hid (HB1.out.trans (hb2.mono HB1.out.size)); clear hb2))
        go_ret3
        exact ⟨_, 0, false, rfl, .inr ⟨hn', rfl, .inr ⟨rfl, rfl, fun m _ _ => HS.out _⟩⟩, HB2.out⟩
end Go.Proofs.YtpgchdjfeklobaaDoor
