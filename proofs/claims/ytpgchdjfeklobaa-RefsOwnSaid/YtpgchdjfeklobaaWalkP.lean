/-
  Walk of the law of refs: RefsDo, all ways.
-/
import Derived.Test.YtpgchdjfeklobaaWalkO
namespace Go.Proofs.Ytpgchdjfeklobaa
open Go.RowKit Go.Maps Go.Shelf Go.Sort

set_option maxHeartbeats 1000000 in
theorem refsdo_any (A : Option Addr) (ca : Nat) (ls : List RefD) (B : Option Addr) (cb : Nat) (ds : List DeedD) (s : ByteArray) (w : World) (hl : ls.length ≤ maxLen) (hs : ∀ r ∈ ls, r.name.size ≤ maxLen)
    (hdl : ds.length ≤ maxLen) (hds : ∀ d ∈ ds, d.r.name.size ≤ maxLen) (hss : s.size ≤ maxLen) (h : RefsAt w A ls) (hd : DeedsAt w B ds) :
    Calls Try.prog 3 #[.slice A ls.length ca, .slice B ds.length cb, .string s] w fun e w' => e = .returned (.bool true) ∧ Below w.heap.size w w' := by
  by_cases hgo : few ls = true ∧ ds.length ≤ 40 ∧ s.size ≤ 40
  · exact refsdo_walk A ca ls B cb ds s w hl hs hgo.2.1 hds hgo.2.2 hgo.1 h hd
  have F6 := fun W hr => few_any A ca ls W hl hs hr
  have H := Lib.hid h
  clear h hd hs hds
  generalize few ls = f at *
  generalize ds.length = m at *
  generalize ls.length = n at *
  unfold maxLen at hl hdl hss
  have F6 := Lib.hid F6
  by_cases hf : f = true
  · subst hf
    by_cases hm : 40 < m
    · clear hgo
      go_enter Try.func3, Try.ntmps3
      go_wp2_with (first
        | (go_at_call 5; refine (awake_any _).mono ?_; rintro e w1 ⟨rfl, hb1⟩; have HB1 := Lib.hid hb1; clear hb1)
        | (go_at_call 6; refine (F6.out w1 (H.out.below HB1.out)).mono ?_; rintro e w2 ⟨rfl, hb2⟩; have HB2 := Lib.hid (below_step HB1.out hb2); clear hb2))
      go_ret
      exact ⟨rfl, HB2.out⟩
    · have hs4 : 40 < s.size := by
        rcases Nat.lt_or_ge 40 s.size with hlt | hge
        · exact hlt
        · exact (hgo ⟨rfl, by omega, hge⟩).elim
      clear hgo
      go_enter Try.func3, Try.ntmps3
      go_wp2_with (first
        | (go_at_call 5; refine (awake_any _).mono ?_; rintro e w1 ⟨rfl, hb1⟩; have HB1 := Lib.hid hb1; clear hb1)
        | (go_at_call 6; refine (F6.out w1 (H.out.below HB1.out)).mono ?_; rintro e w2 ⟨rfl, hb2⟩; have HB2 := Lib.hid (below_step HB1.out hb2); clear hb2))
      go_ret
      exact ⟨rfl, HB2.out⟩
  · have hf' : f = false := by simpa using hf
    subst hf'
    clear hgo hf
    go_enter Try.func3, Try.ntmps3
    go_wp2_with (first
      | (go_at_call 5; refine (awake_any _).mono ?_; rintro e w1 ⟨rfl, hb1⟩; have HB1 := Lib.hid hb1; clear hb1)
      | (go_at_call 6; refine (F6.out w1 (H.out.below HB1.out)).mono ?_; rintro e w2 ⟨rfl, hb2⟩; have HB2 := Lib.hid (below_step HB1.out hb2); clear hb2))
    go_ret
    exact ⟨rfl, HB2.out⟩
end Go.Proofs.Ytpgchdjfeklobaa
