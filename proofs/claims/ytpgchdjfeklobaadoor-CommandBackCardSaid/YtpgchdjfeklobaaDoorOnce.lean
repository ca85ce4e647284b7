/-
  Walk: CommandOnce.
-/
import Derived.Deep.RegionWith
import Derived.Test.YtpgchdjfeklobaaDoorAwake
namespace Go.Proofs.YtpgchdjfeklobaaDoor
open Go.RowKit

theorem undrew {W w : World} {B : Nat} (h : Below B W.drew w) : Below B W w := (Below.drew (Below.refl B W)).trans h
theorem Own.form_at {w : World} {base m : Nat} {v : Value} {bs : List UInt8} (h : Own w base v bs) (hm : bs.length = m) : ∃ A cap, v = .slice A m cap ∧ Reads w w.heap.size 1 A m (cellsB bs) := by
  obtain ⟨A, cap, e, hr⟩ := h.form
  subst hm
  exact ⟨A, cap, e, hr⟩
theorem conv_at {w : World} {B m : Nat} {A : Option Addr} {bs : List UInt8} (h : Reads w B 1 A m (cellsB bs)) (cap : Nat) (hm : bs.length = m) : (convert 24 9 (.slice A m cap)).run Tryd.prog w = .ok (.string ⟨bs.toArray⟩) w := by
  subst hm
  exact conv_reads h cap
theorem ofR_cases (bs : List UInt8) : (∃ c, ofR bs = (c, 0) ∧ parse bs = (c, true) ∧ chk c = 0) ∨ ofR bs = (zcmd, 20) := by
  by_cases h : (parse bs).2 = true ∧ chk (parse bs).1 = 0
  · exact .inl ⟨(parse bs).1, by unfold ofR; rw [if_pos h], Prod.ext rfl h.1, h.2⟩
  · exact .inr (by unfold ofR; rw [if_neg h])
theorem parse_small {bs : List UInt8} {c : CmdD} (h : parse bs = (c, true)) : c.Small := by
  obtain ⟨_, k0, k1, n0, n1, ht⟩ := parse_of h
  exact ⟨by omega, by omega, n0, n1, fun s hs => Nat.le_trans (ht s hs) (by omega)⟩
def TrueSaid (w : World) (e : Ending) (w' : World) : Prop := e = .returned (.bool true) ∧ Below w.heap.size w w'
set_option maxRecDepth 100000 in
set_option maxHeartbeats 4000000 in
theorem once_any (A : Option Addr) (cap : Nat) (bs : List UInt8) (w : World) (h : Reads w w.heap.size 1 A bs.length (cellsB bs)) (hn : A = none → bs.length = 0 ∧ cap = 0) (hcap : bs.length ≤ cap) (hl : bs.length ≤ maxLen) (hV : Vars w) :
    Calls Tryd.prog 5 #[.slice A bs.length cap] w (TrueSaid w) := by
  unfold maxLen at hl
  have FA := Lib.hid (awake19 w hV)
  have HV := Lib.hid hV
  clear hV
  by_cases h5 : 500 < bs.length
  · clear h hn hcap
    generalize bs.length = m at *
    go_enter Tryd.func5, Tryd.ntmps5
    go_wp2_with (go_at_call 9; refine FA.out.mono ?_; rintro e w1 ⟨rfl, hb1⟩; have HB1 := Lib.hid hb1; clear hb1)
    go_ret
    exact ⟨rfl, HB1.out⟩
  · have FO := Lib.hid (fun (W : World) (hb : Below w.heap.size w W) => of_any A cap bs W ((h.below hb).more hb.size) hn hcap (by omega) (HV.out.below hb))
    have HH := Lib.hid h
    rcases ofR_cases bs with ⟨c, ho, hp, hc⟩ | ho
    · obtain ⟨hput, _⟩ := parse_of hp
      have hsm := parse_small hp
      obtain ⟨k, a, b, d, v, n⟩ := c
      have F13 := Lib.hid (fun W => put_any ⟨k, a, b, d, v, n⟩ W hsm)
      have F15 := Lib.hid (fun (W : World) (hV : Vars W) => check_any ⟨k, a, b, d, v, n⟩ W hsm hV)
      rw [hput] at F13
      unfold ChkSaid at F15
      rw [hc] at F15
      unfold OfSaid at FO
      rw [ho] at FO
      clear ho hp hc hput hsm h hn hcap
      generalize hm : bs.length = m at *
      have HM := Lib.hid hm
      clear hm
      go_enter Tryd.func5, Tryd.ntmps5
      go_wp2_with (first
        | (go_at_call 9; refine FA.out.mono ?_; rintro e w1 ⟨rfl, hb1⟩; have HB1 := Lib.hid hb1; clear hb1)
        | (go_at_call 11; refine (FO.out _ HB1.out).mono ?_; rintro e w2 ⟨rfl, hb2⟩; have HB2 := Lib.hid (HB1.out.trans (hb2.mono HB1.out.size)); clear hb2))
      have HX := Lib.hid (Blk.new w2 23 #[.int .i64 k, .string a, .string b, .string d, .string v, .int .i64 n])
      have HB3 := Lib.hid (HB2.out.alloc HB2.out.size (.cells #[.int .i64 k, .string a, .string b, .string d, .string v, .int .i64 n] 23))
      generalize hW : w2.alloc (.cells #[.int .i64 k, .string a, .string b, .string d, .string v, .int .i64 n] 23) = W at *
      clear hW
      generalize w2.heap.size = g at *
      have hxc := HX.out.cell
      have hxz := HX.out.lt
      have hrW := (HH.out.below HB3.out)
      have cv := conv_at hrW cap HM.out
      have cvd := conv_at hrW.drew cap HM.out
      have HRW := Lib.hid hrW
      clear hrW
      first
        | (go_region_with (first
            | (go_at_call 13; refine (F13.out _).mono ?_; rintro e w4 ⟨v4, rfl, ho4, hbd4⟩; have hb4 : Below W.heap.size W w4 := (by first | exact hbd4 | exact undrew hbd4); obtain ⟨A4, c4, rfl, hr4⟩ := ho4.form_at HM.out; have cv4 := conv_at hr4 c4 HM.out; have HB4 := Lib.hid (HB3.out.trans (hb4.mono HB3.out.size)); have cvb := conv_at (HH.out.below HB4.out) cap HM.out; have hx4 := HX.out.below hb4 HX.out.lt; have hxc4 := hx4.cell; have hxz4 := hx4.lt; clear ho4 hb4 hbd4 hr4 hx4)
            | (go_at_call 15; refine (F15.out _ (HV.out.below HB4.out)).mono ?_; rintro e w5 ⟨rfl, hb5⟩; have HB5 := Lib.hid (HB4.out.trans (hb5.mono HB4.out.size)); clear hb5)))
        | fail
      all_goals
        go_wp2_with fail
        go_ret
        exact ⟨rfl, by first | exact HB5.out | exact HB5.out.drew⟩
    · unfold OfSaid at FO
      rw [ho] at FO
      clear ho h hn hcap
      generalize bs.length = m at *
      go_enter Tryd.func5, Tryd.ntmps5
      go_wp2_with (first
        | (go_at_call 9; refine FA.out.mono ?_; rintro e w1 ⟨rfl, hb1⟩; have HB1 := Lib.hid hb1; clear hb1)
        | (go_at_call 11; refine (FO.out _ HB1.out).mono ?_; rintro e w2 ⟨rfl, hb2⟩; have HB2 := Lib.hid (HB1.out.trans (hb2.mono HB1.out.size)); clear hb2))
      go_ret
      exact ⟨rfl, HB2.out.alloc HB2.out.size _⟩
end Go.Proofs.YtpgchdjfeklobaaDoor
