/-
  Walk: CommandPuts.
-/
import Derived.Deep.RegionHeld3
import Derived.Test.YtpgchdjfeklobaaDoorOnce
namespace Go.Proofs.YtpgchdjfeklobaaDoor
open Go.RowKit

/-- What comes in is a command. -/
structure CmdD.Fit (c : CmdD) : Prop where
  k0 : -9223372036854775808 ≤ c.kind
  k1 : c.kind ≤ 9223372036854775807
  n0 : -9223372036854775808 ≤ c.n
  n1 : c.n ≤ 9223372036854775807
  txt : ∀ s ∈ c.texts, s.size ≤ maxLen
section
variable {P : Program} {ops : Array Oper} {Q : Exit → Act → World → Prop} {md : Region.Mode}
/-- The condition of a region that draws its order may be made stronger on the way. -/
theorem held_more {S S' : World → Prop} (hs : ∀ w, S' w → S w) : ∀ (fuel : Nat) (listed : Array Bool) (a : Act) (w : World), wpAnyH P md ops Q S' fuel listed a w → wpAnyH P md ops Q S fuel listed a w
  | 0, _, _, _, h => h
  | fuel + 1, _, _, _, h => ⟨h.1, fun i hi => wpOp_mono (fun a' w' h' => ⟨hs _ h'.1, held_more hs fuel _ a' w' h'.2⟩) (h.2 i hi)⟩
/-- 'wpAnyH_take', the place that is written said outright. -/
theorem held_take {S : World → Prop} {i : Nat} {oi : Oper} {d : Option Tmp} {v : Value} {fuel : Nat} {listed : Array Bool} {a : Act} {w : World} (hi : ops[i]? = some oi) (hd : oi.dst = d)
    (hs : Region.noSelect ops = true) (hf : Region.free md ops listed i = true) (hr : (Region.ready md ops listed).contains i = true)
    (hQ : ∀ c a w, Q (.panic c) (a.put d v) w → Q (.panic c) a w) (hy : YieldsIf P ops S oi v a) (hS : S w)
    (h : wpAnyH P md ops Q S fuel (listed.setIfInBounds i true) (a.put d v) w) : wpAnyH P md ops Q S (fuel + 1) listed a w := by
  subst hd
  exact wpAnyH_take hi hs hf hr hQ hy hS h
end
theorem light_small {c : CmdD} (h : light c = true) (hf : c.Fit) : c.Small := by
  unfold light at h
  simp at h
  refine ⟨hf.k0, hf.k1, hf.n0, hf.n1, fun s hs => ?_⟩
  simp at hs
  rcases hs with rfl | rfl | rfl | rfl <;> omega
set_option maxRecDepth 100000 in
set_option maxHeartbeats 8000000 in
theorem puts_any (c : CmdD) (A : Option Addr) (cap : Nat) (bs : List UInt8) (w : World) (hf : c.Fit) (h : Reads w w.heap.size 1 A bs.length (cellsB bs)) (hn : A = none → bs.length = 0 ∧ cap = 0) (hcap : bs.length ≤ cap) (hl : bs.length ≤ maxLen) (hV : Vars w) :
    Calls Tryd.prog 3 #[.agg c.cells, .slice A bs.length cap] w (TrueSaid w) := by
  unfold maxLen at hl
  obtain ⟨k, a, b, d, v, n⟩ := c
  have HB0 := Lib.hid (below_box w (.cells (CmdD.mk k a b d v n).cells 23))
  have FA := Lib.hid (awake19 (w.alloc (.cells (CmdD.mk k a b d v n).cells 23)) (hV.below HB0.out))
  have FL := Lib.hid (fun W => light_any ⟨k, a, b, d, v, n⟩ W hf.txt)
  have HX0 := Lib.hid (Blk.new w 23 (CmdD.mk k a b d v n).cells)
  have HV := Lib.hid hV
  clear hV
  cases hlg : light ⟨k, a, b, d, v, n⟩ with
  | false =>
    rw [hlg] at FL
    clear h hn hcap hlg hf
    generalize bs.length = m at *
    go_enter Tryd.func3, Tryd.ntmps3
    go_wp2_with (first
      | (go_at_call 9; refine FA.out.mono ?_; rintro e w1 ⟨rfl, hb1⟩; have HB1 := Lib.hid (HB0.out.trans (hb1.mono HB0.out.size)); have hx1 := HX0.out.below hb1 HX0.out.lt; have hxc1 := hx1.cell; have hxz1 := hx1.lt; clear hb1 hx1)
      | (go_at_call 10; refine (FL.out _).mono ?_; rintro e w2 ⟨rfl, hb2⟩; have HB2 := Lib.hid (HB1.out.trans (hb2.mono HB1.out.size)); clear hb2))
    go_ret
    exact ⟨rfl, HB2.out⟩
  | true =>
    have hsm := light_small hlg hf
    rw [hlg] at FL
    by_cases h5 : 500 < bs.length
    · clear h hn hcap hlg hf hsm
      generalize bs.length = m at *
      go_enter Tryd.func3, Tryd.ntmps3
      go_wp2_with (first
        | (go_at_call 9; refine FA.out.mono ?_; rintro e w1 ⟨rfl, hb1⟩; have HB1 := Lib.hid (HB0.out.trans (hb1.mono HB0.out.size)); have hx1 := HX0.out.below hb1 HX0.out.lt; have hxc1 := hx1.cell; have hxz1 := hx1.lt; clear hb1 hx1)
        | (go_at_call 10; refine (FL.out _).mono ?_; rintro e w2 ⟨rfl, hb2⟩; have HB2 := Lib.hid (HB1.out.trans (hb2.mono HB1.out.size)); clear hb2))
      go_ret
      exact ⟨rfl, HB2.out⟩
    · have FO := Lib.hid (fun (W : World) (hb : Below w.heap.size w W) => of_any A cap bs W ((h.below hb).more hb.size) hn hcap (by omega) (HV.out.below hb))
      have FR := Lib.hid (fun (W : World) (hb : Below w.heap.size w W) => rof_any A cap bs W ((h.below hb).more hb.size) hn hcap (by omega))
      have F13 := Lib.hid (fun W => put_any ⟨k, a, b, d, v, n⟩ W hsm)
      have F14 := Lib.hid (fun W => rput_any ⟨k, a, b, d, v, n⟩ W hsm)
      unfold OfSaid at FO FR
      generalize ofR bs = r at *
      obtain ⟨⟨xk, xa, xb, xd, xv, xn⟩, xe⟩ := r
      generalize putB ⟨k, a, b, d, v, n⟩ = pb at *
      clear h hn hcap hlg hf hsm
      generalize bs.length = m at *
      go_enter Tryd.func3, Tryd.ntmps3
      go_wp2_with (first
        | (go_at_call 9; refine FA.out.mono ?_; rintro e w1 ⟨rfl, hb1⟩; have HB1 := Lib.hid (HB0.out.trans (hb1.mono HB0.out.size)); have hx1 := HX0.out.below hb1 HX0.out.lt; have HX1 := Lib.hid hx1; have hxc1 := hx1.cell; have hxz1 := hx1.lt; clear hb1 hx1)
        | (go_at_call 10; refine (FL.out _).mono ?_; rintro e w2 ⟨rfl, hb2⟩; have HB2 := Lib.hid (HB1.out.trans (hb2.mono HB1.out.size)); have HX2 := Lib.hid (HX1.out.below hb2 HX1.out.lt); clear hb2)
        | (go_at_call 11; refine (FO.out _ HB2.out).mono ?_; rintro e w3 ⟨rfl, hb3⟩; have HB3 := Lib.hid (HB2.out.trans (hb3.mono HB2.out.size)); have HX3 := Lib.hid (HX2.out.below hb3 HX2.out.lt); clear hb3)
        | (go_at_call 12; refine (FR.out _ (HB3.out.alloc HB3.out.size _)).mono ?_; rintro e w4 ⟨rfl, hb4⟩; have HB4 := Lib.hid ((HB3.out.alloc HB3.out.size (.cells #[.int .i64 xk, .string xa, .string xb, .string xd, .string xv, .int .i64 xn] 23)).trans (hb4.mono (by simp; have := HB3.out.size; omega))); have HX4 := Lib.hid ((HX3.out.alloc (.cells #[.int .i64 xk, .string xa, .string xb, .string xd, .string xv, .int .i64 xn] 23)).below hb4 (by have := HX3.out.lt; simp; omega)); have HY4 := Lib.hid ((Blk.new w3 23 #[.int .i64 xk, .string xa, .string xb, .string xd, .string xv, .int .i64 xn]).below hb4 (by simp)); clear hb4))
      clear hxc1 hxz1
      have HX5 := Lib.hid (HX4.out.alloc (.cells #[.int .i64 xk, .string xa, .string xb, .string xd, .string xv, .int .i64 xn] 23))
      have HY5 := Lib.hid (HY4.out.alloc (.cells #[.int .i64 xk, .string xa, .string xb, .string xd, .string xv, .int .i64 xn] 23))
      have HZ5 := Lib.hid (Blk.new w4 23 #[.int .i64 xk, .string xa, .string xb, .string xd, .string xv, .int .i64 xn])
      have HB5 := Lib.hid (HB4.out.alloc HB4.out.size (.cells #[.int .i64 xk, .string xa, .string xb, .string xd, .string xv, .int .i64 xn] 23))
      generalize hW : w4.alloc (.cells #[.int .i64 xk, .string xa, .string xb, .string xd, .string xv, .int .i64 xn] 23) = W at *
      clear hW HX4 HY4 HX3 HX2 HX1
      generalize w4.heap.size = g4 at *
      generalize w3.heap.size = g3 at *
      have hxc := HX5.out.cell
      have hxz := HX5.out.lt
      have hyc := HY5.out.cell
      have hyz := HY5.out.lt
      have hzc := HZ5.out.cell
      have hzz := HZ5.out.lt
      refine wp_region_held_drew (S := fun W' => (∀ i, W'.cell? ⟨w.heap.size, i, none⟩ = (#[.int .i64 k, .string a, .string b, .string d, .string v, .int .i64 n] : Array Value)[i]?) ∧ (∀ i, W'.cell? ⟨g3, i, none⟩ = (#[.int .i64 xk, .string xa, .string xb, .string xd, .string xv, .int .i64 xn] : Array Value)[i]?) ∧ (∀ i, W'.cell? ⟨g4, i, none⟩ = (#[.int .i64 xk, .string xa, .string xb, .string xd, .string xv, .int .i64 xn] : Array Value)[i]?)) (by kernel_rfl) ⟨hxc, hyc, hzc⟩ (fun hHeld => ?_)
      clear hxc hxz hyc hyz hzc hzz
      refine held_take (i := 0) (d := some 29) (v := .agg #[.int .i64 k, .string a, .string b, .string d, .string v, .int .i64 n]) rfl rfl (by kernel_rfl) (by kernel_rfl) (by kernel_rfl) (fun _ _ _ h => h) (Or.inl ⟨by kernel_rfl, ?_⟩) hHeld ?_
      · intro w' hSw
        (try dsimp only at hSw)
        go_simp
      (try dsimp only [Act.put])
      refine held_take (i := 3) (d := some 32) (v := .agg #[.int .i64 k, .string a, .string b, .string d, .string v, .int .i64 n]) rfl rfl (by kernel_rfl) (by kernel_rfl) (by kernel_rfl) (fun _ _ _ h => h) (Or.inl ⟨by kernel_rfl, ?_⟩) hHeld ?_
      · intro w' hSw
        (try dsimp only at hSw)
        go_simp
      (try dsimp only [Act.put])
      refine wpAnyH_ready (rs := [1]) (by kernel_rfl) (by simp) ?_
      refine AllReadyH.cons (o := _) rfl (fun K hK => ?_) AllReadyH.nil
      go_simp
      go_at_call 13
      refine (F13.out _).mono ?_
      rintro e w6 ⟨v6, rfl, ho6, hbd6⟩
      have hb6 : Below W.heap.size W w6 := (by first | exact hbd6 | exact undrew hbd6)
      obtain ⟨A6, c6, rfl, hr6⟩ := ho6.form
      have HX6 := Lib.hid (HX5.out.below hb6 HX5.out.lt)
      have HY6 := Lib.hid (HY5.out.below hb6 HY5.out.lt)
      have HZ6 := Lib.hid (HZ5.out.below hb6 HZ5.out.lt)
      have HR6 := Lib.hid hr6
      have HB6 := Lib.hid (HB5.out.trans (hb6.mono HB5.out.size))
      clear ho6 hb6 hbd6 hr6
      (try go_simp)
      refine hK.out _ _ ?_ (fun hHeld => ?_)
      · exact ⟨HX6.out.cell, HY6.out.cell, HZ6.out.cell⟩
      clear hK K
      (try dsimp only [Act.put])
      refine held_more (S' := fun W' => ((∀ i, W'.cell? ⟨w.heap.size, i, none⟩ = (#[.int .i64 k, .string a, .string b, .string d, .string v, .int .i64 n] : Array Value)[i]?) ∧ (∀ i, W'.cell? ⟨g3, i, none⟩ = (#[.int .i64 xk, .string xa, .string xb, .string xd, .string xv, .int .i64 xn] : Array Value)[i]?) ∧ (∀ i, W'.cell? ⟨g4, i, none⟩ = (#[.int .i64 xk, .string xa, .string xb, .string xd, .string xv, .int .i64 xn] : Array Value)[i]?)) ∧ (convert 24 9 (.slice A6 pb.length c6)).run Tryd.prog W' = .ok (.string ⟨pb.toArray⟩) W') (fun _ h => h.1) _ _ _ _ ?_
      have hHeld := And.intro hHeld (conv_reads HR6.out c6)
      refine held_take (i := 2) (d := some 31) (v := .string ⟨pb.toArray⟩) rfl rfl (by kernel_rfl) (by kernel_rfl) (by kernel_rfl) (fun _ _ _ h => h) (Or.inl ⟨by kernel_rfl, ?_⟩) hHeld ?_
      · intro w' hSw
        (try dsimp only at hSw)
        go_simp
      (try dsimp only [Act.put])
      refine wpAnyH_ready (rs := [4]) (by kernel_rfl) (by simp) ?_
      refine AllReadyH.cons (o := _) rfl (fun K hK => ?_) AllReadyH.nil
      go_simp
      go_at_call 14
      refine (F14.out _).mono ?_
      rintro e w7 ⟨v7, rfl, ho7, hb7⟩
      obtain ⟨A7, c7, rfl, hr7⟩ := ho7.form
      have HX7 := Lib.hid (HX6.out.below hb7 HX6.out.lt)
      have HY7 := Lib.hid (HY6.out.below hb7 HY6.out.lt)
      have HZ7 := Lib.hid (HZ6.out.below hb7 HZ6.out.lt)
      have HR76 := Lib.hid (HR6.out.below hb7)
      have HR7 := Lib.hid hr7
      have HB7 := Lib.hid (HB6.out.trans (hb7.mono HB6.out.size))
      clear ho7 hb7 hr7
      (try go_simp)
      refine hK.out _ _ ?_ (fun hHeld => ?_)
      · exact ⟨⟨HX7.out.cell, HY7.out.cell, HZ7.out.cell⟩, conv_reads HR76.out c6⟩
      clear hK K
      (try dsimp only [Act.put])
      refine held_more (S' := fun W' => (((∀ i, W'.cell? ⟨w.heap.size, i, none⟩ = (#[.int .i64 k, .string a, .string b, .string d, .string v, .int .i64 n] : Array Value)[i]?) ∧ (∀ i, W'.cell? ⟨g3, i, none⟩ = (#[.int .i64 xk, .string xa, .string xb, .string xd, .string xv, .int .i64 xn] : Array Value)[i]?) ∧ (∀ i, W'.cell? ⟨g4, i, none⟩ = (#[.int .i64 xk, .string xa, .string xb, .string xd, .string xv, .int .i64 xn] : Array Value)[i]?)) ∧ (convert 24 9 (.slice A6 pb.length c6)).run Tryd.prog W' = .ok (.string ⟨pb.toArray⟩) W') ∧ (convert 24 9 (.slice A7 pb.length c7)).run Tryd.prog W' = .ok (.string ⟨pb.toArray⟩) W') (fun _ h => h.1) _ _ _ _ ?_
      have hHeld := And.intro hHeld (conv_reads HR7.out c7)
      refine held_take (i := 5) (d := some 34) (v := .string ⟨pb.toArray⟩) rfl rfl (by kernel_rfl) (by kernel_rfl) (by kernel_rfl) (fun _ _ _ h => h) (Or.inl ⟨by kernel_rfl, ?_⟩) hHeld ?_
      · intro w' hSw
        (try dsimp only at hSw)
        go_simp
      (try dsimp only [Act.put])
      refine held_take (i := 6) (d := some 35) (v := .bool true) rfl rfl (by kernel_rfl) (by kernel_rfl) (by kernel_rfl) (fun _ _ _ h => h) (Or.inl ⟨by kernel_rfl, ?_⟩) hHeld ?_
      · intro w' hSw
        (try dsimp only at hSw)
        go_simp
      (try dsimp only [Act.put])
      refine held_take (i := 7) (d := some 36) (v := .bool true) rfl rfl (by kernel_rfl) (by kernel_rfl) (by kernel_rfl) (fun _ _ _ h => h) (Or.inl ⟨by kernel_rfl, ?_⟩) hHeld ?_
      · intro w' hSw
        (try dsimp only at hSw)
        go_simp
      (try dsimp only [Act.put])
      refine held_take (i := 8) (d := some 37) (v := .agg #[.int .i64 xk, .string xa, .string xb, .string xd, .string xv, .int .i64 xn]) rfl rfl (by kernel_rfl) (by kernel_rfl) (by kernel_rfl) (fun _ _ _ h => h) (Or.inl ⟨by kernel_rfl, ?_⟩) hHeld ?_
      · intro w' hSw
        (try dsimp only at hSw)
        go_simp
      (try dsimp only [Act.put])
      refine held_take (i := 9) (d := some 38) (v := .agg #[.int .i64 xk, .string xa, .string xb, .string xd, .string xv, .int .i64 xn]) rfl rfl (by kernel_rfl) (by kernel_rfl) (by kernel_rfl) (fun _ _ _ h => h) (Or.inl ⟨by kernel_rfl, ?_⟩) hHeld ?_
      · intro w' hSw
        (try dsimp only at hSw)
        go_simp
      (try dsimp only [Act.put])
      refine held_take (i := 10) (d := some 39) (v := .bool true) rfl rfl (by kernel_rfl) (by kernel_rfl) (by kernel_rfl) (fun _ _ _ h => h) (Or.inl ⟨by kernel_rfl, ?_⟩) hHeld ?_
      · intro w' hSw
        (try dsimp only at hSw)
        go_simp
      (try dsimp only [Act.put])
      refine held_take (i := 11) (d := some 40) (v := .bool true) rfl rfl (by kernel_rfl) (by kernel_rfl) (by kernel_rfl) (fun _ _ _ h => h) (Or.inl ⟨by kernel_rfl, ?_⟩) hHeld ?_
      · intro w' hSw
        (try dsimp only at hSw)
        go_simp
      (try dsimp only [Act.put])
      refine held_take (i := 12) (d := some 41) (v := .bool true) rfl rfl (by kernel_rfl) (by kernel_rfl) (by kernel_rfl) (fun _ _ _ h => h) (Or.inl ⟨by kernel_rfl, ?_⟩) hHeld ?_
      · intro w' hSw
        (try dsimp only at hSw)
        go_simp
      (try dsimp only [Act.put])
      refine held_take (i := 13) (d := some 42) (v := .int .i64 xe) rfl rfl (by kernel_rfl) (by kernel_rfl) (by kernel_rfl) (fun _ _ _ h => h) (Or.inl ⟨by kernel_rfl, ?_⟩) hHeld ?_
      · intro w' hSw
        (try dsimp only at hSw)
        go_simp
      (try dsimp only [Act.put])
      refine held_take (i := 14) (d := some 43) (v := .int .i64 xe) rfl rfl (by kernel_rfl) (by kernel_rfl) (by kernel_rfl) (fun _ _ _ h => h) (Or.inl ⟨by kernel_rfl, ?_⟩) hHeld ?_
      · intro w' hSw
        (try dsimp only at hSw)
        go_simp
      (try dsimp only [Act.put])
      refine held_take (i := 15) (d := some 44) (v := .bool true) rfl rfl (by kernel_rfl) (by kernel_rfl) (by kernel_rfl) (fun _ _ _ h => h) (Or.inl ⟨by kernel_rfl, ?_⟩) hHeld ?_
      · intro w' hSw
        (try dsimp only at hSw)
        go_simp
      (try dsimp only [Act.put])
      refine held_take (i := 16) (d := some 45) (v := .bool true) rfl rfl (by kernel_rfl) (by kernel_rfl) (by kernel_rfl) (fun _ _ _ h => h) (Or.inl ⟨by kernel_rfl, ?_⟩) hHeld ?_
      · intro w' hSw
        (try dsimp only at hSw)
        go_simp
      (try dsimp only [Act.put])
      refine held_take (i := 17) (d := some 4) (v := .bool true) rfl rfl (by kernel_rfl) (by kernel_rfl) (by kernel_rfl) (fun _ _ _ h => h) (Or.inl ⟨by kernel_rfl, ?_⟩) hHeld ?_
      · intro w' hSw
        (try dsimp only at hSw)
        go_simp
      (try dsimp only [Act.put])
      refine wpAnyH_done (by kernel_rfl) ?_ _
      simp only [List.setIfInBounds_toArray, List.set_cons_zero, List.set_cons_succ]
      go_wp2_with fail
      go_ret
      exact ⟨rfl, HB7.out⟩
end Go.Proofs.YtpgchdjfeklobaaDoor
