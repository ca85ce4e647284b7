/-
  Walk: CommandBack.
-/
import Derived.Deep.RegionHeld3
import Derived.Test.YtpgchdjfeklobaaDoorBackP
namespace Go.Proofs.YtpgchdjfeklobaaDoor
open Go.RowKit

theorem below_two (w : World) (A B : Obj) : Below w.heap.size w ((w.alloc A).alloc B) := (below_box w A).trans (below_box' B (by simp))
set_option maxRecDepth 100000 in
set_option maxHeartbeats 8000000 in
theorem back_any (c d : CmdD) (w : World) (hf : c.Fit) (hf' : d.Fit) (hV : Vars w) : Calls Tryd.prog 4 #[.agg c.cells, .agg d.cells] w (TrueSaid w) := by
  have HB0 := Lib.hid (below_two w (.cells c.cells 23) (.cells d.cells 23))
  have FA := Lib.hid (awake19 ((w.alloc (.cells c.cells 23)).alloc (.cells d.cells 23)) (hV.below HB0.out))
  have FL := Lib.hid (fun W => light_any c W hf.txt)
  have FM := Lib.hid (fun W => light_any d W hf'.txt)
  have HX0 := Lib.hid ((Blk.new w 23 c.cells).alloc (.cells d.cells 23))
  have HY0 := Lib.hid (Blk.new (w.alloc (.cells c.cells 23)) 23 d.cells)
  rw [World.size_alloc] at HY0
  have HV := Lib.hid hV
  clear hV
  obtain ⟨k, a, b, x, v, n⟩ := c
  obtain ⟨k', a', b', x', v', n'⟩ := d
  cases hlc : light ⟨k, a, b, x, v, n⟩ with
  | false =>
    rw [hlc] at FL
    clear hlc hf hf'
    go_enter Tryd.func4, Tryd.ntmps4
    go_wp2_with (go_at_call 9; refine FA.out.mono ?_; rintro e w1 ⟨rfl, hb1⟩; have HB1 := Lib.hid (HB0.out.trans (hb1.mono HB0.out.size)); have hx1 := HX0.out.below hb1 HX0.out.lt; have HX1 := Lib.hid hx1; have hxc1 := hx1.cell; have hxz1 := hx1.lt; have HY1 := Lib.hid (HY0.out.below hb1 HY0.out.lt); clear hb1 hx1)
    refine (FL.out _).mono ?_
    rintro e w2 ⟨rfl, hb2⟩
    have HB2 := Lib.hid (HB1.out.trans (hb2.mono HB1.out.size))
    clear hb2
    go_wp2_with fail
    go_ret
    exact ⟨rfl, HB2.out⟩
  | true =>
    rw [hlc] at FL
    have hsm := light_small hlc hf
    go_enter Tryd.func4, Tryd.ntmps4
    go_wp2_with (go_at_call 9; refine FA.out.mono ?_; rintro e w1 ⟨rfl, hb1⟩; have HB1 := Lib.hid (HB0.out.trans (hb1.mono HB0.out.size)); have hx1 := HX0.out.below hb1 HX0.out.lt; have HX1 := Lib.hid hx1; have hxc1 := hx1.cell; have hxz1 := hx1.lt; have HY1 := Lib.hid (HY0.out.below hb1 HY0.out.lt); clear hb1 hx1)
    refine (FL.out _).mono ?_
    rintro e w2 ⟨rfl, hb2⟩
    have HB2 := Lib.hid (HB1.out.trans (hb2.mono HB1.out.size))
    have HX2 := Lib.hid (HX1.out.below hb2 HX1.out.lt)
    have hy2 := HY1.out.below hb2 HY1.out.lt
    have HY2 := Lib.hid hy2
    have hyc2 := hy2.cell
    have hyz2 := hy2.lt
    clear hb2 hy2 hxc1 hxz1
    go_wp2_with fail
    refine (FM.out _).mono ?_
    rintro e w3 ⟨rfl, hb3⟩
    have HB3 := Lib.hid (HB2.out.trans (hb3.mono HB2.out.size))
    have hx3 := HX2.out.below hb3 HX2.out.lt
    have HX3 := Lib.hid hx3
    have HY3 := Lib.hid (HY2.out.below hb3 HY2.out.lt)
    clear hb3 hyc2 hyz2
    cases hld : light ⟨k', a', b', x', v', n'⟩ with
    | false =>
      clear hx3
      go_wp2_with fail
      go_ret
      exact ⟨rfl, HB3.out⟩
    | true =>
      have hsm' := light_small hld hf'
      have F13 := Lib.hid (fun W => put_any ⟨k, a, b, x, v, n⟩ W hsm)
      have F13d := Lib.hid (fun W => put_any ⟨k', a', b', x', v', n'⟩ W hsm')
      have F15 := Lib.hid (fun (W : World) (hV : Vars W) => check_any ⟨k, a, b, x, v, n⟩ W hsm hV)
      have F15d := Lib.hid (fun (W : World) (hV : Vars W) => check_any ⟨k', a', b', x', v', n'⟩ W hsm' hV)
      have HO := Lib.hid (ofR_put hlc hf)
      have HL := Lib.hid (putB_len hsm)
      have HI := Lib.hid (fun kc kd => puts_same hlc hld hf hf' kc kd)
      have hEq : ∀ W, (binOp .eql 23 (.agg #[.int .i64 k, .string a, .string b, .string x, .string v, .int .i64 n]) (.agg #[.int .i64 k', .string a', .string b', .string x', .string v', .int .i64 n'])).run Tryd.prog W = .ok (.bool (cmdEq ⟨k, a, b, x, v, n⟩ ⟨k', a', b', x', v', n'⟩)) W := fun W => struct_eq ⟨k, a, b, x, v, n⟩ ⟨k', a', b', x', v', n'⟩ W
      have HE := Lib.hid hEq
      clear hEq hlc hld hf hf' hsm hsm'
      generalize hpc : putB ⟨k, a, b, x, v, n⟩ = pc at *
      generalize hpd : putB ⟨k', a', b', x', v', n'⟩ = pd at *
      have hxc3 := hx3.cell
      have hxz3 := hx3.lt
      clear hx3 hpc hpd
      go_wp2_with fail
      refine (F13.out _).mono ?_
      rintro e w4 ⟨v4, rfl, ho4, hb4⟩
      obtain ⟨A4, c4, rfl, hr4, hn4, hc4⟩ := ho4.form2
      have HB4 := Lib.hid (HB3.out.trans (hb4.mono HB3.out.size))
      have HX4 := Lib.hid (HX3.out.below hb4 HX3.out.lt)
      have HY4 := Lib.hid (HY3.out.below hb4 HY3.out.lt)
      have F11 := Lib.hid (of_any A4 c4 pc w4 hr4 hn4 hc4 (by have := HL.out; omega) (HV.out.below HB4.out))
      unfold OfSaid at F11
      rw [HO.out] at F11
      clear ho4 hb4 hr4 hn4 hc4 hxc3 hxz3
      unfold ChkSaid at F15 F15d
      generalize hkc : chk ⟨k, a, b, x, v, n⟩ = kc at *
      generalize hkd : chk ⟨k', a', b', x', v', n'⟩ = kd at *
      generalize pc.length = lc at *
      clear hkc hkd
      by_cases h0 : kc = 0
      · rw [if_pos h0] at F11
        subst h0
        go_wp2_with fail
        refine F11.out.mono ?_
        rintro e w5 ⟨rfl, hb5⟩
        have HB5 := Lib.hid ((HB4.out.trans (hb5.mono HB4.out.size)).alloc (Nat.le_trans HB4.out.size hb5.size) (.cells #[.int .i64 k, .string a, .string b, .string x, .string v, .int .i64 n] 23))
        have hx5 := (HX4.out.below hb5 HX4.out.lt).alloc (.cells #[.int .i64 k, .string a, .string b, .string x, .string v, .int .i64 n] 23)
        have HX5 := Lib.hid hx5
        have HY5 := Lib.hid ((HY4.out.below hb5 HY4.out.lt).alloc (.cells #[.int .i64 k, .string a, .string b, .string x, .string v, .int .i64 n] 23))
        have HZ5 := Lib.hid (Blk.new w5 23 #[.int .i64 k, .string a, .string b, .string x, .string v, .int .i64 n])
        have hxc5 := (HX4.out.below hb5 HX4.out.lt).cell
        have hxz5 := (HX4.out.below hb5 HX4.out.lt).lt
        clear hb5 hx5
        go_wp2_with fail
        clear hxc5 hxz5
        generalize hW : w5.alloc (.cells #[.int .i64 k, .string a, .string b, .string x, .string v, .int .i64 n] 23) = W at *
        clear hW
        generalize w5.heap.size = g5 at *
        refine (F15.out _ (HV.out.below HB5.out)).mono ?_
        rintro e w6 ⟨rfl, hb6⟩
        have HB6 := Lib.hid (HB5.out.trans (hb6.mono HB5.out.size))
        have HX6 := Lib.hid (HX5.out.below hb6 HX5.out.lt)
        have HY6 := Lib.hid (HY5.out.below hb6 HY5.out.lt)
        have HZ6 := Lib.hid (HZ5.out.below hb6 HZ5.out.lt)
        clear hb6
        go_wp2_with fail
        refine wp_region_held_drew (S := fun W' => ((∀ i, W'.cell? ⟨w.heap.size, i, none⟩ = (#[.int .i64 k, .string a, .string b, .string x, .string v, .int .i64 n] : Array Value)[i]?) ∧ (∀ i, W'.cell? ⟨w.heap.size + 1, i, none⟩ = (#[.int .i64 k', .string a', .string b', .string x', .string v', .int .i64 n'] : Array Value)[i]?) ∧ (∀ i, W'.cell? ⟨g5, i, none⟩ = (#[.int .i64 k, .string a, .string b, .string x, .string v, .int .i64 n] : Array Value)[i]?))) (by kernel_rfl) ⟨HX6.out.cell, HY6.out.cell, HZ6.out.cell⟩ (fun hHeld => ?_)
        refine held_take (i := 0) (d := some 28) (v := .int .i64 0) rfl rfl (by kernel_rfl) (by kernel_rfl) (by kernel_rfl) (fun _ _ _ h => h) (Or.inl ⟨by kernel_rfl, ?_⟩) hHeld ?_
        · intro w' hSw
          (try dsimp only at hSw)
          go_simp
        (try dsimp only [Act.put])
        refine held_take (i := 1) (d := some 29) (v := .bool true) rfl rfl (by kernel_rfl) (by kernel_rfl) (by kernel_rfl) (fun _ _ _ h => h) (Or.inl ⟨by kernel_rfl, ?_⟩) hHeld ?_
        · intro w' hSw
          (try dsimp only at hSw)
          go_simp
        (try dsimp only [Act.put])
        refine held_take (i := 2) (d := some 30) (v := .bool true) rfl rfl (by kernel_rfl) (by kernel_rfl) (by kernel_rfl) (fun _ _ _ h => h) (Or.inl ⟨by kernel_rfl, ?_⟩) hHeld ?_
        · intro w' hSw
          (try dsimp only at hSw)
          go_simp
        (try dsimp only [Act.put])
        refine held_take (i := 3) (d := some 31) (v := .agg #[.int .i64 k, .string a, .string b, .string x, .string v, .int .i64 n]) rfl rfl (by kernel_rfl) (by kernel_rfl) (by kernel_rfl) (fun _ _ _ h => h) (Or.inl ⟨by kernel_rfl, ?_⟩) hHeld ?_
        · intro w' hSw
          (try dsimp only at hSw)
          go_simp
        (try dsimp only [Act.put])
        refine held_take (i := 4) (d := some 32) (v := .agg #[.int .i64 k, .string a, .string b, .string x, .string v, .int .i64 n]) rfl rfl (by kernel_rfl) (by kernel_rfl) (by kernel_rfl) (fun _ _ _ h => h) (Or.inl ⟨by kernel_rfl, ?_⟩) hHeld ?_
        · intro w' hSw
          (try dsimp only at hSw)
          go_simp
        (try dsimp only [Act.put])
        refine held_take (i := 5) (d := some 33) (v := .bool true) rfl rfl (by kernel_rfl) (by kernel_rfl) (by kernel_rfl) (fun _ _ _ h => h) (Or.inl ⟨by kernel_rfl, ?_⟩) hHeld ?_
        · intro w' hSw
          (try dsimp only at hSw)
          go_simp
        (try dsimp only [Act.put])
        refine held_take (i := 6) (d := some 34) (v := .bool true) rfl rfl (by kernel_rfl) (by kernel_rfl) (by kernel_rfl) (fun _ _ _ h => h) (Or.inl ⟨by kernel_rfl, ?_⟩) hHeld ?_
        · intro w' hSw
          (try dsimp only at hSw)
          go_simp
        (try dsimp only [Act.put])
        refine held_take (i := 7) (d := some 35) (v := .bool true) rfl rfl (by kernel_rfl) (by kernel_rfl) (by kernel_rfl) (fun _ _ _ h => h) (Or.inl ⟨by kernel_rfl, ?_⟩) hHeld ?_
        · intro w' hSw
          (try dsimp only at hSw)
          go_simp
        (try dsimp only [Act.put])
        refine held_take (i := 8) (d := some 36) (v := .agg #[.int .i64 k', .string a', .string b', .string x', .string v', .int .i64 n']) rfl rfl (by kernel_rfl) (by kernel_rfl) (by kernel_rfl) (fun _ _ _ h => h) (Or.inl ⟨by kernel_rfl, ?_⟩) hHeld ?_
        · intro w' hSw
          (try dsimp only at hSw)
          go_simp
        (try dsimp only [Act.put])
        refine wpAnyH_ready (rs := [9]) (by kernel_rfl) (by simp) ?_
        refine AllReadyH.cons (o := _) rfl (fun K hK => ?_) AllReadyH.nil
        go_simp
        go_at_call 15
        refine (F15d.out _ (HV.out.below HB6.out.drew)).mono ?_
        rintro e w7 ⟨rfl, hbd7⟩
        have hb7 : Below w6.heap.size w6 w7 := (by first | exact hbd7 | exact undrew hbd7)
        have HB7 := Lib.hid (HB6.out.trans (hb7.mono HB6.out.size))
        have HX7 := Lib.hid (HX6.out.below hb7 HX6.out.lt)
        have HY7 := Lib.hid (HY6.out.below hb7 HY6.out.lt)
        have HZ7 := Lib.hid (HZ6.out.below hb7 HZ6.out.lt)
        clear hb7 hbd7
        (try go_simp)
        refine hK.out _ _ ?_ (fun hHeld => ?_)
        · exact ⟨HX7.out.cell, HY7.out.cell, HZ7.out.cell⟩
        clear hK K
        (try dsimp only [Act.put])
        by_cases hd0 : kd = 0
        · have q : (kd != 0) = false := by simp [hd0]
          have hI := HI.out (by first | rfl | trivial) hd0
          have hI2 := Lib.hid hI
          generalize cmdEq ⟨k, a, b, x, v, n⟩ ⟨k', a', b', x', v', n'⟩ = eqb at *
          clear hd0 hI
          refine held_take (i := 10) (d := some 38) (v := .bool false) rfl rfl (by kernel_rfl) (by kernel_rfl) (by kernel_rfl) (fun _ _ _ h => h) (Or.inl ⟨by kernel_rfl, ?_⟩) hHeld ?_
          · intro w' hSw
            (try dsimp only at hSw)
            go_simp
          (try dsimp only [Act.put])
          refine held_take (i := 11) (d := some 39) (v := .bool false) rfl rfl (by kernel_rfl) (by kernel_rfl) (by kernel_rfl) (fun _ _ _ h => h) (Or.inl ⟨by kernel_rfl, ?_⟩) hHeld ?_
          · intro w' hSw
            (try dsimp only at hSw)
            go_simp
          (try dsimp only [Act.put])
          refine held_take (i := 12) (d := some 40) (v := .agg #[.int .i64 k, .string a, .string b, .string x, .string v, .int .i64 n]) rfl rfl (by kernel_rfl) (by kernel_rfl) (by kernel_rfl) (fun _ _ _ h => h) (Or.inl ⟨by kernel_rfl, ?_⟩) hHeld ?_
          · intro w' hSw
            (try dsimp only at hSw)
            go_simp
          (try dsimp only [Act.put])
          refine held_take (i := 15) (d := some 43) (v := .agg #[.int .i64 k', .string a', .string b', .string x', .string v', .int .i64 n']) rfl rfl (by kernel_rfl) (by kernel_rfl) (by kernel_rfl) (fun _ _ _ h => h) (Or.inl ⟨by kernel_rfl, ?_⟩) hHeld ?_
          · intro w' hSw
            (try dsimp only at hSw)
            go_simp
          (try dsimp only [Act.put])
          refine held_take (i := 19) (d := some 47) (v := .agg #[.int .i64 k, .string a, .string b, .string x, .string v, .int .i64 n]) rfl rfl (by kernel_rfl) (by kernel_rfl) (by kernel_rfl) (fun _ _ _ h => h) (Or.inl ⟨by kernel_rfl, ?_⟩) hHeld ?_
          · intro w' hSw
            (try dsimp only at hSw)
            go_simp
          (try dsimp only [Act.put])
          refine held_take (i := 20) (d := some 48) (v := .agg #[.int .i64 k', .string a', .string b', .string x', .string v', .int .i64 n']) rfl rfl (by kernel_rfl) (by kernel_rfl) (by kernel_rfl) (fun _ _ _ h => h) (Or.inl ⟨by kernel_rfl, ?_⟩) hHeld ?_
          · intro w' hSw
            (try dsimp only at hSw)
            go_simp
          (try dsimp only [Act.put])
          refine held_take (i := 21) (d := some 49) (v := .bool eqb) rfl rfl (by kernel_rfl) (by kernel_rfl) (by kernel_rfl) (fun _ _ _ h => h) (Or.inl ⟨by kernel_rfl, ?_⟩) hHeld ?_
          · intro w' hSw
            (try dsimp only at hSw)
            (have hq := HE.out; go_simp)
          (try dsimp only [Act.put])
          refine wpAnyH_ready (rs := [13]) (by kernel_rfl) (by simp) ?_
          refine AllReadyH.cons (o := _) rfl (fun K hK => ?_) AllReadyH.nil
          go_simp
          go_at_call 13
          refine (F13.out _).mono ?_
          rintro e w8 ⟨v8, rfl, ho8, hb8⟩
          obtain ⟨A8, c8, rfl, hr8⟩ := ho8.form
          have HB8 := Lib.hid (HB7.out.trans (hb8.mono HB7.out.size))
          have HX8 := Lib.hid (HX7.out.below hb8 HX7.out.lt)
          have HY8 := Lib.hid (HY7.out.below hb8 HY7.out.lt)
          have HZ8 := Lib.hid (HZ7.out.below hb8 HZ7.out.lt)
          have HR8 := Lib.hid hr8
          clear ho8 hb8 hr8
          (try go_simp)
          refine hK.out _ _ ?_ (fun hHeld => ?_)
          · exact ⟨HX8.out.cell, HY8.out.cell, HZ8.out.cell⟩
          clear hK K
          (try dsimp only [Act.put])
          refine held_more (S' := fun W' => ((∀ i, W'.cell? ⟨w.heap.size, i, none⟩ = (#[.int .i64 k, .string a, .string b, .string x, .string v, .int .i64 n] : Array Value)[i]?) ∧ (∀ i, W'.cell? ⟨w.heap.size + 1, i, none⟩ = (#[.int .i64 k', .string a', .string b', .string x', .string v', .int .i64 n'] : Array Value)[i]?) ∧ (∀ i, W'.cell? ⟨g5, i, none⟩ = (#[.int .i64 k, .string a, .string b, .string x, .string v, .int .i64 n] : Array Value)[i]?)) ∧ (convert 24 9 (.slice A8 pc.length c8)).run Tryd.prog W' = .ok (.string ⟨pc.toArray⟩) W') (fun _ h => h.1) _ _ _ _ ?_
          have hHeld := And.intro hHeld (conv_reads HR8.out c8)
          refine held_take (i := 14) (d := some 42) (v := .string ⟨pc.toArray⟩) rfl rfl (by kernel_rfl) (by kernel_rfl) (by kernel_rfl) (fun _ _ _ h => h) (Or.inl ⟨by kernel_rfl, ?_⟩) hHeld ?_
          · intro w' hSw
            (try dsimp only at hSw)
            go_simp
          (try dsimp only [Act.put])
          refine wpAnyH_ready (rs := [16]) (by kernel_rfl) (by simp) ?_
          refine AllReadyH.cons (o := _) rfl (fun K hK => ?_) AllReadyH.nil
          go_simp
          go_at_call 13
          refine (F13d.out _).mono ?_
          rintro e w9 ⟨v9, rfl, ho9, hb9⟩
          obtain ⟨A9, c9, rfl, hr9⟩ := ho9.form
          have HB9 := Lib.hid (HB8.out.trans (hb9.mono HB8.out.size))
          have HX9 := Lib.hid (HX8.out.below hb9 HX8.out.lt)
          have HY9 := Lib.hid (HY8.out.below hb9 HY8.out.lt)
          have HZ9 := Lib.hid (HZ8.out.below hb9 HZ8.out.lt)
          have HR89 := Lib.hid (HR8.out.below hb9)
          have HR9 := Lib.hid hr9
          clear ho9 hb9 hr9
          (try go_simp)
          refine hK.out _ _ ?_ (fun hHeld => ?_)
          · exact ⟨⟨HX9.out.cell, HY9.out.cell, HZ9.out.cell⟩, conv_reads HR89.out c8⟩
          clear hK K
          (try dsimp only [Act.put])
          refine held_more (S' := fun W' => (((∀ i, W'.cell? ⟨w.heap.size, i, none⟩ = (#[.int .i64 k, .string a, .string b, .string x, .string v, .int .i64 n] : Array Value)[i]?) ∧ (∀ i, W'.cell? ⟨w.heap.size + 1, i, none⟩ = (#[.int .i64 k', .string a', .string b', .string x', .string v', .int .i64 n'] : Array Value)[i]?) ∧ (∀ i, W'.cell? ⟨g5, i, none⟩ = (#[.int .i64 k, .string a, .string b, .string x, .string v, .int .i64 n] : Array Value)[i]?)) ∧ (convert 24 9 (.slice A8 pc.length c8)).run Tryd.prog W' = .ok (.string ⟨pc.toArray⟩) W') ∧ (convert 24 9 (.slice A9 pd.length c9)).run Tryd.prog W' = .ok (.string ⟨pd.toArray⟩) W') (fun _ h => h.1) _ _ _ _ ?_
          have hHeld := And.intro hHeld (conv_reads HR9.out c9)
          refine held_take (i := 17) (d := some 45) (v := .string ⟨pd.toArray⟩) rfl rfl (by kernel_rfl) (by kernel_rfl) (by kernel_rfl) (fun _ _ _ h => h) (Or.inl ⟨by kernel_rfl, ?_⟩) hHeld ?_
          · intro w' hSw
            (try dsimp only at hSw)
            go_simp
          (try dsimp only [Act.put])
          refine held_take (i := 18) (d := some 46) (v := .bool eqb) rfl rfl (by kernel_rfl) (by kernel_rfl) (by kernel_rfl) (fun _ _ _ h => h) (Or.inl ⟨by kernel_rfl, ?_⟩) hHeld ?_
          · intro w' hSw
            (try dsimp only at hSw)
            (go_simp; exact hI2.out)
          (try dsimp only [Act.put])
          refine held_take (i := 22) (d := some 50) (v := .bool true) rfl rfl (by kernel_rfl) (by kernel_rfl) (by kernel_rfl) (fun _ _ _ h => h) (Or.inl ⟨by kernel_rfl, ?_⟩) hHeld ?_
          · intro w' hSw
            (try dsimp only at hSw)
            go_simp
          (try dsimp only [Act.put])
          refine held_take (i := 23) (d := some 51) (v := .bool true) rfl rfl (by kernel_rfl) (by kernel_rfl) (by kernel_rfl) (fun _ _ _ h => h) (Or.inl ⟨by kernel_rfl, ?_⟩) hHeld ?_
          · intro w' hSw
            (try dsimp only at hSw)
            go_simp
          (try dsimp only [Act.put])
          refine held_take (i := 24) (d := some 52) (v := .bool true) rfl rfl (by kernel_rfl) (by kernel_rfl) (by kernel_rfl) (fun _ _ _ h => h) (Or.inl ⟨by kernel_rfl, ?_⟩) hHeld ?_
          · intro w' hSw
            (try dsimp only at hSw)
            go_simp
          (try dsimp only [Act.put])
          refine held_take (i := 25) (d := some 4) (v := .bool true) rfl rfl (by kernel_rfl) (by kernel_rfl) (by kernel_rfl) (fun _ _ _ h => h) (Or.inl ⟨by kernel_rfl, ?_⟩) hHeld ?_
          · intro w' hSw
            (try dsimp only at hSw)
            go_simp
          (try dsimp only [Act.put])
          refine wpAnyH_done (by kernel_rfl) ?_ _
          simp only [List.setIfInBounds_toArray, List.set_cons_zero, List.set_cons_succ]
          go_wp2_with fail
          go_ret
          exact ⟨rfl, HB9.out⟩
        · have q : (kd != 0) = true := by simp [hd0]
          refine held_take (i := 10) (d := some 38) (v := .bool true) rfl rfl (by kernel_rfl) (by kernel_rfl) (by kernel_rfl) (fun _ _ _ h => h) (Or.inl ⟨by kernel_rfl, ?_⟩) hHeld ?_
          · intro w' hSw
            (try dsimp only at hSw)
            go_simp
          (try dsimp only [Act.put])
          refine held_take (i := 11) (d := some 39) (v := .bool true) rfl rfl (by kernel_rfl) (by kernel_rfl) (by kernel_rfl) (fun _ _ _ h => h) (Or.inl ⟨by kernel_rfl, ?_⟩) hHeld ?_
          · intro w' hSw
            (try dsimp only at hSw)
            go_simp
          (try dsimp only [Act.put])
          refine held_take (i := 12) (d := some 40) (v := undef) rfl rfl (by kernel_rfl) (by kernel_rfl) (by kernel_rfl) (fun _ _ _ h => h) (Or.inr ⟨by kernel_rfl, rfl⟩) hHeld ?_
          (try dsimp only [Act.put])
          refine held_take (i := 13) (d := some 41) (v := undef) rfl rfl (by kernel_rfl) (by kernel_rfl) (by kernel_rfl) (fun _ _ _ h => h) (Or.inr ⟨by kernel_rfl, rfl⟩) hHeld ?_
          (try dsimp only [Act.put])
          refine held_take (i := 14) (d := some 42) (v := undef) rfl rfl (by kernel_rfl) (by kernel_rfl) (by kernel_rfl) (fun _ _ _ h => h) (Or.inr ⟨by kernel_rfl, rfl⟩) hHeld ?_
          (try dsimp only [Act.put])
          refine held_take (i := 15) (d := some 43) (v := undef) rfl rfl (by kernel_rfl) (by kernel_rfl) (by kernel_rfl) (fun _ _ _ h => h) (Or.inr ⟨by kernel_rfl, rfl⟩) hHeld ?_
          (try dsimp only [Act.put])
          refine held_take (i := 16) (d := some 44) (v := undef) rfl rfl (by kernel_rfl) (by kernel_rfl) (by kernel_rfl) (fun _ _ _ h => h) (Or.inr ⟨by kernel_rfl, rfl⟩) hHeld ?_
          (try dsimp only [Act.put])
          refine held_take (i := 17) (d := some 45) (v := undef) rfl rfl (by kernel_rfl) (by kernel_rfl) (by kernel_rfl) (fun _ _ _ h => h) (Or.inr ⟨by kernel_rfl, rfl⟩) hHeld ?_
          (try dsimp only [Act.put])
          refine held_take (i := 18) (d := some 46) (v := undef) rfl rfl (by kernel_rfl) (by kernel_rfl) (by kernel_rfl) (fun _ _ _ h => h) (Or.inr ⟨by kernel_rfl, rfl⟩) hHeld ?_
          (try dsimp only [Act.put])
          refine held_take (i := 19) (d := some 47) (v := undef) rfl rfl (by kernel_rfl) (by kernel_rfl) (by kernel_rfl) (fun _ _ _ h => h) (Or.inr ⟨by kernel_rfl, rfl⟩) hHeld ?_
          (try dsimp only [Act.put])
          refine held_take (i := 20) (d := some 48) (v := undef) rfl rfl (by kernel_rfl) (by kernel_rfl) (by kernel_rfl) (fun _ _ _ h => h) (Or.inr ⟨by kernel_rfl, rfl⟩) hHeld ?_
          (try dsimp only [Act.put])
          refine held_take (i := 21) (d := some 49) (v := undef) rfl rfl (by kernel_rfl) (by kernel_rfl) (by kernel_rfl) (fun _ _ _ h => h) (Or.inr ⟨by kernel_rfl, rfl⟩) hHeld ?_
          (try dsimp only [Act.put])
          refine held_take (i := 22) (d := some 50) (v := undef) rfl rfl (by kernel_rfl) (by kernel_rfl) (by kernel_rfl) (fun _ _ _ h => h) (Or.inr ⟨by kernel_rfl, rfl⟩) hHeld ?_
          (try dsimp only [Act.put])
          refine held_take (i := 23) (d := some 51) (v := .bool true) rfl rfl (by kernel_rfl) (by kernel_rfl) (by kernel_rfl) (fun _ _ _ h => h) (Or.inl ⟨by kernel_rfl, ?_⟩) hHeld ?_
          · intro w' hSw
            (try dsimp only at hSw)
            go_simp
          (try dsimp only [Act.put])
          refine held_take (i := 24) (d := some 52) (v := .bool true) rfl rfl (by kernel_rfl) (by kernel_rfl) (by kernel_rfl) (fun _ _ _ h => h) (Or.inl ⟨by kernel_rfl, ?_⟩) hHeld ?_
          · intro w' hSw
            (try dsimp only at hSw)
            go_simp
          (try dsimp only [Act.put])
          refine held_take (i := 25) (d := some 4) (v := .bool true) rfl rfl (by kernel_rfl) (by kernel_rfl) (by kernel_rfl) (fun _ _ _ h => h) (Or.inl ⟨by kernel_rfl, ?_⟩) hHeld ?_
          · intro w' hSw
            (try dsimp only at hSw)
            go_simp
          (try dsimp only [Act.put])
          refine wpAnyH_done (by kernel_rfl) ?_ _
          simp only [List.setIfInBounds_toArray, List.set_cons_zero, List.set_cons_succ]
          go_wp2_with fail
          go_ret
          exact ⟨rfl, HB7.out⟩
      · rw [if_neg h0] at F11
        have q : (kc != 0) = true := by simp [h0]
        have H0 := Lib.hid h0
        clear h0
        go_wp2_with fail
        refine F11.out.mono ?_
        rintro e w5 ⟨rfl, hb5⟩
        have HB5 := Lib.hid (HB4.out.trans (hb5.mono HB4.out.size))
        have hx5 := HX4.out.below hb5 HX4.out.lt
        have hxc5 := hx5.cell
        have hxz5 := hx5.lt
        clear hb5 hx5
        go_wp2_with fail
        refine (F15.out _ (HV.out.below (HB5.out.alloc HB5.out.size _))).mono ?_
        rintro e w6 ⟨rfl, hb6⟩
        have HB6 := Lib.hid ((HB5.out.alloc HB5.out.size (.cells zcells 23)).trans (hb6.mono (by simp; have := HB5.out.size; omega)))
        clear hb6
        go_wp2_with fail
        go_ret
        exact ⟨rfl, HB6.out⟩
end Go.Proofs.YtpgchdjfeklobaaDoor
