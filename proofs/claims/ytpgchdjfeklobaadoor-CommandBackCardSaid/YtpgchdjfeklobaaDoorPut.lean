/-
  Walks of the reference's Num, Text and Put, and of the program's.
-/
import Derived.Test.YtpgchdjfeklobaaDoorBytes
namespace Go.Proofs.YtpgchdjfeklobaaDoor
open Go.RowKit

theorem lebB_len : ∀ (k n : Nat), n < 128 ^ k → 0 < k → (lebB n).length ≤ k
  | 0, _, _, h => absurd h (by omega)
  | k + 1, n, hn, _ => by
    rcases Nat.lt_or_ge n 128 with h | h
    · rw [lebB_small h]; simp
    · rw [lebB_big h, List.length_cons]
      have hk : 0 < k := by
        rcases Nat.eq_zero_or_pos k with rfl | h0
        · simp at hn; omega
        · exact h0
      have := lebB_len k (n / 128) (by rw [Nat.pow_succ] at hn; exact Nat.div_lt_of_lt_mul (by omega)) hk
      omega
theorem lebB_len10 {n : Nat} (h : n < 18446744073709551616) : (lebB n).length ≤ 10 := lebB_len 10 n (by omega) (by omega)
theorem u8_small {n : Nat} (h : n < 128) : ((UInt8.ofNat n).toNat : Int) = n := by rw [toNat_ofNat (by omega)]
theorem u8_more (n : Nat) : ((UInt8.ofNat (n % 128 + 128)).toNat : Int) = (n : Int) % 128 + 128 := by rw [toNat_ofNat (by omega)]; omega

section
variable {ops : Array Oper} {rest : List Oper} {o : Oper} {a : Act} {Q : Exit → Act → World → Prop}
theorem wpB_new (w0 : World) (X : Int) (hgd : o.guard = none) (s x : Operand) (ho : o.op = .call { callee := .builtin .append, args := #[s, x], argTypes := #[24, 24] }) (base : Nat) (v : Value) (bs : List UInt8) (hs : a.eval s = v)
    (hown : Own w0 base v bs) (b : UInt8) (hx : a.eval x = .slice (some ⟨w0.heap.size, 0, none⟩) 1 1) (hX : X = (b.toNat : Int)) (hl : bs.length ≤ 4294967296) (hbase : base ≤ w0.heap.size)
    (h : ∀ v' w', Own w' base v' (bs ++ [b]) → Step w0 w' v v' → wpList Tryd.prog ops Q rest (a.put o.dst v') w') : wpList Tryd.prog ops Q (o :: rest) a (w0.alloc (.cells #[.int .u8 X] 5)) :=
  wpB_one _ hgd s x ho base v bs hs (hown.alloc _) w0.heap.size X b hx (by simp) hX hl (by simp; omega) fun v' w' h1 h2 => h v' w' h1 ((Step.alloc _ _ _).trans h2)
end

set_option maxRecDepth 100000 in
set_option maxHeartbeats 1000000 in
theorem rnum_any (n : Nat) (base : Nat) (v : Value) (bs : List UInt8) (w : World) (hn : n < 18446744073709551616) (hl : bs.length ≤ 4294967000) (hb : base ≤ w.heap.size) (h : Own w base v bs) :
    Calls Tryd.prog 44 #[v, .int .u64 n] w fun e w' => ∃ v', e = .returned v' ∧ Own w' base v' (bs ++ lebB n) ∧ Step w w' v v' := by
  have hl10 := lebB_len10 hn
  have H := Lib.hid h
  have HB := Lib.hid hb
  have HL := Lib.hid (And.intro hl hl10)
  clear h hb hl hl10
  go_enter Tryd.func44, Tryd.ntmps44
  go_wp2
  go_loopw [0, 1] (fun s0 s1 W => ∃ (m : Nat) (cs : List UInt8), s1 = .int .u64 m ∧ m < 18446744073709551616 ∧ cs ++ lebB m = bs ++ lebB n ∧ Own W base s0 cs ∧ Step w W v s0) (fun _ s1 _ => (intOf s1).toNat)
  case atStart => exact ⟨n, bs, rfl, hn, rfl, H.out, Step.refl _ _⟩
  case round =>
    obtain ⟨m, cs, rfl, hm, he, ho, hs⟩ := hrel
    have HE := Lib.hid he
    have HO := Lib.hid ho
    have HS := Lib.hid hs
    have hlc : cs.length ≤ 4294967296 := by
      have := congrArg List.length he
      simp only [List.length_append] at this
      have := HL.out
      omega
    have hsz : base ≤ wr.heap.size := Nat.le_trans HB.out hs.grown.size
    clear he ho hs
    by_cases hlt : 128 ≤ m
    · have e1 : lebB m = UInt8.ofNat (m % 128 + 128) :: lebB (m / 128) := lebB_big hlt
      have E1 := Lib.hid e1
      have hx := u8_more m
      have HX := Lib.hid hx
      clear e1 hx
      go_wp2_with (at_builtin; refine wpB_new wr _ rfl _ _ rfl base _ cs rfl HO.out (UInt8.ofNat (m % 128 + 128)) rfl (by rw [HX.out]) hlc hsz ?_; intro v' w' ho' hs'; have HO' := Lib.hid ho'; have HS' := Lib.hid hs'; clear ho' hs')
      go_roundw
      case rel => exact ⟨m / 128, cs ++ [UInt8.ofNat (m % 128 + 128)], by go_num, by omega, by rw [List.append_assoc, ← HE.out, E1.out]; rfl, HO'.out, HS.out.trans HS'.out⟩
      case measure => simp [intOf]; omega
    · have e1 : lebB m = [UInt8.ofNat m] := lebB_small (by omega)
      have E1 := Lib.hid e1
      have hx := u8_small (n := m) (by omega)
      have HX := Lib.hid hx
      clear e1 hx
      go_wp2_with (at_builtin; refine wpB_new wr _ rfl _ _ rfl base _ cs rfl HO.out (UInt8.ofNat m) rfl (by rw [HX.out]) hlc hsz ?_; intro v' w' ho' hs'; have HO' := Lib.hid ho'; have HS' := Lib.hid hs'; clear ho' hs')
      go_ret
      exact ⟨_, rfl, by rw [← HE.out, E1.out]; exact HO'.out, HS.out.trans HS'.out⟩

def textB (s : ByteArray) : List UInt8 := lebB s.size ++ s.data.toList
theorem textB_len {s : ByteArray} (h : s.size < 18446744073709551616) : (textB s).length ≤ s.size + 10 := by
  have := lebB_len10 h
  unfold textB
  rw [List.length_append]
  simp
  omega
set_option maxRecDepth 100000 in
set_option maxHeartbeats 1000000 in
theorem rtext_any (s : ByteArray) (base : Nat) (v : Value) (bs : List UInt8) (w : World) (hs : s.size ≤ 1000000) (hl : bs.length ≤ 1000000000) (hb : base ≤ w.heap.size) (h : Own w base v bs) :
    Calls Tryd.prog 45 #[v, .string s] w fun e w' => ∃ v', e = .returned v' ∧ Own w' base v' (bs ++ textB s) ∧ Step w w' v v' := by
  have HB := Lib.hid hb
  have HL := Lib.hid hl
  have HO := Lib.hid h
  clear h hb hl
  go_enter Tryd.func45, Tryd.ntmps45
  go_wp2_with (first
    | (go_at_call 44; refine (rnum_any s.size base v bs w (by omega) (by have := HL.out; omega) HB.out HO.out).mono ?_; rintro e w1 ⟨v1, rfl, ho1, hs1⟩; have HO1 := Lib.hid ho1; have HS1 := Lib.hid hs1; clear ho1 hs1)
    | (at_builtin; refine wpB_str _ rfl _ _ rfl base _ (bs ++ lebB s.size) rfl HO1.out s rfl (by have := HL.out; have := lebB_len10 (n := s.size) (by omega); simp; omega) (by omega) (Nat.le_trans HB.out HS1.out.grown.size) ?_; intro v2 w2 ho2 hs2; have HO2 := Lib.hid ho2; have HS2 := Lib.hid hs2; clear ho2 hs2))
  go_ret
  exact ⟨_, rfl, by unfold textB; rw [← List.append_assoc]; exact HO2.out, HS1.out.trans HS2.out⟩

structure CmdD where
  kind : Int
  name : ByteArray
  other : ByteArray
  key : ByteArray
  val : ByteArray
  n : Int
abbrev CmdD.cells (c : CmdD) : Array Value := #[.int .i64 c.kind, .string c.name, .string c.other, .string c.key, .string c.val, .int .i64 c.n]
abbrev CmdD.texts (c : CmdD) : List ByteArray := [c.name, c.other, c.key, c.val]
/-- A command's bytes. -/
def putB (c : CmdD) : List UInt8 := lebB (c.kind % 18446744073709551616).toNat ++ (c.texts.flatMap textB ++ lebB (zigI c.n).toNat)
/-- What fits in memory, with room. -/
structure CmdD.Small (c : CmdD) : Prop where
  k0 : -9223372036854775808 ≤ c.kind
  k1 : c.kind ≤ 9223372036854775807
  n0 : -9223372036854775808 ≤ c.n
  n1 : c.n ≤ 9223372036854775807
  txt : ∀ s ∈ c.texts, s.size ≤ 1000000

theorem texts_len : ∀ {l : List ByteArray}, (∀ s ∈ l, s.size ≤ 1000000) → (l.flatMap textB).length ≤ l.length * 1000010
  | [], _ => by simp
  | x :: l, h => by
    have h1 := textB_len (s := x) (by have := h x (by simp); omega)
    have h2 := texts_len (l := l) (fun s hs => h s (List.mem_cons_of_mem _ hs))
    have h3 := h x (by simp)
    rw [List.flatMap_cons, List.length_append, List.length_cons]
    omega
theorem take_texts {l : List ByteArray} {k : Nat} {s : ByteArray} (h : l[k]? = some s) : (l.take (k + 1)).flatMap textB = (l.take k).flatMap textB ++ textB s := by
  rw [List.take_add_one, h]
  simp

set_option maxRecDepth 100000 in
set_option maxHeartbeats 1000000 in
theorem rput_any (c : CmdD) (w : World) (hc : c.Small) : Calls Tryd.prog 14 #[.agg c.cells] w fun e w' => ∃ v', e = .returned v' ∧ Own w' w.heap.size v' (putB c) ∧ Below w.heap.size w w' := by
  obtain ⟨k0, k1, n0, n1, ht⟩ := hc
  have HT := Lib.hid ht
  clear ht
  obtain ⟨m, hm, hm1⟩ : ∃ m : Nat, IntKind.u64.wrap c.kind = m ∧ m < 18446744073709551616 := ⟨(c.kind % 18446744073709551616).toNat, by rw [IntKind.wrap_u64]; omega, by omega⟩
  go_enter Tryd.func14, Tryd.ntmps14
  have hbx := Blk.new w 23 c.cells
  have HBX := Lib.hid hbx
  clear hbx
  go_wp2_with (go_at_call 44; refine (rnum_any m (w.heap.size + 1) (.slice none 0 0) [] _ hm1 (by simp) (by simp) (Own.nil _ _)).mono ?_; rintro e w1 ⟨v1, rfl, ho1, hs1⟩; have HO1 := Lib.hid ho1; have HS1 := Lib.hid hs1; have hx1 := HBX.out.grown hs1.grown (by simp [Value.ownBlock]); have HX1 := Lib.hid hx1; have hx1c := hx1.cell; have hz1 := hx1.lt; clear ho1 hs1 hx1)
  have hb2 := Blk.new w1 9 #[.string c.name, .string c.other, .string c.key, .string c.val]
  have HB2 := Lib.hid hb2
  have ho2 := HO1.out.alloc (.cells #[.string c.name, .string c.other, .string c.key, .string c.val] 9)
  have HO2 := Lib.hid ho2
  clear hb2 ho2
  have HM := Lib.hid (lebB_len10 hm1)
  go_loopw [3, 5, 20] (fun s3 _ i W => ∃ k : Nat, k ≤ 4 ∧ i = .int .i64 k ∧ Own W (w.heap.size + 1) s3 (lebB m ++ (c.texts.take k).flatMap textB) ∧ Step (w1.alloc (.cells #[.string c.name, .string c.other, .string c.key, .string c.val] 9)) W v1 s3) (fun _ _ i _ => 4 - (intOf i).toNat)
  case atStart => exact ⟨0, by omega, rfl, by simpa using HO2.out, Step.refl _ _⟩
  case round =>
    obtain ⟨k, hk, rfl, ho, hst⟩ := hrel
    have hbw := HB2.out.grown hst.grown (fun e => own_blk_ne HO2.out HB2.out (by decide) e.symm)
    have hsz := hst.grown.size
    have hxw := (HX1.out.alloc (.cells #[.string c.name, .string c.other, .string c.key, .string c.val] 9)).grown hst.grown (fun e => by have := (HO2.out.lt _ e.symm).1; omega)
    have HXW := Lib.hid hxw
    have HO := Lib.hid ho
    have HS := Lib.hid hst
    by_cases hlt : k < 4
    · obtain ⟨s, hs⟩ : ∃ s, c.texts[k]? = some s := ⟨_, List.getElem?_eq_getElem (by simpa using hlt)⟩
      have hss := HT.out s (List.mem_of_getElem? hs)
      have hck : wr.cell? ⟨w1.heap.size, k, none⟩ = some (.string s) := by
        rw [hbw.cell]
        have : (#[Value.string c.name, .string c.other, .string c.key, .string c.val] : Array Value) = (c.texts.map Value.string).toArray := rfl
        rw [this, List.getElem?_toArray, List.getElem?_map, hs]
        rfl
      have hlen : (lebB m ++ (c.texts.take k).flatMap textB).length ≤ 1000000000 := by
        have h1 := HM.out
        have h2 := texts_len (l := c.texts.take k) (fun x hx => HT.out x (List.mem_of_mem_take hx))
        rw [List.length_take] at h2
        rw [List.length_append]
        simp only [List.length_cons, List.length_nil] at h2
        omega
      have HSS := Lib.hid hs
      have hszw : w.heap.size + 1 ≤ wr.heap.size := by rw [World.size_alloc] at hsz; omega
      clear hs hbw hxw ho hst
      go_wp2_with (go_at_call 45; refine (rtext_any s (w.heap.size + 1) _ _ wr hss hlen hszw HO.out).mono ?_; rintro e w3 ⟨v3, rfl, ho3, hs3⟩; have HO3 := Lib.hid ho3; have HS3 := Lib.hid hs3; clear ho3 hs3)
      go_roundw
      case rel => exact ⟨k + 1, by omega, by go_num, by rw [take_texts HSS.out, ← List.append_assoc]; exact HO3.out, HS.out.trans HS3.out⟩
      case measure => simp [intOf]; omega
    · have hk4 : k = 4 := by omega
      subst hk4
      have hxc := hxw.cell
      have hlen : (lebB m ++ (c.texts.take 4).flatMap textB).length ≤ 4294967000 := by
        have h1 := HM.out
        have h2 := texts_len (l := c.texts.take 4) (fun x hx => HT.out x (List.mem_of_mem_take hx))
        rw [List.length_append]
        simp only [List.length_cons, List.length_nil, List.take] at h2 ⊢
        omega
      have hszw : w.heap.size + 1 ≤ wr.heap.size := by rw [World.size_alloc] at hsz; omega
      have hz := zig_bd n0 n1
      obtain ⟨z, hz1, hz2⟩ : ∃ z : Nat, zigI c.n = z ∧ z < 18446744073709551616 := ⟨(zigI c.n).toNat, by omega, by omega⟩
      clear hbw hxw ho hst hz
      go_wp2_with (first
        | (go_at_call 46; refine (rzig_any c.n wr n0 n1).mono ?_; rw [hz1]; rintro e w3 ⟨rfl, rfl⟩)
        | (go_at_call 44; refine (rnum_any z (w.heap.size + 1) _ _ wr hz2 hlen hszw HO.out).mono ?_; rintro e w3 ⟨v3, rfl, ho3, hs3⟩; have HO3 := Lib.hid ho3; have HS3 := Lib.hid hs3; clear ho3 hs3))
      go_ret
      have e1 : (c.kind % 18446744073709551616).toNat = m := by rw [IntKind.wrap_u64] at hm; omega
      have e2 : (zigI c.n).toNat = z := by omega
      refine ⟨_, rfl, ?_, ?_⟩
      · unfold putB
        rw [e1, e2, ← List.append_assoc]
        exact HO3.out.mono (by omega)
      · have hst := ((HS1.out.trans (Step.alloc _ _ _)).trans HS.out).trans HS3.out
        have h1 : Below w.heap.size (w.alloc (.cells c.cells 23)) w3 := (Below.refl _ _).grown hst.grown (by simp) (fun k e => by simp [Value.ownBlock] at e)
        exact ((Below.refl _ _).alloc (Nat.le_refl _) _).trans h1
end Go.Proofs.YtpgchdjfeklobaaDoor
