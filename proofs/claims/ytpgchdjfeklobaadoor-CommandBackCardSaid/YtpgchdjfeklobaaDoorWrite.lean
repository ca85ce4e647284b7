/-
  Walks of the program's writer: leb.Put, Num, Text, Bytes, slices.Clone, command.Put.
-/
import Derived.Test.YtpgchdjfeklobaaDoorPut
namespace Go.Proofs.YtpgchdjfeklobaaDoor
open Go.RowKit

theorem or128' : ∀ x : Fin 128, bits .or .u8 ((x.val : Nat) : Int) 128 = ((x.val + 128 : Nat) : Int) := by decide +kernel
theorem or128 {n : Nat} : bits .or .u8 ((n : Int) % 128) 128 = ((UInt8.ofNat (n % 128 + 128)).toNat : Int) := by
  have h := or128' ⟨n % 128, by omega⟩
  have e : (((n % 128 : Nat) : Nat) : Int) = (n : Int) % 128 := by omega
  simp only [e] at h
  rw [h, toNat_ofNat (by omega)]
abbrev numV (n : Nat) : Value := .int .u64 (n : Int)

theorem eql24 (A : Option Addr) (m cap : Nat) (W : World) : (binOp .eql 24 (.slice A m cap) (.slice none 0 0)).run Tryd.prog W = .ok (.bool A.isNone) W := by
  unfold binOp
  simp [run_equal_slice_nil W 24 5 A m cap Tryd.underlying24]
theorem own_empty (w : World) : (w.alloc (.cells #[] 5)).ownsRow w.heap.size 5 1 (.slice (some ⟨w.heap.size, 0, none⟩) 0 0) 0 [] :=
  ⟨rfl, .inr ⟨w.heap.size, 0, #[], rfl, Nat.le_refl _, heap_alloc_new w _, Nat.le_refl _, by unfold maxLen; omega, rfl, rfl⟩⟩

set_option maxRecDepth 100000 in
set_option maxHeartbeats 1000000 in
theorem clone_any (A : Option Addr) (cap : Nat) (bs : List UInt8) (w : World) (h : Reads w w.heap.size 1 A bs.length (cellsB bs)) (hn : A = none → bs.length = 0 ∧ cap = 0) (hl : bs.length ≤ 4294967296) :
    Calls Tryd.prog 77 #[.slice A bs.length cap] w fun e w' => ∃ v', e = .returned v' ∧ Own w' w.heap.size v' bs ∧ Below w.heap.size w w' := by
  cases A with
  | none =>
    obtain ⟨e0, e1⟩ := hn rfl
    have e2 : bs = [] := List.eq_nil_of_length_eq_zero e0
    subst e2
    subst e1
    clear h hl hn e0
    have hq := eql24 none 0 0
    simp only [Option.isNone_none] at hq
    go_enter Tryd.func77, Tryd.ntmps77
    go_wp2
    go_ret
    exact ⟨_, rfl, Own.nil _ _, Below.refl _ _⟩
  | some ad =>
    clear hn
    have H := Lib.hid h
    generalize hm : bs.length = m at *
    have HM := Lib.hid hm
    clear hm h
    have hq := eql24 (some ad) m cap
    simp only [Option.isNone_some] at hq
    obtain ⟨i, hi, hz, h1, h2⟩ := info5'
    have HI := Lib.hid (And.intro hi (And.intro hz (And.intro h1 h2)))
    clear hi hz h1 h2
    go_enter Tryd.func77, Tryd.ntmps77
    go_wp2_with (at_builtin; refine wpList_append_any _ rfl _ _ 24 rfl w.heap.size 5 i _ 1 1 Tryd.underlying24 HI.out.1 HI.out.2.1 HI.out.2.2.1 HI.out.2.2.2 rfl (by decide) _ 0 [] rfl (own_empty w) w.heap.size (some ad) m cap (cellsB bs) rfl (H.out.alloc (Nat.le_refl _) _) (cellsB_one _) (by unfold maxLen; omega) (by omega) (by simp) ?_; intro v1 w1 ho1 hg1 _; have HO1 := Lib.hid ho1; have HG1 := Lib.hid hg1; clear ho1 hg1)
    go_ret
    refine ⟨_, rfl, ?_, ?_⟩
    · unfold Own
      rw [HM.out]
      simpa using HO1.out
    · exact ((Below.refl _ _).alloc (Nat.le_refl _) _).trans ((Below.refl _ _).grown HG1.out (by simp) (fun k e => by cases e; exact Nat.le_refl _))

set_option maxRecDepth 100000 in
set_option maxHeartbeats 1000000 in
theorem lebput_any (A : Option Addr) (cap : Nat) (bs : List UInt8) (B : Option Addr) (cb : Nat) (ns : List Nat) (w : World) (h : Reads w w.heap.size 1 A bs.length (cellsB bs)) (hl : bs.length ≤ 1000000000)
    (hB : Reads w w.heap.size 1 B ns.length (ns.map numV)) (hns : ns.length ≤ 1000000) (hn : ∀ n ∈ ns, n < 18446744073709551616) :
    Calls Tryd.prog 90 #[.slice A bs.length cap, .slice B ns.length cb] w fun e w' => ∃ v', e = .returned v' ∧ Own w' w.heap.size v' (bs ++ ns.flatMap lebB) ∧ Below w.heap.size w w' := by
  have H := Lib.hid h
  have HB := Lib.hid hB
  have HNS := Lib.hid hn
  clear h hB hn
  generalize hm : bs.length = m at *
  generalize hq : ns.length = q at *
  have HM := Lib.hid hm
  have HQ := Lib.hid hq
  clear hm hq
  obtain ⟨i, hi, hz, h1, h2⟩ := info5'
  go_enter Tryd.func90, Tryd.ntmps90
  go_wp2_with (at_builtin; refine wpList_append_any _ rfl _ _ 24 rfl w.heap.size 5 i _ 1 1 Tryd.underlying24 hi hz h1 h2 rfl (by decide) _ 0 [] rfl (World.ownsRow_nil _ _ _ _) w.heap.size A m cap (cellsB bs) rfl H.out (cellsB_one _) (by unfold maxLen; omega) (by omega) (Nat.le_refl _) ?_; intro v1 w1 ho1 hg1 _)
  have ho1' : Own w1 w.heap.size v1 bs := by unfold Own; rw [HM.out]; simpa using ho1
  have hg1' : w.grownBy w1 none := hg1
  have hb1 : Below w.heap.size w w1 := (Below.refl _ _).grown hg1' (Nat.le_refl _) (fun k e => by cases e)
  have HO1 := Lib.hid ho1'
  have HB1 := Lib.hid hb1
  have HL10 := fun (j : Nat) => show ((ns.take j).flatMap lebB).length ≤ 10 * q by
    have : ∀ l : List Nat, (∀ n ∈ l, n < 18446744073709551616) → (l.flatMap lebB).length ≤ 10 * l.length := by
      intro l
      induction l with
      | nil => simp
      | cons x l ih =>
        intro hx
        have h1 := lebB_len10 (hx x (by simp))
        have h2 := ih (fun n hn => hx n (List.mem_cons_of_mem _ hn))
        rw [List.flatMap_cons, List.length_append, List.length_cons]
        omega
    have h3 := this (ns.take j) (fun n hn => HNS.out n (List.mem_of_mem_take hn))
    rw [List.length_take, HQ.out] at h3
    omega
  have HLN := Lib.hid HL10
  clear ho1 hg1 hg1' ho1' hb1 HL10 hi hz h1 h2
  go_loopw [5, 7, 12] (fun s5 _ i W => ∃ k : Nat, k ≤ q ∧ i = .int .i64 k ∧ Own W w.heap.size s5 (bs ++ (ns.take k).flatMap lebB) ∧ Below w.heap.size w W) (fun _ _ i _ => q - (intOf i).toNat)
  case atStart => exact ⟨0, Nat.zero_le _, rfl, by simpa using HO1.out, HB1.out⟩
  case round =>
    obtain ⟨k, hk, rfl, ho, hb⟩ := hrel
    have HO := Lib.hid ho
    have HBW := Lib.hid hb
    by_cases hlt : k < q
    · obtain ⟨n, hnk⟩ : ∃ n, ns[k]? = some n := ⟨_, List.getElem?_eq_getElem (by rw [HQ.out]; exact hlt)⟩
      have hnb := HNS.out n (List.mem_of_getElem? hnk)
      obtain ⟨ad, u, rfl, had, hu, hcu⟩ := (HB.out.below hb).at_ hlt
      rw [List.getElem?_map, hnk] at hu
      simp only [Option.map_some, Option.some.injEq] at hu
      subst hu
      have HNK := Lib.hid hnk
      clear ho hb hnk
      go_wp2_with fail
      go_loopw [5, 7] (fun s5 s7 W => ∃ (m' : Nat) (cs : List UInt8), s7 = .int .u64 m' ∧ m' < 18446744073709551616 ∧ cs ++ lebB m' = (bs ++ (ns.take k).flatMap lebB) ++ lebB n ∧ Own W w.heap.size s5 cs ∧ Below w.heap.size w W) (fun _ s7 _ => (intOf s7).toNat)
      case atStart => exact ⟨n, _, rfl, hnb, rfl, HO.out, HBW.out⟩
      case round =>
        obtain ⟨m', cs, rfl, hm', he, ho', hb'⟩ := hrel
        have hlc : cs.length ≤ 4294967296 := by
          have h1 := congrArg List.length he
          simp only [List.length_append] at h1
          have h2 := HLN.out k
          have h3 := lebB_len10 hnb
          have h4 := HM.out
          omega
        have HE := Lib.hid he
        have HO' := Lib.hid ho'
        have HB' := Lib.hid hb'
        have hsz := hb'.size
        clear he ho' hb'
        by_cases hlt' : 128 ≤ m'
        · have e1 : lebB m' = UInt8.ofNat (m' % 128 + 128) :: lebB (m' / 128) := lebB_big hlt'
          have E1 := Lib.hid e1
          clear e1
          go_wp2_with (at_builtin; refine wpB_new wr _ rfl _ _ rfl w.heap.size _ cs rfl HO'.out (UInt8.ofNat (m' % 128 + 128)) rfl or128 hlc hsz ?_; intro v' w' ho2 hs2; have HO2 := Lib.hid ho2; have HS2 := Lib.hid hs2; clear ho2 hs2)
          go_roundw
          case rel => exact ⟨m' / 128, cs ++ [UInt8.ofNat (m' % 128 + 128)], by go_num, by omega, by rw [List.append_assoc, ← HE.out, E1.out]; rfl, HO2.out, HB'.out.trans (HS2.out.below HO'.out hsz)⟩
          case measure => simp [intOf]; omega
        · have e1 : lebB m' = [UInt8.ofNat m'] := lebB_small (by omega)
          have E1 := Lib.hid e1
          have hx := u8_small (n := m') (by omega)
          have HX := Lib.hid hx
          clear e1 hx
          go_wp2_with (at_builtin; refine wpB_new wr _ rfl _ _ rfl w.heap.size _ cs rfl HO'.out (UInt8.ofNat m') rfl (by rw [HX.out]) hlc hsz ?_; intro v' w' ho2 hs2; have HO2 := Lib.hid ho2; have HS2 := Lib.hid hs2; clear ho2 hs2)
          go_roundw
          case rel =>
            refine ⟨k + 1, by omega, by go_num, ?_, HB'.out.trans (HS2.out.below HO'.out hsz)⟩
            have e2 : (ns.take (k + 1)).flatMap lebB = (ns.take k).flatMap lebB ++ lebB n := by rw [List.take_add_one, HNK.out]; simp
            rw [e2, ← List.append_assoc, ← HE.out, E1.out]
            exact HO2.out
          case measure => simp [intOf]; omega
    · have e1 : ns.take k = ns := by rw [List.take_of_length_le]; rw [HQ.out]; omega
      rw [e1] at ho
      have HOE := Lib.hid ho
      clear ho hb e1
      go_wp2_with fail
      go_ret
      exact ⟨_, rfl, HOE.out, HBW.out⟩
end Go.Proofs.YtpgchdjfeklobaaDoor
