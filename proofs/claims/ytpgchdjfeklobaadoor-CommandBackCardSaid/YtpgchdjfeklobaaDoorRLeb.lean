/-
  Walk: a number that bytes begin with, in the reference.
-/
import Derived.Test.YtpgchdjfeklobaaDoorRead
namespace Go.Proofs.YtpgchdjfeklobaaDoor
open Go.RowKit

/-- What stands between two bytes: what is read so far is what stands ahead. -/
structure LebAt (bs : List UInt8) (k acc : Nat) : Prop where
  few : k ≤ 9
  lt : acc < 128 ^ k
  go : lebOf bs = lebGo (bs.drop k) k acc
  ahead : ∀ m : Nat, (0 < m ∨ k = 0) → lebB (acc + m * 128 ^ k) = bs.take k ++ lebB m
theorem lebAt_zero (bs : List UInt8) : LebAt bs 0 0 := ⟨by omega, by simp, rfl, fun m _ => by simp⟩
theorem LebAt.bad {bs : List UInt8} {k acc y : Nat} (h : LebAt bs k acc) (hk : k < bs.length) (hy : (bs[k]).toNat = y) (h9 : k = 9 ∧ 1 < y) : lebOf bs = none := by
  rw [h.go, List.drop_eq_getElem_cons hk]
  unfold lebGo
  rw [hy, if_pos (.inr h9)]
theorem LebAt.next {bs : List UInt8} {k acc y : Nat} (h : LebAt bs k acc) (hk : k < bs.length) (hy : (bs[k]).toNat = y) (h9 : ¬ (k = 9 ∧ 1 < y)) (hb : 128 ≤ y) : LebAt bs (k + 1) (acc + y % 128 * 128 ^ k) := by
  have hfew := h.few
  have hyl := (bs[k]).toNat_lt
  refine ⟨by omega, acc_lt h.lt, ?_, fun m hm => ?_⟩
  · rw [h.go, List.drop_eq_getElem_cons hk]
    conv => lhs; unfold lebGo
    rw [hy, if_neg (by omega), if_neg (by omega)]
  · have hm0 : 0 < m := by omega
    have e1 : acc + y % 128 * 128 ^ k + m * 128 ^ (k + 1) = acc + (y % 128 + m * 128) * 128 ^ k := by
      rw [Nat.add_mul, Nat.pow_succ, Nat.mul_comm (128 ^ k) 128, Nat.mul_assoc]; omega
    have e2 : lebB (y % 128 + m * 128) = UInt8.ofNat y :: lebB m := by
      rw [lebB_big (by omega)]
      have a1 : (y % 128 + m * 128) % 128 + 128 = y := by omega
      have a2 : (y % 128 + m * 128) / 128 = m := by omega
      rw [a1, a2]
    rw [e1, h.ahead _ (.inl (by omega)), e2, List.take_succ_eq_append_getElem hk, ← hy, UInt8.ofNat_toNat, List.append_assoc]
    rfl
theorem LebAt.end_ {bs : List UInt8} {k acc y : Nat} (h : LebAt bs k acc) (hk : k < bs.length) (hy : (bs[k]).toNat = y) (h9 : ¬ (k = 9 ∧ 1 < y)) (hb : y < 128) :
    lebOf bs = if lebB (acc + y % 128 * 128 ^ k) = bs.take (k + 1) then some (acc + y % 128 * 128 ^ k, k + 1) else none := by
  have hfew := h.few
  rw [h.go, List.drop_eq_getElem_cons hk]
  unfold lebGo
  rw [hy, if_neg (by omega), if_pos hb]
  by_cases hz : y = 0 ∧ 0 < k
  · rw [if_pos hz, if_neg]
    intro e
    have h1 := lebB_len k acc h.lt hz.2
    have e2 : acc + y % 128 * 128 ^ k = acc := by rw [hz.1]; simp
    rw [e2] at e
    rw [e, List.length_take] at h1
    omega
  · rw [if_neg hz, if_pos]
    rw [Nat.mod_eq_of_lt hb, h.ahead y (by omega), lebB_small hb, List.take_succ_eq_append_getElem hk, ← hy, UInt8.ofNat_toNat]
theorem LebAt.out {bs : List UInt8} {k acc : Nat} (h : LebAt bs k acc) (hk : ¬ k < bs.length) : lebOf bs = none := by
  rw [h.go, List.drop_eq_nil_of_le (by omega)]
  rfl

theorem slice_hi_i (W : World) (A : Option Addr) (n cap k : Nat) (hk : k ≤ cap) : (Instr.sliceAt 24 (.slice A n cap) none (some (.int .i64 (k : Int))) none).run Tryd.prog W = .ok (.slice A k cap) W := by
  have h1 : (0 : Int) ≤ (k : Int) := by omega
  have h2 : (k : Int) ≤ (cap : Int) := by omega
  obtain ⟨i0, hi, hz0, hz1, hz2⟩ := info5'
  simp [Instr.sliceAt, Instr.slice, run_underlying Tryd.underlying24, Instr.sliceBounds, run_sliceBound, h1, h2, sizeOf, typeInfo, hi, Result.andThen]
  try (intro h; cases A with
    | none => rfl
    | some a => simp [Addr.add])
theorem mul_add_in {acc y k : Nat} (ha : acc < 128 ^ k) (hk : k ≤ 9) (h9 : k = 9 → y ≤ 1) : y % 128 * 128 ^ k < 18446744073709551616 ∧ acc + y % 128 * 128 ^ k < 18446744073709551616 := by
  rcases Nat.lt_or_ge k 9 with h | h
  · have hp8 : 128 ^ k ≤ 128 ^ 8 := Nat.pow_le_pow_right (by omega) (by omega)
    have : y % 128 * 128 ^ k ≤ 127 * 128 ^ 8 := Nat.mul_le_mul (by omega) hp8
    omega
  · have hk9 : k = 9 := by omega
    subst hk9
    have : y % 128 * 128 ^ 9 ≤ 1 * 128 ^ 9 := Nat.mul_le_mul (by have := h9 rfl; omega) (Nat.le_refl _)
    omega

set_option maxRecDepth 100000 in
set_option maxHeartbeats 2000000 in
theorem rleb_any (A : Option Addr) (cap : Nat) (bs : List UInt8) (w : World) (h : Reads w w.heap.size 1 A bs.length (cellsB bs)) (hcap : bs.length ≤ cap) :
    Calls Tryd.prog 82 #[.slice A bs.length cap] w fun e w' => e = .returned (.tuple #[numV (lebV (lebOf bs)).1, .int .i64 (lebV (lebOf bs)).2.1, .int .i64 (lebV (lebOf bs)).2.2]) ∧ Below w.heap.size w w' := by
  have H := Lib.hid h
  clear h
  generalize hm : bs.length = m at *
  have HM := Lib.hid hm
  clear hm
  go_enter Tryd.func82, Tryd.ntmps82
  go_wp2
  go_loop [5, 6, 7, 8] (fun s5 s6 i _ => ∃ k acc un : Nat, i = .int .i64 k ∧ s5 = .int .u64 acc ∧ s6 = .int .u64 un ∧ un = 128 ^ k ∧ LebAt bs k acc) (fun _ _ i _ => 10 - (intOf i).toNat)
  case atStart => exact ⟨0, 0, 1, rfl, rfl, rfl, rfl, lebAt_zero bs⟩
  case round =>
    obtain ⟨k, acc, un, rfl, rfl, rfl, hun, hLA⟩ := hrel
    have hk9 := hLA.few
    have HLA := Lib.hid hLA
    by_cases hlt : k < m
    · obtain ⟨ad, u, rfl, _, hu, hc⟩ := H.out.at_ hlt
      have hlb : k < bs.length := by rw [HM.out]; exact hlt
      have hu' : u = byteV (bs[k]) := by
        unfold cellsB at hu
        rw [List.getElem?_map, List.getElem?_eq_getElem hlb] at hu
        simpa using hu.symm
      subst hu'
      have hc' : w.cell? (ad.add k) = some (.int .u8 ((bs[k]).toNat : Int)) := hc
      clear hc hu
      have hy := (bs[k]).toNat_lt
      generalize hyy : (bs[k]).toNat = y at *
      have HY := Lib.hid hyy
      clear hyy
      by_cases hA : k = 9 ∧ 1 < y
      · have E1 := Lib.hid (hLA.bad hlb HY.out hA)
        have q9 : ((k : Int) == 9) = true := by simp [hA.1]
        have hy1 := hA.2
        clear hA hLA hun
        go_wp2
        refine bodyPost_ret (v := .tuple #[numV 0, .int .i64 0, .int .i64 20]) (by simp [results, Tryd.results82, go_sem]) rfl ⟨by rw [E1.out]; rfl, Below.refl _ _⟩
      · obtain ⟨z1, z2⟩ := mul_add_in (y := y) hLA.lt hLA.few (fun h => by omega)
        obtain ⟨z, hz⟩ : ∃ z, z = y % 128 * 128 ^ k := ⟨_, rfl⟩
        have q1 : IntKind.u64.wrap ((y : Int) % 128 * (un : Int)) = (z : Int) := by
          have e1 : (y : Int) % 128 * (un : Int) = (z : Int) := by rw [hz, hun]; push_cast; rfl
          rw [e1, IntKind.wrap_u64]; omega
        obtain ⟨un2, q3, hu2⟩ : ∃ un2 : Nat, IntKind.u64.wrap ((un : Int) * 128) = (un2 : Int) ∧ (k ≤ 8 → un2 = 128 ^ (k + 1)) := by
          refine ⟨((un : Int) * 128 % 18446744073709551616).toNat, by rw [IntKind.wrap_u64]; omega, fun h8 => ?_⟩
          have hp8 : 128 ^ k ≤ 128 ^ 8 := Nat.pow_le_pow_right (by omega) (by omega)
          rw [Nat.pow_succ, ← hun]
          omega
        rw [← hz] at z1 z2
        have HZ := Lib.hid hz
        have q9 : k = 9 → ¬ (1 : Int) < (y : Int) := by omega
        by_cases hC : y < 128
        · have E1 := Lib.hid (hLA.end_ hlb HY.out hA hC)
          clear hA hLA hun hu2 hz HY hlb
          have hq9 : ((k : Int) == 9) = true ∧ ¬ (1 : Int) < (y : Int) ∨ ((k : Int) == 9) = false := by
            by_cases h : k = 9
            · exact .inl ⟨by simp [h], q9 h⟩
            · exact .inr (by simp; omega)
          clear q9
          rcases hq9 with ⟨q1', q2'⟩ | q1'
          all_goals
            go_upto_region 11 with fail
            rw [← Int.natCast_add]
            have E2 := E1.out
            rw [← HZ.out] at E2
            have E3 := Lib.hid E2
            clear E2 q1
            generalize acc + z = nn at *
            have hr0 := (H.out.front (k := k + 1) (by omega))
            have HR0 := Lib.hid H.out
            have hS : ∀ W', Reads W' w.heap.size 1 (some ad) m (cellsB bs) → (convert 24 9 (.slice (some ad) (k + 1) cap)).run Tryd.prog W' = .ok (.string ⟨(bs.take (k + 1)).toArray⟩) W' := by
              intro W' hW'
              have h1 := hW'.front (k := k + 1) (by omega)
              have h2 : (bs.take (k + 1)).length = k + 1 := by rw [List.length_take, HM.out]; omega
              generalize bs.take (k + 1) = tk at h1 h2 ⊢
              rw [← h2] at h1 ⊢
              exact conv_reads h1 cap
            have hsh := fun W => slice_hi_i W (some ad) m cap (k + 1) (by omega)
            rw [Int.natCast_add, Int.natCast_one] at hsh
            have s3 : IntKind.i64.wrap ((k : Int) + 1) = (k : Int) + 1 := IntWalk.i64_in _ (by omega)
            have HS := Lib.hid hS
            clear hS hr0
            have cv0 := HS.out _ HR0.out
            have cv0d := HS.out _ HR0.out.drew
            clear hsh
            have hsh := fun W => slice_hi_i W (some ad) m cap (k + 1) (by omega)
            rw [Int.natCast_add, Int.natCast_one] at hsh
            go_region_with (go_at_call 44; refine (rnum_any nn w.heap.size (.slice none 0 0) [] _ z2 (by simp) (by simp) (Own.nil _ _)).mono ?_; rintro e w1 ⟨v1, rfl, ho1, hs1⟩; obtain ⟨A1, c1, rfl, hr1⟩ := ho1.form; have hR1 := Reads.grown (by exact HR0.out) hs1.grown (by simp) (fun g e => by cases e); have cv2 := HS.out _ hR1; have cv1 := conv_reads hr1 c1; rw [List.nil_append] at cv1; have HG1 := Lib.hid hs1; clear ho1 hs1 hR1)
            go_wp2
            all_goals first
              | (rename_i hne
                 have hne' : ¬ lebB nn = bs.take (k + 1) := by simpa using hne
                 have E4 := E3.out
                 rw [if_neg hne'] at E4
                 refine bodyPost_ret (v := .tuple #[numV 0, .int .i64 0, .int .i64 20]) (by simp [results, Tryd.results82, go_sem]) rfl ⟨by rw [E4]; rfl, ?_⟩
                 first
                   | exact (Below.refl _ _).grown HG1.out.grown (Nat.le_refl _) (fun g e => by cases e)
                   | exact Below.trans (Below.drew (Below.refl _ _)) ((Below.refl _ _).grown HG1.out.grown (Nat.le_refl _) (fun g e => by cases e)))
              | (rename_i hne
                 have hne' : lebB nn = bs.take (k + 1) := by simpa using hne
                 have E4 := E3.out
                 rw [if_pos hne'] at E4
                 refine bodyPost_ret (v := .tuple #[numV nn, .int .i64 ((k : Int) + 1), .int .i64 0]) (by simp [results, Tryd.results82, go_sem]) rfl ⟨by rw [E4]; rfl, ?_⟩
                 first
                   | exact (Below.refl _ _).grown HG1.out.grown (Nat.le_refl _) (fun g e => by cases e)
                   | exact Below.trans (Below.drew (Below.refl _ _)) ((Below.refl _ _).grown HG1.out.grown (Nat.le_refl _) (fun g e => by cases e)))
        · have hk8 : k ≤ 8 := by omega
          have q9' : ((k : Int) == 9) = false := by simp; omega
          have HN := Lib.hid (hLA.next hlb HY.out hA (by omega))
          have HU := Lib.hid (hu2 hk8)
          clear hA hLA hun hu2 hz HY hlb q9
          go_wp2
          go_round
          case rel => exact ⟨k + 1, acc + z, un2, by go_num, by go_num, rfl, HU.out, by rw [HZ.out]; exact HN.out⟩
          case measure => simp [intOf]; omega
    · have E1 := Lib.hid (hLA.out (by rw [HM.out]; exact hlt))
      clear hLA hun
      go_wp2
      refine bodyPost_ret (v := .tuple #[numV 0, .int .i64 0, .int .i64 20]) (by simp [results, Tryd.results82, go_sem]) rfl ⟨by rw [E1.out]; rfl, Below.refl _ _⟩
end Go.Proofs.YtpgchdjfeklobaaDoor
