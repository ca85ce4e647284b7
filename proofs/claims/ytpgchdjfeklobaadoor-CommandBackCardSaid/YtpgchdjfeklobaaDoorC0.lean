/-
  Words for the walks of Check.
-/
import Derived.Test.YtpgchdjfeklobaaDoorNamed
namespace Go.Proofs.YtpgchdjfeklobaaDoor
open Go.RowKit

def ChkSaid (c : CmdD) (w : World) (e : Ending) (w' : World) : Prop := e = .returned (.int .i64 (chk c)) ∧ Below w.heap.size w w'
theorem chk_bad {c : CmdD} (h : zeroOk c = false) : chk c = 160 := by unfold chk; rw [h, Bool.and_false]; rfl
theorem chk_ok {c : CmdD} (h1 : kindOk c.kind = true) (h : zeroOk c = true) : chk c = firstE (errsOf c) := by unfold chk; rw [h, h1]; rfl
theorem firstE_one (x : Int) : firstE [x] = x := by simp only [firstE]; split <;> simp_all
theorem below_box' {w w1 : World} (o : Obj) (h : w.heap.size ≤ w1.heap.size) : Below w.heap.size w1 (w1.alloc o) := (Below.refl _ _).alloc h _
theorem reads_new (W : World) (T : TypeId) (xs : List Value) : Reads (W.alloc (.cells xs.toArray T)) (W.heap.size + 1) 1 (some ⟨W.heap.size, 0, none⟩) xs.length xs :=
  ⟨by simp, fun _ => ⟨_, rfl, by simp, fun j u hj => by
    have : (⟨W.heap.size, 0, none⟩ : Addr).add j = ⟨W.heap.size, j, none⟩ := by unfold Addr.add; split <;> simp_all
    rw [this, World.cell?_alloc_new]
    simpa using hj⟩⟩
theorem bcell {W w1 : World} (hb : Below W.heap.size W w1) : (∀ b o, b < W.heap.size → w1.cell? ⟨b, o, none⟩ = W.cell? ⟨b, o, none⟩) ∧ (∀ b o, b < W.heap.size → w1.frozen? ⟨b, o, none⟩ = W.frozen? ⟨b, o, none⟩) :=
  ⟨fun b o h => hb.cell (p := ⟨b, o, none⟩) h, fun b o h => hb.frozen (p := ⟨b, o, none⟩) h⟩
theorem scan_errs (k v : ByteArray) (n : Int) : firstE [whenE (decide ((k.size : Int) < 0 ∨ 40 < (k.size : Int))) 100, whenE (decide ((v.size : Int) < 0 ∨ 40 < (v.size : Int))) 100, whenE (decide (n < 0 ∨ 9223372036854775807 < n)) 1] =
    if n ≤ 9223372036854775807 then firstE [whenE (decide (40 < k.size ∨ 40 < v.size)) 100, whenE (decide (n < 0)) 1] else firstE [whenE (decide ((k.size : Int) < 0 ∨ 40 < (k.size : Int))) 100, whenE (decide ((v.size : Int) < 0 ∨ 40 < (v.size : Int))) 100, whenE (decide (n < 0 ∨ 9223372036854775807 < n)) 1] := by
  split
  · have e1 : decide ((k.size : Int) < 0 ∨ 40 < (k.size : Int)) = decide (40 < k.size) := by simp only [decide_eq_decide]; omega
    have e2 : decide ((v.size : Int) < 0 ∨ 40 < (v.size : Int)) = decide (40 < v.size) := by simp only [decide_eq_decide]; omega
    have e3 : decide (n < 0 ∨ 9223372036854775807 < n) = decide (n < 0) := by simp only [decide_eq_decide]; omega
    rw [e1, e2, e3]
    by_cases h1 : 40 < k.size <;> by_cases h2 : 40 < v.size <;> by_cases h3 : n < 0 <;> simp [firstE, whenE, h1, h2, h3]
  · rfl
theorem most_n {n : Int} (h : n ≤ 9223372036854775807) : decide (n < 0 ∨ 9223372036854775807 < n) = decide (n < 0) := by simp only [decide_eq_decide]; omega
def withinE (n most e : Int) : Int := whenE (decide (n < 0 ∨ most < n)) e
theorem within_e (n most e : Int) (w : World) : Calls Tryd.prog 51 #[.int .i64 n, .int .i64 most, .int .i64 e] w fun r w' => r = .returned (.int .i64 (withinE n most e)) ∧ w = w' := within_any n most e w
theorem scan_errs' {k v : ByteArray} {n : Int} (h : n ≤ 9223372036854775807) : firstE [whenE (decide (40 < k.size ∨ 40 < v.size)) 100, whenE (decide (n < 0)) 1] = firstE [withinE (k.size : Int) 40 100, withinE (v.size : Int) 40 100, withinE n 9223372036854775807 1] := by
  unfold withinE
  rw [scan_errs, if_pos h]
theorem log_e {n : Int} (h : n ≤ 9223372036854775807) : whenE (decide (n < 0)) 1 = withinE n 9223372036854775807 1 := by
  unfold withinE
  rw [most_n h]
theorem settle_e (n : Int) (v : ByteArray) : decide (n ≠ 0 ∧ v.size ≠ 0) = !(decide (n = 0) || decide (v.toList = [])) := by
  by_cases h1 : n = 0 <;> by_cases h2 : v.size = 0 <;> simp [empty_iff, h1, h2]
end Go.Proofs.YtpgchdjfeklobaaDoor
