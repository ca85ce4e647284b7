/-
  Plain: what a command must be.
-/
import Derived.Test.YtpgchdjfeklobaaDoorRef
namespace Go.Proofs.YtpgchdjfeklobaaDoor

/-- Whether a text is a ref. -/
def refB (s : ByteArray) : Bool :=
  nameOk s || (decide (0 < valL s.data.toList.tail) && (decide (valL s.data.toList.tail < 18446744073709551616) && decide (s.data.toList = 64 :: Lib.decDigits (valL s.data.toList.tail))))
theorem RefSaid.isRef {s a : ByteArray} {n : Nat} {b : Bool} (h : RefSaid s a n b) : b = refB s := by
  unfold refB
  rcases h with ⟨h1, _, _, rfl⟩ | ⟨h1, _, h2⟩
  · rw [h1]; rfl
  · rw [h1, Bool.false_or]
    rcases h2 with ⟨rfl, p, q, e⟩ | ⟨rfl, _, e⟩
    · have hv : valL s.data.toList.tail = n := by rw [e]; exact val_dec n
      rw [hv]
      simp [p, q, e]
    · symm
      rw [Bool.and_eq_false_imp]
      intro p
      rw [Bool.and_eq_false_imp]
      intro q
      rw [decide_eq_false_iff_not]
      exact e _ (by simpa using p) (by simpa using q)
def needE (s : ByteArray) (empty : Bool) : Int := if refB s || (empty && decide (s.size = 0)) then 0 else 111
def nameE (s : ByteArray) : Int := whenE (!nameOk s) 110
def textE (s : ByteArray) : Int := whenE (!textOk s) 121
/-- What a kind of command names, and whether there is one. -/
structure Uses where
  name : Bool
  other : Bool
  key : Bool
  val : Bool
  n : Bool
def usesOf (k : Int) : Uses :=
  if k = 1 then ⟨false, false, true, true, false⟩
  else if k = 2 ∨ k = 3 then ⟨false, false, true, false, false⟩
  else if k = 4 ∨ k = 12 then ⟨false, false, true, true, true⟩
  else if k = 5 then ⟨false, false, false, true, false⟩
  else if k = 6 ∨ k = 7 ∨ k = 16 ∨ k = 18 then ⟨true, true, false, false, false⟩
  else if k = 8 ∨ k = 9 then ⟨true, false, false, false, false⟩
  else if k = 10 ∨ k = 14 ∨ k = 15 then ⟨false, true, false, false, false⟩
  else if k = 11 ∨ k = 17 then ⟨false, true, false, false, true⟩
  else ⟨false, false, false, false, false⟩
def kindOk (k : Int) : Bool := decide (1 ≤ k ∧ k ≤ 20)
def zeroOk (c : CmdD) : Bool :=
  ((usesOf c.kind).name || decide (c.name.size = 0)) && (((usesOf c.kind).other || decide (c.other.size = 0)) && (((usesOf c.kind).key || decide (c.key.size = 0)) &&
    (((usesOf c.kind).val || decide (c.val.size = 0)) && ((usesOf c.kind).n || decide (c.n = 0)))))
def errsOf (c : CmdD) : List Int :=
  if c.kind = 1 then [keyE c.key, valE c.val]
  else if c.kind = 2 ∨ c.kind = 3 then [keyE c.key]
  else if c.kind = 4 then [whenE (decide (40 < c.key.size ∨ 40 < c.val.size)) 100, whenE (decide (c.n < 0)) 1]
  else if c.kind = 5 then [textE c.val]
  else if c.kind = 6 ∨ c.kind = 7 then [nameE c.name, needE c.other true]
  else if c.kind = 8 ∨ c.kind = 9 then [nameE c.name]
  else if c.kind = 10 ∨ c.kind = 14 ∨ c.kind = 15 then [needE c.other false]
  else if c.kind = 11 then [needE c.other false, whenE (decide (c.n < 0 ∨ 2 < c.n)) 137]
  else if c.kind = 12 then [keyE c.key, whenE (decide (c.n < 0 ∨ 3 < c.n)) 137, valE c.val, whenE (decide (c.n ≠ 0 ∧ c.val.size ≠ 0)) 160]
  else if c.kind = 16 ∨ c.kind = 18 then [needE c.name true, needE c.other true]
  else if c.kind = 17 then [needE c.other true, whenE (decide (c.n < 0)) 1]
  else []
/-- What is wrong with a command; 0: nothing. -/
def chk (c : CmdD) : Int := if kindOk c.kind && zeroOk c then firstE (errsOf c) else 160
end Go.Proofs.YtpgchdjfeklobaaDoor
