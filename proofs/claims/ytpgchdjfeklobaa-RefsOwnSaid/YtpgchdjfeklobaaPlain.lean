/-
  Plain lemmas for the table of refs: what a table holds as a list that rises by name, and what making, setting and dropping a ref do to it. No program, no memory.
-/
import Derived.Maps.Views
import Derived.Sort.KeysCollected
import Derived.WideAt
import Derived.WideShapes
import Derived.Lib.Strings
namespace Go.Proofs.Ytpgchdjfeklobaa
open Go.Maps

structure RefD where
  name : ByteArray
  tag : Bool
  id : Int

def RefD.key (r : RefD) : List UInt8 := r.name.data.toList
def zeroR : RefD := ⟨ByteArray.empty, false, 0⟩
def refD (r : RefD) : DataW Unit := .agg [.lit (.string r.key), .lit (.bool r.tag), .lit (.int .u64 r.id)]
def ent (r : RefD) : Lit × DataW Unit := (.string r.key, refD r)
def DM (L : List RefD) : DataW Unit := .map (L.map ent)
def Rising (L : List RefD) : Prop := L.Pairwise (fun a b => bytesBefore a.key b.key = true)

theorem name_key {r : RefD} {s : ByteArray} : r.key = s.data.toList ↔ r.name = s := by
  constructor
  · intro h; exact WideShapes.bytes_inj h
  · rintro rfl; rfl

/-! ### names -/
def okAt (j : Nat) (c : Int) : Bool := decide (97 ≤ c ∧ c ≤ 122) || (decide (0 < j) && (decide (48 ≤ c ∧ c ≤ 57) || decide (c = 45)))
def byteAt (s : ByteArray) (j : Nat) : Int := ((s.data.toList.getD j 0).toNat : Int)
def okTo (s : ByteArray) (k : Nat) : Bool := (List.range k).all fun j => okAt j (byteAt s j)
def nameOk (s : ByteArray) : Bool := decide (1 ≤ s.size ∧ s.size ≤ 20) && okTo s s.size
theorem okTo_succ (s : ByteArray) (k : Nat) : okTo s (k + 1) = (okTo s k && okAt k (byteAt s k)) := by
  unfold okTo; rw [List.range_succ, List.all_append]; simp
theorem okTo_false {s : ByteArray} {k : Nat} (hk : k < s.size) (h : okAt k (byteAt s k) = false) : okTo s s.size = false := by
  unfold okTo; rw [List.all_eq_false]; exact ⟨k, by simpa using hk, by simp [h]⟩
theorem byteAt_get {s : ByteArray} {k : Nat} (h : k < s.size) : byteAt s k = ((s[k]).toNat : Int) := by
  unfold byteAt; rw [List.getD_eq_getElem?_getD, List.getElem?_eq_getElem (by simpa using h)]; rfl
theorem byteAt_bd (s : ByteArray) (k : Nat) : 0 ≤ byteAt s k ∧ byteAt s k ≤ 255 := by
  unfold byteAt; have := (s.data.toList.getD k 0).toNat_lt; omega
theorem nameOk_size {s : ByteArray} (h : nameOk s = true) : s.size ≤ 20 := by
  unfold nameOk at h; simp at h; exact h.1.2

/-! ### what a table does -/
def getL : List RefD → ByteArray → Option RefD
  | [], _ => none
  | x :: l, s => if x.name = s then some x else getL l s
def insL (r : RefD) : List RefD → List RefD
  | [] => [r]
  | x :: l => if bytesBefore x.key r.key = true then x :: insL r l else r :: x :: l
def makeL (L : List RefD) (r : RefD) : Int × List RefD :=
  if nameOk r.name = false then (110, L) else if (getL L r.name).isSome then (112, L) else if 40 ≤ L.length then (4, L) else (0, insL r L)
def setL (L : List RefD) (s : ByteArray) (old id : Int) : Int × List RefD :=
  match getL L s with
  | none => (111, L)
  | some r => if r.tag = true then (114, L) else if r.id ≠ old then (113, L) else (0, L.map fun x => if x.name = s then { x with id := id } else x)
def dropL (L : List RefD) (s : ByteArray) : Int × List RefD :=
  match getL L s with
  | none => (111, L)
  | some _ => (0, L.filter fun x => !decide (x.name = s))

theorem getL_some {L : List RefD} {s : ByteArray} {r : RefD} (h : getL L s = some r) : r ∈ L ∧ r.name = s := by
  induction L with
  | nil => cases h
  | cons x l ih => unfold getL at h; split at h <;> grind
theorem getL_none {L : List RefD} {s : ByteArray} (h : getL L s = none) : ∀ r ∈ L, r.name ≠ s := by
  induction L with
  | nil => simp
  | cons x l ih => unfold getL at h; split at h <;> grind
theorem getL_unique {L : List RefD} {s : ByteArray} {r x : RefD} (hL : Rising L) (h : getL L s = some r) (hx : x ∈ L) (hs : x.name = s) : x = r := by
  induction L with
  | nil => cases hx
  | cons y l ih =>
    unfold Rising at hL
    rw [List.pairwise_cons] at hL
    have key : ∀ z ∈ l, y.name = s → z.name ≠ s := fun z hz e e' => by
      have := hL.1 z hz
      have hk : y.key = z.key := by unfold RefD.key; rw [e, e']
      rw [hk, WideAt.bytes_irrefl] at this
      cases this
    unfold getL at h
    split at h
    · rename_i e
      cases h
      rcases List.mem_cons.1 hx with rfl | hx
      · rfl
      · exact absurd hs (key x hx e)
    · rename_i e
      rcases List.mem_cons.1 hx with rfl | hx
      · exact absurd hs e
      · exact ih hL.2 h hx
theorem mem_insL {r x : RefD} : ∀ {L : List RefD}, x ∈ insL r L ↔ x = r ∨ x ∈ L
  | [] => by simp [insL]
  | y :: l => by unfold insL; split <;> simp [mem_insL (L := l)] <;> grind
theorem length_insL (r : RefD) : ∀ L : List RefD, (insL r L).length = L.length + 1
  | [] => rfl
  | y :: l => by unfold insL; split <;> simp [length_insL r l]
theorem rising_insL {r : RefD} : ∀ {L : List RefD}, Rising L → (∀ x ∈ L, x.key ≠ r.key) → Rising (insL r L)
  | [], _, _ => by simp [insL, Rising]
  | y :: l, h, hn => by
    unfold insL
    unfold Rising at h ⊢
    rw [List.pairwise_cons] at h
    split
    · rename_i hb
      rw [List.pairwise_cons]
      refine ⟨fun a ha => ?_, rising_insL h.2 (fun x hx => hn x (List.mem_cons_of_mem _ hx))⟩
      rcases mem_insL.1 ha with rfl | ha
      · exact hb
      · exact h.1 a ha
    · rename_i hb
      have hry : bytesBefore r.key y.key = true := by
        rcases WideAt.bytes_total _ _ (hn y (by simp)) with h1 | h1
        · exact absurd h1 hb
        · exact h1
      rw [List.pairwise_cons, List.pairwise_cons]
      refine ⟨fun a ha => ?_, h.1, h.2⟩
      rcases List.mem_cons.1 ha with rfl | ha
      · exact hry
      · exact WideShapes.bytes_trans _ _ _ hry (h.1 a ha)
theorem rising_filter {L : List RefD} (h : Rising L) (p : RefD → Bool) : Rising (L.filter p) := h.filter p
theorem rising_map {L : List RefD} (h : Rising L) (f : RefD → RefD) (hf : ∀ r, (f r).name = r.name) : Rising (L.map f) := by
  unfold Rising
  rw [List.pairwise_map]
  refine List.Pairwise.imp (fun {a b} hab => ?_) h
  unfold RefD.key
  rw [hf, hf]
  exact hab

/-- What holds of each table that was made: it rises, its names are names, there are at most 40. -/
structure Good (L : List RefD) : Prop where
  rising : Rising L
  names : ∀ r ∈ L, nameOk r.name = true
  few : L.length ≤ 40
theorem good_nil : Good [] := ⟨List.Pairwise.nil, by simp, by simp⟩
theorem good_make {L : List RefD} (h : Good L) (r : RefD) : Good (makeL L r).2 := by
  unfold makeL
  split
  · exact h
  · split
    · exact h
    · split
      · exact h
      · rename_i h1 h2 h3
        refine ⟨rising_insL h.rising (fun x hx e => ?_), fun x hx => ?_, ?_⟩
        · have := getL_none (by simpa using h2) x hx
          exact this (name_key.1 e)
        · rcases mem_insL.1 hx with rfl | hx
          · simpa using h1
          · exact h.names x hx
        · rw [length_insL]; omega
theorem good_set {L : List RefD} (h : Good L) (s : ByteArray) (old id : Int) : Good (setL L s old id).2 := by
  unfold setL
  split
  · exact h
  · split
    · exact h
    · split
      · exact h
      · refine ⟨rising_map h.rising _ (fun r => by split <;> rfl), fun x hx => ?_, by simpa using h.few⟩
        obtain ⟨y, hy, rfl⟩ := List.mem_map.1 hx
        split <;> exact h.names y hy
theorem good_drop {L : List RefD} (h : Good L) (s : ByteArray) : Good (dropL L s).2 := by
  unfold dropL
  split
  · exact h
  · exact ⟨rising_filter h.rising _, fun x hx => h.names x (List.mem_filter.1 hx).1, Nat.le_trans (List.length_filter_le _ _) h.few⟩

/-! ### the map's side -/
theorem sameKey_string (a b : List UInt8) : (Lit.string a).sameKey (.string b) = decide (a = b) := by
  simp only [Lit.sameKey]
  by_cases h : a = b <;> simp [h]
theorem has_DM (L : List RefD) (s : ByteArray) : Maps.has (DM L) (.string s.data.toList) = (getL L s).isSome := by
  induction L with
  | nil => rfl
  | cons x l ih =>
    have h1 : Maps.has (DM (x :: l)) (.string s.data.toList) = (decide (x.key = s.data.toList) || Maps.has (DM l) (.string s.data.toList)) := by
      simp [DM, Maps.has, ent, sameKey_string]
    rw [h1, ih]
    by_cases e : x.name = s
    · simp [getL, e, name_key.2 e]
    · simp [getL, e, mt name_key.1 e]
theorem at_DM (L : List RefD) (s : ByteArray) (z : DataW Unit) : (DM L).atKey (.string s.data.toList) z = ((getL L s).map refD).getD z := by
  induction L with
  | nil => rfl
  | cons x l ih =>
    unfold getL
    by_cases e : x.name = s
    · simp [DM, DataW.atKey, ent, sameKey_string, e, name_key.2 e]
    · have h1 : (DM (x :: l)).atKey (.string s.data.toList) z = (DM l).atKey (.string s.data.toList) z := by
        simp [DM, DataW.atKey, ent, sameKey_string, mt name_key.1 e]
      rw [h1, ih]
      simp [e]
theorem size_DM (L : List RefD) : Maps.size (DM L) = L.length := by simp [DM, Maps.size]
theorem keys_DM (L : List RefD) : strKeys (DM L) = L.map RefD.key := by
  simp only [strKeys, DM, List.map_map]
  rfl
theorem del_DM (L : List RefD) (s : ByteArray) : (DM L).del (.string s.data.toList) = DM (L.filter fun x => !decide (x.name = s)) := by
  unfold DM DataW.del
  simp only [List.filter_map]
  congr 2
  apply List.filter_congr
  intro x _
  simp only [Function.comp, ent, sameKey_string]
  by_cases e : x.name = s
  · simp [e, name_key.2 e]
  · simp [e, mt name_key.1 e]
theorem insert_ent {r : RefD} : ∀ {L : List RefD}, (∀ x ∈ L, x.key ≠ r.key) → DataW.insert (ent r) (L.map ent) = (insL r L).map ent
  | [], _ => rfl
  | y :: l, hn => by
    have hne := hn y (by simp)
    unfold insL
    simp only [List.map_cons]
    unfold DataW.insert
    by_cases hb : bytesBefore y.key r.key = true
    · have h2 : bytesBefore r.key y.key = false := by
        cases h3 : bytesBefore r.key y.key
        · rfl
        · have := WideShapes.bytes_trans _ _ _ hb h3
          rw [WideAt.bytes_irrefl] at this
          cases this
      have h3 : (ent r).1.before (ent y).1 = false := h2
      rw [if_neg (by rw [h3]; decide), if_pos hb, insert_ent (fun x hx => hn x (List.mem_cons_of_mem _ hx))]
      rfl
    · have h2 : bytesBefore r.key y.key = true := by
        rcases WideAt.bytes_total _ _ hne with h1 | h1
        · exact absurd h1 hb
        · exact h1
      have h3 : (ent r).1.before (ent y).1 = true := h2
      rw [if_pos h3, if_neg hb]
      rfl
theorem put_new {L : List RefD} {r : RefD} (h : getL L r.name = none) : (DM L).put (.string r.key) (refD r) = DM (insL r L) := by
  have hn := getL_none h
  have hk : ∀ x ∈ L, x.key ≠ r.key := fun x hx e => hn x hx (name_key.1 e)
  unfold DM DataW.put
  have hf : (L.map ent).filter (fun p => !p.1.sameKey (.string r.key)) = L.map ent := by
    rw [List.filter_eq_self]
    intro p hp
    obtain ⟨x, hx, rfl⟩ := List.mem_map.1 hp
    simp [ent, sameKey_string, hk x hx]
  simp only [hf]
  exact congrArg _ (insert_ent (r := r) hk)
theorem filter_map_insL {r : RefD} {s : ByteArray} (hr : r.name = s) : ∀ {L : List RefD}, Rising L → (∃ x ∈ L, x.name = s) →
    insL r (L.filter fun x => !decide (x.name = s)) = L.map fun x => if x.name = s then r else x
  | [], _, h => by obtain ⟨x, hx, _⟩ := h; cases hx
  | y :: l, hL, h => by
    unfold Rising at hL
    rw [List.pairwise_cons] at hL
    by_cases e : y.name = s
    · have hrest : ∀ x ∈ l, x.name ≠ s := fun x hx e' => by
        have := hL.1 x hx
        have hk : y.key = x.key := by unfold RefD.key; rw [e, e']
        rw [hk, WideAt.bytes_irrefl] at this
        cases this
      have h1 : l.filter (fun x => !decide (x.name = s)) = l := by
        rw [List.filter_eq_self]; intro x hx; simp [hrest x hx]
      have h2 : (l.map fun x => if x.name = s then r else x) = l := by
        conv => rhs; rw [← List.map_id l]
        apply List.map_congr_left
        intro x hx
        simp [hrest x hx]
      simp only [List.filter_cons, e, decide_true, Bool.not_true, Bool.false_eq_true, if_false, List.map_cons, if_true]
      rw [h1, h2]
      cases l with
      | nil => rfl
      | cons z l =>
        unfold insL
        have hb : bytesBefore z.key r.key = false := by
          have h3 := hL.1 z (by simp)
          have hk : y.key = r.key := by unfold RefD.key; rw [e, hr]
          rw [hk] at h3
          cases h4 : bytesBefore z.key r.key
          · rfl
          · have := WideShapes.bytes_trans _ _ _ h3 h4
            rw [WideAt.bytes_irrefl] at this
            cases this
        rw [if_neg (by rw [hb]; decide)]
    · have hex : ∃ x ∈ l, x.name = s := by
        obtain ⟨x, hx, hxs⟩ := h
        rcases List.mem_cons.1 hx with rfl | hx
        · exact absurd hxs e
        · exact ⟨x, hx, hxs⟩
      have hb : bytesBefore y.key r.key = true := by
        obtain ⟨x, hx, hxs⟩ := hex
        have := hL.1 x hx
        have hk : x.key = r.key := by unfold RefD.key; rw [hxs, hr]
        rwa [hk] at this
      simp only [List.filter_cons, e, decide_false, Bool.not_false, if_true, List.map_cons, if_false]
      unfold insL
      rw [if_pos hb, filter_map_insL hr hL.2 hex]
theorem put_old {L : List RefD} {r : RefD} (hL : Rising L) (h : (getL L r.name).isSome = true) : (DM L).put (.string r.key) (refD r) = DM (L.map fun x => if x.name = r.name then r else x) := by
  obtain ⟨x, hx⟩ := Option.isSome_iff_exists.1 h
  have hm := getL_some hx
  have h1 : (DM L).put (.string r.key) (refD r) = ((DM L).del (.string r.key)).put (.string r.key) (refD r) := by
    unfold DM DataW.put DataW.del
    simp only [List.filter_filter, Bool.and_self]
  have h2 : getL (L.filter fun x => !decide (x.name = r.name)) r.name = none := by
    cases h3 : getL (L.filter fun x => !decide (x.name = r.name)) r.name with
    | none => rfl
    | some y =>
      obtain ⟨hy, hn⟩ := getL_some h3
      have := (List.mem_filter.1 hy).2
      simp [hn] at this
  have h4 : (DM L).del (.string r.key) = DM (L.filter fun x => !decide (x.name = r.name)) := del_DM L r.name
  rw [h1, h4, put_new h2, filter_map_insL rfl hL ⟨x, hm.1, hm.2⟩]

/-! ### sorted keys -/
theorem less_before : ∀ (a b : List UInt8), bytesBefore a b = Op.bytesLess a b
  | [], [] => rfl
  | [], _ :: _ => rfl
  | _ :: _, [] => rfl
  | a :: x, b :: y => by simp only [bytesBefore, Op.bytesLess, less_before x y]
theorem before_lt : ∀ (a b : List UInt8), bytesBefore a b = decide (a < b)
  | [], [] => by simp [bytesBefore]
  | _ :: _, [] => by simp [bytesBefore]
  | [], _ :: _ => by simp [bytesBefore]
  | a :: x, b :: y => by
    rw [bytesBefore, before_lt x y]
    simp only [List.cons_lt_cons_iff]
    by_cases h1 : a < b <;> by_cases h2 : a = b <;> by_cases h3 : x < y <;> simp [h1, h2, h3]
theorem sorted_keys {L : List RefD} (h : Rising L) {ss : List (List UInt8)} (hp : ss.Perm (L.map RefD.key)) : ss.mergeSort (fun x y => decide (x ≤ y)) = L.map RefD.key := by
  have hs : (L.map RefD.key).Pairwise (fun a b => a ≤ b) := by
    rw [List.pairwise_map]
    refine List.Pairwise.imp (fun {a b} hab => ?_) h
    rw [before_lt] at hab
    exact List.le_of_lt (by simpa using hab)
  have hm : (ss.mergeSort (fun x y => decide (x ≤ y))).Pairwise (fun a b => a ≤ b) := by
    have := List.pairwise_mergeSort (le := fun x y : List UInt8 => decide (x ≤ y)) (fun a b c h1 h2 => by
      simp only [decide_eq_true_eq] at *; exact List.le_trans h1 h2) (fun a b => by
      simp only [Bool.or_eq_true, decide_eq_true_eq]; exact List.le_total a b) ss
    exact this.imp (fun {a b} hab => by simpa using hab)
  exact List.Perm.eq_of_pairwise (fun a b _ _ h1 h2 => List.le_antisymm h1 h2) hm hs ((List.mergeSort_perm _ _).trans hp)
end Go.Proofs.Ytpgchdjfeklobaa
