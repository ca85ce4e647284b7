/-
  Walk: the examples of chapter 19.
-/
import Derived.Laws.Tables
import Derived.Test.YtpgchdjfeklobaaDoorOf
namespace Go.Proofs.YtpgchdjfeklobaaDoor
open Go.RowKit

def wordsOf : Array Value := (#[#[], #[112, 117, 116], #[100, 101, 108], #[103, 101, 116], #[115, 99, 97, 110], #[99, 111, 109, 109, 105, 116], #[98, 114, 97, 110, 99, 104], #[116, 97, 103], #[100, 114, 111, 112], #[115, 119, 105, 116, 99, 104], #[114, 101, 115, 101, 116], #[109, 101, 114, 103, 101], #[114, 101, 115, 111, 108, 118, 101], #[97, 98, 111, 114, 116], #[112, 105, 99, 107], #[114, 101, 118, 101, 114, 116], #[100, 105, 102, 102], #[108, 111, 103], #[98, 97, 115, 101], #[103, 99], #[115, 116, 97, 116, 117, 115]] : Array (Array UInt8)).map fun s => Value.string ⟨s⟩
theorem words_row (W : World) (g : Nat) (t : TypeId) (old : Array Value) (h : W.heap[g]? = some (.cells old t (0, 0))) : (W.setRow g wordsOf).cell? ⟨g, 19, none⟩ = some (.string ⟨#[103, 99]⟩) ∧ Below g W (W.setRow g wordsOf) := by
  have h1 : (W.setRow g wordsOf).heap[g]? = some (.cells wordsOf t (0, 0)) := by simp [World.setRow, Array.getElem?_modify, h]
  refine ⟨(cell_of_row _ g 19 wordsOf t (0, 0) h1).trans (by as_aux_lemma => kernel_rfl), ⟨rfl, rfl, rfl, by simp [World.setRow], fun k hk => ?_⟩⟩
  have hne : ¬ g = k := by omega
  simp [World.setRow, Array.getElem?_modify, hne]
set_option maxRecDepth 100000 in
set_option maxHeartbeats 4000000 in
theorem word19 (w : World) : Calls Tryd.prog 29 #[.int .i64 19] w fun e w' => e = .returned (.string ⟨#[103, 99]⟩) ∧ Below w.heap.size w w' := by
  go_enter Tryd.func29, Tryd.ntmps29
  go_wp2_with (first
    | (refine wpList_build rfl 126 _ rfl (by as_aux_lemma => kernel_rfl) ?_; generalize hg : Option.getD (Program.built _ _ _) _ = cs; have hcs : cs = wordsOf := (by rw [← hg]; as_aux_lemma => kernel_rfl); subst hcs; clear hg)
    | (refine wpList_store_row rfl 126 (.tmp 3) (.tmp 4) rfl w.heap.size wordsOf rfl rfl 126 _ (heap_alloc_new _ _) (by as_aux_lemma => kernel_rfl) (by as_aux_lemma => kernel_rfl) (by as_aux_lemma => kernel_rfl) ?_; obtain ⟨hc, hb⟩ := words_row _ w.heap.size 126 _ (heap_alloc_new w _); generalize World.setRow _ _ _ = W at *))
  go_ret
  exact ⟨rfl, (below_box _ _).trans hb⟩
theorem dec7 : Lib.decDigits 7 = [55] := by rw [dec_small (by omega)]; rfl
theorem ref7 : RefSaid ⟨#[64, 55]⟩ ⟨#[]⟩ 7 true := .inr ⟨by decide, rfl, .inl ⟨rfl, by omega, by omega, by rw [dec7]⟩⟩
theorem ref07 : RefSaid ⟨#[64, 48, 55]⟩ ⟨#[]⟩ 0 false := .inr ⟨by decide, rfl, .inr ⟨rfl, rfl, fun m _ _ e => by
  have e1 : Lib.decDigits m = [48, 55] := (List.cons.inj e).2.symm
  have e2 : m = 7 := by rw [← val_dec m, e1]; rfl
  rw [e2, dec7] at e1
  exact absurd e1 (by decide)⟩⟩
set_option maxRecDepth 100000 in
set_option maxHeartbeats 4000000 in
theorem awake19 (w : World) (hV : Vars w) : Calls Tryd.prog 9 #[] w fun e w' => e = .returned (.bool true) ∧ Below w.heap.size w w' := by
  have HV := Lib.hid hV
  clear hV
  go_enter Tryd.func9, Tryd.ntmps9
  go_wp2_with fail
  refine (cref_any _ _ (by decide) HV.out).mono ?_
  rintro e w1 ⟨a, n, b, rfl, hr, hb1⟩
  obtain ⟨rfl, rfl, rfl⟩ := hr.same ref7
  have HB1 := Lib.hid hb1
  clear hb1 hr
  go_wp2_with fail
  refine (cref_any _ _ (by decide) (HV.out.below HB1.out)).mono ?_
  rintro e w2 ⟨a, n, b, rfl, hr, hb2⟩
  obtain ⟨rfl, rfl, rfl⟩ := hr.same ref07
  have HB2 := Lib.hid (HB1.out.trans (hb2.mono HB1.out.size))
  clear hb2 hr
  go_wp2_with (go_at_call 29; refine (word19 _).mono ?_; rintro e w3 ⟨rfl, hb3⟩; have HB3 := Lib.hid (HB2.out.trans (hb3.mono HB2.out.size)); clear hb3)
  go_ret
  exact ⟨rfl, HB3.out⟩
end Go.Proofs.YtpgchdjfeklobaaDoor
