/- Proved here: contracts of functions of the program, each for every input that its premises name. -/
import Derived.Test.YtfplffnblajefaaGreatDoorProg
import Derived.Deep.DeepCutAuto
import Derived.Deep.MidRow
import Derived.Outline
import Derived.WalkKit
import Derived.WalkSpells
import Derived.WalkLawsBesides
import Derived.Deep.QuietTactic
import Derived.BigQuiet
import Derived.Deep.LoopGhost
import Derived.Recover
import Derived.Deep.RegionWith
import Derived.Deep.RegionLaw
import Derived.Deep.RegionHeld3
import Derived.StillTailTactics
import Derived.Deep.DeepFit
import Derived.Defers
import Derived.Sort.CutIn
import Derived.Laws.IdiomStrings
import Derived.Test.YtfplffnblajefaaGreatDoorShelf
import Derived.Test.YtfplffnblajefaaGreatDoorCvWords
import Derived.Test.YtfplffnblajefaaGreatDoorCvBase
import Derived.Test.YtfplffnblajefaaGreatDoorCvRange
import Derived.Test.YtfplffnblajefaaGreatDoorWord1
import Derived.Test.YtfplffnblajefaaGreatDoorWord2
import Derived.Test.YtfplffnblajefaaGreatDoorCl
namespace Go.Proofs.CV
open Go.RowKit
set_option linter.unusedVariables false
set_option linter.unusedSimpArgs false
set_option linter.unnecessarySimpa false
set_option linter.unusedVariables false
variable {ok ok' : Nat → Prop}
set_option maxRecDepth 100000 in
set_option maxHeartbeats 400000 in
theorem stands1_aux (x : Cells3) (w : World) (h : ∀ W, Ext w W → Calls Tryz.prog 64 #[agg3 x] W fun e W' => e = .returned (.bool true) ∧ Ext W W') (W : World) (hW : Ext w W) :
    Calls Tryz.prog 119 #[agg3 x] W fun e W' => e = .returned (.bool false) ∧ Ext W W' := by
  have H := Lib.hid h; clear h
  obtain ⟨x0, x1, x2⟩ := x
  unfold agg3 at H ⊢
  go_enter Tryz.func119, Tryz.ntmps119
  go_wp2_with (go_at_call 64; refine (H.out _ (hW.alloc _)).mono ?_; rintro e w1 ⟨rfl, he⟩)
  go_ret
  exact ⟨rfl, he.of_alloc⟩

set_option maxRecDepth 100000 in
set_option maxHeartbeats 400000 in
theorem index_none (w : World) (A' : Option Addr) (n c' g o : Nat) (f : Nat → Cells3) (hA : 0 < n → A' = some ⟨g, o, none⟩) (hg : 0 < n → g < w.heap.size) (hn : n ≤ 100000000)
      (hc : ∀ i, i < n → w.cell? ⟨g, o + i * 3, none⟩ = some (f i).1 ∧ w.cell? ⟨g, o + i * 3 + 1, none⟩ = some (f i).2.1 ∧ w.cell? ⟨g, o + i * 3 + 2, none⟩ = some (f i).2.2)
      (h : ∀ i, i < n → ∀ W, Ext w W → Calls Tryz.prog 119 #[agg3 (f i)] W fun e W' => e = .returned (.bool false) ∧ Ext W W') (W : World) (hW : Ext w W) :
    Calls Tryz.prog 171 #[.slice A' n c', .func (.func 119) #[] #[]] W fun e W' => e = .returned (.int .i64 (-1)) ∧ Ext W W' := by
  have H := Lib.hid h; clear h
  have HC := Lib.hid hc; clear hc
  go_enter Tryz.func171, Tryz.ntmps171
  go_wp2
  go_loopw [8] (fun i wr => ∃ k : Nat, k ≤ n ∧ i = .int .i64 k ∧ Ext W wr) (fun i _ => n - (intOf i).toNat)
  case atStart => exact ⟨0, by omega, rfl, Ext.refl _⟩
  case round =>
    obtain ⟨k, hk, rfl, he⟩ := hrel
    by_cases hlt : k < n
    · obtain ⟨c0, c1, c2⟩ := HC.out k hlt
      have hb := hg (by omega)
      obtain rfl := hA (by omega)
      rw [← (hW.trans he).cell hb] at c0 c1 c2
      clear hA hg
      go_wp2_with (go_at_call 119; refine (H.out k hlt _ (hW.trans he)).mono ?_; rintro e w1 ⟨rfl, he1⟩)
      refine ⟨⟨k + 1, by omega, by go_num, he.trans he1⟩, by simp [intOf]; omega⟩
    · go_wp2
      go_ret
      exact ⟨rfl, he⟩

set_option maxRecDepth 100000 in
set_option maxHeartbeats 400000 in
theorem contains_none (w : World) (A' : Option Addr) (n c' g o : Nat) (f : Nat → Cells3) (hA : 0 < n → A' = some ⟨g, o, none⟩) (hg : 0 < n → g < w.heap.size) (hn : n ≤ 100000000)
      (hc : ∀ i, i < n → w.cell? ⟨g, o + i * 3, none⟩ = some (f i).1 ∧ w.cell? ⟨g, o + i * 3 + 1, none⟩ = some (f i).2.1 ∧ w.cell? ⟨g, o + i * 3 + 2, none⟩ = some (f i).2.2)
      (h : ∀ i, i < n → ∀ W, Ext w W → Calls Tryz.prog 119 #[agg3 (f i)] W fun e W' => e = .returned (.bool false) ∧ Ext W W') (W : World) (hW : Ext w W) :
    Calls Tryz.prog 118 #[.slice A' n c', .func (.func 119) #[] #[]] W fun e W' => e = .returned (.bool false) ∧ Ext W W' := by
  have H := Lib.hid (index_none w A' n c' g o f hA hg hn hc h)
  clear h hc hA hg
  go_enter Tryz.func118, Tryz.ntmps118
  go_wp2_with (go_at_call 171; refine (H.out _ hW).mono ?_; rintro e w1 ⟨rfl, he⟩)
  go_ret
  exact ⟨rfl, he⟩

/-- how many items stand in one list at most -/
inductive Tree.Small : Tree → Prop where
  | str {bs : List Int} (h : bs.length ≤ 100000000) (hb : ∀ x ∈ bs, 0 ≤ x ∧ x ≤ 255) : Tree.Small (.str bs)
  | list {ts : List Tree} (h : ts.length ≤ 100000000) (ht : ∀ (i : Nat) t, ts[i]? = some t → Tree.Small t) : Tree.Small (.list ts)

set_option maxRecDepth 100000 in
set_option maxHeartbeats 400000 in
theorem stands_aux (w : World) (x : Cells3) (t : Tree) (h : IsItem ok w x t) : t.Small → ∀ W, Ext w W → Calls Tryz.prog 64 #[agg3 x] W fun e W' => e = .returned (.bool true) ∧ Ext W W' := by
  induction h with
  | @str A n c A' c' bs h ho =>
    intro _ W hW
    unfold agg3
    go_enter Tryz.func64, Tryz.ntmps64
    go_wp2
    go_ret
    exact ⟨rfl, (Ext.refl _).alloc _⟩
  | @list A c A' n c' g o f ts hn hA hg ho hc ht ih =>
    intro hsm W hW
    cases hsm with
    | list h1 h2 =>
      have H := Lib.hid (contains_none w A' n c' g o f hA hg (by omega) hc (fun i hi W hW => stands1_aux (f i) w (ih i _ (List.getElem?_eq_getElem (by omega)) (h2 i _ (List.getElem?_eq_getElem (by omega)))) W hW))
      clear hA hg hc ht ih h2
      unfold agg3
      go_enter Tryz.func64, Tryz.ntmps64
      go_wp2_with (go_at_call 118; refine (H.out _ (hW.alloc _)).mono ?_; rintro e w1 ⟨rfl, he⟩)
      go_ret
      exact ⟨rfl, he.of_alloc⟩
end Go.Proofs.CV
