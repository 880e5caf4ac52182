/- Proved here: contracts of functions of the program, each for every input that its premises name. -/
import Derived.Test.YtfplffnblajefaaGreatDoorProg
import Derived.Deep.DeepCutAuto
import Derived.Deep.MidRow
import Derived.Outline
import Derived.WalkKit
import Derived.WalkSpells
import Derived.WalkLawsBesides
import Derived.Deep.QuietTactic
import Derived.BigQuiet
import Derived.Deep.LoopGhost
import Derived.Recover
import Derived.Deep.RegionWith
import Derived.Deep.RegionLaw
import Derived.Deep.RegionHeld3
import Derived.StillTailTactics
import Derived.Deep.DeepFit
import Derived.Defers
import Derived.Sort.CutIn
import Derived.Laws.IdiomStrings
import Derived.Test.YtfplffnblajefaaGreatDoorShelf
import Derived.Test.YtfplffnblajefaaGreatDoorCvWords
import Derived.Test.YtfplffnblajefaaGreatDoorCvBase
import Derived.Test.YtfplffnblajefaaGreatDoorCvRange
import Derived.Test.YtfplffnblajefaaGreatDoorWord1
import Derived.Test.YtfplffnblajefaaGreatDoorWord2
import Derived.Test.YtfplffnblajefaaGreatDoorCl
import Derived.Test.YtfplffnblajefaaGreatDoorSt
import Derived.Test.YtfplffnblajefaaGreatDoorHd
import Derived.Test.YtfplffnblajefaaGreatDoorEn
import Derived.Test.YtfplffnblajefaaGreatDoorCa
import Derived.Test.YtfplffnblajefaaGreatDoorIt
import Derived.Test.YtfplffnblajefaaGreatDoorAsk
import Derived.Test.YtfplffnblajefaaGreatDoorDec
import Derived.Test.YtfplffnblajefaaGreatDoorDec3
import Derived.Test.YtfplffnblajefaaGreatDoorFin
import Derived.Test.YtfplffnblajefaaGreatDoorDec2
namespace Go.Proofs.CV
open Go.RowKit
set_option linter.unusedVariables false
set_option linter.unusedSimpArgs false
set_option linter.unnecessarySimpa false
set_option linter.unusedVariables false
attribute [local go_sem] Oper.semAt_some
variable {ok ok' : Nat → Prop}
set_option maxRecDepth 100000 in
set_option maxHeartbeats 1000000 in
theorem first_one (g o c : Nat) (x : Int) (W : World) (hc0 : W.cell? ⟨g, o, none⟩ = some (.int .u8 193)) (hc1 : W.cell? ⟨g, o + 1, none⟩ = some (.int .u8 x)) (hg : g < W.heap.size) (hx : 0 ≤ x) (hx2 : x < 128) (hc : 2 ≤ c) :
    Calls Tryz.prog 116 #[.slice (some ⟨g, o, none⟩) 2 c] W fun e W' => Ext W W' ∧ ∃ y, e = .returned (.tuple #[agg3 y, .int .i64 2, .int .i64 0]) ∧ IsItem (Fresh W) W' y (.list [.str [x]]) := by
  have H1 := Lib.hid (fun W1 (h : Ext W W1) => list1_any g o c x W1 ((h.cell hg o).trans hc0) ((h.cell hg (o + 1)).trans hc1) (h.lt hg) hx hx2 hc)
  go_enter_defers Tryz.func116, Tryz.ntmps116
  go_wp2_with (first | (go_at_call 67; refine (ask_yes _ _).mono ?_; rintro e w1 ⟨rfl, rfl⟩) | (go_at_call 170; refine (H1.out _ (((Ext.refl _).alloc _).alloc _)).mono ?_; rintro e w2 ⟨he2, y, rfl, hy⟩; obtain ⟨xb, xA, xn, xc, xA', xn', xc', rfl⟩ := hy.shape; unfold agg3; obtain ⟨hA, hB⟩ := two_blk he2; have a3 := hA.c3; have b1 := hB.c1; have fa := hA.frozen; have fb := hB.frozen; have a3o := fun o => (hA.alloc o).c3; have b1o := fun o => (hB.alloc o).c1; have fao := fun o i => (hA.alloc o).frozen i; have fbo := fun o i => (hB.alloc o).frozen i))
  refine leaves_cons (f := 65) (args := #[.pointer (some ⟨W.heap.size + 1, 0, none⟩)]) (by simp) (by simp [go_sem]) ?_
  refine (caught_idle _ _).mono ?_
  rintro e u' w'' ⟨rfl, rfl, rfl⟩
  have hlt := hA.lt
  have e9 := ((((((((Ext.refl W).alloc _).alloc _).trans he2).alloc (.cells #[.bool xb, .slice xA xn xc, .slice xA' xn' xc'] 75)).set (p := ⟨W.heap.size, 0, none⟩) (Nat.le_refl _) (.bool xb)).set (p := ⟨W.heap.size, 1, none⟩) (Nat.le_refl _) (.slice xA xn xc)).set (p := ⟨W.heap.size, 2, none⟩) (Nat.le_refl _) (.slice xA' xn' xc')).set (p := ⟨W.heap.size + 1, 0, none⟩) (by simp) (.int .i64 0)
  have y9 := ((hy.ext ((Ext.refl w2).alloc (.cells #[.bool xb, .slice xA xn xc, .slice xA' xn' xc'] 75))).far3 (B := W.heap.size) (by simp [Fresh] <;> omega) (.bool xb) (.slice xA xn xc) (.slice xA' xn' xc')).far (p := ⟨W.heap.size + 1, 0, none⟩) (by simp [Fresh] <;> omega) (.int .i64 0)
  have cA : Blk _ _ _ #[.bool xb, .slice xA xn xc, .slice xA' xn' xc'] := (((((hA.alloc (.cells #[.bool xb, .slice xA xn xc, .slice xA' xn' xc'] 75)).set_ 0 (.bool xb)).set_ 1 (.slice xA xn xc)).set_ 2 (.slice xA' xn' xc')).far (p := ⟨W.heap.size + 1, 0, none⟩) (by simp) (.int .i64 0))
  have cB := ((((hB.alloc (.cells #[.bool xb, .slice xA xn xc, .slice xA' xn' xc'] 75)).far (p := ⟨W.heap.size, 0, none⟩) (by simp) (.bool xb)).far (p := ⟨W.heap.size, 1, none⟩) (by simp) (.slice xA xn xc)).far (p := ⟨W.heap.size, 2, none⟩) (by simp) (.slice xA' xn' xc')).set_ 0 (.int .i64 0)
  obtain ⟨W9, hW9⟩ : ∃ W9, (((((w2.alloc (.cells #[.bool xb, .slice xA xn xc, .slice xA' xn' xc'] 75)).setCell ⟨W.heap.size, 0, none⟩ (.bool xb)).setCell ⟨W.heap.size, 1, none⟩ (.slice xA xn xc)).setCell ⟨W.heap.size, 2, none⟩ (.slice xA' xn' xc')).setCell ⟨W.heap.size + 1, 0, none⟩ (.int .i64 0)) = W9 := ⟨_, rfl⟩
  rw [hW9] at e9 y9 cA cB ⊢
  obtain ⟨c0, c1, c2⟩ := cA.c3
  have c4 : W9.cell? ⟨W.heap.size + 1, 0, none⟩ = some (.int .i64 0) := cB.cell 0
  simp [Leaves, settle, results, Tryz.results116, go_sem, c0, c1, c2, c4]
  exact ⟨e9, _, _, _, rfl, y9.mono (fun b hb => by simp [Fresh] at *; omega)⟩
end Go.Proofs.CV
