/- Proved here: contracts of functions of the program, each for every input that its premises name. -/
import Derived.Test.YtfplffnblajefaaGreatDoorProg
import Derived.Deep.DeepCutAuto
import Derived.Deep.MidRow
import Derived.Outline
import Derived.WalkKit
import Derived.WalkSpells
import Derived.WalkLawsBesides
import Derived.Deep.QuietTactic
import Derived.BigQuiet
import Derived.Deep.LoopGhost
import Derived.Recover
import Derived.Deep.RegionWith
import Derived.Deep.RegionLaw
import Derived.Deep.RegionHeld3
import Derived.StillTailTactics
import Derived.Deep.DeepFit
import Derived.Defers
import Derived.Sort.CutIn
import Derived.Laws.IdiomStrings
import Derived.Test.YtfplffnblajefaaGreatDoorShelf
import Derived.Test.YtfplffnblajefaaGreatDoorCvWords
import Derived.Test.YtfplffnblajefaaGreatDoorCvBase
import Derived.Test.YtfplffnblajefaaGreatDoorCvRange
import Derived.Test.YtfplffnblajefaaGreatDoorWord1
import Derived.Test.YtfplffnblajefaaGreatDoorWord2
import Derived.Test.YtfplffnblajefaaGreatDoorCl
import Derived.Test.YtfplffnblajefaaGreatDoorSt
import Derived.Test.YtfplffnblajefaaGreatDoorHd
import Derived.Test.YtfplffnblajefaaGreatDoorEn
import Derived.Test.YtfplffnblajefaaGreatDoorCa
import Derived.Test.YtfplffnblajefaaGreatDoorIt
import Derived.Test.YtfplffnblajefaaGreatDoorAsk
import Derived.Test.YtfplffnblajefaaGreatDoorDec
namespace Go.Proofs.CV
open Go.RowKit
set_option linter.unusedVariables false
set_option linter.unusedSimpArgs false
set_option linter.unnecessarySimpa false
set_option linter.unusedVariables false
attribute [local go_sem] Oper.semAt_some
variable {ok ok' : Nat → Prop}
theorem late_box {W w1 : World} {x : Int} {y : Cells3} (he1 : Ext W.drew w1) (hy : IsItem (Fresh W.drew) w1 y (.str [x])) :
    ∃ (b : Nat) (z : Cells3), Value.pointer (some ⟨w1.heap.size, 0, none⟩) = .pointer (some ⟨b, 0, none⟩) ∧ Value.int .i64 1 = .int .i64 1 ∧ Ext W (w1.alloc (.cells #[y.1, y.2.1, y.2.2] 75)) ∧ W.heap.size ≤ b ∧ Blk (w1.alloc (.cells #[y.1, y.2.1, y.2.2] 75)) b 75 #[z.1, z.2.1, z.2.2] ∧ IsItem (Fresh W) (w1.alloc (.cells #[y.1, y.2.1, y.2.2] 75)) z (.str [x]) :=
  ⟨_, y, rfl, rfl, he1.of_drew.alloc _, he1.of_drew.size, Blk.new _ _ _, hy.ext ((Ext.refl _).alloc _)⟩
theorem early_box {W w1 : World} {x : Int} {y : Cells3} (he1 : Ext (W.alloc (.cells #[.bool false, .slice none 0 0, .slice none 0 0] 75)).drew w1) (hy : IsItem (Fresh (W.alloc (.cells #[.bool false, .slice none 0 0, .slice none 0 0] 75)).drew) w1 y (.str [x])) :
    ∃ (b : Nat) (z : Cells3), Value.pointer (some ⟨W.heap.size, 0, none⟩) = .pointer (some ⟨b, 0, none⟩) ∧ Value.int .i64 1 = .int .i64 1 ∧ Ext W (((w1.setCell ⟨W.heap.size, 0, none⟩ y.1).setCell ⟨W.heap.size, 1, none⟩ y.2.1).setCell ⟨W.heap.size, 2, none⟩ y.2.2) ∧ W.heap.size ≤ b ∧ Blk (((w1.setCell ⟨W.heap.size, 0, none⟩ y.1).setCell ⟨W.heap.size, 1, none⟩ y.2.1).setCell ⟨W.heap.size, 2, none⟩ y.2.2) b 75 #[z.1, z.2.1, z.2.2] ∧ IsItem (Fresh W) (((w1.setCell ⟨W.heap.size, 0, none⟩ y.1).setCell ⟨W.heap.size, 1, none⟩ y.2.1).setCell ⟨W.heap.size, 2, none⟩ y.2.2) z (.str [x]) := by
  have hB := ((Blk.new W 75 #[.bool false, .slice none 0 0, .slice none 0 0]).drew).ext he1
  refine ⟨_, y, rfl, rfl, ((he1.of_drew.of_alloc.set (Nat.le_refl _) _).set (Nat.le_refl _) _).set (Nat.le_refl _) _, Nat.le_refl _, ?_, ?_⟩
  · simpa using ((hB.set_ 0 y.1).set_ 1 y.2.1).set_ 2 y.2.2
  · exact (hy.far3 (by simp [Fresh]) _ _ _).mono (fun b hb => by simp [Fresh] at *; omega)
set_option maxRecDepth 100000 in
set_option maxHeartbeats 1000000 in
theorem parts1_one (l b1 b2 b3 g o c : Nat) (x d : Int) (W : World) (S : Nat → Prop) (R : Cells3 → World → Prop) (h1 : Blk W b1 3 #[.int .i64 1]) (h2 : Blk W b2 22 #[.slice (some ⟨g, o, none⟩) 1 c]) (h3 : Blk W b3 3 #[.int .i64 d])
    (hc : W.cell? ⟨g, o, none⟩ = some (.int .u8 x)) (hg : g < W.heap.size) (hx : 0 ≤ x) (hx2 : x < 128) (hcc : 1 ≤ c) (hS1 : ¬ S b1)
    (hY : ∀ W1 y, Ext W W1 → IsItem (Fresh W) W1 y (.str [x]) → YieldAt Fence.wide 4 Tryz.prog l #[agg3 y] W1 fun e W' => e = .returned (.bool true) ∧ Mod S W1 W' ∧ R y W') :
    CallsIn Fence.wide 5 Tryz.prog 295 #[.func (.yield l) #[] #[], .pointer (some ⟨b1, 0, none⟩), .pointer (some ⟨b2, 0, none⟩), .pointer (some ⟨b3, 0, none⟩)] W fun e W' => (∃ v, e = .returned v) ∧ ∃ y, R y W' := by
  have c1 := h1.c1
  have c2 := h2.c1
  have c3 := h3.c1
  have hr : Rd W (some ⟨g, o, none⟩) 1 (b8 [x]) := ⟨rfl, fun _ => ⟨_, rfl, hg, fun j u hu => by
    have : j = 0 := by
      rcases Nat.eq_zero_or_pos j with h | h
      · exact h
      · rw [List.getElem?_eq_none (by simp [b8]; omega)] at hu; cases hu
    subst this; rw [add_plain2]; simp [b8] at hu; subst hu; exact hc⟩⟩
  have n1 := World.new_ne W ⟨b1, 0, none⟩ c1
  have n2 := World.new_ne W ⟨b2, 0, none⟩ c2
  have n3 := World.new_ne W ⟨b3, 0, none⟩ c3
  have m1 := h1.lt
  have m2 := h2.lt
  have m3 := h3.lt
  have HL := Lib.hid (fun W1 (h : Ext W W1) => leaf_any ⟨g, o, none⟩ c x 1 d W1 ((h.cell hg o).trans hc) (hr.ext h) hx hx2 (by omega) hcc)
  refine callsIn_of_wp Tryz.func295 rfl trivial ?_ rfl
  simp only [Tryz.ntmps295, List.size_toArray, List.length_cons, List.length_nil, Nat.reduceAdd, Nat.reduceSub, Array.replicate_succ, Array.replicate_zero, List.push_toArray, List.append_toArray, List.nil_append, List.cons_append]
  gi_wp2
  refine wpIn_loop_rounds 2 ?_
  rw [roundsIn_succ]
  gi_wp2
  gi_upto_region 2 with fail
  gi_cut [6, 7] from 8 (fun s6 s7 wx => ∃ (b : Nat) (y : Cells3), s6 = .pointer (some ⟨b, 0, none⟩) ∧ s7 = .int .i64 1 ∧ Ext W wx ∧ W.heap.size ≤ b ∧ Blk wx b 75 #[y.1, y.2.1, y.2.2] ∧ IsItem (Fresh W) wx y (.str [x]))
  case first =>
    have hmx : Tryz.prog.follows .mixedOrders = true := by kernel_rfl
    have hc0 : ¬ (c = 0) := by omega
    gi_region_with_o (first | (refine ⟨trivial, ?_⟩; gi_at_call 170; refine (callsIn_wide.2 (HL.out _ (by first | exact (Ext.refl _).drew | exact ((Ext.refl _).alloc _).drew | exact ((Ext.refl _).drew).alloc _))).mono ?_; rintro e w1 ⟨he1, y, rfl, hy⟩; obtain ⟨hc1, hf1⟩ := bcell he1; obtain ⟨xb, xA, xn, xc, xA', xn', xc', rfl⟩ := hy.shape; unfold agg3))
    all_goals (gi_wp2_with fail; try gi_meet)
    all_goals first | (with_reducible exact late_box he1 hy) | (with_reducible exact early_box he1 hy)
  case rest =>
    obtain ⟨b, y, rfl, rfl, he, hb, hB, hy⟩ := hcut
    obtain ⟨xb, xA, xn, xc, xA', xn', xc', rfl⟩ := hy.shape
    have c1' := (h1.ext he).c1
    have b3 := hB.c3
    have hYY := hY _ _ he hy
    obtain ⟨fn, tmps, assign, body, hy2, hR⟩ := hYY
    simp only [agg3] at hy2
    have HRR := Lib.hid hR
    clear hR hY h2 h3
    gi_wp2_with (refine ⟨trivial, ?_⟩; gi_at_call 67; refine (callsIn_wide.2 (ask_yes _ _)).mono ?_; rintro e w5 ⟨rfl, rfl⟩)
    refine HRR.out.mono ?_
    rintro e W3 ⟨rfl, hm, hR3⟩
    have d1 : W3.cell? ⟨b1, 0, none⟩ = some (.int .i64 1) := (hm.cell (he.lt m1) hS1 0).trans c1'
    gi_wp2
    rw [roundsIn_succ]
    gi_wp2
    go_end0
    exact ⟨⟨_, rfl⟩, _, hR3⟩
end Go.Proofs.CV
