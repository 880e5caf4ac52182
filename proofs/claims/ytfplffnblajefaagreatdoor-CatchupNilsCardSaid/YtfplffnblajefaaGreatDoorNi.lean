/- Proved here: contracts of functions of the program, each for every input that its premises name. -/
import Derived.Test.YtfplffnblajefaaGreatDoorProg
import Derived.Deep.DeepCutAuto
import Derived.Deep.MidRow
import Derived.Outline
import Derived.WalkKit
import Derived.WalkSpells
import Derived.WalkLawsBesides
import Derived.Deep.QuietTactic
import Derived.BigQuiet
import Derived.Deep.LoopGhost
import Derived.Recover
import Derived.Deep.RegionWith
import Derived.Deep.RegionLaw
import Derived.Deep.RegionHeld3
import Derived.StillTailTactics
import Derived.Deep.DeepFit
import Derived.Defers
import Derived.Sort.CutIn
import Derived.Laws.IdiomStrings
import Derived.Test.YtfplffnblajefaaGreatDoorShelf
import Derived.Test.YtfplffnblajefaaGreatDoorCvWords
import Derived.Test.YtfplffnblajefaaGreatDoorCvBase
import Derived.Test.YtfplffnblajefaaGreatDoorCvRange
import Derived.Test.YtfplffnblajefaaGreatDoorWord1
import Derived.Test.YtfplffnblajefaaGreatDoorWord2
import Derived.Test.YtfplffnblajefaaGreatDoorCl
import Derived.Test.YtfplffnblajefaaGreatDoorSt
import Derived.Test.YtfplffnblajefaaGreatDoorHd
import Derived.Test.YtfplffnblajefaaGreatDoorEn
import Derived.Test.YtfplffnblajefaaGreatDoorCa
import Derived.Test.YtfplffnblajefaaGreatDoorIt
import Derived.Test.YtfplffnblajefaaGreatDoorAsk
import Derived.Test.YtfplffnblajefaaGreatDoorDec
import Derived.Test.YtfplffnblajefaaGreatDoorDec3
import Derived.Test.YtfplffnblajefaaGreatDoorFin
import Derived.Test.YtfplffnblajefaaGreatDoorDec2
import Derived.Test.YtfplffnblajefaaGreatDoorFi
import Derived.Test.YtfplffnblajefaaGreatDoorDa
namespace Go.Proofs.CV
open Go.RowKit
set_option linter.unusedVariables false
set_option linter.unusedSimpArgs false
set_option linter.unnecessarySimpa false
set_option linter.unusedVariables false
attribute [local go_sem] Oper.semAt_some
variable {ok ok' : Nat → Prop}
/-- a peer of no node -/
def NilPeer (w : World) (p : Value) : Prop := p = .pointer none ∨ ∃ g, p = .pointer (some ⟨g, 0, none⟩) ∧ Blk w g 43 #[.pointer none]
theorem NilPeer.ext {w w' : World} {p : Value} (h : NilPeer w p) (e : Ext w w') : NilPeer w' p := by
  rcases h with h | ⟨g, rfl, h⟩
  · exact .inl h
  · exact .inr ⟨g, rfl, h.ext e⟩
def zRep : Value := .agg #[.slice none 0 0, .slice none 0 0, .int .u64 0]
set_option maxRecDepth 100000 in
theorem node_nil (w : World) (p : Value) (h : NilPeer w p) : Calls Tryz.prog 9 #[p] w fun e w' => w' = w ∧ e = .returned (.pointer none) := by
  rcases h with rfl | ⟨g, rfl, h⟩
  · go_enter Tryz.func9, Tryz.ntmps9
    go_wp2
    go_ret
    exact ⟨rfl, rfl⟩
  · have c1 := h.c1
    go_enter Tryz.func9, Tryz.ntmps9
    go_wp2
    go_ret
    exact ⟨rfl, rfl⟩
set_option maxRecDepth 100000 in
set_option maxHeartbeats 1000000 in
theorem handle_nil (w : World) (p : Value) (k : Int) (A : Option Addr) (n c : Nat) (h : NilPeer w p) : Calls Tryz.prog 5 #[p, .int .i64 k, .slice A n c] w fun e w' => Ext w w' ∧ e = .returned zRep := by
  have H1 := Lib.hid (fun w1 (h1 : Ext w w1) => node_nil w1 p (h.ext h1))
  go_enter Tryz.func5, Tryz.ntmps5
  go_wp2_with (first | (go_at_call 9; refine (H1.out _ ((Ext.refl _).alloc _)).mono ?_; rintro e w2 ⟨rfl, rfl⟩))
  refine bodyPost_ret (v := zRep) (by simp [zRep, results, Tryz.results5, go_sem]) rfl ?_
  exact ⟨(Ext.refl _).alloc _, rfl⟩
set_option maxRecDepth 100000 in
set_option maxHeartbeats 1000000 in
theorem nsubmit_nil (w : World) (A : Option Addr) (n c : Nat) : Calls Tryz.prog 20 #[.pointer none, .slice A n c] w fun e w' => Ext w w' ∧ e = .returned (.tuple #[zRep, .int .i64 2]) := by
  go_enter Tryz.func20, Tryz.ntmps20
  go_wp2
  refine bodyPost_ret (v := .tuple #[zRep, .int .i64 2]) (by simp [zRep, results, Tryz.results20, go_sem]) rfl ?_
  exact ⟨(Ext.refl _).alloc _, rfl⟩
set_option maxRecDepth 100000 in
set_option maxHeartbeats 1000000 in
theorem submit_nil (w : World) (p : Value) (A : Option Addr) (n c : Nat) (h : NilPeer w p) : Calls Tryz.prog 6 #[p, .slice A n c] w fun e w' => Ext w w' ∧ e = .returned (.tuple #[zRep, .int .i64 2]) := by
  have H1 := Lib.hid (fun w1 (h1 : Ext w w1) => node_nil w1 p (h.ext h1))
  go_enter Tryz.func6, Tryz.ntmps6
  go_wp2_with (first | (go_at_call 9; refine (H1.out _ ((Ext.refl _).alloc _)).mono ?_; rintro e w2 ⟨rfl, rfl⟩) | (go_at_call 20; refine (nsubmit_nil _ _ _ _).mono ?_; rintro e w3 ⟨he3, rfl⟩; unfold zRep; obtain ⟨hc1, hf1⟩ := bcell he3))
  have bZ := (((((Blk.new w 29 #[.slice none 0 0, .slice none 0 0, .int .u64 0]).ext he3).set_ 0 (.slice none 0 0)).set_ 1 (.slice none 0 0)).set_ 2 (.int .u64 0))
  have k0 := bZ.cell 0
  have k1 := bZ.cell 1
  have k2 := bZ.cell 2
  refine bodyPost_ret (v := .tuple #[zRep, .int .i64 2]) (by simp [zRep, results, Tryz.results6, go_sem, k0, k1, k2]) rfl ?_
  exact ⟨(((((Ext.refl _).alloc _).trans he3).set (Nat.le_refl _) _).set (Nat.le_refl _) _).set (Nat.le_refl _) _, rfl⟩
set_option maxRecDepth 100000 in
set_option maxHeartbeats 1000000 in
theorem nstart_nil (w : World)  : Calls Tryz.prog 21 #[.pointer none] w fun e w' => Ext w w' ∧ e = .returned (zRep) := by
  go_enter Tryz.func21, Tryz.ntmps21
  go_wp2
  refine bodyPost_ret (v := zRep) (by simp [zRep, results, Tryz.results21, go_sem]) rfl ?_
  exact ⟨(Ext.refl _).alloc _, rfl⟩
set_option maxRecDepth 100000 in
set_option maxHeartbeats 1000000 in
theorem start_nil (w : World) (p : Value)  (h : NilPeer w p) : Calls Tryz.prog 7 #[p] w fun e w' => Ext w w' ∧ e = .returned (zRep) := by
  have H1 := Lib.hid (fun w1 (h1 : Ext w w1) => node_nil w1 p (h.ext h1))
  go_enter Tryz.func7, Tryz.ntmps7
  go_wp2_with (first | (go_at_call 9; refine (H1.out _ ((Ext.refl _).alloc _)).mono ?_; rintro e w2 ⟨rfl, rfl⟩) | (go_at_call 21; refine (nstart_nil _ ).mono ?_; rintro e w3 ⟨he3, rfl⟩; unfold zRep; obtain ⟨hc1, hf1⟩ := bcell he3))
  have bZ := (((((Blk.new w 29 #[.slice none 0 0, .slice none 0 0, .int .u64 0]).ext he3).set_ 0 (.slice none 0 0)).set_ 1 (.slice none 0 0)).set_ 2 (.int .u64 0))
  have k0 := bZ.cell 0
  have k1 := bZ.cell 1
  have k2 := bZ.cell 2
  refine bodyPost_ret (v := zRep) (by simp [zRep, results, Tryz.results7, go_sem, k0, k1, k2]) rfl ?_
  exact ⟨(((((Ext.refl _).alloc _).trans he3).set (Nat.le_refl _) _).set (Nat.le_refl _) _).set (Nat.le_refl _) _, rfl⟩
def zTim : Value := .agg #[.int .u64 0, .int .i64 0, .int .i64 0, .int .i64 0]
set_option maxRecDepth 100000 in
set_option maxHeartbeats 1000000 in
theorem ntimeout_nil (w : World) : Calls Tryz.prog 22 #[.pointer none, zTim] w fun e w' => Ext w w' ∧ e = .returned zRep := by
  unfold zTim
  go_enter Tryz.func22, Tryz.ntmps22
  go_wp2_with fail
  go_quiet (fail)
  go_wp2
  have bZ := (((((Blk.new ((w.alloc (.cells #[.pointer none] 38)).alloc (.cells #[.int .u64 0, .int .i64 0, .int .i64 0, .int .i64 0] 37)) 29 #[.slice none 0 0, .slice none 0 0, .int .u64 0]).drewN nq).set_ 0 (.slice none 0 0)).set_ 1 (.slice none 0 0)).set_ 2 (.int .u64 0))
  have k0 := bZ.cell 0
  have k1 := bZ.cell 1
  have k2 := bZ.cell 2
  simp only [World.size_alloc] at k0 k1 k2
  refine bodyPost_ret (v := zRep) (by simp [zRep, results, Tryz.results22, go_sem, k0, k1, k2]) rfl ?_
  exact ⟨((((((((Ext.refl _).alloc _).alloc _).alloc _).drewN nq).set (by simp; omega) _).set (by simp; omega) _).set (by simp; omega) _), rfl⟩
set_option maxRecDepth 100000 in
set_option maxHeartbeats 1000000 in
theorem timeout_nil (w : World) (p : Value) (h : NilPeer w p) : Calls Tryz.prog 8 #[p, zTim] w fun e w' => Ext w w' ∧ e = .returned zRep := by
  have H1 := Lib.hid (fun w1 (h1 : Ext w w1) => node_nil w1 p (h.ext h1))
  unfold zTim
  go_enter Tryz.func8, Tryz.ntmps8
  go_wp2_with fail
  go_region_held3 (fun w' => w'.cell? ⟨w.heap.size, 0, none⟩ = some (.int .u64 0) ∧ w'.cell? ⟨w.heap.size, 1, none⟩ = some (.int .i64 0) ∧ w'.cell? ⟨w.heap.size, 2, none⟩ = some (.int .i64 0) ∧ w'.cell? ⟨w.heap.size, 3, none⟩ = some (.int .i64 0)) (go_keep)
    (first | (go_at_call 9; refine (H1.out _ ((((Ext.refl _).alloc _).alloc _).drew)).mono ?_; rintro e w2 ⟨rfl, rfl⟩) | (go_at_call 22; refine (ntimeout_nil _).mono ?_; rintro e w3 ⟨he3, rfl⟩; unfold zRep; obtain ⟨q0, q1, q2, q3⟩ := (((Blk.new w 37 #[.int .u64 0, .int .i64 0, .int .i64 0, .int .i64 0]).alloc (.cells #[.slice none 0 0, .slice none 0 0, .int .u64 0] 29)).drew.ext he3).c4; have bZ := ((Blk.new (w.alloc (.cells #[.int .u64 0, .int .i64 0, .int .i64 0, .int .i64 0] 37)) 29 #[.slice none 0 0, .slice none 0 0, .int .u64 0]).drew.ext he3); simp only [World.size_alloc] at bZ; have z3 := bZ.c3; have zf := bZ.frozen))
  go_wp2
  have bW := ((bZ.set_ 0 (.slice none 0 0)).set_ 1 (.slice none 0 0)).set_ 2 (.int .u64 0)
  have k0 := bW.cell 0
  have k1 := bW.cell 1
  have k2 := bW.cell 2
  refine bodyPost_ret (v := zRep) (by simp [zRep, results, Tryz.results8, go_sem, k0, k1, k2]) rfl ?_
  exact ⟨((((((Ext.refl _).alloc _).alloc _).drew.trans he3).set (by simp) _).set (by simp) _).set (by simp) _, rfl⟩
end Go.Proofs.CV
