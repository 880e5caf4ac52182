/- Proved here: contracts of functions of the program, each for every input that its premises name. -/
import Derived.Test.YtfplffnblajefaaGreatDoorProg
import Derived.Deep.DeepCutAuto
import Derived.Deep.MidRow
import Derived.Outline
import Derived.WalkKit
import Derived.WalkSpells
import Derived.WalkLawsBesides
import Derived.Deep.QuietTactic
import Derived.BigQuiet
import Derived.Deep.LoopGhost
import Derived.Recover
import Derived.Deep.RegionWith
import Derived.Deep.RegionLaw
import Derived.Deep.RegionHeld3
import Derived.StillTailTactics
import Derived.Deep.DeepFit
import Derived.Defers
import Derived.Sort.CutIn
import Derived.Laws.IdiomStrings
import Derived.Test.YtfplffnblajefaaGreatDoorShelf
import Derived.Test.YtfplffnblajefaaGreatDoorCvWords
import Derived.Test.YtfplffnblajefaaGreatDoorCvBase
import Derived.Test.YtfplffnblajefaaGreatDoorCvRange
import Derived.Test.YtfplffnblajefaaGreatDoorWord1
import Derived.Test.YtfplffnblajefaaGreatDoorWord2
import Derived.Test.YtfplffnblajefaaGreatDoorCl
import Derived.Test.YtfplffnblajefaaGreatDoorSt
import Derived.Test.YtfplffnblajefaaGreatDoorHd
import Derived.Test.YtfplffnblajefaaGreatDoorEn
import Derived.Test.YtfplffnblajefaaGreatDoorCa
import Derived.Test.YtfplffnblajefaaGreatDoorIt
import Derived.Test.YtfplffnblajefaaGreatDoorAsk
namespace Go.Proofs.CV
open Go.RowKit
set_option linter.unusedVariables false
set_option linter.unusedSimpArgs false
set_option linter.unnecessarySimpa false
set_option linter.unusedVariables false
variable {ok ok' : Nat → Prop}
set_option maxRecDepth 100000 in
set_option maxHeartbeats 400000 in
theorem leaf_any (ad : Addr) (c : Nat) (x : Int) (n : Nat) (d : Int) (W : World) (hc : W.cell? ad = some (.int .u8 x)) (hr : Rd W (some ad) 1 (b8 [x])) (hx : 0 ≤ x) (hx2 : x < 128) (hn : 0 < n) (hnc : n ≤ c) :
    Calls Tryz.prog 170 #[.slice (some ad) n c, .int .i64 d] W fun e W' => Ext W W' ∧ ∃ y, e = .returned (.tuple #[agg3 y, .int .i64 1]) ∧ IsItem (Fresh W) W' y (.str [x]) := by
  have hn' : (0 : Int) < (n : Int) := by omega
  have hc1 : (1 : Int) ≤ (c : Int) := by omega
  have hlt : ad.block < W.heap.size := by obtain ⟨ad', e, h, _⟩ := hr.2 (by omega); injection e with e; subst e; exact h
  have hc2 : (W.alloc (.cells #[.bool false, .slice none 0 0, .slice none 0 0] 75)).cell? ad = some (.int .u8 x) := (Below.cell ((Ext.refl W).alloc _) hlt).trans hc
  have HS := Lib.hid (str_any (some ad) 1 c [x] _ (hr.ext ((Ext.refl W).alloc (.cells #[.bool false, .slice none 0 0, .slice none 0 0] 75))) (by omega))
  go_enter Tryz.func170, Tryz.ntmps170
  go_wp2_with (first | (go_at_call 67; refine (ask_yes _ _).mono ?_; rintro e w1 ⟨rfl, rfl⟩) | (go_at_call 32; refine HS.out.mono ?_; rintro e w2 ⟨he2, y, rfl, hy⟩; obtain ⟨xb, xA, xn, xc, xA', xn', xc', rfl⟩ := hy.shape; have hB := (Blk.new W _ _).ext he2; have b3 := hB.c3; have bf := hB.frozen; unfold agg3))
  refine bodyPost_ret (v := .tuple #[agg3 (.bool xb, .slice xA xn xc, .slice xA' xn' xc'), .int .i64 1]) (by simp [results, Tryz.results170, go_sem, agg3, b3]) rfl ?_
  refine ⟨(((((Ext.refl W).alloc _).trans he2).set (by simp) _).set (by simp) _).set (by simp) _, _, rfl, ?_⟩
  exact (hy.far3 (by simp [Fresh]) _ _ _).mono (fun b hb => by simp [Fresh] at *; omega)
set_option maxRecDepth 100000 in
set_option maxHeartbeats 400000 in
theorem opened_small (ad : Addr) (n c : Nat) (base k : Int) (W : World) (hc : W.cell? ad = some (.int .u8 (base + k))) (hb : 0 ≤ base) (hk : 0 ≤ k) (hk2 : k < 56) (hbk : base + k ≤ 255) (hn : 0 < n) :
    Calls Tryz.prog 237 #[.slice (some ad) n c, .int .u8 base] W fun e W' => e = .returned (.tuple #[.int .i64 1, .int .i64 k]) ∧ W = W' := by
  have hn' : (0 : Int) < (n : Int) := by omega
  have he : base + k - base = k := by omega
  go_enter Tryz.func237, Tryz.ntmps237
  go_wp2
  go_ret2
  exact ⟨rfl, rfl⟩
set_option maxRecDepth 100000 in
set_option maxHeartbeats 400000 in
theorem parts_any (A : Option Addr) (n c : Nat) (m d : Int) (W : World) :
    Calls Tryz.prog 238 #[.slice A n c, .int .i64 m, .int .i64 d] W fun e W' =>
      e = .returned (.func (.func 295) #[] #[.pointer (some ⟨W.heap.size + 1, 0, none⟩), .pointer (some ⟨W.heap.size, 0, none⟩), .pointer (some ⟨W.heap.size + 2, 0, none⟩)]) ∧
      ((W.alloc (.cells #[.slice A n c] 22)).alloc (.cells #[.int .i64 m] 3)).alloc (.cells #[.int .i64 d] 3) = W' := by
  have hmf : ∀ (fn : Fn) (first cap : Array Value) (w : World), (Instr.makeFunc fn first cap).run Tryz.prog w = .ok (.func fn first cap) w := fun _ _ _ _ => rfl
  go_enter Tryz.func238, Tryz.ntmps238
  go_wp2
  go_ret
  exact ⟨rfl, rfl⟩
end Go.Proofs.CV
