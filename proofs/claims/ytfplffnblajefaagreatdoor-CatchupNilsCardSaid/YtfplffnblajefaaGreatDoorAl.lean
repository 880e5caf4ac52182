/- Proved here: contracts of functions of the program, each for every input that its premises name. -/
import Derived.Test.YtfplffnblajefaaGreatDoorProg
import Derived.Deep.DeepCutAuto
import Derived.Deep.MidRow
import Derived.Outline
import Derived.WalkKit
import Derived.WalkSpells
import Derived.WalkLawsBesides
import Derived.Deep.QuietTactic
import Derived.BigQuiet
import Derived.Deep.LoopGhost
import Derived.Recover
import Derived.Deep.RegionWith
import Derived.Deep.RegionLaw
import Derived.Deep.RegionHeld3
import Derived.StillTailTactics
import Derived.Deep.DeepFit
import Derived.Defers
import Derived.Sort.CutIn
import Derived.Laws.IdiomStrings
import Derived.Test.YtfplffnblajefaaGreatDoorShelf
import Derived.Test.YtfplffnblajefaaGreatDoorCvWords
import Derived.Test.YtfplffnblajefaaGreatDoorCvBase
import Derived.Test.YtfplffnblajefaaGreatDoorCvRange
import Derived.Test.YtfplffnblajefaaGreatDoorWord1
import Derived.Test.YtfplffnblajefaaGreatDoorWord2
import Derived.Test.YtfplffnblajefaaGreatDoorCl
import Derived.Test.YtfplffnblajefaaGreatDoorSt
import Derived.Test.YtfplffnblajefaaGreatDoorHd
import Derived.Test.YtfplffnblajefaaGreatDoorEn
import Derived.Test.YtfplffnblajefaaGreatDoorCa
import Derived.Test.YtfplffnblajefaaGreatDoorIt
import Derived.Test.YtfplffnblajefaaGreatDoorAsk
import Derived.Test.YtfplffnblajefaaGreatDoorDec
import Derived.Test.YtfplffnblajefaaGreatDoorDec3
import Derived.Test.YtfplffnblajefaaGreatDoorFin
import Derived.Test.YtfplffnblajefaaGreatDoorDec2
import Derived.Test.YtfplffnblajefaaGreatDoorFi
import Derived.Test.YtfplffnblajefaaGreatDoorDa
import Derived.Test.YtfplffnblajefaaGreatDoorNi
import Derived.Test.YtfplffnblajefaaGreatDoorSa
namespace Go.Proofs.CV
open Go.RowKit
set_option linter.unusedVariables false
set_option linter.unusedSimpArgs false
set_option linter.unnecessarySimpa false
set_option linter.unusedVariables false
attribute [local go_sem] Oper.semAt_some
theorem cells_of_rd {w : World} {A : Option Addr} {n : Nat} {xs : List Int} (h : Rd w A n (b8 xs)) (hn : 0 < n) : ∃ ad, A = some ad ∧ ad.block < w.heap.size ∧ ∀ j x, xs[j]? = some x → w.cell? (ad.add j) = some (.int .u8 x) := by
  obtain ⟨ad, e, hb, hc⟩ := h.2 hn
  exact ⟨ad, e, hb, fun j x hx => hc j _ (by simp [b8, hx])⟩
set_option maxRecDepth 100000 in
set_option maxHeartbeats 1000000 in
theorem alive_any (w : World) : Calls Tryz.prog 10 #[] w fun e w' => Ext w w' ∧ e = .returned (.bool true) := by
  go_enter Tryz.func10, Tryz.ntmps10
  go_wp2_with fail
  refine (decodeAsk_one w.heap.size 0 2 5 _ ((Blk.new w 5 #[.int .u8 193, .int .u8 5]).cell 0) ((Blk.new w 5 #[.int .u8 193, .int .u8 5]).cell 1) (by simp) (by omega) w5 (by omega) (by omega)).mono ?_
  rintro e w2 ⟨he2, rfl⟩
  go_wp2_with fail
  refine (ask_any 1 [193, 1] w2 ⟨by omega, by omega⟩ ask_one).mono ?_
  rintro e w3 ⟨he3, A, c, rfl, hr⟩
  obtain ⟨ad, rfl, hb, hcl⟩ := cells_of_rd hr (by simp)
  simp only [List.length_cons, List.length_nil, Nat.zero_add] at hr ⊢
  have HS := Lib.hid (same_eq (w3.alloc (.cells #[.int .u8 193, .int .u8 1] 5)) ad ⟨w3.heap.size, 0, none⟩ [193, 1] c 2
    (fun j hj => by
      refine ((Ext.refl w3).alloc _).below.cell (p := ad.add j) (by rw [block_of_add]; exact hb) |>.trans ?_
      exact hcl j _ (by
        match j, hj with
        | 0, _ => rfl
        | 1, _ => rfl))
    (fun j hj => by
      have hB := Blk.new w3 5 #[.int .u8 193, .int .u8 1]
      rw [add_plain']
      match j, hj with
      | 0, _ => exact hB.cell 0
      | 1, _ => exact hB.cell 1))
  clear hcl hr hb
  go_wp2_with fail
  refine HS.out.mono ?_
  rintro e w4 ⟨rfl, rfl⟩
  go_wp2
  go_ret
  exact ⟨((((Ext.refl w).alloc _).trans he2).trans he3).alloc _, rfl⟩
end Go.Proofs.CV
