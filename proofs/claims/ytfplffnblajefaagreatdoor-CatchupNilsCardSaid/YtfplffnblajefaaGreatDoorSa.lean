/- Proved here: contracts of functions of the program, each for every input that its premises name. -/
import Derived.Test.YtfplffnblajefaaGreatDoorProg
import Derived.Deep.DeepCutAuto
import Derived.Deep.MidRow
import Derived.Outline
import Derived.WalkKit
import Derived.WalkSpells
import Derived.WalkLawsBesides
import Derived.Deep.QuietTactic
import Derived.BigQuiet
import Derived.Deep.LoopGhost
import Derived.Recover
import Derived.Deep.RegionWith
import Derived.Deep.RegionLaw
import Derived.Deep.RegionHeld3
import Derived.StillTailTactics
import Derived.Deep.DeepFit
import Derived.Defers
import Derived.Sort.CutIn
import Derived.Laws.IdiomStrings
import Derived.Test.YtfplffnblajefaaGreatDoorShelf
import Derived.Test.YtfplffnblajefaaGreatDoorCvWords
import Derived.Test.YtfplffnblajefaaGreatDoorCvBase
import Derived.Test.YtfplffnblajefaaGreatDoorCvRange
import Derived.Test.YtfplffnblajefaaGreatDoorWord1
import Derived.Test.YtfplffnblajefaaGreatDoorWord2
import Derived.Test.YtfplffnblajefaaGreatDoorCl
import Derived.Test.YtfplffnblajefaaGreatDoorSt
import Derived.Test.YtfplffnblajefaaGreatDoorHd
import Derived.Test.YtfplffnblajefaaGreatDoorEn
import Derived.Test.YtfplffnblajefaaGreatDoorCa
import Derived.Test.YtfplffnblajefaaGreatDoorIt
import Derived.Test.YtfplffnblajefaaGreatDoorAsk
import Derived.Test.YtfplffnblajefaaGreatDoorDec
import Derived.Test.YtfplffnblajefaaGreatDoorDec3
import Derived.Test.YtfplffnblajefaaGreatDoorFin
import Derived.Test.YtfplffnblajefaaGreatDoorDec2
import Derived.Test.YtfplffnblajefaaGreatDoorFi
import Derived.Test.YtfplffnblajefaaGreatDoorDa
import Derived.Test.YtfplffnblajefaaGreatDoorNi
namespace Go.Proofs.CV
open Go.RowKit
set_option linter.unusedVariables false
set_option linter.unusedSimpArgs false
set_option linter.unnecessarySimpa false
set_option linter.unusedVariables false
attribute [local go_sem] Oper.semAt_some
variable {ok ok' : Nat → Prop}
set_option maxRecDepth 100000 in
theorem new_nil (w : World) : Calls Tryz.prog 4 #[.pointer none] w fun e w' => Ext w w' ∧ ∃ p, e = .returned p ∧ NilPeer w' p := by
  go_enter Tryz.func4, Tryz.ntmps4
  go_wp2
  go_ret
  exact ⟨(Ext.refl _).alloc _, _, rfl, .inr ⟨_, rfl, Blk.new _ _ _⟩⟩
set_option maxRecDepth 100000 in
set_option maxHeartbeats 1000000 in
theorem same_eq (w : World) (a b : Addr) (l : List UInt8) (c c' : Nat) (hA : ∀ j (hj : j < l.length), w.cell? (a.add j) = some (.int .u8 (l[j].toNat : Int))) (hB : ∀ j (hj : j < l.length), w.cell? (b.add j) = some (.int .u8 (l[j].toNat : Int))) :
    Calls Tryz.prog 23 #[.slice (some a) l.length c, .slice (some b) l.length c'] w fun e w' => w' = w ∧ e = .returned (.bool true) := by
  have r1 := run_convert_bytes_back (P := Tryz.prog) w 22 9 5 a c l Tryz.underlying22 Tryz.underlying5 Tryz.underlying9 hA
  have r2 := run_convert_bytes_back (P := Tryz.prog) w 22 9 5 b c' l Tryz.underlying22 Tryz.underlying5 Tryz.underlying9 hB
  clear hA hB
  go_enter Tryz.func23, Tryz.ntmps23
  go_wp2
  go_ret
  exact ⟨rfl, by simp⟩
end Go.Proofs.CV
