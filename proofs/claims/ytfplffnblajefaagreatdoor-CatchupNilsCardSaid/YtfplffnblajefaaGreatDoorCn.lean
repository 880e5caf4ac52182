/- Proved here: contracts of functions of the program, each for every input that its premises name. -/
import Derived.Test.YtfplffnblajefaaGreatDoorProg
import Derived.Deep.DeepCutAuto
import Derived.Deep.MidRow
import Derived.Outline
import Derived.WalkKit
import Derived.WalkSpells
import Derived.WalkLawsBesides
import Derived.Deep.QuietTactic
import Derived.BigQuiet
import Derived.Deep.LoopGhost
import Derived.Recover
import Derived.Deep.RegionWith
import Derived.Deep.RegionLaw
import Derived.Deep.RegionHeld3
import Derived.StillTailTactics
import Derived.Deep.DeepFit
import Derived.Defers
import Derived.Sort.CutIn
import Derived.Laws.IdiomStrings
import Derived.Test.YtfplffnblajefaaGreatDoorShelf
import Derived.Test.YtfplffnblajefaaGreatDoorCvWords
import Derived.Test.YtfplffnblajefaaGreatDoorCvBase
import Derived.Test.YtfplffnblajefaaGreatDoorCvRange
import Derived.Test.YtfplffnblajefaaGreatDoorWord1
import Derived.Test.YtfplffnblajefaaGreatDoorWord2
import Derived.Test.YtfplffnblajefaaGreatDoorCl
import Derived.Test.YtfplffnblajefaaGreatDoorSt
import Derived.Test.YtfplffnblajefaaGreatDoorHd
import Derived.Test.YtfplffnblajefaaGreatDoorEn
import Derived.Test.YtfplffnblajefaaGreatDoorCa
import Derived.Test.YtfplffnblajefaaGreatDoorIt
import Derived.Test.YtfplffnblajefaaGreatDoorAsk
import Derived.Test.YtfplffnblajefaaGreatDoorDec
import Derived.Test.YtfplffnblajefaaGreatDoorDec3
import Derived.Test.YtfplffnblajefaaGreatDoorFin
import Derived.Test.YtfplffnblajefaaGreatDoorDec2
import Derived.Test.YtfplffnblajefaaGreatDoorFi
import Derived.Test.YtfplffnblajefaaGreatDoorDa
import Derived.Test.YtfplffnblajefaaGreatDoorNi
import Derived.Test.YtfplffnblajefaaGreatDoorSa
import Derived.Test.YtfplffnblajefaaGreatDoorAl
namespace Go.Proofs.CV
open Go.RowKit
set_option linter.unusedVariables false
set_option linter.unusedSimpArgs false
set_option linter.unnecessarySimpa false
set_option linter.unusedVariables false
attribute [local go_sem] Oper.semAt_some
abbrev zz : Array Value := #[.slice none 0 0, .slice none 0 0, .int .u64 0]
set_option maxRecDepth 100000 in
set_option maxHeartbeats 1000000 in
theorem nils_any (w : World) (A : Option Addr) (n c : Nat) : Calls Tryz.prog 3 #[.slice A n c] w fun e w' => Ext w w' ∧ e = .returned (.bool true) := by
  go_enter Tryz.func3, Tryz.ntmps3
  go_wp2_with fail
  refine (new_nil _).mono ?_
  rintro e w1 ⟨he1, p, rfl, hp⟩
  go_wp2_with fail
  refine (handle_nil _ _ _ _ _ _ (.inl rfl)).mono ?_
  rintro e w2 ⟨he2, rfl⟩
  unfold zRep
  have b2 := Blk.new w2 29 zz
  have e2 := (Ext.refl w2).alloc (.cells zz 29)
  have p2 := hp.ext (Ext.trans he2 e2)
  go_wp2_with fail
  refine (handle_nil _ p _ _ _ _ p2).mono ?_
  rintro e w3 ⟨he3, rfl⟩
  unfold zRep
  have b3 := Blk.new w3 29 zz
  have e3 := (Ext.refl w3).alloc (.cells zz 29)
  go_wp2_with fail
  refine (submit_nil _ _ _ _ _ (.inl rfl)).mono ?_
  rintro e w4 ⟨he4, rfl⟩
  unfold zRep
  go_wp2_with fail
  have p4 := p2.ext (Ext.trans he3 (Ext.trans e3 (Ext.trans he4 ((Ext.refl w4).alloc (.cells zz 29)))))
  refine (submit_nil _ p _ _ _ p4).mono ?_
  rintro e w5 ⟨he5, rfl⟩
  unfold zRep
  go_wp2_with fail
  have e5 := (Ext.refl w5).alloc (.cells zz 29)
  have p5 := p4.ext (Ext.trans he5 e5)
  have x2 := ((b2.ext (Ext.trans he3 (Ext.trans e3 (Ext.trans he4 ((Ext.refl w4).alloc (.cells zz 29)))))).ext (Ext.trans he5 e5))
  have x3 := ((b3.ext (Ext.trans he4 ((Ext.refl w4).alloc (.cells zz 29)))).ext (Ext.trans he5 e5))
  have e9 : Ext w (w5.alloc (.cells zz 29)) := Ext.trans (Ext.trans he1 (Ext.trans (Ext.trans he2 e2) (Ext.trans (Ext.trans he3 e3) (Ext.trans he4 ((Ext.refl w4).alloc (.cells zz 29)))))) (Ext.trans he5 e5)
  generalize w5.alloc (.cells zz 29) = W0 at *
  generalize w2.heap.size = g2 at *
  generalize w3.heap.size = g3 at *
  clear b2 b3 e2 e3 e5 he1 he2 he3 he4 he5 p2 p4 hp
  have l2 := x2.lt
  have l3 := x3.lt
  have c2 : W0.cell? ⟨g2, 0, none⟩ = some (.slice none 0 0) := x2.cell 0
  have c3 : W0.cell? ⟨g3, 0, none⟩ = some (.slice none 0 0) := x3.cell 0
  clear x2 x3
  have hf0 : ∀ w, (Instr.field 29 (.agg #[.slice none 0 0, .slice none 0 0, .int .u64 0]) 0).run Tryz.prog w = .ok (.slice none 0 0) w := fun _ => by kernel_rfl
  have hb0 : ∀ w, (Instr.build 37 #[]).run Tryz.prog w = .ok (zTim) w := fun _ => by kernel_rfl
  have hw0 : IntKind.i64.wrap 0 = 0 := by decide
  have Q : Ext W0 W0.drew := (Ext.refl W0).drew
  go_region_held3 (fun w' => w'.cell? ⟨g2, 0, none⟩ = some (.slice none 0 0) ∧ w'.cell? ⟨g3, 0, none⟩ = some (.slice none 0 0)) (go_keep)
    (first
      | (go_at_call 7; refine (start_nil _ _ (by first | exact .inl rfl | exact p5.ext Q)).mono ?_; rintro e v1 ⟨h1, rfl⟩; replace Q := Ext.trans Q h1; have k2 := (Q.cell l2 0).trans c2; have k3 := (Q.cell l3 0).trans c3; unfold zRep)
      | (go_at_call 8; refine (timeout_nil _ _ (by exact .inl rfl)).mono ?_; rintro e v1 ⟨h1, rfl⟩; replace Q := Ext.trans Q h1; have k2 := (Q.cell l2 0).trans c2; have k3 := (Q.cell l3 0).trans c3; unfold zRep)
      | (go_at_call 9; refine (node_nil _ _ (by exact .inl rfl)).mono ?_; rintro e v1 ⟨rfl, rfl⟩)
      | (go_at_call 10; refine (alive_any _).mono ?_; rintro e v1 ⟨h1, rfl⟩; replace Q := Ext.trans Q h1; have k2 := (Q.cell l2 0).trans c2; have k3 := (Q.cell l3 0).trans c3))
  go_wp2
  go_ret
  exact ⟨e9.trans Q, rfl⟩
end Go.Proofs.CV
