/- Proved here: contracts of functions of the program, each for every input that its premises name. -/
import Derived.Test.YtfplffnblajefaaGreatDoorProg
import Derived.Deep.DeepCutAuto
import Derived.Deep.MidRow
import Derived.Outline
import Derived.WalkKit
import Derived.WalkSpells
import Derived.WalkLawsBesides
import Derived.Deep.QuietTactic
import Derived.BigQuiet
import Derived.Deep.LoopGhost
import Derived.Recover
import Derived.Deep.RegionWith
import Derived.Deep.RegionLaw
import Derived.Deep.RegionHeld3
import Derived.StillTailTactics
import Derived.Deep.DeepFit
import Derived.Defers
import Derived.Sort.CutIn
import Derived.Laws.IdiomStrings
import Derived.Test.YtfplffnblajefaaGreatDoorShelf
import Derived.Test.YtfplffnblajefaaGreatDoorCvWords
import Derived.Test.YtfplffnblajefaaGreatDoorCvBase
import Derived.Test.YtfplffnblajefaaGreatDoorCvRange
import Derived.Test.YtfplffnblajefaaGreatDoorWord1
import Derived.Test.YtfplffnblajefaaGreatDoorWord2
import Derived.Test.YtfplffnblajefaaGreatDoorCl
import Derived.Test.YtfplffnblajefaaGreatDoorSt
import Derived.Test.YtfplffnblajefaaGreatDoorHd
import Derived.Test.YtfplffnblajefaaGreatDoorEn
import Derived.Test.YtfplffnblajefaaGreatDoorCa
import Derived.Test.YtfplffnblajefaaGreatDoorIt
namespace Go.Proofs.CV
open Go.RowKit
set_option linter.unusedVariables false
set_option linter.unusedSimpArgs false
set_option linter.unnecessarySimpa false
set_option linter.unusedVariables false
variable {ok ok' : Nat → Prop}
theorem IsItem.lt {w : World} {x : Cells3} {t : Tree} (h : IsItem ok w x t) : IsItem (fun b => ok b ∧ b < w.heap.size) w x t := by
  induction h with
  | str h ho => exact .str h (fun hn ad e => ⟨ho hn ad e, by obtain ⟨ad', e', hb, _⟩ := h.2 hn; rw [e'] at e; injection e with e; subst e; exact hb⟩)
  | list hn hA hg ho hc ht ih => exact .list hn hA hg (fun h => ⟨ho h, hg h⟩) hc ih
/-- one item in a new row -/
theorem Items.one {w : World} {x : Cells3} {t : Tree} (h : IsItem ok w x t) (T : TypeId) (hok : ok w.heap.size) : Items ok (w.alloc (.cells #[x.1, x.2.1, x.2.2] T)) (some ⟨w.heap.size, 0, none⟩) 1 [t] := by
  refine ⟨rfl, w.heap.size, 0, fun _ => x, fun _ => rfl, fun _ => by simp, fun _ => hok, fun i hi => ?_, fun i u hu => ?_⟩
  · obtain rfl : i = 0 := by omega
    exact (Blk.new w T #[x.1, x.2.1, x.2.2]).c3
  · have : i = 0 := by
      rcases Nat.eq_zero_or_pos i with h | h
      · exact h
      · rw [List.getElem?_eq_none (by simp; omega)] at hu; cases hu
    subst this
    simp at hu; subst hu
    exact h.ext ((Ext.refl w).alloc _)
theorem small_short (a b c d : Int) : Tree.Small (.str (wShort a b c d)) := by
  refine .str (by have := wShort_len a b c d; omega) (fun x hx => ?_)
  have hx := List.mem_of_mem_drop hx
  simp only [wBytes, List.mem_map] at hx
  obtain ⟨j, _, rfl⟩ := hx
  unfold wByte; omega
def askBytes (h : Int) : Option (List Int) := encTop (.list [.str (wShort h 0 0 0)])
set_option maxRecDepth 100000 in
set_option maxHeartbeats 400000 in
theorem ask_any (h : Int) (bs : List Int) (w : World) (hh : U64 h) (hb : askBytes h = some bs) : Calls Tryz.prog 24 #[.int .u64 h] w fun e w' => Ext w w' ∧ ∃ A c, e = .returned (.slice A bs.length c) ∧ Rd w' A bs.length (b8 bs) := by
  have HN := Lib.hid (num_any h w hh)
  have hsm : Tree.Small (.list [.str (wShort h 0 0 0)]) := .list (by simp) (fun i t ht => by
    have : i = 0 := by
      rcases Nat.eq_zero_or_pos i with h | h
      · exact h
      · rw [List.getElem?_eq_none (by simp; omega)] at ht; cases ht
    subst this; simp at ht; subst ht; exact small_short _ _ _ _)
  have HSM := Lib.hid hsm; have HB := Lib.hid hb
  clear hh hsm hb
  go_enter Tryz.func24, Tryz.ntmps24
  go_wp2_with (first | (go_at_call 57; refine HN.out.mono ?_; rintro e w1 ⟨he1, x, rfl, hx⟩; obtain ⟨xb, xA, xn, xc, xA', xn', xc', rfl⟩ := hx.shape; unfold agg3) | (go_at_call 31; refine (list_any (ok := fun b => b ≤ w1.heap.size) _ 1 _ [.str (wShort h 0 0 0)] _ (Items.one (x := (.bool xb, .slice xA xn xc, .slice xA' xn' xc')) (hx.lt.mono (fun b hb => Nat.le_of_lt hb.2)) 75 (Nat.le_refl _)) (by omega) (fun b hb => by simp; omega)).mono ?_; rintro e w2 ⟨he2, y, rfl, hy⟩) | (go_at_call 30; refine (encode_any _ _ _ hy HSM.out).mono ?_; rw [show encTop (.list [.str (wShort h 0 0 0)]) = some bs from HB.out]; rintro e w3 ⟨he3, A, c, rfl, hr⟩))
  go_ret
  exact ⟨he1.trans (((Ext.refl _).alloc _).trans (he2.trans he3)), A, c, rfl, hr⟩
theorem ask_one : askBytes 1 = some [193, 1] := by decide +kernel
end Go.Proofs.CV
