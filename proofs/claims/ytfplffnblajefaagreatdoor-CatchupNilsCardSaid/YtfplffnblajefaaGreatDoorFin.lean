/- Proved here: contracts of functions of the program, each for every input that its premises name. -/
import Derived.Test.YtfplffnblajefaaGreatDoorProg
import Derived.Deep.DeepCutAuto
import Derived.Deep.MidRow
import Derived.Outline
import Derived.WalkKit
import Derived.WalkSpells
import Derived.WalkLawsBesides
import Derived.Deep.QuietTactic
import Derived.BigQuiet
import Derived.Deep.LoopGhost
import Derived.Recover
import Derived.Deep.RegionWith
import Derived.Deep.RegionLaw
import Derived.Deep.RegionHeld3
import Derived.StillTailTactics
import Derived.Deep.DeepFit
import Derived.Defers
import Derived.Sort.CutIn
import Derived.Laws.IdiomStrings
import Derived.Test.YtfplffnblajefaaGreatDoorShelf
import Derived.Test.YtfplffnblajefaaGreatDoorCvWords
import Derived.Test.YtfplffnblajefaaGreatDoorCvBase
import Derived.Test.YtfplffnblajefaaGreatDoorCvRange
import Derived.Test.YtfplffnblajefaaGreatDoorWord1
import Derived.Test.YtfplffnblajefaaGreatDoorWord2
import Derived.Test.YtfplffnblajefaaGreatDoorCl
import Derived.Test.YtfplffnblajefaaGreatDoorSt
import Derived.Test.YtfplffnblajefaaGreatDoorHd
import Derived.Test.YtfplffnblajefaaGreatDoorEn
import Derived.Test.YtfplffnblajefaaGreatDoorCa
import Derived.Test.YtfplffnblajefaaGreatDoorIt
import Derived.Test.YtfplffnblajefaaGreatDoorAsk
import Derived.Test.YtfplffnblajefaaGreatDoorDec
import Derived.Test.YtfplffnblajefaaGreatDoorDec3
namespace Go.Proofs.CV
open Go.RowKit
set_option linter.unusedVariables false
set_option linter.unusedSimpArgs false
set_option linter.unnecessarySimpa false
set_option linter.unusedVariables false
attribute [local go_sem] Oper.semAt_some
variable {ok ok' : Nat → Prop}
theorem IsItem.mod {S : Nat → Prop} {w w' : World} {x : Cells3} {t : Tree} (h : IsItem ok w x t) (m : Mod S w w') (hS : ∀ b, ok b → ¬ S b) : IsItem ok w' x t := by
  induction h with
  | str h ho => exact .str (h.mod m (fun hn ad e => hS _ (ho hn ad e))) ho
  | list hn hA hg ho hc ht ih =>
    refine .list hn hA (fun h => Nat.lt_of_lt_of_le (hg h) m.size) ho (fun i hi => ?_) (fun i t h => ih i t h)
    have hb := hg (by omega)
    have hs := hS _ (ho (by omega))
    rw [m.cell hb hs, m.cell hb hs, m.cell hb hs]
    exact hc i hi
def AfterOne (W W0 W1 : World) (x : Int) (W' : World) : Prop :=
  W'.heap[W0.heap.size + 1]? = W1.heap[W0.heap.size + 1]? ∧ W'.heap[W0.heap.size]? = some (.deferred (some [])) ∧ Ext W W' ∧ Blk W' W.heap.size 75 #[.bool false, .slice none 0 0, .slice none 0 0] ∧
    ∃ A c, Blk W' (W.heap.size + 1) 75 #[.bool true, .slice none 0 0, .slice A 1 c] ∧ Items (Fresh W1) W' A 1 [.str [x]]
theorem fin_round {P : Program} {fn : FuncId} {tm : Array Value} {ps : Array Tmp} {assign body : Code} {D : Nat} {W W0 W1 W2 W5 W6 : World} {y : Cells3} {x : Int} {a : Act} {c' : Nat} {Z : Array Value} {o : Obj}
    (he0 : Ext W W0) (hsz : W.heap.size + 5 ≤ W0.heap.size) (bR : Blk W0 W.heap.size 75 #[.bool false, .slice none 0 0, .slice none 0 0]) (he1 : Ext W0 W1) (hz1 : W1.heap.size = W0.heap.size + 2)
    (hL1 : W1.heap[W0.heap.size + 1]? = some (.loop (lrec fn tm ps assign body D .ready none))) (hK1 : W1.heap[W0.heap.size]? = some (.deferred (some [])))
    (he2 : Ext W1 W2) (hy : IsItem (Fresh W1) W2 y (.str [x])) (m5 : Mod (fun b => b = W0.heap.size + 1) (W2.alloc o) W5) (hL5 : W5.heap[W0.heap.size + 1]? = some (.loop (lrec fn tm ps assign body D .busy none)))
    (h6 : Mod (fun b => b = W.heap.size + 1) W5 W6 ∧ Blk W6 (W.heap.size + 1) 75 #[.bool true, .slice none 0 0, .slice (some ⟨W2.heap.size + 1 + 1, 0, none⟩) 1 c'] ∧ Blk W6 (W2.heap.size + 1 + 1) 75 (#[y.1, y.2.1, y.2.2] ++ Z)) :
    roundPost P (W0.heap.size + 1) (fun e W' => e = .returned (.bool true) ∧ Mod (fun b => b = W.heap.size + 1 ∨ b = W0.heap.size + 1) W2 W' ∧ AfterOne W W0 W1 x W') .normal a W6 := by
  obtain ⟨m6, bO, bN⟩ := h6
  have hs2 := he2.size
  have hs5 := m5.size
  rw [World.size_alloc] at hs5
  have hs6 := m6.size
  have hL6 := m6.heap hL5 (by omega)
  refine round_normal hL6 ⟨rfl, ?_, ?_, ?_, ?_, ?_, _, c', bO.put (by omega) _, ?_⟩
  · refine (((Mod.of_ext ((Ext.refl W2).alloc o) _).trans (m5.mono (fun b _ h => .inr h))).trans (m6.mono (fun b _ h => .inl h))).put (.inl (.inr rfl)) _
  · rw [hL1]; exact World.putObj_heap_same (by omega)
  · refine (World.putObj_heap_other (by omega)).trans (m6.heap (m5.heap (((he2.below.block _ (by omega)).trans hK1 : W2.heap[W0.heap.size]? = _) |> fun h => (Below.heap_alloc _ _ _ (by omega)).trans h) (by omega)) (by omega))
  · exact (((((he0.trans he1).trans he2).alloc o).mod m5 (by intro b hb; omega)).mod m6 (by intro b hb; omega)).mod (Mod.put (S := fun b => b = W0.heap.size + 1) (Mod.refl _ _) (.inl rfl) _) (by intro b hb; omega)
  · exact ((((bR.ext he1).ext he2).alloc o).mod m5 (by omega) |>.mod m6 (by omega)).put (by omega) _
  · have m7 : Mod (fun b => b = W0.heap.size + 1) W6 (W6.putObj (W0.heap.size + 1) (.loop (lrec fn tm ps assign body D .ready none))) := Mod.put (S := fun b => b = W0.heap.size + 1) (Mod.refl _ _) (.inl rfl) _
    have hy7 := (((hy.ext ((Ext.refl W2).alloc o)).mod m5 (by intro b hb; simp [Fresh] at hb; omega)).mod m6 (by intro b hb; simp [Fresh] at hb; omega)).mod m7 (by intro b hb; simp [Fresh] at hb; omega)
    have bN7 := bN.mod m7 (by omega)
    refine ⟨rfl, W2.heap.size + 1 + 1, 0, fun _ => y, fun _ => rfl, fun _ => bN7.lt, fun _ => by simp only [Fresh]; omega, fun i hi => ?_, fun i u hu => ?_⟩
    · obtain rfl : i = 0 := by omega
      refine ⟨(bN7.cell 0).trans ?_, (bN7.cell 1).trans ?_, (bN7.cell 2).trans ?_⟩ <;> (rw [Array.getElem?_append_left (by simp)]; rfl)
    · have : i = 0 := by
        rcases Nat.eq_zero_or_pos i with h | h
        · exact h
        · rw [List.getElem?_eq_none (by simp; omega)] at hu; cases hu
      subst this
      simp at hu; subst hu
      exact hy7
theorem fin_a {W5 : World} {out s2 : Nat} {T : TypeId} {z y : Array Value} {cap : Nat} (bO5 : Blk W5 out T #[.bool true, .slice none 0 0, .slice none 0 0]) (hs : W5.heap.size = s2 + 1) (n : Nat) :
    Mod (fun b => b = out) W5 ((((W5.alloc (.cells z T)).alloc (.cells y T)).setCell ⟨out, 2, none⟩ (.slice (some ⟨s2 + 1 + 1, 0, none⟩) 1 cap)).drewN n) ∧
    Blk ((((W5.alloc (.cells z T)).alloc (.cells y T)).setCell ⟨out, 2, none⟩ (.slice (some ⟨s2 + 1 + 1, 0, none⟩) 1 cap)).drewN n) out T #[.bool true, .slice none 0 0, .slice (some ⟨s2 + 1 + 1, 0, none⟩) 1 cap] ∧
    Blk ((((W5.alloc (.cells z T)).alloc (.cells y T)).setCell ⟨out, 2, none⟩ (.slice (some ⟨s2 + 1 + 1, 0, none⟩) 1 cap)).drewN n) (s2 + 1 + 1) T y := by
  refine ⟨(Mod.set (S := fun b => b = out) (((Mod.refl _ _).alloc _).alloc _) (p := ⟨out, 2, none⟩) (.inl (Eq.refl out)) _).drewN n, ?_, ?_⟩
  · simpa using ((((bO5.alloc _).alloc _).set_ 2 _).drewN n)
  · have := (Blk.new1 W5 T T z y)
    rw [hs] at this
    have hlt := bO5.lt
    exact (this.far (by simp; omega) _).drewN n
theorem fin_b {W5 : World} {out s2 : Nat} {T : TypeId} {z Z : Array Value} {p q r a b c : Value} {cap : Nat} (bO5 : Blk W5 out T #[.bool true, .slice none 0 0, .slice none 0 0]) (hs : W5.heap.size = s2 + 1) (n : Nat) :
    Mod (fun b => b = out) W5 (((((((W5.alloc (.cells z T)).alloc (.cells (#[p, q, r] ++ Z) T)).setCell ⟨out, 2, none⟩ (.slice (some ⟨s2 + 1 + 1, 0, none⟩) 1 cap)).setCell ⟨s2 + 1 + 1, 0, none⟩ a).setCell ⟨s2 + 1 + 1, 1, none⟩ b).setCell ⟨s2 + 1 + 1, 2, none⟩ c).drewN n) ∧
    Blk (((((((W5.alloc (.cells z T)).alloc (.cells (#[p, q, r] ++ Z) T)).setCell ⟨out, 2, none⟩ (.slice (some ⟨s2 + 1 + 1, 0, none⟩) 1 cap)).setCell ⟨s2 + 1 + 1, 0, none⟩ a).setCell ⟨s2 + 1 + 1, 1, none⟩ b).setCell ⟨s2 + 1 + 1, 2, none⟩ c).drewN n) out T #[.bool true, .slice none 0 0, .slice (some ⟨s2 + 1 + 1, 0, none⟩) 1 cap] ∧
    Blk (((((((W5.alloc (.cells z T)).alloc (.cells (#[p, q, r] ++ Z) T)).setCell ⟨out, 2, none⟩ (.slice (some ⟨s2 + 1 + 1, 0, none⟩) 1 cap)).setCell ⟨s2 + 1 + 1, 0, none⟩ a).setCell ⟨s2 + 1 + 1, 1, none⟩ b).setCell ⟨s2 + 1 + 1, 2, none⟩ c).drewN n) (s2 + 1 + 1) T (#[a, b, c] ++ Z) := by
  obtain ⟨m, bO, bN⟩ := fin_a (z := z) (y := #[p, q, r] ++ Z) (cap := cap) bO5 hs 0
  have hlt := bO5.lt
  have e : ((((#[p, q, r] ++ Z).setIfInBounds 0 a).setIfInBounds 1 b).setIfInBounds 2 c) = #[a, b, c] ++ Z := by
    apply Array.toList_inj.1
    simp
  refine ⟨(((m.set (p := ⟨s2 + 1 + 1, 0, none⟩) (.inr (by simp; omega)) _).set (p := ⟨s2 + 1 + 1, 1, none⟩) (.inr (by simp; omega)) _).set (p := ⟨s2 + 1 + 1, 2, none⟩) (.inr (by simp; omega)) _).drewN n, ?_, ?_⟩
  · exact (((bO.far (p := ⟨s2 + 1 + 1, 0, none⟩) (by simp; omega) _).far (p := ⟨s2 + 1 + 1, 1, none⟩) (by simp; omega) _).far (p := ⟨s2 + 1 + 1, 2, none⟩) (by simp; omega) _).drewN n
  · rw [← e]
    exact (((bN.set_ 0 a).set_ 1 b).set_ 2 c).drewN n
structure AfterE (W W4 : World) (D : Nat) : Prop where
  mk ::
  trans' : ∀ a b c : Value, Ext W ((((W4.setCell ⟨W.heap.size, 0, none⟩ a).setCell ⟨W.heap.size, 1, none⟩ b).setCell ⟨W.heap.size, 2, none⟩ c).putObj D (.deferred none))
end Go.Proofs.CV
