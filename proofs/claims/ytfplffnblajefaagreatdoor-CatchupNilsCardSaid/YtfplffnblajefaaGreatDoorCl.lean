/- Proved here: contracts of functions of the program, each for every input that its premises name. -/
import Derived.Test.YtfplffnblajefaaGreatDoorProg
import Derived.Deep.DeepCutAuto
import Derived.Deep.MidRow
import Derived.Outline
import Derived.WalkKit
import Derived.WalkSpells
import Derived.WalkLawsBesides
import Derived.Deep.QuietTactic
import Derived.BigQuiet
import Derived.Deep.LoopGhost
import Derived.Recover
import Derived.Deep.RegionWith
import Derived.Deep.RegionLaw
import Derived.Deep.RegionHeld3
import Derived.StillTailTactics
import Derived.Deep.DeepFit
import Derived.Defers
import Derived.Sort.CutIn
import Derived.Laws.IdiomStrings
import Derived.Test.YtfplffnblajefaaGreatDoorShelf
import Derived.Test.YtfplffnblajefaaGreatDoorCvWords
import Derived.Test.YtfplffnblajefaaGreatDoorCvBase
import Derived.Test.YtfplffnblajefaaGreatDoorCvRange
import Derived.Test.YtfplffnblajefaaGreatDoorWord1
import Derived.Test.YtfplffnblajefaaGreatDoorWord2
namespace Go.Proofs.CV
open Go.RowKit
set_option linter.unusedVariables false
set_option linter.unusedSimpArgs false
set_option linter.unnecessarySimpa false
set_option linter.unusedVariables false
theorem info_u8 : (Tryz.prog.info? 5).map (fun i => (i.zero, i.size, i.bytes)) = some (some (.int .u8 0), 1, 1) := by kernel_rfl
theorem Rd.of_own {w : World} {base : Nat} {e : TypeId} {v : Value} {n : Nat} {xs : List Value} (h : w.ownsRow base e 1 v n xs) : ∃ A c, v = .slice A n c ∧ n ≤ c ∧ Rd w A n xs := by
  rcases h.2 with ⟨rfl, rfl⟩ | ⟨g, cap, cur, rfl, _, _, hnc, _⟩
  · exact ⟨none, 0, rfl, Nat.le_refl _, Reads.of_own h⟩
  · exact ⟨_, cap, rfl, hnc, Reads.of_own h⟩
theorem b8_one {xs : List Int} : ∀ u ∈ b8 xs, u.oneCell' = true := by
  intro u hu; simp only [b8, List.mem_map] at hu; obtain ⟨x, _, rfl⟩ := hu; rfl
theorem own_empty (w : World) (base : Nat) (hb : base ≤ w.heap.size) (e : TypeId) (s : Nat) : (w.alloc (.cells #[] e)).ownsRow base e s (.slice (some ⟨w.heap.size, 0, none⟩) 0 0) 0 [] :=
  ⟨by simp, .inr ⟨w.heap.size, 0, #[], rfl, hb, heap_alloc_new w _, Nat.le_refl _, by simp [maxLen], by simp, by simp⟩⟩
theorem own_base' {w : World} {base : Nat} {e : TypeId} {s n : Nat} {v : Value} {xs : List Value} (h : w.ownsRow base e s v n xs) (k : Nat) (hk : v.ownBlock = some k) : base ≤ k := by
  rcases h.2 with ⟨rfl, rfl⟩ | ⟨g, cap, cur, rfl, hb, _⟩
  · simp [Value.ownBlock] at hk
  · simp [Value.ownBlock] at hk; omega
set_option maxRecDepth 100000 in
set_option maxHeartbeats 400000 in
theorem clone_any (A : Option Addr) (n c : Nat) (xs : List Int) (w : World) (hr : Rd w A n (b8 xs)) (hn : n ≤ 140737488355328) :
    Calls Tryz.prog 68 #[.slice A n c] w fun e w' => Ext w w' ∧ ∃ A' c', e = .returned (.slice A' n c') ∧ Rd w' A' n (b8 xs) ∧ ∀ ad, A' = some ad → w.heap.size ≤ ad.block := by
  have q := fun (w : World) (a : Option Addr) (n c n' c' : Nat) => (Lib.run_eql_slice_nil w _ _ a n c n' c' Tryz.underlying22 : (binOp .eql 22 (.slice a n c) (.slice none n' c')).run Tryz.prog w = .ok (.bool a.isNone) w)
  rcases A with _ | ad
  · have h0 : n = 0 := by
      rcases Nat.eq_zero_or_pos n with h | h
      · exact h
      · obtain ⟨ad, h, _⟩ := hr.2 h; cases h
    subst h0
    go_enter Tryz.func68, Tryz.ntmps68
    go_wp2
    go_ret
    exact ⟨Ext.refl _, none, 0, rfl, hr, fun ad h => by cases h⟩
  · obtain ⟨i0, hi, hz0, hz1, hz2⟩ := info_parts info_u8
    go_enter Tryz.func68, Tryz.ntmps68
    go_wp2_with (at_builtin; refine wpList_append_any _ rfl (.tmp 5) (.tmp 6) _ rfl w.heap.size 5 i0 _ 1 1 Tryz.underlying22 hi hz0 hz1 hz2 rfl (by omega) (.slice (some ⟨w.heap.size, 0, none⟩) 0 0) 0 [] rfl (own_empty w _ (Nat.le_refl _) _ _) (w.heap.size + 1) (some ad) n c (b8 xs) rfl ((hr.ext ((Ext.refl w).alloc _)).more (by simp)) b8_one ?_ (by omega) (by simp) ?_; rotate_left; intro v1 w1 hown1 hg1 hat1; have hbase := own_base' hown1; obtain ⟨A', c', rfl, hc', hrd⟩ := Rd.of_own hown1)
    · go_ret
      refine ⟨((Ext.refl w).alloc _).grown hg1 (fun k hk => by simp only [Value.ownBlock, Option.some.injEq] at hk; omega), A', c', by simp, by simpa using hrd, fun ad h => by subst h; exact hbase ad.block rfl⟩
    · unfold maxLen; omega

inductive Tree where
  | str (bs : List Int)
  | list (ts : List Tree)
abbrev Cells3 := Value × Value × Value
def agg3 (x : Cells3) : Value := .agg #[x.1, x.2.1, x.2.2]
inductive IsItem (ok : Nat → Prop) (w : World) : Cells3 → Tree → Prop where
  | str {A : Option Addr} {n c : Nat} {A' : Option Addr} {c' : Nat} {bs : List Int} (h : Rd w A n (b8 bs)) (ho : Ok ok A n) : IsItem ok w (.bool false, .slice A n c, .slice A' 0 c') (.str bs)
  | list {A : Option Addr} {c : Nat} {A' : Option Addr} {n c' g o : Nat} {f : Nat → Cells3} {ts : List Tree} (hn : ts.length = n) (hA : 0 < n → A' = some ⟨g, o, none⟩) (hg : 0 < n → g < w.heap.size) (ho : 0 < n → ok g)
      (hc : ∀ i, i < n → w.cell? ⟨g, o + i * 3, none⟩ = some (f i).1 ∧ w.cell? ⟨g, o + i * 3 + 1, none⟩ = some (f i).2.1 ∧ w.cell? ⟨g, o + i * 3 + 2, none⟩ = some (f i).2.2)
      (ht : ∀ i t, ts[i]? = some t → IsItem ok w (f i) t) : IsItem ok w (.bool true, .slice A 0 c, .slice A' n c') (.list ts)
variable {ok ok' : Nat → Prop}
theorem IsItem.ext {w w' : World} {x : Cells3} {t : Tree} (h : IsItem ok w x t) (e : Ext w w') : IsItem ok w' x t := by
  induction h with
  | str h ho => exact .str (h.ext e) ho
  | list hn hA hg ho hc ht ih =>
    refine .list hn hA (fun h => e.lt (hg h)) ho (fun i hi => ?_) (fun i t h => ih i t h)
    have hb := hg (by omega)
    rw [e.cell hb, e.cell hb, e.cell hb]
    exact hc i hi
theorem IsItem.mono {w : World} {x : Cells3} {t : Tree} (h : IsItem ok w x t) (k : ∀ b, ok b → ok' b) : IsItem ok' w x t := by
  induction h with
  | str h ho => exact .str h (ho.mono k)
  | list hn hA hg ho hc ht ih => exact .list hn hA hg (fun h => k _ (ho h)) hc (fun i t h => ih i t h)
theorem IsItem.far {w : World} {x : Cells3} {t : Tree} (h : IsItem ok w x t) {p : Addr} (hp : ¬ ok p.block) (u : Value) : IsItem ok (w.setCell p u) x t := by
  induction h with
  | str h ho => exact .str (h.far (fun hn ad e e' => hp (e' ▸ ho hn ad e)) u) ho
  | list hn hA hg ho hc ht ih =>
    refine .list hn hA (fun h => by simpa [World.setCell] using hg h) ho (fun i hi => ?_) (fun i t h => ih i t h)
    have hk := ho (by omega)
    have hne : ∀ j, p ≠ ⟨_, j, none⟩ := fun j e => hp (by rw [e]; exact hk)
    rw [World.cell?_setCell_other _ _ _ _ (hne _), World.cell?_setCell_other _ _ _ _ (hne _), World.cell?_setCell_other _ _ _ _ (hne _)]
    exact hc i hi
end Go.Proofs.CV
