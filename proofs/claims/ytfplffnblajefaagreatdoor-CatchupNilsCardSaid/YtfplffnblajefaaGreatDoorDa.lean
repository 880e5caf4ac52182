/- Proved here: contracts of functions of the program, each for every input that its premises name. -/
import Derived.Test.YtfplffnblajefaaGreatDoorProg
import Derived.Deep.DeepCutAuto
import Derived.Deep.MidRow
import Derived.Outline
import Derived.WalkKit
import Derived.WalkSpells
import Derived.WalkLawsBesides
import Derived.Deep.QuietTactic
import Derived.BigQuiet
import Derived.Deep.LoopGhost
import Derived.Recover
import Derived.Deep.RegionWith
import Derived.Deep.RegionLaw
import Derived.Deep.RegionHeld3
import Derived.StillTailTactics
import Derived.Deep.DeepFit
import Derived.Defers
import Derived.Sort.CutIn
import Derived.Laws.IdiomStrings
import Derived.Test.YtfplffnblajefaaGreatDoorShelf
import Derived.Test.YtfplffnblajefaaGreatDoorCvWords
import Derived.Test.YtfplffnblajefaaGreatDoorCvBase
import Derived.Test.YtfplffnblajefaaGreatDoorCvRange
import Derived.Test.YtfplffnblajefaaGreatDoorWord1
import Derived.Test.YtfplffnblajefaaGreatDoorWord2
import Derived.Test.YtfplffnblajefaaGreatDoorCl
import Derived.Test.YtfplffnblajefaaGreatDoorSt
import Derived.Test.YtfplffnblajefaaGreatDoorHd
import Derived.Test.YtfplffnblajefaaGreatDoorEn
import Derived.Test.YtfplffnblajefaaGreatDoorCa
import Derived.Test.YtfplffnblajefaaGreatDoorIt
import Derived.Test.YtfplffnblajefaaGreatDoorAsk
import Derived.Test.YtfplffnblajefaaGreatDoorDec
import Derived.Test.YtfplffnblajefaaGreatDoorDec3
import Derived.Test.YtfplffnblajefaaGreatDoorFin
import Derived.Test.YtfplffnblajefaaGreatDoorDec2
import Derived.Test.YtfplffnblajefaaGreatDoorFi
namespace Go.Proofs.CV
open Go.RowKit
set_option linter.unusedVariables false
set_option linter.unusedSimpArgs false
set_option linter.unnecessarySimpa false
set_option linter.unusedVariables false
attribute [local go_sem] Oper.semAt_some
variable {ok ok' : Nat → Prop}
set_option maxRecDepth 100000 in
set_option maxHeartbeats 1000000 in
theorem decode_one (g o c : Nat) (x : Int) (W : World) (hc0 : W.cell? ⟨g, o, none⟩ = some (.int .u8 193)) (hc1 : W.cell? ⟨g, o + 1, none⟩ = some (.int .u8 x)) (hg : g < W.heap.size) (hx : 0 ≤ x) (hx2 : x < 128) (hc : 2 ≤ c) :
    Calls Tryz.prog 58 #[.slice (some ⟨g, o, none⟩) 2 c] W fun e W' => Ext W W' ∧ ∃ y, e = .returned (.tuple #[agg3 y, .int .i64 0]) ∧ IsItem (Fresh W) W' y (.list [.str [x]]) := by
  have H1 := Lib.hid (fun W1 (h : Ext W W1) => first_one g o c x W1 ((h.cell hg o).trans hc0) ((h.cell hg (o + 1)).trans hc1) (h.lt hg) hx hx2 hc)
  go_enter Tryz.func58, Tryz.ntmps58
  go_wp2_with (first | (go_at_call 116; refine (H1.out _ ((Ext.refl _).alloc _)).mono ?_; rintro e w2 ⟨he2, y, rfl, hy⟩; obtain ⟨xb, xA, xn, xc, xA', xn', xc', rfl⟩ := hy.shape; unfold agg3; obtain ⟨hc1, hf1⟩ := bcell he2; have hA := (Blk.new W 75 #[.bool false, .slice none 0 0, .slice none 0 0]).ext he2; have a3o := fun o => (hA.alloc o).c3; have fao := fun o i => (hA.alloc o).frozen i))
  have hlt := hA.lt
  have e9 := (((((((Ext.refl W).alloc _).trans he2).alloc (.cells #[.bool xb, .slice xA xn xc, .slice xA' xn' xc'] 75)).set (p := ⟨W.heap.size, 0, none⟩) (Nat.le_refl _) (.bool xb)).set (p := ⟨W.heap.size, 1, none⟩) (Nat.le_refl _) (.slice xA xn xc)).set (p := ⟨W.heap.size, 2, none⟩) (Nat.le_refl _) (.slice xA' xn' xc'))
  have y9 := ((hy.ext ((Ext.refl w2).alloc (.cells #[.bool xb, .slice xA xn xc, .slice xA' xn' xc'] 75))).far3 (B := W.heap.size) (by simp [Fresh] <;> omega) (.bool xb) (.slice xA xn xc) (.slice xA' xn' xc'))
  have cA : Blk _ _ _ #[.bool xb, .slice xA xn xc, .slice xA' xn' xc'] := ((((hA.alloc (.cells #[.bool xb, .slice xA xn xc, .slice xA' xn' xc'] 75)).set_ 0 (.bool xb)).set_ 1 (.slice xA xn xc)).set_ 2 (.slice xA' xn' xc'))
  obtain ⟨W9, hW9⟩ : ∃ W9, (((w2.alloc (.cells #[.bool xb, .slice xA xn xc, .slice xA' xn' xc'] 75)).setCell ⟨W.heap.size, 0, none⟩ (.bool xb)).setCell ⟨W.heap.size, 1, none⟩ (.slice xA xn xc)).setCell ⟨W.heap.size, 2, none⟩ (.slice xA' xn' xc') = W9 := ⟨_, rfl⟩
  rw [hW9] at e9 y9 cA ⊢
  obtain ⟨c0, c1, c2⟩ := cA.c3
  refine bodyPost_ret (v := .tuple #[.agg #[.bool xb, .slice xA xn xc, .slice xA' xn' xc'], .int .i64 0]) (by simp [results, Tryz.results58, go_sem, c0, c1, c2]) rfl ?_
  exact ⟨e9, (_, _, _), rfl, y9.mono (fun b hb => by simp [Fresh] at * <;> omega)⟩
theorem IsItem.listShape {w : World} {y : Cells3} {ts : List Tree} (h : IsItem ok w y (.list ts)) : ∃ A c A' c', y = (.bool true, .slice A 0 c, .slice A' ts.length c') := by
  cases h with
  | list hn hA hg ho hc ht => subst hn; exact ⟨_, _, _, _, rfl⟩
set_option maxRecDepth 100000 in
set_option maxHeartbeats 1000000 in
theorem items_one (g o c : Nat) (x : Int) (W : World) (hc0 : W.cell? ⟨g, o, none⟩ = some (.int .u8 193)) (hc1 : W.cell? ⟨g, o + 1, none⟩ = some (.int .u8 x)) (hg : g < W.heap.size) (hx : 0 ≤ x) (hx2 : x < 128) (hc : 2 ≤ c) :
    Calls Tryz.prog 25 #[.slice (some ⟨g, o, none⟩) 2 c, .int .i64 1] W fun e W' => Ext W W' ∧ ∃ A0 c0 A c', e = .returned (.tuple #[.slice A 1 c', .int .i64 0]) ∧ IsItem (Fresh W) W' (.bool true, .slice A0 0 c0, .slice A 1 c') (.list [.str [x]]) := by
  have H1 := Lib.hid (fun W1 (h : Ext W W1) => decode_one g o c x W1 ((h.cell hg o).trans hc0) ((h.cell hg (o + 1)).trans hc1) (h.lt hg) hx hx2 hc)
  go_enter Tryz.func25, Tryz.ntmps25
  go_wp2_with (first | (go_at_call 58; refine (H1.out _ (Ext.refl _)).mono ?_; rintro e w2 ⟨he2, y, rfl, hy⟩; obtain ⟨A0, c0, A1, c1, rfl⟩ := hy.listShape; simp only [List.length_cons, List.length_nil, Nat.zero_add] at hy ⊢; unfold agg3))
  refine bodyPost_ret (v := .tuple #[.slice A1 1 c1, .int .i64 0]) (by simp [results, Tryz.results25, go_sem]) rfl ?_
  exact ⟨he2.alloc _, _, _, _, _, rfl, hy.ext ((Ext.refl _).alloc _)⟩
set_option maxRecDepth 100000 in
set_option maxHeartbeats 1000000 in
theorem number_one (A A' : Option Addr) (n c n' c' : Nat) (x : Int) (W : World) (hy : IsItem ok W (.bool false, .slice A n c, .slice A' n' c') (.str [x])) (hx : 0 < x) (hw : wRead [x] = [x, 0, 0, 0]) (hx2 : x < 128) :
    Calls Tryz.prog 59 #[.agg #[.bool false, .slice A n c, .slice A' n' c'], .int .i64 8] W fun e W' => Ext W W' ∧ e = .returned (.tuple #[aWord x 0 0 0, .int .i64 0]) := by
  have hr : ∃ g o tag, A = some ⟨g, o, tag⟩ ∧ n = 1 ∧ g < W.heap.size ∧ W.cell? ⟨g, o, tag⟩ = some (.int .u8 x) ∧ Rd W A n (b8 [x]) := by
    cases hy with
    | str h ho =>
      have hl := h.len
      simp [b8] at hl
      subst hl
      obtain ⟨ad, rfl, hb, hcell⟩ := h.2 (by omega)
      have h0 := hcell 0 (.int .u8 x) (by simp [b8])
      rcases ad with ⟨g, o, tag⟩
      refine ⟨g, o, tag, rfl, rfl, hb, ?_, h⟩
      simpa [Addr.add] using h0
  obtain ⟨g, o, tag, rfl, rfl, hg, hc0, hr⟩ := hr
  have hcc : ∀ o1 o2, ((W.alloc o1).alloc o2).cell? ⟨g, o, tag⟩ = some (.int .u8 x) := fun o1 o2 => (Below.cell (((Ext.refl W).alloc o1).alloc o2) (p := ⟨g, o, tag⟩) hg).trans hc0
  have HR := Lib.hid hr
  clear hr hy
  have H1 := Lib.hid (fun W1 (h : Ext W W1) => read_any (some ⟨g, o, tag⟩) 1 c [x] W1 (HR.out.ext h) (by simp; omega) (by omega))
  have hx0 : decide (x = 0) = false := by simp; omega
  go_enter Tryz.func59, Tryz.ntmps59
  go_wp2_with (first | (go_at_call 117; refine (H1.out _ (((Ext.refl _).alloc _).alloc _)).mono ?_; rintro e w2 ⟨he2, a, b, c, d, ha, hb, hc, hd, hwr, rfl⟩; obtain ⟨hA, hB⟩ := two_blk he2; have a3 := hA.c3; have b4 := hB.c4; have fa := hA.frozen; have fb := hB.frozen; unfold aWord))
  have cB : Blk _ _ _ #[.int .u64 a, .int .u64 b, .int .u64 c, .int .u64 d] := (((hB.set_ 0 (.int .u64 a)).set_ 1 (.int .u64 b)).set_ 2 (.int .u64 c)).set_ 3 (.int .u64 d)
  have e9 := ((((((((Ext.refl W).alloc _).alloc _).trans he2).set (p := ⟨W.heap.size + 1, 0, none⟩) (by simp) (.int .u64 a)).set (p := ⟨W.heap.size + 1, 1, none⟩) (by simp) (.int .u64 b)).set (p := ⟨W.heap.size + 1, 2, none⟩) (by simp) (.int .u64 c)).set (p := ⟨W.heap.size + 1, 3, none⟩) (by simp) (.int .u64 d))
  obtain ⟨W9, hW9⟩ : ∃ W9, ((((w2.setCell ⟨W.heap.size + 1, 0, none⟩ (.int .u64 a)).setCell ⟨W.heap.size + 1, 1, none⟩ (.int .u64 b)).setCell ⟨W.heap.size + 1, 2, none⟩ (.int .u64 c)).setCell ⟨W.heap.size + 1, 3, none⟩ (.int .u64 d)) = W9 := ⟨_, rfl⟩
  rw [hW9] at e9 cB ⊢
  obtain ⟨k0, k1, k2, k3⟩ := cB.c4
  refine bodyPost_ret (v := .tuple #[aWord a b c d, .int .i64 0]) (by simp [aWord, results, Tryz.results59, go_sem, k0, k1, k2, k3]) rfl ?_
  have h9 := hw
  rw [h9] at hwr
  simp only [List.cons.injEq, and_true] at hwr
  obtain ⟨rfl, rfl, rfl, rfl⟩ := hwr
  exact ⟨e9, rfl⟩
set_option maxRecDepth 100000 in
set_option maxHeartbeats 1000000 in
theorem uint_one (y : Cells3) (x : Int) (W : World) (hy : IsItem ok W y (.str [x])) (hx : 0 < x) (hw : wRead [x] = [x, 0, 0, 0]) (hx2 : x < 128) :
    Calls Tryz.prog 26 #[agg3 y] W fun e W' => Ext W W' ∧ e = .returned (.tuple #[.int .u64 x, .int .i64 0]) := by
  have hs : ∃ A n c A' n' c', y = (.bool false, .slice A n c, .slice A' n' c') := by
    cases hy with
    | str h ho => exact ⟨_, _, _, _, _, _, rfl⟩
  obtain ⟨A, n, c, A', n', c', rfl⟩ := hs
  have H1 := Lib.hid (fun W1 (h : Ext W W1) => number_one A A' n c n' c' x W1 (hy.ext h) hx hw hx2)
  clear hy
  simp only [agg3]
  go_enter Tryz.func26, Tryz.ntmps26
  go_wp2_with (first | (go_at_call 59; refine (H1.out _ ((Ext.refl _).alloc _)).mono ?_; rintro e w2 ⟨he2, rfl⟩; unfold aWord))
  refine bodyPost_ret (v := .tuple #[.int .u64 x, .int .i64 0]) (by simp [results, Tryz.results26, go_sem]) rfl ?_
  exact ⟨(((Ext.refl W).alloc _).trans he2).alloc _, rfl⟩
theorem IsItem.list1 {w : World} {A0 A : Option Addr} {c0 c1 : Nat} {t : Tree} (h : IsItem ok w (.bool true, .slice A0 0 c0, .slice A 1 c1) (.list [t])) :
    ∃ g o y, A = some ⟨g, o, none⟩ ∧ g < w.heap.size ∧ (w.cell? ⟨g, o, none⟩ = some y.1 ∧ w.cell? ⟨g, o + 1, none⟩ = some y.2.1 ∧ w.cell? ⟨g, o + 2, none⟩ = some y.2.2) ∧ IsItem ok w y t := by
  cases h with
  | @list _ _ _ _ _ g o f _ hn hA hg ho hc ht => exact ⟨g, o, f 0, hA (by omega), hg (by omega), by simpa using hc 0 (by omega), ht 0 t rfl⟩
set_option maxRecDepth 100000 in
set_option maxHeartbeats 1000000 in
theorem decodeAsk_one (g o c : Nat) (x : Int) (W : World) (hc0 : W.cell? ⟨g, o, none⟩ = some (.int .u8 193)) (hc1 : W.cell? ⟨g, o + 1, none⟩ = some (.int .u8 x)) (hg : g < W.heap.size) (hx : 0 < x) (hw : wRead [x] = [x, 0, 0, 0]) (hx2 : x < 128) (hc : 2 ≤ c) :
    Calls Tryz.prog 11 #[.slice (some ⟨g, o, none⟩) 2 c] W fun e W' => Ext W W' ∧ e = .returned (.tuple #[.int .u64 x, .int .i64 0]) := by
  have H1 := Lib.hid (fun W1 (h : Ext W W1) => items_one g o c x W1 ((h.cell hg o).trans hc0) ((h.cell hg (o + 1)).trans hc1) (h.lt hg) (by omega) hx2 hc)
  go_enter Tryz.func11, Tryz.ntmps11
  go_wp2_with (first | (go_at_call 25; refine (H1.out _ (Ext.refl _)).mono ?_; rintro e w2 ⟨he2, A0, c0, A, c1, rfl, hy⟩; obtain ⟨g2, o2, y, rfl, hg2, hc2, hy2⟩ := hy.list1; have HU := Lib.hid (uint_one _ _ _ hy2 hx hw hx2); obtain ⟨yb, yA, yn, yc, yA', yn', yc', rfl⟩ := hy2.shape; dsimp only at hc2; simp only [agg3] at HU; clear hy hy2) | (go_at_call 26; refine HU.out.mono ?_; rintro e w3 ⟨he3, rfl⟩))
  refine bodyPost_ret (v := .tuple #[.int .u64 x, .int .i64 0]) (by simp [results, Tryz.results11, go_sem]) rfl ?_
  exact ⟨he2.trans he3, rfl⟩
theorem w5 : wRead [5] = [5, 0, 0, 0] := by decide +kernel
end Go.Proofs.CV
