/- Proved here: contracts of functions of the program, each for every input that its premises name. -/
import Derived.Test.YtfplffnblajefaaGreatDoorProg
import Derived.Deep.DeepCutAuto
import Derived.Deep.MidRow
import Derived.Outline
import Derived.WalkKit
import Derived.WalkSpells
import Derived.WalkLawsBesides
import Derived.Deep.QuietTactic
import Derived.BigQuiet
import Derived.Deep.LoopGhost
import Derived.Recover
import Derived.Deep.RegionWith
import Derived.Deep.RegionLaw
import Derived.Deep.RegionHeld3
import Derived.StillTailTactics
import Derived.Deep.DeepFit
import Derived.Defers
import Derived.Sort.CutIn
import Derived.Laws.IdiomStrings
import Derived.Test.YtfplffnblajefaaGreatDoorShelf
import Derived.Test.YtfplffnblajefaaGreatDoorCvWords
import Derived.Test.YtfplffnblajefaaGreatDoorCvBase
import Derived.Test.YtfplffnblajefaaGreatDoorCvRange
import Derived.Test.YtfplffnblajefaaGreatDoorWord1
import Derived.Test.YtfplffnblajefaaGreatDoorWord2
import Derived.Test.YtfplffnblajefaaGreatDoorCl
import Derived.Test.YtfplffnblajefaaGreatDoorSt
import Derived.Test.YtfplffnblajefaaGreatDoorHd
import Derived.Test.YtfplffnblajefaaGreatDoorEn
namespace Go.Proofs.CV
open Go.RowKit
set_option linter.unusedVariables false
set_option linter.unusedSimpArgs false
set_option linter.unnecessarySimpa false
set_option linter.unusedVariables false
variable {ok ok' : Nat → Prop}
theorem assert_fault (k : Int) (w : World) : (Instr.typeAssert (.iface 214 (.int .i64 k)) 20 214 true).run Tryz.prog w = .ok (.tuple #[.int .i64 k, .bool true]) w := by kernel_rfl
theorem tmps_eq {P : Program} {c : Code} {Q : Exit → Act → World → Prop} {a b : Act} {w : World} (h : a = b) (k : c.wp P Q b w) : c.wp P Q a w := h ▸ k
set_option maxRecDepth 100000 in
theorem caught_idle (p : Addr) (w : World) :
    CallsD Tryz.prog 65 #[.pointer (some p)] .returning w fun e u' w' => e = .returned (.tuple #[]) ∧ u' = .returning ∧ w = w' := by
  refine callsD_of_wpS Tryz.func65 rfl fun c₀ cs hu => ?_
  apply wpS_seq
  apply wpS_region
  simp [wpOpsS, go_sem, recoverD, hu, Tryz.ntmps65, Exit.thenS]
  refine wpS_of_wp ?_
  refine tmps_eq (b := { tmps := #[.pointer (some p), undef, .nilIface, undef, undef, .nilIface, undef, undef, undef, undef, undef, undef, undef, undef, undef, undef, undef, undef, undef], defers := [] }) (by kernel_rfl) ?_
  go_wp2
  cases c₀
  simp_all [bodyPostS, results, Tryz.results65]
set_option maxRecDepth 100000 in
theorem caught_pan (p : Addr) (k : Int) (x : Int) (w : World) (hc : w.cell? p = some (.int .i64 x)) (hz : w.frozen? p = false) :
    CallsD Tryz.prog 65 #[.pointer (some p)] (.panicking [{ v := faultV k, recovered := false }]) w fun e u' w' => e = .returned (.tuple #[]) ∧ u' = .panicking [{ v := faultV k, recovered := true }] ∧ w.setCell p (.int .i64 k) = w' := by
  refine callsD_of_wpS Tryz.func65 rfl fun c₀ cs hu => ?_
  unfold faultV at hu ⊢
  have hta := assert_fault k
  apply wpS_seq
  apply wpS_region
  simp [wpOpsS, go_sem, recoverD, hu, Tryz.ntmps65, Exit.thenS]
  refine wpS_of_wp ?_
  refine tmps_eq (b := { tmps := #[.pointer (some p), undef, .iface 214 (.int .i64 k), undef, undef, .iface 214 (.int .i64 k), undef, undef, undef, undef, undef, undef, undef, undef, undef, undef, undef, undef, undef], defers := [] }) (by kernel_rfl) ?_
  go_wp2
  simp [bodyPostS, results, Tryz.results65]

theorem two_blk {W w1 : World} {X Y : Array Value} {t t' : TypeId} (h : Ext ((W.alloc (.cells X t)).alloc (.cells Y t')) w1) : Blk w1 W.heap.size t X ∧ Blk w1 (W.heap.size + 1) t' Y :=
  ⟨((Blk.new W t X).alloc _).ext h, (Blk.new1 W t t' X Y).ext h⟩
def encTop (t : Tree) : Option (List Int) := (encF 16 t).bind fun bs => if bs.length ≤ 65536 then some bs else none
def EncodePost (r : Option (List Int)) (W : World) (e : Ending) (W' : World) : Prop := Ext W W' ∧
  match r with
  | some bs => ∃ A c, e = .returned (.tuple #[.slice A bs.length c, .int .i64 0]) ∧ Rd W' A bs.length (b8 bs)
  | none => e = .returned (.tuple #[.slice none 0 0, .int .i64 3])
set_option maxRecDepth 100000 in
set_option maxHeartbeats 800000 in
theorem encode_any (W : World) (x : Cells3) (t : Tree) (h : IsItem ok W x t) (hs : t.Small) : Calls Tryz.prog 30 #[agg3 x] W (EncodePost (encTop t) W) := by
  obtain ⟨xb, xA, xn, xc, xA', xn', xc', rfl⟩ := h.shape
  have HST := Lib.hid (stands_aux W _ t h hs)
  have HEN := Lib.hid (enc_any W _ t h hs 16 0 0)
  clear h
  simp only [agg3] at HST HEN ⊢
  cases hE : encF 16 t with
  | none =>
    have hT : encTop t = none := by unfold encTop; rw [hE]; rfl
    rw [hT]; rw [hE] at HEN
    clear hT hE
    go_enter_defers Tryz.func30, Tryz.ntmps30
    go_wp2_with (first | (go_at_call 64; refine (HST.out _ (((Ext.refl _).alloc _).alloc _)).mono ?_; rintro e w1 ⟨rfl, he1⟩; obtain ⟨hA, hB⟩ := two_blk he1; have a3 := hA.c3) | (go_at_call 66; refine (HEN.out _ trivial rfl ((((Ext.refl _).alloc _).alloc _).trans he1)).mono ?_; rintro e w2 ⟨he2, rfl⟩; have hB2 := hB.ext he2))
    refine leaves_cons (f := 65) (args := #[.pointer (some ⟨W.heap.size + 1, 0, none⟩)]) (by simp) (by simp [go_sem]) ?_
    refine (caught_pan _ _ _ _ hB2.c1 (hB2.frozen 0)).mono ?_
    rintro e u' w'' ⟨rfl, rfl, rfl⟩
    have c3 := (hB2.set_ 0 (.int .i64 3)).cell 0
    simp [Leaves, settle, results, Tryz.results30, go_sem, c3]
    exact ⟨(((Ext.refl W).alloc _).alloc _ |>.trans he1 |>.trans he2).set (by simp) _, rfl⟩
  | some bs =>
    rw [hE] at HEN
    by_cases hlen : bs.length ≤ 65536
    · have hT : encTop t = some bs := by unfold encTop; rw [hE]; simp [hlen]
      rw [hT]; clear hT hE
      have hlen2 : (bs.length : Int) ≤ 65536 := by omega
      go_enter_defers Tryz.func30, Tryz.ntmps30
      go_wp2_with (first | (go_at_call 64; refine (HST.out _ (((Ext.refl _).alloc _).alloc _)).mono ?_; rintro e w1 ⟨rfl, he1⟩; obtain ⟨hA, hB⟩ := two_blk he1; have a3 := hA.c3) | (go_at_call 66; refine (HEN.out _ trivial rfl ((((Ext.refl _).alloc _).alloc _).trans he1)).mono ?_; rintro e w2 ⟨he2, A2, c2, rfl, hr2⟩; have hB2 := hB.ext he2) | (go_at_call 67; refine (ask_yes _ _).mono ?_; rintro e w3 ⟨rfl, rfl⟩) | (go_at_call 68; refine (clone_any _ _ _ _ _ hr2 (by omega)).mono ?_; rintro e w4 ⟨he4, A4, c4, rfl, hr4, hn4⟩; have hB4 := hB2.ext he4; have b4 := hB4.c1; have f4 := hB4.frozen 0))
      refine leaves_cons (f := 65) (args := #[.pointer (some ⟨W.heap.size + 1, 0, none⟩)]) (by simp) (by simp [go_sem]) ?_
      refine (caught_idle _ _).mono ?_
      rintro e u' w'' ⟨rfl, rfl, rfl⟩
      have c3 := (hB4.set_ 0 (.int .i64 0)).cell 0
      simp [Leaves, settle, results, Tryz.results30, go_sem, c3]
      exact ⟨((((Ext.refl W).alloc _).alloc _ |>.trans he1 |>.trans he2).trans he4).set (by simp) _, A4, c4, rfl, hr4.far (fun _ ad h => by have := hn4 ad h; have := hB2.lt; simp; omega) _⟩
    · have hT : encTop t = none := by unfold encTop; rw [hE]; simp [hlen]
      rw [hT]; clear hT hE
      have hlen2 : (65536 : Int) < (bs.length : Int) := by omega
      have hdl : decide ((bs.length : Int) ≤ 65536) = false := by simp only [decide_eq_false_iff_not]; omega
      go_enter_defers Tryz.func30, Tryz.ntmps30
      go_wp2_with (first | (go_at_call 64; refine (HST.out _ (((Ext.refl _).alloc _).alloc _)).mono ?_; rintro e w1 ⟨rfl, he1⟩; obtain ⟨hA, hB⟩ := two_blk he1; have a3 := hA.c3) | (go_at_call 66; refine (HEN.out _ trivial rfl ((((Ext.refl _).alloc _).alloc _).trans he1)).mono ?_; rintro e w2 ⟨he2, A2, c2, rfl, hr2⟩; have hB2 := hB.ext he2) | (go_at_call 67; refine (ask_no _ _).mono ?_; rintro e w3 ⟨rfl, rfl⟩))
      refine leaves_cons (f := 65) (args := #[.pointer (some ⟨W.heap.size + 1, 0, none⟩)]) (by simp) (by simp [go_sem]) ?_
      refine (caught_pan _ _ _ _ hB2.c1 (hB2.frozen 0)).mono ?_
      rintro e u' w'' ⟨rfl, rfl, rfl⟩
      have c3 := (hB2.set_ 0 (.int .i64 3)).cell 0
      simp [Leaves, settle, results, Tryz.results30, go_sem, c3]
      exact ⟨(((Ext.refl W).alloc _).alloc _ |>.trans he1 |>.trans he2).set (by simp) _, rfl⟩
end Go.Proofs.CV
