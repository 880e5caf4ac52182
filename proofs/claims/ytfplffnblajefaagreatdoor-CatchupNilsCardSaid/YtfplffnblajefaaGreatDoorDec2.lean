/- Proved here: contracts of functions of the program, each for every input that its premises name. -/
import Derived.Test.YtfplffnblajefaaGreatDoorProg
import Derived.Deep.DeepCutAuto
import Derived.Deep.MidRow
import Derived.Outline
import Derived.WalkKit
import Derived.WalkSpells
import Derived.WalkLawsBesides
import Derived.Deep.QuietTactic
import Derived.BigQuiet
import Derived.Deep.LoopGhost
import Derived.Recover
import Derived.Deep.RegionWith
import Derived.Deep.RegionLaw
import Derived.Deep.RegionHeld3
import Derived.StillTailTactics
import Derived.Deep.DeepFit
import Derived.Defers
import Derived.Sort.CutIn
import Derived.Laws.IdiomStrings
import Derived.Test.YtfplffnblajefaaGreatDoorShelf
import Derived.Test.YtfplffnblajefaaGreatDoorCvWords
import Derived.Test.YtfplffnblajefaaGreatDoorCvBase
import Derived.Test.YtfplffnblajefaaGreatDoorCvRange
import Derived.Test.YtfplffnblajefaaGreatDoorWord1
import Derived.Test.YtfplffnblajefaaGreatDoorWord2
import Derived.Test.YtfplffnblajefaaGreatDoorCl
import Derived.Test.YtfplffnblajefaaGreatDoorSt
import Derived.Test.YtfplffnblajefaaGreatDoorHd
import Derived.Test.YtfplffnblajefaaGreatDoorEn
import Derived.Test.YtfplffnblajefaaGreatDoorCa
import Derived.Test.YtfplffnblajefaaGreatDoorIt
import Derived.Test.YtfplffnblajefaaGreatDoorAsk
import Derived.Test.YtfplffnblajefaaGreatDoorDec
import Derived.Test.YtfplffnblajefaaGreatDoorDec3
import Derived.Test.YtfplffnblajefaaGreatDoorFin
namespace Go.Proofs.CV
open Go.RowKit
set_option linter.unusedVariables false
set_option linter.unusedSimpArgs false
set_option linter.unnecessarySimpa false
set_option linter.unusedVariables false
attribute [local go_sem] Oper.semAt_some
variable {ok ok' : Nat → Prop}
set_option maxRecDepth 100000 in
set_option maxHeartbeats 0 in
theorem list1_any (g o c : Nat) (x : Int) (W : World) (hc0 : W.cell? ⟨g, o, none⟩ = some (.int .u8 193)) (hc1 : W.cell? ⟨g, o + 1, none⟩ = some (.int .u8 x)) (hg : g < W.heap.size) (hx : 0 ≤ x) (hx2 : x < 128) (hc : 2 ≤ c) :
    Calls Tryz.prog 170 #[.slice (some ⟨g, o, none⟩) 2 c, .int .i64 0] W fun e W' => Ext W W' ∧ ∃ y, e = .returned (.tuple #[agg3 y, .int .i64 2]) ∧ IsItem (Fresh W) W' y (.list [.str [x]]) := by
  have d0 := (Below.cell ((Ext.refl W).alloc (.cells #[.bool false, .slice none 0 0, .slice none 0 0] 75)) (p := ⟨g, o, none⟩) hg).trans hc0
  have d1 := (Below.cell ((Ext.refl W).alloc (.cells #[.bool false, .slice none 0 0, .slice none 0 0] 75)) (p := ⟨g, o + 1, none⟩) hg).trans hc1
  refine (callsIn_wide (n := 6)).1 ?_
  refine callsIn_of_wp_marks Tryz.func170 rfl trivial ?_ rfl
  simp only [Tryz.ntmps170, List.size_toArray, List.length_cons, List.length_nil, Nat.reduceAdd, Nat.reduceSub, Array.replicate_succ, Array.replicate_zero, List.push_toArray, List.append_toArray, List.nil_append, List.cons_append]
  gi_wp2_with (first | (refine ⟨trivial, ?_⟩; gi_at_call 67; refine (callsIn_wide.2 (ask_yes _ _)).mono ?_; rintro e w1 ⟨rfl, rfl⟩) | (refine ⟨trivial, ?_⟩; gi_at_call 237; refine (callsIn_wide.2 (opened_small _ _ _ 192 1 _ d0 (by omega) (by omega) (by omega) (by omega) (by omega))).mono ?_; rintro e w2 ⟨rfl, rfl⟩) | (refine ⟨trivial, ?_⟩; gi_at_call 238; refine (callsIn_wide.2 (parts_any _ _ _ _ _ _)).mono ?_; rintro e w3 ⟨rfl, rfl⟩))
  obtain ⟨W0, hW0⟩ : ∃ W0, ((((W.alloc (Obj.cells #[Value.bool false, Value.slice none 0 0, Value.slice none 0 0] 75)).alloc (Obj.cells #[Value.bool true, Value.slice none 0 0, Value.slice none 0 0] 75)).alloc (.cells #[.slice (some ⟨g, o + 1, none⟩) 1 (c - 1)] 22)).alloc (.cells #[.int .i64 1] 3)).alloc (.cells #[.int .i64 1] 3) = W0 := ⟨_, rfl⟩
  rw [hW0]
  have hsz : W.heap.size + 5 ≤ W0.heap.size := by rw [← hW0]; simp
  have he0 : Ext W W0 := by rw [← hW0]; exact (((((Ext.refl W).alloc _).alloc _).alloc _).alloc _).alloc _
  have bR : Blk W0 W.heap.size 75 #[Value.bool false, Value.slice none 0 0, Value.slice none 0 0] := by rw [← hW0]; exact ((((Blk.new W _ _).alloc _).alloc _).alloc _).alloc _
  have bb : Blk W0 (W.heap.size + 2) 22 #[.slice (some ⟨g, o + 1, none⟩) 1 (c - 1)] := by rw [← hW0]; have := ((Blk.new ((W.alloc (Obj.cells #[Value.bool false, Value.slice none 0 0, Value.slice none 0 0] 75)).alloc (Obj.cells #[Value.bool true, Value.slice none 0 0, Value.slice none 0 0] 75)) 22 #[.slice (some ⟨g, o + 1, none⟩) 1 (c - 1)]).alloc (.cells #[.int .i64 1] 3)).alloc (.cells #[.int .i64 1] 3); simpa using this
  have bn : Blk W0 (W.heap.size + 3) 3 #[.int .i64 1] := by rw [← hW0]; have := (Blk.new (((W.alloc (Obj.cells #[Value.bool false, Value.slice none 0 0, Value.slice none 0 0] 75)).alloc (Obj.cells #[Value.bool true, Value.slice none 0 0, Value.slice none 0 0] 75)).alloc (.cells #[.slice (some ⟨g, o + 1, none⟩) 1 (c - 1)] 22)) 3 #[.int .i64 1]).alloc (.cells #[.int .i64 1] 3); simpa using this
  have bd : Blk W0 (W.heap.size + 4) 3 #[.int .i64 1] := by rw [← hW0]; have := Blk.new ((((W.alloc (Obj.cells #[Value.bool false, Value.slice none 0 0, Value.slice none 0 0] 75)).alloc (Obj.cells #[Value.bool true, Value.slice none 0 0, Value.slice none 0 0] 75)).alloc (.cells #[.slice (some ⟨g, o + 1, none⟩) 1 (c - 1)] 22)).alloc (.cells #[.int .i64 1] 3)) 3 #[.int .i64 1]; simpa using this
  have bO : Blk W0 (W.heap.size + 1) 75 #[Value.bool true, Value.slice none 0 0, Value.slice none 0 0] := by rw [← hW0]; exact (((Blk.new1 W _ _ _ _).alloc _).alloc _).alloc _
  clear hW0
  refine rf_direct rfl (by omega) (gf := 295) (lb := #[.pointer (some ⟨W.heap.size + 3, 0, none⟩), .pointer (some ⟨W.heap.size + 2, 0, none⟩), .pointer (some ⟨W.heap.size + 4, 0, none⟩)]) rfl trivial (enters_of Tryz.func295 (by kernel_rfl) rfl) ?_
  intro fn _
  refine with_world ?_
  intro W1 hL1 hK1 he1 hz1
  have HZ := Lib.hid hz1
  refine (parts1_one (W0.heap.size + 1) (W.heap.size + 3) (W.heap.size + 2) (W.heap.size + 4) g (o + 1) (c - 1) x 1 W1 (fun b => b = W.heap.size + 1 ∨ b = W0.heap.size + 1) (fun y W' => AfterOne W W0 W1 x W') (bn.ext he1) (bb.ext he1) (bd.ext he1) (((he0.trans he1).cell hg (o + 1)).trans hc1) (by omega) hx hx2 (by omega) (by omega) ?_).mono ?_
  · intro W2 y he2 hy
    obtain ⟨xb, xA, xn, xc, xA', xn', xc', rfl⟩ := hy.shape
    have hL2 := (he2.below.block _ (Array.getElem?_eq_some_iff.1 hL1).1).trans hL1
    have bO2 := (bO.ext he1).ext he2
    refine yield_direct trivial hL2 rfl ?_
    have hfz := bO2.frozen
    have bO3 := bO2.c3
    have hne : W.heap.size + 1 < W2.heap.size := bO2.lt
    clear hz1
    unfold agg3
    gi_wp2
    refine ⟨(Below.heap_alloc _ _ _ (Array.getElem?_eq_some_iff.1 hL2).1).trans hL2, ?_⟩
    have hmx : Tryz.prog.follows .mixedOrders = true := by kernel_rfl
    refine with_put (by have := (Array.getElem?_eq_some_iff.1 hL2).1; simp; omega) ?_
    intro W5 m5 hL5 hz5
    have bY5 : Blk W5 W2.heap.size 75 #[.bool xb, .slice xA xn xc, .slice xA' xn' xc'] := (Blk.new W2 _ _).mod m5 (by have := he2.size; have := HZ.out; omega)
    have bO5 : Blk W5 (W.heap.size + 1) 75 #[.bool true, .slice none 0 0, .slice none 0 0] := (bO2.alloc _).mod m5 (by omega)
    gi_wp2_with fail
    have hcap : (281474976710656 < Builtin.nextslicecap 1 0 * Tryz.t75.bytes) = False := eq_false (by decide)
    have ap0 : ∀ (a b c : Value) (Z : Array Value), (#[a, b, c] ++ Z)[0]? = some a := fun a b c Z => by rw [Array.getElem?_append_left (by simp)]; rfl
    have ap1 : ∀ (a b c : Value) (Z : Array Value), (#[a, b, c] ++ Z)[1]? = some b := fun a b c Z => by rw [Array.getElem?_append_left (by simp)]; rfl
    have ap2 : ∀ (a b c : Value) (Z : Array Value), (#[a, b, c] ++ Z)[2]? = some c := fun a b c Z => by rw [Array.getElem?_append_left (by simp)]; rfl
    have co1 : ∀ o1, (W5.alloc o1).cell? ⟨W.heap.size + 1, 2, none⟩ = some (.slice none 0 0) := fun o1 => (bO5.alloc o1).c3.2.2
    have co2 : ∀ o1 o2, ((W5.alloc o1).alloc o2).cell? ⟨W.heap.size + 1, 2, none⟩ = some (.slice none 0 0) := fun o1 o2 => ((bO5.alloc o1).alloc o2).c3.2.2
    have fo2 : ∀ o1 o2, ((W5.alloc o1).alloc o2).frozen? ⟨W.heap.size + 1, 2, none⟩ = false := fun o1 o2 => (((bO5.alloc o1).alloc o2).frozen) _
    have hn5 : ¬ (W2.heap.size + 1 + 1 = W.heap.size + 1) := by omega
    have hn6 : ¬ (W.heap.size + 1 = W2.heap.size + 1 + 1) := by omega
    refine region_plain hmx (by kernel_rfl) ?_
    refine wpAny_of_held (S := fun w' => w'.cell? ⟨W2.heap.size, 0, none⟩ = some (.bool xb) ∧ w'.cell? ⟨W2.heap.size, 1, none⟩ = some (.slice xA xn xc) ∧ w'.cell? ⟨W2.heap.size, 2, none⟩ = some (.slice xA' xn' xc')) _ _ _ _ ?_
    have hH := bY5.drew.c3
    refine take_dst 0 (some 75) (v := (.pointer (some ⟨W.heap.size + 1, 2, none⟩))) rfl rfl (by kernel_rfl) (by kernel_rfl) (by kernel_rfl) (fun _ _ _ h => h) (by rfl) hH (fun w hSw => by (try dsimp only at hSw); go_simp) ?_
    simp only [Act.put, List.setIfInBounds_toArray, List.set_cons_zero, List.set_cons_succ]
    refine take_dst 2 (some 77) (v := (.agg #[.bool xb, .slice xA xn xc, .slice xA' xn' xc'])) rfl rfl (by kernel_rfl) (by kernel_rfl) (by kernel_rfl) (fun _ _ _ h => h) (by rfl) hH (fun w hSw => by (try dsimp only at hSw); go_simp) ?_
    simp only [Act.put, List.setIfInBounds_toArray, List.set_cons_zero, List.set_cons_succ]
    refine wpAnyH_ready (rs := [1, 4]) (by kernel_rfl) (by simp) (AllReadyH.cons rfl (fun K hK => ?_) (AllReadyH.cons rfl (fun K hK => ?_) AllReadyH.nil))
    · have cO := bO5.drew.c3
      go_simp
      refine hK.out _ _ bY5.drew.c3 (fun hHa => ?_)
      clear hK K
      refine take_dst 3 (some 78) (v := (.int .i64 0)) rfl rfl (by kernel_rfl) (by kernel_rfl) (by kernel_rfl) (fun _ _ _ h => h) (by rfl) hH (fun w hSw => by (try dsimp only at hSw); go_simp) ?_
      simp only [Act.put, List.setIfInBounds_toArray, List.set_cons_zero, List.set_cons_succ]
      refine wpAnyH_ready (rs := [4]) (by kernel_rfl) (by simp) (AllReadyH.cons rfl (fun K hK => ?_) AllReadyH.nil)
      go_simp
      refine hK.out _ _ (bY5.drew.alloc _).c3 (fun hH4 => ?_)
      clear hK K
      refine wpAnyH_ready (rs := [5]) (by kernel_rfl) (by simp) (AllReadyH.cons rfl (fun K hK => ?_) AllReadyH.nil)
      go_simp
      refine hK.out _ _ ((bY5.drew.alloc _).alloc _).c3 (fun hH5 => ?_)
      clear hK K
      refine take_dst 6 (some 81) (v := (.pointer (some ⟨W2.heap.size + 1 + 1, 0, none⟩))) rfl rfl (by kernel_rfl) (by kernel_rfl) (by kernel_rfl) (fun _ _ _ h => h) (by rfl) hH5 (fun w hSw => by (try dsimp only at hSw); go_simp) ?_
      simp only [Act.put, List.setIfInBounds_toArray, List.set_cons_zero, List.set_cons_succ]
      refine take_dst 8 (some 82) (v := (.pointer (some ⟨W.heap.size + 1, 2, none⟩))) rfl rfl (by kernel_rfl) (by kernel_rfl) (by kernel_rfl) (fun _ _ _ h => h) (by rfl) hH5 (fun w hSw => by (try dsimp only at hSw); go_simp) ?_
      simp only [Act.put, List.setIfInBounds_toArray, List.set_cons_zero, List.set_cons_succ]
      refine wpAnyH_ready (rs := [7, 9]) (by kernel_rfl) (by simp) (AllReadyH.cons rfl (fun K hK => ?_) (AllReadyH.cons rfl (fun K hK => ?_) AllReadyH.nil))
      · go_simp
        refine hK.out _ _ ?h7 (fun hH7 => ?_)
        case h7 => exact ((bY5.drew.alloc _).alloc _).c3
        clear hK K
        refine wpAnyH_ready (rs := [9]) (by kernel_rfl) (by simp) (AllReadyH.cons rfl (fun K hK => ?_) AllReadyH.nil)
        go_simp
        refine hK.out _ _ ?h9 (fun hH9 => ?_)
        case h9 => exact (((bY5.alloc _).alloc _).far (p := ⟨W.heap.size + 1, 2, none⟩) (by simp; omega) _).c3
        clear hK K
        refine wpAnyH_done (by kernel_rfl) ⟨rfl, ?_⟩ _
        gi_wp2_with fail
        refine fin_round (y := (.bool xb, .slice xA xn xc, .slice xA' xn' xc')) he0 hsz bR he1 HZ.out hL1 hK1 he2 hy m5 hL5 (fin_a bO5 (hz5.trans (by simp)) 2)
      · go_simp
        refine hK.out _ _ ?h9 (fun hH9 => ?_)
        case h9 => exact (((bY5.alloc _).alloc _).far (p := ⟨W.heap.size + 1, 2, none⟩) (by simp; omega) _).c3
        clear hK K
        refine wpAnyH_ready (rs := [7]) (by kernel_rfl) (by simp) (AllReadyH.cons rfl (fun K hK => ?_) AllReadyH.nil)
        go_simp
        refine hK.out _ _ ?h7 (fun hH7 => ?_)
        case h7 => exact (((((((bY5.alloc _).alloc _).far (p := ⟨W.heap.size + 1, 2, none⟩) (by simp; omega) _).far (p := ⟨W2.heap.size + 1 + 1, 0, none⟩) (by simp; omega) _).far (p := ⟨W2.heap.size + 1 + 1, 1, none⟩) (by simp; omega) _).far (p := ⟨W2.heap.size + 1 + 1, 2, none⟩) (by simp; omega) _)).c3
        clear hK K
        refine wpAnyH_done (by kernel_rfl) ⟨rfl, ?_⟩ _
        gi_wp2_with fail
        refine fin_round (y := (.bool xb, .slice xA xn xc, .slice xA' xn' xc')) he0 hsz bR he1 HZ.out hL1 hK1 he2 hy m5 hL5 (fin_b bO5 (hz5.trans (by simp)) 2)
    · go_simp
      refine hK.out _ _ (bY5.drew.alloc _).c3 (fun hH4 => ?_)
      clear hK K
      refine wpAnyH_ready (rs := [1]) (by kernel_rfl) (by simp) (AllReadyH.cons rfl (fun K hK => ?_) AllReadyH.nil)
      go_simp
      refine hK.out _ _ (bY5.drew.alloc _).c3 (fun hHa => ?_)
      clear hK K
      refine take_dst 3 (some 78) (v := (.int .i64 0)) rfl rfl (by kernel_rfl) (by kernel_rfl) (by kernel_rfl) (fun _ _ _ h => h) (by rfl) hHa (fun w hSw => by (try dsimp only at hSw); go_simp) ?_
      simp only [Act.put, List.setIfInBounds_toArray, List.set_cons_zero, List.set_cons_succ]
      refine wpAnyH_ready (rs := [5]) (by kernel_rfl) (by simp) (AllReadyH.cons rfl (fun K hK => ?_) AllReadyH.nil)
      go_simp
      refine hK.out _ _ ((bY5.drew.alloc _).alloc _).c3 (fun hH5 => ?_)
      clear hK K
      refine take_dst 6 (some 81) (v := (.pointer (some ⟨W2.heap.size + 1 + 1, 0, none⟩))) rfl rfl (by kernel_rfl) (by kernel_rfl) (by kernel_rfl) (fun _ _ _ h => h) (by rfl) hH5 (fun w hSw => by (try dsimp only at hSw); go_simp) ?_
      simp only [Act.put, List.setIfInBounds_toArray, List.set_cons_zero, List.set_cons_succ]
      refine take_dst 8 (some 82) (v := (.pointer (some ⟨W.heap.size + 1, 2, none⟩))) rfl rfl (by kernel_rfl) (by kernel_rfl) (by kernel_rfl) (fun _ _ _ h => h) (by rfl) hH5 (fun w hSw => by (try dsimp only at hSw); go_simp) ?_
      simp only [Act.put, List.setIfInBounds_toArray, List.set_cons_zero, List.set_cons_succ]
      refine wpAnyH_ready (rs := [7, 9]) (by kernel_rfl) (by simp) (AllReadyH.cons rfl (fun K hK => ?_) (AllReadyH.cons rfl (fun K hK => ?_) AllReadyH.nil))
      · go_simp
        refine hK.out _ _ ?h7 (fun hH7 => ?_)
        case h7 => exact ((bY5.drew.alloc _).alloc _).c3
        clear hK K
        refine wpAnyH_ready (rs := [9]) (by kernel_rfl) (by simp) (AllReadyH.cons rfl (fun K hK => ?_) AllReadyH.nil)
        go_simp
        refine hK.out _ _ ?h9 (fun hH9 => ?_)
        case h9 => exact (((bY5.alloc _).alloc _).far (p := ⟨W.heap.size + 1, 2, none⟩) (by simp; omega) _).c3
        clear hK K
        refine wpAnyH_done (by kernel_rfl) ⟨rfl, ?_⟩ _
        gi_wp2_with fail
        refine fin_round (y := (.bool xb, .slice xA xn xc, .slice xA' xn' xc')) he0 hsz bR he1 HZ.out hL1 hK1 he2 hy m5 hL5 (fin_a bO5 (hz5.trans (by simp)) 2)
      · go_simp
        refine hK.out _ _ ?h9 (fun hH9 => ?_)
        case h9 => exact (((bY5.alloc _).alloc _).far (p := ⟨W.heap.size + 1, 2, none⟩) (by simp; omega) _).c3
        clear hK K
        refine wpAnyH_ready (rs := [7]) (by kernel_rfl) (by simp) (AllReadyH.cons rfl (fun K hK => ?_) AllReadyH.nil)
        go_simp
        refine hK.out _ _ ?h7 (fun hH7 => ?_)
        case h7 => exact (((((((bY5.alloc _).alloc _).far (p := ⟨W.heap.size + 1, 2, none⟩) (by simp; omega) _).far (p := ⟨W2.heap.size + 1 + 1, 0, none⟩) (by simp; omega) _).far (p := ⟨W2.heap.size + 1 + 1, 1, none⟩) (by simp; omega) _).far (p := ⟨W2.heap.size + 1 + 1, 2, none⟩) (by simp; omega) _)).c3
        clear hK K
        refine wpAnyH_done (by kernel_rfl) ⟨rfl, ?_⟩ _
        gi_wp2_with fail
        refine fin_round (y := (.bool xb, .slice xA xn xc, .slice xA' xn' xc')) he0 hsz bR he1 HZ.out hL1 hK1 he2 hy m5 hL5 (fin_b bO5 (hz5.trans (by simp)) 2)
  · rintro e W3 ⟨⟨v, rfl⟩, y, hL3, hK3, he3, bR3, A, c', bO3, hI⟩
    refine ⟨_, _, hL3.trans hL1, LoopState.noConfusion, ?_⟩
    refine put_any (Array.getElem?_eq_some_iff.1 (hL3.trans hL1)).1 ?_
    intro W4 m4 hz4
    have bR4 := bR3.mod m4 (by omega)
    have bO4 := bO3.mod m4 (by omega)
    have hK4 := m4.heap hK3 (by omega)
    have hI4 : IsItem (Fresh W1) W4 (.bool true, .slice none 0 0, .slice A 1 c') (.list [.str [x]]) := (hI.item none 0).mod m4 (by intro b hb; simp [Fresh] at hb; omega)
    have cR4 := bR4.c3
    have cO4 := bO4.c3
    have fR4 := bR4.frozen
    have hK5 : ∀ a b c : Value, (((W4.setCell ⟨W.heap.size, 0, none⟩ a).setCell ⟨W.heap.size, 1, none⟩ b).setCell ⟨W.heap.size, 2, none⟩ c).heap[W0.heap.size]? = some (.deferred (some [])) := fun a b c =>
      (Below.heap_setCell _ ⟨W.heap.size, 2, none⟩ c _ (by simp; omega)).trans ((Below.heap_setCell _ ⟨W.heap.size, 1, none⟩ b _ (by simp; omega)).trans ((Below.heap_setCell _ ⟨W.heap.size, 0, none⟩ a _ (by simp; omega)).trans hK4))
    have HK5 := Lib.hid hK5
    have HI4 := Lib.hid hI4
    have E4 := Lib.hid (AfterE.mk (W := W) (D := W0.heap.size) (fun a b c => ((((he3.mod m4 (by intro b hb; omega)).set (p := ⟨W.heap.size, 0, none⟩) (Nat.le_refl _) a).set (p := ⟨W.heap.size, 1, none⟩) (Nat.le_refl _) b).set (p := ⟨W.heap.size, 2, none⟩) (Nat.le_refl _) c).mod (Mod.put (S := fun b => b = W0.heap.size) (Mod.refl _ _) (.inl rfl) (.deferred none)) (by intro b hb; omega)))
    have b5 : ∀ a b c : Value, Blk (((W4.setCell ⟨W.heap.size, 0, none⟩ a).setCell ⟨W.heap.size, 1, none⟩ b).setCell ⟨W.heap.size, 2, none⟩ c) W.heap.size 75 #[a, b, c] := fun a b c => by simpa using ((bR4.set_ 0 a).set_ 1 b).set_ 2 c
    have B5 := Lib.hid b5
    clear hK4 hK5 b5 hK3 hK1 hI4
    gi_wp2
    refine ⟨by simp, .inl ⟨_, _, rfl, run_takeDeferred (HK5.out _ _ _), ?_⟩⟩
    have h9 := (HI4.out.far3 (B := W.heap.size) (by simp [Fresh]; omega) (.bool true) (.slice none 0 0) (.slice A 1 c')).mod (Mod.put (S := fun b => b = W0.heap.size) (Mod.refl _ _) (.inl rfl) (.deferred none)) (by intro b hb; simp [Fresh] at hb; omega)
    have c9 := ((B5.out (.bool true) (.slice none 0 0) (.slice A 1 c')).put (r := W0.heap.size) (by omega) (.deferred none)).c3
    have E9 := E4.out.trans' (.bool true) (.slice none 0 0) (.slice A 1 c')
    obtain ⟨W9, hW9⟩ : ∃ W9, ((((W4.setCell ⟨W.heap.size, 0, none⟩ (.bool true)).setCell ⟨W.heap.size, 1, none⟩ (.slice none 0 0)).setCell ⟨W.heap.size, 2, none⟩ (.slice A 1 c')).putObj W0.heap.size (.deferred none)) = W9 := ⟨_, rfl⟩
    rw [hW9] at c9 h9 E9 ⊢
    obtain ⟨c90, c91, c92⟩ := c9
    simp [LeavesInM, LeavesIn, Leaves, settle, results, Tryz.results170, go_sem, c90, c91, c92]
    exact ⟨E9, _, _, _, rfl, h9.mono (fun b hb => by simp [Fresh] at *; omega)⟩
end Go.Proofs.CV
