/- Proved here: contracts of functions of the program, each for every input that its premises name. -/
import Derived.Test.YtfplffnblajefaaGreatDoorProg
import Derived.Deep.DeepCutAuto
import Derived.Deep.MidRow
import Derived.Outline
import Derived.WalkKit
import Derived.WalkSpells
import Derived.WalkLawsBesides
import Derived.Deep.QuietTactic
import Derived.BigQuiet
import Derived.Deep.LoopGhost
import Derived.Recover
import Derived.Deep.RegionWith
import Derived.Deep.RegionLaw
import Derived.Deep.RegionHeld3
import Derived.StillTailTactics
import Derived.Deep.DeepFit
import Derived.Defers
import Derived.Sort.CutIn
import Derived.Laws.IdiomStrings
import Derived.Test.YtfplffnblajefaaGreatDoorShelf
import Derived.Test.YtfplffnblajefaaGreatDoorCvWords
import Derived.Test.YtfplffnblajefaaGreatDoorCvBase
import Derived.Test.YtfplffnblajefaaGreatDoorCvRange
import Derived.Test.YtfplffnblajefaaGreatDoorWord1
namespace Go.Proofs.CV
open Go.RowKit
set_option linter.unusedVariables false
set_option linter.unusedSimpArgs false
set_option linter.unnecessarySimpa false
set_option linter.unusedVariables false
def rdStep (xs : List Int) (k : Nat) (ys : List Int) : List Int := ys.set (k / 8) (bits BinOp.or IntKind.u64 (ys.getD (k / 8) 0) (IntKind.u64.wrap (xs.getD (xs.length - 1 - k) 0 * 2 ^ (8 * (k % 8)))))
def rdTo (xs : List Int) : Nat → List Int
  | 0 => [0, 0, 0, 0]
  | k + 1 => rdStep xs k (rdTo xs k)
def wRead (xs : List Int) : List Int := rdTo xs xs.length
theorem bits_u64 (o : BinOp) (a b : Int) : U64 (bits o IntKind.u64 a b) := by
  have h : ∀ z : Int, U64 (IntKind.u64.wrap z) := fun z => by rw [IntKind.wrap_u64]; unfold U64; omega
  cases o <;> exact h _
theorem rdTo_ok (xs : List Int) : ∀ k, (rdTo xs k).length = 4 ∧ ∀ y ∈ rdTo xs k, U64 y
  | 0 => ⟨rfl, by simp [rdTo, U64]⟩
  | k + 1 => by
    obtain ⟨h1, h2⟩ := rdTo_ok xs k
    refine ⟨by simp [rdTo, rdStep, h1], fun y hy => ?_⟩
    rcases List.mem_or_eq_of_mem_set hy with h | h
    · exact h2 y h
    · rw [h]; exact bits_u64 _ _ _
theorem four {xs : List Int} (h : xs.length = 4) : ∃ a b c d, xs = [a, b, c, d] := by
  match xs, h with
  | [a, b, c, d], _ => exact ⟨a, b, c, d, rfl⟩
set_option maxRecDepth 100000 in
set_option maxHeartbeats 400000 in
theorem read_any (A : Option Addr) (n c : Nat) (xs : List Int) (w : World) (hr : Rd w A n (b8 xs)) (hx : ∀ x ∈ xs, 0 ≤ x ∧ x ≤ 255) (hn : n ≤ 32) :
    Calls Tryz.prog 117 #[.slice A n c] w fun e w' => Ext w w' ∧ ∃ a b c d, U64 a ∧ U64 b ∧ U64 c ∧ U64 d ∧ wRead xs = [a, b, c, d] ∧ e = .returned (.tuple #[aWord a b c d, .int .i64 0]) := by
  have hn0 : decide ((32 : Int) < (n : Int)) = false := by simp; omega
  have hl : xs.length = n := by simpa [b8] using hr.len
  have HL := Lib.hid hl; clear hl
  have HX := Lib.hid hx; clear hx
  go_enter Tryz.func117, Tryz.ntmps117
  go_wp2
  generalize hw0 : (w.alloc (Obj.cells #[Value.int .u64 0, Value.int .u64 0, Value.int .u64 0, Value.int .u64 0] 127)).alloc (Obj.cells #[Value.int .u64 0, Value.int .u64 0, Value.int .u64 0, Value.int .u64 0] 127) = w0
  have hA : Blk w0 w.heap.size 127 #[Value.int .u64 0, Value.int .u64 0, Value.int .u64 0, Value.int .u64 0] := by rw [← hw0]; exact (Blk.new _ _ _).alloc _
  have hB : Blk w0 (w.heap.size+1) 127 #[Value.int .u64 0, Value.int .u64 0, Value.int .u64 0, Value.int .u64 0] := by rw [← hw0]; exact Blk.new1 _ _ _ _ _
  have he : Ext w w0 := by rw [← hw0]; exact ((Ext.refl w).alloc _).alloc _
  clear hw0
  go_loopw [13] (fun i wr => ∃ k : Nat, k ≤ n ∧ i = .int .i64 k ∧ Ext w wr ∧ Blk wr w.heap.size 127 #[Value.int .u64 0, Value.int .u64 0, Value.int .u64 0, Value.int .u64 0] ∧ Blk wr (w.heap.size+1) 127 (u64s (rdTo xs k))) (fun i _ => n - (intOf i).toNat)
  case atStart => exact ⟨0, by omega, rfl, he, hA, hB⟩
  case round =>
    clear hA hB he
    obtain ⟨k, hk, rfl, he, hA, hB⟩ := hrel
    obtain ⟨hyl, hyu⟩ := rdTo_ok xs k
    by_cases hlt : k < n
    · obtain ⟨m, hm, hmn⟩ : ∃ m : Nat, (n : Int) - 1 - (k : Int) = (m : Int) ∧ m < n := ⟨n - 1 - k, by omega, by omega⟩
      have hmi : (m : Int) < (n : Int) := by omega
      obtain ⟨ad, u, rfl, hadl, hu, hc0⟩ := hr.at_ (k := m) (by omega)
      rw [b8, List.getElem?_map, List.getElem?_eq_getElem (by rw [HL.out]; omega)] at hu
      obtain ⟨x, hx⟩ : ∃ x, xs[m]'(by rw [HL.out]; omega) = x := ⟨_, rfl⟩
      rw [hx] at hu; simp at hu; subst hu
      have HXD := Lib.hid (show xs.getD (xs.length - 1 - k) 0 = x by rw [HL.out, show n - 1 - k = m by omega, ← hx, List.getD_eq_getElem?_getD, List.getElem?_eq_getElem (by rw [HL.out]; omega)]; rfl)
      have hxb := HX.out x (by rw [← hx]; exact List.getElem_mem _)
      clear hx
      have c1 : wr.cell? (ad.add (m)) = some (.int .u8 x) := (Below.cell he (by rw [block_of_add]; exact hadl)).trans hc0
      obtain ⟨y, hy, c2⟩ : ∃ y, Hid ((rdTo xs k).getD (k / 8) 0 = y) ∧ wr.cell? ⟨w.heap.size+1, k / 8, none⟩ = some (.int .u64 y) := ⟨_, rfl, by rw [hB.cell, u64s_get, List.getD_eq_getElem?_getD, List.getElem?_eq_getElem (by omega)]; rfl⟩
      have f2 := hB.frozen (k / 8)
      have HY := Lib.hid hyl; have HU := Lib.hid hyu; clear hyl hyu hc0
      have g1 : IntKind.i64.wrap ((k : Int) / 8) = (k : Int) / 8 := IntWalk.i64_in _ (by omega)
      have g0 : (k : Int).tmod 8 = (k : Int) % 8 := Int.tmod_eq_emod_of_nonneg (by omega)
      have g7 : IntKind.i64.wrap (8 * ((k : Int) % 8)) = 8 * ((k : Int) % 8) := IntWalk.i64_in _ (by omega)
      have g8 : (0 : Int) ≤ (k : Int) / 8 := by omega
      have g2 : (k : Int) / 8 < 4 := by omega
      have g6 : ((k : Int) / 8).toNat = k / 8 := by omega
      have g9 : (0 : Int) ≤ 8 * ((k : Int) % 8) := by omega
      have g10 : (8 * ((k : Int) % 8)).toNat = 8 * (k % 8) := by omega
      have g11 : min (8 * (k % 8)) 64 = 8 * (k % 8) := by omega
      have c1' : wr.drew.cell? (ad.add (m)) = some (.int .u8 x) := c1
      have c2' : wr.drew.cell? ⟨w.heap.size+1, k / 8, none⟩ = some (.int .u64 y) := c2
      go_wp2
      go_still_tail 15, (by kernel_rfl)
      change wpList _ _ _ _ _ wr.drew
      go_wp2
      refine ⟨⟨k + 1, by omega, by go_num, (he.set (by simp) _).drew, (hA.far (by simp) _).drew, ?_⟩, by simp [intOf]; omega⟩
      show Blk _ _ _ (u64s (rdStep xs k (rdTo xs k)))
      unfold rdStep; rw [hy.out, HXD.out, ← u64s_set]
      exact (hB.set_ _ _).drew
    · have hkn : k = n := by omega
      subst hkn
      obtain ⟨a, b, c4, d, h4⟩ := four hyl
      rw [h4] at hyu hB
      have hW := Lib.hid (show wRead xs = [a, b, c4, d] by rw [wRead, HL.out, h4])
      simp only [List.mem_cons, List.not_mem_nil, or_false, forall_eq_or_imp, forall_eq] at hyu
      have hB4 := Blk.c4 hB
      have hA4 := Blk.c4 hA
      have hAf := hA.frozen
      have HU := Lib.hid hyu
      clear hyu hyl h4
      go_wp2
      refine bodyPost_ret (v := .tuple #[aWord a b c4 d, .int .i64 0]) (by simp [results, Tryz.results117, go_sem, aWord, hA4]) rfl ?_
      obtain ⟨u1, u2, u3, u4⟩ := HU.out
      exact ⟨(((he.set (by simp) _).set (by simp) _).set (by simp) _).set (by simp) _, a, b, c4, d, u1, u2, u3, u4, hW.out, rfl⟩
end Go.Proofs.CV
