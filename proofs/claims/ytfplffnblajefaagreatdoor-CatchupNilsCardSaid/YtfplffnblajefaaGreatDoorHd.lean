/- Proved here: contracts of functions of the program, each for every input that its premises name. -/
import Derived.Test.YtfplffnblajefaaGreatDoorProg
import Derived.Deep.DeepCutAuto
import Derived.Deep.MidRow
import Derived.Outline
import Derived.WalkKit
import Derived.WalkSpells
import Derived.WalkLawsBesides
import Derived.Deep.QuietTactic
import Derived.BigQuiet
import Derived.Deep.LoopGhost
import Derived.Recover
import Derived.Deep.RegionWith
import Derived.Deep.RegionLaw
import Derived.Deep.RegionHeld3
import Derived.StillTailTactics
import Derived.Deep.DeepFit
import Derived.Defers
import Derived.Sort.CutIn
import Derived.Laws.IdiomStrings
import Derived.Test.YtfplffnblajefaaGreatDoorShelf
import Derived.Test.YtfplffnblajefaaGreatDoorCvWords
import Derived.Test.YtfplffnblajefaaGreatDoorCvBase
import Derived.Test.YtfplffnblajefaaGreatDoorCvRange
import Derived.Test.YtfplffnblajefaaGreatDoorWord1
import Derived.Test.YtfplffnblajefaaGreatDoorWord2
import Derived.Test.YtfplffnblajefaaGreatDoorCl
import Derived.Test.YtfplffnblajefaaGreatDoorSt
namespace Go.Proofs.CV
open Go.RowKit
set_option linter.unusedVariables false
set_option linter.unusedSimpArgs false
set_option linter.unnecessarySimpa false
set_option linter.unusedVariables false
theorem own_ext {w w' : World} {base : Nat} {e : TypeId} {s n : Nat} {v : Value} {xs : List Value} (h : w.ownsRow base e s v n xs) (x : Ext w w') : w'.ownsRow base e s v n xs := by
  rcases h with ⟨hl, ⟨rfl, rfl⟩ | ⟨g, cap, cur, rfl, hb, hh, h1, h2, h3, h4⟩⟩
  · exact ⟨hl, .inl ⟨rfl, rfl⟩⟩
  · exact ⟨hl, .inr ⟨g, cap, cur, rfl, hb, Blk.ext (t := e) hh x, h1, h2, h3, h4⟩⟩
theorem own_lower {w : World} {base base' : Nat} {e : TypeId} {s n : Nat} {v : Value} {xs : List Value} (h : w.ownsRow base e s v n xs) (hb : base' ≤ base) : w.ownsRow base' e s v n xs := by
  rcases h with ⟨hl, ⟨rfl, rfl⟩ | ⟨g, cap, cur, rfl, hb', rest⟩⟩
  · exact ⟨hl, .inl ⟨rfl, rfl⟩⟩
  · exact ⟨hl, .inr ⟨g, cap, cur, rfl, by omega, rest⟩⟩
theorem own_one (w : World) (base : Nat) (hb : base ≤ w.heap.size) (e : TypeId) (u : Value) : (w.alloc (.cells #[u] e)).ownsRow base e 1 (.slice (some ⟨w.heap.size, 0, none⟩) 1 1) 1 [u] :=
  ⟨by simp, .inr ⟨w.heap.size, 1, #[u], rfl, hb, heap_alloc_new w _, Nat.le_refl _, by simp [maxLen], by simp, by simp⟩⟩
def rHead (base n : Nat) : List Int := if n < 56 then [(base : Int) + n] else ((base : Int) + 55 + ((wShort n 0 0 0).length : Int)) :: wShort n 0 0 0
theorem wShort_len (a b c d : Int) : (wShort a b c d).length ≤ 32 := by
  unfold wShort; simp [wBytes]
theorem wShort_len8 (n : Int) : (wShort n 0 0 0).length ≤ 8 := by
  have h : wWidth [n, 0, 0, 0] ≤ 64 := by
    have hb := bitLen_64 n.toNat
    simp only [wWidth, List.reverse_cons, List.reverse_nil, List.nil_append, List.cons_append, wWidthR, if_true]
    split
    · omega
    · simp; omega
  have h0 := (wLen_bd n 0 0 0).1
  have h8 : wLen n 0 0 0 ≤ 8 := by unfold wLen; omega
  unfold wShort; simp [wBytes]; omega
set_option maxRecDepth 100000 in
set_option maxHeartbeats 400000 in
theorem head_any (base n : Nat) (w : World) (hb : base = 128 ∨ base = 192) (hn : n ≤ 65536) :
    Calls Tryz.prog 120 #[.int .u8 base, .int .i64 n] w fun e w' => Ext w w' ∧ ∃ v, e = .returned v ∧ w'.ownsRow w.heap.size 5 1 v (rHead base n).length (b8 (rHead base n)) := by
  have hb1 : base ≤ 192 := by omega
  by_cases h56 : n < 56
  · have hr : rHead base n = [(base : Int) + n] := by simp [rHead, h56]
    rw [hr]; clear hr
    go_enter Tryz.func120, Tryz.ntmps120
    go_wp2
    go_ret
    refine ⟨(Ext.refl _).alloc _, _, rfl, ?_⟩
    exact own_one w _ (Nat.le_refl _) _ _
  · have hr : rHead base n = ((base : Int) + 55 + ((wShort n 0 0 0).length : Int)) :: wShort n 0 0 0 := by simp [rHead, h56]
    rw [hr]; clear hr
    have hwl := wShort_len8 n
    obtain ⟨m, hm⟩ : ∃ m, (wShort n 0 0 0).length = m := ⟨_, rfl⟩
    have hs := fun w => short_any n 0 0 0 w ⟨by omega, by omega⟩ (by simp [U64]) (by simp [U64]) (by simp [U64])
    have HS := Lib.hid hs; clear hs
    rw [hm] at hwl
    have hm8 : m ≤ 8 := hwl
    obtain ⟨i0, hi, hz0, hz1, hz2⟩ := info_parts info_u8
    have HM := Lib.hid hm; clear hm hwl
    unfold aWord at HS
    go_enter Tryz.func120, Tryz.ntmps120
    go_wp2_with (first | (go_at_call 115; refine (of_any _ _).mono ?_; rintro e w1 ⟨rfl, he1⟩; unfold aWord) | (go_at_call 169; refine (HS.out _).mono ?_; rintro e w2 ⟨he2, A, k, rfl, hrd, _⟩; obtain rfl : k = m := (by have := hrd.len; rw [b8, List.length_map, HM.out] at this; omega)) | (at_builtin; refine wpList_append_any _ rfl (.tmp 23) (.tmp 24) _ rfl w.heap.size 5 i0 _ 1 1 Tryz.underlying22 hi hz0 hz1 hz2 rfl (by omega) (.slice (some ⟨w2.heap.size, 0, none⟩) 1 1) 1 [.int .u8 ((base : Int) + 55 + (k : Int))] rfl (own_one w2 w.heap.size (he1.trans he2).size _ _) (w2.heap.size + 1) A k k (b8 (wShort n 0 0 0)) rfl ((hrd.ext ((Ext.refl w2).alloc _)).more (by simp)) b8_one ?_ (by omega) (by have := (he1.trans he2).size; simp; omega) ?_; rotate_left; intro v1 w3 hown1 hg1 hat1))
    · go_ret
      refine ⟨(he1.trans (he2.trans ((Ext.refl w2).alloc _))).grown hg1 (fun k hk => by simp only [Value.ownBlock, Option.some.injEq] at hk; have := (he1.trans he2).size; omega), _, rfl, ?_⟩
      rw [Nat.add_comm] at hown1
      simp only [HM.out]
      exact hown1
    · unfold maxLen; omega
end Go.Proofs.CV
