/- Proved here: contracts of functions of the program, each for every input that its premises name. -/
import Derived.Test.YtfplffnblajefaaGreatDoorProg
import Derived.Deep.DeepCutAuto
import Derived.Deep.MidRow
import Derived.Outline
import Derived.WalkKit
import Derived.WalkSpells
import Derived.WalkLawsBesides
import Derived.Deep.QuietTactic
import Derived.BigQuiet
import Derived.Deep.LoopGhost
import Derived.Recover
import Derived.Deep.RegionWith
import Derived.Deep.RegionLaw
import Derived.Deep.RegionHeld3
import Derived.StillTailTactics
import Derived.Deep.DeepFit
import Derived.Defers
import Derived.Sort.CutIn
import Derived.Laws.IdiomStrings
import Derived.Test.YtfplffnblajefaaGreatDoorShelf
import Derived.Test.YtfplffnblajefaaGreatDoorCvWords
import Derived.Test.YtfplffnblajefaaGreatDoorCvBase
import Derived.Test.YtfplffnblajefaaGreatDoorCvRange
namespace Go.Proofs.CV
open Go.RowKit
set_option linter.unusedVariables false
set_option linter.unusedSimpArgs false
set_option linter.unnecessarySimpa false
set_option linter.unusedVariables false
theorem mkBytes (w : World) : (Instr.makeSlice 22 (.int .i64 32) (.int .i64 32)).run Tryz.prog w = .ok (.slice (some ⟨w.heap.size, 0, none⟩) 32 32) (w.alloc (.cells (Array.replicate 32 (.int .u8 0)) 5)) := by kernel_rfl

def limb (a b c d : Int) (i : Nat) : Int := if i = 0 then a else if i = 1 then b else if i = 2 then c else d
def wByte (a b c d : Int) (k : Nat) : Int := limb a b c d (k / 8) / 2 ^ (8 * (k % 8)) % 256
def wBytes (a b c d : Int) : List Int := (List.range 32).map fun j => wByte a b c d (31 - j)
theorem limb_cell (a b c d : Int) (i : Nat) (h : i < 4) : (#[Value.int .u64 a, .int .u64 b, .int .u64 c, .int .u64 d] : Array Value)[i]? = some (.int .u64 (limb a b c d i)) := by
  match i, h with
  | 0, _ => rfl
  | 1, _ => rfl
  | 2, _ => rfl
  | 3, _ => rfl

set_option maxRecDepth 100000 in
set_option maxHeartbeats 400000 in
theorem bytes_any (a b c d : Int) (w : World) : Calls Tryz.prog 235 #[aWord a b c d] w fun e w' => Ext w w' ∧ ∃ g, e = .returned (.slice (some ⟨g, 0, none⟩) 32 32) ∧ w.heap.size ≤ g ∧ Blk w' g 5 (u8s (wBytes a b c d)) := by
  have h := mkBytes
  unfold aWord
  go_enter Tryz.func235, Tryz.ntmps235
  go_wp2
  clear h
  generalize hw0 : (w.alloc (Obj.cells #[Value.int IntKind.u64 a, Value.int IntKind.u64 b, Value.int IntKind.u64 c, Value.int IntKind.u64 d] 127)).alloc (Obj.cells (Array.replicate 32 (Value.int IntKind.u8 0)) 5) = w0
  have hA : Blk w0 w.heap.size 127 #[Value.int IntKind.u64 a, Value.int IntKind.u64 b, Value.int IntKind.u64 c, Value.int IntKind.u64 d] := by rw [← hw0]; exact (Blk.new _ _ _).alloc _
  have hB : Blk w0 (w.heap.size+1) 5 (Array.replicate 32 (Value.int IntKind.u8 0)) := by rw [← hw0]; have := Blk.new (w.alloc (Obj.cells #[Value.int IntKind.u64 a, Value.int IntKind.u64 b, Value.int IntKind.u64 c, Value.int IntKind.u64 d] 127)) 5 (Array.replicate 32 (Value.int IntKind.u8 0)); rw [World.size_alloc] at this; exact this
  have hbel : Below w.heap.size w w0 := by rw [← hw0]; exact ((Below.refl _ _).alloc (Nat.le_refl _) _).alloc (by simp) _
  clear hw0
  go_loopw [6] (fun i wr => ∃ k : Nat, k ≤ 32 ∧ i = .int .i64 k ∧ Below w.heap.size w wr ∧ Blk wr w.heap.size 127 #[Value.int IntKind.u64 a, Value.int IntKind.u64 b, Value.int IntKind.u64 c, Value.int IntKind.u64 d] ∧ ∃ xs : List Int, xs.length = 32 ∧ (∀ j, j < k → xs[31 - j]? = some (wByte a b c d j)) ∧ Blk wr (w.heap.size+1) 5 (u8s xs)) (fun i _ => 32 - (intOf i).toNat)
  case atStart => exact ⟨0, by omega, rfl, hbel, hA, List.replicate 32 0, by simp, fun j hj => by omega, by rw [u8s, List.map_replicate, List.toArray_replicate]; exact hB⟩
  case round =>
    clear hA hB hbel
    obtain ⟨k, hk, rfl, hb, hA, xs, hxs, hxv, hB⟩ := hrel
    by_cases hlt : k < 32
    · have c1 : wr.cell? ⟨w.heap.size, k/8, none⟩ = some (.int .u64 (limb a b c d (k/8))) := by
        rw [hA.cell, limb_cell _ _ _ _ _ (by omega)]
      obtain ⟨y, c2⟩ : ∃ y, wr.cell? ⟨w.heap.size+1, 31 - k, none⟩ = some (.int .u8 y) := ⟨xs[31-k]'(by omega), by
        rw [hB.cell, u8s_get, List.getElem?_eq_getElem (by omega)]; rfl⟩
      have f2 := hB.frozen (31 - k)
      have HX := Lib.hid hxv; have HL := Lib.hid hxs; clear hxv hxs
      go_wp2
      refine ⟨⟨k + 1, by omega, by go_num, hb.setCell (by simp) _, hA.far (by simp) _, xs.set (31 - k) (wByte a b c d k), by simp [HL.out], fun j hj => ?_, ?_⟩, by simp [intOf]; omega⟩
      · rcases Nat.lt_succ_iff_lt_or_eq.1 hj with h | h
        · rw [List.getElem?_set_ne (by omega)]; exact HX.out j h
        · subst h; rw [List.getElem?_set_self (by rw [HL.out]; omega)]
      · rw [← u8s_set]; exact hB.set_ _ _
    · have hk32 : k = 32 := by omega
      subst hk32
      have HX := Lib.hid hxv; have HL := Lib.hid hxs; clear hxv hxs
      go_wp2
      go_ret
      refine ⟨hb, _, rfl, by omega, ?_⟩
      have : xs = wBytes a b c d := by
        apply List.ext_getElem?
        intro j
        by_cases hj : j < 32
        · have := HX.out (31 - j) (by omega)
          rw [show 31 - (31 - j) = j by omega] at this
          rw [this]; simp [wBytes, hj]
        · rw [List.getElem?_eq_none (by rw [HL.out]; omega), List.getElem?_eq_none (by simp [wBytes]; omega)]
      rw [← this]; exact hB
theorem bitLenAux_le (k x : Nat) : Lib.bitLenAux k x ≤ k := by
  induction k generalizing x with
  | zero => simp [Lib.bitLenAux]
  | succ k ih => unfold Lib.bitLenAux; split <;> first | omega | (have := ih (x / 2); omega)
theorem bitLen_64 (x : Nat) : Lib.bitLen x ≤ 64 := bitLenAux_le 64 x
def wWidthR : List Int → Int
  | [] => 0
  | x :: r => if x = 0 then wWidthR r else 64 * r.length + Lib.bitLen x.toNat
def wWidth (xs : List Int) : Int := wWidthR xs.reverse

set_option maxRecDepth 100000 in
set_option maxHeartbeats 400000 in
theorem width_any (A : Option Addr) (n c : Nat) (xs : List Int) (w : World) (hr : Rd w A n (xs.map (Value.int .u64))) (hx : ∀ x ∈ xs, 0 ≤ x ∧ x ≤ 18446744073709551615) (hn : n ≤ 64) :
    Calls Tryz.prog 293 #[.slice A n c] w fun e w' => e = .returned (.int .i64 (wWidth xs)) ∧ w = w' := by
  have hl : xs.length = n := by simpa using hr.len
  have HL := Lib.hid hl; clear hl
  have HX := Lib.hid hx; clear hx
  go_enter Tryz.func293, Tryz.ntmps293
  go_wp2
  go_loop [3] (fun i => ∃ k : Nat, k ≤ n ∧ i = .int .i64 ((k : Int) - 1) ∧ wWidthR (xs.take k).reverse = wWidth xs) (fun i => (intOf i + 1).toNat)
  case atStart => exact ⟨n, by omega, rfl, by rw [List.take_of_length_le (by rw [HL.out]; omega)]; rfl⟩
  case round =>
    obtain ⟨k, hk, rfl, hw⟩ := hrel
    have HW := Lib.hid hw; clear hw
    by_cases h0 : k = 0
    · subst h0
      go_wp2
      go_ret
      have := HW.out; simp [wWidthR] at this
      exact ⟨by rw [← this]; rfl, rfl⟩
    · obtain ⟨m, rfl⟩ : ∃ m, k = m + 1 := ⟨k - 1, by omega⟩
      obtain ⟨ad, u, rfl, _, hu, hc⟩ := hr.at_ (k := m) (by omega)
      have hm : m < xs.length := by rw [HL.out]; omega
      rw [List.getElem?_map, List.getElem?_eq_getElem hm] at hu
      simp at hu
      obtain ⟨x, hx⟩ : ∃ x, xs[m] = x := ⟨_, rfl⟩
      rw [hx] at hu; subst hu
      have hb := HX.out x (by rw [← hx]; exact List.getElem_mem _)
      have hw : wWidthR (xs.take (m+1)).reverse = if x = 0 then wWidthR (xs.take m).reverse else 64 * m + Lib.bitLen x.toNat := by
        rw [List.take_succ_eq_append_getElem hm, List.reverse_append, hx]
        simp [wWidthR, Nat.min_eq_left (Nat.le_of_lt hm)]
      have HW2 := Lib.hid hw; clear hw; clear hx hm
      have hr0 : (0 : Int) ≤ (m : Int) + 1 - 1 := by omega
      have hbl : Lib.bitLen x.toNat ≤ 64 := by
        exact bitLen_64 _
      by_cases hz : x = 0
      · have hz' : (x != 0) = false := by simp [hz]
        have HZ := Lib.hid hz; clear hz
        go_wp2
        refine ⟨⟨m, by omega, by go_num, ?_⟩, by simp [intOf]⟩
        rw [← HW.out, HW2.out, if_pos HZ.out]
      · have hz' : (x != 0) = true := by simp [hz]
        go_wp2_with (go_at_call 335; refine (Tryz.bits_Len64 _ _ (by omega) (by omega)).mono ?_; rintro e w' ⟨rfl, rfl⟩)
        go_ret
        exact ⟨by rw [← HW.out, HW2.out, if_neg hz]; rfl, rfl⟩
def wLen (a b c d : Int) : Int := (wWidth [a, b, c, d] + 7) / 8
theorem wWidthR_bd : ∀ xs : List Int, 0 ≤ wWidthR xs ∧ wWidthR xs ≤ 64 * xs.length
  | [] => by simp [wWidthR]
  | x :: r => by
    have h := wWidthR_bd r
    have hb := bitLen_64 x.toNat
    unfold wWidthR
    split
    · simp; omega
    · simp; omega
theorem wWidth_bd (a b c d : Int) : 0 ≤ wWidth [a,b,c,d] ∧ wWidth [a,b,c,d] ≤ 256 := by
  have := wWidthR_bd [d,c,b,a]; simpa [wWidth] using this
theorem wLen_bd (a b c d : Int) : 0 ≤ wLen a b c d ∧ wLen a b c d ≤ 32 := by
  have := wWidth_bd a b c d; unfold wLen; omega
set_option maxRecDepth 100000 in
set_option maxHeartbeats 400000 in
theorem len_any (a b c d : Int) (w : World) (ha : U64 a) (hb : U64 b) (hc : U64 c) (hd : U64 d) :
    Calls Tryz.prog 236 #[aWord a b c d] w fun e w' => e = .returned (.int .i64 (wLen a b c d)) ∧ Ext w w' := by
  have hw := wWidth_bd a b c d
  unfold aWord
  have hX : ∀ x ∈ [a,b,c,d], 0 ≤ x ∧ x ≤ 18446744073709551615 := by
    intro x hx; simp at hx; rcases hx with rfl | rfl | rfl | rfl <;> assumption
  have HX := Lib.hid hX; clear hX ha hb hc hd
  go_enter Tryz.func236, Tryz.ntmps236
  go_wp2_with (go_at_call 293; refine (width_any _ 4 _ [a,b,c,d] _ (Rd.of_blk_all (Blk.new _ _ _)) HX.out (by omega)).mono ?_; rintro e w' ⟨rfl, rfl⟩)
  go_ret
  exact ⟨rfl, (Ext.refl _).alloc _⟩
set_option maxRecDepth 100000 in
theorem of_any (n : Int) (w : World) : Calls Tryz.prog 115 #[.int .u64 n] w fun e w' => e = .returned (aWord n 0 0 0) ∧ Ext w w' := by
  go_enter Tryz.func115, Tryz.ntmps115
  go_wp2
  exact bodyPost_ret (v := aWord n 0 0 0) (by simp [results, Tryz.results115, go_sem, aWord]) rfl ⟨rfl, (Ext.refl _).alloc _⟩
theorem bcell {W w1 : World} (hb : Ext W w1) : (∀ b o, b < W.heap.size → w1.cell? ⟨b, o, none⟩ = W.cell? ⟨b, o, none⟩) ∧ (∀ b o, b < W.heap.size → w1.frozen? ⟨b, o, none⟩ = W.frozen? ⟨b, o, none⟩) :=
  ⟨fun b o h => hb.cell h o, fun b o h => hb.frozen h o⟩
def wShort (a b c d : Int) : List Int := (wBytes a b c d).drop (32 - (wLen a b c d).toNat)

theorem short_reads {w2 : World} {g n m : Nat} {a b c d : Int} (hB : Blk w2 g 5 (u8s (wBytes a b c d))) (hn : wLen a b c d = n) (hs : (32 : Int) - (n : Int) = (m : Int)) (A : Option Addr) (hA : m < 32 → A = some ⟨g, m, none⟩) : Rd w2 A (32 - m) (b8 (wShort a b c d)) := by
  have hm : 32 - (wLen a b c d).toNat = m := by rw [hn]; omega
  have hl : (wBytes a b c d).length = 32 := by simp [wBytes]
  unfold wShort; rw [hm]
  rcases Nat.lt_or_ge m 32 with h | h
  · rw [hA h]
    have := (Rd.of_u8s hB 32 hl).drop m (by omega)
    rw [Nat.zero_add] at this
    simpa [b8, List.map_drop] using this
  · have e : 32 - m = 0 := by omega
    rw [e]; exact Rd.zero _ (by rw [List.drop_of_length_le (by omega)]; rfl)
set_option maxRecDepth 100000 in
set_option maxHeartbeats 400000 in
theorem short_any (a b c d : Int) (w : World) (ha : U64 a) (hb : U64 b) (hc : U64 c) (hd : U64 d) :
    Calls Tryz.prog 169 #[aWord a b c d] w fun e w' => Ext w w' ∧ ∃ A n, e = .returned (.slice A n n) ∧ Rd w' A n (b8 (wShort a b c d)) ∧ Ok (fun b => w.heap.size ≤ b) A n := by
  obtain ⟨n, hn32, hn⟩ : ∃ n : Nat, n ≤ 32 ∧ wLen a b c d = n := ⟨(wLen a b c d).toNat, by have := wLen_bd a b c d; omega, by have := wLen_bd a b c d; omega⟩
  have hL := fun W => len_any a b c d W ha hb hc hd
  rw [hn] at hL
  obtain ⟨m, hm, hs⟩ : ∃ m : Nat, (m : Int) ≤ 32 ∧ (32 : Int) - (n : Int) = (m : Int) := ⟨32 - n, by omega, by omega⟩
  have hm0 : (0 : Int) ≤ (m : Int) := by omega
  have hwr : IntKind.i64.wrap (m : Int) = m := IntWalk.i64_in _ (by omega)
  have HL := Lib.hid hL; have HN := Lib.hid hn
  have hBy := bytes_any a b c d
  have HB := Lib.hid hBy
  clear hL hn ha hb hc hd hBy
  unfold aWord at HL HB ⊢
  by_cases h32 : m = 32
  · subst h32
    have hwr2 : IntKind.i64.wrap (32 : Int) = 32 := rfl
    go_enter Tryz.func169, Tryz.ntmps169
    go_wp2
    go_region_held3 (fun w' => w'.cell? ⟨w.heap.size, 0, none⟩ = some (.int .u64 a) ∧ w'.cell? ⟨w.heap.size, 1, none⟩ = some (.int .u64 b) ∧ w'.cell? ⟨w.heap.size, 2, none⟩ = some (.int .u64 c) ∧ w'.cell? ⟨w.heap.size, 3, none⟩ = some (.int .u64 d)) (go_keep) (first | (go_at_call 235; refine (HB.out _).mono ?_; rintro e w1 ⟨hb1, g, rfl, hg1, hB1⟩; obtain ⟨hc1, hf1⟩ := bcell hb1; have hz1 : w.heap.size < w1.heap.size := (by have := hb1.size; (try simp at this); omega)) | (go_at_call 236; refine (HL.out _).mono ?_; rintro e w2 ⟨rfl, hb2⟩; obtain ⟨hc2, hf2⟩ := bcell hb2; have hz2 : w.heap.size < w2.heap.size := (by have := hb2.size; (try simp at this); omega)))
    go_wp2
    go_ret
    exact ⟨hb1.of_drew.of_alloc.trans hb2, _, _, rfl, short_reads (hB1.ext hb2) HN.out hs _ (fun h => absurd h (by omega)), fun h => absurd h (by omega)⟩
  · have h32' : (m : Int) < 32 := by omega
    have h33 : ¬ (32 = m) := by omega
    go_enter Tryz.func169, Tryz.ntmps169
    go_wp2
    go_region_held3 (fun w' => w'.cell? ⟨w.heap.size, 0, none⟩ = some (.int .u64 a) ∧ w'.cell? ⟨w.heap.size, 1, none⟩ = some (.int .u64 b) ∧ w'.cell? ⟨w.heap.size, 2, none⟩ = some (.int .u64 c) ∧ w'.cell? ⟨w.heap.size, 3, none⟩ = some (.int .u64 d)) (go_keep) (first | (go_at_call 235; refine (HB.out _).mono ?_; rintro e w1 ⟨hb1, g, rfl, hg1, hB1⟩; obtain ⟨hc1, hf1⟩ := bcell hb1; have hz1 : w.heap.size < w1.heap.size := (by have := hb1.size; (try simp at this); omega)) | (go_at_call 236; refine (HL.out _).mono ?_; rintro e w2 ⟨rfl, hb2⟩; obtain ⟨hc2, hf2⟩ := bcell hb2; have hz2 : w.heap.size < w2.heap.size := (by have := hb2.size; (try simp at this); omega)))
    go_wp2
    go_ret
    exact ⟨hb1.of_drew.of_alloc.trans hb2, _, _, rfl, short_reads (hB1.ext hb2) HN.out hs _ (fun _ => rfl), fun _ ad e => by injection e with e; subst e; have : w.heap.size + 1 ≤ g := (by simpa using hg1); show w.heap.size ≤ g; omega⟩
end Go.Proofs.CV
