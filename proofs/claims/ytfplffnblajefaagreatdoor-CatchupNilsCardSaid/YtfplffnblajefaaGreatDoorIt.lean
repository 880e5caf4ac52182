/- Proved here: contracts of functions of the program, each for every input that its premises name. -/
import Derived.Test.YtfplffnblajefaaGreatDoorProg
import Derived.Deep.DeepCutAuto
import Derived.Deep.MidRow
import Derived.Outline
import Derived.WalkKit
import Derived.WalkSpells
import Derived.WalkLawsBesides
import Derived.Deep.QuietTactic
import Derived.BigQuiet
import Derived.Deep.LoopGhost
import Derived.Recover
import Derived.Deep.RegionWith
import Derived.Deep.RegionLaw
import Derived.Deep.RegionHeld3
import Derived.StillTailTactics
import Derived.Deep.DeepFit
import Derived.Defers
import Derived.Sort.CutIn
import Derived.Laws.IdiomStrings
import Derived.Test.YtfplffnblajefaaGreatDoorShelf
import Derived.Test.YtfplffnblajefaaGreatDoorCvWords
import Derived.Test.YtfplffnblajefaaGreatDoorCvBase
import Derived.Test.YtfplffnblajefaaGreatDoorCvRange
import Derived.Test.YtfplffnblajefaaGreatDoorWord1
import Derived.Test.YtfplffnblajefaaGreatDoorWord2
import Derived.Test.YtfplffnblajefaaGreatDoorCl
import Derived.Test.YtfplffnblajefaaGreatDoorSt
import Derived.Test.YtfplffnblajefaaGreatDoorHd
import Derived.Test.YtfplffnblajefaaGreatDoorEn
import Derived.Test.YtfplffnblajefaaGreatDoorCa
namespace Go.Proofs.CV
open Go.RowKit
set_option linter.unusedVariables false
set_option linter.unusedSimpArgs false
set_option linter.unnecessarySimpa false
set_option linter.unusedVariables false
variable {ok ok' : Nat → Prop}
def flat (f : Nat → Cells3) : Nat → List Value
  | 0 => []
  | n + 1 => flat f n ++ [(f n).1, (f n).2.1, (f n).2.2]
theorem flat_len (f : Nat → Cells3) : ∀ n, (flat f n).length = n * 3
  | 0 => rfl
  | n + 1 => by simp [flat, flat_len f n]; omega
theorem flat_get (f : Nat → Cells3) : ∀ n i, i < n → (flat f n)[i * 3]? = some (f i).1 ∧ (flat f n)[i * 3 + 1]? = some (f i).2.1 ∧ (flat f n)[i * 3 + 2]? = some (f i).2.2
  | 0, i, h => by omega
  | n + 1, i, h => by
    rcases Nat.lt_succ_iff_lt_or_eq.1 h with h | h
    · obtain ⟨a, b, c⟩ := flat_get f n i h
      have hl := flat_len f n
      simp only [flat]
      rw [List.getElem?_append_left (by omega), List.getElem?_append_left (by omega), List.getElem?_append_left (by omega)]
      exact ⟨a, b, c⟩
    · subst h
      have hl := flat_len f i
      simp only [flat]
      rw [List.getElem?_append_right (by omega), List.getElem?_append_right (by omega), List.getElem?_append_right (by omega), hl]
      simp
theorem flat_inv (f : Nat → Cells3) (n j : Nat) (u : Value) (h : (flat f n)[j]? = some u) : ∃ i, i < n ∧ ((j = i * 3 ∧ u = (f i).1) ∨ (j = i * 3 + 1 ∧ u = (f i).2.1) ∨ (j = i * 3 + 2 ∧ u = (f i).2.2)) := by
  have hj : j < n * 3 := by
    rcases Nat.lt_or_ge j (n * 3) with h' | h'
    · exact h'
    · rw [List.getElem?_eq_none (by rw [flat_len]; exact h')] at h; cases h
  obtain ⟨a, b, c⟩ := flat_get f n (j / 3) (by omega)
  refine ⟨j / 3, by omega, ?_⟩
  have h3 : j % 3 = 0 ∨ j % 3 = 1 ∨ j % 3 = 2 := by omega
  rcases h3 with e | e | e
  · left; rw [show j / 3 * 3 = j by omega, h] at a; exact ⟨by omega, by injection a⟩
  · right; left; rw [show j / 3 * 3 + 1 = j by omega, h] at b; exact ⟨by omega, by injection b⟩
  · right; right; rw [show j / 3 * 3 + 2 = j by omega, h] at c; exact ⟨by omega, by injection c⟩
/-- a slice that reads as items -/
def Items (ok : Nat → Prop) (w : World) (A : Option Addr) (n : Nat) (ts : List Tree) : Prop := ts.length = n ∧ ∃ (g o : Nat) (f : Nat → Cells3), (0 < n → A = some ⟨g, o, none⟩) ∧ (0 < n → g < w.heap.size) ∧ (0 < n → ok g) ∧
  (∀ i, i < n → w.cell? ⟨g, o + i * 3, none⟩ = some (f i).1 ∧ w.cell? ⟨g, o + i * 3 + 1, none⟩ = some (f i).2.1 ∧ w.cell? ⟨g, o + i * 3 + 2, none⟩ = some (f i).2.2) ∧ ∀ i t, ts[i]? = some t → IsItem ok w (f i) t
theorem Items.item {w : World} {A : Option Addr} {n c : Nat} {ts : List Tree} (h : Items ok w A n ts) (A0 : Option Addr) (c0 : Nat) : IsItem ok w (.bool true, .slice A0 0 c0, .slice A n c) (.list ts) := by
  obtain ⟨h0, g, o, f, h1, h2, h5, h3, h4⟩ := h
  exact .list h0 h1 h2 h5 h3 h4
theorem Items.ext {w w' : World} {A : Option Addr} {n : Nat} {ts : List Tree} (h : Items ok w A n ts) (e : Ext w w') : Items ok w' A n ts := by
  obtain ⟨h0, g, o, f, h1, h2, h5, h3, h4⟩ := h
  refine ⟨h0, g, o, f, h1, fun h => e.lt (h2 h), h5, fun i hi => ?_, fun i t ht => (h4 i t ht).ext e⟩
  have hb := h2 (by omega)
  rw [e.cell hb, e.cell hb, e.cell hb]; exact h3 i hi
/-- the cells of items that stand in a row of the call's own -/
def Rows3 (ok : Nat → Prop) (w : World) (xs : List Value) (ts : List Tree) : Prop := ∃ f, xs = flat f ts.length ∧ ∀ i t, ts[i]? = some t → IsItem ok w (f i) t
theorem Rows3.ext {w w' : World} {xs : List Value} {ts : List Tree} (h : Rows3 ok w xs ts) (e : Ext w w') : Rows3 ok w' xs ts := by
  obtain ⟨f, h1, h2⟩ := h; exact ⟨f, h1, fun i t ht => (h2 i t ht).ext e⟩
theorem Rows3.nil (w : World) : Rows3 ok w [] [] := ⟨fun _ => (undef, undef, undef), rfl, fun i t h => by simp at h⟩
theorem Rows3.snoc {w : World} {xs : List Value} {ts : List Tree} {x : Cells3} {t : Tree} (h : Rows3 ok w xs ts) (hx : IsItem ok w x t) : Rows3 ok w (xs ++ [x.1, x.2.1, x.2.2]) (ts ++ [t]) := by
  obtain ⟨f, h1, h2⟩ := h
  refine ⟨fun i => if i < ts.length then f i else x, ?_, fun i u hu => ?_⟩
  · have hf : ∀ n, n ≤ ts.length → flat (fun i => if i < ts.length then f i else x) n = flat f n := by
      intro n hn
      induction n with
      | zero => rfl
      | succ n ih => simp only [flat]; rw [ih (by omega), if_pos (by omega)]
    rw [List.length_append, List.length_singleton]
    simp only [flat]
    rw [hf _ (Nat.le_refl _), h1, if_neg (by omega)]
  · rcases Nat.lt_or_ge i ts.length with hi | hi
    · rw [List.getElem?_append_left hi] at hu; simp only [hi, if_true]; exact h2 i u hu
    · rw [List.getElem?_append_right hi] at hu
      have : i - ts.length = 0 := by
        rcases Nat.eq_zero_or_pos (i - ts.length) with h | h
        · exact h
        · rw [List.getElem?_eq_none (by simp; omega)] at hu; cases hu
      rw [this] at hu; simp at hu; subst hu
      have hne : ¬ i < ts.length := by omega
      simp only [hne, if_false]; exact hx
theorem Rows3.items {w : World} {base : Nat} {t : TypeId} {v : Value} {n : Nat} {xs : List Value} {ts : List Tree} (h : w.ownsRow base t 3 v n xs) (hr : Rows3 ok w xs ts) (hb : ∀ b, base ≤ b → ok b) : ∃ A c, v = .slice A n c ∧ Items ok w A n ts := by
  obtain ⟨f, hx, ht⟩ := hr
  have hl : ts.length = n := by have := h.1; rw [hx, flat_len] at this; omega
  rcases h.2 with ⟨rfl, rfl⟩ | ⟨g, cap, cur, rfl, hbb, hh, h1, h2, h3, h4⟩
  · exact ⟨none, 0, rfl, hl, 0, 0, f, fun h => by omega, fun h => by omega, fun h => by omega, fun i hi => by omega, ht⟩
  · refine ⟨_, cap, rfl, hl, g, 0, f, fun _ => rfl, fun _ => Blk.lt (t := t) hh, fun _ => hb _ hbb, fun i hi => ?_, ht⟩
    have hr := Reads.of_own h
    obtain ⟨a, b, c⟩ := flat_get f n i hi
    obtain ⟨ad, e, _, hc⟩ := hr.2 (by omega)
    injection e with e; subst e
    rw [hx, hl] at hc
    have q0 := hc _ _ a; have q1 := hc _ _ b; have q2 := hc _ _ c
    rw [add_plain'] at q0 q1 q2
    simp only [Nat.zero_add]
    exact ⟨q0, q1, q2⟩
theorem Items.rows {w : World} {A : Option Addr} {n : Nat} {ts : List Tree} (h : Items ok w A n ts) : ∃ xs, Rows3 ok w xs ts ∧ Reads w w.heap.size 3 A n xs ∧ ∀ u ∈ xs, u.oneCell' = true := by
  obtain ⟨hl, g, o, f, h1, h2, h5, h3, h4⟩ := h
  refine ⟨flat f ts.length, ⟨f, rfl, h4⟩, ⟨by rw [flat_len, hl], fun hn => ⟨_, h1 hn, h2 hn, fun j u hu => ?_⟩⟩, fun u hu => ?_⟩
  · rw [hl] at hu
    obtain ⟨i, hi, h⟩ := flat_inv f n j u hu
    obtain ⟨a, b, c⟩ := h3 i hi
    rw [add_plain2]
    rcases h with ⟨rfl, rfl⟩ | ⟨rfl, rfl⟩ | ⟨rfl, rfl⟩
    · exact a
    · exact b
    · exact c
  · obtain ⟨j, hj⟩ := List.mem_iff_getElem?.1 hu
    obtain ⟨i, hi, h⟩ := flat_inv f _ j u hj
    obtain ⟨b, A, n, c, A', n', c', hs⟩ := (h4 i _ (List.getElem?_eq_getElem hi)).shape
    rw [hs] at h
    rcases h with ⟨_, rfl⟩ | ⟨_, rfl⟩ | ⟨_, rfl⟩ <;> rfl
theorem Rows3.mono {w : World} {xs : List Value} {ts : List Tree} (h : Rows3 ok w xs ts) (k : ∀ b, ok b → ok' b) : Rows3 ok' w xs ts := by
  obtain ⟨f, h1, h2⟩ := h; exact ⟨f, h1, fun i t ht => (h2 i t ht).mono k⟩
theorem Items.mono {w : World} {A : Option Addr} {n : Nat} {ts : List Tree} (h : Items ok w A n ts) (k : ∀ b, ok b → ok' b) : Items ok' w A n ts := by
  obtain ⟨h0, g, o, f, h1, h2, h5, h3, h4⟩ := h
  exact ⟨h0, g, o, f, h1, h2, fun h => k _ (h5 h), h3, fun i t ht => (h4 i t ht).mono k⟩
theorem info_item : (Tryz.prog.info? 75).map (fun i => (i.zero, i.size, i.bytes)) = some (some (.agg #[.bool false, .slice none 0 0, .slice none 0 0]), 3, 56) := by kernel_rfl

set_option maxRecDepth 100000 in
set_option maxHeartbeats 400000 in
theorem cloneI_any (A : Option Addr) (n c : Nat) (ts : List Tree) (w : World) (hr : Items ok w A n ts) (hn : n ≤ 1000000) (hok : ∀ b, w.heap.size ≤ b → ok b) :
    Calls Tryz.prog 69 #[.slice A n c] w fun e w' => Ext w w' ∧ ∃ A' c', e = .returned (.slice A' n c') ∧ Items ok w' A' n ts := by
  have q := fun (w : World) (a : Option Addr) (n c n' c' : Nat) => (Lib.run_eql_slice_nil w _ _ a n c n' c' Tryz.underlying70 : (binOp .eql 70 (.slice a n c) (.slice none n' c')).run Tryz.prog w = .ok (.bool a.isNone) w)
  rcases A with _ | ad
  · go_enter Tryz.func69, Tryz.ntmps69
    go_wp2
    go_ret
    have h0 : n = 0 := by
      rcases Nat.eq_zero_or_pos n with h | h
      · exact h
      · obtain ⟨_, g, o, f, h1, _⟩ := hr; have := h1 h; cases this
    subst h0
    exact ⟨Ext.refl _, none, 0, rfl, hr⟩
  · obtain ⟨xs, h3, hrd, hone⟩ := hr.rows
    have H3 := Lib.hid h3; have HRD := Lib.hid hrd; have HO := Lib.hid hone
    clear hr h3 hrd hone
    obtain ⟨i0, hi, hz0, hz1, hz2⟩ := info_parts info_item
    go_enter Tryz.func69, Tryz.ntmps69
    go_wp2_with (at_builtin; refine wpList_append_any _ rfl (.tmp 5) (.tmp 6) _ rfl w.heap.size 75 i0 _ 3 56 Tryz.underlying70 hi hz0 hz1 hz2 rfl (by omega) (.slice (some ⟨w.heap.size, 0, none⟩) 0 0) 0 [] rfl (own_empty w _ (Nat.le_refl _) _ _) w.heap.size (some ad) n c xs rfl (HRD.out.below ((Ext.refl w).alloc _)) HO.out ?_ (by omega) (by simp) ?_; rotate_left; intro v1 w1 hown1 hg1 hat1; have he1 : Ext w w1 := ((Ext.refl w).alloc _).grown hg1 (fun k hk => by simp only [Value.ownBlock, Option.some.injEq] at hk; omega); rw [List.nil_append] at hown1; obtain ⟨A', c', rfl, hit⟩ := (H3.out.ext he1).items hown1 hok)
    · go_ret
      exact ⟨he1, A', c', by simp, by simpa using hit⟩
    · unfold maxLen; omega

def Fresh (w : World) : Nat → Prop := fun b => w.heap.size ≤ b
/-- what a maker of an item comes to -/
def ItemPost (ok : Nat → Prop) (t : Tree) (w : World) (e : Ending) (w' : World) : Prop := Ext w w' ∧ ∃ x, e = .returned (agg3 x) ∧ IsItem ok w' x t
theorem IsItem.far3 {w : World} {x : Cells3} {t : Tree} (h : IsItem ok w x t) {B : Nat} (hB : ¬ ok B) (a b c : Value) : IsItem ok (((w.setCell ⟨B, 0, none⟩ a).setCell ⟨B, 1, none⟩ b).setCell ⟨B, 2, none⟩ c) x t := ((h.far (p := ⟨B, 0, none⟩) hB a).far (p := ⟨B, 1, none⟩) hB b).far (p := ⟨B, 2, none⟩) hB c
set_option maxRecDepth 100000 in
set_option maxHeartbeats 400000 in
theorem big_any (a b c d : Int) (w : World) (ha : U64 a) (hb : U64 b) (hc : U64 c) (hd : U64 d) : Calls Tryz.prog 114 #[aWord a b c d] w (ItemPost (Fresh w) (.str (wShort a b c d)) w) := by
  have HS := Lib.hid (fun w => short_any a b c d w ha hb hc hd)
  unfold aWord at HS ⊢
  go_enter Tryz.func114, Tryz.ntmps114
  go_wp2_with (go_at_call 169; refine (HS.out _).mono ?_; rintro e w1 ⟨he1, A, n, rfl, hr, hok⟩; obtain ⟨hA, hB⟩ := two_blk he1; have b3 := hB.c3; have bf := hB.frozen)
  refine bodyPost_ret (v := agg3 (.bool false, .slice A n n, .slice none 0 0)) (by simp [results, Tryz.results114, go_sem, agg3, b3]) rfl ?_
  refine ⟨((((((Ext.refl w).alloc _).alloc _).trans he1).set (by simp) _).set (by simp) _).set (by simp) _, _, rfl, ?_⟩
  have h : IsItem (fun b => w.heap.size + 2 ≤ b) w1 (.bool false, .slice A n n, .slice none 0 0) (.str (wShort a b c d)) := .str hr (by simpa using hok)
  exact (h.far3 (by omega) _ _ _).mono (fun b hb => by unfold Fresh; omega)
set_option maxRecDepth 100000 in
set_option maxHeartbeats 400000 in
theorem num_any (a : Int) (w : World) (ha : U64 a) : Calls Tryz.prog 57 #[.int .u64 a] w (ItemPost (Fresh w) (.str (wShort a 0 0 0)) w) := by
  have HS := Lib.hid (fun w => big_any a 0 0 0 w ha (by simp [U64]) (by simp [U64]) (by simp [U64]))
  clear ha
  go_enter Tryz.func57, Tryz.ntmps57
  go_wp2_with (first | (go_at_call 115; refine (of_any _ _).mono ?_; rintro e w1 ⟨rfl, he1⟩) | (go_at_call 114; refine (HS.out _).mono ?_; rintro e w2 ⟨he2, x, rfl, hx⟩; obtain ⟨xb, xA, xn, xc, xA', xn', xc', rfl⟩ := hx.shape; have hB := ((Blk.new w _ _).ext he1).ext he2; have b3 := hB.c3; have bf := hB.frozen; unfold agg3))
  refine bodyPost_ret (v := agg3 (.bool xb, .slice xA xn xc, .slice xA' xn' xc')) (by simp [results, Tryz.results57, go_sem, agg3, b3]) rfl ?_
  refine ⟨(((((Ext.refl w).alloc _).trans (he1.trans he2)).set (by simp) _).set (by simp) _).set (by simp) _, _, rfl, ?_⟩
  have hs := he1.size
  simp only [World.size_alloc] at hs
  exact (hx.far3 (by unfold Fresh; omega) _ _ _).mono (fun b hb => by unfold Fresh at *; omega)
set_option maxRecDepth 100000 in
set_option maxHeartbeats 400000 in
theorem str_any (A : Option Addr) (n c : Nat) (bs : List Int) (w : World) (hr : Rd w A n (b8 bs)) (hn : n ≤ 140737488355328) : Calls Tryz.prog 32 #[.slice A n c] w (ItemPost (Fresh w) (.str bs) w) := by
  have HS := Lib.hid (clone_any A n c bs _ (hr.ext ((Ext.refl w).alloc (.cells #[.bool false, .slice none 0 0, .slice none 0 0] 75))) hn)
  clear hr
  go_enter Tryz.func32, Tryz.ntmps32
  go_wp2_with (go_at_call 68; refine HS.out.mono ?_; rintro e w1 ⟨he1, A', c', rfl, hr, hok⟩; have hB := (Blk.new w _ _).ext he1; have b3 := hB.c3; have bf := hB.frozen)
  refine bodyPost_ret (v := agg3 (.bool false, .slice A' n c', .slice none 0 0)) (by simp [results, Tryz.results32, go_sem, agg3, b3]) rfl ?_
  refine ⟨(((((Ext.refl w).alloc _).trans he1).set (by simp) _).set (by simp) _).set (by simp) _, _, rfl, ?_⟩
  have h : IsItem (fun b => w.heap.size + 1 ≤ b) w1 (.bool false, .slice A' n c', .slice none 0 0) (.str bs) := .str hr (fun _ ad e => by simpa using hok ad e)
  exact (h.far3 (by omega) _ _ _).mono (fun b hb => by unfold Fresh; omega)
set_option maxRecDepth 100000 in
set_option maxHeartbeats 400000 in
theorem list_any (A : Option Addr) (n c : Nat) (ts : List Tree) (w : World) (hr : Items ok w A n ts) (hn : n ≤ 1000000) (hok : ∀ b, ok b → b < w.heap.size) : Calls Tryz.prog 31 #[.slice A n c] w (ItemPost (fun b => ok b ∨ w.heap.size ≤ b) (.list ts) w) := by
  have HS := Lib.hid (cloneI_any (ok := fun b => ok b ∨ w.heap.size < b) A n c ts _ ((hr.mono (fun b hb => .inl hb)).ext ((Ext.refl w).alloc (.cells #[.bool false, .slice none 0 0, .slice none 0 0] 75))) hn (fun b hb => .inr (by simp at hb; omega)))
  clear hr
  go_enter Tryz.func31, Tryz.ntmps31
  go_wp2_with (go_at_call 69; refine HS.out.mono ?_; rintro e w1 ⟨he1, A', c', rfl, hr⟩; have hB := (Blk.new w _ _).ext he1; have b3 := hB.c3; have bf := hB.frozen)
  refine bodyPost_ret (v := agg3 (.bool true, .slice none 0 0, .slice A' n c')) (by simp [results, Tryz.results31, go_sem, agg3, b3]) rfl ?_
  refine ⟨(((((Ext.refl w).alloc _).trans he1).set (by simp) _).set (by simp) _).set (by simp) _, _, rfl, ?_⟩
  refine ((hr.item none 0).far3 ?_ _ _ _).mono (fun b hb => hb.imp id (fun h => Nat.le_of_lt h))
  rintro (h | h)
  · have := hok _ h; omega
  · omega
end Go.Proofs.CV
