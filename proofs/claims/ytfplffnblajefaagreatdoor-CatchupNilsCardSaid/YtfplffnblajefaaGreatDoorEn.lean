/- Proved here: contracts of functions of the program, each for every input that its premises name. -/
import Derived.Test.YtfplffnblajefaaGreatDoorProg
import Derived.Deep.DeepCutAuto
import Derived.Deep.MidRow
import Derived.Outline
import Derived.WalkKit
import Derived.WalkSpells
import Derived.WalkLawsBesides
import Derived.Deep.QuietTactic
import Derived.BigQuiet
import Derived.Deep.LoopGhost
import Derived.Recover
import Derived.Deep.RegionWith
import Derived.Deep.RegionLaw
import Derived.Deep.RegionHeld3
import Derived.StillTailTactics
import Derived.Deep.DeepFit
import Derived.Defers
import Derived.Sort.CutIn
import Derived.Laws.IdiomStrings
import Derived.Test.YtfplffnblajefaaGreatDoorShelf
import Derived.Test.YtfplffnblajefaaGreatDoorCvWords
import Derived.Test.YtfplffnblajefaaGreatDoorCvBase
import Derived.Test.YtfplffnblajefaaGreatDoorCvRange
import Derived.Test.YtfplffnblajefaaGreatDoorWord1
import Derived.Test.YtfplffnblajefaaGreatDoorWord2
import Derived.Test.YtfplffnblajefaaGreatDoorCl
import Derived.Test.YtfplffnblajefaaGreatDoorSt
import Derived.Test.YtfplffnblajefaaGreatDoorHd
namespace Go.Proofs.CV
open Go.RowKit
set_option linter.unusedVariables false
set_option linter.unusedSimpArgs false
set_option linter.unnecessarySimpa false
set_option linter.unusedVariables false
variable {ok ok' : Nat → Prop}
def rFold (f : Tree → Option (List Int)) : List Tree → List Int → Option (List Int)
  | [], acc => some acc
  | t :: ts, acc => match f t with
    | none => none
    | some b => if (acc ++ b).length ≤ 65536 then rFold f ts (acc ++ b) else none
def encStr (bs : List Int) : Option (List Int) :=
  if bs.length = 1 ∧ bs.getD 0 0 < 128 then some bs else if bs.length ≤ 65536 then some (rHead 128 bs.length ++ bs) else none
def encF : Nat → Tree → Option (List Int)
  | _, .str bs => encStr bs
  | 0, .list _ => none
  | f + 1, .list ts => (rFold (encF f) ts []).map fun all => rHead 192 all.length ++ all
def faultV (n : Int) : Value := .iface 214 (.int .i64 n)
def EncPost (r : Option (List Int)) (W : World) (e : Ending) (W' : World) : Prop := Ext W W' ∧
  match r with
  | some bs => ∃ A c, e = .returned (.slice A bs.length c) ∧ Rd W' A bs.length (b8 bs)
  | none => e = .panicked [{ v := faultV 3, recovered := false }]
set_option maxRecDepth 100000 in
theorem ask_yes (k : Int) (w : World) : Calls Tryz.prog 67 #[.bool true, .int .i64 k] w fun e w' => e = .returned (.tuple #[]) ∧ w = w' := by
  go_enter Tryz.func67, Tryz.ntmps67
  go_wp2
  go_end0
  exact ⟨rfl, rfl⟩
set_option maxRecDepth 100000 in
theorem ask_no (k : Int) (w : World) : Calls Tryz.prog 67 #[.bool false, .int .i64 k] w fun e w' => e = .panicked [{ v := faultV k, recovered := false }] ∧ w = w' := by
  go_enter Tryz.func67, Tryz.ntmps67
  go_wp2
  exact ⟨rfl, rfl, rfl⟩
theorem IsItem.shape {w : World} {x : Cells3} {t : Tree} (h : IsItem ok w x t) : ∃ b A n c A' n' c', x = (.bool b, .slice A n c, .slice A' n' c') := by
  cases h with
  | str => exact ⟨_, _, _, _, _, _, _, rfl⟩
  | list => exact ⟨_, _, _, _, _, _, _, rfl⟩
theorem rHead_len (b n : Nat) : (rHead b n).length ≤ 9 := by
  unfold rHead; split
  · simp
  · have := wShort_len8 n; simp; omega
theorem rFold_len (f : Tree → Option (List Int)) : ∀ (ts : List Tree) (acc r : List Int), acc.length ≤ 65536 → rFold f ts acc = some r → r.length ≤ 65536
  | [], acc, r, ha, h => by simp [rFold] at h; subst h; exact ha
  | t :: ts, acc, r, ha, h => by
    simp only [rFold] at h
    split at h
    · cases h
    · split at h
      · exact rFold_len f ts _ r (by assumption) h
      · cases h
theorem encStr_len {bs r : List Int} (h : encStr bs = some r) : r.length ≤ 65545 := by
  unfold encStr at h
  split at h
  · injection h with h; subst h; omega
  · split at h
    · injection h with h; subst h; have := rHead_len 128 bs.length; rw [List.length_append]; omega
    · cases h
theorem encF_len (f : Nat) (t : Tree) {r : List Int} (h : encF f t = some r) : r.length ≤ 65545 := by
  cases t with
  | str bs => cases f <;> exact encStr_len h
  | list ts =>
    cases f with
    | zero => cases h
    | succ f =>
      simp only [encF, Option.map_eq_some_iff] at h
      obtain ⟨all, h1, rfl⟩ := h
      have := rFold_len _ _ _ _ (by simp) h1
      have := rHead_len 192 all.length
      rw [List.length_append]; omega
theorem enc_end {W w2 w3 : World} {v v1 : Value} {m n : Nat} {hs bs : List Int} (he : Ext W w2) (hown : w2.ownsRow m 5 1 v hs.length (b8 hs)) (hown1 : w3.ownsRow W.heap.size 5 1 v1 (hs.length + n) (b8 hs ++ b8 bs)) (hg : w2.grownBy w3 v.ownBlock)
    (hn : bs.length = n) (hm : W.heap.size ≤ m) : EncPost (some (hs ++ bs)) W (.returned v1) w3 := by
  refine ⟨he.grown hg (fun k hk => Nat.le_trans hm (own_base' hown k hk)), ?_⟩
  obtain ⟨A, c, rfl, _, hr⟩ := Rd.of_own hown1
  subst hn
  refine ⟨A, c, by rw [List.length_append], ?_⟩
  rw [List.length_append]
  simpa [b8] using hr
set_option maxRecDepth 100000 in
set_option maxHeartbeats 400000 in
theorem enc_str (A : Option Addr) (n c : Nat) (A' : Option Addr) (c' : Nat) (bs : List Int) (d : Int) (W : World) (h : Rd W A n (b8 bs)) (hb : ∀ x ∈ bs, 0 ≤ x ∧ x ≤ 255) (hn : n ≤ 100000000) :
    Calls Tryz.prog 66 #[agg3 (.bool false, .slice A n c, .slice A' 0 c'), .int .i64 d] W (EncPost (encStr bs) W) := by
  have hl : bs.length = n := by have := h.len; simpa [b8] using this
  have hr : Rd (W.alloc (.cells #[.bool false, .slice A n c, .slice A' 0 c'] 75)) A n (b8 bs) := h.ext ((Ext.refl _).alloc _)
  by_cases h1 : n = 1
  · subst h1
    obtain ⟨b, rfl⟩ : ∃ b, bs = [b] := by
      match bs, hl with
      | [b], _ => exact ⟨b, rfl⟩
    obtain ⟨ad, u, rfl, hlt, hu, hc⟩ := hr.at_ (k := 0) (by omega)
    simp [b8] at hu; subst hu
    have hbb := hb b (by simp)
    rw [show ad.add 0 = ad by unfold Addr.add; rfl] at hc
    by_cases h7 : b < 128
    · have hE : encStr [b] = some [b] := by unfold encStr; rw [if_pos (by simpa using h7)]
      rw [hE]; clear hE hb
      unfold agg3
      go_enter Tryz.func66, Tryz.ntmps66
      go_wp2_with fail
      go_ret
      exact ⟨(Ext.refl _).alloc _, _, _, rfl, hr⟩
    · have hE : encStr [b] = some (rHead 128 1 ++ [b]) := by unfold encStr; rw [if_neg (by simpa using h7), if_pos (by simp)]; rfl
      rw [hE]; clear hE hb
      obtain ⟨i0, hi, hz0, hz1, hz2⟩ := info_parts info_u8
      unfold agg3
      have hh : ∀ w, Calls Tryz.prog 120 #[.int .u8 128, .int .i64 1] w fun e w' => Ext w w' ∧ ∃ v, e = .returned v ∧ w'.ownsRow w.heap.size 5 1 v (rHead 128 1).length (b8 (rHead 128 1)) := fun w => head_any 128 1 w (by omega) (by omega)
      have HH := Lib.hid hh; clear hh
      go_enter Tryz.func66, Tryz.ntmps66
      go_wp2_with (first | (go_at_call 67; refine (ask_yes _ _).mono ?_; rintro e w1 ⟨rfl, rfl⟩) | (go_at_call 120; refine (HH.out _).mono ?_; rintro e w2 ⟨he2, v, rfl, hown⟩) | (at_builtin; refine wpList_append_any _ rfl (.tmp 51) (.tmp 52) _ rfl W.heap.size 5 i0 _ 1 1 Tryz.underlying22 hi hz0 hz1 hz2 rfl (by omega) v (rHead 128 1).length (b8 (rHead 128 1)) rfl (own_lower hown (by simp)) w2.heap.size (some ad) 1 c (b8 [b]) rfl (hr.ext he2) b8_one ?_ ?_ (by have := he2.size; simp at this; omega) ?_; rotate_left; rotate_left; intro v1 w3 hown1 hg1 hat1))
      · go_ret
        exact enc_end he2.of_alloc hown hown1 hg1 rfl (by simp)
      · rw [rHead]; simp [maxLen]
      · rw [rHead]; simp
  · have h1' : ((n : Int) == 1) = false := by simp; omega
    by_cases h2 : n ≤ 65536
    · have h2' : (n : Int) ≤ 65536 := by omega
      have hE : encStr bs = some (rHead 128 bs.length ++ bs) := by unfold encStr; rw [if_neg (by rw [hl]; omega), if_pos (by omega)]
      rw [hE]
      have HL := Lib.hid hl; clear hl hE hb
      obtain ⟨i0, hi, hz0, hz1, hz2⟩ := info_parts info_u8
      unfold agg3
      have hh : ∀ w, Calls Tryz.prog 120 #[.int .u8 128, .int .i64 n] w fun e w' => Ext w w' ∧ ∃ v, e = .returned v ∧ w'.ownsRow w.heap.size 5 1 v (rHead 128 n).length (b8 (rHead 128 n)) := fun w => head_any 128 n w (by omega) h2
      have HH := Lib.hid hh; clear hh
      have hrl := rHead_len 128 n
      go_enter Tryz.func66, Tryz.ntmps66
      go_wp2_with (first | (go_at_call 67; refine (ask_yes _ _).mono ?_; rintro e w1 ⟨rfl, rfl⟩) | (go_at_call 120; refine (HH.out _).mono ?_; rintro e w2 ⟨he2, v, rfl, hown⟩) | (at_builtin; refine wpList_append_any _ rfl (.tmp 51) (.tmp 52) _ rfl W.heap.size 5 i0 _ 1 1 Tryz.underlying22 hi hz0 hz1 hz2 rfl (by omega) v (rHead 128 n).length (b8 (rHead 128 n)) rfl (own_lower hown (by simp)) w2.heap.size A n c (b8 bs) rfl (hr.ext he2) b8_one ?_ ?_ (by have := he2.size; simp at this; omega) ?_; rotate_left; rotate_left; intro v1 w3 hown1 hg1 hat1))
      · go_ret
        have e := HL.out; subst e
        exact enc_end he2.of_alloc hown hown1 hg1 rfl (by simp)
      · unfold maxLen; omega
      · omega
    · have h2' : ¬ (n : Int) ≤ 65536 := by omega
      have hE : encStr bs = none := by unfold encStr; rw [if_neg (by rw [hl]; omega), if_neg (by omega)]
      rw [hE]; clear hE hb hl
      unfold agg3
      go_enter Tryz.func66, Tryz.ntmps66
      go_wp2_with (go_at_call 67; refine (ask_no _ _).mono ?_; rintro e w1 ⟨rfl, rfl⟩)
      exact ⟨rfl, (Ext.refl _).alloc _, rfl⟩

set_option maxRecDepth 100000 in
set_option maxHeartbeats 4000000 in
theorem enc_any (w : World) (x : Cells3) (t : Tree) (h : IsItem ok w x t) : t.Small → ∀ (f deep : Nat) (d : Int) (W : World), f + deep = 16 → d = deep → Ext w W →
    Calls Tryz.prog 66 #[agg3 x, .int .i64 d] W (EncPost (encF f t) W) := by
  induction h with
  | @str A n c A' c' bs h ho =>
    intro hs f deep d W _ _ hW
    cases hs with
    | str h1 h2 =>
      have hl : bs.length = n := by have := h.len; simpa [b8] using this
      have := enc_str A n c A' c' bs d W (h.ext hW) h2 (by omega)
      cases f <;> exact this
  | @list A c A' n c' g o fn ts hn hA hg ho hc ht ih =>
    intro hs f deep d W hfd hd hW
    subst hd
    cases hs with
    | list h1 h2 =>
      cases f with
      | zero =>
        have h16 : deep = 16 := by omega
        subst h16
        unfold encF agg3
        go_enter Tryz.func66, Tryz.ntmps66
        go_wp2_with (go_at_call 67; refine (ask_no _ _).mono ?_; rintro e w1 ⟨rfl, rfl⟩)
        exact ⟨rfl, (Ext.refl _).alloc _, rfl⟩
      | succ f =>
        have hd16 : (deep : Int) < 16 := by omega
        have IH := Lib.hid ih; clear ih
        have HC := Lib.hid hc; clear hc
        have H2 := Lib.hid h2; clear h2
        have HT := Lib.hid ht; clear ht
        have HN := Lib.hid hn
        have hn8 : n ≤ 100000000 := by omega
        have HFD := Lib.hid hfd; clear hfd hn
        unfold agg3
        go_enter Tryz.func66, Tryz.ntmps66
        go_wp2_with (go_at_call 67; refine (ask_yes _ _).mono ?_; rintro e w1 ⟨rfl, rfl⟩)
        obtain ⟨i0, hi, hz0, hz1, hz2⟩ := info_parts info_u8
        go_loopw [5, 17] (fun v i wr => ∃ (k : Nat) (acc : List Int), k ≤ n ∧ i = .int .i64 k ∧ Ext W wr ∧ wr.ownsRow W.heap.size 5 1 v acc.length (b8 acc) ∧ acc.length ≤ 65536 ∧ Hid (rFold (encF f) (ts.drop k) acc = rFold (encF f) ts [])) (fun _ i _ => n - (intOf i).toNat)
        case atStart => exact ⟨0, [], by omega, rfl, (Ext.refl _).alloc _, ⟨rfl, .inl ⟨rfl, rfl⟩⟩, by simp, rfl⟩
        case round =>
          obtain ⟨k, acc, hk, rfl, he, hown, hacc, HF⟩ := hrel
          by_cases hlt : k < n
          · have hkt : k < ts.length := by rw [HN.out]; omega
            obtain ⟨t, HTk⟩ : ∃ t, Hid (ts[k]? = some t) := ⟨_, List.getElem?_eq_getElem hkt⟩
            have hdrop : ts.drop k = t :: ts.drop (k + 1) := by
              have := HTk.out; rw [List.getElem?_eq_getElem hkt] at this; injection this with this
              rw [← this]; exact List.drop_eq_getElem_cons hkt
            have hF := HF.out
            rw [hdrop] at hF
            simp only [rFold] at hF
            have CH : ∀ W1, Ext w W1 → Calls Tryz.prog 66 #[agg3 (fn k), .int .i64 ((deep : Int) + 1)] W1 (EncPost (encF f t) W1) :=
              fun W1 h => IH.out k t HTk.out (H2.out k t HTk.out) f (deep + 1) _ W1 (by have := HFD.out; omega) (by omega) h
            obtain ⟨c0, c1, c2⟩ := HC.out k hlt
            have hb := hg (by omega)
            obtain rfl := hA (by omega)
            rw [← (hW.trans he).cell hb] at c0 c1 c2
            obtain ⟨y, hy⟩ : ∃ y, fn k = y := ⟨_, rfl⟩
            rw [hy] at CH c0 c1 c2
            obtain ⟨xb, xA, xn, xc, xA', xn', xc', rfl⟩ := (show IsItem ok w y t by rw [← hy]; exact HT.out k t HTk.out).shape
            simp only [agg3] at CH c0 c1 c2
            have hki : (k : Int) < (n : Int) := by omega
            clear hy hdrop hA hkt
            cases hE : encF f t with
            | none =>
              rw [hE] at CH hF
              have HCH := Lib.hid CH; have HFF := Lib.hid hF; clear CH hF hE
              go_wp2_with (go_at_call 66; refine (HCH.out _ ((hW.trans he).alloc _)).mono ?_; rintro e w1 ⟨he1, rfl⟩)
              exact ⟨rfl, ((he.alloc _).trans he1), by unfold encF; rw [← HFF.out]; rfl⟩
            | some b =>
              rw [hE] at CH hF
              simp only at hF
              by_cases hlen : (acc ++ b).length ≤ 65536
              · rw [if_pos hlen] at hF
                have hlen2 : (acc.length : Int) + (b.length : Int) ≤ 65536 := by rw [List.length_append] at hlen; omega
                have hlen3 : acc.length + b.length ≤ 65536 := by rw [List.length_append] at hlen; omega
                have HCH := Lib.hid CH; have HFF := Lib.hid hF; clear CH hF hE hlen
                have HACC := Lib.hid hacc; clear hacc HF
                go_wp2_with (first | (go_at_call 66; refine (HCH.out _ ((hW.trans he).alloc _)).mono ?_; rintro e w1 ⟨he1, A1, c1, rfl, hr1⟩) | (at_builtin; refine wpList_append_any _ rfl (.tmp 21) (.tmp 25) _ rfl W.heap.size 5 i0 _ 1 1 Tryz.underlying22 hi hz0 hz1 hz2 rfl (by omega) _ acc.length (b8 acc) rfl (own_ext (own_ext hown ((Ext.refl _).alloc _)) he1) w1.heap.size A1 b.length c1 (b8 b) rfl hr1 b8_one ?_ ?_ (by have := he.size; have := he1.size; simp at this; omega) ?_; rotate_left; rotate_left; intro v1 w3 hown1 hg1 hat1; obtain ⟨A3, c3, rfl, hc3, hr3⟩ := Rd.of_own hown1) | (go_at_call 67; refine (ask_yes _ _).mono ?_; rintro e w4 ⟨rfl, rfl⟩))
                · exact ⟨⟨k + 1, acc ++ b, by omega, by go_num, ((he.alloc _).trans he1).grown hg1 (fun k hk => own_base' hown k hk), by simpa [b8, List.length_append] using hown1, by rw [List.length_append]; omega, HFF⟩, by simp [intOf]; omega⟩
                · unfold maxLen; omega
                · omega
              · rw [if_neg hlen] at hF
                have hlen2 : ¬ (acc.length : Int) + (b.length : Int) ≤ 65536 := by rw [List.length_append] at hlen; omega
                have hd1 : decide ((acc.length : Int) + (b.length : Int) ≤ 65536) = false := by simp only [decide_eq_false_iff_not]; exact hlen2
                have hlen4 : (65536 : Int) < (acc.length : Int) + (b.length : Int) := by omega
                have HBL := Lib.hid (encF_len f t hE)
                have HCH := Lib.hid CH; have HFF := Lib.hid hF; clear CH hF hE hlen
                have hbl : b.length ≤ 65545 := HBL.out
                go_wp2_with (first | (go_at_call 66; refine (HCH.out _ ((hW.trans he).alloc _)).mono ?_; rintro e w1 ⟨he1, A1, c1, rfl, hr1⟩) | (at_builtin; refine wpList_append_any _ rfl (.tmp 21) (.tmp 25) _ rfl W.heap.size 5 i0 _ 1 1 Tryz.underlying22 hi hz0 hz1 hz2 rfl (by omega) _ acc.length (b8 acc) rfl (own_ext (own_ext hown ((Ext.refl _).alloc _)) he1) w1.heap.size A1 b.length c1 (b8 b) rfl hr1 b8_one ?_ ?_ (by have := he.size; have := he1.size; simp at this; omega) ?_; rotate_left; rotate_left; intro v1 w3 hown1 hg1 hat1; obtain ⟨A3, c3, rfl, hc3, hr3⟩ := Rd.of_own hown1) | (go_at_call 67; refine (ask_no _ _).mono ?_; rintro e w4 ⟨rfl, rfl⟩))
                · exact ⟨rfl, ((he.alloc _).trans he1).grown hg1 (fun k hk => own_base' hown k hk), by unfold encF; rw [← HFF.out]; rfl⟩
                · unfold maxLen; omega
                · omega
          · have hkn : k = n := by omega
            subst hkn
            have hF := HF.out
            rw [List.drop_of_length_le (by rw [HN.out]; omega)] at hF
            simp only [rFold] at hF
            have hE : encF (f + 1) (.list ts) = some (rHead 192 acc.length ++ acc) := by unfold encF; rw [← hF]; rfl
            have HEE := Lib.hid hE
            have HH : ∀ w, Calls Tryz.prog 120 #[.int .u8 192, .int .i64 acc.length] w fun e w' => Ext w w' ∧ ∃ v, e = .returned v ∧ w'.ownsRow w.heap.size 5 1 v (rHead 192 acc.length).length (b8 (rHead 192 acc.length)) := fun w => head_any 192 acc.length w (by omega) hacc
            obtain ⟨A1, c1, rfl, hc1, hr1⟩ := Rd.of_own hown
            have hrl := rHead_len 192 acc.length
            have hacc' : (acc.length : Int) ≤ 65536 := by omega
            have HHH := Lib.hid HH
            clear HH hF hE HF hown
            go_wp2_with (first | (go_at_call 67; refine (ask_yes _ _).mono ?_; rintro e w1 ⟨rfl, rfl⟩) | (go_at_call 120; refine (HHH.out _).mono ?_; rintro e w2 ⟨he2, v, rfl, hown⟩) | (at_builtin; refine wpList_append_any _ rfl (.tmp 51) (.tmp 52) _ rfl W.heap.size 5 i0 _ 1 1 Tryz.underlying22 hi hz0 hz1 hz2 rfl (by omega) v (rHead 192 acc.length).length (b8 (rHead 192 acc.length)) rfl (own_lower hown he.size) w2.heap.size A1 acc.length c1 (b8 acc) rfl (hr1.ext he2) b8_one ?_ ?_ (by have := he.size; have := he2.size; omega) ?_; rotate_left; rotate_left; intro v1 w3 hown1 hg1 hat1))
            · go_ret
              rw [HEE.out]
              exact enc_end (he.trans he2) hown hown1 hg1 rfl he.size
            · unfold maxLen; omega
            · omega
end Go.Proofs.CV
