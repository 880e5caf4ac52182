/- Proved here: how a world that is only grown reads; no condition beyond those that each lemma names. -/
import Derived.Test.YtfplffnblajefaaGreatDoorCvWords
import Derived.IntWalk
namespace Go.Proofs.CV
set_option linter.unusedVariables false
set_option linter.unusedSimpArgs false
open Go.RowKit

theorem pw_drewN {B : Nat} {w W : World} (h : Below B w W) (n : Nat) : Below B w (W.drewN n) := ⟨h.os, h.tape, h.output, h.size, h.block⟩
def Ext (w w' : World) : Prop := Below w.heap.size w w'
section
variable {a w w' w'' : World}
theorem Ext.refl (w : World) : Ext w w := Below.refl _ _
theorem Ext.size (h : Ext w w') : w.heap.size ≤ w'.heap.size := Below.size h
theorem Ext.trans (h : Ext w w') (k : Ext w' w'') : Ext w w'' := Below.trans h (Below.mono k h.size)
theorem Ext.alloc (h : Ext a w) (o : Obj) : Ext a (w.alloc o) := Below.alloc h h.size o
theorem Ext.drew (h : Ext a w) : Ext a w.drew := Below.drew h
theorem Ext.drewN (h : Ext a w) (n : Nat) : Ext a (w.drewN n) := pw_drewN h n
theorem Ext.set (h : Ext a w) {p : Addr} (hp : a.heap.size ≤ p.block) (u : Value) : Ext a (w.setCell p u) := Below.setCell h hp u
theorem Ext.grown {row : Option Nat} (h : Ext a w) (hg : w.grownBy w' row) (hr : ∀ k, row = some k → a.heap.size ≤ k) : Ext a w' := Below.grown h hg h.size hr
theorem Ext.below (h : Ext w w') : Below w.heap.size w w' := h
theorem Ext.of_below (h : Below w.heap.size w w') : Ext w w' := h
theorem Ext.cell (h : Ext w w') {b : Nat} (hb : b < w.heap.size) (o : Nat) : w'.cell? ⟨b, o, none⟩ = w.cell? ⟨b, o, none⟩ := Below.cell h (p := ⟨b, o, none⟩) hb
theorem Ext.frozen (h : Ext w w') {b : Nat} (hb : b < w.heap.size) (o : Nat) : w'.frozen? ⟨b, o, none⟩ = w.frozen? ⟨b, o, none⟩ := Below.frozen h (p := ⟨b, o, none⟩) hb
/-- a world that came of one that is drawn reads as one that came of the other -/
theorem Ext.of_drew (h : Ext w.drew w') : Ext w w' := ((Ext.refl w).drew).trans h
theorem Ext.of_alloc {o : Obj} (h : Ext (w.alloc o) w') : Ext w w' := ((Ext.refl w).alloc o).trans h
theorem Ext.of_drewN {n : Nat} (h : Ext (w.drewN n) w') : Ext w w' := ((Ext.refl w).drewN n).trans h
theorem Ext.lt (h : Ext w w') {b : Nat} (hb : b < w.heap.size) : b < w'.heap.size := Nat.lt_of_lt_of_le hb h.size
end

theorem Blk.ext {w w' : World} {g : Nat} {t : TypeId} {cs : Array Value} (h : Blk w g t cs) (e : Ext w w') : Blk w' g t cs := h.below e h.lt
theorem Blk.c4 {w : World} {g : Nat} {t : TypeId} {a b c d : Value} (h : Blk w g t #[a,b,c,d]) : w.cell? ⟨g, 0, none⟩ = some a ∧ w.cell? ⟨g, 1, none⟩ = some b ∧ w.cell? ⟨g, 2, none⟩ = some c ∧ w.cell? ⟨g, 3, none⟩ = some d :=
  ⟨h.cell 0, h.cell 1, h.cell 2, h.cell 3⟩
theorem Blk.c1 {w : World} {g : Nat} {t : TypeId} {a : Value} (h : Blk w g t #[a]) : w.cell? ⟨g, 0, none⟩ = some a := h.cell 0
theorem Blk.c2 {w : World} {g : Nat} {t : TypeId} {a b : Value} (h : Blk w g t #[a,b]) : w.cell? ⟨g, 0, none⟩ = some a ∧ w.cell? ⟨g, 1, none⟩ = some b := ⟨h.cell 0, h.cell 1⟩
theorem Blk.c3 {w : World} {g : Nat} {t : TypeId} {a b c : Value} (h : Blk w g t #[a,b,c]) : w.cell? ⟨g, 0, none⟩ = some a ∧ w.cell? ⟨g, 1, none⟩ = some b ∧ w.cell? ⟨g, 2, none⟩ = some c := ⟨h.cell 0, h.cell 1, h.cell 2⟩
theorem Blk.new1 (w : World) (t t' : TypeId) (cs cs' : Array Value) : Blk ((w.alloc (.cells cs t)).alloc (.cells cs' t')) (w.heap.size + 1) t' cs' := by
  have := Blk.new (w.alloc (.cells cs t)) t' cs'; rwa [World.size_alloc] at this

/-- a slice of cells, one each, reads as a list -/
def Rd (w : World) (A : Option Addr) (n : Nat) (xs : List Value) : Prop := Reads w w.heap.size 1 A n xs
theorem Rd.ext {w w' : World} {A : Option Addr} {n : Nat} {xs : List Value} (h : Rd w A n xs) (e : Ext w w') : Rd w' A n xs := (Reads.below h e).more e.size
theorem Rd.len {w : World} {A : Option Addr} {n : Nat} {xs : List Value} (h : Rd w A n xs) : xs.length = n := by have := h.1; simpa using this
theorem Rd.nil {w : World} {A : Option Addr} : Rd w A 0 [] := Reads.none_
theorem Rd.at_ {w : World} {A : Option Addr} {n : Nat} {xs : List Value} (h : Rd w A n xs) {k : Nat} (hk : k < n) : ∃ ad u, A = some ad ∧ ad.block < w.heap.size ∧ xs[k]? = some u ∧ w.cell? (ad.add k) = some u := Reads.at_ h hk
theorem add_plain' (g j : Nat) : (⟨g, 0, none⟩ : Addr).add j = ⟨g, j, none⟩ := by unfold Addr.add; split <;> simp_all
theorem add_plain2 (g i j : Nat) : (⟨g, i, none⟩ : Addr).add j = ⟨g, i + j, none⟩ := by unfold Addr.add; split <;> simp_all
theorem Rd.of_blk {w : World} {g : Nat} {t : TypeId} {cs : Array Value} (h : Blk w g t cs) (o n : Nat) (hn : o + n ≤ cs.size) : Rd w (some ⟨g, o, none⟩) n ((cs.toList.drop o).take n) := by
  refine ⟨by simp; omega, fun _ => ⟨_, rfl, h.lt, fun j u hu => ?_⟩⟩
  rw [add_plain2, h.cell, ← hu]
  have hj : j < n := by
    rcases Nat.lt_or_ge j n with h | h
    · exact h
    · rw [List.getElem?_eq_none (by simp; omega)] at hu; cases hu
  rw [List.getElem?_take_of_lt hj, List.getElem?_drop, Array.getElem?_toList]
theorem Rd.of_blk_all {w : World} {g : Nat} {t : TypeId} {cs : Array Value} (h : Blk w g t cs) : Rd w (some ⟨g, 0, none⟩) cs.size cs.toList := by
  have := Rd.of_blk h 0 cs.size (by omega); rwa [List.drop_zero, List.take_of_length_le (by simp)] at this
theorem Rd.drop {w : World} {g o n : Nat} {xs : List Value} (h : Rd w (some ⟨g, o, none⟩) n xs) (k : Nat) (hk : k ≤ n) : Rd w (some ⟨g, o + k, none⟩) (n - k) (xs.drop k) := by
  refine ⟨by rw [List.length_drop, h.1]; omega, fun hn => ?_⟩
  obtain ⟨ad, e, hb, hc⟩ := h.2 (by omega)
  injection e with e; subst e
  refine ⟨_, rfl, hb, fun j u hu => ?_⟩
  rw [List.getElem?_drop] at hu
  have := hc (k + j) u hu
  rw [add_plain2] at this ⊢
  rwa [Nat.add_assoc]
theorem Rd.take {w : World} {A : Option Addr} {n : Nat} {xs : List Value} (h : Rd w A n xs) (k : Nat) (hk : k ≤ n) : Rd w A k (xs.take k) := by
  refine ⟨by rw [List.length_take, h.len]; omega, fun hn => ?_⟩
  obtain ⟨ad, e, hb, hc⟩ := h.2 (by omega)
  exact ⟨ad, e, hb, fun j u hu => hc j u (by
    rcases Nat.lt_or_ge j k with hjk | hjk
    · rwa [List.getElem?_take_of_lt hjk] at hu
    · rw [List.getElem?_eq_none (by rw [List.length_take]; omega)] at hu; cases hu)⟩
theorem Rd.far {w : World} {A : Option Addr} {n : Nat} {xs : List Value} (h : Rd w A n xs) {p : Addr} (hp : 0 < n → ∀ ad, A = some ad → ad.block ≠ p.block) (u : Value) : Rd (w.setCell p u) A n xs :=
  ⟨h.1, fun hn => by
    obtain ⟨ad, e, hb, hc⟩ := h.2 hn
    refine ⟨ad, e, by simpa [World.setCell] using hb, fun j v hv => ?_⟩
    rw [World.cell?_setCell_other w p (ad.add j) u (fun e' => hp hn ad e (by rw [e', block_of_add]))]
    exact hc j v hv⟩
theorem Rd.zero {w : World} (A : Option Addr) {xs : List Value} (h : xs = []) : Rd w A 0 xs := by subst h; exact Rd.nil
/-- the block of an address, where something is read there, is one of some -/
def Ok (ok : Nat → Prop) (A : Option Addr) (n : Nat) : Prop := 0 < n → ∀ ad, A = some ad → ok ad.block
theorem Ok.mono {ok ok' : Nat → Prop} {A : Option Addr} {n : Nat} (h : Ok ok A n) (k : ∀ b, ok b → ok' b) : Ok ok' A n := fun hn ad e => k _ (h hn ad e)
theorem Ok.all (A : Option Addr) (n : Nat) : Ok (fun _ => True) A n := fun _ _ _ => trivial

def U64 (x : Int) : Prop := 0 ≤ x ∧ x ≤ 18446744073709551615
def U8 (x : Int) : Prop := 0 ≤ x ∧ x ≤ 255
def aWord (a b c d : Int) : Value := .agg #[.int .u64 a, .int .u64 b, .int .u64 c, .int .u64 d]
def u64s (xs : List Int) : Array Value := (xs.map (Value.int .u64)).toArray
def u8s (xs : List Int) : Array Value := (xs.map (Value.int .u8)).toArray
theorem u8s_get (xs : List Int) (i : Nat) : (u8s xs)[i]? = (xs[i]?).map (Value.int .u8) := by simp [u8s]
theorem u8s_set (xs : List Int) (i : Nat) (x : Int) : (u8s xs).setIfInBounds i (.int .u8 x) = u8s (xs.set i x) := by simp [u8s, List.map_set]
theorem u64s_get (xs : List Int) (i : Nat) : (u64s xs)[i]? = (xs[i]?).map (Value.int .u64) := by simp [u64s]
theorem u64s_set (xs : List Int) (i : Nat) (x : Int) : (u64s xs).setIfInBounds i (.int .u64 x) = u64s (xs.set i x) := by simp [u64s, List.map_set]
def b8 (xs : List Int) : List Value := xs.map (Value.int .u8)
theorem Rd.of_u8s {w : World} {g : Nat} {t : TypeId} {xs : List Int} (h : Blk w g t (u8s xs)) (n : Nat) (hn : xs.length = n) : Rd w (some ⟨g, 0, none⟩) n (b8 xs) := by
  have := Rd.of_blk_all h; simpa [u8s, hn, b8] using this
end Go.Proofs.CV
