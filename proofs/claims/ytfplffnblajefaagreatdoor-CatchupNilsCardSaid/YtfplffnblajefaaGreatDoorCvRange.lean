/- Proved here: what a range over a function needs; no condition beyond those that each lemma names. -/
import Derived.Test.YtfplffnblajefaaGreatDoorCvBase
import Derived.RangeFuncNested
import Derived.RangeFuncBound
import Derived.RangeFuncCalls
import Derived.RangeFuncLeaves
import Derived.RangeFuncWrites
import Derived.Shelf.Abstract
import Derived.Shelf.RegionOpen
import Derived.WalkKit
import Derived.OwnWalkIn
import Derived.TacticsInMore
import Derived.LoopNIn
import Derived.LoopIn
import Derived.Deep.RegionHeld3
namespace Go.Proofs.CV
set_option linter.unusedVariables false
set_option linter.unusedSimpArgs false
open Go.RowKit

/-- from w on only the blocks of S have turned, and new ones have come -/
structure Mod (S : Nat → Prop) (w w' : World) : Prop where
  os : w'.os = w.os
  tape : w'.tape = w.tape
  output : w'.output = w.output
  size : w.heap.size ≤ w'.heap.size
  same : ∀ k, k < w.heap.size → ¬ S k → w'.heap[k]? = w.heap[k]?
section
variable {S S' : Nat → Prop} {a w w' w'' : World}
theorem Mod.refl (S : Nat → Prop) (w : World) : Mod S w w := ⟨rfl, rfl, rfl, Nat.le_refl _, fun _ _ _ => rfl⟩
theorem Mod.trans (h : Mod S w w') (k : Mod S w' w'') : Mod S w w'' :=
  ⟨k.os.trans h.os, k.tape.trans h.tape, k.output.trans h.output, Nat.le_trans h.size k.size, fun i hi hS => (k.same i (Nat.lt_of_lt_of_le hi h.size) hS).trans (h.same i hi hS)⟩
theorem Mod.mono (h : Mod S w w') (k : ∀ b, b < w.heap.size → S b → S' b) : Mod S' w w' := ⟨h.os, h.tape, h.output, h.size, fun i hi hS => h.same i hi (fun hs => hS (k i hi hs))⟩
theorem Mod.of_ext (h : Ext w w') (S : Nat → Prop) : Mod S w w' := ⟨Below.os h, Below.tape h, Below.output h, h.size, fun k hk _ => Below.block h k hk⟩
theorem Mod.ext (h : Mod S w w') (k : ∀ b, b < w.heap.size → ¬ S b) : Ext w w' := ⟨h.os, h.tape, h.output, h.size, fun i hi => h.same i hi (k i hi)⟩
theorem Ext.mod (h : Ext a w) (k : Mod S w w') (hS : ∀ b, S b → a.heap.size ≤ b) : Ext a w' :=
  ⟨k.os.trans (Below.os h), k.tape.trans (Below.tape h), k.output.trans (Below.output h), Nat.le_trans h.size k.size, fun i hi => (k.same i (Nat.lt_of_lt_of_le hi h.size) (fun hs => by have := hS i hs; omega)).trans (Below.block h i hi)⟩
theorem Mod.alloc (h : Mod S a w) (o : Obj) : Mod S a (w.alloc o) := h.trans (.of_ext ((Ext.refl w).alloc o) S)
theorem Mod.drew (h : Mod S a w) : Mod S a w.drew := h.trans (.of_ext ((Ext.refl w).drew) S)
theorem Mod.drewN (h : Mod S a w) (n : Nat) : Mod S a (w.drewN n) := h.trans (.of_ext ((Ext.refl w).drewN n) S)
theorem Mod.then (h : Mod S a w) (e : Ext w w') : Mod S a w' := h.trans (.of_ext e S)
theorem Mod.set (h : Mod S a w) {p : Addr} (hp : S p.block ∨ a.heap.size ≤ p.block) (u : Value) : Mod S a (w.setCell p u) :=
  ⟨h.os, h.tape, h.output, by simpa [World.setCell] using h.size, fun i hi hS => (Below.heap_setCell w p u i (by
    rintro rfl
    rcases hp with hp | hp
    · exact hS hp
    · omega)).trans (h.same i hi hS)⟩
theorem Mod.put (h : Mod S a w) {r : Nat} (hp : S r ∨ a.heap.size ≤ r) (o : Obj) : Mod S a (w.putObj r o) :=
  ⟨h.os, h.tape, h.output, by simpa using h.size, fun i hi hS => (World.putObj_heap_other (by
    rintro rfl
    rcases hp with hp | hp
    · exact hS hp
    · omega)).trans (h.same i hi hS)⟩
theorem Mod.grown (h : Mod S a w) {row : Option Nat} (hg : w.grownBy w' row) (hr : ∀ k, row = some k → S k ∨ a.heap.size ≤ k) : Mod S a w' :=
  ⟨hg.os.trans h.os, hg.tape.trans h.tape, hg.output.trans h.output, Nat.le_trans h.size hg.size, fun i hi hS => (hg.block i (Nat.lt_of_lt_of_le hi h.size) (fun e => by
    rcases hr i e.symm with hp | hp
    · exact hS hp
    · omega)).trans (h.same i hi hS)⟩
theorem Mod.heap (h : Mod S w w') {k : Nat} {o : Obj} (hk : w.heap[k]? = some o) (hS : ¬ S k) : w'.heap[k]? = some o := (h.same k (Array.getElem?_eq_some_iff.1 hk).1 hS).trans hk
theorem Mod.cell (h : Mod S w w') {b : Nat} (hb : b < w.heap.size) (hS : ¬ S b) (o : Nat) : w'.cell? ⟨b, o, none⟩ = w.cell? ⟨b, o, none⟩ := World.cell?_of_block (w := w) (h.same b hb hS)
theorem Mod.frozen (h : Mod S w w') {b : Nat} (hb : b < w.heap.size) (hS : ¬ S b) (o : Nat) : w'.frozen? ⟨b, o, none⟩ = w.frozen? ⟨b, o, none⟩ := World.frozen?_of_block (w := w) (h.same b hb hS)
theorem Blk.mod {g : Nat} {t : TypeId} {cs : Array Value} (h : Blk w g t cs) (m : Mod S w w') (hS : ¬ S g) : Blk w' g t cs := m.heap h hS
theorem Rd.mod {A : Option Addr} {n : Nat} {xs : List Value} (h : Rd w A n xs) (m : Mod S w w') (hS : Ok (fun b => ¬ S b) A n) : Rd w' A n xs :=
  ⟨h.1, fun hn => by
    obtain ⟨ad, e, hb, hc⟩ := h.2 hn
    exact ⟨ad, e, Nat.lt_of_lt_of_le hb m.size, fun j v hv => (World.cell?_of_block (w := w) (by rw [block_of_add]; exact m.same _ hb (hS hn ad e))).trans (hc j v hv)⟩⟩
theorem Blk.put {g : Nat} {t : TypeId} {cs : Array Value} (h : Blk w g t cs) {r : Nat} (hr : g ≠ r) (o : Obj) : Blk (w.putObj r o) g t cs := (World.putObj_heap_other hr).trans h
end

def lrec (fn : FuncId) (tm : Array Value) (ps : Array Tmp) (assign body : Code) (D : Nat) (st : LoopState) (pe : Option Code) : Loop := { state := st, pending := pe, fn, tmps := tm, params := ps, assign, body, defers := D }

variable {F : Fence} {n : Nat} {P : Program}
/-- 'for .. := range g', outermost: the call of g's function at yield, whatever it does with it. -/
theorem rf_direct {g : Operand} {ps : Array Tmp} {assign body : Code} {Q : Exit → Act → World → Prop} {a : Act} {w : World}
    (hro : F.round = none) (h1 : 1 ≤ n) {gf : Nat} {lb : Array Value} (hg : a.eval g = .func (.func gf) #[] lb) (hFg : F.fn gf) (eg : ∀ args w, (callFunc gf args).run P w = .ok (.enter gf args) w)
    (h : ∀ fn, F.fn fn → CallsIn F (n - 1) P gf (#[.func (.yield (w.heap.size + 1)) #[] #[]] ++ lb) ((w.alloc (.deferred (some []))).alloc (.loop (lrec fn a.tmps ps assign body w.heap.size .ready none))) fun e W2 =>
      match e with
      | .returned _ => ∃ st pe, W2.heap[w.heap.size + 1]? = some (.loop (lrec fn a.tmps ps assign body w.heap.size st pe)) ∧ st ≠ .busy ∧
          (match pe with
           | none => Q .normal { a with defers := { target := .collected w.heap.size, args := #[] } :: a.defers } (W2.putObj (w.heap.size + 1) (.loop (lrec fn a.tmps ps assign body w.heap.size .exhausted none)))
           | some c => c.wpIn F n P Q { a with defers := { target := .collected w.heap.size, args := #[] } :: a.defers } (W2.putObj (w.heap.size + 1) (.loop (lrec fn a.tmps ps assign body w.heap.size .exhausted (some c)))))
      | .panicked ch => Q (.panic ch) { a with defers := { target := .collected w.heap.size, args := #[] } :: a.defers } W2
      | .outgrown => LetsOut Q) :
    (Code.rangeFunc g ps assign body).wpIn F n P Q a w := by
  refine wpIn_rangeFunc ?_
  intro fn hfn
  rw [hro]
  obtain ⟨W1, hW1⟩ : ∃ W1, (w.alloc (.deferred (some []))).alloc (.loop (lrec fn a.tmps ps assign body w.heap.size .ready none)) = W1 := ⟨_, rfl⟩
  have h := h fn hfn
  rw [hW1] at h
  refine ⟨w.heap.size + 1, [{ target := .collected w.heap.size, args := #[] }], W1, { target := .fn (.func gf) lb, args := #[.func (.yield (w.heap.size + 1)) #[] #[]] }, W1, gf,
    #[.func (.yield (w.heap.size + 1)) #[] #[]] ++ lb, W1, hW1 ▸ run_enterLoop_outer _ _ _ _ _, ?_, ?_, ?_, fun _ => h1, ?_⟩
  · simp only [resolve, hg]
    simp [go_sem]
  · intro f' hf'; simp [Target.leads] at hf'; subst hf'; exact hFg
  · simp [invoke, go_sem, eg]
  · refine h.mono ?_
    intro e W2 h2
    cases e with
    | returned v =>
      obtain ⟨st, pe, hl, hb, hq⟩ := h2
      refine ⟨pe, _, run_endLoop (P := P) hl hb, ?_⟩
      cases pe with
      | none => exact hq
      | some c => exact hq
    | panicked ch => exact h2
    | outgrown => exact h2

theorem with_world {f : FuncId} {args : Array Value} {R : Ending → World → Prop} {W0 : World} {L : Loop}
    (h : ∀ W1, W1.heap[W0.heap.size + 1]? = some (.loop L) → W1.heap[W0.heap.size]? = some (.deferred (some [])) → Ext W0 W1 → W1.heap.size = W0.heap.size + 2 → CallsIn F n P f args W1 R) : CallsIn F n P f args ((W0.alloc (.deferred (some []))).alloc (.loop L)) R := by
  refine h _ ?_ ?_ (((Ext.refl W0).alloc _).alloc _) (by simp)
  · have := World.alloc_heap_new (W0.alloc (.deferred (some []))) (.loop L); rwa [World.size_alloc] at this
  · exact (Below.heap_alloc _ _ _ (by simp)).trans (World.alloc_heap_new W0 _)
theorem yield_direct {l : Nat} {fn : FuncId} {tm : Array Value} {ps : Array Tmp} {assign body : Code} {D : Nat} {args : Array Value} {W : World} {m : Nat} {R : Ending → World → Prop} (hfn : F.fn fn)
    (hl : W.heap[l]? = some (.loop (lrec fn tm ps assign body D .ready none))) (hs : args.size = ps.size)
    (h : assign.wpIn (F.inRound l) m P (Exit.then (fun a₁ w₁ => w₁.heap[l]? = some (.loop (lrec fn tm ps assign body D .ready none)) ∧ body.wpIn (F.inRound l) m P (roundPost P l R) a₁ (w₁.putObj l (.loop (lrec fn tm ps assign body D .busy none)))) (fun _ _ _ => False))
      { tmps := (ps.zip args).foldl (fun t (p, v) => t.setIfInBounds p v) tm, defers := [] } W) : YieldAt F m P l args W R := by
  refine ⟨fn, _, assign, body, run_yield hl hs, roundIn_of_wpIn hfn (wpIn_mono h ?_)⟩
  intro e a₁ w₁ hq
  cases e with
  | normal => exact ⟨_, run_beginRound hq.1 rfl, hq.2⟩
  | exit id => exact hq
  | goto t => exact hq
  | ret => exact hq
  | panic ch => exact hq
  | outgrown => exact hq
theorem round_normal {l : Nat} {fn : FuncId} {tm : Array Value} {ps : Array Tmp} {assign body : Code} {D : Nat} {W : World} {a : Act} {R : Ending → World → Prop}
    (hl : W.heap[l]? = some (.loop (lrec fn tm ps assign body D .busy none))) (h : R (.returned (.bool true)) (W.putObj l (.loop (lrec fn tm ps assign body D .ready none)))) : roundPost P l R .normal a W :=
  ⟨_, _, run_endRound none hl, h⟩
theorem with_put {c : Code} {Q : Exit → Act → World → Prop} {a : Act} {V : World} {l : Nat} {L : Loop} (hl : l < V.heap.size)
    (h : ∀ W5, Mod (fun b => b = l) V W5 → W5.heap[l]? = some (.loop L) → W5.heap.size = V.heap.size → c.wpIn F n P Q a W5) : c.wpIn F n P Q a (V.putObj l (.loop L)) := by
  refine h _ (Mod.put (S := fun b => b = l) (Mod.refl _ V) (.inl (Eq.refl l)) _) ?_ (by simp)
  exact World.putObj_heap_same hl
def tameB : Op → Bool
  | .move _ | .assign _ | .pick .. | .alloc _ | .box .. | .build .. | .buildSlice .. | .load .. | .store .. | .fieldAddr .. | .field .. | .indexAddr .. | .index .. | .extract .. | .slice .. | .convert .. | .unOp .. | .binOp .. => true
  | .call c => match c.callee with
    | .builtin .append | .builtin .len | .builtin .copy => true
    | _ => false
  | _ => false
def plainR : Result Next → Bool
  | .ok (.value _) _ | .ok .skip _ | .halt _ _ => true
  | _ => false
theorem plainR_v {P : Program} {w : World} (s : Sem Value) : plainR ((do pure (Next.value (← s)) : Sem Next).run P w) = true := by
  rw [Sem.run_bind]
  cases s.run P w <;> simp [Result.andThen, plainR, Sem.run_pure]
theorem plainR_u {P : Program} {w : World} (s : Sem Unit) : plainR ((do s; pure Next.skip : Sem Next).run P w) = true := by
  rw [Sem.run_bind]
  cases s.run P w <;> simp [Result.andThen, plainR, Sem.run_pure]
theorem tame_shape {o : Oper} (h : tameB o.op = true) (ρ : Operand → Value) (P : Program) (w : World) : plainR ((execOp ρ o).run P w) = true ∧ (∀ c, o.op ≠ .defer c) ∧ o.about P w ρ = none := by
  rcases o with ⟨dst, op, type, guard, after⟩
  cases op with
  | call c =>
    rcases c with ⟨callee, args, argTypes⟩
    cases callee with
    | builtin b =>
      cases b <;> first
        | (simp [tameB] at h; done)
        | (refine ⟨?_, by simp, by simp [Oper.about, resolve, Target.leads, Sem.run_pure]⟩
           simp only [execOp, resolve, invoke, builtin, pure_bind]
           exact plainR_v _)
    | _ => simp [tameB] at h
  | pick c a b =>
    refine ⟨?_, by simp, rfl⟩
    simp only [execOp]
    rw [Sem.run_bind]
    cases (asBool (ρ c)).run P w <;> simp [Result.andThen, plainR, Sem.run_pure]
  | move x => exact ⟨by simp [execOp, plainR, Sem.run_pure], by simp, rfl⟩
  | assign x => exact ⟨by simp [execOp, plainR, Sem.run_pure], by simp, rfl⟩
  | store t a x => exact ⟨plainR_u _, by simp, rfl⟩
  | _ => first
    | (simp [tameB] at h; done)
    | exact ⟨plainR_v _, by simp, rfl⟩
theorem wpOpIn_of_plain {ops : Array Oper} (ht : ops.all (fun o => tameB o.op) = true) {Q : Exit → Act → World → Prop} (hQ : ¬ LetsOut Q) {K K' : Act → World → Prop} (hK : ∀ a w, K a w → K' a w) {i : Nat} {a : Act} {w : World}
    (h : wpOp P ops Q i K a w) : wpOpIn F n P ops Q i K' a w := by
  unfold wpOp at h
  unfold wpOpIn
  split
  · rename_i hi; simp only [hi] at h; exact hK _ _ h
  · rename_i o hi
    simp only [hi] at h
    have hmem : o ∈ ops := Array.mem_of_getElem? hi
    have hto : tameB o.op = true := by rw [Array.all_eq_true'] at ht; exact ht o hmem
    obtain ⟨h1, h2, h3⟩ := tame_shape hto a.eval P w
    have hab : ∀ f, o.about P w a.eval = some f → F.fn f := fun f hf => by rw [h3] at hf; cases hf
    split
    · rename_i hw
      simp only [hw, if_true] at h
      rcases h with h | h
      · refine ⟨hab, ?_⟩
        rw [Oper.semAt_plain F _ _ h2]
        unfold Oper.wp at h
        generalize (execOp a.eval o).run P w = r at *
        cases r with
        | ok x w' => cases x <;> first | (simp [plainR] at h1; done) | exact hK _ _ h
        | halt x w' => cases x <;> first | exact h | exact h.elim
      · exact absurd h.2 hQ
    · rename_i hw
      simp only [hw] at h
      exact ⟨hab, hK _ _ h⟩
theorem wpAnyIn_of_plain {ops : Array Oper} {md : Region.Mode} (ht : ops.all (fun o => tameB o.op) = true) {Q : Exit → Act → World → Prop} (hQ : ¬ LetsOut Q) : ∀ (fuel : Nat) (listed : Array Bool) (a : Act) (w : World),
    wpAny P md ops Q fuel listed a w → wpAnyIn F n P md ops Q fuel listed a w := by
  intro fuel
  induction fuel with
  | zero => exact fun _ _ _ h => h
  | succ fuel ih =>
    intro listed a w h
    exact ⟨h.1, fun i hi => wpOpIn_of_plain ht hQ (fun a w h => ih _ a w h) (h.2 i hi)⟩
theorem region_plain {id : Nat} {ops : Array Oper} (hm : P.follows .mixedOrders = true) (ht : ops.all (fun o => tameB o.op) = true) {Q : Exit → Act → World → Prop} {a : Act} {w : World}
    (h : wpAny P .any ops (fun e a w => e = .normal ∧ Q .normal a w) ops.size (Array.replicate ops.size false) a w.drew) : (Code.region id ops true).wpIn F n P Q a w := by
  refine wpIn_mono (wpIn_region_any (Q := fun e a w => e = .normal ∧ Q .normal a w) hm (wpAnyIn_of_plain ht (by rintro ⟨a, w, h, _⟩; cases h) _ _ _ _ h)) ?_
  rintro e a w ⟨rfl, h⟩
  exact h
theorem take_dst {ops : Array Oper} {Q : Exit → Act → World → Prop} {md : Region.Mode} {S : World → Prop} (i : Nat) (dst : Option Tmp) {oi : Oper} {v : Value} {fuel : Nat} {listed : Array Bool} {a : Act} {w : World} (hi : ops[i]? = some oi) (hd : oi.dst = dst)
    (hs : Region.noSelect ops = true) (hf : Region.free md ops listed i = true) (hr : (Region.ready md ops listed).contains i = true)
    (hQ : ∀ c a w, Q (.panic c) (a.put dst v) w → Q (.panic c) a w) (hwt : Region.wanted oi (yielded ops a.tmps) = true) (hS : S w) (hy : ∀ w, S w → (execOp a.eval oi).run P w = .ok (.value v) w)
    (h : wpAnyH P md ops Q S fuel (listed.setIfInBounds i true) (a.put dst v) w) : wpAnyH P md ops Q S (fuel + 1) listed a w := by
  subst hd
  exact wpAnyH_take hi hs hf hr hQ (Or.inl ⟨hwt, hy⟩) hS h
theorem put_any {Q : World → Prop} {V : World} {l : Nat} {o : Obj} (hl : l < V.heap.size) (h : ∀ W5, Mod (fun b => b = l) V W5 → W5.heap.size = V.heap.size → Q W5) : Q (V.putObj l o) :=
  h _ (Mod.put (S := fun b => b = l) (Mod.refl _ V) (.inl (Eq.refl l)) _) (by simp)
end Go.Proofs.CV
