/-
  A range over a function whose iterator keeps state of its own in cells: the law of the caller. Over whatever program.
  The iterator of lexis.Tokens: the closure that visits the tokens.
  The iterator of lexis.Tokens, the plain laws. It visits the items of the source, whatever the loop's body does that keeps the scanner.
-/
import Derived.Test.YtlbaojjnilnhlaaDoorPure
import Derived.RangeFuncNested
import Derived.RangeFuncLeaves
import Derived.RangeFuncRecord
import Derived.Below
import Derived.Deep.Draws
import Derived.RangeFuncWrites
import Derived.OwnWalkIn
import Derived.TacticsInMore
import Derived.RegionIn
import Derived.LoopNIn
import Derived.LoopIn
import Derived.Sort.QuietIn
import Derived.Sort.LoopGhostIn
import Derived.Outline
import Derived.RangeFuncSeq
import Derived.Stop.RegionWithIn
namespace Go.Proofs.YtlbaojjnilnhlaaDoor.RangeX
open Go Go.RowKit
set_option linter.unusedVariables false

/-- All blocks lie as they lay but those that are named; the heap has only grown. -/
structure Stays (own : Nat → Prop) (A B : World) : Prop where
  os : B.os = A.os
  tape : B.tape = A.tape
  output : B.output = A.output
  size : A.heap.size ≤ B.heap.size
  block : ∀ k o, A.heap[k]? = some o → ¬ own k → B.heap[k]? = some o

/-- The same of the blocks that are cells, and of those that lie below a base. -/
structure CellsStay (base : Nat) (own : Nat → Prop) (A B : World) : Prop where
  os : B.os = A.os
  tape : B.tape = A.tape
  output : B.output = A.output
  size : A.heap.size ≤ B.heap.size
  block : ∀ k o, A.heap[k]? = some o → (o.isCells = true ∨ k < base) → ¬ own k → B.heap[k]? = some o

theorem Stays.refl (own : Nat → Prop) (A : World) : Stays own A A := ⟨rfl, rfl, rfl, Nat.le_refl _, fun _ _ h _ => h⟩
theorem Stays.trans {own : Nat → Prop} {A B C : World} (h : Stays own A B) (k : Stays own B C) : Stays own A C :=
  ⟨k.os.trans h.os, k.tape.trans h.tape, k.output.trans h.output, Nat.le_trans h.size k.size, fun i o hi hn => k.block i o (h.block i o hi hn) hn⟩
theorem Stays.cells {base : Nat} {own : Nat → Prop} {A B : World} (h : Stays own A B) : CellsStay base own A B := ⟨h.os, h.tape, h.output, h.size, fun k o hk _ hn => h.block k _ hk hn⟩
theorem CellsStay.refl (base : Nat) (own : Nat → Prop) (A : World) : CellsStay base own A A := ⟨rfl, rfl, rfl, Nat.le_refl _, fun _ _ h _ _ => h⟩
theorem CellsStay.trans {base : Nat} {own : Nat → Prop} {A B C : World} (h : CellsStay base own A B) (k : CellsStay base own B C) : CellsStay base own A C :=
  ⟨k.os.trans h.os, k.tape.trans h.tape, k.output.trans h.output, Nat.le_trans h.size k.size, fun i o hi ho hn => k.block i o (h.block i o hi ho hn) ho hn⟩
theorem lt_of_some {A : World} {k : Nat} {o : Obj} (h : A.heap[k]? = some o) : k < A.heap.size := (Array.getElem?_eq_some_iff.1 h).1
theorem Stays.of_below {own : Nat → Prop} {A B : World} (h : Below A.heap.size A B) : Stays own A B :=
  ⟨h.os, h.tape, h.output, h.size, fun k o hk _ => (h.block k (lt_of_some hk)).trans hk⟩
theorem Stays.of_drewN (own : Nat → Prop) (A : World) (n : Nat) : Stays own A (A.drewN n) := ⟨rfl, rfl, rfl, Nat.le_refl _, fun _ _ h _ => h⟩
theorem Stays.alloc (own : Nat → Prop) (A : World) (o : Obj) : Stays own A (A.alloc o) := .of_below ((Below.refl _ A).alloc (Nat.le_refl _) _)
theorem Stays.setCell {own : Nat → Prop} (A : World) (p : Addr) (v : Value) (hp : own p.block) : Stays own A (A.setCell p v) := by
  refine ⟨rfl, rfl, rfl, by simp [World.setCell], fun k o hk hn => ?_⟩
  have hne : p.block ≠ k := fun e => hn (e ▸ hp)
  rw [← hk]
  simp only [World.setCell]
  rw [Array.getElem?_modify, if_neg hne]
theorem Stays.mono {own own' : Nat → Prop} {A B : World} (h : Stays own A B) (hm : ∀ k, own k → own' k) : Stays own' A B :=
  ⟨h.os, h.tape, h.output, h.size, fun k o hk hn => h.block k o hk (fun e => hn (hm k e))⟩
theorem CellsStay.putObj {base : Nat} {own : Nat → Prop} {A : World} {l : Nat} {o o' : Obj} (hb : base ≤ l) (h : A.heap[l]? = some o) (ho : o.isCells = false) : CellsStay base own A (A.putObj l o') :=
  ⟨rfl, rfl, rfl, by simp, fun k o1 hk hc _ => by
    have hne : k ≠ l := fun e' => by
      subst e'
      rw [h] at hk
      cases hk
      rcases hc with hc | hc
      · rw [ho] at hc; cases hc
      · omega
    exact (World.putObj_heap_other hne).trans hk⟩
/-- What lay below a base lies, if the base lies below the loop. -/
theorem CellsStay.below {base n : Nat} {own : Nat → Prop} {w A B : World} (h : CellsStay base own A B) (hA : Below n w A) (hn : n ≤ base) (hw : n ≤ w.heap.size) (ho : ∀ k, own k → n ≤ k) : Below n w B := by
  refine ⟨h.os.trans hA.os, h.tape.trans hA.tape, h.output.trans hA.output, Nat.le_trans hA.size h.size, fun k hk => ?_⟩
  have h1 := hA.block k hk
  have h2 : A.heap[k]? = some (A.heap[k]'(by have := hA.size; omega)) := Array.getElem?_eq_getElem _
  rw [h.block k _ h2 (.inr (by omega)) (fun e => by have := ho k e; omega), ← h2]
  exact h1

/-- What a round keeps: the iterator's own blocks, and whatever is no cells. -/
structure RoundKeeps (own : Nat → Prop) (A B : World) : Prop where
  size : A.heap.size ≤ B.heap.size
  same : ∀ (k : Nat) (o : Obj), A.heap[k]? = some o → o.isCells = false → B.heap[k]? = some o
  mine : ∀ k, own k → B.heap[k]? = A.heap[k]?

theorem RoundKeeps.refl (own : Nat → Prop) (A : World) : RoundKeeps own A A := ⟨Nat.le_refl _, fun _ _ h _ => h, fun _ _ => rfl⟩
theorem RoundKeeps.trans {own : Nat → Prop} {A B C : World} (h : RoundKeeps own A B) (k : RoundKeeps own B C) : RoundKeeps own A C :=
  ⟨Nat.le_trans h.size k.size, fun i o hi ho => k.same i o (h.same i o hi ho) ho, fun i hi => (k.mine i hi).trans (h.mine i hi)⟩
theorem RoundKeeps.alloc {own : Nat → Prop} (A : World) (o : Obj) (hown : ∀ k, own k → k < A.heap.size) : RoundKeeps own A (A.alloc o) :=
  ⟨by simp, fun k o' hk _ => (Below.heap_alloc A o k (lt_of_some hk)).trans hk, fun k hk => Below.heap_alloc A o k (hown k hk)⟩
theorem RoundKeeps.setCell {own : Nat → Prop} (A : World) (p : Addr) (v : Value) (hp : ¬ own p.block) : RoundKeeps own A (A.setCell p v) := by
  have h1 : ∀ k, p.block ≠ k → (A.setCell p v).heap[k]? = A.heap[k]? := fun k hne => by
    simp only [World.setCell]; rw [Array.getElem?_modify, if_neg hne]
  refine ⟨by simp [World.setCell], fun k o hk ho => ?_, fun k hk => h1 k (fun e => hp (e ▸ hk))⟩
  by_cases hne : p.block = k
  · subst hne
    simp only [World.setCell]
    rw [Array.getElem?_modify, if_pos rfl, hk]
    cases o <;> simp_all [Obj.isCells]
  · exact (h1 k hne).trans hk
theorem RoundKeeps.drewN {own : Nat → Prop} (A : World) (n : Nat) : RoundKeeps own A (A.drewN n) := ⟨Nat.le_refl _, fun _ _ h _ => h, fun _ _ => rfl⟩
theorem RoundKeeps.of_below {own : Nat → Prop} {A B : World} (h : Below A.heap.size A B) (hown : ∀ k, own k → k < A.heap.size) : RoundKeeps own A B :=
  ⟨h.size, fun k o hk _ => (h.block k (lt_of_some hk)).trans hk, fun k hk => h.block k (hown k hk)⟩
/-- A step that turns one block of cells, that is none of the iterator's. -/
theorem RoundKeeps.of_grownBy {own : Nat → Prop} {A B : World} {row : Option Nat} (hg : A.grownBy B row) (hown : ∀ k, own k → k < A.heap.size) (hrow : ∀ j, row = some j → ¬ own j ∧ ∀ o : Obj, A.heap[j]? = some o → o.isCells = true) : RoundKeeps own A B :=
  ⟨hg.size, fun k o hk ho => (hg.block k (lt_of_some hk) (fun e => by have := (hrow k e.symm).2 o hk; rw [this] at ho; cases ho)).trans hk,
    fun k hk => hg.block k (hown k hk) (fun e => (hrow k e.symm).1 hk)⟩

/-- How the body of a round may be left. -/
def postX {α : Type} (own : Nat → Prop) (I : List α → World → Prop) (Ix : Code → List α → World → Prop) (xs : List α) (W : World) : Exit → Act → World → Prop
  | .normal, _, W' => RoundKeeps own W W' ∧ I xs W'
  | .ret, _, W' => RoundKeeps own W W' ∧ Ix .ret xs W'
  | .exit id, _, W' => RoundKeeps own W W' ∧ Ix (.exit id) xs W'
  | .goto t, _, W' => RoundKeeps own W W' ∧ Ix (.goto t) xs W'
  | .panic _, _, _ => False
  | .outgrown, _, _ => False

variable {F : Fence} {n : Nat} {P : Program}

theorem wpIn_rangeFunc_X {α : Type} {g : Operand} {ps : Array Tmp} {assign body : Code} {Q : Exit → Act → World → Prop} {a : Act} {w : World}
    (hro : F.round = none) (h1 : 1 ≤ n) {gf : Nat} {lb : Array Value} (hg : a.eval g = .func (.func gf) #[] lb) (hFg : F.fn gf) (eg : ∀ args w, (callFunc gf args).run P w = .ok (.enter gf args) w)
    {encs : α → Array Value} (own : Nat → Prop) (hown : ∀ k, own k → k < w.heap.size) {S Sp : List α → Prop} {N : Nat} (hps : ∀ x, (encs x).size = ps.size)
    (I : List α → World → Prop) (Ix : Code → List α → World → Prop) (hI : ∀ pre A B, I pre A → CellsStay w.heap.size own A B → I pre B) (hIx : ∀ c pre A B, Ix c pre A → CellsStay w.heap.size own A B → Ix c pre B) (h0 : I [] w)
    (hseq : ∀ (l : Nat) (J Jx : List α → World → Prop) (W : World), Stays (fun _ => False) w W → (∀ pre A B, J pre A → Stays own A B → J pre B) → (∀ pre A B, Jx pre A → Stays own A B → Jx pre B) → (∀ pre A, J pre A → I pre A) →
      (∀ pre x W1, J pre W1 → pre.length < N → YieldAt F (n - 1 - 1) P l (encs x) W1 fun e W' =>
        (e = .returned (.bool true) ∧ J (pre ++ [x]) W' ∧ RoundKeeps own W1 W') ∨ (e = .returned (.bool false) ∧ Jx (pre ++ [x]) W')) →
      J [] W → CallsIn F (n - 1) P gf (#[.func (.yield l) #[] #[]] ++ lb) W fun e W' => (∃ v, e = .returned v) ∧ ((∃ xs, S xs ∧ J xs W') ∨ (∃ pre, Sp pre ∧ Jx pre W')))
    (hround : ∀ (l : Nat) (pre : List α) (x : α) (W : World), w.heap.size ≤ l → I pre W → pre.length < N →
      ∀ K : Act → World → Prop, (∀ a₁ w₁, RoundKeeps own W w₁ → (∀ w₂, CellsStay w.heap.size (fun _ => False) w₁ w₂ → w₂.heap.size = w₁.heap.size →
          body.wpIn (F.inRound l) (n - 1 - 1) P (postX own I Ix (pre ++ [x]) w₂) a₁ w₂) → K a₁ w₁) →
      assign.wpIn (F.inRound l) (n - 1 - 1) P (Exit.then K (fun _ _ _ => False))
        { tmps := (ps.zip (encs x)).foldl (fun t (p, v) => t.setIfInBounds p v) a.tmps, defers := [] } W)
    (hdone : ∀ (D : Nat) (xs : List α) (W : World), w.heap.size ≤ D → S xs → I xs W → W.heap[D]? = some (.deferred (some [])) → Q .normal { a with defers := { target := .collected D, args := #[] } :: a.defers } W)
    (hstop : ∀ (D : Nat) (c : Code) (pre : List α) (W : World), w.heap.size ≤ D → Sp pre → Ix c pre W → W.heap[D]? = some (.deferred (some [])) → c.wpIn F n P Q { a with defers := { target := .collected D, args := #[] } :: a.defers } W) :
    (Code.rangeFunc g ps assign body).wpIn F n P Q a w := by
  refine wpIn_rangeFunc ?_
  intro fn hfn
  rw [hro]
  obtain ⟨rec, hrec⟩ : ∃ rec : LoopState → Option Code → Loop, rec = fun st pe => { state := st, pending := pe, fn, tmps := a.tmps, params := ps, assign, body, defers := w.heap.size } := ⟨_, rfl⟩
  obtain ⟨W1, hW1⟩ : ∃ W1, (w.alloc (.deferred (some []))).alloc (.loop (rec .ready none)) = W1 := ⟨_, rfl⟩
  have hL1 : W1.heap[w.heap.size + 1]? = some (.loop (rec .ready none)) := by
    rw [← hW1]; have := World.alloc_heap_new (w.alloc (.deferred (some []))) (.loop (rec .ready none)); rwa [World.size_alloc] at this
  have hK1 : W1.heap[w.heap.size]? = some (.deferred (some [])) := by
    rw [← hW1]; exact (Below.heap_alloc _ _ _ (by simp)).trans (World.alloc_heap_new w _)
  have hS1 : Stays (fun _ => False) w W1 := by
    rw [← hW1]; exact (Stays.alloc _ w _).trans (Stays.alloc _ _ _)
  have hI1 : I [] W1 := hI _ _ _ h0 (hS1.mono (fun _ h => h.elim)).cells
  have hnl : ¬ own (w.heap.size + 1) := fun h => by have := hown _ h; omega
  have hnd : ¬ own w.heap.size := fun h => by have := hown _ h; omega
  refine ⟨w.heap.size + 1, [{ target := .collected w.heap.size, args := #[] }], W1, { target := .fn (.func gf) lb, args := #[.func (.yield (w.heap.size + 1)) #[] #[]] }, W1, gf,
    #[.func (.yield (w.heap.size + 1)) #[] #[]] ++ lb, W1, ?_, ?_, ?_, ?_, fun _ => h1, ?_⟩
  · rw [← hW1, hrec]; exact run_enterLoop_outer _ _ _ _ _
  · simp only [resolve, hg]
    simp [go_sem]
  · intro f' hf'; simp [Target.leads] at hf'; subst hf'; exact hFg
  · simp [invoke, go_sem, eg]
  · refine (hseq (w.heap.size + 1)
      (fun pre W => I pre W ∧ W.heap[w.heap.size + 1]? = some (.loop (rec .ready none)) ∧ W.heap[w.heap.size]? = some (.deferred (some [])))
      (fun pre W => ∃ c, Ix c pre W ∧ W.heap[w.heap.size + 1]? = some (.loop (rec .done (some c))) ∧ W.heap[w.heap.size]? = some (.deferred (some [])))
      W1 hS1
      (fun pre A B hj hs => ⟨hI _ _ _ hj.1 hs.cells, hs.block _ _ hj.2.1 hnl, hs.block _ _ hj.2.2 hnd⟩)
      (fun pre A B hj hs => by
        obtain ⟨c, hc, hl, hk⟩ := hj
        exact ⟨c, hIx _ _ _ _ hc hs.cells, hs.block _ _ hl hnl, hs.block _ _ hk hnd⟩)
      (fun pre A hj => hj.1)
      ?_ ⟨hI1, hL1, hK1⟩).mono ?_
    · -- one round
      rintro pre x W ⟨hi, hl, hk⟩ hlen
      have hlt : w.heap.size + 1 < W.heap.size := lt_of_some hl
      have hy := run_yield (P := P) (args := encs x) hl (by rw [hrec]; exact hps x)
      rw [hrec] at hy
      refine ⟨fn, _, assign, body, hy, roundIn_of_wpIn hfn (wpIn_mono (hround _ pre x W (by omega) hi hlen _ (fun _ _ h1 h2 => (⟨h1, h2⟩ : RoundKeeps own W _ ∧ ∀ w₂, _ → _ → _))) ?_)⟩
      rintro e a₁ w₁ hp
      cases e with
      | normal =>
        obtain ⟨hka, hb⟩ := hp
        have hl1 := hka.same _ _ hl rfl
        have hk1 := hka.same _ _ hk rfl
        have hlt1 : w.heap.size + 1 < w₁.heap.size := lt_of_some hl1
        refine ⟨_, run_beginRound hl1 (by rw [hrec]), ?_⟩
        have hl2 : (w₁.putObj (w.heap.size + 1) (.loop { rec .ready none with state := .busy })).heap[w.heap.size + 1]? = some (.loop { rec .ready none with state := .busy }) := World.putObj_heap_same hlt1
        have hk2 : (w₁.putObj (w.heap.size + 1) (.loop { rec .ready none with state := .busy })).heap[w.heap.size]? = some (.deferred (some [])) := (World.putObj_heap_other (by omega)).trans hk1
        refine wpIn_mono (hb _ (CellsStay.putObj (Nat.le_succ _) hl1 rfl) (by simp)) ?_
        have mine : ∀ (A : World) (o : Obj) (k : Nat), own k → (A.putObj (w.heap.size + 1) o).heap[k]? = A.heap[k]? := fun A o k hk => World.putObj_heap_other (fun e => hnl (e ▸ hk))
        have fin : ∀ (jump : Option Code) (W3 : World), RoundKeeps own (w₁.putObj (w.heap.size + 1) (.loop { rec .ready none with state := .busy })) W3 →
            (Instr.endRound (w.heap.size + 1) jump).run P W3 = .ok (.bool jump.isNone) (W3.putObj (w.heap.size + 1) (.loop (rec (if jump.isNone then .ready else .done) jump))) ∧
            W3.heap[w.heap.size + 1]? = some (.loop { rec .ready none with state := .busy }) ∧
            (W3.putObj (w.heap.size + 1) (.loop (rec (if jump.isNone then .ready else .done) jump))).heap[w.heap.size + 1]? = some (.loop (rec (if jump.isNone then .ready else .done) jump)) ∧
            (W3.putObj (w.heap.size + 1) (.loop (rec (if jump.isNone then .ready else .done) jump))).heap[w.heap.size]? = some (.deferred (some [])) := fun jump W3 hk3 => by
          have hl3 := hk3.same _ _ hl2 rfl
          have := run_endRound (P := P) jump hl3
          rw [hrec] at this ⊢
          exact ⟨this, by rw [hrec] at hl3; exact hl3, World.putObj_heap_same (lt_of_some hl3), (World.putObj_heap_other (by omega)).trans (hk3.same _ _ hk2 rfl)⟩
        rintro e a3 W3 hp
        cases e with
        | normal =>
          obtain ⟨hk3, hi3⟩ := hp
          obtain ⟨hr, hl3, hl4, hk4⟩ := fin none W3 hk3
          refine ⟨_, _, hr, .inl ⟨rfl, ⟨hI _ _ _ hi3 (CellsStay.putObj (Nat.le_succ _) hl3 rfl), hl4, hk4⟩, ?_, ?_, ?_⟩⟩
          · have h1 := hka.size
            have h2 := hk3.size
            simp at h2 ⊢
            omega
          · intro k o hko hoc
            by_cases hkl : k = w.heap.size + 1
            · subst hkl
              rw [hl] at hko
              cases hko
              exact hl4
            · exact (World.putObj_heap_other hkl).trans (hk3.same _ _ ((World.putObj_heap_other hkl).trans (hka.same _ _ hko hoc)) hoc)
          · intro k hk
            exact (mine _ _ k hk).trans ((hk3.mine k hk).trans ((mine _ _ k hk).trans (hka.mine k hk)))
        | ret =>
          obtain ⟨hk3, hi3⟩ := hp
          obtain ⟨hr, hl3, hl4, hk4⟩ := fin (some .ret) W3 hk3
          exact ⟨_, _, hr, .inr ⟨rfl, .ret, hIx _ _ _ _ hi3 (CellsStay.putObj (Nat.le_succ _) hl3 rfl), hl4, hk4⟩⟩
        | exit id =>
          obtain ⟨hk3, hi3⟩ := hp
          obtain ⟨hr, hl3, hl4, hk4⟩ := fin (some (.exit id)) W3 hk3
          exact ⟨_, _, hr, .inr ⟨rfl, .exit id, hIx _ _ _ _ hi3 (CellsStay.putObj (Nat.le_succ _) hl3 rfl), hl4, hk4⟩⟩
        | goto t =>
          obtain ⟨hk3, hi3⟩ := hp
          obtain ⟨hr, hl3, hl4, hk4⟩ := fin (some (.goto t)) W3 hk3
          exact ⟨_, _, hr, .inr ⟨rfl, .goto t, hIx _ _ _ _ hi3 (CellsStay.putObj (Nat.le_succ _) hl3 rfl), hl4, hk4⟩⟩
        | panic ch => exact hp.elim
        | outgrown => exact hp.elim
      | ret => exact hp.elim
      | exit id => exact hp.elim
      | goto t => exact hp.elim
      | panic ch => exact hp.elim
      | outgrown => exact hp.elim
    · -- behind the iterator
      rintro e W2 ⟨⟨v, rfl⟩, (⟨xs, hS, hi, hl, hk⟩ | ⟨pre, hSp, c, hi, hl, hk⟩)⟩
      · exact ⟨none, _, by have := run_endLoop (P := P) hl (by rw [hrec]; simp); rw [hrec] at this; exact this, hdone _ xs _ (Nat.le_refl _) hS (hI _ _ _ hi (CellsStay.putObj (Nat.le_succ _) hl rfl)) ((World.putObj_heap_other (by omega)).trans hk)⟩
      · exact ⟨some c, _, by have := run_endLoop (P := P) hl (by rw [hrec]; simp); rw [hrec] at this; exact this, hstop _ c pre _ (Nat.le_refl _) hSp (hIx _ _ _ _ hi (CellsStay.putObj (Nat.le_succ _) hl rfl)) ((World.putObj_heap_other (by omega)).trans hk)⟩

end Go.Proofs.YtlbaojjnilnhlaaDoor.RangeX

namespace Go.Proofs.YtlbaojjnilnhlaaDoor.PA
open Go Go.RowKit Go.Proofs.YtlbaojjnilnhlaaDoorW.PrintWords Go.Proofs.YtlbaojjnilnhlaaDoorW.PrintLast Go.Proofs.YtlbaojjnilnhlaaDoorW.PrintMore Go.Proofs.YtlbaojjnilnhlaaDoor.RangeX
set_option linter.unusedVariables false
set_option linter.unusedSimpArgs false
attribute [local go_sem] Oper.semAt_some

abbrev Item := S33 × Int
def encI (x : Item) : Array Value := #[.agg #[.int .i64 x.1.f0, .string x.1.f1, .int .i64 x.1.f2], .int .i64 x.2]
/-- What is still to come at a place behind blanks. -/
def rest (s : ByteArray) (p f : Nat) : List Item :=
  if ((bl s).drop p).isEmpty then []
  else if (tokL ((bl s).drop p)).2.isEmpty then [(⟨0, ⟨#[]⟩, (p : Int)⟩, 0)]
  else (⟨(tokL ((bl s).drop p)).1, ⟨(tokL ((bl s).drop p)).2.toArray⟩, (p : Int)⟩, (tokL ((bl s).drop p)).2.length)
    :: items f ((bl s).drop (p + (tokL ((bl s).drop p)).2.length)) ((p : Int) + (tokL ((bl s).drop p)).2.length)
theorem items_rest (s : ByteArray) (q f : Nat) : items (f + 1) ((bl s).drop q) (q : Int) = rest s (q + skipN false ((bl s).drop q)) f := by
  unfold rest
  conv => lhs; rw [items]
  simp only [List.drop_drop]
  simp only [Int.natCast_add]

/-- What a method that reads a token answers. -/
def ReadPost (w0 w : World) (g : Nat) (s : ByteArray) (p : Nat) (T : Int × List UInt8) (e : Ending) (w' : World) : Prop :=
  e = .returned (.tuple #[.agg #[.int .i64 T.1, .string ⟨T.2.toArray⟩, .int .i64 0], .int .i64 T.2.length]) ∧ IsS52 w0 w' g s (p : Int) ∧ Below w0.heap.size w0 w' ∧ KeepBut w w' g none

section reads
variable (s : ByteArray) (hs : s.size ≤ 140737488355328) (p : Nat) (w0 w : World) (g : Nat)
theorem read_time (hs : s.size ≤ 140737488355328) (hG : LaidW w0) (hI : IsS52 w0 w g s (p : Int)) (hB : Below w0.heap.size w0 w) (r : List UInt8) (hd : (bl s).drop p = 116 :: 35 :: r) :
    Calls Tryd.prog 54 #[.pointer (some ⟨g, 0, none⟩)] w (ReadPost w0 w g s p (tokL ((bl s).drop p))) := by
  rw [hd, tokL_time]
  exact lexis_scanner_time.calls (s.size + 1) g s p _ _ _ _ _ _ w0 w hI hB hG (time_f s hs p r hd (s.size + 1) (Nat.le_refl _))
theorem read_word (hs : s.size ≤ 140737488355328) (hI : IsS52 w0 w g s (p : Int)) (hB : Below w0.heap.size w0 w) (c : UInt8) (r : List UInt8) (hd : (bl s).drop p = c :: r) (h1 : ¬ (c = 116 ∧ r.head? = some 35)) (h2 : letterB c = true) :
    Calls Tryd.prog 56 #[.pointer (some ⟨g, 0, none⟩)] w (ReadPost w0 w g s p (tokL ((bl s).drop p))) := by
  obtain ⟨_, hp, _⟩ := bt_drop hd
  have e := word_f s hs p (by omega) (s.size + 1) (Nat.le_refl _)
  rw [hd] at e ⊢
  rw [tokL_word c r h1 h2]
  exact lexis_scanner_word.calls (s.size + 1) g s p _ _ _ _ _ _ w0 w hI hB e
theorem read_num (hs : s.size ≤ 140737488355328) (hG : LaidW w0) (hI : IsS52 w0 w g s (p : Int)) (hB : Below w0.heap.size w0 w) (c : UInt8) (r : List UInt8) (hd : (bl s).drop p = c :: r) (h2 : letterB c = false) (h3 : digitB c = true) :
    Calls Tryd.prog 58 #[.pointer (some ⟨g, 0, none⟩)] w (ReadPost w0 w g s p (tokL ((bl s).drop p))) := by
  obtain ⟨_, hp, _⟩ := bt_drop hd
  have e := numeral_f s hs p (by omega) (s.size + 1) (Nat.le_refl _)
  rw [hd] at e ⊢
  rw [tokL_num c r h2 h3]
  exact lexis_scanner_numeral.calls (s.size + 1) g s p _ _ _ _ _ _ w0 w hI hB hG e
theorem read_addr (hs : s.size ≤ 140737488355328) (hG : LaidW w0) (hI : IsS52 w0 w g s (p : Int)) (hB : Below w0.heap.size w0 w) (r : List UInt8) (hd : (bl s).drop p = 37 :: r) :
    Calls Tryd.prog 59 #[.pointer (some ⟨g, 0, none⟩)] w (ReadPost w0 w g s p (tokL ((bl s).drop p))) := by
  have e := address_f s hs p r hd (s.size + 1) (Nat.le_refl _)
  rw [hd, tokL_addr]
  exact lexis_scanner_address.calls (s.size + 1) g s p _ _ _ _ _ _ w0 w hI hB hG e
theorem read_sign (hs : s.size ≤ 140737488355328) (hI : IsS52 w0 w g s (p : Int)) (hB : Below w0.heap.size w0 w) (c : UInt8) (r : List UInt8) (hd : (bl s).drop p = c :: r) (h2 : letterB c = false) (h3 : digitB c = false) (h4 : c ≠ 37) :
    Calls Tryd.prog 52 #[.pointer (some ⟨g, 0, none⟩)] w (ReadPost w0 w g s p (tokL ((bl s).drop p))) := by
  obtain ⟨_, hp, _⟩ := bt_drop hd
  have e := sign_f s hs p (by omega) 3 (Nat.le_refl _)
  rw [hd] at e ⊢
  rw [tokL_sign c r h2 h3 h4]
  exact lexis_scanner_sign.calls 3 g s p _ _ _ _ _ _ w0 w hI hB e
theorem do_skip (hs : s.size ≤ 140737488355328) (hI : IsS52 w0 w g s (p : Int)) (hB : Below w0.heap.size w0 w) (hp : p ≤ s.size) :
    Calls Tryd.prog 51 #[.pointer (some ⟨g, 0, none⟩)] w fun e w' => e = .returned (.tuple #[]) ∧ IsS52 w0 w' g s ((p + skipN false ((bl s).drop p) : Nat) : Int) ∧ Below w0.heap.size w0 w' ∧ KeepBut w w' g none :=
  lexis_scanner_skip.calls (4 * s.size + 2) g s p _ _ w0 w hI hB (skip_f s hs p hp _ (Nat.le_refl _))
end reads

theorem stays_keep {w0 w w' : World} {g : Nat} {own : Nat → Prop} (ho : own g) (hB : Below w0.heap.size w0 w) (hB' : Below w0.heap.size w0 w') (hK : KeepBut w w' g none) : Stays own w w' :=
  ⟨hB'.os.trans hB.os.symm, hB'.tape.trans hB.tape.symm, hB'.output.trans hB.output.symm, hK.1, fun k o hk hn => (hK.2 k (lt_of_some hk) (fun e => hn (e ▸ ho)) (by simp)).trans hk⟩
end Go.Proofs.YtlbaojjnilnhlaaDoor.PA

namespace Go.Proofs.YtlbaojjnilnhlaaDoor.PA
open Go Go.RowKit Go.Proofs.YtlbaojjnilnhlaaDoorW.PrintWords Go.Proofs.YtlbaojjnilnhlaaDoorW.PrintLast Go.Proofs.YtlbaojjnilnhlaaDoorW.PrintMore Go.Proofs.YtlbaojjnilnhlaaDoor.RangeX
set_option linter.unusedVariables false
set_option linter.unusedSimpArgs false

theorem skipN_le : ∀ (l : List UInt8) (b : Bool), skipN b l ≤ l.length := by
  intro l
  induction l with
  | nil => intro b; cases b <;> simp [skipN]
  | cons c r ih =>
    intro b
    cases b with
    | true => have := ih (c != 10); simp only [skipN, List.length_cons]; omega
    | false =>
      have h1 := ih false
      have h2 := ih true
      simp only [skipN, List.length_cons]
      split
      · omega
      · split <;> omega
theorem skip_in (s : ByteArray) (p : Nat) (h : p ≤ s.size) : p + skipN false ((bl s).drop p) ≤ s.size := by
  have := skipN_le ((bl s).drop p) false
  rw [List.length_drop, bl_length] at this
  omega
theorem keep_blk {w w' : World} {g c : Nat} {o : Obj} (hK : KeepBut w w' g none) (hne : c ≠ g) (h : w.heap[c]? = some o) : w'.heap[c]? = some o := (hK.2 c (lt_of_some h) hne (by simp)).trans h
theorem cell0_of {w : World} {c : Nat} {t : TypeId} {v : Value} (h : w.heap[c]? = some (.cells #[v] t (0, 0))) : w.cell? ⟨c, 0, none⟩ = some v := blk_cell h 0
theorem wide_fn (f : FuncId) : Fence.wide.fn f = True := rfl
attribute [local simp] wide_fn
attribute [local go_sem] wide_fn
theorem wide_depth {m : Nat} (h : Fence.wide.depth.isSome = true) : 1 ≤ m := by simp [Fence.wide] at h
theorem wide_depth_in {m l : Nat} (h : (Fence.wide.inRound l).depth.isSome = true) : 1 ≤ m := by simp [Fence.wide, Fence.inRound] at h

theorem tokL_cases (l : List UInt8) : tokL l = (0, []) ∨ (tokL l).2 ≠ [] ∧ (tokL l).2 <+: l := by
  have tw : ∀ (q : UInt8 → Bool) (l : List UInt8), l.takeWhile q <+: l := fun q l => List.takeWhile_prefix q
  generalize h : tokL l = T
  cases l with
  | nil => left; rw [← h]; rfl
  | cons c r =>
    unfold tokL at h
    simp only at h
    split at h
    · rename_i h1
      split at h
      · right; rw [← h]
        refine ⟨by simp, ?_⟩
        cases r with
        | nil => simp at h1
        | cons y r => 
          obtain rfl : y = 35 := by simp at h1; exact h1.2
          exact List.cons_prefix_cons.2 ⟨rfl, List.cons_prefix_cons.2 ⟨rfl, tw _ _⟩⟩
      · left; rw [← h]
    · split at h
      · rename_i h1 h2
        have h3 : partB c = true := by simp [partB, h2]
        have h4 : List.takeWhile partB (c :: r) ≠ [] := by rw [List.takeWhile_cons, if_pos h3]; simp
        split at h
        · right; rw [← h]; exact ⟨h4, tw _ _⟩
        · split at h
          · right; rw [← h]; exact ⟨h4, tw _ _⟩
          · left; rw [← h]
      · split at h
        · rename_i h1 h2 h3
          have h4 : List.takeWhile digitB (c :: r) ≠ [] := by rw [List.takeWhile_cons, if_pos h3]; simp
          split at h
          · right; rw [← h]; exact ⟨h4, tw _ _⟩
          · left; rw [← h]
        · split at h
          · split at h
            · right; rw [← h]; exact ⟨by simp, List.cons_prefix_cons.2 ⟨rfl, tw _ _⟩⟩
            · left; rw [← h]
          · split at h
            · right; rw [← h]; exact ⟨by simp, List.take_prefix _ _⟩
            · split at h
              · right; rw [← h]; exact ⟨by simp, by simp⟩
              · left; rw [← h]
theorem tokL_zero (l : List UInt8) (h : (tokL l).2 = []) : (tokL l).1 = 0 := by
  rcases tokL_cases l with e | ⟨e, _⟩
  · rw [e]
  · exact absurd h e
theorem tokL_len (l : List UInt8) : (tokL l).2.length ≤ l.length := by
  rcases tokL_cases l with e | ⟨_, e⟩
  · rw [e]; simp
  · exact e.length_le
/-- The item at a place. -/
def itemAt (s : ByteArray) (p : Nat) : Item := (⟨(tokL ((bl s).drop p)).1, ⟨(tokL ((bl s).drop p)).2.toArray⟩, (p : Int)⟩, (tokL ((bl s).drop p)).2.length)
theorem rest_nil {s : ByteArray} {p f : Nat} (hp : p < s.size) (h : (tokL ((bl s).drop p)).2.length = 0) : rest s p f = [itemAt s p] := by
  have h' : (tokL ((bl s).drop p)).2 = [] := List.length_eq_zero_iff.1 h
  have h1 : ((bl s).drop p).isEmpty = false := by rw [← Bool.not_eq_true, List.isEmpty_iff, List.drop_eq_nil_iff, bl_length]; omega
  have := tokL_zero _ h'
  unfold rest itemAt
  rw [if_neg (by simp [h1]), h', this]
  rfl
theorem rest_cons {s : ByteArray} {p f : Nat} (hp : p < s.size) (hf : s.size ≤ p + f) (h : (tokL ((bl s).drop p)).2.length ≠ 0) :
    ∃ k, f = k + 1 ∧ rest s p f = itemAt s p :: rest s (p + (tokL ((bl s).drop p)).2.length + skipN false ((bl s).drop (p + (tokL ((bl s).drop p)).2.length))) k := by
  have h' : (tokL ((bl s).drop p)).2 ≠ [] := fun e => h (by rw [e]; rfl)
  have h1 : ((bl s).drop p).isEmpty = false := by rw [← Bool.not_eq_true, List.isEmpty_iff, List.drop_eq_nil_iff, bl_length]; omega
  obtain ⟨k, rfl⟩ : ∃ k, f = k + 1 := ⟨f - 1, by omega⟩
  refine ⟨k, rfl, ?_⟩
  conv => lhs; unfold rest
  rw [if_neg (by simp [h1]), if_neg (by simpa using h'), ← items_rest]
  unfold itemAt
  simp only [Int.natCast_add]
theorem rest_head {s : ByteArray} {p f : Nat} (hp : p < s.size) : [itemAt s p] <+: rest s p f := by
  by_cases h : (tokL ((bl s).drop p)).2.length = 0
  · rw [rest_nil hp h]; exact List.prefix_refl _
  · have h1 : ((bl s).drop p).isEmpty = false := by rw [← Bool.not_eq_true, List.isEmpty_iff, List.drop_eq_nil_iff, bl_length]; omega
    unfold rest
    rw [if_neg (by simp [h1]), if_neg (by simpa using h)]
    exact List.cons_prefix_cons.2 ⟨rfl, List.nil_prefix⟩
theorem set_other {w : World} {p : Addr} {v : Value} {k : Nat} (h : p.block ≠ k) : (w.setCell p v).heap[k]? = w.heap[k]? := by
  simp only [World.setCell]; rw [Array.getElem?_modify, if_neg h]
theorem items_len : ∀ (f : Nat) (l : List UInt8) (a : Int), (items f l a).length ≤ f := by
  intro f
  induction f with
  | zero => intro l a; simp [items]
  | succ f ih =>
    intro l a
    unfold items
    split
    · simp
    · split
      · simp
      · simp only [List.length_cons]
        have := ih ((l.drop (skipN false l)).drop (tokL (l.drop (skipN false l))).2.length) (a + skipN false l + (tokL (l.drop (skipN false l))).2.length)
        omega
end Go.Proofs.YtlbaojjnilnhlaaDoor.PA
