/-
  lexis.Tokens: the iterator's maker, and the function that ranges over it.
-/
import Derived.Test.YtlbaojjnilnhlaaDoorIter2
import Derived.Maps.OwnIn
import Derived.RangeFuncBox
namespace Go.Proofs.YtlbaojjnilnhlaaDoor.PA
open Go Go.RowKit Go.Proofs.YtlbaojjnilnhlaaDoorW.PrintWords Go.Proofs.YtlbaojjnilnhlaaDoorW.PrintLast Go.Proofs.YtlbaojjnilnhlaaDoorW.PrintMore Go.Proofs.YtlbaojjnilnhlaaDoor.RangeX
set_option linter.unusedVariables false
set_option linter.unusedSimpArgs false
attribute [local simp] wide_fn
attribute [local go_sem] wide_fn
attribute [local go_sem] Oper.semAt_some

theorem tokens_in (F : Fence) (n : Nat) (h5 : F.fn 32) (hro : F.round = none) (p : Option Addr) (w : World) :
    CallsIn F n Tryd.prog 32 #[.pointer p] w fun e w' => e = .returned (.func (.func 50) #[] #[.pointer (some ⟨w.heap.size, 0, none⟩)]) ∧ w' = w.alloc (.cells #[.pointer p] 50) := by
  refine callsIn_of_wp Tryd.func32 rfl h5 ?_ hro
  simp only [Tryd.ntmps32, List.size_toArray, List.length_cons, List.length_nil, Nat.reduceAdd, Nat.reduceSub, Array.replicate_succ, Array.replicate_zero, List.push_toArray, List.append_toArray, List.nil_append, List.cons_append]
  gi_wp2
  go_ret
  exact ⟨rfl, rfl⟩

def cells3 (x : S33) : List Value := [.int .i64 x.f0, .string x.f1, .int .i64 x.f2]
def flatT (xs : List S33) : List Value := xs.flatMap cells3
theorem flatT_snoc (xs : List S33) (x) : flatT (xs ++ [x]) = flatT xs ++ cells3 x := by simp [flatT]
theorem reps_flat (P : S33 → List Value → Prop) (hP : ∀ x, P x (cells3 x)) : ∀ xs, Reps P 3 xs (flatT xs) := by
  intro xs
  induction xs with
  | nil => exact Reps.none _ _
  | cons x xs ih => exact Reps.c3 (hP x) ih
theorem R_flat {W : World} {base : Nat} {v : Value} {xs : List S33} (h : W.ownsRow base 33 3 v xs.length (flatT xs)) : Kd.R k33 33 W base (fun _ => True) v xs :=
  ⟨fun _ _ => trivial, flatT xs, h, reps_flat _ (fun x => k33_mkM _ _ _ x) xs⟩

theorem results_tok {tmps : Array Value} {W : World} {b2 b3 b4 : Nat} {x2 x3 x4 : Value} (p2 : tmps.getD 2 undef = .pointer (some ⟨b2, 0, none⟩)) (p3 : tmps.getD 3 undef = .pointer (some ⟨b3, 0, none⟩)) (p4 : tmps.getD 4 undef = .pointer (some ⟨b4, 0, none⟩))
    (h2 : Boxed W b2 23 x2) (h3 : Boxed W b3 3 x3) (h4 : Boxed W b4 24 x4) : (results Tryd.f13 tmps).run Tryd.prog W = .ok (.tuple #[x2, x3, x4]) W := by
  have h : Tryd.f13.results = #[.cell 2 23, .cell 3 3, .cell 4 24] := rfl
  have q2 : tmps[2]?.getD undef = .pointer (some ⟨b2, 0, none⟩) := by simpa using p2
  have q3 : tmps[3]?.getD undef = .pointer (some ⟨b3, 0, none⟩) := by simpa using p3
  have q4 : tmps[4]?.getD undef = .pointer (some ⟨b4, 0, none⟩) := by simpa using p4
  have c2 := h2.cell
  have c3 := h3.cell
  have c4 := h4.cell
  simp [results, h, q2, q3, q4, asAddr, loadVar, isAgg, underlying, Tryd.underlying23, Tryd.underlying3, Tryd.underlying24, Sem.run_bind, Sem.run, load, c2, c3, c4, Result.andThen]

/-- The world in which the loop begins. -/
def loopW (w : World) (a0 : ByteArray) : World := ((((((w.alloc (Obj.cells #[Value.slice none 0 0] 23)).alloc (Obj.cells #[Value.int IntKind.i64 0] 3)).alloc (Obj.cells #[Value.int IntKind.i64 0] 24)).alloc (Obj.cells #[Value.slice none 0 0] 23)).alloc
  (Obj.cells #[Value.string a0, Value.int IntKind.i64 0] 52)).alloc (Obj.cells #[Value.pointer (some { block := w.heap.size + 1 + 1 + 1 + 1, off := 0 })] 50))
theorem loopW_size (w : World) (a0 : ByteArray) : (loopW w a0).heap.size = w.heap.size + 6 := by simp [loopW]
theorem loopW_below (w : World) (a0 : ByteArray) : Below w.heap.size w (loopW w a0) := by
  unfold loopW
  repeat first | exact Below.refl _ _ | refine Below.alloc ?_ (by simp; try omega) _
theorem loopW_2 (w : World) (a0 : ByteArray) : Boxed (loopW w a0) w.heap.size 23 (.slice none 0 0) := by
  unfold loopW; exact (((((Boxed.new w _ _).alloc _).alloc _).alloc _).alloc _).alloc _
theorem loopW_3 (w : World) (a0 : ByteArray) : Boxed (loopW w a0) (w.heap.size + 1) 3 (.int .i64 0) := by
  unfold loopW; have := Boxed.new (w.alloc (Obj.cells #[Value.slice none 0 0] 23)) 3 (.int .i64 0); rw [World.size_alloc] at this; exact ((((this).alloc _).alloc _).alloc _).alloc _
theorem loopW_4 (w : World) (a0 : ByteArray) : Boxed (loopW w a0) (w.heap.size + 1 + 1) 24 (.int .i64 0) := by
  unfold loopW; have := Boxed.new ((w.alloc (Obj.cells #[Value.slice none 0 0] 23)).alloc (Obj.cells #[Value.int IntKind.i64 0] 3)) 24 (.int .i64 0); simp only [World.size_alloc] at this; exact (((this).alloc _).alloc _).alloc _
theorem loopW_5 (w : World) (a0 : ByteArray) : Boxed (loopW w a0) (w.heap.size + 1 + 1 + 1) 23 (.slice none 0 0) := by
  unfold loopW; have := Boxed.new (((w.alloc (Obj.cells #[Value.slice none 0 0] 23)).alloc (Obj.cells #[Value.int IntKind.i64 0] 3)).alloc (Obj.cells #[Value.int IntKind.i64 0] 24)) 23 (.slice none 0 0); simp only [World.size_alloc] at this; exact ((this).alloc _).alloc _
theorem loopW_g (w : World) (a0 : ByteArray) : (loopW w a0).heap[w.heap.size + 1 + 1 + 1 + 1]? = some (.cells #[.string a0, .int .i64 0] 52 (0, 0)) := by
  unfold loopW; refine blk_alloc ?_ _; have := blk_new ((((w.alloc (Obj.cells #[Value.slice none 0 0] 23)).alloc (Obj.cells #[Value.int IntKind.i64 0] 3)).alloc (Obj.cells #[Value.int IntKind.i64 0] 24)).alloc (Obj.cells #[Value.slice none 0 0] 23)) (Obj.cells #[Value.string a0, Value.int IntKind.i64 0] 52); simp only [World.size_alloc] at this; exact this
theorem loopW_c (w : World) (a0 : ByteArray) : (loopW w a0).heap[w.heap.size + 1 + 1 + 1 + 1 + 1]? = some (.cells #[.pointer (some ⟨w.heap.size + 1 + 1 + 1 + 1, 0, none⟩)] 50 (0, 0)) := by
  unfold loopW; have := blk_new (((((w.alloc (Obj.cells #[Value.slice none 0 0] 23)).alloc (Obj.cells #[Value.int IntKind.i64 0] 3)).alloc (Obj.cells #[Value.int IntKind.i64 0] 24)).alloc (Obj.cells #[Value.slice none 0 0] 23)).alloc (Obj.cells #[Value.string a0, Value.int IntKind.i64 0] 52)) (Obj.cells #[.pointer (some ⟨w.heap.size + 1 + 1 + 1 + 1, 0, none⟩)] 50); simp only [World.size_alloc] at this; exact this

theorem below_putObj {n D : Nat} {w A : World} {o : Obj} (h : Below n w A) (hD : n ≤ D) : Below n w (A.putObj D o) := ⟨h.os, h.tape, h.output, by simpa using h.size, fun k hk => (World.putObj_heap_other (by omega)).trans (h.block k hk)⟩

abbrev ownT (b : Nat) (k : Nat) : Prop := k = b + 1 + 1 + 1 + 1 ∨ k = b + 1 + 1 + 1 + 1 + 1
theorem not_own {b k : Nat} (h : k < b + 4) : ¬ ownT b k := by rintro (h' | h') <;> omega
/-- Between two rounds. -/
def IT (w : World) (pre : List Item) (W : World) : Prop :=
  ∃ v, Boxed W w.heap.size 23 (.slice none 0 0) ∧ Boxed W (w.heap.size + 1) 3 (.int .i64 0) ∧ Boxed W (w.heap.size + 1 + 1) 24 (.int .i64 0) ∧ Boxed W (w.heap.size + 1 + 1 + 1) 23 v ∧
    W.ownsRow w.heap.size 33 3 v pre.length (flatT (pre.map Prod.fst)) ∧ (∀ k, v.ownBlock = some k → ¬ ownT w.heap.size k) ∧ (∀ x ∈ pre, x.2 ≠ 0) ∧ Below w.heap.size w W ∧ w.heap.size + 6 ≤ W.heap.size
/-- A round has returned. -/
def IxT (w : World) (c : Code) (pre : List Item) (W : World) : Prop :=
  c = .ret ∧ ∃ pre' x, pre = pre' ++ [x] ∧ (∀ y ∈ pre', y.2 ≠ 0) ∧ x.2 = 0 ∧ Boxed W w.heap.size 23 (.slice none 0 0) ∧ Boxed W (w.heap.size + 1) 3 (.int .i64 x.1.f2) ∧ Boxed W (w.heap.size + 1 + 1) 24 (.int .i64 4) ∧ Below w.heap.size w W ∧ w.heap.size + 6 ≤ W.heap.size
theorem boxed_stay {base : Nat} {own : Nat → Prop} {A B : World} {b t : Nat} {v : Value} (h : Boxed A b t v) (hc : CellsStay base own A B) (hn : ¬ own b) : Boxed B b t v := hc.block b _ h (.inl rfl) hn
theorem boxed_blk {base : Nat} {A B : World} {b : Nat} {cs : Array Value} {t : TypeId} (hc : CellsStay base (fun _ => False) A B) (h : A.heap[b]? = some (.cells cs t (0, 0))) : B.heap[b]? = some (.cells cs t (0, 0)) := hc.block b _ h (.inl rfl) (fun h => h)
theorem owns_stay {base : Nat} {own : Nat → Prop} {A B : World} {n e s k : Nat} {v : Value} {xs : List Value} (h : A.ownsRow n e s v k xs) (hc : CellsStay base own A B) (hn : ∀ j, v.ownBlock = some j → ¬ own j) : B.ownsRow n e s v k xs := by
  refine own_move h (fun j hj => ?_)
  obtain ⟨cells, h1⟩ := own_typed h j hj
  rw [hc.block j _ h1 (.inl rfl) (hn j hj), h1]
theorem IT_stay (w : World) (base : Nat) (hb : w.heap.size ≤ base) (pre : List Item) (A B : World) (h : IT w pre A) (hc : CellsStay base (ownT w.heap.size) A B) : IT w pre B := by
  obtain ⟨v, h2, h3, h4, h5, ho, hn, hx, hB, hz⟩ := h
  exact ⟨v, boxed_stay h2 hc (by rintro (h | h) <;> omega), boxed_stay h3 hc (by rintro (h | h) <;> omega), boxed_stay h4 hc (by rintro (h | h) <;> omega), boxed_stay h5 hc (by rintro (h | h) <;> omega), owns_stay ho hc hn, hn, hx, hc.below hB hb (Nat.le_refl _) (fun k hk => by rcases hk with rfl | rfl <;> omega), Nat.le_trans hz hc.size⟩
theorem IxT_stay (w : World) (base : Nat) (hb : w.heap.size ≤ base) (c : Code) (pre : List Item) (A B : World) (h : IxT w c pre A) (hc : CellsStay base (ownT w.heap.size) A B) : IxT w c pre B := by
  obtain ⟨rfl, pre', x, e, hx, h0, h2, h3, h4, hB, hz⟩ := h
  exact ⟨rfl, pre', x, e, hx, h0, boxed_stay h2 hc (by rintro (h | h) <;> omega), boxed_stay h3 hc (by rintro (h | h) <;> omega), boxed_stay h4 hc (by rintro (h | h) <;> omega), hc.below hB hb (Nat.le_refl _) (fun k hk => by rcases hk with rfl | rfl <;> omega), Nat.le_trans hz hc.size⟩
theorem finish_ok (size : Int) : ∀ (xs : List Item) (acc), (∀ x ∈ xs, x.2 ≠ 0) → finish size xs acc = (acc ++ xs.map Prod.fst ++ [⟨7, ⟨#[]⟩, size⟩], 0, 0) := by
  intro xs
  induction xs with
  | nil => intro acc _; simp [finish]
  | cons x xs ih =>
    intro acc h
    obtain ⟨t, n⟩ := x
    have h0 : n ≠ 0 := h (t, n) (by simp)
    unfold finish
    rw [if_neg h0, ih _ (fun y hy => h y (List.mem_cons_of_mem _ hy))]
    simp
theorem finish_bad (size : Int) (x : Item) (h0 : x.2 = 0) : ∀ (pre : List Item) (acc) (rest), (∀ y ∈ pre, y.2 ≠ 0) → finish size (pre ++ x :: rest) acc = ([], x.1.f2, 4) := by
  intro pre
  induction pre with
  | nil => intro acc rest _; obtain ⟨t, n⟩ := x; simp only at h0; subst h0; simp [finish]
  | cons y pre ih =>
    intro acc rest h
    obtain ⟨t, n⟩ := y
    have h1 : n ≠ 0 := h (t, n) (by simp)
    rw [List.cons_append]
    unfold finish
    rw [if_neg h1]
    exact ih _ _ (fun z hz => h z (List.mem_cons_of_mem _ hz))

set_option maxHeartbeats 4000000 in
set_option maxRecDepth 100000 in
theorem lexis_Tokens.calls_in (a0 : ByteArray) (w : World) (hG : LaidW w) :
    CallsIn Fence.wide 3 Tryd.prog 13 #[.string a0] w fun e w' => ∃ v0_ : Value, e = .returned (.tuple #[v0_, .int .i64 (toksOf a0).2.1, .int .i64 (toksOf a0).2.2]) ∧
      w'.ownsRow w.heap.size 33 3 v0_ (toksOf a0).1.length (flatT (toksOf a0).1) ∧ Below w.heap.size w w' := by
  refine callsIn_of_wp_marks Tryd.func13 rfl trivial ?_ rfl
  simp only [Tryd.ntmps13, List.size_toArray, List.length_cons, List.length_nil, Nat.reduceAdd, Nat.reduceSub, Array.replicate_succ, Array.replicate_zero, List.push_toArray, List.append_toArray, List.nil_append, List.cons_append]
  by_cases hs : a0.size > 8000
  · have e1 : decide ((8000 : Int) < (a0.size : Int)) = true := by simp; omega
    gi_wp2
    refine ⟨_, results_tok (b2 := w.heap.size) (b3 := w.heap.size + 1) (b4 := w.heap.size + 1 + 1) (x2 := .slice none 0 0) (x3 := .int .i64 0) (x4 := .int .i64 5) rfl rfl rfl ?_ ?_ ?_, ?_⟩
    · exact ((Boxed.new w _ _).alloc _).alloc _
    · have := Boxed.new (w.alloc (Obj.cells #[Value.slice none 0 0] 23)) 3 (.int .i64 0); rw [World.size_alloc] at this; exact this.alloc _
    · have := Boxed.new ((w.alloc (Obj.cells #[Value.slice none 0 0] 23)).alloc (Obj.cells #[Value.int IntKind.i64 0] 3)) 24 (.int .i64 5); simp only [World.size_alloc] at this; exact this
    · have ht : toksOf a0 = ([], 0, 5) := by unfold toksOf; rw [if_pos hs]
      rw [ht]
      exact ⟨_, rfl, own_nil _ _ _ _, by repeat first | exact Below.refl _ _ | refine Below.alloc ?_ (by simp; try omega) _⟩
  · have e1 : decide ((8000 : Int) < (a0.size : Int)) = false := by simp; omega
    gi_wp2_with (first | ((first | refine ⟨trivial, wide_depth, ?_⟩ | refine ⟨wide_depth, ?_⟩ | skip); gi_at_call 32; refine (tokens_in Fence.wide _ trivial rfl _ _).mono ?_; rintro e w' ⟨rfl, rfl⟩))
    change Code.wpIn Fence.wide 3 _ _ _ _ (loopW w a0)
    refine wpIn_rangeFunc_X (α := Item) rfl (by omega) (gf := 50) (lb := #[.pointer (some ⟨w.heap.size + 1 + 1 + 1 + 1 + 1, 0, none⟩)]) rfl trivial (enters_of Tryd.func50 (by kernel_rfl) rfl) (encs := encI)
      (ownT w.heap.size) ?own (S := fun xs => xs = items (a0.size + 1) (bl a0) 0) (Sp := fun pre => pre <+: items (a0.size + 1) (bl a0) 0) (N := (items (a0.size + 1) (bl a0) 0).length) (fun _ => rfl)
      (IT w) (IxT w) (fun pre A B h hc => IT_stay w _ (by rw [loopW_size]; omega) pre A B h hc) (fun c pre A B h hc => IxT_stay w _ (by rw [loopW_size]; omega) c pre A B h hc) ?h0 ?hseq ?hround ?hdone ?hstop
    case own =>
      rw [loopW_size]
      rintro k (rfl | rfl) <;> omega
    case h0 => exact ⟨_, loopW_2 w a0, loopW_3 w a0, loopW_4 w a0, loopW_5 w a0, own_nil _ _ _ _, (by intro k hk; simp [Value.ownBlock] at hk), (by intro x hx; cases hx), loopW_below w a0, (by rw [loopW_size]; exact Nat.le_refl _)⟩
    case hseq =>
      intro l J Jx W hW hJ hJx hJI hY h0
      exact iter_in 2 l J Jx w W (w.heap.size + 1 + 1 + 1 + 1) (w.heap.size + 1 + 1 + 1 + 1 + 1) a0 (by omega) hG (fun pre A hj => by obtain ⟨v, _, _, _, _, _, _, _, hB, _⟩ := hJI pre A hj; exact hB) hJ hJx
        ⟨hW.block _ _ (loopW_g w a0) (fun h => h), by omega⟩ (hW.block _ _ (loopW_c w a0) (fun h => h)) (by omega) hY h0
    case hround =>
      intro l pre x W hl hI hlen K hK
      have hl8 := items_len (a0.size + 1) (bl a0) 0
      obtain ⟨v, h2, h3, h4, h5, ho, hn, hx, hB, hz⟩ := hI
      obtain ⟨⟨x0, x1, x2⟩, xn⟩ := x
      simp only [encI]
      gi_wp2
      refine hK _ _ (RoundKeeps.alloc W (Obj.cells #[.int .i64 x0, .string x1, .int .i64 x2] 33) (by rintro k (rfl | rfl) <;> omega)) ?_
      clear hK
      intro W2 hc hsz
      have hown2 : ∀ k, ownT w.heap.size k → k < W.heap.size := by rintro k (rfl | rfl) <;> omega
      have hT := boxed_blk hc (blk_new W (Obj.cells #[.int .i64 x0, .string x1, .int .i64 x2] 33))
      have t0 := blk_cell hT 0
      have t1 := blk_cell hT 1
      have t2 := blk_cell hT 2
      have ftt := blk_frozen hT 0
      rw [World.size_alloc] at hsz
      have H2 := boxed_stay (h2.alloc _) hc (fun h => h)
      have H3 := boxed_stay (h3.alloc _) hc (fun h => h)
      have H4 := boxed_stay (h4.alloc _) hc (fun h => h)
      have H5 := boxed_stay (h5.alloc _) hc (fun h => h)
      have HO := owns_stay (ho.alloc _) hc (fun _ _ h => h)
      have c2 := H2.cell
      have c3 := H3.cell
      have c4 := H4.cell
      have c5 := H5.cell
      have f2 := H2.frozen
      have f3 := H3.frozen
      have f4 := H4.frozen
      have f5 := H5.frozen
      have hB2 := CellsStay.below hc (hB.alloc (by omega) (Obj.cells #[.int .i64 x0, .string x1, .int .i64 x2] 33)) (by rw [loopW_size]; omega) (Nat.le_refl _) (fun _ h => h.elim)
      have hl2 : ∀ k, ownT w.heap.size k → k < W2.heap.size := fun k hk => by have := hown2 k hk; omega
      by_cases hn0 : xn = 0
      · subst hn0
        gi_wp2
        gi_region
        all_goals gi_wp2
        all_goals
          refine ⟨((RoundKeeps.setCell (own := ownT w.heap.size) W2 ⟨w.heap.size, 0, none⟩ (.slice none 0 0) (not_own (show w.heap.size < w.heap.size + 4 by omega))).trans (RoundKeeps.setCell _ ⟨w.heap.size + 1, 0, none⟩ (.int .i64 x2) (not_own (show w.heap.size + 1 < w.heap.size + 4 by omega)))).trans (RoundKeeps.setCell _ ⟨w.heap.size + 1 + 1, 0, none⟩ (.int .i64 4) (not_own (show w.heap.size + 1 + 1 < w.heap.size + 4 by omega))) |>.trans (RoundKeeps.drewN _ 1),
            rfl, pre, (⟨x0, x1, x2⟩, 0), rfl, hx, rfl, ?_, ?_, ?_, ?_, ?_⟩
          · exact ((H2.set _).other (by omega) _).other (by omega) _
          · exact ((H3.other (by omega) _).set _).other (by omega) _
          · exact ((H4.other (by omega) _).other (by omega) _).set _
          · exact below_drew1 (((hB2.setCell (p := ⟨w.heap.size, 0, none⟩) (Nat.le_refl _) _).setCell (p := ⟨w.heap.size + 1, 0, none⟩) (by simp) _).setCell (p := ⟨w.heap.size + 1 + 1, 0, none⟩) (by simp; omega) _)
          · simp
            omega
      · have e0 : (xn == 0) = false := by simpa using hn0
        obtain ⟨i0, hi, hz0, hz1, hz2⟩ := info_parts info33
        have hnew : (W2.alloc (Obj.cells #[.int .i64 x0, .string x1, .int .i64 x2] 33)).heap[W.heap.size + 1]? = some (.cells #[.int .i64 x0, .string x1, .int .i64 x2] 33 (0, 0)) := by rw [← hsz]; exact blk_new W2 _
        gi_wp2_with (first | (gi_at_builtin; refine wpListIn_append_own_at _ rfl _ _ 23 rfl w.heap.size 33 i0 _ 3 32 Tryd.underlying23 hi hz0 hz1 hz2 rfl (by decide) v pre.length (flatT (pre.map Prod.fst)) rfl (HO.alloc _) ⟨W.heap.size + 1, 0, none⟩ 1 1 (cells3 ⟨x0, x1, x2⟩) rfl rfl (by simpa [cells3] using World.news_of_block hnew) (by simp [cells3, Value.oneCell']) (by simp only [maxLen]; omega) (by omega) (by simp; omega) ?_; intro v' w1 hown' hgrow _ hat; have H5' := (H5.alloc (Obj.cells #[.int .i64 x0, .string x1, .int .i64 x2] 33)).kept hgrow (Boxed.not_row H5 (by decide) HO); obtain ⟨g', cap', rfl⟩ := ownsRow_succ hown'; have d5 := H5'.cell; have d6 := H5'.frozen))
        have hne5 : some (w.heap.size + 1 + 1 + 1) ≠ v.ownBlock := Boxed.not_row H5 (by decide) HO
        have hrow : ∀ j, v.ownBlock = some j → ¬ ownT w.heap.size j ∧ ∀ o : Obj, (W2.alloc (Obj.cells #[.int .i64 x0, .string x1, .int .i64 x2] 33)).heap[j]? = some o → o.isCells = true := by
          intro j hj
          obtain ⟨cells, h1⟩ := own_typed (HO.alloc (Obj.cells #[.int .i64 x0, .string x1, .int .i64 x2] 33)) j hj
          exact ⟨hn j hj, fun o ho => by rw [h1] at ho; cases ho; rfl⟩
        have hown3 := own_setCell (p := ⟨w.heap.size + 1 + 1 + 1, 0, none⟩) hown' (Boxed.not_row H5' (by decide) hown') (Value.slice (some ⟨g', 0, none⟩) (pre.length + 1) cap')
        refine ⟨((RoundKeeps.alloc W2 _ hl2).trans (RoundKeeps.of_grownBy hgrow (fun k hk => by simp; have := hl2 k hk; omega) hrow)).trans (RoundKeeps.setCell _ ⟨w.heap.size + 1 + 1 + 1, 0, none⟩ _ (by rintro (h | h) <;> simp at h <;> omega)), ?_⟩
        have K2 := ((H2.alloc (Obj.cells #[.int .i64 x0, .string x1, .int .i64 x2] 33)).kept hgrow (Boxed.not_row H2 (by decide) HO)).other (B' := w.heap.size + 1 + 1 + 1) (by omega) (Value.slice (some ⟨g', 0, none⟩) (pre.length + 1) cap')
        have K3 := ((H3.alloc (Obj.cells #[.int .i64 x0, .string x1, .int .i64 x2] 33)).kept hgrow (Boxed.not_row H3 (by decide) HO)).other (B' := w.heap.size + 1 + 1 + 1) (by omega) (Value.slice (some ⟨g', 0, none⟩) (pre.length + 1) cap')
        have K4 := ((H4.alloc (Obj.cells #[.int .i64 x0, .string x1, .int .i64 x2] 33)).kept hgrow (Boxed.not_row H4 (by decide) HO)).other (B' := w.heap.size + 1 + 1 + 1) (by omega) (Value.slice (some ⟨g', 0, none⟩) (pre.length + 1) cap')
        refine ⟨_, K2, K3, K4, H5'.set _, ?_, ?_, ?_, ?_, ?_⟩
        · rw [List.length_append, List.map_append]
          rw [show List.map Prod.fst [((⟨x0, x1, x2⟩ : S33), xn)] = [⟨x0, x1, x2⟩] from rfl, flatT_snoc]
          exact hown3
        · intro k hk
          rcases hat with hat | hat
          · rw [hat] at hk; exact hn k hk
          · rw [hat] at hk
            cases hk
            rintro (h | h) <;> simp at h <;> omega
        · intro y hy
          rcases List.mem_append.1 hy with hy | hy
          · exact hx y hy
          · rw [List.mem_singleton.1 hy]; exact hn0
        · exact Below.setCell (Below.grown (hB2.alloc (by omega) _) hgrow (by simp; omega) (own_base HO)) (p := ⟨w.heap.size + 1 + 1 + 1, 0, none⟩) (by simp; omega) _
        · have := hgrow.size
          simp at this ⊢
          omega
    case hdone =>
      rintro D xs W hD rfl ⟨v, h2, h3, h4, h5, ho, hn, hx, hB, hz⟩ hK
      have c2 := h2.cell
      have c3 := h3.cell
      have c4 := h4.cell
      have c5 := h5.cell
      have f2 := h2.frozen
      have f3 := h3.frozen
      have f4 := h4.frozen
      have f5 := h5.frozen
      have hl8 := items_len (a0.size + 1) (bl a0) 0
      obtain ⟨i0, hi, hz0, hz1, hz2⟩ := info_parts info33
      have hnew : (W.alloc (Obj.cells #[.int .i64 7, .string ⟨#[]⟩, .int .i64 (a0.size : Int)] 33)).heap[W.heap.size]? = some (.cells #[.int .i64 7, .string ⟨#[]⟩, .int .i64 (a0.size : Int)] 33 (0, 0)) := blk_new W _
      generalize hX : items (a0.size + 1) (bl a0) 0 = xs at *
      gi_wp2_with (first | (gi_at_builtin; refine wpListIn_append_own_at _ rfl _ _ 23 rfl w.heap.size 33 i0 _ 3 32 Tryd.underlying23 hi hz0 hz1 hz2 rfl (by decide) v xs.length (flatT (xs.map Prod.fst)) rfl (ho.alloc _) ⟨W.heap.size, 0, none⟩ 1 1 (cells3 ⟨7, ⟨#[]⟩, (a0.size : Int)⟩) rfl rfl (by simpa [cells3] using World.news_of_block hnew) (by simp [cells3, Value.oneCell']) (by simp only [maxLen]; omega) (by omega) (by simp; omega) ?_; intro v' w1 hown' hgrow _ hat; have H2' := (h2.alloc (Obj.cells #[.int .i64 7, .string ⟨#[]⟩, .int .i64 (a0.size : Int)] 33)).kept hgrow (Boxed.not_row h2 (by decide) ho); have H3' := (h3.alloc (Obj.cells #[.int .i64 7, .string ⟨#[]⟩, .int .i64 (a0.size : Int)] 33)).kept hgrow (Boxed.not_row h3 (by decide) ho); have H4' := (h4.alloc (Obj.cells #[.int .i64 7, .string ⟨#[]⟩, .int .i64 (a0.size : Int)] 33)).kept hgrow (Boxed.not_row h4 (by decide) ho); obtain ⟨g', cap', rfl⟩ := ownsRow_succ hown'; have d2 := H2'.cell; have d3 := H2'.frozen; have d4 := H3'.cell; have d5 := H3'.frozen; have d6 := H4'.cell; have d7 := H4'.frozen))
      have hD6 : w.heap.size + 6 ≤ D := by rw [loopW_size] at hD; exact hD
      have hDv : some D ≠ v.ownBlock := by
        intro h
        obtain ⟨cells, h1⟩ := own_typed ho D h.symm
        rw [hK] at h1
        cases h1
      have hK1 := (hgrow.block D (by simp; have := lt_of_some hK; omega) hDv).trans (blk_alloc hK _)
      have hK2 := (set_other (v := .slice (some ⟨g', 0, none⟩) (xs.length + 1) cap') (p := ⟨w.heap.size, 0, none⟩) (by simp; omega)).trans hK1
      have hK3 := (set_other (v := .int .i64 0) (p := ⟨w.heap.size + 1, 0, none⟩) (by simp; omega)).trans hK2
      have hK4 := (set_other (v := .int .i64 0) (p := ⟨w.heap.size + 1 + 1, 0, none⟩) (by simp; omega)).trans hK3
      have hd : some w.heap.size ≠ some g' := fun e => Boxed.not_row H2' (by decide) hown' (by rw [e]; rfl)
      have hd3 : some (w.heap.size + 1) ≠ some g' := fun e => Boxed.not_row H3' (by decide) hown' (by rw [e]; rfl)
      have hd4 : some (w.heap.size + 1 + 1) ≠ some g' := fun e => Boxed.not_row H4' (by decide) hown' (by rw [e]; rfl)
      have hO4 := own_setCell (p := ⟨w.heap.size + 1 + 1, 0, none⟩) (own_setCell (p := ⟨w.heap.size + 1, 0, none⟩) (own_setCell (p := ⟨w.heap.size, 0, none⟩) hown' hd (.slice (some ⟨g', 0, none⟩) (xs.length + 1) cap')) hd3 (.int .i64 0)) hd4 (.int .i64 0)
      have ht : toksOf a0 = (xs.map Prod.fst ++ [⟨7, ⟨#[]⟩, (a0.size : Int)⟩], 0, 0) := by
        unfold toksOf
        rw [if_neg hs, show a0.data.toList = bl a0 from rfl, hX, finish_ok _ _ _ hx]
        rfl
      refine ⟨by simp, .inl ⟨_, _, rfl, run_takeDeferred hK4, ?_⟩⟩
      refine ⟨_, results_tok (b2 := w.heap.size) (b3 := w.heap.size + 1) (b4 := w.heap.size + 1 + 1) (x2 := .slice (some ⟨g', 0, none⟩) (xs.length + 1) cap') (x3 := .int .i64 0) (x4 := .int .i64 0) rfl rfl rfl ?_ ?_ ?_, ?_⟩
      · exact (World.putObj_heap_other (by omega)).trans (((H2'.set _).other (by omega) _).other (by omega) _)
      · exact (World.putObj_heap_other (by omega)).trans (((H3'.other (by omega) _).set _).other (by omega) _)
      · exact (World.putObj_heap_other (by omega)).trans (((H4'.other (by omega) _).other (by omega) _).set _)
      · rw [ht]
        refine ⟨_, rfl, ?_, ?_⟩
        · rw [List.length_append, List.length_map, flatT_snoc]
          exact ownsRow_putObj hO4 _ hK4 rfl
        · exact below_putObj ((((Below.grown (hB.alloc (by omega) _) hgrow (by simp; omega) (own_base ho)).setCell (p := ⟨w.heap.size, 0, none⟩) (Nat.le_refl _) _).setCell (p := ⟨w.heap.size + 1, 0, none⟩) (by simp) _).setCell (p := ⟨w.heap.size + 1 + 1, 0, none⟩) (by simp; omega) _) (by omega)
    case hstop =>
      rintro D c pre W hD hpre ⟨rfl, pre', x, rfl, hx, h0, h2, h3, h4, hB, hz⟩ hK
      have hD6 : w.heap.size + 6 ≤ D := by rw [loopW_size] at hD; exact hD
      gi_wp2
      obtain ⟨rest_, hrest⟩ := hpre
      have ht : toksOf a0 = ([], x.1.f2, 4) := by
        unfold toksOf
        rw [if_neg hs, show a0.data.toList = bl a0 from rfl, ← hrest, List.append_assoc]
        exact finish_bad _ x h0 pre' _ rest_ hx
      refine ⟨by simp, .inl ⟨_, _, rfl, run_takeDeferred hK, ?_⟩⟩
      refine ⟨_, results_tok (b2 := w.heap.size) (b3 := w.heap.size + 1) (b4 := w.heap.size + 1 + 1) (x2 := .slice none 0 0) (x3 := .int .i64 x.1.f2) (x4 := .int .i64 4) rfl rfl rfl ?_ ?_ ?_, ?_⟩
      · exact (World.putObj_heap_other (by omega)).trans h2
      · exact (World.putObj_heap_other (by omega)).trans h3
      · exact (World.putObj_heap_other (by omega)).trans h4
      · rw [ht]
        exact ⟨_, rfl, own_nil _ _ _ _, below_putObj hB (by omega)⟩
/-- **lexis.Tokens, in the printed form.** -/
theorem lexis_Tokens.calls (a0 : ByteArray) (r1 : List S33) (r2 : Int) (r3 : Int) (w : World) (hG : LaidW w) (h : lexis_Tokens.f a0 = some (r1, r2, r3)) :
    Calls Tryd.prog 13 #[.string a0] w fun e w' => ∃ v0_ : Value, e = .returned (.tuple #[v0_, .int .i64 r2, .int .i64 r3]) ∧ Kd.R k33 33 w' w.heap.size (fun _ => True) v0_ r1 ∧ Below w.heap.size w w' := by
  have h' : toksOf a0 = (r1, r2, r3) := Option.some.inj h
  refine ((callsIn_wide (n := 3)).1 (lexis_Tokens.calls_in a0 w hG)).mono ?_
  rintro e w' ⟨v0, he, ho, hB⟩
  rw [h'] at he ho
  exact ⟨v0, he, R_flat ho, hB⟩
end Go.Proofs.YtlbaojjnilnhlaaDoor.PA
