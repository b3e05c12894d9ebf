/-
  The tokens of a source that is two sources with a line feed between them. Plain Lean.
-/
import Derived.Test.YtlbaojjnilnhlaaDoorIter
import Derived.Test.YtlbaojjnilnhlaaDoorExtT
namespace Go.Proofs.YtlbaojjnilnhlaaDoor.PA
open Go Go.RowKit
set_option linter.unusedVariables false
set_option linter.unusedSimpArgs false

theorem head_glue (r t : List UInt8) (c : UInt8) (h : c ≠ 10) : ((r ++ 10 :: t).head? = some c) ↔ (r.head? = some c) := by
  cases r with
  | nil => simp; exact fun e => h e.symm
  | cons d r => simp
theorem tw_glue (p : UInt8 → Bool) (hp : p 10 = false) (t : List UInt8) : ∀ r : List UInt8, (r ++ 10 :: t).takeWhile p = r.takeWhile p := by
  intro r
  induction r with
  | nil => simp [List.takeWhile_cons, hp]
  | cons c r ih => simp only [List.cons_append, List.takeWhile_cons, ih]
theorem skip_glue (t : List UInt8) : ∀ (l : List UInt8) (b : Bool), skipN b (l ++ 10 :: t) = if skipN b l = l.length then l.length + 1 + skipN false t else skipN b l := by
  intro l
  induction l with
  | nil =>
    intro b
    cases b with
    | false => show (if blankB 10 then skipN false t + 1 else _) = _; rw [if_pos (by decide)]; simp [skipN]; omega
    | true => show skipN (10 != 10) t + 1 = _; rw [show ((10 : UInt8) != 10) = false by decide]; simp [skipN]; omega
  | cons c r ih =>
    intro b
    cases b with
    | true =>
      show skipN (c != 10) (r ++ 10 :: t) + 1 = if skipN (c != 10) r + 1 = r.length + 1 then r.length + 1 + 1 + skipN false t else skipN (c != 10) r + 1
      rw [ih]
      split <;> split <;> omega
    | false =>
      show (if blankB c then skipN false (r ++ 10 :: t) + 1 else if c == 47 && (r ++ 10 :: t).head? == some 47 then skipN true (r ++ 10 :: t) + 1 else 0) =
        if (if blankB c then skipN false r + 1 else if c == 47 && r.head? == some 47 then skipN true r + 1 else 0) = r.length + 1 then r.length + 1 + 1 + skipN false t
        else (if blankB c then skipN false r + 1 else if c == 47 && r.head? == some 47 then skipN true r + 1 else 0)
      have hh : ((r ++ 10 :: t).head? == some 47) = (r.head? == some 47) := by
        have := head_glue r t 47 (by decide)
        by_cases h : r.head? = some 47
        · rw [h, this.2 h]
        · have h' : ¬ (r ++ 10 :: t).head? = some 47 := fun e => h (this.1 e)
          rw [beq_eq_false_iff_ne.2 h, beq_eq_false_iff_ne.2 h']
      rw [hh]
      by_cases hb : blankB c = true
      · rw [if_pos hb, if_pos hb, ih]
        split <;> split <;> omega
      · rw [if_neg hb, if_neg hb]
        by_cases h4 : (c == 47 && r.head? == some 47) = true
        · rw [if_pos h4, if_pos h4, ih]
          split <;> split <;> omega
        · rw [if_neg h4, if_neg h4, if_neg (by omega)]
theorem sign_two (c : UInt8) : isSignB [c, 10] = false := by
  unfold isSignB signsL
  simp
theorem tokL_glue (t l : List UInt8) (hl : l ≠ []) : tokL (l ++ 10 :: t) = tokL l := by
  cases l with
  | nil => exact absurd rfl hl
  | cons c r =>
    have hd : digitB 10 = false := by decide
    have hp : partB 10 = false := by decide
    have ha : alnumB 10 = false := by decide
    have h1 : ((r ++ 10 :: t).head? == some 35) = (r.head? == some 35) := by
      have := head_glue r t 35 (by decide)
      by_cases h : r.head? = some 35
      · rw [h, this.2 h]
      · have h' : ¬ (r ++ 10 :: t).head? = some 35 := fun e => h (this.1 e)
        rw [beq_eq_false_iff_ne.2 h, beq_eq_false_iff_ne.2 h']
    have h2 : (c :: r ++ 10 :: t).takeWhile partB = (c :: r).takeWhile partB := tw_glue partB hp t (c :: r)
    have h3 : (c :: r ++ 10 :: t).takeWhile digitB = (c :: r).takeWhile digitB := tw_glue digitB hd t (c :: r)
    have h4 : (r ++ 10 :: t).takeWhile alnumB = r.takeWhile alnumB := tw_glue alnumB ha t r
    cases r with
    | nil =>
      have e1 : ((10 :: t : List UInt8).head? == some 35) = false := by rw [List.head?_cons]; decide
      have e0 : (([] : List UInt8).head? == some 35) = false := by decide
      have s1 : (c :: 10 :: t).take 2 = [c, 10] := rfl
      have s2 : ([c] : List UInt8).take 2 = [c] := rfl
      unfold tokL
      simp only [List.cons_append, List.nil_append] at h2 h3 h4 ⊢
      simp only [e1, e0, h2, h3, h4, s1, s2, sign_two, Bool.and_false, Bool.false_eq_true, if_false]
      cases isSignB [c] <;> simp
    | cons d r =>
      have h5 : ((d :: r ++ 10 :: t).drop 1).takeWhile digitB = ((d :: r).drop 1).takeWhile digitB := tw_glue digitB hd t r
      unfold tokL
      simp only [List.cons_append] at h1 h2 h3 h4 h5 ⊢
      have s1 : (c :: d :: (r ++ 10 :: t)).take 2 = [c, d] := rfl
      have s2 : (c :: d :: r).take 2 = [c, d] := rfl
      rw [h1, h2, h3, h4, h5, s1, s2]
theorem items_fuel : ∀ (f f' : Nat) (l : List UInt8) (a : Int), l.length < f → l.length < f' → items f l a = items f' l a := by
  intro f
  induction f with
  | zero => intro f' l a h; omega
  | succ f ih =>
    intro f' l a h h'
    obtain ⟨f', rfl⟩ : ∃ m, f' = m + 1 := ⟨f' - 1, by omega⟩
    unfold items
    by_cases h1 : (l.drop (skipN false l)).isEmpty
    · rw [if_pos h1, if_pos h1]
    · rw [if_neg h1, if_neg h1]
      by_cases h2 : (tokL (l.drop (skipN false l))).2.isEmpty
      · rw [if_pos h2, if_pos h2]
      · rw [if_neg h2, if_neg h2]
        have hp : 0 < (tokL (l.drop (skipN false l))).2.length := by
          cases hx : (tokL (l.drop (skipN false l))).2 with
          | nil => rw [hx] at h2; exact absurd rfl h2
          | cons => simp
        have hn : 0 < l.length := by
          cases l with
          | nil => exact absurd (by simp) h1
          | cons => simp
        have hlen : ((l.drop (skipN false l)).drop (tokL (l.drop (skipN false l))).2.length).length < f := by
          rw [List.length_drop, List.length_drop]; omega
        rw [ih f' _ _ hlen (by rw [List.length_drop, List.length_drop] at *; omega)]
/-- A token that is moved on. -/
def moveI (d : Int) (x : Item) : Item := (⟨x.1.f0, x.1.f1, x.1.f2 + d⟩, x.2)
theorem items_move : ∀ (f : Nat) (l : List UInt8) (a d : Int), items f l (a + d) = (items f l a).map (moveI d) := by
  intro f
  induction f with
  | zero => intro l a d; rfl
  | succ f ih =>
    intro l a d
    unfold items
    by_cases h1 : (l.drop (skipN false l)).isEmpty
    · rw [if_pos h1, if_pos h1]; rfl
    · rw [if_neg h1, if_neg h1]
      by_cases h2 : (tokL (l.drop (skipN false l))).2.isEmpty
      · rw [if_pos h2, if_pos h2]
        show [_] = [_]
        simp only [moveI]
        rw [show a + d + (skipN false l : Int) = a + (skipN false l : Int) + d by omega]
      · rw [if_neg h2, if_neg h2, List.map_cons, ← ih]
        simp only [moveI]
        rw [show a + d + (skipN false l : Int) = a + (skipN false l : Int) + d by omega, show a + (skipN false l : Int) + d + ((tokL (l.drop (skipN false l))).2.length : Int) = a + (skipN false l : Int) + ((tokL (l.drop (skipN false l))).2.length : Int) + d by omega]
theorem items_glue (t : List UInt8) : ∀ (f F : Nat) (l : List UInt8) (a : Int), l.length < f → l.length + 1 + t.length < F →
    items F (l ++ 10 :: t) a = if ∀ x ∈ items f l a, x.2 ≠ 0 then items f l a ++ items (t.length + 1) t (a + l.length + 1) else items f l a := by
  intro f
  induction f with
  | zero => intro F l a h; omega
  | succ f ih =>
    intro F l a h hF
    obtain ⟨F, rfl⟩ : ∃ m, F = m + 1 := ⟨F - 1, by omega⟩
    have hs := skip_glue t l false
    have hle := skipN_le l false
    by_cases he : skipN false l = l.length
    · rw [if_pos he] at hs
      have h1 : (l.drop (skipN false l)).isEmpty := by rw [he, List.drop_length]; rfl
      have hi : items (f + 1) l a = [] := by unfold items; rw [if_pos h1]
      rw [hi, if_pos (by simp), List.nil_append]
      have hd : (l ++ 10 :: t).drop (skipN false (l ++ 10 :: t)) = t.drop (skipN false t) := by
        rw [hs, show l.length + 1 + skipN false t = l.length + (1 + skipN false t) by omega, ← List.drop_drop, List.drop_left, Nat.add_comm 1, List.drop_succ_cons]
      have hc : ((skipN false (l ++ 10 :: t) : Nat) : Int) + a = (skipN false t : Int) + (a + l.length + 1) := by rw [hs]; omega
      have : items (F + 1) (l ++ 10 :: t) a = items (F + 1) t (a + l.length + 1) := by
        unfold items
        rw [hd, show a + ((skipN false (l ++ 10 :: t) : Nat) : Int) = a + l.length + 1 + (skipN false t : Int) by omega]
      rw [this]
      exact items_fuel _ _ _ _ (by omega) (by omega)
    · rw [if_neg he] at hs
      have hlt : skipN false l < l.length := by omega
      have hd : (l ++ 10 :: t).drop (skipN false (l ++ 10 :: t)) = l.drop (skipN false l) ++ 10 :: t := by
        rw [hs, List.drop_append_of_le_length hle]
      have hne : l.drop (skipN false l) ≠ [] := by
        intro e
        have := congrArg List.length e
        rw [List.length_drop] at this
        simp at this
        omega
      have ht := tokL_glue t (l.drop (skipN false l)) hne
      have hu : items (F + 1) (l ++ 10 :: t) a = if (tokL (l.drop (skipN false l))).2.isEmpty then ([(⟨0, ⟨#[]⟩, a + skipN false l⟩, 0)] : List Item)
          else ((⟨(tokL (l.drop (skipN false l))).1, ⟨(tokL (l.drop (skipN false l))).2.toArray⟩, a + skipN false l⟩, (tokL (l.drop (skipN false l))).2.length) : Item)
            :: items F ((l.drop (skipN false l) ++ 10 :: t).drop (tokL (l.drop (skipN false l))).2.length) (a + skipN false l + (tokL (l.drop (skipN false l))).2.length) := by
        conv => lhs; unfold items
        rw [hd, ht, hs, if_neg (by simp)]
      have hv : items (f + 1) l a = if (tokL (l.drop (skipN false l))).2.isEmpty then ([(⟨0, ⟨#[]⟩, a + skipN false l⟩, 0)] : List Item)
          else ((⟨(tokL (l.drop (skipN false l))).1, ⟨(tokL (l.drop (skipN false l))).2.toArray⟩, a + skipN false l⟩, (tokL (l.drop (skipN false l))).2.length) : Item)
            :: items f ((l.drop (skipN false l)).drop (tokL (l.drop (skipN false l))).2.length) (a + skipN false l + (tokL (l.drop (skipN false l))).2.length) := by
        conv => lhs; unfold items
        rw [if_neg (by simpa using hne)]
      rw [hu, hv]
      by_cases h2 : (tokL (l.drop (skipN false l))).2.isEmpty
      · rw [if_pos h2, if_pos h2, if_neg (by intro h'; exact h' _ (List.mem_singleton.2 rfl) rfl)]
      · rw [if_neg h2, if_neg h2]
        have hp : 0 < (tokL (l.drop (skipN false l))).2.length := by
          cases hx : (tokL (l.drop (skipN false l))).2 with
          | nil => rw [hx] at h2; exact absurd rfl h2
          | cons => simp
        have hle2 := tokL_len (l.drop (skipN false l))
        rw [List.drop_append_of_le_length hle2]
        have hlen : ((l.drop (skipN false l)).drop (tokL (l.drop (skipN false l))).2.length).length = l.length - skipN false l - (tokL (l.drop (skipN false l))).2.length := by
          rw [List.length_drop, List.length_drop]
        rw [List.length_drop] at hle2
        rw [ih F _ _ (by omega) (by omega)]
        generalize hT : tokL (l.drop (skipN false l)) = T at *
        have hpos : a + (skipN false l : Int) + (T.2.length : Int) + (((l.drop (skipN false l)).drop T.2.length).length : Int) + 1 = a + (l.length : Int) + 1 := by omega
        rw [hpos]
        by_cases h3 : ∀ x ∈ items f ((l.drop (skipN false l)).drop T.2.length) (a + (skipN false l : Int) + (T.2.length : Int)), x.2 ≠ 0
        · rw [if_pos h3, if_pos (by
            intro x hx
            rcases List.mem_cons.1 hx with rfl | hx
            · show ((T.2.length : Nat) : Int) ≠ 0; omega
            · exact h3 x hx)]
          rfl
        · rw [if_neg h3, if_neg (fun h' => h3 fun x hx => h' x (List.mem_cons_of_mem _ hx))]
theorem finish_any (size size' : Int) : ∀ (xs ys : List Item) (acc acc'), ¬ (∀ x ∈ xs, x.2 ≠ 0) → finish size xs acc = finish size' (xs ++ ys) acc' := by
  intro xs
  induction xs with
  | nil => intro ys acc acc' h; exact absurd (by simp) h
  | cons x xs ih =>
    intro ys acc acc' h
    obtain ⟨t, n⟩ := x
    show (if n = 0 then ([], t.f2, 4) else finish size xs (acc ++ [t])) = (if n = 0 then ([], t.f2, 4) else finish size' (xs ++ ys) (acc' ++ [t]))
    by_cases hn : n = 0
    · rw [if_pos hn, if_pos hn]
    · rw [if_neg hn, if_neg hn]
      exact ih _ _ _ (fun h' => h (by intro y hy; rcases List.mem_cons.1 hy with rfl | hy; exact hn; exact h' y hy))
theorem finish_pre (size : Int) : ∀ (xs ys : List Item) (acc), (∀ x ∈ xs, x.2 ≠ 0) → finish size (xs ++ ys) acc = finish size ys (acc ++ xs.map Prod.fst) := by
  intro xs
  induction xs with
  | nil => intro ys acc h; simp
  | cons x xs ih =>
    intro ys acc h
    obtain ⟨t, n⟩ := x
    show (if n = 0 then ([], t.f2, 4) else finish size (xs ++ ys) (acc ++ [t])) = _
    rw [if_neg (h _ List.mem_cons_self), ih ys _ (fun y hy => h y (List.mem_cons_of_mem _ hy))]
    simp
theorem finish_fst (size : Int) : ∀ (xs : List Item) (acc), ¬ (∀ x ∈ xs, x.2 ≠ 0) → (finish size xs acc).1 = [] ∧ (finish size xs acc).2.2 = 4 := by
  intro xs
  induction xs with
  | nil => intro acc h; exact absurd (by simp) h
  | cons x xs ih =>
    intro acc h
    obtain ⟨t, n⟩ := x
    unfold finish
    by_cases hn : n = 0
    · rw [if_pos hn]; exact ⟨rfl, rfl⟩
    · rw [if_neg hn]
      exact ih _ (fun h' => h (by intro y hy; rcases List.mem_cons.1 hy with rfl | hy; exact hn; exact h' y hy))
theorem finish_move (size size' d : Int) : ∀ (xs : List Item) (acc acc'), ¬ (∀ x ∈ xs, x.2 ≠ 0) → finish size' (xs.map (moveI d)) acc' = ([], (finish size xs acc).2.1 + d, 4) := by
  intro xs
  induction xs with
  | nil => intro acc acc' h; exact absurd (by simp) h
  | cons x xs ih =>
    intro acc acc' h
    obtain ⟨t, n⟩ := x
    show (if n = 0 then ([], t.f2 + d, 4) else finish size' (xs.map (moveI d)) (acc' ++ [_])) = ([], (if n = 0 then ([], t.f2, 4) else finish size xs (acc ++ [t])).2.1 + d, 4)
    by_cases hn : n = 0
    · rw [if_pos hn, if_pos hn]
    · rw [if_neg hn, if_neg hn]
      exact ih _ _ (fun h' => h (by intro y hy; rcases List.mem_cons.1 hy with rfl | hy; exact hn; exact h' y hy))
theorem move_ok (d : Int) (xs : List Item) : (∀ x ∈ xs.map (moveI d), x.2 ≠ 0) ↔ ∀ x ∈ xs, x.2 ≠ 0 := by
  simp only [List.mem_map, forall_exists_index, and_imp, forall_apply_eq_imp_iff₂, moveI]
/-- A comment alone with its line feed. -/
theorem skip_comment : ∀ (cm : List UInt8), 10 ∉ cm → skipN true (cm ++ [10]) = cm.length + 1 := by
  intro cm
  induction cm with
  | nil => intro _; decide
  | cons c cm ih =>
    intro h
    show skipN (c != 10) (cm ++ [10]) + 1 = _
    have hc : (c != 10) = true := by
      have : c ≠ 10 := fun e => h (by rw [e]; exact List.mem_cons_self)
      simpa using this
    rw [hc, ih (fun h' => h (List.mem_cons_of_mem _ h'))]
    rfl
theorem items_comment (cm : List UInt8) (h : 10 ∉ cm) (f : Nat) (a : Int) : items (f + 1) (47 :: 47 :: cm ++ [10]) a = [] := by
  have e : skipN false (47 :: 47 :: cm ++ [10]) = (47 :: 47 :: cm ++ [10]).length := by
    show (if blankB 47 then _ else if ((47 : UInt8) == 47 && (47 :: cm ++ [10]).head? == some 47) then skipN true (47 :: cm ++ [10]) + 1 else 0) = _
    rw [if_neg (by decide), if_pos (by simp), show skipN true (47 :: cm ++ [10]) = skipN ((47 : UInt8) != 10) (cm ++ [10]) + 1 from rfl, show ((47 : UInt8) != 10) = true by decide, skip_comment cm h]
    simp
  unfold items
  rw [if_pos (by rw [e, List.drop_length]; rfl)]
end Go.Proofs.YtlbaojjnilnhlaaDoor.PA
