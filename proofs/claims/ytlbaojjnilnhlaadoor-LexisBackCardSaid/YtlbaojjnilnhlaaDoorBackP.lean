/-
  The plain law of LexisBack: the texts of tokens with blanks between have these tokens again.
-/
import Derived.Test.YtlbaojjnilnhlaaDoorJoins
import Derived.Test.YtlbaojjnilnhlaaDoorExtT
namespace Go.Proofs.YtlbaojjnilnhlaaDoor.PA
open Go Go.RowKit Go.Proofs.YtlbaojjnilnhlaaDoorW.PrintWords Go.Proofs.YtlbaojjnilnhlaaDoorW.PrintLast Go.Proofs.YtlbaojjnilnhlaaDoorW.PrintMore
set_option linter.unusedVariables false
set_option linter.unusedSimpArgs false

/-- What may stand behind a token's text. -/
def Suf (u : List UInt8) : Prop := u = [] ∨ ∃ r, u = 32 :: r
theorem tw_suf (p : UInt8 → Bool) (hp : p 32 = false) (u : List UInt8) (hu : Suf u) : ∀ l : List UInt8, (l.takeWhile p ++ u).takeWhile p = l.takeWhile p := by
  have h0 : u.takeWhile p = [] := by
    rcases hu with rfl | ⟨r, rfl⟩
    · rfl
    · rw [List.takeWhile_cons, hp]; rfl
  intro l
  induction l with
  | nil => exact h0
  | cons c l ih =>
    rw [List.takeWhile_cons]
    split
    · rename_i h; rw [List.cons_append, List.takeWhile_cons, if_pos h, ih]
    · exact h0
theorem tw_all (p : UInt8 → Bool) (l : List UInt8) : ∀ c ∈ l.takeWhile p, p c = true := by
  induction l with
  | nil => intro c h; exact absurd h (by simp)
  | cons d l ih =>
    intro c h
    rw [List.takeWhile_cons] at h
    split at h
    · rename_i hd
      rcases List.mem_cons.1 h with rfl | h
      · exact hd
      · exact ih c h
    · exact absurd h (by simp)
theorem suf_head (u : List UInt8) (hu : Suf u) (c : UInt8) (hc : c ≠ 32) : u.head? ≠ some c := by
  rcases hu with rfl | ⟨r, rfl⟩
  · simp
  · simp; exact fun h => hc h.symm
theorem sign_facts (t : List UInt8) (h : isSignB t = true) : t.length ≤ 2 ∧ ∀ c r, t = c :: r → blankB c = false ∧ (c = 47 → r = []) := by
  have ha : (signsL.all fun t => decide (t.length ≤ 2) && (match t with | [] => true | c :: r => !blankB c && (c != 47 || r.isEmpty))) = true := by decide +kernel
  unfold isSignB at h
  have hm : t ∈ signsL := by simpa using h
  have := List.all_eq_true.1 ha t hm
  simp only [Bool.and_eq_true, decide_eq_true_eq] at this
  refine ⟨this.1, fun c r e => ?_⟩
  subst e
  have h2 := this.2
  simp only [Bool.and_eq_true, Bool.or_eq_true, Bool.not_eq_true', bne_iff_ne, ne_eq, List.isEmpty_iff] at h2
  exact ⟨h2.1, fun hc => h2.2.resolve_left (fun h => h hc)⟩
theorem sign_32 (c : UInt8) : isSignB [c, 32] = false := by
  unfold isSignB signsL
  simp
theorem blank_no (c : UInt8) (h : 33 ≤ c.toNat) : blankB c = false := by
  unfold blankB
  have h9 : c ≠ 9 := fun e => by rw [e] at h; exact absurd h (by decide)
  have h10 : c ≠ 10 := fun e => by rw [e] at h; exact absurd h (by decide)
  have h13 : c ≠ 13 := fun e => by rw [e] at h; exact absurd h (by decide)
  have h32 : c ≠ 32 := fun e => by rw [e] at h; exact absurd h (by decide)
  simp [h9, h10, h13, h32]
/-- A token's text is read again, and nothing of it is passed over. -/
def Again (k : Int) (t : List UInt8) : Prop := ∀ u, Suf u → tokL (t ++ u) = (k, t) ∧ skipN false (t ++ u) = 0
theorem skip_zero (c : UInt8) (r : List UInt8) (hb : blankB c = false) (h : ¬ (c = 47 ∧ r.head? = some 47)) : skipN false (c :: r) = 0 := by
  show (if blankB c then skipN false r + 1 else if c == 47 && r.head? == some 47 then skipN true r + 1 else 0) = 0
  rw [hb, if_neg (by decide), if_neg (by simpa using h)]
theorem sign_again (c : UInt8) (h1 : letterB c = false) (h2 : digitB c = false) (h3 : c ≠ 37) (r : List UInt8) (hs : isSignB (c :: r) = true) : Again 4 (c :: r) := by
  intro u hu
  obtain ⟨hl, hf⟩ := sign_facts _ hs
  obtain ⟨hb, h47⟩ := hf c r rfl
  constructor
  · rw [List.cons_append, tokL_sign c (r ++ u) h1 h2 h3]
    unfold signT
    match r, hl, hs with
    | [], _, hs =>
      rcases hu with rfl | ⟨q, rfl⟩
      · show (if isSignB [c] then _ else _) = _
        rw [if_pos hs]; rfl
      · show (if isSignB [c, 32] then _ else if isSignB [c] then _ else _) = _
        rw [sign_32, if_neg (by decide), if_pos hs]; rfl
    | [d], _, hs =>
      show (if isSignB [c, d] then _ else _) = _
      rw [if_pos hs]; rfl
    | _ :: _ :: _, hl, _ => simp at hl
  · rw [List.cons_append]
    refine skip_zero c _ hb ?_
    rintro ⟨rfl, hh⟩
    rw [h47 rfl, List.nil_append] at hh
    exact suf_head u hu 47 (by decide) hh
theorem tok_again (l : List UInt8) (h : (tokL l).2 ≠ []) : Again (tokL l).1 (tokL l).2 := by
  cases l with
  | nil => exact absurd rfl h
  | cons c r =>
    by_cases ht : c = 116 ∧ r.head? = some 35
    · obtain ⟨rfl, hh⟩ := ht
      obtain ⟨r, rfl⟩ : ∃ r', r = 35 :: r' := by
        cases r with
        | nil => cases hh
        | cons d r' => exact ⟨r', by rw [Option.some.inj hh]⟩
      rw [tokL_time] at h ⊢
      unfold timeT at h ⊢
      by_cases hT : isTimeB (116 :: 35 :: r.takeWhile digitB) = true
      · rw [if_pos hT]
        intro u hu
        constructor
        · show tokL (116 :: 35 :: (r.takeWhile digitB ++ u)) = _
          rw [tokL_time]
          unfold timeT
          rw [tw_suf digitB (by decide) u hu, if_pos hT]
        · exact skip_zero _ _ (by decide) (by rintro ⟨h, _⟩; cases h)
      · rw [if_neg hT] at h; exact absurd rfl h
    · by_cases hl : letterB c = true
      · rw [tokL_word c r ht hl] at h ⊢
        have hp : partB c = true := by unfold partB; rw [hl]; rfl
        have hw : (c :: r).takeWhile partB = c :: r.takeWhile partB := by rw [List.takeWhile_cons, if_pos hp]
        have hsk : ∀ u, skipN false ((c :: r).takeWhile partB ++ u) = 0 := fun u => by
          rw [hw, List.cons_append]
          have := (letter_iff c).1 hl
          refine skip_zero _ _ (blank_no c (by omega)) ?_
          rintro ⟨rfl, _⟩
          exact absurd hl (by decide)
        have hre : ∀ u, Suf u → tokL ((c :: r).takeWhile partB ++ u) = wordT ((c :: r).takeWhile partB ++ u) := fun u hu => by
          rw [hw, List.cons_append]
          refine tokL_word c _ ?_ hl
          rintro ⟨rfl, hh⟩
          cases hq : r.takeWhile partB with
          | nil => rw [hq, List.nil_append] at hh; exact suf_head u hu 35 (by decide) hh
          | cons d q =>
            rw [hq, List.cons_append] at hh
            have hd := tw_all partB r d (by rw [hq]; exact List.mem_cons_self)
            obtain rfl : d = 35 := Option.some.inj hh
            exact absurd hd (by decide)
        unfold wordT at h ⊢
        by_cases h1 : isWordB ((c :: r).takeWhile partB) = true
        · rw [if_pos h1]
          intro u hu
          refine ⟨?_, hsk u⟩
          rw [hre u hu]
          unfold wordT
          rw [tw_suf partB (by decide) u hu, if_pos h1]
        · rw [if_neg h1] at h ⊢
          by_cases h2 : isNameB ((c :: r).takeWhile partB) = true
          · rw [if_pos h2]
            intro u hu
            refine ⟨?_, hsk u⟩
            rw [hre u hu]
            unfold wordT
            rw [tw_suf partB (by decide) u hu, if_neg h1, if_pos h2]
          · rw [if_neg h2] at h; exact absurd rfl h
      · have hl' : letterB c = false := by simpa using hl
        by_cases hd : digitB c = true
        · rw [tokL_num c r hl' hd] at h ⊢
          have hw : (c :: r).takeWhile digitB = c :: r.takeWhile digitB := by rw [List.takeWhile_cons, if_pos hd]
          unfold numT at h ⊢
          by_cases h1 : isNumB ((c :: r).takeWhile digitB) 2147483647 = true
          · rw [if_pos h1]
            intro u hu
            constructor
            · have : tokL ((c :: r).takeWhile digitB ++ u) = numT ((c :: r).takeWhile digitB ++ u) := by rw [hw, List.cons_append]; exact tokL_num c _ hl' hd
              rw [this]
              unfold numT
              rw [tw_suf digitB (by decide) u hu, if_pos h1]
            · rw [hw, List.cons_append]
              have := (digit_iff c).1 hd
              refine skip_zero _ _ (blank_no c (by omega)) ?_
              rintro ⟨rfl, _⟩
              exact absurd hd (by decide)
          · rw [if_neg h1] at h; exact absurd rfl h
        · have hd' : digitB c = false := by simpa using hd
          by_cases hc : c = 37
          · subst hc
            rw [tokL_addr] at h ⊢
            unfold addrT at h ⊢
            by_cases h1 : isAddrB (37 :: r.takeWhile alnumB) = true
            · rw [if_pos h1]
              intro u hu
              constructor
              · show tokL (37 :: (r.takeWhile alnumB ++ u)) = _
                rw [tokL_addr]
                unfold addrT
                rw [tw_suf alnumB (by decide) u hu, if_pos h1]
              · exact skip_zero _ _ (by decide) (by rintro ⟨h, _⟩; cases h)
            · rw [if_neg h1] at h; exact absurd rfl h
          · rw [tokL_sign c r hl' hd' hc] at h ⊢
            unfold signT at h ⊢
            by_cases h1 : isSignB ((c :: r).take 2) = true
            · rw [if_pos h1]
              exact sign_again c hl' hd' hc (r.take 1) h1
            · rw [if_neg h1] at h ⊢
              by_cases h2 : isSignB ((c :: r).take 1) = true
              · rw [if_pos h2]
                exact sign_again c hl' hd' hc [] h2
              · rw [if_neg h2] at h; exact absurd rfl h
theorem items_again : ∀ (f : Nat) (l : List UInt8) (a : Int) (x : Item), x ∈ items f l a → x.2 ≠ 0 → Again x.1.f0 (bl x.1.f1) ∧ bl x.1.f1 ≠ [] ∧ (bl x.1.f1).length ≤ l.length := by
  intro f
  induction f with
  | zero => intro l a x h; exact absurd h (by simp [items])
  | succ f ih =>
    intro l a x h hx
    unfold items at h
    by_cases h1 : (l.drop (skipN false l)).isEmpty
    · rw [if_pos h1] at h; exact absurd h (by simp)
    · rw [if_neg h1] at h
      by_cases h2 : (tokL (l.drop (skipN false l))).2.isEmpty
      · rw [if_pos h2] at h
        obtain rfl := List.mem_singleton.1 h
        exact absurd rfl hx
      · rw [if_neg h2] at h
        rcases List.mem_cons.1 h with rfl | h
        · have hne : (tokL (l.drop (skipN false l))).2 ≠ [] := by simpa using h2
          show Again (tokL (l.drop (skipN false l))).1 (bl ⟨(tokL (l.drop (skipN false l))).2.toArray⟩) ∧ bl ⟨(tokL (l.drop (skipN false l))).2.toArray⟩ ≠ [] ∧ (bl ⟨(tokL (l.drop (skipN false l))).2.toArray⟩).length ≤ l.length
          rw [mk_toList]
          have h3 := tokL_len (l.drop (skipN false l))
          rw [List.length_drop] at h3
          exact ⟨tok_again _ hne, hne, by omega⟩
        · obtain ⟨q1, q2, q3⟩ := ih _ _ x h hx
          rw [List.length_drop, List.length_drop] at q3
          exact ⟨q1, q2, by omega⟩
/-- The texts with blanks between. -/
def J : List S33 → List UInt8
  | [] => []
  | x :: r => bl x.f1 ++ (if r.isEmpty then [] else 32 :: J r)
theorem J_join : ∀ X : List S33, Lib.join ((X.map (·.f1)).map bl) [32] = J X := by
  intro X
  cases X with
  | nil => rfl
  | cons x r =>
    induction r generalizing x with
    | nil => show Lib.join [bl x.f1] [32] = _; rw [Lib.join_one]; simp [J]
    | cons y r ih =>
      have h := ih y
      show Lib.join (bl x.f1 :: bl y.f1 :: (r.map (·.f1)).map bl) [32] = bl x.f1 ++ (32 :: J (y :: r))
      rw [Lib.join_cons]
      rw [show J (y :: r) = Lib.join (bl y.f1 :: (r.map (·.f1)).map bl) [32] from h.symm, Lib.join_cons]
      simp [Lib.joinTail]
theorem items_J : ∀ (X : List S33), (∀ x ∈ X, Again x.f0 (bl x.f1) ∧ bl x.f1 ≠ []) → ∀ (f : Nat) (a : Int), (J X).length < f →
    ∃ Y : List Item, items f (J X) a = Y ∧ Y.map (fun y => (y.1.f0, y.1.f1)) = X.map (fun x => (x.f0, x.f1)) ∧ ∀ y ∈ Y, y.2 ≠ 0 := by
  intro X
  induction X with
  | nil =>
    intro _ f a hf
    obtain ⟨f, rfl⟩ : ∃ m, f = m + 1 := ⟨f - 1, by omega⟩
    exact ⟨[], rfl, rfl, by simp⟩
  | cons x r ih =>
    intro hX f a hf
    obtain ⟨f, rfl⟩ : ∃ m, f = m + 1 := ⟨f - 1, by omega⟩
    obtain ⟨hA, hne⟩ := hX x List.mem_cons_self
    have hu : Suf (if r.isEmpty then [] else 32 :: J r) := by
      by_cases h : r.isEmpty
      · rw [if_pos h]; exact .inl rfl
      · rw [if_neg h]; exact .inr ⟨_, rfl⟩
    obtain ⟨h1, h2⟩ := hA _ hu
    have hlen : (J (x :: r)).length = (bl x.f1).length + (if r.isEmpty then [] else 32 :: J r : List UInt8).length := by show (bl x.f1 ++ (if r.isEmpty then [] else 32 :: J r)).length = _; rw [List.length_append]
    have hp : 0 < (bl x.f1).length := List.length_pos_iff.2 hne
    have hit : items (f + 1) (J (x :: r)) a = (⟨x.f0, ⟨(bl x.f1).toArray⟩, a + (0 : Nat)⟩, ((bl x.f1).length : Int)) :: items f (if r.isEmpty then [] else 32 :: J r) (a + (0 : Nat) + (bl x.f1).length) := by
      show items (f + 1) (bl x.f1 ++ (if r.isEmpty then [] else 32 :: J r)) a = _
      conv => lhs; unfold items
      rw [h2, List.drop_zero, h1, if_neg (by simp [hne]), if_neg (by simpa using hne), List.drop_left]
    have hxx : (⟨(bl x.f1).toArray⟩ : ByteArray) = x.f1 := mk_bl _
    rw [hxx] at hit
    by_cases h : r.isEmpty
    · have hr : r = [] := by simpa using h
      subst hr
      rw [if_pos (show ([] : List S33).isEmpty = true from rfl)] at hit
      have hnil : items f [] (a + (0 : Nat) + (bl x.f1).length) = [] := by cases f <;> rfl
      rw [hnil] at hit
      refine ⟨_, hit, rfl, fun y hy => ?_⟩
      obtain rfl := List.mem_singleton.1 hy
      show ((bl x.f1).length : Int) ≠ 0
      omega
    · rw [if_neg h] at hit hlen
      rw [List.length_cons] at hlen
      obtain ⟨f, rfl⟩ : ∃ m, f = m + 1 := ⟨f - 1, by omega⟩
      have hbl : items (f + 1) (32 :: J r) (a + (0 : Nat) + (bl x.f1).length) = items (f + 1) (J r) (a + (0 : Nat) + (bl x.f1).length + 1) := by
        have hs : skipN false (32 :: J r) = skipN false (J r) + 1 := rfl
        unfold items
        rw [hs, List.drop_succ_cons, show a + ((0 : Nat) : Int) + ((bl x.f1).length : Int) + ((skipN false (J r) + 1 : Nat) : Int) = a + ((0 : Nat) : Int) + ((bl x.f1).length : Int) + 1 + (skipN false (J r) : Int) by omega]
      rw [hbl] at hit
      obtain ⟨Y, e1, e2, e3⟩ := ih (fun y hy => hX y (List.mem_cons_of_mem _ hy)) (f + 1) (a + (0 : Nat) + (bl x.f1).length + 1) (by omega)
      rw [e1] at hit
      refine ⟨_, hit, by rw [List.map_cons, List.map_cons, e2], fun y hy => ?_⟩
      rcases List.mem_cons.1 hy with rfl | hy
      · show ((bl x.f1).length : Int) ≠ 0
        omega
      · exact e3 y hy
theorem joinG_some : ∀ (X : List S33) (acc : List ByteArray) (n : Int) (a : List ByteArray), Inv acc n → joinG acc n X = some a → a = acc ++ X.map (·.f1) ∧ ∃ m, Inv a m := by
  intro X
  induction X with
  | nil => intro acc n a hi h; obtain rfl := Option.some.inj h; exact ⟨by simp, n, hi⟩
  | cons x r ih =>
    intro acc n a hi h
    unfold joinG at h
    by_cases ht : isTok x = true
    · rw [if_pos ht] at h
      by_cases hc : n + ((x.f1.size : Int) + 1) > 8000
      · rw [if_pos hc] at h; cases h
      · rw [if_neg hc] at h
        obtain ⟨e, m, hm⟩ := ih _ _ a (inv_next hi x.f1 hc) h
        exact ⟨by rw [e]; simp, m, hm⟩
    · rw [if_neg ht] at h; cases h
theorem joinG_all : ∀ (X : List S33) (acc : List ByteArray) (n : Int) (a : List ByteArray), joinG acc n X = some a → ∀ x ∈ X, isTok x = true := by
  intro X
  induction X with
  | nil => intro acc n a h x hx; exact absurd hx (by simp)
  | cons y r ih =>
    intro acc n a h x hx
    unfold joinG at h
    by_cases ht : isTok y = true
    · rw [if_pos ht] at h
      by_cases hc : n + ((y.f1.size : Int) + 1) > 8000
      · rw [if_pos hc] at h; cases h
      · rw [if_neg hc] at h
        rcases List.mem_cons.1 hx with rfl | hx
        · exact ht
        · exact ih _ _ a h x hx
    · rw [if_neg ht] at h; cases h
theorem joinG_same : ∀ (X Y : List S33) (acc : List ByteArray) (n : Int), X.map (fun x => (x.f0, x.f1)) = Y.map (fun x => (x.f0, x.f1)) → joinG acc n X = joinG acc n Y := by
  intro X
  induction X with
  | nil => intro Y acc n h; cases Y with | nil => rfl | cons y Y => cases h
  | cons x X ih =>
    intro Y acc n h
    cases Y with
    | nil => cases h
    | cons y Y =>
      rw [List.map_cons, List.map_cons] at h
      obtain ⟨h1, h2⟩ := List.cons.inj h
      have e0 : x.f0 = y.f0 := congrArg Prod.fst h1
      have e1 : x.f1 = y.f1 := congrArg Prod.snd h1
      have et : isTok x = isTok y := by unfold isTok; rw [e0, e1]
      unfold joinG
      rw [et, e1, ih Y _ _ h2]
theorem join_res (M E : List S33) (hl : M.length ≤ 100000) (hz : ∀ x ∈ M, x.f1.size ≤ 140737488355328) (hE : (E = [] ∧ ∀ x, M.getLast? = some x → ¬ isEnd x) ∨ ∃ e, E = [e] ∧ isEnd e) :
    lexis_Join.f 1000000000200000 (M ++ E) = match joinG [] (-1) M with | none => some ((⟨#[]⟩ : ByteArray), 2) | some a => some (joinS a, 0) := by
  have hI : Inv [] (-1) := ⟨by omega, .inl ⟨rfl, rfl⟩⟩
  have h1 := prog_l0 M hl hz M 0 1000000000199998 [] (-1) rfl (by omega) rfl hI (by omega)
  refine Eq.trans ?_ h1
  rcases hE with ⟨rfl, hlast⟩ | ⟨e, rfl, h7, hb⟩
  · rw [List.append_nil]
    have cut : ∀ b : Bool, b = false → lexis_Join.j0 1000000000200000 M (M.length : Int) b = lexis_Join.l0 1000000000199998 [] (-1) M (M.length : Int) 0 := by
      rintro _ rfl
      rw [lexis_Join.j0, if_neg (by decide), lexis_Join.j1]
    unfold lexis_Join.f
    by_cases h0 : M.length = 0
    · rw [if_neg (by omega)]; exact cut _ rfl
    · obtain ⟨Q, x, rfl⟩ : ∃ Q x, M = Q ++ [x] := ⟨M.dropLast, M.getLast (fun h => h0 (by rw [h]; rfl)), (List.dropLast_concat_getLast _).symm⟩
      have hLe : (Q ++ [x]).length = Q.length + 1 := by simp
      have hw1 : wrap64 (((Q ++ [x]).length : Int) - 1) = (Q.length : Int) := by rw [w64 (by omega) (by omega)]; omega
      have hrd : rd_T33 (Q ++ [x]) ((Q.length : Nat) : Int) = x := rd_here _ _ _ (by rw [List.getElem?_append_right (Nat.le_refl _)]; simp)
      rw [if_pos (by omega), hw1, if_pos (by omega), if_pos (by omega), hrd]
      by_cases h7 : x.f0 = 7
      · rw [if_pos h7, toList_bl]
        have : (bl x.f1 == []) = false := by
          have := hlast x (by rw [List.getLast?_append]; simp)
          have hne : ¬ bl x.f1 = [] := fun e => this ⟨h7, e⟩
          simpa using hne
        exact cut _ this
      · rw [if_neg h7]; exact cut _ rfl
  · have hLe : (M ++ [e]).length = M.length + 1 := by simp
    have hw1 : wrap64 (((M ++ [e]).length : Int) - 1) = (M.length : Int) := by rw [w64 (by omega) (by omega)]; omega
    have hrd : rd_T33 (M ++ [e]) ((M.length : Nat) : Int) = e := rd_here _ _ _ (by rw [List.getElem?_append_right (Nat.le_refl _)]; simp)
    unfold lexis_Join.f
    rw [if_pos (by omega), hw1, if_pos (by omega), if_pos (by omega), hrd, if_pos h7, toList_bl, hb, show (([] : List UInt8) == []) = true from rfl, lexis_Join.j0, if_pos rfl, hw1, if_pos (by omega), if_pos (by omega), Int.toNat_natCast, List.take_left, lexis_Join.j1]
    rfl
theorem finish_zero' (size : Int) : ∀ (xs : List Item), ¬ (∀ x ∈ xs, x.2 ≠ 0) → (finish size xs []).1 = [] ∧ (finish size xs []).2.2 = 4 := by
  have main : ∀ (xs : List Item) (acc), ¬ (∀ x ∈ xs, x.2 ≠ 0) → (finish size xs acc).1 = [] ∧ (finish size xs acc).2.2 = 4 := by
    intro xs
    induction xs with
    | nil => intro acc h; exact absurd (by simp) h
    | cons x xs ih =>
      intro acc h
      obtain ⟨t, n⟩ := x
      unfold finish
      by_cases hn : n = 0
      · rw [if_pos hn]; exact ⟨rfl, rfl⟩
      · rw [if_neg hn]
        exact ih _ (fun h' => h (by intro y hy; rcases List.mem_cons.1 hy with rfl | hy; exact hn; exact h' y hy))
  exact fun xs h => main xs [] h
/-- What LexisBack sees. -/
theorem back_plain (s : ByteArray) (hs : s.size ≤ 8001) :
    (∃ p e, toksOf s = ([], p, e) ∧ e ≠ 0) ∨
    ∃ L : List S33, toksOf s = (L, 0, 0) ∧ L.length ≤ 8002 ∧ 0 < L.length ∧
      (lexis_Join.f 1000000000200000 L = some ((⟨#[]⟩ : ByteArray), 2) ∨
        ∃ (str : ByteArray) (M : List S33), lexis_Join.f 1000000000200000 L = some (str, 0) ∧ toksOf str = (M, 0, 0) ∧ M.length = L.length ∧
          (∀ i, i < L.length → (rd_T33 L (i : Int)).f0 = (rd_T33 M (i : Int)).f0 ∧ (rd_T33 L (i : Int)).f1 = (rd_T33 M (i : Int)).f1) ∧
          lexis_Join.f 1000000000200000 (M.take (M.length - 1)) = some (str, 0)) := by
  by_cases h8 : s.size > 8000
  · left
    refine ⟨0, 5, ?_, by decide⟩
    unfold toksOf
    rw [if_pos h8]
  · have hT : toksOf s = finish s.size (items (s.size + 1) (bl s) 0) [] := by unfold toksOf; rw [if_neg h8]
    by_cases hx : ∀ x ∈ items (s.size + 1) (bl s) 0, x.2 ≠ 0
    · right
      rw [finish_ok _ _ _ hx, List.nil_append] at hT
      have hag := items_again (s.size + 1) (bl s) 0
      have hln := items_len (s.size + 1) (bl s) 0
      generalize items (s.size + 1) (bl s) 0 = xs at *
      have hA : ∀ x ∈ xs.map Prod.fst, (Again x.f0 (bl x.f1) ∧ bl x.f1 ≠ []) ∧ x.f1.size ≤ 140737488355328 := by
        intro x h
        obtain ⟨y, hy, rfl⟩ := List.mem_map.1 h
        obtain ⟨q1, q2, q3⟩ := hag y hy (hx y hy)
        rw [bl_length, bl_length] at q3
        exact ⟨⟨q1, q2⟩, by omega⟩
      have hlX : (xs.map Prod.fst).length ≤ 8001 := by rw [List.length_map]; omega
      generalize xs.map Prod.fst = X at *
      have hI : Inv [] (-1) := ⟨by omega, .inl ⟨rfl, rfl⟩⟩
      refine ⟨X ++ [⟨7, ⟨#[]⟩, (s.size : Int)⟩], hT, by rw [List.length_append]; simp; omega, by simp, ?_⟩
      have hj := join_res X [⟨7, ⟨#[]⟩, (s.size : Int)⟩] (by omega) (fun x h => (hA x h).2) (.inr ⟨_, rfl, rfl, rfl⟩)
      cases hg : joinG [] (-1) X with
      | none => left; rw [hj, hg]
      | some a =>
        right
        rw [hg] at hj
        obtain ⟨ha, m, hm⟩ := joinG_some X [] (-1) a hI hg
        rw [List.nil_append] at ha
        have hbl : bl (joinS a) = J X := by rw [joinS_bl, ha]; exact J_join X
        have hsz : (joinS a).size ≤ 8000 := by
          obtain ⟨h0, ⟨rfl, rfl⟩ | ⟨h1, h2⟩⟩ := hm
          · rw [joinS_nil]; show 0 ≤ 8000; omega
          · omega
        obtain ⟨Y, e1, e2, e3⟩ := items_J X (fun x h => (hA x h).1) ((joinS a).size + 1) 0 (by rw [← hbl, bl_length]; omega)
        have hTs : toksOf (joinS a) = (Y.map Prod.fst ++ [⟨7, ⟨#[]⟩, ((joinS a).size : Int)⟩], 0, 0) := by
          unfold toksOf
          rw [if_neg (by omega)]
          show finish _ (items _ (bl (joinS a)) 0) [] = _
          rw [hbl, e1, finish_ok _ _ _ e3, List.nil_append]
        have e2' : (Y.map Prod.fst).map (fun x => (x.f0, x.f1)) = X.map (fun x => (x.f0, x.f1)) := by rw [List.map_map]; exact e2
        generalize Y.map Prod.fst = Z at *
        have hZl : Z.length = X.length := by have := congrArg List.length e2'; simpa using this
        have hgZ : joinG [] (-1) Z = some a := (joinG_same Z X [] (-1) e2').trans hg
        have hall := joinG_all Z [] (-1) a hgZ
        have hpt : ∀ i (hz : i < Z.length) (hx : i < X.length), X[i].f0 = Z[i].f0 ∧ X[i].f1 = Z[i].f1 := by
          intro i hz hx
          have h := congrArg (fun l => l[i]?) e2'
          simp only [List.getElem?_map, List.getElem?_eq_getElem hz, List.getElem?_eq_getElem hx, Option.map_some, Option.some.injEq, Prod.mk.injEq] at h
          exact ⟨h.1.symm, h.2.symm⟩
        refine ⟨joinS a, _, hj, hTs, by simp [hZl], ?_, ?_⟩
        · intro i hi
          have hi' : i < X.length + 1 := by simpa using hi
          by_cases hlt : i < X.length
          · have r1 : rd_T33 (X ++ [⟨7, ⟨#[]⟩, (s.size : Int)⟩]) (i : Int) = X[i] := rd_here _ _ _ (by rw [List.getElem?_append_left hlt, List.getElem?_eq_getElem hlt])
            have r2 : rd_T33 (Z ++ [⟨7, ⟨#[]⟩, ((joinS a).size : Int)⟩]) (i : Int) = Z[i]'(by omega) := rd_here _ _ _ (by rw [List.getElem?_append_left (by omega), List.getElem?_eq_getElem (by omega)])
            rw [r1, r2]
            exact hpt i (by omega) hlt
          · have r1 : rd_T33 (X ++ [⟨7, ⟨#[]⟩, (s.size : Int)⟩]) (i : Int) = ⟨7, ⟨#[]⟩, (s.size : Int)⟩ := rd_here _ _ _ (by rw [List.getElem?_append_right (by omega), show i - X.length = 0 by omega]; rfl)
            have r2 : rd_T33 (Z ++ [⟨7, ⟨#[]⟩, ((joinS a).size : Int)⟩]) (i : Int) = ⟨7, ⟨#[]⟩, ((joinS a).size : Int)⟩ := rd_here _ _ _ (by rw [List.getElem?_append_right (by omega), show i - Z.length = 0 by omega]; rfl)
            rw [r1, r2]
            exact ⟨rfl, rfl⟩
        · have ht : (Z ++ [(⟨7, ⟨#[]⟩, ((joinS a).size : Int)⟩ : S33)]).take ((Z ++ [(⟨7, ⟨#[]⟩, ((joinS a).size : Int)⟩ : S33)]).length - 1) = Z := by
            rw [List.length_append, show Z.length + [(⟨7, ⟨#[]⟩, ((joinS a).size : Int)⟩ : S33)].length - 1 = Z.length by simp, List.take_left]
          rw [ht]
          have hzZ : ∀ x ∈ Z, x.f1.size ≤ 140737488355328 := by
            intro x hx
            obtain ⟨i, hi, rfl⟩ := List.getElem_of_mem hx
            rw [← (hpt i hi (by omega)).2]
            exact (hA _ (List.getElem_mem _)).2
          have hr := join_res Z [] (by omega) hzZ (.inl ⟨rfl, fun x hx h => by
            have := hall x (List.mem_of_getLast? hx)
            rw [isTok_7 x h.1] at this
            cases this⟩)
          rw [List.append_nil, hgZ] at hr
          exact hr
    · left
      obtain ⟨g1, g2⟩ := finish_zero' s.size _ hx
      exact ⟨_, 4, by rw [hT]; exact Prod.ext g1 (Prod.ext rfl g2), by decide⟩
end Go.Proofs.YtlbaojjnilnhlaaDoor.PA
