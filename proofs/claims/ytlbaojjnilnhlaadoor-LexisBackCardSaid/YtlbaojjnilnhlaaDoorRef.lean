/-
  The reference's own reading of tokens, held against the plain specification.
-/
import Derived.Test.YtlbaojjnilnhlaaDoorIter
import Derived.Test.YtlbaojjnilnhlaaDoorPAx11
namespace Go.Proofs.YtlbaojjnilnhlaaDoor.PA
open Go Go.RowKit Go.Proofs.YtlbaojjnilnhlaaDoorW.PrintWords Go.Proofs.YtlbaojjnilnhlaaDoorW.PrintLast Go.Proofs.YtlbaojjnilnhlaaDoorW.PrintMore
set_option linter.unusedVariables false
set_option linter.unusedSimpArgs false

theorem letter_r (c : UInt8) : winchref01_letter.f (c.toNat : Int) = some (letterB c) := isLetter_f c
theorem digit_r (c : UInt8) : winchref01_digit.f (c.toNat : Int) = some (digitB c) := isDigit_f c
theorem cB (c : UInt8) (n : Nat) (hn : n < 256) : ((c.toNat : Int) = (n : Int)) ↔ c = UInt8.ofNat n := by
  rw [← UInt8.toNat_inj, UInt8.toNat_ofNat']
  have : n % 2 ^ 8 = n := Nat.mod_eq_of_lt (by simpa using hn)
  rw [this]; omega

theorem nB (c : UInt8) (m : Int) (n : Nat) (e : m = (n : Int)) (hn : n < 256) : ((c.toNat : Int) = m) ↔ c = UInt8.ofNat n := by rw [e]; exact cB c n hn

theorem blank_step (s : ByteArray) (hs : s.size ≤ 140737488355328) : ∀ (l : List UInt8) (i k : Nat), (bl s).drop i = l → i ≤ s.size →
    (4 * l.length + 3 ≤ k → winchref01_blank.l0 k s (i : Int) = some ((i + skipN false l : Nat) : Int)) ∧
    (4 * l.length + 4 ≤ k → winchref01_blank.l1 k s (i : Int) = some ((i + skipN true l : Nat) : Int)) := by
  intro l
  induction l with
  | nil =>
    intro i k hd hi
    have hsz := drop_none hd
    have a0 : ∀ k, 1 ≤ k → winchref01_blank.l0 k s (i : Int) = some (i : Int) := fun k hk => by
      obtain ⟨k, rfl⟩ : ∃ m, k = m + 1 := ⟨k - 1, by omega⟩
      simp only [winchref01_blank.l0]
      rw [if_neg (by omega)]
    refine ⟨fun hk => a0 k (by omega), fun hk => ?_⟩
    obtain ⟨k, rfl⟩ : ∃ m, k = m + 1 := ⟨k - 1, by omega⟩
    simp only [winchref01_blank.l1]
    rw [if_neg (by omega)]
    exact a0 k (by omega)
  | cons c r ih =>
    intro i k hd hi
    obtain ⟨h1, h2, h3⟩ := bt_drop hd
    have hw : wrap64 ((i : Int) + 1) = ((i + 1 : Nat) : Int) := by rw [w64 (by omega) (by omega)]; omega
    have hl : (c :: r).length = r.length + 1 := rfl
    have step0 : ∀ k, 4 * (c :: r).length + 3 ≤ k → winchref01_blank.l0 k s (i : Int) = some ((i + skipN false (c :: r) : Nat) : Int) := by
      intro k hk
      rw [hl] at hk
      obtain ⟨k, rfl⟩ : ∃ m, k = m + 3 := ⟨k - 3, by omega⟩
      have jt : c = 47 → r.head? = some 47 → winchref01_blank.j1 (k + 2) s (i : Int) true = some ((i + skipN false (c :: r) : Nat) : Int) := by
        intro hc hr
        subst hc
        have hn10 : ¬ (bt s (i : Int) = 10) := by rw [h1]; decide
        simp only [winchref01_blank.j1, winchref01_blank.l1]
        rw [if_pos trivial, if_pos (by omega), if_pos (by omega), if_neg hn10, hw, ((ih (i + 1) k h3 (by omega)).2 (by omega))]
        have e : skipN false (47 :: r) = skipN true r + 1 := by simp [skipN, blankB, hr]
        rw [e]
        congr 2
        omega
      have jf : ¬ (c = 47 ∧ r.head? = some 47) → winchref01_blank.j1 (k + 2) s (i : Int) false = some ((i + skipN false (c :: r) : Nat) : Int) := by
        intro hn
        simp only [winchref01_blank.j1]
        rw [if_neg (by simp), if_pos (by omega), if_pos (by omega), h1, hw, ((ih (i + 1) (k + 1) h3 (by omega)).1 (by omega))]
        by_cases b : blankB c = true
        · have e : skipN false (c :: r) = skipN false r + 1 := by simp [skipN, b]
          rw [e, show i + 1 + skipN false r = i + (skipN false r + 1) by omega]
          have hb : c = 9 ∨ c = 10 ∨ c = 13 ∨ c = 32 := by simpa [blankB, or_assoc] using b
          rcases hb with rfl | rfl | rfl | rfl
          · rw [if_pos (by decide)]
          · rw [if_neg (by decide), if_pos (by decide)]
          · rw [if_neg (by decide), if_neg (by decide), if_pos (by decide)]
          · rw [if_neg (by decide), if_neg (by decide), if_neg (by decide), if_pos (by decide)]
        · have b' : blankB c = false := by simpa using b
          have e : skipN false (c :: r) = 0 := by simp [skipN, b']; intro h; simpa [h] using hn
          have hb : c ≠ 9 ∧ c ≠ 10 ∧ c ≠ 13 ∧ c ≠ 32 := by simpa [blankB, and_assoc] using b'
          rw [if_neg (fun h => hb.1 ((nB c 9 9 rfl (by omega)).1 h)), if_neg (fun h => hb.2.1 ((nB c 10 10 rfl (by omega)).1 h)), if_neg (fun h => hb.2.2.1 ((nB c 13 13 rfl (by omega)).1 h)), if_neg (fun h => hb.2.2.2 ((nB c 32 32 rfl (by omega)).1 h)), e]
          rfl
      simp only [winchref01_blank.l0]
      rw [if_pos (by omega), if_pos (by omega), h1]
      by_cases hc : c = 47
      · rw [if_pos ((nB c 47 47 rfl (by omega)).2 hc), hw]
        cases hr : r with
        | nil =>
          subst hr
          have := drop_none h3
          rw [if_neg (by omega)]
          exact jf (by simp)
        | cons d r' =>
          subst hr
          obtain ⟨g1, g2, g3⟩ := bt_drop h3
          rw [if_pos (by omega), if_pos (by omega), g1, show ((d.toNat : Int) == 47) = (d == 47) from byte_eq d 47 (by decide)]
          by_cases hd' : d = 47
          · rw [show (d == 47) = true by simpa using hd']
            exact jt hc (by simpa using hd')
          · rw [show (d == 47) = false by simpa using hd']
            exact jf (by simp [hd'])
      · rw [if_neg (fun h => hc ((nB c 47 47 rfl (by omega)).1 h))]
        exact jf (fun h => hc h.1)
    refine ⟨step0 k, fun hk => ?_⟩
    rw [hl] at hk
    obtain ⟨k, rfl⟩ : ∃ m, k = m + 1 := ⟨k - 1, by omega⟩
    simp only [winchref01_blank.l1]
    rw [if_pos (by omega), if_pos (by omega), h1]
    by_cases hc : c = 10
    · subst hc
      rw [if_pos (by decide), step0 k (by rw [hl]; omega)]
      rfl
    · have e : skipN true (c :: r) = skipN true r + 1 := by
        show skipN (c != 10) r + 1 = _
        rw [show (c != 10) = true by simpa using hc]
      rw [if_neg (fun h => hc ((nB c 10 10 rfl (by omega)).1 h)), hw, ((ih (i + 1) k h3 (by omega)).2 (by omega)), e]
      congr 2
      omega
theorem blank_f (s : ByteArray) (hs : s.size ≤ 140737488355328) (i : Nat) (hi : i ≤ s.size) (k : Nat) (hk : 4 * s.size + 3 ≤ k) :
    winchref01_blank.f k s (i : Int) = some ((i + skipN false ((bl s).drop i) : Nat) : Int) := by
  unfold winchref01_blank.f
  refine (blank_step s hs _ i k rfl hi).1 ?_
  rw [List.length_drop, bl_length]
  omega

/-! ### spans -/
def spanB (a b u : Bool) (c : UInt8) : Bool := (a && letterB c) || ((b && digitB c) || (u && c == 95))
theorem span_l (s : ByteArray) (hs : s.size ≤ 140737488355328) (a b u : Bool) : ∀ (l : List UInt8) (i k : Nat), (bl s).drop i = l → l.length + 1 ≤ k → i ≤ s.size →
    winchref01_span.l0 k s (i : Int) a b u = some ((i + (l.takeWhile (spanB a b u)).length : Nat) : Int) := by
  intro l
  induction l with
  | nil =>
    intro i k hd hk hi
    obtain ⟨k, rfl⟩ : ∃ m, k = m + 1 := ⟨k - 1, by omega⟩
    have := drop_none hd
    simp only [winchref01_span.l0]
    rw [if_neg (by omega)]
    rfl
  | cons c r ih =>
    intro i k hd hk hi
    obtain ⟨h1, h2, h3⟩ := bt_drop hd
    obtain ⟨k, rfl⟩ : ∃ m, k = m + 1 := ⟨k - 1, by simp at hk; omega⟩
    have hw : wrap64 ((i : Int) + 1) = ((i + 1 : Nat) : Int) := by rw [w64 (by omega) (by omega)]; omega
    have ih' := ih (i + 1) k h3 (by simp at hk; omega) (by omega)
    have e95 : ((c.toNat : Int) = 95) ↔ c = 95 := nB c 95 95 rfl (by omega)
    have h0 : (0 : Int) ≤ (i : Int) := by omega
    simp only [winchref01_span.l0]
    rw [if_pos (by omega), h1]
    simp only [letter_r, digit_r, Option.bind_some, hw, ih', if_pos h0, e95]
    have e1 : i + 1 + (List.takeWhile (spanB a b u) r).length = i + ((List.takeWhile (spanB a b u) r).length + 1) := by omega
    cases hp : spanB a b u c with
    | true =>
      rw [List.takeWhile_cons_of_pos hp]
      simp only [List.length_cons, e1]
      unfold spanB at hp
      cases a <;> cases b <;> cases u <;> cases hL : letterB c <;> cases hD : digitB c <;> simp [hL, hD] at hp ⊢ <;> simp [hp]
    | false =>
      rw [List.takeWhile_cons_of_neg (by simp [hp])]
      simp only [List.length_nil, Nat.add_zero]
      unfold spanB at hp
      cases a <;> cases b <;> cases u <;> cases hL : letterB c <;> cases hD : digitB c <;> simp [hL, hD] at hp ⊢ <;> simp [hp]
theorem span_f (s : ByteArray) (hs : s.size ≤ 140737488355328) (a b u : Bool) (i k : Nat) (hk : s.size + 1 ≤ k) (hi : i ≤ s.size) :
    winchref01_span.f k s (i : Int) a b u = some ((i + (((bl s).drop i).takeWhile (spanB a b u)).length : Nat) : Int) := by
  unfold winchref01_span.f
  exact span_l s hs a b u _ i k rfl (by rw [List.length_drop, bl_length]; omega) hi
theorem spanB_digit : spanB false true false = digitB := by funext c; simp [spanB]
theorem spanB_part : spanB true true true = partB := by funext c; simp [spanB, partB, Bool.or_assoc]
theorem spanB_alnum : spanB true true false = alnumB := by funext c; simp [spanB, alnumB]

/-! ### has, words, signs -/
theorem has_l (L : List ByteArray) (hL : L.length ≤ 1000) (s : ByteArray) : ∀ (l : List ByteArray) (i k : Nat), L.drop i = l → l.length + 1 ≤ k →
    winchref01_has.l0 k L s (i : Int) = some (l.any fun x => bl x == bl s) := by
  intro l
  induction l with
  | nil =>
    intro i k hd hk
    obtain ⟨k, rfl⟩ : ∃ m, k = m + 1 := ⟨k - 1, by omega⟩
    have := List.drop_eq_nil_iff.1 hd
    simp only [winchref01_has.l0]
    rw [if_neg (by omega)]
    rfl
  | cons x r ih =>
    intro i k hd hk
    obtain ⟨k, rfl⟩ : ∃ m, k = m + 1 := ⟨k - 1, by simp at hk; omega⟩
    have hi : i < L.length := by
      rcases Nat.lt_or_ge i L.length with h | h
      · exact h
      · rw [List.drop_eq_nil_of_le h] at hd; cases hd
    rw [List.drop_eq_getElem_cons hi] at hd
    injection hd with hx hr
    have hg : rdOf ByteArray.empty L (i : Int) = x := by
      unfold rdOf
      rw [Int.toNat_natCast, List.getD_eq_getElem?_getD, List.getElem?_eq_getElem hi, hx]
      rfl
    simp only [winchref01_has.l0]
    rw [if_pos (by omega), if_pos (by omega), hg, toList_bl, toList_bl, w64 (by omega) (by omega), show (i : Int) + 1 = ((i + 1 : Nat) : Int) by omega, ih (i + 1) k hr (by simp at hk; omega)]
    by_cases h : bl x = bl s
    · rw [if_pos h, List.any_cons, beq_iff_eq.2 h]; rfl
    · rw [if_neg h, List.any_cons, beq_eq_false_iff_ne.2 h]; rfl
theorem has_f (L : List ByteArray) (hL : L.length ≤ 1000) (s : ByteArray) (k : Nat) (hk : L.length + 1 ≤ k) : winchref01_has.f k L s = some ((L.map bl).contains (bl s)) := by
  unfold winchref01_has.f
  have := has_l L hL s L 0 k rfl hk
  rw [show (0 : Int) = ((0 : Nat) : Int) from rfl, this]
  congr 1
  rw [List.contains_eq_any_beq, List.any_map]
  congr 1
  funext x
  simp only [Function.comp]
  exact BEq.comm
theorem isWord_r (s : ByteArray) (k : Nat) (hk : 200 ≤ k) : winchref01_IsWord.f k s = some (isWordB (bl s)) := by
  unfold winchref01_IsWord.f winchref01_Words.f
  simp only [Option.bind_some]
  rw [has_f _ (by decide) s k (by simp only [List.length_cons, List.length_nil]; omega)]
  rfl
theorem isSign_r (s : ByteArray) (k : Nat) (hk : 200 ≤ k) : winchref01_IsSign.f k s = some (isSignB (bl s)) := by
  unfold winchref01_IsSign.f
  rw [has_f _ (by decide) s k (by simp only [List.length_cons, List.length_nil]; omega)]
  rfl

/-! ### names -/
theorem isName_l (s : ByteArray) (hs : s.size ≤ 140737488355328) : ∀ (l : List UInt8) (i k : Nat), (bl s).drop i = l → l.length + 300 ≤ k → i ≤ s.size →
    winchref01_IsName.l0 k s (i : Int) = some (l.all partB && (i != 0 || (l.head?.map letterB).getD true) && (decide (1 ≤ s.size) && decide (s.size ≤ 12) && !isWordB (bl s))) := by
  intro l
  induction l with
  | nil =>
    intro i k hd hk hi
    obtain ⟨k, rfl⟩ : ∃ m, k = m + 1 := ⟨k - 1, by omega⟩
    have := drop_none hd
    simp only [winchref01_IsName.l0]
    rw [if_neg (by omega), isWord_r s k (by simp at hk; omega)]
    simp only [Option.bind_some]
    by_cases h1 : 1 ≤ s.size
    · rw [if_pos (by omega)]
      by_cases h2 : s.size ≤ 12
      · rw [if_pos (by omega)]
        simp [h1, h2]
      · rw [if_neg (by omega)]
        simp [h2]
    · rw [if_neg (by omega)]
      simp [h1]
  | cons c r ih =>
    intro i k hd hk hi
    obtain ⟨h1, h2, h3⟩ := bt_drop hd
    obtain ⟨k, rfl⟩ : ∃ m, k = m + 1 := ⟨k - 1, by simp at hk; omega⟩
    have hw : wrap64 ((i : Int) + 1) = ((i + 1 : Nat) : Int) := by rw [w64 (by omega) (by omega)]; omega
    have ih' := ih (i + 1) k h3 (by simp at hk; omega) (by omega)
    have e95 : ((c.toNat : Int) = 95) ↔ c = 95 := nB c 95 95 rfl (by omega)
    have h0 : (0 : Int) ≤ (i : Int) := by omega
    have ei : ((i : Int) = 0) ↔ i = 0 := by omega
    simp only [winchref01_IsName.l0]
    rw [if_pos (by omega), h1]
    simp only [letter_r, digit_r, Option.bind_some, hw, ih', if_pos h0, e95, ei]
    have hi1 : (i + 1 != 0) = true := by simp
    rw [hi1]
    obtain ⟨u, hu1, hu2⟩ : ∃ u : Bool, (c = 95) = (u = true) ∧ (c == 95) = u := ⟨c == 95, by simp, rfl⟩
    obtain ⟨z, hz1, hz2⟩ : ∃ z : Bool, (i = 0) = (z = true) ∧ (i != 0) = !z := ⟨i == 0, by simp, rfl⟩
    have ep : partB c = (letterB c || digitB c || c == 95) := rfl
    simp only [List.all_cons, List.head?_cons, Option.map_some, Option.getD_some, ep, hu1, hu2, hz1, hz2]
    generalize letterB c = L
    generalize digitB c = D
    generalize r.all partB = R
    cases u <;> cases z <;> cases L <;> cases D <;> simp
theorem isName_r (s : ByteArray) (hs : s.size ≤ 140737488355328) (k : Nat) (hk : s.size + 300 ≤ k) : winchref01_IsName.f k s = some (isNameB (bl s)) := by
  unfold winchref01_IsName.f
  have := isName_l s hs (bl s) 0 k rfl (by rw [bl_length]; omega) (Nat.zero_le _)
  rw [show (0 : Int) = ((0 : Nat) : Int) from rfl, this]
  unfold isNameB isRunB
  rw [bl_length]
  cases hb : bl s with
  | nil =>
    have : s.size = 0 := by rw [← bl_length, hb]; rfl
    simp [this]
  | cons c r =>
    have : 1 ≤ s.size := by rw [← bl_length, hb]; simp
    simp only [this, decide_true, Bool.true_and, Bool.and_assoc]
    simp [Bool.and_assoc]

/-! ### numerals -/
theorem valD_mono (l m : List UInt8) : valD l ≤ valD (l ++ m) := by
  unfold valD
  rw [List.foldl_append]
  generalize List.foldl (fun n c => 10 * n + (UInt8.toNat c - 48)) 0 l = v
  induction m generalizing v with
  | nil => exact Nat.le_refl _
  | cons c m ih => exact Nat.le_trans (show v ≤ 10 * v + (UInt8.toNat c - 48) by omega) (ih _)
theorem num_l (s : ByteArray) (hs : s.size ≤ 140737488355328) (most : Nat) (hm : most ≤ 2147483647) : ∀ (l : List UInt8) (i k : Nat), (bl s).drop i = l → 2 * l.length + 2 ≤ k → i ≤ s.size →
    ((bl s).take i).all digitB = true → valD ((bl s).take i) ≤ most → (2 ≤ i → (bl s).head? ≠ some 48) →
    winchref01_IsNumeral.l0 k s (most : Int) (valD ((bl s).take i) : Int) (i : Int) = some (isNumB (bl s) most) := by
  intro l
  induction l with
  | nil =>
    intro i k hd hk hi ha hv h48
    obtain ⟨k, rfl⟩ : ∃ m, k = m + 1 := ⟨k - 1, by omega⟩
    have hsz := drop_none hd
    have et : (bl s).take i = bl s := List.take_of_length_le (by rw [bl_length]; exact hsz)
    rw [et] at ha hv
    simp only [winchref01_IsNumeral.l0]
    rw [if_neg (by omega), toList_bl]
    unfold isNumB
    rw [ha, show decide (valD (bl s) ≤ most) = true by simpa using hv]
    have hlen := bl_length s
    cases hb : bl s with
    | nil => simp
    | cons c r =>
      cases r with
      | nil => simp
      | cons d r' =>
        have := h48 (by rw [← hlen, hb] at hsz; simp at hsz; omega)
        rw [hb] at this
        simp at this
        simp [this]
        rw [show ((some c : Option UInt8) != some 48) = true by simpa using this]
        rfl
  | cons c r ih =>
    intro i k hd hk hi ha hv h48
    obtain ⟨h1, h2, h3⟩ := bt_drop hd
    obtain ⟨k, rfl⟩ : ∃ m, k = m + 2 := ⟨k - 2, by simp at hk; omega⟩
    have hw : wrap64 ((i : Int) + 1) = ((i + 1 : Nat) : Int) := by rw [w64 (by omega) (by omega)]; omega
    have hsplit : bl s = (bl s).take i ++ c :: r := by rw [← hd]; exact (List.take_append_drop _ _).symm
    have ht : (bl s).take (i + 1) = (bl s).take i ++ [c] := by rw [List.take_add_one, (drop_head hd).1]; rfl
    simp only [winchref01_IsNumeral.l0]
    rw [if_pos (by omega), if_pos (by omega), h1, digit_r]
    simp only [Option.bind_some]
    cases hD : digitB c with
    | false =>
      simp only [winchref01_IsNumeral.j1]
      have : isNumB (bl s) most = false := by
        unfold isNumB
        rw [show (bl s).all digitB = false by rw [hsplit]; simp [hD]]
        simp
      simp [this]
    | true =>
      have hc : 48 ≤ c.toNat ∧ c.toNat ≤ 57 := by
        unfold digitB at hD
        simp only [Bool.and_eq_true, decide_eq_true_eq, UInt8.le_iff_toNat_le] at hD
        simpa using hD
      have go : (2 ≤ i + 1 → (bl s).head? ≠ some 48) → winchref01_IsNumeral.j1 (k + 1) s (most : Int) (valD ((bl s).take i) : Int) (i : Int) false = some (isNumB (bl s) most) := by
        intro h48'
        simp only [winchref01_IsNumeral.j1]
        have ev : wrap64 (wrap64 (10 * (valD ((bl s).take i) : Int)) + ((bt s (i : Int) - 48) % 256)) = (valD ((bl s).take (i + 1)) : Int) := by
          have e1 : wrap64 (10 * (valD ((bl s).take i) : Int)) = 10 * (valD ((bl s).take i) : Int) := w64 (by omega) (by omega)
          rw [ht, valD_snoc, h1, e1, w64 (by omega) (by omega)]
          omega
        rw [if_neg (by simp), if_pos (by omega), if_pos (by omega), ev, hw]
        by_cases hgt : valD ((bl s).take (i + 1)) ≤ most
        · rw [if_neg (by omega)]
          exact ih (i + 1) k h3 (by simp at hk; omega) (by omega) (by rw [ht]; simp [ha, hD]) hgt h48'
        · rw [if_pos (by omega)]
          have hmono := valD_mono ((bl s).take (i + 1)) ((bl s).drop (i + 1))
          rw [List.take_append_drop] at hmono
          unfold isNumB
          rw [show decide (valD (bl s) ≤ most) = false by simp; omega]
          simp
      simp only [if_true]
      by_cases hi1 : i = 1
      · subst hi1
        rw [if_pos (by rfl), if_pos (by omega)]
        obtain ⟨b, hb⟩ : ∃ b, (bl s)[0]? = some b := ⟨_, List.getElem?_eq_getElem (by rw [bl_length]; omega)⟩
        rw [show bt s 0 = (b.toNat : Int) from bt_nat s 0 b hb, show ((b.toNat : Int) == 48) = (b == 48) from byte_eq b 48 (by decide)]
        have hh : (bl s).head? = some b := by rw [List.head?_eq_getElem?]; exact hb
        by_cases h : b = 48
        · rw [show (b == 48) = true by simpa using h]
          simp only [winchref01_IsNumeral.j1]
          rw [if_pos trivial]
          unfold isNumB
          rw [hh, h]
          have hlen : ((bl s).length == 1) = false := by rw [bl_length]; simp; omega
          rw [hlen]
          simp
        · rw [show (b == 48) = false by simpa using h]
          exact go (fun _ => by rw [hh]; simpa using h)
      · rw [if_neg (by omega)]
        exact go (fun h => h48 (by omega))
theorem num_r (s : ByteArray) (hs : s.size ≤ 140737488355328) (most : Nat) (hm : most ≤ 2147483647) (k : Nat) (hk : 2 * s.size + 2 ≤ k) : winchref01_IsNumeral.f k s (most : Int) = some (isNumB (bl s) most) := by
  unfold winchref01_IsNumeral.f
  have := num_l s hs most hm (bl s) 0 k rfl (by rw [bl_length]; omega) (Nat.zero_le _) (by simp) (by simp [valD]) (by omega)
  simpa [valD] using this
theorem isTime_r (s : ByteArray) (hs : s.size ≤ 140737488355328) (k : Nat) (hk : 2 * s.size + 2 ≤ k) : winchref01_IsTime.f k s = some (isTimeB (bl s)) := by
  unfold winchref01_IsTime.f isTimeB
  by_cases h : 2 < s.size
  · have hx : (s.extract 2 s.size).size ≤ s.size := by rw [ByteArray.size_extract]; omega
    rw [if_pos (by omega), if_pos (by omega), if_pos (by omega), toList_bl, show bl (s.extract 0 2) = (bl s).take 2 by rw [extract_bl]; simp, show (2147483647 : Int) = ((2147483647 : Nat) : Int) from rfl, num_r _ (by omega) _ (by omega) k (by omega), extract_end]
    by_cases ht : (bl s).take 2 = [116, 35]
    · rw [if_pos ht]; simp [ht]
    · rw [if_neg ht]; simp [ht]
  · rw [if_neg (by omega)]
    have : (bl s).drop 2 = [] := List.drop_eq_nil_of_le (by rw [bl_length]; omega)
    rw [this]
    simp [isNumB]
theorem isAddr_r (s : ByteArray) (hs : s.size ≤ 140737488355328) (k : Nat) (hk : 2 * s.size + 2 ≤ k) : winchref01_IsAddress.f k s = some (isAddrB (bl s)) := by
  unfold winchref01_IsAddress.f isAddrB
  by_cases h : 2 < s.size
  · have hx : (s.extract 2 s.size).size ≤ s.size := by rw [ByteArray.size_extract]; omega
    obtain ⟨b, hb⟩ : ∃ b, (bl s)[0]? = some b := ⟨_, List.getElem?_eq_getElem (by rw [bl_length]; omega)⟩
    obtain ⟨d, hd⟩ : ∃ d, (bl s)[1]? = some d := ⟨_, List.getElem?_eq_getElem (by rw [bl_length]; omega)⟩
    have e0 : (bl s).head? = some b := by rw [List.head?_eq_getElem?]; exact hb
    have e1 : ((bl s).drop 1).head? = some d := by rw [List.head?_drop]; exact hd
    rw [if_pos (by omega), if_pos (by omega), show bt s 0 = (b.toNat : Int) from bt_nat s 0 b hb, if_pos (show (1 : Int) < (s.size : Int) by omega), show bt s 1 = (d.toNat : Int) from bt_nat s 1 d hd, if_pos (show (2 : Int) ≤ (s.size : Int) by omega), show (63 : Int) = ((63 : Nat) : Int) from rfl, num_r _ (by omega) _ (by omega) k (by omega), extract_end, e0, e1]
    simp only [Option.bind_some]
    by_cases hb' : b = 37
    · subst hb'
      rw [if_pos (by decide)]
      by_cases h1 : d = 105
      · subst h1; rw [if_pos (by decide)]; simp
      · rw [if_neg (fun h => h1 ((nB d 105 105 rfl (by omega)).1 h))]
        by_cases h2 : d = 113
        · subst h2; rw [if_pos (by decide)]; simp
        · rw [if_neg (fun h => h2 ((nB d 113 113 rfl (by omega)).1 h))]
          by_cases h3 : d = 109
          · subst h3; rw [if_pos (by decide)]; simp
          · rw [if_neg (fun h => h3 ((nB d 109 109 rfl (by omega)).1 h))]
            simp [h1, h2, h3]
    · rw [if_neg (fun h => hb' ((nB b 37 37 rfl (by omega)).1 h))]
      simp [hb']
  · rw [if_neg (by omega)]
    have : (bl s).drop 2 = [] := List.drop_eq_nil_of_le (by rw [bl_length]; omega)
    rw [this]
    simp [isNumB]
end Go.Proofs.YtlbaojjnilnhlaaDoor.PA
