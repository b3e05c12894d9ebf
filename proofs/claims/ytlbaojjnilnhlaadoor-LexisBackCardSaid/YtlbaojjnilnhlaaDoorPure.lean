/-
  What the printed functions of package lexis answer, in the words of the plain specification. Plain Lean.
  What the printed methods of the scanner answer, in the words of the plain specification. Plain Lean.
  What the printed methods of the scanner that read a token answer, in the words of the plain specification. Plain Lean.
-/
import Derived.Test.YtlbaojjnilnhlaaDoorNum
import Derived.Test.YtlbaojjnilnhlaaDoorExtA
import Derived.Test.YtlbaojjnilnhlaaDoorPAx2
import Derived.Test.YtlbaojjnilnhlaaDoorPAx7
import Derived.Test.YtlbaojjnilnhlaaDoorPAx6
namespace Go.Proofs.YtlbaojjnilnhlaaDoor.PA
open Go Go.RowKit Go.Proofs.YtlbaojjnilnhlaaDoorW.PrintWords Go.Proofs.YtlbaojjnilnhlaaDoorW.PrintLast Go.Proofs.YtlbaojjnilnhlaaDoorW.PrintMore
set_option linter.unusedVariables false

abbrev bl (s : ByteArray) : List UInt8 := s.data.toList
theorem bl_length (s : ByteArray) : (bl s).length = s.size := by rw [bl, Array.length_toList]; rfl
theorem toList_bl (s : ByteArray) : s.toList = bl s := ByteArray.toList_eq s
theorem w64 {x : Int} (h0 : -9223372036854775808 ≤ x) (h1 : x ≤ 9223372036854775807) : wrap64 x = x := by unfold wrap64; omega
theorem bt_nat (s : ByteArray) (k : Nat) (c : UInt8) (h : (bl s)[k]? = some c) : bt s (k : Int) = (c.toNat : Int) := by
  obtain ⟨hl, he⟩ := List.getElem?_eq_some_iff.1 h
  have hk : k < s.size := by rw [← bl_length]; exact hl
  unfold bt
  rw [Int.toNat_natCast, dif_pos hk]
  rw [← he]
  rfl
theorem drop_head {l : List UInt8} {k : Nat} {c : UInt8} {r : List UInt8} (h : l.drop k = c :: r) : l[k]? = some c ∧ k < l.length ∧ l.drop (k + 1) = r := by
  have hk : k < l.length := by
    rcases Nat.lt_or_ge k l.length with h1 | h1
    · exact h1
    · rw [List.drop_eq_nil_of_le h1] at h; cases h
  rw [List.drop_eq_getElem_cons hk] at h
  injection h with h1 h2
  exact ⟨by rw [List.getElem?_eq_getElem hk, h1], hk, h2⟩
theorem bt_drop {s : ByteArray} {k : Nat} {c : UInt8} {r : List UInt8} (h : (bl s).drop k = c :: r) : bt s (k : Int) = (c.toNat : Int) ∧ k < s.size ∧ (bl s).drop (k + 1) = r := by
  obtain ⟨h1, h2, h3⟩ := drop_head h
  exact ⟨bt_nat s k c h1, by rw [← bl_length]; exact h2, h3⟩
theorem drop_none {s : ByteArray} {k : Nat} (h : (bl s).drop k = []) : s.size ≤ k := by
  rw [List.drop_eq_nil_iff] at h
  rw [← bl_length]; exact h
theorem extract_bl (s : ByteArray) (a b : Nat) : bl (s.extract a b) = ((bl s).drop a).take (b - a) := Lib.extract_data s a b
theorem extract_end (s : ByteArray) (a : Nat) : bl (s.extract a s.size) = (bl s).drop a := Lib.extract_to_end s a
theorem bytes_ext {a b : ByteArray} (h : bl a = bl b) : a = b := Go.WideShapes.bytes_inj h
theorem mk_bl (s : ByteArray) : (⟨(bl s).toArray⟩ : ByteArray) = s := by cases s; simp [bl]

/-! ### bytes -/
theorem isLetter_f (c : UInt8) : lexis_isLetter.f (c.toNat : Int) = some (letterB c) := by
  unfold lexis_isLetter.f letterB
  by_cases h : 97 ≤ c
  · have h' : (97 : Int) ≤ (c.toNat : Int) := by have := UInt8.le_iff_toNat_le.1 h; simp at this; omega
    rw [if_pos h']
    simp only [h, decide_true, Bool.true_and, Option.some.injEq, UInt8.le_iff_toNat_le]
    rw [decide_eq_decide]; simp; omega
  · have h' : ¬ (97 : Int) ≤ (c.toNat : Int) := fun e => h (UInt8.le_iff_toNat_le.2 (by simp; omega))
    rw [if_neg h']
    simp [h]
theorem isDigit_f (c : UInt8) : lexis_isDigit.f (c.toNat : Int) = some (digitB c) := by
  unfold lexis_isDigit.f digitB
  by_cases h : 48 ≤ c
  · have h' : (48 : Int) ≤ (c.toNat : Int) := by have := UInt8.le_iff_toNat_le.1 h; simp at this; omega
    rw [if_pos h']
    simp only [h, decide_true, Bool.true_and, Option.some.injEq, UInt8.le_iff_toNat_le]
    rw [decide_eq_decide]; simp; omega
  · have h' : ¬ (48 : Int) ≤ (c.toNat : Int) := fun e => h (UInt8.le_iff_toNat_le.2 (by simp; omega))
    rw [if_neg h']
    simp [h]
theorem byte_eq (c : UInt8) (n : Nat) (hn : n < 256) : ((c.toNat : Int) == (n : Int)) = (c == UInt8.ofNat n) := by
  rw [Bool.eq_iff_iff, beq_iff_eq, beq_iff_eq, ← UInt8.toNat_inj, UInt8.toNat_ofNat']
  have : n % 2 ^ 8 = n := Nat.mod_eq_of_lt (by simpa using hn)
  rw [this]; omega
theorem isPart_f (c : UInt8) : lexis_isPart.f (c.toNat : Int) = some (partB c) := by
  unfold lexis_isPart.f partB
  rw [isLetter_f, isDigit_f]
  simp only [Option.bind_some]
  cases letterB c <;> cases digitB c <;> simp
  rw [show ((c.toNat : Int) == 95) = (c == 95) from byte_eq c 95 (by decide)]

/-! ### runs, words, names -/
theorem isRun_l0 (s : ByteArray) (hs : s.size ≤ 140737488355328) : ∀ (l : List UInt8) (i : Nat) (k : Nat), (bl s).drop i = l → l.length < k → i ≤ s.size →
    lexis_isRun.l0 k s (s.size : Int) (i : Int) = some (l.all partB && ((bl s).head?.map letterB).getD false) := by
  intro l
  induction l with
  | nil =>
    intro i k hd hk hi
    obtain ⟨k, rfl⟩ : ∃ m, k = m + 1 := ⟨k - 1, by simp at hk; omega⟩
    have := drop_none hd
    simp only [lexis_isRun.l0]
    rw [if_neg (by omega)]
    rw [toList_bl]
    cases hb : bl s with
    | nil => simp
    | cons c r =>
      have h0 : bt s 0 = (c.toNat : Int) := bt_nat s 0 c (by rw [hb]; rfl)
      have hz : 0 < s.size := by rw [← bl_length, hb]; simp
      rw [if_neg (by simp), if_pos (by omega), h0, isLetter_f]
      simp
  | cons c r ih =>
    intro i k hd hk hi
    obtain ⟨k, rfl⟩ : ∃ m, k = m + 1 := ⟨k - 1, by simp at hk; omega⟩
    obtain ⟨h1, h2, h3⟩ := bt_drop hd
    simp only [lexis_isRun.l0]
    rw [if_pos (by omega), if_pos (by omega), if_pos (by omega), h1, isPart_f]
    simp only [Option.bind_some]
    cases hp : partB c with
    | true =>
      simp only [if_true]
      rw [w64 (by omega) (by omega), show ((i : Int) + 1) = ((i + 1 : Nat) : Int) by omega, ih (i + 1) k h3 (by simp at hk; omega) (by omega)]
      simp [hp]
    | false => simp [hp]
theorem isRun_f (s : ByteArray) (hs : s.size ≤ 140737488355328) (k : Nat) (hk : s.size < k) : lexis_isRun.f k s = some (isRunB (bl s)) := by
  unfold lexis_isRun.f isRunB
  exact isRun_l0 s hs (bl s) 0 k rfl (by rw [bl_length]; exact hk) (Nat.zero_le _)
def chain : List (List UInt8) → List UInt8 → Option Bool
  | [], _ => some false
  | w :: r, l => if l = w then some true else chain r l
theorem chain_eq (ws : List (List UInt8)) (l : List UInt8) : chain ws l = some (ws.contains l) := by
  induction ws with
  | nil => rfl
  | cons w r ih =>
    unfold chain
    rw [ih]
    by_cases h : l = w
    · rw [if_pos h]; simp [h]
    · rw [if_neg h]; simp [h]
theorem isWord_f (s : ByteArray) : lexis_IsWord.f s = some (isWordB (bl s)) := by
  unfold lexis_IsWord.f
  simp only [toList_bl]
  exact chain_eq wordsL (bl s)
theorem isName_f (s : ByteArray) (hs : s.size ≤ 140737488355328) (k : Nat) (hk : s.size < k) : lexis_IsName.f k s = some (isNameB (bl s)) := by
  unfold lexis_IsName.f isNameB
  rw [isRun_f s hs k hk, isWord_f]
  simp only [Option.bind_some]
  have e : (decide ((bl s).length ≤ 12)) = decide ((s.size : Int) ≤ 12) := by rw [bl_length, decide_eq_decide]; omega
  cases isRunB (bl s)
  · simp
  · rw [e]
    by_cases h : (s.size : Int) ≤ 12 <;> simp [h]
theorem isSign_f (s : ByteArray) : lexis_isSign.f s = some (isSignB (bl s)) := by
  unfold lexis_isSign.f
  simp only [toList_bl]
  exact chain_eq signsL (bl s)
theorem isNumeral_f (s : ByteArray) (hs : s.size ≤ 140737488355328) (most : Nat) (hm : most < 9223372036854775808) : lexis_isNumeral.f s (most : Int) = some (isNumB (bl s) most) := by
  unfold lexis_isNumeral.f
  rw [if_pos (by omega), num_eq _ _ hm]
end Go.Proofs.YtlbaojjnilnhlaaDoor.PA

namespace Go.Proofs.YtlbaojjnilnhlaaDoor.PA
open Go Go.RowKit Go.Proofs.YtlbaojjnilnhlaaDoorW.PrintWords Go.Proofs.YtlbaojjnilnhlaaDoorW.PrintLast Go.Proofs.YtlbaojjnilnhlaaDoorW.PrintMore
set_option linter.unusedVariables false

theorem mk_toList (l : List UInt8) : bl ⟨l.toArray⟩ = l := by simp [bl]
theorem hasPrefix_f (s p : ByteArray) : strings_HasPrefix.f s p = some (decide (p.size ≤ s.size) && ((bl s).take p.size == bl p)) := by
  unfold strings_HasPrefix.f stringslite_HasPrefix.f
  by_cases h : p.size ≤ s.size
  · rw [if_pos (by omega), if_pos (by omega), if_pos (by omega)]
    simp only [Option.bind_some, h, decide_true, Bool.true_and, toList_bl, Int.toNat_natCast, extract_bl, List.drop_zero, Nat.sub_zero]
  · rw [if_neg (by omega)]
    simp [h]

/-! ### skip -/
theorem skip_step (s : ByteArray) (hs : s.size ≤ 140737488355328) : ∀ (l : List UInt8) (i k : Nat), (bl s).drop i = l → i ≤ s.size →
    (4 * l.length + 2 ≤ k → lexis_scanner_skip.l0 k s (i : Int) = some (s, ((i + skipN false l : Nat) : Int))) ∧
    (4 * l.length + 3 ≤ k → lexis_scanner_skip.l1 k s (i : Int) = some (s, ((i + skipN true l : Nat) : Int))) := by
  intro l
  induction l with
  | nil =>
    intro i k hd hi
    have hsz := drop_none hd
    have a0 : ∀ k, 1 ≤ k → lexis_scanner_skip.l0 k s (i : Int) = some (s, (i : Int)) := fun k hk => by
      obtain ⟨k, rfl⟩ : ∃ m, k = m + 1 := ⟨k - 1, by omega⟩
      simp only [lexis_scanner_skip.l0]
      rw [if_neg (by omega)]
    refine ⟨fun hk => a0 k (by omega), fun hk => ?_⟩
    obtain ⟨k, rfl⟩ : ∃ m, k = m + 1 := ⟨k - 1, by omega⟩
    simp only [lexis_scanner_skip.l1]
    rw [if_neg (by omega)]
    exact a0 k (by omega)
  | cons c r ih =>
    intro i k hd hi
    obtain ⟨h1, h2, h3⟩ := bt_drop hd
    have hw : wrap64 ((i : Int) + 1) = ((i + 1 : Nat) : Int) := by rw [w64 (by omega) (by omega)]; omega
    have hl : (c :: r).length = r.length + 1 := rfl
    have cB : ∀ n : Nat, n < 256 → (((c.toNat : Int) = (n : Int)) ↔ c = UInt8.ofNat n) := fun n hn => by
      rw [← UInt8.toNat_inj, UInt8.toNat_ofNat']
      have : n % 2 ^ 8 = n := Nat.mod_eq_of_lt (by simpa using hn)
      rw [this]; omega
    -- l1 at a byte that is no line feed, and at one that is, given l0
    have step0 : ∀ k, 4 * (c :: r).length + 2 ≤ k → lexis_scanner_skip.l0 k s (i : Int) = some (s, ((i + skipN false (c :: r) : Nat) : Int)) := by
      intro k hk
      rw [hl] at hk
      obtain ⟨k, rfl⟩ : ∃ m, k = m + 3 := ⟨k - 3, by omega⟩
      have j1t : lexis_scanner_skip.j1 (k + 2) true s (i : Int) = some (s, ((i + (skipN false r + 1) : Nat) : Int)) := by
        simp only [lexis_scanner_skip.j1]
        rw [if_pos trivial, hw, ((ih (i + 1) (k + 1) h3 (by omega)).1 (by omega))]
        congr 2
        omega
      have j1f : blankB c = false → lexis_scanner_skip.j1 (k + 2) false s (i : Int) = some (s, ((i + (if c == 47 && r.head? == some 47 then skipN true r + 1 else 0) : Nat) : Int)) := by
        intro hb
        simp only [lexis_scanner_skip.j1]
        rw [if_neg (by simp), if_pos (by omega), if_pos (by omega), hasPrefix_f]
        simp only [Option.bind_some]
        have hx : bl (s.extract ((i : Int).toNat) s.size) = c :: r := by rw [Int.toNat_natCast, extract_end]; exact hd
        have hsz : (s.extract ((i : Int).toNat) s.size).size = r.length + 1 := by rw [← bl_length, hx]; rfl
        have htest : (decide ((⟨#[47, 47]⟩ : ByteArray).size ≤ (s.extract ((i : Int).toNat) s.size).size) && ((bl (s.extract ((i : Int).toNat) s.size)).take (⟨#[47, 47]⟩ : ByteArray).size == bl ⟨#[47, 47]⟩)) = (c == 47 && r.head? == some 47) := by
          rw [hx, hsz]
          show (decide (2 ≤ r.length + 1) && ((c :: r).take 2 == [47, 47])) = _
          cases r with
          | nil => simp
          | cons d r' => simp [Bool.and_comm]
        rw [htest]
        cases ht : (c == 47 && r.head? == some 47) with
        | true =>
          simp only [if_true]
          have hc : c = 47 := by simp at ht; exact ht.1
          have hn10 : ¬ (bt s (i : Int) = 10) := by rw [h1, hc]; decide
          simp only [lexis_scanner_skip.l1]
          rw [if_pos (by omega), if_pos (by omega), if_neg hn10, hw, ((ih (i + 1) k h3 (by omega)).2 (by omega))]
          congr 2
          omega
        | false => simp
      simp only [lexis_scanner_skip.l0]
      rw [if_pos (by omega), if_pos (by omega), h1]
      by_cases b : blankB c = true
      · have e : skipN false (c :: r) = skipN false r + 1 := by simp [skipN, b]
        rw [e, j1t]
        have hb : c = 9 ∨ c = 10 ∨ c = 13 ∨ c = 32 := by simpa [blankB, or_assoc] using b
        rcases hb with rfl | rfl | rfl | rfl
        · rw [if_neg (by decide), if_pos (by decide)]
        · rw [if_neg (by decide), if_neg (by decide), if_pos (by decide)]
        · rw [if_neg (by decide), if_neg (by decide), if_neg (by decide)]; exact j1t
        · rw [if_pos (by decide)]
      · have b' : blankB c = false := by simpa using b
        have e : skipN false (c :: r) = (if c == 47 && r.head? == some 47 then skipN true r + 1 else 0) := by simp [skipN, b']
        rw [e]
        have hb : c ≠ 9 ∧ c ≠ 10 ∧ c ≠ 13 ∧ c ≠ 32 := by simpa [blankB, and_assoc] using b'
        have n32 : ¬ ((c.toNat : Int) = 32) := fun h => hb.2.2.2 ((cB 32 (by omega)).1 h)
        have n9 : ¬ ((c.toNat : Int) = 9) := fun h => hb.1 ((cB 9 (by omega)).1 h)
        have n10 : ¬ ((c.toNat : Int) = 10) := fun h => hb.2.1 ((cB 10 (by omega)).1 h)
        have n13 : ((c.toNat : Int) == 13) = false := by simp only [beq_eq_false_iff_ne]; exact fun h => hb.2.2.1 ((cB 13 (by omega)).1 h)
        rw [if_neg n32, if_neg n9, if_neg n10, n13]
        exact j1f b'
    refine ⟨step0 k, fun hk => ?_⟩
    rw [hl] at hk
    obtain ⟨k, rfl⟩ : ∃ m, k = m + 1 := ⟨k - 1, by omega⟩
    simp only [lexis_scanner_skip.l1]
    rw [if_pos (by omega), if_pos (by omega), h1]
    by_cases hc : c = 10
    · subst hc
      rw [if_pos (by decide), step0 k (by rw [hl]; omega)]
      rfl
    · have n10 : ¬ ((c.toNat : Int) = 10) := fun h => hc ((cB 10 (by omega)).1 h)
      have e : skipN true (c :: r) = skipN true r + 1 := by
        show skipN (c != 10) r + 1 = _
        rw [show (c != 10) = true by simpa using hc]
      rw [if_neg n10, hw, ((ih (i + 1) k h3 (by omega)).2 (by omega)), e]
      congr 2
      omega

theorem skip_f (s : ByteArray) (hs : s.size ≤ 140737488355328) (i : Nat) (hi : i ≤ s.size) (k : Nat) (hk : 4 * s.size + 2 ≤ k) :
    lexis_scanner_skip.f k s (i : Int) = some (s, ((i + skipN false ((bl s).drop i) : Nat) : Int)) := by
  unfold lexis_scanner_skip.f
  refine (skip_step s hs _ i k rfl hi).1 ?_
  rw [List.length_drop, bl_length]
  omega
end Go.Proofs.YtlbaojjnilnhlaaDoor.PA

namespace Go.Proofs.YtlbaojjnilnhlaaDoor.PA
open Go Go.RowKit Go.Proofs.YtlbaojjnilnhlaaDoorW.PrintWords Go.Proofs.YtlbaojjnilnhlaaDoorW.PrintLast Go.Proofs.YtlbaojjnilnhlaaDoorW.PrintMore
set_option linter.unusedVariables false
set_option linter.unusedSimpArgs false

theorem alnum_f (c : UInt8) : lexis_scanner_address_1.f (c.toNat : Int) = some (alnumB c) := by
  unfold lexis_scanner_address_1.f alnumB
  rw [isLetter_f, isDigit_f]
  simp only [Option.bind_some]
  cases letterB c <;> simp

theorem span_part (s : ByteArray) (hs : s.size ≤ 140737488355328) (at_ : Nat) : ∀ (l : List UInt8) (j k : Nat), (bl s).drop j = l → l.length + 1 ≤ k → j ≤ s.size → at_ ≤ j →
    lexis_scanner_span__lexis_isPart.l0 k (j : Int) s (at_ : Int) = some (s.extract at_ (j + (l.takeWhile partB).length), s, (at_ : Int)) := by
  intro l
  induction l with
  | nil =>
    intro j k hd hk hj ha
    obtain ⟨k, rfl⟩ : ∃ m, k = m + 1 := ⟨k - 1, by omega⟩
    have := drop_none hd
    simp only [lexis_scanner_span__lexis_isPart.l0]
    rw [if_neg (by omega), if_pos (by omega), if_pos (by omega), if_pos (by omega)]
    simp
  | cons c r ih =>
    intro j k hd hk hj ha
    obtain ⟨h1, h2, h3⟩ := bt_drop hd
    obtain ⟨k, rfl⟩ : ∃ m, k = m + 1 := ⟨k - 1, by simp at hk; omega⟩
    simp only [lexis_scanner_span__lexis_isPart.l0]
    rw [if_pos (by omega), if_pos (by omega), h1, isPart_f]
    simp only [Option.bind_some]
    cases hp : partB c with
    | true =>
      simp only [if_true]
      rw [w64 (by omega) (by omega), show ((j : Int) + 1) = ((j + 1 : Nat) : Int) by omega, ih (j + 1) k h3 (by simp at hk; omega) (by omega) (by omega), List.takeWhile_cons_of_pos hp]
      simp only [List.length_cons]
      rw [show j + 1 + (List.takeWhile partB r).length = j + ((List.takeWhile partB r).length + 1) by omega]
    | false =>
      rw [List.takeWhile_cons_of_neg (by simp [hp])]
      simp only [Bool.false_eq_true, if_false]
      rw [if_pos (by omega), if_pos (by omega), if_pos (by omega)]
      simp
theorem spanf_part (s : ByteArray) (hs : s.size ≤ 140737488355328) (i from_ : Nat) (h : i + from_ ≤ s.size) (k : Nat) (hk : s.size + 1 ≤ k) :
    lexis_scanner_span__lexis_isPart.f k s (i : Int) (from_ : Int) = some (s.extract i (i + from_ + (((bl s).drop (i + from_)).takeWhile partB).length), s, (i : Int)) := by
  unfold lexis_scanner_span__lexis_isPart.f
  have e : mn (wrap64 ((i : Int) + (from_ : Int))) (s.size : Int) = ((i + from_ : Nat) : Int) := by
    rw [w64 (by omega) (by omega)]; unfold mn; split <;> omega
  rw [e]
  exact span_part s hs i _ (i + from_) k rfl (by rw [List.length_drop, bl_length]; omega) h (by omega)

theorem span_digit (s : ByteArray) (hs : s.size ≤ 140737488355328) (at_ : Nat) : ∀ (l : List UInt8) (j k : Nat), (bl s).drop j = l → l.length + 1 ≤ k → j ≤ s.size → at_ ≤ j →
    lexis_scanner_span__lexis_isDigit.l0 k (j : Int) s (at_ : Int) = some (s.extract at_ (j + (l.takeWhile digitB).length), s, (at_ : Int)) := by
  intro l
  induction l with
  | nil =>
    intro j k hd hk hj ha
    obtain ⟨k, rfl⟩ : ∃ m, k = m + 1 := ⟨k - 1, by omega⟩
    have := drop_none hd
    simp only [lexis_scanner_span__lexis_isDigit.l0]
    rw [if_neg (by omega), if_pos (by omega), if_pos (by omega), if_pos (by omega)]
    simp
  | cons c r ih =>
    intro j k hd hk hj ha
    obtain ⟨h1, h2, h3⟩ := bt_drop hd
    obtain ⟨k, rfl⟩ : ∃ m, k = m + 1 := ⟨k - 1, by simp at hk; omega⟩
    simp only [lexis_scanner_span__lexis_isDigit.l0]
    rw [if_pos (by omega), if_pos (by omega), h1, isDigit_f]
    simp only [Option.bind_some]
    cases hp : digitB c with
    | true =>
      simp only [if_true]
      rw [w64 (by omega) (by omega), show ((j : Int) + 1) = ((j + 1 : Nat) : Int) by omega, ih (j + 1) k h3 (by simp at hk; omega) (by omega) (by omega), List.takeWhile_cons_of_pos hp]
      simp only [List.length_cons]
      rw [show j + 1 + (List.takeWhile digitB r).length = j + ((List.takeWhile digitB r).length + 1) by omega]
    | false =>
      rw [List.takeWhile_cons_of_neg (by simp [hp])]
      simp only [Bool.false_eq_true, if_false]
      rw [if_pos (by omega), if_pos (by omega), if_pos (by omega)]
      simp
theorem spanf_digit (s : ByteArray) (hs : s.size ≤ 140737488355328) (i from_ : Nat) (h : i + from_ ≤ s.size) (k : Nat) (hk : s.size + 1 ≤ k) :
    lexis_scanner_span__lexis_isDigit.f k s (i : Int) (from_ : Int) = some (s.extract i (i + from_ + (((bl s).drop (i + from_)).takeWhile digitB).length), s, (i : Int)) := by
  unfold lexis_scanner_span__lexis_isDigit.f
  have e : mn (wrap64 ((i : Int) + (from_ : Int))) (s.size : Int) = ((i + from_ : Nat) : Int) := by
    rw [w64 (by omega) (by omega)]; unfold mn; split <;> omega
  rw [e]
  exact span_digit s hs i _ (i + from_) k rfl (by rw [List.length_drop, bl_length]; omega) h (by omega)

theorem span_alnum (s : ByteArray) (hs : s.size ≤ 140737488355328) (at_ : Nat) : ∀ (l : List UInt8) (j k : Nat), (bl s).drop j = l → l.length + 1 ≤ k → j ≤ s.size → at_ ≤ j →
    lexis_scanner_span__lexis_scanner_address_1.l0 k (j : Int) s (at_ : Int) = some (s.extract at_ (j + (l.takeWhile alnumB).length), s, (at_ : Int)) := by
  intro l
  induction l with
  | nil =>
    intro j k hd hk hj ha
    obtain ⟨k, rfl⟩ : ∃ m, k = m + 1 := ⟨k - 1, by omega⟩
    have := drop_none hd
    simp only [lexis_scanner_span__lexis_scanner_address_1.l0]
    rw [if_neg (by omega), if_pos (by omega), if_pos (by omega), if_pos (by omega)]
    simp
  | cons c r ih =>
    intro j k hd hk hj ha
    obtain ⟨h1, h2, h3⟩ := bt_drop hd
    obtain ⟨k, rfl⟩ : ∃ m, k = m + 1 := ⟨k - 1, by simp at hk; omega⟩
    simp only [lexis_scanner_span__lexis_scanner_address_1.l0]
    rw [if_pos (by omega), if_pos (by omega), h1, alnum_f]
    simp only [Option.bind_some]
    cases hp : alnumB c with
    | true =>
      simp only [if_true]
      rw [w64 (by omega) (by omega), show ((j : Int) + 1) = ((j + 1 : Nat) : Int) by omega, ih (j + 1) k h3 (by simp at hk; omega) (by omega) (by omega), List.takeWhile_cons_of_pos hp]
      simp only [List.length_cons]
      rw [show j + 1 + (List.takeWhile alnumB r).length = j + ((List.takeWhile alnumB r).length + 1) by omega]
    | false =>
      rw [List.takeWhile_cons_of_neg (by simp [hp])]
      simp only [Bool.false_eq_true, if_false]
      rw [if_pos (by omega), if_pos (by omega), if_pos (by omega)]
      simp
theorem spanf_alnum (s : ByteArray) (hs : s.size ≤ 140737488355328) (i from_ : Nat) (h : i + from_ ≤ s.size) (k : Nat) (hk : s.size + 1 ≤ k) :
    lexis_scanner_span__lexis_scanner_address_1.f k s (i : Int) (from_ : Int) = some (s.extract i (i + from_ + (((bl s).drop (i + from_)).takeWhile alnumB).length), s, (i : Int)) := by
  unfold lexis_scanner_span__lexis_scanner_address_1.f
  have e : mn (wrap64 ((i : Int) + (from_ : Int))) (s.size : Int) = ((i + from_ : Nat) : Int) := by
    rw [w64 (by omega) (by omega)]; unfold mn; split <;> omega
  rw [e]
  exact span_alnum s hs i _ (i + from_) k rfl (by rw [List.length_drop, bl_length]; omega) h (by omega)

theorem cutPrefix_f (s p : ByteArray) : strings_CutPrefix.f s p = some (if p.size ≤ s.size ∧ (bl s).take p.size = bl p then (s.extract p.size s.size, true) else (s, false)) := by
  have h0 := hasPrefix_f s p
  unfold strings_HasPrefix.f at h0
  unfold strings_CutPrefix.f stringslite_CutPrefix.f
  cases hh : stringslite_HasPrefix.f s p with
  | none => rw [hh] at h0; cases h0
  | some b =>
    rw [hh] at h0
    simp only [Option.bind_some, Option.some.injEq] at h0
    simp only [Option.bind_some]
    subst h0
    by_cases hc : p.size ≤ s.size ∧ (bl s).take p.size = bl p
    · rw [if_pos hc, if_pos (by simp [hc.1, hc.2]), if_pos (by omega), if_pos (by omega)]
      simp
    · rw [if_neg hc, if_neg (by simpa using hc)]
      simp
theorem size_bl (s : ByteArray) : s.size = (bl s).length := (bl_length s).symm

theorem isTime_f (s : ByteArray) (hs : s.size ≤ 140737488355328) : lexis_isTime.f s = some (isTimeB (bl s)) := by
  unfold lexis_isTime.f isTimeB
  rw [cutPrefix_f]
  simp only [Option.bind_some]
  have e2 : (⟨#[116, 35]⟩ : ByteArray).size = 2 := rfl
  have eb : bl ⟨#[116, 35]⟩ = [116, 35] := rfl
  rw [e2, eb]
  by_cases hc : 2 ≤ s.size ∧ (bl s).take 2 = [116, 35]
  · rw [if_pos hc]
    simp only [if_true]
    have hn := isNumeral_f (s.extract 2 s.size) (by rw [size_bl, extract_end, List.length_drop, bl_length]; omega) 2147483647 (by omega)
    rw [show ((2147483647 : Nat) : Int) = 2147483647 from rfl] at hn
    rw [hn, extract_end]
    simp [hc.2]
  · rw [if_neg hc]
    have : ¬ ((bl s).take 2 = [116, 35]) := fun e => hc ⟨by
      have := congrArg List.length e
      rw [List.length_take, bl_length] at this
      simp at this; omega, e⟩
    simp [this]

theorem indexByte_iqm (c : UInt8) : (decide (Lib.indexByte [105, 113, 109] c ≥ 0)) = (c == 105 || c == 113 || c == 109) := by
  by_cases h1 : c = 105
  · subst h1; rfl
  by_cases h2 : c = 113
  · subst h2; rfl
  by_cases h3 : c = 109
  · subst h3; rfl
  simp [Lib.indexByte, h1, h2, h3, Ne.symm h1, Ne.symm h2, Ne.symm h3]
theorem isAddress_f (s : ByteArray) (hs : s.size ≤ 140737488355328) : lexis_IsAddress.f s = some (isAddrB (bl s)) := by
  unfold lexis_IsAddress.f isAddrB
  rcases hb : bl s with _ | ⟨c, _ | ⟨d, r⟩⟩
  · have : s.size = 0 := by rw [size_bl, hb]; rfl
    rw [if_neg (by omega)]; simp
  · have : s.size = 1 := by rw [size_bl, hb]; rfl
    rw [if_neg (by omega)]; simp
  · have hsz : s.size = r.length + 2 := by rw [size_bl, hb]; rfl
    have h0 : bt s 0 = (c.toNat : Int) := bt_nat s 0 c (by rw [hb]; rfl)
    have h1 : bt s 1 = (d.toNat : Int) := bt_nat s 1 d (by rw [hb]; rfl)
    have e0 : ((c.toNat : Int) = 37) ↔ c = 37 := by
      have := byte_eq c 37 (by decide)
      rw [Bool.eq_iff_iff, beq_iff_eq, beq_iff_eq] at this
      exact this
    cases r with
    | nil =>
      rw [if_neg (by simp at hsz; omega)]
      simp [isNumB]
    | cons x r' =>
      rw [if_pos (by simp at hsz; omega), if_pos (by omega), h0]
      by_cases hc : c = 37
      · rw [if_pos (e0.2 hc), if_pos (by simp at hsz; omega), h1]
        unfold strings_IndexByte.f
        simp only [Option.bind_some]
        have hi := indexByte_iqm d
        rw [show ((d.toNat : Int)).toNat.toUInt8 = d from by rw [Int.toNat_natCast]; exact UInt8.ofNat_toNat]
        have hn := isNumeral_f (s.extract 2 s.size) (by rw [size_bl, extract_end, List.length_drop, bl_length]; omega) 63 (by omega)
        rw [show ((63 : Nat) : Int) = 63 from rfl] at hn
        rw [hn, extract_end, hb]
        by_cases hd : Lib.indexByte [105, 113, 109] d ≥ 0
        · rw [if_pos hd, if_pos (by omega)]
          have : (d == 105 || d == 113 || d == 109) = true := by rw [← hi]; simpa using hd
          simp at this
          simp [hc, this]
        · rw [if_neg hd]
          have : (d == 105 || d == 113 || d == 109) = false := by rw [← hi]; simpa using hd
          simp at this
          simp [hc, this]
      · rw [if_neg (fun h => hc (e0.1 h))]
        simp [hc]

/-! ### the five readers -/
theorem take_takeWhile {p : UInt8 → Bool} (l : List UInt8) : l.take (l.takeWhile p).length = l.takeWhile p := by
  induction l with
  | nil => rfl
  | cons c r ih =>
    cases h : p c with
    | true => rw [List.takeWhile_cons_of_pos h]; simp [ih]
    | false => rw [List.takeWhile_cons_of_neg (by simp [h])]; rfl
theorem takeWhile_length_le {p : UInt8 → Bool} (l : List UInt8) : (l.takeWhile p).length ≤ l.length := (List.takeWhile_sublist p).length_le

def answer (T : Int × List UInt8) (s : ByteArray) (i : Int) : Option (Int × ByteArray × Int × Int × ByteArray × Int) := some (T.1, ⟨T.2.toArray⟩, 0, T.2.length, s, i)
theorem token_true (k : Int) (t : ByteArray) : lexis_token.f k t true = some (k, t, 0, (t.size : Int)) := rfl
theorem token_false (k : Int) (t : ByteArray) : lexis_token.f k t false = some (0, ⟨#[]⟩, 0, 0) := rfl
theorem of_bl {t : ByteArray} {l : List UInt8} (h : bl t = l) : t = ⟨l.toArray⟩ ∧ (t.size : Int) = (l.length : Int) := by
  subst h
  exact ⟨(mk_bl t).symm, by rw [bl_length]⟩

def wordT (l : List UInt8) : Int × List UInt8 := if isWordB (l.takeWhile partB) then (5, l.takeWhile partB) else if isNameB (l.takeWhile partB) then (1, l.takeWhile partB) else (0, [])
def timeT (r : List UInt8) : Int × List UInt8 := if isTimeB (116 :: 35 :: r.takeWhile digitB) then (3, 116 :: 35 :: r.takeWhile digitB) else (0, [])
def numT (l : List UInt8) : Int × List UInt8 := if isNumB (l.takeWhile digitB) 2147483647 then (2, l.takeWhile digitB) else (0, [])
def addrT (r : List UInt8) : Int × List UInt8 := if isAddrB (37 :: r.takeWhile alnumB) then (6, 37 :: r.takeWhile alnumB) else (0, [])
def signT (l : List UInt8) : Int × List UInt8 := if isSignB (l.take 2) then (4, l.take 2) else if isSignB (l.take 1) then (4, l.take 1) else (0, [])

theorem word_f (s : ByteArray) (hs : s.size ≤ 140737488355328) (i : Nat) (hi : i ≤ s.size) (k : Nat) (hk : s.size + 1 ≤ k) : lexis_scanner_word.f k s (i : Int) = answer (wordT ((bl s).drop i)) s i := by
  unfold lexis_scanner_word.f
  have e := spanf_part s hs i 0 (by omega) k hk
  rw [show ((0 : Nat) : Int) = 0 from rfl, Nat.add_zero] at e
  rw [e]
  simp only [Option.bind_some]
  generalize ht : s.extract i (i + (List.takeWhile partB (List.drop i (bl s))).length) = t
  have hb : bl t = (List.takeWhile partB (List.drop i (bl s))) := by
    rw [← ht, extract_bl, Nat.add_sub_cancel_left, take_takeWhile]
  have hl : t.size ≤ s.size := by
    rw [size_bl, hb]
    have := takeWhile_length_le (p := partB) (List.drop i (bl s))
    rw [List.length_drop, bl_length] at this
    omega
  rw [isWord_f, hb]
  simp only [Option.bind_some]
  obtain ⟨h1, h2⟩ := of_bl hb
  unfold answer wordT
  cases hw : isWordB (List.takeWhile partB (List.drop i (bl s))) with
  | true => simp only [if_true, token_true, Option.bind_some]; rw [h2, ← h1]
  | false =>
    simp only [Bool.false_eq_true, if_false]
    rw [isName_f t (by omega) k (by omega), hb]
    simp only [Option.bind_some]
    cases hn : isNameB (List.takeWhile partB (List.drop i (bl s))) with
    | true => simp only [if_true, token_true, Option.bind_some]; rw [h2, ← h1]
    | false => simp [token_false]

theorem numeral_f (s : ByteArray) (hs : s.size ≤ 140737488355328) (i : Nat) (hi : i ≤ s.size) (k : Nat) (hk : s.size + 1 ≤ k) : lexis_scanner_numeral.f k s (i : Int) = answer (numT ((bl s).drop i)) s i := by
  unfold lexis_scanner_numeral.f
  have e := spanf_digit s hs i 0 (by omega) k hk
  rw [show ((0 : Nat) : Int) = 0 from rfl, Nat.add_zero] at e
  rw [e]
  simp only [Option.bind_some]
  generalize ht : s.extract i (i + (List.takeWhile digitB (List.drop i (bl s))).length) = t
  have hb : bl t = (List.takeWhile digitB (List.drop i (bl s))) := by
    rw [← ht, extract_bl, Nat.add_sub_cancel_left, take_takeWhile]
  have hl : t.size ≤ s.size := by
    rw [size_bl, hb]
    have := takeWhile_length_le (p := digitB) (List.drop i (bl s))
    rw [List.length_drop, bl_length] at this
    omega
  have hn := isNumeral_f t (by omega) 2147483647 (by omega)
  rw [show ((2147483647 : Nat) : Int) = 2147483647 from rfl] at hn
  rw [hn, hb]
  simp only [Option.bind_some]
  obtain ⟨h1, h2⟩ := of_bl hb
  unfold answer numT
  cases hw : isNumB (List.takeWhile digitB (List.drop i (bl s))) 2147483647 with
  | true => simp only [if_true, token_true, Option.bind_some]; rw [h2, ← h1]
  | false => simp [token_false]

theorem time_f (s : ByteArray) (hs : s.size ≤ 140737488355328) (i : Nat) (r : List UInt8) (hd : (bl s).drop i = 116 :: 35 :: r) (k : Nat) (hk : s.size + 1 ≤ k) : lexis_scanner_time.f k s (i : Int) = answer (timeT r) s i := by
  unfold lexis_scanner_time.f
  obtain ⟨_, h2, h3⟩ := bt_drop hd
  obtain ⟨_, h4, h5⟩ := bt_drop h3
  have e := spanf_digit s hs i 2 (by omega) k hk
  rw [show ((2 : Nat) : Int) = 2 from rfl, show i + 2 = i + 1 + 1 from rfl, h5] at e
  rw [e]
  simp only [Option.bind_some]
  generalize ht : s.extract i (i + 1 + 1 + (List.takeWhile digitB r).length) = t
  have hb : bl t = 116 :: 35 :: (List.takeWhile digitB r) := by
    rw [← ht, extract_bl, hd, show i + 1 + 1 + (List.takeWhile digitB r).length - i = (List.takeWhile digitB r).length + 1 + 1 by omega]
    simp [take_takeWhile]
  have hl : t.size ≤ s.size := by
    rw [size_bl, hb]
    have := takeWhile_length_le (p := digitB) r
    have h6 : r.length = s.size - (i + 1 + 1) := by rw [← h5, List.length_drop, bl_length]
    simp only [List.length_cons]
    omega
  rw [isTime_f t (by omega), hb]
  simp only [Option.bind_some]
  obtain ⟨h1, h2⟩ := of_bl hb
  unfold answer timeT
  cases hw : isTimeB (116 :: 35 :: List.takeWhile digitB r) with
  | true => simp only [if_true, token_true, Option.bind_some]; rw [h2, ← h1]
  | false => simp [token_false]

theorem address_f (s : ByteArray) (hs : s.size ≤ 140737488355328) (i : Nat) (r : List UInt8) (hd : (bl s).drop i = 37 :: r) (k : Nat) (hk : s.size + 1 ≤ k) : lexis_scanner_address.f k s (i : Int) = answer (addrT r) s i := by
  unfold lexis_scanner_address.f
  obtain ⟨_, h2, h3⟩ := bt_drop hd
  have e := spanf_alnum s hs i 1 (by omega) k hk
  rw [show ((1 : Nat) : Int) = 1 from rfl, h3] at e
  rw [e]
  simp only [Option.bind_some]
  generalize ht : s.extract i (i + 1 + (List.takeWhile alnumB r).length) = t
  have hb : bl t = 37 :: (List.takeWhile alnumB r) := by
    rw [← ht, extract_bl, hd, show i + 1 + (List.takeWhile alnumB r).length - i = (List.takeWhile alnumB r).length + 1 by omega]
    simp [take_takeWhile]
  have hl : t.size ≤ s.size := by
    rw [size_bl, hb]
    have := takeWhile_length_le (p := alnumB) r
    have h6 : r.length = s.size - (i + 1) := by rw [← h3, List.length_drop, bl_length]
    simp only [List.length_cons]
    omega
  rw [isAddress_f t (by omega), hb]
  simp only [Option.bind_some]
  obtain ⟨h1, h2⟩ := of_bl hb
  unfold answer addrT
  cases hw : isAddrB (37 :: List.takeWhile alnumB r) with
  | true => simp only [if_true, token_true, Option.bind_some]; rw [h2, ← h1]
  | false => simp [token_false]

theorem sign_f (s : ByteArray) (hs : s.size ≤ 140737488355328) (i : Nat) (hi : i < s.size) (k : Nat) (hk : 3 ≤ k) : lexis_scanner_sign.f k s (i : Int) = answer (signT ((bl s).drop i)) s i := by
  unfold lexis_scanner_sign.f
  obtain ⟨k, rfl⟩ : ∃ m, k = m + 3 := ⟨k - 3, by omega⟩
  have zero : lexis_scanner_sign.l0 (k + 1) 0 s (i : Int) = some (0, ⟨#[]⟩, 0, 0, s, (i : Int)) := by
    simp only [lexis_scanner_sign.l0]; rw [if_neg (by decide)]
  have one : ∀ k' : Nat, lexis_scanner_sign.l0 k' 0 s (i : Int) = some (0, ⟨#[]⟩, 0, 0, s, (i : Int)) →
      lexis_scanner_sign.l0 (k' + 1) 1 s (i : Int) = answer (if isSignB (((bl s).drop i).take 1) then (4, ((bl s).drop i).take 1) else (0, [])) s i := by
    intro k' hz
    simp only [lexis_scanner_sign.l0]
    have ew : wrap64 ((i : Int) + 1) = ((i + 1 : Nat) : Int) := by rw [w64 (by omega) (by omega)]; omega
    rw [ew, if_pos (by decide), if_pos (by omega), if_pos (by omega), if_pos (by omega), isSign_f]
    simp only [Option.bind_some, Int.toNat_natCast]
    have hb : bl (s.extract i (i + 1)) = ((bl s).drop i).take 1 := by rw [extract_bl, Nat.add_sub_cancel_left]
    obtain ⟨h1, h2⟩ := of_bl hb
    rw [hb]
    unfold answer
    cases hw : isSignB (((bl s).drop i).take 1) with
    | true => simp only [if_true, token_true, Option.bind_some]; rw [h2, ← h1]
    | false =>
      simp only [Bool.false_eq_true, if_false]
      rw [show wrap64 ((1 : Int) - 1) = 0 from by unfold wrap64; omega, hz]
      simp
  by_cases h2 : s.size = i + 1
  · have e : mn 2 (wrap64 ((s.size : Int) - (i : Int))) = 1 := by rw [w64 (by omega) (by omega)]; unfold mn; split <;> omega
    rw [e, one (k + 2) (by simp only [lexis_scanner_sign.l0]; rw [if_neg (by decide)])]
    have h3 : ((bl s).drop i).take 2 = ((bl s).drop i).take 1 := by
      have : ((bl s).drop i).length = 1 := by rw [List.length_drop, bl_length]; omega
      rw [List.take_of_length_le (by omega), List.take_of_length_le (by omega)]
    unfold signT
    rw [h3]
    cases isSignB (((bl s).drop i).take 1) <;> rfl
  · have e : mn 2 (wrap64 ((s.size : Int) - (i : Int))) = 2 := by rw [w64 (by omega) (by omega)]; unfold mn; split <;> omega
    rw [e]
    simp only [lexis_scanner_sign.l0]
    have ew : wrap64 ((i : Int) + 2) = ((i + 2 : Nat) : Int) := by rw [w64 (by omega) (by omega)]; omega
    rw [ew, if_pos (by decide), if_pos (by omega), if_pos (by omega), if_pos (by omega), isSign_f]
    simp only [Option.bind_some, Int.toNat_natCast]
    have hb : bl (s.extract i (i + 2)) = ((bl s).drop i).take 2 := by rw [extract_bl, Nat.add_sub_cancel_left]
    obtain ⟨h1, h2⟩ := of_bl hb
    rw [hb]
    unfold signT
    cases hw : isSignB (((bl s).drop i).take 2) with
    | true => unfold answer; simp only [if_true, token_true, Option.bind_some]; rw [h2, ← h1]
    | false =>
      simp only [Bool.false_eq_true, if_false]
      rw [show wrap64 ((2 : Int) - 1) = 1 from by unfold wrap64; omega]
      exact one (k + 1) zero

theorem tokL_time (r : List UInt8) : tokL (116 :: 35 :: r) = timeT r := by
  unfold tokL timeT; simp
theorem tokL_word (c : UInt8) (r : List UInt8) (h1 : ¬ (c = 116 ∧ r.head? = some 35)) (h2 : letterB c = true) : tokL (c :: r) = wordT (c :: r) := by
  unfold tokL wordT
  have : (c == 116 && r.head? == some 35) = false := by simpa using h1
  simp only [this, h2]
  simp
theorem tokL_num (c : UInt8) (r : List UInt8) (h2 : letterB c = false) (h3 : digitB c = true) : tokL (c :: r) = numT (c :: r) := by
  unfold tokL numT
  have : (c == 116 && r.head? == some 35) = false := by
    have : c ≠ 116 := by rintro rfl; revert h2; decide
    simp [this]
  simp only [this, h2, h3]
  simp
theorem tokL_addr (r : List UInt8) : tokL (37 :: r) = addrT r := by
  unfold tokL addrT
  have h1 : letterB 37 = false := by decide
  have h2 : digitB 37 = false := by decide
  simp [h1, h2]
theorem tokL_sign (c : UInt8) (r : List UInt8) (h2 : letterB c = false) (h3 : digitB c = false) (h4 : c ≠ 37) : tokL (c :: r) = signT (c :: r) := by
  unfold tokL signT
  have : (c == 116 && r.head? == some 35) = false := by
    have : c ≠ 116 := by rintro rfl; revert h2; decide
    simp [this]
  have h5 : (c == 37) = false := by simpa using h4
  simp only [this, h2, h3, h5, Bool.false_eq_true, if_false]
  rfl
end Go.Proofs.YtlbaojjnilnhlaaDoor.PA
