/-
  The tokens of a source, plainly: over lists of bytes. No program stands in it but for the type of a token.
  What Atoi and Itoa together say of a string is what the document says of a numeral. Plain Lean.
-/
import Derived.Test.YtlbaojjnilnhlaaDoorPAx0
import Derived.Lib.AtoiAll
import Derived.Lib.ItoaNum
namespace Go.Proofs.YtlbaojjnilnhlaaDoor.PA
set_option linter.unusedVariables false

def blankB (c : UInt8) : Bool := c == 9 || c == 10 || c == 13 || c == 32
/-- How many bytes of blanks and comments stand at the beginning. -/
def skipN : Bool → List UInt8 → Nat
  | _, [] => 0
  | true, c :: r => skipN (c != 10) r + 1
  | false, c :: r => if blankB c then skipN false r + 1 else if c == 47 && r.head? == some 47 then skipN true r + 1 else 0
def letterB (c : UInt8) : Bool := decide (97 ≤ c) && decide (c ≤ 122)
def digitB (c : UInt8) : Bool := decide (48 ≤ c) && decide (c ≤ 57)
def alnumB (c : UInt8) : Bool := letterB c || digitB c
def partB (c : UInt8) : Bool := letterB c || digitB c || c == 95
def wordsL : List (List UInt8) := [[97, 100, 100], [97, 110, 100], [97, 110, 100, 110], [97, 116], [98, 108, 111, 99, 107], [98, 111, 111, 108], [98, 111, 120], [98, 121], [99, 97, 108], [99, 97, 108, 99], [99, 97, 108, 99, 110], [99, 97, 115, 101], [100, 101, 108, 97, 121], [100, 105, 118], [100, 111], [101, 108, 115, 101], [101, 108, 115, 105, 102], [101, 110, 100], [101, 110, 100, 95, 99, 97, 115, 101], [101, 110, 100, 95, 102, 111, 114], [101, 110, 100, 95, 105, 102], [101, 110, 100, 95, 114, 101, 112, 101, 97, 116], [101, 110, 100, 95, 119, 104, 105, 108, 101], [101, 110, 116, 101, 114], [101, 113], [101, 118, 101, 114, 121], [101, 120, 105, 116], [102, 97, 108, 108], [102, 97, 108, 115, 101], [102, 98, 100], [102, 111, 114], [102, 114, 111, 109], [102, 117, 110, 99, 116, 105, 111, 110], [103, 101], [103, 116], [105, 102], [105, 108], [105, 110, 105, 116, 105, 97, 108], [105, 110, 112, 117, 116], [105, 110, 116], [106, 109, 112], [106, 109, 112, 99], [106, 109, 112, 99, 110], [106, 117, 109, 112], [108, 100], [108, 100, 110], [108, 101], [108, 101, 97, 118, 101], [108, 105, 109, 105, 116, 95], [108, 111, 99, 97, 108], [108, 116], [109, 97, 99, 114, 111], [109, 111, 100], [109, 117, 108], [110, 101], [110, 111, 116], [111, 102], [111, 114], [111, 114, 110], [111, 117, 116, 112, 117, 116], [112, 104, 97, 115, 101], [112, 114, 105, 111, 114, 105, 116, 121], [112, 114, 111, 103, 114, 97, 109], [114, 101, 112, 101, 97, 116], [114, 101, 115, 101, 116], [114, 101, 116], [114, 101, 116, 97, 105, 110], [114, 101, 116, 99], [114, 101, 116, 99, 110], [114, 101, 116, 117, 114, 110], [114, 105, 115, 101], [114, 117, 110], [114, 117, 110, 103], [115, 101, 116], [115, 102, 99], [115, 116], [115, 116, 101, 112], [115, 116, 110], [115, 117, 98], [116, 97, 115, 107], [116, 104, 101, 110], [116, 105, 109, 101], [116, 111], [116, 114, 97, 110, 115, 105, 116, 105, 111, 110], [116, 114, 117, 101], [117, 110, 116, 105, 108], [119, 104, 101, 110], [119, 104, 105, 108, 101], [120, 111, 114], [120, 111, 114, 110]]
def signsL : List (List UInt8) := [[40], [41], [91], [93], [44], [59], [58], [46], [58, 61], [61], [60, 62], [60], [60, 61], [62], [62, 61], [43], [45], [42], [47], [38], [124], [45, 62]]
def isWordB (l : List UInt8) : Bool := wordsL.contains l
def isSignB (l : List UInt8) : Bool := signsL.contains l
def isRunB (l : List UInt8) : Bool := l.all partB && (l.head?.map letterB).getD false
def isNameB (l : List UInt8) : Bool := isRunB l && decide (l.length ≤ 12) && !isWordB l
def valD (l : List UInt8) : Nat := l.foldl (fun n c => 10 * n + (c.toNat - 48)) 0
def isNumB (l : List UInt8) (most : Nat) : Bool := !l.isEmpty && l.all digitB && (l.length == 1 || l.head? != some 48) && decide (valD l ≤ most)
def isTimeB (l : List UInt8) : Bool := l.take 2 == [116, 35] && isNumB (l.drop 2) 2147483647
def isAddrB (l : List UInt8) : Bool := l.head? == some 37 && ((l.drop 1).head? == some 105 || (l.drop 1).head? == some 113 || (l.drop 1).head? == some 109) && isNumB (l.drop 2) 63
/-- The kind and the text of the token at the beginning; an empty text: there is none. -/
def tokL : List UInt8 → Int × List UInt8
  | [] => (0, [])
  | c :: r =>
    if c == 116 && r.head? == some 35 then (if isTimeB (c :: 35 :: (r.drop 1).takeWhile digitB) then (3, c :: 35 :: (r.drop 1).takeWhile digitB) else (0, []))
    else if letterB c then (if isWordB ((c :: r).takeWhile partB) then (5, (c :: r).takeWhile partB) else if isNameB ((c :: r).takeWhile partB) then (1, (c :: r).takeWhile partB) else (0, []))
    else if digitB c then (if isNumB ((c :: r).takeWhile digitB) 2147483647 then (2, (c :: r).takeWhile digitB) else (0, []))
    else if c == 37 then (if isAddrB (c :: r.takeWhile alnumB) then (6, c :: r.takeWhile alnumB) else (0, []))
    else if isSignB ((c :: r).take 2) then (4, (c :: r).take 2)
    else if isSignB [c] then (4, [c]) else (0, [])
/-- The tokens at positions from 'at_' on, each with its length; one without a length is where there is none. -/
def items : Nat → List UInt8 → Int → List (S33 × Int)
  | 0, _, _ => []
  | f + 1, l, at_ =>
    if (l.drop (skipN false l)).isEmpty then []
    else if (tokL (l.drop (skipN false l))).2.isEmpty then [(⟨0, ⟨#[]⟩, at_ + skipN false l⟩, 0)]
    else (⟨(tokL (l.drop (skipN false l))).1, ⟨(tokL (l.drop (skipN false l))).2.toArray⟩, at_ + skipN false l⟩, (tokL (l.drop (skipN false l))).2.length)
      :: items f ((l.drop (skipN false l)).drop (tokL (l.drop (skipN false l))).2.length) (at_ + skipN false l + (tokL (l.drop (skipN false l))).2.length)
/-- What Tokens makes of them. -/
def finish (size : Int) : List (S33 × Int) → List S33 → List S33 × Int × Int
  | [], acc => (acc ++ [⟨7, ⟨#[]⟩, size⟩], 0, 0)
  | (t, n) :: r, acc => if n = 0 then ([], t.f2, 4) else finish size r (acc ++ [t])
def toksOf (s : ByteArray) : List S33 × Int × Int :=
  if s.size > 8000 then ([], 0, 5) else finish s.size (items (s.size + 1) s.data.toList 0) []
/-- What lexis.Tokens answers. -/
def lexis_Tokens.f (a0 : ByteArray) : Option (List S33 × Int × Int) := some (toksOf a0)

end Go.Proofs.YtlbaojjnilnhlaaDoor.PA

namespace Go.Proofs.YtlbaojjnilnhlaaDoor.PA
open Go

/-- A numeral, as strconv's Atoi and Itoa tell it. -/
def numB (l : List UInt8) (most : Int) : Bool :=
  match Lib.atoiAll l with
  | .ok v => (Lib.itoa v == l) && decide (0 ≤ v) && decide (v ≤ most)
  | _ => false

theorem digit_iff (c : UInt8) : digitB c = true ↔ 48 ≤ c.toNat ∧ c.toNat ≤ 57 := by
  unfold digitB
  simp [UInt8.le_iff_toNat_le]
theorem letter_iff (c : UInt8) : letterB c = true ↔ 97 ≤ c.toNat ∧ c.toNat ≤ 122 := by
  unfold letterB
  simp [UInt8.le_iff_toNat_le]

theorem valD_snoc (l : List UInt8) (c : UInt8) : valD (l ++ [c]) = 10 * valD l + (c.toNat - 48) := by
  unfold valD
  rw [List.foldl_append]
  rfl

def valFrom (acc : Nat) (l : List UInt8) : Nat := l.foldl (fun n c => 10 * n + (c.toNat - 48)) acc
theorem valFrom_le (l : List UInt8) : ∀ acc, acc ≤ valFrom acc l := by
  induction l with
  | nil => intro acc; exact Nat.le_refl _
  | cons c r ih => intro acc; have := ih (10 * acc + (c.toNat - 48)); show acc ≤ valFrom (10 * acc + (c.toNat - 48)) r; omega

theorem parse_digits (l : List UInt8) : ∀ acc, l.all digitB = true → valFrom acc l < 9223372036854775808 → Lib.parseUint10 acc l = .ok (valFrom acc l) := by
  induction l with
  | nil => intro acc _ _; rfl
  | cons c r ih =>
    intro acc ha hv
    simp only [List.all_cons, Bool.and_eq_true] at ha
    have hc := (digit_iff c).1 ha.1
    have hv' : valFrom (10 * acc + (c.toNat - 48)) r < 9223372036854775808 := hv
    have hle := valFrom_le r (10 * acc + (c.toNat - 48))
    unfold Lib.parseUint10
    rw [if_pos hc, if_neg (by omega), if_neg (by omega), show acc * 10 + (c.toNat - 48) = 10 * acc + (c.toNat - 48) by omega]
    exact ih _ ha.2 hv'

theorem ofNat_digit {d : Nat} (h : d < 10) : (UInt8.ofNat (48 + d)).toNat = 48 + d := by
  rw [UInt8.toNat_ofNat']
  omega

/-- What decDigits writes: digits, no needless 0 in front, of just this number. -/
theorem dec_facts (u : Nat) : (Lib.decDigits u).all digitB = true ∧ valD (Lib.decDigits u) = u ∧ Lib.decDigits u ≠ [] ∧ ((Lib.decDigits u).length = 1 ∨ (Lib.decDigits u).head? ≠ some 48) := by
  induction u using Nat.strongRecOn with
  | ind u ih =>
    by_cases hu : u < 10
    · rw [Lib.decDigits_one hu]
      refine ⟨?_, ?_, by simp, .inl rfl⟩
      · simp only [List.all_cons, List.all_nil, Bool.and_true]
        rw [digit_iff, ofNat_digit hu]
        omega
      · show 10 * 0 + ((UInt8.ofNat (48 + u)).toNat - 48) = u
        rw [ofNat_digit hu]
        omega
    · obtain ⟨h1, h2, h3, h4⟩ := ih (u / 10) (by omega)
      have e : Lib.decDigits u = Lib.decDigits (u / 10) ++ [UInt8.ofNat (48 + u % 10)] := by
        conv => lhs; rw [Lib.decDigits, dif_neg hu]
      have hm : u % 10 < 10 := Nat.mod_lt _ (by omega)
      rw [e]
      refine ⟨?_, ?_, by simp, .inr ?_⟩
      · rw [List.all_append, h1]
        simp only [List.all_cons, List.all_nil, Bool.and_true, Bool.true_and]
        rw [digit_iff, ofNat_digit hm]
        omega
      · rw [valD_snoc, h2, ofNat_digit hm]
        omega
      · rw [List.head?_append]
        rcases hd : Lib.decDigits (u / 10) with _ | ⟨c, r⟩
        · exact absurd hd h3
        · rw [hd] at h4 h2 h1
          simp only [List.head?_cons, Option.some_or]
          rcases h4 with h4 | h4
          · have hr : r = [] := by simpa using h4
            subst hr
            intro hc
            have hc' : c = 48 := by simpa using hc
            subst hc'
            have : valD [48] = 0 := rfl
            omega
          · simpa using h4

/-- A canonical numeral is what decDigits writes of its number. -/
theorem dec_of_canon : ∀ (n : Nat) (l : List UInt8), l.length = n → l.all digitB = true → l ≠ [] → (l.length = 1 ∨ l.head? ≠ some 48) → Lib.decDigits (valD l) = l := by
  intro n
  induction n with
  | zero => intro l hl _ hne _; exact absurd (List.length_eq_zero_iff.1 hl) hne
  | succ n ih =>
    intro l hl ha hne hc
    obtain ⟨p, c, rfl⟩ : ∃ p c, l = p ++ [c] := ⟨l.dropLast, l.getLast hne, (List.dropLast_concat_getLast hne).symm⟩
    rw [List.all_append] at ha
    simp only [List.all_cons, List.all_nil, Bool.and_true, Bool.and_eq_true] at ha
    have hd := (digit_iff c).1 ha.2
    rw [valD_snoc]
    by_cases hp : p = []
    · subst hp
      have e0 : valD ([] : List UInt8) = 0 := rfl
      rw [e0]
      have hlt : 10 * 0 + (c.toNat - 48) < 10 := by omega
      rw [Lib.decDigits_one hlt]
      simp only [List.nil_append, List.cons.injEq, and_true]
      rw [← UInt8.toNat_inj, ofNat_digit hlt]
      omega
    · have hh : p.head? ≠ some 48 := by
        rcases hc with hc | hc
        · rw [List.length_append, List.length_singleton] at hc
          exact absurd (List.length_eq_zero_iff.1 (by omega)) hp
        · rw [List.head?_append] at hc
          rcases hp' : p with _ | ⟨a, r⟩
          · exact absurd hp' hp
          · rw [hp'] at hc
            simpa using hc
      have ih' := ih p (by rw [List.length_append, List.length_singleton] at hl; omega) ha.1 hp (.inr hh)
      have hpos : 1 ≤ valD p := by
        rcases Nat.lt_or_ge (valD p) 1 with h0 | h0
        · exfalso
          have hz : valD p = 0 := by omega
          rw [hz, Lib.decDigits_one (by omega)] at ih'
          rw [← ih'] at hh
          exact hh rfl
        · exact h0
      have hnot : ¬ 10 * valD p + (c.toNat - 48) < 10 := by omega
      rw [Lib.decDigits, dif_neg hnot]
      have e1 : (10 * valD p + (c.toNat - 48)) / 10 = valD p := by omega
      have e2 : (10 * valD p + (c.toNat - 48)) % 10 = c.toNat - 48 := by omega
      rw [e1, e2, ih']
      congr 1
      simp only [List.cons.injEq, and_true]
      rw [← UInt8.toNat_inj, ofNat_digit (by omega)]
      omega

theorem num_eq (l : List UInt8) (most : Nat) (hm : most < 9223372036854775808) : numB l (most : Int) = isNumB l most := by
  rw [Bool.eq_iff_iff]
  unfold isNumB
  simp only [Bool.and_eq_true, Bool.not_eq_true', Bool.or_eq_true, decide_eq_true_eq, beq_iff_eq, bne_iff_ne]
  constructor
  · intro h
    unfold numB at h
    cases hA : Lib.atoiAll l
    case ok v =>
      rw [hA] at h
      simp only [Bool.and_eq_true, decide_eq_true_eq, beq_iff_eq] at h
      obtain ⟨⟨h1, h2⟩, h3⟩ := h
      obtain ⟨u, rfl⟩ := Int.eq_ofNat_of_zero_le h2
      have e : Lib.itoa (u : Int) = Lib.decDigits u := by unfold Lib.itoa; rw [if_neg (by omega)]; simp
      rw [e] at h1
      obtain ⟨f1, f2, f3, f4⟩ := dec_facts u
      rw [h1] at f1 f2 f3 f4
      refine ⟨⟨⟨?_, f1⟩, f4⟩, by omega⟩
      cases l with
      | nil => exact absurd rfl f3
      | cons c r => rfl
    all_goals (rw [hA] at h; cases h)
  · rintro ⟨⟨⟨h1, h2⟩, h3⟩, h4⟩
    have hne : l ≠ [] := by rintro rfl; simp at h1
    have hp : Lib.parseUint10 0 l = .ok (valD l) := parse_digits l 0 h2 (show valD l < _ by omega)
    have hA : Lib.atoiAll l = .ok (valD l : Int) := by
      cases l with
      | nil => exact absurd rfl hne
      | cons c r =>
        have hc : digitB c = true := by simp only [List.all_cons, Bool.and_eq_true] at h2; exact h2.1
        have hc' := (digit_iff c).1 hc
        unfold Lib.atoiAll
        have n45 : ¬ c.toNat = 45 := by omega
        have n43 : ¬ (c.toNat = 43 ∨ c.toNat = 45) := by omega
        simp only [if_neg n43, Lib.parseMag]
        rw [if_neg hne, hp]
        simp only [n45, not_false_eq_true, true_and, false_and, if_false]
        rw [if_neg (by omega)]
    unfold numB
    rw [hA]
    have e : Lib.itoa (valD l : Int) = Lib.decDigits (valD l) := by unfold Lib.itoa; rw [if_neg (by omega)]; simp
    simp only [Bool.and_eq_true, decide_eq_true_eq, beq_iff_eq]
    exact ⟨⟨by rw [e]; exact dec_of_canon _ l rfl h2 hne h3, by omega⟩, by omega⟩

end Go.Proofs.YtlbaojjnilnhlaaDoor.PA
