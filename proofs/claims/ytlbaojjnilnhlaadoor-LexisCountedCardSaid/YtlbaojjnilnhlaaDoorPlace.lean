/-
  The line and the column of a position, plainly; what the printed functions Place (of lexis and of the reference) answer.
-/
import Derived.Test.YtlbaojjnilnhlaaDoorPure
import Derived.Test.YtlbaojjnilnhlaaDoorPAx31
import Derived.Test.YtlbaojjnilnhlaaDoorPAx30
import Derived.Test.YtlbaojjnilnhlaaDoorPAx7
import Derived.Test.YtlbaojjnilnhlaaDoorPAx27
namespace Go.Proofs.YtlbaojjnilnhlaaDoor.PA
open Go Go.RowKit Go.Proofs.YtlbaojjnilnhlaaDoorW.PrintWords Go.Proofs.YtlbaojjnilnhlaaDoorW.PrintLast Go.Proofs.YtlbaojjnilnhlaaDoorW.PrintMore
set_option linter.unusedVariables false

theorem awake_f : winchlaw01_awake.f = some true := by decide +kernel

/-- The last place at which a line feed stands, or -1. -/
def lastLF (l : List UInt8) : Int := Lib.lastIndex l [10]
theorem occ_one (l : List UInt8) (j : Nat) : Lib.occAt l [10] j = (l[j]? == some 10) := by
  unfold Lib.occAt
  by_cases h : j < l.length
  · rw [List.drop_eq_getElem_cons h, List.getElem?_eq_getElem h]
    simp [List.isPrefixOf]
    rw [Bool.eq_iff_iff]
    simp only [beq_iff_eq]
    exact eq_comm
  · rw [List.drop_eq_nil_of_le (by omega), List.getElem?_eq_none (by omega)]
    rfl
theorem occ_snoc (l : List UInt8) (c : UInt8) : ∀ k, k ≤ l.length → Lib.lastOcc (l ++ [c]) [10] k = Lib.lastOcc l [10] k := by
  intro k
  induction k with
  | zero => intro _; rfl
  | succ k ih =>
    intro h
    unfold Lib.lastOcc
    rw [occ_one, occ_one, List.getElem?_append_left (by omega), ih (by omega)]
theorem snoc_ind {P : List UInt8 → Prop} (h0 : P []) (h1 : ∀ l c, P l → P (l ++ [c])) (l : List UInt8) : P l := by
  have h : ∀ m : List UInt8, P m.reverse := by
    intro m
    induction m with
    | nil => exact h0
    | cons c m ih => rw [List.reverse_cons]; exact h1 _ _ ih
  have := h l.reverse
  rwa [List.reverse_reverse] at this
theorem lastLF_nil : lastLF [] = -1 := rfl
theorem lastLF_snoc (l : List UInt8) (c : UInt8) : lastLF (l ++ [c]) = if c = 10 then (l.length : Int) else lastLF l := by
  unfold lastLF Lib.lastIndex
  rw [if_pos (by simp), show (l ++ [c]).length - [(10 : UInt8)].length + 1 = l.length + 1 by simp]
  have h0 : (l ++ [c])[l.length]? = some c := by simp
  by_cases h : c = 10
  · rw [if_pos h, Lib.lastOcc_hit _ _ _ (by rw [occ_one, h0, h]; rfl)]
  · rw [if_neg h, Lib.lastOcc_miss _ _ _ (by rw [occ_one, h0]; simpa using h), occ_snoc l c _ (Nat.le_refl _)]
    cases l with
    | nil => rfl
    | cons x l => rw [if_pos (by simp)]; rfl
theorem lastLF_bounds (l : List UInt8) : -1 ≤ lastLF l ∧ lastLF l < l.length := by
  induction l using snoc_ind with
  | h0 => rw [lastLF_nil]; simp
  | h1 l c ih =>
    rw [lastLF_snoc, List.length_append, List.length_singleton]
    split <;> omega
theorem take_snoc {l : List UInt8} {i : Nat} {c : UInt8} (h : l[i]? = some c) : l.take (i + 1) = l.take i ++ [c] := by
  rw [List.take_add_one, h]; rfl
theorem lastLF_spec (l : List UInt8) : (lastLF l = -1 ∧ ∀ j, j < l.length → l[j]? ≠ some 10) ∨ ∃ i : Nat, i < l.length ∧ lastLF l = i ∧ l[i]? = some 10 ∧ ∀ j, i < j → j < l.length → l[j]? ≠ some 10 := by
  induction l using snoc_ind with
  | h0 => exact .inl ⟨rfl, by simp⟩
  | h1 l c ih =>
    rw [lastLF_snoc]
    by_cases h : c = 10
    · rw [if_pos h]
      refine .inr ⟨l.length, by simp, rfl, by simp [h], fun j h1 h2 => ?_⟩
      simp at h2
      omega
    · rw [if_neg h]
      have hl : (l ++ [c])[l.length]? ≠ some 10 := by simpa using h
      rcases ih with ⟨e, hn⟩ | ⟨i, hi, e, h10, hn⟩
      · refine .inl ⟨e, fun j hj => ?_⟩
        rcases Nat.lt_or_ge j l.length with h1 | h1
        · rw [List.getElem?_append_left h1]; exact hn j h1
        · simp at hj
          rw [show j = l.length by omega]; exact hl
      · refine .inr ⟨i, by simp; omega, e, by rw [List.getElem?_append_left hi]; exact h10, fun j h1 hj => ?_⟩
        rcases Nat.lt_or_ge j l.length with h2 | h2
        · rw [List.getElem?_append_left h2]; exact hn j h1 h2
        · simp at hj
          rw [show j = l.length by omega]; exact hl

theorem place_f (s : ByteArray) (hs : s.size ≤ 8000) (p : Nat) (hp : p ≤ s.size) (k : Nat) : lexis_Place.f (k + 1) s (p : Int) = some (1 + (((bl s).take p).count 10 : Int), (p : Int) - lastLF ((bl s).take p), 0) := by
  have hb := lastLF_bounds ((bl s).take p)
  have hc : ((bl s).take p).count 10 ≤ p := Nat.le_trans List.count_le_length (by rw [List.length_take]; omega)
  rw [List.length_take, bl_length] at hb
  unfold lexis_Place.f
  rw [if_neg (by omega), if_neg (by omega), show decide ((p : Int) > (s.size : Int)) = false by simpa using hp]
  rw [lexis_Place.j0]
  rw [if_neg (by simp), if_pos (by omega), if_pos (by omega)]
  have e : bl (s.extract 0 (p : Int).toNat) = (bl s).take p := by rw [Int.toNat_natCast, extract_bl]; rfl
  unfold strings_Count.f strings_LastIndex.f
  have hx : (s.extract 0 (p : Int).toNat).size ≤ s.size := by rw [ByteArray.size_extract]; omega
  rw [if_pos rfl, if_pos (by omega)]
  simp only [Option.bind_some]
  rw [show (s.extract 0 (p : Int).toNat).data.toList = (bl s).take p from e]
  unfold Lib.countByte
  rw [w64 (by omega) (by omega), show Lib.lastIndex ((bl s).take p) (⟨#[10]⟩ : ByteArray).data.toList = lastLF ((bl s).take p) from rfl, w64 (by omega) (by omega)]
theorem place_bad (s : ByteArray) (p : Int) (h : 8000 < s.size ∨ p < 0 ∨ (s.size : Int) < p) (k : Nat) : lexis_Place.f (k + 1) s p = some (0, 0, 2) := by
  unfold lexis_Place.f
  have j : lexis_Place.j0 (k + 1) s p true = some (0, 0, 2) := by rw [lexis_Place.j0]; rw [if_pos rfl]
  by_cases h1 : (s.size : Int) > 8000
  · rw [if_pos h1, j]
  · rw [if_neg h1]
    by_cases h2 : p < 0
    · rw [if_pos h2, j]
    · rw [if_neg h2, show decide (p > (s.size : Int)) = true by simp; omega, j]
theorem refPlace_l (s : ByteArray) (hs : s.size ≤ 8000) (p : Nat) (hp : p ≤ s.size) : ∀ (k i : Nat), p + 1 ≤ k + i → i ≤ p →
    winchref01_Place.l0 k s (p : Int) (1 + (((bl s).take i).count 10 : Int)) ((i : Int) - lastLF ((bl s).take i)) (i : Int) = some (1 + (((bl s).take p).count 10 : Int), (p : Int) - lastLF ((bl s).take p)) := by
  intro k
  induction k with
  | zero => intro i h1 h2; omega
  | succ k ih =>
    intro i h1 h2
    unfold winchref01_Place.l0
    have hb := lastLF_bounds ((bl s).take i)
    have hc : ((bl s).take i).count 10 ≤ i := Nat.le_trans List.count_le_length (by rw [List.length_take]; omega)
    rw [List.length_take, bl_length] at hb
    by_cases h : i < p
    · rw [if_pos (by omega), if_pos (by omega), if_pos (by omega)]
      obtain ⟨c, hcx⟩ : ∃ c, (bl s)[i]? = some c := ⟨_, List.getElem?_eq_getElem (by rw [bl_length]; omega)⟩
      have ih' := ih (i + 1) (by omega) (by omega)
      rw [take_snoc hcx, lastLF_snoc, List.count_append] at ih'
      have hl : ((bl s).take i).length = i := by rw [List.length_take, bl_length]; omega
      rw [bt_nat s i c hcx]
      by_cases hx : c = 10
      · subst hx
        rw [if_pos (by decide), w64 (by omega) (by omega), w64 (by omega) (by omega)]
        rw [if_pos rfl, hl] at ih'
        simp only [List.count_singleton_self] at ih'
        rw [show (1 : Int) + (((bl s).take i).count 10 : Int) + 1 = 1 + ((((bl s).take i).count 10 + 1 : Nat) : Int) by omega, show (i : Int) + 1 = ((i + 1 : Nat) : Int) by omega]
        rw [show ((i + 1 : Nat) : Int) - (i : Int) = 1 by omega] at ih'
        exact ih'
      · have hx' : ¬ ((c.toNat : Int) = 10) := fun e => hx (UInt8.toNat_inj.1 (by exact_mod_cast e))
        rw [if_neg hx', w64 (by omega) (by omega), w64 (by omega) (by omega)]
        rw [if_neg hx, List.count_singleton, if_neg (by simpa using hx)] at ih'
        rw [show (i : Int) - lastLF ((bl s).take i) + 1 = ((i + 1 : Nat) : Int) - lastLF ((bl s).take i) by omega, show (i : Int) + 1 = ((i + 1 : Nat) : Int) by omega]
        exact ih'
    · obtain rfl : i = p := by omega
      rw [if_neg (by omega)]
theorem refPlace_f (s : ByteArray) (hs : s.size ≤ 8000) (p : Nat) (hp : p ≤ s.size) (k : Nat) (hk : p + 1 ≤ k) : winchref01_Place.f k s (p : Int) = some (1 + (((bl s).take p).count 10 : Int), (p : Int) - lastLF ((bl s).take p)) := by
  have := refPlace_l s hs p hp k 0 (by omega) (by omega)
  unfold winchref01_Place.f
  exact this
theorem brief_f (s : ByteArray) : winchlaw01_brief.f s = some (s.extract 0 (min s.size 8001)) := by
  have e : mn (s.size : Int) 8001 = ((min s.size 8001 : Nat) : Int) := by unfold mn; split <;> omega
  unfold winchlaw01_brief.f
  rw [e, if_pos (by omega), if_pos (by omega), Int.toNat_natCast]

theorem LexisPlaces_pure : winchlaw01_LexisPlaces.Pure := by
  intro s p hs hp
  refine ⟨9000, ?_⟩
  unfold winchlaw01_LexisPlaces.f
  rw [brief_f]
  simp only [Option.bind_some]
  have hsz : (s.extract 0 (min s.size 8001)).size = min s.size 8001 := by rw [ByteArray.size_extract]; omega
  generalize hT : s.extract 0 (min s.size 8001) = t at *
  have bad : ∀ (h : 8000 < t.size ∨ p < 0 ∨ (t.size : Int) < p), winchlaw01_LexisPlaces.j0 9000 p t 0 0 2 true = some true := fun _ => by
    rw [winchlaw01_LexisPlaces.j0]
    simp [awake_f]
  by_cases h : 8000 < t.size ∨ p < 0 ∨ (t.size : Int) < p
  · rw [place_bad t p h 8999]
    simp only [Option.bind_some]
    by_cases h1 : (t.size : Int) > 8000
    · rw [if_pos h1, bad h]
    · rw [if_neg h1]
      by_cases h2 : p < 0
      · rw [if_pos h2, bad h]
      · rw [if_neg h2, show decide (p > (t.size : Int)) = true by simp; omega, bad h]
  · obtain ⟨q, rfl⟩ : ∃ q : Nat, p = q := ⟨p.toNat, by omega⟩
    rw [place_f t (by omega) q (by omega) 8999]
    simp only [Option.bind_some]
    rw [if_neg (by omega), if_neg (by omega), show decide ((q : Int) > (t.size : Int)) = false by simp; omega]
    rw [winchlaw01_LexisPlaces.j0]
    rw [if_neg (by simp), refPlace_f t (by omega) q (by omega) 8999 (by omega)]
    simp only [Option.bind_some]
    simp [awake_f]

end Go.Proofs.YtlbaojjnilnhlaaDoor.PA
