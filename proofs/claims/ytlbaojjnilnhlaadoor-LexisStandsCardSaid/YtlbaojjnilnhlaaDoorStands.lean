/-
  The plain law of LexisStands: each token stands at its place, with blanks and comments alone between.
-/
import Derived.Test.YtlbaojjnilnhlaaDoorRef
import Derived.Test.YtlbaojjnilnhlaaDoorExtT
import Derived.Test.YtlbaojjnilnhlaaDoorPAx20
import Derived.Test.YtlbaojjnilnhlaaDoorPAx32
import Derived.Test.YtlbaojjnilnhlaaDoorPAx7
import Derived.Test.YtlbaojjnilnhlaaDoorPAx31
namespace Go.Proofs.YtlbaojjnilnhlaaDoor.PA
open Go Go.RowKit Go.Proofs.YtlbaojjnilnhlaaDoorW.PrintWords Go.Proofs.YtlbaojjnilnhlaaDoorW.PrintLast Go.Proofs.YtlbaojjnilnhlaaDoorW.PrintMore
set_option linter.unusedVariables false
set_option linter.unusedSimpArgs false

theorem awake_s : winchlaw01_awake.f = some true := by decide +kernel
theorem brief_s (s : ByteArray) : winchlaw01_brief.f s = some (s.extract 0 (min s.size 8001)) := by
  have e : mn (s.size : Int) 8001 = ((min s.size 8001 : Nat) : Int) := by unfold mn; split <;> omega
  unfold winchlaw01_brief.f
  rw [e, if_pos (by omega), if_pos (by omega), Int.toNat_natCast]

/-- What a token's kind says of its text. -/
theorem tokL_kind (l : List UInt8) : tokL l = (0, []) ∨ ((tokL l).1 = 3 ∧ isTimeB (tokL l).2 = true) ∨ ((tokL l).1 = 5 ∧ isWordB (tokL l).2 = true) ∨ ((tokL l).1 = 1 ∧ isNameB (tokL l).2 = true) ∨
    ((tokL l).1 = 2 ∧ isNumB (tokL l).2 2147483647 = true) ∨ ((tokL l).1 = 6 ∧ isAddrB (tokL l).2 = true) ∨ ((tokL l).1 = 4 ∧ isSignB (tokL l).2 = true) := by
  generalize h : tokL l = T
  cases l with
  | nil => left; rw [← h]; rfl
  | cons c r =>
    unfold tokL at h
    simp only at h
    repeat' split at h
    all_goals (subst h; first | exact .inl rfl | exact .inr (.inl ⟨rfl, by assumption⟩) | exact .inr (.inr (.inl ⟨rfl, by assumption⟩)) | exact .inr (.inr (.inr (.inl ⟨rfl, by assumption⟩))) | exact .inr (.inr (.inr (.inr (.inl ⟨rfl, by assumption⟩)))) | exact .inr (.inr (.inr (.inr (.inr (.inl ⟨rfl, by assumption⟩))))) | exact .inr (.inr (.inr (.inr (.inr (.inr ⟨rfl, by assumption⟩))))))
theorem isToken_f (l : List UInt8) (h : (tokL l).2 ≠ []) (hl : (tokL l).2.length ≤ 8001) (at_ : Int) (k : Nat) (hk : 20000 ≤ k) :
    winchref01_IsToken.f k (tokL l).1 ⟨(tokL l).2.toArray⟩ at_ = some true ∧ (tokL l).1 ≠ 7 := by
  have hb : bl ⟨(tokL l).2.toArray⟩ = (tokL l).2 := mk_toList _
  have hz : (⟨(tokL l).2.toArray⟩ : ByteArray).size ≤ 8001 := by rw [← bl_length, hb]; exact hl
  generalize (⟨(tokL l).2.toArray⟩ : ByteArray) = t at *
  unfold winchref01_IsToken.f
  rcases tokL_kind l with e | ⟨e, hB⟩ | ⟨e, hB⟩ | ⟨e, hB⟩ | ⟨e, hB⟩ | ⟨e, hB⟩ | ⟨e, hB⟩
  · exact absurd (by rw [e]) h
  all_goals rw [← hb] at hB; rw [e]
  · rw [isTime_r t (by omega) k (by omega), hB]; exact ⟨rfl, by decide⟩
  · rw [isWord_r t k (by omega), hB]; exact ⟨rfl, by decide⟩
  · rw [isName_r t (by omega) k (by omega), hB]; exact ⟨rfl, by decide⟩
  · rw [show (2147483647 : Int) = ((2147483647 : Nat) : Int) from rfl, num_r t (by omega) _ (by omega) k (by omega), hB]; exact ⟨rfl, by decide⟩
  · rw [isAddr_r t (by omega) k (by omega), hB]; exact ⟨rfl, by decide⟩
  · rw [isSign_r t k (by omega), hB]; exact ⟨rfl, by decide⟩

theorem st_nil (c : UInt8) (b : Bool) (F : Bool → Option Bool) :
    (if c = 47 then (if b = true then (if ¬ c = 10 then F (c != 10) else if c = 9 then F (c != 10) else if c = 10 then F (c != 10) else if c = 13 then F (c != 10) else if c = 32 then F (c != 10) else some false)
        else if c = 9 then F false else if c = 10 then F false else if c = 13 then F false else if c = 32 then F false else some false)
      else (if b = true then (if ¬ c = 10 then F (c != 10) else if c = 9 then F (c != 10) else if c = 10 then F (c != 10) else if c = 13 then F (c != 10) else if c = 32 then F (c != 10) else some false)
        else if c = 9 then F false else if c = 10 then F false else if c = 13 then F false else if c = 32 then F false else some false)) =
    if c = 47 ∧ ([] : List UInt8).head? = some 47 then F true else if b = true ∧ c ≠ 10 then F true else if (c = 9 ∨ c = 10 ∨ c = 13 ∨ c = 32) then F false else some false := by
  rw [if_neg (show ¬ (c = 47 ∧ ([] : List UInt8).head? = some 47) by simp)]
  rw [ite_self]
  cases b with
  | false =>
    simp only [Bool.false_eq_true, if_false, false_and]
    by_cases h9 : c = 9
    · subst h9; simp
    · by_cases h10 : c = 10
      · subst h10; simp
      · by_cases h13 : c = 13
        · subst h13; simp
        · simp [h9, h10, h13]
  | true =>
    simp only [if_true, true_and]
    by_cases h10 : c = 10
    · subst h10; simp
    · rw [if_pos h10, if_pos h10, show (c != 10) = true by simpa using h10]
theorem st_cons (c d : UInt8) (b : Bool) (r' : List UInt8) (F : Bool → Option Bool) :
    (if c = 47 then (if d = 47 then F true else (if b = true then (if ¬ c = 10 then F (c != 10) else if c = 9 then F (c != 10) else if c = 10 then F (c != 10) else if c = 13 then F (c != 10) else if c = 32 then F (c != 10) else some false)
        else if c = 9 then F false else if c = 10 then F false else if c = 13 then F false else if c = 32 then F false else some false))
      else (if b = true then (if ¬ c = 10 then F (c != 10) else if c = 9 then F (c != 10) else if c = 10 then F (c != 10) else if c = 13 then F (c != 10) else if c = 32 then F (c != 10) else some false)
        else if c = 9 then F false else if c = 10 then F false else if c = 13 then F false else if c = 32 then F false else some false)) =
    if c = 47 ∧ (d :: r').head? = some 47 then F true else if b = true ∧ c ≠ 10 then F true else if (c = 9 ∨ c = 10 ∨ c = 13 ∨ c = 32) then F false else some false := by
  have h := st_nil c b F
  rw [if_neg (show ¬ (c = 47 ∧ ([] : List UInt8).head? = some 47) by simp), ite_self] at h
  by_cases hc : c = 47
  · rw [if_pos hc]
    by_cases hd : d = 47
    · rw [if_pos hd, if_pos ⟨hc, by simp [hd]⟩]
    · rw [if_neg hd, if_neg (show ¬ (c = 47 ∧ (d :: r').head? = some 47) by simp [hd])]
      exact h
  · rw [if_neg hc, if_neg (show ¬ (c = 47 ∧ (d :: r').head? = some 47) from fun h' => hc h'.1)]
    exact h

set_option maxHeartbeats 2000000 in
theorem stands_l1 (s : ByteArray) (hs : s.size ≤ 8001) (L : List S33) (x8 kd : Int) (tx : ByteArray) (A : Nat) (hA : A ≤ s.size) : ∀ (l : List UInt8) (i k : Nat) (b : Bool), (bl s).drop i = l → i + skipN b l = A → skipN b l + 1 ≤ k →
    ∃ e, winchlaw01_LexisStands.l1 k s L x8 b (i : Int) kd tx (A : Int) = winchlaw01_LexisStands.l1 (k - skipN b l) s L x8 e (A : Int) kd tx (A : Int) ∧ (e = true → A = s.size) := by
  intro l
  induction l with
  | nil =>
    intro i k b hd he hk
    have := drop_none hd
    have e0 : skipN b [] = 0 := by cases b <;> rfl
    rw [e0] at he ⊢
    obtain rfl : i = A := by omega
    exact ⟨b, rfl, fun _ => by omega⟩
  | cons c r ih =>
    intro i k b hd he hk
    obtain ⟨h1, h2, h3⟩ := bt_drop hd
    have hw : wrap64 ((i : Int) + 1) = ((i + 1 : Nat) : Int) := by rw [w64 (by omega) (by omega)]; omega
    -- one step
    have step : ∀ k', i < A → winchlaw01_LexisStands.l1 (k' + 1) s L x8 b (i : Int) kd tx (A : Int) =
        if c = 47 ∧ r.head? = some 47 then winchlaw01_LexisStands.l1 k' s L x8 true ((i + 1 : Nat) : Int) kd tx (A : Int)
        else if b = true ∧ c ≠ 10 then winchlaw01_LexisStands.l1 k' s L x8 true ((i + 1 : Nat) : Int) kd tx (A : Int)
        else if blankB c = true then winchlaw01_LexisStands.l1 k' s L x8 false ((i + 1 : Nat) : Int) kd tx (A : Int) else some false := by
      intro k' hlt
      have e9 : ((c.toNat : Int) = 9) ↔ c = 9 := nB c 9 9 rfl (by omega)
      have e10 : ((c.toNat : Int) = 10) ↔ c = 10 := nB c 10 10 rfl (by omega)
      have e13 : ((c.toNat : Int) = 13) ↔ c = 13 := nB c 13 13 rfl (by omega)
      have e32 : ((c.toNat : Int) = 32) ↔ c = 32 := nB c 32 32 rfl (by omega)
      have e47 : ((c.toNat : Int) = 47) ↔ c = 47 := nB c 47 47 rfl (by omega)
      have h10' : ((c.toNat : Int) == 10) = (c == 10) := byte_eq c 10 (by decide)
      have b10 : ((c.toNat : Int) != 10) = (c != 10) := by unfold bne; rw [h10']
      have hi0 : (0 : Int) ≤ (i : Int) := by omega
      have hi1 : (0 : Int) ≤ ((i + 1 : Nat) : Int) := by omega
      have his : (i : Int) < (s.size : Int) := by omega
      have hiA : (i : Int) < (A : Int) := by omega
      simp only [winchlaw01_LexisStands.l1]
      rw [if_pos hiA]
      simp only [h1, hw, e9, e10, e13, e32, e47, b10, if_pos hi0, if_pos his, if_pos hi1]
      obtain ⟨F, hF⟩ : ∃ F : Bool → Option Bool, ∀ b', winchlaw01_LexisStands.l1 k' s L x8 b' ((i + 1 : Nat) : Int) kd tx (A : Int) = F b' := ⟨_, fun _ => rfl⟩
      simp only [hF]
      have hB : (blankB c = true) ↔ (c = 9 ∨ c = 10 ∨ c = 13 ∨ c = 32) := by simp [blankB, or_assoc]
      simp only [hB]
      clear e9 e10 e13 e32 e47 b10 h10' hB ih
      cases hr : r with
      | nil =>
        subst hr
        have hsz := drop_none h3
        have hn1 : ¬ (((i + 1 : Nat) : Int) < (s.size : Int)) := by omega
        simp only [if_neg hn1]
        clear hF h3 hd hsz hn1
        exact st_nil c b F
      | cons d r' =>
        subst hr
        obtain ⟨g1, g2, g3⟩ := bt_drop h3
        have hn1 : ((i + 1 : Nat) : Int) < (s.size : Int) := by omega
        have d47 : ((d.toNat : Int) = 47) ↔ d = 47 := nB d 47 47 rfl (by omega)
        simp only [if_pos hn1, g1, d47]
        clear hF h3 hd hn1 g1 g2 g3 d47
        exact st_cons c d b r' F
    have adv : ∀ b', skipN b (c :: r) = skipN b' r + 1 → (∀ k', i < A → winchlaw01_LexisStands.l1 (k' + 1) s L x8 b (i : Int) kd tx (A : Int) = winchlaw01_LexisStands.l1 k' s L x8 b' ((i + 1 : Nat) : Int) kd tx (A : Int)) →
        ∃ e, winchlaw01_LexisStands.l1 k s L x8 b (i : Int) kd tx (A : Int) = winchlaw01_LexisStands.l1 (k - skipN b (c :: r)) s L x8 e (A : Int) kd tx (A : Int) ∧ (e = true → A = s.size) := by
      intro b' hsk hst
      rw [hsk] at he hk ⊢
      obtain ⟨k, rfl⟩ : ∃ m, k = m + 1 := ⟨k - 1, by omega⟩
      rw [hst k (by omega)]
      obtain ⟨e, h1, h2⟩ := ih (i + 1) k b' h3 (by omega) (by omega)
      exact ⟨e, by rw [h1]; congr 1; omega, h2⟩
    cases b with
    | true =>
      have hsk : skipN true (c :: r) = skipN (c != 10) r + 1 := rfl
      by_cases hc : c = 10
      · subst hc
        refine adv false (by rw [hsk]; rfl) (fun k' hlt => ?_)
        rw [step k' hlt, if_neg (by simp), if_neg (by simp), if_pos (by decide)]
      · refine adv true (by rw [hsk, show (c != 10) = true by simpa using hc]) (fun k' hlt => ?_)
        rw [step k' hlt]
        split
        · rfl
        · rw [if_pos ⟨rfl, hc⟩]
    | false =>
      by_cases hb : blankB c = true
      · refine adv false (by simp [skipN, hb]) (fun k' hlt => ?_)
        rw [step k' hlt, if_neg (by rintro ⟨rfl, _⟩; exact absurd hb (by decide)), if_neg (by simp), if_pos hb]
      · by_cases h47 : c = 47 ∧ r.head? = some 47
        · refine adv true (by show (if blankB c then skipN false r + 1 else if c == 47 && r.head? == some 47 then skipN true r + 1 else 0) = _; rw [if_neg hb, if_pos (by simpa using h47)]) (fun k' hlt => ?_)
          rw [step k' hlt, if_pos h47]
        · have e0 : skipN false (c :: r) = 0 := by
            show (if blankB c then skipN false r + 1 else if c == 47 && r.head? == some 47 then skipN true r + 1 else 0) = 0
            rw [if_neg hb, if_neg (by simpa using h47)]
          rw [e0] at he ⊢
          obtain rfl : i = A := by omega
          exact ⟨false, rfl, fun h => by cases h⟩

theorem finish_zero (size : Int) : ∀ (xs : List Item) (acc), ¬ (∀ x ∈ xs, x.2 ≠ 0) → (finish size xs acc).2.2 = 4 := by
  intro xs
  induction xs with
  | nil => intro acc h; exact absurd (by simp) h
  | cons x xs ih =>
    intro acc h
    obtain ⟨t, n⟩ := x
    unfold finish
    by_cases hn : n = 0
    · rw [if_pos hn]
    · rw [if_neg hn]
      exact ih _ (fun h' => h (by intro y hy; rcases List.mem_cons.1 hy with rfl | hy; exact hn; exact h' y hy))
/-- The list's end. -/
abbrev endT (s : ByteArray) : S33 := ⟨7, ⟨#[]⟩, (s.size : Int)⟩
theorem rd_at {L pre : List S33} {t} {post} (h : L = pre ++ t :: post) : rd_T33 L (pre.length : Int) = t := by
  subst h
  unfold rd_T33
  rw [Int.toNat_natCast, List.getD_eq_getElem?_getD, List.getElem?_append_right (Nat.le_refl _)]
  simp
theorem extract_all (s : ByteArray) (p n : Nat) (t : List UInt8) (h : t <+: (bl s).drop p) (hn : n = t.length) : (s.extract p (p + n)).toList = t := by
  rw [toList_bl, extract_bl, show p + n - p = n by omega, hn]
  exact (List.prefix_iff_eq_take.1 h).symm

/-- What the inner loop does at its end. -/
def stRest (k : Nat) (s : ByteArray) (L : List S33) (x8 a : Int) (tx : ByteArray) : Option Bool :=
  if (wrap64 (a + (tx.size : Int))) > (s.size : Int) then (some false) else (if 0 ≤ a then (if a ≤ (wrap64 (a + (tx.size : Int))) then (if (wrap64 (a + (tx.size : Int))) ≤ (s.size : Int) then (if (s.extract (a : Int).toNat ((wrap64 (a + (tx.size : Int))) : Int).toNat).toList = tx.toList then (winchlaw01_LexisStands.l0 k s L (wrap64 (a + (tx.size : Int))) (wrap64 (x8 + 1))) else (some false)) else (none)) else (none)) else (none))
theorem st_fin (k : Nat) (s : ByteArray) (L : List S33) (x8 kd a : Int) (e : Bool) (tx : ByteArray) :
    winchlaw01_LexisStands.l1 (k + 1) s L x8 e a kd tx a = (if e = true then (if x8 < (wrap64 ((L.length : Int) - 1)) then (some false) else stRest k s L x8 a tx) else stRest k s L x8 a tx) := by
  rw [winchlaw01_LexisStands.l1, if_neg (Int.lt_irrefl a)]
  rfl

theorem stRest_go (k : Nat) (s : ByteArray) (L : List S33) (x8 a p : Int) (tx : ByteArray) (hp : wrap64 (a + (tx.size : Int)) = p) (h1 : ¬ p > (s.size : Int)) (h2 : 0 ≤ a) (h3 : a ≤ p) (h5 : (s.extract a.toNat p.toNat).toList = tx.toList) :
    stRest k s L x8 a tx = winchlaw01_LexisStands.l0 k s L p (wrap64 (x8 + 1)) := by
  unfold stRest
  rw [hp, if_neg h1, if_pos h2, if_pos h3, if_pos (Int.not_lt.1 h1), if_pos h5]
theorem st_out (k : Nat) (s : ByteArray) (L : List S33) (a : Int) :
    winchlaw01_LexisStands.l0 (k + 1) s L a (L.length : Int) = (if (L.length : Int) > 0 then (if 0 ≤ (wrap64 ((L.length : Int) - 1)) then (if (wrap64 ((L.length : Int) - 1)) < (L.length : Int) then (if ((rd_T33 L (wrap64 ((L.length : Int) - 1))).f2) = (s.size : Int) then ((winchlaw01_awake.f).bind fun t264 => (some t264)) else (some false)) else (none)) else (none)) else (some false)) := by
  rw [winchlaw01_LexisStands.l0, if_neg (Int.lt_irrefl _)]
set_option maxHeartbeats 2000000 in
theorem stands_end {s : ByteArray} (hs : s.size ≤ 8000) {L : List S33} (hL : L.length ≤ 100000) {p at_ k : Nat} {pre : List S33} (hp : p ≤ s.size) (he : p = at_ + skipN false ((bl s).drop at_)) (hL' : L = pre ++ [endT s])
    (hps : s.size ≤ p) (hk : 1000 + (s.size - at_) ≤ k) : winchlaw01_LexisStands.l0 k s L (at_ : Int) (pre.length : Int) = some true := by
  obtain rfl : p = s.size := by omega
  have hLL : L.length = pre.length + 1 := by rw [hL']; simp
  have hrd : rd_T33 L (pre.length : Int) = endT s := rd_at (post := []) hL'
  obtain ⟨k, rfl⟩ : ∃ m, k = m + 2 := ⟨k - 2, by omega⟩
  obtain ⟨e, hl1, hend⟩ := stands_l1 s (by omega) L (pre.length : Int) 7 ⟨#[]⟩ s.size (Nat.le_refl _) _ at_ k false rfl he.symm (by omega)
  have hlen1 : wrap64 ((L.length : Int) - 1) = (pre.length : Int) := by rw [w64 (by omega) (by omega)]; omega
  have g1 : (L.length : Int) > 0 := by omega
  have g2 : (0 : Int) ≤ (pre.length : Int) := by omega
  have g3 : (pre.length : Int) < (L.length : Int) := by omega
  have g4 : (0 : Int) ≤ (s.size : Int) := by omega
  have hw1 : wrap64 ((pre.length : Int) + 1) = (L.length : Int) := by rw [w64 (by omega) (by omega)]; omega
  have hT : winchref01_IsToken.f (k + 1) 7 ⟨#[]⟩ (s.size : Int) = some true := by
    unfold winchref01_IsToken.f
    rw [if_neg (by decide), if_neg (by decide), if_neg (by decide), if_neg (by decide), if_neg (by decide), if_neg (by decide), if_pos rfl, toList_bl]
    rfl
  simp only [winchlaw01_LexisStands.l0]
  rw [if_pos (by omega), if_pos (by omega), hrd, hlen1]
  simp only [endT]
  rw [if_neg (by omega), if_neg (by omega), if_neg (by simp), hT]
  simp only [Option.bind_some, Bool.not_true, winchlaw01_LexisStands.j1]
  rw [if_neg (by simp), hl1]
  obtain ⟨q, hq⟩ : ∃ m, k - skipN false ((bl s).drop at_) = m + 2 := ⟨k - skipN false ((bl s).drop at_) - 2, by omega⟩
  rw [hq, st_fin, hlen1]
  have hwp : wrap64 ((s.size : Int) + ((⟨#[]⟩ : ByteArray).size : Int)) = (s.size : Int) := by rw [show ((⟨#[]⟩ : ByteArray).size : Int) = 0 from rfl, w64 (by omega) (by omega)]; omega
  have hfin : winchlaw01_LexisStands.l0 (q + 1) s L (s.size : Int) (wrap64 ((pre.length : Int) + 1)) = some true := by
    rw [hw1, st_out, hlen1, if_pos g1, if_pos g2, if_pos g3, hrd, if_pos (show (endT s).f2 = (s.size : Int) from rfl), awake_s, Option.bind_some]
  have hx : (s.extract (s.size : Int).toNat (s.size : Int).toNat).toList = (⟨#[]⟩ : ByteArray).toList := by
    rw [toList_bl, toList_bl, Int.toNat_natCast, extract_bl]
    simp [bl]
  have hR : stRest (q + 1) s L (pre.length : Int) (s.size : Int) ⟨#[]⟩ = some true :=
    (stRest_go (q + 1) s L (pre.length : Int) (s.size : Int) (s.size : Int) ⟨#[]⟩ hwp (Int.lt_irrefl _) g4 (Int.le_refl _) hx).trans hfin
  rw [hR, if_neg (Int.lt_irrefl _), ite_self]

set_option maxHeartbeats 2000000 in
theorem stands_l0 (s : ByteArray) (hs : s.size ≤ 8000) (L : List S33) (hL : L.length ≤ 100000) : ∀ (f p at_ k : Nat) (pre : List S33), (∀ x ∈ rest s p f, x.2 ≠ 0) → s.size ≤ p + f → p ≤ s.size →
    p = at_ + skipN false ((bl s).drop at_) → L = pre ++ ((rest s p f).map Prod.fst ++ [endT s]) → 30000 + 3 * f + (s.size - at_) ≤ k →
    winchlaw01_LexisStands.l0 k s L (at_ : Int) (pre.length : Int) = some true := by
  intro f
  induction f with
  | zero =>
    intro p at_ k pre hx hf hp he hL' hk
    exact stands_end hs hL hp he (by unfold rest at hL'; rw [List.drop_eq_nil_of_le (by rw [bl_length]; omega)] at hL'; exact hL') (by omega) (by omega)
  | succ f ih =>
    intro p at_ k pre hx hf hp he hL' hk
    by_cases hlt : p < s.size
    · have hn : (tokL ((bl s).drop p)).2.length ≠ 0 := by
        intro h0
        rw [rest_nil hlt h0] at hx
        exact hx _ (List.mem_singleton.2 rfl) (by show ((tokL ((bl s).drop p)).2.length : Int) = 0; rw [h0]; rfl)
      obtain ⟨f', hf', hr⟩ := rest_cons (f := f + 1) hlt hf hn
      obtain rfl : f = f' := by omega
      have hle := tokL_len ((bl s).drop p)
      rw [List.length_drop, bl_length] at hle
      have hne : (tokL ((bl s).drop p)).2 ≠ [] := fun e => hn (by rw [e]; rfl)
      rw [hr] at hL' hx
      have ih' := ih (p + (tokL ((bl s).drop p)).2.length + skipN false ((bl s).drop (p + (tokL ((bl s).drop p)).2.length))) (p + (tokL ((bl s).drop p)).2.length) (k - 2 - (skipN false ((bl s).drop at_) + 1)) (pre ++ [(itemAt s p).1])
        (fun x h => hx x (List.mem_cons_of_mem _ h)) (by omega) (skip_in s _ (by omega)) rfl (by rw [hL']; simp) (by omega)
      have hLL : L.length = pre.length + 1 + (List.map Prod.fst (rest s (p + (tokL ((bl s).drop p)).2.length + skipN false ((bl s).drop (p + (tokL ((bl s).drop p)).2.length))) f)).length + 1 := by rw [hL']; simp; omega
      have hrd : rd_T33 L (pre.length : Int) = (itemAt s p).1 := rd_at (post := List.map Prod.fst (rest s (p + (tokL ((bl s).drop p)).2.length + skipN false ((bl s).drop (p + (tokL ((bl s).drop p)).2.length))) f) ++ [endT s]) (by rw [hL']; rfl)
      obtain ⟨hT, h7⟩ := isToken_f ((bl s).drop p) hne (by omega) (p : Int) (k - 1) (by omega)
      obtain ⟨k, rfl⟩ : ∃ m, k = m + 2 := ⟨k - 2, by omega⟩
      obtain ⟨e, hl1, hend⟩ := stands_l1 s (by omega) L (pre.length : Int) (tokL ((bl s).drop p)).1 ⟨(tokL ((bl s).drop p)).2.toArray⟩ p (by omega) _ at_ k false rfl he.symm (by omega)
      have hef : e = false := by
        cases e with
        | false => rfl
        | true => have := hend rfl; omega
      subst hef
      have hsz : (⟨(tokL ((bl s).drop p)).2.toArray⟩ : ByteArray).size = (tokL ((bl s).drop p)).2.length := by rw [← bl_length, mk_toList]
      have g5 : ¬ ((p + (tokL ((bl s).drop p)).2.length : Nat) : Int) > (s.size : Int) := by omega
      have g6 : (0 : Int) ≤ (p : Int) := by omega
      have g7 : (p : Int) ≤ ((p + (tokL ((bl s).drop p)).2.length : Nat) : Int) := by omega
      have g8 : wrap64 ((pre.length : Int) + 1) = (((pre ++ [(itemAt s p).1]).length : Nat) : Int) := by rw [w64 (by omega) (by omega)]; simp
      rw [show k + 2 - 1 = k + 1 from rfl] at hT
      simp only [winchlaw01_LexisStands.l0]
      have hlen1 : wrap64 ((L.length : Int) - 1) = (L.length : Int) - 1 := w64 (by omega) (by omega)
      have hk7 : ((((tokL ((bl s).drop p)).1 == 7) != ((pre.length : Int) == (L.length : Int) - 1)) = true) = False := by
        rw [show ((tokL ((bl s).drop p)).1 == 7) = false by rw [beq_eq_false_iff_ne]; exact h7, show ((pre.length : Int) == (L.length : Int) - 1) = false by rw [beq_eq_false_iff_ne]; omega]
        simp
      rw [if_pos (by omega), if_pos (by omega), hrd, hlen1]
      unfold itemAt
      simp only [hk7, if_false]
      rw [if_neg (by omega), if_neg (by omega), hT]
      simp only [Option.bind_some, Bool.not_true, winchlaw01_LexisStands.j1]
      rw [if_neg (by simp), hl1]
      obtain ⟨q, hq⟩ : ∃ m, k - skipN false ((bl s).drop at_) = m + 1 := ⟨k - skipN false ((bl s).drop at_) - 1, by omega⟩
      have hqk : k + 2 - 2 - (skipN false ((bl s).drop at_) + 1) = q := by omega
      rw [hq, st_fin]
      have hwp : wrap64 ((p : Int) + ((tokL ((bl s).drop p)).2.length : Int)) = ((p + (tokL ((bl s).drop p)).2.length : Nat) : Int) := by rw [w64 (by omega) (by omega)]; omega
      rw [if_neg (show ¬ (false = true) by decide)]
      have hpre : (tokL ((bl s).drop p)).2 <+: (bl s).drop p := by
        rcases tokL_cases ((bl s).drop p) with e | ⟨_, e⟩
        · exact absurd (by rw [e]) hne
        · exact e
      have hxx : (s.extract (p : Int).toNat ((p + (tokL ((bl s).drop p)).2.length : Nat) : Int).toNat).toList = (⟨(tokL ((bl s).drop p)).2.toArray⟩ : ByteArray).toList := by
        rw [Int.toNat_natCast, Int.toNat_natCast, extract_all s p _ _ hpre rfl, toList_bl, mk_toList]
      rw [stRest_go q s L (pre.length : Int) (p : Int) ((p + (tokL ((bl s).drop p)).2.length : Nat) : Int) ⟨(tokL ((bl s).drop p)).2.toArray⟩ (by rw [hsz]; exact hwp) g5 g6 g7 hxx, g8]
      rw [hqk] at ih'
      exact ih'
    · exact stands_end hs hL hp he (by unfold rest at hL'; rw [List.drop_eq_nil_of_le (by rw [bl_length]; omega)] at hL'; exact hL') (by omega) (by omega)
theorem LexisStands_pure : winchlaw01_LexisStands.Pure := by
  intro s hs
  refine ⟨100000, ?_⟩
  unfold winchlaw01_LexisStands.f lexis_Tokens.f
  rw [brief_s]
  simp only [Option.bind_some]
  have hsz : (s.extract 0 (min s.size 8001)).size ≤ 8001 := by rw [ByteArray.size_extract]; omega
  generalize s.extract 0 (min s.size 8001) = t at *
  by_cases h8 : t.size > 8000
  · have : toksOf t = ([], 0, 5) := by unfold toksOf; rw [if_pos h8]
    rw [this, if_neg (by decide), awake_s]
    rfl
  · have hT : toksOf t = finish t.size (items (t.size + 1) (bl t) 0) [] := by unfold toksOf; rw [if_neg h8]
    by_cases hx : ∀ x ∈ items (t.size + 1) (bl t) 0, x.2 ≠ 0
    · rw [hT, finish_ok _ _ _ hx, if_pos rfl]
      have hi := items_rest t 0 t.size
      have hl := items_len (t.size + 1) (bl t) 0
      have hi' : items (t.size + 1) (bl t) 0 = rest t (0 + skipN false ((bl t).drop 0)) t.size := hi
      have := stands_l0 t (by omega) ([] ++ (items (t.size + 1) (bl t) 0).map Prod.fst ++ [⟨7, ⟨#[]⟩, (t.size : Int)⟩]) (by rw [List.nil_append, List.length_append, List.length_map]; simp; omega) t.size (0 + skipN false ((bl t).drop 0)) 0 100000 [] (by rw [← hi']; exact hx) (by omega) (skip_in t 0 (Nat.zero_le _)) rfl (by rw [hi']; simp) (by omega)
      exact this
    · have h4 := finish_zero t.size (items (t.size + 1) (bl t) 0) [] hx
      rw [hT, h4, if_neg (by decide), awake_s]
      rfl
end Go.Proofs.YtlbaojjnilnhlaaDoor.PA
