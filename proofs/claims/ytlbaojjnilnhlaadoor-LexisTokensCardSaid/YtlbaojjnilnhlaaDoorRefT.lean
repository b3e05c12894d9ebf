/-
  The reference's tokens are those of the plain specification; so the law LexisTokens answers true at every source.
-/
import Derived.Test.YtlbaojjnilnhlaaDoorRef
import Derived.Test.YtlbaojjnilnhlaaDoorExtT
import Derived.Test.YtlbaojjnilnhlaaDoorPAx19
import Derived.Test.YtlbaojjnilnhlaaDoorPAx17
import Derived.Test.YtlbaojjnilnhlaaDoorPAx7
import Derived.Test.YtlbaojjnilnhlaaDoorPAx31
namespace Go.Proofs.YtlbaojjnilnhlaaDoor.PA
open Go Go.RowKit Go.Proofs.YtlbaojjnilnhlaaDoorW.PrintWords Go.Proofs.YtlbaojjnilnhlaaDoorW.PrintLast Go.Proofs.YtlbaojjnilnhlaaDoorW.PrintMore
set_option linter.unusedVariables false
set_option linter.unusedSimpArgs false

/-- What token answers, held against tokL. -/
def TokIs (l : List UInt8) (i : Nat) (r : Option (Int × ByteArray × Int × Int × Bool)) : Prop :=
  ∃ kd tx en ok, r = some (kd, tx, (i : Int), en, ok) ∧ (ok = true → tokL l = (kd, bl tx) ∧ kd ≠ 0 ∧ en = ((i + tx.size : Nat) : Int)) ∧ (ok = false → tokL l = (0, []))
theorem size_ext (s : ByteArray) (i n : Nat) (h : i + n ≤ s.size) : (s.extract i (i + n)).size = n := by rw [ByteArray.size_extract]; omega
theorem bl_ext (s : ByteArray) (i n : Nat) : bl (s.extract i (i + n)) = ((bl s).drop i).take n := by rw [extract_bl]; congr 1; omega
theorem take_tw (p : UInt8 → Bool) (l : List UInt8) : l.take (l.takeWhile p).length = l.takeWhile p := by
  conv => lhs; arg 2; rw [← List.takeWhile_append_dropWhile (p := p) (l := l)]
  rw [List.take_left]
theorem tw_le (p : UInt8 → Bool) (l : List UInt8) : (l.takeWhile p).length ≤ l.length := (List.takeWhile_prefix p).length_le

theorem token_f (s : ByteArray) (hs : s.size ≤ 100000) (i : Nat) (hi : i < s.size) (k : Nat) (hk : 2 * s.size + 1000 ≤ k) : TokIs ((bl s).drop i) i (winchref01_token.f k s (i : Int)) := by
  rcases hd : (bl s).drop i with _ | ⟨c, r⟩
  · have := drop_none hd; omega
  obtain ⟨h1, h2, h3⟩ := bt_drop hd
  have hw1 : wrap64 ((i : Int) + 1) = ((i + 1 : Nat) : Int) := by rw [w64 (by omega) (by omega)]; omega
  have hw2 : wrap64 ((i : Int) + 2) = ((i + 2 : Nat) : Int) := by rw [w64 (by omega) (by omega)]; omega
  have hlen : (c :: r).length = s.size - i := by rw [← hd, List.length_drop, bl_length]
  have hlr : r.length + 1 = s.size - i := by rw [← hlen]; rfl
  obtain ⟨k, rfl⟩ : ∃ m, k = m + 1 := ⟨k - 1, by omega⟩
  -- the choice that 't#' makes
  have J : ∀ b : Bool, (b = true ↔ c = 116 ∧ r.head? = some 35) → TokIs (c :: r) i (winchref01_token.j0 (k + 1) s (i : Int) (c.toNat : Int) b) := by
    intro b hb
    simp only [winchref01_token.j0]
    have hgen : ∀ (n : Nat) (kd : Int) (t : Bool → Option (Int × ByteArray × Int × Int × Bool)), i + n ≤ s.size →
        (if (0 : Int) ≤ (i : Int) then (if (i : Int) ≤ ((i + n : Nat) : Int) then (if ((i + n : Nat) : Int) ≤ (s.size : Int) then t true else none) else none) else none) = t true := by
      intro n kd t h
      rw [if_pos (by omega), if_pos (by omega), if_pos (by omega)]
    by_cases ht : c = 116 ∧ r.head? = some 35
    · obtain ⟨rfl, hr⟩ := ht
      rw [if_pos (hb.2 ⟨rfl, hr⟩), hw2]
      obtain ⟨r', rfl⟩ : ∃ r', r = 35 :: r' := by
        cases r with
        | nil => simp at hr
        | cons y r' => simp at hr; exact ⟨r', by rw [hr]⟩
      have hd2 : (bl s).drop (i + 2) = r' := (bt_drop h3).2.2
      simp at hlr
      rw [span_f s (by omega) _ _ _ (i + 2) k (by omega) (by omega), spanB_digit, hd2]
      simp only [Option.bind_some]
      have hle := tw_le digitB r'
      rw [if_pos (by omega), if_pos (by omega), if_pos (by omega), Int.toNat_natCast, Int.toNat_natCast, show i + 2 + (List.takeWhile digitB r').length = i + (2 + (List.takeWhile digitB r').length) by omega]
      have hz := size_ext s i (2 + (List.takeWhile digitB r').length) (by omega)
      rw [isTime_r _ (by omega) k (by omega)]
      simp only [Option.bind_some]
      have hx : bl (s.extract i (i + (2 + (List.takeWhile digitB r').length))) = 116 :: 35 :: List.takeWhile digitB r' := by
        rw [bl_ext, hd, show 2 + (List.takeWhile digitB r').length = (List.takeWhile digitB r').length + 1 + 1 by omega, List.take_succ_cons, List.take_succ_cons, take_tw]
      have hk' := tokL_time r'
      unfold timeT at hk'
      refine ⟨_, _, _, _, rfl, fun h => ?_, fun h => ?_⟩
      · rw [hx] at h ⊢
        refine ⟨?_, by decide, by rw [hz]⟩
        rw [hk', if_pos h]
      · rw [hx] at h
        rw [hk', if_neg (by simp [h])]
    · rw [if_neg (fun h => ht (hb.1 h)), letter_r]
      simp only [Option.bind_some]
      by_cases hL : letterB c = true
      · rw [if_pos hL]
        rw [span_f s (by omega) _ _ _ i k (by omega) (by omega), spanB_part, hd]
        simp only [Option.bind_some]
        have hle := tw_le partB (c :: r)
        rw [if_pos (by omega), if_pos (by omega), if_pos (by omega), Int.toNat_natCast, Int.toNat_natCast]
        have hz := size_ext s i (List.takeWhile partB (c :: r)).length (by omega)
        have hx : bl (s.extract i (i + (List.takeWhile partB (c :: r)).length)) = List.takeWhile partB (c :: r) := by rw [bl_ext, hd, take_tw]
        rw [isWord_r _ k (by omega), hx]
        simp only [Option.bind_some]
        have hk' := tokL_word c r ht hL
        unfold wordT at hk'
        by_cases hW : isWordB (List.takeWhile partB (c :: r)) = true
        · rw [if_pos hW]
          exact ⟨_, _, _, _, rfl, fun _ => ⟨by rw [hk', if_pos hW, hx], by decide, by rw [hz]⟩, fun h => by cases h⟩
        · rw [if_neg hW, isName_r _ (by omega) k (by omega), hx]
          simp only [Option.bind_some]
          refine ⟨_, _, _, _, rfl, fun h => ⟨by rw [hk', if_neg hW, if_pos h, hx], by decide, by rw [hz]⟩, fun h => ?_⟩
          rw [hk', if_neg hW, if_neg (by simp [h])]
      · have hL' : letterB c = false := by simpa using hL
        rw [if_neg hL, digit_r]
        simp only [Option.bind_some]
        by_cases hD : digitB c = true
        · rw [if_pos hD]
          rw [span_f s (by omega) _ _ _ i k (by omega) (by omega), spanB_digit, hd]
          simp only [Option.bind_some]
          have hle := tw_le digitB (c :: r)
          rw [if_pos (by omega), if_pos (by omega), if_pos (by omega), Int.toNat_natCast, Int.toNat_natCast]
          have hz := size_ext s i (List.takeWhile digitB (c :: r)).length (by omega)
          have hx : bl (s.extract i (i + (List.takeWhile digitB (c :: r)).length)) = List.takeWhile digitB (c :: r) := by rw [bl_ext, hd, take_tw]
          rw [show (2147483647 : Int) = ((2147483647 : Nat) : Int) from rfl, num_r _ (by omega) _ (by omega) k (by omega), hx]
          simp only [Option.bind_some]
          have hk' := tokL_num c r hL' hD
          unfold numT at hk'
          refine ⟨_, _, _, _, rfl, fun h => ⟨by rw [hk', if_pos h, hx], by decide, by rw [hz]⟩, fun h => ?_⟩
          rw [hk', if_neg (by simp [h])]
        · have hD' : digitB c = false := by simpa using hD
          rw [if_neg hD]
          by_cases hP : c = 37
          · subst hP
            rw [if_pos (by decide), hw1]
            rw [span_f s (by omega) _ _ _ (i + 1) k (by omega) (by omega), spanB_alnum, h3]
            simp only [Option.bind_some]
            have hle := tw_le alnumB r
            rw [if_pos (by omega), if_pos (by omega), if_pos (by omega), Int.toNat_natCast, Int.toNat_natCast, show i + 1 + (List.takeWhile alnumB r).length = i + (1 + (List.takeWhile alnumB r).length) by omega]
            have hz := size_ext s i (1 + (List.takeWhile alnumB r).length) (by omega)
            have hx : bl (s.extract i (i + (1 + (List.takeWhile alnumB r).length))) = 37 :: List.takeWhile alnumB r := by
              rw [bl_ext, hd, show 1 + (List.takeWhile alnumB r).length = (List.takeWhile alnumB r).length + 1 by omega, List.take_succ_cons, take_tw]
            rw [isAddr_r _ (by omega) k (by omega), hx]
            simp only [Option.bind_some]
            have hk' := tokL_addr r
            unfold addrT at hk'
            refine ⟨_, _, _, _, rfl, fun h => ⟨by rw [hk', if_pos h, hx], by decide, by rw [hz]⟩, fun h => ?_⟩
            rw [hk', if_neg (by simp [h])]
          · rw [if_neg (fun h => hP ((nB c 37 37 rfl (by omega)).1 h)), hw2, hw1]
            have hk' : tokL (c :: r) = (if isSignB ((c :: r).take 2) then (4, (c :: r).take 2) else if isSignB [c] then (4, [c]) else (0, [])) := tokL_sign c r hL' hD' hP
            have hz1 := size_ext s i 1 (by omega)
            have hx1 : bl (s.extract i (i + 1)) = [c] := by rw [bl_ext, hd]; rfl
            have one : TokIs (c :: r) i ((winchref01_IsSign.f k (s.extract i (i + 1))).bind fun t => some (4, s.extract i (i + 1), (i : Int), ((i + 1 : Nat) : Int), t)) ∨ isSignB ((c :: r).take 2) = true := by
              by_cases h2s : isSignB ((c :: r).take 2) = true
              · exact .inr h2s
              · left
                rw [isSign_r _ k (by omega), hx1]
                simp only [Option.bind_some]
                refine ⟨_, _, _, _, rfl, fun h => ⟨by rw [hk', if_neg h2s, if_pos h, hx1], by decide, by rw [hz1]⟩, fun h => ?_⟩
                rw [hk', if_neg h2s, if_neg (by simp [h])]
            by_cases h2b : i + 2 ≤ s.size
            · rw [if_pos (by omega), if_pos (by omega), if_pos (by omega)]
              simp only [Int.toNat_natCast]
              have hz2 := size_ext s i 2 (by omega)
              have hx2 : bl (s.extract i (i + 2)) = (c :: r).take 2 := by rw [bl_ext, hd]
              rw [isSign_r (s.extract i (i + 2)) k (by omega), hx2]
              simp only [Option.bind_some]
              by_cases h2s : isSignB ((c :: r).take 2) = true
              · rw [if_pos h2s]
                exact ⟨_, _, _, _, rfl, fun _ => ⟨by rw [hk', if_pos h2s, hx2], by decide, by rw [hz2]⟩, fun h => by cases h⟩
              · rw [if_neg h2s, if_pos (by omega), if_pos (by omega)]
                exact one.resolve_right h2s
            · rw [if_neg (by omega), if_pos (by omega), if_pos (by omega), if_pos (by omega)]
              simp only [Int.toNat_natCast]
              rcases one with h | h
              · exact h
              · have hr : r = [] := List.length_eq_zero_iff.1 (by omega)
                subst hr
                have h' : isSignB [c] = true := h
                rw [isSign_r _ k (by omega), hx1, h']
                simp only [Option.bind_some]
                exact ⟨_, _, _, _, rfl, fun _ => ⟨by rw [hk', if_pos h, hx1]; rfl, by decide, by rw [hz1]⟩, fun h => by cases h⟩
  obtain ⟨k, rfl⟩ : ∃ m, k = m + 1 := ⟨k - 1, by omega⟩
  unfold winchref01_token.f
  rw [if_pos (by omega), if_pos (by omega), h1, hw1]
  by_cases hc : c = 116
  · rw [if_pos ((nB c 116 116 rfl (by omega)).2 hc)]
    cases hr : r with
    | nil =>
      subst hr
      have := drop_none h3
      rw [if_neg (by omega)]
      exact J false (by simp)
    | cons d r' =>
      subst hr
      obtain ⟨g1, g2, g3⟩ := bt_drop h3
      rw [if_pos (by omega), if_pos (by omega), g1, show ((d.toNat : Int) == 35) = (d == 35) from byte_eq d 35 (by decide)]
      exact J _ (by simp [hc])
  · rw [if_neg (fun h => hc ((nB c 116 116 rfl (by omega)).1 h))]
    exact J false (by simp [hc])

theorem refTokens_l (s : ByteArray) (hs : s.size ≤ 8000) : ∀ (f p k : Nat) (acc : List S33), s.size ≤ p + f → p ≤ s.size → 40000 + f ≤ k → acc.length + f ≤ 100000 →
    winchref01_Tokens.l0 k s acc (p : Int) = some (finish s.size (rest s p f) acc) := by
  intro f
  induction f with
  | zero =>
    intro p k acc hf hp hk ha
    obtain ⟨k, rfl⟩ : ∃ m, k = m + 1 := ⟨k - 1, by omega⟩
    simp only [winchref01_Tokens.l0]
    rw [if_neg (by omega), if_pos (by omega)]
    unfold rest
    rw [List.drop_eq_nil_of_le (by rw [bl_length]; omega)]
    rfl
  | succ f ih =>
    intro p k acc hf hp hk ha
    obtain ⟨k, rfl⟩ : ∃ m, k = m + 1 := ⟨k - 1, by omega⟩
    simp only [winchref01_Tokens.l0]
    by_cases hlt : p < s.size
    · rw [if_pos (by omega)]
      obtain ⟨kd, tx, en, ok, hr, h1, h2⟩ := token_f s (by omega) p hlt k (by omega)
      rw [hr]
      simp only [Option.bind_some]
      cases ok with
      | true =>
        obtain ⟨e, hkd, hen⟩ := h1 rfl
        have e2 : (tokL ((bl s).drop p)).2 = bl tx := by rw [e]
        have e1 : (tokL ((bl s).drop p)).1 = kd := by rw [e]
        have hn : (tokL ((bl s).drop p)).2.length ≠ 0 := fun h0 => hkd (by rw [← e1]; exact tokL_zero _ (List.length_eq_zero_iff.1 h0))
        have htl := tokL_len ((bl s).drop p)
        rw [e2, bl_length, List.length_drop, bl_length] at htl
        obtain ⟨k1, hk1, hrest⟩ := rest_cons (f := f + 1) hlt hf hn
        obtain rfl : f = k1 := by omega
        rw [if_pos rfl, if_pos (by omega), hen, blank_f s (by omega) (p + tx.size) (by omega) k (by omega)]
        simp only [Option.bind_some]
        rw [e2, bl_length] at hrest
        have hsk := skip_in s (p + tx.size) (by omega)
        rw [e2, bl_length] at hn
        rw [ih _ k _ (by omega) hsk (by omega) (by simp; omega), hrest]
        have hi : itemAt s p = (⟨kd, tx, (p : Int)⟩, (tx.size : Int)) := by
          unfold itemAt
          rw [e1, e2, mk_bl, bl_length]
        rw [hi]
        conv => rhs; rw [finish]
        rw [if_neg (by omega)]
      | false =>
        have e := h2 rfl
        rw [if_neg (by simp)]
        have hn : (tokL ((bl s).drop p)).2.length = 0 := by rw [e]; rfl
        rw [rest_nil hlt hn]
        have hi : itemAt s p = (⟨0, ⟨#[]⟩, (p : Int)⟩, 0) := by
          unfold itemAt
          rw [e]
          rfl
        rw [hi]
        rfl
    · rw [if_neg (by omega), if_pos (by omega)]
      unfold rest
      rw [List.drop_eq_nil_of_le (by rw [bl_length]; omega)]
      rfl
theorem refTokens_f (s : ByteArray) (hs : s.size ≤ 8001) (k : Nat) (hk : 60000 ≤ k) : winchref01_Tokens.f k s = some (toksOf s) := by
  unfold winchref01_Tokens.f toksOf
  by_cases h : s.size > 8000
  · rw [if_pos (by omega), if_pos h]
  · have hb := blank_f s (by omega) 0 (Nat.zero_le _) k (by omega)
    rw [if_neg (by omega), if_neg h, show (0 : Int) = ((0 : Nat) : Int) from rfl, hb]
    simp only [Option.bind_some]
    have hsk := skip_in s 0 (Nat.zero_le _)
    rw [refTokens_l s (by omega) s.size _ k [] (by omega) hsk (by omega) (by simp; omega)]
    rw [← items_rest s 0 s.size]
    rfl
theorem same_l (L : List S33) (hL : L.length ≤ 100000) : ∀ (n i k : Nat), L.length ≤ i + n → n + 1 ≤ k → winchlaw01_same.l0 k L L (i : Int) = some true := by
  intro n
  induction n with
  | zero =>
    intro i k h hk
    obtain ⟨k, rfl⟩ : ∃ m, k = m + 1 := ⟨k - 1, by omega⟩
    simp only [winchlaw01_same.l0]
    rw [if_neg (by omega)]
  | succ n ih =>
    intro i k h hk
    obtain ⟨k, rfl⟩ : ∃ m, k = m + 1 := ⟨k - 1, by omega⟩
    simp only [winchlaw01_same.l0]
    by_cases hi : i < L.length
    · rw [if_pos (by omega), if_pos (by omega), if_pos (by omega), if_neg (by simp), w64 (by omega) (by omega), show (i : Int) + 1 = ((i + 1 : Nat) : Int) by omega]
      exact ih (i + 1) k (by omega) (by omega)
    · rw [if_neg (by omega)]
theorem same_f (L : List S33) (hL : L.length ≤ 100000) (k : Nat) (hk : L.length + 1 ≤ k) : winchlaw01_same.f k L L = some true := by
  unfold winchlaw01_same.f
  rw [if_pos rfl]
  exact same_l L hL L.length 0 k (by omega) hk
theorem finish_len (size : Int) : ∀ (xs : List Item) (acc), (finish size xs acc).1.length ≤ acc.length + xs.length + 1 := by
  intro xs
  induction xs with
  | nil => intro acc; simp [finish]
  | cons x xs ih =>
    intro acc
    obtain ⟨t, n⟩ := x
    unfold finish
    split
    · simp
    · have := ih (acc ++ [t])
      simp at this ⊢
      omega
theorem toks_len (s : ByteArray) : (toksOf s).1.length ≤ 8002 := by
  unfold toksOf
  split
  · simp
  · have h1 := finish_len s.size (items (s.size + 1) (bl s) 0) []
    have h2 := items_len (s.size + 1) (bl s) 0
    simp at h1
    have e : s.data.toList = bl s := rfl
    rw [e]
    omega
theorem awake_g : winchlaw01_awake.f = some true := by decide +kernel
theorem brief_g (s : ByteArray) : winchlaw01_brief.f s = some (s.extract 0 (min s.size 8001)) := by
  have e : mn (s.size : Int) 8001 = ((min s.size 8001 : Nat) : Int) := by unfold mn; split <;> omega
  unfold winchlaw01_brief.f
  rw [e, if_pos (by omega), if_pos (by omega), Int.toNat_natCast]
theorem LexisTokens_pure : winchlaw01_LexisTokens.Pure := by
  intro s hs
  refine ⟨60000, ?_⟩
  have hb : winchlaw01_brief.f s = some (s.extract 0 (min s.size 8001)) := brief_g s
  unfold winchlaw01_LexisTokens.f lexis_Tokens.f
  rw [hb]
  simp only [Option.bind_some]
  have hsz : (s.extract 0 (min s.size 8001)).size ≤ 8001 := by rw [ByteArray.size_extract]; omega
  generalize s.extract 0 (min s.size 8001) = t at *
  have hl := toks_len t
  rw [refTokens_f t hsz 60000 (Nat.le_refl _)]
  simp only [Option.bind_some]
  rw [same_f _ (by omega) 60000 (by omega)]
  simp only [Option.bind_some, if_true]
  rw [awake_g]
  rfl
end Go.Proofs.YtlbaojjnilnhlaaDoor.PA
