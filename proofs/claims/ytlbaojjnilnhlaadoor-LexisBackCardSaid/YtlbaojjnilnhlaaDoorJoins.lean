/-
  The plain law of LexisJoins: Join returns the texts with blanks between, or the error, as the document says.
-/
import Derived.Test.YtlbaojjnilnhlaaDoorRef
import Derived.Test.YtlbaojjnilnhlaaDoorPAx23
import Derived.Test.YtlbaojjnilnhlaaDoorPAx24
import Derived.Test.YtlbaojjnilnhlaaDoorPAx25
import Derived.Test.YtlbaojjnilnhlaaDoorPAx32
import Derived.Test.YtlbaojjnilnhlaaDoorPAx26
import Derived.Test.YtlbaojjnilnhlaaDoorPAx31
import Derived.Lib.Join
namespace Go.Proofs.YtlbaojjnilnhlaaDoor.PA
open Go Go.RowKit Go.Proofs.YtlbaojjnilnhlaaDoorW.PrintWords Go.Proofs.YtlbaojjnilnhlaaDoorW.PrintLast Go.Proofs.YtlbaojjnilnhlaaDoorW.PrintMore
set_option linter.unusedVariables false
set_option linter.unusedSimpArgs false

theorem awake_j : winchlaw01_awake.f = some true := by decide +kernel
theorem bl_append_j (a b : ByteArray) : bl (a ++ b) = bl a ++ bl b := by simp [bl, ByteArray.data_append]
theorem size_app_j (a b : ByteArray) : (a ++ b).size = a.size + b.size := by rw [← bl_length, bl_append_j, List.length_append, bl_length, bl_length]
theorem rd_here (L : List S33) (i : Nat) (x : S33) (h : L[i]? = some x) : rd_T33 L (i : Int) = x := by
  unfold rd_T33
  rw [Int.toNat_natCast, List.getD_eq_getElem?_getD, h]
  rfl
/-- A token that is not the list's end. -/
def isTok (x : S33) : Bool :=
  if x.f0 = 1 then isNameB (bl x.f1) else if x.f0 = 2 then isNumB (bl x.f1) 2147483647 else if x.f0 = 3 then isTimeB (bl x.f1) else if x.f0 = 4 then isSignB (bl x.f1)
  else if x.f0 = 5 then isWordB (bl x.f1) else if x.f0 = 6 then isAddrB (bl x.f1) else false
theorem isTok_7 (x : S33) (h : x.f0 = 7) : isTok x = false := by
  unfold isTok
  rw [h, if_neg (by decide), if_neg (by decide), if_neg (by decide), if_neg (by decide), if_neg (by decide), if_neg (by decide)]
theorem tok_p (x : S33) (hx : x.f1.size ≤ 140737488355328) (k : Nat) (hk : 1000000000000000 ≤ k) : lexis_isToken.f k x.f0 x.f1 x.f2 = some (isTok x) := by
  unfold lexis_isToken.f isTok
  rw [isName_f _ hx k (by omega), show (2147483647 : Int) = ((2147483647 : Nat) : Int) from rfl, isNumeral_f _ hx _ (by omega), isTime_f _ hx, isSign_f, isWord_f, isAddress_f _ hx]
  simp only [Option.bind_some]
  repeat' split
  all_goals rfl
theorem tok_r (x : S33) (hx : x.f1.size ≤ 140737488355328) (k : Nat) (hk : 1000000000000000 ≤ k) : winchref01_IsToken.f k x.f0 x.f1 x.f2 = some (if x.f0 = 7 then bl x.f1 == [] else isTok x) := by
  unfold winchref01_IsToken.f isTok
  rw [isName_r _ hx k (by omega), show (2147483647 : Int) = ((2147483647 : Nat) : Int) from rfl, num_r _ hx _ (by omega) k (by omega), isTime_r _ hx k (by omega), isSign_r _ k (by omega), isWord_r _ k (by omega), isAddr_r _ hx k (by omega), toList_bl]
  simp only [Option.bind_some]
  by_cases h1 : x.f0 = 1
  · rw [if_pos h1, if_neg (by omega), if_pos h1]
  · by_cases h2 : x.f0 = 2
    · rw [if_neg h1, if_pos h2, if_neg (by omega), if_neg h1, if_pos h2]
    · by_cases h3 : x.f0 = 3
      · rw [if_neg h1, if_neg h2, if_pos h3, if_neg (by omega), if_neg h1, if_neg h2, if_pos h3]
      · by_cases h4 : x.f0 = 4
        · rw [if_neg h1, if_neg h2, if_neg h3, if_pos h4, if_neg (by omega), if_neg h1, if_neg h2, if_neg h3, if_pos h4]
        · by_cases h5 : x.f0 = 5
          · rw [if_neg h1, if_neg h2, if_neg h3, if_neg h4, if_pos h5, if_neg (by omega), if_neg h1, if_neg h2, if_neg h3, if_neg h4, if_pos h5]
          · by_cases h6 : x.f0 = 6
            · rw [if_neg h1, if_neg h2, if_neg h3, if_neg h4, if_neg h5, if_pos h6, if_neg (by omega), if_neg h1, if_neg h2, if_neg h3, if_neg h4, if_neg h5, if_pos h6]
            · rw [if_neg h1, if_neg h2, if_neg h3, if_neg h4, if_neg h5, if_neg h6, if_neg h1, if_neg h2, if_neg h3, if_neg h4, if_neg h5, if_neg h6]
              by_cases h7 : x.f0 = 7
              · rw [if_pos h7, if_pos h7]
              · rw [if_neg h7, if_neg h7]
/-- The texts that are joined, or none. -/
def joinG : List ByteArray → Int → List S33 → Option (List ByteArray)
  | acc, _, [] => some acc
  | acc, n, x :: r => if isTok x = true then (if n + ((x.f1.size : Int) + 1) > 8000 then none else joinG (acc ++ [x.f1]) (n + ((x.f1.size : Int) + 1)) r) else none
def joinS (a : List ByteArray) : ByteArray := ⟨(Lib.join (a.map bl) [32]).toArray⟩
theorem joinS_bl (a : List ByteArray) : bl (joinS a) = Lib.join (a.map bl) [32] := mk_toList _
theorem joinS_nil : joinS [] = ⟨#[]⟩ := rfl
theorem joinS_one (x : ByteArray) : joinS [x] = x := bytes_ext (by rw [joinS_bl]; exact Lib.join_one _ _)
theorem joinS_snoc (a : List ByteArray) (ha : a ≠ []) (x : ByteArray) : joinS (a ++ [x]) = (joinS a ++ (⟨#[32]⟩ : ByteArray)) ++ x := by
  apply bytes_ext
  rw [bl_append_j, bl_append_j, joinS_bl, joinS_bl, List.map_append]
  cases a with
  | nil => exact absurd rfl ha
  | cons y r =>
    show Lib.join (bl y :: (r.map bl ++ [bl x])) [32] = _
    rw [Lib.join_cons, show (y :: r).map bl = bl y :: r.map bl from rfl, Lib.join_cons]
    simp [Lib.joinTail, bl]
def Inv (acc : List ByteArray) (n : Int) : Prop := n ≤ 8000 ∧ ((acc = [] ∧ n = -1) ∨ (acc ≠ [] ∧ ((joinS acc).size : Int) = n))
theorem inv_step {acc : List ByteArray} {n : Int} (h : Inv acc n) (x : ByteArray) : ((joinS (acc ++ [x])).size : Int) = n + ((x.size : Int) + 1) ∧ -1 ≤ n := by
  obtain ⟨h0, ⟨rfl, rfl⟩ | ⟨h1, h2⟩⟩ := h
  · rw [List.nil_append, joinS_one]; omega
  · rw [joinS_snoc acc h1, size_app_j, size_app_j, show (⟨#[32]⟩ : ByteArray).size = 1 from rfl]; omega
theorem inv_next {acc : List ByteArray} {n : Int} (h : Inv acc n) (x : ByteArray) (hle : ¬ n + ((x.size : Int) + 1) > 8000) : Inv (acc ++ [x]) (n + ((x.size : Int) + 1)) :=
  ⟨by omega, .inr ⟨by simp, (inv_step h x).1⟩⟩
theorem prog_l0 (M : List S33) (hM : M.length ≤ 100000) (hz : ∀ x ∈ M, x.f1.size ≤ 140737488355328) : ∀ (r : List S33) (i k : Nat) (acc : List ByteArray) (n : Int), M.drop i = r → i + r.length = M.length → acc.length = i → Inv acc n → 1000000000000000 + r.length + 1 ≤ k →
    lexis_Join.l0 k acc n M (M.length : Int) (i : Int) = match joinG acc n r with | none => some ((⟨#[]⟩ : ByteArray), 2) | some a => some (joinS a, 0) := by
  intro r
  induction r with
  | nil =>
    intro i k acc n hd hl ha hi hk
    obtain ⟨k, rfl⟩ : ∃ m, k = m + 1 := ⟨k - 1, by omega⟩
    have hl' : i = M.length := by simpa using hl
    rw [lexis_Join.l0, if_neg (by omega)]
    have hj : ((joinS acc).size : Int) ≤ 8000 := by
      obtain ⟨h0, ⟨rfl, rfl⟩ | ⟨h1, h2⟩⟩ := hi
      · rw [joinS_nil]; show ((0 : Nat) : Int) ≤ 8000; omega
      · omega
    have hj' : (Lib.join (acc.map bl) [32]).length ≤ 140737488355328 := by rw [← joinS_bl, bl_length]; omega
    have : strings_Join.f acc (⟨#[32]⟩ : ByteArray) = some (joinS acc) := by
      unfold strings_Join.f
      exact if_pos ⟨by omega, hj'⟩
    rw [this]
    rfl
  | cons x r ih =>
    intro i k acc n hd hl ha hi hk
    obtain ⟨k, rfl⟩ : ∃ m, k = m + 1 := ⟨k - 1, by omega⟩
    have hl' : i + (r.length + 1) = M.length := by simpa using hl
    have hk' : 1000000000000000 + (r.length + 1) + 1 ≤ k + 1 := by simpa using hk
    have hx : M[i]? = some x := by
      have := congrArg List.head? hd
      rwa [List.head?_drop] at this
    have hd' : M.drop (i + 1) = r := by rw [← List.drop_drop, hd]; rfl
    have hxs := hz x (List.mem_of_getElem? hx)
    have hrd := rd_here M i x hx
    have hw2 : wrap64 ((i : Int) + 1) = ((i + 1 : Nat) : Int) := by rw [w64 (by omega) (by omega)]; omega
    have hst := inv_step hi x.f1
    have hn0 := hi.1
    have hwn : wrap64 (n + (wrap64 ((x.f1.size : Int) + 1))) = n + ((x.f1.size : Int) + 1) := by rw [w64 (x := (x.f1.size : Int) + 1) (by omega) (by omega), w64 (by omega) (by omega)]
    rw [lexis_Join.l0, if_pos (by omega), if_pos (by omega), if_pos (by omega), hrd, tok_p x hxs k (by omega), Option.bind_some, hwn, hw2]
    unfold joinG
    by_cases ht : isTok x = true
    · rw [if_pos ht, if_pos ht]
      by_cases hc : n + ((x.f1.size : Int) + 1) > 8000
      · rw [if_pos hc, if_pos hc]
      · rw [if_neg hc, if_neg hc, if_pos (by omega)]
        exact ih (i + 1) k _ _ hd' (by omega) (by rw [List.length_append]; simp; omega) (inv_next hi x.f1 hc) (by omega)
    · rw [if_neg ht, if_neg ht]
/-- What stands at the end of the list. -/
def isEnd (x : S33) : Prop := x.f0 = 7 ∧ bl x.f1 = []
theorem ref_l0 (M E : List S33) (hM : M.length ≤ 5000) (hE : (E = [] ∧ ∀ x, M.getLast? = some x → ¬ isEnd x) ∨ ∃ e, E = [e] ∧ isEnd e) (hz : ∀ x ∈ M, x.f1.size ≤ 140737488355328) :
    ∀ (r : List S33) (i k : Nat) (acc : List ByteArray) (n : Int), M.drop i = r → i + r.length = M.length → acc.length = i → Inv acc n → 1000000000000000 + 2 * r.length + 3 ≤ k →
    winchref01_Join.l0 k (M ++ E) (joinS acc) (i : Int) = match joinG acc n r with | none => some ((⟨#[]⟩ : ByteArray), false) | some a => some (joinS a, true) := by
  have hLl : (M ++ E).length ≤ 5001 := by
    rw [List.length_append]
    rcases hE with ⟨rfl, _⟩ | ⟨e, rfl, _⟩
    · simp; omega
    · simp; omega
  intro r
  induction r with
  | nil =>
    intro i k acc n hd hl ha hi hk
    have hl' : i = M.length := by simpa using hl
    obtain ⟨k, rfl⟩ : ∃ m, k = m + 2 := ⟨k - 2, by omega⟩
    rw [winchref01_Join.l0]
    rcases hE with ⟨rfl, _⟩ | ⟨e, rfl, he0, he1⟩
    · rw [List.append_nil, if_neg (by omega)]; rfl
    · have hrd : rd_T33 (M ++ [e]) (i : Int) = e := rd_here _ _ _ (by rw [hl', List.getElem?_append_right (Nat.le_refl _)]; simp)
      have hL : (M ++ [e]).length = M.length + 1 := by simp
      have hw1 : wrap64 (((M.length + 1 : Nat) : Int) - 1) = (M.length : Int) := by rw [w64 (by omega) (by omega)]; omega
      have hez : e.f1.size ≤ 140737488355328 := by rw [← bl_length, he1]; simp
      rw [hL, if_pos (by omega), if_pos (by omega), hrd, tok_r e hez (k + 1) (by omega), if_pos he0, he1, Option.bind_some, if_pos (show (([] : List UInt8) == []) = true from rfl), if_pos he0, hw1, show decide ((i : Int) < (M.length : Int)) = false by rw [decide_eq_false_iff_not]; omega, winchref01_Join.j1, if_neg (by decide), if_pos (by omega), hL, if_pos (by omega), hrd, if_pos he0]
      rfl
  | cons x r ih =>
    intro i k acc n hd hl ha hi hk
    have hl' : i + (r.length + 1) = M.length := by simpa using hl
    have hk' : 1000000000000000 + 2 * (r.length + 1) + 3 ≤ k := by simpa using hk
    obtain ⟨k, rfl⟩ : ∃ m, k = m + 2 := ⟨k - 2, by omega⟩
    have hx : M[i]? = some x := by
      have := congrArg List.head? hd
      rwa [List.head?_drop] at this
    have hd' : M.drop (i + 1) = r := by rw [← List.drop_drop, hd]; rfl
    have hxs := hz x (List.mem_of_getElem? hx)
    have hrd : rd_T33 (M ++ E) (i : Int) = x := rd_here _ _ _ (by rw [List.getElem?_append_left (by omega)]; exact hx)
    have hLi : (i : Int) < ((M ++ E).length : Int) := by rw [List.length_append]; omega
    have hw2 : wrap64 ((i : Int) + 1) = ((i + 1 : Nat) : Int) := by rw [w64 (by omega) (by omega)]; omega
    have hst := inv_step hi x.f1
    have hn0 := hi.1
    have j1t : ∀ m y z, winchref01_Join.j1 (m + 1) (M ++ E) y z true = some ((⟨#[]⟩ : ByteArray), false) := fun m y z => by rw [winchref01_Join.j1, if_pos rfl]
    rw [winchref01_Join.l0, if_pos hLi, if_pos (by omega), hrd, tok_r x hxs (k + 1) (by omega), Option.bind_some]
    unfold joinG
    by_cases h7 : x.f0 = 7
    · rw [if_pos h7, isTok_7 x h7, if_neg (show ¬ (false = true) by decide)]
      by_cases hb : (bl x.f1 == []) = true
      · rw [if_pos hb, if_pos h7]
        have hi2 : (i : Int) < wrap64 (((M ++ E).length : Int) - 1) := by
          rw [w64 (by omega) (by omega)]
          rcases hE with ⟨rfl, hlast⟩ | ⟨e, rfl, _⟩
          · rw [List.append_nil]
            have : r.length ≠ 0 := by
              intro hr0
              refine hlast x ?_ ⟨h7, by simpa using hb⟩
              rw [List.getLast?_eq_getElem?, show M.length - 1 = i by omega]
              exact hx
            omega
          · rw [List.length_append]; simp; omega
        rw [show decide ((i : Int) < wrap64 (((M ++ E).length : Int) - 1)) = true from decide_eq_true hi2]
        exact j1t _ _ _
      · rw [if_neg hb]
        exact j1t _ _ _
    · rw [if_neg h7]
      by_cases ht : isTok x = true
      · rw [if_pos ht, if_neg h7, winchref01_Join.j1, if_neg (by decide), if_pos (by omega), if_pos hLi, hrd, if_neg h7, if_pos ht, hw2]
        have hx0 : (joinS acc).size ≤ 8000 := by
          obtain ⟨h0, ⟨rfl, rfl⟩ | ⟨h1, h2⟩⟩ := hi
          · rw [joinS_nil]; show 0 ≤ 8000; omega
          · omega
        by_cases hi0 : i = 0
        · subst hi0
          obtain rfl : acc = [] := List.length_eq_zero_iff.1 ha
          have hn1 : n = -1 := by
            obtain ⟨h0, ⟨_, h⟩ | ⟨h1, h2⟩⟩ := hi
            · exact h
            · exact absurd rfl h1
          have hja : joinS [] ++ x.f1 = joinS ([] ++ [x.f1]) := by rw [List.nil_append, joinS_one, joinS_nil]; exact bytes_ext (by rw [bl_append_j]; rfl)
          rw [if_neg (by omega), if_pos (by omega), hja, hst.1]
          by_cases hc : n + ((x.f1.size : Int) + 1) > 8000
          · rw [if_pos hc, if_pos hc]
          · rw [if_neg hc, if_neg hc]
            exact ih 1 k _ _ hd' (by omega) (by simp) (inv_next hi x.f1 hc) (by omega)
        · have hne : acc ≠ [] := fun e => hi0 (by rw [← ha, e]; rfl)
          have hja := joinS_snoc acc hne x.f1
          have hs1 : (joinS acc ++ (⟨#[32]⟩ : ByteArray)).size = (joinS acc).size + 1 := by rw [size_app_j]; rfl
          rw [if_pos (by omega), if_pos (by omega), if_pos (by omega), ← hja, hst.1]
          by_cases hc : n + ((x.f1.size : Int) + 1) > 8000
          · rw [if_pos hc, if_pos hc]
          · rw [if_neg hc, if_neg hc]
            exact ih (i + 1) k _ _ hd' (by omega) (by rw [List.length_append]; simp; omega) (inv_next hi x.f1 hc) (by omega)
      · rw [if_neg ht, if_neg ht]
        exact j1t _ _ _
theorem joins_both (L : List S33) (hL : L.length ≤ 4002) (hz : ∀ x ∈ L, x.f1.size ≤ 140737488355328) (k : Nat) (hk : 1000000000100000 ≤ k) :
    ∃ v : Option ByteArray, (lexis_Join.f k L = match v with | none => some ((⟨#[]⟩ : ByteArray), 2) | some s => some (s, 0)) ∧ (winchref01_Join.f k L = match v with | none => some ((⟨#[]⟩ : ByteArray), false) | some s => some (s, true)) := by
  obtain ⟨k, rfl⟩ : ∃ m, k = m + 2 := ⟨k - 2, by omega⟩
  have main : ∀ (M E : List S33), M ++ E = L → ((E = [] ∧ ∀ x, M.getLast? = some x → ¬ isEnd x) ∨ ∃ e, E = [e] ∧ isEnd e) → lexis_Join.f (k + 2) L = lexis_Join.l0 k [] (-1) M (M.length : Int) 0 →
      ∃ v : Option ByteArray, (lexis_Join.f (k + 2) L = match v with | none => some ((⟨#[]⟩ : ByteArray), 2) | some s => some (s, 0)) ∧ (winchref01_Join.f (k + 2) L = match v with | none => some ((⟨#[]⟩ : ByteArray), false) | some s => some (s, true)) := by
    intro M E hME hE hf
    have hlen := congrArg List.length hME
    rw [List.length_append] at hlen
    have hzM : ∀ x ∈ M, x.f1.size ≤ 140737488355328 := fun x hx => hz x (by rw [← hME]; exact List.mem_append_left _ hx)
    have hI : Inv [] (-1) := ⟨by omega, .inl ⟨rfl, rfl⟩⟩
    have h1 := prog_l0 M (by omega) hzM M 0 k [] (-1) rfl (by omega) rfl hI (by omega)
    have h2 := ref_l0 M E (by omega) hE hzM M 0 (k + 2) [] (-1) rfl (by omega) rfl hI (by omega)
    have h3 : winchref01_Join.f (k + 2) L = winchref01_Join.l0 (k + 2) (M ++ E) (joinS []) 0 := by rw [hME]; rfl
    cases hg : joinG [] (-1) M with
    | none => rw [hg] at h1 h2; exact ⟨none, hf.trans h1, h3.trans h2⟩
    | some a => rw [hg] at h1 h2; exact ⟨some (joinS a), hf.trans h1, h3.trans h2⟩
  have cut : ∀ b : Bool, b = false → lexis_Join.j0 (k + 2) L (L.length : Int) b = lexis_Join.l0 k [] (-1) L (L.length : Int) 0 := by
    rintro _ rfl
    rw [lexis_Join.j0, if_neg (by decide), lexis_Join.j1]
  by_cases h0 : L.length = 0
  · refine main L [] (List.append_nil _) (.inl ⟨rfl, fun x hx => ?_⟩) ?_
    · rw [List.length_eq_zero_iff.1 h0] at hx; cases hx
    · unfold lexis_Join.f
      rw [if_neg (by omega)]
      exact cut false rfl
  · have hw1 : wrap64 ((L.length : Int) - 1) = ((L.length - 1 : Nat) : Int) := by rw [w64 (by omega) (by omega)]; omega
    obtain ⟨M, e, rfl⟩ : ∃ M e, L = M ++ [e] := ⟨L.dropLast, L.getLast (fun h => h0 (by rw [h]; rfl)), (List.dropLast_concat_getLast _).symm⟩
    have hLe : (M ++ [e]).length = M.length + 1 := by simp
    have hrd : rd_T33 (M ++ [e]) ((M.length : Nat) : Int) = e := rd_here _ _ _ (by rw [List.getElem?_append_right (Nat.le_refl _)]; simp)
    rw [hLe, show M.length + 1 - 1 = M.length by omega] at hw1
    have hf : lexis_Join.f (k + 2) (M ++ [e]) = if e.f0 = 7 then lexis_Join.j0 (k + 2) (M ++ [e]) ((M ++ [e]).length : Int) (e.f1.toList == ([] : List UInt8)) else lexis_Join.j0 (k + 2) (M ++ [e]) ((M ++ [e]).length : Int) false := by
      unfold lexis_Join.f
      rw [if_pos (by omega), hLe, hw1, if_pos (by omega), if_pos (by omega), hrd]
    by_cases h7 : e.f0 = 7
    · rw [if_pos h7, toList_bl] at hf
      by_cases hb : (bl e.f1 == []) = true
      · refine main M [e] rfl (.inr ⟨e, rfl, h7, by simpa using hb⟩) ?_
        rw [hf, hb, lexis_Join.j0, if_pos rfl, hLe, hw1, if_pos (by omega), if_pos (by omega), Int.toNat_natCast, List.take_left, lexis_Join.j1]
      · refine main (M ++ [e]) [] (List.append_nil _) (.inl ⟨rfl, fun x hx h => ?_⟩) ?_
        · rw [List.getLast?_append] at hx
          obtain rfl : e = x := by simpa using hx
          exact hb (by rw [h.2]; rfl)
        · rw [hf]
          exact cut _ (by simpa using hb)
    · rw [if_neg h7] at hf
      refine main (M ++ [e]) [] (List.append_nil _) (.inl ⟨rfl, fun x hx h => ?_⟩) ?_
      · rw [List.getLast?_append] at hx
        obtain rfl : e = x := by simpa using hx
        exact h7 h.1
      · rw [hf]
        exact cut _ rfl
theorem LexisJoins_pure (l0 : List S33) (hz : ∀ x ∈ l0, x.f1.size ≤ 140737488355328) : ∃ k, winchlaw01_LexisJoins.f k l0 = some true := by
  refine ⟨1000000000200000, ?_⟩
  unfold winchlaw01_LexisJoins.f
  have hl : winchlaw01_list.f l0 = some (l0.take (min l0.length 4002)) := by
    have e : mn (l0.length : Int) 4002 = ((min l0.length 4002 : Nat) : Int) := by unfold mn; split <;> omega
    unfold winchlaw01_list.f
    rw [e, if_pos (by omega), if_pos (by omega), Option.bind_some, Int.toNat_natCast, if_pos (by rw [List.length_take]; simp; omega), List.nil_append]
  rw [hl, Option.bind_some]
  have hL : (l0.take (min l0.length 4002)).length ≤ 4002 := by rw [List.length_take]; omega
  have hz' : ∀ x ∈ l0.take (min l0.length 4002), x.f1.size ≤ 140737488355328 := fun x hx => hz x (List.mem_of_mem_take hx)
  generalize l0.take (min l0.length 4002) = L at *
  obtain ⟨v, h1, h2⟩ := joins_both L hL hz' 1000000000200000 (by omega)
  rw [h1, h2]
  cases v with
  | none =>
    simp only [Option.bind_some]
    rw [if_neg (by decide), if_pos (by rw [toList_bl]), if_pos trivial, awake_j, Option.bind_some]
  | some s =>
    simp only [Option.bind_some]
    rw [if_pos trivial, if_pos trivial, if_pos trivial, awake_j, Option.bind_some]
end Go.Proofs.YtlbaojjnilnhlaaDoor.PA
