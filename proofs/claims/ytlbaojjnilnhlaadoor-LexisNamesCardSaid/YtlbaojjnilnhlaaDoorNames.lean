/-
  The plain law of LexisNames: the words are the document's; names, words and addresses are what it says.
-/
import Derived.Test.YtlbaojjnilnhlaaDoorRef
import Derived.Test.YtlbaojjnilnhlaaDoorExtN
import Derived.Test.YtlbaojjnilnhlaaDoorPAx29
import Derived.Test.YtlbaojjnilnhlaaDoorPAx11
import Derived.Test.YtlbaojjnilnhlaaDoorPAx31
namespace Go.Proofs.YtlbaojjnilnhlaaDoor.PA
open Go Go.RowKit Go.Proofs.YtlbaojjnilnhlaaDoorW.PrintWords Go.Proofs.YtlbaojjnilnhlaaDoorW.PrintLast Go.Proofs.YtlbaojjnilnhlaaDoorW.PrintMore
set_option linter.unusedVariables false
set_option linter.unusedSimpArgs false

theorem awake_n : winchlaw01_awake.f = some true := by decide +kernel
set_option maxRecDepth 100000 in
theorem refWords : winchref01_Words.f = some wordsBA := rfl
theorem words_facts : ∀ w ∈ wordsBA, isWordB (bl w) = true ∧ w.size ≤ 20 := by
  have h : (wordsBA.all fun w => isWordB (bl w) && decide (w.size ≤ 20)) = true := by decide +kernel
  intro w hw
  simpa using List.all_eq_true.1 h w hw
theorem words_len : wordsBA.length = 90 := by decide +kernel
theorem rdOf_mem (L : List ByteArray) (i : Nat) (h : i < L.length) : rdOf ByteArray.empty L (i : Int) ∈ L := by
  unfold rdOf
  rw [Int.toNat_natCast, List.getD_eq_getElem?_getD, List.getElem?_eq_getElem h]
  exact List.getElem_mem h
theorem names_end (x0 : ByteArray) (k : Nat) (hk : 1000 ≤ k) : winchlaw01_LexisNames.l0 (k + 1) x0 wordsBA wordsBA ((90 : Nat) : Int) = some true := by
  have e : mn (x0.size : Int) 100 = ((min x0.size 100 : Nat) : Int) := by unfold mn; split <;> omega
  have hsz : (x0.extract 0 (min x0.size 100)).size ≤ 100 := by rw [ByteArray.size_extract]; omega
  rw [winchlaw01_LexisNames.l0, words_len, if_neg (by omega), e, if_pos (by omega), if_pos (by omega), Int.toNat_natCast]
  generalize x0.extract 0 (min x0.size 100) = t at *
  rw [isName_f t (by omega) k (by omega), Option.bind_some, isName_r t (by omega) k (by omega), Option.bind_some, if_pos (beq_self_eq_true _), isWord_f, Option.bind_some, isWord_r t k (by omega), Option.bind_some, if_pos (beq_self_eq_true _),
    isAddress_f t (by omega), Option.bind_some, isAddr_r t (by omega) k (by omega), Option.bind_some, if_pos (beq_self_eq_true _), awake_n, Option.bind_some]
theorem names_l0 (x0 : ByteArray) : ∀ (n i k : Nat), n + i = 90 → 1001 + n ≤ k → winchlaw01_LexisNames.l0 k x0 wordsBA wordsBA (i : Int) = some true := by
  intro n
  induction n with
  | zero =>
    intro i k hi hk
    obtain rfl : i = 90 := by omega
    obtain ⟨k, rfl⟩ : ∃ m, k = m + 1 := ⟨k - 1, by omega⟩
    exact names_end x0 k (by omega)
  | succ n ih =>
    intro i k hi hk
    obtain ⟨k, rfl⟩ : ∃ m, k = m + 1 := ⟨k - 1, by omega⟩
    have hw2 : wrap64 ((i : Int) + 1) = ((i + 1 : Nat) : Int) := by rw [w64 (by omega) (by omega)]; omega
    obtain ⟨h1, h2⟩ := words_facts _ (rdOf_mem wordsBA i (by rw [words_len]; omega))
    have hn : isNameB (bl (rdOf ByteArray.empty wordsBA (i : Int))) = false := by unfold isNameB; rw [h1]; simp
    rw [winchlaw01_LexisNames.l0, words_len, if_pos (by omega), if_pos (by omega), if_pos (by omega), if_pos rfl, isWord_f, h1, Option.bind_some, if_pos rfl, isName_f _ (by omega) k (by omega), hn, Option.bind_some, if_neg (by decide), hw2]
    exact ih (i + 1) k (by omega) (by omega)
theorem LexisNames_pure : winchlaw01_LexisNames.Pure := by
  intro a0 h0
  refine ⟨2000, ?_⟩
  unfold winchlaw01_LexisNames.f lexis_Words.f
  rw [refWords, Option.bind_some, Option.bind_some, if_pos rfl]
  exact names_l0 a0 90 0 2000 (by omega) (by omega)
end Go.Proofs.YtlbaojjnilnhlaaDoor.PA
