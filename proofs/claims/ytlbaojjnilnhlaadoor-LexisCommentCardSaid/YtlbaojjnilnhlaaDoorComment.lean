/-
  The plain law of LexisComment: a comment added at the end changes no token but for the last one's place.
-/
import Derived.Test.YtlbaojjnilnhlaaDoorGlue
import Derived.Test.YtlbaojjnilnhlaaDoorPAx21
import Derived.Test.YtlbaojjnilnhlaaDoorPAx31
namespace Go.Proofs.YtlbaojjnilnhlaaDoor.PA
open Go Go.RowKit Go.Proofs.YtlbaojjnilnhlaaDoorW.PrintWords Go.Proofs.YtlbaojjnilnhlaaDoorW.PrintLast Go.Proofs.YtlbaojjnilnhlaaDoorW.PrintMore
set_option linter.unusedVariables false
set_option linter.unusedSimpArgs false

theorem awake_c : winchlaw01_awake.f = some true := by decide +kernel
theorem bl_append (a b : ByteArray) : bl (a ++ b) = bl a ++ bl b := by simp [bl, ByteArray.data_append]
theorem size_app (a b : ByteArray) : (a ++ b).size = a.size + b.size := by rw [← bl_length, bl_append, List.length_append, bl_length, bl_length]
def GoodC (i : Nat) (x : ByteArray) : Prop := ∃ cm, bl x = 10 :: 47 :: 47 :: cm ∧ cm.length ≤ i ∧ 10 ∉ cm
theorem rd_at {L pre : List S33} {t} {post} (h : L = pre ++ t :: post) : rd_T33 L (pre.length : Int) = t := by
  subst h
  unfold rd_T33
  rw [Int.toNat_natCast, List.getD_eq_getElem?_getD, List.getElem?_append_right (Nat.le_refl _)]
  simp
theorem rd_pre (X Y : List S33) (i : Nat) (h : i < X.length) : rd_T33 (X ++ Y) (i : Int) = rd_T33 X (i : Int) := by
  unfold rd_T33
  rw [Int.toNat_natCast, List.getD_eq_getElem?_getD, List.getD_eq_getElem?_getD, List.getElem?_append_left h]
theorem toks_comment (s c : ByteArray) (hs : s.size ≤ 7900) (hc : GoodC 50 c) :
    (∃ X : List S33, X.length ≤ 7901 ∧ toksOf s = (X ++ [⟨7, ⟨#[]⟩, (s.size : Int)⟩], 0, 0) ∧ toksOf ((s ++ c) ++ (⟨#[10]⟩ : ByteArray)) = (X ++ [⟨7, ⟨#[]⟩, (s.size : Int) + c.size + 1⟩], 0, 0)) ∨
    ∃ p : Int, toksOf s = ([], p, 4) ∧ toksOf ((s ++ c) ++ (⟨#[10]⟩ : ByteArray)) = ([], p, 4) := by
  obtain ⟨cm, h1, h2, h3⟩ := hc
  have hcs : c.size = cm.length + 3 := by rw [← bl_length, h1]; rfl
  have hus : ((s ++ c) ++ (⟨#[10]⟩ : ByteArray)).size = s.size + cm.length + 4 := by rw [size_app, size_app, hcs]; show s.size + (cm.length + 3) + 1 = _; omega
  have hub : bl ((s ++ c) ++ (⟨#[10]⟩ : ByteArray)) = bl s ++ 10 :: (47 :: 47 :: cm ++ [10]) := by rw [bl_append, bl_append, h1]; simp [bl]
  have hT : toksOf s = finish s.size (items (s.size + 1) (bl s) 0) [] := by unfold toksOf; rw [if_neg (by omega)]
  have hU : toksOf ((s ++ c) ++ (⟨#[10]⟩ : ByteArray)) = finish (s.size + c.size + 1) (items (s.size + 1) (bl s) 0) [] := by
    unfold toksOf
    rw [if_neg (by omega)]
    have hi : items (((s ++ c) ++ (⟨#[10]⟩ : ByteArray)).size + 1) ((s ++ c) ++ (⟨#[10]⟩ : ByteArray)).data.toList 0 = items (s.size + 1) (bl s) 0 := by
      show items _ (bl _) 0 = _
      rw [hub, items_glue (47 :: 47 :: cm ++ [10]) (s.size + 1) _ (bl s) 0 (by have := bl_length s; omega) (by rw [bl_length, hus]; simp only [List.length_append, List.length_cons, List.length_nil]; omega), items_comment cm h3, List.append_nil, ite_self]
    rw [hi, hus, hcs]
    congr 1
  by_cases hx : ∀ x ∈ items (s.size + 1) (bl s) 0, x.2 ≠ 0
  · left
    refine ⟨(items (s.size + 1) (bl s) 0).map Prod.fst, ?_, ?_, ?_⟩
    · rw [List.length_map]; have := items_len (s.size + 1) (bl s) 0; omega
    · rw [hT, finish_ok _ _ _ hx]; rfl
    · rw [hU, finish_ok _ _ _ hx]; rfl
  · right
    have hf := finish_any (s.size : Int) ((s.size : Int) + c.size + 1) _ [] [] [] hx
    rw [List.append_nil] at hf
    obtain ⟨g1, g2⟩ := finish_fst (s.size : Int) _ [] hx
    refine ⟨(finish (s.size : Int) (items (s.size + 1) (bl s) 0) []).2.1, ?_, ?_⟩
    · rw [hT]; exact Prod.ext g1 (Prod.ext rfl g2)
    · rw [hU, ← hf]; exact Prod.ext g1 (Prod.ext rfl g2)
theorem comment_l1 (s c : ByteArray) (hs : s.size ≤ 7900) (hc : c.size ≤ 100) (X : List S33) (hX : X.length ≤ 100000) (e1 : S33) : ∀ (n i k : Nat), n + i = X.length → n + 1 ≤ k →
    winchlaw01_LexisComment.l1 k s c (X ++ [e1]) 0 (X ++ [⟨7, ⟨#[]⟩, (s.size : Int) + c.size + 1⟩]) (i : Int) = some true := by
  have hL : ∀ e : S33, (X ++ [e]).length = X.length + 1 := fun e => by simp
  intro n
  induction n with
  | zero =>
    intro i k hi hk
    obtain ⟨k, rfl⟩ : ∃ m, k = m + 1 := ⟨k - 1, by omega⟩
    obtain rfl : i = X.length := by omega
    have hw1 : wrap64 (((X.length + 1 : Nat) : Int) - 1) = (X.length : Int) := by rw [w64 (by omega) (by omega)]; omega
    have hw2 : wrap64 ((X.length : Int) + 1) = ((X.length + 1 : Nat) : Int) := by rw [w64 (by omega) (by omega)]; omega
    have hw3 : wrap64 ((wrap64 ((s.size : Int) + (c.size : Int))) + 1) = (s.size : Int) + c.size + 1 := by rw [w64 (x := (s.size : Int) + (c.size : Int)) (by omega) (by omega), w64 (by omega) (by omega)]
    have hr := rd_at (L := X ++ [⟨7, ⟨#[]⟩, (s.size : Int) + c.size + 1⟩]) (pre := X) (post := []) rfl
    rw [winchlaw01_LexisComment.l1, hL, hL, hw2, if_neg (Int.lt_irrefl _), if_pos rfl, if_pos (by omega), hw1, if_pos (by omega), if_pos (by omega), hr, hw3, if_pos rfl, awake_c, Option.bind_some]
  | succ n ih =>
    intro i k hi hk
    obtain ⟨k, rfl⟩ : ∃ m, k = m + 1 := ⟨k - 1, by omega⟩
    have hw2 : wrap64 ((i : Int) + 1) = ((i + 1 : Nat) : Int) := by rw [w64 (by omega) (by omega)]; omega
    rw [winchlaw01_LexisComment.l1, hL, hL, hw2, if_pos (by omega), if_pos (by omega), if_pos (by omega), if_pos (by omega), rd_pre X _ i (by omega), rd_pre X _ i (by omega), if_neg (by simp)]
    exact ih (i + 1) k (by omega) (by omega)
theorem comment_j2 (s c : ByteArray) (hs : s.size ≤ 7900) (hc : GoodC 50 c) (k : Nat) (hk : 10000 ≤ k) (x1 : ByteArray) (x7 : Int) : winchlaw01_LexisComment.j1 k x1 s c x7 false = some true := by
  have hcs : c.size ≤ 53 := by obtain ⟨cm, h1, h2, h3⟩ := hc; rw [← bl_length, h1]; simp; omega
  obtain ⟨k, rfl⟩ : ∃ m, k = m + 3 := ⟨k - 3, by omega⟩
  rw [winchlaw01_LexisComment.j1, if_neg (by decide)]
  have e1 : lexis_Tokens.f s = some (toksOf s) := rfl
  have e2 : lexis_Tokens.f ((s ++ c) ++ (⟨#[10]⟩ : ByteArray)) = some (toksOf ((s ++ c) ++ (⟨#[10]⟩ : ByteArray))) := rfl
  rw [e1, Option.bind_some, if_pos (by omega), if_pos (by rw [size_app]; omega), e2, Option.bind_some]
  rcases toks_comment s c hs hc with ⟨X, hX, h1, h2⟩ | ⟨p, h1, h2⟩
  · rw [h1, h2]
    simp only
    rw [if_pos trivial, if_pos (by simp), winchlaw01_LexisComment.j2, if_neg (by decide)]
    exact comment_l1 s c hs (by omega) X (by omega) _ X.length 0 _ (by omega) (by omega)
  · rw [h1, h2]
    simp only
    rw [if_pos trivial, if_pos trivial, winchlaw01_LexisComment.j2, if_neg (by simp), winchlaw01_LexisComment.l1, if_neg (by rw [w64 (by omega) (by omega)]; simp), if_neg (by decide), awake_c, Option.bind_some]
theorem comment_l0 (s a1 : ByteArray) (hs : s.size ≤ 7900) : ∀ (n i k : Nat) (c : ByteArray), n + i = 50 → 2 * n + 20000 ≤ k → GoodC i c → winchlaw01_LexisComment.l0 k a1 s c (i : Int) = some true := by
  intro n
  induction n with
  | zero =>
    intro i k c hi hk hc
    obtain rfl : i = 50 := by omega
    obtain ⟨k, rfl⟩ : ∃ m, k = m + 1 := ⟨k - 1, by omega⟩
    rw [winchlaw01_LexisComment.l0, show decide (((50 : Nat) : Int) < 50) = false by decide, ite_self]
    exact comment_j2 s c hs hc k (by omega) _ _
  | succ n ih =>
    intro i k c hi hk hc
    obtain ⟨k, rfl⟩ : ∃ m, k = m + 2 := ⟨k - 2, by omega⟩
    have hm : ∀ (j : Nat), i ≤ j → GoodC j c := fun j h => by obtain ⟨cm, h1, h2, h3⟩ := hc; exact ⟨cm, h1, by omega, h3⟩
    rw [winchlaw01_LexisComment.l0]
    by_cases hlt : i < a1.size
    · rw [if_pos (by omega), show decide ((i : Int) < 50) = true by rw [decide_eq_true_iff]; omega, winchlaw01_LexisComment.j1, if_pos rfl, if_pos (by omega), if_pos (by omega)]
      cases hd : (bl a1).drop i with
      | nil => exact absurd (drop_none hd) (by omega)
      | cons d r =>
        obtain ⟨hb, _, _⟩ := bt_drop hd
        have hw : wrap64 ((i : Int) + 1) = ((i + 1 : Nat) : Int) := by rw [w64 (by omega) (by omega)]; omega
        rw [hb, hw]
        by_cases h10 : d = 10
        · rw [if_pos (by rw [h10]; rfl)]
          exact ih (i + 1) k c (by omega) (by omega) (hm _ (by omega))
        · have hn : ¬ ((d.toNat : Int) = 10) := fun e => h10 (UInt8.toNat_inj.1 (by rw [show (10 : UInt8).toNat = 10 from rfl]; omega))
          have hcs : c.size ≤ 53 := by obtain ⟨cm, h1, h2, h3⟩ := hc; rw [← bl_length, h1]; simp; omega
          have hes : (a1.extract i (i + 1)).size ≤ 1 := by rw [ByteArray.size_extract]; omega
          rw [if_neg hn, if_pos (by omega), if_pos (by omega), Int.toNat_natCast, Int.toNat_natCast, if_pos (by omega)]
          refine ih (i + 1) k _ (by omega) (by omega) ?_
          obtain ⟨cm, h1, h2, h3⟩ := hc
          refine ⟨cm ++ [d], ?_, by simp; omega, ?_⟩
          · rw [bl_append, extract_bl, hd, h1, show i + 1 - i = 1 by omega]; rfl
          · simp only [List.mem_append, List.mem_singleton, not_or]
            exact ⟨h3, fun e => h10 e.symm⟩
    · rw [if_neg (by omega)]
      exact comment_j2 s c hs (hm 50 (by omega)) (k + 1) (by omega) _ _
theorem LexisComment_pure : winchlaw01_LexisComment.Pure := by
  intro a0 a1 h0 h1
  refine ⟨100000, ?_⟩
  unfold winchlaw01_LexisComment.f
  have e : mn (a0.size : Int) 7900 = ((min a0.size 7900 : Nat) : Int) := by unfold mn; split <;> omega
  rw [e, if_pos (by omega), if_pos (by omega), Int.toNat_natCast]
  have hsz : (a0.extract 0 (min a0.size 7900)).size ≤ 7900 := by rw [ByteArray.size_extract]; omega
  exact comment_l0 _ a1 hsz 50 0 _ _ (by omega) (by omega) ⟨[], rfl, Nat.le_refl _, by simp⟩
end Go.Proofs.YtlbaojjnilnhlaaDoor.PA
