/-
  The plain law of LexisParts: the tokens of two sources with a line feed between them are those of the first one, and those of the second one, moved on.
-/
import Derived.Test.YtlbaojjnilnhlaaDoorGlue
import Derived.Test.YtlbaojjnilnhlaaDoorPAx22
import Derived.Test.YtlbaojjnilnhlaaDoorPAx31
namespace Go.Proofs.YtlbaojjnilnhlaaDoor.PA
open Go Go.RowKit Go.Proofs.YtlbaojjnilnhlaaDoorW.PrintWords Go.Proofs.YtlbaojjnilnhlaaDoorW.PrintLast Go.Proofs.YtlbaojjnilnhlaaDoorW.PrintMore
set_option linter.unusedVariables false
set_option linter.unusedSimpArgs false

theorem awake_p : winchlaw01_awake.f = some true := by decide +kernel
theorem bl_append_p (a b : ByteArray) : bl (a ++ b) = bl a ++ bl b := by simp [bl, ByteArray.data_append]
theorem size_app_p (a b : ByteArray) : (a ++ b).size = a.size + b.size := by rw [← bl_length, bl_append_p, List.length_append, bl_length, bl_length]
def mv (d : Int) (x : S33) : S33 := ⟨x.f0, x.f1, x.f2 + d⟩
theorem rd_pre_p (X Y : List S33) (i : Nat) (h : i < X.length) : rd_T33 (X ++ Y) (i : Int) = rd_T33 X (i : Int) := by
  unfold rd_T33
  rw [Int.toNat_natCast, List.getD_eq_getElem?_getD, List.getD_eq_getElem?_getD, List.getElem?_append_left h]
theorem rd_mem (Z : List S33) (j : Nat) (h : j < Z.length) : rd_T33 Z (j : Int) ∈ Z := by
  unfold rd_T33
  rw [Int.toNat_natCast, List.getD_eq_getElem?_getD, List.getElem?_eq_getElem h]
  exact List.getElem_mem h
theorem rd_map (X Z : List S33) (d : Int) (j : Nat) (h : j < Z.length) : rd_T33 (X ++ Z.map (mv d)) ((X.length + j : Nat) : Int) = mv d (rd_T33 Z (j : Int)) := by
  unfold rd_T33
  rw [Int.toNat_natCast, Int.toNat_natCast, List.getD_eq_getElem?_getD, List.getD_eq_getElem?_getD, List.getElem?_append_right (by omega), List.getElem?_map, show X.length + j - X.length = j by omega, List.getElem?_eq_getElem h]
  rfl
theorem items_pos : ∀ (f : Nat) (l : List UInt8) (a : Int) (x : Item), x ∈ items f l a → a ≤ x.1.f2 ∧ x.1.f2 ≤ a + l.length := by
  intro f
  induction f with
  | zero => intro l a x h; exact absurd h (by simp [items])
  | succ f ih =>
    intro l a x h
    have hle := skipN_le l false
    unfold items at h
    by_cases h1 : (l.drop (skipN false l)).isEmpty
    · rw [if_pos h1] at h; exact absurd h (by simp)
    · rw [if_neg h1] at h
      by_cases h2 : (tokL (l.drop (skipN false l))).2.isEmpty
      · rw [if_pos h2] at h
        obtain rfl := List.mem_singleton.1 h
        exact ⟨by show a ≤ a + (skipN false l : Int); omega, by show a + (skipN false l : Int) ≤ _; omega⟩
      · rw [if_neg h2] at h
        rcases List.mem_cons.1 h with rfl | h
        · exact ⟨by show a ≤ a + (skipN false l : Int); omega, by show a + (skipN false l : Int) ≤ _; omega⟩
        · obtain ⟨g1, g2⟩ := ih _ _ x h
          have hle2 := tokL_len (l.drop (skipN false l))
          rw [List.length_drop, List.length_drop] at g2
          rw [List.length_drop] at hle2
          omega
theorem finish_pos (size : Int) : ∀ (xs : List Item) (acc), ¬ (∀ x ∈ xs, x.2 ≠ 0) → ∃ x ∈ xs, (finish size xs acc).2.1 = x.1.f2 := by
  intro xs
  induction xs with
  | nil => intro acc h; exact absurd (by simp) h
  | cons x xs ih =>
    intro acc h
    obtain ⟨t, n⟩ := x
    unfold finish
    by_cases hn : n = 0
    · rw [if_pos hn]; exact ⟨(t, n), List.mem_cons_self, rfl⟩
    · rw [if_neg hn]
      obtain ⟨y, hy, e⟩ := ih (acc ++ [t]) (fun h' => h (by intro y hy; rcases List.mem_cons.1 hy with rfl | hy; exact hn; exact h' y hy))
      exact ⟨y, List.mem_cons_of_mem _ hy, e⟩
theorem toks_small (s : ByteArray) (hs : s.size ≤ 8000) : toksOf s = finish s.size (items (s.size + 1) (bl s) 0) [] := by unfold toksOf; rw [if_neg (by omega)]
theorem toks_parts (s t : ByteArray) (hs : s.size ≤ 3900) (ht : t.size ≤ 3900) :
    (∃ p : Int, toksOf s = ([], p, 4) ∧ toksOf ((s ++ (⟨#[10]⟩ : ByteArray)) ++ t) = ([], p, 4)) ∨
    (∃ (L : List S33) (p : Int), 0 ≤ p ∧ p ≤ 3900 ∧ toksOf s = (L, 0, 0) ∧ toksOf t = ([], p, 4) ∧ toksOf ((s ++ (⟨#[10]⟩ : ByteArray)) ++ t) = ([], (s.size : Int) + 1 + p, 4)) ∨
    ∃ (X Z : List S33) (e : S33), X.length ≤ 3901 ∧ Z.length ≤ 3902 ∧ 0 < Z.length ∧ (∀ z ∈ Z, 0 ≤ z.f2 ∧ z.f2 ≤ 3900) ∧ toksOf s = (X ++ [e], 0, 0) ∧ toksOf t = (Z, 0, 0) ∧
      toksOf ((s ++ (⟨#[10]⟩ : ByteArray)) ++ t) = (X ++ Z.map (mv ((s.size : Int) + 1)), 0, 0) := by
  have hus : ((s ++ (⟨#[10]⟩ : ByteArray)) ++ t).size = s.size + 1 + t.size := by rw [size_app_p, size_app_p]; rfl
  have hub : bl ((s ++ (⟨#[10]⟩ : ByteArray)) ++ t) = bl s ++ 10 :: bl t := by rw [bl_append_p, bl_append_p]; simp [bl]
  have hT := toks_small s (by omega)
  have hV := toks_small t (by omega)
  have hU := toks_small ((s ++ (⟨#[10]⟩ : ByteArray)) ++ t) (by omega)
  have hbs := bl_length s
  have hbt := bl_length t
  rw [hub, items_glue (bl t) (s.size + 1) _ (bl s) 0 (by omega) (by omega), hbs, hbt, hus] at hU
  have hmv : items (t.size + 1) (bl t) (0 + (s.size : Int) + 1) = (items (t.size + 1) (bl t) 0).map (moveI ((s.size : Int) + 1)) := by
    rw [show (0 : Int) + (s.size : Int) + 1 = 0 + ((s.size : Int) + 1) by omega]
    exact items_move _ _ _ _
  rw [hmv] at hU
  have hps := items_pos (t.size + 1) (bl t) 0
  have hls := items_len (s.size + 1) (bl s) 0
  have hlt := items_len (t.size + 1) (bl t) 0
  rw [hbt] at hps
  generalize items (s.size + 1) (bl s) 0 = xs at *
  generalize items (t.size + 1) (bl t) 0 = ys at *
  generalize toksOf ((s ++ (⟨#[10]⟩ : ByteArray)) ++ t) = U at *
  by_cases hx : ∀ x ∈ xs, x.2 ≠ 0
  · rw [if_pos hx, finish_pre _ _ _ _ hx, List.nil_append] at hU
    rw [finish_ok _ _ _ hx, List.nil_append] at hT
    by_cases hy : ∀ y ∈ ys, y.2 ≠ 0
    · right; right
      rw [finish_ok _ _ _ hy, List.nil_append] at hV
      rw [finish_ok _ _ _ ((move_ok _ ys).2 hy)] at hU
      refine ⟨xs.map Prod.fst, ys.map Prod.fst ++ [⟨7, ⟨#[]⟩, (t.size : Int)⟩], ⟨7, ⟨#[]⟩, (s.size : Int)⟩, by rw [List.length_map]; omega, by rw [List.length_append, List.length_map]; simp; omega, by simp, ?_, hT, hV, ?_⟩
      · intro z hz
        rcases List.mem_append.1 hz with hz | hz
        · obtain ⟨y, hy', rfl⟩ := List.mem_map.1 hz
          have := hps y hy'
          omega
        · obtain rfl := List.mem_singleton.1 hz
          exact ⟨by show (0 : Int) ≤ (t.size : Int); omega, by show (t.size : Int) ≤ 3900; omega⟩
      · rw [hU, List.map_append, List.append_assoc, List.map_map, List.map_map]
        have e1 : (Prod.fst ∘ moveI ((s.size : Int) + 1)) = (mv ((s.size : Int) + 1) ∘ Prod.fst) := rfl
        have e2 : [(⟨7, ⟨#[]⟩, ((s.size + 1 + t.size : Nat) : Int)⟩ : S33)] = [(⟨7, ⟨#[]⟩, (t.size : Int)⟩ : S33)].map (mv ((s.size : Int) + 1)) := by
          show _ = [(⟨7, ⟨#[]⟩, (t.size : Int) + ((s.size : Int) + 1)⟩ : S33)]
          rw [show ((s.size + 1 + t.size : Nat) : Int) = (t.size : Int) + ((s.size : Int) + 1) by omega]
        rw [e1, e2]
    · right; left
      obtain ⟨g1, g2⟩ := finish_fst (t.size : Int) ys [] hy
      obtain ⟨y, hy', e⟩ := finish_pos (t.size : Int) ys [] hy
      have hp := hps y hy'
      rw [← e] at hp
      refine ⟨_, (finish (t.size : Int) ys []).2.1, by omega, by omega, hT, ?_, ?_⟩
      · rw [hV]; exact Prod.ext g1 (Prod.ext rfl g2)
      · rw [hU, finish_move (t.size : Int) _ ((s.size : Int) + 1) ys [] _ hy, show (finish (t.size : Int) ys []).2.1 + ((s.size : Int) + 1) = (s.size : Int) + 1 + (finish (t.size : Int) ys []).2.1 by omega]
  · left
    rw [if_neg hx] at hU
    have hf := finish_any (s.size : Int) ((s.size + 1 + t.size : Nat) : Int) xs [] [] [] hx
    rw [List.append_nil] at hf
    obtain ⟨g1, g2⟩ := finish_fst (s.size : Int) xs [] hx
    refine ⟨(finish (s.size : Int) xs []).2.1, ?_, ?_⟩
    · rw [hT]; exact Prod.ext g1 (Prod.ext rfl g2)
    · rw [hU, ← hf]; exact Prod.ext g1 (Prod.ext rfl g2)
theorem parts_l0 (s : ByteArray) (hs : s.size ≤ 3900) (X Z : List S33) (e : S33) (hX : X.length ≤ 3901) (hZ : Z.length ≤ 3902) (hz : ∀ z ∈ Z, 0 ≤ z.f2 ∧ z.f2 ≤ 3900) : ∀ (n i k : Nat), n + i = X.length + Z.length → n + 1 ≤ k →
    winchlaw01_LexisParts.l0 k s (X ++ [e]) Z (X ++ Z.map (mv ((s.size : Int) + 1))) (i : Int) = some true := by
  have hL : (X ++ [e]).length = X.length + 1 := by simp
  have hN : (X ++ Z.map (mv ((s.size : Int) + 1))).length = X.length + Z.length := by simp
  intro n
  induction n with
  | zero =>
    intro i k hi hk
    obtain ⟨k, rfl⟩ : ∃ m, k = m + 1 := ⟨k - 1, by omega⟩
    rw [winchlaw01_LexisParts.l0, hN, if_neg (by omega), awake_p, Option.bind_some]
  | succ n ih =>
    intro i k hi hk
    obtain ⟨k, rfl⟩ : ∃ m, k = m + 1 := ⟨k - 1, by omega⟩
    have hw1 : wrap64 (((X.length + 1 : Nat) : Int) - 1) = (X.length : Int) := by rw [w64 (by omega) (by omega)]; omega
    have hw2 : wrap64 ((i : Int) + 1) = ((i + 1 : Nat) : Int) := by rw [w64 (by omega) (by omega)]; omega
    rw [winchlaw01_LexisParts.l0, hL, hN, if_pos (by omega), hw1, hw2]
    by_cases hlt : i < X.length
    · rw [if_pos (by omega), if_pos (by omega), if_pos (by omega), rd_pre_p X _ i hlt, rd_pre_p X _ i hlt, if_neg (by simp)]
      exact ih (i + 1) k (by omega) (by omega)
    · obtain ⟨j, rfl⟩ : ∃ j, i = X.length + j := ⟨i - X.length, by omega⟩
      have hj : j < Z.length := by omega
      have hw3 : wrap64 ((wrap64 (((X.length + j : Nat) : Int) - ((X.length + 1 : Nat) : Int))) + 1) = (j : Int) := by
        rw [w64 (x := ((X.length + j : Nat) : Int) - ((X.length + 1 : Nat) : Int)) (by omega) (by omega), w64 (by omega) (by omega)]; omega
      have hm := hz _ (rd_mem Z j hj)
      have hw4 : wrap64 ((wrap64 (((rd_T33 Z (j : Int)).f2) + (s.size : Int))) + 1) = (rd_T33 Z (j : Int)).f2 + ((s.size : Int) + 1) := by
        rw [w64 (x := (rd_T33 Z (j : Int)).f2 + (s.size : Int)) (by omega) (by omega), w64 (by omega) (by omega)]; omega
      have hr := rd_map X Z ((s.size : Int) + 1) j hj
      rw [if_neg (by omega), hw3, if_pos (by omega), if_pos (by omega), if_pos (by omega), hw4, hr, if_neg (by simp [mv])]
      exact ih (X.length + j + 1) k (by omega) (by omega)
theorem LexisParts_pure : winchlaw01_LexisParts.Pure := by
  intro a0 a1 h0 h1
  refine ⟨100000, ?_⟩
  unfold winchlaw01_LexisParts.f
  have e0 : mn (a0.size : Int) 3900 = ((min a0.size 3900 : Nat) : Int) := by unfold mn; split <;> omega
  have e1 : mn (a1.size : Int) 3900 = ((min a1.size 3900 : Nat) : Int) := by unfold mn; split <;> omega
  rw [e0, e1, if_pos (by omega), if_pos (by omega), if_pos (by omega), if_pos (by omega), Int.toNat_natCast, Int.toNat_natCast]
  have hs : (a0.extract 0 (min a0.size 3900)).size ≤ 3900 := by rw [ByteArray.size_extract]; omega
  have ht : (a1.extract 0 (min a1.size 3900)).size ≤ 3900 := by rw [ByteArray.size_extract]; omega
  generalize a0.extract 0 (min a0.size 3900) = s at *
  generalize a1.extract 0 (min a1.size 3900) = t at *
  have c1 : lexis_Tokens.f s = some (toksOf s) := rfl
  have c2 : lexis_Tokens.f t = some (toksOf t) := rfl
  have c3 : lexis_Tokens.f ((s ++ (⟨#[10]⟩ : ByteArray)) ++ t) = some (toksOf ((s ++ (⟨#[10]⟩ : ByteArray)) ++ t)) := rfl
  have hz1 : (s ++ (⟨#[10]⟩ : ByteArray)).size = s.size + 1 := by rw [size_app_p]; rfl
  rw [c1, Option.bind_some, c2, Option.bind_some, if_pos (by omega), if_pos (by omega), c3, Option.bind_some]
  rcases toks_parts s t hs ht with ⟨p, h1, h2⟩ | ⟨L, p, hp0, hp1, h1, h2, h3⟩ | ⟨X, Z, e, hX, hZ, hZ0, hz, h1, h2, h3⟩
  · rw [h1, h2]
    simp only
    rw [if_neg (by decide), if_pos trivial, if_pos trivial, awake_p, Option.bind_some]
  · rw [h1, h2, h3]
    have hw : wrap64 ((wrap64 ((s.size : Int) + 1)) + p) = (s.size : Int) + 1 + p := by rw [w64 (x := (s.size : Int) + 1) (by omega) (by omega), w64 (by omega) (by omega)]
    simp only [hw]
    rw [if_pos trivial, if_neg (by decide), if_pos trivial, if_pos trivial, awake_p, Option.bind_some]
  · rw [h1, h2, h3]
    have hlen : ((X ++ Z.map (mv ((s.size : Int) + 1))).length : Int) = wrap64 ((wrap64 (((X ++ [e]).length : Int) + (Z.length : Int))) - 1) := by
      rw [show (X ++ [e]).length = X.length + 1 by simp, show (X ++ Z.map (mv ((s.size : Int) + 1))).length = X.length + Z.length by simp, w64 (x := ((X.length + 1 : Nat) : Int) + (Z.length : Int)) (by omega) (by omega), w64 (by omega) (by omega)]
      omega
    simp only
    rw [if_pos trivial, if_pos trivial, if_pos trivial, ← hlen, winchlaw01_LexisParts.j0, if_neg (by simp)]
    exact parts_l0 s hs X Z e hX hZ hz (X.length + Z.length) 0 _ (by omega) (by omega)
end Go.Proofs.YtlbaojjnilnhlaaDoor.PA
