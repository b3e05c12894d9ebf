/-
  The plain law of LexisCounted.
-/
import Derived.Test.YtlbaojjnilnhlaaDoorPlace
import Derived.Test.YtlbaojjnilnhlaaDoorPAx28
namespace Go.Proofs.YtlbaojjnilnhlaaDoor.PA
open Go Go.RowKit Go.Proofs.YtlbaojjnilnhlaaDoorW.PrintWords Go.Proofs.YtlbaojjnilnhlaaDoorW.PrintLast Go.Proofs.YtlbaojjnilnhlaaDoorW.PrintMore
set_option linter.unusedVariables false

theorem counted_l (s : ByteArray) (hs : s.size ≤ 8000) (p : Nat) (hp : p ≤ s.size) (col : Int) : ∀ (k i : Nat), p + 1 ≤ k + i → i ≤ p →
    winchlaw01_LexisCounted.l0 k (p : Int) s (1 + (((bl s).take p).count 10 : Int)) (lastLF ((bl s).take p) + 1) (1 + (((bl s).take i).count 10 : Int)) (i : Int) = some true := by
  intro k
  induction k with
  | zero => intro i h1 h2; omega
  | succ k ih =>
    intro i h1 h2
    unfold winchlaw01_LexisCounted.l0
    have hc : ((bl s).take i).count 10 ≤ i := Nat.le_trans List.count_le_length (by rw [List.length_take]; omega)
    by_cases h : i < p
    · rw [if_pos (by omega), if_pos (by omega), if_pos (by omega)]
      obtain ⟨c, hcx⟩ : ∃ c, (bl s)[i]? = some c := ⟨_, List.getElem?_eq_getElem (by rw [bl_length]; omega)⟩
      have ih' := ih (i + 1) (by omega) (by omega)
      rw [take_snoc hcx, List.count_append] at ih'
      rw [bt_nat s i c hcx]
      by_cases hx : c = 10
      · subst hx
        have hlt : (i : Int) < lastLF ((bl s).take p) + 1 := by
          rcases lastLF_spec ((bl s).take p) with ⟨e, hn⟩ | ⟨j, hj, e, h10, hn⟩
          · exact absurd (by rw [List.getElem?_take_of_lt h]; exact hcx) (hn i (by rw [List.length_take, bl_length]; omega))
          · rw [e]
            rcases Nat.lt_or_ge j i with h3 | h3
            · exact absurd (by rw [List.getElem?_take_of_lt h]; exact hcx) (hn i h3 (by rw [List.length_take, bl_length]; omega))
            · omega
        rw [if_pos (by decide), if_neg (by omega), w64 (by omega) (by omega), w64 (by omega) (by omega)]
        simp only [List.count_singleton_self] at ih'
        rw [show (1 : Int) + (((bl s).take i).count 10 : Int) + 1 = 1 + ((((bl s).take i).count 10 + 1 : Nat) : Int) by omega, show (i : Int) + 1 = ((i + 1 : Nat) : Int) by omega]
        exact ih'
      · have hx' : ¬ ((c.toNat : Int) = 10) := fun e => hx (UInt8.toNat_inj.1 (by exact_mod_cast e))
        rw [if_neg hx', w64 (by omega) (by omega)]
        rw [List.count_singleton, if_neg (by simpa using hx)] at ih'
        rw [show (i : Int) + 1 = ((i + 1 : Nat) : Int) by omega]
        exact ih'
    · obtain rfl : i = p := by omega
      rw [if_neg (by omega), if_pos rfl, awake_f]
      rfl
theorem mod_f (a : Int) (n : Nat) (h1 : 1 ≤ n) (h2 : n ≤ 9000) : ∃ q : Nat, q < n ∧ winchlaw01_mod.f a (n : Int) = some (q : Int) := by
  have eW : ∀ x : Int, IntKind.u64.wrap x = x % 18446744073709551616 := fun x => by simp [IntKind.wrap, IntKind.signed, IntKind.bits]
  have e : IntKind.u64.wrap (n : Int) = (n : Int) := by rw [eW]; omega
  have h0 : 0 ≤ IntKind.u64.wrap a := by rw [eW]; omega
  have hm : Int.tmod (IntKind.u64.wrap a) (n : Int) = (IntKind.u64.wrap a) % (n : Int) := Int.tmod_eq_emod_of_nonneg h0
  have h3 := Int.emod_nonneg (IntKind.u64.wrap a) (show (n : Int) ≠ 0 by omega)
  have h4 := Int.emod_lt_of_pos (IntKind.u64.wrap a) (show (0 : Int) < (n : Int) by omega)
  refine ⟨((IntKind.u64.wrap a) % (n : Int)).toNat, by omega, ?_⟩
  unfold winchlaw01_mod.f
  rw [e, if_neg (by omega), hm, w64 (by omega) (by omega)]
  congr 1
  omega
theorem LexisCounted_pure : winchlaw01_LexisCounted.Pure := by
  intro s p hs hp
  refine ⟨9000, ?_⟩
  unfold winchlaw01_LexisCounted.f
  have e : mn (s.size : Int) 8000 = ((min s.size 8000 : Nat) : Int) := by unfold mn; split <;> omega
  rw [e, if_pos (by omega), if_pos (by omega), Int.toNat_natCast]
  have hsz : (s.extract 0 (min s.size 8000)).size = min s.size 8000 := by rw [ByteArray.size_extract]; omega
  generalize hT : s.extract 0 (min s.size 8000) = t at *
  rw [w64 (by omega) (by omega), show ((t.size : Int) + 1) = ((t.size + 1 : Nat) : Int) by omega]
  obtain ⟨q, hq, hm⟩ := mod_f p (t.size + 1) (by omega) (by omega)
  rw [hm]
  simp only [Option.bind_some]
  rw [place_f t (by omega) q (by omega) 8999]
  simp only [Option.bind_some]
  have hb := lastLF_bounds ((bl t).take q)
  have hc : ((bl t).take q).count 10 ≤ q := Nat.le_trans List.count_le_length (by rw [List.length_take]; omega)
  rw [List.length_take, bl_length] at hb
  rw [if_pos trivial, if_neg (by omega), if_neg (by omega), w64 (by omega) (by omega), show decide ((q : Int) - lastLF ((bl t).take q) > (q : Int) + 1) = false by simp; omega]
  rw [winchlaw01_LexisCounted.j0]
  rw [if_neg (by simp)]
  have e1 : wrap64 (wrap64 ((q : Int) - ((q : Int) - lastLF ((bl t).take q))) + 1) = lastLF ((bl t).take q) + 1 := by
    have e0 : wrap64 ((q : Int) - ((q : Int) - lastLF ((bl t).take q))) = lastLF ((bl t).take q) := by rw [w64 (by omega) (by omega)]; omega
    rw [e0, w64 (by omega) (by omega)]
  have e2 : wrap64 (lastLF ((bl t).take q) + 1 - 1) = lastLF ((bl t).take q) := by rw [w64 (by omega) (by omega)]; omega
  rw [e1, e2]
  have fin : winchlaw01_LexisCounted.j1 8999 (q : Int) t (1 + (((bl t).take q).count 10 : Int)) (lastLF ((bl t).take q) + 1) false = some true := by
    rw [winchlaw01_LexisCounted.j1]
    rw [if_neg (by simp)]
    exact counted_l t (by omega) q (by omega) 0 8998 0 (by omega) (by omega)
  by_cases hpos : lastLF ((bl t).take q) + 1 > 0
  · rw [if_pos hpos, if_pos (by omega), if_pos (by omega)]
    rcases lastLF_spec ((bl t).take q) with ⟨e3, _⟩ | ⟨j, hj, e3, h10, _⟩
    · omega
    · rw [List.length_take] at hj
      rw [List.getElem?_take_of_lt (by omega)] at h10
      have hb10 : bt t (lastLF ((bl t).take q)) = 10 := by rw [e3]; exact bt_nat t j 10 h10
      rw [hb10, show ((10 : Int) != 10) = false from rfl]
      exact fin
  · rw [if_neg hpos]
    exact fin
end Go.Proofs.YtlbaojjnilnhlaaDoor.PA
