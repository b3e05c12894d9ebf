-- laid by a program of this session (mk.sh); Lean checks it
import Derived.Test.YtlbaojjnilnhlaaDoorPAx0
import Derived.Test.YtlbaojjnilnhlaaDoorPAx31
import Derived.Test.YtlbaojjnilnhlaaDoorPAx30
import Derived.Test.YtlbaojjnilnhlaaDoorPAx27
import Derived.Test.YtlbaojjnilnhlaaDoorLaid
namespace Go.Proofs.YtlbaojjnilnhlaaDoor.PA
open Go.RowKit Go.Proofs.YtlbaojjnilnhlaaDoorW.PrintWords Go.Proofs.YtlbaojjnilnhlaaDoorW.PrintLast Go.Proofs.YtlbaojjnilnhlaaDoorW.PrintMore
attribute [local go_sem] max2_int min2_int max_two min_two max_three min_three max_four min_four   -- for this text's walks alone
set_option linter.unusedVariables false
set_option linter.unusedSimpArgs false

/-! ### winchlaw01_LexisCounted: function 10 -/
mutual
def winchlaw01_LexisCounted.j0 : Nat → Int → ByteArray → Int → Int → Bool → Option (Bool)
  | 0, _, _, _, _, _ => none
  | k + 1, x1, x5, x6, x7, x44 => if x44 = true then (some false) else (if (wrap64 ((wrap64 (x1 - x7)) + 1)) > 0 then (if 0 ≤ (wrap64 ((wrap64 ((wrap64 (x1 - x7)) + 1)) - 1)) then (if (wrap64 ((wrap64 ((wrap64 (x1 - x7)) + 1)) - 1)) < (x5.size : Int) then (winchlaw01_LexisCounted.j1 k x1 x5 x6 (wrap64 ((wrap64 (x1 - x7)) + 1)) ((bt x5 (wrap64 ((wrap64 ((wrap64 (x1 - x7)) + 1)) - 1))) != 10)) else (none)) else (none)) else (winchlaw01_LexisCounted.j1 k x1 x5 x6 (wrap64 ((wrap64 (x1 - x7)) + 1)) false))
def winchlaw01_LexisCounted.j1 : Nat → Int → ByteArray → Int → Int → Bool → Option (Bool)
  | 0, _, _, _, _, _ => none
  | k + 1, x1, x5, x6, x9, x57 => if x57 = true then (some false) else (winchlaw01_LexisCounted.l0 k x1 x5 x6 x9 1 0)
def winchlaw01_LexisCounted.l0 : Nat → Int → ByteArray → Int → Int → Int → Int → Option (Bool)
  | 0, _, _, _, _, _, _ => none
  | k + 1, x1, x5, x6, x9, x10, x11 => if x11 < x1 then (if 0 ≤ x11 then (if x11 < (x5.size : Int) then (if (bt x5 x11) = 10 then (if x11 ≥ x9 then (some false) else (winchlaw01_LexisCounted.l0 k x1 x5 x6 x9 (wrap64 (x10 + 1)) (wrap64 (x11 + 1)))) else (winchlaw01_LexisCounted.l0 k x1 x5 x6 x9 x10 (wrap64 (x11 + 1)))) else (none)) else (none)) else (if x10 = x6 then ((winchlaw01_awake.f).bind fun t389 => (some t389)) else (some false))
end
def winchlaw01_LexisCounted.f (k : Nat) (a0 : ByteArray) (a1 : Int) : Option (Bool) := if 0 ≤ (mn (a0.size : Int) 8000) then (if (mn (a0.size : Int) 8000) ≤ (a0.size : Int) then ((winchlaw01_mod.f a1 (wrap64 (((a0.extract 0 ((mn (a0.size : Int) 8000) : Int).toNat).size : Int) + 1))).bind fun t385 => ((lexis_Place.f k (a0.extract 0 ((mn (a0.size : Int) 8000) : Int).toNat) t385).bind fun bt386 => (if bt386.2.2 = 0 then (if bt386.1 < 1 then (winchlaw01_LexisCounted.j0 k t385 (a0.extract 0 ((mn (a0.size : Int) 8000) : Int).toNat) bt386.1 bt386.2.1 true) else (if bt386.2.1 < 1 then (winchlaw01_LexisCounted.j0 k t385 (a0.extract 0 ((mn (a0.size : Int) 8000) : Int).toNat) bt386.1 bt386.2.1 true) else (winchlaw01_LexisCounted.j0 k t385 (a0.extract 0 ((mn (a0.size : Int) 8000) : Int).toNat) bt386.1 bt386.2.1 (decide (bt386.2.1 > (wrap64 (t385 + 1))))))) else (winchlaw01_LexisCounted.j0 k t385 (a0.extract 0 ((mn (a0.size : Int) 8000) : Int).toNat) bt386.1 bt386.2.1 true)))) else (none)) else (none)
theorem winchlaw01_LexisCounted.mono_l : ∀ k, (∀ y0 y1 y2 y3 y4, LeO (winchlaw01_LexisCounted.j0 k y0 y1 y2 y3 y4) (winchlaw01_LexisCounted.j0 (k + 1) y0 y1 y2 y3 y4)) ∧ (∀ y0 y1 y2 y3 y4, LeO (winchlaw01_LexisCounted.j1 k y0 y1 y2 y3 y4) (winchlaw01_LexisCounted.j1 (k + 1) y0 y1 y2 y3 y4)) ∧ (∀ y0 y1 y2 y3 y4 y5, LeO (winchlaw01_LexisCounted.l0 k y0 y1 y2 y3 y4 y5) (winchlaw01_LexisCounted.l0 (k + 1) y0 y1 y2 y3 y4 y5))
  | 0 => ⟨fun _ _ _ _ _ r h => by simp [winchlaw01_LexisCounted.j0] at h, fun _ _ _ _ _ r h => by simp [winchlaw01_LexisCounted.j1] at h, fun _ _ _ _ _ _ r h => by simp [winchlaw01_LexisCounted.l0] at h⟩
  | k + 1 => by
    obtain ⟨ih0, ih1, ih2⟩ := winchlaw01_LexisCounted.mono_l k
    refine ⟨?_, ?_, ?_⟩
    · intro y0 y1 y2 y3 y4
      unfold winchlaw01_LexisCounted.j0
      repeat' first
      | (with_reducible exact ih0 _ _ _ _ _)
      | (with_reducible exact ih1 _ _ _ _ _)
      | (with_reducible exact ih2 _ _ _ _ _ _)
      | (with_reducible exact lexis_Place.mono _ _ _)
      | (with_reducible exact LeO.refl _)
      | (with_reducible exact LeO.none _)
      | (with_reducible refine LeO.ite ?_ ?_)
      | (with_reducible refine LeO.bind ?_ (fun _ => ?_))
      | exact ih0 _ _ _ _ _
      | exact ih1 _ _ _ _ _
      | exact ih2 _ _ _ _ _ _
      | exact lexis_Place.mono _ _ _
      | exact LeO.none _
      | refine LeO.ite ?_ ?_
      | refine LeO.bind ?_ (fun _ => ?_)
    · intro y0 y1 y2 y3 y4
      unfold winchlaw01_LexisCounted.j1
      repeat' first
      | (with_reducible exact ih0 _ _ _ _ _)
      | (with_reducible exact ih1 _ _ _ _ _)
      | (with_reducible exact ih2 _ _ _ _ _ _)
      | (with_reducible exact lexis_Place.mono _ _ _)
      | (with_reducible exact LeO.refl _)
      | (with_reducible exact LeO.none _)
      | (with_reducible refine LeO.ite ?_ ?_)
      | (with_reducible refine LeO.bind ?_ (fun _ => ?_))
      | exact ih0 _ _ _ _ _
      | exact ih1 _ _ _ _ _
      | exact ih2 _ _ _ _ _ _
      | exact lexis_Place.mono _ _ _
      | exact LeO.none _
      | refine LeO.ite ?_ ?_
      | refine LeO.bind ?_ (fun _ => ?_)
    intro y0 y1 y2 y3 y4 y5
    unfold winchlaw01_LexisCounted.l0
    repeat' first
    | (with_reducible exact ih0 _ _ _ _ _)
    | (with_reducible exact ih1 _ _ _ _ _)
    | (with_reducible exact ih2 _ _ _ _ _ _)
    | (with_reducible exact lexis_Place.mono _ _ _)
    | (with_reducible exact LeO.refl _)
    | (with_reducible exact LeO.none _)
    | (with_reducible refine LeO.ite ?_ ?_)
    | (with_reducible refine LeO.bind ?_ (fun _ => ?_))
    | exact ih0 _ _ _ _ _
    | exact ih1 _ _ _ _ _
    | exact ih2 _ _ _ _ _ _
    | exact lexis_Place.mono _ _ _
    | exact LeO.none _
    | refine LeO.ite ?_ ?_
    | refine LeO.bind ?_ (fun _ => ?_)
theorem winchlaw01_LexisCounted.mono : ∀ a0 a1 k, LeO (winchlaw01_LexisCounted.f k a0 a1) (winchlaw01_LexisCounted.f (k + 1) a0 a1) := by
  intro a0 a1 k
  obtain ⟨ih0, ih1, ih2⟩ := winchlaw01_LexisCounted.mono_l k
  unfold winchlaw01_LexisCounted.f
  repeat' first
      | (with_reducible exact ih0 _ _ _ _ _)
      | (with_reducible exact ih1 _ _ _ _ _)
      | (with_reducible exact ih2 _ _ _ _ _ _)
      | (with_reducible exact lexis_Place.mono _ _ _)
      | (with_reducible exact LeO.refl _)
      | (with_reducible exact LeO.none _)
      | (with_reducible refine LeO.ite ?_ ?_)
      | (with_reducible refine LeO.bind ?_ (fun _ => ?_))
      | exact ih0 _ _ _ _ _
      | exact ih1 _ _ _ _ _
      | exact ih2 _ _ _ _ _ _
      | exact lexis_Place.mono _ _ _
      | exact LeO.none _
      | refine LeO.ite ?_ ?_
      | refine LeO.bind ?_ (fun _ => ?_)
set_option maxHeartbeats 8000000 in
set_option maxRecDepth 100000 in
theorem winchlaw01_LexisCounted.calls (k : Nat) (a0 : ByteArray) (a1 : Int) (r : Bool) (w : World) (hG : LaidW w) (h : winchlaw01_LexisCounted.f k a0 a1 = some r) :
    Calls Tryd.prog 10 #[.string a0, .int .i64 a1] w fun e w' => e = .returned (.bool r) ∧ Below w.heap.size w w' := by
  have HB := Aside0.mk (Below.refl w.heap.size w)
  replace hG := Aside0.mk hG
  have H : (if 0 ≤ (mn (a0.size : Int) 8000) then (if (mn (a0.size : Int) 8000) ≤ (a0.size : Int) then ((winchlaw01_mod.f a1 (wrap64 (((a0.extract 0 ((mn (a0.size : Int) 8000) : Int).toNat).size : Int) + 1))).bind fun t385 => ((lexis_Place.f k (a0.extract 0 ((mn (a0.size : Int) 8000) : Int).toNat) t385).bind fun bt386 => (if bt386.2.2 = 0 then (if bt386.1 < 1 then (winchlaw01_LexisCounted.j0 k t385 (a0.extract 0 ((mn (a0.size : Int) 8000) : Int).toNat) bt386.1 bt386.2.1 true) else (if bt386.2.1 < 1 then (winchlaw01_LexisCounted.j0 k t385 (a0.extract 0 ((mn (a0.size : Int) 8000) : Int).toNat) bt386.1 bt386.2.1 true) else (winchlaw01_LexisCounted.j0 k t385 (a0.extract 0 ((mn (a0.size : Int) 8000) : Int).toNat) bt386.1 bt386.2.1 (decide (bt386.2.1 > (wrap64 (t385 + 1))))))) else (winchlaw01_LexisCounted.j0 k t385 (a0.extract 0 ((mn (a0.size : Int) 8000) : Int).toNat) bt386.1 bt386.2.1 true)))) else (none)) else (none)) = some r := h
  clear h
  obtain ⟨ji3, hji3⟩ : ∃ j_ : Int, (mn (a0.size : Int) 8000) = j_ := ⟨_, rfl⟩
  replace H : (if 0 ≤ (ji3) then (if (ji3) ≤ (a0.size : Int) then ((winchlaw01_mod.f a1 (wrap64 (((a0.extract 0 ((ji3) : Int).toNat).size : Int) + 1))).bind fun t385 => ((lexis_Place.f k (a0.extract 0 ((ji3) : Int).toNat) t385).bind fun bt386 => (if bt386.2.2 = 0 then (if bt386.1 < 1 then (winchlaw01_LexisCounted.j0 k t385 (a0.extract 0 ((ji3) : Int).toNat) bt386.1 bt386.2.1 true) else (if bt386.2.1 < 1 then (winchlaw01_LexisCounted.j0 k t385 (a0.extract 0 ((ji3) : Int).toNat) bt386.1 bt386.2.1 true) else (winchlaw01_LexisCounted.j0 k t385 (a0.extract 0 ((ji3) : Int).toNat) bt386.1 bt386.2.1 (decide (bt386.2.1 > (wrap64 (t385 + 1))))))) else (winchlaw01_LexisCounted.j0 k t385 (a0.extract 0 ((ji3) : Int).toNat) bt386.1 bt386.2.1 true)))) else (none)) else (none)) = some r := by first | (rw [hji3] at H; exact H) | (simp only [hji3] at H ⊢; exact H)
  (try (have hji3h : ji3 ≤ 8000 := by (rw [← hji3]; unfold mn; (repeat' split) <;> omega)))
  (try (have hji3g : ji3 ≤ 64 := by omega))
  (try (have hji3l : 0 ≤ ji3 := by (rw [← hji3]; unfold mn; (repeat' split) <;> omega)))
  (try (have hji3m : 0 ≤ ji3 := by omega))
  have hji3_ : (if 8000 < (a0.size : Int) then 8000 else (a0.size : Int)) = ji3 := hji3
  by_cases c4 : 0 ≤ (ji3)
  · rw [if_pos c4] at H
    have c4b0 := eq_true c4
    have c4b1 := decide_eq_true c4
    clear c4
    by_cases c5 : (ji3) ≤ (a0.size : Int)
    · rw [if_pos c5] at H
      have c5b0 := eq_true c5
      have c5b1 := decide_eq_true c5
      clear c5
      obtain ⟨S_cut0, hS_cut0⟩ : ∃ S_ : ByteArray, a0.extract 0 ((ji3) : Int).toNat = S_ := ⟨_, rfl⟩
      rw [hS_cut0] at H
      replace H := Option.bind_eq_some_iff.mp H
      obtain ⟨t385, A60, H⟩ := H
      replace H : ((lexis_Place.f k S_cut0 t385).bind fun bt386 => (if bt386.2.2 = 0 then (if bt386.1 < 1 then (winchlaw01_LexisCounted.j0 k t385 S_cut0 bt386.1 bt386.2.1 true) else (if bt386.2.1 < 1 then (winchlaw01_LexisCounted.j0 k t385 S_cut0 bt386.1 bt386.2.1 true) else (winchlaw01_LexisCounted.j0 k t385 S_cut0 bt386.1 bt386.2.1 (decide (bt386.2.1 > (wrap64 (t385 + 1))))))) else (winchlaw01_LexisCounted.j0 k t385 S_cut0 bt386.1 bt386.2.1 true))) = some r := H
      have A6 := Aside0.mk A60
      clear A60
      replace H := Option.bind_eq_some_iff.mp H
      obtain ⟨⟨t386, t387, t388⟩, A70, H⟩ := H
      replace H : (if t388 = 0 then (if t386 < 1 then (winchlaw01_LexisCounted.j0 k t385 S_cut0 t386 t387 true) else (if t387 < 1 then (winchlaw01_LexisCounted.j0 k t385 S_cut0 t386 t387 true) else (winchlaw01_LexisCounted.j0 k t385 S_cut0 t386 t387 (decide (t387 > (wrap64 (t385 + 1))))))) else (winchlaw01_LexisCounted.j0 k t385 S_cut0 t386 t387 true)) = some r := H
      have A7 := Aside0.mk A70
      clear A70
      have HC8 := Aside0.mk H
      clear H
      go_enter Tryd.func10, Tryd.ntmps10
      go_upto_region 4 with (first | ((with_reducible refine gate_callee (f := 23) rfl ?_); refine goesL_ (some 21) rfl rfl Tryd.func23 (by kernel_rfl) rfl #[.int .i64 a1, .int .i64 (wrap64 ((S_cut0.size : Int) + 1))] rfl (by (try simp only [List.map_toArray, List.map_cons, List.map_nil]); first | done | (simp only [hji3]; rfl) | rfl | (simp only [List.length_drop, List.length_take]; rfl)) ?_; (with_reducible refine (winchlaw01_mod.calls a1 (wrap64 ((S_cut0.size : Int) + 1)) t385 _ A6.out).mono ?_); rintro e w' ⟨rfl, ⟨nd, rfl⟩⟩; refine ⟨_, rfl, ?_⟩) | ((with_reducible refine gate_callee (f := 21) rfl ?_); refine goesL_ (some 25) rfl rfl Tryd.func21 (by kernel_rfl) rfl #[.string S_cut0, .int .i64 t385] rfl (by (try simp only [List.map_toArray, List.map_cons, List.map_nil]); first | done | (simp only [hji3]; rfl) | rfl | (simp only [List.length_drop, List.length_take]; rfl)) ?_; (with_reducible refine (lexis_Place.calls k S_cut0 t385 t386 t387 t388 _ A7.out).mono ?_); rintro e w' ⟨rfl, ⟨nd, rfl⟩⟩; refine ⟨_, rfl, ?_⟩))
      (try simp only [Act.put, List.setIfInBounds_toArray, List.set_cons_zero, List.set_cons_succ])
      go_cut [44] (fun v44 wc => ∃ (kq : Nat) (x44_7 : Bool), v44 = .bool x44_7 ∧ Aside0 (winchlaw01_LexisCounted.j0 kq t385 S_cut0 t386 t387 x44_7 = some r) ∧ Aside0 (kq ≤ k) ∧ Aside0 (Below w.heap.size w wc))
      case first =>
        have H := HC8.out
        clear HC8
        by_cases c9 : t388 = 0
        · rw [if_pos c9] at H
          have c9b0 := beq_iff_eq.mpr c9
          have c9b1 := bne_eq_false_iff_eq.mpr c9
          clear c9
          (first | rw [c9b0] | (simp only [i64_w, i32_w]; rw [c9b0]) | skip)
          by_cases c10 : t386 < 1
          · rw [if_pos c10] at H
            have c10b0 := decide_eq_true c10
            clear c10
            have H' := Aside0.mk H
            clear H
            go_wp2
            go_meet
            case rel => exact ⟨_, (true), (by first | rfl | (simp; done) | (simp [*]; done) | (simp [bne]; done)), H', ⟨by first | omega | exact Nat.le_refl _⟩, ⟨by repeat (first | (with_reducible first | exact HB.out | apply below_alloc | apply pw_below_drewN | apply below_drew1) | exact HB.out)⟩⟩
          rw [if_neg c10] at H
          have c10b0 := decide_eq_false c10
          clear c10
          by_cases c11 : t387 < 1
          · rw [if_pos c11] at H
            have c11b0 := decide_eq_true c11
            clear c11
            have H' := Aside0.mk H
            clear H
            go_wp2
            go_meet
            case rel => exact ⟨_, (true), (by first | rfl | (simp; done) | (simp [*]; done) | (simp [bne]; done)), H', ⟨by first | omega | exact Nat.le_refl _⟩, ⟨by repeat (first | (with_reducible first | exact HB.out | apply below_alloc | apply pw_below_drewN | apply below_drew1) | exact HB.out)⟩⟩
          rw [if_neg c11] at H
          have c11b0 := decide_eq_false c11
          clear c11
          have H' := Aside0.mk H
          clear H
          go_wp2
          go_meet
          case rel => exact ⟨_, (decide (t387 > (wrap64 (t385 + 1)))), (by first | rfl | (simp; done) | (simp [*]; done) | (simp [bne]; done)), H', ⟨by first | omega | exact Nat.le_refl _⟩, ⟨by repeat (first | (with_reducible first | exact HB.out | apply below_alloc | apply pw_below_drewN | apply below_drew1) | exact HB.out)⟩⟩
        rw [if_neg c9] at H
        have c9b0 := beq_eq_false_iff_ne.mpr c9
        have c9b1 := bne_iff_ne.mpr c9
        (first | rw [c9b0] | (simp only [i64_w, i32_w]; rw [c9b0]) | skip)
        have H' := Aside0.mk H
        clear H
        go_wp2
        go_meet
        case rel => exact ⟨_, (true), (by first | rfl | (simp; done) | (simp [*]; done) | (simp [bne]; done)), H', ⟨by first | omega | exact Nat.le_refl _⟩, ⟨by repeat (first | (with_reducible first | exact HB.out | apply below_alloc | apply pw_below_drewN | apply below_drew1) | exact HB.out)⟩⟩
      case rest =>
        clear HC8
        try clear c1
        try clear c2
        try clear p2
        try clear c4
        try clear c4b0
        try clear c4b1
        try clear c5
        try clear c5b0
        try clear c5b1
        try clear p6
        try clear c9
        try clear c9b0
        try clear c9b1
        try clear c10
        try clear c10b0
        try clear c11
        try clear c11b0
        obtain ⟨kq, x44_7, rfl, HA, HJ7, HB⟩ := hcut
        cases kq with
        | zero => exact absurd HA.out (by simp [winchlaw01_LexisCounted.j0])
        | succ kj7 =>
          have H := HA.out
          clear HA
          simp only [winchlaw01_LexisCounted.j0] at H
          by_cases c12 : x44_7 = true
          · subst c12
            have H1 : (some false) = some r := by rw [if_pos rfl] at H; exact H
            clear H
            have H := H1
            clear H1
            obtain rfl := Option.some.inj H
            go_wp2
            go_ret
            exact ⟨by first | rfl | (simp [errW_none, errW_some] <;> rfl) | (simp only [← hji3]; first | rfl | (simp [errW_none, errW_some] <;> rfl)) | (simp [*, errW_none, errW_some] <;> rfl), by repeat (first | (with_reducible first | exact HB.out | apply below_alloc | apply pw_below_drewN | apply below_drew1) | exact HB.out)⟩
          replace c12 := Bool.eq_false_iff.mpr c12
          subst c12
          have H1 : (if (wrap64 ((wrap64 (t385 - t387)) + 1)) > 0 then (if 0 ≤ (wrap64 ((wrap64 ((wrap64 (t385 - t387)) + 1)) - 1)) then (if (wrap64 ((wrap64 ((wrap64 (t385 - t387)) + 1)) - 1)) < (S_cut0.size : Int) then (winchlaw01_LexisCounted.j1 kj7 t385 S_cut0 t386 (wrap64 ((wrap64 (t385 - t387)) + 1)) ((bt S_cut0 (wrap64 ((wrap64 ((wrap64 (t385 - t387)) + 1)) - 1))) != 10)) else (none)) else (none)) else (winchlaw01_LexisCounted.j1 kj7 t385 S_cut0 t386 (wrap64 ((wrap64 (t385 - t387)) + 1)) false)) = some r := by rw [if_neg (show ¬ (false = true) by decide)] at H; exact H
          clear H
          have H := H1
          clear H1
          have HC13 := Aside0.mk H
          clear H
          go_upto_region 7 with (fail)
          go_cut [57] (fun v57 wc => ∃ (kq : Nat) (x57_12 : Bool), v57 = .bool x57_12 ∧ Aside0 (winchlaw01_LexisCounted.j1 kq t385 S_cut0 t386 (wrap64 ((wrap64 (t385 - t387)) + 1)) x57_12 = some r) ∧ Aside0 (kq ≤ kj7) ∧ Aside0 (Below w.heap.size w wc))
          case first =>
            have H := HC13.out
            clear HC13
            by_cases c14 : (wrap64 ((wrap64 (t385 - t387)) + 1)) > 0
            · rw [if_pos c14] at H
              have c14b0 := decide_eq_true c14
              clear c14
              (first | rw [c14b0] | (simp only [i64_w, i32_w]; rw [c14b0]) | skip)
              obtain ⟨ji15, hji15⟩ : ∃ j_ : Int, (wrap64 ((wrap64 ((wrap64 (t385 - t387)) + 1)) - 1)) = j_ := ⟨_, rfl⟩
              replace H : (if 0 ≤ (ji15) then (if (ji15) < (S_cut0.size : Int) then (winchlaw01_LexisCounted.j1 kj7 t385 S_cut0 t386 (wrap64 ((wrap64 (t385 - t387)) + 1)) ((bt S_cut0 (ji15)) != 10)) else (none)) else (none)) = some r := by first | (rw [hji15] at H; exact H) | (simp only [hji15] at H ⊢; exact H)
              have hji15w : (IntKind.i64.wrap ((wrap64 ((wrap64 (t385 - t387)) + 1)) - 1)) = ji15 := (i64_w _).trans hji15
              by_cases c16 : 0 ≤ (ji15)
              · rw [if_pos c16] at H
                have c16b0 := decide_eq_true c16
                clear c16
                by_cases c17 : (ji15) < (S_cut0.size : Int)
                · rw [if_pos c17] at H
                  have c17b0 := decide_eq_true c17
                  clear c17
                  have H' := Aside0.mk H
                  clear H
                  have p18 : 0 ≤ ((ji15) : Int) := of_decide_eq_true (by first | (with_reducible assumption) | assumption)
                  have q18 : (ji15) < (S_cut0.size : Int) := of_decide_eq_true (by first | (with_reducible assumption) | assumption)
                  have hx18 := bt_at S_cut0 (ji15)
                  replace p18 := eq_true p18
                  replace q18 := eq_true q18
                  go_wp2
                  go_meet
                  case rel => exact ⟨_, (((bt S_cut0 (ji15)) != 10)), (by first | rfl | (simp; done) | (simp only [← hji3, ← hji15] <;> (first | rfl | simp)) | (simp [*]; done)), H', ⟨by have := HJ7.out; first | omega | exact Nat.le_refl _⟩, ⟨by repeat (first | (with_reducible first | exact HB.out | apply below_alloc | apply pw_below_drewN | apply below_drew1) | exact HB.out)⟩⟩
                rw [if_neg c17] at H
                exact absurd H (by simp)
              rw [if_neg c16] at H
              exact absurd H (by simp)
            rw [if_neg c14] at H
            have c14b0 := decide_eq_false c14
            clear c14
            (first | rw [c14b0] | (simp only [i64_w, i32_w]; rw [c14b0]) | skip)
            have H' := Aside0.mk H
            clear H
            go_wp2
            go_meet
            case rel => exact ⟨_, (false), (by first | rfl | (simp; done) | (simp [*]; done) | (simp [bne]; done)), H', ⟨by have := HJ7.out; first | omega | exact Nat.le_refl _⟩, ⟨by repeat (first | (with_reducible first | exact HB.out | apply below_alloc | apply pw_below_drewN | apply below_drew1) | exact HB.out)⟩⟩
          case rest =>
            clear HC13
            try clear c1
            try clear p1
            try clear q1
            try clear hx1
            try clear c2
            try clear p2
            try clear c4
            try clear c4b0
            try clear c4b1
            try clear c5
            try clear c5b0
            try clear c5b1
            try clear p6
            try clear c9
            try clear c9b0
            try clear c9b1
            try clear c10
            try clear c10b0
            try clear c11
            try clear c11b0
            try clear c12
            try clear c14
            try clear c14b0
            try clear c16
            try clear c16b0
            try clear c17
            try clear c17b0
            try clear p18
            try clear q18
            try clear hx18
            try clear p18
            try clear p2
            try clear p6
            try clear q18
            obtain ⟨kq, x57_12, rfl, HA, HJ12, HB⟩ := hcut
            cases kq with
            | zero => exact absurd HA.out (by simp [winchlaw01_LexisCounted.j1])
            | succ kj12 =>
              have H := HA.out
              clear HA
              simp only [winchlaw01_LexisCounted.j1] at H
              by_cases c19 : x57_12 = true
              · subst c19
                have H1 : (some false) = some r := by rw [if_pos rfl] at H; exact H
                clear H
                have H := H1
                clear H1
                obtain rfl := Option.some.inj H
                go_wp2
                go_ret
                exact ⟨by first | rfl | (simp [errW_none, errW_some] <;> rfl) | (simp only [← hji3]; first | rfl | (simp [errW_none, errW_some] <;> rfl)) | (simp [*, errW_none, errW_some] <;> rfl), by repeat (first | (with_reducible first | exact HB.out | apply below_alloc | apply pw_below_drewN | apply below_drew1) | exact HB.out)⟩
              replace c19 := Bool.eq_false_iff.mpr c19
              subst c19
              have H1 : (winchlaw01_LexisCounted.l0 kj12 t385 S_cut0 t386 (wrap64 ((wrap64 (t385 - t387)) + 1)) 1 0) = some r := by rw [if_neg (show ¬ (false = true) by decide)] at H; exact H
              clear H
              have H := H1
              clear H1
              have H' := Aside0.mk H
              clear H
              go_wp2
              go_loopg [10, 11] kj12 (fun kq v10 v11 w' => ∃ (x10_3 : Int) (x11_3 : Int), v10 = .int .i64 x10_3 ∧ v11 = .int .i64 x11_3 ∧ Aside0 (winchlaw01_LexisCounted.l0 kq t385 S_cut0 t386 (wrap64 ((wrap64 (t385 - t387)) + 1)) x10_3 x11_3 = some r) ∧ Aside0 (kq ≤ kj12) ∧ Aside0 (Below w.heap.size w w'))
              case atStart => exact ⟨(1), (0), (by first | rfl | (simp; done) | (simp [*]; done) | (simp [bne]; done)), (by first | rfl | (simp; done) | (simp [*]; done) | (simp [bne]; done)), H', ⟨Nat.le_refl _⟩, ⟨by repeat (first | (with_reducible first | exact HB.out | apply below_alloc | apply pw_below_drewN | apply below_drew1) | exact HB.out)⟩⟩
              case round =>
                clear H'
                try clear c1
                try clear p1
                try clear q1
                try clear hx1
                try clear c2
                try clear p2
                try clear c4
                try clear c4b0
                try clear c4b1
                try clear c5
                try clear c5b0
                try clear c5b1
                try clear p6
                try clear c9
                try clear c9b0
                try clear c9b1
                try clear c10
                try clear c10b0
                try clear c11
                try clear c11b0
                try clear c12
                try clear c14
                try clear c14b0
                try clear c16
                try clear c16b0
                try clear c17
                try clear c17b0
                try clear p18
                try clear q18
                try clear hx18
                try clear c19
                try clear p1
                try clear p18
                try clear p2
                try clear p6
                try clear q1
                try clear q18
                obtain ⟨x10_3, x11_3, rfl, rfl, HA, HK3, HB⟩ := hrel
                cases gk with
                | zero => exact absurd HA.out (by simp [winchlaw01_LexisCounted.l0])
                | succ k3 =>
                  have H := HA.out
                  clear HA
                  simp only [winchlaw01_LexisCounted.l0] at H
                  by_cases c20 : x11_3 < t385
                  · rw [if_pos c20] at H
                    have c20b0 := decide_eq_true c20
                    clear c20
                    by_cases c21 : 0 ≤ x11_3
                    · rw [if_pos c21] at H
                      have c21b0 := decide_eq_true c21
                      clear c21
                      by_cases c22 : x11_3 < (S_cut0.size : Int)
                      · rw [if_pos c22] at H
                        have c22b0 := decide_eq_true c22
                        clear c22
                        by_cases c24 : (bt S_cut0 x11_3) = 10
                        · rw [if_pos c24] at H
                          have c24b0 := beq_iff_eq.mpr c24
                          have c24b1 := bne_eq_false_iff_eq.mpr c24
                          clear c24
                          by_cases c25 : x11_3 ≥ (wrap64 ((wrap64 (t385 - t387)) + 1))
                          · rw [if_pos c25] at H
                            have c25b0 := decide_eq_true c25
                            clear c25
                            obtain rfl := Option.some.inj H
                            have p23 : 0 ≤ (x11_3 : Int) := of_decide_eq_true (by first | (with_reducible assumption) | assumption)
                            have q23 : x11_3 < (S_cut0.size : Int) := of_decide_eq_true (by first | (with_reducible assumption) | assumption)
                            have hx23 := bt_at S_cut0 x11_3
                            replace p23 := eq_true p23
                            replace q23 := eq_true q23
                            go_wp2
                            go_ret
                            exact ⟨by first | rfl | (simp [errW_none, errW_some] <;> rfl) | (simp only [← hji3]; first | rfl | (simp [errW_none, errW_some] <;> rfl)) | (simp [*, errW_none, errW_some] <;> rfl), by repeat (first | (with_reducible first | exact HB.out | apply below_alloc | apply pw_below_drewN | apply below_drew1) | exact HB.out)⟩
                          rw [if_neg c25] at H
                          have c25b0 := decide_eq_false c25
                          clear c25
                          have H' := Aside0.mk H
                          clear H
                          have p23 : 0 ≤ (x11_3 : Int) := of_decide_eq_true (by first | (with_reducible assumption) | assumption)
                          have q23 : x11_3 < (S_cut0.size : Int) := of_decide_eq_true (by first | (with_reducible assumption) | assumption)
                          have hx23 := bt_at S_cut0 x11_3
                          replace p23 := eq_true p23
                          replace q23 := eq_true q23
                          go_wp2
                          go_roundg k3
                          case measure => have := HJ7.out; have := HJ12.out; have := HK3.out; omega
                          case rel => exact ⟨(wrap64 (x10_3 + 1)), (wrap64 (x11_3 + 1)), (by first | rfl | (simp; done) | (simp [*]; done) | (simp [bne]; done)), (by first | rfl | (simp; done) | (simp [*]; done) | (simp [bne]; done)), H', ⟨by have := HJ7.out; have := HJ12.out; have := HK3.out; omega⟩, ⟨by repeat (first | (with_reducible first | exact HB.out | apply below_alloc | apply pw_below_drewN | apply below_drew1) | exact HB.out)⟩⟩
                        rw [if_neg c24] at H
                        have c24b0 := beq_eq_false_iff_ne.mpr c24
                        have c24b1 := bne_iff_ne.mpr c24
                        have H' := Aside0.mk H
                        clear H
                        have p23 : 0 ≤ (x11_3 : Int) := of_decide_eq_true (by first | (with_reducible assumption) | assumption)
                        have q23 : x11_3 < (S_cut0.size : Int) := of_decide_eq_true (by first | (with_reducible assumption) | assumption)
                        have hx23 := bt_at S_cut0 x11_3
                        replace p23 := eq_true p23
                        replace q23 := eq_true q23
                        go_wp2
                        go_roundg k3
                        case measure => have := HJ7.out; have := HJ12.out; have := HK3.out; omega
                        case rel => exact ⟨(x10_3), (wrap64 (x11_3 + 1)), (by first | rfl | (simp; done) | (simp [*]; done) | (simp [bne]; done)), (by first | rfl | (simp; done) | (simp [*]; done) | (simp [bne]; done)), H', ⟨by have := HJ7.out; have := HJ12.out; have := HK3.out; omega⟩, ⟨by repeat (first | (with_reducible first | exact HB.out | apply below_alloc | apply pw_below_drewN | apply below_drew1) | exact HB.out)⟩⟩
                      rw [if_neg c22] at H
                      exact absurd H (by simp)
                    rw [if_neg c21] at H
                    exact absurd H (by simp)
                  rw [if_neg c20] at H
                  have c20b0 := decide_eq_false c20
                  clear c20
                  by_cases c26 : x10_3 = t386
                  · rw [if_pos c26] at H
                    have c26b0 := beq_iff_eq.mpr c26
                    have c26b1 := bne_eq_false_iff_eq.mpr c26
                    clear c26
                    replace H := Option.bind_eq_some_iff.mp H
                    obtain ⟨t389, A270, H⟩ := H
                    replace H : (some t389) = some r := H
                    have A27 := Aside0.mk A270
                    clear A270
                    obtain rfl := Option.some.inj H
                    go_wp2_with (first | (go_at_call 16; (with_reducible refine (winchlaw01_awake.calls  t389 _ ?side1 A27.out).mono ?_); (case side1 => exact LaidW.below hG.out (by repeat (first | (with_reducible first | exact HB.out | apply below_alloc | apply pw_below_drewN | apply below_drew1) | exact HB.out))); rintro e w28 ⟨rfl, hb⟩; have n0_ := Aside0.mk (below_step (by repeat (first | (with_reducible first | exact HB.out | apply below_alloc | apply pw_below_drewN | apply below_drew1) | exact HB.out)) hb); clear HB; have HB := n0_; clear n0_; (try clear hb); (try clear hb2); (try clear hk); (try clear hi)))
                    go_ret
                    exact ⟨by first | rfl | (simp [errW_none, errW_some] <;> rfl) | (simp only [← hji3]; first | rfl | (simp [errW_none, errW_some] <;> rfl)) | (simp [*, errW_none, errW_some] <;> rfl), by repeat (first | (with_reducible first | exact HB.out | apply below_alloc | apply pw_below_drewN | apply below_drew1) | exact HB.out)⟩
                  rw [if_neg c26] at H
                  have c26b0 := beq_eq_false_iff_ne.mpr c26
                  have c26b1 := bne_iff_ne.mpr c26
                  obtain rfl := Option.some.inj H
                  go_wp2
                  go_ret
                  exact ⟨by first | rfl | (simp [errW_none, errW_some] <;> rfl) | (simp only [← hji3]; first | rfl | (simp [errW_none, errW_some] <;> rfl)) | (simp [*, errW_none, errW_some] <;> rfl), by repeat (first | (with_reducible first | exact HB.out | apply below_alloc | apply pw_below_drewN | apply below_drew1) | exact HB.out)⟩
    rw [if_neg c5] at H
    exact absurd H (by simp)
  rw [if_neg c4] at H
  exact absurd H (by simp)

/-- THE ONE PURE STATEMENT of winchlaw01_LexisCounted: yours. -/
def winchlaw01_LexisCounted.Pure : Prop := ∀ (a0 : ByteArray) (a1 : Int), a0.size ≤ 140737488351232 → (Lit.int .i64 a1).wf = true → ∃ k, winchlaw01_LexisCounted.f k a0 a1 = some true
theorem winchlaw01_LexisCounted.walk (P : winchlaw01_LexisCounted.Pure) (a0 : ByteArray) (a1 : Int) (w : World) (w0 : a0.size ≤ 140737488351232) (w1 : (Lit.int .i64 a1).wf = true) (hG : LaidW w) :
    Calls Tryd.prog 10 #[.string a0, .int .i64 a1] w fun e w' => e = .returned (.bool true) ∧ Below w.heap.size w w' := by
  obtain ⟨k, h⟩ := P a0 a1 w0 w1
  refine (winchlaw01_LexisCounted.calls k a0 a1 true w hG h).mono ?_
  rintro e w' ⟨rfl, hd⟩
  exact ⟨rfl, hd⟩

end Go.Proofs.YtlbaojjnilnhlaaDoor.PA
