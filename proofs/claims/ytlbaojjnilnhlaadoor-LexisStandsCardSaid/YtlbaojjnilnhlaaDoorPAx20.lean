-- laid by a program of this session (mk.sh); Lean checks it
import Derived.Test.YtlbaojjnilnhlaaDoorPAx0
import Derived.Test.YtlbaojjnilnhlaaDoorPAx7
import Derived.Test.YtlbaojjnilnhlaaDoorPAx31
import Derived.Test.YtlbaojjnilnhlaaDoorPAx32
import Derived.Test.YtlbaojjnilnhlaaDoorExtT
import Derived.Test.YtlbaojjnilnhlaaDoorLaid
namespace Go.Proofs.YtlbaojjnilnhlaaDoor.PA
open Go.RowKit Go.Proofs.YtlbaojjnilnhlaaDoorW.PrintWords Go.Proofs.YtlbaojjnilnhlaaDoorW.PrintLast Go.Proofs.YtlbaojjnilnhlaaDoorW.PrintMore
attribute [local go_sem] max2_int min2_int max_two min_two max_three min_three max_four min_four   -- for this text's walks alone
set_option linter.unusedVariables false
set_option linter.unusedSimpArgs false

/-! ### winchlaw01_LexisStands: function 4 -/
mutual
def winchlaw01_LexisStands.l0 : Nat → ByteArray → List (S33) → Int → Int → Option (Bool)
  | 0, _, _, _, _ => none
  | k + 1, x3, x4, x7, x8 => if x8 < (x4.length : Int) then (if 0 ≤ x8 then (if ((rd_T33 x4 x8).f2) < x7 then (winchlaw01_LexisStands.j1 k x3 x4 x7 x8 true ((rd_T33 x4 x8).f0) ((rd_T33 x4 x8).f1) ((rd_T33 x4 x8).f2)) else (if ((rd_T33 x4 x8).f2) > (x3.size : Int) then (winchlaw01_LexisStands.j1 k x3 x4 x7 x8 true ((rd_T33 x4 x8).f0) ((rd_T33 x4 x8).f1) ((rd_T33 x4 x8).f2)) else (if ((((rd_T33 x4 x8).f0) == 7) != (x8 == (wrap64 ((x4.length : Int) - 1)))) = true then (winchlaw01_LexisStands.j1 k x3 x4 x7 x8 true ((rd_T33 x4 x8).f0) ((rd_T33 x4 x8).f1) ((rd_T33 x4 x8).f2)) else ((winchref01_IsToken.f k ((rd_T33 x4 x8).f0) ((rd_T33 x4 x8).f1) ((rd_T33 x4 x8).f2)).bind fun t267 => (winchlaw01_LexisStands.j1 k x3 x4 x7 x8 (!t267) ((rd_T33 x4 x8).f0) ((rd_T33 x4 x8).f1) ((rd_T33 x4 x8).f2)))))) else (none)) else (if (x4.length : Int) > 0 then (if 0 ≤ (wrap64 ((x4.length : Int) - 1)) then (if (wrap64 ((x4.length : Int) - 1)) < (x4.length : Int) then (if ((rd_T33 x4 (wrap64 ((x4.length : Int) - 1))).f2) = (x3.size : Int) then ((winchlaw01_awake.f).bind fun t264 => (some t264)) else (some false)) else (none)) else (none)) else (some false))
def winchlaw01_LexisStands.j1 : Nat → ByteArray → List (S33) → Int → Int → Bool → Int → ByteArray → Int → Option (Bool)
  | 0, _, _, _, _, _, _, _, _ => none
  | k + 1, x3, x4, x7, x8, x59, x267000, x267001, x267002 => if x59 = true then (some false) else (winchlaw01_LexisStands.l1 k x3 x4 x8 false x7 x267000 x267001 x267002)
def winchlaw01_LexisStands.l1 : Nat → ByteArray → List (S33) → Int → Bool → Int → Int → ByteArray → Int → Option (Bool)
  | 0, _, _, _, _, _, _, _, _ => none
  | k + 1, x3, x4, x8, x10, x11, x267000, x267001, x267002 => if x11 < x267002 then (if 0 ≤ x11 then (if x11 < (x3.size : Int) then (if (bt x3 x11) = 47 then (if (wrap64 (x11 + 1)) < (x3.size : Int) then (if 0 ≤ (wrap64 (x11 + 1)) then (if (bt x3 (wrap64 (x11 + 1))) = 47 then (winchlaw01_LexisStands.l1 k x3 x4 x8 true (wrap64 (x11 + 1)) x267000 x267001 x267002) else (if x10 = true then (if (¬ (bt x3 x11) = 10) then (winchlaw01_LexisStands.l1 k x3 x4 x8 ((bt x3 x11) != 10) (wrap64 (x11 + 1)) x267000 x267001 x267002) else (if (bt x3 x11) = 9 then (winchlaw01_LexisStands.l1 k x3 x4 x8 ((bt x3 x11) != 10) (wrap64 (x11 + 1)) x267000 x267001 x267002) else (if (bt x3 x11) = 10 then (winchlaw01_LexisStands.l1 k x3 x4 x8 ((bt x3 x11) != 10) (wrap64 (x11 + 1)) x267000 x267001 x267002) else (if (bt x3 x11) = 13 then (winchlaw01_LexisStands.l1 k x3 x4 x8 ((bt x3 x11) != 10) (wrap64 (x11 + 1)) x267000 x267001 x267002) else (if (bt x3 x11) = 32 then (winchlaw01_LexisStands.l1 k x3 x4 x8 ((bt x3 x11) != 10) (wrap64 (x11 + 1)) x267000 x267001 x267002) else (some false)))))) else (if (bt x3 x11) = 9 then (winchlaw01_LexisStands.l1 k x3 x4 x8 false (wrap64 (x11 + 1)) x267000 x267001 x267002) else (if (bt x3 x11) = 10 then (winchlaw01_LexisStands.l1 k x3 x4 x8 false (wrap64 (x11 + 1)) x267000 x267001 x267002) else (if (bt x3 x11) = 13 then (winchlaw01_LexisStands.l1 k x3 x4 x8 false (wrap64 (x11 + 1)) x267000 x267001 x267002) else (if (bt x3 x11) = 32 then (winchlaw01_LexisStands.l1 k x3 x4 x8 false (wrap64 (x11 + 1)) x267000 x267001 x267002) else (some false))))))) else (none)) else (if x10 = true then (if (¬ (bt x3 x11) = 10) then (winchlaw01_LexisStands.l1 k x3 x4 x8 ((bt x3 x11) != 10) (wrap64 (x11 + 1)) x267000 x267001 x267002) else (if (bt x3 x11) = 9 then (winchlaw01_LexisStands.l1 k x3 x4 x8 ((bt x3 x11) != 10) (wrap64 (x11 + 1)) x267000 x267001 x267002) else (if (bt x3 x11) = 10 then (winchlaw01_LexisStands.l1 k x3 x4 x8 ((bt x3 x11) != 10) (wrap64 (x11 + 1)) x267000 x267001 x267002) else (if (bt x3 x11) = 13 then (winchlaw01_LexisStands.l1 k x3 x4 x8 ((bt x3 x11) != 10) (wrap64 (x11 + 1)) x267000 x267001 x267002) else (if (bt x3 x11) = 32 then (winchlaw01_LexisStands.l1 k x3 x4 x8 ((bt x3 x11) != 10) (wrap64 (x11 + 1)) x267000 x267001 x267002) else (some false)))))) else (if (bt x3 x11) = 9 then (winchlaw01_LexisStands.l1 k x3 x4 x8 false (wrap64 (x11 + 1)) x267000 x267001 x267002) else (if (bt x3 x11) = 10 then (winchlaw01_LexisStands.l1 k x3 x4 x8 false (wrap64 (x11 + 1)) x267000 x267001 x267002) else (if (bt x3 x11) = 13 then (winchlaw01_LexisStands.l1 k x3 x4 x8 false (wrap64 (x11 + 1)) x267000 x267001 x267002) else (if (bt x3 x11) = 32 then (winchlaw01_LexisStands.l1 k x3 x4 x8 false (wrap64 (x11 + 1)) x267000 x267001 x267002) else (some false))))))) else (if x10 = true then (if (¬ (bt x3 x11) = 10) then (winchlaw01_LexisStands.l1 k x3 x4 x8 ((bt x3 x11) != 10) (wrap64 (x11 + 1)) x267000 x267001 x267002) else (if (bt x3 x11) = 9 then (winchlaw01_LexisStands.l1 k x3 x4 x8 ((bt x3 x11) != 10) (wrap64 (x11 + 1)) x267000 x267001 x267002) else (if (bt x3 x11) = 10 then (winchlaw01_LexisStands.l1 k x3 x4 x8 ((bt x3 x11) != 10) (wrap64 (x11 + 1)) x267000 x267001 x267002) else (if (bt x3 x11) = 13 then (winchlaw01_LexisStands.l1 k x3 x4 x8 ((bt x3 x11) != 10) (wrap64 (x11 + 1)) x267000 x267001 x267002) else (if (bt x3 x11) = 32 then (winchlaw01_LexisStands.l1 k x3 x4 x8 ((bt x3 x11) != 10) (wrap64 (x11 + 1)) x267000 x267001 x267002) else (some false)))))) else (if (bt x3 x11) = 9 then (winchlaw01_LexisStands.l1 k x3 x4 x8 false (wrap64 (x11 + 1)) x267000 x267001 x267002) else (if (bt x3 x11) = 10 then (winchlaw01_LexisStands.l1 k x3 x4 x8 false (wrap64 (x11 + 1)) x267000 x267001 x267002) else (if (bt x3 x11) = 13 then (winchlaw01_LexisStands.l1 k x3 x4 x8 false (wrap64 (x11 + 1)) x267000 x267001 x267002) else (if (bt x3 x11) = 32 then (winchlaw01_LexisStands.l1 k x3 x4 x8 false (wrap64 (x11 + 1)) x267000 x267001 x267002) else (some false))))))) else (none)) else (none)) else (if x10 = true then (if x8 < (wrap64 ((x4.length : Int) - 1)) then (some false) else (if (wrap64 (x267002 + (x267001.size : Int))) > (x3.size : Int) then (some false) else (if 0 ≤ x267002 then (if x267002 ≤ (wrap64 (x267002 + (x267001.size : Int))) then (if (wrap64 (x267002 + (x267001.size : Int))) ≤ (x3.size : Int) then (if (x3.extract (x267002 : Int).toNat ((wrap64 (x267002 + (x267001.size : Int))) : Int).toNat).toList = x267001.toList then (winchlaw01_LexisStands.l0 k x3 x4 (wrap64 (x267002 + (x267001.size : Int))) (wrap64 (x8 + 1))) else (some false)) else (none)) else (none)) else (none)))) else (if (wrap64 (x267002 + (x267001.size : Int))) > (x3.size : Int) then (some false) else (if 0 ≤ x267002 then (if x267002 ≤ (wrap64 (x267002 + (x267001.size : Int))) then (if (wrap64 (x267002 + (x267001.size : Int))) ≤ (x3.size : Int) then (if (x3.extract (x267002 : Int).toNat ((wrap64 (x267002 + (x267001.size : Int))) : Int).toNat).toList = x267001.toList then (winchlaw01_LexisStands.l0 k x3 x4 (wrap64 (x267002 + (x267001.size : Int))) (wrap64 (x8 + 1))) else (some false)) else (none)) else (none)) else (none))))
end
def winchlaw01_LexisStands.f (k : Nat) (a0 : ByteArray) : Option (Bool) := (winchlaw01_brief.f a0).bind fun t256 => ((lexis_Tokens.f t256).bind fun bt257 => (if bt257.2.2 = 0 then (winchlaw01_LexisStands.l0 k t256 bt257.1 0 0) else ((winchlaw01_awake.f).bind fun t262 => (some t262))))
theorem winchlaw01_LexisStands.mono_l : ∀ k, (∀ y0 y1 y2 y3, LeO (winchlaw01_LexisStands.l0 k y0 y1 y2 y3) (winchlaw01_LexisStands.l0 (k + 1) y0 y1 y2 y3)) ∧ (∀ y0 y1 y2 y3 y4 y5 y6 y7, LeO (winchlaw01_LexisStands.j1 k y0 y1 y2 y3 y4 y5 y6 y7) (winchlaw01_LexisStands.j1 (k + 1) y0 y1 y2 y3 y4 y5 y6 y7)) ∧ (∀ y0 y1 y2 y3 y4 y5 y6 y7, LeO (winchlaw01_LexisStands.l1 k y0 y1 y2 y3 y4 y5 y6 y7) (winchlaw01_LexisStands.l1 (k + 1) y0 y1 y2 y3 y4 y5 y6 y7))
  | 0 => ⟨fun _ _ _ _ r h => by simp [winchlaw01_LexisStands.l0] at h, fun _ _ _ _ _ _ _ _ r h => by simp [winchlaw01_LexisStands.j1] at h, fun _ _ _ _ _ _ _ _ r h => by simp [winchlaw01_LexisStands.l1] at h⟩
  | k + 1 => by
    obtain ⟨ih0, ih1, ih2⟩ := winchlaw01_LexisStands.mono_l k
    refine ⟨?_, ?_, ?_⟩
    · intro y0 y1 y2 y3
      unfold winchlaw01_LexisStands.l0
      repeat' first
      | (with_reducible exact ih0 _ _ _ _)
      | (with_reducible exact ih1 _ _ _ _ _ _ _ _)
      | (with_reducible exact ih2 _ _ _ _ _ _ _ _)
      | (with_reducible exact winchref01_IsToken.mono _ _ _ _)
      | (with_reducible exact LeO.refl _)
      | (with_reducible exact LeO.none _)
      | (with_reducible refine LeO.ite ?_ ?_)
      | (with_reducible refine LeO.bind ?_ (fun _ => ?_))
      | exact ih0 _ _ _ _
      | exact ih1 _ _ _ _ _ _ _ _
      | exact ih2 _ _ _ _ _ _ _ _
      | exact winchref01_IsToken.mono _ _ _ _
      | exact LeO.none _
      | refine LeO.ite ?_ ?_
      | refine LeO.bind ?_ (fun _ => ?_)
    · intro y0 y1 y2 y3 y4 y5 y6 y7
      unfold winchlaw01_LexisStands.j1
      repeat' first
      | (with_reducible exact ih0 _ _ _ _)
      | (with_reducible exact ih1 _ _ _ _ _ _ _ _)
      | (with_reducible exact ih2 _ _ _ _ _ _ _ _)
      | (with_reducible exact winchref01_IsToken.mono _ _ _ _)
      | (with_reducible exact LeO.refl _)
      | (with_reducible exact LeO.none _)
      | (with_reducible refine LeO.ite ?_ ?_)
      | (with_reducible refine LeO.bind ?_ (fun _ => ?_))
      | exact ih0 _ _ _ _
      | exact ih1 _ _ _ _ _ _ _ _
      | exact ih2 _ _ _ _ _ _ _ _
      | exact winchref01_IsToken.mono _ _ _ _
      | exact LeO.none _
      | refine LeO.ite ?_ ?_
      | refine LeO.bind ?_ (fun _ => ?_)
    intro y0 y1 y2 y3 y4 y5 y6 y7
    unfold winchlaw01_LexisStands.l1
    repeat' first
    | (with_reducible exact ih0 _ _ _ _)
    | (with_reducible exact ih1 _ _ _ _ _ _ _ _)
    | (with_reducible exact ih2 _ _ _ _ _ _ _ _)
    | (with_reducible exact winchref01_IsToken.mono _ _ _ _)
    | (with_reducible exact LeO.refl _)
    | (with_reducible exact LeO.none _)
    | (with_reducible refine LeO.ite ?_ ?_)
    | (with_reducible refine LeO.bind ?_ (fun _ => ?_))
    | exact ih0 _ _ _ _
    | exact ih1 _ _ _ _ _ _ _ _
    | exact ih2 _ _ _ _ _ _ _ _
    | exact winchref01_IsToken.mono _ _ _ _
    | exact LeO.none _
    | refine LeO.ite ?_ ?_
    | refine LeO.bind ?_ (fun _ => ?_)
theorem winchlaw01_LexisStands.mono : ∀ a0 k, LeO (winchlaw01_LexisStands.f k a0) (winchlaw01_LexisStands.f (k + 1) a0) := by
  intro a0 k
  obtain ⟨ih0, ih1, ih2⟩ := winchlaw01_LexisStands.mono_l k
  unfold winchlaw01_LexisStands.f
  repeat' first
      | (with_reducible exact ih0 _ _ _ _)
      | (with_reducible exact ih1 _ _ _ _ _ _ _ _)
      | (with_reducible exact ih2 _ _ _ _ _ _ _ _)
      | (with_reducible exact winchref01_IsToken.mono _ _ _ _)
      | (with_reducible exact LeO.refl _)
      | (with_reducible exact LeO.none _)
      | (with_reducible refine LeO.ite ?_ ?_)
      | (with_reducible refine LeO.bind ?_ (fun _ => ?_))
      | exact ih0 _ _ _ _
      | exact ih1 _ _ _ _ _ _ _ _
      | exact ih2 _ _ _ _ _ _ _ _
      | exact winchref01_IsToken.mono _ _ _ _
      | exact LeO.none _
      | refine LeO.ite ?_ ?_
      | refine LeO.bind ?_ (fun _ => ?_)
set_option maxHeartbeats 8000000 in
set_option maxRecDepth 100000 in
theorem winchlaw01_LexisStands.calls (k : Nat) (a0 : ByteArray) (r : Bool) (w : World) (hG : LaidW w) (h : winchlaw01_LexisStands.f k a0 = some r) :
    Calls Tryd.prog 4 #[.string a0] w fun e w' => e = .returned (.bool r) ∧ Below w.heap.size w w' := by
  have hu33 := Tryd.underlying33
  have HB := Aside0.mk (Below.refl w.heap.size w)
  replace hG := Aside0.mk hG
  have H : ((winchlaw01_brief.f a0).bind fun t256 => ((lexis_Tokens.f t256).bind fun bt257 => (if bt257.2.2 = 0 then (winchlaw01_LexisStands.l0 k t256 bt257.1 0 0) else ((winchlaw01_awake.f).bind fun t262 => (some t262))))) = some r := h
  clear h
  replace H := Option.bind_eq_some_iff.mp H
  obtain ⟨t256, A20, H⟩ := H
  replace H : ((lexis_Tokens.f t256).bind fun bt257 => (if bt257.2.2 = 0 then (winchlaw01_LexisStands.l0 k t256 bt257.1 0 0) else ((winchlaw01_awake.f).bind fun t262 => (some t262)))) = some r := H
  have A2 := Aside0.mk A20
  clear A20
  replace H := Option.bind_eq_some_iff.mp H
  obtain ⟨⟨t257, t258, t259⟩, A30, H⟩ := H
  replace H : (if t259 = 0 then (winchlaw01_LexisStands.l0 k t256 t257 0 0) else ((winchlaw01_awake.f).bind fun t262 => (some t262))) = some r := H
  have A3 := Aside0.mk A30
  clear A30
  by_cases c4 : t259 = 0
  · rw [if_pos c4] at H
    have c4b0 : (t259 == 0) = true := beq_iff_eq.mpr c4
    have c4b1 : (t259 != 0) = false := bne_eq_false_iff_eq.mpr c4
    clear c4
    have H' := Aside0.mk H
    clear H
    go_enter Tryd.func4, Tryd.ntmps4
    go_wp2_with (first | (go_at_call 12; (with_reducible refine (winchlaw01_brief.calls a0 t256 _ A2.out).mono ?_); rintro e w5 ⟨rfl, hb⟩; have n0_ := Aside0.mk (below_step (by repeat (first | (with_reducible first | exact HB.out | apply below_alloc | apply pw_below_drewN | apply below_drew1) | exact HB.out)) hb); clear HB; have HB := n0_; clear n0_; (try clear hb); (try clear hb2); (try clear hk); (try clear hi)) | (go_at_call 13; (with_reducible refine (lexis_Tokens.calls t256 t257 t258 t259 _ ?side1 A3.out).mono ?_); (case side1 => exact LaidW.below hG.out (by repeat (first | (with_reducible first | exact HB.out | apply below_alloc | apply pw_below_drewN | apply below_drew1) | exact HB.out))); rintro e w6 ⟨v260, rfl, ho0, hb⟩; have n0_ := Aside0.mk (Kd.R_lower ho0 (below_size (by repeat (first | (with_reducible first | exact HB.out | apply below_alloc | apply pw_below_drewN | apply below_drew1) | exact HB.out)))); have n1_ := Aside0.mk (below_step (by repeat (first | (with_reducible first | exact HB.out | apply below_alloc | apply pw_below_drewN | apply below_drew1) | exact HB.out)) hb); clear HB; have HO261 := n0_; have HB := n1_; clear n0_ n1_; (try clear hb); (try clear hb2); (try clear hk); (try clear hi); (try clear ho0)))
    repeat (go_quiet (first | (go_at_call 12; (with_reducible refine (winchlaw01_brief.calls a0 t256 _ A2.out).mono ?_); rintro e w5 ⟨rfl, hb⟩; have n0_ := Aside0.mk (below_step (by repeat (first | (with_reducible first | exact HB.out | apply below_alloc | apply pw_below_drewN | apply below_drew1) | exact HB.out)) hb); clear HB; have HB := n0_; clear n0_; (try clear hb); (try clear hb2); (try clear hk); (try clear hi)) | (go_at_call 13; (with_reducible refine (lexis_Tokens.calls t256 t257 t258 t259 _ ?side1 A3.out).mono ?_); (case side1 => exact LaidW.below hG.out (by repeat (first | (with_reducible first | exact HB.out | apply below_alloc | apply pw_below_drewN | apply below_drew1) | exact HB.out))); rintro e w6 ⟨v260, rfl, ho0, hb⟩; have n0_ := Aside0.mk (Kd.R_lower ho0 (below_size (by repeat (first | (with_reducible first | exact HB.out | apply below_alloc | apply pw_below_drewN | apply below_drew1) | exact HB.out)))); have n1_ := Aside0.mk (below_step (by repeat (first | (with_reducible first | exact HB.out | apply below_alloc | apply pw_below_drewN | apply below_drew1) | exact HB.out)) hb); clear HB; have HO261 := n0_; have HB := n1_; clear n0_ n1_; (try clear hb); (try clear hb2); (try clear hk); (try clear hi); (try clear ho0))); try go_wp2_with (first | (go_at_call 12; (with_reducible refine (winchlaw01_brief.calls a0 t256 _ A2.out).mono ?_); rintro e w5 ⟨rfl, hb⟩; have n0_ := Aside0.mk (below_step (by repeat (first | (with_reducible first | exact HB.out | apply below_alloc | apply pw_below_drewN | apply below_drew1) | exact HB.out)) hb); clear HB; have HB := n0_; clear n0_; (try clear hb); (try clear hb2); (try clear hk); (try clear hi)) | (go_at_call 13; (with_reducible refine (lexis_Tokens.calls t256 t257 t258 t259 _ ?side1 A3.out).mono ?_); (case side1 => exact LaidW.below hG.out (by repeat (first | (with_reducible first | exact HB.out | apply below_alloc | apply pw_below_drewN | apply below_drew1) | exact HB.out))); rintro e w6 ⟨v260, rfl, ho0, hb⟩; have n0_ := Aside0.mk (Kd.R_lower ho0 (below_size (by repeat (first | (with_reducible first | exact HB.out | apply below_alloc | apply pw_below_drewN | apply below_drew1) | exact HB.out)))); have n1_ := Aside0.mk (below_step (by repeat (first | (with_reducible first | exact HB.out | apply below_alloc | apply pw_below_drewN | apply below_drew1) | exact HB.out)) hb); clear HB; have HO261 := n0_; have HB := n1_; clear n0_ n1_; (try clear hb); (try clear hb2); (try clear hk); (try clear hi); (try clear ho0))))
    go_loopg [7, 8] k (fun kq v7 v8 w' => ∃ (x7_1 : Int) (x8_1 : Int), v7 = .int .i64 x7_1 ∧ v8 = .int .i64 x8_1 ∧ Aside0 (winchlaw01_LexisStands.l0 kq t256 t257 x7_1 x8_1 = some r) ∧ Aside0 (kq ≤ k) ∧ Aside0 (Kd.R k33 33 w' w.heap.size (fun _ => True) v260 t257) ∧ Aside0 (Below w.heap.size w w'))
    case atStart => exact ⟨(0), (0), (by first | rfl | (simp; done) | (simp [*]; done) | (simp [bne]; done)), (by first | rfl | (simp; done) | (simp [*]; done) | (simp [bne]; done)), H', ⟨Nat.le_refl _⟩, ⟨by (with_reducible repeat (first | apply Kd.R_alloc | apply Kd.R_drewN | apply Kd.R_drew)); exact HO261.out⟩, ⟨by repeat (first | (with_reducible first | exact HB.out | apply below_alloc | apply pw_below_drewN | apply below_drew1) | exact HB.out)⟩⟩
    case round =>
      clear H'
      try clear p2
      try clear c4
      try clear c4b0
      try clear c4b1
      obtain ⟨x7_1, x8_1, rfl, rfl, HA, HK1, HO_4, HB⟩ := hrel
      cases gk with
      | zero => exact absurd HA.out (by simp [winchlaw01_LexisStands.l0])
      | succ k1 =>
        have H := HA.out
        clear HA
        simp only [winchlaw01_LexisStands.l0] at H
        by_cases c7 : x8_1 < (t257.length : Int)
        · rw [if_pos c7] at H
          have c7b0 : decide (x8_1 < (t257.length : Int)) = true := decide_eq_true c7
          clear c7
          by_cases c8 : 0 ≤ x8_1
          · rw [if_pos c8] at H
            have c8b0 : decide (0 ≤ x8_1) = true := decide_eq_true c8
            clear c8
            have HC9 := Aside0.mk H
            clear H
            obtain ⟨Ao10, co10, eo10⟩ := Kd.R_slice HO_4.out
            subst eo10
            have p265 : 0 ≤ (x8_1 : Int) := of_decide_eq_true (by first | (with_reducible assumption) | assumption)
            have q265 : x8_1 < (t257.length : Int) := of_decide_eq_true (by first | (with_reducible assumption) | assumption)
            obtain ⟨ad265, e265, hx265_0, hx265_1, hx265_2⟩ := at_T33 (Kd.R_reads' HO_4.out).2.2 x8_1 p265 q265
            cases e265
            replace p265 := eq_true p265
            replace q265 := eq_true q265
            go_upto_region 10 with (first | ((with_reducible refine gate_dst (N := 9) rfl ?_); (try (refine gate_guard (by rfl) ?_; dsimp only)); refine box_event ?hg (N := 9) ?hd (cs := #[.int .i64 0, .string (⟨#[]⟩ : ByteArray), .int .i64 0]) (t := 33) ?hr ?_; (case hd => rfl); (case hg => rfl); (case hr => first | (go_simp; done) | (go_simp; rfl)); intro gb266 hg w11 hbox hb; have n0_ := Aside0.mk (Kd.R_below (Kd.R_elderB (by (with_reducible repeat (first | apply Kd.R_alloc | apply Kd.R_drewN | apply Kd.R_drew)); exact HO_4.out) gb266 (Nat.le_of_eq hg.symm)) hb); have n1_ := Aside0.mk (below_step (by repeat (first | (with_reducible first | exact HB.out | apply below_alloc | apply pw_below_drewN | apply below_drew1) | exact HB.out)) hb); have n2_ := Aside0.mk (hbox); have n3_ := Aside0.mk ((by rw [hg]; exact (below_size (by repeat (first | (with_reducible first | exact HB.out | apply below_alloc | apply pw_below_drewN | apply below_drew1) | exact HB.out))) : w.heap.size ≤ gb266)); have n4_ := Aside0.mk ((by rw [hg]; exact (below_size (by repeat (first | (with_reducible first | exact HB.out | apply below_alloc | apply pw_below_drewN | apply below_drew1) | exact HB.out))) : w.heap.size ≤ gb266)); clear HO_4; clear HB; have HO_4 := n0_; have HB := n1_; have BK266 := n2_; have GW266 := n3_; have GE266 := n4_; clear n0_ n1_ n2_ n3_ n4_; clear hb hbox hg; have hcz12_0 : w11.cell? ⟨gb266, 0, none⟩ = some (.int .i64 0) := (blk_cell BK266.out 0).trans rfl; have hcz12_1 : w11.cell? ⟨gb266, 1, none⟩ = some (.string (⟨#[]⟩ : ByteArray)) := (blk_cell BK266.out 1).trans rfl; have hcz12_2 : w11.cell? ⟨gb266, 2, none⟩ = some (.int .i64 0) := (blk_cell BK266.out 2).trans rfl; have hfz12_0 := blk_frozen BK266.out 0; have hfz12_1 := blk_frozen BK266.out 1; have hfz12_2 := blk_frozen BK266.out 2))
            repeat (go_quiet (first | ((with_reducible refine gate_dst (N := 9) rfl ?_); (try (refine gate_guard (by rfl) ?_; dsimp only)); refine box_event ?hg (N := 9) ?hd (cs := #[.int .i64 0, .string (⟨#[]⟩ : ByteArray), .int .i64 0]) (t := 33) ?hr ?_; (case hd => rfl); (case hg => rfl); (case hr => first | (go_simp; done) | (go_simp; rfl)); intro gb266 hg w11 hbox hb; have n0_ := Aside0.mk (Kd.R_below (Kd.R_elderB (by (with_reducible repeat (first | apply Kd.R_alloc | apply Kd.R_drewN | apply Kd.R_drew)); exact HO_4.out) gb266 (Nat.le_of_eq hg.symm)) hb); have n1_ := Aside0.mk (below_step (by repeat (first | (with_reducible first | exact HB.out | apply below_alloc | apply pw_below_drewN | apply below_drew1) | exact HB.out)) hb); have n2_ := Aside0.mk (hbox); have n3_ := Aside0.mk ((by rw [hg]; exact (below_size (by repeat (first | (with_reducible first | exact HB.out | apply below_alloc | apply pw_below_drewN | apply below_drew1) | exact HB.out))) : w.heap.size ≤ gb266)); have n4_ := Aside0.mk ((by rw [hg]; exact (below_size (by repeat (first | (with_reducible first | exact HB.out | apply below_alloc | apply pw_below_drewN | apply below_drew1) | exact HB.out))) : w.heap.size ≤ gb266)); clear HO_4; clear HB; have HO_4 := n0_; have HB := n1_; have BK266 := n2_; have GW266 := n3_; have GE266 := n4_; clear n0_ n1_ n2_ n3_ n4_; clear hb hbox hg; have hcz12_0 : w11.cell? ⟨gb266, 0, none⟩ = some (.int .i64 0) := (blk_cell BK266.out 0).trans rfl; have hcz12_1 : w11.cell? ⟨gb266, 1, none⟩ = some (.string (⟨#[]⟩ : ByteArray)) := (blk_cell BK266.out 1).trans rfl; have hcz12_2 : w11.cell? ⟨gb266, 2, none⟩ = some (.int .i64 0) := (blk_cell BK266.out 2).trans rfl; have hfz12_0 := blk_frozen BK266.out 0; have hfz12_1 := blk_frozen BK266.out 1; have hfz12_2 := blk_frozen BK266.out 2)); go_upto_region 10 with (first | ((with_reducible refine gate_dst (N := 9) rfl ?_); (try (refine gate_guard (by rfl) ?_; dsimp only)); refine box_event ?hg (N := 9) ?hd (cs := #[.int .i64 0, .string (⟨#[]⟩ : ByteArray), .int .i64 0]) (t := 33) ?hr ?_; (case hd => rfl); (case hg => rfl); (case hr => first | (go_simp; done) | (go_simp; rfl)); intro gb266 hg w11 hbox hb; have n0_ := Aside0.mk (Kd.R_below (Kd.R_elderB (by (with_reducible repeat (first | apply Kd.R_alloc | apply Kd.R_drewN | apply Kd.R_drew)); exact HO_4.out) gb266 (Nat.le_of_eq hg.symm)) hb); have n1_ := Aside0.mk (below_step (by repeat (first | (with_reducible first | exact HB.out | apply below_alloc | apply pw_below_drewN | apply below_drew1) | exact HB.out)) hb); have n2_ := Aside0.mk (hbox); have n3_ := Aside0.mk ((by rw [hg]; exact (below_size (by repeat (first | (with_reducible first | exact HB.out | apply below_alloc | apply pw_below_drewN | apply below_drew1) | exact HB.out))) : w.heap.size ≤ gb266)); have n4_ := Aside0.mk ((by rw [hg]; exact (below_size (by repeat (first | (with_reducible first | exact HB.out | apply below_alloc | apply pw_below_drewN | apply below_drew1) | exact HB.out))) : w.heap.size ≤ gb266)); clear HO_4; clear HB; have HO_4 := n0_; have HB := n1_; have BK266 := n2_; have GW266 := n3_; have GE266 := n4_; clear n0_ n1_ n2_ n3_ n4_; clear hb hbox hg; have hcz12_0 : w11.cell? ⟨gb266, 0, none⟩ = some (.int .i64 0) := (blk_cell BK266.out 0).trans rfl; have hcz12_1 : w11.cell? ⟨gb266, 1, none⟩ = some (.string (⟨#[]⟩ : ByteArray)) := (blk_cell BK266.out 1).trans rfl; have hcz12_2 : w11.cell? ⟨gb266, 2, none⟩ = some (.int .i64 0) := (blk_cell BK266.out 2).trans rfl; have hfz12_0 := blk_frozen BK266.out 0; have hfz12_1 := blk_frozen BK266.out 1; have hfz12_2 := blk_frozen BK266.out 2)))
            (try simp only [Act.put, List.setIfInBounds_toArray, List.set_cons_zero, List.set_cons_succ])
            go_cut [59] (fun v59 wc => ∃ (kq : Nat) (x59_8 : Bool), v59 = .bool x59_8 ∧ Aside0 (winchlaw01_LexisStands.j1 kq t256 t257 x7_1 x8_1 x59_8 ((rd_T33 t257 x8_1).f0) ((rd_T33 t257 x8_1).f1) ((rd_T33 t257 x8_1).f2) = some r) ∧ Aside0 (kq ≤ k1) ∧ Aside0 (Kd.R k33 33 wc w.heap.size (fun k_ => k_ ≠ gb266) (.slice (some ad265) t257.length co10) t257) ∧ Aside0 (wc.heap[gb266]? = some (.cells #[.int .i64 ((rd_T33 t257 x8_1).f0), .string ((rd_T33 t257 x8_1).f1), .int .i64 ((rd_T33 t257 x8_1).f2)] 33 (0, 0))) ∧ Aside0 (Below w.heap.size w wc))
            case first =>
              have H := HC9.out
              clear HC9
              by_cases c13 : ((rd_T33 t257 x8_1).f2) < x7_1
              · rw [if_pos c13] at H
                have c13b0 : decide (((rd_T33 t257 x8_1).f2) < x7_1) = true := decide_eq_true c13
                clear c13
                (first | rw [c13b0] | (simp only [i64_w, i32_w]; rw [c13b0]) | skip)
                have H' := Aside0.mk H
                clear H
                have hcz14_0 : w11.cell? ⟨gb266, 0, none⟩ = some (.int .i64 0) := (blk_cell BK266.out 0).trans rfl
                have hcz14_1 : w11.cell? ⟨gb266, 1, none⟩ = some (.string (⟨#[]⟩ : ByteArray)) := (blk_cell BK266.out 1).trans rfl
                have hcz14_2 : w11.cell? ⟨gb266, 2, none⟩ = some (.int .i64 0) := (blk_cell BK266.out 2).trans rfl
                have hfz14_0 := blk_frozen BK266.out 0
                have hfz14_1 := blk_frozen BK266.out 1
                have hfz14_2 := blk_frozen BK266.out 2
                go_wp2
                repeat (go_quiet (fail); try go_wp2)
                go_meet
                case rel => exact ⟨_, (true), (by first | rfl | (simp; done) | (simp [*]; done) | (simp [bne]; done)), H', ⟨by have := HK1.out; first | omega | exact Nat.le_refl _⟩, ⟨by (with_reducible repeat (first | apply Kd.R_alloc | apply Kd.R_drewN | apply Kd.R_drew)); exact Kd.R_mono (Kd.R_far (p := ⟨gb266, 2, none⟩) (Kd.R_far (p := ⟨gb266, 1, none⟩) (Kd.R_far (p := ⟨gb266, 0, none⟩) (Kd.R_mono HO_4.out (fun k_ hk => (⟨hk, hk.2⟩ : _ ∧ k_ ≠ gb266))) (fun _ hk => hk.2) (.int .i64 ((rd_T33 t257 x8_1).f0))) (fun _ hk => hk.2) (.string ((rd_T33 t257 x8_1).f1))) (fun _ hk => hk.2) (.int .i64 ((rd_T33 t257 x8_1).f2))) (fun _ hk => hk.1.2)⟩, ⟨by (with_reducible repeat (first | refine blk_drewN ?_ _ | refine blk_drew ?_ | refine blk_alloc ?_ _)); refine blk_put (cs := #[.int .i64 ((rd_T33 t257 x8_1).f0), .string ((rd_T33 t257 x8_1).f1), .int .i64 0]) ?_ 2 _ rfl; (with_reducible repeat (first | refine blk_drewN ?_ _ | refine blk_drew ?_ | refine blk_alloc ?_ _)); refine blk_put (cs := #[.int .i64 ((rd_T33 t257 x8_1).f0), .string (⟨#[]⟩ : ByteArray), .int .i64 0]) ?_ 1 _ rfl; (with_reducible repeat (first | refine blk_drewN ?_ _ | refine blk_drew ?_ | refine blk_alloc ?_ _)); refine blk_put (cs := #[.int .i64 0, .string (⟨#[]⟩ : ByteArray), .int .i64 0]) ?_ 0 _ rfl; (with_reducible repeat (first | refine blk_drewN ?_ _ | refine blk_drew ?_ | refine blk_alloc ?_ _)); exact BK266.out⟩, ⟨by repeat (first | (with_reducible first | exact HB.out | apply below_alloc | apply pw_below_drewN | apply below_drew1 | refine below_set ?_ GE266.out) | exact HB.out)⟩⟩
              rw [if_neg c13] at H
              have c13b0 : decide (((rd_T33 t257 x8_1).f2) < x7_1) = false := decide_eq_false c13
              clear c13
              (first | rw [c13b0] | (simp only [i64_w, i32_w]; rw [c13b0]) | skip)
              by_cases c15 : ((rd_T33 t257 x8_1).f2) > (t256.size : Int)
              · rw [if_pos c15] at H
                have c15b0 : decide ((t256.size : Int) < ((rd_T33 t257 x8_1).f2)) = true := decide_eq_true c15
                clear c15
                have H' := Aside0.mk H
                clear H
                have hcz16_0 : w11.cell? ⟨gb266, 0, none⟩ = some (.int .i64 0) := (blk_cell BK266.out 0).trans rfl
                have hcz16_1 : w11.cell? ⟨gb266, 1, none⟩ = some (.string (⟨#[]⟩ : ByteArray)) := (blk_cell BK266.out 1).trans rfl
                have hcz16_2 : w11.cell? ⟨gb266, 2, none⟩ = some (.int .i64 0) := (blk_cell BK266.out 2).trans rfl
                have hfz16_0 := blk_frozen BK266.out 0
                have hfz16_1 := blk_frozen BK266.out 1
                have hfz16_2 := blk_frozen BK266.out 2
                go_wp2
                repeat (go_quiet (fail); try go_wp2)
                go_meet
                case rel => exact ⟨_, (true), (by first | rfl | (simp; done) | (simp [*]; done) | (simp [bne]; done)), H', ⟨by have := HK1.out; first | omega | exact Nat.le_refl _⟩, ⟨by (with_reducible repeat (first | apply Kd.R_alloc | apply Kd.R_drewN | apply Kd.R_drew)); exact Kd.R_mono (Kd.R_far (p := ⟨gb266, 2, none⟩) (Kd.R_far (p := ⟨gb266, 1, none⟩) (Kd.R_far (p := ⟨gb266, 0, none⟩) (Kd.R_mono HO_4.out (fun k_ hk => (⟨hk, hk.2⟩ : _ ∧ k_ ≠ gb266))) (fun _ hk => hk.2) (.int .i64 ((rd_T33 t257 x8_1).f0))) (fun _ hk => hk.2) (.string ((rd_T33 t257 x8_1).f1))) (fun _ hk => hk.2) (.int .i64 ((rd_T33 t257 x8_1).f2))) (fun _ hk => hk.1.2)⟩, ⟨by (with_reducible repeat (first | refine blk_drewN ?_ _ | refine blk_drew ?_ | refine blk_alloc ?_ _)); refine blk_put (cs := #[.int .i64 ((rd_T33 t257 x8_1).f0), .string ((rd_T33 t257 x8_1).f1), .int .i64 0]) ?_ 2 _ rfl; (with_reducible repeat (first | refine blk_drewN ?_ _ | refine blk_drew ?_ | refine blk_alloc ?_ _)); refine blk_put (cs := #[.int .i64 ((rd_T33 t257 x8_1).f0), .string (⟨#[]⟩ : ByteArray), .int .i64 0]) ?_ 1 _ rfl; (with_reducible repeat (first | refine blk_drewN ?_ _ | refine blk_drew ?_ | refine blk_alloc ?_ _)); refine blk_put (cs := #[.int .i64 0, .string (⟨#[]⟩ : ByteArray), .int .i64 0]) ?_ 0 _ rfl; (with_reducible repeat (first | refine blk_drewN ?_ _ | refine blk_drew ?_ | refine blk_alloc ?_ _)); exact BK266.out⟩, ⟨by repeat (first | (with_reducible first | exact HB.out | apply below_alloc | apply pw_below_drewN | apply below_drew1 | refine below_set ?_ GE266.out) | exact HB.out)⟩⟩
              rw [if_neg c15] at H
              have c15b0 : decide ((t256.size : Int) < ((rd_T33 t257 x8_1).f2)) = false := decide_eq_false c15
              clear c15
              by_cases c17 : ((((rd_T33 t257 x8_1).f0) == 7) != (x8_1 == (wrap64 ((t257.length : Int) - 1)))) = true
              · rw [if_pos c17] at H
                have c17b0 : ((((rd_T33 t257 x8_1).f0) == 7) != (x8_1 == (wrap64 ((t257.length : Int) - 1)))) = true := c17
                (try (have c17b1 : decide ((((rd_T33 t257 x8_1).f0) == 7) = (x8_1 == (wrap64 ((t257.length : Int) - 1)))) = false := by simpa using c17))
                (try (have c17b2 : ((((rd_T33 t257 x8_1).f0) == 7) == (x8_1 == (wrap64 ((t257.length : Int) - 1)))) = false := by simpa using c17))
                (try (have c17b3 : ¬ ((((rd_T33 t257 x8_1).f0) == 7) = (x8_1 == (wrap64 ((t257.length : Int) - 1)))) := by simpa using c17))
                clear c17
                have H' := Aside0.mk H
                clear H
                have hcz18_0 : w11.cell? ⟨gb266, 0, none⟩ = some (.int .i64 0) := (blk_cell BK266.out 0).trans rfl
                have hcz18_1 : w11.cell? ⟨gb266, 1, none⟩ = some (.string (⟨#[]⟩ : ByteArray)) := (blk_cell BK266.out 1).trans rfl
                have hcz18_2 : w11.cell? ⟨gb266, 2, none⟩ = some (.int .i64 0) := (blk_cell BK266.out 2).trans rfl
                have hfz18_0 := blk_frozen BK266.out 0
                have hfz18_1 := blk_frozen BK266.out 1
                have hfz18_2 := blk_frozen BK266.out 2
                go_wp2
                repeat (go_quiet (fail); try go_wp2)
                go_meet
                case rel => exact ⟨_, (true), (by first | rfl | (simp; done) | (simp [*]; done) | (simp [bne]; done)), H', ⟨by have := HK1.out; first | omega | exact Nat.le_refl _⟩, ⟨by (with_reducible repeat (first | apply Kd.R_alloc | apply Kd.R_drewN | apply Kd.R_drew)); exact Kd.R_mono (Kd.R_far (p := ⟨gb266, 2, none⟩) (Kd.R_far (p := ⟨gb266, 1, none⟩) (Kd.R_far (p := ⟨gb266, 0, none⟩) (Kd.R_mono HO_4.out (fun k_ hk => (⟨hk, hk.2⟩ : _ ∧ k_ ≠ gb266))) (fun _ hk => hk.2) (.int .i64 ((rd_T33 t257 x8_1).f0))) (fun _ hk => hk.2) (.string ((rd_T33 t257 x8_1).f1))) (fun _ hk => hk.2) (.int .i64 ((rd_T33 t257 x8_1).f2))) (fun _ hk => hk.1.2)⟩, ⟨by (with_reducible repeat (first | refine blk_drewN ?_ _ | refine blk_drew ?_ | refine blk_alloc ?_ _)); refine blk_put (cs := #[.int .i64 ((rd_T33 t257 x8_1).f0), .string ((rd_T33 t257 x8_1).f1), .int .i64 0]) ?_ 2 _ rfl; (with_reducible repeat (first | refine blk_drewN ?_ _ | refine blk_drew ?_ | refine blk_alloc ?_ _)); refine blk_put (cs := #[.int .i64 ((rd_T33 t257 x8_1).f0), .string (⟨#[]⟩ : ByteArray), .int .i64 0]) ?_ 1 _ rfl; (with_reducible repeat (first | refine blk_drewN ?_ _ | refine blk_drew ?_ | refine blk_alloc ?_ _)); refine blk_put (cs := #[.int .i64 0, .string (⟨#[]⟩ : ByteArray), .int .i64 0]) ?_ 0 _ rfl; (with_reducible repeat (first | refine blk_drewN ?_ _ | refine blk_drew ?_ | refine blk_alloc ?_ _)); exact BK266.out⟩, ⟨by repeat (first | (with_reducible first | exact HB.out | apply below_alloc | apply pw_below_drewN | apply below_drew1 | refine below_set ?_ GE266.out) | exact HB.out)⟩⟩
              rw [if_neg c17] at H
              have c17b0 : ((((rd_T33 t257 x8_1).f0) == 7) != (x8_1 == (wrap64 ((t257.length : Int) - 1)))) = false := by simpa using c17
              (try (have c17b1 : decide ((((rd_T33 t257 x8_1).f0) == 7) = (x8_1 == (wrap64 ((t257.length : Int) - 1)))) = true := by simpa using c17))
              (try (have c17b2 : ((((rd_T33 t257 x8_1).f0) == 7) == (x8_1 == (wrap64 ((t257.length : Int) - 1)))) = true := by simpa using c17))
              clear c17
              replace H := Option.bind_eq_some_iff.mp H
              obtain ⟨t267, A190, H⟩ := H
              replace H : (winchlaw01_LexisStands.j1 k1 t256 t257 x7_1 x8_1 (!t267) ((rd_T33 t257 x8_1).f0) ((rd_T33 t257 x8_1).f1) ((rd_T33 t257 x8_1).f2)) = some r := H
              have A19 := Aside0.mk A190
              clear A190
              have H' := Aside0.mk H
              clear H
              have hcz20_0 : w11.cell? ⟨gb266, 0, none⟩ = some (.int .i64 0) := (blk_cell BK266.out 0).trans rfl
              have hcz20_1 : w11.cell? ⟨gb266, 1, none⟩ = some (.string (⟨#[]⟩ : ByteArray)) := (blk_cell BK266.out 1).trans rfl
              have hcz20_2 : w11.cell? ⟨gb266, 2, none⟩ = some (.int .i64 0) := (blk_cell BK266.out 2).trans rfl
              have hfz20_0 := blk_frozen BK266.out 0
              have hfz20_1 := blk_frozen BK266.out 1
              have hfz20_2 := blk_frozen BK266.out 2
              go_wp2_with (first | (go_at_call 17; (with_reducible refine (winchref01_IsToken.calls k1 ((rd_T33 t257 x8_1).f0) ((rd_T33 t257 x8_1).f1) ((rd_T33 t257 x8_1).f2) t267 _ A19.out).mono ?_); rintro e w21 ⟨rfl, hb⟩; have n0_ := Aside0.mk (Kd.R_below (by (with_reducible repeat (first | apply Kd.R_alloc | apply Kd.R_drewN | apply Kd.R_drew)); exact (Kd.R_mono (Kd.R_far (p := ⟨gb266, 2, none⟩) (Kd.R_far (p := ⟨gb266, 1, none⟩) (Kd.R_far (p := ⟨gb266, 0, none⟩) (Kd.R_mono HO_4.out (fun k_ hk => (⟨hk, hk.2⟩ : _ ∧ k_ ≠ gb266))) (fun _ hk => hk.2) (.int .i64 ((rd_T33 t257 x8_1).f0))) (fun _ hk => hk.2) (.string ((rd_T33 t257 x8_1).f1))) (fun _ hk => hk.2) (.int .i64 ((rd_T33 t257 x8_1).f2))) (fun _ h_ => h_.1))) hb); have n1_ := Aside0.mk (blk_below (g := gb266) (o := .cells #[.int .i64 ((rd_T33 t257 x8_1).f0), .string ((rd_T33 t257 x8_1).f1), .int .i64 ((rd_T33 t257 x8_1).f2)] 33 (0, 0)) (by (with_reducible repeat (first | refine blk_drewN ?_ _ | refine blk_drew ?_ | refine blk_alloc ?_ _)); refine blk_put (cs := #[.int .i64 ((rd_T33 t257 x8_1).f0), .string ((rd_T33 t257 x8_1).f1), .int .i64 0]) ?_ 2 _ rfl; (with_reducible repeat (first | refine blk_drewN ?_ _ | refine blk_drew ?_ | refine blk_alloc ?_ _)); refine blk_put (cs := #[.int .i64 ((rd_T33 t257 x8_1).f0), .string (⟨#[]⟩ : ByteArray), .int .i64 0]) ?_ 1 _ rfl; (with_reducible repeat (first | refine blk_drewN ?_ _ | refine blk_drew ?_ | refine blk_alloc ?_ _)); refine blk_put (cs := #[.int .i64 0, .string (⟨#[]⟩ : ByteArray), .int .i64 0]) ?_ 0 _ rfl; (with_reducible repeat (first | refine blk_drewN ?_ _ | refine blk_drew ?_ | refine blk_alloc ?_ _)); exact BK266.out) hb); have n2_ := Aside0.mk (below_step (by repeat (first | (with_reducible first | exact HB.out | apply below_alloc | apply pw_below_drewN | apply below_drew1 | refine below_set ?_ GE266.out) | exact HB.out)) hb); clear HO_4; clear BK266; clear HB; have HO_4 := n0_; have BK266 := n1_; have HB := n2_; clear n0_ n1_ n2_; (try clear hb); (try clear hb2); (try clear hk); (try clear hi)))
              repeat (go_quiet (first | (go_at_call 17; (with_reducible refine (winchref01_IsToken.calls k1 ((rd_T33 t257 x8_1).f0) ((rd_T33 t257 x8_1).f1) ((rd_T33 t257 x8_1).f2) t267 _ A19.out).mono ?_); rintro e w21 ⟨rfl, hb⟩; have n0_ := Aside0.mk (Kd.R_below (by (with_reducible repeat (first | apply Kd.R_alloc | apply Kd.R_drewN | apply Kd.R_drew)); exact (Kd.R_mono (Kd.R_far (p := ⟨gb266, 2, none⟩) (Kd.R_far (p := ⟨gb266, 1, none⟩) (Kd.R_far (p := ⟨gb266, 0, none⟩) (Kd.R_mono HO_4.out (fun k_ hk => (⟨hk, hk.2⟩ : _ ∧ k_ ≠ gb266))) (fun _ hk => hk.2) (.int .i64 ((rd_T33 t257 x8_1).f0))) (fun _ hk => hk.2) (.string ((rd_T33 t257 x8_1).f1))) (fun _ hk => hk.2) (.int .i64 ((rd_T33 t257 x8_1).f2))) (fun _ h_ => h_.1))) hb); have n1_ := Aside0.mk (blk_below (g := gb266) (o := .cells #[.int .i64 ((rd_T33 t257 x8_1).f0), .string ((rd_T33 t257 x8_1).f1), .int .i64 ((rd_T33 t257 x8_1).f2)] 33 (0, 0)) (by (with_reducible repeat (first | refine blk_drewN ?_ _ | refine blk_drew ?_ | refine blk_alloc ?_ _)); refine blk_put (cs := #[.int .i64 ((rd_T33 t257 x8_1).f0), .string ((rd_T33 t257 x8_1).f1), .int .i64 0]) ?_ 2 _ rfl; (with_reducible repeat (first | refine blk_drewN ?_ _ | refine blk_drew ?_ | refine blk_alloc ?_ _)); refine blk_put (cs := #[.int .i64 ((rd_T33 t257 x8_1).f0), .string (⟨#[]⟩ : ByteArray), .int .i64 0]) ?_ 1 _ rfl; (with_reducible repeat (first | refine blk_drewN ?_ _ | refine blk_drew ?_ | refine blk_alloc ?_ _)); refine blk_put (cs := #[.int .i64 0, .string (⟨#[]⟩ : ByteArray), .int .i64 0]) ?_ 0 _ rfl; (with_reducible repeat (first | refine blk_drewN ?_ _ | refine blk_drew ?_ | refine blk_alloc ?_ _)); exact BK266.out) hb); have n2_ := Aside0.mk (below_step (by repeat (first | (with_reducible first | exact HB.out | apply below_alloc | apply pw_below_drewN | apply below_drew1 | refine below_set ?_ GE266.out) | exact HB.out)) hb); clear HO_4; clear BK266; clear HB; have HO_4 := n0_; have BK266 := n1_; have HB := n2_; clear n0_ n1_ n2_; (try clear hb); (try clear hb2); (try clear hk); (try clear hi))); try go_wp2_with (first | (go_at_call 17; (with_reducible refine (winchref01_IsToken.calls k1 ((rd_T33 t257 x8_1).f0) ((rd_T33 t257 x8_1).f1) ((rd_T33 t257 x8_1).f2) t267 _ A19.out).mono ?_); rintro e w21 ⟨rfl, hb⟩; have n0_ := Aside0.mk (Kd.R_below (by (with_reducible repeat (first | apply Kd.R_alloc | apply Kd.R_drewN | apply Kd.R_drew)); exact (Kd.R_mono (Kd.R_far (p := ⟨gb266, 2, none⟩) (Kd.R_far (p := ⟨gb266, 1, none⟩) (Kd.R_far (p := ⟨gb266, 0, none⟩) (Kd.R_mono HO_4.out (fun k_ hk => (⟨hk, hk.2⟩ : _ ∧ k_ ≠ gb266))) (fun _ hk => hk.2) (.int .i64 ((rd_T33 t257 x8_1).f0))) (fun _ hk => hk.2) (.string ((rd_T33 t257 x8_1).f1))) (fun _ hk => hk.2) (.int .i64 ((rd_T33 t257 x8_1).f2))) (fun _ h_ => h_.1))) hb); have n1_ := Aside0.mk (blk_below (g := gb266) (o := .cells #[.int .i64 ((rd_T33 t257 x8_1).f0), .string ((rd_T33 t257 x8_1).f1), .int .i64 ((rd_T33 t257 x8_1).f2)] 33 (0, 0)) (by (with_reducible repeat (first | refine blk_drewN ?_ _ | refine blk_drew ?_ | refine blk_alloc ?_ _)); refine blk_put (cs := #[.int .i64 ((rd_T33 t257 x8_1).f0), .string ((rd_T33 t257 x8_1).f1), .int .i64 0]) ?_ 2 _ rfl; (with_reducible repeat (first | refine blk_drewN ?_ _ | refine blk_drew ?_ | refine blk_alloc ?_ _)); refine blk_put (cs := #[.int .i64 ((rd_T33 t257 x8_1).f0), .string (⟨#[]⟩ : ByteArray), .int .i64 0]) ?_ 1 _ rfl; (with_reducible repeat (first | refine blk_drewN ?_ _ | refine blk_drew ?_ | refine blk_alloc ?_ _)); refine blk_put (cs := #[.int .i64 0, .string (⟨#[]⟩ : ByteArray), .int .i64 0]) ?_ 0 _ rfl; (with_reducible repeat (first | refine blk_drewN ?_ _ | refine blk_drew ?_ | refine blk_alloc ?_ _)); exact BK266.out) hb); have n2_ := Aside0.mk (below_step (by repeat (first | (with_reducible first | exact HB.out | apply below_alloc | apply pw_below_drewN | apply below_drew1 | refine below_set ?_ GE266.out) | exact HB.out)) hb); clear HO_4; clear BK266; clear HB; have HO_4 := n0_; have BK266 := n1_; have HB := n2_; clear n0_ n1_ n2_; (try clear hb); (try clear hb2); (try clear hk); (try clear hi))))
              go_meet
              case rel => exact ⟨_, (!t267), (by first | rfl | (simp; done) | (simp [*]; done) | (simp [bne]; done)), H', ⟨by have := HK1.out; first | omega | exact Nat.le_refl _⟩, ⟨by (with_reducible repeat (first | apply Kd.R_alloc | apply Kd.R_drewN | apply Kd.R_drew)); exact Kd.R_mono HO_4.out (fun _ hk => hk.2)⟩, ⟨by (with_reducible repeat (first | refine blk_drewN ?_ _ | refine blk_drew ?_ | refine blk_alloc ?_ _)); exact BK266.out⟩, ⟨by repeat (first | (with_reducible first | exact HB.out | apply below_alloc | apply pw_below_drewN | apply below_drew1 | refine below_set ?_ GE266.out) | exact HB.out)⟩⟩
            case rest =>
              clear HC9
              try clear c1
              try clear p2
              try clear q2
              try clear hx2
              try clear c4
              try clear c4b0
              try clear c4b1
              try clear p6
              try clear c7
              try clear c7b0
              try clear c8
              try clear c8b0
              try clear c13
              try clear c13b0
              try clear c15
              try clear c15b0
              try clear c17
              try clear c17b0
              try clear c17b1
              try clear c17b2
              try clear hcz12_0
              try clear hcz12_1
              try clear hcz12_2
              try clear hcz14_0
              try clear hcz14_1
              try clear hcz14_2
              try clear hcz16_0
              try clear hcz16_1
              try clear hcz16_2
              try clear hcz18_0
              try clear hcz18_1
              try clear hcz18_2
              try clear hcz20_0
              try clear hcz20_1
              try clear hcz20_2
              try clear hfz12_0
              try clear hfz12_1
              try clear hfz12_2
              try clear hfz14_0
              try clear hfz14_1
              try clear hfz14_2
              try clear hfz16_0
              try clear hfz16_1
              try clear hfz16_2
              try clear hfz18_0
              try clear hfz18_1
              try clear hfz18_2
              try clear hfz20_0
              try clear hfz20_1
              try clear hfz20_2
              try clear hx265_0
              try clear hx265_1
              try clear hx265_2
              try clear p2
              try clear p265
              try clear q265
              obtain ⟨kq, x59_8, rfl, HA, HJ8, HO_4, BK266, HB⟩ := hcut
              cases kq with
              | zero => exact absurd HA.out (by simp [winchlaw01_LexisStands.j1])
              | succ kj8 =>
                have H := HA.out
                clear HA
                simp only [winchlaw01_LexisStands.j1] at H
                by_cases c22 : x59_8 = true
                · subst c22
                  have H1 : (some false) = some r := by rw [if_pos rfl] at H; exact H
                  clear H
                  have H := H1
                  clear H1
                  obtain rfl := Option.some.inj H
                  go_wp2
                  repeat (go_quiet (fail); try go_wp2)
                  go_ret
                  exact ⟨by first | rfl | (simp [errW_none, errW_some] <;> rfl) | (simp [*, errW_none, errW_some] <;> rfl), by repeat (first | (with_reducible first | exact HB.out | apply below_alloc | apply pw_below_drewN | apply below_drew1 | refine below_set ?_ GE266.out) | exact HB.out)⟩
                replace c22 := Bool.eq_false_iff.mpr c22
                subst c22
                have H1 : (winchlaw01_LexisStands.l1 kj8 t256 t257 x8_1 false x7_1 ((rd_T33 t257 x8_1).f0) ((rd_T33 t257 x8_1).f1) ((rd_T33 t257 x8_1).f2)) = some r := by rw [if_neg (show ¬ (false = true) by decide)] at H; exact H
                clear H
                have H := H1
                clear H1
                have H' := Aside0.mk H
                clear H
                go_wp2
                repeat (go_quiet (fail); try go_wp2)
                go_loopg [10, 11] kj8 (fun kq v10 v11 w' => ∃ (x10_3 : Bool) (x11_3 : Int), v10 = .bool x10_3 ∧ v11 = .int .i64 x11_3 ∧ Aside0 (winchlaw01_LexisStands.l1 kq t256 t257 x8_1 x10_3 x11_3 ((rd_T33 t257 x8_1).f0) ((rd_T33 t257 x8_1).f1) ((rd_T33 t257 x8_1).f2) = some r) ∧ Aside0 (kq ≤ kj8) ∧ Aside0 (Kd.R k33 33 w' w.heap.size (fun k_ => k_ ≠ gb266) (.slice (some ad265) t257.length co10) t257) ∧ Aside0 (w'.heap[gb266]? = some (.cells #[.int .i64 ((rd_T33 t257 x8_1).f0), .string ((rd_T33 t257 x8_1).f1), .int .i64 ((rd_T33 t257 x8_1).f2)] 33 (0, 0))) ∧ Aside0 (Below w.heap.size w w'))
                case atStart => exact ⟨(false), (x7_1), (by first | rfl | (simp; done) | (simp [*]; done) | (simp [bne]; done)), (by first | rfl | (simp; done) | (simp [*]; done) | (simp [bne]; done)), H', ⟨Nat.le_refl _⟩, ⟨by (with_reducible repeat (first | apply Kd.R_alloc | apply Kd.R_drewN | apply Kd.R_drew)); exact HO_4.out⟩, ⟨by (with_reducible repeat (first | refine blk_drewN ?_ _ | refine blk_drew ?_ | refine blk_alloc ?_ _)); exact BK266.out⟩, ⟨by repeat (first | (with_reducible first | exact HB.out | apply below_alloc | apply pw_below_drewN | apply below_drew1 | refine below_set ?_ GE266.out) | exact HB.out)⟩⟩
                case round =>
                  clear H'
                  try clear c1
                  try clear c2
                  try clear p2
                  try clear q2
                  try clear hx2
                  try clear c4
                  try clear c4b0
                  try clear c4b1
                  try clear p6
                  try clear c7
                  try clear c7b0
                  try clear c8
                  try clear c8b0
                  try clear c13
                  try clear c13b0
                  try clear c15
                  try clear c15b0
                  try clear c17
                  try clear c17b0
                  try clear c17b1
                  try clear c17b2
                  try clear c22
                  try clear hcz12_0
                  try clear hcz12_1
                  try clear hcz12_2
                  try clear hcz14_0
                  try clear hcz14_1
                  try clear hcz14_2
                  try clear hcz16_0
                  try clear hcz16_1
                  try clear hcz16_2
                  try clear hcz18_0
                  try clear hcz18_1
                  try clear hcz18_2
                  try clear hcz20_0
                  try clear hcz20_1
                  try clear hcz20_2
                  try clear hfz12_0
                  try clear hfz12_1
                  try clear hfz12_2
                  try clear hfz14_0
                  try clear hfz14_1
                  try clear hfz14_2
                  try clear hfz16_0
                  try clear hfz16_1
                  try clear hfz16_2
                  try clear hfz18_0
                  try clear hfz18_1
                  try clear hfz18_2
                  try clear hfz20_0
                  try clear hfz20_1
                  try clear hfz20_2
                  try clear hx265_0
                  try clear hx265_1
                  try clear hx265_2
                  try clear p2
                  try clear p265
                  try clear p6
                  try clear q2
                  try clear q265
                  obtain ⟨x10_3, x11_3, rfl, rfl, HA, HK3, HO_4, BK266, HB⟩ := hrel
                  cases gk with
                  | zero => exact absurd HA.out (by simp [winchlaw01_LexisStands.l1])
                  | succ k3 =>
                    have H := HA.out
                    clear HA
                    simp only [winchlaw01_LexisStands.l1] at H
                    by_cases c23 : x11_3 < ((rd_T33 t257 x8_1).f2)
                    · rw [if_pos c23] at H
                      have c23b0 : decide (x11_3 < ((rd_T33 t257 x8_1).f2)) = true := decide_eq_true c23
                      clear c23
                      by_cases c24 : 0 ≤ x11_3
                      · rw [if_pos c24] at H
                        have c24b0 : decide (0 ≤ x11_3) = true := decide_eq_true c24
                        clear c24
                        by_cases c25 : x11_3 < (t256.size : Int)
                        · rw [if_pos c25] at H
                          have c25b0 : decide (x11_3 < (t256.size : Int)) = true := decide_eq_true c25
                          clear c25
                          by_cases c27 : (bt t256 x11_3) = 47
                          · rw [if_pos c27] at H
                            have c27b0 : ((bt t256 x11_3) == 47) = true := beq_iff_eq.mpr c27
                            have c27b1 : ((bt t256 x11_3) != 47) = false := bne_eq_false_iff_eq.mpr c27
                            clear c27
                            by_cases c28 : (wrap64 (x11_3 + 1)) < (t256.size : Int)
                            · rw [if_pos c28] at H
                              have c28b0 : decide ((wrap64 (x11_3 + 1)) < (t256.size : Int)) = true := decide_eq_true c28
                              clear c28
                              obtain ⟨ji29, hji29⟩ : ∃ j_ : Int, (wrap64 (x11_3 + 1)) = j_ := ⟨_, rfl⟩
                              replace H : (if 0 ≤ (ji29) then (if (bt t256 (ji29)) = 47 then (winchlaw01_LexisStands.l1 k3 t256 t257 x8_1 true ji29 ((rd_T33 t257 x8_1).f0) ((rd_T33 t257 x8_1).f1) ((rd_T33 t257 x8_1).f2)) else (if x10_3 = true then (if (¬ (bt t256 x11_3) = 10) then (winchlaw01_LexisStands.l1 k3 t256 t257 x8_1 ((bt t256 x11_3) != 10) ji29 ((rd_T33 t257 x8_1).f0) ((rd_T33 t257 x8_1).f1) ((rd_T33 t257 x8_1).f2)) else (if (bt t256 x11_3) = 9 then (winchlaw01_LexisStands.l1 k3 t256 t257 x8_1 ((bt t256 x11_3) != 10) ji29 ((rd_T33 t257 x8_1).f0) ((rd_T33 t257 x8_1).f1) ((rd_T33 t257 x8_1).f2)) else (if (bt t256 x11_3) = 10 then (winchlaw01_LexisStands.l1 k3 t256 t257 x8_1 ((bt t256 x11_3) != 10) ji29 ((rd_T33 t257 x8_1).f0) ((rd_T33 t257 x8_1).f1) ((rd_T33 t257 x8_1).f2)) else (if (bt t256 x11_3) = 13 then (winchlaw01_LexisStands.l1 k3 t256 t257 x8_1 ((bt t256 x11_3) != 10) ji29 ((rd_T33 t257 x8_1).f0) ((rd_T33 t257 x8_1).f1) ((rd_T33 t257 x8_1).f2)) else (if (bt t256 x11_3) = 32 then (winchlaw01_LexisStands.l1 k3 t256 t257 x8_1 ((bt t256 x11_3) != 10) ji29 ((rd_T33 t257 x8_1).f0) ((rd_T33 t257 x8_1).f1) ((rd_T33 t257 x8_1).f2)) else (some false)))))) else (if (bt t256 x11_3) = 9 then (winchlaw01_LexisStands.l1 k3 t256 t257 x8_1 false ji29 ((rd_T33 t257 x8_1).f0) ((rd_T33 t257 x8_1).f1) ((rd_T33 t257 x8_1).f2)) else (if (bt t256 x11_3) = 10 then (winchlaw01_LexisStands.l1 k3 t256 t257 x8_1 false ji29 ((rd_T33 t257 x8_1).f0) ((rd_T33 t257 x8_1).f1) ((rd_T33 t257 x8_1).f2)) else (if (bt t256 x11_3) = 13 then (winchlaw01_LexisStands.l1 k3 t256 t257 x8_1 false ji29 ((rd_T33 t257 x8_1).f0) ((rd_T33 t257 x8_1).f1) ((rd_T33 t257 x8_1).f2)) else (if (bt t256 x11_3) = 32 then (winchlaw01_LexisStands.l1 k3 t256 t257 x8_1 false ji29 ((rd_T33 t257 x8_1).f0) ((rd_T33 t257 x8_1).f1) ((rd_T33 t257 x8_1).f2)) else (some false))))))) else (none)) = some r := by first | (rw [hji29] at H; exact H) | (simp only [hji29] at H ⊢; exact H)
                              (try rw [hji29] at c28b0)
                              have hji29w : (IntKind.i64.wrap (x11_3 + 1)) = ji29 := (i64_w _).trans hji29
                              by_cases c30 : 0 ≤ (ji29)
                              · rw [if_pos c30] at H
                                have c30b0 : decide (0 ≤ (ji29)) = true := decide_eq_true c30
                                clear c30
                                by_cases c32 : (bt t256 (ji29)) = 47
                                · rw [if_pos c32] at H
                                  have c32b0 : ((bt t256 (ji29)) == 47) = true := beq_iff_eq.mpr c32
                                  have c32b1 : ((bt t256 (ji29)) != 47) = false := bne_eq_false_iff_eq.mpr c32
                                  clear c32
                                  have H' := Aside0.mk H
                                  clear H
                                  have hcz33_0 : wr.cell? ⟨gb266, 0, none⟩ = some (.int .i64 ((rd_T33 t257 x8_1).f0)) := (blk_cell BK266.out 0).trans rfl
                                  have hcz33_1 : wr.cell? ⟨gb266, 1, none⟩ = some (.string ((rd_T33 t257 x8_1).f1)) := (blk_cell BK266.out 1).trans rfl
                                  have hcz33_2 : wr.cell? ⟨gb266, 2, none⟩ = some (.int .i64 ((rd_T33 t257 x8_1).f2)) := (blk_cell BK266.out 2).trans rfl
                                  have hfz33_0 := blk_frozen BK266.out 0
                                  have hfz33_1 := blk_frozen BK266.out 1
                                  have hfz33_2 := blk_frozen BK266.out 2
                                  have p26 : 0 ≤ (x11_3 : Int) := of_decide_eq_true (by first | (with_reducible assumption) | assumption)
                                  have q26 : x11_3 < (t256.size : Int) := of_decide_eq_true (by first | (with_reducible assumption) | assumption)
                                  have hx26 := bt_at t256 x11_3
                                  replace p26 := eq_true p26
                                  replace q26 := eq_true q26
                                  have p31 : 0 ≤ ((ji29) : Int) := of_decide_eq_true (by first | (with_reducible assumption) | assumption)
                                  have q31 : (ji29) < (t256.size : Int) := of_decide_eq_true (by first | (with_reducible assumption) | assumption)
                                  have hx31 := bt_at t256 (ji29)
                                  replace p31 := eq_true p31
                                  replace q31 := eq_true q31
                                  go_wp2
                                  repeat (go_quiet (fail); try go_wp2)
                                  go_roundg k3
                                  case measure => have := HK1.out; have := HJ8.out; have := HK3.out; omega
                                  case rel => exact ⟨(true), (ji29), (by first | rfl | (simp; done) | (simp [*]; done) | (simp [bne]; done)), (by first | rfl | (simp; done) | (simp only [← hji29] <;> (first | rfl | simp)) | (simp [*]; done)), H', ⟨by have := HK1.out; have := HJ8.out; have := HK3.out; omega⟩, ⟨by (with_reducible repeat (first | apply Kd.R_alloc | apply Kd.R_drewN | apply Kd.R_drew)); exact HO_4.out⟩, ⟨by (with_reducible repeat (first | refine blk_drewN ?_ _ | refine blk_drew ?_ | refine blk_alloc ?_ _)); exact BK266.out⟩, ⟨by repeat (first | (with_reducible first | exact HB.out | apply below_alloc | apply pw_below_drewN | apply below_drew1 | refine below_set ?_ GE266.out) | exact HB.out)⟩⟩
                                rw [if_neg c32] at H
                                have c32b0 : ((bt t256 (ji29)) == 47) = false := beq_eq_false_iff_ne.mpr c32
                                have c32b1 : ((bt t256 (ji29)) != 47) = true := bne_iff_ne.mpr c32
                                by_cases c34 : x10_3 = true
                                · subst c34
                                  have H1 : (if (¬ (bt t256 x11_3) = 10) then (winchlaw01_LexisStands.l1 k3 t256 t257 x8_1 ((bt t256 x11_3) != 10) ji29 ((rd_T33 t257 x8_1).f0) ((rd_T33 t257 x8_1).f1) ((rd_T33 t257 x8_1).f2)) else (if (bt t256 x11_3) = 9 then (winchlaw01_LexisStands.l1 k3 t256 t257 x8_1 ((bt t256 x11_3) != 10) ji29 ((rd_T33 t257 x8_1).f0) ((rd_T33 t257 x8_1).f1) ((rd_T33 t257 x8_1).f2)) else (if (bt t256 x11_3) = 10 then (winchlaw01_LexisStands.l1 k3 t256 t257 x8_1 ((bt t256 x11_3) != 10) ji29 ((rd_T33 t257 x8_1).f0) ((rd_T33 t257 x8_1).f1) ((rd_T33 t257 x8_1).f2)) else (if (bt t256 x11_3) = 13 then (winchlaw01_LexisStands.l1 k3 t256 t257 x8_1 ((bt t256 x11_3) != 10) ji29 ((rd_T33 t257 x8_1).f0) ((rd_T33 t257 x8_1).f1) ((rd_T33 t257 x8_1).f2)) else (if (bt t256 x11_3) = 32 then (winchlaw01_LexisStands.l1 k3 t256 t257 x8_1 ((bt t256 x11_3) != 10) ji29 ((rd_T33 t257 x8_1).f0) ((rd_T33 t257 x8_1).f1) ((rd_T33 t257 x8_1).f2)) else (some false)))))) = some r := by rw [if_pos rfl] at H; exact H
                                  clear H
                                  have H := H1
                                  clear H1
                                  by_cases c36 : (¬ (bt t256 x11_3) = 10)
                                  · rw [if_pos c36] at H
                                    have c36b0 : ((bt t256 x11_3) == 10) = false := beq_eq_false_iff_ne.mpr c36
                                    have c36b1 : ((bt t256 x11_3) != 10) = true := bne_iff_ne.mpr c36
                                    clear c36
                                    have H' := Aside0.mk H
                                    clear H
                                    have hcz37_0 : wr.cell? ⟨gb266, 0, none⟩ = some (.int .i64 ((rd_T33 t257 x8_1).f0)) := (blk_cell BK266.out 0).trans rfl
                                    have hcz37_1 : wr.cell? ⟨gb266, 1, none⟩ = some (.string ((rd_T33 t257 x8_1).f1)) := (blk_cell BK266.out 1).trans rfl
                                    have hcz37_2 : wr.cell? ⟨gb266, 2, none⟩ = some (.int .i64 ((rd_T33 t257 x8_1).f2)) := (blk_cell BK266.out 2).trans rfl
                                    have hfz37_0 := blk_frozen BK266.out 0
                                    have hfz37_1 := blk_frozen BK266.out 1
                                    have hfz37_2 := blk_frozen BK266.out 2
                                    have p26 : 0 ≤ (x11_3 : Int) := of_decide_eq_true (by first | (with_reducible assumption) | assumption)
                                    have q26 : x11_3 < (t256.size : Int) := of_decide_eq_true (by first | (with_reducible assumption) | assumption)
                                    have hx26 := bt_at t256 x11_3
                                    replace p26 := eq_true p26
                                    replace q26 := eq_true q26
                                    have p31 : 0 ≤ ((ji29) : Int) := of_decide_eq_true (by first | (with_reducible assumption) | assumption)
                                    have q31 : (ji29) < (t256.size : Int) := of_decide_eq_true (by first | (with_reducible assumption) | assumption)
                                    have hx31 := bt_at t256 (ji29)
                                    replace p31 := eq_true p31
                                    replace q31 := eq_true q31
                                    have p35 : 0 ≤ (x11_3 : Int) := of_decide_eq_true (by first | (with_reducible assumption) | assumption)
                                    have q35 : x11_3 < (t256.size : Int) := of_decide_eq_true (by first | (with_reducible assumption) | assumption)
                                    have hx35 := bt_at t256 x11_3
                                    replace p35 := eq_true p35
                                    replace q35 := eq_true q35
                                    go_wp2
                                    repeat (go_quiet (fail); try go_wp2)
                                    go_roundg k3
                                    case measure => have := HK1.out; have := HJ8.out; have := HK3.out; omega
                                    case rel => exact ⟨(((bt t256 x11_3) != 10)), (ji29), (by first | rfl | (simp; done) | (simp [*]; done) | (simp [bne]; done)), (by first | rfl | (simp; done) | (simp only [← hji29] <;> (first | rfl | simp)) | (simp [*]; done)), H', ⟨by have := HK1.out; have := HJ8.out; have := HK3.out; omega⟩, ⟨by (with_reducible repeat (first | apply Kd.R_alloc | apply Kd.R_drewN | apply Kd.R_drew)); exact HO_4.out⟩, ⟨by (with_reducible repeat (first | refine blk_drewN ?_ _ | refine blk_drew ?_ | refine blk_alloc ?_ _)); exact BK266.out⟩, ⟨by repeat (first | (with_reducible first | exact HB.out | apply below_alloc | apply pw_below_drewN | apply below_drew1 | refine below_set ?_ GE266.out) | exact HB.out)⟩⟩
                                  rw [if_neg c36] at H
                                  have c36b0 : ((bt t256 x11_3) == 10) = true := beq_iff_eq.mpr (Decidable.not_not.1 c36)
                                  have c36b1 : ((bt t256 x11_3) != 10) = false := bne_eq_false_iff_eq.mpr (Decidable.not_not.1 c36)
                                  by_cases c39 : (bt t256 x11_3) = 9
                                  · exact absurd ((Decidable.not_not.1 c36).symm.trans c39) (by decide)
                                  rw [if_neg c39] at H
                                  have c39b0 : ((bt t256 x11_3) == 9) = false := beq_eq_false_iff_ne.mpr c39
                                  have c39b1 : ((bt t256 x11_3) != 9) = true := bne_iff_ne.mpr c39
                                  by_cases c42 : (bt t256 x11_3) = 10
                                  · rw [if_pos c42] at H
                                    have c42b0 : ((bt t256 x11_3) == 10) = true := beq_iff_eq.mpr c42
                                    have c42b1 : ((bt t256 x11_3) != 10) = false := bne_eq_false_iff_eq.mpr c42
                                    clear c42
                                    have H' := Aside0.mk H
                                    clear H
                                    have hcz43_0 : wr.cell? ⟨gb266, 0, none⟩ = some (.int .i64 ((rd_T33 t257 x8_1).f0)) := (blk_cell BK266.out 0).trans rfl
                                    have hcz43_1 : wr.cell? ⟨gb266, 1, none⟩ = some (.string ((rd_T33 t257 x8_1).f1)) := (blk_cell BK266.out 1).trans rfl
                                    have hcz43_2 : wr.cell? ⟨gb266, 2, none⟩ = some (.int .i64 ((rd_T33 t257 x8_1).f2)) := (blk_cell BK266.out 2).trans rfl
                                    have hfz43_0 := blk_frozen BK266.out 0
                                    have hfz43_1 := blk_frozen BK266.out 1
                                    have hfz43_2 := blk_frozen BK266.out 2
                                    have p26 : 0 ≤ (x11_3 : Int) := of_decide_eq_true (by first | (with_reducible assumption) | assumption)
                                    have q26 : x11_3 < (t256.size : Int) := of_decide_eq_true (by first | (with_reducible assumption) | assumption)
                                    have hx26 := bt_at t256 x11_3
                                    replace p26 := eq_true p26
                                    replace q26 := eq_true q26
                                    have p31 : 0 ≤ ((ji29) : Int) := of_decide_eq_true (by first | (with_reducible assumption) | assumption)
                                    have q31 : (ji29) < (t256.size : Int) := of_decide_eq_true (by first | (with_reducible assumption) | assumption)
                                    have hx31 := bt_at t256 (ji29)
                                    replace p31 := eq_true p31
                                    replace q31 := eq_true q31
                                    have p35 : 0 ≤ (x11_3 : Int) := of_decide_eq_true (by first | (with_reducible assumption) | assumption)
                                    have q35 : x11_3 < (t256.size : Int) := of_decide_eq_true (by first | (with_reducible assumption) | assumption)
                                    have hx35 := bt_at t256 x11_3
                                    replace p35 := eq_true p35
                                    replace q35 := eq_true q35
                                    have p38 : 0 ≤ (x11_3 : Int) := of_decide_eq_true (by first | (with_reducible assumption) | assumption)
                                    have q38 : x11_3 < (t256.size : Int) := of_decide_eq_true (by first | (with_reducible assumption) | assumption)
                                    have hx38 := bt_at t256 x11_3
                                    replace p38 := eq_true p38
                                    replace q38 := eq_true q38
                                    have p41 : 0 ≤ (x11_3 : Int) := of_decide_eq_true (by first | (with_reducible assumption) | assumption)
                                    have q41 : x11_3 < (t256.size : Int) := of_decide_eq_true (by first | (with_reducible assumption) | assumption)
                                    have hx41 := bt_at t256 x11_3
                                    replace p41 := eq_true p41
                                    replace q41 := eq_true q41
                                    go_wp2
                                    repeat (go_quiet (fail); try go_wp2)
                                    go_roundg k3
                                    case measure => have := HK1.out; have := HJ8.out; have := HK3.out; omega
                                    case rel => exact ⟨(((bt t256 x11_3) != 10)), (ji29), (by first | rfl | (simp; done) | (simp [*]; done) | (simp [bne]; done)), (by first | rfl | (simp; done) | (simp only [← hji29] <;> (first | rfl | simp)) | (simp [*]; done)), H', ⟨by have := HK1.out; have := HJ8.out; have := HK3.out; omega⟩, ⟨by (with_reducible repeat (first | apply Kd.R_alloc | apply Kd.R_drewN | apply Kd.R_drew)); exact HO_4.out⟩, ⟨by (with_reducible repeat (first | refine blk_drewN ?_ _ | refine blk_drew ?_ | refine blk_alloc ?_ _)); exact BK266.out⟩, ⟨by repeat (first | (with_reducible first | exact HB.out | apply below_alloc | apply pw_below_drewN | apply below_drew1 | refine below_set ?_ GE266.out) | exact HB.out)⟩⟩
                                  exact absurd (Decidable.not_not.1 c36) c42
                                replace c34 := Bool.eq_false_iff.mpr c34
                                subst c34
                                have H1 : (if (bt t256 x11_3) = 9 then (winchlaw01_LexisStands.l1 k3 t256 t257 x8_1 false ji29 ((rd_T33 t257 x8_1).f0) ((rd_T33 t257 x8_1).f1) ((rd_T33 t257 x8_1).f2)) else (if (bt t256 x11_3) = 10 then (winchlaw01_LexisStands.l1 k3 t256 t257 x8_1 false ji29 ((rd_T33 t257 x8_1).f0) ((rd_T33 t257 x8_1).f1) ((rd_T33 t257 x8_1).f2)) else (if (bt t256 x11_3) = 13 then (winchlaw01_LexisStands.l1 k3 t256 t257 x8_1 false ji29 ((rd_T33 t257 x8_1).f0) ((rd_T33 t257 x8_1).f1) ((rd_T33 t257 x8_1).f2)) else (if (bt t256 x11_3) = 32 then (winchlaw01_LexisStands.l1 k3 t256 t257 x8_1 false ji29 ((rd_T33 t257 x8_1).f0) ((rd_T33 t257 x8_1).f1) ((rd_T33 t257 x8_1).f2)) else (some false))))) = some r := by rw [if_neg (show ¬ (false = true) by decide)] at H; exact H
                                clear H
                                have H := H1
                                clear H1
                                by_cases c52 : (bt t256 x11_3) = 9
                                · rw [if_pos c52] at H
                                  have c52b0 : ((bt t256 x11_3) == 9) = true := beq_iff_eq.mpr c52
                                  have c52b1 : ((bt t256 x11_3) != 9) = false := bne_eq_false_iff_eq.mpr c52
                                  clear c52
                                  have H' := Aside0.mk H
                                  clear H
                                  have hcz53_0 : wr.cell? ⟨gb266, 0, none⟩ = some (.int .i64 ((rd_T33 t257 x8_1).f0)) := (blk_cell BK266.out 0).trans rfl
                                  have hcz53_1 : wr.cell? ⟨gb266, 1, none⟩ = some (.string ((rd_T33 t257 x8_1).f1)) := (blk_cell BK266.out 1).trans rfl
                                  have hcz53_2 : wr.cell? ⟨gb266, 2, none⟩ = some (.int .i64 ((rd_T33 t257 x8_1).f2)) := (blk_cell BK266.out 2).trans rfl
                                  have hfz53_0 := blk_frozen BK266.out 0
                                  have hfz53_1 := blk_frozen BK266.out 1
                                  have hfz53_2 := blk_frozen BK266.out 2
                                  have p26 : 0 ≤ (x11_3 : Int) := of_decide_eq_true (by first | (with_reducible assumption) | assumption)
                                  have q26 : x11_3 < (t256.size : Int) := of_decide_eq_true (by first | (with_reducible assumption) | assumption)
                                  have hx26 := bt_at t256 x11_3
                                  replace p26 := eq_true p26
                                  replace q26 := eq_true q26
                                  have p31 : 0 ≤ ((ji29) : Int) := of_decide_eq_true (by first | (with_reducible assumption) | assumption)
                                  have q31 : (ji29) < (t256.size : Int) := of_decide_eq_true (by first | (with_reducible assumption) | assumption)
                                  have hx31 := bt_at t256 (ji29)
                                  replace p31 := eq_true p31
                                  replace q31 := eq_true q31
                                  have p51 : 0 ≤ (x11_3 : Int) := of_decide_eq_true (by first | (with_reducible assumption) | assumption)
                                  have q51 : x11_3 < (t256.size : Int) := of_decide_eq_true (by first | (with_reducible assumption) | assumption)
                                  have hx51 := bt_at t256 x11_3
                                  replace p51 := eq_true p51
                                  replace q51 := eq_true q51
                                  go_wp2
                                  repeat (go_quiet (fail); try go_wp2)
                                  go_roundg k3
                                  case measure => have := HK1.out; have := HJ8.out; have := HK3.out; omega
                                  case rel => exact ⟨(false), (ji29), (by first | rfl | (simp; done) | (simp [*]; done) | (simp [bne]; done)), (by first | rfl | (simp; done) | (simp only [← hji29] <;> (first | rfl | simp)) | (simp [*]; done)), H', ⟨by have := HK1.out; have := HJ8.out; have := HK3.out; omega⟩, ⟨by (with_reducible repeat (first | apply Kd.R_alloc | apply Kd.R_drewN | apply Kd.R_drew)); exact HO_4.out⟩, ⟨by (with_reducible repeat (first | refine blk_drewN ?_ _ | refine blk_drew ?_ | refine blk_alloc ?_ _)); exact BK266.out⟩, ⟨by repeat (first | (with_reducible first | exact HB.out | apply below_alloc | apply pw_below_drewN | apply below_drew1 | refine below_set ?_ GE266.out) | exact HB.out)⟩⟩
                                rw [if_neg c52] at H
                                have c52b0 : ((bt t256 x11_3) == 9) = false := beq_eq_false_iff_ne.mpr c52
                                have c52b1 : ((bt t256 x11_3) != 9) = true := bne_iff_ne.mpr c52
                                by_cases c55 : (bt t256 x11_3) = 10
                                · rw [if_pos c55] at H
                                  have c55b0 : ((bt t256 x11_3) == 10) = true := beq_iff_eq.mpr c55
                                  have c55b1 : ((bt t256 x11_3) != 10) = false := bne_eq_false_iff_eq.mpr c55
                                  clear c55
                                  have H' := Aside0.mk H
                                  clear H
                                  have hcz56_0 : wr.cell? ⟨gb266, 0, none⟩ = some (.int .i64 ((rd_T33 t257 x8_1).f0)) := (blk_cell BK266.out 0).trans rfl
                                  have hcz56_1 : wr.cell? ⟨gb266, 1, none⟩ = some (.string ((rd_T33 t257 x8_1).f1)) := (blk_cell BK266.out 1).trans rfl
                                  have hcz56_2 : wr.cell? ⟨gb266, 2, none⟩ = some (.int .i64 ((rd_T33 t257 x8_1).f2)) := (blk_cell BK266.out 2).trans rfl
                                  have hfz56_0 := blk_frozen BK266.out 0
                                  have hfz56_1 := blk_frozen BK266.out 1
                                  have hfz56_2 := blk_frozen BK266.out 2
                                  have p26 : 0 ≤ (x11_3 : Int) := of_decide_eq_true (by first | (with_reducible assumption) | assumption)
                                  have q26 : x11_3 < (t256.size : Int) := of_decide_eq_true (by first | (with_reducible assumption) | assumption)
                                  have hx26 := bt_at t256 x11_3
                                  replace p26 := eq_true p26
                                  replace q26 := eq_true q26
                                  have p31 : 0 ≤ ((ji29) : Int) := of_decide_eq_true (by first | (with_reducible assumption) | assumption)
                                  have q31 : (ji29) < (t256.size : Int) := of_decide_eq_true (by first | (with_reducible assumption) | assumption)
                                  have hx31 := bt_at t256 (ji29)
                                  replace p31 := eq_true p31
                                  replace q31 := eq_true q31
                                  have p51 : 0 ≤ (x11_3 : Int) := of_decide_eq_true (by first | (with_reducible assumption) | assumption)
                                  have q51 : x11_3 < (t256.size : Int) := of_decide_eq_true (by first | (with_reducible assumption) | assumption)
                                  have hx51 := bt_at t256 x11_3
                                  replace p51 := eq_true p51
                                  replace q51 := eq_true q51
                                  have p54 : 0 ≤ (x11_3 : Int) := of_decide_eq_true (by first | (with_reducible assumption) | assumption)
                                  have q54 : x11_3 < (t256.size : Int) := of_decide_eq_true (by first | (with_reducible assumption) | assumption)
                                  have hx54 := bt_at t256 x11_3
                                  replace p54 := eq_true p54
                                  replace q54 := eq_true q54
                                  go_wp2
                                  repeat (go_quiet (fail); try go_wp2)
                                  go_roundg k3
                                  case measure => have := HK1.out; have := HJ8.out; have := HK3.out; omega
                                  case rel => exact ⟨(false), (ji29), (by first | rfl | (simp; done) | (simp [*]; done) | (simp [bne]; done)), (by first | rfl | (simp; done) | (simp only [← hji29] <;> (first | rfl | simp)) | (simp [*]; done)), H', ⟨by have := HK1.out; have := HJ8.out; have := HK3.out; omega⟩, ⟨by (with_reducible repeat (first | apply Kd.R_alloc | apply Kd.R_drewN | apply Kd.R_drew)); exact HO_4.out⟩, ⟨by (with_reducible repeat (first | refine blk_drewN ?_ _ | refine blk_drew ?_ | refine blk_alloc ?_ _)); exact BK266.out⟩, ⟨by repeat (first | (with_reducible first | exact HB.out | apply below_alloc | apply pw_below_drewN | apply below_drew1 | refine below_set ?_ GE266.out) | exact HB.out)⟩⟩
                                rw [if_neg c55] at H
                                have c55b0 : ((bt t256 x11_3) == 10) = false := beq_eq_false_iff_ne.mpr c55
                                have c55b1 : ((bt t256 x11_3) != 10) = true := bne_iff_ne.mpr c55
                                by_cases c58 : (bt t256 x11_3) = 13
                                · rw [if_pos c58] at H
                                  have c58b0 : ((bt t256 x11_3) == 13) = true := beq_iff_eq.mpr c58
                                  have c58b1 : ((bt t256 x11_3) != 13) = false := bne_eq_false_iff_eq.mpr c58
                                  clear c58
                                  have H' := Aside0.mk H
                                  clear H
                                  have hcz59_0 : wr.cell? ⟨gb266, 0, none⟩ = some (.int .i64 ((rd_T33 t257 x8_1).f0)) := (blk_cell BK266.out 0).trans rfl
                                  have hcz59_1 : wr.cell? ⟨gb266, 1, none⟩ = some (.string ((rd_T33 t257 x8_1).f1)) := (blk_cell BK266.out 1).trans rfl
                                  have hcz59_2 : wr.cell? ⟨gb266, 2, none⟩ = some (.int .i64 ((rd_T33 t257 x8_1).f2)) := (blk_cell BK266.out 2).trans rfl
                                  have hfz59_0 := blk_frozen BK266.out 0
                                  have hfz59_1 := blk_frozen BK266.out 1
                                  have hfz59_2 := blk_frozen BK266.out 2
                                  have p26 : 0 ≤ (x11_3 : Int) := of_decide_eq_true (by first | (with_reducible assumption) | assumption)
                                  have q26 : x11_3 < (t256.size : Int) := of_decide_eq_true (by first | (with_reducible assumption) | assumption)
                                  have hx26 := bt_at t256 x11_3
                                  replace p26 := eq_true p26
                                  replace q26 := eq_true q26
                                  have p31 : 0 ≤ ((ji29) : Int) := of_decide_eq_true (by first | (with_reducible assumption) | assumption)
                                  have q31 : (ji29) < (t256.size : Int) := of_decide_eq_true (by first | (with_reducible assumption) | assumption)
                                  have hx31 := bt_at t256 (ji29)
                                  replace p31 := eq_true p31
                                  replace q31 := eq_true q31
                                  have p51 : 0 ≤ (x11_3 : Int) := of_decide_eq_true (by first | (with_reducible assumption) | assumption)
                                  have q51 : x11_3 < (t256.size : Int) := of_decide_eq_true (by first | (with_reducible assumption) | assumption)
                                  have hx51 := bt_at t256 x11_3
                                  replace p51 := eq_true p51
                                  replace q51 := eq_true q51
                                  have p54 : 0 ≤ (x11_3 : Int) := of_decide_eq_true (by first | (with_reducible assumption) | assumption)
                                  have q54 : x11_3 < (t256.size : Int) := of_decide_eq_true (by first | (with_reducible assumption) | assumption)
                                  have hx54 := bt_at t256 x11_3
                                  replace p54 := eq_true p54
                                  replace q54 := eq_true q54
                                  have p57 : 0 ≤ (x11_3 : Int) := of_decide_eq_true (by first | (with_reducible assumption) | assumption)
                                  have q57 : x11_3 < (t256.size : Int) := of_decide_eq_true (by first | (with_reducible assumption) | assumption)
                                  have hx57 := bt_at t256 x11_3
                                  replace p57 := eq_true p57
                                  replace q57 := eq_true q57
                                  go_wp2
                                  repeat (go_quiet (fail); try go_wp2)
                                  go_roundg k3
                                  case measure => have := HK1.out; have := HJ8.out; have := HK3.out; omega
                                  case rel => exact ⟨(false), (ji29), (by first | rfl | (simp; done) | (simp [*]; done) | (simp [bne]; done)), (by first | rfl | (simp; done) | (simp only [← hji29] <;> (first | rfl | simp)) | (simp [*]; done)), H', ⟨by have := HK1.out; have := HJ8.out; have := HK3.out; omega⟩, ⟨by (with_reducible repeat (first | apply Kd.R_alloc | apply Kd.R_drewN | apply Kd.R_drew)); exact HO_4.out⟩, ⟨by (with_reducible repeat (first | refine blk_drewN ?_ _ | refine blk_drew ?_ | refine blk_alloc ?_ _)); exact BK266.out⟩, ⟨by repeat (first | (with_reducible first | exact HB.out | apply below_alloc | apply pw_below_drewN | apply below_drew1 | refine below_set ?_ GE266.out) | exact HB.out)⟩⟩
                                rw [if_neg c58] at H
                                have c58b0 : ((bt t256 x11_3) == 13) = false := beq_eq_false_iff_ne.mpr c58
                                have c58b1 : ((bt t256 x11_3) != 13) = true := bne_iff_ne.mpr c58
                                by_cases c61 : (bt t256 x11_3) = 32
                                · rw [if_pos c61] at H
                                  have c61b0 : ((bt t256 x11_3) == 32) = true := beq_iff_eq.mpr c61
                                  have c61b1 : ((bt t256 x11_3) != 32) = false := bne_eq_false_iff_eq.mpr c61
                                  clear c61
                                  have H' := Aside0.mk H
                                  clear H
                                  have hcz62_0 : wr.cell? ⟨gb266, 0, none⟩ = some (.int .i64 ((rd_T33 t257 x8_1).f0)) := (blk_cell BK266.out 0).trans rfl
                                  have hcz62_1 : wr.cell? ⟨gb266, 1, none⟩ = some (.string ((rd_T33 t257 x8_1).f1)) := (blk_cell BK266.out 1).trans rfl
                                  have hcz62_2 : wr.cell? ⟨gb266, 2, none⟩ = some (.int .i64 ((rd_T33 t257 x8_1).f2)) := (blk_cell BK266.out 2).trans rfl
                                  have hfz62_0 := blk_frozen BK266.out 0
                                  have hfz62_1 := blk_frozen BK266.out 1
                                  have hfz62_2 := blk_frozen BK266.out 2
                                  have p26 : 0 ≤ (x11_3 : Int) := of_decide_eq_true (by first | (with_reducible assumption) | assumption)
                                  have q26 : x11_3 < (t256.size : Int) := of_decide_eq_true (by first | (with_reducible assumption) | assumption)
                                  have hx26 := bt_at t256 x11_3
                                  replace p26 := eq_true p26
                                  replace q26 := eq_true q26
                                  have p31 : 0 ≤ ((ji29) : Int) := of_decide_eq_true (by first | (with_reducible assumption) | assumption)
                                  have q31 : (ji29) < (t256.size : Int) := of_decide_eq_true (by first | (with_reducible assumption) | assumption)
                                  have hx31 := bt_at t256 (ji29)
                                  replace p31 := eq_true p31
                                  replace q31 := eq_true q31
                                  have p51 : 0 ≤ (x11_3 : Int) := of_decide_eq_true (by first | (with_reducible assumption) | assumption)
                                  have q51 : x11_3 < (t256.size : Int) := of_decide_eq_true (by first | (with_reducible assumption) | assumption)
                                  have hx51 := bt_at t256 x11_3
                                  replace p51 := eq_true p51
                                  replace q51 := eq_true q51
                                  have p54 : 0 ≤ (x11_3 : Int) := of_decide_eq_true (by first | (with_reducible assumption) | assumption)
                                  have q54 : x11_3 < (t256.size : Int) := of_decide_eq_true (by first | (with_reducible assumption) | assumption)
                                  have hx54 := bt_at t256 x11_3
                                  replace p54 := eq_true p54
                                  replace q54 := eq_true q54
                                  have p57 : 0 ≤ (x11_3 : Int) := of_decide_eq_true (by first | (with_reducible assumption) | assumption)
                                  have q57 : x11_3 < (t256.size : Int) := of_decide_eq_true (by first | (with_reducible assumption) | assumption)
                                  have hx57 := bt_at t256 x11_3
                                  replace p57 := eq_true p57
                                  replace q57 := eq_true q57
                                  have p60 : 0 ≤ (x11_3 : Int) := of_decide_eq_true (by first | (with_reducible assumption) | assumption)
                                  have q60 : x11_3 < (t256.size : Int) := of_decide_eq_true (by first | (with_reducible assumption) | assumption)
                                  have hx60 := bt_at t256 x11_3
                                  replace p60 := eq_true p60
                                  replace q60 := eq_true q60
                                  go_wp2
                                  repeat (go_quiet (fail); try go_wp2)
                                  go_roundg k3
                                  case measure => have := HK1.out; have := HJ8.out; have := HK3.out; omega
                                  case rel => exact ⟨(false), (ji29), (by first | rfl | (simp; done) | (simp [*]; done) | (simp [bne]; done)), (by first | rfl | (simp; done) | (simp only [← hji29] <;> (first | rfl | simp)) | (simp [*]; done)), H', ⟨by have := HK1.out; have := HJ8.out; have := HK3.out; omega⟩, ⟨by (with_reducible repeat (first | apply Kd.R_alloc | apply Kd.R_drewN | apply Kd.R_drew)); exact HO_4.out⟩, ⟨by (with_reducible repeat (first | refine blk_drewN ?_ _ | refine blk_drew ?_ | refine blk_alloc ?_ _)); exact BK266.out⟩, ⟨by repeat (first | (with_reducible first | exact HB.out | apply below_alloc | apply pw_below_drewN | apply below_drew1 | refine below_set ?_ GE266.out) | exact HB.out)⟩⟩
                                rw [if_neg c61] at H
                                have c61b0 : ((bt t256 x11_3) == 32) = false := beq_eq_false_iff_ne.mpr c61
                                have c61b1 : ((bt t256 x11_3) != 32) = true := bne_iff_ne.mpr c61
                                obtain rfl := Option.some.inj H
                                have hcz63_0 : wr.cell? ⟨gb266, 0, none⟩ = some (.int .i64 ((rd_T33 t257 x8_1).f0)) := (blk_cell BK266.out 0).trans rfl
                                have hcz63_1 : wr.cell? ⟨gb266, 1, none⟩ = some (.string ((rd_T33 t257 x8_1).f1)) := (blk_cell BK266.out 1).trans rfl
                                have hcz63_2 : wr.cell? ⟨gb266, 2, none⟩ = some (.int .i64 ((rd_T33 t257 x8_1).f2)) := (blk_cell BK266.out 2).trans rfl
                                have hfz63_0 := blk_frozen BK266.out 0
                                have hfz63_1 := blk_frozen BK266.out 1
                                have hfz63_2 := blk_frozen BK266.out 2
                                have p26 : 0 ≤ (x11_3 : Int) := of_decide_eq_true (by first | (with_reducible assumption) | assumption)
                                have q26 : x11_3 < (t256.size : Int) := of_decide_eq_true (by first | (with_reducible assumption) | assumption)
                                have hx26 := bt_at t256 x11_3
                                replace p26 := eq_true p26
                                replace q26 := eq_true q26
                                have p31 : 0 ≤ ((ji29) : Int) := of_decide_eq_true (by first | (with_reducible assumption) | assumption)
                                have q31 : (ji29) < (t256.size : Int) := of_decide_eq_true (by first | (with_reducible assumption) | assumption)
                                have hx31 := bt_at t256 (ji29)
                                replace p31 := eq_true p31
                                replace q31 := eq_true q31
                                have p51 : 0 ≤ (x11_3 : Int) := of_decide_eq_true (by first | (with_reducible assumption) | assumption)
                                have q51 : x11_3 < (t256.size : Int) := of_decide_eq_true (by first | (with_reducible assumption) | assumption)
                                have hx51 := bt_at t256 x11_3
                                replace p51 := eq_true p51
                                replace q51 := eq_true q51
                                have p54 : 0 ≤ (x11_3 : Int) := of_decide_eq_true (by first | (with_reducible assumption) | assumption)
                                have q54 : x11_3 < (t256.size : Int) := of_decide_eq_true (by first | (with_reducible assumption) | assumption)
                                have hx54 := bt_at t256 x11_3
                                replace p54 := eq_true p54
                                replace q54 := eq_true q54
                                have p57 : 0 ≤ (x11_3 : Int) := of_decide_eq_true (by first | (with_reducible assumption) | assumption)
                                have q57 : x11_3 < (t256.size : Int) := of_decide_eq_true (by first | (with_reducible assumption) | assumption)
                                have hx57 := bt_at t256 x11_3
                                replace p57 := eq_true p57
                                replace q57 := eq_true q57
                                have p60 : 0 ≤ (x11_3 : Int) := of_decide_eq_true (by first | (with_reducible assumption) | assumption)
                                have q60 : x11_3 < (t256.size : Int) := of_decide_eq_true (by first | (with_reducible assumption) | assumption)
                                have hx60 := bt_at t256 x11_3
                                replace p60 := eq_true p60
                                replace q60 := eq_true q60
                                go_wp2
                                repeat (go_quiet (fail); try go_wp2)
                                go_ret
                                exact ⟨by first | rfl | (simp [errW_none, errW_some] <;> rfl) | (simp only [← hji29]; first | rfl | (simp [errW_none, errW_some] <;> rfl)) | (simp [*, errW_none, errW_some] <;> rfl), by repeat (first | (with_reducible first | exact HB.out | apply below_alloc | apply pw_below_drewN | apply below_drew1 | refine below_set ?_ GE266.out) | exact HB.out)⟩
                              rw [if_neg c30] at H
                              exact absurd H (by simp)
                            rw [if_neg c28] at H
                            have c28b0 : decide ((wrap64 (x11_3 + 1)) < (t256.size : Int)) = false := decide_eq_false c28
                            clear c28
                            by_cases c64 : x10_3 = true
                            · subst c64
                              have H1 : (if (¬ (bt t256 x11_3) = 10) then (winchlaw01_LexisStands.l1 k3 t256 t257 x8_1 ((bt t256 x11_3) != 10) (wrap64 (x11_3 + 1)) ((rd_T33 t257 x8_1).f0) ((rd_T33 t257 x8_1).f1) ((rd_T33 t257 x8_1).f2)) else (if (bt t256 x11_3) = 9 then (winchlaw01_LexisStands.l1 k3 t256 t257 x8_1 ((bt t256 x11_3) != 10) (wrap64 (x11_3 + 1)) ((rd_T33 t257 x8_1).f0) ((rd_T33 t257 x8_1).f1) ((rd_T33 t257 x8_1).f2)) else (if (bt t256 x11_3) = 10 then (winchlaw01_LexisStands.l1 k3 t256 t257 x8_1 ((bt t256 x11_3) != 10) (wrap64 (x11_3 + 1)) ((rd_T33 t257 x8_1).f0) ((rd_T33 t257 x8_1).f1) ((rd_T33 t257 x8_1).f2)) else (if (bt t256 x11_3) = 13 then (winchlaw01_LexisStands.l1 k3 t256 t257 x8_1 ((bt t256 x11_3) != 10) (wrap64 (x11_3 + 1)) ((rd_T33 t257 x8_1).f0) ((rd_T33 t257 x8_1).f1) ((rd_T33 t257 x8_1).f2)) else (if (bt t256 x11_3) = 32 then (winchlaw01_LexisStands.l1 k3 t256 t257 x8_1 ((bt t256 x11_3) != 10) (wrap64 (x11_3 + 1)) ((rd_T33 t257 x8_1).f0) ((rd_T33 t257 x8_1).f1) ((rd_T33 t257 x8_1).f2)) else (some false)))))) = some r := by rw [if_pos rfl] at H; exact H
                              clear H
                              have H := H1
                              clear H1
                              by_cases c66 : (¬ (bt t256 x11_3) = 10)
                              · rw [if_pos c66] at H
                                have c66b0 : ((bt t256 x11_3) == 10) = false := beq_eq_false_iff_ne.mpr c66
                                have c66b1 : ((bt t256 x11_3) != 10) = true := bne_iff_ne.mpr c66
                                clear c66
                                have H' := Aside0.mk H
                                clear H
                                have hcz67_0 : wr.cell? ⟨gb266, 0, none⟩ = some (.int .i64 ((rd_T33 t257 x8_1).f0)) := (blk_cell BK266.out 0).trans rfl
                                have hcz67_1 : wr.cell? ⟨gb266, 1, none⟩ = some (.string ((rd_T33 t257 x8_1).f1)) := (blk_cell BK266.out 1).trans rfl
                                have hcz67_2 : wr.cell? ⟨gb266, 2, none⟩ = some (.int .i64 ((rd_T33 t257 x8_1).f2)) := (blk_cell BK266.out 2).trans rfl
                                have hfz67_0 := blk_frozen BK266.out 0
                                have hfz67_1 := blk_frozen BK266.out 1
                                have hfz67_2 := blk_frozen BK266.out 2
                                have p26 : 0 ≤ (x11_3 : Int) := of_decide_eq_true (by first | (with_reducible assumption) | assumption)
                                have q26 : x11_3 < (t256.size : Int) := of_decide_eq_true (by first | (with_reducible assumption) | assumption)
                                have hx26 := bt_at t256 x11_3
                                replace p26 := eq_true p26
                                replace q26 := eq_true q26
                                have p65 : 0 ≤ (x11_3 : Int) := of_decide_eq_true (by first | (with_reducible assumption) | assumption)
                                have q65 : x11_3 < (t256.size : Int) := of_decide_eq_true (by first | (with_reducible assumption) | assumption)
                                have hx65 := bt_at t256 x11_3
                                replace p65 := eq_true p65
                                replace q65 := eq_true q65
                                go_wp2
                                repeat (go_quiet (fail); try go_wp2)
                                go_roundg k3
                                case measure => have := HK1.out; have := HJ8.out; have := HK3.out; omega
                                case rel => exact ⟨(((bt t256 x11_3) != 10)), (wrap64 (x11_3 + 1)), (by first | rfl | (simp; done) | (simp [*]; done) | (simp [bne]; done)), (by first | rfl | (simp; done) | (simp [*]; done) | (simp [bne]; done)), H', ⟨by have := HK1.out; have := HJ8.out; have := HK3.out; omega⟩, ⟨by (with_reducible repeat (first | apply Kd.R_alloc | apply Kd.R_drewN | apply Kd.R_drew)); exact HO_4.out⟩, ⟨by (with_reducible repeat (first | refine blk_drewN ?_ _ | refine blk_drew ?_ | refine blk_alloc ?_ _)); exact BK266.out⟩, ⟨by repeat (first | (with_reducible first | exact HB.out | apply below_alloc | apply pw_below_drewN | apply below_drew1 | refine below_set ?_ GE266.out) | exact HB.out)⟩⟩
                              rw [if_neg c66] at H
                              have c66b0 : ((bt t256 x11_3) == 10) = true := beq_iff_eq.mpr (Decidable.not_not.1 c66)
                              have c66b1 : ((bt t256 x11_3) != 10) = false := bne_eq_false_iff_eq.mpr (Decidable.not_not.1 c66)
                              by_cases c69 : (bt t256 x11_3) = 9
                              · exact absurd ((Decidable.not_not.1 c66).symm.trans c69) (by decide)
                              rw [if_neg c69] at H
                              have c69b0 : ((bt t256 x11_3) == 9) = false := beq_eq_false_iff_ne.mpr c69
                              have c69b1 : ((bt t256 x11_3) != 9) = true := bne_iff_ne.mpr c69
                              by_cases c72 : (bt t256 x11_3) = 10
                              · rw [if_pos c72] at H
                                have c72b0 : ((bt t256 x11_3) == 10) = true := beq_iff_eq.mpr c72
                                have c72b1 : ((bt t256 x11_3) != 10) = false := bne_eq_false_iff_eq.mpr c72
                                clear c72
                                have H' := Aside0.mk H
                                clear H
                                have hcz73_0 : wr.cell? ⟨gb266, 0, none⟩ = some (.int .i64 ((rd_T33 t257 x8_1).f0)) := (blk_cell BK266.out 0).trans rfl
                                have hcz73_1 : wr.cell? ⟨gb266, 1, none⟩ = some (.string ((rd_T33 t257 x8_1).f1)) := (blk_cell BK266.out 1).trans rfl
                                have hcz73_2 : wr.cell? ⟨gb266, 2, none⟩ = some (.int .i64 ((rd_T33 t257 x8_1).f2)) := (blk_cell BK266.out 2).trans rfl
                                have hfz73_0 := blk_frozen BK266.out 0
                                have hfz73_1 := blk_frozen BK266.out 1
                                have hfz73_2 := blk_frozen BK266.out 2
                                have p26 : 0 ≤ (x11_3 : Int) := of_decide_eq_true (by first | (with_reducible assumption) | assumption)
                                have q26 : x11_3 < (t256.size : Int) := of_decide_eq_true (by first | (with_reducible assumption) | assumption)
                                have hx26 := bt_at t256 x11_3
                                replace p26 := eq_true p26
                                replace q26 := eq_true q26
                                have p65 : 0 ≤ (x11_3 : Int) := of_decide_eq_true (by first | (with_reducible assumption) | assumption)
                                have q65 : x11_3 < (t256.size : Int) := of_decide_eq_true (by first | (with_reducible assumption) | assumption)
                                have hx65 := bt_at t256 x11_3
                                replace p65 := eq_true p65
                                replace q65 := eq_true q65
                                have p68 : 0 ≤ (x11_3 : Int) := of_decide_eq_true (by first | (with_reducible assumption) | assumption)
                                have q68 : x11_3 < (t256.size : Int) := of_decide_eq_true (by first | (with_reducible assumption) | assumption)
                                have hx68 := bt_at t256 x11_3
                                replace p68 := eq_true p68
                                replace q68 := eq_true q68
                                have p71 : 0 ≤ (x11_3 : Int) := of_decide_eq_true (by first | (with_reducible assumption) | assumption)
                                have q71 : x11_3 < (t256.size : Int) := of_decide_eq_true (by first | (with_reducible assumption) | assumption)
                                have hx71 := bt_at t256 x11_3
                                replace p71 := eq_true p71
                                replace q71 := eq_true q71
                                go_wp2
                                repeat (go_quiet (fail); try go_wp2)
                                go_roundg k3
                                case measure => have := HK1.out; have := HJ8.out; have := HK3.out; omega
                                case rel => exact ⟨(((bt t256 x11_3) != 10)), (wrap64 (x11_3 + 1)), (by first | rfl | (simp; done) | (simp [*]; done) | (simp [bne]; done)), (by first | rfl | (simp; done) | (simp [*]; done) | (simp [bne]; done)), H', ⟨by have := HK1.out; have := HJ8.out; have := HK3.out; omega⟩, ⟨by (with_reducible repeat (first | apply Kd.R_alloc | apply Kd.R_drewN | apply Kd.R_drew)); exact HO_4.out⟩, ⟨by (with_reducible repeat (first | refine blk_drewN ?_ _ | refine blk_drew ?_ | refine blk_alloc ?_ _)); exact BK266.out⟩, ⟨by repeat (first | (with_reducible first | exact HB.out | apply below_alloc | apply pw_below_drewN | apply below_drew1 | refine below_set ?_ GE266.out) | exact HB.out)⟩⟩
                              exact absurd (Decidable.not_not.1 c66) c72
                            replace c64 := Bool.eq_false_iff.mpr c64
                            subst c64
                            have H1 : (if (bt t256 x11_3) = 9 then (winchlaw01_LexisStands.l1 k3 t256 t257 x8_1 false (wrap64 (x11_3 + 1)) ((rd_T33 t257 x8_1).f0) ((rd_T33 t257 x8_1).f1) ((rd_T33 t257 x8_1).f2)) else (if (bt t256 x11_3) = 10 then (winchlaw01_LexisStands.l1 k3 t256 t257 x8_1 false (wrap64 (x11_3 + 1)) ((rd_T33 t257 x8_1).f0) ((rd_T33 t257 x8_1).f1) ((rd_T33 t257 x8_1).f2)) else (if (bt t256 x11_3) = 13 then (winchlaw01_LexisStands.l1 k3 t256 t257 x8_1 false (wrap64 (x11_3 + 1)) ((rd_T33 t257 x8_1).f0) ((rd_T33 t257 x8_1).f1) ((rd_T33 t257 x8_1).f2)) else (if (bt t256 x11_3) = 32 then (winchlaw01_LexisStands.l1 k3 t256 t257 x8_1 false (wrap64 (x11_3 + 1)) ((rd_T33 t257 x8_1).f0) ((rd_T33 t257 x8_1).f1) ((rd_T33 t257 x8_1).f2)) else (some false))))) = some r := by rw [if_neg (show ¬ (false = true) by decide)] at H; exact H
                            clear H
                            have H := H1
                            clear H1
                            by_cases c82 : (bt t256 x11_3) = 9
                            · rw [if_pos c82] at H
                              have c82b0 : ((bt t256 x11_3) == 9) = true := beq_iff_eq.mpr c82
                              have c82b1 : ((bt t256 x11_3) != 9) = false := bne_eq_false_iff_eq.mpr c82
                              clear c82
                              have H' := Aside0.mk H
                              clear H
                              have hcz83_0 : wr.cell? ⟨gb266, 0, none⟩ = some (.int .i64 ((rd_T33 t257 x8_1).f0)) := (blk_cell BK266.out 0).trans rfl
                              have hcz83_1 : wr.cell? ⟨gb266, 1, none⟩ = some (.string ((rd_T33 t257 x8_1).f1)) := (blk_cell BK266.out 1).trans rfl
                              have hcz83_2 : wr.cell? ⟨gb266, 2, none⟩ = some (.int .i64 ((rd_T33 t257 x8_1).f2)) := (blk_cell BK266.out 2).trans rfl
                              have hfz83_0 := blk_frozen BK266.out 0
                              have hfz83_1 := blk_frozen BK266.out 1
                              have hfz83_2 := blk_frozen BK266.out 2
                              have p26 : 0 ≤ (x11_3 : Int) := of_decide_eq_true (by first | (with_reducible assumption) | assumption)
                              have q26 : x11_3 < (t256.size : Int) := of_decide_eq_true (by first | (with_reducible assumption) | assumption)
                              have hx26 := bt_at t256 x11_3
                              replace p26 := eq_true p26
                              replace q26 := eq_true q26
                              have p81 : 0 ≤ (x11_3 : Int) := of_decide_eq_true (by first | (with_reducible assumption) | assumption)
                              have q81 : x11_3 < (t256.size : Int) := of_decide_eq_true (by first | (with_reducible assumption) | assumption)
                              have hx81 := bt_at t256 x11_3
                              replace p81 := eq_true p81
                              replace q81 := eq_true q81
                              go_wp2
                              repeat (go_quiet (fail); try go_wp2)
                              go_roundg k3
                              case measure => have := HK1.out; have := HJ8.out; have := HK3.out; omega
                              case rel => exact ⟨(false), (wrap64 (x11_3 + 1)), (by first | rfl | (simp; done) | (simp [*]; done) | (simp [bne]; done)), (by first | rfl | (simp; done) | (simp [*]; done) | (simp [bne]; done)), H', ⟨by have := HK1.out; have := HJ8.out; have := HK3.out; omega⟩, ⟨by (with_reducible repeat (first | apply Kd.R_alloc | apply Kd.R_drewN | apply Kd.R_drew)); exact HO_4.out⟩, ⟨by (with_reducible repeat (first | refine blk_drewN ?_ _ | refine blk_drew ?_ | refine blk_alloc ?_ _)); exact BK266.out⟩, ⟨by repeat (first | (with_reducible first | exact HB.out | apply below_alloc | apply pw_below_drewN | apply below_drew1 | refine below_set ?_ GE266.out) | exact HB.out)⟩⟩
                            rw [if_neg c82] at H
                            have c82b0 : ((bt t256 x11_3) == 9) = false := beq_eq_false_iff_ne.mpr c82
                            have c82b1 : ((bt t256 x11_3) != 9) = true := bne_iff_ne.mpr c82
                            by_cases c85 : (bt t256 x11_3) = 10
                            · rw [if_pos c85] at H
                              have c85b0 : ((bt t256 x11_3) == 10) = true := beq_iff_eq.mpr c85
                              have c85b1 : ((bt t256 x11_3) != 10) = false := bne_eq_false_iff_eq.mpr c85
                              clear c85
                              have H' := Aside0.mk H
                              clear H
                              have hcz86_0 : wr.cell? ⟨gb266, 0, none⟩ = some (.int .i64 ((rd_T33 t257 x8_1).f0)) := (blk_cell BK266.out 0).trans rfl
                              have hcz86_1 : wr.cell? ⟨gb266, 1, none⟩ = some (.string ((rd_T33 t257 x8_1).f1)) := (blk_cell BK266.out 1).trans rfl
                              have hcz86_2 : wr.cell? ⟨gb266, 2, none⟩ = some (.int .i64 ((rd_T33 t257 x8_1).f2)) := (blk_cell BK266.out 2).trans rfl
                              have hfz86_0 := blk_frozen BK266.out 0
                              have hfz86_1 := blk_frozen BK266.out 1
                              have hfz86_2 := blk_frozen BK266.out 2
                              have p26 : 0 ≤ (x11_3 : Int) := of_decide_eq_true (by first | (with_reducible assumption) | assumption)
                              have q26 : x11_3 < (t256.size : Int) := of_decide_eq_true (by first | (with_reducible assumption) | assumption)
                              have hx26 := bt_at t256 x11_3
                              replace p26 := eq_true p26
                              replace q26 := eq_true q26
                              have p81 : 0 ≤ (x11_3 : Int) := of_decide_eq_true (by first | (with_reducible assumption) | assumption)
                              have q81 : x11_3 < (t256.size : Int) := of_decide_eq_true (by first | (with_reducible assumption) | assumption)
                              have hx81 := bt_at t256 x11_3
                              replace p81 := eq_true p81
                              replace q81 := eq_true q81
                              have p84 : 0 ≤ (x11_3 : Int) := of_decide_eq_true (by first | (with_reducible assumption) | assumption)
                              have q84 : x11_3 < (t256.size : Int) := of_decide_eq_true (by first | (with_reducible assumption) | assumption)
                              have hx84 := bt_at t256 x11_3
                              replace p84 := eq_true p84
                              replace q84 := eq_true q84
                              go_wp2
                              repeat (go_quiet (fail); try go_wp2)
                              go_roundg k3
                              case measure => have := HK1.out; have := HJ8.out; have := HK3.out; omega
                              case rel => exact ⟨(false), (wrap64 (x11_3 + 1)), (by first | rfl | (simp; done) | (simp [*]; done) | (simp [bne]; done)), (by first | rfl | (simp; done) | (simp [*]; done) | (simp [bne]; done)), H', ⟨by have := HK1.out; have := HJ8.out; have := HK3.out; omega⟩, ⟨by (with_reducible repeat (first | apply Kd.R_alloc | apply Kd.R_drewN | apply Kd.R_drew)); exact HO_4.out⟩, ⟨by (with_reducible repeat (first | refine blk_drewN ?_ _ | refine blk_drew ?_ | refine blk_alloc ?_ _)); exact BK266.out⟩, ⟨by repeat (first | (with_reducible first | exact HB.out | apply below_alloc | apply pw_below_drewN | apply below_drew1 | refine below_set ?_ GE266.out) | exact HB.out)⟩⟩
                            rw [if_neg c85] at H
                            have c85b0 : ((bt t256 x11_3) == 10) = false := beq_eq_false_iff_ne.mpr c85
                            have c85b1 : ((bt t256 x11_3) != 10) = true := bne_iff_ne.mpr c85
                            by_cases c88 : (bt t256 x11_3) = 13
                            · rw [if_pos c88] at H
                              have c88b0 : ((bt t256 x11_3) == 13) = true := beq_iff_eq.mpr c88
                              have c88b1 : ((bt t256 x11_3) != 13) = false := bne_eq_false_iff_eq.mpr c88
                              clear c88
                              have H' := Aside0.mk H
                              clear H
                              have hcz89_0 : wr.cell? ⟨gb266, 0, none⟩ = some (.int .i64 ((rd_T33 t257 x8_1).f0)) := (blk_cell BK266.out 0).trans rfl
                              have hcz89_1 : wr.cell? ⟨gb266, 1, none⟩ = some (.string ((rd_T33 t257 x8_1).f1)) := (blk_cell BK266.out 1).trans rfl
                              have hcz89_2 : wr.cell? ⟨gb266, 2, none⟩ = some (.int .i64 ((rd_T33 t257 x8_1).f2)) := (blk_cell BK266.out 2).trans rfl
                              have hfz89_0 := blk_frozen BK266.out 0
                              have hfz89_1 := blk_frozen BK266.out 1
                              have hfz89_2 := blk_frozen BK266.out 2
                              have p26 : 0 ≤ (x11_3 : Int) := of_decide_eq_true (by first | (with_reducible assumption) | assumption)
                              have q26 : x11_3 < (t256.size : Int) := of_decide_eq_true (by first | (with_reducible assumption) | assumption)
                              have hx26 := bt_at t256 x11_3
                              replace p26 := eq_true p26
                              replace q26 := eq_true q26
                              have p81 : 0 ≤ (x11_3 : Int) := of_decide_eq_true (by first | (with_reducible assumption) | assumption)
                              have q81 : x11_3 < (t256.size : Int) := of_decide_eq_true (by first | (with_reducible assumption) | assumption)
                              have hx81 := bt_at t256 x11_3
                              replace p81 := eq_true p81
                              replace q81 := eq_true q81
                              have p84 : 0 ≤ (x11_3 : Int) := of_decide_eq_true (by first | (with_reducible assumption) | assumption)
                              have q84 : x11_3 < (t256.size : Int) := of_decide_eq_true (by first | (with_reducible assumption) | assumption)
                              have hx84 := bt_at t256 x11_3
                              replace p84 := eq_true p84
                              replace q84 := eq_true q84
                              have p87 : 0 ≤ (x11_3 : Int) := of_decide_eq_true (by first | (with_reducible assumption) | assumption)
                              have q87 : x11_3 < (t256.size : Int) := of_decide_eq_true (by first | (with_reducible assumption) | assumption)
                              have hx87 := bt_at t256 x11_3
                              replace p87 := eq_true p87
                              replace q87 := eq_true q87
                              go_wp2
                              repeat (go_quiet (fail); try go_wp2)
                              go_roundg k3
                              case measure => have := HK1.out; have := HJ8.out; have := HK3.out; omega
                              case rel => exact ⟨(false), (wrap64 (x11_3 + 1)), (by first | rfl | (simp; done) | (simp [*]; done) | (simp [bne]; done)), (by first | rfl | (simp; done) | (simp [*]; done) | (simp [bne]; done)), H', ⟨by have := HK1.out; have := HJ8.out; have := HK3.out; omega⟩, ⟨by (with_reducible repeat (first | apply Kd.R_alloc | apply Kd.R_drewN | apply Kd.R_drew)); exact HO_4.out⟩, ⟨by (with_reducible repeat (first | refine blk_drewN ?_ _ | refine blk_drew ?_ | refine blk_alloc ?_ _)); exact BK266.out⟩, ⟨by repeat (first | (with_reducible first | exact HB.out | apply below_alloc | apply pw_below_drewN | apply below_drew1 | refine below_set ?_ GE266.out) | exact HB.out)⟩⟩
                            rw [if_neg c88] at H
                            have c88b0 : ((bt t256 x11_3) == 13) = false := beq_eq_false_iff_ne.mpr c88
                            have c88b1 : ((bt t256 x11_3) != 13) = true := bne_iff_ne.mpr c88
                            by_cases c91 : (bt t256 x11_3) = 32
                            · rw [if_pos c91] at H
                              have c91b0 : ((bt t256 x11_3) == 32) = true := beq_iff_eq.mpr c91
                              have c91b1 : ((bt t256 x11_3) != 32) = false := bne_eq_false_iff_eq.mpr c91
                              clear c91
                              have H' := Aside0.mk H
                              clear H
                              have hcz92_0 : wr.cell? ⟨gb266, 0, none⟩ = some (.int .i64 ((rd_T33 t257 x8_1).f0)) := (blk_cell BK266.out 0).trans rfl
                              have hcz92_1 : wr.cell? ⟨gb266, 1, none⟩ = some (.string ((rd_T33 t257 x8_1).f1)) := (blk_cell BK266.out 1).trans rfl
                              have hcz92_2 : wr.cell? ⟨gb266, 2, none⟩ = some (.int .i64 ((rd_T33 t257 x8_1).f2)) := (blk_cell BK266.out 2).trans rfl
                              have hfz92_0 := blk_frozen BK266.out 0
                              have hfz92_1 := blk_frozen BK266.out 1
                              have hfz92_2 := blk_frozen BK266.out 2
                              have p26 : 0 ≤ (x11_3 : Int) := of_decide_eq_true (by first | (with_reducible assumption) | assumption)
                              have q26 : x11_3 < (t256.size : Int) := of_decide_eq_true (by first | (with_reducible assumption) | assumption)
                              have hx26 := bt_at t256 x11_3
                              replace p26 := eq_true p26
                              replace q26 := eq_true q26
                              have p81 : 0 ≤ (x11_3 : Int) := of_decide_eq_true (by first | (with_reducible assumption) | assumption)
                              have q81 : x11_3 < (t256.size : Int) := of_decide_eq_true (by first | (with_reducible assumption) | assumption)
                              have hx81 := bt_at t256 x11_3
                              replace p81 := eq_true p81
                              replace q81 := eq_true q81
                              have p84 : 0 ≤ (x11_3 : Int) := of_decide_eq_true (by first | (with_reducible assumption) | assumption)
                              have q84 : x11_3 < (t256.size : Int) := of_decide_eq_true (by first | (with_reducible assumption) | assumption)
                              have hx84 := bt_at t256 x11_3
                              replace p84 := eq_true p84
                              replace q84 := eq_true q84
                              have p87 : 0 ≤ (x11_3 : Int) := of_decide_eq_true (by first | (with_reducible assumption) | assumption)
                              have q87 : x11_3 < (t256.size : Int) := of_decide_eq_true (by first | (with_reducible assumption) | assumption)
                              have hx87 := bt_at t256 x11_3
                              replace p87 := eq_true p87
                              replace q87 := eq_true q87
                              have p90 : 0 ≤ (x11_3 : Int) := of_decide_eq_true (by first | (with_reducible assumption) | assumption)
                              have q90 : x11_3 < (t256.size : Int) := of_decide_eq_true (by first | (with_reducible assumption) | assumption)
                              have hx90 := bt_at t256 x11_3
                              replace p90 := eq_true p90
                              replace q90 := eq_true q90
                              go_wp2
                              repeat (go_quiet (fail); try go_wp2)
                              go_roundg k3
                              case measure => have := HK1.out; have := HJ8.out; have := HK3.out; omega
                              case rel => exact ⟨(false), (wrap64 (x11_3 + 1)), (by first | rfl | (simp; done) | (simp [*]; done) | (simp [bne]; done)), (by first | rfl | (simp; done) | (simp [*]; done) | (simp [bne]; done)), H', ⟨by have := HK1.out; have := HJ8.out; have := HK3.out; omega⟩, ⟨by (with_reducible repeat (first | apply Kd.R_alloc | apply Kd.R_drewN | apply Kd.R_drew)); exact HO_4.out⟩, ⟨by (with_reducible repeat (first | refine blk_drewN ?_ _ | refine blk_drew ?_ | refine blk_alloc ?_ _)); exact BK266.out⟩, ⟨by repeat (first | (with_reducible first | exact HB.out | apply below_alloc | apply pw_below_drewN | apply below_drew1 | refine below_set ?_ GE266.out) | exact HB.out)⟩⟩
                            rw [if_neg c91] at H
                            have c91b0 : ((bt t256 x11_3) == 32) = false := beq_eq_false_iff_ne.mpr c91
                            have c91b1 : ((bt t256 x11_3) != 32) = true := bne_iff_ne.mpr c91
                            obtain rfl := Option.some.inj H
                            have hcz93_0 : wr.cell? ⟨gb266, 0, none⟩ = some (.int .i64 ((rd_T33 t257 x8_1).f0)) := (blk_cell BK266.out 0).trans rfl
                            have hcz93_1 : wr.cell? ⟨gb266, 1, none⟩ = some (.string ((rd_T33 t257 x8_1).f1)) := (blk_cell BK266.out 1).trans rfl
                            have hcz93_2 : wr.cell? ⟨gb266, 2, none⟩ = some (.int .i64 ((rd_T33 t257 x8_1).f2)) := (blk_cell BK266.out 2).trans rfl
                            have hfz93_0 := blk_frozen BK266.out 0
                            have hfz93_1 := blk_frozen BK266.out 1
                            have hfz93_2 := blk_frozen BK266.out 2
                            have p26 : 0 ≤ (x11_3 : Int) := of_decide_eq_true (by first | (with_reducible assumption) | assumption)
                            have q26 : x11_3 < (t256.size : Int) := of_decide_eq_true (by first | (with_reducible assumption) | assumption)
                            have hx26 := bt_at t256 x11_3
                            replace p26 := eq_true p26
                            replace q26 := eq_true q26
                            have p81 : 0 ≤ (x11_3 : Int) := of_decide_eq_true (by first | (with_reducible assumption) | assumption)
                            have q81 : x11_3 < (t256.size : Int) := of_decide_eq_true (by first | (with_reducible assumption) | assumption)
                            have hx81 := bt_at t256 x11_3
                            replace p81 := eq_true p81
                            replace q81 := eq_true q81
                            have p84 : 0 ≤ (x11_3 : Int) := of_decide_eq_true (by first | (with_reducible assumption) | assumption)
                            have q84 : x11_3 < (t256.size : Int) := of_decide_eq_true (by first | (with_reducible assumption) | assumption)
                            have hx84 := bt_at t256 x11_3
                            replace p84 := eq_true p84
                            replace q84 := eq_true q84
                            have p87 : 0 ≤ (x11_3 : Int) := of_decide_eq_true (by first | (with_reducible assumption) | assumption)
                            have q87 : x11_3 < (t256.size : Int) := of_decide_eq_true (by first | (with_reducible assumption) | assumption)
                            have hx87 := bt_at t256 x11_3
                            replace p87 := eq_true p87
                            replace q87 := eq_true q87
                            have p90 : 0 ≤ (x11_3 : Int) := of_decide_eq_true (by first | (with_reducible assumption) | assumption)
                            have q90 : x11_3 < (t256.size : Int) := of_decide_eq_true (by first | (with_reducible assumption) | assumption)
                            have hx90 := bt_at t256 x11_3
                            replace p90 := eq_true p90
                            replace q90 := eq_true q90
                            go_wp2
                            repeat (go_quiet (fail); try go_wp2)
                            go_ret
                            exact ⟨by first | rfl | (simp [errW_none, errW_some] <;> rfl) | (simp [*, errW_none, errW_some] <;> rfl), by repeat (first | (with_reducible first | exact HB.out | apply below_alloc | apply pw_below_drewN | apply below_drew1 | refine below_set ?_ GE266.out) | exact HB.out)⟩
                          rw [if_neg c27] at H
                          have c27b0 : ((bt t256 x11_3) == 47) = false := beq_eq_false_iff_ne.mpr c27
                          have c27b1 : ((bt t256 x11_3) != 47) = true := bne_iff_ne.mpr c27
                          by_cases c94 : x10_3 = true
                          · subst c94
                            have H1 : (if (¬ (bt t256 x11_3) = 10) then (winchlaw01_LexisStands.l1 k3 t256 t257 x8_1 ((bt t256 x11_3) != 10) (wrap64 (x11_3 + 1)) ((rd_T33 t257 x8_1).f0) ((rd_T33 t257 x8_1).f1) ((rd_T33 t257 x8_1).f2)) else (if (bt t256 x11_3) = 9 then (winchlaw01_LexisStands.l1 k3 t256 t257 x8_1 ((bt t256 x11_3) != 10) (wrap64 (x11_3 + 1)) ((rd_T33 t257 x8_1).f0) ((rd_T33 t257 x8_1).f1) ((rd_T33 t257 x8_1).f2)) else (if (bt t256 x11_3) = 10 then (winchlaw01_LexisStands.l1 k3 t256 t257 x8_1 ((bt t256 x11_3) != 10) (wrap64 (x11_3 + 1)) ((rd_T33 t257 x8_1).f0) ((rd_T33 t257 x8_1).f1) ((rd_T33 t257 x8_1).f2)) else (if (bt t256 x11_3) = 13 then (winchlaw01_LexisStands.l1 k3 t256 t257 x8_1 ((bt t256 x11_3) != 10) (wrap64 (x11_3 + 1)) ((rd_T33 t257 x8_1).f0) ((rd_T33 t257 x8_1).f1) ((rd_T33 t257 x8_1).f2)) else (if (bt t256 x11_3) = 32 then (winchlaw01_LexisStands.l1 k3 t256 t257 x8_1 ((bt t256 x11_3) != 10) (wrap64 (x11_3 + 1)) ((rd_T33 t257 x8_1).f0) ((rd_T33 t257 x8_1).f1) ((rd_T33 t257 x8_1).f2)) else (some false)))))) = some r := by rw [if_pos rfl] at H; exact H
                            clear H
                            have H := H1
                            clear H1
                            by_cases c96 : (¬ (bt t256 x11_3) = 10)
                            · rw [if_pos c96] at H
                              have c96b0 : ((bt t256 x11_3) == 10) = false := beq_eq_false_iff_ne.mpr c96
                              have c96b1 : ((bt t256 x11_3) != 10) = true := bne_iff_ne.mpr c96
                              clear c96
                              have H' := Aside0.mk H
                              clear H
                              have hcz97_0 : wr.cell? ⟨gb266, 0, none⟩ = some (.int .i64 ((rd_T33 t257 x8_1).f0)) := (blk_cell BK266.out 0).trans rfl
                              have hcz97_1 : wr.cell? ⟨gb266, 1, none⟩ = some (.string ((rd_T33 t257 x8_1).f1)) := (blk_cell BK266.out 1).trans rfl
                              have hcz97_2 : wr.cell? ⟨gb266, 2, none⟩ = some (.int .i64 ((rd_T33 t257 x8_1).f2)) := (blk_cell BK266.out 2).trans rfl
                              have hfz97_0 := blk_frozen BK266.out 0
                              have hfz97_1 := blk_frozen BK266.out 1
                              have hfz97_2 := blk_frozen BK266.out 2
                              have p26 : 0 ≤ (x11_3 : Int) := of_decide_eq_true (by first | (with_reducible assumption) | assumption)
                              have q26 : x11_3 < (t256.size : Int) := of_decide_eq_true (by first | (with_reducible assumption) | assumption)
                              have hx26 := bt_at t256 x11_3
                              replace p26 := eq_true p26
                              replace q26 := eq_true q26
                              have p95 : 0 ≤ (x11_3 : Int) := of_decide_eq_true (by first | (with_reducible assumption) | assumption)
                              have q95 : x11_3 < (t256.size : Int) := of_decide_eq_true (by first | (with_reducible assumption) | assumption)
                              have hx95 := bt_at t256 x11_3
                              replace p95 := eq_true p95
                              replace q95 := eq_true q95
                              go_wp2
                              repeat (go_quiet (fail); try go_wp2)
                              go_roundg k3
                              case measure => have := HK1.out; have := HJ8.out; have := HK3.out; omega
                              case rel => exact ⟨(((bt t256 x11_3) != 10)), (wrap64 (x11_3 + 1)), (by first | rfl | (simp; done) | (simp [*]; done) | (simp [bne]; done)), (by first | rfl | (simp; done) | (simp [*]; done) | (simp [bne]; done)), H', ⟨by have := HK1.out; have := HJ8.out; have := HK3.out; omega⟩, ⟨by (with_reducible repeat (first | apply Kd.R_alloc | apply Kd.R_drewN | apply Kd.R_drew)); exact HO_4.out⟩, ⟨by (with_reducible repeat (first | refine blk_drewN ?_ _ | refine blk_drew ?_ | refine blk_alloc ?_ _)); exact BK266.out⟩, ⟨by repeat (first | (with_reducible first | exact HB.out | apply below_alloc | apply pw_below_drewN | apply below_drew1 | refine below_set ?_ GE266.out) | exact HB.out)⟩⟩
                            rw [if_neg c96] at H
                            have c96b0 : ((bt t256 x11_3) == 10) = true := beq_iff_eq.mpr (Decidable.not_not.1 c96)
                            have c96b1 : ((bt t256 x11_3) != 10) = false := bne_eq_false_iff_eq.mpr (Decidable.not_not.1 c96)
                            by_cases c99 : (bt t256 x11_3) = 9
                            · exact absurd ((Decidable.not_not.1 c96).symm.trans c99) (by decide)
                            rw [if_neg c99] at H
                            have c99b0 : ((bt t256 x11_3) == 9) = false := beq_eq_false_iff_ne.mpr c99
                            have c99b1 : ((bt t256 x11_3) != 9) = true := bne_iff_ne.mpr c99
                            by_cases c102 : (bt t256 x11_3) = 10
                            · rw [if_pos c102] at H
                              have c102b0 : ((bt t256 x11_3) == 10) = true := beq_iff_eq.mpr c102
                              have c102b1 : ((bt t256 x11_3) != 10) = false := bne_eq_false_iff_eq.mpr c102
                              clear c102
                              have H' := Aside0.mk H
                              clear H
                              have hcz103_0 : wr.cell? ⟨gb266, 0, none⟩ = some (.int .i64 ((rd_T33 t257 x8_1).f0)) := (blk_cell BK266.out 0).trans rfl
                              have hcz103_1 : wr.cell? ⟨gb266, 1, none⟩ = some (.string ((rd_T33 t257 x8_1).f1)) := (blk_cell BK266.out 1).trans rfl
                              have hcz103_2 : wr.cell? ⟨gb266, 2, none⟩ = some (.int .i64 ((rd_T33 t257 x8_1).f2)) := (blk_cell BK266.out 2).trans rfl
                              have hfz103_0 := blk_frozen BK266.out 0
                              have hfz103_1 := blk_frozen BK266.out 1
                              have hfz103_2 := blk_frozen BK266.out 2
                              have p26 : 0 ≤ (x11_3 : Int) := of_decide_eq_true (by first | (with_reducible assumption) | assumption)
                              have q26 : x11_3 < (t256.size : Int) := of_decide_eq_true (by first | (with_reducible assumption) | assumption)
                              have hx26 := bt_at t256 x11_3
                              replace p26 := eq_true p26
                              replace q26 := eq_true q26
                              have p95 : 0 ≤ (x11_3 : Int) := of_decide_eq_true (by first | (with_reducible assumption) | assumption)
                              have q95 : x11_3 < (t256.size : Int) := of_decide_eq_true (by first | (with_reducible assumption) | assumption)
                              have hx95 := bt_at t256 x11_3
                              replace p95 := eq_true p95
                              replace q95 := eq_true q95
                              have p98 : 0 ≤ (x11_3 : Int) := of_decide_eq_true (by first | (with_reducible assumption) | assumption)
                              have q98 : x11_3 < (t256.size : Int) := of_decide_eq_true (by first | (with_reducible assumption) | assumption)
                              have hx98 := bt_at t256 x11_3
                              replace p98 := eq_true p98
                              replace q98 := eq_true q98
                              have p101 : 0 ≤ (x11_3 : Int) := of_decide_eq_true (by first | (with_reducible assumption) | assumption)
                              have q101 : x11_3 < (t256.size : Int) := of_decide_eq_true (by first | (with_reducible assumption) | assumption)
                              have hx101 := bt_at t256 x11_3
                              replace p101 := eq_true p101
                              replace q101 := eq_true q101
                              go_wp2
                              repeat (go_quiet (fail); try go_wp2)
                              go_roundg k3
                              case measure => have := HK1.out; have := HJ8.out; have := HK3.out; omega
                              case rel => exact ⟨(((bt t256 x11_3) != 10)), (wrap64 (x11_3 + 1)), (by first | rfl | (simp; done) | (simp [*]; done) | (simp [bne]; done)), (by first | rfl | (simp; done) | (simp [*]; done) | (simp [bne]; done)), H', ⟨by have := HK1.out; have := HJ8.out; have := HK3.out; omega⟩, ⟨by (with_reducible repeat (first | apply Kd.R_alloc | apply Kd.R_drewN | apply Kd.R_drew)); exact HO_4.out⟩, ⟨by (with_reducible repeat (first | refine blk_drewN ?_ _ | refine blk_drew ?_ | refine blk_alloc ?_ _)); exact BK266.out⟩, ⟨by repeat (first | (with_reducible first | exact HB.out | apply below_alloc | apply pw_below_drewN | apply below_drew1 | refine below_set ?_ GE266.out) | exact HB.out)⟩⟩
                            exact absurd (Decidable.not_not.1 c96) c102
                          replace c94 := Bool.eq_false_iff.mpr c94
                          subst c94
                          have H1 : (if (bt t256 x11_3) = 9 then (winchlaw01_LexisStands.l1 k3 t256 t257 x8_1 false (wrap64 (x11_3 + 1)) ((rd_T33 t257 x8_1).f0) ((rd_T33 t257 x8_1).f1) ((rd_T33 t257 x8_1).f2)) else (if (bt t256 x11_3) = 10 then (winchlaw01_LexisStands.l1 k3 t256 t257 x8_1 false (wrap64 (x11_3 + 1)) ((rd_T33 t257 x8_1).f0) ((rd_T33 t257 x8_1).f1) ((rd_T33 t257 x8_1).f2)) else (if (bt t256 x11_3) = 13 then (winchlaw01_LexisStands.l1 k3 t256 t257 x8_1 false (wrap64 (x11_3 + 1)) ((rd_T33 t257 x8_1).f0) ((rd_T33 t257 x8_1).f1) ((rd_T33 t257 x8_1).f2)) else (if (bt t256 x11_3) = 32 then (winchlaw01_LexisStands.l1 k3 t256 t257 x8_1 false (wrap64 (x11_3 + 1)) ((rd_T33 t257 x8_1).f0) ((rd_T33 t257 x8_1).f1) ((rd_T33 t257 x8_1).f2)) else (some false))))) = some r := by rw [if_neg (show ¬ (false = true) by decide)] at H; exact H
                          clear H
                          have H := H1
                          clear H1
                          by_cases c112 : (bt t256 x11_3) = 9
                          · rw [if_pos c112] at H
                            have c112b0 : ((bt t256 x11_3) == 9) = true := beq_iff_eq.mpr c112
                            have c112b1 : ((bt t256 x11_3) != 9) = false := bne_eq_false_iff_eq.mpr c112
                            clear c112
                            have H' := Aside0.mk H
                            clear H
                            have hcz113_0 : wr.cell? ⟨gb266, 0, none⟩ = some (.int .i64 ((rd_T33 t257 x8_1).f0)) := (blk_cell BK266.out 0).trans rfl
                            have hcz113_1 : wr.cell? ⟨gb266, 1, none⟩ = some (.string ((rd_T33 t257 x8_1).f1)) := (blk_cell BK266.out 1).trans rfl
                            have hcz113_2 : wr.cell? ⟨gb266, 2, none⟩ = some (.int .i64 ((rd_T33 t257 x8_1).f2)) := (blk_cell BK266.out 2).trans rfl
                            have hfz113_0 := blk_frozen BK266.out 0
                            have hfz113_1 := blk_frozen BK266.out 1
                            have hfz113_2 := blk_frozen BK266.out 2
                            have p26 : 0 ≤ (x11_3 : Int) := of_decide_eq_true (by first | (with_reducible assumption) | assumption)
                            have q26 : x11_3 < (t256.size : Int) := of_decide_eq_true (by first | (with_reducible assumption) | assumption)
                            have hx26 := bt_at t256 x11_3
                            replace p26 := eq_true p26
                            replace q26 := eq_true q26
                            have p111 : 0 ≤ (x11_3 : Int) := of_decide_eq_true (by first | (with_reducible assumption) | assumption)
                            have q111 : x11_3 < (t256.size : Int) := of_decide_eq_true (by first | (with_reducible assumption) | assumption)
                            have hx111 := bt_at t256 x11_3
                            replace p111 := eq_true p111
                            replace q111 := eq_true q111
                            go_wp2
                            repeat (go_quiet (fail); try go_wp2)
                            go_roundg k3
                            case measure => have := HK1.out; have := HJ8.out; have := HK3.out; omega
                            case rel => exact ⟨(false), (wrap64 (x11_3 + 1)), (by first | rfl | (simp; done) | (simp [*]; done) | (simp [bne]; done)), (by first | rfl | (simp; done) | (simp [*]; done) | (simp [bne]; done)), H', ⟨by have := HK1.out; have := HJ8.out; have := HK3.out; omega⟩, ⟨by (with_reducible repeat (first | apply Kd.R_alloc | apply Kd.R_drewN | apply Kd.R_drew)); exact HO_4.out⟩, ⟨by (with_reducible repeat (first | refine blk_drewN ?_ _ | refine blk_drew ?_ | refine blk_alloc ?_ _)); exact BK266.out⟩, ⟨by repeat (first | (with_reducible first | exact HB.out | apply below_alloc | apply pw_below_drewN | apply below_drew1 | refine below_set ?_ GE266.out) | exact HB.out)⟩⟩
                          rw [if_neg c112] at H
                          have c112b0 : ((bt t256 x11_3) == 9) = false := beq_eq_false_iff_ne.mpr c112
                          have c112b1 : ((bt t256 x11_3) != 9) = true := bne_iff_ne.mpr c112
                          by_cases c115 : (bt t256 x11_3) = 10
                          · rw [if_pos c115] at H
                            have c115b0 : ((bt t256 x11_3) == 10) = true := beq_iff_eq.mpr c115
                            have c115b1 : ((bt t256 x11_3) != 10) = false := bne_eq_false_iff_eq.mpr c115
                            clear c115
                            have H' := Aside0.mk H
                            clear H
                            have hcz116_0 : wr.cell? ⟨gb266, 0, none⟩ = some (.int .i64 ((rd_T33 t257 x8_1).f0)) := (blk_cell BK266.out 0).trans rfl
                            have hcz116_1 : wr.cell? ⟨gb266, 1, none⟩ = some (.string ((rd_T33 t257 x8_1).f1)) := (blk_cell BK266.out 1).trans rfl
                            have hcz116_2 : wr.cell? ⟨gb266, 2, none⟩ = some (.int .i64 ((rd_T33 t257 x8_1).f2)) := (blk_cell BK266.out 2).trans rfl
                            have hfz116_0 := blk_frozen BK266.out 0
                            have hfz116_1 := blk_frozen BK266.out 1
                            have hfz116_2 := blk_frozen BK266.out 2
                            have p26 : 0 ≤ (x11_3 : Int) := of_decide_eq_true (by first | (with_reducible assumption) | assumption)
                            have q26 : x11_3 < (t256.size : Int) := of_decide_eq_true (by first | (with_reducible assumption) | assumption)
                            have hx26 := bt_at t256 x11_3
                            replace p26 := eq_true p26
                            replace q26 := eq_true q26
                            have p111 : 0 ≤ (x11_3 : Int) := of_decide_eq_true (by first | (with_reducible assumption) | assumption)
                            have q111 : x11_3 < (t256.size : Int) := of_decide_eq_true (by first | (with_reducible assumption) | assumption)
                            have hx111 := bt_at t256 x11_3
                            replace p111 := eq_true p111
                            replace q111 := eq_true q111
                            have p114 : 0 ≤ (x11_3 : Int) := of_decide_eq_true (by first | (with_reducible assumption) | assumption)
                            have q114 : x11_3 < (t256.size : Int) := of_decide_eq_true (by first | (with_reducible assumption) | assumption)
                            have hx114 := bt_at t256 x11_3
                            replace p114 := eq_true p114
                            replace q114 := eq_true q114
                            go_wp2
                            repeat (go_quiet (fail); try go_wp2)
                            go_roundg k3
                            case measure => have := HK1.out; have := HJ8.out; have := HK3.out; omega
                            case rel => exact ⟨(false), (wrap64 (x11_3 + 1)), (by first | rfl | (simp; done) | (simp [*]; done) | (simp [bne]; done)), (by first | rfl | (simp; done) | (simp [*]; done) | (simp [bne]; done)), H', ⟨by have := HK1.out; have := HJ8.out; have := HK3.out; omega⟩, ⟨by (with_reducible repeat (first | apply Kd.R_alloc | apply Kd.R_drewN | apply Kd.R_drew)); exact HO_4.out⟩, ⟨by (with_reducible repeat (first | refine blk_drewN ?_ _ | refine blk_drew ?_ | refine blk_alloc ?_ _)); exact BK266.out⟩, ⟨by repeat (first | (with_reducible first | exact HB.out | apply below_alloc | apply pw_below_drewN | apply below_drew1 | refine below_set ?_ GE266.out) | exact HB.out)⟩⟩
                          rw [if_neg c115] at H
                          have c115b0 : ((bt t256 x11_3) == 10) = false := beq_eq_false_iff_ne.mpr c115
                          have c115b1 : ((bt t256 x11_3) != 10) = true := bne_iff_ne.mpr c115
                          by_cases c118 : (bt t256 x11_3) = 13
                          · rw [if_pos c118] at H
                            have c118b0 : ((bt t256 x11_3) == 13) = true := beq_iff_eq.mpr c118
                            have c118b1 : ((bt t256 x11_3) != 13) = false := bne_eq_false_iff_eq.mpr c118
                            clear c118
                            have H' := Aside0.mk H
                            clear H
                            have hcz119_0 : wr.cell? ⟨gb266, 0, none⟩ = some (.int .i64 ((rd_T33 t257 x8_1).f0)) := (blk_cell BK266.out 0).trans rfl
                            have hcz119_1 : wr.cell? ⟨gb266, 1, none⟩ = some (.string ((rd_T33 t257 x8_1).f1)) := (blk_cell BK266.out 1).trans rfl
                            have hcz119_2 : wr.cell? ⟨gb266, 2, none⟩ = some (.int .i64 ((rd_T33 t257 x8_1).f2)) := (blk_cell BK266.out 2).trans rfl
                            have hfz119_0 := blk_frozen BK266.out 0
                            have hfz119_1 := blk_frozen BK266.out 1
                            have hfz119_2 := blk_frozen BK266.out 2
                            have p26 : 0 ≤ (x11_3 : Int) := of_decide_eq_true (by first | (with_reducible assumption) | assumption)
                            have q26 : x11_3 < (t256.size : Int) := of_decide_eq_true (by first | (with_reducible assumption) | assumption)
                            have hx26 := bt_at t256 x11_3
                            replace p26 := eq_true p26
                            replace q26 := eq_true q26
                            have p111 : 0 ≤ (x11_3 : Int) := of_decide_eq_true (by first | (with_reducible assumption) | assumption)
                            have q111 : x11_3 < (t256.size : Int) := of_decide_eq_true (by first | (with_reducible assumption) | assumption)
                            have hx111 := bt_at t256 x11_3
                            replace p111 := eq_true p111
                            replace q111 := eq_true q111
                            have p114 : 0 ≤ (x11_3 : Int) := of_decide_eq_true (by first | (with_reducible assumption) | assumption)
                            have q114 : x11_3 < (t256.size : Int) := of_decide_eq_true (by first | (with_reducible assumption) | assumption)
                            have hx114 := bt_at t256 x11_3
                            replace p114 := eq_true p114
                            replace q114 := eq_true q114
                            have p117 : 0 ≤ (x11_3 : Int) := of_decide_eq_true (by first | (with_reducible assumption) | assumption)
                            have q117 : x11_3 < (t256.size : Int) := of_decide_eq_true (by first | (with_reducible assumption) | assumption)
                            have hx117 := bt_at t256 x11_3
                            replace p117 := eq_true p117
                            replace q117 := eq_true q117
                            go_wp2
                            repeat (go_quiet (fail); try go_wp2)
                            go_roundg k3
                            case measure => have := HK1.out; have := HJ8.out; have := HK3.out; omega
                            case rel => exact ⟨(false), (wrap64 (x11_3 + 1)), (by first | rfl | (simp; done) | (simp [*]; done) | (simp [bne]; done)), (by first | rfl | (simp; done) | (simp [*]; done) | (simp [bne]; done)), H', ⟨by have := HK1.out; have := HJ8.out; have := HK3.out; omega⟩, ⟨by (with_reducible repeat (first | apply Kd.R_alloc | apply Kd.R_drewN | apply Kd.R_drew)); exact HO_4.out⟩, ⟨by (with_reducible repeat (first | refine blk_drewN ?_ _ | refine blk_drew ?_ | refine blk_alloc ?_ _)); exact BK266.out⟩, ⟨by repeat (first | (with_reducible first | exact HB.out | apply below_alloc | apply pw_below_drewN | apply below_drew1 | refine below_set ?_ GE266.out) | exact HB.out)⟩⟩
                          rw [if_neg c118] at H
                          have c118b0 : ((bt t256 x11_3) == 13) = false := beq_eq_false_iff_ne.mpr c118
                          have c118b1 : ((bt t256 x11_3) != 13) = true := bne_iff_ne.mpr c118
                          by_cases c121 : (bt t256 x11_3) = 32
                          · rw [if_pos c121] at H
                            have c121b0 : ((bt t256 x11_3) == 32) = true := beq_iff_eq.mpr c121
                            have c121b1 : ((bt t256 x11_3) != 32) = false := bne_eq_false_iff_eq.mpr c121
                            clear c121
                            have H' := Aside0.mk H
                            clear H
                            have hcz122_0 : wr.cell? ⟨gb266, 0, none⟩ = some (.int .i64 ((rd_T33 t257 x8_1).f0)) := (blk_cell BK266.out 0).trans rfl
                            have hcz122_1 : wr.cell? ⟨gb266, 1, none⟩ = some (.string ((rd_T33 t257 x8_1).f1)) := (blk_cell BK266.out 1).trans rfl
                            have hcz122_2 : wr.cell? ⟨gb266, 2, none⟩ = some (.int .i64 ((rd_T33 t257 x8_1).f2)) := (blk_cell BK266.out 2).trans rfl
                            have hfz122_0 := blk_frozen BK266.out 0
                            have hfz122_1 := blk_frozen BK266.out 1
                            have hfz122_2 := blk_frozen BK266.out 2
                            have p26 : 0 ≤ (x11_3 : Int) := of_decide_eq_true (by first | (with_reducible assumption) | assumption)
                            have q26 : x11_3 < (t256.size : Int) := of_decide_eq_true (by first | (with_reducible assumption) | assumption)
                            have hx26 := bt_at t256 x11_3
                            replace p26 := eq_true p26
                            replace q26 := eq_true q26
                            have p111 : 0 ≤ (x11_3 : Int) := of_decide_eq_true (by first | (with_reducible assumption) | assumption)
                            have q111 : x11_3 < (t256.size : Int) := of_decide_eq_true (by first | (with_reducible assumption) | assumption)
                            have hx111 := bt_at t256 x11_3
                            replace p111 := eq_true p111
                            replace q111 := eq_true q111
                            have p114 : 0 ≤ (x11_3 : Int) := of_decide_eq_true (by first | (with_reducible assumption) | assumption)
                            have q114 : x11_3 < (t256.size : Int) := of_decide_eq_true (by first | (with_reducible assumption) | assumption)
                            have hx114 := bt_at t256 x11_3
                            replace p114 := eq_true p114
                            replace q114 := eq_true q114
                            have p117 : 0 ≤ (x11_3 : Int) := of_decide_eq_true (by first | (with_reducible assumption) | assumption)
                            have q117 : x11_3 < (t256.size : Int) := of_decide_eq_true (by first | (with_reducible assumption) | assumption)
                            have hx117 := bt_at t256 x11_3
                            replace p117 := eq_true p117
                            replace q117 := eq_true q117
                            have p120 : 0 ≤ (x11_3 : Int) := of_decide_eq_true (by first | (with_reducible assumption) | assumption)
                            have q120 : x11_3 < (t256.size : Int) := of_decide_eq_true (by first | (with_reducible assumption) | assumption)
                            have hx120 := bt_at t256 x11_3
                            replace p120 := eq_true p120
                            replace q120 := eq_true q120
                            go_wp2
                            repeat (go_quiet (fail); try go_wp2)
                            go_roundg k3
                            case measure => have := HK1.out; have := HJ8.out; have := HK3.out; omega
                            case rel => exact ⟨(false), (wrap64 (x11_3 + 1)), (by first | rfl | (simp; done) | (simp [*]; done) | (simp [bne]; done)), (by first | rfl | (simp; done) | (simp [*]; done) | (simp [bne]; done)), H', ⟨by have := HK1.out; have := HJ8.out; have := HK3.out; omega⟩, ⟨by (with_reducible repeat (first | apply Kd.R_alloc | apply Kd.R_drewN | apply Kd.R_drew)); exact HO_4.out⟩, ⟨by (with_reducible repeat (first | refine blk_drewN ?_ _ | refine blk_drew ?_ | refine blk_alloc ?_ _)); exact BK266.out⟩, ⟨by repeat (first | (with_reducible first | exact HB.out | apply below_alloc | apply pw_below_drewN | apply below_drew1 | refine below_set ?_ GE266.out) | exact HB.out)⟩⟩
                          rw [if_neg c121] at H
                          have c121b0 : ((bt t256 x11_3) == 32) = false := beq_eq_false_iff_ne.mpr c121
                          have c121b1 : ((bt t256 x11_3) != 32) = true := bne_iff_ne.mpr c121
                          obtain rfl := Option.some.inj H
                          have hcz123_0 : wr.cell? ⟨gb266, 0, none⟩ = some (.int .i64 ((rd_T33 t257 x8_1).f0)) := (blk_cell BK266.out 0).trans rfl
                          have hcz123_1 : wr.cell? ⟨gb266, 1, none⟩ = some (.string ((rd_T33 t257 x8_1).f1)) := (blk_cell BK266.out 1).trans rfl
                          have hcz123_2 : wr.cell? ⟨gb266, 2, none⟩ = some (.int .i64 ((rd_T33 t257 x8_1).f2)) := (blk_cell BK266.out 2).trans rfl
                          have hfz123_0 := blk_frozen BK266.out 0
                          have hfz123_1 := blk_frozen BK266.out 1
                          have hfz123_2 := blk_frozen BK266.out 2
                          have p26 : 0 ≤ (x11_3 : Int) := of_decide_eq_true (by first | (with_reducible assumption) | assumption)
                          have q26 : x11_3 < (t256.size : Int) := of_decide_eq_true (by first | (with_reducible assumption) | assumption)
                          have hx26 := bt_at t256 x11_3
                          replace p26 := eq_true p26
                          replace q26 := eq_true q26
                          have p111 : 0 ≤ (x11_3 : Int) := of_decide_eq_true (by first | (with_reducible assumption) | assumption)
                          have q111 : x11_3 < (t256.size : Int) := of_decide_eq_true (by first | (with_reducible assumption) | assumption)
                          have hx111 := bt_at t256 x11_3
                          replace p111 := eq_true p111
                          replace q111 := eq_true q111
                          have p114 : 0 ≤ (x11_3 : Int) := of_decide_eq_true (by first | (with_reducible assumption) | assumption)
                          have q114 : x11_3 < (t256.size : Int) := of_decide_eq_true (by first | (with_reducible assumption) | assumption)
                          have hx114 := bt_at t256 x11_3
                          replace p114 := eq_true p114
                          replace q114 := eq_true q114
                          have p117 : 0 ≤ (x11_3 : Int) := of_decide_eq_true (by first | (with_reducible assumption) | assumption)
                          have q117 : x11_3 < (t256.size : Int) := of_decide_eq_true (by first | (with_reducible assumption) | assumption)
                          have hx117 := bt_at t256 x11_3
                          replace p117 := eq_true p117
                          replace q117 := eq_true q117
                          have p120 : 0 ≤ (x11_3 : Int) := of_decide_eq_true (by first | (with_reducible assumption) | assumption)
                          have q120 : x11_3 < (t256.size : Int) := of_decide_eq_true (by first | (with_reducible assumption) | assumption)
                          have hx120 := bt_at t256 x11_3
                          replace p120 := eq_true p120
                          replace q120 := eq_true q120
                          go_wp2
                          repeat (go_quiet (fail); try go_wp2)
                          go_ret
                          exact ⟨by first | rfl | (simp [errW_none, errW_some] <;> rfl) | (simp [*, errW_none, errW_some] <;> rfl), by repeat (first | (with_reducible first | exact HB.out | apply below_alloc | apply pw_below_drewN | apply below_drew1 | refine below_set ?_ GE266.out) | exact HB.out)⟩
                        rw [if_neg c25] at H
                        exact absurd H (by simp)
                      rw [if_neg c24] at H
                      exact absurd H (by simp)
                    rw [if_neg c23] at H
                    have c23b0 : decide (x11_3 < ((rd_T33 t257 x8_1).f2)) = false := decide_eq_false c23
                    clear c23
                    by_cases c124 : x10_3 = true
                    · subst c124
                      have H1 : (if x8_1 < (wrap64 ((t257.length : Int) - 1)) then (some false) else (if (wrap64 (((rd_T33 t257 x8_1).f2) + (((rd_T33 t257 x8_1).f1).size : Int))) > (t256.size : Int) then (some false) else (if 0 ≤ ((rd_T33 t257 x8_1).f2) then (if ((rd_T33 t257 x8_1).f2) ≤ (wrap64 (((rd_T33 t257 x8_1).f2) + (((rd_T33 t257 x8_1).f1).size : Int))) then (if (wrap64 (((rd_T33 t257 x8_1).f2) + (((rd_T33 t257 x8_1).f1).size : Int))) ≤ (t256.size : Int) then (if (t256.extract (((rd_T33 t257 x8_1).f2) : Int).toNat ((wrap64 (((rd_T33 t257 x8_1).f2) + (((rd_T33 t257 x8_1).f1).size : Int))) : Int).toNat).toList = ((rd_T33 t257 x8_1).f1).toList then (winchlaw01_LexisStands.l0 k3 t256 t257 (wrap64 (((rd_T33 t257 x8_1).f2) + (((rd_T33 t257 x8_1).f1).size : Int))) (wrap64 (x8_1 + 1))) else (some false)) else (none)) else (none)) else (none)))) = some r := by rw [if_pos rfl] at H; exact H
                      clear H
                      have H := H1
                      clear H1
                      by_cases c125 : x8_1 < (wrap64 ((t257.length : Int) - 1))
                      · rw [if_pos c125] at H
                        have c125b0 : decide (x8_1 < (wrap64 ((t257.length : Int) - 1))) = true := decide_eq_true c125
                        clear c125
                        obtain rfl := Option.some.inj H
                        have hcz126_0 : wr.cell? ⟨gb266, 0, none⟩ = some (.int .i64 ((rd_T33 t257 x8_1).f0)) := (blk_cell BK266.out 0).trans rfl
                        have hcz126_1 : wr.cell? ⟨gb266, 1, none⟩ = some (.string ((rd_T33 t257 x8_1).f1)) := (blk_cell BK266.out 1).trans rfl
                        have hcz126_2 : wr.cell? ⟨gb266, 2, none⟩ = some (.int .i64 ((rd_T33 t257 x8_1).f2)) := (blk_cell BK266.out 2).trans rfl
                        have hfz126_0 := blk_frozen BK266.out 0
                        have hfz126_1 := blk_frozen BK266.out 1
                        have hfz126_2 := blk_frozen BK266.out 2
                        go_wp2
                        repeat (go_quiet (fail); try go_wp2)
                        go_ret
                        exact ⟨by first | rfl | (simp [errW_none, errW_some] <;> rfl) | (simp [*, errW_none, errW_some] <;> rfl), by repeat (first | (with_reducible first | exact HB.out | apply below_alloc | apply pw_below_drewN | apply below_drew1 | refine below_set ?_ GE266.out) | exact HB.out)⟩
                      rw [if_neg c125] at H
                      have c125b0 : decide (x8_1 < (wrap64 ((t257.length : Int) - 1))) = false := decide_eq_false c125
                      clear c125
                      by_cases c127 : (wrap64 (((rd_T33 t257 x8_1).f2) + (((rd_T33 t257 x8_1).f1).size : Int))) > (t256.size : Int)
                      · rw [if_pos c127] at H
                        have c127b0 : decide ((t256.size : Int) < (wrap64 (((rd_T33 t257 x8_1).f2) + (((rd_T33 t257 x8_1).f1).size : Int)))) = true := decide_eq_true c127
                        clear c127
                        obtain rfl := Option.some.inj H
                        have hcz128_0 : wr.cell? ⟨gb266, 0, none⟩ = some (.int .i64 ((rd_T33 t257 x8_1).f0)) := (blk_cell BK266.out 0).trans rfl
                        have hcz128_1 : wr.cell? ⟨gb266, 1, none⟩ = some (.string ((rd_T33 t257 x8_1).f1)) := (blk_cell BK266.out 1).trans rfl
                        have hcz128_2 : wr.cell? ⟨gb266, 2, none⟩ = some (.int .i64 ((rd_T33 t257 x8_1).f2)) := (blk_cell BK266.out 2).trans rfl
                        have hfz128_0 := blk_frozen BK266.out 0
                        have hfz128_1 := blk_frozen BK266.out 1
                        have hfz128_2 := blk_frozen BK266.out 2
                        go_wp2
                        repeat (go_quiet (fail); try go_wp2)
                        go_ret
                        exact ⟨by first | rfl | (simp [errW_none, errW_some] <;> rfl) | (simp [*, errW_none, errW_some] <;> rfl), by repeat (first | (with_reducible first | exact HB.out | apply below_alloc | apply pw_below_drewN | apply below_drew1 | refine below_set ?_ GE266.out) | exact HB.out)⟩
                      rw [if_neg c127] at H
                      have c127b0 : decide ((t256.size : Int) < (wrap64 (((rd_T33 t257 x8_1).f2) + (((rd_T33 t257 x8_1).f1).size : Int)))) = false := decide_eq_false c127
                      clear c127
                      by_cases c129 : 0 ≤ ((rd_T33 t257 x8_1).f2)
                      · rw [if_pos c129] at H
                        have c129b0 := eq_true c129
                        have c129b1 : decide (0 ≤ ((rd_T33 t257 x8_1).f2)) = true := decide_eq_true c129
                        clear c129
                        by_cases c130 : ((rd_T33 t257 x8_1).f2) ≤ (wrap64 (((rd_T33 t257 x8_1).f2) + (((rd_T33 t257 x8_1).f1).size : Int)))
                        · rw [if_pos c130] at H
                          have c130b0 := eq_true c130
                          have c130b1 : decide (((rd_T33 t257 x8_1).f2) ≤ (wrap64 (((rd_T33 t257 x8_1).f2) + (((rd_T33 t257 x8_1).f1).size : Int)))) = true := decide_eq_true c130
                          by_cases c131 : (wrap64 (((rd_T33 t257 x8_1).f2) + (((rd_T33 t257 x8_1).f1).size : Int))) ≤ (t256.size : Int)
                          · rw [if_pos c131] at H
                            have c131b0 := eq_true c131
                            have c131b1 : decide ((wrap64 (((rd_T33 t257 x8_1).f2) + (((rd_T33 t257 x8_1).f1).size : Int))) ≤ (t256.size : Int)) = true := decide_eq_true c131
                            by_cases c132 : (t256.extract (((rd_T33 t257 x8_1).f2) : Int).toNat ((wrap64 (((rd_T33 t257 x8_1).f2) + (((rd_T33 t257 x8_1).f1).size : Int))) : Int).toNat).toList = ((rd_T33 t257 x8_1).f1).toList
                            · rw [if_pos c132] at H
                              have c132b0 : ((t256.extract (((rd_T33 t257 x8_1).f2) : Int).toNat ((wrap64 (((rd_T33 t257 x8_1).f2) + (((rd_T33 t257 x8_1).f1).size : Int))) : Int).toNat).toList == ((rd_T33 t257 x8_1).f1).toList) = true := beq_iff_eq.mpr c132
                              have c132b1 : ((t256.extract (((rd_T33 t257 x8_1).f2) : Int).toNat ((wrap64 (((rd_T33 t257 x8_1).f2) + (((rd_T33 t257 x8_1).f1).size : Int))) : Int).toNat).toList != ((rd_T33 t257 x8_1).f1).toList) = false := bne_eq_false_iff_eq.mpr c132
                              clear c132
                              have H' := Aside0.mk H
                              clear H
                              have hcz133_0 : wr.cell? ⟨gb266, 0, none⟩ = some (.int .i64 ((rd_T33 t257 x8_1).f0)) := (blk_cell BK266.out 0).trans rfl
                              have hcz133_1 : wr.cell? ⟨gb266, 1, none⟩ = some (.string ((rd_T33 t257 x8_1).f1)) := (blk_cell BK266.out 1).trans rfl
                              have hcz133_2 : wr.cell? ⟨gb266, 2, none⟩ = some (.int .i64 ((rd_T33 t257 x8_1).f2)) := (blk_cell BK266.out 2).trans rfl
                              have hfz133_0 := blk_frozen BK266.out 0
                              have hfz133_1 := blk_frozen BK266.out 1
                              have hfz133_2 := blk_frozen BK266.out 2
                              go_wp2
                              repeat (go_quiet (fail); try go_wp2)
                              go_roundg k3
                              case measure => have := HK1.out; have := HJ8.out; have := HK3.out; omega
                              case rel => exact ⟨(wrap64 (((rd_T33 t257 x8_1).f2) + (((rd_T33 t257 x8_1).f1).size : Int))), (wrap64 (x8_1 + 1)), (by first | rfl | (simp; done) | (simp [*]; done) | (simp [bne]; done)), (by first | rfl | (simp; done) | (simp [*]; done) | (simp [bne]; done)), H', ⟨by have := HK1.out; have := HJ8.out; have := HK3.out; omega⟩, ⟨by (with_reducible repeat (first | apply Kd.R_alloc | apply Kd.R_drewN | apply Kd.R_drew)); exact Kd.R_mono HO_4.out (fun _ hk => trivial)⟩, ⟨by repeat (first | (with_reducible first | exact HB.out | apply below_alloc | apply pw_below_drewN | apply below_drew1 | refine below_set ?_ GE266.out) | exact HB.out)⟩⟩
                            rw [if_neg c132] at H
                            have c132b0 : ((t256.extract (((rd_T33 t257 x8_1).f2) : Int).toNat ((wrap64 (((rd_T33 t257 x8_1).f2) + (((rd_T33 t257 x8_1).f1).size : Int))) : Int).toNat).toList == ((rd_T33 t257 x8_1).f1).toList) = false := beq_eq_false_iff_ne.mpr c132
                            have c132b1 : ((t256.extract (((rd_T33 t257 x8_1).f2) : Int).toNat ((wrap64 (((rd_T33 t257 x8_1).f2) + (((rd_T33 t257 x8_1).f1).size : Int))) : Int).toNat).toList != ((rd_T33 t257 x8_1).f1).toList) = true := bne_iff_ne.mpr c132
                            obtain rfl := Option.some.inj H
                            have hcz134_0 : wr.cell? ⟨gb266, 0, none⟩ = some (.int .i64 ((rd_T33 t257 x8_1).f0)) := (blk_cell BK266.out 0).trans rfl
                            have hcz134_1 : wr.cell? ⟨gb266, 1, none⟩ = some (.string ((rd_T33 t257 x8_1).f1)) := (blk_cell BK266.out 1).trans rfl
                            have hcz134_2 : wr.cell? ⟨gb266, 2, none⟩ = some (.int .i64 ((rd_T33 t257 x8_1).f2)) := (blk_cell BK266.out 2).trans rfl
                            have hfz134_0 := blk_frozen BK266.out 0
                            have hfz134_1 := blk_frozen BK266.out 1
                            have hfz134_2 := blk_frozen BK266.out 2
                            go_wp2
                            repeat (go_quiet (fail); try go_wp2)
                            go_ret
                            exact ⟨by first | rfl | (simp [errW_none, errW_some] <;> rfl) | (simp [*, errW_none, errW_some] <;> rfl), by repeat (first | (with_reducible first | exact HB.out | apply below_alloc | apply pw_below_drewN | apply below_drew1 | refine below_set ?_ GE266.out) | exact HB.out)⟩
                          rw [if_neg c131] at H
                          exact absurd H (by simp)
                        rw [if_neg c130] at H
                        exact absurd H (by simp)
                      rw [if_neg c129] at H
                      exact absurd H (by simp)
                    replace c124 := Bool.eq_false_iff.mpr c124
                    subst c124
                    have H1 : (if (wrap64 (((rd_T33 t257 x8_1).f2) + (((rd_T33 t257 x8_1).f1).size : Int))) > (t256.size : Int) then (some false) else (if 0 ≤ ((rd_T33 t257 x8_1).f2) then (if ((rd_T33 t257 x8_1).f2) ≤ (wrap64 (((rd_T33 t257 x8_1).f2) + (((rd_T33 t257 x8_1).f1).size : Int))) then (if (wrap64 (((rd_T33 t257 x8_1).f2) + (((rd_T33 t257 x8_1).f1).size : Int))) ≤ (t256.size : Int) then (if (t256.extract (((rd_T33 t257 x8_1).f2) : Int).toNat ((wrap64 (((rd_T33 t257 x8_1).f2) + (((rd_T33 t257 x8_1).f1).size : Int))) : Int).toNat).toList = ((rd_T33 t257 x8_1).f1).toList then (winchlaw01_LexisStands.l0 k3 t256 t257 (wrap64 (((rd_T33 t257 x8_1).f2) + (((rd_T33 t257 x8_1).f1).size : Int))) (wrap64 (x8_1 + 1))) else (some false)) else (none)) else (none)) else (none))) = some r := by rw [if_neg (show ¬ (false = true) by decide)] at H; exact H
                    clear H
                    have H := H1
                    clear H1
                    by_cases c135 : (wrap64 (((rd_T33 t257 x8_1).f2) + (((rd_T33 t257 x8_1).f1).size : Int))) > (t256.size : Int)
                    · rw [if_pos c135] at H
                      have c135b0 : decide ((t256.size : Int) < (wrap64 (((rd_T33 t257 x8_1).f2) + (((rd_T33 t257 x8_1).f1).size : Int)))) = true := decide_eq_true c135
                      clear c135
                      obtain rfl := Option.some.inj H
                      have hcz136_0 : wr.cell? ⟨gb266, 0, none⟩ = some (.int .i64 ((rd_T33 t257 x8_1).f0)) := (blk_cell BK266.out 0).trans rfl
                      have hcz136_1 : wr.cell? ⟨gb266, 1, none⟩ = some (.string ((rd_T33 t257 x8_1).f1)) := (blk_cell BK266.out 1).trans rfl
                      have hcz136_2 : wr.cell? ⟨gb266, 2, none⟩ = some (.int .i64 ((rd_T33 t257 x8_1).f2)) := (blk_cell BK266.out 2).trans rfl
                      have hfz136_0 := blk_frozen BK266.out 0
                      have hfz136_1 := blk_frozen BK266.out 1
                      have hfz136_2 := blk_frozen BK266.out 2
                      go_wp2
                      repeat (go_quiet (fail); try go_wp2)
                      go_ret
                      exact ⟨by first | rfl | (simp [errW_none, errW_some] <;> rfl) | (simp [*, errW_none, errW_some] <;> rfl), by repeat (first | (with_reducible first | exact HB.out | apply below_alloc | apply pw_below_drewN | apply below_drew1 | refine below_set ?_ GE266.out) | exact HB.out)⟩
                    rw [if_neg c135] at H
                    have c135b0 : decide ((t256.size : Int) < (wrap64 (((rd_T33 t257 x8_1).f2) + (((rd_T33 t257 x8_1).f1).size : Int)))) = false := decide_eq_false c135
                    clear c135
                    by_cases c137 : 0 ≤ ((rd_T33 t257 x8_1).f2)
                    · rw [if_pos c137] at H
                      have c137b0 := eq_true c137
                      have c137b1 : decide (0 ≤ ((rd_T33 t257 x8_1).f2)) = true := decide_eq_true c137
                      clear c137
                      by_cases c138 : ((rd_T33 t257 x8_1).f2) ≤ (wrap64 (((rd_T33 t257 x8_1).f2) + (((rd_T33 t257 x8_1).f1).size : Int)))
                      · rw [if_pos c138] at H
                        have c138b0 := eq_true c138
                        have c138b1 : decide (((rd_T33 t257 x8_1).f2) ≤ (wrap64 (((rd_T33 t257 x8_1).f2) + (((rd_T33 t257 x8_1).f1).size : Int)))) = true := decide_eq_true c138
                        by_cases c139 : (wrap64 (((rd_T33 t257 x8_1).f2) + (((rd_T33 t257 x8_1).f1).size : Int))) ≤ (t256.size : Int)
                        · rw [if_pos c139] at H
                          have c139b0 := eq_true c139
                          have c139b1 : decide ((wrap64 (((rd_T33 t257 x8_1).f2) + (((rd_T33 t257 x8_1).f1).size : Int))) ≤ (t256.size : Int)) = true := decide_eq_true c139
                          by_cases c140 : (t256.extract (((rd_T33 t257 x8_1).f2) : Int).toNat ((wrap64 (((rd_T33 t257 x8_1).f2) + (((rd_T33 t257 x8_1).f1).size : Int))) : Int).toNat).toList = ((rd_T33 t257 x8_1).f1).toList
                          · rw [if_pos c140] at H
                            have c140b0 : ((t256.extract (((rd_T33 t257 x8_1).f2) : Int).toNat ((wrap64 (((rd_T33 t257 x8_1).f2) + (((rd_T33 t257 x8_1).f1).size : Int))) : Int).toNat).toList == ((rd_T33 t257 x8_1).f1).toList) = true := beq_iff_eq.mpr c140
                            have c140b1 : ((t256.extract (((rd_T33 t257 x8_1).f2) : Int).toNat ((wrap64 (((rd_T33 t257 x8_1).f2) + (((rd_T33 t257 x8_1).f1).size : Int))) : Int).toNat).toList != ((rd_T33 t257 x8_1).f1).toList) = false := bne_eq_false_iff_eq.mpr c140
                            clear c140
                            have H' := Aside0.mk H
                            clear H
                            have hcz141_0 : wr.cell? ⟨gb266, 0, none⟩ = some (.int .i64 ((rd_T33 t257 x8_1).f0)) := (blk_cell BK266.out 0).trans rfl
                            have hcz141_1 : wr.cell? ⟨gb266, 1, none⟩ = some (.string ((rd_T33 t257 x8_1).f1)) := (blk_cell BK266.out 1).trans rfl
                            have hcz141_2 : wr.cell? ⟨gb266, 2, none⟩ = some (.int .i64 ((rd_T33 t257 x8_1).f2)) := (blk_cell BK266.out 2).trans rfl
                            have hfz141_0 := blk_frozen BK266.out 0
                            have hfz141_1 := blk_frozen BK266.out 1
                            have hfz141_2 := blk_frozen BK266.out 2
                            go_wp2
                            repeat (go_quiet (fail); try go_wp2)
                            go_roundg k3
                            case measure => have := HK1.out; have := HJ8.out; have := HK3.out; omega
                            case rel => exact ⟨(wrap64 (((rd_T33 t257 x8_1).f2) + (((rd_T33 t257 x8_1).f1).size : Int))), (wrap64 (x8_1 + 1)), (by first | rfl | (simp; done) | (simp [*]; done) | (simp [bne]; done)), (by first | rfl | (simp; done) | (simp [*]; done) | (simp [bne]; done)), H', ⟨by have := HK1.out; have := HJ8.out; have := HK3.out; omega⟩, ⟨by (with_reducible repeat (first | apply Kd.R_alloc | apply Kd.R_drewN | apply Kd.R_drew)); exact Kd.R_mono HO_4.out (fun _ hk => trivial)⟩, ⟨by repeat (first | (with_reducible first | exact HB.out | apply below_alloc | apply pw_below_drewN | apply below_drew1 | refine below_set ?_ GE266.out) | exact HB.out)⟩⟩
                          rw [if_neg c140] at H
                          have c140b0 : ((t256.extract (((rd_T33 t257 x8_1).f2) : Int).toNat ((wrap64 (((rd_T33 t257 x8_1).f2) + (((rd_T33 t257 x8_1).f1).size : Int))) : Int).toNat).toList == ((rd_T33 t257 x8_1).f1).toList) = false := beq_eq_false_iff_ne.mpr c140
                          have c140b1 : ((t256.extract (((rd_T33 t257 x8_1).f2) : Int).toNat ((wrap64 (((rd_T33 t257 x8_1).f2) + (((rd_T33 t257 x8_1).f1).size : Int))) : Int).toNat).toList != ((rd_T33 t257 x8_1).f1).toList) = true := bne_iff_ne.mpr c140
                          obtain rfl := Option.some.inj H
                          have hcz142_0 : wr.cell? ⟨gb266, 0, none⟩ = some (.int .i64 ((rd_T33 t257 x8_1).f0)) := (blk_cell BK266.out 0).trans rfl
                          have hcz142_1 : wr.cell? ⟨gb266, 1, none⟩ = some (.string ((rd_T33 t257 x8_1).f1)) := (blk_cell BK266.out 1).trans rfl
                          have hcz142_2 : wr.cell? ⟨gb266, 2, none⟩ = some (.int .i64 ((rd_T33 t257 x8_1).f2)) := (blk_cell BK266.out 2).trans rfl
                          have hfz142_0 := blk_frozen BK266.out 0
                          have hfz142_1 := blk_frozen BK266.out 1
                          have hfz142_2 := blk_frozen BK266.out 2
                          go_wp2
                          repeat (go_quiet (fail); try go_wp2)
                          go_ret
                          exact ⟨by first | rfl | (simp [errW_none, errW_some] <;> rfl) | (simp [*, errW_none, errW_some] <;> rfl), by repeat (first | (with_reducible first | exact HB.out | apply below_alloc | apply pw_below_drewN | apply below_drew1 | refine below_set ?_ GE266.out) | exact HB.out)⟩
                        rw [if_neg c139] at H
                        exact absurd H (by simp)
                      rw [if_neg c138] at H
                      exact absurd H (by simp)
                    rw [if_neg c137] at H
                    exact absurd H (by simp)
          rw [if_neg c8] at H
          exact absurd H (by simp)
        rw [if_neg c7] at H
        have c7b0 : decide (x8_1 < (t257.length : Int)) = false := decide_eq_false c7
        clear c7
        by_cases c143 : (t257.length : Int) > 0
        · rw [if_pos c143] at H
          have c143b0 : decide (0 < (t257.length : Int)) = true := decide_eq_true c143
          have c143b1 : decide (0 < t257.length) = true := decide_eq_true (by omega)
          clear c143
          obtain ⟨ji144, hji144⟩ : ∃ j_ : Int, (wrap64 ((t257.length : Int) - 1)) = j_ := ⟨_, rfl⟩
          replace H : (if 0 ≤ (ji144) then (if (ji144) < (t257.length : Int) then (if ((rd_T33 t257 (ji144)).f2) = (t256.size : Int) then ((winchlaw01_awake.f).bind fun t264 => (some t264)) else (some false)) else (none)) else (none)) = some r := by first | (rw [hji144] at H; exact H) | (simp only [hji144] at H ⊢; exact H)
          have hji144w : (IntKind.i64.wrap ((t257.length : Int) - 1)) = ji144 := (i64_w _).trans hji144
          by_cases c145 : 0 ≤ (ji144)
          · rw [if_pos c145] at H
            have c145b0 : decide (0 ≤ (ji144)) = true := decide_eq_true c145
            clear c145
            by_cases c146 : (ji144) < (t257.length : Int)
            · rw [if_pos c146] at H
              have c146b0 : decide ((ji144) < (t257.length : Int)) = true := decide_eq_true c146
              clear c146
              by_cases c147 : ((rd_T33 t257 (ji144)).f2) = (t256.size : Int)
              · rw [if_pos c147] at H
                have c147b0 : (((rd_T33 t257 (ji144)).f2) == (t256.size : Int)) = true := beq_iff_eq.mpr c147
                have c147b1 : (((rd_T33 t257 (ji144)).f2) != (t256.size : Int)) = false := bne_eq_false_iff_eq.mpr c147
                clear c147
                replace H := Option.bind_eq_some_iff.mp H
                obtain ⟨t264, A1480, H⟩ := H
                replace H : (some t264) = some r := H
                have A148 := Aside0.mk A1480
                clear A1480
                obtain rfl := Option.some.inj H
                obtain ⟨Ao149, co149, eo149⟩ := Kd.R_slice HO_4.out
                subst eo149
                have p263 : 0 ≤ ((ji144) : Int) := of_decide_eq_true (by first | (with_reducible assumption) | assumption)
                have q263 : (ji144) < (t257.length : Int) := of_decide_eq_true (by first | (with_reducible assumption) | assumption)
                obtain ⟨ad263, e263, hx263_0, hx263_1, hx263_2⟩ := at_T33 (Kd.R_reads' HO_4.out).2.2 (ji144) p263 q263
                cases e263
                replace p263 := eq_true p263
                replace q263 := eq_true q263
                go_wp2_with (first | (go_at_call 16; (with_reducible refine (winchlaw01_awake.calls  t264 _ ?side1 A148.out).mono ?_); (case side1 => exact LaidW.below hG.out (by repeat (first | (with_reducible first | exact HB.out | apply below_alloc | apply pw_below_drewN | apply below_drew1) | exact HB.out))); rintro e w150 ⟨rfl, hb⟩; have n0_ := Aside0.mk (Kd.R_below (by (with_reducible repeat (first | apply Kd.R_alloc | apply Kd.R_drewN | apply Kd.R_drew)); exact HO_4.out) hb); have n1_ := Aside0.mk (below_step (by repeat (first | (with_reducible first | exact HB.out | apply below_alloc | apply pw_below_drewN | apply below_drew1) | exact HB.out)) hb); clear HO_4; clear HB; have HO_4 := n0_; have HB := n1_; clear n0_ n1_; (try clear hb); (try clear hb2); (try clear hk); (try clear hi)))
                repeat (go_quiet (first | (go_at_call 16; (with_reducible refine (winchlaw01_awake.calls  t264 _ ?side1 A148.out).mono ?_); (case side1 => exact LaidW.below hG.out (by repeat (first | (with_reducible first | exact HB.out | apply below_alloc | apply pw_below_drewN | apply below_drew1) | exact HB.out))); rintro e w150 ⟨rfl, hb⟩; have n0_ := Aside0.mk (Kd.R_below (by (with_reducible repeat (first | apply Kd.R_alloc | apply Kd.R_drewN | apply Kd.R_drew)); exact HO_4.out) hb); have n1_ := Aside0.mk (below_step (by repeat (first | (with_reducible first | exact HB.out | apply below_alloc | apply pw_below_drewN | apply below_drew1) | exact HB.out)) hb); clear HO_4; clear HB; have HO_4 := n0_; have HB := n1_; clear n0_ n1_; (try clear hb); (try clear hb2); (try clear hk); (try clear hi))); try go_wp2_with (first | (go_at_call 16; (with_reducible refine (winchlaw01_awake.calls  t264 _ ?side1 A148.out).mono ?_); (case side1 => exact LaidW.below hG.out (by repeat (first | (with_reducible first | exact HB.out | apply below_alloc | apply pw_below_drewN | apply below_drew1) | exact HB.out))); rintro e w150 ⟨rfl, hb⟩; have n0_ := Aside0.mk (Kd.R_below (by (with_reducible repeat (first | apply Kd.R_alloc | apply Kd.R_drewN | apply Kd.R_drew)); exact HO_4.out) hb); have n1_ := Aside0.mk (below_step (by repeat (first | (with_reducible first | exact HB.out | apply below_alloc | apply pw_below_drewN | apply below_drew1) | exact HB.out)) hb); clear HO_4; clear HB; have HO_4 := n0_; have HB := n1_; clear n0_ n1_; (try clear hb); (try clear hb2); (try clear hk); (try clear hi))))
                go_ret
                exact ⟨by first | rfl | (simp [errW_none, errW_some] <;> rfl) | (simp only [← hji144]; first | rfl | (simp [errW_none, errW_some] <;> rfl)) | (simp [*, errW_none, errW_some] <;> rfl), by repeat (first | (with_reducible first | exact HB.out | apply below_alloc | apply pw_below_drewN | apply below_drew1) | exact HB.out)⟩
              rw [if_neg c147] at H
              have c147b0 : (((rd_T33 t257 (ji144)).f2) == (t256.size : Int)) = false := beq_eq_false_iff_ne.mpr c147
              have c147b1 : (((rd_T33 t257 (ji144)).f2) != (t256.size : Int)) = true := bne_iff_ne.mpr c147
              obtain rfl := Option.some.inj H
              obtain ⟨Ao151, co151, eo151⟩ := Kd.R_slice HO_4.out
              subst eo151
              have p263 : 0 ≤ ((ji144) : Int) := of_decide_eq_true (by first | (with_reducible assumption) | assumption)
              have q263 : (ji144) < (t257.length : Int) := of_decide_eq_true (by first | (with_reducible assumption) | assumption)
              obtain ⟨ad263, e263, hx263_0, hx263_1, hx263_2⟩ := at_T33 (Kd.R_reads' HO_4.out).2.2 (ji144) p263 q263
              cases e263
              replace p263 := eq_true p263
              replace q263 := eq_true q263
              go_wp2
              repeat (go_quiet (fail); try go_wp2)
              go_ret
              exact ⟨by first | rfl | (simp [errW_none, errW_some] <;> rfl) | (simp only [← hji144]; first | rfl | (simp [errW_none, errW_some] <;> rfl)) | (simp [*, errW_none, errW_some] <;> rfl), by repeat (first | (with_reducible first | exact HB.out | apply below_alloc | apply pw_below_drewN | apply below_drew1) | exact HB.out)⟩
            rw [if_neg c146] at H
            exact absurd H (by simp)
          rw [if_neg c145] at H
          exact absurd H (by simp)
        rw [if_neg c143] at H
        have c143b0 : decide (0 < (t257.length : Int)) = false := decide_eq_false c143
        have c143b1 : decide (0 < t257.length) = false := decide_eq_false (by omega)
        clear c143
        obtain rfl := Option.some.inj H
        obtain ⟨Ao152, co152, eo152⟩ := Kd.R_slice HO_4.out
        subst eo152
        go_wp2
        repeat (go_quiet (fail); try go_wp2)
        go_ret
        exact ⟨by first | rfl | (simp [errW_none, errW_some] <;> rfl) | (simp [*, errW_none, errW_some] <;> rfl), by repeat (first | (with_reducible first | exact HB.out | apply below_alloc | apply pw_below_drewN | apply below_drew1) | exact HB.out)⟩
  rw [if_neg c4] at H
  have c4b0 : (t259 == 0) = false := beq_eq_false_iff_ne.mpr c4
  have c4b1 : (t259 != 0) = true := bne_iff_ne.mpr c4
  replace H := Option.bind_eq_some_iff.mp H
  obtain ⟨t262, A1530, H⟩ := H
  replace H : (some t262) = some r := H
  have A153 := Aside0.mk A1530
  clear A1530
  obtain rfl := Option.some.inj H
  go_enter Tryd.func4, Tryd.ntmps4
  go_wp2_with (first | (go_at_call 12; (with_reducible refine (winchlaw01_brief.calls a0 t256 _ A2.out).mono ?_); rintro e w154 ⟨rfl, hb⟩; have n0_ := Aside0.mk (below_step (by repeat (first | (with_reducible first | exact HB.out | apply below_alloc | apply pw_below_drewN | apply below_drew1) | exact HB.out)) hb); clear HB; have HB := n0_; clear n0_; (try clear hb); (try clear hb2); (try clear hk); (try clear hi)) | (go_at_call 13; (with_reducible refine (lexis_Tokens.calls t256 t257 t258 t259 _ ?side1 A3.out).mono ?_); (case side1 => exact LaidW.below hG.out (by repeat (first | (with_reducible first | exact HB.out | apply below_alloc | apply pw_below_drewN | apply below_drew1) | exact HB.out))); rintro e w155 ⟨v260, rfl, ho0, hb⟩; have n0_ := Aside0.mk (Kd.R_lower ho0 (below_size (by repeat (first | (with_reducible first | exact HB.out | apply below_alloc | apply pw_below_drewN | apply below_drew1) | exact HB.out)))); have n1_ := Aside0.mk (below_step (by repeat (first | (with_reducible first | exact HB.out | apply below_alloc | apply pw_below_drewN | apply below_drew1) | exact HB.out)) hb); clear HB; have HO261 := n0_; have HB := n1_; clear n0_ n1_; (try clear hb); (try clear hb2); (try clear hk); (try clear hi); (try clear ho0)) | (go_at_call 16; (with_reducible refine (winchlaw01_awake.calls  t262 _ ?side1 A153.out).mono ?_); (case side1 => exact LaidW.below hG.out (by repeat (first | (with_reducible first | exact HB.out | apply below_alloc | apply pw_below_drewN | apply below_drew1) | exact HB.out))); rintro e w156 ⟨rfl, hb⟩; have n0_ := Aside0.mk (Kd.R_below (by (with_reducible repeat (first | apply Kd.R_alloc | apply Kd.R_drewN | apply Kd.R_drew)); exact HO261.out) hb); have n1_ := Aside0.mk (below_step (by repeat (first | (with_reducible first | exact HB.out | apply below_alloc | apply pw_below_drewN | apply below_drew1) | exact HB.out)) hb); clear HO261; clear HB; have HO261 := n0_; have HB := n1_; clear n0_ n1_; (try clear hb); (try clear hb2); (try clear hk); (try clear hi)))
  repeat (go_quiet (first | (go_at_call 12; (with_reducible refine (winchlaw01_brief.calls a0 t256 _ A2.out).mono ?_); rintro e w154 ⟨rfl, hb⟩; have n0_ := Aside0.mk (below_step (by repeat (first | (with_reducible first | exact HB.out | apply below_alloc | apply pw_below_drewN | apply below_drew1) | exact HB.out)) hb); clear HB; have HB := n0_; clear n0_; (try clear hb); (try clear hb2); (try clear hk); (try clear hi)) | (go_at_call 13; (with_reducible refine (lexis_Tokens.calls t256 t257 t258 t259 _ ?side1 A3.out).mono ?_); (case side1 => exact LaidW.below hG.out (by repeat (first | (with_reducible first | exact HB.out | apply below_alloc | apply pw_below_drewN | apply below_drew1) | exact HB.out))); rintro e w155 ⟨v260, rfl, ho0, hb⟩; have n0_ := Aside0.mk (Kd.R_lower ho0 (below_size (by repeat (first | (with_reducible first | exact HB.out | apply below_alloc | apply pw_below_drewN | apply below_drew1) | exact HB.out)))); have n1_ := Aside0.mk (below_step (by repeat (first | (with_reducible first | exact HB.out | apply below_alloc | apply pw_below_drewN | apply below_drew1) | exact HB.out)) hb); clear HB; have HO261 := n0_; have HB := n1_; clear n0_ n1_; (try clear hb); (try clear hb2); (try clear hk); (try clear hi); (try clear ho0)) | (go_at_call 16; (with_reducible refine (winchlaw01_awake.calls  t262 _ ?side1 A153.out).mono ?_); (case side1 => exact LaidW.below hG.out (by repeat (first | (with_reducible first | exact HB.out | apply below_alloc | apply pw_below_drewN | apply below_drew1) | exact HB.out))); rintro e w156 ⟨rfl, hb⟩; have n0_ := Aside0.mk (Kd.R_below (by (with_reducible repeat (first | apply Kd.R_alloc | apply Kd.R_drewN | apply Kd.R_drew)); exact HO261.out) hb); have n1_ := Aside0.mk (below_step (by repeat (first | (with_reducible first | exact HB.out | apply below_alloc | apply pw_below_drewN | apply below_drew1) | exact HB.out)) hb); clear HO261; clear HB; have HO261 := n0_; have HB := n1_; clear n0_ n1_; (try clear hb); (try clear hb2); (try clear hk); (try clear hi))); try go_wp2_with (first | (go_at_call 12; (with_reducible refine (winchlaw01_brief.calls a0 t256 _ A2.out).mono ?_); rintro e w154 ⟨rfl, hb⟩; have n0_ := Aside0.mk (below_step (by repeat (first | (with_reducible first | exact HB.out | apply below_alloc | apply pw_below_drewN | apply below_drew1) | exact HB.out)) hb); clear HB; have HB := n0_; clear n0_; (try clear hb); (try clear hb2); (try clear hk); (try clear hi)) | (go_at_call 13; (with_reducible refine (lexis_Tokens.calls t256 t257 t258 t259 _ ?side1 A3.out).mono ?_); (case side1 => exact LaidW.below hG.out (by repeat (first | (with_reducible first | exact HB.out | apply below_alloc | apply pw_below_drewN | apply below_drew1) | exact HB.out))); rintro e w155 ⟨v260, rfl, ho0, hb⟩; have n0_ := Aside0.mk (Kd.R_lower ho0 (below_size (by repeat (first | (with_reducible first | exact HB.out | apply below_alloc | apply pw_below_drewN | apply below_drew1) | exact HB.out)))); have n1_ := Aside0.mk (below_step (by repeat (first | (with_reducible first | exact HB.out | apply below_alloc | apply pw_below_drewN | apply below_drew1) | exact HB.out)) hb); clear HB; have HO261 := n0_; have HB := n1_; clear n0_ n1_; (try clear hb); (try clear hb2); (try clear hk); (try clear hi); (try clear ho0)) | (go_at_call 16; (with_reducible refine (winchlaw01_awake.calls  t262 _ ?side1 A153.out).mono ?_); (case side1 => exact LaidW.below hG.out (by repeat (first | (with_reducible first | exact HB.out | apply below_alloc | apply pw_below_drewN | apply below_drew1) | exact HB.out))); rintro e w156 ⟨rfl, hb⟩; have n0_ := Aside0.mk (Kd.R_below (by (with_reducible repeat (first | apply Kd.R_alloc | apply Kd.R_drewN | apply Kd.R_drew)); exact HO261.out) hb); have n1_ := Aside0.mk (below_step (by repeat (first | (with_reducible first | exact HB.out | apply below_alloc | apply pw_below_drewN | apply below_drew1) | exact HB.out)) hb); clear HO261; clear HB; have HO261 := n0_; have HB := n1_; clear n0_ n1_; (try clear hb); (try clear hb2); (try clear hk); (try clear hi))))
  go_ret
  exact ⟨by first | rfl | (simp [errW_none, errW_some] <;> rfl) | (simp [*, errW_none, errW_some] <;> rfl), by repeat (first | (with_reducible first | exact HB.out | apply below_alloc | apply pw_below_drewN | apply below_drew1) | exact HB.out)⟩

/-- THE ONE PURE STATEMENT of winchlaw01_LexisStands: yours. -/
def winchlaw01_LexisStands.Pure : Prop := ∀ (a0 : ByteArray), a0.size ≤ 140737488351232 → ∃ k, winchlaw01_LexisStands.f k a0 = some true
theorem winchlaw01_LexisStands.walk (P : winchlaw01_LexisStands.Pure) (a0 : ByteArray) (w : World) (w0 : a0.size ≤ 140737488351232) (hG : LaidW w) :
    Calls Tryd.prog 4 #[.string a0] w fun e w' => e = .returned (.bool true) ∧ Below w.heap.size w w' := by
  obtain ⟨k, h⟩ := P a0 w0
  refine (winchlaw01_LexisStands.calls k a0 true w hG h).mono ?_
  rintro e w' ⟨rfl, hd⟩
  exact ⟨rfl, hd⟩

end Go.Proofs.YtlbaojjnilnhlaaDoor.PA
