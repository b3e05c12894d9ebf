-- laid by a program of this session (mk.sh); Lean checks it
import Derived.Test.YtlbaojjnilnhlaaDoorPAx0
import Derived.Test.YtlbaojjnilnhlaaDoorPAx31
import Derived.Test.YtlbaojjnilnhlaaDoorPAx32
namespace Go.Proofs.YtlbaojjnilnhlaaDoor.PA
open Go.RowKit Go.Proofs.YtlbaojjnilnhlaaDoorW.PrintWords Go.Proofs.YtlbaojjnilnhlaaDoorW.PrintLast Go.Proofs.YtlbaojjnilnhlaaDoorW.PrintMore
attribute [local go_sem] max2_int min2_int max_two min_two max_three min_three max_four min_four   -- for this text's walks alone
set_option linter.unusedVariables false
set_option linter.unusedSimpArgs false

/-! ### winchref01_Join: function 20 -/
mutual
def winchref01_Join.l0 : Nat → List (S33) → ByteArray → Int → Option (ByteArray × Bool)
  | 0, _, _, _ => none
  | k + 1, x0, x4, x5 => if x5 < (x0.length : Int) then (if 0 ≤ x5 then ((winchref01_IsToken.f k ((rd_T33 x0 x5).f0) ((rd_T33 x0 x5).f1) ((rd_T33 x0 x5).f2)).bind fun t335 => (if t335 = true then (if ((rd_T33 x0 x5).f0) = 7 then (winchref01_Join.j1 k x0 x4 x5 (decide (x5 < (wrap64 ((x0.length : Int) - 1))))) else (winchref01_Join.j1 k x0 x4 x5 false)) else (winchref01_Join.j1 k x0 x4 x5 true))) else (none)) else (some (x4, true))
def winchref01_Join.j1 : Nat → List (S33) → ByteArray → Int → Bool → Option (ByteArray × Bool)
  | 0, _, _, _, _ => none
  | k + 1, x0, x4, x5, x32 => if x32 = true then (some ((⟨#[]⟩ : ByteArray), false)) else (if 0 ≤ x5 then (if x5 < (x0.length : Int) then (if ((rd_T33 x0 x5).f0) = 7 then (some (x4, true)) else (if x5 > 0 then (if x4.size + 1 ≤ 9223372036854775807 then (if (x4 ++ (⟨#[32]⟩ : ByteArray)).size + ((rd_T33 x0 x5).f1).size ≤ 9223372036854775807 then (if (((x4 ++ (⟨#[32]⟩ : ByteArray)) ++ ((rd_T33 x0 x5).f1)).size : Int) > 8000 then (some ((⟨#[]⟩ : ByteArray), false)) else (winchref01_Join.l0 k x0 ((x4 ++ (⟨#[32]⟩ : ByteArray)) ++ ((rd_T33 x0 x5).f1)) (wrap64 (x5 + 1)))) else (none)) else (none)) else (if x4.size + ((rd_T33 x0 x5).f1).size ≤ 9223372036854775807 then (if ((x4 ++ ((rd_T33 x0 x5).f1)).size : Int) > 8000 then (some ((⟨#[]⟩ : ByteArray), false)) else (winchref01_Join.l0 k x0 (x4 ++ ((rd_T33 x0 x5).f1)) (wrap64 (x5 + 1)))) else (none)))) else (none)) else (none))
end
def winchref01_Join.f (k : Nat) (l0 : List (S33)) : Option (ByteArray × Bool) := winchref01_Join.l0 k l0 (⟨#[]⟩ : ByteArray) 0
theorem winchref01_Join.mono_l : ∀ k, (∀ y0 y1 y2, LeO (winchref01_Join.l0 k y0 y1 y2) (winchref01_Join.l0 (k + 1) y0 y1 y2)) ∧ (∀ y0 y1 y2 y3, LeO (winchref01_Join.j1 k y0 y1 y2 y3) (winchref01_Join.j1 (k + 1) y0 y1 y2 y3))
  | 0 => ⟨fun _ _ _ r h => by simp [winchref01_Join.l0] at h, fun _ _ _ _ r h => by simp [winchref01_Join.j1] at h⟩
  | k + 1 => by
    obtain ⟨ih0, ih1⟩ := winchref01_Join.mono_l k
    refine ⟨?_, ?_⟩
    · intro y0 y1 y2
      unfold winchref01_Join.l0
      repeat' first
      | (with_reducible exact ih0 _ _ _)
      | (with_reducible exact ih1 _ _ _ _)
      | (with_reducible exact winchref01_IsToken.mono _ _ _ _)
      | (with_reducible exact LeO.refl _)
      | (with_reducible exact LeO.none _)
      | (with_reducible refine LeO.ite ?_ ?_)
      | (with_reducible refine LeO.bind ?_ (fun _ => ?_))
      | exact ih0 _ _ _
      | exact ih1 _ _ _ _
      | exact winchref01_IsToken.mono _ _ _ _
      | exact LeO.none _
      | refine LeO.ite ?_ ?_
      | refine LeO.bind ?_ (fun _ => ?_)
    intro y0 y1 y2 y3
    unfold winchref01_Join.j1
    repeat' first
    | (with_reducible exact ih0 _ _ _)
    | (with_reducible exact ih1 _ _ _ _)
    | (with_reducible exact winchref01_IsToken.mono _ _ _ _)
    | (with_reducible exact LeO.refl _)
    | (with_reducible exact LeO.none _)
    | (with_reducible refine LeO.ite ?_ ?_)
    | (with_reducible refine LeO.bind ?_ (fun _ => ?_))
    | exact ih0 _ _ _
    | exact ih1 _ _ _ _
    | exact winchref01_IsToken.mono _ _ _ _
    | exact LeO.none _
    | refine LeO.ite ?_ ?_
    | refine LeO.bind ?_ (fun _ => ?_)
theorem winchref01_Join.mono : ∀ a0 k, LeO (winchref01_Join.f k a0) (winchref01_Join.f (k + 1) a0) := by
  intro a0 k
  obtain ⟨ih0, ih1⟩ := winchref01_Join.mono_l k
  unfold winchref01_Join.f
  repeat' first
      | (with_reducible exact ih0 _ _ _)
      | (with_reducible exact ih1 _ _ _ _)
      | (with_reducible exact winchref01_IsToken.mono _ _ _ _)
      | (with_reducible exact LeO.refl _)
      | (with_reducible exact LeO.none _)
      | (with_reducible refine LeO.ite ?_ ?_)
      | (with_reducible refine LeO.bind ?_ (fun _ => ?_))
      | exact ih0 _ _ _
      | exact ih1 _ _ _ _
      | exact winchref01_IsToken.mono _ _ _ _
      | exact LeO.none _
      | refine LeO.ite ?_ ?_
      | refine LeO.bind ?_ (fun _ => ?_)
set_option maxHeartbeats 8000000 in
set_option maxRecDepth 100000 in
theorem winchref01_Join.calls (k : Nat) (A0 : Option Addr) (c0 : Nat) (l0 : List (S33)) (r1 : ByteArray) (r2 : Bool) (w : World) (hr0 : Kd.C k33 w A0 l0.length l0) (hc0 : l0.length ≤ c0) (h : winchref01_Join.f k l0 = some (r1, r2)) :
    Calls Tryd.prog 20 #[.slice A0 l0.length c0] w fun e w' => e = .returned (.tuple #[.string r1, .bool r2]) ∧ Below w.heap.size w w' := by
  have hu33 := Tryd.underlying33
  have HR0 := Aside0.mk hr0
  have HC0 := Aside0.mk hc0
  clear hr0 hc0
  have HB := Aside0.mk (Below.refl w.heap.size w)
  have H : (winchref01_Join.l0 k l0 (⟨#[]⟩ : ByteArray) 0) = some (r1, r2) := h
  clear h
  have H' := Aside0.mk H
  clear H
  go_enter Tryd.func20, Tryd.ntmps20
  go_wp2
  go_loopg [4, 5] k (fun kq v4 v5 w' => ∃ (x4_1 : ByteArray) (x5_1 : Int), v4 = .string x4_1 ∧ v5 = .int .i64 x5_1 ∧ Aside0 (winchref01_Join.l0 kq l0 x4_1 x5_1 = some (r1, r2)) ∧ Aside0 (kq ≤ k) ∧ Aside0 (Below w.heap.size w w'))
  case atStart => exact ⟨((⟨#[]⟩ : ByteArray)), (0), (by first | rfl | (simp; done) | (simp [*]; done) | (simp [bne]; done)), (by first | rfl | (simp; done) | (simp [*]; done) | (simp [bne]; done)), H', ⟨Nat.le_refl _⟩, ⟨by repeat (first | (with_reducible first | exact HB.out | apply below_alloc | apply pw_below_drewN | apply below_drew1) | exact HB.out)⟩⟩
  case round =>
    clear H'
    obtain ⟨x4_1, x5_1, rfl, rfl, HA, HK1, HB⟩ := hrel
    cases gk with
    | zero => exact absurd HA.out (by simp [winchref01_Join.l0])
    | succ k1 =>
      have H := HA.out
      clear HA
      simp only [winchref01_Join.l0] at H
      by_cases c2 : x5_1 < (l0.length : Int)
      · rw [if_pos c2] at H
        have c2b0 := decide_eq_true c2
        clear c2
        have HC3 := Aside0.mk H
        clear H
        go_upto_region 5 with (fail)
        go_cut [32] (fun v32 wc => ∃ (kq : Nat) (x32_2 : Bool), v32 = .bool x32_2 ∧ Aside0 (winchref01_Join.j1 kq l0 x4_1 x5_1 x32_2 = some (r1, r2)) ∧ Aside0 (kq ≤ k1) ∧ Aside0 (Below w.heap.size w wc))
        case first =>
          have H := HC3.out
          clear HC3
          by_cases c4 : 0 ≤ x5_1
          · rw [if_pos c4] at H
            have c4b0 := decide_eq_true c4
            clear c4
            (first | rw [c4b0] | (simp only [i64_w, i32_w]; rw [c4b0]) | skip)
            replace H := Option.bind_eq_some_iff.mp H
            obtain ⟨t335, A50, H⟩ := H
            replace H : (if t335 = true then (if ((rd_T33 l0 x5_1).f0) = 7 then (winchref01_Join.j1 k1 l0 x4_1 x5_1 (decide (x5_1 < (wrap64 ((l0.length : Int) - 1))))) else (winchref01_Join.j1 k1 l0 x4_1 x5_1 false)) else (winchref01_Join.j1 k1 l0 x4_1 x5_1 true)) = some (r1, r2) := H
            have A5 := Aside0.mk A50
            clear A50
            by_cases c6 : t335 = true
            · subst c6
              have H1 : (if ((rd_T33 l0 x5_1).f0) = 7 then (winchref01_Join.j1 k1 l0 x4_1 x5_1 (decide (x5_1 < (wrap64 ((l0.length : Int) - 1))))) else (winchref01_Join.j1 k1 l0 x4_1 x5_1 false)) = some (r1, r2) := by rw [if_pos rfl] at H; exact H
              clear H
              have H := H1
              clear H1
              by_cases c7 : ((rd_T33 l0 x5_1).f0) = 7
              · rw [if_pos c7] at H
                have c7b0 := beq_iff_eq.mpr c7
                have c7b1 := bne_eq_false_iff_eq.mpr c7
                clear c7
                have H' := Aside0.mk H
                clear H
                have p334 : 0 ≤ (x5_1 : Int) := of_decide_eq_true (by first | (with_reducible assumption) | assumption)
                have q334 : x5_1 < (l0.length : Int) := of_decide_eq_true (by first | (with_reducible assumption) | assumption)
                obtain ⟨ad334, e334, hx334_0, hx334_1, hx334_2⟩ := at_T33 HR0.out x5_1 p334 q334
                cases e334
                replace hx334_0 := (HB.out.cell (World.block_lt_of_cell? w _ hx334_0)).trans hx334_0
                replace hx334_1 := (HB.out.cell (World.block_lt_of_cell? w _ hx334_1)).trans hx334_1
                replace hx334_2 := (HB.out.cell (World.block_lt_of_cell? w _ hx334_2)).trans hx334_2
                replace p334 := eq_true p334
                replace q334 := eq_true q334
                go_wp2_with (first | ((with_reducible refine gate_callee (f := 17) rfl ?_); refine goesL_ (some 16) rfl rfl Tryd.func17 (by kernel_rfl) rfl #[.agg #[.int .i64 ((rd_T33 l0 x5_1).f0), .string ((rd_T33 l0 x5_1).f1), .int .i64 ((rd_T33 l0 x5_1).f2)]] rfl (by (try simp only [List.map_toArray, List.map_cons, List.map_nil]); first | done | rfl | (simp only [List.length_drop, List.length_take]; rfl)) ?_; (with_reducible refine (winchref01_IsToken.calls k1 ((rd_T33 l0 x5_1).f0) ((rd_T33 l0 x5_1).f1) ((rd_T33 l0 x5_1).f2) true _ A5.out).mono ?_); rintro e w8 ⟨rfl, hb⟩; refine ⟨_, rfl, ?_⟩; have n0_ := Aside0.mk (below_step (by repeat (first | (with_reducible first | exact HB.out | apply below_alloc | apply pw_below_drewN | apply below_drew1) | exact HB.out)) hb); clear HB; have HB := n0_; clear n0_; (try clear hb); (try clear hb2); (try clear hk); (try clear hi); have p336 : 0 ≤ (x5_1 : Int) := of_decide_eq_true (by first | (with_reducible assumption) | assumption); have q336 : x5_1 < (l0.length : Int) := of_decide_eq_true (by first | (with_reducible assumption) | assumption); obtain ⟨ad336, e336, hx336_0, hx336_1, hx336_2⟩ := at_T33 HR0.out x5_1 p336 q336; obtain rfl : ad334 = ad336 := (by injection e336); replace hx336_0 := (HB.out.cell (World.block_lt_of_cell? w _ hx336_0)).trans hx336_0; replace hx336_1 := (HB.out.cell (World.block_lt_of_cell? w _ hx336_1)).trans hx336_1; replace hx336_2 := (HB.out.cell (World.block_lt_of_cell? w _ hx336_2)).trans hx336_2; replace p336 := eq_true p336; replace q336 := eq_true q336))
                go_meet
                case rel => exact ⟨_, (decide (x5_1 < (wrap64 ((l0.length : Int) - 1)))), (by first | rfl | (simp; done) | (simp [*]; done) | (simp [bne]; done)), H', ⟨by have := HK1.out; first | omega | exact Nat.le_refl _⟩, ⟨by repeat (first | (with_reducible first | exact HB.out | apply below_alloc | apply pw_below_drewN | apply below_drew1) | exact HB.out)⟩⟩
              rw [if_neg c7] at H
              have c7b0 := beq_eq_false_iff_ne.mpr c7
              have c7b1 := bne_iff_ne.mpr c7
              have H' := Aside0.mk H
              clear H
              have p334 : 0 ≤ (x5_1 : Int) := of_decide_eq_true (by first | (with_reducible assumption) | assumption)
              have q334 : x5_1 < (l0.length : Int) := of_decide_eq_true (by first | (with_reducible assumption) | assumption)
              obtain ⟨ad334, e334, hx334_0, hx334_1, hx334_2⟩ := at_T33 HR0.out x5_1 p334 q334
              cases e334
              replace hx334_0 := (HB.out.cell (World.block_lt_of_cell? w _ hx334_0)).trans hx334_0
              replace hx334_1 := (HB.out.cell (World.block_lt_of_cell? w _ hx334_1)).trans hx334_1
              replace hx334_2 := (HB.out.cell (World.block_lt_of_cell? w _ hx334_2)).trans hx334_2
              replace p334 := eq_true p334
              replace q334 := eq_true q334
              go_wp2_with (first | ((with_reducible refine gate_callee (f := 17) rfl ?_); refine goesL_ (some 16) rfl rfl Tryd.func17 (by kernel_rfl) rfl #[.agg #[.int .i64 ((rd_T33 l0 x5_1).f0), .string ((rd_T33 l0 x5_1).f1), .int .i64 ((rd_T33 l0 x5_1).f2)]] rfl (by (try simp only [List.map_toArray, List.map_cons, List.map_nil]); first | done | rfl | (simp only [List.length_drop, List.length_take]; rfl)) ?_; (with_reducible refine (winchref01_IsToken.calls k1 ((rd_T33 l0 x5_1).f0) ((rd_T33 l0 x5_1).f1) ((rd_T33 l0 x5_1).f2) true _ A5.out).mono ?_); rintro e w9 ⟨rfl, hb⟩; refine ⟨_, rfl, ?_⟩; have n0_ := Aside0.mk (below_step (by repeat (first | (with_reducible first | exact HB.out | apply below_alloc | apply pw_below_drewN | apply below_drew1) | exact HB.out)) hb); clear HB; have HB := n0_; clear n0_; (try clear hb); (try clear hb2); (try clear hk); (try clear hi); have p336 : 0 ≤ (x5_1 : Int) := of_decide_eq_true (by first | (with_reducible assumption) | assumption); have q336 : x5_1 < (l0.length : Int) := of_decide_eq_true (by first | (with_reducible assumption) | assumption); obtain ⟨ad336, e336, hx336_0, hx336_1, hx336_2⟩ := at_T33 HR0.out x5_1 p336 q336; obtain rfl : ad334 = ad336 := (by injection e336); replace hx336_0 := (HB.out.cell (World.block_lt_of_cell? w _ hx336_0)).trans hx336_0; replace hx336_1 := (HB.out.cell (World.block_lt_of_cell? w _ hx336_1)).trans hx336_1; replace hx336_2 := (HB.out.cell (World.block_lt_of_cell? w _ hx336_2)).trans hx336_2; replace p336 := eq_true p336; replace q336 := eq_true q336))
              go_meet
              case rel => exact ⟨_, (false), (by first | rfl | (simp; done) | (simp [*]; done) | (simp [bne]; done)), H', ⟨by have := HK1.out; first | omega | exact Nat.le_refl _⟩, ⟨by repeat (first | (with_reducible first | exact HB.out | apply below_alloc | apply pw_below_drewN | apply below_drew1) | exact HB.out)⟩⟩
            replace c6 := Bool.eq_false_iff.mpr c6
            subst c6
            have H1 : (winchref01_Join.j1 k1 l0 x4_1 x5_1 true) = some (r1, r2) := by rw [if_neg (show ¬ (false = true) by decide)] at H; exact H
            clear H
            have H := H1
            clear H1
            have H' := Aside0.mk H
            clear H
            have p334 : 0 ≤ (x5_1 : Int) := of_decide_eq_true (by first | (with_reducible assumption) | assumption)
            have q334 : x5_1 < (l0.length : Int) := of_decide_eq_true (by first | (with_reducible assumption) | assumption)
            obtain ⟨ad334, e334, hx334_0, hx334_1, hx334_2⟩ := at_T33 HR0.out x5_1 p334 q334
            cases e334
            replace hx334_0 := (HB.out.cell (World.block_lt_of_cell? w _ hx334_0)).trans hx334_0
            replace hx334_1 := (HB.out.cell (World.block_lt_of_cell? w _ hx334_1)).trans hx334_1
            replace hx334_2 := (HB.out.cell (World.block_lt_of_cell? w _ hx334_2)).trans hx334_2
            replace p334 := eq_true p334
            replace q334 := eq_true q334
            go_wp2_with (first | ((with_reducible refine gate_callee (f := 17) rfl ?_); refine goesL_ (some 16) rfl rfl Tryd.func17 (by kernel_rfl) rfl #[.agg #[.int .i64 ((rd_T33 l0 x5_1).f0), .string ((rd_T33 l0 x5_1).f1), .int .i64 ((rd_T33 l0 x5_1).f2)]] rfl (by (try simp only [List.map_toArray, List.map_cons, List.map_nil]); first | done | rfl | (simp only [List.length_drop, List.length_take]; rfl)) ?_; (with_reducible refine (winchref01_IsToken.calls k1 ((rd_T33 l0 x5_1).f0) ((rd_T33 l0 x5_1).f1) ((rd_T33 l0 x5_1).f2) false _ A5.out).mono ?_); rintro e w10 ⟨rfl, hb⟩; refine ⟨_, rfl, ?_⟩; have n0_ := Aside0.mk (below_step (by repeat (first | (with_reducible first | exact HB.out | apply below_alloc | apply pw_below_drewN | apply below_drew1) | exact HB.out)) hb); clear HB; have HB := n0_; clear n0_; (try clear hb); (try clear hb2); (try clear hk); (try clear hi)))
            go_meet
            case rel => exact ⟨_, (true), (by first | rfl | (simp; done) | (simp [*]; done) | (simp [bne]; done)), H', ⟨by have := HK1.out; first | omega | exact Nat.le_refl _⟩, ⟨by repeat (first | (with_reducible first | exact HB.out | apply below_alloc | apply pw_below_drewN | apply below_drew1) | exact HB.out)⟩⟩
          rw [if_neg c4] at H
          exact absurd H (by simp)
        case rest =>
          clear HC3
          try clear c1
          try clear c2
          try clear c2b0
          try clear p2
          try clear p3
          try clear q3
          try clear hx3
          try clear c4
          try clear c4b0
          try clear c6
          try clear p6
          try clear c7
          try clear c7b0
          try clear c7b1
          try clear hx334_0
          try clear hx334_1
          try clear hx334_2
          try clear hx336_0
          try clear hx336_1
          try clear hx336_2
          try clear p334
          try clear p336
          try clear q334
          try clear q336
          obtain ⟨kq, x32_2, rfl, HA, HJ2, HB⟩ := hcut
          cases kq with
          | zero => exact absurd HA.out (by simp [winchref01_Join.j1])
          | succ kj2 =>
            have H := HA.out
            clear HA
            simp only [winchref01_Join.j1] at H
            by_cases c11 : x32_2 = true
            · subst c11
              have H1 : (some ((⟨#[]⟩ : ByteArray), false)) = some (r1, r2) := by rw [if_pos rfl] at H; exact H
              clear H
              have H := H1
              clear H1
              simp only [Option.some.injEq, Prod.mk.injEq] at H
              obtain ⟨rfl, rfl⟩ := H
              go_wp2
              go_ret2
              exact ⟨by first | rfl | (simp [errW_none, errW_some] <;> rfl) | (simp [*, errW_none, errW_some] <;> rfl), by repeat (first | (with_reducible first | exact HB.out | apply below_alloc | apply pw_below_drewN | apply below_drew1) | exact HB.out)⟩
            replace c11 := Bool.eq_false_iff.mpr c11
            subst c11
            have H1 : (if 0 ≤ x5_1 then (if x5_1 < (l0.length : Int) then (if ((rd_T33 l0 x5_1).f0) = 7 then (some (x4_1, true)) else (if x5_1 > 0 then (if x4_1.size + 1 ≤ 9223372036854775807 then (if (x4_1 ++ (⟨#[32]⟩ : ByteArray)).size + ((rd_T33 l0 x5_1).f1).size ≤ 9223372036854775807 then (if (((x4_1 ++ (⟨#[32]⟩ : ByteArray)) ++ ((rd_T33 l0 x5_1).f1)).size : Int) > 8000 then (some ((⟨#[]⟩ : ByteArray), false)) else (winchref01_Join.l0 kj2 l0 ((x4_1 ++ (⟨#[32]⟩ : ByteArray)) ++ ((rd_T33 l0 x5_1).f1)) (wrap64 (x5_1 + 1)))) else (none)) else (none)) else (if x4_1.size + ((rd_T33 l0 x5_1).f1).size ≤ 9223372036854775807 then (if ((x4_1 ++ ((rd_T33 l0 x5_1).f1)).size : Int) > 8000 then (some ((⟨#[]⟩ : ByteArray), false)) else (winchref01_Join.l0 kj2 l0 (x4_1 ++ ((rd_T33 l0 x5_1).f1)) (wrap64 (x5_1 + 1)))) else (none)))) else (none)) else (none)) = some (r1, r2) := by rw [if_neg (show ¬ (false = true) by decide)] at H; exact H
            clear H
            have H := H1
            clear H1
            by_cases c12 : 0 ≤ x5_1
            · rw [if_pos c12] at H
              have c12b0 := decide_eq_true c12
              clear c12
              by_cases c13 : x5_1 < (l0.length : Int)
              · rw [if_pos c13] at H
                have c13b0 := decide_eq_true c13
                clear c13
                by_cases c14 : ((rd_T33 l0 x5_1).f0) = 7
                · rw [if_pos c14] at H
                  have c14b0 := beq_iff_eq.mpr c14
                  have c14b1 := bne_eq_false_iff_eq.mpr c14
                  clear c14
                  simp only [Option.some.injEq, Prod.mk.injEq] at H
                  obtain ⟨rfl, rfl⟩ := H
                  have p337 : 0 ≤ (x5_1 : Int) := of_decide_eq_true (by first | (with_reducible assumption) | assumption)
                  have q337 : x5_1 < (l0.length : Int) := of_decide_eq_true (by first | (with_reducible assumption) | assumption)
                  obtain ⟨ad337, e337, hx337_0, hx337_1, hx337_2⟩ := at_T33 HR0.out x5_1 p337 q337
                  cases e337
                  replace hx337_0 := (HB.out.cell (World.block_lt_of_cell? w _ hx337_0)).trans hx337_0
                  replace hx337_1 := (HB.out.cell (World.block_lt_of_cell? w _ hx337_1)).trans hx337_1
                  replace hx337_2 := (HB.out.cell (World.block_lt_of_cell? w _ hx337_2)).trans hx337_2
                  replace p337 := eq_true p337
                  replace q337 := eq_true q337
                  go_wp2
                  go_ret2
                  exact ⟨by first | rfl | (simp [errW_none, errW_some] <;> rfl) | (simp [*, errW_none, errW_some] <;> rfl), by repeat (first | (with_reducible first | exact HB.out | apply below_alloc | apply pw_below_drewN | apply below_drew1) | exact HB.out)⟩
                rw [if_neg c14] at H
                have c14b0 := beq_eq_false_iff_ne.mpr c14
                have c14b1 := bne_iff_ne.mpr c14
                by_cases c15 : x5_1 > 0
                · rw [if_pos c15] at H
                  have c15b0 := decide_eq_true c15
                  clear c15
                  by_cases c16 : x4_1.size + 1 ≤ 9223372036854775807
                  · rw [if_pos c16] at H
                    have c16b0 := eq_true c16
                    have c16b1 := decide_eq_true c16
                    try have c16b2 : (9223372036854775807 < x4_1.size + 1) = False := eq_false (Nat.not_lt.2 c16)
                    by_cases c17 : (x4_1 ++ (⟨#[32]⟩ : ByteArray)).size + ((rd_T33 l0 x5_1).f1).size ≤ 9223372036854775807
                    · rw [if_pos c17] at H
                      have c17b0 := eq_true c17
                      have c17b1 := decide_eq_true c17
                      try have c17b2 : (9223372036854775807 < (x4_1 ++ (⟨#[32]⟩ : ByteArray)).size + ((rd_T33 l0 x5_1).f1).size) = False := eq_false (Nat.not_lt.2 c17)
                      by_cases c18 : (((x4_1 ++ (⟨#[32]⟩ : ByteArray)) ++ ((rd_T33 l0 x5_1).f1)).size : Int) > 8000
                      · rw [if_pos c18] at H
                        have c18b0 := decide_eq_true c18
                        have c18b1 : decide (8000 < ((x4_1 ++ (⟨#[32]⟩ : ByteArray)) ++ ((rd_T33 l0 x5_1).f1)).size) = true := decide_eq_true (by omega)
                        have hz_ : ((x4_1 ++ (⟨#[32]⟩ : ByteArray)) ++ ((rd_T33 l0 x5_1).f1)).size = x4_1.size + 1 + ((rd_T33 l0 x5_1).f1).size := (ByteArray.size_append).trans (congrArg (fun n_ => n_ + ((rd_T33 l0 x5_1).f1).size) ByteArray.size_append)
                        have c18b2 : (8000 < (x4_1.size : Int) + 1 + (((rd_T33 l0 x5_1).f1).size : Int)) = True := eq_true (by omega)
                        have c18b3 : ((x4_1.size : Int) + 1 + (((rd_T33 l0 x5_1).f1).size : Int) ≤ 8000) = False := eq_false (by omega)
                        have c18b4 : decide (8000 < (x4_1.size : Int) + 1 + (((rd_T33 l0 x5_1).f1).size : Int)) = true := by simp only [c18b2, decide_true, decide_false]
                        clear hz_
                        clear c18
                        simp only [Option.some.injEq, Prod.mk.injEq] at H
                        obtain ⟨rfl, rfl⟩ := H
                        have p337 : 0 ≤ (x5_1 : Int) := of_decide_eq_true (by first | (with_reducible assumption) | assumption)
                        have q337 : x5_1 < (l0.length : Int) := of_decide_eq_true (by first | (with_reducible assumption) | assumption)
                        obtain ⟨ad337, e337, hx337_0, hx337_1, hx337_2⟩ := at_T33 HR0.out x5_1 p337 q337
                        cases e337
                        replace hx337_0 := (HB.out.cell (World.block_lt_of_cell? w _ hx337_0)).trans hx337_0
                        replace hx337_1 := (HB.out.cell (World.block_lt_of_cell? w _ hx337_1)).trans hx337_1
                        replace hx337_2 := (HB.out.cell (World.block_lt_of_cell? w _ hx337_2)).trans hx337_2
                        replace p337 := eq_true p337
                        replace q337 := eq_true q337
                        have p338 : 0 ≤ (x5_1 : Int) := of_decide_eq_true (by first | (with_reducible assumption) | assumption)
                        have q338 : x5_1 < (l0.length : Int) := of_decide_eq_true (by first | (with_reducible assumption) | assumption)
                        obtain ⟨ad338, e338, hx338_0, hx338_1, hx338_2⟩ := at_T33 HR0.out x5_1 p338 q338
                        obtain rfl : ad337 = ad338 := (by injection e338)
                        replace hx338_0 := (HB.out.cell (World.block_lt_of_cell? w _ hx338_0)).trans hx338_0
                        replace hx338_1 := (HB.out.cell (World.block_lt_of_cell? w _ hx338_1)).trans hx338_1
                        replace hx338_2 := (HB.out.cell (World.block_lt_of_cell? w _ hx338_2)).trans hx338_2
                        replace p338 := eq_true p338
                        replace q338 := eq_true q338
                        go_wp2
                        go_ret2
                        exact ⟨by first | rfl | (simp [errW_none, errW_some] <;> rfl) | (simp [*, errW_none, errW_some] <;> rfl), by repeat (first | (with_reducible first | exact HB.out | apply below_alloc | apply pw_below_drewN | apply below_drew1) | exact HB.out)⟩
                      rw [if_neg c18] at H
                      have c18b0 := decide_eq_false c18
                      have c18b1 : decide (8000 < ((x4_1 ++ (⟨#[32]⟩ : ByteArray)) ++ ((rd_T33 l0 x5_1).f1)).size) = false := decide_eq_false (by omega)
                      have hz_ : ((x4_1 ++ (⟨#[32]⟩ : ByteArray)) ++ ((rd_T33 l0 x5_1).f1)).size = x4_1.size + 1 + ((rd_T33 l0 x5_1).f1).size := (ByteArray.size_append).trans (congrArg (fun n_ => n_ + ((rd_T33 l0 x5_1).f1).size) ByteArray.size_append)
                      have c18b2 : (8000 < (x4_1.size : Int) + 1 + (((rd_T33 l0 x5_1).f1).size : Int)) = False := eq_false (by omega)
                      have c18b3 : ((x4_1.size : Int) + 1 + (((rd_T33 l0 x5_1).f1).size : Int) ≤ 8000) = True := eq_true (by omega)
                      have c18b4 : decide (8000 < (x4_1.size : Int) + 1 + (((rd_T33 l0 x5_1).f1).size : Int)) = false := by simp only [c18b2, decide_true, decide_false]
                      clear hz_
                      clear c18
                      have H' := Aside0.mk H
                      clear H
                      have p337 : 0 ≤ (x5_1 : Int) := of_decide_eq_true (by first | (with_reducible assumption) | assumption)
                      have q337 : x5_1 < (l0.length : Int) := of_decide_eq_true (by first | (with_reducible assumption) | assumption)
                      obtain ⟨ad337, e337, hx337_0, hx337_1, hx337_2⟩ := at_T33 HR0.out x5_1 p337 q337
                      cases e337
                      replace hx337_0 := (HB.out.cell (World.block_lt_of_cell? w _ hx337_0)).trans hx337_0
                      replace hx337_1 := (HB.out.cell (World.block_lt_of_cell? w _ hx337_1)).trans hx337_1
                      replace hx337_2 := (HB.out.cell (World.block_lt_of_cell? w _ hx337_2)).trans hx337_2
                      replace p337 := eq_true p337
                      replace q337 := eq_true q337
                      have p338 : 0 ≤ (x5_1 : Int) := of_decide_eq_true (by first | (with_reducible assumption) | assumption)
                      have q338 : x5_1 < (l0.length : Int) := of_decide_eq_true (by first | (with_reducible assumption) | assumption)
                      obtain ⟨ad338, e338, hx338_0, hx338_1, hx338_2⟩ := at_T33 HR0.out x5_1 p338 q338
                      obtain rfl : ad337 = ad338 := (by injection e338)
                      replace hx338_0 := (HB.out.cell (World.block_lt_of_cell? w _ hx338_0)).trans hx338_0
                      replace hx338_1 := (HB.out.cell (World.block_lt_of_cell? w _ hx338_1)).trans hx338_1
                      replace hx338_2 := (HB.out.cell (World.block_lt_of_cell? w _ hx338_2)).trans hx338_2
                      replace p338 := eq_true p338
                      replace q338 := eq_true q338
                      go_wp2
                      go_roundg kj2
                      case measure => have := HK1.out; have := HJ2.out; omega
                      case rel => exact ⟨((x4_1 ++ (⟨#[32]⟩ : ByteArray)) ++ ((rd_T33 l0 x5_1).f1)), (wrap64 (x5_1 + 1)), (by first | rfl | (simp; done) | (simp [*]; done) | (simp [bne]; done)), (by first | rfl | (simp; done) | (simp [*]; done) | (simp [bne]; done)), H', ⟨by have := HK1.out; have := HJ2.out; omega⟩, ⟨by repeat (first | (with_reducible first | exact HB.out | apply below_alloc | apply pw_below_drewN | apply below_drew1) | exact HB.out)⟩⟩
                    rw [if_neg c17] at H
                    exact absurd H (by simp)
                  rw [if_neg c16] at H
                  exact absurd H (by simp)
                rw [if_neg c15] at H
                have c15b0 := decide_eq_false c15
                clear c15
                by_cases c19 : x4_1.size + ((rd_T33 l0 x5_1).f1).size ≤ 9223372036854775807
                · rw [if_pos c19] at H
                  have c19b0 := eq_true c19
                  have c19b1 := decide_eq_true c19
                  try have c19b2 : (9223372036854775807 < x4_1.size + ((rd_T33 l0 x5_1).f1).size) = False := eq_false (Nat.not_lt.2 c19)
                  by_cases c20 : ((x4_1 ++ ((rd_T33 l0 x5_1).f1)).size : Int) > 8000
                  · rw [if_pos c20] at H
                    have c20b0 := decide_eq_true c20
                    have c20b1 : decide (8000 < (x4_1 ++ ((rd_T33 l0 x5_1).f1)).size) = true := decide_eq_true (by omega)
                    have hz_ : (x4_1 ++ ((rd_T33 l0 x5_1).f1)).size = x4_1.size + ((rd_T33 l0 x5_1).f1).size := ByteArray.size_append
                    have c20b2 : (8000 < (x4_1.size : Int) + (((rd_T33 l0 x5_1).f1).size : Int)) = True := eq_true (by omega)
                    have c20b3 : ((x4_1.size : Int) + (((rd_T33 l0 x5_1).f1).size : Int) ≤ 8000) = False := eq_false (by omega)
                    have c20b4 : decide (8000 < (x4_1.size : Int) + (((rd_T33 l0 x5_1).f1).size : Int)) = true := by simp only [c20b2, decide_true, decide_false]
                    clear hz_
                    clear c20
                    simp only [Option.some.injEq, Prod.mk.injEq] at H
                    obtain ⟨rfl, rfl⟩ := H
                    have p337 : 0 ≤ (x5_1 : Int) := of_decide_eq_true (by first | (with_reducible assumption) | assumption)
                    have q337 : x5_1 < (l0.length : Int) := of_decide_eq_true (by first | (with_reducible assumption) | assumption)
                    obtain ⟨ad337, e337, hx337_0, hx337_1, hx337_2⟩ := at_T33 HR0.out x5_1 p337 q337
                    cases e337
                    replace hx337_0 := (HB.out.cell (World.block_lt_of_cell? w _ hx337_0)).trans hx337_0
                    replace hx337_1 := (HB.out.cell (World.block_lt_of_cell? w _ hx337_1)).trans hx337_1
                    replace hx337_2 := (HB.out.cell (World.block_lt_of_cell? w _ hx337_2)).trans hx337_2
                    replace p337 := eq_true p337
                    replace q337 := eq_true q337
                    have p339 : 0 ≤ (x5_1 : Int) := of_decide_eq_true (by first | (with_reducible assumption) | assumption)
                    have q339 : x5_1 < (l0.length : Int) := of_decide_eq_true (by first | (with_reducible assumption) | assumption)
                    obtain ⟨ad339, e339, hx339_0, hx339_1, hx339_2⟩ := at_T33 HR0.out x5_1 p339 q339
                    obtain rfl : ad337 = ad339 := (by injection e339)
                    replace hx339_0 := (HB.out.cell (World.block_lt_of_cell? w _ hx339_0)).trans hx339_0
                    replace hx339_1 := (HB.out.cell (World.block_lt_of_cell? w _ hx339_1)).trans hx339_1
                    replace hx339_2 := (HB.out.cell (World.block_lt_of_cell? w _ hx339_2)).trans hx339_2
                    replace p339 := eq_true p339
                    replace q339 := eq_true q339
                    go_wp2
                    go_ret2
                    exact ⟨by first | rfl | (simp [errW_none, errW_some] <;> rfl) | (simp [*, errW_none, errW_some] <;> rfl), by repeat (first | (with_reducible first | exact HB.out | apply below_alloc | apply pw_below_drewN | apply below_drew1) | exact HB.out)⟩
                  rw [if_neg c20] at H
                  have c20b0 := decide_eq_false c20
                  have c20b1 : decide (8000 < (x4_1 ++ ((rd_T33 l0 x5_1).f1)).size) = false := decide_eq_false (by omega)
                  have hz_ : (x4_1 ++ ((rd_T33 l0 x5_1).f1)).size = x4_1.size + ((rd_T33 l0 x5_1).f1).size := ByteArray.size_append
                  have c20b2 : (8000 < (x4_1.size : Int) + (((rd_T33 l0 x5_1).f1).size : Int)) = False := eq_false (by omega)
                  have c20b3 : ((x4_1.size : Int) + (((rd_T33 l0 x5_1).f1).size : Int) ≤ 8000) = True := eq_true (by omega)
                  have c20b4 : decide (8000 < (x4_1.size : Int) + (((rd_T33 l0 x5_1).f1).size : Int)) = false := by simp only [c20b2, decide_true, decide_false]
                  clear hz_
                  clear c20
                  have H' := Aside0.mk H
                  clear H
                  have p337 : 0 ≤ (x5_1 : Int) := of_decide_eq_true (by first | (with_reducible assumption) | assumption)
                  have q337 : x5_1 < (l0.length : Int) := of_decide_eq_true (by first | (with_reducible assumption) | assumption)
                  obtain ⟨ad337, e337, hx337_0, hx337_1, hx337_2⟩ := at_T33 HR0.out x5_1 p337 q337
                  cases e337
                  replace hx337_0 := (HB.out.cell (World.block_lt_of_cell? w _ hx337_0)).trans hx337_0
                  replace hx337_1 := (HB.out.cell (World.block_lt_of_cell? w _ hx337_1)).trans hx337_1
                  replace hx337_2 := (HB.out.cell (World.block_lt_of_cell? w _ hx337_2)).trans hx337_2
                  replace p337 := eq_true p337
                  replace q337 := eq_true q337
                  have p339 : 0 ≤ (x5_1 : Int) := of_decide_eq_true (by first | (with_reducible assumption) | assumption)
                  have q339 : x5_1 < (l0.length : Int) := of_decide_eq_true (by first | (with_reducible assumption) | assumption)
                  obtain ⟨ad339, e339, hx339_0, hx339_1, hx339_2⟩ := at_T33 HR0.out x5_1 p339 q339
                  obtain rfl : ad337 = ad339 := (by injection e339)
                  replace hx339_0 := (HB.out.cell (World.block_lt_of_cell? w _ hx339_0)).trans hx339_0
                  replace hx339_1 := (HB.out.cell (World.block_lt_of_cell? w _ hx339_1)).trans hx339_1
                  replace hx339_2 := (HB.out.cell (World.block_lt_of_cell? w _ hx339_2)).trans hx339_2
                  replace p339 := eq_true p339
                  replace q339 := eq_true q339
                  go_wp2
                  go_roundg kj2
                  case measure => have := HK1.out; have := HJ2.out; omega
                  case rel => exact ⟨(x4_1 ++ ((rd_T33 l0 x5_1).f1)), (wrap64 (x5_1 + 1)), (by first | rfl | (simp; done) | (simp [*]; done) | (simp [bne]; done)), (by first | rfl | (simp; done) | (simp [*]; done) | (simp [bne]; done)), H', ⟨by have := HK1.out; have := HJ2.out; omega⟩, ⟨by repeat (first | (with_reducible first | exact HB.out | apply below_alloc | apply pw_below_drewN | apply below_drew1) | exact HB.out)⟩⟩
                rw [if_neg c19] at H
                exact absurd H (by simp)
              rw [if_neg c13] at H
              exact absurd H (by simp)
            rw [if_neg c12] at H
            exact absurd H (by simp)
      rw [if_neg c2] at H
      have c2b0 := decide_eq_false c2
      clear c2
      simp only [Option.some.injEq, Prod.mk.injEq] at H
      obtain ⟨rfl, rfl⟩ := H
      go_wp2
      go_ret2
      exact ⟨by first | rfl | (simp [errW_none, errW_some] <;> rfl) | (simp [*, errW_none, errW_some] <;> rfl), by repeat (first | (with_reducible first | exact HB.out | apply below_alloc | apply pw_below_drewN | apply below_drew1) | exact HB.out)⟩

end Go.Proofs.YtlbaojjnilnhlaaDoor.PA
