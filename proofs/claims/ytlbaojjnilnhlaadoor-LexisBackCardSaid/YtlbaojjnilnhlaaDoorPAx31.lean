-- laid by a program of this session (mk.sh); Lean checks it
import Derived.Test.YtlbaojjnilnhlaaDoorPAx0
import Derived.Test.YtlbaojjnilnhlaaDoorPAx1
import Derived.Test.YtlbaojjnilnhlaaDoorExtT
import Derived.Test.YtlbaojjnilnhlaaDoorLaid
namespace Go.Proofs.YtlbaojjnilnhlaaDoor.PA
open Go.RowKit Go.Proofs.YtlbaojjnilnhlaaDoorW.PrintWords Go.Proofs.YtlbaojjnilnhlaaDoorW.PrintLast Go.Proofs.YtlbaojjnilnhlaaDoorW.PrintMore
attribute [local go_sem] max2_int min2_int max_two min_two max_three min_three max_four min_four   -- for this text's walks alone
set_option linter.unusedVariables false
set_option linter.unusedSimpArgs false

attribute [local go_sem high] eqA33
/-! ### winchlaw01_awake: function 16 -/
def winchlaw01_awake.f  : Option (Bool) := (lexis_Tokens.f (⟨#[120, 32, 58, 61, 32, 116, 35, 53, 59, 47, 47, 32, 102, 105, 118, 101]⟩ : ByteArray)).bind fun bt224 => ((lexis_Tokens.f (⟨#[120, 32, 63]⟩ : ByteArray)).bind fun bt229 => (if bt224.2.2 = 0 then (if (bt224.1.length : Int) = 5 then (if 4 < (bt224.1.length : Int) then (if (!(((rd_T33 bt224.1 4).f0) == 7) || (!((((rd_T33 bt224.1 4).f1).toList) == ([] : List UInt8)) || (!(((rd_T33 bt224.1 4).f2) == 16)))) = true then (some false) else (if 2 < (bt224.1.length : Int) then (if (!(((rd_T33 bt224.1 2).f0) == 3) || (!((((rd_T33 bt224.1 2).f1).toList) == ([116, 35, 53] : List UInt8)) || (!(((rd_T33 bt224.1 2).f2) == 5)))) = true then (some false) else (if bt229.2.2 = 4 then (if bt229.2.1 = 2 then (some true) else (some false)) else (some false))) else (none))) else (none)) else (some false)) else (some false)))
theorem awake_facts {t1 u1 : List S33} {t2 t3 u2 u3 : Int} (h1 : lexis_Tokens.f (⟨#[120, 32, 58, 61, 32, 116, 35, 53, 59, 47, 47, 32, 102, 105, 118, 101]⟩ : ByteArray) = some (t1, t2, t3)) (h2 : lexis_Tokens.f (⟨#[120, 32, 63]⟩ : ByteArray) = some (u1, u2, u3)) :
    t3 = 0 ∧ (t1.length : Int) = 5 ∧ ((rd_T33 t1 4).f0 = 7 ∧ (rd_T33 t1 4).f1 = ⟨#[]⟩ ∧ (rd_T33 t1 4).f2 = 16) ∧ ((rd_T33 t1 2).f0 = 3 ∧ (rd_T33 t1 2).f1 = ⟨#[116, 35, 53]⟩ ∧ (rd_T33 t1 2).f2 = 5) ∧ u3 = 4 ∧ u2 = 2 := by
  have e1 : lexis_Tokens.f (⟨#[120, 32, 58, 61, 32, 116, 35, 53, 59, 47, 47, 32, 102, 105, 118, 101]⟩ : ByteArray) = some ([⟨1, ⟨#[120]⟩, 0⟩, ⟨4, ⟨#[58, 61]⟩, 2⟩, ⟨3, ⟨#[116, 35, 53]⟩, 5⟩, ⟨4, ⟨#[59]⟩, 8⟩, ⟨7, ⟨#[]⟩, 16⟩], 0, 0) := by kernel_rfl
  have e2 : lexis_Tokens.f (⟨#[120, 32, 63]⟩ : ByteArray) = some ([], 2, 4) := by kernel_rfl
  rw [e1] at h1
  rw [e2] at h2
  simp only [Option.some.injEq, Prod.mk.injEq] at h1 h2
  obtain ⟨rfl, rfl, rfl⟩ := h1
  obtain ⟨rfl, rfl, rfl⟩ := h2
  exact ⟨rfl, rfl, ⟨rfl, rfl, rfl⟩, ⟨rfl, rfl, rfl⟩, rfl, rfl⟩
set_option maxHeartbeats 8000000 in
set_option maxRecDepth 100000 in
theorem winchlaw01_awake.calls  (r : Bool) (w : World) (hG : LaidW w) (h : winchlaw01_awake.f  = some r) :
    Calls Tryd.prog 16 #[] w fun e w' => e = .returned (.bool r) ∧ Below w.heap.size w w' := by
  have hu33 := Tryd.underlying33
  have HB := Aside0.mk (Below.refl w.heap.size w)
  replace hG := Aside0.mk hG
  have H : ((lexis_Tokens.f (⟨#[120, 32, 58, 61, 32, 116, 35, 53, 59, 47, 47, 32, 102, 105, 118, 101]⟩ : ByteArray)).bind fun bt224 => ((lexis_Tokens.f (⟨#[120, 32, 63]⟩ : ByteArray)).bind fun bt229 => (if bt224.2.2 = 0 then (if (bt224.1.length : Int) = 5 then (if 4 < (bt224.1.length : Int) then (if (!(((rd_T33 bt224.1 4).f0) == 7) || (!((((rd_T33 bt224.1 4).f1).toList) == ([] : List UInt8)) || (!(((rd_T33 bt224.1 4).f2) == 16)))) = true then (some false) else (if 2 < (bt224.1.length : Int) then (if (!(((rd_T33 bt224.1 2).f0) == 3) || (!((((rd_T33 bt224.1 2).f1).toList) == ([116, 35, 53] : List UInt8)) || (!(((rd_T33 bt224.1 2).f2) == 5)))) = true then (some false) else (if bt229.2.2 = 4 then (if bt229.2.1 = 2 then (some true) else (some false)) else (some false))) else (none))) else (none)) else (some false)) else (some false)))) = some r := h
  clear h
  replace H := Option.bind_eq_some_iff.mp H
  obtain ⟨⟨t224, t225, t226⟩, A10, H⟩ := H
  replace H : ((lexis_Tokens.f (⟨#[120, 32, 63]⟩ : ByteArray)).bind fun bt229 => (if t226 = 0 then (if (t224.length : Int) = 5 then (if 4 < (t224.length : Int) then (if (!(((rd_T33 t224 4).f0) == 7) || (!((((rd_T33 t224 4).f1).toList) == ([] : List UInt8)) || (!(((rd_T33 t224 4).f2) == 16)))) = true then (some false) else (if 2 < (t224.length : Int) then (if (!(((rd_T33 t224 2).f0) == 3) || (!((((rd_T33 t224 2).f1).toList) == ([116, 35, 53] : List UInt8)) || (!(((rd_T33 t224 2).f2) == 5)))) = true then (some false) else (if bt229.2.2 = 4 then (if bt229.2.1 = 2 then (some true) else (some false)) else (some false))) else (none))) else (none)) else (some false)) else (some false))) = some r := H
  have A1 := Aside0.mk A10
  clear A10
  replace H := Option.bind_eq_some_iff.mp H
  obtain ⟨⟨t229, t230, t231⟩, A20, H⟩ := H
  replace H : (if t226 = 0 then (if (t224.length : Int) = 5 then (if 4 < (t224.length : Int) then (if (!(((rd_T33 t224 4).f0) == 7) || (!((((rd_T33 t224 4).f1).toList) == ([] : List UInt8)) || (!(((rd_T33 t224 4).f2) == 16)))) = true then (some false) else (if 2 < (t224.length : Int) then (if (!(((rd_T33 t224 2).f0) == 3) || (!((((rd_T33 t224 2).f1).toList) == ([116, 35, 53] : List UInt8)) || (!(((rd_T33 t224 2).f2) == 5)))) = true then (some false) else (if t231 = 4 then (if t230 = 2 then (some true) else (some false)) else (some false))) else (none))) else (none)) else (some false)) else (some false)) = some r := H
  have A2 := Aside0.mk A20
  clear A20
  obtain ⟨c3, c4, ⟨d0, d1, d2⟩, ⟨g0, g1, g2⟩, c15, c16⟩ := awake_facts A1.out A2.out
  have c5 : 4 < (t224.length : Int) := by omega
  have c10 : 2 < (t224.length : Int) := by omega
  rw [if_pos c3, if_pos c4, if_pos c5, if_neg (by rw [d0, d1, d2]; simp [ByteArray.toList_eq]), if_pos c10, if_neg (by rw [g0, g1, g2]; simp [ByteArray.toList_eq]), if_pos c15, if_pos c16] at H
  have c3b0 := beq_iff_eq.mpr c3
  have c3b1 := bne_eq_false_iff_eq.mpr c3
  have c4b0 := beq_iff_eq.mpr c4
  have c4b1 := bne_eq_false_iff_eq.mpr c4
  have c5b0 := decide_eq_true c5
  have c5b1 : decide (4 < t224.length) = true := decide_eq_true (by omega)
  have c10b0 := decide_eq_true c10
  have c10b1 : decide (2 < t224.length) = true := decide_eq_true (by omega)
  have c15b0 := beq_iff_eq.mpr c15
  have c15b1 := bne_eq_false_iff_eq.mpr c15
  have c16b0 := beq_iff_eq.mpr c16
  have c16b1 := bne_eq_false_iff_eq.mpr c16
  clear c3 c4 c5 c10 c15 c16
  obtain rfl := Option.some.inj H
  go_enter Tryd.func16, Tryd.ntmps16
  go_wp2_with (first | ((with_reducible refine gate_callee (f := 13) rfl ?_); refine goesL_ (some 8) rfl rfl Tryd.func13 (by kernel_rfl) rfl #[.string (⟨#[120, 32, 58, 61, 32, 116, 35, 53, 59, 47, 47, 32, 102, 105, 118, 101]⟩ : ByteArray)] rfl (by (try simp only [List.map_toArray, List.map_cons, List.map_nil]); first | done | rfl | (simp only [List.length_drop, List.length_take]; rfl)) ?_; (with_reducible refine (lexis_Tokens.calls (⟨#[120, 32, 58, 61, 32, 116, 35, 53, 59, 47, 47, 32, 102, 105, 118, 101]⟩ : ByteArray) t224 t225 t226 _ ?side1 A1.out).mono ?_); (case side1 => exact LaidW.below hG.out (by repeat (first | (with_reducible first | exact HB.out | apply below_alloc | apply pw_below_drewN | apply below_drew1) | exact HB.out))); rintro e w17 ⟨v227, rfl, ho0, hb⟩; refine ⟨_, rfl, ?_⟩; have n0_ := Aside0.mk (Kd.R_lower ho0 (below_size (by repeat (first | (with_reducible first | exact HB.out | apply below_alloc | apply pw_below_drewN | apply below_drew1) | exact HB.out)))); have n1_ := Aside0.mk (below_step (by repeat (first | (with_reducible first | exact HB.out | apply below_alloc | apply pw_below_drewN | apply below_drew1) | exact HB.out)) hb); clear HB; have HO228 := n0_; have HB := n1_; clear n0_ n1_; (try clear hb); (try clear hb2); (try clear hk); (try clear hi); (try clear ho0)) | ((with_reducible refine gate_callee (f := 13) rfl ?_); refine goesL_ (some 13) rfl rfl Tryd.func13 (by kernel_rfl) rfl #[.string (⟨#[120, 32, 63]⟩ : ByteArray)] rfl (by (try simp only [List.map_toArray, List.map_cons, List.map_nil]); first | done | rfl | (simp only [List.length_drop, List.length_take]; rfl)) ?_; (with_reducible refine (lexis_Tokens.calls (⟨#[120, 32, 63]⟩ : ByteArray) t229 t230 t231 _ ?side1 A2.out).mono ?_); (case side1 => exact LaidW.below hG.out (by repeat (first | (with_reducible first | exact HB.out | apply below_alloc | apply pw_below_drewN | apply below_drew1) | exact HB.out))); rintro e w18 ⟨v232, rfl, ho0, hb⟩; refine ⟨_, rfl, ?_⟩; have n0_ := Aside0.mk (Kd.R_elder' (by (with_reducible repeat (first | apply Kd.R_alloc | apply Kd.R_drewN | apply Kd.R_drew)); exact HO228.out) (Kd.R_base ho0) hb); have n1_ := Aside0.mk (Kd.R_lower (Kd.R_new' ho0 (Kd.R_lt (by (with_reducible repeat (first | apply Kd.R_alloc | apply Kd.R_drewN | apply Kd.R_drew)); exact HO228.out))) (below_size (by repeat (first | (with_reducible first | exact HB.out | apply below_alloc | apply pw_below_drewN | apply below_drew1) | exact HB.out)))); have n2_ := Aside0.mk (below_step (by repeat (first | (with_reducible first | exact HB.out | apply below_alloc | apply pw_below_drewN | apply below_drew1) | exact HB.out)) hb); clear HO228; clear HB; have HO228 := n0_; have HO233 := n1_; have HB := n2_; clear n0_ n1_ n2_; (try clear hb); (try clear hb2); (try clear hk); (try clear hi); (try clear ho0); obtain ⟨Ao19, co19, eo19⟩ := Kd.R_slice HO228.out; subst eo19; have p234 : 0 ≤ (4 : Int) := (by omega); have q234 : 4 < (t224.length : Int) := of_decide_eq_true (by first | (with_reducible assumption) | assumption); obtain ⟨ad234, e234, hx234_0, hx234_1, hx234_2⟩ := at_T33 (Kd.R_reads' HO228.out).2.2 4 p234 q234; cases e234; (try simp only [show (4 : Int).toNat = 4 from rfl, Nat.reduceMul, Nat.reduceEqDiff, Go.Addr.add, ↓reduceIte] at hx234_0); (try simp only [show (4 : Int).toNat = 4 from rfl, Nat.reduceMul, Nat.reduceEqDiff, Go.Addr.add, ↓reduceIte] at hx234_1); (try simp only [show (4 : Int).toNat = 4 from rfl, Nat.reduceMul, Nat.reduceEqDiff, Go.Addr.add, ↓reduceIte] at hx234_2); have qi234 : (4 < t224.length) = True := eq_true (by omega); (try rw [show ((4 : Int)).toNat = 4 from rfl] at hx234_0); (try rw [show 4 * 3 = 12 from rfl] at hx234_0); (try rw [show ((4 : Int)).toNat = 4 from rfl] at hx234_1); (try rw [show 4 * 3 = 12 from rfl] at hx234_1); (try rw [show ((4 : Int)).toNat = 4 from rfl] at hx234_2); (try rw [show 4 * 3 = 12 from rfl] at hx234_2); replace p234 := eq_true p234; replace q234 := eq_true q234; have p235 : 0 ≤ (2 : Int) := (by omega); have q235 : 2 < (t224.length : Int) := of_decide_eq_true (by first | (with_reducible assumption) | assumption); obtain ⟨ad235, e235, hx235_0, hx235_1, hx235_2⟩ := at_T33 (Kd.R_reads' HO228.out).2.2 2 p235 q235; obtain rfl : ad234 = ad235 := (by injection e235); (try simp only [show (2 : Int).toNat = 2 from rfl, Nat.reduceMul, Nat.reduceEqDiff, Go.Addr.add, ↓reduceIte] at hx235_0); (try simp only [show (2 : Int).toNat = 2 from rfl, Nat.reduceMul, Nat.reduceEqDiff, Go.Addr.add, ↓reduceIte] at hx235_1); (try simp only [show (2 : Int).toNat = 2 from rfl, Nat.reduceMul, Nat.reduceEqDiff, Go.Addr.add, ↓reduceIte] at hx235_2); have qi235 : (2 < t224.length) = True := eq_true (by omega); (try rw [show ((2 : Int)).toNat = 2 from rfl] at hx235_0); (try rw [show 2 * 3 = 6 from rfl] at hx235_0); (try rw [show ((2 : Int)).toNat = 2 from rfl] at hx235_1); (try rw [show 2 * 3 = 6 from rfl] at hx235_1); (try rw [show ((2 : Int)).toNat = 2 from rfl] at hx235_2); (try rw [show 2 * 3 = 6 from rfl] at hx235_2); replace p235 := eq_true p235; replace q235 := eq_true q235))
  go_ret
  exact ⟨by first | rfl | (simp [errW_none, errW_some] <;> rfl) | (simp [*, errW_none, errW_some] <;> rfl), by repeat (first | (with_reducible first | exact HB.out | apply below_alloc | apply pw_below_drewN | apply below_drew1) | exact HB.out)⟩
end Go.Proofs.YtlbaojjnilnhlaaDoor.PA
