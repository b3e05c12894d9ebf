/-
  Contracts of library functions and of lexis.isNumeral, in the form that the printed texts ask for.
-/
import Derived.Test.YtlbaojjnilnhlaaDoorPAx0
import Derived.Test.YtlbaojjnilnhlaaDoorLaid
import Derived.Test.YtlbaojjnilnhlaaDoorShelf
import Derived.Test.YtlbaojjnilnhlaaDoorNum
import Derived.Lib.Hide
import Derived.WideLaws
import Derived.WalkKit
import Derived.OwnWalk
import Derived.WalkSpells
namespace Go.Proofs.YtlbaojjnilnhlaaDoor.PA
open Go.RowKit Go.Proofs Go.Proofs.YtlbaojjnilnhlaaDoorW.PrintWords Go.Proofs.YtlbaojjnilnhlaaDoorW.PrintLast Go.Proofs.YtlbaojjnilnhlaaDoorW.PrintMore
set_option linter.unusedVariables false

def strings_IndexByte.f (a0 : ByteArray) (a1 : Int) : Option Int := some (Lib.indexByte a0.data.toList a1.toNat.toUInt8)
theorem strings_IndexByte.calls (a0 : ByteArray) (a1 : Int) (r : Int) (w : World) (h : strings_IndexByte.f a0 a1 = some r) :
    Calls Tryd.prog 48 #[.string a0, .int .u8 a1] w fun e w' => e = .returned (.int .i64 r) ∧ Drawn0 w w' := by
  obtain rfl := Option.some.inj h
  refine (Tryd.strings_IndexByte a0 a1 w).mono ?_
  rintro e w' ⟨he, rfl⟩
  exact ⟨he, Drawn0.refl _⟩

def strings_Count.f (a0 a1 : ByteArray) : Option Int := if a1.data.toList = [10] then some (Lib.countByte a0.data.toList 10) else none
theorem strings_Count.calls (a0 a1 : ByteArray) (r : Int) (w : World) (h : strings_Count.f a0 a1 = some r) :
    Calls Tryd.prog 40 #[.string a0, .string a1] w fun e w' => e = .returned (.int .i64 r) ∧ Drawn0 w w' := by
  unfold strings_Count.f at h
  by_cases c : a1.data.toList = [10]
  · rw [if_pos c] at h
    obtain rfl := Option.some.inj h
    obtain rfl : a1 = ⟨#[10]⟩ := by
      cases a1 with
      | mk d => cases d with | mk l => simp at c; subst c; rfl
    refine (Tryd.strings_Count_one a0 10 w).mono ?_
    rintro e w' ⟨he, rfl⟩
    exact ⟨he, Drawn0.refl _⟩
  · rw [if_neg c] at h
    cases h

def strings_LastIndex.f (a0 a1 : ByteArray) : Option Int := if a0.size < 4611686018427387904 then some (Lib.lastIndex a0.data.toList a1.data.toList) else none
theorem strings_LastIndex.calls (a0 a1 : ByteArray) (r : Int) (w : World) (h : strings_LastIndex.f a0 a1 = some r) :
    Calls Tryd.prog 41 #[.string a0, .string a1] w fun e w' => e = .returned (.int .i64 r) ∧ Drawn0 w w' := by
  unfold strings_LastIndex.f at h
  by_cases c : a0.size < 4611686018427387904
  · rw [if_pos c] at h
    obtain rfl := Option.some.inj h
    refine (Tryd.strings_LastIndex a0 a1 c w).mono ?_
    rintro e w' ⟨he, rfl⟩
    exact ⟨he, Drawn0.refl _⟩
  · rw [if_neg c] at h
    cases h

def strings_Join.f (l0 : List ByteArray) (a1 : ByteArray) : Option ByteArray :=
  if l0.length ≤ 140737488355328 ∧ (Lib.join (l0.map (·.data.toList)) a1.data.toList).length ≤ 140737488355328 then some ⟨(Lib.join (l0.map (·.data.toList)) a1.data.toList).toArray⟩ else none
theorem strings_Join.calls (A0 : Option Addr) (c0 : Nat) (l0 : List ByteArray) (a1 : ByteArray) (r : ByteArray) (w : World) (hr0 : Kd.C Kd.string w A0 l0.length l0) (hc0 : l0.length ≤ c0) (h : strings_Join.f l0 a1 = some r) :
    Calls Tryd.prog 39 #[.slice A0 l0.length c0, .string a1] w fun e w' => e = .returned (.string r) ∧ Below w.heap.size w w' := by
  unfold strings_Join.f at h
  by_cases c : l0.length ≤ 140737488355328 ∧ (Lib.join (l0.map (·.data.toList)) a1.data.toList).length ≤ 140737488355328
  · rw [if_pos c] at h
    obtain rfl := Option.some.inj h
    cases l0 with
    | nil =>
      refine (Tryd.strings_Join_none A0 c0 a1 w).mono ?_
      rintro e w' ⟨he, rfl⟩
      exact ⟨he, Below.refl _ _⟩
    | cons x xs =>
      obtain ⟨h1, h2, h3⟩ := hr0
      obtain ⟨ad, rfl, hcell⟩ := h3 (by simp)
      have hcell' : ∀ (j : Nat) y, (x :: xs)[j]? = some y → w.cell? (ad.add j) = some (.string y) := fun j y hj => by
        obtain ⟨cs, hl, hk, hu⟩ := hcell j y hj
        have := hu 0 (.string y) (by rw [show cs = [.string y] from hk]; rfl)
        simpa [Kd.string, Kd.scalar] using this
      have h0 := hcell' 0 x rfl
      obtain ⟨bk, o, sp⟩ := ad
      cases sp with
      | some z =>
        exfalso
        unfold Addr.add at h0
        simp only [World.cell?] at h0
        (repeat' split at h0) <;> simp_all
      | none =>
        have hadd : ∀ j, (⟨bk, o, none⟩ : Addr).add j = ⟨bk, o + j, none⟩ := fun j => by unfold Addr.add; split <;> simp_all
        have hbk : bk < w.heap.size := by
          have := World.block_lt_of_cell? w _ h0
          rw [hadd] at this
          exact this
        exact Tryd.strings_Join bk o c0 (x :: xs) a1 w (fun j y hj => by rw [← hadd]; exact hcell' j y hj) hbk c.1 hc0 c.2
  · rw [if_neg c] at h
    cases h


theorem below_grow {w : World} {k : Nat} {os : Array Obj} : Below w.heap.size w (Go.Sort.grow (w.drewN k) os) :=
  ⟨rfl, rfl, rfl, by simp [Go.Sort.grow, World.drewN], fun i hi => by
    show (w.heap ++ os)[i]? = w.heap[i]?
    rw [Array.getElem?_append_left hi]⟩
theorem below_bytes {w w1 : World} {e : TypeId} (h : w1 = w ∨ ∃ t, w1 = Lib.bytesWorld w e t) : Below w.heap.size w w1 := by
  rcases h with rfl | ⟨t, rfl⟩
  · exact Below.refl _ _
  · exact bytes_below (Below.refl _ _) (Nat.le_refl _) _ _

def lexis_isNumeral.f (a0 : ByteArray) (a1 : Int) : Option Bool := if a0.size ≤ 281474976710656 then some (numB a0.data.toList a1) else none

theorem Atoi_ok (a0 : ByteArray) (v : Int) (hl : a0.size ≤ 281474976710656) (w : World) (hG : LaidW w) (hA : Lib.atoiAll a0.data.toList = .ok v) :
    Calls Tryd.prog 76 #[.string a0] w fun e w' => e = .returned (.tuple #[.int .i64 v, .nilIface]) ∧ Below w.heap.size w w' ∧ LaidW w' := by
  refine (Tryd.strconv_Atoi_ok a0 (by omega) v hA w).mono ?_
  rintro e w' ⟨he, hw⟩
  have hb := below_bytes hw
  exact ⟨he, hb, hG.below hb⟩
theorem Itoa_any (v : Int) (hv1 : -9223372036854775808 ≤ v) (hv2 : v ≤ 9223372036854775807) (w : World) (hG : LaidW w) :
    Calls Tryd.prog 77 #[.int .i64 v] w fun e w' => e = .returned (.string ⟨(Lib.itoa v).toArray⟩) ∧ Below w.heap.size w w' := by
  refine (Tryd.strconv_Itoa v hv1 hv2 w hG.1).mono ?_
  rintro e w' ⟨he, k, os, rfl⟩
  exact ⟨he, below_grow⟩
theorem Atoi_bad (a0 : ByteArray) (hl : a0.size ≤ 281474976710656) (w : World) (hG : LaidW w) (hA : ∀ v, Lib.atoiAll a0.data.toList ≠ .ok v) :
    Calls Tryd.prog 76 #[.string a0] w fun e w' => ∃ (v : Int) (t : TypeId) (N : Nat), e = .returned (.tuple #[.int .i64 v, .iface t (.pointer (some ⟨N, 0, none⟩))]) ∧ Below w.heap.size w w' := by
  obtain ⟨h1, ⟨t2, p2, h2⟩, ⟨t3, p3, h3⟩⟩ := hG
  cases hc : Lib.atoiAll a0.data.toList
  case ok v => exact absurd hc (hA v)
  case range =>
    refine (Tryd.strconv_Atoi_range_var a0 hl hc t3 p3 w h3).mono ?_
    rintro e w' ⟨N, he, _, _, hb⟩
    exact ⟨_, _, N, he, hb⟩
  all_goals
    refine (Any.strconv_Atoi_syntax_var Tryd.laysC172 a0 hl hc t2 p2 w h2).mono ?_
    rintro e w' ⟨N, he, _, _, hb⟩
    exact ⟨_, _, N, he, hb⟩

theorem ret_bool {a b : Bool} (h : a = b) : Ending.returned (Value.bool a) = Ending.returned (Value.bool b) := by rw [h]
theorem below_two {w w1 w2 : World} (h : Below w.heap.size w w1) (k : Below w1.heap.size w1 w2) : Below w.heap.size w w2 := h.trans (k.mono h.size)

set_option maxHeartbeats 1000000 in
theorem isNumeral_ok (a0 : ByteArray) (a1 v : Int) (hl : a0.size ≤ 281474976710656) (w : World) (hG : LaidW w) (hA : Lib.atoiAll a0.data.toList = .ok v) :
    Calls Tryd.prog 49 #[.string a0, .int .i64 a1] w fun e w' => e = .returned (.bool (numB a0.data.toList a1)) ∧ Below w.heap.size w w' := by
  obtain ⟨hv1, hv2⟩ := Lib.atoiAll_bounds hA
  have hN : numB a0.data.toList a1 = ((Lib.itoa v == a0.data.toList) && decide (0 ≤ v) && decide (v ≤ a1)) := by unfold numB; rw [hA]
  rw [← ByteArray.toList_eq] at hN
  have HN := Lib.hid hN
  have C1 := Lib.hid (Atoi_ok a0 v hl w hG hA)
  have C2 := Lib.hid (Itoa_any v hv1 hv2)
  clear hA hG hN
  go_enter Tryd.func49, Tryd.ntmps49
  go_wp2_with (first | (go_at_call 76; refine C1.out.mono ?_; rintro e w1 ⟨rfl, hb1, hG1⟩) | (go_at_call 77; refine (C2.out _ (by assumption)).mono ?_; rintro e w2 ⟨rfl, hb2⟩))
  all_goals go_ret
  all_goals exact ⟨ret_bool (by rw [← ByteArray.toList_eq, HN.out]; first | (simp [*]; done) | (simp [*]; omega)), below_two (by assumption) (by assumption)⟩

set_option maxHeartbeats 1000000 in
theorem isNumeral_bad (a0 : ByteArray) (a1 : Int) (hl : a0.size ≤ 281474976710656) (w : World) (hG : LaidW w) (hA : ∀ v, Lib.atoiAll a0.data.toList ≠ .ok v) :
    Calls Tryd.prog 49 #[.string a0, .int .i64 a1] w fun e w' => e = .returned (.bool (numB a0.data.toList a1)) ∧ Below w.heap.size w w' := by
  have hN : numB a0.data.toList a1 = false := by
    unfold numB
    cases hc : Lib.atoiAll a0.data.toList
    case ok v => exact absurd hc (hA v)
    all_goals rfl
  have HN := Lib.hid hN
  have C1 := Lib.hid (Atoi_bad a0 hl w hG hA)
  clear hA hG hN
  go_enter Tryd.func49, Tryd.ntmps49
  go_wp2_with (first | (go_at_call 76; refine C1.out.mono ?_; rintro e w1 ⟨v, t, N, rfl, hb1⟩))
  all_goals go_ret
  all_goals exact ⟨ret_bool HN.out.symm, by assumption⟩

theorem lexis_isNumeral.calls (a0 : ByteArray) (a1 : Int) (r : Bool) (w : World) (hG : LaidW w) (h : lexis_isNumeral.f a0 a1 = some r) :
    Calls Tryd.prog 49 #[.string a0, .int .i64 a1] w fun e w' => e = .returned (.bool r) ∧ Below w.heap.size w w' := by
  unfold lexis_isNumeral.f at h
  by_cases c : a0.size ≤ 281474976710656
  · rw [if_pos c] at h
    obtain rfl := Option.some.inj h
    by_cases hA : ∃ v, Lib.atoiAll a0.data.toList = .ok v
    · obtain ⟨v, hA⟩ := hA
      exact isNumeral_ok a0 a1 v c w hG hA
    · exact isNumeral_bad a0 a1 c w hG (fun v hv => hA ⟨v, hv⟩)
  · rw [if_neg c] at h
    cases h
end Go.Proofs.YtlbaojjnilnhlaaDoor.PA
