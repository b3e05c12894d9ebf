/-
  What lexis.Words answers: the document's words, in their order. It splits a constant string and sorts a row that is sorted.
-/
import Derived.Test.YtlbaojjnilnhlaaDoorLaid
import Derived.Test.YtlbaojjnilnhlaaDoorNum
import Derived.Test.YtlbaojjnilnhlaaDoorShelfN
import Derived.Test.YtlbaojjnilnhlaaDoorWMore
import Derived.Test.YtlbaojjnilnhlaaDoorWLast
import Derived.Test.YtlbaojjnilnhlaaDoorWWords
import Derived.Sort.Grow
import Derived.Sort.Row
import Derived.Sort.EncStr
namespace Go.Proofs.YtlbaojjnilnhlaaDoor.PA
open Go Go.RowKit Go.Proofs.YtlbaojjnilnhlaaDoorW.PrintWords Go.Proofs.YtlbaojjnilnhlaaDoorW.PrintLast Go.Proofs.YtlbaojjnilnhlaaDoorW.PrintMore
set_option linter.unusedVariables false
set_option linter.unusedSimpArgs false

/-- The table of blanks that strings.Fields reads holds what its initialiser lays. -/
def LaidN (w : World) : Prop := Lib.TabIs Tryd.prog w "strings.asciiSpace" .u8 Lib.asciiSpaceTab
theorem globAsc : Tryd.prog.globalNamed "strings.asciiSpace" = some 1 := by kernel_rfl
theorem LaidN.below {w w' : World} (h : LaidN w) (hb : Below w.heap.size w w') : LaidN w' := var?_below hb globAsc (var_lt globAsc h) h

def wordsBA : List ByteArray := wordsL.map fun l => ⟨l.toArray⟩
def lexis_Words.f : Option (List ByteArray) := some wordsBA
def wordsT : ByteArray := ⟨#[97, 100, 100, 32, 97, 110, 100, 32, 97, 110, 100, 110, 32, 97, 116, 32, 98, 108, 111, 99, 107, 32, 98, 111, 111, 108, 32, 98, 111, 120, 32, 98, 121, 32, 99, 97, 108, 32, 99, 97, 108, 99, 32, 99, 97, 108, 99, 110, 32, 99, 97, 115, 101, 32, 100, 101, 108, 97, 121, 32, 100, 105, 118, 32, 100, 111, 32, 101, 108, 115, 101, 32, 101, 108, 115, 105, 102, 32, 101, 110, 100, 32, 101, 110, 100, 95, 99, 97, 115, 101, 32, 101, 110, 100, 95, 102, 111, 114, 32, 101, 110, 100, 95, 105, 102, 32, 101, 110, 100, 95, 114, 101, 112, 101, 97, 116, 32, 101, 110, 100, 95, 119, 104, 105, 108, 101, 32, 101, 110, 116, 101, 114, 32, 101, 113, 32, 101, 118, 101, 114, 121, 32, 101, 120, 105, 116, 32, 102, 97, 108, 108, 32, 102, 97, 108, 115, 101, 32, 102, 98, 100, 32, 102, 111, 114, 32, 102, 114, 111, 109, 32, 102, 117, 110, 99, 116, 105, 111, 110, 32, 103, 101, 32, 103, 116, 32, 105, 102, 32, 105, 108, 32, 105, 110, 105, 116, 105, 97, 108, 32, 105, 110, 112, 117, 116, 32, 105, 110, 116, 32, 106, 109, 112, 32, 106, 109, 112, 99, 32, 106, 109, 112, 99, 110, 32, 106, 117, 109, 112, 32, 108, 100, 32, 108, 100, 110, 32, 108, 101, 32, 108, 101, 97, 118, 101, 32, 108, 105, 109, 105, 116, 95, 32, 108, 111, 99, 97, 108, 32, 108, 116, 32, 109, 97, 99, 114, 111, 32, 109, 111, 100, 32, 109, 117, 108, 32, 110, 101, 32, 110, 111, 116, 32, 111, 102, 32, 111, 114, 32, 111, 114, 110, 32, 111, 117, 116, 112, 117, 116, 32, 112, 104, 97, 115, 101, 32, 112, 114, 105, 111, 114, 105, 116, 121, 32, 112, 114, 111, 103, 114, 97, 109, 32, 114, 101, 112, 101, 97, 116, 32, 114, 101, 115, 101, 116, 32, 114, 101, 116, 32, 114, 101, 116, 97, 105, 110, 32, 114, 101, 116, 99, 32, 114, 101, 116, 99, 110, 32, 114, 101, 116, 117, 114, 110, 32, 114, 105, 115, 101, 32, 114, 117, 110, 32, 114, 117, 110, 103, 32, 115, 101, 116, 32, 115, 102, 99, 32, 115, 116, 32, 115, 116, 101, 112, 32, 115, 116, 110, 32, 115, 117, 98, 32, 116, 97, 115, 107, 32, 116, 104, 101, 110, 32, 116, 105, 109, 101, 32, 116, 111, 32, 116, 114, 97, 110, 115, 105, 116, 105, 111, 110, 32, 116, 114, 117, 101, 32, 117, 110, 116, 105, 108, 32, 119, 104, 101, 110, 32, 119, 104, 105, 108, 101, 32, 120, 111, 114, 32, 120, 111, 114, 110]⟩
theorem fields_words : Lib.fields wordsT.data.toList = wordsL := by decide +kernel
theorem ascii_words : ∀ (j : Nat) (b : UInt8), wordsT.data.toList[j]? = some b → b.toNat < 128 := by
  intro j b h
  have ha : (wordsT.data.toList.all fun b => decide (b.toNat < 128)) = true := by decide +kernel
  simpa using List.all_eq_true.1 ha b (List.mem_of_getElem? h)
theorem sorted_words : wordsL.mergeSort (fun x y => decide (x ≤ y)) = wordsL := by
  apply List.mergeSort_of_pairwise
  decide +kernel

/-- The world behind wordList. -/
def splitW (w : World) : World := w.alloc (.cells (wordsL.map fun l => Value.string ⟨l.toArray⟩).toArray 9)
set_option maxRecDepth 100000 in
theorem wordList_calls (w : World) (hN : LaidN w) : Calls Tryd.prog 42 #[] w fun e w' => e = .returned (.slice (some ⟨w.heap.size, 0, none⟩) wordsL.length wordsL.length) ∧ w' = splitW w := by
  go_enter Tryd.func42, Tryd.ntmps42
  have hc : Calls Tryd.prog 71 #[.string wordsT] w fun e w' => e = .returned (.slice (some ⟨w.heap.size, 0, none⟩) wordsL.length wordsL.length) ∧ w' = splitW w := by
    have h := Tryd.strings_Fields wordsT w (by decide +kernel) ascii_words hN
    rw [fields_words] at h
    exact h
  go_wp2_with (go_at_call 71; refine Calls.mono hc ?_; rintro e w' ⟨rfl, rfl⟩)
  go_ret
  exact ⟨rfl, rfl⟩

theorem splitW_heap (w : World) : (splitW w).heap[w.heap.size]? = some (.cells (wordsL.map fun l => Value.string ⟨l.toArray⟩).toArray 9 (0, 0)) := by
  unfold splitW World.alloc
  simp
theorem holds_words (w : World) : Go.Sort.Holds encStr (splitW w) w.heap.size 0 wordsL.toArray := by
  intro j hj
  have hj' : j < wordsL.length := by simpa using hj
  have hb := splitW_heap w
  constructor
  · have hg : ((wordsL.map fun l => Value.string ⟨l.toArray⟩).toArray)[j]? = some (encStr (wordsL.toArray[j]!)) := by
      rw [getElem!_pos wordsL.toArray j hj]
      simp [hj', encStr]
    unfold World.cell?
    rw [show (⟨w.heap.size, 0 + j, none⟩ : Addr).block = w.heap.size from rfl, hb]
    simpa using hg
  · unfold World.frozen?
    rw [show (⟨w.heap.size, 0 + j, none⟩ : Addr).block = w.heap.size from rfl, hb]
    simp
theorem after_sort (w : World) (n : Nat) (os : Array Obj) : Go.Sort.grow (Go.Sort.putRow encStr (Go.Sort.ahead (splitW w) n) w.heap.size 0 wordsL.toArray) os = Go.Sort.grow (Go.Sort.ahead (splitW w) n) os := by
  rw [Go.Sort.putRow_ahead, Go.Sort.putRow_self encStr (splitW w) w.heap.size 0 wordsL.toArray (holds_words w)]
set_option maxRecDepth 100000 in
theorem words_row (w : World) (n : Nat) (os : Array Obj) : Kd.R Kd.string 9 (Go.Sort.grow (Go.Sort.ahead (splitW w) n) os) w.heap.size (fun _ => True) (.slice (some ⟨w.heap.size, 0, none⟩) wordsL.length wordsL.length) wordsBA := by
  have hb := splitW_heap w
  have hsz : (splitW w).heap.size = w.heap.size + 1 := by unfold splitW World.alloc; simp
  have hh : (Go.Sort.grow (Go.Sort.ahead (splitW w) n) os).heap[w.heap.size]? = some (.cells (wordsL.map fun l => Value.string ⟨l.toArray⟩).toArray 9 (0, 0)) := by
    show ((splitW w).heap ++ os)[w.heap.size]? = _
    rw [Array.getElem?_append_left (by omega)]
    exact hb
  have hl : wordsBA.length = wordsL.length := by unfold wordsBA; rw [List.length_map]
  refine Kd.R_of_own (h1 := fun _ => rfl) ?_ (fun _ _ => trivial)
  refine ⟨?_, .inr ⟨w.heap.size, wordsL.length, (wordsL.map fun l => Value.string ⟨l.toArray⟩).toArray, ?_, Nat.le_refl _, hh, ?_, ?_, ?_, ?_⟩⟩
  · simp [encs]
  · rw [hl]
  · rw [hl]; exact Nat.le_refl _
  · decide +kernel
  · simp
  · rw [hl]
    simp [encs, wordsBA]
    rw [List.take_of_length_le (by simp)]
    rfl
theorem words_below (w : World) (n : Nat) (os : Array Obj) : Below w.heap.size w (Go.Sort.grow (Go.Sort.ahead (splitW w) n) os) := by
  have hsz : (splitW w).heap.size = w.heap.size + 1 := by unfold splitW World.alloc; simp
  refine ⟨rfl, rfl, rfl, ?_, fun k hk => ?_⟩
  · show w.heap.size ≤ ((splitW w).heap ++ os).size
    rw [Array.size_append]; omega
  · show ((splitW w).heap ++ os)[k]? = _
    rw [Array.getElem?_append_left (by omega)]
    unfold splitW World.alloc
    rw [Array.getElem?_push_lt hk, Array.getElem?_eq_getElem hk]
set_option maxRecDepth 100000 in
theorem lexis_Words.calls (r : List ByteArray) (w : World) (hN : LaidN w) (h : lexis_Words.f = some r) :
    Calls Tryd.prog 24 #[] w fun e w' => ∃ v0_ : Value, e = .returned (v0_) ∧ Kd.R Kd.string 9 w' w.heap.size (fun _ => True) v0_ r ∧ Below w.heap.size w w' := by
  obtain rfl := Option.some.inj h
  have hs : Calls Tryd.prog 43 #[.slice (some ⟨w.heap.size, 0, none⟩) wordsL.length wordsL.length] (splitW w) fun e w' => e = .returned (.tuple #[]) ∧ ∃ n os, w' = Go.Sort.grow (Go.Sort.ahead (splitW w) n) os := by
    have hsz : (splitW w).heap.size = w.heap.size + 1 := by unfold splitW World.alloc; simp
    have h := Tryd.slices_Sort_string w.heap.size 0 wordsL.length wordsL (splitW w) (holds_words w) (by omega) (by decide +kernel)
    rw [sorted_words] at h
    refine h.mono ?_
    rintro e w' ⟨he, n, os, hw⟩
    exact ⟨he, n, os, hw.trans (after_sort w n os)⟩
  go_enter Tryd.func24, Tryd.ntmps24
  go_wp2_with (first | (go_at_call 42; refine Calls.mono (wordList_calls w hN) ?_; rintro e w' ⟨rfl, rfl⟩) | (go_at_call 43; refine Calls.mono hs ?_; rintro e w' ⟨rfl, n, os, rfl⟩))
  go_ret
  exact ⟨_, rfl, words_row w n os, words_below w n os⟩
end Go.Proofs.YtlbaojjnilnhlaaDoor.PA
