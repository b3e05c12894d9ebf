/-
  What the listed variables of LexisNames give its walk, and one start that fits.
-/
import Derived.Test.YtlbaojjnilnhlaaDoorLay
import Derived.Test.YtlbaojjnilnhlaaDoorExtN
namespace Go.Proofs.YtlbaojjnilnhlaaDoor.PA
open Go Go.RowKit Go.ChangeShapes
/-- The listed variables, in the row's order. -/
def seven : List (String × DataW Unit) := [("math/bits.deBruijn32tab", Rows.laid_math_bits_deBruijn32tab), ("math/bits.deBruijn64tab", Rows.laid_math_bits_deBruijn64tab), ("internal/strconv.uint64pow10", Rows.laid_internal_strconv_uint64pow10), ("strconv.ErrRange", Rows.laid_strconv_ErrRange), ("strconv.ErrSyntax", Rows.laid_strconv_ErrSyntax), ("unicode.White_Space", Rows.laid_unicode_White_Space), ("strings.asciiSpace", Rows.laid_strings_asciiSpace)]
theorem typAsc : (Tryd.prog.globals[1]?).map (·.type) = some 92 := by kernel_rfl
theorem cellsB : Tryd.prog.cellsOf 5 = 1 := by kernel_rfl
theorem cellsA : Tryd.prog.cellsOf 92 = 256 := by kernel_rfl
theorem undAsc : Tryd.prog.underlying 92 = some (.array 256 5) := by kernel_rfl
set_option maxRecDepth 100000 in
theorem of_seven {W : World} (h : laidMet Tryd.prog seven W) : LaidW W ∧ LaidN W := by
  have h2 : laidMet Tryd.prog (("internal/strconv.uint64pow10", Lib.tabData .u64 Lib.pow10Tab) :: [("strconv.ErrRange", Rows.laid_strconv_ErrRange), ("strconv.ErrSyntax", Rows.laid_strconv_ErrSyntax), ("unicode.White_Space", Rows.laid_unicode_White_Space), ("strings.asciiSpace", Rows.laid_strings_asciiSpace)]) W := h.tail.tail
  have h3 : laidMet Tryd.prog [("strconv.ErrRange", Rows.laid_strconv_ErrRange), ("strconv.ErrSyntax", Rows.laid_strconv_ErrSyntax), ("unicode.White_Space", Rows.laid_unicode_White_Space), ("strings.asciiSpace", Rows.laid_strings_asciiSpace)] W := h2.tail
  have h4 : laidMet Tryd.prog (("strings.asciiSpace", Lib.tabData .u8 Lib.asciiSpaceTab) :: []) W := h3.tail.tail.tail
  obtain ⟨a1, s1, v1, _⟩ := laid_sentinel h3 globRan typRan Tryd.underlying76 rowE Tryd.underlying154 Tryd.underlying156 rfl rfl Tryd.underlying9 cellsE cellsS
  obtain ⟨a2, s2, v2, _⟩ := laid_sentinel h3.tail globSyn typSyn Tryd.underlying76 rowE Tryd.underlying154 Tryd.underlying156 rfl rfl Tryd.underlying9 cellsE cellsS
  exact ⟨⟨Lib.tabIs_of_head globPow typPow undPow Tryd.underlying105 cellsU cellsP h2, ⟨_, _, v2⟩, ⟨_, _, v1⟩⟩, Lib.tabIs_of_head globAsc typAsc undAsc Tryd.underlying5 cellsB cellsA h4⟩
/-- The door's own heap meets the condition. -/
theorem door_seven (os : Os) (args : Array Value) : laidMet Tryd.prog seven ((World.doorLaid Tryd.prog 86 os).forCall (fun _ _ => 0) ⟨#[], args, []⟩).memory :=
  laidMet_of_run' 12 (by kernel_rfl) (by kernel_rfl)
end Go.Proofs.YtlbaojjnilnhlaaDoor.PA
