/-
  What the rows' listed variables give the walks, and one start that fits: the world that the program's own initialisers leave.
-/
import Derived.Test.YtlbaojjnilnhlaaDoorLaid
import Derived.Test.YtlbaojjnilnhlaaDoorRows
import Derived.Stop.LaidErr
import Derived.LaidMore
import Derived.ProofKit
namespace Go.Proofs.YtlbaojjnilnhlaaDoor.PA
open Go Go.RowKit Go.ChangeShapes

/-- The listed variables, in the rows' order. -/
def five : List (String × DataW Unit) := [("math/bits.deBruijn32tab", Rows.laid_math_bits_deBruijn32tab), ("math/bits.deBruijn64tab", Rows.laid_math_bits_deBruijn64tab), ("internal/strconv.uint64pow10", Rows.laid_internal_strconv_uint64pow10), ("strconv.ErrRange", Rows.laid_strconv_ErrRange), ("strconv.ErrSyntax", Rows.laid_strconv_ErrSyntax)]

theorem typPow : (Tryd.prog.globals[5]?).map (·.type) = some 158 := by kernel_rfl
theorem typSyn : (Tryd.prog.globals[3]?).map (·.type) = some 76 := by kernel_rfl
theorem typRan : (Tryd.prog.globals[4]?).map (·.type) = some 76 := by kernel_rfl
theorem cellsU : Tryd.prog.cellsOf 105 = 1 := by kernel_rfl
theorem cellsP : Tryd.prog.cellsOf 158 = 20 := by kernel_rfl
theorem cellsE : Tryd.prog.cellsOf 156 = 1 := by kernel_rfl
theorem cellsS : Tryd.prog.cellsOf 9 = 1 := by kernel_rfl
theorem starE : "*" ++ "errors.errorString" = "*errors.errorString" := by decide
theorem rowE (u : TypeId) (h : Tryd.prog.typeName? 3 u = some "*errors.errorString") : u = 154 :=
  typeName_ptr_named (nm := "errors.errorString") (by rw [starE]; kernel_rfl) (by kernel_rfl) (by decide) u (by rw [starE]; exact h)
theorem undPow : Tryd.prog.underlying 158 = some (.array 20 105) := by kernel_rfl

theorem of_five {W : World} (h : laidMet Tryd.prog five W) : LaidW W := by
  have h2 : laidMet Tryd.prog (("internal/strconv.uint64pow10", Lib.tabData .u64 Lib.pow10Tab) :: [("strconv.ErrRange", Rows.laid_strconv_ErrRange), ("strconv.ErrSyntax", Rows.laid_strconv_ErrSyntax)]) W := h.tail.tail
  have h3 : laidMet Tryd.prog [("strconv.ErrRange", Rows.laid_strconv_ErrRange), ("strconv.ErrSyntax", Rows.laid_strconv_ErrSyntax)] W := h2.tail
  obtain ⟨a1, s1, v1, _⟩ := laid_sentinel h3 globRan typRan Tryd.underlying76 rowE Tryd.underlying154 Tryd.underlying156 rfl rfl Tryd.underlying9 cellsE cellsS
  obtain ⟨a2, s2, v2, _⟩ := laid_sentinel h3.tail globSyn typSyn Tryd.underlying76 rowE Tryd.underlying154 Tryd.underlying156 rfl rfl Tryd.underlying9 cellsE cellsS
  exact ⟨Lib.tabIs_of_head globPow typPow undPow Tryd.underlying105 cellsU cellsP h2, ⟨_, _, v2⟩, ⟨_, _, v1⟩⟩

/-- The door's own heap meets the condition. -/
theorem door_five (os : Os) (args : Array Value) : laidMet Tryd.prog five ((World.doorLaid Tryd.prog 86 os).forCall (fun _ _ => 0) ⟨#[], args, []⟩).memory :=
  laidMet_of_run' 8 (by kernel_rfl) (by kernel_rfl)
theorem own : ownKnob Tryd.prog.godebug = none := by kernel_rfl
end Go.Proofs.YtlbaojjnilnhlaaDoor.PA
