/-
  What the listed package variables give a walk: the premise 'LaidW' on a world, and that it stands in each later world that keeps what lay there.
-/
import Derived.Test.YtlbaojjnilnhlaaDoorProg
import Derived.Lib.LaidTab
import Derived.WalkSmall
import Derived.Below
import Derived.Shelf.Strconv.Itoa3
namespace Go.Proofs.YtlbaojjnilnhlaaDoor.PA
open Go.RowKit

/-- The variables that strconv's Atoi and Itoa read hold what their initialisers lay. -/
def LaidW (w : World) : Prop :=
  Lib.TabIs Tryd.prog w "internal/strconv.uint64pow10" .u64 Lib.pow10Tab ∧
  (∃ tp p, w.var? Tryd.prog "strconv.ErrSyntax" = some #[.iface tp p]) ∧ (∃ tp p, w.var? Tryd.prog "strconv.ErrRange" = some #[.iface tp p])

theorem globPow : Tryd.prog.globalNamed "internal/strconv.uint64pow10" = some 5 := by kernel_rfl
theorem globSyn : Tryd.prog.globalNamed "strconv.ErrSyntax" = some 3 := by kernel_rfl
theorem globRan : Tryd.prog.globalNamed "strconv.ErrRange" = some 4 := by kernel_rfl

theorem var_lt {w : World} {n : String} {g : Nat} {cs : Array Value} (hg : Tryd.prog.globalNamed n = some g) (h : w.var? Tryd.prog n = some cs) : g < w.heap.size := by
  unfold World.var? at h
  rw [hg, Option.bind_some] at h
  rcases Nat.lt_or_ge g w.heap.size with hl | hl
  · exact hl
  · rw [Array.getElem?_eq_none hl] at h
    simp at h

theorem LaidW.below {w w' : World} (h : LaidW w) (hb : Below w.heap.size w w') : LaidW w' := by
  obtain ⟨h1, ⟨t2, p2, h2⟩, ⟨t3, p3, h3⟩⟩ := h
  exact ⟨var?_below hb globPow (var_lt globPow h1) h1, ⟨t2, p2, var?_below hb globSyn (var_lt globSyn h2) h2⟩, ⟨t3, p3, var?_below hb globRan (var_lt globRan h3) h3⟩⟩

end Go.Proofs.YtlbaojjnilnhlaaDoor.PA
