import Derived.Test.YtemdfjdmokbcoaaDoorMoreLex0
import Derived.Lib.TrailingZeros
set_option linter.unusedVariables false
/-! The one table of the library's that the program reads: math/bits.deBruijn64tab. -/
namespace Go.Proofs.YtemdfjdmokbcoaaDoor.T
open Go.RowKit Go.Proofs.YtemdfjdmokbcoaaDoorW.PrintWords
/-- the table lies in its variable -/
def TabW (w : World) : Prop := ∀ j, j < Lib.deBruijn64tab.length → w.cell? ⟨0, j, none⟩ = some (.int .u8 (Lib.deBruijn64tab.getD j 0))
theorem TabW.below {w W : World} (h : TabW w) (hb : Below w.heap.size w W) : TabW W := fun j hj => pw_cell_below hb (h j hj)
theorem TabW.drewN {w : World} (h : TabW w) (n : Nat) : TabW (w.drewN n) := h.below (pw_below_drewN (Below.refl _ _) n)
theorem TabW.drew {w : World} (h : TabW w) : TabW w.drew := h.below (below_drew (Below.refl _ _))
theorem TabW.alloc {w : World} (h : TabW w) (o : Obj) : TabW (w.alloc o) := h.below (below_alloc (Below.refl _ _) o)
end Go.Proofs.YtemdfjdmokbcoaaDoor.T
