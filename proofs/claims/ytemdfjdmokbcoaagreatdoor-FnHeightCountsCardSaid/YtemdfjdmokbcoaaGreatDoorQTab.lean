import Derived.Test.YtemdfjdmokbcoaaGreatDoorMoreLex0
import Derived.Lib.TrailingZeros
set_option linter.unusedVariables false
namespace Go.Proofs.YtemdfjdmokbcoaaGreatDoor.T
open Go.RowKit Go.Proofs.YtemdfjdmokbcoaaGreatDoorW.PrintWords
def TabW (w:World):Prop:=∀ j,j < Lib.deBruijn64tab.length → w.cell? ⟨0,j,none⟩ = some (.int .u8 (Lib.deBruijn64tab.getD j 0))
theorem TabW.below {w W:World} (h:TabW w) (hb:Below w.heap.size w W):TabW W:=fun j hj=>pw_cell_below hb (h j hj)
theorem TabW.drewN {w:World} (h:TabW w) (n:Nat):TabW (w.drewN n):=h.below (pw_below_drewN (Below.refl _ _) n)
theorem TabW.drew {w:World} (h:TabW w):TabW w.drew:=h.below (below_drew (Below.refl _ _))
theorem TabW.alloc {w:World} (h:TabW w) (o:Obj):TabW (w.alloc o):=h.below (below_alloc (Below.refl _ _) o)
end Go.Proofs.YtemdfjdmokbcoaaGreatDoor.T
