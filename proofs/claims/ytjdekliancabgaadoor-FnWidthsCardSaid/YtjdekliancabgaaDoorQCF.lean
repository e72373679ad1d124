import Derived.Test.YtjdekliancabgaaDoorQDraw
import Derived.Test.YtjdekliancabgaaDoorQOrder
import Derived.Test.YtjdekliancabgaaDoorQInv
set_option linter.unusedVariables false
set_option linter.unusedSimpArgs false
namespace Go.Proofs.YtjdekliancabgaaDoor.Q
open Go.RowKit Go.Proofs.YtjdekliancabgaaDoorW.PrintWords
def sumN:Nat → (Nat → Nat) → Nat
  | 0,_=>0
  | m + 1,g=>sumN m g + g m
section
variable (m:Nat) (f:Nat → Nat → Bool)
def aP:Nat → (Nat → Bool) → Nat
  | 0,_=>1
  | n + 1,p=>sumN m fun c=>if p c = true then 0 else aP n fun b=>(p b || decide (b < c)) && !f c b
def nP (n:Nat):Nat:=aP m f n fun _=>false
def sgnP (C:Nat):Int:=1 - 2 * ((pcP C % 2:Nat):Int)
def zP (n:Nat) (L:List Nat):Int:=(L.map fun C=>if pcP C ≤ n then sgnP C * (nP m f (n - pcP C):Int) else 0).sum
end
end Go.Proofs.YtjdekliancabgaaDoor.Q
