import Derived.Test.YtemdfjdmokbcoaaGreatDoorMoreLex0
import Derived.ProofKit
import Derived.Lib.SmallJoins
set_option linter.unusedVariables false
set_option linter.unusedSimpArgs false
namespace Go.Proofs.YtemdfjdmokbcoaaGreatDoor.T
open Go.RowKit Go.ChangeShapes Go.WideShapes Go.ChangeAt Go.Proofs.YtemdfjdmokbcoaaGreatDoorW.PrintWords
variable {H:Type} {enc:TypeId × Value → H} {P:Program} {W:World}
theorem open_sl {t e : TypeId} {k : IntKind} {fuel : Nat} {v : Value} {x : DataW H × List MemPlace} {held : Bool} (ht : P.underlying t = some (.slice e)) (he : P.underlying e = some (.int k)) (hc : P.cellsOf e = 1)
    (h:DataW.trod enc P W 0 (fun _=>true) held fuel t [v] = some x) :
    ∃ (A:Option Addr) (cap:Nat) (l:List Int),v = .slice A l.length cap ∧ l.length ≤ maxLen ∧ (∀ n ∈ l,(Lit.int k n).wf = true) ∧ l.length ≤ cap ∧ Kd.C (Kd.int k) W A l.length l:=by
  rcases open_ints ht he hc h with ⟨hcs,_⟩ | ⟨a,len,cap,zs,hcs,_,hl,hm,hz,_,hcell,hwz⟩
  · simp only [List.cons.injEq,and_true] at hcs
    subst hcs
    exact ⟨none,0,[],rfl,by simp,by simp,by simp,Kd.C_nil _ _⟩
  · simp only [List.cons.injEq,and_true] at hcs
    subst hcs
    obtain ⟨l,rfl,hr,h1,h2,h3⟩:=ReadsInt.ofRowC (w:=W) (k:=k) (a:=some a) (len:=len) (cap:=cap) (zs:=zs) (.inr ⟨a,rfl,hl,hm,by simpa using hz,hcell,hwz⟩)
    exact ⟨some a,cap,l,rfl,h1,h2,h3,Kd.C_of_reads (d:=(0:Int)) (h1:=fun _=>rfl) hr⟩
end Go.Proofs.YtemdfjdmokbcoaaGreatDoor.T
