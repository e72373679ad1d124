import Derived.Test.YtemdfjdmokbcoaaGreatDoorQOrder
set_option linter.unusedVariables false
set_option linter.unusedSimpArgs false
namespace Go.Proofs.YtemdfjdmokbcoaaGreatDoor.Q
open Go.RowKit Go.Proofs.YtemdfjdmokbcoaaGreatDoorW.PrintWords
section
variable (f:Nat → Nat → Bool)
theorem Meets.symm {u v p a b:List Nat} (h:Meets f u v p a b):Meets f v u p b a:=⟨h.2.1,h.1,fun c hc=>h.2.2 c ⟨hc.2,hc.1⟩⟩
theorem Meets.TrEq (hs:∀ a b,f a b = f b a) {u v p a b u' v' : List Nat} (h:Meets f u v p a b) (hu:Q.TrEq f u u') (hv:Q.TrEq f v v'):∃ a' b', Meets f u' v' p a' b' ∧ Q.TrEq f a a' ∧ Q.TrEq f b b' := by
  obtain ⟨a', a1,a2⟩:=cutP_TrEq_right f hs hu h.1
  obtain ⟨b', b1,b2⟩:=cutP_TrEq_right f hs hv h.2.1
  exact ⟨a', b', ⟨a1,b1,fun c hc=>h.2.2 c ⟨by rw [(TrEq.first f hs a2 c).1];exact hc.1,by rw [(TrEq.first f hs b2 c).1];exact hc.2⟩⟩,a2,b2⟩
end
end Go.Proofs.YtemdfjdmokbcoaaGreatDoor.Q
