import Derived.Test.YtemdfjdmokbcoaaGreatDoorQFoata
set_option linter.unusedVariables false
set_option linter.unusedSimpArgs false
namespace Go.Proofs.YtemdfjdmokbcoaaGreatDoor.Q
open Go.RowKit Go.Proofs.YtemdfjdmokbcoaaGreatDoorW.PrintWords
section
variable (f:Nat → Nat → Bool)
def hE (w:List Nat) (i:Nat):Nat:=(hts f w w.length).getD i 0
theorem hE_spec (w:List Nat) (i:Nat) (hi:i < w.length):1 ≤ hE f w i ∧ (∀ j,j < i → f (w.getD j 0) (w.getD i 0) = true → hE f w j + 1 ≤ hE f w i) ∧ (hE f w i = 1 ∨ ∃ j,j < i ∧ f (w.getD j 0) (w.getD i 0) = true ∧ hE f w i = hE f w j + 1):=by
  have g:∀ j k,j < k → k ≤ w.length → (hts f w k).getD j 0 = hE f w j:=fun j k h1 h2=>by
    unfold hE
    have a:=hts_getD f w (k - j - 1) j
    have b:=hts_getD f w (w.length - j - 1) j
    rw [show j + 1 + (k - j - 1) = k by omega] at a
    rw [show j + 1 + (w.length - j - 1) = w.length by omega] at b
    rw [a,b]
  have e:=hts_last f w i
  rw [g i (i + 1) (by omega) (by omega)] at e
  rw [e]
  obtain ⟨p1,p2,p3⟩:=hPart_spec f w (hts f w i) i i
  refine ⟨p1,fun j hj hf=>?_,?_⟩
  · have:=p2 j hj hf
    rwa [g j i hj (by omega)] at this
  · rcases p3 with p3 | ⟨j,j1,j2,j3⟩
    · exact .inl p3
    · exact .inr ⟨j,j1,j2,by rwa [g j i j1 (by omega)] at j3⟩
theorem hE_le (w:List Nat) (i:Nat) (hi:i < w.length):hE f w i ≤ (foataP f w).length:=((stepInv f w w.length).pos i hi).2
theorem foata_some (w:List Nat) (s:Nat) (h:s < (foataP f w).length):∃ j,j < w.length ∧ hE f w j = s + 1:=(stepInv f w w.length).some s h
end
end Go.Proofs.YtemdfjdmokbcoaaGreatDoor.Q
