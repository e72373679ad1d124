import Derived.Test.YtemdfjdmokbcoaaGreatDoorQRev
set_option linter.unusedVariables false
set_option linter.unusedSimpArgs false
namespace Go.Proofs.YtemdfjdmokbcoaaGreatDoor.Q
open Go.RowKit Go.Proofs.YtemdfjdmokbcoaaGreatDoorW.PrintWords
section
variable (f:Nat → Nat → Bool)
theorem first_append {c:Nat} {x:List Nat}:∀ {a:List Nat},isFirst f (a ++ x) c = true → isFirst f a c = true ∨ (c ∉ a ∧ (∀ d ∈ a,f d c = false) ∧ isFirst f x c = true):=by
  intro a
  induction a with
  | nil=>intro h;exact .inr ⟨by simp,by simp,h⟩
  | cons d a ih =>
    intro h
    rw [List.cons_append] at h
    by_cases e:d = c
    · subst e;exact .inl (isFirst_head f d a)
    · have h4:f d c = false ∧ isFirst f (a ++ x) c = true:=by simpa [isFirst,e] using h
      rcases ih h4.2 with h5 | ⟨h5,h6,h7⟩
      · exact .inl (by simp [isFirst,e,h4.1,h5])
      · refine .inr ⟨?_,?_,h7⟩
        · intro hm
          rcases List.mem_cons.1 hm with hm | hm
          · exact e hm.symm
          · exact h5 hm
        · intro y hy
          rcases List.mem_cons.1 hy with hy | hy
          · rw [hy];exact h4.1
          · exact h6 y hy
end
end Go.Proofs.YtemdfjdmokbcoaaGreatDoor.Q
