import Derived.Test.YtkiacoilecdepaaDoorQOrder
set_option linter.unusedVariables false
set_option linter.unusedSimpArgs false
/-! Traces read backwards; prefixes and meets. -/
namespace Go.Proofs.YtkiacoilecdepaaDoor.Q
open Go.RowKit Go.Proofs.YtkiacoilecdepaaDoorW.PrintWords
section
variable (f : Nat → Nat → Bool)
theorem back_pull (hs : ∀ a b, f a b = f b a) (a : Nat) : ∀ v : List Nat, isFirst f v a = true → TrEq f v.reverse ((v.erase a).reverse ++ [a]) := by
  intro v
  induction v with
  | nil => intro h; simp [isFirst] at h
  | cons b v ih =>
    intro h
    by_cases e : b = a
    · subst e
      rw [List.erase_cons_head, List.reverse_cons]
      exact TrEq.refl f _
    · have h4 : f b a = false ∧ isFirst f v a = true := by simpa [isFirst, e] using h
      rw [List.erase_cons_tail (by simpa using e), List.reverse_cons, List.reverse_cons]
      refine TrEq.trans f hs (TrEq.append_right f hs (ih h4.2) [b]) ?_
      rw [List.append_assoc, List.append_assoc]
      refine TrEq.append_left f _ ?_
      exact TrEq.swap f h4.1 []
theorem TrEq.reverse (hs : ∀ a b, f a b = f b a) : ∀ {u v : List Nat}, TrEq f u v → TrEq f u.reverse v.reverse := by
  intro u
  induction u with
  | nil => intro v h; rw [TrEq.nil_iff] at h; subst h; exact TrEq.refl f _
  | cons a u ih =>
    intro v h
    obtain ⟨h1, h2⟩ := (TrEq.cons_iff f).1 h
    rw [List.reverse_cons]
    exact TrEq.trans f hs (TrEq.append_right f hs (ih h2) [a]) (TrEq.symm f hs (back_pull f hs a v h1))
theorem Meets.symm {u v p a b : List Nat} (h : Meets f u v p a b) : Meets f v u p b a := ⟨h.2.1, h.1, fun c hc => h.2.2 c ⟨hc.2, hc.1⟩⟩
theorem Meets.TrEq (hs : ∀ a b, f a b = f b a) {u v p a b u' v' : List Nat} (h : Meets f u v p a b) (hu : Q.TrEq f u u') (hv : Q.TrEq f v v') : ∃ a' b', Meets f u' v' p a' b' ∧ Q.TrEq f a a' ∧ Q.TrEq f b b' := by
  obtain ⟨a', a1, a2⟩ := cutP_TrEq_right f hs hu h.1
  obtain ⟨b', b1, b2⟩ := cutP_TrEq_right f hs hv h.2.1
  exact ⟨a', b', ⟨a1, b1, fun c hc => h.2.2 c ⟨by rw [(TrEq.first f hs a2 c).1]; exact hc.1, by rw [(TrEq.first f hs b2 c).1]; exact hc.2⟩⟩, a2, b2⟩
end
end Go.Proofs.YtkiacoilecdepaaDoor.Q
