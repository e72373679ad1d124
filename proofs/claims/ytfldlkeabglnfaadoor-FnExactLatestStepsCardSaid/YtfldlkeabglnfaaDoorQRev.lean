import Derived.Test.YtfldlkeabglnfaaDoorQOrder
set_option linter.unusedVariables false
set_option linter.unusedSimpArgs false
/-! Traces read backwards; prefixes and meets. -/
namespace Go.Proofs.YtfldlkeabglnfaaDoor.Q
open Go.RowKit Go.Proofs.YtfldlkeabglnfaaDoorW.PrintWords
section
variable (f : Nat → Nat → Bool)
theorem back_pull (hs : ∀ a b, f a b = f b a) (a : Nat) : ∀ v : List Nat, isFirst f v a = true → TrEq f v.reverse ((v.erase a).reverse ++ [a]) := by
 intro v
 induction v with
 | nil => intro h; simp [isFirst] at h
 | cons b v ih =>
  intro h
  by_cases e : b = a
  ·subst e
   rw [List.erase_cons_head, List.reverse_cons]
   exact TrEq.refl f _
  ·have h4 : f b a = false ∧ isFirst f v a = true := by simpa [isFirst, e] using h
   rw [List.erase_cons_tail (by simpa using e), List.reverse_cons, List.reverse_cons]
   refine TrEq.trans f hs (TrEq.append_right f hs (ih h4.2) [b]) ?_
   rw [List.append_assoc, List.append_assoc]
   refine TrEq.append_left f _ ?_
   exact TrEq.swap f h4.1 []
theorem TrEq.reverse (hs : ∀ a b, f a b = f b a) : ∀ {u v : List Nat}, TrEq f u v → TrEq f u.reverse v.reverse := by
 intro u
 induction u with
 | nil => intro v h; rw [TrEq.nil_iff] at h; subst h; exact TrEq.refl f _
 | cons a u ih =>
  intro v h
  obtain ⟨h1, h2⟩ := (TrEq.cons_iff f).1 h
  rw [List.reverse_cons]
  exact TrEq.trans f hs (TrEq.append_right f hs (ih h2) [a]) (TrEq.symm f hs (back_pull f hs a v h1))
/-- a common prefix is a prefix of the meet -/
theorem Meets.greatest (hs : ∀ a b, f a b = f b a) {u v p a b : List Nat} (h : Meets f u v p a b) : ∀ {q x y : List Nat}, cutP f q u = some x → cutP f q v = some y → ∃ z, cutP f q p = some z := by
 intro q
 induction q generalizing u v p with
 | nil => intro x y _ _; exact ⟨p, rfl⟩
 | cons c q ih =>
  intro x y h1 h2
  have g1 := cutP_first f hs h1 (isFirst_head f c q)
  have g2 := cutP_first f hs h2 (isFirst_head f c q)
  have g3 := Meets.first f hs h g1 g2
  obtain ⟨k1, k2, k3⟩ := h
  rw [cutP_cons, if_pos g1] at h1
  rw [cutP_cons, if_pos g2] at h2
  rw [cutP_erase f hs g3 g1] at k1
  rw [cutP_erase f hs g3 g2] at k2
  obtain ⟨z, hz⟩ := ih ⟨k1, k2, k3⟩ h1 h2
  exact ⟨z, by rw [cutP_cons, if_pos g3]; exact hz⟩
theorem Meets.symm {u v p a b : List Nat} (h : Meets f u v p a b) : Meets f v u p b a := ⟨h.2.1, h.1, fun c hc => h.2.2 c ⟨hc.2, hc.1⟩⟩
theorem Meets.TrEq (hs : ∀ a b, f a b = f b a) {u v p a b u' v' : List Nat} (h : Meets f u v p a b) (hu : Q.TrEq f u u') (hv : Q.TrEq f v v') : ∃ a' b', Meets f u' v' p a' b' ∧ Q.TrEq f a a' ∧ Q.TrEq f b b' := by
 obtain ⟨a', a1, a2⟩ := cutP_TrEq_right f hs hu h.1
 obtain ⟨b', b1, b2⟩ := cutP_TrEq_right f hs hv h.2.1
 exact ⟨a', b', ⟨a1, b1, fun c hc => h.2.2 c ⟨by rw [(TrEq.first f hs a2 c).1]; exact hc.1, by rw [(TrEq.first f hs b2 c).1]; exact hc.2⟩⟩, a2, b2⟩
end
end Go.Proofs.YtfldlkeabglnfaaDoor.Q
