import Derived.Test.YtemdfjdmokbcoaaDoorQOrder
set_option linter.unusedVariables false
set_option linter.unusedSimpArgs false
/-! Traces read backwards; prefixes and meets. -/
namespace Go.Proofs.YtemdfjdmokbcoaaDoor.Q
open Go.RowKit Go.Proofs.YtemdfjdmokbcoaaDoorW.PrintWords
section
variable (f : Nat → Nat → Bool)
theorem back_pull (hs : ∀ a b, f a b = f b a) (a : Nat) : ∀ v : List Nat, isFirst f v a = true → TrEq f v.reverse ((v.erase a).reverse ++ [a]) := by
  intro v
  induction v with
  | nil => intro h; simp [isFirst] at h
  | cons b v ih =>
    intro h
    by_cases e : b = a
    · subst e
      rw [List.erase_cons_head, List.reverse_cons]
      exact TrEq.refl f _
    · have h4 : f b a = false ∧ isFirst f v a = true := by simpa [isFirst, e] using h
      rw [List.erase_cons_tail (by simpa using e), List.reverse_cons, List.reverse_cons]
      refine TrEq.trans f hs (TrEq.append_right f hs (ih h4.2) [b]) ?_
      rw [List.append_assoc, List.append_assoc]
      refine TrEq.append_left f _ ?_
      exact TrEq.swap f h4.1 []
theorem TrEq.reverse (hs : ∀ a b, f a b = f b a) : ∀ {u v : List Nat}, TrEq f u v → TrEq f u.reverse v.reverse := by
  intro u
  induction u with
  | nil => intro v h; rw [TrEq.nil_iff] at h; subst h; exact TrEq.refl f _
  | cons a u ih =>
    intro v h
    obtain ⟨h1, h2⟩ := (TrEq.cons_iff f).1 h
    rw [List.reverse_cons]
    exact TrEq.trans f hs (TrEq.append_right f hs (ih h2) [a]) (TrEq.symm f hs (back_pull f hs a v h1))
/-- a prefix of a prefix -/
theorem cutP_trans (hs : ∀ a b, f a b = f b a) {p u v a b : List Nat} (h1 : cutP f p u = some a) (h2 : cutP f u v = some b) : ∃ c, cutP f p v = some c ∧ TrEq f c (a ++ b) := by
  have e1 := cutP_spec f hs h1
  have e2 := cutP_spec f hs h2
  have e3 : TrEq f (p ++ (a ++ b)) v := TrEq.symm f hs (TrEq.trans f hs e2 (by rw [← List.append_assoc]; exact TrEq.append_right f hs e1 b))
  obtain ⟨c, c1, c2⟩ := cutP_TrEq_right f hs e3 (cutP_self_append f p (a ++ b))
  exact ⟨c, c1, TrEq.symm f hs c2⟩
/-- a common prefix is a prefix of the meet -/
theorem Meets.greatest (hs : ∀ a b, f a b = f b a) {u v p a b : List Nat} (h : Meets f u v p a b) : ∀ {q x y : List Nat}, cutP f q u = some x → cutP f q v = some y → ∃ z, cutP f q p = some z := by
  intro q
  induction q generalizing u v p with
  | nil => intro x y _ _; exact ⟨p, rfl⟩
  | cons c q ih =>
    intro x y h1 h2
    have g1 := cutP_first f hs h1 (isFirst_head f c q)
    have g2 := cutP_first f hs h2 (isFirst_head f c q)
    have g3 := Meets.first f hs h g1 g2
    obtain ⟨k1, k2, k3⟩ := h
    rw [cutP_cons, if_pos g1] at h1
    rw [cutP_cons, if_pos g2] at h2
    rw [cutP_erase f hs g3 g1] at k1
    rw [cutP_erase f hs g3 g2] at k2
    obtain ⟨z, hz⟩ := ih ⟨k1, k2, k3⟩ h1 h2
    exact ⟨z, by rw [cutP_cons, if_pos g3]; exact hz⟩
theorem Meets.symm {u v p a b : List Nat} (h : Meets f u v p a b) : Meets f v u p b a := ⟨h.2.1, h.1, fun c hc => h.2.2 c ⟨hc.2, hc.1⟩⟩
theorem Meets.TrEq (hs : ∀ a b, f a b = f b a) {u v p a b u' v' : List Nat} (h : Meets f u v p a b) (hu : Q.TrEq f u u') (hv : Q.TrEq f v v') : ∃ a' b', Meets f u' v' p a' b' ∧ Q.TrEq f a a' ∧ Q.TrEq f b b' := by
  obtain ⟨a', a1, a2⟩ := cutP_TrEq_right f hs hu h.1
  obtain ⟨b', b1, b2⟩ := cutP_TrEq_right f hs hv h.2.1
  exact ⟨a', b', ⟨a1, b1, fun c hc => h.2.2 c ⟨by rw [(TrEq.first f hs a2 c).1]; exact hc.1, by rw [(TrEq.first f hs b2 c).1]; exact hc.2⟩⟩, a2, b2⟩
/-- a word that is independent of another one goes past it -/
theorem apart_comm (hs : ∀ a b, f a b = f b a) {n : Nat} (hr : ∀ a, a < n → f a a = true) : ∀ (a b : List Nat), (∀ x ∈ a, x < n) → apartP f a b = true → TrEq f (b ++ a) (a ++ b) := by
  intro a
  induction a with
  | nil => intro b _ _; rw [List.append_nil]; exact TrEq.refl f b
  | cons x a ih =>
    intro b ha h
    have h' := (apartP_iff f (x :: a) b).1 h
    have hx : ∀ y ∈ b, f y x = false := fun y hy => by rw [hs]; exact h' x (by simp) y hy
    have hn : x ∉ b := fun hm => by
      have := hx x hm
      rw [hr x (ha x (by simp))] at this; cases this
    have t1 : TrEq f (b ++ [x]) (x :: b) := TrEq.over f hs hx hn
    have t2 := ih b (fun y hy => ha y (by simp [hy])) ((apartP_iff f a b).2 fun y hy z hz => h' y (by simp [hy]) z hz)
    have e : b ++ x :: a = (b ++ [x]) ++ a := by simp
    rw [e]
    refine TrEq.trans f hs (TrEq.append_right f hs t1 a) ?_
    rw [List.cons_append, List.cons_append]
    exact TrEq.cons f t2
end
end Go.Proofs.YtemdfjdmokbcoaaDoor.Q
