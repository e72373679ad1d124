import Derived.Test.YthgapkbkhoeleaaDoorQRev
set_option linter.unusedVariables false
set_option linter.unusedSimpArgs false
/-! Upper bounds of two traces: the join is the least one; residuals of residuals. -/
namespace Go.Proofs.YthgapkbkhoeleaaDoor.Q
open Go.RowKit Go.Proofs.YthgapkbkhoeleaaDoorW.PrintWords
section
variable (f : Nat → Nat → Bool)
theorem first_append {c : Nat} {x : List Nat} : ∀ {a : List Nat}, isFirst f (a ++ x) c = true → isFirst f a c = true ∨ (c ∉ a ∧ (∀ d ∈ a, f d c = false) ∧ isFirst f x c = true) := by
  intro a
  induction a with
  | nil => intro h; exact .inr ⟨by simp, by simp, h⟩
  | cons d a ih =>
    intro h
    rw [List.cons_append] at h
    by_cases e : d = c
    · subst e; exact .inl (isFirst_head f d a)
    · have h4 : f d c = false ∧ isFirst f (a ++ x) c = true := by simpa [isFirst, e] using h
      rcases ih h4.2 with h5 | ⟨h5, h6, h7⟩
      · exact .inl (by simp [isFirst, e, h4.1, h5])
      · refine .inr ⟨?_, ?_, h7⟩
        · intro hm
          rcases List.mem_cons.1 hm with hm | hm
          · exact e hm.symm
          · exact h5 hm
        · intro y hy
          rcases List.mem_cons.1 hy with hy | hy
          · rw [hy]; exact h4.1
          · exact h6 y hy
theorem upper_core (hs : ∀ a b, f a b = f b a) : ∀ (b a K x y : List Nat), cutP f a K = some x → cutP f b K = some y → (∀ c, ¬ (isFirst f a c = true ∧ isFirst f b c = true)) → apartP f a b = true ∧ ∃ z, cutP f (a ++ b) K = some z := by
  intro b
  induction b with
  | nil =>
    intro a K x y h1 _ _
    exact ⟨(apartP_iff f a []).2 (by simp), x, by rw [List.append_nil]; exact h1⟩
  | cons c b ih =>
    intro a K x y h1 h2 hno
    have hK : isFirst f K c = true := cutP_first f hs h2 (isFirst_head f c b)
    have t1 := cutP_spec f hs h1
    have hax : isFirst f (a ++ x) c = true := by rw [← (TrEq.first f hs t1 c).1]; exact hK
    rcases first_append f hax with hf | ⟨n1, n2, n3⟩
    · exact absurd ⟨hf, isFirst_head f c b⟩ (hno c)
    · have t2 := (TrEq.first f hs t1 c).2 hK
      rw [List.erase_append_right _ n1] at t2
      obtain ⟨x', h1', _⟩ := cutP_TrEq_right f hs (TrEq.symm f hs t2) (cutP_self_append f a (x.erase c))
      have h2' : cutP f b (K.erase c) = some y := by rwa [cutP_cons, if_pos hK] at h2
      obtain ⟨i1, z, i2⟩ := ih a (K.erase c) x' y h1' h2' (fun d hd => by
        have hda := isFirst_mem f hd.1
        have hne : ¬ c = d := fun e => n1 (e ▸ hda)
        refine hno d ⟨hd.1, ?_⟩
        simp [isFirst, hne, hd.2, show f c d = false by rw [hs]; exact n2 d hda])
      refine ⟨(apartP_iff f a (c :: b)).2 fun y hy w hw => ?_, z, ?_⟩
      · rcases List.mem_cons.1 hw with hw | hw
        · rw [hw]; exact n2 y hy
        · exact (apartP_iff f a b).1 i1 y hy w hw
      · have t3 : TrEq f (a ++ c :: b) (c :: (a ++ b)) := by
          have := TrEq.append_right f hs (TrEq.over f hs n2 n1) b
          rwa [List.append_assoc, List.cons_append, List.nil_append, List.cons_append] at this
        rw [cutP_TrEq f hs t3, cutP_cons, if_pos hK]
        exact i2
/-- two traces with an upper bound are compatible, and their join is a prefix of it -/
theorem Meets.upper (hs : ∀ a b, f a b = f b a) {u v p a b K x y : List Nat} (h : Meets f u v p a b) (hu : cutP f u K = some x) (hv : cutP f v K = some y) : apartP f a b = true ∧ ∃ z, cutP f (u ++ b) K = some z := by
  have tu := cutP_spec f hs h.1
  have tv := cutP_spec f hs h.2.1
  rw [cutP_TrEq f hs tu, cutP_append] at hu
  rw [cutP_TrEq f hs tv, cutP_append] at hv
  obtain ⟨K', k1, k2⟩ := Option.bind_eq_some_iff.1 hu
  rw [k1] at hv
  obtain ⟨i1, z, i2⟩ := upper_core f hs b a K' x y k2 hv h.2.2
  refine ⟨i1, z, ?_⟩
  rw [cutP_TrEq f hs (TrEq.append_right f hs tu b), List.append_assoc, cutP_append, k1]
  exact i2
theorem Meets.swap (hs : ∀ a b, f a b = f b a) {n : Nat} (hr : ∀ a, a < n → f a a = true) {u v p a b : List Nat} (ha : ∀ x ∈ a, x < n) (h : Meets f u v p a b) (g : apartP f a b = true) : Q.TrEq f (v ++ a) (u ++ b) := by
  have t1 : Q.TrEq f (v ++ a) ((p ++ b) ++ a) := TrEq.append_right f hs (cutP_spec f hs h.2.1) a
  have t2 : Q.TrEq f (u ++ b) ((p ++ a) ++ b) := TrEq.append_right f hs (cutP_spec f hs h.1) b
  have t3 : Q.TrEq f ((p ++ b) ++ a) ((p ++ a) ++ b) := by
    rw [List.append_assoc, List.append_assoc]
    exact TrEq.append_left f p (apart_comm f hs hr a b ha g)
  exact TrEq.trans f hs t1 (TrEq.trans f hs t3 (TrEq.symm f hs t2))
/-- what is cut off, as a trace -/
theorem cutP_of (hs : ∀ a b, f a b = f b a) {p r u : List Nat} (h : Q.TrEq f (p ++ r) u) : ∃ r', cutP f p u = some r' ∧ Q.TrEq f r r' := cutP_TrEq_right f hs h (cutP_self_append f p r)
/-- two factorisations of one trace -/
theorem levi (hs : ∀ a b, f a b = f b a) {n : Nat} (hr : ∀ a, a < n → f a a = true) {u v y z p q r : List Nat} (hq : ∀ x ∈ q, x < n) (h : Meets f u y p q r) (t : Q.TrEq f (u ++ v) (y ++ z)) : apartP f q r = true ∧ ∃ s, cutP f r v = some s ∧ Q.TrEq f (q ++ s) z := by
  have cu := cutP_self_append f u v
  obtain ⟨z', cz, tz⟩ := cutP_of f hs (TrEq.symm f hs t)
  obtain ⟨g, s, cs⟩ := Meets.upper f hs h cu cz
  rw [cutP_append, cu] at cs
  have cs' : cutP f r v = some s := cs
  have sw := TrEq.append_right f hs (Meets.swap f hs hr hq h g) s
  have tv := TrEq.append_left f u (TrEq.symm f hs (cutP_spec f hs cs'))
  rw [List.append_assoc, List.append_assoc] at sw
  obtain ⟨z2, c2, t2⟩ := cutP_of f hs (TrEq.trans f hs sw tv)
  rw [cz] at c2
  obtain rfl := Option.some.inj c2
  exact ⟨g, s, cs', TrEq.trans f hs t2 (TrEq.symm f hs tz)⟩
end
end Go.Proofs.YthgapkbkhoeleaaDoor.Q
