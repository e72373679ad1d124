import Derived.Test.YthgapkbkhoeleaaDoorQRev
set_option linter.unusedVariables false
set_option linter.unusedSimpArgs false
/-! Upper bounds of two traces: the join is the least one; residuals of residuals. -/
namespace Go.Proofs.YthgapkbkhoeleaaDoor.Q
open Go.RowKit Go.Proofs.YthgapkbkhoeleaaDoorW.PrintWords
section
variable (f : Nat → Nat → Bool)
theorem first_append {c : Nat} {x : List Nat} : ∀ {a : List Nat}, isFirst f (a ++ x) c = true → isFirst f a c = true ∨ (c ∉ a ∧ (∀ d ∈ a, f d c = false) ∧ isFirst f x c = true) := by
  intro a
  induction a with
  | nil => intro h; exact .inr ⟨by simp, by simp, h⟩
  | cons d a ih =>
    intro h
    rw [List.cons_append] at h
    by_cases e : d = c
    · subst e; exact .inl (isFirst_head f d a)
    · have h4 : f d c = false ∧ isFirst f (a ++ x) c = true := by simpa [isFirst, e] using h
      rcases ih h4.2 with h5 | ⟨h5, h6, h7⟩
      · exact .inl (by simp [isFirst, e, h4.1, h5])
      · refine .inr ⟨?_, ?_, h7⟩
        · intro hm
          rcases List.mem_cons.1 hm with hm | hm
          · exact e hm.symm
          · exact h5 hm
        · intro y hy
          rcases List.mem_cons.1 hy with hy | hy
          · rw [hy]; exact h4.1
          · exact h6 y hy
theorem upper_core (hs : ∀ a b, f a b = f b a) : ∀ (b a K x y : List Nat), cutP f a K = some x → cutP f b K = some y → (∀ c, ¬ (isFirst f a c = true ∧ isFirst f b c = true)) → apartP f a b = true ∧ ∃ z, cutP f (a ++ b) K = some z := by
  intro b
  induction b with
  | nil =>
    intro a K x y h1 _ _
    exact ⟨(apartP_iff f a []).2 (by simp), x, by rw [List.append_nil]; exact h1⟩
  | cons c b ih =>
    intro a K x y h1 h2 hno
    have hK : isFirst f K c = true := cutP_first f hs h2 (isFirst_head f c b)
    have t1 := cutP_spec f hs h1
    have hax : isFirst f (a ++ x) c = true := by rw [← (TrEq.first f hs t1 c).1]; exact hK
    rcases first_append f hax with hf | ⟨n1, n2, n3⟩
    · exact absurd ⟨hf, isFirst_head f c b⟩ (hno c)
    · have t2 := (TrEq.first f hs t1 c).2 hK
      rw [List.erase_append_right _ n1] at t2
      obtain ⟨x', h1', _⟩ := cutP_TrEq_right f hs (TrEq.symm f hs t2) (cutP_self_append f a (x.erase c))
      have h2' : cutP f b (K.erase c) = some y := by rwa [cutP_cons, if_pos hK] at h2
      obtain ⟨i1, z, i2⟩ := ih a (K.erase c) x' y h1' h2' (fun d hd => by
        have hda := isFirst_mem f hd.1
        have hne : ¬ c = d := fun e => n1 (e ▸ hda)
        refine hno d ⟨hd.1, ?_⟩
        simp [isFirst, hne, hd.2, show f c d = false by rw [hs]; exact n2 d hda])
      refine ⟨(apartP_iff f a (c :: b)).2 fun y hy w hw => ?_, z, ?_⟩
      · rcases List.mem_cons.1 hw with hw | hw
        · rw [hw]; exact n2 y hy
        · exact (apartP_iff f a b).1 i1 y hy w hw
      · have t3 : TrEq f (a ++ c :: b) (c :: (a ++ b)) := by
          have := TrEq.append_right f hs (TrEq.over f hs n2 n1) b
          rwa [List.append_assoc, List.cons_append, List.nil_append, List.cons_append] at this
        rw [cutP_TrEq f hs t3, cutP_cons, if_pos hK]
        exact i2
/-- two traces with an upper bound are compatible, and their join is a prefix of it -/
theorem Meets.upper (hs : ∀ a b, f a b = f b a) {u v p a b K x y : List Nat} (h : Meets f u v p a b) (hu : cutP f u K = some x) (hv : cutP f v K = some y) : apartP f a b = true ∧ ∃ z, cutP f (u ++ b) K = some z := by
  have tu := cutP_spec f hs h.1
  have tv := cutP_spec f hs h.2.1
  rw [cutP_TrEq f hs tu, cutP_append] at hu
  rw [cutP_TrEq f hs tv, cutP_append] at hv
  obtain ⟨K', k1, k2⟩ := Option.bind_eq_some_iff.1 hu
  rw [k1] at hv
  obtain ⟨i1, z, i2⟩ := upper_core f hs b a K' x y k2 hv h.2.2
  refine ⟨i1, z, ?_⟩
  rw [cutP_TrEq f hs (TrEq.append_right f hs tu b), List.append_assoc, cutP_append, k1]
  exact i2
theorem Meets.swap (hs : ∀ a b, f a b = f b a) {n : Nat} (hr : ∀ a, a < n → f a a = true) {u v p a b : List Nat} (ha : ∀ x ∈ a, x < n) (h : Meets f u v p a b) (g : apartP f a b = true) : Q.TrEq f (v ++ a) (u ++ b) := by
  have t1 : Q.TrEq f (v ++ a) ((p ++ b) ++ a) := TrEq.append_right f hs (cutP_spec f hs h.2.1) a
  have t2 : Q.TrEq f (u ++ b) ((p ++ a) ++ b) := TrEq.append_right f hs (cutP_spec f hs h.1) b
  have t3 : Q.TrEq f ((p ++ b) ++ a) ((p ++ a) ++ b) := by
    rw [List.append_assoc, List.append_assoc]
    exact TrEq.append_left f p (apart_comm f hs hr a b ha g)
  exact TrEq.trans f hs t1 (TrEq.trans f hs t3 (TrEq.symm f hs t2))
theorem apart_symm (hs : ∀ a b, f a b = f b a) {a b : List Nat} (h : apartP f a b = true) : apartP f b a = true := (apartP_iff f b a).2 fun x hx y hy => by rw [hs]; exact (apartP_iff f a b).1 h y hy x hx
/-- what is cut off, as a trace -/
theorem cutP_of (hs : ∀ a b, f a b = f b a) {p r u : List Nat} (h : Q.TrEq f (p ++ r) u) : ∃ r', cutP f p u = some r' ∧ Q.TrEq f r r' := cutP_TrEq_right f hs h (cutP_self_append f p r)
/-- the residual after a join: w and u have a join where w and (u join v) have one -/
theorem residual_first (hs : ∀ a b, f a b = f b a) {n : Nat} (hr : ∀ a, a < n → f a a = true) {u b J W m1 J1 W1 p2 a2 b2 : List Nat} (hJ1 : ∀ x ∈ J1, x < n) (hJ : Q.TrEq f (u ++ b) J) (hM : Meets f J W m1 J1 W1) (hA : apartP f J1 W1 = true) (h2 : Meets f u W p2 a2 b2) :
    apartP f a2 b2 = true ∧ u.length + b2.length ≤ J.length + W1.length ∧ ∃ X z, cutP f u (J ++ W1) = some X ∧ cutP f b X = some W1 ∧ cutP f b2 X = some z := by
  obtain ⟨j0, hj0, _⟩ := cutP_of f hs hJ
  have e1 : cutP f (u ++ b) (J ++ W1) = some W1 := by rw [cutP_TrEq f hs hJ]; exact cutP_self_append f J W1
  rw [cutP_append] at e1
  obtain ⟨X, x1, x2⟩ := Option.bind_eq_some_iff.1 e1
  obtain ⟨y, y1, _⟩ := cutP_of f hs (Meets.swap f hs hr hJ1 hM hA)
  obtain ⟨g, z, g1⟩ := Meets.upper f hs h2 x1 y1
  have hl := cutP_length f g1
  rw [cutP_append, x1] at g1
  simp only [List.length_append] at hl
  exact ⟨g, by omega, X, z, x1, x2, g1⟩
theorem residual_cube (hs : ∀ a b, f a b = f b a) {n : Nat} (hr : ∀ a, a < n → f a a = true) {u b J W m1 J1 W1 p2 a2 b2 B B2 p3 a3 b3 : List Nat} (hJ1 : ∀ x ∈ J1, x < n) (ha2 : ∀ x ∈ a2, x < n) (ha3 : ∀ x ∈ a3, x < n) (hJ : Q.TrEq f (u ++ b) J) (hM : Meets f J W m1 J1 W1) (hA : apartP f J1 W1 = true)
    (h2 : Meets f u W p2 a2 b2) (hB : Q.TrEq f b B) (hB2 : Q.TrEq f b2 B2) (h3 : Meets f B B2 p3 a3 b3) : apartP f a3 b3 = true ∧ B.length + b3.length + u.length ≤ J.length + W1.length ∧ Q.TrEq f b3 W1 := by
  obtain ⟨g2, l2, X, z, x1, x2, x3⟩ := residual_first f hs hr hJ1 hJ hM hA h2
  rw [cutP_TrEq f hs hB] at x2
  rw [cutP_TrEq f hs hB2] at x3
  obtain ⟨g3, z3, x4⟩ := Meets.upper f hs h3 x2 x3
  have lX := cutP_length f x1
  have l4 := cutP_length f x4
  simp only [List.length_append] at lX l4
  rw [cutP_append, x2] at x4
  have x5 : cutP f b3 W1 = some z3 := x4
  -- an upper bound of J and W
  have tJ : Q.TrEq f (J ++ b3) (u ++ (B ++ b3)) := by
    have := TrEq.append_right f hs (TrEq.trans f hs (TrEq.symm f hs hJ) (TrEq.append_left f u hB)) b3
    rwa [List.append_assoc] at this
  obtain ⟨k1, c1, _⟩ := cutP_of f hs tJ
  have tW : Q.TrEq f (W ++ (a2 ++ a3)) (u ++ (B ++ b3)) := by
    have s1 := TrEq.append_right f hs (Meets.swap f hs hr ha2 h2 g2) a3
    rw [List.append_assoc] at s1
    have s2 := TrEq.append_left f u (TrEq.trans f hs (TrEq.append_right f hs hB2 a3) (Meets.swap f hs hr ha3 h3 g3))
    rw [List.append_assoc] at s1
    exact TrEq.trans f hs s1 s2
  obtain ⟨k2, c2, _⟩ := cutP_of f hs tW
  obtain ⟨_, k3, c3⟩ := Meets.upper f hs hM c1 c2
  have l5 := cutP_length f c3
  have l6 := TrEq.length f tJ
  have l7 := cutP_length f x5
  simp only [List.length_append] at l5 l6
  have : z3 = [] := List.length_eq_zero_iff.1 (by omega)
  subst this
  exact ⟨g3, by omega, x5⟩
/-- two factorisations of one trace -/
theorem levi (hs : ∀ a b, f a b = f b a) {n : Nat} (hr : ∀ a, a < n → f a a = true) {u v y z p q r : List Nat} (hq : ∀ x ∈ q, x < n) (h : Meets f u y p q r) (t : Q.TrEq f (u ++ v) (y ++ z)) : apartP f q r = true ∧ ∃ s, cutP f r v = some s ∧ Q.TrEq f (q ++ s) z := by
  have cu := cutP_self_append f u v
  obtain ⟨z', cz, tz⟩ := cutP_of f hs (TrEq.symm f hs t)
  obtain ⟨g, s, cs⟩ := Meets.upper f hs h cu cz
  rw [cutP_append, cu] at cs
  have cs' : cutP f r v = some s := cs
  have sw := TrEq.append_right f hs (Meets.swap f hs hr hq h g) s
  have tv := TrEq.append_left f u (TrEq.symm f hs (cutP_spec f hs cs'))
  rw [List.append_assoc, List.append_assoc] at sw
  obtain ⟨z2, c2, t2⟩ := cutP_of f hs (TrEq.trans f hs sw tv)
  rw [cz] at c2
  obtain rfl := Option.some.inj c2
  exact ⟨g, s, cs', TrEq.trans f hs t2 (TrEq.symm f hs tz)⟩
end
end Go.Proofs.YthgapkbkhoeleaaDoor.Q
