import Derived.Test.YtemdfjdmokbcoaaDoorQTrace
set_option linter.unusedVariables false
set_option linter.unusedSimpArgs false
/-! Words taken away from words; common beginnings. -/
namespace Go.Proofs.YtemdfjdmokbcoaaDoor.Q
open Go.RowKit Go.Proofs.YtemdfjdmokbcoaaDoorW.PrintWords
section
variable (f : Nat → Nat → Bool)
theorem cutP_cons (a : Nat) (u v : List Nat) : cutP f (a :: u) v = if isFirst f v a then cutP f u (v.erase a) else none := rfl
/-- a letter in front of both is taken away from both -/
theorem cutP_erase (hs : ∀ a b, f a b = f b a) {p u : List Nat} {c : Nat} (hp : isFirst f p c = true) (hu : isFirst f u c = true) : cutP f p u = cutP f (p.erase c) (u.erase c) := by
  induction p generalizing u with
  | nil => simp [isFirst] at hp
  | cons d p ih =>
    by_cases e : d = c
    · subst e
      rw [List.erase_cons_head, cutP_cons, if_pos hu]
    · rw [List.erase_cons_tail (by simpa using e), cutP_cons, cutP_cons]
      have h4 : f d c = false ∧ isFirst f p c = true := by simpa [isFirst, e] using hp
      have h5 : isFirst f u d = isFirst f (u.erase c) d := by rw [first_erase f hs e hu, hs c d, h4.1]; rfl
      by_cases h6 : isFirst f u d = true
      · rw [if_pos h6, if_pos (h5 ▸ h6), List.erase_comm]
        exact ih h4.2 (first_erase_of f hs (Ne.symm e) hu h6).1
      · rw [if_neg h6, if_neg (h5 ▸ h6)]
/-- what stands in front of a prefix stands in front of the word -/
theorem cutP_first (hs : ∀ a b, f a b = f b a) {p u r : List Nat} {c : Nat} (h : cutP f p u = some r) (hp : isFirst f p c = true) : isFirst f u c = true := by
  induction p generalizing u with
  | nil => simp [isFirst] at hp
  | cons d p ih =>
    rw [cutP_cons] at h
    by_cases h6 : isFirst f u d = true
    · rw [if_pos h6] at h
      by_cases e : d = c
      · subst e; exact h6
      · have h4 : f d c = false ∧ isFirst f p c = true := by simpa [isFirst, e] using hp
        rw [first_erase f hs (Ne.symm e) h6, h4.1]
        exact ih h h4.2
    · rw [if_neg h6] at h; cases h
theorem cutP_TrEq (hs : ∀ a b, f a b = f b a) {p q : List Nat} (h : TrEq f p q) (u : List Nat) : cutP f p u = cutP f q u := by
  induction p generalizing q u with
  | nil => rw [TrEq.nil_iff] at h; subst h; rfl
  | cons c p ih =>
    obtain ⟨h1, h2⟩ := (TrEq.cons_iff f).1 h
    rw [cutP_cons]
    by_cases h6 : isFirst f u c = true
    · rw [if_pos h6, ih h2, cutP_erase f hs h1 h6]
    · rw [if_neg h6]
      cases e : cutP f q u with
      | none => rfl
      | some r => exact absurd (cutP_first f hs e h1) h6
theorem cutP_self_append (u v : List Nat) : cutP f u (u ++ v) = some v := by
  induction u with
  | nil => rfl
  | cons a u ih => rw [List.cons_append, cutP_cons, if_pos (isFirst_head f a _), List.erase_cons_head, ih]
theorem cutP_length {p u r : List Nat} (h : cutP f p u = some r) : p.length + r.length = u.length := by
  induction p generalizing u with
  | nil => injection h with h; simp [h]
  | cons c p ih =>
    rw [cutP_cons] at h
    by_cases h6 : isFirst f u c = true
    · rw [if_pos h6] at h
      have := ih h
      have := length_erase f h6
      simp; omega
    · rw [if_neg h6] at h; cases h
theorem cutP_sub {p u r : List Nat} (h : cutP f p u = some r) : ∀ x ∈ r, x ∈ u := by
  induction p generalizing u with
  | nil => injection h with h; subst h; exact fun x hx => hx
  | cons c p ih =>
    rw [cutP_cons] at h
    by_cases h6 : isFirst f u c = true
    · rw [if_pos h6] at h
      exact fun x hx => List.mem_of_mem_erase (ih h x hx)
    · rw [if_neg h6] at h; cases h
theorem cutP_mem {p u r : List Nat} (h : cutP f p u = some r) : ∀ x ∈ p, x ∈ u := by
  induction p generalizing u with
  | nil => intro x hx; cases hx
  | cons c p ih =>
    rw [cutP_cons] at h
    by_cases h6 : isFirst f u c = true
    · rw [if_pos h6] at h
      intro x hx
      rcases List.mem_cons.1 hx with rfl | hx
      · exact isFirst_mem f h6
      · exact List.mem_of_mem_erase (ih h x hx)
    · rw [if_neg h6] at h; cases h
theorem cutP_append (p q u : List Nat) : cutP f (p ++ q) u = (cutP f p u).bind fun r => cutP f q r := by
  induction p generalizing u with
  | nil => rfl
  | cons c p ih =>
    rw [List.cons_append, cutP_cons, cutP_cons]
    by_cases h6 : isFirst f u c = true
    · rw [if_pos h6, if_pos h6, ih]
    · rw [if_neg h6, if_neg h6]; rfl
/-- a prefix and what is left behind it are the word -/
theorem cutP_spec (hs : ∀ a b, f a b = f b a) {p u r : List Nat} (h : cutP f p u = some r) : TrEq f u (p ++ r) := by
  refine TrEq.symm f hs ?_
  unfold TrEq
  rw [cutP_append, h]
  exact TrEq.refl f r
/-- the same, for words of the same trace -/
theorem cutP_TrEq_right (hs : ∀ a b, f a b = f b a) {p u v r : List Nat} (h : TrEq f u v) (hr : cutP f p u = some r) : ∃ r', cutP f p v = some r' ∧ TrEq f r r' := by
  induction p generalizing u v with
  | nil => injection hr with hr; subst hr; exact ⟨v, rfl, h⟩
  | cons c p ih =>
    rw [cutP_cons] at hr
    by_cases h6 : isFirst f u c = true
    · rw [if_pos h6] at hr
      obtain ⟨h1, h2⟩ := TrEq.first f hs h c
      rw [cutP_cons, if_pos (h1 ▸ h6)]
      exact ih (h2 h6) hr
    · rw [if_neg h6] at hr; cases hr
theorem cutP_TrEq_none (hs : ∀ a b, f a b = f b a) {p u v : List Nat} (h : TrEq f u v) (hr : cutP f p u = none) : cutP f p v = none := by
  cases e : cutP f p v with
  | none => rfl
  | some r =>
    obtain ⟨r', h1, _⟩ := cutP_TrEq_right f hs (TrEq.symm f hs h) e
    rw [hr] at h1; cases h1
/-- p is in front of u and of v, a and b are left, and nothing stands in front of both -/
def Meets (u v p a b : List Nat) : Prop := cutP f p u = some a ∧ cutP f p v = some b ∧ ∀ c, ¬ (isFirst f a c = true ∧ isFirst f b c = true)
theorem Meets.first (hs : ∀ a b, f a b = f b a) {u v p a b : List Nat} (h : Meets f u v p a b) {c : Nat} (hu : isFirst f u c = true) (hv : isFirst f v c = true) : isFirst f p c = true := by
  induction p generalizing u v with
  | nil =>
    obtain ⟨h1, h2, h3⟩ := h
    injection h1 with h1
    injection h2 with h2
    subst h1 h2
    exact absurd ⟨hu, hv⟩ (h3 c)
  | cons d p ih =>
    obtain ⟨h1, h2, h3⟩ := h
    rw [cutP_cons] at h1 h2
    by_cases g1 : isFirst f u d = true
    · by_cases g2 : isFirst f v d = true
      · rw [if_pos g1] at h1
        rw [if_pos g2] at h2
        by_cases e : d = c
        · subst e; exact isFirst_head f d p
        · have k1 := first_erase_of f hs (Ne.symm e) hu g1
          have k2 := first_erase_of f hs (Ne.symm e) hv g2
          have := ih ⟨h1, h2, h3⟩ k1.1 k2.1
          simp [isFirst, k1.2, this]
      · rw [if_neg g2] at h2; cases h2
    · rw [if_neg g1] at h1; cases h1
theorem Meets.unique (hs : ∀ a b, f a b = f b a) {u v p a b q a' b' : List Nat} (h : Meets f u v p a b) (k : Meets f u v q a' b') : TrEq f p q ∧ a = a' ∧ b = b' := by
  have key : TrEq f p q := by
    induction p generalizing u v q with
    | nil =>
      obtain ⟨h1, h2, h3⟩ := h
      injection h1 with h1
      injection h2 with h2
      subst h1 h2
      cases q with
      | nil => exact TrEq.refl f []
      | cons d q =>
        have g1 := cutP_first f hs k.1 (isFirst_head f d q)
        have g2 := cutP_first f hs k.2.1 (isFirst_head f d q)
        exact absurd ⟨g1, g2⟩ (h3 d)
    | cons c p ih =>
      have g1 := cutP_first f hs h.1 (isFirst_head f c p)
      have g2 := cutP_first f hs h.2.1 (isFirst_head f c p)
      have g3 := Meets.first f hs k g1 g2
      obtain ⟨k1, k2, k3⟩ := k
      obtain ⟨h1, h2, h3⟩ := h
      rw [cutP_cons, if_pos g1] at h1
      rw [cutP_cons, if_pos g2] at h2
      rw [cutP_erase f hs g3 g1] at k1
      rw [cutP_erase f hs g3 g2] at k2
      exact (TrEq.cons_iff f).2 ⟨g3, ih ⟨h1, h2, h3⟩ ⟨k1, k2, k3⟩⟩
  have e1 := cutP_TrEq f hs key u
  have e2 := cutP_TrEq f hs key v
  rw [h.1, k.1] at e1
  rw [h.2.1, k.2.1] at e2
  exact ⟨key, Option.some.inj e1, Option.some.inj e2⟩
theorem Meets.cons {u v p a b : List Nat} {c : Nat} (hu : isFirst f u c = true) (hv : isFirst f v c = true) (h : Meets f (u.erase c) (v.erase c) p a b) : Meets f u v (c :: p) a b :=
  ⟨by rw [cutP_cons, if_pos hu]; exact h.1, by rw [cutP_cons, if_pos hv]; exact h.2.1, h.2.2⟩
theorem Meets.le {u v p a b : List Nat} (h : Meets f u v p a b) : p.length ≤ u.length := by
  have := cutP_length f h.1
  omega
/-- each letter of u is independent of each one of v -/
def apartP (u v : List Nat) : Bool := u.all fun a => v.all fun b => !f a b
theorem apartP_iff (u v : List Nat) : apartP f u v = true ↔ ∀ a ∈ u, ∀ b ∈ v, f a b = false := by simp [apartP]
theorem normalP_congr {n : Nat} (hs : ∀ a b, f a b = f b a) {u v : List Nat} (hu : ∀ x ∈ u, x < n) (hv : ∀ x ∈ v, x < n) (h : TrEq f u v) : normalP f n u = normalP f n v :=
  (normalP_eq_iff f hs _ u v rfl hu hv).2 h
end
end Go.Proofs.YtemdfjdmokbcoaaDoor.Q
