import Derived.Test.YthgapkbkhoeleaaDoorQMeet
set_option linter.unusedVariables false
set_option linter.unusedSimpArgs false
/-! Closures of relations; the order of the positions of a word; the greatest beginning with letters of a set. -/
namespace Go.Proofs.YthgapkbkhoeleaaDoor.Q
open Go.RowKit Go.Proofs.YthgapkbkhoeleaaDoorW.PrintWords
section
variable {f : Nat → Nat → Bool}
end
section
variable (f : Nat → Nat → Bool)
theorem TrEq.append_left {u v : List Nat} (p : List Nat) (h : TrEq f u v) : TrEq f (p ++ u) (p ++ v) := by
  induction p with
  | nil => exact h
  | cons a p ih => exact TrEq.cons f ih
theorem TrEq.append_right (hs : ∀ a b, f a b = f b a) {u v : List Nat} (h : TrEq f u v) (q : List Nat) : TrEq f (u ++ q) (v ++ q) := by
  unfold TrEq
  rw [cutP_append, cutP_TrEq f hs h, cutP_self_append]
  exact TrEq.refl f q
theorem isFirst_end {x : Nat} {v : List Nat} (h : ∀ b ∈ v, f b x = false) : isFirst f (v ++ [x]) x = true := by
  induction v with
  | nil => exact isFirst_head f x []
  | cons b v ih =>
    have h1 := h b (by simp)
    have h2 := ih (fun c hc => h c (by simp [hc]))
    rw [List.cons_append]
    simp only [isFirst, h1, h2]
    simp
/-- a letter that is independent of all of a word may stand ahead of it -/
theorem TrEq.over (hs : ∀ a b, f a b = f b a) {x : Nat} {v : List Nat} (h : ∀ b ∈ v, f b x = false) (hx : x ∉ v) : TrEq f (v ++ [x]) (x :: v) := by
  refine TrEq.symm f hs ((TrEq.cons_iff f).2 ⟨isFirst_end f h, ?_⟩)
  rw [List.erase_append_right _ hx, List.erase_cons_head, List.append_nil]
  exact TrEq.refl f v
/-- p is in front of w, r is left, p's letters are of the set and no first letter of r is -/
def Ins (m : Nat → Bool) (w p r : List Nat) : Prop := cutP f p w = some r ∧ (∀ x ∈ p, m x = true) ∧ ∀ c, isFirst f r c = true → m c = false
theorem Ins.first (hs : ∀ a b, f a b = f b a) {m : Nat → Bool} {w p r : List Nat} (h : Ins f m w p r) {c : Nat} (hw : isFirst f w c = true) (hm : m c = true) : isFirst f p c = true := by
  induction p generalizing w with
  | nil =>
    obtain ⟨h1, h2, h3⟩ := h
    injection h1 with h1
    subst h1
    rw [h3 c hw] at hm; cases hm
  | cons d p ih =>
    obtain ⟨h1, h2, h3⟩ := h
    rw [cutP_cons] at h1
    by_cases g1 : isFirst f w d = true
    · rw [if_pos g1] at h1
      by_cases e : d = c
      · subst e; exact isFirst_head f d p
      · have k1 := first_erase_of f hs (Ne.symm e) hw g1
        have := ih ⟨h1, fun x hx => h2 x (by simp [hx]), h3⟩ k1.1
        simp [isFirst, k1.2, this]
    · rw [if_neg g1] at h1; cases h1
theorem Ins.unique (hs : ∀ a b, f a b = f b a) {m : Nat → Bool} {w p r q r' : List Nat} (h : Ins f m w p r) (k : Ins f m w q r') : TrEq f p q := by
  induction p generalizing w q with
  | nil =>
    obtain ⟨h1, h2, h3⟩ := h
    injection h1 with h1
    subst h1
    cases q with
    | nil => exact TrEq.refl f []
    | cons d q =>
      have g1 := cutP_first f hs k.1 (isFirst_head f d q)
      have := h3 d g1
      rw [k.2.1 d (by simp)] at this; cases this
  | cons c p ih =>
    have g1 := cutP_first f hs h.1 (isFirst_head f c p)
    have g3 := Ins.first f hs k g1 (h.2.1 c (by simp))
    obtain ⟨k1, k2, k3⟩ := k
    obtain ⟨h1, h2, h3⟩ := h
    rw [cutP_cons, if_pos g1] at h1
    rw [cutP_erase f hs g3 g1] at k1
    exact (TrEq.cons_iff f).2 ⟨g3, ih ⟨h1, fun x hx => h2 x (by simp [hx]), h3⟩ ⟨k1, fun x hx => k2 x (List.mem_of_mem_erase hx), k3⟩⟩
end
/-! ### the greatest number of elements that are near each other, two by two -/
/-! ### the letters that may not follow -/
end Go.Proofs.YthgapkbkhoeleaaDoor.Q
