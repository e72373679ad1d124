import Derived.Test.YtemdfjdmokbcoaaDoorQTrace
set_option linter.unusedVariables false
set_option linter.unusedSimpArgs false
/-! The conjugates of a trace, in the order in which rotating finds them, each with the word by which it is found. -/
namespace Go.Proofs.YtemdfjdmokbcoaaDoor.Q
open Go.RowKit Go.Proofs.YtemdfjdmokbcoaaDoorW.PrintWords
section
variable (f : Nat → Nat → Bool) (n : Nat)
/-- a trace rotated by a letter, as a normal form -/
def rotP (w : List Nat) (a : Nat) : List Nat := normalP f n (w.erase a ++ [a])
def clsS (p : List Nat × List Nat) (l : List (List Nat × List Nat)) (a : Nat) : List (List Nat × List Nat) :=
  if isFirst f p.1 a = true ∧ rotP f n p.1 a ∉ l.map Prod.fst then l ++ [(rotP f n p.1 a, p.2 ++ [a])] else l
def clsR (p : List Nat × List Nat) (as : List Nat) (l : List (List Nat × List Nat)) : List (List Nat × List Nat) := as.foldl (clsS f n p) l
def clsK : Nat → List (List Nat × List Nat) → Nat → Option (List (List Nat × List Nat))
  | 0, l, _ => some l
  | k + 1, l, i => if i < l.length then (if (clsR f n (l.getD i ([], [])) (List.range n) l).length ≤ 1000 then clsK k (clsR f n (l.getD i ([], [])) (List.range n) l) (i + 1) else none) else some l
theorem rotP_lt (hs : ∀ a b, f a b = f b a) {w : List Nat} {a : Nat} (ha : a < n) (hw : ∀ x ∈ w, x < n) (h : isFirst f w a = true) : (∀ x ∈ rotP f n w a, x < n) ∧ (rotP f n w a).length = w.length := by
  have h1 : ∀ x ∈ w.erase a ++ [a], x < n := fun x hx => (List.mem_append.1 hx).elim (fun h => hw x (List.mem_of_mem_erase h)) (fun h => by rw [List.mem_singleton.1 h]; exact ha)
  refine ⟨normalP_lt f hs h1, ?_⟩
  unfold rotP
  rw [normalP_length f hs h1]
  have := List.length_erase_of_mem (isFirst_mem f h)
  have := List.length_pos_of_mem (isFirst_mem f h)
  simp; omega
theorem clsS_pre (p : List Nat × List Nat) (l : List (List Nat × List Nat)) (a : Nat) : ∃ t, clsS f n p l a = l ++ t := by
  unfold clsS
  split
  · exact ⟨_, rfl⟩
  · exact ⟨[], by simp⟩
theorem clsR_pre (p : List Nat × List Nat) : ∀ (as : List Nat) (l : List (List Nat × List Nat)), ∃ t, clsR f n p as l = l ++ t := by
  intro as
  induction as with
  | nil => intro l; exact ⟨[], by simp [clsR]⟩
  | cons a as ih =>
    intro l
    obtain ⟨t1, h1⟩ := clsS_pre f n p l a
    obtain ⟨t2, h2⟩ := ih (clsS f n p l a)
    refine ⟨t1 ++ t2, ?_⟩
    show clsR f n p as (clsS f n p l a) = _
    rw [h2, h1, List.append_assoc]
theorem clsR_cons (p : List Nat × List Nat) (a : Nat) (as : List Nat) (l : List (List Nat × List Nat)) : clsR f n p (a :: as) l = clsR f n p as (clsS f n p l a) := rfl
theorem clsR_filter (p : List Nat × List Nat) : ∀ (as : List Nat) (l : List (List Nat × List Nat)), clsR f n p (as.filter fun a => isFirst f p.1 a) l = clsR f n p as l := by
  intro as
  induction as with
  | nil => intro l; rfl
  | cons a as ih =>
    intro l
    rw [clsR_cons]
    by_cases h : isFirst f p.1 a = true
    · rw [List.filter_cons_of_pos h, clsR_cons, ih]
    · rw [List.filter_cons_of_neg h, ih]
      unfold clsS
      rw [if_neg (fun z => h z.1)]
theorem clsR_le (p : List Nat × List Nat) (as : List Nat) (l : List (List Nat × List Nat)) : l.length ≤ (clsR f n p as l).length := by
  obtain ⟨t, h⟩ := clsR_pre f n p as l
  rw [h]; simp
theorem clsK_pre : ∀ (k : Nat) (l : List (List Nat × List Nat)) (i : Nat) (L : List (List Nat × List Nat)), clsK f n k l i = some L → ∃ t, L = l ++ t := by
  intro k
  induction k with
  | zero => intro l i L h; exact ⟨[], by simp [clsK] at h; simp [h]⟩
  | succ k ih =>
    intro l i L h
    simp only [clsK] at h
    split at h
    · split at h
      · obtain ⟨t1, h1⟩ := ih _ _ _ h
        obtain ⟨t2, h2⟩ := clsR_pre f n (l.getD i ([], [])) (List.range n) l
        exact ⟨t2 ++ t1, by rw [h1, h2, List.append_assoc]⟩
      · cases h
    · exact ⟨[], by simpa using (Option.some.inj h).symm⟩
/-- words of n letters, all of one length, found by short words -/
def Listed (N : Nat) (l : List (List Nat × List Nat)) : Prop := ∀ p ∈ l, (∀ x ∈ p.1, x < n) ∧ p.1.length = N ∧ (∀ x ∈ p.2, x < n) ∧ p.2.length < l.length
variable {f n}
theorem Listed.step {N : Nat} {l : List (List Nat × List Nat)} (hs : ∀ a b, f a b = f b a) (h : Listed n N l) {p : List Nat × List Nat} (hp : (∀ x ∈ p.1, x < n) ∧ p.1.length = N ∧ (∀ x ∈ p.2, x < n) ∧ p.2.length < l.length) {a : Nat} (ha : a < n) : Listed n N (clsS f n p l a) := by
  unfold clsS
  split
  · rename_i g
    have hr := rotP_lt f n hs ha hp.1 g.1
    intro q hq
    rcases List.mem_append.1 hq with hq | hq
    · have := h q hq
      exact ⟨this.1, this.2.1, this.2.2.1, by simp; omega⟩
    · rw [List.mem_singleton.1 hq]
      refine ⟨hr.1, by rw [hr.2]; exact hp.2.1, fun x hx => ?_, by simp; omega⟩
      rcases List.mem_append.1 hx with hx | hx
      · exact hp.2.2.1 x hx
      · rw [List.mem_singleton.1 hx]; exact ha
  · exact h
theorem Listed.rounds {N : Nat} (hs : ∀ a b, f a b = f b a) {p : List Nat × List Nat} : ∀ (as : List Nat) (l : List (List Nat × List Nat)), Listed n N l → ((∀ x ∈ p.1, x < n) ∧ p.1.length = N ∧ (∀ x ∈ p.2, x < n) ∧ p.2.length < l.length) → (∀ a ∈ as, a < n) → Listed n N (clsR f n p as l) := by
  intro as
  induction as with
  | nil => intro l h _ _; exact h
  | cons a as ih =>
    intro l h hp ha
    rw [clsR_cons]
    refine ih _ (h.step hs hp (ha a (by simp))) ⟨hp.1, hp.2.1, hp.2.2.1, ?_⟩ (fun b hb => ha b (by simp [hb]))
    obtain ⟨t, e⟩ := clsS_pre f n p l a
    rw [e]; simp; omega
theorem Listed.at {N : Nat} {l : List (List Nat × List Nat)} (h : Listed n N l) {i : Nat} (hi : i < l.length) : (∀ x ∈ (l.getD i ([], [])).1, x < n) ∧ (l.getD i ([], [])).1.length = N ∧ (∀ x ∈ (l.getD i ([], [])).2, x < n) ∧ (l.getD i ([], [])).2.length < l.length := by
  have : l.getD i ([], []) ∈ l := by
    rw [List.getD_eq_getElem?_getD, List.getElem?_eq_getElem hi]
    exact List.getElem_mem hi
  exact h _ this
end
end Go.Proofs.YtemdfjdmokbcoaaDoor.Q
