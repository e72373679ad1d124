import Derived.Test.YtemdfjdmokbcoaaDoorQCF
set_option linter.unusedVariables false
set_option linter.unusedSimpArgs false
/-! The coefficients of the clique polynomial, one by one. -/
namespace Go.Proofs.YtemdfjdmokbcoaaDoor.Q
open Go.RowKit Go.Proofs.YtemdfjdmokbcoaaDoorW.PrintWords
def sgK (k : Nat) : Int := 1 - 2 * ((k % 2 : Nat) : Int)
theorem rd_pad (l : List Int) (y i : Nat) : rd (l ++ List.replicate y 0) (i : Int) = rd l (i : Int) := by
  rw [rd_nat, rd_nat, List.getD_eq_getElem?_getD, List.getD_eq_getElem?_getD]
  by_cases h : i < l.length
  · rw [List.getElem?_append_left h]
  · rw [List.getElem?_append_right (by omega), List.getElem?_eq_none (by omega : l.length ≤ i)]
    by_cases g : i - l.length < y
    · rw [List.getElem?_eq_getElem (by simpa using g)]
      simp
    · rw [List.getElem?_eq_none (by simpa using g)]
theorem rd_setk (l : List Int) (k i : Nat) (x : Int) (hk : k < l.length) : rd (l.set k x) (i : Int) = if i = k then x else rd l (i : Int) := by
  rw [rd_nat, rd_nat, List.getD_eq_getElem?_getD, List.getD_eq_getElem?_getD, List.getElem?_set]
  by_cases e : k = i
  · subst e
    rw [if_pos rfl, if_pos rfl, if_pos hk]
    rfl
  · rw [if_neg e, if_neg (fun h => e h.symm)]
theorem rd_addK1 (out : List Int) (k i : Nat) : rd (addK out k) (i : Int) = rd out (i : Int) + if i = k then sgK k else 0 := by
  unfold addK
  rw [rd_setk _ _ _ _ (by simp; omega), rd_pad]
  unfold sgK
  by_cases e : i = k
  · subst e
    rw [if_pos rfl, if_pos rfl]
    omega
  · rw [if_neg e, if_neg e]
    omega
/-- how many of the masks have i letters -/
def manyK (ms : List Nat) (i : Nat) : Nat := (ms.filter fun m => pcP m == i).length
theorem manyK_cons (m : Nat) (ms : List Nat) (i : Nat) : manyK (m :: ms) i = (if i = pcP m then 1 else 0) + manyK ms i := by
  unfold manyK
  rw [List.filter_cons]
  by_cases e : pcP m = i
  · rw [if_pos (by simpa using e), if_pos e.symm, List.length_cons]
    omega
  · rw [if_neg (by simpa using e), if_neg (fun h => e h.symm)]
    omega
theorem rd_foldK : ∀ (ms : List Nat) (out : List Int) (i : Nat), rd (ms.foldl (fun out m => addK out (pcP m)) out) (i : Int) = rd out (i : Int) + sgK i * (manyK ms i : Int) := by
  intro ms
  induction ms with
  | nil => intro out i; simp [manyK]
  | cons m ms ih =>
    intro out i
    rw [List.foldl_cons, ih, rd_addK1, manyK_cons]
    by_cases e : i = pcP m
    · subst e
      rw [if_pos rfl, if_pos rfl, Int.natCast_add, Int.mul_add]
      rw [show ((1 : Nat) : Int) = 1 from rfl, Int.mul_one, Int.add_assoc]
    · rw [if_neg e, if_neg e]
      simp
theorem len_foldK : ∀ (ms : List Nat) (out : List Int), out.length ≤ (ms.foldl (fun out m => addK out (pcP m)) out).length ∧ (∀ m ∈ ms, pcP m < (ms.foldl (fun out m => addK out (pcP m)) out).length) ∧
    ((ms.foldl (fun out m => addK out (pcP m)) out).length = out.length ∨ ∃ m ∈ ms, (ms.foldl (fun out m => addK out (pcP m)) out).length = pcP m + 1) := by
  intro ms
  induction ms with
  | nil => intro out; exact ⟨Nat.le_refl _, fun m h => absurd h (by simp), .inl rfl⟩
  | cons m ms ih =>
    intro out
    obtain ⟨h1, h2, h3⟩ := ih (addK out (pcP m))
    rw [addK_length] at h1 h3
    rw [List.foldl_cons]
    refine ⟨by omega, fun x hx => ?_, ?_⟩
    · rcases List.mem_cons.1 hx with rfl | hx
      · omega
      · exact h2 x hx
    · rcases h3 with h3 | ⟨x, hx, h3⟩
      · rcases Nat.le_total (pcP m + 1) out.length with g | g
        · rw [Nat.max_eq_left g] at h3
          exact .inl h3
        · rw [Nat.max_eq_right g] at h3
          exact .inr ⟨m, List.mem_cons_self .., h3⟩
      · exact .inr ⟨x, List.mem_cons_of_mem _ hx, h3⟩
theorem sgK_ne (k : Nat) : sgK k ≠ 0 := by unfold sgK; omega
theorem manyK_pos {ms : List Nat} {m : Nat} (h : m ∈ ms) : 0 < manyK ms (pcP m) := by
  unfold manyK
  exact List.length_pos_of_mem (List.mem_filter.2 ⟨h, by simp⟩)
theorem clique_last {ms : List Nat} (h : ms ≠ []) : 0 < (cliqueP ms).length ∧ rd (cliqueP ms) (((cliqueP ms).length - 1 : Nat) : Int) ≠ 0 := by
  obtain ⟨_, h2, h3⟩ := len_foldK ms []
  obtain ⟨m, hm⟩ := List.exists_mem_of_ne_nil ms h
  have h4 := h2 m hm
  refine ⟨by unfold cliqueP; omega, ?_⟩
  rcases h3 with h3 | ⟨x, hx, h3⟩
  · rw [h3] at h4
    exact absurd h4 (by simp)
  · have e : (cliqueP ms).length - 1 = pcP x := by unfold cliqueP; omega
    rw [e]
    have := rd_foldK ms [] (pcP x)
    unfold cliqueP
    rw [this]
    have hz : rd ([] : List Int) ((pcP x : Nat) : Int) = 0 := by rw [rd_nat]; simp
    rw [hz, Int.zero_add]
    have hp := manyK_pos hx
    exact Int.mul_ne_zero (sgK_ne _) (by omega)
/-- one set taken off again -/
def downK (p : List Int) (m : Nat) : List Int := p.set (pcP m) (rd p ((pcP m : Nat) : Int) - sgK (pcP m))
theorem rd_downs : ∀ (ms : List Nat) (p : List Int), (∀ m ∈ ms, pcP m < p.length) → (ms.foldl downK p).length = p.length ∧ ∀ i : Nat, rd (ms.foldl downK p) (i : Int) = rd p (i : Int) - sgK i * (manyK ms i : Int) := by
  intro ms
  induction ms with
  | nil => intro p _; exact ⟨rfl, fun i => by simp [manyK]⟩
  | cons m ms ih =>
    intro p h
    have hm := h m (List.mem_cons_self ..)
    have hl : (downK p m).length = p.length := by simp [downK]
    obtain ⟨h1, h2⟩ := ih (downK p m) (fun x hx => by rw [hl]; exact h x (List.mem_cons_of_mem _ hx))
    rw [List.foldl_cons]
    refine ⟨h1.trans hl, fun i => ?_⟩
    rw [h2, manyK_cons]
    unfold downK
    rw [rd_setk _ _ _ _ hm]
    by_cases e : i = pcP m
    · subst e
      rw [if_pos rfl, if_pos rfl, Int.natCast_add, Int.mul_add]
      rw [show ((1 : Nat) : Int) = 1 from rfl, Int.mul_one]
      omega
    · rw [if_neg e, if_neg e]
      simp
theorem downs_clique (ms : List Nat) : (ms.foldl downK (cliqueP ms)).length = (cliqueP ms).length ∧ ∀ i : Nat, rd (ms.foldl downK (cliqueP ms)) (i : Int) = 0 := by
  obtain ⟨_, h2, _⟩ := len_foldK ms []
  obtain ⟨h4, h5⟩ := rd_downs ms (cliqueP ms) h2
  refine ⟨h4, fun i => ?_⟩
  rw [h5]
  have := rd_foldK ms [] i
  unfold cliqueP
  rw [this, show rd ([] : List Int) (i : Int) = 0 by rw [rd_nat]; simp]
  omega
theorem manyK_le (ms : List Nat) (i : Nat) : manyK ms i ≤ ms.length := List.length_filter_le _ _
theorem sgK_abs (k : Nat) : sgK k = 1 ∨ sgK k = -1 := by unfold sgK; omega
end Go.Proofs.YtemdfjdmokbcoaaDoor.Q
