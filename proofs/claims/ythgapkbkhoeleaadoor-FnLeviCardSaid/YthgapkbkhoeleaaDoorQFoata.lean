import Derived.Test.YthgapkbkhoeleaaDoorQOrder
set_option linter.unusedVariables false
set_option linter.unusedSimpArgs false
/-! Heights and steps, plainly. -/
namespace Go.Proofs.YthgapkbkhoeleaaDoor.Q
open Go.RowKit Go.Proofs.YthgapkbkhoeleaaDoorW.PrintWords
section
variable (f : Nat → Nat → Bool) (w : List Nat)
/-- 1 plus the greatest height of the first k letters on which the i-th one depends, or 1 -/
def hPart (H : List Nat) (i : Nat) : Nat → Nat
  | 0 => 1
  | k + 1 => if f (w.getD k 0) (w.getD i 0) = true ∧ hPart H i k < H.getD k 0 + 1 then H.getD k 0 + 1 else hPart H i k
/-- the heights of the first i letters -/
def hts : Nat → List Nat
  | 0 => []
  | i + 1 => hts i ++ [hPart f w (hts i) i i]
theorem hts_length (i : Nat) : (hts f w i).length = i := by
  induction i with
  | zero => rfl
  | succ i ih => simp [hts, ih]
/-- a letter put into the step with its height -/
def stepF (out : List Nat) (h a : Nat) : List Nat :=
  let o := out ++ List.replicate (h - out.length) 0
  o.set (h - 1) (o.getD (h - 1) 0 ||| 2 ^ a)
/-- the steps of the first i letters -/
def stp : Nat → List Nat
  | 0 => []
  | i + 1 => stepF (stp i) ((hts f w (i + 1)).getD i 0) (w.getD i 0)
theorem hts_last (i : Nat) : (hts f w (i + 1)).getD i 0 = hPart f w (hts f w i) i i := by
  simp [hts, List.getD_eq_getElem?_getD, hts_length]
theorem hts_prefix (i k : Nat) (h : k < i) : (hts f w (i + 1)).getD k 0 = (hts f w i).getD k 0 := by
  simp only [hts, List.getD_eq_getElem?_getD]
  rw [List.getElem?_append_left (by rw [hts_length]; exact h)]
theorem hPart_spec (H : List Nat) (i : Nat) (k : Nat) : 1 ≤ hPart f w H i k ∧ (∀ j, j < k → f (w.getD j 0) (w.getD i 0) = true → H.getD j 0 + 1 ≤ hPart f w H i k) ∧
    (hPart f w H i k = 1 ∨ ∃ j, j < k ∧ f (w.getD j 0) (w.getD i 0) = true ∧ hPart f w H i k = H.getD j 0 + 1) := by
  induction k with
  | zero => exact ⟨by simp [hPart], by intro j hj; omega, .inl rfl⟩
  | succ k ih =>
    obtain ⟨h1, h2, h3⟩ := ih
    simp only [hPart]
    split
    · rename_i c
      refine ⟨by omega, fun j hj hf => ?_, .inr ⟨k, by omega, c.1, rfl⟩⟩
      by_cases e : j = k
      · subst e; omega
      · have := h2 j (by omega) hf; omega
    · rename_i c
      refine ⟨h1, fun j hj hf => ?_, ?_⟩
      · by_cases e : j = k
        · subst e
          by_cases g : hPart f w H i j < H.getD j 0 + 1
          · exact absurd ⟨hf, g⟩ c
          · omega
        · exact h2 j (by omega) hf
      · rcases h3 with h3 | ⟨j, h4, h5, h6⟩
        · exact .inl h3
        · exact .inr ⟨j, by omega, h5, h6⟩
/-- what holds of the steps of the first i letters -/
structure StepInv (i : Nat) : Prop where
  pos : ∀ j, j < i → 1 ≤ (hts f w i).getD j 0 ∧ (hts f w i).getD j 0 ≤ (stp f w i).length
  bits : ∀ s c, s < (stp f w i).length → (((stp f w i).getD s 0).testBit c = true ↔ ∃ j, j < i ∧ w.getD j 0 = c ∧ (hts f w i).getD j 0 = s + 1)
  some : ∀ s, s < (stp f w i).length → ∃ j, j < i ∧ (hts f w i).getD j 0 = s + 1
theorem getD_set (l : List Nat) (i j v : Nat) (h : i < l.length) : (l.set i v).getD j 0 = if i = j then v else l.getD j 0 := by
  simp only [List.getD_eq_getElem?_getD]
  by_cases e : i = j
  · subst e; simp [h]
  · rw [if_neg e, List.getElem?_set_ne e]
theorem stepInv : ∀ i, StepInv f w i
  | 0 => ⟨by intro j hj; omega, by intro s c hs; simp [stp] at hs, by intro s hs; simp [stp] at hs⟩
  | i + 1 => by
    have ih := stepInv i
    have hp := hPart_spec f w (hts f w i) i i
    have hl := hts_last f w i
    have hpre := fun k hk => hts_prefix f w i k hk
    generalize eh : (hts f w (i + 1)).getD i 0 = h at *
    rw [hl] at eh
    -- the new height is at most one more than the steps so far
    have hle : h ≤ (stp f w i).length + 1 := by
      rcases hp.2.2 with e | ⟨j, hj, hf, e⟩
      · omega
      · have := (ih.pos j hj).2; omega
    have h1 : 1 ≤ h := by omega
    have hS : stp f w (i + 1) = stepF (stp f w i) h (w.getD i 0) := by simp only [stp]; rw [hts_last, ← hl]
    generalize hO : stp f w i ++ List.replicate (h - (stp f w i).length) 0 = o
    have ho : o.length = max h (stp f w i).length := by rw [← hO]; simp; omega
    have hog : ∀ s, o.getD s 0 = (stp f w i).getD s 0 := by
      intro s
      rw [← hO]
      simp only [List.getD_eq_getElem?_getD]
      by_cases hs : s < (stp f w i).length
      · rw [List.getElem?_append_left hs]
      · rw [List.getElem?_append_right (by omega), List.getElem?_eq_none (l := stp f w i) (by omega)]
        by_cases g : s - (stp f w i).length < h - (stp f w i).length
        · rw [List.getElem?_replicate, if_pos g]; rfl
        · rw [List.getElem?_replicate, if_neg g]
    have hSo : stp f w (i + 1) = o.set (h - 1) (o.getD (h - 1) 0 ||| 2 ^ (w.getD i 0)) := by rw [hS]; simp only [stepF]; rw [hO]
    have hlen : (stp f w (i + 1)).length = max h (stp f w i).length := by rw [hSo, List.length_set, ho]
    have hget : ∀ s, (stp f w (i + 1)).getD s 0 = if h - 1 = s then (stp f w i).getD s 0 ||| 2 ^ (w.getD i 0) else (stp f w i).getD s 0 := by
      intro s
      rw [hSo, getD_set _ _ _ _ (by omega)]
      by_cases e : h - 1 = s
      · rw [if_pos e, if_pos e, hog, e]
      · rw [if_neg e, if_neg e, hog]
    have hall : ∀ j, j < i + 1 → (hts f w (i + 1)).getD j 0 = if j = i then h else (hts f w i).getD j 0 := by
      intro j hj
      by_cases e : j = i
      · subst e; rw [if_pos rfl, hl]; exact (hts_last f w j).trans rfl
      · rw [if_neg e, hpre j (by omega)]
    refine ⟨fun j hj => ?_, fun s c hs => ?_, fun s hs => ?_⟩
    · rw [hall j hj, hlen]
      by_cases e : j = i
      · rw [if_pos e]; omega
      · rw [if_neg e]
        have := ih.pos j (by omega)
        omega
    · rw [hget s]
      have old : s < (stp f w i).length → (((stp f w i).getD s 0).testBit c = true ↔ ∃ j, j < i ∧ w.getD j 0 = c ∧ (hts f w i).getD j 0 = s + 1) := ih.bits s c
      have old' : ((stp f w i).getD s 0).testBit c = true ↔ ∃ j, j < i ∧ w.getD j 0 = c ∧ (hts f w i).getD j 0 = s + 1 := by
        by_cases g : s < (stp f w i).length
        · exact old g
        · rw [List.getD_eq_getElem?_getD, List.getElem?_eq_none (by omega)]
          simp only [Option.getD_none, Nat.zero_testBit, Bool.false_eq_true, false_iff]
          rintro ⟨j, hj, _, e⟩
          have := (ih.pos j hj).2
          omega
      by_cases e : h - 1 = s
      · rw [if_pos e, Nat.testBit_or, testBit_one, Bool.or_eq_true, old', decide_eq_true_eq]
        constructor
        · rintro (⟨j, hj, h2, h3⟩ | h2)
          · exact ⟨j, by omega, h2, by rw [hall j (by omega), if_neg (by omega)]; exact h3⟩
          · exact ⟨i, by omega, h2, by rw [hall i (by omega), if_pos rfl]; omega⟩
        · rintro ⟨j, hj, h2, h3⟩
          by_cases e2 : j = i
          · subst e2; exact .inr h2
          · rw [hall j hj, if_neg e2] at h3
            exact .inl ⟨j, by omega, h2, h3⟩
      · rw [if_neg e, old']
        constructor
        · rintro ⟨j, hj, h2, h3⟩
          exact ⟨j, by omega, h2, by rw [hall j (by omega), if_neg (by omega)]; exact h3⟩
        · rintro ⟨j, hj, h2, h3⟩
          by_cases e2 : j = i
          · subst e2; rw [hall j hj, if_pos rfl] at h3; exact absurd (show h - 1 = s by rw [h3]; rfl) e
          · rw [hall j hj, if_neg e2] at h3
            exact ⟨j, by omega, h2, h3⟩
    · by_cases g : s < (stp f w i).length
      · obtain ⟨j, hj, h2⟩ := ih.some s g
        exact ⟨j, by omega, by rw [hall j (by omega), if_neg (by omega)]; exact h2⟩
      · exact ⟨i, by omega, by rw [hall i (by omega), if_pos rfl]; omega⟩
/-- the steps are met by a letter's dependence exactly where letters on which it depends stand -/
theorem meets (n : Nat) (hw : ∀ x ∈ w, x < n) (i : Nat) (hi : i < w.length) (s : Nat) (hs : s < (stp f w i).length) (a : Nat) :
    ((stp f w i).getD s 0 &&& mk n (f a) = 0) ↔ ∀ j, j < i → f a (w.getD j 0) = true → (hts f w i).getD j 0 ≠ s + 1 := by
  have ih := stepInv f w i
  constructor
  · intro h0 j hj hf e
    have hb := (ih.bits s (w.getD j 0) hs).2 ⟨j, hj, rfl, e⟩
    have := congrArg (fun z => z.testBit (w.getD j 0)) h0
    simp only [Nat.testBit_and, hb, testBit_mk, hf, Bool.and_true, Bool.true_and, Nat.zero_testBit, decide_eq_false_iff_not] at this
    have hx : w.getD j 0 < n := by
      rw [List.getD_eq_getElem?_getD, List.getElem?_eq_getElem (by omega)]
      exact hw _ (List.getElem_mem (by omega))
    exact this hx
  · intro h0
    refine bits_ext fun c => ?_
    rw [Nat.testBit_and, Nat.zero_testBit, Bool.and_eq_false_iff]
    by_cases hb : ((stp f w i).getD s 0).testBit c = true
    · obtain ⟨j, hj, e1, e2⟩ := (ih.bits s c hs).1 hb
      right
      rw [testBit_mk]
      by_cases hf : f a c = true
      · exact absurd e2 (h0 j hj (by rw [e1]; exact hf))
      · simp [hf]
    · left
      simpa using hb
end
/-! ### the number of steps belongs to the trace -/
section
variable (f : Nat → Nat → Bool)
/-- how long a chain may be that begins at i: B tells it -/
def ChainAt (g : Nat → Nat → Bool) (n : Nat) (B : Nat → Nat) (i : Nat) : Prop :=
  1 ≤ B i ∧ (∀ k, i < k → k < n → g i k = true → B k + 1 ≤ B i) ∧ (B i = 1 ∨ ∃ k, i < k ∧ k < n ∧ g i k = true ∧ B i = B k + 1)
theorem ChainAt.unique {g : Nat → Nat → Bool} {n : Nat} {B C : Nat → Nat} (hB : ∀ i, i < n → ChainAt g n B i) (hC : ∀ i, i < n → ChainAt g n C i) : ∀ d i, i + d + 1 = n → B i = C i := by
  intro d
  induction d using Nat.strongRecOn with
  | ind d ih =>
    intro i hi
    obtain ⟨b1, b2, b3⟩ := hB i (by omega)
    obtain ⟨c1, c2, c3⟩ := hC i (by omega)
    have l1 : B i ≤ C i := by
      rcases b3 with e | ⟨k, k1, k2, k3, k4⟩
      · omega
      · have := ih (n - k - 1) (by omega) k (by omega)
        have := c2 k k1 k2 k3
        omega
    have l2 : C i ≤ B i := by
      rcases c3 with e | ⟨k, k1, k2, k3, k4⟩
      · omega
      · have := ih (n - k - 1) (by omega) k (by omega)
        have := b2 k k1 k2 k3
        omega
    omega
end
/-! ### the first step -/
section
variable (f : Nat → Nat → Bool)
end
end Go.Proofs.YthgapkbkhoeleaaDoor.Q
