import Derived.Test.YtemdfjdmokbcoaaDoorQFoata
set_option linter.unusedVariables false
set_option linter.unusedSimpArgs false
/-! Heights of positions; the steps of one trace; heights in a part that is closed below. -/
namespace Go.Proofs.YtemdfjdmokbcoaaDoor.Q
open Go.RowKit Go.Proofs.YtemdfjdmokbcoaaDoorW.PrintWords
section
variable (f : Nat → Nat → Bool)
/-- as fst1, and which letters stand at which height -/
def fst2 (s : (Nat → Nat) × (Nat → Nat → Bool)) (a : Nat) : (Nat → Nat) × (Nat → Nat → Bool) := (fun c => if f a c = true then max (s.1 c) (s.1 a + 1) else s.1 c, fun c h => s.2 c h || (decide (c = a) && decide (h = s.1 a + 1)))
theorem fst2_comm {a b : Nat} (h1 : f a b = false) (h2 : f b a = false) (s : (Nat → Nat) × (Nat → Nat → Bool)) : fst2 f (fst2 f s a) b = fst2 f (fst2 f s b) a := by
  refine Prod.ext (funext fun c => ?_) (funext fun c => funext fun h => ?_)
  · simp only [fst2, h1, h2, Bool.false_eq_true, if_false]
    split <;> split <;> omega
  · simp only [fst2, h1, h2, Bool.false_eq_true, if_false]
    rw [Bool.or_right_comm]
theorem fst2_pull (hs : ∀ a b, f a b = f b a) (a : Nat) : ∀ (v : List Nat) (s : (Nat → Nat) × (Nat → Nat → Bool)), isFirst f v a = true → v.foldl (fst2 f) s = (v.erase a).foldl (fst2 f) (fst2 f s a) := by
  intro v
  induction v with
  | nil => intro s h; simp [isFirst] at h
  | cons b v ih =>
    intro s h
    by_cases e : b = a
    · subst e
      rw [List.erase_cons_head]; rfl
    · have h4 : f b a = false ∧ isFirst f v a = true := by simpa [isFirst, e] using h
      rw [List.erase_cons_tail (by simpa using e), List.foldl_cons, List.foldl_cons, ih _ h4.2, fst2_comm f (by rw [hs]; exact h4.1) h4.1]
theorem fst2_TrEq (hs : ∀ a b, f a b = f b a) : ∀ {u v : List Nat}, TrEq f u v → ∀ s : (Nat → Nat) × (Nat → Nat → Bool), u.foldl (fst2 f) s = v.foldl (fst2 f) s := by
  intro u
  induction u with
  | nil => intro v h s; rw [TrEq.nil_iff] at h; subst h; rfl
  | cons a u ih =>
    intro v h s
    obtain ⟨h1, h2⟩ := (TrEq.cons_iff f).1 h
    rw [fst2_pull f hs a v s h1, List.foldl_cons, ih h2]
theorem fst2_fst : ∀ (l : List Nat) (g : Nat → Nat) (n : Nat) (P : Nat → Nat → Bool), (l.foldl (fst2 f) (g, P)).1 = (l.foldl (fst1 f) (g, n)).1 := by
  intro l
  induction l with
  | nil => intro g n P; rfl
  | cons a l ih => intro g n P; rw [List.foldl_cons, List.foldl_cons]; exact ih _ _ _
theorem hts_fst1 (w : List Nat) (i : Nat) (hi : i < w.length) : (hts f w (i + 1)).getD i 0 = ((w.take i).foldl (fst1 f) (fun _ => 0, 0)).1 (w.getD i 0) + 1 := by
  obtain ⟨_, h2⟩ := fst1_hts f w i (by omega)
  generalize (w.take i).foldl (fst1 f) (fun _ => 0, 0) = s at h2
  rw [hts_last]
  obtain ⟨p1, p2, p3⟩ := hPart_spec f w (hts f w i) i i
  obtain ⟨q1, q2⟩ := h2 (w.getD i 0)
  have a1 : hPart f w (hts f w i) i i ≤ s.1 (w.getD i 0) + 1 := by
    rcases p3 with p3 | ⟨j, j1, j2, j3⟩
    · omega
    · have := q1 j j1 j2; omega
  have a2 : s.1 (w.getD i 0) + 1 ≤ hPart f w (hts f w i) i i := by
    rcases q2 with q2 | ⟨j, j1, j2, j3⟩
    · omega
    · have := p2 j j1 j2; omega
  omega
theorem fst2_hts (w : List Nat) : ∀ i, i ≤ w.length → ∀ c h, ((w.take i).foldl (fst2 f) (fun _ => 0, fun _ _ => false)).2 c h = true ↔ ∃ j, j < i ∧ w.getD j 0 = c ∧ (hts f w i).getD j 0 = h := by
  intro i
  induction i with
  | zero => intro _ c h; simp
  | succ i ih =>
    intro hi c h
    have et : w.take (i + 1) = w.take i ++ [w.getD i 0] := by
      rw [List.take_add_one, List.getElem?_eq_getElem (by omega), List.getD_eq_getElem?_getD, List.getElem?_eq_getElem (by omega)]; rfl
    rw [et, List.foldl_append]
    have e1 := fst2_fst f (w.take i) (fun _ => 0) 0 (fun _ _ => false)
    have ih' := ih (by omega) c h
    have hh := hts_fst1 f w i (by omega)
    simp only [List.foldl_cons, List.foldl_nil, fst2, Bool.or_eq_true, Bool.and_eq_true, decide_eq_true_eq]
    rw [ih', e1, ← hh]
    constructor
    · rintro (⟨j, j1, j2, j3⟩ | ⟨h1, h2⟩)
      · exact ⟨j, by omega, j2, by rw [hts_prefix f w i j j1]; exact j3⟩
      · exact ⟨i, by omega, h1.symm, h2.symm⟩
    · rintro ⟨j, j1, j2, j3⟩
      by_cases e : j = i
      · subst e; exact .inr ⟨j2.symm, j3.symm⟩
      · rw [hts_prefix f w i j (by omega)] at j3
        exact .inl ⟨j, by omega, j2, j3⟩
theorem foata_bits (w : List Nat) (s c : Nat) (h : s < (foataP f w).length) : ((foataP f w).getD s 0).testBit c = (w.foldl (fst2 f) (fun _ => 0, fun _ _ => false)).2 c (s + 1) := by
  have h1 := (stepInv f w w.length).bits s c h
  have h2 := fst2_hts f w w.length (Nat.le_refl _) c (s + 1)
  rw [List.take_length] at h2
  rw [Bool.eq_iff_iff]
  exact h1.trans h2.symm
/-- the steps of a trace do not depend on the word -/
theorem foataP_TrEq (hs : ∀ a b, f a b = f b a) {u v : List Nat} (h : TrEq f u v) : foataP f u = foataP f v := by
  have hl := foataP_length_TrEq f hs h
  refine List.ext_getElem hl (fun s h1 h2 => ?_)
  have e1 : (foataP f u)[s] = (foataP f u).getD s 0 := by rw [List.getD_eq_getElem?_getD, List.getElem?_eq_getElem h1]; rfl
  have e2 : (foataP f v)[s] = (foataP f v).getD s 0 := by rw [List.getD_eq_getElem?_getD, List.getElem?_eq_getElem h2]; rfl
  rw [e1, e2]
  exact bits_ext fun c => by rw [foata_bits f u s c h1, foata_bits f v s c h2, fst2_TrEq f hs h]
/-- the height of a position -/
def hE (w : List Nat) (i : Nat) : Nat := (hts f w w.length).getD i 0
theorem hE_spec (w : List Nat) (i : Nat) (hi : i < w.length) : 1 ≤ hE f w i ∧ (∀ j, j < i → f (w.getD j 0) (w.getD i 0) = true → hE f w j + 1 ≤ hE f w i) ∧ (hE f w i = 1 ∨ ∃ j, j < i ∧ f (w.getD j 0) (w.getD i 0) = true ∧ hE f w i = hE f w j + 1) := by
  have g : ∀ j k, j < k → k ≤ w.length → (hts f w k).getD j 0 = hE f w j := fun j k h1 h2 => by
    unfold hE
    have a := hts_getD f w (k - j - 1) j
    have b := hts_getD f w (w.length - j - 1) j
    rw [show j + 1 + (k - j - 1) = k by omega] at a
    rw [show j + 1 + (w.length - j - 1) = w.length by omega] at b
    rw [a, b]
  have e := hts_last f w i
  rw [g i (i + 1) (by omega) (by omega)] at e
  rw [e]
  obtain ⟨p1, p2, p3⟩ := hPart_spec f w (hts f w i) i i
  refine ⟨p1, fun j hj hf => ?_, ?_⟩
  · have := p2 j hj hf
    rwa [g j i hj (by omega)] at this
  · rcases p3 with p3 | ⟨j, j1, j2, j3⟩
    · exact .inl p3
    · exact .inr ⟨j, j1, j2, by rwa [g j i j1 (by omega)] at j3⟩
theorem hE_le (w : List Nat) (i : Nat) (hi : i < w.length) : hE f w i ≤ (foataP f w).length := ((stepInv f w w.length).pos i hi).2
theorem foata_bit (w : List Nat) (s c : Nat) (h : s < (foataP f w).length) : ((foataP f w).getD s 0).testBit c = true ↔ ∃ j, j < w.length ∧ w.getD j 0 = c ∧ hE f w j = s + 1 := (stepInv f w w.length).bits s c h
theorem foata_some (w : List Nat) (s : Nat) (h : s < (foataP f w).length) : ∃ j, j < w.length ∧ hE f w j = s + 1 := (stepInv f w w.length).some s h
theorem hE_ord (w : List Nat) (i k : Nat) (h : ordP f w i k = true) : i = k ∨ hE f w i < hE f w k := by
  refine clos_sound (f := eP f w) (R := fun i k => i = k ∨ hE f w i < hE f w k) (fun i => .inl rfl) (fun i k he => ?_) (fun i j k h1 h2 => ?_) h
  · have hlt := eP_lt he
    unfold eP at he
    rw [Bool.and_eq_true] at he
    have := (hE_spec f w k hlt.2).2.1 i hlt.1 he.2
    exact .inr (by omega)
  · rcases h1 with rfl | h1
    · exact h2
    · rcases h2 with rfl | h2
      · exact .inr h1
      · exact .inr (by omega)
/-- a chain from here, and what is below, are not longer than the whole -/
theorem hE_up (w : List Nat) {L : Nat → Nat} (hL : ∀ i, i < w.length → ChainAt (ordP f w) w.length L i) : ∀ (d i : Nat), i + d + 1 = w.length → hE f w i + L i ≤ (foataP f w).length + 1 := by
  intro d
  induction d using Nat.strongRecOn with
  | ind d ih =>
    intro i hi
    rcases (hL i (by omega)).2.2 with e | ⟨k, k1, k2, k3, k4⟩
    · have := hE_le f w i (by omega); omega
    · have := ih (w.length - k - 1) (by omega) k (by omega)
      rcases hE_ord f w i k k3 with e | e <;> omega
theorem hE_down (w : List Nat) {L : Nat → Nat} (hL : ∀ i, i < w.length → ChainAt (ordP f w) w.length L i) : ∀ j, j < w.length → ∃ i, i < w.length ∧ L j + hE f w j ≤ L i + 1 := by
  intro j
  induction j using Nat.strongRecOn with
  | ind j ih =>
    intro hj
    rcases (hE_spec f w j hj).2.2 with e | ⟨k, k1, k2, k3⟩
    · exact ⟨j, hj, by omega⟩
    · obtain ⟨i, i1, i2⟩ := ih k k1 (by omega)
      have hk := (hL k (by omega)).2.1 j k1 hj (clos_edge (by unfold eP; rw [Bool.and_eq_true]; exact ⟨decide_eq_true ⟨k1, hj⟩, k2⟩))
      exact ⟨i, i1, by omega⟩
/-- the letters at some places, one behind the other -/
def atL (w : List Nat) (ps : List Nat) : List Nat := ps.map fun i => w.getD i 0
/-- heights in a part that is closed below -/
theorem hE_part (w ps : List Nat) (hps : ps.Pairwise (· < ·)) (hlt : ∀ p ∈ ps, p < w.length) (hd : ∀ p ∈ ps, ∀ j, j < p → f (w.getD j 0) (w.getD p 0) = true → j ∈ ps) : ∀ k, k < ps.length → hE f (atL w ps) k = hE f w (ps.getD k 0) := by
  have len : (atL w ps).length = ps.length := by simp [atL]
  have get : ∀ k, k < ps.length → (atL w ps).getD k 0 = w.getD (ps.getD k 0) 0 := fun k hk => by
    unfold atL
    rw [List.getD_eq_getElem?_getD, List.getElem?_map, List.getElem?_eq_getElem hk, List.getD_eq_getElem?_getD (l := ps), List.getElem?_eq_getElem hk]
    rfl
  have mem : ∀ k, k < ps.length → ps.getD k 0 ∈ ps := fun k hk => by rw [List.getD_eq_getElem?_getD, List.getElem?_eq_getElem hk]; exact List.getElem_mem hk
  have mono : ∀ j k, j < k → k < ps.length → ps.getD j 0 < ps.getD k 0 := fun j k h1 h2 => by
    rw [List.getD_eq_getElem?_getD, List.getD_eq_getElem?_getD, List.getElem?_eq_getElem (by omega), List.getElem?_eq_getElem h2]
    exact List.pairwise_iff_getElem.1 hps j k (by omega) h2 h1
  intro k
  induction k using Nat.strongRecOn with
  | ind k ih =>
    intro hk
    have a := hE_spec f (atL w ps) k (by omega)
    have b := hE_spec f w (ps.getD k 0) (hlt _ (mem k hk))
    have le1 : hE f (atL w ps) k ≤ hE f w (ps.getD k 0) := by
      rcases a.2.2 with e | ⟨j, j1, j2, j3⟩
      · have := b.1; omega
      · rw [get j (by omega), get k hk] at j2
        have := b.2.1 _ (mono j k j1 hk) j2
        rw [j3, ih j j1 (by omega)]
        exact this
    have le2 : hE f w (ps.getD k 0) ≤ hE f (atL w ps) k := by
      rcases b.2.2 with e | ⟨j, j1, j2, j3⟩
      · have := a.1; omega
      · have hj := hd _ (mem k hk) j j1 j2
        obtain ⟨q, hq, e⟩ := List.getElem_of_mem hj
        have e' : ps.getD q 0 = j := by rw [List.getD_eq_getElem?_getD, List.getElem?_eq_getElem hq]; exact e
        have qk : q < k := by
          by_cases c : q < k
          · exact c
          · by_cases c2 : q = k
            · subst c2; omega
            · have := mono k q (by omega) hq; omega
        have := a.2.1 q qk (by rw [get q hq, get k hk, e']; exact j2)
        rw [ih q qk hq, e'] at this
        omega
    omega
/-- the height of a part that has a greatest place -/
theorem foata_part (w ps : List Nat) (hps : ps.Pairwise (· < ·)) (hlt : ∀ p ∈ ps, p < w.length) (hd : ∀ p ∈ ps, ∀ j, j < p → f (w.getD j 0) (w.getD p 0) = true → j ∈ ps) (x : Nat) (hx : x ∈ ps) (hm : ∀ p ∈ ps, hE f w p ≤ hE f w x) : (foataP f (atL w ps)).length = hE f w x := by
  have len : (atL w ps).length = ps.length := by simp [atL]
  obtain ⟨q, hq, e⟩ := List.getElem_of_mem hx
  have e' : ps.getD q 0 = x := by rw [List.getD_eq_getElem?_getD, List.getElem?_eq_getElem hq]; exact e
  have h1 := hE_part f w ps hps hlt hd q hq
  have h2 := hE_le f (atL w ps) q (by omega)
  rw [e'] at h1
  have h3 := (hE_spec f w x (hlt x hx)).1
  have h4 : 0 < (foataP f (atL w ps)).length := by omega
  obtain ⟨j, j1, j2⟩ := foata_some f (atL w ps) ((foataP f (atL w ps)).length - 1) (by omega)
  have h5 := hE_part f w ps hps hlt hd j (by omega)
  have h6 := hm (ps.getD j 0) (by rw [List.getD_eq_getElem?_getD, List.getElem?_eq_getElem (show j < ps.length by omega)]; exact List.getElem_mem _)
  omega
end
end Go.Proofs.YtemdfjdmokbcoaaDoor.Q
