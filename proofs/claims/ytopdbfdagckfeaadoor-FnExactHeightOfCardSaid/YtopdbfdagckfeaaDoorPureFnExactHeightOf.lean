/- For every alphabet and word, FnExactHeightOf answers true: the program's HeightOf and the reference's come to the same height and code, and leave their arguments alone. No condition. -/
import Derived.Test.YtopdbfdagckfeaaDoorVFFnExactHeightOf
import Derived.Test.YtopdbfdagckfeaaDoorVLFnExactHeightOf
import Derived.Test.YtopdbfdagckfeaaDoorStmtFnExactHeightOf
set_option linter.unusedVariables false
set_option linter.unusedSimpArgs false
namespace Go.Proofs.YtopdbfdagckfeaaDoor.PFnExactHeightOf
open Go.RowKit Go.Proofs.YtopdbfdagckfeaaDoorW.PrintWords Go.Proofs.YtopdbfdagckfeaaDoorW.PrintMore Go.Proofs.YtopdbfdagckfeaaDoor.Q

/-- what both functions answer -/
def answer (n : Int) (D w : List Int) : Int × Int :=
  if Alpha n D then (if Word n w then (((foataP (bitR D) (w.map Int.toNat)).length : Int), 0) else (0, 2)) else (0, 1)
theorem foataP_congr {f g : Nat → Nat → Bool} {w : List Nat} (h : ∀ a, a ∈ w → ∀ b, b ∈ w → f a b = g a b) : foataP f w = foataP g w := by
  have hp : ∀ H i k, i < w.length → k ≤ i → hPart f w H i k = hPart g w H i k := by
    intro H i k hi
    induction k with
    | zero => intro _; rfl
    | succ k ih =>
      intro hk
      have e : f (w.getD k 0) (w.getD i 0) = g (w.getD k 0) (w.getD i 0) := by
        rw [List.getD_eq_getElem?_getD, List.getD_eq_getElem?_getD, List.getElem?_eq_getElem (by omega), List.getElem?_eq_getElem hi]
        exact h _ (List.getElem_mem _) _ (List.getElem_mem _)
      simp only [hPart, e, ih (by omega)]
  have hh : ∀ i, i ≤ w.length → hts f w i = hts g w i := by
    intro i
    induction i with
    | zero => intro _; rfl
    | succ i ih => intro hi; simp only [hts, ih (by omega), hp _ i i (by omega) (Nat.le_refl _)]
  have hs : ∀ i, i ≤ w.length → stp f w i = stp g w i := by
    intro i
    induction i with
    | zero => intro _; rfl
    | succ i ih => intro hi; simp only [stp, ih (by omega), hh (i + 1) hi]
  exact hs _ (Nat.le_refl _)
theorem toNat_ints (u : List Nat) : (ints u).map Int.toNat = u := by
  unfold ints
  rw [List.map_map]
  conv => rhs; rw [← List.map_id u]
  exact List.map_congr_left fun x _ => by simp
theorem answer_form {m : Nat} {f : Nat → Nat → Bool} {u : List Nat} (hu : ∀ x ∈ u, x < m) : foataP (bitR (mat m f)) ((ints u).map Int.toNat) = foataP f u := by
  rw [toNat_ints]
  exact foataP_congr fun a ha b hb => bitR_mat m f a b (hu a ha) (hu b hb)
theorem spec_ev (n : Int) (D w : List Int) : Ev (fun k => spec_HeightOf.f k n D w) (answer n D w) := by
  simp only [spec_HeightOf.f]
  refine Ev.bind (l03Code_ev n D w w) ?_
  unfold answer
  by_cases hA : Alpha n D
  · by_cases hW : Word n w
    · rw [if_pos hA, if_pos ⟨hW, hW⟩, if_pos hA, if_pos hW]
      obtain ⟨m, f, rfl, rfl, hm, hs, hr⟩ := hA.form
      obtain ⟨u, rfl, hl, hu⟩ := hW.form
      refine Ev.pos rfl (Ev.bind (l03Foata_ev m hm f u (by omega) hu) (Ev.const ?_))
      rw [answer_form hu, ints_length]
    · rw [if_pos hA, if_neg (fun h => hW h.1), if_pos hA, if_neg hW]
      exact Ev.neg (by decide) (Ev.now _)
  · rw [if_neg hA, if_neg hA]
    exact Ev.neg (by decide) (Ev.now _)
theorem impl_ev (n : Int) (D w : List Int) : Ev (fun k => impl_HeightOf.f k n D w) (answer n D w) := by
  simp only [impl_HeightOf.f, impl_Alphabet_ties.f, impl_length_int64.f]
  refine Ev.bind (checkWords_ev n D [w]) ?_
  have e : (∀ x ∈ [w], Word n x) ↔ Word n w := by simp
  simp only [e]
  unfold answer
  by_cases hA : Alpha n D
  · by_cases hW : Word n w
    · rw [if_pos hA, if_pos hW, if_pos hA, if_pos hW]
      obtain ⟨m, f, rfl, rfl, hm, hs, hr⟩ := hA.form
      obtain ⟨u, rfl, hl, hu⟩ := hW.form
      refine Ev.pos rfl (Ev.some_bind (Ev.bind (foata_ev m hm f hs u (by omega) hu) (Ev.const ?_)))
      rw [answer_form hu, ints_length]
      rfl
    · rw [if_pos hA, if_neg hW, if_pos hA, if_neg hW]
      exact Ev.neg (by decide) (Ev.now _)
  · rw [if_neg hA, if_neg hA]
    exact Ev.neg (by decide) (Ev.now _)
theorem law_ev (n : Int) (D w : List Int) (hD : D.length ≤ maxLen) (hw : w.length ≤ maxLen) : Ev (fun k => laws_FnExactHeightOf.f k n D w) true := by
  unfold maxLen at hD hw
  simp only [laws_FnExactHeightOf.f]
  refine Ev.ite (fun c => Ev.now _) (fun c => ?_)
  rw [szAlphabet_eq n D 1048576 (by omega) (by omega) hD]
  refine Ev.some_bind (Ev.ite (fun c2 => Ev.now _) (fun c2 => ?_))
  have hD' : D.length ≤ 1048576 := by
    by_cases g : (D.length : Int) ≤ 1048576
    · omega
    · rw [if_neg g] at c2; omega
  have hA := toAlphabet_ev n D (by omega)
  have hW := toInt64S_ev w (by omega)
  have hs := spec_ev n D w
  have hi := impl_ev n D w
  generalize answer n D w = r at hs hi
  refine Ev.bind hA (Ev.bind hW (Ev.bind hs (Ev.bind hA (Ev.bind hW (Ev.bind hi (Ev.pos rfl ?_))))))
  refine Ev.succ ?_
  simp only [laws_FnExactHeightOf.j0]
  exact Ev.neg (by simp) (Ev.bind hA (Ev.bind (eqAlphabet_ev n D (by omega)) (Ev.pos rfl (Ev.bind hW (Ev.bind (eqInt64S_ev w (by omega)) (Ev.pos rfl (Ev.now _)))))))
theorem pure : PureStmt := fun n D w _ hD _ hw _ => (law_ev n D w hD hw).rounds
end Go.Proofs.YtopdbfdagckfeaaDoor.PFnExactHeightOf
