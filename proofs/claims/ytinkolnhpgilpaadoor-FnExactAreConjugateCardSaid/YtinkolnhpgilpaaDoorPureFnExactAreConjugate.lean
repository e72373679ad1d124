/- For every alphabet and words, FnExactAreConjugate answers true: the program's AreConjugate and the reference's come to the same, and leave their arguments alone. No condition. -/
import Derived.Test.YtinkolnhpgilpaaDoorPAllx2
import Derived.Test.YtinkolnhpgilpaaDoorPAllx3
import Derived.Test.YtinkolnhpgilpaaDoorPAllx4
import Derived.Test.YtinkolnhpgilpaaDoorV0
import Derived.Test.YtinkolnhpgilpaaDoorV1
import Derived.Test.YtinkolnhpgilpaaDoorQBase
import Derived.Test.YtinkolnhpgilpaaDoorQConj
import Derived.Test.YtinkolnhpgilpaaDoorQTrace
import Derived.Test.YtinkolnhpgilpaaDoorStmtFnExactAreConjugate
set_option linter.unusedVariables false
set_option linter.unusedSimpArgs false
namespace Go.Proofs.YtinkolnhpgilpaaDoor.LFnExactAreConjugate
open Go.RowKit Go.Proofs.YtinkolnhpgilpaaDoorW.PrintWords Go.Proofs.YtinkolnhpgilpaaDoorW.PrintMore Go.Proofs.YtinkolnhpgilpaaDoor.Q
open Go.Proofs.YtinkolnhpgilpaaDoor.PAll
theorem both_ev (n : Int) (D l1 l2 : List Int) : ∃ r : Bool × Int, Ev (fun k => spec_AreConjugate.f k n D l1 l2) r ∧ Ev (fun k => impl_AreConjugate.f k n D l1 l2) r := by
  have hc := l03Code_ev n D l1 l2
  have hk := checkWords_ev n D [l1, l2]
  have e : (∀ x ∈ [l1, l2], Word n x) ↔ (Word n l1 ∧ Word n l2) := by simp
  simp only [e] at hk
  by_cases hA : Alpha n D
  · by_cases hW : Word n l1 ∧ Word n l2
    · rw [if_pos hA, if_pos hW] at hc hk
      obtain ⟨m, f, rfl, rfl, hm, hs, hr⟩ := hA.form
      obtain ⟨u, rfl, hul, hu⟩ := hW.1.form
      obtain ⟨v, rfl, hvl, hv⟩ := hW.2.form
      clear hA hW e
      have h1 := specAre_ev hm hs (show u.length ≤ 1000 by omega) hu (show v.length ≤ 1000 by omega) hv hc
      have h2 := checkConj_ev hm hs (show u.length ≤ 1000 by omega) hu hk
      cases hq : clsP f m u with
      | none =>
        rw [hq] at h1 h2
        refine ⟨_, h1, ?_⟩
        simp only [impl_AreConjugate.f]
        exact Ev.bind h2 (Ev.neg (by simp) (Ev.now _))
      | some L =>
        rw [hq] at h1 h2
        refine ⟨_, h1, ?_⟩
        simp only [impl_AreConjugate.f, impl_Alphabet_ties.f]
        refine Ev.bind h2 (Ev.pos rfl (Ev.some_bind (Ev.bind (normal_ev m hm f v (by omega) hv) ?_)))
        simp only [impl_conjugator.f, idx_find]
        refine Ev.some_bind (Ev.const ?_)
        cases hf : L.find? (fun p => decide (p.1 = normalP f m v)) with
        | none =>
          rw [decide_eq_false]
          · rfl
          · intro h
            obtain ⟨p, hp, e⟩ := List.mem_map.1 h
            exact List.find?_eq_none.1 hf p hp (decide_eq_true e)
        | some p =>
          rw [decide_eq_true]
          · rfl
          · exact List.mem_map.2 ⟨p, List.mem_of_find?_eq_some hf, of_decide_eq_true (List.find?_some (p := fun q : List Nat × List Nat => decide (q.1 = normalP f m v)) hf)⟩
    · rw [if_pos hA, if_neg hW] at hc hk
      refine ⟨(false, 2), ?_, ?_⟩
      · simp only [spec_AreConjugate.f]
        exact Ev.bind hc (Ev.neg (by decide) (Ev.now _))
      · simp only [impl_AreConjugate.f]
        exact Ev.bind (checkConj_bad (by decide) hk) (Ev.neg (by decide) (Ev.now _))
  · rw [if_neg hA] at hc hk
    refine ⟨(false, 1), ?_, ?_⟩
    · simp only [spec_AreConjugate.f]
      exact Ev.bind hc (Ev.neg (by decide) (Ev.now _))
    · simp only [impl_AreConjugate.f]
      exact Ev.bind (checkConj_bad (by decide) hk) (Ev.neg (by decide) (Ev.now _))
theorem law_ev (n : Int) (D : List Int) (l1 : List Int) (l2 : List Int) (hD : D.length ≤ maxLen) (hl1 : l1.length ≤ maxLen) (hl2 : l2.length ≤ maxLen) : Ev (fun k => laws_FnExactAreConjugate.f k n D l1 l2) true := by
  unfold maxLen at hD hl1 hl2
  simp only [laws_FnExactAreConjugate.f]
  refine Ev.ite (fun c => Ev.now _) (fun cl1 => ?_)
  refine Ev.ite (fun c => Ev.now _) (fun cl2 => ?_)
  rw [szAlphabet_eq n D 1048576 (by omega) (by omega) hD]
  refine Ev.some_bind (Ev.ite (fun c2 => Ev.now _) (fun c2 => ?_))
  have hD' : D.length ≤ 1048576 := by
    by_cases g : (D.length : Int) ≤ 1048576
    · omega
    · rw [if_neg g] at c2; omega
  have hA := toAlphabet_ev n D (by omega)
  have eA := eqAlphabet_ev n D (by omega)
  have tl1 := toInt64S_ev l1 (by omega)
  have el1 := eqInt64S_ev l1 (by omega)
  have tl2 := toInt64S_ev l2 (by omega)
  have el2 := eqInt64S_ev l2 (by omega)
  obtain ⟨r, hs, hi⟩ := both_ev n D l1 l2
  refine Ev.bind hA ?_
  refine Ev.bind tl1 ?_
  refine Ev.bind tl2 ?_
  refine Ev.bind hs ?_
  refine Ev.bind hA ?_
  refine Ev.bind tl1 ?_
  refine Ev.bind tl2 ?_
  refine Ev.bind hi ?_
  refine Ev.neg (by simp) (Ev.pos rfl ?_)
  refine Ev.bind hA (Ev.bind eA (Ev.pos rfl ?_))
  refine Ev.bind tl1 (Ev.bind el1 (Ev.pos rfl ?_))
  refine Ev.bind tl2 (Ev.bind el2 (Ev.pos rfl ?_))
  exact Ev.now _
theorem pure : PureStmt := fun n D l1 l2 _ hD _ hl1 _ hl2 _ => (law_ev n D l1 l2 hD hl1 hl2).elim fun K h => ⟨K, h K (Nat.le_refl K)⟩
end Go.Proofs.YtinkolnhpgilpaaDoor.LFnExactAreConjugate
