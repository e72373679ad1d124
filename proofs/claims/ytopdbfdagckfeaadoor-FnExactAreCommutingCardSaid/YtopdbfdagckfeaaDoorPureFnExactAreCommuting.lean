/- For every alphabet and words, FnExactAreCommuting answers true: the program's AreCommuting and the reference's come to the same, and leave their arguments alone. No condition. -/
import Derived.Test.YtopdbfdagckfeaaDoorPAllx1
import Derived.Test.YtopdbfdagckfeaaDoorPAllx4
import Derived.Test.YtopdbfdagckfeaaDoorPAllx8
import Derived.Test.YtopdbfdagckfeaaDoorV0
import Derived.Test.YtopdbfdagckfeaaDoorV1
import Derived.Test.YtopdbfdagckfeaaDoorV3
import Derived.Test.YtopdbfdagckfeaaDoorV7
import Derived.Test.YtopdbfdagckfeaaDoorQBase
import Derived.Test.YtopdbfdagckfeaaDoorQTrace
import Derived.Test.YtopdbfdagckfeaaDoorStmtFnExactAreCommuting
set_option linter.unusedVariables false
set_option linter.unusedSimpArgs false
namespace Go.Proofs.YtopdbfdagckfeaaDoor.LFnExactAreCommuting
open Go.RowKit Go.Proofs.YtopdbfdagckfeaaDoorW.PrintWords Go.Proofs.YtopdbfdagckfeaaDoorW.PrintMore Go.Proofs.YtopdbfdagckfeaaDoor.Q
open Go.Proofs.YtopdbfdagckfeaaDoor.PAll
theorem both_ev (n : Int) (D l1 l2 : List Int) : ∃ r : Bool × Int, Ev (fun k => spec_AreCommuting.f k n D l1 l2) r ∧ Ev (fun k => impl_AreCommuting.f k n D l1 l2) r := by
  have hc := l03Code_ev n D l1 l2
  have hk := checkWords_ev n D [l1, l2]
  have e : (∀ x ∈ [l1, l2], Word n x) ↔ (Word n l1 ∧ Word n l2) := by simp
  simp only [e] at hk
  simp only [spec_AreCommuting.f, impl_AreCommuting.f, impl_Alphabet_ties.f]
  by_cases hA : Alpha n D
  · by_cases hW : Word n l1 ∧ Word n l2
    · rw [if_pos hA, if_pos hW] at hc hk
      obtain ⟨m, f, rfl, rfl, hm, hs, hr⟩ := hA.form
      obtain ⟨u, rfl, hul, hu⟩ := hW.1.form
      obtain ⟨v, rfl, hvl, hv⟩ := hW.2.form
      clear hA hW e
      have huv : ∀ x ∈ u ++ v, x < m := fun x hx => (List.mem_append.1 hx).elim (hu x) (hv x)
      have hvu : ∀ x ∈ v ++ u, x < m := fun x hx => (List.mem_append.1 hx).elim (hv x) (hu x)
      refine ⟨(decide (TrEq f (u ++ v) (v ++ u)), 0), Ev.bind hc (Ev.pos rfl ?_), Ev.bind hk (Ev.pos rfl (Ev.some_bind ?_))⟩
      · rw [l01Own_eq _ (by simp; omega), l01Own_eq _ (by simp; omega)]
        simp only [Option.bind_some]
        refine Ev.pos (by simp; omega) (Ev.pos (by simp; omega) ?_)
        rw [← ints_append, ← ints_append]
        exact Ev.bind (l03Same_ev m (by omega) f _ _ (by simp; omega) (by simp; omega) huv hvu) (Ev.now _)
      · simp only [impl_ties_commute.f, slices_Concat_int64_int64.f]
        rw [if_pos (by simp; omega), if_pos (by simp; omega)]
        simp only [Option.bind_some, List.flatten_cons, List.flatten_nil, List.append_nil, ← ints_append]
        exact Ev.bind (Ev.bind (same_ev m hm f hs _ _ (by simp; omega) (by simp; omega) huv hvu) (Ev.now _)) (Ev.now _)
    · rw [if_pos hA, if_neg hW] at hc hk
      exact ⟨(false, 2), Ev.bind hc (Ev.neg (by decide) (Ev.now _)), Ev.bind hk (Ev.neg (by decide) (Ev.now _))⟩
  · rw [if_neg hA] at hc hk
    exact ⟨(false, 1), Ev.bind hc (Ev.neg (by decide) (Ev.now _)), Ev.bind hk (Ev.neg (by decide) (Ev.now _))⟩
theorem law_ev (n : Int) (D : List Int) (l1 : List Int) (l2 : List Int) (hD : D.length ≤ maxLen) (hl1 : l1.length ≤ maxLen) (hl2 : l2.length ≤ maxLen) : Ev (fun k => laws_FnExactAreCommuting.f k n D l1 l2) true := by
  unfold maxLen at hD hl1 hl2
  simp only [laws_FnExactAreCommuting.f]
  refine Ev.ite (fun c => Ev.now _) (fun cl1 => ?_)
  refine Ev.ite (fun c => Ev.now _) (fun cl2 => ?_)
  rw [szAlphabet_eq n D 1048576 (by omega) (by omega) hD]
  refine Ev.some_bind (Ev.ite (fun c2 => Ev.now _) (fun c2 => ?_))
  have hD' : D.length ≤ 1048576 := by
    by_cases g : (D.length : Int) ≤ 1048576
    · omega
    · rw [if_neg g] at c2; omega
  have hA := toAlphabet_ev n D (by omega)
  have eA := eqAlphabet_ev n D (by omega)
  have tl1 := toInt64S_ev l1 (by omega)
  have el1 := eqInt64S_ev l1 (by omega)
  have tl2 := toInt64S_ev l2 (by omega)
  have el2 := eqInt64S_ev l2 (by omega)
  obtain ⟨r, hs, hi⟩ := both_ev n D l1 l2
  refine Ev.bind hA ?_
  refine Ev.bind tl1 ?_
  refine Ev.bind tl2 ?_
  refine Ev.bind hs ?_
  refine Ev.bind hA ?_
  refine Ev.bind tl1 ?_
  refine Ev.bind tl2 ?_
  refine Ev.bind hi ?_
  refine Ev.neg (by simp) (Ev.pos rfl ?_)
  refine Ev.bind hA (Ev.bind eA (Ev.pos rfl ?_))
  refine Ev.bind tl1 (Ev.bind el1 (Ev.pos rfl ?_))
  refine Ev.bind tl2 (Ev.bind el2 (Ev.pos rfl ?_))
  exact Ev.now _
theorem pure : PureStmt := fun n D l1 l2 _ hD _ hl1 _ hl2 _ => (law_ev n D l1 l2 hD hl1 hl2).rounds
end Go.Proofs.YtopdbfdagckfeaaDoor.LFnExactAreCommuting
