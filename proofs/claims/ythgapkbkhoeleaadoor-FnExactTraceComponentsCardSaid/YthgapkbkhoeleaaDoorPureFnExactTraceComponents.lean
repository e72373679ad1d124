/- For every alphabet and word, FnExactTraceComponents answers true: the program's TraceComponents and the reference's come to the same, leave their arguments alone, and share no memory. No condition. -/
import Derived.Test.YthgapkbkhoeleaaDoorPAllx2
import Derived.Test.YthgapkbkhoeleaaDoorPAllx23
import Derived.Test.YthgapkbkhoeleaaDoorPAllx24
import Derived.Test.YthgapkbkhoeleaaDoorV0
import Derived.Test.YthgapkbkhoeleaaDoorV16
import Derived.Test.YthgapkbkhoeleaaDoorV2
import Derived.Test.YthgapkbkhoeleaaDoorV3
import Derived.Test.YthgapkbkhoeleaaDoorV4
import Derived.Test.YthgapkbkhoeleaaDoorV9
import Derived.Test.YthgapkbkhoeleaaDoorQBase
import Derived.Test.YthgapkbkhoeleaaDoorQParts
import Derived.Test.YthgapkbkhoeleaaDoorQTrace
import Derived.Test.YthgapkbkhoeleaaDoorStmtFnExactTraceComponents
set_option linter.unusedVariables false
set_option linter.unusedSimpArgs false
namespace Go.Proofs.YthgapkbkhoeleaaDoor.LFnExactTraceComponents
open Go.RowKit Go.Proofs.YthgapkbkhoeleaaDoorW.PrintWords Go.Proofs.YthgapkbkhoeleaaDoorW.PrintMore Go.Proofs.YthgapkbkhoeleaaDoor.Q
open Go.Proofs.YthgapkbkhoeleaaDoor.PAll
theorem parts_small {n : Nat} (hn : n ≤ 8) {f : Nat → Nat → Bool} (hs : ∀ a b, f a b = f b a) {u : List Nat} (hul : u.length ≤ 24) (hu : ∀ x ∈ u, x < n) : ((partsW n f u).map ints).length ≤ 1000 ∧ ∀ x ∈ (partsW n f u).map ints, x.length ≤ 1000 := by
  constructor
  · unfold partsW
    rw [List.length_map, List.length_map]
    have := List.length_filter_le (headP n f fun a => decide (a ∈ u)) (List.range n)
    rw [List.length_range] at this
    omega
  · intro x hx
    obtain ⟨y, hy, rfl⟩ := List.mem_map.1 hx
    unfold partsW at hy
    obtain ⟨a, _, rfl⟩ := List.mem_map.1 hy
    rw [ints_length, normalP_length f hs (fun x hx => hu x (List.mem_filter.1 hx).1)]
    have := List.length_filter_le (compP n f (fun b => decide (b ∈ u)) a) u
    omega
theorem both_ev (n : Int) (D l1 : List Int) : ∃ r : List (List Int) × Int, r.1.length ≤ 1000 ∧ (∀ x ∈ r.1, x.length ≤ 1000) ∧ Ev (fun k => spec_TraceComponents.f k n D l1) r ∧ Ev (fun k => impl_TraceComponents.f k n D l1) r := by
  have hc := l03Code_ev n D l1 l1
  simp only [and_self] at hc
  have hk := checkWords_ev n D [l1]
  have e : (∀ x ∈ [l1], Word n x) ↔ Word n l1 := by simp
  simp only [e] at hk
  simp only [spec_TraceComponents.f, impl_TraceComponents.f, impl_Alphabet_ties.f]
  by_cases hA : Alpha n D
  · by_cases hW : Word n l1
    · rw [if_pos hA, if_pos hW] at hc hk
      obtain ⟨m, f, rfl, rfl, hm, hs, hr⟩ := hA.form
      obtain ⟨u, rfl, hul, hu⟩ := hW.form
      obtain ⟨b1, b2⟩ := parts_small hm hs hul hu
      refine ⟨((partsW m f u).map ints, 0), b1, b2, ?_, ?_⟩
      · exact Ev.bind hc (Ev.pos rfl (Ev.bind (l07Parts_ev m hm f hs hr u (by omega) hu) (Ev.now _)))
      · exact Ev.bind hk (Ev.pos rfl (Ev.some_bind (Ev.bind (partsOf_ev m hm f hs u (by omega) hu) (Ev.now _))))
    · rw [if_pos hA, if_neg hW] at hc hk
      exact ⟨([], 2), by simp, by simp, Ev.bind hc (Ev.neg (by decide) (Ev.now _)), Ev.bind hk (Ev.neg (by decide) (Ev.now _))⟩
  · rw [if_neg hA] at hc hk
    exact ⟨([], 1), by simp, by simp, Ev.bind hc (Ev.neg (by decide) (Ev.now _)), Ev.bind hk (Ev.neg (by decide) (Ev.now _))⟩
theorem law_ev (n : Int) (D : List Int) (l1 : List Int) (hD : D.length ≤ maxLen) (hl1 : l1.length ≤ maxLen) : Ev (fun k => laws_FnExactTraceComponents.f k n D l1) true := by
  unfold maxLen at hD hl1
  simp only [laws_FnExactTraceComponents.f]
  refine Ev.ite (fun c => Ev.now _) (fun cl1 => ?_)
  rw [szAlphabet_eq n D 1048576 (by omega) (by omega) hD]
  refine Ev.some_bind (Ev.ite (fun c2 => Ev.now _) (fun c2 => ?_))
  have hD' : D.length ≤ 1048576 := by
    by_cases g : (D.length : Int) ≤ 1048576
    · omega
    · rw [if_neg g] at c2; omega
  have hA := toAlphabet_ev n D (by omega)
  have eA := eqAlphabet_ev n D (by omega)
  have tl1 := toInt64S_ev l1 (by omega)
  have el1 := eqInt64S_ev l1 (by omega)
  obtain ⟨r, r1, r2, hs, hi⟩ := both_ev n D l1
  have r2' : ∀ x ∈ r.1, x.length ≤ 1000000 := fun x hx => by have := r2 x hx; omega
  have er := eqInt64SS_ev r.1 (by omega) r2'
  have mA := markAlphabet_ev n D 1 (by omega) (by omega) (by omega)
  have ml1 := markInt64S_ev l1 (1 + (D.length : Int)) (by omega) (by omega) (by omega)
  have mr := markInt64SS_ev r.1 1 (by omega) r2' (by omega) (by omega)
  have he := heldInt64SS_ev r.1 1 (by omega) r2' (by omega) (by omega)
  refine Ev.bind hA ?_
  refine Ev.bind tl1 ?_
  refine Ev.bind hs ?_
  refine Ev.bind hA ?_
  refine Ev.bind tl1 ?_
  refine Ev.bind hi ?_
  refine Ev.bind er (Ev.pos rfl (Ev.pos rfl ?_))
  refine Ev.bind hA (Ev.bind eA (Ev.pos rfl ?_))
  refine Ev.bind tl1 (Ev.bind el1 (Ev.pos rfl ?_))
  refine Ev.bind mA ?_
  refine Ev.bind ml1 ?_
  refine Ev.neg (by simp only []; omega) ?_
  refine Ev.bind er (Ev.pos rfl ?_)
  refine Ev.bind mr (Ev.bind he (Ev.neg (by omega) (Ev.pos rfl ?_)))
  refine Ev.bind hA ?_
  refine Ev.bind tl1 ?_
  refine Ev.bind hi (Ev.bind er (Ev.pos rfl (Ev.pos rfl ?_)))
  exact Ev.bind he (Ev.neg (by omega) (Ev.pos rfl (Ev.now _)))
theorem pure : PureStmt := fun n D l1 _ hD _ hl1 _ => (law_ev n D l1 hD hl1).elim fun K h => ⟨K, h K (Nat.le_refl K)⟩
end Go.Proofs.YthgapkbkhoeleaaDoor.LFnExactTraceComponents
