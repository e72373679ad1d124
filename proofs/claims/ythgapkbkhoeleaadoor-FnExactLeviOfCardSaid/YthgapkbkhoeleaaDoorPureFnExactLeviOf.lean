/- For every alphabet and words, FnExactLeviOf answers true: the program's LeviOf and the reference's come to the same, leave their arguments alone, and share no memory. No condition. -/
import Derived.Test.YthgapkbkhoeleaaDoorPAllx6
import Derived.Test.YthgapkbkhoeleaaDoorV1
import Derived.Test.YthgapkbkhoeleaaDoorQBase
import Derived.Test.YthgapkbkhoeleaaDoorQTrace
import Derived.Test.YthgapkbkhoeleaaDoorStmtFnExactLeviOf
set_option linter.unusedVariables false
set_option linter.unusedSimpArgs false
namespace Go.Proofs.YthgapkbkhoeleaaDoor.LFnExactLeviOf
open Go.RowKit Go.Proofs.YthgapkbkhoeleaaDoorW.PrintWords Go.Proofs.YthgapkbkhoeleaaDoorW.PrintMore Go.Proofs.YthgapkbkhoeleaaDoor.Q
open Go.Proofs.YthgapkbkhoeleaaDoor.PAll
theorem law_ev (n : Int) (D : List Int) (l1 l2 l3 l4 : List Int) (hD : D.length ≤ maxLen) (hl1 : l1.length ≤ maxLen) (hl2 : l2.length ≤ maxLen) (hl3 : l3.length ≤ maxLen) (hl4 : l4.length ≤ maxLen) : Ev (fun k => laws_FnExactLeviOf.f k n D l1 l2 l3 l4) true := by
  unfold maxLen at hD hl1 hl2 hl3 hl4
  simp only [laws_FnExactLeviOf.f]
  refine Ev.ite (fun c => Ev.now _) (fun cl1 => ?_)
  refine Ev.ite (fun c => Ev.now _) (fun cl2 => ?_)
  refine Ev.ite (fun c => Ev.now _) (fun cl3 => ?_)
  refine Ev.ite (fun c => Ev.now _) (fun cl4 => ?_)
  rw [szAlphabet_eq n D 1048576 (by omega) (by omega) hD]
  refine Ev.some_bind (Ev.ite (fun c2 => Ev.now _) (fun c2 => ?_))
  have hD' : D.length ≤ 1048576 := by
    by_cases g : (D.length : Int) ≤ 1048576
    · omega
    · rw [if_neg g] at c2; omega
  have hA := toAlphabet_ev n D (by omega)
  have eA := eqAlphabet_ev n D (by omega)
  have tl1 := toInt64S_ev l1 (by omega)
  have el1 := eqInt64S_ev l1 (by omega)
  have tl2 := toInt64S_ev l2 (by omega)
  have el2 := eqInt64S_ev l2 (by omega)
  have tl3 := toInt64S_ev l3 (by omega)
  have el3 := eqInt64S_ev l3 (by omega)
  have tl4 := toInt64S_ev l4 (by omega)
  have el4 := eqInt64S_ev l4 (by omega)
  obtain ⟨r, r1, r2, hs, hi, _⟩ := LeviOf_both n D l1 l2 l3 l4
  have r2' : ∀ x ∈ r.1, x.length ≤ 1000000 := fun x hx => by have := r2 x hx; omega
  have er := eqInt64SS_ev r.1 (by omega) r2'
  have mA := markAlphabet_ev n D 1 (by omega) (by omega) (by omega)
  have ml1 := markInt64S_ev l1 (1 + (D.length : Int)) (by omega) (by omega) (by omega)
  have ml2 := markInt64S_ev l2 (1 + (D.length : Int) + (l1.length : Int)) (by omega) (by omega) (by omega)
  have ml3 := markInt64S_ev l3 (1 + (D.length : Int) + (l1.length : Int) + (l2.length : Int)) (by omega) (by omega) (by omega)
  have ml4 := markInt64S_ev l4 (1 + (D.length : Int) + (l1.length : Int) + (l2.length : Int) + (l3.length : Int)) (by omega) (by omega) (by omega)
  have mr := markInt64SS_ev r.1 1 (by omega) r2' (by omega) (by omega)
  have he := heldInt64SS_ev r.1 1 (by omega) r2' (by omega) (by omega)
  refine Ev.bind hA ?_
  refine Ev.bind tl1 ?_
  refine Ev.bind tl2 ?_
  refine Ev.bind tl3 ?_
  refine Ev.bind tl4 ?_
  refine Ev.bind hs ?_
  refine Ev.bind hA ?_
  refine Ev.bind tl1 ?_
  refine Ev.bind tl2 ?_
  refine Ev.bind tl3 ?_
  refine Ev.bind tl4 ?_
  refine Ev.bind hi ?_
  refine Ev.bind er (Ev.pos rfl (Ev.pos rfl ?_))
  refine Ev.bind hA (Ev.bind eA (Ev.pos rfl ?_))
  refine Ev.bind tl1 (Ev.bind el1 (Ev.pos rfl ?_))
  refine Ev.bind tl2 (Ev.bind el2 (Ev.pos rfl ?_))
  refine Ev.bind tl3 (Ev.bind el3 (Ev.pos rfl ?_))
  refine Ev.bind tl4 (Ev.bind el4 (Ev.pos rfl ?_))
  refine Ev.bind mA ?_
  refine Ev.bind ml1 ?_
  refine Ev.bind ml2 ?_
  refine Ev.bind ml3 ?_
  refine Ev.bind ml4 ?_
  refine Ev.neg (by simp only []; omega) ?_
  refine Ev.bind er (Ev.pos rfl ?_)
  refine Ev.bind mr (Ev.bind he (Ev.neg (by omega) (Ev.pos rfl ?_)))
  refine Ev.bind hA ?_
  refine Ev.bind tl1 ?_
  refine Ev.bind tl2 ?_
  refine Ev.bind tl3 ?_
  refine Ev.bind tl4 ?_
  refine Ev.bind hi (Ev.bind er (Ev.pos rfl (Ev.pos rfl ?_)))
  exact Ev.bind he (Ev.neg (by omega) (Ev.pos rfl (Ev.now _)))
theorem pure : PureStmt := fun n D l1 l2 l3 l4 _ hD _ hl1 _ hl2 _ hl3 _ hl4 _ => (law_ev n D l1 l2 l3 l4 hD hl1 hl2 hl3 hl4).elim fun K h => ⟨K, h K (Nat.le_refl K)⟩
end Go.Proofs.YthgapkbkhoeleaaDoor.LFnExactLeviOf
