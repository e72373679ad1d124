/- For every alphabet and length, FnExactTracesOfLength answers true: the program's TracesOfLength and the reference's come to the same, and leave their arguments alone. No condition. -/
import Derived.Test.YtemdfjdmokbcoaaDoorPAllx1
import Derived.Test.YtemdfjdmokbcoaaDoorPAllx7
import Derived.Test.YtemdfjdmokbcoaaDoorPAllx8
import Derived.Test.YtemdfjdmokbcoaaDoorV1
import Derived.Test.YtemdfjdmokbcoaaDoorQBase
import Derived.Test.YtemdfjdmokbcoaaDoorQCF
import Derived.Test.YtemdfjdmokbcoaaDoorQConj
import Derived.Test.YtemdfjdmokbcoaaDoorQTrace
import Derived.Test.YtemdfjdmokbcoaaDoorStmtFnExactTracesOfLength
set_option linter.unusedVariables false
set_option linter.unusedSimpArgs false
namespace Go.Proofs.YtemdfjdmokbcoaaDoor.LFnExactTracesOfLength
open Go.RowKit Go.Proofs.YtemdfjdmokbcoaaDoorW.PrintWords Go.Proofs.YtemdfjdmokbcoaaDoorW.PrintMore Go.Proofs.YtemdfjdmokbcoaaDoor.Q
open Go.Proofs.YtemdfjdmokbcoaaDoor.PAll
theorem both_ev (n : Int) (D : List Int) (a : Int) : ∃ r : List (List Int) × Int, r.1.length ≤ 1000 ∧ (∀ x ∈ r.1, x.length ≤ 1000) ∧ Ev (fun k => spec_TracesOfLength.f k n D a) r ∧ Ev (fun k => impl_TracesOfLength.f k n D a) r := by
  obtain ⟨c, h1, h2, h3⟩ := checkCount_ev n D a
  simp only [spec_TracesOfLength.f, impl_TracesOfLength.f]
  rcases h3 with rfl | rfl | ⟨m, f, N, hA, rfl, rfl, hm, hs, hr, rfl, hN, h4⟩
  · exact ⟨([], 1), by simp, by simp, Ev.bind h1 (Ev.neg (by decide) (Ev.now _)), Ev.bind h2 (Ev.neg (by decide) (Ev.now _))⟩
  · exact ⟨([], 2), by simp, by simp, Ev.bind h1 (Ev.neg (by decide) (Ev.now _)), Ev.bind h2 (Ev.neg (by decide) (Ev.now _))⟩
  · rcases h4 with ⟨hb, rfl, _⟩ | ⟨hb, rfl, _⟩
    · by_cases hq : nP m f N ≤ 1000
      · have hlen : (listP m f N 0 []).length = nP m f N := by
          rw [listP_length]
          unfold nP
          exact aP_congr m f N (fun b _ => Nat.zero_testBit b)
        have hw := listP_word m f N 0 [] (by simp)
        have e1 := specList_ev m hm f N 0 [] [] (Nat.two_pow_pos m) (by simp; omega) (by rw [hlen]; simp; omega)
        have e2 := forms_ev m hm f N 0 [] [] (Nat.two_pow_pos m) (by simp; omega) (by rw [hlen]; simp; omega)
        simp only [List.nil_append] at e1 e2
        refine ⟨((listP m f N 0 []).map ints, 0), by simp only [List.length_map]; omega, fun x hx => ?_, Ev.bind h1 (Ev.pos rfl (Ev.neg (by simp only []; omega) (Ev.bind e1 (Ev.now _)))), Ev.bind h2 (Ev.pos rfl (Ev.neg (by simp only []; omega) (Ev.bind e2 (Ev.now _))))⟩
        obtain ⟨y, hy, rfl⟩ := List.mem_map.1 hx
        have := (hw y hy).1
        rw [ints_length]
        simp at this
        omega
      · exact ⟨([], 3), by simp, by simp, Ev.bind h1 (Ev.pos rfl (Ev.pos (by simp only []; omega) (Ev.now _))), Ev.bind h2 (Ev.pos rfl (Ev.pos (by simp only []; omega) (Ev.now _)))⟩
    · exact ⟨([], 3), by simp, by simp, Ev.bind h1 (Ev.neg (by decide) (Ev.now _)), Ev.bind h2 (Ev.neg (by decide) (Ev.now _))⟩
theorem law_ev (n : Int) (D : List Int) (a : Int) (hD : D.length ≤ maxLen) : Ev (fun k => laws_FnExactTracesOfLength.f k n D a) true := by
  unfold maxLen at hD
  simp only [laws_FnExactTracesOfLength.f]
  rw [szAlphabet_eq n D 1048576 (by omega) (by omega) hD]
  refine Ev.some_bind (Ev.ite (fun c2 => Ev.now _) (fun c2 => ?_))
  have hD' : D.length ≤ 1048576 := by
    by_cases g : (D.length : Int) ≤ 1048576
    · omega
    · rw [if_neg g] at c2; omega
  have hA := toAlphabet_ev n D (by omega)
  have eA := eqAlphabet_ev n D (by omega)
  obtain ⟨r, r1, r2, hs, hi⟩ := both_ev n D a
  have r2' : ∀ x ∈ r.1, x.length ≤ 1000000 := fun x hx => by have := r2 x hx; omega
  have er := eqInt64SS_ev r.1 (by omega) r2'
  have mA := markAlphabet_ev n D 1 (by omega) (by omega) (by omega)
  have mr := markInt64SS_ev r.1 1 (by omega) r2' (by omega) (by omega)
  have he := heldInt64SS_ev r.1 1 (by omega) r2' (by omega) (by omega)
  refine Ev.bind hA ?_
  refine Ev.bind hs ?_
  refine Ev.bind hA ?_
  refine Ev.bind hi ?_
  refine Ev.bind er (Ev.pos rfl (Ev.pos rfl ?_))
  refine Ev.bind hA (Ev.bind eA (Ev.pos rfl ?_))
  refine Ev.bind mA ?_
  refine Ev.neg (by simp only []; omega) ?_
  refine Ev.bind er (Ev.pos rfl ?_)
  refine Ev.bind mr (Ev.bind he (Ev.neg (by omega) (Ev.pos rfl ?_)))
  refine Ev.bind hA ?_
  refine Ev.bind hi (Ev.bind er (Ev.pos rfl (Ev.pos rfl ?_)))
  exact Ev.bind he (Ev.neg (by omega) (Ev.pos rfl (Ev.now _)))
theorem pure : PureStmt := fun n D a _ hD _ _ => (law_ev n D a hD).elim fun K h => ⟨K, h K (Nat.le_refl K)⟩
end Go.Proofs.YtemdfjdmokbcoaaDoor.LFnExactTracesOfLength
