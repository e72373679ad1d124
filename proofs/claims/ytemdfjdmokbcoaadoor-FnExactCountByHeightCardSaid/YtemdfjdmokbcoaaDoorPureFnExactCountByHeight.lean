/- For every alphabet and length, FnExactCountByHeight answers true: the program's CountByHeight and the reference's come to the same, and leave their arguments alone. No condition. -/
import Derived.Test.YtemdfjdmokbcoaaDoorPAllx3
import Derived.Test.YtemdfjdmokbcoaaDoorPAllx8
import Derived.Test.YtemdfjdmokbcoaaDoorPAllx9
import Derived.Test.YtemdfjdmokbcoaaDoorV1
import Derived.Test.YtemdfjdmokbcoaaDoorQBase
import Derived.Test.YtemdfjdmokbcoaaDoorQConj
import Derived.Test.YtemdfjdmokbcoaaDoorQCount
import Derived.Test.YtemdfjdmokbcoaaDoorQDraw
import Derived.Test.YtemdfjdmokbcoaaDoorQHgt
import Derived.Test.YtemdfjdmokbcoaaDoorQProd
import Derived.Test.YtemdfjdmokbcoaaDoorQRev
import Derived.Test.YtemdfjdmokbcoaaDoorQTrace
import Derived.Test.YtemdfjdmokbcoaaDoorStmtFnExactCountByHeight
set_option linter.unusedVariables false
set_option linter.unusedSimpArgs false
namespace Go.Proofs.YtemdfjdmokbcoaaDoor.LFnExactCountByHeight
open Go.RowKit Go.Proofs.YtemdfjdmokbcoaaDoorW.PrintWords Go.Proofs.YtemdfjdmokbcoaaDoorW.PrintMore Go.Proofs.YtemdfjdmokbcoaaDoor.Q
open Go.Proofs.YtemdfjdmokbcoaaDoor.PAll
theorem both_ev (n : Int) (D : List Int) (a : Int) : ∃ r : List Int × Int, r.1.length ≤ 100000 ∧ Ev (fun k => spec_CountByHeight.f k n D a) r ∧ Ev (fun k => impl_CountByHeight.f k n D a) r := by
  obtain ⟨r, h1, h2, h3⟩ := checkCount_ev n D a
  have early : r.2 ≠ 0 → ∃ r : List Int × Int, r.1.length ≤ 100000 ∧ Ev (fun k => spec_CountByHeight.f k n D a) r ∧ Ev (fun k => impl_CountByHeight.f k n D a) r := fun z => by
    refine ⟨([], r.2), by simp, ?_, ?_⟩
    · simp only [spec_CountByHeight.f]
      exact Ev.bind h1 (Ev.neg z (Ev.now _))
    · simp only [impl_CountByHeight.f]
      exact Ev.bind h2 (Ev.neg z (Ev.now _))
  rcases h3 with rfl | rfl | ⟨m, f, N, hA, rfl, rfl, hm, hs, hr, rfl, hN, h4⟩
  · exact early (by decide)
  · exact early (by decide)
  · rcases h4 with ⟨_, rfl, _⟩ | ⟨_, rfl, _⟩
    · obtain ⟨T, hT⟩ := stepsP_head m f
      have hd := stepsP_nodup m f
      have hl := stepsP_few m hm f
      have hS := stepsP_lt m f
      have hlen : 1 ≤ (stepsP m f).length := by rw [hT]; simp
      have h00 : (stepsP m f).getD 0 0 = 0 := by rw [hT]; rfl
      have hsp := heights_ev m f (stepsP m f) hl N hN
      have hw : ∀ x : Nat, x < 2 ^ m → (Lit.int .i64 (x : Int)).wf = true := fun x hx => by
        have h8 : (2 : Nat) ^ m ≤ 2 ^ 8 := Nat.pow_le_pow_right (by decide) hm
        have h9 : x < 256 := by omega
        simp only [Lit.wf, IntKind.min, IntKind.max, IntKind.signed, IntKind.bits, Bool.and_eq_true, decide_eq_true_eq, if_true]
        omega
      have hcond : 1 ≤ (ints (stepsP m f)).length ∧ (ints (stepsP m f)).length < 1000000000 ∧ ((ints (stepsP m f)).drop 1).Nodup ∧ (((ints (stepsP m f)).drop 1).all fun s => (Lit.int .i64 s).wf) = true ∧ 0 ≤ (N : Int) ∧ (N : Int) < 1000000000 := by
        refine ⟨by rw [ints_length]; exact hlen, by rw [ints_length]; omega, ?_, ?_, by omega, by omega⟩
        · refine (List.drop_sublist 1 _).nodup ?_
          exact List.Pairwise.map _ (fun a b hab h => hab (Int.ofNat.inj h)) hd
        · rw [List.all_eq_true]
          intro s hs
          obtain ⟨x, hx, rfl⟩ := List.mem_map.1 (List.mem_of_mem_drop hs)
          exact hw x (hS x hx)
      refine ⟨(rowW (N + 1) (fun h => sS (fun i => aS m f (stepsP m f) h N i) (stepsP m f).length), 0), by simp only [rowW_length]; omega, ?_, ?_⟩
      · simp only [spec_CountByHeight.f]
        exact Ev.bind h1 (Ev.pos rfl (Ev.bind (l06First_ev m hm f N hN) hsp))
      · simp only [impl_CountByHeight.f]
        refine Ev.bind h2 (Ev.pos rfl (Ev.bind (stepsOf_ev m hm f hs hr) (Ev.pos hcond ?_)))
        by_cases c : N = 0
        · subst c
          refine Ev.pos (by omega) (Ev.val (Ev.now _) ?_)
          have e : sS (fun i => aS m f (stepsP m f) 0 0 i) (stepsP m f).length = 1 := by
            rw [show (stepsP m f).length = (stepsP m f).length - 1 + 1 by omega, sS_front, sS_none _ (fun i _ => by simp [aS, cA])]
            simp [aS, cA]
          have e2 : rowW (0 + 1) (fun h => sS (fun i => aS m f (stepsP m f) h 0 i) (stepsP m f).length) = [wrap64 (sS (fun i => aS m f (stepsP m f) 0 0 i) (stepsP m f).length)] := rfl
          rw [e2, e, w64 (by omega) (by omega)]
        · obtain ⟨R, g1, g2⟩ := hgt0_ev m hm (stepsP m f) hS hl hd N hN ((stepsP m f).length - 1) 0 (fun _ => List.replicate (N + 1) 0) (by omega) (fun i h0 _ => by
            rw [rowW_none]
            exact rowW_congr _ (fun j _ => (if_neg (by omega)).symm))
          have g3 := hgt1_ev m hm f hs (stepsP m f) hS hl hd h00 N hN N 1 R (by omega) (Nat.le_refl 1) (rowsOk_congr g1 (fun i j h0 _ _ => by
            unfold dS
            rw [Nat.sub_self, dD]
            have e : i - 1 + 1 = i := by omega
            rw [e]))
          have e0 : outS m f (stepsP m f) N 1 = List.replicate (N + 1) 0 := by
            rw [rowW_none]
            exact rowW_congr _ (fun x _ => if_neg (by omega))
          rw [e0, outS_spec m f (stepsP m f) hlen h00 N (by omega)] at g3
          refine Ev.neg (by omega) ?_
          rw [show ((N : Int) + 1).toNat = N + 1 by omega]
          exact Ev.bind g2 (Ev.bind g3 (Ev.now _))
    · exact early (by decide)
theorem law_ev (n : Int) (D : List Int) (a : Int) (hD : D.length ≤ maxLen) : Ev (fun k => laws_FnExactCountByHeight.f k n D a) true := by
  unfold maxLen at hD
  simp only [laws_FnExactCountByHeight.f]
  rw [szAlphabet_eq n D 1048576 (by omega) (by omega) hD]
  refine Ev.some_bind (Ev.ite (fun c2 => Ev.now _) (fun c2 => ?_))
  have hD' : D.length ≤ 1048576 := by
    by_cases g : (D.length : Int) ≤ 1048576
    · omega
    · rw [if_neg g] at c2; omega
  have hA := toAlphabet_ev n D (by omega)
  have eA := eqAlphabet_ev n D (by omega)
  obtain ⟨r, hr, hs, hi⟩ := both_ev n D a
  have er := eqInt64S_ev r.1 (by omega)
  have mA := markAlphabet_ev n D 1 (by omega) (by omega) (by omega)
  have mr := markInt64S_ev r.1 1 (by omega) (by omega) (by omega)
  have he := heldInt64S_ev r.1 1 (by omega) (by omega)
  refine Ev.bind hA ?_
  refine Ev.bind hs ?_
  refine Ev.bind hA ?_
  refine Ev.bind hi ?_
  refine Ev.bind er (Ev.pos rfl (Ev.pos rfl ?_))
  refine Ev.bind hA (Ev.bind eA (Ev.pos rfl ?_))
  refine Ev.bind mA ?_
  refine Ev.neg (by simp only []; omega) ?_
  refine Ev.bind er (Ev.pos rfl ?_)
  refine Ev.bind mr (Ev.bind he (Ev.neg (by omega) (Ev.pos rfl ?_)))
  refine Ev.bind hA ?_
  refine Ev.bind hi (Ev.bind er (Ev.pos rfl (Ev.pos rfl ?_)))
  exact Ev.bind he (Ev.neg (by omega) (Ev.pos rfl (Ev.now _)))
theorem pure : PureStmt := fun n D a _ hD _ _ => (law_ev n D a hD).elim fun K h => ⟨K, h K (Nat.le_refl K)⟩
end Go.Proofs.YtemdfjdmokbcoaaDoor.LFnExactCountByHeight
