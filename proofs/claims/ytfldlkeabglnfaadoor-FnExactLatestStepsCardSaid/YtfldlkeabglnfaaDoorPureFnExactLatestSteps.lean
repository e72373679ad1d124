/- For every alphabet and word, FnExactLatestSteps answers true: the program's LatestSteps and the reference's come to the same, and leave their arguments alone. No condition. -/
import Derived.Test.YtfldlkeabglnfaaDoorPAllx2
import Derived.Test.YtfldlkeabglnfaaDoorPAllx3
import Derived.Test.YtfldlkeabglnfaaDoorPAllx5
import Derived.Test.YtfldlkeabglnfaaDoorV0
import Derived.Test.YtfldlkeabglnfaaDoorV1
import Derived.Test.YtfldlkeabglnfaaDoorQBase
import Derived.Test.YtfldlkeabglnfaaDoorQFoata
import Derived.Test.YtfldlkeabglnfaaDoorQMeet
import Derived.Test.YtfldlkeabglnfaaDoorQOrder
import Derived.Test.YtfldlkeabglnfaaDoorQRev
import Derived.Test.YtfldlkeabglnfaaDoorQTrace
import Derived.Test.YtfldlkeabglnfaaDoorStmtFnExactLatestSteps
set_option linter.unusedVariables false
set_option linter.unusedSimpArgs false
namespace Go.Proofs.YtfldlkeabglnfaaDoor.LFnExactLatestSteps
open Go.RowKit Go.Proofs.YtfldlkeabglnfaaDoorW.PrintWords Go.Proofs.YtfldlkeabglnfaaDoorW.PrintMore Go.Proofs.YtfldlkeabglnfaaDoor.Q
open Go.Proofs.YtfldlkeabglnfaaDoor.PAll
theorem both_ev (n : Int) (D l1 : List Int) : ∃ r : List Int × Int, r.1.length ≤ 100000 ∧ Ev (fun k => spec_LatestSteps.f k n D l1) r ∧ Ev (fun k => impl_LatestSteps.f k n D l1) r := by
 have hc := l03Code_ev n D l1 l1
 simp only [and_self] at hc
 have hk := checkWords_ev n D [l1]
 have e : (∀ x ∈ [l1], Word n x) ↔ Word n l1 := by simp
 simp only [e] at hk
 simp only [spec_LatestSteps.f, impl_LatestSteps.f, impl_Alphabet_ties.f]
 by_cases hA : Alpha n D
 ·by_cases hW : Word n l1
  ·rw [if_pos hA, if_pos hW] at hc hk
   obtain ⟨m, f, rfl, rfl, hm, hs, hr⟩ := hA.form
   obtain ⟨u, rfl, hul, hu⟩ := hW.form
   clear hA hW e
   have hnl := normalP_length f hs hu
   have hnlt := normalP_lt f hs hu
   have h1 := l04Code_ok m hm f hs u hul hu hc
   have h2 := positions_ev m hm f hs u hul hu
   have htr := normalP_TrEq f hs _ u rfl hu
   have hfl := foataP_length_TrEq f hs htr
   have hle : ∀ i k, ordP f (normalP f m u) i k = true → i ≤ k := fun i k h => clos_le (n := (normalP f m u).length) (fun i k h => (eP_lt h).1) h
   have hfo : (foataP f u).length ≤ 24 := by
    have := stp_length_le f u u.length
    unfold foataP
    omega
   obtain ⟨ys, y1, y2, y3⟩ := chainsFrom_ev u.length hul (ordP f (normalP f m u)) hle
   have hback : ∀ i, i < u.length → ChainAt (ordP f (normalP f m u)) u.length (fun j => (hts f (normalP f m u).reverse u.length).getD (u.length - 1 - j) 0) i := by
    have := ChainAt.closure (f := f) (w := normalP f m u) (B := fun j => (hts f (normalP f m u).reverse (normalP f m u).length).getD ((normalP f m u).length - 1 - j) 0) (fun i hi => ChainAt.back f hs (normalP f m u) (eP f (normalP f m u)) (fun i k hik hk => by simp [eP, hik, hk]) i hi)
    rw [hnl] at this
    exact this
   have heq : ∀ i, i < u.length → ys.getD i 0 = (hts f (normalP f m u).reverse u.length).getD (u.length - 1 - i) 0 := fun i hi => ChainAt.unique y2 hback (u.length - i - 1) i (by omega)
   have hyb : ∀ j, ys.getD j 0 ≤ 24 := fun j => by
    by_cases hj : j < u.length
    ·have : ys.getD j 0 ≤ u.length - j := ChainAt.le (i0 := 0) (fun j _ hj => y2 j hj) (u.length - j - 1) j (by omega) (by omega)
     omega
    ·rw [List.getD_eq_getElem?_getD, List.getElem?_eq_none (by omega)]; simp
   have hhl := hts_length f (normalP f m u).reverse u.length
   have hbb : ∀ j, (hts f (normalP f m u).reverse u.length).getD j 0 ≤ 24 := fun j => by
    by_cases hj : j < u.length
    ·have := hyb (u.length - 1 - j)
     rw [heq _ (by omega), show u.length - 1 - (u.length - 1 - j) = j by omega] at this
     exact this
    ·rw [List.getD_eq_getElem?_getD, List.getElem?_eq_none (by omega)]; simp
   have hlat : latestP (foataP f u).length u.length (fun j => ys.getD j 0) = latestP (foataP f u).length u.length (fun j => (hts f (normalP f m u).reverse u.length).getD (u.length - 1 - j) 0) := by
    unfold latestP
    exact List.map_congr_left fun i hi => by
     show ((foataP f u).length : Int) + 1 - ((ys.getD i 0 : Nat) : Int) = _
     rw [heq i (List.mem_range.1 hi)]
   refine ⟨(latestP (foataP f u).length u.length (fun j => ys.getD j 0), 0), by rw [latestP_length]; omega, ?_, ?_⟩
   ·refine Ev.bind h1 (Ev.pos rfl (Ev.bind (l03Foata_ev m hm f (normalP f m u) (by omega) hnlt) (Ev.bind (l03Back_ev (normalP f m u) (by omega)) (Ev.bind (l03Heights_ev m hm f (normalP f m u).reverse (by simp; omega) (fun x hx => hnlt x (by simpa using hx))) ?_))))
    rw [hlat, ints_length, hfl, List.length_reverse, hnl]
    have := spec_Latest_l0 (normalP f m u) (hts f (normalP f m u).reverse u.length) (by omega) (by omega) (fun j => by have := hbb j; omega) (foataP f u).length (by omega) u.length 0 (by omega)
    rw [hnl] at this
    exact this
   ·refine Ev.bind hk (Ev.pos rfl (Ev.bind h2 (Ev.bind y3 (Ev.some_bind (Ev.bind (foata_ev m hm f hs u (by omega) hu) ?_)))))
    simp only [impl_length_int64.f]
    refine Ev.some_bind ?_
    rw [ints_length, ints_length, y1]
    exact impl_Latest_l0 u.length hul ys y1 (fun j => by have := hyb j; omega) (foataP f u).length (by omega) u.length 0 (by omega)
  ·rw [if_pos hA, if_neg hW] at hc hk
   exact ⟨([], 2), by simp, Ev.bind (l04Code_bad n D l1 2 (by decide) hc) (Ev.neg (by decide) (Ev.now _)), Ev.bind hk (Ev.neg (by decide) (Ev.now _))⟩
 ·rw [if_neg hA] at hc hk
  exact ⟨([], 1), by simp, Ev.bind (l04Code_bad n D l1 1 (by decide) hc) (Ev.neg (by decide) (Ev.now _)), Ev.bind hk (Ev.neg (by decide) (Ev.now _))⟩
theorem law_ev (n : Int) (D : List Int) (l1 : List Int) (hD : D.length ≤ maxLen) (hl1 : l1.length ≤ maxLen) : Ev (fun k => laws_FnExactLatestSteps.f k n D l1) true := by
 unfold maxLen at hD hl1
 simp only [laws_FnExactLatestSteps.f]
 refine Ev.ite (fun c => Ev.now _) (fun cl1 => ?_)
 rw [szAlphabet_eq n D 1048576 (by omega) (by omega) hD]
 refine Ev.some_bind (Ev.ite (fun c2 => Ev.now _) (fun c2 => ?_))
 have hD' : D.length ≤ 1048576 := by
  by_cases g : (D.length : Int) ≤ 1048576
  ·omega
  ·rw [if_neg g] at c2; omega
 have hA := toAlphabet_ev n D (by omega)
 have eA := eqAlphabet_ev n D (by omega)
 have tl1 := toInt64S_ev l1 (by omega)
 have el1 := eqInt64S_ev l1 (by omega)
 obtain ⟨r, hr, hs, hi⟩ := both_ev n D l1
 have er := eqInt64S_ev r.1 (by omega)
 have mA := markAlphabet_ev n D 1 (by omega) (by omega) (by omega)
 have ml1 := markInt64S_ev l1 (1 + (D.length : Int)) (by omega) (by omega) (by omega)
 have mr := markInt64S_ev r.1 1 (by omega) (by omega) (by omega)
 have he := heldInt64S_ev r.1 1 (by omega) (by omega)
 refine Ev.bind hA ?_
 refine Ev.bind tl1 ?_
 refine Ev.bind hs ?_
 refine Ev.bind hA ?_
 refine Ev.bind tl1 ?_
 refine Ev.bind hi ?_
 refine Ev.bind er (Ev.pos rfl (Ev.pos rfl ?_))
 refine Ev.bind hA (Ev.bind eA (Ev.pos rfl ?_))
 refine Ev.bind tl1 (Ev.bind el1 (Ev.pos rfl ?_))
 refine Ev.bind mA ?_
 refine Ev.bind ml1 ?_
 refine Ev.neg (by simp only []; omega) ?_
 refine Ev.bind er (Ev.pos rfl ?_)
 refine Ev.bind mr (Ev.bind he (Ev.neg (by omega) (Ev.pos rfl ?_)))
 refine Ev.bind hA ?_
 refine Ev.bind tl1 ?_
 refine Ev.bind hi (Ev.bind er (Ev.pos rfl (Ev.pos rfl ?_)))
 exact Ev.bind he (Ev.neg (by omega) (Ev.pos rfl (Ev.now _)))
theorem pure : PureStmt := fun n D l1 _ hD _ hl1 _ => (law_ev n D l1 hD hl1).rounds
end Go.Proofs.YtfldlkeabglnfaaDoor.LFnExactLatestSteps
