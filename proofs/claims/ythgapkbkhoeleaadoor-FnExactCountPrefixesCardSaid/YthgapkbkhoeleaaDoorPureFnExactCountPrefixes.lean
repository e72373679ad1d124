/- For every alphabet and word, FnExactCountPrefixes answers true: the program's CountPrefixes and the reference's come to the same, and leave their arguments alone. No condition. -/
import Derived.Test.YthgapkbkhoeleaaDoorPAllx2
import Derived.Test.YthgapkbkhoeleaaDoorPAllx3
import Derived.Test.YthgapkbkhoeleaaDoorV0
import Derived.Test.YthgapkbkhoeleaaDoorV1
import Derived.Test.YthgapkbkhoeleaaDoorQBase
import Derived.Test.YthgapkbkhoeleaaDoorQOrder
import Derived.Test.YthgapkbkhoeleaaDoorQRev
import Derived.Test.YthgapkbkhoeleaaDoorQTrace
import Derived.Test.YthgapkbkhoeleaaDoorStmtFnExactCountPrefixes
set_option linter.unusedVariables false
set_option linter.unusedSimpArgs false
namespace Go.Proofs.YthgapkbkhoeleaaDoor.LFnExactCountPrefixes
open Go.RowKit Go.Proofs.YthgapkbkhoeleaaDoorW.PrintWords Go.Proofs.YthgapkbkhoeleaaDoorW.PrintMore Go.Proofs.YthgapkbkhoeleaaDoor.Q
open Go.Proofs.YthgapkbkhoeleaaDoor.PAll
theorem both_ev (n : Int) (D l1 : List Int) : ∃ r : Int × Int, Ev (fun k => spec_CountPrefixes.f k n D l1) r ∧ Ev (fun k => impl_CountPrefixes.f k n D l1) r := by
  have hc := l03Code_ev n D l1 l1
  simp only [and_self] at hc
  have hk := checkWords_ev n D [l1]
  have e : (∀ x ∈ [l1], Word n x) ↔ Word n l1 := by simp
  simp only [e] at hk
  simp only [spec_CountPrefixes.f, impl_CountPrefixes.f, impl_Alphabet_ties.f]
  by_cases hA : Alpha n D
  · by_cases hW : Word n l1
    · rw [if_pos hA, if_pos hW] at hc hk
      obtain ⟨m, f, rfl, rfl, hm, hs, hr⟩ := hA.form
      obtain ⟨u, rfl, hul, hu⟩ := hW.form
      clear hA hW e
      have h1 := l04Code_ok m hm f hs u hul hu hc
      have h2 := countPrefixes_ev hm hr hul hu
      have hnl := normalP_length f hs hu
      have ht := normalP_TrEq f hs u.length u rfl hu
      have hnn : ∀ x ∈ normalP f m u, x < m := fun x hx => hu x ((TrEq.mem f ht x).1 hx)
      have eq : (dns f (normalP f m u)).length = (dns f u).length := Nat.le_antisymm (dns_TrEq hs hr hnn hu ht) (dns_TrEq hs hr hu hnn (TrEq.symm f hs ht))
      have h3 := countDown_ev u.length (by omega) (ordP f (normalP f m u)) (fun i k h => ordP_le' h) u.length 0 0 (Nat.le_refl _) (Nat.two_pow_pos _) (Nat.two_pow_pos _) (fun i _ => Nat.zero_testBit i)
      have h4 := cdP_dns f (normalP f m u)
      rw [hnl, eq] at h4
      rw [h4] at h3
      refine ⟨(((dns f u).length : Nat), 0), Ev.bind h1 (Ev.pos rfl ?_), Ev.bind hk (Ev.pos rfl (Ev.some_bind (Ev.bind h2 (Ev.now _))))⟩
      simp only [mat_length]
      exact Ev.bind h3 (Ev.now _)
    · rw [if_pos hA, if_neg hW] at hc hk
      exact ⟨(0, 2), Ev.bind (l04Code_bad n D l1 2 (by decide) hc) (Ev.neg (by decide) (Ev.now _)), Ev.bind hk (Ev.neg (by decide) (Ev.now _))⟩
  · rw [if_neg hA] at hc hk
    exact ⟨(0, 1), Ev.bind (l04Code_bad n D l1 1 (by decide) hc) (Ev.neg (by decide) (Ev.now _)), Ev.bind hk (Ev.neg (by decide) (Ev.now _))⟩
theorem law_ev (n : Int) (D : List Int) (l1 : List Int) (hD : D.length ≤ maxLen) (hl1 : l1.length ≤ maxLen) : Ev (fun k => laws_FnExactCountPrefixes.f k n D l1) true := by
  unfold maxLen at hD hl1
  simp only [laws_FnExactCountPrefixes.f]
  refine Ev.ite (fun c => Ev.now _) (fun cl1 => ?_)
  rw [szAlphabet_eq n D 1048576 (by omega) (by omega) hD]
  refine Ev.some_bind (Ev.ite (fun c2 => Ev.now _) (fun c2 => ?_))
  have hD' : D.length ≤ 1048576 := by
    by_cases g : (D.length : Int) ≤ 1048576
    · omega
    · rw [if_neg g] at c2; omega
  have hA := toAlphabet_ev n D (by omega)
  have eA := eqAlphabet_ev n D (by omega)
  have tl1 := toInt64S_ev l1 (by omega)
  have el1 := eqInt64S_ev l1 (by omega)
  obtain ⟨r, hs, hi⟩ := both_ev n D l1
  refine Ev.bind hA ?_
  refine Ev.bind tl1 ?_
  refine Ev.bind hs ?_
  refine Ev.bind hA ?_
  refine Ev.bind tl1 ?_
  refine Ev.bind hi ?_
  refine Ev.pos rfl (Ev.pos rfl ?_)
  refine Ev.bind hA (Ev.bind eA (Ev.pos rfl ?_))
  refine Ev.bind tl1 (Ev.bind el1 (Ev.pos rfl ?_))
  exact Ev.now _
theorem pure : PureStmt := fun n D l1 _ hD _ hl1 _ => (law_ev n D l1 hD hl1).elim fun K h => ⟨K, h K (Nat.le_refl K)⟩
end Go.Proofs.YthgapkbkhoeleaaDoor.LFnExactCountPrefixes
