/- For every alphabet and words, FnExactResidualAfter answers true: the program's ResidualAfter and the reference's come to the same, and leave their arguments alone. No condition. -/
import Derived.Test.YtfldlkeabglnfaaDoorPAllx1
import Derived.Test.YtfldlkeabglnfaaDoorPAllx14
import Derived.Test.YtfldlkeabglnfaaDoorPAllx15
import Derived.Test.YtfldlkeabglnfaaDoorV0
import Derived.Test.YtfldlkeabglnfaaDoorV1
import Derived.Test.YtfldlkeabglnfaaDoorV3
import Derived.Test.YtfldlkeabglnfaaDoorQBase
import Derived.Test.YtfldlkeabglnfaaDoorQFoata
import Derived.Test.YtfldlkeabglnfaaDoorQMeet
import Derived.Test.YtfldlkeabglnfaaDoorQOrder
import Derived.Test.YtfldlkeabglnfaaDoorQTrace
import Derived.Test.YtfldlkeabglnfaaDoorStmtFnExactResidualAfter
set_option linter.unusedVariables false
set_option linter.unusedSimpArgs false
namespace Go.Proofs.YtfldlkeabglnfaaDoor.LFnExactResidualAfter
open Go.RowKit Go.Proofs.YtfldlkeabglnfaaDoorW.PrintWords Go.Proofs.YtfldlkeabglnfaaDoorW.PrintMore Go.Proofs.YtfldlkeabglnfaaDoor.Q
open Go.Proofs.YtfldlkeabglnfaaDoor.PAll
theorem both_ev (n : Int) (D l1 l2 : List Int) : ∃ r : List Int × Int, r.1.length ≤ 100000 ∧ Ev (fun k => spec_ResidualAfter.f k n D l1 l2) r ∧ Ev (fun k => impl_ResidualAfter.f k n D l1 l2) r := by
  have hc := l03Code_ev n D l1 l2
  have hk := checkWords_ev n D [l1, l2]
  have e : (∀ x ∈ [l1, l2], Word n x) ↔ (Word n l1 ∧ Word n l2) := by simp
  simp only [e] at hk
  by_cases hA : Alpha n D
  · by_cases hW : Word n l1 ∧ Word n l2
    · rw [if_pos hA, if_pos hW] at hc hk
      obtain ⟨m, f, rfl, rfl, hm, hs, hr⟩ := hA.form
      obtain ⟨u, rfl, hul, hu⟩ := hW.1.form
      obtain ⟨v, rfl, hvl, hv⟩ := hW.2.form
      clear hA hW e
      obtain ⟨p, a, b, g1, h1⟩ := JoinOf_ok m hm f hs u v hul hvl hu hv hc
      obtain ⟨q, a2, b2, g2, h2⟩ := checkJoin_ok m hm f u v hul hvl hu hv hk
      obtain ⟨e0, e1, e2⟩ := Meets.unique f hs g1 g2
      subst e1 e2
      have hb : ∀ x ∈ b, x < m := fun x hx => hv x (cutP_sub f g1.2.1 x hx)
      have l2 := cutP_length f g1.2.1
      have hub := mem_app hu hb
      refine ⟨if apartP f a b = true then (if 24 < u.length + b.length then ([], 3) else (ints (normalP f m b), 0)) else ([], 4), ?_, ?_, ?_⟩
      · split
        · split
          · simp
          · rw [ints_length, normalP_length f hs hb]; omega
        · simp
      · simp only [spec_ResidualAfter.f]
        refine Ev.bind h1 ?_
        by_cases c : apartP f a b = true
        · rw [if_pos c, if_pos c]
          by_cases g : 24 < u.length + b.length
          · rw [if_pos g, if_pos g]
            exact Ev.neg (by decide) (Ev.now _)
          · rw [if_neg g, if_neg g]
            have hn := normalP_TrEq f hs _ (u ++ b) rfl hub
            have hnl := normalP_lt f hs hub
            have hln := normalP_length f hs hub
            rw [List.length_append] at hln
            obtain ⟨r', k1, k2⟩ := cutP_TrEq_right f hs (TrEq.symm f hs hn) (cutP_self_append f u b)
            have c1 := l05Cut_ev m (by omega) f u (normalP f m (u ++ b)) (by omega) (by omega) hu hnl
            unfold cutR at c1
            rw [k1] at c1
            have hr' : ∀ x ∈ r', x < m := fun x hx => hnl x (cutP_sub f k1 x hx)
            have lr := TrEq.length f k2
            refine Ev.pos rfl (Ev.bind c1 (Ev.bind (l03Normal_ev m (by omega) f r' (by omega) hr') (Ev.const ?_)))
            rw [normalP_congr f hs hr' hb (TrEq.symm f hs k2)]
        · rw [if_neg c, if_neg c]
          exact Ev.neg (by decide) (Ev.now _)
      · simp only [impl_ResidualAfter.f, impl_Alphabet_ties.f]
        refine Ev.bind h2 ?_
        by_cases c : apartP f a b = true
        · rw [if_pos c, if_pos c]
          by_cases g : 24 < u.length + b.length
          · rw [if_pos g, if_pos g]
            exact Ev.neg (by decide) (Ev.now _)
          · rw [if_neg g, if_neg g]
            exact Ev.pos rfl (Ev.some_bind (Ev.bind (normal_ev m hm f b (by omega) hb) (Ev.now _)))
        · rw [if_neg c, if_neg c]
          exact Ev.neg (by decide) (Ev.now _)
    · rw [if_pos hA, if_neg hW] at hc hk
      exact ⟨([], 2), by simp, by simp only [spec_ResidualAfter.f]; exact Ev.bind (JoinOf_bad n D l1 l2 2 (by decide) hc) (Ev.neg (by decide) (Ev.now _)), by simp only [impl_ResidualAfter.f]; exact Ev.bind (checkJoin_bad n D l1 l2 2 (by decide) hk) (Ev.neg (by decide) (Ev.now _))⟩
  · rw [if_neg hA] at hc hk
    exact ⟨([], 1), by simp, by simp only [spec_ResidualAfter.f]; exact Ev.bind (JoinOf_bad n D l1 l2 1 (by decide) hc) (Ev.neg (by decide) (Ev.now _)), by simp only [impl_ResidualAfter.f]; exact Ev.bind (checkJoin_bad n D l1 l2 1 (by decide) hk) (Ev.neg (by decide) (Ev.now _))⟩
theorem law_ev (n : Int) (D : List Int) (l1 : List Int) (l2 : List Int) (hD : D.length ≤ maxLen) (hl1 : l1.length ≤ maxLen) (hl2 : l2.length ≤ maxLen) : Ev (fun k => laws_FnExactResidualAfter.f k n D l1 l2) true := by
  unfold maxLen at hD hl1 hl2
  simp only [laws_FnExactResidualAfter.f]
  refine Ev.ite (fun c => Ev.now _) (fun cl1 => ?_)
  refine Ev.ite (fun c => Ev.now _) (fun cl2 => ?_)
  rw [szAlphabet_eq n D 1048576 (by omega) (by omega) hD]
  refine Ev.some_bind (Ev.ite (fun c2 => Ev.now _) (fun c2 => ?_))
  have hD' : D.length ≤ 1048576 := by
    by_cases g : (D.length : Int) ≤ 1048576
    · omega
    · rw [if_neg g] at c2; omega
  have hA := toAlphabet_ev n D (by omega)
  have eA := eqAlphabet_ev n D (by omega)
  have tl1 := toInt64S_ev l1 (by omega)
  have el1 := eqInt64S_ev l1 (by omega)
  have tl2 := toInt64S_ev l2 (by omega)
  have el2 := eqInt64S_ev l2 (by omega)
  obtain ⟨r, hr, hs, hi⟩ := both_ev n D l1 l2
  have er := eqInt64S_ev r.1 (by omega)
  have mA := markAlphabet_ev n D 1 (by omega) (by omega) (by omega)
  have ml1 := markInt64S_ev l1 (1 + (D.length : Int)) (by omega) (by omega) (by omega)
  have ml2 := markInt64S_ev l2 (1 + (D.length : Int) + (l1.length : Int)) (by omega) (by omega) (by omega)
  have mr := markInt64S_ev r.1 1 (by omega) (by omega) (by omega)
  have he := heldInt64S_ev r.1 1 (by omega) (by omega)
  refine Ev.bind hA ?_
  refine Ev.bind tl1 ?_
  refine Ev.bind tl2 ?_
  refine Ev.bind hs ?_
  refine Ev.bind hA ?_
  refine Ev.bind tl1 ?_
  refine Ev.bind tl2 ?_
  refine Ev.bind hi ?_
  refine Ev.bind er (Ev.pos rfl (Ev.pos rfl ?_))
  refine Ev.bind hA (Ev.bind eA (Ev.pos rfl ?_))
  refine Ev.bind tl1 (Ev.bind el1 (Ev.pos rfl ?_))
  refine Ev.bind tl2 (Ev.bind el2 (Ev.pos rfl ?_))
  refine Ev.bind mA ?_
  refine Ev.bind ml1 ?_
  refine Ev.bind ml2 ?_
  refine Ev.neg (by simp only []; omega) ?_
  refine Ev.bind er (Ev.pos rfl ?_)
  refine Ev.bind mr (Ev.bind he (Ev.neg (by omega) (Ev.pos rfl ?_)))
  refine Ev.bind hA ?_
  refine Ev.bind tl1 ?_
  refine Ev.bind tl2 ?_
  refine Ev.bind hi (Ev.bind er (Ev.pos rfl (Ev.pos rfl ?_)))
  exact Ev.bind he (Ev.neg (by omega) (Ev.pos rfl (Ev.now _)))
theorem pure : PureStmt := fun n D l1 l2 _ hD _ hl1 _ hl2 _ => (law_ev n D l1 l2 hD hl1 hl2).rounds
end Go.Proofs.YtfldlkeabglnfaaDoor.LFnExactResidualAfter
