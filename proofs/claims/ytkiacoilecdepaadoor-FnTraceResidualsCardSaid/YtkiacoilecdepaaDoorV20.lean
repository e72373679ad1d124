import Derived.Test.YtkiacoilecdepaaDoorPAllx33
import Derived.Test.YtkiacoilecdepaaDoorPAllx4
import Derived.Test.YtkiacoilecdepaaDoorV0
import Derived.Test.YtkiacoilecdepaaDoorV1
import Derived.Test.YtkiacoilecdepaaDoorV11
import Derived.Test.YtkiacoilecdepaaDoorV3
import Derived.Test.YtkiacoilecdepaaDoorV8
import Derived.Test.YtkiacoilecdepaaDoorQBase
import Derived.Test.YtkiacoilecdepaaDoorQFoata
import Derived.Test.YtkiacoilecdepaaDoorQMeet
import Derived.Test.YtkiacoilecdepaaDoorQOrder
import Derived.Test.YtkiacoilecdepaaDoorQRev
import Derived.Test.YtkiacoilecdepaaDoorQTrace
set_option linter.unusedVariables false
set_option linter.unusedSimpArgs false
namespace Go.Proofs.YtkiacoilecdepaaDoor.PAll
open Go.RowKit Go.Proofs.YtkiacoilecdepaaDoorW.PrintWords Go.Proofs.YtkiacoilecdepaaDoorW.PrintMore Go.Proofs.YtkiacoilecdepaaDoor.Q
theorem ResidualAfter_impl {n : Nat} (hn : n ≤ 8) {f : Nat → Nat → Bool} (hs : ∀ a b, f a b = f b a) (hA : Alpha (n : Int) (mat n f)) {u v p a b : List Nat} (hl : u.length ≤ 24) (hu : ∀ x ∈ u, x < n) (hl2 : v.length ≤ 24) (hv : ∀ x ∈ v, x < n) (h : Meets f u v p a b) :
    Ev (fun k => impl_ResidualAfter.f k (n : Int) (mat n f) (ints u) (ints v)) (if apartP f a b = true then (if 24 < u.length + b.length then ([], 3) else (ints (normalP f n b), 0)) else ([], 4)) := by
  obtain ⟨q, a2, b2, g2, h2⟩ := checkJoin_ok n hn f u v hl hl2 hu hv (check_2 hA hl hu hl2 hv)
  obtain ⟨e0, e1, e2⟩ := Meets.unique f hs h g2
  subst e1 e2
  have hb : ∀ x ∈ b, x < n := fun x hx => hv x (cutP_sub f h.2.1 x hx)
  have l2 := cutP_length f h.2.1
  simp only [impl_ResidualAfter.f, impl_Alphabet_ties.f]
  refine Ev.bind h2 ?_
  by_cases c : apartP f a b = true
  · rw [if_pos c, if_pos c]
    by_cases g : 24 < u.length + b.length
    · rw [if_pos g, if_pos g]
      exact Ev.neg (by decide) (Ev.now _)
    · rw [if_neg g, if_neg g]
      exact Ev.pos rfl (Ev.some_bind (Ev.bind (normal_ev n hn f b (by omega) hb) (Ev.now _)))
  · rw [if_neg c, if_neg c]
    exact Ev.neg (by decide) (Ev.now _)
theorem Meets.exist {n : Nat} (hn : n ≤ 8) (f : Nat → Nat → Bool) (hA : Alpha (n : Int) (mat n f)) {u v : List Nat} (hl : u.length ≤ 24) (hu : ∀ x ∈ u, x < n) (hl2 : v.length ≤ 24) (hv : ∀ x ∈ v, x < n) : ∃ p a b, Meets f u v p a b := by
  obtain ⟨p, a, b, h, _⟩ := checkJoin_ok n hn f u v hl hl2 hu hv (check_2 hA hl hu hl2 hv)
  exact ⟨p, a, b, h⟩
theorem ResidualAfter_both (n : Int) (D l1 l2 : List Int) : ∃ r : List Int × Int, r.1.length ≤ 100000 ∧ Ev (fun k => spec_ResidualAfter.f k n D l1 l2) r ∧ Ev (fun k => impl_ResidualAfter.f k n D l1 l2) r ∧
    (r.2 = 0 → ∃ m f u v p a b, Two n D l1 l2 m f u v ∧ Meets f u v p a b ∧ apartP f a b = true ∧ u.length + b.length ≤ 24 ∧ r.1 = ints (normalP f m b)) := by
  rcases codes2 n D l1 l2 with ⟨m, f, u, v, T, hc, hk⟩ | ⟨c, c0, c1, hc, hk⟩
  · have T2 := T
    obtain ⟨rfl, rfl, rfl, rfl, hm, hs, hr, hul, hu, hvl, hv, hA⟩ := T
    obtain ⟨p, a, b, g1, h1⟩ := JoinOf_ok m hm f hs u v hul hvl hu hv hc
    have hb : ∀ x ∈ b, x < m := fun x hx => hv x (cutP_sub f g1.2.1 x hx)
    have l2 := cutP_length f g1.2.1
    have hub := mem_app hu hb
    refine ⟨if apartP f a b = true then (if 24 < u.length + b.length then ([], 3) else (ints (normalP f m b), 0)) else ([], 4), ?_, ?_, ResidualAfter_impl hm hs hA hul hu hvl hv g1, ?_⟩
    · split
      · split
        · simp
        · rw [ints_length, normalP_length f hs hb]; omega
      · simp
    · simp only [spec_ResidualAfter.f]
      refine Ev.bind h1 ?_
      by_cases c : apartP f a b = true
      · rw [if_pos c, if_pos c]
        by_cases g : 24 < u.length + b.length
        · rw [if_pos g, if_pos g]
          exact Ev.neg (by decide) (Ev.now _)
        · rw [if_neg g, if_neg g]
          have hn := normalP_TrEq f hs _ (u ++ b) rfl hub
          have hnl := normalP_lt f hs hub
          have hln := normalP_length f hs hub
          rw [List.length_append] at hln
          obtain ⟨r', k1, k2⟩ := cutP_TrEq_right f hs (TrEq.symm f hs hn) (cutP_self_append f u b)
          have c1 := l05Cut_ev m (by omega) f u (normalP f m (u ++ b)) (by omega) (by omega) hu hnl
          unfold cutR at c1
          rw [k1] at c1
          have hr' : ∀ x ∈ r', x < m := fun x hx => hnl x (cutP_sub f k1 x hx)
          have lr := TrEq.length f k2
          refine Ev.pos rfl (Ev.bind c1 (Ev.bind (l03Normal_ev m (by omega) f r' (by omega) hr') (Ev.const ?_)))
          rw [normalP_congr f hs hr' hb (TrEq.symm f hs k2)]
      · rw [if_neg c, if_neg c]
        exact Ev.neg (by decide) (Ev.now _)
    · intro h0
      by_cases c : apartP f a b = true
      · rw [if_pos c] at h0 ⊢
        by_cases g : 24 < u.length + b.length
        · rw [if_pos g] at h0; cases h0
        · rw [if_neg g]
          exact ⟨m, f, u, v, p, a, b, T2, g1, c, by omega, rfl⟩
      · rw [if_neg c] at h0; cases h0
  · refine ⟨([], c), by simp, ?_, ?_, fun h => absurd h c0⟩
    · simp only [spec_ResidualAfter.f]
      exact Ev.bind (JoinOf_bad n D l1 l2 c c0 hc) (Ev.neg c0 (Ev.now _))
    · simp only [impl_ResidualAfter.f]
      exact Ev.bind (checkJoin_bad n D l1 l2 c c0 hk) (Ev.neg c0 (Ev.now _))
end Go.Proofs.YtkiacoilecdepaaDoor.PAll
