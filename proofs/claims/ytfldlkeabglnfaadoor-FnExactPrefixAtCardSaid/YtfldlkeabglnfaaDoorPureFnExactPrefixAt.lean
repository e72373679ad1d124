/- For every alphabet, word and set, FnExactPrefixAt answers true: the program's PrefixAt and the reference's come to the same, and leave their arguments alone. No condition. -/
import Derived.Test.YtfldlkeabglnfaaDoorPAllx1
import Derived.Test.YtfldlkeabglnfaaDoorPAllx12
import Derived.Test.YtfldlkeabglnfaaDoorPAllx13
import Derived.Test.YtfldlkeabglnfaaDoorPAllx2
import Derived.Test.YtfldlkeabglnfaaDoorV0
import Derived.Test.YtfldlkeabglnfaaDoorV1
import Derived.Test.YtfldlkeabglnfaaDoorV2
import Derived.Test.YtfldlkeabglnfaaDoorV5
import Derived.Test.YtfldlkeabglnfaaDoorQBase
import Derived.Test.YtfldlkeabglnfaaDoorQOrder
import Derived.Test.YtfldlkeabglnfaaDoorQTrace
import Derived.Test.YtfldlkeabglnfaaDoorStmtFnExactPrefixAt
set_option linter.unusedVariables false
set_option linter.unusedSimpArgs false
namespace Go.Proofs.YtfldlkeabglnfaaDoor.LFnExactPrefixAt
open Go.RowKit Go.Proofs.YtfldlkeabglnfaaDoorW.PrintWords Go.Proofs.YtfldlkeabglnfaaDoorW.PrintMore Go.Proofs.YtfldlkeabglnfaaDoor.Q
open Go.Proofs.YtfldlkeabglnfaaDoor.PAll
theorem both_ev (n : Int) (D l1 : List Int) (m1 : Int) : ∃ r : List Int × Int, r.1.length ≤ 100000 ∧ Ev (fun k => spec_PrefixAt.f k n D l1 m1) r ∧ Ev (fun k => impl_PrefixAt.f k n D l1 m1) r := by
  have hc := l03Code_ev n D l1 l1
  simp only [and_self] at hc
  have hk := checkWords_ev n D [l1]
  have e : (∀ x ∈ [l1], Word n x) ↔ Word n l1 := by simp
  simp only [e] at hk
  have bad : ∀ c : Int, c ≠ 0 → Ev (fun k => spec_l03Code.f k n D l1 l1) c → Ev (fun k => spec_PrefixAt.f k n D l1 m1) ([], c) := fun c h0 h => by
    simp only [spec_PrefixAt.f]
    refine Ev.bind (l04Code_bad n D l1 c h0 h) (Ev.neg h0 (Ev.succ ?_))
    simp only [spec_PrefixAt.j0]
    refine Ev.neg (by simp) (Ev.succ ?_)
    simp only [spec_PrefixAt.j1]
    refine Ev.neg h0 (Ev.succ ?_)
    simp only [spec_PrefixAt.j2]
    refine Ev.neg (by simp) (Ev.succ ?_)
    simp only [spec_PrefixAt.j3]
    exact Ev.neg h0 (Ev.now _)
  by_cases hA : Alpha n D
  · by_cases hW : Word n l1
    · rw [if_pos hA, if_pos hW] at hc hk
      obtain ⟨m, f, rfl, rfl, hm, hs, hr⟩ := hA.form
      obtain ⟨u, rfl, hul, hu⟩ := hW.form
      clear hA hW e bad
      have hnl := normalP_length f hs hu
      have hnlt := normalP_lt f hs hu
      have h1 := l04Code_ok m hm f hs u hul hu hc
      have h2 := positions_ev m hm f hs u hul hu
      have hp := Nat.two_pow_pos u.length
      have h24 := pow_lt62 hul
      by_cases c : 0 ≤ m1 ∧ m1 ≤ ((2 ^ u.length - 1 : Nat) : Int)
      · obtain ⟨M, rfl⟩ := Int.eq_ofNat_of_zero_le c.1
        have hM : M < 2 ^ u.length := by omega
        have hll := lettersP_length (normalP f m u) M
        have hlt := lettersP_lt hnlt M
        refine ⟨if downP (ordP f (normalP f m u)) u.length M = true then (ints (normalP f m (lettersP (normalP f m u) M)), 0) else ([], 5), ?_, ?_, ?_⟩
        · split
          · rw [ints_length, normalP_length f hs hlt]; omega
          · simp
        · simp only [spec_PrefixAt.f, l01In_eq]
          refine Ev.bind h1 (Ev.pos rfl ?_)
          rw [ints_length, l01Full_eq u.length (by omega)]
          refine Ev.some_bind (Ev.some_bind (Ev.succ ?_))
          simp only [spec_PrefixAt.j0]
          refine Ev.neg (by rw [decide_eq_true c]; simp) (Ev.succ ?_)
          simp only [spec_PrefixAt.j1]
          refine Ev.pos trivial (Ev.bind (l04Down_ev u.length hul _ M hM) (Ev.succ ?_))
          simp only [spec_PrefixAt.j2]
          by_cases g : downP (ordP f (normalP f m u)) u.length M = true
          · rw [if_pos g]
            refine Ev.neg (by rw [g]; simp) (Ev.succ ?_)
            simp only [spec_PrefixAt.j3]
            exact Ev.pos trivial (Ev.bind (l04At_ev _ (by omega) M (by omega)) (Ev.bind (l03Normal_ev m (by omega) f _ (by omega) hlt) (Ev.now _)))
          · rw [if_neg g]
            refine Ev.pos (by simpa using g) (Ev.succ ?_)
            simp only [spec_PrefixAt.j3]
            exact Ev.neg (by decide) (Ev.now _)
        · simp only [impl_PrefixAt.f, impl_length_int64.f]
          refine Ev.bind hk (Ev.pos rfl (Ev.some_bind ?_))
          rw [ints_length, IsMask24_eq u.length hul]
          refine Ev.some_bind (Ev.pos (by rw [decide_eq_true c]) (Ev.bind h2 (Ev.bind (converse_ev u.length hul _) (Ev.bind (lettersAt_ev _ (by simpa using hul) M (by simpa using hM)) ?_))))
          refine PrefixAt_l0 u.length hul _ M hM _ _ _ _ ?_
          simp only [impl_Alphabet_ties.f]
          exact Ev.some_bind (Ev.bind (lettersAt_ints _ (by omega) M (by rw [hnl]; exact hM)) (Ev.bind (normal_ev m hm f _ (by omega) hlt) (Ev.now _)))
      · refine ⟨([], 2), by simp, ?_, ?_⟩
        · simp only [spec_PrefixAt.f, l01In_eq]
          refine Ev.bind h1 (Ev.pos rfl ?_)
          rw [ints_length, l01Full_eq u.length (by omega)]
          refine Ev.some_bind (Ev.some_bind (Ev.succ ?_))
          simp only [spec_PrefixAt.j0]
          refine Ev.pos (by rw [decide_eq_false c]; rfl) (Ev.succ ?_)
          simp only [spec_PrefixAt.j1]
          refine Ev.neg (by decide) (Ev.succ ?_)
          simp only [spec_PrefixAt.j2]
          refine Ev.neg (by simp) (Ev.succ ?_)
          simp only [spec_PrefixAt.j3]
          exact Ev.neg (by decide) (Ev.now _)
        · simp only [impl_PrefixAt.f, impl_length_int64.f]
          refine Ev.bind hk (Ev.pos rfl (Ev.some_bind ?_))
          rw [ints_length, IsMask24_eq u.length hul]
          exact Ev.some_bind (Ev.neg (by rw [decide_eq_false c]; simp) (Ev.now _))
    · rw [if_pos hA, if_neg hW] at hc hk
      refine ⟨([], 2), by simp, bad 2 (by decide) hc, ?_⟩
      simp only [impl_PrefixAt.f]
      exact Ev.bind hk (Ev.neg (by decide) (Ev.now _))
  · rw [if_neg hA] at hc hk
    refine ⟨([], 1), by simp, bad 1 (by decide) hc, ?_⟩
    simp only [impl_PrefixAt.f]
    exact Ev.bind hk (Ev.neg (by decide) (Ev.now _))
theorem law_ev (n : Int) (D : List Int) (l1 : List Int) (m1 : Int) (hD : D.length ≤ maxLen) (hl1 : l1.length ≤ maxLen) : Ev (fun k => laws_FnExactPrefixAt.f k n D l1 m1) true := by
  unfold maxLen at hD hl1
  simp only [laws_FnExactPrefixAt.f]
  refine Ev.ite (fun c => Ev.now _) (fun cl1 => ?_)
  rw [szAlphabet_eq n D 1048576 (by omega) (by omega) hD]
  refine Ev.some_bind (Ev.ite (fun c2 => Ev.now _) (fun c2 => ?_))
  have hD' : D.length ≤ 1048576 := by
    by_cases g : (D.length : Int) ≤ 1048576
    · omega
    · rw [if_neg g] at c2; omega
  have hA := toAlphabet_ev n D (by omega)
  have eA := eqAlphabet_ev n D (by omega)
  have tl1 := toInt64S_ev l1 (by omega)
  have el1 := eqInt64S_ev l1 (by omega)
  obtain ⟨r, hr, hs, hi⟩ := both_ev n D l1 m1
  have er := eqInt64S_ev r.1 (by omega)
  have mA := markAlphabet_ev n D 1 (by omega) (by omega) (by omega)
  have ml1 := markInt64S_ev l1 (1 + (D.length : Int)) (by omega) (by omega) (by omega)
  have mr := markInt64S_ev r.1 1 (by omega) (by omega) (by omega)
  have he := heldInt64S_ev r.1 1 (by omega) (by omega)
  refine Ev.bind hA ?_
  refine Ev.bind tl1 ?_
  refine Ev.bind hs ?_
  refine Ev.bind hA ?_
  refine Ev.bind tl1 ?_
  refine Ev.bind hi ?_
  refine Ev.bind er (Ev.pos rfl (Ev.pos rfl ?_))
  refine Ev.bind hA (Ev.bind eA (Ev.pos rfl ?_))
  refine Ev.bind tl1 (Ev.bind el1 (Ev.pos rfl ?_))
  refine Ev.bind mA ?_
  refine Ev.bind ml1 ?_
  refine Ev.neg (by simp only []; omega) ?_
  refine Ev.bind er (Ev.pos rfl ?_)
  refine Ev.bind mr (Ev.bind he (Ev.neg (by omega) (Ev.pos rfl ?_)))
  refine Ev.bind hA ?_
  refine Ev.bind tl1 ?_
  refine Ev.bind hi (Ev.bind er (Ev.pos rfl (Ev.pos rfl ?_)))
  exact Ev.bind he (Ev.neg (by omega) (Ev.pos rfl (Ev.now _)))
theorem pure : PureStmt := fun n D l1 m1 _ hD _ hl1 _ _ => (law_ev n D l1 m1 hD hl1).rounds
end Go.Proofs.YtfldlkeabglnfaaDoor.LFnExactPrefixAt
