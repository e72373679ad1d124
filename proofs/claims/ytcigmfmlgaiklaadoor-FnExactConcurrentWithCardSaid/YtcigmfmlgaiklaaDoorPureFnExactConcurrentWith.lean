/- For every alphabet, word and number, FnExactConcurrentWith answers true: the program's ConcurrentWith and the reference's come to the same, and leave their arguments alone. No condition. -/
import Derived.Test.YtcigmfmlgaiklaaDoorPAllx9
import Derived.Test.YtcigmfmlgaiklaaDoorV0
import Derived.Test.YtcigmfmlgaiklaaDoorV1
import Derived.Test.YtcigmfmlgaiklaaDoorV3
import Derived.Test.YtcigmfmlgaiklaaDoorV5
import Derived.Test.YtcigmfmlgaiklaaDoorV6
import Derived.Test.YtcigmfmlgaiklaaDoorQBase
import Derived.Test.YtcigmfmlgaiklaaDoorQMask
import Derived.Test.YtcigmfmlgaiklaaDoorQOrder
import Derived.Test.YtcigmfmlgaiklaaDoorQTrace
import Derived.Test.YtcigmfmlgaiklaaDoorStmtFnExactConcurrentWith
set_option linter.unusedVariables false
set_option linter.unusedSimpArgs false
namespace Go.Proofs.YtcigmfmlgaiklaaDoor.LFnExactConcurrentWith
open Go.RowKit Go.Proofs.YtcigmfmlgaiklaaDoorW.PrintWords Go.Proofs.YtcigmfmlgaiklaaDoorW.PrintMore Go.Proofs.YtcigmfmlgaiklaaDoor.Q
open Go.Proofs.YtcigmfmlgaiklaaDoor.PAll
theorem both_ev (n : Int) (D l1 : List Int) (m1 : Int) : ∃ r : Int × Int, Ev (fun k => spec_ConcurrentWith.f k n D l1 m1) r ∧ Ev (fun k => impl_ConcurrentWith.f k n D l1 m1) r := by
  have hc := l03Code_ev n D l1 l1
  simp only [and_self] at hc
  have hk := checkWords_ev n D [l1]
  have e : (∀ x ∈ [l1], Word n x) ↔ Word n l1 := by simp
  simp only [e] at hk
  by_cases hA : Alpha n D
  · by_cases hW : Word n l1
    · rw [if_pos hA, if_pos hW] at hc hk
      obtain ⟨m, f, rfl, rfl, hm, hs, hr⟩ := hA.form
      obtain ⟨u, rfl, hul, hu⟩ := hW.form
      clear hA hW e
      have h1 := PastOf_ok m hm f hs u hul hu m1 hc
      have h2 := checkPosition_ok m hm f hs u hul hu m1 hk
      have h3 := l04Code_ok m hm f hs u hul hu hc
      refine ⟨if 0 ≤ m1 ∧ m1 ≤ (u.length : Int) - 1 then (((mk u.length (fun b => !ordP f (normalP f m u) b m1.toNat && !ordP f (normalP f m u) m1.toNat b) : Nat) : Int), 0) else (0, 2), ?_, ?_⟩
      · simp only [spec_ConcurrentWith.f]
        refine Ev.bind h1 ?_
        by_cases c : 0 ≤ m1 ∧ m1 ≤ (u.length : Int) - 1
        · rw [if_pos c, if_pos c]
          obtain ⟨x, rfl⟩ := Int.eq_ofNat_of_zero_le c.1
          refine Ev.pos rfl (Ev.bind h3 ?_)
          simp only []
          rw [ints_length, l01Full_eq u.length (by omega)]
          have hp := Nat.two_pow_pos u.length
          have h24 := pow_lt62 hul
          refine Ev.some_bind (Ev.pos (by omega) (Ev.pos (by simp; omega) (Ev.const ?_)))
          rw [rd_mat _ _ x (by omega), Int.toNat_natCast, b_or _ _ (mk62 hul _) (mk62 hul _), mk_or]
          have hlt := mk_lt u.length (fun a => ordP f (normalP f m u) a x || ordP f (normalP f m u) x a)
          rw [w64' (by omega), show (((2 ^ u.length - 1 : Nat) : Int) - ((mk u.length (fun a => ordP f (normalP f m u) a x || ordP f (normalP f m u) x a) : Nat) : Int)) = ((2 ^ u.length - 1 - mk u.length (fun a => ordP f (normalP f m u) a x || ordP f (normalP f m u) x a) : Nat) : Int) by omega, mk_compl]
          congr 3
          exact mk_congr fun b _ => by simp
        · rw [if_neg c, if_neg c]
          exact Ev.neg (by decide) (Ev.now _)
      · simp only [impl_ConcurrentWith.f]
        refine Ev.bind h2 ?_
        by_cases c : 0 ≤ m1 ∧ m1 ≤ (u.length : Int) - 1
        · rw [if_pos c, if_pos c]
          obtain ⟨x, rfl⟩ := Int.eq_ofNat_of_zero_le c.1
          refine Ev.pos rfl (Ev.bind (concurrent_ev u.length hul _) (Ev.pos (by omega) (Ev.pos (by simp; omega) (Ev.const ?_))))
          rw [rd_mat _ _ x (by omega), Int.toNat_natCast]
        · rw [if_neg c, if_neg c]
          exact Ev.neg (by decide) (Ev.now _)
    · rw [if_pos hA, if_neg hW] at hc hk
      exact ⟨(0, 2), by simp only [spec_ConcurrentWith.f]; exact Ev.bind (PastOf_bad n D l1 m1 2 (by decide) hc) (Ev.neg (by decide) (Ev.now _)), by simp only [impl_ConcurrentWith.f]; exact Ev.bind (checkPosition_bad n D l1 m1 2 (by decide) hk) (Ev.neg (by decide) (Ev.now _))⟩
  · rw [if_neg hA] at hc hk
    exact ⟨(0, 1), by simp only [spec_ConcurrentWith.f]; exact Ev.bind (PastOf_bad n D l1 m1 1 (by decide) hc) (Ev.neg (by decide) (Ev.now _)), by simp only [impl_ConcurrentWith.f]; exact Ev.bind (checkPosition_bad n D l1 m1 1 (by decide) hk) (Ev.neg (by decide) (Ev.now _))⟩
theorem law_ev (n : Int) (D : List Int) (l1 : List Int) (m1 : Int) (hD : D.length ≤ maxLen) (hl1 : l1.length ≤ maxLen) : Ev (fun k => laws_FnExactConcurrentWith.f k n D l1 m1) true := by
  unfold maxLen at hD hl1
  simp only [laws_FnExactConcurrentWith.f]
  refine Ev.ite (fun c => Ev.now _) (fun cl1 => ?_)
  rw [szAlphabet_eq n D 1048576 (by omega) (by omega) hD]
  refine Ev.some_bind (Ev.ite (fun c2 => Ev.now _) (fun c2 => ?_))
  have hD' : D.length ≤ 1048576 := by
    by_cases g : (D.length : Int) ≤ 1048576
    · omega
    · rw [if_neg g] at c2; omega
  have hA := toAlphabet_ev n D (by omega)
  have eA := eqAlphabet_ev n D (by omega)
  have tl1 := toInt64S_ev l1 (by omega)
  have el1 := eqInt64S_ev l1 (by omega)
  obtain ⟨r, hs, hi⟩ := both_ev n D l1 m1
  refine Ev.bind hA ?_
  refine Ev.bind tl1 ?_
  refine Ev.bind hs ?_
  refine Ev.bind hA ?_
  refine Ev.bind tl1 ?_
  refine Ev.bind hi ?_
  refine Ev.pos rfl (Ev.pos rfl ?_)
  refine Ev.bind hA (Ev.bind eA (Ev.pos rfl ?_))
  refine Ev.bind tl1 (Ev.bind el1 (Ev.pos rfl ?_))
  exact Ev.now _
theorem pure : PureStmt := fun n D l1 m1 _ hD _ hl1 _ _ => (law_ev n D l1 m1 hD hl1).rounds
end Go.Proofs.YtcigmfmlgaiklaaDoor.LFnExactConcurrentWith
