import Derived.Test.YtcigmfmlgaiklaaDoorPAllx1
import Derived.Test.YtcigmfmlgaiklaaDoorPAllx10
import Derived.Test.YtcigmfmlgaiklaaDoorPAllx2
import Derived.Test.YtcigmfmlgaiklaaDoorV1
import Derived.Test.YtcigmfmlgaiklaaDoorV3
import Derived.Test.YtcigmfmlgaiklaaDoorV6
import Derived.Test.YtcigmfmlgaiklaaDoorV7
import Derived.Test.YtcigmfmlgaiklaaDoorQBase
import Derived.Test.YtcigmfmlgaiklaaDoorQOrder
import Derived.Test.YtcigmfmlgaiklaaDoorQTrace
import Derived.Test.YtcigmfmlgaiklaaDoorV0
set_option linter.unusedVariables false
set_option linter.unusedSimpArgs false
namespace Go.Proofs.YtcigmfmlgaiklaaDoor.PAll
open Go.RowKit Go.Proofs.YtcigmfmlgaiklaaDoorW.PrintWords Go.Proofs.YtcigmfmlgaiklaaDoorW.PrintMore Go.Proofs.YtcigmfmlgaiklaaDoor.Q
theorem checkPosition_ok (n : Nat) (hn : n ≤ 8) (f : Nat → Nat → Bool) (hs : ∀ a b, f a b = f b a) (w : List Nat) (hl : w.length ≤ 24) (hw : ∀ x ∈ w, x < n) (i : Int) (hk : Ev (fun k => impl_checkWords.f k (n : Int) (mat n f) [ints w]) 0) :
    Ev (fun k => impl_checkPosition.f k (n : Int) (mat n f) (ints w) i) (if 0 ≤ i ∧ i ≤ (w.length : Int) - 1 then (mat w.length (ordP f (normalP f n w)), 0) else ([], 2)) := by
  simp only [impl_checkPosition.f, impl_length_int64.f, inRange_eq]
  refine Ev.bind hk (Ev.pos rfl (Ev.some_bind (Ev.some_bind ?_)))
  rw [ints_length, w64' (by omega)]
  by_cases c : 0 ≤ i ∧ i ≤ (w.length : Int) - 1
  · rw [if_pos c]
    exact Ev.pos (by simpa using c) (Ev.bind (positions_ev n hn f hs w hl hw) (Ev.now _))
  · rw [if_neg c]
    exact Ev.neg (by simpa using c) (Ev.now _)
theorem checkPosition_bad (n : Int) (D w : List Int) (i c : Int) (h0 : c ≠ 0) (hk : Ev (fun k => impl_checkWords.f k n D [w]) c) : Ev (fun k => impl_checkPosition.f k n D w i) ([], c) := by
  simp only [impl_checkPosition.f]
  exact Ev.bind hk (Ev.neg h0 (Ev.now _))
theorem PastOf_ok (n : Nat) (hn : n ≤ 8) (f : Nat → Nat → Bool) (hs : ∀ a b, f a b = f b a) (w : List Nat) (hl : w.length ≤ 24) (hw : ∀ x ∈ w, x < n) (i : Int) (hc : Ev (fun k => spec_l03Code.f k (n : Int) (mat n f) (ints w) (ints w)) 0) :
    Ev (fun k => spec_PastOf.f k (n : Int) (mat n f) (ints w) i) (if 0 ≤ i ∧ i ≤ (w.length : Int) - 1 then (((mk w.length (fun a => ordP f (normalP f n w) a i.toNat) : Nat) : Int), 0) else (0, 2)) := by
  simp only [spec_PastOf.f, l01In_eq]
  refine Ev.bind (l04Code_ok n hn f hs w hl hw hc) (Ev.pos rfl (Ev.some_bind (Ev.succ ?_)))
  simp only [spec_PastOf.j0]
  rw [ints_length, w64' (by omega)]
  by_cases c : 0 ≤ i ∧ i ≤ (w.length : Int) - 1
  · rw [if_pos c]
    obtain ⟨x, rfl⟩ := Int.eq_ofNat_of_zero_le c.1
    rw [Int.toNat_natCast]
    exact Ev.neg (by simp; omega) (Ev.pos trivial (Ev.bind (l01Below_ev w.length hl _ x (by omega)) (Ev.now _)))
  · rw [if_neg c]
    exact Ev.pos (by rw [decide_eq_false c]; rfl) (Ev.now _)
theorem PastOf_bad (n : Int) (D w : List Int) (i c : Int) (h0 : c ≠ 0) (hc : Ev (fun k => spec_l03Code.f k n D w w) c) : Ev (fun k => spec_PastOf.f k n D w i) (0, c) := by
  simp only [spec_PastOf.f]
  refine Ev.bind (l04Code_bad n D w c h0 hc) (Ev.neg h0 (Ev.succ ?_))
  simp only [spec_PastOf.j0]
  exact Ev.neg (by simp) (Ev.neg h0 (Ev.now _))
end Go.Proofs.YtcigmfmlgaiklaaDoor.PAll
