import Derived.Test.YtcigmfmlgaiklaaDoorPAllx1
import Derived.Test.YtcigmfmlgaiklaaDoorPAllx2
import Derived.Test.YtcigmfmlgaiklaaDoorPAllx7
import Derived.Test.YtcigmfmlgaiklaaDoorV0
import Derived.Test.YtcigmfmlgaiklaaDoorV1
import Derived.Test.YtcigmfmlgaiklaaDoorV3
import Derived.Test.YtcigmfmlgaiklaaDoorQBase
import Derived.Test.YtcigmfmlgaiklaaDoorQMask
import Derived.Test.YtcigmfmlgaiklaaDoorQOrder
import Derived.Test.YtcigmfmlgaiklaaDoorQTrace
set_option linter.unusedVariables false
set_option linter.unusedSimpArgs false
namespace Go.Proofs.YtcigmfmlgaiklaaDoor.PAll
open Go.RowKit Go.Proofs.YtcigmfmlgaiklaaDoorW.PrintWords Go.Proofs.YtcigmfmlgaiklaaDoorW.PrintMore Go.Proofs.YtcigmfmlgaiklaaDoor.Q
theorem l01Below_ev (n : Nat) (hn : n ≤ 24) (f : Nat → Nat → Bool) (x : Nat) (hx : x < n) : Ev (fun k => spec_l01Below.f k (mat n f) (x : Int)) ((mk n (fun a => f a x) : Nat) : Int) := by
  have h24 := pow_lt62 hn
  have loop : ∀ (d i : Nat), i + d = n → Ev (fun k => spec_l01Below.l0 k (mat n f) (x : Int) ((mk n (fun a => decide (a < i) && f a x) : Nat) : Int) (i : Int)) ((mk n (fun a => f a x) : Nat) : Int) := by
    intro d
    induction d with
    | zero =>
      intro i hi
      refine Ev.succ ?_
      simp only [spec_l01Below.l0]
      refine Ev.neg (by simp; omega) (Ev.const ?_)
      rw [mk_congr (q := fun a => f a x) fun a ha => by simp [show a < i by omega]]
    | succ d ih =>
      intro i hi
      have i1 := ih (i + 1) (by omega)
      have h1 := mk_lt n (f i)
      have h2 := mk_lt n (fun a => decide (a < i) && f a x)
      have h3 : (2 : Nat) ^ i ≤ 2 ^ 24 := pow24 (by omega)
      refine Ev.succ ?_
      simp only [spec_l01Below.l0]
      refine Ev.pos (by simp; omega) (Ev.pos (by omega) ?_)
      rw [rd_mat n f i (by omega), l01Bit_eq _ x (mk62 (by omega) _) (by omega), testBit_mk]
      refine Ev.some_bind (Ev.ite (fun c => ?_) (fun c => ?_))
      · have c' : f i x = true := by simpa [hx] using c
        rw [l01One_eq i (by omega), w64' (by omega)]
        refine Ev.some_bind ?_
        rw [b_or _ _ (mk62 (by omega) _) (two62 (by omega)), mk_or_one n _ i (by omega)]
        rw [mk_congr (q := fun a => decide (a < i + 1) && f a x) fun a ha => by
          by_cases e : a = i
          · subst e; simp [c']
          · by_cases e2 : a < i
            · simp [e, e2, show a < i + 1 by omega]
            · simp [e, e2, show ¬ a < i + 1 by omega]]
        exact i1
      · have c' : f i x = false := by simpa [hx] using c
        rw [w64' (by omega)]
        rw [mk_congr (q := fun a => decide (a < i + 1) && f a x) fun a ha => by
          by_cases e : a = i
          · subst e; simp [c']
          · by_cases e2 : a < i
            · simp [e2, show a < i + 1 by omega]
            · simp [e2, show ¬ a < i + 1 by omega]]
        exact i1
  simp only [spec_l01Below.f]
  have := loop n 0 (by omega)
  have e : mk n (fun a => decide (a < 0) && f a x) = 0 := Nat.eq_of_testBit_eq fun i => by rw [testBit_mk]; simp
  rw [e] at this
  exact this
theorem checkPosition_ok (n : Nat) (hn : n ≤ 8) (f : Nat → Nat → Bool) (hs : ∀ a b, f a b = f b a) (w : List Nat) (hl : w.length ≤ 24) (hw : ∀ x ∈ w, x < n) (i : Int) (hk : Ev (fun k => impl_checkWords.f k (n : Int) (mat n f) [ints w]) 0) :
    Ev (fun k => impl_checkPosition.f k (n : Int) (mat n f) (ints w) i) (if 0 ≤ i ∧ i ≤ (w.length : Int) - 1 then (mat w.length (ordP f (normalP f n w)), 0) else ([], 2)) := by
  simp only [impl_checkPosition.f, impl_length_int64.f, inRange_eq]
  refine Ev.bind hk (Ev.pos rfl (Ev.some_bind (Ev.some_bind ?_)))
  rw [ints_length, w64' (by omega)]
  by_cases c : 0 ≤ i ∧ i ≤ (w.length : Int) - 1
  · rw [if_pos c]
    exact Ev.pos (by simpa using c) (Ev.bind (positions_ev n hn f hs w hl hw) (Ev.now _))
  · rw [if_neg c]
    exact Ev.neg (by simpa using c) (Ev.now _)
theorem checkPosition_bad (n : Int) (D w : List Int) (i c : Int) (h0 : c ≠ 0) (hk : Ev (fun k => impl_checkWords.f k n D [w]) c) : Ev (fun k => impl_checkPosition.f k n D w i) ([], c) := by
  simp only [impl_checkPosition.f]
  exact Ev.bind hk (Ev.neg h0 (Ev.now _))
theorem PastOf_ok (n : Nat) (hn : n ≤ 8) (f : Nat → Nat → Bool) (hs : ∀ a b, f a b = f b a) (w : List Nat) (hl : w.length ≤ 24) (hw : ∀ x ∈ w, x < n) (i : Int) (hc : Ev (fun k => spec_l03Code.f k (n : Int) (mat n f) (ints w) (ints w)) 0) :
    Ev (fun k => spec_PastOf.f k (n : Int) (mat n f) (ints w) i) (if 0 ≤ i ∧ i ≤ (w.length : Int) - 1 then (((mk w.length (fun a => ordP f (normalP f n w) a i.toNat) : Nat) : Int), 0) else (0, 2)) := by
  simp only [spec_PastOf.f, l01In_eq]
  refine Ev.bind (l04Code_ok n hn f hs w hl hw hc) (Ev.pos rfl (Ev.some_bind (Ev.succ ?_)))
  simp only [spec_PastOf.j0]
  rw [ints_length, w64' (by omega)]
  by_cases c : 0 ≤ i ∧ i ≤ (w.length : Int) - 1
  · rw [if_pos c]
    obtain ⟨x, rfl⟩ := Int.eq_ofNat_of_zero_le c.1
    rw [Int.toNat_natCast]
    exact Ev.neg (by simp; omega) (Ev.pos trivial (Ev.bind (l01Below_ev w.length hl _ x (by omega)) (Ev.now _)))
  · rw [if_neg c]
    exact Ev.pos (by rw [decide_eq_false c]; rfl) (Ev.now _)
theorem PastOf_bad (n : Int) (D w : List Int) (i c : Int) (h0 : c ≠ 0) (hc : Ev (fun k => spec_l03Code.f k n D w w) c) : Ev (fun k => spec_PastOf.f k n D w i) (0, c) := by
  simp only [spec_PastOf.f]
  refine Ev.bind (l04Code_bad n D w c h0 hc) (Ev.neg h0 (Ev.succ ?_))
  simp only [spec_PastOf.j0]
  exact Ev.neg (by simp) (Ev.neg h0 (Ev.now _))
end Go.Proofs.YtcigmfmlgaiklaaDoor.PAll
