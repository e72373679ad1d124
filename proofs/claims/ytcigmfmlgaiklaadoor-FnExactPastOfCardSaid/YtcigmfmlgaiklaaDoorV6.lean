import Derived.Test.YtcigmfmlgaiklaaDoorPAllx2
import Derived.Test.YtcigmfmlgaiklaaDoorPAllx8
import Derived.Test.YtcigmfmlgaiklaaDoorV0
import Derived.Test.YtcigmfmlgaiklaaDoorV1
import Derived.Test.YtcigmfmlgaiklaaDoorV2
import Derived.Test.YtcigmfmlgaiklaaDoorV4
import Derived.Test.YtcigmfmlgaiklaaDoorQBase
import Derived.Test.YtcigmfmlgaiklaaDoorQMask
import Derived.Test.YtcigmfmlgaiklaaDoorQOrder
import Derived.Test.YtcigmfmlgaiklaaDoorQTrace
set_option linter.unusedVariables false
set_option linter.unusedSimpArgs false
namespace Go.Proofs.YtcigmfmlgaiklaaDoor.PAll
open Go.RowKit Go.Proofs.YtcigmfmlgaiklaaDoorW.PrintWords Go.Proofs.YtcigmfmlgaiklaaDoorW.PrintMore Go.Proofs.YtcigmfmlgaiklaaDoor.Q
theorem orderOf_ev (n : Nat) (hn : n ≤ 8) (f : Nat → Nat → Bool) (w : List Nat) (hl : w.length ≤ 24) (hw : ∀ x ∈ w, x < n) : Ev (fun k => impl_ties_orderOf.f k (mat n f) (ints w)) (mat w.length (ordP f w)) := by
  have h24 := pow_lt62 hl
  have h8 := pow_lt62 (show n ≤ 24 by omega)
  have outer : ∀ (d i : Nat), i + d = w.length → Ev (fun k => impl_ties_orderOf.l0 k (mat n f) (ints w) (mat w.length fun a b => decide (a < i) && eP f w a b) (ints w) (w.length : Int) (i : Int)) (mat w.length (ordP f w)) := by
    intro d
    induction d with
    | zero =>
      intro i hi
      refine Ev.succ ?_
      simp only [impl_ties_orderOf.l0]
      refine Ev.neg (by omega) ?_
      have e : mat w.length (fun a b => decide (a < i) && eP f w a b) = mat w.length (eP f w) := mat_congr fun a b ha _ => by simp [show a < i by omega]
      rw [e]
      exact Ev.bind (closure_ev w.length hl (eP f w)) (Ev.now _)
    | succ d ih =>
      intro i hi
      have i1 := ih (i + 1) (by omega)
      have hx := getD_lt hw (show i < w.length by omega)
      have inner : ∀ (e k : Nat), k + e = w.length → i < k → Ev (fun q => impl_ties_orderOf.l1 q (mat n f) (ints w) (mat w.length fun a b => (decide (a < i) && eP f w a b) || (decide (a = i ∧ b < k) && eP f w a b)) (i : Int) ((w.getD i 0 : Nat) : Int) (k : Int) (ints w) (w.length : Int) (i : Int)) (mat w.length (ordP f w)) := by
        intro e
        induction e with
        | zero =>
          intro k hk hik
          refine Ev.succ ?_
          simp only [impl_ties_orderOf.l1]
          refine Ev.neg (by simp; omega) ?_
          rw [w64' (by omega)]
          have e : mat w.length (fun a b => (decide (a < i) && eP f w a b) || (decide (a = i ∧ b < k) && eP f w a b)) = mat w.length fun a b => decide (a < i + 1) && eP f w a b := mat_congr fun a b ha hb => by
            by_cases e1 : a = i
            · subst e1; simp [show b < k by omega]
            · by_cases e2 : a < i
              · simp [e1, e2, show a < i + 1 by omega]
              · simp [e1, e2, show ¬ a < i + 1 by omega]
          rw [e]
          exact i1
        | succ e ihe =>
          intro k hk hik
          have j1 := ihe (k + 1) (by omega) (by omega)
          have hy := getD_lt hw (show k < w.length by omega)
          have h1 := mk_lt n (f (w.getD i 0))
          refine Ev.succ ?_
          simp only [impl_ties_orderOf.l1]
          refine Ev.pos (by simp; omega) (Ev.pos (by omega) (Ev.pos (by rw [mat_length]; omega) (Ev.pos (by omega) ?_)))
          rw [rd_getD, rd_mat n f _ hx, has_eq _ _ (mk62 (by omega) _) (by omega), testBit_mk]
          have hee : eP f w i k = f (w.getD i 0) (w.getD k 0) := by simp [eP, hik, show k < w.length by omega]
          refine Ev.some_bind (Ev.ite (fun c => ?_) (fun c => ?_))
          · have c' : eP f w i k = true := hee.trans (Bool.and_eq_true_iff.1 c).2
            have h2 := mk_lt w.length ((fun a b => (decide (a < i) && eP f w a b) || (decide (a = i ∧ b < k) && eP f w a b)) i)
            have h3 : (2 : Nat) ^ k ≤ 2 ^ 24 := pow24 (by omega)
            refine Ev.pos (by omega) (Ev.pos (by simp; omega) ?_)
            rw [one_eq k (by omega), rd_mat w.length _ i (by omega), w64' (by omega)]
            refine Ev.some_bind ?_
            rw [b_or _ _ (mk62 (by omega) _) (two62 (by omega)), mk_or_one w.length _ k (by omega), Int.toNat_natCast, mat_row w.length _ i (by omega)]
            have e : mat w.length (fun a b => if a = i then (((decide (i < i) && eP f w i b) || (decide (i = i ∧ b < k) && eP f w i b)) || decide (b = k)) else (decide (a < i) && eP f w a b) || (decide (a = i ∧ b < k) && eP f w a b)) = mat w.length fun a b => (decide (a < i) && eP f w a b) || (decide (a = i ∧ b < k + 1) && eP f w a b) := mat_congr fun a b ha hb => by
              by_cases e1 : a = i
              · subst e1
                rw [if_pos rfl]
                by_cases e2 : b = k
                · subst e2; simp [c']
                · by_cases e3 : b < k
                  · simp [e2, e3, show b < k + 1 by omega]
                  · simp [e2, e3, show ¬ b < k + 1 by omega]
              · rw [if_neg e1]; simp [e1]
            rw [e]
            exact j1
          · have c' : eP f w i k = false := hee.trans (Bool.eq_false_iff.2 fun h => c (by rw [h, decide_eq_true hy]; rfl))
            rw [w64' (by omega)]
            have e : mat w.length (fun a b => (decide (a < i) && eP f w a b) || (decide (a = i ∧ b < k) && eP f w a b)) = mat w.length fun a b => (decide (a < i) && eP f w a b) || (decide (a = i ∧ b < k + 1) && eP f w a b) := mat_congr fun a b ha hb => by
              by_cases e1 : a = i
              · subst e1
                by_cases e2 : b = k
                · subst e2; simp [c']
                · by_cases e3 : b < k
                  · simp [e3, show b < k + 1 by omega]
                  · simp [e3, show ¬ b < k + 1 by omega]
              · simp [e1]
            rw [e]
            exact j1
      have := inner (w.length - (i + 1)) (i + 1) (by omega) (by omega)
      have e : mat w.length (fun a b => (decide (a < i) && eP f w a b) || (decide (a = i ∧ b < i + 1) && eP f w a b)) = mat w.length fun a b => decide (a < i) && eP f w a b := mat_congr fun a b ha hb => by
        by_cases e1 : a = i ∧ b < i + 1
        · have : eP f w a b = false := by simp [eP]; omega
          simp [this]
        · simp [e1]
      rw [e] at this
      refine Ev.succ ?_
      simp only [impl_ties_orderOf.l0]
      refine Ev.pos (by omega) (Ev.pos (by omega) (Ev.pos (by simp; omega) ?_))
      rw [rd_getD, w64' (by omega)]
      exact this
  simp only [impl_ties_orderOf.f]
  refine Ev.pos (by omega) (Ev.pos (by simp; omega) ?_)
  have := outer w.length 0 (by omega)
  have e : mat w.length (fun a b => decide (a < 0) && eP f w a b) = List.replicate w.length 0 := by
    apply List.ext_getElem
    · simp
    · intro q h1 h2
      simp only [mat, List.getElem_map, List.getElem_range, List.getElem_replicate]
      have : mk w.length (fun b => decide (q < 0) && eP f w q b) = 0 := Nat.eq_of_testBit_eq fun i => by rw [testBit_mk]; simp
      rw [this]; rfl
  rw [e] at this
  rw [ints_length, Int.toNat_natCast]
  exact this
theorem positions_ev (n : Nat) (hn : n ≤ 8) (f : Nat → Nat → Bool) (hs : ∀ a b, f a b = f b a) (w : List Nat) (hl : w.length ≤ 24) (hw : ∀ x ∈ w, x < n) :
    Ev (fun k => impl_positions.f k (n : Int) (mat n f) (ints w)) (ints (normalP f n w), mat w.length (ordP f (normalP f n w))) := by
  have hnl := normalP_length f hs hw
  simp only [impl_positions.f, impl_Alphabet_ties.f]
  refine Ev.some_bind (Ev.bind (normal_ev n hn f w (by omega) hw) (Ev.some_bind ?_))
  have := orderOf_ev n hn f _ (by omega) (normalP_lt f hs hw)
  rw [hnl] at this
  exact Ev.bind this (Ev.now _)
end Go.Proofs.YtcigmfmlgaiklaaDoor.PAll
