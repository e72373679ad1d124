import Derived.Test.YtcigmfmlgaiklaaDoorPAllx1
import Derived.Test.YtcigmfmlgaiklaaDoorPAllx2
import Derived.Test.YtcigmfmlgaiklaaDoorPAllx5
import Derived.Test.YtcigmfmlgaiklaaDoorV0
import Derived.Test.YtcigmfmlgaiklaaDoorV1
import Derived.Test.YtcigmfmlgaiklaaDoorV2
import Derived.Test.YtcigmfmlgaiklaaDoorQBase
import Derived.Test.YtcigmfmlgaiklaaDoorQMask
import Derived.Test.YtcigmfmlgaiklaaDoorQOrder
import Derived.Test.YtcigmfmlgaiklaaDoorQTab
import Derived.Test.YtcigmfmlgaiklaaDoorQTrace
set_option linter.unusedVariables false
set_option linter.unusedSimpArgs false
namespace Go.Proofs.YtcigmfmlgaiklaaDoor.PAll
open Go.RowKit Go.Proofs.YtcigmfmlgaiklaaDoorW.PrintWords Go.Proofs.YtcigmfmlgaiklaaDoorW.PrintMore Go.Proofs.YtcigmfmlgaiklaaDoor.Q
theorem orderOf_ev (n : Nat) (hn : n ≤ 8) (f : Nat → Nat → Bool) (w : List Nat) (hl : w.length ≤ 24) (hw : ∀ x ∈ w, x < n) : Ev (fun k => impl_ties_orderOf.f k (mat n f) (ints w)) (mat w.length (ordP f w)) := by
  have h24 := pow_lt62 hl
  have h8 := pow_lt62 (show n ≤ 24 by omega)
  have outer : ∀ (d i : Nat), i + d = w.length → Ev (fun k => impl_ties_orderOf.l0 k (mat n f) (ints w) (mat w.length fun a b => decide (a < i) && eP f w a b) (ints w) (w.length : Int) (i : Int)) (mat w.length (ordP f w)) := by
    intro d
    induction d with
    | zero =>
      intro i hi
      refine Ev.succ ?_
      simp only [impl_ties_orderOf.l0]
      refine Ev.neg (by omega) ?_
      have e : mat w.length (fun a b => decide (a < i) && eP f w a b) = mat w.length (eP f w) := mat_congr fun a b ha _ => by simp [show a < i by omega]
      rw [e]
      exact Ev.bind (closure_ev w.length hl (eP f w)) (Ev.now _)
    | succ d ih =>
      intro i hi
      have i1 := ih (i + 1) (by omega)
      have hx := getD_lt hw (show i < w.length by omega)
      have inner : ∀ (e k : Nat), k + e = w.length → i < k → Ev (fun q => impl_ties_orderOf.l1 q (mat n f) (ints w) (mat w.length fun a b => (decide (a < i) && eP f w a b) || (decide (a = i ∧ b < k) && eP f w a b)) (i : Int) ((w.getD i 0 : Nat) : Int) (k : Int) (ints w) (w.length : Int) (i : Int)) (mat w.length (ordP f w)) := by
        intro e
        induction e with
        | zero =>
          intro k hk hik
          refine Ev.succ ?_
          simp only [impl_ties_orderOf.l1]
          refine Ev.neg (by simp; omega) ?_
          rw [w64' (by omega)]
          have e : mat w.length (fun a b => (decide (a < i) && eP f w a b) || (decide (a = i ∧ b < k) && eP f w a b)) = mat w.length fun a b => decide (a < i + 1) && eP f w a b := mat_congr fun a b ha hb => by
            by_cases e1 : a = i
            · subst e1; simp [show b < k by omega]
            · by_cases e2 : a < i
              · simp [e1, e2, show a < i + 1 by omega]
              · simp [e1, e2, show ¬ a < i + 1 by omega]
          rw [e]
          exact i1
        | succ e ihe =>
          intro k hk hik
          have j1 := ihe (k + 1) (by omega) (by omega)
          have hy := getD_lt hw (show k < w.length by omega)
          have h1 := mk_lt n (f (w.getD i 0))
          refine Ev.succ ?_
          simp only [impl_ties_orderOf.l1]
          refine Ev.pos (by simp; omega) (Ev.pos (by omega) (Ev.pos (by rw [mat_length]; omega) (Ev.pos (by omega) ?_)))
          rw [rd_getD, rd_mat n f _ hx, has_eq _ _ (mk62 (by omega) _) (by omega), testBit_mk]
          have hee : eP f w i k = f (w.getD i 0) (w.getD k 0) := by simp [eP, hik, show k < w.length by omega]
          refine Ev.some_bind (Ev.ite (fun c => ?_) (fun c => ?_))
          · have c' : eP f w i k = true := hee.trans (Bool.and_eq_true_iff.1 c).2
            have h2 := mk_lt w.length ((fun a b => (decide (a < i) && eP f w a b) || (decide (a = i ∧ b < k) && eP f w a b)) i)
            have h3 : (2 : Nat) ^ k ≤ 2 ^ 24 := pow24 (by omega)
            refine Ev.pos (by omega) (Ev.pos (by simp; omega) ?_)
            rw [one_eq k (by omega), rd_mat w.length _ i (by omega), w64' (by omega)]
            refine Ev.some_bind ?_
            rw [b_or _ _ (mk62 (by omega) _) (two62 (by omega)), mk_or_one w.length _ k (by omega), Int.toNat_natCast, mat_row w.length _ i (by omega)]
            have e : mat w.length (fun a b => if a = i then (((decide (i < i) && eP f w i b) || (decide (i = i ∧ b < k) && eP f w i b)) || decide (b = k)) else (decide (a < i) && eP f w a b) || (decide (a = i ∧ b < k) && eP f w a b)) = mat w.length fun a b => (decide (a < i) && eP f w a b) || (decide (a = i ∧ b < k + 1) && eP f w a b) := mat_congr fun a b ha hb => by
              by_cases e1 : a = i
              · subst e1
                rw [if_pos rfl]
                by_cases e2 : b = k
                · subst e2; simp [c']
                · by_cases e3 : b < k
                  · simp [e2, e3, show b < k + 1 by omega]
                  · simp [e2, e3, show ¬ b < k + 1 by omega]
              · rw [if_neg e1]; simp [e1]
            rw [e]
            exact j1
          · have c' : eP f w i k = false := hee.trans (Bool.eq_false_iff.2 fun h => c (by rw [h, decide_eq_true hy]; rfl))
            rw [w64' (by omega)]
            have e : mat w.length (fun a b => (decide (a < i) && eP f w a b) || (decide (a = i ∧ b < k) && eP f w a b)) = mat w.length fun a b => (decide (a < i) && eP f w a b) || (decide (a = i ∧ b < k + 1) && eP f w a b) := mat_congr fun a b ha hb => by
              by_cases e1 : a = i
              · subst e1
                by_cases e2 : b = k
                · subst e2; simp [c']
                · by_cases e3 : b < k
                  · simp [e3, show b < k + 1 by omega]
                  · simp [e3, show ¬ b < k + 1 by omega]
              · simp [e1]
            rw [e]
            exact j1
      have := inner (w.length - (i + 1)) (i + 1) (by omega) (by omega)
      have e : mat w.length (fun a b => (decide (a < i) && eP f w a b) || (decide (a = i ∧ b < i + 1) && eP f w a b)) = mat w.length fun a b => decide (a < i) && eP f w a b := mat_congr fun a b ha hb => by
        by_cases e1 : a = i ∧ b < i + 1
        · have : eP f w a b = false := by simp [eP]; omega
          simp [this]
        · simp [e1]
      rw [e] at this
      refine Ev.succ ?_
      simp only [impl_ties_orderOf.l0]
      refine Ev.pos (by omega) (Ev.pos (by omega) (Ev.pos (by simp; omega) ?_))
      rw [rd_getD, w64' (by omega)]
      exact this
  simp only [impl_ties_orderOf.f]
  refine Ev.pos (by omega) (Ev.pos (by simp; omega) ?_)
  have := outer w.length 0 (by omega)
  have e : mat w.length (fun a b => decide (a < 0) && eP f w a b) = List.replicate w.length 0 := by
    apply List.ext_getElem
    · simp
    · intro q h1 h2
      simp only [mat, List.getElem_map, List.getElem_range, List.getElem_replicate]
      have : mk w.length (fun b => decide (q < 0) && eP f w q b) = 0 := Nat.eq_of_testBit_eq fun i => by rw [testBit_mk]; simp
      rw [this]; rfl
  rw [e] at this
  rw [ints_length, Int.toNat_natCast]
  exact this
theorem l04Order_ev (n : Nat) (hn : n ≤ 8) (f : Nat → Nat → Bool) (w : List Nat) (hl : w.length ≤ 24) (hw : ∀ x ∈ w, x < n) : Ev (fun k => spec_l04Order.f k (n : Int) (mat n f) (ints w)) (mat w.length (ordP f w)) := by
  have h24 := pow_lt62 hl
  have hlast : ∀ i k, ordP f w i k = true ↔ i = k ∨ ∃ j, i ≤ j ∧ j < k ∧ ordP f w i j = true ∧ eP f w j k = true := fun i k => clos_last fun i k h => eP_lt h
  have hle : ∀ i k, ordP f w i k = true → i ≤ k := fun i k h => clos_le (fun i k h => (eP_lt h).1) h
  -- row i as far as position k
  let row : Nat → Nat → Nat := fun i k => mk w.length fun b => decide (b < k) && ordP f w i b
  have outer : ∀ (d i : Nat), i + d = w.length → Ev (fun q => spec_l04Order.l0 q (ints w) ((List.range i).map fun a => ((mk w.length (ordP f w a) : Nat) : Int)) (i : Int) (n : Int) (mat n f)) (mat w.length (ordP f w)) := by
    intro d
    induction d with
    | zero =>
      intro i hi
      obtain rfl : i = w.length := by omega
      refine Ev.succ ?_
      simp only [spec_l04Order.l0]
      exact Ev.neg (by simp) (Ev.now _)
    | succ d ih =>
      intro i hi
      have i1 := ih (i + 1) (by omega)
      rw [List.range_succ, List.map_append] at i1
      have one : 2 ^ i = mk w.length fun b => decide (b < i + 1) && ordP f w i b := bits_ext fun b => by
        rw [testBit_mk, testBit_one]
        by_cases e : i = b
        · subst e
          have : ordP f w i i = true := clos_refl _ _
          simp [this, show i < w.length by omega]
        · have : (decide (b < i + 1) && ordP f w i b) = false := by
            by_cases e2 : b < i
            · have : ¬ ordP f w i b = true := fun h => by have := hle i b h; omega
              simpa [show b < i + 1 by omega] using this
            · simp [show ¬ b < i + 1 by omega]
          simp [e, this]
      have mid : ∀ (e k : Nat), k + e = w.length → i < k → Ev (fun q => spec_l04Order.l1 q (ints w) ((List.range i).map fun a => ((mk w.length (ordP f w a) : Nat) : Int)) (i : Int) ((mk w.length (fun b => decide (b < k) && ordP f w i b) : Nat) : Int) (k : Int) (n : Int) (mat n f)) (mat w.length (ordP f w)) := by
        intro e
        induction e with
        | zero =>
          intro k hk hik
          refine Ev.succ ?_
          simp only [spec_l04Order.l1]
          refine Ev.neg (by simp; omega) (Ev.pos (by simp; omega) ?_)
          rw [w64' (by omega), mk_congr (q := ordP f w i) fun b hb => by simp [show b < k by omega]]
          exact i1
        | succ e ihe =>
          intro k hk hik
          have j1 := ihe (k + 1) (by omega) (by omega)
          have h3 : (2 : Nat) ^ k ≤ 2 ^ 24 := pow24 (by omega)
          -- the positions below j have been looked at
          have inner : ∀ (e2 j : Nat), j + e2 = k → i ≤ j → ∀ (B : Bool), (B = true ↔ ∃ j', i ≤ j' ∧ j' < j ∧ ordP f w i j' = true ∧ eP f w j' k = true) →
              Ev (fun q => spec_l04Order.l2 q (ints w) ((List.range i).map fun a => ((mk w.length (ordP f w a) : Nat) : Int)) (i : Int) ((mk w.length (fun b => (decide (b < k) && ordP f w i b) || (decide (b = k) && B)) : Nat) : Int) (k : Int) (j : Int) (n : Int) (mat n f)) (mat w.length (ordP f w)) := by
            intro e2
            induction e2 with
            | zero =>
              intro j hj hij B hB
              obtain rfl : j = k := by omega
              refine Ev.succ ?_
              simp only [spec_l04Order.l2]
              refine Ev.neg (by omega) ?_
              have hB' : B = ordP f w i j := by
                rw [Bool.eq_iff_iff, hB, hlast i j]
                constructor
                · exact .inr
                · rintro (h | h)
                  · omega
                  · exact h
              rw [w64' (by omega), mk_congr (q := fun b => decide (b < j + 1) && ordP f w i b) fun b hb => by
                by_cases e1 : b = j
                · subst e1; simp [hB']
                · by_cases e2 : b < j
                  · simp [e1, e2, show b < j + 1 by omega]
                  · simp [e1, e2, show ¬ b < j + 1 by omega]]
              exact j1
            | succ e2 ih2 =>
              intro j hj hij B hB
              have h1 := mk_lt w.length (fun b => (decide (b < k) && ordP f w i b) || (decide (b = k) && B))
              have hxj := getD_lt hw (show j < w.length by omega)
              have hxk := getD_lt hw (show k < w.length by omega)
              have hjk : j < k := by omega
              refine Ev.succ ?_
              simp only [spec_l04Order.l2]
              refine Ev.pos (by omega) ?_
              rw [l01Bit_eq _ j (mk62 (by omega) _) (by omega), testBit_mk]
              have hbit : (decide (j < w.length) && ((decide (j < k) && ordP f w i j) || (decide (j = k) && B))) = ordP f w i j := by simp [hjk, show j < w.length by omega, show ¬ j = k by omega]
              rw [hbit]
              have hee : eP f w j k = f (w.getD j 0) (w.getD k 0) := by simp [eP, hjk, show k < w.length by omega]
              refine Ev.some_bind (Ev.ite (fun c => ?_) (fun c => ?_))
              · refine Ev.pos (by omega) (Ev.pos (by simp; omega) (Ev.pos (by omega) (Ev.pos (by simp; omega) ?_)))
                rw [rd_getD, rd_getD, l02Dep_eq n (by omega) f _ _ _ hxj hxk, l01One_eq k (by omega), w64' (by omega)]
                refine Ev.some_bind (Ev.ite (fun g => Ev.some_bind ?_) (fun g => ?_))
                · rw [b_or _ _ (mk62 (by omega) _) (two62 (by omega)), mk_or_one w.length _ k (by omega)]
                  have := ih2 (j + 1) (by omega) (by omega) true ⟨fun _ => ⟨j, hij, by omega, c, by rw [hee]; exact g⟩, fun _ => rfl⟩
                  rw [mk_congr (q := fun b => (decide (b < k) && ordP f w i b) || (decide (b = k) && true)) fun b hb => by
                    by_cases e1 : b = k
                    · subst e1; simp
                    · simp [e1]]
                  exact this
                · exact ih2 (j + 1) (by omega) (by omega) B (hB.trans ⟨fun ⟨j', a1, a2, a3⟩ => ⟨j', a1, by omega, a3⟩, fun ⟨j', a1, a2, a3, a4⟩ => by
                    by_cases e1 : j' = j
                    · subst e1; rw [hee] at a4; exact absurd a4 g
                    · exact ⟨j', a1, by omega, a3, a4⟩⟩)
              · rw [w64' (by omega)]
                exact ih2 (j + 1) (by omega) (by omega) B (hB.trans ⟨fun ⟨j', a1, a2, a3⟩ => ⟨j', a1, by omega, a3⟩, fun ⟨j', a1, a2, a3, a4⟩ => by
                    by_cases e1 : j' = j
                    · subst e1; exact absurd a3 c
                    · exact ⟨j', a1, by omega, a3, a4⟩⟩)
          have := inner (k - i) i (by omega) (Nat.le_refl _) false ⟨by simp, fun ⟨j', a1, a2, _⟩ => by omega⟩
          rw [mk_congr (q := fun b => decide (b < k) && ordP f w i b) fun b hb => by simp] at this
          refine Ev.succ ?_
          simp only [spec_l04Order.l1]
          exact Ev.pos (by simp; omega) this
      have := mid (w.length - (i + 1)) (i + 1) (by omega) (by omega)
      rw [← one] at this
      refine Ev.succ ?_
      simp only [spec_l04Order.l0]
      refine Ev.pos (by simp; omega) ?_
      rw [l01One_eq i (by omega), w64' (by omega)]
      exact Ev.some_bind this
  simp only [spec_l04Order.f]
  exact outer w.length 0 (by omega)
theorem l04Code_ok (n : Nat) (hn : n ≤ 8) (f : Nat → Nat → Bool) (hs : ∀ a b, f a b = f b a) (w : List Nat) (hl : w.length ≤ 24) (hw : ∀ x ∈ w, x < n) (hc : Ev (fun k => spec_l03Code.f k (n : Int) (mat n f) (ints w) (ints w)) 0) :
    Ev (fun k => spec_l04Code.f k (n : Int) (mat n f) (ints w)) (ints (normalP f n w), mat w.length (ordP f (normalP f n w)), 0) := by
  have hnl := normalP_length f hs hw
  simp only [spec_l04Code.f]
  refine Ev.bind hc (Ev.pos rfl (Ev.bind (l03Normal_ev n (by omega) f w (by omega) hw) ?_))
  have := l04Order_ev n hn f _ (by omega) (normalP_lt f hs hw)
  rw [hnl] at this
  exact Ev.bind this (Ev.now _)
theorem l04Code_bad (n : Int) (D w : List Int) (c : Int) (h0 : c ≠ 0) (hc : Ev (fun k => spec_l03Code.f k n D w w) c) : Ev (fun k => spec_l04Code.f k n D w) ([], [], c) := by
  simp only [spec_l04Code.f]
  exact Ev.bind hc (Ev.neg h0 (Ev.now _))
theorem positions_ev (n : Nat) (hn : n ≤ 8) (f : Nat → Nat → Bool) (hs : ∀ a b, f a b = f b a) (w : List Nat) (hl : w.length ≤ 24) (hw : ∀ x ∈ w, x < n) :
    Ev (fun k => impl_positions.f k (n : Int) (mat n f) (ints w)) (ints (normalP f n w), mat w.length (ordP f (normalP f n w))) := by
  have hnl := normalP_length f hs hw
  simp only [impl_positions.f, impl_Alphabet_ties.f]
  refine Ev.some_bind (Ev.bind (normal_ev n hn f w (by omega) hw) (Ev.some_bind ?_))
  have := orderOf_ev n hn f _ (by omega) (normalP_lt f hs hw)
  rw [hnl] at this
  exact Ev.bind this (Ev.now _)
end Go.Proofs.YtcigmfmlgaiklaaDoor.PAll
