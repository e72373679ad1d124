import Derived.Test.YtkiacoilecdepaaDoorPAllx1
import Derived.Test.YtkiacoilecdepaaDoorPAllx14
import Derived.Test.YtkiacoilecdepaaDoorPAllx18
import Derived.Test.YtkiacoilecdepaaDoorPAllx19
import Derived.Test.YtkiacoilecdepaaDoorPAllx5
import Derived.Test.YtkiacoilecdepaaDoorV0
import Derived.Test.YtkiacoilecdepaaDoorV1
import Derived.Test.YtkiacoilecdepaaDoorV3
import Derived.Test.YtkiacoilecdepaaDoorQBase
import Derived.Test.YtkiacoilecdepaaDoorQMask
import Derived.Test.YtkiacoilecdepaaDoorQMeet
import Derived.Test.YtkiacoilecdepaaDoorQOrder
import Derived.Test.YtkiacoilecdepaaDoorQRev
import Derived.Test.YtkiacoilecdepaaDoorQTab
import Derived.Test.YtkiacoilecdepaaDoorQTrace
set_option linter.unusedVariables false
set_option linter.unusedSimpArgs false
namespace Go.Proofs.YtkiacoilecdepaaDoor.PAll
open Go.RowKit Go.Proofs.YtkiacoilecdepaaDoorW.PrintWords Go.Proofs.YtkiacoilecdepaaDoorW.PrintMore Go.Proofs.YtkiacoilecdepaaDoor.Q
theorem closure_l2 (n : Nat) (hn : n ≤ 24) (g : Nat → Nat → Bool) (p : Nat) (hp : p < n) (R : List Int) (hR : Ev (fun k => impl_closure.l1 k (mat n fun i k => g i k || (g i p && g p k)) (n : Int) ((p + 1 : Nat) : Int)) R) :
    ∀ (d i : Nat), i + d = n → Ev (fun k => impl_closure.l2 k (mat n fun a b => if a < i then g a b || (g a p && g p b) else g a b) (p : Int) (n : Int) (p : Int) (n : Int) (i : Int)) R := by
  intro d
  induction d with
  | zero =>
    intro i hi
    refine Ev.succ ?_
    simp only [impl_closure.l2]
    refine Ev.neg (by omega) ?_
    rw [w64' (by omega)]
    have e : mat n (fun a b => if a < i then g a b || (g a p && g p b) else g a b) = mat n fun a b => g a b || (g a p && g p b) := mat_congr fun a b ha _ => by rw [if_pos (by omega)]
    rw [e]
    exact hR
  | succ d ih =>
    intro i hi
    have h24 := pow_lt62 hn
    have i1 := ih (i + 1) (by omega)
    refine Ev.succ ?_
    simp only [impl_closure.l2]
    refine Ev.pos (by omega) (Ev.pos (by omega) (Ev.pos (by simp; omega) ?_))
    rw [rd_mat n _ i (by omega)]
    have h1 := mk_lt n ((fun a b => if a < i then g a b || (g a p && g p b) else g a b) i)
    have h2 := mk_lt n ((fun a b => if a < i then g a b || (g a p && g p b) else g a b) p)
    rw [has_eq _ p (mk62 (by omega) _) (by omega), testBit_mk]
    refine Ev.some_bind ?_
    have row : (if i < i then g i p || (g i p && g p p) else g i p) = g i p := if_neg (by omega)
    have hrow : ∀ b, (if p < i then g p b || (g p p && g p b) else g p b) = g p b := fun b => by
      split
      · cases g p b <;> simp
      · rfl
    refine Ev.ite (fun c => ?_) (fun c => ?_)
    · have c' : g i p = true := by
        simp only [hp, decide_true, Bool.true_and] at c
        rw [← row]; exact c
      refine Ev.pos (by omega) (Ev.pos (by simp; omega) ?_)
      rw [rd_mat n _ p hp, b_or _ _ (mk62 (by omega) _) (mk62 (by omega) _), mk_or, w64' (by omega), Int.toNat_natCast, mat_row n _ i (by omega)]
      have e : mat n (fun a b => if a = i then ((if i < i then g i b || (g i p && g p b) else g i b) || if p < i then g p b || (g p p && g p b) else g p b) else if a < i then g a b || (g a p && g p b) else g a b) = mat n fun a b => if a < i + 1 then g a b || (g a p && g p b) else g a b := mat_congr fun a b ha hb => by
        by_cases e : a = i
        · subst e
          rw [if_pos rfl, hrow, if_neg (Nat.lt_irrefl a), if_pos (Nat.lt_succ_self a), c']
          simp
        · rw [if_neg e]
          by_cases e2 : a < i
          · rw [if_pos e2, if_pos (by omega)]
          · rw [if_neg e2, if_neg (by omega)]
      rw [e]
      exact i1
    · have c' : g i p = false := by
        simp only [hp, decide_true, Bool.true_and] at c
        rw [← row]; simpa using c
      rw [w64' (by omega)]
      have e : mat n (fun a b => if a < i then g a b || (g a p && g p b) else g a b) = mat n fun a b => if a < i + 1 then g a b || (g a p && g p b) else g a b := mat_congr fun a b ha hb => by
        by_cases e : a = i
        · subst e
          rw [if_neg (by omega), if_pos (by omega), c']
          simp
        · by_cases e2 : a < i
          · rw [if_pos e2, if_pos (by omega)]
          · rw [if_neg e2, if_neg (by omega)]
      rw [e]
      exact i1
theorem closure_l1 (n : Nat) (hn : n ≤ 24) (f : Nat → Nat → Bool) : ∀ (d p : Nat), p + d = n → Ev (fun k => impl_closure.l1 k (mat n (wsh f p)) (n : Int) (p : Int)) (mat n (clos n f)) := by
  intro d
  induction d with
  | zero =>
    intro p hp
    obtain rfl : p = n := by omega
    refine Ev.succ ?_
    simp only [impl_closure.l1]
    exact Ev.neg (by omega) (Ev.now _)
  | succ d ih =>
    intro p hp
    refine Ev.succ ?_
    simp only [impl_closure.l1]
    refine Ev.pos (by omega) ?_
    have := closure_l2 n hn (wsh f p) p (by omega) _ (ih (p + 1) (by omega)) n 0 (by omega)
    have e : mat n (fun a b => if a < 0 then wsh f p a b || (wsh f p a p && wsh f p p b) else wsh f p a b) = mat n (wsh f p) := mat_congr fun a b _ _ => if_neg (by omega)
    rw [e] at this
    rw [mat_length]
    exact this
theorem closure_ev (n : Nat) (hn : n ≤ 24) (f : Nat → Nat → Bool) : Ev (fun k => impl_closure.f k (mat n f)) (mat n (clos n f)) := by
  have h24 := pow_lt62 hn
  have loop : ∀ (d i : Nat), i + d = n → Ev (fun k => impl_closure.l0 k (mat n fun a b => (decide (a = b) && decide (a < i)) || f a b) (n : Int) (i : Int)) (mat n (clos n f)) := by
    intro d
    induction d with
    | zero =>
      intro i hi
      obtain rfl : i = n := by omega
      refine Ev.succ ?_
      simp only [impl_closure.l0]
      refine Ev.neg (by omega) ?_
      have := closure_l1 i hn f i 0 (by omega)
      have e : mat i (fun a b => (decide (a = b) && decide (a < i)) || f a b) = mat i (wsh f 0) := mat_congr fun a b ha _ => by simp [wsh, ha]
      rw [e, mat_length]
      exact this
    | succ d ih =>
      intro i hi
      have i1 := ih (i + 1) (by omega)
      have h1 := mk_lt n ((fun a b => (decide (a = b) && decide (a < i)) || f a b) i)
      have h2 : (2 : Nat) ^ i ≤ 2 ^ 24 := pow24 (by omega)
      refine Ev.succ ?_
      simp only [impl_closure.l0]
      refine Ev.pos (by omega) (Ev.pos (by omega) (Ev.pos (by simp; omega) ?_))
      rw [one_eq i (by omega), rd_mat n _ i (by omega)]
      refine Ev.some_bind ?_
      rw [b_or _ _ (mk62 (by omega) _) (two62 (by omega)), mk_or_one n _ i (by omega), w64' (by omega), Int.toNat_natCast, mat_row n _ i (by omega)]
      have e : mat n (fun a b => if a = i then (((decide (i = b) && decide (i < i)) || f i b) || decide (b = i)) else (decide (a = b) && decide (a < i)) || f a b) = mat n fun a b => (decide (a = b) && decide (a < i + 1)) || f a b := mat_congr fun a b ha hb => by
        by_cases e : a = i
        · subst e
          rw [if_pos rfl]
          by_cases e2 : a = b
          · subst e2; simp
          · simp [e2, show ¬ b = a from fun h => e2 h.symm]
        · rw [if_neg e]
          by_cases e2 : a < i
          · simp [e2, show a < i + 1 by omega]
          · simp [e2, show ¬ a < i + 1 by omega]
      rw [e]
      exact i1
  simp only [impl_closure.f]
  unfold slices_Clone_int64_int64.f
  rw [if_pos (by simp; omega)]
  refine Ev.some_bind ?_
  have := loop n 0 (by omega)
  have e : mat n (fun a b => (decide (a = b) && decide (a < 0)) || f a b) = mat n f := mat_congr fun a b _ _ => by simp
  rw [e] at this
  rw [mat_length]
  exact this
theorem orderOf_ev (n : Nat) (hn : n ≤ 8) (f : Nat → Nat → Bool) (w : List Nat) (hl : w.length ≤ 24) (hw : ∀ x ∈ w, x < n) : Ev (fun k => impl_ties_orderOf.f k (mat n f) (ints w)) (mat w.length (ordP f w)) := by
  have h24 := pow_lt62 hl
  have h8 := pow_lt62 (show n ≤ 24 by omega)
  have outer : ∀ (d i : Nat), i + d = w.length → Ev (fun k => impl_ties_orderOf.l0 k (mat n f) (ints w) (mat w.length fun a b => decide (a < i) && eP f w a b) (ints w) (w.length : Int) (i : Int)) (mat w.length (ordP f w)) := by
    intro d
    induction d with
    | zero =>
      intro i hi
      refine Ev.succ ?_
      simp only [impl_ties_orderOf.l0]
      refine Ev.neg (by omega) ?_
      have e : mat w.length (fun a b => decide (a < i) && eP f w a b) = mat w.length (eP f w) := mat_congr fun a b ha _ => by simp [show a < i by omega]
      rw [e]
      exact Ev.bind (closure_ev w.length hl (eP f w)) (Ev.now _)
    | succ d ih =>
      intro i hi
      have i1 := ih (i + 1) (by omega)
      have hx := getD_lt hw (show i < w.length by omega)
      have inner : ∀ (e k : Nat), k + e = w.length → i < k → Ev (fun q => impl_ties_orderOf.l1 q (mat n f) (ints w) (mat w.length fun a b => (decide (a < i) && eP f w a b) || (decide (a = i ∧ b < k) && eP f w a b)) (i : Int) ((w.getD i 0 : Nat) : Int) (k : Int) (ints w) (w.length : Int) (i : Int)) (mat w.length (ordP f w)) := by
        intro e
        induction e with
        | zero =>
          intro k hk hik
          refine Ev.succ ?_
          simp only [impl_ties_orderOf.l1]
          refine Ev.neg (by simp; omega) ?_
          rw [w64' (by omega)]
          have e : mat w.length (fun a b => (decide (a < i) && eP f w a b) || (decide (a = i ∧ b < k) && eP f w a b)) = mat w.length fun a b => decide (a < i + 1) && eP f w a b := mat_congr fun a b ha hb => by
            by_cases e1 : a = i
            · subst e1; simp [show b < k by omega]
            · by_cases e2 : a < i
              · simp [e1, e2, show a < i + 1 by omega]
              · simp [e1, e2, show ¬ a < i + 1 by omega]
          rw [e]
          exact i1
        | succ e ihe =>
          intro k hk hik
          have j1 := ihe (k + 1) (by omega) (by omega)
          have hy := getD_lt hw (show k < w.length by omega)
          have h1 := mk_lt n (f (w.getD i 0))
          refine Ev.succ ?_
          simp only [impl_ties_orderOf.l1]
          refine Ev.pos (by simp; omega) (Ev.pos (by omega) (Ev.pos (by rw [mat_length]; omega) (Ev.pos (by omega) ?_)))
          rw [rd_getD, rd_mat n f _ hx, has_eq _ _ (mk62 (by omega) _) (by omega), testBit_mk]
          have hee : eP f w i k = f (w.getD i 0) (w.getD k 0) := by simp [eP, hik, show k < w.length by omega]
          refine Ev.some_bind (Ev.ite (fun c => ?_) (fun c => ?_))
          · have c' : eP f w i k = true := hee.trans (Bool.and_eq_true_iff.1 c).2
            have h2 := mk_lt w.length ((fun a b => (decide (a < i) && eP f w a b) || (decide (a = i ∧ b < k) && eP f w a b)) i)
            have h3 : (2 : Nat) ^ k ≤ 2 ^ 24 := pow24 (by omega)
            refine Ev.pos (by omega) (Ev.pos (by simp; omega) ?_)
            rw [one_eq k (by omega), rd_mat w.length _ i (by omega), w64' (by omega)]
            refine Ev.some_bind ?_
            rw [b_or _ _ (mk62 (by omega) _) (two62 (by omega)), mk_or_one w.length _ k (by omega), Int.toNat_natCast, mat_row w.length _ i (by omega)]
            have e : mat w.length (fun a b => if a = i then (((decide (i < i) && eP f w i b) || (decide (i = i ∧ b < k) && eP f w i b)) || decide (b = k)) else (decide (a < i) && eP f w a b) || (decide (a = i ∧ b < k) && eP f w a b)) = mat w.length fun a b => (decide (a < i) && eP f w a b) || (decide (a = i ∧ b < k + 1) && eP f w a b) := mat_congr fun a b ha hb => by
              by_cases e1 : a = i
              · subst e1
                rw [if_pos rfl]
                by_cases e2 : b = k
                · subst e2; simp [c']
                · by_cases e3 : b < k
                  · simp [e2, e3, show b < k + 1 by omega]
                  · simp [e2, e3, show ¬ b < k + 1 by omega]
              · rw [if_neg e1]; simp [e1]
            rw [e]
            exact j1
          · have c' : eP f w i k = false := hee.trans (Bool.eq_false_iff.2 fun h => c (by rw [h, decide_eq_true hy]; rfl))
            rw [w64' (by omega)]
            have e : mat w.length (fun a b => (decide (a < i) && eP f w a b) || (decide (a = i ∧ b < k) && eP f w a b)) = mat w.length fun a b => (decide (a < i) && eP f w a b) || (decide (a = i ∧ b < k + 1) && eP f w a b) := mat_congr fun a b ha hb => by
              by_cases e1 : a = i
              · subst e1
                by_cases e2 : b = k
                · subst e2; simp [c']
                · by_cases e3 : b < k
                  · simp [e3, show b < k + 1 by omega]
                  · simp [e3, show ¬ b < k + 1 by omega]
              · simp [e1]
            rw [e]
            exact j1
      have := inner (w.length - (i + 1)) (i + 1) (by omega) (by omega)
      have e : mat w.length (fun a b => (decide (a < i) && eP f w a b) || (decide (a = i ∧ b < i + 1) && eP f w a b)) = mat w.length fun a b => decide (a < i) && eP f w a b := mat_congr fun a b ha hb => by
        by_cases e1 : a = i ∧ b < i + 1
        · have : eP f w a b = false := by simp [eP]; omega
          simp [this]
        · simp [e1]
      rw [e] at this
      refine Ev.succ ?_
      simp only [impl_ties_orderOf.l0]
      refine Ev.pos (by omega) (Ev.pos (by omega) (Ev.pos (by simp; omega) ?_))
      rw [rd_getD, w64' (by omega)]
      exact this
  simp only [impl_ties_orderOf.f]
  refine Ev.pos (by omega) (Ev.pos (by simp; omega) ?_)
  have := outer w.length 0 (by omega)
  have e : mat w.length (fun a b => decide (a < 0) && eP f w a b) = List.replicate w.length 0 := by
    apply List.ext_getElem
    · simp
    · intro q h1 h2
      simp only [mat, List.getElem_map, List.getElem_range, List.getElem_replicate]
      have : mk w.length (fun b => decide (q < 0) && eP f w q b) = 0 := Nat.eq_of_testBit_eq fun i => by rw [testBit_mk]; simp
      rw [this]; rfl
  rw [e] at this
  rw [ints_length, Int.toNat_natCast]
  exact this
theorem l04Code_ok (n : Nat) (hn : n ≤ 8) (f : Nat → Nat → Bool) (hs : ∀ a b, f a b = f b a) (w : List Nat) (hl : w.length ≤ 24) (hw : ∀ x ∈ w, x < n) (hc : Ev (fun k => spec_l03Code.f k (n : Int) (mat n f) (ints w) (ints w)) 0) :
    Ev (fun k => spec_l04Code.f k (n : Int) (mat n f) (ints w)) (ints (normalP f n w), mat w.length (ordP f (normalP f n w)), 0) := by
  have hnl := normalP_length f hs hw
  simp only [spec_l04Code.f]
  refine Ev.bind hc (Ev.pos rfl (Ev.bind (l03Normal_ev n (by omega) f w (by omega) hw) ?_))
  have := l04Order_ev n hn f _ (by omega) (normalP_lt f hs hw)
  rw [hnl] at this
  exact Ev.bind this (Ev.now _)
theorem l04Code_bad (n : Int) (D w : List Int) (c : Int) (h0 : c ≠ 0) (hc : Ev (fun k => spec_l03Code.f k n D w w) c) : Ev (fun k => spec_l04Code.f k n D w) ([], [], c) := by
  simp only [spec_l04Code.f]
  exact Ev.bind hc (Ev.neg h0 (Ev.now _))
theorem positions_ev (n : Nat) (hn : n ≤ 8) (f : Nat → Nat → Bool) (hs : ∀ a b, f a b = f b a) (w : List Nat) (hl : w.length ≤ 24) (hw : ∀ x ∈ w, x < n) :
    Ev (fun k => impl_positions.f k (n : Int) (mat n f) (ints w)) (ints (normalP f n w), mat w.length (ordP f (normalP f n w))) := by
  have hnl := normalP_length f hs hw
  simp only [impl_positions.f, impl_Alphabet_ties.f]
  refine Ev.some_bind (Ev.bind (normal_ev n hn f w (by omega) hw) (Ev.some_bind ?_))
  have := orderOf_ev n hn f _ (by omega) (normalP_lt f hs hw)
  rw [hnl] at this
  exact Ev.bind this (Ev.now _)
theorem checkPosition_ok (n : Nat) (hn : n ≤ 8) (f : Nat → Nat → Bool) (hs : ∀ a b, f a b = f b a) (w : List Nat) (hl : w.length ≤ 24) (hw : ∀ x ∈ w, x < n) (i : Int) (hk : Ev (fun k => impl_checkWords.f k (n : Int) (mat n f) [ints w]) 0) :
    Ev (fun k => impl_checkPosition.f k (n : Int) (mat n f) (ints w) i) (if 0 ≤ i ∧ i ≤ (w.length : Int) - 1 then (mat w.length (ordP f (normalP f n w)), 0) else ([], 2)) := by
  simp only [impl_checkPosition.f, impl_length_int64.f, inRange_eq]
  refine Ev.bind hk (Ev.pos rfl (Ev.some_bind (Ev.some_bind ?_)))
  rw [ints_length, w64' (by omega)]
  by_cases c : 0 ≤ i ∧ i ≤ (w.length : Int) - 1
  · rw [if_pos c]
    exact Ev.pos (by simpa using c) (Ev.bind (positions_ev n hn f hs w hl hw) (Ev.now _))
  · rw [if_neg c]
    exact Ev.neg (by simpa using c) (Ev.now _)
theorem checkPosition_bad (n : Int) (D w : List Int) (i c : Int) (h0 : c ≠ 0) (hk : Ev (fun k => impl_checkWords.f k n D [w]) c) : Ev (fun k => impl_checkPosition.f k n D w i) ([], c) := by
  simp only [impl_checkPosition.f]
  exact Ev.bind hk (Ev.neg h0 (Ev.now _))
theorem concurrent_ev (n : Nat) (hn : n ≤ 24) (g : Nat → Nat → Bool) : Ev (fun k => impl_concurrent.f k (mat n g)) (mat n fun i b => !g b i && !g i b) := by
  have h1 : 0 < 2 ^ n := Nat.two_pow_pos n
  have h2 := pow_lt62 hn
  have loop : ∀ (d i : Nat), i + d = n → Ev (fun k => impl_concurrent.l0 k (mat n g) ((List.range i).map fun a => ((mk n (fun b => !g b a && !g a b) : Nat) : Int)) (mat n fun a b => g b a) (n : Int) (i : Int)) (mat n fun i b => !g b i && !g i b) := by
    intro d
    induction d with
    | zero =>
      intro i hi
      obtain rfl : i = n := by omega
      refine Ev.succ ?_
      simp only [impl_concurrent.l0]
      exact Ev.neg (by omega) (Ev.now _)
    | succ d ih =>
      intro i hi
      have i1 := ih (i + 1) (by omega)
      rw [List.range_succ, List.map_append] at i1
      refine Ev.succ ?_
      simp only [impl_concurrent.l0, impl_length_int64.f]
      refine Ev.pos (by omega) (Ev.pos (by omega) (Ev.pos (by simp; omega) (Ev.some_bind ?_)))
      rw [mat_length, one_eq n (by omega)]
      refine Ev.some_bind (Ev.pos (by omega) (Ev.pos (by simp; omega) ?_))
      rw [rd_mat n _ i (by omega), rd_mat n _ i (by omega), w64' (by omega), show ((2 ^ n : Nat) : Int) - 1 = ((2 ^ n - 1 : Nat) : Int) by omega, mk_full n, b_andNot _ _ (mk62 hn _) (mk62 hn _), mk_without hn, b_andNot _ _ (mk62 hn _) (mk62 hn _), mk_without hn, w64' (by omega)]
      simp only [Bool.true_and]
      exact i1
  simp only [impl_concurrent.f]
  refine Ev.bind (converse_ev n hn g) ?_
  have := loop n 0 (by omega)
  rw [mat_length]
  exact this
theorem l04Down_ev (n : Nat) (hn : n ≤ 24) (g : Nat → Nat → Bool) (M : Nat) (hM : M < 2 ^ n) : Ev (fun k => spec_l04Down.f k (mat n g) (M : Int)) (downP g n M) := by
  have h24 := pow_lt62 hn
  have loop : ∀ (d i : Nat), i + d = n → (∀ j, j < i → (M.testBit j || (List.range n).all fun k => !(g j k && M.testBit k)) = true) → Ev (fun k => spec_l04Down.l0 k (mat n g) (M : Int) (i : Int)) (downP g n M) := by
    intro d
    induction d with
    | zero =>
      intro i hi hb
      refine Ev.succ ?_
      simp only [spec_l04Down.l0]
      refine Ev.neg (by simp; omega) (Ev.const ?_)
      congr 1
      exact (List.all_eq_true.2 fun j hj => hb j (by have := List.mem_range.1 hj; omega)).symm
    | succ d ih =>
      intro i hi hb
      have next : (M.testBit i || (List.range n).all fun k => !(g i k && M.testBit k)) = true → Ev (fun k => spec_l04Down.l0 k (mat n g) (M : Int) ((i + 1 : Nat) : Int)) (downP g n M) := fun h => ih (i + 1) (by omega) (fun j hj => by
        by_cases e : j = i
        · subst e; exact h
        · exact hb j (by omega))
      have hrow := mk_lt n (g i)
      refine Ev.succ ?_
      simp only [spec_l04Down.l0]
      refine Ev.pos (by simp; omega) ?_
      rw [l01Bit_eq M i (by omega) (by omega), w64' (by omega)]
      refine Ev.some_bind (Ev.ite (fun h => ?_) (fun h => ?_))
      · exact next (by rw [h]; rfl)
      · refine Ev.pos (by omega) ?_
        rw [rd_mat n g i (by omega), b_and _ _ (by omega) (by omega)]
        by_cases c : (List.range n).all (fun k => !(g i k && M.testBit k)) = true
        · rw [(and_zero (g i) hM).2 c]
          exact Ev.pos rfl (next (by rw [c]; simp))
        · have c0 : ¬ (mk n (g i) &&& M = 0) := fun e => c ((and_zero (g i) hM).1 e)
          refine Ev.neg (by omega) (Ev.const ?_)
          congr 1
          symm
          cases e : downP g n M with
          | false => rfl
          | true =>
            have := List.all_eq_true.1 e i (List.mem_range.2 (by omega))
            rcases Bool.or_eq_true_iff.1 this with h1 | h1
            · exact absurd h1 h
            · exact absurd h1 c
  simp only [spec_l04Down.f]
  exact loop n 0 (by omega) (fun j hj => by omega)
theorem IsMask24_eq (n : Nat) (hn : n ≤ 24) (a : Int) : impl_IsMask.f a (n : Int) = some (decide (0 ≤ a ∧ a ≤ ((2 ^ n - 1 : Nat) : Int))) := by
  unfold impl_IsMask.f
  have hp := Nat.two_pow_pos n
  have h24 := pow_lt62 hn
  rw [inRange_eq]
  simp only [Option.bind_some]
  rw [if_pos (by simp; omega), one_eq n (by omega)]
  simp only [Option.bind_some, inRange_eq]
  rw [w64' (by omega), show ((2 ^ n : Nat) : Int) - 1 = ((2 ^ n - 1 : Nat) : Int) by omega]
theorem lettersAt_ev (l : List Int) (hl : l.length ≤ 24) (M : Nat) (hM : M < 2 ^ l.length) : Ev (fun k => impl_lettersAt.f k l (M : Int)) ((bitsOf M).map fun (i : Nat) => rd l (i : Int)) := by
  have h24 := pow_lt62 hl
  have hb : ∀ i ∈ bitsOf M, i < l.length := fun i hi => Classical.byContradiction fun h => by
    have := (mem_bitsOf (by have : (2 : Nat) ^ 62 < 2 ^ 64 := by decide
                            omega)).1 hi
    rw [bit_of_lt hM (by omega)] at this; cases this
  have h64 := bitsOf_length M
  have loop : ∀ (suf pre : List Nat), pre ++ suf = bitsOf M → Ev (fun k => impl_lettersAt.l0 k l (pre.map fun (i : Nat) => rd l (i : Int)) (intsOf M) ((intsOf M).length : Int) (pre.length : Int)) ((bitsOf M).map fun (i : Nat) => rd l (i : Int)) := by
    intro suf
    have hil : (intsOf M).length = (bitsOf M).length := by simp [intsOf]
    induction suf with
    | nil =>
      intro pre hp
      rw [List.append_nil] at hp
      refine Ev.succ ?_
      simp only [impl_lettersAt.l0]
      rw [hil, hp]
      exact Ev.neg (by omega) (Ev.now _)
    | cons b suf ih =>
      intro pre hp
      have i1 := ih (pre ++ [b]) (by simpa using hp)
      have hbl := hb b (by rw [← hp]; simp)
      have hlen : pre.length + suf.length + 1 = (bitsOf M).length := by rw [← hp]; simp; omega
      have rb : rd (intsOf M) (pre.length : Int) = (b : Int) := by
        have := rd_mid pre suf b
        rw [hp] at this
        exact this
      refine Ev.succ ?_
      simp only [impl_lettersAt.l0]
      refine Ev.pos (by omega) (Ev.pos (by omega) (Ev.pos (by omega) ?_))
      rw [rb]
      refine Ev.pos (by omega) (Ev.pos (by omega) (Ev.pos (by rw [List.length_map]; omega) ?_))
      rw [w64' (by omega)]
      simp only [List.map_append, List.map_cons, List.map_nil, List.length_append, List.length_cons, List.length_nil] at i1
      exact i1
  simp only [impl_lettersAt.f]
  exact Ev.bind (members_ev M (by omega)) (loop (bitsOf M) [] rfl)
theorem lettersAt_ints (w : List Nat) (hl : w.length ≤ 24) (M : Nat) (hM : M < 2 ^ w.length) : Ev (fun k => impl_lettersAt.f k (ints w) (M : Int)) (ints (lettersP w M)) := by
  refine Ev.val (lettersAt_ev (ints w) (by simpa using hl) M (by simpa using hM)) ?_
  rw [bitsOf_range hM (by omega)]
  unfold lettersP ints
  rw [List.map_map]
  exact List.map_congr_left fun i _ => rd_getD w i
theorem PrefixAt_l0 (n : Nat) (hn : n ≤ 24) (g : Nat → Nat → Bool) (M : Nat) (hM : M < 2 ^ n) (w : List Int) (a : Int) (D : List Int) (R : List Int × Int)
    (hR : Ev (fun k => (impl_Alphabet_ties.f a D).bind fun t649 => (impl_lettersAt.f k w (M : Int)).bind fun t652 => (impl_ties_normal.f k t649 t652).bind fun t655 => some (t655, 0)) R) :
    Ev (fun k => impl_PrefixAt.l0 k (M : Int) w ((bitsOf M).map fun (i : Nat) => rd (mat n fun a b => g b a) (i : Int)) (((bitsOf M).map fun (i : Nat) => rd (mat n fun a b => g b a) (i : Int)).length : Int) 0 a D) (if downP g n M = true then R else ([], 5)) := by
  have h24 := pow_lt62 hn
  have hb : ∀ i ∈ bitsOf M, i < n := fun i hi => Classical.byContradiction fun h => by
    have := (mem_bitsOf (by have : (2 : Nat) ^ 62 < 2 ^ 64 := by decide
                            omega)).1 hi
    rw [bit_of_lt hM (by omega)] at this; cases this
  have hbit : ∀ i, i ∈ bitsOf M ↔ M.testBit i = true := fun i => mem_bitsOf (by have : (2 : Nat) ^ 62 < 2 ^ 64 := by decide
                                                                                omega)
  have h64 := bitsOf_length M
  -- a position of the set, and what is below it
  let okB : Nat → Bool := fun i => (List.range n).all fun b => !(g b i && !M.testBit b)
  have hd : downP g n M = true ↔ ∀ i ∈ bitsOf M, okB i = true := by
    simp only [downP, okB, List.all_eq_true, List.mem_range, Bool.or_eq_true, Bool.not_eq_true', Bool.and_eq_false_iff]
    constructor
    · intro h i hi b hbn
      rcases h b hbn with h1 | h1
      · exact .inr (by rw [h1]; rfl)
      · rcases h1 i (hb i hi) with h2 | h2
        · exact .inl h2
        · rw [(hbit i).1 hi] at h2; cases h2
    · intro h i hin
      by_cases hi : M.testBit i = true
      · exact .inl hi
      · refine .inr fun k hk => ?_
        by_cases hkm : M.testBit k = true
        · rcases h k ((hbit k).2 hkm) i hin with h2 | h2
          · exact .inl h2
          · exact absurd (by simpa using h2) hi
        · exact .inr (by simpa using hkm)
  have loop : ∀ (suf pre : List Nat), pre ++ suf = bitsOf M → (∀ i ∈ pre, okB i = true) → Ev (fun k => impl_PrefixAt.l0 k (M : Int) w ((bitsOf M).map fun (i : Nat) => rd (mat n fun a b => g b a) (i : Int)) (((bitsOf M).map fun (i : Nat) => rd (mat n fun a b => g b a) (i : Int)).length : Int) (pre.length : Int) a D) (if downP g n M = true then R else ([], 5)) := by
    intro suf
    induction suf with
    | nil =>
      intro pre hp hok
      rw [List.append_nil] at hp
      rw [if_pos (hd.2 (by rw [← hp]; exact hok))]
      refine Ev.succ ?_
      simp only [impl_PrefixAt.l0]
      exact Ev.neg (by rw [List.length_map, hp]; omega) hR
    | cons b suf ih =>
      intro pre hp hok
      have hbm : b ∈ bitsOf M := by rw [← hp]; simp
      have hbl := hb b hbm
      have hlen : pre.length + suf.length + 1 = (bitsOf M).length := by rw [← hp]; simp; omega
      have rb : rd ((bitsOf M).map fun (i : Nat) => rd (mat n fun a b => g b a) (i : Int)) (pre.length : Int) = ((mk n (fun c => g c b) : Nat) : Int) := by
        rw [rd_lt _ _ (by rw [List.length_map]; omega), List.getElem_map]
        have : (bitsOf M)[pre.length]'(by omega) = b := by
          simp only [← hp]
          simp
        rw [this, rd_mat n _ b hbl]
      have hrow := mk_lt n (fun c => g c b)
      have ew : without (mk n fun c => g c b) M = mk n fun c => g c b && !M.testBit c := by
        rw [show without (mk n fun c => g c b) M = without (mk n fun c => g c b) (mk n fun k => M.testBit k) by rw [← eq_mk hM], mk_without hn]
      refine Ev.succ ?_
      simp only [impl_PrefixAt.l0]
      refine Ev.pos (by rw [List.length_map]; omega) (Ev.pos (by omega) (Ev.pos (by rw [List.length_map]; omega) ?_))
      rw [rb, b_andNot _ _ (by omega) (by omega), ew, w64' (by omega)]
      by_cases c : okB b = true
      · have hz : mk n (fun c => g c b && !M.testBit c) = 0 := mk_zero fun k hk => by
          have := List.all_eq_true.1 c k (List.mem_range.2 hk)
          cases e : (g k b && !M.testBit k) with
          | false => rfl
          | true => rw [e] at this; cases this
        rw [hz]
        have := ih (pre ++ [b]) (by simpa using hp) (fun i hi => (List.mem_append.1 hi).elim (hok i) (fun h => by rw [List.mem_singleton.1 h]; exact c))
        rw [show (pre ++ [b]).length = pre.length + 1 by simp] at this
        exact Ev.pos rfl this
      · have hz : mk n (fun c => g c b && !M.testBit c) ≠ 0 := by
          refine mk_ne_zero (Classical.byContradiction fun hn' => c (List.all_eq_true.2 fun k hk => ?_))
          cases e : (g k b && !M.testBit k) with
          | false => rfl
          | true => exact absurd ⟨k, List.mem_range.1 hk, e⟩ hn'
        rw [if_neg (fun h => c (hd.1 h b hbm))]
        exact Ev.neg (by omega) (Ev.now _)
  exact loop (bitsOf M) [] rfl (by simp)
theorem OrderOf_impl {n : Nat} (hn : n ≤ 8) {f : Nat → Nat → Bool} (hs : ∀ a b, f a b = f b a) (hA : Alpha (n : Int) (mat n f)) {u : List Nat} (hl : u.length ≤ 24) (hu : ∀ x ∈ u, x < n) :
    Ev (fun k => impl_OrderOf.f k (n : Int) (mat n f) (ints u)) (mat u.length (ordP f (normalP f n u)), 0) := by
  simp only [impl_OrderOf.f]
  exact Ev.bind (check_1 hA hl hu) (Ev.pos rfl (Ev.bind (positions_ev n hn f hs u hl hu) (Ev.now _)))
theorem PastOf_impl {n : Nat} (hn : n ≤ 8) {f : Nat → Nat → Bool} (hs : ∀ a b, f a b = f b a) (hA : Alpha (n : Int) (mat n f)) {u : List Nat} (hl : u.length ≤ 24) (hu : ∀ x ∈ u, x < n) (x : Nat) (hx : x < u.length) :
    Ev (fun k => impl_PastOf.f k (n : Int) (mat n f) (ints u) (x : Int)) (((mk u.length (fun a => ordP f (normalP f n u) a x) : Nat) : Int), 0) := by
  have h2 := checkPosition_ok n hn f hs u hl hu (x : Int) (check_1 hA hl hu)
  simp only [impl_PastOf.f]
  refine Ev.bind h2 ?_
  rw [if_pos (by omega)]
  refine Ev.pos rfl (Ev.bind (converse_ev u.length hl _) (Ev.pos (by omega) (Ev.pos (by simp; omega) (Ev.const ?_))))
  rw [rd_mat _ _ x (by omega)]
theorem ConcurrentWith_impl {n : Nat} (hn : n ≤ 8) {f : Nat → Nat → Bool} (hs : ∀ a b, f a b = f b a) (hA : Alpha (n : Int) (mat n f)) {u : List Nat} (hl : u.length ≤ 24) (hu : ∀ x ∈ u, x < n) (x : Nat) (hx : x < u.length) :
    Ev (fun k => impl_ConcurrentWith.f k (n : Int) (mat n f) (ints u) (x : Int)) (((mk u.length (fun b => !ordP f (normalP f n u) b x && !ordP f (normalP f n u) x b) : Nat) : Int), 0) := by
  have h2 := checkPosition_ok n hn f hs u hl hu (x : Int) (check_1 hA hl hu)
  simp only [impl_ConcurrentWith.f]
  refine Ev.bind h2 ?_
  rw [if_pos (by omega)]
  refine Ev.pos rfl (Ev.bind (concurrent_ev u.length hl _) (Ev.pos (by omega) (Ev.pos (by simp; omega) (Ev.const ?_))))
  rw [rd_mat _ _ x (by omega)]
theorem PrefixAt_both (n : Int) (D l1 : List Int) (m1 : Int) : ∃ r : List Int × Int, r.1.length ≤ 100000 ∧ Ev (fun k => spec_PrefixAt.f k n D l1 m1) r ∧ Ev (fun k => impl_PrefixAt.f k n D l1 m1) r ∧
    (r.2 = 0 → ∃ (m : Nat) (f : Nat → Nat → Bool) (u : List Nat) (M : Nat), n = (m : Int) ∧ D = mat m f ∧ l1 = ints u ∧ m1 = (M : Int) ∧ m ≤ 8 ∧ (∀ a b, f a b = f b a) ∧ (∀ a, a < m → f a a = true) ∧ u.length ≤ 24 ∧ (∀ x ∈ u, x < m) ∧ M < 2 ^ u.length ∧ Alpha (m : Int) (mat m f) ∧ downP (ordP f (normalP f m u)) u.length M = true ∧ r.1 = ints (normalP f m (lettersP (normalP f m u) M))) := by
  have hc := l03Code_ev n D l1 l1
  simp only [and_self] at hc
  have hk := checkWords_ev n D [l1]
  have e : (∀ x ∈ [l1], Word n x) ↔ Word n l1 := by simp
  simp only [e] at hk
  have bad : ∀ c : Int, c ≠ 0 → Ev (fun k => spec_l03Code.f k n D l1 l1) c → Ev (fun k => spec_PrefixAt.f k n D l1 m1) ([], c) := fun c h0 h => by
    simp only [spec_PrefixAt.f]
    refine Ev.bind (l04Code_bad n D l1 c h0 h) (Ev.neg h0 (Ev.succ ?_))
    simp only [spec_PrefixAt.j0]
    refine Ev.neg (by simp) (Ev.succ ?_)
    simp only [spec_PrefixAt.j1]
    refine Ev.neg h0 (Ev.succ ?_)
    simp only [spec_PrefixAt.j2]
    refine Ev.neg (by simp) (Ev.succ ?_)
    simp only [spec_PrefixAt.j3]
    exact Ev.neg h0 (Ev.now _)
  by_cases hA : Alpha n D
  · by_cases hW : Word n l1
    · rw [if_pos hA, if_pos hW] at hc hk
      have hA2 := hA
      obtain ⟨m, f, rfl, rfl, hm, hs, hr⟩ := hA.form
      obtain ⟨u, rfl, hul, hu⟩ := hW.form
      clear hA hW e bad
      have hnl := normalP_length f hs hu
      have hnlt := normalP_lt f hs hu
      have h1 := l04Code_ok m hm f hs u hul hu hc
      have h2 := positions_ev m hm f hs u hul hu
      have hp := Nat.two_pow_pos u.length
      have h24 := pow_lt62 hul
      by_cases c : 0 ≤ m1 ∧ m1 ≤ ((2 ^ u.length - 1 : Nat) : Int)
      · obtain ⟨M, rfl⟩ := Int.eq_ofNat_of_zero_le c.1
        have hM : M < 2 ^ u.length := by omega
        have hll := lettersP_length (normalP f m u) M
        have hlt := lettersP_lt hnlt M
        refine ⟨if downP (ordP f (normalP f m u)) u.length M = true then (ints (normalP f m (lettersP (normalP f m u) M)), 0) else ([], 5), ?_, ?_, ?_, fun h0 => ?_⟩
        · split
          · rw [ints_length, normalP_length f hs hlt]; omega
          · simp
        · simp only [spec_PrefixAt.f, l01In_eq]
          refine Ev.bind h1 (Ev.pos rfl ?_)
          rw [ints_length, l01Full_eq u.length (by omega)]
          refine Ev.some_bind (Ev.some_bind (Ev.succ ?_))
          simp only [spec_PrefixAt.j0]
          refine Ev.neg (by rw [decide_eq_true c]; simp) (Ev.succ ?_)
          simp only [spec_PrefixAt.j1]
          refine Ev.pos trivial (Ev.bind (l04Down_ev u.length hul _ M hM) (Ev.succ ?_))
          simp only [spec_PrefixAt.j2]
          by_cases g : downP (ordP f (normalP f m u)) u.length M = true
          · rw [if_pos g]
            refine Ev.neg (by rw [g]; simp) (Ev.succ ?_)
            simp only [spec_PrefixAt.j3]
            exact Ev.pos trivial (Ev.bind (l04At_ev _ (by omega) M (by omega)) (Ev.bind (l03Normal_ev m (by omega) f _ (by omega) hlt) (Ev.now _)))
          · rw [if_neg g]
            refine Ev.pos (by simpa using g) (Ev.succ ?_)
            simp only [spec_PrefixAt.j3]
            exact Ev.neg (by decide) (Ev.now _)
        · simp only [impl_PrefixAt.f, impl_length_int64.f]
          refine Ev.bind hk (Ev.pos rfl (Ev.some_bind ?_))
          rw [ints_length, IsMask24_eq u.length hul]
          refine Ev.some_bind (Ev.pos (by rw [decide_eq_true c]) (Ev.bind h2 (Ev.bind (converse_ev u.length hul _) (Ev.bind (lettersAt_ev _ (by simpa using hul) M (by simpa using hM)) ?_))))
          refine PrefixAt_l0 u.length hul _ M hM _ _ _ _ ?_
          simp only [impl_Alphabet_ties.f]
          exact Ev.some_bind (Ev.bind (lettersAt_ints _ (by omega) M (by rw [hnl]; exact hM)) (Ev.bind (normal_ev m hm f _ (by omega) hlt) (Ev.now _)))
        · by_cases g : downP (ordP f (normalP f m u)) u.length M = true
          · rw [if_pos g]
            exact ⟨m, f, u, M, rfl, rfl, rfl, rfl, hm, hs, hr, hul, hu, hM, hA2, g, rfl⟩
          · rw [if_neg g] at h0; cases h0
      · refine ⟨([], 2), by simp, ?_, ?_, fun h => by cases h⟩
        · simp only [spec_PrefixAt.f, l01In_eq]
          refine Ev.bind h1 (Ev.pos rfl ?_)
          rw [ints_length, l01Full_eq u.length (by omega)]
          refine Ev.some_bind (Ev.some_bind (Ev.succ ?_))
          simp only [spec_PrefixAt.j0]
          refine Ev.pos (by rw [decide_eq_false c]; rfl) (Ev.succ ?_)
          simp only [spec_PrefixAt.j1]
          refine Ev.neg (by decide) (Ev.succ ?_)
          simp only [spec_PrefixAt.j2]
          refine Ev.neg (by simp) (Ev.succ ?_)
          simp only [spec_PrefixAt.j3]
          exact Ev.neg (by decide) (Ev.now _)
        · simp only [impl_PrefixAt.f, impl_length_int64.f]
          refine Ev.bind hk (Ev.pos rfl (Ev.some_bind ?_))
          rw [ints_length, IsMask24_eq u.length hul]
          exact Ev.some_bind (Ev.neg (by rw [decide_eq_false c]; simp) (Ev.now _))
    · rw [if_pos hA, if_neg hW] at hc hk
      refine ⟨([], 2), by simp, bad 2 (by decide) hc, ?_, fun h => by cases h⟩
      simp only [impl_PrefixAt.f]
      exact Ev.bind hk (Ev.neg (by decide) (Ev.now _))
  · rw [if_neg hA] at hc hk
    refine ⟨([], 1), by simp, bad 1 (by decide) hc, ?_, fun h => by cases h⟩
    simp only [impl_PrefixAt.f]
    exact Ev.bind hk (Ev.neg (by decide) (Ev.now _))
end Go.Proofs.YtkiacoilecdepaaDoor.PAll
