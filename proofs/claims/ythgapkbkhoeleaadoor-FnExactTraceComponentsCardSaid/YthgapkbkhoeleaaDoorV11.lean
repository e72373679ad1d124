import Derived.Test.YthgapkbkhoeleaaDoorPAllx14
import Derived.Test.YthgapkbkhoeleaaDoorPAllx7
import Derived.Test.YthgapkbkhoeleaaDoorV0
import Derived.Test.YthgapkbkhoeleaaDoorV1
import Derived.Test.YthgapkbkhoeleaaDoorQBase
import Derived.Test.YthgapkbkhoeleaaDoorQMask
import Derived.Test.YthgapkbkhoeleaaDoorQOrder
import Derived.Test.YthgapkbkhoeleaaDoorQRev
import Derived.Test.YthgapkbkhoeleaaDoorQTrace
set_option linter.unusedVariables false
set_option linter.unusedSimpArgs false
namespace Go.Proofs.YthgapkbkhoeleaaDoor.PAll
open Go.RowKit Go.Proofs.YthgapkbkhoeleaaDoorW.PrintWords Go.Proofs.YthgapkbkhoeleaaDoorW.PrintMore Go.Proofs.YthgapkbkhoeleaaDoor.Q
theorem closure_l2 (n : Nat) (hn : n ≤ 24) (g : Nat → Nat → Bool) (p : Nat) (hp : p < n) (R : List Int) (hR : Ev (fun k => impl_closure.l1 k (mat n fun i k => g i k || (g i p && g p k)) (n : Int) ((p + 1 : Nat) : Int)) R) :
    ∀ (d i : Nat), i + d = n → Ev (fun k => impl_closure.l2 k (mat n fun a b => if a < i then g a b || (g a p && g p b) else g a b) (p : Int) (n : Int) (p : Int) (n : Int) (i : Int)) R := by
  intro d
  induction d with
  | zero =>
    intro i hi
    refine Ev.succ ?_
    simp only [impl_closure.l2]
    refine Ev.neg (by omega) ?_
    rw [w64' (by omega)]
    have e : mat n (fun a b => if a < i then g a b || (g a p && g p b) else g a b) = mat n fun a b => g a b || (g a p && g p b) := mat_congr fun a b ha _ => by rw [if_pos (by omega)]
    rw [e]
    exact hR
  | succ d ih =>
    intro i hi
    have h24 := pow_lt62 hn
    have i1 := ih (i + 1) (by omega)
    refine Ev.succ ?_
    simp only [impl_closure.l2]
    refine Ev.pos (by omega) (Ev.pos (by omega) (Ev.pos (by simp; omega) ?_))
    rw [rd_mat n _ i (by omega)]
    have h1 := mk_lt n ((fun a b => if a < i then g a b || (g a p && g p b) else g a b) i)
    have h2 := mk_lt n ((fun a b => if a < i then g a b || (g a p && g p b) else g a b) p)
    rw [has_eq _ p (mk62 (by omega) _) (by omega), testBit_mk]
    refine Ev.some_bind ?_
    have row : (if i < i then g i p || (g i p && g p p) else g i p) = g i p := if_neg (by omega)
    have hrow : ∀ b, (if p < i then g p b || (g p p && g p b) else g p b) = g p b := fun b => by
      split
      · cases g p b <;> simp
      · rfl
    refine Ev.ite (fun c => ?_) (fun c => ?_)
    · have c' : g i p = true := by
        simp only [hp, decide_true, Bool.true_and] at c
        rw [← row]; exact c
      refine Ev.pos (by omega) (Ev.pos (by simp; omega) ?_)
      rw [rd_mat n _ p hp, b_or _ _ (mk62 (by omega) _) (mk62 (by omega) _), mk_or, w64' (by omega), Int.toNat_natCast, mat_row n _ i (by omega)]
      have e : mat n (fun a b => if a = i then ((if i < i then g i b || (g i p && g p b) else g i b) || if p < i then g p b || (g p p && g p b) else g p b) else if a < i then g a b || (g a p && g p b) else g a b) = mat n fun a b => if a < i + 1 then g a b || (g a p && g p b) else g a b := mat_congr fun a b ha hb => by
        by_cases e : a = i
        · subst e
          rw [if_pos rfl, hrow, if_neg (Nat.lt_irrefl a), if_pos (Nat.lt_succ_self a), c']
          simp
        · rw [if_neg e]
          by_cases e2 : a < i
          · rw [if_pos e2, if_pos (by omega)]
          · rw [if_neg e2, if_neg (by omega)]
      rw [e]
      exact i1
    · have c' : g i p = false := by
        simp only [hp, decide_true, Bool.true_and] at c
        rw [← row]; simpa using c
      rw [w64' (by omega)]
      have e : mat n (fun a b => if a < i then g a b || (g a p && g p b) else g a b) = mat n fun a b => if a < i + 1 then g a b || (g a p && g p b) else g a b := mat_congr fun a b ha hb => by
        by_cases e : a = i
        · subst e
          rw [if_neg (by omega), if_pos (by omega), c']
          simp
        · by_cases e2 : a < i
          · rw [if_pos e2, if_pos (by omega)]
          · rw [if_neg e2, if_neg (by omega)]
      rw [e]
      exact i1
theorem closure_l1 (n : Nat) (hn : n ≤ 24) (f : Nat → Nat → Bool) : ∀ (d p : Nat), p + d = n → Ev (fun k => impl_closure.l1 k (mat n (wsh f p)) (n : Int) (p : Int)) (mat n (clos n f)) := by
  intro d
  induction d with
  | zero =>
    intro p hp
    obtain rfl : p = n := by omega
    refine Ev.succ ?_
    simp only [impl_closure.l1]
    exact Ev.neg (by omega) (Ev.now _)
  | succ d ih =>
    intro p hp
    refine Ev.succ ?_
    simp only [impl_closure.l1]
    refine Ev.pos (by omega) ?_
    have := closure_l2 n hn (wsh f p) p (by omega) _ (ih (p + 1) (by omega)) n 0 (by omega)
    have e : mat n (fun a b => if a < 0 then wsh f p a b || (wsh f p a p && wsh f p p b) else wsh f p a b) = mat n (wsh f p) := mat_congr fun a b _ _ => if_neg (by omega)
    rw [e] at this
    rw [mat_length]
    exact this
theorem closure_ev (n : Nat) (hn : n ≤ 24) (f : Nat → Nat → Bool) : Ev (fun k => impl_closure.f k (mat n f)) (mat n (clos n f)) := by
  have h24 := pow_lt62 hn
  have loop : ∀ (d i : Nat), i + d = n → Ev (fun k => impl_closure.l0 k (mat n fun a b => (decide (a = b) && decide (a < i)) || f a b) (n : Int) (i : Int)) (mat n (clos n f)) := by
    intro d
    induction d with
    | zero =>
      intro i hi
      obtain rfl : i = n := by omega
      refine Ev.succ ?_
      simp only [impl_closure.l0]
      refine Ev.neg (by omega) ?_
      have := closure_l1 i hn f i 0 (by omega)
      have e : mat i (fun a b => (decide (a = b) && decide (a < i)) || f a b) = mat i (wsh f 0) := mat_congr fun a b ha _ => by simp [wsh, ha]
      rw [e, mat_length]
      exact this
    | succ d ih =>
      intro i hi
      have i1 := ih (i + 1) (by omega)
      have h1 := mk_lt n ((fun a b => (decide (a = b) && decide (a < i)) || f a b) i)
      have h2 : (2 : Nat) ^ i ≤ 2 ^ 24 := pow24 (by omega)
      refine Ev.succ ?_
      simp only [impl_closure.l0]
      refine Ev.pos (by omega) (Ev.pos (by omega) (Ev.pos (by simp; omega) ?_))
      rw [one_eq i (by omega), rd_mat n _ i (by omega)]
      refine Ev.some_bind ?_
      rw [b_or _ _ (mk62 (by omega) _) (two62 (by omega)), mk_or_one n _ i (by omega), w64' (by omega), Int.toNat_natCast, mat_row n _ i (by omega)]
      have e : mat n (fun a b => if a = i then (((decide (i = b) && decide (i < i)) || f i b) || decide (b = i)) else (decide (a = b) && decide (a < i)) || f a b) = mat n fun a b => (decide (a = b) && decide (a < i + 1)) || f a b := mat_congr fun a b ha hb => by
        by_cases e : a = i
        · subst e
          rw [if_pos rfl]
          by_cases e2 : a = b
          · subst e2; simp
          · simp [e2, show ¬ b = a from fun h => e2 h.symm]
        · rw [if_neg e]
          by_cases e2 : a < i
          · simp [e2, show a < i + 1 by omega]
          · simp [e2, show ¬ a < i + 1 by omega]
      rw [e]
      exact i1
  simp only [impl_closure.f]
  unfold slices_Clone_int64_int64.f
  rw [if_pos (by simp; omega)]
  refine Ev.some_bind ?_
  have := loop n 0 (by omega)
  have e : mat n (fun a b => (decide (a = b) && decide (a < 0)) || f a b) = mat n f := mat_congr fun a b _ _ => by simp
  rw [e] at this
  rw [mat_length]
  exact this
end Go.Proofs.YthgapkbkhoeleaaDoor.PAll
