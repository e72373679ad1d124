import Derived.Test.YtfnnnopbcdiibaaDoorPAllx8
import Derived.Test.YtfnnnopbcdiibaaDoorV0
import Derived.Test.YtfnnnopbcdiibaaDoorV2
import Derived.Test.YtfnnnopbcdiibaaDoorV3
import Derived.Test.YtfnnnopbcdiibaaDoorQBase
import Derived.Test.YtfnnnopbcdiibaaDoorQMeet
import Derived.Test.YtfnnnopbcdiibaaDoorQRev
import Derived.Test.YtfnnnopbcdiibaaDoorQTrace
set_option linter.unusedVariables false
set_option linter.unusedSimpArgs false
namespace Go.Proofs.YtfnnnopbcdiibaaDoor.PAll
open Go.RowKit Go.Proofs.YtfnnnopbcdiibaaDoorW.PrintWords Go.Proofs.YtfnnnopbcdiibaaDoorW.PrintMore Go.Proofs.YtfnnnopbcdiibaaDoor.Q
theorem l03Same_l0 (n : Nat) (hn : n ≤ 24) (f : Nat → Nat → Bool) : ∀ (u pre v : List Nat), (pre ++ u).length ≤ 1000000 → v.length ≤ 1000000 → (∀ x ∈ u, x < n) → (∀ x ∈ v, x < n) →
    Ev (fun k => spec_l03Same.l0 k (ints (pre ++ u)) (ints v) (pre.length : Int) (n : Int) (mat n f)) (decide (TrEq f u v)) := by
  intro u
  induction u with
  | nil =>
    intro pre v hl hv hu hw
    refine Ev.succ ?_
    simp only [spec_l03Same.l0]
    refine Ev.neg (by simp) (Ev.const ?_)
    congr 1
    rw [Bool.eq_iff_iff]
    simp only [beq_iff_eq, decide_eq_true_eq, TrEq.nil_iff, ints_length]
    constructor
    · intro h; exact List.eq_nil_of_length_eq_zero (by omega)
    · rintro rfl; rfl
  | cons a u ih =>
    intro pre v hl hv hu hw
    simp only [List.length_append, List.length_cons] at hl
    have ha : a < n := hu a (by simp)
    refine Ev.succ ?_
    simp only [spec_l03Same.l0]
    refine Ev.pos (by simp; omega) (Ev.pos (by omega) ?_)
    rw [rd_mid]
    refine Ev.bind (l03First_ev n hn f v hv hw a ha) ?_
    by_cases h : isFirst f v a = true
    · refine Ev.neg (by unfold fIdx; rw [if_pos h]; omega) ?_
      rw [l03Without_first f v hv a h, w64' (by omega)]
      refine Ev.some_bind ?_
      have := ih (pre ++ [a]) (v.erase a) (by simp; omega) (by have := length_erase f h; omega) (fun x hx => hu x (by simp [hx])) (erase_lt hw)
      simp only [List.append_assoc, List.cons_append, List.nil_append, List.length_append, List.length_cons, List.length_nil] at this
      refine Ev.val this ?_
      rw [decide_eq_decide, TrEq.cons_iff]
      simp [h]
    · refine Ev.pos (by unfold fIdx; rw [if_neg h]; omega) (Ev.const ?_)
      rw [decide_eq_false]
      rw [TrEq.cons_iff]
      exact fun e => h e.1
theorem l03Same_ev (n : Nat) (hn : n ≤ 24) (f : Nat → Nat → Bool) (u v : List Nat) (hl : u.length ≤ 1000000) (hv : v.length ≤ 1000000) (hu : ∀ x ∈ u, x < n) (hw : ∀ x ∈ v, x < n) : Ev (fun k => spec_l03Same.f k (n : Int) (mat n f) (ints u) (ints v)) (decide (TrEq f u v)) := by
  simp only [spec_l03Same.f]
  rw [l01Own_eq _ (by simp; omega)]
  exact Ev.some_bind (l03Same_l0 n hn f u [] v hl hv hu hw)
theorem Equal_ev (u v : List Int) (hl : u.length ≤ 1000000) : Ev (fun k => slices_Equal_int64_int64.f k u v) (decide (u = v)) := by
  simp only [slices_Equal_int64_int64.f]
  refine Ev.ite (fun c => ?_) (fun c => ?_)
  · have hlen : u.length = v.length := by omega
    have loop : ∀ (d i : Nat), i + d = u.length → Ev (fun k => slices_Equal_int64_int64.l0 k u v (u.length : Int) (i : Int)) (decide (u.drop i = v.drop i)) := by
      intro d
      induction d with
      | zero =>
        intro i hi
        refine Ev.succ ?_
        simp only [slices_Equal_int64_int64.l0]
        refine Ev.neg (by omega) (Ev.const ?_)
        rw [List.drop_of_length_le (by omega), List.drop_of_length_le (by omega)]
        simp
      | succ d ih =>
        intro i hi
        refine Ev.succ ?_
        simp only [slices_Equal_int64_int64.l0]
        refine Ev.pos (by omega) (Ev.pos (by omega) (Ev.pos (by omega) (Ev.pos (by omega) ?_)))
        rw [rd_lt u i (by omega), rd_lt v i (by omega), List.drop_eq_getElem_cons (show i < u.length by omega), List.drop_eq_getElem_cons (show i < v.length by omega)]
        refine Ev.ite (fun g => ?_) (fun g => ?_)
        · rw [w64' (by omega)]
          refine Ev.val (ih (i + 1) (by omega)) ?_
          rw [decide_eq_decide, List.cons.injEq]
          simp [g]
        · refine Ev.const ?_
          rw [decide_eq_false]
          rw [List.cons.injEq]
          exact fun h => g h.1
    exact loop u.length 0 (by omega)
  · refine Ev.const ?_
    rw [decide_eq_false]
    rintro rfl
    exact c rfl
theorem same_ev (n : Nat) (hn : n ≤ 8) (f : Nat → Nat → Bool) (hs : ∀ a b, f a b = f b a) (u v : List Nat) (hl : u.length ≤ 1000000) (hl2 : v.length ≤ 1000000) (hu : ∀ x ∈ u, x < n) (hw : ∀ x ∈ v, x < n) : Ev (fun k => impl_ties_same.f k (mat n f) (ints u) (ints v)) (decide (TrEq f u v)) := by
  simp only [impl_ties_same.f]
  refine Ev.bind (normal_ev n hn f u hl hu) (Ev.bind (normal_ev n hn f v hl2 hw) (Ev.bind (Equal_ev _ _ (by rw [ints_length, normalP_length f hs hu]; exact hl)) (Ev.const ?_)))
  congr 1
  rw [decide_eq_decide, ← normalP_eq_iff f hs _ u v rfl hu hw]
  exact ⟨ints_inj, fun h => by rw [h]⟩
end Go.Proofs.YtfnnnopbcdiibaaDoor.PAll
