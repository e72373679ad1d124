import Derived.Test.YtopdbfdagckfeaaDoorPAllx15
import Derived.Test.YtopdbfdagckfeaaDoorV0
import Derived.Test.YtopdbfdagckfeaaDoorV1
import Derived.Test.YtopdbfdagckfeaaDoorV2
import Derived.Test.YtopdbfdagckfeaaDoorQBase
import Derived.Test.YtopdbfdagckfeaaDoorQMask
import Derived.Test.YtopdbfdagckfeaaDoorQMeet
import Derived.Test.YtopdbfdagckfeaaDoorQTrace
set_option linter.unusedVariables false
set_option linter.unusedSimpArgs false
namespace Go.Proofs.YtopdbfdagckfeaaDoor.PAll
open Go.RowKit Go.Proofs.YtopdbfdagckfeaaDoorW.PrintWords Go.Proofs.YtopdbfdagckfeaaDoorW.PrintMore Go.Proofs.YtopdbfdagckfeaaDoor.Q
theorem l03Back_l0 (x : List Int) (hx : x.length ≤ 10000000) : ∀ (i : Nat) (acc : List Int), i ≤ x.length → acc.length + i ≤ 10000000 → Ev (fun k => spec_l03Back.l0 k x acc ((i : Int) - 1)) (acc ++ (x.take i).reverse) := by
  intro i
  induction i with
  | zero =>
    intro acc hi hl
    refine Ev.succ ?_
    simp only [spec_l03Back.l0]
    exact Ev.neg (by omega) (Ev.const (by simp))
  | succ i ih =>
    intro acc hi hl
    refine Ev.succ ?_
    simp only [spec_l03Back.l0]
    refine Ev.pos (by omega) (Ev.pos (by omega) (Ev.pos (by omega) (Ev.pos (by omega) ?_)))
    rw [w64' (by omega), show ((i + 1 : Nat) : Int) - 1 = (i : Int) by omega, rd_lt x i (by omega)]
    refine Ev.val (ih (acc ++ [x[i]]) (by omega) (by simp; omega)) ?_
    rw [List.take_succ_eq_append_getElem (by omega), List.reverse_append, List.append_assoc]
    rfl
theorem l03Back_all (x : List Int) (hx : x.length ≤ 10000000) : Ev (fun k => spec_l03Back.f k x) x.reverse := by
  simp only [spec_l03Back.f]
  rw [w64' (by omega)]
  have := l03Back_l0 x hx x.length [] (Nat.le_refl _) (by simpa using hx)
  refine Ev.val this ?_
  rw [List.nil_append, List.take_length]
theorem l03Back_ev (w : List Nat) (hl : w.length ≤ 10000000) : Ev (fun k => spec_l03Back.f k (ints w)) (ints w.reverse) := by
  simp only [spec_l03Back.f]
  rw [w64' (by simp; omega)]
  have := l03Back_l0 (ints w) (by simpa using hl) (ints w).length [] (Nat.le_refl _) (by simpa using hl)
  refine Ev.val this ?_
  rw [List.nil_append, List.take_length]
  simp [ints]
theorem FirstLetters_l0 (n : Nat) (hn : n ≤ 8) (f : Nat → Nat → Bool) (w : List Nat) (hl : w.length ≤ 1000000) (hw : ∀ x ∈ w, x < n) : ∀ (d a : Nat), a + d = n →
    Ev (fun k => spec_FirstLetters.l0 k (ints w) ((mk a (isFirst f w) : Nat) : Int) (a : Int) (n : Int) (mat n f)) (((mk n (isFirst f w) : Nat) : Int), 0) := by
  intro d
  induction d with
  | zero =>
    intro a ha
    obtain rfl : a = n := by omega
    refine Ev.succ ?_
    simp only [spec_FirstLetters.l0]
    exact Ev.neg (by omega) (Ev.const rfl)
  | succ d ih =>
    intro a ha
    have i1 := ih (a + 1) (by omega)
    refine Ev.succ ?_
    simp only [spec_FirstLetters.l0]
    refine Ev.pos (by omega) (Ev.bind (l03First_ev n (by omega) f w hl hw a (by omega)) ?_)
    by_cases h : isFirst f w a = true
    · refine Ev.pos (by unfold fIdx; rw [if_pos h]; omega) ?_
      have h1 := mk_lt a (isFirst f w)
      have h2 : (2 : Nat) ^ a ≤ 2 ^ 24 := pow24 (by omega)
      rw [l01One_eq a (by omega), w64' (by omega)]
      refine Ev.some_bind ?_
      rw [b_or _ _ (by omega) (by omega)]
      have e : mk (a + 1) (isFirst f w) = mk a (isFirst f w) ||| 2 ^ a := by simp [mk, h]
      rw [e] at i1
      exact i1
    · refine Ev.neg (by unfold fIdx; rw [if_neg h]; omega) ?_
      rw [w64' (by omega)]
      have e : mk (a + 1) (isFirst f w) = mk a (isFirst f w) := by simp [mk, h]
      rw [e] at i1
      exact i1
theorem Reverse_l0 : ∀ (d : Nat) (A M B : List Int), M.length ≤ d → (A ++ M ++ B).length ≤ 1000000 →
    Ev (fun k => slices_Reverse_int64_int64.l0 k (A ++ M ++ B) (A.length : Int) ((A.length : Int) + M.length - 1)) (A ++ M.reverse ++ B) := by
  intro d
  induction d using Nat.strongRecOn with
  | _ d ih =>
    intro A M B hd hl
    have hl' : A.length + M.length + B.length ≤ 1000000 := by simpa [Nat.add_assoc] using hl
    refine Ev.succ ?_
    simp only [slices_Reverse_int64_int64.l0]
    by_cases h2 : 2 ≤ M.length
    · obtain ⟨x, M1, rfl⟩ : ∃ x M1, M = x :: M1 := by
        cases M with
        | nil => simp at h2
        | cons x M1 => exact ⟨x, M1, rfl⟩
      have h1 : M1 ≠ [] := by rintro rfl; simp at h2
      obtain ⟨M2, y, rfl⟩ : ∃ M2 y, M1 = M2 ++ [y] := ⟨M1.dropLast, M1.getLast h1, (List.dropLast_concat_getLast h1).symm⟩
      simp only [List.length_cons, List.length_append, List.length_nil] at hd h2 hl'
      have e0 : A ++ x :: (M2 ++ [y]) ++ B = A ++ x :: (M2 ++ y :: B) := by simp
      have ei : (((x :: (M2 ++ [y])).length : Nat) : Int) = (M2.length : Int) + 2 := by simp; omega
      rw [ei, show (A.length : Int) + ((M2.length : Int) + 2) - 1 = ((A.length + 1 + M2.length : Nat) : Int) by omega, e0]
      have r1 : rd (A ++ x :: (M2 ++ y :: B)) (A.length : Int) = x := by rw [rd_lt _ _ (by simp)]; simp
      have r2 : rd (A ++ x :: (M2 ++ y :: B)) ((A.length + 1 + M2.length : Nat) : Int) = y := by
        rw [rd_lt _ _ (by simp; omega), List.getElem_append_right (by omega)]
        simp [show A.length + 1 + M2.length - A.length = M2.length + 1 by omega]
      refine Ev.pos (by omega) (Ev.pos (by omega) (Ev.pos (by simp; omega) (Ev.pos (by omega) (Ev.pos (by simp; omega) ?_))))
      rw [r1, r2, Int.toNat_natCast, Int.toNat_natCast, w64' (by omega), w64' (by omega)]
      have e1 : ((A ++ x :: (M2 ++ y :: B)).set A.length y).set (A.length + 1 + M2.length) x = (A ++ [y]) ++ M2 ++ ([x] ++ B) := by
        rw [List.set_append_right _ _ (Nat.le_refl _), Nat.sub_self, List.set_cons_zero, List.set_append_right _ _ (by omega), show A.length + 1 + M2.length - A.length = M2.length + 1 by omega, List.set_cons_succ, List.set_append_right _ _ (Nat.le_refl _), Nat.sub_self, List.set_cons_zero]
        simp
      rw [e1, show ((A.length : Int) + 1) = (((A ++ [y]).length : Nat) : Int) by simp, show ((A.length + 1 + M2.length : Nat) : Int) - 1 = (((A ++ [y]).length : Nat) : Int) + M2.length - 1 by simp <;> omega]
      refine Ev.val (ih M2.length (by omega) (A ++ [y]) M2 ([x] ++ B) (Nat.le_refl _) (by simp; omega)) ?_
      simp
    · refine Ev.neg (by omega) (Ev.const ?_)
      rcases M with _ | ⟨x, _ | ⟨y, M⟩⟩
      · rfl
      · rfl
      · simp at h2
theorem Reverse_ev (w : List Nat) (hl : w.length ≤ 1000000) : Ev (fun k => slices_Reverse_int64_int64.f k (ints w)) (ints w.reverse) := by
  simp only [slices_Reverse_int64_int64.f]
  rw [w64' (by simp; omega)]
  have := Reverse_l0 (ints w).length [] (ints w) [] (Nat.le_refl _) (by simpa using hl)
  simp only [List.nil_append, List.append_nil, List.length_nil] at this
  rw [show ((0 : Nat) : Int) + ((ints w).length : Int) - 1 = ((ints w).length : Int) - 1 by omega] at this
  refine Ev.val this ?_
  simp [ints]
theorem reversed_ev (w : List Nat) (hl : w.length ≤ 1000000) : Ev (fun k => impl_reversed.f k (ints w)) (ints w.reverse) := by
  simp only [impl_reversed.f]
  unfold slices_Clone_int64_int64.f
  rw [if_pos (by simp; omega)]
  exact Ev.some_bind (Ev.bind (Reverse_ev w hl) (Ev.now _))
end Go.Proofs.YtopdbfdagckfeaaDoor.PAll
