import Derived.Test.YtcigmfmlgaiklaaDoorPAllx23
import Derived.Test.YtcigmfmlgaiklaaDoorPAllx4
import Derived.Test.YtcigmfmlgaiklaaDoorV0
import Derived.Test.YtcigmfmlgaiklaaDoorV1
import Derived.Test.YtcigmfmlgaiklaaDoorQBase
import Derived.Test.YtcigmfmlgaiklaaDoorQMeet
import Derived.Test.YtcigmfmlgaiklaaDoorQTrace
set_option linter.unusedVariables false
set_option linter.unusedSimpArgs false
namespace Go.Proofs.YtcigmfmlgaiklaaDoor.PAll
open Go.RowKit Go.Proofs.YtcigmfmlgaiklaaDoorW.PrintWords Go.Proofs.YtcigmfmlgaiklaaDoorW.PrintMore Go.Proofs.YtcigmfmlgaiklaaDoor.Q
theorem l05Cut_l0 (n : Nat) (hn : n ≤ 24) (f : Nat → Nat → Bool) : ∀ (u pre v : List Nat), (pre ++ u).length ≤ 1000000 → v.length ≤ 1000000 → (∀ x ∈ u, x < n) → (∀ x ∈ v, x < n) →
    Ev (fun k => spec_l05Cut.l0 k (ints (pre ++ u)) (ints v) (pre.length : Int) (n : Int) (mat n f)) (cutR f u v) := by
  intro u
  induction u with
  | nil =>
    intro pre v hl hv hu hw
    refine Ev.succ ?_
    simp only [spec_l05Cut.l0]
    exact Ev.neg (by simp) (Ev.const rfl)
  | cons a u ih =>
    intro pre v hl hv hu hw
    simp only [List.length_append, List.length_cons] at hl
    have ha : a < n := hu a (by simp)
    refine Ev.succ ?_
    simp only [spec_l05Cut.l0]
    refine Ev.pos (by simp; omega) (Ev.pos (by omega) ?_)
    rw [rd_mid]
    refine Ev.bind (l03First_ev n hn f v hv hw a ha) ?_
    by_cases h : isFirst f v a = true
    · refine Ev.neg (by unfold fIdx; rw [if_pos h]; omega) ?_
      rw [l03Without_first f v hv a h, w64' (by omega)]
      refine Ev.some_bind ?_
      have := ih (pre ++ [a]) (v.erase a) (by simp; omega) (by have := length_erase f h; omega) (fun x hx => hu x (by simp [hx])) (erase_lt hw)
      simp only [List.append_assoc, List.cons_append, List.nil_append, List.length_append, List.length_cons, List.length_nil] at this
      refine Ev.val this ?_
      unfold cutR
      rw [cutP_cons, if_pos h]
    · refine Ev.pos (by unfold fIdx; rw [if_neg h]; omega) (Ev.const ?_)
      unfold cutR
      rw [cutP_cons, if_neg h]
theorem l05Cut_ev (n : Nat) (hn : n ≤ 24) (f : Nat → Nat → Bool) (u v : List Nat) (hl : u.length ≤ 1000000) (hv : v.length ≤ 1000000) (hu : ∀ x ∈ u, x < n) (hw : ∀ x ∈ v, x < n) : Ev (fun k => spec_l05Cut.f k (n : Int) (mat n f) (ints u) (ints v)) (cutR f u v) := by
  simp only [spec_l05Cut.f]
  rw [l01Own_eq _ (by simp; omega)]
  exact Ev.some_bind (l05Cut_l0 n hn f u [] v hl hv hu hw)
theorem l03Back_l0 (x : List Int) (hx : x.length ≤ 10000000) : ∀ (i : Nat) (acc : List Int), i ≤ x.length → acc.length + i ≤ 10000000 → Ev (fun k => spec_l03Back.l0 k x acc ((i : Int) - 1)) (acc ++ (x.take i).reverse) := by
  intro i
  induction i with
  | zero =>
    intro acc hi hl
    refine Ev.succ ?_
    simp only [spec_l03Back.l0]
    exact Ev.neg (by omega) (Ev.const (by simp))
  | succ i ih =>
    intro acc hi hl
    refine Ev.succ ?_
    simp only [spec_l03Back.l0]
    refine Ev.pos (by omega) (Ev.pos (by omega) (Ev.pos (by omega) (Ev.pos (by omega) ?_)))
    rw [w64' (by omega), show ((i + 1 : Nat) : Int) - 1 = (i : Int) by omega, rd_lt x i (by omega)]
    refine Ev.val (ih (acc ++ [x[i]]) (by omega) (by simp; omega)) ?_
    rw [List.take_succ_eq_append_getElem (by omega), List.reverse_append, List.append_assoc]
    rfl
theorem l03Back_all (x : List Int) (hx : x.length ≤ 10000000) : Ev (fun k => spec_l03Back.f k x) x.reverse := by
  simp only [spec_l03Back.f]
  rw [w64' (by omega)]
  have := l03Back_l0 x hx x.length [] (Nat.le_refl _) (by simpa using hx)
  refine Ev.val this ?_
  rw [List.nil_append, List.take_length]
theorem l03Back_ev (w : List Nat) (hl : w.length ≤ 10000000) : Ev (fun k => spec_l03Back.f k (ints w)) (ints w.reverse) := by
  simp only [spec_l03Back.f]
  rw [w64' (by simp; omega)]
  have := l03Back_l0 (ints w) (by simpa using hl) (ints w).length [] (Nat.le_refl _) (by simpa using hl)
  refine Ev.val this ?_
  rw [List.nil_append, List.take_length]
  simp [ints]
theorem quotient_l0 (n : Nat) (hn : n ≤ 8) (f : Nat → Nat → Bool) : ∀ (u pre v : List Nat), (pre ++ u).length ≤ 1000000 → v.length ≤ 1000000 → (∀ x ∈ u, x < n) → (∀ x ∈ v, x < n) →
    Ev (fun k => impl_ties_quotient.l0 k (mat n f) (ints v) (ints (pre ++ u)) ((pre ++ u).length : Int) (pre.length : Int)) (cutR f u v) := by
  intro u
  induction u with
  | nil =>
    intro pre v hl hv hu hw
    refine Ev.succ ?_
    simp only [impl_ties_quotient.l0]
    exact Ev.neg (by simp) (Ev.const rfl)
  | cons a u ih =>
    intro pre v hl hv hu hw
    have hl' : pre.length + u.length + 1 ≤ 1000000 := by simpa [Nat.add_assoc] using hl
    have ha : a < n := hu a (by simp)
    have h4 := mk_lt n (isFirst f v)
    have h5 : (2 : Nat) ^ n ≤ 2 ^ 24 := pow24 (by omega)
    refine Ev.succ ?_
    simp only [impl_ties_quotient.l0]
    refine Ev.pos (by simp; omega) (Ev.pos (by omega) (Ev.pos (by simp; omega) (Ev.bind (firsts_ev n hn f v hv hw) ?_)))
    rw [rd_mid, has_eq _ a (by omega) (by omega), testBit_mk]
    refine Ev.some_bind ?_
    by_cases h : isFirst f v a = true
    · refine Ev.pos (by simp [ha, h]) (Ev.bind (withoutFirst_ev v hv a (isFirst_mem f h)) ?_)
      rw [w64' (by omega)]
      have := ih (pre ++ [a]) (v.erase a) (by simpa using hl) (by have := length_erase f h; omega) (fun x hx => hu x (by simp [hx])) (erase_lt hw)
      simp only [List.append_assoc, List.cons_append, List.nil_append] at this
      rw [show (pre ++ [a]).length = pre.length + 1 by simp] at this
      refine Ev.val this ?_
      unfold cutR
      rw [cutP_cons, if_pos h]
    · refine Ev.neg (by simp [h]) (Ev.const ?_)
      unfold cutR
      rw [cutP_cons, if_neg h]
theorem quotient_ev (n : Nat) (hn : n ≤ 8) (f : Nat → Nat → Bool) (u v : List Nat) (hl : u.length ≤ 1000000) (hv : v.length ≤ 1000000) (hu : ∀ x ∈ u, x < n) (hw : ∀ x ∈ v, x < n) : Ev (fun k => impl_ties_quotient.f k (mat n f) (ints u) (ints v)) (cutR f u v) := by
  simp only [impl_ties_quotient.f]
  have := quotient_l0 n hn f u [] v hl hv hu hw
  simpa using this
theorem Reverse_l0 : ∀ (d : Nat) (A M B : List Int), M.length ≤ d → (A ++ M ++ B).length ≤ 1000000 →
    Ev (fun k => slices_Reverse_int64_int64.l0 k (A ++ M ++ B) (A.length : Int) ((A.length : Int) + M.length - 1)) (A ++ M.reverse ++ B) := by
  intro d
  induction d using Nat.strongRecOn with
  | _ d ih =>
    intro A M B hd hl
    have hl' : A.length + M.length + B.length ≤ 1000000 := by simpa [Nat.add_assoc] using hl
    refine Ev.succ ?_
    simp only [slices_Reverse_int64_int64.l0]
    by_cases h2 : 2 ≤ M.length
    · obtain ⟨x, M1, rfl⟩ : ∃ x M1, M = x :: M1 := by
        cases M with
        | nil => simp at h2
        | cons x M1 => exact ⟨x, M1, rfl⟩
      have h1 : M1 ≠ [] := by rintro rfl; simp at h2
      obtain ⟨M2, y, rfl⟩ : ∃ M2 y, M1 = M2 ++ [y] := ⟨M1.dropLast, M1.getLast h1, (List.dropLast_concat_getLast h1).symm⟩
      simp only [List.length_cons, List.length_append, List.length_nil] at hd h2 hl'
      have e0 : A ++ x :: (M2 ++ [y]) ++ B = A ++ x :: (M2 ++ y :: B) := by simp
      have ei : (((x :: (M2 ++ [y])).length : Nat) : Int) = (M2.length : Int) + 2 := by simp; omega
      rw [ei, show (A.length : Int) + ((M2.length : Int) + 2) - 1 = ((A.length + 1 + M2.length : Nat) : Int) by omega, e0]
      have r1 : rd (A ++ x :: (M2 ++ y :: B)) (A.length : Int) = x := by rw [rd_lt _ _ (by simp)]; simp
      have r2 : rd (A ++ x :: (M2 ++ y :: B)) ((A.length + 1 + M2.length : Nat) : Int) = y := by
        rw [rd_lt _ _ (by simp; omega), List.getElem_append_right (by omega)]
        simp [show A.length + 1 + M2.length - A.length = M2.length + 1 by omega]
      refine Ev.pos (by omega) (Ev.pos (by omega) (Ev.pos (by simp; omega) (Ev.pos (by omega) (Ev.pos (by simp; omega) ?_))))
      rw [r1, r2, Int.toNat_natCast, Int.toNat_natCast, w64' (by omega), w64' (by omega)]
      have e1 : ((A ++ x :: (M2 ++ y :: B)).set A.length y).set (A.length + 1 + M2.length) x = (A ++ [y]) ++ M2 ++ ([x] ++ B) := by
        rw [List.set_append_right _ _ (Nat.le_refl _), Nat.sub_self, List.set_cons_zero, List.set_append_right _ _ (by omega), show A.length + 1 + M2.length - A.length = M2.length + 1 by omega, List.set_cons_succ, List.set_append_right _ _ (Nat.le_refl _), Nat.sub_self, List.set_cons_zero]
        simp
      rw [e1, show ((A.length : Int) + 1) = (((A ++ [y]).length : Nat) : Int) by simp, show ((A.length + 1 + M2.length : Nat) : Int) - 1 = (((A ++ [y]).length : Nat) : Int) + M2.length - 1 by simp <;> omega]
      refine Ev.val (ih M2.length (by omega) (A ++ [y]) M2 ([x] ++ B) (Nat.le_refl _) (by simp; omega)) ?_
      simp
    · refine Ev.neg (by omega) (Ev.const ?_)
      rcases M with _ | ⟨x, _ | ⟨y, M⟩⟩
      · rfl
      · rfl
      · simp at h2
theorem Reverse_ev (w : List Nat) (hl : w.length ≤ 1000000) : Ev (fun k => slices_Reverse_int64_int64.f k (ints w)) (ints w.reverse) := by
  simp only [slices_Reverse_int64_int64.f]
  rw [w64' (by simp; omega)]
  have := Reverse_l0 (ints w).length [] (ints w) [] (Nat.le_refl _) (by simpa using hl)
  simp only [List.nil_append, List.append_nil, List.length_nil] at this
  rw [show ((0 : Nat) : Int) + ((ints w).length : Int) - 1 = ((ints w).length : Int) - 1 by omega] at this
  refine Ev.val this ?_
  simp [ints]
theorem reversed_ev (w : List Nat) (hl : w.length ≤ 1000000) : Ev (fun k => impl_reversed.f k (ints w)) (ints w.reverse) := by
  simp only [impl_reversed.f]
  unfold slices_Clone_int64_int64.f
  rw [if_pos (by simp; omega)]
  exact Ev.some_bind (Ev.bind (Reverse_ev w hl) (Ev.now _))
end Go.Proofs.YtcigmfmlgaiklaaDoor.PAll
