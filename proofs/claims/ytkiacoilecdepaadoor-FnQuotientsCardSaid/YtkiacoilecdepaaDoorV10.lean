import Derived.Test.YtkiacoilecdepaaDoorPAllx15
import Derived.Test.YtkiacoilecdepaaDoorPAllx9
import Derived.Test.YtkiacoilecdepaaDoorQBase
import Derived.Test.YtkiacoilecdepaaDoorQMeet
import Derived.Test.YtkiacoilecdepaaDoorQRev
import Derived.Test.YtkiacoilecdepaaDoorQTrace
import Derived.Test.YtkiacoilecdepaaDoorV0
set_option linter.unusedVariables false
set_option linter.unusedSimpArgs false
namespace Go.Proofs.YtkiacoilecdepaaDoor.PAll
open Go.RowKit Go.Proofs.YtkiacoilecdepaaDoorW.PrintWords Go.Proofs.YtkiacoilecdepaaDoorW.PrintMore Go.Proofs.YtkiacoilecdepaaDoor.Q
theorem Reverse_l0 : ∀ (d : Nat) (A M B : List Int), M.length ≤ d → (A ++ M ++ B).length ≤ 1000000 →
    Ev (fun k => slices_Reverse_int64_int64.l0 k (A ++ M ++ B) (A.length : Int) ((A.length : Int) + M.length - 1)) (A ++ M.reverse ++ B) := by
  intro d
  induction d using Nat.strongRecOn with
  | _ d ih =>
    intro A M B hd hl
    have hl' : A.length + M.length + B.length ≤ 1000000 := by simpa [Nat.add_assoc] using hl
    refine Ev.succ ?_
    simp only [slices_Reverse_int64_int64.l0]
    by_cases h2 : 2 ≤ M.length
    · obtain ⟨x, M1, rfl⟩ : ∃ x M1, M = x :: M1 := by
        cases M with
        | nil => simp at h2
        | cons x M1 => exact ⟨x, M1, rfl⟩
      have h1 : M1 ≠ [] := by rintro rfl; simp at h2
      obtain ⟨M2, y, rfl⟩ : ∃ M2 y, M1 = M2 ++ [y] := ⟨M1.dropLast, M1.getLast h1, (List.dropLast_concat_getLast h1).symm⟩
      simp only [List.length_cons, List.length_append, List.length_nil] at hd h2 hl'
      have e0 : A ++ x :: (M2 ++ [y]) ++ B = A ++ x :: (M2 ++ y :: B) := by simp
      have ei : (((x :: (M2 ++ [y])).length : Nat) : Int) = (M2.length : Int) + 2 := by simp; omega
      rw [ei, show (A.length : Int) + ((M2.length : Int) + 2) - 1 = ((A.length + 1 + M2.length : Nat) : Int) by omega, e0]
      have r1 : rd (A ++ x :: (M2 ++ y :: B)) (A.length : Int) = x := by rw [rd_lt _ _ (by simp)]; simp
      have r2 : rd (A ++ x :: (M2 ++ y :: B)) ((A.length + 1 + M2.length : Nat) : Int) = y := by
        rw [rd_lt _ _ (by simp; omega), List.getElem_append_right (by omega)]
        simp [show A.length + 1 + M2.length - A.length = M2.length + 1 by omega]
      refine Ev.pos (by omega) (Ev.pos (by omega) (Ev.pos (by simp; omega) (Ev.pos (by omega) (Ev.pos (by simp; omega) ?_))))
      rw [r1, r2, Int.toNat_natCast, Int.toNat_natCast, w64' (by omega), w64' (by omega)]
      have e1 : ((A ++ x :: (M2 ++ y :: B)).set A.length y).set (A.length + 1 + M2.length) x = (A ++ [y]) ++ M2 ++ ([x] ++ B) := by
        rw [List.set_append_right _ _ (Nat.le_refl _), Nat.sub_self, List.set_cons_zero, List.set_append_right _ _ (by omega), show A.length + 1 + M2.length - A.length = M2.length + 1 by omega, List.set_cons_succ, List.set_append_right _ _ (Nat.le_refl _), Nat.sub_self, List.set_cons_zero]
        simp
      rw [e1, show ((A.length : Int) + 1) = (((A ++ [y]).length : Nat) : Int) by simp, show ((A.length + 1 + M2.length : Nat) : Int) - 1 = (((A ++ [y]).length : Nat) : Int) + M2.length - 1 by simp <;> omega]
      refine Ev.val (ih M2.length (by omega) (A ++ [y]) M2 ([x] ++ B) (Nat.le_refl _) (by simp; omega)) ?_
      simp
    · refine Ev.neg (by omega) (Ev.const ?_)
      rcases M with _ | ⟨x, _ | ⟨y, M⟩⟩
      · rfl
      · rfl
      · simp at h2
theorem Reverse_ev (w : List Nat) (hl : w.length ≤ 1000000) : Ev (fun k => slices_Reverse_int64_int64.f k (ints w)) (ints w.reverse) := by
  simp only [slices_Reverse_int64_int64.f]
  rw [w64' (by simp; omega)]
  have := Reverse_l0 (ints w).length [] (ints w) [] (Nat.le_refl _) (by simpa using hl)
  simp only [List.nil_append, List.append_nil, List.length_nil] at this
  rw [show ((0 : Nat) : Int) + ((ints w).length : Int) - 1 = ((ints w).length : Int) - 1 by omega] at this
  refine Ev.val this ?_
  simp [ints]
theorem reversed_ev (w : List Nat) (hl : w.length ≤ 1000000) : Ev (fun k => impl_reversed.f k (ints w)) (ints w.reverse) := by
  simp only [impl_reversed.f]
  unfold slices_Clone_int64_int64.f
  rw [if_pos (by simp; omega)]
  exact Ev.some_bind (Ev.bind (Reverse_ev w hl) (Ev.now _))
end Go.Proofs.YtkiacoilecdepaaDoor.PAll
