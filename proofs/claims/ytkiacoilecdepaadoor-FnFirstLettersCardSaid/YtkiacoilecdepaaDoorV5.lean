import Derived.Test.YtkiacoilecdepaaDoorPAllx3
import Derived.Test.YtkiacoilecdepaaDoorPAllx5
import Derived.Test.YtkiacoilecdepaaDoorPAllx8
import Derived.Test.YtkiacoilecdepaaDoorV0
import Derived.Test.YtkiacoilecdepaaDoorV1
import Derived.Test.YtkiacoilecdepaaDoorQBase
import Derived.Test.YtkiacoilecdepaaDoorQFoata
import Derived.Test.YtkiacoilecdepaaDoorQMask
import Derived.Test.YtkiacoilecdepaaDoorQMeet
import Derived.Test.YtkiacoilecdepaaDoorQRev
import Derived.Test.YtkiacoilecdepaaDoorQTrace
set_option linter.unusedVariables false
set_option linter.unusedSimpArgs false
namespace Go.Proofs.YtkiacoilecdepaaDoor.PAll
open Go.RowKit Go.Proofs.YtkiacoilecdepaaDoorW.PrintWords Go.Proofs.YtkiacoilecdepaaDoorW.PrintMore Go.Proofs.YtkiacoilecdepaaDoor.Q
theorem foata_ev (n : Nat) (hn : n ≤ 8) (f : Nat → Nat → Bool) (hs : ∀ a b, f a b = f b a) (w : List Nat) (hl : w.length ≤ 10000) (hw : ∀ x ∈ w, x < n) : Ev (fun k => impl_ties_foata.f k (mat n f) (ints w)) (ints (foataP f w)) := by
  simp only [impl_ties_foata.f]
  have outer : ∀ (d i : Nat), i + d = w.length → Ev (fun k => impl_ties_foata.l0 k (mat n f) (ints (stp f w i)) (ints w) (w.length : Int) (i : Int)) (ints (foataP f w)) := by
    intro d
    induction d with
    | zero =>
      intro i hi
      refine Ev.succ ?_
      simp only [impl_ties_foata.l0]
      refine Ev.neg (by omega) (Ev.const ?_)
      rw [foataP, show i = w.length by omega]
    | succ d ih =>
      intro i hi
      refine Ev.succ ?_
      simp only [impl_ties_foata.l0]
      refine Ev.pos (by omega) (Ev.pos (by omega) (Ev.pos (by simp; omega) ?_))
      have hx := getD_lt hw (show i < w.length by omega)
      have hlen := stp_length_le f w i
      have hbd := stp_lt f w n hw i (by omega)
      have hstp : stp f w (i + 1) = stepF (stp f w i) (hPart f w (hts f w i) i i) (w.getD i 0) := by simp only [stp]; rw [hts_last]
      have seen := height_seen f w hs n hw i (by omega)
      have ih' := ih (i + 1) (by omega)
      have h1 : (2 : Nat) ^ n ≤ 2 ^ 24 := pow24 (by omega)
      have h2 : (2 : Nat) ^ (w.getD i 0) ≤ 2 ^ 24 := pow24 (by omega)
      have hm := mk_lt n (f (w.getD i 0))
      rw [rd_getD]
      -- from place l on nothing meets; what follows at l
      have fin : ∀ l, l ≤ (stp f w i).length → hPart f w (hts f w i) i i = l + 1 → Ev (fun k => if (l : Int) = ((ints (stp f w i)).length : Int) then (if (ints (stp f w i)).length < 17592186044416 then ((some (ints (stp f w i) ++ [0] : List Int)).bind fun y => (if 0 ≤ (l : Int) then (if (l : Int) < (y.length : Int) then ((impl_one.f ((w.getD i 0 : Nat) : Int)).bind fun t => (impl_ties_foata.l0 k (mat n f) (y.set ((l : Int) : Int).toNat (Go.bits .or .i64 (rd y (l : Int)) t)) (ints w) (w.length : Int) (wrap64 ((i : Int) + 1)))) else none) else none)) else none) else (if 0 ≤ (l : Int) then (if (l : Int) < ((ints (stp f w i)).length : Int) then ((impl_one.f ((w.getD i 0 : Nat) : Int)).bind fun t => (impl_ties_foata.l0 k (mat n f) ((ints (stp f w i)).set ((l : Int) : Int).toNat (Go.bits .or .i64 (rd (ints (stp f w i)) (l : Int)) t)) (ints w) (w.length : Int) (wrap64 ((i : Int) + 1)))) else none) else none)) (ints (foataP f w)) := by
        intro l hl hh
        rw [hstp, hh] at ih'
        simp only [stepF, Nat.add_sub_cancel] at ih'
        rw [one_eq _ (by omega)]
        refine Ev.ite (fun c => ?_) (fun c => ?_)
        · have el : l = (stp f w i).length := by rw [ints_length] at c; omega
          refine Ev.pos (by simp; omega) (Ev.some_bind (Ev.pos (by omega) (Ev.pos (by simp; omega) (Ev.some_bind ?_))))
          have e0 : ints (stp f w i) ++ [0] = ints (stp f w i ++ [0]) := by rw [ints_append]; rfl
          rw [e0, rd_getD, w64' (by omega), Int.toNat_natCast]
          have hz : (stp f w i ++ [0]).getD l 0 = 0 := by subst el; simp [List.getD_eq_getElem?_getD]
          rw [hz, b_or _ _ (by decide) (by omega), show (ints (stp f w i ++ [0])).set l (((0 ||| 2 ^ (w.getD i 0) : Nat)) : Int) = ints ((stp f w i ++ [0]).set l (0 ||| 2 ^ (w.getD i 0))) by simp [ints, List.map_set]]
          rw [show l + 1 - (stp f w i).length = 1 by omega, show List.replicate 1 0 = [0] from rfl, hz] at ih'
          exact ih'
        · have el : l < (stp f w i).length := by
            rw [ints_length] at c; omega
          refine Ev.pos (by omega) (Ev.pos (by simp; omega) (Ev.some_bind ?_))
          have hb := hbd l
          rw [rd_getD, w64' (by omega), Int.toNat_natCast, b_or _ _ (by omega) (by omega), show (ints (stp f w i)).set l ((((stp f w i).getD l 0 ||| 2 ^ (w.getD i 0) : Nat)) : Int) = ints ((stp f w i).set l ((stp f w i).getD l 0 ||| 2 ^ (w.getD i 0))) by simp [ints, List.map_set]]
          rw [show l + 1 - (stp f w i).length = 0 by omega, List.replicate_zero, List.append_nil] at ih'
          exact ih'
      have inner : ∀ l, l ≤ (stp f w i).length → (∀ s, l ≤ s → s < (stp f w i).length → (stp f w i).getD s 0 &&& mk n (f (w.getD i 0)) = 0) → Ev (fun k => impl_ties_foata.l1 k (mat n f) (ints (stp f w i)) ((w.getD i 0 : Nat) : Int) (l : Int) (ints w) (w.length : Int) (i : Int)) (ints (foataP f w)) := by
        intro l
        induction l with
        | zero =>
          intro hl hz
          refine Ev.succ ?_
          simp only [impl_ties_foata.l1]
          refine Ev.neg (by omega) ?_
          exact fin 0 hl (seen 0 hl (.inl rfl) hz)
        | succ l ihl =>
          intro hl hz
          refine Ev.succ ?_
          simp only [impl_ties_foata.l1]
          have e1 : wrap64 (((l + 1 : Nat) : Int) - 1) = (l : Int) := (w64' (by omega)).trans (by omega)
          rw [e1]
          refine Ev.pos (by omega) (Ev.pos (by omega) (Ev.pos (by rw [ints_length]; omega) (Ev.pos (by omega) (Ev.pos (by rw [mat_length]; omega) ?_))))
          have hb := hbd l
          rw [rd_getD (stp f w i) l, rd_mat n f _ hx, b_and _ _ (by omega) (by omega)]
          refine Ev.ite (fun c => ?_) (fun c => ?_)
          · refine ihl (by omega) (fun s h3 h4 => ?_)
            by_cases e : s = l
            · subst e; exact Int.ofNat.inj c
            · exact hz s (by omega) h4
          · exact fin (l + 1) hl (seen (l + 1) hl (.inr (fun h => c (by rw [Nat.add_sub_cancel] at h; rw [h]; rfl))) hz)
      have := inner (stp f w i).length (Nat.le_refl _) (by intro s h3 h4; omega)
      rw [← ints_length (stp f w i)] at this
      exact this
  have := outer w.length 0 (by omega)
  rw [ints_length]
  exact this
theorem FirstLetters_l0 (n : Nat) (hn : n ≤ 8) (f : Nat → Nat → Bool) (w : List Nat) (hl : w.length ≤ 1000000) (hw : ∀ x ∈ w, x < n) : ∀ (d a : Nat), a + d = n →
    Ev (fun k => spec_FirstLetters.l0 k (ints w) ((mk a (isFirst f w) : Nat) : Int) (a : Int) (n : Int) (mat n f)) (((mk n (isFirst f w) : Nat) : Int), 0) := by
  intro d
  induction d with
  | zero =>
    intro a ha
    obtain rfl : a = n := by omega
    refine Ev.succ ?_
    simp only [spec_FirstLetters.l0]
    exact Ev.neg (by omega) (Ev.const rfl)
  | succ d ih =>
    intro a ha
    have i1 := ih (a + 1) (by omega)
    refine Ev.succ ?_
    simp only [spec_FirstLetters.l0]
    refine Ev.pos (by omega) (Ev.bind (l03First_ev n (by omega) f w hl hw a (by omega)) ?_)
    by_cases h : isFirst f w a = true
    · refine Ev.pos (by unfold fIdx; rw [if_pos h]; omega) ?_
      have h1 := mk_lt a (isFirst f w)
      have h2 : (2 : Nat) ^ a ≤ 2 ^ 24 := pow24 (by omega)
      rw [l01One_eq a (by omega), w64' (by omega)]
      refine Ev.some_bind ?_
      rw [b_or _ _ (by omega) (by omega)]
      have e : mk (a + 1) (isFirst f w) = mk a (isFirst f w) ||| 2 ^ a := by simp [mk, h]
      rw [e] at i1
      exact i1
    · refine Ev.neg (by unfold fIdx; rw [if_neg h]; omega) ?_
      rw [w64' (by omega)]
      have e : mk (a + 1) (isFirst f w) = mk a (isFirst f w) := by simp [mk, h]
      rw [e] at i1
      exact i1
theorem Reverse_l0 : ∀ (d : Nat) (A M B : List Int), M.length ≤ d → (A ++ M ++ B).length ≤ 1000000 →
    Ev (fun k => slices_Reverse_int64_int64.l0 k (A ++ M ++ B) (A.length : Int) ((A.length : Int) + M.length - 1)) (A ++ M.reverse ++ B) := by
  intro d
  induction d using Nat.strongRecOn with
  | _ d ih =>
    intro A M B hd hl
    have hl' : A.length + M.length + B.length ≤ 1000000 := by simpa [Nat.add_assoc] using hl
    refine Ev.succ ?_
    simp only [slices_Reverse_int64_int64.l0]
    by_cases h2 : 2 ≤ M.length
    · obtain ⟨x, M1, rfl⟩ : ∃ x M1, M = x :: M1 := by
        cases M with
        | nil => simp at h2
        | cons x M1 => exact ⟨x, M1, rfl⟩
      have h1 : M1 ≠ [] := by rintro rfl; simp at h2
      obtain ⟨M2, y, rfl⟩ : ∃ M2 y, M1 = M2 ++ [y] := ⟨M1.dropLast, M1.getLast h1, (List.dropLast_concat_getLast h1).symm⟩
      simp only [List.length_cons, List.length_append, List.length_nil] at hd h2 hl'
      have e0 : A ++ x :: (M2 ++ [y]) ++ B = A ++ x :: (M2 ++ y :: B) := by simp
      have ei : (((x :: (M2 ++ [y])).length : Nat) : Int) = (M2.length : Int) + 2 := by simp; omega
      rw [ei, show (A.length : Int) + ((M2.length : Int) + 2) - 1 = ((A.length + 1 + M2.length : Nat) : Int) by omega, e0]
      have r1 : rd (A ++ x :: (M2 ++ y :: B)) (A.length : Int) = x := by rw [rd_lt _ _ (by simp)]; simp
      have r2 : rd (A ++ x :: (M2 ++ y :: B)) ((A.length + 1 + M2.length : Nat) : Int) = y := by
        rw [rd_lt _ _ (by simp; omega), List.getElem_append_right (by omega)]
        simp [show A.length + 1 + M2.length - A.length = M2.length + 1 by omega]
      refine Ev.pos (by omega) (Ev.pos (by omega) (Ev.pos (by simp; omega) (Ev.pos (by omega) (Ev.pos (by simp; omega) ?_))))
      rw [r1, r2, Int.toNat_natCast, Int.toNat_natCast, w64' (by omega), w64' (by omega)]
      have e1 : ((A ++ x :: (M2 ++ y :: B)).set A.length y).set (A.length + 1 + M2.length) x = (A ++ [y]) ++ M2 ++ ([x] ++ B) := by
        rw [List.set_append_right _ _ (Nat.le_refl _), Nat.sub_self, List.set_cons_zero, List.set_append_right _ _ (by omega), show A.length + 1 + M2.length - A.length = M2.length + 1 by omega, List.set_cons_succ, List.set_append_right _ _ (Nat.le_refl _), Nat.sub_self, List.set_cons_zero]
        simp
      rw [e1, show ((A.length : Int) + 1) = (((A ++ [y]).length : Nat) : Int) by simp, show ((A.length + 1 + M2.length : Nat) : Int) - 1 = (((A ++ [y]).length : Nat) : Int) + M2.length - 1 by simp <;> omega]
      refine Ev.val (ih M2.length (by omega) (A ++ [y]) M2 ([x] ++ B) (Nat.le_refl _) (by simp; omega)) ?_
      simp
    · refine Ev.neg (by omega) (Ev.const ?_)
      rcases M with _ | ⟨x, _ | ⟨y, M⟩⟩
      · rfl
      · rfl
      · simp at h2
theorem Reverse_ev (w : List Nat) (hl : w.length ≤ 1000000) : Ev (fun k => slices_Reverse_int64_int64.f k (ints w)) (ints w.reverse) := by
  simp only [slices_Reverse_int64_int64.f]
  rw [w64' (by simp; omega)]
  have := Reverse_l0 (ints w).length [] (ints w) [] (Nat.le_refl _) (by simpa using hl)
  simp only [List.nil_append, List.append_nil, List.length_nil] at this
  rw [show ((0 : Nat) : Int) + ((ints w).length : Int) - 1 = ((ints w).length : Int) - 1 by omega] at this
  refine Ev.val this ?_
  simp [ints]
theorem reversed_ev (w : List Nat) (hl : w.length ≤ 1000000) : Ev (fun k => impl_reversed.f k (ints w)) (ints w.reverse) := by
  simp only [impl_reversed.f]
  unfold slices_Clone_int64_int64.f
  rw [if_pos (by simp; omega)]
  exact Ev.some_bind (Ev.bind (Reverse_ev w hl) (Ev.now _))
end Go.Proofs.YtkiacoilecdepaaDoor.PAll
