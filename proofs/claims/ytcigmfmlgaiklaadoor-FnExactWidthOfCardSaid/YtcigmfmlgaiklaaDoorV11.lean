import Derived.Test.YtcigmfmlgaiklaaDoorPAllx20
import Derived.Test.YtcigmfmlgaiklaaDoorV0
import Derived.Test.YtcigmfmlgaiklaaDoorV1
import Derived.Test.YtcigmfmlgaiklaaDoorQBase
import Derived.Test.YtcigmfmlgaiklaaDoorQMask
import Derived.Test.YtcigmfmlgaiklaaDoorQOrder
import Derived.Test.YtcigmfmlgaiklaaDoorQTrace
set_option linter.unusedVariables false
set_option linter.unusedSimpArgs false
namespace Go.Proofs.YtcigmfmlgaiklaaDoor.PAll
open Go.RowKit Go.Proofs.YtcigmfmlgaiklaaDoorW.PrintWords Go.Proofs.YtcigmfmlgaiklaaDoorW.PrintMore Go.Proofs.YtcigmfmlgaiklaaDoor.Q
theorem l04Width_ev (n : Nat) (hn : n ≤ 24) (g : Nat → Nat → Bool) : ∀ (d i M : Nat), i + d = n → M < 2 ^ n → Ev (fun k => spec_l04Width.f k (mat n g) (i : Int) (M : Int)) ((wdN (fun i k => !g i k) d i (openP M) : Nat) : Int) := by
  intro d
  have h24 := pow_lt62 hn
  induction d with
  | zero =>
    intro i M hi hM
    refine Ev.succ ?_
    simp only [spec_l04Width.f]
    exact Ev.pos (by simp; omega) (Ev.now _)
  | succ d ih =>
    intro i M hi hM
    have i1 := ih (i + 1) M (by omega) hM
    have b1 := wdN_le (fun i k => !g i k) d (i + 1) (openP M)
    have hrow := mk_lt n (g i)
    have hM2 : M ||| mk n (g i) < 2 ^ n := Nat.or_lt_two_pow hM hrow
    have i2 := ih (i + 1) (M ||| mk n (g i)) (by omega) hM2
    have b2 := wdN_le (fun i k => !g i k) d (i + 1) (openP (M ||| mk n (g i)))
    have e2 : wdN (fun i k => !g i k) d (i + 1) (openP (M ||| mk n (g i))) = wdN (fun i k => !g i k) d (i + 1) (fun k => openP M k && !g i k) := wdN_congr n (fun _ _ _ _ => rfl) d (i + 1) _ _ (by omega) (fun k hk hn => by
      unfold openP
      rw [Nat.testBit_or, testBit_mk]
      simp [hn])
    rw [e2] at i2 b2
    have b0 := wdN_le (fun i k => !g i k) (d + 1) i (openP M)
    have hM62 : M < 2 ^ 62 := by omega
    refine Ev.succ ?_
    simp only [spec_l04Width.f]
    refine Ev.neg (by simp; omega) ?_
    rw [w64' (show -9000000000000000000 ≤ (i : Int) + 1 ∧ (i : Int) + 1 ≤ 9000000000000000000 by omega)]
    refine Ev.bind i1 ?_
    rw [l01Bit_eq M i hM62 (by omega)]
    refine Ev.some_bind ?_
    simp only [wdN]
    by_cases c : M.testBit i = true
    · rw [if_neg (by unfold openP; rw [c]; decide)]
      exact Ev.pos c (Ev.now _)
    · have c' : openP M i = true := by unfold openP; simpa using c
      rw [if_pos c']
      refine Ev.neg c (Ev.pos (by omega) (Ev.pos (by simp; omega) ?_))
      rw [rd_mat n g i (by omega), b_or _ _ hM62 (mk62 (by omega) _)]
      refine Ev.bind i2 ?_
      rw [w64' (by omega)]
      refine Ev.ite (fun h => Ev.const ?_) (fun h => Ev.const ?_)
      · congr 1; omega
      · congr 1; omega
theorem mostTogether_l0 (n : Nat) (hn : n ≤ 24) (g : Nat → Nat → Bool) : ∀ (N M : Nat), M ≤ N → M < 2 ^ n → ∀ (most : Nat), most ≤ 24 → Ev (fun k => impl_mostTogether.l0 k (mat n g) (M : Int) (most : Int)) ((max most (wdN g n 0 fun k => M.testBit k) : Nat) : Int) := by
  intro N
  have h24 := pow_lt62 hn
  induction N with
  | zero =>
    intro M hN hM most hm
    obtain rfl : M = 0 := by omega
    have : wdN g n 0 (fun k => (0 : Nat).testBit k) = 0 := wdN_none g n _ (fun k _ => Nat.zero_testBit k)
    rw [this]
    refine Ev.succ ?_
    simp only [impl_mostTogether.l0]
    exact Ev.pos rfl (Ev.const (by rw [show max most 0 = most by omega]))
  | succ N ih =>
    intro M hN hM most hm
    by_cases h0 : M = 0
    · subst h0
      exact ih 0 (by omega) hM most hm
    · have hM64 : M < 2 ^ 64 := by have : (2 : Nat) ^ 62 < 2 ^ 64 := by decide
                                   omega
      obtain ⟨a1, a2, a3, a4⟩ := lowest M h0 hM64
      generalize hi : Lib.ctz 64 M = i at a1 a2 a3 a4
      have hin : i < n := Classical.byContradiction fun h => by rw [bit_of_lt hM (by omega)] at a1; cases a1
      have hless := and_pred_lt M h0
      have hrow := mk_lt n (g i)
      have hM2 : M &&& (M - 1) &&& mk n (g i) ≤ M &&& (M - 1) := Nat.and_le_left
      have e := wdN_least g n i (fun k => M.testBit k) hin a1 a2
      have ea : wdN g n 0 (fun k => M.testBit k && decide (k ≠ i)) = wdN g n 0 (fun k => (M &&& (M - 1)).testBit k) := wdN_congr n (fun _ _ _ _ => rfl) n 0 _ _ (by omega) (fun k _ _ => (a4 k).symm)
      have eb : wdN g n 0 (fun k => (M.testBit k && decide (k ≠ i)) && g i k) = wdN g n 0 (fun k => (M &&& (M - 1) &&& mk n (g i)).testBit k) := wdN_congr n (fun _ _ _ _ => rfl) n 0 _ _ (by omega) (fun k _ hk => by
        show ((M.testBit k && decide (k ≠ i)) && g i k) = (M &&& (M - 1) &&& mk n (g i)).testBit k
        rw [Nat.testBit_and, a4, testBit_mk]; simp [hk])
      rw [ea, eb] at e
      have b1 := wdN_le g n 0 (fun k => (M &&& (M - 1) &&& mk n (g i)).testBit k)
      have r1 := ih (M &&& (M - 1) &&& mk n (g i)) (by omega) (by omega) 0 (by omega)
      have r2 := ih (M &&& (M - 1)) (by omega) (by omega) (max most (1 + wdN g n 0 fun k => (M &&& (M - 1) &&& mk n (g i)).testBit k)) (by
        have b2 := wdN_le g n 0 (fun k => M.testBit k)
        rw [e] at b2
        omega)
      refine Ev.succ ?_
      simp only [impl_mostTogether.l0]
      rw [least_eq M (by omega), hi]
      refine Ev.neg (by omega) (Ev.some_bind (Ev.pos (by omega) (Ev.pos (by simp; omega) ?_)))
      rw [w64' (by omega), show ((M : Int) - 1) = ((M - 1 : Nat) : Int) by omega, rd_mat n g i hin, b_and _ _ (by omega) (by omega), b_and _ _ (by omega) (mk62 (by omega) _)]
      have rf : Ev (fun k => impl_mostTogether.f k (mat n g) ((M &&& (M - 1) &&& mk n (g i) : Nat) : Int)) ((wdN g n 0 (fun k => (M &&& (M - 1) &&& mk n (g i)).testBit k) : Nat) : Int) := by
        refine Ev.succ ?_
        simp only [impl_mostTogether.f]
        exact Ev.val r1 (by rw [show ∀ x : Nat, max 0 x = x from fun x => by omega])
      refine Ev.bind rf ?_
      rw [w64' (by omega), show mx (most : Int) (1 + ((wdN g n 0 (fun k => (M &&& (M - 1) &&& mk n (g i)).testBit k) : Nat) : Int)) = ((max most (1 + wdN g n 0 fun k => (M &&& (M - 1) &&& mk n (g i)).testBit k) : Nat) : Int) by unfold mx; split <;> omega]
      exact Ev.val r2 (by rw [e]; congr 1; omega)
theorem mostTogether_ev (n : Nat) (hn : n ≤ 24) (g : Nat → Nat → Bool) (M : Nat) (hM : M < 2 ^ n) : Ev (fun k => impl_mostTogether.f k (mat n g) (M : Int)) ((wdN g n 0 (fun k => M.testBit k) : Nat) : Int) := by
  have := mostTogether_l0 n hn g M M (Nat.le_refl _) hM 0 (by omega)
  refine Ev.succ ?_
  simp only [impl_mostTogether.f]
  exact Ev.val this (by rw [show ∀ x : Nat, max 0 x = x from fun x => by omega])
end Go.Proofs.YtcigmfmlgaiklaaDoor.PAll
