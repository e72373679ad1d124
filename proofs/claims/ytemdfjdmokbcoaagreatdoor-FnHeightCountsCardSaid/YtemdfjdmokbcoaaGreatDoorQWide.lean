import Derived.Test.YtemdfjdmokbcoaaGreatDoorQHeight
import Derived.Test.YtemdfjdmokbcoaaGreatDoorQDraw
set_option linter.unusedVariables false
set_option linter.unusedSimpArgs false
namespace Go.Proofs.YtemdfjdmokbcoaaGreatDoor.Q
open Go.RowKit Go.Proofs.YtemdfjdmokbcoaaGreatDoorW.PrintWords
theorem pcP_add2:∀ (k C:Nat),C < 2 ^ k → pcP (C + 2 ^ k) = pcP C + 1:=by
  intro k
  induction k with
  | zero => intro C h; obtain rfl : C = 0 := by simpa using h
            rw [pcP_pos (by decide)];simp [pcP_zero]
  | succ k ih =>
    intro C h
    rw [Nat.pow_succ] at h ⊢
    have e2:(C + 2 ^ k * 2) / 2 = C / 2 + 2 ^ k:=by omega
    have e1:(C + 2 ^ k * 2) % 2 = C % 2:=by omega
    have hp:=Nat.two_pow_pos k
    have eC:pcP C = C % 2 + pcP (C / 2):=by
      by_cases z:C = 0
      · subst z;simp [pcP_zero]
      · exact pcP_pos z
    rw [pcP_pos (by omega),e1,e2,ih (C / 2) (by omega),eC]
    omega
theorem pcP_mk (p:Nat → Bool):∀ n,pcP (mk n p) = ((List.range n).filter p).length:=by
  intro n
  induction n with
  | zero=>simp [mk,pcP_zero]
  | succ n ih =>
    rw [List.range_succ,List.filter_append,List.length_append,← ih]
    have hlt:=mk_lt n p
    have e:mk (n + 1) p = if p n = true then mk n p + 2 ^ n else mk n p:=by
      refine bits_ext fun i=>?_
      by_cases h:p n = true
      · rw [if_pos h,testBit_mk]
        by_cases hi:i < n
        · rw [Nat.add_comm (mk n p) (2 ^ n),Nat.testBit_two_pow_add_gt hi,testBit_mk]
          simp [hi,show i < n + 1 by omega]
        · by_cases e:i = n
          · subst e
            rw [Nat.add_comm (mk i p) (2 ^ i),Nat.testBit_two_pow_add_eq,testBit_mk]
            simp [h]
          · rw [bit_of_lt (n:=n + 1) (by rw [Nat.pow_succ];omega) (by omega)]
            simp [show ¬ i < n + 1 by omega]
      · rw [if_neg h,testBit_mk,testBit_mk]
        by_cases e:i = n
        · subst e;simp [h]
        · by_cases hi:i < n
          · simp [hi,show i < n + 1 by omega]
          · simp [hi,show ¬ i < n + 1 by omega]
    rw [e]
    by_cases h:p n = true
    · rw [if_pos h,pcP_add2 n _ hlt];simp [h]
    · rw [if_neg h];simp [h]
end Go.Proofs.YtemdfjdmokbcoaaGreatDoor.Q
