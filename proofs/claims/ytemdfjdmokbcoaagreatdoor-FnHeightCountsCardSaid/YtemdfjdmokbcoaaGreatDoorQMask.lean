import Derived.Test.YtemdfjdmokbcoaaGreatDoorQBase
import Derived.Laws.BitsLemmas
import Derived.Lib.TrailingZeros
set_option linter.unusedVariables false
set_option linter.unusedSimpArgs false
namespace Go.Proofs.YtemdfjdmokbcoaaGreatDoor.Q
open Go.RowKit Go.Proofs.YtemdfjdmokbcoaaGreatDoorW.PrintWords Go.Proofs.YtemdfjdmokbcoaaGreatDoorW.PrintMore
theorem i64_62 (n:Int) (h0:0 ≤ n) (h1:n < 2 ^ 62):IntKind.i64.wrap n = n:=by
  rw [IntKind.wrap_i64]
  have:(2:Int) ^ 62 = 4611686018427387904:=by decide
  omega
theorem b_and (a b:Nat) (ha:a < 2 ^ 62) (hb:b < 2 ^ 62):Go.bits .and .i64 (a:Int) (b:Int) = ((a &&& b:Nat):Int):=(bits_nat .i64 62 (by decide) i64_62 a b ha hb).1
theorem b_or (a b:Nat) (ha:a < 2 ^ 62) (hb:b < 2 ^ 62):Go.bits .or .i64 (a:Int) (b:Int) = ((a ||| b:Nat):Int):=(bits_nat .i64 62 (by decide) i64_62 a b ha hb).2
def without (a b:Nat):Nat:=a &&& (2 ^ 64 - 1 - b)
theorem testBit_without (a b i:Nat) (ha:a < 2 ^ 62) (hb:b < 2 ^ 62):(without a b).testBit i = (a.testBit i && !b.testBit i):=by
  unfold without
  rw [Nat.testBit_and]
  by_cases hi:i < 64
  · rw [show 2 ^ 64 - 1 - b = 2 ^ 64 - (b + 1) by omega,Nat.testBit_two_pow_sub_succ (by omega)]
    simp [hi]
  · rw [Nat.testBit_lt_two_pow (Nat.lt_of_lt_of_le ha (Nat.pow_le_pow_right (by decide) (by omega)))]
    simp
theorem without_le (a b:Nat):without a b ≤ a:=Nat.and_le_left
theorem b_andNot (a b:Nat) (ha:a < 2 ^ 62) (hb:b < 2 ^ 62):Go.bits .andNot .i64 (a:Int) (b:Int) = ((without a b:Nat):Int):=by
  have e1:(2:Nat) ^ IntKind.i64.bits = 2 ^ 64:=rfl
  have hle:without a b < 2 ^ 62:=Nat.lt_of_le_of_lt (without_le a b) ha
  simp only [Go.bits,BitVec.ofInt_natCast,BitVec.toNat_and,BitVec.toNat_not,BitVec.toNat_ofNat,e1]
  rw [Nat.mod_eq_of_lt (show a < 2 ^ 64 by omega),Nat.mod_eq_of_lt (show b < 2 ^ 64 by omega)]
  exact i64_62 _ (Int.natCast_nonneg _) (by exact_mod_cast hle)
theorem shl_one (n:Nat) (h:n ≤ 61):shl .i64 1 (n:Int) = ((2 ^ n:Nat):Int):=by
  unfold shl
  rw [Int.toNat_natCast,Nat.min_eq_left (show n ≤ IntKind.i64.bits by simp [IntKind.bits];omega),Int.one_mul]
  rw [i64_62 _ (by exact_mod_cast Nat.zero_le _) (by exact_mod_cast Nat.pow_lt_pow_right (by decide) (by omega))]
  simp
theorem shr_nat (m i:Nat) (h:i ≤ 64):shr .i64 (m:Int) (i:Int) = ((m / 2 ^ i:Nat):Int):=by
  unfold shr
  rw [Int.toNat_natCast,Nat.min_eq_left (show i ≤ IntKind.i64.bits by simp [IntKind.bits];omega)]
  simp
theorem bit_at (m i:Nat) (hm:m < 2 ^ 62) (h:i ≤ 64):(Go.bits .and .i64 (shr .i64 (m:Int) (i:Int)) 1 == 1) = m.testBit i:=by
  rw [shr_nat m i h]
  have:=b_and (m / 2 ^ i) 1 (Nat.lt_of_le_of_lt (Nat.div_le_self _ _) hm) (by decide)
  rw [show ((1:Nat):Int) = 1 from rfl] at this
  rw [this,Nat.and_one_is_mod,Nat.testBit_eq_decide_div_mod_eq]
  rw [Bool.eq_iff_iff,beq_iff_eq,decide_eq_true_eq]
  omega
theorem u64_nat (n:Nat) (h:n < 2 ^ 64):IntKind.u64.wrap (n:Int) = n:=by
  simp [IntKind.wrap,IntKind.bits,IntKind.signed]
  omega
def bitsOf (m:Nat):List Nat:=(List.range 64).filter fun i=>m.testBit i
def intsOf (m:Nat):List Int:=(bitsOf m).map fun (i:Nat)=>(i:Int)
theorem mem_bitsOf {m i:Nat} (h:m < 2 ^ 64):i ∈ bitsOf m ↔ m.testBit i = true:=by
  unfold bitsOf
  rw [List.mem_filter,List.mem_range]
  constructor
  · exact fun h=>h.2
  · intro hb
    refine ⟨?_,hb⟩
    by_cases hi:i < 64
    · exact hi
    · rw [Nat.testBit_lt_two_pow (Nat.lt_of_lt_of_le h (Nat.pow_le_pow_right (by decide) (by omega)))] at hb
      cases hb
theorem filter_first (n k:Nat) (hk:k < n) (p:Nat → Bool) (hp:p k = true) (h:∀ i,i < k → p i = false):(List.range n).filter p = k :: (List.range n).filter fun i=>p i && decide (i ≠ k):=by
  have e:List.range n = List.range k ++ (k :: List.range' (k + 1) (n - k - 1)):=by
    rw [List.range_eq_range', List.range_eq_range', ← List.range'_succ,show n - k - 1 + 1 = n - k by omega]
    have:=List.range'_append (s:=0) (m:=k) (n:=n - k) (step:=1)
    rw [show k + (n - k) = n by omega] at this
    simpa using this.symm
  rw [e,List.filter_append,List.filter_append,List.filter_cons,if_pos hp,List.filter_cons,if_neg (by simp)]
  have e1:(List.range k).filter p = []:=List.filter_eq_nil_iff.mpr fun i hi=>by rw [h i (List.mem_range.mp hi)];simp
  have e2:((List.range k).filter fun i=>p i && decide (i ≠ k)) = []:=List.filter_eq_nil_iff.mpr fun i hi=>by rw [h i (List.mem_range.mp hi)];simp
  rw [e1,e2,List.nil_append,List.nil_append]
  congr 1
  apply List.filter_congr
  intro i hi
  have:=List.mem_range'.mp hi
  have hne:i ≠ k:=by omega
  simp [hne]
theorem lowest (m:Nat) (h0:m ≠ 0) (h:m < 2 ^ 64):m.testBit (Lib.ctz 64 m) = true ∧ (∀ i,i < Lib.ctz 64 m → m.testBit i = false) ∧ Lib.ctz 64 m < 64 ∧ ∀ j,(m &&& (m - 1)).testBit j = (m.testBit j && decide (j ≠ Lib.ctz 64 m)):=by
  obtain ⟨t,ht,hk⟩:=Lib.ctzFrom_spec 64 m (by omega) h
  have ek:Lib.ctz 64 m = Lib.ctzFrom 64 m:=by unfold Lib.ctz;rw [if_neg h0]
  rw [ek]
  generalize Lib.ctzFrom 64 m = k at *
  have hp:0 < 2 ^ k:=Nat.two_pow_pos k
  have em:∀ j,m.testBit j = if j < k then false else (2 * t + 1).testBit (j - k):=by
    intro j
    rw [ht]
    have:=Nat.testBit_two_pow_mul_add (2 * t + 1) hp j
    simpa using this
  have em1:∀ j,(m - 1).testBit j = if j < k then (2 ^ k - 1).testBit j else (2 * t).testBit (j - k):=by
    intro j
    have e:m - 1 = 2 ^ k * (2 * t) + (2 ^ k - 1):=by rw [ht,Nat.mul_add];omega
    rw [e]
    exact Nat.testBit_two_pow_mul_add (2 * t) (by omega) j
  refine ⟨?_,fun i hi=>?_,hk,fun j=>?_⟩
  · rw [em,if_neg (by omega),Nat.sub_self]
    simp [Nat.testBit_zero]
  · rw [em,if_pos hi]
  · rw [Nat.testBit_and,em,em1]
    by_cases hj:j < k
    · simp [hj]
    · rw [if_neg hj,if_neg hj]
      by_cases e:j = k
      · subst e
        simp [Nat.testBit_zero]
      · obtain ⟨s,rfl⟩:∃ s,j = k + (s + 1):=⟨j - k - 1,by omega⟩
        rw [show k + (s + 1) - k = s + 1 by omega,Nat.testBit_succ,Nat.testBit_succ]
        rw [show (2 * t + 1) / 2 = t by omega,show 2 * t / 2 = t by omega]
        simp
theorem bitsOf_cons (m:Nat) (h0:m ≠ 0) (h:m < 2 ^ 64):bitsOf m = Lib.ctz 64 m :: bitsOf (m &&& (m - 1)):=by
  obtain ⟨h1,h2,h3,h4⟩:=lowest m h0 h
  unfold bitsOf
  rw [filter_first 64 _ h3 _ h1 h2]
  congr 1
  apply List.filter_congr
  intro i _
  rw [h4]
theorem bitsOf_zero:bitsOf 0 = []:=by
  unfold bitsOf
  exact List.filter_eq_nil_iff.mpr fun i _=>by simp
theorem and_pred_lt (m:Nat) (h0:m ≠ 0):m &&& (m - 1) < m:=by
  have:=Nat.and_le_right (n:=m) (m:=m - 1)
  omega
theorem bits_ext {a b:Nat} (h:∀ i,a.testBit i = b.testBit i):a = b:=Nat.eq_of_testBit_eq h
theorem testBit_one (k i:Nat):(2 ^ k).testBit i = decide (k = i):=by rw [Nat.testBit_two_pow]
theorem testBit_full (n i:Nat):(2 ^ n - 1).testBit i = decide (i < n):=Nat.testBit_two_pow_sub_one n i
theorem lt_of_bits {m n:Nat} (h:∀ i,n ≤ i → m.testBit i = false):m < 2 ^ n:=Nat.lt_pow_two_of_testBit m fun i hi=>h i hi
theorem bit_of_lt {m n i:Nat} (h:m < 2 ^ n) (hi:n ≤ i):m.testBit i = false:=Nat.testBit_lt_two_pow (Nat.lt_of_lt_of_le h (Nat.pow_le_pow_right (by decide) hi))
end Go.Proofs.YtemdfjdmokbcoaaGreatDoor.Q
