import Derived.Test.YtemdfjdmokbcoaaGreatDoorQBase
import Derived.Test.YtemdfjdmokbcoaaGreatDoorQConj
import Derived.Test.YtemdfjdmokbcoaaGreatDoorQFoata
import Derived.Test.YtemdfjdmokbcoaaGreatDoorQMap
import Derived.Test.YtemdfjdmokbcoaaGreatDoorQMask
import Derived.Test.YtemdfjdmokbcoaaGreatDoorQMeet
import Derived.Test.YtemdfjdmokbcoaaGreatDoorQOrder
import Derived.Test.YtemdfjdmokbcoaaGreatDoorQRev
import Derived.Test.YtemdfjdmokbcoaaGreatDoorQTab
import Derived.Test.YtemdfjdmokbcoaaGreatDoorQTrace
set_option linter.unusedVariables false
set_option linter.unusedSimpArgs false
namespace Go.Proofs.YtemdfjdmokbcoaaGreatDoor.PAll
open Go.RowKit Go.Proofs.YtemdfjdmokbcoaaGreatDoorW.PrintWords Go.Proofs.YtemdfjdmokbcoaaGreatDoorW.PrintMore Go.Proofs.YtemdfjdmokbcoaaGreatDoor.Q
def Alpha (n:Int) (D:List Int):Prop :=
  (0 ≤ n ∧ n ≤ 8) ∧ (D.length:Int) = n ∧ (∀ x ∈ D,0 ≤ x ∧ x < ((2 ^ D.length:Nat):Int)) ∧ ∀ a,a < D.length → bitR D a a = true ∧ ∀ b,b < D.length → bitR D a b = bitR D b a
instance (n:Int) (D:List Int):Decidable (Alpha n D):=by unfold Alpha;infer_instance
theorem Alpha.form {n:Int} {D:List Int} (h:Alpha n D):∃ (m:Nat) (f:Nat → Nat → Bool),n = (m:Int) ∧ D = mat m f ∧ m ≤ 8 ∧ (∀ a b,f a b = f b a) ∧ ∀ a,a < m → f a a = true:=by
  obtain ⟨h1,h2,h3,h4⟩:=h
  refine ⟨D.length,fun a b=>decide (a < D.length ∧ b < D.length) && (bitR D a b),h2.symm,?_,by omega,fun a b=>?_,fun a ha=>?_⟩
  · exact (eq_mat D h3).trans (mat_congr fun i k hi hk=>by simp [hi,hk])
  · by_cases ha:a < D.length <;> by_cases hb:b < D.length <;> simp [ha,hb]
    exact (h4 a ha).2 b hb
  · simp [ha,(h4 a ha).1]
theorem pow24 {m:Nat} (h:m ≤ 24):(2:Nat) ^ m ≤ 2 ^ 24:=Nat.pow_le_pow_right (by decide) h
def Word (n:Int) (w:List Int):Prop:=w.length ≤ 24 ∧ ∀ x ∈ w,0 ≤ x ∧ x ≤ n - 1
instance (n:Int) (w:List Int):Decidable (Word n w):=by unfold Word;infer_instance
theorem Word.form {n:Nat} {w:List Int} (h:Word (n:Int) w):∃ u:List Nat,w = ints u ∧ u.length ≤ 24 ∧ ∀ x ∈ u,x < n:=by
  refine ⟨w.map Int.toNat,?_,by simpa using h.1,fun x hx=>?_⟩
  · unfold ints
    rw [List.map_map]
    conv=>lhs;rw [← List.map_id w]
    apply List.map_congr_left
    intro x hx
    have:=h.2 x hx
    simp only [Function.comp,id]
    omega
  · obtain ⟨y,hy,rfl⟩:=List.mem_map.mp hx
    have:=h.2 y hy
    omega
theorem getD_lt {w:List Nat} {n i:Nat} (hw:∀ x ∈ w,x < n) (hi:i < w.length):w.getD i 0 < n:=by
  rw [List.getD_eq_getElem?_getD,List.getElem?_eq_getElem hi];exact hw _ (List.getElem_mem hi)
theorem rd_getD (w:List Nat) (i:Nat):rd (ints w) (i:Int) = ((w.getD i 0:Nat):Int):=by
  by_cases h:i < w.length
  · rw [rd_ints w i h];simp [List.getD_eq_getElem?_getD,h]
  · rw [rd_nat];simp [ints,List.getD_eq_getElem?_getD,h]
theorem rd_mid (pre suf:List Nat) (b:Nat):rd (ints (pre ++ b :: suf)) (pre.length:Int) = (b:Int):=by
  rw [rd_ints _ _ (by simp)]
  simp
instance (f:Nat → Nat → Bool) (u v:List Nat):Decidable (TrEq f u v):=by unfold TrEq;infer_instance
theorem mk_or (n:Nat) (p q:Nat → Bool):mk n p ||| mk n q = mk n fun a=>p a || q a:=bits_ext fun i=>by
  rw [Nat.testBit_or,testBit_mk,testBit_mk,testBit_mk]
  by_cases hi:i < n <;> simp [hi]
theorem mk62 {n:Nat} (hn:n ≤ 24) (p:Nat → Bool):mk n p < 2 ^ 62:=Nat.lt_of_lt_of_le (mk_lt n p) (Nat.pow_le_pow_right (by decide) (by omega))
theorem pow_lt62 {n:Nat} (hn:n ≤ 24):(2:Nat) ^ n ≤ 2 ^ 24 ∧ (2:Nat) ^ 24 < 2 ^ 62:=⟨pow24 hn,by decide⟩
theorem mk_full (n:Nat):2 ^ n - 1 = mk n fun _=>true:=bits_ext fun i=>by rw [testBit_full,testBit_mk];simp
theorem mk_without {n:Nat} (hn:n ≤ 24) (p q:Nat → Bool):without (mk n p) (mk n q) = mk n fun a=>p a && !q a:=bits_ext fun i=>by
  rw [testBit_without _ _ _ (mk62 hn _) (mk62 hn _),testBit_mk,testBit_mk,testBit_mk]
  by_cases hi:i < n <;> simp [hi]
theorem mk_or_add (m:Nat) (p:Nat → Bool):mk m p ||| 2 ^ m = mk m p + 2 ^ m:=by
  have h:=Nat.two_pow_add_eq_or_of_lt (mk_lt m p) 1
  rw [Nat.mul_one] at h
  rw [Nat.or_comm,← h,Nat.add_comm]
theorem mk_split (n:Nat) (p q:Nat → Bool):mk n (fun a=>p a && q a) + mk n (fun a=>p a && !q a) = mk n p:=by
  induction n with
  | zero=>rfl
  | succ m ih =>
    simp only [mk]
    by_cases e1:p m = true
    · by_cases e2:q m = true
      · rw [if_pos (by simp [e1,e2]),if_neg (by simp [e2]),if_pos e1,mk_or_add,mk_or_add];omega
      · rw [if_neg (by simp [e2]),if_pos (by simp [e1,e2]),if_pos e1,mk_or_add,mk_or_add];omega
    · rw [if_neg (by simp [e1]),if_neg (by simp [e1]),if_neg e1];exact ih
theorem mk_and (n:Nat) (p q:Nat → Bool):mk n p &&& mk n q = mk n fun a=>p a && q a:=bits_ext fun i=>by
  rw [Nat.testBit_and,testBit_mk,testBit_mk,testBit_mk]
  by_cases hi:i < n <;> simp [hi]
theorem or_full {n M c:Nat} (hM:M < 2 ^ n) (hc:c < n):M ||| (2 ^ c - 1) = mk n fun a=>M.testBit a || decide (a < c):=bits_ext fun i=>by
  rw [Nat.testBit_or,testBit_full,testBit_mk]
  by_cases hi:i < n
  · simp [hi]
  · rw [bit_of_lt hM (by omega)]
    simp [hi];omega
theorem mk_zero {n:Nat} {p:Nat → Bool} (h:∀ c,c < n → p c = false):mk n p = 0:=Nat.eq_of_testBit_eq fun i=>by
  rw [testBit_mk,Nat.zero_testBit]
  by_cases hi:i < n
  · simp [h i hi]
  · simp [hi]
theorem ChainAt.le {g:Nat → Nat → Bool} {n:Nat} {B:Nat → Nat} {i0:Nat} (h:∀ j,i0 ≤ j → j < n → ChainAt g n B j):∀ d i,i + d + 1 = n → i0 ≤ i → B i ≤ n - i:=by
  intro d
  induction d using Nat.strongRecOn with
  | ind d ih =>
    intro i hi h0
    rcases (h i h0 (by omega)).2.2 with e | ⟨k,k1,k2,k3,k4⟩
    · omega
    · have:=ih (n - k - 1) (by omega) k (by omega) (by omega)
      omega
theorem Word.of {n:Nat} {u:List Nat} (hl:u.length ≤ 24) (hu:∀ x ∈ u,x < n):Word (n:Int) (ints u):=by
  refine ⟨by simpa using hl,fun x hx=>?_⟩
  obtain ⟨y,hy,rfl⟩:=List.mem_map.1 hx
  have:=hu y hy
  omega
theorem u8_bounds {x:Int} (h:(Lit.int .u8 x).wf = true):0 ≤ x ∧ x ≤ 255:=by
  simp only [Lit.wf,IntKind.min,IntKind.max,IntKind.signed,IntKind.bits,Bool.and_eq_true,decide_eq_true_eq] at h
  simp at h
  omega
end Go.Proofs.YtemdfjdmokbcoaaGreatDoor.PAll
