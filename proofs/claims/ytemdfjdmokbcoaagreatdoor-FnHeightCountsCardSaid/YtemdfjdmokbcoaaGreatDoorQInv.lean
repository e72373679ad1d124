import Derived.Test.YtemdfjdmokbcoaaGreatDoorQBase
set_option linter.unusedVariables false
set_option linter.unusedSimpArgs false
namespace Go.Proofs.YtemdfjdmokbcoaaGreatDoor.Q
open Go.RowKit Go.Proofs.YtemdfjdmokbcoaaGreatDoorW.PrintWords
def psum (p q:List Int) (k:Nat):Nat → Int
  | 0=>0
  | m + 1=>psum p q k m + rd p ((m + 1:Nat):Int) * rd q ((k - (m + 1):Nat):Int)
def nextInv (p q:List Int):Int:=- psum p q q.length (min q.length (p.length - 1))
def MC:Int:=1000000000000000
def invLoop (p:List Int):Nat → List Int → List Int × Int
  | 0,q=>(q,0)
  | d + 1,q=>if -MC ≤ nextInv p q ∧ nextInv p q ≤ MC then invLoop p d (q ++ [nextInv p q]) else ([],3)
def Bd (B:Int) (q:List Int):Prop:=∀ i:Nat,-B ≤ rd q (i:Int) ∧ rd q (i:Int) ≤ B
theorem Bd.of_mem {B:Int} {q:List Int} (hB:0 ≤ B) (h:∀ x ∈ q,-B ≤ x ∧ x ≤ B):Bd B q:=fun i=>by
  by_cases hi:i < q.length
  · rw [rd_lt q i hi];exact h _ (List.getElem_mem hi)
  · rw [rd_nat,List.getD_eq_getElem?_getD,List.getElem?_eq_none (by omega)];simp;omega
theorem Bd.snoc {B:Int} {q:List Int} {x:Int} (h:Bd B q) (hx:-B ≤ x ∧ x ≤ B):Bd B (q ++ [x]):=fun i=>by
  rw [rd_nat,List.getD_eq_getElem?_getD]
  rcases Nat.lt_trichotomy i q.length with hi | hi | hi
  · rw [List.getElem?_append_left hi]
    have:=h i
    rwa [rd_nat,List.getD_eq_getElem?_getD] at this
  · subst hi
    simpa using hx
  · have:=h i
    rw [rd_nat,List.getD_eq_getElem?_getD,List.getElem?_eq_none (by omega)] at this
    rw [List.getElem?_append_right (by omega),List.getElem?_eq_none (by simp;omega)]
    simpa using this
theorem rd_snoc_lt (q:List Int) (x:Int) (i:Nat) (h:i < q.length):rd (q ++ [x]) (i:Int) = rd q (i:Int):=by
  rw [rd_nat,rd_nat,List.getD_eq_getElem?_getD,List.getD_eq_getElem?_getD,List.getElem?_append_left h]
theorem rd_snoc_eq (q:List Int) (x:Int):rd (q ++ [x]) (q.length:Int) = x:=by
  rw [rd_nat,List.getD_eq_getElem?_getD,List.getElem?_append_right (Nat.le_refl _)]
  simp
theorem psum_congr (p q q' : List Int) (k:Nat) (hk:1 ≤ k) (h:∀ i:Nat,i < k → rd q (i:Int) = rd q' (i:Int)):∀ m,psum p q k m = psum p q' k m:=by
  intro m
  induction m with
  | zero=>rfl
  | succ m ih=>simp only [psum];rw [ih,h _ (by omega)]
def InvOf (p q:List Int):Prop:=1 ≤ q.length ∧ rd q ((0:Nat):Int) = 1 ∧ Bd MC q ∧ ∀ i:Nat,1 ≤ i → i < q.length → rd q (i:Int) = - psum p q i (min i (p.length - 1))
theorem InvOf.snoc {p q:List Int} (h:InvOf p q) (hb:-MC ≤ nextInv p q ∧ nextInv p q ≤ MC):InvOf p (q ++ [nextInv p q]):=by
  obtain ⟨h1,h2,h3,h4⟩:=h
  refine ⟨by simp,by rw [rd_snoc_lt q _ 0 (by omega)];exact h2,h3.snoc hb,fun i hi hl=>?_⟩
  have hc:∀ j:Nat,j < i → rd (q ++ [nextInv p q]) (j:Int) = rd q (j:Int):=fun j hj=>rd_snoc_lt q _ j (by simp at hl;omega)
  rw [psum_congr p _ q i hi hc]
  by_cases e:i < q.length
  · rw [rd_snoc_lt q _ i e];exact h4 i hi e
  · obtain rfl:i = q.length:=by simp at hl;omega
    rw [rd_snoc_eq]
    rfl
end Go.Proofs.YtemdfjdmokbcoaaGreatDoor.Q
