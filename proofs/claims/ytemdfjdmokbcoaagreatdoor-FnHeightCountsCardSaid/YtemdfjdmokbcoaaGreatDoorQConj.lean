import Derived.Test.YtemdfjdmokbcoaaGreatDoorQTrace
set_option linter.unusedVariables false
set_option linter.unusedSimpArgs false
namespace Go.Proofs.YtemdfjdmokbcoaaGreatDoor.Q
open Go.RowKit Go.Proofs.YtemdfjdmokbcoaaGreatDoorW.PrintWords
section
variable (f:Nat → Nat → Bool) (n:Nat)
def rotP (w:List Nat) (a:Nat):List Nat:=normalP f n (w.erase a ++ [a])
def clsS (p:List Nat × List Nat) (l:List (List Nat × List Nat)) (a:Nat):List (List Nat × List Nat) :=
  if isFirst f p.1 a = true ∧ rotP f n p.1 a ∉ l.map Prod.fst then l ++ [(rotP f n p.1 a,p.2 ++ [a])] else l
theorem rotP_lt (hs:∀ a b,f a b = f b a) {w:List Nat} {a:Nat} (ha:a < n) (hw:∀ x ∈ w,x < n) (h:isFirst f w a = true):(∀ x ∈ rotP f n w a,x < n) ∧ (rotP f n w a).length = w.length:=by
  have h1:∀ x ∈ w.erase a ++ [a],x < n:=fun x hx=>(List.mem_append.1 hx).elim (fun h=>hw x (List.mem_of_mem_erase h)) (fun h=>by rw [List.mem_singleton.1 h];exact ha)
  refine ⟨normalP_lt f hs h1,?_⟩
  unfold rotP
  rw [normalP_length f hs h1]
  have:=List.length_erase_of_mem (isFirst_mem f h)
  have:=List.length_pos_of_mem (isFirst_mem f h)
  simp;omega
def Listed (N:Nat) (l:List (List Nat × List Nat)):Prop:=∀ p ∈ l,(∀ x ∈ p.1,x < n) ∧ p.1.length = N ∧ (∀ x ∈ p.2,x < n) ∧ p.2.length < l.length
variable {f n}
theorem Listed.step {N:Nat} {l:List (List Nat × List Nat)} (hs:∀ a b,f a b = f b a) (h:Listed n N l) {p:List Nat × List Nat} (hp:(∀ x ∈ p.1,x < n) ∧ p.1.length = N ∧ (∀ x ∈ p.2,x < n) ∧ p.2.length < l.length) {a:Nat} (ha:a < n):Listed n N (clsS f n p l a):=by
  unfold clsS
  split
  · rename_i g
    have hr:=rotP_lt f n hs ha hp.1 g.1
    intro q hq
    rcases List.mem_append.1 hq with hq | hq
    · have:=h q hq
      exact ⟨this.1,this.2.1,this.2.2.1,by simp;omega⟩
    · rw [List.mem_singleton.1 hq]
      refine ⟨hr.1,by rw [hr.2];exact hp.2.1,fun x hx=>?_,by simp;omega⟩
      rcases List.mem_append.1 hx with hx | hx
      · exact hp.2.2.1 x hx
      · rw [List.mem_singleton.1 hx];exact ha
  · exact h
theorem Listed.at {N:Nat} {l:List (List Nat × List Nat)} (h:Listed n N l) {i:Nat} (hi:i < l.length):(∀ x ∈ (l.getD i ([],[])).1,x < n) ∧ (l.getD i ([],[])).1.length = N ∧ (∀ x ∈ (l.getD i ([],[])).2,x < n) ∧ (l.getD i ([],[])).2.length < l.length:=by
  have:l.getD i ([],[]) ∈ l:=by
    rw [List.getD_eq_getElem?_getD,List.getElem?_eq_getElem hi]
    exact List.getElem_mem hi
  exact h _ this
end
end Go.Proofs.YtemdfjdmokbcoaaGreatDoor.Q
