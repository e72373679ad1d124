import Derived.Test.YtemdfjdmokbcoaaGreatDoorQMeet
set_option linter.unusedVariables false
set_option linter.unusedSimpArgs false
namespace Go.Proofs.YtemdfjdmokbcoaaGreatDoor.Q
open Go.RowKit Go.Proofs.YtemdfjdmokbcoaaGreatDoorW.PrintWords
section
variable {f:Nat → Nat → Bool}
end
section
variable (f:Nat → Nat → Bool)
theorem isFirst_end {x:Nat} {v:List Nat} (h:∀ b ∈ v,f b x = false):isFirst f (v ++ [x]) x = true:=by
  induction v with
  | nil=>exact isFirst_head f x []
  | cons b v ih =>
    have h1:=h b (by simp)
    have h2:=ih (fun c hc=>h c (by simp [hc]))
    rw [List.cons_append]
    simp only [isFirst,h1,h2]
    simp
theorem TrEq.over (hs:∀ a b,f a b = f b a) {x:Nat} {v:List Nat} (h:∀ b ∈ v,f b x = false) (hx:x ∉ v):TrEq f (v ++ [x]) (x :: v):=by
  refine TrEq.symm f hs ((TrEq.cons_iff f).2 ⟨isFirst_end f h,?_⟩)
  rw [List.erase_append_right _ hx,List.erase_cons_head,List.append_nil]
  exact TrEq.refl f v
def Ins (m:Nat → Bool) (w p r:List Nat):Prop:=cutP f p w = some r ∧ (∀ x ∈ p,m x = true) ∧ ∀ c,isFirst f r c = true → m c = false
theorem Ins.first (hs:∀ a b,f a b = f b a) {m:Nat → Bool} {w p r:List Nat} (h:Ins f m w p r) {c:Nat} (hw:isFirst f w c = true) (hm:m c = true):isFirst f p c = true:=by
  induction p generalizing w with
  | nil =>
    obtain ⟨h1,h2,h3⟩:=h
    injection h1 with h1
    subst h1
    rw [h3 c hw] at hm;cases hm
  | cons d p ih =>
    obtain ⟨h1,h2,h3⟩:=h
    rw [cutP_cons] at h1
    by_cases g1:isFirst f w d = true
    · rw [if_pos g1] at h1
      by_cases e:d = c
      · subst e;exact isFirst_head f d p
      · have k1:=first_erase_of f hs (Ne.symm e) hw g1
        have:=ih ⟨h1,fun x hx=>h2 x (by simp [hx]),h3⟩ k1.1
        simp [isFirst,k1.2,this]
    · rw [if_neg g1] at h1;cases h1
end
def afterP (n:Nat) (f:Nat → Nat → Bool) (M c:Nat):Nat:=mk n fun a=>(M.testBit a || decide (a < c)) && !f c a
theorem afterP_lt (n:Nat) (f:Nat → Nat → Bool) (M c:Nat):afterP n f M c < 2 ^ n:=mk_lt n _
end Go.Proofs.YtemdfjdmokbcoaaGreatDoor.Q
