import Derived.Test.YtemdfjdmokbcoaaGreatDoorQTrace
set_option linter.unusedVariables false
set_option linter.unusedSimpArgs false
namespace Go.Proofs.YtemdfjdmokbcoaaGreatDoor.Q
open Go.RowKit Go.Proofs.YtemdfjdmokbcoaaGreatDoorW.PrintWords
section
variable (f:Nat → Nat → Bool)
theorem cutP_cons (a:Nat) (u v:List Nat):cutP f (a :: u) v = if isFirst f v a then cutP f u (v.erase a) else none:=rfl
theorem cutP_self_append (u v:List Nat):cutP f u (u ++ v) = some v:=by
  induction u with
  | nil=>rfl
  | cons a u ih=>rw [List.cons_append,cutP_cons,if_pos (isFirst_head f a _),List.erase_cons_head,ih]
theorem cutP_length {p u r:List Nat} (h:cutP f p u = some r):p.length + r.length = u.length:=by
  induction p generalizing u with
  | nil=>injection h with h;simp [h]
  | cons c p ih =>
    rw [cutP_cons] at h
    by_cases h6:isFirst f u c = true
    · rw [if_pos h6] at h
      have:=ih h
      have:=length_erase f h6
      simp;omega
    · rw [if_neg h6] at h;cases h
theorem cutP_sub {p u r:List Nat} (h:cutP f p u = some r):∀ x ∈ r,x ∈ u:=by
  induction p generalizing u with
  | nil=>injection h with h;subst h;exact fun x hx=>hx
  | cons c p ih =>
    rw [cutP_cons] at h
    by_cases h6:isFirst f u c = true
    · rw [if_pos h6] at h
      exact fun x hx=>List.mem_of_mem_erase (ih h x hx)
    · rw [if_neg h6] at h;cases h
theorem cutP_append (p q u:List Nat):cutP f (p ++ q) u = (cutP f p u).bind fun r=>cutP f q r:=by
  induction p generalizing u with
  | nil=>rfl
  | cons c p ih =>
    rw [List.cons_append,cutP_cons,cutP_cons]
    by_cases h6:isFirst f u c = true
    · rw [if_pos h6,if_pos h6,ih]
    · rw [if_neg h6,if_neg h6];rfl
theorem cutP_spec (hs:∀ a b,f a b = f b a) {p u r:List Nat} (h:cutP f p u = some r):TrEq f u (p ++ r):=by
  refine TrEq.symm f hs ?_
  unfold TrEq
  rw [cutP_append,h]
  exact TrEq.refl f r
theorem cutP_TrEq_right (hs:∀ a b,f a b = f b a) {p u v r:List Nat} (h:TrEq f u v) (hr:cutP f p u = some r):∃ r', cutP f p v = some r' ∧ TrEq f r r' := by
  induction p generalizing u v with
  | nil=>injection hr with hr;subst hr;exact ⟨v,rfl,h⟩
  | cons c p ih =>
    rw [cutP_cons] at hr
    by_cases h6:isFirst f u c = true
    · rw [if_pos h6] at hr
      obtain ⟨h1,h2⟩:=TrEq.first f hs h c
      rw [cutP_cons,if_pos (h1 ▸ h6)]
      exact ih (h2 h6) hr
    · rw [if_neg h6] at hr;cases hr
def Meets (u v p a b:List Nat):Prop:=cutP f p u = some a ∧ cutP f p v = some b ∧ ∀ c,¬ (isFirst f a c = true ∧ isFirst f b c = true)
theorem Meets.first (hs:∀ a b,f a b = f b a) {u v p a b:List Nat} (h:Meets f u v p a b) {c:Nat} (hu:isFirst f u c = true) (hv:isFirst f v c = true):isFirst f p c = true:=by
  induction p generalizing u v with
  | nil =>
    obtain ⟨h1,h2,h3⟩:=h
    injection h1 with h1
    injection h2 with h2
    subst h1 h2
    exact absurd ⟨hu,hv⟩ (h3 c)
  | cons d p ih =>
    obtain ⟨h1,h2,h3⟩:=h
    rw [cutP_cons] at h1 h2
    by_cases g1:isFirst f u d = true
    · by_cases g2:isFirst f v d = true
      · rw [if_pos g1] at h1
        rw [if_pos g2] at h2
        by_cases e:d = c
        · subst e;exact isFirst_head f d p
        · have k1:=first_erase_of f hs (Ne.symm e) hu g1
          have k2:=first_erase_of f hs (Ne.symm e) hv g2
          have:=ih ⟨h1,h2,h3⟩ k1.1 k2.1
          simp [isFirst,k1.2,this]
      · rw [if_neg g2] at h2;cases h2
    · rw [if_neg g1] at h1;cases h1
theorem Meets.cons {u v p a b:List Nat} {c:Nat} (hu:isFirst f u c = true) (hv:isFirst f v c = true) (h:Meets f (u.erase c) (v.erase c) p a b):Meets f u v (c :: p) a b :=
  ⟨by rw [cutP_cons,if_pos hu];exact h.1,by rw [cutP_cons,if_pos hv];exact h.2.1,h.2.2⟩
theorem Meets.le {u v p a b:List Nat} (h:Meets f u v p a b):p.length ≤ u.length:=by
  have:=cutP_length f h.1
  omega
end
end Go.Proofs.YtemdfjdmokbcoaaGreatDoor.Q
