import Derived.Test.YtpenijicdldipaaDoorQMeet
set_option linter.unusedVariables false
set_option linter.unusedSimpArgs false
namespace Go.Proofs.YtpenijicdldipaaDoor.Q
open Go.RowKit Go.Proofs.YtpenijicdldipaaDoorW.PrintWords
def wsh (f:Nat → Nat → Bool):Nat → Nat → Nat → Bool
 | 0,i,k=>decide (i = k) || f i k
 | p + 1,i,k=>wsh f p i k || (wsh f p i p && wsh f p p k)
def clos (n:Nat) (f:Nat → Nat → Bool) (i k:Nat):Bool:=wsh f n i k
section
variable {f:Nat → Nat → Bool}
theorem wsh_mono {p i k:Nat} (h:wsh f p i k = true):wsh f (p + 1) i k = true:=by simp [wsh,h]
theorem wsh_base {i k:Nat} (h:i = k ∨ f i k = true):∀ p,wsh f p i k = true:=by
 intro p
 induction p with
 | zero=>simpa [wsh] using h
 | succ p ih=>exact wsh_mono ih
theorem wsh_trans:∀ p i j k,j < p → wsh f p i j = true → wsh f p j k = true → wsh f p i k = true:=by
 intro p
 induction p with
 | zero=>intro i j k h;omega
 | succ p ih =>
  intro i j k hj h1 h2
  simp only [wsh,Bool.or_eq_true,Bool.and_eq_true] at h1 h2 ⊢
  by_cases e:j = p
  ·subst e
   have a1:wsh f j i j = true:=h1.elim id (·.1)
   have a2:wsh f j j k = true:=h2.elim id (·.2)
   exact .inr ⟨a1,a2⟩
  ·have hj' : j < p:=by omega
   rcases h1 with h1 | ⟨h1,h1'⟩
   ·rcases h2 with h2 | ⟨h2,h2'⟩
    ·exact .inl (ih i j k hj' h1 h2)
    ·exact .inr ⟨ih i j p hj' h1 h2,h2'⟩
   ·rcases h2 with h2 | ⟨h2,h2'⟩
    ·exact .inr ⟨h1,ih p j k hj' h1' h2⟩
    ·exact .inr ⟨h1,h2'⟩
theorem wsh_sound {R:Nat → Nat → Prop} (hr:∀ i,R i i) (he:∀ i k,f i k = true → R i k) (ht:∀ i j k,R i j → R j k → R i k):∀ p i k,wsh f p i k = true → R i k:=by
 intro p
 induction p with
 | zero =>
  intro i k h
  simp only [wsh,Bool.or_eq_true,decide_eq_true_eq] at h
  rcases h with rfl | h
  ·exact hr i
  ·exact he i k h
 | succ p ih =>
  intro i k h
  simp only [wsh,Bool.or_eq_true,Bool.and_eq_true] at h
  rcases h with h | ⟨h1,h2⟩
  ·exact ih i k h
  ·exact ht i p k (ih i p h1) (ih p k h2)
theorem clos_refl (n i:Nat):clos n f i i = true:=wsh_base (.inl rfl) n
theorem clos_edge {n i k:Nat} (h:f i k = true):clos n f i k = true:=wsh_base (.inr h) n
theorem clos_trans {n i j k:Nat} (hj:j < n) (h1:clos n f i j = true) (h2:clos n f j k = true):clos n f i k = true:=wsh_trans n i j k hj h1 h2
theorem clos_sound {R:Nat → Nat → Prop} (hr:∀ i,R i i) (he:∀ i k,f i k = true → R i k) (ht:∀ i j k,R i j → R j k → R i k) {n i k:Nat} (h:clos n f i k = true):R i k:=wsh_sound hr he ht n i k h
theorem clos_le {n:Nat} (hf:∀ i k,f i k = true → i < k) {i k:Nat} (h:clos n f i k = true):i ≤ k :=
 clos_sound (R:=fun i k=>i ≤ k) (fun _=>Nat.le_refl _) (fun i k h=>Nat.le_of_lt (hf i k h)) (fun _ _ _=>Nat.le_trans) h
theorem clos_last {n:Nat} (hf:∀ i k,f i k = true → i < k ∧ k < n) {i k:Nat}:clos n f i k = true ↔ i = k ∨ ∃ j,i ≤ j ∧ j < k ∧ clos n f i j = true ∧ f j k = true:=by
 constructor
 ·intro h
  have key:i ≤ k ∧ clos n f i k = true ∧ (i = k ∨ ∃ j,i ≤ j ∧ j < k ∧ clos n f i j = true ∧ f j k = true):=by
   refine clos_sound (R:=fun i k=>i ≤ k ∧ clos n f i k = true ∧ (i = k ∨ ∃ j,i ≤ j ∧ j < k ∧ clos n f i j = true ∧ f j k = true)) (fun i=>⟨Nat.le_refl _,clos_refl n i,.inl rfl⟩) (fun i k h=>⟨Nat.le_of_lt (hf i k h).1,clos_edge h,.inr ⟨i,Nat.le_refl _,(hf i k h).1,clos_refl n i,h⟩⟩) ?_ h
   rintro i j k ⟨a1,a2,a3⟩ ⟨b1,b2,b3⟩
   rcases b3 with rfl | ⟨j', c1,c2,c3,c4⟩
   ·exact ⟨a1,a2,a3⟩
   ·have hj:j < n:=by have:=(hf j' k c4).2;omega
    have hj' : j' < n:=by have:=(hf j' k c4).2;omega
    have d:=clos_trans hj a2 c3
    exact ⟨Nat.le_trans a1 b1,clos_trans hj a2 b2,.inr ⟨j', Nat.le_trans a1 c1,c2,d,c4⟩⟩
  exact key.2.2
 ·rintro (rfl | ⟨j,h1,h2,h3,h4⟩)
  ·exact clos_refl n i
  ·exact clos_trans (by have:=(hf j k h4).2;omega) h3 (clos_edge h4)
end
def eP (f:Nat → Nat → Bool) (w:List Nat) (i k:Nat):Bool:=decide (i < k ∧ k < w.length) && f (w.getD i 0) (w.getD k 0)
theorem eP_lt {f:Nat → Nat → Bool} {w:List Nat} {i k:Nat} (h:eP f w i k = true):i < k ∧ k < w.length:=by
 simp only [eP,Bool.and_eq_true,decide_eq_true_eq] at h
 exact h.1
def ordP (f:Nat → Nat → Bool) (w:List Nat):Nat → Nat → Bool:=clos w.length (eP f w)
section
variable (f:Nat → Nat → Bool)
theorem isFirst_end {x:Nat} {v:List Nat} (h:∀ b ∈ v,f b x = false):isFirst f (v ++ [x]) x = true:=by
 induction v with
 | nil=>exact isFirst_head f x []
 | cons b v ih =>
  have h1:=h b (by simp)
  have h2:=ih (fun c hc=>h c (by simp [hc]))
  rw [List.cons_append]
  simp only [isFirst,h1,h2]
  simp
theorem TrEq.over (hs:∀ a b,f a b = f b a) {x:Nat} {v:List Nat} (h:∀ b ∈ v,f b x = false) (hx:x ∉ v):TrEq f (v ++ [x]) (x :: v):=by
 refine TrEq.symm f hs ((TrEq.cons_iff f).2 ⟨isFirst_end f h,?_⟩)
 rw [List.erase_append_right _ hx,List.erase_cons_head,List.append_nil]
 exact TrEq.refl f v
def Ins (m:Nat → Bool) (w p r:List Nat):Prop:=cutP f p w = some r ∧ (∀ x ∈ p,m x = true) ∧ ∀ c,isFirst f r c = true → m c = false
theorem Ins.first (hs:∀ a b,f a b = f b a) {m:Nat → Bool} {w p r:List Nat} (h:Ins f m w p r) {c:Nat} (hw:isFirst f w c = true) (hm:m c = true):isFirst f p c = true:=by
 induction p generalizing w with
 | nil =>
  obtain ⟨h1,h2,h3⟩:=h
  injection h1 with h1
  subst h1
  rw [h3 c hw] at hm;cases hm
 | cons d p ih =>
  obtain ⟨h1,h2,h3⟩:=h
  rw [cutP_cons] at h1
  by_cases g1:isFirst f w d = true
  ·rw [if_pos g1] at h1
   by_cases e:d = c
   ·subst e;exact isFirst_head f d p
   ·have k1:=first_erase_of f hs (Ne.symm e) hw g1
    have:=ih ⟨h1,fun x hx=>h2 x (by simp [hx]),h3⟩ k1.1
    simp [isFirst,k1.2,this]
  ·rw [if_neg g1] at h1;cases h1
theorem Ins.unique (hs:∀ a b,f a b = f b a) {m:Nat → Bool} {w p r q r' : List Nat} (h:Ins f m w p r) (k:Ins f m w q r'):TrEq f p q:=by
 induction p generalizing w q with
 | nil =>
  obtain ⟨h1,h2,h3⟩:=h
  injection h1 with h1
  subst h1
  cases q with
  | nil=>exact TrEq.refl f []
  | cons d q =>
   have g1:=cutP_first f hs k.1 (isFirst_head f d q)
   have:=h3 d g1
   rw [k.2.1 d (by simp)] at this;cases this
 | cons c p ih =>
  have g1:=cutP_first f hs h.1 (isFirst_head f c p)
  have g3:=Ins.first f hs k g1 (h.2.1 c (by simp))
  obtain ⟨k1,k2,k3⟩:=k
  obtain ⟨h1,h2,h3⟩:=h
  rw [cutP_cons,if_pos g1] at h1
  rw [cutP_erase f hs g3 g1] at k1
  exact (TrEq.cons_iff f).2 ⟨g3,ih ⟨h1,fun x hx=>h2 x (by simp [hx]),h3⟩ ⟨k1,fun x hx=>k2 x (List.mem_of_mem_erase hx),k3⟩⟩
end
end Go.Proofs.YtpenijicdldipaaDoor.Q
