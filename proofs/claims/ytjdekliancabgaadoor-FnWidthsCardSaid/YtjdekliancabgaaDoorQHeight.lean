import Derived.Test.YtjdekliancabgaaDoorQFoata
set_option linter.unusedVariables false
set_option linter.unusedSimpArgs false
namespace Go.Proofs.YtjdekliancabgaaDoor.Q
open Go.RowKit Go.Proofs.YtjdekliancabgaaDoorW.PrintWords
section
variable (f:Nat → Nat → Bool)
def fst2 (s:(Nat → Nat) × (Nat → Nat → Bool)) (a:Nat):(Nat → Nat) × (Nat → Nat → Bool):=(fun c=>if f a c = true then max (s.1 c) (s.1 a + 1) else s.1 c,fun c h=>s.2 c h || (decide (c = a) && decide (h = s.1 a + 1)))
theorem fst2_comm {a b:Nat} (h1:f a b = false) (h2:f b a = false) (s:(Nat → Nat) × (Nat → Nat → Bool)):fst2 f (fst2 f s a) b = fst2 f (fst2 f s b) a:=by
  refine Prod.ext (funext fun c=>?_) (funext fun c=>funext fun h=>?_)
  · simp only [fst2,h1,h2,Bool.false_eq_true,if_false]
    split <;> split <;> omega
  · simp only [fst2,h1,h2,Bool.false_eq_true,if_false]
    rw [Bool.or_right_comm]
theorem fst2_pull (hs:∀ a b,f a b = f b a) (a:Nat):∀ (v:List Nat) (s:(Nat → Nat) × (Nat → Nat → Bool)),isFirst f v a = true → v.foldl (fst2 f) s = (v.erase a).foldl (fst2 f) (fst2 f s a):=by
  intro v
  induction v with
  | nil=>intro s h;simp [isFirst] at h
  | cons b v ih =>
    intro s h
    by_cases e:b = a
    · subst e
      rw [List.erase_cons_head];rfl
    · have h4:f b a = false ∧ isFirst f v a = true:=by simpa [isFirst,e] using h
      rw [List.erase_cons_tail (by simpa using e),List.foldl_cons,List.foldl_cons,ih _ h4.2,fst2_comm f (by rw [hs];exact h4.1) h4.1]
theorem fst2_TrEq (hs:∀ a b,f a b = f b a):∀ {u v:List Nat},TrEq f u v → ∀ s:(Nat → Nat) × (Nat → Nat → Bool),u.foldl (fst2 f) s = v.foldl (fst2 f) s:=by
  intro u
  induction u with
  | nil=>intro v h s;rw [TrEq.nil_iff] at h;subst h;rfl
  | cons a u ih =>
    intro v h s
    obtain ⟨h1,h2⟩:=(TrEq.cons_iff f).1 h
    rw [fst2_pull f hs a v s h1,List.foldl_cons,ih h2]
theorem fst2_fst:∀ (l:List Nat) (g:Nat → Nat) (n:Nat) (P:Nat → Nat → Bool),(l.foldl (fst2 f) (g,P)).1 = (l.foldl (fst1 f) (g,n)).1:=by
  intro l
  induction l with
  | nil=>intro g n P;rfl
  | cons a l ih=>intro g n P;rw [List.foldl_cons,List.foldl_cons];exact ih _ _ _
theorem hts_fst1 (w:List Nat) (i:Nat) (hi:i < w.length):(hts f w (i + 1)).getD i 0 = ((w.take i).foldl (fst1 f) (fun _=>0,0)).1 (w.getD i 0) + 1:=by
  obtain ⟨_,h2⟩:=fst1_hts f w i (by omega)
  generalize (w.take i).foldl (fst1 f) (fun _=>0,0) = s at h2
  rw [hts_last]
  obtain ⟨p1,p2,p3⟩:=hPart_spec f w (hts f w i) i i
  obtain ⟨q1,q2⟩:=h2 (w.getD i 0)
  have a1:hPart f w (hts f w i) i i ≤ s.1 (w.getD i 0) + 1:=by
    rcases p3 with p3 | ⟨j,j1,j2,j3⟩
    · omega
    · have:=q1 j j1 j2;omega
  have a2:s.1 (w.getD i 0) + 1 ≤ hPart f w (hts f w i) i i:=by
    rcases q2 with q2 | ⟨j,j1,j2,j3⟩
    · omega
    · have:=p2 j j1 j2;omega
  omega
theorem fst2_hts (w:List Nat):∀ i,i ≤ w.length → ∀ c h,((w.take i).foldl (fst2 f) (fun _=>0,fun _ _=>false)).2 c h = true ↔ ∃ j,j < i ∧ w.getD j 0 = c ∧ (hts f w i).getD j 0 = h:=by
  intro i
  induction i with
  | zero=>intro _ c h;simp
  | succ i ih =>
    intro hi c h
    have et:w.take (i + 1) = w.take i ++ [w.getD i 0]:=by
      rw [List.take_add_one,List.getElem?_eq_getElem (by omega),List.getD_eq_getElem?_getD,List.getElem?_eq_getElem (by omega)];rfl
    rw [et,List.foldl_append]
    have e1:=fst2_fst f (w.take i) (fun _=>0) 0 (fun _ _=>false)
    have ih' := ih (by omega) c h
    have hh:=hts_fst1 f w i (by omega)
    simp only [List.foldl_cons,List.foldl_nil,fst2,Bool.or_eq_true,Bool.and_eq_true,decide_eq_true_eq]
    rw [ih', e1,← hh]
    constructor
    · rintro (⟨j,j1,j2,j3⟩ | ⟨h1,h2⟩)
      · exact ⟨j,by omega,j2,by rw [hts_prefix f w i j j1];exact j3⟩
      · exact ⟨i,by omega,h1.symm,h2.symm⟩
    · rintro ⟨j,j1,j2,j3⟩
      by_cases e:j = i
      · subst e;exact .inr ⟨j2.symm,j3.symm⟩
      · rw [hts_prefix f w i j (by omega)] at j3
        exact .inl ⟨j,by omega,j2,j3⟩
theorem foata_bits (w:List Nat) (s c:Nat) (h:s < (foataP f w).length):((foataP f w).getD s 0).testBit c = (w.foldl (fst2 f) (fun _=>0,fun _ _=>false)).2 c (s + 1):=by
  have h1:=(stepInv f w w.length).bits s c h
  have h2:=fst2_hts f w w.length (Nat.le_refl _) c (s + 1)
  rw [List.take_length] at h2
  rw [Bool.eq_iff_iff]
  exact h1.trans h2.symm
theorem foataP_TrEq (hs:∀ a b,f a b = f b a) {u v:List Nat} (h:TrEq f u v):foataP f u = foataP f v:=by
  have hl:=foataP_length_TrEq f hs h
  refine List.ext_getElem hl (fun s h1 h2=>?_)
  have e1:(foataP f u)[s] = (foataP f u).getD s 0:=by rw [List.getD_eq_getElem?_getD,List.getElem?_eq_getElem h1];rfl
  have e2:(foataP f v)[s] = (foataP f v).getD s 0:=by rw [List.getD_eq_getElem?_getD,List.getElem?_eq_getElem h2];rfl
  rw [e1,e2]
  exact bits_ext fun c=>by rw [foata_bits f u s c h1,foata_bits f v s c h2,fst2_TrEq f hs h]
def hE (w:List Nat) (i:Nat):Nat:=(hts f w w.length).getD i 0
theorem hE_spec (w:List Nat) (i:Nat) (hi:i < w.length):1 ≤ hE f w i ∧ (∀ j,j < i → f (w.getD j 0) (w.getD i 0) = true → hE f w j + 1 ≤ hE f w i) ∧ (hE f w i = 1 ∨ ∃ j,j < i ∧ f (w.getD j 0) (w.getD i 0) = true ∧ hE f w i = hE f w j + 1):=by
  have g:∀ j k,j < k → k ≤ w.length → (hts f w k).getD j 0 = hE f w j:=fun j k h1 h2=>by
    unfold hE
    have a:=hts_getD f w (k - j - 1) j
    have b:=hts_getD f w (w.length - j - 1) j
    rw [show j + 1 + (k - j - 1) = k by omega] at a
    rw [show j + 1 + (w.length - j - 1) = w.length by omega] at b
    rw [a,b]
  have e:=hts_last f w i
  rw [g i (i + 1) (by omega) (by omega)] at e
  rw [e]
  obtain ⟨p1,p2,p3⟩:=hPart_spec f w (hts f w i) i i
  refine ⟨p1,fun j hj hf=>?_,?_⟩
  · have:=p2 j hj hf
    rwa [g j i hj (by omega)] at this
  · rcases p3 with p3 | ⟨j,j1,j2,j3⟩
    · exact .inl p3
    · exact .inr ⟨j,j1,j2,by rwa [g j i j1 (by omega)] at j3⟩
theorem foata_bit (w:List Nat) (s c:Nat) (h:s < (foataP f w).length):((foataP f w).getD s 0).testBit c = true ↔ ∃ j,j < w.length ∧ w.getD j 0 = c ∧ hE f w j = s + 1:=(stepInv f w w.length).bits s c h
theorem hE_ord (w:List Nat) (i k:Nat) (h:ordP f w i k = true):i = k ∨ hE f w i < hE f w k:=by
  refine clos_sound (f:=eP f w) (R:=fun i k=>i = k ∨ hE f w i < hE f w k) (fun i=>.inl rfl) (fun i k he=>?_) (fun i j k h1 h2=>?_) h
  · have hlt:=eP_lt he
    unfold eP at he
    rw [Bool.and_eq_true] at he
    have:=(hE_spec f w k hlt.2).2.1 i hlt.1 he.2
    exact .inr (by omega)
  · rcases h1 with rfl | h1
    · exact h2
    · rcases h2 with rfl | h2
      · exact .inr h1
      · exact .inr (by omega)
end
end Go.Proofs.YtjdekliancabgaaDoor.Q
