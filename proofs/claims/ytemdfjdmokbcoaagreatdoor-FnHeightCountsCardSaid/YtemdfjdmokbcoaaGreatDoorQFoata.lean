import Derived.Test.YtemdfjdmokbcoaaGreatDoorQOrder
set_option linter.unusedVariables false
set_option linter.unusedSimpArgs false
namespace Go.Proofs.YtemdfjdmokbcoaaGreatDoor.Q
open Go.RowKit Go.Proofs.YtemdfjdmokbcoaaGreatDoorW.PrintWords
section
variable (f:Nat → Nat → Bool) (w:List Nat)
def hPart (H:List Nat) (i:Nat):Nat → Nat
  | 0=>1
  | k + 1=>if f (w.getD k 0) (w.getD i 0) = true ∧ hPart H i k < H.getD k 0 + 1 then H.getD k 0 + 1 else hPart H i k
def hts:Nat → List Nat
  | 0=>[]
  | i + 1=>hts i ++ [hPart f w (hts i) i i]
theorem hts_length (i:Nat):(hts f w i).length = i:=by
  induction i with
  | zero=>rfl
  | succ i ih=>simp [hts,ih]
def stepF (out:List Nat) (h a:Nat):List Nat :=
  let o:=out ++ List.replicate (h - out.length) 0
  o.set (h - 1) (o.getD (h - 1) 0 ||| 2 ^ a)
def stp:Nat → List Nat
  | 0=>[]
  | i + 1=>stepF (stp i) ((hts f w (i + 1)).getD i 0) (w.getD i 0)
def foataP:List Nat:=stp f w w.length
theorem hts_last (i:Nat):(hts f w (i + 1)).getD i 0 = hPart f w (hts f w i) i i:=by
  simp [hts,List.getD_eq_getElem?_getD,hts_length]
theorem hts_prefix (i k:Nat) (h:k < i):(hts f w (i + 1)).getD k 0 = (hts f w i).getD k 0:=by
  simp only [hts,List.getD_eq_getElem?_getD]
  rw [List.getElem?_append_left (by rw [hts_length];exact h)]
theorem hPart_spec (H : List Nat) (i : Nat) (k : Nat) : 1 ≤ hPart f w H i k ∧ (∀ j, j < k → f (w.getD j 0) (w.getD i 0) = true → H.getD j 0 + 1 ≤ hPart f w H i k) ∧
    (hPart f w H i k = 1 ∨ ∃ j,j < k ∧ f (w.getD j 0) (w.getD i 0) = true ∧ hPart f w H i k = H.getD j 0 + 1):=by
  induction k with
  | zero=>exact ⟨by simp [hPart],by intro j hj;omega,.inl rfl⟩
  | succ k ih =>
    obtain ⟨h1,h2,h3⟩:=ih
    simp only [hPart]
    split
    · rename_i c
      refine ⟨by omega,fun j hj hf=>?_,.inr ⟨k,by omega,c.1,rfl⟩⟩
      by_cases e:j = k
      · subst e;omega
      · have:=h2 j (by omega) hf;omega
    · rename_i c
      refine ⟨h1,fun j hj hf=>?_,?_⟩
      · by_cases e:j = k
        · subst e
          by_cases g:hPart f w H i j < H.getD j 0 + 1
          · exact absurd ⟨hf,g⟩ c
          · omega
        · exact h2 j (by omega) hf
      · rcases h3 with h3 | ⟨j,h4,h5,h6⟩
        · exact .inl h3
        · exact .inr ⟨j,by omega,h5,h6⟩
structure StepInv (i:Nat):Prop where
  pos:∀ j,j < i → 1 ≤ (hts f w i).getD j 0 ∧ (hts f w i).getD j 0 ≤ (stp f w i).length
  bits:∀ s c,s < (stp f w i).length → (((stp f w i).getD s 0).testBit c = true ↔ ∃ j,j < i ∧ w.getD j 0 = c ∧ (hts f w i).getD j 0 = s + 1)
  some:∀ s,s < (stp f w i).length → ∃ j,j < i ∧ (hts f w i).getD j 0 = s + 1
theorem getD_set (l:List Nat) (i j v:Nat) (h:i < l.length):(l.set i v).getD j 0 = if i = j then v else l.getD j 0:=by
  simp only [List.getD_eq_getElem?_getD]
  by_cases e:i = j
  · subst e;simp [h]
  · rw [if_neg e,List.getElem?_set_ne e]
theorem stepInv:∀ i,StepInv f w i
  | 0=>⟨by intro j hj;omega,by intro s c hs;simp [stp] at hs,by intro s hs;simp [stp] at hs⟩
  | i + 1=>by
    have ih:=stepInv i
    have hp:=hPart_spec f w (hts f w i) i i
    have hl:=hts_last f w i
    have hpre:=fun k hk=>hts_prefix f w i k hk
    generalize eh:(hts f w (i + 1)).getD i 0 = h at *
    rw [hl] at eh
    -- the new height is at most one more than the steps so far
    have hle:h ≤ (stp f w i).length + 1:=by
      rcases hp.2.2 with e | ⟨j,hj,hf,e⟩
      · omega
      · have:=(ih.pos j hj).2;omega
    have h1:1 ≤ h:=by omega
    have hS:stp f w (i + 1) = stepF (stp f w i) h (w.getD i 0):=by simp only [stp];rw [hts_last,← hl]
    generalize hO:stp f w i ++ List.replicate (h - (stp f w i).length) 0 = o
    have ho:o.length = max h (stp f w i).length:=by rw [← hO];simp;omega
    have hog:∀ s,o.getD s 0 = (stp f w i).getD s 0:=by
      intro s
      rw [← hO]
      simp only [List.getD_eq_getElem?_getD]
      by_cases hs:s < (stp f w i).length
      · rw [List.getElem?_append_left hs]
      · rw [List.getElem?_append_right (by omega),List.getElem?_eq_none (l:=stp f w i) (by omega)]
        by_cases g:s - (stp f w i).length < h - (stp f w i).length
        · rw [List.getElem?_replicate,if_pos g];rfl
        · rw [List.getElem?_replicate,if_neg g]
    have hSo:stp f w (i + 1) = o.set (h - 1) (o.getD (h - 1) 0 ||| 2 ^ (w.getD i 0)):=by rw [hS];simp only [stepF];rw [hO]
    have hlen:(stp f w (i + 1)).length = max h (stp f w i).length:=by rw [hSo,List.length_set,ho]
    have hget:∀ s,(stp f w (i + 1)).getD s 0 = if h - 1 = s then (stp f w i).getD s 0 ||| 2 ^ (w.getD i 0) else (stp f w i).getD s 0:=by
      intro s
      rw [hSo,getD_set _ _ _ _ (by omega)]
      by_cases e:h - 1 = s
      · rw [if_pos e,if_pos e,hog,e]
      · rw [if_neg e,if_neg e,hog]
    have hall:∀ j,j < i + 1 → (hts f w (i + 1)).getD j 0 = if j = i then h else (hts f w i).getD j 0:=by
      intro j hj
      by_cases e:j = i
      · subst e;rw [if_pos rfl,hl];exact (hts_last f w j).trans rfl
      · rw [if_neg e,hpre j (by omega)]
    refine ⟨fun j hj=>?_,fun s c hs=>?_,fun s hs=>?_⟩
    · rw [hall j hj,hlen]
      by_cases e:j = i
      · rw [if_pos e];omega
      · rw [if_neg e]
        have:=ih.pos j (by omega)
        omega
    · rw [hget s]
      have old:s < (stp f w i).length → (((stp f w i).getD s 0).testBit c = true ↔ ∃ j,j < i ∧ w.getD j 0 = c ∧ (hts f w i).getD j 0 = s + 1):=ih.bits s c
      have old' : ((stp f w i).getD s 0).testBit c = true ↔ ∃ j,j < i ∧ w.getD j 0 = c ∧ (hts f w i).getD j 0 = s + 1:=by
        by_cases g:s < (stp f w i).length
        · exact old g
        · rw [List.getD_eq_getElem?_getD,List.getElem?_eq_none (by omega)]
          simp only [Option.getD_none,Nat.zero_testBit,Bool.false_eq_true,false_iff]
          rintro ⟨j,hj,_,e⟩
          have:=(ih.pos j hj).2
          omega
      by_cases e:h - 1 = s
      · rw [if_pos e,Nat.testBit_or,testBit_one,Bool.or_eq_true,old', decide_eq_true_eq]
        constructor
        · rintro (⟨j,hj,h2,h3⟩ | h2)
          · exact ⟨j,by omega,h2,by rw [hall j (by omega),if_neg (by omega)];exact h3⟩
          · exact ⟨i,by omega,h2,by rw [hall i (by omega),if_pos rfl];omega⟩
        · rintro ⟨j,hj,h2,h3⟩
          by_cases e2:j = i
          · subst e2;exact .inr h2
          · rw [hall j hj,if_neg e2] at h3
            exact .inl ⟨j,by omega,h2,h3⟩
      · rw [if_neg e,old']
        constructor
        · rintro ⟨j,hj,h2,h3⟩
          exact ⟨j,by omega,h2,by rw [hall j (by omega),if_neg (by omega)];exact h3⟩
        · rintro ⟨j,hj,h2,h3⟩
          by_cases e2:j = i
          · subst e2;rw [hall j hj,if_pos rfl] at h3;exact absurd (show h - 1 = s by rw [h3];rfl) e
          · rw [hall j hj,if_neg e2] at h3
            exact ⟨j,by omega,h2,h3⟩
    · by_cases g:s < (stp f w i).length
      · obtain ⟨j,hj,h2⟩:=ih.some s g
        exact ⟨j,by omega,by rw [hall j (by omega),if_neg (by omega)];exact h2⟩
      · exact ⟨i,by omega,by rw [hall i (by omega),if_pos rfl];omega⟩
theorem meets (n : Nat) (hw : ∀ x ∈ w, x < n) (i : Nat) (hi : i < w.length) (s : Nat) (hs : s < (stp f w i).length) (a : Nat) :
    ((stp f w i).getD s 0 &&& mk n (f a) = 0) ↔ ∀ j,j < i → f a (w.getD j 0) = true → (hts f w i).getD j 0 ≠ s + 1:=by
  have ih:=stepInv f w i
  constructor
  · intro h0 j hj hf e
    have hb:=(ih.bits s (w.getD j 0) hs).2 ⟨j,hj,rfl,e⟩
    have:=congrArg (fun z=>z.testBit (w.getD j 0)) h0
    simp only [Nat.testBit_and,hb,testBit_mk,hf,Bool.and_true,Bool.true_and,Nat.zero_testBit,decide_eq_false_iff_not] at this
    have hx:w.getD j 0 < n:=by
      rw [List.getD_eq_getElem?_getD,List.getElem?_eq_getElem (by omega)]
      exact hw _ (List.getElem_mem (by omega))
    exact this hx
  · intro h0
    refine bits_ext fun c=>?_
    rw [Nat.testBit_and,Nat.zero_testBit,Bool.and_eq_false_iff]
    by_cases hb:((stp f w i).getD s 0).testBit c = true
    · obtain ⟨j,hj,e1,e2⟩:=(ih.bits s c hs).1 hb
      right
      rw [testBit_mk]
      by_cases hf:f a c = true
      · exact absurd e2 (h0 j hj (by rw [e1];exact hf))
      · simp [hf]
    · left
      simpa using hb
theorem height_seen (hs : ∀ a b, f a b = f b a) (n : Nat) (hw : ∀ x ∈ w, x < n) (i : Nat) (hi : i < w.length) (l : Nat) (hl : l ≤ (stp f w i).length)
    (h1:l = 0 ∨ ¬ ((stp f w i).getD (l - 1) 0 &&& mk n (f (w.getD i 0)) = 0)) (h2:∀ s,l ≤ s → s < (stp f w i).length → (stp f w i).getD s 0 &&& mk n (f (w.getD i 0)) = 0) :
    hPart f w (hts f w i) i i = l + 1:=by
  have hp:=hPart_spec f w (hts f w i) i i
  have ih:=stepInv f w i
  have up:∀ j,j < i → f (w.getD j 0) (w.getD i 0) = true → (hts f w i).getD j 0 ≤ l:=by
    intro j hj hf
    have hpos:=ih.pos j hj
    by_cases g:(hts f w i).getD j 0 ≤ l
    · exact g
    · exact absurd (show (hts f w i).getD j 0 = ((hts f w i).getD j 0 - 1) + 1 by omega) ((meets f w n hw i hi _ (by omega) _).1 (h2 ((hts f w i).getD j 0 - 1) (by omega) (by omega)) j hj (by rw [hs];exact hf))
  rcases h1 with rfl | h1
  · rcases hp.2.2 with e | ⟨j,hj,hf,e⟩
    · exact e
    · have:=up j hj hf
      have:=(ih.pos j hj).1
      omega
  · by_cases hl0:l = 0
    · subst hl0
      rcases hp.2.2 with e | ⟨j,hj,hf,e⟩
      · exact e
      · have:=up j hj hf
        have:=(ih.pos j hj).1
        omega
    · have : ∃ j, j < i ∧ f (w.getD j 0) (w.getD i 0) = true ∧ (hts f w i).getD j 0 = l := by
        refine Classical.byContradiction fun hn=>h1 ((meets f w n hw i hi (l - 1) (by omega) _).2 fun j hj hf e=>hn ⟨j,hj,by rw [hs];exact hf,by omega⟩)
      obtain ⟨j,hj,hf,e⟩:=this
      have h3:=hp.2.1 j hj hf
      rcases hp.2.2 with e' | ⟨j', hj', hf', e'⟩
      · omega
      · have:=up j' hj' hf'
        omega
theorem stp_lt (n:Nat) (hw:∀ x ∈ w,x < n) (i:Nat) (hi:i ≤ w.length):∀ s,(stp f w i).getD s 0 < 2 ^ n:=by
  intro s
  refine lt_of_bits fun c hc=>?_
  by_cases hs:s < (stp f w i).length
  · by_cases hb:((stp f w i).getD s 0).testBit c = true
    · obtain ⟨j,hj,e1,e2⟩:=((stepInv f w i).bits s c hs).1 hb
      have hx:w.getD j 0 < n:=by
        rw [List.getD_eq_getElem?_getD,List.getElem?_eq_getElem (by omega)]
        exact hw _ (List.getElem_mem (by omega))
      omega
    · simpa using hb
  · rw [List.getD_eq_getElem?_getD,List.getElem?_eq_none (by omega)]
    simp
theorem stp_length_le (i:Nat):(stp f w i).length ≤ i:=by
  induction i with
  | zero=>simp [stp]
  | succ i ih =>
    have hp:=hPart_spec f w (hts f w i) i i
    have hle:hPart f w (hts f w i) i i ≤ (stp f w i).length + 1:=by
      rcases hp.2.2 with e | ⟨j,hj,hf,e⟩
      · omega
      · have:=((stepInv f w i).pos j hj).2;omega
    simp only [stp,stepF,hts_last,List.length_set,List.length_append,List.length_replicate]
    omega
end
section
variable (f:Nat → Nat → Bool)
def fst1 (s:(Nat → Nat) × Nat) (a:Nat):(Nat → Nat) × Nat:=(fun c=>if f a c = true then max (s.1 c) (s.1 a + 1) else s.1 c,max s.2 (s.1 a + 1))
theorem fst1_comm {a b:Nat} (h1:f a b = false) (h2:f b a = false) (s:(Nat → Nat) × Nat):fst1 f (fst1 f s a) b = fst1 f (fst1 f s b) a:=by
  refine Prod.ext (funext fun c=>?_) ?_
  · simp only [fst1,h1,h2,Bool.false_eq_true,if_false]
    split <;> split <;> omega
  · simp only [fst1,h1,h2,Bool.false_eq_true,if_false]
    omega
theorem fst1_pull (hs:∀ a b,f a b = f b a) (a:Nat):∀ (v:List Nat) (s:(Nat → Nat) × Nat),isFirst f v a = true → v.foldl (fst1 f) s = (v.erase a).foldl (fst1 f) (fst1 f s a):=by
  intro v
  induction v with
  | nil=>intro s h;simp [isFirst] at h
  | cons b v ih =>
    intro s h
    by_cases e:b = a
    · subst e
      rw [List.erase_cons_head];rfl
    · have h4:f b a = false ∧ isFirst f v a = true:=by simpa [isFirst,e] using h
      rw [List.erase_cons_tail (by simpa using e),List.foldl_cons,List.foldl_cons,ih _ h4.2,fst1_comm f (by rw [hs];exact h4.1) h4.1]
theorem fst1_TrEq (hs:∀ a b,f a b = f b a):∀ {u v:List Nat},TrEq f u v → ∀ s:(Nat → Nat) × Nat,u.foldl (fst1 f) s = v.foldl (fst1 f) s:=by
  intro u
  induction u with
  | nil=>intro v h s;rw [TrEq.nil_iff] at h;subst h;rfl
  | cons a u ih =>
    intro v h s
    obtain ⟨h1,h2⟩:=(TrEq.cons_iff f).1 h
    rw [fst1_pull f hs a v s h1,List.foldl_cons,ih h2]
theorem stp_length_succ (w:List Nat) (i:Nat):(stp f w (i + 1)).length = max (stp f w i).length ((hts f w (i + 1)).getD i 0):=by
  simp only [stp,stepF,List.length_set,List.length_append,List.length_replicate]
  omega
theorem fst1_hts (w : List Nat) : ∀ i, i ≤ w.length → ((w.take i).foldl (fst1 f) (fun _ => 0, 0)).2 = (stp f w i).length ∧ ∀ c,
    (∀ j,j < i → f (w.getD j 0) c = true → (hts f w i).getD j 0 ≤ ((w.take i).foldl (fst1 f) (fun _=>0,0)).1 c) ∧
    (((w.take i).foldl (fst1 f) (fun _=>0,0)).1 c = 0 ∨ ∃ j,j < i ∧ f (w.getD j 0) c = true ∧ ((w.take i).foldl (fst1 f) (fun _=>0,0)).1 c = (hts f w i).getD j 0):=by
  intro i
  induction i with
  | zero=>intro _;exact ⟨rfl,fun c=>⟨fun j hj=>by omega,.inl rfl⟩⟩
  | succ i ih =>
    intro hi
    obtain ⟨h1,h2⟩:=ih (by omega)
    have et:w.take (i + 1) = w.take i ++ [w.getD i 0]:=by
      rw [List.take_add_one,List.getElem?_eq_getElem (by omega),List.getD_eq_getElem?_getD,List.getElem?_eq_getElem (by omega)];rfl
    rw [et,List.foldl_append]
    generalize (w.take i).foldl (fst1 f) (fun _=>0,0) = s at h1 h2
    have hh:(hts f w (i + 1)).getD i 0 = s.1 (w.getD i 0) + 1:=by
      rw [hts_last]
      obtain ⟨p1,p2,p3⟩:=hPart_spec f w (hts f w i) i i
      obtain ⟨q1,q2⟩:=h2 (w.getD i 0)
      have a1:hPart f w (hts f w i) i i ≤ s.1 (w.getD i 0) + 1:=by
        rcases p3 with p3 | ⟨j,j1,j2,j3⟩
        · omega
        · have:=q1 j j1 j2;omega
      have a2:s.1 (w.getD i 0) + 1 ≤ hPart f w (hts f w i) i i:=by
        rcases q2 with q2 | ⟨j,j1,j2,j3⟩
        · omega
        · have:=p2 j j1 j2;omega
      omega
    simp only [List.foldl_cons,List.foldl_nil,fst1]
    refine ⟨by rw [stp_length_succ,hh,h1],fun c=>?_⟩
    obtain ⟨q1,q2⟩:=h2 c
    by_cases e:f (w.getD i 0) c = true
    · rw [if_pos e]
      refine ⟨fun j hj hf=>?_,?_⟩
      · by_cases ej:j = i
        · subst ej;omega
        · rw [hts_prefix f w i j (by omega)]
          have:=q1 j (by omega) hf;omega
      · by_cases g:s.1 c ≤ s.1 (w.getD i 0) + 1
        · exact .inr ⟨i,by omega,e,by omega⟩
        · rcases q2 with q2 | ⟨j,j1,j2,j3⟩
          · omega
          · exact .inr ⟨j,by omega,j2,by rw [hts_prefix f w i j j1];omega⟩
    · rw [if_neg e]
      refine ⟨fun j hj hf=>?_,?_⟩
      · by_cases ej:j = i
        · subst ej;exact absurd hf e
        · rw [hts_prefix f w i j (by omega)]
          exact q1 j (by omega) hf
      · rcases q2 with q2 | ⟨j,j1,j2,j3⟩
        · exact .inl q2
        · exact .inr ⟨j,by omega,j2,by rw [hts_prefix f w i j j1];omega⟩
theorem foataP_length_TrEq (hs:∀ a b,f a b = f b a) {u v:List Nat} (h:TrEq f u v):(foataP f u).length = (foataP f v).length:=by
  have h1:=(fst1_hts f u u.length (Nat.le_refl _)).1
  have h2:=(fst1_hts f v v.length (Nat.le_refl _)).1
  rw [List.take_length] at h1 h2
  unfold foataP
  rw [← h1,← h2,fst1_TrEq f hs h]
theorem hts_getD (w:List Nat):∀ (d i:Nat),(hts f w (i + 1 + d)).getD i 0 = (hts f w (i + 1)).getD i 0:=by
  intro d
  induction d with
  | zero=>intro i;rfl
  | succ d ih=>intro i;rw [← Nat.add_assoc,hts_prefix f w _ i (by omega),ih]
def ChainAt (g:Nat → Nat → Bool) (n:Nat) (B:Nat → Nat) (i:Nat):Prop :=
  1 ≤ B i ∧ (∀ k,i < k → k < n → g i k = true → B k + 1 ≤ B i) ∧ (B i = 1 ∨ ∃ k,i < k ∧ k < n ∧ g i k = true ∧ B i = B k + 1)
end
section
variable (f:Nat → Nat → Bool)
theorem isFirst_iff (c:Nat):∀ w:List Nat,isFirst f w c = true ↔ ∃ j,j < w.length ∧ w.getD j 0 = c ∧ ∀ k,k < j → f (w.getD k 0) c = false:=by
  intro w
  induction w with
  | nil=>simp [isFirst]
  | cons b w ih =>
    simp only [isFirst,Bool.or_eq_true,decide_eq_true_eq,Bool.and_eq_true,Bool.not_eq_true', ih]
    constructor
    · rintro (rfl | ⟨h,j,j1,j2,j3⟩)
      · exact ⟨0,by simp,by simp,fun k hk=>by omega⟩
      · refine ⟨j + 1,by simp;omega,by simpa using j2,fun k hk=>?_⟩
        cases k with
        | zero=>simpa using h
        | succ k=>simpa using j3 k (by omega)
    · rintro ⟨j,j1,j2,j3⟩
      cases j with
      | zero=>exact .inl (by simpa using j2)
      | succ j =>
        refine .inr ⟨by simpa using j3 0 (by omega),j,by simp at j1;omega,by simpa using j2,fun k hk=>?_⟩
        simpa using j3 (k + 1) (by omega)
theorem hts_one (w:List Nat) (j:Nat) (hj:j < w.length):(hts f w w.length).getD j 0 = 1 ↔ ∀ k,k < j → f (w.getD k 0) (w.getD j 0) = false:=by
  have hget:∀ k m,k < m → m ≤ w.length → (hts f w m).getD k 0 = (hts f w (k + 1)).getD k 0:=fun k m h1 h2=>by
    have:=hts_getD f w (m - (k + 1)) k
    rwa [show k + 1 + (m - (k + 1)) = m by omega] at this
  obtain ⟨p1,p2,p3⟩:=hPart_spec f w (hts f w j) j j
  rw [hget j w.length hj (Nat.le_refl _),hts_last]
  constructor
  · intro h k hk
    cases e:f (w.getD k 0) (w.getD j 0) with
    | false=>rfl
    | true =>
      have:=p2 k hk e
      have q:=(hPart_spec f w (hts f w k) k k).1
      rw [hget k j hk (by omega),hts_last] at this
      omega
  · intro h
    rcases p3 with p3 | ⟨k,k1,k2,k3⟩
    · exact p3
    · rw [h k k1] at k2;cases k2
theorem foataP_first {n:Nat} {w:List Nat} (hw:∀ x ∈ w,x < n) (hne:w ≠ []):0 < (foataP f w).length ∧ (foataP f w).getD 0 0 = mk n (isFirst f w):=by
  have I:=stepInv f w w.length
  have hl:0 < w.length:=List.length_pos_iff.2 hne
  have h0:=I.pos 0 hl
  have hpos:0 < (stp f w w.length).length:=by omega
  refine ⟨hpos,bits_ext fun c=>?_⟩
  rw [Bool.eq_iff_iff,testBit_mk,Bool.and_eq_true,decide_eq_true_eq,isFirst_iff]
  unfold foataP
  rw [I.bits 0 c hpos]
  constructor
  · rintro ⟨j,j1,rfl,j3⟩
    refine ⟨?_,j,j1,rfl,(hts_one f w j j1).1 (by omega)⟩
    rw [List.getD_eq_getElem?_getD,List.getElem?_eq_getElem j1]
    exact hw _ (List.getElem_mem j1)
  · rintro ⟨_,j,j1,rfl,j3⟩
    exact ⟨j,j1,rfl,by rw [(hts_one f w j j1).2 j3]⟩
end
end Go.Proofs.YtemdfjdmokbcoaaGreatDoor.Q
