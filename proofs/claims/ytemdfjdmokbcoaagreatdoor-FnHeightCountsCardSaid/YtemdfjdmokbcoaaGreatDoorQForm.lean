import Derived.Test.YtemdfjdmokbcoaaGreatDoorQHeight
import Derived.Test.YtemdfjdmokbcoaaGreatDoorQWide
import Derived.Test.YtemdfjdmokbcoaaGreatDoorQCF
import Derived.Test.YtemdfjdmokbcoaaGreatDoorQUp
import Derived.Test.YtemdfjdmokbcoaaGreatDoorQCount
set_option linter.unusedVariables false
set_option linter.unusedSimpArgs false
namespace Go.Proofs.YtemdfjdmokbcoaaGreatDoor.Q
open Go.RowKit Go.Proofs.YtemdfjdmokbcoaaGreatDoorW.PrintWords
theorem nodup_short {α:Type} [DecidableEq α]:∀ (l l' : List α),l.Nodup → (∀ x ∈ l,x ∈ l') → l.length ≤ l'.length:=by
  intro l
  induction l with
  | nil=>intro l' _ _;simp
  | cons a l ih =>
    intro l' hn hm
    rw [List.nodup_cons] at hn
    have ha:=hm a List.mem_cons_self
    have h1:=ih (l'.erase a) hn.2 (fun x hx=>(List.mem_erase_of_ne (show x ≠ a from fun e=>hn.1 (e ▸ hx))).2 (hm x (List.mem_cons_of_mem _ hx)))
    have h2:=List.length_erase_of_mem ha
    have h3:=List.length_pos_of_mem ha
    simp only [List.length_cons]
    omega
theorem nodup_same {α:Type} [DecidableEq α] (l l' : List α) (h:l.Nodup) (h' : l'.Nodup) (hm:∀ x,x ∈ l ↔ x ∈ l'):l.length = l'.length :=
  Nat.le_antisymm (nodup_short l l' h (fun x hx=>(hm x).1 hx)) (nodup_short l' l h' (fun x hx=>(hm x).2 hx))
section
variable (f:Nat → Nat → Bool)
theorem first_apart:∀ (l:List Nat),l.Nodup → (∀ x ∈ l,∀ y ∈ l,x ≠ y → f x y = false) → ∀ a ∈ l,isFirst f l a = true:=by
  intro l
  induction l with
  | nil=>intro _ _ a ha;simp at ha
  | cons b l ih =>
    intro hn hi a ha
    rw [List.nodup_cons] at hn
    simp only [isFirst,Bool.or_eq_true,decide_eq_true_eq,Bool.and_eq_true,Bool.not_eq_true']
    by_cases e:b = a
    · exact .inl e
    · have ha2:a ∈ l:=(List.mem_cons.1 ha).resolve_left (fun z=>e z.symm)
      exact .inr ⟨hi b List.mem_cons_self a ha e,ih hn.2 (fun x hx y hy=>hi x (List.mem_cons_of_mem _ hx) y (List.mem_cons_of_mem _ hy)) a ha2⟩
theorem first_front {v:List Nat} {a:Nat}:∀ {u:List Nat},isFirst f u a = true → isFirst f (u ++ v) a = true:=by
  intro u
  induction u with
  | nil=>intro h;simp [isFirst] at h
  | cons b u ih =>
    intro h
    simp only [isFirst,Bool.or_eq_true,decide_eq_true_eq,Bool.and_eq_true] at h
    simp only [List.cons_append,isFirst,Bool.or_eq_true,decide_eq_true_eq,Bool.and_eq_true]
    exact h.imp id (fun z=>⟨z.1,ih z.2⟩)
theorem first_over {v:List Nat} {a:Nat}:∀ {u:List Nat},(∀ d ∈ u,f d a = false) → isFirst f v a = true → isFirst f (u ++ v) a = true:=by
  intro u
  induction u with
  | nil=>intro _ h;exact h
  | cons b u ih =>
    intro hd h
    simp only [List.cons_append,isFirst,Bool.or_eq_true,decide_eq_true_eq,Bool.and_eq_true,Bool.not_eq_true']
    exact .inr ⟨hd b List.mem_cons_self,ih (fun d hm=>hd d (List.mem_cons_of_mem _ hm)) h⟩
theorem TrEq_front {u v:List Nat} (h:TrEq f u v):∀ (p:List Nat),TrEq f (p ++ u) (p ++ v):=by
  intro p
  induction p with
  | nil=>exact h
  | cons a p ih=>exact TrEq.cons f ih
theorem cut_step (hs:∀ a b,f a b = f b a):∀ (l w:List Nat),l.Nodup → (∀ a ∈ l,isFirst f w a = true) → ∃ r,cutP f l w = some r:=by
  intro l
  induction l with
  | nil=>intro w _ _;exact ⟨w,rfl⟩
  | cons a l ih =>
    intro w hn hf
    rw [List.nodup_cons] at hn
    have ha:=hf a List.mem_cons_self
    obtain ⟨r,h⟩:=ih (w.erase a) hn.2 (fun b hb=>(first_erase_of f hs (show b ≠ a from fun e=>hn.1 (e ▸ hb)) (hf b (List.mem_cons_of_mem _ hb)) ha).1)
    exact ⟨r,by rw [cutP_cons,if_pos ha,h]⟩
theorem height_step (hs:∀ a b,f a b = f b a) (l w:List Nat) (hne:l ≠ []) (hn:l.Nodup) (hi:∀ x ∈ l,∀ y ∈ l,x ≠ y → f x y = false) (hok:∀ b,isFirst f w b = true → ∃ c ∈ l,f c b = true):(foataP f (l ++ w)).length = (foataP f w).length + 1:=by
  have hlen:(l ++ w).length = l.length + w.length:=List.length_append
  have hpos:0 < l.length:=List.length_pos_iff.2 hne
  have gl:∀ i,i < l.length → (l ++ w).getD i 0 = l.getD i 0:=fun i h=>by
    rw [List.getD_eq_getElem?_getD,List.getD_eq_getElem?_getD,List.getElem?_append_left h]
  have gw:∀ k,(l ++ w).getD (l.length + k) 0 = w.getD k 0:=fun k=>by
    rw [List.getD_eq_getElem?_getD,List.getD_eq_getElem?_getD,List.getElem?_append_right (by omega),Nat.add_sub_cancel_left]
  have h1:∀ i,i < l.length → hE f (l ++ w) i = 1:=fun i h=>by
    rcases (hE_spec f (l ++ w) i (by omega)).2.2 with e | ⟨j,hj,hf,_⟩
    · exact e
    · rw [gl i h,gl j (by omega)] at hf
      have a1:l.getD j 0 = l[j]:=by simp [List.getD_eq_getElem?_getD,show j < l.length by omega]
      have a2:l.getD i 0 = l[i]:=by simp [List.getD_eq_getElem?_getD,h]
      have hne2:l[j] ≠ l[i]:=fun e=>by have:=(List.getElem_inj hn).1 e;omega
      rw [a1,a2,hi _ (List.getElem_mem _) _ (List.getElem_mem _) hne2] at hf
      cases hf
  have h2:∀ k,k < w.length → hE f (l ++ w) (l.length + k) = hE f w k + 1:=by
    intro k
    induction k using Nat.strongRecOn with
    | ind k ih =>
      intro hk
      obtain ⟨s1,s2,s3⟩:=hE_spec f (l ++ w) (l.length + k) (by omega)
      obtain ⟨t1,t2,t3⟩:=hE_spec f w k hk
      have lower:hE f w k + 1 ≤ hE f (l ++ w) (l.length + k):=by
        rcases t3 with t3 | ⟨j,hj,hf,e⟩
        · have hfirst : isFirst f w (w.getD k 0) = true := (isFirst_iff f _ w).2 ⟨k, hk, rfl, fun k' hk' => by
            cases e:f (w.getD k' 0) (w.getD k 0) with
            | false=>rfl
            | true =>
              have:=t2 k' hk' e
              have:=(hE_spec f w k' (by omega)).1
              omega⟩
          obtain ⟨c,hc,hf⟩:=hok _ hfirst
          obtain ⟨i,hil,rfl⟩:=List.getElem_of_mem hc
          have a1:l.getD i 0 = l[i]:=by simp [List.getD_eq_getElem?_getD,hil]
          have:=s2 i (by omega) (by rw [gl i hil,gw,a1];exact hf)
          rw [h1 i hil] at this
          omega
        · have:=s2 (l.length + j) (by omega) (by rw [gw,gw];exact hf)
          rw [ih j hj (by omega)] at this
          omega
      rcases s3 with s3 | ⟨j,hj,hf,e⟩
      · omega
      · by_cases c:j < l.length
        · rw [h1 j c] at e
          omega
        · obtain ⟨j', rfl⟩:∃ j', j = l.length + j' := ⟨j - l.length,by omega⟩
          rw [gw,gw] at hf
          have:=t2 j' (by omega) hf
          rw [ih j' (by omega) (by omega)] at e
          omega
  have hu1:1 ≤ (foataP f (l ++ w)).length:=by
    have:=hE_le f (l ++ w) 0 (by omega)
    rw [h1 0 hpos] at this
    exact this
  refine Nat.le_antisymm ?_ ?_
  · obtain ⟨j,hj,e⟩:=foata_some f (l ++ w) ((foataP f (l ++ w)).length - 1) (by omega)
    by_cases c:j < l.length
    · rw [h1 j c] at e
      omega
    · obtain ⟨j', rfl⟩:∃ j', j = l.length + j' := ⟨j - l.length,by omega⟩
      rw [h2 j' (by omega)] at e
      have:=hE_le f w j' (by omega)
      omega
  · by_cases c:(foataP f w).length = 0
    · omega
    · obtain ⟨j,hj,e⟩:=foata_some f w ((foataP f w).length - 1) (by omega)
      have:=hE_le f (l ++ w) (l.length + j) (by omega)
      rw [h2 j hj] at this
      omega
end
section
variable (m:Nat) (f:Nat → Nat → Bool)
def lw (s:Nat):List Nat:=(List.range m).filter fun a=>s.testBit a
theorem mem_lw (s a:Nat):a ∈ lw m s ↔ a < m ∧ s.testBit a = true:=by unfold lw;rw [List.mem_filter,List.mem_range]
theorem lw_nodup (s:Nat):(lw m s).Nodup:=List.Pairwise.filter _ List.nodup_range
theorem lw_length (s:Nat) (h:s < 2 ^ m):(lw m s).length = pcP s:=by
  have:=pcP_mk (fun a=>s.testBit a) m
  rw [← eq_mk h] at this
  exact this.symm
def fH (w:List Nat):Nat:=(foataP f w).length
def fF (w:List Nat):Nat:=(foataP f w).getD 0 0
theorem fF_some {w:List Nat} (hw:∀ x ∈ w,x < m) (hne:w ≠ []):fF f w = mk m (isFirst f w) ∧ fF f w ≠ 0 ∧ 0 < fH f w:=by
  obtain ⟨h1,h2⟩:=foataP_first f hw hne
  refine ⟨h2,fun e=>?_,h1⟩
  obtain ⟨a,ha⟩:=exists_first f hne
  have h3:=congrArg (fun z=>z.testBit a) (h2.symm.trans e)
  simp only [testBit_mk,Nat.zero_testBit,ha,Bool.and_true,decide_eq_false_iff_not] at h3
  exact h3 (hw a (isFirst_mem f ha))
variable (T:Nat → List (List Nat)) (hT:∀ j,(T j).Nodup ∧ ∀ w,w ∈ T j ↔ w.length = j ∧ (∀ x ∈ w,x < m) ∧ normalP f m w = w)
variable (ok:Nat → Nat → Bool) (hok:∀ x y,ok x y = true ↔ ∀ a,a < m → y.testBit a = true → ∃ c,c < m ∧ x.testBit c = true ∧ f c a = true)
variable (hs:∀ a b,f a b = f b a) (hr:∀ a,a < m → f a a = true)
include hs in
theorem normal_again {w:List Nat} (hw:∀ x ∈ w,x < m):normalP f m (normalP f m w) = normalP f m w :=
  (normalP_eq_iff f hs _ _ _ rfl (normalP_lt f hs hw) hw).2 (normalP_TrEq f hs _ w rfl hw)
include hT hok hs hr in
theorem form_count (s : Nat) (s0 : s ≠ 0) (hlt : s < 2 ^ m) (hst : ∀ a b, a < m → b < m → s.testBit a = true → s.testBit b = true → a ≠ b → f a b = false) (h j : Nat) (hj : pcP s ≤ j) :
    ((T j).filter fun w=>decide (fH f w = h + 1) && decide (fF f w = s)).length = ((T (j - pcP s)).filter fun w=>decide (fH f w = h) && ok s (fF f w)).length:=by
  have hn:=lw_nodup m s
  have hl:=lw_length m s hlt
  have hlm:∀ x ∈ lw m s,x < m:=fun x hx=>((mem_lw m s x).1 hx).1
  have hi:∀ x ∈ lw m s,∀ y ∈ lw m s,x ≠ y → f x y = false:=fun x hx y hy=>hst x y (hlm x hx) (hlm y hy) ((mem_lw m s x).1 hx).2 ((mem_lw m s y).1 hy).2
  have hne:lw m s ≠ []:=fun e=>by
    refine s0 (bits_ext fun a=>?_)
    rw [Nat.zero_testBit]
    cases g:s.testBit a with
    | false=>rfl
    | true =>
      by_cases c:a < m
      · have:=(mem_lw m s a).2 ⟨c,g⟩
        rw [e] at this
        simp at this
      · rw [Nat.testBit_lt_two_pow (Nat.lt_of_lt_of_le hlt (Nat.pow_le_pow_right (by decide) (by omega)))] at g
        cases g
  have okF:∀ w:List Nat,(∀ x ∈ w,x < m) → (ok s (fF f w) = true ↔ ∀ b,isFirst f w b = true → ∃ c ∈ lw m s,f c b = true):=fun w hw=>by
    rw [hok]
    by_cases e:w = []
    · subst e
      have e0:fF f [] = 0:=rfl
      rw [e0]
      constructor
      · intro _ b hb;simp [isFirst] at hb
      · intro _ a _ ha;rw [Nat.zero_testBit] at ha;cases ha
    · rw [(fF_some m f hw e).1]
      constructor
      · intro g b hb
        have hbm:=hw b (isFirst_mem f hb)
        obtain ⟨c,c1,c2,c3⟩:=g b hbm (by rw [testBit_mk,decide_eq_true hbm,hb];rfl)
        exact ⟨c,(mem_lw m s c).2 ⟨c1,c2⟩,c3⟩
      · intro g a ha hb
        rw [testBit_mk,decide_eq_true ha,Bool.true_and] at hb
        obtain ⟨c,c1,c2⟩:=g a hb
        exact ⟨c,((mem_lw m s c).1 c1).1,((mem_lw m s c).1 c1).2,c2⟩
  have hcat:∀ w:List Nat,(∀ x ∈ w,x < m) → ∀ x ∈ lw m s ++ w,x < m:=fun w hw x hx=>(List.mem_append.1 hx).elim (hlm x) (hw x)
  rw [← List.length_map (f:=fun w=>normalP f m (lw m s ++ w)) (as:=(T (j - pcP s)).filter fun w=>decide (fH f w = h) && ok s (fF f w))]
  refine nodup_same _ _ (List.Pairwise.filter _ (hT j).1) ?_ (fun w=>?_)
  · unfold List.Nodup
    rw [List.pairwise_map]
    refine List.Pairwise.imp_of_mem (fun {a b} ha hb hab e=>hab ?_) (List.Pairwise.filter _ (hT (j - pcP s)).1)
    obtain ⟨_,a2,a3⟩:=((hT _).2 a).1 (List.mem_filter.1 ha).1
    obtain ⟨_,b2,b3⟩:=((hT _).2 b).1 (List.mem_filter.1 hb).1
    have h1:=(normalP_eq_iff f hs _ _ _ rfl (hcat a a2) (hcat b b2)).1 e
    obtain ⟨r', r1,r2⟩:=cutP_TrEq_right f hs h1 (cutP_self_append f (lw m s) a)
    rw [cutP_self_append] at r1
    obtain rfl:=Option.some.inj r1
    rw [← a3,← b3]
    exact (normalP_eq_iff f hs _ _ _ rfl a2 b2).2 r2
  · rw [List.mem_filter,List.mem_map]
    simp only [Bool.and_eq_true,decide_eq_true_eq]
    constructor
    · rintro ⟨hw,hH,hF⟩
      obtain ⟨w1,w2,w3⟩:=((hT j).2 w).1 hw
      have wne:w ≠ []:=fun e=>by rw [e] at hF;exact s0 hF.symm
      have hfs:=(fF_some m f w2 wne).1.symm.trans hF
      have hfa:∀ a ∈ lw m s,isFirst f w a = true:=fun a ha=>by
        have h2:=((mem_lw m s a).1 ha)
        have:=h2.2
        rw [← hfs,testBit_mk,decide_eq_true h2.1,Bool.true_and] at this
        exact this
      obtain ⟨r,hr1⟩:=cut_step f hs _ w hn hfa
      have r2:=cutP_length f hr1
      have r3:∀ x ∈ r,x < m:=fun x hx=>w2 x (cutP_sub f hr1 x hx)
      have e1:TrEq f w (lw m s ++ r):=cutP_spec f hs hr1
      have e2:TrEq f (lw m s ++ normalP f m r) (lw m s ++ r):=TrEq_front f (normalP_TrEq f hs _ r rfl r3) _
      have e3:=TrEq.trans f hs e1 (TrEq.symm f hs e2)
      have n1:=normalP_lt f hs r3
      have hokr:∀ b,isFirst f (normalP f m r) b = true → ∃ c ∈ lw m s,f c b = true:=fun b hb=>by
        by_cases g:∃ c ∈ lw m s,f c b = true
        · exact g
        · have g2 : ∀ d ∈ lw m s, f d b = false := fun d hd => by
            cases e:f d b with
            | false=>rfl
            | true=>exact absurd ⟨d,hd,e⟩ g
          have h4:=first_over f g2 hb
          rw [← (TrEq.first f hs e3 b).1] at h4
          have hbm:=w2 b (isFirst_mem f h4)
          have h5:b ∈ lw m s:=(mem_lw m s b).2 ⟨hbm,by rw [← hfs,testBit_mk,decide_eq_true hbm,h4];rfl⟩
          have:=g2 b h5
          rw [hr b hbm] at this
          cases this
      refine ⟨normalP f m r,List.mem_filter.2 ⟨((hT _).2 _).2 ⟨by rw [normalP_length f hs r3];omega,n1,normal_again m f hs r3⟩,?_⟩,?_⟩
      · have h6:=height_step f hs (lw m s) (normalP f m r) hne hn hi hokr
        have h7:=foataP_length_TrEq f hs e3
        unfold fH at hH
        simp only [Bool.and_eq_true,decide_eq_true_eq]
        exact ⟨by unfold fH;omega,(okF _ n1).2 hokr⟩
      · rw [← w3]
        exact ((normalP_eq_iff f hs _ _ _ rfl w2 (hcat _ n1)).2 e3).symm
    · rintro ⟨w', hw', rfl⟩
      rw [List.mem_filter] at hw'
      simp only [Bool.and_eq_true,decide_eq_true_eq] at hw'
      obtain ⟨w1,w2,w3⟩:=((hT _).2 w').1 hw'.1
      have hc:=hcat w' w2
      have hokw:=(okF w' w2).1 hw'.2.2
      have e3:=normalP_TrEq f hs _ (lw m s ++ w') rfl hc
      have hlen:=normalP_length f hs hc
      rw [List.length_append] at hlen
      have h6:=height_step f hs (lw m s) w' hne hn hi hokw
      have h7:=foataP_length_TrEq f hs e3
      have hp:0 < (lw m s).length:=List.length_pos_iff.2 hne
      have wne:normalP f m (lw m s ++ w') ≠ []:=fun e=>by rw [e] at hlen;simp at hlen;omega
      refine ⟨((hT j).2 _).2 ⟨by rw [hlen];omega,normalP_lt f hs hc,normal_again m f hs hc⟩,?_,?_⟩
      · have:=hw'.2.1
        unfold fH at this ⊢
        omega
      · rw [(fF_some m f (normalP_lt f hs hc) wne).1]
        refine (mk_congr (q:=fun a=>s.testBit a) (fun a ha=>?_)).trans (eq_mk hlt).symm
        rw [(TrEq.first f hs e3 a).1,Bool.eq_iff_iff]
        constructor
        · intro g
          rcases first_append f g with g | ⟨_,g1,g2⟩
          · exact ((mem_lw m s a).1 (isFirst_mem f g)).2
          · obtain ⟨c,c1,c2⟩:=hokw a g2
            rw [g1 c c1] at c2
            cases c2
        · intro g
          exact first_front f (first_apart f _ hn hi a ((mem_lw m s a).2 ⟨ha,g⟩))
end
theorem getD_same {S:List Nat} (hd:S.Nodup) {i k:Nat} (hi:i < S.length) (hk:k < S.length) (h:S.getD i 0 = S.getD k 0):i = k:=by
  rw [List.getD_eq_getElem?_getD,List.getD_eq_getElem?_getD,List.getElem?_eq_getElem hi,List.getElem?_eq_getElem hk] at h
  exact (List.getElem_inj hd).1 h
theorem pick_one (v:Int) (r:Nat):∀ (n:Nat),r < n → sS (fun k=>if k = r then v else 0) n = v:=by
  intro n
  induction n with
  | zero=>intro h;omega
  | succ n ih =>
    intro h
    simp only [sS]
    by_cases c:n = r
    · subst c
      rw [if_pos rfl,sS_none n (fun i hi=>if_neg (by omega)),Int.zero_add]
    · rw [if_neg c,ih (by omega),Int.add_zero]
theorem part_count {α:Type} (P G:α → Bool) (F:α → Nat) (S:List Nat) (g:Nat → Bool) (hd:S.Nodup):∀ (X:List α),(∀ w ∈ X,∃ k,k < S.length ∧ F w = S.getD k 0 ∧ G w = g k) → sS (fun k=>if g k = true then (((X.filter fun w=>P w && decide (F w = S.getD k 0)).length:Nat):Int) else 0) S.length = (((X.filter fun w=>P w && G w).length:Nat):Int):=by
  intro X
  induction X with
  | nil =>
    intro _
    refine sS_none _ (fun k _=>?_)
    simp
  | cons w X ih =>
    intro hF
    obtain ⟨k0,h1,h2,h3⟩:=hF w List.mem_cons_self
    have hstep:∀ k,k < S.length → (if g k = true then ((((w :: X).filter fun w=>P w && decide (F w = S.getD k 0)).length:Nat):Int) else 0) = (if k = k0 then (if (P w && G w) = true then 1 else 0) else 0) + (if g k = true then (((X.filter fun w=>P w && decide (F w = S.getD k 0)).length:Nat):Int) else 0):=fun k hk=>by
      by_cases e:k = k0
      · subst e
        rw [if_pos rfl,h3,List.filter_cons,h2]
        cases P w <;> cases g k <;> simp
        omega
      · have hne:decide (F w = S.getD k 0) = false:=decide_eq_false (fun z=>e (getD_same hd hk h1 (z.symm.trans h2)))
        rw [if_neg e,List.filter_cons,hne,Bool.and_false,if_neg Bool.false_ne_true,Int.zero_add]
    rw [sS_congr _ hstep,sS_plus,pick_one _ k0 _ h1,ih (fun w hw=>hF w (List.mem_cons_of_mem _ hw)),List.filter_cons]
    by_cases c:(P w && G w) = true
    · rw [if_pos c,if_pos c,List.length_cons]
      omega
    · rw [if_neg c,if_neg c]
      omega
section
variable (m:Nat) (f:Nat → Nat → Bool)
variable (T:Nat → List (List Nat)) (hT:∀ j,(T j).Nodup ∧ ∀ w,w ∈ T j ↔ w.length = j ∧ (∀ x ∈ w,x < m) ∧ normalP f m w = w)
variable (ok:Nat → Nat → Bool) (hok:∀ x y,ok x y = true ↔ ∀ a,a < m → y.testBit a = true → ∃ c,c < m ∧ x.testBit c = true ∧ f c a = true)
variable (hs:∀ a b,f a b = f b a) (hr:∀ a,a < m → f a a = true)
variable (S:List Nat) (hd:S.Nodup) (h1:1 ≤ S.length) (h00:S.getD 0 0 = 0) (hSt:∀ i,i < S.length → S.getD i 0 < 2 ^ m ∧ ∀ a b,a < m → b < m → (S.getD i 0).testBit a = true → (S.getD i 0).testBit b = true → a ≠ b → f a b = false)
variable (hall:∀ x,x < 2 ^ m → (∀ a b,a < m → b < m → x.testBit a = true → x.testBit b = true → a ≠ b → f a b = false) → ∃ k,k < S.length ∧ x = S.getD k 0)
include hs h1 h00 hall in
theorem first_in (w:List Nat) (hw:∀ x ∈ w,x < m):∃ k,k < S.length ∧ fF f w = S.getD k 0:=by
  by_cases e:w = []
  · subst e
    exact ⟨0,by omega,h00.symm⟩
  · rw [(fF_some m f hw e).1]
    refine hall _ (mk_lt _ _) (fun a b ha hb h2 h3 hab=>?_)
    rw [testBit_mk,decide_eq_true ha,Bool.true_and] at h2
    rw [testBit_mk,decide_eq_true hb,Bool.true_and] at h3
    exact (first_erase_of f hs (fun z=>hab z.symm) h3 h2).2
include hT hok hs hr hd h1 h00 hSt hall in
theorem cA_count:∀ (h j i:Nat),i < S.length → cA S.length (fun i=>pcP (S.getD i 0)) (fun i k=>ok (S.getD i 0) (S.getD k 0)) h j i = ((((T j).filter fun w=>decide (fH f w = h) && decide (fF f w = S.getD i 0)).length:Nat):Int):=by
  have none_:∀ (h j i:Nat),(∀ w ∈ T j,fH f w = h → fF f w = S.getD i 0 → False) → ((T j).filter fun w=>decide (fH f w = h) && decide (fF f w = S.getD i 0)).length = 0:=fun h j i hw=>by
    rw [List.length_eq_zero_iff,List.filter_eq_nil_iff]
    intro w hm
    simp only [Bool.and_eq_true,decide_eq_true_eq]
    exact fun z=>hw w hm z.1 z.2
  have nil_:fH f [] = 0 ∧ fF f [] = 0:=⟨rfl,rfl⟩
  have first0:∀ (h j:Nat),0 < h → ((T j).filter fun w=>decide (fH f w = h) && decide (fF f w = S.getD 0 0)).length = 0:=fun h j hh=>none_ h j 0 (fun w hm e1 e2=>by
    obtain ⟨_,w2,_⟩:=((hT j).2 w).1 hm
    have wne:w ≠ []:=fun e=>by rw [e,nil_.1] at e1;omega
    exact (fF_some m f w2 wne).2.1 (e2.trans h00))
  intro h
  induction h with
  | zero =>
    intro j i hi
    by_cases c:j = 0 ∧ i = 0
    · obtain ⟨rfl,rfl⟩:=c
      have e:((T 0).filter fun w=>decide (fH f w = 0) && decide (fF f w = S.getD 0 0)).length = [([]:List Nat)].length:=by
        refine nodup_same _ _ (List.Pairwise.filter _ (hT 0).1) (by simp) (fun w=>?_)
        rw [List.mem_filter,List.mem_singleton,(hT 0).2]
        simp only [Bool.and_eq_true,decide_eq_true_eq]
        constructor
        · exact fun z=>List.length_eq_zero_iff.1 z.1.1
        · rintro rfl
          exact ⟨⟨rfl,by simp,rfl⟩,rfl,h00.symm⟩
      rw [e]
      rfl
    · rw [none_ 0 j i (fun w hm e1 e2 => by
        obtain ⟨w1,w2,_⟩:=((hT j).2 w).1 hm
        have wn:w = []:=by
          by_cases wne:w = []
          · exact wne
          · have:=(fF_some m f w2 wne).2.2
            omega
        subst wn
        exact c ⟨w1.symm,(getD_same hd (by omega) hi (h00.trans (nil_.2.symm.trans e2))).symm⟩)]
      simp only [cA]
      rw [if_neg c]
      rfl
  | succ h ih =>
    intro j i hi
    by_cases c:i = 0
    · subst c
      rw [cA_first,first0 (h + 1) j (by omega)]
      rfl
    · have s0:S.getD i 0 ≠ 0:=fun z=>c (getD_same hd hi (by omega) (z.trans h00.symm))
      obtain ⟨slt,sst⟩:=hSt i hi
      simp only [cA]
      rw [if_neg c]
      by_cases cp:pcP (S.getD i 0) ≤ j
      · rw [if_pos cp,form_count m f T hT ok hok hs hr _ s0 slt sst h j cp]
        rw [← part_count (fun w=>decide (fH f w = h)) (fun w=>ok (S.getD i 0) (fF f w)) (fF f) S (fun k=>ok (S.getD i 0) (S.getD k 0)) hd (T (j - pcP (S.getD i 0))) (fun w hm=>by
          obtain ⟨k,k1,k2⟩:=first_in m f hs S h1 h00 hall w (((hT _).2 w).1 hm).2.1
          exact ⟨k,k1,k2,by rw [k2]⟩)]
        refine sS_congr _ (fun k hk=>?_)
        rw [ih _ k hk]
        by_cases d:ok (S.getD i 0) (S.getD k 0) = true
        · rw [if_pos d]
          by_cases e:k > 0 ∨ h = 0
          · rw [if_pos ⟨d,e⟩]
          · rw [if_neg (fun z=>e z.2)]
            obtain rfl:k = 0:=by omega
            rw [first0 h _ (by omega)]
            rfl
        · rw [if_neg d,if_neg (fun z=>d z.1)]
      · rw [if_neg cp, none_ (h + 1) j i (fun w hm e1 e2 => by
          obtain ⟨w1,w2,_⟩:=((hT j).2 w).1 hm
          have wne:w ≠ []:=fun e=>by rw [e,nil_.2] at e2;exact s0 e2.symm
          have hfs:=(fF_some m f w2 wne).1.symm.trans e2
          obtain ⟨r,hr1⟩:=cut_step f hs (lw m (S.getD i 0)) w (lw_nodup m _) (fun a ha=>by
            have h2:=(mem_lw m _ a).1 ha
            have:=h2.2
            rw [← hfs,testBit_mk,decide_eq_true h2.1,Bool.true_and] at this
            exact this)
          have:=cutP_length f hr1
          rw [lw_length m _ slt] at this
          omega)]
        rfl
include hT hok hs hr hd h1 h00 hSt hall in
theorem cA_total (h N:Nat):sS (fun i=>cA S.length (fun i=>pcP (S.getD i 0)) (fun i k=>ok (S.getD i 0) (S.getD k 0)) h N i) S.length = ((((T N).filter fun w=>decide (fH f w = h)).length:Nat):Int):=by
  have e:=part_count (fun w=>decide (fH f w = h)) (fun _=>true) (fF f) S (fun _=>true) hd (T N) (fun w hm=>by
    obtain ⟨k,k1,k2⟩:=first_in m f hs S h1 h00 hall w (((hT _).2 w).1 hm).2.1
    exact ⟨k,k1,k2,rfl⟩)
  simp only [if_true,Bool.and_true] at e
  rw [← e]
  exact sS_congr _ (fun i hi=>cA_count m f T hT ok hok hs hr S hd h1 h00 hSt hall h N i hi)
theorem fH_le (w:List Nat):fH f w ≤ w.length:=stp_length_le f w w.length
include hT in
theorem all_total (N:Nat):sS (fun h=>((((T N).filter fun w=>decide (fH f w = h)).length:Nat):Int)) (N + 1) = (((T N).length:Nat):Int):=by
  have e:=part_count (fun _=>true) (fun _=>true) (fH f) (List.range (N + 1)) (fun _=>true) List.nodup_range (T N) (fun w hm=>by
    have h2:=(((hT _).2 w).1 hm).1
    have h3:=fH_le f w
    refine ⟨fH f w,by rw [List.length_range];omega,?_,rfl⟩
    rw [List.getD_eq_getElem?_getD,List.getElem?_range (by omega)]
    rfl)
  simp only [if_true,Bool.and_true,Bool.true_and,List.length_range] at e
  have e3:(T N).filter (fun _=>true) = T N:=List.filter_eq_self.2 (fun _ _=>rfl)
  rw [e3] at e
  rw [← e]
  refine sS_congr _ (fun h hh=>?_)
  rw [List.getD_eq_getElem?_getD,List.getElem?_range hh]
  rfl
end
end Go.Proofs.YtemdfjdmokbcoaaGreatDoor.Q
