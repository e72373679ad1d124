/- For every code, FnWidths answers true: the width of a trace is the greatest size of a clique of the relation of being concurrent, and no step has more letters. No condition. -/
import Derived.Test.YtjdekliancabgaaDoorPAllx1
import Derived.Test.YtjdekliancabgaaDoorPAllx11
import Derived.Test.YtjdekliancabgaaDoorPAllx12
import Derived.Test.YtjdekliancabgaaDoorPAllx13
import Derived.Test.YtjdekliancabgaaDoorPAllx14
import Derived.Test.YtjdekliancabgaaDoorPAllx2
import Derived.Test.YtjdekliancabgaaDoorV0
import Derived.Test.YtjdekliancabgaaDoorV1
import Derived.Test.YtjdekliancabgaaDoorV2
import Derived.Test.YtjdekliancabgaaDoorV3
import Derived.Test.YtjdekliancabgaaDoorQBase
import Derived.Test.YtjdekliancabgaaDoorQDraw
import Derived.Test.YtjdekliancabgaaDoorQFoata
import Derived.Test.YtjdekliancabgaaDoorQHeight
import Derived.Test.YtjdekliancabgaaDoorQMask
import Derived.Test.YtjdekliancabgaaDoorQMeet
import Derived.Test.YtjdekliancabgaaDoorQOrder
import Derived.Test.YtjdekliancabgaaDoorQRev
import Derived.Test.YtjdekliancabgaaDoorQTrace
import Derived.Test.YtjdekliancabgaaDoorQWide
import Derived.Test.YtjdekliancabgaaDoorStmtFnWidths
set_option linter.unusedVariables false
set_option linter.unusedSimpArgs false
namespace Go.Proofs.YtjdekliancabgaaDoor.LFnWidths
open Go.RowKit Go.Proofs.YtjdekliancabgaaDoorW.PrintWords Go.Proofs.YtjdekliancabgaaDoorW.PrintMore Go.Proofs.YtjdekliancabgaaDoor.Q
open Go.Proofs.YtjdekliancabgaaDoor.PAll
theorem width_both (n : Int) (D l1 : List Int) : ∃ r : Int × Int, Ev (fun k => spec_WidthOf.f k n D l1) r ∧ Ev (fun k => impl_WidthOf.f k n D l1) r ∧
    (r.2 = 0 → ∃ (m:Nat) (f:Nat → Nat → Bool) (u:List Nat),n = (m:Int) ∧ D = mat m f ∧ l1 = ints u ∧ m ≤ 8 ∧ (∀ a b,f a b = f b a) ∧ (∀ a,a < m → f a a = true) ∧ u.length ≤ 24 ∧ (∀ x ∈ u,x < m) ∧ Alpha n D ∧ Word n l1 ∧ r.1 = ((wdN (fun i k=>!ordP f (normalP f m u) i k) u.length 0 (openP 0):Nat):Int)):=by
  have hc:=l03Code_ev n D l1 l1
  simp only [and_self] at hc
  have hk:=checkWords_ev n D [l1]
  have e:(∀ x ∈ [l1],Word n x) ↔ Word n l1:=by simp
  simp only [e] at hk
  simp only [spec_WidthOf.f,impl_WidthOf.f,impl_Alphabet_ties.f]
  by_cases hA:Alpha n D
  · by_cases hW:Word n l1
    · rw [if_pos hA,if_pos hW] at hc hk
      have hA' := hA
      have hW' := hW
      obtain ⟨m,f,rfl,rfl,hm,hs,hr⟩:=hA.form
      obtain ⟨u,rfl,hul,hu⟩:=hW.form
      clear hA hW e
      have h1:=l04Code_ok m hm f hs u hul hu hc
      have h2:=positions_ev m hm f hs u hul hu
      have hp:=Nat.two_pow_pos u.length
      have h24:=pow_lt62 hul
      have hw : wdN (fun i k => !ordP f (normalP f m u) i k) u.length 0 (openP 0) = wdN (fun i b => !ordP f (normalP f m u) b i && !ordP f (normalP f m u) i b) u.length 0 (fun k => (2 ^ u.length - 1).testBit k) := wdN_congr u.length (fun i k hik _ => by
          cases h:ordP f (normalP f m u) k i with
          | false=>rfl
          | true =>
            have hle:k ≤ i:=clos_le (n:=(normalP f m u).length) (fun i k h=>(eP_lt h).1) h
            omega) u.length 0 _ _ (by omega) (fun k _ hk=>by rw [testBit_full];simp [openP,hk])
      refine ⟨(((wdN (fun i k=>!ordP f (normalP f m u) i k) u.length 0 (openP 0):Nat):Int),0),Ev.bind h1 (Ev.pos rfl (Ev.bind (l04Width_ev u.length hul _ u.length 0 0 (by omega) hp) (Ev.now _))),?_,fun _=>⟨m,f,u,rfl,rfl,rfl,hm,hs,hr,hul,hu,hA', hW', rfl⟩⟩
      refine Ev.bind hk (Ev.pos rfl (Ev.bind h2 (Ev.bind (concurrent_ev u.length hul _) ?_)))
      simp only [impl_length_int64.f]
      refine Ev.some_bind ?_
      rw [ints_length,one_eq u.length (by omega)]
      refine Ev.some_bind ?_
      rw [w64' (by omega),show ((2 ^ u.length:Nat):Int) - 1 = ((2 ^ u.length - 1:Nat):Int) by omega,hw]
      exact Ev.bind (mostTogether_ev u.length hul _ _ (by omega)) (Ev.now _)
    · rw [if_pos hA,if_neg hW] at hc hk
      exact ⟨(0,2),Ev.bind (l04Code_bad n D l1 2 (by decide) hc) (Ev.neg (by decide) (Ev.now _)),Ev.bind hk (Ev.neg (by decide) (Ev.now _)),fun h=>by cases h⟩
  · rw [if_neg hA] at hc hk
    exact ⟨(0,1),Ev.bind (l04Code_bad n D l1 1 (by decide) hc) (Ev.neg (by decide) (Ev.now _)),Ev.bind hk (Ev.neg (by decide) (Ev.now _)),fun h=>by cases h⟩
/-- the greatest size of the sets of a list -/
def mxP (l:List Nat):Nat:=l.foldl (fun a C=>max a (pcP C)) 0
theorem mxP_snoc (l:List Nat) (C:Nat):mxP (l ++ [C]) = max (mxP l) (pcP C):=by simp [mxP]
theorem mxP_spec (l:List Nat):(∀ C ∈ l,pcP C ≤ mxP l) ∧ (mxP l = 0 ∨ ∃ C ∈ l,mxP l = pcP C):=by
  have key:∀ (suf pre:List Nat),pre ++ suf = l → ((∀ C ∈ pre,pcP C ≤ mxP pre) ∧ (mxP pre = 0 ∨ ∃ C ∈ pre,mxP pre = pcP C)) → ((∀ C ∈ l,pcP C ≤ mxP l) ∧ (mxP l = 0 ∨ ∃ C ∈ l,mxP l = pcP C)):=by
    intro suf
    induction suf with
    | nil=>intro pre hp h;rw [List.append_nil] at hp;subst hp;exact h
    | cons x suf ih =>
      intro pre hp h
      refine ih (pre ++ [x]) (by simpa using hp) ?_
      rw [mxP_snoc]
      obtain ⟨h1,h2⟩:=h
      refine ⟨fun C hC=>?_,?_⟩
      · rcases List.mem_append.1 hC with hC | hC
        · have:=h1 C hC;omega
        · rw [List.mem_singleton.1 hC];omega
      · by_cases c:mxP pre ≤ pcP x
        · exact .inr ⟨x,by simp,by omega⟩
        · rcases h2 with h2 | ⟨C,c1,c2⟩
          · omega
          · exact .inr ⟨C,by simp [c1],by omega⟩
  exact key l [] rfl ⟨by simp,.inl rfl⟩
/-- positions none of which is ahead of another one are no more than the width -/
theorem anti_le {f:Nat → Nat → Bool} {w:List Nat} (p:Nat → Bool) (h:∀ a b,a < b → b < w.length → p a = true → p b = true → ordP f w a b = false):((List.range w.length).filter p).length ≤ wdN (fun i k=>!ordP f w i k) w.length 0 (openP 0):=by
  refine wdN_most _ w.length 0 (openP 0) _ ?_ (fun x hx=>?_)
  · refine List.Pairwise.imp_of_mem (fun {a b} ha hb hab=>⟨hab,?_⟩) (List.Pairwise.filter p List.pairwise_lt_range)
    rw [Bool.not_eq_true']
    exact h a b hab (List.mem_range.1 (List.mem_filter.1 hb).1) (List.mem_filter.1 ha).2 (List.mem_filter.1 hb).2
  · have:=List.mem_range.1 (List.mem_filter.1 hx).1
    exact ⟨by omega,by omega,by simp [openP]⟩
section
variable {m:Nat} {f:Nat → Nat → Bool} (hm:m ≤ 8) (hs:∀ a b,f a b = f b a) (hr:∀ a,a < m → f a a = true) {u:List Nat} (hul:u.length ≤ 14) (hu:∀ x ∈ u,x < m)
include hm hs hr hul hu
/-- the cliques, and how great they are -/
theorem cliques_wide:∃ s:List Nat,s.length ≤ 4096 ∧ (∀ C ∈ s,C < 2 ^ u.length) ∧ mxP s = wdN (fun i k=>!ordP f (normalP f m u) i k) u.length 0 (openP 0) ∧ Ev (fun k=>impl_CliquesOf.f k (mat u.length fun x b=>!ordP f (normalP f m u) b x && !ordP f (normalP f m u) x b)) (ints s,0):=by
  have hnl:=normalP_length f hs hu
  have hnlt:=normalP_lt f hs hu
  generalize hw:normalP f m u = w at hnl hnlt
  have hle:∀ i k,ordP f w i k = true → i ≤ k:=fun i k h=>clos_le (n:=w.length) (fun i k h=>(eP_lt h).1) h
  have cc:∀ a b,a < b → ((!ordP f w b a && !ordP f w a b) = true ↔ ordP f w a b = false):=fun a b hab=>by
    have:ordP f w b a = false:=by
      cases z:ordP f w b a with
      | false=>rfl
      | true=>have:=hle b a z;omega
    rw [this]
    simp
  obtain ⟨s,s1,s2,s3⟩:=CliquesOf_ev u.length (by omega) (fun x b=>!ordP f w b x && !ordP f w x b) (fun a b=>Bool.and_comm _ _) (cand w m) (cand_few w m hm (by omega) hnlt) (fun C h1 h2=>cand_mem w m C (fun p hp=>⟨by have:=h1 p hp;omega,hnlt _ (by rw [List.getD_eq_getElem?_getD,List.getElem?_eq_getElem (show p < w.length by have:=h1 p hp;omega)];exact List.getElem_mem _)⟩) (fun p q hp hq he=>by
    have key:∀ p q,p < q → C.testBit p = true → C.testBit q = true → w.getD p 0 = w.getD q 0 → False:=fun p q hpq hp hq he=>by
      have h3:=(cc p q hpq).1 (h2 p q hpq hp hq)
      have hql:q < w.length:=by have:=h1 q hq;omega
      have h4:ordP f w p q = true:=clos_edge (by
        unfold eP
        rw [Bool.and_eq_true,he]
        exact ⟨decide_eq_true ⟨hpq,hql⟩,hr _ (hnlt _ (by rw [List.getD_eq_getElem?_getD,List.getElem?_eq_getElem hql];exact List.getElem_mem _))⟩)
      rw [h4] at h3
      cases h3
    rcases Nat.lt_trichotomy p q with c | c | c
    · exact (key p q c hp hq he).elim
    · exact c
    · exact (key q p c hq hp he.symm).elim))
  have slt:∀ C ∈ s,C < 2 ^ u.length:=fun C hC=>lt_of_bits fun i hi=>by
    cases z:C.testBit i with
    | false=>rfl
    | true=>have:=((s2 C).1 hC).1 i z;omega
  refine ⟨s,s1,slt,?_,s3⟩
  obtain ⟨x1,x2⟩:=mxP_spec s
  have up:∀ C ∈ s,pcP C ≤ wdN (fun i k=>!ordP f w i k) u.length 0 (openP 0):=fun C hC=>by
    have hC' := (s2 C).1 hC
    have e1:pcP C = ((List.range u.length).filter fun i=>C.testBit i).length:=by
      rw [← pcP_mk,← eq_mk (slt C hC)]
    rw [e1,← hnl]
    exact anti_le _ (fun a b hab hb ha hb2=>(cc a b hab).1 (hC'.2 a b hab ha hb2))
  obtain ⟨ps,p1,p2,p3⟩:=wdN_there (fun i k=>!ordP f w i k) u.length 0 (openP 0)
  have pn:ps.Nodup:=List.Pairwise.imp (fun {a b} h=>by omega) p1
  have hmem:mk u.length (fun i=>decide (i ∈ ps)) ∈ s:=(s2 _).2 ⟨fun i hi=>by
    rw [testBit_mk,Bool.and_eq_true] at hi
    exact of_decide_eq_true hi.1,fun a b hab ha hb=>by
    rw [testBit_mk,Bool.and_eq_true] at ha hb
    have ha:=of_decide_eq_true ha.2
    have hb:=of_decide_eq_true hb.2
    refine (cc a b hab).2 ?_
    obtain ⟨i,hi,rfl⟩:=List.getElem_of_mem ha
    obtain ⟨j,hj,rfl⟩:=List.getElem_of_mem hb
    have pw:=List.pairwise_iff_getElem.1 p1
    rcases Nat.lt_trichotomy i j with c | c | c
    · have:=(pw i j hi hj c).2
      simpa using this
    · subst c;omega
    · have:=(pw j i hj hi c).1;omega⟩
  have cnt:pcP (mk u.length fun i=>decide (i ∈ ps)) = ps.length:=by
    rw [pcP_mk]
    have a1:=nodup_le ((List.range u.length).filter fun i=>decide (i ∈ ps)) ps (List.Pairwise.filter _ List.nodup_range) (fun x hx=>of_decide_eq_true (List.mem_filter.1 hx).2)
    have a2:=nodup_le ps ((List.range u.length).filter fun i=>decide (i ∈ ps)) pn (fun x hx=>List.mem_filter.2 ⟨List.mem_range.2 (by have:=p2 x hx;omega),decide_eq_true hx⟩)
    omega
  have b1:=x1 _ hmem
  rcases x2 with x2 | ⟨C,c1,c2⟩
  · omega
  · have:=up C c1
    omega
omit hm hr hul in
theorem steps_wide (q:Nat) (hq:q < (foataP f u).length):(foataP f u).getD q 0 < 2 ^ m ∧ pcP ((foataP f u).getD q 0) ≤ wdN (fun i k=>!ordP f (normalP f m u) i k) u.length 0 (openP 0):=by
  have hnl:=normalP_length f hs hu
  have hnlt:=normalP_lt f hs hu
  have ef:foataP f u = foataP f (normalP f m u):=(foataP_TrEq f hs (normalP_TrEq f hs _ u rfl hu)).symm
  rw [ef] at hq ⊢
  generalize hw:normalP f m u = w at *
  have hlt:(foataP f w).getD q 0 < 2 ^ m:=stp_lt f w m hnlt w.length (Nat.le_refl _) q
  refine ⟨hlt,?_⟩
  have e1:pcP ((foataP f w).getD q 0) = ((List.range m).filter fun i=>((foataP f w).getD q 0).testBit i).length:=by
    rw [← pcP_mk,← eq_mk hlt]
  have a1:=anti_le (f:=f) (w:=w) (fun j=>decide (hE f w j = q + 1)) (fun a b hab hb ha hb2=>by
    have ha:=of_decide_eq_true ha
    have hb2:=of_decide_eq_true hb2
    cases z:ordP f w a b with
    | false=>rfl
    | true=>rcases hE_ord f w a b z with c | c <;> omega)
  have a2:=nodup_le ((List.range m).filter fun i=>((foataP f w).getD q 0).testBit i) (((List.range w.length).filter fun j=>decide (hE f w j = q + 1)).map fun j=>w.getD j 0) (List.Pairwise.filter _ List.nodup_range) (fun x hx=>by
    obtain ⟨j,j1,j2,j3⟩:=(foata_bit f w q x hq).1 (List.mem_filter.1 hx).2
    exact List.mem_map.2 ⟨j,List.mem_filter.2 ⟨List.mem_range.2 j1,decide_eq_true j3⟩,j2⟩)
  rw [List.length_map] at a2
  rw [hnl] at a1
  rw [hnl] at a2
  omega
theorem l0_ev (hA:Alpha (m:Int) (mat m f)):∀ (d i:Nat),i + d = u.length → Ev (fun k=>laws_FnWidths.l0 k (ints u) ((wdN (fun i k=>!ordP f (normalP f m u) i k) u.length 0 (openP 0):Nat):Int) ((List.range i).map fun x=>((mk u.length (fun b=>!ordP f (normalP f m u) b x && !ordP f (normalP f m u) x b):Nat):Int)) (i:Int) (m:Int) (mat m f)) true:=by
  obtain ⟨s,s1,s2,s3,s4⟩:=cliques_wide hm hs hr hul hu
  have hst:=steps_wide hs hu
  have q2:=FoataForm_impl hm hs hA (show u.length ≤ 24 by omega) hu
  have hfl:(foataP f u).length ≤ 24:=by
    have:=stp_length_le f u u.length
    unfold foataP
    omega
  have h24:(2:Nat) ^ u.length ≤ 2 ^ 14:=Nat.pow_le_pow_right (by decide) hul
  have h8:(2:Nat) ^ m ≤ 2 ^ 8:=Nat.pow_le_pow_right (by decide) hm
  generalize hW:wdN (fun i k=>!ordP f (normalP f m u) i k) u.length 0 (openP 0) = W at *
  have l2:∀ (d i:Nat),i + d = (foataP f u).length → Ev (fun k=>laws_FnWidths.l2 k (W:Int) (ints (foataP f u)) (W:Int) (i:Int)) true:=by
    intro d
    induction d with
    | zero =>
      intro i hi
      refine Ev.succ ?_
      simp only [laws_FnWidths.l2]
      refine Ev.neg (by rw [ints_length];omega) ?_
      rw [show (((W:Nat):Int) == ((W:Nat):Int)) = true from beq_self_eq_true _]
      exact Ev.now _
    | succ d ih =>
      intro i hi
      obtain ⟨a1,a2⟩:=hst i (by omega)
      refine Ev.succ ?_
      simp only [laws_FnWidths.l2]
      refine Ev.pos (by rw [ints_length];omega) (Ev.pos (by omega) ?_)
      rw [rd_getD]
      refine Ev.bind (bits5_ev _ (by omega)) (Ev.neg (by omega) ?_)
      rw [w64' (by omega),show (i:Int) + 1 = ((i + 1:Nat):Int) by omega]
      exact ih (i + 1) (by omega)
  have l1:∀ (suf pre:List Nat),pre ++ suf = s → Ev (fun k=>laws_FnWidths.l1 k (W:Int) (ints s) (ints (foataP f u)) ((mxP pre:Nat):Int) (pre.length:Int)) true:=by
    intro suf
    induction suf with
    | nil =>
      intro pre hp
      rw [List.append_nil] at hp
      subst hp
      refine Ev.succ ?_
      simp only [laws_FnWidths.l1]
      rw [s3]
      exact Ev.neg (by rw [ints_length];omega) (l2 (foataP f u).length 0 (by omega))
    | cons C suf ih =>
      intro pre hp
      have hC:C ∈ s:=by rw [← hp];simp
      have hlen:s.length = pre.length + (suf.length + 1):=by rw [← hp];simp
      have hrd:rd (ints s) (pre.length:Int) = (C:Int):=by rw [← hp];exact rd_mid pre suf C
      have hlt:=s2 C hC
      have b5:=bits5_ev C (by omega)
      have nx:=ih (pre ++ [C]) (by simpa using hp)
      rw [mxP_snoc,List.length_append,List.length_singleton] at nx
      refine Ev.succ ?_
      simp only [laws_FnWidths.l1]
      rw [hrd]
      refine Ev.pos (by rw [ints_length];omega) (Ev.pos (by omega) (Ev.bind b5 (Ev.ite (fun c=>Ev.bind b5 ?_) (fun c=>?_))))
      · rw [w64' (by omega),show (pre.length:Int) + 1 = ((pre.length + 1:Nat):Int) by omega]
        rw [Nat.max_eq_right (by omega)] at nx
        exact nx
      · rw [w64' (by omega),show (pre.length:Int) + 1 = ((pre.length + 1:Nat):Int) by omega]
        rw [Nat.max_eq_left (by omega)] at nx
        exact nx
  intro d
  induction d with
  | zero =>
    intro i hi
    obtain rfl:i = u.length:=by omega
    refine Ev.succ ?_
    simp only [laws_FnWidths.l0]
    refine Ev.neg (by rw [ints_length];omega) (Ev.bind (show Ev (fun k=>impl_CliquesOf.f k ((List.range u.length).map fun x=>((mk u.length (fun b=>!ordP f (normalP f m u) b x && !ordP f (normalP f m u) x b):Nat):Int))) (ints s,0) from s4) (Ev.bind q2 (Ev.pos rfl (Ev.succ ?_))))
    simp only [laws_FnWidths.j2]
    exact Ev.neg (by decide) (l1 s [] rfl)
  | succ d ih =>
    intro i hi
    have hc:=ConcurrentWith_impl hm hs hA (show u.length ≤ 24 by omega) hu i (by omega)
    refine Ev.succ ?_
    simp only [laws_FnWidths.l0]
    refine Ev.pos (by rw [ints_length];omega) (Ev.bind hc (Ev.pos rfl (Ev.pos (by simp;omega) ?_)))
    rw [w64' (by omega),show (i:Int) + 1 = ((i + 1:Nat):Int) by omega]
    have:=ih (i + 1) (by omega)
    rw [List.range_succ,List.map_append] at this
    exact this
end
theorem law_ev (c:List Int) (hb:∀ x ∈ c,0 ≤ x ∧ x ≤ 255):Ev (fun k=>laws_FnWidths.f k c) true:=by
  simp only [laws_FnWidths.f,laws_big.f]
  refine Ev.some_bind (Ev.ite (fun _=>Ev.now _) (fun g=>?_))
  have hcl:c.length ≤ 4096:=by simp at g;omega
  obtain ⟨a,h,n,D,w,s0,l0,l1,l14,hd⟩:=l03Pair_most c hb hcl 8 14 (by omega) (by omega)
  have hd' : Ev (fun k=>spec_DrawWidthOf.f k c) (n,D,w):=by
    simp only [spec_DrawWidthOf.f]
    exact Ev.bind hd (Ev.now _)
  obtain ⟨r,p1,p2,p3⟩:=width_both n D w
  refine Ev.bind hd' (Ev.bind p2 (Ev.bind p1 (Ev.pos rfl ?_)))
  simp only []
  rw [show (r.1 != r.1) = false from by simp]
  refine Ev.succ ?_
  simp only [laws_FnWidths.j0]
  refine Ev.neg (by decide) (Ev.ite (fun k0=>?_) (fun _=>Ev.now _))
  obtain ⟨m,f,u,rfl,rfl,rfl,hm,hs,hr,hul,hu,hA,hW,e⟩:=p3 k0
  have h14:=l14 hA hW
  rw [ints_length] at h14
  rw [e]
  exact l0_ev hm hs hr h14 hu hA u.length 0 (by omega)
theorem pure:PureStmt:=fun c _ h2=>(law_ev c (fun x hx=>u8_bounds (h2 x hx))).elim fun K h=>⟨K,h K (Nat.le_refl K)⟩
end Go.Proofs.YtjdekliancabgaaDoor.LFnWidths
