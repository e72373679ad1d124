/- For every code, FnHeights answers true: the height of a trace is the number of its steps and the length of its longest chain, and each position stands in a step that is not behind its latest one. No condition. -/
import Derived.Test.YtpenijicdldipaaDoorPAllx10
import Derived.Test.YtpenijicdldipaaDoorPAllx11
import Derived.Test.YtpenijicdldipaaDoorPAllx6
import Derived.Test.YtpenijicdldipaaDoorPAllx8
import Derived.Test.YtpenijicdldipaaDoorPAllx9
import Derived.Test.YtpenijicdldipaaDoorV0
import Derived.Test.YtpenijicdldipaaDoorV1
import Derived.Test.YtpenijicdldipaaDoorV3
import Derived.Test.YtpenijicdldipaaDoorQBase
import Derived.Test.YtpenijicdldipaaDoorQFoata
import Derived.Test.YtpenijicdldipaaDoorQHeight
import Derived.Test.YtpenijicdldipaaDoorQMap
import Derived.Test.YtpenijicdldipaaDoorQMask
import Derived.Test.YtpenijicdldipaaDoorQMeet
import Derived.Test.YtpenijicdldipaaDoorQOrder
import Derived.Test.YtpenijicdldipaaDoorQRev
import Derived.Test.YtpenijicdldipaaDoorQTrace
import Derived.Test.YtpenijicdldipaaDoorStmtFnHeights
set_option linter.unusedVariables false
set_option linter.unusedSimpArgs false
namespace Go.Proofs.YtpenijicdldipaaDoor.LFnHeights
open Go.RowKit Go.Proofs.YtpenijicdldipaaDoorW.PrintWords Go.Proofs.YtpenijicdldipaaDoorW.PrintMore Go.Proofs.YtpenijicdldipaaDoor.Q
open Go.Proofs.YtpenijicdldipaaDoor.PAll
theorem bcP_head (L:Nat → Nat) (g:Nat → Nat → Bool) (n i:Nat):(bcP L g n i).getD 0 0 = i:=rfl
theorem bcP_mem {L:Nat → Nat} {g:Nat → Nat → Bool} {n:Nat}:∀ (d i:Nat),i + d + 1 = n → ∀ x ∈ bcP L g n i,x < n:=by
 intro d
 induction d using Nat.strongRecOn with
 | ind d ih =>
  intro i hi x hx
  rw [bcP_eq L g n i (by omega)] at hx
  cases h:am L (scP g n i) with
  | none=>rw [h] at hx;simp at hx;omega
  | some b =>
   rw [h] at hx
   have hb:=scP_mem.1 (am_some L h).1
   rcases List.mem_cons.1 hx with rfl | hx
   ·omega
   ·exact ih (n - b - 1) (by omega) b (by omega) x hx
theorem bcP_adj {L:Nat → Nat} {g:Nat → Nat → Bool} {n:Nat}:∀ (d i:Nat),i + d + 1 = n → ∀ t,t + 1 < (bcP L g n i).length → g ((bcP L g n i).getD t 0) ((bcP L g n i).getD (t + 1) 0) = true ∧ (bcP L g n i).getD t 0 < (bcP L g n i).getD (t + 1) 0:=by
 intro d
 induction d using Nat.strongRecOn with
 | ind d ih =>
  intro i hi t ht
  have e:=bcP_eq L g n i (by omega)
  cases h:am L (scP g n i) with
  | none=>rw [e,h] at ht;simp at ht
  | some b =>
   rw [h] at e
   simp only [] at e
   have hb:=scP_mem.1 (am_some L h).1
   rw [e] at ht ⊢
   simp only [List.length_cons] at ht
   cases t with
   | zero =>
    rw [List.getD_cons_zero,List.getD_cons_succ,bcP_head]
    exact ⟨hb.2.2,hb.2.1⟩
   | succ t =>
    rw [List.getD_cons_succ,List.getD_cons_succ]
    exact ih (n - b - 1) (by omega) b (by omega) t (by omega)
theorem bcP_high {f:Nat → Nat → Bool} {w:List Nat} {L:Nat → Nat} (hL:∀ i,i < w.length → ChainAt (ordP f w) w.length L i):∀ (d i:Nat),i + d + 1 = w.length → hE f w i + L i = (foataP f w).length + 1 → ∀ x ∈ bcP L (ordP f w) w.length i,hE f w x + L x = (foataP f w).length + 1:=by
 intro d
 induction d using Nat.strongRecOn with
 | ind d ih =>
  intro i hi he x hx
  have e:=bcP_eq L (ordP f w) w.length i (by omega)
  cases h:am L (scP (ordP f w) w.length i) with
  | none=>rw [e,h] at hx;simp at hx;rw [hx];exact he
  | some b =>
   rw [h] at e
   simp only [] at e
   have hb:=scP_mem.1 (am_some L h).1
   have l1:=bcP_length L (ordP f w) w.length hL (w.length - i - 1) i (by omega)
   have l2:=bcP_length L (ordP f w) w.length hL (w.length - b - 1) b (by omega)
   rw [e,List.length_cons,l2] at l1
   have up:=hE_up f w hL (w.length - b - 1) b (by omega)
   have od:hE f w i < hE f w b:=by rcases hE_ord f w i b hb.2.2 with z | z <;> omega
   rw [e] at hx
   rcases List.mem_cons.1 hx with rfl | hx
   ·exact he
   ·exact ih (w.length - b - 1) (by omega) b (by omega) (by omega) x hx
/-- the longest chain, as the law wants it -/
theorem chain_facts {f:Nat → Nat → Bool} {w:List Nat} {L:Nat → Nat} (hL:∀ i,i < w.length → ChainAt (ordP f w) w.length L i) (c:List Nat) (hc:c = outP L (ordP f w) w.length (List.range w.length)) :
  c.length = (foataP f w).length ∧ (∀ x ∈ c,x < w.length ∧ hE f w x + L x = (foataP f w).length + 1) ∧ ∀ t,t + 1 < c.length → ordP f w (c.getD t 0) (c.getD (t + 1) 0) = true ∧ c.getD t 0 < c.getD (t + 1) 0:=by
 subst hc
 unfold outP
 cases h:am L (List.range w.length) with
 | none =>
  have h0:=(am_none L).1 h
  have hw:w.length = 0:=by simpa using congrArg List.length h0
  have:w = []:=List.length_eq_zero_iff.1 hw
  subst this
  exact ⟨rfl,fun x hx=>by simp at hx,fun t ht=>by simp at ht⟩
 | some b =>
  obtain ⟨b1,b2⟩:=am_some L h
  have hb:=List.mem_range.1 b1
  have l1:=bcP_length L (ordP f w) w.length hL (w.length - b - 1) b (by omega)
  have up:=hE_up f w hL (w.length - b - 1) b (by omega)
  have e1:=(hE_spec f w b hb).1
  have e2:=hE_le f w b hb
  obtain ⟨j,j1,j2⟩:=foata_some f w ((foataP f w).length - 1) (by omega)
  obtain ⟨i,i1,i2⟩:=hE_down f w hL j j1
  have lj:=(hL j j1).1
  have lb:=b2 i (List.mem_range.2 i1)
  have hLb:L b = (foataP f w).length:=by omega
  exact ⟨by rw [l1,hLb],fun x hx=>⟨bcP_mem (w.length - b - 1) b (by omega) x hx,bcP_high hL (w.length - b - 1) b (by omega) (by omega) x hx⟩,bcP_adj (w.length - b - 1) b (by omega)⟩
theorem bit_no {m i:Nat} (hm:m < 2 ^ 62) (hi:i ≤ 64) (h:m.testBit i = true):¬ Go.bits .and .i64 (shr .i64 (m:Int) (i:Int)) 1 = 0:=fun e=>by
 have:=bit_at m i hm hi
 rw [h,e] at this
 simp at this
section
variable {m:Nat} {f:Nat → Nat → Bool} (hm:m ≤ 8) (hs:∀ a b,f a b = f b a) (hA:Alpha (m:Int) (mat m f)) {u:List Nat} (hul:u.length ≤ 24) (hu:∀ x ∈ u,x < m)
include hm hs hA hul hu
theorem early_ev (x:Nat) (hx:x < u.length):∃ (M:Nat) (p:List Nat),Ev (fun k=>impl_PastOf.f k (m:Int) (mat m f) (ints u) (x:Int)) ((M:Int),0) ∧ Ev (fun k=>impl_PrefixAt.f k (m:Int) (mat m f) (ints u) (M:Int)) (ints p,0) ∧ Ev (fun k=>impl_HeightOf.f k (m:Int) (mat m f) (ints p)) (((hE f (normalP f m u) x:Nat):Int),0):=by
 have hnl:=normalP_length f hs hu
 have hnlt:=normalP_lt f hs hu
 generalize hw:normalP f m u = w at hnl hnlt
 have hp:=PastOf_impl hm hs hA hul hu x hx
 rw [hw] at hp
 generalize hM:mk u.length (fun a=>ordP f w a x) = M at hp
 have hMl:M < 2 ^ u.length:=by rw [← hM];exact mk_lt _ _
 have tb:∀ a,M.testBit a = (decide (a < u.length) && ordP f w a x):=fun a=>by rw [← hM,testBit_mk]
 have lt:∀ i k,eP f w i k = true → i < k ∧ k < w.length:=fun i k h=>eP_lt h
 have hdn:downP (ordP f w) u.length M = true:=by
  unfold downP
  rw [List.all_eq_true]
  intro i hi
  have hi:=List.mem_range.1 hi
  rw [Bool.or_eq_true]
  by_cases c:M.testBit i = true
  ·exact .inl c
  ·right
   rw [List.all_eq_true]
   intro k hk
   have hk:=List.mem_range.1 hk
   rw [Bool.not_eq_true']
   cases z:(ordP f w i k && M.testBit k) with
   | false=>rfl
   | true =>
    rw [Bool.and_eq_true,tb,Bool.and_eq_true] at z
    refine absurd ?_ c
    rw [tb,Bool.and_eq_true]
    exact ⟨decide_eq_true hi,clos_trans (by omega) z.1 z.2.2⟩
 have hq:=PrefixAt_impl hm hs hA hul hu M hMl (by rw [hw];exact hdn)
 rw [hw] at hq
 have hll:=lettersP_length w M
 have hlt:=lettersP_lt hnlt M
 have hnl2:=normalP_length f hs hlt
 have hh:=HeightOf_impl hm hs hA (show (normalP f m (lettersP w M)).length ≤ 24 by omega) (normalP_lt f hs hlt)
 rw [foataP_TrEq f hs (normalP_TrEq f hs _ (lettersP w M) rfl hlt)] at hh
 have ht:=foata_part f w ((List.range w.length).filter fun i=>M.testBit i) (List.Pairwise.filter _ List.pairwise_lt_range) (fun p hp=>List.mem_range.1 (List.mem_filter.1 hp).1) (fun p hp j hj hf=>by
  obtain ⟨p1,p2⟩:=List.mem_filter.1 hp
  have p1:=List.mem_range.1 p1
  rw [tb,Bool.and_eq_true] at p2
  refine List.mem_filter.2 ⟨List.mem_range.2 (by omega),?_⟩
  rw [tb,Bool.and_eq_true]
  exact ⟨decide_eq_true (by omega),clos_trans p1 (clos_edge (by unfold eP;rw [Bool.and_eq_true];exact ⟨decide_eq_true ⟨hj,p1⟩,hf⟩)) p2.2⟩) x (List.mem_filter.2 ⟨List.mem_range.2 (by omega),by rw [tb,Bool.and_eq_true];exact ⟨decide_eq_true hx,clos_refl _ _⟩⟩) (fun p hp=>by
  obtain ⟨p1,p2⟩:=List.mem_filter.1 hp
  rw [tb,Bool.and_eq_true] at p2
  rcases hE_ord f w p x p2.2 with z | z
  ·rw [z];exact Nat.le_refl _
  ·omega)
 have e:atL w ((List.range w.length).filter fun i=>M.testBit i) = lettersP w M:=rfl
 rw [e] at ht
 rw [ht] at hh
 exact ⟨M,normalP f m (lettersP w M),hp,hq,hh⟩
theorem l1_ev (hr:∀ a,a < m → f a a = true) (c:List Nat) (L:Nat → Nat) (hcl:c.length ≤ 24) (hc:∀ x ∈ c,x < u.length ∧ hE f (normalP f m u) x + L x = (foataP f (normalP f m u)).length + 1) (hup:∀ i,i < u.length → hE f (normalP f m u) i + L i ≤ (foataP f (normalP f m u)).length + 1) (h1:∀ i,i < u.length → 1 ≤ L i) (hH:(foataP f (normalP f m u)).length ≤ 24) :
  ∀ (d i:Nat),i + d = u.length → Ev (fun k=>laws_FnHeights.l1 k (ints u) (ints c) ((foataP f (normalP f m u)).length:Int) (ints (foataP f (normalP f m u))) (ints (normalP f m u)) (latestP (foataP f (normalP f m u)).length u.length L) (i:Int) (m:Int) (mat m f)) true:=by
 have hnl:=normalP_length f hs hu
 have hnlt:=normalP_lt f hs hu
 intro d
 induction d with
 | zero =>
  intro i hi
  refine Ev.succ ?_
  simp only [laws_FnHeights.l1]
  exact Ev.neg (by rw [ints_length];omega) (Ev.now _)
 | succ d ih =>
  intro i hi
  obtain ⟨M,p,e1,e2,e3⟩:=early_ev hm hs hA hul hu i (by omega)
  generalize hw:normalP f m u = w at *
  have up:=hup i (by omega)
  have s1:=hE_spec f w i (by omega)
  have sle:=hE_le f w i (by omega)
  have h1i:=h1 i (by omega)
  have hlat:rd (latestP (foataP f w).length u.length L) (i:Int) = ((foataP f w).length:Int) + 1 - (L i:Int):=by
   have:=latestP_length (foataP f w).length u.length L
   rw [rd_lt _ i (by omega)]
   simp [latestP]
  have J:Ev (fun k=>laws_FnHeights.j5 k (ints u) (ints c) ((foataP f w).length:Int) (ints (foataP f w)) (ints w) (latestP (foataP f w).length u.length L) (i:Int) ((hE f w i:Nat):Int) false (m:Int) (mat m f)) true:=by
   refine Ev.succ ?_
   simp only [laws_FnHeights.j5]
   rw [w64' (show -9000000000000000000 ≤ (((hE f w i:Nat):Int) - 1) ∧ (((hE f w i:Nat):Int) - 1) ≤ 9000000000000000000 by omega),show ((hE f w i:Nat):Int) - 1 = ((hE f w i - 1:Nat):Int) by omega,rd_getD,rd_getD]
   have hwi:w.getD i 0 < m:=getD_lt hnlt (by omega)
   rw [u64_nat (w.getD i 0) (by omega)]
   have hb:((foataP f w).getD (hE f w i - 1) 0).testBit (w.getD i 0) = true:=(foata_bit f w (hE f w i - 1) (w.getD i 0) (by omega)).2 ⟨i,by omega,rfl,by omega⟩
   have hlt:=stp_lt f w m hnlt w.length (Nat.le_refl _) (hE f w i - 1)
   have h8:(2:Nat) ^ m ≤ 2 ^ 8:=Nat.pow_le_pow_right (by decide) hm
   have hlt' : (foataP f w).getD (hE f w i - 1) 0 < 2 ^ 62:=by unfold foataP;omega
   refine Ev.neg (by decide) (Ev.neg (by omega) (Ev.neg (by rw [ints_length];omega) (Ev.pos (by omega) (Ev.pos (by rw [ints_length];omega) (Ev.pos (by omega) (Ev.pos (by rw [ints_length];omega) (Ev.pos (by omega) (Ev.neg (bit_no hlt' (by omega) hb) ?_))))))))
   rw [w64' (by omega),show (i:Int) + 1 = ((i + 1:Nat):Int) by omega]
   exact ih (i + 1) (by omega)
  refine Ev.succ ?_
  simp only [laws_FnHeights.l1]
  refine Ev.pos (by rw [ints_length];omega) (Ev.bind e1 (Ev.bind e2 (Ev.bind e3 (Ev.pos rfl (Ev.pos rfl (Ev.pos rfl (Ev.pos (by omega) (Ev.pos (by rw [latestP_length];omega) ?_))))))))
  simp only []
  rw [hlat]
  refine Ev.neg (by omega) (Ev.neg (by omega) (Ev.bind (hasInt_ev c (by omega) i) (Ev.ite (fun g=>?_) (fun g=>J))))
  have hi' := hc i (of_decide_eq_true g)
  rw [show (((hE f w i:Nat):Int) != ((foataP f w).length:Int) + 1 - (L i:Int)) = false from by rw [bne_eq_false_iff_eq];omega]
  exact J
end
theorem law_ev (c:List Int) (hb:∀ x ∈ c,0 ≤ x ∧ x ≤ 255):Ev (fun k=>laws_FnHeights.f k c) true:=by
 simp only [laws_FnHeights.f,laws_big.f]
 refine Ev.some_bind (Ev.ite (fun _=>Ev.now _) (fun g=>?_))
 have hcl:c.length ≤ 4096:=by simp at g;omega
 obtain ⟨a,h,n,D,w,s0,l0,l1,hd⟩:=l03Pair_ev c hb hcl 8 24 (by omega) (by omega)
 have hd' : Ev (fun k=>spec_DrawLongestChain.f k c) (n,D,w):=by
  simp only [spec_DrawLongestChain.f]
  exact Ev.bind hd (Ev.now _)
 obtain ⟨r,rl,p1,p2,p3⟩:=LongestChain_both n D w
 refine Ev.bind hd' (Ev.bind p2 (Ev.bind p1 (Ev.pos rfl (Ev.bind (likeInts_ev r.1 (by omega)) (Ev.succ ?_)))))
 simp only [laws_FnHeights.j0]
 refine Ev.neg (by decide) (Ev.ite (fun k0=>?_) (fun _=>Ev.now _))
 obtain ⟨m,f,u,L,rfl,rfl,rfl,hm,hs,hr,hul,hu,hA,hL,e⟩:=p3 k0
 rw [e]
 have hnl:=normalP_length f hs hu
 have hnt:=normalP_TrEq f hs _ u rfl hu
 obtain ⟨L2,hL2,q5⟩:=LatestSteps_impl hm hs hA hul hu
 have q1:=HeightOf_impl hm hs hA hul hu
 have q2:=FoataForm_impl hm hs hA hul hu
 have q3:=NormalForm_ok hm hA hul hu
 have q4:=OrderOf_impl hm hs hA hul hu
 have hLe:∀ i,i < u.length → L i = L2 i:=fun i hi=>ChainAt.unique hL hL2 (u.length - i - 1) i (by omega)
 have elat:latestP (foataP f u).length u.length L2 = latestP (foataP f u).length u.length L:=by
  unfold latestP
  exact List.map_congr_left (fun i hi=>by rw [hLe i (List.mem_range.1 hi)])
 have ef:foataP f u = foataP f (normalP f m u):=(foataP_TrEq f hs hnt).symm
 rw [elat,ef] at q5
 rw [ef] at q1 q2
 have hH:(foataP f (normalP f m u)).length ≤ 24:=by
  have:=stp_length_le f (normalP f m u) (normalP f m u).length
  unfold foataP
  omega
 have hL' : ∀ i,i < (normalP f m u).length → ChainAt (ordP f (normalP f m u)) (normalP f m u).length L i:=by rw [hnl];exact hL
 obtain ⟨c1,c2,c3⟩:=chain_facts hL' (outP L (ordP f (normalP f m u)) u.length (List.range u.length)) (by rw [hnl])
 generalize hc:outP L (ordP f (normalP f m u)) u.length (List.range u.length) = ch at c1 c2 c3
 rw [hnl] at c2
 refine Ev.bind q1 (Ev.bind q2 (Ev.bind q3 (Ev.bind q4 (Ev.bind q5 (Ev.pos rfl (Ev.pos rfl (Ev.pos rfl (Ev.pos rfl (Ev.pos rfl ?_)))))))))
 simp only []
 have hll:=latestP_length (foataP f (normalP f m u)).length u.length L
 refine Ev.pos (by rw [hll,ints_length];omega) (Ev.pos (by rw [ints_length,ints_length];omega) ?_)
 rw [show (((mat u.length (ordP f (normalP f m u))).length:Int) != ((ints u).length:Int)) = false from by rw [bne_eq_false_iff_eq,mat_length,ints_length]]
 refine Ev.succ ?_
 simp only [laws_FnHeights.j1]
 refine Ev.neg (by decide) (Ev.pos (by rw [ints_length]) ?_)
 rw [show (((foataP f (normalP f m u)).length:Int) != ((ints ch).length:Int)) = false from by rw [bne_eq_false_iff_eq,ints_length];omega]
 refine Ev.succ ?_
 simp only [laws_FnHeights.j2]
 refine Ev.neg (by decide) ?_
 have fin:=l1_ev hm hs hA hul hu hr ch L (by omega) c2 (fun i hi=>hE_up f (normalP f m u) hL' ((normalP f m u).length - i - 1) i (by omega)) (fun i hi=>(hL i hi).1) hH u.length 0 (by omega)
 have loop:∀ (d t:Nat),t + d = ch.length ∨ (ch.length = 0 ∧ t = 1 ∧ d = 0) → 1 ≤ t → Ev (fun k=>laws_FnHeights.l0 k (ints u) (ints ch) ((foataP f (normalP f m u)).length:Int) (ints (foataP f (normalP f m u))) (ints (normalP f m u)) (mat u.length (ordP f (normalP f m u))) (latestP (foataP f (normalP f m u)).length u.length L) (t:Int) (m:Int) (mat m f)) true:=by
  intro d
  induction d with
  | zero =>
   intro t ht h1
   refine Ev.succ ?_
   simp only [laws_FnHeights.l0]
   exact Ev.neg (by rw [ints_length];omega) fin
  | succ d ih =>
   intro t ht h1
   have ht:t + (d + 1) = ch.length:=by omega
   obtain ⟨t', rfl⟩:∃ t', t = t' + 1:=⟨t - 1,by omega⟩
   obtain ⟨g1,g2⟩:=c3 t' (by omega)
   have m1:ch.getD t' 0 < u.length:=(c2 _ (by rw [List.getD_eq_getElem?_getD,List.getElem?_eq_getElem (show t' < ch.length by omega)];exact List.getElem_mem _)).1
   have m2:ch.getD (t' + 1) 0 < u.length:=(c2 _ (by rw [List.getD_eq_getElem?_getD,List.getElem?_eq_getElem (show t' + 1 < ch.length by omega)];exact List.getElem_mem _)).1
   have hmk:=mk_lt u.length (ordP f (normalP f m u) (ch.getD t' 0))
   have h62:=pow_lt62 hul
   refine Ev.succ ?_
   simp only [laws_FnHeights.l0]
   rw [show wrap64 (((t' + 1:Nat):Int) - 1) = ((t' : Nat):Int) from by rw [w64' (by omega)];omega,rd_getD,rd_getD,rd_mat u.length _ _ m1,u64_nat (ch.getD (t' + 1) 0) (by omega)]
   refine Ev.pos (by rw [ints_length];omega) (Ev.pos (by omega) (Ev.pos (by rw [ints_length];omega) (Ev.pos (by omega) (Ev.pos (by rw [mat_length];omega) (Ev.pos (by omega) (Ev.pos (by omega) (Ev.neg (bit_no (by omega) (by omega) (by rw [testBit_mk,g1,decide_eq_true m2];rfl)) (Ev.neg (by omega) ?_))))))))
   rw [w64' (by omega),show ((t' + 1:Nat):Int) + 1 = ((t' + 1 + 1:Nat):Int) by omega]
   exact ih (t' + 1 + 1) (.inl (by omega)) (by omega)
 exact loop (ch.length - 1) 1 (by omega) (by omega)
theorem pure:PureStmt:=fun c _ h2=>(law_ev c (fun x hx=>u8_bounds (h2 x hx))).elim fun K h=>⟨K,h K (Nat.le_refl K)⟩
end Go.Proofs.YtpenijicdldipaaDoor.LFnHeights
