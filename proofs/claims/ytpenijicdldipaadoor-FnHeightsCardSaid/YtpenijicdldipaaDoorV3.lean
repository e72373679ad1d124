import Derived.Test.YtpenijicdldipaaDoorPAllx1
import Derived.Test.YtpenijicdldipaaDoorPAllx10
import Derived.Test.YtpenijicdldipaaDoorPAllx2
import Derived.Test.YtpenijicdldipaaDoorPAllx3
import Derived.Test.YtpenijicdldipaaDoorPAllx6
import Derived.Test.YtpenijicdldipaaDoorPAllx7
import Derived.Test.YtpenijicdldipaaDoorPAllx8
import Derived.Test.YtpenijicdldipaaDoorPAllx9
import Derived.Test.YtpenijicdldipaaDoorV0
import Derived.Test.YtpenijicdldipaaDoorV1
import Derived.Test.YtpenijicdldipaaDoorQBase
import Derived.Test.YtpenijicdldipaaDoorQDraw
import Derived.Test.YtpenijicdldipaaDoorQFoata
import Derived.Test.YtpenijicdldipaaDoorQMap
import Derived.Test.YtpenijicdldipaaDoorQMask
import Derived.Test.YtpenijicdldipaaDoorQMeet
import Derived.Test.YtpenijicdldipaaDoorQOrder
import Derived.Test.YtpenijicdldipaaDoorQRev
import Derived.Test.YtpenijicdldipaaDoorQTab
import Derived.Test.YtpenijicdldipaaDoorQTrace
set_option linter.unusedVariables false
set_option linter.unusedSimpArgs false
namespace Go.Proofs.YtpenijicdldipaaDoor.PAll
open Go.RowKit Go.Proofs.YtpenijicdldipaaDoorW.PrintWords Go.Proofs.YtpenijicdldipaaDoorW.PrintMore Go.Proofs.YtpenijicdldipaaDoor.Q
theorem foata_ev (n:Nat) (hn:n ≤ 8) (f:Nat → Nat → Bool) (hs:∀ a b,f a b = f b a) (w:List Nat) (hl:w.length ≤ 10000) (hw:∀ x ∈ w,x < n):Ev (fun k=>impl_ties_foata.f k (mat n f) (ints w)) (ints (foataP f w)):=by
 simp only [impl_ties_foata.f]
 have outer:∀ (d i:Nat),i + d = w.length → Ev (fun k=>impl_ties_foata.l0 k (mat n f) (ints (stp f w i)) (ints w) (w.length:Int) (i:Int)) (ints (foataP f w)):=by
  intro d
  induction d with
  | zero =>
   intro i hi
   refine Ev.succ ?_
   simp only [impl_ties_foata.l0]
   refine Ev.neg (by omega) (Ev.const ?_)
   rw [foataP,show i = w.length by omega]
  | succ d ih =>
   intro i hi
   refine Ev.succ ?_
   simp only [impl_ties_foata.l0]
   refine Ev.pos (by omega) (Ev.pos (by omega) (Ev.pos (by simp;omega) ?_))
   have hx:=getD_lt hw (show i < w.length by omega)
   have hlen:=stp_length_le f w i
   have hbd:=stp_lt f w n hw i (by omega)
   have hstp:stp f w (i + 1) = stepF (stp f w i) (hPart f w (hts f w i) i i) (w.getD i 0):=by simp only [stp];rw [hts_last]
   have seen:=height_seen f w hs n hw i (by omega)
   have ih' := ih (i + 1) (by omega)
   have h1:(2:Nat) ^ n ≤ 2 ^ 24:=pow24 (by omega)
   have h2:(2:Nat) ^ (w.getD i 0) ≤ 2 ^ 24:=pow24 (by omega)
   have hm:=mk_lt n (f (w.getD i 0))
   rw [rd_getD]
   -- from place l on nothing meets; what follows at l
   have fin:∀ l,l ≤ (stp f w i).length → hPart f w (hts f w i) i i = l + 1 → Ev (fun k=>if (l:Int) = ((ints (stp f w i)).length:Int) then (if (ints (stp f w i)).length < 17592186044416 then ((some (ints (stp f w i) ++ [0]:List Int)).bind fun y=>(if 0 ≤ (l:Int) then (if (l:Int) < (y.length:Int) then ((impl_one.f ((w.getD i 0:Nat):Int)).bind fun t=>(impl_ties_foata.l0 k (mat n f) (y.set ((l:Int):Int).toNat (Go.bits .or .i64 (rd y (l:Int)) t)) (ints w) (w.length:Int) (wrap64 ((i:Int) + 1)))) else none) else none)) else none) else (if 0 ≤ (l:Int) then (if (l:Int) < ((ints (stp f w i)).length:Int) then ((impl_one.f ((w.getD i 0:Nat):Int)).bind fun t=>(impl_ties_foata.l0 k (mat n f) ((ints (stp f w i)).set ((l:Int):Int).toNat (Go.bits .or .i64 (rd (ints (stp f w i)) (l:Int)) t)) (ints w) (w.length:Int) (wrap64 ((i:Int) + 1)))) else none) else none)) (ints (foataP f w)):=by
    intro l hl hh
    rw [hstp,hh] at ih'
    simp only [stepF,Nat.add_sub_cancel] at ih'
    rw [one_eq _ (by omega)]
    refine Ev.ite (fun c=>?_) (fun c=>?_)
    ·have el:l = (stp f w i).length:=by rw [ints_length] at c;omega
     refine Ev.pos (by simp;omega) (Ev.some_bind (Ev.pos (by omega) (Ev.pos (by simp;omega) (Ev.some_bind ?_))))
     have e0:ints (stp f w i) ++ [0] = ints (stp f w i ++ [0]):=by rw [ints_append];rfl
     rw [e0,rd_getD,w64' (by omega),Int.toNat_natCast]
     have hz:(stp f w i ++ [0]).getD l 0 = 0:=by subst el;simp [List.getD_eq_getElem?_getD]
     rw [hz,b_or _ _ (by decide) (by omega),show (ints (stp f w i ++ [0])).set l (((0 ||| 2 ^ (w.getD i 0):Nat)):Int) = ints ((stp f w i ++ [0]).set l (0 ||| 2 ^ (w.getD i 0))) by simp [ints,List.map_set]]
     rw [show l + 1 - (stp f w i).length = 1 by omega,show List.replicate 1 0 = [0] from rfl,hz] at ih'
     exact ih'
    ·have el:l < (stp f w i).length:=by
      rw [ints_length] at c;omega
     refine Ev.pos (by omega) (Ev.pos (by simp;omega) (Ev.some_bind ?_))
     have hb:=hbd l
     rw [rd_getD,w64' (by omega),Int.toNat_natCast,b_or _ _ (by omega) (by omega),show (ints (stp f w i)).set l ((((stp f w i).getD l 0 ||| 2 ^ (w.getD i 0):Nat)):Int) = ints ((stp f w i).set l ((stp f w i).getD l 0 ||| 2 ^ (w.getD i 0))) by simp [ints,List.map_set]]
     rw [show l + 1 - (stp f w i).length = 0 by omega,List.replicate_zero,List.append_nil] at ih'
     exact ih'
   have inner:∀ l,l ≤ (stp f w i).length → (∀ s,l ≤ s → s < (stp f w i).length → (stp f w i).getD s 0 &&& mk n (f (w.getD i 0)) = 0) → Ev (fun k=>impl_ties_foata.l1 k (mat n f) (ints (stp f w i)) ((w.getD i 0:Nat):Int) (l:Int) (ints w) (w.length:Int) (i:Int)) (ints (foataP f w)):=by
    intro l
    induction l with
    | zero =>
     intro hl hz
     refine Ev.succ ?_
     simp only [impl_ties_foata.l1]
     refine Ev.neg (by omega) ?_
     exact fin 0 hl (seen 0 hl (.inl rfl) hz)
    | succ l ihl =>
     intro hl hz
     refine Ev.succ ?_
     simp only [impl_ties_foata.l1]
     have e1:wrap64 (((l + 1:Nat):Int) - 1) = (l:Int):=(w64' (by omega)).trans (by omega)
     rw [e1]
     refine Ev.pos (by omega) (Ev.pos (by omega) (Ev.pos (by rw [ints_length];omega) (Ev.pos (by omega) (Ev.pos (by rw [mat_length];omega) ?_))))
     have hb:=hbd l
     rw [rd_getD (stp f w i) l,rd_mat n f _ hx,b_and _ _ (by omega) (by omega)]
     refine Ev.ite (fun c=>?_) (fun c=>?_)
     ·refine ihl (by omega) (fun s h3 h4=>?_)
      by_cases e:s = l
      ·subst e;exact Int.ofNat.inj c
      ·exact hz s (by omega) h4
     ·exact fin (l + 1) hl (seen (l + 1) hl (.inr (fun h=>c (by rw [Nat.add_sub_cancel] at h;rw [h];rfl))) hz)
   have:=inner (stp f w i).length (Nat.le_refl _) (by intro s h3 h4;omega)
   rw [← ints_length (stp f w i)] at this
   exact this
 have:=outer w.length 0 (by omega)
 rw [ints_length]
 exact this
theorem checkPosition_ok (n:Nat) (hn:n ≤ 8) (f:Nat → Nat → Bool) (hs:∀ a b,f a b = f b a) (w:List Nat) (hl:w.length ≤ 24) (hw:∀ x ∈ w,x < n) (i:Int) (hk:Ev (fun k=>impl_checkWords.f k (n:Int) (mat n f) [ints w]) 0) :
  Ev (fun k=>impl_checkPosition.f k (n:Int) (mat n f) (ints w) i) (if 0 ≤ i ∧ i ≤ (w.length:Int) - 1 then (mat w.length (ordP f (normalP f n w)),0) else ([],2)):=by
 simp only [impl_checkPosition.f,impl_length_int64.f,inRange_eq]
 refine Ev.bind hk (Ev.pos rfl (Ev.some_bind (Ev.some_bind ?_)))
 rw [ints_length,w64' (by omega)]
 by_cases c:0 ≤ i ∧ i ≤ (w.length:Int) - 1
 ·rw [if_pos c]
  exact Ev.pos (by simpa using c) (Ev.bind (positions_ev n hn f hs w hl hw) (Ev.now _))
 ·rw [if_neg c]
  exact Ev.neg (by simpa using c) (Ev.now _)
theorem l01From_ev (c:List Int) (hc:c.length ≤ 4096):∃ h,Ev (fun k=>spec_l01From.f k c) (c,0,h):=by
 have loop:∀ (d i:Nat) (h:Int),i + d = c.length → ∃ h', Ev (fun k=>spec_l01From.l0 k c (i:Int) c 0 h) (c,0,h'):=by
  intro d
  induction d with
  | zero =>
   intro i h hi
   refine ⟨h,Ev.succ ?_⟩
   simp only [spec_l01From.l0]
   exact Ev.neg (by omega) (Ev.now _)
  | succ d ih =>
   intro i h hi
   obtain ⟨h', e⟩:=ih (i + 1) (IntKind.u64.wrap ((IntKind.u64.wrap ((IntKind.u64.wrap (h * 1099511628211)) + (IntKind.u64.wrap (rd c i)))) + 11)) (by omega)
   refine ⟨h', Ev.succ ?_⟩
   simp only [spec_l01From.l0]
   refine Ev.pos (by omega) (Ev.pos (by omega) (Ev.pos (by omega) ?_))
   rw [w64' (by omega)]
   exact e
 simp only [spec_l01From.f]
 exact loop c.length 0 _ (by omega)
theorem l01Next_ev {c:List Int} {a:Int} (hS:Src c a) (h n:Int):∃ v a' h', spec_l01Next.f c a h n = some (v,a', h') ∧ Src c a' ∧ 0 ≤ v ∧ (1 ≤ n → v < n) ∧ (n < 1 → v = 0):=by
 unfold spec_l01Next.f
 by_cases h1:n < 1
 ·rw [if_pos h1]
  exact ⟨_,_,_,rfl,hS,by omega,by omega,fun _=>rfl⟩
 ·rw [if_neg h1]
  have hr:=u64_range (IntKind.u64.wrap (h * 6364136223846793005) + 1442695040888963407)
  generalize IntKind.u64.wrap (IntKind.u64.wrap (h * 6364136223846793005) + 1442695040888963407) = H at hr
  obtain ⟨b,hb,b0,b1⟩:=u64_mask (H / 8589934592) (by omega) (by omega)
  rw [hb,w64' (x:=b) (by omega)]
  obtain ⟨s1,s2,s3,s4⟩:=hS
  by_cases g:a < (c.length:Int)
  ·rw [if_pos g,if_pos s3,if_neg (by omega)]
   obtain ⟨i,rfl⟩:=Int.eq_ofNat_of_zero_le s3
   have hx:=s1 _ (List.getElem_mem (show i < c.length by omega))
   rw [rd_lt c i (by omega),w64' (x:=c[i]) (by omega),w64' (x:=b + c[i]) (by omega),w64' (x:=(i:Int) + 1) (by omega)]
   have:=tmod_range (b + c[i]) n (by omega) (by omega)
   exact ⟨_,_,_,rfl,⟨s1,s2,by omega,by omega⟩,this.1,fun _=>this.2,by omega⟩
  ·rw [if_neg g,if_neg (by omega)]
   have:=tmod_range b n (by omega) (by omega)
   exact ⟨_,_,_,rfl,⟨s1,s2,s3,s4⟩,this.1,fun _=>this.2,by omega⟩
theorem l01Pick_ev {c:List Int} {a:Int} (hS:Src c a) (h:Int) (l:List Int) (hl:1 ≤ l.length):∃ v a' h', spec_l01Pick.f c a h l = some (v,a', h') ∧ Src c a' ∧ v ∈ l:=by
 obtain ⟨v,a', h', e,s,v0,v1,_⟩:=l01Next_ev hS h (l.length:Int)
 unfold spec_l01Pick.f
 rw [e]
 simp only [Option.bind_some]
 have:=v1 (by omega)
 obtain ⟨i,rfl⟩:=Int.eq_ofNat_of_zero_le v0
 rw [if_pos v0,if_pos this,rd_lt l i (by omega)]
 exact ⟨_,_,_,rfl,s,List.getElem_mem _⟩
theorem mk_single (n a:Nat) (ha:a < n):mk n (fun b=>decide (a = b)) = 2 ^ a:=bits_ext fun i=>by
 rw [testBit_mk,testBit_one]
 by_cases e:a = i
 ·subst e;simp [ha]
 ·simp [e]
theorem l02Free_ev (n:Nat) (hn:n ≤ 24):Ev (fun k=>spec_l02Free.f k (n:Int)) ((n:Int),mat n fun a b=>decide (a = b)):=by
 have e:mat n (fun a b=>decide (a = b)) = (List.range n).map fun i=>((2 ^ i:Nat):Int):=by
  unfold mat
  refine List.map_congr_left fun i hi=>?_
  rw [mk_single n i (List.mem_range.1 hi)]
 rw [e]
 have loop:∀ (d i:Nat),i + d = n → Ev (fun k=>spec_l02Free.l0 k (n:Int) (i:Int) (n:Int) ((List.range i).map fun i=>((2 ^ i:Nat):Int))) ((n:Int),(List.range n).map fun i=>((2 ^ i:Nat):Int)):=by
  intro d
  induction d with
  | zero =>
   intro i hi
   obtain rfl:i = n:=by omega
   refine Ev.succ ?_
   simp only [spec_l02Free.l0]
   exact Ev.neg (by omega) (Ev.now _)
  | succ d ih =>
   intro i hi
   refine Ev.succ ?_
   simp only [spec_l02Free.l0]
   refine Ev.pos (by omega) ?_
   rw [l01One_eq i (by omega),w64' (by omega)]
   refine Ev.some_bind (Ev.pos (by simp;omega) ?_)
   have:=ih (i + 1) (by omega)
   rw [List.range_succ,List.map_append] at this
   exact this
 simp only [spec_l02Free.f]
 exact loop n 0 (by omega)
theorem mat_set (n:Nat) (f:Nat → Nat → Bool) (a b:Nat) (ha:a < n) (hb:b < n):(mat n f).set a ((mk n (f a) ||| 2 ^ b:Nat):Int) = mat n fun i k=>f i k || (decide (i = a) && decide (k = b)):=by
 apply List.ext_getElem
 ·simp
 ·intro q h1 h2
  have hq:q < n:=by simpa using h1
  rw [List.getElem_set]
  by_cases e:a = q
  ·subst e
   rw [if_pos rfl]
   simp only [mat,List.getElem_map,List.getElem_range]
   congr 1
   refine bits_ext fun i=>?_
   rw [Nat.testBit_or,testBit_mk,testBit_mk,testBit_one]
   by_cases e:b = i
   ·subst e;simp [hb]
   ·simp [e,show ¬ i = b from fun h=>e h.symm]
  ·rw [if_neg e]
   simp only [mat,List.getElem_map,List.getElem_range]
   congr 1
   exact mk_congr fun i _=>by simp [show ¬ q = a from fun h=>e h.symm]
theorem l02Join_eq (n:Nat) (hn:n ≤ 24) (f:Nat → Nat → Bool) (a b:Nat) (ha:a < n) (hb:b < n) :
  spec_l02Join.f (n:Int) (mat n f) (a:Int) (b:Int) = some (mat n fun i k=>(f i k || (decide (i = a) && decide (k = b))) || (decide (i = b) && decide (k = a))):=by
 unfold spec_l02Join.f
 have p1:=pow24 hn
 have p2:(2:Nat) ^ a ≤ 2 ^ 24:=pow24 (by omega)
 have p3:(2:Nat) ^ b ≤ 2 ^ 24:=pow24 (by omega)
 have h1:=mk_lt n (f a)
 have h2:=mk_lt n (fun k=>f b k || (decide (b = a) && decide (k = b)))
 rw [if_pos (by omega),if_pos (by simp;omega),show spec_l01One_Bl02Join.f (b:Int) = spec_l01One.f (b:Int) from rfl,show spec_l01One_Bl02Join.f (a:Int) = spec_l01One.f (a:Int) from rfl,l01One_eq a (by omega),l01One_eq b (by omega),rd_mat n f a ha]
 simp only [Option.bind_some]
 rw [b_or _ _ (by omega) (by omega),Int.toNat_natCast,mat_set n f a b ha hb]
 rw [if_pos (by omega),if_pos (by simp;omega),rd_mat n _ b hb,b_or _ _ (by omega) (by omega),Int.toNat_natCast,mat_set n _ b a hb ha]
def Drawn (c:List Int) (most:Nat) (r:Int × List Int × Int × Int):Prop:=∃ (n:Nat) (f:Nat → Nat → Bool),r.1 = (n:Int) ∧ r.2.1 = mat n f ∧ n ≤ most ∧ n ≤ 8 ∧ (∀ a b,f a b = f b a) ∧ (∀ a,a < n → f a a = true) ∧ Src c r.2.2.1
theorem l02Draw_l0 (c:List Int) (most n:Nat) (hn:n ≤ most) (hn8:n ≤ 8) (part:Int):∀ (d a:Nat),a + d = n → ∀ (f:Nat → Nat → Bool) (at_ h:Int),(∀ a b,f a b = f b a) → (∀ a,a < n → f a a = true) → Src c at_ →
  ∃ r,Drawn c most r ∧ Ev (fun k=>spec_l02Draw.l0 k (n:Int) part (a:Int) c at_ h (n:Int) (mat n f)) r:=by
 intro d
 induction d with
 | zero =>
  intro a ha f at_ h hs hr hS
  refine ⟨((n:Int),mat n f,at_,h),⟨n,f,rfl,rfl,hn,hn8,hs,hr,hS⟩,Ev.succ ?_⟩
  simp only [spec_l02Draw.l0]
  exact Ev.neg (by omega) (Ev.now _)
 | succ d ih =>
  intro a ha f at_ h hs hr hS
  have inner:∀ (e b:Nat),b + e = a → ∀ (f:Nat → Nat → Bool) (at_ h:Int),(∀ a b,f a b = f b a) → (∀ a,a < n → f a a = true) → Src c at_ →
    ∃ r,Drawn c most r ∧ Ev (fun k=>spec_l02Draw.l1 k (n:Int) part (a:Int) (b:Int) c at_ h (n:Int) (mat n f)) r:=by
   intro e
   induction e with
   | zero =>
    intro b hb f at_ h hs hr hS
    obtain ⟨r,hd,he⟩:=ih (a + 1) (by omega) f at_ h hs hr hS
    refine ⟨r,hd,Ev.succ ?_⟩
    simp only [spec_l02Draw.l1]
    refine Ev.neg (by omega) ?_
    rw [w64' (by omega)]
    exact he
   | succ e ihe =>
    intro b hb f at_ h hs hr hS
    obtain ⟨v,a1,h1,e1,s1,_⟩:=l01Next_ev hS h part
    by_cases g:v = 0
    ·obtain ⟨r,hd,he⟩:=ihe (b + 1) (by omega) (fun i k=>(f i k || (decide (i = a) && decide (k = b))) || (decide (i = b) && decide (k = a))) a1 h1 (fun x y=>by
      rw [hs x y,Bool.eq_iff_iff]
      simp only [Bool.or_eq_true,Bool.and_eq_true,decide_eq_true_eq]
      constructor
      ·rintro ((h | ⟨h1,h2⟩) | ⟨h1,h2⟩)
       ·exact .inl (.inl h)
       ·exact .inr ⟨h2,h1⟩
       ·exact .inl (.inr ⟨h2,h1⟩)
      ·rintro ((h | ⟨h1,h2⟩) | ⟨h1,h2⟩)
       ·exact .inl (.inl h)
       ·exact .inr ⟨h2,h1⟩
       ·exact .inl (.inr ⟨h2,h1⟩)) (fun x hx=>by simp [hr x hx]) s1
     refine ⟨r,hd,Ev.succ ?_⟩
     simp only [spec_l02Draw.l1]
     refine Ev.pos (by omega) ?_
     rw [e1]
     refine Ev.some_bind (Ev.pos g ?_)
     rw [l02Join_eq n (by omega) f a b (by omega) (by omega),w64' (by omega)]
     exact Ev.some_bind he
    ·obtain ⟨r,hd,he⟩:=ihe (b + 1) (by omega) f a1 h1 hs hr s1
     refine ⟨r,hd,Ev.succ ?_⟩
     simp only [spec_l02Draw.l1]
     refine Ev.pos (by omega) ?_
     rw [e1]
     refine Ev.some_bind (Ev.neg g ?_)
     rw [w64' (by omega)]
     exact he
  obtain ⟨r,hd,he⟩:=inner a 0 (by omega) f at_ h hs hr hS
  refine ⟨r,hd,Ev.succ ?_⟩
  simp only [spec_l02Draw.l0]
  exact Ev.pos (by omega) he
theorem l02Draw_ev {c:List Int} {a:Int} (hS:Src c a) (h:Int) (most:Nat) (hm:most ≤ 8):∃ r,Drawn c most r ∧ Ev (fun k=>spec_l02Draw.f k c a h (most:Int)) r:=by
 have j1:∀ (n a h:Int),0 ≤ n → n ≤ most → Src c a → ∃ r,Drawn c most r ∧ Ev (fun k=>spec_l02Draw.j1 k n c a h) r:=by
  intro n a h h0 h1 hS
  obtain ⟨m,rfl⟩:=Int.eq_ofNat_of_zero_le h0
  obtain ⟨v,a1,h1', e1,s1,_⟩:=l01Pick_ev hS h [2,2,3,4] (by simp)
  obtain ⟨r,hd,he⟩:=l02Draw_l0 c most m (by omega) (by omega) v m 0 (by omega) (fun a b=>decide (a = b)) a1 h1' (fun x y=>by rw [decide_eq_decide];exact ⟨Eq.symm,Eq.symm⟩) (by simp) s1
  refine ⟨r,hd,Ev.succ ?_⟩
  simp only [spec_l02Draw.j1]
  refine Ev.bind (l02Free_ev m (by omega)) ?_
  rw [e1]
  exact Ev.some_bind he
 have j0:∀ (b:Bool) (a h:Int),(b = true → 4 ≤ most) → Src c a → ∃ r,Drawn c most r ∧ Ev (fun k=>spec_l02Draw.j0 k (most:Int) b c a h) r:=by
  intro b a h hb hS
  cases b with
  | true =>
   refine ⟨((4:Nat),[11,7,14,13],a,h),⟨4,fun x y=>decide (x < 4 ∧ y < 4) && bitR [11,7,14,13] x y,rfl,?_,hb rfl,by omega,?_,?_,hS⟩,Ev.succ ?_⟩
   ·exact (eq_mat [11,7,14,13] (by decide)).trans (mat_congr fun i k hi hk=>by
     have h1:i < 4:=hi
     have h2:k < 4:=hk
     simp [h1,h2])
   ·intro x y
    have key:∀ x,x < 4 → ∀ y,y < 4 → bitR [11,7,14,13] x y = bitR [11,7,14,13] y x:=by decide
    show (decide (x < 4 ∧ y < 4) && bitR [11,7,14,13] x y) = (decide (y < 4 ∧ x < 4) && bitR [11,7,14,13] y x)
    by_cases hx:x < 4 <;> by_cases hy:y < 4 <;> simp [hx,hy]
    exact key x hx y hy
   ·decide
   ·simp only [spec_l02Draw.j0]
    exact Ev.pos trivial (Ev.now _)
  | false =>
   obtain ⟨v,a1,h1,e1,s1,v0,v1,_⟩:=l01Next_ev hS h (wrap64 ((most:Int) + 1))
   have w:=w64' (x:=(most:Int) + 1) (by omega)
   by_cases g:v < 2
   ·obtain ⟨v2,a2,h2,e2,s2,u0,u1,_⟩:=l01Next_ev s1 h1 (wrap64 ((most:Int) + 1))
    obtain ⟨r,hd,he⟩:=j1 v2 a2 h2 u0 (by rw [w] at u1;have:=u1 (by omega);omega) s2
    refine ⟨r,hd,Ev.succ ?_⟩
    simp only [spec_l02Draw.j0]
    refine Ev.neg (by simp) ?_
    rw [e1]
    refine Ev.some_bind (Ev.pos g ?_)
    rw [e2]
    exact Ev.some_bind he
   ·obtain ⟨r,hd,he⟩:=j1 v a1 h1 v0 (by rw [w] at v1;have:=v1 (by omega);omega) s1
    refine ⟨r,hd,Ev.succ ?_⟩
    simp only [spec_l02Draw.j0]
    refine Ev.neg (by simp) ?_
    rw [e1]
    exact Ev.some_bind (Ev.neg g he)
 by_cases h4:4 ≤ most
 ·obtain ⟨v,a1,h1,e1,s1,_⟩:=l01Next_ev hS h 6
  obtain ⟨r,hd,he⟩:=j0 (v == 0) a1 h1 (fun _=>h4) s1
  refine ⟨r,hd,?_⟩
  simp only [spec_l02Draw.f]
  refine Ev.pos (by omega) ?_
  rw [e1]
  exact Ev.some_bind he
 ·obtain ⟨r,hd,he⟩:=j0 false a h (by simp) hS
  refine ⟨r,hd,?_⟩
  simp only [spec_l02Draw.f]
  exact Ev.neg (by omega) he
theorem likeInts_ev (x:List Int) (hx:x.length ≤ 17592186044416):Ev (fun k=>laws_likeInts.f k x x) true:=by
 have loop:∀ (d i:Nat),i + d = x.length → Ev (fun k=>laws_likeInts.l0 k x x (i:Int)) true:=by
  intro d
  induction d with
  | zero =>
   intro i hi
   refine Ev.succ ?_
   simp only [laws_likeInts.l0]
   exact Ev.neg (by omega) (Ev.now _)
  | succ d ih =>
   intro i hi
   refine Ev.succ ?_
   simp only [laws_likeInts.l0]
   refine Ev.pos (by omega) (Ev.pos (by omega) (Ev.pos (by omega) (Ev.pos trivial ?_)))
   rw [w64' (by omega)]
   exact ih (i + 1) (by omega)
 simp only [laws_likeInts.f]
 exact Ev.pos trivial (loop x.length 0 (by omega))
theorem IsMask24_eq (n:Nat) (hn:n ≤ 24) (a:Int):impl_IsMask.f a (n:Int) = some (decide (0 ≤ a ∧ a ≤ ((2 ^ n - 1:Nat):Int))):=by
 unfold impl_IsMask.f
 have hp:=Nat.two_pow_pos n
 have h24:=pow_lt62 hn
 rw [inRange_eq]
 simp only [Option.bind_some]
 rw [if_pos (by simp;omega),one_eq n (by omega)]
 simp only [Option.bind_some,inRange_eq]
 rw [w64' (by omega),show ((2 ^ n:Nat):Int) - 1 = ((2 ^ n - 1:Nat):Int) by omega]
theorem lettersAt_ev (l:List Int) (hl:l.length ≤ 24) (M:Nat) (hM:M < 2 ^ l.length):Ev (fun k=>impl_lettersAt.f k l (M:Int)) ((bitsOf M).map fun (i:Nat)=>rd l (i:Int)):=by
 have h24:=pow_lt62 hl
 have hb:∀ i ∈ bitsOf M,i < l.length:=fun i hi=>Classical.byContradiction fun h=>by
  have:=(mem_bitsOf (by have:(2:Nat) ^ 62 < 2 ^ 64:=(by decide);omega)).1 hi
  rw [bit_of_lt hM (by omega)] at this;cases this
 have h64:=bitsOf_length M
 have loop:∀ (suf pre:List Nat),pre ++ suf = bitsOf M → Ev (fun k=>impl_lettersAt.l0 k l (pre.map fun (i:Nat)=>rd l (i:Int)) (intsOf M) ((intsOf M).length:Int) (pre.length:Int)) ((bitsOf M).map fun (i:Nat)=>rd l (i:Int)):=by
  intro suf
  have hil:(intsOf M).length = (bitsOf M).length:=by simp [intsOf]
  induction suf with
  | nil =>
   intro pre hp
   rw [List.append_nil] at hp
   refine Ev.succ ?_
   simp only [impl_lettersAt.l0]
   rw [hil,hp]
   exact Ev.neg (by omega) (Ev.now _)
  | cons b suf ih =>
   intro pre hp
   have i1:=ih (pre ++ [b]) (by simpa using hp)
   have hbl:=hb b (by rw [← hp];simp)
   have hlen:pre.length + suf.length + 1 = (bitsOf M).length:=by rw [← hp];simp;omega
   have rb:rd (intsOf M) (pre.length:Int) = (b:Int):=by
    have:=rd_mid pre suf b
    rw [hp] at this
    exact this
   refine Ev.succ ?_
   simp only [impl_lettersAt.l0]
   refine Ev.pos (by omega) (Ev.pos (by omega) (Ev.pos (by omega) ?_))
   rw [rb]
   refine Ev.pos (by omega) (Ev.pos (by omega) (Ev.pos (by rw [List.length_map];omega) ?_))
   rw [w64' (by omega)]
   simp only [List.map_append,List.map_cons,List.map_nil,List.length_append,List.length_cons,List.length_nil] at i1
   exact i1
 simp only [impl_lettersAt.f]
 exact Ev.bind (members_ev M (by omega)) (loop (bitsOf M) [] rfl)
theorem lettersAt_ints (w:List Nat) (hl:w.length ≤ 24) (M:Nat) (hM:M < 2 ^ w.length):Ev (fun k=>impl_lettersAt.f k (ints w) (M:Int)) (ints (lettersP w M)):=by
 refine Ev.val (lettersAt_ev (ints w) (by simpa using hl) M (by simpa using hM)) ?_
 rw [bitsOf_range hM (by omega)]
 unfold lettersP ints
 rw [List.map_map]
 exact List.map_congr_left fun i _=>rd_getD w i
theorem PrefixAt_l0 (n:Nat) (hn:n ≤ 24) (g:Nat → Nat → Bool) (M:Nat) (hM:M < 2 ^ n) (w:List Int) (a:Int) (D:List Int) (R:List Int × Int)
  (hR:Ev (fun k=>(impl_Alphabet_ties.f a D).bind fun t649=>(impl_lettersAt.f k w (M:Int)).bind fun t652=>(impl_ties_normal.f k t649 t652).bind fun t655=>some (t655,0)) R) :
  Ev (fun k=>impl_PrefixAt.l0 k (M:Int) w ((bitsOf M).map fun (i:Nat)=>rd (mat n fun a b=>g b a) (i:Int)) (((bitsOf M).map fun (i:Nat)=>rd (mat n fun a b=>g b a) (i:Int)).length:Int) 0 a D) (if downP g n M = true then R else ([],5)):=by
 have h24:=pow_lt62 hn
 have hb:∀ i ∈ bitsOf M,i < n:=fun i hi=>Classical.byContradiction fun h=>by
  have:=(mem_bitsOf (by have:(2:Nat) ^ 62 < 2 ^ 64:=(by decide);omega)).1 hi
  rw [bit_of_lt hM (by omega)] at this;cases this
 have hbit:∀ i,i ∈ bitsOf M ↔ M.testBit i = true:=fun i=>mem_bitsOf (by have:(2:Nat) ^ 62 < 2 ^ 64:=(by decide);omega)
 have h64:=bitsOf_length M
 -- a position of the set, and what is below it
 let okB:Nat → Bool:=fun i=>(List.range n).all fun b=>!(g b i && !M.testBit b)
 have hd:downP g n M = true ↔ ∀ i ∈ bitsOf M,okB i = true:=by
  simp only [downP,okB,List.all_eq_true,List.mem_range,Bool.or_eq_true,Bool.not_eq_true', Bool.and_eq_false_iff]
  constructor
  ·intro h i hi b hbn
   rcases h b hbn with h1 | h1
   ·exact .inr (by rw [h1];rfl)
   ·rcases h1 i (hb i hi) with h2 | h2
    ·exact .inl h2
    ·rw [(hbit i).1 hi] at h2;cases h2
  ·intro h i hin
   by_cases hi:M.testBit i = true
   ·exact .inl hi
   ·refine .inr fun k hk=>?_
    by_cases hkm:M.testBit k = true
    ·rcases h k ((hbit k).2 hkm) i hin with h2 | h2
     ·exact .inl h2
     ·exact absurd (by simpa using h2) hi
    ·exact .inr (by simpa using hkm)
 have loop:∀ (suf pre:List Nat),pre ++ suf = bitsOf M → (∀ i ∈ pre,okB i = true) → Ev (fun k=>impl_PrefixAt.l0 k (M:Int) w ((bitsOf M).map fun (i:Nat)=>rd (mat n fun a b=>g b a) (i:Int)) (((bitsOf M).map fun (i:Nat)=>rd (mat n fun a b=>g b a) (i:Int)).length:Int) (pre.length:Int) a D) (if downP g n M = true then R else ([],5)):=by
  intro suf
  induction suf with
  | nil =>
   intro pre hp hok
   rw [List.append_nil] at hp
   rw [if_pos (hd.2 (by rw [← hp];exact hok))]
   refine Ev.succ ?_
   simp only [impl_PrefixAt.l0]
   exact Ev.neg (by rw [List.length_map,hp];omega) hR
  | cons b suf ih =>
   intro pre hp hok
   have hbm:b ∈ bitsOf M:=by rw [← hp];simp
   have hbl:=hb b hbm
   have hlen:pre.length + suf.length + 1 = (bitsOf M).length:=by rw [← hp];simp;omega
   have rb:rd ((bitsOf M).map fun (i:Nat)=>rd (mat n fun a b=>g b a) (i:Int)) (pre.length:Int) = ((mk n (fun c=>g c b):Nat):Int):=by
    rw [rd_lt _ _ (by rw [List.length_map];omega),List.getElem_map]
    have:(bitsOf M)[pre.length]'(by omega) = b:=by
     simp only [← hp]
     simp
    rw [this,rd_mat n _ b hbl]
   have hrow:=mk_lt n (fun c=>g c b)
   have ew:without (mk n fun c=>g c b) M = mk n fun c=>g c b && !M.testBit c:=by
    rw [show without (mk n fun c=>g c b) M = without (mk n fun c=>g c b) (mk n fun k=>M.testBit k) by rw [← eq_mk hM],mk_without hn]
   refine Ev.succ ?_
   simp only [impl_PrefixAt.l0]
   refine Ev.pos (by rw [List.length_map];omega) (Ev.pos (by omega) (Ev.pos (by rw [List.length_map];omega) ?_))
   rw [rb,b_andNot _ _ (by omega) (by omega),ew,w64' (by omega)]
   by_cases c:okB b = true
   ·have hz:mk n (fun c=>g c b && !M.testBit c) = 0:=mk_zero fun k hk=>by
     have:=List.all_eq_true.1 c k (List.mem_range.2 hk)
     cases e:(g k b && !M.testBit k) with
     | false=>rfl
     | true=>rw [e] at this;cases this
    rw [hz]
    have:=ih (pre ++ [b]) (by simpa using hp) (fun i hi=>(List.mem_append.1 hi).elim (hok i) (fun h=>by rw [List.mem_singleton.1 h];exact c))
    rw [show (pre ++ [b]).length = pre.length + 1 by simp] at this
    exact Ev.pos rfl this
   ·have hz:mk n (fun c=>g c b && !M.testBit c) ≠ 0:=by
     refine mk_ne_zero (Classical.byContradiction fun hn' => c (List.all_eq_true.2 fun k hk=>?_))
     cases e:(g k b && !M.testBit k) with
     | false=>rfl
     | true=>exact absurd ⟨k,List.mem_range.1 hk,e⟩ hn'
    rw [if_neg (fun h=>c (hd.1 h b hbm))]
    exact Ev.neg (by omega) (Ev.now _)
 exact loop (bitsOf M) [] rfl (by simp)
theorem impl_Latest_l0 (n:Nat) (hn:n ≤ 24) (ys:List Nat) (hy:ys.length = n) (hB:∀ j,ys.getD j 0 ≤ 100) (H:Nat) (hH:H ≤ 100):∀ (d i:Nat),i + d = n →
  Ev (fun k=>impl_LatestSteps.l0 k (latestP H i (fun j=>ys.getD j 0) ++ (ints ys).drop i) (H:Int) (n:Int) (i:Int)) (latestP H n fun j=>ys.getD j 0,0):=by
 intro d
 induction d with
 | zero =>
  intro i hi
  obtain rfl:i = n:=by omega
  refine Ev.succ ?_
  simp only [impl_LatestSteps.l0]
  refine Ev.neg (by omega) (Ev.const ?_)
  rw [List.drop_of_length_le (by simp;omega),List.append_nil]
 | succ d ih =>
  intro i hi
  have i1:=ih (i + 1) (by omega)
  rw [latestP_succ,List.append_assoc] at i1
  have hBi:=hB i
  have ed:(ints ys).drop i = ((ys.getD i 0:Nat):Int) :: (ints ys).drop (i + 1):=by
   rw [List.drop_eq_getElem_cons (by simp;omega)]
   congr 1
   simp [ints,List.getD_eq_getElem?_getD,List.getElem?_eq_getElem (show i < ys.length by omega)]
  have hll:=latestP_length H i (fun j=>ys.getD j 0)
  have hr:rd (latestP H i (fun j=>ys.getD j 0) ++ (ints ys).drop i) (i:Int) = ((ys.getD i 0:Nat):Int):=by
   rw [ed,rd_nat,List.getD_eq_getElem?_getD,List.getElem?_append_right (by omega),hll,Nat.sub_self];rfl
  refine Ev.succ ?_
  simp only [impl_LatestSteps.l0]
  refine Ev.pos (by omega) (Ev.pos (by omega) (Ev.pos (by rw [List.length_append,hll,List.length_drop,ints_length];omega) ?_))
  rw [hr,w64' (show -9000000000000000000 ≤ (H:Int) + 1 ∧ (H:Int) + 1 ≤ 9000000000000000000 by omega),w64' (by omega),w64' (by omega),Int.toNat_natCast]
  have es:(latestP H i (fun j=>ys.getD j 0) ++ (ints ys).drop i).set i ((H:Int) + 1 - ((ys.getD i 0:Nat):Int)) = latestP H i (fun j=>ys.getD j 0) ++ ([(H:Int) + 1 - ((ys.getD i 0:Nat):Int)] ++ (ints ys).drop (i + 1)):=by
   rw [ed,List.set_append_right _ _ (by omega),hll,Nat.sub_self];rfl
  rw [es]
  exact i1
theorem l03Draw_l0 {c:List Int} (m:Int) (D:List Int):∀ (t:Nat) (out:List Int) (a h:Int),Src c a → out.length + t ≤ 1000 →
  ∃ w a' h', Src c a' ∧ w.length = out.length + t ∧ Ev (fun k=>spec_l03Draw.l0 k out (t:Int) c a h m D) (w,a', h'):=by
 intro t
 induction t with
 | zero =>
  intro out a h hS hl
  refine ⟨out,a,h,hS,by omega,Ev.succ ?_⟩
  simp only [spec_l03Draw.l0]
  exact Ev.neg (by omega) (Ev.now _)
 | succ t ih =>
  intro out a h hS hl
  have wt:wrap64 (((t + 1:Nat):Int) - 1) = (t:Int):=by rw [w64' (by omega)];omega
  by_cases g:(out.length:Int) > 0
  ·obtain ⟨v,a1,h1,e1,s1,v0,v1,_⟩:=l01Next_ev hS h 8
   by_cases g2:v = 0
   ·obtain ⟨w,a2,h2,s2,l2,r2⟩:=ih (out ++ [rd out (wrap64 ((out.length:Int) - 1))]) a1 h1 s1 (by simp;omega)
    refine ⟨w,a2,h2,s2,by rw [l2];simp;omega,Ev.succ ?_⟩
    simp only [spec_l03Draw.l0]
    refine Ev.pos (by omega) (Ev.pos g ?_)
    rw [e1]
    refine Ev.some_bind (Ev.pos g2 (Ev.pos (by rw [w64' (by omega)];omega) (Ev.pos (by rw [w64' (by omega)];omega) (Ev.pos (by omega) ?_))))
    rw [wt]
    exact r2
   ·obtain ⟨v2,a2,h2,e2,s2,_⟩:=l01Next_ev s1 h1 m
    obtain ⟨w,a3,h3,s3,l3,r3⟩:=ih (out ++ [v2]) a2 h2 s2 (by simp;omega)
    refine ⟨w,a3,h3,s3,by rw [l3];simp;omega,Ev.succ ?_⟩
    simp only [spec_l03Draw.l0]
    refine Ev.pos (by omega) (Ev.pos g ?_)
    rw [e1]
    refine Ev.some_bind (Ev.neg g2 ?_)
    rw [e2]
    refine Ev.some_bind (Ev.pos (by omega) ?_)
    rw [wt]
    exact r3
  ·obtain ⟨v2,a2,h2,e2,s2,_⟩:=l01Next_ev hS h m
   obtain ⟨w,a3,h3,s3,l3,r3⟩:=ih (out ++ [v2]) a2 h2 s2 (by simp;omega)
   refine ⟨w,a3,h3,s3,by rw [l3];simp;omega,Ev.succ ?_⟩
   simp only [spec_l03Draw.l0]
   refine Ev.pos (by omega) (Ev.neg g ?_)
   rw [e2]
   refine Ev.some_bind (Ev.pos (by omega) ?_)
   rw [wt]
   exact r3
theorem l03Draw_ev {c:List Int} {a:Int} (hS:Src c a) (h n:Int) (D:List Int) (most:Nat) (hm:most ≤ 24):∃ w a' h', Src c a' ∧ w.length ≤ most ∧ Ev (fun k=>spec_l03Draw.f k c a h n D (most:Int)) (w,a', h'):=by
 by_cases g:n = 0
 ·refine ⟨[],a,h,hS,by simp,?_⟩
  simp only [spec_l03Draw.f]
  exact Ev.some_bind (Ev.pos g (Ev.now _))
 ·obtain ⟨v,a1,h1,e1,s1,v0,v1,_⟩:=l01Next_ev hS h (wrap64 ((most:Int) + 1))
  rw [w64' (by omega)] at v1
  have v1' := v1 (by omega)
  obtain ⟨t,rfl⟩:=Int.eq_ofNat_of_zero_le v0
  obtain ⟨w,a2,h2,s2,l2,r2⟩:=l03Draw_l0 (c:=c) n D t [] a1 h1 s1 (by simp;omega)
  refine ⟨w,a2,h2,s2,by rw [l2];simp;omega,?_⟩
  simp only [spec_l03Draw.f]
  refine Ev.some_bind (Ev.neg g ?_)
  rw [e1]
  exact Ev.some_bind r2
theorem l03Spoil_l0 {c:List Int} (m:Int) (D:List Int):∀ (t:Nat) (out:List Int) (a h:Int),Src c a → out.length + t = 25 →
  ∃ w a' h', Src c a' ∧ w.length ≤ 25 ∧ Ev (fun k=>spec_l03Spoil.l0 k out c a h m D) (w,a', h'):=by
 intro t
 induction t with
 | zero =>
  intro out a h hS hl
  refine ⟨out,a,h,hS,by omega,Ev.succ ?_⟩
  simp only [spec_l03Spoil.l0]
  exact Ev.ite (fun _=>Ev.neg (by omega) (Ev.now _)) (fun _=>Ev.now _)
 | succ t ih =>
  intro out a h hS hl
  by_cases g:m > 0
  ·obtain ⟨v2,a2,h2,e2,s2,_⟩:=l01Next_ev hS h m
   obtain ⟨w,a3,h3,s3,l3,r3⟩:=ih (out ++ [v2]) a2 h2 s2 (by simp;omega)
   refine ⟨w,a3,h3,s3,l3,Ev.succ ?_⟩
   simp only [spec_l03Spoil.l0]
   refine Ev.pos g (Ev.pos (by omega) ?_)
   rw [e2]
   exact Ev.some_bind (Ev.pos (by omega) r3)
  ·refine ⟨out,a,h,hS,by omega,Ev.succ ?_⟩
   simp only [spec_l03Spoil.l0]
   exact Ev.neg g (Ev.now _)
theorem l03Spoil_ev {c:List Int} {a:Int} (hS:Src c a) (h n:Int) (D:List Int) (most:Nat) (hm:most ≤ 24):∃ w a' h', Src c a' ∧ w.length ≤ 25 ∧ Ev (fun k=>spec_l03Spoil.f k c a h n D (most:Int)) (w,a', h'):=by
 have hi:=l02Is_ev n D
 by_cases g:Alpha n D
 ·rw [decide_eq_true g] at hi
  obtain ⟨w,a1,h1,s1,l1,r1⟩:=l03Draw_ev hS h n D most hm
  obtain ⟨v,a2,h2,e2,s2,_⟩:=l01Next_ev s1 h1 28
  by_cases g0:v = 0
  ·obtain ⟨v3,a3,h3,e3,s3,_⟩:=l01Pick_ev s2 h2 [-1,n,1099511627776] (by simp)
   refine ⟨w ++ [v3],a3,h3,s3,by simp;omega,?_⟩
   simp only [spec_l03Spoil.f]
   refine Ev.bind hi (Ev.pos rfl (Ev.bind r1 ?_))
   simp only []
   rw [e2]
   refine Ev.some_bind (Ev.pos g0 ?_)
   simp only []
   rw [e3]
   exact Ev.some_bind (Ev.pos (by omega) (Ev.now _))
  ·by_cases g1:v = 1
   ·obtain ⟨w', a3,h3,s3,l3,r3⟩:=l03Spoil_l0 (c:=c) n D (25 - w.length) w a2 h2 s2 (by omega)
    refine ⟨w', a3,h3,s3,l3,?_⟩
    simp only [spec_l03Spoil.f]
    refine Ev.bind hi (Ev.pos rfl (Ev.bind r1 ?_))
    simp only []
    rw [e2]
    exact Ev.some_bind (Ev.neg g0 (Ev.pos g1 r3))
   ·refine ⟨w,a2,h2,s2,by omega,?_⟩
    simp only [spec_l03Spoil.f]
    refine Ev.bind hi (Ev.pos rfl (Ev.bind r1 ?_))
    simp only []
    rw [e2]
    exact Ev.some_bind (Ev.neg g0 (Ev.neg g1 (Ev.now _)))
 ·rw [decide_eq_false g] at hi
  refine ⟨[0,1,0],a,h,hS,by simp,?_⟩
  simp only [spec_l03Spoil.f]
  exact Ev.bind hi (Ev.neg (by decide) (Ev.now _))
theorem l02Spoil_ev {c:List Int} {a:Int} (hS:Src c a) (h:Int) (most:Nat) (hm:most ≤ 8):∃ n D a' h', Src c a' ∧ D.length ≤ 9 ∧ Ev (fun k=>spec_l02Spoil.f k c a h (most:Int)) (n,D,a', h'):=by
 obtain ⟨⟨n0,D0,a0,h0⟩,⟨m,f,e1,e2,hm1,hm8,hs,hr,hS0⟩,hd⟩:=l02Draw_ev hS h most hm
 simp only at e1 e2 hS0
 subst e1 e2
 obtain ⟨v1,a1,h1,x1,s1,p1,_⟩:=l01Next_ev hS0 h0 14
 by_cases g1:v1 > 0
 ·refine ⟨(m:Int),mat m f,a1,h1,s1,by simp;omega,?_⟩
  simp only [spec_l02Spoil.f]
  refine Ev.bind hd ?_
  simp only []
  rw [x1]
  exact Ev.some_bind (Ev.pos g1 (Ev.now _))
 ·obtain ⟨v2,a2,h2,x2,s2,p2,_⟩:=l01Next_ev s1 h1 4
  by_cases g2:v2 = 0
  ·obtain ⟨v3,a3,h3,x3,s3,_⟩:=l01Pick_ev s2 h2 [-1,9,wrap64 ((m:Int) + 1)] (by simp)
   refine ⟨v3,mat m f,a3,h3,s3,by simp;omega,?_⟩
   simp only [spec_l02Spoil.f]
   refine Ev.bind hd ?_
   simp only []
   rw [x1]
   refine Ev.some_bind (Ev.neg g1 ?_)
   simp only []
   rw [x2]
   refine Ev.some_bind (Ev.pos g2 ?_)
   simp only []
   rw [x3]
   exact Ev.some_bind (Ev.now _)
  ·by_cases g3:v2 = 1
   ·obtain ⟨v3,a3,h3,x3,s3,_⟩:=l01Pick_ev s2 h2 [0,1,255] (by simp)
    refine ⟨(m:Int),mat m f ++ [v3],a3,h3,s3,by simp;omega,?_⟩
    simp only [spec_l02Spoil.f]
    refine Ev.bind hd ?_
    simp only []
    rw [x1]
    refine Ev.some_bind (Ev.neg g1 ?_)
    simp only []
    rw [x2]
    refine Ev.some_bind (Ev.neg g2 (Ev.pos g3 ?_))
    simp only []
    rw [x3]
    exact Ev.some_bind (Ev.pos (by simp;omega) (Ev.now _))
   ·by_cases g4:(m:Int) > 0
    ·obtain ⟨v4,a4,h4,x4,s4,p4,q4,_⟩:=l01Next_ev s2 h2 (m:Int)
     have q4' := q4 (by omega)
     obtain ⟨i,rfl⟩:=Int.eq_ofNat_of_zero_le p4
     obtain ⟨v5,a5,h5,x5,s5,_⟩:=l01Next_ev s4 h4 ((2 ^ m:Nat):Int)
     obtain ⟨v6,a6,h6,x6,s6,_⟩:=l01Pick_ev s5 h5 [wrap64 ((rd (mat m f) (i:Int)) - ((2 ^ i:Nat):Int)),Go.bits .or .i64 (rd (mat m f) (i:Int)) ((2 ^ m:Nat):Int),v5,-1] (by simp)
     refine ⟨(m:Int),(mat m f).set i v6,a6,h6,s6,by simp;omega,?_⟩
     simp only [spec_l02Spoil.f]
     refine Ev.bind hd ?_
     simp only []
     rw [x1]
     refine Ev.some_bind (Ev.neg g1 ?_)
     simp only []
     rw [x2]
     refine Ev.some_bind (Ev.neg g2 (Ev.neg g3 (Ev.pos g4 ?_)))
     simp only []
     rw [x4]
     refine Ev.some_bind (Ev.pos (by omega) (Ev.pos (by simp;omega) ?_))
     rw [l01One_eq i (by omega),l01One_eq m (by omega)]
     refine Ev.some_bind (Ev.some_bind (Ev.some_bind ?_))
     simp only []
     rw [x5]
     refine Ev.some_bind ?_
     simp only []
     rw [x6]
     exact Ev.some_bind (Ev.now _)
    ·refine ⟨(m:Int),mat m f,a2,h2,s2,by simp;omega,?_⟩
     simp only [spec_l02Spoil.f]
     refine Ev.bind hd ?_
     simp only []
     rw [x1]
     refine Ev.some_bind (Ev.neg g1 ?_)
     simp only []
     rw [x2]
     exact Ev.some_bind (Ev.neg g2 (Ev.neg g3 (Ev.neg g4 (Ev.now _))))
theorem l03Pair_ev (c:List Int) (hb:∀ x ∈ c,0 ≤ x ∧ x ≤ 255) (hc:c.length ≤ 4096) (letters most:Nat) (hl:letters ≤ 8) (hm:most ≤ 24):∃ a h n D w,Src c a ∧ D.length ≤ 9 ∧ w.length ≤ 25 ∧ Ev (fun k=>spec_l03Pair.f k c (letters:Int) (most:Int)) (c,a,h,n,D,w):=by
 obtain ⟨h0,r0⟩:=l01From_ev c hc
 have s0:Src c 0:=⟨hb,hc,by omega,by omega⟩
 obtain ⟨⟨n1,D1,a1,h1⟩,⟨m,f,e1,e2,hm1,hm8,hs,hr,s1⟩,r1⟩:=l02Draw_ev s0 h0 letters hl
 simp only at e1 e2 s1
 subst e1 e2
 obtain ⟨v2,a2,h2,x2,s2,_⟩:=l01Next_ev s1 h1 24
 by_cases g:v2 = 0
 ·obtain ⟨n3,D3,a3,h3,s3,l3,r3⟩:=l02Spoil_ev s2 h2 letters hl
  obtain ⟨w,a4,h4,s4,l4,r4⟩:=l03Spoil_ev s3 h3 n3 D3 most hm
  refine ⟨a4,h4,n3,D3,w,s4,l3,l4,?_⟩
  simp only [spec_l03Pair.f]
  refine Ev.bind r0 (Ev.bind r1 ?_)
  simp only []
  rw [x2]
  exact Ev.some_bind (Ev.pos g (Ev.bind r3 (Ev.bind r4 (Ev.now _))))
 ·obtain ⟨w,a4,h4,s4,l4,r4⟩:=l03Spoil_ev s2 h2 (m:Int) (mat m f) most hm
  refine ⟨a4,h4,(m:Int),mat m f,w,s4,by simp;omega,l4,?_⟩
  simp only [spec_l03Pair.f]
  refine Ev.bind r0 (Ev.bind r1 ?_)
  simp only []
  rw [x2]
  exact Ev.some_bind (Ev.neg g (Ev.bind r4 (Ev.now _)))
theorem NormalForm_ok {n:Nat} (hn:n ≤ 8) {f:Nat → Nat → Bool} (hA:Alpha (n:Int) (mat n f)) {u:List Nat} (hl:u.length ≤ 24) (hu:∀ x ∈ u,x < n):Ev (fun k=>impl_NormalForm.f k (n:Int) (mat n f) (ints u)) (ints (normalP f n u),0):=by
 simp only [impl_NormalForm.f,impl_Alphabet_ties.f]
 exact Ev.bind (check_1 hA hl hu) (Ev.pos rfl (Ev.some_bind (Ev.bind (normal_ev n hn f u (by omega) hu) (Ev.now _))))
theorem OrderOf_impl {n:Nat} (hn:n ≤ 8) {f:Nat → Nat → Bool} (hs:∀ a b,f a b = f b a) (hA:Alpha (n:Int) (mat n f)) {u:List Nat} (hl:u.length ≤ 24) (hu:∀ x ∈ u,x < n) :
  Ev (fun k=>impl_OrderOf.f k (n:Int) (mat n f) (ints u)) (mat u.length (ordP f (normalP f n u)),0):=by
 simp only [impl_OrderOf.f]
 exact Ev.bind (check_1 hA hl hu) (Ev.pos rfl (Ev.bind (positions_ev n hn f hs u hl hu) (Ev.now _)))
theorem PastOf_impl {n:Nat} (hn:n ≤ 8) {f:Nat → Nat → Bool} (hs:∀ a b,f a b = f b a) (hA:Alpha (n:Int) (mat n f)) {u:List Nat} (hl:u.length ≤ 24) (hu:∀ x ∈ u,x < n) (x:Nat) (hx:x < u.length) :
  Ev (fun k=>impl_PastOf.f k (n:Int) (mat n f) (ints u) (x:Int)) (((mk u.length (fun a=>ordP f (normalP f n u) a x):Nat):Int),0):=by
 have h2:=checkPosition_ok n hn f hs u hl hu (x:Int) (check_1 hA hl hu)
 simp only [impl_PastOf.f]
 refine Ev.bind h2 ?_
 rw [if_pos (by omega)]
 refine Ev.pos rfl (Ev.bind (converse_ev u.length hl _) (Ev.pos (by omega) (Ev.pos (by simp;omega) (Ev.const ?_))))
 rw [rd_mat _ _ x (by omega)]
theorem HeightOf_impl {n:Nat} (hn:n ≤ 8) {f:Nat → Nat → Bool} (hs:∀ a b,f a b = f b a) (hA:Alpha (n:Int) (mat n f)) {u:List Nat} (hl:u.length ≤ 24) (hu:∀ x ∈ u,x < n) :
  Ev (fun k=>impl_HeightOf.f k (n:Int) (mat n f) (ints u)) (((foataP f u).length:Int),0):=by
 simp only [impl_HeightOf.f,impl_Alphabet_ties.f,impl_length_int64.f]
 refine Ev.bind (check_1 hA hl hu) (Ev.pos rfl (Ev.some_bind (Ev.bind (foata_ev n hn f hs u (by omega) hu) (Ev.some_bind ?_))))
 rw [ints_length]
 exact Ev.now _
theorem FoataForm_impl {n:Nat} (hn:n ≤ 8) {f:Nat → Nat → Bool} (hs:∀ a b,f a b = f b a) (hA:Alpha (n:Int) (mat n f)) {u:List Nat} (hl:u.length ≤ 24) (hu:∀ x ∈ u,x < n) :
  Ev (fun k=>impl_FoataForm.f k (n:Int) (mat n f) (ints u)) (ints (foataP f u),0):=by
 simp only [impl_FoataForm.f,impl_Alphabet_ties.f]
 exact Ev.bind (check_1 hA hl hu) (Ev.pos rfl (Ev.some_bind (Ev.bind (foata_ev n hn f hs u (by omega) hu) (Ev.now _))))
theorem LatestSteps_impl {n:Nat} (hn:n ≤ 8) {f:Nat → Nat → Bool} (hs:∀ a b,f a b = f b a) (hA:Alpha (n:Int) (mat n f)) {u:List Nat} (hl:u.length ≤ 24) (hu:∀ x ∈ u,x < n) :
  ∃ L:Nat → Nat,(∀ i,i < u.length → ChainAt (ordP f (normalP f n u)) u.length L i) ∧ Ev (fun k=>impl_LatestSteps.f k (n:Int) (mat n f) (ints u)) (latestP (foataP f u).length u.length L,0):=by
 have hle:∀ i k,ordP f (normalP f n u) i k = true → i ≤ k:=fun i k h=>clos_le (n:=(normalP f n u).length) (fun i k h=>(eP_lt h).1) h
 have hfo:(foataP f u).length ≤ 24:=by
  have:=stp_length_le f u u.length
  unfold foataP
  omega
 obtain ⟨ys,y1,y2,y3⟩:=chainsFrom_ev u.length hl (ordP f (normalP f n u)) hle
 have hyb:∀ j,ys.getD j 0 ≤ 24:=fun j=>by
  by_cases hj:j < u.length
  ·have:ys.getD j 0 ≤ u.length - j:=ChainAt.le (i0:=0) (fun j _ hj=>y2 j hj) (u.length - j - 1) j (by omega) (by omega)
   omega
  ·rw [List.getD_eq_getElem?_getD,List.getElem?_eq_none (by omega)];simp
 refine ⟨fun j=>ys.getD j 0,y2,?_⟩
 simp only [impl_LatestSteps.f,impl_Alphabet_ties.f]
 refine Ev.bind (check_1 hA hl hu) (Ev.pos rfl (Ev.bind (positions_ev n hn f hs u hl hu) (Ev.bind y3 (Ev.some_bind (Ev.bind (foata_ev n hn f hs u (by omega) hu) ?_)))))
 simp only [impl_length_int64.f]
 refine Ev.some_bind ?_
 rw [ints_length,ints_length,y1]
 exact impl_Latest_l0 u.length hl ys y1 (fun j=>by have:=hyb j;omega) (foataP f u).length (by omega) u.length 0 (by omega)
theorem PrefixAt_impl {n:Nat} (hn:n ≤ 8) {f:Nat → Nat → Bool} (hs:∀ a b,f a b = f b a) (hA:Alpha (n:Int) (mat n f)) {u:List Nat} (hl:u.length ≤ 24) (hu:∀ x ∈ u,x < n) (M:Nat) (hM:M < 2 ^ u.length) (g:downP (ordP f (normalP f n u)) u.length M = true) :
  Ev (fun k=>impl_PrefixAt.f k (n:Int) (mat n f) (ints u) (M:Int)) (ints (normalP f n (lettersP (normalP f n u) M)),0):=by
 have hnl:=normalP_length f hs hu
 have hnlt:=normalP_lt f hs hu
 have h2:=positions_ev n hn f hs u hl hu
 have hp:=Nat.two_pow_pos u.length
 have h24:=pow_lt62 hl
 have hll:=lettersP_length (normalP f n u) M
 have hlt:=lettersP_lt hnlt M
 have c:0 ≤ (M:Int) ∧ (M:Int) ≤ ((2 ^ u.length - 1:Nat):Int):=by omega
 simp only [impl_PrefixAt.f,impl_length_int64.f]
 refine Ev.bind (check_1 hA hl hu) (Ev.pos rfl (Ev.some_bind ?_))
 rw [ints_length,IsMask24_eq u.length hl]
 refine Ev.some_bind (Ev.pos (by rw [decide_eq_true c]) (Ev.bind h2 (Ev.bind (converse_ev u.length hl _) (Ev.bind (lettersAt_ev _ (by simpa using hl) M (by simpa using hM)) ?_))))
 have:=PrefixAt_l0 u.length hl (ordP f (normalP f n u)) M hM (ints (normalP f n u)) (n:Int) (mat n f) (ints (normalP f n (lettersP (normalP f n u) M)),0) (by
  simp only [impl_Alphabet_ties.f]
  exact Ev.some_bind (Ev.bind (lettersAt_ints _ (by omega) M (by rw [hnl];exact hM)) (Ev.bind (normal_ev n hn f _ (by omega) hlt) (Ev.now _))))
 rw [if_pos g] at this
 exact this
theorem hasInt_ev (l:List Nat) (hl:l.length ≤ 1000000) (x:Nat):Ev (fun k=>laws_hasInt.f k (ints l) (x:Int)) (decide (x ∈ l)):=by
 have loop:∀ (suf pre:List Nat),pre ++ suf = l → x ∉ pre → Ev (fun k=>laws_hasInt.l0 k (ints l) (x:Int) (pre.length:Int)) (decide (x ∈ l)):=by
  intro suf
  induction suf with
  | nil =>
   intro pre hp hx
   rw [List.append_nil] at hp
   subst hp
   refine Ev.succ ?_
   simp only [laws_hasInt.l0]
   refine Ev.neg (by rw [ints_length];omega) ?_
   rw [decide_eq_false hx]
   exact Ev.now _
  | cons y suf ih =>
   intro pre hp hx
   have hlen:l.length = pre.length + (suf.length + 1):=by rw [← hp];simp
   have hrd:rd (ints l) (pre.length:Int) = (y:Int):=by rw [← hp];exact rd_mid pre suf y
   refine Ev.succ ?_
   simp only [laws_hasInt.l0]
   rw [hrd]
   refine Ev.pos (by rw [ints_length];omega) (Ev.pos (by omega) (Ev.ite (fun c=>?_) (fun c=>?_)))
   ·obtain rfl:y = x:=by omega
    rw [decide_eq_true (by rw [← hp];simp)]
    exact Ev.now _
   ·have:=ih (pre ++ [y]) (by simpa using hp) (by simp [hx];omega)
    rw [List.length_append,List.length_singleton] at this
    rw [w64' (by omega),show (pre.length:Int) + 1 = ((pre.length + 1:Nat):Int) by omega]
    exact this
 exact loop l [] rfl (by simp)
end Go.Proofs.YtpenijicdldipaaDoor.PAll
