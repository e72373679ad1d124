import Derived.Test.YtpenijicdldipaaDoorPAllx0
import Derived.Test.YtpenijicdldipaaDoorPAllx1
import Derived.Test.YtpenijicdldipaaDoorPAllx2
import Derived.Test.YtpenijicdldipaaDoorPAllx3
import Derived.Test.YtpenijicdldipaaDoorPAllx4
import Derived.Test.YtpenijicdldipaaDoorV0
import Derived.Test.YtpenijicdldipaaDoorQBase
import Derived.Test.YtpenijicdldipaaDoorQFoata
import Derived.Test.YtpenijicdldipaaDoorQMap
import Derived.Test.YtpenijicdldipaaDoorQMask
import Derived.Test.YtpenijicdldipaaDoorQMeet
import Derived.Test.YtpenijicdldipaaDoorQOrder
import Derived.Test.YtpenijicdldipaaDoorQRev
import Derived.Test.YtpenijicdldipaaDoorQTab
import Derived.Test.YtpenijicdldipaaDoorQTrace
set_option linter.unusedVariables false
set_option linter.unusedSimpArgs false
namespace Go.Proofs.YtpenijicdldipaaDoor.PAll
open Go.RowKit Go.Proofs.YtpenijicdldipaaDoorW.PrintWords Go.Proofs.YtpenijicdldipaaDoorW.PrintMore Go.Proofs.YtpenijicdldipaaDoor.Q
theorem l01In_eq (a lo hi:Int):spec_l01In.f a lo hi = some (decide (lo ≤ a ∧ a ≤ hi)):=by
 unfold spec_l01In.f
 by_cases h:lo ≤ a
 ·rw [if_pos h];simp [h]
 ·rw [if_neg h];simp [h]
theorem inRange_eq (a lo hi:Int):impl_inRange.f a lo hi = some (decide (lo ≤ a ∧ a ≤ hi)):=by
 unfold impl_inRange.f
 by_cases h:lo ≤ a
 ·rw [if_pos h];simp [h]
 ·rw [if_neg h];simp [h]
theorem l01One_eq (n:Nat) (h:n ≤ 61):spec_l01One.f (n:Int) = some ((2 ^ n:Nat):Int):=by
 unfold spec_l01One.f
 rw [u64_nat n (by omega),if_pos (by omega),shl_one n h]
theorem l01Full_eq (n:Nat) (h:n ≤ 61):spec_l01Full.f (n:Int) = some ((2 ^ n - 1:Nat):Int):=by
 unfold spec_l01Full.f
 rw [l01One_eq n h]
 have h1:0 < 2 ^ n:=Nat.two_pow_pos n
 have h2:(2:Nat) ^ n ≤ 2 ^ 61:=Nat.pow_le_pow_right (by decide) h
 simp only [Option.bind_some]
 rw [w64' (by omega)]
 congr 1
 omega
theorem l01Bit_eq (m i:Nat) (hm:m < 2 ^ 62) (h:i ≤ 64):spec_l01Bit.f (m:Int) (i:Int) = some (m.testBit i):=by
 unfold spec_l01Bit.f
 rw [u64_nat i (by omega),if_pos (by omega),bit_at m i hm h]
theorem one_eq (n:Nat) (h:n ≤ 61):impl_one.f (n:Int) = some ((2 ^ n:Nat):Int):=by
 unfold impl_one.f
 rw [if_pos (by omega),shl_one n h]
theorem has_eq (m i:Nat) (hm:m < 2 ^ 62) (h:i ≤ 64):impl_has.f (m:Int) (i:Int) = some (m.testBit i):=by
 unfold impl_has.f
 rw [if_pos (by omega),bit_at m i hm h]
theorem least_eq (m:Nat) (hm:m < 2 ^ 62):impl_least.f (m:Int) = some ((Lib.ctz 64 m:Nat):Int):=by
 unfold impl_least.f bits_TrailingZeros64.f
 rw [u64_nat m (by omega),if_pos (by omega),Int.toNat_natCast]
 rfl
theorem members_l0:∀ (N m:Nat) (acc:List Int),m ≤ N → m < 2 ^ 62 → acc.length + (bitsOf m).length ≤ 1000 → Ev (fun k=>impl_members.l0 k (m:Int) acc) (acc ++ intsOf m):=by
 intro N
 induction N with
 | zero =>
  intro m acc hN hm hl
  obtain rfl:m = 0:=by omega
  refine Ev.succ ?_
  simp only [impl_members.l0]
  refine Ev.pos (by simp) (Ev.const ?_)
  simp [intsOf,bitsOf_zero]
 | succ N ih =>
  intro m acc hN hm hl
  refine Ev.succ ?_
  simp only [impl_members.l0]
  by_cases h0:m = 0
  ·subst h0
   refine Ev.pos (by simp) (Ev.const ?_)
   simp [intsOf,bitsOf_zero]
  ·rw [bitsOf_cons m h0 (by omega)] at hl
   simp only [List.length_cons] at hl
   refine Ev.neg (by omega) ?_
   rw [least_eq m hm]
   refine Ev.some_bind (Ev.pos (by omega) ?_)
   have hlt:=and_pred_lt m h0
   rw [w64' (by omega),show (m:Int) - 1 = ((m - 1:Nat):Int) by omega,b_and m (m - 1) hm (by omega)]
   refine Ev.val (ih (m &&& (m - 1)) (acc ++ [((Lib.ctz 64 m:Nat):Int)]) (by omega) (by omega) (by simp;omega)) ?_
   unfold intsOf
   rw [bitsOf_cons m h0 (by omega)]
   simp
theorem bitsOf_length (m:Nat):(bitsOf m).length ≤ 64:=by
 unfold bitsOf
 have:=List.length_filter_le (fun i=>m.testBit i) (List.range 64)
 simpa using this
theorem members_ev (m:Nat) (hm:m < 2 ^ 62):Ev (fun k=>impl_members.f k (m:Int)) (intsOf m):=by
 simp only [impl_members.f]
 exact Ev.val (members_l0 m m [] (Nat.le_refl _) hm (by have:=bitsOf_length m;simp;omega)) (by simp)
theorem l01Masks_l0 (n:Nat) (hn:n ≤ 61) (l:List Int) (hl:l.length ≤ 17592186044416):∀ (d i:Nat),i + d = l.length → (∀ j (h:j < l.length),j < i → 0 ≤ l[j] ∧ l[j] ≤ ((2 ^ n - 1:Nat):Int)) →
  Ev (fun k=>spec_l01Masks.l0 k (n:Int) l i) (decide (∀ x ∈ l,0 ≤ x ∧ x ≤ ((2 ^ n - 1:Nat):Int))):=by
 intro d
 induction d with
 | zero =>
  intro i hi hp
  refine Ev.succ ?_
  simp only [spec_l01Masks.l0]
  refine Ev.neg (by omega) (Ev.const ?_)
  rw [decide_eq_true fun x hx=>?_]
  obtain ⟨j,hj,rfl⟩:=List.getElem_of_mem hx
  exact hp j hj (by omega)
 | succ d ih =>
  intro i hi hp
  refine Ev.succ ?_
  simp only [spec_l01Masks.l0,l01Full_eq n hn,l01In_eq]
  refine Ev.pos (by omega) (Ev.pos (by omega) (Ev.some_bind (Ev.some_bind ?_)))
  rw [rd_lt l i (by omega)]
  simp only [decide_eq_true_eq]
  refine Ev.ite (fun c=>?_) (fun c=>?_)
  ·rw [w64' (by omega)]
   refine ih (i + 1) (by omega) (fun j h hji=>?_)
   by_cases e:j = i
   ·subst e;exact c
   ·exact hp j h (by omega)
  ·refine Ev.const ?_
   rw [decide_eq_false fun h=>c (h _ (List.getElem_mem (by omega)))]
theorem l01Masks_ev (n:Nat) (hn:n ≤ 61) (l:List Int) (hl:l.length ≤ 17592186044416):Ev (fun k=>spec_l01Masks.f k (n:Int) l) (decide (∀ x ∈ l,0 ≤ x ∧ x ≤ ((2 ^ n - 1:Nat):Int))):=by
 simp only [spec_l01Masks.f]
 exact l01Masks_l0 n hn l hl l.length 0 (by omega) (by intro j h hj;omega)
theorem l02Is_loop (m:Nat) (hm:m ≤ 8) (f:Nat → Nat → Bool):∀ (d a:Nat),a + d = m → (∀ i,i < a → f i i = true ∧ ∀ k,k < m → f i k = f k i) →
  Ev (fun k=>spec_l02Is.l0 k (a:Int) (m:Int) (mat m f)) (decide (∀ i,i < m → f i i = true ∧ ∀ k,k < m → f i k = f k i)):=by
 intro d
 induction d with
 | zero =>
  intro a ha hp
  refine Ev.succ ?_
  simp only [spec_l02Is.l0]
  refine Ev.neg (by omega) (Ev.const ?_)
  rw [decide_eq_true fun i hi=>hp i (by omega)]
 | succ d ih =>
  intro a ha hp
  have hb:∀ i k,i < m → k < m → spec_l01Bit.f (rd (mat m f) (i:Int)) (k:Int) = some (f i k):=fun i k hi hk=>by
   rw [rd_mat m f i hi,l01Bit_eq _ k (by have:=mk_lt m (f i);have:=pow24 (show m ≤ 24 by omega);omega) (by omega),testBit_mk]
   simp [hk]
  refine Ev.succ ?_
  simp only [spec_l02Is.l0]
  refine Ev.pos (by omega) (Ev.pos (by omega) (Ev.pos (by simp;omega) ?_))
  rw [hb a a (by omega) (by omega)]
  refine Ev.some_bind ?_
  by_cases c:f a a = true
  ·refine Ev.pos c ?_
   have inner:∀ (e b:Nat),b + e = m → (∀ k,k < b → f a k = f k a) → Ev (fun k=>spec_l02Is.l1 k (a:Int) (b:Int) (m:Int) (mat m f)) (decide (∀ i,i < m → f i i = true ∧ ∀ k,k < m → f i k = f k i)):=by
    intro e
    induction e with
    | zero =>
     intro b hbe hq
     refine Ev.succ ?_
     simp only [spec_l02Is.l1]
     refine Ev.neg (by omega) ?_
     rw [w64' (by omega)]
     refine ih (a + 1) (by omega) (fun i hi=>?_)
     by_cases e:i = a
     ·subst e;exact ⟨c,fun k hk=>hq k (by omega)⟩
     ·exact hp i (by omega)
    | succ e ihe =>
     intro b hbe hq
     refine Ev.succ ?_
     simp only [spec_l02Is.l1]
     refine Ev.pos (by omega) (Ev.pos (by omega) (Ev.pos (by simp;omega) ?_))
     rw [hb a b (by omega) (by omega)]
     refine Ev.some_bind (Ev.pos (by omega) (Ev.pos (by simp;omega) ?_))
     rw [hb b a (by omega) (by omega)]
     refine Ev.some_bind ?_
     by_cases g:f a b = f b a
     ·refine Ev.neg (by rw [g];simp) ?_
      rw [w64' (by omega)]
      refine ihe (b + 1) (by omega) (fun k hk=>?_)
      by_cases e:k = b
      ·subst e;exact g
      ·exact hq k (by omega)
     ·refine Ev.pos (by simpa using g) (Ev.const ?_)
      rw [decide_eq_false fun h=>g ((h a (by omega)).2 b (by omega))]
   exact inner m 0 (by omega) (by intro k hk;omega)
  ·refine Ev.neg c (Ev.const ?_)
   rw [decide_eq_false fun h=>c (h a (by omega)).1]
theorem l02Is_ev (n:Int) (D:List Int):Ev (fun k=>spec_l02Is.f k n D) (decide (Alpha n D)):=by
 have hj:∀ n D,¬ Alpha n D → Ev (fun k=>spec_l02Is.j0 k true n D) (decide (Alpha n D)):=fun n D h=>by
  refine Ev.succ ?_
  simp only [spec_l02Is.j0]
  exact Ev.pos (by simp) (Ev.const (by rw [decide_eq_false h]))
 simp only [spec_l02Is.f,l01In_eq]
 refine Ev.some_bind ?_
 simp only [decide_eq_true_eq]
 refine Ev.ite (fun c1=>?_) (fun c1=>hj n D fun h=>c1 h.1)
 refine Ev.ite (fun c2=>?_) (fun c2=>hj n D fun h=>c2 h.2.1)
 obtain ⟨m,rfl⟩:=Int.eq_ofNat_of_zero_le c1.1
 have hl:D.length = m:=by omega
 have h1:0 < 2 ^ m:=Nat.two_pow_pos m
 refine Ev.bind (l01Masks_ev m (by omega) D (by omega)) ?_
 refine Ev.succ ?_
 simp only [spec_l02Is.j0]
 by_cases c3:∀ x ∈ D,0 ≤ x ∧ x ≤ ((2 ^ m - 1:Nat):Int)
 ·have c3' : ∀ x ∈ D,0 ≤ x ∧ x < ((2 ^ D.length:Nat):Int):=fun x hx=>by have:=c3 x hx;rw [hl];omega
  have e:D = mat m (bitR D):=by have:=eq_mat D c3'; rwa [hl] at this
  refine Ev.neg (by simpa using c3) ?_
  have:=l02Is_loop m (by omega) (bitR D) m 0 (by omega) (by intro i hi;omega)
  rw [← e] at this
  refine Ev.val this ?_
  rw [decide_eq_decide]
  exact ⟨fun h=>⟨c1,c2,c3', fun a ha=>⟨(h a (by omega)).1,fun b hb=>(h a (by omega)).2 b (by omega)⟩⟩,fun h a ha=>⟨(h.2.2.2 a (by omega)).1,fun b hb=>(h.2.2.2 a (by omega)).2 b (by omega)⟩⟩
 ·refine Ev.pos (by simpa using c3) (Ev.const ?_)
  rw [decide_eq_false fun h=>c3 fun x hx=>?_]
  have:=h.2.2.1 x hx
  rw [hl] at this
  omega
theorem IsRelation_eq (r:List Int):impl_IsRelation.f r = some (decide (r.length ≤ 24 ∧ ∀ x ∈ r,0 ≤ x ∧ x < ((2 ^ r.length:Nat):Int))):=by
 unfold impl_IsRelation.f
 by_cases h:r.length ≤ 24
 ·have h1:0 < 2 ^ r.length:=Nat.two_pow_pos _
  have h2:=pow24 h
  rw [if_pos (by omega)]
  simp only [impl_length_int64.f,Option.bind_some,one_eq r.length (by omega),impl_allIn.f]
  rw [w64' (by omega)]
  congr 1
  rw [Bool.eq_iff_iff]
  simp only [List.all_eq_true,decide_eq_true_eq]
  exact ⟨fun g=>⟨h,fun x hx=>by have:=g x hx;omega⟩,fun g x hx=>by have:=g.2 x hx;omega⟩
 ·rw [if_neg (by omega)]
  congr 1
  symm
  rw [decide_eq_false fun g=>h g.1]
theorem converse_l1 (n:Nat) (hn:n ≤ 24) (r:List Int) (i:Nat) (hi:i < n) (L:Int) (R:List Int) (ms:List Nat) (hml:ms.length ≤ 64) (hms:∀ x ∈ ms,x < n) :
  ∀ (d j:Nat) (g:Nat → Nat → Bool),j + d = ms.length → (Ev (fun k=>impl_converse.l0 k (mat n fun a b=>g a b || (decide (b = i) && decide (a ∈ ms.drop j))) r L ((i + 1:Nat):Int)) R) →
  Ev (fun k=>impl_converse.l1 k (mat n g) (i:Int) r L (i:Int) (ints ms) (ms.length:Int) (j:Int)) R:=by
 intro d
 induction d with
 | zero =>
  intro j g hj hR
  refine Ev.succ ?_
  simp only [impl_converse.l1]
  refine Ev.neg (by omega) ?_
  rw [w64' (by omega)]
  rw [List.drop_of_length_le (by omega)] at hR
  simpa using hR
 | succ d ih =>
  intro j g hj hR
  have hj' : j < ms.length:=by omega
  have hx:=hms _ (List.getElem_mem hj')
  refine Ev.succ ?_
  simp only [impl_converse.l1]
  refine Ev.pos (by omega) (Ev.pos (by omega) (Ev.pos (by simp;omega) ?_))
  rw [rd_ints ms j hj']
  refine Ev.pos (by omega) (Ev.pos (by simp;omega) ?_)
  rw [one_eq i (by omega),rd_mat n g _ hx]
  refine Ev.some_bind ?_
  have hg:=mk_lt n (g ms[j])
  have h24:=pow24 hn
  have hp:(2:Nat) ^ i < 2 ^ n:=Nat.pow_lt_pow_right (by decide) hi
  rw [b_or _ _ (by omega) (by omega),w64' (by omega)]
  have e:(mat n g).set ((ms[j]:Int)).toNat (((mk n (g ms[j]) ||| 2 ^ i:Nat)):Int) = mat n fun a b=>g a b || (decide (b = i) && decide (a = ms[j])):=by
   rw [Int.toNat_natCast]
   apply List.ext_getElem
   ·simp
   ·intro q h1 h2
    have hq:q < n:=by simpa using h1
    rw [List.getElem_set]
    by_cases e:ms[j] = q
    ·rw [if_pos e]
     simp only [mat,List.getElem_map,List.getElem_range]
     congr 1
     refine bits_ext fun b=>?_
     rw [Nat.testBit_or,testBit_mk,testBit_mk,testBit_one,← e]
     by_cases hb:b = i
     ·subst hb;simp [hi]
     ·simp [hb,show ¬ i = b from fun h=>hb h.symm]
    ·rw [if_neg e]
     simp only [mat,List.getElem_map,List.getElem_range]
     congr 1
     exact mk_congr fun b _=>by simp [show ¬ q = ms[j] from fun h=>e h.symm]
  rw [e]
  refine ih (j + 1) _ (by omega) ?_
  have e2:(fun a b=>(g a b || (decide (b = i) && decide (a = ms[j]))) || (decide (b = i) && decide (a ∈ ms.drop (j + 1)))) = fun a b=>g a b || (decide (b = i) && decide (a ∈ ms.drop j)):=by
   funext a b
   have hm:a ∈ ms.drop j ↔ a = ms[j] ∨ a ∈ ms.drop (j + 1):=by rw [List.drop_eq_getElem_cons hj', List.mem_cons]
   rw [Bool.eq_iff_iff]
   simp only [Bool.or_eq_true,Bool.and_eq_true,decide_eq_true_eq,hm]
   constructor
   ·rintro ((h | ⟨h1,h2⟩) | ⟨h1,h2⟩)
    ·exact .inl h
    ·exact .inr ⟨h1,.inl h2⟩
    ·exact .inr ⟨h1,.inr h2⟩
   ·rintro (h | ⟨h1,h2 | h2⟩)
    ·exact .inl (.inl h)
    ·exact .inl (.inr ⟨h1,h2⟩)
    ·exact .inr ⟨h1,h2⟩
  rw [e2]
  exact hR
theorem converse_l0 (n:Nat) (hn:n ≤ 24) (f:Nat → Nat → Bool):∀ (d i:Nat),i + d = n →
  Ev (fun k=>impl_converse.l0 k (mat n fun a b=>decide (b < i) && f b a) (mat n f) (n:Int) (i:Int)) (mat n fun a b=>f b a):=by
 intro d
 induction d with
 | zero =>
  intro i hi
  refine Ev.succ ?_
  simp only [impl_converse.l0]
  refine Ev.neg (by omega) (Ev.const ?_)
  congr 1
  exact mat_congr fun a b ha hb=>by simp [show b < i by omega]
 | succ d ih =>
  intro i hi
  refine Ev.succ ?_
  simp only [impl_converse.l0]
  refine Ev.pos (by omega) (Ev.pos (by omega) (Ev.pos (by simp;omega) ?_))
  have hlt:=mk_lt n (f i)
  have h24:=pow24 hn
  have hmem:∀ x,x ∈ bitsOf (mk n (f i)) ↔ x < n ∧ f i x = true:=fun x=>by
   rw [mem_bitsOf (by omega),testBit_mk];simp
  refine Ev.bind (by rw [rd_mat n f i (by omega)];exact members_ev _ (by omega)) ?_
  have:=converse_l1 n hn (mat n f) i (by omega) (n:Int) (mat n fun a b=>f b a) (bitsOf (mk n (f i))) (bitsOf_length _) (fun x hx=>((hmem x).1 hx).1) (bitsOf (mk n (f i))).length 0 (fun a b=>decide (b < i) && f b a) (by omega) ?_
  ·have e:intsOf (mk n (f i)) = ints (bitsOf (mk n (f i))):=rfl
   rw [e,ints_length]
   exact this
  ·rw [List.drop_zero]
   have e:(mat n fun a b=>decide (b < i) && f b a || (decide (b = i) && decide (a ∈ bitsOf (mk n (f i))))) = mat n fun a b=>decide (b < i + 1) && f b a:=by
    refine mat_congr fun a b ha hb=>?_
    rw [Bool.eq_iff_iff]
    simp only [Bool.or_eq_true,Bool.and_eq_true,decide_eq_true_eq,hmem]
    constructor
    ·rintro (⟨h1,h2⟩ | ⟨rfl,_,h2⟩)
     ·exact ⟨by omega,h2⟩
     ·exact ⟨by omega,h2⟩
    ·rintro ⟨h1,h2⟩
     by_cases e:b = i
     ·subst e;exact .inr ⟨rfl,ha,h2⟩
     ·exact .inl ⟨by omega,h2⟩
   rw [e]
   exact ih (i + 1) (by omega)
theorem converse_ev (n:Nat) (hn:n ≤ 24) (f:Nat → Nat → Bool):Ev (fun k=>impl_converse.f k (mat n f)) (mat n fun a b=>f b a):=by
 simp only [impl_converse.f]
 refine Ev.pos (by omega) (Ev.pos (by simp;omega) ?_)
 have e:List.replicate (((mat n f).length:Int)).toNat (0:Int) = mat n fun a b=>decide (b < 0) && f b a:=by
  rw [mat_length,Int.toNat_natCast]
  apply List.ext_getElem
  ·simp
  ·intro q h1 h2
   simp only [List.getElem_replicate,mat,List.getElem_map,List.getElem_range]
   rw [show mk n (fun b=>decide (b < 0) && f b q) = 0 from bits_ext fun b=>by rw [testBit_mk];simp]
   rfl
 rw [e,mat_length]
 exact converse_l0 n hn f n 0 (by omega)
theorem IsAlphabet_loop (m:Nat) (hm:m ≤ 8) (f:Nat → Nat → Bool):∀ (d a:Nat),a + d = m → (∀ i,i < a → f i i = true ∧ ∀ k,k < m → f i k = f k i) →
  Ev (fun k=>impl_IsAlphabet.l0 k (mat m fun a b=>f b a) (m:Int) (a:Int) (m:Int) (mat m f)) (decide (∀ i,i < m → f i i = true ∧ ∀ k,k < m → f i k = f k i)):=by
 intro d
 induction d with
 | zero =>
  intro a ha hp
  refine Ev.succ ?_
  simp only [impl_IsAlphabet.l0]
  refine Ev.neg (by omega) (Ev.const ?_)
  rw [decide_eq_true fun i hi=>hp i (by omega)]
 | succ d ih =>
  intro a ha hp
  refine Ev.succ ?_
  simp only [impl_IsAlphabet.l0]
  refine Ev.pos (by omega) (Ev.pos (by omega) (Ev.pos (by simp;omega) (Ev.pos (by simp;omega) ?_)))
  rw [rd_mat m _ a (by omega),rd_mat m f a (by omega)]
  have hlt:=mk_lt m fun b=>f b a
  have h24:=pow24 (show m ≤ 24 by omega)
  refine Ev.ite (fun c=>?_) (fun c=>?_)
  ·have hc:∀ k,k < m → f a k = f k a:=fun k hk=>by
    have:=congrArg (fun z:Nat=>z.testBit k) (Int.ofNat.inj c)
    simp only [testBit_mk,hk,decide_true,Bool.true_and] at this
    exact this.symm
   rw [has_eq _ a (by omega) (by omega),testBit_mk]
   refine Ev.some_bind ?_
   refine Ev.ite (fun g=>?_) (fun g=>?_)
   ·rw [w64' (by omega)]
    refine ih (a + 1) (by omega) (fun i hi=>?_)
    by_cases e:i = a
    ·subst e;exact ⟨by simpa [show i < m by omega] using g,hc⟩
    ·exact hp i (by omega)
   ·refine Ev.const ?_
    rw [decide_eq_false fun h=>g (by simpa [show a < m by omega] using (h a (by omega)).1)]
  ·refine Ev.const ?_
   rw [decide_eq_false fun h=>c ?_]
   congr 1
   exact mk_congr fun k hk=>((h a (by omega)).2 k hk).symm
theorem IsAlphabet_ev (n:Int) (D:List Int):Ev (fun k=>impl_IsAlphabet.f k n D) (decide (Alpha n D)):=by
 have hj:∀ n D,¬ Alpha n D → Ev (fun k=>impl_IsAlphabet.j0 k true n D) (decide (Alpha n D)):=fun n D h=>by
  refine Ev.succ ?_
  simp only [impl_IsAlphabet.j0]
  exact Ev.pos (by simp) (Ev.const (by rw [decide_eq_false h]))
 simp only [impl_IsAlphabet.f,inRange_eq,impl_length_int64.f,IsRelation_eq]
 refine Ev.some_bind ?_
 simp only [decide_eq_true_eq]
 refine Ev.ite (fun c1=>Ev.some_bind ?_) (fun c1=>hj n D fun h=>c1 h.1)
 refine Ev.ite (fun c2=>Ev.some_bind ?_) (fun c2=>hj n D fun h=>c2 h.2.1)
 obtain ⟨m,rfl⟩:=Int.eq_ofNat_of_zero_le c1.1
 have hl:D.length = m:=by omega
 by_cases c3:∀ x ∈ D,0 ≤ x ∧ x < ((2 ^ D.length:Nat):Int)
 ·rw [decide_eq_true ⟨by omega,c3⟩]
  have e:D = mat m (bitR D):=by have:=eq_mat D c3;rwa [hl] at this
  refine Ev.succ ?_
  simp only [impl_IsAlphabet.j0]
  refine Ev.neg (by simp) ?_
  have hc:=converse_ev m (by omega) (bitR D)
  rw [← e] at hc
  refine Ev.bind hc ?_
  have:=IsAlphabet_loop m (by omega) (bitR D) m 0 (by omega) (by intro i hi;omega)
  rw [← e] at this
  rw [mat_length]
  refine Ev.val this ?_
  rw [decide_eq_decide]
  exact ⟨fun h=>⟨c1,c2,c3,fun a ha=>⟨(h a (by omega)).1,fun b hb=>(h a (by omega)).2 b (by omega)⟩⟩,fun h a ha=>⟨(h.2.2.2 a (by omega)).1,fun b hb=>(h.2.2.2 a (by omega)).2 b (by omega)⟩⟩
 ·rw [decide_eq_false fun h=>c3 h.2]
  exact hj _ _ fun h=>c3 h.2.2.1
theorem l03Word_l0 (n:Int) (hn:0 ≤ n ∧ n ≤ 8) (w:List Int) (hw:w.length ≤ 24):∀ (d i:Nat),i + d = w.length → (∀ j (h:j < w.length),j < i → 0 ≤ w[j] ∧ w[j] ≤ n - 1) → Ev (fun k=>spec_l03Word.l0 k n w i) (decide (Word n w)):=by
 intro d
 induction d with
 | zero =>
  intro i hi hp
  refine Ev.succ ?_
  simp only [spec_l03Word.l0]
  refine Ev.neg (by omega) (Ev.const ?_)
  have hW:Word n w:=⟨hw,fun x hx=>by obtain ⟨j,hj,rfl⟩:=List.getElem_of_mem hx;exact hp j hj (by omega)⟩
  rw [decide_eq_true hW]
 | succ d ih =>
  intro i hi hp
  refine Ev.succ ?_
  simp only [spec_l03Word.l0,l01In_eq]
  refine Ev.pos (by omega) (Ev.pos (by omega) (Ev.some_bind ?_))
  rw [rd_lt w i (by omega),w64' (show -9000000000000000000 ≤ n - 1 ∧ n - 1 ≤ 9000000000000000000 by omega)]
  simp only [decide_eq_true_eq]
  refine Ev.ite (fun c=>?_) (fun c=>?_)
  ·rw [w64' (by omega)]
   refine ih (i + 1) (by omega) (fun j h hji=>?_)
   by_cases e:j = i
   ·subst e;exact c
   ·exact hp j h (by omega)
  ·refine Ev.const ?_
   rw [decide_eq_false fun h=>c (h.2 _ (List.getElem_mem (by omega)))]
theorem l03Word_ev (n:Int) (hn:0 ≤ n ∧ n ≤ 8) (w:List Int):Ev (fun k=>spec_l03Word.f k n w) (decide (Word n w)):=by
 simp only [spec_l03Word.f]
 refine Ev.ite (fun c=>Ev.const ?_) (fun c=>?_)
 ·rw [decide_eq_false fun h=>by have:=h.1;omega]
 ·exact l03Word_l0 n hn w (by omega) w.length 0 (by omega) (by intro j h hj;omega)
theorem l03Code_ev (n:Int) (D u v:List Int):Ev (fun k=>spec_l03Code.f k n D u v) (if Alpha n D then (if Word n u ∧ Word n v then 0 else 2) else 1):=by
 simp only [spec_l03Code.f]
 refine Ev.bind (l02Is_ev n D) ?_
 simp only [decide_eq_true_eq]
 refine Ev.ite (fun c=>?_) (fun c=>Ev.const (by rw [if_neg c]))
 rw [if_pos c]
 refine Ev.bind (l03Word_ev n c.1 u) ?_
 simp only [decide_eq_true_eq]
 refine Ev.ite (fun c1=>?_) (fun c1=>Ev.const (by rw [if_neg fun h=>c1 h.1]))
 refine Ev.bind (l03Word_ev n c.1 v) ?_
 simp only [decide_eq_true_eq]
 refine Ev.ite (fun c2=>Ev.const (by rw [if_pos ⟨c1,c2⟩])) (fun c2=>Ev.const (by rw [if_neg fun h=>c2 h.2]))
theorem wordB_eq (n:Int) (hn:0 ≤ n ∧ n ≤ 8) (w:List Int):wordB n w = decide (Word n w):=by
 unfold wordB
 rw [Bool.eq_iff_iff,w64' (by omega)]
 rw [decide_eq_true_iff]
 simp [Word,List.all_eq_true]
theorem checkWords_ev (n:Int) (D:List Int) (ws:List (List Int)):Ev (fun k=>impl_checkWords.f k n D ws) (if Alpha n D then (if ∀ w ∈ ws,Word n w then 0 else 2) else 1):=by
 simp only [impl_checkWords.f]
 refine Ev.bind (IsAlphabet_ev n D) (Ev.const ?_)
 congr 1
 by_cases h:Alpha n D
 ·rw [if_pos (by simpa using h),if_pos h]
  by_cases g:∀ w ∈ ws,Word n w
  ·rw [if_pos g,if_pos]
   rw [List.all_eq_true]
   exact fun w hw=>by rw [wordB_eq n h.1];simpa using g w hw
  ·rw [if_neg g,if_neg]
   rw [List.all_eq_true]
   exact fun k=>g fun w hw=>by have:=k w hw;rw [wordB_eq n h.1] at this;simpa using this
 ·rw [if_neg (by simpa using h),if_neg h]
theorem l02Dep_eq (n:Nat) (hn:n ≤ 24) (f:Nat → Nat → Bool) (x:Int) (a b:Nat) (ha:a < n) (hb:b < n):spec_l02Dep.f x (mat n f) (a:Int) (b:Int) = some (f a b):=by
 unfold spec_l02Dep.f
 have:=mk_lt n (f a)
 have:=pow24 hn
 rw [if_pos (by omega),if_pos (by simp;omega),rd_mat n f a ha,l01Bit_eq _ b (by omega) (by omega),testBit_mk]
 simp [hb]
theorem l01Own_eq (l:List Int) (h:l.length < 17592186044416):spec_l01Own.f l = some l:=by
 unfold spec_l01Own.f
 simp only [Option.bind_some,List.length_nil,List.nil_append]
 rw [if_pos (by omega)]
theorem l03First_l0 (n:Nat) (hn:n ≤ 24) (f:Nat → Nat → Bool) (a:Nat) (ha:a < n):∀ (suf pre:List Nat),(pre ++ suf).length ≤ 1000000 → (∀ x ∈ pre ++ suf,x < n) →
  Ev (fun k=>spec_l03First.l0 k (ints (pre ++ suf)) (a:Int) (pre.length:Int) (n:Int) (mat n f)) (if isFirst f suf a = true then ((pre.length + suf.idxOf a:Nat):Int) else -1):=by
 intro suf
 induction suf with
 | nil =>
  intro pre hl hw
  refine Ev.succ ?_
  simp only [spec_l03First.l0]
  exact Ev.neg (by simp) (Ev.const rfl)
 | cons b suf ih =>
  intro pre hl hw
  simp only [List.length_append,List.length_cons] at hl
  have hb:b < n:=mem_mid hw
  refine Ev.succ ?_
  simp only [spec_l03First.l0]
  refine Ev.pos (by simp;omega) (Ev.pos (by omega) ?_)
  rw [rd_mid]
  refine Ev.ite (fun c=>?_) (fun c=>?_)
  ·obtain rfl:=Int.ofNat.inj c
   refine Ev.const ?_
   rw [if_pos (isFirst_head f b suf)]
   simp
  ·have c' : ¬ b = a:=fun e=>c (by rw [e])
   rw [l02Dep_eq n hn f _ b a hb ha]
   refine Ev.some_bind (Ev.ite (fun g=>?_) (fun g=>?_))
   ·refine Ev.const ?_
    rw [if_neg (by simp [isFirst,c', g])]
   ·rw [w64' (by omega)]
    have:=ih (pre ++ [b]) (by simp;omega) (by simpa using hw)
    simp only [List.append_assoc,List.cons_append,List.nil_append,List.length_append,List.length_cons,List.length_nil] at this
    refine Ev.val this ?_
    have e1:isFirst f (b :: suf) a = isFirst f suf a:=by simp [isFirst,c', g]
    rw [e1,idxOf_tail _ c']
    by_cases h:isFirst f suf a = true
    ·rw [if_pos h,if_pos h]
     congr 1
     omega
    ·rw [if_neg h,if_neg h]
theorem l03First_ev (n:Nat) (hn:n ≤ 24) (f:Nat → Nat → Bool) (w:List Nat) (hl:w.length ≤ 1000000) (hw:∀ x ∈ w,x < n) (a:Nat) (ha:a < n):Ev (fun k=>spec_l03First.f k (n:Int) (mat n f) (ints w) (a:Int)) (fIdx f w a):=by
 simp only [spec_l03First.f]
 have:=l03First_l0 n hn f a ha w [] hl hw
 simpa [fIdx] using this
theorem l03Without_eq (w:List Nat) (hl:w.length ≤ 1000000) (i:Nat) (hi:i < w.length):spec_l03Without.f (ints w) (i:Int) = some (ints (w.eraseIdx i)):=by
 unfold spec_l03Without.f
 rw [if_pos (by omega),if_pos (by simp;omega),w64' (by omega),Int.toNat_natCast,l01Own_eq _ (by simp;omega)]
 simp only [Option.bind_some]
 rw [if_pos (by omega),if_pos (by simp;omega),show ((i:Int) + 1).toNat = i + 1 by omega,if_pos (by simp;omega),← ints_eraseIdx,List.eraseIdx_eq_take_drop_succ]
theorem l03Without_first (f:Nat → Nat → Bool) (w:List Nat) (hl:w.length ≤ 1000000) (a:Nat) (h:isFirst f w a = true):spec_l03Without.f (ints w) (fIdx f w a) = some (ints (w.erase a)):=by
 have hm:=isFirst_mem f h
 unfold fIdx
 rw [if_pos h,l03Without_eq w hl _ (idxOf_lt hm),erase_idx hm]
theorem l03Normal_l0 (n:Nat) (hn:n ≤ 24) (f:Nat → Nat → Bool):∀ (L:Nat) (w:List Nat) (acc:List Int),w.length = L → acc.length + w.length ≤ 1000000 → (∀ x ∈ w,x < n) →
  Ev (fun k=>spec_l03Normal.l0 k acc (ints w) (n:Int) (mat n f)) (acc ++ ints (normalP f n w)):=by
 intro L
 induction L with
 | zero =>
  intro w acc hL hl hw
  obtain rfl:=List.eq_nil_of_length_eq_zero hL
  refine Ev.succ ?_
  simp only [spec_l03Normal.l0]
  refine Ev.neg (by simp [ints]) (Ev.const ?_)
  simp [normalP_nil,ints]
 | succ L ih =>
  intro w acc hL hl hw
  have hne:w ≠ []:=by rintro rfl;simp at hL
  obtain ⟨h1,h2,h3⟩:=least_first f hw hne
  rw [normalP_cons f hw hne]
  refine Ev.succ ?_
  simp only [spec_l03Normal.l0]
  refine Ev.pos (by simp;omega) ?_
  have inner:∀ (d a:Nat),a + d = leastF (isFirst f w) n → Ev (fun k=>spec_l03Normal.l1 k acc (ints w) (a:Int) (n:Int) (mat n f)) (acc ++ ints (leastF (isFirst f w) n :: normalP f n (w.erase (leastF (isFirst f w) n)))):=by
   intro d
   induction d with
   | zero =>
    intro a ha
    obtain rfl:a = leastF (isFirst f w) n:=by omega
    refine Ev.succ ?_
    simp only [spec_l03Normal.l1]
    refine Ev.pos (by omega) (Ev.bind (l03First_ev n hn f w (by omega) hw _ h1) (Ev.pos (by unfold fIdx;rw [if_pos h2];omega) (Ev.pos (by omega) ?_)))
    rw [l03Without_first f w (by omega) _ h2]
    refine Ev.some_bind ?_
    have he:=length_erase f h2
    refine Ev.val (ih _ _ (by omega) (by simp;omega) (erase_lt hw)) ?_
    rw [ints_cons]
    simp
   | succ d ihd =>
    intro a ha
    refine Ev.succ ?_
    simp only [spec_l03Normal.l1]
    refine Ev.pos (by omega) (Ev.bind (l03First_ev n hn f w (by omega) hw a (by omega)) (Ev.neg (by unfold fIdx;rw [h3 a (by omega)];simp) ?_))
    rw [w64' (by omega)]
    exact ihd (a + 1) (by omega)
  exact inner (leastF (isFirst f w) n) 0 (by omega)
theorem l03Normal_ev (n:Nat) (hn:n ≤ 24) (f:Nat → Nat → Bool) (w:List Nat) (hl:w.length ≤ 1000000) (hw:∀ x ∈ w,x < n):Ev (fun k=>spec_l03Normal.f k (n:Int) (mat n f) (ints w)) (ints (normalP f n w)):=by
 simp only [spec_l03Normal.f]
 rw [l01Own_eq _ (by simp;omega)]
 refine Ev.some_bind (Ev.val (l03Normal_l0 n hn f _ w [] rfl (by simpa using hl) hw) (by simp))
theorem Index_l0 (a:Nat):∀ (suf pre:List Nat),(pre ++ suf).length ≤ 1000000 →
  Ev (fun k=>slices_Index_int64_int64.l0 k (ints (pre ++ suf)) (a:Int) ((pre ++ suf).length:Int) (pre.length:Int)) (if a ∈ suf then ((pre.length + suf.idxOf a:Nat):Int) else -1):=by
 intro suf
 induction suf with
 | nil =>
  intro pre hl
  refine Ev.succ ?_
  simp only [slices_Index_int64_int64.l0]
  exact Ev.neg (by simp) (Ev.const rfl)
 | cons b suf ih =>
  intro pre hl
  simp only [List.length_append,List.length_cons] at hl
  refine Ev.succ ?_
  simp only [slices_Index_int64_int64.l0]
  refine Ev.pos (by simp;omega) (Ev.pos (by omega) (Ev.pos (by simp;omega) ?_))
  rw [rd_mid]
  refine Ev.ite (fun c=>?_) (fun c=>?_)
  ·obtain rfl:=Int.ofNat.inj c
   refine Ev.const ?_
   simp
  ·have c' : ¬ b = a:=fun e=>c (by rw [e])
   rw [w64' (by omega)]
   have:=ih (pre ++ [b]) (by simp;omega)
   simp only [List.append_assoc,List.cons_append,List.nil_append,List.length_append,List.length_cons,List.length_nil] at this ⊢
   refine Ev.val this ?_
   rw [idxOf_tail _ c']
   have e1:a ∈ b :: suf ↔ a ∈ suf:=by simp [List.mem_cons,show ¬ a = b from fun e=>c' e.symm]
   by_cases h:a ∈ suf
   ·rw [if_pos h,if_pos (e1.2 h)]
    congr 1
    omega
   ·rw [if_neg h,if_neg (fun k=>h (e1.1 k))]
theorem Index_ev (w:List Nat) (hl:w.length ≤ 1000000) (a:Nat):Ev (fun k=>slices_Index_int64_int64.f k (ints w) (a:Int)) (if a ∈ w then ((w.idxOf a:Nat):Int) else -1):=by
 simp only [slices_Index_int64_int64.f]
 have:=Index_l0 a w [] hl
 simpa using this
theorem withoutFirst_ev (w:List Nat) (hl:w.length ≤ 1000000) (a:Nat) (h:a ∈ w):Ev (fun k=>impl_withoutFirst.f k (ints w) (a:Int)) (ints (w.erase a)):=by
 simp only [impl_withoutFirst.f]
 have hi:=idxOf_lt h
 refine Ev.bind (Index_ev w hl a) ?_
 rw [if_pos h]
 refine Ev.pos (by omega) (Ev.pos (by simp;omega) ?_)
 rw [w64' (by omega)]
 refine Ev.pos (by omega) (Ev.pos (by simp;omega) ?_)
 rw [Int.toNat_natCast,show ((w.idxOf a:Int) + 1).toNat = w.idxOf a + 1 by omega]
 refine Ev.const ?_
 unfold slices_Concat_int64_int64.f
 rw [if_pos (by simp;omega),← erase_idx h,← ints_eraseIdx,List.eraseIdx_eq_take_drop_succ]
 simp
theorem isFirst_snoc (f:Nat → Nat → Bool) (w:List Nat) (x a:Nat):isFirst f (w ++ [x]) a = (isFirst f w a || (decide (x = a) && w.all fun b=>!f b a)):=by
 induction w with
 | nil=>simp [isFirst]
 | cons b w ih =>
  simp only [List.cons_append,isFirst,ih,List.all_cons]
  cases decide (b = a) <;> cases f b a <;> cases isFirst f w a <;> simp
theorem firsts_l0 (n:Nat) (hn:n ≤ 8) (f:Nat → Nat → Bool):∀ (suf pre:List Nat),(pre ++ suf).length ≤ 1000000 → (∀ x ∈ pre ++ suf,x < n) →
  Ev (fun k=>impl_ties_firsts.l0 k (mat n f) ((mk n (isFirst f pre):Nat):Int) ((mk n (fun a=>pre.any fun b=>f b a):Nat):Int) (ints (pre ++ suf)) ((pre ++ suf).length:Int) (pre.length:Int)) ((mk n (isFirst f (pre ++ suf)):Nat):Int):=by
 intro suf
 induction suf with
 | nil =>
  intro pre hl hw
  refine Ev.succ ?_
  simp only [impl_ties_firsts.l0]
  exact Ev.neg (by simp) (Ev.const (by simp))
 | cons x suf ih =>
  intro pre hl hw
  have hx:x < n:=mem_mid hw
  have i1:=ih (pre ++ [x]) (by simpa using hl) (by simpa using hw)
  simp only [List.append_assoc,List.cons_append,List.nil_append] at i1
  rw [show (pre ++ [x]).length = pre.length + 1 by simp] at i1
  have hl' : pre.length + suf.length + 1 ≤ 1000000:=by simpa [Nat.add_assoc] using hl
  have h1:=mk_lt n (isFirst f pre)
  have h2:=mk_lt n (fun a=>pre.any fun b=>f b a)
  have h3:=mk_lt n (f x)
  have h4:(2:Nat) ^ n ≤ 2 ^ 24:=pow24 (by omega)
  have h5:(2:Nat) ^ x ≤ 2 ^ 24:=pow24 (by omega)
  have eb:mk n (fun a=>(pre ++ [x]).any fun b=>f b a) = mk n (fun a=>pre.any fun b=>f b a) ||| mk n (f x):=bits_ext fun i=>by
   rw [Nat.testBit_or,testBit_mk,testBit_mk,testBit_mk]
   by_cases hi:i < n <;> simp [hi]
  rw [eb] at i1
  refine Ev.succ ?_
  simp only [impl_ties_firsts.l0]
  refine Ev.pos (by simp;omega) (Ev.pos (by omega) (Ev.pos (by simp;omega) ?_))
  rw [rd_mid,has_eq _ x (by omega) (by omega),rd_mat n f x hx,b_or _ _ (by omega) (by omega),testBit_mk]
  refine Ev.some_bind (Ev.ite (fun g=>?_) (fun g=>?_))
  ·refine Ev.pos (by omega) (Ev.pos (by simp;omega) ?_)
   rw [w64' (by omega)]
   have eo:mk n (isFirst f (pre ++ [x])) = mk n (isFirst f pre):=mk_congr fun a _=>by
    rw [isFirst_snoc]
    by_cases e:x = a
    ·subst e
     have:(pre.all fun b=>!f b x) = false:=by
      rw [← Bool.not_eq_true]
      simp [hx] at g
      obtain ⟨b,hb,hf⟩:=g
      intro h
      have:=List.all_eq_true.1 h b hb
      simp [hf] at this
     rw [this];simp
    ·simp [e]
   rw [eo] at i1
   exact i1
  ·rw [one_eq x (by omega)]
   refine Ev.some_bind (Ev.pos (by omega) (Ev.pos (by simp;omega) ?_))
   rw [w64' (by omega),b_or _ _ (by omega) (by omega)]
   have eo:mk n (isFirst f (pre ++ [x])) = mk n (isFirst f pre) ||| 2 ^ x:=bits_ext fun i=>by
    rw [Nat.testBit_or,testBit_mk,testBit_mk,testBit_one,isFirst_snoc]
    by_cases e:x = i
    ·subst e
     have:(pre.all fun b=>!f b x) = true:=by
      rw [List.all_eq_true]
      intro b hb
      simp only [hx,decide_true,Bool.true_and] at g
      have:=fun h=>g (List.any_eq_true.2 ⟨b,hb,h⟩)
      simpa using this
     simp [hx,this]
    ·simp [e]
   rw [eo] at i1
   exact i1
theorem firsts_ev (n:Nat) (hn:n ≤ 8) (f:Nat → Nat → Bool) (w:List Nat) (hl:w.length ≤ 1000000) (hw:∀ x ∈ w,x < n):Ev (fun k=>impl_ties_firsts.f k (mat n f) (ints w)) ((mk n (isFirst f w):Nat):Int):=by
 simp only [impl_ties_firsts.f]
 have:=firsts_l0 n hn f w [] hl hw
 have e1:mk n (isFirst f []) = 0:=Nat.eq_of_testBit_eq fun i=>by rw [testBit_mk];simp [isFirst]
 have e2:mk n (fun a=>([]:List Nat).any fun b=>f b a) = 0:=Nat.eq_of_testBit_eq fun i=>by rw [testBit_mk];simp
 rw [e1,e2] at this
 simpa using this
theorem normal_l0 (n:Nat) (hn:n ≤ 8) (f:Nat → Nat → Bool):∀ (L:Nat) (w:List Nat) (acc:List Int),w.length = L → acc.length + w.length ≤ 1000000 → (∀ x ∈ w,x < n) →
  Ev (fun k=>impl_ties_normal.l0 k (mat n f) acc (ints w)) (acc ++ ints (normalP f n w)):=by
 intro L
 induction L with
 | zero =>
  intro w acc hL hl hw
  obtain rfl:=List.eq_nil_of_length_eq_zero hL
  refine Ev.succ ?_
  simp only [impl_ties_normal.l0]
  refine Ev.neg (by simp [ints]) (Ev.const ?_)
  simp [normalP_nil,ints]
 | succ L ih =>
  intro w acc hL hl hw
  have hne:w ≠ []:=by rintro rfl;simp at hL
  obtain ⟨h1,h2,h3⟩:=least_first f hw hne
  rw [normalP_cons f hw hne]
  have h4:=mk_lt n (isFirst f w)
  have h5:(2:Nat) ^ n ≤ 2 ^ 24:=pow24 (by omega)
  refine Ev.succ ?_
  simp only [impl_ties_normal.l0]
  refine Ev.pos (by simp;omega) (Ev.bind (firsts_ev n hn f w (by omega) hw) ?_)
  rw [least_eq _ (by omega),ctz_mk (by omega) ⟨_,h1,h2⟩]
  refine Ev.some_bind (Ev.pos (by omega) (Ev.bind (withoutFirst_ev w (by omega) _ (isFirst_mem f h2)) ?_))
  have he:=length_erase f h2
  refine Ev.val (ih _ _ (by omega) (by simp;omega) (erase_lt hw)) ?_
  rw [ints_cons]
  simp
theorem normal_ev (n:Nat) (hn:n ≤ 8) (f:Nat → Nat → Bool) (w:List Nat) (hl:w.length ≤ 1000000) (hw:∀ x ∈ w,x < n):Ev (fun k=>impl_ties_normal.f k (mat n f) (ints w)) (ints (normalP f n w)):=by
 simp only [impl_ties_normal.f]
 refine Ev.pos (by omega) (Ev.pos (by simp;omega) (Ev.val (normal_l0 n hn f _ w [] rfl (by simpa using hl) hw) (by simp)))
theorem closure_l2 (n:Nat) (hn:n ≤ 24) (g:Nat → Nat → Bool) (p:Nat) (hp:p < n) (R:List Int) (hR:Ev (fun k=>impl_closure.l1 k (mat n fun i k=>g i k || (g i p && g p k)) (n:Int) ((p + 1:Nat):Int)) R) :
  ∀ (d i:Nat),i + d = n → Ev (fun k=>impl_closure.l2 k (mat n fun a b=>if a < i then g a b || (g a p && g p b) else g a b) (p:Int) (n:Int) (p:Int) (n:Int) (i:Int)) R:=by
 intro d
 induction d with
 | zero =>
  intro i hi
  refine Ev.succ ?_
  simp only [impl_closure.l2]
  refine Ev.neg (by omega) ?_
  rw [w64' (by omega)]
  have e:mat n (fun a b=>if a < i then g a b || (g a p && g p b) else g a b) = mat n fun a b=>g a b || (g a p && g p b):=mat_congr fun a b ha _=>by rw [if_pos (by omega)]
  rw [e]
  exact hR
 | succ d ih =>
  intro i hi
  have h24:=pow_lt62 hn
  have i1:=ih (i + 1) (by omega)
  refine Ev.succ ?_
  simp only [impl_closure.l2]
  refine Ev.pos (by omega) (Ev.pos (by omega) (Ev.pos (by simp;omega) ?_))
  rw [rd_mat n _ i (by omega)]
  have h1:=mk_lt n ((fun a b=>if a < i then g a b || (g a p && g p b) else g a b) i)
  have h2:=mk_lt n ((fun a b=>if a < i then g a b || (g a p && g p b) else g a b) p)
  rw [has_eq _ p (mk62 (by omega) _) (by omega),testBit_mk]
  refine Ev.some_bind ?_
  have row:(if i < i then g i p || (g i p && g p p) else g i p) = g i p:=if_neg (by omega)
  have hrow:∀ b,(if p < i then g p b || (g p p && g p b) else g p b) = g p b:=fun b=>by
   split
   ·cases g p b <;> simp
   ·rfl
  refine Ev.ite (fun c=>?_) (fun c=>?_)
  ·have c' : g i p = true:=by
    simp only [hp,decide_true,Bool.true_and] at c
    rw [← row];exact c
   refine Ev.pos (by omega) (Ev.pos (by simp;omega) ?_)
   rw [rd_mat n _ p hp,b_or _ _ (mk62 (by omega) _) (mk62 (by omega) _),mk_or,w64' (by omega),Int.toNat_natCast,mat_row n _ i (by omega)]
   have e:mat n (fun a b=>if a = i then ((if i < i then g i b || (g i p && g p b) else g i b) || if p < i then g p b || (g p p && g p b) else g p b) else if a < i then g a b || (g a p && g p b) else g a b) = mat n fun a b=>if a < i + 1 then g a b || (g a p && g p b) else g a b:=mat_congr fun a b ha hb=>by
    by_cases e:a = i
    ·subst e
     rw [if_pos rfl,hrow,if_neg (Nat.lt_irrefl a),if_pos (Nat.lt_succ_self a),c']
     simp
    ·rw [if_neg e]
     by_cases e2:a < i
     ·rw [if_pos e2,if_pos (by omega)]
     ·rw [if_neg e2,if_neg (by omega)]
   rw [e]
   exact i1
  ·have c' : g i p = false:=by
    simp only [hp,decide_true,Bool.true_and] at c
    rw [← row];simpa using c
   rw [w64' (by omega)]
   have e:mat n (fun a b=>if a < i then g a b || (g a p && g p b) else g a b) = mat n fun a b=>if a < i + 1 then g a b || (g a p && g p b) else g a b:=mat_congr fun a b ha hb=>by
    by_cases e:a = i
    ·subst e
     rw [if_neg (by omega),if_pos (by omega),c']
     simp
    ·by_cases e2:a < i
     ·rw [if_pos e2,if_pos (by omega)]
     ·rw [if_neg e2,if_neg (by omega)]
   rw [e]
   exact i1
theorem closure_l1 (n:Nat) (hn:n ≤ 24) (f:Nat → Nat → Bool):∀ (d p:Nat),p + d = n → Ev (fun k=>impl_closure.l1 k (mat n (wsh f p)) (n:Int) (p:Int)) (mat n (clos n f)):=by
 intro d
 induction d with
 | zero =>
  intro p hp
  obtain rfl:p = n:=by omega
  refine Ev.succ ?_
  simp only [impl_closure.l1]
  exact Ev.neg (by omega) (Ev.now _)
 | succ d ih =>
  intro p hp
  refine Ev.succ ?_
  simp only [impl_closure.l1]
  refine Ev.pos (by omega) ?_
  have:=closure_l2 n hn (wsh f p) p (by omega) _ (ih (p + 1) (by omega)) n 0 (by omega)
  have e:mat n (fun a b=>if a < 0 then wsh f p a b || (wsh f p a p && wsh f p p b) else wsh f p a b) = mat n (wsh f p):=mat_congr fun a b _ _=>if_neg (by omega)
  rw [e] at this
  rw [mat_length]
  exact this
theorem closure_ev (n:Nat) (hn:n ≤ 24) (f:Nat → Nat → Bool):Ev (fun k=>impl_closure.f k (mat n f)) (mat n (clos n f)):=by
 have h24:=pow_lt62 hn
 have loop:∀ (d i:Nat),i + d = n → Ev (fun k=>impl_closure.l0 k (mat n fun a b=>(decide (a = b) && decide (a < i)) || f a b) (n:Int) (i:Int)) (mat n (clos n f)):=by
  intro d
  induction d with
  | zero =>
   intro i hi
   obtain rfl:i = n:=by omega
   refine Ev.succ ?_
   simp only [impl_closure.l0]
   refine Ev.neg (by omega) ?_
   have:=closure_l1 i hn f i 0 (by omega)
   have e:mat i (fun a b=>(decide (a = b) && decide (a < i)) || f a b) = mat i (wsh f 0):=mat_congr fun a b ha _=>by simp [wsh,ha]
   rw [e,mat_length]
   exact this
  | succ d ih =>
   intro i hi
   have i1:=ih (i + 1) (by omega)
   have h1:=mk_lt n ((fun a b=>(decide (a = b) && decide (a < i)) || f a b) i)
   have h2:(2:Nat) ^ i ≤ 2 ^ 24:=pow24 (by omega)
   refine Ev.succ ?_
   simp only [impl_closure.l0]
   refine Ev.pos (by omega) (Ev.pos (by omega) (Ev.pos (by simp;omega) ?_))
   rw [one_eq i (by omega),rd_mat n _ i (by omega)]
   refine Ev.some_bind ?_
   rw [b_or _ _ (mk62 (by omega) _) (two62 (by omega)),mk_or_one n _ i (by omega),w64' (by omega),Int.toNat_natCast,mat_row n _ i (by omega)]
   have e:mat n (fun a b=>if a = i then (((decide (i = b) && decide (i < i)) || f i b) || decide (b = i)) else (decide (a = b) && decide (a < i)) || f a b) = mat n fun a b=>(decide (a = b) && decide (a < i + 1)) || f a b:=mat_congr fun a b ha hb=>by
    by_cases e:a = i
    ·subst e
     rw [if_pos rfl]
     by_cases e2:a = b
     ·subst e2;simp
     ·simp [e2,show ¬ b = a from fun h=>e2 h.symm]
    ·rw [if_neg e]
     by_cases e2:a < i
     ·simp [e2,show a < i + 1 by omega]
     ·simp [e2,show ¬ a < i + 1 by omega]
   rw [e]
   exact i1
 simp only [impl_closure.f]
 unfold slices_Clone_int64_int64.f
 rw [if_pos (by simp;omega)]
 refine Ev.some_bind ?_
 have:=loop n 0 (by omega)
 have e:mat n (fun a b=>(decide (a = b) && decide (a < 0)) || f a b) = mat n f:=mat_congr fun a b _ _=>by simp
 rw [e] at this
 rw [mat_length]
 exact this
theorem orderOf_ev (n:Nat) (hn:n ≤ 8) (f:Nat → Nat → Bool) (w:List Nat) (hl:w.length ≤ 24) (hw:∀ x ∈ w,x < n):Ev (fun k=>impl_ties_orderOf.f k (mat n f) (ints w)) (mat w.length (ordP f w)):=by
 have h24:=pow_lt62 hl
 have h8:=pow_lt62 (show n ≤ 24 by omega)
 have outer:∀ (d i:Nat),i + d = w.length → Ev (fun k=>impl_ties_orderOf.l0 k (mat n f) (ints w) (mat w.length fun a b=>decide (a < i) && eP f w a b) (ints w) (w.length:Int) (i:Int)) (mat w.length (ordP f w)):=by
  intro d
  induction d with
  | zero =>
   intro i hi
   refine Ev.succ ?_
   simp only [impl_ties_orderOf.l0]
   refine Ev.neg (by omega) ?_
   have e:mat w.length (fun a b=>decide (a < i) && eP f w a b) = mat w.length (eP f w):=mat_congr fun a b ha _=>by simp [show a < i by omega]
   rw [e]
   exact Ev.bind (closure_ev w.length hl (eP f w)) (Ev.now _)
  | succ d ih =>
   intro i hi
   have i1:=ih (i + 1) (by omega)
   have hx:=getD_lt hw (show i < w.length by omega)
   have inner:∀ (e k:Nat),k + e = w.length → i < k → Ev (fun q=>impl_ties_orderOf.l1 q (mat n f) (ints w) (mat w.length fun a b=>(decide (a < i) && eP f w a b) || (decide (a = i ∧ b < k) && eP f w a b)) (i:Int) ((w.getD i 0:Nat):Int) (k:Int) (ints w) (w.length:Int) (i:Int)) (mat w.length (ordP f w)):=by
    intro e
    induction e with
    | zero =>
     intro k hk hik
     refine Ev.succ ?_
     simp only [impl_ties_orderOf.l1]
     refine Ev.neg (by simp;omega) ?_
     rw [w64' (by omega)]
     have e:mat w.length (fun a b=>(decide (a < i) && eP f w a b) || (decide (a = i ∧ b < k) && eP f w a b)) = mat w.length fun a b=>decide (a < i + 1) && eP f w a b:=mat_congr fun a b ha hb=>by
      by_cases e1:a = i
      ·subst e1;simp [show b < k by omega]
      ·by_cases e2:a < i
       ·simp [e1,e2,show a < i + 1 by omega]
       ·simp [e1,e2,show ¬ a < i + 1 by omega]
     rw [e]
     exact i1
    | succ e ihe =>
     intro k hk hik
     have j1:=ihe (k + 1) (by omega) (by omega)
     have hy:=getD_lt hw (show k < w.length by omega)
     have h1:=mk_lt n (f (w.getD i 0))
     refine Ev.succ ?_
     simp only [impl_ties_orderOf.l1]
     refine Ev.pos (by simp;omega) (Ev.pos (by omega) (Ev.pos (by rw [mat_length];omega) (Ev.pos (by omega) ?_)))
     rw [rd_getD,rd_mat n f _ hx,has_eq _ _ (mk62 (by omega) _) (by omega),testBit_mk]
     have hee:eP f w i k = f (w.getD i 0) (w.getD k 0):=by simp [eP,hik,show k < w.length by omega]
     refine Ev.some_bind (Ev.ite (fun c=>?_) (fun c=>?_))
     ·have c' : eP f w i k = true:=hee.trans (Bool.and_eq_true_iff.1 c).2
      have h2:=mk_lt w.length ((fun a b=>(decide (a < i) && eP f w a b) || (decide (a = i ∧ b < k) && eP f w a b)) i)
      have h3:(2:Nat) ^ k ≤ 2 ^ 24:=pow24 (by omega)
      refine Ev.pos (by omega) (Ev.pos (by simp;omega) ?_)
      rw [one_eq k (by omega),rd_mat w.length _ i (by omega),w64' (by omega)]
      refine Ev.some_bind ?_
      rw [b_or _ _ (mk62 (by omega) _) (two62 (by omega)),mk_or_one w.length _ k (by omega),Int.toNat_natCast,mat_row w.length _ i (by omega)]
      have e:mat w.length (fun a b=>if a = i then (((decide (i < i) && eP f w i b) || (decide (i = i ∧ b < k) && eP f w i b)) || decide (b = k)) else (decide (a < i) && eP f w a b) || (decide (a = i ∧ b < k) && eP f w a b)) = mat w.length fun a b=>(decide (a < i) && eP f w a b) || (decide (a = i ∧ b < k + 1) && eP f w a b):=mat_congr fun a b ha hb=>by
       by_cases e1:a = i
       ·subst e1
        rw [if_pos rfl]
        by_cases e2:b = k
        ·subst e2;simp [c']
        ·by_cases e3:b < k
         ·simp [e2,e3,show b < k + 1 by omega]
         ·simp [e2,e3,show ¬ b < k + 1 by omega]
       ·rw [if_neg e1];simp [e1]
      rw [e]
      exact j1
     ·have c' : eP f w i k = false:=hee.trans (Bool.eq_false_iff.2 fun h=>c (by rw [h,decide_eq_true hy];rfl))
      rw [w64' (by omega)]
      have e:mat w.length (fun a b=>(decide (a < i) && eP f w a b) || (decide (a = i ∧ b < k) && eP f w a b)) = mat w.length fun a b=>(decide (a < i) && eP f w a b) || (decide (a = i ∧ b < k + 1) && eP f w a b):=mat_congr fun a b ha hb=>by
       by_cases e1:a = i
       ·subst e1
        by_cases e2:b = k
        ·subst e2;simp [c']
        ·by_cases e3:b < k
         ·simp [e3,show b < k + 1 by omega]
         ·simp [e3,show ¬ b < k + 1 by omega]
       ·simp [e1]
      rw [e]
      exact j1
   have:=inner (w.length - (i + 1)) (i + 1) (by omega) (by omega)
   have e:mat w.length (fun a b=>(decide (a < i) && eP f w a b) || (decide (a = i ∧ b < i + 1) && eP f w a b)) = mat w.length fun a b=>decide (a < i) && eP f w a b:=mat_congr fun a b ha hb=>by
    by_cases e1:a = i ∧ b < i + 1
    ·have:eP f w a b = false:=by simp [eP];omega
     simp [this]
    ·simp [e1]
   rw [e] at this
   refine Ev.succ ?_
   simp only [impl_ties_orderOf.l0]
   refine Ev.pos (by omega) (Ev.pos (by omega) (Ev.pos (by simp;omega) ?_))
   rw [rd_getD,w64' (by omega)]
   exact this
 simp only [impl_ties_orderOf.f]
 refine Ev.pos (by omega) (Ev.pos (by simp;omega) ?_)
 have:=outer w.length 0 (by omega)
 have e:mat w.length (fun a b=>decide (a < 0) && eP f w a b) = List.replicate w.length 0:=by
  apply List.ext_getElem
  ·simp
  ·intro q h1 h2
   simp only [mat,List.getElem_map,List.getElem_range,List.getElem_replicate]
   have:mk w.length (fun b=>decide (q < 0) && eP f w q b) = 0:=Nat.eq_of_testBit_eq fun i=>by rw [testBit_mk];simp
   rw [this];rfl
 rw [e] at this
 rw [ints_length,Int.toNat_natCast]
 exact this
theorem l04Order_ev (n:Nat) (hn:n ≤ 8) (f:Nat → Nat → Bool) (w:List Nat) (hl:w.length ≤ 24) (hw:∀ x ∈ w,x < n):Ev (fun k=>spec_l04Order.f k (n:Int) (mat n f) (ints w)) (mat w.length (ordP f w)):=by
 have h24:=pow_lt62 hl
 have hlast:∀ i k,ordP f w i k = true ↔ i = k ∨ ∃ j,i ≤ j ∧ j < k ∧ ordP f w i j = true ∧ eP f w j k = true:=fun i k=>clos_last fun i k h=>eP_lt h
 have hle:∀ i k,ordP f w i k = true → i ≤ k:=fun i k h=>clos_le (fun i k h=>(eP_lt h).1) h
 -- row i as far as position k
 let row:Nat → Nat → Nat:=fun i k=>mk w.length fun b=>decide (b < k) && ordP f w i b
 have outer:∀ (d i:Nat),i + d = w.length → Ev (fun q=>spec_l04Order.l0 q (ints w) ((List.range i).map fun a=>((mk w.length (ordP f w a):Nat):Int)) (i:Int) (n:Int) (mat n f)) (mat w.length (ordP f w)):=by
  intro d
  induction d with
  | zero =>
   intro i hi
   obtain rfl:i = w.length:=by omega
   refine Ev.succ ?_
   simp only [spec_l04Order.l0]
   exact Ev.neg (by simp) (Ev.now _)
  | succ d ih =>
   intro i hi
   have i1:=ih (i + 1) (by omega)
   rw [List.range_succ,List.map_append] at i1
   have one:2 ^ i = mk w.length fun b=>decide (b < i + 1) && ordP f w i b:=bits_ext fun b=>by
    rw [testBit_mk,testBit_one]
    by_cases e:i = b
    ·subst e
     have:ordP f w i i = true:=clos_refl _ _
     simp [this,show i < w.length by omega]
    ·have:(decide (b < i + 1) && ordP f w i b) = false:=by
      by_cases e2:b < i
      ·have:¬ ordP f w i b = true:=fun h=>by have:=hle i b h;omega
       simpa [show b < i + 1 by omega] using this
      ·simp [show ¬ b < i + 1 by omega]
     simp [e,this]
   have mid:∀ (e k:Nat),k + e = w.length → i < k → Ev (fun q=>spec_l04Order.l1 q (ints w) ((List.range i).map fun a=>((mk w.length (ordP f w a):Nat):Int)) (i:Int) ((mk w.length (fun b=>decide (b < k) && ordP f w i b):Nat):Int) (k:Int) (n:Int) (mat n f)) (mat w.length (ordP f w)):=by
    intro e
    induction e with
    | zero =>
     intro k hk hik
     refine Ev.succ ?_
     simp only [spec_l04Order.l1]
     refine Ev.neg (by simp;omega) (Ev.pos (by simp;omega) ?_)
     rw [w64' (by omega),mk_congr (q:=ordP f w i) fun b hb=>by simp [show b < k by omega]]
     exact i1
    | succ e ihe =>
     intro k hk hik
     have j1:=ihe (k + 1) (by omega) (by omega)
     have h3:(2:Nat) ^ k ≤ 2 ^ 24:=pow24 (by omega)
     -- the positions below j have been looked at
     have inner:∀ (e2 j:Nat),j + e2 = k → i ≤ j → ∀ (B:Bool),(B = true ↔ ∃ j', i ≤ j' ∧ j' < j ∧ ordP f w i j' = true ∧ eP f w j' k = true) →
       Ev (fun q=>spec_l04Order.l2 q (ints w) ((List.range i).map fun a=>((mk w.length (ordP f w a):Nat):Int)) (i:Int) ((mk w.length (fun b=>(decide (b < k) && ordP f w i b) || (decide (b = k) && B)):Nat):Int) (k:Int) (j:Int) (n:Int) (mat n f)) (mat w.length (ordP f w)):=by
      intro e2
      induction e2 with
      | zero =>
       intro j hj hij B hB
       obtain rfl:j = k:=by omega
       refine Ev.succ ?_
       simp only [spec_l04Order.l2]
       refine Ev.neg (by omega) ?_
       have hB' : B = ordP f w i j:=by
        rw [Bool.eq_iff_iff,hB,hlast i j]
        constructor
        ·exact .inr
        ·rintro (h | h)
         ·omega
         ·exact h
       rw [w64' (by omega),mk_congr (q:=fun b=>decide (b < j + 1) && ordP f w i b) fun b hb=>by
        by_cases e1:b = j
        ·subst e1;simp [hB']
        ·by_cases e2:b < j
         ·simp [e1,e2,show b < j + 1 by omega]
         ·simp [e1,e2,show ¬ b < j + 1 by omega]]
       exact j1
      | succ e2 ih2 =>
       intro j hj hij B hB
       have h1:=mk_lt w.length (fun b=>(decide (b < k) && ordP f w i b) || (decide (b = k) && B))
       have hxj:=getD_lt hw (show j < w.length by omega)
       have hxk:=getD_lt hw (show k < w.length by omega)
       have hjk:j < k:=by omega
       refine Ev.succ ?_
       simp only [spec_l04Order.l2]
       refine Ev.pos (by omega) ?_
       rw [l01Bit_eq _ j (mk62 (by omega) _) (by omega),testBit_mk]
       have hbit:(decide (j < w.length) && ((decide (j < k) && ordP f w i j) || (decide (j = k) && B))) = ordP f w i j:=by simp [hjk,show j < w.length by omega,show ¬ j = k by omega]
       rw [hbit]
       have hee:eP f w j k = f (w.getD j 0) (w.getD k 0):=by simp [eP,hjk,show k < w.length by omega]
       refine Ev.some_bind (Ev.ite (fun c=>?_) (fun c=>?_))
       ·refine Ev.pos (by omega) (Ev.pos (by simp;omega) (Ev.pos (by omega) (Ev.pos (by simp;omega) ?_)))
        rw [rd_getD,rd_getD,l02Dep_eq n (by omega) f _ _ _ hxj hxk,l01One_eq k (by omega),w64' (by omega)]
        refine Ev.some_bind (Ev.ite (fun g=>Ev.some_bind ?_) (fun g=>?_))
        ·rw [b_or _ _ (mk62 (by omega) _) (two62 (by omega)),mk_or_one w.length _ k (by omega)]
         have:=ih2 (j + 1) (by omega) (by omega) true ⟨fun _=>⟨j,hij,by omega,c,by rw [hee];exact g⟩,fun _=>rfl⟩
         rw [mk_congr (q:=fun b=>(decide (b < k) && ordP f w i b) || (decide (b = k) && true)) fun b hb=>by
          by_cases e1:b = k
          ·subst e1;simp
          ·simp [e1]]
         exact this
        ·exact ih2 (j + 1) (by omega) (by omega) B (hB.trans ⟨fun ⟨j', a1,a2,a3⟩=>⟨j', a1,by omega,a3⟩,fun ⟨j', a1,a2,a3,a4⟩=>by
          by_cases e1:j' = j
          ·subst e1;rw [hee] at a4;exact absurd a4 g
          ·exact ⟨j', a1,by omega,a3,a4⟩⟩)
       ·rw [w64' (by omega)]
        exact ih2 (j + 1) (by omega) (by omega) B (hB.trans ⟨fun ⟨j', a1,a2,a3⟩=>⟨j', a1,by omega,a3⟩,fun ⟨j', a1,a2,a3,a4⟩=>by
          by_cases e1:j' = j
          ·subst e1;exact absurd a3 c
          ·exact ⟨j', a1,by omega,a3,a4⟩⟩)
     have:=inner (k - i) i (by omega) (Nat.le_refl _) false ⟨by simp,fun ⟨j', a1,a2,_⟩=>by omega⟩
     rw [mk_congr (q:=fun b=>decide (b < k) && ordP f w i b) fun b hb=>by simp] at this
     refine Ev.succ ?_
     simp only [spec_l04Order.l1]
     exact Ev.pos (by simp;omega) this
   have:=mid (w.length - (i + 1)) (i + 1) (by omega) (by omega)
   rw [← one] at this
   refine Ev.succ ?_
   simp only [spec_l04Order.l0]
   refine Ev.pos (by simp;omega) ?_
   rw [l01One_eq i (by omega),w64' (by omega)]
   exact Ev.some_bind this
 simp only [spec_l04Order.f]
 exact outer w.length 0 (by omega)
theorem l04Code_ok (n:Nat) (hn:n ≤ 8) (f:Nat → Nat → Bool) (hs:∀ a b,f a b = f b a) (w:List Nat) (hl:w.length ≤ 24) (hw:∀ x ∈ w,x < n) (hc:Ev (fun k=>spec_l03Code.f k (n:Int) (mat n f) (ints w) (ints w)) 0) :
  Ev (fun k=>spec_l04Code.f k (n:Int) (mat n f) (ints w)) (ints (normalP f n w),mat w.length (ordP f (normalP f n w)),0):=by
 have hnl:=normalP_length f hs hw
 simp only [spec_l04Code.f]
 refine Ev.bind hc (Ev.pos rfl (Ev.bind (l03Normal_ev n (by omega) f w (by omega) hw) ?_))
 have:=l04Order_ev n hn f _ (by omega) (normalP_lt f hs hw)
 rw [hnl] at this
 exact Ev.bind this (Ev.now _)
theorem l04Code_bad (n:Int) (D w:List Int) (c:Int) (h0:c ≠ 0) (hc:Ev (fun k=>spec_l03Code.f k n D w w) c):Ev (fun k=>spec_l04Code.f k n D w) ([],[],c):=by
 simp only [spec_l04Code.f]
 exact Ev.bind hc (Ev.neg h0 (Ev.now _))
theorem positions_ev (n:Nat) (hn:n ≤ 8) (f:Nat → Nat → Bool) (hs:∀ a b,f a b = f b a) (w:List Nat) (hl:w.length ≤ 24) (hw:∀ x ∈ w,x < n) :
  Ev (fun k=>impl_positions.f k (n:Int) (mat n f) (ints w)) (ints (normalP f n w),mat w.length (ordP f (normalP f n w))):=by
 have hnl:=normalP_length f hs hw
 simp only [impl_positions.f,impl_Alphabet_ties.f]
 refine Ev.some_bind (Ev.bind (normal_ev n hn f w (by omega) hw) (Ev.some_bind ?_))
 have:=orderOf_ev n hn f _ (by omega) (normalP_lt f hs hw)
 rw [hnl] at this
 exact Ev.bind this (Ev.now _)
theorem chainsFrom_l1 (n:Nat) (hn:n ≤ 24) (g:Nat → Nat → Bool) (xs:List Nat) (hx:xs.length = n) (hb:∀ j,xs.getD j 0 ≤ 100) (i:Nat) (hi:i < n) (ks:List Nat) (hks:∀ k ∈ ks,i < k ∧ k < n) (hkl:ks.length ≤ 64) (R:List Int)
  (hR:Ev (fun q=>impl_chainsFrom.l0 q (mat n g) (ints (xs.set i (topV (fun k=>xs.getD k 0) ks))) ((i:Int) - 1)) R) :
  ∀ (suf pre:List Nat),pre ++ suf = ks → topV (fun k=>xs.getD k 0) pre ≤ 101 → Ev (fun q=>impl_chainsFrom.l1 q (mat n g) (ints (xs.set i (topV (fun k=>xs.getD k 0) pre))) (i:Int) (ints ks) ((ints ks).length:Int) (pre.length:Int)) R:=by
 intro suf
 induction suf with
 | nil =>
  intro pre hp _
  rw [List.append_nil] at hp
  subst hp
  refine Ev.succ ?_
  simp only [impl_chainsFrom.l1]
  rw [w64' (show -9000000000000000000 ≤ (i:Int) - 1 ∧ (i:Int) - 1 ≤ 9000000000000000000 by omega)]
  exact Ev.neg (by simp) hR
 | cons b suf ih =>
  intro pre hp ht
  have hbk:=hks b (by rw [← hp];simp)
  have hlen:pre.length + suf.length + 1 = ks.length:=by rw [← hp];simp;omega
  have hbv:=hb b
  have i1:=ih (pre ++ [b]) (by simpa using hp) (by rw [topV_snoc];omega)
  rw [show (pre ++ [b]).length = pre.length + 1 by simp,topV_snoc] at i1
  have rb:rd (ints ks) (pre.length:Int) = (b:Int):=by rw [← hp];exact rd_mid pre suf b
  have r1:rd (ints (xs.set i (topV (fun k=>xs.getD k 0) pre))) (i:Int) = ((topV (fun k=>xs.getD k 0) pre:Nat):Int):=by
   rw [rd_getD,getD_set _ _ _ _ (by omega),if_pos rfl]
  have r2:rd (ints (xs.set i (topV (fun k=>xs.getD k 0) pre))) (b:Int) = ((xs.getD b 0:Nat):Int):=by
   rw [rd_getD,getD_set _ _ _ _ (by omega),if_neg (by omega)]
  refine Ev.succ ?_
  simp only [impl_chainsFrom.l1]
  refine Ev.pos (by simp;omega) (Ev.pos (by omega) (Ev.pos (by simp;omega) (Ev.pos (by omega) (Ev.pos (by simp;omega) ?_))))
  rw [rb,r1,r2]
  refine Ev.pos (by omega) (Ev.pos (by simp;omega) ?_)
  rw [w64' (show -9000000000000000000 ≤ ((xs.getD b 0:Nat):Int) + 1 ∧ ((xs.getD b 0:Nat):Int) + 1 ≤ 9000000000000000000 by omega),w64' (by omega),show mx ((topV (fun k=>xs.getD k 0) pre:Nat):Int) (((xs.getD b 0:Nat):Int) + 1) = ((max (topV (fun k=>xs.getD k 0) pre) (xs.getD b 0 + 1):Nat):Int) by unfold mx;split <;> omega,Int.toNat_natCast,ints_set,List.set_set]
  exact i1
theorem chainsFrom_l0 (n:Nat) (hn:n ≤ 24) (g:Nat → Nat → Bool) (hg:∀ i k,g i k = true → i ≤ k):∀ (i:Nat) (xs:List Nat),i ≤ n → xs.length = n → (∀ j,j < i → xs.getD j 0 = 0) → (∀ j,i ≤ j → j < n → ChainAt g n (fun k=>xs.getD k 0) j) →
  ∃ ys:List Nat,ys.length = n ∧ (∀ j,j < n → ChainAt g n (fun k=>ys.getD k 0) j) ∧ Ev (fun q=>impl_chainsFrom.l0 q (mat n g) (ints xs) ((i:Int) - 1)) (ints ys):=by
 have h24:=pow_lt62 hn
 intro i
 induction i with
 | zero =>
  intro xs _ hx _ hc
  refine ⟨xs,hx,fun j hj=>hc j (by omega) hj,Ev.succ ?_⟩
  simp only [impl_chainsFrom.l0]
  exact Ev.neg (by omega) (Ev.now _)
 | succ i ih =>
  intro xs hi hx h0 hc
  have hbd:∀ j,xs.getD j 0 ≤ 24:=fun j=>by
   by_cases h1:j < i + 1
   ·rw [h0 j h1];omega
   ·by_cases h2:j < n
    ·have:xs.getD j 0 ≤ n - j:=ChainAt.le hc (n - j - 1) j (by omega) (by omega)
     omega
    ·rw [List.getD_eq_getElem?_getD,List.getElem?_eq_none (by omega)];simp
  have hrow:=mk_lt n (fun k=>g i k && !decide (k = i))
  have hbits:∀ k,k ∈ bitsOf (mk n (fun k=>g i k && !decide (k = i))) ↔ k < n ∧ g i k = true ∧ k ≠ i:=fun k=>by
   rw [mem_bitsOf (by have:(2:Nat) ^ 62 < 2 ^ 64:=(by decide);omega),testBit_mk]
   simp
  have hks:∀ k ∈ bitsOf (mk n (fun k=>g i k && !decide (k = i))),i < k ∧ k < n:=fun k hk=>by
   obtain ⟨k1,k2,k3⟩:=(hbits k).1 hk
   have:=hg i k k2
   omega
  obtain ⟨t1,t2,t3⟩:=topV_spec (fun k=>xs.getD k 0) (bitsOf (mk n (fun k=>g i k && !decide (k = i))))
  have h64:=bitsOf_length (mk n (fun k=>g i k && !decide (k = i)))
  have hget:∀ v j,(xs.set i v).getD j 0 = if i = j then v else xs.getD j 0:=fun v j=>getD_set xs i j v (by omega)
  obtain ⟨ys,y1,y2,y3⟩:=ih (xs.set i (topV (fun k=>xs.getD k 0) (bitsOf (mk n (fun k=>g i k && !decide (k = i)))))) (by omega) (by simpa using hx) (fun j hj=>by rw [hget,if_neg (by omega)];exact h0 j (by omega)) (fun j hj hjn=>by
   by_cases e:i = j
   ·subst e
    refine ⟨?_,fun k k1 k2 k3=>?_,?_⟩
    ·simp only [hget,if_true];exact t1
    ·simp only [hget,if_true,if_neg (show ¬ i = k by omega)]
     exact t2 k ((hbits k).2 ⟨k2,k3,by omega⟩)
    ·simp only [hget,if_true]
     rcases t3 with t3 | ⟨k,k1,k2⟩
     ·exact .inl t3
     ·have hk:=hks k k1
      exact .inr ⟨k,hk.1,hk.2,((hbits k).1 k1).2.1,by rw [if_neg (by omega)];exact k2⟩
   ·obtain ⟨c1,c2,c3⟩:=hc j (by omega) hjn
    refine ⟨?_,fun k k1 k2 k3=>?_,?_⟩
    ·simp only [hget,if_neg e];exact c1
    ·simp only [hget,if_neg e,if_neg (show ¬ i = k by omega)]
     exact c2 k k1 k2 k3
    ·simp only [hget,if_neg e]
     rcases c3 with c3 | ⟨k,k1,k2,k3,k4⟩
     ·exact .inl c3
     ·exact .inr ⟨k,k1,k2,k3,by rw [if_neg (by omega)];exact k4⟩)
  refine ⟨ys,y1,y2,Ev.succ ?_⟩
  have l1:=chainsFrom_l1 n hn g xs hx (fun j=>by have:=hbd j;omega) i (by omega) _ hks h64 _ y3 (bitsOf (mk n (fun k=>g i k && !decide (k = i)))) [] rfl (by simp [topV])
  have e1:without (mk n (g i)) (2 ^ i) = mk n (fun k=>g i k && !decide (k = i)):=by
   refine bits_ext fun b=>?_
   rw [testBit_without _ _ _ (mk62 hn _) (two62 (by omega)),testBit_mk,testBit_mk,testBit_one]
   by_cases e:i = b
   ·subst e;simp
   ·simp [e,show ¬ b = i from fun h=>e h.symm]
  simp only [impl_chainsFrom.l0]
  rw [show ((i + 1:Nat):Int) - 1 = (i:Int) by omega]
  refine Ev.pos (by omega) (Ev.pos (by omega) (Ev.pos (by simp;omega) (Ev.pos (by simp;omega) ?_)))
  rw [one_eq i (by omega),rd_mat n g i (by omega)]
  refine Ev.some_bind ?_
  rw [b_andNot _ _ (mk62 hn _) (two62 (by omega)),e1,Int.toNat_natCast]
  refine Ev.bind (members_ev _ (by omega)) ?_
  rw [show (ints xs).set i 1 = ints (xs.set i 1) from ints_set xs i 1]
  exact l1
theorem chainsFrom_ev (n:Nat) (hn:n ≤ 24) (g:Nat → Nat → Bool) (hg:∀ i k,g i k = true → i ≤ k):∃ ys:List Nat,ys.length = n ∧ (∀ j,j < n → ChainAt g n (fun k=>ys.getD k 0) j) ∧ Ev (fun k=>impl_chainsFrom.f k (mat n g)) (ints ys):=by
 obtain ⟨ys,h1,h2,h3⟩:=chainsFrom_l0 n hn g hg n (List.replicate n 0) (Nat.le_refl n) (by simp) (fun j hj=>by simp [List.getD_eq_getElem?_getD,hj]) (fun j hj hjn=>by omega)
 refine ⟨ys,h1,h2,?_⟩
 simp only [impl_chainsFrom.f]
 refine Ev.pos (by omega) (Ev.pos (by simp;omega) ?_)
 rw [mat_length,w64' (by omega),Int.toNat_natCast]
 have e:ints (List.replicate n 0) = List.replicate n 0:=by simp [ints]
 rw [e] at h3
 exact h3
theorem check_ok {n:Nat} {D:List Int} (hA:Alpha (n:Int) D) (ws:List (List Int)) (h:∀ w ∈ ws,Word (n:Int) w):Ev (fun k=>impl_checkWords.f k (n:Int) D ws) 0:=by
 have:=checkWords_ev (n:Int) D ws
 rwa [if_pos hA,if_pos h] at this
theorem check_1 {n:Nat} {f:Nat → Nat → Bool} (hA:Alpha (n:Int) (mat n f)) {u:List Nat} (hl:u.length ≤ 24) (hu:∀ x ∈ u,x < n):Ev (fun k=>impl_checkWords.f k (n:Int) (mat n f) [ints u]) 0 :=
 check_ok hA _ fun w hw=>by rw [List.mem_singleton.1 hw];exact Word.of hl hu
theorem set_getD {α:Type} (X:List α) (i j:Nat) (x d:α) (hi:i < X.length):(X.set i x).getD j d = if j = i then x else X.getD j d:=by
 rw [List.getD_eq_getElem?_getD,List.getD_eq_getElem?_getD,List.getElem?_set]
 by_cases h:i = j
 ·subst h;simp [hi]
 ·rw [if_neg h,if_neg (fun e=>h e.symm)]
theorem chain_l1 (L:Nat → Nat) (g:Nat → Nat → Bool) (n:Nat) (hn:n ≤ 24) (hL:∀ i,i < n → ChainAt g n L i) (i:Nat) (hi:i < n) (out:List Int) (R:List Int × Int)
  (nxt:∀ X:List (List Int),X.length = n → (∀ j,i ≤ j → j < n → X.getD j [] = ints (bcP L g n j)) → Ev (fun q=>spec_LongestChain.l0 q (mat n g) X (if L i ≥ out.length then ints (bcP L g n i) else out) ((i:Int) - 1)) R) :
  ∀ (d k:Nat) (X:List (List Int)),k + d = n → i < k → X.length = n → (∀ j,i < j → j < n → X.getD j [] = ints (bcP L g n j)) → X.getD i [] = ints (curP L g n i (scU g i k)) → Ev (fun q=>spec_LongestChain.l1 q (mat n g) X out (i:Int) (k:Int)) R:=by
 have len:∀ j,j < n → (bcP L g n j).length = L j:=fun j hj=>bcP_length L g n hL (n - j - 1) j (by omega)
 have lle:∀ j,j < n → L j ≤ 24:=fun j hj=>by
  have:=ChainAt.le (i0:=0) (fun j _ hj=>hL j hj) (n - j - 1) j (by omega) (by omega)
  omega
 intro d
 induction d with
 | zero =>
  intro k X hk hik hX hj hc
  obtain rfl:k = n:=by omega
  have ec:curP L g k i (scU g i k) = bcP L g k i:=(bcP_eq L g k i hi).symm
  rw [ec] at hc
  refine Ev.succ ?_
  simp only [spec_LongestChain.l1]
  refine Ev.neg (by simp) (Ev.pos (by omega) (Ev.pos (by omega) ?_))
  have er:rd_L1 X (i:Int) = ints (bcP L g k i):=by simp only [rd_L1,Int.toNat_natCast];exact hc
  rw [er,ints_length,len i hi,w64' (by omega)]
  have nx:=nxt X hX (fun j h1 h2=>by
   by_cases e:j = i
   ·subst e;exact hc
   ·exact hj j (by omega) h2)
  refine Ev.ite (fun c=>?_) (fun c=>?_)
  ·rw [if_pos (by omega)] at nx;exact nx
  ·rw [if_neg (by omega)] at nx;exact nx
 | succ d ih =>
  intro k X hk hik hX hj hc
  have hkn:k < n:=by omega
  have hmk:=mk_lt n (g i)
  have h62:=pow_lt62 hn
  refine Ev.succ ?_
  simp only [spec_LongestChain.l1]
  refine Ev.pos (by simp;omega) (Ev.pos (by omega) (Ev.pos (by simp;omega) ?_))
  rw [rd_mat n g i hi,l01Bit_eq _ k (by omega) (by omega),testBit_mk]
  refine Ev.some_bind ?_
  rw [w64' (show -9000000000000000000 ≤ ((k:Int) + 1) ∧ ((k:Int) + 1) ≤ 9000000000000000000 by omega),show (k:Int) + 1 = ((k + 1:Nat):Int) by omega]
  have su:=scU_succ g i k hik
  by_cases c:g i k = true
  ·rw [if_pos c] at su
   refine Ev.pos (by simp [c,hkn]) (Ev.pos (by omega) (Ev.pos (by omega) (Ev.pos (by omega) ?_)))
   have ek:rd_L1 X (k:Int) = ints (bcP L g n k):=by simp only [rd_L1,Int.toNat_natCast];exact hj k hik hkn
   have ei:rd_L1 X (i:Int) = ints (curP L g n i (scU g i k)):=by simp only [rd_L1,Int.toNat_natCast];exact hc
   have lk:=lle k hkn
   rw [ek,ei,ints_length,ints_length,len k hkn,w64' (by omega),Int.toNat_natCast]
   have hlen:(curP L g n i (scU g i k)).length = match am L (scU g i k) with | none=>1 | some b=>L b + 1:=by
    unfold curP
    cases h:am L (scU g i k) with
    | none=>rfl
    | some b =>
     have hb:=(am_some L h).1
     simp only [scU,List.mem_filter,List.mem_range] at hb
     simp only [List.length_cons]
     rw [len b (by omega)]
   have good:curP L g n i (scU g i (k + 1)) = i :: bcP L g n k → Ev (fun q=>(some ([(i:Int)]:List Int)).bind fun y224=>if y224.length + L k < 17592186044416 then spec_LongestChain.l1 q (mat n g) (X.set i (y224 ++ ints (bcP L g n k))) out (i:Int) ((k + 1:Nat):Int) else none) R:=fun e=>by
    refine Ev.some_bind (Ev.pos (by simp;omega) ?_)
    refine ih (k + 1) _ (by omega) (by omega) (by simpa using hX) (fun j h1 h2=>?_) ?_
    ·rw [set_getD X i j _ _ (by omega),if_neg (by omega)]
     exact hj j h1 h2
    ·rw [set_getD X i i _ _ (by omega),if_pos rfl,e]
     rfl
   have keep:curP L g n i (scU g i (k + 1)) = curP L g n i (scU g i k) → Ev (fun q=>spec_LongestChain.l1 q (mat n g) X out (i:Int) ((k + 1:Nat):Int)) R:=fun e=>ih (k + 1) X (by omega) (by omega) hX hj (by rw [e];exact hc)
   have l1k:=(hL k hkn).1
   cases h:am L (scU g i k) with
   | none =>
    rw [h] at hlen
    simp only [] at hlen
    refine Ev.pos (by rw [hlen];omega) (good ?_)
    unfold curP
    rw [su,am_snoc,h]
    rfl
   | some b =>
    rw [h] at hlen
    simp only [] at hlen
    refine Ev.ite (fun c2=>good ?_) (fun c2=>keep ?_)
    ·rw [hlen] at c2
     unfold curP
     rw [su,am_snoc,h]
     simp only [amS]
     rw [if_pos (by omega)]
    ·rw [hlen] at c2
     unfold curP
     rw [su,am_snoc,h]
     simp only [amS]
     rw [if_neg (by omega)]
  ·rw [if_neg c] at su
   refine Ev.neg (by simp [c]) (ih (k + 1) X (by omega) (by omega) hX hj (by rw [su];exact hc))
def outP (L:Nat → Nat) (g:Nat → Nat → Bool) (n:Nat) (l:List Nat):List Nat:=match am L l with
 | none=>[]
 | some b=>bcP L g n b
theorem chain_l0 (L:Nat → Nat) (g:Nat → Nat → Bool) (n:Nat) (hn:n ≤ 24) (hL:∀ i,i < n → ChainAt g n L i):∀ (i:Nat) (X:List (List Int)),i ≤ n → X.length = n → (∀ j,i ≤ j → j < n → X.getD j [] = ints (bcP L g n j)) →
  Ev (fun q=>spec_LongestChain.l0 q (mat n g) X (ints (outP L g n ((List.range n).drop i))) ((i:Int) - 1)) (ints (outP L g n (List.range n)),0):=by
 have len:∀ j,j < n → (bcP L g n j).length = L j:=fun j hj=>bcP_length L g n hL (n - j - 1) j (by omega)
 have lle:∀ j,j < n → L j ≤ 24:=fun j hj=>by
  have:=ChainAt.le (i0:=0) (fun j _ hj=>hL j hj) (n - j - 1) j (by omega) (by omega)
  omega
 intro i
 induction i with
 | zero =>
  intro X _ hX hj
  refine Ev.succ ?_
  simp only [spec_LongestChain.l0]
  refine Ev.neg (by omega) ?_
  rw [List.drop_zero,l01Own_eq _ (by
   rw [ints_length]
   unfold outP
   cases h:am L (List.range n) with
   | none=>simp
   | some b =>
    have hb:=List.mem_range.1 (am_some L h).1
    have:=lle b hb
    simp only []
    rw [len b hb]
    omega)]
  exact Ev.some_bind (Ev.now _)
 | succ i ih =>
  intro X hi hX hj
  have hin:i < n:=by omega
  refine Ev.succ ?_
  simp only [spec_LongestChain.l0]
  rw [show ((i + 1:Nat):Int) - 1 = (i:Int) by omega,w64' (by omega),Int.toNat_natCast,show (i:Int) + 1 = ((i + 1:Nat):Int) by omega]
  refine Ev.pos (by omega) (Ev.pos (by omega) (Ev.pos (by omega) ?_))
  refine chain_l1 L g n hn hL i hin _ _ (fun X' hX' hj' => ?_) (n - (i + 1)) (i + 1) _ (by omega) (by omega) (by simpa using hX) (fun j h1 h2=>?_) ?_
  ·have:=ih X' (by omega) hX' hj'
   have e:(List.range n).drop i = i :: (List.range n).drop (i + 1):=by
    rw [List.drop_eq_getElem_cons (by simpa using hin)]
    simp
   have e2:ints (outP L g n ((List.range n).drop i)) = if L i ≥ (ints (outP L g n ((List.range n).drop (i + 1)))).length then ints (bcP L g n i) else ints (outP L g n ((List.range n).drop (i + 1))):=by
    rw [e]
    unfold outP
    rw [am_cons]
    cases h:am L ((List.range n).drop (i + 1)) with
    | none=>simp
    | some b =>
     have hb:=List.mem_range.1 (List.mem_of_mem_drop (am_some L h).1)
     simp only []
     rw [ints_length,len b hb]
     by_cases c:L i < L b
     ·rw [if_pos c,if_neg (by omega)]
     ·rw [if_neg c,if_pos (by omega)]
   rw [e2] at this
   exact this
  ·rw [set_getD X i j _ _ (by omega),if_neg (by omega)]
   exact hj j h1 h2
  ·rw [set_getD X i i _ _ (by omega),if_pos rfl,scU_start]
   rfl
theorem bitsOf_nil {M:Nat} (h:M < 2 ^ 62) (h0:bitsOf M = []):M = 0:=by
 by_cases c:M = 0
 ·exact c
 ·rw [bitsOf_cons M c (by omega)] at h0
  cases h0
theorem longest_l0 (L:List Nat) (g:Nat → Nat → Bool) (n:Nat) (hn:n ≤ 24) (hl:L.length = n) (hg:∀ i k,g i k = true → i ≤ k):∀ (f i0 M:Nat) (out:List Nat),M < 2 ^ n → (∀ k ∈ bitsOf M,i0 ≤ k ∧ k < n) → n ≤ f + i0 → out.length + (n - i0) ≤ 1000 →
  Ev (fun q=>impl_LongestChain.l0 q (mat n g) (ints L) (ints out) (M:Int)) (ints (out ++ chF (fun j=>L.getD j 0) (scP g n) f (bitsOf M)),0):=by
 have h62:=pow_lt62 hn
 intro f
 induction f with
 | zero =>
  intro i0 M out hM hb hf ho
  have e:bitsOf M = []:=List.eq_nil_iff_forall_not_mem.2 (fun k hk=>by have:=hb k hk;omega)
  have e0:=bitsOf_nil (by omega) e
  subst e0
  refine Ev.succ ?_
  simp only [impl_LongestChain.l0]
  refine Ev.pos rfl ?_
  simp only [chF,List.append_nil]
  exact Ev.now _
 | succ f ih =>
  intro i0 M out hM hb hf ho
  refine Ev.succ ?_
  simp only [impl_LongestChain.l0]
  by_cases h0:M = 0
  ·subst h0
   refine Ev.pos rfl ?_
   rw [bitsOf_zero]
   simp only [chF,am,List.foldl_nil,List.append_nil]
   exact Ev.now _
  ·refine Ev.neg (by omega) ?_
   rw [least_eq M (by omega)]
   refine Ev.some_bind (Ev.bind (members_ev M (by omega)) ?_)
   have hc:=bitsOf_cons M h0 (by omega)
   generalize hh:Lib.ctz 64 M = h at hc ⊢
   have hne:am (fun j=>L.getD j 0) (bitsOf M) ≠ none:=fun z=>by rw [(am_none _).1 z] at hc;cases hc
   obtain ⟨b,hbm⟩:=Option.ne_none_iff_exists'.1 hne
   have hbb:=hb b (am_some _ hbm).1
   have inner:∀ (suf pre:List Nat),pre ++ suf = bitsOf M → Ev (fun q=>impl_LongestChain.l1 q (mat n g) (ints L) (ints out) (((match am (fun j=>L.getD j 0) pre with | none=>h | some b=>b):Nat):Int) (ints (bitsOf M)) ((ints (bitsOf M)).length:Int) (pre.length:Int)) (ints (out ++ b :: chF (fun j=>L.getD j 0) (scP g n) f (scP g n b)),0):=by
    intro suf
    induction suf with
    | nil =>
     intro pre hp
     rw [List.append_nil] at hp
     subst hp
     rw [hbm]
     simp only []
     refine Ev.succ ?_
     simp only [impl_LongestChain.l1]
     refine Ev.neg (by rw [ints_length];omega) (Ev.pos (by rw [ints_length];omega) (Ev.pos (by omega) (Ev.pos (by simp;omega) ?_)))
     rw [one_eq b (by omega),rd_mat n g b hbb.2]
     refine Ev.some_bind ?_
     have e1:without (mk n (g b)) (2 ^ b) = mk n (fun k=>decide (b < k) && g b k):=by
      refine bits_ext fun i=>?_
      rw [testBit_without _ _ _ (mk62 hn _) (two62 (by omega)),testBit_mk,testBit_mk,testBit_one]
      by_cases c:g b i = true
      ·have:=hg b i c
       by_cases e:b = i
       ·subst e;simp
       ·simp [e,c,show b < i by omega]
      ·simp [c]
     rw [b_andNot _ _ (mk62 hn _) (two62 (by omega)),e1]
     have hlt:=mk_lt n (fun k=>decide (b < k) && g b k)
     have e2:bitsOf (mk n fun k=>decide (b < k) && g b k) = scP g n b:=by
      rw [bitsOf_range hlt (by omega)]
      unfold scP
      exact List.filter_congr (fun k hk=>by rw [testBit_mk];simp [List.mem_range.1 hk])
     have:=ih (b + 1) (mk n fun k=>decide (b < k) && g b k) (out ++ [b]) hlt (fun k hk=>by rw [e2] at hk;have:=scP_mem.1 hk;omega) (by omega) (by simp;omega)
     rw [e2,List.append_assoc,ints_append] at this
     exact this
    | cons k suf ihs =>
     intro pre hp
     have hk:k ∈ bitsOf M:=by rw [← hp];simp
     have hkb:=hb k hk
     have hlen:(ints (bitsOf M)).length = pre.length + (suf.length + 1):=by rw [ints_length,← hp];simp
     have hrd:rd (ints (bitsOf M)) (pre.length:Int) = (k:Int):=by rw [← hp];exact rd_mid pre suf k
     have nx:=ihs (pre ++ [k]) (by simpa using hp)
     rw [am_snoc,List.length_append,List.length_singleton] at nx
     have h64:=bitsOf_length M
     rw [ints_length] at hlen
     refine Ev.succ ?_
     simp only [impl_LongestChain.l1]
     rw [hrd]
     have hcur:(match am (fun j=>L.getD j 0) pre with | none=>h | some b=>b) < n:=by
      cases hq:am (fun j=>L.getD j 0) pre with
      | none=>exact (hb h (by rw [hc];exact List.mem_cons_self ..)).2
      | some c=>exact (hb c (by rw [← hp];exact List.mem_append_left _ (am_some _ hq).1)).2
     refine Ev.pos (by rw [ints_length];omega) (Ev.pos (by omega) (Ev.pos (by rw [ints_length];omega) (Ev.pos (by omega) (Ev.pos (by rw [ints_length];omega) (Ev.pos (by omega) (Ev.pos (by rw [ints_length];omega) ?_))))))
     rw [rd_getD,rd_getD,w64' (by omega),show (pre.length:Int) + 1 = ((pre.length + 1:Nat):Int) by omega]
     cases hq:am (fun j=>L.getD j 0) pre with
     | none =>
      have:pre = []:=(am_none _).1 hq
      subst this
      rw [hq] at nx
      simp only [amS] at nx
      simp only []
      have ek:k = h:=by
       rw [List.nil_append] at hp
       rw [hc] at hp
       exact (List.cons.inj hp).1
      subst ek
      refine Ev.neg (by omega) nx
     | some c =>
      rw [hq] at nx
      simp only [amS] at nx
      simp only []
      by_cases cc:L.getD c 0 < L.getD k 0
      ·rw [if_pos cc] at nx
       exact Ev.pos (by omega) nx
      ·rw [if_neg cc] at nx
       exact Ev.neg (by omega) nx
   have:=inner (bitsOf M) [] rfl
   simp only [am,List.foldl_nil,List.length_nil] at this
   rw [show chF (fun j=>L.getD j 0) (scP g n) (f + 1) (bitsOf M) = b :: chF (fun j=>L.getD j 0) (scP g n) f (scP g n b) from by simp only [chF];rw [hbm]]
   exact this
theorem LongestChain_both (n:Int) (D l1:List Int):∃ r:List Int × Int,r.1.length ≤ 100000 ∧ Ev (fun k=>spec_LongestChain.f k n D l1) r ∧ Ev (fun k=>impl_LongestChain.f k n D l1) r ∧
  (r.2 = 0 → ∃ (m:Nat) (f:Nat → Nat → Bool) (u:List Nat) (L:Nat → Nat),n = (m:Int) ∧ D = mat m f ∧ l1 = ints u ∧ m ≤ 8 ∧ (∀ a b,f a b = f b a) ∧ (∀ a,a < m → f a a = true) ∧ u.length ≤ 24 ∧ (∀ x ∈ u,x < m) ∧ Alpha n D ∧ (∀ i,i < u.length → ChainAt (ordP f (normalP f m u)) u.length L i) ∧ r.1 = ints (outP L (ordP f (normalP f m u)) u.length (List.range u.length))):=by
 have hc:=l03Code_ev n D l1 l1
 simp only [and_self] at hc
 have hk:=checkWords_ev n D [l1]
 have e:(∀ x ∈ [l1],Word n x) ↔ Word n l1:=by simp
 simp only [e] at hk
 by_cases hA:Alpha n D
 ·by_cases hW:Word n l1
  ·rw [if_pos hA,if_pos hW] at hc hk
   have hA' := hA
   obtain ⟨m,f,rfl,rfl,hm,hs,hr⟩:=hA.form
   obtain ⟨u,rfl,hul,hu⟩:=hW.form
   have h1:=l04Code_ok m hm f hs u hul hu hc
   have h2:=positions_ev m hm f hs u hul hu
   have hle:∀ i k,ordP f (normalP f m u) i k = true → i ≤ k:=fun i k h=>clos_le (n:=(normalP f m u).length) (fun i k h=>(eP_lt h).1) h
   obtain ⟨ys,y1,y2,y3⟩:=chainsFrom_ev u.length hul (ordP f (normalP f m u)) hle
   have hpos:=Nat.two_pow_pos u.length
   have h24:=pow_lt62 hul
   have hlen:(outP (fun j=>ys.getD j 0) (ordP f (normalP f m u)) u.length (List.range u.length)).length ≤ 24:=by
    unfold outP
    cases h:am (fun j=>ys.getD j 0) (List.range u.length) with
    | none=>simp
    | some b =>
     have hb:=List.mem_range.1 (am_some _ h).1
     simp only []
     rw [bcP_length _ _ _ y2 (u.length - b - 1) b (by omega)]
     have:=ChainAt.le (i0:=0) (fun j _ hj=>y2 j hj) (u.length - b - 1) b (by omega) (by omega)
     omega
   refine ⟨(ints (outP (fun j=>ys.getD j 0) (ordP f (normalP f m u)) u.length (List.range u.length)),0),by rw [ints_length];omega,?_,?_,fun _=>⟨m,f,u,fun j=>ys.getD j 0,rfl,rfl,rfl,hm,hs,hr,hul,hu,hA', y2,rfl⟩⟩
   ·simp only [spec_LongestChain.f]
    refine Ev.bind h1 (Ev.pos rfl ?_)
    simp only []
    rw [mat_length]
    refine Ev.pos (by omega) (Ev.pos (by omega) ?_)
    rw [Int.toNat_natCast,w64' (by omega)]
    have:=chain_l0 (fun j=>ys.getD j 0) (ordP f (normalP f m u)) u.length hul y2 u.length (List.replicate u.length []) (Nat.le_refl _) (by simp) (fun j h1 h2=>by omega)
    rw [List.drop_eq_nil_of_le (by simp)] at this
    exact this
   ·simp only [impl_LongestChain.f,impl_length_int64.f]
    refine Ev.bind hk (Ev.pos rfl (Ev.bind h2 (Ev.bind y3 (Ev.some_bind ?_))))
    rw [ints_length,one_eq u.length (by omega)]
    refine Ev.some_bind ?_
    rw [w64' (by omega),show ((2 ^ u.length:Nat):Int) - 1 = ((2 ^ u.length - 1:Nat):Int) by omega]
    have eb:bitsOf (2 ^ u.length - 1) = List.range u.length:=by
     rw [bitsOf_range (n:=u.length) (by omega) (by omega)]
     exact List.filter_eq_self.2 (fun k hk=>by rw [testBit_full];simpa using hk)
    have:=longest_l0 ys (ordP f (normalP f m u)) u.length hul y1 hle u.length 0 (2 ^ u.length - 1) [] (by omega) (fun k hk=>by rw [eb] at hk;exact ⟨by omega,List.mem_range.1 hk⟩) (by omega) (by simp;omega)
    rw [eb,List.nil_append] at this
    have ef:chF (fun j=>ys.getD j 0) (scP (ordP f (normalP f m u)) u.length) u.length (List.range u.length) = outP (fun j=>ys.getD j 0) (ordP f (normalP f m u)) u.length (List.range u.length):=by
     unfold outP
     cases hh:am (fun j=>ys.getD j 0) (List.range u.length) with
     | none =>
      have hz:=(am_none _).1 hh
      cases hu0:u.length with
      | zero=>rfl
      | succ q=>rw [hu0] at hz;simp at hz
     | some b =>
      have hb:=List.mem_range.1 (am_some _ hh).1
      obtain ⟨q,hq⟩:∃ q,u.length = q + 1:=⟨u.length - 1,by omega⟩
      have:chF (fun j=>ys.getD j 0) (scP (ordP f (normalP f m u)) u.length) (q + 1) (List.range u.length) = b :: chF (fun j=>ys.getD j 0) (scP (ordP f (normalP f m u)) u.length) q (scP (ordP f (normalP f m u)) u.length b):=by simp only [chF];rw [hh]
      rw [show chF (fun j=>ys.getD j 0) (scP (ordP f (normalP f m u)) u.length) u.length (List.range u.length) = chF (fun j=>ys.getD j 0) (scP (ordP f (normalP f m u)) u.length) (q + 1) (List.range u.length) by rw [← hq],this]
      unfold bcP
      simp only []
      rw [chF_fuel _ _ u.length (fun i k hk=>⟨(scP_mem.1 hk).2.1,(scP_mem.1 hk).1⟩) q u.length (b + 1) _ (fun k hk=>⟨(scP_mem.1 hk).2.1,(scP_mem.1 hk).1⟩) (by omega) (by omega)]
    rw [ef] at this
    exact this
  ·rw [if_pos hA,if_neg hW] at hc hk
   refine ⟨([],2),by simp,?_,?_,fun h=>by cases h⟩
   ·simp only [spec_LongestChain.f]
    exact Ev.bind (l04Code_bad n D l1 2 (by decide) hc) (Ev.neg (by decide) (Ev.now _))
   ·simp only [impl_LongestChain.f]
    exact Ev.bind hk (Ev.neg (by decide) (Ev.now _))
 ·rw [if_neg hA] at hc hk
  refine ⟨([],1),by simp,?_,?_,fun h=>by cases h⟩
  ·simp only [spec_LongestChain.f]
   exact Ev.bind (l04Code_bad n D l1 1 (by decide) hc) (Ev.neg (by decide) (Ev.now _))
  ·simp only [impl_LongestChain.f]
   exact Ev.bind hk (Ev.neg (by decide) (Ev.now _))
end Go.Proofs.YtpenijicdldipaaDoor.PAll
