import Derived.Test.YtemdfjdmokbcoaaGreatDoorPAllx0
import Derived.Test.YtemdfjdmokbcoaaGreatDoorPAllx1
import Derived.Test.YtemdfjdmokbcoaaGreatDoorPAllx10
import Derived.Test.YtemdfjdmokbcoaaGreatDoorPAllx11
import Derived.Test.YtemdfjdmokbcoaaGreatDoorPAllx2
import Derived.Test.YtemdfjdmokbcoaaGreatDoorPAllx3
import Derived.Test.YtemdfjdmokbcoaaGreatDoorPAllx6
import Derived.Test.YtemdfjdmokbcoaaGreatDoorPAllx7
import Derived.Test.YtemdfjdmokbcoaaGreatDoorPAllx8
import Derived.Test.YtemdfjdmokbcoaaGreatDoorPAllx9
import Derived.Test.YtemdfjdmokbcoaaGreatDoorV0
import Derived.Test.YtemdfjdmokbcoaaGreatDoorQBase
import Derived.Test.YtemdfjdmokbcoaaGreatDoorQCF
import Derived.Test.YtemdfjdmokbcoaaGreatDoorQConj
import Derived.Test.YtemdfjdmokbcoaaGreatDoorQCount
import Derived.Test.YtemdfjdmokbcoaaGreatDoorQDraw
import Derived.Test.YtemdfjdmokbcoaaGreatDoorQFoata
import Derived.Test.YtemdfjdmokbcoaaGreatDoorQForm
import Derived.Test.YtemdfjdmokbcoaaGreatDoorQGrid
import Derived.Test.YtemdfjdmokbcoaaGreatDoorQHeight
import Derived.Test.YtemdfjdmokbcoaaGreatDoorQHgt
import Derived.Test.YtemdfjdmokbcoaaGreatDoorQInv
import Derived.Test.YtemdfjdmokbcoaaGreatDoorQMask
import Derived.Test.YtemdfjdmokbcoaaGreatDoorQMeet
import Derived.Test.YtemdfjdmokbcoaaGreatDoorQOrder
import Derived.Test.YtemdfjdmokbcoaaGreatDoorQParts
import Derived.Test.YtemdfjdmokbcoaaGreatDoorQProd
import Derived.Test.YtemdfjdmokbcoaaGreatDoorQRev
import Derived.Test.YtemdfjdmokbcoaaGreatDoorQShort
import Derived.Test.YtemdfjdmokbcoaaGreatDoorQTrace
set_option linter.unusedVariables false
set_option linter.unusedSimpArgs false
namespace Go.Proofs.YtemdfjdmokbcoaaGreatDoor.PAll
open Go.RowKit Go.Proofs.YtemdfjdmokbcoaaGreatDoorW.PrintWords Go.Proofs.YtemdfjdmokbcoaaGreatDoorW.PrintMore Go.Proofs.YtemdfjdmokbcoaaGreatDoor.Q
theorem l01In_eq (a lo hi:Int):spec_l01In.f a lo hi = some (decide (lo ≤ a ∧ a ≤ hi)):=by
  unfold spec_l01In.f
  by_cases h:lo ≤ a
  · rw [if_pos h];simp [h]
  · rw [if_neg h];simp [h]
theorem inRange_eq (a lo hi:Int):impl_inRange.f a lo hi = some (decide (lo ≤ a ∧ a ≤ hi)):=by
  unfold impl_inRange.f
  by_cases h:lo ≤ a
  · rw [if_pos h];simp [h]
  · rw [if_neg h];simp [h]
theorem l01One_eq (n:Nat) (h:n ≤ 61):spec_l01One.f (n:Int) = some ((2 ^ n:Nat):Int):=by
  unfold spec_l01One.f
  rw [u64_nat n (by omega),if_pos (by omega),shl_one n h]
theorem l01Full_eq (n:Nat) (h:n ≤ 61):spec_l01Full.f (n:Int) = some ((2 ^ n - 1:Nat):Int):=by
  unfold spec_l01Full.f
  rw [l01One_eq n h]
  have h1:0 < 2 ^ n:=Nat.two_pow_pos n
  have h2:(2:Nat) ^ n ≤ 2 ^ 61:=Nat.pow_le_pow_right (by decide) h
  simp only [Option.bind_some]
  rw [w64' (by omega)]
  congr 1
  omega
theorem l01Bit_eq (m i:Nat) (hm:m < 2 ^ 62) (h:i ≤ 64):spec_l01Bit.f (m:Int) (i:Int) = some (m.testBit i):=by
  unfold spec_l01Bit.f
  rw [u64_nat i (by omega),if_pos (by omega),bit_at m i hm h]
theorem one_eq (n:Nat) (h:n ≤ 61):impl_one.f (n:Int) = some ((2 ^ n:Nat):Int):=by
  unfold impl_one.f
  rw [if_pos (by omega),shl_one n h]
theorem has_eq (m i:Nat) (hm:m < 2 ^ 62) (h:i ≤ 64):impl_has.f (m:Int) (i:Int) = some (m.testBit i):=by
  unfold impl_has.f
  rw [if_pos (by omega),bit_at m i hm h]
theorem least_eq (m:Nat) (hm:m < 2 ^ 62):impl_least.f (m:Int) = some ((Lib.ctz 64 m:Nat):Int):=by
  unfold impl_least.f bits_TrailingZeros64.f
  rw [u64_nat m (by omega),if_pos (by omega),Int.toNat_natCast]
  rfl
theorem members_l0:∀ (N m:Nat) (acc:List Int),m ≤ N → m < 2 ^ 62 → acc.length + (bitsOf m).length ≤ 1000 → Ev (fun k=>impl_members.l0 k (m:Int) acc) (acc ++ intsOf m):=by
  intro N
  induction N with
  | zero =>
    intro m acc hN hm hl
    obtain rfl:m = 0:=by omega
    refine Ev.succ ?_
    simp only [impl_members.l0]
    refine Ev.pos (by simp) (Ev.const ?_)
    simp [intsOf,bitsOf_zero]
  | succ N ih =>
    intro m acc hN hm hl
    refine Ev.succ ?_
    simp only [impl_members.l0]
    by_cases h0:m = 0
    · subst h0
      refine Ev.pos (by simp) (Ev.const ?_)
      simp [intsOf,bitsOf_zero]
    · rw [bitsOf_cons m h0 (by omega)] at hl
      simp only [List.length_cons] at hl
      refine Ev.neg (by omega) ?_
      rw [least_eq m hm]
      refine Ev.some_bind (Ev.pos (by omega) ?_)
      have hlt:=and_pred_lt m h0
      rw [w64' (by omega),show (m:Int) - 1 = ((m - 1:Nat):Int) by omega,b_and m (m - 1) hm (by omega)]
      refine Ev.val (ih (m &&& (m - 1)) (acc ++ [((Lib.ctz 64 m:Nat):Int)]) (by omega) (by omega) (by simp;omega)) ?_
      unfold intsOf
      rw [bitsOf_cons m h0 (by omega)]
      simp
theorem bitsOf_length (m:Nat):(bitsOf m).length ≤ 64:=by
  unfold bitsOf
  have:=List.length_filter_le (fun i=>m.testBit i) (List.range 64)
  simpa using this
theorem members_ev (m:Nat) (hm:m < 2 ^ 62):Ev (fun k=>impl_members.f k (m:Int)) (intsOf m):=by
  simp only [impl_members.f]
  exact Ev.val (members_l0 m m [] (Nat.le_refl _) hm (by have:=bitsOf_length m;simp;omega)) (by simp)
theorem l01Masks_l0 (n : Nat) (hn : n ≤ 61) (l : List Int) (hl : l.length ≤ 17592186044416) : ∀ (d i : Nat), i + d = l.length → (∀ j (h : j < l.length), j < i → 0 ≤ l[j] ∧ l[j] ≤ ((2 ^ n - 1 : Nat) : Int)) →
    Ev (fun k=>spec_l01Masks.l0 k (n:Int) l i) (decide (∀ x ∈ l,0 ≤ x ∧ x ≤ ((2 ^ n - 1:Nat):Int))):=by
  intro d
  induction d with
  | zero =>
    intro i hi hp
    refine Ev.succ ?_
    simp only [spec_l01Masks.l0]
    refine Ev.neg (by omega) (Ev.const ?_)
    rw [decide_eq_true fun x hx=>?_]
    obtain ⟨j,hj,rfl⟩:=List.getElem_of_mem hx
    exact hp j hj (by omega)
  | succ d ih =>
    intro i hi hp
    refine Ev.succ ?_
    simp only [spec_l01Masks.l0,l01Full_eq n hn,l01In_eq]
    refine Ev.pos (by omega) (Ev.pos (by omega) (Ev.some_bind (Ev.some_bind ?_)))
    rw [rd_lt l i (by omega)]
    simp only [decide_eq_true_eq]
    refine Ev.ite (fun c=>?_) (fun c=>?_)
    · rw [w64' (by omega)]
      refine ih (i + 1) (by omega) (fun j h hji=>?_)
      by_cases e:j = i
      · subst e;exact c
      · exact hp j h (by omega)
    · refine Ev.const ?_
      rw [decide_eq_false fun h=>c (h _ (List.getElem_mem (by omega)))]
theorem l01Masks_ev (n:Nat) (hn:n ≤ 61) (l:List Int) (hl:l.length ≤ 17592186044416):Ev (fun k=>spec_l01Masks.f k (n:Int) l) (decide (∀ x ∈ l,0 ≤ x ∧ x ≤ ((2 ^ n - 1:Nat):Int))):=by
  simp only [spec_l01Masks.f]
  exact l01Masks_l0 n hn l hl l.length 0 (by omega) (by intro j h hj;omega)
theorem l02Is_loop (m : Nat) (hm : m ≤ 8) (f : Nat → Nat → Bool) : ∀ (d a : Nat), a + d = m → (∀ i, i < a → f i i = true ∧ ∀ k, k < m → f i k = f k i) →
    Ev (fun k=>spec_l02Is.l0 k (a:Int) (m:Int) (mat m f)) (decide (∀ i,i < m → f i i = true ∧ ∀ k,k < m → f i k = f k i)):=by
  intro d
  induction d with
  | zero =>
    intro a ha hp
    refine Ev.succ ?_
    simp only [spec_l02Is.l0]
    refine Ev.neg (by omega) (Ev.const ?_)
    rw [decide_eq_true fun i hi=>hp i (by omega)]
  | succ d ih =>
    intro a ha hp
    have hb:∀ i k,i < m → k < m → spec_l01Bit.f (rd (mat m f) (i:Int)) (k:Int) = some (f i k):=fun i k hi hk=>by
      rw [rd_mat m f i hi,l01Bit_eq _ k (by have:=mk_lt m (f i);have:=pow24 (show m ≤ 24 by omega);omega) (by omega),testBit_mk]
      simp [hk]
    refine Ev.succ ?_
    simp only [spec_l02Is.l0]
    refine Ev.pos (by omega) (Ev.pos (by omega) (Ev.pos (by simp;omega) ?_))
    rw [hb a a (by omega) (by omega)]
    refine Ev.some_bind ?_
    by_cases c:f a a = true
    · refine Ev.pos c ?_
      have inner:∀ (e b:Nat),b + e = m → (∀ k,k < b → f a k = f k a) → Ev (fun k=>spec_l02Is.l1 k (a:Int) (b:Int) (m:Int) (mat m f)) (decide (∀ i,i < m → f i i = true ∧ ∀ k,k < m → f i k = f k i)):=by
        intro e
        induction e with
        | zero =>
          intro b hbe hq
          refine Ev.succ ?_
          simp only [spec_l02Is.l1]
          refine Ev.neg (by omega) ?_
          rw [w64' (by omega)]
          refine ih (a + 1) (by omega) (fun i hi=>?_)
          by_cases e:i = a
          · subst e;exact ⟨c,fun k hk=>hq k (by omega)⟩
          · exact hp i (by omega)
        | succ e ihe =>
          intro b hbe hq
          refine Ev.succ ?_
          simp only [spec_l02Is.l1]
          refine Ev.pos (by omega) (Ev.pos (by omega) (Ev.pos (by simp;omega) ?_))
          rw [hb a b (by omega) (by omega)]
          refine Ev.some_bind (Ev.pos (by omega) (Ev.pos (by simp;omega) ?_))
          rw [hb b a (by omega) (by omega)]
          refine Ev.some_bind ?_
          by_cases g:f a b = f b a
          · refine Ev.neg (by rw [g];simp) ?_
            rw [w64' (by omega)]
            refine ihe (b + 1) (by omega) (fun k hk=>?_)
            by_cases e:k = b
            · subst e;exact g
            · exact hq k (by omega)
          · refine Ev.pos (by simpa using g) (Ev.const ?_)
            rw [decide_eq_false fun h=>g ((h a (by omega)).2 b (by omega))]
      exact inner m 0 (by omega) (by intro k hk;omega)
    · refine Ev.neg c (Ev.const ?_)
      rw [decide_eq_false fun h=>c (h a (by omega)).1]
theorem l02Is_ev (n:Int) (D:List Int):Ev (fun k=>spec_l02Is.f k n D) (decide (Alpha n D)):=by
  have hj:∀ n D,¬ Alpha n D → Ev (fun k=>spec_l02Is.j0 k true n D) (decide (Alpha n D)):=fun n D h=>by
    refine Ev.succ ?_
    simp only [spec_l02Is.j0]
    exact Ev.pos (by simp) (Ev.const (by rw [decide_eq_false h]))
  simp only [spec_l02Is.f,l01In_eq]
  refine Ev.some_bind ?_
  simp only [decide_eq_true_eq]
  refine Ev.ite (fun c1=>?_) (fun c1=>hj n D fun h=>c1 h.1)
  refine Ev.ite (fun c2=>?_) (fun c2=>hj n D fun h=>c2 h.2.1)
  obtain ⟨m,rfl⟩:=Int.eq_ofNat_of_zero_le c1.1
  have hl:D.length = m:=by omega
  have h1:0 < 2 ^ m:=Nat.two_pow_pos m
  refine Ev.bind (l01Masks_ev m (by omega) D (by omega)) ?_
  refine Ev.succ ?_
  simp only [spec_l02Is.j0]
  by_cases c3:∀ x ∈ D,0 ≤ x ∧ x ≤ ((2 ^ m - 1:Nat):Int)
  · have c3' : ∀ x ∈ D,0 ≤ x ∧ x < ((2 ^ D.length:Nat):Int):=fun x hx=>by have:=c3 x hx;rw [hl];omega
    have e:D = mat m (bitR D):=by have:=eq_mat D c3'; rwa [hl] at this
    refine Ev.neg (by simpa using c3) ?_
    have:=l02Is_loop m (by omega) (bitR D) m 0 (by omega) (by intro i hi;omega)
    rw [← e] at this
    refine Ev.val this ?_
    rw [decide_eq_decide]
    exact ⟨fun h=>⟨c1,c2,c3', fun a ha=>⟨(h a (by omega)).1,fun b hb=>(h a (by omega)).2 b (by omega)⟩⟩,fun h a ha=>⟨(h.2.2.2 a (by omega)).1,fun b hb=>(h.2.2.2 a (by omega)).2 b (by omega)⟩⟩
  · refine Ev.pos (by simpa using c3) (Ev.const ?_)
    rw [decide_eq_false fun h=>c3 fun x hx=>?_]
    have:=h.2.2.1 x hx
    rw [hl] at this
    omega
theorem IsRelation_eq (r:List Int):impl_IsRelation.f r = some (decide (r.length ≤ 24 ∧ ∀ x ∈ r,0 ≤ x ∧ x < ((2 ^ r.length:Nat):Int))):=by
  unfold impl_IsRelation.f
  by_cases h:r.length ≤ 24
  · have h1:0 < 2 ^ r.length:=Nat.two_pow_pos _
    have h2:=pow24 h
    rw [if_pos (by omega)]
    simp only [impl_length_int64.f,Option.bind_some,one_eq r.length (by omega),impl_allIn.f]
    rw [w64' (by omega)]
    congr 1
    rw [Bool.eq_iff_iff]
    simp only [List.all_eq_true,decide_eq_true_eq]
    exact ⟨fun g=>⟨h,fun x hx=>by have:=g x hx;omega⟩,fun g x hx=>by have:=g.2 x hx;omega⟩
  · rw [if_neg (by omega)]
    congr 1
    symm
    rw [decide_eq_false fun g=>h g.1]
theorem converse_l1 (n : Nat) (hn : n ≤ 24) (r : List Int) (i : Nat) (hi : i < n) (L : Int) (R : List Int) (ms : List Nat) (hml : ms.length ≤ 64) (hms : ∀ x ∈ ms, x < n) :
    ∀ (d j:Nat) (g:Nat → Nat → Bool),j + d = ms.length → (Ev (fun k=>impl_converse.l0 k (mat n fun a b=>g a b || (decide (b = i) && decide (a ∈ ms.drop j))) r L ((i + 1:Nat):Int)) R) →
    Ev (fun k=>impl_converse.l1 k (mat n g) (i:Int) r L (i:Int) (ints ms) (ms.length:Int) (j:Int)) R:=by
  intro d
  induction d with
  | zero =>
    intro j g hj hR
    refine Ev.succ ?_
    simp only [impl_converse.l1]
    refine Ev.neg (by omega) ?_
    rw [w64' (by omega)]
    rw [List.drop_of_length_le (by omega)] at hR
    simpa using hR
  | succ d ih =>
    intro j g hj hR
    have hj' : j < ms.length:=by omega
    have hx:=hms _ (List.getElem_mem hj')
    refine Ev.succ ?_
    simp only [impl_converse.l1]
    refine Ev.pos (by omega) (Ev.pos (by omega) (Ev.pos (by simp;omega) ?_))
    rw [rd_ints ms j hj']
    refine Ev.pos (by omega) (Ev.pos (by simp;omega) ?_)
    rw [one_eq i (by omega),rd_mat n g _ hx]
    refine Ev.some_bind ?_
    have hg:=mk_lt n (g ms[j])
    have h24:=pow24 hn
    have hp:(2:Nat) ^ i < 2 ^ n:=Nat.pow_lt_pow_right (by decide) hi
    rw [b_or _ _ (by omega) (by omega),w64' (by omega)]
    have e:(mat n g).set ((ms[j]:Int)).toNat (((mk n (g ms[j]) ||| 2 ^ i:Nat)):Int) = mat n fun a b=>g a b || (decide (b = i) && decide (a = ms[j])):=by
      rw [Int.toNat_natCast]
      apply List.ext_getElem
      · simp
      · intro q h1 h2
        have hq:q < n:=by simpa using h1
        rw [List.getElem_set]
        by_cases e:ms[j] = q
        · rw [if_pos e]
          simp only [mat,List.getElem_map,List.getElem_range]
          congr 1
          refine bits_ext fun b=>?_
          rw [Nat.testBit_or,testBit_mk,testBit_mk,testBit_one,← e]
          by_cases hb:b = i
          · subst hb;simp [hi]
          · simp [hb,show ¬ i = b from fun h=>hb h.symm]
        · rw [if_neg e]
          simp only [mat,List.getElem_map,List.getElem_range]
          congr 1
          exact mk_congr fun b _=>by simp [show ¬ q = ms[j] from fun h=>e h.symm]
    rw [e]
    refine ih (j + 1) _ (by omega) ?_
    have e2:(fun a b=>(g a b || (decide (b = i) && decide (a = ms[j]))) || (decide (b = i) && decide (a ∈ ms.drop (j + 1)))) = fun a b=>g a b || (decide (b = i) && decide (a ∈ ms.drop j)):=by
      funext a b
      have hm:a ∈ ms.drop j ↔ a = ms[j] ∨ a ∈ ms.drop (j + 1):=by rw [List.drop_eq_getElem_cons hj', List.mem_cons]
      rw [Bool.eq_iff_iff]
      simp only [Bool.or_eq_true,Bool.and_eq_true,decide_eq_true_eq,hm]
      constructor
      · rintro ((h | ⟨h1,h2⟩) | ⟨h1,h2⟩)
        · exact .inl h
        · exact .inr ⟨h1,.inl h2⟩
        · exact .inr ⟨h1,.inr h2⟩
      · rintro (h | ⟨h1,h2 | h2⟩)
        · exact .inl (.inl h)
        · exact .inl (.inr ⟨h1,h2⟩)
        · exact .inr ⟨h1,h2⟩
    rw [e2]
    exact hR
theorem converse_l0 (n : Nat) (hn : n ≤ 24) (f : Nat → Nat → Bool) : ∀ (d i : Nat), i + d = n →
    Ev (fun k=>impl_converse.l0 k (mat n fun a b=>decide (b < i) && f b a) (mat n f) (n:Int) (i:Int)) (mat n fun a b=>f b a):=by
  intro d
  induction d with
  | zero =>
    intro i hi
    refine Ev.succ ?_
    simp only [impl_converse.l0]
    refine Ev.neg (by omega) (Ev.const ?_)
    congr 1
    exact mat_congr fun a b ha hb=>by simp [show b < i by omega]
  | succ d ih =>
    intro i hi
    refine Ev.succ ?_
    simp only [impl_converse.l0]
    refine Ev.pos (by omega) (Ev.pos (by omega) (Ev.pos (by simp;omega) ?_))
    have hlt:=mk_lt n (f i)
    have h24:=pow24 hn
    have hmem:∀ x,x ∈ bitsOf (mk n (f i)) ↔ x < n ∧ f i x = true:=fun x=>by
      rw [mem_bitsOf (by omega),testBit_mk];simp
    refine Ev.bind (by rw [rd_mat n f i (by omega)];exact members_ev _ (by omega)) ?_
    have:=converse_l1 n hn (mat n f) i (by omega) (n:Int) (mat n fun a b=>f b a) (bitsOf (mk n (f i))) (bitsOf_length _) (fun x hx=>((hmem x).1 hx).1) (bitsOf (mk n (f i))).length 0 (fun a b=>decide (b < i) && f b a) (by omega) ?_
    · have e:intsOf (mk n (f i)) = ints (bitsOf (mk n (f i))):=rfl
      rw [e,ints_length]
      exact this
    · rw [List.drop_zero]
      have e:(mat n fun a b=>decide (b < i) && f b a || (decide (b = i) && decide (a ∈ bitsOf (mk n (f i))))) = mat n fun a b=>decide (b < i + 1) && f b a:=by
        refine mat_congr fun a b ha hb=>?_
        rw [Bool.eq_iff_iff]
        simp only [Bool.or_eq_true,Bool.and_eq_true,decide_eq_true_eq,hmem]
        constructor
        · rintro (⟨h1,h2⟩ | ⟨rfl,_,h2⟩)
          · exact ⟨by omega,h2⟩
          · exact ⟨by omega,h2⟩
        · rintro ⟨h1,h2⟩
          by_cases e:b = i
          · subst e;exact .inr ⟨rfl,ha,h2⟩
          · exact .inl ⟨by omega,h2⟩
      rw [e]
      exact ih (i + 1) (by omega)
theorem converse_ev (n:Nat) (hn:n ≤ 24) (f:Nat → Nat → Bool):Ev (fun k=>impl_converse.f k (mat n f)) (mat n fun a b=>f b a):=by
  simp only [impl_converse.f]
  refine Ev.pos (by omega) (Ev.pos (by simp;omega) ?_)
  have e:List.replicate (((mat n f).length:Int)).toNat (0:Int) = mat n fun a b=>decide (b < 0) && f b a:=by
    rw [mat_length,Int.toNat_natCast]
    apply List.ext_getElem
    · simp
    · intro q h1 h2
      simp only [List.getElem_replicate,mat,List.getElem_map,List.getElem_range]
      rw [show mk n (fun b=>decide (b < 0) && f b q) = 0 from bits_ext fun b=>by rw [testBit_mk];simp]
      rfl
  rw [e,mat_length]
  exact converse_l0 n hn f n 0 (by omega)
theorem IsAlphabet_loop (m : Nat) (hm : m ≤ 8) (f : Nat → Nat → Bool) : ∀ (d a : Nat), a + d = m → (∀ i, i < a → f i i = true ∧ ∀ k, k < m → f i k = f k i) →
    Ev (fun k=>impl_IsAlphabet.l0 k (mat m fun a b=>f b a) (m:Int) (a:Int) (m:Int) (mat m f)) (decide (∀ i,i < m → f i i = true ∧ ∀ k,k < m → f i k = f k i)):=by
  intro d
  induction d with
  | zero =>
    intro a ha hp
    refine Ev.succ ?_
    simp only [impl_IsAlphabet.l0]
    refine Ev.neg (by omega) (Ev.const ?_)
    rw [decide_eq_true fun i hi=>hp i (by omega)]
  | succ d ih =>
    intro a ha hp
    refine Ev.succ ?_
    simp only [impl_IsAlphabet.l0]
    refine Ev.pos (by omega) (Ev.pos (by omega) (Ev.pos (by simp;omega) (Ev.pos (by simp;omega) ?_)))
    rw [rd_mat m _ a (by omega),rd_mat m f a (by omega)]
    have hlt:=mk_lt m fun b=>f b a
    have h24:=pow24 (show m ≤ 24 by omega)
    refine Ev.ite (fun c=>?_) (fun c=>?_)
    · have hc : ∀ k, k < m → f a k = f k a := fun k hk => by
        have:=congrArg (fun z:Nat=>z.testBit k) (Int.ofNat.inj c)
        simp only [testBit_mk,hk,decide_true,Bool.true_and] at this
        exact this.symm
      rw [has_eq _ a (by omega) (by omega),testBit_mk]
      refine Ev.some_bind ?_
      refine Ev.ite (fun g=>?_) (fun g=>?_)
      · rw [w64' (by omega)]
        refine ih (a + 1) (by omega) (fun i hi=>?_)
        by_cases e:i = a
        · subst e;exact ⟨by simpa [show i < m by omega] using g,hc⟩
        · exact hp i (by omega)
      · refine Ev.const ?_
        rw [decide_eq_false fun h=>g (by simpa [show a < m by omega] using (h a (by omega)).1)]
    · refine Ev.const ?_
      rw [decide_eq_false fun h=>c ?_]
      congr 1
      exact mk_congr fun k hk=>((h a (by omega)).2 k hk).symm
theorem IsAlphabet_ev (n:Int) (D:List Int):Ev (fun k=>impl_IsAlphabet.f k n D) (decide (Alpha n D)):=by
  have hj:∀ n D,¬ Alpha n D → Ev (fun k=>impl_IsAlphabet.j0 k true n D) (decide (Alpha n D)):=fun n D h=>by
    refine Ev.succ ?_
    simp only [impl_IsAlphabet.j0]
    exact Ev.pos (by simp) (Ev.const (by rw [decide_eq_false h]))
  simp only [impl_IsAlphabet.f,inRange_eq,impl_length_int64.f,IsRelation_eq]
  refine Ev.some_bind ?_
  simp only [decide_eq_true_eq]
  refine Ev.ite (fun c1=>Ev.some_bind ?_) (fun c1=>hj n D fun h=>c1 h.1)
  refine Ev.ite (fun c2=>Ev.some_bind ?_) (fun c2=>hj n D fun h=>c2 h.2.1)
  obtain ⟨m,rfl⟩:=Int.eq_ofNat_of_zero_le c1.1
  have hl:D.length = m:=by omega
  by_cases c3:∀ x ∈ D,0 ≤ x ∧ x < ((2 ^ D.length:Nat):Int)
  · rw [decide_eq_true ⟨by omega,c3⟩]
    have e:D = mat m (bitR D):=by have:=eq_mat D c3;rwa [hl] at this
    refine Ev.succ ?_
    simp only [impl_IsAlphabet.j0]
    refine Ev.neg (by simp) ?_
    have hc:=converse_ev m (by omega) (bitR D)
    rw [← e] at hc
    refine Ev.bind hc ?_
    have:=IsAlphabet_loop m (by omega) (bitR D) m 0 (by omega) (by intro i hi;omega)
    rw [← e] at this
    rw [mat_length]
    refine Ev.val this ?_
    rw [decide_eq_decide]
    exact ⟨fun h=>⟨c1,c2,c3,fun a ha=>⟨(h a (by omega)).1,fun b hb=>(h a (by omega)).2 b (by omega)⟩⟩,fun h a ha=>⟨(h.2.2.2 a (by omega)).1,fun b hb=>(h.2.2.2 a (by omega)).2 b (by omega)⟩⟩
  · rw [decide_eq_false fun h=>c3 h.2]
    exact hj _ _ fun h=>c3 h.2.2.1
theorem wordB_eq (n:Int) (hn:0 ≤ n ∧ n ≤ 8) (w:List Int):wordB n w = decide (Word n w):=by
  unfold wordB
  rw [Bool.eq_iff_iff,w64' (by omega)]
  rw [decide_eq_true_iff]
  simp [Word,List.all_eq_true]
theorem checkWords_ev (n:Int) (D:List Int) (ws:List (List Int)):Ev (fun k=>impl_checkWords.f k n D ws) (if Alpha n D then (if ∀ w ∈ ws,Word n w then 0 else 2) else 1):=by
  simp only [impl_checkWords.f]
  refine Ev.bind (IsAlphabet_ev n D) (Ev.const ?_)
  congr 1
  by_cases h:Alpha n D
  · rw [if_pos (by simpa using h),if_pos h]
    by_cases g:∀ w ∈ ws,Word n w
    · rw [if_pos g,if_pos]
      rw [List.all_eq_true]
      exact fun w hw=>by rw [wordB_eq n h.1];simpa using g w hw
    · rw [if_neg g,if_neg]
      rw [List.all_eq_true]
      exact fun k=>g fun w hw=>by have:=k w hw;rw [wordB_eq n h.1] at this;simpa using this
  · rw [if_neg (by simpa using h),if_neg h]
theorem foata_ev (n:Nat) (hn:n ≤ 8) (f:Nat → Nat → Bool) (hs:∀ a b,f a b = f b a) (w:List Nat) (hl:w.length ≤ 10000) (hw:∀ x ∈ w,x < n):Ev (fun k=>impl_ties_foata.f k (mat n f) (ints w)) (ints (foataP f w)):=by
  simp only [impl_ties_foata.f]
  have outer:∀ (d i:Nat),i + d = w.length → Ev (fun k=>impl_ties_foata.l0 k (mat n f) (ints (stp f w i)) (ints w) (w.length:Int) (i:Int)) (ints (foataP f w)):=by
    intro d
    induction d with
    | zero =>
      intro i hi
      refine Ev.succ ?_
      simp only [impl_ties_foata.l0]
      refine Ev.neg (by omega) (Ev.const ?_)
      rw [foataP,show i = w.length by omega]
    | succ d ih =>
      intro i hi
      refine Ev.succ ?_
      simp only [impl_ties_foata.l0]
      refine Ev.pos (by omega) (Ev.pos (by omega) (Ev.pos (by simp;omega) ?_))
      have hx:=getD_lt hw (show i < w.length by omega)
      have hlen:=stp_length_le f w i
      have hbd:=stp_lt f w n hw i (by omega)
      have hstp:stp f w (i + 1) = stepF (stp f w i) (hPart f w (hts f w i) i i) (w.getD i 0):=by simp only [stp];rw [hts_last]
      have seen:=height_seen f w hs n hw i (by omega)
      have ih' := ih (i + 1) (by omega)
      have h1:(2:Nat) ^ n ≤ 2 ^ 24:=pow24 (by omega)
      have h2:(2:Nat) ^ (w.getD i 0) ≤ 2 ^ 24:=pow24 (by omega)
      have hm:=mk_lt n (f (w.getD i 0))
      rw [rd_getD]
      -- from place l on nothing meets; what follows at l
      have fin:∀ l,l ≤ (stp f w i).length → hPart f w (hts f w i) i i = l + 1 → Ev (fun k=>if (l:Int) = ((ints (stp f w i)).length:Int) then (if (ints (stp f w i)).length < 17592186044416 then ((some (ints (stp f w i) ++ [0]:List Int)).bind fun y=>(if 0 ≤ (l:Int) then (if (l:Int) < (y.length:Int) then ((impl_one.f ((w.getD i 0:Nat):Int)).bind fun t=>(impl_ties_foata.l0 k (mat n f) (y.set ((l:Int):Int).toNat (Go.bits .or .i64 (rd y (l:Int)) t)) (ints w) (w.length:Int) (wrap64 ((i:Int) + 1)))) else none) else none)) else none) else (if 0 ≤ (l:Int) then (if (l:Int) < ((ints (stp f w i)).length:Int) then ((impl_one.f ((w.getD i 0:Nat):Int)).bind fun t=>(impl_ties_foata.l0 k (mat n f) ((ints (stp f w i)).set ((l:Int):Int).toNat (Go.bits .or .i64 (rd (ints (stp f w i)) (l:Int)) t)) (ints w) (w.length:Int) (wrap64 ((i:Int) + 1)))) else none) else none)) (ints (foataP f w)):=by
        intro l hl hh
        rw [hstp,hh] at ih'
        simp only [stepF,Nat.add_sub_cancel] at ih'
        rw [one_eq _ (by omega)]
        refine Ev.ite (fun c=>?_) (fun c=>?_)
        · have el:l = (stp f w i).length:=by rw [ints_length] at c;omega
          refine Ev.pos (by simp;omega) (Ev.some_bind (Ev.pos (by omega) (Ev.pos (by simp;omega) (Ev.some_bind ?_))))
          have e0:ints (stp f w i) ++ [0] = ints (stp f w i ++ [0]):=by rw [ints_append];rfl
          rw [e0,rd_getD,w64' (by omega),Int.toNat_natCast]
          have hz:(stp f w i ++ [0]).getD l 0 = 0:=by subst el;simp [List.getD_eq_getElem?_getD]
          rw [hz,b_or _ _ (by decide) (by omega),show (ints (stp f w i ++ [0])).set l (((0 ||| 2 ^ (w.getD i 0):Nat)):Int) = ints ((stp f w i ++ [0]).set l (0 ||| 2 ^ (w.getD i 0))) by simp [ints,List.map_set]]
          rw [show l + 1 - (stp f w i).length = 1 by omega,show List.replicate 1 0 = [0] from rfl,hz] at ih'
          exact ih'
        · have el : l < (stp f w i).length := by
            rw [ints_length] at c;omega
          refine Ev.pos (by omega) (Ev.pos (by simp;omega) (Ev.some_bind ?_))
          have hb:=hbd l
          rw [rd_getD,w64' (by omega),Int.toNat_natCast,b_or _ _ (by omega) (by omega),show (ints (stp f w i)).set l ((((stp f w i).getD l 0 ||| 2 ^ (w.getD i 0):Nat)):Int) = ints ((stp f w i).set l ((stp f w i).getD l 0 ||| 2 ^ (w.getD i 0))) by simp [ints,List.map_set]]
          rw [show l + 1 - (stp f w i).length = 0 by omega,List.replicate_zero,List.append_nil] at ih'
          exact ih'
      have inner:∀ l,l ≤ (stp f w i).length → (∀ s,l ≤ s → s < (stp f w i).length → (stp f w i).getD s 0 &&& mk n (f (w.getD i 0)) = 0) → Ev (fun k=>impl_ties_foata.l1 k (mat n f) (ints (stp f w i)) ((w.getD i 0:Nat):Int) (l:Int) (ints w) (w.length:Int) (i:Int)) (ints (foataP f w)):=by
        intro l
        induction l with
        | zero =>
          intro hl hz
          refine Ev.succ ?_
          simp only [impl_ties_foata.l1]
          refine Ev.neg (by omega) ?_
          exact fin 0 hl (seen 0 hl (.inl rfl) hz)
        | succ l ihl =>
          intro hl hz
          refine Ev.succ ?_
          simp only [impl_ties_foata.l1]
          have e1:wrap64 (((l + 1:Nat):Int) - 1) = (l:Int):=(w64' (by omega)).trans (by omega)
          rw [e1]
          refine Ev.pos (by omega) (Ev.pos (by omega) (Ev.pos (by rw [ints_length];omega) (Ev.pos (by omega) (Ev.pos (by rw [mat_length];omega) ?_))))
          have hb:=hbd l
          rw [rd_getD (stp f w i) l,rd_mat n f _ hx,b_and _ _ (by omega) (by omega)]
          refine Ev.ite (fun c=>?_) (fun c=>?_)
          · refine ihl (by omega) (fun s h3 h4=>?_)
            by_cases e:s = l
            · subst e;exact Int.ofNat.inj c
            · exact hz s (by omega) h4
          · exact fin (l + 1) hl (seen (l + 1) hl (.inr (fun h=>c (by rw [Nat.add_sub_cancel] at h;rw [h];rfl))) hz)
      have:=inner (stp f w i).length (Nat.le_refl _) (by intro s h3 h4;omega)
      rw [← ints_length (stp f w i)] at this
      exact this
  have:=outer w.length 0 (by omega)
  rw [ints_length]
  exact this
theorem l01Own_eq (l:List Int) (h:l.length < 17592186044416):spec_l01Own.f l = some l:=by
  unfold spec_l01Own.f
  simp only [Option.bind_some,List.length_nil,List.nil_append]
  rw [if_pos (by omega)]
theorem parts {U M a b : Int} (hU : U = 1000000 ∧ M = 1000000000 ∨ U = 1000000000 ∧ M = 1000000) (ha : -1000 ≤ a ∧ a ≤ 1000) (hb : -MC ≤ b ∧ b ≤ MC) :
    (-(1000 * M) ≤ a * b.tdiv U ∧ a * b.tdiv U ≤ 1000 * M) ∧ (-(1000 * U) ≤ a * b.tmod U ∧ a * b.tmod U ≤ 1000 * U) ∧ (a * b.tdiv U) * U + a * b.tmod U = a * b ∧
    (-M ≤ b.tdiv U ∧ b.tdiv U ≤ M):=by
  unfold MC at hb
  have h1:-M ≤ b.tdiv U ∧ b.tdiv U ≤ M:=by rw [tdiv_cases];rcases hU with ⟨rfl,rfl⟩ | ⟨rfl,rfl⟩ <;> split <;> omega
  have h2:-U ≤ b.tmod U ∧ b.tmod U ≤ U:=by rw [Int.tmod_def,tdiv_cases];rcases hU with ⟨rfl,rfl⟩ | ⟨rfl,rfl⟩ <;> split <;> omega
  refine ⟨mul_bd ha h1,mul_bd ha h2,?_,h1⟩
  rw [Int.mul_assoc,← Int.mul_add]
  congr 1
  rw [Int.tmod_def,Int.mul_comm U]
  omega
theorem impl_inner (p q : List Int) (n : Int) (k : Nat) (hk : k ≤ 24) (hq : q.length = k) (hp : Bd 1000 p) (hb : Bd MC q) (R : List Int × Int)
    (hR:∀ hi lo:Int,hi * 1000000 + lo = nextInv p q → -30000000000000 ≤ hi ∧ hi ≤ 30000000000000 → -30000000000 ≤ lo ∧ lo ≤ 30000000000 → Ev (fun f=>impl_inverse.j2 f p n q k hi lo) R) :
    ∀ (d i:Nat) (hi lo:Int),i + d = min k (p.length - 1) → hi * 1000000 + lo = - psum p q k i → -(1000000000000 * i) ≤ hi ∧ hi ≤ 1000000000000 * i → -(1000000000 * i) ≤ lo ∧ lo ≤ 1000000000 * i →
    Ev (fun f=>impl_inverse.l1 f p n q k hi lo (i + 1:Nat)) R:=by
  intro d
  induction d with
  | zero =>
    intro i hi lo he hs h1 h2
    refine Ev.succ ?_
    simp only [impl_inverse.l1,impl_length_int64.f]
    have hfin:=hR hi lo (by rw [hs];unfold nextInv;rw [hq,show min k (p.length - 1) = i by omega]) (by omega) (by omega)
    refine Ev.ite (fun c1=>Ev.some_bind (Ev.ite (fun c2=>?_) (fun c2=>?_))) (fun c1=>?_)
    · omega
    · exact hfin
    · exact hfin
  | succ d ih =>
    intro i hi lo he hs h1 h2
    refine Ev.succ ?_
    simp only [impl_inverse.l1,impl_length_int64.f]
    have hx:=parts (U:=1000000) (M:=1000000000) (.inl ⟨rfl,rfl⟩) (hp (i + 1)) (hb (k - (i + 1)))
    have e1:wrap64 ((k:Int) - ((i + 1:Nat):Int)) = ((k - (i + 1):Nat):Int):=(w64' (by omega)).trans (by omega)
    rw [e1]
    refine Ev.pos (by omega) (Ev.some_bind (Ev.pos (by omega) (Ev.pos (by omega) (Ev.pos (by omega) (Ev.pos (by omega) (Ev.pos (by omega) ?_))))))
    generalize hA:rd p ((i + 1:Nat):Int) = a at *
    generalize hB:rd q ((k - (i + 1):Nat):Int) = b at *
    obtain ⟨x1,x2,x3,x4⟩:=hx
    generalize hC:b.tdiv 1000000 = c at *
    generalize hD:b.tmod 1000000 = e at *
    rw [w64' (x:=c) (by omega)]
    generalize hE:a * c = ac at *
    generalize hF:a * e = ae at *
    rw [w64' (x:=ac) (by omega),w64' (x:=ae) (by omega),w64' (x:=hi - ac) (by omega),w64' (x:=lo - ae) (by omega),w64' (by omega)]
    refine ih (i + 1) (hi - ac) (lo - ae) (by omega) ?_ (by omega) (by omega)
    simp only [psum]
    rw [hA,hB]
    omega
theorem impl_loop (p : List Int) (n : Nat) (hn : n ≤ 24) (hp : Bd 1000 p) : ∀ (d : Nat) (q : List Int), q.length + d = n + 1 → 1 ≤ q.length → Bd MC q →
    Ev (fun f=>impl_inverse.l0 f p n q q.length) (invLoop p d q):=by
  intro d
  induction d with
  | zero =>
    intro q hd h1 hb
    refine Ev.succ ?_
    simp only [impl_inverse.l0]
    exact Ev.neg (by omega) (Ev.now _)
  | succ d ih =>
    intro q hd h1 hb
    refine Ev.succ ?_
    simp only [impl_inverse.l0]
    refine Ev.pos (by omega) ?_
    refine impl_inner p q n q.length (by omega) rfl hp hb _ ?_ (min q.length (p.length - 1)) 0 0 0 (by omega) (by simp [psum]) (by omega) (by omega)
    intro hi lo hs b1 b2
    refine Ev.succ ?_
    simp only [impl_inverse.j2]
    have t1:-30000 ≤ lo.tdiv 1000000 ∧ lo.tdiv 1000000 ≤ 30000:=by rw [tdiv_cases];split <;> omega
    have t2:-1000000 < lo.tmod 1000000 ∧ lo.tmod 1000000 < 1000000:=by rw [Int.tmod_def,tdiv_cases];split <;> omega
    have t3:lo = lo.tdiv 1000000 * 1000000 + lo.tmod 1000000:=by rw [Int.tmod_def];omega
    generalize lo.tdiv 1000000 = c at *
    generalize lo.tmod 1000000 = e at *
    rw [w64' (x:=c) (by omega),w64' (x:=hi + c) (by omega)]
    have hs' : (hi + c) * 1000000 + e = nextInv p q:=by omega
    clear hs t3
    have fin:∀ b:Bool,(b = true → ¬ (-MC ≤ nextInv p q ∧ nextInv p q ≤ MC)) → (b = false → -2000000000 ≤ hi + c ∧ hi + c ≤ 2000000000) → Ev (fun f=>impl_inverse.j3 f p n q q.length (hi + c) e b) (invLoop p (d + 1) q):=by
      intro b hb1 hb2
      refine Ev.succ ?_
      simp only [impl_inverse.j3,inRange_eq,invLoop]
      cases b with
      | true =>
        rw [if_neg (hb1 rfl)]
        exact Ev.pos (by simp) (Ev.now _)
      | false =>
        have hb2:=hb2 rfl
        refine Ev.neg (by simp) (Ev.some_bind ?_)
        rw [w64' (x:=(hi + c) * 1000000) (by omega),w64' (by omega),hs']
        simp only [decide_eq_true_eq]
        refine Ev.ite (fun c2=>?_) (fun c2=>?_)
        · rw [if_pos (by unfold MC at *;omega)]
          refine Ev.pos (by omega) ?_
          have:=ih (q ++ [nextInv p q]) (by simp;omega) (by simp) (hb.snoc (by unfold MC;omega))
          rw [w64' (by omega)]
          rw [show ((q ++ [nextInv p q]).length:Int) = (q.length:Int) + 1 by simp] at this
          exact this
        · rw [if_neg (by unfold MC at *;omega)]
          exact Ev.now _
    refine Ev.ite (fun c1=>?_) (fun c1=>?_)
    · exact fin true (fun _=>by unfold MC;omega) (fun h=>by cases h)
    · exact fin _ (fun h=>by have:=of_decide_eq_true h;unfold MC;omega) (fun h=>by have:=of_decide_eq_false h;omega)
theorem impl_inverse_ev (p:List Int) (n:Nat) (hn:n ≤ 24) (hp:∀ x ∈ p,-1000 ≤ x ∧ x ≤ 1000):Ev (fun k=>impl_inverse.f k p n) (invLoop p n [1]):=by
  simp only [impl_inverse.f]
  exact impl_loop p n hn (Bd.of_mem (by omega) hp) n [1] (by simp;omega) (by simp) (Bd.of_mem (by unfold MC;omega) (by intro x hx;simp at hx;subst hx;unfold MC;omega))
theorem l01From_ev (c:List Int) (hc:c.length ≤ 4096):∃ h,Ev (fun k=>spec_l01From.f k c) (c,0,h):=by
  have loop:∀ (d i:Nat) (h:Int),i + d = c.length → ∃ h', Ev (fun k=>spec_l01From.l0 k c (i:Int) c 0 h) (c,0,h'):=by
    intro d
    induction d with
    | zero =>
      intro i h hi
      refine ⟨h,Ev.succ ?_⟩
      simp only [spec_l01From.l0]
      exact Ev.neg (by omega) (Ev.now _)
    | succ d ih =>
      intro i h hi
      obtain ⟨h', e⟩:=ih (i + 1) (IntKind.u64.wrap ((IntKind.u64.wrap ((IntKind.u64.wrap (h * 1099511628211)) + (IntKind.u64.wrap (rd c i)))) + 11)) (by omega)
      refine ⟨h', Ev.succ ?_⟩
      simp only [spec_l01From.l0]
      refine Ev.pos (by omega) (Ev.pos (by omega) (Ev.pos (by omega) ?_))
      rw [w64' (by omega)]
      exact e
  simp only [spec_l01From.f]
  exact loop c.length 0 _ (by omega)
theorem l01Next_ev {c:List Int} {a:Int} (hS:Src c a) (h n:Int):∃ v a' h', spec_l01Next.f c a h n = some (v,a', h') ∧ Src c a' ∧ 0 ≤ v ∧ (1 ≤ n → v < n) ∧ (n < 1 → v = 0):=by
  unfold spec_l01Next.f
  by_cases h1:n < 1
  · rw [if_pos h1]
    exact ⟨_,_,_,rfl,hS,by omega,by omega,fun _=>rfl⟩
  · rw [if_neg h1]
    have hr:=u64_range (IntKind.u64.wrap (h * 6364136223846793005) + 1442695040888963407)
    generalize IntKind.u64.wrap (IntKind.u64.wrap (h * 6364136223846793005) + 1442695040888963407) = H at hr
    obtain ⟨b,hb,b0,b1⟩:=u64_mask (H / 8589934592) (by omega) (by omega)
    rw [hb,w64' (x:=b) (by omega)]
    obtain ⟨s1,s2,s3,s4⟩:=hS
    by_cases g:a < (c.length:Int)
    · rw [if_pos g,if_pos s3,if_neg (by omega)]
      obtain ⟨i,rfl⟩:=Int.eq_ofNat_of_zero_le s3
      have hx:=s1 _ (List.getElem_mem (show i < c.length by omega))
      rw [rd_lt c i (by omega),w64' (x:=c[i]) (by omega),w64' (x:=b + c[i]) (by omega),w64' (x:=(i:Int) + 1) (by omega)]
      have:=tmod_range (b + c[i]) n (by omega) (by omega)
      exact ⟨_,_,_,rfl,⟨s1,s2,by omega,by omega⟩,this.1,fun _=>this.2,by omega⟩
    · rw [if_neg g,if_neg (by omega)]
      have:=tmod_range b n (by omega) (by omega)
      exact ⟨_,_,_,rfl,⟨s1,s2,s3,s4⟩,this.1,fun _=>this.2,by omega⟩
theorem l01Pick_ev {c:List Int} {a:Int} (hS:Src c a) (h:Int) (l:List Int) (hl:1 ≤ l.length):∃ v a' h', spec_l01Pick.f c a h l = some (v,a', h') ∧ Src c a' ∧ v ∈ l:=by
  obtain ⟨v,a', h', e,s,v0,v1,_⟩:=l01Next_ev hS h (l.length:Int)
  unfold spec_l01Pick.f
  rw [e]
  simp only [Option.bind_some]
  have:=v1 (by omega)
  obtain ⟨i,rfl⟩:=Int.eq_ofNat_of_zero_le v0
  rw [if_pos v0,if_pos this,rd_lt l i (by omega)]
  exact ⟨_,_,_,rfl,s,List.getElem_mem _⟩
theorem mk_single (n a:Nat) (ha:a < n):mk n (fun b=>decide (a = b)) = 2 ^ a:=bits_ext fun i=>by
  rw [testBit_mk,testBit_one]
  by_cases e:a = i
  · subst e;simp [ha]
  · simp [e]
theorem l02Free_ev (n:Nat) (hn:n ≤ 24):Ev (fun k=>spec_l02Free.f k (n:Int)) ((n:Int),mat n fun a b=>decide (a = b)):=by
  have e:mat n (fun a b=>decide (a = b)) = (List.range n).map fun i=>((2 ^ i:Nat):Int):=by
    unfold mat
    refine List.map_congr_left fun i hi=>?_
    rw [mk_single n i (List.mem_range.1 hi)]
  rw [e]
  have loop:∀ (d i:Nat),i + d = n → Ev (fun k=>spec_l02Free.l0 k (n:Int) (i:Int) (n:Int) ((List.range i).map fun i=>((2 ^ i:Nat):Int))) ((n:Int),(List.range n).map fun i=>((2 ^ i:Nat):Int)):=by
    intro d
    induction d with
    | zero =>
      intro i hi
      obtain rfl:i = n:=by omega
      refine Ev.succ ?_
      simp only [spec_l02Free.l0]
      exact Ev.neg (by omega) (Ev.now _)
    | succ d ih =>
      intro i hi
      refine Ev.succ ?_
      simp only [spec_l02Free.l0]
      refine Ev.pos (by omega) ?_
      rw [l01One_eq i (by omega),w64' (by omega)]
      refine Ev.some_bind (Ev.pos (by simp;omega) ?_)
      have:=ih (i + 1) (by omega)
      rw [List.range_succ,List.map_append] at this
      exact this
  simp only [spec_l02Free.f]
  exact loop n 0 (by omega)
theorem mat_set (n:Nat) (f:Nat → Nat → Bool) (a b:Nat) (ha:a < n) (hb:b < n):(mat n f).set a ((mk n (f a) ||| 2 ^ b:Nat):Int) = mat n fun i k=>f i k || (decide (i = a) && decide (k = b)):=by
  apply List.ext_getElem
  · simp
  · intro q h1 h2
    have hq:q < n:=by simpa using h1
    rw [List.getElem_set]
    by_cases e:a = q
    · subst e
      rw [if_pos rfl]
      simp only [mat,List.getElem_map,List.getElem_range]
      congr 1
      refine bits_ext fun i=>?_
      rw [Nat.testBit_or,testBit_mk,testBit_mk,testBit_one]
      by_cases e:b = i
      · subst e;simp [hb]
      · simp [e,show ¬ i = b from fun h=>e h.symm]
    · rw [if_neg e]
      simp only [mat,List.getElem_map,List.getElem_range]
      congr 1
      exact mk_congr fun i _=>by simp [show ¬ q = a from fun h=>e h.symm]
theorem l02Join_eq (n : Nat) (hn : n ≤ 24) (f : Nat → Nat → Bool) (a b : Nat) (ha : a < n) (hb : b < n) :
    spec_l02Join.f (n:Int) (mat n f) (a:Int) (b:Int) = some (mat n fun i k=>(f i k || (decide (i = a) && decide (k = b))) || (decide (i = b) && decide (k = a))):=by
  unfold spec_l02Join.f
  have p1:=pow24 hn
  have p2:(2:Nat) ^ a ≤ 2 ^ 24:=pow24 (by omega)
  have p3:(2:Nat) ^ b ≤ 2 ^ 24:=pow24 (by omega)
  have h1:=mk_lt n (f a)
  have h2:=mk_lt n (fun k=>f b k || (decide (b = a) && decide (k = b)))
  rw [if_pos (by omega),if_pos (by simp;omega),show spec_l01One_Bl02Join.f (b:Int) = spec_l01One.f (b:Int) from rfl,show spec_l01One_Bl02Join.f (a:Int) = spec_l01One.f (a:Int) from rfl,l01One_eq a (by omega),l01One_eq b (by omega),rd_mat n f a ha]
  simp only [Option.bind_some]
  rw [b_or _ _ (by omega) (by omega),Int.toNat_natCast,mat_set n f a b ha hb]
  rw [if_pos (by omega),if_pos (by simp;omega),rd_mat n _ b hb,b_or _ _ (by omega) (by omega),Int.toNat_natCast,mat_set n _ b a hb ha]
def Drawn (c:List Int) (most:Nat) (r:Int × List Int × Int × Int):Prop:=∃ (n:Nat) (f:Nat → Nat → Bool),r.1 = (n:Int) ∧ r.2.1 = mat n f ∧ n ≤ most ∧ n ≤ 8 ∧ (∀ a b,f a b = f b a) ∧ (∀ a,a < n → f a a = true) ∧ Src c r.2.2.1
theorem l02Draw_l0 (c : List Int) (most n : Nat) (hn : n ≤ most) (hn8 : n ≤ 8) (part : Int) : ∀ (d a : Nat), a + d = n → ∀ (f : Nat → Nat → Bool) (at_ h : Int), (∀ a b, f a b = f b a) → (∀ a, a < n → f a a = true) → Src c at_ →
    ∃ r,Drawn c most r ∧ Ev (fun k=>spec_l02Draw.l0 k (n:Int) part (a:Int) c at_ h (n:Int) (mat n f)) r:=by
  intro d
  induction d with
  | zero =>
    intro a ha f at_ h hs hr hS
    refine ⟨((n:Int),mat n f,at_,h),⟨n,f,rfl,rfl,hn,hn8,hs,hr,hS⟩,Ev.succ ?_⟩
    simp only [spec_l02Draw.l0]
    exact Ev.neg (by omega) (Ev.now _)
  | succ d ih =>
    intro a ha f at_ h hs hr hS
    have inner : ∀ (e b : Nat), b + e = a → ∀ (f : Nat → Nat → Bool) (at_ h : Int), (∀ a b, f a b = f b a) → (∀ a, a < n → f a a = true) → Src c at_ →
        ∃ r,Drawn c most r ∧ Ev (fun k=>spec_l02Draw.l1 k (n:Int) part (a:Int) (b:Int) c at_ h (n:Int) (mat n f)) r:=by
      intro e
      induction e with
      | zero =>
        intro b hb f at_ h hs hr hS
        obtain ⟨r,hd,he⟩:=ih (a + 1) (by omega) f at_ h hs hr hS
        refine ⟨r,hd,Ev.succ ?_⟩
        simp only [spec_l02Draw.l1]
        refine Ev.neg (by omega) ?_
        rw [w64' (by omega)]
        exact he
      | succ e ihe =>
        intro b hb f at_ h hs hr hS
        obtain ⟨v,a1,h1,e1,s1,_⟩:=l01Next_ev hS h part
        by_cases g:v = 0
        · obtain ⟨r, hd, he⟩ := ihe (b + 1) (by omega) (fun i k => (f i k || (decide (i = a) && decide (k = b))) || (decide (i = b) && decide (k = a))) a1 h1 (fun x y => by
            rw [hs x y,Bool.eq_iff_iff]
            simp only [Bool.or_eq_true,Bool.and_eq_true,decide_eq_true_eq]
            constructor
            · rintro ((h | ⟨h1,h2⟩) | ⟨h1,h2⟩)
              · exact .inl (.inl h)
              · exact .inr ⟨h2,h1⟩
              · exact .inl (.inr ⟨h2,h1⟩)
            · rintro ((h | ⟨h1,h2⟩) | ⟨h1,h2⟩)
              · exact .inl (.inl h)
              · exact .inr ⟨h2,h1⟩
              · exact .inl (.inr ⟨h2,h1⟩)) (fun x hx=>by simp [hr x hx]) s1
          refine ⟨r,hd,Ev.succ ?_⟩
          simp only [spec_l02Draw.l1]
          refine Ev.pos (by omega) ?_
          rw [e1]
          refine Ev.some_bind (Ev.pos g ?_)
          rw [l02Join_eq n (by omega) f a b (by omega) (by omega),w64' (by omega)]
          exact Ev.some_bind he
        · obtain ⟨r,hd,he⟩:=ihe (b + 1) (by omega) f a1 h1 hs hr s1
          refine ⟨r,hd,Ev.succ ?_⟩
          simp only [spec_l02Draw.l1]
          refine Ev.pos (by omega) ?_
          rw [e1]
          refine Ev.some_bind (Ev.neg g ?_)
          rw [w64' (by omega)]
          exact he
    obtain ⟨r,hd,he⟩:=inner a 0 (by omega) f at_ h hs hr hS
    refine ⟨r,hd,Ev.succ ?_⟩
    simp only [spec_l02Draw.l0]
    exact Ev.pos (by omega) he
theorem l02Draw_ev {c:List Int} {a:Int} (hS:Src c a) (h:Int) (most:Nat) (hm:most ≤ 8):∃ r,Drawn c most r ∧ Ev (fun k=>spec_l02Draw.f k c a h (most:Int)) r:=by
  have j1:∀ (n a h:Int),0 ≤ n → n ≤ most → Src c a → ∃ r,Drawn c most r ∧ Ev (fun k=>spec_l02Draw.j1 k n c a h) r:=by
    intro n a h h0 h1 hS
    obtain ⟨m,rfl⟩:=Int.eq_ofNat_of_zero_le h0
    obtain ⟨v,a1,h1', e1,s1,_⟩:=l01Pick_ev hS h [2,2,3,4] (by simp)
    obtain ⟨r,hd,he⟩:=l02Draw_l0 c most m (by omega) (by omega) v m 0 (by omega) (fun a b=>decide (a = b)) a1 h1' (fun x y=>by rw [decide_eq_decide];exact ⟨Eq.symm,Eq.symm⟩) (by simp) s1
    refine ⟨r,hd,Ev.succ ?_⟩
    simp only [spec_l02Draw.j1]
    refine Ev.bind (l02Free_ev m (by omega)) ?_
    rw [e1]
    exact Ev.some_bind he
  have j0:∀ (b:Bool) (a h:Int),(b = true → 4 ≤ most) → Src c a → ∃ r,Drawn c most r ∧ Ev (fun k=>spec_l02Draw.j0 k (most:Int) b c a h) r:=by
    intro b a h hb hS
    cases b with
    | true =>
      refine ⟨((4:Nat),[11,7,14,13],a,h),⟨4,fun x y=>decide (x < 4 ∧ y < 4) && bitR [11,7,14,13] x y,rfl,?_,hb rfl,by omega,?_,?_,hS⟩,Ev.succ ?_⟩
      · exact (eq_mat [11, 7, 14, 13] (by decide)).trans (mat_congr fun i k hi hk => by
          have h1:i < 4:=hi
          have h2:k < 4:=hk
          simp [h1,h2])
      · intro x y
        have key:∀ x,x < 4 → ∀ y,y < 4 → bitR [11,7,14,13] x y = bitR [11,7,14,13] y x:=by decide
        show (decide (x < 4 ∧ y < 4) && bitR [11,7,14,13] x y) = (decide (y < 4 ∧ x < 4) && bitR [11,7,14,13] y x)
        by_cases hx:x < 4 <;> by_cases hy:y < 4 <;> simp [hx,hy]
        exact key x hx y hy
      · decide
      · simp only [spec_l02Draw.j0]
        exact Ev.pos trivial (Ev.now _)
    | false =>
      obtain ⟨v,a1,h1,e1,s1,v0,v1,_⟩:=l01Next_ev hS h (wrap64 ((most:Int) + 1))
      have w:=w64' (x:=(most:Int) + 1) (by omega)
      by_cases g:v < 2
      · obtain ⟨v2,a2,h2,e2,s2,u0,u1,_⟩:=l01Next_ev s1 h1 (wrap64 ((most:Int) + 1))
        obtain ⟨r,hd,he⟩:=j1 v2 a2 h2 u0 (by rw [w] at u1;have:=u1 (by omega);omega) s2
        refine ⟨r,hd,Ev.succ ?_⟩
        simp only [spec_l02Draw.j0]
        refine Ev.neg (by simp) ?_
        rw [e1]
        refine Ev.some_bind (Ev.pos g ?_)
        rw [e2]
        exact Ev.some_bind he
      · obtain ⟨r,hd,he⟩:=j1 v a1 h1 v0 (by rw [w] at v1;have:=v1 (by omega);omega) s1
        refine ⟨r,hd,Ev.succ ?_⟩
        simp only [spec_l02Draw.j0]
        refine Ev.neg (by simp) ?_
        rw [e1]
        exact Ev.some_bind (Ev.neg g he)
  by_cases h4:4 ≤ most
  · obtain ⟨v,a1,h1,e1,s1,_⟩:=l01Next_ev hS h 6
    obtain ⟨r,hd,he⟩:=j0 (v == 0) a1 h1 (fun _=>h4) s1
    refine ⟨r,hd,?_⟩
    simp only [spec_l02Draw.f]
    refine Ev.pos (by omega) ?_
    rw [e1]
    exact Ev.some_bind he
  · obtain ⟨r,hd,he⟩:=j0 false a h (by simp) hS
    refine ⟨r,hd,?_⟩
    simp only [spec_l02Draw.f]
    exact Ev.neg (by omega) he
theorem l02Step_ev (n:Nat) (hn:n ≤ 8) (f:Nat → Nat → Bool) (m:Nat) (hm:m < 2 ^ 24):Ev (fun k=>spec_l02Step.f k (n:Int) (mat n f) (m:Int)) (stepP n f m):=by
  have loop:∀ (d a:Nat),a + d = n → (∀ i,i < a → (!m.testBit i || decide (mk n (f i) &&& m = 2 ^ i)) = true) → Ev (fun k=>spec_l02Step.l0 k (m:Int) (a:Int) (n:Int) (mat n f)) (stepP n f m):=by
    intro d
    induction d with
    | zero =>
      intro a ha hp
      refine Ev.succ ?_
      simp only [spec_l02Step.l0]
      refine Ev.neg (by omega) (Ev.const ?_)
      congr 1
      symm
      exact List.all_eq_true.2 fun i hi=>hp i (by have:=List.mem_range.1 hi;omega)
    | succ d ih =>
      intro a ha hp
      have h1:=mk_lt n (f a)
      have h2:=pow24 (show n ≤ 24 by omega)
      have h3:(2:Nat) ^ 24 ≤ 2 ^ 62:=Nat.pow_le_pow_right (by decide) (by decide)
      refine Ev.succ ?_
      simp only [spec_l02Step.l0]
      refine Ev.pos (by omega) ?_
      rw [l01Bit_eq m a (by omega) (by omega)]
      refine Ev.some_bind (Ev.ite (fun c=>?_) (fun c=>?_))
      · refine Ev.pos (by omega) (Ev.pos (by simp;omega) ?_)
        rw [l01One_eq a (by omega),rd_mat n f a (by omega),b_and _ _ (by omega) (by omega)]
        refine Ev.some_bind (Ev.ite (fun g=>?_) (fun g=>?_))
        · rw [w64' (by omega)]
          refine ih (a + 1) (by omega) (fun i hi=>?_)
          by_cases e:i = a
          · subst e
            have:mk n (f i) &&& m = 2 ^ i:=by omega
            simp [this]
          · exact hp i (by omega)
        · refine Ev.const ?_
          congr 1
          symm
          rw [← Bool.not_eq_true]
          intro h
          have:=List.all_eq_true.1 h a (List.mem_range.2 (by omega))
          rw [c] at this
          simp only [Bool.not_true,Bool.false_or,decide_eq_true_eq] at this
          exact g (by rw [this])
      · rw [w64' (by omega)]
        refine ih (a + 1) (by omega) (fun i hi=>?_)
        by_cases e:i = a
        · subst e
          simp [c]
        · exact hp i (by omega)
  simp only [spec_l02Step.f]
  exact loop n 0 (by omega) (by intro i hi;omega)
theorem l02Steps_ev (n:Nat) (hn:n ≤ 8) (f:Nat → Nat → Bool):Ev (fun k=>spec_l02Steps.f k (n:Int) (mat n f)) (ints (stepsP n f)):=by
  have h24:=pow24 (show n ≤ 24 by omega)
  have hpos:=Nat.two_pow_pos n
  have h8:(2:Nat) ^ n ≤ 2 ^ 8:=Nat.pow_le_pow_right (by decide) hn
  have loop:∀ (d m:Nat),m + d = 2 ^ n → Ev (fun k=>spec_l02Steps.l0 k (ints ((List.range m).filter (stepP n f))) (m:Int) (n:Int) (mat n f)) (ints (stepsP n f)):=by
    intro d
    induction d with
    | zero =>
      intro m hm
      obtain rfl:m = 2 ^ n:=by omega
      refine Ev.succ ?_
      simp only [spec_l02Steps.l0,l01Full_eq n (show n ≤ 61 by omega)]
      exact Ev.some_bind (Ev.neg (by omega) (Ev.now _))
    | succ d ih =>
      intro m hm
      have:=ih (m + 1) (by omega)
      rw [List.range_succ,List.filter_append] at this
      refine Ev.succ ?_
      simp only [spec_l02Steps.l0,l01Full_eq n (show n ≤ 61 by omega)]
      refine Ev.some_bind (Ev.pos (by omega) (Ev.bind (l02Step_ev n hn f m (by omega)) ?_))
      rw [w64' (by omega)]
      refine Ev.ite (fun c=>?_) (fun c=>?_)
      · have hl:=List.length_filter_le (stepP n f) (List.range m)
        simp only [List.length_range] at hl
        refine Ev.pos (by simp;omega) ?_
        rw [List.filter_cons_of_pos c,List.filter_nil,ints_append] at this
        exact this
      · rw [List.filter_cons_of_neg c,List.filter_nil,List.append_nil] at this
        exact this
  simp only [spec_l02Steps.f]
  exact loop (2 ^ n) 0 (by omega)
theorem l01Bits_ev (m:Nat) (hm:m < 2 ^ 24):Ev (fun k=>spec_l01Bits.f k (m:Int)) ((pcP m:Nat):Int):=by
  have loop:∀ (N m:Nat) (acc:Nat),m ≤ N → acc + m ≤ 100000000 → Ev (fun k=>spec_l01Bits.l0 k (m:Int) (acc:Int)) ((acc + pcP m:Nat):Int):=by
    intro N
    induction N with
    | zero =>
      intro m acc h1 h3
      obtain rfl:m = 0:=by omega
      refine Ev.succ ?_
      simp only [spec_l01Bits.l0]
      exact Ev.neg (by omega) (Ev.const (by rw [pcP_zero];rfl))
    | succ N ih =>
      intro m acc h1 h3
      by_cases h0:m = 0
      · subst h0
        refine Ev.succ ?_
        simp only [spec_l01Bits.l0]
        exact Ev.neg (by omega) (Ev.const (by rw [pcP_zero];rfl))
      · have e1:Int.tdiv (m:Int) 2 = ((m / 2:Nat):Int):=by rw [Int.tdiv_eq_ediv_of_nonneg (by omega)];omega
        have e2:Int.tmod (m:Int) 2 = ((m % 2:Nat):Int):=by rw [Int.tmod_eq_emod_of_nonneg (by omega)];omega
        refine Ev.succ ?_
        simp only [spec_l01Bits.l0]
        refine Ev.pos (by omega) ?_
        rw [e1,e2,w64' (by omega),w64' (by omega)]
        have:=ih (m / 2) (acc + m % 2) (by omega) (by omega)
        rw [pcP_pos h0,show acc + (m % 2 + pcP (m / 2)) = acc + m % 2 + pcP (m / 2) by omega]
        exact this
  simp only [spec_l01Bits.f]
  exact Ev.val (loop m m 0 (Nat.le_refl _) (by omega)) (by simp)
theorem likeInts_ev (x:List Int) (hx:x.length ≤ 17592186044416):Ev (fun k=>laws_likeInts.f k x x) true:=by
  have loop:∀ (d i:Nat),i + d = x.length → Ev (fun k=>laws_likeInts.l0 k x x (i:Int)) true:=by
    intro d
    induction d with
    | zero =>
      intro i hi
      refine Ev.succ ?_
      simp only [laws_likeInts.l0]
      exact Ev.neg (by omega) (Ev.now _)
    | succ d ih =>
      intro i hi
      refine Ev.succ ?_
      simp only [laws_likeInts.l0]
      refine Ev.pos (by omega) (Ev.pos (by omega) (Ev.pos (by omega) (Ev.pos trivial ?_)))
      rw [w64' (by omega)]
      exact ih (i + 1) (by omega)
  simp only [laws_likeInts.f]
  exact Ev.pos trivial (loop x.length 0 (by omega))
theorem l06After_eq (n:Nat) (hn:n ≤ 24) (f:Nat → Nat → Bool) (x:Int) (M c:Nat) (hM:M < 2 ^ n) (hc:c < n):spec_l06After.f x (mat n f) (M:Int) (c:Int) = some ((afterP n f M c:Nat):Int):=by
  have h24:=pow_lt62 hn
  have hc24:(2:Nat) ^ c ≤ 2 ^ 24:=pow24 (by omega)
  have h1:=mk_lt n (f c)
  have h2:=mk_lt n (fun a=>M.testBit a || decide (a < c))
  have h3:=mk_split n (fun a=>M.testBit a || decide (a < c)) (f c)
  have h4:(M ||| (2 ^ c - 1)) &&& mk n (f c) = mk n (fun a=>(M.testBit a || decide (a < c)) && f c a):=by rw [or_full hM hc,mk_and]
  have h5:=mk_lt n (fun a=>(M.testBit a || decide (a < c)) && f c a)
  have hp:=Nat.two_pow_pos c
  unfold spec_l06After.f spec_l01Full_Bl06After.f
  rw [l01Full_eq c (by omega)]
  simp only [Option.bind_some]
  rw [if_pos (by omega),if_pos (by simp;omega),rd_mat n f c hc,b_or _ _ (by omega) (by omega),b_and _ _ (by rw [or_full hM hc];omega) (mk62 (by omega) _),h4,or_full hM hc,w64' (by omega)]
  unfold afterP
  congr 1
  omega
theorem forbidden_eq (n:Nat) (hn:n ≤ 24) (f:Nat → Nat → Bool) (M c:Nat) (hM:M < 2 ^ n) (hc:c < n):impl_ties_forbidden.f (mat n f) (M:Int) (c:Int) = some ((afterP n f M c:Nat):Int):=by
  have h24:=pow_lt62 hn
  have hc24:(2:Nat) ^ c ≤ 2 ^ 24:=pow24 (by omega)
  have hp:=Nat.two_pow_pos c
  unfold impl_ties_forbidden.f
  rw [one_eq c (by omega)]
  simp only [Option.bind_some]
  rw [if_pos (by omega),if_pos (by simp;omega),rd_mat n f c hc,w64' (by omega),show ((2 ^ c:Nat):Int) - 1 = ((2 ^ c - 1:Nat):Int) by omega,b_or _ _ (by omega) (by omega),or_full hM hc,b_andNot _ _ (mk62 (by omega) _) (mk62 (by omega) _),mk_without (by omega)]
  rfl
theorem allLetters_eq (n:Nat) (hn:n ≤ 24) (D:List Int):impl_allLetters.f (n:Int) D = some ((mk n (fun _=>true):Nat):Int):=by
  have h24:=pow_lt62 hn
  have hp:=Nat.two_pow_pos n
  unfold impl_allLetters.f
  rw [one_eq n (by omega)]
  simp only [Option.bind_some]
  rw [w64' (by omega),← mk_full]
  congr 1
  omega
theorem IsMask24_eq (n:Nat) (hn:n ≤ 24) (a:Int):impl_IsMask.f a (n:Int) = some (decide (0 ≤ a ∧ a ≤ ((2 ^ n - 1:Nat):Int))):=by
  unfold impl_IsMask.f
  have hp:=Nat.two_pow_pos n
  have h24:=pow_lt62 hn
  rw [inRange_eq]
  simp only [Option.bind_some]
  rw [if_pos (by simp;omega),one_eq n (by omega)]
  simp only [Option.bind_some,inRange_eq]
  rw [w64' (by omega),show ((2 ^ n:Nat):Int) - 1 = ((2 ^ n - 1:Nat):Int) by omega]
theorem l06Reach_ev (n:Nat) (hn:n ≤ 24) (f:Nat → Nat → Bool) (p:Nat → Bool):Ev (fun k=>spec_l06Reach.f k (n:Int) (mat n f) ((mk n p:Nat):Int)) ((mk n (reachP n f p):Nat):Int):=by
  have loop:∀ (d i:Nat),i + d = n → Ev (fun k=>spec_l06Reach.l0 k ((mk n p:Nat):Int) ((mk n (fun b=>(List.range i).any fun c=>p c && f c b):Nat):Int) (i:Int) (n:Int) (mat n f)) ((mk n (reachP n f p):Nat):Int):=by
    intro d
    induction d with
    | zero =>
      intro i hi
      obtain rfl:i = n:=by omega
      refine Ev.succ ?_
      simp only [spec_l06Reach.l0]
      exact Ev.neg (by omega) (Ev.now _)
    | succ d ih =>
      intro i hi
      have i1:=ih (i + 1) (by omega)
      refine Ev.succ ?_
      simp only [spec_l06Reach.l0]
      refine Ev.pos (by omega) ?_
      rw [l01Bit_eq _ i (mk62 hn _) (by omega),testBit_mk,w64' (by omega)]
      refine Ev.some_bind (Ev.ite (fun h=>?_) (fun h=>?_))
      · have hp:p i = true:=(Bool.and_eq_true_iff.1 h).2
        refine Ev.pos (by omega) (Ev.pos (by simp;omega) ?_)
        rw [rd_mat n f i (by omega),b_or _ _ (mk62 hn _) (mk62 hn _),mk_or]
        have e1:mk n (fun a=>((List.range i).any fun c=>p c && f c a) || f i a) = mk n (fun b=>(List.range (i + 1)).any fun c=>p c && f c b):=mk_congr fun b _=>by rw [List.range_succ,List.any_append];simp [hp]
        rw [e1]
        exact i1
      · have hp:p i = false:=by simpa [show i < n by omega] using h
        have e1:mk n (fun b=>(List.range i).any fun c=>p c && f c b) = mk n (fun b=>(List.range (i + 1)).any fun c=>p c && f c b):=mk_congr fun b _=>by rw [List.range_succ,List.any_append];simp [hp]
        rw [e1]
        exact i1
  simp only [spec_l06Reach.f]
  have:=loop n 0 (by omega)
  have e1:mk n (fun b=>(List.range 0).any fun c=>p c && f c b) = 0:=mk_zero fun c _=>by simp
  rw [e1] at this
  exact this
theorem l02Spoil_ev {c:List Int} {a:Int} (hS:Src c a) (h:Int) (most:Nat) (hm:most ≤ 8):∃ n D a' h', Src c a' ∧ D.length ≤ 9 ∧ Ev (fun k=>spec_l02Spoil.f k c a h (most:Int)) (n,D,a', h'):=by
  obtain ⟨⟨n0,D0,a0,h0⟩,⟨m,f,e1,e2,hm1,hm8,hs,hr,hS0⟩,hd⟩:=l02Draw_ev hS h most hm
  simp only at e1 e2 hS0
  subst e1 e2
  obtain ⟨v1,a1,h1,x1,s1,p1,_⟩:=l01Next_ev hS0 h0 14
  by_cases g1:v1 > 0
  · refine ⟨(m:Int),mat m f,a1,h1,s1,by simp;omega,?_⟩
    simp only [spec_l02Spoil.f]
    refine Ev.bind hd ?_
    simp only []
    rw [x1]
    exact Ev.some_bind (Ev.pos g1 (Ev.now _))
  · obtain ⟨v2,a2,h2,x2,s2,p2,_⟩:=l01Next_ev s1 h1 4
    by_cases g2:v2 = 0
    · obtain ⟨v3,a3,h3,x3,s3,_⟩:=l01Pick_ev s2 h2 [-1,9,wrap64 ((m:Int) + 1)] (by simp)
      refine ⟨v3,mat m f,a3,h3,s3,by simp;omega,?_⟩
      simp only [spec_l02Spoil.f]
      refine Ev.bind hd ?_
      simp only []
      rw [x1]
      refine Ev.some_bind (Ev.neg g1 ?_)
      simp only []
      rw [x2]
      refine Ev.some_bind (Ev.pos g2 ?_)
      simp only []
      rw [x3]
      exact Ev.some_bind (Ev.now _)
    · by_cases g3:v2 = 1
      · obtain ⟨v3,a3,h3,x3,s3,_⟩:=l01Pick_ev s2 h2 [0,1,255] (by simp)
        refine ⟨(m:Int),mat m f ++ [v3],a3,h3,s3,by simp;omega,?_⟩
        simp only [spec_l02Spoil.f]
        refine Ev.bind hd ?_
        simp only []
        rw [x1]
        refine Ev.some_bind (Ev.neg g1 ?_)
        simp only []
        rw [x2]
        refine Ev.some_bind (Ev.neg g2 (Ev.pos g3 ?_))
        simp only []
        rw [x3]
        exact Ev.some_bind (Ev.pos (by simp;omega) (Ev.now _))
      · by_cases g4:(m:Int) > 0
        · obtain ⟨v4,a4,h4,x4,s4,p4,q4,_⟩:=l01Next_ev s2 h2 (m:Int)
          have q4' := q4 (by omega)
          obtain ⟨i,rfl⟩:=Int.eq_ofNat_of_zero_le p4
          obtain ⟨v5,a5,h5,x5,s5,_⟩:=l01Next_ev s4 h4 ((2 ^ m:Nat):Int)
          obtain ⟨v6,a6,h6,x6,s6,_⟩:=l01Pick_ev s5 h5 [wrap64 ((rd (mat m f) (i:Int)) - ((2 ^ i:Nat):Int)),Go.bits .or .i64 (rd (mat m f) (i:Int)) ((2 ^ m:Nat):Int),v5,-1] (by simp)
          refine ⟨(m:Int),(mat m f).set i v6,a6,h6,s6,by simp;omega,?_⟩
          simp only [spec_l02Spoil.f]
          refine Ev.bind hd ?_
          simp only []
          rw [x1]
          refine Ev.some_bind (Ev.neg g1 ?_)
          simp only []
          rw [x2]
          refine Ev.some_bind (Ev.neg g2 (Ev.neg g3 (Ev.pos g4 ?_)))
          simp only []
          rw [x4]
          refine Ev.some_bind (Ev.pos (by omega) (Ev.pos (by simp;omega) ?_))
          rw [l01One_eq i (by omega),l01One_eq m (by omega)]
          refine Ev.some_bind (Ev.some_bind (Ev.some_bind ?_))
          simp only []
          rw [x5]
          refine Ev.some_bind ?_
          simp only []
          rw [x6]
          exact Ev.some_bind (Ev.now _)
        · refine ⟨(m:Int),mat m f,a2,h2,s2,by simp;omega,?_⟩
          simp only [spec_l02Spoil.f]
          refine Ev.bind hd ?_
          simp only []
          rw [x1]
          refine Ev.some_bind (Ev.neg g1 ?_)
          simp only []
          rw [x2]
          exact Ev.some_bind (Ev.neg g2 (Ev.neg g3 (Ev.neg g4 (Ev.now _))))
theorem check_ok {n:Nat} {D:List Int} (hA:Alpha (n:Int) D) (ws:List (List Int)) (h:∀ w ∈ ws,Word (n:Int) w):Ev (fun k=>impl_checkWords.f k (n:Int) D ws) 0:=by
  have:=checkWords_ev (n:Int) D ws
  rwa [if_pos hA,if_pos h] at this
theorem check_1 {n:Nat} {f:Nat → Nat → Bool} (hA:Alpha (n:Int) (mat n f)) {u:List Nat} (hl:u.length ≤ 24) (hu:∀ x ∈ u,x < n):Ev (fun k=>impl_checkWords.f k (n:Int) (mat n f) [ints u]) 0 :=
  check_ok hA _ fun w hw=>by rw [List.mem_singleton.1 hw];exact Word.of hl hu
theorem pcP_step (m:Nat):pcP m = m % 2 + pcP (m / 2):=by
  by_cases h:m = 0
  · subst h
    rw [pcP_zero]
  · exact pcP_pos h
theorem sorted_ext:∀ {a b:List Int},a.Pairwise (· < ·) → b.Pairwise (· < ·) → (∀ x,x ∈ a ↔ x ∈ b) → a = b:=by
  intro a
  induction a with
  | nil =>
    intro b _ _ h
    cases b with
    | nil=>rfl
    | cons y b=>exact absurd ((h y).2 (List.mem_cons_self ..)) (by simp)
  | cons x a ih =>
    intro b ha hb h
    cases b with
    | nil=>exact absurd ((h x).1 (List.mem_cons_self ..)) (by simp)
    | cons y b =>
      rw [List.pairwise_cons] at ha hb
      have hxy:x = y:=by
        rcases List.mem_cons.1 ((h x).1 (List.mem_cons_self ..)) with e | e
        · exact e
        · rcases List.mem_cons.1 ((h y).2 (List.mem_cons_self ..)) with e' | e'
          · exact e'.symm
          · have h1:=hb.1 x e
            have h2:=ha.1 y e'
            omega
      subst hxy
      rw [ih ha.2 hb.2 (fun z=>?_)]
      constructor
      · intro hz
        rcases List.mem_cons.1 ((h z).1 (List.mem_cons_of_mem _ hz)) with e | e
        · have:=ha.1 z hz
          omega
        · exact e
      · intro hz
        rcases List.mem_cons.1 ((h z).2 (List.mem_cons_of_mem _ hz)) with e | e
        · have:=hb.1 z hz
          omega
        · exact e
theorem sort_eq {L:List Nat} {s:List Nat} (hn:L.Nodup) (hs:s.Pairwise (· < ·)) (h:∀ x,x ∈ L ↔ x ∈ s):((ints L).mergeSort fun x y=>decide (x ≤ y)) = ints s:=by
  have hp:=List.mergeSort_perm (ints L) fun x y=>decide (x ≤ y)
  have hle:((ints L).mergeSort fun x y=>decide (x ≤ y)).Pairwise fun x y=>decide (x ≤ y) = true:=List.pairwise_mergeSort (fun a b c h1 h2=>by simp only [decide_eq_true_eq] at h1 h2 ⊢;omega) (fun a b=>by simp only [Bool.or_eq_true,decide_eq_true_eq];omega) _
  have hnd:((ints L).mergeSort fun x y=>decide (x ≤ y)).Nodup:=hp.symm.nodup (List.Pairwise.map _ (fun a b hab e=>hab (by exact_mod_cast e)) hn)
  refine sorted_ext (List.Pairwise.imp₂ (fun a b h1 h2=>?_) hle hnd) (List.Pairwise.map _ (fun a b hab=>by omega) hs) (fun x=>?_)
  · have h1' := of_decide_eq_true h1
    omega
  · rw [hp.mem_iff]
    simp only [ints,List.mem_map,h]
theorem grow_ev (n : Nat) (hn : n ≤ 24) (g : Nat → Nat → Bool) : ∀ (N op : Nat), op ≤ N → op < 2 ^ n → ∀ ch : Nat, ch < 2 ^ n → (∀ i, ch.testBit i = true → op.testBit i = false) →
    ∃ L:List Nat,Ev (fun k=>impl_growCliques.l0 (mat n g) k (ch:Int) (op:Int)) (ints L) ∧ L.Nodup ∧ ∀ C:Nat,C ∈ L ↔ ∃ S:Nat,S ≠ 0 ∧ (∀ i,S.testBit i = true → op.testBit i = true) ∧ (∀ a b,a < b → S.testBit a = true → S.testBit b = true → g a b = true) ∧ C = ch ||| S:=by
  have h62:=pow_lt62 hn
  have h24:=pow24 hn
  intro N
  induction N with
  | zero =>
    intro op h0 _ ch _ _
    obtain rfl:op = 0:=by omega
    refine ⟨[],Ev.succ ?_,List.nodup_nil,fun C=>⟨fun h=>absurd h (by simp),?_⟩⟩
    · simp only [impl_growCliques.l0]
      exact Ev.pos rfl (Ev.now _)
    · rintro ⟨S,hS,hs,_⟩
      exact absurd (bits_ext fun i=>by
        rw [Nat.zero_testBit]
        cases h:S.testBit i
        · rfl
        · have:=hs i h
          rw [Nat.zero_testBit] at this
          exact this.symm) hS
  | succ N ih =>
    intro op hop hop2 ch hch hd
    by_cases h0:op = 0
    · exact ih op (by omega) hop2 ch hch hd
    have hlow:=lowest op h0 (by omega)
    have hlt:=and_pred_lt op h0
    generalize hop' : op &&& (op - 1) = op' at hlow hlt
    generalize hii:Lib.ctz 64 op = i at hlow
    obtain ⟨hi,hbelow,hi64,hbits⟩:=hlow
    have hin:i < n:=by
      by_cases c:i < n
      · exact c
      · rw [bit_of_lt hop2 (by omega)] at hi
        exact absurd hi (by simp)
    have hp2:(2:Nat) ^ i < 2 ^ n:=Nat.pow_lt_pow_right (by decide) hin
    have hci:ch.testBit i = false:=by
      cases c:ch.testBit i
      · rfl
      · rw [hd i c] at hi
        exact absurd hi (by simp)
    have hor:ch ||| 2 ^ i < 2 ^ n:=Nat.or_lt_two_pow hch hp2
    have hand:op' &&& mk n (g i) ≤ op' := Nat.and_le_left
    obtain ⟨L1,e1,n1,m1⟩:=ih (op' &&& mk n (g i)) (by omega) (by omega) (ch ||| 2 ^ i) hor (fun j hj=>by
      rw [Nat.testBit_and,hbits]
      rw [Nat.testBit_or,testBit_one] at hj
      by_cases e:j = i
      · simp [e]
      · rw [decide_eq_false (fun h=>e h.symm),Bool.or_false] at hj
        rw [hd j hj]
        rfl)
    obtain ⟨L2,e2,n2,m2⟩:=ih op' (by omega) (by omega) ch hch (fun j hj=>by
      rw [hbits,hd j hj]
      rfl)
    have hb1:Go.bits .or .i64 (ch:Int) ((2 ^ i:Nat):Int) = ((ch ||| 2 ^ i:Nat):Int):=b_or ch (2 ^ i) (by omega) (by omega)
    have hb2:Go.bits .and .i64 (op:Int) (wrap64 ((op:Int) - 1)) = ((op' : Nat):Int):=by
      rw [w64' (by omega),show (op:Int) - 1 = ((op - 1:Nat):Int) by omega,b_and op (op - 1) (by omega) (by omega),hop']
    have hmk:=mk_lt n (g i)
    have hb3:Go.bits .and .i64 (op' : Int) ((mk n (g i):Nat):Int) = ((op' &&& mk n (g i):Nat):Int):=b_and op' (mk n (g i)) (by omega) (by omega)
    refine ⟨(ch ||| 2 ^ i) :: (L1 ++ L2),Ev.succ ?_,?_,?_⟩
    · simp only [impl_growCliques.l0]
      refine Ev.neg (by omega) ?_
      rw [least_eq op (by omega),hii]
      refine Ev.some_bind (Ev.pos (by omega) (Ev.pos (by rw [mat_length];omega) ?_))
      rw [one_eq i (by omega)]
      refine Ev.some_bind ?_
      rw [hb1,hb2,rd_mat n g i hin,hb3]
      have:=Ev.bind e1 (f:=fun k xs=>(impl_growCliques.l0 (mat n g) k (ch:Int) (op' : Int)).bind fun ys=>some (((ch ||| 2 ^ i:Nat):Int) :: (xs ++ ys))) (Ev.bind e2 (Ev.now _))
      rw [ints_cons,ints_append]
      exact this
    · rw [List.nodup_cons,List.nodup_append]
      refine ⟨?_,n1,n2,?_⟩
      · intro hm
        rcases List.mem_append.1 hm with hm | hm
        · obtain ⟨S,hS,hs,_,hC⟩:=(m1 _).1 hm
          refine hS (bits_ext fun j=>?_)
          rw [Nat.zero_testBit]
          cases c:S.testBit j
          · rfl
          · have h1:=hs j c
            rw [Nat.testBit_and,hbits] at h1
            have h2:=congrArg (fun z=>Nat.testBit z j) hC
            simp only [Nat.testBit_or,testBit_one,c,Bool.or_true] at h2
            simp only [Bool.and_eq_true,decide_eq_true_eq] at h1
            rw [decide_eq_false (fun h=>h1.1.2 h.symm),Bool.or_false] at h2
            rw [hd j h2] at h1
            exact absurd h1.1.1 (by simp)
        · obtain ⟨S,hS,hs,_,hC⟩:=(m2 _).1 hm
          have h2:=congrArg (fun z=>Nat.testBit z i) hC
          simp only [Nat.testBit_or,testBit_one,decide_true,Bool.or_true,hci,Bool.false_or] at h2
          have h1:=hs i h2.symm
          rw [hbits] at h1
          simp at h1
      · intro a ha b hb hab
        subst hab
        obtain ⟨S,_,_,_,hC⟩:=(m1 _).1 ha
        obtain ⟨T,_,hs,_,hD⟩:=(m2 _).1 hb
        have h2:=congrArg (fun z=>Nat.testBit z i) (hC.symm.trans hD)
        simp only [Nat.testBit_or,testBit_one,decide_true,Bool.or_true,Bool.true_or,hci,Bool.false_or] at h2
        have h1:=hs i h2.symm
        rw [hbits] at h1
        simp at h1
    · intro C
      rw [List.mem_cons,List.mem_append,m1,m2]
      constructor
      · rintro (rfl | ⟨S,hS,hs,hc,rfl⟩ | ⟨S,hS,hs,hc,rfl⟩)
        · refine ⟨2 ^ i,by have:=Nat.two_pow_pos i;omega,fun j hj=>?_,fun a b hab ha hb=>?_,rfl⟩
          · rw [testBit_one] at hj
            rw [← of_decide_eq_true hj]
            exact hi
          · rw [testBit_one] at ha hb
            have h1:=of_decide_eq_true ha
            have h2:=of_decide_eq_true hb
            omega
        · refine ⟨2 ^ i ||| S,fun h=>hS ?_,fun j hj=>?_,fun a b hab ha hb=>?_,by rw [Nat.or_assoc]⟩
          · refine bits_ext fun j=>?_
            have:=congrArg (fun z=>Nat.testBit z j) h
            simp only [Nat.testBit_or,Nat.zero_testBit,Bool.or_eq_false_iff] at this
            rw [this.2,Nat.zero_testBit]
          · rw [Nat.testBit_or,testBit_one,Bool.or_eq_true,decide_eq_true_eq] at hj
            rcases hj with rfl | hj
            · exact hi
            · have:=hs j hj
              rw [Nat.testBit_and,hbits] at this
              simp only [Bool.and_eq_true] at this
              exact this.1.1
          · rw [Nat.testBit_or,testBit_one,Bool.or_eq_true,decide_eq_true_eq] at ha hb
            have hS' : ∀ j,S.testBit j = true → i < j ∧ g i j = true:=fun j hj=>by
              have:=hs j hj
              rw [Nat.testBit_and,hbits,testBit_mk] at this
              simp only [Bool.and_eq_true,decide_eq_true_eq] at this
              refine ⟨?_,this.2.2⟩
              by_cases c:j < i
              · rw [hbelow j c] at this
                exact absurd this.1.1 (by simp)
              · have:=this.1.2
                omega
            rcases ha with rfl | ha
            · rcases hb with rfl | hb
              · omega
              · exact (hS' b hb).2
            · rcases hb with rfl | hb
              · have:=(hS' a ha).1
                omega
              · exact hc a b hab ha hb
        · refine ⟨S,hS,fun j hj=>?_,hc,rfl⟩
          have:=hs j hj
          rw [hbits] at this
          simp only [Bool.and_eq_true] at this
          exact this.1
      · rintro ⟨S,hS,hs,hc,rfl⟩
        by_cases c:S.testBit i = true
        · by_cases z:S = 2 ^ i
          · exact .inl (by rw [z])
          · have hSn : ∀ j, S.testBit j = true → j < n := fun j hj => by
              by_cases q:j < n
              · exact q
              · have:=hs j hj
                rw [bit_of_lt hop2 (by omega)] at this
                exact absurd this (by simp)
            have hb:∀ j,(mk n fun j=>S.testBit j && !decide (j = i)).testBit j = (S.testBit j && !decide (j = i)):=fun j=>by
              rw [testBit_mk]
              cases q:S.testBit j
              · simp
              · rw [decide_eq_true (hSn j q),Bool.true_and]
            refine .inr (.inl ⟨mk n fun j=>S.testBit j && !decide (j = i),fun h=>z (bits_ext fun j=>?_),fun j hj=>?_,fun a b hab ha hb' => ?_,bits_ext fun j=>?_⟩)
            · have h1:=hb j
              rw [h,Nat.zero_testBit] at h1
              rw [testBit_one]
              by_cases e:j = i
              · subst e
                rw [c]
                simp
              · simp only [e,decide_false,Bool.not_false,Bool.and_true] at h1
                rw [← h1,decide_eq_false (fun h=>e h.symm)]
            · rw [hb,Bool.and_eq_true,Bool.not_eq_true', decide_eq_false_iff_not] at hj
              rw [Nat.testBit_and,hbits,testBit_mk,hs j hj.1,decide_eq_true hj.2,decide_eq_true (hSn j hj.1)]
              have hij:i < j:=by
                by_cases q:j < i
                · have:=hs j hj.1
                  rw [hbelow j q] at this
                  exact absurd this (by simp)
                · have:=hj.2
                  omega
              rw [hc i j hij c hj.1]
              rfl
            · rw [hb,Bool.and_eq_true] at ha hb'
              exact hc a b hab ha.1 hb'.1
            · rw [Nat.testBit_or,Nat.testBit_or,Nat.testBit_or,hb,testBit_one]
              by_cases e:j = i
              · subst e
                simp [c]
              · have e' : ¬ i = j:=fun h=>e h.symm
                simp [e,e']
        · refine .inr (.inr ⟨S,hS,fun j hj=>?_,hc,rfl⟩)
          have e' : j ≠ i:=fun e=>c (by rw [← e];exact hj)
          rw [hbits,hs j hj]
          simp [e']
theorem mat_row1 (n:Nat) (h h' : Nat → Nat → Bool) (i:Nat) (hi:i < n) (v:Nat) (hv:v = mk n (h' i)) (ho:∀ a b,a < n → b < n → a ≠ i → h a b = h' a b):(mat n h).set i (v:Int) = mat n h' := by
  apply List.ext_getElem
  · simp
  · intro q h1 h2
    have hq:q < n:=by simpa using h2
    rw [List.getElem_set]
    by_cases e:i = q
    · subst e
      rw [if_pos rfl]
      simp [mat,hv]
    · rw [if_neg e]
      simp only [mat,List.getElem_map,List.getElem_range]
      rw [mk_congr (fun b hb=>ho q b hq hb (fun g=>e g.symm))]
theorem mutual_ev (n:Nat) (hn:n ≤ 24) (f:Nat → Nat → Bool):Ev (fun k=>impl_mutual.f k (mat n f)) (mat n fun a b=>f b a && (f a b && !decide (b = a))):=by
  have h62:=pow_lt62 hn
  have loop:∀ (d i:Nat),i + d = n → Ev (fun k=>impl_mutual.l0 k (mat n f) (mat n fun a b=>f b a && (decide (i ≤ a) || (f a b && !decide (b = a)))) (n:Int) (i:Int)) (mat n fun a b=>f b a && (f a b && !decide (b = a))):=by
    intro d
    induction d with
    | zero =>
      intro i hi
      refine Ev.succ ?_
      simp only [impl_mutual.l0]
      refine Ev.neg (by omega) ?_
      rw [mat_congr (f:=fun a b=>f b a && (decide (i ≤ a) || (f a b && !decide (b = a)))) (g:=fun a b=>f b a && (f a b && !decide (b = a))) (fun a b ha hb=>by rw [decide_eq_false (by omega:¬ i ≤ a),Bool.false_or])]
      exact Ev.now _
    | succ d ih =>
      intro i hi
      have hin:i < n:=by omega
      have hp2:(2:Nat) ^ i < 2 ^ n:=Nat.pow_lt_pow_right (by decide) hin
      have:=ih (i + 1) (by omega)
      refine Ev.succ ?_
      simp only [impl_mutual.l0]
      refine Ev.pos (by omega) (Ev.pos (by omega) (Ev.pos (by rw [mat_length];omega) (Ev.pos (by rw [mat_length];omega) ?_)))
      rw [one_eq i (by omega)]
      refine Ev.some_bind ?_
      have h1:=mk_lt n (f i)
      have h2:=mk_lt n fun b=>f b i && (decide (i ≤ i) || (f i b && !decide (b = i)))
      have h3:=without_le (mk n (f i)) (2 ^ i)
      rw [rd_mat n _ i hin,rd_mat n _ i hin,b_andNot _ _ (by omega) (by omega),b_and _ _ (by omega) (by omega),Int.toNat_natCast,mat_row1 n _ (fun a b=>f b a && (decide (i + 1 ≤ a) || (f a b && !decide (b = a)))) i hin _ ?_ ?_,w64' (by omega)]
      · exact this
      · refine bits_ext fun j=>?_
        rw [Nat.testBit_and,testBit_without _ _ _ (by omega) (by omega),testBit_mk,testBit_mk,testBit_mk,testBit_one]
        by_cases e:j = i
        · subst e
          simp
        · have e' : ¬ i = j:=fun h=>e h.symm
          simp only [e,e', decide_false,Nat.le_refl,decide_true,Bool.true_or,Bool.and_true,Bool.not_false,show ¬ i + 1 ≤ i by omega,Bool.false_or]
          cases decide (j < n) <;> cases f j i <;> cases f i j <;> rfl
      · intro a b ha hb hai
        by_cases e:i ≤ a
        · rw [decide_eq_true e,decide_eq_true (show i + 1 ≤ a by omega)]
        · rw [decide_eq_false e,decide_eq_false (show ¬ i + 1 ≤ a by omega)]
  simp only [impl_mutual.f]
  refine Ev.bind (converse_ev n hn f) ?_
  rw [mat_length]
  have:=loop n 0 (by omega)
  rw [mat_congr (f:=fun a b=>f b a && (decide (0 ≤ a) || (f a b && !decide (b = a)))) (g:=fun a b=>f b a) (fun a b ha hb=>by rw [decide_eq_true (Nat.zero_le a),Bool.true_or,Bool.and_true])] at this
  exact this
theorem complement_ev (n:Nat) (hn:n ≤ 24) (f:Nat → Nat → Bool):Ev (fun k=>impl_complement.f k (n:Int) (mat n f)) ((n:Int),mat n fun a b=>!f a b || decide (a = b)):=by
  have h62:=pow_lt62 hn
  have loop:∀ (d i:Nat),i + d = n → Ev (fun k=>impl_complement.l0 k (mat n f) (n:Int) (i:Int) (n:Int) (mat n f) (n:Int) ((List.range i).map fun a=>((mk n (fun b=>!f a b || decide (a = b)):Nat):Int))) ((n:Int),mat n fun a b=>!f a b || decide (a = b)):=by
    intro d
    induction d with
    | zero =>
      intro i hi
      obtain rfl:i = n:=by omega
      refine Ev.succ ?_
      simp only [impl_complement.l0]
      exact Ev.neg (by omega) (Ev.now _)
    | succ d ih =>
      intro i hi
      have hin:i < n:=by omega
      have hp2:(2:Nat) ^ i < 2 ^ n:=Nat.pow_lt_pow_right (by decide) hin
      have:=ih (i + 1) (by omega)
      refine Ev.succ ?_
      simp only [impl_complement.l0]
      refine Ev.pos (by omega) (Ev.pos (by omega) (Ev.pos (by rw [mat_length];omega) ?_))
      rw [allLetters_eq n hn]
      refine Ev.some_bind ?_
      rw [one_eq i (by omega)]
      refine Ev.some_bind (Ev.pos (by simp;omega) ?_)
      have h1:=mk_lt n (f i)
      have h2:=mk_lt n fun _=>true
      have h3:=without_le (mk n fun _=>true) (mk n (f i))
      rw [rd_mat n _ i hin,b_andNot _ _ (by omega) (by omega),b_or _ _ (by omega) (by omega),w64' (by omega)]
      have e:without (mk n fun _=>true) (mk n (f i)) ||| 2 ^ i = mk n fun b=>!f i b || decide (i = b):=bits_ext fun j=>by
        rw [Nat.testBit_or,testBit_without _ _ _ (by omega) (by omega),testBit_mk,testBit_mk,testBit_mk,testBit_one]
        by_cases q:i = j
        · subst q
          simp [hin]
        · simp only [q,decide_false,Bool.or_false]
          cases decide (j < n) <;> cases f i j <;> rfl
      rw [e]
      rw [List.range_succ,List.map_append] at this
      exact this
  simp only [impl_complement.f]
  rw [mat_length]
  exact loop n 0 (by omega)
theorem stepsOf_ev (n:Nat) (hn:n ≤ 8) (f:Nat → Nat → Bool) (hs:∀ a b,f a b = f b a) (hr:∀ a,a < n → f a a = true):Ev (fun k=>impl_stepsOf.f k (n:Int) (mat n f)) (ints (stepsP n f)):=by
  have h8:(2:Nat) ^ n ≤ 2 ^ 8:=Nat.pow_le_pow_right (by decide) hn
  have h24:n ≤ 24:=by omega
  have hpos:=Nat.two_pow_pos n
  simp only [impl_stepsOf.f]
  refine Ev.bind (complement_ev n h24 f) ?_
  simp only [impl_cliques.f]
  obtain ⟨L,he,hn1,hm⟩:=grow_ev n h24 (fun a b=>(!f b a || decide (b = a)) && ((!f a b || decide (a = b)) && !decide (b = a))) (2 ^ n - 1) (2 ^ n - 1) (Nat.le_refl _) (by omega) 0 hpos (fun i h=>by rw [Nat.zero_testBit] at h;exact absurd h (by simp))
  have hmem:∀ C,C ∈ 0 :: L ↔ C ∈ stepsP n f:=fun C=>by
    simp only [stepsP,List.mem_filter,List.mem_range,List.mem_cons,hm,stepP_iff n f hr]
    constructor
    · rintro (rfl | ⟨S,_,h1,h2,rfl⟩)
      · exact ⟨hpos,fun a b _ _ h=>by rw [Nat.zero_testBit] at h;exact absurd h (by simp)⟩
      · rw [Nat.zero_or]
        refine ⟨lt_of_bits fun i hi=>?_,fun a b ha hb hSa hSb hab=>?_⟩
        · cases c:S.testBit i
          · rfl
          · have:=h1 i c
            rw [testBit_full] at this
            have:=of_decide_eq_true this
            omega
        · rcases Nat.lt_or_gt_of_ne hab with q | q
          · have:=h2 a b q hSa hSb
            simp only [Bool.and_eq_true,Bool.or_eq_true,Bool.not_eq_true', decide_eq_true_eq,decide_eq_false_iff_not] at this
            rcases this.2.1 with z | z
            · exact z
            · exact absurd z hab
          · have:=h2 b a q hSb hSa
            simp only [Bool.and_eq_true,Bool.or_eq_true,Bool.not_eq_true', decide_eq_true_eq,decide_eq_false_iff_not] at this
            rcases this.1 with z | z
            · exact z
            · exact absurd z hab
    · rintro ⟨h1,h2⟩
      by_cases z:C = 0
      · exact .inl z
      · refine .inr ⟨C,z,fun i hi=>?_,fun a b hab ha hb=>?_,by rw [Nat.zero_or]⟩
        · rw [testBit_full]
          refine decide_eq_true ?_
          by_cases q:i < n
          · exact q
          · rw [bit_of_lt h1 (by omega)] at hi
            exact absurd hi (by simp)
        · have hlt : ∀ i, C.testBit i = true → i < n := fun i hi => by
            by_cases q:i < n
            · exact q
            · rw [bit_of_lt h1 (by omega)] at hi
              exact absurd hi (by simp)
          have e1:=h2 a b (hlt a ha) (hlt b hb) ha hb (by omega)
          have e2:f b a = false:=(hs b a).trans e1
          simp [e1,e2,show ¬ b = a by omega]
  have hnd:(0 :: L).Nodup:=by
    refine List.nodup_cons.2 ⟨fun h=>?_,hn1⟩
    obtain ⟨S,h0,_,_,h3⟩:=(hm 0).1 h
    rw [Nat.zero_or] at h3
    exact h0 h3.symm
  have hsort:=sort_eq hnd (List.Pairwise.filter (stepP n f) List.pairwise_lt_range) hmem
  have hlen:L.length + 1 ≤ 2 ^ n:=by
    have h1:=congrArg List.length hsort
    rw [List.length_mergeSort,ints_length,ints_length] at h1
    have h2:=List.length_filter_le (stepP n f) (List.range (2 ^ n))
    rw [List.length_range] at h2
    rw [List.length_cons] at h1
    omega
  refine Ev.bind (f:=fun k (b:List Int × Int)=>some b.1) (a:=(ints (stepsP n f),0)) ?_ (Ev.now _)
  refine Ev.bind (mutual_ev n h24 _) ?_
  simp only [impl_length_int64.f]
  refine Ev.some_bind ?_
  rw [mat_length,one_eq n (by omega)]
  refine Ev.some_bind ?_
  rw [w64' (by omega),show ((2 ^ n:Nat):Int) - 1 = ((2 ^ n - 1:Nat):Int) by omega]
  refine Ev.bind he (Ev.pos (by rw [ints_length];omega) ?_)
  rw [ints_cons] at hsort
  rw [show (0:Int) = ((0:Nat):Int) from rfl,hsort]
  exact Ev.now _
theorem size_eq (m:Nat) (hm:m < 256):impl_size.f (m:Int) = some ((pcP m:Nat):Int):=by
  have h1:∀ m:Nat,m < 256 → pcP m = m % 2 + (m / 2 % 2 + (m / 4 % 2 + (m / 8 % 2 + (m / 16 % 2 + (m / 32 % 2 + (m / 64 % 2 + m / 128 % 2)))))):=fun m hm=>by
    rw [pcP_step m,pcP_step (m / 2),pcP_step (m / 2 / 2),pcP_step (m / 2 / 2 / 2),pcP_step (m / 2 / 2 / 2 / 2),pcP_step (m / 2 / 2 / 2 / 2 / 2),pcP_step (m / 2 / 2 / 2 / 2 / 2 / 2),pcP_step (m / 2 / 2 / 2 / 2 / 2 / 2 / 2)]
    rw [show m / 2 / 2 / 2 / 2 / 2 / 2 / 2 / 2 = 0 by omega,pcP_zero]
    omega
  rw [h1 m hm]
  have h2:((List.range 256).all fun m=>impl_size.f (m:Int) == some ((m % 2 + (m / 2 % 2 + (m / 4 % 2 + (m / 8 % 2 + (m / 16 % 2 + (m / 32 % 2 + (m / 64 % 2 + m / 128 % 2)))))):Nat):Int)) = true:=by kernel_rfl
  exact beq_iff_eq.1 (List.all_eq_true.1 h2 m (List.mem_range.2 hm))
theorem rd_snoc1 (l:List Int) (i:Nat):rd (l ++ [0]) (i:Int) = rd l (i:Int):=by
  rw [rd_nat,rd_nat,List.getD_eq_getElem?_getD,List.getD_eq_getElem?_getD]
  rcases Nat.lt_trichotomy i l.length with h | h | h
  · rw [List.getElem?_append_left h]
  · rw [h,List.getElem?_append_right (Nat.le_refl _),List.getElem?_eq_none (Nat.le_refl _)];simp
  · rw [List.getElem?_append_right (by omega),List.getElem?_eq_none (by simp;omega),List.getElem?_eq_none (by omega)]
theorem rd_zeros (l:List Int) (y i:Nat):rd (l ++ List.replicate y 0) (i:Int) = rd l (i:Int):=by
  induction y with
  | zero=>simp
  | succ y ihy=>rw [List.replicate_succ', ← List.append_assoc,rd_snoc1,ihy]
theorem addK_bd (out:List Int) (B:Int) (hB:0 ≤ B) (m:Nat) (hb:∀ i:Nat,-B ≤ rd out (i:Int) ∧ rd out (i:Int) ≤ B):∀ i:Nat,-(B + 1) ≤ rd (addK out m) (i:Int) ∧ rd (addK out m) (i:Int) ≤ B + 1:=fun i=>by
  have hb1:=hb i
  have hb2:=hb m
  unfold addK
  rw [rd_nat,List.getD_eq_getElem?_getD]
  by_cases hi:m = i
  · subst hi
    rw [List.getElem?_set_self (by simp;omega)]
    simp only [Option.getD_some]
    omega
  · rw [List.getElem?_set_ne hi,← List.getD_eq_getElem?_getD,← rd_nat,rd_zeros]
    omega
theorem poly_l0 (ms : List Nat) (hl : ms.length ≤ 256) (hms : ∀ m ∈ ms, m < 256) : ∀ (suf pre : List Nat) (out : List Int), pre ++ suf = ms → out.length ≤ 100 → (∀ i : Nat, -(pre.length : Int) ≤ rd out (i : Int) ∧ rd out (i : Int) ≤ (pre.length : Int)) →
    Ev (fun k=>impl_cliquePolynomial.l0 k out (ints ms) (ms.length:Int) (pre.length:Int)) (suf.foldl (fun out m=>addK out (pcP m)) out) ∧ ∀ i:Nat,-(ms.length:Int) ≤ rd (suf.foldl (fun out m=>addK out (pcP m)) out) (i:Int) ∧ rd (suf.foldl (fun out m=>addK out (pcP m)) out) (i:Int) ≤ (ms.length:Int):=by
  intro suf
  induction suf with
  | nil =>
    intro pre out hp ho hb
    rw [List.append_nil] at hp
    subst hp
    refine ⟨Ev.succ ?_,hb⟩
    simp only [impl_cliquePolynomial.l0]
    exact Ev.neg (by omega) (Ev.now _)
  | cons m suf ih =>
    intro pre out hp ho hb
    have hlen:pre.length + suf.length + 1 = ms.length:=by rw [← hp];simp;omega
    have hm:m < 256:=hms m (by simp [← hp])
    have hpc:=pcP_le 8 m hm
    obtain ⟨h1,h2⟩:=ih (pre ++ [m]) (addK out (pcP m)) (by simpa using hp) (by rw [addK_length];omega) (fun i=>by
      have:=addK_bd out (pre.length:Int) (by omega) (pcP m) hb i
      simp only [List.length_append,List.length_cons,List.length_nil]
      omega)
    rw [List.foldl_cons]
    refine ⟨Ev.succ ?_,h2⟩
    simp only [impl_cliquePolynomial.l0]
    refine Ev.pos (by omega) (Ev.pos (by omega) (Ev.pos (by rw [ints_length];omega) ?_))
    have r1:rd (ints ms) (pre.length:Int) = (m:Int):=by rw [← hp];exact rd_mid pre suf m
    rw [r1]
    have inner:∀ (e z:Nat),z + e = pcP m + 1 - out.length → Ev (fun k=>impl_cliquePolynomial.l1 k (out ++ List.replicate z 0) (m:Int) (ints ms) (ms.length:Int) (pre.length:Int)) (suf.foldl (fun out m=>addK out (pcP m)) (addK out (pcP m))):=by
      intro e
      induction e with
      | zero =>
        intro z hz
        have hz' : z = pcP m + 1 - out.length:=by omega
        refine Ev.succ ?_
        simp only [impl_cliquePolynomial.l1,impl_length_int64.f,size_eq m hm]
        refine Ev.some_bind (Ev.some_bind (Ev.neg (by simp;omega) (Ev.some_bind (Ev.pos (by omega) (Ev.pos (by simp;omega) (Ev.some_bind ?_))))))
        have hb1:=hb (pcP m)
        have e2:Int.tmod ((pcP m:Nat):Int) 2 = ((pcP m % 2:Nat):Int):=by rw [Int.tmod_eq_emod_of_nonneg (by omega)];omega
        rw [rd_zeros,e2,w64' (x:=2 * ((pcP m % 2:Nat):Int)) (by omega),w64' (x:=1 - 2 * ((pcP m % 2:Nat):Int)) (by omega),w64' (x:=rd out ((pcP m:Nat):Int) + (1 - 2 * ((pcP m % 2:Nat):Int))) (by omega),w64' (x:=(pre.length:Int) + 1) (by omega),Int.toNat_natCast]
        rw [show (pre ++ [m]).length = pre.length + 1 by simp] at h1
        unfold addK at h1 ⊢
        rw [← hz'] at h1 ⊢
        rw [show rd out ((pcP m:Nat):Int) + (1 - 2 * ((pcP m % 2:Nat):Int)) = rd out ((pcP m:Nat):Int) + 1 - 2 * ((pcP m % 2:Nat):Int) by omega]
        exact h1
      | succ e ihe =>
        intro z hz
        refine Ev.succ ?_
        simp only [impl_cliquePolynomial.l1,impl_length_int64.f,size_eq m hm]
        refine Ev.some_bind (Ev.some_bind (Ev.pos (by simp;omega) (Ev.pos (by simp;omega) ?_)))
        have:=ihe (z + 1) (by omega)
        rw [List.replicate_succ', ← List.append_assoc] at this
        exact this
    have:=inner (pcP m + 1 - out.length) 0 (by omega)
    simpa using this
theorem poly_ev (n:Nat) (hn:n ≤ 8) (f:Nat → Nat → Bool) (hs:∀ a b,f a b = f b a) (hr:∀ a,a < n → f a a = true):Ev (fun k=>impl_cliquePolynomial.f k (n:Int) (mat n f)) (cliqueP (stepsP n f)) ∧ ∀ x ∈ cliqueP (stepsP n f),-1000 ≤ x ∧ x ≤ 1000:=by
  have h8:(2:Nat) ^ n ≤ 2 ^ 8:=Nat.pow_le_pow_right (by decide) hn
  have hl:=List.length_filter_le (stepP n f) (List.range (2 ^ n))
  rw [List.length_range] at hl
  obtain ⟨h1,h2⟩:=poly_l0 (stepsP n f) (by unfold stepsP;omega) (fun m hm=>by have:=List.mem_range.1 (List.mem_filter.1 hm).1;omega) (stepsP n f) [] [] rfl (by simp) (fun i=>by rw [rd_nat];simp)
  refine ⟨?_,fun x hx=>?_⟩
  · simp only [impl_cliquePolynomial.f]
    refine Ev.bind (stepsOf_ev n hn f hs hr) ?_
    rw [ints_length]
    exact h1
  · obtain ⟨i,hi,rfl⟩:=List.getElem_of_mem hx
    have h3:=h2 i
    have e:rd (cliqueP (stepsP n f)) (i:Int) = (cliqueP (stepsP n f))[i]:=by
      rw [rd_nat,List.getD_eq_getElem?_getD,List.getElem?_eq_getElem hi]
      rfl
    have h4:(stepsP n f).length ≤ 256:=by unfold stepsP;omega
    rw [← e]
    show _ ≤ rd (List.foldl _ [] _) _ ∧ rd (List.foldl _ [] _) _ ≤ _
    omega
def capN (a:Nat):Nat:=min a 1000000000000001
def entT (m:Nat) (f:Nat → Nat → Bool) (j M:Nat):Int:=((capN (aP m f j fun b=>M.testBit b):Nat):Int)
def rowT (m:Nat) (f:Nat → Nat → Bool) (j M:Nat):List Int:=(List.range M).map (entT m f j)
def rowsT (m:Nat) (f:Nat → Nat → Bool) (j:Nat):List (List Int):=(List.range j).map fun i=>rowT m f i (2 ^ m)
theorem rowT_length (m:Nat) (f:Nat → Nat → Bool) (j M:Nat):(rowT m f j M).length = M:=by simp [rowT]
theorem rowT_succ (m:Nat) (f:Nat → Nat → Bool) (j M:Nat):rowT m f j (M + 1) = rowT m f j M ++ [entT m f j M]:=by simp [rowT,List.range_succ]
theorem rowsT_length (m:Nat) (f:Nat → Nat → Bool) (j:Nat):(rowsT m f j).length = j:=by simp [rowsT]
theorem rowsT_succ (m:Nat) (f:Nat → Nat → Bool) (j:Nat):rowsT m f (j + 1) = rowsT m f j ++ [rowT m f j (2 ^ m)]:=by simp [rowsT,List.range_succ]
theorem rd_rowT (m:Nat) (f:Nat → Nat → Bool) (j M i:Nat) (h:i < M):rd (rowT m f j M) (i:Int) = entT m f j i:=by
  rw [rd_lt _ _ (by rw [rowT_length];exact h)]
  simp [rowT]
theorem rd_rowsT (m:Nat) (f:Nat → Nat → Bool) (j i:Nat) (h:i < j):rd_L2 (rowsT m f j) (i:Int) = rowT m f i (2 ^ m):=by
  unfold rd_L2
  rw [Int.toNat_natCast,List.getD_eq_getElem?_getD,List.getElem?_eq_getElem (by rw [rowsT_length];exact h)]
  simp [rowsT]
theorem capN_le (a:Nat):capN a ≤ 1000000000000001:=Nat.min_le_right _ _
theorem sumN_cap (g:Nat → Nat):∀ c,sumN c (fun e=>capN (g e)) ≤ c * 1000000000000001:=by
  intro c
  induction c with
  | zero=>exact Nat.zero_le _
  | succ c ih =>
    simp only [sumN]
    have:=capN_le (g c)
    rw [Nat.succ_mul]
    omega
theorem cap_sum (g:Nat → Nat):∀ c,sumN c (fun e=>capN (g e)) ≤ sumN c g ∧ (sumN c (fun e=>capN (g e)) ≤ 1000000000000000 → sumN c (fun e=>capN (g e)) = sumN c g):=by
  intro c
  induction c with
  | zero=>exact ⟨Nat.le_refl _,fun _=>rfl⟩
  | succ c ih =>
    obtain ⟨h1,h2⟩:=ih
    simp only [sumN]
    unfold capN at h1 h2 ⊢
    refine ⟨by omega,fun h=>?_⟩
    have:=h2 (by omega)
    omega
theorem cap_of_sum (g:Nat → Nat) (c:Nat):capN (sumN c g) = if 1000000000000000 < sumN c (fun e=>capN (g e)) then 1000000000000001 else sumN c (fun e=>capN (g e)):=by
  obtain ⟨h1,h2⟩:=cap_sum g c
  split
  · unfold capN at *
    omega
  · rename_i h
    rw [h2 (by omega)] at h ⊢
    unfold capN
    omega
def addT (m:Nat) (f:Nat → Nat → Bool) (j M c:Nat):Nat:=if M.testBit c = true then 0 else aP m f j fun b=>(M.testBit b || decide (b < c)) && !f c b
theorem entT_succ (m:Nat) (f:Nat → Nat → Bool) (j M:Nat):entT m f (j + 1) M = if 1000000000000000 < ((sumN m (fun e=>capN (addT m f j M e)):Nat):Int) then 1000000000000001 else ((sumN m (fun e=>capN (addT m f j M e)):Nat):Int):=by
  unfold entT
  have:aP m f (j + 1) (fun b=>M.testBit b) = sumN m (addT m f j M):=rfl
  rw [this,cap_of_sum]
  split
  · rw [if_pos (by omega)];rfl
  · rw [if_neg (by omega)]
theorem entT_after (m:Nat) (f:Nat → Nat → Bool) (j M c:Nat) (h:M.testBit c = false):entT m f j (afterP m f M c) = ((capN (addT m f j M c):Nat):Int):=by
  unfold entT addT
  rw [if_neg (by simp [h]),aP_congr m f j (q:=fun b=>(M.testBit b || decide (b < c)) && !f c b) (fun b hb=>by
    unfold afterP
    rw [testBit_mk,decide_eq_true hb,Bool.true_and])]
theorem tails_l3 (m : Nat) (hm : m ≤ 8) (f : Nat → Nat → Bool) (n : Int) (j M : Nat) (hj : j ≤ 100) (hM : M < 2 ^ m) (R : List (List Int))
    (h:Ev (fun k=>spec_l06Tails.l2 k n ((2 ^ m:Nat):Int) (rowsT m f (j + 1)) ((j + 1:Nat):Int) (rowT m f (j + 1) (M + 1)) ((M + 1:Nat):Int) (m:Int) (mat m f)) R) :
    ∀ (d c:Nat),c + d = m → Ev (fun k=>spec_l06Tails.l3 k n ((2 ^ m:Nat):Int) (rowsT m f (j + 1)) ((j + 1:Nat):Int) (rowT m f (j + 1) M) (M:Int) ((sumN c (fun e=>capN (addT m f j M e)):Nat):Int) (c:Int) (m:Int) (mat m f)) R:=by
  have h8:(2:Nat) ^ m ≤ 2 ^ 8:=Nat.pow_le_pow_right (by decide) hm
  intro d
  induction d with
  | zero =>
    intro c hc
    obtain rfl:c = m:=by omega
    have hb:=sumN_cap (addT c f j M) c
    refine Ev.succ ?_
    simp only [spec_l06Tails.l3]
    refine Ev.neg (by omega) ?_
    rw [rowT_succ,entT_succ] at h
    rw [w64' (x:=(M:Int) + 1) (by omega),show (M:Int) + 1 = ((M + 1:Nat):Int) by omega]
    refine Ev.ite (fun q=>?_) (fun q=>?_)
    · rw [if_pos q] at h
      refine Ev.pos (by rw [rowT_length];omega) h
    · rw [if_neg q] at h
      refine Ev.pos (by rw [rowT_length];omega) h
  | succ d ih =>
    intro c hc
    have hcm:c < m:=by omega
    have hb:=sumN_cap (addT m f j M) c
    have hcb:c * 1000000000000001 ≤ 8 * 1000000000000001:=Nat.mul_le_mul_right _ (by omega)
    have hcap:=capN_le (addT m f j M c)
    have:=ih (c + 1) (by omega)
    refine Ev.succ ?_
    simp only [spec_l06Tails.l3]
    refine Ev.pos (by omega) ?_
    rw [l01Bit_eq M c (by omega) (by omega)]
    rw [w64' (x:=(c:Int) + 1) (by omega),show (c:Int) + 1 = ((c + 1:Nat):Int) by omega,w64' (x:=((j + 1:Nat):Int) - 1) (by omega),show ((j + 1:Nat):Int) - 1 = (j:Int) by omega]
    refine Ev.some_bind ?_
    by_cases hbit:M.testBit c = true
    · refine Ev.pos hbit ?_
      simp only [sumN] at this
      rw [show capN (addT m f j M c) = 0 by unfold addT;rw [if_pos hbit];rfl,Nat.add_zero] at this
      exact this
    · have hbit' : M.testBit c = false:=by simpa using hbit
      have ha:afterP m f M c < 2 ^ m:=mk_lt _ _
      refine Ev.neg hbit (Ev.pos (by omega) (Ev.pos (by rw [rowsT_length];omega) ?_))
      rw [l06After_eq m (by omega) f _ M c hM hcm]
      refine Ev.some_bind ?_
      rw [rd_rowsT m f (j + 1) j (by omega)]
      refine Ev.pos (by omega) (Ev.pos (by rw [rowT_length];omega) ?_)
      rw [rd_rowT m f j (2 ^ m) _ ha,entT_after m f j M c hbit', w64' (by omega)]
      simp only [sumN] at this
      rw [Int.natCast_add] at this
      exact this
theorem tails_l2 (m : Nat) (hm : m ≤ 8) (f : Nat → Nat → Bool) (n : Int) (j : Nat) (hj : j ≤ 100) (R : List (List Int))
    (h:Ev (fun k=>spec_l06Tails.l1 k n ((2 ^ m:Nat):Int) (rowsT m f (j + 2)) ((j + 2:Nat):Int) (m:Int) (mat m f)) R) :
    ∀ (d M:Nat),M + d = 2 ^ m → Ev (fun k=>spec_l06Tails.l2 k n ((2 ^ m:Nat):Int) (rowsT m f (j + 1)) ((j + 1:Nat):Int) (rowT m f (j + 1) M) (M:Int) (m:Int) (mat m f)) R:=by
  have h8:(2:Nat) ^ m ≤ 2 ^ 8:=Nat.pow_le_pow_right (by decide) hm
  intro d
  induction d with
  | zero =>
    intro M hM
    obtain rfl:M = 2 ^ m:=by omega
    refine Ev.succ ?_
    simp only [spec_l06Tails.l2]
    refine Ev.neg (by omega) (Ev.pos (by rw [rowsT_length];omega) ?_)
    rw [rowsT_succ] at h
    rw [w64' (by omega),show ((j + 1:Nat):Int) + 1 = ((j + 2:Nat):Int) by omega]
    exact h
  | succ d ih =>
    intro M hM
    have:=ih (M + 1) (by omega)
    refine Ev.succ ?_
    simp only [spec_l06Tails.l2]
    refine Ev.pos (by omega) ?_
    exact tails_l3 m hm f n j M hj (by omega) R this m 0 (by omega)
theorem tails_l1 (m:Nat) (hm:m ≤ 8) (f:Nat → Nat → Bool) (n:Nat) (hn:n ≤ 24):∀ (d j:Nat),j + d = n → Ev (fun k=>spec_l06Tails.l1 k (n:Int) ((2 ^ m:Nat):Int) (rowsT m f (j + 1)) ((j + 1:Nat):Int) (m:Int) (mat m f)) (rowsT m f (n + 1)):=by
  intro d
  induction d with
  | zero =>
    intro j hj
    obtain rfl:j = n:=by omega
    refine Ev.succ ?_
    simp only [spec_l06Tails.l1]
    exact Ev.neg (by omega) (Ev.now _)
  | succ d ih =>
    intro j hj
    refine Ev.succ ?_
    simp only [spec_l06Tails.l1]
    refine Ev.pos (by omega) ?_
    exact tails_l2 m hm f n j (by omega) _ (ih (j + 1) (by omega)) (2 ^ m) 0 (by omega)
theorem tails_ev (m:Nat) (hm:m ≤ 8) (f:Nat → Nat → Bool) (n:Nat) (hn:n ≤ 24):Ev (fun k=>spec_l06Tails.f k (m:Int) (mat m f) (n:Int)) (rowsT m f (n + 1)):=by
  have h8:(2:Nat) ^ m ≤ 2 ^ 8:=Nat.pow_le_pow_right (by decide) hm
  have h0:∀ M,entT m f 0 M = 1:=fun M=>rfl
  have loop:∀ (d i:Nat),i + d = 2 ^ m → Ev (fun k=>spec_l06Tails.l0 k (n:Int) ((2 ^ m:Nat):Int) (rowT m f 0 i) (i:Int) (m:Int) (mat m f)) (rowsT m f (n + 1)):=by
    intro d
    induction d with
    | zero =>
      intro i hi
      obtain rfl:i = 2 ^ m:=by omega
      refine Ev.succ ?_
      simp only [spec_l06Tails.l0]
      refine Ev.neg (by omega) ?_
      exact tails_l1 m hm f n hn n 0 (by omega)
    | succ d ih =>
      intro i hi
      have:=ih (i + 1) (by omega)
      rw [rowT_succ,h0] at this
      refine Ev.succ ?_
      simp only [spec_l06Tails.l0]
      refine Ev.pos (by omega) (Ev.pos (by rw [rowT_length];omega) ?_)
      rw [w64' (by omega),show (i:Int) + 1 = ((i + 1:Nat):Int) by omega]
      exact this
  simp only [spec_l06Tails.f]
  rw [l01One_eq m (by omega)]
  refine Ev.some_bind ?_
  exact loop (2 ^ m) 0 (by omega)
theorem entT_nP (m:Nat) (f:Nat → Nat → Bool) (j:Nat):entT m f j 0 = ((capN (nP m f j):Nat):Int):=by
  unfold entT nP
  rw [aP_congr m f j (q:=fun _=>false) (fun b _=>Nat.zero_testBit b)]
theorem nP_below (m:Nat) (f:Nat → Nat → Bool) (hs:∀ a b,f a b = f b a) (hr:∀ a,a < m → f a a = true) (j n:Nat) (h1:1 ≤ j) (h:j ≤ n):nP m f j ≤ nP m f n:=by
  by_cases hm:0 < m
  · obtain ⟨d,rfl⟩:=Nat.exists_eq_add_of_le h
    clear h
    induction d with
    | zero=>exact Nat.le_refl _
    | succ d ih=>exact Nat.le_trans ih (nP_mono m f hs hr hm (j + d))
  · obtain ⟨i,rfl⟩:=Nat.exists_eq_add_of_le h1
    rw [Nat.add_comm]
    unfold nP
    rw [aP_none m f i (by omega)]
    exact Nat.zero_le _
theorem checkCount_ev (n:Int) (D:List Int) (a:Int):∃ r:Int × Int,Ev (fun k=>spec_CountTraces.f k n D a) r ∧ Ev (fun k=>impl_checkCount.f k n D a) r ∧ (r = (0,1) ∨ r = (0,2) ∨ ∃ (m:Nat) (f:Nat → Nat → Bool) (N:Nat),Alpha n D ∧ n = (m:Int) ∧ D = mat m f ∧ m ≤ 8 ∧ (∀ a b,f a b = f b a) ∧ (∀ a,a < m → f a a = true) ∧ a = (N:Int) ∧ N ≤ 24 ∧ ((nP m f N ≤ 1000000000000000 ∧ r = (((nP m f N:Nat):Int),0) ∧ invLoop (cliqueP (stepsP m f)) N [1] = (nList m f (1 + N),0)) ∨ (¬ nP m f N ≤ 1000000000000000 ∧ r = (0,3) ∧ invLoop (cliqueP (stepsP m f)) N [1] = ([],3)))):=by
  have hc:=l02Is_ev n D
  have hk:=IsAlphabet_ev n D
  by_cases hA:Alpha n D
  · rw [decide_eq_true hA] at hc hk
    by_cases ha:0 ≤ a ∧ a ≤ 24
    · obtain ⟨m,f,rfl,rfl,hm,hs,hr⟩:=hA.form
      obtain ⟨N,rfl⟩:=Int.eq_ofNat_of_zero_le ha.1
      have hN:N ≤ 24:=by omega
      have hpos:=Nat.two_pow_pos m
      have hp:=poly_ev m hm f hs hr
      have hinv:=impl_inverse_ev (cliqueP (stepsP m f)) N hN hp.2
      have e1:([1]:List Int) = nList m f 1:=by simp [nList,nP_zero]
      rw [e1] at hinv
      have hcf:=invLoop_nP m f hs hr N 1 (Nat.le_refl 1)
      have hcode:Ev (fun k=>spec_l06Code.f k (m:Int) (mat m f) (N:Int)) 0:=by
        simp only [spec_l06Code.f,l01In_eq]
        exact Ev.bind hc (Ev.pos rfl (Ev.some_bind (Ev.pos (decide_eq_true ha) (Ev.now _))))
      have ht:=tails_ev m hm f N hN
      have hrow:=rd_rowsT m f (N + 1) N (by omega)
      have hent:rd (rowT m f N (2 ^ m)) 0 = ((capN (nP m f N):Nat):Int):=by
        rw [← entT_nP]
        exact rd_rowT m f N (2 ^ m) 0 hpos
      by_cases hbig:nP m f N ≤ 1000000000000000
      · have hcap:capN (nP m f N) = nP m f N:=by unfold capN;omega
        rw [hcap] at hent
        have hin:=hcf.1 (fun j h1 h2=>by
          have:=nP_below m f hs hr j N h1 (by omega)
          unfold MC
          omega)
        rw [hin] at hinv
        refine ⟨(((nP m f N:Nat):Int),0),?_,?_,.inr (.inr ⟨m,f,N,hA,rfl,rfl,hm,hs,hr,rfl,hN,.inl ⟨hbig,rfl,e1 ▸ hin⟩⟩)⟩
        · simp only [spec_CountTraces.f,spec_l06Many.f]
          refine Ev.bind hcode (Ev.pos rfl (Ev.bind (a:=0) (Ev.bind ht ?_) (Ev.pos rfl (Ev.bind ht ?_))))
          · refine Ev.pos (by omega) (Ev.pos (by rw [rowsT_length];omega) ?_)
            rw [hrow]
            refine Ev.pos (by rw [rowT_length];omega) ?_
            rw [hent]
            exact Ev.neg (by omega) (Ev.now _)
          · refine Ev.pos (by omega) (Ev.pos (by rw [rowsT_length];omega) ?_)
            rw [hrow]
            refine Ev.pos (by rw [rowT_length];omega) ?_
            rw [hent]
            exact Ev.now _
        · simp only [impl_checkCount.f,inRange_eq]
          refine Ev.bind hk (Ev.pos rfl (Ev.some_bind (Ev.pos (decide_eq_true ha) (Ev.bind hp.1 (Ev.bind hinv ?_)))))
          have hl:(nList m f (1 + N)).length = 1 + N:=by simp [nList]
          refine Ev.pos rfl (Ev.pos (by omega) (Ev.pos (by simp only [hl];omega) ?_))
          simp only []
          rw [rd_nList m f (1 + N) N (by omega)]
          exact Ev.now _
      · have hcap:capN (nP m f N) = 1000000000000001:=by unfold capN;omega
        rw [hcap] at hent
        have hN1:1 ≤ N:=by
          by_cases c:1 ≤ N
          · exact c
          · obtain rfl:N = 0:=by omega
            rw [nP_zero] at hbig
            omega
        have hin:=hcf.2 ⟨N,hN1,by omega,by unfold MC;omega⟩
        rw [hin] at hinv
        refine ⟨(0,3),?_,?_,.inr (.inr ⟨m,f,N,hA,rfl,rfl,hm,hs,hr,rfl,hN,.inr ⟨hbig,rfl,e1 ▸ hin⟩⟩)⟩
        · simp only [spec_CountTraces.f,spec_l06Many.f]
          refine Ev.bind hcode (Ev.pos rfl (Ev.bind (a:=3) (Ev.bind ht ?_) (Ev.neg (by decide) (Ev.now _))))
          refine Ev.pos (by omega) (Ev.pos (by rw [rowsT_length];omega) ?_)
          rw [hrow]
          refine Ev.pos (by rw [rowT_length];omega) ?_
          rw [hent]
          exact Ev.pos (by omega) (Ev.now _)
        · simp only [impl_checkCount.f,inRange_eq]
          exact Ev.bind hk (Ev.pos rfl (Ev.some_bind (Ev.pos (decide_eq_true ha) (Ev.bind hp.1 (Ev.bind hinv (Ev.neg (by decide) (Ev.now _)))))))
    · refine ⟨(0,2),?_,?_,.inr (.inl rfl)⟩
      · simp only [spec_CountTraces.f,spec_l06Code.f,l01In_eq]
        exact Ev.bind (a:=2) (Ev.bind hc (Ev.pos rfl (Ev.some_bind (Ev.neg (by rw [decide_eq_false ha];simp) (Ev.now _))))) (Ev.neg (by decide) (Ev.now _))
      · simp only [impl_checkCount.f,inRange_eq]
        exact Ev.bind hk (Ev.pos rfl (Ev.some_bind (Ev.neg (by rw [decide_eq_false ha];simp) (Ev.now _))))
  · rw [decide_eq_false hA] at hc hk
    refine ⟨(0,1),?_,?_,.inl rfl⟩
    · simp only [spec_CountTraces.f,spec_l06Code.f]
      exact Ev.bind (a:=1) (Ev.bind hc (Ev.neg (by decide) (Ev.now _))) (Ev.neg (by decide) (Ev.now _))
    · simp only [impl_checkCount.f]
      exact Ev.bind hk (Ev.neg (by decide) (Ev.now _))
theorem l06Draw_ev (c:List Int) (hb:∀ x ∈ c,0 ≤ x ∧ x ≤ 255) (hc:c.length ≤ 4096) (letters most:Nat) (hl:letters ≤ 8) (hm:most ≤ 24):∃ a h n D x,Src c a ∧ D.length ≤ 9 ∧ Ev (fun k=>spec_l06Draw.f k c (letters:Int) (most:Int)) (c,a,h,n,D,x):=by
  obtain ⟨h0,r0⟩:=l01From_ev c hc
  have s0:Src c 0:=⟨hb,hc,by omega,by omega⟩
  obtain ⟨n3,D3,a3,h3,s3,l3,r3⟩:=l02Spoil_ev s0 h0 letters hl
  obtain ⟨v1,a1,h1,x1,s1,_⟩:=l01Next_ev s3 h3 (wrap64 ((most:Int) + 1))
  obtain ⟨v2,a2,h2,x2,s2,_⟩:=l01Next_ev s1 h1 16
  by_cases g:v2 = 0
  · obtain ⟨v4,a4,h4,x4,s4,_⟩:=l01Pick_ev s2 h2 [-1,25,24,1099511627776] (by simp)
    refine ⟨a4,h4,n3,D3,v4,s4,l3,?_⟩
    simp only [spec_l06Draw.f]
    refine Ev.bind r0 (Ev.bind r3 ?_)
    simp only []
    rw [x1]
    refine Ev.some_bind ?_
    simp only []
    rw [x2]
    refine Ev.some_bind (Ev.pos g ?_)
    simp only []
    rw [x4]
    exact Ev.some_bind (Ev.now _)
  · refine ⟨a2,h2,n3,D3,v1,s2,l3,?_⟩
    simp only [spec_l06Draw.f]
    refine Ev.bind r0 (Ev.bind r3 ?_)
    simp only []
    rw [x1]
    refine Ev.some_bind ?_
    simp only []
    rw [x2]
    exact Ev.some_bind (Ev.neg g (Ev.now _))
theorem HeightOf_impl {n : Nat} (hn : n ≤ 8) {f : Nat → Nat → Bool} (hs : ∀ a b, f a b = f b a) (hA : Alpha (n : Int) (mat n f)) {u : List Nat} (hl : u.length ≤ 24) (hu : ∀ x ∈ u, x < n) :
    Ev (fun k=>impl_HeightOf.f k (n:Int) (mat n f) (ints u)) (((foataP f u).length:Int),0):=by
  simp only [impl_HeightOf.f,impl_Alphabet_ties.f,impl_length_int64.f]
  refine Ev.bind (check_1 hA hl hu) (Ev.pos rfl (Ev.some_bind (Ev.bind (foata_ev n hn f hs u (by omega) hu) (Ev.some_bind ?_))))
  rw [ints_length]
  exact Ev.now _
def listP (m:Nat) (f:Nat → Nat → Bool):Nat → Nat → List Nat → List (List Nat)
  | 0,_,s=>[s]
  | j + 1,M,s=>(List.range' 0 m).flatMap fun c=>if M.testBit c = true then [] else listP m f j (afterP m f M c) (s ++ [c])
theorem flat_sum (g:Nat → List (List Nat)):∀ m,((List.range' 0 m).flatMap g).length = sumN m fun c=>(g c).length:=by
  intro m
  induction m with
  | zero=>rfl
  | succ m ih=>rw [List.range'_concat,List.flatMap_append,List.length_append,ih];simp [sumN]
theorem listP_length (m:Nat) (f:Nat → Nat → Bool):∀ (j M:Nat) (s:List Nat),(listP m f j M s).length = aP m f j fun b=>M.testBit b:=by
  intro j
  induction j with
  | zero=>intro M s;rfl
  | succ j ih =>
    intro M s
    simp only [listP,aP]
    rw [flat_sum]
    refine sumN_congr m (fun c hc=>?_)
    by_cases h:M.testBit c = true
    · rw [if_pos h,if_pos h];rfl
    · rw [if_neg h,if_neg h,ih]
      refine aP_congr m f j (fun b hb=>?_)
      unfold afterP
      rw [testBit_mk,decide_eq_true hb,Bool.true_and]
theorem flat_cons (g:Nat → List (List Nat)) (c d:Nat):(List.range' c (d + 1)).flatMap g = g c ++ (List.range' (c + 1) d).flatMap g:=by
  rw [List.range'_succ,List.flatMap_cons]
theorem forms_ev (m : Nat) (hm : m ≤ 8) (f : Nat → Nat → Bool) : ∀ (j M : Nat) (s : List Nat) (L : List (List Nat)), M < 2 ^ m → s.length + j ≤ 1000 → L.length + (listP m f j M s).length ≤ 1000000 →
    Ev (fun k=>impl_ties_forms.r k (mat m f) (ints s) (M:Int) (j:Int) (L.map ints)) ((L ++ listP m f j M s).map ints):=by
  have h8:(2:Nat) ^ m ≤ 2 ^ 8:=Nat.pow_le_pow_right (by decide) hm
  intro j
  induction j with
  | zero =>
    intro M s L hM hs hL
    refine Ev.succ ?_
    simp only [impl_ties_forms.r,listP]
    refine Ev.pos rfl (Ev.pos ⟨by rw [ints_length];omega,by simp only [List.length_map];simp [listP] at hL;omega⟩ ?_)
    rw [List.map_append]
    exact Ev.now _
  | succ j ih =>
    intro M s L hM hs hL
    have loop : ∀ (d c : Nat) (L : List (List Nat)), c + d = m → L.length + ((List.range' c d).flatMap fun c => if M.testBit c = true then [] else listP m f j (afterP m f M c) (s ++ [c])).length ≤ 1000000 →
        Ev (fun k=>impl_ties_forms.l0 k (mat m f) (ints s) (M:Int) ((j + 1:Nat):Int) (L.map ints) (c:Int)) ((L ++ (List.range' c d).flatMap fun c=>if M.testBit c = true then [] else listP m f j (afterP m f M c) (s ++ [c])).map ints):=by
      intro d
      induction d with
      | zero =>
        intro c L hc hL
        refine Ev.succ ?_
        simp only [impl_ties_forms.l0]
        refine Ev.neg (by rw [mat_length];omega) (Ev.const ?_)
        simp
      | succ d ihd =>
        intro c L hc hL
        rw [flat_cons] at hL ⊢
        have hcm:c < m:=by omega
        refine Ev.succ ?_
        simp only [impl_ties_forms.l0]
        rw [has_eq M c (by omega) (by omega)]
        refine Ev.pos (by rw [mat_length];omega) (Ev.some_bind ?_)
        by_cases h:M.testBit c = true
        · rw [if_pos h] at hL ⊢
          refine Ev.pos h ?_
          rw [w64' (by omega),List.nil_append]
          exact ihd (c + 1) L (by omega) (by simpa using hL)
        · rw [if_neg h] at hL ⊢
          refine Ev.neg h ?_
          rw [forbidden_eq m (by omega) f M c hM hcm]
          refine Ev.pos (by rw [ints_length];omega) (Ev.some_bind ?_)
          rw [List.length_append] at hL
          have h1:=ih (afterP m f M c) (s ++ [c]) L (afterP_lt m f M c) (by simp;omega) (by omega)
          rw [show ints s ++ [(c:Int)] = ints (s ++ [c]) by rw [ints_append];rfl,w64' (by omega)]
          refine Ev.bind (by rw [show ((j + 1:Nat):Int) - 1 = (j:Int) by omega];exact h1) ?_
          rw [w64' (by omega),← List.append_assoc]
          exact ihd (c + 1) _ (by omega) (by rw [List.length_append];omega)
    refine Ev.succ ?_
    simp only [impl_ties_forms.r]
    refine Ev.neg (by omega) ?_
    simp only [listP] at hL ⊢
    exact loop m 0 L (by omega) hL
theorem mk_whole {m C:Nat} (h:C < 2 ^ m):mk m C.testBit = C:=Nat.eq_of_testBit_eq fun i=>by
  rw [testBit_mk]
  by_cases hi:i < m
  · simp [hi]
  · rw [decide_eq_false hi,Bool.false_and]
    exact (Nat.testBit_lt_two_pow (Nat.lt_of_lt_of_le h (Nat.pow_le_pow_right (by decide) (by omega)))).symm
def okP (m:Nat) (f:Nat → Nat → Bool) (x y:Nat):Bool:=(List.range m).all fun a=>!y.testBit a || reachP m f x.testBit a
theorem okP_iff (m:Nat) (f:Nat → Nat → Bool) (x y:Nat):okP m f x y = true ↔ ∀ a,a < m → y.testBit a = true → reachP m f x.testBit a = true:=by
  unfold okP
  rw [List.all_eq_true]
  constructor
  · intro h a ha hy
    have:=h a (List.mem_range.2 ha)
    rw [hy] at this
    simpa using this
  · intro h a ha
    cases e:y.testBit a with
    | false=>rfl
    | true=>simpa using h a (List.mem_range.1 ha) e
theorem ok_spec (m:Nat) (hm:m ≤ 24) (f:Nat → Nat → Bool) (x y:Nat) (hy:y < 2 ^ m):(Go.bits .or .i64 (y:Int) ((mk m (reachP m f x.testBit):Nat):Int) = ((mk m (reachP m f x.testBit):Nat):Int)) ↔ okP m f x y = true:=by
  have h62:y < 2 ^ 62:=Nat.lt_of_lt_of_le hy (Nat.pow_le_pow_right (by decide) (by omega))
  rw [b_or _ _ h62 (mk62 hm _),okP_iff]
  constructor
  · intro h a ha hya
    have h2:=congrArg (fun z=>z.testBit a) (Int.ofNat.inj h)
    simp only [Nat.testBit_or,testBit_mk,decide_eq_true ha,Bool.true_and,hya,Bool.true_or] at h2
    exact h2.symm
  · intro h
    refine congrArg Int.ofNat (Nat.eq_of_testBit_eq fun a=>?_)
    rw [Nat.testBit_or,testBit_mk]
    by_cases ha:a < m
    · cases e:y.testBit a with
      | false=>simp
      | true=>simp [ha,h a ha e]
    · have hz:y.testBit a = false:=Nat.testBit_lt_two_pow (Nat.lt_of_lt_of_le hy (Nat.pow_le_pow_right (by decide) (by omega)))
      simp [ha,hz]
def pcS (S:List Nat) (i:Nat):Nat:=pcP (S.getD i 0)
def okS (m:Nat) (f:Nat → Nat → Bool) (S:List Nat) (i k:Nat):Bool:=okP m f (S.getD i 0) (S.getD k 0)
def aS (m:Nat) (f:Nat → Nat → Bool) (S:List Nat) (h j i:Nat):Int:=cA S.length (pcS S) (okS m f S) h j i
def rowsA (m:Nat) (f:Nat → Nat → Bool) (S:List Nat) (h n:Nat):List (List Int):=(List.range n).map fun j=>rowW S.length (aS m f S h j)
@[simp] theorem rowsA_length (m:Nat) (f:Nat → Nat → Bool) (S:List Nat) (h n:Nat):(rowsA m f S h n).length = n:=by simp [rowsA]
theorem rd_rowsA (m:Nat) (f:Nat → Nat → Bool) (S:List Nat) (h n j:Nat) (hj:j < n):rd_L2 (rowsA m f S h n) (j:Int) = rowW S.length (aS m f S h j):=by
  unfold rd_L2
  rw [Int.toNat_natCast,List.getD_eq_getElem?_getD,List.getElem?_eq_getElem (by rw [rowsA_length];exact hj)]
  simp [rowsA]
theorem rowsA_snoc (m:Nat) (f:Nat → Nat → Bool) (S:List Nat) (h n:Nat):rowsA m f S h (n + 1) = rowsA m f S h n ++ [rowW S.length (aS m f S h n)]:=by
  simp [rowsA,List.range_succ]
def heightsA (m:Nat) (f:Nat → Nat → Bool) (S:List Nat) (N H:Nat):List (List Int):=(List.range H).map fun h=>rowW S.length (aS m f S h N)
@[simp] theorem heightsA_length (m:Nat) (f:Nat → Nat → Bool) (S:List Nat) (N H:Nat):(heightsA m f S N H).length = H:=by simp [heightsA]
theorem rd_heightsA (m:Nat) (f:Nat → Nat → Bool) (S:List Nat) (N H h:Nat) (hj:h < H):rd_L2 (heightsA m f S N H) (h:Int) = rowW S.length (aS m f S h N):=by
  unfold rd_L2
  rw [Int.toNat_natCast,List.getD_eq_getElem?_getD,List.getElem?_eq_getElem (by rw [heightsA_length];exact hj)]
  simp [heightsA]
theorem heightsA_snoc (m:Nat) (f:Nat → Nat → Bool) (S:List Nat) (N H:Nat):heightsA m f S N (H + 1) = heightsA m f S N H ++ [rowW S.length (aS m f S H N)]:=by
  simp [heightsA,List.range_succ]
theorem rdS (S:List Nat) (i:Nat) (h:i < S.length):rd (ints S) (i:Int) = ((S.getD i 0:Nat):Int):=by
  rw [rd_ints S i h,List.getD_eq_getElem?_getD,List.getElem?_eq_getElem h];rfl
theorem inS (m:Nat) (S:List Nat) (hS:∀ x ∈ S,x < 2 ^ m) (i:Nat):S.getD i 0 < 2 ^ m:=by
  by_cases h:i < S.length
  · rw [List.getD_eq_getElem?_getD,List.getElem?_eq_getElem h]
    exact hS _ (List.getElem_mem h)
  · rw [List.getD_eq_getElem?_getD,List.getElem?_eq_none (by omega)]
    exact Nat.two_pow_pos m
theorem pcS_le (m:Nat) (hm:m ≤ 8) (S:List Nat) (hS:∀ x ∈ S,x < 2 ^ m) (i:Nat):pcS S i ≤ 8:=Nat.le_trans (pcP_le m _ (inS m S hS i)) hm
theorem first4_ev (m : Nat) (hm : m ≤ 8) (f : Nat → Nat → Bool) (S : List Nat) (hS : ∀ x ∈ S, x < 2 ^ m) (hl : S.length ≤ 256) (h1 : 1 ≤ S.length) (N : Nat) (hN : N ≤ 24) (h j i : Nat) (hh : h ≤ 30) (hj : j ≤ N) (h0 : 0 < i) (hi : i < S.length) (hp : pcS S i ≤ j) (out next : List (List Int)) (g : Nat → Int) (r : List (List Int))
    (hend:Ev (fun k=>spec_l06First.l3 k (N:Int) (ints S) (rowsA m f S h (N + 1)) out ((h + 1:Nat):Int) next (j:Int) (rowW S.length (fun q=>if q = i then sS (fun k=>if okS m f S i k = true ∧ (k > 0 ∨ h = 0) then aS m f S h (j - pcS S i) k else 0) S.length else g q)) ((i + 1:Nat):Int) (m:Int) (mat m f)) r) :
    ∀ (d kk:Nat),kk + d = S.length → Ev (fun k=>spec_l06First.l4 k (N:Int) (ints S) (rowsA m f S h (N + 1)) out ((h + 1:Nat):Int) next (j:Int) (rowW S.length (fun q=>if q = i then sS (fun k=>if okS m f S i k = true ∧ (k > 0 ∨ h = 0) then aS m f S h (j - pcS S i) k else 0) kk else g q)) (i:Int) ((j - pcS S i:Nat):Int) ((mk m (reachP m f (S.getD i 0).testBit):Nat):Int) (kk:Int) (m:Int) (mat m f)) r:=by
  intro d
  induction d with
  | zero =>
    intro kk hk
    obtain rfl:kk = S.length:=by omega
    refine Ev.succ ?_
    simp only [spec_l06First.l4]
    refine Ev.neg (by simp) ?_
    rw [w64' (by omega)]
    exact hend
  | succ d ih =>
    intro kk hk
    have i1:=ih (kk + 1) (by omega)
    refine Ev.succ ?_
    simp only [spec_l06First.l4]
    refine Ev.pos (by simp;omega) (Ev.pos (by omega) ?_)
    rw [rdS S kk (by omega),w64' (show -9000000000000000000 ≤ (kk:Int) + 1 ∧ (kk:Int) + 1 ≤ 9000000000000000000 by omega)]
    have hadd:∀ v,(rowW S.length (fun q=>if q = i then sS (fun k=>if okS m f S i k = true ∧ (k > 0 ∨ h = 0) then aS m f S h (j - pcS S i) k else 0) kk else g q)).set ((i:Int)).toNat (wrap64 (rd (rowW S.length (fun q=>if q = i then sS (fun k=>if okS m f S i k = true ∧ (k > 0 ∨ h = 0) then aS m f S h (j - pcS S i) k else 0) kk else g q)) (i:Int) + wrap64 v)) = rowW S.length (fun q=>if q = i then sS (fun k=>if okS m f S i k = true ∧ (k > 0 ∨ h = 0) then aS m f S h (j - pcS S i) k else 0) kk + v else g q):=fun v=>by
      rw [rd_rowW _ _ _ hi,if_pos rfl,wrap_plus,Int.toNat_natCast,set_rowW]
      refine rowW_congr _ (fun q _=>?_)
      by_cases e:q = i <;> simp [e]
    have hput:okS m f S i kk = true → (kk > 0 ∨ h = 0) → Ev (fun k=>if 0 ≤ (i:Int) then (if (i:Int) < ((rowW S.length (fun q=>if q = i then sS (fun k=>if okS m f S i k = true ∧ (k > 0 ∨ h = 0) then aS m f S h (j - pcS S i) k else 0) kk else g q)).length:Int) then (if 0 ≤ ((j - pcS S i:Nat):Int) then (if ((j - pcS S i:Nat):Int) < ((rowsA m f S h (N + 1)).length:Int) then (if (kk:Int) < ((rd_L2 (rowsA m f S h (N + 1)) ((j - pcS S i:Nat):Int)).length:Int) then (spec_l06First.l4 k (N:Int) (ints S) (rowsA m f S h (N + 1)) out ((h + 1:Nat):Int) next (j:Int) ((rowW S.length (fun q=>if q = i then sS (fun k=>if okS m f S i k = true ∧ (k > 0 ∨ h = 0) then aS m f S h (j - pcS S i) k else 0) kk else g q)).set ((i:Int)).toNat (wrap64 ((rd (rowW S.length (fun q=>if q = i then sS (fun k=>if okS m f S i k = true ∧ (k > 0 ∨ h = 0) then aS m f S h (j - pcS S i) k else 0) kk else g q)) (i:Int)) + (rd (rd_L2 (rowsA m f S h (N + 1)) ((j - pcS S i:Nat):Int)) (kk:Int))))) (i:Int) ((j - pcS S i:Nat):Int) ((mk m (reachP m f (S.getD i 0).testBit):Nat):Int) ((kk:Int) + 1) (m:Int) (mat m f)) else none) else none) else none) else none) else none) r:=by
      intro ho hz
      rw [rd_rowsA m f S h (N + 1) (j - pcS S i) (by omega),rd_rowW S.length (aS m f S h (j - pcS S i)) kk (by omega),hadd]
      refine Ev.pos (by omega) (Ev.pos (by rw [rowW_length];omega) (Ev.pos (by omega) (Ev.pos (by rw [rowsA_length];omega) (Ev.pos (by rw [rowW_length];omega) ?_))))
      have e:∀ q,q < S.length → (if q = i then sS (fun k=>if okS m f S i k = true ∧ (k > 0 ∨ h = 0) then aS m f S h (j - pcS S i) k else 0) kk + aS m f S h (j - pcS S i) kk else g q) = (if q = i then sS (fun k=>if okS m f S i k = true ∧ (k > 0 ∨ h = 0) then aS m f S h (j - pcS S i) k else 0) (kk + 1) else g q):=fun q _=>by
        simp only [sS,if_pos (show okS m f S i kk = true ∧ (kk > 0 ∨ h = 0) from ⟨ho,hz⟩)]
      rw [rowW_congr S.length e]
      exact i1
    have hskip:¬ (okS m f S i kk = true ∧ (kk > 0 ∨ h = 0)) → Ev (fun k=>spec_l06First.l4 k (N:Int) (ints S) (rowsA m f S h (N + 1)) out ((h + 1:Nat):Int) next (j:Int) (rowW S.length (fun q=>if q = i then sS (fun k=>if okS m f S i k = true ∧ (k > 0 ∨ h = 0) then aS m f S h (j - pcS S i) k else 0) kk else g q)) (i:Int) ((j - pcS S i:Nat):Int) ((mk m (reachP m f (S.getD i 0).testBit):Nat):Int) ((kk:Int) + 1) (m:Int) (mat m f)) r:=by
      intro hn
      have e:∀ q,q < S.length → (if q = i then sS (fun k=>if okS m f S i k = true ∧ (k > 0 ∨ h = 0) then aS m f S h (j - pcS S i) k else 0) kk else g q) = (if q = i then sS (fun k=>if okS m f S i k = true ∧ (k > 0 ∨ h = 0) then aS m f S h (j - pcS S i) k else 0) (kk + 1) else g q):=fun q _=>by
        simp only [sS,if_neg hn,Int.add_zero]
      rw [rowW_congr S.length e]
      exact i1
    refine Ev.ite (fun c=>?_) (fun c=>?_)
    · have ho:okS m f S i kk = true:=(ok_spec m (by omega) f _ _ (inS m S hS kk)).1 c
      refine Ev.ite (fun c2=>hput ho (.inl (by omega))) (fun c2=>?_)
      obtain rfl:kk = 0:=by omega
      refine Ev.ite (fun c3=>hput ho (.inr (by omega))) (fun c3=>hskip (fun z=>?_))
      rcases z.2 with z | z <;> omega
    · exact hskip (fun z=>c ((ok_spec m (by omega) f _ _ (inS m S hS kk)).2 z.1))
theorem first3_ev (m : Nat) (hm : m ≤ 8) (f : Nat → Nat → Bool) (S : List Nat) (hS : ∀ x ∈ S, x < 2 ^ m) (hl : S.length ≤ 256) (h1 : 1 ≤ S.length) (N : Nat) (hN : N ≤ 24) (h j : Nat) (hh : h ≤ 30) (hj : j ≤ N) (out next : List (List Int)) (hnx : next.length ≤ 100) (r : List (List Int))
    (hend:Ev (fun k=>spec_l06First.l2 k (N:Int) (ints S) (rowsA m f S h (N + 1)) out ((h + 1:Nat):Int) (next ++ [rowW S.length (aS m f S (h + 1) j)]) ((j + 1:Nat):Int) (m:Int) (mat m f)) r) :
    ∀ (d i:Nat),1 ≤ i → i + d = S.length → Ev (fun k=>spec_l06First.l3 k (N:Int) (ints S) (rowsA m f S h (N + 1)) out ((h + 1:Nat):Int) next (j:Int) (rowW S.length (fun q=>if q < i then aS m f S (h + 1) j q else 0)) (i:Int) (m:Int) (mat m f)) r:=by
  intro d
  induction d with
  | zero =>
    intro i hi1 hi
    obtain rfl:i = S.length:=by omega
    refine Ev.succ ?_
    simp only [spec_l06First.l3]
    refine Ev.neg (by simp) (Ev.pos (by omega) ?_)
    rw [w64' (by omega),rowW_congr S.length (g' := aS m f S (h + 1) j) (fun q hq=>if_pos hq)]
    exact hend
  | succ d ih =>
    intro i hi1 hi
    have i1:=ih (i + 1) (by omega) (by omega)
    have hle:=pcS_le m hm S hS i
    refine Ev.succ ?_
    simp only [spec_l06First.l3]
    refine Ev.pos (by simp;omega) (Ev.pos (by omega) ?_)
    rw [rdS S i (by omega)]
    refine Ev.bind (l01Bits_ev (S.getD i 0) (Nat.lt_of_lt_of_le (inS m S hS i) (Nat.pow_le_pow_right (by decide) (by omega)))) ?_
    rw [w64' (show -9000000000000000000 ≤ (j:Int) - ((pcP (S.getD i 0):Nat):Int) ∧ (j:Int) - ((pcP (S.getD i 0):Nat):Int) ≤ 9000000000000000000 by unfold pcS at hle;omega)]
    refine Ev.ite (fun c=>?_) (fun c=>?_)
    · rw [w64' (by omega)]
      have e:∀ q,q < S.length → (if q < i then aS m f S (h + 1) j q else 0) = (if q < i + 1 then aS m f S (h + 1) j q else 0):=fun q _=>by
        by_cases e:q < i
        · rw [if_pos e,if_pos (by omega)]
        · by_cases e2:q = i
          · subst e2
            rw [if_neg e,if_pos (by omega)]
            unfold aS
            simp only [cA]
            rw [if_neg (show ¬ q = 0 by omega),if_neg (show ¬ pcS S q ≤ j by unfold pcS;omega)]
          · rw [if_neg e,if_neg (by omega)]
      rw [rowW_congr S.length e]
      exact i1
    · have hp:pcS S i ≤ j:=by unfold pcS;omega
      have hr:=l06Reach_ev m (by omega) f (S.getD i 0).testBit
      rw [mk_whole (inS m S hS i)] at hr
      refine Ev.bind hr ?_
      have h4:=first4_ev m hm f S hS hl h1 N hN h j i hh hj (by omega) (by omega) hp out next (fun q=>if q < i then aS m f S (h + 1) j q else 0) r ?_ S.length 0 (by omega)
      · have e : ∀ q, q < S.length → (if q = i then sS (fun k => if okS m f S i k = true ∧ (k > 0 ∨ h = 0) then aS m f S h (j - pcS S i) k else 0) 0 else if q < i then aS m f S (h + 1) j q else 0) = (if q < i then aS m f S (h + 1) j q else 0) := fun q _ => by
          by_cases e:q = i
          · subst e
            rw [if_pos rfl,if_neg (by omega)]
            rfl
          · rw [if_neg e]
        rw [rowW_congr S.length e] at h4
        have e2:(j:Int) - ((pcP (S.getD i 0):Nat):Int) = ((j - pcS S i:Nat):Int):=by unfold pcS at hp ⊢;omega
        rw [e2]
        exact h4
      · have e : ∀ q, q < S.length → (if q = i then sS (fun k => if okS m f S i k = true ∧ (k > 0 ∨ h = 0) then aS m f S h (j - pcS S i) k else 0) S.length else if q < i then aS m f S (h + 1) j q else 0) = (if q < i + 1 then aS m f S (h + 1) j q else 0) := fun q _ => by
          by_cases e:q = i
          · subst e
            rw [if_pos rfl,if_pos (by omega)]
            unfold aS
            simp only [cA]
            rw [if_neg (show ¬ q = 0 by omega),if_pos hp]
          · rw [if_neg e]
            by_cases e2:q < i
            · rw [if_pos e2,if_pos (by omega)]
            · rw [if_neg e2,if_neg (by omega)]
        rw [rowW_congr S.length e]
        exact i1
theorem first2_ev (m : Nat) (hm : m ≤ 8) (f : Nat → Nat → Bool) (S : List Nat) (hS : ∀ x ∈ S, x < 2 ^ m) (hl : S.length ≤ 256) (h1 : 1 ≤ S.length) (N : Nat) (hN : N ≤ 24) (h : Nat) (hh : h ≤ 30) (out : List (List Int)) (ho : out.length ≤ 100) (r : List (List Int))
    (hend:Ev (fun k=>spec_l06First.l1 k (N:Int) (ints S) (rowsA m f S (h + 1) (N + 1)) (out ++ [rowW S.length (aS m f S (h + 1) N)]) ((h + 2:Nat):Int) (m:Int) (mat m f)) r) :
    ∀ (d j:Nat),j + d = N + 1 → Ev (fun k=>spec_l06First.l2 k (N:Int) (ints S) (rowsA m f S h (N + 1)) out ((h + 1:Nat):Int) (rowsA m f S (h + 1) j) (j:Int) (m:Int) (mat m f)) r:=by
  intro d
  induction d with
  | zero =>
    intro j hj
    obtain rfl:j = N + 1:=by omega
    refine Ev.succ ?_
    simp only [spec_l06First.l2]
    refine Ev.neg (by omega) (Ev.pos (by omega) (Ev.pos (by rw [rowsA_length];omega) ?_))
    rw [rd_rowsA m f S (h + 1) (N + 1) N (by omega),l01Own_eq _ (by rw [rowW_length];omega)]
    refine Ev.some_bind (Ev.pos (by omega) ?_)
    rw [w64' (by omega)]
    exact hend
  | succ d ih =>
    intro j hj
    have i1:=ih (j + 1) (by omega)
    rw [rowsA_snoc m f S (h + 1) j] at i1
    refine Ev.succ ?_
    simp only [spec_l06First.l2]
    refine Ev.pos (by omega) (Ev.pos (by omega) (Ev.pos (by simp;omega) ?_))
    have h3:=first3_ev m hm f S hS hl h1 N hN h j hh (by omega) out (rowsA m f S (h + 1) j) (by rw [rowsA_length];omega) r i1 (S.length - 1) 1 (Nat.le_refl 1) (by omega)
    have e:∀ q,q < S.length → (if q < 1 then aS m f S (h + 1) j q else 0) = (fun _=>(0:Int)) q:=fun q _=>by
      by_cases e:q < 1
      · obtain rfl:q = 0:=by omega
        rw [if_pos e]
        exact cA_first _ _ _ _ _
      · rw [if_neg e]
    rw [rowW_congr S.length e,← rowW_none] at h3
    rw [show (((ints S).length:Int):Int).toNat = S.length by simp]
    exact h3
theorem first1_ev (m:Nat) (hm:m ≤ 8) (f:Nat → Nat → Bool) (S:List Nat) (hS:∀ x ∈ S,x < 2 ^ m) (hl:S.length ≤ 256) (h1:1 ≤ S.length) (N:Nat) (hN:N ≤ 24):∀ (d h:Nat),h + d = N → Ev (fun k=>spec_l06First.l1 k (N:Int) (ints S) (rowsA m f S h (N + 1)) (heightsA m f S N (h + 1)) ((h + 1:Nat):Int) (m:Int) (mat m f)) (heightsA m f S N (N + 1)):=by
  intro d
  induction d with
  | zero =>
    intro h hh
    obtain rfl:h = N:=by omega
    refine Ev.succ ?_
    simp only [spec_l06First.l1]
    exact Ev.neg (by omega) (Ev.now _)
  | succ d ih =>
    intro h hh
    have i1:=ih (h + 1) (by omega)
    rw [heightsA_snoc] at i1
    refine Ev.succ ?_
    simp only [spec_l06First.l1]
    refine Ev.pos (by omega) ?_
    exact first2_ev m hm f S hS hl h1 N hN h (by omega) (heightsA m f S N (h + 1)) (by rw [heightsA_length];omega) _ i1 (N + 1) 0 (by omega)
theorem first0_ev (m:Nat) (hm:m ≤ 8) (f:Nat → Nat → Bool) (S:List Nat) (hS:∀ x ∈ S,x < 2 ^ m) (hl:S.length ≤ 256) (h1:1 ≤ S.length) (N:Nat) (hN:N ≤ 24):∀ (d j:Nat),j + d = N + 1 → Ev (fun k=>spec_l06First.l0 k (N:Int) (ints S) (rowsA m f S 0 j) (j:Int) (m:Int) (mat m f)) (heightsA m f S N (N + 1)):=by
  intro d
  induction d with
  | zero =>
    intro j hj
    obtain rfl:j = N + 1:=by omega
    refine Ev.succ ?_
    simp only [spec_l06First.l0]
    refine Ev.neg (by omega) (Ev.pos (by omega) (Ev.pos (by rw [rowsA_length];omega) ?_))
    rw [rd_rowsA m f S 0 (N + 1) N (by omega),l01Own_eq _ (by rw [rowW_length];omega)]
    exact Ev.some_bind (first1_ev m hm f S hS hl h1 N hN N 0 (by omega))
  | succ d ih =>
    intro j hj
    have i1:=ih (j + 1) (by omega)
    rw [rowsA_snoc m f S 0 j] at i1
    refine Ev.succ ?_
    simp only [spec_l06First.l0]
    refine Ev.pos (by omega) (Ev.pos (by omega) (Ev.pos (by simp;omega) (Ev.some_bind ?_)))
    rw [show (((ints S).length:Int):Int).toNat = S.length by simp,w64' (by omega)]
    refine Ev.ite (fun c=>?_) (fun c=>?_)
    · obtain rfl:j = 0:=by omega
      refine Ev.pos (by simp;omega) (Ev.pos (by simp [rowsA]) ?_)
      have e:(List.replicate S.length (0:Int)).set (0:Int).toNat 1 = rowW S.length (aS m f S 0 0):=by
        rw [rowW_none,show (1:Int) = wrap64 1 from (w64 (by omega) (by omega)).symm,show (0:Int).toNat = 0 from rfl,set_rowW]
        refine rowW_congr _ (fun q _=>?_)
        simp [aS,cA]
      rw [e]
      exact i1
    · refine Ev.pos (by rw [rowsA_length];omega) ?_
      have e:List.replicate S.length (0:Int) = rowW S.length (aS m f S 0 j):=by
        rw [rowW_none]
        refine rowW_congr _ (fun q _=>?_)
        simp [aS,cA,show ¬ j = 0 by omega]
      rw [e]
      exact i1
theorem stepsP_lt (m:Nat) (f:Nat → Nat → Bool):∀ x ∈ stepsP m f,x < 2 ^ m:=fun x hx=>List.mem_range.1 (List.mem_filter.1 hx).1
theorem stepsP_few (m:Nat) (hm:m ≤ 8) (f:Nat → Nat → Bool):(stepsP m f).length ≤ 256:=by
  have h8:(2:Nat) ^ m ≤ 2 ^ 8:=Nat.pow_le_pow_right (by decide) hm
  have:=List.length_filter_le (stepP m f) (List.range (2 ^ m))
  unfold stepsP
  rw [List.length_range] at this
  omega
theorem stepsP_head (m:Nat) (f:Nat → Nat → Bool):∃ T,stepsP m f = 0 :: T:=by
  have h0:stepP m f 0 = true:=by simp [stepP]
  obtain ⟨d,hd⟩:∃ d,2 ^ m = d + 1:=⟨2 ^ m - 1,by have:=Nat.two_pow_pos m;omega⟩
  unfold stepsP
  rw [hd,List.range_succ_eq_map,List.filter_cons_of_pos h0]
  exact ⟨_,rfl⟩
theorem stepsP_nodup (m:Nat) (f:Nat → Nat → Bool):(stepsP m f).Nodup:=List.filter_sublist.nodup List.nodup_range
theorem l06First_ev (m:Nat) (hm:m ≤ 8) (f:Nat → Nat → Bool) (N:Nat) (hN:N ≤ 24):Ev (fun k=>spec_l06First.f k (m:Int) (mat m f) (N:Int)) (heightsA m f (stepsP m f) N (N + 1)):=by
  obtain ⟨T,hT⟩:=stepsP_head m f
  simp only [spec_l06First.f]
  exact Ev.bind (l02Steps_ev m hm f) (first0_ev m hm f (stepsP m f) (stepsP_lt m f) (stepsP_few m hm f) (by rw [hT];simp) N hN (N + 1) 0 (by omega))
theorem w64s (q:Nat) (h:q ≤ 1000000):wrap64 ((q:Int) + 1) = ((q + 1:Nat):Int):=by unfold wrap64;omega
theorem w64m (a b:Nat) (ha:a ≤ 1000000) (hb:b ≤ a):wrap64 ((a:Int) - (b:Int)) = ((a - b:Nat):Int):=by unfold wrap64;omega
theorem w64n (a b:Nat) (ha:a ≤ 1000000) (hb:b ≤ 1000000):wrap64 ((a:Int) - (b:Int)) = (a:Int) - (b:Int):=by unfold wrap64;omega
theorem pcP_one:∀ (n x:Nat),x < 2 ^ n → x ≠ 0 → 1 ≤ pcP x:=by
  intro n
  induction n with
  | zero=>intro x h h0;omega
  | succ n ih =>
    intro x h h0
    rw [pcP_eq]
    by_cases c:x % 2 = 0
    · have:=ih (x / 2) (by rw [Nat.pow_succ] at h;omega) (by omega)
      omega
    · omega
theorem getD_inj {S:List Nat} (hd:S.Nodup) {i k:Nat} (hi:i < S.length) (hk:k < S.length) (h:S.getD i 0 = S.getD k 0):i = k:=by
  rw [List.getD_eq_getElem?_getD,List.getD_eq_getElem?_getD,List.getElem?_eq_getElem hi,List.getElem?_eq_getElem hk] at h
  exact (List.getElem_inj hd).1 h
theorem okS_first (m:Nat) (f:Nat → Nat → Bool) (S:List Nat) (h0:S.getD 0 0 = 0) (i:Nat):okS m f S i 0 = true:=by
  unfold okS
  rw [h0,okP_iff]
  intro a _ h
  rw [Nat.zero_testBit] at h
  cases h
theorem pcS_pos (m:Nat) (S:List Nat) (hS:∀ x ∈ S,x < 2 ^ m) (hd:S.Nodup) (h0:S.getD 0 0 = 0) (i:Nat) (h1:0 < i) (h2:i < S.length):1 ≤ pcS S i:=by
  refine pcP_one m _ (inS m S hS i) (fun h=>?_)
  have:=getD_inj hd h2 (by omega) (h.trans h0.symm)
  omega
theorem follows_ev (m:Nat) (hm:m ≤ 8) (f:Nat → Nat → Bool) (hs:∀ a b,f a b = f b a) (x y:Nat) (hx:x < 2 ^ m) (hy:y < 2 ^ m):Ev (fun k=>impl_ties_follows.f k (mat m f) (x:Int) (y:Int)) (okP m f x y):=by
  have h62:∀ z:Nat,z < 2 ^ m → z < 2 ^ 62:=fun z h=>Nat.lt_of_lt_of_le h (Nat.pow_le_pow_right (by decide) (by omega))
  have h64:y < 2 ^ 64:=Nat.lt_of_lt_of_le (h62 y hy) (by decide)
  have hin:∀ b,b ∈ bitsOf y → b < m ∧ y.testBit b = true:=fun b hb=>by
    have h1:=(mem_bitsOf h64).1 hb
    refine ⟨?_,h1⟩
    by_cases c:b < m
    · exact c
    · rw [Nat.testBit_lt_two_pow (Nat.lt_of_lt_of_le hy (Nat.pow_le_pow_right (by decide) (by omega)))] at h1
      cases h1
  simp only [impl_ties_follows.f]
  refine Ev.bind (members_ev y (h62 y hy)) (Ev.pos ?_ (Ev.val (Ev.now _) ?_))
  · rw [List.all_eq_true]
    intro a ha
    obtain ⟨b,hb,rfl⟩:=List.mem_map.1 ha
    have:=(hin b hb).1
    rw [mat_length,decide_eq_true_eq]
    omega
  · rw [Bool.eq_iff_iff,List.all_eq_true,okP_iff]
    have key:∀ b,b < m → ((!decide (Go.bits .and .i64 (rd (mat m f) (b:Int)) (x:Int) = 0)) = true ↔ reachP m f x.testBit b = true):=by
      intro b hb
      rw [rd_mat m f b hb,b_and _ _ (mk62 (by omega) _) (h62 x hx),reachP_iff,Bool.not_eq_true', decide_eq_false_iff_not]
      constructor
      · intro h
        by_cases c:∃ c,c < m ∧ x.testBit c = true ∧ f c b = true
        · exact c
        · refine absurd (congrArg Int.ofNat (Nat.eq_of_testBit_eq (y:=0) fun a=>?_)) h
          rw [Nat.testBit_and,testBit_mk,Nat.zero_testBit]
          by_cases ha:a < m
          · cases e:f b a with
            | false=>simp
            | true =>
              cases e2:x.testBit a with
              | false=>simp
              | true=>exact absurd ⟨a,ha,e2,by rw [hs];exact e⟩ c
          · simp [ha]
      · rintro ⟨c,hc,h1,h2⟩ h
        have h3:=congrArg (fun z=>z.testBit c) (Int.ofNat.inj h)
        simp only [Nat.testBit_and,testBit_mk,decide_eq_true hc,Bool.true_and,h1,Bool.and_true,Nat.zero_testBit] at h3
        rw [hs,h2] at h3
        cases h3
    constructor
    · intro h a ha hya
      exact (key a ha).1 (h (a:Int) (List.mem_map.2 ⟨a,(mem_bitsOf h64).2 hya,rfl⟩))
    · intro h a ha
      obtain ⟨b,hb,rfl⟩:=List.mem_map.1 ha
      exact (key b (hin b hb).1).2 (h b (hin b hb).1 (hin b hb).2)
def RowsOk (S:List Nat) (N:Nat) (R:Int → List Int) (B:Nat → Nat → Int):Prop:=∀ i,0 < i → i < S.length → R ((S.getD i 0:Nat):Int) = rowW (N + 1) (B i)
theorem rowsOk_congr {S:List Nat} {N:Nat} {R:Int → List Int} {B B' : Nat → Nat → Int} (h:RowsOk S N R B) (e:∀ i j,0 < i → i < S.length → j ≤ N → B i j = B' i j):RowsOk S N R B' := fun i h0 h1=>by
  rw [h i h0 h1]
  exact rowW_congr _ (fun j hj=>e i j h0 h1 (by omega))
theorem rowsOk_put {S:List Nat} {N:Nat} {R:Int → List Int} {B:Nat → Nat → Int} (hd:S.Nodup) (h:RowsOk S N R B) (i:Nat) (h0:0 < i) (hi:i < S.length) (j:Nat) (v:Int):RowsOk S N (T.updR R ((S.getD i 0:Nat):Int) (j:Int) (wrap64 v)) (fun i2 j2=>if i2 = i ∧ j2 = j then v else B i2 j2):=fun i2 h2 h3=>by
  unfold T.updR
  by_cases c:i2 = i
  · subst c
    rw [if_pos rfl,h i2 h2 h3,Int.toNat_natCast,set_rowW]
    refine rowW_congr _ (fun q _=>?_)
    by_cases e:q = j <;> simp [e]
  · have c' : ¬ ((S.getD i2 0:Nat):Int) = ((S.getD i 0:Nat):Int):=fun z=>c (getD_inj hd h3 hi (Int.ofNat.inj z))
    rw [if_neg c', h i2 h2 h3]
    refine rowW_congr _ (fun q _=>?_)
    exact (if_neg (fun z=>c z.1)).symm
theorem rdT (S:List Nat) (q:Nat) (h:q + 1 < S.length):rd ((ints S).drop 1) (q:Int) = ((S.getD (q + 1) 0:Nat):Int):=by
  rw [rd_lt _ _ (by simp;omega),List.getElem_drop]
  have:=rdS S (q + 1) h
  rw [rd_lt _ _ (by simp;omega)] at this
  rw [← this]
  congr 1
  omega
theorem count3_ev (m : Nat) (hm : m ≤ 8) (f : Nat → Nat → Bool) (hs : ∀ a b, f a b = f b a) (S : List Nat) (hS : ∀ x ∈ S, x < 2 ^ m) (hl : S.length ≤ 256) (hd : S.Nodup) (N : Nat) (i kN rest : Nat) (hk : kN ≤ N) (h0 : 0 < i) (hi : i < S.length) (hr : rest < kN) (V : Nat → Int) :
    ∀ (d q:Nat) (R:Int → List Int) (B:Nat → Nat → Int),q + d = S.length - 1 → RowsOk S N R B → B i kN = sS (fun k=>if okS m f S i (k + 1) = true then V (k + 1) else 0) q → (∀ k', 0 < k' → k' < S.length → B k' rest = V k') →
      ∃ R', RowsOk S N R' (fun i2 j2=>if i2 = i ∧ j2 = kN then sS (fun k=>if okS m f S i (k + 1) = true then V (k + 1) else 0) (S.length - 1) else B i2 j2) ∧ Ev (fun k=>impl_stepCounts.l3 k (mat m f) ((ints S).drop 1) ((S.getD i 0:Nat):Int) (kN:Int) (rest:Int) R (q:Int)) R' := by
  intro d
  induction d with
  | zero =>
    intro q R B hq hR hB hV
    obtain rfl:q = S.length - 1:=by omega
    refine ⟨R,rowsOk_congr hR (fun i2 j2 _ _ _=>?_),Ev.succ ?_⟩
    · by_cases c:i2 = i ∧ j2 = kN
      · rw [if_pos c,c.1,c.2];exact hB
      · rw [if_neg c]
    · simp only [impl_stepCounts.l3]
      exact Ev.neg (by simp) (Ev.now _)
  | succ d ih =>
    intro q R B hq hR hB hV
    have e3:=rdT S q (by omega)
    have hf:=follows_ev m hm f hs (S.getD i 0) (S.getD (q + 1) 0) (inS m S hS i) (inS m S hS (q + 1))
    have hq1:q ≤ 1000000:=by omega
    by_cases c:okS m f S i (q + 1) = true
    · have hput:=rowsOk_put hd hR i h0 hi kN (B i kN + V (q + 1))
      obtain ⟨R', h1,h2⟩:=ih (q + 1) _ _ (by omega) hput (by
        simp only [and_self,if_true,sS]
        rw [hB,if_pos c]) (fun k' h3 h4=>by
        rw [if_neg (fun z=>by omega)]
        exact hV k' h3 h4)
      refine ⟨R', rowsOk_congr h1 (fun i2 j2 _ _ _=>?_),Ev.succ ?_⟩
      · by_cases c2:i2 = i ∧ j2 = kN
        · rw [if_pos c2,if_pos c2]
        · rw [if_neg c2,if_neg c2,if_neg c2]
      · simp only [impl_stepCounts.l3]
        refine Ev.pos (by simp;omega) (Ev.pos (by omega) ?_)
        rw [e3,w64s q hq1]
        refine Ev.bind hf (Ev.pos c (Ev.pos (by omega) ?_))
        rw [hR i h0 hi,hR (q + 1) (by omega) (by omega),rd_rowW _ _ kN (by omega),rd_rowW _ _ rest (by omega),wrap_plus,hV (q + 1) (by omega) (by omega)]
        exact h2
    · obtain ⟨R', h1, h2⟩ := ih (q + 1) R B (by omega) hR (by
        simp only [sS]
        rw [hB,if_neg c,Int.add_zero]) hV
      refine ⟨R', h1,Ev.succ ?_⟩
      simp only [impl_stepCounts.l3]
      refine Ev.pos (by simp;omega) (Ev.pos (by omega) ?_)
      rw [e3,w64s q hq1]
      exact Ev.bind hf (Ev.neg c h2)
def bS (m:Nat) (f:Nat → Nat → Bool) (S:List Nat) (j i:Nat):Int:=cB S.length (pcS S) (okS m f S) j i
def atS (m:Nat) (f:Nat → Nat → Bool) (S:List Nat) (kN q i j:Nat):Int:=if j < kN ∨ (j = kN ∧ i ≤ q) then bS m f S j i else 0
theorem count2_ev (m : Nat) (hm : m ≤ 8) (f : Nat → Nat → Bool) (hs : ∀ a b, f a b = f b a) (S : List Nat) (hS : ∀ x ∈ S, x < 2 ^ m) (hl : S.length ≤ 256) (hd : S.Nodup) (h00 : S.getD 0 0 = 0) (N kN : Nat) (hN : N ≤ 24) (hk : kN ≤ N) :
    ∀ (d q:Nat) (R:Int → List Int),q + d = S.length - 1 → RowsOk S N R (atS m f S kN q) →
      ∃ R', RowsOk S N R' (atS m f S (kN + 1) 0) ∧ Ev (fun k=>impl_stepCounts.l2 k (mat m f) ((ints S).drop 1) (kN:Int) R (q:Int)) R' := by
  have hpp:=pcS_pos m S hS hd h00
  intro d
  induction d with
  | zero =>
    intro q R hq hR
    refine ⟨R,rowsOk_congr hR (fun i j h0 h1 hj=>?_),Ev.succ ?_⟩
    · unfold atS
      by_cases c:j < kN + 1
      · rw [if_pos (by omega),if_pos (by omega)]
      · rw [if_neg (by omega),if_neg (by omega)]
    · simp only [impl_stepCounts.l2]
      exact Ev.neg (by simp;omega) (Ev.now _)
  | succ d ih =>
    intro q R hq hR
    have e3:=rdT S q (by omega)
    have hle:=pcS_le m hm S hS (q + 1)
    have hp1:=hpp (q + 1) (by omega) (by omega)
    have hsz:impl_size.f ((S.getD (q + 1) 0:Nat):Int) = some ((pcS S (q + 1):Nat):Int):=size_eq (S.getD (q + 1) 0) (Nat.lt_of_lt_of_le (inS m S hS (q + 1)) (Nat.pow_le_pow_right (by decide) hm))
    have hq1:q ≤ 1000000:=by omega
    have hz1:kN ≤ 1000000 ∧ pcS S (q + 1) ≤ 1000000:=by omega
    have hstep:∀ R1,RowsOk S N R1 (fun i2 j2=>if i2 = q + 1 ∧ j2 = kN then bS m f S kN (q + 1) else atS m f S kN q i2 j2) → RowsOk S N R1 (atS m f S kN (q + 1)):=fun R1 h=>rowsOk_congr h (fun i j h0 h1 hj=>by
      by_cases c:i = q + 1 ∧ j = kN
      · rw [if_pos c,c.1,c.2]
        unfold atS
        rw [if_pos (by omega)]
      · rw [if_neg c]
        unfold atS
        by_cases c2:j < kN ∨ (j = kN ∧ i ≤ q)
        · rw [if_pos c2,if_pos (by omega)]
        · rw [if_neg c2,if_neg (by omega)])
    by_cases c1:pcS S (q + 1) = kN
    · have hput:=rowsOk_put hd hR (q + 1) (by omega) (by omega) kN 1
      have e1:bS m f S kN (q + 1) = 1:=by
        rw [← c1]
        exact cB_flat _ _ _ hpp (q + 1) (by omega) (by omega) (okS_first m f S h00 _)
      rw [show wrap64 (1:Int) = 1 from w64 (by omega) (by omega)] at hput
      obtain ⟨R', h1,h2⟩:=ih (q + 1) _ (by omega) (hstep _ (by rw [e1];exact hput))
      refine ⟨R', h1,Ev.succ ?_⟩
      simp only [impl_stepCounts.l2]
      refine Ev.pos (by simp;omega) (Ev.pos (by omega) ?_)
      rw [e3,hsz,w64s q hq1]
      refine Ev.some_bind ?_
      rw [w64n kN (pcS S (q + 1)) hz1.1 hz1.2]
      exact Ev.pos (by omega) h2
    · by_cases c2:pcS S (q + 1) < kN
      · obtain ⟨R1, g1, g2⟩ := count3_ev m hm f hs S hS hl hd N (q + 1) kN (kN - pcS S (q + 1)) hk (by omega) (by omega) (by omega) (bS m f S (kN - pcS S (q + 1))) (S.length - 1) 0 R _ (by omega) hR (by
          unfold atS
          rw [if_neg (by omega)]
          rfl) (fun k' h3 h4=>by
          unfold atS
          rw [if_pos (by omega)])
        have e1:=cB_more S.length (pcS S) (okS m f S) hpp kN (q + 1) (by omega) (by omega) c2
        obtain ⟨R', h1,h2⟩:=ih (q + 1) R1 (by omega) (hstep _ (by unfold bS;rw [e1];exact g1))
        refine ⟨R', h1,Ev.succ ?_⟩
        simp only [impl_stepCounts.l2]
        refine Ev.pos (by simp;omega) (Ev.pos (by omega) ?_)
        rw [e3,hsz,w64s q hq1]
        refine Ev.some_bind ?_
        rw [w64m kN (pcS S (q + 1)) hz1.1 (by omega)]
        exact Ev.neg (by omega) (Ev.neg (by omega) (Ev.bind g2 h2))
      · have e1:bS m f S kN (q + 1) = 0:=cB_none _ _ _ _ _ (by omega) (by omega)
        obtain ⟨R', h1,h2⟩:=ih (q + 1) R (by omega) (hstep _ (rowsOk_congr hR (fun i j h0 h1 hj=>by
          by_cases c:i = q + 1 ∧ j = kN
          · rw [if_pos c,c.1,c.2,e1]
            unfold atS
            rw [if_neg (by omega)]
          · rw [if_neg c])))
        refine ⟨R', h1,Ev.succ ?_⟩
        simp only [impl_stepCounts.l2]
        refine Ev.pos (by simp;omega) (Ev.pos (by omega) ?_)
        rw [e3,hsz,w64s q hq1]
        refine Ev.some_bind ?_
        rw [w64n kN (pcS S (q + 1)) hz1.1 hz1.2]
        exact Ev.neg (by omega) (Ev.pos (by omega) h2)
theorem count1_ev (m : Nat) (hm : m ≤ 8) (f : Nat → Nat → Bool) (hs : ∀ a b, f a b = f b a) (S : List Nat) (hS : ∀ x ∈ S, x < 2 ^ m) (hl : S.length ≤ 256) (hd : S.Nodup) (h00 : S.getD 0 0 = 0) (N : Nat) (hN : N ≤ 24) :
    ∀ (d kN:Nat) (R:Int → List Int),kN + d = N + 1 → 1 ≤ kN → RowsOk S N R (atS m f S kN 0) →
      ∃ R', RowsOk S N R' (fun i j=>bS m f S j i) ∧ Ev (fun k=>impl_stepCounts.l1 k (mat m f) ((ints S).drop 1) (N:Int) R (kN:Int)) R' := by
  intro d
  induction d with
  | zero =>
    intro kN R hk h1 hR
    refine ⟨R,rowsOk_congr hR (fun i j _ _ hj=>?_),Ev.succ ?_⟩
    · unfold atS
      rw [if_pos (by omega)]
    · simp only [impl_stepCounts.l1]
      exact Ev.neg (by omega) (Ev.now _)
  | succ d ih =>
    intro kN R hk h1 hR
    obtain ⟨R1,g1,g2⟩:=count2_ev m hm f hs S hS hl hd h00 N kN hN (by omega) (S.length - 1) 0 R (by omega) hR
    obtain ⟨R', g3,g4⟩:=ih (kN + 1) R1 (by omega) (by omega) g1
    refine ⟨R', g3,Ev.succ ?_⟩
    simp only [impl_stepCounts.l1]
    refine Ev.pos (by omega) (Ev.pos (by omega) (Ev.bind g2 ?_))
    rw [w64' (by omega)]
    exact g4
theorem stepCounts_ev (m : Nat) (hm : m ≤ 8) (f : Nat → Nat → Bool) (hs : ∀ a b, f a b = f b a) (hr : ∀ a, a < m → f a a = true) (N : Nat) (hN : N ≤ 24) :
    ∃ R,RowsOk (stepsP m f) N R (fun i j=>bS m f (stepsP m f) j i) ∧ Ev (fun k=>impl_stepCounts.f k (m:Int) (mat m f) (N:Int)) ((ints (stepsP m f)).drop 1,R):=by
  obtain ⟨T,hT⟩:=stepsP_head m f
  have hd:=stepsP_nodup m f
  have hl:=stepsP_few m hm f
  have hS:=stepsP_lt m f
  have h1:1 ≤ (stepsP m f).length:=by rw [hT];simp
  have h00:(stepsP m f).getD 0 0 = 0:=by rw [hT];rfl
  have hpp:=pcS_pos m _ hS hd h00
  obtain ⟨R,g1,g2⟩:=count1_ev m hm f hs _ hS hl hd h00 N hN N 1 (fun _=>List.replicate (N + 1) 0) (by omega) (Nat.le_refl 1) (fun i h0 hi=>by
    rw [rowW_none]
    refine rowW_congr _ (fun j hj=>?_)
    unfold atS
    by_cases c:j < 1 ∨ (j = 1 ∧ i ≤ 0)
    · rw [if_pos c]
      have:=hpp i h0 hi
      exact (cB_none _ _ _ _ _ (by omega) (by omega)).symm
    · rw [if_neg c])
  refine ⟨R,g1,?_⟩
  simp only [impl_stepCounts.f]
  have hw:∀ x:Nat,x < 2 ^ m → (Lit.int .i64 (x:Int)).wf = true:=fun x hx=>by
    have h8:(2:Nat) ^ m ≤ 2 ^ 8:=Nat.pow_le_pow_right (by decide) hm
    have h9:x < 256:=by omega
    simp only [Lit.wf,IntKind.min,IntKind.max,IntKind.signed,IntKind.bits,Bool.and_eq_true,decide_eq_true_eq,if_true]
    omega
  refine Ev.bind (stepsOf_ev m hm f hs hr) (Ev.pos ⟨by rw [ints_length];exact h1,by rw [ints_length];omega,?_,?_,by omega,by omega⟩ (Ev.bind ?_ (Ev.now _)))
  · refine (List.drop_sublist 1 _).nodup ?_
    exact List.Pairwise.map _ (fun a b hab h=>hab (Int.ofNat.inj h)) hd
  · rw [List.all_eq_true]
    intro s hs
    obtain ⟨x,hx,rfl⟩:=List.mem_map.1 (List.mem_of_mem_drop hs)
    exact hw x (hS x hx)
  · rw [show ((N:Int) + 1).toNat = N + 1 by omega]
    exact g2
def dS (m:Nat) (f:Nat → Nat → Bool) (S:List Nat) (h j i:Nat):Int:=dD (S.length - 1) (fun q=>pcS S (q + 1)) (fun q k=>okS m f S (q + 1) (k + 1)) h j (i - 1)
theorem dS_next (m:Nat) (f:Nat → Nat → Bool) (S:List Nat) (h j r:Nat) (h0:0 < r):sS (fun s=>if okS m f S (s + 1) r = true ∧ pcS S r ≤ j then dS m f S h (j - pcS S r) (s + 1) else 0) (S.length - 1) = dS m f S (h + 1) j r:=by
  obtain ⟨r', rfl⟩:∃ r', r = r' + 1:=⟨r - 1,by omega⟩
  unfold dS
  rw [Nat.add_sub_cancel,dD]
  by_cases c:pcS S (r' + 1) ≤ j
  · rw [if_pos c]
    refine sS_congr _ (fun s _=>?_)
    by_cases d:okS m f S (s + 1) (r' + 1) = true
    · rw [if_pos ⟨d,c⟩,if_pos d,Nat.add_sub_cancel]
    · rw [if_neg (fun z=>d z.1),if_neg d]
  · rw [if_neg c]
    exact sS_none _ (fun s _=>if_neg (fun z=>c z.2))
theorem hgt0_ev (m : Nat) (hm : m ≤ 8) (S : List Nat) (hS : ∀ x ∈ S, x < 2 ^ m) (hl : S.length ≤ 256) (hd : S.Nodup) (N : Nat) (hN : N ≤ 24) :
    ∀ (d q:Nat) (R:Int → List Int),q + d = S.length - 1 → RowsOk S N R (fun i j=>if i ≤ q then (if j = pcS S i then 1 else 0) else 0) →
      ∃ R', RowsOk S N R' (fun i j=>if j = pcS S i then 1 else 0) ∧ Ev (fun k=>impl_CountByHeight.l0 k (N:Int) ((ints S).drop 1) R (q:Int)) R' := by
  intro d
  induction d with
  | zero =>
    intro q R hq hR
    refine ⟨R,rowsOk_congr hR (fun i j h0 h1 _=>if_pos (by omega)),Ev.succ ?_⟩
    simp only [impl_CountByHeight.l0]
    exact Ev.neg (by simp;omega) (Ev.now _)
  | succ d ih =>
    intro q R hq hR
    have e3:=rdT S q (by omega)
    have hle:=pcS_le m hm S hS (q + 1)
    have hsz:impl_size.f ((S.getD (q + 1) 0:Nat):Int) = some ((pcS S (q + 1):Nat):Int):=size_eq (S.getD (q + 1) 0) (Nat.lt_of_lt_of_le (inS m S hS (q + 1)) (Nat.pow_le_pow_right (by decide) hm))
    have hq1:q ≤ 1000000:=by omega
    by_cases c:pcS S (q + 1) ≤ N
    · have hput:=rowsOk_put hd hR (q + 1) (by omega) (by omega) (pcS S (q + 1)) 1
      rw [show wrap64 (1:Int) = 1 from w64 (by omega) (by omega)] at hput
      obtain ⟨R', h1,h2⟩:=ih (q + 1) _ (by omega) (rowsOk_congr hput (fun i j h0 h1 _=>by
        by_cases e:i = q + 1
        · subst e
          by_cases e2:j = pcS S (q + 1)
          · rw [if_pos ⟨rfl,e2⟩,if_pos (by omega),if_pos e2]
          · rw [if_neg (fun z=>e2 z.2),if_neg (by omega),if_pos (by omega),if_neg e2]
        · rw [if_neg (fun z=>e z.1)]
          by_cases e2:i ≤ q
          · rw [if_pos e2,if_pos (show i ≤ q + 1 by omega)]
          · rw [if_neg e2,if_neg (show ¬ i ≤ q + 1 by omega)]))
      refine ⟨R', h1,Ev.succ ?_⟩
      simp only [impl_CountByHeight.l0]
      refine Ev.pos (by simp;omega) (Ev.pos (by omega) ?_)
      rw [e3,hsz,w64s q hq1]
      exact Ev.some_bind (Ev.pos (by omega) (Ev.pos (by omega) h2))
    · obtain ⟨R', h1, h2⟩ := ih (q + 1) R (by omega) (rowsOk_congr hR (fun i j h0 h1 hj => by
        by_cases e:i = q + 1
        · subst e
          rw [if_neg (by omega),if_pos (by omega),if_neg (by omega)]
        · by_cases e2:i ≤ q
          · rw [if_pos e2,if_pos (show i ≤ q + 1 by omega)]
          · rw [if_neg e2,if_neg (show ¬ i ≤ q + 1 by omega)]))
      refine ⟨R', h1,Ev.succ ?_⟩
      simp only [impl_CountByHeight.l0]
      refine Ev.pos (by simp;omega) (Ev.pos (by omega) ?_)
      rw [e3,hsz,w64s q hq1]
      exact Ev.some_bind (Ev.neg (by omega) h2)
theorem hgt2_ev (S : List Nat) (hl : S.length ≤ 256) (N : Nat) (R : Int → List Int) (B : Nat → Nat → Int) (hR : RowsOk S N R B) (h : Nat) (hh : h ≤ N) (g : Nat → Int) :
    ∀ (d q:Nat),q + d = S.length - 1 → Ev (fun k=>impl_CountByHeight.l2 k (N:Int) ((ints S).drop 1) R (h:Int) (rowW (N + 1) (fun x=>if x = h then g h + sS (fun i=>B (i + 1) N) q else g x)) (q:Int)) (rowW (N + 1) (fun x=>if x = h then g h + sS (fun i=>B (i + 1) N) (S.length - 1) else g x)):=by
  intro d
  induction d with
  | zero =>
    intro q hq
    obtain rfl:q = S.length - 1:=by omega
    refine Ev.succ ?_
    simp only [impl_CountByHeight.l2]
    exact Ev.neg (by simp) (Ev.now _)
  | succ d ih =>
    intro q hq
    have e3:=rdT S q (by omega)
    have hq1:q ≤ 1000000:=by omega
    have i1:=ih (q + 1) (by omega)
    refine Ev.succ ?_
    simp only [impl_CountByHeight.l2]
    refine Ev.pos (by simp;omega) (Ev.pos (by omega) ?_)
    rw [e3,w64s q hq1,hR (q + 1) (by omega) (by omega),rd_rowW _ _ N (by omega),rd_rowW _ _ h (by omega),if_pos rfl,wrap_plus,Int.toNat_natCast,set_rowW]
    rw [rowW_congr (N + 1) (g' := fun x=>if x = h then g h + sS (fun i=>B (i + 1) N) (q + 1) else g x) (fun x _=>by
      by_cases e:x = h
      · rw [if_pos e,if_pos e]
        simp only [sS]
        omega
      · rw [if_neg e,if_neg e,if_neg e])]
    exact i1
theorem w64p (a b:Nat) (ha:a ≤ 1000000) (hb:b ≤ 1000000):wrap64 ((a:Int) + (b:Int)) = ((a + b:Nat):Int):=by unfold wrap64;omega
theorem hgt5_ev (S : List Nat) (hd : S.Nodup) (N : Nat) (hN : N ≤ 24) (R : Int → List Int) (B : Nat → Nat → Int) (hR : RowsOk S N R B) (i r : Nat) (i0 : 0 < i) (hi : i < S.length) (r0 : 0 < r) (hr : r < S.length) (hz : 1 ≤ pcS S r) (hz8 : pcS S r ≤ 8) :
    ∀ (d q:Nat) (R2:Int → List Int) (B2:Nat → Nat → Int),q + d = N + 1 → RowsOk S N R2 B2 →
      ∃ R3,RowsOk S N R3 (fun i2 j2=>if i2 = r ∧ pcS S r + q ≤ j2 then B2 i2 j2 + B i (j2 - pcS S r) else B2 i2 j2) ∧ Ev (fun k=>impl_CountByHeight.l5 k (N:Int) R ((S.getD i 0:Nat):Int) ((S.getD r 0:Nat):Int) ((pcS S r:Nat):Int) R2 (q:Int)) R3:=by
  have stop:∀ (q:Nat) (R2:Int → List Int) (B2:Nat → Nat → Int),q ≤ N + 1 → N < q + pcS S r → RowsOk S N R2 B2 → ∃ R3,RowsOk S N R3 (fun i2 j2=>if i2 = r ∧ pcS S r + q ≤ j2 then B2 i2 j2 + B i (j2 - pcS S r) else B2 i2 j2) ∧ Ev (fun k=>impl_CountByHeight.l5 k (N:Int) R ((S.getD i 0:Nat):Int) ((S.getD r 0:Nat):Int) ((pcS S r:Nat):Int) R2 (q:Int)) R3:=by
    intro q R2 B2 hq hs h
    refine ⟨R2,rowsOk_congr h (fun i2 j2 _ _ hj=>(if_neg (by omega)).symm),Ev.succ ?_⟩
    simp only [impl_CountByHeight.l5]
    rw [w64p q (pcS S r) (by omega) (by omega)]
    exact Ev.neg (by omega) (Ev.now _)
  intro d
  induction d with
  | zero =>
    intro q R2 B2 hq h
    exact stop q R2 B2 (by omega) (by omega) h
  | succ d ih =>
    intro q R2 B2 hq h
    by_cases c:q + pcS S r ≤ N
    · have hput:=rowsOk_put hd h r r0 hr (q + pcS S r) (B2 r (q + pcS S r) + B i q)
      obtain ⟨R3,h1,h2⟩:=ih (q + 1) _ _ (by omega) hput
      refine ⟨R3,rowsOk_congr h1 (fun i2 j2 _ _ _=>?_),Ev.succ ?_⟩
      · by_cases e:i2 = r
        · subst e
          by_cases e2:j2 = q + pcS S i2
          · subst e2
            rw [if_neg (by omega),if_pos ⟨rfl,rfl⟩,if_pos (by omega),Nat.add_sub_cancel]
          · rw [if_neg (show ¬ (i2 = i2 ∧ j2 = q + pcS S i2) by omega)]
            by_cases e3:pcS S i2 + q ≤ j2
            · rw [if_pos (by omega),if_pos (by omega)]
            · rw [if_neg (by omega),if_neg (by omega)]
        · rw [if_neg (fun z=>e z.1),if_neg (fun z=>e z.1),if_neg (fun z=>e z.1)]
      · simp only [impl_CountByHeight.l5]
        rw [w64p q (pcS S r) (by omega) (by omega)]
        refine Ev.pos (by omega) (Ev.pos (by omega) ?_)
        rw [h r r0 hr,hR i i0 hi,rd_rowW _ _ (q + pcS S r) (by omega),rd_rowW _ _ q (by omega),wrap_plus,w64s q (by omega)]
        exact h2
    · exact stop q R2 B2 (by omega) (by omega) h
theorem hgt4_ev (m : Nat) (hm : m ≤ 8) (f : Nat → Nat → Bool) (hs : ∀ a b, f a b = f b a) (S : List Nat) (hS : ∀ x ∈ S, x < 2 ^ m) (hl : S.length ≤ 256) (hd : S.Nodup) (h00 : S.getD 0 0 = 0) (N : Nat) (hN : N ≤ 24) (R : Int → List Int) (B : Nat → Nat → Int) (hR : RowsOk S N R B) (i : Nat) (i0 : 0 < i) (hi : i < S.length) :
    ∀ (d q:Nat) (R2:Int → List Int) (B2:Nat → Nat → Int),q + d = S.length - 1 → RowsOk S N R2 B2 →
      ∃ R3,RowsOk S N R3 (fun r j=>if q < r ∧ okS m f S i r = true ∧ pcS S r ≤ j then B2 r j + B i (j - pcS S r) else B2 r j) ∧ Ev (fun k=>impl_CountByHeight.l4 k (mat m f) (N:Int) ((ints S).drop 1) R ((S.getD i 0:Nat):Int) R2 (q:Int)) R3:=by
  have hpp:=pcS_pos m S hS hd h00
  intro d
  induction d with
  | zero =>
    intro q R2 B2 hq h
    refine ⟨R2,rowsOk_congr h (fun r j _ h1 _=>(if_neg (by omega)).symm),Ev.succ ?_⟩
    simp only [impl_CountByHeight.l4]
    exact Ev.neg (by simp;omega) (Ev.now _)
  | succ d ih =>
    intro q R2 B2 hq h
    have e3:=rdT S q (by omega)
    have hle:=pcS_le m hm S hS (q + 1)
    have hp1:=hpp (q + 1) (by omega) (by omega)
    have hf:=follows_ev m hm f hs (S.getD i 0) (S.getD (q + 1) 0) (inS m S hS i) (inS m S hS (q + 1))
    have hsz:impl_size.f ((S.getD (q + 1) 0:Nat):Int) = some ((pcS S (q + 1):Nat):Int):=size_eq (S.getD (q + 1) 0) (Nat.lt_of_lt_of_le (inS m S hS (q + 1)) (Nat.pow_le_pow_right (by decide) hm))
    have hq1:q ≤ 1000000:=by omega
    by_cases c:okS m f S i (q + 1) = true
    · obtain ⟨Ra,a1,a2⟩:=hgt5_ev S hd N hN R B hR i (q + 1) i0 hi (by omega) (by omega) hp1 hle (N + 1) 0 R2 B2 (by omega) h
      obtain ⟨R3,h1,h2⟩:=ih (q + 1) Ra _ (by omega) a1
      refine ⟨R3,rowsOk_congr h1 (fun r j _ _ _=>?_),Ev.succ ?_⟩
      · by_cases e:r = q + 1
        · subst e
          rw [if_neg (by omega)]
          by_cases e2:pcS S (q + 1) ≤ j
          · rw [if_pos ⟨rfl,by omega⟩,if_pos ⟨by omega,c,e2⟩]
          · rw [if_neg (by omega),if_neg (fun z=>e2 z.2.2)]
        · rw [if_neg (show ¬ (r = q + 1 ∧ pcS S (q + 1) + 0 ≤ j) from fun z=>e z.1)]
          by_cases e2:q + 1 < r ∧ okS m f S i r = true ∧ pcS S r ≤ j
          · rw [if_pos e2,if_pos ⟨by omega,e2.2⟩]
          · rw [if_neg e2,if_neg (fun z=>e2 ⟨by omega,z.2⟩)]
      · simp only [impl_CountByHeight.l4]
        refine Ev.pos (by simp;omega) (Ev.pos (by omega) ?_)
        rw [e3,hsz,w64s q hq1]
        exact Ev.bind hf (Ev.pos c (Ev.some_bind (Ev.bind a2 h2)))
    · obtain ⟨R3,h1,h2⟩:=ih (q + 1) R2 B2 (by omega) h
      refine ⟨R3,rowsOk_congr h1 (fun r j _ _ _=>?_),Ev.succ ?_⟩
      · by_cases e2:q + 1 < r ∧ okS m f S i r = true ∧ pcS S r ≤ j
        · rw [if_pos e2,if_pos ⟨by omega,e2.2⟩]
        · rw [if_neg e2]
          by_cases e:r = q + 1
          · subst e
            exact (if_neg (fun z=>c z.2.1)).symm
          · exact (if_neg (fun z=>e2 ⟨by omega,z.2⟩)).symm
      · simp only [impl_CountByHeight.l4]
        refine Ev.pos (by simp;omega) (Ev.pos (by omega) ?_)
        rw [e3,w64s q hq1]
        exact Ev.bind hf (Ev.neg c h2)
theorem hgt3_ev (m : Nat) (hm : m ≤ 8) (f : Nat → Nat → Bool) (hs : ∀ a b, f a b = f b a) (S : List Nat) (hS : ∀ x ∈ S, x < 2 ^ m) (hl : S.length ≤ 256) (hd : S.Nodup) (h00 : S.getD 0 0 = 0) (N : Nat) (hN : N ≤ 24) (R : Int → List Int) (B : Nat → Nat → Int) (hR : RowsOk S N R B) :
    ∀ (d q:Nat) (R2:Int → List Int),q + d = S.length - 1 → RowsOk S N R2 (fun r j=>sS (fun s=>if okS m f S (s + 1) r = true ∧ pcS S r ≤ j then B (s + 1) (j - pcS S r) else 0) q) →
      ∃ R3,RowsOk S N R3 (fun r j=>sS (fun s=>if okS m f S (s + 1) r = true ∧ pcS S r ≤ j then B (s + 1) (j - pcS S r) else 0) (S.length - 1)) ∧ Ev (fun k=>impl_CountByHeight.l3 k (mat m f) (N:Int) ((ints S).drop 1) R R2 (q:Int)) R3:=by
  intro d
  induction d with
  | zero =>
    intro q R2 hq h
    obtain rfl:q = S.length - 1:=by omega
    refine ⟨R2,h,Ev.succ ?_⟩
    simp only [impl_CountByHeight.l3]
    exact Ev.neg (by simp) (Ev.now _)
  | succ d ih =>
    intro q R2 hq h
    have e3:=rdT S q (by omega)
    have hq1:q ≤ 1000000:=by omega
    obtain ⟨Ra,a1,a2⟩:=hgt4_ev m hm f hs S hS hl hd h00 N hN R B hR (q + 1) (by omega) (by omega) (S.length - 1) 0 R2 _ (by omega) h
    obtain ⟨R3,h1,h2⟩:=ih (q + 1) Ra (by omega) (rowsOk_congr a1 (fun r j r0 _ _=>by
      simp only [sS]
      by_cases e:okS m f S (q + 1) r = true ∧ pcS S r ≤ j
      · rw [if_pos ⟨r0,e⟩,if_pos e]
      · rw [if_neg (fun z=>e z.2),if_neg e,Int.add_zero]))
    refine ⟨R3,h1,Ev.succ ?_⟩
    simp only [impl_CountByHeight.l3]
    refine Ev.pos (by simp;omega) (Ev.pos (by omega) ?_)
    rw [e3,w64s q hq1]
    exact Ev.bind a2 h2
def outS (m:Nat) (f:Nat → Nat → Bool) (S:List Nat) (N h:Nat):List Int:=rowW (N + 1) (fun x=>if 1 ≤ x ∧ x < h then sS (fun i=>dS m f S (x - 1) N (i + 1)) (S.length - 1) else 0)
theorem hgt1_ev (m : Nat) (hm : m ≤ 8) (f : Nat → Nat → Bool) (hs : ∀ a b, f a b = f b a) (S : List Nat) (hS : ∀ x ∈ S, x < 2 ^ m) (hl : S.length ≤ 256) (hd : S.Nodup) (h00 : S.getD 0 0 = 0) (N : Nat) (hN : N ≤ 24) :
    ∀ (d h:Nat) (R:Int → List Int),h + d = N + 1 → 1 ≤ h → RowsOk S N R (fun i j=>dS m f S (h - 1) j i) → Ev (fun k=>impl_CountByHeight.l1 k (mat m f) (N:Int) ((ints S).drop 1) R (outS m f S N h) (h:Int)) (outS m f S N (N + 1)):=by
  intro d
  induction d with
  | zero =>
    intro h R hh h1 hR
    obtain rfl:h = N + 1:=by omega
    refine Ev.succ ?_
    simp only [impl_CountByHeight.l1]
    exact Ev.neg (by omega) (Ev.now _)
  | succ d ih =>
    intro h R hh h1 hR
    have e2:=hgt2_ev S hl N R _ hR h (by omega) (fun x=>if 1 ≤ x ∧ x < h then sS (fun i=>dS m f S (x - 1) N (i + 1)) (S.length - 1) else 0) (S.length - 1) 0 (by omega)
    have ea:rowW (N + 1) (fun x=>if x = h then (if 1 ≤ h ∧ h < h then sS (fun i=>dS m f S (h - 1) N (i + 1)) (S.length - 1) else 0) + sS (fun i=>dS m f S (h - 1) N (i + 1)) 0 else (if 1 ≤ x ∧ x < h then sS (fun i=>dS m f S (x - 1) N (i + 1)) (S.length - 1) else 0)) = outS m f S N h:=rowW_congr _ (fun x _=>by
      by_cases e:x = h
      · subst e
        rw [if_pos rfl,if_neg (by omega)]
        rfl
      · rw [if_neg e])
    have eb:rowW (N + 1) (fun x=>if x = h then (if 1 ≤ h ∧ h < h then sS (fun i=>dS m f S (h - 1) N (i + 1)) (S.length - 1) else 0) + sS (fun i=>dS m f S (h - 1) N (i + 1)) (S.length - 1) else (if 1 ≤ x ∧ x < h then sS (fun i=>dS m f S (x - 1) N (i + 1)) (S.length - 1) else 0)) = outS m f S N (h + 1):=rowW_congr _ (fun x _=>by
      by_cases e:x = h
      · subst e
        rw [if_pos rfl,if_neg (show ¬ (1 ≤ x ∧ x < x) by omega),if_pos (show 1 ≤ x ∧ x < x + 1 by omega),Int.zero_add]
      · rw [if_neg e]
        by_cases e2:1 ≤ x ∧ x < h
        · rw [if_pos e2,if_pos (by omega)]
        · rw [if_neg e2,if_neg (by omega)])
    have e2' : Ev (fun k=>impl_CountByHeight.l2 k (N:Int) ((ints S).drop 1) R (h:Int) (outS m f S N h) 0) (outS m f S N (h + 1)):=by
      rw [← ea,← eb]
      exact e2
    obtain ⟨R3,g1,g2⟩:=hgt3_ev m hm f hs S hS hl hd h00 N hN R _ hR (S.length - 1) 0 (fun _=>List.replicate (N + 1) 0) (by omega) (fun i _ _=>rowW_none (N + 1))
    have i1:=ih (h + 1) R3 (by omega) (by omega) (rowsOk_congr g1 (fun r j r0 _ _=>by
      have:=dS_next m f S (h - 1) j r r0
      rw [show h - 1 + 1 = h + 1 - 1 by omega] at this
      exact this))
    refine Ev.succ ?_
    simp only [impl_CountByHeight.l1]
    refine Ev.pos (by omega) (Ev.pos (by omega) (Ev.bind e2' ?_))
    rw [show ((N:Int) + 1).toNat = N + 1 by omega,w64s h (by omega)]
    exact Ev.bind g2 i1
theorem rowW_snoc (L:Nat) (g:Nat → Int):rowW (L + 1) g = rowW L g ++ [wrap64 (g L)]:=by simp [rowW,List.range_succ]
theorem heights_ev (m:Nat) (f:Nat → Nat → Bool) (S:List Nat) (hl:S.length ≤ 256) (N:Nat) (hN:N ≤ 24):Ev (fun k=>spec_CountByHeight.l0 k (heightsA m f S N (N + 1)) [] 0) (rowW (N + 1) (fun h=>sS (fun i=>aS m f S h N i) S.length),0):=by
  have inner:∀ (h:Nat) (o:List Int) (res:List Int × Int),h ≤ N → o.length ≤ 1000 → Ev (fun k=>spec_CountByHeight.l0 k (heightsA m f S N (N + 1)) (o ++ [wrap64 (sS (fun i=>aS m f S h N i) S.length)]) ((h + 1:Nat):Int)) res → ∀ (d q:Nat),q + d = S.length → Ev (fun k=>spec_CountByHeight.l1 k (heightsA m f S N (N + 1)) o (h:Int) (wrap64 (sS (fun i=>aS m f S h N i) q)) (q:Int)) res:=by
    intro h o res hh ho hend d
    induction d with
    | zero =>
      intro q hq
      obtain rfl:q = S.length:=by omega
      refine Ev.succ ?_
      simp only [spec_CountByHeight.l1]
      refine Ev.pos (by omega) (Ev.pos (by simp;omega) ?_)
      rw [rd_heightsA m f S N (N + 1) h (by omega)]
      refine Ev.neg (by simp) (Ev.pos (by omega) ?_)
      rw [w64s h (by omega)]
      exact hend
    | succ d ih =>
      intro q hq
      have i1:=ih (q + 1) (by omega)
      refine Ev.succ ?_
      simp only [spec_CountByHeight.l1]
      refine Ev.pos (by omega) (Ev.pos (by simp;omega) ?_)
      rw [rd_heightsA m f S N (N + 1) h (by omega)]
      refine Ev.pos (by simp;omega) (Ev.pos (by omega) ?_)
      rw [rd_rowW _ _ q (by omega),wrap_plus,w64s q (by omega)]
      exact i1
  have loop:∀ (d h:Nat),h + d = N + 1 → Ev (fun k=>spec_CountByHeight.l0 k (heightsA m f S N (N + 1)) (rowW h (fun h=>sS (fun i=>aS m f S h N i) S.length)) (h:Int)) (rowW (N + 1) (fun h=>sS (fun i=>aS m f S h N i) S.length),0):=by
    intro d
    induction d with
    | zero =>
      intro h hh
      obtain rfl:h = N + 1:=by omega
      refine Ev.succ ?_
      simp only [spec_CountByHeight.l0]
      exact Ev.neg (by simp) (Ev.now _)
    | succ d ih =>
      intro h hh
      have i1:=ih (h + 1) (by omega)
      rw [rowW_snoc] at i1
      have i2:=inner h _ _ (by omega) (by rw [rowW_length];omega) i1 S.length 0 (by omega)
      rw [show wrap64 (sS (fun i=>aS m f S h N i) 0) = 0 from w64 (by simp [sS]) (by simp [sS])] at i2
      refine Ev.succ ?_
      simp only [spec_CountByHeight.l0]
      exact Ev.pos (by simp;omega) i2
  exact loop (N + 1) 0 (by omega)
theorem outS_spec (m:Nat) (f:Nat → Nat → Bool) (S:List Nat) (h1:1 ≤ S.length) (h00:S.getD 0 0 = 0) (N:Nat) (hN:1 ≤ N):outS m f S N (N + 1) = rowW (N + 1) (fun h=>sS (fun i=>aS m f S h N i) S.length):=by
  refine rowW_congr _ (fun x hx=>?_)
  by_cases c:x = 0
  · subst c
    rw [if_neg (by omega)]
    exact (sS_none _ (fun i _=>if_neg (fun z=>by omega))).symm
  · obtain ⟨y,rfl⟩:∃ y,x = y + 1:=⟨x - 1,by omega⟩
    rw [if_pos (by omega)]
    have e:=cA_dD (S.length - 1) (pcS S) (okS m f S) (okS_first m f S h00) y N
    rw [show S.length - 1 + 1 = S.length by omega] at e
    exact e.symm
theorem listP_mem (m:Nat) (f:Nat → Nat → Bool):∀ (j M:Nat) (s w:List Nat),w ∈ listP m f j M s ↔ ∃ u:List Nat,w = s ++ u ∧ u.length = j ∧ (∀ x ∈ u,x < m) ∧ normalP f m u = u ∧ ∀ b,isFirst f u b = true → M.testBit b = false:=by
  intro j
  induction j with
  | zero =>
    intro M s w
    simp only [listP,List.mem_singleton]
    constructor
    · rintro rfl
      exact ⟨[],by simp,rfl,by simp,rfl,fun b hb=>by simp [isFirst] at hb⟩
    · rintro ⟨u,rfl,hu,_⟩
      rw [List.length_eq_zero_iff.1 hu,List.append_nil]
  | succ j ih =>
    intro M s w
    have hafter:∀ c b,(afterP m f M c).testBit b = (decide (b < m) && ((M.testBit b || decide (b < c)) && !f c b)):=fun c b=>by
      unfold afterP
      rw [testBit_mk]
    simp only [listP,List.mem_flatMap]
    constructor
    · rintro ⟨c,hc,hw⟩
      have hcm:c < m:=by have:=List.mem_range'.1 hc;omega
      by_cases hM:M.testBit c = true
      · rw [if_pos hM] at hw;cases hw
      · rw [if_neg hM,ih] at hw
        obtain ⟨u,rfl,hu,hl,hn,hf⟩:=hw
        have hcu:∀ x ∈ c :: u,x < m:=fun x hx=>(List.mem_cons.1 hx).elim (fun e=>e ▸ hcm) (hl x)
        have hshut:∀ b,isFirst f u b = true → f c b = false → M.testBit b = false ∧ ¬ b < c:=fun b hb hfb=>by
          have h1:=hf b hb
          rw [hafter,decide_eq_true (hl b (isFirst_mem f hb)),hfb] at h1
          have h2:M.testBit b = false ∧ decide (b < c) = false:=by simpa using h1
          exact ⟨h2.1,of_decide_eq_false h2.2⟩
        have hleast:leastF (isFirst f (c :: u)) m = c:=leastF_unique hcm (isFirst_head f c u) (fun b hb=>by
          simp only [isFirst,Bool.or_eq_false_iff,decide_eq_false_iff_not]
          refine ⟨by omega,?_⟩
          cases e:isFirst f u b with
          | false=>simp
          | true =>
            cases e2:f c b with
            | true=>simp
            | false=>exact absurd hb (hshut b e e2).2)
        refine ⟨c :: u,by simp,by simp [hu],hcu,?_,fun b hb=>?_⟩
        · rw [normalP_cons f hcu (by simp),hleast,List.erase_cons_head,hn]
        · simp only [isFirst,Bool.or_eq_true,decide_eq_true_eq,Bool.and_eq_true,Bool.not_eq_true'] at hb
          rcases hb with rfl | ⟨h1,h2⟩
          · simpa using hM
          · exact (hshut b h2 h1).1
    · rintro ⟨u,rfl,hu,hl,hn,hf⟩
      cases u with
      | nil=>simp at hu
      | cons c u =>
        have hcm:=hl c List.mem_cons_self
        have hul:∀ x ∈ u,x < m:=fun x hx=>hl x (List.mem_cons_of_mem _ hx)
        rw [normalP_cons f hl (by simp)] at hn
        have hleast:leastF (isFirst f (c :: u)) m = c:=(List.cons.inj hn).1
        have hn2:=(List.cons.inj hn).2
        rw [hleast,List.erase_cons_head] at hn2
        obtain ⟨_,_,hmin⟩:=least_first f hl (by simp:c :: u ≠ [])
        rw [hleast] at hmin
        refine ⟨c,List.mem_range'.2 ⟨c,hcm,by omega⟩,?_⟩
        have hMc:=hf c (isFirst_head f c u)
        rw [if_neg (by rw [hMc];decide),ih]
        refine ⟨u,by simp,by simpa using hu,hul,hn2,fun b hb=>?_⟩
        rw [hafter]
        cases e:f c b with
        | true=>simp
        | false =>
          have h1:isFirst f (c :: u) b = true:=by simp [isFirst,e,hb]
          have h2:=hf b h1
          have h3:¬ b < c:=fun z=>by rw [hmin b z] at h1;cases h1
          simp [h2,h3]
theorem listP_nodup (m:Nat) (f:Nat → Nat → Bool):∀ (j M:Nat) (s:List Nat),(listP m f j M s).Nodup:=by
  intro j
  induction j with
  | zero=>intro M s;simp [listP]
  | succ j ih =>
    intro M s
    simp only [listP]
    unfold List.Nodup
    rw [List.pairwise_flatMap]
    refine ⟨fun c _=>?_,?_⟩
    · by_cases h:M.testBit c = true
      · rw [if_pos h];exact List.Pairwise.nil
      · rw [if_neg h];exact ih _ _
    · refine List.Pairwise.imp (fun {a b} (hab:a < b) x hx y hy e=>?_) (List.pairwise_lt_range' (s:=0) (n:=m))
      by_cases h:M.testBit a = true
      · rw [if_pos h] at hx;cases hx
      · by_cases h' : M.testBit b = true
        · rw [if_pos h'] at hy;cases hy
        · rw [if_neg h,listP_mem] at hx
          rw [if_neg h', listP_mem] at hy
          obtain ⟨u,rfl,_⟩:=hx
          obtain ⟨v,h2,_⟩:=hy
          rw [← e,List.append_assoc,List.append_assoc] at h2
          have h3:=List.append_cancel_left h2
          have h4:=(List.cons.inj h3).1
          omega
def allT (m:Nat) (f:Nat → Nat → Bool) (j:Nat):List (List Nat):=listP m f j 0 []
theorem allT_spec (m:Nat) (f:Nat → Nat → Bool) (j:Nat):(allT m f j).Nodup ∧ ∀ w,w ∈ allT m f j ↔ w.length = j ∧ (∀ x ∈ w,x < m) ∧ normalP f m w = w:=by
  refine ⟨listP_nodup m f j 0 [],fun w=>?_⟩
  unfold allT
  rw [listP_mem]
  constructor
  · rintro ⟨u,rfl,h1,h2,h3,_⟩
    exact ⟨h1,h2,h3⟩
  · rintro ⟨h1,h2,h3⟩
    exact ⟨w,rfl,h1,h2,h3,fun b _=>Nat.zero_testBit b⟩
theorem allT_length (m:Nat) (f:Nat → Nat → Bool) (j:Nat):(allT m f j).length = nP m f j:=by
  unfold allT nP
  rw [listP_length]
  exact aP_congr m f j (fun b _=>Nat.zero_testBit b)
def cntT (m:Nat) (f:Nat → Nat → Bool) (N h:Nat):Nat:=((allT m f N).filter fun w=>decide (fH f w = h)).length
theorem steps_facts (m:Nat) (hm:m ≤ 8) (f:Nat → Nat → Bool) (hr:∀ a,a < m → f a a = true):(stepsP m f).Nodup ∧ 1 ≤ (stepsP m f).length ∧ (stepsP m f).getD 0 0 = 0 ∧ (∀ i,i < (stepsP m f).length → (stepsP m f).getD i 0 < 2 ^ m ∧ ∀ a b,a < m → b < m → ((stepsP m f).getD i 0).testBit a = true → ((stepsP m f).getD i 0).testBit b = true → a ≠ b → f a b = false) ∧ (∀ x,x < 2 ^ m → (∀ a b,a < m → b < m → x.testBit a = true → x.testBit b = true → a ≠ b → f a b = false) → ∃ k,k < (stepsP m f).length ∧ x = (stepsP m f).getD k 0):=by
  obtain ⟨T,hT⟩:=stepsP_head m f
  refine ⟨stepsP_nodup m f,by rw [hT];simp,by rw [hT];rfl,fun i hi=>?_,fun x hx hx2=>?_⟩
  · rw [List.getD_eq_getElem?_getD,List.getElem?_eq_getElem hi]
    have h1:(stepsP m f)[i] ∈ stepsP m f:=List.getElem_mem hi
    exact ⟨stepsP_lt m f _ h1,(stepP_iff m f hr _).1 (List.mem_filter.1 h1).2⟩
  · have h1:x ∈ stepsP m f:=List.mem_filter.2 ⟨List.mem_range.2 hx,(stepP_iff m f hr x).2 hx2⟩
    obtain ⟨k,hk,rfl⟩:=List.getElem_of_mem h1
    exact ⟨k,hk,by rw [List.getD_eq_getElem?_getD,List.getElem?_eq_getElem hk];rfl⟩
theorem okP_form (m:Nat) (f:Nat → Nat → Bool) (x y:Nat):okP m f x y = true ↔ ∀ a,a < m → y.testBit a = true → ∃ c,c < m ∧ x.testBit c = true ∧ f c a = true:=by
  rw [okP_iff]
  exact ⟨fun h a ha hy=>(reachP_iff m f _ a).1 (h a ha hy),fun h a ha hy=>(reachP_iff m f _ a).2 (h a ha hy)⟩
theorem aS_total (m:Nat) (hm:m ≤ 8) (f:Nat → Nat → Bool) (hs:∀ a b,f a b = f b a) (hr:∀ a,a < m → f a a = true) (h N:Nat):sS (fun i=>aS m f (stepsP m f) h N i) (stepsP m f).length = ((cntT m f N h:Nat):Int):=by
  obtain ⟨s1,s2,s3,s4,s5⟩:=steps_facts m hm f hr
  exact cA_total m f (allT m f) (allT_spec m f) (okP m f) (okP_form m f) hs hr (stepsP m f) s1 s2 s3 s4 s5 h N
theorem cntT_total (m:Nat) (f:Nat → Nat → Bool) (N:Nat):sS (fun h=>((cntT m f N h:Nat):Int)) (N + 1) = ((nP m f N:Nat):Int):=by
  rw [← allT_length]
  exact all_total m f (allT m f) (allT_spec m f) N
theorem cntT_le (m:Nat) (f:Nat → Nat → Bool) (N h:Nat):cntT m f N h ≤ nP m f N:=by
  rw [← allT_length]
  exact List.length_filter_le _ _
def rowC (c:Nat → Nat) (N:Nat):List Int:=(List.range (N + 1)).map fun h=>((c h:Nat):Int)
@[simp] theorem rowC_length (c:Nat → Nat) (N:Nat):(rowC c N).length = N + 1:=by simp [rowC]
theorem rd_rowC (c:Nat → Nat) (N h:Nat) (hh:h ≤ N):rd (rowC c N) (h:Int) = ((c h:Nat):Int):=by
  rw [rd_lt _ _ (by rw [rowC_length];omega)]
  simp [rowC]
theorem rowC_congr {c c' : Nat → Nat} (N:Nat) (e:∀ h,h ≤ N → c h = c' h):rowC c N = rowC c' N:=by
  unfold rowC
  refine List.map_congr_left (fun h hh=>?_)
  rw [e h (by have:=List.mem_range.1 hh;omega)]
theorem set_rowC (c:Nat → Nat) (N h:Nat) (v:Nat):(rowC c N).set h ((v:Nat):Int) = rowC (fun x=>if x = h then v else c x) N:=by
  refine List.ext_getElem (by simp) (fun j h1 h2=>?_)
  rw [List.getElem_set]
  by_cases e:h = j
  · subst e;simp [rowC]
  · rw [if_neg e]
    have e' : ¬ j = h:=fun z=>e z.symm
    simp [rowC,e']
theorem sum_ev (c:Nat → Nat) (N:Nat) (hN:N ≤ 24):Ev (fun k=>laws_sum.f k (rowC c N)) (wrap64 (sS (fun h=>((c h:Nat):Int)) (N + 1))):=by
  have loop:∀ (d i:Nat),i + d = N + 1 → Ev (fun k=>laws_sum.l0 k (rowC c N) (wrap64 (sS (fun h=>((c h:Nat):Int)) i)) (i:Int)) (wrap64 (sS (fun h=>((c h:Nat):Int)) (N + 1))):=by
    intro d
    induction d with
    | zero =>
      intro i hi
      obtain rfl:i = N + 1:=by omega
      refine Ev.succ ?_
      simp only [laws_sum.l0]
      exact Ev.neg (by simp) (Ev.now _)
    | succ d ih =>
      intro i hi
      have i1:=ih (i + 1) (by omega)
      refine Ev.succ ?_
      simp only [laws_sum.l0]
      refine Ev.pos (by simp;omega) (Ev.pos (by omega) ?_)
      rw [rd_rowC c N i (by omega),w64s i (by omega)]
      have e:wrap64 (wrap64 (sS (fun h=>((c h:Nat):Int)) i) + ((c i:Nat):Int)) = wrap64 (sS (fun h=>((c h:Nat):Int)) (i + 1)):=by
        simp only [sS]
        unfold wrap64
        omega
      rw [e]
      exact i1
  have:=loop (N + 1) 0 (by omega)
  simp only [laws_sum.f]
  rw [show wrap64 (sS (fun h=>((c h:Nat):Int)) 0) = 0 from w64 (by simp [sS]) (by simp [sS])] at this
  exact this
theorem hgt_cond (m:Nat) (hm:m ≤ 8) (f:Nat → Nat → Bool) (N:Nat) (hN:N ≤ 24):1 ≤ (ints (stepsP m f)).length ∧ (ints (stepsP m f)).length < 1000000000 ∧ ((ints (stepsP m f)).drop 1).Nodup ∧ (((ints (stepsP m f)).drop 1).all fun s=>(Lit.int .i64 s).wf) = true ∧ 0 ≤ (N:Int) ∧ (N:Int) < 1000000000:=by
  obtain ⟨T,hT⟩:=stepsP_head m f
  have hl:=stepsP_few m hm f
  have hlen:1 ≤ (stepsP m f).length:=by rw [hT];simp
  have hw:∀ x:Nat,x < 2 ^ m → (Lit.int .i64 (x:Int)).wf = true:=fun x hx=>by
    have h8:(2:Nat) ^ m ≤ 2 ^ 8:=Nat.pow_le_pow_right (by decide) hm
    have h9:x < 256:=by omega
    simp only [Lit.wf,IntKind.min,IntKind.max,IntKind.signed,IntKind.bits,Bool.and_eq_true,decide_eq_true_eq,if_true]
    omega
  refine ⟨by rw [ints_length];exact hlen,by rw [ints_length];omega,?_,?_,by omega,by omega⟩
  · refine (List.drop_sublist 1 _).nodup ?_
    exact List.Pairwise.map _ (fun a b hab h=>hab (Int.ofNat.inj h)) (stepsP_nodup m f)
  · rw [List.all_eq_true]
    intro s hs
    obtain ⟨x,hx,rfl⟩:=List.mem_map.1 (List.mem_of_mem_drop hs)
    exact hw x (stepsP_lt m f x hx)
theorem countByHeight_ok (m : Nat) (hm : m ≤ 8) (f : Nat → Nat → Bool) (hs : ∀ a b, f a b = f b a) (hr : ∀ a, a < m → f a a = true) (N : Nat) (hN : N ≤ 24) (v : Int) (h1 : Ev (fun k => spec_CountTraces.f k (m : Int) (mat m f) (N : Int)) (v, 0)) (h2 : Ev (fun k => impl_checkCount.f k (m : Int) (mat m f) (N : Int)) (v, 0)) :
    Ev (fun k=>spec_CountByHeight.f k (m:Int) (mat m f) (N:Int)) (rowW (N + 1) (fun h=>sS (fun i=>aS m f (stepsP m f) h N i) (stepsP m f).length),0) ∧ Ev (fun k=>impl_CountByHeight.f k (m:Int) (mat m f) (N:Int)) (rowW (N + 1) (fun h=>sS (fun i=>aS m f (stepsP m f) h N i) (stepsP m f).length),0):=by
  obtain ⟨T,hT⟩:=stepsP_head m f
  have hd:=stepsP_nodup m f
  have hl:=stepsP_few m hm f
  have hS:=stepsP_lt m f
  have hlen:1 ≤ (stepsP m f).length:=by rw [hT];simp
  have h00:(stepsP m f).getD 0 0 = 0:=by rw [hT];rfl
  refine ⟨?_,?_⟩
  · simp only [spec_CountByHeight.f]
    exact Ev.bind h1 (Ev.pos rfl (Ev.bind (l06First_ev m hm f N hN) (heights_ev m f (stepsP m f) hl N hN)))
  · simp only [impl_CountByHeight.f]
    refine Ev.bind h2 (Ev.pos rfl (Ev.bind (stepsOf_ev m hm f hs hr) (Ev.pos (hgt_cond m hm f N hN) ?_)))
    by_cases c:N = 0
    · subst c
      refine Ev.pos (by omega) (Ev.val (Ev.now _) ?_)
      have e:sS (fun i=>aS m f (stepsP m f) 0 0 i) (stepsP m f).length = 1:=by
        rw [show (stepsP m f).length = (stepsP m f).length - 1 + 1 by omega,sS_front,sS_none _ (fun i _=>by simp [aS,cA])]
        simp [aS,cA]
      have e2:rowW (0 + 1) (fun h=>sS (fun i=>aS m f (stepsP m f) h 0 i) (stepsP m f).length) = [wrap64 (sS (fun i=>aS m f (stepsP m f) 0 0 i) (stepsP m f).length)]:=rfl
      rw [e2,e,w64 (by omega) (by omega)]
    · obtain ⟨R, g1, g2⟩ := hgt0_ev m hm (stepsP m f) hS hl hd N hN ((stepsP m f).length - 1) 0 (fun _ => List.replicate (N + 1) 0) (by omega) (fun i h0 _ => by
        rw [rowW_none]
        exact rowW_congr _ (fun j _=>(if_neg (by omega)).symm))
      have g3:=hgt1_ev m hm f hs (stepsP m f) hS hl hd h00 N hN N 1 R (by omega) (Nat.le_refl 1) (rowsOk_congr g1 (fun i j h0 _ _=>by
        unfold dS
        rw [Nat.sub_self,dD]
        have e:i - 1 + 1 = i:=by omega
        rw [e]))
      have e0:outS m f (stepsP m f) N 1 = List.replicate (N + 1) 0:=by
        rw [rowW_none]
        exact rowW_congr _ (fun x _=>if_neg (by omega))
      rw [e0,outS_spec m f (stepsP m f) hlen h00 N (by omega)] at g3
      refine Ev.neg (by omega) ?_
      rw [show ((N:Int) + 1).toNat = N + 1 by omega]
      exact Ev.bind g2 (Ev.bind g3 (Ev.now _))
theorem countByFirst_ok (m : Nat) (hm : m ≤ 8) (f : Nat → Nat → Bool) (hs : ∀ a b, f a b = f b a) (hr : ∀ a, a < m → f a a = true) (N : Nat) (hN : N ≤ 24) (v : Int) (hk : Ev (fun k => impl_IsAlphabet.f k (m : Int) (mat m f)) true) (h2 : Ev (fun k => impl_checkCount.f k (m : Int) (mat m f) (N : Int)) (v, 0)) (i : Nat) (hi : i < (stepsP m f).length) :
    Ev (fun k=>impl_CountByFirst.f k (m:Int) (mat m f) (N:Int) (((stepsP m f).getD i 0:Nat):Int)) (wrap64 (bS m f (stepsP m f) N i),0):=by
  obtain ⟨T,hT⟩:=stepsP_head m f
  have hd:=stepsP_nodup m f
  have hl:=stepsP_few m hm f
  have hS:=stepsP_lt m f
  have hlen:1 ≤ (stepsP m f).length:=by rw [hT];simp
  have h00:(stepsP m f).getD 0 0 = 0:=by rw [hT];rfl
  have h8:(2:Nat) ^ m ≤ 2 ^ 8:=Nat.pow_le_pow_right (by decide) hm
  have hlt:=inS m (stepsP m f) hS i
  have hmask:=IsMask24_eq m (by omega) (((stepsP m f).getD i 0:Nat):Int)
  have ha:(0:Int) ≤ (N:Int) ∧ (N:Int) ≤ 24:=by omega
  rw [decide_eq_true (show (0:Int) ≤ (((stepsP m f).getD i 0:Nat):Int) ∧ (((stepsP m f).getD i 0:Nat):Int) ≤ ((2 ^ m - 1:Nat):Int) by omega)] at hmask
  have hb:(Lit.int .i64 (((stepsP m f).getD i 0:Nat):Int)).wf = true:=by
    have h9:(stepsP m f).getD i 0 < 256:=by omega
    simp only [Lit.wf,IntKind.min,IntKind.max,IntKind.signed,IntKind.bits,Bool.and_eq_true,decide_eq_true_eq,if_true]
    omega
  obtain ⟨R,g1,g2⟩:=stepCounts_ev m hm f hs hr N hN
  simp only [impl_CountByFirst.f,inRange_eq,hmask]
  refine Ev.bind hk (Ev.pos rfl (Ev.some_bind (Ev.pos (decide_eq_true ha) (Ev.some_bind (Ev.pos rfl (Ev.bind h2 (Ev.pos rfl ?_)))))))
  by_cases hi0:i = 0
  · subst hi0
    have eB:bS m f (stepsP m f) N 0 = if N = 0 then 1 else 0:=cB_first _ _ _ N
    rw [eB,h00]
    by_cases hN0:N = 0
    · rw [if_pos hN0]
      refine Ev.pos ⟨rfl,by omega⟩ (Ev.val (Ev.now _) ?_)
      rw [w64 (by omega) (by omega)]
    · rw [if_neg hN0]
      rw [h00] at hb
      refine Ev.neg (fun z=>by omega) (Ev.bind g2 (Ev.pos hb (Ev.neg (fun z=>?_) (Ev.val (Ev.now _) ?_))))
      · have hz:=z
        rw [hT,ints_cons,List.drop_succ_cons,List.drop_zero] at hz
        obtain ⟨x,hx,hx0⟩:=List.mem_map.1 hz
        rw [hT] at hd
        have hx1:x = 0:=Int.ofNat.inj hx0
        rw [hx1] at hx
        exact (List.nodup_cons.1 hd).1 hx
      · rw [w64 (by omega) (by omega)]
  · have hne:(stepsP m f).getD i 0 ≠ 0:=fun z=>hi0 (getD_inj hd hi hlen (z.trans h00.symm))
    refine Ev.neg (fun z=>hne (by have:=z.1;omega)) (Ev.bind g2 (Ev.pos hb (Ev.pos ?_ (Ev.pos (by omega) (Ev.val (Ev.now _) ?_)))))
    · have e:=rdT (stepsP m f) (i - 1) (by omega)
      rw [show i - 1 + 1 = i by omega] at e
      rw [← e,rd_lt _ _ (by simp;omega)]
      exact List.getElem_mem _
    · simp only []
      rw [g1 i (by omega) hi,rd_rowW _ _ N (by omega)]
theorem rows_rowC (m:Nat) (hm:m ≤ 8) (f:Nat → Nat → Bool) (hs:∀ a b,f a b = f b a) (hr:∀ a,a < m → f a a = true) (N:Nat) (hq:nP m f N ≤ 1000000000000000):rowW (N + 1) (fun h=>sS (fun i=>aS m f (stepsP m f) h N i) (stepsP m f).length) = rowC (cntT m f N) N:=by
  unfold rowW rowC
  refine List.map_congr_left (fun h _=>?_)
  have:=cntT_le m f N h
  show wrap64 (sS (fun i=>aS m f (stepsP m f) h N i) (stepsP m f).length) = ((cntT m f N h:Nat):Int)
  rw [aS_total m hm f hs hr,w64 (by omega) (by omega)]
theorem parts_total (m:Nat) (hm:m ≤ 8) (f:Nat → Nat → Bool) (hs:∀ a b,f a b = f b a) (hr:∀ a,a < m → f a a = true) (N:Nat):sS (fun i=>bS m f (stepsP m f) N i) (stepsP m f).length = ((nP m f N:Nat):Int):=by
  have e:∀ i,i < (stepsP m f).length → bS m f (stepsP m f) N i = sS (fun h=>aS m f (stepsP m f) h N i) (N + 1):=fun i _=>rfl
  rw [sS_congr _ e,sS_swap,sS_congr _ (fun h _=>aS_total m hm f hs hr h N),cntT_total]
theorem parts_ev (m : Nat) (hm : m ≤ 8) (f : Nat → Nat → Bool) (hs : ∀ a b, f a b = f b a) (hr : ∀ a, a < m → f a a = true) (N : Nat) (hN : N ≤ 24) (hq : nP m f N ≤ 1000000000000000) (v : Int) (hk : Ev (fun k => impl_IsAlphabet.f k (m : Int) (mat m f)) true) (h2 : Ev (fun k => impl_checkCount.f k (m : Int) (mat m f) (N : Int)) (v, 0)) :
    Ev (fun k=>laws_FnHeightCounts.l0 k (m:Int) (mat m f) (N:Int) (ints (stepsP m f)) 0 0) ((nP m f N:Nat):Int):=by
  have hl:=stepsP_few m hm f
  have loop:∀ (d q:Nat),q + d = (stepsP m f).length → Ev (fun k=>laws_FnHeightCounts.l0 k (m:Int) (mat m f) (N:Int) (ints (stepsP m f)) (wrap64 (sS (fun i=>bS m f (stepsP m f) N i) q)) (q:Int)) ((nP m f N:Nat):Int):=by
    intro d
    induction d with
    | zero =>
      intro q hq2
      obtain rfl:q = (stepsP m f).length:=by omega
      refine Ev.succ ?_
      simp only [laws_FnHeightCounts.l0]
      refine Ev.neg (by simp) (Ev.val (Ev.now _) ?_)
      rw [parts_total m hm f hs hr,w64 (by omega) (by omega)]
    | succ d ih =>
      intro q hq2
      have i1:=ih (q + 1) (by omega)
      refine Ev.succ ?_
      simp only [laws_FnHeightCounts.l0]
      refine Ev.pos (by simp;omega) (Ev.pos (by omega) ?_)
      rw [rdS _ q (by omega)]
      refine Ev.bind (countByFirst_ok m hm f hs hr N hN v hk h2 q (by omega)) (Ev.pos rfl ?_)
      rw [w64s q (by omega)]
      simp only []
      rw [wrap_plus]
      exact i1
  have:=loop (stepsP m f).length 0 (by omega)
  rw [show wrap64 (sS (fun i=>bS m f (stepsP m f) N i) 0) = 0 from w64 (by simp [sS]) (by simp [sS])] at this
  exact this
def cntD (m:Nat) (f:Nat → Nat → Bool) (N i h:Nat):Nat:=(((allT m f N).drop i).filter fun w=>decide (fH f w = h)).length
theorem cntD_step (m:Nat) (f:Nat → Nat → Bool) (N i:Nat) (hi:i < (allT m f N).length) (h:Nat):cntD m f N i h = (if h = fH f ((allT m f N)[i]) then 1 else 0) + cntD m f N (i + 1) h:=by
  unfold cntD
  rw [List.drop_eq_getElem_cons hi,List.filter_cons]
  by_cases c:h = fH f ((allT m f N)[i])
  · rw [if_pos c,if_pos (by rw [c];simp),List.length_cons]
    omega
  · rw [if_neg c,if_neg (by simpa using fun z=>c z.symm)]
    omega
theorem walk_ev (m : Nat) (hm : m ≤ 8) (f : Nat → Nat → Bool) (hA : Alpha (m : Int) (mat m f)) (hs : ∀ a b, f a b = f b a) (N : Nat) (hN : N ≤ 24) (hq : (allT m f N).length ≤ 1000) :
    ∃ R,Ev (fun k=>laws_FnHeightCounts.l1 k (m:Int) (mat m f) (N:Int) ((allT m f N).map ints) (rowC (cntT m f N) N) 0) R ∧ ((allT m f N).length ≤ 300 → R = rowC (fun _=>0) N):=by
  have hlen:((allT m f N).map ints).length = (allT m f N).length:=List.length_map _
  have hh:∀ i (hi:i < (allT m f N).length),Ev (fun k=>impl_HeightOf.f k (m:Int) (mat m f) (((allT m f N).map ints).getD i [])) (((fH f ((allT m f N)[i]):Nat):Int),0) ∧ fH f ((allT m f N)[i]) ≤ N:=fun i hi=>by
    obtain ⟨w1,w2,_⟩:=((allT_spec m f N).2 _).1 (List.getElem_mem hi)
    have e:((allT m f N).map ints).getD i [] = ints ((allT m f N)[i]):=by
      rw [List.getD_eq_getElem?_getD,List.getElem?_eq_getElem (by rw [hlen];exact hi)]
      simp
    rw [e]
    exact ⟨HeightOf_impl hm hs hA (by omega) w2,by have:=fH_le f ((allT m f N)[i]);omega⟩
  by_cases hbig:(allT m f N).length ≤ 300
  · have loop : ∀ (d i : Nat), i + d = (allT m f N).length → Ev (fun k => laws_FnHeightCounts.l1 k (m : Int) (mat m f) (N : Int) ((allT m f N).map ints) (rowC (cntD m f N i) N) (i : Int)) (rowC (fun _ => 0) N) := by
      intro d
      induction d with
      | zero =>
        intro i hi
        obtain rfl:i = (allT m f N).length:=by omega
        refine Ev.succ ?_
        simp only [laws_FnHeightCounts.l1]
        refine Ev.neg (by rw [hlen];omega) (Ev.val (Ev.now _) (rowC_congr N (fun h _=>?_)))
        unfold cntD
        rw [List.drop_length]
        rfl
      | succ d ih =>
        intro i hi
        have hil:i < (allT m f N).length:=by omega
        obtain ⟨e1,e2⟩:=hh i hil
        have i1:=ih (i + 1) (by omega)
        have e3:=cntD_step m f N i hil (fH f ((allT m f N)[i]))
        rw [if_pos rfl] at e3
        refine Ev.succ ?_
        simp only [laws_FnHeightCounts.l1]
        refine Ev.pos (by rw [hlen];omega) (Ev.pos (by omega) ?_)
        rw [Int.toNat_natCast]
        refine Ev.bind e1 (Ev.pos ⟨rfl,by omega,by simp only [];omega,by rw [rowC_length];simp only [];omega,?_⟩ (Ev.pos (by rw [hlen];omega) ?_))
        · simp only []
          rw [rd_rowC _ N _ e2]
          omega
        · simp only []
          rw [rd_rowC _ N _ e2,w64s i (by omega),Int.toNat_natCast]
          have ew:wrap64 (((cntD m f N i (fH f ((allT m f N)[i])):Nat):Int) - 1) = ((cntD m f N (i + 1) (fH f ((allT m f N)[i])):Nat):Int):=by
            have hb2:cntD m f N i (fH f ((allT m f N)[i])) ≤ 1000:=by
              have:=List.length_filter_le (fun w=>decide (fH f w = fH f ((allT m f N)[i]))) ((allT m f N).drop i)
              rw [List.length_drop] at this
              unfold cntD
              omega
            rw [e3]
            rw [e3] at hb2
            unfold wrap64
            omega
          rw [ew,set_rowC,rowC_congr N (c' := cntD m f N (i + 1)) (fun h _=>by
            by_cases c:h = fH f ((allT m f N)[i])
            · rw [if_pos c,c]
            · have:=cntD_step m f N i hil h
              rw [if_neg c] at this
              rw [if_neg c]
              omega)]
          exact i1
    exact ⟨_,loop (allT m f N).length 0 (by omega),fun _=>rfl⟩
  · have loop : ∀ (d i : Nat), i + d = 300 → Ev (fun k => laws_FnHeightCounts.l1 k (m : Int) (mat m f) (N : Int) ((allT m f N).map ints) (rowC (cntT m f N) N) (i : Int)) (rowC (cntT m f N) N) := by
      intro d
      induction d with
      | zero =>
        intro i hi
        refine Ev.succ ?_
        simp only [laws_FnHeightCounts.l1]
        exact Ev.neg (by omega) (Ev.now _)
      | succ d ih =>
        intro i hi
        have hil:i < (allT m f N).length:=by omega
        obtain ⟨e1,e2⟩:=hh i hil
        have i1:=ih (i + 1) (by omega)
        have e3:0 < cntT m f N (fH f ((allT m f N)[i])):=List.length_pos_of_mem (List.mem_filter.2 ⟨List.getElem_mem hil,by simp⟩)
        refine Ev.succ ?_
        simp only [laws_FnHeightCounts.l1]
        refine Ev.pos (by rw [hlen];omega) (Ev.pos (by omega) ?_)
        rw [Int.toNat_natCast]
        refine Ev.bind e1 (Ev.pos ⟨rfl,by omega,by simp only [];omega,by rw [rowC_length];simp only [];omega,?_⟩ (Ev.neg (by rw [hlen];omega) ?_))
        · simp only []
          rw [rd_rowC _ N _ e2]
          omega
        · rw [w64s i (by omega)]
          exact i1
    exact ⟨_,loop 300 0 (by omega),fun z=>absurd z hbig⟩
end Go.Proofs.YtemdfjdmokbcoaaGreatDoor.PAll
