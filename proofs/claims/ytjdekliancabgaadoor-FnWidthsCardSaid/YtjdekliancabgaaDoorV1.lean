import Derived.Test.YtjdekliancabgaaDoorPAllx1
import Derived.Test.YtjdekliancabgaaDoorPAllx2
import Derived.Test.YtjdekliancabgaaDoorPAllx3
import Derived.Test.YtjdekliancabgaaDoorPAllx6
import Derived.Test.YtjdekliancabgaaDoorV0
import Derived.Test.YtjdekliancabgaaDoorQBase
import Derived.Test.YtjdekliancabgaaDoorQDraw
import Derived.Test.YtjdekliancabgaaDoorQMask
import Derived.Test.YtjdekliancabgaaDoorQMeet
import Derived.Test.YtjdekliancabgaaDoorQRev
import Derived.Test.YtjdekliancabgaaDoorQTrace
set_option linter.unusedVariables false
set_option linter.unusedSimpArgs false
namespace Go.Proofs.YtjdekliancabgaaDoor.PAll
open Go.RowKit Go.Proofs.YtjdekliancabgaaDoorW.PrintWords Go.Proofs.YtjdekliancabgaaDoorW.PrintMore Go.Proofs.YtjdekliancabgaaDoor.Q
theorem l01In_eq (a lo hi:Int):spec_l01In.f a lo hi = some (decide (lo ≤ a ∧ a ≤ hi)):=by
  unfold spec_l01In.f
  by_cases h:lo ≤ a
  · rw [if_pos h];simp [h]
  · rw [if_neg h];simp [h]
theorem inRange_eq (a lo hi:Int):impl_inRange.f a lo hi = some (decide (lo ≤ a ∧ a ≤ hi)):=by
  unfold impl_inRange.f
  by_cases h:lo ≤ a
  · rw [if_pos h];simp [h]
  · rw [if_neg h];simp [h]
theorem l01One_eq (n:Nat) (h:n ≤ 61):spec_l01One.f (n:Int) = some ((2 ^ n:Nat):Int):=by
  unfold spec_l01One.f
  rw [u64_nat n (by omega),if_pos (by omega),shl_one n h]
theorem l01Full_eq (n:Nat) (h:n ≤ 61):spec_l01Full.f (n:Int) = some ((2 ^ n - 1:Nat):Int):=by
  unfold spec_l01Full.f
  rw [l01One_eq n h]
  have h1:0 < 2 ^ n:=Nat.two_pow_pos n
  have h2:(2:Nat) ^ n ≤ 2 ^ 61:=Nat.pow_le_pow_right (by decide) h
  simp only [Option.bind_some]
  rw [w64' (by omega)]
  congr 1
  omega
theorem l01Bit_eq (m i:Nat) (hm:m < 2 ^ 62) (h:i ≤ 64):spec_l01Bit.f (m:Int) (i:Int) = some (m.testBit i):=by
  unfold spec_l01Bit.f
  rw [u64_nat i (by omega),if_pos (by omega),bit_at m i hm h]
theorem one_eq (n:Nat) (h:n ≤ 61):impl_one.f (n:Int) = some ((2 ^ n:Nat):Int):=by
  unfold impl_one.f
  rw [if_pos (by omega),shl_one n h]
theorem has_eq (m i:Nat) (hm:m < 2 ^ 62) (h:i ≤ 64):impl_has.f (m:Int) (i:Int) = some (m.testBit i):=by
  unfold impl_has.f
  rw [if_pos (by omega),bit_at m i hm h]
theorem least_eq (m:Nat) (hm:m < 2 ^ 62):impl_least.f (m:Int) = some ((Lib.ctz 64 m:Nat):Int):=by
  unfold impl_least.f bits_TrailingZeros64.f
  rw [u64_nat m (by omega),if_pos (by omega),Int.toNat_natCast]
  rfl
theorem members_l0:∀ (N m:Nat) (acc:List Int),m ≤ N → m < 2 ^ 62 → acc.length + (bitsOf m).length ≤ 1000 → Ev (fun k=>impl_members.l0 k (m:Int) acc) (acc ++ intsOf m):=by
  intro N
  induction N with
  | zero =>
    intro m acc hN hm hl
    obtain rfl:m = 0:=by omega
    refine Ev.succ ?_
    simp only [impl_members.l0]
    refine Ev.pos (by simp) (Ev.const ?_)
    simp [intsOf,bitsOf_zero]
  | succ N ih =>
    intro m acc hN hm hl
    refine Ev.succ ?_
    simp only [impl_members.l0]
    by_cases h0:m = 0
    · subst h0
      refine Ev.pos (by simp) (Ev.const ?_)
      simp [intsOf,bitsOf_zero]
    · rw [bitsOf_cons m h0 (by omega)] at hl
      simp only [List.length_cons] at hl
      refine Ev.neg (by omega) ?_
      rw [least_eq m hm]
      refine Ev.some_bind (Ev.pos (by omega) ?_)
      have hlt:=and_pred_lt m h0
      rw [w64' (by omega),show (m:Int) - 1 = ((m - 1:Nat):Int) by omega,b_and m (m - 1) hm (by omega)]
      refine Ev.val (ih (m &&& (m - 1)) (acc ++ [((Lib.ctz 64 m:Nat):Int)]) (by omega) (by omega) (by simp;omega)) ?_
      unfold intsOf
      rw [bitsOf_cons m h0 (by omega)]
      simp
theorem bitsOf_length (m:Nat):(bitsOf m).length ≤ 64:=by
  unfold bitsOf
  have:=List.length_filter_le (fun i=>m.testBit i) (List.range 64)
  simpa using this
theorem members_ev (m:Nat) (hm:m < 2 ^ 62):Ev (fun k=>impl_members.f k (m:Int)) (intsOf m):=by
  simp only [impl_members.f]
  exact Ev.val (members_l0 m m [] (Nat.le_refl _) hm (by have:=bitsOf_length m;simp;omega)) (by simp)
theorem l01Masks_l0 (n : Nat) (hn : n ≤ 61) (l : List Int) (hl : l.length ≤ 17592186044416) : ∀ (d i : Nat), i + d = l.length → (∀ j (h : j < l.length), j < i → 0 ≤ l[j] ∧ l[j] ≤ ((2 ^ n - 1 : Nat) : Int)) →
    Ev (fun k=>spec_l01Masks.l0 k (n:Int) l i) (decide (∀ x ∈ l,0 ≤ x ∧ x ≤ ((2 ^ n - 1:Nat):Int))):=by
  intro d
  induction d with
  | zero =>
    intro i hi hp
    refine Ev.succ ?_
    simp only [spec_l01Masks.l0]
    refine Ev.neg (by omega) (Ev.const ?_)
    rw [decide_eq_true fun x hx=>?_]
    obtain ⟨j,hj,rfl⟩:=List.getElem_of_mem hx
    exact hp j hj (by omega)
  | succ d ih =>
    intro i hi hp
    refine Ev.succ ?_
    simp only [spec_l01Masks.l0,l01Full_eq n hn,l01In_eq]
    refine Ev.pos (by omega) (Ev.pos (by omega) (Ev.some_bind (Ev.some_bind ?_)))
    rw [rd_lt l i (by omega)]
    simp only [decide_eq_true_eq]
    refine Ev.ite (fun c=>?_) (fun c=>?_)
    · rw [w64' (by omega)]
      refine ih (i + 1) (by omega) (fun j h hji=>?_)
      by_cases e:j = i
      · subst e;exact c
      · exact hp j h (by omega)
    · refine Ev.const ?_
      rw [decide_eq_false fun h=>c (h _ (List.getElem_mem (by omega)))]
theorem l01Masks_ev (n:Nat) (hn:n ≤ 61) (l:List Int) (hl:l.length ≤ 17592186044416):Ev (fun k=>spec_l01Masks.f k (n:Int) l) (decide (∀ x ∈ l,0 ≤ x ∧ x ≤ ((2 ^ n - 1:Nat):Int))):=by
  simp only [spec_l01Masks.f]
  exact l01Masks_l0 n hn l hl l.length 0 (by omega) (by intro j h hj;omega)
theorem l02Is_loop (m : Nat) (hm : m ≤ 8) (f : Nat → Nat → Bool) : ∀ (d a : Nat), a + d = m → (∀ i, i < a → f i i = true ∧ ∀ k, k < m → f i k = f k i) →
    Ev (fun k=>spec_l02Is.l0 k (a:Int) (m:Int) (mat m f)) (decide (∀ i,i < m → f i i = true ∧ ∀ k,k < m → f i k = f k i)):=by
  intro d
  induction d with
  | zero =>
    intro a ha hp
    refine Ev.succ ?_
    simp only [spec_l02Is.l0]
    refine Ev.neg (by omega) (Ev.const ?_)
    rw [decide_eq_true fun i hi=>hp i (by omega)]
  | succ d ih =>
    intro a ha hp
    have hb:∀ i k,i < m → k < m → spec_l01Bit.f (rd (mat m f) (i:Int)) (k:Int) = some (f i k):=fun i k hi hk=>by
      rw [rd_mat m f i hi,l01Bit_eq _ k (by have:=mk_lt m (f i);have:=pow24 (show m ≤ 24 by omega);omega) (by omega),testBit_mk]
      simp [hk]
    refine Ev.succ ?_
    simp only [spec_l02Is.l0]
    refine Ev.pos (by omega) (Ev.pos (by omega) (Ev.pos (by simp;omega) ?_))
    rw [hb a a (by omega) (by omega)]
    refine Ev.some_bind ?_
    by_cases c:f a a = true
    · refine Ev.pos c ?_
      have inner:∀ (e b:Nat),b + e = m → (∀ k,k < b → f a k = f k a) → Ev (fun k=>spec_l02Is.l1 k (a:Int) (b:Int) (m:Int) (mat m f)) (decide (∀ i,i < m → f i i = true ∧ ∀ k,k < m → f i k = f k i)):=by
        intro e
        induction e with
        | zero =>
          intro b hbe hq
          refine Ev.succ ?_
          simp only [spec_l02Is.l1]
          refine Ev.neg (by omega) ?_
          rw [w64' (by omega)]
          refine ih (a + 1) (by omega) (fun i hi=>?_)
          by_cases e:i = a
          · subst e;exact ⟨c,fun k hk=>hq k (by omega)⟩
          · exact hp i (by omega)
        | succ e ihe =>
          intro b hbe hq
          refine Ev.succ ?_
          simp only [spec_l02Is.l1]
          refine Ev.pos (by omega) (Ev.pos (by omega) (Ev.pos (by simp;omega) ?_))
          rw [hb a b (by omega) (by omega)]
          refine Ev.some_bind (Ev.pos (by omega) (Ev.pos (by simp;omega) ?_))
          rw [hb b a (by omega) (by omega)]
          refine Ev.some_bind ?_
          by_cases g:f a b = f b a
          · refine Ev.neg (by rw [g];simp) ?_
            rw [w64' (by omega)]
            refine ihe (b + 1) (by omega) (fun k hk=>?_)
            by_cases e:k = b
            · subst e;exact g
            · exact hq k (by omega)
          · refine Ev.pos (by simpa using g) (Ev.const ?_)
            rw [decide_eq_false fun h=>g ((h a (by omega)).2 b (by omega))]
      exact inner m 0 (by omega) (by intro k hk;omega)
    · refine Ev.neg c (Ev.const ?_)
      rw [decide_eq_false fun h=>c (h a (by omega)).1]
theorem l02Is_ev (n:Int) (D:List Int):Ev (fun k=>spec_l02Is.f k n D) (decide (Alpha n D)):=by
  have hj:∀ n D,¬ Alpha n D → Ev (fun k=>spec_l02Is.j0 k true n D) (decide (Alpha n D)):=fun n D h=>by
    refine Ev.succ ?_
    simp only [spec_l02Is.j0]
    exact Ev.pos (by simp) (Ev.const (by rw [decide_eq_false h]))
  simp only [spec_l02Is.f,l01In_eq]
  refine Ev.some_bind ?_
  simp only [decide_eq_true_eq]
  refine Ev.ite (fun c1=>?_) (fun c1=>hj n D fun h=>c1 h.1)
  refine Ev.ite (fun c2=>?_) (fun c2=>hj n D fun h=>c2 h.2.1)
  obtain ⟨m,rfl⟩:=Int.eq_ofNat_of_zero_le c1.1
  have hl:D.length = m:=by omega
  have h1:0 < 2 ^ m:=Nat.two_pow_pos m
  refine Ev.bind (l01Masks_ev m (by omega) D (by omega)) ?_
  refine Ev.succ ?_
  simp only [spec_l02Is.j0]
  by_cases c3:∀ x ∈ D,0 ≤ x ∧ x ≤ ((2 ^ m - 1:Nat):Int)
  · have c3' : ∀ x ∈ D,0 ≤ x ∧ x < ((2 ^ D.length:Nat):Int):=fun x hx=>by have:=c3 x hx;rw [hl];omega
    have e:D = mat m (bitR D):=by have:=eq_mat D c3'; rwa [hl] at this
    refine Ev.neg (by simpa using c3) ?_
    have:=l02Is_loop m (by omega) (bitR D) m 0 (by omega) (by intro i hi;omega)
    rw [← e] at this
    refine Ev.val this ?_
    rw [decide_eq_decide]
    exact ⟨fun h=>⟨c1,c2,c3', fun a ha=>⟨(h a (by omega)).1,fun b hb=>(h a (by omega)).2 b (by omega)⟩⟩,fun h a ha=>⟨(h.2.2.2 a (by omega)).1,fun b hb=>(h.2.2.2 a (by omega)).2 b (by omega)⟩⟩
  · refine Ev.pos (by simpa using c3) (Ev.const ?_)
    rw [decide_eq_false fun h=>c3 fun x hx=>?_]
    have:=h.2.2.1 x hx
    rw [hl] at this
    omega
theorem IsRelation_eq (r:List Int):impl_IsRelation.f r = some (decide (r.length ≤ 24 ∧ ∀ x ∈ r,0 ≤ x ∧ x < ((2 ^ r.length:Nat):Int))):=by
  unfold impl_IsRelation.f
  by_cases h:r.length ≤ 24
  · have h1:0 < 2 ^ r.length:=Nat.two_pow_pos _
    have h2:=pow24 h
    rw [if_pos (by omega)]
    simp only [impl_length_int64.f,Option.bind_some,one_eq r.length (by omega),impl_allIn.f]
    rw [w64' (by omega)]
    congr 1
    rw [Bool.eq_iff_iff]
    simp only [List.all_eq_true,decide_eq_true_eq]
    exact ⟨fun g=>⟨h,fun x hx=>by have:=g x hx;omega⟩,fun g x hx=>by have:=g.2 x hx;omega⟩
  · rw [if_neg (by omega)]
    congr 1
    symm
    rw [decide_eq_false fun g=>h g.1]
theorem converse_l1 (n : Nat) (hn : n ≤ 24) (r : List Int) (i : Nat) (hi : i < n) (L : Int) (R : List Int) (ms : List Nat) (hml : ms.length ≤ 64) (hms : ∀ x ∈ ms, x < n) :
    ∀ (d j:Nat) (g:Nat → Nat → Bool),j + d = ms.length → (Ev (fun k=>impl_converse.l0 k (mat n fun a b=>g a b || (decide (b = i) && decide (a ∈ ms.drop j))) r L ((i + 1:Nat):Int)) R) →
    Ev (fun k=>impl_converse.l1 k (mat n g) (i:Int) r L (i:Int) (ints ms) (ms.length:Int) (j:Int)) R:=by
  intro d
  induction d with
  | zero =>
    intro j g hj hR
    refine Ev.succ ?_
    simp only [impl_converse.l1]
    refine Ev.neg (by omega) ?_
    rw [w64' (by omega)]
    rw [List.drop_of_length_le (by omega)] at hR
    simpa using hR
  | succ d ih =>
    intro j g hj hR
    have hj' : j < ms.length:=by omega
    have hx:=hms _ (List.getElem_mem hj')
    refine Ev.succ ?_
    simp only [impl_converse.l1]
    refine Ev.pos (by omega) (Ev.pos (by omega) (Ev.pos (by simp;omega) ?_))
    rw [rd_ints ms j hj']
    refine Ev.pos (by omega) (Ev.pos (by simp;omega) ?_)
    rw [one_eq i (by omega),rd_mat n g _ hx]
    refine Ev.some_bind ?_
    have hg:=mk_lt n (g ms[j])
    have h24:=pow24 hn
    have hp:(2:Nat) ^ i < 2 ^ n:=Nat.pow_lt_pow_right (by decide) hi
    rw [b_or _ _ (by omega) (by omega),w64' (by omega)]
    have e:(mat n g).set ((ms[j]:Int)).toNat (((mk n (g ms[j]) ||| 2 ^ i:Nat)):Int) = mat n fun a b=>g a b || (decide (b = i) && decide (a = ms[j])):=by
      rw [Int.toNat_natCast]
      apply List.ext_getElem
      · simp
      · intro q h1 h2
        have hq:q < n:=by simpa using h1
        rw [List.getElem_set]
        by_cases e:ms[j] = q
        · rw [if_pos e]
          simp only [mat,List.getElem_map,List.getElem_range]
          congr 1
          refine bits_ext fun b=>?_
          rw [Nat.testBit_or,testBit_mk,testBit_mk,testBit_one,← e]
          by_cases hb:b = i
          · subst hb;simp [hi]
          · simp [hb,show ¬ i = b from fun h=>hb h.symm]
        · rw [if_neg e]
          simp only [mat,List.getElem_map,List.getElem_range]
          congr 1
          exact mk_congr fun b _=>by simp [show ¬ q = ms[j] from fun h=>e h.symm]
    rw [e]
    refine ih (j + 1) _ (by omega) ?_
    have e2:(fun a b=>(g a b || (decide (b = i) && decide (a = ms[j]))) || (decide (b = i) && decide (a ∈ ms.drop (j + 1)))) = fun a b=>g a b || (decide (b = i) && decide (a ∈ ms.drop j)):=by
      funext a b
      have hm:a ∈ ms.drop j ↔ a = ms[j] ∨ a ∈ ms.drop (j + 1):=by rw [List.drop_eq_getElem_cons hj', List.mem_cons]
      rw [Bool.eq_iff_iff]
      simp only [Bool.or_eq_true,Bool.and_eq_true,decide_eq_true_eq,hm]
      constructor
      · rintro ((h | ⟨h1,h2⟩) | ⟨h1,h2⟩)
        · exact .inl h
        · exact .inr ⟨h1,.inl h2⟩
        · exact .inr ⟨h1,.inr h2⟩
      · rintro (h | ⟨h1,h2 | h2⟩)
        · exact .inl (.inl h)
        · exact .inl (.inr ⟨h1,h2⟩)
        · exact .inr ⟨h1,h2⟩
    rw [e2]
    exact hR
theorem converse_l0 (n : Nat) (hn : n ≤ 24) (f : Nat → Nat → Bool) : ∀ (d i : Nat), i + d = n →
    Ev (fun k=>impl_converse.l0 k (mat n fun a b=>decide (b < i) && f b a) (mat n f) (n:Int) (i:Int)) (mat n fun a b=>f b a):=by
  intro d
  induction d with
  | zero =>
    intro i hi
    refine Ev.succ ?_
    simp only [impl_converse.l0]
    refine Ev.neg (by omega) (Ev.const ?_)
    congr 1
    exact mat_congr fun a b ha hb=>by simp [show b < i by omega]
  | succ d ih =>
    intro i hi
    refine Ev.succ ?_
    simp only [impl_converse.l0]
    refine Ev.pos (by omega) (Ev.pos (by omega) (Ev.pos (by simp;omega) ?_))
    have hlt:=mk_lt n (f i)
    have h24:=pow24 hn
    have hmem:∀ x,x ∈ bitsOf (mk n (f i)) ↔ x < n ∧ f i x = true:=fun x=>by
      rw [mem_bitsOf (by omega),testBit_mk];simp
    refine Ev.bind (by rw [rd_mat n f i (by omega)];exact members_ev _ (by omega)) ?_
    have:=converse_l1 n hn (mat n f) i (by omega) (n:Int) (mat n fun a b=>f b a) (bitsOf (mk n (f i))) (bitsOf_length _) (fun x hx=>((hmem x).1 hx).1) (bitsOf (mk n (f i))).length 0 (fun a b=>decide (b < i) && f b a) (by omega) ?_
    · have e:intsOf (mk n (f i)) = ints (bitsOf (mk n (f i))):=rfl
      rw [e,ints_length]
      exact this
    · rw [List.drop_zero]
      have e:(mat n fun a b=>decide (b < i) && f b a || (decide (b = i) && decide (a ∈ bitsOf (mk n (f i))))) = mat n fun a b=>decide (b < i + 1) && f b a:=by
        refine mat_congr fun a b ha hb=>?_
        rw [Bool.eq_iff_iff]
        simp only [Bool.or_eq_true,Bool.and_eq_true,decide_eq_true_eq,hmem]
        constructor
        · rintro (⟨h1,h2⟩ | ⟨rfl,_,h2⟩)
          · exact ⟨by omega,h2⟩
          · exact ⟨by omega,h2⟩
        · rintro ⟨h1,h2⟩
          by_cases e:b = i
          · subst e;exact .inr ⟨rfl,ha,h2⟩
          · exact .inl ⟨by omega,h2⟩
      rw [e]
      exact ih (i + 1) (by omega)
theorem converse_ev (n:Nat) (hn:n ≤ 24) (f:Nat → Nat → Bool):Ev (fun k=>impl_converse.f k (mat n f)) (mat n fun a b=>f b a):=by
  simp only [impl_converse.f]
  refine Ev.pos (by omega) (Ev.pos (by simp;omega) ?_)
  have e:List.replicate (((mat n f).length:Int)).toNat (0:Int) = mat n fun a b=>decide (b < 0) && f b a:=by
    rw [mat_length,Int.toNat_natCast]
    apply List.ext_getElem
    · simp
    · intro q h1 h2
      simp only [List.getElem_replicate,mat,List.getElem_map,List.getElem_range]
      rw [show mk n (fun b=>decide (b < 0) && f b q) = 0 from bits_ext fun b=>by rw [testBit_mk];simp]
      rfl
  rw [e,mat_length]
  exact converse_l0 n hn f n 0 (by omega)
theorem IsAlphabet_loop (m : Nat) (hm : m ≤ 8) (f : Nat → Nat → Bool) : ∀ (d a : Nat), a + d = m → (∀ i, i < a → f i i = true ∧ ∀ k, k < m → f i k = f k i) →
    Ev (fun k=>impl_IsAlphabet.l0 k (mat m fun a b=>f b a) (m:Int) (a:Int) (m:Int) (mat m f)) (decide (∀ i,i < m → f i i = true ∧ ∀ k,k < m → f i k = f k i)):=by
  intro d
  induction d with
  | zero =>
    intro a ha hp
    refine Ev.succ ?_
    simp only [impl_IsAlphabet.l0]
    refine Ev.neg (by omega) (Ev.const ?_)
    rw [decide_eq_true fun i hi=>hp i (by omega)]
  | succ d ih =>
    intro a ha hp
    refine Ev.succ ?_
    simp only [impl_IsAlphabet.l0]
    refine Ev.pos (by omega) (Ev.pos (by omega) (Ev.pos (by simp;omega) (Ev.pos (by simp;omega) ?_)))
    rw [rd_mat m _ a (by omega),rd_mat m f a (by omega)]
    have hlt:=mk_lt m fun b=>f b a
    have h24:=pow24 (show m ≤ 24 by omega)
    refine Ev.ite (fun c=>?_) (fun c=>?_)
    · have hc : ∀ k, k < m → f a k = f k a := fun k hk => by
        have:=congrArg (fun z:Nat=>z.testBit k) (Int.ofNat.inj c)
        simp only [testBit_mk,hk,decide_true,Bool.true_and] at this
        exact this.symm
      rw [has_eq _ a (by omega) (by omega),testBit_mk]
      refine Ev.some_bind ?_
      refine Ev.ite (fun g=>?_) (fun g=>?_)
      · rw [w64' (by omega)]
        refine ih (a + 1) (by omega) (fun i hi=>?_)
        by_cases e:i = a
        · subst e;exact ⟨by simpa [show i < m by omega] using g,hc⟩
        · exact hp i (by omega)
      · refine Ev.const ?_
        rw [decide_eq_false fun h=>g (by simpa [show a < m by omega] using (h a (by omega)).1)]
    · refine Ev.const ?_
      rw [decide_eq_false fun h=>c ?_]
      congr 1
      exact mk_congr fun k hk=>((h a (by omega)).2 k hk).symm
theorem IsAlphabet_ev (n:Int) (D:List Int):Ev (fun k=>impl_IsAlphabet.f k n D) (decide (Alpha n D)):=by
  have hj:∀ n D,¬ Alpha n D → Ev (fun k=>impl_IsAlphabet.j0 k true n D) (decide (Alpha n D)):=fun n D h=>by
    refine Ev.succ ?_
    simp only [impl_IsAlphabet.j0]
    exact Ev.pos (by simp) (Ev.const (by rw [decide_eq_false h]))
  simp only [impl_IsAlphabet.f,inRange_eq,impl_length_int64.f,IsRelation_eq]
  refine Ev.some_bind ?_
  simp only [decide_eq_true_eq]
  refine Ev.ite (fun c1=>Ev.some_bind ?_) (fun c1=>hj n D fun h=>c1 h.1)
  refine Ev.ite (fun c2=>Ev.some_bind ?_) (fun c2=>hj n D fun h=>c2 h.2.1)
  obtain ⟨m,rfl⟩:=Int.eq_ofNat_of_zero_le c1.1
  have hl:D.length = m:=by omega
  by_cases c3:∀ x ∈ D,0 ≤ x ∧ x < ((2 ^ D.length:Nat):Int)
  · rw [decide_eq_true ⟨by omega,c3⟩]
    have e:D = mat m (bitR D):=by have:=eq_mat D c3;rwa [hl] at this
    refine Ev.succ ?_
    simp only [impl_IsAlphabet.j0]
    refine Ev.neg (by simp) ?_
    have hc:=converse_ev m (by omega) (bitR D)
    rw [← e] at hc
    refine Ev.bind hc ?_
    have:=IsAlphabet_loop m (by omega) (bitR D) m 0 (by omega) (by intro i hi;omega)
    rw [← e] at this
    rw [mat_length]
    refine Ev.val this ?_
    rw [decide_eq_decide]
    exact ⟨fun h=>⟨c1,c2,c3,fun a ha=>⟨(h a (by omega)).1,fun b hb=>(h a (by omega)).2 b (by omega)⟩⟩,fun h a ha=>⟨(h.2.2.2 a (by omega)).1,fun b hb=>(h.2.2.2 a (by omega)).2 b (by omega)⟩⟩
  · rw [decide_eq_false fun h=>c3 h.2]
    exact hj _ _ fun h=>c3 h.2.2.1
theorem l02Dep_eq (n:Nat) (hn:n ≤ 24) (f:Nat → Nat → Bool) (x:Int) (a b:Nat) (ha:a < n) (hb:b < n):spec_l02Dep.f x (mat n f) (a:Int) (b:Int) = some (f a b):=by
  unfold spec_l02Dep.f
  have:=mk_lt n (f a)
  have:=pow24 hn
  rw [if_pos (by omega),if_pos (by simp;omega),rd_mat n f a ha,l01Bit_eq _ b (by omega) (by omega),testBit_mk]
  simp [hb]
theorem l01From_ev (c:List Int) (hc:c.length ≤ 4096):∃ h,Ev (fun k=>spec_l01From.f k c) (c,0,h):=by
  have loop:∀ (d i:Nat) (h:Int),i + d = c.length → ∃ h', Ev (fun k=>spec_l01From.l0 k c (i:Int) c 0 h) (c,0,h'):=by
    intro d
    induction d with
    | zero =>
      intro i h hi
      refine ⟨h,Ev.succ ?_⟩
      simp only [spec_l01From.l0]
      exact Ev.neg (by omega) (Ev.now _)
    | succ d ih =>
      intro i h hi
      obtain ⟨h', e⟩:=ih (i + 1) (IntKind.u64.wrap ((IntKind.u64.wrap ((IntKind.u64.wrap (h * 1099511628211)) + (IntKind.u64.wrap (rd c i)))) + 11)) (by omega)
      refine ⟨h', Ev.succ ?_⟩
      simp only [spec_l01From.l0]
      refine Ev.pos (by omega) (Ev.pos (by omega) (Ev.pos (by omega) ?_))
      rw [w64' (by omega)]
      exact e
  simp only [spec_l01From.f]
  exact loop c.length 0 _ (by omega)
theorem l01Next_ev {c:List Int} {a:Int} (hS:Src c a) (h n:Int):∃ v a' h', spec_l01Next.f c a h n = some (v,a', h') ∧ Src c a' ∧ 0 ≤ v ∧ (1 ≤ n → v < n) ∧ (n < 1 → v = 0):=by
  unfold spec_l01Next.f
  by_cases h1:n < 1
  · rw [if_pos h1]
    exact ⟨_,_,_,rfl,hS,by omega,by omega,fun _=>rfl⟩
  · rw [if_neg h1]
    have hr:=u64_range (IntKind.u64.wrap (h * 6364136223846793005) + 1442695040888963407)
    generalize IntKind.u64.wrap (IntKind.u64.wrap (h * 6364136223846793005) + 1442695040888963407) = H at hr
    obtain ⟨b,hb,b0,b1⟩:=u64_mask (H / 8589934592) (by omega) (by omega)
    rw [hb,w64' (x:=b) (by omega)]
    obtain ⟨s1,s2,s3,s4⟩:=hS
    by_cases g:a < (c.length:Int)
    · rw [if_pos g,if_pos s3,if_neg (by omega)]
      obtain ⟨i,rfl⟩:=Int.eq_ofNat_of_zero_le s3
      have hx:=s1 _ (List.getElem_mem (show i < c.length by omega))
      rw [rd_lt c i (by omega),w64' (x:=c[i]) (by omega),w64' (x:=b + c[i]) (by omega),w64' (x:=(i:Int) + 1) (by omega)]
      have:=tmod_range (b + c[i]) n (by omega) (by omega)
      exact ⟨_,_,_,rfl,⟨s1,s2,by omega,by omega⟩,this.1,fun _=>this.2,by omega⟩
    · rw [if_neg g,if_neg (by omega)]
      have:=tmod_range b n (by omega) (by omega)
      exact ⟨_,_,_,rfl,⟨s1,s2,s3,s4⟩,this.1,fun _=>this.2,by omega⟩
theorem l01Pick_ev {c:List Int} {a:Int} (hS:Src c a) (h:Int) (l:List Int) (hl:1 ≤ l.length):∃ v a' h', spec_l01Pick.f c a h l = some (v,a', h') ∧ Src c a' ∧ v ∈ l:=by
  obtain ⟨v,a', h', e,s,v0,v1,_⟩:=l01Next_ev hS h (l.length:Int)
  unfold spec_l01Pick.f
  rw [e]
  simp only [Option.bind_some]
  have:=v1 (by omega)
  obtain ⟨i,rfl⟩:=Int.eq_ofNat_of_zero_le v0
  rw [if_pos v0,if_pos this,rd_lt l i (by omega)]
  exact ⟨_,_,_,rfl,s,List.getElem_mem _⟩
theorem mk_single (n a:Nat) (ha:a < n):mk n (fun b=>decide (a = b)) = 2 ^ a:=bits_ext fun i=>by
  rw [testBit_mk,testBit_one]
  by_cases e:a = i
  · subst e;simp [ha]
  · simp [e]
theorem l02Free_ev (n:Nat) (hn:n ≤ 24):Ev (fun k=>spec_l02Free.f k (n:Int)) ((n:Int),mat n fun a b=>decide (a = b)):=by
  have e:mat n (fun a b=>decide (a = b)) = (List.range n).map fun i=>((2 ^ i:Nat):Int):=by
    unfold mat
    refine List.map_congr_left fun i hi=>?_
    rw [mk_single n i (List.mem_range.1 hi)]
  rw [e]
  have loop:∀ (d i:Nat),i + d = n → Ev (fun k=>spec_l02Free.l0 k (n:Int) (i:Int) (n:Int) ((List.range i).map fun i=>((2 ^ i:Nat):Int))) ((n:Int),(List.range n).map fun i=>((2 ^ i:Nat):Int)):=by
    intro d
    induction d with
    | zero =>
      intro i hi
      obtain rfl:i = n:=by omega
      refine Ev.succ ?_
      simp only [spec_l02Free.l0]
      exact Ev.neg (by omega) (Ev.now _)
    | succ d ih =>
      intro i hi
      refine Ev.succ ?_
      simp only [spec_l02Free.l0]
      refine Ev.pos (by omega) ?_
      rw [l01One_eq i (by omega),w64' (by omega)]
      refine Ev.some_bind (Ev.pos (by simp;omega) ?_)
      have:=ih (i + 1) (by omega)
      rw [List.range_succ,List.map_append] at this
      exact this
  simp only [spec_l02Free.f]
  exact loop n 0 (by omega)
theorem mat_set (n:Nat) (f:Nat → Nat → Bool) (a b:Nat) (ha:a < n) (hb:b < n):(mat n f).set a ((mk n (f a) ||| 2 ^ b:Nat):Int) = mat n fun i k=>f i k || (decide (i = a) && decide (k = b)):=by
  apply List.ext_getElem
  · simp
  · intro q h1 h2
    have hq:q < n:=by simpa using h1
    rw [List.getElem_set]
    by_cases e:a = q
    · subst e
      rw [if_pos rfl]
      simp only [mat,List.getElem_map,List.getElem_range]
      congr 1
      refine bits_ext fun i=>?_
      rw [Nat.testBit_or,testBit_mk,testBit_mk,testBit_one]
      by_cases e:b = i
      · subst e;simp [hb]
      · simp [e,show ¬ i = b from fun h=>e h.symm]
    · rw [if_neg e]
      simp only [mat,List.getElem_map,List.getElem_range]
      congr 1
      exact mk_congr fun i _=>by simp [show ¬ q = a from fun h=>e h.symm]
theorem l02Join_eq (n : Nat) (hn : n ≤ 24) (f : Nat → Nat → Bool) (a b : Nat) (ha : a < n) (hb : b < n) :
    spec_l02Join.f (n:Int) (mat n f) (a:Int) (b:Int) = some (mat n fun i k=>(f i k || (decide (i = a) && decide (k = b))) || (decide (i = b) && decide (k = a))):=by
  unfold spec_l02Join.f
  have p1:=pow24 hn
  have p2:(2:Nat) ^ a ≤ 2 ^ 24:=pow24 (by omega)
  have p3:(2:Nat) ^ b ≤ 2 ^ 24:=pow24 (by omega)
  have h1:=mk_lt n (f a)
  have h2:=mk_lt n (fun k=>f b k || (decide (b = a) && decide (k = b)))
  rw [if_pos (by omega),if_pos (by simp;omega),show spec_l01One_Bl02Join.f (b:Int) = spec_l01One.f (b:Int) from rfl,show spec_l01One_Bl02Join.f (a:Int) = spec_l01One.f (a:Int) from rfl,l01One_eq a (by omega),l01One_eq b (by omega),rd_mat n f a ha]
  simp only [Option.bind_some]
  rw [b_or _ _ (by omega) (by omega),Int.toNat_natCast,mat_set n f a b ha hb]
  rw [if_pos (by omega),if_pos (by simp;omega),rd_mat n _ b hb,b_or _ _ (by omega) (by omega),Int.toNat_natCast,mat_set n _ b a hb ha]
def Drawn (c:List Int) (most:Nat) (r:Int × List Int × Int × Int):Prop:=∃ (n:Nat) (f:Nat → Nat → Bool),r.1 = (n:Int) ∧ r.2.1 = mat n f ∧ n ≤ most ∧ n ≤ 8 ∧ (∀ a b,f a b = f b a) ∧ (∀ a,a < n → f a a = true) ∧ Src c r.2.2.1
theorem l02Draw_l0 (c : List Int) (most n : Nat) (hn : n ≤ most) (hn8 : n ≤ 8) (part : Int) : ∀ (d a : Nat), a + d = n → ∀ (f : Nat → Nat → Bool) (at_ h : Int), (∀ a b, f a b = f b a) → (∀ a, a < n → f a a = true) → Src c at_ →
    ∃ r,Drawn c most r ∧ Ev (fun k=>spec_l02Draw.l0 k (n:Int) part (a:Int) c at_ h (n:Int) (mat n f)) r:=by
  intro d
  induction d with
  | zero =>
    intro a ha f at_ h hs hr hS
    refine ⟨((n:Int),mat n f,at_,h),⟨n,f,rfl,rfl,hn,hn8,hs,hr,hS⟩,Ev.succ ?_⟩
    simp only [spec_l02Draw.l0]
    exact Ev.neg (by omega) (Ev.now _)
  | succ d ih =>
    intro a ha f at_ h hs hr hS
    have inner : ∀ (e b : Nat), b + e = a → ∀ (f : Nat → Nat → Bool) (at_ h : Int), (∀ a b, f a b = f b a) → (∀ a, a < n → f a a = true) → Src c at_ →
        ∃ r,Drawn c most r ∧ Ev (fun k=>spec_l02Draw.l1 k (n:Int) part (a:Int) (b:Int) c at_ h (n:Int) (mat n f)) r:=by
      intro e
      induction e with
      | zero =>
        intro b hb f at_ h hs hr hS
        obtain ⟨r,hd,he⟩:=ih (a + 1) (by omega) f at_ h hs hr hS
        refine ⟨r,hd,Ev.succ ?_⟩
        simp only [spec_l02Draw.l1]
        refine Ev.neg (by omega) ?_
        rw [w64' (by omega)]
        exact he
      | succ e ihe =>
        intro b hb f at_ h hs hr hS
        obtain ⟨v,a1,h1,e1,s1,_⟩:=l01Next_ev hS h part
        by_cases g:v = 0
        · obtain ⟨r, hd, he⟩ := ihe (b + 1) (by omega) (fun i k => (f i k || (decide (i = a) && decide (k = b))) || (decide (i = b) && decide (k = a))) a1 h1 (fun x y => by
            rw [hs x y,Bool.eq_iff_iff]
            simp only [Bool.or_eq_true,Bool.and_eq_true,decide_eq_true_eq]
            constructor
            · rintro ((h | ⟨h1,h2⟩) | ⟨h1,h2⟩)
              · exact .inl (.inl h)
              · exact .inr ⟨h2,h1⟩
              · exact .inl (.inr ⟨h2,h1⟩)
            · rintro ((h | ⟨h1,h2⟩) | ⟨h1,h2⟩)
              · exact .inl (.inl h)
              · exact .inr ⟨h2,h1⟩
              · exact .inl (.inr ⟨h2,h1⟩)) (fun x hx=>by simp [hr x hx]) s1
          refine ⟨r,hd,Ev.succ ?_⟩
          simp only [spec_l02Draw.l1]
          refine Ev.pos (by omega) ?_
          rw [e1]
          refine Ev.some_bind (Ev.pos g ?_)
          rw [l02Join_eq n (by omega) f a b (by omega) (by omega),w64' (by omega)]
          exact Ev.some_bind he
        · obtain ⟨r,hd,he⟩:=ihe (b + 1) (by omega) f a1 h1 hs hr s1
          refine ⟨r,hd,Ev.succ ?_⟩
          simp only [spec_l02Draw.l1]
          refine Ev.pos (by omega) ?_
          rw [e1]
          refine Ev.some_bind (Ev.neg g ?_)
          rw [w64' (by omega)]
          exact he
    obtain ⟨r,hd,he⟩:=inner a 0 (by omega) f at_ h hs hr hS
    refine ⟨r,hd,Ev.succ ?_⟩
    simp only [spec_l02Draw.l0]
    exact Ev.pos (by omega) he
theorem l02Draw_ev {c:List Int} {a:Int} (hS:Src c a) (h:Int) (most:Nat) (hm:most ≤ 8):∃ r,Drawn c most r ∧ Ev (fun k=>spec_l02Draw.f k c a h (most:Int)) r:=by
  have j1:∀ (n a h:Int),0 ≤ n → n ≤ most → Src c a → ∃ r,Drawn c most r ∧ Ev (fun k=>spec_l02Draw.j1 k n c a h) r:=by
    intro n a h h0 h1 hS
    obtain ⟨m,rfl⟩:=Int.eq_ofNat_of_zero_le h0
    obtain ⟨v,a1,h1', e1,s1,_⟩:=l01Pick_ev hS h [2,2,3,4] (by simp)
    obtain ⟨r,hd,he⟩:=l02Draw_l0 c most m (by omega) (by omega) v m 0 (by omega) (fun a b=>decide (a = b)) a1 h1' (fun x y=>by rw [decide_eq_decide];exact ⟨Eq.symm,Eq.symm⟩) (by simp) s1
    refine ⟨r,hd,Ev.succ ?_⟩
    simp only [spec_l02Draw.j1]
    refine Ev.bind (l02Free_ev m (by omega)) ?_
    rw [e1]
    exact Ev.some_bind he
  have j0:∀ (b:Bool) (a h:Int),(b = true → 4 ≤ most) → Src c a → ∃ r,Drawn c most r ∧ Ev (fun k=>spec_l02Draw.j0 k (most:Int) b c a h) r:=by
    intro b a h hb hS
    cases b with
    | true =>
      refine ⟨((4:Nat),[11,7,14,13],a,h),⟨4,fun x y=>decide (x < 4 ∧ y < 4) && bitR [11,7,14,13] x y,rfl,?_,hb rfl,by omega,?_,?_,hS⟩,Ev.succ ?_⟩
      · exact (eq_mat [11, 7, 14, 13] (by decide)).trans (mat_congr fun i k hi hk => by
          have h1:i < 4:=hi
          have h2:k < 4:=hk
          simp [h1,h2])
      · intro x y
        have key:∀ x,x < 4 → ∀ y,y < 4 → bitR [11,7,14,13] x y = bitR [11,7,14,13] y x:=by decide
        show (decide (x < 4 ∧ y < 4) && bitR [11,7,14,13] x y) = (decide (y < 4 ∧ x < 4) && bitR [11,7,14,13] y x)
        by_cases hx:x < 4 <;> by_cases hy:y < 4 <;> simp [hx,hy]
        exact key x hx y hy
      · decide
      · simp only [spec_l02Draw.j0]
        exact Ev.pos trivial (Ev.now _)
    | false =>
      obtain ⟨v,a1,h1,e1,s1,v0,v1,_⟩:=l01Next_ev hS h (wrap64 ((most:Int) + 1))
      have w:=w64' (x:=(most:Int) + 1) (by omega)
      by_cases g:v < 2
      · obtain ⟨v2,a2,h2,e2,s2,u0,u1,_⟩:=l01Next_ev s1 h1 (wrap64 ((most:Int) + 1))
        obtain ⟨r,hd,he⟩:=j1 v2 a2 h2 u0 (by rw [w] at u1;have:=u1 (by omega);omega) s2
        refine ⟨r,hd,Ev.succ ?_⟩
        simp only [spec_l02Draw.j0]
        refine Ev.neg (by simp) ?_
        rw [e1]
        refine Ev.some_bind (Ev.pos g ?_)
        rw [e2]
        exact Ev.some_bind he
      · obtain ⟨r,hd,he⟩:=j1 v a1 h1 v0 (by rw [w] at v1;have:=v1 (by omega);omega) s1
        refine ⟨r,hd,Ev.succ ?_⟩
        simp only [spec_l02Draw.j0]
        refine Ev.neg (by simp) ?_
        rw [e1]
        exact Ev.some_bind (Ev.neg g he)
  by_cases h4:4 ≤ most
  · obtain ⟨v,a1,h1,e1,s1,_⟩:=l01Next_ev hS h 6
    obtain ⟨r,hd,he⟩:=j0 (v == 0) a1 h1 (fun _=>h4) s1
    refine ⟨r,hd,?_⟩
    simp only [spec_l02Draw.f]
    refine Ev.pos (by omega) ?_
    rw [e1]
    exact Ev.some_bind he
  · obtain ⟨r,hd,he⟩:=j0 false a h (by simp) hS
    refine ⟨r,hd,?_⟩
    simp only [spec_l02Draw.f]
    exact Ev.neg (by omega) he
theorem l02Spoil_ev {c:List Int} {a:Int} (hS:Src c a) (h:Int) (most:Nat) (hm:most ≤ 8):∃ n D a' h', Src c a' ∧ D.length ≤ 9 ∧ Ev (fun k=>spec_l02Spoil.f k c a h (most:Int)) (n,D,a', h'):=by
  obtain ⟨⟨n0,D0,a0,h0⟩,⟨m,f,e1,e2,hm1,hm8,hs,hr,hS0⟩,hd⟩:=l02Draw_ev hS h most hm
  simp only at e1 e2 hS0
  subst e1 e2
  obtain ⟨v1,a1,h1,x1,s1,p1,_⟩:=l01Next_ev hS0 h0 14
  by_cases g1:v1 > 0
  · refine ⟨(m:Int),mat m f,a1,h1,s1,by simp;omega,?_⟩
    simp only [spec_l02Spoil.f]
    refine Ev.bind hd ?_
    simp only []
    rw [x1]
    exact Ev.some_bind (Ev.pos g1 (Ev.now _))
  · obtain ⟨v2,a2,h2,x2,s2,p2,_⟩:=l01Next_ev s1 h1 4
    by_cases g2:v2 = 0
    · obtain ⟨v3,a3,h3,x3,s3,_⟩:=l01Pick_ev s2 h2 [-1,9,wrap64 ((m:Int) + 1)] (by simp)
      refine ⟨v3,mat m f,a3,h3,s3,by simp;omega,?_⟩
      simp only [spec_l02Spoil.f]
      refine Ev.bind hd ?_
      simp only []
      rw [x1]
      refine Ev.some_bind (Ev.neg g1 ?_)
      simp only []
      rw [x2]
      refine Ev.some_bind (Ev.pos g2 ?_)
      simp only []
      rw [x3]
      exact Ev.some_bind (Ev.now _)
    · by_cases g3:v2 = 1
      · obtain ⟨v3,a3,h3,x3,s3,_⟩:=l01Pick_ev s2 h2 [0,1,255] (by simp)
        refine ⟨(m:Int),mat m f ++ [v3],a3,h3,s3,by simp;omega,?_⟩
        simp only [spec_l02Spoil.f]
        refine Ev.bind hd ?_
        simp only []
        rw [x1]
        refine Ev.some_bind (Ev.neg g1 ?_)
        simp only []
        rw [x2]
        refine Ev.some_bind (Ev.neg g2 (Ev.pos g3 ?_))
        simp only []
        rw [x3]
        exact Ev.some_bind (Ev.pos (by simp;omega) (Ev.now _))
      · by_cases g4:(m:Int) > 0
        · obtain ⟨v4,a4,h4,x4,s4,p4,q4,_⟩:=l01Next_ev s2 h2 (m:Int)
          have q4' := q4 (by omega)
          obtain ⟨i,rfl⟩:=Int.eq_ofNat_of_zero_le p4
          obtain ⟨v5,a5,h5,x5,s5,_⟩:=l01Next_ev s4 h4 ((2 ^ m:Nat):Int)
          obtain ⟨v6,a6,h6,x6,s6,_⟩:=l01Pick_ev s5 h5 [wrap64 ((rd (mat m f) (i:Int)) - ((2 ^ i:Nat):Int)),Go.bits .or .i64 (rd (mat m f) (i:Int)) ((2 ^ m:Nat):Int),v5,-1] (by simp)
          refine ⟨(m:Int),(mat m f).set i v6,a6,h6,s6,by simp;omega,?_⟩
          simp only [spec_l02Spoil.f]
          refine Ev.bind hd ?_
          simp only []
          rw [x1]
          refine Ev.some_bind (Ev.neg g1 ?_)
          simp only []
          rw [x2]
          refine Ev.some_bind (Ev.neg g2 (Ev.neg g3 (Ev.pos g4 ?_)))
          simp only []
          rw [x4]
          refine Ev.some_bind (Ev.pos (by omega) (Ev.pos (by simp;omega) ?_))
          rw [l01One_eq i (by omega),l01One_eq m (by omega)]
          refine Ev.some_bind (Ev.some_bind (Ev.some_bind ?_))
          simp only []
          rw [x5]
          refine Ev.some_bind ?_
          simp only []
          rw [x6]
          exact Ev.some_bind (Ev.now _)
        · refine ⟨(m:Int),mat m f,a2,h2,s2,by simp;omega,?_⟩
          simp only [spec_l02Spoil.f]
          refine Ev.bind hd ?_
          simp only []
          rw [x1]
          refine Ev.some_bind (Ev.neg g1 ?_)
          simp only []
          rw [x2]
          exact Ev.some_bind (Ev.neg g2 (Ev.neg g3 (Ev.neg g4 (Ev.now _))))
theorem sorted_ext:∀ {a b:List Int},a.Pairwise (· < ·) → b.Pairwise (· < ·) → (∀ x,x ∈ a ↔ x ∈ b) → a = b:=by
  intro a
  induction a with
  | nil =>
    intro b _ _ h
    cases b with
    | nil=>rfl
    | cons y b=>exact absurd ((h y).2 (List.mem_cons_self ..)) (by simp)
  | cons x a ih =>
    intro b ha hb h
    cases b with
    | nil=>exact absurd ((h x).1 (List.mem_cons_self ..)) (by simp)
    | cons y b =>
      rw [List.pairwise_cons] at ha hb
      have hxy:x = y:=by
        rcases List.mem_cons.1 ((h x).1 (List.mem_cons_self ..)) with e | e
        · exact e
        · rcases List.mem_cons.1 ((h y).2 (List.mem_cons_self ..)) with e' | e'
          · exact e'.symm
          · have h1:=hb.1 x e
            have h2:=ha.1 y e'
            omega
      subst hxy
      rw [ih ha.2 hb.2 (fun z=>?_)]
      constructor
      · intro hz
        rcases List.mem_cons.1 ((h z).1 (List.mem_cons_of_mem _ hz)) with e | e
        · have:=ha.1 z hz
          omega
        · exact e
      · intro hz
        rcases List.mem_cons.1 ((h z).2 (List.mem_cons_of_mem _ hz)) with e | e
        · have:=hb.1 z hz
          omega
        · exact e
theorem sort_eq {L:List Nat} {s:List Nat} (hn:L.Nodup) (hs:s.Pairwise (· < ·)) (h:∀ x,x ∈ L ↔ x ∈ s):((ints L).mergeSort fun x y=>decide (x ≤ y)) = ints s:=by
  have hp:=List.mergeSort_perm (ints L) fun x y=>decide (x ≤ y)
  have hle:((ints L).mergeSort fun x y=>decide (x ≤ y)).Pairwise fun x y=>decide (x ≤ y) = true:=List.pairwise_mergeSort (fun a b c h1 h2=>by simp only [decide_eq_true_eq] at h1 h2 ⊢;omega) (fun a b=>by simp only [Bool.or_eq_true,decide_eq_true_eq];omega) _
  have hnd:((ints L).mergeSort fun x y=>decide (x ≤ y)).Nodup:=hp.symm.nodup (List.Pairwise.map _ (fun a b hab e=>hab (by exact_mod_cast e)) hn)
  refine sorted_ext (List.Pairwise.imp₂ (fun a b h1 h2=>?_) hle hnd) (List.Pairwise.map _ (fun a b hab=>by omega) hs) (fun x=>?_)
  · have h1' := of_decide_eq_true h1
    omega
  · rw [hp.mem_iff]
    simp only [ints,List.mem_map,h]
theorem grow_ev (n : Nat) (hn : n ≤ 24) (g : Nat → Nat → Bool) : ∀ (N op : Nat), op ≤ N → op < 2 ^ n → ∀ ch : Nat, ch < 2 ^ n → (∀ i, ch.testBit i = true → op.testBit i = false) →
    ∃ L:List Nat,Ev (fun k=>impl_growCliques.l0 (mat n g) k (ch:Int) (op:Int)) (ints L) ∧ L.Nodup ∧ ∀ C:Nat,C ∈ L ↔ ∃ S:Nat,S ≠ 0 ∧ (∀ i,S.testBit i = true → op.testBit i = true) ∧ (∀ a b,a < b → S.testBit a = true → S.testBit b = true → g a b = true) ∧ C = ch ||| S:=by
  have h62:=pow_lt62 hn
  have h24:=pow24 hn
  intro N
  induction N with
  | zero =>
    intro op h0 _ ch _ _
    obtain rfl:op = 0:=by omega
    refine ⟨[],Ev.succ ?_,List.nodup_nil,fun C=>⟨fun h=>absurd h (by simp),?_⟩⟩
    · simp only [impl_growCliques.l0]
      exact Ev.pos rfl (Ev.now _)
    · rintro ⟨S,hS,hs,_⟩
      exact absurd (bits_ext fun i=>by
        rw [Nat.zero_testBit]
        cases h:S.testBit i
        · rfl
        · have:=hs i h
          rw [Nat.zero_testBit] at this
          exact this.symm) hS
  | succ N ih =>
    intro op hop hop2 ch hch hd
    by_cases h0:op = 0
    · exact ih op (by omega) hop2 ch hch hd
    have hlow:=lowest op h0 (by omega)
    have hlt:=and_pred_lt op h0
    generalize hop' : op &&& (op - 1) = op' at hlow hlt
    generalize hii:Lib.ctz 64 op = i at hlow
    obtain ⟨hi,hbelow,hi64,hbits⟩:=hlow
    have hin:i < n:=by
      by_cases c:i < n
      · exact c
      · rw [bit_of_lt hop2 (by omega)] at hi
        exact absurd hi (by simp)
    have hp2:(2:Nat) ^ i < 2 ^ n:=Nat.pow_lt_pow_right (by decide) hin
    have hci:ch.testBit i = false:=by
      cases c:ch.testBit i
      · rfl
      · rw [hd i c] at hi
        exact absurd hi (by simp)
    have hor:ch ||| 2 ^ i < 2 ^ n:=Nat.or_lt_two_pow hch hp2
    have hand:op' &&& mk n (g i) ≤ op' := Nat.and_le_left
    obtain ⟨L1,e1,n1,m1⟩:=ih (op' &&& mk n (g i)) (by omega) (by omega) (ch ||| 2 ^ i) hor (fun j hj=>by
      rw [Nat.testBit_and,hbits]
      rw [Nat.testBit_or,testBit_one] at hj
      by_cases e:j = i
      · simp [e]
      · rw [decide_eq_false (fun h=>e h.symm),Bool.or_false] at hj
        rw [hd j hj]
        rfl)
    obtain ⟨L2,e2,n2,m2⟩:=ih op' (by omega) (by omega) ch hch (fun j hj=>by
      rw [hbits,hd j hj]
      rfl)
    have hb1:Go.bits .or .i64 (ch:Int) ((2 ^ i:Nat):Int) = ((ch ||| 2 ^ i:Nat):Int):=b_or ch (2 ^ i) (by omega) (by omega)
    have hb2:Go.bits .and .i64 (op:Int) (wrap64 ((op:Int) - 1)) = ((op' : Nat):Int):=by
      rw [w64' (by omega),show (op:Int) - 1 = ((op - 1:Nat):Int) by omega,b_and op (op - 1) (by omega) (by omega),hop']
    have hmk:=mk_lt n (g i)
    have hb3:Go.bits .and .i64 (op' : Int) ((mk n (g i):Nat):Int) = ((op' &&& mk n (g i):Nat):Int):=b_and op' (mk n (g i)) (by omega) (by omega)
    refine ⟨(ch ||| 2 ^ i) :: (L1 ++ L2),Ev.succ ?_,?_,?_⟩
    · simp only [impl_growCliques.l0]
      refine Ev.neg (by omega) ?_
      rw [least_eq op (by omega),hii]
      refine Ev.some_bind (Ev.pos (by omega) (Ev.pos (by rw [mat_length];omega) ?_))
      rw [one_eq i (by omega)]
      refine Ev.some_bind ?_
      rw [hb1,hb2,rd_mat n g i hin,hb3]
      have:=Ev.bind e1 (f:=fun k xs=>(impl_growCliques.l0 (mat n g) k (ch:Int) (op' : Int)).bind fun ys=>some (((ch ||| 2 ^ i:Nat):Int) :: (xs ++ ys))) (Ev.bind e2 (Ev.now _))
      rw [ints_cons,ints_append]
      exact this
    · rw [List.nodup_cons,List.nodup_append]
      refine ⟨?_,n1,n2,?_⟩
      · intro hm
        rcases List.mem_append.1 hm with hm | hm
        · obtain ⟨S,hS,hs,_,hC⟩:=(m1 _).1 hm
          refine hS (bits_ext fun j=>?_)
          rw [Nat.zero_testBit]
          cases c:S.testBit j
          · rfl
          · have h1:=hs j c
            rw [Nat.testBit_and,hbits] at h1
            have h2:=congrArg (fun z=>Nat.testBit z j) hC
            simp only [Nat.testBit_or,testBit_one,c,Bool.or_true] at h2
            simp only [Bool.and_eq_true,decide_eq_true_eq] at h1
            rw [decide_eq_false (fun h=>h1.1.2 h.symm),Bool.or_false] at h2
            rw [hd j h2] at h1
            exact absurd h1.1.1 (by simp)
        · obtain ⟨S,hS,hs,_,hC⟩:=(m2 _).1 hm
          have h2:=congrArg (fun z=>Nat.testBit z i) hC
          simp only [Nat.testBit_or,testBit_one,decide_true,Bool.or_true,hci,Bool.false_or] at h2
          have h1:=hs i h2.symm
          rw [hbits] at h1
          simp at h1
      · intro a ha b hb hab
        subst hab
        obtain ⟨S,_,_,_,hC⟩:=(m1 _).1 ha
        obtain ⟨T,_,hs,_,hD⟩:=(m2 _).1 hb
        have h2:=congrArg (fun z=>Nat.testBit z i) (hC.symm.trans hD)
        simp only [Nat.testBit_or,testBit_one,decide_true,Bool.or_true,Bool.true_or,hci,Bool.false_or] at h2
        have h1:=hs i h2.symm
        rw [hbits] at h1
        simp at h1
    · intro C
      rw [List.mem_cons,List.mem_append,m1,m2]
      constructor
      · rintro (rfl | ⟨S,hS,hs,hc,rfl⟩ | ⟨S,hS,hs,hc,rfl⟩)
        · refine ⟨2 ^ i,by have:=Nat.two_pow_pos i;omega,fun j hj=>?_,fun a b hab ha hb=>?_,rfl⟩
          · rw [testBit_one] at hj
            rw [← of_decide_eq_true hj]
            exact hi
          · rw [testBit_one] at ha hb
            have h1:=of_decide_eq_true ha
            have h2:=of_decide_eq_true hb
            omega
        · refine ⟨2 ^ i ||| S,fun h=>hS ?_,fun j hj=>?_,fun a b hab ha hb=>?_,by rw [Nat.or_assoc]⟩
          · refine bits_ext fun j=>?_
            have:=congrArg (fun z=>Nat.testBit z j) h
            simp only [Nat.testBit_or,Nat.zero_testBit,Bool.or_eq_false_iff] at this
            rw [this.2,Nat.zero_testBit]
          · rw [Nat.testBit_or,testBit_one,Bool.or_eq_true,decide_eq_true_eq] at hj
            rcases hj with rfl | hj
            · exact hi
            · have:=hs j hj
              rw [Nat.testBit_and,hbits] at this
              simp only [Bool.and_eq_true] at this
              exact this.1.1
          · rw [Nat.testBit_or,testBit_one,Bool.or_eq_true,decide_eq_true_eq] at ha hb
            have hS' : ∀ j,S.testBit j = true → i < j ∧ g i j = true:=fun j hj=>by
              have:=hs j hj
              rw [Nat.testBit_and,hbits,testBit_mk] at this
              simp only [Bool.and_eq_true,decide_eq_true_eq] at this
              refine ⟨?_,this.2.2⟩
              by_cases c:j < i
              · rw [hbelow j c] at this
                exact absurd this.1.1 (by simp)
              · have:=this.1.2
                omega
            rcases ha with rfl | ha
            · rcases hb with rfl | hb
              · omega
              · exact (hS' b hb).2
            · rcases hb with rfl | hb
              · have:=(hS' a ha).1
                omega
              · exact hc a b hab ha hb
        · refine ⟨S,hS,fun j hj=>?_,hc,rfl⟩
          have:=hs j hj
          rw [hbits] at this
          simp only [Bool.and_eq_true] at this
          exact this.1
      · rintro ⟨S,hS,hs,hc,rfl⟩
        by_cases c:S.testBit i = true
        · by_cases z:S = 2 ^ i
          · exact .inl (by rw [z])
          · have hSn : ∀ j, S.testBit j = true → j < n := fun j hj => by
              by_cases q:j < n
              · exact q
              · have:=hs j hj
                rw [bit_of_lt hop2 (by omega)] at this
                exact absurd this (by simp)
            have hb:∀ j,(mk n fun j=>S.testBit j && !decide (j = i)).testBit j = (S.testBit j && !decide (j = i)):=fun j=>by
              rw [testBit_mk]
              cases q:S.testBit j
              · simp
              · rw [decide_eq_true (hSn j q),Bool.true_and]
            refine .inr (.inl ⟨mk n fun j=>S.testBit j && !decide (j = i),fun h=>z (bits_ext fun j=>?_),fun j hj=>?_,fun a b hab ha hb' => ?_,bits_ext fun j=>?_⟩)
            · have h1:=hb j
              rw [h,Nat.zero_testBit] at h1
              rw [testBit_one]
              by_cases e:j = i
              · subst e
                rw [c]
                simp
              · simp only [e,decide_false,Bool.not_false,Bool.and_true] at h1
                rw [← h1,decide_eq_false (fun h=>e h.symm)]
            · rw [hb,Bool.and_eq_true,Bool.not_eq_true', decide_eq_false_iff_not] at hj
              rw [Nat.testBit_and,hbits,testBit_mk,hs j hj.1,decide_eq_true hj.2,decide_eq_true (hSn j hj.1)]
              have hij:i < j:=by
                by_cases q:j < i
                · have:=hs j hj.1
                  rw [hbelow j q] at this
                  exact absurd this (by simp)
                · have:=hj.2
                  omega
              rw [hc i j hij c hj.1]
              rfl
            · rw [hb,Bool.and_eq_true] at ha hb'
              exact hc a b hab ha.1 hb'.1
            · rw [Nat.testBit_or,Nat.testBit_or,Nat.testBit_or,hb,testBit_one]
              by_cases e:j = i
              · subst e
                simp [c]
              · have e' : ¬ i = j:=fun h=>e h.symm
                simp [e,e']
        · refine .inr (.inr ⟨S,hS,fun j hj=>?_,hc,rfl⟩)
          have e' : j ≠ i:=fun e=>c (by rw [← e];exact hj)
          rw [hbits,hs j hj]
          simp [e']
theorem mat_row1 (n:Nat) (h h' : Nat → Nat → Bool) (i:Nat) (hi:i < n) (v:Nat) (hv:v = mk n (h' i)) (ho:∀ a b,a < n → b < n → a ≠ i → h a b = h' a b):(mat n h).set i (v:Int) = mat n h' := by
  apply List.ext_getElem
  · simp
  · intro q h1 h2
    have hq:q < n:=by simpa using h2
    rw [List.getElem_set]
    by_cases e:i = q
    · subst e
      rw [if_pos rfl]
      simp [mat,hv]
    · rw [if_neg e]
      simp only [mat,List.getElem_map,List.getElem_range]
      rw [mk_congr (fun b hb=>ho q b hq hb (fun g=>e g.symm))]
theorem mutual_ev (n:Nat) (hn:n ≤ 24) (f:Nat → Nat → Bool):Ev (fun k=>impl_mutual.f k (mat n f)) (mat n fun a b=>f b a && (f a b && !decide (b = a))):=by
  have h62:=pow_lt62 hn
  have loop:∀ (d i:Nat),i + d = n → Ev (fun k=>impl_mutual.l0 k (mat n f) (mat n fun a b=>f b a && (decide (i ≤ a) || (f a b && !decide (b = a)))) (n:Int) (i:Int)) (mat n fun a b=>f b a && (f a b && !decide (b = a))):=by
    intro d
    induction d with
    | zero =>
      intro i hi
      refine Ev.succ ?_
      simp only [impl_mutual.l0]
      refine Ev.neg (by omega) ?_
      rw [mat_congr (f:=fun a b=>f b a && (decide (i ≤ a) || (f a b && !decide (b = a)))) (g:=fun a b=>f b a && (f a b && !decide (b = a))) (fun a b ha hb=>by rw [decide_eq_false (by omega:¬ i ≤ a),Bool.false_or])]
      exact Ev.now _
    | succ d ih =>
      intro i hi
      have hin:i < n:=by omega
      have hp2:(2:Nat) ^ i < 2 ^ n:=Nat.pow_lt_pow_right (by decide) hin
      have:=ih (i + 1) (by omega)
      refine Ev.succ ?_
      simp only [impl_mutual.l0]
      refine Ev.pos (by omega) (Ev.pos (by omega) (Ev.pos (by rw [mat_length];omega) (Ev.pos (by rw [mat_length];omega) ?_)))
      rw [one_eq i (by omega)]
      refine Ev.some_bind ?_
      have h1:=mk_lt n (f i)
      have h2:=mk_lt n fun b=>f b i && (decide (i ≤ i) || (f i b && !decide (b = i)))
      have h3:=without_le (mk n (f i)) (2 ^ i)
      rw [rd_mat n _ i hin,rd_mat n _ i hin,b_andNot _ _ (by omega) (by omega),b_and _ _ (by omega) (by omega),Int.toNat_natCast,mat_row1 n _ (fun a b=>f b a && (decide (i + 1 ≤ a) || (f a b && !decide (b = a)))) i hin _ ?_ ?_,w64' (by omega)]
      · exact this
      · refine bits_ext fun j=>?_
        rw [Nat.testBit_and,testBit_without _ _ _ (by omega) (by omega),testBit_mk,testBit_mk,testBit_mk,testBit_one]
        by_cases e:j = i
        · subst e
          simp
        · have e' : ¬ i = j:=fun h=>e h.symm
          simp only [e,e', decide_false,Nat.le_refl,decide_true,Bool.true_or,Bool.and_true,Bool.not_false,show ¬ i + 1 ≤ i by omega,Bool.false_or]
          cases decide (j < n) <;> cases f j i <;> cases f i j <;> rfl
      · intro a b ha hb hai
        by_cases e:i ≤ a
        · rw [decide_eq_true e,decide_eq_true (show i + 1 ≤ a by omega)]
        · rw [decide_eq_false e,decide_eq_false (show ¬ i + 1 ≤ a by omega)]
  simp only [impl_mutual.f]
  refine Ev.bind (converse_ev n hn f) ?_
  rw [mat_length]
  have:=loop n 0 (by omega)
  rw [mat_congr (f:=fun a b=>f b a && (decide (0 ≤ a) || (f a b && !decide (b = a)))) (g:=fun a b=>f b a) (fun a b ha hb=>by rw [decide_eq_true (Nat.zero_le a),Bool.true_or,Bool.and_true])] at this
  exact this
end Go.Proofs.YtjdekliancabgaaDoor.PAll
