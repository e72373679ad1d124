import Derived.Test.YtemdfjdmokbcoaaGreatDoorQMask
set_option linter.unusedVariables false
set_option linter.unusedSimpArgs false
namespace Go.Proofs.YtemdfjdmokbcoaaGreatDoor.Q
open Go.RowKit Go.Proofs.YtemdfjdmokbcoaaGreatDoorW.PrintWords
def mk (n:Nat) (p:Nat → Bool):Nat:=match n with
  | 0=>0
  | m + 1=>if p m then mk m p ||| 2 ^ m else mk m p
theorem testBit_mk (n:Nat) (p:Nat → Bool) (i:Nat):(mk n p).testBit i = (decide (i < n) && p i):=by
  induction n with
  | zero=>simp [mk]
  | succ m ih =>
    unfold mk
    by_cases h:p m
    · rw [if_pos h,Nat.testBit_or,ih,testBit_one]
      by_cases e:m = i
      · subst e;simp [h]
      · simp only [e,decide_false,Bool.or_false]
        congr 1
        rw [Bool.eq_iff_iff];simp;omega
    · rw [if_neg h,ih]
      by_cases e:m = i
      · subst e;simp [h]
      · congr 1
        rw [Bool.eq_iff_iff];simp;omega
theorem mk_lt (n:Nat) (p:Nat → Bool):mk n p < 2 ^ n:=lt_of_bits fun i hi=>by rw [testBit_mk];simp;omega
theorem mk_congr {n:Nat} {p q:Nat → Bool} (h:∀ i,i < n → p i = q i):mk n p = mk n q:=bits_ext fun i=>by
  rw [testBit_mk,testBit_mk]
  by_cases hi:i < n
  · rw [h i hi]
  · simp [hi]
theorem eq_mk {m n:Nat} (h:m < 2 ^ n):m = mk n fun i=>m.testBit i:=bits_ext fun i=>by
  rw [testBit_mk]
  by_cases hi:i < n
  · simp [hi]
  · simp [hi,bit_of_lt h (show n ≤ i by omega)]
def ints (w:List Nat):List Int:=w.map fun (x:Nat)=>(x:Int)
@[simp] theorem ints_length (w:List Nat):(ints w).length = w.length:=by simp [ints]
theorem ints_cons (a:Nat) (w:List Nat):ints (a :: w) = (a:Int) :: ints w:=rfl
theorem ints_append (u v:List Nat):ints (u ++ v) = ints u ++ ints v:=by simp [ints]
theorem rd_ints (w:List Nat) (i:Nat) (h:i < w.length):rd (ints w) (i:Int) = (w[i]:Int):=by
  rw [rd_lt _ _ (by simpa using h)];simp [ints]
def mat (n:Nat) (f:Nat → Nat → Bool):List Int:=(List.range n).map fun i=>((mk n (f i):Nat):Int)
@[simp] theorem mat_length (n:Nat) (f:Nat → Nat → Bool):(mat n f).length = n:=by simp [mat]
theorem rd_mat (n:Nat) (f:Nat → Nat → Bool) (i:Nat) (h:i < n):rd (mat n f) (i:Int) = ((mk n (f i):Nat):Int):=by
  rw [rd_lt _ _ (by simpa using h)];simp [mat]
theorem mat_congr {n:Nat} {f g:Nat → Nat → Bool} (h:∀ i k,i < n → k < n → f i k = g i k):mat n f = mat n g:=by
  unfold mat
  apply List.map_congr_left
  intro i hi
  rw [mk_congr fun k hk=>h i k (List.mem_range.mp hi) hk]
def bitR (r:List Int) (i k:Nat):Bool:=(rd r (i:Int)).toNat.testBit k
theorem eq_mat (r:List Int) (h:∀ x ∈ r,0 ≤ x ∧ x < ((2 ^ r.length:Nat):Int)):r = mat r.length (bitR r):=by
  apply List.ext_getElem
  · simp
  · intro i h1 h2
    have hx:=h _ (List.getElem_mem h1)
    have e:bitR r i = fun k=>(r[i]).toNat.testBit k:=by funext k;unfold bitR;rw [rd_lt r i h1]
    simp only [mat,List.getElem_map,List.getElem_range]
    rw [e,← eq_mk (by omega)]
    omega
section
variable (f:Nat → Nat → Bool)
def isFirst:List Nat → Nat → Bool
  | [],_=>false
  | b :: w,a=>decide (b = a) || (!f b a && isFirst w a)
theorem isFirst_mem {w:List Nat} {a:Nat} (h:isFirst f w a = true):a ∈ w:=by
  induction w with
  | nil=>simp [isFirst] at h
  | cons b w ih =>
    simp only [isFirst,Bool.or_eq_true,decide_eq_true_eq,Bool.and_eq_true] at h
    rcases h with rfl | ⟨_,h⟩
    · exact List.mem_cons_self
    · exact List.mem_cons_of_mem _ (ih h)
theorem isFirst_head (a:Nat) (w:List Nat):isFirst f (a :: w) a = true:=by simp [isFirst]
theorem exists_first {w:List Nat} (h:w ≠ []):∃ a,isFirst f w a = true:=by
  cases w with
  | nil=>exact absurd rfl h
  | cons a w=>exact ⟨a,isFirst_head f a w⟩
theorem length_erase {w:List Nat} {a:Nat} (h:isFirst f w a = true):(w.erase a).length + 1 = w.length:=by
  have hm:=isFirst_mem f h
  have:=List.length_erase_of_mem hm
  have:0 < w.length:=List.length_pos_of_mem hm
  omega
theorem first_erase (hs:∀ a b,f a b = f b a) {w:List Nat} {a b:Nat} (hne:a ≠ b) (hb:isFirst f w b = true):isFirst f w a = (!f b a && isFirst f (w.erase b) a):=by
  induction w with
  | nil=>simp [isFirst] at hb
  | cons c w ih =>
    by_cases hcb:c = b
    · subst hcb
      rw [List.erase_cons_head]
      simp [isFirst,show ¬ c = a from fun e=>hne e.symm]
    · rw [List.erase_cons_tail (by simpa using hcb)]
      simp only [isFirst,hcb,decide_false,Bool.false_or,Bool.and_eq_true,Bool.not_eq_true'] at hb
      by_cases hca:c = a
      · subst hca
        simp [isFirst,hs b c,hb.1]
      · simp only [isFirst,hca,decide_false,Bool.false_or]
        rw [ih hb.2]
        cases f c a <;> cases f b a <;> simp
theorem first_erase_of (hs:∀ a b,f a b = f b a) {w:List Nat} {a b:Nat} (hne:a ≠ b) (ha:isFirst f w a = true) (hb:isFirst f w b = true):isFirst f (w.erase b) a = true ∧ f b a = false:=by
  rw [first_erase f hs hne hb] at ha
  simpa [Bool.and_eq_true,and_comm] using ha
def cutP:List Nat → List Nat → Option (List Nat)
  | [],v=>some v
  | a :: u,v=>if isFirst f v a then cutP u (v.erase a) else none
def TrEq (u v:List Nat):Prop:=cutP f u v = some []
theorem TrEq.nil_iff {v:List Nat}:TrEq f [] v ↔ v = []:=by simp [TrEq,cutP]
theorem TrEq.cons_iff {a:Nat} {u v:List Nat}:TrEq f (a :: u) v ↔ isFirst f v a = true ∧ TrEq f u (v.erase a):=by
  unfold TrEq
  simp only [cutP]
  by_cases h:isFirst f v a <;> simp [h]
theorem TrEq.refl (u:List Nat):TrEq f u u:=by
  induction u with
  | nil=>rfl
  | cons a u ih=>exact (TrEq.cons_iff f).2 ⟨isFirst_head f a u,by rwa [List.erase_cons_head]⟩
theorem TrEq.first (hs:∀ a b,f a b = f b a) {u v:List Nat} (h:TrEq f u v) (a:Nat):isFirst f u a = isFirst f v a ∧ (isFirst f u a = true → TrEq f (u.erase a) (v.erase a)):=by
  induction u generalizing v with
  | nil =>
    rw [TrEq.nil_iff] at h
    subst h
    exact ⟨rfl,fun h=>by simp [isFirst] at h⟩
  | cons b u ih =>
    obtain ⟨h1,h2⟩:=(TrEq.cons_iff f).1 h
    obtain ⟨i1,i2⟩:=ih h2
    by_cases e:b = a
    · subst e
      exact ⟨by rw [isFirst_head,h1],fun _=>by rwa [List.erase_cons_head]⟩
    · have e1:isFirst f v a = (!f b a && isFirst f (v.erase b) a):=first_erase f hs (Ne.symm e) h1
      refine ⟨by rw [e1,← i1];simp [isFirst,e],fun h3=>?_⟩
      have h4:f b a = false ∧ isFirst f u a = true:=by simpa [isFirst,e] using h3
      rw [List.erase_cons_tail (by simpa using e)]
      have h5:isFirst f v a = true:=by rw [e1,← i1];simp [h4]
      exact (TrEq.cons_iff f).2 ⟨(first_erase_of f hs e h1 h5).1,by rw [List.erase_comm];exact i2 h4.2⟩
theorem TrEq.of_first (hs:∀ a b,f a b = f b a) {u v:List Nat} {a:Nat} (hu:isFirst f u a = true) (hv:isFirst f v a = true) (h:TrEq f (u.erase a) (v.erase a)):TrEq f u v:=by
  induction u generalizing v with
  | nil=>simp [isFirst] at hu
  | cons b u ih =>
    by_cases e:b = a
    · subst e
      rw [List.erase_cons_head] at h
      exact (TrEq.cons_iff f).2 ⟨hv,h⟩
    · rw [List.erase_cons_tail (by simpa using e)] at h
      have h4:f b a = false ∧ isFirst f u a = true:=by simpa [isFirst,e] using hu
      obtain ⟨h5,h6⟩:=(TrEq.cons_iff f).1 h
      have hvb:isFirst f v b = true:=by rw [first_erase f hs e hv,h5,hs,h4.1];rfl
      refine (TrEq.cons_iff f).2 ⟨hvb,ih h4.2 (first_erase_of f hs (Ne.symm e) hv hvb).1 ?_⟩
      rw [List.erase_comm]
      exact h6
theorem TrEq.length {u v:List Nat} (h:TrEq f u v):u.length = v.length:=by
  induction u generalizing v with
  | nil=>rw [TrEq.nil_iff] at h;subst h;rfl
  | cons a u ih =>
    obtain ⟨h1,h2⟩:=(TrEq.cons_iff f).1 h
    have:=ih h2
    have:=length_erase f h1
    simp;omega
theorem TrEq.symm (hs:∀ a b,f a b = f b a) {u v:List Nat} (h:TrEq f u v):TrEq f v u:=by
  induction u generalizing v with
  | nil=>rw [TrEq.nil_iff] at h;subst h;exact TrEq.refl f []
  | cons a u ih =>
    obtain ⟨h1,h2⟩:=(TrEq.cons_iff f).1 h
    exact TrEq.of_first f hs h1 (isFirst_head f a u) (by rw [List.erase_cons_head];exact ih h2)
theorem TrEq.trans (hs:∀ a b,f a b = f b a) {u v w:List Nat} (h:TrEq f u v) (k:TrEq f v w):TrEq f u w:=by
  induction u generalizing v w with
  | nil=>rw [TrEq.nil_iff] at h;subst h;exact k
  | cons a u ih =>
    obtain ⟨h1,h2⟩:=(TrEq.cons_iff f).1 h
    have:=TrEq.first f hs k a
    exact (TrEq.cons_iff f).2 ⟨by rw [← this.1];exact h1,ih h2 (this.2 h1)⟩
theorem TrEq.cons {a:Nat} {u v:List Nat} (h:TrEq f u v):TrEq f (a :: u) (a :: v):=(TrEq.cons_iff f).2 ⟨isFirst_head f a v,by rwa [List.erase_cons_head]⟩
theorem TrEq.mem {u v:List Nat} (h:TrEq f u v) (x:Nat):x ∈ u ↔ x ∈ v:=by
  induction u generalizing v with
  | nil=>rw [TrEq.nil_iff] at h;subst h;exact Iff.rfl
  | cons a u ih =>
    obtain ⟨h1,h2⟩:=(TrEq.cons_iff f).1 h
    rw [List.mem_cons,ih h2]
    by_cases e:x = a
    · subst e;simp [isFirst_mem f h1]
    · simp [e,List.mem_erase_of_ne e]
def leastF (p:Nat → Bool) (n:Nat):Nat:=((List.range n).find? p).getD n
theorem leastF_spec {p:Nat → Bool} {n:Nat} (h:∃ a,a < n ∧ p a = true):leastF p n < n ∧ p (leastF p n) = true ∧ ∀ i,i < leastF p n → p i = false:=by
  unfold leastF
  obtain ⟨a,ha,hp⟩:=h
  cases e:(List.range n).find? p with
  | none=>exact absurd hp (by have:=List.find?_eq_none.mp e a (List.mem_range.mpr ha);simpa using this)
  | some b =>
    obtain ⟨h1,l,r,h2,h3⟩:=List.find?_eq_some_iff_append.mp e
    have hb:b ∈ List.range n:=by rw [h2];simp
    refine ⟨List.mem_range.mp hb,h1,fun i hi=>?_⟩
    have hl:l = List.range l.length:=by
      have:=congrArg (List.take l.length) h2
      rw [List.take_left,List.take_range] at this
      have hlen:l.length ≤ n:=by have:=congrArg List.length h2;simp at this;omega
      rw [Nat.min_eq_left hlen] at this
      exact this.symm
    have hbl:b = l.length:=by
      have:=congrArg (fun z=>z[l.length]?) h2
      simp at this
      have hlen:l.length < n:=by have:=congrArg List.length h2;simp at this;omega
      rw [List.getElem?_range hlen] at this
      exact (Option.some.inj this).symm
    have:i ∈ l:=by rw [hl];exact List.mem_range.mpr (by simpa [hbl] using hi)
    simpa using h3 i this
theorem leastF_unique {p:Nat → Bool} {n b:Nat} (h1:b < n) (h2:p b = true) (h3:∀ i,i < b → p i = false):leastF p n = b:=by
  obtain ⟨h4,h5,h6⟩:=leastF_spec (p:=p) ⟨b,h1,h2⟩
  rcases Nat.lt_trichotomy (leastF p n) b with h | h | h
  · rw [h3 _ h] at h5;cases h5
  · exact h
  · rw [h6 _ h] at h2;cases h2
theorem leastF_congr {p q:Nat → Bool} (h:∀ i,p i = q i) (n:Nat):leastF p n = leastF q n:=by rw [show p = q from funext h]
variable (n:Nat)
def normalK:Nat → List Nat → List Nat
  | 0,_=>[]
  | k + 1,w=>leastF (isFirst f w) n :: normalK k (w.erase (leastF (isFirst f w) n))
def normalP (w:List Nat):List Nat:=normalK f n w.length w
variable {n}
theorem least_first {w:List Nat} (hw:∀ x ∈ w,x < n) (h:w ≠ []):leastF (isFirst f w) n < n ∧ isFirst f w (leastF (isFirst f w) n) = true ∧ ∀ i,i < leastF (isFirst f w) n → isFirst f w i = false:=by
  obtain ⟨a,ha⟩:=exists_first f h
  exact leastF_spec ⟨a,hw a (isFirst_mem f ha),ha⟩
theorem normalP_cons {w:List Nat} (hw:∀ x ∈ w,x < n) (h:w ≠ []):normalP f n w = leastF (isFirst f w) n :: normalP f n (w.erase (leastF (isFirst f w) n)):=by
  have h1:=length_erase f (least_first f hw h).2.1
  unfold normalP
  rw [← h1]
  simp only [normalK]
theorem erase_lt {w:List Nat} {a:Nat} (hw:∀ x ∈ w,x < n):∀ x ∈ w.erase a,x < n:=fun x hx=>hw x (List.mem_of_mem_erase hx)
theorem normalP_TrEq (hs:∀ a b,f a b = f b a):∀ (k:Nat) (w:List Nat),w.length = k → (∀ x ∈ w,x < n) → TrEq f (normalP f n w) w:=by
  intro k
  induction k with
  | zero=>intro w hk hw;rw [List.eq_nil_of_length_eq_zero hk];exact TrEq.refl f []
  | succ k ih =>
    intro w hk hw
    have hne:w ≠ []:=by rintro rfl;simp at hk
    obtain ⟨h1,h2,h3⟩:=least_first f hw hne
    rw [normalP_cons f hw hne]
    have hl:=length_erase f h2
    exact (TrEq.cons_iff f).2 ⟨h2,ih _ (by omega) (erase_lt hw)⟩
theorem normalP_eq_iff (hs:∀ a b,f a b = f b a):∀ (k:Nat) (u v:List Nat),u.length = k → (∀ x ∈ u,x < n) → (∀ x ∈ v,x < n) → (normalP f n u = normalP f n v ↔ TrEq f u v):=by
  intro k u v hk hu hv
  constructor
  · intro h
    have h1:=normalP_TrEq f hs _ u rfl hu
    have h2:=normalP_TrEq f hs _ v rfl hv
    exact TrEq.trans f hs (TrEq.symm f hs h1) (h ▸ h2)
  · intro h
    induction k generalizing u v with
    | zero =>
      rw [List.eq_nil_of_length_eq_zero hk] at h ⊢
      rw [(TrEq.nil_iff f).1 h]
    | succ k ih =>
      have hne:u ≠ []:=by rintro rfl;simp at hk
      have hnv:v ≠ []:=by rintro rfl;have:=TrEq.length f h;simp at this;exact hne (by simpa using this)
      rw [normalP_cons f hu hne,normalP_cons f hv hnv]
      have e:leastF (isFirst f u) n = leastF (isFirst f v) n:=leastF_congr (fun i=>(TrEq.first f hs h i).1) n
      obtain ⟨h1,h2,h3⟩:=least_first f hu hne
      rw [← e,ih _ _ (by have:=length_erase f h2;omega) (erase_lt hu) (erase_lt hv) ((TrEq.first f hs h _).2 h2)]
theorem normalP_length (hs:∀ a b,f a b = f b a) {w:List Nat} (hw:∀ x ∈ w,x < n):(normalP f n w).length = w.length:=TrEq.length f (normalP_TrEq f hs _ w rfl hw)
theorem normalP_lt (hs:∀ a b,f a b = f b a) {w:List Nat} (hw:∀ x ∈ w,x < n):∀ x ∈ normalP f n w,x < n:=fun x hx=>hw x ((TrEq.mem f (normalP_TrEq f hs _ w rfl hw) x).1 hx)
end
end Go.Proofs.YtemdfjdmokbcoaaGreatDoor.Q
