import Derived.Test.YtemdfjdmokbcoaaGreatDoorQDraw
import Derived.Test.YtemdfjdmokbcoaaGreatDoorQOrder
import Derived.Test.YtemdfjdmokbcoaaGreatDoorQInv
set_option linter.unusedVariables false
set_option linter.unusedSimpArgs false
namespace Go.Proofs.YtemdfjdmokbcoaaGreatDoor.Q
open Go.RowKit Go.Proofs.YtemdfjdmokbcoaaGreatDoorW.PrintWords
def sumN:Nat → (Nat → Nat) → Nat
  | 0,_=>0
  | m + 1,g=>sumN m g + g m
theorem sumN_congr {g h:Nat → Nat}:∀ m,(∀ e,e < m → g e = h e) → sumN m g = sumN m h:=by
  intro m
  induction m with
  | zero=>intro _;rfl
  | succ m ih=>intro H;simp only [sumN];rw [ih (fun e he=>H e (by omega)),H m (by omega)]
theorem sumN_add (g h:Nat → Nat):∀ m,sumN m (fun e=>g e + h e) = sumN m g + sumN m h:=by
  intro m
  induction m with
  | zero=>rfl
  | succ m ih=>simp only [sumN];rw [ih];omega
theorem sumN_one (c T:Nat):∀ m,sumN m (fun e=>if e = c then T else 0) = if c < m then T else 0:=by
  intro m
  induction m with
  | zero=>rfl
  | succ m ih =>
    simp only [sumN]
    rw [ih]
    by_cases h1:c < m
    · rw [if_pos h1,if_neg (by omega),if_pos (by omega)];omega
    · rw [if_neg h1]
      by_cases h2:m = c
      · rw [if_pos h2,if_pos (by omega)];omega
      · rw [if_neg h2,if_neg (by omega)]
theorem sumN_below (c:Nat) (g:Nat → Nat):∀ m,c ≤ m → sumN m (fun e=>if e < c then g e else 0) = sumN c g:=by
  intro m
  induction m with
  | zero => intro h; obtain rfl : c = 0 := by omega
            rfl
  | succ m ih =>
    intro h
    by_cases e:c = m + 1
    · subst e
      exact sumN_congr _ (fun e he=>if_pos he)
    · simp only [sumN]
      rw [ih (by omega),if_neg (by omega)]
      rfl
section
variable (m:Nat) (f:Nat → Nat → Bool)
def aP:Nat → (Nat → Bool) → Nat
  | 0,_=>1
  | n + 1,p=>sumN m fun c=>if p c = true then 0 else aP n fun b=>(p b || decide (b < c)) && !f c b
theorem aP_congr:∀ (n:Nat) {p q:Nat → Bool},(∀ b,b < m → p b = q b) → aP m f n p = aP m f n q:=by
  intro n
  induction n with
  | zero=>intro p q _;rfl
  | succ n ih =>
    intro p q h
    simp only [aP]
    refine sumN_congr m (fun c hc=>?_)
    rw [h c hc]
    split
    · rfl
    · exact ih (fun b hb=>by rw [h b hb])
theorem aP_star (hs : ∀ a b, f a b = f b a) (hr : ∀ a, a < m → f a a = true) : ∀ (n : Nat) (p : Nat → Bool) (c : Nat), c < m → p c = false →
    aP m f (n + 1) p = aP m f (n + 1) (fun b=>p b || decide (b = c)) + aP m f n (fun b=>p b && !f c b):=by
  intro n
  induction n with
  | zero =>
    intro p c hc hp
    show aP m f 1 p = aP m f 1 _ + 1
    simp only [aP]
    have:sumN m (fun e=>if p e = true then 0 else 1) = sumN m (fun e=>(if (p e || decide (e = c)) = true then 0 else 1) + (if e = c then 1 else 0)):=sumN_congr m (fun e he=>by
      by_cases h:e = c
      · subst h;simp [hp]
      · simp [h])
    rw [this,sumN_add,sumN_one,if_pos hc]
  | succ n ih =>
    intro p c hc hp
    let U:=fun e=>aP m f n (fun b=>((p b || decide (b < e)) && !f e b) && !f c b)
    let T:=fun e=>aP m f (n + 1) (fun b=>(p b || decide (b < e)) && !f e b)
    have key:∀ e,e < m → (if p e = true then 0 else T e) = ((if (p e || decide (e = c)) = true then 0 else aP m f (n + 1) (fun b=>((p b || decide (b = c)) || decide (b < e)) && !f e b)) + (if e = c then T c else 0)) + (if e < c then (if p e = true ∨ f c e = true then 0 else U e) else 0):=by
      intro e he
      by_cases h:e = c
      · subst h;simp [hp]
      · by_cases hpe:p e = true
        · simp [hpe,h]
        · have hpe' : p e = false:=by simpa using hpe
          simp only [hpe', h,decide_false,Bool.or_false,Bool.false_eq_true,if_false,false_or,Nat.add_zero]
          by_cases h1:e < c
          · rw [if_pos h1]
            by_cases h2:f c e = true
            · rw [if_pos h2,Nat.add_zero]
              refine aP_congr m f _ (fun b hb=>?_)
              by_cases hbc:b = c
              · subst hbc;simp [hs e b,h2]
              · simp [hbc]
            · rw [if_neg h2]
              have h2' : f c e = false:=by simpa using h2
              have hst:=ih (fun b=>(p b || decide (b < e)) && !f e b) c hc (by simp [hp];intro h3;omega)
              show T e = _ + U e
              show aP m f (n + 1) _ = _ + aP m f n _
              rw [hst]
              congr 1
              refine aP_congr m f _ (fun b hb=>?_)
              by_cases hbc:b = c
              · subst hbc;simp [hs e b,h2']
              · simp [hbc]
          · rw [if_neg h1,Nat.add_zero]
            refine aP_congr m f _ (fun b hb=>?_)
            by_cases hbc:b = c
            · subst hbc;simp [show b < e by omega]
            · simp [hbc]
    have e1:aP m f (n + 1 + 1) p = aP m f (n + 1 + 1) (fun b=>p b || decide (b = c)) + T c + sumN c (fun e=>if p e = true ∨ f c e = true then 0 else U e):=by
      show sumN m _ = sumN m _ + T c + _
      rw [sumN_congr m key,sumN_add,sumN_add,sumN_one,if_pos hc,sumN_below c _ m (by omega)]
    have tele:∀ j,j ≤ c → aP m f (n + 1) (fun b=>p b && !f c b) = aP m f (n + 1) (fun b=>(p b || decide (b < j)) && !f c b) + sumN j (fun e=>if p e = true ∨ f c e = true then 0 else U e):=by
      intro j
      induction j with
      | zero=>intro _;simp [sumN]
      | succ j ihj =>
        intro hj
        rw [ihj (by omega)]
        simp only [sumN]
        by_cases h1:p j = true ∨ f c j = true
        · rw [if_pos h1,Nat.add_zero]
          congr 1
          refine aP_congr m f _ (fun b hb=>?_)
          by_cases hbj:b = j
          · subst hbj
            rcases h1 with h1 | h1 <;> simp [h1]
          · have:decide (b < j + 1) = decide (b < j):=by rw [Bool.eq_iff_iff];simp;omega
            rw [this]
        · rw [if_neg h1]
          have h3:p j = false:=by cases h:p j;rfl;exact absurd (.inl h) h1
          have h4:f c j = false:=by cases h:f c j;rfl;exact absurd (.inr h) h1
          have hst:=ih (fun b=>(p b || decide (b < j)) && !f c b) j (by omega) (by simp [h3])
          rw [hst]
          have e2:aP m f (n + 1) (fun b=>(p b || decide (b < j)) && !f c b || decide (b = j)) = aP m f (n + 1) (fun b=>(p b || decide (b < j + 1)) && !f c b):=by
            refine aP_congr m f _ (fun b hb=>?_)
            by_cases hbj:b = j
            · subst hbj;simp [h4]
            · have:decide (b < j + 1) = decide (b < j):=by rw [Bool.eq_iff_iff];simp;omega
              simp [hbj,this]
          have e3:aP m f n (fun b=>((p b || decide (b < j)) && !f c b) && !f j b) = U j:=by
            refine aP_congr m f _ (fun b hb=>?_)
            simp only [Bool.and_assoc,Bool.and_comm (!f c b)]
          rw [e2,e3]
          omega
    rw [e1,tele c (Nat.le_refl _)]
    show _ + T c + _ = _ + (T c + _)
    omega
def nP (n:Nat):Nat:=aP m f n fun _=>false
theorem nP_zero:nP m f 0 = 1:=rfl
theorem nP_mono (hs:∀ a b,f a b = f b a) (hr:∀ a,a < m → f a a = true) (hm:0 < m) (n:Nat):nP m f n ≤ nP m f (n + 1):=by
  have h:=aP_star m f hs hr n (fun _=>false) 0 hm rfl
  have e:aP m f n (fun b=>false && !f 0 b) = nP m f n:=aP_congr m f n (fun b _=>by simp)
  rw [e] at h
  show _ ≤ aP m f (n + 1) (fun _=>false)
  omega
theorem aP_none (n:Nat) (h:m = 0):aP m f (n + 1) (fun _=>false) = 0:=by subst h;rfl
theorem sumN_zero (m:Nat):sumN m (fun _=>0) = 0:=by
  induction m with
  | zero=>rfl
  | succ m ih=>simp only [sumN];rw [ih]
theorem aP_full (n:Nat):aP m f (n + 1) (fun _=>true) = 0:=by
  show sumN m _ = 0
  rw [sumN_congr m (h:=fun _=>0) (fun e _=>by simp),sumN_zero]
def sgnP (C:Nat):Int:=1 - 2 * ((pcP C % 2:Nat):Int)
def zP (n:Nat) (L:List Nat):Int:=(L.map fun C=>if pcP C ≤ n then sgnP C * (nP m f (n - pcP C):Int) else 0).sum
theorem zP_append (n:Nat) (L L' : List Nat):zP m f n (L ++ L') = zP m f n L + zP m f n L' := by simp [zP,List.sum_append]
theorem pcP_eq (C:Nat):pcP C = C % 2 + pcP (C / 2):=by
  by_cases h:C = 0
  · subst h;simp [pcP_zero]
  · exact pcP_pos h
theorem pcP_top:∀ (k C:Nat),C < 2 ^ k → pcP (2 ^ k + C) = pcP C + 1:=by
  intro k
  induction k with
  | zero => intro C h; obtain rfl : C = 0 := by simpa using h
            rw [pcP_eq];simp [pcP_zero]
  | succ k ih =>
    intro C h
    rw [Nat.pow_succ] at h ⊢
    rw [pcP_eq (2 ^ k * 2 + C),pcP_eq C]
    have e1:(2 ^ k * 2 + C) % 2 = C % 2:=by omega
    have e2:(2 ^ k * 2 + C) / 2 = 2 ^ k + C / 2:=by omega
    rw [e1,e2,ih (C / 2) (by omega)]
    omega
theorem stepP_iff (hr:∀ a,a < m → f a a = true) (C:Nat):stepP m f C = true ↔ ∀ a b,a < m → b < m → C.testBit a = true → C.testBit b = true → a ≠ b → f a b = false:=by
  simp only [stepP,List.all_eq_true,List.mem_range,Bool.or_eq_true,Bool.not_eq_true', decide_eq_true_eq]
  constructor
  · intro h a b ha hb h1 h2 hne
    rcases h a ha with h3 | h3
    · rw [h1] at h3;cases h3
    · cases h4:f a b with
      | false=>rfl
      | true =>
        have:=congrArg (fun z=>z.testBit b) h3
        simp only [Nat.testBit_and,testBit_mk,testBit_one,h2,h4,hb,decide_true,Bool.and_true] at this
        exact absurd (by simpa using this.symm) hne
  · intro h a ha
    by_cases h1:C.testBit a = true
    · right
      refine bits_ext (fun b=>?_)
      rw [Nat.testBit_and,testBit_mk,testBit_one]
      by_cases hab:a = b
      · subst hab;simp [ha,hr a ha,h1]
      · simp only [hab,decide_false]
        by_cases hb:b < m
        · by_cases h2:C.testBit b = true
          · simp [h a b ha hb h1 h2 hab]
          · simp [h2]
        · simp [hb]
    · left;simpa using h1
def inP (k:Nat) (p:Nat → Bool) (C:Nat):Bool:=stepP m f C && (List.range k).all fun b=>!C.testBit b || p b
theorem inP_iff (hr:∀ a,a < m → f a a = true) (k:Nat) (p:Nat → Bool) (C:Nat):inP m f k p C = true ↔ (∀ a b,a < m → b < m → C.testBit a = true → C.testBit b = true → a ≠ b → f a b = false) ∧ ∀ b,b < k → C.testBit b = true → p b = true:=by
  unfold inP
  rw [Bool.and_eq_true,stepP_iff m f hr]
  simp only [List.all_eq_true,List.mem_range,Bool.or_eq_true,Bool.not_eq_true']
  refine and_congr_right (fun _=>forall_congr' fun b=>forall_congr' fun _=>?_)
  constructor
  · rintro (h | h) h2
    · rw [h] at h2;cases h2
    · exact h
  · intro h
    by_cases h2:C.testBit b = true
    · exact .inr (h h2)
    · exact .inl (by simpa using h2)
theorem testBit_top (k C b:Nat) (h:C < 2 ^ k):(2 ^ k + C).testBit b = (decide (b = k) || C.testBit b):=by
  have:2 ^ k + C = 2 ^ k ||| C:=by
    have:=Nat.two_pow_add_eq_or_of_lt h 1
    simpa using this
  rw [this,Nat.testBit_or,testBit_one]
  congr 1
  rw [Bool.eq_iff_iff];simp only [decide_eq_true_eq];exact eq_comm
theorem zP_map_zero (k:Nat):∀ L:List Nat,(∀ C ∈ L,C < 2 ^ k) → zP m f 0 (L.map (2 ^ k + ·)) = 0:=by
  intro L
  induction L with
  | nil=>intro _;rfl
  | cons C L ih =>
    intro h
    have:=ih (fun C hC=>h C (List.mem_cons_of_mem _ hC))
    simp only [zP,List.map_cons,List.sum_cons,List.map_map] at this ⊢
    rw [this,pcP_top k C (h C List.mem_cons_self),if_neg (by omega)]
    rfl
theorem zP_map_succ (k n:Nat):∀ L:List Nat,(∀ C ∈ L,C < 2 ^ k) → zP m f (n + 1) (L.map (2 ^ k + ·)) = - zP m f n L:=by
  intro L
  induction L with
  | nil=>intro _;rfl
  | cons C L ih =>
    intro h
    have:=ih (fun C hC=>h C (List.mem_cons_of_mem _ hC))
    simp only [zP,List.map_cons,List.sum_cons,List.map_map] at this ⊢
    rw [this]
    simp only [sgnP]
    rw [pcP_top k C (h C List.mem_cons_self),show n + 1 - (pcP C + 1) = n - pcP C by omega]
    by_cases g:pcP C ≤ n
    · rw [if_pos g,if_pos (by omega)]
      have e:(1 - 2 * (((pcP C + 1) % 2:Nat):Int)) = - (1 - 2 * ((pcP C % 2:Nat):Int)):=by omega
      rw [e,Int.neg_mul]
      omega
    · rw [if_neg g,if_neg (by omega)]
      omega
theorem zP_eq (hs:∀ a b,f a b = f b a) (hr:∀ a,a < m → f a a = true):∀ k,k ≤ m → ∀ (n:Nat) (p:Nat → Bool),zP m f n ((List.range (2 ^ k)).filter (inP m f k p)) = (aP m f n fun b=>p b && decide (b < k):Nat):=by
  intro k
  induction k with
  | zero =>
    intro _ n p
    have e:(List.range (2 ^ 0)).filter (inP m f 0 p) = [0]:=by
      simp [List.range_succ,inP,stepP]
    rw [e]
    have e2:aP m f n (fun b=>p b && decide (b < 0)) = nP m f n:=aP_congr m f n (fun b _=>by simp)
    rw [e2]
    simp [zP,pcP_zero,sgnP]
  | succ k ih =>
    intro hk n p
    have e0:(2:Nat) ^ (k + 1) = 2 ^ k + 2 ^ k:=by rw [Nat.pow_succ];omega
    rw [e0,List.range_add,List.filter_append,zP_append,List.filter_map]
    have e1:(List.range (2 ^ k)).filter (inP m f (k + 1) p) = (List.range (2 ^ k)).filter (inP m f k p):=by
      refine List.filter_congr (fun C hC=>?_)
      have hC' := List.mem_range.1 hC
      rw [Bool.eq_iff_iff,inP_iff m f hr,inP_iff m f hr]
      refine and_congr_right (fun _=>⟨fun h b hb=>h b (by omega),fun h b hb h2=>?_⟩)
      by_cases e:b = k
      · subst e;rw [bit_of_lt hC' (Nat.le_refl _)] at h2;cases h2
      · exact h b (by omega) h2
    have e2:(List.range (2 ^ k)).filter (inP m f (k + 1) p ∘ (2 ^ k + ·)) = if p k = true then (List.range (2 ^ k)).filter (inP m f k fun b=>p b && !f k b) else []:=by
      by_cases hp:p k = true
      · rw [if_pos hp]
        refine List.filter_congr (fun C hC=>?_)
        have hC' := List.mem_range.1 hC
        simp only [Function.comp]
        rw [Bool.eq_iff_iff,inP_iff m f hr,inP_iff m f hr]
        simp only [testBit_top k C _ hC']
        constructor
        · rintro ⟨h1,h2⟩
          refine ⟨fun a b ha hb ga gb=>h1 a b ha hb (by simp [ga]) (by simp [gb]),fun b hb gb=>?_⟩
          have g1:=h2 b (by omega) (by simp [gb])
          have g2:=h1 k b (by omega) (by omega) (by simp) (by simp [gb]) (by omega)
          simp [g1,g2]
        · rintro ⟨h1,h2⟩
          have h2' : ∀ b,b < m → C.testBit b = true → f k b = false:=fun b hb gb=>by
            by_cases hbk:b < k
            · have:=h2 b hbk gb
              simp at this
              exact this.2
            · rw [bit_of_lt hC' (by omega)] at gb;cases gb
          refine ⟨fun a b ha hb ga gb hne=>?_,fun b hb gb=>?_⟩
          · by_cases hak:a = k
            · by_cases hbk:b = k
              · omega
              · subst hak
                exact h2' b hb (by simpa [hbk] using gb)
            · by_cases hbk:b = k
              · subst hbk
                rw [hs]
                exact h2' a ha (by simpa [hak] using ga)
              · exact h1 a b ha hb (by simpa [hak] using ga) (by simpa [hbk] using gb) hne
          · by_cases hbk:b = k
            · subst hbk;exact hp
            · have:=h2 b (by omega) (by simpa [hbk] using gb)
              simp at this
              exact this.1
      · rw [if_neg hp]
        refine List.filter_eq_nil_iff.2 (fun C hC=>?_)
        have hC' := List.mem_range.1 hC
        simp only [Function.comp]
        rw [inP_iff m f hr]
        rintro ⟨_,h2⟩
        exact hp (h2 k (by omega) (by rw [testBit_top k C _ hC'];simp))
    rw [e1,e2,ih (by omega)]
    by_cases hp:p k = true
    · rw [if_pos hp]
      have hlt:∀ C ∈ (List.range (2 ^ k)).filter (inP m f k fun b=>p b && !f k b),C < 2 ^ k:=fun C hC=>List.mem_range.1 (List.mem_filter.1 hC).1
      cases n with
      | zero =>
        rw [zP_map_zero m f k _ hlt]
        simp [aP]
      | succ n =>
        rw [zP_map_succ m f k n _ hlt,ih (by omega)]
        have hst:=aP_star m f hs hr n (fun b=>p b && decide (b < k)) k (by omega) (by simp)
        rw [hst]
        have c1:aP m f (n + 1) (fun b=>p b && decide (b < k) || decide (b = k)) = aP m f (n + 1) (fun b=>p b && decide (b < k + 1)):=aP_congr m f _ (fun b hb=>by
          by_cases hbk:b = k
          · subst hbk;simp [hp]
          · have:decide (b < k + 1) = decide (b < k):=by rw [Bool.eq_iff_iff];simp;omega
            simp [hbk,this])
        have c2:aP m f n (fun b=>p b && decide (b < k) && !f k b) = aP m f n (fun b=>(p b && !f k b) && decide (b < k)):=aP_congr m f _ (fun b hb=>by simp only [Bool.and_assoc,Bool.and_comm (!f k b)])
        rw [c1,c2]
        omega
    · rw [if_neg hp]
      have c3:aP m f n (fun b=>p b && decide (b < k)) = aP m f n (fun b=>p b && decide (b < k + 1)):=aP_congr m f _ (fun b hb=>by
        by_cases hbk:b = k
        · subst hbk;simp [hp]
        · have:decide (b < k + 1) = decide (b < k):=by rw [Bool.eq_iff_iff];simp;omega
          rw [this])
      rw [c3]
      simp [zP]
theorem zP_steps (hs:∀ a b,f a b = f b a) (hr:∀ a,a < m → f a a = true) (n:Nat):zP m f n (stepsP m f) = if n = 0 then 1 else 0:=by
  have e:stepsP m f = (List.range (2 ^ m)).filter (inP m f m fun _=>true):=by
    unfold stepsP
    refine List.filter_congr (fun C _=>?_)
    simp [inP]
  rw [e,zP_eq m f hs hr m (Nat.le_refl _)]
  cases n with
  | zero=>simp [aP]
  | succ n =>
    rw [aP_congr m f (n + 1) (q:=fun _=>true) (fun b hb=>by simp [hb]),aP_full]
    simp
theorem rd_addK (out:List Int) (k j:Nat):rd (addK out k) (j:Int) = if j = k then rd out (k:Int) + (1 - 2 * ((k % 2:Nat):Int)) else rd out (j:Int):=by
  rw [rd_nat,rd_nat,rd_nat]
  simp only [addK,List.getD_eq_getElem?_getD]
  by_cases h:j = k
  · subst h
    rw [if_pos rfl,List.getElem?_set_self (by simp;omega),rd_nat,List.getD_eq_getElem?_getD]
    simp only [Option.getD_some]
    omega
  · rw [if_neg h,List.getElem?_set_ne (by omega)]
    by_cases h1:j < out.length
    · rw [List.getElem?_append_left h1]
    · rw [List.getElem?_append_right (by omega),List.getElem?_eq_none (l:=out) (by omega),List.getElem?_replicate]
      split <;> rfl
def tN (p:List Int) (n:Nat):Nat → Int
  | 0=>0
  | J + 1=>tN p n J + rd p (J:Int) * (if J ≤ n then (nP m f (n - J):Int) else 0)
theorem tN_addK (out:List Int) (k n:Nat):∀ J,tN m f (addK out k) n J = tN m f out n J + if k < J then (if k ≤ n then (1 - 2 * ((k % 2:Nat):Int)) * (nP m f (n - k):Int) else 0) else 0:=by
  intro J
  induction J with
  | zero=>simp [tN]
  | succ J ih =>
    simp only [tN]
    rw [ih,rd_addK]
    by_cases h:J = k
    · subst h
      rw [if_pos rfl,if_neg (Nat.lt_irrefl J),if_pos (Nat.lt_succ_self J),Int.add_mul]
      by_cases g:J ≤ n
      · simp only [if_pos g]
        generalize rd out (J:Int) * _ = A;generalize (1 - _) * _ = B;omega
      · simp only [if_neg g];simp
    · rw [if_neg h]
      generalize rd out (J:Int) * _ = A
      by_cases g:k < J
      · rw [if_pos g,if_pos (show k < J + 1 by omega)]
        generalize (if k ≤ n then _ else _:Int) = B
        omega
      · rw [if_neg g,if_neg (show ¬ k < J + 1 by omega)];omega
theorem tN_fold (n J:Nat):∀ (ms:List Nat) (out:List Int),(∀ C ∈ ms,pcP C < J) → tN m f (ms.foldl (fun out C=>addK out (pcP C)) out) n J = tN m f out n J + zP m f n ms:=by
  intro ms
  induction ms with
  | nil=>intro out _;simp [zP]
  | cons C ms ih =>
    intro out h
    rw [List.foldl_cons,ih _ (fun C hC=>h C (List.mem_cons_of_mem _ hC)),tN_addK,if_pos (h C List.mem_cons_self)]
    simp only [zP,List.map_cons,List.sum_cons,sgnP]
    omega
theorem tN_nil (n:Nat):∀ J,tN m f [] n J = 0:=by
  intro J
  induction J with
  | zero=>rfl
  | succ J ih=>simp only [tN];rw [ih,rd_nat];simp
theorem tN_clique (hs:∀ a b,f a b = f b a) (hr:∀ a,a < m → f a a = true) (n:Nat):tN m f (cliqueP (stepsP m f)) n (m + 1) = if n = 0 then 1 else 0:=by
  unfold cliqueP
  rw [tN_fold m f n (m + 1) _ _ (fun C hC=>by have:=pcP_le m C (List.mem_range.1 (List.mem_filter.1 hC).1);omega),tN_nil,zP_steps m f hs hr]
  simp
theorem tN_more (p:List Int) (n:Nat):∀ J,p.length ≤ J ∨ n < J → ∀ d,tN m f p n (J + d) = tN m f p n J:=by
  intro J h d
  induction d with
  | zero=>rfl
  | succ d ih =>
    rw [show J + (d + 1) = J + d + 1 by omega]
    simp only [tN]
    rw [ih]
    by_cases g:J + d ≤ n
    · rw [rd_nat,List.getD_eq_getElem?_getD,List.getElem?_eq_none (by omega)]
      simp
    · rw [if_neg g];simp
theorem tN_psum (p q:List Int) (n:Nat) (hp:rd p ((0:Nat):Int) = 1) (hq:∀ i,i < n → rd q ((i:Nat):Int) = (nP m f i:Int)):∀ J,J ≤ n → tN m f p n (J + 1) = (nP m f n:Int) + psum p q n J:=by
  intro J
  induction J with
  | zero=>intro _;simp only [tN,psum,hp];simp
  | succ J ih =>
    intro h
    rw [tN,ih (by omega),psum,if_pos h,hq _ (by omega)]
    omega
theorem clique_zero (hs:∀ a b,f a b = f b a) (hr:∀ a,a < m → f a a = true):rd (cliqueP (stepsP m f)) ((0:Nat):Int) = 1:=by
  have h:=tN_clique m f hs hr 0
  have:=tN_more m f (cliqueP (stepsP m f)) 0 1 (.inr (by omega)) m
  rw [Nat.add_comm 1 m] at this
  rw [this] at h
  simpa [tN,nP_zero] using h
def nList (k:Nat):List Int:=(List.range k).map fun i=>(nP m f i:Int)
theorem rd_nList (k i:Nat) (h:i < k):rd (nList m f k) (i:Int) = (nP m f i:Int):=by
  rw [rd_lt _ _ (by simpa [nList] using h)];simp [nList]
theorem nList_succ (k:Nat):nList m f (k + 1) = nList m f k ++ [(nP m f k:Int)]:=by simp [nList,List.range_succ]
theorem nextInv_nP (hs:∀ a b,f a b = f b a) (hr:∀ a,a < m → f a a = true) (k:Nat) (hk:1 ≤ k):nextInv (cliqueP (stepsP m f)) (nList m f k) = (nP m f k:Int):=by
  have hl:(nList m f k).length = k:=by simp [nList]
  unfold nextInv
  rw [hl]
  have h0:=clique_zero m f hs hr
  have hlen:1 ≤ (cliqueP (stepsP m f)).length:=by
    by_cases g:(cliqueP (stepsP m f)).length = 0
    · rw [rd_nat,List.eq_nil_of_length_eq_zero g] at h0;simp at h0
    · omega
  have e:=tN_psum m f (cliqueP (stepsP m f)) (nList m f k) k h0 (fun i hi=>rd_nList m f k i hi) (min k ((cliqueP (stepsP m f)).length - 1)) (by omega)
  have c:=tN_clique m f hs hr k
  rw [if_neg (by omega)] at c
  have a:=tN_more m f (cliqueP (stepsP m f)) k (min k ((cliqueP (stepsP m f)).length - 1) + 1) (by omega) (m + 1)
  have b:=tN_more m f (cliqueP (stepsP m f)) k (m + 1) (by
    by_cases g:(cliqueP (stepsP m f)).length ≤ m + 1
    · exact .inl g
    · exfalso
      have:∀ (ms:List Nat) (out:List Int),out.length ≤ m + 1 → (∀ C ∈ ms,pcP C ≤ m) → (ms.foldl (fun out C=>addK out (pcP C)) out).length ≤ m + 1:=by
        intro ms
        induction ms with
        | nil=>intro out h _;exact h
        | cons C ms ih=>intro out h h2;exact ih _ (by rw [addK_length];have:=h2 C List.mem_cons_self;omega) (fun C hC=>h2 C (List.mem_cons_of_mem _ hC))
      exact g (this (stepsP m f) [] (by simp) (fun C hC=>pcP_le m C (List.mem_range.1 (List.mem_filter.1 hC).1)))) (min k ((cliqueP (stepsP m f)).length - 1) + 1)
  rw [Nat.add_comm (m + 1)] at b
  rw [e] at a
  rw [c] at b
  omega
theorem invLoop_nP (hs : ∀ a b, f a b = f b a) (hr : ∀ a, a < m → f a a = true) : ∀ (d k : Nat), 1 ≤ k →
    ((∀ j,k ≤ j → j < k + d → (nP m f j:Int) ≤ MC) → invLoop (cliqueP (stepsP m f)) d (nList m f k) = (nList m f (k + d),0)) ∧
    ((∃ j,k ≤ j ∧ j < k + d ∧ MC < (nP m f j:Int)) → invLoop (cliqueP (stepsP m f)) d (nList m f k) = ([],3)):=by
  intro d
  induction d with
  | zero=>intro k _;exact ⟨fun _=>rfl,fun ⟨j,h1,h2,_⟩=>by omega⟩
  | succ d ih =>
    intro k hk
    obtain ⟨i1,i2⟩:=ih (k + 1) (by omega)
    rw [nList_succ] at i1 i2
    have hpos:-MC ≤ (nP m f k:Int):=by unfold MC;omega
    constructor
    · intro h
      simp only [invLoop]
      rw [nextInv_nP m f hs hr k hk,if_pos ⟨hpos,h k (by omega) (by omega)⟩,i1 (fun j h1 h2=>h j (by omega) (by omega))]
      rw [show k + 1 + d = k + (d + 1) by omega]
    · rintro ⟨j,h1,h2,h3⟩
      simp only [invLoop]
      rw [nextInv_nP m f hs hr k hk]
      by_cases g:(nP m f k:Int) ≤ MC
      · rw [if_pos ⟨hpos,g⟩]
        refine i2 ⟨j,?_,by omega,h3⟩
        by_cases e:j = k
        · subst e;omega
        · omega
      · rw [if_neg (fun h=>g h.2)]
end
end Go.Proofs.YtemdfjdmokbcoaaGreatDoor.Q
