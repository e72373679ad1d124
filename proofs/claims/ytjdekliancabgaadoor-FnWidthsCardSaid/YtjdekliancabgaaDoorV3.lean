import Derived.Test.YtjdekliancabgaaDoorPAllx11
import Derived.Test.YtjdekliancabgaaDoorPAllx12
import Derived.Test.YtjdekliancabgaaDoorPAllx13
import Derived.Test.YtjdekliancabgaaDoorPAllx14
import Derived.Test.YtjdekliancabgaaDoorPAllx2
import Derived.Test.YtjdekliancabgaaDoorPAllx3
import Derived.Test.YtjdekliancabgaaDoorPAllx6
import Derived.Test.YtjdekliancabgaaDoorV0
import Derived.Test.YtjdekliancabgaaDoorV1
import Derived.Test.YtjdekliancabgaaDoorQBase
import Derived.Test.YtjdekliancabgaaDoorQDraw
import Derived.Test.YtjdekliancabgaaDoorQFoata
import Derived.Test.YtjdekliancabgaaDoorQMap
import Derived.Test.YtjdekliancabgaaDoorQMask
import Derived.Test.YtjdekliancabgaaDoorQMeet
import Derived.Test.YtjdekliancabgaaDoorQOrder
import Derived.Test.YtjdekliancabgaaDoorQRev
import Derived.Test.YtjdekliancabgaaDoorQTab
import Derived.Test.YtjdekliancabgaaDoorQTrace
import Derived.Test.YtjdekliancabgaaDoorQWide
set_option linter.unusedVariables false
set_option linter.unusedSimpArgs false
namespace Go.Proofs.YtjdekliancabgaaDoor.PAll
open Go.RowKit Go.Proofs.YtjdekliancabgaaDoorW.PrintWords Go.Proofs.YtjdekliancabgaaDoorW.PrintMore Go.Proofs.YtjdekliancabgaaDoor.Q
theorem l03Word_l0 (n:Int) (hn:0 ≤ n ∧ n ≤ 8) (w:List Int) (hw:w.length ≤ 24):∀ (d i:Nat),i + d = w.length → (∀ j (h:j < w.length),j < i → 0 ≤ w[j] ∧ w[j] ≤ n - 1) → Ev (fun k=>spec_l03Word.l0 k n w i) (decide (Word n w)):=by
  intro d
  induction d with
  | zero =>
    intro i hi hp
    refine Ev.succ ?_
    simp only [spec_l03Word.l0]
    refine Ev.neg (by omega) (Ev.const ?_)
    have hW:Word n w:=⟨hw,fun x hx=>by obtain ⟨j,hj,rfl⟩:=List.getElem_of_mem hx;exact hp j hj (by omega)⟩
    rw [decide_eq_true hW]
  | succ d ih =>
    intro i hi hp
    refine Ev.succ ?_
    simp only [spec_l03Word.l0,l01In_eq]
    refine Ev.pos (by omega) (Ev.pos (by omega) (Ev.some_bind ?_))
    rw [rd_lt w i (by omega),w64' (show -9000000000000000000 ≤ n - 1 ∧ n - 1 ≤ 9000000000000000000 by omega)]
    simp only [decide_eq_true_eq]
    refine Ev.ite (fun c=>?_) (fun c=>?_)
    · rw [w64' (by omega)]
      refine ih (i + 1) (by omega) (fun j h hji=>?_)
      by_cases e:j = i
      · subst e;exact c
      · exact hp j h (by omega)
    · refine Ev.const ?_
      rw [decide_eq_false fun h=>c (h.2 _ (List.getElem_mem (by omega)))]
theorem l03Word_ev (n:Int) (hn:0 ≤ n ∧ n ≤ 8) (w:List Int):Ev (fun k=>spec_l03Word.f k n w) (decide (Word n w)):=by
  simp only [spec_l03Word.f]
  refine Ev.ite (fun c=>Ev.const ?_) (fun c=>?_)
  · rw [decide_eq_false fun h=>by have:=h.1;omega]
  · exact l03Word_l0 n hn w (by omega) w.length 0 (by omega) (by intro j h hj;omega)
theorem l03Code_ev (n:Int) (D u v:List Int):Ev (fun k=>spec_l03Code.f k n D u v) (if Alpha n D then (if Word n u ∧ Word n v then 0 else 2) else 1):=by
  simp only [spec_l03Code.f]
  refine Ev.bind (l02Is_ev n D) ?_
  simp only [decide_eq_true_eq]
  refine Ev.ite (fun c=>?_) (fun c=>Ev.const (by rw [if_neg c]))
  rw [if_pos c]
  refine Ev.bind (l03Word_ev n c.1 u) ?_
  simp only [decide_eq_true_eq]
  refine Ev.ite (fun c1=>?_) (fun c1=>Ev.const (by rw [if_neg fun h=>c1 h.1]))
  refine Ev.bind (l03Word_ev n c.1 v) ?_
  simp only [decide_eq_true_eq]
  refine Ev.ite (fun c2=>Ev.const (by rw [if_pos ⟨c1,c2⟩])) (fun c2=>Ev.const (by rw [if_neg fun h=>c2 h.2]))
theorem wordB_eq (n:Int) (hn:0 ≤ n ∧ n ≤ 8) (w:List Int):wordB n w = decide (Word n w):=by
  unfold wordB
  rw [Bool.eq_iff_iff,w64' (by omega)]
  rw [decide_eq_true_iff]
  simp [Word,List.all_eq_true]
theorem checkWords_ev (n:Int) (D:List Int) (ws:List (List Int)):Ev (fun k=>impl_checkWords.f k n D ws) (if Alpha n D then (if ∀ w ∈ ws,Word n w then 0 else 2) else 1):=by
  simp only [impl_checkWords.f]
  refine Ev.bind (IsAlphabet_ev n D) (Ev.const ?_)
  congr 1
  by_cases h:Alpha n D
  · rw [if_pos (by simpa using h),if_pos h]
    by_cases g:∀ w ∈ ws,Word n w
    · rw [if_pos g,if_pos]
      rw [List.all_eq_true]
      exact fun w hw=>by rw [wordB_eq n h.1];simpa using g w hw
    · rw [if_neg g,if_neg]
      rw [List.all_eq_true]
      exact fun k=>g fun w hw=>by have:=k w hw;rw [wordB_eq n h.1] at this;simpa using this
  · rw [if_neg (by simpa using h),if_neg h]
theorem foata_ev (n:Nat) (hn:n ≤ 8) (f:Nat → Nat → Bool) (hs:∀ a b,f a b = f b a) (w:List Nat) (hl:w.length ≤ 10000) (hw:∀ x ∈ w,x < n):Ev (fun k=>impl_ties_foata.f k (mat n f) (ints w)) (ints (foataP f w)):=by
  simp only [impl_ties_foata.f]
  have outer:∀ (d i:Nat),i + d = w.length → Ev (fun k=>impl_ties_foata.l0 k (mat n f) (ints (stp f w i)) (ints w) (w.length:Int) (i:Int)) (ints (foataP f w)):=by
    intro d
    induction d with
    | zero =>
      intro i hi
      refine Ev.succ ?_
      simp only [impl_ties_foata.l0]
      refine Ev.neg (by omega) (Ev.const ?_)
      rw [foataP,show i = w.length by omega]
    | succ d ih =>
      intro i hi
      refine Ev.succ ?_
      simp only [impl_ties_foata.l0]
      refine Ev.pos (by omega) (Ev.pos (by omega) (Ev.pos (by simp;omega) ?_))
      have hx:=getD_lt hw (show i < w.length by omega)
      have hlen:=stp_length_le f w i
      have hbd:=stp_lt f w n hw i (by omega)
      have hstp:stp f w (i + 1) = stepF (stp f w i) (hPart f w (hts f w i) i i) (w.getD i 0):=by simp only [stp];rw [hts_last]
      have seen:=height_seen f w hs n hw i (by omega)
      have ih' := ih (i + 1) (by omega)
      have h1:(2:Nat) ^ n ≤ 2 ^ 24:=pow24 (by omega)
      have h2:(2:Nat) ^ (w.getD i 0) ≤ 2 ^ 24:=pow24 (by omega)
      have hm:=mk_lt n (f (w.getD i 0))
      rw [rd_getD]
      -- from place l on nothing meets; what follows at l
      have fin:∀ l,l ≤ (stp f w i).length → hPart f w (hts f w i) i i = l + 1 → Ev (fun k=>if (l:Int) = ((ints (stp f w i)).length:Int) then (if (ints (stp f w i)).length < 17592186044416 then ((some (ints (stp f w i) ++ [0]:List Int)).bind fun y=>(if 0 ≤ (l:Int) then (if (l:Int) < (y.length:Int) then ((impl_one.f ((w.getD i 0:Nat):Int)).bind fun t=>(impl_ties_foata.l0 k (mat n f) (y.set ((l:Int):Int).toNat (Go.bits .or .i64 (rd y (l:Int)) t)) (ints w) (w.length:Int) (wrap64 ((i:Int) + 1)))) else none) else none)) else none) else (if 0 ≤ (l:Int) then (if (l:Int) < ((ints (stp f w i)).length:Int) then ((impl_one.f ((w.getD i 0:Nat):Int)).bind fun t=>(impl_ties_foata.l0 k (mat n f) ((ints (stp f w i)).set ((l:Int):Int).toNat (Go.bits .or .i64 (rd (ints (stp f w i)) (l:Int)) t)) (ints w) (w.length:Int) (wrap64 ((i:Int) + 1)))) else none) else none)) (ints (foataP f w)):=by
        intro l hl hh
        rw [hstp,hh] at ih'
        simp only [stepF,Nat.add_sub_cancel] at ih'
        rw [one_eq _ (by omega)]
        refine Ev.ite (fun c=>?_) (fun c=>?_)
        · have el:l = (stp f w i).length:=by rw [ints_length] at c;omega
          refine Ev.pos (by simp;omega) (Ev.some_bind (Ev.pos (by omega) (Ev.pos (by simp;omega) (Ev.some_bind ?_))))
          have e0:ints (stp f w i) ++ [0] = ints (stp f w i ++ [0]):=by rw [ints_append];rfl
          rw [e0,rd_getD,w64' (by omega),Int.toNat_natCast]
          have hz:(stp f w i ++ [0]).getD l 0 = 0:=by subst el;simp [List.getD_eq_getElem?_getD]
          rw [hz,b_or _ _ (by decide) (by omega),show (ints (stp f w i ++ [0])).set l (((0 ||| 2 ^ (w.getD i 0):Nat)):Int) = ints ((stp f w i ++ [0]).set l (0 ||| 2 ^ (w.getD i 0))) by simp [ints,List.map_set]]
          rw [show l + 1 - (stp f w i).length = 1 by omega,show List.replicate 1 0 = [0] from rfl,hz] at ih'
          exact ih'
        · have el : l < (stp f w i).length := by
            rw [ints_length] at c;omega
          refine Ev.pos (by omega) (Ev.pos (by simp;omega) (Ev.some_bind ?_))
          have hb:=hbd l
          rw [rd_getD,w64' (by omega),Int.toNat_natCast,b_or _ _ (by omega) (by omega),show (ints (stp f w i)).set l ((((stp f w i).getD l 0 ||| 2 ^ (w.getD i 0):Nat)):Int) = ints ((stp f w i).set l ((stp f w i).getD l 0 ||| 2 ^ (w.getD i 0))) by simp [ints,List.map_set]]
          rw [show l + 1 - (stp f w i).length = 0 by omega,List.replicate_zero,List.append_nil] at ih'
          exact ih'
      have inner:∀ l,l ≤ (stp f w i).length → (∀ s,l ≤ s → s < (stp f w i).length → (stp f w i).getD s 0 &&& mk n (f (w.getD i 0)) = 0) → Ev (fun k=>impl_ties_foata.l1 k (mat n f) (ints (stp f w i)) ((w.getD i 0:Nat):Int) (l:Int) (ints w) (w.length:Int) (i:Int)) (ints (foataP f w)):=by
        intro l
        induction l with
        | zero =>
          intro hl hz
          refine Ev.succ ?_
          simp only [impl_ties_foata.l1]
          refine Ev.neg (by omega) ?_
          exact fin 0 hl (seen 0 hl (.inl rfl) hz)
        | succ l ihl =>
          intro hl hz
          refine Ev.succ ?_
          simp only [impl_ties_foata.l1]
          have e1:wrap64 (((l + 1:Nat):Int) - 1) = (l:Int):=(w64' (by omega)).trans (by omega)
          rw [e1]
          refine Ev.pos (by omega) (Ev.pos (by omega) (Ev.pos (by rw [ints_length];omega) (Ev.pos (by omega) (Ev.pos (by rw [mat_length];omega) ?_))))
          have hb:=hbd l
          rw [rd_getD (stp f w i) l,rd_mat n f _ hx,b_and _ _ (by omega) (by omega)]
          refine Ev.ite (fun c=>?_) (fun c=>?_)
          · refine ihl (by omega) (fun s h3 h4=>?_)
            by_cases e:s = l
            · subst e;exact Int.ofNat.inj c
            · exact hz s (by omega) h4
          · exact fin (l + 1) hl (seen (l + 1) hl (.inr (fun h=>c (by rw [Nat.add_sub_cancel] at h;rw [h];rfl))) hz)
      have:=inner (stp f w i).length (Nat.le_refl _) (by intro s h3 h4;omega)
      rw [← ints_length (stp f w i)] at this
      exact this
  have:=outer w.length 0 (by omega)
  rw [ints_length]
  exact this
theorem l01Own_eq (l:List Int) (h:l.length < 17592186044416):spec_l01Own.f l = some l:=by
  unfold spec_l01Own.f
  simp only [Option.bind_some,List.length_nil,List.nil_append]
  rw [if_pos (by omega)]
theorem l03First_l0 (n : Nat) (hn : n ≤ 24) (f : Nat → Nat → Bool) (a : Nat) (ha : a < n) : ∀ (suf pre : List Nat), (pre ++ suf).length ≤ 1000000 → (∀ x ∈ pre ++ suf, x < n) →
    Ev (fun k=>spec_l03First.l0 k (ints (pre ++ suf)) (a:Int) (pre.length:Int) (n:Int) (mat n f)) (if isFirst f suf a = true then ((pre.length + suf.idxOf a:Nat):Int) else -1):=by
  intro suf
  induction suf with
  | nil =>
    intro pre hl hw
    refine Ev.succ ?_
    simp only [spec_l03First.l0]
    exact Ev.neg (by simp) (Ev.const rfl)
  | cons b suf ih =>
    intro pre hl hw
    simp only [List.length_append,List.length_cons] at hl
    have hb:b < n:=mem_mid hw
    refine Ev.succ ?_
    simp only [spec_l03First.l0]
    refine Ev.pos (by simp;omega) (Ev.pos (by omega) ?_)
    rw [rd_mid]
    refine Ev.ite (fun c=>?_) (fun c=>?_)
    · obtain rfl:=Int.ofNat.inj c
      refine Ev.const ?_
      rw [if_pos (isFirst_head f b suf)]
      simp
    · have c' : ¬ b = a:=fun e=>c (by rw [e])
      rw [l02Dep_eq n hn f _ b a hb ha]
      refine Ev.some_bind (Ev.ite (fun g=>?_) (fun g=>?_))
      · refine Ev.const ?_
        rw [if_neg (by simp [isFirst,c', g])]
      · rw [w64' (by omega)]
        have:=ih (pre ++ [b]) (by simp;omega) (by simpa using hw)
        simp only [List.append_assoc,List.cons_append,List.nil_append,List.length_append,List.length_cons,List.length_nil] at this
        refine Ev.val this ?_
        have e1:isFirst f (b :: suf) a = isFirst f suf a:=by simp [isFirst,c', g]
        rw [e1,idxOf_tail _ c']
        by_cases h:isFirst f suf a = true
        · rw [if_pos h,if_pos h]
          congr 1
          omega
        · rw [if_neg h,if_neg h]
theorem l03First_ev (n:Nat) (hn:n ≤ 24) (f:Nat → Nat → Bool) (w:List Nat) (hl:w.length ≤ 1000000) (hw:∀ x ∈ w,x < n) (a:Nat) (ha:a < n):Ev (fun k=>spec_l03First.f k (n:Int) (mat n f) (ints w) (a:Int)) (fIdx f w a):=by
  simp only [spec_l03First.f]
  have:=l03First_l0 n hn f a ha w [] hl hw
  simpa [fIdx] using this
theorem l03Without_eq (w:List Nat) (hl:w.length ≤ 1000000) (i:Nat) (hi:i < w.length):spec_l03Without.f (ints w) (i:Int) = some (ints (w.eraseIdx i)):=by
  unfold spec_l03Without.f
  rw [if_pos (by omega),if_pos (by simp;omega),w64' (by omega),Int.toNat_natCast,l01Own_eq _ (by simp;omega)]
  simp only [Option.bind_some]
  rw [if_pos (by omega),if_pos (by simp;omega),show ((i:Int) + 1).toNat = i + 1 by omega,if_pos (by simp;omega),← ints_eraseIdx,List.eraseIdx_eq_take_drop_succ]
theorem l03Without_first (f:Nat → Nat → Bool) (w:List Nat) (hl:w.length ≤ 1000000) (a:Nat) (h:isFirst f w a = true):spec_l03Without.f (ints w) (fIdx f w a) = some (ints (w.erase a)):=by
  have hm:=isFirst_mem f h
  unfold fIdx
  rw [if_pos h,l03Without_eq w hl _ (idxOf_lt hm),erase_idx hm]
theorem l03Normal_l0 (n : Nat) (hn : n ≤ 24) (f : Nat → Nat → Bool) : ∀ (L : Nat) (w : List Nat) (acc : List Int), w.length = L → acc.length + w.length ≤ 1000000 → (∀ x ∈ w, x < n) →
    Ev (fun k=>spec_l03Normal.l0 k acc (ints w) (n:Int) (mat n f)) (acc ++ ints (normalP f n w)):=by
  intro L
  induction L with
  | zero =>
    intro w acc hL hl hw
    obtain rfl:=List.eq_nil_of_length_eq_zero hL
    refine Ev.succ ?_
    simp only [spec_l03Normal.l0]
    refine Ev.neg (by simp [ints]) (Ev.const ?_)
    simp [normalP_nil,ints]
  | succ L ih =>
    intro w acc hL hl hw
    have hne:w ≠ []:=by rintro rfl;simp at hL
    obtain ⟨h1,h2,h3⟩:=least_first f hw hne
    rw [normalP_cons f hw hne]
    refine Ev.succ ?_
    simp only [spec_l03Normal.l0]
    refine Ev.pos (by simp;omega) ?_
    have inner:∀ (d a:Nat),a + d = leastF (isFirst f w) n → Ev (fun k=>spec_l03Normal.l1 k acc (ints w) (a:Int) (n:Int) (mat n f)) (acc ++ ints (leastF (isFirst f w) n :: normalP f n (w.erase (leastF (isFirst f w) n)))):=by
      intro d
      induction d with
      | zero =>
        intro a ha
        obtain rfl:a = leastF (isFirst f w) n:=by omega
        refine Ev.succ ?_
        simp only [spec_l03Normal.l1]
        refine Ev.pos (by omega) (Ev.bind (l03First_ev n hn f w (by omega) hw _ h1) (Ev.pos (by unfold fIdx;rw [if_pos h2];omega) (Ev.pos (by omega) ?_)))
        rw [l03Without_first f w (by omega) _ h2]
        refine Ev.some_bind ?_
        have he:=length_erase f h2
        refine Ev.val (ih _ _ (by omega) (by simp;omega) (erase_lt hw)) ?_
        rw [ints_cons]
        simp
      | succ d ihd =>
        intro a ha
        refine Ev.succ ?_
        simp only [spec_l03Normal.l1]
        refine Ev.pos (by omega) (Ev.bind (l03First_ev n hn f w (by omega) hw a (by omega)) (Ev.neg (by unfold fIdx;rw [h3 a (by omega)];simp) ?_))
        rw [w64' (by omega)]
        exact ihd (a + 1) (by omega)
    exact inner (leastF (isFirst f w) n) 0 (by omega)
theorem l03Normal_ev (n:Nat) (hn:n ≤ 24) (f:Nat → Nat → Bool) (w:List Nat) (hl:w.length ≤ 1000000) (hw:∀ x ∈ w,x < n):Ev (fun k=>spec_l03Normal.f k (n:Int) (mat n f) (ints w)) (ints (normalP f n w)):=by
  simp only [spec_l03Normal.f]
  rw [l01Own_eq _ (by simp;omega)]
  refine Ev.some_bind (Ev.val (l03Normal_l0 n hn f _ w [] rfl (by simpa using hl) hw) (by simp))
theorem Index_l0 (a : Nat) : ∀ (suf pre : List Nat), (pre ++ suf).length ≤ 1000000 →
    Ev (fun k=>slices_Index_int64_int64.l0 k (ints (pre ++ suf)) (a:Int) ((pre ++ suf).length:Int) (pre.length:Int)) (if a ∈ suf then ((pre.length + suf.idxOf a:Nat):Int) else -1):=by
  intro suf
  induction suf with
  | nil =>
    intro pre hl
    refine Ev.succ ?_
    simp only [slices_Index_int64_int64.l0]
    exact Ev.neg (by simp) (Ev.const rfl)
  | cons b suf ih =>
    intro pre hl
    simp only [List.length_append,List.length_cons] at hl
    refine Ev.succ ?_
    simp only [slices_Index_int64_int64.l0]
    refine Ev.pos (by simp;omega) (Ev.pos (by omega) (Ev.pos (by simp;omega) ?_))
    rw [rd_mid]
    refine Ev.ite (fun c=>?_) (fun c=>?_)
    · obtain rfl:=Int.ofNat.inj c
      refine Ev.const ?_
      simp
    · have c' : ¬ b = a:=fun e=>c (by rw [e])
      rw [w64' (by omega)]
      have:=ih (pre ++ [b]) (by simp;omega)
      simp only [List.append_assoc,List.cons_append,List.nil_append,List.length_append,List.length_cons,List.length_nil] at this ⊢
      refine Ev.val this ?_
      rw [idxOf_tail _ c']
      have e1:a ∈ b :: suf ↔ a ∈ suf:=by simp [List.mem_cons,show ¬ a = b from fun e=>c' e.symm]
      by_cases h:a ∈ suf
      · rw [if_pos h,if_pos (e1.2 h)]
        congr 1
        omega
      · rw [if_neg h,if_neg (fun k=>h (e1.1 k))]
theorem Index_ev (w:List Nat) (hl:w.length ≤ 1000000) (a:Nat):Ev (fun k=>slices_Index_int64_int64.f k (ints w) (a:Int)) (if a ∈ w then ((w.idxOf a:Nat):Int) else -1):=by
  simp only [slices_Index_int64_int64.f]
  have:=Index_l0 a w [] hl
  simpa using this
theorem withoutFirst_ev (w:List Nat) (hl:w.length ≤ 1000000) (a:Nat) (h:a ∈ w):Ev (fun k=>impl_withoutFirst.f k (ints w) (a:Int)) (ints (w.erase a)):=by
  simp only [impl_withoutFirst.f]
  have hi:=idxOf_lt h
  refine Ev.bind (Index_ev w hl a) ?_
  rw [if_pos h]
  refine Ev.pos (by omega) (Ev.pos (by simp;omega) ?_)
  rw [w64' (by omega)]
  refine Ev.pos (by omega) (Ev.pos (by simp;omega) ?_)
  rw [Int.toNat_natCast,show ((w.idxOf a:Int) + 1).toNat = w.idxOf a + 1 by omega]
  refine Ev.const ?_
  unfold slices_Concat_int64_int64.f
  rw [if_pos (by simp;omega),← erase_idx h,← ints_eraseIdx,List.eraseIdx_eq_take_drop_succ]
  simp
theorem isFirst_snoc (f:Nat → Nat → Bool) (w:List Nat) (x a:Nat):isFirst f (w ++ [x]) a = (isFirst f w a || (decide (x = a) && w.all fun b=>!f b a)):=by
  induction w with
  | nil=>simp [isFirst]
  | cons b w ih =>
    simp only [List.cons_append,isFirst,ih,List.all_cons]
    cases decide (b = a) <;> cases f b a <;> cases isFirst f w a <;> simp
theorem firsts_l0 (n : Nat) (hn : n ≤ 8) (f : Nat → Nat → Bool) : ∀ (suf pre : List Nat), (pre ++ suf).length ≤ 1000000 → (∀ x ∈ pre ++ suf, x < n) →
    Ev (fun k=>impl_ties_firsts.l0 k (mat n f) ((mk n (isFirst f pre):Nat):Int) ((mk n (fun a=>pre.any fun b=>f b a):Nat):Int) (ints (pre ++ suf)) ((pre ++ suf).length:Int) (pre.length:Int)) ((mk n (isFirst f (pre ++ suf)):Nat):Int):=by
  intro suf
  induction suf with
  | nil =>
    intro pre hl hw
    refine Ev.succ ?_
    simp only [impl_ties_firsts.l0]
    exact Ev.neg (by simp) (Ev.const (by simp))
  | cons x suf ih =>
    intro pre hl hw
    have hx:x < n:=mem_mid hw
    have i1:=ih (pre ++ [x]) (by simpa using hl) (by simpa using hw)
    simp only [List.append_assoc,List.cons_append,List.nil_append] at i1
    rw [show (pre ++ [x]).length = pre.length + 1 by simp] at i1
    have hl' : pre.length + suf.length + 1 ≤ 1000000:=by simpa [Nat.add_assoc] using hl
    have h1:=mk_lt n (isFirst f pre)
    have h2:=mk_lt n (fun a=>pre.any fun b=>f b a)
    have h3:=mk_lt n (f x)
    have h4:(2:Nat) ^ n ≤ 2 ^ 24:=pow24 (by omega)
    have h5:(2:Nat) ^ x ≤ 2 ^ 24:=pow24 (by omega)
    have eb:mk n (fun a=>(pre ++ [x]).any fun b=>f b a) = mk n (fun a=>pre.any fun b=>f b a) ||| mk n (f x):=bits_ext fun i=>by
      rw [Nat.testBit_or,testBit_mk,testBit_mk,testBit_mk]
      by_cases hi:i < n <;> simp [hi]
    rw [eb] at i1
    refine Ev.succ ?_
    simp only [impl_ties_firsts.l0]
    refine Ev.pos (by simp;omega) (Ev.pos (by omega) (Ev.pos (by simp;omega) ?_))
    rw [rd_mid,has_eq _ x (by omega) (by omega),rd_mat n f x hx,b_or _ _ (by omega) (by omega),testBit_mk]
    refine Ev.some_bind (Ev.ite (fun g=>?_) (fun g=>?_))
    · refine Ev.pos (by omega) (Ev.pos (by simp;omega) ?_)
      rw [w64' (by omega)]
      have eo:mk n (isFirst f (pre ++ [x])) = mk n (isFirst f pre):=mk_congr fun a _=>by
        rw [isFirst_snoc]
        by_cases e:x = a
        · subst e
          have:(pre.all fun b=>!f b x) = false:=by
            rw [← Bool.not_eq_true]
            simp [hx] at g
            obtain ⟨b,hb,hf⟩:=g
            intro h
            have:=List.all_eq_true.1 h b hb
            simp [hf] at this
          rw [this];simp
        · simp [e]
      rw [eo] at i1
      exact i1
    · rw [one_eq x (by omega)]
      refine Ev.some_bind (Ev.pos (by omega) (Ev.pos (by simp;omega) ?_))
      rw [w64' (by omega),b_or _ _ (by omega) (by omega)]
      have eo:mk n (isFirst f (pre ++ [x])) = mk n (isFirst f pre) ||| 2 ^ x:=bits_ext fun i=>by
        rw [Nat.testBit_or,testBit_mk,testBit_mk,testBit_one,isFirst_snoc]
        by_cases e:x = i
        · subst e
          have:(pre.all fun b=>!f b x) = true:=by
            rw [List.all_eq_true]
            intro b hb
            simp only [hx,decide_true,Bool.true_and] at g
            have:=fun h=>g (List.any_eq_true.2 ⟨b,hb,h⟩)
            simpa using this
          simp [hx,this]
        · simp [e]
      rw [eo] at i1
      exact i1
theorem firsts_ev (n:Nat) (hn:n ≤ 8) (f:Nat → Nat → Bool) (w:List Nat) (hl:w.length ≤ 1000000) (hw:∀ x ∈ w,x < n):Ev (fun k=>impl_ties_firsts.f k (mat n f) (ints w)) ((mk n (isFirst f w):Nat):Int):=by
  simp only [impl_ties_firsts.f]
  have:=firsts_l0 n hn f w [] hl hw
  have e1:mk n (isFirst f []) = 0:=Nat.eq_of_testBit_eq fun i=>by rw [testBit_mk];simp [isFirst]
  have e2:mk n (fun a=>([]:List Nat).any fun b=>f b a) = 0:=Nat.eq_of_testBit_eq fun i=>by rw [testBit_mk];simp
  rw [e1,e2] at this
  simpa using this
theorem normal_l0 (n : Nat) (hn : n ≤ 8) (f : Nat → Nat → Bool) : ∀ (L : Nat) (w : List Nat) (acc : List Int), w.length = L → acc.length + w.length ≤ 1000000 → (∀ x ∈ w, x < n) →
    Ev (fun k=>impl_ties_normal.l0 k (mat n f) acc (ints w)) (acc ++ ints (normalP f n w)):=by
  intro L
  induction L with
  | zero =>
    intro w acc hL hl hw
    obtain rfl:=List.eq_nil_of_length_eq_zero hL
    refine Ev.succ ?_
    simp only [impl_ties_normal.l0]
    refine Ev.neg (by simp [ints]) (Ev.const ?_)
    simp [normalP_nil,ints]
  | succ L ih =>
    intro w acc hL hl hw
    have hne:w ≠ []:=by rintro rfl;simp at hL
    obtain ⟨h1,h2,h3⟩:=least_first f hw hne
    rw [normalP_cons f hw hne]
    have h4:=mk_lt n (isFirst f w)
    have h5:(2:Nat) ^ n ≤ 2 ^ 24:=pow24 (by omega)
    refine Ev.succ ?_
    simp only [impl_ties_normal.l0]
    refine Ev.pos (by simp;omega) (Ev.bind (firsts_ev n hn f w (by omega) hw) ?_)
    rw [least_eq _ (by omega),ctz_mk (by omega) ⟨_,h1,h2⟩]
    refine Ev.some_bind (Ev.pos (by omega) (Ev.bind (withoutFirst_ev w (by omega) _ (isFirst_mem f h2)) ?_))
    have he:=length_erase f h2
    refine Ev.val (ih _ _ (by omega) (by simp;omega) (erase_lt hw)) ?_
    rw [ints_cons]
    simp
theorem normal_ev (n:Nat) (hn:n ≤ 8) (f:Nat → Nat → Bool) (w:List Nat) (hl:w.length ≤ 1000000) (hw:∀ x ∈ w,x < n):Ev (fun k=>impl_ties_normal.f k (mat n f) (ints w)) (ints (normalP f n w)):=by
  simp only [impl_ties_normal.f]
  refine Ev.pos (by omega) (Ev.pos (by simp;omega) (Ev.val (normal_l0 n hn f _ w [] rfl (by simpa using hl) hw) (by simp)))
theorem closure_l2 (n : Nat) (hn : n ≤ 24) (g : Nat → Nat → Bool) (p : Nat) (hp : p < n) (R : List Int) (hR : Ev (fun k => impl_closure.l1 k (mat n fun i k => g i k || (g i p && g p k)) (n : Int) ((p + 1 : Nat) : Int)) R) :
    ∀ (d i:Nat),i + d = n → Ev (fun k=>impl_closure.l2 k (mat n fun a b=>if a < i then g a b || (g a p && g p b) else g a b) (p:Int) (n:Int) (p:Int) (n:Int) (i:Int)) R:=by
  intro d
  induction d with
  | zero =>
    intro i hi
    refine Ev.succ ?_
    simp only [impl_closure.l2]
    refine Ev.neg (by omega) ?_
    rw [w64' (by omega)]
    have e:mat n (fun a b=>if a < i then g a b || (g a p && g p b) else g a b) = mat n fun a b=>g a b || (g a p && g p b):=mat_congr fun a b ha _=>by rw [if_pos (by omega)]
    rw [e]
    exact hR
  | succ d ih =>
    intro i hi
    have h24:=pow_lt62 hn
    have i1:=ih (i + 1) (by omega)
    refine Ev.succ ?_
    simp only [impl_closure.l2]
    refine Ev.pos (by omega) (Ev.pos (by omega) (Ev.pos (by simp;omega) ?_))
    rw [rd_mat n _ i (by omega)]
    have h1:=mk_lt n ((fun a b=>if a < i then g a b || (g a p && g p b) else g a b) i)
    have h2:=mk_lt n ((fun a b=>if a < i then g a b || (g a p && g p b) else g a b) p)
    rw [has_eq _ p (mk62 (by omega) _) (by omega),testBit_mk]
    refine Ev.some_bind ?_
    have row:(if i < i then g i p || (g i p && g p p) else g i p) = g i p:=if_neg (by omega)
    have hrow:∀ b,(if p < i then g p b || (g p p && g p b) else g p b) = g p b:=fun b=>by
      split
      · cases g p b <;> simp
      · rfl
    refine Ev.ite (fun c=>?_) (fun c=>?_)
    · have c' : g i p = true := by
        simp only [hp,decide_true,Bool.true_and] at c
        rw [← row];exact c
      refine Ev.pos (by omega) (Ev.pos (by simp;omega) ?_)
      rw [rd_mat n _ p hp,b_or _ _ (mk62 (by omega) _) (mk62 (by omega) _),mk_or,w64' (by omega),Int.toNat_natCast,mat_row n _ i (by omega)]
      have e:mat n (fun a b=>if a = i then ((if i < i then g i b || (g i p && g p b) else g i b) || if p < i then g p b || (g p p && g p b) else g p b) else if a < i then g a b || (g a p && g p b) else g a b) = mat n fun a b=>if a < i + 1 then g a b || (g a p && g p b) else g a b:=mat_congr fun a b ha hb=>by
        by_cases e:a = i
        · subst e
          rw [if_pos rfl,hrow,if_neg (Nat.lt_irrefl a),if_pos (Nat.lt_succ_self a),c']
          simp
        · rw [if_neg e]
          by_cases e2:a < i
          · rw [if_pos e2,if_pos (by omega)]
          · rw [if_neg e2,if_neg (by omega)]
      rw [e]
      exact i1
    · have c' : g i p = false := by
        simp only [hp,decide_true,Bool.true_and] at c
        rw [← row];simpa using c
      rw [w64' (by omega)]
      have e:mat n (fun a b=>if a < i then g a b || (g a p && g p b) else g a b) = mat n fun a b=>if a < i + 1 then g a b || (g a p && g p b) else g a b:=mat_congr fun a b ha hb=>by
        by_cases e:a = i
        · subst e
          rw [if_neg (by omega),if_pos (by omega),c']
          simp
        · by_cases e2:a < i
          · rw [if_pos e2,if_pos (by omega)]
          · rw [if_neg e2,if_neg (by omega)]
      rw [e]
      exact i1
theorem closure_l1 (n:Nat) (hn:n ≤ 24) (f:Nat → Nat → Bool):∀ (d p:Nat),p + d = n → Ev (fun k=>impl_closure.l1 k (mat n (wsh f p)) (n:Int) (p:Int)) (mat n (clos n f)):=by
  intro d
  induction d with
  | zero =>
    intro p hp
    obtain rfl:p = n:=by omega
    refine Ev.succ ?_
    simp only [impl_closure.l1]
    exact Ev.neg (by omega) (Ev.now _)
  | succ d ih =>
    intro p hp
    refine Ev.succ ?_
    simp only [impl_closure.l1]
    refine Ev.pos (by omega) ?_
    have:=closure_l2 n hn (wsh f p) p (by omega) _ (ih (p + 1) (by omega)) n 0 (by omega)
    have e:mat n (fun a b=>if a < 0 then wsh f p a b || (wsh f p a p && wsh f p p b) else wsh f p a b) = mat n (wsh f p):=mat_congr fun a b _ _=>if_neg (by omega)
    rw [e] at this
    rw [mat_length]
    exact this
theorem closure_ev (n:Nat) (hn:n ≤ 24) (f:Nat → Nat → Bool):Ev (fun k=>impl_closure.f k (mat n f)) (mat n (clos n f)):=by
  have h24:=pow_lt62 hn
  have loop:∀ (d i:Nat),i + d = n → Ev (fun k=>impl_closure.l0 k (mat n fun a b=>(decide (a = b) && decide (a < i)) || f a b) (n:Int) (i:Int)) (mat n (clos n f)):=by
    intro d
    induction d with
    | zero =>
      intro i hi
      obtain rfl:i = n:=by omega
      refine Ev.succ ?_
      simp only [impl_closure.l0]
      refine Ev.neg (by omega) ?_
      have:=closure_l1 i hn f i 0 (by omega)
      have e:mat i (fun a b=>(decide (a = b) && decide (a < i)) || f a b) = mat i (wsh f 0):=mat_congr fun a b ha _=>by simp [wsh,ha]
      rw [e,mat_length]
      exact this
    | succ d ih =>
      intro i hi
      have i1:=ih (i + 1) (by omega)
      have h1:=mk_lt n ((fun a b=>(decide (a = b) && decide (a < i)) || f a b) i)
      have h2:(2:Nat) ^ i ≤ 2 ^ 24:=pow24 (by omega)
      refine Ev.succ ?_
      simp only [impl_closure.l0]
      refine Ev.pos (by omega) (Ev.pos (by omega) (Ev.pos (by simp;omega) ?_))
      rw [one_eq i (by omega),rd_mat n _ i (by omega)]
      refine Ev.some_bind ?_
      rw [b_or _ _ (mk62 (by omega) _) (two62 (by omega)),mk_or_one n _ i (by omega),w64' (by omega),Int.toNat_natCast,mat_row n _ i (by omega)]
      have e:mat n (fun a b=>if a = i then (((decide (i = b) && decide (i < i)) || f i b) || decide (b = i)) else (decide (a = b) && decide (a < i)) || f a b) = mat n fun a b=>(decide (a = b) && decide (a < i + 1)) || f a b:=mat_congr fun a b ha hb=>by
        by_cases e:a = i
        · subst e
          rw [if_pos rfl]
          by_cases e2:a = b
          · subst e2;simp
          · simp [e2,show ¬ b = a from fun h=>e2 h.symm]
        · rw [if_neg e]
          by_cases e2:a < i
          · simp [e2,show a < i + 1 by omega]
          · simp [e2,show ¬ a < i + 1 by omega]
      rw [e]
      exact i1
  simp only [impl_closure.f]
  unfold slices_Clone_int64_int64.f
  rw [if_pos (by simp;omega)]
  refine Ev.some_bind ?_
  have:=loop n 0 (by omega)
  have e:mat n (fun a b=>(decide (a = b) && decide (a < 0)) || f a b) = mat n f:=mat_congr fun a b _ _=>by simp
  rw [e] at this
  rw [mat_length]
  exact this
theorem orderOf_ev (n:Nat) (hn:n ≤ 8) (f:Nat → Nat → Bool) (w:List Nat) (hl:w.length ≤ 24) (hw:∀ x ∈ w,x < n):Ev (fun k=>impl_ties_orderOf.f k (mat n f) (ints w)) (mat w.length (ordP f w)):=by
  have h24:=pow_lt62 hl
  have h8:=pow_lt62 (show n ≤ 24 by omega)
  have outer:∀ (d i:Nat),i + d = w.length → Ev (fun k=>impl_ties_orderOf.l0 k (mat n f) (ints w) (mat w.length fun a b=>decide (a < i) && eP f w a b) (ints w) (w.length:Int) (i:Int)) (mat w.length (ordP f w)):=by
    intro d
    induction d with
    | zero =>
      intro i hi
      refine Ev.succ ?_
      simp only [impl_ties_orderOf.l0]
      refine Ev.neg (by omega) ?_
      have e:mat w.length (fun a b=>decide (a < i) && eP f w a b) = mat w.length (eP f w):=mat_congr fun a b ha _=>by simp [show a < i by omega]
      rw [e]
      exact Ev.bind (closure_ev w.length hl (eP f w)) (Ev.now _)
    | succ d ih =>
      intro i hi
      have i1:=ih (i + 1) (by omega)
      have hx:=getD_lt hw (show i < w.length by omega)
      have inner:∀ (e k:Nat),k + e = w.length → i < k → Ev (fun q=>impl_ties_orderOf.l1 q (mat n f) (ints w) (mat w.length fun a b=>(decide (a < i) && eP f w a b) || (decide (a = i ∧ b < k) && eP f w a b)) (i:Int) ((w.getD i 0:Nat):Int) (k:Int) (ints w) (w.length:Int) (i:Int)) (mat w.length (ordP f w)):=by
        intro e
        induction e with
        | zero =>
          intro k hk hik
          refine Ev.succ ?_
          simp only [impl_ties_orderOf.l1]
          refine Ev.neg (by simp;omega) ?_
          rw [w64' (by omega)]
          have e:mat w.length (fun a b=>(decide (a < i) && eP f w a b) || (decide (a = i ∧ b < k) && eP f w a b)) = mat w.length fun a b=>decide (a < i + 1) && eP f w a b:=mat_congr fun a b ha hb=>by
            by_cases e1:a = i
            · subst e1;simp [show b < k by omega]
            · by_cases e2:a < i
              · simp [e1,e2,show a < i + 1 by omega]
              · simp [e1,e2,show ¬ a < i + 1 by omega]
          rw [e]
          exact i1
        | succ e ihe =>
          intro k hk hik
          have j1:=ihe (k + 1) (by omega) (by omega)
          have hy:=getD_lt hw (show k < w.length by omega)
          have h1:=mk_lt n (f (w.getD i 0))
          refine Ev.succ ?_
          simp only [impl_ties_orderOf.l1]
          refine Ev.pos (by simp;omega) (Ev.pos (by omega) (Ev.pos (by rw [mat_length];omega) (Ev.pos (by omega) ?_)))
          rw [rd_getD,rd_mat n f _ hx,has_eq _ _ (mk62 (by omega) _) (by omega),testBit_mk]
          have hee:eP f w i k = f (w.getD i 0) (w.getD k 0):=by simp [eP,hik,show k < w.length by omega]
          refine Ev.some_bind (Ev.ite (fun c=>?_) (fun c=>?_))
          · have c' : eP f w i k = true:=hee.trans (Bool.and_eq_true_iff.1 c).2
            have h2:=mk_lt w.length ((fun a b=>(decide (a < i) && eP f w a b) || (decide (a = i ∧ b < k) && eP f w a b)) i)
            have h3:(2:Nat) ^ k ≤ 2 ^ 24:=pow24 (by omega)
            refine Ev.pos (by omega) (Ev.pos (by simp;omega) ?_)
            rw [one_eq k (by omega),rd_mat w.length _ i (by omega),w64' (by omega)]
            refine Ev.some_bind ?_
            rw [b_or _ _ (mk62 (by omega) _) (two62 (by omega)),mk_or_one w.length _ k (by omega),Int.toNat_natCast,mat_row w.length _ i (by omega)]
            have e:mat w.length (fun a b=>if a = i then (((decide (i < i) && eP f w i b) || (decide (i = i ∧ b < k) && eP f w i b)) || decide (b = k)) else (decide (a < i) && eP f w a b) || (decide (a = i ∧ b < k) && eP f w a b)) = mat w.length fun a b=>(decide (a < i) && eP f w a b) || (decide (a = i ∧ b < k + 1) && eP f w a b):=mat_congr fun a b ha hb=>by
              by_cases e1:a = i
              · subst e1
                rw [if_pos rfl]
                by_cases e2:b = k
                · subst e2;simp [c']
                · by_cases e3:b < k
                  · simp [e2,e3,show b < k + 1 by omega]
                  · simp [e2,e3,show ¬ b < k + 1 by omega]
              · rw [if_neg e1];simp [e1]
            rw [e]
            exact j1
          · have c' : eP f w i k = false:=hee.trans (Bool.eq_false_iff.2 fun h=>c (by rw [h,decide_eq_true hy];rfl))
            rw [w64' (by omega)]
            have e:mat w.length (fun a b=>(decide (a < i) && eP f w a b) || (decide (a = i ∧ b < k) && eP f w a b)) = mat w.length fun a b=>(decide (a < i) && eP f w a b) || (decide (a = i ∧ b < k + 1) && eP f w a b):=mat_congr fun a b ha hb=>by
              by_cases e1:a = i
              · subst e1
                by_cases e2:b = k
                · subst e2;simp [c']
                · by_cases e3:b < k
                  · simp [e3,show b < k + 1 by omega]
                  · simp [e3,show ¬ b < k + 1 by omega]
              · simp [e1]
            rw [e]
            exact j1
      have:=inner (w.length - (i + 1)) (i + 1) (by omega) (by omega)
      have e:mat w.length (fun a b=>(decide (a < i) && eP f w a b) || (decide (a = i ∧ b < i + 1) && eP f w a b)) = mat w.length fun a b=>decide (a < i) && eP f w a b:=mat_congr fun a b ha hb=>by
        by_cases e1:a = i ∧ b < i + 1
        · have:eP f w a b = false:=by simp [eP];omega
          simp [this]
        · simp [e1]
      rw [e] at this
      refine Ev.succ ?_
      simp only [impl_ties_orderOf.l0]
      refine Ev.pos (by omega) (Ev.pos (by omega) (Ev.pos (by simp;omega) ?_))
      rw [rd_getD,w64' (by omega)]
      exact this
  simp only [impl_ties_orderOf.f]
  refine Ev.pos (by omega) (Ev.pos (by simp;omega) ?_)
  have:=outer w.length 0 (by omega)
  have e:mat w.length (fun a b=>decide (a < 0) && eP f w a b) = List.replicate w.length 0:=by
    apply List.ext_getElem
    · simp
    · intro q h1 h2
      simp only [mat,List.getElem_map,List.getElem_range,List.getElem_replicate]
      have:mk w.length (fun b=>decide (q < 0) && eP f w q b) = 0:=Nat.eq_of_testBit_eq fun i=>by rw [testBit_mk];simp
      rw [this];rfl
  rw [e] at this
  rw [ints_length,Int.toNat_natCast]
  exact this
theorem l04Order_ev (n:Nat) (hn:n ≤ 8) (f:Nat → Nat → Bool) (w:List Nat) (hl:w.length ≤ 24) (hw:∀ x ∈ w,x < n):Ev (fun k=>spec_l04Order.f k (n:Int) (mat n f) (ints w)) (mat w.length (ordP f w)):=by
  have h24:=pow_lt62 hl
  have hlast:∀ i k,ordP f w i k = true ↔ i = k ∨ ∃ j,i ≤ j ∧ j < k ∧ ordP f w i j = true ∧ eP f w j k = true:=fun i k=>clos_last fun i k h=>eP_lt h
  have hle:∀ i k,ordP f w i k = true → i ≤ k:=fun i k h=>clos_le (fun i k h=>(eP_lt h).1) h
  -- row i as far as position k
  let row:Nat → Nat → Nat:=fun i k=>mk w.length fun b=>decide (b < k) && ordP f w i b
  have outer:∀ (d i:Nat),i + d = w.length → Ev (fun q=>spec_l04Order.l0 q (ints w) ((List.range i).map fun a=>((mk w.length (ordP f w a):Nat):Int)) (i:Int) (n:Int) (mat n f)) (mat w.length (ordP f w)):=by
    intro d
    induction d with
    | zero =>
      intro i hi
      obtain rfl:i = w.length:=by omega
      refine Ev.succ ?_
      simp only [spec_l04Order.l0]
      exact Ev.neg (by simp) (Ev.now _)
    | succ d ih =>
      intro i hi
      have i1:=ih (i + 1) (by omega)
      rw [List.range_succ,List.map_append] at i1
      have one:2 ^ i = mk w.length fun b=>decide (b < i + 1) && ordP f w i b:=bits_ext fun b=>by
        rw [testBit_mk,testBit_one]
        by_cases e:i = b
        · subst e
          have:ordP f w i i = true:=clos_refl _ _
          simp [this,show i < w.length by omega]
        · have : (decide (b < i + 1) && ordP f w i b) = false := by
            by_cases e2:b < i
            · have:¬ ordP f w i b = true:=fun h=>by have:=hle i b h;omega
              simpa [show b < i + 1 by omega] using this
            · simp [show ¬ b < i + 1 by omega]
          simp [e,this]
      have mid:∀ (e k:Nat),k + e = w.length → i < k → Ev (fun q=>spec_l04Order.l1 q (ints w) ((List.range i).map fun a=>((mk w.length (ordP f w a):Nat):Int)) (i:Int) ((mk w.length (fun b=>decide (b < k) && ordP f w i b):Nat):Int) (k:Int) (n:Int) (mat n f)) (mat w.length (ordP f w)):=by
        intro e
        induction e with
        | zero =>
          intro k hk hik
          refine Ev.succ ?_
          simp only [spec_l04Order.l1]
          refine Ev.neg (by simp;omega) (Ev.pos (by simp;omega) ?_)
          rw [w64' (by omega),mk_congr (q:=ordP f w i) fun b hb=>by simp [show b < k by omega]]
          exact i1
        | succ e ihe =>
          intro k hk hik
          have j1:=ihe (k + 1) (by omega) (by omega)
          have h3:(2:Nat) ^ k ≤ 2 ^ 24:=pow24 (by omega)
          -- the positions below j have been looked at
          have inner : ∀ (e2 j : Nat), j + e2 = k → i ≤ j → ∀ (B : Bool), (B = true ↔ ∃ j', i ≤ j' ∧ j' < j ∧ ordP f w i j' = true ∧ eP f w j' k = true) →
              Ev (fun q=>spec_l04Order.l2 q (ints w) ((List.range i).map fun a=>((mk w.length (ordP f w a):Nat):Int)) (i:Int) ((mk w.length (fun b=>(decide (b < k) && ordP f w i b) || (decide (b = k) && B)):Nat):Int) (k:Int) (j:Int) (n:Int) (mat n f)) (mat w.length (ordP f w)):=by
            intro e2
            induction e2 with
            | zero =>
              intro j hj hij B hB
              obtain rfl:j = k:=by omega
              refine Ev.succ ?_
              simp only [spec_l04Order.l2]
              refine Ev.neg (by omega) ?_
              have hB' : B = ordP f w i j:=by
                rw [Bool.eq_iff_iff,hB,hlast i j]
                constructor
                · exact .inr
                · rintro (h | h)
                  · omega
                  · exact h
              rw [w64' (by omega),mk_congr (q:=fun b=>decide (b < j + 1) && ordP f w i b) fun b hb=>by
                by_cases e1:b = j
                · subst e1;simp [hB']
                · by_cases e2:b < j
                  · simp [e1,e2,show b < j + 1 by omega]
                  · simp [e1,e2,show ¬ b < j + 1 by omega]]
              exact j1
            | succ e2 ih2 =>
              intro j hj hij B hB
              have h1:=mk_lt w.length (fun b=>(decide (b < k) && ordP f w i b) || (decide (b = k) && B))
              have hxj:=getD_lt hw (show j < w.length by omega)
              have hxk:=getD_lt hw (show k < w.length by omega)
              have hjk:j < k:=by omega
              refine Ev.succ ?_
              simp only [spec_l04Order.l2]
              refine Ev.pos (by omega) ?_
              rw [l01Bit_eq _ j (mk62 (by omega) _) (by omega),testBit_mk]
              have hbit:(decide (j < w.length) && ((decide (j < k) && ordP f w i j) || (decide (j = k) && B))) = ordP f w i j:=by simp [hjk,show j < w.length by omega,show ¬ j = k by omega]
              rw [hbit]
              have hee:eP f w j k = f (w.getD j 0) (w.getD k 0):=by simp [eP,hjk,show k < w.length by omega]
              refine Ev.some_bind (Ev.ite (fun c=>?_) (fun c=>?_))
              · refine Ev.pos (by omega) (Ev.pos (by simp;omega) (Ev.pos (by omega) (Ev.pos (by simp;omega) ?_)))
                rw [rd_getD,rd_getD,l02Dep_eq n (by omega) f _ _ _ hxj hxk,l01One_eq k (by omega),w64' (by omega)]
                refine Ev.some_bind (Ev.ite (fun g=>Ev.some_bind ?_) (fun g=>?_))
                · rw [b_or _ _ (mk62 (by omega) _) (two62 (by omega)),mk_or_one w.length _ k (by omega)]
                  have:=ih2 (j + 1) (by omega) (by omega) true ⟨fun _=>⟨j,hij,by omega,c,by rw [hee];exact g⟩,fun _=>rfl⟩
                  rw [mk_congr (q:=fun b=>(decide (b < k) && ordP f w i b) || (decide (b = k) && true)) fun b hb=>by
                    by_cases e1:b = k
                    · subst e1;simp
                    · simp [e1]]
                  exact this
                · exact ih2 (j + 1) (by omega) (by omega) B (hB.trans ⟨fun ⟨j', a1, a2, a3⟩ => ⟨j', a1, by omega, a3⟩, fun ⟨j', a1, a2, a3, a4⟩ => by
                    by_cases e1:j' = j
                    · subst e1;rw [hee] at a4;exact absurd a4 g
                    · exact ⟨j', a1,by omega,a3,a4⟩⟩)
              · rw [w64' (by omega)]
                exact ih2 (j + 1) (by omega) (by omega) B (hB.trans ⟨fun ⟨j', a1, a2, a3⟩ => ⟨j', a1, by omega, a3⟩, fun ⟨j', a1, a2, a3, a4⟩ => by
                    by_cases e1:j' = j
                    · subst e1;exact absurd a3 c
                    · exact ⟨j', a1,by omega,a3,a4⟩⟩)
          have:=inner (k - i) i (by omega) (Nat.le_refl _) false ⟨by simp,fun ⟨j', a1,a2,_⟩=>by omega⟩
          rw [mk_congr (q:=fun b=>decide (b < k) && ordP f w i b) fun b hb=>by simp] at this
          refine Ev.succ ?_
          simp only [spec_l04Order.l1]
          exact Ev.pos (by simp;omega) this
      have:=mid (w.length - (i + 1)) (i + 1) (by omega) (by omega)
      rw [← one] at this
      refine Ev.succ ?_
      simp only [spec_l04Order.l0]
      refine Ev.pos (by simp;omega) ?_
      rw [l01One_eq i (by omega),w64' (by omega)]
      exact Ev.some_bind this
  simp only [spec_l04Order.f]
  exact outer w.length 0 (by omega)
theorem l04Code_ok (n : Nat) (hn : n ≤ 8) (f : Nat → Nat → Bool) (hs : ∀ a b, f a b = f b a) (w : List Nat) (hl : w.length ≤ 24) (hw : ∀ x ∈ w, x < n) (hc : Ev (fun k => spec_l03Code.f k (n : Int) (mat n f) (ints w) (ints w)) 0) :
    Ev (fun k=>spec_l04Code.f k (n:Int) (mat n f) (ints w)) (ints (normalP f n w),mat w.length (ordP f (normalP f n w)),0):=by
  have hnl:=normalP_length f hs hw
  simp only [spec_l04Code.f]
  refine Ev.bind hc (Ev.pos rfl (Ev.bind (l03Normal_ev n (by omega) f w (by omega) hw) ?_))
  have:=l04Order_ev n hn f _ (by omega) (normalP_lt f hs hw)
  rw [hnl] at this
  exact Ev.bind this (Ev.now _)
theorem l04Code_bad (n:Int) (D w:List Int) (c:Int) (h0:c ≠ 0) (hc:Ev (fun k=>spec_l03Code.f k n D w w) c):Ev (fun k=>spec_l04Code.f k n D w) ([],[],c):=by
  simp only [spec_l04Code.f]
  exact Ev.bind hc (Ev.neg h0 (Ev.now _))
theorem positions_ev (n : Nat) (hn : n ≤ 8) (f : Nat → Nat → Bool) (hs : ∀ a b, f a b = f b a) (w : List Nat) (hl : w.length ≤ 24) (hw : ∀ x ∈ w, x < n) :
    Ev (fun k=>impl_positions.f k (n:Int) (mat n f) (ints w)) (ints (normalP f n w),mat w.length (ordP f (normalP f n w))):=by
  have hnl:=normalP_length f hs hw
  simp only [impl_positions.f,impl_Alphabet_ties.f]
  refine Ev.some_bind (Ev.bind (normal_ev n hn f w (by omega) hw) (Ev.some_bind ?_))
  have:=orderOf_ev n hn f _ (by omega) (normalP_lt f hs hw)
  rw [hnl] at this
  exact Ev.bind this (Ev.now _)
theorem checkPosition_ok (n : Nat) (hn : n ≤ 8) (f : Nat → Nat → Bool) (hs : ∀ a b, f a b = f b a) (w : List Nat) (hl : w.length ≤ 24) (hw : ∀ x ∈ w, x < n) (i : Int) (hk : Ev (fun k => impl_checkWords.f k (n : Int) (mat n f) [ints w]) 0) :
    Ev (fun k=>impl_checkPosition.f k (n:Int) (mat n f) (ints w) i) (if 0 ≤ i ∧ i ≤ (w.length:Int) - 1 then (mat w.length (ordP f (normalP f n w)),0) else ([],2)):=by
  simp only [impl_checkPosition.f,impl_length_int64.f,inRange_eq]
  refine Ev.bind hk (Ev.pos rfl (Ev.some_bind (Ev.some_bind ?_)))
  rw [ints_length,w64' (by omega)]
  by_cases c:0 ≤ i ∧ i ≤ (w.length:Int) - 1
  · rw [if_pos c]
    exact Ev.pos (by simpa using c) (Ev.bind (positions_ev n hn f hs w hl hw) (Ev.now _))
  · rw [if_neg c]
    exact Ev.neg (by simpa using c) (Ev.now _)
theorem concurrent_ev (n:Nat) (hn:n ≤ 24) (g:Nat → Nat → Bool):Ev (fun k=>impl_concurrent.f k (mat n g)) (mat n fun i b=>!g b i && !g i b):=by
  have h1:0 < 2 ^ n:=Nat.two_pow_pos n
  have h2:=pow_lt62 hn
  have loop:∀ (d i:Nat),i + d = n → Ev (fun k=>impl_concurrent.l0 k (mat n g) ((List.range i).map fun a=>((mk n (fun b=>!g b a && !g a b):Nat):Int)) (mat n fun a b=>g b a) (n:Int) (i:Int)) (mat n fun i b=>!g b i && !g i b):=by
    intro d
    induction d with
    | zero =>
      intro i hi
      obtain rfl:i = n:=by omega
      refine Ev.succ ?_
      simp only [impl_concurrent.l0]
      exact Ev.neg (by omega) (Ev.now _)
    | succ d ih =>
      intro i hi
      have i1:=ih (i + 1) (by omega)
      rw [List.range_succ,List.map_append] at i1
      refine Ev.succ ?_
      simp only [impl_concurrent.l0,impl_length_int64.f]
      refine Ev.pos (by omega) (Ev.pos (by omega) (Ev.pos (by simp;omega) (Ev.some_bind ?_)))
      rw [mat_length,one_eq n (by omega)]
      refine Ev.some_bind (Ev.pos (by omega) (Ev.pos (by simp;omega) ?_))
      rw [rd_mat n _ i (by omega),rd_mat n _ i (by omega),w64' (by omega),show ((2 ^ n:Nat):Int) - 1 = ((2 ^ n - 1:Nat):Int) by omega,mk_full n,b_andNot _ _ (mk62 hn _) (mk62 hn _),mk_without hn,b_andNot _ _ (mk62 hn _) (mk62 hn _),mk_without hn,w64' (by omega)]
      simp only [Bool.true_and]
      exact i1
  simp only [impl_concurrent.f]
  refine Ev.bind (converse_ev n hn g) ?_
  have:=loop n 0 (by omega)
  rw [mat_length]
  exact this
theorem l04Width_ev (n:Nat) (hn:n ≤ 24) (g:Nat → Nat → Bool):∀ (d i M:Nat),i + d = n → M < 2 ^ n → Ev (fun k=>spec_l04Width.f k (mat n g) (i:Int) (M:Int)) ((wdN (fun i k=>!g i k) d i (openP M):Nat):Int):=by
  intro d
  have h24:=pow_lt62 hn
  induction d with
  | zero =>
    intro i M hi hM
    refine Ev.succ ?_
    simp only [spec_l04Width.f]
    exact Ev.pos (by simp;omega) (Ev.now _)
  | succ d ih =>
    intro i M hi hM
    have i1:=ih (i + 1) M (by omega) hM
    have b1:=wdN_le (fun i k=>!g i k) d (i + 1) (openP M)
    have hrow:=mk_lt n (g i)
    have hM2:M ||| mk n (g i) < 2 ^ n:=Nat.or_lt_two_pow hM hrow
    have i2:=ih (i + 1) (M ||| mk n (g i)) (by omega) hM2
    have b2:=wdN_le (fun i k=>!g i k) d (i + 1) (openP (M ||| mk n (g i)))
    have e2:wdN (fun i k=>!g i k) d (i + 1) (openP (M ||| mk n (g i))) = wdN (fun i k=>!g i k) d (i + 1) (fun k=>openP M k && !g i k):=wdN_congr n (fun _ _ _ _=>rfl) d (i + 1) _ _ (by omega) (fun k hk hn=>by
      unfold openP
      rw [Nat.testBit_or,testBit_mk]
      simp [hn])
    rw [e2] at i2 b2
    have b0:=wdN_le (fun i k=>!g i k) (d + 1) i (openP M)
    have hM62:M < 2 ^ 62:=by omega
    refine Ev.succ ?_
    simp only [spec_l04Width.f]
    refine Ev.neg (by simp;omega) ?_
    rw [w64' (show -9000000000000000000 ≤ (i:Int) + 1 ∧ (i:Int) + 1 ≤ 9000000000000000000 by omega)]
    refine Ev.bind i1 ?_
    rw [l01Bit_eq M i hM62 (by omega)]
    refine Ev.some_bind ?_
    simp only [wdN]
    by_cases c:M.testBit i = true
    · rw [if_neg (by unfold openP;rw [c];decide)]
      exact Ev.pos c (Ev.now _)
    · have c' : openP M i = true:=by unfold openP;simpa using c
      rw [if_pos c']
      refine Ev.neg c (Ev.pos (by omega) (Ev.pos (by simp;omega) ?_))
      rw [rd_mat n g i (by omega),b_or _ _ hM62 (mk62 (by omega) _)]
      refine Ev.bind i2 ?_
      rw [w64' (by omega)]
      refine Ev.ite (fun h=>Ev.const ?_) (fun h=>Ev.const ?_)
      · congr 1;omega
      · congr 1;omega
theorem mostTogether_l0 (n:Nat) (hn:n ≤ 24) (g:Nat → Nat → Bool):∀ (N M:Nat),M ≤ N → M < 2 ^ n → ∀ (most:Nat),most ≤ 24 → Ev (fun k=>impl_mostTogether.l0 k (mat n g) (M:Int) (most:Int)) ((max most (wdN g n 0 fun k=>M.testBit k):Nat):Int):=by
  intro N
  have h24:=pow_lt62 hn
  induction N with
  | zero =>
    intro M hN hM most hm
    obtain rfl:M = 0:=by omega
    have:wdN g n 0 (fun k=>(0:Nat).testBit k) = 0:=wdN_none g n _ (fun k _=>Nat.zero_testBit k)
    rw [this]
    refine Ev.succ ?_
    simp only [impl_mostTogether.l0]
    exact Ev.pos rfl (Ev.const (by rw [show max most 0 = most by omega]))
  | succ N ih =>
    intro M hN hM most hm
    by_cases h0:M = 0
    · subst h0
      exact ih 0 (by omega) hM most hm
    · have hM64 : M < 2 ^ 64 := by have : (2 : Nat) ^ 62 < 2 ^ 64 := by decide
                                   omega
      obtain ⟨a1,a2,a3,a4⟩:=lowest M h0 hM64
      generalize hi:Lib.ctz 64 M = i at a1 a2 a3 a4
      have hin:i < n:=Classical.byContradiction fun h=>by rw [bit_of_lt hM (by omega)] at a1;cases a1
      have hless:=and_pred_lt M h0
      have hrow:=mk_lt n (g i)
      have hM2:M &&& (M - 1) &&& mk n (g i) ≤ M &&& (M - 1):=Nat.and_le_left
      have e:=wdN_least g n i (fun k=>M.testBit k) hin a1 a2
      have ea:wdN g n 0 (fun k=>M.testBit k && decide (k ≠ i)) = wdN g n 0 (fun k=>(M &&& (M - 1)).testBit k):=wdN_congr n (fun _ _ _ _=>rfl) n 0 _ _ (by omega) (fun k _ _=>(a4 k).symm)
      have eb:wdN g n 0 (fun k=>(M.testBit k && decide (k ≠ i)) && g i k) = wdN g n 0 (fun k=>(M &&& (M - 1) &&& mk n (g i)).testBit k):=wdN_congr n (fun _ _ _ _=>rfl) n 0 _ _ (by omega) (fun k _ hk=>by
        show ((M.testBit k && decide (k ≠ i)) && g i k) = (M &&& (M - 1) &&& mk n (g i)).testBit k
        rw [Nat.testBit_and,a4,testBit_mk];simp [hk])
      rw [ea,eb] at e
      have b1:=wdN_le g n 0 (fun k=>(M &&& (M - 1) &&& mk n (g i)).testBit k)
      have r1:=ih (M &&& (M - 1) &&& mk n (g i)) (by omega) (by omega) 0 (by omega)
      have r2:=ih (M &&& (M - 1)) (by omega) (by omega) (max most (1 + wdN g n 0 fun k=>(M &&& (M - 1) &&& mk n (g i)).testBit k)) (by
        have b2:=wdN_le g n 0 (fun k=>M.testBit k)
        rw [e] at b2
        omega)
      refine Ev.succ ?_
      simp only [impl_mostTogether.l0]
      rw [least_eq M (by omega),hi]
      refine Ev.neg (by omega) (Ev.some_bind (Ev.pos (by omega) (Ev.pos (by simp;omega) ?_)))
      rw [w64' (by omega),show ((M:Int) - 1) = ((M - 1:Nat):Int) by omega,rd_mat n g i hin,b_and _ _ (by omega) (by omega),b_and _ _ (by omega) (mk62 (by omega) _)]
      have rf:Ev (fun k=>impl_mostTogether.f k (mat n g) ((M &&& (M - 1) &&& mk n (g i):Nat):Int)) ((wdN g n 0 (fun k=>(M &&& (M - 1) &&& mk n (g i)).testBit k):Nat):Int):=by
        refine Ev.succ ?_
        simp only [impl_mostTogether.f]
        exact Ev.val r1 (by rw [show ∀ x:Nat,max 0 x = x from fun x=>by omega])
      refine Ev.bind rf ?_
      rw [w64' (by omega),show mx (most:Int) (1 + ((wdN g n 0 (fun k=>(M &&& (M - 1) &&& mk n (g i)).testBit k):Nat):Int)) = ((max most (1 + wdN g n 0 fun k=>(M &&& (M - 1) &&& mk n (g i)).testBit k):Nat):Int) by unfold mx;split <;> omega]
      exact Ev.val r2 (by rw [e];congr 1;omega)
theorem mostTogether_ev (n:Nat) (hn:n ≤ 24) (g:Nat → Nat → Bool) (M:Nat) (hM:M < 2 ^ n):Ev (fun k=>impl_mostTogether.f k (mat n g) (M:Int)) ((wdN g n 0 (fun k=>M.testBit k):Nat):Int):=by
  have:=mostTogether_l0 n hn g M M (Nat.le_refl _) hM 0 (by omega)
  refine Ev.succ ?_
  simp only [impl_mostTogether.f]
  exact Ev.val this (by rw [show ∀ x:Nat,max 0 x = x from fun x=>by omega])
theorem l03Draw_l0 {c : List Int} (m : Int) (D : List Int) : ∀ (t : Nat) (out : List Int) (a h : Int), Src c a → out.length + t ≤ 1000 →
    ∃ w a' h', Src c a' ∧ w.length = out.length + t ∧ Ev (fun k=>spec_l03Draw.l0 k out (t:Int) c a h m D) (w,a', h'):=by
  intro t
  induction t with
  | zero =>
    intro out a h hS hl
    refine ⟨out,a,h,hS,by omega,Ev.succ ?_⟩
    simp only [spec_l03Draw.l0]
    exact Ev.neg (by omega) (Ev.now _)
  | succ t ih =>
    intro out a h hS hl
    have wt:wrap64 (((t + 1:Nat):Int) - 1) = (t:Int):=by rw [w64' (by omega)];omega
    by_cases g:(out.length:Int) > 0
    · obtain ⟨v,a1,h1,e1,s1,v0,v1,_⟩:=l01Next_ev hS h 8
      by_cases g2:v = 0
      · obtain ⟨w,a2,h2,s2,l2,r2⟩:=ih (out ++ [rd out (wrap64 ((out.length:Int) - 1))]) a1 h1 s1 (by simp;omega)
        refine ⟨w,a2,h2,s2,by rw [l2];simp;omega,Ev.succ ?_⟩
        simp only [spec_l03Draw.l0]
        refine Ev.pos (by omega) (Ev.pos g ?_)
        rw [e1]
        refine Ev.some_bind (Ev.pos g2 (Ev.pos (by rw [w64' (by omega)];omega) (Ev.pos (by rw [w64' (by omega)];omega) (Ev.pos (by omega) ?_))))
        rw [wt]
        exact r2
      · obtain ⟨v2,a2,h2,e2,s2,_⟩:=l01Next_ev s1 h1 m
        obtain ⟨w,a3,h3,s3,l3,r3⟩:=ih (out ++ [v2]) a2 h2 s2 (by simp;omega)
        refine ⟨w,a3,h3,s3,by rw [l3];simp;omega,Ev.succ ?_⟩
        simp only [spec_l03Draw.l0]
        refine Ev.pos (by omega) (Ev.pos g ?_)
        rw [e1]
        refine Ev.some_bind (Ev.neg g2 ?_)
        rw [e2]
        refine Ev.some_bind (Ev.pos (by omega) ?_)
        rw [wt]
        exact r3
    · obtain ⟨v2,a2,h2,e2,s2,_⟩:=l01Next_ev hS h m
      obtain ⟨w,a3,h3,s3,l3,r3⟩:=ih (out ++ [v2]) a2 h2 s2 (by simp;omega)
      refine ⟨w,a3,h3,s3,by rw [l3];simp;omega,Ev.succ ?_⟩
      simp only [spec_l03Draw.l0]
      refine Ev.pos (by omega) (Ev.neg g ?_)
      rw [e2]
      refine Ev.some_bind (Ev.pos (by omega) ?_)
      rw [wt]
      exact r3
theorem l03Draw_ev {c:List Int} {a:Int} (hS:Src c a) (h n:Int) (D:List Int) (most:Nat) (hm:most ≤ 24):∃ w a' h', Src c a' ∧ w.length ≤ most ∧ Ev (fun k=>spec_l03Draw.f k c a h n D (most:Int)) (w,a', h'):=by
  by_cases g:n = 0
  · refine ⟨[],a,h,hS,by simp,?_⟩
    simp only [spec_l03Draw.f]
    exact Ev.some_bind (Ev.pos g (Ev.now _))
  · obtain ⟨v,a1,h1,e1,s1,v0,v1,_⟩:=l01Next_ev hS h (wrap64 ((most:Int) + 1))
    rw [w64' (by omega)] at v1
    have v1' := v1 (by omega)
    obtain ⟨t,rfl⟩:=Int.eq_ofNat_of_zero_le v0
    obtain ⟨w,a2,h2,s2,l2,r2⟩:=l03Draw_l0 (c:=c) n D t [] a1 h1 s1 (by simp;omega)
    refine ⟨w,a2,h2,s2,by rw [l2];simp;omega,?_⟩
    simp only [spec_l03Draw.f]
    refine Ev.some_bind (Ev.neg g ?_)
    rw [e1]
    exact Ev.some_bind r2
theorem check_ok {n:Nat} {D:List Int} (hA:Alpha (n:Int) D) (ws:List (List Int)) (h:∀ w ∈ ws,Word (n:Int) w):Ev (fun k=>impl_checkWords.f k (n:Int) D ws) 0:=by
  have:=checkWords_ev (n:Int) D ws
  rwa [if_pos hA,if_pos h] at this
theorem check_1 {n:Nat} {f:Nat → Nat → Bool} (hA:Alpha (n:Int) (mat n f)) {u:List Nat} (hl:u.length ≤ 24) (hu:∀ x ∈ u,x < n):Ev (fun k=>impl_checkWords.f k (n:Int) (mat n f) [ints u]) 0 :=
  check_ok hA _ fun w hw=>by rw [List.mem_singleton.1 hw];exact Word.of hl hu
theorem ConcurrentWith_impl {n : Nat} (hn : n ≤ 8) {f : Nat → Nat → Bool} (hs : ∀ a b, f a b = f b a) (hA : Alpha (n : Int) (mat n f)) {u : List Nat} (hl : u.length ≤ 24) (hu : ∀ x ∈ u, x < n) (x : Nat) (hx : x < u.length) :
    Ev (fun k=>impl_ConcurrentWith.f k (n:Int) (mat n f) (ints u) (x:Int)) (((mk u.length (fun b=>!ordP f (normalP f n u) b x && !ordP f (normalP f n u) x b):Nat):Int),0):=by
  have h2:=checkPosition_ok n hn f hs u hl hu (x:Int) (check_1 hA hl hu)
  simp only [impl_ConcurrentWith.f]
  refine Ev.bind h2 ?_
  rw [if_pos (by omega)]
  refine Ev.pos rfl (Ev.bind (concurrent_ev u.length hl _) (Ev.pos (by omega) (Ev.pos (by simp;omega) (Ev.const ?_))))
  rw [rd_mat _ _ x (by omega)]
theorem bits5_ev (m:Nat) (hm:m < 2 ^ 24):Ev (fun k=>laws_bits5.f k (m:Int)) ((pcP m:Nat):Int):=by
  have loop:∀ (N m:Nat) (acc:Nat),m ≤ N → acc + m ≤ 100000000 → Ev (fun k=>laws_bits5.l0 k (m:Int) (acc:Int)) ((acc + pcP m:Nat):Int):=by
    intro N
    induction N with
    | zero =>
      intro m acc h1 h3
      obtain rfl:m = 0:=by omega
      refine Ev.succ ?_
      simp only [laws_bits5.l0]
      exact Ev.neg (by omega) (Ev.const (by rw [pcP_zero];rfl))
    | succ N ih =>
      intro m acc h1 h3
      by_cases h0:m = 0
      · subst h0
        refine Ev.succ ?_
        simp only [laws_bits5.l0]
        exact Ev.neg (by omega) (Ev.const (by rw [pcP_zero];rfl))
      · have e1:Int.tdiv (m:Int) 2 = ((m / 2:Nat):Int):=by rw [Int.tdiv_eq_ediv_of_nonneg (by omega)];omega
        have e2:Int.tmod (m:Int) 2 = ((m % 2:Nat):Int):=by rw [Int.tmod_eq_emod_of_nonneg (by omega)];omega
        refine Ev.succ ?_
        simp only [laws_bits5.l0]
        refine Ev.pos (by omega) ?_
        rw [e1,e2,w64' (by omega),w64' (by omega)]
        have:=ih (m / 2) (acc + m % 2) (by omega) (by omega)
        rw [pcP_pos h0,show acc + (m % 2 + pcP (m / 2)) = acc + m % 2 + pcP (m / 2) by omega]
        exact this
  simp only [laws_bits5.f]
  exact Ev.val (loop m m 0 (Nat.le_refl _) (by omega)) (by simp)
theorem FoataForm_impl {n : Nat} (hn : n ≤ 8) {f : Nat → Nat → Bool} (hs : ∀ a b, f a b = f b a) (hA : Alpha (n : Int) (mat n f)) {u : List Nat} (hl : u.length ≤ 24) (hu : ∀ x ∈ u, x < n) :
    Ev (fun k=>impl_FoataForm.f k (n:Int) (mat n f) (ints u)) (ints (foataP f u),0):=by
  simp only [impl_FoataForm.f,impl_Alphabet_ties.f]
  exact Ev.bind (check_1 hA hl hu) (Ev.pos rfl (Ev.some_bind (Ev.bind (foata_ev n hn f hs u (by omega) hu) (Ev.now _))))
theorem l03Spoil_l0m {c : List Int} (m : Int) (D : List Int) : ∀ (t : Nat) (out : List Int) (a h : Int), Src c a → out.length + t = 25 →
    ∃ w a' h', Src c a' ∧ w.length ≤ 25 ∧ (w = out ∨ w.length = 25) ∧ Ev (fun k=>spec_l03Spoil.l0 k out c a h m D) (w,a', h'):=by
  intro t
  induction t with
  | zero =>
    intro out a h hS hl
    refine ⟨out,a,h,hS,by omega,.inl rfl,Ev.succ ?_⟩
    simp only [spec_l03Spoil.l0]
    exact Ev.ite (fun _=>Ev.neg (by omega) (Ev.now _)) (fun _=>Ev.now _)
  | succ t ih =>
    intro out a h hS hl
    by_cases g:m > 0
    · obtain ⟨v2,a2,h2,e2,s2,_⟩:=l01Next_ev hS h m
      obtain ⟨w,a3,h3,s3,l3,l4,r3⟩:=ih (out ++ [v2]) a2 h2 s2 (by simp;omega)
      refine ⟨w,a3,h3,s3,l3,?_,Ev.succ ?_⟩
      · rcases l4 with l4 | l4
        · by_cases q:t = 0
          · subst q;right;rw [l4];simp;omega
          · exfalso
            -- the loop goes on to 25 letters
            have:∀ (t:Nat) (out:List Int) (a h:Int) (w:List Int) (a' h' : Int),0 < t → out.length + t = 25 → w = out → Ev (fun k=>spec_l03Spoil.l0 k out c a h m D) (w,a', h') → Src c a → False:=by
              intro t
              induction t with
              | zero=>intro _ _ _ _ _ _ h0;omega
              | succ t ih =>
                intro out a h w a' h' _ hl hw hr hS
                obtain ⟨v2,a2,h2,e2,s2,_⟩:=l01Next_ev hS h m
                have hr2:Ev (fun k=>spec_l03Spoil.l0 k (out ++ [v2]) c a2 h2 m D) (w,a', h'):=by
                  obtain ⟨K,hK⟩:=hr
                  refine ⟨K,fun k hk=>?_⟩
                  have:=hK (k + 1) (by omega)
                  simp only [spec_l03Spoil.l0] at this
                  rw [if_pos g,if_pos (by omega),e2] at this
                  simpa [show out.length < 17592186044416 by omega] using this
                have key:∀ (t:Nat) (out:List Int) (a h:Int) (w:List Int) (a' h' : Int),Src c a → out.length + t = 25 → Ev (fun k=>spec_l03Spoil.l0 k out c a h m D) (w,a', h') → out.length ≤ w.length:=by
                  intro t
                  induction t with
                  | zero =>
                    intro out a h w a' h' hS hl hr
                    obtain ⟨K,hK⟩:=hr
                    have:=hK (K + 1) (by omega)
                    simp only [spec_l03Spoil.l0] at this
                    rw [if_pos g,if_neg (by omega)] at this
                    simp at this
                    rw [this.1]
                    exact Nat.le_refl _
                  | succ t ih =>
                    intro out a h w a' h' hS hl hr
                    obtain ⟨v2,a2,h2,e2,s2,_⟩:=l01Next_ev hS h m
                    have hr2:Ev (fun k=>spec_l03Spoil.l0 k (out ++ [v2]) c a2 h2 m D) (w,a', h'):=by
                      obtain ⟨K,hK⟩:=hr
                      refine ⟨K,fun k hk=>?_⟩
                      have:=hK (k + 1) (by omega)
                      simp only [spec_l03Spoil.l0] at this
                      rw [if_pos g,if_pos (by omega),e2] at this
                      simpa [show out.length < 17592186044416 by omega] using this
                    have:=ih (out ++ [v2]) a2 h2 w a' h' s2 (by simp;omega) hr2
                    simp at this
                    omega
                have:=key t (out ++ [v2]) a2 h2 w a' h' s2 (by simp;omega) hr2
                rw [hw] at this
                simp at this
                omega
            exact this t (out ++ [v2]) a2 h2 w a3 h3 (by omega) (by simp;omega) l4 r3 s2
        · exact .inr l4
      · simp only [spec_l03Spoil.l0]
        refine Ev.pos g (Ev.pos (by omega) ?_)
        rw [e2]
        exact Ev.some_bind (Ev.pos (by omega) r3)
    · refine ⟨out,a,h,hS,by omega,.inl rfl,Ev.succ ?_⟩
      simp only [spec_l03Spoil.l0]
      exact Ev.neg g (Ev.now _)
theorem l03Spoil_most {c:List Int} {a:Int} (hS:Src c a) (h n:Int) (D:List Int) (most:Nat) (hm:most ≤ 24):∃ w a' h', Src c a' ∧ w.length ≤ 25 ∧ (Alpha n D → Word n w → w.length ≤ most) ∧ Ev (fun k=>spec_l03Spoil.f k c a h n D (most:Int)) (w,a', h'):=by
  have hi:=l02Is_ev n D
  by_cases g:Alpha n D
  · rw [decide_eq_true g] at hi
    have hn:=g.1
    obtain ⟨w,a1,h1,s1,l1,r1⟩:=l03Draw_ev hS h n D most hm
    obtain ⟨v,a2,h2,e2,s2,_⟩:=l01Next_ev s1 h1 28
    by_cases g0:v = 0
    · obtain ⟨v3,a3,h3,e3,s3,hv3⟩:=l01Pick_ev s2 h2 [-1,n,1099511627776] (by simp)
      refine ⟨w ++ [v3],a3,h3,s3,by simp;omega,fun _ hW=>?_,?_⟩
      · have:=hW.2 v3 (by simp)
        simp only [List.mem_cons,List.not_mem_nil,or_false] at hv3
        rcases hv3 with e | e | e <;> omega
      · simp only [spec_l03Spoil.f]
        refine Ev.bind hi (Ev.pos rfl (Ev.bind r1 ?_))
        simp only []
        rw [e2]
        refine Ev.some_bind (Ev.pos g0 ?_)
        simp only []
        rw [e3]
        exact Ev.some_bind (Ev.pos (by omega) (Ev.now _))
    · by_cases g1:v = 1
      · obtain ⟨w', a3,h3,s3,l3,l4,r3⟩:=l03Spoil_l0m (c:=c) n D (25 - w.length) w a2 h2 s2 (by omega)
        refine ⟨w', a3,h3,s3,l3,fun _ hW=>?_,?_⟩
        · have:=hW.1
          rcases l4 with l4 | l4
          · rw [l4];exact l1
          · omega
        · simp only [spec_l03Spoil.f]
          refine Ev.bind hi (Ev.pos rfl (Ev.bind r1 ?_))
          simp only []
          rw [e2]
          exact Ev.some_bind (Ev.neg g0 (Ev.pos g1 r3))
      · refine ⟨w,a2,h2,s2,by omega,fun _ _=>l1,?_⟩
        simp only [spec_l03Spoil.f]
        refine Ev.bind hi (Ev.pos rfl (Ev.bind r1 ?_))
        simp only []
        rw [e2]
        exact Ev.some_bind (Ev.neg g0 (Ev.neg g1 (Ev.now _)))
  · rw [decide_eq_false g] at hi
    refine ⟨[0,1,0],a,h,hS,by simp,fun z=>absurd z g,?_⟩
    simp only [spec_l03Spoil.f]
    exact Ev.bind hi (Ev.neg (by decide) (Ev.now _))
theorem l03Pair_most (c:List Int) (hb:∀ x ∈ c,0 ≤ x ∧ x ≤ 255) (hc:c.length ≤ 4096) (letters most:Nat) (hl:letters ≤ 8) (hm:most ≤ 24):∃ a h n D w,Src c a ∧ D.length ≤ 9 ∧ w.length ≤ 25 ∧ (Alpha n D → Word n w → w.length ≤ most) ∧ Ev (fun k=>spec_l03Pair.f k c (letters:Int) (most:Int)) (c,a,h,n,D,w):=by
  obtain ⟨h0,r0⟩:=l01From_ev c hc
  have s0:Src c 0:=⟨hb,hc,by omega,by omega⟩
  obtain ⟨⟨n1,D1,a1,h1⟩,⟨m,f,e1,e2,hm1,hm8,hs,hr,s1⟩,r1⟩:=l02Draw_ev s0 h0 letters hl
  simp only at e1 e2 s1
  subst e1 e2
  obtain ⟨v2,a2,h2,x2,s2,_⟩:=l01Next_ev s1 h1 24
  by_cases g:v2 = 0
  · obtain ⟨n3,D3,a3,h3,s3,l3,r3⟩:=l02Spoil_ev s2 h2 letters hl
    obtain ⟨w,a4,h4,s4,l4,l5,r4⟩:=l03Spoil_most s3 h3 n3 D3 most hm
    refine ⟨a4,h4,n3,D3,w,s4,l3,l4,l5,?_⟩
    simp only [spec_l03Pair.f]
    refine Ev.bind r0 (Ev.bind r1 ?_)
    simp only []
    rw [x2]
    exact Ev.some_bind (Ev.pos g (Ev.bind r3 (Ev.bind r4 (Ev.now _))))
  · obtain ⟨w,a4,h4,s4,l4,l5,r4⟩:=l03Spoil_most s2 h2 (m:Int) (mat m f) most hm
    refine ⟨a4,h4,(m:Int),mat m f,w,s4,by simp;omega,l4,l5,?_⟩
    simp only [spec_l03Pair.f]
    refine Ev.bind r0 (Ev.bind r1 ?_)
    simp only []
    rw [x2]
    exact Ev.some_bind (Ev.neg g (Ev.bind r4 (Ev.now _)))
theorem CliquesOf_ev (n : Nat) (hn : n ≤ 24) (r : Nat → Nat → Bool) (hs : ∀ a b, r a b = r b a) (cs : List Nat) (hcs : cs.length < 4095) (hfew : ∀ C : Nat, (∀ i, C.testBit i = true → i < n) → (∀ a b, a < b → C.testBit a = true → C.testBit b = true → r a b = true) → C ∈ cs) :
    ∃ s:List Nat,s.length ≤ 4096 ∧ (∀ C,C ∈ s ↔ (∀ i,C.testBit i = true → i < n) ∧ ∀ a b,a < b → C.testBit a = true → C.testBit b = true → r a b = true) ∧ Ev (fun k=>impl_CliquesOf.f k (mat n r)) (ints s,0):=by
  have hpos:=Nat.two_pow_pos n
  have h24:=pow24 hn
  obtain ⟨L,he,hn1,hm⟩:=grow_ev n hn (fun a b=>r b a && (r a b && !decide (b = a))) (2 ^ n - 1) (2 ^ n - 1) (Nat.le_refl _) (by omega) 0 hpos (fun i h=>by rw [Nat.zero_testBit] at h;exact absurd h (by simp))
  have hmem:∀ C,C ∈ 0 :: L ↔ (∀ i,C.testBit i = true → i < n) ∧ ∀ a b,a < b → C.testBit a = true → C.testBit b = true → r a b = true:=fun C=>by
    simp only [List.mem_cons,hm]
    constructor
    · rintro (rfl | ⟨S,_,h1,h2,rfl⟩)
      · exact ⟨fun i h=>by rw [Nat.zero_testBit] at h;exact absurd h (by simp),fun a b _ h=>by rw [Nat.zero_testBit] at h;exact absurd h (by simp)⟩
      · rw [Nat.zero_or]
        refine ⟨fun i hi=>?_,fun a b hab ha hb=>?_⟩
        · have:=h1 i hi
          rw [testBit_full] at this
          exact of_decide_eq_true this
        · have:=h2 a b hab ha hb
          rw [Bool.and_eq_true,Bool.and_eq_true] at this
          exact this.2.1
    · rintro ⟨h1,h2⟩
      by_cases z:C = 0
      · exact .inl z
      · refine .inr ⟨C,z,fun i hi=>?_,fun a b hab ha hb=>?_,by rw [Nat.zero_or]⟩
        · rw [testBit_full]
          exact decide_eq_true (h1 i hi)
        · have:=h2 a b hab ha hb
          rw [Bool.and_eq_true,Bool.and_eq_true]
          exact ⟨(hs b a).trans this,this,by simp;omega⟩
  have hnd:(0 :: L).Nodup:=by
    refine List.nodup_cons.2 ⟨fun h=>?_,hn1⟩
    obtain ⟨S,h0,_,_,h3⟩:=(hm 0).1 h
    rw [Nat.zero_or] at h3
    exact h0 h3.symm
  have hlen:=nodup_le (0 :: L) cs hnd (fun C hC=>hfew C ((hmem C).1 hC).1 ((hmem C).1 hC).2)
  simp only [List.length_cons] at hlen
  have hlt:∀ C ∈ 0 :: L,C < 2 ^ n:=fun C hC=>lt_of_bits fun i hi=>by
    cases z:C.testBit i with
    | false=>rfl
    | true=>have:=((hmem C).1 hC).1 i z;omega
  have hsort:=sort_eq hnd (s:=(List.range (2 ^ n)).filter fun C=>decide (C ∈ 0 :: L)) (List.Pairwise.filter _ List.pairwise_lt_range) (fun C=>by
    rw [List.mem_filter,List.mem_range,decide_eq_true_eq]
    exact ⟨fun h=>⟨hlt C h,h⟩,fun h=>h.2⟩)
  refine ⟨(List.range (2 ^ n)).filter fun C=>decide (C ∈ 0 :: L),?_,fun C=>?_,?_⟩
  · have h1:=congrArg List.length hsort
    rw [List.length_mergeSort,ints_length,ints_length,List.length_cons] at h1
    omega
  · rw [← hmem,List.mem_filter,List.mem_range,decide_eq_true_eq]
    exact ⟨fun h=>h.2,fun h=>⟨hlt C h,h⟩⟩
  · simp only [impl_CliquesOf.f]
    rw [IsRelation_eq,decide_eq_true (show (mat n r).length ≤ 24 ∧ ∀ x ∈ mat n r,0 ≤ x ∧ x < ((2 ^ (mat n r).length:Nat):Int) from by
      rw [mat_length]
      refine ⟨hn,fun x hx=>?_⟩
      unfold mat at hx
      obtain ⟨i,_,rfl⟩:=List.mem_map.1 hx
      have:=mk_lt n (r i)
      exact ⟨by omega,by exact_mod_cast this⟩)]
    refine Ev.some_bind (Ev.pos rfl (Ev.bind (a:=(ints ((List.range (2 ^ n)).filter fun C=>decide (C ∈ 0 :: L)),0)) ?_ (Ev.now _)))
    simp only [impl_cliques.f]
    refine Ev.bind (mutual_ev n hn _) ?_
    simp only [impl_length_int64.f]
    refine Ev.some_bind ?_
    rw [mat_length,one_eq n (by omega)]
    refine Ev.some_bind ?_
    rw [w64' (by omega),show ((2 ^ n:Nat):Int) - 1 = ((2 ^ n - 1:Nat):Int) by omega]
    refine Ev.bind he (Ev.pos (by rw [ints_length];omega) ?_)
    rw [ints_cons] at hsort
    rw [show (0:Int) = ((0:Nat):Int) from rfl,hsort]
    exact Ev.now _
end Go.Proofs.YtjdekliancabgaaDoor.PAll
