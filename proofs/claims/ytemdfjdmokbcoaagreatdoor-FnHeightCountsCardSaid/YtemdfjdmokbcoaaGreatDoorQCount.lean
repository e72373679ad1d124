import Derived.Test.YtemdfjdmokbcoaaGreatDoorQTrace
set_option linter.unusedVariables false
set_option linter.unusedSimpArgs false
namespace Go.Proofs.YtemdfjdmokbcoaaGreatDoor.Q
open Go.RowKit Go.Proofs.YtemdfjdmokbcoaaGreatDoorW.PrintWords
def sS (g:Nat → Int):Nat → Int
 | 0=>0
 | n + 1=>sS g n + g n
theorem sS_congr {g g' : Nat → Int}:∀ (n:Nat),(∀ i,i < n → g i = g' i) → sS g n = sS g' n:=by
  intro n
  induction n with
  | zero=>intro _;rfl
  | succ n ih =>
    intro h
    simp only [sS]
    rw [ih (fun i hi=>h i (by omega)),h n (by omega)]
theorem sS_none {g:Nat → Int}:∀ (n:Nat),(∀ i,i < n → g i = 0) → sS g n = 0:=by
  intro n
  induction n with
  | zero=>intro _;rfl
  | succ n ih =>
    intro h
    simp only [sS]
    rw [ih (fun i hi=>h i (by omega)),h n (by omega)]
    rfl
theorem sS_plus (g g' : Nat → Int):∀ (n:Nat),sS (fun i=>g i + g' i) n = sS g n + sS g' n:=by
  intro n
  induction n with
  | zero=>rfl
  | succ n ih=>simp only [sS];rw [ih];omega
theorem sS_swap (g:Nat → Nat → Int) (n:Nat):∀ (m:Nat),sS (fun i=>sS (fun j=>g i j) n) m = sS (fun j=>sS (fun i=>g i j) m) n:=by
  intro m
  induction m with
  | zero=>exact (sS_none n (fun i _=>rfl)).symm
  | succ m ih=>simp only [sS];rw [ih,← sS_plus]
theorem sS_front (g:Nat → Int):∀ (n:Nat),sS g (n + 1) = g 0 + sS (fun i=>g (i + 1)) n:=by
  intro n
  induction n with
  | zero=>simp [sS]
  | succ n ih=>rw [sS,ih];simp only [sS];omega
theorem wrap_plus (a b:Int):wrap64 (wrap64 a + wrap64 b) = wrap64 (a + b):=by unfold wrap64;omega
def rowW (L:Nat) (g:Nat → Int):List Int:=(List.range L).map fun q=>wrap64 (g q)
@[simp] theorem rowW_length (L:Nat) (g:Nat → Int):(rowW L g).length = L:=by simp [rowW]
theorem rd_rowW (L:Nat) (g:Nat → Int) (i:Nat) (h:i < L):rd (rowW L g) (i:Int) = wrap64 (g i):=by
  rw [rd_lt _ _ (by simpa using h)];simp [rowW]
theorem rowW_congr (L:Nat) {g g' : Nat → Int} (h:∀ i,i < L → g i = g' i):rowW L g = rowW L g' := by
  unfold rowW
  refine List.map_congr_left (fun q hq=>?_)
  rw [h q (List.mem_range.1 hq)]
theorem set_rowW (L:Nat) (g:Nat → Int) (i:Nat) (v:Int):(rowW L g).set i (wrap64 v) = rowW L (fun q=>if q = i then v else g q):=by
  refine List.ext_getElem (by simp) (fun j h1 h2=>?_)
  rw [List.getElem_set]
  by_cases c:i = j
  · subst c;simp [rowW]
  · rw [if_neg c]
    have c' : ¬ j = i:=fun h=>c h.symm
    simp [rowW,c']
theorem rowW_none (L:Nat):List.replicate L (0:Int) = rowW L (fun _=>0):=by
  refine List.ext_getElem (by simp) (fun j h1 h2=>?_)
  simp [rowW,wrap64]
section
variable (L:Nat) (pc:Nat → Nat) (ok:Nat → Nat → Bool)
def cA:Nat → Nat → Nat → Int
 | 0,j,i=>if j = 0 ∧ i = 0 then 1 else 0
 | h + 1,j,i=>if i = 0 then 0 else if pc i ≤ j then sS (fun k=>if ok i k = true ∧ (k > 0 ∨ h = 0) then cA h (j - pc i) k else 0) L else 0
def cT (H j i:Nat):Int:=sS (fun h=>cA L pc ok h j i) (H + 1)
def cB (j i:Nat):Int:=cT L pc ok j j i
theorem cA_first (h j:Nat):cA L pc ok (h + 1) j 0 = 0:=by simp [cA]
theorem cT_first (H j:Nat):cT L pc ok H j 0 = if j = 0 then 1 else 0:=by
  unfold cT
  rw [sS_front,sS_none H (fun h _=>cA_first L pc ok h j)]
  simp [cA]
theorem cT_base (j i:Nat) (hi:i ≠ 0):cT L pc ok 0 j i = 0:=by simp [cT,sS,cA,hi]
theorem cT_succ (H j i:Nat) (hi:i ≠ 0):cT L pc ok (H + 1) j i = if pc i ≤ j then sS (fun k=>if ok i k = true then cT L pc ok H (j - pc i) k else 0) L else 0:=by
  have e0:cA L pc ok 0 j i = 0:=by simp [cA,hi]
  unfold cT
  rw [sS_front,e0]
  simp only [cA,if_neg hi]
  by_cases c:pc i ≤ j
  · simp only [if_pos c]
    rw [sS_swap,Int.zero_add]
    refine sS_congr L (fun k _=>?_)
    by_cases d:ok i k = true
    · rw [if_pos d]
      refine sS_congr (H + 1) (fun h _=>?_)
      by_cases e:k > 0 ∨ h = 0
      · rw [if_pos ⟨d,e⟩]
      · rw [if_neg (fun z=>e z.2)]
        obtain ⟨h', rfl⟩:∃ h', h = h' + 1:=⟨h - 1,by omega⟩
        obtain rfl:k = 0:=by omega
        exact (cA_first L pc ok h' _).symm
    · rw [if_neg d]
      exact sS_none (H + 1) (fun h _=>if_neg (fun z=>d z.1))
  · simp only [if_neg c]
    rw [Int.zero_add]
    exact sS_none (H + 1) (fun h _=>rfl)
theorem cT_stable (hp:∀ i,0 < i → i < L → 1 ≤ pc i):∀ (J j H i:Nat),j ≤ J → i < L → j ≤ H → cT L pc ok H j i = cB L pc ok j i:=by
  intro J
  induction J with
  | zero =>
    intro j H i hj hi hH
    obtain rfl:j = 0:=by omega
    unfold cB
    by_cases c:i = 0
    · subst c;rw [cT_first,cT_first]
    · rw [cT_base _ _ _ _ _ c]
      cases H with
      | zero=>exact cT_base _ _ _ _ _ c
      | succ H=>rw [cT_succ _ _ _ _ _ _ c,if_neg (by have:=hp i (by omega) hi;omega)]
  | succ J ih =>
    intro j H i hj hi hH
    by_cases cj:j ≤ J
    · exact ih j H i cj hi hH
    · unfold cB
      by_cases c:i = 0
      · subst c;rw [cT_first,cT_first]
      · obtain ⟨j', rfl⟩:∃ j', j = j' + 1:=⟨j - 1,by omega⟩
        obtain ⟨H', rfl⟩:∃ H', H = H' + 1:=⟨H - 1,by omega⟩
        rw [cT_succ _ _ _ _ _ _ c,cT_succ _ _ _ _ _ _ c]
        by_cases d:pc i ≤ j' + 1
        · rw [if_pos d,if_pos d]
          have:=hp i (by omega) hi
          refine sS_congr L (fun k hk=>?_)
          rw [ih (j' + 1 - pc i) H' k (by omega) hk (by omega),ih (j' + 1 - pc i) j' k (by omega) hk (by omega)]
        · rw [if_neg d,if_neg d]
theorem cB_first (j:Nat):cB L pc ok j 0 = if j = 0 then 1 else 0:=cT_first L pc ok j j
theorem cB_none (j i:Nat) (hi:i ≠ 0) (h:¬ pc i ≤ j):cB L pc ok j i = 0:=by
  unfold cB
  cases j with
  | zero=>exact cT_base _ _ _ _ _ hi
  | succ j=>rw [cT_succ _ _ _ _ _ _ hi,if_neg h]
theorem cB_some (hp:∀ i,0 < i → i < L → 1 ≤ pc i) (j i:Nat) (h0:0 < i) (hi:i < L) (h:pc i ≤ j):cB L pc ok j i = sS (fun k=>if ok i k = true then cB L pc ok (j - pc i) k else 0) L:=by
  have:=hp i h0 hi
  obtain ⟨j', rfl⟩:∃ j', j = j' + 1:=⟨j - 1,by omega⟩
  rw [← cT_stable L pc ok hp (j' + 1) (j' + 1) (j' + 1) i (Nat.le_refl _) hi (Nat.le_refl _),cT_succ _ _ _ _ _ _ (by omega),if_pos h]
  refine sS_congr L (fun k hk=>?_)
  rw [cT_stable L pc ok hp j' (j' + 1 - pc i) j' k (by omega) hk (by omega)]
theorem cB_flat (hp:∀ i,0 < i → i < L → 1 ≤ pc i) (i:Nat) (h0:0 < i) (hi:i < L) (hk:ok i 0 = true):cB L pc ok (pc i) i = 1:=by
  rw [cB_some L pc ok hp _ _ h0 hi (Nat.le_refl _),Nat.sub_self]
  obtain ⟨L', rfl⟩:∃ L', L = L' + 1:=⟨L - 1,by omega⟩
  rw [sS_front,if_pos hk,cB_first,if_pos rfl,sS_none L' (fun k hk=>?_)]
  · rfl
  · have:=hp (k + 1) (by omega) (by omega)
    rw [cB_none _ _ _ _ _ (by omega) (by omega)]
    exact ite_self 0
theorem cB_more (hp:∀ i,0 < i → i < L → 1 ≤ pc i) (j i:Nat) (h0:0 < i) (hi:i < L) (h:pc i < j):cB L pc ok j i = sS (fun k=>if ok i (k + 1) = true then cB L pc ok (j - pc i) (k + 1) else 0) (L - 1):=by
  rw [cB_some L pc ok hp _ _ h0 hi (by omega)]
  obtain ⟨L', rfl⟩:∃ L', L = L' + 1:=⟨L - 1,by omega⟩
  have e:cB (L' + 1) pc ok (j - pc i) 0 = 0:=by rw [cB_first,if_neg (by omega)]
  rw [sS_front,e,ite_self,Int.zero_add]
  rfl
end
end Go.Proofs.YtemdfjdmokbcoaaGreatDoor.Q
