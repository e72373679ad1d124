import Derived.Test.YtemdfjdmokbcoaaGreatDoorQCount
set_option linter.unusedVariables false
set_option linter.unusedSimpArgs false
namespace Go.Proofs.YtemdfjdmokbcoaaGreatDoor.Q
open Go.RowKit Go.Proofs.YtemdfjdmokbcoaaGreatDoorW.PrintWords
theorem sS_pick (v:Int) (r:Nat):∀ (n:Nat),r < n → sS (fun k=>if k = r then v else 0) n = v:=by
  intro n
  induction n with
  | zero=>intro h;omega
  | succ n ih =>
    intro h
    simp only [sS]
    by_cases c:n = r
    · subst c
      rw [if_pos rfl,sS_none n (fun i hi=>if_neg (by omega)),Int.zero_add]
    · rw [if_neg c,ih (by omega),Int.add_zero]
theorem sS_when (c:Prop) [Decidable c] (g:Nat → Int) (n:Nat):sS (fun k=>if c then g k else 0) n = if c then sS g n else 0:=by
  by_cases h:c
  · simp [h]
  · simp only [if_neg h]
    exact sS_none n (fun _ _=>rfl)
section
variable (M:Nat) (pc:Nat → Nat) (ok:Nat → Nat → Bool)
def pP:Nat → Nat → Nat → Nat → Int
 | 0,j,s,r=>if s = r ∧ j = pc s then 1 else 0
 | h + 1,j,s,r=>if pc s ≤ j then sS (fun k=>if ok s k = true then pP h (j - pc s) k r else 0) M else 0
def dD:Nat → Nat → Nat → Int
 | 0,j,r=>if j = pc r then 1 else 0
 | h + 1,j,r=>if pc r ≤ j then sS (fun s=>if ok s r = true then dD h (j - pc r) s else 0) M else 0
theorem pP_two (j s r:Nat):(if pc s ≤ j then (if ok s r = true ∧ j - pc s = pc r then (1:Int) else 0) else 0) = if pc r ≤ j then (if ok s r = true ∧ j - pc r = pc s then (1:Int) else 0) else 0:=by
  by_cases e:ok s r = true ∧ j = pc s + pc r
  · rw [if_pos (by omega),if_pos ⟨e.1,by omega⟩,if_pos (by omega),if_pos ⟨e.1,by omega⟩]
  · have h1 : (if pc s ≤ j then (if ok s r = true ∧ j - pc s = pc r then (1 : Int) else 0) else 0) = 0 := by
      by_cases c:pc s ≤ j
      · rw [if_pos c,if_neg (fun z=>e ⟨z.1,by omega⟩)]
      · rw [if_neg c]
    have h2:(if pc r ≤ j then (if ok s r = true ∧ j - pc r = pc s then (1:Int) else 0) else 0) = 0:=by
      by_cases c:pc r ≤ j
      · rw [if_pos c,if_neg (fun z=>e ⟨z.1,by omega⟩)]
      · rw [if_neg c]
    rw [h1,h2]
theorem pP_end:∀ (h j s r:Nat),s < M → r < M → pP M pc ok (h + 1) j s r = if pc r ≤ j then sS (fun l=>if ok l r = true then pP M pc ok h (j - pc r) s l else 0) M else 0:=by
  intro h
  induction h with
  | zero =>
    intro j s r hs hr
    have e1:sS (fun k=>if ok s k = true then pP M pc ok 0 (j - pc s) k r else 0) M = if ok s r = true ∧ j - pc s = pc r then 1 else 0:=by
      rw [← sS_pick (if ok s r = true ∧ j - pc s = pc r then 1 else 0) r M hr]
      refine sS_congr M (fun k _=>?_)
      simp only [pP]
      by_cases c:k = r
      · subst c
        by_cases c2:ok s k = true <;> simp [c2]
      · simp [c]
    have e2:sS (fun l=>if ok l r = true then pP M pc ok 0 (j - pc r) s l else 0) M = if ok s r = true ∧ j - pc r = pc s then 1 else 0:=by
      rw [← sS_pick (if ok s r = true ∧ j - pc r = pc s then 1 else 0) s M hs]
      refine sS_congr M (fun k _=>?_)
      simp only [pP]
      by_cases c:k = s
      · subst c
        by_cases c2:ok k r = true <;> simp [c2]
      · have c' : ¬ s = k:=fun z=>c z.symm
        simp [c,c']
    rw [pP,e1,e2]
    exact pP_two pc ok j s r
  | succ h ih =>
    intro j s r hs hr
    have e1:pP M pc ok (h + 1 + 1) j s r = if pc s ≤ j then (if pc r ≤ j - pc s then sS (fun k=>sS (fun l=>if ok s k = true ∧ ok l r = true then pP M pc ok h (j - pc s - pc r) k l else 0) M) M else 0) else 0:=by
      rw [pP]
      by_cases c:pc s ≤ j
      · rw [if_pos c,if_pos c,← sS_when]
        refine sS_congr M (fun k hk=>?_)
        rw [ih (j - pc s) k r hk hr]
        by_cases c1:ok s k = true
        · rw [if_pos c1]
          simp only [c1,true_and]
        · rw [if_neg c1,sS_none M (fun l _=>if_neg (fun z=>c1 z.1))]
          exact (ite_self 0).symm
      · rw [if_neg c,if_neg c]
    rw [e1]
    have e2:sS (fun l=>if ok l r = true then pP M pc ok (h + 1) (j - pc r) s l else 0) M = if pc s ≤ j - pc r then sS (fun k=>sS (fun l=>if ok s k = true ∧ ok l r = true then pP M pc ok h (j - pc r - pc s) k l else 0) M) M else 0:=by
      rw [sS_swap,← sS_when]
      refine sS_congr M (fun l hl=>?_)
      rw [pP]
      by_cases c1:ok l r = true
      · rw [if_pos c1]
        simp only [c1,and_true]
      · rw [if_neg c1,sS_none M (fun l _=>if_neg (fun z=>c1 z.2))]
        exact (ite_self 0).symm
    rw [e2]
    by_cases c:pc s + pc r ≤ j
    · rw [if_pos (by omega),if_pos (by omega),if_pos (by omega),if_pos (by omega),show j - pc s - pc r = j - pc r - pc s by omega]
    · have h1 : ∀ v : Int, (if pc s ≤ j then (if pc r ≤ j - pc s then v else 0) else 0) = 0 := fun v => by
        by_cases d:pc s ≤ j
        · rw [if_pos d,if_neg (by omega)]
        · rw [if_neg d]
      have h2:∀ v:Int,(if pc r ≤ j then (if pc s ≤ j - pc r then v else 0) else 0) = 0:=fun v=>by
        by_cases d:pc r ≤ j
        · rw [if_pos d,if_neg (by omega)]
        · rw [if_neg d]
      rw [h1,h2]
theorem dD_eq:∀ (h j r:Nat),r < M → dD M pc ok h j r = sS (fun s=>pP M pc ok h j s r) M:=by
  intro h
  induction h with
  | zero =>
    intro j r hr
    rw [dD,← sS_pick (if j = pc r then 1 else 0) r M hr]
    refine sS_congr M (fun k _=>?_)
    simp only [pP]
    by_cases c:k = r
    · subst c;simp
    · simp [c]
  | succ h ih =>
    intro j r hr
    rw [sS_congr M (fun s hs=>pP_end M pc ok h j s r hs hr),sS_when,dD]
    by_cases c:pc r ≤ j
    · rw [if_pos c,if_pos c,sS_swap]
      refine sS_congr M (fun l hl=>?_)
      rw [ih _ l hl]
      by_cases c1:ok l r = true
      · simp only [if_pos c1]
      · simp only [if_neg c1]
        exact (sS_none M (fun _ _=>rfl)).symm
    · rw [if_neg c,if_neg c]
end
section
variable (M:Nat) (pc:Nat → Nat) (ok:Nat → Nat → Bool)
theorem cA_chain (h0:∀ i,ok i 0 = true):∀ (h j i:Nat),cA (M + 1) pc ok (h + 1) j (i + 1) = sS (fun r=>pP M (fun q=>pc (q + 1)) (fun q k=>ok (q + 1) (k + 1)) h j i r) M ∨ M ≤ i:=by
  intro h
  induction h with
  | zero =>
    intro j i
    by_cases hi:M ≤ i
    · exact .inr hi
    · refine .inl ?_
      have e1:sS (fun r=>pP M (fun q=>pc (q + 1)) (fun q k=>ok (q + 1) (k + 1)) 0 j i r) M = if j = pc (i + 1) then 1 else 0:=by
        rw [← sS_pick (if j = pc (i + 1) then 1 else 0) i M (by omega)]
        refine sS_congr M (fun k _=>?_)
        simp only [pP]
        by_cases c:k = i
        · subst c;simp
        · have c' : ¬ i = k:=fun z=>c z.symm
          simp [c,c']
      rw [e1,cA,if_neg (Nat.succ_ne_zero i),sS_front,sS_none M (fun k _=>by simp [cA]),Int.add_zero]
      have h0' := h0 (i + 1)
      simp only [cA,and_true,h0', or_true,if_true]
      by_cases c:pc (i + 1) ≤ j
      · rw [if_pos c]
        by_cases d:j = pc (i + 1)
        · rw [if_pos (by omega),if_pos d]
        · rw [if_neg (by omega),if_neg d]
      · rw [if_neg c,if_neg (by omega)]
  | succ h ih =>
    intro j i
    by_cases hi:M ≤ i
    · exact .inr hi
    · refine .inl ?_
      rw [cA,if_neg (Nat.succ_ne_zero i),sS_front,if_neg (show ¬ (ok (i + 1) 0 = true ∧ (0 > 0 ∨ h + 1 = 0)) by omega),Int.zero_add]
      simp only [pP]
      rw [sS_when]
      by_cases c:pc (i + 1) ≤ j
      · rw [if_pos c,if_pos c,sS_swap]
        refine sS_congr M (fun k hk=>?_)
        rcases ih (j - pc (i + 1)) k with e | e
        · by_cases d:ok (i + 1) (k + 1) = true
          · rw [if_pos ⟨d,.inl (by omega)⟩,e]
            simp only [if_pos d]
          · rw [if_neg (fun z=>d z.1)]
            simp only [if_neg d]
            exact (sS_none M (fun _ _=>rfl)).symm
        · omega
      · rw [if_neg c,if_neg c]
theorem cA_dD (h0:∀ i,ok i 0 = true) (h j:Nat):sS (fun i=>cA (M + 1) pc ok (h + 1) j i) (M + 1) = sS (fun r=>dD M (fun q=>pc (q + 1)) (fun q k=>ok (q + 1) (k + 1)) h j r) M:=by
  rw [sS_front,cA_first,Int.zero_add]
  rw [sS_congr M (fun i hi=>(cA_chain M pc ok h0 h j i).resolve_right (by omega)),sS_swap]
  exact sS_congr M (fun r hr=>(dD_eq M _ _ h j r hr).symm)
end
end Go.Proofs.YtemdfjdmokbcoaaGreatDoor.Q
