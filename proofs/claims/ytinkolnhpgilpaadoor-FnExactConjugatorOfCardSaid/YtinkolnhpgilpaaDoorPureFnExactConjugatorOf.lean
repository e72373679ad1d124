/- For every alphabet and words, FnExactConjugatorOf answers true: the program's ConjugatorOf and the reference's come to the same, and leave their arguments alone. No condition. -/
import Derived.Test.YtinkolnhpgilpaaDoorPAllx0
import Derived.Test.YtinkolnhpgilpaaDoorPAllx1
import Derived.Test.YtinkolnhpgilpaaDoorPAllx2
import Derived.Test.YtinkolnhpgilpaaDoorPAllx3
import Derived.Test.YtinkolnhpgilpaaDoorPAllx5
import Derived.Test.YtinkolnhpgilpaaDoorPAllx6
import Derived.Test.YtinkolnhpgilpaaDoorV0
import Derived.Test.YtinkolnhpgilpaaDoorV1
import Derived.Test.YtinkolnhpgilpaaDoorV2
import Derived.Test.YtinkolnhpgilpaaDoorQBase
import Derived.Test.YtinkolnhpgilpaaDoorQConj
import Derived.Test.YtinkolnhpgilpaaDoorQMeet
import Derived.Test.YtinkolnhpgilpaaDoorQTrace
import Derived.Test.YtinkolnhpgilpaaDoorStmtFnExactConjugatorOf
set_option linter.unusedVariables false
set_option linter.unusedSimpArgs false
namespace Go.Proofs.YtinkolnhpgilpaaDoor.LFnExactConjugatorOf
open Go.RowKit Go.Proofs.YtinkolnhpgilpaaDoorW.PrintWords Go.Proofs.YtinkolnhpgilpaaDoorW.PrintMore Go.Proofs.YtinkolnhpgilpaaDoor.Q
open Go.Proofs.YtinkolnhpgilpaaDoor.PAll
/-- the words by which the conjugates are found -/
def clsB (l : List (List Nat × List Nat)) : List (List Int) := (l.map Prod.snd).map ints
theorem clsB_length (l : List (List Nat × List Nat)) : (clsB l).length = l.length := by simp [clsB]
theorem clsB_at {l : List (List Nat × List Nat)} {i : Nat} (hi : i < l.length) : rd_L1 (clsB l) (i : Int) = ints (l.getD i ([], [])).2 := by
  simp only [rd_L1, Int.toNat_natCast, clsB]
  simp [List.getD_eq_getElem?_getD, hi]
theorem conjOf_l1 {n N : Nat} (hn : n ≤ 8) {f : Nat → Nat → Bool} (hs : ∀ a b, f a b = f b a) (hN : N ≤ 1000) (g : List Int) (i : Nat) (p : List Nat × List Nat) : ∀ (m a : Nat), a + m = n → ∀ l : List (List Nat × List Nat), Listed n N l → i < l.length → l.getD i ([], []) = p → (clsR f n p (List.range' a m) l).length ≤ 1000 → i ≤ 1001 →
    ∀ r, Ev (fun k => spec_ConjugatorOf.l0 k (clsW (clsR f n p (List.range' a m) l)) (clsB (clsR f n p (List.range' a m) l)) g ((i + 1 : Nat) : Int) (n : Int) (mat n f)) r → Ev (fun k => spec_ConjugatorOf.l1 k (clsW l) (clsB l) g (i : Int) (a : Int) (n : Int) (mat n f)) r := by
  intro m
  induction m with
  | zero =>
    intro a ha l hg hi hp hl hi2 r hr
    refine Ev.succ ?_
    simp only [spec_ConjugatorOf.l1]
    refine Ev.neg (by omega) ?_
    rw [w64' (by omega)]
    exact hr
  | succ m ih =>
    intro a ha l hg hi hp hl hi2 r hr
    have hpg := hg.at hi
    rw [hp] at hpg
    have han : a < n := by omega
    have hrot := l07Rotate_ev n hn f p.1 (by omega) hpg.1 a han
    have e1 : rd_L1 (clsW l) (i : Int) = ints p.1 := by rw [clsW_at hi, hp]
    have e2 : rd_L1 (clsB l) (i : Int) = ints p.2 := by rw [clsB_at hi, hp]
    have hlen1 := clsW_length l
    have hlen2 := clsB_length l
    have hll : l.length ≤ 1000 := Nat.le_trans (clsR_le f n p _ l) hl
    rw [List.range'_succ, clsR_cons] at hl hr
    by_cases hf : isFirst f p.1 a = true
    · rw [if_pos hf] at hrot
      obtain ⟨q, hq, hq2⟩ := clsFind_ev hg hN hll (rotP f n p.1 a)
      rcases hq2 with hq2 | hq2
      · have eS : clsS f n p l a = l ++ [(rotP f n p.1 a, p.2 ++ [a])] := by unfold clsS; rw [if_pos ⟨hf, hq2.2⟩]
        have hg2 := hg.step hs hpg han
        rw [eS] at hg2 hl hr
        have eW : clsW (l ++ [(rotP f n p.1 a, p.2 ++ [a])]) = clsW l ++ [ints (rotP f n p.1 a)] := by simp [clsW]
        have eB : clsB (l ++ [(rotP f n p.1 a, p.2 ++ [a])]) = clsB l ++ [ints p.2 ++ [(a : Int)]] := by simp [clsB, ints]
        refine Ev.succ ?_
        simp only [spec_ConjugatorOf.l1]
        refine Ev.pos (by omega) (Ev.pos (by omega) (Ev.pos (by omega) ?_))
        rw [e1, e2, l01Own_eq _ (by rw [ints_length]; omega)]
        refine Ev.bind hrot (Ev.pos rfl (Ev.bind hq (Ev.pos hq2.1 (Ev.pos (by omega) (Ev.pos (by omega) (Ev.some_bind (Ev.pos (by rw [ints_length]; omega) (Ev.pos (by omega) ?_))))))))
        have := ih (a + 1) (by omega) (l ++ [(rotP f n p.1 a, p.2 ++ [a])]) hg2 (by simp; omega) (by rw [getD_append_at hi]; exact hp) hl hi2 r hr
        rw [eW, eB] at this
        rw [w64' (by omega)]
        exact this
      · have eS : clsS f n p l a = l := by unfold clsS; rw [if_neg (fun h => h.2 hq2.2)]
        rw [eS] at hl hr
        refine Ev.succ ?_
        simp only [spec_ConjugatorOf.l1]
        refine Ev.pos (by omega) (Ev.pos (by omega) (Ev.pos (by omega) ?_))
        rw [e1]
        refine Ev.bind hrot (Ev.pos rfl (Ev.bind hq (Ev.neg (by omega) ?_)))
        rw [w64' (by omega)]
        exact ih (a + 1) (by omega) l hg hi hp hl hi2 r hr
    · rw [if_neg hf] at hrot
      have eS : clsS f n p l a = l := by unfold clsS; rw [if_neg (fun h => hf h.1)]
      rw [eS] at hl hr
      refine Ev.succ ?_
      simp only [spec_ConjugatorOf.l1]
      refine Ev.pos (by omega) (Ev.pos (by omega) (Ev.pos (by omega) ?_))
      rw [e1]
      refine Ev.bind hrot (Ev.neg (by simp) ?_)
      rw [w64' (by omega)]
      exact ih (a + 1) (by omega) l hg hi hp hl hi2 r hr
/-- what is answered where the search ends -/
def cjOut : Option (List Nat × List Nat) → List Int × Int
  | none => ([], 4)
  | some p => if (p.2.length : Int) > 24 then ([], 3) else (ints p.2, 0)
theorem find_at {q : List Nat × List Nat → Bool} {L : List (List Nat × List Nat)} {i : Nat} (hi : i < L.length) (h1 : q (L.getD i ([], [])) = true) (h2 : ∀ j, j < i → q (L.getD j ([], [])) = false) : L.find? q = some (L.getD i ([], [])) := by
  induction L generalizing i with
  | nil => simp at hi
  | cons p L ih =>
    cases i with
    | zero => rw [List.find?_cons_of_pos (by simpa using h1)]; simp
    | succ i =>
      rw [List.find?_cons_of_neg (by have := h2 0 (by omega); simpa using this)]
      rw [ih (i := i) (by simpa using hi) (by simpa using h1) (fun j hj => by have := h2 (j + 1) (by omega); simpa using this)]
      simp
theorem conjOf_l0 {n N : Nat} (hn : n ≤ 8) {f : Nat → Nat → Bool} (hs : ∀ a b, f a b = f b a) (hN : N ≤ 1000) (g : List Nat) (L : List (List Nat × List Nat)) (hgL : g ∈ L.map Prod.fst) : ∀ (k i : Nat), k + i = 1001 → ∀ l : List (List Nat × List Nat), Listed n N l → i ≤ l.length → l.length ≤ 1000 → clsK f n k l i = some L → (∀ j, j < i → (l.getD j ([], [])).1 ≠ g) →
    Ev (fun k => spec_ConjugatorOf.l0 k (clsW l) (clsB l) (ints g) (i : Int) (n : Int) (mat n f)) (cjOut (L.find? fun p => decide (p.1 = g))) := by
  intro k
  induction k with
  | zero => intro i hk l hg hi hl; omega
  | succ k ih =>
    intro i hk l hg hi hl hK hne
    have hlen1 := clsW_length l
    have hlen2 := clsB_length l
    by_cases hc : i < l.length
    · have hpg := hg.at hc
      obtain ⟨t, ht⟩ := clsK_pre f n (k + 1) l i L hK
      have hsame := l01Same_ev (ints (l.getD i ([], [])).1) (ints g) (by rw [ints_length]; omega)
      refine Ev.succ ?_
      simp only [spec_ConjugatorOf.l0]
      refine Ev.pos (by omega) (Ev.pos (by omega) (Ev.bind (by rw [clsW_at hc]; exact hsame) ?_))
      by_cases he : (l.getD i ([], [])).1 = g
      · have hf : (L.find? fun p => decide (p.1 = g)) = some (l.getD i ([], [])) := by
          have eL : ∀ j, j < l.length → L.getD j ([], []) = l.getD j ([], []) := fun j hj => by rw [ht, getD_append_at hj]
          have := find_at (q := fun p => decide (p.1 = g)) (L := L) (i := i) (by rw [ht]; simp; omega) (by rw [eL i hc]; exact decide_eq_true he) (fun j hj => by rw [eL j (by omega)]; exact decide_eq_false (hne j hj))
          rw [eL i hc] at this
          exact this
        rw [hf]
        refine Ev.pos (decide_eq_true (by rw [he])) (Ev.pos (by omega) ?_)
        rw [clsB_at hc, ints_length]
        simp only [cjOut]
        exact Ev.ite (fun h => by rw [if_pos h]; exact Ev.now _) (fun h => by rw [if_neg h]; exact Ev.now _)
      · refine Ev.neg (by simpa using fun h => he (ints_inj h)) ?_
        simp only [clsK, if_pos hc] at hK
        by_cases hq : (clsR f n (l.getD i ([], [])) (List.range n) l).length ≤ 1000
        · rw [if_pos hq] at hK
          have hle := clsR_le f n (l.getD i ([], [])) (List.range n) l
          obtain ⟨t2, ht2⟩ := clsR_pre f n (l.getD i ([], [])) (List.range n) l
          have hR := hg.rounds hs (List.range n) l hpg (fun a ha => List.mem_range.1 ha)
          have h3 := ih (i + 1) (by omega) _ hR (by omega) hq hK (fun j hj => by
            rw [ht2, getD_append_at (by omega)]
            rcases Nat.lt_or_ge j i with h | h
            · exact hne j h
            · rw [show j = i by omega]; exact he)
          rw [List.range_eq_range'] at hq h3
          exact conjOf_l1 hn hs hN (ints g) i _ n 0 (by omega) l hg hc rfl hq (by omega) _ h3
        · rw [if_neg hq] at hK
          cases hK
    · exfalso
      simp only [clsK, if_neg hc] at hK
      rw [← Option.some.inj hK] at hgL
      obtain ⟨p, hp, e⟩ := List.mem_map.1 hgL
      obtain ⟨j, hj, rfl⟩ := List.getElem_of_mem hp
      exact hne j (by omega) (by simpa [List.getD_eq_getElem?_getD, hj] using e)
theorem specConj_ev {n : Nat} (hn : n ≤ 8) {f : Nat → Nat → Bool} (hs : ∀ a b, f a b = f b a) {u v : List Nat} (hl : u.length ≤ 1000) (hu : ∀ x ∈ u, x < n) (hl2 : v.length ≤ 1000) (hv : ∀ x ∈ v, x < n) (hc : Ev (fun k => spec_l03Code.f k (n : Int) (mat n f) (ints u) (ints v)) 0) :
    Ev (fun k => spec_ConjugatorOf.f k (n : Int) (mat n f) (ints u) (ints v)) (match clsP f n u with | none => ([], 3) | some L => cjOut (L.find? fun p => decide (p.1 = normalP f n v))) := by
  have h1 := specAre_ev hn hs hl hu hl2 hv hc
  simp only [spec_ConjugatorOf.f]
  refine Ev.bind h1 ?_
  cases hq : clsP f n u with
  | none =>
    refine Ev.neg (by simp) (Ev.succ ?_)
    simp only [spec_ConjugatorOf.j0]
    refine Ev.neg (by simp) (Ev.succ ?_)
    simp only [spec_ConjugatorOf.j1]
    exact Ev.neg (by simp) (Ev.now _)
  | some L =>
    refine Ev.pos rfl (Ev.succ ?_)
    simp only [spec_ConjugatorOf.j0]
    by_cases hm : normalP f n v ∈ L.map Prod.fst
    · refine Ev.neg (by simp only [decide_eq_true hm]; decide) (Ev.succ ?_)
      simp only [spec_ConjugatorOf.j1]
      refine Ev.pos trivial (Ev.bind (l03Normal_ev n (by omega) f u (by omega) hu) (Ev.bind (l03Normal_ev n (by omega) f v (by omega) hv) ?_))
      exact conjOf_l0 hn hs hl (normalP f n v) L hm 1001 0 rfl _ (found_first hs hu) (by simp) (by simp) hq (fun j hj => absurd hj (Nat.not_lt_zero _))
    · have hf : (L.find? fun p => decide (p.1 = normalP f n v)) = none := by
        rw [List.find?_eq_none]
        intro p hp h
        exact hm (List.mem_map.2 ⟨p, hp, of_decide_eq_true h⟩)
      refine Ev.pos (by simp only [decide_eq_false hm]; decide) (Ev.succ ?_)
      simp only [spec_ConjugatorOf.j1]
      refine Ev.neg (by decide) ?_
      rw [hf]
      exact Ev.now _
theorem both_ev (n : Int) (D l1 l2 : List Int) : ∃ r : List Int × Int, r.1.length ≤ 100000 ∧ Ev (fun k => spec_ConjugatorOf.f k n D l1 l2) r ∧ Ev (fun k => impl_ConjugatorOf.f k n D l1 l2) r := by
  have hc := l03Code_ev n D l1 l2
  have hk := checkWords_ev n D [l1, l2]
  have e : (∀ x ∈ [l1, l2], Word n x) ↔ (Word n l1 ∧ Word n l2) := by simp
  simp only [e] at hk
  by_cases hA : Alpha n D
  · by_cases hW : Word n l1 ∧ Word n l2
    · rw [if_pos hA, if_pos hW] at hc hk
      obtain ⟨m, f, rfl, rfl, hm, hs, hr⟩ := hA.form
      obtain ⟨u, rfl, hul, hu⟩ := hW.1.form
      obtain ⟨v, rfl, hvl, hv⟩ := hW.2.form
      clear hA hW e
      have h1 := specConj_ev hm hs (show u.length ≤ 1000 by omega) hu (show v.length ≤ 1000 by omega) hv hc
      have h2 := checkConj_ev hm hs (show u.length ≤ 1000 by omega) hu hk
      cases hq : clsP f m u with
      | none =>
        rw [hq] at h1 h2
        refine ⟨_, ?_, h1, ?_⟩
        · simp
        · simp only [impl_ConjugatorOf.f]
          exact Ev.bind h2 (Ev.neg (by simp) (Ev.now _))
      | some L =>
        have hL := clsK_found hs 1001 0 _ L (found_first hs hu) (by simp) hq
        rw [hq] at h1 h2
        simp only [] at h1
        cases hf : L.find? (fun p => decide (p.1 = normalP f m v)) with
        | none =>
          rw [hf] at h1
          refine ⟨([], 4), by simp, h1, ?_⟩
          simp only [impl_ConjugatorOf.f, impl_Alphabet_ties.f]
          refine Ev.bind h2 (Ev.pos rfl (Ev.some_bind (Ev.bind (normal_ev m hm f v (by omega) hv) ?_)))
          simp only [impl_conjugator.f, idx_find, hf]
          exact Ev.some_bind (Ev.neg (by simp) (Ev.now _))
        | some p =>
          rw [hf] at h1
          have hp := hL.1 p (List.mem_of_find?_eq_some hf)
          refine ⟨cjOut (some p), ?_, h1, ?_⟩
          · simp only [cjOut]
            split
            · simp
            · simp only [ints_length]; omega
          · simp only [impl_ConjugatorOf.f, impl_Alphabet_ties.f]
            refine Ev.bind h2 (Ev.pos rfl (Ev.some_bind (Ev.bind (normal_ev m hm f v (by omega) hv) ?_)))
            simp only [impl_conjugator.f, idx_find, hf]
            refine Ev.some_bind (Ev.pos rfl ?_)
            simp only [cjOut, Option.map_some, ints_length, slices_Clone_int64_int64.f]
            refine Ev.ite (fun h => by rw [if_pos h]; exact Ev.now _) (fun h => ?_)
            rw [if_neg h, if_pos (by omega)]
            exact Ev.some_bind (Ev.now _)
    · rw [if_pos hA, if_neg hW] at hc hk
      refine ⟨([], 2), by simp, ?_, ?_⟩
      · simp only [spec_ConjugatorOf.f, spec_AreConjugate.f]
        refine Ev.bind (Ev.bind hc (Ev.neg (by decide) (Ev.now (false, 2)))) (Ev.neg (by decide) (Ev.succ ?_))
        simp only [spec_ConjugatorOf.j0]
        refine Ev.neg (by decide) (Ev.succ ?_)
        simp only [spec_ConjugatorOf.j1]
        exact Ev.neg (by decide) (Ev.now _)
      · simp only [impl_ConjugatorOf.f]
        exact Ev.bind (checkConj_bad (by decide) hk) (Ev.neg (by decide) (Ev.now _))
  · rw [if_neg hA] at hc hk
    refine ⟨([], 1), by simp, ?_, ?_⟩
    · simp only [spec_ConjugatorOf.f, spec_AreConjugate.f]
      refine Ev.bind (Ev.bind hc (Ev.neg (by decide) (Ev.now (false, 1)))) (Ev.neg (by decide) (Ev.succ ?_))
      simp only [spec_ConjugatorOf.j0]
      refine Ev.neg (by decide) (Ev.succ ?_)
      simp only [spec_ConjugatorOf.j1]
      exact Ev.neg (by decide) (Ev.now _)
    · simp only [impl_ConjugatorOf.f]
      exact Ev.bind (checkConj_bad (by decide) hk) (Ev.neg (by decide) (Ev.now _))
theorem law_ev (n : Int) (D : List Int) (l1 : List Int) (l2 : List Int) (hD : D.length ≤ maxLen) (hl1 : l1.length ≤ maxLen) (hl2 : l2.length ≤ maxLen) : Ev (fun k => laws_FnExactConjugatorOf.f k n D l1 l2) true := by
  unfold maxLen at hD hl1 hl2
  simp only [laws_FnExactConjugatorOf.f]
  refine Ev.ite (fun c => Ev.now _) (fun cl1 => ?_)
  refine Ev.ite (fun c => Ev.now _) (fun cl2 => ?_)
  rw [szAlphabet_eq n D 1048576 (by omega) (by omega) hD]
  refine Ev.some_bind (Ev.ite (fun c2 => Ev.now _) (fun c2 => ?_))
  have hD' : D.length ≤ 1048576 := by
    by_cases g : (D.length : Int) ≤ 1048576
    · omega
    · rw [if_neg g] at c2; omega
  have hA := toAlphabet_ev n D (by omega)
  have eA := eqAlphabet_ev n D (by omega)
  have tl1 := toInt64S_ev l1 (by omega)
  have el1 := eqInt64S_ev l1 (by omega)
  have tl2 := toInt64S_ev l2 (by omega)
  have el2 := eqInt64S_ev l2 (by omega)
  obtain ⟨r, hr, hs, hi⟩ := both_ev n D l1 l2
  have er := eqInt64S_ev r.1 (by omega)
  have mA := markAlphabet_ev n D 1 (by omega) (by omega) (by omega)
  have ml1 := markInt64S_ev l1 (1 + (D.length : Int)) (by omega) (by omega) (by omega)
  have ml2 := markInt64S_ev l2 (1 + (D.length : Int) + (l1.length : Int)) (by omega) (by omega) (by omega)
  have mr := markInt64S_ev r.1 1 (by omega) (by omega) (by omega)
  have he := heldInt64S_ev r.1 1 (by omega) (by omega)
  refine Ev.bind hA ?_
  refine Ev.bind tl1 ?_
  refine Ev.bind tl2 ?_
  refine Ev.bind hs ?_
  refine Ev.bind hA ?_
  refine Ev.bind tl1 ?_
  refine Ev.bind tl2 ?_
  refine Ev.bind hi ?_
  refine Ev.bind er (Ev.pos rfl (Ev.pos rfl ?_))
  refine Ev.bind hA (Ev.bind eA (Ev.pos rfl ?_))
  refine Ev.bind tl1 (Ev.bind el1 (Ev.pos rfl ?_))
  refine Ev.bind tl2 (Ev.bind el2 (Ev.pos rfl ?_))
  refine Ev.bind mA ?_
  refine Ev.bind ml1 ?_
  refine Ev.bind ml2 ?_
  refine Ev.neg (by simp only []; omega) ?_
  refine Ev.bind er (Ev.pos rfl ?_)
  refine Ev.bind mr (Ev.bind he (Ev.neg (by omega) (Ev.pos rfl ?_)))
  refine Ev.bind hA ?_
  refine Ev.bind tl1 ?_
  refine Ev.bind tl2 ?_
  refine Ev.bind hi (Ev.bind er (Ev.pos rfl (Ev.pos rfl ?_)))
  exact Ev.bind he (Ev.neg (by omega) (Ev.pos rfl (Ev.now _)))
theorem pure : PureStmt := fun n D l1 l2 _ hD _ hl1 _ hl2 _ => (law_ev n D l1 l2 hD hl1 hl2).elim fun K h => ⟨K, h K (Nat.le_refl K)⟩
end Go.Proofs.YtinkolnhpgilpaaDoor.LFnExactConjugatorOf
