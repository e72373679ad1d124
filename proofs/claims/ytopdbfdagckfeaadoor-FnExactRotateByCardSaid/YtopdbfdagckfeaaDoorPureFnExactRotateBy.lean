/- For every alphabet and words, FnExactRotateBy answers true: the program's RotateBy and the reference's come to the same, and leave their arguments alone. No condition. -/
import Derived.Test.YtopdbfdagckfeaaDoorPAllx1
import Derived.Test.YtopdbfdagckfeaaDoorPAllx20
import Derived.Test.YtopdbfdagckfeaaDoorPAllx21
import Derived.Test.YtopdbfdagckfeaaDoorV0
import Derived.Test.YtopdbfdagckfeaaDoorV1
import Derived.Test.YtopdbfdagckfeaaDoorV2
import Derived.Test.YtopdbfdagckfeaaDoorV3
import Derived.Test.YtopdbfdagckfeaaDoorV4
import Derived.Test.YtopdbfdagckfeaaDoorV5
import Derived.Test.YtopdbfdagckfeaaDoorQBase
import Derived.Test.YtopdbfdagckfeaaDoorQMeet
import Derived.Test.YtopdbfdagckfeaaDoorQTrace
import Derived.Test.YtopdbfdagckfeaaDoorStmtFnExactRotateBy
set_option linter.unusedVariables false
set_option linter.unusedSimpArgs false
namespace Go.Proofs.YtopdbfdagckfeaaDoor.LFnExactRotateBy
open Go.RowKit Go.Proofs.YtopdbfdagckfeaaDoorW.PrintWords Go.Proofs.YtopdbfdagckfeaaDoorW.PrintMore Go.Proofs.YtopdbfdagckfeaaDoor.Q
open Go.Proofs.YtopdbfdagckfeaaDoor.PAll
/-- the rotations by some letters, one after the other -/
def rotR (f : Nat → Nat → Bool) (n : Nat) : List Nat → List Nat → List Int × Int
  | [], w => (ints w, 0)
  | a :: v, w => if isFirst f w a = true then rotR f n v (normalP f n (w.erase a ++ [a])) else ([], 5)
theorem rot_lt {f : Nat → Nat → Bool} {n : Nat} (hs : ∀ a b, f a b = f b a) {w : List Nat} {a : Nat} (ha : a < n) (hw : ∀ x ∈ w, x < n) (h : isFirst f w a = true) : (∀ x ∈ normalP f n (w.erase a ++ [a]), x < n) ∧ (normalP f n (w.erase a ++ [a])).length = w.length := by
  have h1 : ∀ x ∈ w.erase a ++ [a], x < n := fun x hx => (List.mem_append.1 hx).elim (erase_lt hw x) (fun h => by rw [List.mem_singleton.1 h]; exact ha)
  refine ⟨normalP_lt f hs h1, ?_⟩
  rw [normalP_length f hs h1]
  have := length_erase f h
  simp; omega
theorem rotR_length {f : Nat → Nat → Bool} {n : Nat} (hs : ∀ a b, f a b = f b a) : ∀ (v w : List Nat), (∀ x ∈ w, x < n) → (∀ x ∈ v, x < n) → (rotR f n v w).1.length ≤ w.length := by
  intro v
  induction v with
  | nil => intro w _ _; simp [rotR]
  | cons a v ih =>
    intro w hw hv
    simp only [rotR]
    split
    · rename_i h
      have h1 := rot_lt hs (hv a (by simp)) hw h
      have := ih _ h1.1 (fun x hx => hv x (by simp [hx]))
      omega
    · simp
theorem spec_l0_ev (n : Nat) (hn : n ≤ 8) (f : Nat → Nat → Bool) (hs : ∀ a b, f a b = f b a) : ∀ (v pre w : List Nat), (pre ++ v).length ≤ 1000000 → w.length ≤ 100000 → (∀ x ∈ v, x < n) → (∀ x ∈ w, x < n) →
    Ev (fun k => spec_RotateBy.l0 k (ints (pre ++ v)) (ints w) (pre.length : Int) (n : Int) (mat n f)) (rotR f n v w) := by
  intro v
  induction v with
  | nil =>
    intro pre w hl hwl hv hw
    refine Ev.succ ?_
    simp only [spec_RotateBy.l0]
    exact Ev.neg (by simp) (Ev.const rfl)
  | cons a v ih =>
    intro pre w hl hwl hv hw
    have hl' : pre.length + v.length + 1 ≤ 1000000 := by simpa [Nat.add_assoc] using hl
    have ha : a < n := hv a (by simp)
    refine Ev.succ ?_
    simp only [spec_RotateBy.l0, spec_l07Rotate.f]
    refine Ev.pos (by simp; omega) (Ev.pos (by omega) ?_)
    rw [rd_mid]
    simp only [rotR]
    by_cases h : isFirst f w a = true
    · have h1 := rot_lt hs ha hw h
      have he := length_erase f h
      have h2 : ∀ x ∈ w.erase a ++ [a], x < n := fun x hx => (List.mem_append.1 hx).elim (erase_lt hw x) (fun h => by rw [List.mem_singleton.1 h]; exact ha)
      rw [if_pos h]
      refine Ev.bind (Ev.bind (l03First_ev n (by omega) f w (by omega) hw a ha) (Ev.neg (by unfold fIdx; rw [if_pos h]; omega) (r := (ints (normalP f n (w.erase a ++ [a])), true)) ?_)) (Ev.pos rfl ?_)
      · rw [l03Without_first f w (by omega) a h]
        simp only [Option.bind_some]
        refine Ev.pos (by simp; omega) ?_
        rw [show ints (w.erase a) ++ [(a : Int)] = ints (w.erase a ++ [a]) by rw [ints_append]; rfl]
        exact Ev.bind (l03Normal_ev n (by omega) f _ (by simp; omega) h2) (Ev.now _)
      · rw [w64' (by omega)]
        have := ih (pre ++ [a]) _ (by simpa using hl) (by omega) (fun x hx => hv x (by simp [hx])) h1.1
        simp only [List.append_assoc, List.cons_append, List.nil_append] at this
        rw [show (pre ++ [a]).length = pre.length + 1 by simp] at this
        exact this
    · rw [if_neg h]
      exact Ev.bind (Ev.bind (l03First_ev n (by omega) f w (by omega) hw a ha) (Ev.pos (by unfold fIdx; rw [if_neg h]; omega) (Ev.now _))) (Ev.neg (by simp) (Ev.now _))
theorem impl_l0_ev (n : Nat) (hn : n ≤ 8) (f : Nat → Nat → Bool) (hs : ∀ a b, f a b = f b a) : ∀ (v pre w : List Nat), (pre ++ v).length ≤ 1000000 → w.length ≤ 100000 → (∀ x ∈ v, x < n) → (∀ x ∈ w, x < n) →
    Ev (fun k => impl_RotateBy.l0 k (mat n f) (ints w) (ints (pre ++ v)) ((pre ++ v).length : Int) (pre.length : Int)) (rotR f n v w) := by
  intro v
  induction v with
  | nil =>
    intro pre w hl hwl hv hw
    refine Ev.succ ?_
    simp only [impl_RotateBy.l0]
    exact Ev.neg (by simp) (Ev.const rfl)
  | cons a v ih =>
    intro pre w hl hwl hv hw
    have hl' : pre.length + v.length + 1 ≤ 1000000 := by simpa [Nat.add_assoc] using hl
    have ha : a < n := hv a (by simp)
    have h4 := mk_lt n (isFirst f w)
    have h5 : (2 : Nat) ^ n ≤ 2 ^ 24 := pow24 (by omega)
    refine Ev.succ ?_
    simp only [impl_RotateBy.l0, impl_ties_rotated.f]
    refine Ev.pos (by simp; omega) (Ev.pos (by omega) (Ev.pos (by simp; omega) (Ev.bind (firsts_ev n hn f w (by omega) hw) ?_)))
    rw [rd_mid, has_eq _ a (by omega) (by omega), testBit_mk]
    simp only [rotR]
    refine Ev.some_bind ?_
    by_cases h : isFirst f w a = true
    · have h1 := rot_lt hs ha hw h
      have he := length_erase f h
      have h2 : ∀ x ∈ w.erase a ++ [a], x < n := fun x hx => (List.mem_append.1 hx).elim (erase_lt hw x) (fun h => by rw [List.mem_singleton.1 h]; exact ha)
      rw [if_pos h]
      refine Ev.pos (by simp [ha, h]) (Ev.bind (Ev.bind (withoutFirst_ev w (by omega) a (isFirst_mem f h)) (Ev.pos (by simp; omega) (r := ints (normalP f n (w.erase a ++ [a]))) ?_)) ?_)
      · rw [show ints (w.erase a) ++ [(a : Int)] = ints (w.erase a ++ [a]) by rw [ints_append]; rfl]
        exact Ev.bind (normal_ev n hn f _ (by simp; omega) h2) (Ev.now _)
      · rw [w64' (by omega)]
        have := ih (pre ++ [a]) _ (by simpa using hl) (by omega) (fun x hx => hv x (by simp [hx])) h1.1
        simp only [List.append_assoc, List.cons_append, List.nil_append] at this
        rw [show (pre ++ [a]).length = pre.length + 1 by simp] at this
        exact this
    · rw [if_neg h]
      exact Ev.neg (by simp [h]) (Ev.now _)

theorem both_ev (n : Int) (D l1 l2 : List Int) : ∃ r : List Int × Int, r.1.length ≤ 100000 ∧ Ev (fun k => spec_RotateBy.f k n D l1 l2) r ∧ Ev (fun k => impl_RotateBy.f k n D l1 l2) r := by
  have hc := l03Code_ev n D l1 l2
  have hk := checkWords_ev n D [l1, l2]
  have e : (∀ x ∈ [l1, l2], Word n x) ↔ (Word n l1 ∧ Word n l2) := by simp
  simp only [e] at hk
  simp only [spec_RotateBy.f, impl_RotateBy.f, impl_Alphabet_ties.f]
  by_cases hA : Alpha n D
  · by_cases hW : Word n l1 ∧ Word n l2
    · rw [if_pos hA, if_pos hW] at hc hk
      obtain ⟨m, f, rfl, rfl, hm, hs, hr⟩ := hA.form
      obtain ⟨u, rfl, hul, hu⟩ := hW.1.form
      obtain ⟨v, rfl, hvl, hv⟩ := hW.2.form
      clear hA hW e
      have hnl := normalP_length f hs hu
      have hnu := normalP_lt f hs hu
      refine ⟨rotR f m v (normalP f m u), Nat.le_trans (rotR_length hs v _ hnu hv) (by omega), Ev.bind hc (Ev.pos rfl (Ev.bind (l03Normal_ev m (by omega) f u (by omega) hu) ?_)), Ev.bind hk (Ev.pos rfl (Ev.some_bind (Ev.bind (normal_ev m hm f u (by omega) hu) ?_)))⟩
      · exact spec_l0_ev m hm f hs v [] _ (by simp; omega) (by omega) hv hnu
      · have := impl_l0_ev m hm f hs v [] _ (by simp; omega) (by omega) hv hnu
        simp only [List.nil_append, List.length_nil] at this
        rw [ints_length]
        exact this
    · rw [if_pos hA, if_neg hW] at hc hk
      exact ⟨([], 2), by simp, Ev.bind hc (Ev.neg (by decide) (Ev.now _)), Ev.bind hk (Ev.neg (by decide) (Ev.now _))⟩
  · rw [if_neg hA] at hc hk
    exact ⟨([], 1), by simp, Ev.bind hc (Ev.neg (by decide) (Ev.now _)), Ev.bind hk (Ev.neg (by decide) (Ev.now _))⟩
theorem law_ev (n : Int) (D : List Int) (l1 : List Int) (l2 : List Int) (hD : D.length ≤ maxLen) (hl1 : l1.length ≤ maxLen) (hl2 : l2.length ≤ maxLen) : Ev (fun k => laws_FnExactRotateBy.f k n D l1 l2) true := by
  unfold maxLen at hD hl1 hl2
  simp only [laws_FnExactRotateBy.f]
  refine Ev.ite (fun c => Ev.now _) (fun cl1 => ?_)
  refine Ev.ite (fun c => Ev.now _) (fun cl2 => ?_)
  rw [szAlphabet_eq n D 1048576 (by omega) (by omega) hD]
  refine Ev.some_bind (Ev.ite (fun c2 => Ev.now _) (fun c2 => ?_))
  have hD' : D.length ≤ 1048576 := by
    by_cases g : (D.length : Int) ≤ 1048576
    · omega
    · rw [if_neg g] at c2; omega
  have hA := toAlphabet_ev n D (by omega)
  have eA := eqAlphabet_ev n D (by omega)
  have tl1 := toInt64S_ev l1 (by omega)
  have el1 := eqInt64S_ev l1 (by omega)
  have tl2 := toInt64S_ev l2 (by omega)
  have el2 := eqInt64S_ev l2 (by omega)
  obtain ⟨r, hr, hs, hi⟩ := both_ev n D l1 l2
  have er := eqInt64S_ev r.1 (by omega)
  have mA := markAlphabet_ev n D 1 (by omega) (by omega) (by omega)
  have ml1 := markInt64S_ev l1 (1 + (D.length : Int)) (by omega) (by omega) (by omega)
  have ml2 := markInt64S_ev l2 (1 + (D.length : Int) + (l1.length : Int)) (by omega) (by omega) (by omega)
  have mr := markInt64S_ev r.1 1 (by omega) (by omega) (by omega)
  have he := heldInt64S_ev r.1 1 (by omega) (by omega)
  refine Ev.bind hA ?_
  refine Ev.bind tl1 ?_
  refine Ev.bind tl2 ?_
  refine Ev.bind hs ?_
  refine Ev.bind hA ?_
  refine Ev.bind tl1 ?_
  refine Ev.bind tl2 ?_
  refine Ev.bind hi ?_
  refine Ev.bind er (Ev.pos rfl (Ev.pos rfl ?_))
  refine Ev.bind hA (Ev.bind eA (Ev.pos rfl ?_))
  refine Ev.bind tl1 (Ev.bind el1 (Ev.pos rfl ?_))
  refine Ev.bind tl2 (Ev.bind el2 (Ev.pos rfl ?_))
  refine Ev.bind mA ?_
  refine Ev.bind ml1 ?_
  refine Ev.bind ml2 ?_
  refine Ev.neg (by simp only []; omega) ?_
  refine Ev.bind er (Ev.pos rfl ?_)
  refine Ev.bind mr (Ev.bind he (Ev.neg (by omega) (Ev.pos rfl ?_)))
  refine Ev.bind hA ?_
  refine Ev.bind tl1 ?_
  refine Ev.bind tl2 ?_
  refine Ev.bind hi (Ev.bind er (Ev.pos rfl (Ev.pos rfl ?_)))
  exact Ev.bind he (Ev.neg (by omega) (Ev.pos rfl (Ev.now _)))
theorem pure : PureStmt := fun n D l1 l2 _ hD _ hl1 _ hl2 _ => (law_ev n D l1 l2 hD hl1 hl2).rounds
end Go.Proofs.YtopdbfdagckfeaaDoor.LFnExactRotateBy
