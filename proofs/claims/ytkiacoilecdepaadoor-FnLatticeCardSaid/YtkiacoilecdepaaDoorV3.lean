import Derived.Test.YtkiacoilecdepaaDoorPAllx6
import Derived.Test.YtkiacoilecdepaaDoorV0
import Derived.Test.YtkiacoilecdepaaDoorV1
import Derived.Test.YtkiacoilecdepaaDoorQBase
import Derived.Test.YtkiacoilecdepaaDoorQTrace
set_option linter.unusedVariables false
set_option linter.unusedSimpArgs false
namespace Go.Proofs.YtkiacoilecdepaaDoor.PAll
open Go.RowKit Go.Proofs.YtkiacoilecdepaaDoorW.PrintWords Go.Proofs.YtkiacoilecdepaaDoorW.PrintMore Go.Proofs.YtkiacoilecdepaaDoor.Q
theorem l01Own_eq (l : List Int) (h : l.length < 17592186044416) : spec_l01Own.f l = some l := by
 unfold spec_l01Own.f
 simp only [Option.bind_some, List.length_nil, List.nil_append]
 rw [if_pos (by omega)]
theorem l03Without_eq (w : List Nat) (hl : w.length ≤ 1000000) (i : Nat) (hi : i < w.length) : spec_l03Without.f (ints w) (i : Int) = some (ints (w.eraseIdx i)) := by
 unfold spec_l03Without.f
 rw [if_pos (by omega), if_pos (by simp; omega), w64' (by omega), Int.toNat_natCast, l01Own_eq _ (by simp; omega)]
 simp only [Option.bind_some]
 rw [if_pos (by omega), if_pos (by simp; omega), show ((i : Int) + 1).toNat = i + 1 by omega, if_pos (by simp; omega), ← ints_eraseIdx, List.eraseIdx_eq_take_drop_succ]
theorem l03Without_first (f : Nat → Nat → Bool) (w : List Nat) (hl : w.length ≤ 1000000) (a : Nat) (h : isFirst f w a = true) : spec_l03Without.f (ints w) (fIdx f w a) = some (ints (w.erase a)) := by
 have hm := isFirst_mem f h
 unfold fIdx
 rw [if_pos h, l03Without_eq w hl _ (idxOf_lt hm), erase_idx hm]
theorem l03Normal_l0 (n : Nat) (hn : n ≤ 24) (f : Nat → Nat → Bool) : ∀ (L : Nat) (w : List Nat) (acc : List Int), w.length = L → acc.length + w.length ≤ 1000000 → (∀ x ∈ w, x < n) →
  Ev (fun k => spec_l03Normal.l0 k acc (ints w) (n : Int) (mat n f)) (acc ++ ints (normalP f n w)) := by
 intro L
 induction L with
 | zero =>
  intro w acc hL hl hw
  obtain rfl := List.eq_nil_of_length_eq_zero hL
  refine Ev.succ ?_
  simp only [spec_l03Normal.l0]
  refine Ev.neg (by simp [ints]) (Ev.const ?_)
  simp [normalP_nil, ints]
 | succ L ih =>
  intro w acc hL hl hw
  have hne : w ≠ [] := by rintro rfl; simp at hL
  obtain ⟨h1, h2, h3⟩ := least_first f hw hne
  rw [normalP_cons f hw hne]
  refine Ev.succ ?_
  simp only [spec_l03Normal.l0]
  refine Ev.pos (by simp; omega) ?_
  have inner : ∀ (d a : Nat), a + d = leastF (isFirst f w) n → Ev (fun k => spec_l03Normal.l1 k acc (ints w) (a : Int) (n : Int) (mat n f)) (acc ++ ints (leastF (isFirst f w) n :: normalP f n (w.erase (leastF (isFirst f w) n)))) := by
   intro d
   induction d with
   | zero =>
    intro a ha
    obtain rfl : a = leastF (isFirst f w) n := by omega
    refine Ev.succ ?_
    simp only [spec_l03Normal.l1]
    refine Ev.pos (by omega) (Ev.bind (l03First_ev n hn f w (by omega) hw _ h1) (Ev.pos (by unfold fIdx; rw [if_pos h2]; omega) (Ev.pos (by omega) ?_)))
    rw [l03Without_first f w (by omega) _ h2]
    refine Ev.some_bind ?_
    have he := length_erase f h2
    refine Ev.val (ih _ _ (by omega) (by simp; omega) (erase_lt hw)) ?_
    rw [ints_cons]
    simp
   | succ d ihd =>
    intro a ha
    refine Ev.succ ?_
    simp only [spec_l03Normal.l1]
    refine Ev.pos (by omega) (Ev.bind (l03First_ev n hn f w (by omega) hw a (by omega)) (Ev.neg (by unfold fIdx; rw [h3 a (by omega)]; simp) ?_))
    rw [w64' (by omega)]
    exact ihd (a + 1) (by omega)
  exact inner (leastF (isFirst f w) n) 0 (by omega)
theorem l03Normal_ev (n : Nat) (hn : n ≤ 24) (f : Nat → Nat → Bool) (w : List Nat) (hl : w.length ≤ 1000000) (hw : ∀ x ∈ w, x < n) : Ev (fun k => spec_l03Normal.f k (n : Int) (mat n f) (ints w)) (ints (normalP f n w)) := by
 simp only [spec_l03Normal.f]
 rw [l01Own_eq _ (by simp; omega)]
 refine Ev.some_bind (Ev.val (l03Normal_l0 n hn f _ w [] rfl (by simpa using hl) hw) (by simp))
theorem likeInts_ev (x : List Int) (hx : x.length ≤ 17592186044416) : Ev (fun k => laws_likeInts.f k x x) true := by
 have loop : ∀ (d i : Nat), i + d = x.length → Ev (fun k => laws_likeInts.l0 k x x (i : Int)) true := by
  intro d
  induction d with
  | zero =>
   intro i hi
   refine Ev.succ ?_
   simp only [laws_likeInts.l0]
   exact Ev.neg (by omega) (Ev.now _)
  | succ d ih =>
   intro i hi
   refine Ev.succ ?_
   simp only [laws_likeInts.l0]
   refine Ev.pos (by omega) (Ev.pos (by omega) (Ev.pos (by omega) (Ev.pos trivial ?_)))
   rw [w64' (by omega)]
   exact ih (i + 1) (by omega)
 simp only [laws_likeInts.f]
 exact Ev.pos trivial (loop x.length 0 (by omega))
end Go.Proofs.YtkiacoilecdepaaDoor.PAll
