import Derived.Test.YtopdbfdagckfeaaDoorPAllx3
import Derived.Test.YtopdbfdagckfeaaDoorV0
import Derived.Test.YtopdbfdagckfeaaDoorV1
import Derived.Test.YtopdbfdagckfeaaDoorQBase
import Derived.Test.YtopdbfdagckfeaaDoorQMask
import Derived.Test.YtopdbfdagckfeaaDoorQMeet
import Derived.Test.YtopdbfdagckfeaaDoorQTrace
set_option linter.unusedVariables false
set_option linter.unusedSimpArgs false
namespace Go.Proofs.YtopdbfdagckfeaaDoor.PAll
open Go.RowKit Go.Proofs.YtopdbfdagckfeaaDoorW.PrintWords Go.Proofs.YtopdbfdagckfeaaDoorW.PrintMore Go.Proofs.YtopdbfdagckfeaaDoor.Q
theorem l03First_l0 (n : Nat) (hn : n ≤ 24) (f : Nat → Nat → Bool) (a : Nat) (ha : a < n) : ∀ (suf pre : List Nat), (pre ++ suf).length ≤ 1000000 → (∀ x ∈ pre ++ suf, x < n) →
    Ev (fun k => spec_l03First.l0 k (ints (pre ++ suf)) (a : Int) (pre.length : Int) (n : Int) (mat n f)) (if isFirst f suf a = true then ((pre.length + suf.idxOf a : Nat) : Int) else -1) := by
  intro suf
  induction suf with
  | nil =>
    intro pre hl hw
    refine Ev.succ ?_
    simp only [spec_l03First.l0]
    exact Ev.neg (by simp) (Ev.const rfl)
  | cons b suf ih =>
    intro pre hl hw
    simp only [List.length_append, List.length_cons] at hl
    have hb : b < n := mem_mid hw
    refine Ev.succ ?_
    simp only [spec_l03First.l0]
    refine Ev.pos (by simp; omega) (Ev.pos (by omega) ?_)
    rw [rd_mid]
    refine Ev.ite (fun c => ?_) (fun c => ?_)
    · obtain rfl := Int.ofNat.inj c
      refine Ev.const ?_
      rw [if_pos (isFirst_head f b suf)]
      simp
    · have c' : ¬ b = a := fun e => c (by rw [e])
      rw [l02Dep_eq n hn f _ b a hb ha]
      refine Ev.some_bind (Ev.ite (fun g => ?_) (fun g => ?_))
      · refine Ev.const ?_
        rw [if_neg (by simp [isFirst, c', g])]
      · rw [w64' (by omega)]
        have := ih (pre ++ [b]) (by simp; omega) (by simpa using hw)
        simp only [List.append_assoc, List.cons_append, List.nil_append, List.length_append, List.length_cons, List.length_nil] at this
        refine Ev.val this ?_
        have e1 : isFirst f (b :: suf) a = isFirst f suf a := by simp [isFirst, c', g]
        rw [e1, idxOf_tail _ c']
        by_cases h : isFirst f suf a = true
        · rw [if_pos h, if_pos h]
          congr 1
          omega
        · rw [if_neg h, if_neg h]
theorem l03First_ev (n : Nat) (hn : n ≤ 24) (f : Nat → Nat → Bool) (w : List Nat) (hl : w.length ≤ 1000000) (hw : ∀ x ∈ w, x < n) (a : Nat) (ha : a < n) : Ev (fun k => spec_l03First.f k (n : Int) (mat n f) (ints w) (a : Int)) (fIdx f w a) := by
  simp only [spec_l03First.f]
  have := l03First_l0 n hn f a ha w [] hl hw
  simpa [fIdx] using this
theorem isFirst_snoc (f : Nat → Nat → Bool) (w : List Nat) (x a : Nat) : isFirst f (w ++ [x]) a = (isFirst f w a || (decide (x = a) && w.all fun b => !f b a)) := by
  induction w with
  | nil => simp [isFirst]
  | cons b w ih =>
    simp only [List.cons_append, isFirst, ih, List.all_cons]
    cases decide (b = a) <;> cases f b a <;> cases isFirst f w a <;> simp
theorem firsts_l0 (n : Nat) (hn : n ≤ 8) (f : Nat → Nat → Bool) : ∀ (suf pre : List Nat), (pre ++ suf).length ≤ 1000000 → (∀ x ∈ pre ++ suf, x < n) →
    Ev (fun k => impl_ties_firsts.l0 k (mat n f) ((mk n (isFirst f pre) : Nat) : Int) ((mk n (fun a => pre.any fun b => f b a) : Nat) : Int) (ints (pre ++ suf)) ((pre ++ suf).length : Int) (pre.length : Int)) ((mk n (isFirst f (pre ++ suf)) : Nat) : Int) := by
  intro suf
  induction suf with
  | nil =>
    intro pre hl hw
    refine Ev.succ ?_
    simp only [impl_ties_firsts.l0]
    exact Ev.neg (by simp) (Ev.const (by simp))
  | cons x suf ih =>
    intro pre hl hw
    have hx : x < n := mem_mid hw
    have i1 := ih (pre ++ [x]) (by simpa using hl) (by simpa using hw)
    simp only [List.append_assoc, List.cons_append, List.nil_append] at i1
    rw [show (pre ++ [x]).length = pre.length + 1 by simp] at i1
    have hl' : pre.length + suf.length + 1 ≤ 1000000 := by simpa [Nat.add_assoc] using hl
    have h1 := mk_lt n (isFirst f pre)
    have h2 := mk_lt n (fun a => pre.any fun b => f b a)
    have h3 := mk_lt n (f x)
    have h4 : (2 : Nat) ^ n ≤ 2 ^ 24 := pow24 (by omega)
    have h5 : (2 : Nat) ^ x ≤ 2 ^ 24 := pow24 (by omega)
    have eb : mk n (fun a => (pre ++ [x]).any fun b => f b a) = mk n (fun a => pre.any fun b => f b a) ||| mk n (f x) := bits_ext fun i => by
      rw [Nat.testBit_or, testBit_mk, testBit_mk, testBit_mk]
      by_cases hi : i < n <;> simp [hi]
    rw [eb] at i1
    refine Ev.succ ?_
    simp only [impl_ties_firsts.l0]
    refine Ev.pos (by simp; omega) (Ev.pos (by omega) (Ev.pos (by simp; omega) ?_))
    rw [rd_mid, has_eq _ x (by omega) (by omega), rd_mat n f x hx, b_or _ _ (by omega) (by omega), testBit_mk]
    refine Ev.some_bind (Ev.ite (fun g => ?_) (fun g => ?_))
    · refine Ev.pos (by omega) (Ev.pos (by simp; omega) ?_)
      rw [w64' (by omega)]
      have eo : mk n (isFirst f (pre ++ [x])) = mk n (isFirst f pre) := mk_congr fun a _ => by
        rw [isFirst_snoc]
        by_cases e : x = a
        · subst e
          have : (pre.all fun b => !f b x) = false := by
            rw [← Bool.not_eq_true]
            simp [hx] at g
            obtain ⟨b, hb, hf⟩ := g
            intro h
            have := List.all_eq_true.1 h b hb
            simp [hf] at this
          rw [this]; simp
        · simp [e]
      rw [eo] at i1
      exact i1
    · rw [one_eq x (by omega)]
      refine Ev.some_bind (Ev.pos (by omega) (Ev.pos (by simp; omega) ?_))
      rw [w64' (by omega), b_or _ _ (by omega) (by omega)]
      have eo : mk n (isFirst f (pre ++ [x])) = mk n (isFirst f pre) ||| 2 ^ x := bits_ext fun i => by
        rw [Nat.testBit_or, testBit_mk, testBit_mk, testBit_one, isFirst_snoc]
        by_cases e : x = i
        · subst e
          have : (pre.all fun b => !f b x) = true := by
            rw [List.all_eq_true]
            intro b hb
            simp only [hx, decide_true, Bool.true_and] at g
            have := fun h => g (List.any_eq_true.2 ⟨b, hb, h⟩)
            simpa using this
          simp [hx, this]
        · simp [e]
      rw [eo] at i1
      exact i1
theorem firsts_ev (n : Nat) (hn : n ≤ 8) (f : Nat → Nat → Bool) (w : List Nat) (hl : w.length ≤ 1000000) (hw : ∀ x ∈ w, x < n) : Ev (fun k => impl_ties_firsts.f k (mat n f) (ints w)) ((mk n (isFirst f w) : Nat) : Int) := by
  simp only [impl_ties_firsts.f]
  have := firsts_l0 n hn f w [] hl hw
  have e1 : mk n (isFirst f []) = 0 := Nat.eq_of_testBit_eq fun i => by rw [testBit_mk]; simp [isFirst]
  have e2 : mk n (fun a => ([] : List Nat).any fun b => f b a) = 0 := Nat.eq_of_testBit_eq fun i => by rw [testBit_mk]; simp
  rw [e1, e2] at this
  simpa using this
end Go.Proofs.YtopdbfdagckfeaaDoor.PAll
