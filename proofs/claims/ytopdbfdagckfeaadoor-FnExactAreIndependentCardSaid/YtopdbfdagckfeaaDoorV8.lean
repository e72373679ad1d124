import Derived.Test.YtopdbfdagckfeaaDoorPAllx9
import Derived.Test.YtopdbfdagckfeaaDoorV0
import Derived.Test.YtopdbfdagckfeaaDoorV1
import Derived.Test.YtopdbfdagckfeaaDoorQBase
import Derived.Test.YtopdbfdagckfeaaDoorQMask
import Derived.Test.YtopdbfdagckfeaaDoorQMeet
import Derived.Test.YtopdbfdagckfeaaDoorQTrace
set_option linter.unusedVariables false
set_option linter.unusedSimpArgs false
namespace Go.Proofs.YtopdbfdagckfeaaDoor.PAll
open Go.RowKit Go.Proofs.YtopdbfdagckfeaaDoorW.PrintWords Go.Proofs.YtopdbfdagckfeaaDoorW.PrintMore Go.Proofs.YtopdbfdagckfeaaDoor.Q
theorem l05Independent_ev (n : Nat) (hn : n ≤ 24) (f : Nat → Nat → Bool) (u v : List Nat) (hl : u.length ≤ 1000000) (hv : v.length ≤ 1000000) (hu : ∀ x ∈ u, x < n) (hw : ∀ x ∈ v, x < n) : Ev (fun k => spec_l05Independent.f k (n : Int) (mat n f) (ints u) (ints v)) (apartP f u v) := by
  simp only [spec_l05Independent.f]
  have outer : ∀ (suf pre : List Nat), pre ++ suf = u → Ev (fun k => spec_l05Independent.l0 k (ints u) (ints v) (pre.length : Int) (n : Int) (mat n f)) (apartP f suf v) := by
    intro suf
    induction suf with
    | nil =>
      intro pre hp
      refine Ev.succ ?_
      simp only [spec_l05Independent.l0]
      refine Ev.neg (by simp [← hp]) (Ev.const rfl)
    | cons a suf ih =>
      intro pre hp
      have hlen : pre.length + suf.length + 1 = u.length := by rw [← hp]; simp; omega
      have ha : a < n := hu a (by simp [← hp])
      refine Ev.succ ?_
      simp only [spec_l05Independent.l0]
      refine Ev.pos (by simp; omega) ?_
      have inner : ∀ (s q : List Nat), q ++ s = v → (∀ b ∈ q, f a b = false) → Ev (fun k => spec_l05Independent.l1 k (ints u) (ints v) (pre.length : Int) (q.length : Int) (n : Int) (mat n f)) (apartP f (a :: suf) v) := by
        intro s
        induction s with
        | nil =>
          intro q hq hf
          refine Ev.succ ?_
          simp only [spec_l05Independent.l1]
          refine Ev.neg (by simp [← hq]) ?_
          rw [w64' (by omega)]
          have := ih (pre ++ [a]) (by simpa using hp)
          simp only [List.length_append, List.length_cons, List.length_nil] at this
          refine Ev.val this ?_
          simp only [List.append_nil] at hq
          subst hq
          simp only [apartP, List.all_cons]
          rw [show (q.all fun b => !f a b) = true from by simpa using hf]
          rfl
        | cons b s ihs =>
          intro q hq hf
          have hlq : q.length + s.length + 1 = v.length := by rw [← hq]; simp; omega
          have hb : b < n := hw b (by simp [← hq])
          refine Ev.succ ?_
          simp only [spec_l05Independent.l1]
          refine Ev.pos (by simp; omega) (Ev.pos (by omega) (Ev.pos (by simp; omega) (Ev.pos (by omega) ?_)))
          have r1 : rd (ints u) (pre.length : Int) = (a : Int) := by rw [← hp]; exact rd_mid pre suf a
          have r2 : rd (ints v) (q.length : Int) = (b : Int) := by rw [← hq]; exact rd_mid q s b
          rw [r1, r2, l02Dep_eq n hn f _ a b ha hb]
          refine Ev.some_bind (Ev.ite (fun g => ?_) (fun g => ?_))
          · refine Ev.const ?_
            congr 1
            symm
            rw [← Bool.not_eq_true, apartP_iff]
            intro h
            rw [h a (by simp) b (by simp [← hq])] at g
            cases g
          · rw [w64' (by omega)]
            have := ihs (q ++ [b]) (by simpa using hq) (fun x hx => by
              rcases List.mem_append.1 hx with h | h
              · exact hf x h
              · rw [List.mem_singleton.1 h]; simpa using g)
            simp only [List.length_append, List.length_cons, List.length_nil] at this
            exact this
      exact inner v [] rfl (by simp)
  exact outer u [] rfl
theorem maskOf_l0 (n : Nat) (hn : n ≤ 24) : ∀ (suf pre : List Nat), (pre ++ suf).length ≤ 1000000 → (∀ x ∈ pre ++ suf, x < n) →
    Ev (fun k => impl_maskOf.l0 k ((mk n (fun a => decide (a ∈ pre)) : Nat) : Int) (ints (pre ++ suf)) ((pre ++ suf).length : Int) (pre.length : Int)) ((mk n (fun a => decide (a ∈ pre ++ suf)) : Nat) : Int) := by
  intro suf
  induction suf with
  | nil =>
    intro pre hl hw
    refine Ev.succ ?_
    simp only [impl_maskOf.l0]
    exact Ev.neg (by simp) (Ev.const (by simp))
  | cons x suf ih =>
    intro pre hl hw
    have hx : x < n := mem_mid hw
    have hl' : pre.length + suf.length + 1 ≤ 1000000 := by simpa [Nat.add_assoc] using hl
    have i1 := ih (pre ++ [x]) (by simpa using hl) (by simpa using hw)
    simp only [List.append_assoc, List.cons_append, List.nil_append] at i1
    rw [show (pre ++ [x]).length = pre.length + 1 by simp] at i1
    have h1 := mk_lt n (fun a => decide (a ∈ pre))
    have h4 : (2 : Nat) ^ n ≤ 2 ^ 24 := pow24 (by omega)
    have h5 : (2 : Nat) ^ x ≤ 2 ^ 24 := pow24 (by omega)
    have eb : mk n (fun a => decide (a ∈ pre ++ [x])) = mk n (fun a => decide (a ∈ pre)) ||| 2 ^ x := bits_ext fun i => by
      rw [Nat.testBit_or, testBit_mk, testBit_mk, testBit_one]
      by_cases hi : i < n
      · by_cases e : x = i
        · subst e; simp [hi]
        · simp [hi, e, show ¬ i = x from fun h => e h.symm]
      · simp [hi, show ¬ x = i by omega]
    rw [eb] at i1
    refine Ev.succ ?_
    simp only [impl_maskOf.l0]
    refine Ev.pos (by simp; omega) (Ev.pos (by omega) (Ev.pos (by simp; omega) ?_))
    rw [rd_mid, one_eq x (by omega)]
    refine Ev.some_bind ?_
    rw [b_or _ _ (by omega) (by omega), w64' (by omega)]
    exact i1
theorem maskOf_ev (n : Nat) (hn : n ≤ 24) (w : List Nat) (hl : w.length ≤ 1000000) (hw : ∀ x ∈ w, x < n) : Ev (fun k => impl_maskOf.f k (ints w)) ((mk n (fun a => decide (a ∈ w)) : Nat) : Int) := by
  simp only [impl_maskOf.f]
  have := maskOf_l0 n hn w [] hl hw
  have e1 : mk n (fun a => decide (a ∈ ([] : List Nat))) = 0 := Nat.eq_of_testBit_eq fun i => by rw [testBit_mk]; simp
  rw [e1] at this
  simpa using this
theorem apart_ev (n : Nat) (hn : n ≤ 8) (f : Nat → Nat → Bool) (u v : List Nat) (hv : v.length ≤ 1000000) (hu : ∀ x ∈ u, x < n) (hw : ∀ x ∈ v, x < n) : Ev (fun k => impl_ties_apart.f k (mat n f) (ints u) (ints v)) (apartP f u v) := by
  simp only [impl_ties_apart.f]
  refine Ev.bind (maskOf_ev n (by omega) v hv hw) (Ev.const ?_)
  rw [if_pos]
  · congr 1
    rw [Bool.eq_iff_iff, apartP_iff, List.all_eq_true]
    have h4 := mk_lt n (fun a => decide (a ∈ v))
    have h5 : (2 : Nat) ^ n ≤ 2 ^ 24 := pow24 (by omega)
    have key : ∀ a, a < n → ((mk n (f a) &&& mk n (fun b => decide (b ∈ v))) = 0 ↔ ∀ b ∈ v, f a b = false) := fun a ha => by
      constructor
      · intro h b hb
        have := congrArg (fun m => m.testBit b) h
        simp only [Nat.testBit_and, testBit_mk, Nat.zero_testBit] at this
        simpa [hw b hb, hb] using this
      · intro h
        refine Nat.eq_of_testBit_eq fun b => ?_
        rw [Nat.testBit_and, testBit_mk, testBit_mk, Nat.zero_testBit]
        by_cases hb : b ∈ v
        · simp [h b hb]
        · simp [hb]
    constructor
    · intro h a ha
      have h6 := h (a : Int) (List.mem_map.2 ⟨a, ha, rfl⟩)
      have h7 := mk_lt n (f a)
      rw [rd_mat n f a (hu a ha), b_and _ _ (by omega) (by omega), decide_eq_true_eq] at h6
      exact (key a (hu a ha)).1 (by omega)
    · intro h x hx
      obtain ⟨a, ha, rfl⟩ := List.mem_map.1 hx
      have h7 := mk_lt n (f a)
      rw [rd_mat n f a (hu a ha), b_and _ _ (by omega) (by omega), decide_eq_true_eq, (key a (hu a ha)).2 (h a ha)]
      rfl
  · rw [List.all_eq_true]
    intro x hx
    obtain ⟨a, ha, rfl⟩ := List.mem_map.1 hx
    have := hu a ha
    simp; omega
end Go.Proofs.YtopdbfdagckfeaaDoor.PAll
