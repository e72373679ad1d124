import Derived.Test.YthgapkbkhoeleaaDoorPAllx5
import Derived.Test.YthgapkbkhoeleaaDoorV0
import Derived.Test.YthgapkbkhoeleaaDoorV1
import Derived.Test.YthgapkbkhoeleaaDoorV2
import Derived.Test.YthgapkbkhoeleaaDoorQBase
import Derived.Test.YthgapkbkhoeleaaDoorQMask
import Derived.Test.YthgapkbkhoeleaaDoorQMeet
import Derived.Test.YthgapkbkhoeleaaDoorQOrder
import Derived.Test.YthgapkbkhoeleaaDoorQTrace
set_option linter.unusedVariables false
set_option linter.unusedSimpArgs false
namespace Go.Proofs.YthgapkbkhoeleaaDoor.PAll
open Go.RowKit Go.Proofs.YthgapkbkhoeleaaDoorW.PrintWords Go.Proofs.YthgapkbkhoeleaaDoorW.PrintMore Go.Proofs.YthgapkbkhoeleaaDoor.Q
theorem l05Cut_l0 (n : Nat) (hn : n ≤ 24) (f : Nat → Nat → Bool) : ∀ (u pre v : List Nat), (pre ++ u).length ≤ 1000000 → v.length ≤ 1000000 → (∀ x ∈ u, x < n) → (∀ x ∈ v, x < n) →
    Ev (fun k => spec_l05Cut.l0 k (ints (pre ++ u)) (ints v) (pre.length : Int) (n : Int) (mat n f)) (cutR f u v) := by
  intro u
  induction u with
  | nil =>
    intro pre v hl hv hu hw
    refine Ev.succ ?_
    simp only [spec_l05Cut.l0]
    exact Ev.neg (by simp) (Ev.const rfl)
  | cons a u ih =>
    intro pre v hl hv hu hw
    simp only [List.length_append, List.length_cons] at hl
    have ha : a < n := hu a (by simp)
    refine Ev.succ ?_
    simp only [spec_l05Cut.l0]
    refine Ev.pos (by simp; omega) (Ev.pos (by omega) ?_)
    rw [rd_mid]
    refine Ev.bind (l03First_ev n hn f v hv hw a ha) ?_
    by_cases h : isFirst f v a = true
    · refine Ev.neg (by unfold fIdx; rw [if_pos h]; omega) ?_
      rw [l03Without_first f v hv a h, w64' (by omega)]
      refine Ev.some_bind ?_
      have := ih (pre ++ [a]) (v.erase a) (by simp; omega) (by have := length_erase f h; omega) (fun x hx => hu x (by simp [hx])) (erase_lt hw)
      simp only [List.append_assoc, List.cons_append, List.nil_append, List.length_append, List.length_cons, List.length_nil] at this
      refine Ev.val this ?_
      unfold cutR
      rw [cutP_cons, if_pos h]
    · refine Ev.pos (by unfold fIdx; rw [if_neg h]; omega) (Ev.const ?_)
      unfold cutR
      rw [cutP_cons, if_neg h]
theorem l05Cut_ev (n : Nat) (hn : n ≤ 24) (f : Nat → Nat → Bool) (u v : List Nat) (hl : u.length ≤ 1000000) (hv : v.length ≤ 1000000) (hu : ∀ x ∈ u, x < n) (hw : ∀ x ∈ v, x < n) : Ev (fun k => spec_l05Cut.f k (n : Int) (mat n f) (ints u) (ints v)) (cutR f u v) := by
  simp only [spec_l05Cut.f]
  rw [l01Own_eq _ (by simp; omega)]
  exact Ev.some_bind (l05Cut_l0 n hn f u [] v hl hv hu hw)
theorem l05Meet_l0 (n : Nat) (hn : n ≤ 24) (f : Nat → Nat → Bool) : ∀ (L : Nat) (u v : List Nat) (acc : List Int), u.length ≤ L → u.length ≤ 1000000 → v.length ≤ 1000000 → acc.length + u.length ≤ 1000000 → (∀ x ∈ u, x < n) → (∀ x ∈ v, x < n) →
    ∃ p a b, Meets f u v p a b ∧ Ev (fun k => spec_l05Meet.l0 k acc (ints u) (ints v) true (n : Int) (mat n f)) (acc ++ ints p) := by
  -- one sweep over the letters
  have sweep : ∀ (L : Nat), (∀ (u v : List Nat) (acc : List Int), u.length < L → u.length ≤ 1000000 → v.length ≤ 1000000 → acc.length + u.length ≤ 1000000 → (∀ x ∈ u, x < n) → (∀ x ∈ v, x < n) →
      ∃ p a b, Meets f u v p a b ∧ Ev (fun k => spec_l05Meet.l0 k acc (ints u) (ints v) true (n : Int) (mat n f)) (acc ++ ints p)) →
      ∀ (d c : Nat), c + d = n → ∀ (u v : List Nat) (acc : List Int) (more : Bool), u.length ≤ L → (more = true → u.length < L) → (more = false → ∀ x, x < c → ¬ (isFirst f u x = true ∧ isFirst f v x = true)) →
      u.length ≤ 1000000 → v.length ≤ 1000000 → acc.length + u.length ≤ 1000000 → (∀ x ∈ u, x < n) → (∀ x ∈ v, x < n) →
      ∃ p a b, Meets f u v p a b ∧ Ev (fun k => spec_l05Meet.l1 k acc (ints u) (ints v) more (c : Int) (n : Int) (mat n f)) (acc ++ ints p) := by
    intro L IH d
    induction d with
    | zero =>
      intro c hc u v acc more hL hm1 hm2 hl1 hl2 hl3 hu hv
      obtain rfl : c = n := by omega
      cases more with
      | true =>
        obtain ⟨p, a, b, h1, h2⟩ := IH u v acc (hm1 rfl) hl1 hl2 hl3 hu hv
        refine ⟨p, a, b, h1, Ev.succ ?_⟩
        simp only [spec_l05Meet.l1]
        exact Ev.neg (by omega) h2
      | false =>
        refine ⟨[], u, v, ⟨rfl, rfl, fun x hx => ?_⟩, Ev.succ ?_⟩
        · exact hm2 rfl x (hu x (isFirst_mem f hx.1)) hx
        · simp only [spec_l05Meet.l1]
          refine Ev.neg (by omega) (Ev.succ ?_)
          simp only [spec_l05Meet.l0]
          exact Ev.neg (by simp) (Ev.const (by simp [ints]))
    | succ d ih =>
      intro c hc u v acc more hL hm1 hm2 hl1 hl2 hl3 hu hv
      have e1 := l03First_ev n hn f u hl1 hu c (by omega)
      have e2 := l03First_ev n hn f v hl2 hv c (by omega)
      by_cases h1 : isFirst f u c = true
      · by_cases h2 : isFirst f v c = true
        · have k1 := length_erase f h1
          have k2 := length_erase f h2
          obtain ⟨p, a, b, g1, g2⟩ := ih (c + 1) (by omega) (u.erase c) (v.erase c) (acc ++ [(c : Int)]) true (by omega) (by intro; omega) (by simp) (by omega) (by omega) (by simp; omega) (erase_lt hu) (erase_lt hv)
          refine ⟨c :: p, a, b, Meets.cons f h1 h2 g1, Ev.succ ?_⟩
          simp only [spec_l05Meet.l1]
          refine Ev.pos (by omega) (Ev.bind e1 (Ev.bind e2 (Ev.pos (by unfold fIdx; rw [if_pos h1]; omega) (Ev.succ ?_))))
          simp only [spec_l05Meet.j2]
          refine Ev.pos (by unfold fIdx; rw [if_pos h2]; simp) (Ev.pos (by omega) ?_)
          rw [l03Without_first f u hl1 c h1, l03Without_first f v hl2 c h2, w64' (by omega)]
          refine Ev.some_bind (Ev.some_bind (Ev.val g2 ?_))
          rw [ints_cons]
          simp
        · obtain ⟨p, a, b, g1, g2⟩ := ih (c + 1) (by omega) u v acc more hL hm1 (fun hm x hx => by
            by_cases e : x = c
            · subst e; exact fun h => h2 h.2
            · exact hm2 hm x (by omega)) hl1 hl2 hl3 hu hv
          refine ⟨p, a, b, g1, Ev.succ ?_⟩
          simp only [spec_l05Meet.l1]
          refine Ev.pos (by omega) (Ev.bind e1 (Ev.bind e2 (Ev.pos (by unfold fIdx; rw [if_pos h1]; omega) (Ev.succ ?_))))
          simp only [spec_l05Meet.j2]
          refine Ev.neg (by unfold fIdx; rw [if_neg h2]; simp) ?_
          rw [w64' (by omega)]
          exact g2
      · obtain ⟨p, a, b, g1, g2⟩ := ih (c + 1) (by omega) u v acc more hL hm1 (fun hm x hx => by
          by_cases e : x = c
          · subst e; exact fun h => h1 h.1
          · exact hm2 hm x (by omega)) hl1 hl2 hl3 hu hv
        refine ⟨p, a, b, g1, Ev.succ ?_⟩
        simp only [spec_l05Meet.l1]
        refine Ev.pos (by omega) (Ev.bind e1 (Ev.bind e2 (Ev.neg (by unfold fIdx; rw [if_neg h1]; simp) (Ev.succ ?_))))
        simp only [spec_l05Meet.j2]
        refine Ev.neg (by simp) ?_
        rw [w64' (by omega)]
        exact g2
  intro L
  induction L using Nat.strongRecOn with
  | _ L IH =>
    intro u v acc hL hl1 hl2 hl3 hu hv
    obtain ⟨p, a, b, g1, g2⟩ := sweep L (fun u v acc h => IH u.length h u v acc (Nat.le_refl _)) n 0 (by omega) u v acc false hL (by simp) (by intro _ x hx; omega) hl1 hl2 hl3 hu hv
    refine ⟨p, a, b, g1, Ev.succ ?_⟩
    simp only [spec_l05Meet.l0]
    exact Ev.pos trivial g2
theorem l05Meet_ev (n : Nat) (hn : n ≤ 24) (f : Nat → Nat → Bool) (u v : List Nat) (hl : u.length ≤ 1000000) (hv : v.length ≤ 1000000) (hu : ∀ x ∈ u, x < n) (hw : ∀ x ∈ v, x < n) :
    ∃ p a b, Meets f u v p a b ∧ Ev (fun k => spec_l05Meet.f k (n : Int) (mat n f) (ints u) (ints v)) (ints p) := by
  obtain ⟨p, a, b, h1, h2⟩ := l05Meet_l0 n hn f _ u v [] (Nat.le_refl _) hl hv (by simpa using hl) hu hw
  refine ⟨p, a, b, h1, ?_⟩
  simp only [spec_l05Meet.f]
  rw [l01Own_eq _ (by simp; omega), l01Own_eq _ (by simp; omega)]
  exact Ev.some_bind (Ev.some_bind (Ev.val h2 (by simp)))
theorem meet_l0 (n : Nat) (hn : n ≤ 8) (f : Nat → Nat → Bool) : ∀ (L : Nat) (u v : List Nat) (acc : List Int), u.length = L → v.length ≤ 1000000 → acc.length + u.length ≤ 1000000 → (∀ x ∈ u, x < n) → (∀ x ∈ v, x < n) →
    ∃ p a b, Meets f u v p a b ∧ Ev (fun k => impl_ties_meet.l0 k (mat n f) (ints u) (ints v) acc) (acc ++ ints p, ints a, ints b) := by
  intro L
  induction L with
  | zero =>
    intro u v acc hL hv hl hu hw
    have hu0 := List.eq_nil_of_length_eq_zero hL
    have h4 := mk_lt n (isFirst f u)
    have h4' := mk_lt n (isFirst f v)
    have h5 : (2 : Nat) ^ n ≤ 2 ^ 24 := pow24 (by omega)
    refine ⟨[], u, v, ⟨rfl, rfl, fun c hc => by rw [hu0] at hc; simp [isFirst] at hc⟩, Ev.succ ?_⟩
    simp only [impl_ties_meet.l0]
    refine Ev.bind (firsts_ev n hn f u (by omega) hu) (Ev.bind (firsts_ev n hn f v hv hw) ?_)
    rw [b_and _ _ (by omega) (by omega)]
    refine Ev.pos ?_ (Ev.const (by simp [ints]))
    have : mk n (isFirst f u) = 0 := Nat.eq_of_testBit_eq fun i => by rw [testBit_mk, hu0]; simp [isFirst]
    rw [this]; simp
  | succ L ih =>
    intro u v acc hL hv hl hu hw
    have h4 := mk_lt n (isFirst f u)
    have h4' := mk_lt n (isFirst f v)
    have h5 : (2 : Nat) ^ n ≤ 2 ^ 24 := pow24 (by omega)
    have em : mk n (isFirst f u) &&& mk n (isFirst f v) = mk n (fun a => isFirst f u a && isFirst f v a) := bits_ext fun i => by
      rw [Nat.testBit_and, testBit_mk, testBit_mk, testBit_mk]
      by_cases hi : i < n <;> simp [hi]
    have h6 := mk_lt n (fun a => isFirst f u a && isFirst f v a)
    by_cases hc : ∃ c, c < n ∧ (isFirst f u c && isFirst f v c) = true
    · obtain ⟨g1, g2, g3⟩ := leastF_spec hc
      have g2' := Bool.and_eq_true_iff.1 g2
      have k1 := length_erase f g2'.1
      have k2 := length_erase f g2'.2
      obtain ⟨p, a, b, m1, m2⟩ := ih (u.erase (leastF (fun a => isFirst f u a && isFirst f v a) n)) (v.erase (leastF (fun a => isFirst f u a && isFirst f v a) n)) (acc ++ [((leastF (fun a => isFirst f u a && isFirst f v a) n : Nat) : Int)]) (by omega) (by omega) (by simp; omega) (erase_lt hu) (erase_lt hw)
      refine ⟨_ :: p, a, b, Meets.cons f g2'.1 g2'.2 m1, Ev.succ ?_⟩
      simp only [impl_ties_meet.l0]
      refine Ev.bind (firsts_ev n hn f u (by omega) hu) (Ev.bind (firsts_ev n hn f v hv hw) ?_)
      rw [b_and _ _ (by omega) (by omega), em, least_eq _ (by omega), ctz_mk (by omega) hc]
      refine Ev.neg ?_ (Ev.some_bind (Ev.pos (by omega) (Ev.bind (withoutFirst_ev u (by omega) _ (isFirst_mem f g2'.1)) (Ev.bind (withoutFirst_ev v hv _ (isFirst_mem f g2'.2)) (Ev.val m2 ?_)))))
      · intro e
        have e' : mk n (fun a => isFirst f u a && isFirst f v a) = 0 := by omega
        have := testBit_mk n (fun a => isFirst f u a && isFirst f v a) (leastF (fun a => isFirst f u a && isFirst f v a) n)
        rw [e', Nat.zero_testBit, g2] at this
        simp [g1] at this
      · rw [ints_cons]
        simp
    · refine ⟨[], u, v, ⟨rfl, rfl, fun c hcc => hc ⟨c, hu c (isFirst_mem f hcc.1), by simp [hcc.1, hcc.2]⟩⟩, Ev.succ ?_⟩
      simp only [impl_ties_meet.l0]
      refine Ev.bind (firsts_ev n hn f u (by omega) hu) (Ev.bind (firsts_ev n hn f v hv hw) ?_)
      rw [b_and _ _ (by omega) (by omega), em]
      refine Ev.pos ?_ (Ev.const (by simp [ints]))
      have : mk n (fun a => isFirst f u a && isFirst f v a) = 0 := Nat.eq_of_testBit_eq fun i => by
        rw [testBit_mk, Nat.zero_testBit]
        by_cases hi : i < n
        · have := fun h => hc ⟨i, hi, h⟩
          simp only [hi, decide_true, Bool.true_and]
          simpa using this
        · simp [hi]
      rw [this]; rfl
theorem meet_ev (n : Nat) (hn : n ≤ 8) (f : Nat → Nat → Bool) (u v : List Nat) (hl : u.length ≤ 1000000) (hv : v.length ≤ 1000000) (hu : ∀ x ∈ u, x < n) (hw : ∀ x ∈ v, x < n) :
    ∃ p a b, Meets f u v p a b ∧ Ev (fun k => impl_ties_meet.f k (mat n f) (ints u) (ints v)) (ints p, ints a, ints b) := by
  obtain ⟨p, a, b, h1, h2⟩ := meet_l0 n hn f _ u v [] rfl hv (by simpa using hl) hu hw
  refine ⟨p, a, b, h1, ?_⟩
  simp only [impl_ties_meet.f]
  simpa using h2
end Go.Proofs.YthgapkbkhoeleaaDoor.PAll
