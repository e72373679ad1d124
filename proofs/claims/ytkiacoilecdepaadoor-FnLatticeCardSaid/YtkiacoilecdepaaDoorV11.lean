import Derived.Test.YtkiacoilecdepaaDoorPAllx16
import Derived.Test.YtkiacoilecdepaaDoorPAllx17
import Derived.Test.YtkiacoilecdepaaDoorPAllx18
import Derived.Test.YtkiacoilecdepaaDoorPAllx4
import Derived.Test.YtkiacoilecdepaaDoorV0
import Derived.Test.YtkiacoilecdepaaDoorV1
import Derived.Test.YtkiacoilecdepaaDoorV3
import Derived.Test.YtkiacoilecdepaaDoorV4
import Derived.Test.YtkiacoilecdepaaDoorV6
import Derived.Test.YtkiacoilecdepaaDoorV7
import Derived.Test.YtkiacoilecdepaaDoorV8
import Derived.Test.YtkiacoilecdepaaDoorQBase
import Derived.Test.YtkiacoilecdepaaDoorQDraw
import Derived.Test.YtkiacoilecdepaaDoorQFoata
import Derived.Test.YtkiacoilecdepaaDoorQMask
import Derived.Test.YtkiacoilecdepaaDoorQMeet
import Derived.Test.YtkiacoilecdepaaDoorQOrder
import Derived.Test.YtkiacoilecdepaaDoorQRev
import Derived.Test.YtkiacoilecdepaaDoorQTrace
import Derived.Test.YtkiacoilecdepaaDoorQUp
set_option linter.unusedVariables false
set_option linter.unusedSimpArgs false
namespace Go.Proofs.YtkiacoilecdepaaDoor.PAll
open Go.RowKit Go.Proofs.YtkiacoilecdepaaDoorW.PrintWords Go.Proofs.YtkiacoilecdepaaDoorW.PrintMore Go.Proofs.YtkiacoilecdepaaDoor.Q
theorem l05Meet_l0 (n : Nat) (hn : n ≤ 24) (f : Nat → Nat → Bool) : ∀ (L : Nat) (u v : List Nat) (acc : List Int), u.length ≤ L → u.length ≤ 1000000 → v.length ≤ 1000000 → acc.length + u.length ≤ 1000000 → (∀ x ∈ u, x < n) → (∀ x ∈ v, x < n) →
  ∃ p a b, Meets f u v p a b ∧ Ev (fun k => spec_l05Meet.l0 k acc (ints u) (ints v) true (n : Int) (mat n f)) (acc ++ ints p) := by
 -- one sweep over the letters
 have sweep : ∀ (L : Nat), (∀ (u v : List Nat) (acc : List Int), u.length < L → u.length ≤ 1000000 → v.length ≤ 1000000 → acc.length + u.length ≤ 1000000 → (∀ x ∈ u, x < n) → (∀ x ∈ v, x < n) →
   ∃ p a b, Meets f u v p a b ∧ Ev (fun k => spec_l05Meet.l0 k acc (ints u) (ints v) true (n : Int) (mat n f)) (acc ++ ints p)) →
   ∀ (d c : Nat), c + d = n → ∀ (u v : List Nat) (acc : List Int) (more : Bool), u.length ≤ L → (more = true → u.length < L) → (more = false → ∀ x, x < c → ¬ (isFirst f u x = true ∧ isFirst f v x = true)) →
   u.length ≤ 1000000 → v.length ≤ 1000000 → acc.length + u.length ≤ 1000000 → (∀ x ∈ u, x < n) → (∀ x ∈ v, x < n) →
   ∃ p a b, Meets f u v p a b ∧ Ev (fun k => spec_l05Meet.l1 k acc (ints u) (ints v) more (c : Int) (n : Int) (mat n f)) (acc ++ ints p) := by
  intro L IH d
  induction d with
  | zero =>
   intro c hc u v acc more hL hm1 hm2 hl1 hl2 hl3 hu hv
   obtain rfl : c = n := by omega
   cases more with
   | true =>
    obtain ⟨p, a, b, h1, h2⟩ := IH u v acc (hm1 rfl) hl1 hl2 hl3 hu hv
    refine ⟨p, a, b, h1, Ev.succ ?_⟩
    simp only [spec_l05Meet.l1]
    exact Ev.neg (by omega) h2
   | false =>
    refine ⟨[], u, v, ⟨rfl, rfl, fun x hx => ?_⟩, Ev.succ ?_⟩
    ·exact hm2 rfl x (hu x (isFirst_mem f hx.1)) hx
    ·simp only [spec_l05Meet.l1]
     refine Ev.neg (by omega) (Ev.succ ?_)
     simp only [spec_l05Meet.l0]
     exact Ev.neg (by simp) (Ev.const (by simp [ints]))
  | succ d ih =>
   intro c hc u v acc more hL hm1 hm2 hl1 hl2 hl3 hu hv
   have e1 := l03First_ev n hn f u hl1 hu c (by omega)
   have e2 := l03First_ev n hn f v hl2 hv c (by omega)
   by_cases h1 : isFirst f u c = true
   ·by_cases h2 : isFirst f v c = true
    ·have k1 := length_erase f h1
     have k2 := length_erase f h2
     obtain ⟨p, a, b, g1, g2⟩ := ih (c + 1) (by omega) (u.erase c) (v.erase c) (acc ++ [(c : Int)]) true (by omega) (by intro; omega) (by simp) (by omega) (by omega) (by simp; omega) (erase_lt hu) (erase_lt hv)
     refine ⟨c :: p, a, b, Meets.cons f h1 h2 g1, Ev.succ ?_⟩
     simp only [spec_l05Meet.l1]
     refine Ev.pos (by omega) (Ev.bind e1 (Ev.bind e2 (Ev.pos (by unfold fIdx; rw [if_pos h1]; omega) (Ev.succ ?_))))
     simp only [spec_l05Meet.j2]
     refine Ev.pos (by unfold fIdx; rw [if_pos h2]; simp) (Ev.pos (by omega) ?_)
     rw [l03Without_first f u hl1 c h1, l03Without_first f v hl2 c h2, w64' (by omega)]
     refine Ev.some_bind (Ev.some_bind (Ev.val g2 ?_))
     rw [ints_cons]
     simp
    ·obtain ⟨p, a, b, g1, g2⟩ := ih (c + 1) (by omega) u v acc more hL hm1 (fun hm x hx => by
      by_cases e : x = c
      ·subst e; exact fun h => h2 h.2
      ·exact hm2 hm x (by omega)) hl1 hl2 hl3 hu hv
     refine ⟨p, a, b, g1, Ev.succ ?_⟩
     simp only [spec_l05Meet.l1]
     refine Ev.pos (by omega) (Ev.bind e1 (Ev.bind e2 (Ev.pos (by unfold fIdx; rw [if_pos h1]; omega) (Ev.succ ?_))))
     simp only [spec_l05Meet.j2]
     refine Ev.neg (by unfold fIdx; rw [if_neg h2]; simp) ?_
     rw [w64' (by omega)]
     exact g2
   ·obtain ⟨p, a, b, g1, g2⟩ := ih (c + 1) (by omega) u v acc more hL hm1 (fun hm x hx => by
     by_cases e : x = c
     ·subst e; exact fun h => h1 h.1
     ·exact hm2 hm x (by omega)) hl1 hl2 hl3 hu hv
    refine ⟨p, a, b, g1, Ev.succ ?_⟩
    simp only [spec_l05Meet.l1]
    refine Ev.pos (by omega) (Ev.bind e1 (Ev.bind e2 (Ev.neg (by unfold fIdx; rw [if_neg h1]; simp) (Ev.succ ?_))))
    simp only [spec_l05Meet.j2]
    refine Ev.neg (by simp) ?_
    rw [w64' (by omega)]
    exact g2
 intro L
 induction L using Nat.strongRecOn with
 | _ L IH =>
  intro u v acc hL hl1 hl2 hl3 hu hv
  obtain ⟨p, a, b, g1, g2⟩ := sweep L (fun u v acc h => IH u.length h u v acc (Nat.le_refl _)) n 0 (by omega) u v acc false hL (by simp) (by intro _ x hx; omega) hl1 hl2 hl3 hu hv
  refine ⟨p, a, b, g1, Ev.succ ?_⟩
  simp only [spec_l05Meet.l0]
  exact Ev.pos trivial g2
theorem l05Meet_ev (n : Nat) (hn : n ≤ 24) (f : Nat → Nat → Bool) (u v : List Nat) (hl : u.length ≤ 1000000) (hv : v.length ≤ 1000000) (hu : ∀ x ∈ u, x < n) (hw : ∀ x ∈ v, x < n) :
  ∃ p a b, Meets f u v p a b ∧ Ev (fun k => spec_l05Meet.f k (n : Int) (mat n f) (ints u) (ints v)) (ints p) := by
 obtain ⟨p, a, b, h1, h2⟩ := l05Meet_l0 n hn f _ u v [] (Nat.le_refl _) hl hv (by simpa using hl) hu hw
 refine ⟨p, a, b, h1, ?_⟩
 simp only [spec_l05Meet.f]
 rw [l01Own_eq _ (by simp; omega), l01Own_eq _ (by simp; omega)]
 exact Ev.some_bind (Ev.some_bind (Ev.val h2 (by simp)))
theorem meet_l0 (n : Nat) (hn : n ≤ 8) (f : Nat → Nat → Bool) : ∀ (L : Nat) (u v : List Nat) (acc : List Int), u.length = L → v.length ≤ 1000000 → acc.length + u.length ≤ 1000000 → (∀ x ∈ u, x < n) → (∀ x ∈ v, x < n) →
  ∃ p a b, Meets f u v p a b ∧ Ev (fun k => impl_ties_meet.l0 k (mat n f) (ints u) (ints v) acc) (acc ++ ints p, ints a, ints b) := by
 intro L
 induction L with
 | zero =>
  intro u v acc hL hv hl hu hw
  have hu0 := List.eq_nil_of_length_eq_zero hL
  have h4 := mk_lt n (isFirst f u)
  have h4' := mk_lt n (isFirst f v)
  have h5 : (2 : Nat) ^ n ≤ 2 ^ 24 := pow24 (by omega)
  refine ⟨[], u, v, ⟨rfl, rfl, fun c hc => by rw [hu0] at hc; simp [isFirst] at hc⟩, Ev.succ ?_⟩
  simp only [impl_ties_meet.l0]
  refine Ev.bind (firsts_ev n hn f u (by omega) hu) (Ev.bind (firsts_ev n hn f v hv hw) ?_)
  rw [b_and _ _ (by omega) (by omega)]
  refine Ev.pos ?_ (Ev.const (by simp [ints]))
  have : mk n (isFirst f u) = 0 := Nat.eq_of_testBit_eq fun i => by rw [testBit_mk, hu0]; simp [isFirst]
  rw [this]; simp
 | succ L ih =>
  intro u v acc hL hv hl hu hw
  have h4 := mk_lt n (isFirst f u)
  have h4' := mk_lt n (isFirst f v)
  have h5 : (2 : Nat) ^ n ≤ 2 ^ 24 := pow24 (by omega)
  have em : mk n (isFirst f u) &&& mk n (isFirst f v) = mk n (fun a => isFirst f u a && isFirst f v a) := bits_ext fun i => by
   rw [Nat.testBit_and, testBit_mk, testBit_mk, testBit_mk]
   by_cases hi : i < n <;> simp [hi]
  have h6 := mk_lt n (fun a => isFirst f u a && isFirst f v a)
  by_cases hc : ∃ c, c < n ∧ (isFirst f u c && isFirst f v c) = true
  ·obtain ⟨g1, g2, g3⟩ := leastF_spec hc
   have g2' := Bool.and_eq_true_iff.1 g2
   have k1 := length_erase f g2'.1
   have k2 := length_erase f g2'.2
   obtain ⟨p, a, b, m1, m2⟩ := ih (u.erase (leastF (fun a => isFirst f u a && isFirst f v a) n)) (v.erase (leastF (fun a => isFirst f u a && isFirst f v a) n)) (acc ++ [((leastF (fun a => isFirst f u a && isFirst f v a) n : Nat) : Int)]) (by omega) (by omega) (by simp; omega) (erase_lt hu) (erase_lt hw)
   refine ⟨_ :: p, a, b, Meets.cons f g2'.1 g2'.2 m1, Ev.succ ?_⟩
   simp only [impl_ties_meet.l0]
   refine Ev.bind (firsts_ev n hn f u (by omega) hu) (Ev.bind (firsts_ev n hn f v hv hw) ?_)
   rw [b_and _ _ (by omega) (by omega), em, least_eq _ (by omega), ctz_mk (by omega) hc]
   refine Ev.neg ?_ (Ev.some_bind (Ev.pos (by omega) (Ev.bind (withoutFirst_ev u (by omega) _ (isFirst_mem f g2'.1)) (Ev.bind (withoutFirst_ev v hv _ (isFirst_mem f g2'.2)) (Ev.val m2 ?_)))))
   ·intro e
    have e' : mk n (fun a => isFirst f u a && isFirst f v a) = 0 := by omega
    have := testBit_mk n (fun a => isFirst f u a && isFirst f v a) (leastF (fun a => isFirst f u a && isFirst f v a) n)
    rw [e', Nat.zero_testBit, g2] at this
    simp [g1] at this
   ·rw [ints_cons]
    simp
  ·refine ⟨[], u, v, ⟨rfl, rfl, fun c hcc => hc ⟨c, hu c (isFirst_mem f hcc.1), by simp [hcc.1, hcc.2]⟩⟩, Ev.succ ?_⟩
   simp only [impl_ties_meet.l0]
   refine Ev.bind (firsts_ev n hn f u (by omega) hu) (Ev.bind (firsts_ev n hn f v hv hw) ?_)
   rw [b_and _ _ (by omega) (by omega), em]
   refine Ev.pos ?_ (Ev.const (by simp [ints]))
   have : mk n (fun a => isFirst f u a && isFirst f v a) = 0 := Nat.eq_of_testBit_eq fun i => by
    rw [testBit_mk, Nat.zero_testBit]
    by_cases hi : i < n
    ·have := fun h => hc ⟨i, hi, h⟩
     simp only [hi, decide_true, Bool.true_and]
     simpa using this
    ·simp [hi]
   rw [this]; rfl
theorem meet_ev (n : Nat) (hn : n ≤ 8) (f : Nat → Nat → Bool) (u v : List Nat) (hl : u.length ≤ 1000000) (hv : v.length ≤ 1000000) (hu : ∀ x ∈ u, x < n) (hw : ∀ x ∈ v, x < n) :
  ∃ p a b, Meets f u v p a b ∧ Ev (fun k => impl_ties_meet.f k (mat n f) (ints u) (ints v)) (ints p, ints a, ints b) := by
 obtain ⟨p, a, b, h1, h2⟩ := meet_l0 n hn f _ u v [] rfl hv (by simpa using hl) hu hw
 refine ⟨p, a, b, h1, ?_⟩
 simp only [impl_ties_meet.f]
 simpa using h2
theorem maskOf_l0 (n : Nat) (hn : n ≤ 24) : ∀ (suf pre : List Nat), (pre ++ suf).length ≤ 1000000 → (∀ x ∈ pre ++ suf, x < n) →
  Ev (fun k => impl_maskOf.l0 k ((mk n (fun a => decide (a ∈ pre)) : Nat) : Int) (ints (pre ++ suf)) ((pre ++ suf).length : Int) (pre.length : Int)) ((mk n (fun a => decide (a ∈ pre ++ suf)) : Nat) : Int) := by
 intro suf
 induction suf with
 | nil =>
  intro pre hl hw
  refine Ev.succ ?_
  simp only [impl_maskOf.l0]
  exact Ev.neg (by simp) (Ev.const (by simp))
 | cons x suf ih =>
  intro pre hl hw
  have hx : x < n := mem_mid hw
  have hl' : pre.length + suf.length + 1 ≤ 1000000 := by simpa [Nat.add_assoc] using hl
  have i1 := ih (pre ++ [x]) (by simpa using hl) (by simpa using hw)
  simp only [List.append_assoc, List.cons_append, List.nil_append] at i1
  rw [show (pre ++ [x]).length = pre.length + 1 by simp] at i1
  have h1 := mk_lt n (fun a => decide (a ∈ pre))
  have h4 : (2 : Nat) ^ n ≤ 2 ^ 24 := pow24 (by omega)
  have h5 : (2 : Nat) ^ x ≤ 2 ^ 24 := pow24 (by omega)
  have eb : mk n (fun a => decide (a ∈ pre ++ [x])) = mk n (fun a => decide (a ∈ pre)) ||| 2 ^ x := bits_ext fun i => by
   rw [Nat.testBit_or, testBit_mk, testBit_mk, testBit_one]
   by_cases hi : i < n
   ·by_cases e : x = i
    ·subst e; simp [hi]
    ·simp [hi, e, show ¬ i = x from fun h => e h.symm]
   ·simp [hi, show ¬ x = i by omega]
  rw [eb] at i1
  refine Ev.succ ?_
  simp only [impl_maskOf.l0]
  refine Ev.pos (by simp; omega) (Ev.pos (by omega) (Ev.pos (by simp; omega) ?_))
  rw [rd_mid, one_eq x (by omega)]
  refine Ev.some_bind ?_
  rw [b_or _ _ (by omega) (by omega), w64' (by omega)]
  exact i1
theorem maskOf_ev (n : Nat) (hn : n ≤ 24) (w : List Nat) (hl : w.length ≤ 1000000) (hw : ∀ x ∈ w, x < n) : Ev (fun k => impl_maskOf.f k (ints w)) ((mk n (fun a => decide (a ∈ w)) : Nat) : Int) := by
 simp only [impl_maskOf.f]
 have := maskOf_l0 n hn w [] hl hw
 have e1 : mk n (fun a => decide (a ∈ ([] : List Nat))) = 0 := Nat.eq_of_testBit_eq fun i => by rw [testBit_mk]; simp
 rw [e1] at this
 simpa using this
theorem apart_ev (n : Nat) (hn : n ≤ 8) (f : Nat → Nat → Bool) (u v : List Nat) (hv : v.length ≤ 1000000) (hu : ∀ x ∈ u, x < n) (hw : ∀ x ∈ v, x < n) : Ev (fun k => impl_ties_apart.f k (mat n f) (ints u) (ints v)) (apartP f u v) := by
 simp only [impl_ties_apart.f]
 refine Ev.bind (maskOf_ev n (by omega) v hv hw) (Ev.const ?_)
 rw [if_pos]
 ·congr 1
  rw [Bool.eq_iff_iff, apartP_iff, List.all_eq_true]
  have h4 := mk_lt n (fun a => decide (a ∈ v))
  have h5 : (2 : Nat) ^ n ≤ 2 ^ 24 := pow24 (by omega)
  have key : ∀ a, a < n → ((mk n (f a) &&& mk n (fun b => decide (b ∈ v))) = 0 ↔ ∀ b ∈ v, f a b = false) := fun a ha => by
   constructor
   ·intro h b hb
    have := congrArg (fun m => m.testBit b) h
    simp only [Nat.testBit_and, testBit_mk, Nat.zero_testBit] at this
    simpa [hw b hb, hb] using this
   ·intro h
    refine Nat.eq_of_testBit_eq fun b => ?_
    rw [Nat.testBit_and, testBit_mk, testBit_mk, Nat.zero_testBit]
    by_cases hb : b ∈ v
    ·simp [h b hb]
    ·simp [hb]
  constructor
  ·intro h a ha
   have h6 := h (a : Int) (List.mem_map.2 ⟨a, ha, rfl⟩)
   have h7 := mk_lt n (f a)
   rw [rd_mat n f a (hu a ha), b_and _ _ (by omega) (by omega), decide_eq_true_eq] at h6
   exact (key a (hu a ha)).1 (by omega)
  ·intro h x hx
   obtain ⟨a, ha, rfl⟩ := List.mem_map.1 hx
   have h7 := mk_lt n (f a)
   rw [rd_mat n f a (hu a ha), b_and _ _ (by omega) (by omega), decide_eq_true_eq, (key a (hu a ha)).2 (h a ha)]
   rfl
 ·rw [List.all_eq_true]
  intro x hx
  obtain ⟨a, ha, rfl⟩ := List.mem_map.1 hx
  have := hu a ha
  simp; omega
theorem l05Join_ev (n : Nat) (hn : n ≤ 24) (f : Nat → Nat → Bool) (u v : List Nat) (hl : u.length ≤ 100000) (hv : v.length ≤ 100000) (hu : ∀ x ∈ u, x < n) (hw : ∀ x ∈ v, x < n) :
  ∃ p a b, Meets f u v p a b ∧ Ev (fun k => spec_l05Join.f k (n : Int) (mat n f) (ints u) (ints v)) (if apartP f a b = true then (ints (p ++ a ++ b), true) else ([], false)) := by
 obtain ⟨p, a, b, h, h1⟩ := l05Meet_ev n hn f u v (by omega) (by omega) hu hw
 have hp : ∀ x ∈ p, x < n := fun x hx => hu x (cutP_mem f h.1 x hx)
 have ha : ∀ x ∈ a, x < n := fun x hx => hu x (cutP_sub f h.1 x hx)
 have hb : ∀ x ∈ b, x < n := fun x hx => hw x (cutP_sub f h.2.1 x hx)
 have l1 := cutP_length f h.1
 have l2 := cutP_length f h.2.1
 have c1 := l05Cut_ev n hn f p u (by omega) (by omega) hp hu
 have c2 := l05Cut_ev n hn f p v (by omega) (by omega) hp hw
 unfold cutR at c1 c2
 rw [h.1] at c1
 rw [h.2.1] at c2
 refine ⟨p, a, b, h, ?_⟩
 simp only [spec_l05Join.f]
 refine Ev.bind h1 (Ev.bind c1 (Ev.bind c2 (Ev.bind (l05Independent_ev n hn f a b (by omega) (by omega) ha hb) ?_)))
 by_cases c : apartP f a b = true
 ·refine Ev.val (Ev.pos c (Ev.pos (by simp; omega) (Ev.some_bind (Ev.pos (by simp; omega) (Ev.now _))))) ?_
  rw [if_pos c, ← ints_append, ← ints_append]
 ·refine Ev.val (Ev.neg c (Ev.now _)) ?_
  rw [if_neg c]
theorem residual_ev (n : Nat) (hn : n ≤ 8) (f : Nat → Nat → Bool) (u v : List Nat) (hl : u.length ≤ 100000) (hv : v.length ≤ 100000) (hu : ∀ x ∈ u, x < n) (hw : ∀ x ∈ v, x < n) :
  ∃ p a b, Meets f u v p a b ∧ Ev (fun k => impl_ties_residual.f k (mat n f) (ints u) (ints v)) (ints b, apartP f a b) := by
 obtain ⟨p, a, b, h, h1⟩ := meet_ev n hn f u v (by omega) (by omega) hu hw
 have ha : ∀ x ∈ a, x < n := fun x hx => hu x (cutP_sub f h.1 x hx)
 have hb : ∀ x ∈ b, x < n := fun x hx => hw x (cutP_sub f h.2.1 x hx)
 have l2 := cutP_length f h.2.1
 refine ⟨p, a, b, h, ?_⟩
 simp only [impl_ties_residual.f]
 exact Ev.bind h1 (Ev.bind (apart_ev n hn f a b (by omega) ha hb) (Ev.now _))
theorem checkJoin_ok (n : Nat) (hn : n ≤ 8) (f : Nat → Nat → Bool) (u v : List Nat) (hl : u.length ≤ 24) (hv : v.length ≤ 24) (hu : ∀ x ∈ u, x < n) (hw : ∀ x ∈ v, x < n) (hk : Ev (fun k => impl_checkWords.f k (n : Int) (mat n f) [ints u, ints v]) 0) :
  ∃ p a b, Meets f u v p a b ∧ Ev (fun k => impl_checkJoin.f k (n : Int) (mat n f) (ints u) (ints v)) (if apartP f a b = true then (if 24 < u.length + b.length then ([], 3) else (ints b, 0)) else ([], 4)) := by
 obtain ⟨p, a, b, h, h1⟩ := residual_ev n hn f u v (by omega) (by omega) hu hw
 have l2 := cutP_length f h.2.1
 refine ⟨p, a, b, h, ?_⟩
 simp only [impl_checkJoin.f, impl_Alphabet_ties.f]
 refine Ev.bind hk (Ev.pos rfl (Ev.some_bind (Ev.bind h1 ?_)))
 by_cases c : apartP f a b = true
 ·refine Ev.pos c ?_
  rw [if_pos c]
  by_cases g : 24 < u.length + b.length
  ·rw [if_pos g]
   exact Ev.pos (by rw [ints_length, ints_length, w64' (by omega)]; omega) (Ev.now _)
  ·rw [if_neg g]
   exact Ev.neg (by rw [ints_length, ints_length, w64' (by omega)]; omega) (Ev.now _)
 ·refine Ev.neg c ?_
  rw [if_neg c]
  exact Ev.now _
theorem checkJoin_bad (n : Int) (D u v : List Int) (c : Int) (h0 : c ≠ 0) (hk : Ev (fun k => impl_checkWords.f k n D [u, v]) c) : Ev (fun k => impl_checkJoin.f k n D u v) ([], c) := by
 simp only [impl_checkJoin.f]
 exact Ev.bind hk (Ev.neg h0 (Ev.now _))
theorem JoinOf_ok (n : Nat) (hn : n ≤ 8) (f : Nat → Nat → Bool) (hs : ∀ a b, f a b = f b a) (u v : List Nat) (hl : u.length ≤ 24) (hv : v.length ≤ 24) (hu : ∀ x ∈ u, x < n) (hw : ∀ x ∈ v, x < n) (hc : Ev (fun k => spec_l03Code.f k (n : Int) (mat n f) (ints u) (ints v)) 0) :
  ∃ p a b, Meets f u v p a b ∧ Ev (fun k => spec_JoinOf.f k (n : Int) (mat n f) (ints u) (ints v)) (if apartP f a b = true then (if 24 < u.length + b.length then ([], 3) else (ints (normalP f n (u ++ b)), 0)) else ([], 4)) := by
 obtain ⟨p, a, b, h, h1⟩ := l05Join_ev n (by omega) f u v (by omega) (by omega) hu hw
 have hp : ∀ x ∈ p, x < n := fun x hx => hu x (cutP_mem f h.1 x hx)
 have ha : ∀ x ∈ a, x < n := fun x hx => hu x (cutP_sub f h.1 x hx)
 have hb : ∀ x ∈ b, x < n := fun x hx => hw x (cutP_sub f h.2.1 x hx)
 have l1 := cutP_length f h.1
 have l2 := cutP_length f h.2.1
 have hpab := mem_app (mem_app hp ha) hb
 have hub := mem_app hu hb
 refine ⟨p, a, b, h, ?_⟩
 simp only [spec_JoinOf.f]
 by_cases c : apartP f a b = true
 ·rw [if_pos c] at h1 ⊢
  refine Ev.bind hc (Ev.pos rfl (Ev.bind h1 (Ev.pos rfl ?_)))
  by_cases g : 24 < u.length + b.length
  ·rw [if_pos g]
   exact Ev.pos (by simp; omega) (Ev.now _)
  ·rw [if_neg g]
   refine Ev.neg (by simp; omega) (Ev.bind (l03Normal_ev n (by omega) f _ (by simp; omega) hpab) (Ev.const ?_))
   rw [normalP_congr f hs hpab hub (join_TrEq hs h.1 b)]
 ·rw [if_neg c] at h1 ⊢
  exact Ev.bind hc (Ev.pos rfl (Ev.bind h1 (Ev.neg (by decide) (Ev.now _))))
theorem JoinOf_bad (n : Int) (D u v : List Int) (c : Int) (h0 : c ≠ 0) (hc : Ev (fun k => spec_l03Code.f k n D u v) c) : Ev (fun k => spec_JoinOf.f k n D u v) ([], c) := by
 simp only [spec_JoinOf.f]
 exact Ev.bind hc (Ev.neg h0 (Ev.now _))
theorem dice_ev {c : List Int} {a : Int} (hS : Src c a) (h n : Int) : ∃ v a' h', laws_dice_below.f c a h n = some (v, a', h') ∧ Src c a' ∧ 0 ≤ v ∧ (1 ≤ n → v < n) ∧ (n < 1 → v = 0) := by
 unfold laws_dice_below.f
 by_cases h1 : n < 1
 ·rw [if_pos h1]
  exact ⟨_, _, _, rfl, hS, by omega, by omega, fun _ => rfl⟩
 ·rw [if_neg h1]
  have hr := u64_range (IntKind.u64.wrap (h * 6364136223846793005) + 1442695040888963407)
  generalize IntKind.u64.wrap (IntKind.u64.wrap (h * 6364136223846793005) + 1442695040888963407) = H at hr
  obtain ⟨b, hb, b0, b1⟩ := u64_mask (H / 8589934592) (by omega) (by omega)
  rw [hb, w64' (x := b) (by omega)]
  obtain ⟨s1, s2, s3, s4⟩ := hS
  by_cases g : a < (c.length : Int)
  ·rw [if_pos g, if_pos s3, if_neg (by omega)]
   obtain ⟨i, rfl⟩ := Int.eq_ofNat_of_zero_le s3
   have hx := s1 _ (List.getElem_mem (show i < c.length by omega))
   rw [rd_lt c i (by omega), w64' (x := c[i]) (by omega), w64' (x := b + c[i]) (by omega), w64' (x := (i : Int) + 1) (by omega)]
   have := tmod_range (b + c[i]) n (by omega) (by omega)
   exact ⟨_, _, _, rfl, ⟨s1, s2, by omega, by omega⟩, this.1, fun _ => this.2, by omega⟩
  ·rw [if_neg g, if_neg (by omega)]
   have := tmod_range b n (by omega) (by omega)
   exact ⟨_, _, _, rfl, ⟨s1, s2, s3, s4⟩, this.1, fun _ => this.2, by omega⟩
theorem roll_ev (c : List Int) (hc : c.length ≤ 4096) (s : Int) : ∃ h, Ev (fun k => laws_roll.f k c s) (c, 0, h) := by
 have loop : ∀ (d i : Nat) (h : Int), i + d = c.length → ∃ h', Ev (fun k => laws_roll.l0 k c (i : Int) c 0 h) (c, 0, h') := by
  intro d
  induction d with
  | zero =>
   intro i h hi
   refine ⟨h, Ev.succ ?_⟩
   simp only [laws_roll.l0]
   exact Ev.neg (by omega) (Ev.now _)
  | succ d ih =>
   intro i h hi
   obtain ⟨h', e⟩ := ih (i + 1) (IntKind.u64.wrap ((IntKind.u64.wrap ((IntKind.u64.wrap (h * 1099511628211)) + (IntKind.u64.wrap (rd c i)))) + 5)) (by omega)
   refine ⟨h', Ev.succ ?_⟩
   simp only [laws_roll.l0]
   refine Ev.pos (by omega) (Ev.pos (by omega) ?_)
   rw [w64' (by omega)]
   exact e
 simp only [laws_roll.f]
 exact loop c.length 0 _ (by omega)
set_option maxHeartbeats 2000000 in
theorem shuffle5_ev {c : List Int} {a : Int} (hS : Src c a) (h : Int) {m : Nat} (hm : m ≤ 8) {f : Nat → Nat → Bool} (hs : ∀ a b, f a b = f b a) {u : List Nat} (hl : u.length ≤ 100) (hu : ∀ x ∈ u, x < m) :
  ∃ (w : List Nat) (a' h' : Int), Src c a' ∧ TrEq f u w ∧ Ev (fun k => laws_shuffle5.f k c a h (m : Int) (mat m f) (ints u)) (ints w, a', h') := by
 have loop : ∀ (d i : Nat) (w : List Nat) (a h : Int), i + d = 30 → TrEq f u w → Src c a → ∃ (w' : List Nat) (a' h' : Int), Src c a' ∧ TrEq f u w' ∧ Ev (fun k => laws_shuffle5.l0 k (ints w) (i : Int) c a h (m : Int) (mat m f)) (ints w', a', h') := by
  intro d
  induction d with
  | zero =>
   intro i w a h hi hw hS
   refine ⟨w, a, h, hS, hw, Ev.succ ?_⟩
   simp only [laws_shuffle5.l0]
   exact Ev.neg (by omega) (Ev.now _)
  | succ d ih =>
   intro i w a h hi hw hS
   have hlen := TrEq.length f hw
   obtain ⟨v, a1, h1, e1, s1, p0, p1, p2⟩ := dice_ev hS h ((w.length : Int) - 1)
   obtain ⟨j, rfl⟩ := Int.eq_ofNat_of_zero_le p0
   have hj : (j : Int) ≤ 200 := by
    by_cases g : 1 ≤ (w.length : Int) - 1
    ·have := p1 g; omega
    ·have := p2 (by omega); omega
   by_cases g : j + 1 < w.length
   ·obtain ⟨p, x, y, q, rfl, hp⟩ := swap_at g
    have hmem : ∀ z ∈ p ++ x :: y :: q, z < m := fun z hz => hu z ((TrEq.mem f hw z).2 hz)
    have hx : x < m := hmem x (by simp)
    have hy : y < m := hmem y (by simp)
    have r0 : rd (ints (p ++ x :: y :: q)) (j : Int) = (x : Int) := by rw [← hp]; exact rd_mid p _ x
    have r1 : rd (ints (p ++ x :: y :: q)) ((j + 1 : Nat) : Int) = (y : Int) := by
     have := rd_mid (p ++ [x]) q y
     rw [show (p ++ [x]) ++ y :: q = p ++ x :: y :: q by simp, show (p ++ [x]).length = j + 1 by simp [hp]] at this
     exact this
    have hbit := bit_zero (mk m (f x)) y (by have := mk_lt m (f x); have := pow_lt62 (show m ≤ 24 by omega); omega) (by omega)
    have ht : (mk m (f x)).testBit y = f x y := by rw [testBit_mk]; simp [hy]
    rw [ht] at hbit
    have pre : ∀ {α : Type} {F G H : Nat → Option (List Int × Int × Int)} {r : List Int × Int × Int}, (f x y = false → Ev F r) → (f x y = true → Ev G r) → Ev (fun k => if (j + 1 : Nat) < ((p ++ x :: y :: q).length : Int) then (if 0 ≤ (j : Int) then (if (j : Int) < ((p ++ x :: y :: q).length : Int) then (if 0 ≤ (x : Int) then (if (x : Int) < ((mat m f).length : Int) then (if 0 ≤ ((j + 1 : Nat) : Int) then (if 0 ≤ IntKind.u64.wrap (y : Int) then (if Go.bits .and .i64 (shr .i64 (rd (mat m f) (x : Int)) (IntKind.u64.wrap (y : Int))) 1 = 0 then F k else G k) else none) else none) else none) else none) else none) else none) else H k) r := by
     intro _ F G H r hF hG
     rw [u64_nat y (by omega), rd_mat m f x hx]
     refine Ev.pos (by simp; simp at g; omega) (Ev.pos (by omega) (Ev.pos (by simp; simp at g; omega) (Ev.pos (by omega) (Ev.pos (by simp; omega) (Ev.pos (by omega) (Ev.pos (by omega) ?_))))))
     cases e : f x y with
     | false => exact Ev.pos (hbit.2 e) (hF e)
     | true => exact Ev.neg (fun z => by rw [hbit.1 z] at e; cases e) (hG e)
    cases e : f x y with
    | false =>
     have hw2 : TrEq f u (p ++ y :: x :: q) := TrEq.trans f hs hw (TrEq.append_left f p (TrEq.swap f (by rw [hs]; exact e) q))
     obtain ⟨w', a', h', s', t', r'⟩ := ih (i + 1) (p ++ y :: x :: q) a1 h1 (by omega) hw2 s1
     have es : ((ints (p ++ x :: y :: q)).set j (y : Int)).set (j + 1) (x : Int) = ints (p ++ y :: x :: q) := by
      subst hp
      simp [ints, List.set_append]
     refine ⟨w', a', h', s', t', Ev.succ ?_⟩
     simp only [laws_shuffle5.l0]
     refine Ev.pos (by omega) ?_
     rw [ints_length, w64' (by omega), e1]
     refine Ev.some_bind ?_
     simp only []
     rw [wS j (by omega), r0, r1, Int.toNat_natCast, Int.toNat_natCast, es, wS i (by omega)]
     exact pre (α := Nat) (fun _ => r') (fun z => by rw [z] at e; cases e)
    | true =>
     obtain ⟨w', a', h', s', t', r'⟩ := ih (i + 1) (p ++ x :: y :: q) a1 h1 (by omega) hw s1
     refine ⟨w', a', h', s', t', Ev.succ ?_⟩
     simp only [laws_shuffle5.l0]
     refine Ev.pos (by omega) ?_
     rw [ints_length, w64' (by omega), e1]
     refine Ev.some_bind ?_
     simp only []
     rw [wS j (by omega), r0, r1, wS i (by omega)]
     exact pre (α := Nat) (fun z => by rw [z] at e; cases e) (fun _ => r')
   ·obtain ⟨w', a', h', s', t', r'⟩ := ih (i + 1) w a1 h1 (by omega) hw s1
    refine ⟨w', a', h', s', t', Ev.succ ?_⟩
    simp only [laws_shuffle5.l0]
    refine Ev.pos (by omega) ?_
    rw [ints_length, w64' (by omega), e1]
    refine Ev.some_bind (Ev.neg (by rw [wS j (by omega)]; simp; omega) ?_)
    rw [wS i (by omega)]
    exact r'
 obtain ⟨w', a', h', s', t', r'⟩ := loop 30 0 u a h (by omega) (TrEq.refl f u) hS
 refine ⟨w', a', h', s', t', ?_⟩
 simp only [laws_shuffle5.f]
 exact Ev.some_bind (Ev.pos (by simp; omega) r')
theorem l05Friends_j2 {c : List Int} (n : Int) (D u v : List Int) (hu : u.length ≤ 1000) (b : Bool) {a : Int} (hS : Src c a) (h : Int) : ∃ r : List Int, Ev (fun k => spec_l05Friends.j2 k u v b c a h n D) (n, D, r, v) := by
 cases b with
 | true =>
  obtain ⟨t, a1, h1, e1, s1, _⟩ := l01Next_ev hS h n
  refine ⟨u ++ [t], Ev.succ ?_⟩
  simp only [spec_l05Friends.j2]
  refine Ev.pos trivial ?_
  rw [e1]
  exact Ev.some_bind (Ev.pos (by omega) (Ev.now _))
 | false =>
  refine ⟨u, Ev.succ ?_⟩
  simp only [spec_l05Friends.j2]
  exact Ev.neg (by decide) (Ev.now _)
set_option maxHeartbeats 2000000 in
theorem l05Friends_l0 {c : List Int} {m : Nat} (hm : m ≤ 8) {f : Nat → Nat → Bool} {w : List Nat} (hl : w.length ≤ 24) (hw : ∀ x ∈ w, x < m) (g : Nat → Nat → Bool) : ∀ (d i A B : Nat) (a h : Int), i + d = w.length → A < 2 ^ w.length → B < 2 ^ w.length → Src c a →
  ∃ r1 r2 : List Int, Ev (fun k => spec_l05Friends.l0 k (ints w) (mat w.length g) (A : Int) (B : Int) (i : Int) c a h (m : Int) (mat m f)) ((m : Int), mat m f, r1, r2) := by
 have h24 := pow_lt62 hl
 intro d
 induction d with
 | zero =>
  intro i A B a h hi hA hB hS
  have lA := lettersP_length w A
  have lB := lettersP_length w B
  obtain ⟨u, a1, h1, s1, ul, _, e1⟩ := l03Shuffle_ev hS h hm f (show (lettersP w A).length ≤ 1000 by omega) (lettersP_lt hw A)
  obtain ⟨v, a2, h2, s2, vl, _, e2⟩ := l03Shuffle_ev s1 h1 hm f (show (lettersP w B).length ≤ 1000 by omega) (lettersP_lt hw B)
  have fin : ∀ (b : Bool) {a : Int} (hS : Src c a) (h : Int), ∃ r : List Int, Ev (fun k => spec_l05Friends.j2 k (ints u) (ints v) b c a h (m : Int) (mat m f)) ((m : Int), mat m f, r, ints v) := fun b _ hS h => l05Friends_j2 _ _ _ _ (by simp; omega) b hS h
  by_cases g1 : (m : Int) > 0
  ·by_cases g2 : ((ints u).length : Int) < 24
   ·obtain ⟨t, a3, h3, e3, s3, _⟩ := l01Next_ev s2 h2 6
    obtain ⟨r, e4⟩ := fin (t == 0) s3 h3
    refine ⟨r, ints v, Ev.succ ?_⟩
    simp only [spec_l05Friends.l0]
    refine Ev.neg (by simp; omega) (Ev.bind (l04At_ev w hl A (by omega)) (Ev.bind e1 (Ev.bind (l04At_ev w hl B (by omega)) (Ev.bind e2 (Ev.pos g1 (Ev.pos g2 ?_))))))
    simp only []
    rw [e3]
    exact Ev.some_bind e4
   ·obtain ⟨r, e4⟩ := fin false s2 h2
    refine ⟨r, ints v, Ev.succ ?_⟩
    simp only [spec_l05Friends.l0]
    exact Ev.neg (by simp; omega) (Ev.bind (l04At_ev w hl A (by omega)) (Ev.bind e1 (Ev.bind (l04At_ev w hl B (by omega)) (Ev.bind e2 (Ev.pos g1 (Ev.neg g2 e4))))))
  ·obtain ⟨r, e4⟩ := fin false s2 h2
   refine ⟨r, ints v, Ev.succ ?_⟩
   simp only [spec_l05Friends.l0]
   exact Ev.neg (by simp; omega) (Ev.bind (l04At_ev w hl A (by omega)) (Ev.bind e1 (Ev.bind (l04At_ev w hl B (by omega)) (Ev.bind e2 (Ev.neg g1 e4)))))
 | succ d ih =>
  intro i A B a h hi hA hB hS
  have hM := mk_lt w.length (fun a => g a i)
  have hbe := l01Below_ev w.length hl g i (by omega)
  obtain ⟨t, a1, h1, e1, s1, _⟩ := l01Next_ev hS h 5
  by_cases g0 : t = 0
  ·obtain ⟨r1, r2, e2⟩ := ih (i + 1) (A ||| mk w.length (fun a => g a i)) B a1 h1 (by omega) (Nat.or_lt_two_pow hA hM) hB s1
   refine ⟨r1, r2, Ev.succ ?_⟩
   simp only [spec_l05Friends.l0]
   refine Ev.pos (by simp; omega) ?_
   rw [e1]
   refine Ev.some_bind (Ev.pos g0 (Ev.bind hbe ?_))
   simp only []
   rw [b_or _ _ (by omega) (by omega), wS i (by omega)]
   exact e2
  ·by_cases g1 : t = 1
   ·obtain ⟨r1, r2, e2⟩ := ih (i + 1) A (B ||| mk w.length (fun a => g a i)) a1 h1 (by omega) hA (Nat.or_lt_two_pow hB hM) s1
    refine ⟨r1, r2, Ev.succ ?_⟩
    simp only [spec_l05Friends.l0]
    refine Ev.pos (by simp; omega) ?_
    rw [e1]
    refine Ev.some_bind (Ev.neg g0 (Ev.pos g1 (Ev.bind hbe ?_)))
    simp only []
    rw [b_or _ _ (by omega) (by omega), wS i (by omega)]
    exact e2
   ·obtain ⟨r1, r2, e2⟩ := ih (i + 1) A B a1 h1 (by omega) hA hB s1
    refine ⟨r1, r2, Ev.succ ?_⟩
    simp only [spec_l05Friends.l0]
    refine Ev.pos (by simp; omega) ?_
    rw [e1]
    refine Ev.some_bind (Ev.neg g0 (Ev.neg g1 ?_))
    simp only []
    rw [wS i (by omega)]
    exact e2
theorem l05Friends_ev (c : List Int) (hb : ∀ x ∈ c, 0 ≤ x ∧ x ≤ 255) (hc : c.length ≤ 4096) : ∃ (n : Int) (D r1 r2 : List Int), Ev (fun k => spec_l05Friends.f k c) (n, D, r1, r2) := by
 obtain ⟨a, h, n, D, w, s0, l0, l1, hd⟩ := l03Pair_ev c hb hc 8 24 (by omega) (by omega)
 obtain ⟨n2, D2, x1, x2, a2, h2, ht⟩ := l05Two_ev c hb hc 6 20 (by omega) (by omega)
 have hi := l03Is_ev n D w
 have two : ∀ (n : Int) (D w : List Int) (a h : Int), Ev (fun k => spec_l05Friends.j0 k c w true c a h n D) (n2, D2, x1, x2) := fun n D w a h => by
  refine Ev.succ ?_
  simp only [spec_l05Friends.j0]
  exact Ev.pos trivial (Ev.bind ht (Ev.now _))
 by_cases g : Alpha n D ∧ Word n w
 ·rw [decide_eq_true g] at hi
  obtain ⟨m, f, rfl, rfl, hm, hs, hr⟩ := g.1.form
  obtain ⟨u, rfl, hul, hu⟩ := g.2.form
  obtain ⟨t, a1, h1, e1, s1, _⟩ := l01Next_ev s0 h 6
  by_cases g0 : t = 0
  ·subst g0
   refine ⟨n2, D2, x1, x2, ?_⟩
   simp only [spec_l05Friends.f]
   refine Ev.bind hd (Ev.bind hi (Ev.pos rfl ?_))
   simp only []
   rw [e1]
   exact Ev.some_bind (two _ _ _ _ _)
  ·have hnl := normalP_length f hs hu
   have hnt := normalP_lt f hs hu
   obtain ⟨r1, r2, e2⟩ := l05Friends_l0 hm (f := f) (w := normalP f m u) (by omega) hnt (ordP f (normalP f m u)) (normalP f m u).length 0 0 0 a1 h1 (by omega) (Nat.two_pow_pos _) (Nat.two_pow_pos _) s1
   refine ⟨(m : Int), mat m f, r1, r2, ?_⟩
   simp only [spec_l05Friends.f]
   refine Ev.bind hd (Ev.bind hi (Ev.pos rfl ?_))
   simp only []
   rw [e1]
   refine Ev.some_bind ?_
   simp only []
   rw [show (t == 0) = false from beq_eq_false_iff_ne.mpr g0]
   refine Ev.succ ?_
   simp only [spec_l05Friends.j0]
   exact Ev.neg (by decide) (Ev.bind (l03Normal_ev m (by omega) f u (by omega) hu) (Ev.bind (l04Order_ev m hm f _ (by omega) hnt) e2))
 ·rw [decide_eq_false g] at hi
  refine ⟨n2, D2, x1, x2, ?_⟩
  simp only [spec_l05Friends.f]
  exact Ev.bind hd (Ev.bind hi (Ev.neg (by decide) (two _ _ _ _ _)))
theorem JoinOf_impl {n : Nat} (hn : n ≤ 8) {f : Nat → Nat → Bool} (hs : ∀ a b, f a b = f b a) (hA : Alpha (n : Int) (mat n f)) {u v p a b : List Nat} (hl : u.length ≤ 24) (hu : ∀ x ∈ u, x < n) (hl2 : v.length ≤ 24) (hv : ∀ x ∈ v, x < n) (h : Meets f u v p a b) :
  Ev (fun k => impl_JoinOf.f k (n : Int) (mat n f) (ints u) (ints v)) (if apartP f a b = true then (if 24 < u.length + b.length then ([], 3) else (ints (normalP f n (u ++ b)), 0)) else ([], 4)) := by
 obtain ⟨q, a2, b2, g2, h2⟩ := checkJoin_ok n hn f u v hl hl2 hu hv (check_2 hA hl hu hl2 hv)
 obtain ⟨e0, e1, e2⟩ := Meets.unique f hs h g2
 subst e1 e2
 have hb : ∀ x ∈ b, x < n := fun x hx => hv x (cutP_sub f h.2.1 x hx)
 have l2 := cutP_length f h.2.1
 simp only [impl_JoinOf.f, impl_Alphabet_ties.f]
 refine Ev.bind h2 ?_
 by_cases c : apartP f a b = true
 ·rw [if_pos c, if_pos c]
  by_cases g : 24 < u.length + b.length
  ·rw [if_pos g, if_pos g]
   exact Ev.neg (by decide) (Ev.now _)
  ·rw [if_neg g, if_neg g]
   refine Ev.pos rfl (Ev.some_bind ?_)
   simp only [slices_Concat_int64_int64.f]
   rw [if_pos (by simp; omega)]
   simp only [Option.bind_some, List.flatten_cons, List.flatten_nil, List.append_nil, ← ints_append]
   exact Ev.bind (normal_ev n hn f _ (by simp; omega) (mem_app hu hb)) (Ev.now _)
 ·rw [if_neg c, if_neg c]
  exact Ev.neg (by decide) (Ev.now _)
theorem JoinOf_both (n : Int) (D l1 l2 : List Int) : ∃ r : List Int × Int, r.1.length ≤ 100000 ∧ Ev (fun k => spec_JoinOf.f k n D l1 l2) r ∧ Ev (fun k => impl_JoinOf.f k n D l1 l2) r ∧
  (r.2 ≠ 1 → r.2 ≠ 2 → ∃ m f u v p a b, Two n D l1 l2 m f u v ∧ Meets f u v p a b ∧ r = if apartP f a b = true then (if 24 < u.length + b.length then ([], 3) else (ints (normalP f m (u ++ b)), 0)) else ([], 4)) := by
 rcases codes2 n D l1 l2 with ⟨m, f, u, v, T, hc, hk⟩ | ⟨c, c0, c1, hc, hk⟩
 ·have T2 := T
  obtain ⟨rfl, rfl, rfl, rfl, hm, hs, hr, hul, hu, hvl, hv, hA⟩ := T
  obtain ⟨p, a, b, g1, h1⟩ := JoinOf_ok m hm f hs u v hul hvl hu hv hc
  have hb : ∀ x ∈ b, x < m := fun x hx => hv x (cutP_sub f g1.2.1 x hx)
  have l2 := cutP_length f g1.2.1
  refine ⟨_, ?_, h1, JoinOf_impl hm hs hA hul hu hvl hv g1, fun _ _ => ⟨m, f, u, v, p, a, b, T2, g1, rfl⟩⟩
  split
  ·split
   ·simp
   ·rw [ints_length, normalP_length f hs (mem_app hu hb)]; simp; omega
  ·simp
 ·refine ⟨([], c), by simp, JoinOf_bad n D l1 l2 c c0 hc, ?_, fun h1 h2 => ?_⟩
  ·simp only [impl_JoinOf.f]
   exact Ev.bind (checkJoin_bad n D l1 l2 c c0 hk) (Ev.neg c0 (Ev.now _))
  ·rcases c1 with c1 | c1
   ·exact absurd c1 h1
   ·exact absurd c1 h2
end Go.Proofs.YtkiacoilecdepaaDoor.PAll
