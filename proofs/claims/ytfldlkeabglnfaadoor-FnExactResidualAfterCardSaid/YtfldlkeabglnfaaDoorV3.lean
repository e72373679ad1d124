import Derived.Test.YtfldlkeabglnfaaDoorPAllx1
import Derived.Test.YtfldlkeabglnfaaDoorPAllx2
import Derived.Test.YtfldlkeabglnfaaDoorPAllx4
import Derived.Test.YtfldlkeabglnfaaDoorPAllx5
import Derived.Test.YtfldlkeabglnfaaDoorV0
import Derived.Test.YtfldlkeabglnfaaDoorV1
import Derived.Test.YtfldlkeabglnfaaDoorQBase
import Derived.Test.YtfldlkeabglnfaaDoorQMask
import Derived.Test.YtfldlkeabglnfaaDoorQMeet
import Derived.Test.YtfldlkeabglnfaaDoorQOrder
import Derived.Test.YtfldlkeabglnfaaDoorQTrace
set_option linter.unusedVariables false
set_option linter.unusedSimpArgs false
namespace Go.Proofs.YtfldlkeabglnfaaDoor.PAll
open Go.RowKit Go.Proofs.YtfldlkeabglnfaaDoorW.PrintWords Go.Proofs.YtfldlkeabglnfaaDoorW.PrintMore Go.Proofs.YtfldlkeabglnfaaDoor.Q
theorem l05Cut_l0 (n : Nat) (hn : n ≤ 24) (f : Nat → Nat → Bool) : ∀ (u pre v : List Nat), (pre ++ u).length ≤ 1000000 → v.length ≤ 1000000 → (∀ x ∈ u, x < n) → (∀ x ∈ v, x < n) →
    Ev (fun k => spec_l05Cut.l0 k (ints (pre ++ u)) (ints v) (pre.length : Int) (n : Int) (mat n f)) (cutR f u v) := by
  intro u
  induction u with
  | nil =>
    intro pre v hl hv hu hw
    refine Ev.succ ?_
    simp only [spec_l05Cut.l0]
    exact Ev.neg (by simp) (Ev.const rfl)
  | cons a u ih =>
    intro pre v hl hv hu hw
    simp only [List.length_append, List.length_cons] at hl
    have ha : a < n := hu a (by simp)
    refine Ev.succ ?_
    simp only [spec_l05Cut.l0]
    refine Ev.pos (by simp; omega) (Ev.pos (by omega) ?_)
    rw [rd_mid]
    refine Ev.bind (l03First_ev n hn f v hv hw a ha) ?_
    by_cases h : isFirst f v a = true
    · refine Ev.neg (by unfold fIdx; rw [if_pos h]; omega) ?_
      rw [l03Without_first f v hv a h, w64' (by omega)]
      refine Ev.some_bind ?_
      have := ih (pre ++ [a]) (v.erase a) (by simp; omega) (by have := length_erase f h; omega) (fun x hx => hu x (by simp [hx])) (erase_lt hw)
      simp only [List.append_assoc, List.cons_append, List.nil_append, List.length_append, List.length_cons, List.length_nil] at this
      refine Ev.val this ?_
      unfold cutR
      rw [cutP_cons, if_pos h]
    · refine Ev.pos (by unfold fIdx; rw [if_neg h]; omega) (Ev.const ?_)
      unfold cutR
      rw [cutP_cons, if_neg h]
theorem l05Cut_ev (n : Nat) (hn : n ≤ 24) (f : Nat → Nat → Bool) (u v : List Nat) (hl : u.length ≤ 1000000) (hv : v.length ≤ 1000000) (hu : ∀ x ∈ u, x < n) (hw : ∀ x ∈ v, x < n) : Ev (fun k => spec_l05Cut.f k (n : Int) (mat n f) (ints u) (ints v)) (cutR f u v) := by
  simp only [spec_l05Cut.f]
  rw [l01Own_eq _ (by simp; omega)]
  exact Ev.some_bind (l05Cut_l0 n hn f u [] v hl hv hu hw)
theorem l05Independent_ev (n : Nat) (hn : n ≤ 24) (f : Nat → Nat → Bool) (u v : List Nat) (hl : u.length ≤ 1000000) (hv : v.length ≤ 1000000) (hu : ∀ x ∈ u, x < n) (hw : ∀ x ∈ v, x < n) : Ev (fun k => spec_l05Independent.f k (n : Int) (mat n f) (ints u) (ints v)) (apartP f u v) := by
  simp only [spec_l05Independent.f]
  have outer : ∀ (suf pre : List Nat), pre ++ suf = u → Ev (fun k => spec_l05Independent.l0 k (ints u) (ints v) (pre.length : Int) (n : Int) (mat n f)) (apartP f suf v) := by
    intro suf
    induction suf with
    | nil =>
      intro pre hp
      refine Ev.succ ?_
      simp only [spec_l05Independent.l0]
      refine Ev.neg (by simp [← hp]) (Ev.const rfl)
    | cons a suf ih =>
      intro pre hp
      have hlen : pre.length + suf.length + 1 = u.length := by rw [← hp]; simp; omega
      have ha : a < n := hu a (by simp [← hp])
      refine Ev.succ ?_
      simp only [spec_l05Independent.l0]
      refine Ev.pos (by simp; omega) ?_
      have inner : ∀ (s q : List Nat), q ++ s = v → (∀ b ∈ q, f a b = false) → Ev (fun k => spec_l05Independent.l1 k (ints u) (ints v) (pre.length : Int) (q.length : Int) (n : Int) (mat n f)) (apartP f (a :: suf) v) := by
        intro s
        induction s with
        | nil =>
          intro q hq hf
          refine Ev.succ ?_
          simp only [spec_l05Independent.l1]
          refine Ev.neg (by simp [← hq]) ?_
          rw [w64' (by omega)]
          have := ih (pre ++ [a]) (by simpa using hp)
          simp only [List.length_append, List.length_cons, List.length_nil] at this
          refine Ev.val this ?_
          simp only [List.append_nil] at hq
          subst hq
          simp only [apartP, List.all_cons]
          rw [show (q.all fun b => !f a b) = true from by simpa using hf]
          rfl
        | cons b s ihs =>
          intro q hq hf
          have hlq : q.length + s.length + 1 = v.length := by rw [← hq]; simp; omega
          have hb : b < n := hw b (by simp [← hq])
          refine Ev.succ ?_
          simp only [spec_l05Independent.l1]
          refine Ev.pos (by simp; omega) (Ev.pos (by omega) (Ev.pos (by simp; omega) (Ev.pos (by omega) ?_)))
          have r1 : rd (ints u) (pre.length : Int) = (a : Int) := by rw [← hp]; exact rd_mid pre suf a
          have r2 : rd (ints v) (q.length : Int) = (b : Int) := by rw [← hq]; exact rd_mid q s b
          rw [r1, r2, l02Dep_eq n hn f _ a b ha hb]
          refine Ev.some_bind (Ev.ite (fun g => ?_) (fun g => ?_))
          · refine Ev.const ?_
            congr 1
            symm
            rw [← Bool.not_eq_true, apartP_iff]
            intro h
            rw [h a (by simp) b (by simp [← hq])] at g
            cases g
          · rw [w64' (by omega)]
            have := ihs (q ++ [b]) (by simpa using hq) (fun x hx => by
              rcases List.mem_append.1 hx with h | h
              · exact hf x h
              · rw [List.mem_singleton.1 h]; simpa using g)
            simp only [List.length_append, List.length_cons, List.length_nil] at this
            exact this
      exact inner v [] rfl (by simp)
  exact outer u [] rfl
theorem l05Meet_l0 (n : Nat) (hn : n ≤ 24) (f : Nat → Nat → Bool) : ∀ (L : Nat) (u v : List Nat) (acc : List Int), u.length ≤ L → u.length ≤ 1000000 → v.length ≤ 1000000 → acc.length + u.length ≤ 1000000 → (∀ x ∈ u, x < n) → (∀ x ∈ v, x < n) →
    ∃ p a b, Meets f u v p a b ∧ Ev (fun k => spec_l05Meet.l0 k acc (ints u) (ints v) true (n : Int) (mat n f)) (acc ++ ints p) := by
  -- one sweep over the letters
  have sweep : ∀ (L : Nat), (∀ (u v : List Nat) (acc : List Int), u.length < L → u.length ≤ 1000000 → v.length ≤ 1000000 → acc.length + u.length ≤ 1000000 → (∀ x ∈ u, x < n) → (∀ x ∈ v, x < n) →
      ∃ p a b, Meets f u v p a b ∧ Ev (fun k => spec_l05Meet.l0 k acc (ints u) (ints v) true (n : Int) (mat n f)) (acc ++ ints p)) →
      ∀ (d c : Nat), c + d = n → ∀ (u v : List Nat) (acc : List Int) (more : Bool), u.length ≤ L → (more = true → u.length < L) → (more = false → ∀ x, x < c → ¬ (isFirst f u x = true ∧ isFirst f v x = true)) →
      u.length ≤ 1000000 → v.length ≤ 1000000 → acc.length + u.length ≤ 1000000 → (∀ x ∈ u, x < n) → (∀ x ∈ v, x < n) →
      ∃ p a b, Meets f u v p a b ∧ Ev (fun k => spec_l05Meet.l1 k acc (ints u) (ints v) more (c : Int) (n : Int) (mat n f)) (acc ++ ints p) := by
    intro L IH d
    induction d with
    | zero =>
      intro c hc u v acc more hL hm1 hm2 hl1 hl2 hl3 hu hv
      obtain rfl : c = n := by omega
      cases more with
      | true =>
        obtain ⟨p, a, b, h1, h2⟩ := IH u v acc (hm1 rfl) hl1 hl2 hl3 hu hv
        refine ⟨p, a, b, h1, Ev.succ ?_⟩
        simp only [spec_l05Meet.l1]
        exact Ev.neg (by omega) h2
      | false =>
        refine ⟨[], u, v, ⟨rfl, rfl, fun x hx => ?_⟩, Ev.succ ?_⟩
        · exact hm2 rfl x (hu x (isFirst_mem f hx.1)) hx
        · simp only [spec_l05Meet.l1]
          refine Ev.neg (by omega) (Ev.succ ?_)
          simp only [spec_l05Meet.l0]
          exact Ev.neg (by simp) (Ev.const (by simp [ints]))
    | succ d ih =>
      intro c hc u v acc more hL hm1 hm2 hl1 hl2 hl3 hu hv
      have e1 := l03First_ev n hn f u hl1 hu c (by omega)
      have e2 := l03First_ev n hn f v hl2 hv c (by omega)
      by_cases h1 : isFirst f u c = true
      · by_cases h2 : isFirst f v c = true
        · have k1 := length_erase f h1
          have k2 := length_erase f h2
          obtain ⟨p, a, b, g1, g2⟩ := ih (c + 1) (by omega) (u.erase c) (v.erase c) (acc ++ [(c : Int)]) true (by omega) (by intro; omega) (by simp) (by omega) (by omega) (by simp; omega) (erase_lt hu) (erase_lt hv)
          refine ⟨c :: p, a, b, Meets.cons f h1 h2 g1, Ev.succ ?_⟩
          simp only [spec_l05Meet.l1]
          refine Ev.pos (by omega) (Ev.bind e1 (Ev.bind e2 (Ev.pos (by unfold fIdx; rw [if_pos h1]; omega) (Ev.succ ?_))))
          simp only [spec_l05Meet.j2]
          refine Ev.pos (by unfold fIdx; rw [if_pos h2]; simp) (Ev.pos (by omega) ?_)
          rw [l03Without_first f u hl1 c h1, l03Without_first f v hl2 c h2, w64' (by omega)]
          refine Ev.some_bind (Ev.some_bind (Ev.val g2 ?_))
          rw [ints_cons]
          simp
        · obtain ⟨p, a, b, g1, g2⟩ := ih (c + 1) (by omega) u v acc more hL hm1 (fun hm x hx => by
            by_cases e : x = c
            · subst e; exact fun h => h2 h.2
            · exact hm2 hm x (by omega)) hl1 hl2 hl3 hu hv
          refine ⟨p, a, b, g1, Ev.succ ?_⟩
          simp only [spec_l05Meet.l1]
          refine Ev.pos (by omega) (Ev.bind e1 (Ev.bind e2 (Ev.pos (by unfold fIdx; rw [if_pos h1]; omega) (Ev.succ ?_))))
          simp only [spec_l05Meet.j2]
          refine Ev.neg (by unfold fIdx; rw [if_neg h2]; simp) ?_
          rw [w64' (by omega)]
          exact g2
      · obtain ⟨p, a, b, g1, g2⟩ := ih (c + 1) (by omega) u v acc more hL hm1 (fun hm x hx => by
          by_cases e : x = c
          · subst e; exact fun h => h1 h.1
          · exact hm2 hm x (by omega)) hl1 hl2 hl3 hu hv
        refine ⟨p, a, b, g1, Ev.succ ?_⟩
        simp only [spec_l05Meet.l1]
        refine Ev.pos (by omega) (Ev.bind e1 (Ev.bind e2 (Ev.neg (by unfold fIdx; rw [if_neg h1]; simp) (Ev.succ ?_))))
        simp only [spec_l05Meet.j2]
        refine Ev.neg (by simp) ?_
        rw [w64' (by omega)]
        exact g2
  intro L
  induction L using Nat.strongRecOn with
  | _ L IH =>
    intro u v acc hL hl1 hl2 hl3 hu hv
    obtain ⟨p, a, b, g1, g2⟩ := sweep L (fun u v acc h => IH u.length h u v acc (Nat.le_refl _)) n 0 (by omega) u v acc false hL (by simp) (by intro _ x hx; omega) hl1 hl2 hl3 hu hv
    refine ⟨p, a, b, g1, Ev.succ ?_⟩
    simp only [spec_l05Meet.l0]
    exact Ev.pos trivial g2
theorem l05Meet_ev (n : Nat) (hn : n ≤ 24) (f : Nat → Nat → Bool) (u v : List Nat) (hl : u.length ≤ 1000000) (hv : v.length ≤ 1000000) (hu : ∀ x ∈ u, x < n) (hw : ∀ x ∈ v, x < n) :
    ∃ p a b, Meets f u v p a b ∧ Ev (fun k => spec_l05Meet.f k (n : Int) (mat n f) (ints u) (ints v)) (ints p) := by
  obtain ⟨p, a, b, h1, h2⟩ := l05Meet_l0 n hn f _ u v [] (Nat.le_refl _) hl hv (by simpa using hl) hu hw
  refine ⟨p, a, b, h1, ?_⟩
  simp only [spec_l05Meet.f]
  rw [l01Own_eq _ (by simp; omega), l01Own_eq _ (by simp; omega)]
  exact Ev.some_bind (Ev.some_bind (Ev.val h2 (by simp)))
theorem meet_l0 (n : Nat) (hn : n ≤ 8) (f : Nat → Nat → Bool) : ∀ (L : Nat) (u v : List Nat) (acc : List Int), u.length = L → v.length ≤ 1000000 → acc.length + u.length ≤ 1000000 → (∀ x ∈ u, x < n) → (∀ x ∈ v, x < n) →
    ∃ p a b, Meets f u v p a b ∧ Ev (fun k => impl_ties_meet.l0 k (mat n f) (ints u) (ints v) acc) (acc ++ ints p, ints a, ints b) := by
  intro L
  induction L with
  | zero =>
    intro u v acc hL hv hl hu hw
    have hu0 := List.eq_nil_of_length_eq_zero hL
    have h4 := mk_lt n (isFirst f u)
    have h4' := mk_lt n (isFirst f v)
    have h5 : (2 : Nat) ^ n ≤ 2 ^ 24 := pow24 (by omega)
    refine ⟨[], u, v, ⟨rfl, rfl, fun c hc => by rw [hu0] at hc; simp [isFirst] at hc⟩, Ev.succ ?_⟩
    simp only [impl_ties_meet.l0]
    refine Ev.bind (firsts_ev n hn f u (by omega) hu) (Ev.bind (firsts_ev n hn f v hv hw) ?_)
    rw [b_and _ _ (by omega) (by omega)]
    refine Ev.pos ?_ (Ev.const (by simp [ints]))
    have : mk n (isFirst f u) = 0 := Nat.eq_of_testBit_eq fun i => by rw [testBit_mk, hu0]; simp [isFirst]
    rw [this]; simp
  | succ L ih =>
    intro u v acc hL hv hl hu hw
    have h4 := mk_lt n (isFirst f u)
    have h4' := mk_lt n (isFirst f v)
    have h5 : (2 : Nat) ^ n ≤ 2 ^ 24 := pow24 (by omega)
    have em : mk n (isFirst f u) &&& mk n (isFirst f v) = mk n (fun a => isFirst f u a && isFirst f v a) := bits_ext fun i => by
      rw [Nat.testBit_and, testBit_mk, testBit_mk, testBit_mk]
      by_cases hi : i < n <;> simp [hi]
    have h6 := mk_lt n (fun a => isFirst f u a && isFirst f v a)
    by_cases hc : ∃ c, c < n ∧ (isFirst f u c && isFirst f v c) = true
    · obtain ⟨g1, g2, g3⟩ := leastF_spec hc
      have g2' := Bool.and_eq_true_iff.1 g2
      have k1 := length_erase f g2'.1
      have k2 := length_erase f g2'.2
      obtain ⟨p, a, b, m1, m2⟩ := ih (u.erase (leastF (fun a => isFirst f u a && isFirst f v a) n)) (v.erase (leastF (fun a => isFirst f u a && isFirst f v a) n)) (acc ++ [((leastF (fun a => isFirst f u a && isFirst f v a) n : Nat) : Int)]) (by omega) (by omega) (by simp; omega) (erase_lt hu) (erase_lt hw)
      refine ⟨_ :: p, a, b, Meets.cons f g2'.1 g2'.2 m1, Ev.succ ?_⟩
      simp only [impl_ties_meet.l0]
      refine Ev.bind (firsts_ev n hn f u (by omega) hu) (Ev.bind (firsts_ev n hn f v hv hw) ?_)
      rw [b_and _ _ (by omega) (by omega), em, least_eq _ (by omega), ctz_mk (by omega) hc]
      refine Ev.neg ?_ (Ev.some_bind (Ev.pos (by omega) (Ev.bind (withoutFirst_ev u (by omega) _ (isFirst_mem f g2'.1)) (Ev.bind (withoutFirst_ev v hv _ (isFirst_mem f g2'.2)) (Ev.val m2 ?_)))))
      · intro e
        have e' : mk n (fun a => isFirst f u a && isFirst f v a) = 0 := by omega
        have := testBit_mk n (fun a => isFirst f u a && isFirst f v a) (leastF (fun a => isFirst f u a && isFirst f v a) n)
        rw [e', Nat.zero_testBit, g2] at this
        simp [g1] at this
      · rw [ints_cons]
        simp
    · refine ⟨[], u, v, ⟨rfl, rfl, fun c hcc => hc ⟨c, hu c (isFirst_mem f hcc.1), by simp [hcc.1, hcc.2]⟩⟩, Ev.succ ?_⟩
      simp only [impl_ties_meet.l0]
      refine Ev.bind (firsts_ev n hn f u (by omega) hu) (Ev.bind (firsts_ev n hn f v hv hw) ?_)
      rw [b_and _ _ (by omega) (by omega), em]
      refine Ev.pos ?_ (Ev.const (by simp [ints]))
      have : mk n (fun a => isFirst f u a && isFirst f v a) = 0 := Nat.eq_of_testBit_eq fun i => by
        rw [testBit_mk, Nat.zero_testBit]
        by_cases hi : i < n
        · have := fun h => hc ⟨i, hi, h⟩
          simp only [hi, decide_true, Bool.true_and]
          simpa using this
        · simp [hi]
      rw [this]; rfl
theorem meet_ev (n : Nat) (hn : n ≤ 8) (f : Nat → Nat → Bool) (u v : List Nat) (hl : u.length ≤ 1000000) (hv : v.length ≤ 1000000) (hu : ∀ x ∈ u, x < n) (hw : ∀ x ∈ v, x < n) :
    ∃ p a b, Meets f u v p a b ∧ Ev (fun k => impl_ties_meet.f k (mat n f) (ints u) (ints v)) (ints p, ints a, ints b) := by
  obtain ⟨p, a, b, h1, h2⟩ := meet_l0 n hn f _ u v [] rfl hv (by simpa using hl) hu hw
  refine ⟨p, a, b, h1, ?_⟩
  simp only [impl_ties_meet.f]
  simpa using h2
theorem maskOf_l0 (n : Nat) (hn : n ≤ 24) : ∀ (suf pre : List Nat), (pre ++ suf).length ≤ 1000000 → (∀ x ∈ pre ++ suf, x < n) →
    Ev (fun k => impl_maskOf.l0 k ((mk n (fun a => decide (a ∈ pre)) : Nat) : Int) (ints (pre ++ suf)) ((pre ++ suf).length : Int) (pre.length : Int)) ((mk n (fun a => decide (a ∈ pre ++ suf)) : Nat) : Int) := by
  intro suf
  induction suf with
  | nil =>
    intro pre hl hw
    refine Ev.succ ?_
    simp only [impl_maskOf.l0]
    exact Ev.neg (by simp) (Ev.const (by simp))
  | cons x suf ih =>
    intro pre hl hw
    have hx : x < n := mem_mid hw
    have hl' : pre.length + suf.length + 1 ≤ 1000000 := by simpa [Nat.add_assoc] using hl
    have i1 := ih (pre ++ [x]) (by simpa using hl) (by simpa using hw)
    simp only [List.append_assoc, List.cons_append, List.nil_append] at i1
    rw [show (pre ++ [x]).length = pre.length + 1 by simp] at i1
    have h1 := mk_lt n (fun a => decide (a ∈ pre))
    have h4 : (2 : Nat) ^ n ≤ 2 ^ 24 := pow24 (by omega)
    have h5 : (2 : Nat) ^ x ≤ 2 ^ 24 := pow24 (by omega)
    have eb : mk n (fun a => decide (a ∈ pre ++ [x])) = mk n (fun a => decide (a ∈ pre)) ||| 2 ^ x := bits_ext fun i => by
      rw [Nat.testBit_or, testBit_mk, testBit_mk, testBit_one]
      by_cases hi : i < n
      · by_cases e : x = i
        · subst e; simp [hi]
        · simp [hi, e, show ¬ i = x from fun h => e h.symm]
      · simp [hi, show ¬ x = i by omega]
    rw [eb] at i1
    refine Ev.succ ?_
    simp only [impl_maskOf.l0]
    refine Ev.pos (by simp; omega) (Ev.pos (by omega) (Ev.pos (by simp; omega) ?_))
    rw [rd_mid, one_eq x (by omega)]
    refine Ev.some_bind ?_
    rw [b_or _ _ (by omega) (by omega), w64' (by omega)]
    exact i1
theorem maskOf_ev (n : Nat) (hn : n ≤ 24) (w : List Nat) (hl : w.length ≤ 1000000) (hw : ∀ x ∈ w, x < n) : Ev (fun k => impl_maskOf.f k (ints w)) ((mk n (fun a => decide (a ∈ w)) : Nat) : Int) := by
  simp only [impl_maskOf.f]
  have := maskOf_l0 n hn w [] hl hw
  have e1 : mk n (fun a => decide (a ∈ ([] : List Nat))) = 0 := Nat.eq_of_testBit_eq fun i => by rw [testBit_mk]; simp
  rw [e1] at this
  simpa using this
theorem apart_ev (n : Nat) (hn : n ≤ 8) (f : Nat → Nat → Bool) (u v : List Nat) (hv : v.length ≤ 1000000) (hu : ∀ x ∈ u, x < n) (hw : ∀ x ∈ v, x < n) : Ev (fun k => impl_ties_apart.f k (mat n f) (ints u) (ints v)) (apartP f u v) := by
  simp only [impl_ties_apart.f]
  refine Ev.bind (maskOf_ev n (by omega) v hv hw) (Ev.const ?_)
  rw [if_pos]
  · congr 1
    rw [Bool.eq_iff_iff, apartP_iff, List.all_eq_true]
    have h4 := mk_lt n (fun a => decide (a ∈ v))
    have h5 : (2 : Nat) ^ n ≤ 2 ^ 24 := pow24 (by omega)
    have key : ∀ a, a < n → ((mk n (f a) &&& mk n (fun b => decide (b ∈ v))) = 0 ↔ ∀ b ∈ v, f a b = false) := fun a ha => by
      constructor
      · intro h b hb
        have := congrArg (fun m => m.testBit b) h
        simp only [Nat.testBit_and, testBit_mk, Nat.zero_testBit] at this
        simpa [hw b hb, hb] using this
      · intro h
        refine Nat.eq_of_testBit_eq fun b => ?_
        rw [Nat.testBit_and, testBit_mk, testBit_mk, Nat.zero_testBit]
        by_cases hb : b ∈ v
        · simp [h b hb]
        · simp [hb]
    constructor
    · intro h a ha
      have h6 := h (a : Int) (List.mem_map.2 ⟨a, ha, rfl⟩)
      have h7 := mk_lt n (f a)
      rw [rd_mat n f a (hu a ha), b_and _ _ (by omega) (by omega), decide_eq_true_eq] at h6
      exact (key a (hu a ha)).1 (by omega)
    · intro h x hx
      obtain ⟨a, ha, rfl⟩ := List.mem_map.1 hx
      have h7 := mk_lt n (f a)
      rw [rd_mat n f a (hu a ha), b_and _ _ (by omega) (by omega), decide_eq_true_eq, (key a (hu a ha)).2 (h a ha)]
      rfl
  · rw [List.all_eq_true]
    intro x hx
    obtain ⟨a, ha, rfl⟩ := List.mem_map.1 hx
    have := hu a ha
    simp; omega
theorem l05Join_ev (n : Nat) (hn : n ≤ 24) (f : Nat → Nat → Bool) (u v : List Nat) (hl : u.length ≤ 100000) (hv : v.length ≤ 100000) (hu : ∀ x ∈ u, x < n) (hw : ∀ x ∈ v, x < n) :
    ∃ p a b, Meets f u v p a b ∧ Ev (fun k => spec_l05Join.f k (n : Int) (mat n f) (ints u) (ints v)) (if apartP f a b = true then (ints (p ++ a ++ b), true) else ([], false)) := by
  obtain ⟨p, a, b, h, h1⟩ := l05Meet_ev n hn f u v (by omega) (by omega) hu hw
  have hp : ∀ x ∈ p, x < n := fun x hx => hu x (cutP_mem f h.1 x hx)
  have ha : ∀ x ∈ a, x < n := fun x hx => hu x (cutP_sub f h.1 x hx)
  have hb : ∀ x ∈ b, x < n := fun x hx => hw x (cutP_sub f h.2.1 x hx)
  have l1 := cutP_length f h.1
  have l2 := cutP_length f h.2.1
  have c1 := l05Cut_ev n hn f p u (by omega) (by omega) hp hu
  have c2 := l05Cut_ev n hn f p v (by omega) (by omega) hp hw
  unfold cutR at c1 c2
  rw [h.1] at c1
  rw [h.2.1] at c2
  refine ⟨p, a, b, h, ?_⟩
  simp only [spec_l05Join.f]
  refine Ev.bind h1 (Ev.bind c1 (Ev.bind c2 (Ev.bind (l05Independent_ev n hn f a b (by omega) (by omega) ha hb) ?_)))
  by_cases c : apartP f a b = true
  · refine Ev.val (Ev.pos c (Ev.pos (by simp; omega) (Ev.some_bind (Ev.pos (by simp; omega) (Ev.now _))))) ?_
    rw [if_pos c, ← ints_append, ← ints_append]
  · refine Ev.val (Ev.neg c (Ev.now _)) ?_
    rw [if_neg c]
theorem residual_ev (n : Nat) (hn : n ≤ 8) (f : Nat → Nat → Bool) (u v : List Nat) (hl : u.length ≤ 100000) (hv : v.length ≤ 100000) (hu : ∀ x ∈ u, x < n) (hw : ∀ x ∈ v, x < n) :
    ∃ p a b, Meets f u v p a b ∧ Ev (fun k => impl_ties_residual.f k (mat n f) (ints u) (ints v)) (ints b, apartP f a b) := by
  obtain ⟨p, a, b, h, h1⟩ := meet_ev n hn f u v (by omega) (by omega) hu hw
  have ha : ∀ x ∈ a, x < n := fun x hx => hu x (cutP_sub f h.1 x hx)
  have hb : ∀ x ∈ b, x < n := fun x hx => hw x (cutP_sub f h.2.1 x hx)
  have l2 := cutP_length f h.2.1
  refine ⟨p, a, b, h, ?_⟩
  simp only [impl_ties_residual.f]
  exact Ev.bind h1 (Ev.bind (apart_ev n hn f a b (by omega) ha hb) (Ev.now _))
theorem checkJoin_ok (n : Nat) (hn : n ≤ 8) (f : Nat → Nat → Bool) (u v : List Nat) (hl : u.length ≤ 24) (hv : v.length ≤ 24) (hu : ∀ x ∈ u, x < n) (hw : ∀ x ∈ v, x < n) (hk : Ev (fun k => impl_checkWords.f k (n : Int) (mat n f) [ints u, ints v]) 0) :
    ∃ p a b, Meets f u v p a b ∧ Ev (fun k => impl_checkJoin.f k (n : Int) (mat n f) (ints u) (ints v)) (if apartP f a b = true then (if 24 < u.length + b.length then ([], 3) else (ints b, 0)) else ([], 4)) := by
  obtain ⟨p, a, b, h, h1⟩ := residual_ev n hn f u v (by omega) (by omega) hu hw
  have l2 := cutP_length f h.2.1
  refine ⟨p, a, b, h, ?_⟩
  simp only [impl_checkJoin.f, impl_Alphabet_ties.f]
  refine Ev.bind hk (Ev.pos rfl (Ev.some_bind (Ev.bind h1 ?_)))
  by_cases c : apartP f a b = true
  · refine Ev.pos c ?_
    rw [if_pos c]
    by_cases g : 24 < u.length + b.length
    · rw [if_pos g]
      exact Ev.pos (by rw [ints_length, ints_length, w64' (by omega)]; omega) (Ev.now _)
    · rw [if_neg g]
      exact Ev.neg (by rw [ints_length, ints_length, w64' (by omega)]; omega) (Ev.now _)
  · refine Ev.neg c ?_
    rw [if_neg c]
    exact Ev.now _
theorem checkJoin_bad (n : Int) (D u v : List Int) (c : Int) (h0 : c ≠ 0) (hk : Ev (fun k => impl_checkWords.f k n D [u, v]) c) : Ev (fun k => impl_checkJoin.f k n D u v) ([], c) := by
  simp only [impl_checkJoin.f]
  exact Ev.bind hk (Ev.neg h0 (Ev.now _))
theorem JoinOf_ok (n : Nat) (hn : n ≤ 8) (f : Nat → Nat → Bool) (hs : ∀ a b, f a b = f b a) (u v : List Nat) (hl : u.length ≤ 24) (hv : v.length ≤ 24) (hu : ∀ x ∈ u, x < n) (hw : ∀ x ∈ v, x < n) (hc : Ev (fun k => spec_l03Code.f k (n : Int) (mat n f) (ints u) (ints v)) 0) :
    ∃ p a b, Meets f u v p a b ∧ Ev (fun k => spec_JoinOf.f k (n : Int) (mat n f) (ints u) (ints v)) (if apartP f a b = true then (if 24 < u.length + b.length then ([], 3) else (ints (normalP f n (u ++ b)), 0)) else ([], 4)) := by
  obtain ⟨p, a, b, h, h1⟩ := l05Join_ev n (by omega) f u v (by omega) (by omega) hu hw
  have hp : ∀ x ∈ p, x < n := fun x hx => hu x (cutP_mem f h.1 x hx)
  have ha : ∀ x ∈ a, x < n := fun x hx => hu x (cutP_sub f h.1 x hx)
  have hb : ∀ x ∈ b, x < n := fun x hx => hw x (cutP_sub f h.2.1 x hx)
  have l1 := cutP_length f h.1
  have l2 := cutP_length f h.2.1
  have hpab := mem_app (mem_app hp ha) hb
  have hub := mem_app hu hb
  refine ⟨p, a, b, h, ?_⟩
  simp only [spec_JoinOf.f]
  by_cases c : apartP f a b = true
  · rw [if_pos c] at h1 ⊢
    refine Ev.bind hc (Ev.pos rfl (Ev.bind h1 (Ev.pos rfl ?_)))
    by_cases g : 24 < u.length + b.length
    · rw [if_pos g]
      exact Ev.pos (by simp; omega) (Ev.now _)
    · rw [if_neg g]
      refine Ev.neg (by simp; omega) (Ev.bind (l03Normal_ev n (by omega) f _ (by simp; omega) hpab) (Ev.const ?_))
      rw [normalP_congr f hs hpab hub (join_TrEq hs h.1 b)]
  · rw [if_neg c] at h1 ⊢
    exact Ev.bind hc (Ev.pos rfl (Ev.bind h1 (Ev.neg (by decide) (Ev.now _))))
theorem JoinOf_bad (n : Int) (D u v : List Int) (c : Int) (h0 : c ≠ 0) (hc : Ev (fun k => spec_l03Code.f k n D u v) c) : Ev (fun k => spec_JoinOf.f k n D u v) ([], c) := by
  simp only [spec_JoinOf.f]
  exact Ev.bind hc (Ev.neg h0 (Ev.now _))
end Go.Proofs.YtfldlkeabglnfaaDoor.PAll
