import Derived.Test.YtkiacoilecdepaaDoorPAllx13
import Derived.Test.YtkiacoilecdepaaDoorPAllx14
import Derived.Test.YtkiacoilecdepaaDoorPAllx4
import Derived.Test.YtkiacoilecdepaaDoorV0
import Derived.Test.YtkiacoilecdepaaDoorV1
import Derived.Test.YtkiacoilecdepaaDoorV4
import Derived.Test.YtkiacoilecdepaaDoorQBase
import Derived.Test.YtkiacoilecdepaaDoorQFoata
import Derived.Test.YtkiacoilecdepaaDoorQMask
import Derived.Test.YtkiacoilecdepaaDoorQMeet
import Derived.Test.YtkiacoilecdepaaDoorQOrder
import Derived.Test.YtkiacoilecdepaaDoorQRev
import Derived.Test.YtkiacoilecdepaaDoorQTrace
set_option linter.unusedVariables false
set_option linter.unusedSimpArgs false
namespace Go.Proofs.YtkiacoilecdepaaDoor.PAll
open Go.RowKit Go.Proofs.YtkiacoilecdepaaDoorW.PrintWords Go.Proofs.YtkiacoilecdepaaDoorW.PrintMore Go.Proofs.YtkiacoilecdepaaDoor.Q
theorem l05Independent_ev (n : Nat) (hn : n ≤ 24) (f : Nat → Nat → Bool) (u v : List Nat) (hl : u.length ≤ 1000000) (hv : v.length ≤ 1000000) (hu : ∀ x ∈ u, x < n) (hw : ∀ x ∈ v, x < n) : Ev (fun k => spec_l05Independent.f k (n : Int) (mat n f) (ints u) (ints v)) (apartP f u v) := by
  simp only [spec_l05Independent.f]
  have outer : ∀ (suf pre : List Nat), pre ++ suf = u → Ev (fun k => spec_l05Independent.l0 k (ints u) (ints v) (pre.length : Int) (n : Int) (mat n f)) (apartP f suf v) := by
    intro suf
    induction suf with
    | nil =>
      intro pre hp
      refine Ev.succ ?_
      simp only [spec_l05Independent.l0]
      refine Ev.neg (by simp [← hp]) (Ev.const rfl)
    | cons a suf ih =>
      intro pre hp
      have hlen : pre.length + suf.length + 1 = u.length := by rw [← hp]; simp; omega
      have ha : a < n := hu a (by simp [← hp])
      refine Ev.succ ?_
      simp only [spec_l05Independent.l0]
      refine Ev.pos (by simp; omega) ?_
      have inner : ∀ (s q : List Nat), q ++ s = v → (∀ b ∈ q, f a b = false) → Ev (fun k => spec_l05Independent.l1 k (ints u) (ints v) (pre.length : Int) (q.length : Int) (n : Int) (mat n f)) (apartP f (a :: suf) v) := by
        intro s
        induction s with
        | nil =>
          intro q hq hf
          refine Ev.succ ?_
          simp only [spec_l05Independent.l1]
          refine Ev.neg (by simp [← hq]) ?_
          rw [w64' (by omega)]
          have := ih (pre ++ [a]) (by simpa using hp)
          simp only [List.length_append, List.length_cons, List.length_nil] at this
          refine Ev.val this ?_
          simp only [List.append_nil] at hq
          subst hq
          simp only [apartP, List.all_cons]
          rw [show (q.all fun b => !f a b) = true from by simpa using hf]
          rfl
        | cons b s ihs =>
          intro q hq hf
          have hlq : q.length + s.length + 1 = v.length := by rw [← hq]; simp; omega
          have hb : b < n := hw b (by simp [← hq])
          refine Ev.succ ?_
          simp only [spec_l05Independent.l1]
          refine Ev.pos (by simp; omega) (Ev.pos (by omega) (Ev.pos (by simp; omega) (Ev.pos (by omega) ?_)))
          have r1 : rd (ints u) (pre.length : Int) = (a : Int) := by rw [← hp]; exact rd_mid pre suf a
          have r2 : rd (ints v) (q.length : Int) = (b : Int) := by rw [← hq]; exact rd_mid q s b
          rw [r1, r2, l02Dep_eq n hn f _ a b ha hb]
          refine Ev.some_bind (Ev.ite (fun g => ?_) (fun g => ?_))
          · refine Ev.const ?_
            congr 1
            symm
            rw [← Bool.not_eq_true, apartP_iff]
            intro h
            rw [h a (by simp) b (by simp [← hq])] at g
            cases g
          · rw [w64' (by omega)]
            have := ihs (q ++ [b]) (by simpa using hq) (fun x hx => by
              rcases List.mem_append.1 hx with h | h
              · exact hf x h
              · rw [List.mem_singleton.1 h]; simpa using g)
            simp only [List.length_append, List.length_cons, List.length_nil] at this
            exact this
      exact inner v [] rfl (by simp)
  exact outer u [] rfl
theorem projected_ev (w : List Nat) (hl : w.length ≤ 1000000) (hw : ∀ x ∈ w, x ≤ 64) (M : Nat) (hM : M < 2 ^ 62) : Ev (fun k => impl_projected.f k (ints w) (M : Int)) (ints (w.filter fun a => M.testBit a)) := by
  have loop : ∀ (suf pre : List Nat), pre ++ suf = w → Ev (fun k => impl_projected.l0 k (M : Int) (ints (pre.filter fun a => M.testBit a)) (ints w) (w.length : Int) (pre.length : Int)) (ints (w.filter fun a => M.testBit a)) := by
    intro suf
    induction suf with
    | nil =>
      intro pre hp
      rw [List.append_nil] at hp
      subst hp
      refine Ev.succ ?_
      simp only [impl_projected.l0]
      exact Ev.neg (by omega) (Ev.now _)
    | cons x suf ih =>
      intro pre hp
      have hlen : pre.length + suf.length + 1 = w.length := by rw [← hp]; simp; omega
      have hx := hw x (by rw [← hp]; simp)
      have i1 := ih (pre ++ [x]) (by simpa using hp)
      rw [show (pre ++ [x]).length = pre.length + 1 by simp, List.filter_append] at i1
      have rx : rd (ints w) (pre.length : Int) = (x : Int) := by rw [← hp]; exact rd_mid pre suf x
      have hf := List.length_filter_le (fun a => M.testBit a) pre
      refine Ev.succ ?_
      simp only [impl_projected.l0]
      refine Ev.pos (by omega) (Ev.pos (by omega) (Ev.pos (by rw [ints_length]; omega) ?_))
      rw [rx, has_eq M x hM (by omega), w64' (by omega)]
      refine Ev.some_bind (Ev.ite (fun h => ?_) (fun h => ?_))
      · refine Ev.pos (by rw [ints_length]; omega) ?_
        rw [show [x].filter (fun a => M.testBit a) = [x] by simp [h], ints_append] at i1
        exact i1
      · rw [show [x].filter (fun a => M.testBit a) = [] by simp [h], List.append_nil] at i1
        exact i1
  simp only [impl_projected.f]
  rw [ints_length]
  exact loop w [] rfl
theorem PrefixIn_spec_loop (n : Nat) (hn : n ≤ 8) (f : Nat → Nat → Bool) (hs : ∀ a b, f a b = f b a) (hr : ∀ a, a < n → f a a = true) (M : Nat) (hM : M < 2 ^ n) (w : List Nat) (hl : w.length ≤ 24) (hw : ∀ x ∈ w, x < n) :
    ∀ (suf pre out outside : List Nat), pre ++ suf = w → TrEq f pre (out ++ outside) → (∀ x ∈ out, M.testBit x = true) → (∀ c, isFirst f outside c = true → M.testBit c = false) →
    ∃ p r, Ins f (fun a => M.testBit a) w p r ∧ Ev (fun k => spec_PrefixIn.l0 k (ints w) (M : Int) (ints out) (ints outside) (pre.length : Int) (n : Int) (mat n f)) (ints (normalP f n p), 0) := by
  intro suf
  have h24 := pow_lt62 (show n ≤ 24 by omega)
  induction suf with
  | nil =>
    intro pre out outside hp ht ho hf
    rw [List.append_nil] at hp
    subst hp
    obtain ⟨r', h1, h2⟩ := cutP_TrEq_right f hs (TrEq.symm f hs ht) (cutP_self_append f out outside)
    have hout : ∀ x ∈ out, x < n := fun x hx => hw x ((TrEq.mem f ht x).2 (by simp [hx]))
    have hlen := TrEq.length f ht
    simp only [List.length_append] at hlen
    refine ⟨out, r', ⟨h1, ho, fun c hc => hf c (by rw [(TrEq.first f hs h2 c).1]; exact hc)⟩, Ev.succ ?_⟩
    simp only [spec_PrefixIn.l0]
    exact Ev.neg (by simp) (Ev.bind (l03Normal_ev n (by omega) f out (by omega) hout) (Ev.now _))
  | cons x suf ih =>
    intro pre out outside hp ht ho hf
    have hlen := TrEq.length f ht
    simp only [List.length_append] at hlen
    have hlw : pre.length + suf.length + 1 = w.length := by rw [← hp]; simp; omega
    have hx : x < n := hw x (by simp [← hp])
    have hpre : ∀ y ∈ pre, y < n := fun y hy => hw y (by simp [← hp, hy])
    have hout : ∀ y ∈ out ++ outside, y < n := fun y hy => hpre y ((TrEq.mem f ht y).2 hy)
    have hos : ∀ y ∈ outside, y < n := fun y hy => hout y (by simp [hy])
    have rx : rd (ints w) (pre.length : Int) = (x : Int) := by rw [← hp]; exact rd_mid pre suf x
    have ht1 : TrEq f (pre ++ [x]) (out ++ (outside ++ [x])) := by
      have := TrEq.append_right f hs ht [x]
      rwa [List.append_assoc] at this
    -- x stays outside
    have stay : (∀ c, isFirst f (outside ++ [x]) c = true → M.testBit c = false) → ∃ p r, Ins f (fun a => M.testBit a) w p r ∧ Ev (fun k => spec_PrefixIn.l0 k (ints w) (M : Int) (ints out) (ints outside ++ [(x : Int)]) (wrap64 ((pre.length : Int) + 1)) (n : Int) (mat n f)) (ints (normalP f n p), 0) := by
      intro hf'
      obtain ⟨p, r, h1, h2⟩ := ih (pre ++ [x]) out (outside ++ [x]) (by simpa using hp) ht1 ho hf'
      refine ⟨p, r, h1, ?_⟩
      rw [w64' (by omega), show ints outside ++ [(x : Int)] = ints (outside ++ [x]) by rw [ints_append]; rfl]
      rw [show (pre ++ [x]).length = pre.length + 1 by simp] at h2
      exact h2
    have ap : ∀ k, k = x → (apartP f [x] outside = true ↔ ∀ b ∈ outside, f b x = false) := fun _ _ => by
      rw [apartP_iff]
      constructor
      · intro h b hb; rw [hs]; exact h x (by simp) b hb
      · intro h a ha b hb
        rw [List.mem_singleton.1 ha, hs]; exact h b hb
    by_cases c1 : M.testBit x = true
    · by_cases c2 : apartP f [x] outside = true
      · have hind := (ap x rfl).1 c2
        have hnx : x ∉ outside := fun hm => by have := hind x hm; rw [hr x hx] at this; cases this
        have ht2 : TrEq f (pre ++ [x]) ((out ++ [x]) ++ outside) := by
          refine TrEq.trans f hs ht1 ?_
          rw [List.append_assoc]
          exact TrEq.append_left f out (TrEq.over f hs hind hnx)
        obtain ⟨p, r, h1, h2⟩ := ih (pre ++ [x]) (out ++ [x]) outside (by simpa using hp) ht2 (fun y hy => by
          rcases List.mem_append.1 hy with h | h
          · exact ho y h
          · rw [List.mem_singleton.1 h]; exact c1) hf
        refine ⟨p, r, h1, Ev.succ ?_⟩
        simp only [spec_PrefixIn.l0]
        refine Ev.pos (by simp; omega) (Ev.pos (by omega) ?_)
        rw [rx, l01Bit_eq M x (by omega) (by omega)]
        refine Ev.some_bind (Ev.pos c1 (Ev.bind (l05Independent_ev n (by omega) f [x] outside (by simp) (by omega) (by simpa using hx) hos) (Ev.pos c2 (Ev.pos (by simp; omega) ?_))))
        rw [w64' (by omega), show ints out ++ [(x : Int)] = ints (out ++ [x]) by rw [ints_append]; rfl]
        rw [show (pre ++ [x]).length = pre.length + 1 by simp] at h2
        exact h2
      · obtain ⟨p, r, h1, h2⟩ := stay (fun c hc => by
          rw [isFirst_snoc] at hc
          rcases Bool.or_eq_true_iff.1 hc with h | h
          · exact hf c h
          · obtain ⟨e, h⟩ := Bool.and_eq_true_iff.1 h
            have e := of_decide_eq_true e
            subst e
            exact absurd ((ap x rfl).2 fun b hb => by have := List.all_eq_true.1 h b hb; simpa using this) c2)
        refine ⟨p, r, h1, Ev.succ ?_⟩
        simp only [spec_PrefixIn.l0]
        refine Ev.pos (by simp; omega) (Ev.pos (by omega) ?_)
        rw [rx, l01Bit_eq M x (by omega) (by omega)]
        exact Ev.some_bind (Ev.pos c1 (Ev.bind (l05Independent_ev n (by omega) f [x] outside (by simp) (by omega) (by simpa using hx) hos) (Ev.neg c2 (Ev.pos (by simp; omega) h2))))
    · obtain ⟨p, r, h1, h2⟩ := stay (fun c hc => by
        rw [isFirst_snoc] at hc
        rcases Bool.or_eq_true_iff.1 hc with h | h
        · exact hf c h
        · obtain ⟨e, h⟩ := Bool.and_eq_true_iff.1 h
          have e := of_decide_eq_true e
          subst e
          simpa using c1)
      refine ⟨p, r, h1, Ev.succ ?_⟩
      simp only [spec_PrefixIn.l0]
      refine Ev.pos (by simp; omega) (Ev.pos (by omega) ?_)
      rw [rx, l01Bit_eq M x (by omega) (by omega)]
      exact Ev.some_bind (Ev.neg c1 (Ev.pos (by simp; omega) h2))
theorem PrefixIn_impl_loop (n : Nat) (hn : n ≤ 8) (f : Nat → Nat → Bool) (hs : ∀ a b, f a b = f b a) (M : Nat) (hM : M < 2 ^ n) : ∀ (L : Nat) (w acc : List Nat), w.length = L → acc.length + w.length ≤ 100000 → (∀ x ∈ w, x < n) → (∀ x ∈ acc, x < n) →
    ∃ p r, Ins f (fun a => M.testBit a) w p r ∧ Ev (fun k => impl_PrefixIn.l0 k (ints w) (M : Int) (mat n f) (ints acc)) (ints (normalP f n (acc ++ p)), 0) := by
  intro L
  have h24 := pow_lt62 (show n ≤ 24 by omega)
  induction L with
  | zero =>
    intro w acc hL hl hw ha
    have hw0 := List.eq_nil_of_length_eq_zero hL
    have h1 := mk_lt n (isFirst f w)
    refine ⟨[], w, ⟨rfl, by simp, fun c hc => by rw [hw0] at hc; simp [isFirst] at hc⟩, Ev.succ ?_⟩
    simp only [impl_PrefixIn.l0]
    refine Ev.bind (firsts_ev n hn f w (by omega) hw) ?_
    rw [b_and _ _ (by omega) (by omega), List.append_nil]
    refine Ev.pos ?_ (Ev.bind (normal_ev n hn f acc (by omega) ha) (Ev.now _))
    have : mk n (isFirst f w) = 0 := Nat.eq_of_testBit_eq fun i => by rw [testBit_mk, hw0]; simp [isFirst]
    rw [this]; simp
  | succ L ih =>
    intro w acc hL hl hw ha
    have h1 := mk_lt n (isFirst f w)
    have em : mk n (isFirst f w) &&& M = mk n (fun a => isFirst f w a && M.testBit a) := bits_ext fun i => by
      rw [Nat.testBit_and, testBit_mk, testBit_mk]
      by_cases hi : i < n <;> simp [hi]
    have h2 := mk_lt n (fun a => isFirst f w a && M.testBit a)
    by_cases hc : ∃ c, c < n ∧ (isFirst f w c && M.testBit c) = true
    · obtain ⟨g1, g2, g3⟩ := leastF_spec hc
      have g2' := Bool.and_eq_true_iff.1 g2
      have k1 := length_erase f g2'.1
      generalize hcc : leastF (fun a => isFirst f w a && M.testBit a) n = c at g1 g2 g2' k1
      obtain ⟨p, r, ⟨q1, q2, q3⟩, q4⟩ := ih (w.erase c) (acc ++ [c]) (by omega) (by simp; omega) (erase_lt hw) (fun x hx => (List.mem_append.1 hx).elim (ha x) (fun h => by rw [List.mem_singleton.1 h]; exact g1))
      refine ⟨c :: p, r, ⟨by rw [cutP_cons, if_pos g2'.1]; exact q1, fun x hx => (List.mem_cons.1 hx).elim (fun h => by rw [h]; exact g2'.2) (q2 x), q3⟩, Ev.succ ?_⟩
      simp only [impl_PrefixIn.l0]
      refine Ev.bind (firsts_ev n hn f w (by omega) hw) ?_
      rw [b_and _ _ (by omega) (by omega), em, least_eq _ (by omega), ctz_mk (by omega) hc, hcc]
      refine Ev.neg ?_ (Ev.some_bind (Ev.pos (by simp; omega) (Ev.bind (withoutFirst_ev w (by omega) c (isFirst_mem f g2'.1)) ?_)))
      · intro e
        have e' : mk n (fun a => isFirst f w a && M.testBit a) = 0 := by omega
        have := testBit_mk n (fun a => isFirst f w a && M.testBit a) c
        rw [e', Nat.zero_testBit, g2] at this
        simp [g1] at this
      · rw [show ints acc ++ [(c : Int)] = ints (acc ++ [c]) by rw [ints_append]; rfl, show acc ++ c :: p = acc ++ [c] ++ p by simp]
        exact q4
    · refine ⟨[], w, ⟨rfl, by simp, fun c hcc => ?_⟩, Ev.succ ?_⟩
      · rw [← Bool.not_eq_true]
        exact fun h => hc ⟨c, hw c (isFirst_mem f hcc), by simp [hcc, h]⟩
      · simp only [impl_PrefixIn.l0]
        refine Ev.bind (firsts_ev n hn f w (by omega) hw) ?_
        rw [b_and _ _ (by omega) (by omega), em, List.append_nil]
        refine Ev.pos ?_ (Ev.bind (normal_ev n hn f acc (by omega) ha) (Ev.now _))
        have : mk n (fun a => isFirst f w a && M.testBit a) = 0 := Nat.eq_of_testBit_eq fun i => by
          rw [testBit_mk, Nat.zero_testBit]
          by_cases hi : i < n
          · have := fun h => hc ⟨i, hi, h⟩
            simp only [hi, decide_true, Bool.true_and]
            simpa using this
          · simp [hi]
        rw [this]; rfl
theorem PrefixIn_both (n : Int) (D l1 : List Int) (m1 : Int) : ∃ r : List Int × Int, r.1.length ≤ 100000 ∧ Ev (fun k => spec_PrefixIn.f k n D l1 m1) r ∧ Ev (fun k => impl_PrefixIn.f k n D l1 m1) r ∧
    (r.2 = 0 → ∃ (m : Nat) (f : Nat → Nat → Bool) (u : List Nat) (M : Nat) (p rest : List Nat), n = (m : Int) ∧ D = mat m f ∧ l1 = ints u ∧ m1 = (M : Int) ∧ m ≤ 8 ∧ (∀ a b, f a b = f b a) ∧ u.length ≤ 24 ∧ (∀ x ∈ u, x < m) ∧ M < 2 ^ m ∧ Alpha (m : Int) (mat m f) ∧ Ins f (fun a => M.testBit a) u p rest ∧ r.1 = ints (normalP f m p)) := by
  have hc := l03Code_ev n D l1 l1
  simp only [and_self] at hc
  have hk := checkWords_ev n D [l1]
  have e : (∀ x ∈ [l1], Word n x) ↔ Word n l1 := by simp
  simp only [e] at hk
  have bad : ∀ c : Int, c ≠ 0 → Ev (fun k => spec_l03Code.f k n D l1 l1) c → Ev (fun k => spec_PrefixIn.f k n D l1 m1) ([], c) := fun c h0 h => by
    simp only [spec_PrefixIn.f]
    refine Ev.bind h (Ev.neg h0 (Ev.succ ?_))
    simp only [spec_PrefixIn.j0]
    refine Ev.neg (by simp) (Ev.succ ?_)
    simp only [spec_PrefixIn.j1]
    exact Ev.neg h0 (Ev.now _)
  by_cases hA : Alpha n D
  · by_cases hW : Word n l1
    · rw [if_pos hA, if_pos hW] at hc hk
      have hA2 := hA
      obtain ⟨m, f, rfl, rfl, hm, hs, hr⟩ := hA.form
      obtain ⟨u, rfl, hul, hu⟩ := hW.form
      clear hA hW e bad
      have hp := Nat.two_pow_pos m
      by_cases c : 0 ≤ m1 ∧ m1 ≤ ((2 ^ m - 1 : Nat) : Int)
      · obtain ⟨M, rfl⟩ := Int.eq_ofNat_of_zero_le c.1
        obtain ⟨p, r, h1, h2⟩ := PrefixIn_spec_loop m hm f hs hr M (by omega) u hul hu u [] [] [] rfl (TrEq.refl f []) (by simp) (by intro c hc; simp [isFirst] at hc)
        obtain ⟨q, r2, g1, g2⟩ := PrefixIn_impl_loop m hm f hs M (by omega) u.length u [] rfl (by simp; omega) hu (by simp)
        have hpu : ∀ x ∈ p, x < m := fun x hx => hu x (cutP_mem f h1.1 x hx)
        have hqu : ∀ x ∈ q, x < m := fun x hx => hu x (cutP_mem f g1.1 x hx)
        have hpl := cutP_length f h1.1
        have en := normalP_congr f hs hpu hqu (Ins.unique f hs h1 g1)
        refine ⟨(ints (normalP f m p), 0), by rw [ints_length, normalP_length f hs hpu]; omega, ?_, ?_, fun _ => ⟨m, f, u, M, p, r, rfl, rfl, rfl, rfl, hm, hs, hul, hu, by omega, hA2, h1, rfl⟩⟩
        · simp only [spec_PrefixIn.f, l01Full_eq m (show m ≤ 61 by omega), l01In_eq]
          refine Ev.bind hc (Ev.pos rfl (Ev.some_bind (Ev.some_bind (Ev.succ ?_))))
          simp only [spec_PrefixIn.j0]
          refine Ev.neg (by rw [decide_eq_true c]; simp) (Ev.succ ?_)
          simp only [spec_PrefixIn.j1]
          exact Ev.pos trivial h2
        · simp only [impl_PrefixIn.f, impl_Alphabet_ties.f, IsMask24_eq m (show m ≤ 24 by omega)]
          rw [en]
          exact Ev.bind hk (Ev.pos rfl (Ev.some_bind (Ev.pos (by rw [decide_eq_true c]) (Ev.some_bind g2))))
      · refine ⟨([], 2), by simp, ?_, ?_, fun h => by cases h⟩
        · simp only [spec_PrefixIn.f, l01Full_eq m (show m ≤ 61 by omega), l01In_eq]
          refine Ev.bind hc (Ev.pos rfl (Ev.some_bind (Ev.some_bind (Ev.succ ?_))))
          simp only [spec_PrefixIn.j0]
          refine Ev.pos (by rw [decide_eq_false c]; rfl) (Ev.succ ?_)
          simp only [spec_PrefixIn.j1]
          exact Ev.neg (by decide) (Ev.now _)
        · simp only [impl_PrefixIn.f, impl_Alphabet_ties.f, IsMask24_eq m (show m ≤ 24 by omega)]
          exact Ev.bind hk (Ev.pos rfl (Ev.some_bind (Ev.neg (by rw [decide_eq_false c]; simp) (Ev.now _))))
    · rw [if_pos hA, if_neg hW] at hc hk
      refine ⟨([], 2), by simp, bad 2 (by decide) hc, ?_, fun h => by cases h⟩
      simp only [impl_PrefixIn.f]
      exact Ev.bind hk (Ev.neg (by decide) (Ev.now _))
  · rw [if_neg hA] at hc hk
    refine ⟨([], 1), by simp, bad 1 (by decide) hc, ?_, fun h => by cases h⟩
    simp only [impl_PrefixIn.f]
    exact Ev.bind hk (Ev.neg (by decide) (Ev.now _))
theorem LeftQuotient_ok {n : Nat} (hn : n ≤ 8) {f : Nat → Nat → Bool} (hA : Alpha (n : Int) (mat n f)) {u v r : List Nat} (hl : u.length ≤ 24) (hu : ∀ x ∈ u, x < n) (hl2 : v.length ≤ 24) (hv : ∀ x ∈ v, x < n) (h : cutP f u v = some r) :
    Ev (fun k => impl_LeftQuotient.f k (n : Int) (mat n f) (ints u) (ints v)) (ints (normalP f n r), 0) := by
  have hq := quotient_ev n hn f u v (by omega) (by omega) hu hv
  unfold cutR at hq
  rw [h] at hq
  have hr : ∀ x ∈ r, x < n := fun x hx => hv x (cutP_sub f h x hx)
  have hrl := cutP_length f h
  simp only [impl_LeftQuotient.f, impl_Alphabet_ties.f]
  exact Ev.bind (check_2 hA hl hu hl2 hv) (Ev.pos rfl (Ev.some_bind (Ev.bind hq (Ev.pos rfl (Ev.some_bind (Ev.bind (normal_ev n hn f r (by omega) hr) (Ev.now _)))))))
theorem ProjectionOf_ok {n : Nat} (hn : n ≤ 8) {f : Nat → Nat → Bool} (hA : Alpha (n : Int) (mat n f)) {u : List Nat} (hl : u.length ≤ 24) (hu : ∀ x ∈ u, x < n) {M : Nat} (hM : M < 2 ^ n) :
    Ev (fun k => impl_ProjectionOf.f k (n : Int) (mat n f) (ints u) (M : Int)) (ints (normalP f n (u.filter fun a => M.testBit a)), 0) := by
  have h24 := pow_lt62 (show n ≤ 24 by omega)
  have hfl := List.length_filter_le (fun a => M.testBit a) u
  simp only [impl_ProjectionOf.f, impl_Alphabet_ties.f, IsMask24_eq n (show n ≤ 24 by omega)]
  refine Ev.bind (check_1 hA hl hu) (Ev.pos rfl (Ev.some_bind (Ev.pos (by rw [decide_eq_true (show 0 ≤ (M : Int) ∧ (M : Int) ≤ ((2 ^ n - 1 : Nat) : Int) by omega)]) (Ev.some_bind ?_))))
  exact Ev.bind (projected_ev u (by omega) (fun x hx => by have := hu x hx; omega) M (by omega)) (Ev.bind (normal_ev n hn f _ (by omega) (mem_filter_lt hu _)) (Ev.now _))
theorem DrawProjectionOf_ev (c : List Int) (hb : ∀ x ∈ c, 0 ≤ x ∧ x ≤ 255) (hc : c.length ≤ 4096) : ∃ n D w m, w.length ≤ 25 ∧ Ev (fun k => spec_DrawProjectionOf.f k c) (n, D, w, m) := by
  obtain ⟨a, h, n, D, w, s0, l0, l1, hd⟩ := l03Pair_ev c hb hc 8 24 (by omega) (by omega)
  obtain ⟨v1, a1, h1, x1, s1, _⟩ := l01Next_ev s0 h 20
  by_cases g1 : v1 = 0
  · obtain ⟨v2, a2, h2, x2, s2, _⟩ := l01Pick_ev s1 h1 [-1, 256, 1099511627776] (by simp)
    refine ⟨n, D, w, v2, l1, ?_⟩
    simp only [spec_DrawProjectionOf.f]
    refine Ev.bind hd ?_
    simp only []
    rw [x1]
    refine Ev.some_bind (Ev.pos g1 ?_)
    simp only []
    rw [x2]
    exact Ev.some_bind (Ev.now _)
  · have hi := l02Is_ev n D
    by_cases hA : Alpha n D
    · rw [decide_eq_true hA] at hi
      obtain ⟨m, f, e1, e2, hm, hs, hr⟩ := hA.form
      obtain ⟨v2, a2, h2, x2, s2, _⟩ := l01Next_ev s1 h1 ((2 ^ m : Nat) : Int)
      refine ⟨n, D, w, v2, l1, ?_⟩
      simp only [spec_DrawProjectionOf.f]
      refine Ev.bind hd ?_
      simp only []
      rw [x1]
      refine Ev.some_bind (Ev.neg g1 (Ev.bind hi (Ev.pos rfl ?_)))
      rw [e1, l01One_eq m (by omega)]
      refine Ev.some_bind ?_
      simp only []
      rw [x2]
      exact Ev.some_bind (Ev.now _)
    · rw [decide_eq_false hA] at hi
      obtain ⟨v2, a2, h2, x2, s2, _⟩ := l01Next_ev s1 h1 256
      refine ⟨n, D, w, v2, l1, ?_⟩
      simp only [spec_DrawProjectionOf.f]
      refine Ev.bind hd ?_
      simp only []
      rw [x1]
      refine Ev.some_bind (Ev.neg g1 (Ev.bind hi (Ev.neg (by decide) ?_)))
      simp only []
      rw [x2]
      exact Ev.some_bind (Ev.now _)
end Go.Proofs.YtkiacoilecdepaaDoor.PAll
