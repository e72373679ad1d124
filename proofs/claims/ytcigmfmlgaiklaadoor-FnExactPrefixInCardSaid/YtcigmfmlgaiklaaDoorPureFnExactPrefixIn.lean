/- For every alphabet, word and mask, FnExactPrefixIn answers true: the program's PrefixIn and the reference's come to the same, and leave their arguments alone. No condition. -/
import Derived.Test.YtcigmfmlgaiklaaDoorPAllx1
import Derived.Test.YtcigmfmlgaiklaaDoorPAllx16
import Derived.Test.YtcigmfmlgaiklaaDoorPAllx17
import Derived.Test.YtcigmfmlgaiklaaDoorPAllx2
import Derived.Test.YtcigmfmlgaiklaaDoorV0
import Derived.Test.YtcigmfmlgaiklaaDoorV1
import Derived.Test.YtcigmfmlgaiklaaDoorV4
import Derived.Test.YtcigmfmlgaiklaaDoorV9
import Derived.Test.YtcigmfmlgaiklaaDoorQBase
import Derived.Test.YtcigmfmlgaiklaaDoorQFoata
import Derived.Test.YtcigmfmlgaiklaaDoorQMask
import Derived.Test.YtcigmfmlgaiklaaDoorQMeet
import Derived.Test.YtcigmfmlgaiklaaDoorQOrder
import Derived.Test.YtcigmfmlgaiklaaDoorQTrace
import Derived.Test.YtcigmfmlgaiklaaDoorStmtFnExactPrefixIn
set_option linter.unusedVariables false
set_option linter.unusedSimpArgs false
namespace Go.Proofs.YtcigmfmlgaiklaaDoor.LFnExactPrefixIn
open Go.RowKit Go.Proofs.YtcigmfmlgaiklaaDoorW.PrintWords Go.Proofs.YtcigmfmlgaiklaaDoorW.PrintMore Go.Proofs.YtcigmfmlgaiklaaDoor.Q
open Go.Proofs.YtcigmfmlgaiklaaDoor.PAll
theorem IsMask_eq (n : Nat) (hn : n ≤ 8) (a : Int) : impl_IsMask.f a (n : Int) = some (decide (0 ≤ a ∧ a ≤ ((2 ^ n - 1 : Nat) : Int))) := by
  unfold impl_IsMask.f
  have hp := Nat.two_pow_pos n
  have h24 := pow_lt62 (show n ≤ 24 by omega)
  rw [inRange_eq]
  simp only [Option.bind_some]
  rw [if_pos (by simp; omega), one_eq n (by omega)]
  simp only [Option.bind_some, inRange_eq]
  rw [w64' (by omega), show ((2 ^ n : Nat) : Int) - 1 = ((2 ^ n - 1 : Nat) : Int) by omega]
theorem spec_loop (n : Nat) (hn : n ≤ 8) (f : Nat → Nat → Bool) (hs : ∀ a b, f a b = f b a) (hr : ∀ a, a < n → f a a = true) (M : Nat) (hM : M < 2 ^ n) (w : List Nat) (hl : w.length ≤ 24) (hw : ∀ x ∈ w, x < n) :
    ∀ (suf pre out outside : List Nat), pre ++ suf = w → TrEq f pre (out ++ outside) → (∀ x ∈ out, M.testBit x = true) → (∀ c, isFirst f outside c = true → M.testBit c = false) →
    ∃ p r, Ins f (fun a => M.testBit a) w p r ∧ Ev (fun k => spec_PrefixIn.l0 k (ints w) (M : Int) (ints out) (ints outside) (pre.length : Int) (n : Int) (mat n f)) (ints (normalP f n p), 0) := by
  intro suf
  have h24 := pow_lt62 (show n ≤ 24 by omega)
  induction suf with
  | nil =>
    intro pre out outside hp ht ho hf
    rw [List.append_nil] at hp
    subst hp
    obtain ⟨r', h1, h2⟩ := cutP_TrEq_right f hs (TrEq.symm f hs ht) (cutP_self_append f out outside)
    have hout : ∀ x ∈ out, x < n := fun x hx => hw x ((TrEq.mem f ht x).2 (by simp [hx]))
    have hlen := TrEq.length f ht
    simp only [List.length_append] at hlen
    refine ⟨out, r', ⟨h1, ho, fun c hc => hf c (by rw [(TrEq.first f hs h2 c).1]; exact hc)⟩, Ev.succ ?_⟩
    simp only [spec_PrefixIn.l0]
    exact Ev.neg (by simp) (Ev.bind (l03Normal_ev n (by omega) f out (by omega) hout) (Ev.now _))
  | cons x suf ih =>
    intro pre out outside hp ht ho hf
    have hlen := TrEq.length f ht
    simp only [List.length_append] at hlen
    have hlw : pre.length + suf.length + 1 = w.length := by rw [← hp]; simp; omega
    have hx : x < n := hw x (by simp [← hp])
    have hpre : ∀ y ∈ pre, y < n := fun y hy => hw y (by simp [← hp, hy])
    have hout : ∀ y ∈ out ++ outside, y < n := fun y hy => hpre y ((TrEq.mem f ht y).2 hy)
    have hos : ∀ y ∈ outside, y < n := fun y hy => hout y (by simp [hy])
    have rx : rd (ints w) (pre.length : Int) = (x : Int) := by rw [← hp]; exact rd_mid pre suf x
    have ht1 : TrEq f (pre ++ [x]) (out ++ (outside ++ [x])) := by
      have := TrEq.append_right f hs ht [x]
      rwa [List.append_assoc] at this
    -- x stays outside
    have stay : (∀ c, isFirst f (outside ++ [x]) c = true → M.testBit c = false) → ∃ p r, Ins f (fun a => M.testBit a) w p r ∧ Ev (fun k => spec_PrefixIn.l0 k (ints w) (M : Int) (ints out) (ints outside ++ [(x : Int)]) (wrap64 ((pre.length : Int) + 1)) (n : Int) (mat n f)) (ints (normalP f n p), 0) := by
      intro hf'
      obtain ⟨p, r, h1, h2⟩ := ih (pre ++ [x]) out (outside ++ [x]) (by simpa using hp) ht1 ho hf'
      refine ⟨p, r, h1, ?_⟩
      rw [w64' (by omega), show ints outside ++ [(x : Int)] = ints (outside ++ [x]) by rw [ints_append]; rfl]
      rw [show (pre ++ [x]).length = pre.length + 1 by simp] at h2
      exact h2
    have ap : ∀ k, k = x → (apartP f [x] outside = true ↔ ∀ b ∈ outside, f b x = false) := fun _ _ => by
      rw [apartP_iff]
      constructor
      · intro h b hb; rw [hs]; exact h x (by simp) b hb
      · intro h a ha b hb
        rw [List.mem_singleton.1 ha, hs]; exact h b hb
    by_cases c1 : M.testBit x = true
    · by_cases c2 : apartP f [x] outside = true
      · have hind := (ap x rfl).1 c2
        have hnx : x ∉ outside := fun hm => by have := hind x hm; rw [hr x hx] at this; cases this
        have ht2 : TrEq f (pre ++ [x]) ((out ++ [x]) ++ outside) := by
          refine TrEq.trans f hs ht1 ?_
          rw [List.append_assoc]
          exact TrEq.append_left f out (TrEq.over f hs hind hnx)
        obtain ⟨p, r, h1, h2⟩ := ih (pre ++ [x]) (out ++ [x]) outside (by simpa using hp) ht2 (fun y hy => by
          rcases List.mem_append.1 hy with h | h
          · exact ho y h
          · rw [List.mem_singleton.1 h]; exact c1) hf
        refine ⟨p, r, h1, Ev.succ ?_⟩
        simp only [spec_PrefixIn.l0]
        refine Ev.pos (by simp; omega) (Ev.pos (by omega) ?_)
        rw [rx, l01Bit_eq M x (by omega) (by omega)]
        refine Ev.some_bind (Ev.pos c1 (Ev.bind (l05Independent_ev n (by omega) f [x] outside (by simp) (by omega) (by simpa using hx) hos) (Ev.pos c2 (Ev.pos (by simp; omega) ?_))))
        rw [w64' (by omega), show ints out ++ [(x : Int)] = ints (out ++ [x]) by rw [ints_append]; rfl]
        rw [show (pre ++ [x]).length = pre.length + 1 by simp] at h2
        exact h2
      · obtain ⟨p, r, h1, h2⟩ := stay (fun c hc => by
          rw [isFirst_snoc] at hc
          rcases Bool.or_eq_true_iff.1 hc with h | h
          · exact hf c h
          · obtain ⟨e, h⟩ := Bool.and_eq_true_iff.1 h
            have e := of_decide_eq_true e
            subst e
            exact absurd ((ap x rfl).2 fun b hb => by have := List.all_eq_true.1 h b hb; simpa using this) c2)
        refine ⟨p, r, h1, Ev.succ ?_⟩
        simp only [spec_PrefixIn.l0]
        refine Ev.pos (by simp; omega) (Ev.pos (by omega) ?_)
        rw [rx, l01Bit_eq M x (by omega) (by omega)]
        exact Ev.some_bind (Ev.pos c1 (Ev.bind (l05Independent_ev n (by omega) f [x] outside (by simp) (by omega) (by simpa using hx) hos) (Ev.neg c2 (Ev.pos (by simp; omega) h2))))
    · obtain ⟨p, r, h1, h2⟩ := stay (fun c hc => by
        rw [isFirst_snoc] at hc
        rcases Bool.or_eq_true_iff.1 hc with h | h
        · exact hf c h
        · obtain ⟨e, h⟩ := Bool.and_eq_true_iff.1 h
          have e := of_decide_eq_true e
          subst e
          simpa using c1)
      refine ⟨p, r, h1, Ev.succ ?_⟩
      simp only [spec_PrefixIn.l0]
      refine Ev.pos (by simp; omega) (Ev.pos (by omega) ?_)
      rw [rx, l01Bit_eq M x (by omega) (by omega)]
      exact Ev.some_bind (Ev.neg c1 (Ev.pos (by simp; omega) h2))
theorem impl_loop (n : Nat) (hn : n ≤ 8) (f : Nat → Nat → Bool) (hs : ∀ a b, f a b = f b a) (M : Nat) (hM : M < 2 ^ n) : ∀ (L : Nat) (w acc : List Nat), w.length = L → acc.length + w.length ≤ 100000 → (∀ x ∈ w, x < n) → (∀ x ∈ acc, x < n) →
    ∃ p r, Ins f (fun a => M.testBit a) w p r ∧ Ev (fun k => impl_PrefixIn.l0 k (ints w) (M : Int) (mat n f) (ints acc)) (ints (normalP f n (acc ++ p)), 0) := by
  intro L
  have h24 := pow_lt62 (show n ≤ 24 by omega)
  induction L with
  | zero =>
    intro w acc hL hl hw ha
    have hw0 := List.eq_nil_of_length_eq_zero hL
    have h1 := mk_lt n (isFirst f w)
    refine ⟨[], w, ⟨rfl, by simp, fun c hc => by rw [hw0] at hc; simp [isFirst] at hc⟩, Ev.succ ?_⟩
    simp only [impl_PrefixIn.l0]
    refine Ev.bind (firsts_ev n hn f w (by omega) hw) ?_
    rw [b_and _ _ (by omega) (by omega), List.append_nil]
    refine Ev.pos ?_ (Ev.bind (normal_ev n hn f acc (by omega) ha) (Ev.now _))
    have : mk n (isFirst f w) = 0 := Nat.eq_of_testBit_eq fun i => by rw [testBit_mk, hw0]; simp [isFirst]
    rw [this]; simp
  | succ L ih =>
    intro w acc hL hl hw ha
    have h1 := mk_lt n (isFirst f w)
    have em : mk n (isFirst f w) &&& M = mk n (fun a => isFirst f w a && M.testBit a) := bits_ext fun i => by
      rw [Nat.testBit_and, testBit_mk, testBit_mk]
      by_cases hi : i < n <;> simp [hi]
    have h2 := mk_lt n (fun a => isFirst f w a && M.testBit a)
    by_cases hc : ∃ c, c < n ∧ (isFirst f w c && M.testBit c) = true
    · obtain ⟨g1, g2, g3⟩ := leastF_spec hc
      have g2' := Bool.and_eq_true_iff.1 g2
      have k1 := length_erase f g2'.1
      generalize hcc : leastF (fun a => isFirst f w a && M.testBit a) n = c at g1 g2 g2' k1
      obtain ⟨p, r, ⟨q1, q2, q3⟩, q4⟩ := ih (w.erase c) (acc ++ [c]) (by omega) (by simp; omega) (erase_lt hw) (fun x hx => (List.mem_append.1 hx).elim (ha x) (fun h => by rw [List.mem_singleton.1 h]; exact g1))
      refine ⟨c :: p, r, ⟨by rw [cutP_cons, if_pos g2'.1]; exact q1, fun x hx => (List.mem_cons.1 hx).elim (fun h => by rw [h]; exact g2'.2) (q2 x), q3⟩, Ev.succ ?_⟩
      simp only [impl_PrefixIn.l0]
      refine Ev.bind (firsts_ev n hn f w (by omega) hw) ?_
      rw [b_and _ _ (by omega) (by omega), em, least_eq _ (by omega), ctz_mk (by omega) hc, hcc]
      refine Ev.neg ?_ (Ev.some_bind (Ev.pos (by simp; omega) (Ev.bind (withoutFirst_ev w (by omega) c (isFirst_mem f g2'.1)) ?_)))
      · intro e
        have e' : mk n (fun a => isFirst f w a && M.testBit a) = 0 := by omega
        have := testBit_mk n (fun a => isFirst f w a && M.testBit a) c
        rw [e', Nat.zero_testBit, g2] at this
        simp [g1] at this
      · rw [show ints acc ++ [(c : Int)] = ints (acc ++ [c]) by rw [ints_append]; rfl, show acc ++ c :: p = acc ++ [c] ++ p by simp]
        exact q4
    · refine ⟨[], w, ⟨rfl, by simp, fun c hcc => ?_⟩, Ev.succ ?_⟩
      · rw [← Bool.not_eq_true]
        exact fun h => hc ⟨c, hw c (isFirst_mem f hcc), by simp [hcc, h]⟩
      · simp only [impl_PrefixIn.l0]
        refine Ev.bind (firsts_ev n hn f w (by omega) hw) ?_
        rw [b_and _ _ (by omega) (by omega), em, List.append_nil]
        refine Ev.pos ?_ (Ev.bind (normal_ev n hn f acc (by omega) ha) (Ev.now _))
        have : mk n (fun a => isFirst f w a && M.testBit a) = 0 := Nat.eq_of_testBit_eq fun i => by
          rw [testBit_mk, Nat.zero_testBit]
          by_cases hi : i < n
          · have := fun h => hc ⟨i, hi, h⟩
            simp only [hi, decide_true, Bool.true_and]
            simpa using this
          · simp [hi]
        rw [this]; rfl
theorem both_ev (n : Int) (D l1 : List Int) (m1 : Int) : ∃ r : List Int × Int, r.1.length ≤ 100000 ∧ Ev (fun k => spec_PrefixIn.f k n D l1 m1) r ∧ Ev (fun k => impl_PrefixIn.f k n D l1 m1) r := by
  have hc := l03Code_ev n D l1 l1
  simp only [and_self] at hc
  have hk := checkWords_ev n D [l1]
  have e : (∀ x ∈ [l1], Word n x) ↔ Word n l1 := by simp
  simp only [e] at hk
  have bad : ∀ c : Int, c ≠ 0 → Ev (fun k => spec_l03Code.f k n D l1 l1) c → Ev (fun k => spec_PrefixIn.f k n D l1 m1) ([], c) := fun c h0 h => by
    simp only [spec_PrefixIn.f]
    refine Ev.bind h (Ev.neg h0 (Ev.succ ?_))
    simp only [spec_PrefixIn.j0]
    refine Ev.neg (by simp) (Ev.succ ?_)
    simp only [spec_PrefixIn.j1]
    exact Ev.neg h0 (Ev.now _)
  by_cases hA : Alpha n D
  · by_cases hW : Word n l1
    · rw [if_pos hA, if_pos hW] at hc hk
      obtain ⟨m, f, rfl, rfl, hm, hs, hr⟩ := hA.form
      obtain ⟨u, rfl, hul, hu⟩ := hW.form
      clear hA hW e bad
      have hp := Nat.two_pow_pos m
      by_cases c : 0 ≤ m1 ∧ m1 ≤ ((2 ^ m - 1 : Nat) : Int)
      · obtain ⟨M, rfl⟩ := Int.eq_ofNat_of_zero_le c.1
        obtain ⟨p, r, h1, h2⟩ := spec_loop m hm f hs hr M (by omega) u hul hu u [] [] [] rfl (TrEq.refl f []) (by simp) (by intro c hc; simp [isFirst] at hc)
        obtain ⟨q, r2, g1, g2⟩ := impl_loop m hm f hs M (by omega) u.length u [] rfl (by simp; omega) hu (by simp)
        have hpu : ∀ x ∈ p, x < m := fun x hx => hu x (cutP_mem f h1.1 x hx)
        have hqu : ∀ x ∈ q, x < m := fun x hx => hu x (cutP_mem f g1.1 x hx)
        have hpl := cutP_length f h1.1
        have en := normalP_congr f hs hpu hqu (Ins.unique f hs h1 g1)
        refine ⟨(ints (normalP f m p), 0), by rw [ints_length, normalP_length f hs hpu]; omega, ?_, ?_⟩
        · simp only [spec_PrefixIn.f, l01Full_eq m (show m ≤ 61 by omega), l01In_eq]
          refine Ev.bind hc (Ev.pos rfl (Ev.some_bind (Ev.some_bind (Ev.succ ?_))))
          simp only [spec_PrefixIn.j0]
          refine Ev.neg (by rw [decide_eq_true c]; simp) (Ev.succ ?_)
          simp only [spec_PrefixIn.j1]
          exact Ev.pos trivial h2
        · simp only [impl_PrefixIn.f, impl_Alphabet_ties.f, IsMask_eq m hm]
          rw [en]
          exact Ev.bind hk (Ev.pos rfl (Ev.some_bind (Ev.pos (by rw [decide_eq_true c]) (Ev.some_bind g2))))
      · refine ⟨([], 2), by simp, ?_, ?_⟩
        · simp only [spec_PrefixIn.f, l01Full_eq m (show m ≤ 61 by omega), l01In_eq]
          refine Ev.bind hc (Ev.pos rfl (Ev.some_bind (Ev.some_bind (Ev.succ ?_))))
          simp only [spec_PrefixIn.j0]
          refine Ev.pos (by rw [decide_eq_false c]; rfl) (Ev.succ ?_)
          simp only [spec_PrefixIn.j1]
          exact Ev.neg (by decide) (Ev.now _)
        · simp only [impl_PrefixIn.f, impl_Alphabet_ties.f, IsMask_eq m hm]
          exact Ev.bind hk (Ev.pos rfl (Ev.some_bind (Ev.neg (by rw [decide_eq_false c]; simp) (Ev.now _))))
    · rw [if_pos hA, if_neg hW] at hc hk
      refine ⟨([], 2), by simp, bad 2 (by decide) hc, ?_⟩
      simp only [impl_PrefixIn.f]
      exact Ev.bind hk (Ev.neg (by decide) (Ev.now _))
  · rw [if_neg hA] at hc hk
    refine ⟨([], 1), by simp, bad 1 (by decide) hc, ?_⟩
    simp only [impl_PrefixIn.f]
    exact Ev.bind hk (Ev.neg (by decide) (Ev.now _))
theorem law_ev (n : Int) (D : List Int) (l1 : List Int) (m1 : Int) (hD : D.length ≤ maxLen) (hl1 : l1.length ≤ maxLen) : Ev (fun k => laws_FnExactPrefixIn.f k n D l1 m1) true := by
  unfold maxLen at hD hl1
  simp only [laws_FnExactPrefixIn.f]
  refine Ev.ite (fun c => Ev.now _) (fun cl1 => ?_)
  rw [szAlphabet_eq n D 1048576 (by omega) (by omega) hD]
  refine Ev.some_bind (Ev.ite (fun c2 => Ev.now _) (fun c2 => ?_))
  have hD' : D.length ≤ 1048576 := by
    by_cases g : (D.length : Int) ≤ 1048576
    · omega
    · rw [if_neg g] at c2; omega
  have hA := toAlphabet_ev n D (by omega)
  have eA := eqAlphabet_ev n D (by omega)
  have tl1 := toInt64S_ev l1 (by omega)
  have el1 := eqInt64S_ev l1 (by omega)
  obtain ⟨r, hr, hs, hi⟩ := both_ev n D l1 m1
  have er := eqInt64S_ev r.1 (by omega)
  have mA := markAlphabet_ev n D 1 (by omega) (by omega) (by omega)
  have ml1 := markInt64S_ev l1 (1 + (D.length : Int)) (by omega) (by omega) (by omega)
  have mr := markInt64S_ev r.1 1 (by omega) (by omega) (by omega)
  have he := heldInt64S_ev r.1 1 (by omega) (by omega)
  refine Ev.bind hA ?_
  refine Ev.bind tl1 ?_
  refine Ev.bind hs ?_
  refine Ev.bind hA ?_
  refine Ev.bind tl1 ?_
  refine Ev.bind hi ?_
  refine Ev.bind er (Ev.pos rfl (Ev.pos rfl ?_))
  refine Ev.bind hA (Ev.bind eA (Ev.pos rfl ?_))
  refine Ev.bind tl1 (Ev.bind el1 (Ev.pos rfl ?_))
  refine Ev.bind mA ?_
  refine Ev.bind ml1 ?_
  refine Ev.neg (by simp only []; omega) ?_
  refine Ev.bind er (Ev.pos rfl ?_)
  refine Ev.bind mr (Ev.bind he (Ev.neg (by omega) (Ev.pos rfl ?_)))
  refine Ev.bind hA ?_
  refine Ev.bind tl1 ?_
  refine Ev.bind hi (Ev.bind er (Ev.pos rfl (Ev.pos rfl ?_)))
  exact Ev.bind he (Ev.neg (by omega) (Ev.pos rfl (Ev.now _)))
theorem pure : PureStmt := fun n D l1 m1 _ hD _ hl1 _ _ => (law_ev n D l1 m1 hD hl1).rounds
end Go.Proofs.YtcigmfmlgaiklaaDoor.LFnExactPrefixIn
