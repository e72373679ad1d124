/- For every code of at most 2 ^ 47 bytes or so, FnInverseSeries answers true: what is drawn from it has the same inverse by both, and the product of the list and its inverse is 1 as far as the inverse goes. No condition. -/
import Derived.Test.YtopdbfdagckfeaaPFnInverseSeriesx1
import Derived.Test.YtopdbfdagckfeaaPFnInverseSeriesx2
import Derived.Test.YtopdbfdagckfeaaV1
import Derived.Test.YtopdbfdagckfeaaQBase
import Derived.Test.YtopdbfdagckfeaaQDraw
import Derived.Test.YtopdbfdagckfeaaQInv
import Derived.Test.YtopdbfdagckfeaaQTrace
set_option linter.unusedVariables false
set_option linter.unusedSimpArgs false
namespace Go.Proofs.Ytopdbfdagckfeaa.Pure
open Go.RowKit Go.Proofs.YtopdbfdagckfeaaW.PrintWords Go.Proofs.YtopdbfdagckfeaaW.PrintMore Go.Proofs.Ytopdbfdagckfeaa.Q
open Go.Proofs.Ytopdbfdagckfeaa.PFnInverseSeries
theorem tmod_part {m : Int} (hm : m = 1000003 ∨ m = 998244353) (x : Int) : (∃ t, Int.tmod x m = x - m * t) ∧ -m < Int.tmod x m ∧ Int.tmod x m < m := by
  refine ⟨⟨_, Int.tmod_def x m⟩, ?_⟩
  rw [Int.tmod_def, tdiv_cases]
  rcases hm with rfl | rfl <;> split <;> omega
theorem round_l2 (p q : List Int) (n : Nat) (hn : n ≤ 24) (hI : InvOf p q) (hq : q.length = n + 1) (hpl : 1 ≤ p.length) (hp0 : rd p ((0 : Nat) : Int) = 1) (hpb : Bd 1000 p) (m : Int) (hm : m = 1000003 ∨ m = 998244353) (y : List Int) (yl i46 : Int)
    (i : Nat) (hi : 1 ≤ i) (hin : i ≤ n) (hpl2 : p.length ≤ 17592186044416) (R : Bool) (hR : Ev (fun k => laws_FnInverseSeries.l1 k p (n : Int) q m ((i + 1 : Nat) : Int) y yl i46) R) :
    ∀ (d j : Nat) (s : Int), j + d = min i (p.length - 1) + 1 → (∃ t, s = tsum p q i j - m * t) → -m < s → s < m →
    Ev (fun k => laws_FnInverseSeries.l2 k p (n : Int) q m (i : Int) s (j : Int) y yl i46) R := by
  intro d
  induction d with
  | zero =>
    intro j s hj hs h1 h2
    have hz : s = 0 := by
      obtain ⟨t, ht⟩ := hs
      rw [show j = min i (p.length - 1) + 1 by omega, hI.tsum hp0 i hi (by omega)] at ht
      rcases hm with rfl | rfl
      · have : t = 0 := by omega
        subst this; omega
      · have : t = 0 := by omega
        subst this; omega
    subst hz
    have fin : Ev (fun k => if (0 : Int) = 0 then laws_FnInverseSeries.l1 k p (n : Int) q m (wrap64 ((i : Int) + 1)) y yl i46 else none) R := by
      refine Ev.pos rfl ?_
      rw [w64' (by omega)]
      exact hR
    refine Ev.succ ?_
    simp only [laws_FnInverseSeries.l2]
    exact Ev.ite (fun c1 => Ev.neg (by omega) fin) (fun _ => fin)
  | succ d ih =>
    intro j s hj hs h1 h2
    refine Ev.succ ?_
    simp only [laws_FnInverseSeries.l2]
    have hs1 : wrap64 ((i : Int) - (j : Int)) = ((i - j : Nat) : Int) := (w64' (by omega)).trans (by omega)
    rw [hs1]
    refine Ev.pos (by omega) (Ev.pos (by omega) (Ev.pos (by omega) (Ev.pos (by omega) (Ev.pos (by omega) (Ev.neg (by rcases hm with rfl | rfl <;> decide) ?_)))))
    have hpj := hpb j
    obtain ⟨⟨t1, e1⟩, b1, b2⟩ := tmod_part hm (rd q ((i - j : Nat) : Int))
    have hmb : m ≤ 1000000000 ∧ 0 < m := by omega
    have hx : -(1000 * 1000000000) ≤ rd p (j : Int) * Int.tmod (rd q ((i - j : Nat) : Int)) m ∧ rd p (j : Int) * Int.tmod (rd q ((i - j : Nat) : Int)) m ≤ 1000 * 1000000000 := mul_bd hpj ⟨by omega, by omega⟩
    rw [w64' (x := rd p (j : Int) * Int.tmod (rd q ((i - j : Nat) : Int)) m) (by omega), w64' (x := s + rd p (j : Int) * Int.tmod (rd q ((i - j : Nat) : Int)) m) (by omega), w64' (x := (j : Int) + 1) (by omega)]
    obtain ⟨⟨t2, e2⟩, b3, b4⟩ := tmod_part hm (s + rd p (j : Int) * Int.tmod (rd q ((i - j : Nat) : Int)) m)
    refine ih (j + 1) _ (by omega) ?_ b3 b4
    obtain ⟨t, ht⟩ := hs
    refine ⟨t + rd p (j : Int) * t1 + t2, ?_⟩
    rw [e2, e1, ht, tsum, Int.mul_sub, Int.mul_add, Int.mul_add, ← Int.mul_assoc (rd p (j : Int)), Int.mul_comm (rd p (j : Int)) m, Int.mul_assoc m]
    omega
theorem round_l1 (p q : List Int) (n : Nat) (hn : n ≤ 24) (hI : InvOf p q) (hq : q.length = n + 1) (hpl : 1 ≤ p.length) (hp0 : rd p ((0 : Nat) : Int) = 1) (hpb : Bd 1000 p) (m : Int) (hm : m = 1000003 ∨ m = 998244353) (y : List Int) (yl i46 : Int)
    (hpl2 : p.length ≤ 17592186044416) (R : Bool) (hR : Ev (fun k => laws_FnInverseSeries.l0 k p (n : Int) q y yl (wrap64 (i46 + 1))) R) :
    ∀ (d i : Nat), i + d = n + 1 → 1 ≤ i → Ev (fun k => laws_FnInverseSeries.l1 k p (n : Int) q m (i : Int) y yl i46) R := by
  intro d
  induction d with
  | zero =>
    intro i hd hi
    refine Ev.succ ?_
    simp only [laws_FnInverseSeries.l1]
    exact Ev.neg (by omega) hR
  | succ d ih =>
    intro i hd hi
    refine Ev.succ ?_
    simp only [laws_FnInverseSeries.l1]
    refine Ev.pos (by omega) ?_
    exact round_l2 p q n hn hI hq hpl hp0 hpb m hm y yl i46 i hi (by omega) hpl2 R (ih (i + 1) (by omega) (by omega)) (min i (p.length - 1) + 1) 0 0 (by omega) ⟨0, by simp [tsum]⟩ (by omega) (by omega)
theorem rounds_ev (p q : List Int) (n : Nat) (hn : n ≤ 24) (hI : InvOf p q) (hq : q.length = n + 1) (hpl : 1 ≤ p.length) (hp0 : rd p ((0 : Nat) : Int) = 1) (hpb : Bd 1000 p) (hpl2 : p.length ≤ 17592186044416) :
    Ev (fun k => laws_FnInverseSeries.l0 k p (n : Int) q [1000003, 998244353] 2 0) true := by
  have h2 : Ev (fun k => laws_FnInverseSeries.l0 k p (n : Int) q [1000003, 998244353] 2 2) true := by
    refine Ev.succ ?_
    simp only [laws_FnInverseSeries.l0]
    refine Ev.neg (by decide) (Ev.pos (by omega) (Ev.const ?_))
    rw [show rd q 0 = 1 from hI.2.1]
    rfl
  have h1 : Ev (fun k => laws_FnInverseSeries.l0 k p (n : Int) q [1000003, 998244353] 2 1) true := by
    refine Ev.succ ?_
    simp only [laws_FnInverseSeries.l0]
    refine Ev.pos (by decide) (Ev.pos (by decide) (Ev.pos (by decide) ?_))
    exact round_l1 p q n hn hI hq hpl hp0 hpb (rd [1000003, 998244353] 1) (.inr (by decide)) _ _ _ hpl2 true (by rw [show wrap64 ((1 : Int) + 1) = 2 from w64' (by omega)]; exact h2) n 1 (by omega) (Nat.le_refl _)
  refine Ev.succ ?_
  simp only [laws_FnInverseSeries.l0]
  refine Ev.pos (by decide) (Ev.pos (by decide) (Ev.pos (by decide) ?_))
  exact round_l1 p q n hn hI hq hpl hp0 hpb (rd [1000003, 998244353] 0) (.inl (by decide)) _ _ _ hpl2 true (by rw [show wrap64 ((0 : Int) + 1) = 1 from w64' (by omega)]; exact h1) n 1 (by omega) (Nat.le_refl _)
theorem draw_j2 {c : List Int} {a : Int} (hS : Src c a) (h : Int) (p : List Int) (hp : p.length ≤ 1000) : ∃ q n, q.length ≤ 1000 ∧ Ev (fun k => spec_DrawInverseSeries.j2 k p c a h) (q, n) := by
  obtain ⟨v, a1, h1, e1, s1, _⟩ := l01Next_ev hS h 20
  obtain ⟨w, a2, h2, e2, s2⟩ := l01Number_ev s1 h1 24
  by_cases g : v = 0
  · refine ⟨[], w, by simp, Ev.succ ?_⟩
    simp only [spec_DrawInverseSeries.j2]
    rw [e1]
    refine Ev.some_bind (Ev.pos g ?_)
    rw [e2]
    exact Ev.now _
  · refine ⟨p, w, hp, Ev.succ ?_⟩
    simp only [spec_DrawInverseSeries.j2]
    rw [e1]
    refine Ev.some_bind (Ev.neg g ?_)
    rw [e2]
    exact Ev.now _
theorem draw_l0 (c : List Int) : ∀ (d : Nat) (a h : Int) (p : List Int), Src c a → p.length + d ≤ 1000 → ∃ q n, q.length ≤ 1000 ∧ Ev (fun k => spec_DrawInverseSeries.l0 k p (d : Int) c a h) (q, n) := by
  intro d
  induction d with
  | zero =>
    intro a h p hS hp
    obtain ⟨q, n, hq, e⟩ := draw_j2 hS h p (by omega)
    refine ⟨q, n, hq, Ev.succ ?_⟩
    simp only [spec_DrawInverseSeries.l0]
    exact Ev.neg (by omega) e
  | succ d ih =>
    intro a h p hS hp
    obtain ⟨v, a1, h1, e1, s1, _⟩ := l01Next_ev hS h 2001
    obtain ⟨q, n, hq, e⟩ := ih a1 h1 (p ++ [wrap64 (v - 1000)]) s1 (by simp; omega)
    refine ⟨q, n, hq, Ev.succ ?_⟩
    simp only [spec_DrawInverseSeries.l0]
    refine Ev.pos (by omega) ?_
    rw [e1]
    refine Ev.some_bind (Ev.pos (by omega) ?_)
    rw [show wrap64 (((d + 1 : Nat) : Int) - 1) = (d : Int) from (w64' (by omega)).trans (by omega)]
    exact e
theorem draw_l1 (c : List Int) : ∀ (d : Nat) (a h : Int) (p : List Int), Src c a → p.length + d ≤ 1000 → ∃ q n, q.length ≤ 1000 ∧ Ev (fun k => spec_DrawInverseSeries.l1 k p (d : Int) c a h) (q, n) := by
  intro d
  induction d with
  | zero =>
    intro a h p hS hp
    obtain ⟨q, n, hq, e⟩ := draw_j2 hS h p (by omega)
    refine ⟨q, n, hq, Ev.succ ?_⟩
    simp only [spec_DrawInverseSeries.l1]
    exact Ev.neg (by omega) e
  | succ d ih =>
    intro a h p hS hp
    obtain ⟨v, a1, h1, e1, s1, _⟩ := l01Next_ev hS h 3
    obtain ⟨q, n, hq, e⟩ := ih a1 h1 (p ++ [wrap64 (v - 1)]) s1 (by simp; omega)
    refine ⟨q, n, hq, Ev.succ ?_⟩
    simp only [spec_DrawInverseSeries.l1]
    refine Ev.pos (by omega) ?_
    rw [e1]
    refine Ev.some_bind (Ev.pos (by omega) ?_)
    rw [show wrap64 (((d + 1 : Nat) : Int) - 1) = (d : Int) from (w64' (by omega)).trans (by omega)]
    exact e
theorem draw_ev (c : List Int) (hc : c.length ≤ 4096) (hb : ∀ x ∈ c, 0 ≤ x ∧ x ≤ 255) : ∃ q n, q.length ≤ 1000 ∧ Ev (fun k => spec_DrawInverseSeries.f k c) (q, n) := by
  have hS : Src c 0 := ⟨hb, hc, by omega, by omega⟩
  obtain ⟨h, e0⟩ := l01From_ev c hc
  obtain ⟨⟨x0, x1, a1, h1⟩, ⟨n, f, rfl, rfl, hn, hn8, _, _, s1⟩, e1⟩ := l02Draw_ev hS h 8 (by omega)
  have e2 := l06Clique_ev n hn8 f
  have h8 : (2 : Nat) ^ n ≤ 2 ^ 8 := Nat.pow_le_pow_right (by decide) hn8
  have lq := cliqueP_length (stepsP n f) (fun m hm => by have := List.mem_range.1 (List.mem_filter.1 hm).1; omega)
  generalize cliqueP (stepsP n f) = Q at e2 lq
  obtain ⟨v, a2, h2, e3, s2, _⟩ := l01Next_ev s1 h1 6
  simp only [spec_DrawInverseSeries.f]
  have step : ∀ r, Ev (fun k => if v = 0 then ((spec_l01Next.f c a2 h2 6).bind fun bt246 => (spec_DrawInverseSeries.l0 k (([1] : List Int)) bt246.1 c bt246.2.1 bt246.2.2)) else (if v = 1 then ((spec_l01Next.f c a2 h2 30).bind fun bt258 => (spec_DrawInverseSeries.l1 k (([1] : List Int)) bt258.1 c bt258.2.1 bt258.2.2)) else (if v = 2 then (if (Q.length : Int) > 1 then ((spec_l01Next.f c a2 h2 (Q.length : Int)).bind fun bt267 => ((spec_l01Pick.f c bt267.2.1 bt267.2.2 (([0, 2, 1001, (-1001), 1152921504606846976] : List Int))).bind fun bt273 => (if 0 ≤ bt267.1 then (if bt267.1 < (Q.length : Int) then (spec_DrawInverseSeries.j2 k (Q.set (bt267.1 : Int).toNat bt273.1) c bt273.2.1 bt273.2.2) else (none)) else (none)))) else (spec_DrawInverseSeries.j2 k Q c a2 h2)) else (spec_DrawInverseSeries.j2 k Q c a2 h2)))) r →
      Ev (fun k => (spec_l01From.f k c).bind fun bt227 => (spec_l02Draw.f k bt227.1 bt227.2.1 bt227.2.2 8).bind fun bt231 => (spec_l06Clique.f k bt231.1 bt231.2.1).bind fun t237 => (spec_l01Next.f bt227.1 bt231.2.2.1 bt231.2.2.2 6).bind fun bt240 => if bt240.1 = 0 then ((spec_l01Next.f bt227.1 bt240.2.1 bt240.2.2 6).bind fun bt246 => (spec_DrawInverseSeries.l0 k (([1] : List Int)) bt246.1 bt227.1 bt246.2.1 bt246.2.2)) else (if bt240.1 = 1 then ((spec_l01Next.f bt227.1 bt240.2.1 bt240.2.2 30).bind fun bt258 => (spec_DrawInverseSeries.l1 k (([1] : List Int)) bt258.1 bt227.1 bt258.2.1 bt258.2.2)) else (if bt240.1 = 2 then (if (t237.length : Int) > 1 then ((spec_l01Next.f bt227.1 bt240.2.1 bt240.2.2 (t237.length : Int)).bind fun bt267 => ((spec_l01Pick.f bt227.1 bt267.2.1 bt267.2.2 (([0, 2, 1001, (-1001), 1152921504606846976] : List Int))).bind fun bt273 => (if 0 ≤ bt267.1 then (if bt267.1 < (t237.length : Int) then (spec_DrawInverseSeries.j2 k (t237.set (bt267.1 : Int).toNat bt273.1) bt227.1 bt273.2.1 bt273.2.2) else (none)) else (none)))) else (spec_DrawInverseSeries.j2 k t237 bt227.1 bt240.2.1 bt240.2.2)) else (spec_DrawInverseSeries.j2 k t237 bt227.1 bt240.2.1 bt240.2.2)))) r := by
    intro r hr
    refine Ev.bind e0 (Ev.bind e1 (Ev.bind e2 ?_))
    simp only []
    rw [e3]
    exact Ev.some_bind hr
  by_cases g0 : v = 0
  · obtain ⟨w, a3, h3, e4, s3, w0, w1, _⟩ := l01Next_ev s2 h2 6
    obtain ⟨d, rfl⟩ := Int.eq_ofNat_of_zero_le w0
    have := w1 (by omega)
    obtain ⟨q, m, hq, e5⟩ := draw_l0 c d a3 h3 [1] s3 (by simp; omega)
    refine ⟨q, m, hq, step _ (Ev.pos g0 ?_)⟩
    rw [e4]
    exact Ev.some_bind e5
  · by_cases g1 : v = 1
    · obtain ⟨w, a3, h3, e4, s3, w0, w1, _⟩ := l01Next_ev s2 h2 30
      obtain ⟨d, rfl⟩ := Int.eq_ofNat_of_zero_le w0
      have := w1 (by omega)
      obtain ⟨q, m, hq, e5⟩ := draw_l1 c d a3 h3 [1] s3 (by simp; omega)
      refine ⟨q, m, hq, step _ (Ev.neg g0 (Ev.pos g1 ?_))⟩
      rw [e4]
      exact Ev.some_bind e5
    · by_cases g2 : v = 2 ∧ (Q.length : Int) > 1
      · obtain ⟨w, a3, h3, e4, s3, w0, w1, _⟩ := l01Next_ev s2 h2 (Q.length : Int)
        obtain ⟨x, a4, h4, e5, s4, _⟩ := l01Pick_ev s3 h3 [0, 2, 1001, -1001, 1152921504606846976] (by simp)
        have w2 := w1 (by omega)
        obtain ⟨q, m, hq, e6⟩ := draw_j2 s4 h4 (Q.set w.toNat x) (by simp; omega)
        refine ⟨q, m, hq, step _ (Ev.neg g0 (Ev.neg g1 (Ev.pos g2.1 (Ev.pos g2.2 ?_))))⟩
        rw [e4]
        refine Ev.some_bind ?_
        simp only []
        rw [e5]
        exact Ev.some_bind (Ev.pos w0 (Ev.pos w2 e6))
      · obtain ⟨q, m, hq, e6⟩ := draw_j2 s2 h2 Q (by omega)
        refine ⟨q, m, hq, step _ (Ev.neg g0 (Ev.neg g1 (Ev.ite (fun k1 => Ev.neg (fun k2 => g2 ⟨k1, k2⟩) e6) (fun _ => e6))))⟩
theorem law_ev (c : List Int) (hc : c.length ≤ 17592186044416) (hb : ∀ x ∈ c, 0 ≤ x ∧ x ≤ 255) : Ev (fun k => laws_FnInverseSeries.f k c) true := by
  simp only [laws_FnInverseSeries.f, laws_big.f]
  refine Ev.some_bind (Ev.ite (fun _ => Ev.now _) (fun g => ?_))
  obtain ⟨p, n, hp, e⟩ := draw_ev c (by simp at g; omega) hb
  refine Ev.bind e (Ev.bind (impl_InverseSeries_ev p n) (Ev.bind (spec_InverseSeries_ev p n (by omega)) (Ev.pos rfl ?_)))
  have hl : (invSeries p n).1.length ≤ 100 := by
    unfold invSeries
    split
    · simp
    · split
      · simp
      · rename_i h1 h2
        have := invLoop_length p n.toNat [1]
        simp only [not_or, Decidable.not_not] at h1
        simp at this
        omega
  refine Ev.bind (likeInts_ev _ (by omega)) (Ev.succ ?_)
  simp only [laws_FnInverseSeries.j0]
  refine Ev.neg (by simp) (Ev.ite (fun k0 => Ev.some_bind ?_) (fun _ => Ev.now _))
  unfold invSeries at k0 ⊢
  by_cases c1 : ¬ (0 ≤ n ∧ n ≤ 24) ∨ ¬ (∀ x ∈ p, -1000 ≤ x ∧ x ≤ 1000)
  · rw [if_pos c1] at k0; cases k0
  · rw [if_neg c1] at k0 ⊢
    by_cases c2 : p.length = 0 ∨ rd p 0 ≠ 1
    · rw [if_pos c2] at k0; cases k0
    · rw [if_neg c2] at k0 ⊢
      simp only [not_or, Decidable.not_not] at c1 c2
      obtain ⟨⟨n0, n1⟩, hpb⟩ := c1
      obtain ⟨m, rfl⟩ := Int.eq_ofNat_of_zero_le n0
      rw [Int.toNat_natCast] at k0 ⊢
      have hI0 : InvOf p [1] := ⟨by simp, rfl, Bd.of_mem (by unfold MC; omega) (by intro x hx; simp at hx; subst hx; unfold MC; omega), fun i h1 h2 => by simp at h2; omega⟩
      obtain ⟨hI, hlen⟩ := invLoop_inv p m [1] hI0 k0
      exact rounds_ev p _ m (by omega) hI (by rw [hlen]; simp; omega) (by omega) c2.2 (Bd.of_mem (by omega) hpb) (by omega)
theorem u8_bounds {x : Int} (h : (Lit.int .u8 x).wf = true) : 0 ≤ x ∧ x ≤ 255 := by
  simp only [Lit.wf, IntKind.min, IntKind.max, IntKind.signed, IntKind.bits, Bool.and_eq_true, decide_eq_true_eq] at h
  simp at h
  omega
theorem big_ev (c : List Int) (h : 4096 < c.length) : Ev (fun k => laws_FnInverseSeries.f k c) true := by
  simp only [laws_FnInverseSeries.f, laws_big.f]
  exact Ev.some_bind (Ev.pos (by simp; omega) (Ev.now _))
theorem FnInverseSeries : laws_FnInverseSeries.Pure := by
  intro c h0 h1 h2
  by_cases h : c.length ≤ 4096
  · exact (law_ev c (by omega) (fun x hx => u8_bounds (h2 x hx))).rounds
  · exact (big_ev c (by omega)).rounds
end Go.Proofs.Ytopdbfdagckfeaa.Pure
