import Derived.Test.YtopdbfdagckfeaaQInv
import Derived.Test.YtopdbfdagckfeaaPFnExactInverseSeriesx
set_option linter.unusedVariables false
set_option linter.unusedSimpArgs false
/-! Both InverseSeries come to the plain one. -/
namespace Go.Proofs.Ytopdbfdagckfeaa.PFnExactInverseSeries
open Go.RowKit Go.Proofs.YtopdbfdagckfeaaW.PrintWords Go.Proofs.Ytopdbfdagckfeaa.Q

theorem l01In_eq (a lo hi : Int) : spec_l01In.f a lo hi = some (decide (lo ≤ a ∧ a ≤ hi)) := by
  unfold spec_l01In.f
  by_cases h : lo ≤ a
  · rw [if_pos h]; simp [h]
  · rw [if_neg h]; simp [h]
theorem inRange_eq (a lo hi : Int) : impl_inRange.f a lo hi = some (decide (lo ≤ a ∧ a ≤ hi)) := by
  unfold impl_inRange.f
  by_cases h : lo ≤ a
  · rw [if_pos h]; simp [h]
  · rw [if_neg h]; simp [h]

/-- one product's two parts by the unit U -/
theorem parts {U M a b : Int} (hU : U = 1000000 ∧ M = 1000000000 ∨ U = 1000000000 ∧ M = 1000000) (ha : -1000 ≤ a ∧ a ≤ 1000) (hb : -MC ≤ b ∧ b ≤ MC) :
    (-(1000 * M) ≤ a * b.tdiv U ∧ a * b.tdiv U ≤ 1000 * M) ∧ (-(1000 * U) ≤ a * b.tmod U ∧ a * b.tmod U ≤ 1000 * U) ∧ (a * b.tdiv U) * U + a * b.tmod U = a * b ∧
    (-M ≤ b.tdiv U ∧ b.tdiv U ≤ M) := by
  unfold MC at hb
  have h1 : -M ≤ b.tdiv U ∧ b.tdiv U ≤ M := by rw [tdiv_cases]; rcases hU with ⟨rfl, rfl⟩ | ⟨rfl, rfl⟩ <;> split <;> omega
  have h2 : -U ≤ b.tmod U ∧ b.tmod U ≤ U := by rw [Int.tmod_def, tdiv_cases]; rcases hU with ⟨rfl, rfl⟩ | ⟨rfl, rfl⟩ <;> split <;> omega
  refine ⟨mul_bd ha h1, mul_bd ha h2, ?_, h1⟩
  rw [Int.mul_assoc, ← Int.mul_add]
  congr 1
  rw [Int.tmod_def, Int.mul_comm U]
  omega

theorem spec_inner (p q : List Int) (n : Int) (k : Nat) (hk : k ≤ 24) (hq : q.length = k) (hp : Bd 1000 p) (hb : Bd MC q) (R : List Int × Int)
    (hR : ∀ hi lo : Int, hi * 1000000000 + lo = nextInv p q → -30000000000 ≤ hi ∧ hi ≤ 30000000000 → -30000000000000 ≤ lo ∧ lo ≤ 30000000000000 → Ev (fun f => spec_InverseSeries.j4 f p n q k hi lo) R) :
    ∀ (d i : Nat) (hi lo : Int), i + d = min k (p.length - 1) → hi * 1000000000 + lo = - psum p q k i → -(1000000000 * i) ≤ hi ∧ hi ≤ 1000000000 * i → -(1000000000000 * i) ≤ lo ∧ lo ≤ 1000000000000 * i →
    Ev (fun f => spec_InverseSeries.l2 f p n q k hi lo (i + 1 : Nat)) R := by
  intro d
  induction d with
  | zero =>
    intro i hi lo he hs h1 h2
    refine Ev.succ ?_
    simp only [spec_InverseSeries.l2]
    have hfin := hR hi lo (by rw [hs]; unfold nextInv; rw [hq, show min k (p.length - 1) = i by omega]) (by omega) (by omega)
    refine Ev.ite (fun c1 => Ev.ite (fun c2 => ?_) (fun c2 => ?_)) (fun c1 => ?_)
    · omega
    · exact hfin
    · exact hfin
  | succ d ih =>
    intro i hi lo he hs h1 h2
    refine Ev.succ ?_
    simp only [spec_InverseSeries.l2]
    have hx := parts (U := 1000000000) (M := 1000000) (.inr ⟨rfl, rfl⟩) (hp (i + 1)) (hb (k - (i + 1)))
    have e1 : wrap64 ((k : Int) - ((i + 1 : Nat) : Int)) = ((k - (i + 1) : Nat) : Int) := (w64' (by omega)).trans (by omega)
    rw [e1]
    refine Ev.pos (by omega) (Ev.pos (by omega) (Ev.pos (by omega) (Ev.pos (by omega) (Ev.pos (by omega) ?_))))
    generalize hA : rd p ((i + 1 : Nat) : Int) = a at *
    generalize hB : rd q ((k - (i + 1) : Nat) : Int) = b at *
    obtain ⟨x1, x2, x3, x4⟩ := hx
    generalize hC : b.tdiv 1000000000 = c at *
    generalize hD : b.tmod 1000000000 = e at *
    rw [w64' (x := c) (by omega)]
    generalize hE : a * c = ac at *
    generalize hF : a * e = ae at *
    rw [w64' (x := ac) (by omega), w64' (x := ae) (by omega), w64' (x := hi - ac) (by omega), w64' (x := lo - ae) (by omega), w64' (by omega)]
    refine ih (i + 1) (hi - ac) (lo - ae) (by omega) ?_ (by omega) (by omega)
    simp only [psum]
    rw [hA, hB]
    omega

theorem spec_loop (p : List Int) (n : Nat) (hn : n ≤ 24) (hp : Bd 1000 p) : ∀ (d : Nat) (q : List Int), q.length + d = n + 1 → 1 ≤ q.length → Bd MC q →
    Ev (fun f => spec_InverseSeries.l1 f p n q q.length) (invLoop p d q) := by
  intro d
  induction d with
  | zero =>
    intro q hd h1 hb
    refine Ev.succ ?_
    simp only [spec_InverseSeries.l1]
    exact Ev.neg (by omega) (Ev.now _)
  | succ d ih =>
    intro q hd h1 hb
    refine Ev.succ ?_
    simp only [spec_InverseSeries.l1]
    refine Ev.pos (by omega) ?_
    refine spec_inner p q n q.length (by omega) rfl hp hb _ ?_ (min q.length (p.length - 1)) 0 0 0 (by omega) (by simp [psum]) (by omega) (by omega)
    intro hi lo hs b1 b2
    refine Ev.succ ?_
    simp only [spec_InverseSeries.j4, l01In_eq]
    refine Ev.some_bind ?_
    simp only [invLoop, decide_eq_true_eq]
    by_cases c1 : -2000000 ≤ hi ∧ hi ≤ 2000000
    · rw [w64' (x := hi * 1000000000) (by omega), hs]
      refine Ev.pos c1 (Ev.some_bind ?_)
      rw [w64' (x := nextInv p q) (by omega)]
      simp only [decide_eq_true_eq]
      refine Ev.ite (fun c2 => ?_) (fun c2 => ?_)
      · rw [if_pos (by unfold MC at *; omega)]
        refine Ev.pos (by omega) ?_
        have := ih (q ++ [nextInv p q]) (by simp; omega) (by simp) (hb.snoc (by unfold MC; omega))
        rw [w64' (by omega)]
        rw [show ((q ++ [nextInv p q]).length : Int) = (q.length : Int) + 1 by simp] at this
        exact this
      · rw [if_neg (by unfold MC at *; omega)]
        exact Ev.now _
    · refine Ev.neg c1 ?_
      rw [if_neg (by unfold MC at *; omega)]
      exact Ev.now _

theorem impl_inner (p q : List Int) (n : Int) (k : Nat) (hk : k ≤ 24) (hq : q.length = k) (hp : Bd 1000 p) (hb : Bd MC q) (R : List Int × Int)
    (hR : ∀ hi lo : Int, hi * 1000000 + lo = nextInv p q → -30000000000000 ≤ hi ∧ hi ≤ 30000000000000 → -30000000000 ≤ lo ∧ lo ≤ 30000000000 → Ev (fun f => impl_inverse.j2 f p n q k hi lo) R) :
    ∀ (d i : Nat) (hi lo : Int), i + d = min k (p.length - 1) → hi * 1000000 + lo = - psum p q k i → -(1000000000000 * i) ≤ hi ∧ hi ≤ 1000000000000 * i → -(1000000000 * i) ≤ lo ∧ lo ≤ 1000000000 * i →
    Ev (fun f => impl_inverse.l1 f p n q k hi lo (i + 1 : Nat)) R := by
  intro d
  induction d with
  | zero =>
    intro i hi lo he hs h1 h2
    refine Ev.succ ?_
    simp only [impl_inverse.l1, impl_length_int64.f]
    have hfin := hR hi lo (by rw [hs]; unfold nextInv; rw [hq, show min k (p.length - 1) = i by omega]) (by omega) (by omega)
    refine Ev.ite (fun c1 => Ev.some_bind (Ev.ite (fun c2 => ?_) (fun c2 => ?_))) (fun c1 => ?_)
    · omega
    · exact hfin
    · exact hfin
  | succ d ih =>
    intro i hi lo he hs h1 h2
    refine Ev.succ ?_
    simp only [impl_inverse.l1, impl_length_int64.f]
    have hx := parts (U := 1000000) (M := 1000000000) (.inl ⟨rfl, rfl⟩) (hp (i + 1)) (hb (k - (i + 1)))
    have e1 : wrap64 ((k : Int) - ((i + 1 : Nat) : Int)) = ((k - (i + 1) : Nat) : Int) := (w64' (by omega)).trans (by omega)
    rw [e1]
    refine Ev.pos (by omega) (Ev.some_bind (Ev.pos (by omega) (Ev.pos (by omega) (Ev.pos (by omega) (Ev.pos (by omega) (Ev.pos (by omega) ?_))))))
    generalize hA : rd p ((i + 1 : Nat) : Int) = a at *
    generalize hB : rd q ((k - (i + 1) : Nat) : Int) = b at *
    obtain ⟨x1, x2, x3, x4⟩ := hx
    generalize hC : b.tdiv 1000000 = c at *
    generalize hD : b.tmod 1000000 = e at *
    rw [w64' (x := c) (by omega)]
    generalize hE : a * c = ac at *
    generalize hF : a * e = ae at *
    rw [w64' (x := ac) (by omega), w64' (x := ae) (by omega), w64' (x := hi - ac) (by omega), w64' (x := lo - ae) (by omega), w64' (by omega)]
    refine ih (i + 1) (hi - ac) (lo - ae) (by omega) ?_ (by omega) (by omega)
    simp only [psum]
    rw [hA, hB]
    omega

theorem impl_loop (p : List Int) (n : Nat) (hn : n ≤ 24) (hp : Bd 1000 p) : ∀ (d : Nat) (q : List Int), q.length + d = n + 1 → 1 ≤ q.length → Bd MC q →
    Ev (fun f => impl_inverse.l0 f p n q q.length) (invLoop p d q) := by
  intro d
  induction d with
  | zero =>
    intro q hd h1 hb
    refine Ev.succ ?_
    simp only [impl_inverse.l0]
    exact Ev.neg (by omega) (Ev.now _)
  | succ d ih =>
    intro q hd h1 hb
    refine Ev.succ ?_
    simp only [impl_inverse.l0]
    refine Ev.pos (by omega) ?_
    refine impl_inner p q n q.length (by omega) rfl hp hb _ ?_ (min q.length (p.length - 1)) 0 0 0 (by omega) (by simp [psum]) (by omega) (by omega)
    intro hi lo hs b1 b2
    refine Ev.succ ?_
    simp only [impl_inverse.j2]
    have t1 : -30000 ≤ lo.tdiv 1000000 ∧ lo.tdiv 1000000 ≤ 30000 := by rw [tdiv_cases]; split <;> omega
    have t2 : -1000000 < lo.tmod 1000000 ∧ lo.tmod 1000000 < 1000000 := by rw [Int.tmod_def, tdiv_cases]; split <;> omega
    have t3 : lo = lo.tdiv 1000000 * 1000000 + lo.tmod 1000000 := by rw [Int.tmod_def]; omega
    generalize lo.tdiv 1000000 = c at *
    generalize lo.tmod 1000000 = e at *
    rw [w64' (x := c) (by omega), w64' (x := hi + c) (by omega)]
    have hs' : (hi + c) * 1000000 + e = nextInv p q := by omega
    clear hs t3
    have fin : ∀ b : Bool, (b = true → ¬ (-MC ≤ nextInv p q ∧ nextInv p q ≤ MC)) → (b = false → -2000000000 ≤ hi + c ∧ hi + c ≤ 2000000000) → Ev (fun f => impl_inverse.j3 f p n q q.length (hi + c) e b) (invLoop p (d + 1) q) := by
      intro b hb1 hb2
      refine Ev.succ ?_
      simp only [impl_inverse.j3, inRange_eq, invLoop]
      cases b with
      | true =>
        rw [if_neg (hb1 rfl)]
        exact Ev.pos (by simp) (Ev.now _)
      | false =>
        have hb2 := hb2 rfl
        refine Ev.neg (by simp) (Ev.some_bind ?_)
        rw [w64' (x := (hi + c) * 1000000) (by omega), w64' (by omega), hs']
        simp only [decide_eq_true_eq]
        refine Ev.ite (fun c2 => ?_) (fun c2 => ?_)
        · rw [if_pos (by unfold MC at *; omega)]
          refine Ev.pos (by omega) ?_
          have := ih (q ++ [nextInv p q]) (by simp; omega) (by simp) (hb.snoc (by unfold MC; omega))
          rw [w64' (by omega)]
          rw [show ((q ++ [nextInv p q]).length : Int) = (q.length : Int) + 1 by simp] at this
          exact this
        · rw [if_neg (by unfold MC at *; omega)]
          exact Ev.now _
    refine Ev.ite (fun c1 => ?_) (fun c1 => ?_)
    · exact fin true (fun _ => by unfold MC; omega) (fun h => by cases h)
    · exact fin _ (fun h => by have := of_decide_eq_true h; unfold MC; omega) (fun h => by have := of_decide_eq_false h; omega)

/-- what both functions answer -/
def invSeries (p : List Int) (n : Int) : List Int × Int :=
  if ¬ (0 ≤ n ∧ n ≤ 24) ∨ ¬ (∀ x ∈ p, -1000 ≤ x ∧ x ≤ 1000) then ([], 2)
  else if p.length = 0 ∨ rd p 0 ≠ 1 then ([], 5)
  else invLoop p n.toNat [1]

theorem spec_scan (p : List Int) (n : Int) (hp : p.length ≤ 17592186044416) (R : List Int × Int) (hbad : (¬ ∀ x ∈ p, -1000 ≤ x ∧ x ≤ 1000) → R = ([], 2))
    (hgood : (∀ x ∈ p, -1000 ≤ x ∧ x ≤ 1000) → Ev (fun f => if (p.length : Int) = 0 then spec_InverseSeries.j1 f p n true else if 0 < (p.length : Int) then spec_InverseSeries.j1 f p n (rd p 0 != 1) else none) R) :
    ∀ (d i : Nat), i + d = p.length → (∀ j (h : j < p.length), j < i → -1000 ≤ p[j] ∧ p[j] ≤ 1000) → Ev (fun f => spec_InverseSeries.l0 f p n i) R := by
  intro d
  induction d with
  | zero =>
    intro i hi hj
    refine Ev.succ ?_
    simp only [spec_InverseSeries.l0]
    refine Ev.neg (by omega) (hgood fun x hx => ?_)
    obtain ⟨j, hj', rfl⟩ := List.getElem_of_mem hx
    exact hj j hj' (by omega)
  | succ d ih =>
    intro i hi hj
    refine Ev.succ ?_
    simp only [spec_InverseSeries.l0, l01In_eq]
    refine Ev.pos (by omega) (Ev.pos (by omega) (Ev.some_bind ?_))
    simp only [decide_eq_true_eq]
    rw [rd_lt p i (by omega)]
    refine Ev.ite (fun c => ?_) (fun c => ?_)
    · rw [w64' (by omega)]
      refine ih (i + 1) (by omega) (fun j h hji => ?_)
      by_cases e : j = i
      · subst e; exact c
      · exact hj j h (by omega)
    · rw [hbad (fun h => c (h _ (List.getElem_mem (by omega))))]
      exact Ev.now _

theorem spec_InverseSeries_ev (p : List Int) (n : Int) (hp : p.length ≤ 17592186044416) : Ev (fun k => spec_InverseSeries.f k p n) (invSeries p n) := by
  simp only [spec_InverseSeries.f, l01In_eq]
  refine Ev.some_bind ?_
  simp only [decide_eq_true_eq]
  refine Ev.ite (fun c1 => ?_) (fun c1 => ?_)
  · refine spec_scan p n hp _ (fun h => ?_) (fun h => ?_) p.length 0 (by omega) (by intro j _ hj; omega)
    · unfold invSeries; rw [if_pos (.inr h)]
    · have e0 : ∀ R, invSeries p n = R ↔ (if p.length = 0 ∨ rd p 0 ≠ 1 then (([] : List Int), (5 : Int)) else invLoop p n.toNat [1]) = R := by
        intro R; unfold invSeries; rw [if_neg (by simp only [not_or, Decidable.not_not]; exact ⟨c1, h⟩)]
      refine Ev.ite (fun c2 => ?_) (fun c2 => Ev.pos (by omega) ?_)
      · rw [(e0 ([], 5)).2 (if_pos (.inl (by omega)))]
        refine Ev.succ ?_
        simp only [spec_InverseSeries.j1]
        exact Ev.pos (by simp) (Ev.now _)
      · refine Ev.succ ?_
        simp only [spec_InverseSeries.j1]
        refine Ev.ite (fun c3 => ?_) (fun c3 => ?_)
        · rw [(e0 ([], 5)).2 (if_pos (.inr (by simpa using c3)))]
          exact Ev.now _
        · rw [(e0 _).2 (if_neg (by simp only [not_or]; refine ⟨by omega, ?_⟩; simpa using c3))]
          obtain ⟨m, rfl⟩ := Int.eq_ofNat_of_zero_le c1.1
          exact spec_loop p m (by omega) (Bd.of_mem (by omega) h) m [1] (by simp; omega) (by simp) (Bd.of_mem (by unfold MC; omega) (by intro x hx; simp at hx; subst hx; unfold MC; omega))
  · unfold invSeries
    rw [if_pos (.inl c1)]
    exact Ev.now _

theorem impl_inverse_ev (p : List Int) (n : Nat) (hn : n ≤ 24) (hp : ∀ x ∈ p, -1000 ≤ x ∧ x ≤ 1000) : Ev (fun k => impl_inverse.f k p n) (invLoop p n [1]) := by
  simp only [impl_inverse.f]
  exact impl_loop p n hn (Bd.of_mem (by omega) hp) n [1] (by simp; omega) (by simp) (Bd.of_mem (by unfold MC; omega) (by intro x hx; simp at hx; subst hx; unfold MC; omega))
end Go.Proofs.Ytopdbfdagckfeaa.PFnExactInverseSeries
