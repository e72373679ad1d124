import Derived.Test.YtopdbfdagckfeaaPFnInverseSeriesx1
import Derived.Test.YtopdbfdagckfeaaPFnInverseSeriesx2
import Derived.Test.YtopdbfdagckfeaaV0
import Derived.Test.YtopdbfdagckfeaaQBase
import Derived.Test.YtopdbfdagckfeaaQDraw
import Derived.Test.YtopdbfdagckfeaaQInv
import Derived.Test.YtopdbfdagckfeaaQMask
import Derived.Test.YtopdbfdagckfeaaQMeet
import Derived.Test.YtopdbfdagckfeaaQTrace
set_option linter.unusedVariables false
set_option linter.unusedSimpArgs false
namespace Go.Proofs.Ytopdbfdagckfeaa.PFnInverseSeries
open Go.RowKit Go.Proofs.YtopdbfdagckfeaaW.PrintWords Go.Proofs.YtopdbfdagckfeaaW.PrintMore Go.Proofs.Ytopdbfdagckfeaa.Q
theorem l01In_eq (a lo hi : Int) : spec_l01In.f a lo hi = some (decide (lo ≤ a ∧ a ≤ hi)) := by
  unfold spec_l01In.f
  by_cases h : lo ≤ a
  · rw [if_pos h]; simp [h]
  · rw [if_neg h]; simp [h]
theorem inRange_eq (a lo hi : Int) : impl_inRange.f a lo hi = some (decide (lo ≤ a ∧ a ≤ hi)) := by
  unfold impl_inRange.f
  by_cases h : lo ≤ a
  · rw [if_pos h]; simp [h]
  · rw [if_neg h]; simp [h]
theorem l01One_eq (n : Nat) (h : n ≤ 61) : spec_l01One.f (n : Int) = some ((2 ^ n : Nat) : Int) := by
  unfold spec_l01One.f
  rw [u64_nat n (by omega), if_pos (by omega), shl_one n h]
theorem l01Full_eq (n : Nat) (h : n ≤ 61) : spec_l01Full.f (n : Int) = some ((2 ^ n - 1 : Nat) : Int) := by
  unfold spec_l01Full.f
  rw [l01One_eq n h]
  have h1 : 0 < 2 ^ n := Nat.two_pow_pos n
  have h2 : (2 : Nat) ^ n ≤ 2 ^ 61 := Nat.pow_le_pow_right (by decide) h
  simp only [Option.bind_some]
  rw [w64' (by omega)]
  congr 1
  omega
theorem l01Bit_eq (m i : Nat) (hm : m < 2 ^ 62) (h : i ≤ 64) : spec_l01Bit.f (m : Int) (i : Int) = some (m.testBit i) := by
  unfold spec_l01Bit.f
  rw [u64_nat i (by omega), if_pos (by omega), bit_at m i hm h]
/-- one product's two parts by the unit U -/
theorem parts {U M a b : Int} (hU : U = 1000000 ∧ M = 1000000000 ∨ U = 1000000000 ∧ M = 1000000) (ha : -1000 ≤ a ∧ a ≤ 1000) (hb : -MC ≤ b ∧ b ≤ MC) :
    (-(1000 * M) ≤ a * b.tdiv U ∧ a * b.tdiv U ≤ 1000 * M) ∧ (-(1000 * U) ≤ a * b.tmod U ∧ a * b.tmod U ≤ 1000 * U) ∧ (a * b.tdiv U) * U + a * b.tmod U = a * b ∧
    (-M ≤ b.tdiv U ∧ b.tdiv U ≤ M) := by
  unfold MC at hb
  have h1 : -M ≤ b.tdiv U ∧ b.tdiv U ≤ M := by rw [tdiv_cases]; rcases hU with ⟨rfl, rfl⟩ | ⟨rfl, rfl⟩ <;> split <;> omega
  have h2 : -U ≤ b.tmod U ∧ b.tmod U ≤ U := by rw [Int.tmod_def, tdiv_cases]; rcases hU with ⟨rfl, rfl⟩ | ⟨rfl, rfl⟩ <;> split <;> omega
  refine ⟨mul_bd ha h1, mul_bd ha h2, ?_, h1⟩
  rw [Int.mul_assoc, ← Int.mul_add]
  congr 1
  rw [Int.tmod_def, Int.mul_comm U]
  omega

/-- what both functions answer -/
def invSeries (p : List Int) (n : Int) : List Int × Int :=
  if ¬ (0 ≤ n ∧ n ≤ 24) ∨ ¬ (∀ x ∈ p, -1000 ≤ x ∧ x ≤ 1000) then ([], 2)
  else if p.length = 0 ∨ rd p 0 ≠ 1 then ([], 5)
  else invLoop p n.toNat [1]
theorem spec_inner (p q : List Int) (n : Int) (k : Nat) (hk : k ≤ 24) (hq : q.length = k) (hp : Bd 1000 p) (hb : Bd MC q) (R : List Int × Int)
    (hR : ∀ hi lo : Int, hi * 1000000000 + lo = nextInv p q → -30000000000 ≤ hi ∧ hi ≤ 30000000000 → -30000000000000 ≤ lo ∧ lo ≤ 30000000000000 → Ev (fun f => spec_InverseSeries.j4 f p n q k hi lo) R) :
    ∀ (d i : Nat) (hi lo : Int), i + d = min k (p.length - 1) → hi * 1000000000 + lo = - psum p q k i → -(1000000000 * i) ≤ hi ∧ hi ≤ 1000000000 * i → -(1000000000000 * i) ≤ lo ∧ lo ≤ 1000000000000 * i →
    Ev (fun f => spec_InverseSeries.l2 f p n q k hi lo (i + 1 : Nat)) R := by
  intro d
  induction d with
  | zero =>
    intro i hi lo he hs h1 h2
    refine Ev.succ ?_
    simp only [spec_InverseSeries.l2]
    have hfin := hR hi lo (by rw [hs]; unfold nextInv; rw [hq, show min k (p.length - 1) = i by omega]) (by omega) (by omega)
    refine Ev.ite (fun c1 => Ev.ite (fun c2 => ?_) (fun c2 => ?_)) (fun c1 => ?_)
    · omega
    · exact hfin
    · exact hfin
  | succ d ih =>
    intro i hi lo he hs h1 h2
    refine Ev.succ ?_
    simp only [spec_InverseSeries.l2]
    have hx := parts (U := 1000000000) (M := 1000000) (.inr ⟨rfl, rfl⟩) (hp (i + 1)) (hb (k - (i + 1)))
    have e1 : wrap64 ((k : Int) - ((i + 1 : Nat) : Int)) = ((k - (i + 1) : Nat) : Int) := (w64' (by omega)).trans (by omega)
    rw [e1]
    refine Ev.pos (by omega) (Ev.pos (by omega) (Ev.pos (by omega) (Ev.pos (by omega) (Ev.pos (by omega) ?_))))
    generalize hA : rd p ((i + 1 : Nat) : Int) = a at *
    generalize hB : rd q ((k - (i + 1) : Nat) : Int) = b at *
    obtain ⟨x1, x2, x3, x4⟩ := hx
    generalize hC : b.tdiv 1000000000 = c at *
    generalize hD : b.tmod 1000000000 = e at *
    rw [w64' (x := c) (by omega)]
    generalize hE : a * c = ac at *
    generalize hF : a * e = ae at *
    rw [w64' (x := ac) (by omega), w64' (x := ae) (by omega), w64' (x := hi - ac) (by omega), w64' (x := lo - ae) (by omega), w64' (by omega)]
    refine ih (i + 1) (hi - ac) (lo - ae) (by omega) ?_ (by omega) (by omega)
    simp only [psum]
    rw [hA, hB]
    omega

theorem spec_loop (p : List Int) (n : Nat) (hn : n ≤ 24) (hp : Bd 1000 p) : ∀ (d : Nat) (q : List Int), q.length + d = n + 1 → 1 ≤ q.length → Bd MC q →
    Ev (fun f => spec_InverseSeries.l1 f p n q q.length) (invLoop p d q) := by
  intro d
  induction d with
  | zero =>
    intro q hd h1 hb
    refine Ev.succ ?_
    simp only [spec_InverseSeries.l1]
    exact Ev.neg (by omega) (Ev.now _)
  | succ d ih =>
    intro q hd h1 hb
    refine Ev.succ ?_
    simp only [spec_InverseSeries.l1]
    refine Ev.pos (by omega) ?_
    refine spec_inner p q n q.length (by omega) rfl hp hb _ ?_ (min q.length (p.length - 1)) 0 0 0 (by omega) (by simp [psum]) (by omega) (by omega)
    intro hi lo hs b1 b2
    refine Ev.succ ?_
    simp only [spec_InverseSeries.j4, l01In_eq]
    refine Ev.some_bind ?_
    simp only [invLoop, decide_eq_true_eq]
    by_cases c1 : -2000000 ≤ hi ∧ hi ≤ 2000000
    · rw [w64' (x := hi * 1000000000) (by omega), hs]
      refine Ev.pos c1 (Ev.some_bind ?_)
      rw [w64' (x := nextInv p q) (by omega)]
      simp only [decide_eq_true_eq]
      refine Ev.ite (fun c2 => ?_) (fun c2 => ?_)
      · rw [if_pos (by unfold MC at *; omega)]
        refine Ev.pos (by omega) ?_
        have := ih (q ++ [nextInv p q]) (by simp; omega) (by simp) (hb.snoc (by unfold MC; omega))
        rw [w64' (by omega)]
        rw [show ((q ++ [nextInv p q]).length : Int) = (q.length : Int) + 1 by simp] at this
        exact this
      · rw [if_neg (by unfold MC at *; omega)]
        exact Ev.now _
    · refine Ev.neg c1 ?_
      rw [if_neg (by unfold MC at *; omega)]
      exact Ev.now _

theorem spec_scan (p : List Int) (n : Int) (hp : p.length ≤ 17592186044416) (R : List Int × Int) (hbad : (¬ ∀ x ∈ p, -1000 ≤ x ∧ x ≤ 1000) → R = ([], 2))
    (hgood : (∀ x ∈ p, -1000 ≤ x ∧ x ≤ 1000) → Ev (fun f => if (p.length : Int) = 0 then spec_InverseSeries.j1 f p n true else if 0 < (p.length : Int) then spec_InverseSeries.j1 f p n (rd p 0 != 1) else none) R) :
    ∀ (d i : Nat), i + d = p.length → (∀ j (h : j < p.length), j < i → -1000 ≤ p[j] ∧ p[j] ≤ 1000) → Ev (fun f => spec_InverseSeries.l0 f p n i) R := by
  intro d
  induction d with
  | zero =>
    intro i hi hj
    refine Ev.succ ?_
    simp only [spec_InverseSeries.l0]
    refine Ev.neg (by omega) (hgood fun x hx => ?_)
    obtain ⟨j, hj', rfl⟩ := List.getElem_of_mem hx
    exact hj j hj' (by omega)
  | succ d ih =>
    intro i hi hj
    refine Ev.succ ?_
    simp only [spec_InverseSeries.l0, l01In_eq]
    refine Ev.pos (by omega) (Ev.pos (by omega) (Ev.some_bind ?_))
    simp only [decide_eq_true_eq]
    rw [rd_lt p i (by omega)]
    refine Ev.ite (fun c => ?_) (fun c => ?_)
    · rw [w64' (by omega)]
      refine ih (i + 1) (by omega) (fun j h hji => ?_)
      by_cases e : j = i
      · subst e; exact c
      · exact hj j h (by omega)
    · rw [hbad (fun h => c (h _ (List.getElem_mem (by omega))))]
      exact Ev.now _

theorem spec_InverseSeries_ev (p : List Int) (n : Int) (hp : p.length ≤ 17592186044416) : Ev (fun k => spec_InverseSeries.f k p n) (invSeries p n) := by
  simp only [spec_InverseSeries.f, l01In_eq]
  refine Ev.some_bind ?_
  simp only [decide_eq_true_eq]
  refine Ev.ite (fun c1 => ?_) (fun c1 => ?_)
  · refine spec_scan p n hp _ (fun h => ?_) (fun h => ?_) p.length 0 (by omega) (by intro j _ hj; omega)
    · unfold invSeries; rw [if_pos (.inr h)]
    · have e0 : ∀ R, invSeries p n = R ↔ (if p.length = 0 ∨ rd p 0 ≠ 1 then (([] : List Int), (5 : Int)) else invLoop p n.toNat [1]) = R := by
        intro R; unfold invSeries; rw [if_neg (by simp only [not_or, Decidable.not_not]; exact ⟨c1, h⟩)]
      refine Ev.ite (fun c2 => ?_) (fun c2 => Ev.pos (by omega) ?_)
      · rw [(e0 ([], 5)).2 (if_pos (.inl (by omega)))]
        refine Ev.succ ?_
        simp only [spec_InverseSeries.j1]
        exact Ev.pos (by simp) (Ev.now _)
      · refine Ev.succ ?_
        simp only [spec_InverseSeries.j1]
        refine Ev.ite (fun c3 => ?_) (fun c3 => ?_)
        · rw [(e0 ([], 5)).2 (if_pos (.inr (by simpa using c3)))]
          exact Ev.now _
        · rw [(e0 _).2 (if_neg (by simp only [not_or]; refine ⟨by omega, ?_⟩; simpa using c3))]
          obtain ⟨m, rfl⟩ := Int.eq_ofNat_of_zero_le c1.1
          exact spec_loop p m (by omega) (Bd.of_mem (by omega) h) m [1] (by simp; omega) (by simp) (Bd.of_mem (by unfold MC; omega) (by intro x hx; simp at hx; subst hx; unfold MC; omega))
  · unfold invSeries
    rw [if_pos (.inl c1)]
    exact Ev.now _
theorem impl_inner (p q : List Int) (n : Int) (k : Nat) (hk : k ≤ 24) (hq : q.length = k) (hp : Bd 1000 p) (hb : Bd MC q) (R : List Int × Int)
    (hR : ∀ hi lo : Int, hi * 1000000 + lo = nextInv p q → -30000000000000 ≤ hi ∧ hi ≤ 30000000000000 → -30000000000 ≤ lo ∧ lo ≤ 30000000000 → Ev (fun f => impl_inverse.j2 f p n q k hi lo) R) :
    ∀ (d i : Nat) (hi lo : Int), i + d = min k (p.length - 1) → hi * 1000000 + lo = - psum p q k i → -(1000000000000 * i) ≤ hi ∧ hi ≤ 1000000000000 * i → -(1000000000 * i) ≤ lo ∧ lo ≤ 1000000000 * i →
    Ev (fun f => impl_inverse.l1 f p n q k hi lo (i + 1 : Nat)) R := by
  intro d
  induction d with
  | zero =>
    intro i hi lo he hs h1 h2
    refine Ev.succ ?_
    simp only [impl_inverse.l1, impl_length_int64.f]
    have hfin := hR hi lo (by rw [hs]; unfold nextInv; rw [hq, show min k (p.length - 1) = i by omega]) (by omega) (by omega)
    refine Ev.ite (fun c1 => Ev.some_bind (Ev.ite (fun c2 => ?_) (fun c2 => ?_))) (fun c1 => ?_)
    · omega
    · exact hfin
    · exact hfin
  | succ d ih =>
    intro i hi lo he hs h1 h2
    refine Ev.succ ?_
    simp only [impl_inverse.l1, impl_length_int64.f]
    have hx := parts (U := 1000000) (M := 1000000000) (.inl ⟨rfl, rfl⟩) (hp (i + 1)) (hb (k - (i + 1)))
    have e1 : wrap64 ((k : Int) - ((i + 1 : Nat) : Int)) = ((k - (i + 1) : Nat) : Int) := (w64' (by omega)).trans (by omega)
    rw [e1]
    refine Ev.pos (by omega) (Ev.some_bind (Ev.pos (by omega) (Ev.pos (by omega) (Ev.pos (by omega) (Ev.pos (by omega) (Ev.pos (by omega) ?_))))))
    generalize hA : rd p ((i + 1 : Nat) : Int) = a at *
    generalize hB : rd q ((k - (i + 1) : Nat) : Int) = b at *
    obtain ⟨x1, x2, x3, x4⟩ := hx
    generalize hC : b.tdiv 1000000 = c at *
    generalize hD : b.tmod 1000000 = e at *
    rw [w64' (x := c) (by omega)]
    generalize hE : a * c = ac at *
    generalize hF : a * e = ae at *
    rw [w64' (x := ac) (by omega), w64' (x := ae) (by omega), w64' (x := hi - ac) (by omega), w64' (x := lo - ae) (by omega), w64' (by omega)]
    refine ih (i + 1) (hi - ac) (lo - ae) (by omega) ?_ (by omega) (by omega)
    simp only [psum]
    rw [hA, hB]
    omega

theorem impl_loop (p : List Int) (n : Nat) (hn : n ≤ 24) (hp : Bd 1000 p) : ∀ (d : Nat) (q : List Int), q.length + d = n + 1 → 1 ≤ q.length → Bd MC q →
    Ev (fun f => impl_inverse.l0 f p n q q.length) (invLoop p d q) := by
  intro d
  induction d with
  | zero =>
    intro q hd h1 hb
    refine Ev.succ ?_
    simp only [impl_inverse.l0]
    exact Ev.neg (by omega) (Ev.now _)
  | succ d ih =>
    intro q hd h1 hb
    refine Ev.succ ?_
    simp only [impl_inverse.l0]
    refine Ev.pos (by omega) ?_
    refine impl_inner p q n q.length (by omega) rfl hp hb _ ?_ (min q.length (p.length - 1)) 0 0 0 (by omega) (by simp [psum]) (by omega) (by omega)
    intro hi lo hs b1 b2
    refine Ev.succ ?_
    simp only [impl_inverse.j2]
    have t1 : -30000 ≤ lo.tdiv 1000000 ∧ lo.tdiv 1000000 ≤ 30000 := by rw [tdiv_cases]; split <;> omega
    have t2 : -1000000 < lo.tmod 1000000 ∧ lo.tmod 1000000 < 1000000 := by rw [Int.tmod_def, tdiv_cases]; split <;> omega
    have t3 : lo = lo.tdiv 1000000 * 1000000 + lo.tmod 1000000 := by rw [Int.tmod_def]; omega
    generalize lo.tdiv 1000000 = c at *
    generalize lo.tmod 1000000 = e at *
    rw [w64' (x := c) (by omega), w64' (x := hi + c) (by omega)]
    have hs' : (hi + c) * 1000000 + e = nextInv p q := by omega
    clear hs t3
    have fin : ∀ b : Bool, (b = true → ¬ (-MC ≤ nextInv p q ∧ nextInv p q ≤ MC)) → (b = false → -2000000000 ≤ hi + c ∧ hi + c ≤ 2000000000) → Ev (fun f => impl_inverse.j3 f p n q q.length (hi + c) e b) (invLoop p (d + 1) q) := by
      intro b hb1 hb2
      refine Ev.succ ?_
      simp only [impl_inverse.j3, inRange_eq, invLoop]
      cases b with
      | true =>
        rw [if_neg (hb1 rfl)]
        exact Ev.pos (by simp) (Ev.now _)
      | false =>
        have hb2 := hb2 rfl
        refine Ev.neg (by simp) (Ev.some_bind ?_)
        rw [w64' (x := (hi + c) * 1000000) (by omega), w64' (by omega), hs']
        simp only [decide_eq_true_eq]
        refine Ev.ite (fun c2 => ?_) (fun c2 => ?_)
        · rw [if_pos (by unfold MC at *; omega)]
          refine Ev.pos (by omega) ?_
          have := ih (q ++ [nextInv p q]) (by simp; omega) (by simp) (hb.snoc (by unfold MC; omega))
          rw [w64' (by omega)]
          rw [show ((q ++ [nextInv p q]).length : Int) = (q.length : Int) + 1 by simp] at this
          exact this
        · rw [if_neg (by unfold MC at *; omega)]
          exact Ev.now _
    refine Ev.ite (fun c1 => ?_) (fun c1 => ?_)
    · exact fin true (fun _ => by unfold MC; omega) (fun h => by cases h)
    · exact fin _ (fun h => by have := of_decide_eq_true h; unfold MC; omega) (fun h => by have := of_decide_eq_false h; omega)

theorem impl_inverse_ev (p : List Int) (n : Nat) (hn : n ≤ 24) (hp : ∀ x ∈ p, -1000 ≤ x ∧ x ≤ 1000) : Ev (fun k => impl_inverse.f k p n) (invLoop p n [1]) := by
  simp only [impl_inverse.f]
  exact impl_loop p n hn (Bd.of_mem (by omega) hp) n [1] (by simp; omega) (by simp) (Bd.of_mem (by unfold MC; omega) (by intro x hx; simp at hx; subst hx; unfold MC; omega))
theorem impl_InverseSeries_ev (p : List Int) (n : Int) : Ev (fun k => impl_InverseSeries.f k p n) (invSeries p n) := by
  simp only [impl_InverseSeries.f, inRange_eq, impl_allIn.f]
  refine Ev.some_bind ?_
  simp only [decide_eq_true_eq]
  refine Ev.ite (fun c1 => Ev.some_bind ?_) (fun c1 => ?_)
  · refine Ev.succ ?_
    simp only [impl_InverseSeries.j0]
    refine Ev.ite (fun c2 => ?_) (fun c2 => ?_)
    · have h : ¬ ∀ x ∈ p, -1000 ≤ x ∧ x ≤ 1000 := by
        intro h
        simp only [Bool.not_eq_true', List.all_eq_false] at c2
        obtain ⟨x, hx, hx'⟩ := c2
        exact hx' (by simpa using h x hx)
      unfold invSeries
      rw [if_pos (.inr h)]
      exact Ev.now _
    · have h : ∀ x ∈ p, -1000 ≤ x ∧ x ≤ 1000 := by simpa using c2
      unfold invSeries
      rw [if_neg (by simp only [not_or, Decidable.not_not]; exact ⟨c1, h⟩)]
      refine Ev.ite (fun c3 => ?_) (fun c3 => Ev.pos (by omega) (Ev.ite (fun c4 => ?_) (fun c4 => ?_)))
      · rw [if_pos (.inl (by omega))]
        exact Ev.now _
      · rw [if_neg (by simp only [not_or]; exact ⟨by omega, by simpa using c4⟩)]
        obtain ⟨m, rfl⟩ := Int.eq_ofNat_of_zero_le c1.1
        exact Ev.bind (impl_inverse_ev p m (by omega) h) (Ev.now _)
      · rw [if_pos (.inr c4)]
        exact Ev.now _
  · refine Ev.succ ?_
    simp only [impl_InverseSeries.j0]
    unfold invSeries
    rw [if_pos (.inl c1)]
    exact Ev.pos (by simp) (Ev.now _)
theorem l01From_ev (c : List Int) (hc : c.length ≤ 4096) : ∃ h, Ev (fun k => spec_l01From.f k c) (c, 0, h) := by
  have loop : ∀ (d i : Nat) (h : Int), i + d = c.length → ∃ h', Ev (fun k => spec_l01From.l0 k c (i : Int) c 0 h) (c, 0, h') := by
    intro d
    induction d with
    | zero =>
      intro i h hi
      refine ⟨h, Ev.succ ?_⟩
      simp only [spec_l01From.l0]
      exact Ev.neg (by omega) (Ev.now _)
    | succ d ih =>
      intro i h hi
      obtain ⟨h', e⟩ := ih (i + 1) (IntKind.u64.wrap ((IntKind.u64.wrap ((IntKind.u64.wrap (h * 1099511628211)) + (IntKind.u64.wrap (rd c i)))) + 11)) (by omega)
      refine ⟨h', Ev.succ ?_⟩
      simp only [spec_l01From.l0]
      refine Ev.pos (by omega) (Ev.pos (by omega) (Ev.pos (by omega) ?_))
      rw [w64' (by omega)]
      exact e
  simp only [spec_l01From.f]
  exact loop c.length 0 _ (by omega)
theorem l01Next_ev {c : List Int} {a : Int} (hS : Src c a) (h n : Int) : ∃ v a' h', spec_l01Next.f c a h n = some (v, a', h') ∧ Src c a' ∧ 0 ≤ v ∧ (1 ≤ n → v < n) ∧ (n < 1 → v = 0) := by
  unfold spec_l01Next.f
  by_cases h1 : n < 1
  · rw [if_pos h1]
    exact ⟨_, _, _, rfl, hS, by omega, by omega, fun _ => rfl⟩
  · rw [if_neg h1]
    have hr := u64_range (IntKind.u64.wrap (h * 6364136223846793005) + 1442695040888963407)
    generalize IntKind.u64.wrap (IntKind.u64.wrap (h * 6364136223846793005) + 1442695040888963407) = H at hr
    obtain ⟨b, hb, b0, b1⟩ := u64_mask (H / 8589934592) (by omega) (by omega)
    rw [hb, w64' (x := b) (by omega)]
    obtain ⟨s1, s2, s3, s4⟩ := hS
    by_cases g : a < (c.length : Int)
    · rw [if_pos g, if_pos s3, if_neg (by omega)]
      obtain ⟨i, rfl⟩ := Int.eq_ofNat_of_zero_le s3
      have hx := s1 _ (List.getElem_mem (show i < c.length by omega))
      rw [rd_lt c i (by omega), w64' (x := c[i]) (by omega), w64' (x := b + c[i]) (by omega), w64' (x := (i : Int) + 1) (by omega)]
      have := tmod_range (b + c[i]) n (by omega) (by omega)
      exact ⟨_, _, _, rfl, ⟨s1, s2, by omega, by omega⟩, this.1, fun _ => this.2, by omega⟩
    · rw [if_neg g, if_neg (by omega)]
      have := tmod_range b n (by omega) (by omega)
      exact ⟨_, _, _, rfl, ⟨s1, s2, s3, s4⟩, this.1, fun _ => this.2, by omega⟩
theorem l01Pick_ev {c : List Int} {a : Int} (hS : Src c a) (h : Int) (l : List Int) (hl : 1 ≤ l.length) : ∃ v a' h', spec_l01Pick.f c a h l = some (v, a', h') ∧ Src c a' ∧ v ∈ l := by
  obtain ⟨v, a', h', e, s, v0, v1, _⟩ := l01Next_ev hS h (l.length : Int)
  unfold spec_l01Pick.f
  rw [e]
  simp only [Option.bind_some]
  have := v1 (by omega)
  obtain ⟨i, rfl⟩ := Int.eq_ofNat_of_zero_le v0
  rw [if_pos v0, if_pos this, rd_lt l i (by omega)]
  exact ⟨_, _, _, rfl, s, List.getElem_mem _⟩
theorem l01Number_ev {c : List Int} {a : Int} (hS : Src c a) (h m : Int) : ∃ v a' h', spec_l01Number.f c a h m = some (v, a', h') ∧ Src c a' := by
  unfold spec_l01Number.f
  obtain ⟨v, a1, h1, e, s, _⟩ := l01Next_ev hS h 12
  rw [e]
  simp only [Option.bind_some]
  by_cases g : v = 0
  · rw [if_pos g]
    obtain ⟨w, a2, h2, e2, s2, _⟩ := l01Pick_ev s h1 [-1, wrap64 (m + 1), 1099511627776, -4611686018427387904] (by simp)
    rw [e2]
    exact ⟨_, _, _, rfl, s2⟩
  · rw [if_neg g]
    obtain ⟨w, a2, h2, e2, s2, _⟩ := l01Next_ev s h1 (wrap64 (m + 1))
    rw [e2]
    exact ⟨_, _, _, rfl, s2⟩
theorem mk_single (n a : Nat) (ha : a < n) : mk n (fun b => decide (a = b)) = 2 ^ a := bits_ext fun i => by
  rw [testBit_mk, testBit_one]
  by_cases e : a = i
  · subst e; simp [ha]
  · simp [e]
theorem l02Free_ev (n : Nat) (hn : n ≤ 24) : Ev (fun k => spec_l02Free.f k (n : Int)) ((n : Int), mat n fun a b => decide (a = b)) := by
  have e : mat n (fun a b => decide (a = b)) = (List.range n).map fun i => ((2 ^ i : Nat) : Int) := by
    unfold mat
    refine List.map_congr_left fun i hi => ?_
    rw [mk_single n i (List.mem_range.1 hi)]
  rw [e]
  have loop : ∀ (d i : Nat), i + d = n → Ev (fun k => spec_l02Free.l0 k (n : Int) (i : Int) (n : Int) ((List.range i).map fun i => ((2 ^ i : Nat) : Int))) ((n : Int), (List.range n).map fun i => ((2 ^ i : Nat) : Int)) := by
    intro d
    induction d with
    | zero =>
      intro i hi
      obtain rfl : i = n := by omega
      refine Ev.succ ?_
      simp only [spec_l02Free.l0]
      exact Ev.neg (by omega) (Ev.now _)
    | succ d ih =>
      intro i hi
      refine Ev.succ ?_
      simp only [spec_l02Free.l0]
      refine Ev.pos (by omega) ?_
      rw [l01One_eq i (by omega), w64' (by omega)]
      refine Ev.some_bind (Ev.pos (by simp; omega) ?_)
      have := ih (i + 1) (by omega)
      rw [List.range_succ, List.map_append] at this
      exact this
  simp only [spec_l02Free.f]
  exact loop n 0 (by omega)
theorem mat_set (n : Nat) (f : Nat → Nat → Bool) (a b : Nat) (ha : a < n) (hb : b < n) : (mat n f).set a ((mk n (f a) ||| 2 ^ b : Nat) : Int) = mat n fun i k => f i k || (decide (i = a) && decide (k = b)) := by
  apply List.ext_getElem
  · simp
  · intro q h1 h2
    have hq : q < n := by simpa using h1
    rw [List.getElem_set]
    by_cases e : a = q
    · subst e
      rw [if_pos rfl]
      simp only [mat, List.getElem_map, List.getElem_range]
      congr 1
      refine bits_ext fun i => ?_
      rw [Nat.testBit_or, testBit_mk, testBit_mk, testBit_one]
      by_cases e : b = i
      · subst e; simp [hb]
      · simp [e, show ¬ i = b from fun h => e h.symm]
    · rw [if_neg e]
      simp only [mat, List.getElem_map, List.getElem_range]
      congr 1
      exact mk_congr fun i _ => by simp [show ¬ q = a from fun h => e h.symm]
theorem l02Join_eq (n : Nat) (hn : n ≤ 24) (f : Nat → Nat → Bool) (a b : Nat) (ha : a < n) (hb : b < n) :
    spec_l02Join.f (n : Int) (mat n f) (a : Int) (b : Int) = some (mat n fun i k => (f i k || (decide (i = a) && decide (k = b))) || (decide (i = b) && decide (k = a))) := by
  unfold spec_l02Join.f
  have p1 := pow24 hn
  have p2 : (2 : Nat) ^ a ≤ 2 ^ 24 := pow24 (by omega)
  have p3 : (2 : Nat) ^ b ≤ 2 ^ 24 := pow24 (by omega)
  have h1 := mk_lt n (f a)
  have h2 := mk_lt n (fun k => f b k || (decide (b = a) && decide (k = b)))
  rw [if_pos (by omega), if_pos (by simp; omega), show spec_l01One_Bl02Join.f (b : Int) = spec_l01One.f (b : Int) from rfl, show spec_l01One_Bl02Join.f (a : Int) = spec_l01One.f (a : Int) from rfl, l01One_eq a (by omega), l01One_eq b (by omega), rd_mat n f a ha]
  simp only [Option.bind_some]
  rw [b_or _ _ (by omega) (by omega), Int.toNat_natCast, mat_set n f a b ha hb]
  rw [if_pos (by omega), if_pos (by simp; omega), rd_mat n _ b hb, b_or _ _ (by omega) (by omega), Int.toNat_natCast, mat_set n _ b a hb ha]
/-- what is drawn: an alphabet of at most so many letters -/
def Drawn (c : List Int) (most : Nat) (r : Int × List Int × Int × Int) : Prop := ∃ (n : Nat) (f : Nat → Nat → Bool), r.1 = (n : Int) ∧ r.2.1 = mat n f ∧ n ≤ most ∧ n ≤ 8 ∧ (∀ a b, f a b = f b a) ∧ (∀ a, a < n → f a a = true) ∧ Src c r.2.2.1
theorem l02Draw_l0 (c : List Int) (most n : Nat) (hn : n ≤ most) (hn8 : n ≤ 8) (part : Int) : ∀ (d a : Nat), a + d = n → ∀ (f : Nat → Nat → Bool) (at_ h : Int), (∀ a b, f a b = f b a) → (∀ a, a < n → f a a = true) → Src c at_ →
    ∃ r, Drawn c most r ∧ Ev (fun k => spec_l02Draw.l0 k (n : Int) part (a : Int) c at_ h (n : Int) (mat n f)) r := by
  intro d
  induction d with
  | zero =>
    intro a ha f at_ h hs hr hS
    refine ⟨((n : Int), mat n f, at_, h), ⟨n, f, rfl, rfl, hn, hn8, hs, hr, hS⟩, Ev.succ ?_⟩
    simp only [spec_l02Draw.l0]
    exact Ev.neg (by omega) (Ev.now _)
  | succ d ih =>
    intro a ha f at_ h hs hr hS
    have inner : ∀ (e b : Nat), b + e = a → ∀ (f : Nat → Nat → Bool) (at_ h : Int), (∀ a b, f a b = f b a) → (∀ a, a < n → f a a = true) → Src c at_ →
        ∃ r, Drawn c most r ∧ Ev (fun k => spec_l02Draw.l1 k (n : Int) part (a : Int) (b : Int) c at_ h (n : Int) (mat n f)) r := by
      intro e
      induction e with
      | zero =>
        intro b hb f at_ h hs hr hS
        obtain ⟨r, hd, he⟩ := ih (a + 1) (by omega) f at_ h hs hr hS
        refine ⟨r, hd, Ev.succ ?_⟩
        simp only [spec_l02Draw.l1]
        refine Ev.neg (by omega) ?_
        rw [w64' (by omega)]
        exact he
      | succ e ihe =>
        intro b hb f at_ h hs hr hS
        obtain ⟨v, a1, h1, e1, s1, _⟩ := l01Next_ev hS h part
        by_cases g : v = 0
        · obtain ⟨r, hd, he⟩ := ihe (b + 1) (by omega) (fun i k => (f i k || (decide (i = a) && decide (k = b))) || (decide (i = b) && decide (k = a))) a1 h1 (fun x y => by
            rw [hs x y, Bool.eq_iff_iff]
            simp only [Bool.or_eq_true, Bool.and_eq_true, decide_eq_true_eq]
            constructor
            · rintro ((h | ⟨h1, h2⟩) | ⟨h1, h2⟩)
              · exact .inl (.inl h)
              · exact .inr ⟨h2, h1⟩
              · exact .inl (.inr ⟨h2, h1⟩)
            · rintro ((h | ⟨h1, h2⟩) | ⟨h1, h2⟩)
              · exact .inl (.inl h)
              · exact .inr ⟨h2, h1⟩
              · exact .inl (.inr ⟨h2, h1⟩)) (fun x hx => by simp [hr x hx]) s1
          refine ⟨r, hd, Ev.succ ?_⟩
          simp only [spec_l02Draw.l1]
          refine Ev.pos (by omega) ?_
          rw [e1]
          refine Ev.some_bind (Ev.pos g ?_)
          rw [l02Join_eq n (by omega) f a b (by omega) (by omega), w64' (by omega)]
          exact Ev.some_bind he
        · obtain ⟨r, hd, he⟩ := ihe (b + 1) (by omega) f a1 h1 hs hr s1
          refine ⟨r, hd, Ev.succ ?_⟩
          simp only [spec_l02Draw.l1]
          refine Ev.pos (by omega) ?_
          rw [e1]
          refine Ev.some_bind (Ev.neg g ?_)
          rw [w64' (by omega)]
          exact he
    obtain ⟨r, hd, he⟩ := inner a 0 (by omega) f at_ h hs hr hS
    refine ⟨r, hd, Ev.succ ?_⟩
    simp only [spec_l02Draw.l0]
    exact Ev.pos (by omega) he
theorem l02Draw_ev {c : List Int} {a : Int} (hS : Src c a) (h : Int) (most : Nat) (hm : most ≤ 8) : ∃ r, Drawn c most r ∧ Ev (fun k => spec_l02Draw.f k c a h (most : Int)) r := by
  have j1 : ∀ (n a h : Int), 0 ≤ n → n ≤ most → Src c a → ∃ r, Drawn c most r ∧ Ev (fun k => spec_l02Draw.j1 k n c a h) r := by
    intro n a h h0 h1 hS
    obtain ⟨m, rfl⟩ := Int.eq_ofNat_of_zero_le h0
    obtain ⟨v, a1, h1', e1, s1, _⟩ := l01Pick_ev hS h [2, 2, 3, 4] (by simp)
    obtain ⟨r, hd, he⟩ := l02Draw_l0 c most m (by omega) (by omega) v m 0 (by omega) (fun a b => decide (a = b)) a1 h1' (fun x y => by rw [decide_eq_decide]; exact ⟨Eq.symm, Eq.symm⟩) (by simp) s1
    refine ⟨r, hd, Ev.succ ?_⟩
    simp only [spec_l02Draw.j1]
    refine Ev.bind (l02Free_ev m (by omega)) ?_
    rw [e1]
    exact Ev.some_bind he
  have j0 : ∀ (b : Bool) (a h : Int), (b = true → 4 ≤ most) → Src c a → ∃ r, Drawn c most r ∧ Ev (fun k => spec_l02Draw.j0 k (most : Int) b c a h) r := by
    intro b a h hb hS
    cases b with
    | true =>
      refine ⟨((4 : Nat), [11, 7, 14, 13], a, h), ⟨4, fun x y => decide (x < 4 ∧ y < 4) && bitR [11, 7, 14, 13] x y, rfl, ?_, hb rfl, by omega, ?_, ?_, hS⟩, Ev.succ ?_⟩
      · exact (eq_mat [11, 7, 14, 13] (by decide)).trans (mat_congr fun i k hi hk => by
          have h1 : i < 4 := hi
          have h2 : k < 4 := hk
          simp [h1, h2])
      · intro x y
        have key : ∀ x, x < 4 → ∀ y, y < 4 → bitR [11, 7, 14, 13] x y = bitR [11, 7, 14, 13] y x := by decide
        show (decide (x < 4 ∧ y < 4) && bitR [11, 7, 14, 13] x y) = (decide (y < 4 ∧ x < 4) && bitR [11, 7, 14, 13] y x)
        by_cases hx : x < 4 <;> by_cases hy : y < 4 <;> simp [hx, hy]
        exact key x hx y hy
      · decide
      · simp only [spec_l02Draw.j0]
        exact Ev.pos trivial (Ev.now _)
    | false =>
      obtain ⟨v, a1, h1, e1, s1, v0, v1, _⟩ := l01Next_ev hS h (wrap64 ((most : Int) + 1))
      have w := w64' (x := (most : Int) + 1) (by omega)
      by_cases g : v < 2
      · obtain ⟨v2, a2, h2, e2, s2, u0, u1, _⟩ := l01Next_ev s1 h1 (wrap64 ((most : Int) + 1))
        obtain ⟨r, hd, he⟩ := j1 v2 a2 h2 u0 (by rw [w] at u1; have := u1 (by omega); omega) s2
        refine ⟨r, hd, Ev.succ ?_⟩
        simp only [spec_l02Draw.j0]
        refine Ev.neg (by simp) ?_
        rw [e1]
        refine Ev.some_bind (Ev.pos g ?_)
        rw [e2]
        exact Ev.some_bind he
      · obtain ⟨r, hd, he⟩ := j1 v a1 h1 v0 (by rw [w] at v1; have := v1 (by omega); omega) s1
        refine ⟨r, hd, Ev.succ ?_⟩
        simp only [spec_l02Draw.j0]
        refine Ev.neg (by simp) ?_
        rw [e1]
        exact Ev.some_bind (Ev.neg g he)
  by_cases h4 : 4 ≤ most
  · obtain ⟨v, a1, h1, e1, s1, _⟩ := l01Next_ev hS h 6
    obtain ⟨r, hd, he⟩ := j0 (v == 0) a1 h1 (fun _ => h4) s1
    refine ⟨r, hd, ?_⟩
    simp only [spec_l02Draw.f]
    refine Ev.pos (by omega) ?_
    rw [e1]
    exact Ev.some_bind he
  · obtain ⟨r, hd, he⟩ := j0 false a h (by simp) hS
    refine ⟨r, hd, ?_⟩
    simp only [spec_l02Draw.f]
    exact Ev.neg (by omega) he
theorem l02Step_ev (n : Nat) (hn : n ≤ 8) (f : Nat → Nat → Bool) (m : Nat) (hm : m < 2 ^ 24) : Ev (fun k => spec_l02Step.f k (n : Int) (mat n f) (m : Int)) (stepP n f m) := by
  have loop : ∀ (d a : Nat), a + d = n → (∀ i, i < a → (!m.testBit i || decide (mk n (f i) &&& m = 2 ^ i)) = true) → Ev (fun k => spec_l02Step.l0 k (m : Int) (a : Int) (n : Int) (mat n f)) (stepP n f m) := by
    intro d
    induction d with
    | zero =>
      intro a ha hp
      refine Ev.succ ?_
      simp only [spec_l02Step.l0]
      refine Ev.neg (by omega) (Ev.const ?_)
      congr 1
      symm
      exact List.all_eq_true.2 fun i hi => hp i (by have := List.mem_range.1 hi; omega)
    | succ d ih =>
      intro a ha hp
      have h1 := mk_lt n (f a)
      have h2 := pow24 (show n ≤ 24 by omega)
      have h3 : (2 : Nat) ^ 24 ≤ 2 ^ 62 := Nat.pow_le_pow_right (by decide) (by decide)
      refine Ev.succ ?_
      simp only [spec_l02Step.l0]
      refine Ev.pos (by omega) ?_
      rw [l01Bit_eq m a (by omega) (by omega)]
      refine Ev.some_bind (Ev.ite (fun c => ?_) (fun c => ?_))
      · refine Ev.pos (by omega) (Ev.pos (by simp; omega) ?_)
        rw [l01One_eq a (by omega), rd_mat n f a (by omega), b_and _ _ (by omega) (by omega)]
        refine Ev.some_bind (Ev.ite (fun g => ?_) (fun g => ?_))
        · rw [w64' (by omega)]
          refine ih (a + 1) (by omega) (fun i hi => ?_)
          by_cases e : i = a
          · subst e
            have : mk n (f i) &&& m = 2 ^ i := by omega
            simp [this]
          · exact hp i (by omega)
        · refine Ev.const ?_
          congr 1
          symm
          rw [← Bool.not_eq_true]
          intro h
          have := List.all_eq_true.1 h a (List.mem_range.2 (by omega))
          rw [c] at this
          simp only [Bool.not_true, Bool.false_or, decide_eq_true_eq] at this
          exact g (by rw [this])
      · rw [w64' (by omega)]
        refine ih (a + 1) (by omega) (fun i hi => ?_)
        by_cases e : i = a
        · subst e
          simp [c]
        · exact hp i (by omega)
  simp only [spec_l02Step.f]
  exact loop n 0 (by omega) (by intro i hi; omega)
theorem l02Steps_ev (n : Nat) (hn : n ≤ 8) (f : Nat → Nat → Bool) : Ev (fun k => spec_l02Steps.f k (n : Int) (mat n f)) (ints (stepsP n f)) := by
  have h24 := pow24 (show n ≤ 24 by omega)
  have hpos := Nat.two_pow_pos n
  have h8 : (2 : Nat) ^ n ≤ 2 ^ 8 := Nat.pow_le_pow_right (by decide) hn
  have loop : ∀ (d m : Nat), m + d = 2 ^ n → Ev (fun k => spec_l02Steps.l0 k (ints ((List.range m).filter (stepP n f))) (m : Int) (n : Int) (mat n f)) (ints (stepsP n f)) := by
    intro d
    induction d with
    | zero =>
      intro m hm
      obtain rfl : m = 2 ^ n := by omega
      refine Ev.succ ?_
      simp only [spec_l02Steps.l0, l01Full_eq n (show n ≤ 61 by omega)]
      exact Ev.some_bind (Ev.neg (by omega) (Ev.now _))
    | succ d ih =>
      intro m hm
      have := ih (m + 1) (by omega)
      rw [List.range_succ, List.filter_append] at this
      refine Ev.succ ?_
      simp only [spec_l02Steps.l0, l01Full_eq n (show n ≤ 61 by omega)]
      refine Ev.some_bind (Ev.pos (by omega) (Ev.bind (l02Step_ev n hn f m (by omega)) ?_))
      rw [w64' (by omega)]
      refine Ev.ite (fun c => ?_) (fun c => ?_)
      · have hl := List.length_filter_le (stepP n f) (List.range m)
        simp only [List.length_range] at hl
        refine Ev.pos (by simp; omega) ?_
        rw [List.filter_cons_of_pos c, List.filter_nil, ints_append] at this
        exact this
      · rw [List.filter_cons_of_neg c, List.filter_nil, List.append_nil] at this
        exact this
  simp only [spec_l02Steps.f]
  exact loop (2 ^ n) 0 (by omega)
theorem l01Bits_ev (m : Nat) (hm : m < 2 ^ 24) : Ev (fun k => spec_l01Bits.f k (m : Int)) ((pcP m : Nat) : Int) := by
  have loop : ∀ (N m : Nat) (acc : Nat), m ≤ N → acc + m ≤ 100000000 → Ev (fun k => spec_l01Bits.l0 k (m : Int) (acc : Int)) ((acc + pcP m : Nat) : Int) := by
    intro N
    induction N with
    | zero =>
      intro m acc h1 h3
      obtain rfl : m = 0 := by omega
      refine Ev.succ ?_
      simp only [spec_l01Bits.l0]
      exact Ev.neg (by omega) (Ev.const (by rw [pcP_zero]; rfl))
    | succ N ih =>
      intro m acc h1 h3
      by_cases h0 : m = 0
      · subst h0
        refine Ev.succ ?_
        simp only [spec_l01Bits.l0]
        exact Ev.neg (by omega) (Ev.const (by rw [pcP_zero]; rfl))
      · have e1 : Int.tdiv (m : Int) 2 = ((m / 2 : Nat) : Int) := by rw [Int.tdiv_eq_ediv_of_nonneg (by omega)]; omega
        have e2 : Int.tmod (m : Int) 2 = ((m % 2 : Nat) : Int) := by rw [Int.tmod_eq_emod_of_nonneg (by omega)]; omega
        refine Ev.succ ?_
        simp only [spec_l01Bits.l0]
        refine Ev.pos (by omega) ?_
        rw [e1, e2, w64' (by omega), w64' (by omega)]
        have := ih (m / 2) (acc + m % 2) (by omega) (by omega)
        rw [pcP_pos h0, show acc + (m % 2 + pcP (m / 2)) = acc + m % 2 + pcP (m / 2) by omega]
        exact this
  simp only [spec_l01Bits.f]
  exact Ev.val (loop m m 0 (Nat.le_refl _) (by omega)) (by simp)
theorem rd_snoc0 (l : List Int) (i : Nat) : rd (l ++ [0]) (i : Int) = rd l (i : Int) := by
  rw [rd_nat, rd_nat, List.getD_eq_getElem?_getD, List.getD_eq_getElem?_getD]
  rcases Nat.lt_trichotomy i l.length with h | h | h
  · rw [List.getElem?_append_left h]
  · rw [h, List.getElem?_append_right (Nat.le_refl _), List.getElem?_eq_none (Nat.le_refl _)]; simp
  · rw [List.getElem?_append_right (by omega), List.getElem?_eq_none (by simp; omega), List.getElem?_eq_none (by omega)]
theorem l06Clique_l0 (ms : List Nat) (hl : ms.length ≤ 10000) (hms : ∀ m ∈ ms, m < 2 ^ 24) : ∀ (suf pre : List Nat) (out : List Int), pre ++ suf = ms → out.length ≤ 100 → (∀ i : Nat, -(3 * (pre.length : Int)) ≤ rd out (i : Int) ∧ rd out (i : Int) ≤ 3 * (pre.length : Int)) →
    Ev (fun k => spec_l06Clique.l0 k out (ints ms) (pre.length : Int)) (suf.foldl (fun out m => addK out (pcP m)) out) := by
  intro suf
  induction suf with
  | nil =>
    intro pre out hp ho hb
    refine Ev.succ ?_
    simp only [spec_l06Clique.l0]
    exact Ev.neg (by simp [← hp]) (Ev.const rfl)
  | cons m suf ih =>
    intro pre out hp ho hb
    have hlen : pre.length + suf.length + 1 = ms.length := by rw [← hp]; simp; omega
    have hm : m < 2 ^ 24 := hms m (by simp [← hp])
    have hpc := pcP_le 24 m hm
    refine Ev.succ ?_
    simp only [spec_l06Clique.l0]
    refine Ev.pos (by simp; omega) (Ev.pos (by omega) ?_)
    have r1 : rd (ints ms) (pre.length : Int) = (m : Int) := by rw [← hp]; exact rd_mid pre suf m
    rw [r1]
    refine Ev.bind (l01Bits_ev m hm) ?_
    rw [List.foldl_cons]
    -- the zeros behind it
    have inner : ∀ (e z : Nat), z + e = pcP m + 1 - out.length → Ev (fun k => spec_l06Clique.l1 k (out ++ List.replicate z 0) (ints ms) (pre.length : Int) ((pcP m : Nat) : Int)) (suf.foldl (fun out m => addK out (pcP m)) (addK out (pcP m))) := by
      intro e
      induction e with
      | zero =>
        intro z hz
        have hz' : z = pcP m + 1 - out.length := by omega
        refine Ev.succ ?_
        simp only [spec_l06Clique.l1]
        refine Ev.neg (by simp; omega) (Ev.pos (by omega) (Ev.pos (by simp; omega) ?_))
        have r2 : rd (out ++ List.replicate z 0) ((pcP m : Nat) : Int) = rd out ((pcP m : Nat) : Int) := by
          clear hz hz'
          induction z with
          | zero => simp
          | succ z ihz => rw [List.replicate_succ', ← List.append_assoc, rd_snoc0, ihz]
        have hb1 := hb (pcP m)
        have e2 : Int.tmod ((pcP m : Nat) : Int) 2 = ((pcP m % 2 : Nat) : Int) := by rw [Int.tmod_eq_emod_of_nonneg (by omega)]; omega
        rw [r2, e2, w64' (x := rd out ((pcP m : Nat) : Int) + 1) (by omega), w64' (x := 2 * ((pcP m % 2 : Nat) : Int)) (by omega), w64' (x := rd out ((pcP m : Nat) : Int) + 1 - 2 * ((pcP m % 2 : Nat) : Int)) (by omega), w64' (x := (pre.length : Int) + 1) (by omega), Int.toNat_natCast]
        have := ih (pre ++ [m]) (addK out (pcP m)) (by simpa using hp) (by rw [addK_length]; omega) (fun i => by
          have hb2 := hb i
          unfold addK
          rw [rd_nat, List.getD_eq_getElem?_getD]
          by_cases hi : pcP m = i
          · subst hi
            rw [List.getElem?_set_self (by simp; omega)]
            simp only [Option.getD_some, List.length_append, List.length_cons, List.length_nil]
            omega
          · rw [List.getElem?_set_ne hi]
            have : (out ++ List.replicate (pcP m + 1 - out.length) 0)[i]?.getD 0 = rd out (i : Int) := by
              generalize pcP m + 1 - out.length = y
              rw [← List.getD_eq_getElem?_getD, ← rd_nat]
              induction y with
              | zero => simp
              | succ y ihy => rw [List.replicate_succ', ← List.append_assoc, rd_snoc0, ihy]
            rw [this]
            simp only [List.length_append, List.length_cons, List.length_nil]
            omega)
        rw [show (pre ++ [m]).length = pre.length + 1 by simp] at this
        unfold addK at this ⊢
        rw [← hz'] at this ⊢
        exact this
      | succ e ihe =>
        intro z hz
        refine Ev.succ ?_
        simp only [spec_l06Clique.l1]
        refine Ev.pos (by simp; omega) (Ev.pos (by simp; omega) ?_)
        have := ihe (z + 1) (by omega)
        rw [List.replicate_succ', ← List.append_assoc] at this
        exact this
    have := inner (pcP m + 1 - out.length) 0 (by omega)
    simpa using this
theorem l06Clique_ev (n : Nat) (hn : n ≤ 8) (f : Nat → Nat → Bool) : Ev (fun k => spec_l06Clique.f k (n : Int) (mat n f)) (cliqueP (stepsP n f)) := by
  have h8 : (2 : Nat) ^ n ≤ 2 ^ 8 := Nat.pow_le_pow_right (by decide) hn
  have hl := List.length_filter_le (stepP n f) (List.range (2 ^ n))
  rw [List.length_range] at hl
  simp only [spec_l06Clique.f]
  refine Ev.bind (l02Steps_ev n hn f) ?_
  exact l06Clique_l0 (stepsP n f) (by unfold stepsP; omega) (fun m hm => by have := List.mem_range.1 (List.mem_filter.1 hm).1; omega) (stepsP n f) [] [] rfl (by simp) (fun i => by rw [rd_nat]; simp)
theorem cliqueP_length (ms : List Nat) (hms : ∀ m ∈ ms, m < 2 ^ 24) : (cliqueP ms).length ≤ 100 := by
  have : ∀ (ms : List Nat) (out : List Int), (∀ m ∈ ms, m < 2 ^ 24) → out.length ≤ 100 → (ms.foldl (fun out m => addK out (pcP m)) out).length ≤ 100 := by
    intro ms
    induction ms with
    | nil => intro out _ h; exact h
    | cons m ms ih =>
      intro out hm h
      rw [List.foldl_cons]
      refine ih _ (fun x hx => hm x (by simp [hx])) ?_
      rw [addK_length]
      have := pcP_le 24 m (hm m (by simp))
      omega
  exact this ms [] hms (by simp)
theorem likeInts_ev (x : List Int) (hx : x.length ≤ 17592186044416) : Ev (fun k => laws_likeInts.f k x x) true := by
  have loop : ∀ (d i : Nat), i + d = x.length → Ev (fun k => laws_likeInts.l0 k x x (i : Int)) true := by
    intro d
    induction d with
    | zero =>
      intro i hi
      refine Ev.succ ?_
      simp only [laws_likeInts.l0]
      exact Ev.neg (by omega) (Ev.now _)
    | succ d ih =>
      intro i hi
      refine Ev.succ ?_
      simp only [laws_likeInts.l0]
      refine Ev.pos (by omega) (Ev.pos (by omega) (Ev.pos (by omega) (Ev.pos trivial ?_)))
      rw [w64' (by omega)]
      exact ih (i + 1) (by omega)
  simp only [laws_likeInts.f]
  exact Ev.pos trivial (loop x.length 0 (by omega))
end Go.Proofs.Ytopdbfdagckfeaa.PFnInverseSeries
