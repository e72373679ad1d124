import Derived.Test.YtfnnnopbcdiibaaDoorPAllx0
import Derived.Test.YtfnnnopbcdiibaaDoorPAllx1
import Derived.Test.YtfnnnopbcdiibaaDoorPAllx28
import Derived.Test.YtfnnnopbcdiibaaDoorV0
import Derived.Test.YtfnnnopbcdiibaaDoorV1
import Derived.Test.YtfnnnopbcdiibaaDoorQBase
import Derived.Test.YtfnnnopbcdiibaaDoorQCF
import Derived.Test.YtfnnnopbcdiibaaDoorQInv
import Derived.Test.YtfnnnopbcdiibaaDoorQMask
import Derived.Test.YtfnnnopbcdiibaaDoorQOrder
import Derived.Test.YtfnnnopbcdiibaaDoorQTrace
set_option linter.unusedVariables false
set_option linter.unusedSimpArgs false
namespace Go.Proofs.YtfnnnopbcdiibaaDoor.PAll
open Go.RowKit Go.Proofs.YtfnnnopbcdiibaaDoorW.PrintWords Go.Proofs.YtfnnnopbcdiibaaDoorW.PrintMore Go.Proofs.YtfnnnopbcdiibaaDoor.Q
/-- one product's two parts by the unit U -/
theorem parts {U M a b : Int} (hU : U = 1000000 ∧ M = 1000000000 ∨ U = 1000000000 ∧ M = 1000000) (ha : -1000 ≤ a ∧ a ≤ 1000) (hb : -MC ≤ b ∧ b ≤ MC) :
    (-(1000 * M) ≤ a * b.tdiv U ∧ a * b.tdiv U ≤ 1000 * M) ∧ (-(1000 * U) ≤ a * b.tmod U ∧ a * b.tmod U ≤ 1000 * U) ∧ (a * b.tdiv U) * U + a * b.tmod U = a * b ∧
    (-M ≤ b.tdiv U ∧ b.tdiv U ≤ M) := by
  unfold MC at hb
  have h1 : -M ≤ b.tdiv U ∧ b.tdiv U ≤ M := by rw [tdiv_cases]; rcases hU with ⟨rfl, rfl⟩ | ⟨rfl, rfl⟩ <;> split <;> omega
  have h2 : -U ≤ b.tmod U ∧ b.tmod U ≤ U := by rw [Int.tmod_def, tdiv_cases]; rcases hU with ⟨rfl, rfl⟩ | ⟨rfl, rfl⟩ <;> split <;> omega
  refine ⟨mul_bd ha h1, mul_bd ha h2, ?_, h1⟩
  rw [Int.mul_assoc, ← Int.mul_add]
  congr 1
  rw [Int.tmod_def, Int.mul_comm U]
  omega

/-- what both functions answer -/
def invSeries (p : List Int) (n : Int) : List Int × Int :=
  if ¬ (0 ≤ n ∧ n ≤ 24) ∨ ¬ (∀ x ∈ p, -1000 ≤ x ∧ x ≤ 1000) then ([], 2)
  else if p.length = 0 ∨ rd p 0 ≠ 1 then ([], 5)
  else invLoop p n.toNat [1]
theorem impl_inner (p q : List Int) (n : Int) (k : Nat) (hk : k ≤ 24) (hq : q.length = k) (hp : Bd 1000 p) (hb : Bd MC q) (R : List Int × Int)
    (hR : ∀ hi lo : Int, hi * 1000000 + lo = nextInv p q → -30000000000000 ≤ hi ∧ hi ≤ 30000000000000 → -30000000000 ≤ lo ∧ lo ≤ 30000000000 → Ev (fun f => impl_inverse.j2 f p n q k hi lo) R) :
    ∀ (d i : Nat) (hi lo : Int), i + d = min k (p.length - 1) → hi * 1000000 + lo = - psum p q k i → -(1000000000000 * i) ≤ hi ∧ hi ≤ 1000000000000 * i → -(1000000000 * i) ≤ lo ∧ lo ≤ 1000000000 * i →
    Ev (fun f => impl_inverse.l1 f p n q k hi lo (i + 1 : Nat)) R := by
  intro d
  induction d with
  | zero =>
    intro i hi lo he hs h1 h2
    refine Ev.succ ?_
    simp only [impl_inverse.l1, impl_length_int64.f]
    have hfin := hR hi lo (by rw [hs]; unfold nextInv; rw [hq, show min k (p.length - 1) = i by omega]) (by omega) (by omega)
    refine Ev.ite (fun c1 => Ev.some_bind (Ev.ite (fun c2 => ?_) (fun c2 => ?_))) (fun c1 => ?_)
    · omega
    · exact hfin
    · exact hfin
  | succ d ih =>
    intro i hi lo he hs h1 h2
    refine Ev.succ ?_
    simp only [impl_inverse.l1, impl_length_int64.f]
    have hx := parts (U := 1000000) (M := 1000000000) (.inl ⟨rfl, rfl⟩) (hp (i + 1)) (hb (k - (i + 1)))
    have e1 : wrap64 ((k : Int) - ((i + 1 : Nat) : Int)) = ((k - (i + 1) : Nat) : Int) := (w64' (by omega)).trans (by omega)
    rw [e1]
    refine Ev.pos (by omega) (Ev.some_bind (Ev.pos (by omega) (Ev.pos (by omega) (Ev.pos (by omega) (Ev.pos (by omega) (Ev.pos (by omega) ?_))))))
    generalize hA : rd p ((i + 1 : Nat) : Int) = a at *
    generalize hB : rd q ((k - (i + 1) : Nat) : Int) = b at *
    obtain ⟨x1, x2, x3, x4⟩ := hx
    generalize hC : b.tdiv 1000000 = c at *
    generalize hD : b.tmod 1000000 = e at *
    rw [w64' (x := c) (by omega)]
    generalize hE : a * c = ac at *
    generalize hF : a * e = ae at *
    rw [w64' (x := ac) (by omega), w64' (x := ae) (by omega), w64' (x := hi - ac) (by omega), w64' (x := lo - ae) (by omega), w64' (by omega)]
    refine ih (i + 1) (hi - ac) (lo - ae) (by omega) ?_ (by omega) (by omega)
    simp only [psum]
    rw [hA, hB]
    omega

theorem impl_loop (p : List Int) (n : Nat) (hn : n ≤ 24) (hp : Bd 1000 p) : ∀ (d : Nat) (q : List Int), q.length + d = n + 1 → 1 ≤ q.length → Bd MC q →
    Ev (fun f => impl_inverse.l0 f p n q q.length) (invLoop p d q) := by
  intro d
  induction d with
  | zero =>
    intro q hd h1 hb
    refine Ev.succ ?_
    simp only [impl_inverse.l0]
    exact Ev.neg (by omega) (Ev.now _)
  | succ d ih =>
    intro q hd h1 hb
    refine Ev.succ ?_
    simp only [impl_inverse.l0]
    refine Ev.pos (by omega) ?_
    refine impl_inner p q n q.length (by omega) rfl hp hb _ ?_ (min q.length (p.length - 1)) 0 0 0 (by omega) (by simp [psum]) (by omega) (by omega)
    intro hi lo hs b1 b2
    refine Ev.succ ?_
    simp only [impl_inverse.j2]
    have t1 : -30000 ≤ lo.tdiv 1000000 ∧ lo.tdiv 1000000 ≤ 30000 := by rw [tdiv_cases]; split <;> omega
    have t2 : -1000000 < lo.tmod 1000000 ∧ lo.tmod 1000000 < 1000000 := by rw [Int.tmod_def, tdiv_cases]; split <;> omega
    have t3 : lo = lo.tdiv 1000000 * 1000000 + lo.tmod 1000000 := by rw [Int.tmod_def]; omega
    generalize lo.tdiv 1000000 = c at *
    generalize lo.tmod 1000000 = e at *
    rw [w64' (x := c) (by omega), w64' (x := hi + c) (by omega)]
    have hs' : (hi + c) * 1000000 + e = nextInv p q := by omega
    clear hs t3
    have fin : ∀ b : Bool, (b = true → ¬ (-MC ≤ nextInv p q ∧ nextInv p q ≤ MC)) → (b = false → -2000000000 ≤ hi + c ∧ hi + c ≤ 2000000000) → Ev (fun f => impl_inverse.j3 f p n q q.length (hi + c) e b) (invLoop p (d + 1) q) := by
      intro b hb1 hb2
      refine Ev.succ ?_
      simp only [impl_inverse.j3, inRange_eq, invLoop]
      cases b with
      | true =>
        rw [if_neg (hb1 rfl)]
        exact Ev.pos (by simp) (Ev.now _)
      | false =>
        have hb2 := hb2 rfl
        refine Ev.neg (by simp) (Ev.some_bind ?_)
        rw [w64' (x := (hi + c) * 1000000) (by omega), w64' (by omega), hs']
        simp only [decide_eq_true_eq]
        refine Ev.ite (fun c2 => ?_) (fun c2 => ?_)
        · rw [if_pos (by unfold MC at *; omega)]
          refine Ev.pos (by omega) ?_
          have := ih (q ++ [nextInv p q]) (by simp; omega) (by simp) (hb.snoc (by unfold MC; omega))
          rw [w64' (by omega)]
          rw [show ((q ++ [nextInv p q]).length : Int) = (q.length : Int) + 1 by simp] at this
          exact this
        · rw [if_neg (by unfold MC at *; omega)]
          exact Ev.now _
    refine Ev.ite (fun c1 => ?_) (fun c1 => ?_)
    · exact fin true (fun _ => by unfold MC; omega) (fun h => by cases h)
    · exact fin _ (fun h => by have := of_decide_eq_true h; unfold MC; omega) (fun h => by have := of_decide_eq_false h; omega)

theorem impl_inverse_ev (p : List Int) (n : Nat) (hn : n ≤ 24) (hp : ∀ x ∈ p, -1000 ≤ x ∧ x ≤ 1000) : Ev (fun k => impl_inverse.f k p n) (invLoop p n [1]) := by
  simp only [impl_inverse.f]
  exact impl_loop p n hn (Bd.of_mem (by omega) hp) n [1] (by simp; omega) (by simp) (Bd.of_mem (by unfold MC; omega) (by intro x hx; simp at hx; subst hx; unfold MC; omega))
theorem l06After_eq (n : Nat) (hn : n ≤ 24) (f : Nat → Nat → Bool) (x : Int) (M c : Nat) (hM : M < 2 ^ n) (hc : c < n) : spec_l06After.f x (mat n f) (M : Int) (c : Int) = some ((afterP n f M c : Nat) : Int) := by
  have h24 := pow_lt62 hn
  have hc24 : (2 : Nat) ^ c ≤ 2 ^ 24 := pow24 (by omega)
  have h1 := mk_lt n (f c)
  have h2 := mk_lt n (fun a => M.testBit a || decide (a < c))
  have h3 := mk_split n (fun a => M.testBit a || decide (a < c)) (f c)
  have h4 : (M ||| (2 ^ c - 1)) &&& mk n (f c) = mk n (fun a => (M.testBit a || decide (a < c)) && f c a) := by rw [or_full hM hc, mk_and]
  have h5 := mk_lt n (fun a => (M.testBit a || decide (a < c)) && f c a)
  have hp := Nat.two_pow_pos c
  unfold spec_l06After.f spec_l01Full_Bl06After.f
  rw [l01Full_eq c (by omega)]
  simp only [Option.bind_some]
  rw [if_pos (by omega), if_pos (by simp; omega), rd_mat n f c hc, b_or _ _ (by omega) (by omega), b_and _ _ (by rw [or_full hM hc]; omega) (mk62 (by omega) _), h4, or_full hM hc, w64' (by omega)]
  unfold afterP
  congr 1
  omega
def capN (a : Nat) : Nat := min a 1000000000000001
def entT (m : Nat) (f : Nat → Nat → Bool) (j M : Nat) : Int := ((capN (aP m f j fun b => M.testBit b) : Nat) : Int)
def rowT (m : Nat) (f : Nat → Nat → Bool) (j M : Nat) : List Int := (List.range M).map (entT m f j)
def rowsT (m : Nat) (f : Nat → Nat → Bool) (j : Nat) : List (List Int) := (List.range j).map fun i => rowT m f i (2 ^ m)
theorem rowT_length (m : Nat) (f : Nat → Nat → Bool) (j M : Nat) : (rowT m f j M).length = M := by simp [rowT]
theorem rowT_succ (m : Nat) (f : Nat → Nat → Bool) (j M : Nat) : rowT m f j (M + 1) = rowT m f j M ++ [entT m f j M] := by simp [rowT, List.range_succ]
theorem rowsT_length (m : Nat) (f : Nat → Nat → Bool) (j : Nat) : (rowsT m f j).length = j := by simp [rowsT]
theorem rowsT_succ (m : Nat) (f : Nat → Nat → Bool) (j : Nat) : rowsT m f (j + 1) = rowsT m f j ++ [rowT m f j (2 ^ m)] := by simp [rowsT, List.range_succ]
theorem rd_rowT (m : Nat) (f : Nat → Nat → Bool) (j M i : Nat) (h : i < M) : rd (rowT m f j M) (i : Int) = entT m f j i := by
  rw [rd_lt _ _ (by rw [rowT_length]; exact h)]
  simp [rowT]
theorem rd_rowsT (m : Nat) (f : Nat → Nat → Bool) (j i : Nat) (h : i < j) : rd_L1 (rowsT m f j) (i : Int) = rowT m f i (2 ^ m) := by
  unfold rd_L1
  rw [Int.toNat_natCast, List.getD_eq_getElem?_getD, List.getElem?_eq_getElem (by rw [rowsT_length]; exact h)]
  simp [rowsT]
theorem capN_le (a : Nat) : capN a ≤ 1000000000000001 := Nat.min_le_right _ _
theorem sumN_cap (g : Nat → Nat) : ∀ c, sumN c (fun e => capN (g e)) ≤ c * 1000000000000001 := by
  intro c
  induction c with
  | zero => exact Nat.zero_le _
  | succ c ih =>
    simp only [sumN]
    have := capN_le (g c)
    rw [Nat.succ_mul]
    omega
theorem cap_sum (g : Nat → Nat) : ∀ c, sumN c (fun e => capN (g e)) ≤ sumN c g ∧ (sumN c (fun e => capN (g e)) ≤ 1000000000000000 → sumN c (fun e => capN (g e)) = sumN c g) := by
  intro c
  induction c with
  | zero => exact ⟨Nat.le_refl _, fun _ => rfl⟩
  | succ c ih =>
    obtain ⟨h1, h2⟩ := ih
    simp only [sumN]
    unfold capN at h1 h2 ⊢
    refine ⟨by omega, fun h => ?_⟩
    have := h2 (by omega)
    omega
theorem cap_of_sum (g : Nat → Nat) (c : Nat) : capN (sumN c g) = if 1000000000000000 < sumN c (fun e => capN (g e)) then 1000000000000001 else sumN c (fun e => capN (g e)) := by
  obtain ⟨h1, h2⟩ := cap_sum g c
  split
  · unfold capN at *
    omega
  · rename_i h
    rw [h2 (by omega)] at h ⊢
    unfold capN
    omega
/-- what the c-th letter adds -/
def addT (m : Nat) (f : Nat → Nat → Bool) (j M c : Nat) : Nat := if M.testBit c = true then 0 else aP m f j fun b => (M.testBit b || decide (b < c)) && !f c b
theorem capN_zero : capN 0 = 0 := rfl
theorem entT_succ (m : Nat) (f : Nat → Nat → Bool) (j M : Nat) : entT m f (j + 1) M = if 1000000000000000 < ((sumN m (fun e => capN (addT m f j M e)) : Nat) : Int) then 1000000000000001 else ((sumN m (fun e => capN (addT m f j M e)) : Nat) : Int) := by
  unfold entT
  have : aP m f (j + 1) (fun b => M.testBit b) = sumN m (addT m f j M) := rfl
  rw [this, cap_of_sum]
  split
  · rw [if_pos (by omega)]; rfl
  · rw [if_neg (by omega)]
theorem entT_after (m : Nat) (f : Nat → Nat → Bool) (j M c : Nat) (h : M.testBit c = false) : entT m f j (afterP m f M c) = ((capN (addT m f j M c) : Nat) : Int) := by
  unfold entT addT
  rw [if_neg (by simp [h]), aP_congr m f j (q := fun b => (M.testBit b || decide (b < c)) && !f c b) (fun b hb => by
    unfold afterP
    rw [testBit_mk, decide_eq_true hb, Bool.true_and])]
theorem tails_l3 (m : Nat) (hm : m ≤ 8) (f : Nat → Nat → Bool) (n : Int) (j M : Nat) (hj : j ≤ 100) (hM : M < 2 ^ m) (R : List (List Int))
    (h : Ev (fun k => spec_l06Tails.l2 k n ((2 ^ m : Nat) : Int) (rowsT m f (j + 1)) ((j + 1 : Nat) : Int) (rowT m f (j + 1) (M + 1)) ((M + 1 : Nat) : Int) (m : Int) (mat m f)) R) :
    ∀ (d c : Nat), c + d = m → Ev (fun k => spec_l06Tails.l3 k n ((2 ^ m : Nat) : Int) (rowsT m f (j + 1)) ((j + 1 : Nat) : Int) (rowT m f (j + 1) M) (M : Int) ((sumN c (fun e => capN (addT m f j M e)) : Nat) : Int) (c : Int) (m : Int) (mat m f)) R := by
  have h8 : (2 : Nat) ^ m ≤ 2 ^ 8 := Nat.pow_le_pow_right (by decide) hm
  intro d
  induction d with
  | zero =>
    intro c hc
    obtain rfl : c = m := by omega
    have hb := sumN_cap (addT c f j M) c
    refine Ev.succ ?_
    simp only [spec_l06Tails.l3]
    refine Ev.neg (by omega) ?_
    rw [rowT_succ, entT_succ] at h
    rw [w64' (x := (M : Int) + 1) (by omega), show (M : Int) + 1 = ((M + 1 : Nat) : Int) by omega]
    refine Ev.ite (fun q => ?_) (fun q => ?_)
    · rw [if_pos q] at h
      refine Ev.pos (by rw [rowT_length]; omega) h
    · rw [if_neg q] at h
      refine Ev.pos (by rw [rowT_length]; omega) h
  | succ d ih =>
    intro c hc
    have hcm : c < m := by omega
    have hb := sumN_cap (addT m f j M) c
    have hcb : c * 1000000000000001 ≤ 8 * 1000000000000001 := Nat.mul_le_mul_right _ (by omega)
    have hcap := capN_le (addT m f j M c)
    have := ih (c + 1) (by omega)
    refine Ev.succ ?_
    simp only [spec_l06Tails.l3]
    refine Ev.pos (by omega) ?_
    rw [l01Bit_eq M c (by omega) (by omega)]
    rw [w64' (x := (c : Int) + 1) (by omega), show (c : Int) + 1 = ((c + 1 : Nat) : Int) by omega, w64' (x := ((j + 1 : Nat) : Int) - 1) (by omega), show ((j + 1 : Nat) : Int) - 1 = (j : Int) by omega]
    refine Ev.some_bind ?_
    by_cases hbit : M.testBit c = true
    · refine Ev.pos hbit ?_
      simp only [sumN] at this
      rw [show capN (addT m f j M c) = 0 by unfold addT; rw [if_pos hbit]; rfl, Nat.add_zero] at this
      exact this
    · have hbit' : M.testBit c = false := by simpa using hbit
      have ha : afterP m f M c < 2 ^ m := mk_lt _ _
      refine Ev.neg hbit (Ev.pos (by omega) (Ev.pos (by rw [rowsT_length]; omega) ?_))
      rw [l06After_eq m (by omega) f _ M c hM hcm]
      refine Ev.some_bind ?_
      rw [rd_rowsT m f (j + 1) j (by omega)]
      refine Ev.pos (by omega) (Ev.pos (by rw [rowT_length]; omega) ?_)
      rw [rd_rowT m f j (2 ^ m) _ ha, entT_after m f j M c hbit', w64' (by omega)]
      simp only [sumN] at this
      rw [Int.natCast_add] at this
      exact this
theorem tails_l2 (m : Nat) (hm : m ≤ 8) (f : Nat → Nat → Bool) (n : Int) (j : Nat) (hj : j ≤ 100) (R : List (List Int))
    (h : Ev (fun k => spec_l06Tails.l1 k n ((2 ^ m : Nat) : Int) (rowsT m f (j + 2)) ((j + 2 : Nat) : Int) (m : Int) (mat m f)) R) :
    ∀ (d M : Nat), M + d = 2 ^ m → Ev (fun k => spec_l06Tails.l2 k n ((2 ^ m : Nat) : Int) (rowsT m f (j + 1)) ((j + 1 : Nat) : Int) (rowT m f (j + 1) M) (M : Int) (m : Int) (mat m f)) R := by
  have h8 : (2 : Nat) ^ m ≤ 2 ^ 8 := Nat.pow_le_pow_right (by decide) hm
  intro d
  induction d with
  | zero =>
    intro M hM
    obtain rfl : M = 2 ^ m := by omega
    refine Ev.succ ?_
    simp only [spec_l06Tails.l2]
    refine Ev.neg (by omega) (Ev.pos (by rw [rowsT_length]; omega) ?_)
    rw [rowsT_succ] at h
    rw [w64' (by omega), show ((j + 1 : Nat) : Int) + 1 = ((j + 2 : Nat) : Int) by omega]
    exact h
  | succ d ih =>
    intro M hM
    have := ih (M + 1) (by omega)
    refine Ev.succ ?_
    simp only [spec_l06Tails.l2]
    refine Ev.pos (by omega) ?_
    exact tails_l3 m hm f n j M hj (by omega) R this m 0 (by omega)
theorem tails_l1 (m : Nat) (hm : m ≤ 8) (f : Nat → Nat → Bool) (n : Nat) (hn : n ≤ 24) : ∀ (d j : Nat), j + d = n → Ev (fun k => spec_l06Tails.l1 k (n : Int) ((2 ^ m : Nat) : Int) (rowsT m f (j + 1)) ((j + 1 : Nat) : Int) (m : Int) (mat m f)) (rowsT m f (n + 1)) := by
  intro d
  induction d with
  | zero =>
    intro j hj
    obtain rfl : j = n := by omega
    refine Ev.succ ?_
    simp only [spec_l06Tails.l1]
    exact Ev.neg (by omega) (Ev.now _)
  | succ d ih =>
    intro j hj
    refine Ev.succ ?_
    simp only [spec_l06Tails.l1]
    refine Ev.pos (by omega) ?_
    exact tails_l2 m hm f n j (by omega) _ (ih (j + 1) (by omega)) (2 ^ m) 0 (by omega)
theorem tails_ev (m : Nat) (hm : m ≤ 8) (f : Nat → Nat → Bool) (n : Nat) (hn : n ≤ 24) : Ev (fun k => spec_l06Tails.f k (m : Int) (mat m f) (n : Int)) (rowsT m f (n + 1)) := by
  have h8 : (2 : Nat) ^ m ≤ 2 ^ 8 := Nat.pow_le_pow_right (by decide) hm
  have h0 : ∀ M, entT m f 0 M = 1 := fun M => rfl
  have loop : ∀ (d i : Nat), i + d = 2 ^ m → Ev (fun k => spec_l06Tails.l0 k (n : Int) ((2 ^ m : Nat) : Int) (rowT m f 0 i) (i : Int) (m : Int) (mat m f)) (rowsT m f (n + 1)) := by
    intro d
    induction d with
    | zero =>
      intro i hi
      obtain rfl : i = 2 ^ m := by omega
      refine Ev.succ ?_
      simp only [spec_l06Tails.l0]
      refine Ev.neg (by omega) ?_
      exact tails_l1 m hm f n hn n 0 (by omega)
    | succ d ih =>
      intro i hi
      have := ih (i + 1) (by omega)
      rw [rowT_succ, h0] at this
      refine Ev.succ ?_
      simp only [spec_l06Tails.l0]
      refine Ev.pos (by omega) (Ev.pos (by rw [rowT_length]; omega) ?_)
      rw [w64' (by omega), show (i : Int) + 1 = ((i + 1 : Nat) : Int) by omega]
      exact this
  simp only [spec_l06Tails.f]
  rw [l01One_eq m (by omega)]
  refine Ev.some_bind ?_
  exact loop (2 ^ m) 0 (by omega)
theorem entT_nP (m : Nat) (f : Nat → Nat → Bool) (j : Nat) : entT m f j 0 = ((capN (nP m f j) : Nat) : Int) := by
  unfold entT nP
  rw [aP_congr m f j (q := fun _ => false) (fun b _ => Nat.zero_testBit b)]
end Go.Proofs.YtfnnnopbcdiibaaDoor.PAll
