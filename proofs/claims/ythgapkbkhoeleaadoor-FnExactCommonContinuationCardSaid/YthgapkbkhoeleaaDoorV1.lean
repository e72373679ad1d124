import Derived.Test.YthgapkbkhoeleaaDoorPAllx0
import Derived.Test.YthgapkbkhoeleaaDoorPAllx1
import Derived.Test.YthgapkbkhoeleaaDoorPAllx2
import Derived.Test.YthgapkbkhoeleaaDoorPAllx3
import Derived.Test.YthgapkbkhoeleaaDoorPAllx4
import Derived.Test.YthgapkbkhoeleaaDoorV0
import Derived.Test.YthgapkbkhoeleaaDoorQBase
import Derived.Test.YthgapkbkhoeleaaDoorQMask
import Derived.Test.YthgapkbkhoeleaaDoorQMeet
import Derived.Test.YthgapkbkhoeleaaDoorQOrder
import Derived.Test.YthgapkbkhoeleaaDoorQRev
import Derived.Test.YthgapkbkhoeleaaDoorQTrace
set_option linter.unusedVariables false
set_option linter.unusedSimpArgs false
namespace Go.Proofs.YthgapkbkhoeleaaDoor.PAll
open Go.RowKit Go.Proofs.YthgapkbkhoeleaaDoorW.PrintWords Go.Proofs.YthgapkbkhoeleaaDoorW.PrintMore Go.Proofs.YthgapkbkhoeleaaDoor.Q
theorem toInt64S_l0 (x : List Int) (hx : x.length ≤ 17592186044416) : ∀ (d i : Nat) (acc : List Int), i + d = x.length → acc.length = x.length → (∀ j, j < i → acc[j]? = x[j]?) →
    Ev (fun k => laws_toInt64S.l0 k x acc i) x := by
  intro d
  induction d with
  | zero =>
    intro i acc hi hl hp
    refine Ev.succ ?_
    simp only [laws_toInt64S.l0]
    refine Ev.neg (by omega) (Ev.const ?_)
    congr 1
    apply List.ext_getElem? 
    intro j
    by_cases hj : j < i
    · exact hp j hj
    · rw [List.getElem?_eq_none (by omega), List.getElem?_eq_none (by omega)]
  | succ d ih =>
    intro i acc hi hl hp
    refine Ev.succ ?_
    simp only [laws_toInt64S.l0]
    refine Ev.pos (by omega) (Ev.pos (by omega) (Ev.pos (by omega) ?_))
    rw [w64' (by omega)]
    refine Ev.congr (fun k => ?_) (ih (i + 1) (acc.set i x[i]) (by omega) (by simpa using hl) ?_)
    · rw [rd_lt x i (by omega)]
      simp
    · intro j hj
      by_cases e : j = i
      · subst e
        simp [hl, show j < x.length by omega]
      · rw [List.getElem?_set_ne (by omega)]
        exact hp j (by omega)

theorem toInt64S_ev (x : List Int) (hx : x.length ≤ 17592186044416) : Ev (fun k => laws_toInt64S.f k x) x := by
  simp only [laws_toInt64S.f]
  refine Ev.pos (by omega) (Ev.pos (by omega) ?_)
  exact toInt64S_l0 x hx x.length 0 _ (by omega) (by simp) (by intro j hj; omega)
theorem eqInt64S_l0 (x : List Int) (hx : x.length ≤ 17592186044416) : ∀ (d i : Nat), i + d = x.length → Ev (fun k => laws_eqInt64S.l0 k x x i) true := by
  intro d
  induction d with
  | zero =>
    intro i hi
    refine Ev.succ ?_
    simp only [laws_eqInt64S.l0]
    exact Ev.neg (by omega) (Ev.now _)
  | succ d ih =>
    intro i hi
    refine Ev.succ ?_
    simp only [laws_eqInt64S.l0]
    refine Ev.pos (by omega) (Ev.pos (by omega) (Ev.pos (by omega) (Ev.pos (by simp) ?_)))
    rw [w64' (by omega)]
    exact ih (i + 1) (by omega)

theorem eqInt64S_ev (x : List Int) (hx : x.length ≤ 17592186044416) : Ev (fun k => laws_eqInt64S.f k x x) true := by
  simp only [laws_eqInt64S.f]
  exact Ev.pos (by simp) (eqInt64S_l0 x hx x.length 0 (by omega))
theorem markInt64S_l0 : ∀ (d i : Nat) (x : List Int) (c : Int), i + d = x.length → x.length ≤ 17592186044416 → 0 ≤ c → c + d ≤ 9000000000000000000 →
    Ev (fun k => laws_markInt64S.l0 k x c i) (c + d, marks x i c) := by
  intro d
  induction d with
  | zero =>
    intro i x c hi hx h0 h1
    refine Ev.succ ?_
    simp only [laws_markInt64S.l0]
    refine Ev.neg (by omega) (Ev.const ?_)
    simp [marks, show x.length - i = 0 by omega, List.take_of_length_le (show x.length ≤ i by omega)]
  | succ d ih =>
    intro i x c hi hx h0 h1
    refine Ev.succ ?_
    simp only [laws_markInt64S.l0]
    refine Ev.pos (by omega) (Ev.pos (by omega) ?_)
    rw [w64' (by omega), w64' (by omega)]
    refine Ev.val (ih (i + 1) (x.set i c) (c + 1) (by simpa using (by omega : i + 1 + d = x.length)) (by simpa using hx) (by omega) (by omega)) ?_
    rw [marks_set x i c (by omega)]
    congr 1
    omega

theorem markInt64S_ev (x : List Int) (c : Int) (hx : x.length ≤ 17592186044416) (h0 : 0 ≤ c) (h1 : c ≤ 8000000000000000000) : Ev (fun k => laws_markInt64S.f k x c) (c + x.length, marks x 0 c) := by
  simp only [laws_markInt64S.f]
  exact markInt64S_l0 x.length 0 x c (by omega) hx h0 (by omega)
theorem heldInt64S_l0 (y : List Int) (c0 : Int) (h0 : 0 ≤ c0) (h1 : c0 + y.length ≤ 8000000000000000000) (hy : ∀ j, j < y.length → rd y (j : Int) = c0 + j) : ∀ (d i : Nat), i + d = y.length →
    Ev (fun k => laws_heldInt64S.l0 k y (c0 + i) i) (c0 + y.length) := by
  intro d
  induction d with
  | zero =>
    intro i hi
    refine Ev.succ ?_
    simp only [laws_heldInt64S.l0]
    refine Ev.neg (by omega) (Ev.const ?_)
    congr 1
    omega
  | succ d ih =>
    intro i hi
    refine Ev.succ ?_
    simp only [laws_heldInt64S.l0]
    refine Ev.pos (by omega) (Ev.pos (by omega) (Ev.pos (hy i (by omega)) ?_))
    rw [w64' (by omega), w64' (by omega)]
    have := ih (i + 1) (by omega)
    rw [show c0 + (i : Int) + 1 = c0 + ((i + 1 : Nat) : Int) by omega, show (i : Int) + 1 = ((i + 1 : Nat) : Int) by omega]
    exact this

theorem heldInt64S_ev (x : List Int) (c : Int) (h0 : 0 ≤ c) (h1 : c + x.length ≤ 8000000000000000000) : Ev (fun k => laws_heldInt64S.f k (marks x 0 c) c) (c + x.length) := by
  simp only [laws_heldInt64S.f]
  have hl := marks_length x 0 c (Nat.zero_le _)
  have h := heldInt64S_l0 (marks x 0 c) c h0 (by omega) (fun j hj => by rw [rd_lt _ _ hj]; simp [marks]) (marks x 0 c).length 0 (by omega)
  rw [hl] at h
  simpa using h
theorem szInt64S_eq (l : List Int) (a : Int) (h0 : 0 ≤ a) (h1 : a ≤ 1048576) (hl : l.length ≤ 9223372036854775807) : laws_szInt64S.f l a = some (if (l.length : Int) ≤ a then a - (l.length : Int) else -1) := by
  unfold laws_szInt64S.f
  rw [w64 (by omega) (by omega)]
  by_cases h : (l.length : Int) ≤ a
  · rw [if_pos h, if_neg (by omega)]
  · rw [if_neg h, if_pos (by omega)]
theorem szAlphabet_eq (n : Int) (l : List Int) (a : Int) (h0 : 0 ≤ a) (h1 : a ≤ 1048576) (hl : l.length ≤ 9223372036854775807) : laws_szAlphabet.f n l a = some (if (l.length : Int) ≤ a then a - (l.length : Int) else -1) := by
  unfold laws_szAlphabet.f
  rw [szInt64S_eq l a h0 h1 hl]
  simp only [Option.bind_some]
  by_cases h : (l.length : Int) ≤ a
  · rw [if_pos h, if_neg (by omega)]
  · rw [if_neg h, if_pos (by omega)]
theorem toAlphabet_ev (n : Int) (l : List Int) (hl : l.length ≤ 17592186044416) : Ev (fun k => laws_toAlphabet.f k n l) (n, l) := by
  simp only [laws_toAlphabet.f]
  exact Ev.bind (toInt64S_ev l hl) (Ev.now _)
theorem eqAlphabet_ev (n : Int) (l : List Int) (hl : l.length ≤ 17592186044416) : Ev (fun k => laws_eqAlphabet.f k n l n l) true := by
  simp only [laws_eqAlphabet.f]
  exact Ev.pos (by simp) (Ev.bind (eqInt64S_ev l hl) (Ev.pos rfl (Ev.now _)))
theorem markAlphabet_ev (n : Int) (l : List Int) (c : Int) (hl : l.length ≤ 17592186044416) (h0 : 0 ≤ c) (h1 : c ≤ 8000000000000000000) : Ev (fun k => laws_markAlphabet.f k n l c) (c + l.length, marks l 0 c) := by
  simp only [laws_markAlphabet.f]
  exact Ev.bind (markInt64S_ev l c hl h0 h1) (Ev.now _)
theorem l01In_eq (a lo hi : Int) : spec_l01In.f a lo hi = some (decide (lo ≤ a ∧ a ≤ hi)) := by
  unfold spec_l01In.f
  by_cases h : lo ≤ a
  · rw [if_pos h]; simp [h]
  · rw [if_neg h]; simp [h]
theorem inRange_eq (a lo hi : Int) : impl_inRange.f a lo hi = some (decide (lo ≤ a ∧ a ≤ hi)) := by
  unfold impl_inRange.f
  by_cases h : lo ≤ a
  · rw [if_pos h]; simp [h]
  · rw [if_neg h]; simp [h]
theorem l01One_eq (n : Nat) (h : n ≤ 61) : spec_l01One.f (n : Int) = some ((2 ^ n : Nat) : Int) := by
  unfold spec_l01One.f
  rw [u64_nat n (by omega), if_pos (by omega), shl_one n h]
theorem l01Full_eq (n : Nat) (h : n ≤ 61) : spec_l01Full.f (n : Int) = some ((2 ^ n - 1 : Nat) : Int) := by
  unfold spec_l01Full.f
  rw [l01One_eq n h]
  have h1 : 0 < 2 ^ n := Nat.two_pow_pos n
  have h2 : (2 : Nat) ^ n ≤ 2 ^ 61 := Nat.pow_le_pow_right (by decide) h
  simp only [Option.bind_some]
  rw [w64' (by omega)]
  congr 1
  omega
theorem l01Bit_eq (m i : Nat) (hm : m < 2 ^ 62) (h : i ≤ 64) : spec_l01Bit.f (m : Int) (i : Int) = some (m.testBit i) := by
  unfold spec_l01Bit.f
  rw [u64_nat i (by omega), if_pos (by omega), bit_at m i hm h]
theorem one_eq (n : Nat) (h : n ≤ 61) : impl_one.f (n : Int) = some ((2 ^ n : Nat) : Int) := by
  unfold impl_one.f
  rw [if_pos (by omega), shl_one n h]
theorem has_eq (m i : Nat) (hm : m < 2 ^ 62) (h : i ≤ 64) : impl_has.f (m : Int) (i : Int) = some (m.testBit i) := by
  unfold impl_has.f
  rw [if_pos (by omega), bit_at m i hm h]
theorem least_eq (m : Nat) (hm : m < 2 ^ 62) : impl_least.f (m : Int) = some ((Lib.ctz 64 m : Nat) : Int) := by
  unfold impl_least.f bits_TrailingZeros64.f
  rw [u64_nat m (by omega), if_pos (by omega), Int.toNat_natCast]
  rfl
theorem members_l0 : ∀ (N m : Nat) (acc : List Int), m ≤ N → m < 2 ^ 62 → acc.length + (bitsOf m).length ≤ 1000 → Ev (fun k => impl_members.l0 k (m : Int) acc) (acc ++ intsOf m) := by
  intro N
  induction N with
  | zero =>
    intro m acc hN hm hl
    obtain rfl : m = 0 := by omega
    refine Ev.succ ?_
    simp only [impl_members.l0]
    refine Ev.pos (by simp) (Ev.const ?_)
    simp [intsOf, bitsOf_zero]
  | succ N ih =>
    intro m acc hN hm hl
    refine Ev.succ ?_
    simp only [impl_members.l0]
    by_cases h0 : m = 0
    · subst h0
      refine Ev.pos (by simp) (Ev.const ?_)
      simp [intsOf, bitsOf_zero]
    · rw [bitsOf_cons m h0 (by omega)] at hl
      simp only [List.length_cons] at hl
      refine Ev.neg (by omega) ?_
      rw [least_eq m hm]
      refine Ev.some_bind (Ev.pos (by omega) ?_)
      have hlt := and_pred_lt m h0
      rw [w64' (by omega), show (m : Int) - 1 = ((m - 1 : Nat) : Int) by omega, b_and m (m - 1) hm (by omega)]
      refine Ev.val (ih (m &&& (m - 1)) (acc ++ [((Lib.ctz 64 m : Nat) : Int)]) (by omega) (by omega) (by simp; omega)) ?_
      unfold intsOf
      rw [bitsOf_cons m h0 (by omega)]
      simp
theorem bitsOf_length (m : Nat) : (bitsOf m).length ≤ 64 := by
  unfold bitsOf
  have := List.length_filter_le (fun i => m.testBit i) (List.range 64)
  simpa using this
theorem members_ev (m : Nat) (hm : m < 2 ^ 62) : Ev (fun k => impl_members.f k (m : Int)) (intsOf m) := by
  simp only [impl_members.f]
  exact Ev.val (members_l0 m m [] (Nat.le_refl _) hm (by have := bitsOf_length m; simp; omega)) (by simp)
theorem l01Masks_l0 (n : Nat) (hn : n ≤ 61) (l : List Int) (hl : l.length ≤ 17592186044416) : ∀ (d i : Nat), i + d = l.length → (∀ j (h : j < l.length), j < i → 0 ≤ l[j] ∧ l[j] ≤ ((2 ^ n - 1 : Nat) : Int)) →
    Ev (fun k => spec_l01Masks.l0 k (n : Int) l i) (decide (∀ x ∈ l, 0 ≤ x ∧ x ≤ ((2 ^ n - 1 : Nat) : Int))) := by
  intro d
  induction d with
  | zero =>
    intro i hi hp
    refine Ev.succ ?_
    simp only [spec_l01Masks.l0]
    refine Ev.neg (by omega) (Ev.const ?_)
    rw [decide_eq_true fun x hx => ?_]
    obtain ⟨j, hj, rfl⟩ := List.getElem_of_mem hx
    exact hp j hj (by omega)
  | succ d ih =>
    intro i hi hp
    refine Ev.succ ?_
    simp only [spec_l01Masks.l0, l01Full_eq n hn, l01In_eq]
    refine Ev.pos (by omega) (Ev.pos (by omega) (Ev.some_bind (Ev.some_bind ?_)))
    rw [rd_lt l i (by omega)]
    simp only [decide_eq_true_eq]
    refine Ev.ite (fun c => ?_) (fun c => ?_)
    · rw [w64' (by omega)]
      refine ih (i + 1) (by omega) (fun j h hji => ?_)
      by_cases e : j = i
      · subst e; exact c
      · exact hp j h (by omega)
    · refine Ev.const ?_
      rw [decide_eq_false fun h => c (h _ (List.getElem_mem (by omega)))]
theorem l01Masks_ev (n : Nat) (hn : n ≤ 61) (l : List Int) (hl : l.length ≤ 17592186044416) : Ev (fun k => spec_l01Masks.f k (n : Int) l) (decide (∀ x ∈ l, 0 ≤ x ∧ x ≤ ((2 ^ n - 1 : Nat) : Int))) := by
  simp only [spec_l01Masks.f]
  exact l01Masks_l0 n hn l hl l.length 0 (by omega) (by intro j h hj; omega)
theorem l02Is_loop (m : Nat) (hm : m ≤ 8) (f : Nat → Nat → Bool) : ∀ (d a : Nat), a + d = m → (∀ i, i < a → f i i = true ∧ ∀ k, k < m → f i k = f k i) →
    Ev (fun k => spec_l02Is.l0 k (a : Int) (m : Int) (mat m f)) (decide (∀ i, i < m → f i i = true ∧ ∀ k, k < m → f i k = f k i)) := by
  intro d
  induction d with
  | zero =>
    intro a ha hp
    refine Ev.succ ?_
    simp only [spec_l02Is.l0]
    refine Ev.neg (by omega) (Ev.const ?_)
    rw [decide_eq_true fun i hi => hp i (by omega)]
  | succ d ih =>
    intro a ha hp
    have hb : ∀ i k, i < m → k < m → spec_l01Bit.f (rd (mat m f) (i : Int)) (k : Int) = some (f i k) := fun i k hi hk => by
      rw [rd_mat m f i hi, l01Bit_eq _ k (by have := mk_lt m (f i); have := pow24 (show m ≤ 24 by omega); omega) (by omega), testBit_mk]
      simp [hk]
    refine Ev.succ ?_
    simp only [spec_l02Is.l0]
    refine Ev.pos (by omega) (Ev.pos (by omega) (Ev.pos (by simp; omega) ?_))
    rw [hb a a (by omega) (by omega)]
    refine Ev.some_bind ?_
    by_cases c : f a a = true
    · refine Ev.pos c ?_
      have inner : ∀ (e b : Nat), b + e = m → (∀ k, k < b → f a k = f k a) → Ev (fun k => spec_l02Is.l1 k (a : Int) (b : Int) (m : Int) (mat m f)) (decide (∀ i, i < m → f i i = true ∧ ∀ k, k < m → f i k = f k i)) := by
        intro e
        induction e with
        | zero =>
          intro b hbe hq
          refine Ev.succ ?_
          simp only [spec_l02Is.l1]
          refine Ev.neg (by omega) ?_
          rw [w64' (by omega)]
          refine ih (a + 1) (by omega) (fun i hi => ?_)
          by_cases e : i = a
          · subst e; exact ⟨c, fun k hk => hq k (by omega)⟩
          · exact hp i (by omega)
        | succ e ihe =>
          intro b hbe hq
          refine Ev.succ ?_
          simp only [spec_l02Is.l1]
          refine Ev.pos (by omega) (Ev.pos (by omega) (Ev.pos (by simp; omega) ?_))
          rw [hb a b (by omega) (by omega)]
          refine Ev.some_bind (Ev.pos (by omega) (Ev.pos (by simp; omega) ?_))
          rw [hb b a (by omega) (by omega)]
          refine Ev.some_bind ?_
          by_cases g : f a b = f b a
          · refine Ev.neg (by rw [g]; simp) ?_
            rw [w64' (by omega)]
            refine ihe (b + 1) (by omega) (fun k hk => ?_)
            by_cases e : k = b
            · subst e; exact g
            · exact hq k (by omega)
          · refine Ev.pos (by simpa using g) (Ev.const ?_)
            rw [decide_eq_false fun h => g ((h a (by omega)).2 b (by omega))]
      exact inner m 0 (by omega) (by intro k hk; omega)
    · refine Ev.neg c (Ev.const ?_)
      rw [decide_eq_false fun h => c (h a (by omega)).1]
theorem l02Is_ev (n : Int) (D : List Int) : Ev (fun k => spec_l02Is.f k n D) (decide (Alpha n D)) := by
  have hj : ∀ n D, ¬ Alpha n D → Ev (fun k => spec_l02Is.j0 k true n D) (decide (Alpha n D)) := fun n D h => by
    refine Ev.succ ?_
    simp only [spec_l02Is.j0]
    exact Ev.pos (by simp) (Ev.const (by rw [decide_eq_false h]))
  simp only [spec_l02Is.f, l01In_eq]
  refine Ev.some_bind ?_
  simp only [decide_eq_true_eq]
  refine Ev.ite (fun c1 => ?_) (fun c1 => hj n D fun h => c1 h.1)
  refine Ev.ite (fun c2 => ?_) (fun c2 => hj n D fun h => c2 h.2.1)
  obtain ⟨m, rfl⟩ := Int.eq_ofNat_of_zero_le c1.1
  have hl : D.length = m := by omega
  have h1 : 0 < 2 ^ m := Nat.two_pow_pos m
  refine Ev.bind (l01Masks_ev m (by omega) D (by omega)) ?_
  refine Ev.succ ?_
  simp only [spec_l02Is.j0]
  by_cases c3 : ∀ x ∈ D, 0 ≤ x ∧ x ≤ ((2 ^ m - 1 : Nat) : Int)
  · have c3' : ∀ x ∈ D, 0 ≤ x ∧ x < ((2 ^ D.length : Nat) : Int) := fun x hx => by have := c3 x hx; rw [hl]; omega
    have e : D = mat m (bitR D) := by have := eq_mat D c3'; rwa [hl] at this
    refine Ev.neg (by simpa using c3) ?_
    have := l02Is_loop m (by omega) (bitR D) m 0 (by omega) (by intro i hi; omega)
    rw [← e] at this
    refine Ev.val this ?_
    rw [decide_eq_decide]
    exact ⟨fun h => ⟨c1, c2, c3', fun a ha => ⟨(h a (by omega)).1, fun b hb => (h a (by omega)).2 b (by omega)⟩⟩, fun h a ha => ⟨(h.2.2.2 a (by omega)).1, fun b hb => (h.2.2.2 a (by omega)).2 b (by omega)⟩⟩
  · refine Ev.pos (by simpa using c3) (Ev.const ?_)
    rw [decide_eq_false fun h => c3 fun x hx => ?_]
    have := h.2.2.1 x hx
    rw [hl] at this
    omega
theorem IsRelation_eq (r : List Int) : impl_IsRelation.f r = some (decide (r.length ≤ 24 ∧ ∀ x ∈ r, 0 ≤ x ∧ x < ((2 ^ r.length : Nat) : Int))) := by
  unfold impl_IsRelation.f
  by_cases h : r.length ≤ 24
  · have h1 : 0 < 2 ^ r.length := Nat.two_pow_pos _
    have h2 := pow24 h
    rw [if_pos (by omega)]
    simp only [impl_length_int64.f, Option.bind_some, one_eq r.length (by omega), impl_allIn.f]
    rw [w64' (by omega)]
    congr 1
    rw [Bool.eq_iff_iff]
    simp only [List.all_eq_true, decide_eq_true_eq]
    exact ⟨fun g => ⟨h, fun x hx => by have := g x hx; omega⟩, fun g x hx => by have := g.2 x hx; omega⟩
  · rw [if_neg (by omega)]
    congr 1
    symm
    rw [decide_eq_false fun g => h g.1]
/-- one round for each row: bit i of the k-th mask -/
theorem converse_l1 (n : Nat) (hn : n ≤ 24) (r : List Int) (i : Nat) (hi : i < n) (L : Int) (R : List Int) (ms : List Nat) (hml : ms.length ≤ 64) (hms : ∀ x ∈ ms, x < n) :
    ∀ (d j : Nat) (g : Nat → Nat → Bool), j + d = ms.length → (Ev (fun k => impl_converse.l0 k (mat n fun a b => g a b || (decide (b = i) && decide (a ∈ ms.drop j))) r L ((i + 1 : Nat) : Int)) R) →
    Ev (fun k => impl_converse.l1 k (mat n g) (i : Int) r L (i : Int) (ints ms) (ms.length : Int) (j : Int)) R := by
  intro d
  induction d with
  | zero =>
    intro j g hj hR
    refine Ev.succ ?_
    simp only [impl_converse.l1]
    refine Ev.neg (by omega) ?_
    rw [w64' (by omega)]
    rw [List.drop_of_length_le (by omega)] at hR
    simpa using hR
  | succ d ih =>
    intro j g hj hR
    have hj' : j < ms.length := by omega
    have hx := hms _ (List.getElem_mem hj')
    refine Ev.succ ?_
    simp only [impl_converse.l1]
    refine Ev.pos (by omega) (Ev.pos (by omega) (Ev.pos (by simp; omega) ?_))
    rw [rd_ints ms j hj']
    refine Ev.pos (by omega) (Ev.pos (by simp; omega) ?_)
    rw [one_eq i (by omega), rd_mat n g _ hx]
    refine Ev.some_bind ?_
    have hg := mk_lt n (g ms[j])
    have h24 := pow24 hn
    have hp : (2 : Nat) ^ i < 2 ^ n := Nat.pow_lt_pow_right (by decide) hi
    rw [b_or _ _ (by omega) (by omega), w64' (by omega)]
    have e : (mat n g).set ((ms[j] : Int)).toNat (((mk n (g ms[j]) ||| 2 ^ i : Nat)) : Int) = mat n fun a b => g a b || (decide (b = i) && decide (a = ms[j])) := by
      rw [Int.toNat_natCast]
      apply List.ext_getElem
      · simp
      · intro q h1 h2
        have hq : q < n := by simpa using h1
        rw [List.getElem_set]
        by_cases e : ms[j] = q
        · rw [if_pos e]
          simp only [mat, List.getElem_map, List.getElem_range]
          congr 1
          refine bits_ext fun b => ?_
          rw [Nat.testBit_or, testBit_mk, testBit_mk, testBit_one, ← e]
          by_cases hb : b = i
          · subst hb; simp [hi]
          · simp [hb, show ¬ i = b from fun h => hb h.symm]
        · rw [if_neg e]
          simp only [mat, List.getElem_map, List.getElem_range]
          congr 1
          exact mk_congr fun b _ => by simp [show ¬ q = ms[j] from fun h => e h.symm]
    rw [e]
    refine ih (j + 1) _ (by omega) ?_
    have e2 : (fun a b => (g a b || (decide (b = i) && decide (a = ms[j]))) || (decide (b = i) && decide (a ∈ ms.drop (j + 1)))) = fun a b => g a b || (decide (b = i) && decide (a ∈ ms.drop j)) := by
      funext a b
      have hm : a ∈ ms.drop j ↔ a = ms[j] ∨ a ∈ ms.drop (j + 1) := by rw [List.drop_eq_getElem_cons hj', List.mem_cons]
      rw [Bool.eq_iff_iff]
      simp only [Bool.or_eq_true, Bool.and_eq_true, decide_eq_true_eq, hm]
      constructor
      · rintro ((h | ⟨h1, h2⟩) | ⟨h1, h2⟩)
        · exact .inl h
        · exact .inr ⟨h1, .inl h2⟩
        · exact .inr ⟨h1, .inr h2⟩
      · rintro (h | ⟨h1, h2 | h2⟩)
        · exact .inl (.inl h)
        · exact .inl (.inr ⟨h1, h2⟩)
        · exact .inr ⟨h1, h2⟩
    rw [e2]
    exact hR
theorem converse_l0 (n : Nat) (hn : n ≤ 24) (f : Nat → Nat → Bool) : ∀ (d i : Nat), i + d = n →
    Ev (fun k => impl_converse.l0 k (mat n fun a b => decide (b < i) && f b a) (mat n f) (n : Int) (i : Int)) (mat n fun a b => f b a) := by
  intro d
  induction d with
  | zero =>
    intro i hi
    refine Ev.succ ?_
    simp only [impl_converse.l0]
    refine Ev.neg (by omega) (Ev.const ?_)
    congr 1
    exact mat_congr fun a b ha hb => by simp [show b < i by omega]
  | succ d ih =>
    intro i hi
    refine Ev.succ ?_
    simp only [impl_converse.l0]
    refine Ev.pos (by omega) (Ev.pos (by omega) (Ev.pos (by simp; omega) ?_))
    have hlt := mk_lt n (f i)
    have h24 := pow24 hn
    have hmem : ∀ x, x ∈ bitsOf (mk n (f i)) ↔ x < n ∧ f i x = true := fun x => by
      rw [mem_bitsOf (by omega), testBit_mk]; simp
    refine Ev.bind (by rw [rd_mat n f i (by omega)]; exact members_ev _ (by omega)) ?_
    have := converse_l1 n hn (mat n f) i (by omega) (n : Int) (mat n fun a b => f b a) (bitsOf (mk n (f i))) (bitsOf_length _) (fun x hx => ((hmem x).1 hx).1) (bitsOf (mk n (f i))).length 0 (fun a b => decide (b < i) && f b a) (by omega) ?_
    · have e : intsOf (mk n (f i)) = ints (bitsOf (mk n (f i))) := rfl
      rw [e, ints_length]
      exact this
    · rw [List.drop_zero]
      have e : (mat n fun a b => decide (b < i) && f b a || (decide (b = i) && decide (a ∈ bitsOf (mk n (f i))))) = mat n fun a b => decide (b < i + 1) && f b a := by
        refine mat_congr fun a b ha hb => ?_
        rw [Bool.eq_iff_iff]
        simp only [Bool.or_eq_true, Bool.and_eq_true, decide_eq_true_eq, hmem]
        constructor
        · rintro (⟨h1, h2⟩ | ⟨rfl, _, h2⟩)
          · exact ⟨by omega, h2⟩
          · exact ⟨by omega, h2⟩
        · rintro ⟨h1, h2⟩
          by_cases e : b = i
          · subst e; exact .inr ⟨rfl, ha, h2⟩
          · exact .inl ⟨by omega, h2⟩
      rw [e]
      exact ih (i + 1) (by omega)
theorem converse_ev (n : Nat) (hn : n ≤ 24) (f : Nat → Nat → Bool) : Ev (fun k => impl_converse.f k (mat n f)) (mat n fun a b => f b a) := by
  simp only [impl_converse.f]
  refine Ev.pos (by omega) (Ev.pos (by simp; omega) ?_)
  have e : List.replicate (((mat n f).length : Int)).toNat (0 : Int) = mat n fun a b => decide (b < 0) && f b a := by
    rw [mat_length, Int.toNat_natCast]
    apply List.ext_getElem
    · simp
    · intro q h1 h2
      simp only [List.getElem_replicate, mat, List.getElem_map, List.getElem_range]
      rw [show mk n (fun b => decide (b < 0) && f b q) = 0 from bits_ext fun b => by rw [testBit_mk]; simp]
      rfl
  rw [e, mat_length]
  exact converse_l0 n hn f n 0 (by omega)
theorem IsAlphabet_loop (m : Nat) (hm : m ≤ 8) (f : Nat → Nat → Bool) : ∀ (d a : Nat), a + d = m → (∀ i, i < a → f i i = true ∧ ∀ k, k < m → f i k = f k i) →
    Ev (fun k => impl_IsAlphabet.l0 k (mat m fun a b => f b a) (m : Int) (a : Int) (m : Int) (mat m f)) (decide (∀ i, i < m → f i i = true ∧ ∀ k, k < m → f i k = f k i)) := by
  intro d
  induction d with
  | zero =>
    intro a ha hp
    refine Ev.succ ?_
    simp only [impl_IsAlphabet.l0]
    refine Ev.neg (by omega) (Ev.const ?_)
    rw [decide_eq_true fun i hi => hp i (by omega)]
  | succ d ih =>
    intro a ha hp
    refine Ev.succ ?_
    simp only [impl_IsAlphabet.l0]
    refine Ev.pos (by omega) (Ev.pos (by omega) (Ev.pos (by simp; omega) (Ev.pos (by simp; omega) ?_)))
    rw [rd_mat m _ a (by omega), rd_mat m f a (by omega)]
    have hlt := mk_lt m fun b => f b a
    have h24 := pow24 (show m ≤ 24 by omega)
    refine Ev.ite (fun c => ?_) (fun c => ?_)
    · have hc : ∀ k, k < m → f a k = f k a := fun k hk => by
        have := congrArg (fun z : Nat => z.testBit k) (Int.ofNat.inj c)
        simp only [testBit_mk, hk, decide_true, Bool.true_and] at this
        exact this.symm
      rw [has_eq _ a (by omega) (by omega), testBit_mk]
      refine Ev.some_bind ?_
      refine Ev.ite (fun g => ?_) (fun g => ?_)
      · rw [w64' (by omega)]
        refine ih (a + 1) (by omega) (fun i hi => ?_)
        by_cases e : i = a
        · subst e; exact ⟨by simpa [show i < m by omega] using g, hc⟩
        · exact hp i (by omega)
      · refine Ev.const ?_
        rw [decide_eq_false fun h => g (by simpa [show a < m by omega] using (h a (by omega)).1)]
    · refine Ev.const ?_
      rw [decide_eq_false fun h => c ?_]
      congr 1
      exact mk_congr fun k hk => ((h a (by omega)).2 k hk).symm
theorem IsAlphabet_ev (n : Int) (D : List Int) : Ev (fun k => impl_IsAlphabet.f k n D) (decide (Alpha n D)) := by
  have hj : ∀ n D, ¬ Alpha n D → Ev (fun k => impl_IsAlphabet.j0 k true n D) (decide (Alpha n D)) := fun n D h => by
    refine Ev.succ ?_
    simp only [impl_IsAlphabet.j0]
    exact Ev.pos (by simp) (Ev.const (by rw [decide_eq_false h]))
  simp only [impl_IsAlphabet.f, inRange_eq, impl_length_int64.f, IsRelation_eq]
  refine Ev.some_bind ?_
  simp only [decide_eq_true_eq]
  refine Ev.ite (fun c1 => Ev.some_bind ?_) (fun c1 => hj n D fun h => c1 h.1)
  refine Ev.ite (fun c2 => Ev.some_bind ?_) (fun c2 => hj n D fun h => c2 h.2.1)
  obtain ⟨m, rfl⟩ := Int.eq_ofNat_of_zero_le c1.1
  have hl : D.length = m := by omega
  by_cases c3 : ∀ x ∈ D, 0 ≤ x ∧ x < ((2 ^ D.length : Nat) : Int)
  · rw [decide_eq_true ⟨by omega, c3⟩]
    have e : D = mat m (bitR D) := by have := eq_mat D c3; rwa [hl] at this
    refine Ev.succ ?_
    simp only [impl_IsAlphabet.j0]
    refine Ev.neg (by simp) ?_
    have hc := converse_ev m (by omega) (bitR D)
    rw [← e] at hc
    refine Ev.bind hc ?_
    have := IsAlphabet_loop m (by omega) (bitR D) m 0 (by omega) (by intro i hi; omega)
    rw [← e] at this
    rw [mat_length]
    refine Ev.val this ?_
    rw [decide_eq_decide]
    exact ⟨fun h => ⟨c1, c2, c3, fun a ha => ⟨(h a (by omega)).1, fun b hb => (h a (by omega)).2 b (by omega)⟩⟩, fun h a ha => ⟨(h.2.2.2 a (by omega)).1, fun b hb => (h.2.2.2 a (by omega)).2 b (by omega)⟩⟩
  · rw [decide_eq_false fun h => c3 h.2]
    exact hj _ _ fun h => c3 h.2.2.1
theorem l03Word_l0 (n : Int) (hn : 0 ≤ n ∧ n ≤ 8) (w : List Int) (hw : w.length ≤ 24) : ∀ (d i : Nat), i + d = w.length → (∀ j (h : j < w.length), j < i → 0 ≤ w[j] ∧ w[j] ≤ n - 1) → Ev (fun k => spec_l03Word.l0 k n w i) (decide (Word n w)) := by
  intro d
  induction d with
  | zero =>
    intro i hi hp
    refine Ev.succ ?_
    simp only [spec_l03Word.l0]
    refine Ev.neg (by omega) (Ev.const ?_)
    have hW : Word n w := ⟨hw, fun x hx => by obtain ⟨j, hj, rfl⟩ := List.getElem_of_mem hx; exact hp j hj (by omega)⟩
    rw [decide_eq_true hW]
  | succ d ih =>
    intro i hi hp
    refine Ev.succ ?_
    simp only [spec_l03Word.l0, l01In_eq]
    refine Ev.pos (by omega) (Ev.pos (by omega) (Ev.some_bind ?_))
    rw [rd_lt w i (by omega), w64' (show -9000000000000000000 ≤ n - 1 ∧ n - 1 ≤ 9000000000000000000 by omega)]
    simp only [decide_eq_true_eq]
    refine Ev.ite (fun c => ?_) (fun c => ?_)
    · rw [w64' (by omega)]
      refine ih (i + 1) (by omega) (fun j h hji => ?_)
      by_cases e : j = i
      · subst e; exact c
      · exact hp j h (by omega)
    · refine Ev.const ?_
      rw [decide_eq_false fun h => c (h.2 _ (List.getElem_mem (by omega)))]
theorem l03Word_ev (n : Int) (hn : 0 ≤ n ∧ n ≤ 8) (w : List Int) : Ev (fun k => spec_l03Word.f k n w) (decide (Word n w)) := by
  simp only [spec_l03Word.f]
  refine Ev.ite (fun c => Ev.const ?_) (fun c => ?_)
  · rw [decide_eq_false fun h => by have := h.1; omega]
  · exact l03Word_l0 n hn w (by omega) w.length 0 (by omega) (by intro j h hj; omega)
theorem wordB_eq (n : Int) (hn : 0 ≤ n ∧ n ≤ 8) (w : List Int) : wordB n w = decide (Word n w) := by
  unfold wordB
  rw [Bool.eq_iff_iff, w64' (by omega)]
  rw [decide_eq_true_iff]
  simp [Word, List.all_eq_true]
theorem checkWords_ev (n : Int) (D : List Int) (ws : List (List Int)) : Ev (fun k => impl_checkWords.f k n D ws) (if Alpha n D then (if ∀ w ∈ ws, Word n w then 0 else 2) else 1) := by
  simp only [impl_checkWords.f]
  refine Ev.bind (IsAlphabet_ev n D) (Ev.const ?_)
  congr 1
  by_cases h : Alpha n D
  · rw [if_pos (by simpa using h), if_pos h]
    by_cases g : ∀ w ∈ ws, Word n w
    · rw [if_pos g, if_pos]
      rw [List.all_eq_true]
      exact fun w hw => by rw [wordB_eq n h.1]; simpa using g w hw
    · rw [if_neg g, if_neg]
      rw [List.all_eq_true]
      exact fun k => g fun w hw => by have := k w hw; rw [wordB_eq n h.1] at this; simpa using this
  · rw [if_neg (by simpa using h), if_neg h]
theorem l02Dep_eq (n : Nat) (hn : n ≤ 24) (f : Nat → Nat → Bool) (x : Int) (a b : Nat) (ha : a < n) (hb : b < n) : spec_l02Dep.f x (mat n f) (a : Int) (b : Int) = some (f a b) := by
  unfold spec_l02Dep.f
  have := mk_lt n (f a)
  have := pow24 hn
  rw [if_pos (by omega), if_pos (by simp; omega), rd_mat n f a ha, l01Bit_eq _ b (by omega) (by omega), testBit_mk]
  simp [hb]
theorem l01Own_eq (l : List Int) (h : l.length < 17592186044416) : spec_l01Own.f l = some l := by
  unfold spec_l01Own.f
  simp only [Option.bind_some, List.length_nil, List.nil_append]
  rw [if_pos (by omega)]
theorem l03First_l0 (n : Nat) (hn : n ≤ 24) (f : Nat → Nat → Bool) (a : Nat) (ha : a < n) : ∀ (suf pre : List Nat), (pre ++ suf).length ≤ 1000000 → (∀ x ∈ pre ++ suf, x < n) →
    Ev (fun k => spec_l03First.l0 k (ints (pre ++ suf)) (a : Int) (pre.length : Int) (n : Int) (mat n f)) (if isFirst f suf a = true then ((pre.length + suf.idxOf a : Nat) : Int) else -1) := by
  intro suf
  induction suf with
  | nil =>
    intro pre hl hw
    refine Ev.succ ?_
    simp only [spec_l03First.l0]
    exact Ev.neg (by simp) (Ev.const rfl)
  | cons b suf ih =>
    intro pre hl hw
    simp only [List.length_append, List.length_cons] at hl
    have hb : b < n := mem_mid hw
    refine Ev.succ ?_
    simp only [spec_l03First.l0]
    refine Ev.pos (by simp; omega) (Ev.pos (by omega) ?_)
    rw [rd_mid]
    refine Ev.ite (fun c => ?_) (fun c => ?_)
    · obtain rfl := Int.ofNat.inj c
      refine Ev.const ?_
      rw [if_pos (isFirst_head f b suf)]
      simp
    · have c' : ¬ b = a := fun e => c (by rw [e])
      rw [l02Dep_eq n hn f _ b a hb ha]
      refine Ev.some_bind (Ev.ite (fun g => ?_) (fun g => ?_))
      · refine Ev.const ?_
        rw [if_neg (by simp [isFirst, c', g])]
      · rw [w64' (by omega)]
        have := ih (pre ++ [b]) (by simp; omega) (by simpa using hw)
        simp only [List.append_assoc, List.cons_append, List.nil_append, List.length_append, List.length_cons, List.length_nil] at this
        refine Ev.val this ?_
        have e1 : isFirst f (b :: suf) a = isFirst f suf a := by simp [isFirst, c', g]
        rw [e1, idxOf_tail _ c']
        by_cases h : isFirst f suf a = true
        · rw [if_pos h, if_pos h]
          congr 1
          omega
        · rw [if_neg h, if_neg h]
theorem l03First_ev (n : Nat) (hn : n ≤ 24) (f : Nat → Nat → Bool) (w : List Nat) (hl : w.length ≤ 1000000) (hw : ∀ x ∈ w, x < n) (a : Nat) (ha : a < n) : Ev (fun k => spec_l03First.f k (n : Int) (mat n f) (ints w) (a : Int)) (fIdx f w a) := by
  simp only [spec_l03First.f]
  have := l03First_l0 n hn f a ha w [] hl hw
  simpa [fIdx] using this
theorem l03Without_eq (w : List Nat) (hl : w.length ≤ 1000000) (i : Nat) (hi : i < w.length) : spec_l03Without.f (ints w) (i : Int) = some (ints (w.eraseIdx i)) := by
  unfold spec_l03Without.f
  rw [if_pos (by omega), if_pos (by simp; omega), w64' (by omega), Int.toNat_natCast, l01Own_eq _ (by simp; omega)]
  simp only [Option.bind_some]
  rw [if_pos (by omega), if_pos (by simp; omega), show ((i : Int) + 1).toNat = i + 1 by omega, if_pos (by simp; omega), ← ints_eraseIdx, List.eraseIdx_eq_take_drop_succ]
theorem l03Without_first (f : Nat → Nat → Bool) (w : List Nat) (hl : w.length ≤ 1000000) (a : Nat) (h : isFirst f w a = true) : spec_l03Without.f (ints w) (fIdx f w a) = some (ints (w.erase a)) := by
  have hm := isFirst_mem f h
  unfold fIdx
  rw [if_pos h, l03Without_eq w hl _ (idxOf_lt hm), erase_idx hm]
theorem l03Normal_l0 (n : Nat) (hn : n ≤ 24) (f : Nat → Nat → Bool) : ∀ (L : Nat) (w : List Nat) (acc : List Int), w.length = L → acc.length + w.length ≤ 1000000 → (∀ x ∈ w, x < n) →
    Ev (fun k => spec_l03Normal.l0 k acc (ints w) (n : Int) (mat n f)) (acc ++ ints (normalP f n w)) := by
  intro L
  induction L with
  | zero =>
    intro w acc hL hl hw
    obtain rfl := List.eq_nil_of_length_eq_zero hL
    refine Ev.succ ?_
    simp only [spec_l03Normal.l0]
    refine Ev.neg (by simp [ints]) (Ev.const ?_)
    simp [normalP_nil, ints]
  | succ L ih =>
    intro w acc hL hl hw
    have hne : w ≠ [] := by rintro rfl; simp at hL
    obtain ⟨h1, h2, h3⟩ := least_first f hw hne
    rw [normalP_cons f hw hne]
    refine Ev.succ ?_
    simp only [spec_l03Normal.l0]
    refine Ev.pos (by simp; omega) ?_
    have inner : ∀ (d a : Nat), a + d = leastF (isFirst f w) n → Ev (fun k => spec_l03Normal.l1 k acc (ints w) (a : Int) (n : Int) (mat n f)) (acc ++ ints (leastF (isFirst f w) n :: normalP f n (w.erase (leastF (isFirst f w) n)))) := by
      intro d
      induction d with
      | zero =>
        intro a ha
        obtain rfl : a = leastF (isFirst f w) n := by omega
        refine Ev.succ ?_
        simp only [spec_l03Normal.l1]
        refine Ev.pos (by omega) (Ev.bind (l03First_ev n hn f w (by omega) hw _ h1) (Ev.pos (by unfold fIdx; rw [if_pos h2]; omega) (Ev.pos (by omega) ?_)))
        rw [l03Without_first f w (by omega) _ h2]
        refine Ev.some_bind ?_
        have he := length_erase f h2
        refine Ev.val (ih _ _ (by omega) (by simp; omega) (erase_lt hw)) ?_
        rw [ints_cons]
        simp
      | succ d ihd =>
        intro a ha
        refine Ev.succ ?_
        simp only [spec_l03Normal.l1]
        refine Ev.pos (by omega) (Ev.bind (l03First_ev n hn f w (by omega) hw a (by omega)) (Ev.neg (by unfold fIdx; rw [h3 a (by omega)]; simp) ?_))
        rw [w64' (by omega)]
        exact ihd (a + 1) (by omega)
    exact inner (leastF (isFirst f w) n) 0 (by omega)
theorem l03Normal_ev (n : Nat) (hn : n ≤ 24) (f : Nat → Nat → Bool) (w : List Nat) (hl : w.length ≤ 1000000) (hw : ∀ x ∈ w, x < n) : Ev (fun k => spec_l03Normal.f k (n : Int) (mat n f) (ints w)) (ints (normalP f n w)) := by
  simp only [spec_l03Normal.f]
  rw [l01Own_eq _ (by simp; omega)]
  refine Ev.some_bind (Ev.val (l03Normal_l0 n hn f _ w [] rfl (by simpa using hl) hw) (by simp))
theorem l05Cut_l0 (n : Nat) (hn : n ≤ 24) (f : Nat → Nat → Bool) : ∀ (u pre v : List Nat), (pre ++ u).length ≤ 1000000 → v.length ≤ 1000000 → (∀ x ∈ u, x < n) → (∀ x ∈ v, x < n) →
    Ev (fun k => spec_l05Cut.l0 k (ints (pre ++ u)) (ints v) (pre.length : Int) (n : Int) (mat n f)) (cutR f u v) := by
  intro u
  induction u with
  | nil =>
    intro pre v hl hv hu hw
    refine Ev.succ ?_
    simp only [spec_l05Cut.l0]
    exact Ev.neg (by simp) (Ev.const rfl)
  | cons a u ih =>
    intro pre v hl hv hu hw
    simp only [List.length_append, List.length_cons] at hl
    have ha : a < n := hu a (by simp)
    refine Ev.succ ?_
    simp only [spec_l05Cut.l0]
    refine Ev.pos (by simp; omega) (Ev.pos (by omega) ?_)
    rw [rd_mid]
    refine Ev.bind (l03First_ev n hn f v hv hw a ha) ?_
    by_cases h : isFirst f v a = true
    · refine Ev.neg (by unfold fIdx; rw [if_pos h]; omega) ?_
      rw [l03Without_first f v hv a h, w64' (by omega)]
      refine Ev.some_bind ?_
      have := ih (pre ++ [a]) (v.erase a) (by simp; omega) (by have := length_erase f h; omega) (fun x hx => hu x (by simp [hx])) (erase_lt hw)
      simp only [List.append_assoc, List.cons_append, List.nil_append, List.length_append, List.length_cons, List.length_nil] at this
      refine Ev.val this ?_
      unfold cutR
      rw [cutP_cons, if_pos h]
    · refine Ev.pos (by unfold fIdx; rw [if_neg h]; omega) (Ev.const ?_)
      unfold cutR
      rw [cutP_cons, if_neg h]
theorem l05Cut_ev (n : Nat) (hn : n ≤ 24) (f : Nat → Nat → Bool) (u v : List Nat) (hl : u.length ≤ 1000000) (hv : v.length ≤ 1000000) (hu : ∀ x ∈ u, x < n) (hw : ∀ x ∈ v, x < n) : Ev (fun k => spec_l05Cut.f k (n : Int) (mat n f) (ints u) (ints v)) (cutR f u v) := by
  simp only [spec_l05Cut.f]
  rw [l01Own_eq _ (by simp; omega)]
  exact Ev.some_bind (l05Cut_l0 n hn f u [] v hl hv hu hw)
theorem l05Independent_ev (n : Nat) (hn : n ≤ 24) (f : Nat → Nat → Bool) (u v : List Nat) (hl : u.length ≤ 1000000) (hv : v.length ≤ 1000000) (hu : ∀ x ∈ u, x < n) (hw : ∀ x ∈ v, x < n) : Ev (fun k => spec_l05Independent.f k (n : Int) (mat n f) (ints u) (ints v)) (apartP f u v) := by
  simp only [spec_l05Independent.f]
  have outer : ∀ (suf pre : List Nat), pre ++ suf = u → Ev (fun k => spec_l05Independent.l0 k (ints u) (ints v) (pre.length : Int) (n : Int) (mat n f)) (apartP f suf v) := by
    intro suf
    induction suf with
    | nil =>
      intro pre hp
      refine Ev.succ ?_
      simp only [spec_l05Independent.l0]
      refine Ev.neg (by simp [← hp]) (Ev.const rfl)
    | cons a suf ih =>
      intro pre hp
      have hlen : pre.length + suf.length + 1 = u.length := by rw [← hp]; simp; omega
      have ha : a < n := hu a (by simp [← hp])
      refine Ev.succ ?_
      simp only [spec_l05Independent.l0]
      refine Ev.pos (by simp; omega) ?_
      have inner : ∀ (s q : List Nat), q ++ s = v → (∀ b ∈ q, f a b = false) → Ev (fun k => spec_l05Independent.l1 k (ints u) (ints v) (pre.length : Int) (q.length : Int) (n : Int) (mat n f)) (apartP f (a :: suf) v) := by
        intro s
        induction s with
        | nil =>
          intro q hq hf
          refine Ev.succ ?_
          simp only [spec_l05Independent.l1]
          refine Ev.neg (by simp [← hq]) ?_
          rw [w64' (by omega)]
          have := ih (pre ++ [a]) (by simpa using hp)
          simp only [List.length_append, List.length_cons, List.length_nil] at this
          refine Ev.val this ?_
          simp only [List.append_nil] at hq
          subst hq
          simp only [apartP, List.all_cons]
          rw [show (q.all fun b => !f a b) = true from by simpa using hf]
          rfl
        | cons b s ihs =>
          intro q hq hf
          have hlq : q.length + s.length + 1 = v.length := by rw [← hq]; simp; omega
          have hb : b < n := hw b (by simp [← hq])
          refine Ev.succ ?_
          simp only [spec_l05Independent.l1]
          refine Ev.pos (by simp; omega) (Ev.pos (by omega) (Ev.pos (by simp; omega) (Ev.pos (by omega) ?_)))
          have r1 : rd (ints u) (pre.length : Int) = (a : Int) := by rw [← hp]; exact rd_mid pre suf a
          have r2 : rd (ints v) (q.length : Int) = (b : Int) := by rw [← hq]; exact rd_mid q s b
          rw [r1, r2, l02Dep_eq n hn f _ a b ha hb]
          refine Ev.some_bind (Ev.ite (fun g => ?_) (fun g => ?_))
          · refine Ev.const ?_
            congr 1
            symm
            rw [← Bool.not_eq_true, apartP_iff]
            intro h
            rw [h a (by simp) b (by simp [← hq])] at g
            cases g
          · rw [w64' (by omega)]
            have := ihs (q ++ [b]) (by simpa using hq) (fun x hx => by
              rcases List.mem_append.1 hx with h | h
              · exact hf x h
              · rw [List.mem_singleton.1 h]; simpa using g)
            simp only [List.length_append, List.length_cons, List.length_nil] at this
            exact this
      exact inner v [] rfl (by simp)
  exact outer u [] rfl
theorem l05Meet_l0 (n : Nat) (hn : n ≤ 24) (f : Nat → Nat → Bool) : ∀ (L : Nat) (u v : List Nat) (acc : List Int), u.length ≤ L → u.length ≤ 1000000 → v.length ≤ 1000000 → acc.length + u.length ≤ 1000000 → (∀ x ∈ u, x < n) → (∀ x ∈ v, x < n) →
    ∃ p a b, Meets f u v p a b ∧ Ev (fun k => spec_l05Meet.l0 k acc (ints u) (ints v) true (n : Int) (mat n f)) (acc ++ ints p) := by
  -- one sweep over the letters
  have sweep : ∀ (L : Nat), (∀ (u v : List Nat) (acc : List Int), u.length < L → u.length ≤ 1000000 → v.length ≤ 1000000 → acc.length + u.length ≤ 1000000 → (∀ x ∈ u, x < n) → (∀ x ∈ v, x < n) →
      ∃ p a b, Meets f u v p a b ∧ Ev (fun k => spec_l05Meet.l0 k acc (ints u) (ints v) true (n : Int) (mat n f)) (acc ++ ints p)) →
      ∀ (d c : Nat), c + d = n → ∀ (u v : List Nat) (acc : List Int) (more : Bool), u.length ≤ L → (more = true → u.length < L) → (more = false → ∀ x, x < c → ¬ (isFirst f u x = true ∧ isFirst f v x = true)) →
      u.length ≤ 1000000 → v.length ≤ 1000000 → acc.length + u.length ≤ 1000000 → (∀ x ∈ u, x < n) → (∀ x ∈ v, x < n) →
      ∃ p a b, Meets f u v p a b ∧ Ev (fun k => spec_l05Meet.l1 k acc (ints u) (ints v) more (c : Int) (n : Int) (mat n f)) (acc ++ ints p) := by
    intro L IH d
    induction d with
    | zero =>
      intro c hc u v acc more hL hm1 hm2 hl1 hl2 hl3 hu hv
      obtain rfl : c = n := by omega
      cases more with
      | true =>
        obtain ⟨p, a, b, h1, h2⟩ := IH u v acc (hm1 rfl) hl1 hl2 hl3 hu hv
        refine ⟨p, a, b, h1, Ev.succ ?_⟩
        simp only [spec_l05Meet.l1]
        exact Ev.neg (by omega) h2
      | false =>
        refine ⟨[], u, v, ⟨rfl, rfl, fun x hx => ?_⟩, Ev.succ ?_⟩
        · exact hm2 rfl x (hu x (isFirst_mem f hx.1)) hx
        · simp only [spec_l05Meet.l1]
          refine Ev.neg (by omega) (Ev.succ ?_)
          simp only [spec_l05Meet.l0]
          exact Ev.neg (by simp) (Ev.const (by simp [ints]))
    | succ d ih =>
      intro c hc u v acc more hL hm1 hm2 hl1 hl2 hl3 hu hv
      have e1 := l03First_ev n hn f u hl1 hu c (by omega)
      have e2 := l03First_ev n hn f v hl2 hv c (by omega)
      by_cases h1 : isFirst f u c = true
      · by_cases h2 : isFirst f v c = true
        · have k1 := length_erase f h1
          have k2 := length_erase f h2
          obtain ⟨p, a, b, g1, g2⟩ := ih (c + 1) (by omega) (u.erase c) (v.erase c) (acc ++ [(c : Int)]) true (by omega) (by intro; omega) (by simp) (by omega) (by omega) (by simp; omega) (erase_lt hu) (erase_lt hv)
          refine ⟨c :: p, a, b, Meets.cons f h1 h2 g1, Ev.succ ?_⟩
          simp only [spec_l05Meet.l1]
          refine Ev.pos (by omega) (Ev.bind e1 (Ev.bind e2 (Ev.pos (by unfold fIdx; rw [if_pos h1]; omega) (Ev.succ ?_))))
          simp only [spec_l05Meet.j2]
          refine Ev.pos (by unfold fIdx; rw [if_pos h2]; simp) (Ev.pos (by omega) ?_)
          rw [l03Without_first f u hl1 c h1, l03Without_first f v hl2 c h2, w64' (by omega)]
          refine Ev.some_bind (Ev.some_bind (Ev.val g2 ?_))
          rw [ints_cons]
          simp
        · obtain ⟨p, a, b, g1, g2⟩ := ih (c + 1) (by omega) u v acc more hL hm1 (fun hm x hx => by
            by_cases e : x = c
            · subst e; exact fun h => h2 h.2
            · exact hm2 hm x (by omega)) hl1 hl2 hl3 hu hv
          refine ⟨p, a, b, g1, Ev.succ ?_⟩
          simp only [spec_l05Meet.l1]
          refine Ev.pos (by omega) (Ev.bind e1 (Ev.bind e2 (Ev.pos (by unfold fIdx; rw [if_pos h1]; omega) (Ev.succ ?_))))
          simp only [spec_l05Meet.j2]
          refine Ev.neg (by unfold fIdx; rw [if_neg h2]; simp) ?_
          rw [w64' (by omega)]
          exact g2
      · obtain ⟨p, a, b, g1, g2⟩ := ih (c + 1) (by omega) u v acc more hL hm1 (fun hm x hx => by
          by_cases e : x = c
          · subst e; exact fun h => h1 h.1
          · exact hm2 hm x (by omega)) hl1 hl2 hl3 hu hv
        refine ⟨p, a, b, g1, Ev.succ ?_⟩
        simp only [spec_l05Meet.l1]
        refine Ev.pos (by omega) (Ev.bind e1 (Ev.bind e2 (Ev.neg (by unfold fIdx; rw [if_neg h1]; simp) (Ev.succ ?_))))
        simp only [spec_l05Meet.j2]
        refine Ev.neg (by simp) ?_
        rw [w64' (by omega)]
        exact g2
  intro L
  induction L using Nat.strongRecOn with
  | _ L IH =>
    intro u v acc hL hl1 hl2 hl3 hu hv
    obtain ⟨p, a, b, g1, g2⟩ := sweep L (fun u v acc h => IH u.length h u v acc (Nat.le_refl _)) n 0 (by omega) u v acc false hL (by simp) (by intro _ x hx; omega) hl1 hl2 hl3 hu hv
    refine ⟨p, a, b, g1, Ev.succ ?_⟩
    simp only [spec_l05Meet.l0]
    exact Ev.pos trivial g2
theorem l05Meet_ev (n : Nat) (hn : n ≤ 24) (f : Nat → Nat → Bool) (u v : List Nat) (hl : u.length ≤ 1000000) (hv : v.length ≤ 1000000) (hu : ∀ x ∈ u, x < n) (hw : ∀ x ∈ v, x < n) :
    ∃ p a b, Meets f u v p a b ∧ Ev (fun k => spec_l05Meet.f k (n : Int) (mat n f) (ints u) (ints v)) (ints p) := by
  obtain ⟨p, a, b, h1, h2⟩ := l05Meet_l0 n hn f _ u v [] (Nat.le_refl _) hl hv (by simpa using hl) hu hw
  refine ⟨p, a, b, h1, ?_⟩
  simp only [spec_l05Meet.f]
  rw [l01Own_eq _ (by simp; omega), l01Own_eq _ (by simp; omega)]
  exact Ev.some_bind (Ev.some_bind (Ev.val h2 (by simp)))
theorem Index_l0 (a : Nat) : ∀ (suf pre : List Nat), (pre ++ suf).length ≤ 1000000 →
    Ev (fun k => slices_Index_int64_int64.l0 k (ints (pre ++ suf)) (a : Int) ((pre ++ suf).length : Int) (pre.length : Int)) (if a ∈ suf then ((pre.length + suf.idxOf a : Nat) : Int) else -1) := by
  intro suf
  induction suf with
  | nil =>
    intro pre hl
    refine Ev.succ ?_
    simp only [slices_Index_int64_int64.l0]
    exact Ev.neg (by simp) (Ev.const rfl)
  | cons b suf ih =>
    intro pre hl
    simp only [List.length_append, List.length_cons] at hl
    refine Ev.succ ?_
    simp only [slices_Index_int64_int64.l0]
    refine Ev.pos (by simp; omega) (Ev.pos (by omega) (Ev.pos (by simp; omega) ?_))
    rw [rd_mid]
    refine Ev.ite (fun c => ?_) (fun c => ?_)
    · obtain rfl := Int.ofNat.inj c
      refine Ev.const ?_
      simp
    · have c' : ¬ b = a := fun e => c (by rw [e])
      rw [w64' (by omega)]
      have := ih (pre ++ [b]) (by simp; omega)
      simp only [List.append_assoc, List.cons_append, List.nil_append, List.length_append, List.length_cons, List.length_nil] at this ⊢
      refine Ev.val this ?_
      rw [idxOf_tail _ c']
      have e1 : a ∈ b :: suf ↔ a ∈ suf := by simp [List.mem_cons, show ¬ a = b from fun e => c' e.symm]
      by_cases h : a ∈ suf
      · rw [if_pos h, if_pos (e1.2 h)]
        congr 1
        omega
      · rw [if_neg h, if_neg (fun k => h (e1.1 k))]
theorem Index_ev (w : List Nat) (hl : w.length ≤ 1000000) (a : Nat) : Ev (fun k => slices_Index_int64_int64.f k (ints w) (a : Int)) (if a ∈ w then ((w.idxOf a : Nat) : Int) else -1) := by
  simp only [slices_Index_int64_int64.f]
  have := Index_l0 a w [] hl
  simpa using this
theorem withoutFirst_ev (w : List Nat) (hl : w.length ≤ 1000000) (a : Nat) (h : a ∈ w) : Ev (fun k => impl_withoutFirst.f k (ints w) (a : Int)) (ints (w.erase a)) := by
  simp only [impl_withoutFirst.f]
  have hi := idxOf_lt h
  refine Ev.bind (Index_ev w hl a) ?_
  rw [if_pos h]
  refine Ev.pos (by omega) (Ev.pos (by simp; omega) ?_)
  rw [w64' (by omega)]
  refine Ev.pos (by omega) (Ev.pos (by simp; omega) ?_)
  rw [Int.toNat_natCast, show ((w.idxOf a : Int) + 1).toNat = w.idxOf a + 1 by omega]
  refine Ev.const ?_
  unfold slices_Concat_int64_int64.f
  rw [if_pos (by simp; omega), ← erase_idx h, ← ints_eraseIdx, List.eraseIdx_eq_take_drop_succ]
  simp
theorem isFirst_snoc (f : Nat → Nat → Bool) (w : List Nat) (x a : Nat) : isFirst f (w ++ [x]) a = (isFirst f w a || (decide (x = a) && w.all fun b => !f b a)) := by
  induction w with
  | nil => simp [isFirst]
  | cons b w ih =>
    simp only [List.cons_append, isFirst, ih, List.all_cons]
    cases decide (b = a) <;> cases f b a <;> cases isFirst f w a <;> simp
theorem firsts_l0 (n : Nat) (hn : n ≤ 8) (f : Nat → Nat → Bool) : ∀ (suf pre : List Nat), (pre ++ suf).length ≤ 1000000 → (∀ x ∈ pre ++ suf, x < n) →
    Ev (fun k => impl_ties_firsts.l0 k (mat n f) ((mk n (isFirst f pre) : Nat) : Int) ((mk n (fun a => pre.any fun b => f b a) : Nat) : Int) (ints (pre ++ suf)) ((pre ++ suf).length : Int) (pre.length : Int)) ((mk n (isFirst f (pre ++ suf)) : Nat) : Int) := by
  intro suf
  induction suf with
  | nil =>
    intro pre hl hw
    refine Ev.succ ?_
    simp only [impl_ties_firsts.l0]
    exact Ev.neg (by simp) (Ev.const (by simp))
  | cons x suf ih =>
    intro pre hl hw
    have hx : x < n := mem_mid hw
    have i1 := ih (pre ++ [x]) (by simpa using hl) (by simpa using hw)
    simp only [List.append_assoc, List.cons_append, List.nil_append] at i1
    rw [show (pre ++ [x]).length = pre.length + 1 by simp] at i1
    have hl' : pre.length + suf.length + 1 ≤ 1000000 := by simpa [Nat.add_assoc] using hl
    have h1 := mk_lt n (isFirst f pre)
    have h2 := mk_lt n (fun a => pre.any fun b => f b a)
    have h3 := mk_lt n (f x)
    have h4 : (2 : Nat) ^ n ≤ 2 ^ 24 := pow24 (by omega)
    have h5 : (2 : Nat) ^ x ≤ 2 ^ 24 := pow24 (by omega)
    have eb : mk n (fun a => (pre ++ [x]).any fun b => f b a) = mk n (fun a => pre.any fun b => f b a) ||| mk n (f x) := bits_ext fun i => by
      rw [Nat.testBit_or, testBit_mk, testBit_mk, testBit_mk]
      by_cases hi : i < n <;> simp [hi]
    rw [eb] at i1
    refine Ev.succ ?_
    simp only [impl_ties_firsts.l0]
    refine Ev.pos (by simp; omega) (Ev.pos (by omega) (Ev.pos (by simp; omega) ?_))
    rw [rd_mid, has_eq _ x (by omega) (by omega), rd_mat n f x hx, b_or _ _ (by omega) (by omega), testBit_mk]
    refine Ev.some_bind (Ev.ite (fun g => ?_) (fun g => ?_))
    · refine Ev.pos (by omega) (Ev.pos (by simp; omega) ?_)
      rw [w64' (by omega)]
      have eo : mk n (isFirst f (pre ++ [x])) = mk n (isFirst f pre) := mk_congr fun a _ => by
        rw [isFirst_snoc]
        by_cases e : x = a
        · subst e
          have : (pre.all fun b => !f b x) = false := by
            rw [← Bool.not_eq_true]
            simp [hx] at g
            obtain ⟨b, hb, hf⟩ := g
            intro h
            have := List.all_eq_true.1 h b hb
            simp [hf] at this
          rw [this]; simp
        · simp [e]
      rw [eo] at i1
      exact i1
    · rw [one_eq x (by omega)]
      refine Ev.some_bind (Ev.pos (by omega) (Ev.pos (by simp; omega) ?_))
      rw [w64' (by omega), b_or _ _ (by omega) (by omega)]
      have eo : mk n (isFirst f (pre ++ [x])) = mk n (isFirst f pre) ||| 2 ^ x := bits_ext fun i => by
        rw [Nat.testBit_or, testBit_mk, testBit_mk, testBit_one, isFirst_snoc]
        by_cases e : x = i
        · subst e
          have : (pre.all fun b => !f b x) = true := by
            rw [List.all_eq_true]
            intro b hb
            simp only [hx, decide_true, Bool.true_and] at g
            have := fun h => g (List.any_eq_true.2 ⟨b, hb, h⟩)
            simpa using this
          simp [hx, this]
        · simp [e]
      rw [eo] at i1
      exact i1
theorem firsts_ev (n : Nat) (hn : n ≤ 8) (f : Nat → Nat → Bool) (w : List Nat) (hl : w.length ≤ 1000000) (hw : ∀ x ∈ w, x < n) : Ev (fun k => impl_ties_firsts.f k (mat n f) (ints w)) ((mk n (isFirst f w) : Nat) : Int) := by
  simp only [impl_ties_firsts.f]
  have := firsts_l0 n hn f w [] hl hw
  have e1 : mk n (isFirst f []) = 0 := Nat.eq_of_testBit_eq fun i => by rw [testBit_mk]; simp [isFirst]
  have e2 : mk n (fun a => ([] : List Nat).any fun b => f b a) = 0 := Nat.eq_of_testBit_eq fun i => by rw [testBit_mk]; simp
  rw [e1, e2] at this
  simpa using this
theorem normal_l0 (n : Nat) (hn : n ≤ 8) (f : Nat → Nat → Bool) : ∀ (L : Nat) (w : List Nat) (acc : List Int), w.length = L → acc.length + w.length ≤ 1000000 → (∀ x ∈ w, x < n) →
    Ev (fun k => impl_ties_normal.l0 k (mat n f) acc (ints w)) (acc ++ ints (normalP f n w)) := by
  intro L
  induction L with
  | zero =>
    intro w acc hL hl hw
    obtain rfl := List.eq_nil_of_length_eq_zero hL
    refine Ev.succ ?_
    simp only [impl_ties_normal.l0]
    refine Ev.neg (by simp [ints]) (Ev.const ?_)
    simp [normalP_nil, ints]
  | succ L ih =>
    intro w acc hL hl hw
    have hne : w ≠ [] := by rintro rfl; simp at hL
    obtain ⟨h1, h2, h3⟩ := least_first f hw hne
    rw [normalP_cons f hw hne]
    have h4 := mk_lt n (isFirst f w)
    have h5 : (2 : Nat) ^ n ≤ 2 ^ 24 := pow24 (by omega)
    refine Ev.succ ?_
    simp only [impl_ties_normal.l0]
    refine Ev.pos (by simp; omega) (Ev.bind (firsts_ev n hn f w (by omega) hw) ?_)
    rw [least_eq _ (by omega), ctz_mk (by omega) ⟨_, h1, h2⟩]
    refine Ev.some_bind (Ev.pos (by omega) (Ev.bind (withoutFirst_ev w (by omega) _ (isFirst_mem f h2)) ?_))
    have he := length_erase f h2
    refine Ev.val (ih _ _ (by omega) (by simp; omega) (erase_lt hw)) ?_
    rw [ints_cons]
    simp
theorem normal_ev (n : Nat) (hn : n ≤ 8) (f : Nat → Nat → Bool) (w : List Nat) (hl : w.length ≤ 1000000) (hw : ∀ x ∈ w, x < n) : Ev (fun k => impl_ties_normal.f k (mat n f) (ints w)) (ints (normalP f n w)) := by
  simp only [impl_ties_normal.f]
  refine Ev.pos (by omega) (Ev.pos (by simp; omega) (Ev.val (normal_l0 n hn f _ w [] rfl (by simpa using hl) hw) (by simp)))
theorem meet_l0 (n : Nat) (hn : n ≤ 8) (f : Nat → Nat → Bool) : ∀ (L : Nat) (u v : List Nat) (acc : List Int), u.length = L → v.length ≤ 1000000 → acc.length + u.length ≤ 1000000 → (∀ x ∈ u, x < n) → (∀ x ∈ v, x < n) →
    ∃ p a b, Meets f u v p a b ∧ Ev (fun k => impl_ties_meet.l0 k (mat n f) (ints u) (ints v) acc) (acc ++ ints p, ints a, ints b) := by
  intro L
  induction L with
  | zero =>
    intro u v acc hL hv hl hu hw
    have hu0 := List.eq_nil_of_length_eq_zero hL
    have h4 := mk_lt n (isFirst f u)
    have h4' := mk_lt n (isFirst f v)
    have h5 : (2 : Nat) ^ n ≤ 2 ^ 24 := pow24 (by omega)
    refine ⟨[], u, v, ⟨rfl, rfl, fun c hc => by rw [hu0] at hc; simp [isFirst] at hc⟩, Ev.succ ?_⟩
    simp only [impl_ties_meet.l0]
    refine Ev.bind (firsts_ev n hn f u (by omega) hu) (Ev.bind (firsts_ev n hn f v hv hw) ?_)
    rw [b_and _ _ (by omega) (by omega)]
    refine Ev.pos ?_ (Ev.const (by simp [ints]))
    have : mk n (isFirst f u) = 0 := Nat.eq_of_testBit_eq fun i => by rw [testBit_mk, hu0]; simp [isFirst]
    rw [this]; simp
  | succ L ih =>
    intro u v acc hL hv hl hu hw
    have h4 := mk_lt n (isFirst f u)
    have h4' := mk_lt n (isFirst f v)
    have h5 : (2 : Nat) ^ n ≤ 2 ^ 24 := pow24 (by omega)
    have em : mk n (isFirst f u) &&& mk n (isFirst f v) = mk n (fun a => isFirst f u a && isFirst f v a) := bits_ext fun i => by
      rw [Nat.testBit_and, testBit_mk, testBit_mk, testBit_mk]
      by_cases hi : i < n <;> simp [hi]
    have h6 := mk_lt n (fun a => isFirst f u a && isFirst f v a)
    by_cases hc : ∃ c, c < n ∧ (isFirst f u c && isFirst f v c) = true
    · obtain ⟨g1, g2, g3⟩ := leastF_spec hc
      have g2' := Bool.and_eq_true_iff.1 g2
      have k1 := length_erase f g2'.1
      have k2 := length_erase f g2'.2
      obtain ⟨p, a, b, m1, m2⟩ := ih (u.erase (leastF (fun a => isFirst f u a && isFirst f v a) n)) (v.erase (leastF (fun a => isFirst f u a && isFirst f v a) n)) (acc ++ [((leastF (fun a => isFirst f u a && isFirst f v a) n : Nat) : Int)]) (by omega) (by omega) (by simp; omega) (erase_lt hu) (erase_lt hw)
      refine ⟨_ :: p, a, b, Meets.cons f g2'.1 g2'.2 m1, Ev.succ ?_⟩
      simp only [impl_ties_meet.l0]
      refine Ev.bind (firsts_ev n hn f u (by omega) hu) (Ev.bind (firsts_ev n hn f v hv hw) ?_)
      rw [b_and _ _ (by omega) (by omega), em, least_eq _ (by omega), ctz_mk (by omega) hc]
      refine Ev.neg ?_ (Ev.some_bind (Ev.pos (by omega) (Ev.bind (withoutFirst_ev u (by omega) _ (isFirst_mem f g2'.1)) (Ev.bind (withoutFirst_ev v hv _ (isFirst_mem f g2'.2)) (Ev.val m2 ?_)))))
      · intro e
        have e' : mk n (fun a => isFirst f u a && isFirst f v a) = 0 := by omega
        have := testBit_mk n (fun a => isFirst f u a && isFirst f v a) (leastF (fun a => isFirst f u a && isFirst f v a) n)
        rw [e', Nat.zero_testBit, g2] at this
        simp [g1] at this
      · rw [ints_cons]
        simp
    · refine ⟨[], u, v, ⟨rfl, rfl, fun c hcc => hc ⟨c, hu c (isFirst_mem f hcc.1), by simp [hcc.1, hcc.2]⟩⟩, Ev.succ ?_⟩
      simp only [impl_ties_meet.l0]
      refine Ev.bind (firsts_ev n hn f u (by omega) hu) (Ev.bind (firsts_ev n hn f v hv hw) ?_)
      rw [b_and _ _ (by omega) (by omega), em]
      refine Ev.pos ?_ (Ev.const (by simp [ints]))
      have : mk n (fun a => isFirst f u a && isFirst f v a) = 0 := Nat.eq_of_testBit_eq fun i => by
        rw [testBit_mk, Nat.zero_testBit]
        by_cases hi : i < n
        · have := fun h => hc ⟨i, hi, h⟩
          simp only [hi, decide_true, Bool.true_and]
          simpa using this
        · simp [hi]
      rw [this]; rfl
theorem meet_ev (n : Nat) (hn : n ≤ 8) (f : Nat → Nat → Bool) (u v : List Nat) (hl : u.length ≤ 1000000) (hv : v.length ≤ 1000000) (hu : ∀ x ∈ u, x < n) (hw : ∀ x ∈ v, x < n) :
    ∃ p a b, Meets f u v p a b ∧ Ev (fun k => impl_ties_meet.f k (mat n f) (ints u) (ints v)) (ints p, ints a, ints b) := by
  obtain ⟨p, a, b, h1, h2⟩ := meet_l0 n hn f _ u v [] rfl hv (by simpa using hl) hu hw
  refine ⟨p, a, b, h1, ?_⟩
  simp only [impl_ties_meet.f]
  simpa using h2
theorem maskOf_l0 (n : Nat) (hn : n ≤ 24) : ∀ (suf pre : List Nat), (pre ++ suf).length ≤ 1000000 → (∀ x ∈ pre ++ suf, x < n) →
    Ev (fun k => impl_maskOf.l0 k ((mk n (fun a => decide (a ∈ pre)) : Nat) : Int) (ints (pre ++ suf)) ((pre ++ suf).length : Int) (pre.length : Int)) ((mk n (fun a => decide (a ∈ pre ++ suf)) : Nat) : Int) := by
  intro suf
  induction suf with
  | nil =>
    intro pre hl hw
    refine Ev.succ ?_
    simp only [impl_maskOf.l0]
    exact Ev.neg (by simp) (Ev.const (by simp))
  | cons x suf ih =>
    intro pre hl hw
    have hx : x < n := mem_mid hw
    have hl' : pre.length + suf.length + 1 ≤ 1000000 := by simpa [Nat.add_assoc] using hl
    have i1 := ih (pre ++ [x]) (by simpa using hl) (by simpa using hw)
    simp only [List.append_assoc, List.cons_append, List.nil_append] at i1
    rw [show (pre ++ [x]).length = pre.length + 1 by simp] at i1
    have h1 := mk_lt n (fun a => decide (a ∈ pre))
    have h4 : (2 : Nat) ^ n ≤ 2 ^ 24 := pow24 (by omega)
    have h5 : (2 : Nat) ^ x ≤ 2 ^ 24 := pow24 (by omega)
    have eb : mk n (fun a => decide (a ∈ pre ++ [x])) = mk n (fun a => decide (a ∈ pre)) ||| 2 ^ x := bits_ext fun i => by
      rw [Nat.testBit_or, testBit_mk, testBit_mk, testBit_one]
      by_cases hi : i < n
      · by_cases e : x = i
        · subst e; simp [hi]
        · simp [hi, e, show ¬ i = x from fun h => e h.symm]
      · simp [hi, show ¬ x = i by omega]
    rw [eb] at i1
    refine Ev.succ ?_
    simp only [impl_maskOf.l0]
    refine Ev.pos (by simp; omega) (Ev.pos (by omega) (Ev.pos (by simp; omega) ?_))
    rw [rd_mid, one_eq x (by omega)]
    refine Ev.some_bind ?_
    rw [b_or _ _ (by omega) (by omega), w64' (by omega)]
    exact i1
theorem maskOf_ev (n : Nat) (hn : n ≤ 24) (w : List Nat) (hl : w.length ≤ 1000000) (hw : ∀ x ∈ w, x < n) : Ev (fun k => impl_maskOf.f k (ints w)) ((mk n (fun a => decide (a ∈ w)) : Nat) : Int) := by
  simp only [impl_maskOf.f]
  have := maskOf_l0 n hn w [] hl hw
  have e1 : mk n (fun a => decide (a ∈ ([] : List Nat))) = 0 := Nat.eq_of_testBit_eq fun i => by rw [testBit_mk]; simp
  rw [e1] at this
  simpa using this
theorem apart_ev (n : Nat) (hn : n ≤ 8) (f : Nat → Nat → Bool) (u v : List Nat) (hv : v.length ≤ 1000000) (hu : ∀ x ∈ u, x < n) (hw : ∀ x ∈ v, x < n) : Ev (fun k => impl_ties_apart.f k (mat n f) (ints u) (ints v)) (apartP f u v) := by
  simp only [impl_ties_apart.f]
  refine Ev.bind (maskOf_ev n (by omega) v hv hw) (Ev.const ?_)
  rw [if_pos]
  · congr 1
    rw [Bool.eq_iff_iff, apartP_iff, List.all_eq_true]
    have h4 := mk_lt n (fun a => decide (a ∈ v))
    have h5 : (2 : Nat) ^ n ≤ 2 ^ 24 := pow24 (by omega)
    have key : ∀ a, a < n → ((mk n (f a) &&& mk n (fun b => decide (b ∈ v))) = 0 ↔ ∀ b ∈ v, f a b = false) := fun a ha => by
      constructor
      · intro h b hb
        have := congrArg (fun m => m.testBit b) h
        simp only [Nat.testBit_and, testBit_mk, Nat.zero_testBit] at this
        simpa [hw b hb, hb] using this
      · intro h
        refine Nat.eq_of_testBit_eq fun b => ?_
        rw [Nat.testBit_and, testBit_mk, testBit_mk, Nat.zero_testBit]
        by_cases hb : b ∈ v
        · simp [h b hb]
        · simp [hb]
    constructor
    · intro h a ha
      have h6 := h (a : Int) (List.mem_map.2 ⟨a, ha, rfl⟩)
      have h7 := mk_lt n (f a)
      rw [rd_mat n f a (hu a ha), b_and _ _ (by omega) (by omega), decide_eq_true_eq] at h6
      exact (key a (hu a ha)).1 (by omega)
    · intro h x hx
      obtain ⟨a, ha, rfl⟩ := List.mem_map.1 hx
      have h7 := mk_lt n (f a)
      rw [rd_mat n f a (hu a ha), b_and _ _ (by omega) (by omega), decide_eq_true_eq, (key a (hu a ha)).2 (h a ha)]
      rfl
  · rw [List.all_eq_true]
    intro x hx
    obtain ⟨a, ha, rfl⟩ := List.mem_map.1 hx
    have := hu a ha
    simp; omega
theorem limited_ev (n : Nat) (hn : n ≤ 8) (f : Nat → Nat → Bool) (w : List Nat) (hl : w.length ≤ 1000000) (hw : ∀ x ∈ w, x < n) : Ev (fun k => impl_ties_limited.f k (mat n f) (ints w)) (if 24 < w.length then ([], 3) else (ints (normalP f n w), 0)) := by
  simp only [impl_ties_limited.f]
  refine Ev.ite (fun c => ?_) (fun c => ?_)
  · rw [if_pos (by simp at c; omega)]
    exact Ev.now _
  · rw [if_neg (by simp at c; omega)]
    exact Ev.bind (normal_ev n hn f w hl hw) (Ev.now _)
theorem l05Join_ev (n : Nat) (hn : n ≤ 24) (f : Nat → Nat → Bool) (u v : List Nat) (hl : u.length ≤ 100000) (hv : v.length ≤ 100000) (hu : ∀ x ∈ u, x < n) (hw : ∀ x ∈ v, x < n) :
    ∃ p a b, Meets f u v p a b ∧ Ev (fun k => spec_l05Join.f k (n : Int) (mat n f) (ints u) (ints v)) (if apartP f a b = true then (ints (p ++ a ++ b), true) else ([], false)) := by
  obtain ⟨p, a, b, h, h1⟩ := l05Meet_ev n hn f u v (by omega) (by omega) hu hw
  have hp : ∀ x ∈ p, x < n := fun x hx => hu x (cutP_mem f h.1 x hx)
  have ha : ∀ x ∈ a, x < n := fun x hx => hu x (cutP_sub f h.1 x hx)
  have hb : ∀ x ∈ b, x < n := fun x hx => hw x (cutP_sub f h.2.1 x hx)
  have l1 := cutP_length f h.1
  have l2 := cutP_length f h.2.1
  have c1 := l05Cut_ev n hn f p u (by omega) (by omega) hp hu
  have c2 := l05Cut_ev n hn f p v (by omega) (by omega) hp hw
  unfold cutR at c1 c2
  rw [h.1] at c1
  rw [h.2.1] at c2
  refine ⟨p, a, b, h, ?_⟩
  simp only [spec_l05Join.f]
  refine Ev.bind h1 (Ev.bind c1 (Ev.bind c2 (Ev.bind (l05Independent_ev n hn f a b (by omega) (by omega) ha hb) ?_)))
  by_cases c : apartP f a b = true
  · refine Ev.val (Ev.pos c (Ev.pos (by simp; omega) (Ev.some_bind (Ev.pos (by simp; omega) (Ev.now _))))) ?_
    rw [if_pos c, ← ints_append, ← ints_append]
  · refine Ev.val (Ev.neg c (Ev.now _)) ?_
    rw [if_neg c]
theorem residual_ev (n : Nat) (hn : n ≤ 8) (f : Nat → Nat → Bool) (u v : List Nat) (hl : u.length ≤ 100000) (hv : v.length ≤ 100000) (hu : ∀ x ∈ u, x < n) (hw : ∀ x ∈ v, x < n) :
    ∃ p a b, Meets f u v p a b ∧ Ev (fun k => impl_ties_residual.f k (mat n f) (ints u) (ints v)) (ints b, apartP f a b) := by
  obtain ⟨p, a, b, h, h1⟩ := meet_ev n hn f u v (by omega) (by omega) hu hw
  have ha : ∀ x ∈ a, x < n := fun x hx => hu x (cutP_sub f h.1 x hx)
  have hb : ∀ x ∈ b, x < n := fun x hx => hw x (cutP_sub f h.2.1 x hx)
  have l2 := cutP_length f h.2.1
  refine ⟨p, a, b, h, ?_⟩
  simp only [impl_ties_residual.f]
  exact Ev.bind h1 (Ev.bind (apart_ev n hn f a b (by omega) ha hb) (Ev.now _))
theorem check_ok {n : Nat} {D : List Int} (hA : Alpha (n : Int) D) (ws : List (List Int)) (h : ∀ w ∈ ws, Word (n : Int) w) : Ev (fun k => impl_checkWords.f k (n : Int) D ws) 0 := by
  have := checkWords_ev (n : Int) D ws
  rwa [if_pos hA, if_pos h] at this
theorem check_1 {n : Nat} {f : Nat → Nat → Bool} (hA : Alpha (n : Int) (mat n f)) {u : List Nat} (hl : u.length ≤ 24) (hu : ∀ x ∈ u, x < n) : Ev (fun k => impl_checkWords.f k (n : Int) (mat n f) [ints u]) 0 :=
  check_ok hA _ fun w hw => by rw [List.mem_singleton.1 hw]; exact Word.of hl hu
theorem check_2 {n : Nat} {f : Nat → Nat → Bool} (hA : Alpha (n : Int) (mat n f)) {u v : List Nat} (hl : u.length ≤ 24) (hu : ∀ x ∈ u, x < n) (hl2 : v.length ≤ 24) (hv : ∀ x ∈ v, x < n) : Ev (fun k => impl_checkWords.f k (n : Int) (mat n f) [ints u, ints v]) 0 :=
  check_ok hA _ fun w hw => by
    rcases List.mem_cons.1 hw with rfl | hw
    · exact Word.of hl hu
    · rw [List.mem_singleton.1 hw]; exact Word.of hl2 hv
theorem eqInt64SS_l0 (x : List (List Int)) (hx : x.length ≤ 2000000) (hr : ∀ r ∈ x, r.length ≤ 2000000) : ∀ (d i : Nat), i + d = x.length → Ev (fun k => laws_eqInt64SS.l0 k x x (i : Int)) true := by
  intro d
  induction d with
  | zero =>
    intro i hi
    refine Ev.succ ?_
    simp only [laws_eqInt64SS.l0]
    exact Ev.neg (by omega) (Ev.now _)
  | succ d ih =>
    intro i hi
    refine Ev.succ ?_
    simp only [laws_eqInt64SS.l0]
    have hm : rd_L1 x (i : Int) ∈ x := by
      simp only [rd_L1, Int.toNat_natCast]
      rw [List.getD_eq_getElem?_getD, List.getElem?_eq_getElem (by omega)]
      simp
    refine Ev.pos (by omega) (Ev.pos (by omega) (Ev.pos (by omega) (Ev.bind (eqInt64S_ev _ (by have := hr _ hm; omega)) (Ev.pos rfl ?_))))
    rw [w64' (by omega), show (i : Int) + 1 = ((i + 1 : Nat) : Int) by omega]
    exact ih (i + 1) (by omega)
theorem eqInt64SS_ev (x : List (List Int)) (hx : x.length ≤ 1000000) (hr : ∀ r ∈ x, r.length ≤ 1000000) : Ev (fun k => laws_eqInt64SS.f k x x) true := by
  simp only [laws_eqInt64SS.f]
  exact Ev.pos trivial (eqInt64SS_l0 x (by omega) (fun r h => by have := hr r h; omega) x.length 0 (by omega))
theorem eqInt64SS_big (x : List (List Int)) (hx : x.length ≤ 2000000) (hr : ∀ r ∈ x, r.length ≤ 2000000) : Ev (fun k => laws_eqInt64SS.f k x x) true := by
  simp only [laws_eqInt64SS.f]
  exact Ev.pos trivial (eqInt64SS_l0 x hx hr x.length 0 (by omega))
theorem markInt64SS_l0 : ∀ (suf pre : List (List Int)) (c : Int), (pre ++ suf).length ≤ 2000000 → (∀ x ∈ suf, x.length ≤ 2000000) → 0 ≤ c → c + 2000000 * suf.length ≤ 9000000000000000 → Ev (fun k => laws_markInt64SS.l0 k (pre ++ suf) c (pre.length : Int)) (c + lenS suf, pre ++ marksS suf c) := by
  intro suf
  induction suf with
  | nil =>
    intro pre c hl hx h0 h1
    refine Ev.succ ?_
    simp only [laws_markInt64SS.l0]
    refine Ev.neg (by simp) ?_
    have e : c + (lenS [] : Int) = c := by simp [lenS]
    rw [e]
    exact Ev.now _
  | cons x suf ih =>
    intro pre c hl hx h0 h1
    have hx0 := hx x (List.mem_cons_self ..)
    simp only [List.length_append, List.length_cons] at hl h1
    refine Ev.succ ?_
    simp only [laws_markInt64SS.l0]
    have g : (pre ++ x :: suf).getD ((pre.length : Int)).toNat ([] : List Int) = x := by rw [Int.toNat_natCast, List.getD_eq_getElem?_getD]; simp
    refine Ev.pos (by simp; omega) (Ev.pos (by omega) ?_)
    rw [g]
    refine Ev.bind (markInt64S_ev x c (by omega) h0 (by omega)) ?_
    simp only []
    rw [w64' (by omega), Int.toNat_natCast, show (pre ++ x :: suf).set pre.length (marks x 0 c) = (pre ++ [marks x 0 c]) ++ suf by simp, show (pre.length : Int) + 1 = (((pre ++ [marks x 0 c]).length : Nat) : Int) by simp]
    have := ih (pre ++ [marks x 0 c]) (c + x.length) (by simp; omega) (fun y hy => hx y (List.mem_cons_of_mem _ hy)) (by omega) (by omega)
    have e : c + (x.length : Int) + (lenS suf : Int) = c + (lenS (x :: suf) : Int) := by simp [lenS]; omega
    have e2 : pre ++ [marks x 0 c] ++ marksS suf (c + x.length) = pre ++ marksS (x :: suf) c := by simp [marksS]
    rw [e, e2] at this
    exact this
theorem markInt64SS_ev (x : List (List Int)) (c : Int) (hx : x.length ≤ 1000000) (hr : ∀ r ∈ x, r.length ≤ 1000000) (h0 : 0 ≤ c) (h1 : c ≤ 1000000000000) : Ev (fun k => laws_markInt64SS.f k x c) (c + lenS x, marksS x c) := by
  simp only [laws_markInt64SS.f]
  exact markInt64SS_l0 x [] c (by simp; omega) (fun r h => by have := hr r h; omega) h0 (by omega)
theorem markInt64SS_big (x : List (List Int)) (c : Int) (hx : x.length ≤ 2000000) (hr : ∀ r ∈ x, r.length ≤ 2000000) (h0 : 0 ≤ c) (h1 : c ≤ 1000000000000) : Ev (fun k => laws_markInt64SS.f k x c) (c + lenS x, marksS x c) := by
  simp only [laws_markInt64SS.f]
  exact markInt64SS_l0 x [] c (by simpa using hx) hr h0 (by omega)
end Go.Proofs.YthgapkbkhoeleaaDoor.PAll
