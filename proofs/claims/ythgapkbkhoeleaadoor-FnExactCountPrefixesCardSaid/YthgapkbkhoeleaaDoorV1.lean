import Derived.Test.YthgapkbkhoeleaaDoorPAllx1
import Derived.Test.YthgapkbkhoeleaaDoorPAllx2
import Derived.Test.YthgapkbkhoeleaaDoorPAllx3
import Derived.Test.YthgapkbkhoeleaaDoorV0
import Derived.Test.YthgapkbkhoeleaaDoorQBase
import Derived.Test.YthgapkbkhoeleaaDoorQMap
import Derived.Test.YthgapkbkhoeleaaDoorQMask
import Derived.Test.YthgapkbkhoeleaaDoorQMeet
import Derived.Test.YthgapkbkhoeleaaDoorQOrder
import Derived.Test.YthgapkbkhoeleaaDoorQRev
import Derived.Test.YthgapkbkhoeleaaDoorQShort
import Derived.Test.YthgapkbkhoeleaaDoorQTab
import Derived.Test.YthgapkbkhoeleaaDoorQTrace
import Derived.Test.YthgapkbkhoeleaaDoorQWide
set_option linter.unusedVariables false
set_option linter.unusedSimpArgs false
namespace Go.Proofs.YthgapkbkhoeleaaDoor.PAll
open Go.RowKit Go.Proofs.YthgapkbkhoeleaaDoorW.PrintWords Go.Proofs.YthgapkbkhoeleaaDoorW.PrintMore Go.Proofs.YthgapkbkhoeleaaDoor.Q
theorem toInt64S_l0 (x : List Int) (hx : x.length ≤ 17592186044416) : ∀ (d i : Nat) (acc : List Int), i + d = x.length → acc.length = x.length → (∀ j, j < i → acc[j]? = x[j]?) →
    Ev (fun k => laws_toInt64S.l0 k x acc i) x := by
  intro d
  induction d with
  | zero =>
    intro i acc hi hl hp
    refine Ev.succ ?_
    simp only [laws_toInt64S.l0]
    refine Ev.neg (by omega) (Ev.const ?_)
    congr 1
    apply List.ext_getElem? 
    intro j
    by_cases hj : j < i
    · exact hp j hj
    · rw [List.getElem?_eq_none (by omega), List.getElem?_eq_none (by omega)]
  | succ d ih =>
    intro i acc hi hl hp
    refine Ev.succ ?_
    simp only [laws_toInt64S.l0]
    refine Ev.pos (by omega) (Ev.pos (by omega) (Ev.pos (by omega) ?_))
    rw [w64' (by omega)]
    refine Ev.congr (fun k => ?_) (ih (i + 1) (acc.set i x[i]) (by omega) (by simpa using hl) ?_)
    · rw [rd_lt x i (by omega)]
      simp
    · intro j hj
      by_cases e : j = i
      · subst e
        simp [hl, show j < x.length by omega]
      · rw [List.getElem?_set_ne (by omega)]
        exact hp j (by omega)

theorem toInt64S_ev (x : List Int) (hx : x.length ≤ 17592186044416) : Ev (fun k => laws_toInt64S.f k x) x := by
  simp only [laws_toInt64S.f]
  refine Ev.pos (by omega) (Ev.pos (by omega) ?_)
  exact toInt64S_l0 x hx x.length 0 _ (by omega) (by simp) (by intro j hj; omega)
theorem eqInt64S_l0 (x : List Int) (hx : x.length ≤ 17592186044416) : ∀ (d i : Nat), i + d = x.length → Ev (fun k => laws_eqInt64S.l0 k x x i) true := by
  intro d
  induction d with
  | zero =>
    intro i hi
    refine Ev.succ ?_
    simp only [laws_eqInt64S.l0]
    exact Ev.neg (by omega) (Ev.now _)
  | succ d ih =>
    intro i hi
    refine Ev.succ ?_
    simp only [laws_eqInt64S.l0]
    refine Ev.pos (by omega) (Ev.pos (by omega) (Ev.pos (by omega) (Ev.pos (by simp) ?_)))
    rw [w64' (by omega)]
    exact ih (i + 1) (by omega)

theorem eqInt64S_ev (x : List Int) (hx : x.length ≤ 17592186044416) : Ev (fun k => laws_eqInt64S.f k x x) true := by
  simp only [laws_eqInt64S.f]
  exact Ev.pos (by simp) (eqInt64S_l0 x hx x.length 0 (by omega))
theorem szInt64S_eq (l : List Int) (a : Int) (h0 : 0 ≤ a) (h1 : a ≤ 1048576) (hl : l.length ≤ 9223372036854775807) : laws_szInt64S.f l a = some (if (l.length : Int) ≤ a then a - (l.length : Int) else -1) := by
  unfold laws_szInt64S.f
  rw [w64 (by omega) (by omega)]
  by_cases h : (l.length : Int) ≤ a
  · rw [if_pos h, if_neg (by omega)]
  · rw [if_neg h, if_pos (by omega)]
theorem szAlphabet_eq (n : Int) (l : List Int) (a : Int) (h0 : 0 ≤ a) (h1 : a ≤ 1048576) (hl : l.length ≤ 9223372036854775807) : laws_szAlphabet.f n l a = some (if (l.length : Int) ≤ a then a - (l.length : Int) else -1) := by
  unfold laws_szAlphabet.f
  rw [szInt64S_eq l a h0 h1 hl]
  simp only [Option.bind_some]
  by_cases h : (l.length : Int) ≤ a
  · rw [if_pos h, if_neg (by omega)]
  · rw [if_neg h, if_pos (by omega)]
theorem toAlphabet_ev (n : Int) (l : List Int) (hl : l.length ≤ 17592186044416) : Ev (fun k => laws_toAlphabet.f k n l) (n, l) := by
  simp only [laws_toAlphabet.f]
  exact Ev.bind (toInt64S_ev l hl) (Ev.now _)
theorem eqAlphabet_ev (n : Int) (l : List Int) (hl : l.length ≤ 17592186044416) : Ev (fun k => laws_eqAlphabet.f k n l n l) true := by
  simp only [laws_eqAlphabet.f]
  exact Ev.pos (by simp) (Ev.bind (eqInt64S_ev l hl) (Ev.pos rfl (Ev.now _)))
theorem l01In_eq (a lo hi : Int) : spec_l01In.f a lo hi = some (decide (lo ≤ a ∧ a ≤ hi)) := by
  unfold spec_l01In.f
  by_cases h : lo ≤ a
  · rw [if_pos h]; simp [h]
  · rw [if_neg h]; simp [h]
theorem inRange_eq (a lo hi : Int) : impl_inRange.f a lo hi = some (decide (lo ≤ a ∧ a ≤ hi)) := by
  unfold impl_inRange.f
  by_cases h : lo ≤ a
  · rw [if_pos h]; simp [h]
  · rw [if_neg h]; simp [h]
theorem l01One_eq (n : Nat) (h : n ≤ 61) : spec_l01One.f (n : Int) = some ((2 ^ n : Nat) : Int) := by
  unfold spec_l01One.f
  rw [u64_nat n (by omega), if_pos (by omega), shl_one n h]
theorem l01Full_eq (n : Nat) (h : n ≤ 61) : spec_l01Full.f (n : Int) = some ((2 ^ n - 1 : Nat) : Int) := by
  unfold spec_l01Full.f
  rw [l01One_eq n h]
  have h1 : 0 < 2 ^ n := Nat.two_pow_pos n
  have h2 : (2 : Nat) ^ n ≤ 2 ^ 61 := Nat.pow_le_pow_right (by decide) h
  simp only [Option.bind_some]
  rw [w64' (by omega)]
  congr 1
  omega
theorem l01Bit_eq (m i : Nat) (hm : m < 2 ^ 62) (h : i ≤ 64) : spec_l01Bit.f (m : Int) (i : Int) = some (m.testBit i) := by
  unfold spec_l01Bit.f
  rw [u64_nat i (by omega), if_pos (by omega), bit_at m i hm h]
theorem one_eq (n : Nat) (h : n ≤ 61) : impl_one.f (n : Int) = some ((2 ^ n : Nat) : Int) := by
  unfold impl_one.f
  rw [if_pos (by omega), shl_one n h]
theorem has_eq (m i : Nat) (hm : m < 2 ^ 62) (h : i ≤ 64) : impl_has.f (m : Int) (i : Int) = some (m.testBit i) := by
  unfold impl_has.f
  rw [if_pos (by omega), bit_at m i hm h]
theorem least_eq (m : Nat) (hm : m < 2 ^ 62) : impl_least.f (m : Int) = some ((Lib.ctz 64 m : Nat) : Int) := by
  unfold impl_least.f bits_TrailingZeros64.f
  rw [u64_nat m (by omega), if_pos (by omega), Int.toNat_natCast]
  rfl
theorem members_l0 : ∀ (N m : Nat) (acc : List Int), m ≤ N → m < 2 ^ 62 → acc.length + (bitsOf m).length ≤ 1000 → Ev (fun k => impl_members.l0 k (m : Int) acc) (acc ++ intsOf m) := by
  intro N
  induction N with
  | zero =>
    intro m acc hN hm hl
    obtain rfl : m = 0 := by omega
    refine Ev.succ ?_
    simp only [impl_members.l0]
    refine Ev.pos (by simp) (Ev.const ?_)
    simp [intsOf, bitsOf_zero]
  | succ N ih =>
    intro m acc hN hm hl
    refine Ev.succ ?_
    simp only [impl_members.l0]
    by_cases h0 : m = 0
    · subst h0
      refine Ev.pos (by simp) (Ev.const ?_)
      simp [intsOf, bitsOf_zero]
    · rw [bitsOf_cons m h0 (by omega)] at hl
      simp only [List.length_cons] at hl
      refine Ev.neg (by omega) ?_
      rw [least_eq m hm]
      refine Ev.some_bind (Ev.pos (by omega) ?_)
      have hlt := and_pred_lt m h0
      rw [w64' (by omega), show (m : Int) - 1 = ((m - 1 : Nat) : Int) by omega, b_and m (m - 1) hm (by omega)]
      refine Ev.val (ih (m &&& (m - 1)) (acc ++ [((Lib.ctz 64 m : Nat) : Int)]) (by omega) (by omega) (by simp; omega)) ?_
      unfold intsOf
      rw [bitsOf_cons m h0 (by omega)]
      simp
theorem bitsOf_length (m : Nat) : (bitsOf m).length ≤ 64 := by
  unfold bitsOf
  have := List.length_filter_le (fun i => m.testBit i) (List.range 64)
  simpa using this
theorem members_ev (m : Nat) (hm : m < 2 ^ 62) : Ev (fun k => impl_members.f k (m : Int)) (intsOf m) := by
  simp only [impl_members.f]
  exact Ev.val (members_l0 m m [] (Nat.le_refl _) hm (by have := bitsOf_length m; simp; omega)) (by simp)
theorem l01Masks_l0 (n : Nat) (hn : n ≤ 61) (l : List Int) (hl : l.length ≤ 17592186044416) : ∀ (d i : Nat), i + d = l.length → (∀ j (h : j < l.length), j < i → 0 ≤ l[j] ∧ l[j] ≤ ((2 ^ n - 1 : Nat) : Int)) →
    Ev (fun k => spec_l01Masks.l0 k (n : Int) l i) (decide (∀ x ∈ l, 0 ≤ x ∧ x ≤ ((2 ^ n - 1 : Nat) : Int))) := by
  intro d
  induction d with
  | zero =>
    intro i hi hp
    refine Ev.succ ?_
    simp only [spec_l01Masks.l0]
    refine Ev.neg (by omega) (Ev.const ?_)
    rw [decide_eq_true fun x hx => ?_]
    obtain ⟨j, hj, rfl⟩ := List.getElem_of_mem hx
    exact hp j hj (by omega)
  | succ d ih =>
    intro i hi hp
    refine Ev.succ ?_
    simp only [spec_l01Masks.l0, l01Full_eq n hn, l01In_eq]
    refine Ev.pos (by omega) (Ev.pos (by omega) (Ev.some_bind (Ev.some_bind ?_)))
    rw [rd_lt l i (by omega)]
    simp only [decide_eq_true_eq]
    refine Ev.ite (fun c => ?_) (fun c => ?_)
    · rw [w64' (by omega)]
      refine ih (i + 1) (by omega) (fun j h hji => ?_)
      by_cases e : j = i
      · subst e; exact c
      · exact hp j h (by omega)
    · refine Ev.const ?_
      rw [decide_eq_false fun h => c (h _ (List.getElem_mem (by omega)))]
theorem l01Masks_ev (n : Nat) (hn : n ≤ 61) (l : List Int) (hl : l.length ≤ 17592186044416) : Ev (fun k => spec_l01Masks.f k (n : Int) l) (decide (∀ x ∈ l, 0 ≤ x ∧ x ≤ ((2 ^ n - 1 : Nat) : Int))) := by
  simp only [spec_l01Masks.f]
  exact l01Masks_l0 n hn l hl l.length 0 (by omega) (by intro j h hj; omega)
theorem l02Is_loop (m : Nat) (hm : m ≤ 8) (f : Nat → Nat → Bool) : ∀ (d a : Nat), a + d = m → (∀ i, i < a → f i i = true ∧ ∀ k, k < m → f i k = f k i) →
    Ev (fun k => spec_l02Is.l0 k (a : Int) (m : Int) (mat m f)) (decide (∀ i, i < m → f i i = true ∧ ∀ k, k < m → f i k = f k i)) := by
  intro d
  induction d with
  | zero =>
    intro a ha hp
    refine Ev.succ ?_
    simp only [spec_l02Is.l0]
    refine Ev.neg (by omega) (Ev.const ?_)
    rw [decide_eq_true fun i hi => hp i (by omega)]
  | succ d ih =>
    intro a ha hp
    have hb : ∀ i k, i < m → k < m → spec_l01Bit.f (rd (mat m f) (i : Int)) (k : Int) = some (f i k) := fun i k hi hk => by
      rw [rd_mat m f i hi, l01Bit_eq _ k (by have := mk_lt m (f i); have := pow24 (show m ≤ 24 by omega); omega) (by omega), testBit_mk]
      simp [hk]
    refine Ev.succ ?_
    simp only [spec_l02Is.l0]
    refine Ev.pos (by omega) (Ev.pos (by omega) (Ev.pos (by simp; omega) ?_))
    rw [hb a a (by omega) (by omega)]
    refine Ev.some_bind ?_
    by_cases c : f a a = true
    · refine Ev.pos c ?_
      have inner : ∀ (e b : Nat), b + e = m → (∀ k, k < b → f a k = f k a) → Ev (fun k => spec_l02Is.l1 k (a : Int) (b : Int) (m : Int) (mat m f)) (decide (∀ i, i < m → f i i = true ∧ ∀ k, k < m → f i k = f k i)) := by
        intro e
        induction e with
        | zero =>
          intro b hbe hq
          refine Ev.succ ?_
          simp only [spec_l02Is.l1]
          refine Ev.neg (by omega) ?_
          rw [w64' (by omega)]
          refine ih (a + 1) (by omega) (fun i hi => ?_)
          by_cases e : i = a
          · subst e; exact ⟨c, fun k hk => hq k (by omega)⟩
          · exact hp i (by omega)
        | succ e ihe =>
          intro b hbe hq
          refine Ev.succ ?_
          simp only [spec_l02Is.l1]
          refine Ev.pos (by omega) (Ev.pos (by omega) (Ev.pos (by simp; omega) ?_))
          rw [hb a b (by omega) (by omega)]
          refine Ev.some_bind (Ev.pos (by omega) (Ev.pos (by simp; omega) ?_))
          rw [hb b a (by omega) (by omega)]
          refine Ev.some_bind ?_
          by_cases g : f a b = f b a
          · refine Ev.neg (by rw [g]; simp) ?_
            rw [w64' (by omega)]
            refine ihe (b + 1) (by omega) (fun k hk => ?_)
            by_cases e : k = b
            · subst e; exact g
            · exact hq k (by omega)
          · refine Ev.pos (by simpa using g) (Ev.const ?_)
            rw [decide_eq_false fun h => g ((h a (by omega)).2 b (by omega))]
      exact inner m 0 (by omega) (by intro k hk; omega)
    · refine Ev.neg c (Ev.const ?_)
      rw [decide_eq_false fun h => c (h a (by omega)).1]
theorem l02Is_ev (n : Int) (D : List Int) : Ev (fun k => spec_l02Is.f k n D) (decide (Alpha n D)) := by
  have hj : ∀ n D, ¬ Alpha n D → Ev (fun k => spec_l02Is.j0 k true n D) (decide (Alpha n D)) := fun n D h => by
    refine Ev.succ ?_
    simp only [spec_l02Is.j0]
    exact Ev.pos (by simp) (Ev.const (by rw [decide_eq_false h]))
  simp only [spec_l02Is.f, l01In_eq]
  refine Ev.some_bind ?_
  simp only [decide_eq_true_eq]
  refine Ev.ite (fun c1 => ?_) (fun c1 => hj n D fun h => c1 h.1)
  refine Ev.ite (fun c2 => ?_) (fun c2 => hj n D fun h => c2 h.2.1)
  obtain ⟨m, rfl⟩ := Int.eq_ofNat_of_zero_le c1.1
  have hl : D.length = m := by omega
  have h1 : 0 < 2 ^ m := Nat.two_pow_pos m
  refine Ev.bind (l01Masks_ev m (by omega) D (by omega)) ?_
  refine Ev.succ ?_
  simp only [spec_l02Is.j0]
  by_cases c3 : ∀ x ∈ D, 0 ≤ x ∧ x ≤ ((2 ^ m - 1 : Nat) : Int)
  · have c3' : ∀ x ∈ D, 0 ≤ x ∧ x < ((2 ^ D.length : Nat) : Int) := fun x hx => by have := c3 x hx; rw [hl]; omega
    have e : D = mat m (bitR D) := by have := eq_mat D c3'; rwa [hl] at this
    refine Ev.neg (by simpa using c3) ?_
    have := l02Is_loop m (by omega) (bitR D) m 0 (by omega) (by intro i hi; omega)
    rw [← e] at this
    refine Ev.val this ?_
    rw [decide_eq_decide]
    exact ⟨fun h => ⟨c1, c2, c3', fun a ha => ⟨(h a (by omega)).1, fun b hb => (h a (by omega)).2 b (by omega)⟩⟩, fun h a ha => ⟨(h.2.2.2 a (by omega)).1, fun b hb => (h.2.2.2 a (by omega)).2 b (by omega)⟩⟩
  · refine Ev.pos (by simpa using c3) (Ev.const ?_)
    rw [decide_eq_false fun h => c3 fun x hx => ?_]
    have := h.2.2.1 x hx
    rw [hl] at this
    omega
theorem IsRelation_eq (r : List Int) : impl_IsRelation.f r = some (decide (r.length ≤ 24 ∧ ∀ x ∈ r, 0 ≤ x ∧ x < ((2 ^ r.length : Nat) : Int))) := by
  unfold impl_IsRelation.f
  by_cases h : r.length ≤ 24
  · have h1 : 0 < 2 ^ r.length := Nat.two_pow_pos _
    have h2 := pow24 h
    rw [if_pos (by omega)]
    simp only [impl_length_int64.f, Option.bind_some, one_eq r.length (by omega), impl_allIn.f]
    rw [w64' (by omega)]
    congr 1
    rw [Bool.eq_iff_iff]
    simp only [List.all_eq_true, decide_eq_true_eq]
    exact ⟨fun g => ⟨h, fun x hx => by have := g x hx; omega⟩, fun g x hx => by have := g.2 x hx; omega⟩
  · rw [if_neg (by omega)]
    congr 1
    symm
    rw [decide_eq_false fun g => h g.1]
/-- one round for each row: bit i of the k-th mask -/
theorem converse_l1 (n : Nat) (hn : n ≤ 24) (r : List Int) (i : Nat) (hi : i < n) (L : Int) (R : List Int) (ms : List Nat) (hml : ms.length ≤ 64) (hms : ∀ x ∈ ms, x < n) :
    ∀ (d j : Nat) (g : Nat → Nat → Bool), j + d = ms.length → (Ev (fun k => impl_converse.l0 k (mat n fun a b => g a b || (decide (b = i) && decide (a ∈ ms.drop j))) r L ((i + 1 : Nat) : Int)) R) →
    Ev (fun k => impl_converse.l1 k (mat n g) (i : Int) r L (i : Int) (ints ms) (ms.length : Int) (j : Int)) R := by
  intro d
  induction d with
  | zero =>
    intro j g hj hR
    refine Ev.succ ?_
    simp only [impl_converse.l1]
    refine Ev.neg (by omega) ?_
    rw [w64' (by omega)]
    rw [List.drop_of_length_le (by omega)] at hR
    simpa using hR
  | succ d ih =>
    intro j g hj hR
    have hj' : j < ms.length := by omega
    have hx := hms _ (List.getElem_mem hj')
    refine Ev.succ ?_
    simp only [impl_converse.l1]
    refine Ev.pos (by omega) (Ev.pos (by omega) (Ev.pos (by simp; omega) ?_))
    rw [rd_ints ms j hj']
    refine Ev.pos (by omega) (Ev.pos (by simp; omega) ?_)
    rw [one_eq i (by omega), rd_mat n g _ hx]
    refine Ev.some_bind ?_
    have hg := mk_lt n (g ms[j])
    have h24 := pow24 hn
    have hp : (2 : Nat) ^ i < 2 ^ n := Nat.pow_lt_pow_right (by decide) hi
    rw [b_or _ _ (by omega) (by omega), w64' (by omega)]
    have e : (mat n g).set ((ms[j] : Int)).toNat (((mk n (g ms[j]) ||| 2 ^ i : Nat)) : Int) = mat n fun a b => g a b || (decide (b = i) && decide (a = ms[j])) := by
      rw [Int.toNat_natCast]
      apply List.ext_getElem
      · simp
      · intro q h1 h2
        have hq : q < n := by simpa using h1
        rw [List.getElem_set]
        by_cases e : ms[j] = q
        · rw [if_pos e]
          simp only [mat, List.getElem_map, List.getElem_range]
          congr 1
          refine bits_ext fun b => ?_
          rw [Nat.testBit_or, testBit_mk, testBit_mk, testBit_one, ← e]
          by_cases hb : b = i
          · subst hb; simp [hi]
          · simp [hb, show ¬ i = b from fun h => hb h.symm]
        · rw [if_neg e]
          simp only [mat, List.getElem_map, List.getElem_range]
          congr 1
          exact mk_congr fun b _ => by simp [show ¬ q = ms[j] from fun h => e h.symm]
    rw [e]
    refine ih (j + 1) _ (by omega) ?_
    have e2 : (fun a b => (g a b || (decide (b = i) && decide (a = ms[j]))) || (decide (b = i) && decide (a ∈ ms.drop (j + 1)))) = fun a b => g a b || (decide (b = i) && decide (a ∈ ms.drop j)) := by
      funext a b
      have hm : a ∈ ms.drop j ↔ a = ms[j] ∨ a ∈ ms.drop (j + 1) := by rw [List.drop_eq_getElem_cons hj', List.mem_cons]
      rw [Bool.eq_iff_iff]
      simp only [Bool.or_eq_true, Bool.and_eq_true, decide_eq_true_eq, hm]
      constructor
      · rintro ((h | ⟨h1, h2⟩) | ⟨h1, h2⟩)
        · exact .inl h
        · exact .inr ⟨h1, .inl h2⟩
        · exact .inr ⟨h1, .inr h2⟩
      · rintro (h | ⟨h1, h2 | h2⟩)
        · exact .inl (.inl h)
        · exact .inl (.inr ⟨h1, h2⟩)
        · exact .inr ⟨h1, h2⟩
    rw [e2]
    exact hR
theorem converse_l0 (n : Nat) (hn : n ≤ 24) (f : Nat → Nat → Bool) : ∀ (d i : Nat), i + d = n →
    Ev (fun k => impl_converse.l0 k (mat n fun a b => decide (b < i) && f b a) (mat n f) (n : Int) (i : Int)) (mat n fun a b => f b a) := by
  intro d
  induction d with
  | zero =>
    intro i hi
    refine Ev.succ ?_
    simp only [impl_converse.l0]
    refine Ev.neg (by omega) (Ev.const ?_)
    congr 1
    exact mat_congr fun a b ha hb => by simp [show b < i by omega]
  | succ d ih =>
    intro i hi
    refine Ev.succ ?_
    simp only [impl_converse.l0]
    refine Ev.pos (by omega) (Ev.pos (by omega) (Ev.pos (by simp; omega) ?_))
    have hlt := mk_lt n (f i)
    have h24 := pow24 hn
    have hmem : ∀ x, x ∈ bitsOf (mk n (f i)) ↔ x < n ∧ f i x = true := fun x => by
      rw [mem_bitsOf (by omega), testBit_mk]; simp
    refine Ev.bind (by rw [rd_mat n f i (by omega)]; exact members_ev _ (by omega)) ?_
    have := converse_l1 n hn (mat n f) i (by omega) (n : Int) (mat n fun a b => f b a) (bitsOf (mk n (f i))) (bitsOf_length _) (fun x hx => ((hmem x).1 hx).1) (bitsOf (mk n (f i))).length 0 (fun a b => decide (b < i) && f b a) (by omega) ?_
    · have e : intsOf (mk n (f i)) = ints (bitsOf (mk n (f i))) := rfl
      rw [e, ints_length]
      exact this
    · rw [List.drop_zero]
      have e : (mat n fun a b => decide (b < i) && f b a || (decide (b = i) && decide (a ∈ bitsOf (mk n (f i))))) = mat n fun a b => decide (b < i + 1) && f b a := by
        refine mat_congr fun a b ha hb => ?_
        rw [Bool.eq_iff_iff]
        simp only [Bool.or_eq_true, Bool.and_eq_true, decide_eq_true_eq, hmem]
        constructor
        · rintro (⟨h1, h2⟩ | ⟨rfl, _, h2⟩)
          · exact ⟨by omega, h2⟩
          · exact ⟨by omega, h2⟩
        · rintro ⟨h1, h2⟩
          by_cases e : b = i
          · subst e; exact .inr ⟨rfl, ha, h2⟩
          · exact .inl ⟨by omega, h2⟩
      rw [e]
      exact ih (i + 1) (by omega)
theorem converse_ev (n : Nat) (hn : n ≤ 24) (f : Nat → Nat → Bool) : Ev (fun k => impl_converse.f k (mat n f)) (mat n fun a b => f b a) := by
  simp only [impl_converse.f]
  refine Ev.pos (by omega) (Ev.pos (by simp; omega) ?_)
  have e : List.replicate (((mat n f).length : Int)).toNat (0 : Int) = mat n fun a b => decide (b < 0) && f b a := by
    rw [mat_length, Int.toNat_natCast]
    apply List.ext_getElem
    · simp
    · intro q h1 h2
      simp only [List.getElem_replicate, mat, List.getElem_map, List.getElem_range]
      rw [show mk n (fun b => decide (b < 0) && f b q) = 0 from bits_ext fun b => by rw [testBit_mk]; simp]
      rfl
  rw [e, mat_length]
  exact converse_l0 n hn f n 0 (by omega)
theorem IsAlphabet_loop (m : Nat) (hm : m ≤ 8) (f : Nat → Nat → Bool) : ∀ (d a : Nat), a + d = m → (∀ i, i < a → f i i = true ∧ ∀ k, k < m → f i k = f k i) →
    Ev (fun k => impl_IsAlphabet.l0 k (mat m fun a b => f b a) (m : Int) (a : Int) (m : Int) (mat m f)) (decide (∀ i, i < m → f i i = true ∧ ∀ k, k < m → f i k = f k i)) := by
  intro d
  induction d with
  | zero =>
    intro a ha hp
    refine Ev.succ ?_
    simp only [impl_IsAlphabet.l0]
    refine Ev.neg (by omega) (Ev.const ?_)
    rw [decide_eq_true fun i hi => hp i (by omega)]
  | succ d ih =>
    intro a ha hp
    refine Ev.succ ?_
    simp only [impl_IsAlphabet.l0]
    refine Ev.pos (by omega) (Ev.pos (by omega) (Ev.pos (by simp; omega) (Ev.pos (by simp; omega) ?_)))
    rw [rd_mat m _ a (by omega), rd_mat m f a (by omega)]
    have hlt := mk_lt m fun b => f b a
    have h24 := pow24 (show m ≤ 24 by omega)
    refine Ev.ite (fun c => ?_) (fun c => ?_)
    · have hc : ∀ k, k < m → f a k = f k a := fun k hk => by
        have := congrArg (fun z : Nat => z.testBit k) (Int.ofNat.inj c)
        simp only [testBit_mk, hk, decide_true, Bool.true_and] at this
        exact this.symm
      rw [has_eq _ a (by omega) (by omega), testBit_mk]
      refine Ev.some_bind ?_
      refine Ev.ite (fun g => ?_) (fun g => ?_)
      · rw [w64' (by omega)]
        refine ih (a + 1) (by omega) (fun i hi => ?_)
        by_cases e : i = a
        · subst e; exact ⟨by simpa [show i < m by omega] using g, hc⟩
        · exact hp i (by omega)
      · refine Ev.const ?_
        rw [decide_eq_false fun h => g (by simpa [show a < m by omega] using (h a (by omega)).1)]
    · refine Ev.const ?_
      rw [decide_eq_false fun h => c ?_]
      congr 1
      exact mk_congr fun k hk => ((h a (by omega)).2 k hk).symm
theorem IsAlphabet_ev (n : Int) (D : List Int) : Ev (fun k => impl_IsAlphabet.f k n D) (decide (Alpha n D)) := by
  have hj : ∀ n D, ¬ Alpha n D → Ev (fun k => impl_IsAlphabet.j0 k true n D) (decide (Alpha n D)) := fun n D h => by
    refine Ev.succ ?_
    simp only [impl_IsAlphabet.j0]
    exact Ev.pos (by simp) (Ev.const (by rw [decide_eq_false h]))
  simp only [impl_IsAlphabet.f, inRange_eq, impl_length_int64.f, IsRelation_eq]
  refine Ev.some_bind ?_
  simp only [decide_eq_true_eq]
  refine Ev.ite (fun c1 => Ev.some_bind ?_) (fun c1 => hj n D fun h => c1 h.1)
  refine Ev.ite (fun c2 => Ev.some_bind ?_) (fun c2 => hj n D fun h => c2 h.2.1)
  obtain ⟨m, rfl⟩ := Int.eq_ofNat_of_zero_le c1.1
  have hl : D.length = m := by omega
  by_cases c3 : ∀ x ∈ D, 0 ≤ x ∧ x < ((2 ^ D.length : Nat) : Int)
  · rw [decide_eq_true ⟨by omega, c3⟩]
    have e : D = mat m (bitR D) := by have := eq_mat D c3; rwa [hl] at this
    refine Ev.succ ?_
    simp only [impl_IsAlphabet.j0]
    refine Ev.neg (by simp) ?_
    have hc := converse_ev m (by omega) (bitR D)
    rw [← e] at hc
    refine Ev.bind hc ?_
    have := IsAlphabet_loop m (by omega) (bitR D) m 0 (by omega) (by intro i hi; omega)
    rw [← e] at this
    rw [mat_length]
    refine Ev.val this ?_
    rw [decide_eq_decide]
    exact ⟨fun h => ⟨c1, c2, c3, fun a ha => ⟨(h a (by omega)).1, fun b hb => (h a (by omega)).2 b (by omega)⟩⟩, fun h a ha => ⟨(h.2.2.2 a (by omega)).1, fun b hb => (h.2.2.2 a (by omega)).2 b (by omega)⟩⟩
  · rw [decide_eq_false fun h => c3 h.2]
    exact hj _ _ fun h => c3 h.2.2.1
theorem l03Word_l0 (n : Int) (hn : 0 ≤ n ∧ n ≤ 8) (w : List Int) (hw : w.length ≤ 24) : ∀ (d i : Nat), i + d = w.length → (∀ j (h : j < w.length), j < i → 0 ≤ w[j] ∧ w[j] ≤ n - 1) → Ev (fun k => spec_l03Word.l0 k n w i) (decide (Word n w)) := by
  intro d
  induction d with
  | zero =>
    intro i hi hp
    refine Ev.succ ?_
    simp only [spec_l03Word.l0]
    refine Ev.neg (by omega) (Ev.const ?_)
    have hW : Word n w := ⟨hw, fun x hx => by obtain ⟨j, hj, rfl⟩ := List.getElem_of_mem hx; exact hp j hj (by omega)⟩
    rw [decide_eq_true hW]
  | succ d ih =>
    intro i hi hp
    refine Ev.succ ?_
    simp only [spec_l03Word.l0, l01In_eq]
    refine Ev.pos (by omega) (Ev.pos (by omega) (Ev.some_bind ?_))
    rw [rd_lt w i (by omega), w64' (show -9000000000000000000 ≤ n - 1 ∧ n - 1 ≤ 9000000000000000000 by omega)]
    simp only [decide_eq_true_eq]
    refine Ev.ite (fun c => ?_) (fun c => ?_)
    · rw [w64' (by omega)]
      refine ih (i + 1) (by omega) (fun j h hji => ?_)
      by_cases e : j = i
      · subst e; exact c
      · exact hp j h (by omega)
    · refine Ev.const ?_
      rw [decide_eq_false fun h => c (h.2 _ (List.getElem_mem (by omega)))]
theorem l03Word_ev (n : Int) (hn : 0 ≤ n ∧ n ≤ 8) (w : List Int) : Ev (fun k => spec_l03Word.f k n w) (decide (Word n w)) := by
  simp only [spec_l03Word.f]
  refine Ev.ite (fun c => Ev.const ?_) (fun c => ?_)
  · rw [decide_eq_false fun h => by have := h.1; omega]
  · exact l03Word_l0 n hn w (by omega) w.length 0 (by omega) (by intro j h hj; omega)
theorem l03Code_ev (n : Int) (D u v : List Int) : Ev (fun k => spec_l03Code.f k n D u v) (if Alpha n D then (if Word n u ∧ Word n v then 0 else 2) else 1) := by
  simp only [spec_l03Code.f]
  refine Ev.bind (l02Is_ev n D) ?_
  simp only [decide_eq_true_eq]
  refine Ev.ite (fun c => ?_) (fun c => Ev.const (by rw [if_neg c]))
  rw [if_pos c]
  refine Ev.bind (l03Word_ev n c.1 u) ?_
  simp only [decide_eq_true_eq]
  refine Ev.ite (fun c1 => ?_) (fun c1 => Ev.const (by rw [if_neg fun h => c1 h.1]))
  refine Ev.bind (l03Word_ev n c.1 v) ?_
  simp only [decide_eq_true_eq]
  refine Ev.ite (fun c2 => Ev.const (by rw [if_pos ⟨c1, c2⟩])) (fun c2 => Ev.const (by rw [if_neg fun h => c2 h.2]))
theorem wordB_eq (n : Int) (hn : 0 ≤ n ∧ n ≤ 8) (w : List Int) : wordB n w = decide (Word n w) := by
  unfold wordB
  rw [Bool.eq_iff_iff, w64' (by omega)]
  rw [decide_eq_true_iff]
  simp [Word, List.all_eq_true]
theorem checkWords_ev (n : Int) (D : List Int) (ws : List (List Int)) : Ev (fun k => impl_checkWords.f k n D ws) (if Alpha n D then (if ∀ w ∈ ws, Word n w then 0 else 2) else 1) := by
  simp only [impl_checkWords.f]
  refine Ev.bind (IsAlphabet_ev n D) (Ev.const ?_)
  congr 1
  by_cases h : Alpha n D
  · rw [if_pos (by simpa using h), if_pos h]
    by_cases g : ∀ w ∈ ws, Word n w
    · rw [if_pos g, if_pos]
      rw [List.all_eq_true]
      exact fun w hw => by rw [wordB_eq n h.1]; simpa using g w hw
    · rw [if_neg g, if_neg]
      rw [List.all_eq_true]
      exact fun k => g fun w hw => by have := k w hw; rw [wordB_eq n h.1] at this; simpa using this
  · rw [if_neg (by simpa using h), if_neg h]
theorem l02Dep_eq (n : Nat) (hn : n ≤ 24) (f : Nat → Nat → Bool) (x : Int) (a b : Nat) (ha : a < n) (hb : b < n) : spec_l02Dep.f x (mat n f) (a : Int) (b : Int) = some (f a b) := by
  unfold spec_l02Dep.f
  have := mk_lt n (f a)
  have := pow24 hn
  rw [if_pos (by omega), if_pos (by simp; omega), rd_mat n f a ha, l01Bit_eq _ b (by omega) (by omega), testBit_mk]
  simp [hb]
theorem l01Own_eq (l : List Int) (h : l.length < 17592186044416) : spec_l01Own.f l = some l := by
  unfold spec_l01Own.f
  simp only [Option.bind_some, List.length_nil, List.nil_append]
  rw [if_pos (by omega)]
theorem l03First_l0 (n : Nat) (hn : n ≤ 24) (f : Nat → Nat → Bool) (a : Nat) (ha : a < n) : ∀ (suf pre : List Nat), (pre ++ suf).length ≤ 1000000 → (∀ x ∈ pre ++ suf, x < n) →
    Ev (fun k => spec_l03First.l0 k (ints (pre ++ suf)) (a : Int) (pre.length : Int) (n : Int) (mat n f)) (if isFirst f suf a = true then ((pre.length + suf.idxOf a : Nat) : Int) else -1) := by
  intro suf
  induction suf with
  | nil =>
    intro pre hl hw
    refine Ev.succ ?_
    simp only [spec_l03First.l0]
    exact Ev.neg (by simp) (Ev.const rfl)
  | cons b suf ih =>
    intro pre hl hw
    simp only [List.length_append, List.length_cons] at hl
    have hb : b < n := mem_mid hw
    refine Ev.succ ?_
    simp only [spec_l03First.l0]
    refine Ev.pos (by simp; omega) (Ev.pos (by omega) ?_)
    rw [rd_mid]
    refine Ev.ite (fun c => ?_) (fun c => ?_)
    · obtain rfl := Int.ofNat.inj c
      refine Ev.const ?_
      rw [if_pos (isFirst_head f b suf)]
      simp
    · have c' : ¬ b = a := fun e => c (by rw [e])
      rw [l02Dep_eq n hn f _ b a hb ha]
      refine Ev.some_bind (Ev.ite (fun g => ?_) (fun g => ?_))
      · refine Ev.const ?_
        rw [if_neg (by simp [isFirst, c', g])]
      · rw [w64' (by omega)]
        have := ih (pre ++ [b]) (by simp; omega) (by simpa using hw)
        simp only [List.append_assoc, List.cons_append, List.nil_append, List.length_append, List.length_cons, List.length_nil] at this
        refine Ev.val this ?_
        have e1 : isFirst f (b :: suf) a = isFirst f suf a := by simp [isFirst, c', g]
        rw [e1, idxOf_tail _ c']
        by_cases h : isFirst f suf a = true
        · rw [if_pos h, if_pos h]
          congr 1
          omega
        · rw [if_neg h, if_neg h]
theorem l03First_ev (n : Nat) (hn : n ≤ 24) (f : Nat → Nat → Bool) (w : List Nat) (hl : w.length ≤ 1000000) (hw : ∀ x ∈ w, x < n) (a : Nat) (ha : a < n) : Ev (fun k => spec_l03First.f k (n : Int) (mat n f) (ints w) (a : Int)) (fIdx f w a) := by
  simp only [spec_l03First.f]
  have := l03First_l0 n hn f a ha w [] hl hw
  simpa [fIdx] using this
theorem l03Without_eq (w : List Nat) (hl : w.length ≤ 1000000) (i : Nat) (hi : i < w.length) : spec_l03Without.f (ints w) (i : Int) = some (ints (w.eraseIdx i)) := by
  unfold spec_l03Without.f
  rw [if_pos (by omega), if_pos (by simp; omega), w64' (by omega), Int.toNat_natCast, l01Own_eq _ (by simp; omega)]
  simp only [Option.bind_some]
  rw [if_pos (by omega), if_pos (by simp; omega), show ((i : Int) + 1).toNat = i + 1 by omega, if_pos (by simp; omega), ← ints_eraseIdx, List.eraseIdx_eq_take_drop_succ]
theorem l03Without_first (f : Nat → Nat → Bool) (w : List Nat) (hl : w.length ≤ 1000000) (a : Nat) (h : isFirst f w a = true) : spec_l03Without.f (ints w) (fIdx f w a) = some (ints (w.erase a)) := by
  have hm := isFirst_mem f h
  unfold fIdx
  rw [if_pos h, l03Without_eq w hl _ (idxOf_lt hm), erase_idx hm]
theorem l03Normal_l0 (n : Nat) (hn : n ≤ 24) (f : Nat → Nat → Bool) : ∀ (L : Nat) (w : List Nat) (acc : List Int), w.length = L → acc.length + w.length ≤ 1000000 → (∀ x ∈ w, x < n) →
    Ev (fun k => spec_l03Normal.l0 k acc (ints w) (n : Int) (mat n f)) (acc ++ ints (normalP f n w)) := by
  intro L
  induction L with
  | zero =>
    intro w acc hL hl hw
    obtain rfl := List.eq_nil_of_length_eq_zero hL
    refine Ev.succ ?_
    simp only [spec_l03Normal.l0]
    refine Ev.neg (by simp [ints]) (Ev.const ?_)
    simp [normalP_nil, ints]
  | succ L ih =>
    intro w acc hL hl hw
    have hne : w ≠ [] := by rintro rfl; simp at hL
    obtain ⟨h1, h2, h3⟩ := least_first f hw hne
    rw [normalP_cons f hw hne]
    refine Ev.succ ?_
    simp only [spec_l03Normal.l0]
    refine Ev.pos (by simp; omega) ?_
    have inner : ∀ (d a : Nat), a + d = leastF (isFirst f w) n → Ev (fun k => spec_l03Normal.l1 k acc (ints w) (a : Int) (n : Int) (mat n f)) (acc ++ ints (leastF (isFirst f w) n :: normalP f n (w.erase (leastF (isFirst f w) n)))) := by
      intro d
      induction d with
      | zero =>
        intro a ha
        obtain rfl : a = leastF (isFirst f w) n := by omega
        refine Ev.succ ?_
        simp only [spec_l03Normal.l1]
        refine Ev.pos (by omega) (Ev.bind (l03First_ev n hn f w (by omega) hw _ h1) (Ev.pos (by unfold fIdx; rw [if_pos h2]; omega) (Ev.pos (by omega) ?_)))
        rw [l03Without_first f w (by omega) _ h2]
        refine Ev.some_bind ?_
        have he := length_erase f h2
        refine Ev.val (ih _ _ (by omega) (by simp; omega) (erase_lt hw)) ?_
        rw [ints_cons]
        simp
      | succ d ihd =>
        intro a ha
        refine Ev.succ ?_
        simp only [spec_l03Normal.l1]
        refine Ev.pos (by omega) (Ev.bind (l03First_ev n hn f w (by omega) hw a (by omega)) (Ev.neg (by unfold fIdx; rw [h3 a (by omega)]; simp) ?_))
        rw [w64' (by omega)]
        exact ihd (a + 1) (by omega)
    exact inner (leastF (isFirst f w) n) 0 (by omega)
theorem l03Normal_ev (n : Nat) (hn : n ≤ 24) (f : Nat → Nat → Bool) (w : List Nat) (hl : w.length ≤ 1000000) (hw : ∀ x ∈ w, x < n) : Ev (fun k => spec_l03Normal.f k (n : Int) (mat n f) (ints w)) (ints (normalP f n w)) := by
  simp only [spec_l03Normal.f]
  rw [l01Own_eq _ (by simp; omega)]
  refine Ev.some_bind (Ev.val (l03Normal_l0 n hn f _ w [] rfl (by simpa using hl) hw) (by simp))
theorem Index_l0 (a : Nat) : ∀ (suf pre : List Nat), (pre ++ suf).length ≤ 1000000 →
    Ev (fun k => slices_Index_int64_int64.l0 k (ints (pre ++ suf)) (a : Int) ((pre ++ suf).length : Int) (pre.length : Int)) (if a ∈ suf then ((pre.length + suf.idxOf a : Nat) : Int) else -1) := by
  intro suf
  induction suf with
  | nil =>
    intro pre hl
    refine Ev.succ ?_
    simp only [slices_Index_int64_int64.l0]
    exact Ev.neg (by simp) (Ev.const rfl)
  | cons b suf ih =>
    intro pre hl
    simp only [List.length_append, List.length_cons] at hl
    refine Ev.succ ?_
    simp only [slices_Index_int64_int64.l0]
    refine Ev.pos (by simp; omega) (Ev.pos (by omega) (Ev.pos (by simp; omega) ?_))
    rw [rd_mid]
    refine Ev.ite (fun c => ?_) (fun c => ?_)
    · obtain rfl := Int.ofNat.inj c
      refine Ev.const ?_
      simp
    · have c' : ¬ b = a := fun e => c (by rw [e])
      rw [w64' (by omega)]
      have := ih (pre ++ [b]) (by simp; omega)
      simp only [List.append_assoc, List.cons_append, List.nil_append, List.length_append, List.length_cons, List.length_nil] at this ⊢
      refine Ev.val this ?_
      rw [idxOf_tail _ c']
      have e1 : a ∈ b :: suf ↔ a ∈ suf := by simp [List.mem_cons, show ¬ a = b from fun e => c' e.symm]
      by_cases h : a ∈ suf
      · rw [if_pos h, if_pos (e1.2 h)]
        congr 1
        omega
      · rw [if_neg h, if_neg (fun k => h (e1.1 k))]
theorem Index_ev (w : List Nat) (hl : w.length ≤ 1000000) (a : Nat) : Ev (fun k => slices_Index_int64_int64.f k (ints w) (a : Int)) (if a ∈ w then ((w.idxOf a : Nat) : Int) else -1) := by
  simp only [slices_Index_int64_int64.f]
  have := Index_l0 a w [] hl
  simpa using this
theorem withoutFirst_ev (w : List Nat) (hl : w.length ≤ 1000000) (a : Nat) (h : a ∈ w) : Ev (fun k => impl_withoutFirst.f k (ints w) (a : Int)) (ints (w.erase a)) := by
  simp only [impl_withoutFirst.f]
  have hi := idxOf_lt h
  refine Ev.bind (Index_ev w hl a) ?_
  rw [if_pos h]
  refine Ev.pos (by omega) (Ev.pos (by simp; omega) ?_)
  rw [w64' (by omega)]
  refine Ev.pos (by omega) (Ev.pos (by simp; omega) ?_)
  rw [Int.toNat_natCast, show ((w.idxOf a : Int) + 1).toNat = w.idxOf a + 1 by omega]
  refine Ev.const ?_
  unfold slices_Concat_int64_int64.f
  rw [if_pos (by simp; omega), ← erase_idx h, ← ints_eraseIdx, List.eraseIdx_eq_take_drop_succ]
  simp
theorem isFirst_snoc (f : Nat → Nat → Bool) (w : List Nat) (x a : Nat) : isFirst f (w ++ [x]) a = (isFirst f w a || (decide (x = a) && w.all fun b => !f b a)) := by
  induction w with
  | nil => simp [isFirst]
  | cons b w ih =>
    simp only [List.cons_append, isFirst, ih, List.all_cons]
    cases decide (b = a) <;> cases f b a <;> cases isFirst f w a <;> simp
theorem firsts_l0 (n : Nat) (hn : n ≤ 8) (f : Nat → Nat → Bool) : ∀ (suf pre : List Nat), (pre ++ suf).length ≤ 1000000 → (∀ x ∈ pre ++ suf, x < n) →
    Ev (fun k => impl_ties_firsts.l0 k (mat n f) ((mk n (isFirst f pre) : Nat) : Int) ((mk n (fun a => pre.any fun b => f b a) : Nat) : Int) (ints (pre ++ suf)) ((pre ++ suf).length : Int) (pre.length : Int)) ((mk n (isFirst f (pre ++ suf)) : Nat) : Int) := by
  intro suf
  induction suf with
  | nil =>
    intro pre hl hw
    refine Ev.succ ?_
    simp only [impl_ties_firsts.l0]
    exact Ev.neg (by simp) (Ev.const (by simp))
  | cons x suf ih =>
    intro pre hl hw
    have hx : x < n := mem_mid hw
    have i1 := ih (pre ++ [x]) (by simpa using hl) (by simpa using hw)
    simp only [List.append_assoc, List.cons_append, List.nil_append] at i1
    rw [show (pre ++ [x]).length = pre.length + 1 by simp] at i1
    have hl' : pre.length + suf.length + 1 ≤ 1000000 := by simpa [Nat.add_assoc] using hl
    have h1 := mk_lt n (isFirst f pre)
    have h2 := mk_lt n (fun a => pre.any fun b => f b a)
    have h3 := mk_lt n (f x)
    have h4 : (2 : Nat) ^ n ≤ 2 ^ 24 := pow24 (by omega)
    have h5 : (2 : Nat) ^ x ≤ 2 ^ 24 := pow24 (by omega)
    have eb : mk n (fun a => (pre ++ [x]).any fun b => f b a) = mk n (fun a => pre.any fun b => f b a) ||| mk n (f x) := bits_ext fun i => by
      rw [Nat.testBit_or, testBit_mk, testBit_mk, testBit_mk]
      by_cases hi : i < n <;> simp [hi]
    rw [eb] at i1
    refine Ev.succ ?_
    simp only [impl_ties_firsts.l0]
    refine Ev.pos (by simp; omega) (Ev.pos (by omega) (Ev.pos (by simp; omega) ?_))
    rw [rd_mid, has_eq _ x (by omega) (by omega), rd_mat n f x hx, b_or _ _ (by omega) (by omega), testBit_mk]
    refine Ev.some_bind (Ev.ite (fun g => ?_) (fun g => ?_))
    · refine Ev.pos (by omega) (Ev.pos (by simp; omega) ?_)
      rw [w64' (by omega)]
      have eo : mk n (isFirst f (pre ++ [x])) = mk n (isFirst f pre) := mk_congr fun a _ => by
        rw [isFirst_snoc]
        by_cases e : x = a
        · subst e
          have : (pre.all fun b => !f b x) = false := by
            rw [← Bool.not_eq_true]
            simp [hx] at g
            obtain ⟨b, hb, hf⟩ := g
            intro h
            have := List.all_eq_true.1 h b hb
            simp [hf] at this
          rw [this]; simp
        · simp [e]
      rw [eo] at i1
      exact i1
    · rw [one_eq x (by omega)]
      refine Ev.some_bind (Ev.pos (by omega) (Ev.pos (by simp; omega) ?_))
      rw [w64' (by omega), b_or _ _ (by omega) (by omega)]
      have eo : mk n (isFirst f (pre ++ [x])) = mk n (isFirst f pre) ||| 2 ^ x := bits_ext fun i => by
        rw [Nat.testBit_or, testBit_mk, testBit_mk, testBit_one, isFirst_snoc]
        by_cases e : x = i
        · subst e
          have : (pre.all fun b => !f b x) = true := by
            rw [List.all_eq_true]
            intro b hb
            simp only [hx, decide_true, Bool.true_and] at g
            have := fun h => g (List.any_eq_true.2 ⟨b, hb, h⟩)
            simpa using this
          simp [hx, this]
        · simp [e]
      rw [eo] at i1
      exact i1
theorem firsts_ev (n : Nat) (hn : n ≤ 8) (f : Nat → Nat → Bool) (w : List Nat) (hl : w.length ≤ 1000000) (hw : ∀ x ∈ w, x < n) : Ev (fun k => impl_ties_firsts.f k (mat n f) (ints w)) ((mk n (isFirst f w) : Nat) : Int) := by
  simp only [impl_ties_firsts.f]
  have := firsts_l0 n hn f w [] hl hw
  have e1 : mk n (isFirst f []) = 0 := Nat.eq_of_testBit_eq fun i => by rw [testBit_mk]; simp [isFirst]
  have e2 : mk n (fun a => ([] : List Nat).any fun b => f b a) = 0 := Nat.eq_of_testBit_eq fun i => by rw [testBit_mk]; simp
  rw [e1, e2] at this
  simpa using this
theorem l01Below_ev (n : Nat) (hn : n ≤ 24) (f : Nat → Nat → Bool) (x : Nat) (hx : x < n) : Ev (fun k => spec_l01Below.f k (mat n f) (x : Int)) ((mk n (fun a => f a x) : Nat) : Int) := by
  have h24 := pow_lt62 hn
  have loop : ∀ (d i : Nat), i + d = n → Ev (fun k => spec_l01Below.l0 k (mat n f) (x : Int) ((mk n (fun a => decide (a < i) && f a x) : Nat) : Int) (i : Int)) ((mk n (fun a => f a x) : Nat) : Int) := by
    intro d
    induction d with
    | zero =>
      intro i hi
      refine Ev.succ ?_
      simp only [spec_l01Below.l0]
      refine Ev.neg (by simp; omega) (Ev.const ?_)
      rw [mk_congr (q := fun a => f a x) fun a ha => by simp [show a < i by omega]]
    | succ d ih =>
      intro i hi
      have i1 := ih (i + 1) (by omega)
      have h1 := mk_lt n (f i)
      have h2 := mk_lt n (fun a => decide (a < i) && f a x)
      have h3 : (2 : Nat) ^ i ≤ 2 ^ 24 := pow24 (by omega)
      refine Ev.succ ?_
      simp only [spec_l01Below.l0]
      refine Ev.pos (by simp; omega) (Ev.pos (by omega) ?_)
      rw [rd_mat n f i (by omega), l01Bit_eq _ x (mk62 (by omega) _) (by omega), testBit_mk]
      refine Ev.some_bind (Ev.ite (fun c => ?_) (fun c => ?_))
      · have c' : f i x = true := by simpa [hx] using c
        rw [l01One_eq i (by omega), w64' (by omega)]
        refine Ev.some_bind ?_
        rw [b_or _ _ (mk62 (by omega) _) (two62 (by omega)), mk_or_one n _ i (by omega)]
        rw [mk_congr (q := fun a => decide (a < i + 1) && f a x) fun a ha => by
          by_cases e : a = i
          · subst e; simp [c']
          · by_cases e2 : a < i
            · simp [e, e2, show a < i + 1 by omega]
            · simp [e, e2, show ¬ a < i + 1 by omega]]
        exact i1
      · have c' : f i x = false := by simpa [hx] using c
        rw [w64' (by omega)]
        rw [mk_congr (q := fun a => decide (a < i + 1) && f a x) fun a ha => by
          by_cases e : a = i
          · subst e; simp [c']
          · by_cases e2 : a < i
            · simp [e2, show a < i + 1 by omega]
            · simp [e2, show ¬ a < i + 1 by omega]]
        exact i1
  simp only [spec_l01Below.f]
  have := loop n 0 (by omega)
  have e : mk n (fun a => decide (a < 0) && f a x) = 0 := Nat.eq_of_testBit_eq fun i => by rw [testBit_mk]; simp
  rw [e] at this
  exact this
theorem l04Order_ev (n : Nat) (hn : n ≤ 8) (f : Nat → Nat → Bool) (w : List Nat) (hl : w.length ≤ 24) (hw : ∀ x ∈ w, x < n) : Ev (fun k => spec_l04Order.f k (n : Int) (mat n f) (ints w)) (mat w.length (ordP f w)) := by
  have h24 := pow_lt62 hl
  have hlast : ∀ i k, ordP f w i k = true ↔ i = k ∨ ∃ j, i ≤ j ∧ j < k ∧ ordP f w i j = true ∧ eP f w j k = true := fun i k => clos_last fun i k h => eP_lt h
  have hle : ∀ i k, ordP f w i k = true → i ≤ k := fun i k h => clos_le (fun i k h => (eP_lt h).1) h
  -- row i as far as position k
  let row : Nat → Nat → Nat := fun i k => mk w.length fun b => decide (b < k) && ordP f w i b
  have outer : ∀ (d i : Nat), i + d = w.length → Ev (fun q => spec_l04Order.l0 q (ints w) ((List.range i).map fun a => ((mk w.length (ordP f w a) : Nat) : Int)) (i : Int) (n : Int) (mat n f)) (mat w.length (ordP f w)) := by
    intro d
    induction d with
    | zero =>
      intro i hi
      obtain rfl : i = w.length := by omega
      refine Ev.succ ?_
      simp only [spec_l04Order.l0]
      exact Ev.neg (by simp) (Ev.now _)
    | succ d ih =>
      intro i hi
      have i1 := ih (i + 1) (by omega)
      rw [List.range_succ, List.map_append] at i1
      have one : 2 ^ i = mk w.length fun b => decide (b < i + 1) && ordP f w i b := bits_ext fun b => by
        rw [testBit_mk, testBit_one]
        by_cases e : i = b
        · subst e
          have : ordP f w i i = true := clos_refl _ _
          simp [this, show i < w.length by omega]
        · have : (decide (b < i + 1) && ordP f w i b) = false := by
            by_cases e2 : b < i
            · have : ¬ ordP f w i b = true := fun h => by have := hle i b h; omega
              simpa [show b < i + 1 by omega] using this
            · simp [show ¬ b < i + 1 by omega]
          simp [e, this]
      have mid : ∀ (e k : Nat), k + e = w.length → i < k → Ev (fun q => spec_l04Order.l1 q (ints w) ((List.range i).map fun a => ((mk w.length (ordP f w a) : Nat) : Int)) (i : Int) ((mk w.length (fun b => decide (b < k) && ordP f w i b) : Nat) : Int) (k : Int) (n : Int) (mat n f)) (mat w.length (ordP f w)) := by
        intro e
        induction e with
        | zero =>
          intro k hk hik
          refine Ev.succ ?_
          simp only [spec_l04Order.l1]
          refine Ev.neg (by simp; omega) (Ev.pos (by simp; omega) ?_)
          rw [w64' (by omega), mk_congr (q := ordP f w i) fun b hb => by simp [show b < k by omega]]
          exact i1
        | succ e ihe =>
          intro k hk hik
          have j1 := ihe (k + 1) (by omega) (by omega)
          have h3 : (2 : Nat) ^ k ≤ 2 ^ 24 := pow24 (by omega)
          -- the positions below j have been looked at
          have inner : ∀ (e2 j : Nat), j + e2 = k → i ≤ j → ∀ (B : Bool), (B = true ↔ ∃ j', i ≤ j' ∧ j' < j ∧ ordP f w i j' = true ∧ eP f w j' k = true) →
              Ev (fun q => spec_l04Order.l2 q (ints w) ((List.range i).map fun a => ((mk w.length (ordP f w a) : Nat) : Int)) (i : Int) ((mk w.length (fun b => (decide (b < k) && ordP f w i b) || (decide (b = k) && B)) : Nat) : Int) (k : Int) (j : Int) (n : Int) (mat n f)) (mat w.length (ordP f w)) := by
            intro e2
            induction e2 with
            | zero =>
              intro j hj hij B hB
              obtain rfl : j = k := by omega
              refine Ev.succ ?_
              simp only [spec_l04Order.l2]
              refine Ev.neg (by omega) ?_
              have hB' : B = ordP f w i j := by
                rw [Bool.eq_iff_iff, hB, hlast i j]
                constructor
                · exact .inr
                · rintro (h | h)
                  · omega
                  · exact h
              rw [w64' (by omega), mk_congr (q := fun b => decide (b < j + 1) && ordP f w i b) fun b hb => by
                by_cases e1 : b = j
                · subst e1; simp [hB']
                · by_cases e2 : b < j
                  · simp [e1, e2, show b < j + 1 by omega]
                  · simp [e1, e2, show ¬ b < j + 1 by omega]]
              exact j1
            | succ e2 ih2 =>
              intro j hj hij B hB
              have h1 := mk_lt w.length (fun b => (decide (b < k) && ordP f w i b) || (decide (b = k) && B))
              have hxj := getD_lt hw (show j < w.length by omega)
              have hxk := getD_lt hw (show k < w.length by omega)
              have hjk : j < k := by omega
              refine Ev.succ ?_
              simp only [spec_l04Order.l2]
              refine Ev.pos (by omega) ?_
              rw [l01Bit_eq _ j (mk62 (by omega) _) (by omega), testBit_mk]
              have hbit : (decide (j < w.length) && ((decide (j < k) && ordP f w i j) || (decide (j = k) && B))) = ordP f w i j := by simp [hjk, show j < w.length by omega, show ¬ j = k by omega]
              rw [hbit]
              have hee : eP f w j k = f (w.getD j 0) (w.getD k 0) := by simp [eP, hjk, show k < w.length by omega]
              refine Ev.some_bind (Ev.ite (fun c => ?_) (fun c => ?_))
              · refine Ev.pos (by omega) (Ev.pos (by simp; omega) (Ev.pos (by omega) (Ev.pos (by simp; omega) ?_)))
                rw [rd_getD, rd_getD, l02Dep_eq n (by omega) f _ _ _ hxj hxk, l01One_eq k (by omega), w64' (by omega)]
                refine Ev.some_bind (Ev.ite (fun g => Ev.some_bind ?_) (fun g => ?_))
                · rw [b_or _ _ (mk62 (by omega) _) (two62 (by omega)), mk_or_one w.length _ k (by omega)]
                  have := ih2 (j + 1) (by omega) (by omega) true ⟨fun _ => ⟨j, hij, by omega, c, by rw [hee]; exact g⟩, fun _ => rfl⟩
                  rw [mk_congr (q := fun b => (decide (b < k) && ordP f w i b) || (decide (b = k) && true)) fun b hb => by
                    by_cases e1 : b = k
                    · subst e1; simp
                    · simp [e1]]
                  exact this
                · exact ih2 (j + 1) (by omega) (by omega) B (hB.trans ⟨fun ⟨j', a1, a2, a3⟩ => ⟨j', a1, by omega, a3⟩, fun ⟨j', a1, a2, a3, a4⟩ => by
                    by_cases e1 : j' = j
                    · subst e1; rw [hee] at a4; exact absurd a4 g
                    · exact ⟨j', a1, by omega, a3, a4⟩⟩)
              · rw [w64' (by omega)]
                exact ih2 (j + 1) (by omega) (by omega) B (hB.trans ⟨fun ⟨j', a1, a2, a3⟩ => ⟨j', a1, by omega, a3⟩, fun ⟨j', a1, a2, a3, a4⟩ => by
                    by_cases e1 : j' = j
                    · subst e1; exact absurd a3 c
                    · exact ⟨j', a1, by omega, a3, a4⟩⟩)
          have := inner (k - i) i (by omega) (Nat.le_refl _) false ⟨by simp, fun ⟨j', a1, a2, _⟩ => by omega⟩
          rw [mk_congr (q := fun b => decide (b < k) && ordP f w i b) fun b hb => by simp] at this
          refine Ev.succ ?_
          simp only [spec_l04Order.l1]
          exact Ev.pos (by simp; omega) this
      have := mid (w.length - (i + 1)) (i + 1) (by omega) (by omega)
      rw [← one] at this
      refine Ev.succ ?_
      simp only [spec_l04Order.l0]
      refine Ev.pos (by simp; omega) ?_
      rw [l01One_eq i (by omega), w64' (by omega)]
      exact Ev.some_bind this
  simp only [spec_l04Order.f]
  exact outer w.length 0 (by omega)
theorem l04Code_ok (n : Nat) (hn : n ≤ 8) (f : Nat → Nat → Bool) (hs : ∀ a b, f a b = f b a) (w : List Nat) (hl : w.length ≤ 24) (hw : ∀ x ∈ w, x < n) (hc : Ev (fun k => spec_l03Code.f k (n : Int) (mat n f) (ints w) (ints w)) 0) :
    Ev (fun k => spec_l04Code.f k (n : Int) (mat n f) (ints w)) (ints (normalP f n w), mat w.length (ordP f (normalP f n w)), 0) := by
  have hnl := normalP_length f hs hw
  simp only [spec_l04Code.f]
  refine Ev.bind hc (Ev.pos rfl (Ev.bind (l03Normal_ev n (by omega) f w (by omega) hw) ?_))
  have := l04Order_ev n hn f _ (by omega) (normalP_lt f hs hw)
  rw [hnl] at this
  exact Ev.bind this (Ev.now _)
theorem l04Code_bad (n : Int) (D w : List Int) (c : Int) (h0 : c ≠ 0) (hc : Ev (fun k => spec_l03Code.f k n D w w) c) : Ev (fun k => spec_l04Code.f k n D w) ([], [], c) := by
  simp only [spec_l04Code.f]
  exact Ev.bind hc (Ev.neg h0 (Ev.now _))
theorem check_ok {n : Nat} {D : List Int} (hA : Alpha (n : Int) D) (ws : List (List Int)) (h : ∀ w ∈ ws, Word (n : Int) w) : Ev (fun k => impl_checkWords.f k (n : Int) D ws) 0 := by
  have := checkWords_ev (n : Int) D ws
  rwa [if_pos hA, if_pos h] at this
theorem check_1 {n : Nat} {f : Nat → Nat → Bool} (hA : Alpha (n : Int) (mat n f)) {u : List Nat} (hl : u.length ≤ 24) (hu : ∀ x ∈ u, x < n) : Ev (fun k => impl_checkWords.f k (n : Int) (mat n f) [ints u]) 0 :=
  check_ok hA _ fun w hw => by rw [List.mem_singleton.1 hw]; exact Word.of hl hu
theorem check_2 {n : Nat} {f : Nat → Nat → Bool} (hA : Alpha (n : Int) (mat n f)) {u v : List Nat} (hl : u.length ≤ 24) (hu : ∀ x ∈ u, x < n) (hl2 : v.length ≤ 24) (hv : ∀ x ∈ v, x < n) : Ev (fun k => impl_checkWords.f k (n : Int) (mat n f) [ints u, ints v]) 0 :=
  check_ok hA _ fun w hw => by
    rcases List.mem_cons.1 hw with rfl | hw
    · exact Word.of hl hu
    · rw [List.mem_singleton.1 hw]; exact Word.of hl2 hv
theorem codes2 (n : Int) (D l1 l2 : List Int) : (∃ m f u v, Two n D l1 l2 m f u v ∧ Ev (fun k => spec_l03Code.f k n D l1 l2) 0 ∧ Ev (fun k => impl_checkWords.f k n D [l1, l2]) 0) ∨
    ∃ c : Int, c ≠ 0 ∧ (c = 1 ∨ c = 2) ∧ Ev (fun k => spec_l03Code.f k n D l1 l2) c ∧ Ev (fun k => impl_checkWords.f k n D [l1, l2]) c := by
  have hc := l03Code_ev n D l1 l2
  have hk := checkWords_ev n D [l1, l2]
  have e : (∀ x ∈ [l1, l2], Word n x) ↔ (Word n l1 ∧ Word n l2) := by simp
  simp only [e] at hk
  by_cases hA : Alpha n D
  · by_cases hW : Word n l1 ∧ Word n l2
    · rw [if_pos hA, if_pos hW] at hc hk
      have hA2 := hA
      obtain ⟨m, f, rfl, rfl, hm, hs, hr⟩ := hA.form
      obtain ⟨u, rfl, hul, hu⟩ := hW.1.form
      obtain ⟨v, rfl, hvl, hv⟩ := hW.2.form
      exact .inl ⟨m, f, u, v, ⟨rfl, rfl, rfl, rfl, hm, hs, hr, hul, hu, hvl, hv, hA2⟩, hc, hk⟩
    · rw [if_pos hA, if_neg hW] at hc hk
      exact .inr ⟨2, by decide, .inr rfl, hc, hk⟩
  · rw [if_neg hA] at hc hk
    exact .inr ⟨1, by decide, .inl rfl, hc, hk⟩
variable (f : Nat → Nat → Bool)
theorem isFirst_snocD (c b : Nat) : ∀ u : List Nat, isFirst f (u ++ [b]) c = (isFirst f u c || (u.all (fun d => !f d c) && decide (b = c))) := by
  intro u
  induction u with
  | nil => simp [isFirst]
  | cons d u ih =>
    simp only [List.cons_append, isFirst, ih, List.all_cons]
    cases decide (d = c) <;> cases f d c <;> simp
variable (w : List Nat)
/-- the letters behind a set of positions, among the first i -/
def rstP (M i : Nat) : List Nat := ((List.range i).filter fun k => !M.testBit k).map fun k => w.getD k 0
theorem rstP_succ (M i : Nat) : rstP w M (i + 1) = rstP w M i ++ if M.testBit i = true then [] else [w.getD i 0] := by
  unfold rstP
  rw [List.range_succ, List.filter_append, List.map_append]
  congr 1
  by_cases h : M.testBit i = true <;> simp [h]
theorem rstP_mem (M i c : Nat) : c ∈ rstP w M i ↔ ∃ p, p < i ∧ M.testBit p = false ∧ w.getD p 0 = c := by
  unfold rstP
  simp only [List.mem_map, List.mem_filter, List.mem_range, Bool.not_eq_true']
  constructor
  · rintro ⟨p, ⟨h1, h2⟩, h3⟩; exact ⟨p, h1, h2, h3⟩
  · rintro ⟨p, h1, h2, h3⟩; exact ⟨p, ⟨h1, h2⟩, h3⟩
theorem rstP_first (M c : Nat) : ∀ i, isFirst f (rstP w M i) c = true ↔ ∃ p, p < i ∧ M.testBit p = false ∧ w.getD p 0 = c ∧ ∀ k, k < p → M.testBit k = false → f (w.getD k 0) c = false := by
  intro i
  induction i with
  | zero => simp [rstP, isFirst]
  | succ i ih =>
    rw [rstP_succ]
    by_cases h : M.testBit i = true
    · rw [if_pos h, List.append_nil, ih]
      constructor
      · rintro ⟨p, h1, h2⟩; exact ⟨p, by omega, h2⟩
      · rintro ⟨p, h1, h2, h3⟩
        have : p ≠ i := by rintro rfl; rw [h] at h2; cases h2
        exact ⟨p, by omega, h2, h3⟩
    · rw [if_neg h, isFirst_snocD, Bool.or_eq_true, ih, Bool.and_eq_true, List.all_eq_true, decide_eq_true_eq]
      have hf : M.testBit i = false := by simpa using h
      constructor
      · rintro (⟨p, h1, h2⟩ | ⟨h1, h2⟩)
        · exact ⟨p, by omega, h2⟩
        · refine ⟨i, by omega, hf, h2, fun k hk hm => ?_⟩
          have := h1 _ ((rstP_mem w M i _).2 ⟨k, hk, hm, rfl⟩)
          simpa using this
      · rintro ⟨p, h1, h2, h3, h4⟩
        by_cases e : p = i
        · subst e
          refine .inr ⟨fun d hd => ?_, h3⟩
          obtain ⟨k, k1, k2, rfl⟩ := (rstP_mem w M p d).1 hd
          simpa using h4 k k1 k2
        · exact .inl ⟨p, by omega, h2, h3, h4⟩
theorem testBit_add (M p i : Nat) : (M ||| 2 ^ p).testBit i = (M.testBit i || decide (i = p)) := by
  rw [Nat.testBit_or, testBit_one]
  congr 1
  rw [Bool.eq_iff_iff]; simp only [decide_eq_true_eq]; exact eq_comm
theorem rstP_erase (M p : Nat) (hp : M.testBit p = false) (h0 : ∀ k, k < p → M.testBit k = false → w.getD k 0 ≠ w.getD p 0) : ∀ i, rstP w (M ||| 2 ^ p) i = if p < i then (rstP w M i).erase (w.getD p 0) else rstP w M i := by
  intro i
  induction i with
  | zero => simp [rstP]
  | succ i ih =>
    rw [rstP_succ, rstP_succ, ih, testBit_add]
    by_cases h1 : p < i
    · have hm : w.getD p 0 ∈ rstP w M i := (rstP_mem w M i _).2 ⟨p, h1, hp, rfl⟩
      have : decide (i = p) = false := decide_eq_false (by omega)
      rw [if_pos h1, if_pos (show p < i + 1 by omega), List.erase_append_left _ hm, this, Bool.or_false]
    · rw [if_neg h1]
      by_cases h2 : p = i
      · subst h2
        have hn : w.getD p 0 ∉ rstP w M p := fun hm => by
          obtain ⟨k, k1, k2, k3⟩ := (rstP_mem w M p _).1 hm
          exact h0 k k1 k2 k3
        rw [if_pos (show p < p + 1 by omega), if_pos (show (M.testBit p || decide (p = p)) = true by simp), if_neg (show ¬ M.testBit p = true by rw [hp]; simp), List.append_nil, List.erase_append_right _ hn]
        simp
      · have : decide (i = p) = false := decide_eq_false (fun e => h2 e.symm)
        rw [if_neg (show ¬ p < i + 1 by omega), this, Bool.or_false]
/-- is M a downset of the positions? -/
def dnP (M : Nat) : Prop := M < 2 ^ w.length ∧ ∀ i k, i < w.length → k < w.length → M.testBit k = true → ordP f w i k = true → M.testBit i = true
theorem dnP_zero : dnP f w 0 := ⟨Nat.two_pow_pos _, fun i k _ _ h => by simp at h⟩
variable {f} {w}
theorem dnP.add {M p : Nat} (h : dnP f w M) (hp : p < w.length) (hf : ∀ k, k < p → M.testBit k = false → f (w.getD k 0) (w.getD p 0) = false) : dnP f w (M ||| 2 ^ p) := by
  refine ⟨Nat.or_lt_two_pow h.1 (Nat.pow_lt_pow_right (by decide) hp), fun i k hi hk hm ho => ?_⟩
  rw [testBit_add] at hm ⊢
  by_cases e : i = p
  · simp [e]
  · rw [decide_eq_false e, Bool.or_false]
    by_cases ek : k = p
    · subst ek
      rcases (clos_last (fun i k h => eP_lt h)).1 ho with h1 | ⟨j, j1, j2, j3, j4⟩
      · exact absurd h1 e
      · have hj : M.testBit j = true := by
          cases hj : M.testBit j with
          | true => rfl
          | false =>
            have := hf j j2 hj
            unfold eP at j4
            rw [this] at j4
            simp at j4
        exact h.2 i j hi (by omega) hj j3
    · rw [decide_eq_false ek, Bool.or_false] at hm
      exact h.2 i k hi hk hm ho
theorem ordP_edge {i k : Nat} (h1 : i < k) (h2 : k < w.length) (h : f (w.getD i 0) (w.getD k 0) = true) : ordP f w i k = true := clos_edge (by unfold eP; rw [decide_eq_true ⟨h1, h2⟩, h]; rfl)
theorem ordP_le' {i k : Nat} (h : ordP f w i k = true) : i ≤ k := clos_le (fun i k h => (eP_lt h).1) h
/-- a downset that is not empty is another one and a position behind it -/
theorem dnP.top {M : Nat} (h : dnP f w M) (h0 : M ≠ 0) : ∃ p M', p < w.length ∧ dnP f w M' ∧ M'.testBit p = false ∧ M = M' ||| 2 ^ p ∧ (∀ k, k < p → M'.testBit k = false → f (w.getD k 0) (w.getD p 0) = false) ∧ ∀ k, p < k → M.testBit k = false := by
  obtain ⟨p, hp, hb, hmax⟩ : ∃ p, p < w.length ∧ M.testBit p = true ∧ ∀ k, p < k → M.testBit k = false := by
    have key : ∀ n, M < 2 ^ n → ∃ p, p < n ∧ M.testBit p = true ∧ ∀ k, p < k → M.testBit k = false := by
      intro n
      induction n with
      | zero => intro hn; exact absurd (by simpa using hn) h0
      | succ n ih =>
        intro hn
        by_cases hb : M.testBit n = true
        · exact ⟨n, by omega, hb, fun k hk => bit_of_lt hn (by omega)⟩
        · obtain ⟨p, p1, p2⟩ := ih (lt_of_bits fun i hi => by
            by_cases e : i = n
            · subst e; simpa using hb
            · exact bit_of_lt hn (by omega))
          exact ⟨p, by omega, p2⟩
    exact key _ h.1
  let M' := mk w.length fun i => M.testBit i && decide (i ≠ p)
  have hb' : ∀ i, M'.testBit i = (M.testBit i && decide (i ≠ p)) := fun i => by
    rw [testBit_mk]
    by_cases hi : i < w.length
    · simp [hi]
    · simp [hi, bit_of_lt h.1 (show w.length ≤ i by omega)]
  refine ⟨p, M', hp, ⟨mk_lt _ _, fun i k hi hk hm ho => ?_⟩, by rw [hb']; simp, bits_ext fun i => ?_, fun k hk hm => ?_, hmax⟩
  · rw [hb', Bool.and_eq_true, decide_eq_true_eq] at hm ⊢
    refine ⟨h.2 i k hi hk hm.1 ho, ?_⟩
    rintro rfl
    have := ordP_le' ho
    by_cases e : i = k
    · exact hm.2 e.symm
    · rw [hmax k (by omega)] at hm; exact absurd hm.1 (by simp)
  · rw [testBit_add, hb']
    by_cases e : i = p
    · subst e; simp [hb]
    · simp [e]
  · rw [hb'] at hm
    have hm' : M.testBit k = false := by simpa [show k ≠ p by omega] using hm
    cases e : f (w.getD k 0) (w.getD p 0) with
    | false => rfl
    | true =>
      have := h.2 k p (by omega) hp hb (ordP_edge hk hp e)
      rw [hm'] at this; cases this
/-- a number for how often each letter occurs -/
def kS (u : List Nat) : Nat := (u.map fun a => 2 ^ (5 * a)).sum
def shW (u : List Nat) : List Nat := (u.filter fun a => decide (a ≠ 0)).map fun a => a - 1
theorem kS_sh (u : List Nat) : kS u = u.count 0 + 32 * kS (shW u) := by
  induction u with
  | nil => rfl
  | cons a u ih =>
    unfold kS shW at *
    rw [List.map_cons, List.sum_cons, ih, List.count_cons]
    by_cases h : a = 0
    · subst h; simp; omega
    · obtain ⟨b, rfl⟩ : ∃ b, a = b + 1 := ⟨a - 1, by omega⟩
      simp only [List.filter_cons, h, ne_eq, not_false_eq_true, decide_true, if_true, List.map_cons, List.sum_cons, Nat.add_sub_cancel]
      rw [show 5 * (b + 1) = 5 * b + 5 by omega, Nat.pow_add]
      simp
      omega
theorem shW_count (u : List Nat) (a : Nat) : (shW u).count a = u.count (a + 1) := by
  induction u with
  | nil => rfl
  | cons b u ih =>
    unfold shW at *
    by_cases h : b = 0
    · subst h; rw [List.filter_cons, if_neg (by simp), ih, List.count_cons]; simp
    · rw [List.filter_cons, if_pos (by simpa using h), List.map_cons, List.count_cons, List.count_cons, ih]
      congr 1
      have : (b - 1 == a) = (b == a + 1) := by rw [Bool.eq_iff_iff, beq_iff_eq, beq_iff_eq]; omega
      rw [this]
theorem shW_length (u : List Nat) : (shW u).length ≤ u.length := by
  unfold shW; rw [List.length_map]; exact List.length_filter_le _ _
theorem kS_count : ∀ (a : Nat) (u v : List Nat), u.length < 32 → v.length < 32 → kS u = kS v → u.count a = v.count a ∧ kS (shW u) = kS (shW v) := by
  have base : ∀ u v : List Nat, u.length < 32 → v.length < 32 → kS u = kS v → u.count 0 = v.count 0 ∧ kS (shW u) = kS (shW v) := fun u v hu hv h => by
    have c1 := List.count_le_length (a := 0) (l := u)
    have c2 := List.count_le_length (a := 0) (l := v)
    rw [kS_sh u, kS_sh v] at h
    omega
  intro a
  induction a with
  | zero => exact base
  | succ a ih =>
    intro u v hu hv h
    obtain ⟨_, h2⟩ := base u v hu hv h
    have l1 := shW_length u
    have l2 := shW_length v
    obtain ⟨h3, _⟩ := ih (shW u) (shW v) (by omega) (by omega) h2
    rw [shW_count, shW_count] at h3
    exact ⟨h3, h2⟩
/-- how often a letter stands at the positions of a set among the first i -/
def cM (w : List Nat) (M a : Nat) : Nat → Nat
  | 0 => 0
  | i + 1 => cM w M a i + if M.testBit i = true ∧ w.getD i 0 = a then 1 else 0
theorem cM_congr {M N a : Nat} : ∀ i, (∀ k, k < i → w.getD k 0 = a → M.testBit k = N.testBit k) → cM w M a i = cM w N a i := by
  intro i
  induction i with
  | zero => intro _; rfl
  | succ i ih =>
    intro h
    simp only [cM]
    rw [ih (fun k hk => h k (by omega))]
    by_cases e : w.getD i 0 = a
    · rw [h i (by omega) e]
    · rw [if_neg (fun z => e z.2), if_neg (fun z => e z.2)]
theorem cM_mono {M a : Nat} : ∀ d i, cM w M a i ≤ cM w M a (i + d) := by
  intro d
  induction d with
  | zero => intro i; exact Nat.le_refl _
  | succ d ih => intro i; rw [show i + (d + 1) = i + d + 1 by omega, cM]; have := ih i; omega
theorem cM_none {M a : Nat} : ∀ d i, (∀ k, i ≤ k → k < i + d → w.getD k 0 = a → M.testBit k = false) → cM w M a (i + d) = cM w M a i := by
  intro d
  induction d with
  | zero => intro i _; rfl
  | succ d ih =>
    intro i h
    rw [show i + (d + 1) = i + d + 1 by omega, cM, ih i (fun k h1 h2 => h k h1 (by omega)), if_neg]
    · rfl
    · rintro ⟨h1, h2⟩
      rw [h (i + d) (by omega) (by omega) h2] at h1; cases h1
theorem letters_count (M a : Nat) : ∀ i, (((List.range i).filter fun k => M.testBit k).map fun k => w.getD k 0).count a = cM w M a i := by
  intro i
  induction i with
  | zero => rfl
  | succ i ih =>
    rw [pos_step, List.count_append, ih, cM]
    congr 1
    by_cases h : M.testBit i = true
    · rw [if_pos h]
      by_cases e : w.getD i 0 = a
      · rw [if_pos ⟨h, e⟩, e]; simp
      · rw [if_neg (fun z => e z.2)]; exact List.count_eq_zero.2 fun hm => e (List.mem_singleton.1 hm).symm
    · rw [if_neg h, if_neg (fun z => h z.1)]; simp
/-- a downset is told by how often it has each letter -/
theorem dnP.inj {n : Nat} (hr : ∀ a, a < n → f a a = true) (hw : ∀ x ∈ w, x < n) {M N : Nat} (h : dnP f w M) (k : dnP f w N) (e : ∀ a, (lettersP w M).count a = (lettersP w N).count a) : M = N := by
  have one : ∀ {M N : Nat}, dnP f w M → dnP f w N → (∀ a, cM w M a w.length = cM w N a w.length) → ∀ i, i < w.length → (∀ k, k < i → M.testBit k = N.testBit k) → M.testBit i = true → N.testBit i = true := by
    intro M N h k e i hi hl hm
    cases hn : N.testBit i with
    | true => rfl
    | false =>
      exfalso
      have hlen : w.length = i + 1 + (w.length - (i + 1)) := by omega
      have c1 : cM w N (w.getD i 0) w.length = cM w N (w.getD i 0) (i + 1) := by
        have := cM_none (w := w) (M := N) (a := w.getD i 0) (w.length - (i + 1)) (i + 1) (fun j h1 h2 h3 => by
          cases hj : N.testBit j with
          | false => rfl
          | true =>
            have := k.2 i j hi (by omega) hj (ordP_edge (by omega) (by omega) (by rw [h3]; exact hr _ (getD_lt hw hi)))
            rw [hn] at this; cases this)
        rwa [← hlen] at this
      have c2 := cM_mono (w := w) (M := M) (a := w.getD i 0) (w.length - (i + 1)) (i + 1)
      rw [← hlen] at c2
      have c3 := e (w.getD i 0)
      rw [c1] at c3
      simp only [cM, hm, hn, true_and, if_true, Bool.false_eq_true, false_and, if_false] at c2 c3
      have c4 := cM_congr (w := w) (M := M) (N := N) (a := w.getD i 0) i (fun j hj _ => hl j hj)
      omega
  have e' : ∀ a, cM w M a w.length = cM w N a w.length := fun a => by
    rw [← letters_count, ← letters_count]; exact e a
  have all : ∀ i, i ≤ w.length → ∀ j, j < i → M.testBit j = N.testBit j := by
    intro i
    induction i with
    | zero => intro _ j hj; omega
    | succ i ih =>
      intro hi j hj
      by_cases ej : j = i
      · subst ej
        have hl := ih (by omega)
        rw [Bool.eq_iff_iff]
        exact ⟨one h k e' j (by omega) hl, one k h (fun a => (e' a).symm) j (by omega) (fun q hq => (hl q hq).symm)⟩
      · exact ih (by omega) j (by omega)
  refine bits_ext fun i => ?_
  by_cases hi : i < w.length
  · exact all w.length (Nat.le_refl _) i hi
  · rw [bit_of_lt h.1 (by omega), bit_of_lt k.1 (by omega)]
/-- all downsets -/
def dns (f : Nat → Nat → Bool) (w : List Nat) : List Nat := (List.range (2 ^ w.length)).filter fun M => downP (ordP f w) w.length M
theorem mem_dns {M : Nat} : M ∈ dns f w ↔ dnP f w M := by
  unfold dns
  rw [List.mem_filter, List.mem_range, downP_iff]
  refine and_congr_right (fun hM => ⟨fun h i k hi hk hm ho => ?_, fun h i hi hm k hk hk2 => ?_⟩)
  · cases e : M.testBit i with
    | true => rfl
    | false => rw [h i hi e k hk hm] at ho; cases ho
  · cases e : ordP f w i k with
    | false => rfl
    | true => rw [h i k hi hk hk2 e] at hm; cases hm
theorem dns_nodup : (dns f w).Nodup := List.nodup_range.filter _
theorem inj_len {R : Nat → Nat → Prop} : ∀ {L1 L2 : List Nat}, L1.Nodup → (∀ M ∈ L1, ∃ M' ∈ L2, R M M') → (∀ M ∈ L1, ∀ N ∈ L1, ∀ M', R M M' → R N M' → M = N) → L1.length ≤ L2.length := by
  intro L1
  induction L1 with
  | nil => intro L2 _ _ _; simp
  | cons M L ih =>
    intro L2 hn h inj
    obtain ⟨M', h1, h2⟩ := h M List.mem_cons_self
    have hn' := List.nodup_cons.1 hn
    have := ih (L2 := L2.erase M') hn'.2 (fun N hN => by
      obtain ⟨N', n1, n2⟩ := h N (List.mem_cons_of_mem _ hN)
      refine ⟨N', (List.mem_erase_of_ne ?_).2 n1, n2⟩
      rintro rfl
      have := inj M List.mem_cons_self N (List.mem_cons_of_mem _ hN) N' h2 n2
      subst this
      exact hn'.1 hN) (fun A hA B hB C => inj A (List.mem_cons_of_mem _ hA) B (List.mem_cons_of_mem _ hB) C)
    have hl := List.length_erase_of_mem h1
    have : 0 < L2.length := List.length_pos_of_mem h1
    simp only [List.length_cons]
    omega
theorem letters_add (w : List Nat) (M p : Nat) (hM : M.testBit p = false) (a : Nat) : ∀ i, cM w (M ||| 2 ^ p) a i = cM w M a i + if p < i ∧ w.getD p 0 = a then 1 else 0 := by
  intro i
  induction i with
  | zero => simp [cM]
  | succ i ih =>
    simp only [cM, ih, testBit_add]
    by_cases e : i = p
    · subst e
      simp only [hM, Nat.lt_irrefl, false_and, if_false, decide_true, Bool.or_true, true_and, Bool.false_eq_true, Nat.lt_succ_self]
    · have hd : decide (i = p) = false := decide_eq_false e
      rw [hd, Bool.or_false]
      by_cases h1 : p < i
      · by_cases h2 : w.getD p 0 = a
        · rw [if_pos (show p < i ∧ w.getD p 0 = a from ⟨h1, h2⟩), if_pos (show p < i + 1 ∧ w.getD p 0 = a from ⟨by omega, h2⟩)]; omega
        · rw [if_neg (show ¬ (p < i ∧ w.getD p 0 = a) from fun z => h2 z.2), if_neg (show ¬ (p < i + 1 ∧ w.getD p 0 = a) from fun z => h2 z.2)]; omega
      · rw [if_neg (show ¬ (p < i ∧ w.getD p 0 = a) from fun z => h1 z.1), if_neg (show ¬ (p < i + 1 ∧ w.getD p 0 = a) from fun z => absurd z.1 (by omega))]; omega
/-- what is cut off the letters behind a downset leads to a greater one -/
theorem cut_dn {f : Nat → Nat → Bool} {n : Nat} (hr : ∀ a, a < n → f a a = true) {w : List Nat} (hw : ∀ x ∈ w, x < n) : ∀ (p : List Nat) (M : Nat) (r : List Nat), dnP f w M → cutP f p (rstP w M w.length) = some r →
    ∃ N, dnP f w N ∧ r = rstP w N w.length ∧ ∀ a, cM w N a w.length = cM w M a w.length + p.count a := by
  intro p
  induction p with
  | nil => intro M r h e; simp only [cutP, Option.some.injEq] at e; exact ⟨M, h, e.symm, fun a => by simp⟩
  | cons c p ih =>
    intro M r h e
    rw [cutP_cons] at e
    by_cases g : isFirst f (rstP w M w.length) c = true
    · rw [if_pos g] at e
      obtain ⟨q, q1, q2, q3, q4⟩ := (rstP_first f w M c w.length).1 g
      have h0 : ∀ k, k < q → M.testBit k = false → w.getD k 0 ≠ w.getD q 0 := fun k hk hm hh => by
        have := q4 k hk hm
        rw [hh, q3] at this
        rw [hr c (by rw [← q3]; exact getD_lt hw q1)] at this; cases this
      have e1 := rstP_erase w M q q2 h0 w.length
      rw [if_pos q1, q3] at e1
      rw [← e1] at e
      obtain ⟨N, n1, n2, n3⟩ := ih (M ||| 2 ^ q) r (h.add q1 (fun k hk hm => by rw [q3]; exact q4 k hk hm)) e
      refine ⟨N, n1, n2, fun a => ?_⟩
      rw [n3, letters_add w M q q2, List.count_cons]
      by_cases ha : c = a
      · subst ha; rw [if_pos ⟨q1, q3⟩]; simp; omega
      · rw [if_neg (fun z => ha (q3.symm.trans z.2))]; simp [ha]
    · rw [if_neg g] at e; cases e
theorem rstP_zero (w : List Nat) : rstP w 0 w.length = w := by
  unfold rstP
  rw [List.filter_eq_self.2 (fun k _ => by simp)]
  apply List.ext_getElem
  · simp
  · intro i h1 h2
    simp [List.getD_eq_getElem?_getD, h2]
theorem cM_zero (w : List Nat) (a : Nat) : ∀ i, cM w 0 a i = 0 := by
  intro i
  induction i with
  | zero => rfl
  | succ i ih => simp [cM, ih]
theorem dns_TrEq {f : Nat → Nat → Bool} (hs : ∀ a b, f a b = f b a) {n : Nat} (hr : ∀ a, a < n → f a a = true) {u v : List Nat} (hu : ∀ x ∈ u, x < n) (hv : ∀ x ∈ v, x < n) (h : TrEq f u v) : (dns f u).length ≤ (dns f v).length := by
  refine inj_len (R := fun M N => dnP f u M ∧ dnP f v N ∧ ∀ a, cM u M a u.length = cM v N a v.length) dns_nodup (fun M hM => ?_) (fun M _ N _ C h1 h2 => ?_)
  · have hd := mem_dns.1 hM
    obtain ⟨r, hr1⟩ := lettersP_prefix hs hr hu (M := M) (by unfold dns at hM; exact (List.mem_filter.1 hM).2)
    obtain ⟨r', hr2, _⟩ := cutP_TrEq_right f hs h hr1
    rw [← rstP_zero v] at hr2
    obtain ⟨N, n1, n2, n3⟩ := cut_dn hr hv _ 0 r' (dnP_zero f v) hr2
    refine ⟨N, mem_dns.2 n1, hd, n1, fun a => ?_⟩
    rw [n3, cM_zero, Nat.zero_add]
    exact (letters_count M a u.length).symm
  · refine dnP.inj hr hu h1.1 h2.1 (fun a => ?_)
    have e1 := letters_count (w := u) M a u.length
    have e2 := letters_count (w := u) N a u.length
    show List.count a (List.map _ _) = List.count a (List.map _ _)
    rw [e1, e2, h1.2.2 a, h2.2.2 a]
/-- how many downsets there are that agree with I from k on -/
def cdP (g : Nat → Nat → Bool) (n : Nat) : Nat → Nat → Nat
  | 0, _ => 1
  | q + 1, I => (if mk n (g q) &&& I = 0 then cdP g n q I else 0) + cdP g n q (I ||| 2 ^ q)
theorem cdP_le (g : Nat → Nat → Bool) (n : Nat) : ∀ q I, cdP g n q I ≤ 2 ^ q := by
  intro q
  induction q with
  | zero => intro I; exact Nat.le_refl _
  | succ q ih =>
    intro I
    have h1 := ih I
    have h2 := ih (I ||| 2 ^ q)
    simp only [cdP]
    rw [Nat.pow_succ]
    split <;> omega
theorem countDown_ev (n : Nat) (hn : n ≤ 24) (g : Nat → Nat → Bool) (hg : ∀ i k, g i k = true → i ≤ k) : ∀ (q I O : Nat), q ≤ n → I < 2 ^ n → O < 2 ^ n → (∀ i, i < q → O.testBit i = false) → Ev (fun k => spec_l04CountDown.f k (mat n g) (q : Int) (I : Int) (O : Int)) ((cdP g n q I : Nat) : Int) := by
  intro q
  have h24 := pow_lt62 hn
  induction q with
  | zero =>
    intro I O _ _ _ _
    refine Ev.succ ?_
    simp only [spec_l04CountDown.f]
    exact Ev.pos (by simp) (Ev.now _)
  | succ q ih =>
    intro I O hq hI hO hz
    have hrow := mk_lt n (g q)
    have hp : 2 ^ q < 2 ^ n := Nat.pow_lt_pow_right (by decide) (by omega)
    have hIq : I ||| 2 ^ q < 2 ^ n := Nat.or_lt_two_pow hI hp
    have hOq : O ||| 2 ^ q < 2 ^ n := Nat.or_lt_two_pow hO hp
    have b1 := cdP_le g n q I
    have b2 := cdP_le g n q (I ||| 2 ^ q)
    have hbel := l01Below_ev n hn g q (by omega)
    have hcol : mk n (fun a => g a q) &&& O = 0 := by
      refine (and_zero (fun a => g a q) hO).2 (List.all_eq_true.2 fun c hc => ?_)
      cases e : g c q with
      | false => rfl
      | true =>
        have hle := hg c q e
        by_cases e2 : c = q
        · subst e2
          rw [hz c (by omega)]; rfl
        · rw [hz c (by omega)]; rfl
    have e1 := ih I (O ||| 2 ^ q) (by omega) hI hOq (fun i hi => by rw [testBit_add, hz i (by omega)]; simp; omega)
    have e2 := ih (I ||| 2 ^ q) O (by omega) hIq hO (fun i hi => hz i (by omega))
    have hj : ∀ x : Nat, x ≤ 2 ^ q → Ev (fun k => spec_l04CountDown.j0 k (mat n g) (q : Int) (I : Int) (O : Int) (x : Int)) (((x + cdP g n q (I ||| 2 ^ q) : Nat)) : Int) := by
      intro x hx
      refine Ev.succ ?_
      simp only [spec_l04CountDown.j0]
      refine Ev.bind hbel ?_
      rw [b_and _ _ (by have := mk_lt n (fun a => g a q); omega) (by omega), hcol]
      refine Ev.pos rfl ?_
      rw [l01One_eq q (by omega)]
      refine Ev.some_bind ?_
      rw [b_or _ _ (by omega) (by omega)]
      refine Ev.bind e2 (Ev.const ?_)
      rw [w64' (by omega), Int.natCast_add]
    refine Ev.succ ?_
    simp only [spec_l04CountDown.f]
    refine Ev.neg (by omega) ?_
    rw [w64' (show -9000000000000000000 ≤ (((q + 1 : Nat) : Int)) - 1 ∧ (((q + 1 : Nat) : Int)) - 1 ≤ 9000000000000000000 by omega), show ((q + 1 : Nat) : Int) - 1 = (q : Int) by omega]
    refine Ev.pos (by omega) (Ev.pos (by rw [mat_length]; omega) ?_)
    rw [rd_mat n g q (by omega), b_and _ _ (by omega) (by omega)]
    simp only [cdP]
    by_cases c : mk n (g q) &&& I = 0
    · rw [if_pos c]
      refine Ev.pos (by rw [c]; rfl) ?_
      rw [l01One_eq q (by omega)]
      refine Ev.some_bind ?_
      rw [b_or _ _ (by omega) (by omega)]
      refine Ev.bind e1 ?_
      rw [w64' (by omega), Int.zero_add]
      exact hj _ b1
    · rw [if_neg c]
      refine Ev.neg (by omega) ?_
      exact hj 0 (by omega)
/-- does M agree with itself and I? -/
def okM (g : Nat → Nat → Bool) (n q I M : Nat) : Bool := (List.range q).all fun i => M.testBit i || decide (mk n (g i) &&& (M ||| I) = 0)
theorem all_congrD {α : Type} {p q : α → Bool} : ∀ {l : List α}, (∀ x ∈ l, p x = q x) → l.all p = l.all q := by
  intro l h
  rw [Bool.eq_iff_iff, List.all_eq_true, List.all_eq_true]
  exact ⟨fun a x hx => (h x hx) ▸ a x hx, fun a x hx => (h x hx).symm ▸ a x hx⟩
theorem okM_low {g : Nat → Nat → Bool} {n q I M : Nat} (hg : ∀ i k, g i k = true → i ≤ k) (hM : M < 2 ^ q) : okM g n (q + 1) I M = (decide (mk n (g q) &&& I = 0) && okM g n q I M) := by
  unfold okM
  rw [List.range_succ, List.all_append, Bool.and_comm]
  congr 1
  simp only [List.all_cons, List.all_nil, Bool.and_true]
  rw [bit_of_lt hM (Nat.le_refl _), Bool.false_or]
  rw [Bool.eq_iff_iff, decide_eq_true_iff, decide_eq_true_iff]
  refine ⟨fun h => ?_, fun h => ?_⟩
  · refine Nat.eq_of_testBit_eq fun i => ?_
    have := congrArg (fun x => x.testBit i) h
    simp only [Nat.testBit_and, Nat.testBit_or, Nat.zero_testBit] at this ⊢
    cases e : (mk n (g q)).testBit i <;> simp [e] at this ⊢
    exact this.2
  · refine Nat.eq_of_testBit_eq fun i => ?_
    have := congrArg (fun x => x.testBit i) h
    simp only [Nat.testBit_and, Nat.testBit_or, Nat.zero_testBit] at this ⊢
    cases e : (mk n (g q)).testBit i with
    | false => simp
    | true =>
      rw [e, Bool.true_and] at this
      rw [testBit_mk] at e
      have hqi := hg q i (by simp at e; exact e.2)
      rw [this, bit_of_lt hM hqi]; rfl
theorem okM_high {g : Nat → Nat → Bool} {n q I M : Nat} (hM : M < 2 ^ q) : okM g n (q + 1) I (2 ^ q + M) = okM g n q (I ||| 2 ^ q) M := by
  have e : 2 ^ q + M = M ||| 2 ^ q := by
    have := Nat.two_pow_add_eq_or_of_lt hM 1
    rw [Nat.mul_one] at this
    rw [Nat.or_comm]
    exact this
  unfold okM
  rw [List.range_succ, List.all_append, e]
  simp only [List.all_cons, List.all_nil, Bool.and_true]
  rw [show (M ||| 2 ^ q).testBit q = true by rw [testBit_add]; simp, Bool.true_or, Bool.and_true]
  refine all_congrD fun i hi => ?_
  have hi' := List.mem_range.1 hi
  rw [testBit_add, decide_eq_false (by omega), Bool.or_false, Nat.or_assoc, Nat.or_comm (2 ^ q) I]
theorem cdP_eq {g : Nat → Nat → Bool} {n : Nat} (hg : ∀ i k, g i k = true → i ≤ k) : ∀ q I, cdP g n q I = ((List.range (2 ^ q)).filter fun M => okM g n q I M).length := by
  intro q
  induction q with
  | zero => intro I; rfl
  | succ q ih =>
    intro I
    simp only [cdP]
    rw [Nat.pow_succ, Nat.mul_two, List.range_add, List.filter_append, List.length_append, List.filter_map, List.length_map, ih (I ||| 2 ^ q)]
    congr 1
    · by_cases c : mk n (g q) &&& I = 0
      · rw [if_pos c, ih I]
        congr 1
        refine List.filter_congr fun M hM => ?_
        rw [okM_low hg (List.mem_range.1 hM), decide_eq_true c, Bool.true_and]
      · rw [if_neg c]
        have : ((List.range (2 ^ q)).filter fun M => okM g n (q + 1) I M) = [] := List.filter_eq_nil_iff.2 fun M hM => by
          rw [okM_low hg (List.mem_range.1 hM), decide_eq_false c, Bool.false_and]; simp
        rw [this]; rfl
    · congr 1
      refine List.filter_congr fun M hM => ?_
      exact (okM_high (List.mem_range.1 hM)).symm
theorem cdP_dns (f : Nat → Nat → Bool) (w : List Nat) : cdP (ordP f w) w.length w.length 0 = (dns f w).length := by
  rw [cdP_eq (fun i k h => ordP_le' h)]
  unfold dns
  congr 1
  refine List.filter_congr fun M hM => ?_
  unfold okM downP
  refine all_congrD fun i _ => ?_
  congr 1
  rw [Nat.or_zero, Bool.eq_iff_iff, decide_eq_true_iff, and_zero (ordP f w i) (List.mem_range.1 hM)]
theorem kS_append (u v : List Nat) : kS (u ++ v) = kS u + kS v := by simp [kS, List.sum_append]
theorem kS_le : ∀ (u : List Nat), (∀ x ∈ u, x < 8) → kS u ≤ u.length * 34359738368 := by
  intro u
  induction u with
  | nil => intro _; simp [kS]
  | cons x u ih =>
    intro h
    have h1 := ih (fun y hy => h y (List.mem_cons_of_mem _ hy))
    have h2 : 2 ^ (5 * x) ≤ 2 ^ 35 := Nat.pow_le_pow_right (by decide) (by have := h x (List.mem_cons_self ..); omega)
    have e : kS (x :: u) = 2 ^ (5 * x) + kS u := by simp [kS]
    rw [e, List.length_cons]
    omega
theorem contentKey_ev (w : List Nat) (hl : w.length ≤ 24) (hw : ∀ x ∈ w, x < 8) : Ev (fun k => impl_contentKey.f k (ints w)) ((kS w : Nat) : Int) := by
  simp only [impl_contentKey.f]
  have key : ∀ (suf pre : List Nat), pre ++ suf = w → Ev (fun k => impl_contentKey.l0 k ((kS pre : Nat) : Int) (ints w) ((ints w).length : Int) (pre.length : Int)) ((kS w : Nat) : Int) := by
    intro suf
    induction suf with
    | nil =>
      intro pre hp
      rw [List.append_nil] at hp
      subst hp
      refine Ev.succ ?_
      simp only [impl_contentKey.l0]
      exact Ev.neg (by rw [ints_length]; omega) (Ev.now _)
    | cons x suf ih =>
      intro pre hp
      have hlen : w.length = pre.length + (suf.length + 1) := by rw [← hp]; simp
      have hrd : rd (ints w) (pre.length : Int) = (x : Int) := by rw [← hp]; exact rd_mid pre suf x
      have hx := hw x (by rw [← hp]; simp)
      have hb := kS_le pre (fun y hy => hw y (by rw [← hp]; exact List.mem_append_left _ hy))
      have h2 : 2 ^ (5 * x) ≤ 2 ^ 35 := Nat.pow_le_pow_right (by decide) (by omega)
      have nx := ih (pre ++ [x]) (by rw [← hp]; simp)
      rw [kS_append, show kS [x] = 2 ^ (5 * x) by simp [kS], List.length_append, List.length_singleton] at nx
      refine Ev.succ ?_
      simp only [impl_contentKey.l0]
      refine Ev.pos (by rw [ints_length]; omega) (Ev.pos (by omega) (Ev.pos (by rw [ints_length]; omega) ?_))
      rw [hrd, w64' (show -9000000000000000000 ≤ 5 * (x : Int) ∧ 5 * (x : Int) ≤ 9000000000000000000 by omega), show 5 * (x : Int) = ((5 * x : Nat) : Int) by omega, one_eq (5 * x) (by omega)]
      refine Ev.some_bind ?_
      generalize 2 ^ (5 * x) = P at h2 nx ⊢
      rw [w64' (show -9000000000000000000 ≤ ((kS pre : Nat) : Int) + (P : Int) ∧ ((kS pre : Nat) : Int) + (P : Int) ≤ 9000000000000000000 by omega), w64' (by omega), ← Int.natCast_add, show (pre.length : Int) + 1 = ((pre.length + 1 : Nat) : Int) by omega]
      exact nx
  exact key w [] rfl
/-- a downset's number -/
def kyP (w : List Nat) (M : Nat) : Int := ((kS w : Nat) : Int) - ((kS (rstP w M w.length) : Nat) : Int)
theorem cnt_split (p : Nat → Bool) (g : Nat → Nat) (a : Nat) : ∀ l : List Nat, ((l.filter p).map g).count a + ((l.filter fun k => !p k).map g).count a = (l.map g).count a := by
  intro l
  induction l with
  | nil => rfl
  | cons x l ih =>
    cases h : p x <;> simp [List.filter_cons, h, List.count_cons] <;> omega
theorem rstP_length (w : List Nat) (M i : Nat) : (rstP w M i).length ≤ i := by
  unfold rstP
  rw [List.length_map]
  have := List.length_filter_le (fun k => !M.testBit k) (List.range i)
  rw [List.length_range] at this
  exact this
theorem kyP_inj {f : Nat → Nat → Bool} {n : Nat} (hr : ∀ a, a < n → f a a = true) {w : List Nat} (hw : ∀ x ∈ w, x < n) (hl : w.length ≤ 24) {M N : Nat} (h : dnP f w M) (k : dnP f w N) (e : kyP w M = kyP w N) : M = N := by
  have e2 : kS (rstP w M w.length) = kS (rstP w N w.length) := by unfold kyP at e; omega
  have l1 := rstP_length w M w.length
  have l2 := rstP_length w N w.length
  refine dnP.inj hr hw h k (fun a => ?_)
  have c1 := cnt_split (fun k => M.testBit k) (fun k => w.getD k 0) a (List.range w.length)
  have c2 := cnt_split (fun k => N.testBit k) (fun k => w.getD k 0) a (List.range w.length)
  have c3 := (kS_count a _ _ (by omega) (by omega) e2).1
  unfold rstP at c3
  unfold lettersP
  omega
theorem succ_ex {f : Nat → Nat → Bool} {n : Nat} (hr : ∀ a, a < n → f a a = true) {w : List Nat} (hw : ∀ x ∈ w, x < n) {M a : Nat} (h : dnP f w M) (ha : isFirst f (rstP w M w.length) a = true) :
    ∃ p, p < w.length ∧ M.testBit p = false ∧ w.getD p 0 = a ∧ (∀ k, k < p → M.testBit k = false → f (w.getD k 0) a = false) ∧ dnP f w (M ||| 2 ^ p) ∧ (rstP w M w.length).erase a = rstP w (M ||| 2 ^ p) w.length := by
  obtain ⟨p, h1, h2, h3, h4⟩ := (rstP_first f w M a w.length).1 ha
  subst h3
  have hlt := getD_lt hw h1
  refine ⟨p, h1, h2, rfl, h4, h.add h1 h4, ?_⟩
  have := rstP_erase w M p h2 (fun k hk hm e => by have := h4 k hk hm; rw [e, hr _ hlt] at this; cases this) w.length
  rw [if_pos h1] at this
  exact this.symm
/-- what stands behind M in one step is among these -/
def clP (f : Nat → Nat → Bool) (w : List Nat) (M : Nat) (S : List Nat) : Prop := ∀ p, p < w.length → M.testBit p = false → (∀ k, k < p → M.testBit k = false → f (w.getD k 0) (w.getD p 0) = false) → (M ||| 2 ^ p) ∈ S
def gdP (f : Nat → Nat → Bool) (w : List Nat) (S X : List Nat) : Prop := S.Nodup ∧ (∀ M ∈ S, dnP f w M) ∧ X.length ≤ S.length ∧ ∀ M ∈ X, M ∈ S
theorem gdP.few {f : Nat → Nat → Bool} {w S X : List Nat} (h : gdP f w S X) : S.length ≤ 2 ^ w.length := by
  have := nodup_le S (List.range (2 ^ w.length)) h.1 (fun M hM => List.mem_range.2 (h.2.1 M hM).1)
  rwa [List.length_range] at this
def rwP (w : List Nat) (X : List Nat) : List (List Int) := X.map fun M => ints (rstP w M w.length)
variable {n : Nat} (hn : n ≤ 8) {f : Nat → Nat → Bool} (hs : ∀ a b, f a b = f b a) (hr : ∀ a, a < n → f a a = true) {w : List Nat} (hl : w.length ≤ 24) (hw : ∀ x ∈ w, x < n)
include hn hr hl hw
theorem cp_l2 {M : Nat} (hM : dnP f w M) (ms : List Nat) (hms : ms.length ≤ 1000) : ∀ (suf pre : List Nat), pre ++ suf = ms → (∀ a ∈ suf, isFirst f (rstP w M w.length) a = true) → ∀ S X : List Nat, gdP f w S X → ∃ S2 X2, gdP f w S2 X2 ∧ (∀ x ∈ S, x ∈ S2) ∧ (∀ x ∈ X, x ∈ X2) ∧ (∀ x ∈ S2, x ∈ S ∨ x ∈ X2) ∧ S.length + X2.length = S2.length + X.length ∧
    (∀ p, p < w.length → M.testBit p = false → w.getD p 0 ∈ suf → (∀ k, k < p → M.testBit k = false → f (w.getD k 0) (w.getD p 0) = false) → (M ||| 2 ^ p) ∈ S2) ∧
    Ev (fun k => impl_ties_countPrefixes.l2 k (ints w) (ints (rstP w M w.length)) (ints ms) (pre.length : Int) (S.map (kyP w)) (rwP w X)) (S2.map (kyP w), rwP w X2) := by
  have hp24 : 2 ^ w.length ≤ 2 ^ 24 := Nat.pow_le_pow_right (by decide) hl
  have hrl := rstP_length w M w.length
  intro suf
  induction suf with
  | nil =>
    intro pre hp _ S X hg
    rw [List.append_nil] at hp
    subst hp
    refine ⟨S, X, hg, fun x h => h, fun x h => h, fun x h => .inl h, rfl, fun p _ _ h => by simp at h, Ev.succ ?_⟩
    simp only [impl_ties_countPrefixes.l2]
    exact Ev.neg (by rw [ints_length]; omega) (Ev.now _)
  | cons a suf ih =>
    intro pre hp hf S X hg
    have hlen : ms.length = pre.length + (suf.length + 1) := by rw [← hp]; simp
    have hrd : rd (ints ms) (pre.length : Int) = (a : Int) := by rw [← hp]; exact rd_mid pre suf a
    have hfew := hg.few
    obtain ⟨p, p1, p2, p3, p4, p5, p6⟩ := succ_ex hr hw hM (hf a (List.mem_cons_self ..))
    have ham : a ∈ rstP w M w.length := (rstP_mem w M w.length a).2 ⟨p, p1, p2, p3⟩
    have e1 := withoutFirst_ev (rstP w M w.length) (by omega) a ham
    rw [p6] at e1
    have hl2 := rstP_length w (M ||| 2 ^ p) w.length
    have hw2 : ∀ x ∈ rstP w (M ||| 2 ^ p) w.length, x < 8 := fun x hx => by
      obtain ⟨q, q1, _, rfl⟩ := (rstP_mem w _ _ x).1 hx
      have := getD_lt hw q1
      omega
    have e2 := contentKey_ev w hl (fun x hx => by have := hw x hx; omega)
    have e3 := contentKey_ev (rstP w (M ||| 2 ^ p) w.length) (by omega) hw2
    have k1 := kS_le w (fun x hx => by have := hw x hx; omega)
    have k2 := kS_le _ hw2
    have hk : wrap64 (((kS w : Nat) : Int) - ((kS (rstP w (M ||| 2 ^ p) w.length) : Nat) : Int)) = kyP w (M ||| 2 ^ p) := by
      unfold kyP
      exact w64' (by omega)
    have hmem : kyP w (M ||| 2 ^ p) ∈ S.map (kyP w) ↔ (M ||| 2 ^ p) ∈ S := by
      constructor
      · intro h
        obtain ⟨N, hN, e⟩ := List.mem_map.1 h
        rw [← kyP_inj hr hw hl (hg.2.1 N hN) p5 e]
        exact hN
      · intro h
        exact List.mem_map.2 ⟨_, h, rfl⟩
    have same : ∀ q, q < w.length → M.testBit q = false → w.getD q 0 = a → (∀ k, k < q → M.testBit k = false → f (w.getD k 0) (w.getD q 0) = false) → q = p := by
      intro q q1 q2 q3 q4
      have haa : f a a = true := hr a (by rw [← p3]; exact getD_lt hw p1)
      rcases Nat.lt_trichotomy q p with h | h | h
      · have := p4 q h q2
        rw [q3, haa] at this; cases this
      · exact h
      · have := q4 p h p2
        rw [q3, p3, haa] at this; cases this
    by_cases c : (M ||| 2 ^ p) ∈ S
    · obtain ⟨S2, X2, g1, g2, g3, g4, g5, g6, g7⟩ := ih (pre ++ [a]) (by rw [← hp]; simp) (fun b hb => hf b (List.mem_cons_of_mem _ hb)) S X hg
      rw [List.length_append, List.length_singleton] at g7
      refine ⟨S2, X2, g1, g2, g3, g4, g5, fun q q1 q2 q3 q4 => ?_, Ev.succ ?_⟩
      · rcases List.mem_cons.1 q3 with h | h
        · rw [same q q1 q2 h q4]; exact g2 _ c
        · exact g6 q q1 q2 h q4
      · simp only [impl_ties_countPrefixes.l2]
        refine Ev.pos (by rw [ints_length]; omega) (Ev.pos (by omega) ?_)
        rw [hrd]
        refine Ev.bind e1 (Ev.bind e2 (Ev.bind e3 ?_))
        rw [hk]
        refine Ev.pos (hmem.2 c) ?_
        rw [w64' (by omega), show (pre.length : Int) + 1 = ((pre.length + 1 : Nat) : Int) by omega]
        exact g7
    · have hg2 : gdP f w ((M ||| 2 ^ p) :: S) (X ++ [M ||| 2 ^ p]) := by
        refine ⟨List.nodup_cons.2 ⟨c, hg.1⟩, fun N hN => ?_, ?_, fun N hN => ?_⟩
        · rcases List.mem_cons.1 hN with rfl | h
          · exact p5
          · exact hg.2.1 N h
        · have := hg.2.2.1
          simp; omega
        · rcases List.mem_append.1 hN with h | h
          · exact List.mem_cons_of_mem _ (hg.2.2.2 N h)
          · rw [List.mem_singleton.1 h]; exact List.mem_cons_self ..
      obtain ⟨S2, X2, g1, g2, g3, g4, g5, g6, g7⟩ := ih (pre ++ [a]) (by rw [← hp]; simp) (fun b hb => hf b (List.mem_cons_of_mem _ hb)) _ _ hg2
      rw [List.length_append, List.length_singleton] at g7
      refine ⟨S2, X2, g1, fun x h => g2 x (List.mem_cons_of_mem _ h), fun x h => g3 x (List.mem_append_left _ h), fun x h => ?_, ?_, fun q q1 q2 q3 q4 => ?_, Ev.succ ?_⟩
      · rcases g4 x h with h | h
        · rcases List.mem_cons.1 h with rfl | h
          · exact .inr (g3 _ (by simp))
          · exact .inl h
        · exact .inr h
      · simp only [List.length_cons, List.length_append, List.length_nil] at g5
        omega
      · rcases List.mem_cons.1 q3 with h | h
        · rw [same q q1 q2 h q4]; exact g2 _ (List.mem_cons_self ..)
        · exact g6 q q1 q2 h q4
      · have hx := hg.2.2.1
        simp only [impl_ties_countPrefixes.l2]
        refine Ev.pos (by rw [ints_length]; omega) (Ev.pos (by omega) ?_)
        rw [hrd]
        refine Ev.bind e1 (Ev.bind e2 (Ev.bind e3 ?_))
        rw [hk]
        refine Ev.neg (fun z => c (hmem.1 z)) (Ev.pos ⟨by unfold rwP; rw [List.length_map]; omega, by rw [List.length_map]; omega⟩ ?_)
        rw [w64' (by omega), show (pre.length : Int) + 1 = ((pre.length + 1 : Nat) : Int) by omega]
        unfold rwP at g7 ⊢
        rw [List.map_append] at g7
        exact g7
theorem cp_l1 (L : List Nat) (hL : L.length ≤ 1000000000) : ∀ (suf pre : List Nat), pre ++ suf = L → (∀ M ∈ suf, dnP f w M) → ∀ S X : List Nat, gdP f w S X → ∃ S2 X2, gdP f w S2 X2 ∧ (∀ x ∈ S, x ∈ S2) ∧ (∀ x ∈ X, x ∈ X2) ∧ (∀ x ∈ S2, x ∈ S ∨ x ∈ X2) ∧ S.length + X2.length = S2.length + X.length ∧ (∀ M ∈ suf, clP f w M S2) ∧
    Ev (fun k => impl_ties_countPrefixes.l1 k (mat n f) (ints w) (rwP w L) (pre.length : Int) (S.map (kyP w)) (rwP w X)) (S2.map (kyP w), rwP w X2) := by
  intro suf
  induction suf with
  | nil =>
    intro pre hp _ S X hg
    rw [List.append_nil] at hp
    subst hp
    refine ⟨S, X, hg, fun x h => h, fun x h => h, fun x h => .inl h, rfl, fun M h => (by cases h), Ev.succ ?_⟩
    simp only [impl_ties_countPrefixes.l1]
    exact Ev.neg (by unfold rwP; rw [List.length_map]; omega) (Ev.now _)
  | cons M suf ih =>
    intro pre hp hd S X hg
    have hlen : L.length = pre.length + (suf.length + 1) := by rw [← hp]; simp
    have hM := hd M (List.mem_cons_self ..)
    have hrl := rstP_length w M w.length
    have hrw : ∀ x ∈ rstP w M w.length, x < n := fun x hx => by
      obtain ⟨q, q1, _, rfl⟩ := (rstP_mem w _ _ x).1 hx
      exact getD_lt hw q1
    have hrd : (rwP w L).getD ((pre.length : Int)).toNat [] = ints (rstP w M w.length) := by
      rw [Int.toNat_natCast, ← hp, List.getD_eq_getElem?_getD]
      unfold rwP
      rw [List.getElem?_map, List.getElem?_append_right (Nat.le_refl _)]
      simp
    have hmk := mk_lt n (isFirst f (rstP w M w.length))
    have h8 : 2 ^ n ≤ 2 ^ 8 := Nat.pow_le_pow_right (by decide) hn
    have e1 := firsts_ev n hn f (rstP w M w.length) (by omega) hrw
    have e2 := members_ev (mk n (isFirst f (rstP w M w.length))) (by omega)
    have hmb : ∀ a, a ∈ bitsOf (mk n (isFirst f (rstP w M w.length))) ↔ a < n ∧ isFirst f (rstP w M w.length) a = true := fun a => by
      rw [mem_bitsOf (by omega), testBit_mk, Bool.and_eq_true, decide_eq_true_iff]
    have hml : (bitsOf (mk n (isFirst f (rstP w M w.length)))).length ≤ 1000 := by
      have h1 := bitsOf_length (mk n (isFirst f (rstP w M w.length)))
      omega
    obtain ⟨S2, X2, a1, a2, a3, a4, a5, a6, a7⟩ := cp_l2 hn hr hl hw hM _ hml _ [] rfl (fun a ha => ((hmb a).1 ha).2) S X hg
    obtain ⟨S3, X3, b1, b2, b3, b4, b5, b6, b7⟩ := ih (pre ++ [M]) (by rw [← hp]; simp) (fun N hN => hd N (List.mem_cons_of_mem _ hN)) S2 X2 a1
    rw [List.length_append, List.length_singleton] at b7
    refine ⟨S3, X3, b1, fun x h => b2 x (a2 x h), fun x h => b3 x (a3 x h), fun x h => ?_, by omega, fun N hN => ?_, Ev.succ ?_⟩
    · rcases b4 x h with h | h
      · rcases a4 x h with h | h
        · exact .inl h
        · exact .inr (b3 x h)
      · exact .inr h
    · rcases List.mem_cons.1 hN with rfl | hN
      · intro p p1 p2 p3
        refine b2 _ (a6 p p1 p2 ((hmb _).2 ⟨getD_lt hw p1, ?_⟩) p3)
        exact (rstP_first f w N _ w.length).2 ⟨p, p1, p2, rfl, p3⟩
      · exact b6 N hN
    · simp only [impl_ties_countPrefixes.l1]
      refine Ev.pos (by unfold rwP; rw [List.length_map]; omega) (Ev.pos (by omega) ?_)
      rw [hrd]
      refine Ev.bind e1 (Ev.bind e2 (Ev.bind a7 ?_))
      rw [w64' (by omega), show (pre.length : Int) + 1 = ((pre.length + 1 : Nat) : Int) by omega]
      exact b7
omit hn hr hl hw in
theorem cl_all {S : List Nat} (h0 : 0 ∈ S) (hc : ∀ M ∈ S, clP f w M S) : ∀ (b M : Nat), M ≤ b → dnP f w M → M ∈ S := by
  intro b
  induction b with
  | zero => intro M hM _; rw [show M = 0 by omega]; exact h0
  | succ b ih =>
    intro M hM hd
    by_cases z : M = 0
    · rw [z]; exact h0
    · obtain ⟨p, M1, p1, p2, p3, p4, p5, _⟩ := hd.top z
      have hlt : M1 < M := by
        rw [p4]
        have h1 : M1 ≤ M1 ||| 2 ^ p := Nat.left_le_or
        have h2 : M1 ≠ M1 ||| 2 ^ p := fun e => by
          have := congrArg (fun x => x.testBit p) e
          simp only [testBit_add, p3, decide_true, Bool.or_true] at this
          cases this
        omega
      rw [p4]
      exact hc M1 (ih M1 (by omega) p2) p p1 p3 p5
theorem cp_l0 : ∀ (d : Nat) (S L : List Nat), gdP f w S L → 0 ∈ S → (∀ M ∈ S, M ∈ L ∨ clP f w M S) → 2 * (2 ^ w.length - S.length) + (if L = [] then 0 else 1) ≤ d → Ev (fun k => impl_ties_countPrefixes.l0 k (mat n f) (ints w) 16777216 (S.map (kyP w)) (rwP w L)) (((dns f w).length : Nat) : Int) := by
  have hp24 : 2 ^ w.length ≤ 2 ^ 24 := Nat.pow_le_pow_right (by decide) hl
  have fin : ∀ S : List Nat, gdP f w S [] → 0 ∈ S → (∀ M ∈ S, M ∈ ([] : List Nat) ∨ clP f w M S) → Ev (fun k => impl_ties_countPrefixes.l0 k (mat n f) (ints w) 16777216 (S.map (kyP w)) (rwP w [])) (((dns f w).length : Nat) : Int) := by
    intro S hg h0 hc
    have hfew := hg.few
    have hall := cl_all h0 (fun M hM => (hc M hM).resolve_left (by simp))
    have l1 := nodup_le S (dns f w) hg.1 (fun M hM => (mem_dns).2 (hg.2.1 M hM))
    have l2 := nodup_le (dns f w) S dns_nodup (fun M hM => hall M M (Nat.le_refl _) (mem_dns.1 hM))
    refine Ev.succ ?_
    simp only [impl_ties_countPrefixes.l0]
    refine Ev.neg (by simp [rwP]) (Ev.const ?_)
    rw [w64' (by omega), List.length_map]
    have le : S.length = (dns f w).length := Nat.le_antisymm l1 l2
    rw [le]
    exact congrArg some (Int.min_eq_left (by omega))
  intro d
  induction d with
  | zero =>
    intro S L hg h0 hc hd
    have : L = [] := by
      by_cases e : L = []
      · exact e
      · rw [if_neg e] at hd; omega
    subst this
    exact fin S hg h0 hc
  | succ d ih =>
    intro S L hg h0 hc hd
    by_cases e : L = []
    · subst e
      exact fin S hg h0 hc
    · rw [if_neg e] at hd
      have hfew := hg.few
      have hLl := hg.2.2.1
      have hpos : 0 < L.length := List.length_pos_iff.2 e
      obtain ⟨S2, X2, a1, a2, a3, a4, a5, a6, a7⟩ := cp_l1 hn hr hl hw L (by omega) L [] rfl (fun M hM => hg.2.1 M (hg.2.2.2 M hM)) S [] ⟨hg.1, hg.2.1, by simp, fun M h => by cases h⟩
      have hfew2 := a1.few
      simp only [List.length_nil] at a5
      have nx := ih S2 X2 a1 (a2 0 h0) (fun M hM => by
        rcases a4 M hM with h | h
        · right
          rcases hc M h with h | h
          · exact a6 M h
          · exact fun p p1 p2 p3 => a2 _ (h p p1 p2 p3)
        · exact .inl h) (by
        by_cases e2 : X2 = []
        · rw [if_pos e2]; omega
        · rw [if_neg e2]
          have := List.length_pos_iff.2 e2
          omega)
      refine Ev.succ ?_
      simp only [impl_ties_countPrefixes.l0]
      refine Ev.pos ⟨by unfold rwP; rw [List.length_map]; omega, by rw [List.length_map]; omega⟩ ?_
      exact Ev.bind a7 nx
theorem countPrefixes_ev : Ev (fun k => impl_ties_countPrefixes.f k (mat n f) (ints w) 16777216) (((dns f w).length : Nat) : Int) := by
  simp only [impl_ties_countPrefixes.f]
  have h := cp_l0 hn hr hl hw _ [0] [0] ⟨by simp, fun M hM => by rw [List.mem_singleton.1 hM]; exact dnP_zero f w, by simp, fun M hM => hM⟩ (by simp) (fun M hM => .inl hM) (Nat.le_refl _)
  have e : kyP w 0 = 0 := by unfold kyP; rw [rstP_zero]; omega
  simp only [List.map_cons, List.map_nil, e, rwP, rstP_zero] at h
  exact h
end Go.Proofs.YthgapkbkhoeleaaDoor.PAll
