import Derived.Test.YtcboobfmenonhaaDoorPAllx1
import Derived.Test.YtcboobfmenonhaaDoorPAllx2
import Derived.Test.YtcboobfmenonhaaDoorPAllx3
import Derived.Test.YtcboobfmenonhaaDoorPAllx4
import Derived.Test.YtcboobfmenonhaaDoorPAllx5
import Derived.Test.YtcboobfmenonhaaDoorPAllx6
import Derived.Test.YtcboobfmenonhaaDoorV0
import Derived.Test.YtcboobfmenonhaaDoorQBase
import Derived.Test.YtcboobfmenonhaaDoorQDraw
import Derived.Test.YtcboobfmenonhaaDoorQMask
import Derived.Test.YtcboobfmenonhaaDoorQMeet
import Derived.Test.YtcboobfmenonhaaDoorQOrder
import Derived.Test.YtcboobfmenonhaaDoorQParts
import Derived.Test.YtcboobfmenonhaaDoorQRev
import Derived.Test.YtcboobfmenonhaaDoorQTrace
set_option linter.unusedVariables false
set_option linter.unusedSimpArgs false
namespace Go.Proofs.YtcboobfmenonhaaDoor.PAll
open Go.RowKit Go.Proofs.YtcboobfmenonhaaDoorW.PrintWords Go.Proofs.YtcboobfmenonhaaDoorW.PrintMore Go.Proofs.YtcboobfmenonhaaDoor.Q
theorem l01In_eq (a lo hi : Int) : spec_l01In.f a lo hi = some (decide (lo ≤ a ∧ a ≤ hi)) := by
  unfold spec_l01In.f
  by_cases h : lo ≤ a
  · rw [if_pos h]; simp [h]
  · rw [if_neg h]; simp [h]
theorem inRange_eq (a lo hi : Int) : impl_inRange.f a lo hi = some (decide (lo ≤ a ∧ a ≤ hi)) := by
  unfold impl_inRange.f
  by_cases h : lo ≤ a
  · rw [if_pos h]; simp [h]
  · rw [if_neg h]; simp [h]
theorem l01One_eq (n : Nat) (h : n ≤ 61) : spec_l01One.f (n : Int) = some ((2 ^ n : Nat) : Int) := by
  unfold spec_l01One.f
  rw [u64_nat n (by omega), if_pos (by omega), shl_one n h]
theorem l01Full_eq (n : Nat) (h : n ≤ 61) : spec_l01Full.f (n : Int) = some ((2 ^ n - 1 : Nat) : Int) := by
  unfold spec_l01Full.f
  rw [l01One_eq n h]
  have h1 : 0 < 2 ^ n := Nat.two_pow_pos n
  have h2 : (2 : Nat) ^ n ≤ 2 ^ 61 := Nat.pow_le_pow_right (by decide) h
  simp only [Option.bind_some]
  rw [w64' (by omega)]
  congr 1
  omega
theorem l01Bit_eq (m i : Nat) (hm : m < 2 ^ 62) (h : i ≤ 64) : spec_l01Bit.f (m : Int) (i : Int) = some (m.testBit i) := by
  unfold spec_l01Bit.f
  rw [u64_nat i (by omega), if_pos (by omega), bit_at m i hm h]
theorem one_eq (n : Nat) (h : n ≤ 61) : impl_one.f (n : Int) = some ((2 ^ n : Nat) : Int) := by
  unfold impl_one.f
  rw [if_pos (by omega), shl_one n h]
theorem has_eq (m i : Nat) (hm : m < 2 ^ 62) (h : i ≤ 64) : impl_has.f (m : Int) (i : Int) = some (m.testBit i) := by
  unfold impl_has.f
  rw [if_pos (by omega), bit_at m i hm h]
theorem least_eq (m : Nat) (hm : m < 2 ^ 62) : impl_least.f (m : Int) = some ((Lib.ctz 64 m : Nat) : Int) := by
  unfold impl_least.f bits_TrailingZeros64.f
  rw [u64_nat m (by omega), if_pos (by omega), Int.toNat_natCast]
  rfl
theorem members_l0 : ∀ (N m : Nat) (acc : List Int), m ≤ N → m < 2 ^ 62 → acc.length + (bitsOf m).length ≤ 1000 → Ev (fun k => impl_members.l0 k (m : Int) acc) (acc ++ intsOf m) := by
  intro N
  induction N with
  | zero =>
    intro m acc hN hm hl
    obtain rfl : m = 0 := by omega
    refine Ev.succ ?_
    simp only [impl_members.l0]
    refine Ev.pos (by simp) (Ev.const ?_)
    simp [intsOf, bitsOf_zero]
  | succ N ih =>
    intro m acc hN hm hl
    refine Ev.succ ?_
    simp only [impl_members.l0]
    by_cases h0 : m = 0
    · subst h0
      refine Ev.pos (by simp) (Ev.const ?_)
      simp [intsOf, bitsOf_zero]
    · rw [bitsOf_cons m h0 (by omega)] at hl
      simp only [List.length_cons] at hl
      refine Ev.neg (by omega) ?_
      rw [least_eq m hm]
      refine Ev.some_bind (Ev.pos (by omega) ?_)
      have hlt := and_pred_lt m h0
      rw [w64' (by omega), show (m : Int) - 1 = ((m - 1 : Nat) : Int) by omega, b_and m (m - 1) hm (by omega)]
      refine Ev.val (ih (m &&& (m - 1)) (acc ++ [((Lib.ctz 64 m : Nat) : Int)]) (by omega) (by omega) (by simp; omega)) ?_
      unfold intsOf
      rw [bitsOf_cons m h0 (by omega)]
      simp
theorem bitsOf_length (m : Nat) : (bitsOf m).length ≤ 64 := by
  unfold bitsOf
  have := List.length_filter_le (fun i => m.testBit i) (List.range 64)
  simpa using this
theorem members_ev (m : Nat) (hm : m < 2 ^ 62) : Ev (fun k => impl_members.f k (m : Int)) (intsOf m) := by
  simp only [impl_members.f]
  exact Ev.val (members_l0 m m [] (Nat.le_refl _) hm (by have := bitsOf_length m; simp; omega)) (by simp)
theorem l01Masks_l0 (n : Nat) (hn : n ≤ 61) (l : List Int) (hl : l.length ≤ 17592186044416) : ∀ (d i : Nat), i + d = l.length → (∀ j (h : j < l.length), j < i → 0 ≤ l[j] ∧ l[j] ≤ ((2 ^ n - 1 : Nat) : Int)) →
    Ev (fun k => spec_l01Masks.l0 k (n : Int) l i) (decide (∀ x ∈ l, 0 ≤ x ∧ x ≤ ((2 ^ n - 1 : Nat) : Int))) := by
  intro d
  induction d with
  | zero =>
    intro i hi hp
    refine Ev.succ ?_
    simp only [spec_l01Masks.l0]
    refine Ev.neg (by omega) (Ev.const ?_)
    rw [decide_eq_true fun x hx => ?_]
    obtain ⟨j, hj, rfl⟩ := List.getElem_of_mem hx
    exact hp j hj (by omega)
  | succ d ih =>
    intro i hi hp
    refine Ev.succ ?_
    simp only [spec_l01Masks.l0, l01Full_eq n hn, l01In_eq]
    refine Ev.pos (by omega) (Ev.pos (by omega) (Ev.some_bind (Ev.some_bind ?_)))
    rw [rd_lt l i (by omega)]
    simp only [decide_eq_true_eq]
    refine Ev.ite (fun c => ?_) (fun c => ?_)
    · rw [w64' (by omega)]
      refine ih (i + 1) (by omega) (fun j h hji => ?_)
      by_cases e : j = i
      · subst e; exact c
      · exact hp j h (by omega)
    · refine Ev.const ?_
      rw [decide_eq_false fun h => c (h _ (List.getElem_mem (by omega)))]
theorem l01Masks_ev (n : Nat) (hn : n ≤ 61) (l : List Int) (hl : l.length ≤ 17592186044416) : Ev (fun k => spec_l01Masks.f k (n : Int) l) (decide (∀ x ∈ l, 0 ≤ x ∧ x ≤ ((2 ^ n - 1 : Nat) : Int))) := by
  simp only [spec_l01Masks.f]
  exact l01Masks_l0 n hn l hl l.length 0 (by omega) (by intro j h hj; omega)
theorem l02Is_loop (m : Nat) (hm : m ≤ 8) (f : Nat → Nat → Bool) : ∀ (d a : Nat), a + d = m → (∀ i, i < a → f i i = true ∧ ∀ k, k < m → f i k = f k i) →
    Ev (fun k => spec_l02Is.l0 k (a : Int) (m : Int) (mat m f)) (decide (∀ i, i < m → f i i = true ∧ ∀ k, k < m → f i k = f k i)) := by
  intro d
  induction d with
  | zero =>
    intro a ha hp
    refine Ev.succ ?_
    simp only [spec_l02Is.l0]
    refine Ev.neg (by omega) (Ev.const ?_)
    rw [decide_eq_true fun i hi => hp i (by omega)]
  | succ d ih =>
    intro a ha hp
    have hb : ∀ i k, i < m → k < m → spec_l01Bit.f (rd (mat m f) (i : Int)) (k : Int) = some (f i k) := fun i k hi hk => by
      rw [rd_mat m f i hi, l01Bit_eq _ k (by have := mk_lt m (f i); have := pow24 (show m ≤ 24 by omega); omega) (by omega), testBit_mk]
      simp [hk]
    refine Ev.succ ?_
    simp only [spec_l02Is.l0]
    refine Ev.pos (by omega) (Ev.pos (by omega) (Ev.pos (by simp; omega) ?_))
    rw [hb a a (by omega) (by omega)]
    refine Ev.some_bind ?_
    by_cases c : f a a = true
    · refine Ev.pos c ?_
      have inner : ∀ (e b : Nat), b + e = m → (∀ k, k < b → f a k = f k a) → Ev (fun k => spec_l02Is.l1 k (a : Int) (b : Int) (m : Int) (mat m f)) (decide (∀ i, i < m → f i i = true ∧ ∀ k, k < m → f i k = f k i)) := by
        intro e
        induction e with
        | zero =>
          intro b hbe hq
          refine Ev.succ ?_
          simp only [spec_l02Is.l1]
          refine Ev.neg (by omega) ?_
          rw [w64' (by omega)]
          refine ih (a + 1) (by omega) (fun i hi => ?_)
          by_cases e : i = a
          · subst e; exact ⟨c, fun k hk => hq k (by omega)⟩
          · exact hp i (by omega)
        | succ e ihe =>
          intro b hbe hq
          refine Ev.succ ?_
          simp only [spec_l02Is.l1]
          refine Ev.pos (by omega) (Ev.pos (by omega) (Ev.pos (by simp; omega) ?_))
          rw [hb a b (by omega) (by omega)]
          refine Ev.some_bind (Ev.pos (by omega) (Ev.pos (by simp; omega) ?_))
          rw [hb b a (by omega) (by omega)]
          refine Ev.some_bind ?_
          by_cases g : f a b = f b a
          · refine Ev.neg (by rw [g]; simp) ?_
            rw [w64' (by omega)]
            refine ihe (b + 1) (by omega) (fun k hk => ?_)
            by_cases e : k = b
            · subst e; exact g
            · exact hq k (by omega)
          · refine Ev.pos (by simpa using g) (Ev.const ?_)
            rw [decide_eq_false fun h => g ((h a (by omega)).2 b (by omega))]
      exact inner m 0 (by omega) (by intro k hk; omega)
    · refine Ev.neg c (Ev.const ?_)
      rw [decide_eq_false fun h => c (h a (by omega)).1]
theorem l02Is_ev (n : Int) (D : List Int) : Ev (fun k => spec_l02Is.f k n D) (decide (Alpha n D)) := by
  have hj : ∀ n D, ¬ Alpha n D → Ev (fun k => spec_l02Is.j0 k true n D) (decide (Alpha n D)) := fun n D h => by
    refine Ev.succ ?_
    simp only [spec_l02Is.j0]
    exact Ev.pos (by simp) (Ev.const (by rw [decide_eq_false h]))
  simp only [spec_l02Is.f, l01In_eq]
  refine Ev.some_bind ?_
  simp only [decide_eq_true_eq]
  refine Ev.ite (fun c1 => ?_) (fun c1 => hj n D fun h => c1 h.1)
  refine Ev.ite (fun c2 => ?_) (fun c2 => hj n D fun h => c2 h.2.1)
  obtain ⟨m, rfl⟩ := Int.eq_ofNat_of_zero_le c1.1
  have hl : D.length = m := by omega
  have h1 : 0 < 2 ^ m := Nat.two_pow_pos m
  refine Ev.bind (l01Masks_ev m (by omega) D (by omega)) ?_
  refine Ev.succ ?_
  simp only [spec_l02Is.j0]
  by_cases c3 : ∀ x ∈ D, 0 ≤ x ∧ x ≤ ((2 ^ m - 1 : Nat) : Int)
  · have c3' : ∀ x ∈ D, 0 ≤ x ∧ x < ((2 ^ D.length : Nat) : Int) := fun x hx => by have := c3 x hx; rw [hl]; omega
    have e : D = mat m (bitR D) := by have := eq_mat D c3'; rwa [hl] at this
    refine Ev.neg (by simpa using c3) ?_
    have := l02Is_loop m (by omega) (bitR D) m 0 (by omega) (by intro i hi; omega)
    rw [← e] at this
    refine Ev.val this ?_
    rw [decide_eq_decide]
    exact ⟨fun h => ⟨c1, c2, c3', fun a ha => ⟨(h a (by omega)).1, fun b hb => (h a (by omega)).2 b (by omega)⟩⟩, fun h a ha => ⟨(h.2.2.2 a (by omega)).1, fun b hb => (h.2.2.2 a (by omega)).2 b (by omega)⟩⟩
  · refine Ev.pos (by simpa using c3) (Ev.const ?_)
    rw [decide_eq_false fun h => c3 fun x hx => ?_]
    have := h.2.2.1 x hx
    rw [hl] at this
    omega
theorem IsRelation_eq (r : List Int) : impl_IsRelation.f r = some (decide (r.length ≤ 24 ∧ ∀ x ∈ r, 0 ≤ x ∧ x < ((2 ^ r.length : Nat) : Int))) := by
  unfold impl_IsRelation.f
  by_cases h : r.length ≤ 24
  · have h1 : 0 < 2 ^ r.length := Nat.two_pow_pos _
    have h2 := pow24 h
    rw [if_pos (by omega)]
    simp only [impl_length_int64.f, Option.bind_some, one_eq r.length (by omega), impl_allIn.f]
    rw [w64' (by omega)]
    congr 1
    rw [Bool.eq_iff_iff]
    simp only [List.all_eq_true, decide_eq_true_eq]
    exact ⟨fun g => ⟨h, fun x hx => by have := g x hx; omega⟩, fun g x hx => by have := g.2 x hx; omega⟩
  · rw [if_neg (by omega)]
    congr 1
    symm
    rw [decide_eq_false fun g => h g.1]
/-- one round for each row: bit i of the k-th mask -/
theorem converse_l1 (n : Nat) (hn : n ≤ 24) (r : List Int) (i : Nat) (hi : i < n) (L : Int) (R : List Int) (ms : List Nat) (hml : ms.length ≤ 64) (hms : ∀ x ∈ ms, x < n) :
    ∀ (d j : Nat) (g : Nat → Nat → Bool), j + d = ms.length → (Ev (fun k => impl_converse.l0 k (mat n fun a b => g a b || (decide (b = i) && decide (a ∈ ms.drop j))) r L ((i + 1 : Nat) : Int)) R) →
    Ev (fun k => impl_converse.l1 k (mat n g) (i : Int) r L (i : Int) (ints ms) (ms.length : Int) (j : Int)) R := by
  intro d
  induction d with
  | zero =>
    intro j g hj hR
    refine Ev.succ ?_
    simp only [impl_converse.l1]
    refine Ev.neg (by omega) ?_
    rw [w64' (by omega)]
    rw [List.drop_of_length_le (by omega)] at hR
    simpa using hR
  | succ d ih =>
    intro j g hj hR
    have hj' : j < ms.length := by omega
    have hx := hms _ (List.getElem_mem hj')
    refine Ev.succ ?_
    simp only [impl_converse.l1]
    refine Ev.pos (by omega) (Ev.pos (by omega) (Ev.pos (by simp; omega) ?_))
    rw [rd_ints ms j hj']
    refine Ev.pos (by omega) (Ev.pos (by simp; omega) ?_)
    rw [one_eq i (by omega), rd_mat n g _ hx]
    refine Ev.some_bind ?_
    have hg := mk_lt n (g ms[j])
    have h24 := pow24 hn
    have hp : (2 : Nat) ^ i < 2 ^ n := Nat.pow_lt_pow_right (by decide) hi
    rw [b_or _ _ (by omega) (by omega), w64' (by omega)]
    have e : (mat n g).set ((ms[j] : Int)).toNat (((mk n (g ms[j]) ||| 2 ^ i : Nat)) : Int) = mat n fun a b => g a b || (decide (b = i) && decide (a = ms[j])) := by
      rw [Int.toNat_natCast]
      apply List.ext_getElem
      · simp
      · intro q h1 h2
        have hq : q < n := by simpa using h1
        rw [List.getElem_set]
        by_cases e : ms[j] = q
        · rw [if_pos e]
          simp only [mat, List.getElem_map, List.getElem_range]
          congr 1
          refine bits_ext fun b => ?_
          rw [Nat.testBit_or, testBit_mk, testBit_mk, testBit_one, ← e]
          by_cases hb : b = i
          · subst hb; simp [hi]
          · simp [hb, show ¬ i = b from fun h => hb h.symm]
        · rw [if_neg e]
          simp only [mat, List.getElem_map, List.getElem_range]
          congr 1
          exact mk_congr fun b _ => by simp [show ¬ q = ms[j] from fun h => e h.symm]
    rw [e]
    refine ih (j + 1) _ (by omega) ?_
    have e2 : (fun a b => (g a b || (decide (b = i) && decide (a = ms[j]))) || (decide (b = i) && decide (a ∈ ms.drop (j + 1)))) = fun a b => g a b || (decide (b = i) && decide (a ∈ ms.drop j)) := by
      funext a b
      have hm : a ∈ ms.drop j ↔ a = ms[j] ∨ a ∈ ms.drop (j + 1) := by rw [List.drop_eq_getElem_cons hj', List.mem_cons]
      rw [Bool.eq_iff_iff]
      simp only [Bool.or_eq_true, Bool.and_eq_true, decide_eq_true_eq, hm]
      constructor
      · rintro ((h | ⟨h1, h2⟩) | ⟨h1, h2⟩)
        · exact .inl h
        · exact .inr ⟨h1, .inl h2⟩
        · exact .inr ⟨h1, .inr h2⟩
      · rintro (h | ⟨h1, h2 | h2⟩)
        · exact .inl (.inl h)
        · exact .inl (.inr ⟨h1, h2⟩)
        · exact .inr ⟨h1, h2⟩
    rw [e2]
    exact hR
theorem converse_l0 (n : Nat) (hn : n ≤ 24) (f : Nat → Nat → Bool) : ∀ (d i : Nat), i + d = n →
    Ev (fun k => impl_converse.l0 k (mat n fun a b => decide (b < i) && f b a) (mat n f) (n : Int) (i : Int)) (mat n fun a b => f b a) := by
  intro d
  induction d with
  | zero =>
    intro i hi
    refine Ev.succ ?_
    simp only [impl_converse.l0]
    refine Ev.neg (by omega) (Ev.const ?_)
    congr 1
    exact mat_congr fun a b ha hb => by simp [show b < i by omega]
  | succ d ih =>
    intro i hi
    refine Ev.succ ?_
    simp only [impl_converse.l0]
    refine Ev.pos (by omega) (Ev.pos (by omega) (Ev.pos (by simp; omega) ?_))
    have hlt := mk_lt n (f i)
    have h24 := pow24 hn
    have hmem : ∀ x, x ∈ bitsOf (mk n (f i)) ↔ x < n ∧ f i x = true := fun x => by
      rw [mem_bitsOf (by omega), testBit_mk]; simp
    refine Ev.bind (by rw [rd_mat n f i (by omega)]; exact members_ev _ (by omega)) ?_
    have := converse_l1 n hn (mat n f) i (by omega) (n : Int) (mat n fun a b => f b a) (bitsOf (mk n (f i))) (bitsOf_length _) (fun x hx => ((hmem x).1 hx).1) (bitsOf (mk n (f i))).length 0 (fun a b => decide (b < i) && f b a) (by omega) ?_
    · have e : intsOf (mk n (f i)) = ints (bitsOf (mk n (f i))) := rfl
      rw [e, ints_length]
      exact this
    · rw [List.drop_zero]
      have e : (mat n fun a b => decide (b < i) && f b a || (decide (b = i) && decide (a ∈ bitsOf (mk n (f i))))) = mat n fun a b => decide (b < i + 1) && f b a := by
        refine mat_congr fun a b ha hb => ?_
        rw [Bool.eq_iff_iff]
        simp only [Bool.or_eq_true, Bool.and_eq_true, decide_eq_true_eq, hmem]
        constructor
        · rintro (⟨h1, h2⟩ | ⟨rfl, _, h2⟩)
          · exact ⟨by omega, h2⟩
          · exact ⟨by omega, h2⟩
        · rintro ⟨h1, h2⟩
          by_cases e : b = i
          · subst e; exact .inr ⟨rfl, ha, h2⟩
          · exact .inl ⟨by omega, h2⟩
      rw [e]
      exact ih (i + 1) (by omega)
theorem converse_ev (n : Nat) (hn : n ≤ 24) (f : Nat → Nat → Bool) : Ev (fun k => impl_converse.f k (mat n f)) (mat n fun a b => f b a) := by
  simp only [impl_converse.f]
  refine Ev.pos (by omega) (Ev.pos (by simp; omega) ?_)
  have e : List.replicate (((mat n f).length : Int)).toNat (0 : Int) = mat n fun a b => decide (b < 0) && f b a := by
    rw [mat_length, Int.toNat_natCast]
    apply List.ext_getElem
    · simp
    · intro q h1 h2
      simp only [List.getElem_replicate, mat, List.getElem_map, List.getElem_range]
      rw [show mk n (fun b => decide (b < 0) && f b q) = 0 from bits_ext fun b => by rw [testBit_mk]; simp]
      rfl
  rw [e, mat_length]
  exact converse_l0 n hn f n 0 (by omega)
theorem IsAlphabet_loop (m : Nat) (hm : m ≤ 8) (f : Nat → Nat → Bool) : ∀ (d a : Nat), a + d = m → (∀ i, i < a → f i i = true ∧ ∀ k, k < m → f i k = f k i) →
    Ev (fun k => impl_IsAlphabet.l0 k (mat m fun a b => f b a) (m : Int) (a : Int) (m : Int) (mat m f)) (decide (∀ i, i < m → f i i = true ∧ ∀ k, k < m → f i k = f k i)) := by
  intro d
  induction d with
  | zero =>
    intro a ha hp
    refine Ev.succ ?_
    simp only [impl_IsAlphabet.l0]
    refine Ev.neg (by omega) (Ev.const ?_)
    rw [decide_eq_true fun i hi => hp i (by omega)]
  | succ d ih =>
    intro a ha hp
    refine Ev.succ ?_
    simp only [impl_IsAlphabet.l0]
    refine Ev.pos (by omega) (Ev.pos (by omega) (Ev.pos (by simp; omega) (Ev.pos (by simp; omega) ?_)))
    rw [rd_mat m _ a (by omega), rd_mat m f a (by omega)]
    have hlt := mk_lt m fun b => f b a
    have h24 := pow24 (show m ≤ 24 by omega)
    refine Ev.ite (fun c => ?_) (fun c => ?_)
    · have hc : ∀ k, k < m → f a k = f k a := fun k hk => by
        have := congrArg (fun z : Nat => z.testBit k) (Int.ofNat.inj c)
        simp only [testBit_mk, hk, decide_true, Bool.true_and] at this
        exact this.symm
      rw [has_eq _ a (by omega) (by omega), testBit_mk]
      refine Ev.some_bind ?_
      refine Ev.ite (fun g => ?_) (fun g => ?_)
      · rw [w64' (by omega)]
        refine ih (a + 1) (by omega) (fun i hi => ?_)
        by_cases e : i = a
        · subst e; exact ⟨by simpa [show i < m by omega] using g, hc⟩
        · exact hp i (by omega)
      · refine Ev.const ?_
        rw [decide_eq_false fun h => g (by simpa [show a < m by omega] using (h a (by omega)).1)]
    · refine Ev.const ?_
      rw [decide_eq_false fun h => c ?_]
      congr 1
      exact mk_congr fun k hk => ((h a (by omega)).2 k hk).symm
theorem IsAlphabet_ev (n : Int) (D : List Int) : Ev (fun k => impl_IsAlphabet.f k n D) (decide (Alpha n D)) := by
  have hj : ∀ n D, ¬ Alpha n D → Ev (fun k => impl_IsAlphabet.j0 k true n D) (decide (Alpha n D)) := fun n D h => by
    refine Ev.succ ?_
    simp only [impl_IsAlphabet.j0]
    exact Ev.pos (by simp) (Ev.const (by rw [decide_eq_false h]))
  simp only [impl_IsAlphabet.f, inRange_eq, impl_length_int64.f, IsRelation_eq]
  refine Ev.some_bind ?_
  simp only [decide_eq_true_eq]
  refine Ev.ite (fun c1 => Ev.some_bind ?_) (fun c1 => hj n D fun h => c1 h.1)
  refine Ev.ite (fun c2 => Ev.some_bind ?_) (fun c2 => hj n D fun h => c2 h.2.1)
  obtain ⟨m, rfl⟩ := Int.eq_ofNat_of_zero_le c1.1
  have hl : D.length = m := by omega
  by_cases c3 : ∀ x ∈ D, 0 ≤ x ∧ x < ((2 ^ D.length : Nat) : Int)
  · rw [decide_eq_true ⟨by omega, c3⟩]
    have e : D = mat m (bitR D) := by have := eq_mat D c3; rwa [hl] at this
    refine Ev.succ ?_
    simp only [impl_IsAlphabet.j0]
    refine Ev.neg (by simp) ?_
    have hc := converse_ev m (by omega) (bitR D)
    rw [← e] at hc
    refine Ev.bind hc ?_
    have := IsAlphabet_loop m (by omega) (bitR D) m 0 (by omega) (by intro i hi; omega)
    rw [← e] at this
    rw [mat_length]
    refine Ev.val this ?_
    rw [decide_eq_decide]
    exact ⟨fun h => ⟨c1, c2, c3, fun a ha => ⟨(h a (by omega)).1, fun b hb => (h a (by omega)).2 b (by omega)⟩⟩, fun h a ha => ⟨(h.2.2.2 a (by omega)).1, fun b hb => (h.2.2.2 a (by omega)).2 b (by omega)⟩⟩
  · rw [decide_eq_false fun h => c3 h.2]
    exact hj _ _ fun h => c3 h.2.2.1
theorem l03Word_l0 (n : Int) (hn : 0 ≤ n ∧ n ≤ 8) (w : List Int) (hw : w.length ≤ 24) : ∀ (d i : Nat), i + d = w.length → (∀ j (h : j < w.length), j < i → 0 ≤ w[j] ∧ w[j] ≤ n - 1) → Ev (fun k => spec_l03Word.l0 k n w i) (decide (Word n w)) := by
  intro d
  induction d with
  | zero =>
    intro i hi hp
    refine Ev.succ ?_
    simp only [spec_l03Word.l0]
    refine Ev.neg (by omega) (Ev.const ?_)
    have hW : Word n w := ⟨hw, fun x hx => by obtain ⟨j, hj, rfl⟩ := List.getElem_of_mem hx; exact hp j hj (by omega)⟩
    rw [decide_eq_true hW]
  | succ d ih =>
    intro i hi hp
    refine Ev.succ ?_
    simp only [spec_l03Word.l0, l01In_eq]
    refine Ev.pos (by omega) (Ev.pos (by omega) (Ev.some_bind ?_))
    rw [rd_lt w i (by omega), w64' (show -9000000000000000000 ≤ n - 1 ∧ n - 1 ≤ 9000000000000000000 by omega)]
    simp only [decide_eq_true_eq]
    refine Ev.ite (fun c => ?_) (fun c => ?_)
    · rw [w64' (by omega)]
      refine ih (i + 1) (by omega) (fun j h hji => ?_)
      by_cases e : j = i
      · subst e; exact c
      · exact hp j h (by omega)
    · refine Ev.const ?_
      rw [decide_eq_false fun h => c (h.2 _ (List.getElem_mem (by omega)))]
theorem l03Word_ev (n : Int) (hn : 0 ≤ n ∧ n ≤ 8) (w : List Int) : Ev (fun k => spec_l03Word.f k n w) (decide (Word n w)) := by
  simp only [spec_l03Word.f]
  refine Ev.ite (fun c => Ev.const ?_) (fun c => ?_)
  · rw [decide_eq_false fun h => by have := h.1; omega]
  · exact l03Word_l0 n hn w (by omega) w.length 0 (by omega) (by intro j h hj; omega)
theorem l03Code_ev (n : Int) (D u v : List Int) : Ev (fun k => spec_l03Code.f k n D u v) (if Alpha n D then (if Word n u ∧ Word n v then 0 else 2) else 1) := by
  simp only [spec_l03Code.f]
  refine Ev.bind (l02Is_ev n D) ?_
  simp only [decide_eq_true_eq]
  refine Ev.ite (fun c => ?_) (fun c => Ev.const (by rw [if_neg c]))
  rw [if_pos c]
  refine Ev.bind (l03Word_ev n c.1 u) ?_
  simp only [decide_eq_true_eq]
  refine Ev.ite (fun c1 => ?_) (fun c1 => Ev.const (by rw [if_neg fun h => c1 h.1]))
  refine Ev.bind (l03Word_ev n c.1 v) ?_
  simp only [decide_eq_true_eq]
  refine Ev.ite (fun c2 => Ev.const (by rw [if_pos ⟨c1, c2⟩])) (fun c2 => Ev.const (by rw [if_neg fun h => c2 h.2]))
theorem wordB_eq (n : Int) (hn : 0 ≤ n ∧ n ≤ 8) (w : List Int) : wordB n w = decide (Word n w) := by
  unfold wordB
  rw [Bool.eq_iff_iff, w64' (by omega)]
  rw [decide_eq_true_iff]
  simp [Word, List.all_eq_true]
theorem checkWords_ev (n : Int) (D : List Int) (ws : List (List Int)) : Ev (fun k => impl_checkWords.f k n D ws) (if Alpha n D then (if ∀ w ∈ ws, Word n w then 0 else 2) else 1) := by
  simp only [impl_checkWords.f]
  refine Ev.bind (IsAlphabet_ev n D) (Ev.const ?_)
  congr 1
  by_cases h : Alpha n D
  · rw [if_pos (by simpa using h), if_pos h]
    by_cases g : ∀ w ∈ ws, Word n w
    · rw [if_pos g, if_pos]
      rw [List.all_eq_true]
      exact fun w hw => by rw [wordB_eq n h.1]; simpa using g w hw
    · rw [if_neg g, if_neg]
      rw [List.all_eq_true]
      exact fun k => g fun w hw => by have := k w hw; rw [wordB_eq n h.1] at this; simpa using this
  · rw [if_neg (by simpa using h), if_neg h]
theorem l02Dep_eq (n : Nat) (hn : n ≤ 24) (f : Nat → Nat → Bool) (x : Int) (a b : Nat) (ha : a < n) (hb : b < n) : spec_l02Dep.f x (mat n f) (a : Int) (b : Int) = some (f a b) := by
  unfold spec_l02Dep.f
  have := mk_lt n (f a)
  have := pow24 hn
  rw [if_pos (by omega), if_pos (by simp; omega), rd_mat n f a ha, l01Bit_eq _ b (by omega) (by omega), testBit_mk]
  simp [hb]
theorem l01Own_eq (l : List Int) (h : l.length < 17592186044416) : spec_l01Own.f l = some l := by
  unfold spec_l01Own.f
  simp only [Option.bind_some, List.length_nil, List.nil_append]
  rw [if_pos (by omega)]
theorem l03First_l0 (n : Nat) (hn : n ≤ 24) (f : Nat → Nat → Bool) (a : Nat) (ha : a < n) : ∀ (suf pre : List Nat), (pre ++ suf).length ≤ 1000000 → (∀ x ∈ pre ++ suf, x < n) →
    Ev (fun k => spec_l03First.l0 k (ints (pre ++ suf)) (a : Int) (pre.length : Int) (n : Int) (mat n f)) (if isFirst f suf a = true then ((pre.length + suf.idxOf a : Nat) : Int) else -1) := by
  intro suf
  induction suf with
  | nil =>
    intro pre hl hw
    refine Ev.succ ?_
    simp only [spec_l03First.l0]
    exact Ev.neg (by simp) (Ev.const rfl)
  | cons b suf ih =>
    intro pre hl hw
    simp only [List.length_append, List.length_cons] at hl
    have hb : b < n := mem_mid hw
    refine Ev.succ ?_
    simp only [spec_l03First.l0]
    refine Ev.pos (by simp; omega) (Ev.pos (by omega) ?_)
    rw [rd_mid]
    refine Ev.ite (fun c => ?_) (fun c => ?_)
    · obtain rfl := Int.ofNat.inj c
      refine Ev.const ?_
      rw [if_pos (isFirst_head f b suf)]
      simp
    · have c' : ¬ b = a := fun e => c (by rw [e])
      rw [l02Dep_eq n hn f _ b a hb ha]
      refine Ev.some_bind (Ev.ite (fun g => ?_) (fun g => ?_))
      · refine Ev.const ?_
        rw [if_neg (by simp [isFirst, c', g])]
      · rw [w64' (by omega)]
        have := ih (pre ++ [b]) (by simp; omega) (by simpa using hw)
        simp only [List.append_assoc, List.cons_append, List.nil_append, List.length_append, List.length_cons, List.length_nil] at this
        refine Ev.val this ?_
        have e1 : isFirst f (b :: suf) a = isFirst f suf a := by simp [isFirst, c', g]
        rw [e1, idxOf_tail _ c']
        by_cases h : isFirst f suf a = true
        · rw [if_pos h, if_pos h]
          congr 1
          omega
        · rw [if_neg h, if_neg h]
theorem l03First_ev (n : Nat) (hn : n ≤ 24) (f : Nat → Nat → Bool) (w : List Nat) (hl : w.length ≤ 1000000) (hw : ∀ x ∈ w, x < n) (a : Nat) (ha : a < n) : Ev (fun k => spec_l03First.f k (n : Int) (mat n f) (ints w) (a : Int)) (fIdx f w a) := by
  simp only [spec_l03First.f]
  have := l03First_l0 n hn f a ha w [] hl hw
  simpa [fIdx] using this
theorem l03Without_eq (w : List Nat) (hl : w.length ≤ 1000000) (i : Nat) (hi : i < w.length) : spec_l03Without.f (ints w) (i : Int) = some (ints (w.eraseIdx i)) := by
  unfold spec_l03Without.f
  rw [if_pos (by omega), if_pos (by simp; omega), w64' (by omega), Int.toNat_natCast, l01Own_eq _ (by simp; omega)]
  simp only [Option.bind_some]
  rw [if_pos (by omega), if_pos (by simp; omega), show ((i : Int) + 1).toNat = i + 1 by omega, if_pos (by simp; omega), ← ints_eraseIdx, List.eraseIdx_eq_take_drop_succ]
theorem l03Without_first (f : Nat → Nat → Bool) (w : List Nat) (hl : w.length ≤ 1000000) (a : Nat) (h : isFirst f w a = true) : spec_l03Without.f (ints w) (fIdx f w a) = some (ints (w.erase a)) := by
  have hm := isFirst_mem f h
  unfold fIdx
  rw [if_pos h, l03Without_eq w hl _ (idxOf_lt hm), erase_idx hm]
theorem l03Normal_l0 (n : Nat) (hn : n ≤ 24) (f : Nat → Nat → Bool) : ∀ (L : Nat) (w : List Nat) (acc : List Int), w.length = L → acc.length + w.length ≤ 1000000 → (∀ x ∈ w, x < n) →
    Ev (fun k => spec_l03Normal.l0 k acc (ints w) (n : Int) (mat n f)) (acc ++ ints (normalP f n w)) := by
  intro L
  induction L with
  | zero =>
    intro w acc hL hl hw
    obtain rfl := List.eq_nil_of_length_eq_zero hL
    refine Ev.succ ?_
    simp only [spec_l03Normal.l0]
    refine Ev.neg (by simp [ints]) (Ev.const ?_)
    simp [normalP_nil, ints]
  | succ L ih =>
    intro w acc hL hl hw
    have hne : w ≠ [] := by rintro rfl; simp at hL
    obtain ⟨h1, h2, h3⟩ := least_first f hw hne
    rw [normalP_cons f hw hne]
    refine Ev.succ ?_
    simp only [spec_l03Normal.l0]
    refine Ev.pos (by simp; omega) ?_
    have inner : ∀ (d a : Nat), a + d = leastF (isFirst f w) n → Ev (fun k => spec_l03Normal.l1 k acc (ints w) (a : Int) (n : Int) (mat n f)) (acc ++ ints (leastF (isFirst f w) n :: normalP f n (w.erase (leastF (isFirst f w) n)))) := by
      intro d
      induction d with
      | zero =>
        intro a ha
        obtain rfl : a = leastF (isFirst f w) n := by omega
        refine Ev.succ ?_
        simp only [spec_l03Normal.l1]
        refine Ev.pos (by omega) (Ev.bind (l03First_ev n hn f w (by omega) hw _ h1) (Ev.pos (by unfold fIdx; rw [if_pos h2]; omega) (Ev.pos (by omega) ?_)))
        rw [l03Without_first f w (by omega) _ h2]
        refine Ev.some_bind ?_
        have he := length_erase f h2
        refine Ev.val (ih _ _ (by omega) (by simp; omega) (erase_lt hw)) ?_
        rw [ints_cons]
        simp
      | succ d ihd =>
        intro a ha
        refine Ev.succ ?_
        simp only [spec_l03Normal.l1]
        refine Ev.pos (by omega) (Ev.bind (l03First_ev n hn f w (by omega) hw a (by omega)) (Ev.neg (by unfold fIdx; rw [h3 a (by omega)]; simp) ?_))
        rw [w64' (by omega)]
        exact ihd (a + 1) (by omega)
    exact inner (leastF (isFirst f w) n) 0 (by omega)
theorem l03Normal_ev (n : Nat) (hn : n ≤ 24) (f : Nat → Nat → Bool) (w : List Nat) (hl : w.length ≤ 1000000) (hw : ∀ x ∈ w, x < n) : Ev (fun k => spec_l03Normal.f k (n : Int) (mat n f) (ints w)) (ints (normalP f n w)) := by
  simp only [spec_l03Normal.f]
  rw [l01Own_eq _ (by simp; omega)]
  refine Ev.some_bind (Ev.val (l03Normal_l0 n hn f _ w [] rfl (by simpa using hl) hw) (by simp))
theorem Index_l0 (a : Nat) : ∀ (suf pre : List Nat), (pre ++ suf).length ≤ 1000000 →
    Ev (fun k => slices_Index_int64_int64.l0 k (ints (pre ++ suf)) (a : Int) ((pre ++ suf).length : Int) (pre.length : Int)) (if a ∈ suf then ((pre.length + suf.idxOf a : Nat) : Int) else -1) := by
  intro suf
  induction suf with
  | nil =>
    intro pre hl
    refine Ev.succ ?_
    simp only [slices_Index_int64_int64.l0]
    exact Ev.neg (by simp) (Ev.const rfl)
  | cons b suf ih =>
    intro pre hl
    simp only [List.length_append, List.length_cons] at hl
    refine Ev.succ ?_
    simp only [slices_Index_int64_int64.l0]
    refine Ev.pos (by simp; omega) (Ev.pos (by omega) (Ev.pos (by simp; omega) ?_))
    rw [rd_mid]
    refine Ev.ite (fun c => ?_) (fun c => ?_)
    · obtain rfl := Int.ofNat.inj c
      refine Ev.const ?_
      simp
    · have c' : ¬ b = a := fun e => c (by rw [e])
      rw [w64' (by omega)]
      have := ih (pre ++ [b]) (by simp; omega)
      simp only [List.append_assoc, List.cons_append, List.nil_append, List.length_append, List.length_cons, List.length_nil] at this ⊢
      refine Ev.val this ?_
      rw [idxOf_tail _ c']
      have e1 : a ∈ b :: suf ↔ a ∈ suf := by simp [List.mem_cons, show ¬ a = b from fun e => c' e.symm]
      by_cases h : a ∈ suf
      · rw [if_pos h, if_pos (e1.2 h)]
        congr 1
        omega
      · rw [if_neg h, if_neg (fun k => h (e1.1 k))]
theorem Index_ev (w : List Nat) (hl : w.length ≤ 1000000) (a : Nat) : Ev (fun k => slices_Index_int64_int64.f k (ints w) (a : Int)) (if a ∈ w then ((w.idxOf a : Nat) : Int) else -1) := by
  simp only [slices_Index_int64_int64.f]
  have := Index_l0 a w [] hl
  simpa using this
theorem withoutFirst_ev (w : List Nat) (hl : w.length ≤ 1000000) (a : Nat) (h : a ∈ w) : Ev (fun k => impl_withoutFirst.f k (ints w) (a : Int)) (ints (w.erase a)) := by
  simp only [impl_withoutFirst.f]
  have hi := idxOf_lt h
  refine Ev.bind (Index_ev w hl a) ?_
  rw [if_pos h]
  refine Ev.pos (by omega) (Ev.pos (by simp; omega) ?_)
  rw [w64' (by omega)]
  refine Ev.pos (by omega) (Ev.pos (by simp; omega) ?_)
  rw [Int.toNat_natCast, show ((w.idxOf a : Int) + 1).toNat = w.idxOf a + 1 by omega]
  refine Ev.const ?_
  unfold slices_Concat_int64_int64.f
  rw [if_pos (by simp; omega), ← erase_idx h, ← ints_eraseIdx, List.eraseIdx_eq_take_drop_succ]
  simp
theorem isFirst_snoc (f : Nat → Nat → Bool) (w : List Nat) (x a : Nat) : isFirst f (w ++ [x]) a = (isFirst f w a || (decide (x = a) && w.all fun b => !f b a)) := by
  induction w with
  | nil => simp [isFirst]
  | cons b w ih =>
    simp only [List.cons_append, isFirst, ih, List.all_cons]
    cases decide (b = a) <;> cases f b a <;> cases isFirst f w a <;> simp
theorem firsts_l0 (n : Nat) (hn : n ≤ 8) (f : Nat → Nat → Bool) : ∀ (suf pre : List Nat), (pre ++ suf).length ≤ 1000000 → (∀ x ∈ pre ++ suf, x < n) →
    Ev (fun k => impl_ties_firsts.l0 k (mat n f) ((mk n (isFirst f pre) : Nat) : Int) ((mk n (fun a => pre.any fun b => f b a) : Nat) : Int) (ints (pre ++ suf)) ((pre ++ suf).length : Int) (pre.length : Int)) ((mk n (isFirst f (pre ++ suf)) : Nat) : Int) := by
  intro suf
  induction suf with
  | nil =>
    intro pre hl hw
    refine Ev.succ ?_
    simp only [impl_ties_firsts.l0]
    exact Ev.neg (by simp) (Ev.const (by simp))
  | cons x suf ih =>
    intro pre hl hw
    have hx : x < n := mem_mid hw
    have i1 := ih (pre ++ [x]) (by simpa using hl) (by simpa using hw)
    simp only [List.append_assoc, List.cons_append, List.nil_append] at i1
    rw [show (pre ++ [x]).length = pre.length + 1 by simp] at i1
    have hl' : pre.length + suf.length + 1 ≤ 1000000 := by simpa [Nat.add_assoc] using hl
    have h1 := mk_lt n (isFirst f pre)
    have h2 := mk_lt n (fun a => pre.any fun b => f b a)
    have h3 := mk_lt n (f x)
    have h4 : (2 : Nat) ^ n ≤ 2 ^ 24 := pow24 (by omega)
    have h5 : (2 : Nat) ^ x ≤ 2 ^ 24 := pow24 (by omega)
    have eb : mk n (fun a => (pre ++ [x]).any fun b => f b a) = mk n (fun a => pre.any fun b => f b a) ||| mk n (f x) := bits_ext fun i => by
      rw [Nat.testBit_or, testBit_mk, testBit_mk, testBit_mk]
      by_cases hi : i < n <;> simp [hi]
    rw [eb] at i1
    refine Ev.succ ?_
    simp only [impl_ties_firsts.l0]
    refine Ev.pos (by simp; omega) (Ev.pos (by omega) (Ev.pos (by simp; omega) ?_))
    rw [rd_mid, has_eq _ x (by omega) (by omega), rd_mat n f x hx, b_or _ _ (by omega) (by omega), testBit_mk]
    refine Ev.some_bind (Ev.ite (fun g => ?_) (fun g => ?_))
    · refine Ev.pos (by omega) (Ev.pos (by simp; omega) ?_)
      rw [w64' (by omega)]
      have eo : mk n (isFirst f (pre ++ [x])) = mk n (isFirst f pre) := mk_congr fun a _ => by
        rw [isFirst_snoc]
        by_cases e : x = a
        · subst e
          have : (pre.all fun b => !f b x) = false := by
            rw [← Bool.not_eq_true]
            simp [hx] at g
            obtain ⟨b, hb, hf⟩ := g
            intro h
            have := List.all_eq_true.1 h b hb
            simp [hf] at this
          rw [this]; simp
        · simp [e]
      rw [eo] at i1
      exact i1
    · rw [one_eq x (by omega)]
      refine Ev.some_bind (Ev.pos (by omega) (Ev.pos (by simp; omega) ?_))
      rw [w64' (by omega), b_or _ _ (by omega) (by omega)]
      have eo : mk n (isFirst f (pre ++ [x])) = mk n (isFirst f pre) ||| 2 ^ x := bits_ext fun i => by
        rw [Nat.testBit_or, testBit_mk, testBit_mk, testBit_one, isFirst_snoc]
        by_cases e : x = i
        · subst e
          have : (pre.all fun b => !f b x) = true := by
            rw [List.all_eq_true]
            intro b hb
            simp only [hx, decide_true, Bool.true_and] at g
            have := fun h => g (List.any_eq_true.2 ⟨b, hb, h⟩)
            simpa using this
          simp [hx, this]
        · simp [e]
      rw [eo] at i1
      exact i1
theorem firsts_ev (n : Nat) (hn : n ≤ 8) (f : Nat → Nat → Bool) (w : List Nat) (hl : w.length ≤ 1000000) (hw : ∀ x ∈ w, x < n) : Ev (fun k => impl_ties_firsts.f k (mat n f) (ints w)) ((mk n (isFirst f w) : Nat) : Int) := by
  simp only [impl_ties_firsts.f]
  have := firsts_l0 n hn f w [] hl hw
  have e1 : mk n (isFirst f []) = 0 := Nat.eq_of_testBit_eq fun i => by rw [testBit_mk]; simp [isFirst]
  have e2 : mk n (fun a => ([] : List Nat).any fun b => f b a) = 0 := Nat.eq_of_testBit_eq fun i => by rw [testBit_mk]; simp
  rw [e1, e2] at this
  simpa using this
theorem normal_l0 (n : Nat) (hn : n ≤ 8) (f : Nat → Nat → Bool) : ∀ (L : Nat) (w : List Nat) (acc : List Int), w.length = L → acc.length + w.length ≤ 1000000 → (∀ x ∈ w, x < n) →
    Ev (fun k => impl_ties_normal.l0 k (mat n f) acc (ints w)) (acc ++ ints (normalP f n w)) := by
  intro L
  induction L with
  | zero =>
    intro w acc hL hl hw
    obtain rfl := List.eq_nil_of_length_eq_zero hL
    refine Ev.succ ?_
    simp only [impl_ties_normal.l0]
    refine Ev.neg (by simp [ints]) (Ev.const ?_)
    simp [normalP_nil, ints]
  | succ L ih =>
    intro w acc hL hl hw
    have hne : w ≠ [] := by rintro rfl; simp at hL
    obtain ⟨h1, h2, h3⟩ := least_first f hw hne
    rw [normalP_cons f hw hne]
    have h4 := mk_lt n (isFirst f w)
    have h5 : (2 : Nat) ^ n ≤ 2 ^ 24 := pow24 (by omega)
    refine Ev.succ ?_
    simp only [impl_ties_normal.l0]
    refine Ev.pos (by simp; omega) (Ev.bind (firsts_ev n hn f w (by omega) hw) ?_)
    rw [least_eq _ (by omega), ctz_mk (by omega) ⟨_, h1, h2⟩]
    refine Ev.some_bind (Ev.pos (by omega) (Ev.bind (withoutFirst_ev w (by omega) _ (isFirst_mem f h2)) ?_))
    have he := length_erase f h2
    refine Ev.val (ih _ _ (by omega) (by simp; omega) (erase_lt hw)) ?_
    rw [ints_cons]
    simp
theorem normal_ev (n : Nat) (hn : n ≤ 8) (f : Nat → Nat → Bool) (w : List Nat) (hl : w.length ≤ 1000000) (hw : ∀ x ∈ w, x < n) : Ev (fun k => impl_ties_normal.f k (mat n f) (ints w)) (ints (normalP f n w)) := by
  simp only [impl_ties_normal.f]
  refine Ev.pos (by omega) (Ev.pos (by simp; omega) (Ev.val (normal_l0 n hn f _ w [] rfl (by simpa using hl) hw) (by simp)))
theorem Equal_ev (u v : List Int) (hl : u.length ≤ 1000000) : Ev (fun k => slices_Equal_int64_int64.f k u v) (decide (u = v)) := by
  simp only [slices_Equal_int64_int64.f]
  refine Ev.ite (fun c => ?_) (fun c => ?_)
  · have hlen : u.length = v.length := by omega
    have loop : ∀ (d i : Nat), i + d = u.length → Ev (fun k => slices_Equal_int64_int64.l0 k u v (u.length : Int) (i : Int)) (decide (u.drop i = v.drop i)) := by
      intro d
      induction d with
      | zero =>
        intro i hi
        refine Ev.succ ?_
        simp only [slices_Equal_int64_int64.l0]
        refine Ev.neg (by omega) (Ev.const ?_)
        rw [List.drop_of_length_le (by omega), List.drop_of_length_le (by omega)]
        simp
      | succ d ih =>
        intro i hi
        refine Ev.succ ?_
        simp only [slices_Equal_int64_int64.l0]
        refine Ev.pos (by omega) (Ev.pos (by omega) (Ev.pos (by omega) (Ev.pos (by omega) ?_)))
        rw [rd_lt u i (by omega), rd_lt v i (by omega), List.drop_eq_getElem_cons (show i < u.length by omega), List.drop_eq_getElem_cons (show i < v.length by omega)]
        refine Ev.ite (fun g => ?_) (fun g => ?_)
        · rw [w64' (by omega)]
          refine Ev.val (ih (i + 1) (by omega)) ?_
          rw [decide_eq_decide, List.cons.injEq]
          simp [g]
        · refine Ev.const ?_
          rw [decide_eq_false]
          rw [List.cons.injEq]
          exact fun h => g h.1
    exact loop u.length 0 (by omega)
  · refine Ev.const ?_
    rw [decide_eq_false]
    rintro rfl
    exact c rfl
theorem same_ev (n : Nat) (hn : n ≤ 8) (f : Nat → Nat → Bool) (hs : ∀ a b, f a b = f b a) (u v : List Nat) (hl : u.length ≤ 1000000) (hl2 : v.length ≤ 1000000) (hu : ∀ x ∈ u, x < n) (hw : ∀ x ∈ v, x < n) : Ev (fun k => impl_ties_same.f k (mat n f) (ints u) (ints v)) (decide (TrEq f u v)) := by
  simp only [impl_ties_same.f]
  refine Ev.bind (normal_ev n hn f u hl hu) (Ev.bind (normal_ev n hn f v hl2 hw) (Ev.bind (Equal_ev _ _ (by rw [ints_length, normalP_length f hs hu]; exact hl)) (Ev.const ?_)))
  congr 1
  rw [decide_eq_decide, ← normalP_eq_iff f hs _ u v rfl hu hw]
  exact ⟨ints_inj, fun h => by rw [h]⟩
theorem maskOf_l0 (n : Nat) (hn : n ≤ 24) : ∀ (suf pre : List Nat), (pre ++ suf).length ≤ 1000000 → (∀ x ∈ pre ++ suf, x < n) →
    Ev (fun k => impl_maskOf.l0 k ((mk n (fun a => decide (a ∈ pre)) : Nat) : Int) (ints (pre ++ suf)) ((pre ++ suf).length : Int) (pre.length : Int)) ((mk n (fun a => decide (a ∈ pre ++ suf)) : Nat) : Int) := by
  intro suf
  induction suf with
  | nil =>
    intro pre hl hw
    refine Ev.succ ?_
    simp only [impl_maskOf.l0]
    exact Ev.neg (by simp) (Ev.const (by simp))
  | cons x suf ih =>
    intro pre hl hw
    have hx : x < n := mem_mid hw
    have hl' : pre.length + suf.length + 1 ≤ 1000000 := by simpa [Nat.add_assoc] using hl
    have i1 := ih (pre ++ [x]) (by simpa using hl) (by simpa using hw)
    simp only [List.append_assoc, List.cons_append, List.nil_append] at i1
    rw [show (pre ++ [x]).length = pre.length + 1 by simp] at i1
    have h1 := mk_lt n (fun a => decide (a ∈ pre))
    have h4 : (2 : Nat) ^ n ≤ 2 ^ 24 := pow24 (by omega)
    have h5 : (2 : Nat) ^ x ≤ 2 ^ 24 := pow24 (by omega)
    have eb : mk n (fun a => decide (a ∈ pre ++ [x])) = mk n (fun a => decide (a ∈ pre)) ||| 2 ^ x := bits_ext fun i => by
      rw [Nat.testBit_or, testBit_mk, testBit_mk, testBit_one]
      by_cases hi : i < n
      · by_cases e : x = i
        · subst e; simp [hi]
        · simp [hi, e, show ¬ i = x from fun h => e h.symm]
      · simp [hi, show ¬ x = i by omega]
    rw [eb] at i1
    refine Ev.succ ?_
    simp only [impl_maskOf.l0]
    refine Ev.pos (by simp; omega) (Ev.pos (by omega) (Ev.pos (by simp; omega) ?_))
    rw [rd_mid, one_eq x (by omega)]
    refine Ev.some_bind ?_
    rw [b_or _ _ (by omega) (by omega), w64' (by omega)]
    exact i1
theorem maskOf_ev (n : Nat) (hn : n ≤ 24) (w : List Nat) (hl : w.length ≤ 1000000) (hw : ∀ x ∈ w, x < n) : Ev (fun k => impl_maskOf.f k (ints w)) ((mk n (fun a => decide (a ∈ w)) : Nat) : Int) := by
  simp only [impl_maskOf.f]
  have := maskOf_l0 n hn w [] hl hw
  have e1 : mk n (fun a => decide (a ∈ ([] : List Nat))) = 0 := Nat.eq_of_testBit_eq fun i => by rw [testBit_mk]; simp
  rw [e1] at this
  simpa using this
theorem apart_ev (n : Nat) (hn : n ≤ 8) (f : Nat → Nat → Bool) (u v : List Nat) (hv : v.length ≤ 1000000) (hu : ∀ x ∈ u, x < n) (hw : ∀ x ∈ v, x < n) : Ev (fun k => impl_ties_apart.f k (mat n f) (ints u) (ints v)) (apartP f u v) := by
  simp only [impl_ties_apart.f]
  refine Ev.bind (maskOf_ev n (by omega) v hv hw) (Ev.const ?_)
  rw [if_pos]
  · congr 1
    rw [Bool.eq_iff_iff, apartP_iff, List.all_eq_true]
    have h4 := mk_lt n (fun a => decide (a ∈ v))
    have h5 : (2 : Nat) ^ n ≤ 2 ^ 24 := pow24 (by omega)
    have key : ∀ a, a < n → ((mk n (f a) &&& mk n (fun b => decide (b ∈ v))) = 0 ↔ ∀ b ∈ v, f a b = false) := fun a ha => by
      constructor
      · intro h b hb
        have := congrArg (fun m => m.testBit b) h
        simp only [Nat.testBit_and, testBit_mk, Nat.zero_testBit] at this
        simpa [hw b hb, hb] using this
      · intro h
        refine Nat.eq_of_testBit_eq fun b => ?_
        rw [Nat.testBit_and, testBit_mk, testBit_mk, Nat.zero_testBit]
        by_cases hb : b ∈ v
        · simp [h b hb]
        · simp [hb]
    constructor
    · intro h a ha
      have h6 := h (a : Int) (List.mem_map.2 ⟨a, ha, rfl⟩)
      have h7 := mk_lt n (f a)
      rw [rd_mat n f a (hu a ha), b_and _ _ (by omega) (by omega), decide_eq_true_eq] at h6
      exact (key a (hu a ha)).1 (by omega)
    · intro h x hx
      obtain ⟨a, ha, rfl⟩ := List.mem_map.1 hx
      have h7 := mk_lt n (f a)
      rw [rd_mat n f a (hu a ha), b_and _ _ (by omega) (by omega), decide_eq_true_eq, (key a (hu a ha)).2 (h a ha)]
      rfl
  · rw [List.all_eq_true]
    intro x hx
    obtain ⟨a, ha, rfl⟩ := List.mem_map.1 hx
    have := hu a ha
    simp; omega
theorem closure_l2 (n : Nat) (hn : n ≤ 24) (g : Nat → Nat → Bool) (p : Nat) (hp : p < n) (R : List Int) (hR : Ev (fun k => impl_closure.l1 k (mat n fun i k => g i k || (g i p && g p k)) (n : Int) ((p + 1 : Nat) : Int)) R) :
    ∀ (d i : Nat), i + d = n → Ev (fun k => impl_closure.l2 k (mat n fun a b => if a < i then g a b || (g a p && g p b) else g a b) (p : Int) (n : Int) (p : Int) (n : Int) (i : Int)) R := by
  intro d
  induction d with
  | zero =>
    intro i hi
    refine Ev.succ ?_
    simp only [impl_closure.l2]
    refine Ev.neg (by omega) ?_
    rw [w64' (by omega)]
    have e : mat n (fun a b => if a < i then g a b || (g a p && g p b) else g a b) = mat n fun a b => g a b || (g a p && g p b) := mat_congr fun a b ha _ => by rw [if_pos (by omega)]
    rw [e]
    exact hR
  | succ d ih =>
    intro i hi
    have h24 := pow_lt62 hn
    have i1 := ih (i + 1) (by omega)
    refine Ev.succ ?_
    simp only [impl_closure.l2]
    refine Ev.pos (by omega) (Ev.pos (by omega) (Ev.pos (by simp; omega) ?_))
    rw [rd_mat n _ i (by omega)]
    have h1 := mk_lt n ((fun a b => if a < i then g a b || (g a p && g p b) else g a b) i)
    have h2 := mk_lt n ((fun a b => if a < i then g a b || (g a p && g p b) else g a b) p)
    rw [has_eq _ p (mk62 (by omega) _) (by omega), testBit_mk]
    refine Ev.some_bind ?_
    have row : (if i < i then g i p || (g i p && g p p) else g i p) = g i p := if_neg (by omega)
    have hrow : ∀ b, (if p < i then g p b || (g p p && g p b) else g p b) = g p b := fun b => by
      split
      · cases g p b <;> simp
      · rfl
    refine Ev.ite (fun c => ?_) (fun c => ?_)
    · have c' : g i p = true := by
        simp only [hp, decide_true, Bool.true_and] at c
        rw [← row]; exact c
      refine Ev.pos (by omega) (Ev.pos (by simp; omega) ?_)
      rw [rd_mat n _ p hp, b_or _ _ (mk62 (by omega) _) (mk62 (by omega) _), mk_or, w64' (by omega), Int.toNat_natCast, mat_row n _ i (by omega)]
      have e : mat n (fun a b => if a = i then ((if i < i then g i b || (g i p && g p b) else g i b) || if p < i then g p b || (g p p && g p b) else g p b) else if a < i then g a b || (g a p && g p b) else g a b) = mat n fun a b => if a < i + 1 then g a b || (g a p && g p b) else g a b := mat_congr fun a b ha hb => by
        by_cases e : a = i
        · subst e
          rw [if_pos rfl, hrow, if_neg (Nat.lt_irrefl a), if_pos (Nat.lt_succ_self a), c']
          simp
        · rw [if_neg e]
          by_cases e2 : a < i
          · rw [if_pos e2, if_pos (by omega)]
          · rw [if_neg e2, if_neg (by omega)]
      rw [e]
      exact i1
    · have c' : g i p = false := by
        simp only [hp, decide_true, Bool.true_and] at c
        rw [← row]; simpa using c
      rw [w64' (by omega)]
      have e : mat n (fun a b => if a < i then g a b || (g a p && g p b) else g a b) = mat n fun a b => if a < i + 1 then g a b || (g a p && g p b) else g a b := mat_congr fun a b ha hb => by
        by_cases e : a = i
        · subst e
          rw [if_neg (by omega), if_pos (by omega), c']
          simp
        · by_cases e2 : a < i
          · rw [if_pos e2, if_pos (by omega)]
          · rw [if_neg e2, if_neg (by omega)]
      rw [e]
      exact i1
theorem closure_l1 (n : Nat) (hn : n ≤ 24) (f : Nat → Nat → Bool) : ∀ (d p : Nat), p + d = n → Ev (fun k => impl_closure.l1 k (mat n (wsh f p)) (n : Int) (p : Int)) (mat n (clos n f)) := by
  intro d
  induction d with
  | zero =>
    intro p hp
    obtain rfl : p = n := by omega
    refine Ev.succ ?_
    simp only [impl_closure.l1]
    exact Ev.neg (by omega) (Ev.now _)
  | succ d ih =>
    intro p hp
    refine Ev.succ ?_
    simp only [impl_closure.l1]
    refine Ev.pos (by omega) ?_
    have := closure_l2 n hn (wsh f p) p (by omega) _ (ih (p + 1) (by omega)) n 0 (by omega)
    have e : mat n (fun a b => if a < 0 then wsh f p a b || (wsh f p a p && wsh f p p b) else wsh f p a b) = mat n (wsh f p) := mat_congr fun a b _ _ => if_neg (by omega)
    rw [e] at this
    rw [mat_length]
    exact this
theorem closure_ev (n : Nat) (hn : n ≤ 24) (f : Nat → Nat → Bool) : Ev (fun k => impl_closure.f k (mat n f)) (mat n (clos n f)) := by
  have h24 := pow_lt62 hn
  have loop : ∀ (d i : Nat), i + d = n → Ev (fun k => impl_closure.l0 k (mat n fun a b => (decide (a = b) && decide (a < i)) || f a b) (n : Int) (i : Int)) (mat n (clos n f)) := by
    intro d
    induction d with
    | zero =>
      intro i hi
      obtain rfl : i = n := by omega
      refine Ev.succ ?_
      simp only [impl_closure.l0]
      refine Ev.neg (by omega) ?_
      have := closure_l1 i hn f i 0 (by omega)
      have e : mat i (fun a b => (decide (a = b) && decide (a < i)) || f a b) = mat i (wsh f 0) := mat_congr fun a b ha _ => by simp [wsh, ha]
      rw [e, mat_length]
      exact this
    | succ d ih =>
      intro i hi
      have i1 := ih (i + 1) (by omega)
      have h1 := mk_lt n ((fun a b => (decide (a = b) && decide (a < i)) || f a b) i)
      have h2 : (2 : Nat) ^ i ≤ 2 ^ 24 := pow24 (by omega)
      refine Ev.succ ?_
      simp only [impl_closure.l0]
      refine Ev.pos (by omega) (Ev.pos (by omega) (Ev.pos (by simp; omega) ?_))
      rw [one_eq i (by omega), rd_mat n _ i (by omega)]
      refine Ev.some_bind ?_
      rw [b_or _ _ (mk62 (by omega) _) (two62 (by omega)), mk_or_one n _ i (by omega), w64' (by omega), Int.toNat_natCast, mat_row n _ i (by omega)]
      have e : mat n (fun a b => if a = i then (((decide (i = b) && decide (i < i)) || f i b) || decide (b = i)) else (decide (a = b) && decide (a < i)) || f a b) = mat n fun a b => (decide (a = b) && decide (a < i + 1)) || f a b := mat_congr fun a b ha hb => by
        by_cases e : a = i
        · subst e
          rw [if_pos rfl]
          by_cases e2 : a = b
          · subst e2; simp
          · simp [e2, show ¬ b = a from fun h => e2 h.symm]
        · rw [if_neg e]
          by_cases e2 : a < i
          · simp [e2, show a < i + 1 by omega]
          · simp [e2, show ¬ a < i + 1 by omega]
      rw [e]
      exact i1
  simp only [impl_closure.f]
  unfold slices_Clone_int64_int64.f
  rw [if_pos (by simp; omega)]
  refine Ev.some_bind ?_
  have := loop n 0 (by omega)
  have e : mat n (fun a b => (decide (a = b) && decide (a < 0)) || f a b) = mat n f := mat_congr fun a b _ _ => by simp
  rw [e] at this
  rw [mat_length]
  exact this
theorem l01From_ev (c : List Int) (hc : c.length ≤ 4096) : ∃ h, Ev (fun k => spec_l01From.f k c) (c, 0, h) := by
  have loop : ∀ (d i : Nat) (h : Int), i + d = c.length → ∃ h', Ev (fun k => spec_l01From.l0 k c (i : Int) c 0 h) (c, 0, h') := by
    intro d
    induction d with
    | zero =>
      intro i h hi
      refine ⟨h, Ev.succ ?_⟩
      simp only [spec_l01From.l0]
      exact Ev.neg (by omega) (Ev.now _)
    | succ d ih =>
      intro i h hi
      obtain ⟨h', e⟩ := ih (i + 1) (IntKind.u64.wrap ((IntKind.u64.wrap ((IntKind.u64.wrap (h * 1099511628211)) + (IntKind.u64.wrap (rd c i)))) + 11)) (by omega)
      refine ⟨h', Ev.succ ?_⟩
      simp only [spec_l01From.l0]
      refine Ev.pos (by omega) (Ev.pos (by omega) (Ev.pos (by omega) ?_))
      rw [w64' (by omega)]
      exact e
  simp only [spec_l01From.f]
  exact loop c.length 0 _ (by omega)
theorem l01Next_ev {c : List Int} {a : Int} (hS : Src c a) (h n : Int) : ∃ v a' h', spec_l01Next.f c a h n = some (v, a', h') ∧ Src c a' ∧ 0 ≤ v ∧ (1 ≤ n → v < n) ∧ (n < 1 → v = 0) := by
  unfold spec_l01Next.f
  by_cases h1 : n < 1
  · rw [if_pos h1]
    exact ⟨_, _, _, rfl, hS, by omega, by omega, fun _ => rfl⟩
  · rw [if_neg h1]
    have hr := u64_range (IntKind.u64.wrap (h * 6364136223846793005) + 1442695040888963407)
    generalize IntKind.u64.wrap (IntKind.u64.wrap (h * 6364136223846793005) + 1442695040888963407) = H at hr
    obtain ⟨b, hb, b0, b1⟩ := u64_mask (H / 8589934592) (by omega) (by omega)
    rw [hb, w64' (x := b) (by omega)]
    obtain ⟨s1, s2, s3, s4⟩ := hS
    by_cases g : a < (c.length : Int)
    · rw [if_pos g, if_pos s3, if_neg (by omega)]
      obtain ⟨i, rfl⟩ := Int.eq_ofNat_of_zero_le s3
      have hx := s1 _ (List.getElem_mem (show i < c.length by omega))
      rw [rd_lt c i (by omega), w64' (x := c[i]) (by omega), w64' (x := b + c[i]) (by omega), w64' (x := (i : Int) + 1) (by omega)]
      have := tmod_range (b + c[i]) n (by omega) (by omega)
      exact ⟨_, _, _, rfl, ⟨s1, s2, by omega, by omega⟩, this.1, fun _ => this.2, by omega⟩
    · rw [if_neg g, if_neg (by omega)]
      have := tmod_range b n (by omega) (by omega)
      exact ⟨_, _, _, rfl, ⟨s1, s2, s3, s4⟩, this.1, fun _ => this.2, by omega⟩
theorem l01Pick_ev {c : List Int} {a : Int} (hS : Src c a) (h : Int) (l : List Int) (hl : 1 ≤ l.length) : ∃ v a' h', spec_l01Pick.f c a h l = some (v, a', h') ∧ Src c a' ∧ v ∈ l := by
  obtain ⟨v, a', h', e, s, v0, v1, _⟩ := l01Next_ev hS h (l.length : Int)
  unfold spec_l01Pick.f
  rw [e]
  simp only [Option.bind_some]
  have := v1 (by omega)
  obtain ⟨i, rfl⟩ := Int.eq_ofNat_of_zero_le v0
  rw [if_pos v0, if_pos this, rd_lt l i (by omega)]
  exact ⟨_, _, _, rfl, s, List.getElem_mem _⟩
theorem mk_single (n a : Nat) (ha : a < n) : mk n (fun b => decide (a = b)) = 2 ^ a := bits_ext fun i => by
  rw [testBit_mk, testBit_one]
  by_cases e : a = i
  · subst e; simp [ha]
  · simp [e]
theorem l02Free_ev (n : Nat) (hn : n ≤ 24) : Ev (fun k => spec_l02Free.f k (n : Int)) ((n : Int), mat n fun a b => decide (a = b)) := by
  have e : mat n (fun a b => decide (a = b)) = (List.range n).map fun i => ((2 ^ i : Nat) : Int) := by
    unfold mat
    refine List.map_congr_left fun i hi => ?_
    rw [mk_single n i (List.mem_range.1 hi)]
  rw [e]
  have loop : ∀ (d i : Nat), i + d = n → Ev (fun k => spec_l02Free.l0 k (n : Int) (i : Int) (n : Int) ((List.range i).map fun i => ((2 ^ i : Nat) : Int))) ((n : Int), (List.range n).map fun i => ((2 ^ i : Nat) : Int)) := by
    intro d
    induction d with
    | zero =>
      intro i hi
      obtain rfl : i = n := by omega
      refine Ev.succ ?_
      simp only [spec_l02Free.l0]
      exact Ev.neg (by omega) (Ev.now _)
    | succ d ih =>
      intro i hi
      refine Ev.succ ?_
      simp only [spec_l02Free.l0]
      refine Ev.pos (by omega) ?_
      rw [l01One_eq i (by omega), w64' (by omega)]
      refine Ev.some_bind (Ev.pos (by simp; omega) ?_)
      have := ih (i + 1) (by omega)
      rw [List.range_succ, List.map_append] at this
      exact this
  simp only [spec_l02Free.f]
  exact loop n 0 (by omega)
theorem mat_set (n : Nat) (f : Nat → Nat → Bool) (a b : Nat) (ha : a < n) (hb : b < n) : (mat n f).set a ((mk n (f a) ||| 2 ^ b : Nat) : Int) = mat n fun i k => f i k || (decide (i = a) && decide (k = b)) := by
  apply List.ext_getElem
  · simp
  · intro q h1 h2
    have hq : q < n := by simpa using h1
    rw [List.getElem_set]
    by_cases e : a = q
    · subst e
      rw [if_pos rfl]
      simp only [mat, List.getElem_map, List.getElem_range]
      congr 1
      refine bits_ext fun i => ?_
      rw [Nat.testBit_or, testBit_mk, testBit_mk, testBit_one]
      by_cases e : b = i
      · subst e; simp [hb]
      · simp [e, show ¬ i = b from fun h => e h.symm]
    · rw [if_neg e]
      simp only [mat, List.getElem_map, List.getElem_range]
      congr 1
      exact mk_congr fun i _ => by simp [show ¬ q = a from fun h => e h.symm]
theorem l02Join_eq (n : Nat) (hn : n ≤ 24) (f : Nat → Nat → Bool) (a b : Nat) (ha : a < n) (hb : b < n) :
    spec_l02Join.f (n : Int) (mat n f) (a : Int) (b : Int) = some (mat n fun i k => (f i k || (decide (i = a) && decide (k = b))) || (decide (i = b) && decide (k = a))) := by
  unfold spec_l02Join.f
  have p1 := pow24 hn
  have p2 : (2 : Nat) ^ a ≤ 2 ^ 24 := pow24 (by omega)
  have p3 : (2 : Nat) ^ b ≤ 2 ^ 24 := pow24 (by omega)
  have h1 := mk_lt n (f a)
  have h2 := mk_lt n (fun k => f b k || (decide (b = a) && decide (k = b)))
  rw [if_pos (by omega), if_pos (by simp; omega), show spec_l01One_Bl02Join.f (b : Int) = spec_l01One.f (b : Int) from rfl, show spec_l01One_Bl02Join.f (a : Int) = spec_l01One.f (a : Int) from rfl, l01One_eq a (by omega), l01One_eq b (by omega), rd_mat n f a ha]
  simp only [Option.bind_some]
  rw [b_or _ _ (by omega) (by omega), Int.toNat_natCast, mat_set n f a b ha hb]
  rw [if_pos (by omega), if_pos (by simp; omega), rd_mat n _ b hb, b_or _ _ (by omega) (by omega), Int.toNat_natCast, mat_set n _ b a hb ha]
/-- what is drawn: an alphabet of at most so many letters -/
def Drawn (c : List Int) (most : Nat) (r : Int × List Int × Int × Int) : Prop := ∃ (n : Nat) (f : Nat → Nat → Bool), r.1 = (n : Int) ∧ r.2.1 = mat n f ∧ n ≤ most ∧ n ≤ 8 ∧ (∀ a b, f a b = f b a) ∧ (∀ a, a < n → f a a = true) ∧ Src c r.2.2.1
theorem l02Draw_l0 (c : List Int) (most n : Nat) (hn : n ≤ most) (hn8 : n ≤ 8) (part : Int) : ∀ (d a : Nat), a + d = n → ∀ (f : Nat → Nat → Bool) (at_ h : Int), (∀ a b, f a b = f b a) → (∀ a, a < n → f a a = true) → Src c at_ →
    ∃ r, Drawn c most r ∧ Ev (fun k => spec_l02Draw.l0 k (n : Int) part (a : Int) c at_ h (n : Int) (mat n f)) r := by
  intro d
  induction d with
  | zero =>
    intro a ha f at_ h hs hr hS
    refine ⟨((n : Int), mat n f, at_, h), ⟨n, f, rfl, rfl, hn, hn8, hs, hr, hS⟩, Ev.succ ?_⟩
    simp only [spec_l02Draw.l0]
    exact Ev.neg (by omega) (Ev.now _)
  | succ d ih =>
    intro a ha f at_ h hs hr hS
    have inner : ∀ (e b : Nat), b + e = a → ∀ (f : Nat → Nat → Bool) (at_ h : Int), (∀ a b, f a b = f b a) → (∀ a, a < n → f a a = true) → Src c at_ →
        ∃ r, Drawn c most r ∧ Ev (fun k => spec_l02Draw.l1 k (n : Int) part (a : Int) (b : Int) c at_ h (n : Int) (mat n f)) r := by
      intro e
      induction e with
      | zero =>
        intro b hb f at_ h hs hr hS
        obtain ⟨r, hd, he⟩ := ih (a + 1) (by omega) f at_ h hs hr hS
        refine ⟨r, hd, Ev.succ ?_⟩
        simp only [spec_l02Draw.l1]
        refine Ev.neg (by omega) ?_
        rw [w64' (by omega)]
        exact he
      | succ e ihe =>
        intro b hb f at_ h hs hr hS
        obtain ⟨v, a1, h1, e1, s1, _⟩ := l01Next_ev hS h part
        by_cases g : v = 0
        · obtain ⟨r, hd, he⟩ := ihe (b + 1) (by omega) (fun i k => (f i k || (decide (i = a) && decide (k = b))) || (decide (i = b) && decide (k = a))) a1 h1 (fun x y => by
            rw [hs x y, Bool.eq_iff_iff]
            simp only [Bool.or_eq_true, Bool.and_eq_true, decide_eq_true_eq]
            constructor
            · rintro ((h | ⟨h1, h2⟩) | ⟨h1, h2⟩)
              · exact .inl (.inl h)
              · exact .inr ⟨h2, h1⟩
              · exact .inl (.inr ⟨h2, h1⟩)
            · rintro ((h | ⟨h1, h2⟩) | ⟨h1, h2⟩)
              · exact .inl (.inl h)
              · exact .inr ⟨h2, h1⟩
              · exact .inl (.inr ⟨h2, h1⟩)) (fun x hx => by simp [hr x hx]) s1
          refine ⟨r, hd, Ev.succ ?_⟩
          simp only [spec_l02Draw.l1]
          refine Ev.pos (by omega) ?_
          rw [e1]
          refine Ev.some_bind (Ev.pos g ?_)
          rw [l02Join_eq n (by omega) f a b (by omega) (by omega), w64' (by omega)]
          exact Ev.some_bind he
        · obtain ⟨r, hd, he⟩ := ihe (b + 1) (by omega) f a1 h1 hs hr s1
          refine ⟨r, hd, Ev.succ ?_⟩
          simp only [spec_l02Draw.l1]
          refine Ev.pos (by omega) ?_
          rw [e1]
          refine Ev.some_bind (Ev.neg g ?_)
          rw [w64' (by omega)]
          exact he
    obtain ⟨r, hd, he⟩ := inner a 0 (by omega) f at_ h hs hr hS
    refine ⟨r, hd, Ev.succ ?_⟩
    simp only [spec_l02Draw.l0]
    exact Ev.pos (by omega) he
theorem l02Draw_ev {c : List Int} {a : Int} (hS : Src c a) (h : Int) (most : Nat) (hm : most ≤ 8) : ∃ r, Drawn c most r ∧ Ev (fun k => spec_l02Draw.f k c a h (most : Int)) r := by
  have j1 : ∀ (n a h : Int), 0 ≤ n → n ≤ most → Src c a → ∃ r, Drawn c most r ∧ Ev (fun k => spec_l02Draw.j1 k n c a h) r := by
    intro n a h h0 h1 hS
    obtain ⟨m, rfl⟩ := Int.eq_ofNat_of_zero_le h0
    obtain ⟨v, a1, h1', e1, s1, _⟩ := l01Pick_ev hS h [2, 2, 3, 4] (by simp)
    obtain ⟨r, hd, he⟩ := l02Draw_l0 c most m (by omega) (by omega) v m 0 (by omega) (fun a b => decide (a = b)) a1 h1' (fun x y => by rw [decide_eq_decide]; exact ⟨Eq.symm, Eq.symm⟩) (by simp) s1
    refine ⟨r, hd, Ev.succ ?_⟩
    simp only [spec_l02Draw.j1]
    refine Ev.bind (l02Free_ev m (by omega)) ?_
    rw [e1]
    exact Ev.some_bind he
  have j0 : ∀ (b : Bool) (a h : Int), (b = true → 4 ≤ most) → Src c a → ∃ r, Drawn c most r ∧ Ev (fun k => spec_l02Draw.j0 k (most : Int) b c a h) r := by
    intro b a h hb hS
    cases b with
    | true =>
      refine ⟨((4 : Nat), [11, 7, 14, 13], a, h), ⟨4, fun x y => decide (x < 4 ∧ y < 4) && bitR [11, 7, 14, 13] x y, rfl, ?_, hb rfl, by omega, ?_, ?_, hS⟩, Ev.succ ?_⟩
      · exact (eq_mat [11, 7, 14, 13] (by decide)).trans (mat_congr fun i k hi hk => by
          have h1 : i < 4 := hi
          have h2 : k < 4 := hk
          simp [h1, h2])
      · intro x y
        have key : ∀ x, x < 4 → ∀ y, y < 4 → bitR [11, 7, 14, 13] x y = bitR [11, 7, 14, 13] y x := by decide
        show (decide (x < 4 ∧ y < 4) && bitR [11, 7, 14, 13] x y) = (decide (y < 4 ∧ x < 4) && bitR [11, 7, 14, 13] y x)
        by_cases hx : x < 4 <;> by_cases hy : y < 4 <;> simp [hx, hy]
        exact key x hx y hy
      · decide
      · simp only [spec_l02Draw.j0]
        exact Ev.pos trivial (Ev.now _)
    | false =>
      obtain ⟨v, a1, h1, e1, s1, v0, v1, _⟩ := l01Next_ev hS h (wrap64 ((most : Int) + 1))
      have w := w64' (x := (most : Int) + 1) (by omega)
      by_cases g : v < 2
      · obtain ⟨v2, a2, h2, e2, s2, u0, u1, _⟩ := l01Next_ev s1 h1 (wrap64 ((most : Int) + 1))
        obtain ⟨r, hd, he⟩ := j1 v2 a2 h2 u0 (by rw [w] at u1; have := u1 (by omega); omega) s2
        refine ⟨r, hd, Ev.succ ?_⟩
        simp only [spec_l02Draw.j0]
        refine Ev.neg (by simp) ?_
        rw [e1]
        refine Ev.some_bind (Ev.pos g ?_)
        rw [e2]
        exact Ev.some_bind he
      · obtain ⟨r, hd, he⟩ := j1 v a1 h1 v0 (by rw [w] at v1; have := v1 (by omega); omega) s1
        refine ⟨r, hd, Ev.succ ?_⟩
        simp only [spec_l02Draw.j0]
        refine Ev.neg (by simp) ?_
        rw [e1]
        exact Ev.some_bind (Ev.neg g he)
  by_cases h4 : 4 ≤ most
  · obtain ⟨v, a1, h1, e1, s1, _⟩ := l01Next_ev hS h 6
    obtain ⟨r, hd, he⟩ := j0 (v == 0) a1 h1 (fun _ => h4) s1
    refine ⟨r, hd, ?_⟩
    simp only [spec_l02Draw.f]
    refine Ev.pos (by omega) ?_
    rw [e1]
    exact Ev.some_bind he
  · obtain ⟨r, hd, he⟩ := j0 false a h (by simp) hS
    refine ⟨r, hd, ?_⟩
    simp only [spec_l02Draw.f]
    exact Ev.neg (by omega) he
theorem likeInts_ev (x : List Int) (hx : x.length ≤ 17592186044416) : Ev (fun k => laws_likeInts.f k x x) true := by
  have loop : ∀ (d i : Nat), i + d = x.length → Ev (fun k => laws_likeInts.l0 k x x (i : Int)) true := by
    intro d
    induction d with
    | zero =>
      intro i hi
      refine Ev.succ ?_
      simp only [laws_likeInts.l0]
      exact Ev.neg (by omega) (Ev.now _)
    | succ d ih =>
      intro i hi
      refine Ev.succ ?_
      simp only [laws_likeInts.l0]
      refine Ev.pos (by omega) (Ev.pos (by omega) (Ev.pos (by omega) (Ev.pos trivial ?_)))
      rw [w64' (by omega)]
      exact ih (i + 1) (by omega)
  simp only [laws_likeInts.f]
  exact Ev.pos trivial (loop x.length 0 (by omega))
theorem l07Letters_ev (n : Nat) (hn : n ≤ 24) (w : List Nat) (hl : w.length ≤ 1000000) (hw : ∀ x ∈ w, x < n) : Ev (fun k => spec_l07Letters.f k (ints w)) ((mk n (fun a => decide (a ∈ w)) : Nat) : Int) := by
  have loop : ∀ (suf pre : List Nat), pre ++ suf = w → Ev (fun k => spec_l07Letters.l0 k (ints w) ((mk n (fun a => decide (a ∈ pre)) : Nat) : Int) (pre.length : Int)) ((mk n (fun a => decide (a ∈ w)) : Nat) : Int) := by
    intro suf
    induction suf with
    | nil =>
      intro pre hp
      rw [List.append_nil] at hp
      subst hp
      refine Ev.succ ?_
      simp only [spec_l07Letters.l0]
      exact Ev.neg (by simp) (Ev.now _)
    | cons x suf ih =>
      intro pre hp
      have hlen : pre.length + suf.length + 1 = w.length := by rw [← hp]; simp; omega
      have hx : x < n := hw x (by rw [← hp]; simp)
      have i1 := ih (pre ++ [x]) (by simpa using hp)
      rw [show (pre ++ [x]).length = pre.length + 1 by simp] at i1
      have rx : rd (ints w) (pre.length : Int) = (x : Int) := by rw [← hp]; exact rd_mid pre suf x
      have h5 : (2 : Nat) ^ x ≤ 2 ^ 24 := pow24 (by omega)
      have eb : mk n (fun a => decide (a ∈ pre ++ [x])) = mk n (fun a => decide (a ∈ pre)) ||| 2 ^ x := bits_ext fun i => by
        rw [Nat.testBit_or, testBit_mk, testBit_mk, testBit_one]
        by_cases hi : i < n
        · by_cases e : x = i
          · subst e; simp [hi]
          · simp [hi, e, show ¬ i = x from fun h => e h.symm]
        · simp [hi, show ¬ x = i by omega]
      rw [eb] at i1
      refine Ev.succ ?_
      simp only [spec_l07Letters.l0]
      refine Ev.pos (by simp; omega) (Ev.pos (by omega) ?_)
      rw [rx, l01One_eq x (by omega)]
      refine Ev.some_bind ?_
      rw [b_or _ _ (mk62 hn _) (two62 (by omega)), w64' (by omega)]
      exact i1
  simp only [spec_l07Letters.f]
  have := loop w [] rfl
  have e1 : mk n (fun a => decide (a ∈ ([] : List Nat))) = 0 := Nat.eq_of_testBit_eq fun i => by rw [testBit_mk]; simp
  rw [e1] at this
  exact this
theorem l06Reach_ev (n : Nat) (hn : n ≤ 24) (f : Nat → Nat → Bool) (p : Nat → Bool) : Ev (fun k => spec_l06Reach.f k (n : Int) (mat n f) ((mk n p : Nat) : Int)) ((mk n (reachP n f p) : Nat) : Int) := by
  have loop : ∀ (d i : Nat), i + d = n → Ev (fun k => spec_l06Reach.l0 k ((mk n p : Nat) : Int) ((mk n (fun b => (List.range i).any fun c => p c && f c b) : Nat) : Int) (i : Int) (n : Int) (mat n f)) ((mk n (reachP n f p) : Nat) : Int) := by
    intro d
    induction d with
    | zero =>
      intro i hi
      obtain rfl : i = n := by omega
      refine Ev.succ ?_
      simp only [spec_l06Reach.l0]
      exact Ev.neg (by omega) (Ev.now _)
    | succ d ih =>
      intro i hi
      have i1 := ih (i + 1) (by omega)
      refine Ev.succ ?_
      simp only [spec_l06Reach.l0]
      refine Ev.pos (by omega) ?_
      rw [l01Bit_eq _ i (mk62 hn _) (by omega), testBit_mk, w64' (by omega)]
      refine Ev.some_bind (Ev.ite (fun h => ?_) (fun h => ?_))
      · have hp : p i = true := (Bool.and_eq_true_iff.1 h).2
        refine Ev.pos (by omega) (Ev.pos (by simp; omega) ?_)
        rw [rd_mat n f i (by omega), b_or _ _ (mk62 hn _) (mk62 hn _), mk_or]
        have e1 : mk n (fun a => ((List.range i).any fun c => p c && f c a) || f i a) = mk n (fun b => (List.range (i + 1)).any fun c => p c && f c b) := mk_congr fun b _ => by rw [List.range_succ, List.any_append]; simp [hp]
        rw [e1]
        exact i1
      · have hp : p i = false := by simpa [show i < n by omega] using h
        have e1 : mk n (fun b => (List.range i).any fun c => p c && f c b) = mk n (fun b => (List.range (i + 1)).any fun c => p c && f c b) := mk_congr fun b _ => by rw [List.range_succ, List.any_append]; simp [hp]
        rw [e1]
        exact i1
  simp only [spec_l06Reach.f]
  have := loop n 0 (by omega)
  have e1 : mk n (fun b => (List.range 0).any fun c => p c && f c b) = 0 := mk_zero fun c _ => by simp
  rw [e1] at this
  exact this
theorem l03Project_ev (w : List Nat) (hl : w.length ≤ 1000000) (hw : ∀ x ∈ w, x ≤ 64) (M : Nat) (hM : M < 2 ^ 62) : Ev (fun k => spec_l03Project.f k (ints w) (M : Int)) (ints (w.filter fun a => M.testBit a)) := by
  have loop : ∀ (suf pre : List Nat), pre ++ suf = w → Ev (fun k => spec_l03Project.l0 k (ints w) (M : Int) (ints (pre.filter fun a => M.testBit a)) (pre.length : Int)) (ints (w.filter fun a => M.testBit a)) := by
    intro suf
    induction suf with
    | nil =>
      intro pre hp
      rw [List.append_nil] at hp
      subst hp
      refine Ev.succ ?_
      simp only [spec_l03Project.l0]
      exact Ev.neg (by simp) (Ev.now _)
    | cons x suf ih =>
      intro pre hp
      have hlen : pre.length + suf.length + 1 = w.length := by rw [← hp]; simp; omega
      have hx := hw x (by rw [← hp]; simp)
      have i1 := ih (pre ++ [x]) (by simpa using hp)
      rw [show (pre ++ [x]).length = pre.length + 1 by simp, List.filter_append] at i1
      have rx : rd (ints w) (pre.length : Int) = (x : Int) := by rw [← hp]; exact rd_mid pre suf x
      have hf := List.length_filter_le (fun a => M.testBit a) pre
      refine Ev.succ ?_
      simp only [spec_l03Project.l0]
      refine Ev.pos (by simp; omega) (Ev.pos (by omega) ?_)
      rw [rx, l01Bit_eq M x hM (by omega), w64' (by omega)]
      refine Ev.some_bind (Ev.ite (fun h => ?_) (fun h => ?_))
      · refine Ev.pos (by rw [ints_length]; omega) ?_
        rw [show [x].filter (fun a => M.testBit a) = [x] by simp [h], ints_append] at i1
        exact i1
      · rw [show [x].filter (fun a => M.testBit a) = [] by simp [h], List.append_nil] at i1
        exact i1
  simp only [spec_l03Project.f]
  exact loop w [] rfl
theorem l07Parts_ev (n : Nat) (hn : n ≤ 8) (f : Nat → Nat → Bool) (hs : ∀ a b, f a b = f b a) (hr : ∀ a, a < n → f a a = true) (w : List Nat) (hl : w.length ≤ 100000) (hw : ∀ x ∈ w, x < n) :
    Ev (fun k => spec_l07Parts.f k (n : Int) (mat n f) (ints w)) ((partsW n f w).map ints) := by
  have h24 := pow_lt62 (show n ≤ 24 by omega)
  have hL : ∀ b, (fun a => decide (a ∈ w)) b = true → b < n := fun b h => hw b (of_decide_eq_true h)
  let L : Nat → Bool := fun a => decide (a ∈ w)
  let out : Nat → List (List Int) := fun a => ((List.range a).filter (headP n f L)).map fun a => ints (normalP f n (w.filter (compP n f L a)))
  have outl : ∀ a, (out a).length ≤ a := fun a => by
    simp only [out, List.length_map]
    exact Nat.le_trans (List.length_filter_le _ _) (by simp)
  have outs : ∀ a, out (a + 1) = out a ++ if headP n f L a = true then [ints (normalP f n (w.filter (compP n f L a)))] else [] := fun a => by
    simp only [out]
    rw [List.range_succ, List.filter_append, List.map_append]
    congr 1
    by_cases h : headP n f L a = true <;> simp [h]
  have oute : out n = (partsW n f w).map ints := by
    simp only [out, partsW, List.map_map]
    rfl
  have loop : ∀ (d a : Nat), a + d = n → Ev (fun k => spec_l07Parts.l0 k (ints w) (out a) ((mk n (leftP n f L a) : Nat) : Int) (a : Int) (n : Int) (mat n f)) ((partsW n f w).map ints) := by
    intro d
    induction d with
    | zero =>
      intro a ha
      obtain rfl : a = n := by omega
      refine Ev.succ ?_
      simp only [spec_l07Parts.l0]
      rw [← oute]
      exact Ev.neg (by omega) (Ev.now _)
    | succ d ih =>
      intro a ha
      have i1 := ih (a + 1) (by omega)
      have han : a < n := by omega
      rw [outs a] at i1
      have inner : headP n f L a = true → ∀ (e m : Nat), m + e = n → Ev (fun k => spec_l07Parts.l1 k (ints w) (out a) ((mk n (leftP n f L a) : Nat) : Int) (a : Int) ((mk n (partN n f (leftP n f L a) a m) : Nat) : Int) (m : Int) (n : Int) (mat n f)) ((partsW n f w).map ints) := by
        intro h e
        rw [if_pos h] at i1
        have hLa : L a = true := ((leftP_iff n f L a a).1 h).1
        induction e with
        | zero =>
          intro m hm
          obtain rfl : m = n := by omega
          have ec : mk m (partN m f (leftP m f L a) a m) = mk m (compP m f L a) := mk_congr fun b hb => partN_comp m f hr hL hLa (fun b hb => ((leftP_iff m f L a b).1 hb).1) (left_comp m f hs hL h) b hb
          have hlt := mk_lt m (compP m f L a)
          have hlt2 := mk_lt m (leftP m f L a)
          have hsp := mk_split m (leftP m f L a) (compP m f L a)
          rw [mk_congr (p := fun b => leftP m f L a b && compP m f L a b) (q := compP m f L a) fun b _ => by
            cases hb : compP m f L a b with
            | false => simp
            | true => rw [left_comp m f hs hL h b hb]; rfl] at hsp
          have e2 : mk m (fun b => leftP m f L a b && !compP m f L a b) = mk m (leftP m f L (a + 1)) := mk_congr fun b _ => (leftP_head m f h b).symm
          rw [e2] at hsp
          have hfl := List.length_filter_le (compP m f L a) w
          have ol := outl a
          refine Ev.succ ?_
          simp only [spec_l07Parts.l1]
          rw [ec]
          refine Ev.neg (by omega) (Ev.bind (l03Project_ev w (by omega) (fun x hx => by have := hw x hx; omega) _ (by omega)) ?_)
          rw [filter_mk hw]
          refine Ev.bind (l03Normal_ev m (by omega) f _ (by omega) (mem_filter_lt hw _)) (Ev.pos (by omega) ?_)
          rw [w64' (by omega), w64' (by omega), show ((mk m (leftP m f L a) : Nat) : Int) - ((mk m (compP m f L a) : Nat) : Int) = ((mk m (leftP m f L (a + 1)) : Nat) : Int) by omega]
          exact i1
        | succ e ihe =>
          intro m hm
          have j1 := ihe (m + 1) (by omega)
          have hlt := mk_lt n (partN n f (leftP n f L a) a m)
          refine Ev.succ ?_
          simp only [spec_l07Parts.l1]
          refine Ev.pos (by omega) (Ev.bind (l06Reach_ev n (by omega) f _) ?_)
          rw [b_or _ _ (mk62 (by omega) _) (mk62 (by omega) _), mk_or, b_and _ _ (mk62 (by omega) _) (mk62 (by omega) _), mk_and, w64' (by omega)]
          exact j1
      have hx : (mk n (leftP n f L a)).testBit a = headP n f L a := by rw [testBit_mk, headP_left]; simp [han]
      refine Ev.succ ?_
      simp only [spec_l07Parts.l0]
      refine Ev.pos (by omega) ?_
      rw [l01Bit_eq _ a (mk62 (by omega) _) (by omega), hx]
      refine Ev.some_bind (Ev.ite (fun h => ?_) (fun h => ?_))
      · rw [l01One_eq a (by omega)]
        refine Ev.some_bind ?_
        have := inner h n 0 (by omega)
        rw [show mk n (partN n f (leftP n f L a) a 0) = 2 ^ a by
          refine bits_ext fun i => ?_
          rw [testBit_mk, testBit_one]
          by_cases e : a = i
          · subst e; simp [partN, han]
          · simp [partN, e, show ¬ i = a from fun h => e h.symm]] at this
        exact this
      · rw [if_neg h, List.append_nil] at i1
        rw [w64' (by omega), mk_congr (q := leftP n f L (a + 1)) fun b _ => (leftP_no n f hL (by simpa using h) b).symm]
        exact i1
  simp only [spec_l07Parts.f]
  refine Ev.bind (l07Letters_ev n (by omega) w (by omega) hw) ?_
  have := loop n 0 (by omega)
  rw [show mk n (leftP n f L 0) = mk n (fun a => decide (a ∈ w)) from mk_congr fun b _ => leftP_zero n f L b] at this
  exact this
theorem projected_ev (w : List Nat) (hl : w.length ≤ 1000000) (hw : ∀ x ∈ w, x ≤ 64) (M : Nat) (hM : M < 2 ^ 62) : Ev (fun k => impl_projected.f k (ints w) (M : Int)) (ints (w.filter fun a => M.testBit a)) := by
  have loop : ∀ (suf pre : List Nat), pre ++ suf = w → Ev (fun k => impl_projected.l0 k (M : Int) (ints (pre.filter fun a => M.testBit a)) (ints w) (w.length : Int) (pre.length : Int)) (ints (w.filter fun a => M.testBit a)) := by
    intro suf
    induction suf with
    | nil =>
      intro pre hp
      rw [List.append_nil] at hp
      subst hp
      refine Ev.succ ?_
      simp only [impl_projected.l0]
      exact Ev.neg (by omega) (Ev.now _)
    | cons x suf ih =>
      intro pre hp
      have hlen : pre.length + suf.length + 1 = w.length := by rw [← hp]; simp; omega
      have hx := hw x (by rw [← hp]; simp)
      have i1 := ih (pre ++ [x]) (by simpa using hp)
      rw [show (pre ++ [x]).length = pre.length + 1 by simp, List.filter_append] at i1
      have rx : rd (ints w) (pre.length : Int) = (x : Int) := by rw [← hp]; exact rd_mid pre suf x
      have hf := List.length_filter_le (fun a => M.testBit a) pre
      refine Ev.succ ?_
      simp only [impl_projected.l0]
      refine Ev.pos (by omega) (Ev.pos (by omega) (Ev.pos (by rw [ints_length]; omega) ?_))
      rw [rx, has_eq M x hM (by omega), w64' (by omega)]
      refine Ev.some_bind (Ev.ite (fun h => ?_) (fun h => ?_))
      · refine Ev.pos (by rw [ints_length]; omega) ?_
        rw [show [x].filter (fun a => M.testBit a) = [x] by simp [h], ints_append] at i1
        exact i1
      · rw [show [x].filter (fun a => M.testBit a) = [] by simp [h], List.append_nil] at i1
        exact i1
  simp only [impl_projected.f]
  rw [ints_length]
  exact loop w [] rfl
theorem components_ev (n : Nat) (hn : n ≤ 24) (E : Nat → Nat → Bool) (hE : ∀ a b, E a b = E b a) : Ev (fun k => impl_components.f k (mat n E)) ((classesP n E n).map fun i => ((mk n (clos n E i) : Nat) : Int)) := by
  have h24 := pow_lt62 hn
  have last : ∀ (d i : Nat), i + d = n → Ev (fun k => impl_components.l1 k ((classesP n E i).map fun i => ((mk n (clos n E i) : Nat) : Int)) ((mk n (seenP n E i) : Nat) : Int) (mat n (clos n E)) (n : Int) (i : Int)) ((classesP n E n).map fun i => ((mk n (clos n E i) : Nat) : Int)) := by
    intro d
    induction d with
    | zero =>
      intro i hi
      obtain rfl : i = n := by omega
      refine Ev.succ ?_
      simp only [impl_components.l1]
      exact Ev.neg (by omega) (Ev.now _)
    | succ d ih =>
      intro i hi
      have i1 := ih (i + 1) (by omega)
      rw [classesP_succ, List.map_append] at i1
      have cl := classesP_length n E i
      refine Ev.succ ?_
      simp only [impl_components.l1]
      refine Ev.pos (by omega) (Ev.pos (by omega) (Ev.pos (by simp; omega) ?_))
      rw [has_eq _ i (mk62 hn _) (by omega), testBit_mk, rd_mat n _ i (by omega), w64' (by omega)]
      refine Ev.some_bind (Ev.ite (fun h => ?_) (fun h => ?_))
      · have hsn : seenP n E i i = true := (Bool.and_eq_true_iff.1 h).2
        rw [if_pos hsn, List.map_nil, List.append_nil] at i1
        rw [mk_congr (q := seenP n E (i + 1)) fun b hb => by
          rw [seenP_succ]
          cases e : clos n E i b with
          | false => simp
          | true =>
            obtain ⟨c, c1, c2⟩ := (seenP_iff n E i i).1 hsn
            rw [(seenP_iff n E i b).2 ⟨c, c1, clos_trans (by omega) c2 e⟩]; rfl]
        exact i1
      · have hsn : ¬ seenP n E i i = true := by simpa [show i < n by omega] using h
        rw [if_neg hsn] at i1
        refine Ev.pos (by rw [List.length_map]; omega) ?_
        rw [b_or _ _ (mk62 hn _) (mk62 hn _), mk_or, mk_congr (q := seenP n E (i + 1)) fun b _ => (seenP_succ n E i b).symm]
        exact i1
  have first : ∀ (d i : Nat), i + d = n → Ev (fun k => impl_components.l0 k (mat n fun a b => E b a || (decide (a < i) && E a b)) (mat n E) (n : Int) (i : Int)) ((classesP n E n).map fun i => ((mk n (clos n E i) : Nat) : Int)) := by
    intro d
    induction d with
    | zero =>
      intro i hi
      obtain rfl : i = n := by omega
      refine Ev.succ ?_
      simp only [impl_components.l0]
      refine Ev.neg (by omega) ?_
      rw [mat_congr (g := E) fun a b _ _ => by rw [hE b a]; cases E a b <;> simp]
      refine Ev.bind (closure_ev i hn E) ?_
      rw [mat_length]
      have := last i 0 (by omega)
      rw [show mk i (seenP i E 0) = 0 from mk_zero fun c _ => by simp [seenP]] at this
      exact this
    | succ d ih =>
      intro i hi
      have i1 := ih (i + 1) (by omega)
      refine Ev.succ ?_
      simp only [impl_components.l0]
      refine Ev.pos (by omega) (Ev.pos (by omega) (Ev.pos (by simp; omega) (Ev.pos (by simp; omega) ?_)))
      rw [rd_mat n _ i (by omega), rd_mat n _ i (by omega), b_or _ _ (mk62 hn _) (mk62 hn _), mk_or, Int.toNat_natCast, mat_row n _ i (by omega), w64' (by omega)]
      rw [mat_congr (g := fun a b => E b a || (decide (a < i + 1) && E a b)) fun a b _ _ => by
        by_cases e : a = i
        · subst e; simp
        · rw [if_neg e]
          by_cases e2 : a < i
          · simp [e2, show a < i + 1 by omega]
          · simp [e2, show ¬ a < i + 1 by omega]]
      exact i1
  simp only [impl_components.f]
  refine Ev.bind (converse_ev n hn E) ?_
  rw [mat_length]
  have := first n 0 (by omega)
  rw [mat_congr (g := fun a b => E b a) fun a b _ _ => by simp] at this
  exact this
theorem partsOf_ev (n : Nat) (hn : n ≤ 8) (f : Nat → Nat → Bool) (hs : ∀ a b, f a b = f b a) (w : List Nat) (hl : w.length ≤ 100000) (hw : ∀ x ∈ w, x < n) :
    Ev (fun k => impl_ties_partsOf.f k (mat n f) (ints w)) ((partsW n f w).map ints) := by
  have h24 := pow_lt62 (show n ≤ 24 by omega)
  let L : Nat → Bool := fun a => decide (a ∈ w)
  have hL : ∀ b, L b = true → b < n := fun b h => hw b (of_decide_eq_true h)
  have hThere := mk_lt n L
  let comp : Nat → Int := fun i => ((mk n (compP n f L i) : Nat) : Int)
  have hE : ∀ a b, tieP f L a b = tieP f L b a := fun a b => by unfold tieP; rw [hs, Bool.and_comm (L a)]
  have hcl : ∀ i ∈ classesP n (tieP f L) n, i < n := fun i hi => List.mem_range.1 (List.mem_filter.1 hi).1
  let val : List Nat → List (List Int) := fun is => (is.filter L).map fun a => ints (normalP f n (w.filter (compP n f L a)))
  have vall : ∀ is, (val is).length ≤ is.length := fun is => by
    simp only [val, List.length_map]
    exact List.length_filter_le _ _
  have hfin : val (classesP n (tieP f L) n) = (partsW n f w).map ints := by
    simp only [val, partsW, classesP, List.map_map, List.filter_filter]
    rw [List.filter_congr (q := headP n f L) fun i hi => by
      rw [Bool.eq_iff_iff, Bool.and_eq_true, Bool.not_eq_true', headP_left, leftP_iff]
      refine and_congr_right fun hLi => ⟨fun h c hc _ => ?_, fun h => ?_⟩
      · cases e : compP n f L c i with
        | false => rfl
        | true => rw [(seenP_iff n (tieP f L) i i).2 ⟨c, hc, e⟩] at h; cases h
      · cases e : seenP n (tieP f L) i i with
        | false => rfl
        | true =>
          obtain ⟨c, c1, c2⟩ := (seenP_iff n (tieP f L) i i).1 e
          have := h c c1 (compP_out n f c2 hLi)
          rw [show compP n f L c i = true from c2] at this
          cases this]
    rfl
  have last : ∀ (suf pre : List Nat), pre ++ suf = classesP n (tieP f L) n → Ev (fun k => impl_ties_partsOf.l1 k (mat n f) (ints w) ((mk n L : Nat) : Int) (val pre) ((classesP n (tieP f L) n).map comp) (((classesP n (tieP f L) n).map comp).length : Int) (pre.length : Int)) ((partsW n f w).map ints) := by
    intro suf
    have hcn := classesP_length n (tieP f L) n
    induction suf with
    | nil =>
      intro pre hp
      rw [List.append_nil] at hp
      refine Ev.succ ?_
      simp only [impl_ties_partsOf.l1]
      rw [← hfin, ← hp]
      exact Ev.neg (by rw [List.length_map]; omega) (Ev.now _)
    | cons b suf ih =>
      intro pre hp
      have hbm : b ∈ classesP n (tieP f L) n := by rw [← hp]; simp
      have hbl := hcl b hbm
      have hlen : pre.length + suf.length + 1 = (classesP n (tieP f L) n).length := by rw [← hp]; simp; omega
      have i1 := ih (pre ++ [b]) (by simpa using hp)
      rw [show (pre ++ [b]).length = pre.length + 1 by simp, show val (pre ++ [b]) = val pre ++ val [b] by simp only [val, List.filter_append, List.map_append]] at i1
      have rb : rd ((classesP n (tieP f L) n).map comp) (pre.length : Int) = comp b := by
        rw [rd_lt _ _ (by rw [List.length_map]; omega), List.getElem_map]
        have : (classesP n (tieP f L) n)[pre.length]'(by omega) = b := by
          simp only [← hp]
          simp
        rw [this]
      have hv := vall pre
      have hfl := List.length_filter_le (compP n f L b) w
      have hlt := mk_lt n (compP n f L b)
      refine Ev.succ ?_
      simp only [impl_ties_partsOf.l1]
      refine Ev.pos (by rw [List.length_map]; omega) (Ev.pos (by omega) (Ev.pos (by rw [List.length_map]; omega) ?_))
      rw [rb]
      simp only [comp]
      rw [b_and _ _ (by omega) (by omega), mk_and, w64' (by omega)]
      by_cases h : L b = true
      · have hne : mk n (fun a => compP n f L b a && L a) ≠ 0 := mk_ne_zero ⟨b, hbl, by rw [h, show compP n f L b b = true from clos_refl n b]; rfl⟩
        refine Ev.neg (by omega) (Ev.bind (projected_ev w (by omega) (fun x hx => by have := hw x hx; omega) _ (by omega)) ?_)
        rw [filter_mk hw]
        refine Ev.bind (normal_ev n hn f _ (by omega) (mem_filter_lt hw _)) (Ev.pos (by omega) ?_)
        rw [show val [b] = [ints (normalP f n (w.filter (compP n f L b)))] by simp [val, h]] at i1
        exact i1
      · have hz : mk n (fun a => compP n f L b a && L a) = 0 := mk_zero fun c hc => by
          cases e : compP n f L b c with
          | false => rfl
          | true =>
            have := compP_alone n f e (by simpa using h)
            subst this
            simpa using h
        rw [hz]
        rw [show val [b] = [] by simp [val, h], List.append_nil] at i1
        exact Ev.pos rfl i1
  have h64 := bitsOf_length (mk n L)
  have hbm : ∀ i ∈ bitsOf (mk n L), i < n ∧ L i = true := fun i hi => by
    have := (mem_bitsOf (by have : (2 : Nat) ^ 62 < 2 ^ 64 := by decide
                            omega)).1 hi
    rw [testBit_mk] at this
    simpa using this
  have hbc : ∀ i, i < n → L i = true → i ∈ bitsOf (mk n L) := fun i hi hl => (mem_bitsOf (by have : (2 : Nat) ^ 62 < 2 ^ 64 := by decide
                                                                                             omega)).2 (by rw [testBit_mk]; simp [hi, hl])
  have hil : (intsOf (mk n L)).length = (bitsOf (mk n L)).length := by simp [intsOf]
  have first : ∀ (suf pre : List Nat), pre ++ suf = bitsOf (mk n L) → Ev (fun k => impl_ties_partsOf.l0 k (mat n f) (ints w) ((mk n L : Nat) : Int) (mat n fun a b => decide (a ∈ pre) && (f a b && L b)) (intsOf (mk n L)) ((intsOf (mk n L)).length : Int) (pre.length : Int)) ((partsW n f w).map ints) := by
    intro suf
    induction suf with
    | nil =>
      intro pre hp
      rw [List.append_nil] at hp
      refine Ev.succ ?_
      simp only [impl_ties_partsOf.l0]
      refine Ev.neg (by rw [hil, hp]; omega) ?_
      rw [mat_congr (g := tieP f L) fun a b ha _ => by
        unfold tieP
        rw [hp]
        by_cases h : L a = true
        · rw [decide_eq_true (hbc a ha h), h]; simp
        · rw [decide_eq_false (fun hm => h (hbm a hm).2), show L a = false by simpa using h]; simp]
      refine Ev.bind (components_ev n (by omega) _ hE) ?_
      exact last (classesP n (tieP f L) n) [] rfl
    | cons b suf ih =>
      intro pre hp
      have hb := hbm b (by rw [← hp]; simp)
      have hlen : pre.length + suf.length + 1 = (bitsOf (mk n L)).length := by rw [← hp]; simp; omega
      have i1 := ih (pre ++ [b]) (by simpa using hp)
      rw [show (pre ++ [b]).length = pre.length + 1 by simp] at i1
      have rb : rd (intsOf (mk n L)) (pre.length : Int) = (b : Int) := by
        have := rd_mid pre suf b
        rw [hp] at this
        exact this
      refine Ev.succ ?_
      simp only [impl_ties_partsOf.l0]
      refine Ev.pos (by omega) (Ev.pos (by omega) (Ev.pos (by omega) ?_))
      rw [rb]
      refine Ev.pos (by omega) (Ev.pos (by simp; omega) (Ev.pos (by simp; omega) ?_))
      rw [rd_mat n f b hb.1, b_and _ _ (mk62 (by omega) _) (by omega), mk_and, Int.toNat_natCast, mat_row n _ b hb.1, w64' (by omega)]
      have em : mat n (fun a c => if a = b then (f b c && L c) else decide (a ∈ pre) && (f a c && L c)) = mat n (fun a c => decide (a ∈ pre ++ [b]) && (f a c && L c)) := mat_congr fun a c _ _ => by
        by_cases e : a = b
        · subst e; simp
        · rw [if_neg e]; simp [e]
      rw [em]
      exact i1
  simp only [impl_ties_partsOf.f]
  refine Ev.bind (maskOf_ev n (by omega) w (by omega) hw) (Ev.pos (by omega) (Ev.pos (by simp; omega) (Ev.bind (members_ev (mk n L) (by omega)) ?_)))
  have := first (bitsOf (mk n L)) [] rfl
  rw [show (mat n fun a b => decide (a ∈ ([] : List Nat)) && (f a b && L b)) = List.replicate n 0 by
    apply List.ext_getElem
    · simp
    · intro q h1 h2
      simp only [mat, List.getElem_map, List.getElem_range, List.getElem_replicate]
      rw [mk_zero fun c _ => by simp]; rfl] at this
  rw [mat_length, Int.toNat_natCast]
  exact this
theorem l03Draw_l0 {c : List Int} (m : Int) (D : List Int) : ∀ (t : Nat) (out : List Int) (a h : Int), Src c a → out.length + t ≤ 1000 →
    ∃ w a' h', Src c a' ∧ w.length = out.length + t ∧ Ev (fun k => spec_l03Draw.l0 k out (t : Int) c a h m D) (w, a', h') := by
  intro t
  induction t with
  | zero =>
    intro out a h hS hl
    refine ⟨out, a, h, hS, by omega, Ev.succ ?_⟩
    simp only [spec_l03Draw.l0]
    exact Ev.neg (by omega) (Ev.now _)
  | succ t ih =>
    intro out a h hS hl
    have wt : wrap64 (((t + 1 : Nat) : Int) - 1) = (t : Int) := by rw [w64' (by omega)]; omega
    by_cases g : (out.length : Int) > 0
    · obtain ⟨v, a1, h1, e1, s1, v0, v1, _⟩ := l01Next_ev hS h 8
      by_cases g2 : v = 0
      · obtain ⟨w, a2, h2, s2, l2, r2⟩ := ih (out ++ [rd out (wrap64 ((out.length : Int) - 1))]) a1 h1 s1 (by simp; omega)
        refine ⟨w, a2, h2, s2, by rw [l2]; simp; omega, Ev.succ ?_⟩
        simp only [spec_l03Draw.l0]
        refine Ev.pos (by omega) (Ev.pos g ?_)
        rw [e1]
        refine Ev.some_bind (Ev.pos g2 (Ev.pos (by rw [w64' (by omega)]; omega) (Ev.pos (by rw [w64' (by omega)]; omega) (Ev.pos (by omega) ?_))))
        rw [wt]
        exact r2
      · obtain ⟨v2, a2, h2, e2, s2, _⟩ := l01Next_ev s1 h1 m
        obtain ⟨w, a3, h3, s3, l3, r3⟩ := ih (out ++ [v2]) a2 h2 s2 (by simp; omega)
        refine ⟨w, a3, h3, s3, by rw [l3]; simp; omega, Ev.succ ?_⟩
        simp only [spec_l03Draw.l0]
        refine Ev.pos (by omega) (Ev.pos g ?_)
        rw [e1]
        refine Ev.some_bind (Ev.neg g2 ?_)
        rw [e2]
        refine Ev.some_bind (Ev.pos (by omega) ?_)
        rw [wt]
        exact r3
    · obtain ⟨v2, a2, h2, e2, s2, _⟩ := l01Next_ev hS h m
      obtain ⟨w, a3, h3, s3, l3, r3⟩ := ih (out ++ [v2]) a2 h2 s2 (by simp; omega)
      refine ⟨w, a3, h3, s3, by rw [l3]; simp; omega, Ev.succ ?_⟩
      simp only [spec_l03Draw.l0]
      refine Ev.pos (by omega) (Ev.neg g ?_)
      rw [e2]
      refine Ev.some_bind (Ev.pos (by omega) ?_)
      rw [wt]
      exact r3
theorem l03Draw_ev {c : List Int} {a : Int} (hS : Src c a) (h n : Int) (D : List Int) (most : Nat) (hm : most ≤ 24) : ∃ w a' h', Src c a' ∧ w.length ≤ most ∧ Ev (fun k => spec_l03Draw.f k c a h n D (most : Int)) (w, a', h') := by
  by_cases g : n = 0
  · refine ⟨[], a, h, hS, by simp, ?_⟩
    simp only [spec_l03Draw.f]
    exact Ev.some_bind (Ev.pos g (Ev.now _))
  · obtain ⟨v, a1, h1, e1, s1, v0, v1, _⟩ := l01Next_ev hS h (wrap64 ((most : Int) + 1))
    rw [w64' (by omega)] at v1
    have v1' := v1 (by omega)
    obtain ⟨t, rfl⟩ := Int.eq_ofNat_of_zero_le v0
    obtain ⟨w, a2, h2, s2, l2, r2⟩ := l03Draw_l0 (c := c) n D t [] a1 h1 s1 (by simp; omega)
    refine ⟨w, a2, h2, s2, by rw [l2]; simp; omega, ?_⟩
    simp only [spec_l03Draw.f]
    refine Ev.some_bind (Ev.neg g ?_)
    rw [e1]
    exact Ev.some_bind r2
theorem l03Spoil_l0 {c : List Int} (m : Int) (D : List Int) : ∀ (t : Nat) (out : List Int) (a h : Int), Src c a → out.length + t = 25 →
    ∃ w a' h', Src c a' ∧ w.length ≤ 25 ∧ Ev (fun k => spec_l03Spoil.l0 k out c a h m D) (w, a', h') := by
  intro t
  induction t with
  | zero =>
    intro out a h hS hl
    refine ⟨out, a, h, hS, by omega, Ev.succ ?_⟩
    simp only [spec_l03Spoil.l0]
    exact Ev.ite (fun _ => Ev.neg (by omega) (Ev.now _)) (fun _ => Ev.now _)
  | succ t ih =>
    intro out a h hS hl
    by_cases g : m > 0
    · obtain ⟨v2, a2, h2, e2, s2, _⟩ := l01Next_ev hS h m
      obtain ⟨w, a3, h3, s3, l3, r3⟩ := ih (out ++ [v2]) a2 h2 s2 (by simp; omega)
      refine ⟨w, a3, h3, s3, l3, Ev.succ ?_⟩
      simp only [spec_l03Spoil.l0]
      refine Ev.pos g (Ev.pos (by omega) ?_)
      rw [e2]
      exact Ev.some_bind (Ev.pos (by omega) r3)
    · refine ⟨out, a, h, hS, by omega, Ev.succ ?_⟩
      simp only [spec_l03Spoil.l0]
      exact Ev.neg g (Ev.now _)
theorem l03Spoil_ev {c : List Int} {a : Int} (hS : Src c a) (h n : Int) (D : List Int) (most : Nat) (hm : most ≤ 24) : ∃ w a' h', Src c a' ∧ w.length ≤ 25 ∧ Ev (fun k => spec_l03Spoil.f k c a h n D (most : Int)) (w, a', h') := by
  have hi := l02Is_ev n D
  by_cases g : Alpha n D
  · rw [decide_eq_true g] at hi
    obtain ⟨w, a1, h1, s1, l1, r1⟩ := l03Draw_ev hS h n D most hm
    obtain ⟨v, a2, h2, e2, s2, _⟩ := l01Next_ev s1 h1 28
    by_cases g0 : v = 0
    · obtain ⟨v3, a3, h3, e3, s3, _⟩ := l01Pick_ev s2 h2 [-1, n, 1099511627776] (by simp)
      refine ⟨w ++ [v3], a3, h3, s3, by simp; omega, ?_⟩
      simp only [spec_l03Spoil.f]
      refine Ev.bind hi (Ev.pos rfl (Ev.bind r1 ?_))
      simp only []
      rw [e2]
      refine Ev.some_bind (Ev.pos g0 ?_)
      simp only []
      rw [e3]
      exact Ev.some_bind (Ev.pos (by omega) (Ev.now _))
    · by_cases g1 : v = 1
      · obtain ⟨w', a3, h3, s3, l3, r3⟩ := l03Spoil_l0 (c := c) n D (25 - w.length) w a2 h2 s2 (by omega)
        refine ⟨w', a3, h3, s3, l3, ?_⟩
        simp only [spec_l03Spoil.f]
        refine Ev.bind hi (Ev.pos rfl (Ev.bind r1 ?_))
        simp only []
        rw [e2]
        exact Ev.some_bind (Ev.neg g0 (Ev.pos g1 r3))
      · refine ⟨w, a2, h2, s2, by omega, ?_⟩
        simp only [spec_l03Spoil.f]
        refine Ev.bind hi (Ev.pos rfl (Ev.bind r1 ?_))
        simp only []
        rw [e2]
        exact Ev.some_bind (Ev.neg g0 (Ev.neg g1 (Ev.now _)))
  · rw [decide_eq_false g] at hi
    refine ⟨[0, 1, 0], a, h, hS, by simp, ?_⟩
    simp only [spec_l03Spoil.f]
    exact Ev.bind hi (Ev.neg (by decide) (Ev.now _))
theorem l02Spoil_ev {c : List Int} {a : Int} (hS : Src c a) (h : Int) (most : Nat) (hm : most ≤ 8) : ∃ n D a' h', Src c a' ∧ D.length ≤ 9 ∧ Ev (fun k => spec_l02Spoil.f k c a h (most : Int)) (n, D, a', h') := by
  obtain ⟨⟨n0, D0, a0, h0⟩, ⟨m, f, e1, e2, hm1, hm8, hs, hr, hS0⟩, hd⟩ := l02Draw_ev hS h most hm
  simp only at e1 e2 hS0
  subst e1 e2
  obtain ⟨v1, a1, h1, x1, s1, p1, _⟩ := l01Next_ev hS0 h0 14
  by_cases g1 : v1 > 0
  · refine ⟨(m : Int), mat m f, a1, h1, s1, by simp; omega, ?_⟩
    simp only [spec_l02Spoil.f]
    refine Ev.bind hd ?_
    simp only []
    rw [x1]
    exact Ev.some_bind (Ev.pos g1 (Ev.now _))
  · obtain ⟨v2, a2, h2, x2, s2, p2, _⟩ := l01Next_ev s1 h1 4
    by_cases g2 : v2 = 0
    · obtain ⟨v3, a3, h3, x3, s3, _⟩ := l01Pick_ev s2 h2 [-1, 9, wrap64 ((m : Int) + 1)] (by simp)
      refine ⟨v3, mat m f, a3, h3, s3, by simp; omega, ?_⟩
      simp only [spec_l02Spoil.f]
      refine Ev.bind hd ?_
      simp only []
      rw [x1]
      refine Ev.some_bind (Ev.neg g1 ?_)
      simp only []
      rw [x2]
      refine Ev.some_bind (Ev.pos g2 ?_)
      simp only []
      rw [x3]
      exact Ev.some_bind (Ev.now _)
    · by_cases g3 : v2 = 1
      · obtain ⟨v3, a3, h3, x3, s3, _⟩ := l01Pick_ev s2 h2 [0, 1, 255] (by simp)
        refine ⟨(m : Int), mat m f ++ [v3], a3, h3, s3, by simp; omega, ?_⟩
        simp only [spec_l02Spoil.f]
        refine Ev.bind hd ?_
        simp only []
        rw [x1]
        refine Ev.some_bind (Ev.neg g1 ?_)
        simp only []
        rw [x2]
        refine Ev.some_bind (Ev.neg g2 (Ev.pos g3 ?_))
        simp only []
        rw [x3]
        exact Ev.some_bind (Ev.pos (by simp; omega) (Ev.now _))
      · by_cases g4 : (m : Int) > 0
        · obtain ⟨v4, a4, h4, x4, s4, p4, q4, _⟩ := l01Next_ev s2 h2 (m : Int)
          have q4' := q4 (by omega)
          obtain ⟨i, rfl⟩ := Int.eq_ofNat_of_zero_le p4
          obtain ⟨v5, a5, h5, x5, s5, _⟩ := l01Next_ev s4 h4 ((2 ^ m : Nat) : Int)
          obtain ⟨v6, a6, h6, x6, s6, _⟩ := l01Pick_ev s5 h5 [wrap64 ((rd (mat m f) (i : Int)) - ((2 ^ i : Nat) : Int)), Go.bits .or .i64 (rd (mat m f) (i : Int)) ((2 ^ m : Nat) : Int), v5, -1] (by simp)
          refine ⟨(m : Int), (mat m f).set i v6, a6, h6, s6, by simp; omega, ?_⟩
          simp only [spec_l02Spoil.f]
          refine Ev.bind hd ?_
          simp only []
          rw [x1]
          refine Ev.some_bind (Ev.neg g1 ?_)
          simp only []
          rw [x2]
          refine Ev.some_bind (Ev.neg g2 (Ev.neg g3 (Ev.pos g4 ?_)))
          simp only []
          rw [x4]
          refine Ev.some_bind (Ev.pos (by omega) (Ev.pos (by simp; omega) ?_))
          rw [l01One_eq i (by omega), l01One_eq m (by omega)]
          refine Ev.some_bind (Ev.some_bind (Ev.some_bind ?_))
          simp only []
          rw [x5]
          refine Ev.some_bind ?_
          simp only []
          rw [x6]
          exact Ev.some_bind (Ev.now _)
        · refine ⟨(m : Int), mat m f, a2, h2, s2, by simp; omega, ?_⟩
          simp only [spec_l02Spoil.f]
          refine Ev.bind hd ?_
          simp only []
          rw [x1]
          refine Ev.some_bind (Ev.neg g1 ?_)
          simp only []
          rw [x2]
          exact Ev.some_bind (Ev.neg g2 (Ev.neg g3 (Ev.neg g4 (Ev.now _))))
theorem l03Pair_ev (c : List Int) (hb : ∀ x ∈ c, 0 ≤ x ∧ x ≤ 255) (hc : c.length ≤ 4096) (letters most : Nat) (hl : letters ≤ 8) (hm : most ≤ 24) : ∃ a h n D w, Src c a ∧ D.length ≤ 9 ∧ w.length ≤ 25 ∧ Ev (fun k => spec_l03Pair.f k c (letters : Int) (most : Int)) (c, a, h, n, D, w) := by
  obtain ⟨h0, r0⟩ := l01From_ev c hc
  have s0 : Src c 0 := ⟨hb, hc, by omega, by omega⟩
  obtain ⟨⟨n1, D1, a1, h1⟩, ⟨m, f, e1, e2, hm1, hm8, hs, hr, s1⟩, r1⟩ := l02Draw_ev s0 h0 letters hl
  simp only at e1 e2 s1
  subst e1 e2
  obtain ⟨v2, a2, h2, x2, s2, _⟩ := l01Next_ev s1 h1 24
  by_cases g : v2 = 0
  · obtain ⟨n3, D3, a3, h3, s3, l3, r3⟩ := l02Spoil_ev s2 h2 letters hl
    obtain ⟨w, a4, h4, s4, l4, r4⟩ := l03Spoil_ev s3 h3 n3 D3 most hm
    refine ⟨a4, h4, n3, D3, w, s4, l3, l4, ?_⟩
    simp only [spec_l03Pair.f]
    refine Ev.bind r0 (Ev.bind r1 ?_)
    simp only []
    rw [x2]
    exact Ev.some_bind (Ev.pos g (Ev.bind r3 (Ev.bind r4 (Ev.now _))))
  · obtain ⟨w, a4, h4, s4, l4, r4⟩ := l03Spoil_ev s2 h2 (m : Int) (mat m f) most hm
    refine ⟨a4, h4, (m : Int), mat m f, w, s4, by simp; omega, l4, ?_⟩
    simp only [spec_l03Pair.f]
    refine Ev.bind r0 (Ev.bind r1 ?_)
    simp only []
    rw [x2]
    exact Ev.some_bind (Ev.neg g (Ev.bind r4 (Ev.now _)))
theorem check_ok {n : Nat} {D : List Int} (hA : Alpha (n : Int) D) (ws : List (List Int)) (h : ∀ w ∈ ws, Word (n : Int) w) : Ev (fun k => impl_checkWords.f k (n : Int) D ws) 0 := by
  have := checkWords_ev (n : Int) D ws
  rwa [if_pos hA, if_pos h] at this
theorem check_1 {n : Nat} {f : Nat → Nat → Bool} (hA : Alpha (n : Int) (mat n f)) {u : List Nat} (hl : u.length ≤ 24) (hu : ∀ x ∈ u, x < n) : Ev (fun k => impl_checkWords.f k (n : Int) (mat n f) [ints u]) 0 :=
  check_ok hA _ fun w hw => by rw [List.mem_singleton.1 hw]; exact Word.of hl hu
theorem check_2 {n : Nat} {f : Nat → Nat → Bool} (hA : Alpha (n : Int) (mat n f)) {u v : List Nat} (hl : u.length ≤ 24) (hu : ∀ x ∈ u, x < n) (hl2 : v.length ≤ 24) (hv : ∀ x ∈ v, x < n) : Ev (fun k => impl_checkWords.f k (n : Int) (mat n f) [ints u, ints v]) 0 :=
  check_ok hA _ fun w hw => by
    rcases List.mem_cons.1 hw with rfl | hw
    · exact Word.of hl hu
    · rw [List.mem_singleton.1 hw]; exact Word.of hl2 hv
theorem AreSameTrace_ok {n : Nat} (hn : n ≤ 8) {f : Nat → Nat → Bool} (hs : ∀ a b, f a b = f b a) (hA : Alpha (n : Int) (mat n f)) {u v : List Nat} (hl : u.length ≤ 24) (hu : ∀ x ∈ u, x < n) (hl2 : v.length ≤ 24) (hv : ∀ x ∈ v, x < n) :
    Ev (fun k => impl_AreSameTrace.f k (n : Int) (mat n f) (ints u) (ints v)) (decide (TrEq f u v), 0) := by
  simp only [impl_AreSameTrace.f, impl_Alphabet_ties.f]
  exact Ev.bind (check_2 hA hl hu hl2 hv) (Ev.pos rfl (Ev.some_bind (Ev.bind (same_ev n hn f hs u v (by omega) (by omega) hu hv) (Ev.now _))))
theorem codes2 (n : Int) (D l1 l2 : List Int) : (∃ m f u v, Two n D l1 l2 m f u v ∧ Ev (fun k => spec_l03Code.f k n D l1 l2) 0 ∧ Ev (fun k => impl_checkWords.f k n D [l1, l2]) 0) ∨
    ∃ c : Int, c ≠ 0 ∧ (c = 1 ∨ c = 2) ∧ Ev (fun k => spec_l03Code.f k n D l1 l2) c ∧ Ev (fun k => impl_checkWords.f k n D [l1, l2]) c := by
  have hc := l03Code_ev n D l1 l2
  have hk := checkWords_ev n D [l1, l2]
  have e : (∀ x ∈ [l1, l2], Word n x) ↔ (Word n l1 ∧ Word n l2) := by simp
  simp only [e] at hk
  by_cases hA : Alpha n D
  · by_cases hW : Word n l1 ∧ Word n l2
    · rw [if_pos hA, if_pos hW] at hc hk
      have hA2 := hA
      obtain ⟨m, f, rfl, rfl, hm, hs, hr⟩ := hA.form
      obtain ⟨u, rfl, hul, hu⟩ := hW.1.form
      obtain ⟨v, rfl, hvl, hv⟩ := hW.2.form
      exact .inl ⟨m, f, u, v, ⟨rfl, rfl, rfl, rfl, hm, hs, hr, hul, hu, hvl, hv, hA2⟩, hc, hk⟩
    · rw [if_pos hA, if_neg hW] at hc hk
      exact .inr ⟨2, by decide, .inr rfl, hc, hk⟩
  · rw [if_neg hA] at hc hk
    exact .inr ⟨1, by decide, .inl rfl, hc, hk⟩
end Go.Proofs.YtcboobfmenonhaaDoor.PAll
