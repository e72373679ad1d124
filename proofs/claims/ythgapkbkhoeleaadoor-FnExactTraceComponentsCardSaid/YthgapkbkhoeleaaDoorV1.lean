import Derived.Test.YthgapkbkhoeleaaDoorPAllx1
import Derived.Test.YthgapkbkhoeleaaDoorV0
import Derived.Test.YthgapkbkhoeleaaDoorQBase
import Derived.Test.YthgapkbkhoeleaaDoorQMask
import Derived.Test.YthgapkbkhoeleaaDoorQRev
import Derived.Test.YthgapkbkhoeleaaDoorQTrace
set_option linter.unusedVariables false
set_option linter.unusedSimpArgs false
namespace Go.Proofs.YthgapkbkhoeleaaDoor.PAll
open Go.RowKit Go.Proofs.YthgapkbkhoeleaaDoorW.PrintWords Go.Proofs.YthgapkbkhoeleaaDoorW.PrintMore Go.Proofs.YthgapkbkhoeleaaDoor.Q
theorem l01In_eq (a lo hi : Int) : spec_l01In.f a lo hi = some (decide (lo ≤ a ∧ a ≤ hi)) := by
  unfold spec_l01In.f
  by_cases h : lo ≤ a
  · rw [if_pos h]; simp [h]
  · rw [if_neg h]; simp [h]
theorem inRange_eq (a lo hi : Int) : impl_inRange.f a lo hi = some (decide (lo ≤ a ∧ a ≤ hi)) := by
  unfold impl_inRange.f
  by_cases h : lo ≤ a
  · rw [if_pos h]; simp [h]
  · rw [if_neg h]; simp [h]
theorem l01One_eq (n : Nat) (h : n ≤ 61) : spec_l01One.f (n : Int) = some ((2 ^ n : Nat) : Int) := by
  unfold spec_l01One.f
  rw [u64_nat n (by omega), if_pos (by omega), shl_one n h]
theorem l01Full_eq (n : Nat) (h : n ≤ 61) : spec_l01Full.f (n : Int) = some ((2 ^ n - 1 : Nat) : Int) := by
  unfold spec_l01Full.f
  rw [l01One_eq n h]
  have h1 : 0 < 2 ^ n := Nat.two_pow_pos n
  have h2 : (2 : Nat) ^ n ≤ 2 ^ 61 := Nat.pow_le_pow_right (by decide) h
  simp only [Option.bind_some]
  rw [w64' (by omega)]
  congr 1
  omega
theorem l01Bit_eq (m i : Nat) (hm : m < 2 ^ 62) (h : i ≤ 64) : spec_l01Bit.f (m : Int) (i : Int) = some (m.testBit i) := by
  unfold spec_l01Bit.f
  rw [u64_nat i (by omega), if_pos (by omega), bit_at m i hm h]
theorem one_eq (n : Nat) (h : n ≤ 61) : impl_one.f (n : Int) = some ((2 ^ n : Nat) : Int) := by
  unfold impl_one.f
  rw [if_pos (by omega), shl_one n h]
theorem has_eq (m i : Nat) (hm : m < 2 ^ 62) (h : i ≤ 64) : impl_has.f (m : Int) (i : Int) = some (m.testBit i) := by
  unfold impl_has.f
  rw [if_pos (by omega), bit_at m i hm h]
theorem least_eq (m : Nat) (hm : m < 2 ^ 62) : impl_least.f (m : Int) = some ((Lib.ctz 64 m : Nat) : Int) := by
  unfold impl_least.f bits_TrailingZeros64.f
  rw [u64_nat m (by omega), if_pos (by omega), Int.toNat_natCast]
  rfl
theorem members_l0 : ∀ (N m : Nat) (acc : List Int), m ≤ N → m < 2 ^ 62 → acc.length + (bitsOf m).length ≤ 1000 → Ev (fun k => impl_members.l0 k (m : Int) acc) (acc ++ intsOf m) := by
  intro N
  induction N with
  | zero =>
    intro m acc hN hm hl
    obtain rfl : m = 0 := by omega
    refine Ev.succ ?_
    simp only [impl_members.l0]
    refine Ev.pos (by simp) (Ev.const ?_)
    simp [intsOf, bitsOf_zero]
  | succ N ih =>
    intro m acc hN hm hl
    refine Ev.succ ?_
    simp only [impl_members.l0]
    by_cases h0 : m = 0
    · subst h0
      refine Ev.pos (by simp) (Ev.const ?_)
      simp [intsOf, bitsOf_zero]
    · rw [bitsOf_cons m h0 (by omega)] at hl
      simp only [List.length_cons] at hl
      refine Ev.neg (by omega) ?_
      rw [least_eq m hm]
      refine Ev.some_bind (Ev.pos (by omega) ?_)
      have hlt := and_pred_lt m h0
      rw [w64' (by omega), show (m : Int) - 1 = ((m - 1 : Nat) : Int) by omega, b_and m (m - 1) hm (by omega)]
      refine Ev.val (ih (m &&& (m - 1)) (acc ++ [((Lib.ctz 64 m : Nat) : Int)]) (by omega) (by omega) (by simp; omega)) ?_
      unfold intsOf
      rw [bitsOf_cons m h0 (by omega)]
      simp
theorem bitsOf_length (m : Nat) : (bitsOf m).length ≤ 64 := by
  unfold bitsOf
  have := List.length_filter_le (fun i => m.testBit i) (List.range 64)
  simpa using this
theorem members_ev (m : Nat) (hm : m < 2 ^ 62) : Ev (fun k => impl_members.f k (m : Int)) (intsOf m) := by
  simp only [impl_members.f]
  exact Ev.val (members_l0 m m [] (Nat.le_refl _) hm (by have := bitsOf_length m; simp; omega)) (by simp)
theorem l01Masks_l0 (n : Nat) (hn : n ≤ 61) (l : List Int) (hl : l.length ≤ 17592186044416) : ∀ (d i : Nat), i + d = l.length → (∀ j (h : j < l.length), j < i → 0 ≤ l[j] ∧ l[j] ≤ ((2 ^ n - 1 : Nat) : Int)) →
    Ev (fun k => spec_l01Masks.l0 k (n : Int) l i) (decide (∀ x ∈ l, 0 ≤ x ∧ x ≤ ((2 ^ n - 1 : Nat) : Int))) := by
  intro d
  induction d with
  | zero =>
    intro i hi hp
    refine Ev.succ ?_
    simp only [spec_l01Masks.l0]
    refine Ev.neg (by omega) (Ev.const ?_)
    rw [decide_eq_true fun x hx => ?_]
    obtain ⟨j, hj, rfl⟩ := List.getElem_of_mem hx
    exact hp j hj (by omega)
  | succ d ih =>
    intro i hi hp
    refine Ev.succ ?_
    simp only [spec_l01Masks.l0, l01Full_eq n hn, l01In_eq]
    refine Ev.pos (by omega) (Ev.pos (by omega) (Ev.some_bind (Ev.some_bind ?_)))
    rw [rd_lt l i (by omega)]
    simp only [decide_eq_true_eq]
    refine Ev.ite (fun c => ?_) (fun c => ?_)
    · rw [w64' (by omega)]
      refine ih (i + 1) (by omega) (fun j h hji => ?_)
      by_cases e : j = i
      · subst e; exact c
      · exact hp j h (by omega)
    · refine Ev.const ?_
      rw [decide_eq_false fun h => c (h _ (List.getElem_mem (by omega)))]
theorem l01Masks_ev (n : Nat) (hn : n ≤ 61) (l : List Int) (hl : l.length ≤ 17592186044416) : Ev (fun k => spec_l01Masks.f k (n : Int) l) (decide (∀ x ∈ l, 0 ≤ x ∧ x ≤ ((2 ^ n - 1 : Nat) : Int))) := by
  simp only [spec_l01Masks.f]
  exact l01Masks_l0 n hn l hl l.length 0 (by omega) (by intro j h hj; omega)
theorem l02Is_loop (m : Nat) (hm : m ≤ 8) (f : Nat → Nat → Bool) : ∀ (d a : Nat), a + d = m → (∀ i, i < a → f i i = true ∧ ∀ k, k < m → f i k = f k i) →
    Ev (fun k => spec_l02Is.l0 k (a : Int) (m : Int) (mat m f)) (decide (∀ i, i < m → f i i = true ∧ ∀ k, k < m → f i k = f k i)) := by
  intro d
  induction d with
  | zero =>
    intro a ha hp
    refine Ev.succ ?_
    simp only [spec_l02Is.l0]
    refine Ev.neg (by omega) (Ev.const ?_)
    rw [decide_eq_true fun i hi => hp i (by omega)]
  | succ d ih =>
    intro a ha hp
    have hb : ∀ i k, i < m → k < m → spec_l01Bit.f (rd (mat m f) (i : Int)) (k : Int) = some (f i k) := fun i k hi hk => by
      rw [rd_mat m f i hi, l01Bit_eq _ k (by have := mk_lt m (f i); have := pow24 (show m ≤ 24 by omega); omega) (by omega), testBit_mk]
      simp [hk]
    refine Ev.succ ?_
    simp only [spec_l02Is.l0]
    refine Ev.pos (by omega) (Ev.pos (by omega) (Ev.pos (by simp; omega) ?_))
    rw [hb a a (by omega) (by omega)]
    refine Ev.some_bind ?_
    by_cases c : f a a = true
    · refine Ev.pos c ?_
      have inner : ∀ (e b : Nat), b + e = m → (∀ k, k < b → f a k = f k a) → Ev (fun k => spec_l02Is.l1 k (a : Int) (b : Int) (m : Int) (mat m f)) (decide (∀ i, i < m → f i i = true ∧ ∀ k, k < m → f i k = f k i)) := by
        intro e
        induction e with
        | zero =>
          intro b hbe hq
          refine Ev.succ ?_
          simp only [spec_l02Is.l1]
          refine Ev.neg (by omega) ?_
          rw [w64' (by omega)]
          refine ih (a + 1) (by omega) (fun i hi => ?_)
          by_cases e : i = a
          · subst e; exact ⟨c, fun k hk => hq k (by omega)⟩
          · exact hp i (by omega)
        | succ e ihe =>
          intro b hbe hq
          refine Ev.succ ?_
          simp only [spec_l02Is.l1]
          refine Ev.pos (by omega) (Ev.pos (by omega) (Ev.pos (by simp; omega) ?_))
          rw [hb a b (by omega) (by omega)]
          refine Ev.some_bind (Ev.pos (by omega) (Ev.pos (by simp; omega) ?_))
          rw [hb b a (by omega) (by omega)]
          refine Ev.some_bind ?_
          by_cases g : f a b = f b a
          · refine Ev.neg (by rw [g]; simp) ?_
            rw [w64' (by omega)]
            refine ihe (b + 1) (by omega) (fun k hk => ?_)
            by_cases e : k = b
            · subst e; exact g
            · exact hq k (by omega)
          · refine Ev.pos (by simpa using g) (Ev.const ?_)
            rw [decide_eq_false fun h => g ((h a (by omega)).2 b (by omega))]
      exact inner m 0 (by omega) (by intro k hk; omega)
    · refine Ev.neg c (Ev.const ?_)
      rw [decide_eq_false fun h => c (h a (by omega)).1]
theorem l02Is_ev (n : Int) (D : List Int) : Ev (fun k => spec_l02Is.f k n D) (decide (Alpha n D)) := by
  have hj : ∀ n D, ¬ Alpha n D → Ev (fun k => spec_l02Is.j0 k true n D) (decide (Alpha n D)) := fun n D h => by
    refine Ev.succ ?_
    simp only [spec_l02Is.j0]
    exact Ev.pos (by simp) (Ev.const (by rw [decide_eq_false h]))
  simp only [spec_l02Is.f, l01In_eq]
  refine Ev.some_bind ?_
  simp only [decide_eq_true_eq]
  refine Ev.ite (fun c1 => ?_) (fun c1 => hj n D fun h => c1 h.1)
  refine Ev.ite (fun c2 => ?_) (fun c2 => hj n D fun h => c2 h.2.1)
  obtain ⟨m, rfl⟩ := Int.eq_ofNat_of_zero_le c1.1
  have hl : D.length = m := by omega
  have h1 : 0 < 2 ^ m := Nat.two_pow_pos m
  refine Ev.bind (l01Masks_ev m (by omega) D (by omega)) ?_
  refine Ev.succ ?_
  simp only [spec_l02Is.j0]
  by_cases c3 : ∀ x ∈ D, 0 ≤ x ∧ x ≤ ((2 ^ m - 1 : Nat) : Int)
  · have c3' : ∀ x ∈ D, 0 ≤ x ∧ x < ((2 ^ D.length : Nat) : Int) := fun x hx => by have := c3 x hx; rw [hl]; omega
    have e : D = mat m (bitR D) := by have := eq_mat D c3'; rwa [hl] at this
    refine Ev.neg (by simpa using c3) ?_
    have := l02Is_loop m (by omega) (bitR D) m 0 (by omega) (by intro i hi; omega)
    rw [← e] at this
    refine Ev.val this ?_
    rw [decide_eq_decide]
    exact ⟨fun h => ⟨c1, c2, c3', fun a ha => ⟨(h a (by omega)).1, fun b hb => (h a (by omega)).2 b (by omega)⟩⟩, fun h a ha => ⟨(h.2.2.2 a (by omega)).1, fun b hb => (h.2.2.2 a (by omega)).2 b (by omega)⟩⟩
  · refine Ev.pos (by simpa using c3) (Ev.const ?_)
    rw [decide_eq_false fun h => c3 fun x hx => ?_]
    have := h.2.2.1 x hx
    rw [hl] at this
    omega
theorem IsRelation_eq (r : List Int) : impl_IsRelation.f r = some (decide (r.length ≤ 24 ∧ ∀ x ∈ r, 0 ≤ x ∧ x < ((2 ^ r.length : Nat) : Int))) := by
  unfold impl_IsRelation.f
  by_cases h : r.length ≤ 24
  · have h1 : 0 < 2 ^ r.length := Nat.two_pow_pos _
    have h2 := pow24 h
    rw [if_pos (by omega)]
    simp only [impl_length_int64.f, Option.bind_some, one_eq r.length (by omega), impl_allIn.f]
    rw [w64' (by omega)]
    congr 1
    rw [Bool.eq_iff_iff]
    simp only [List.all_eq_true, decide_eq_true_eq]
    exact ⟨fun g => ⟨h, fun x hx => by have := g x hx; omega⟩, fun g x hx => by have := g.2 x hx; omega⟩
  · rw [if_neg (by omega)]
    congr 1
    symm
    rw [decide_eq_false fun g => h g.1]
/-- one round for each row: bit i of the k-th mask -/
theorem converse_l1 (n : Nat) (hn : n ≤ 24) (r : List Int) (i : Nat) (hi : i < n) (L : Int) (R : List Int) (ms : List Nat) (hml : ms.length ≤ 64) (hms : ∀ x ∈ ms, x < n) :
    ∀ (d j : Nat) (g : Nat → Nat → Bool), j + d = ms.length → (Ev (fun k => impl_converse.l0 k (mat n fun a b => g a b || (decide (b = i) && decide (a ∈ ms.drop j))) r L ((i + 1 : Nat) : Int)) R) →
    Ev (fun k => impl_converse.l1 k (mat n g) (i : Int) r L (i : Int) (ints ms) (ms.length : Int) (j : Int)) R := by
  intro d
  induction d with
  | zero =>
    intro j g hj hR
    refine Ev.succ ?_
    simp only [impl_converse.l1]
    refine Ev.neg (by omega) ?_
    rw [w64' (by omega)]
    rw [List.drop_of_length_le (by omega)] at hR
    simpa using hR
  | succ d ih =>
    intro j g hj hR
    have hj' : j < ms.length := by omega
    have hx := hms _ (List.getElem_mem hj')
    refine Ev.succ ?_
    simp only [impl_converse.l1]
    refine Ev.pos (by omega) (Ev.pos (by omega) (Ev.pos (by simp; omega) ?_))
    rw [rd_ints ms j hj']
    refine Ev.pos (by omega) (Ev.pos (by simp; omega) ?_)
    rw [one_eq i (by omega), rd_mat n g _ hx]
    refine Ev.some_bind ?_
    have hg := mk_lt n (g ms[j])
    have h24 := pow24 hn
    have hp : (2 : Nat) ^ i < 2 ^ n := Nat.pow_lt_pow_right (by decide) hi
    rw [b_or _ _ (by omega) (by omega), w64' (by omega)]
    have e : (mat n g).set ((ms[j] : Int)).toNat (((mk n (g ms[j]) ||| 2 ^ i : Nat)) : Int) = mat n fun a b => g a b || (decide (b = i) && decide (a = ms[j])) := by
      rw [Int.toNat_natCast]
      apply List.ext_getElem
      · simp
      · intro q h1 h2
        have hq : q < n := by simpa using h1
        rw [List.getElem_set]
        by_cases e : ms[j] = q
        · rw [if_pos e]
          simp only [mat, List.getElem_map, List.getElem_range]
          congr 1
          refine bits_ext fun b => ?_
          rw [Nat.testBit_or, testBit_mk, testBit_mk, testBit_one, ← e]
          by_cases hb : b = i
          · subst hb; simp [hi]
          · simp [hb, show ¬ i = b from fun h => hb h.symm]
        · rw [if_neg e]
          simp only [mat, List.getElem_map, List.getElem_range]
          congr 1
          exact mk_congr fun b _ => by simp [show ¬ q = ms[j] from fun h => e h.symm]
    rw [e]
    refine ih (j + 1) _ (by omega) ?_
    have e2 : (fun a b => (g a b || (decide (b = i) && decide (a = ms[j]))) || (decide (b = i) && decide (a ∈ ms.drop (j + 1)))) = fun a b => g a b || (decide (b = i) && decide (a ∈ ms.drop j)) := by
      funext a b
      have hm : a ∈ ms.drop j ↔ a = ms[j] ∨ a ∈ ms.drop (j + 1) := by rw [List.drop_eq_getElem_cons hj', List.mem_cons]
      rw [Bool.eq_iff_iff]
      simp only [Bool.or_eq_true, Bool.and_eq_true, decide_eq_true_eq, hm]
      constructor
      · rintro ((h | ⟨h1, h2⟩) | ⟨h1, h2⟩)
        · exact .inl h
        · exact .inr ⟨h1, .inl h2⟩
        · exact .inr ⟨h1, .inr h2⟩
      · rintro (h | ⟨h1, h2 | h2⟩)
        · exact .inl (.inl h)
        · exact .inl (.inr ⟨h1, h2⟩)
        · exact .inr ⟨h1, h2⟩
    rw [e2]
    exact hR
theorem converse_l0 (n : Nat) (hn : n ≤ 24) (f : Nat → Nat → Bool) : ∀ (d i : Nat), i + d = n →
    Ev (fun k => impl_converse.l0 k (mat n fun a b => decide (b < i) && f b a) (mat n f) (n : Int) (i : Int)) (mat n fun a b => f b a) := by
  intro d
  induction d with
  | zero =>
    intro i hi
    refine Ev.succ ?_
    simp only [impl_converse.l0]
    refine Ev.neg (by omega) (Ev.const ?_)
    congr 1
    exact mat_congr fun a b ha hb => by simp [show b < i by omega]
  | succ d ih =>
    intro i hi
    refine Ev.succ ?_
    simp only [impl_converse.l0]
    refine Ev.pos (by omega) (Ev.pos (by omega) (Ev.pos (by simp; omega) ?_))
    have hlt := mk_lt n (f i)
    have h24 := pow24 hn
    have hmem : ∀ x, x ∈ bitsOf (mk n (f i)) ↔ x < n ∧ f i x = true := fun x => by
      rw [mem_bitsOf (by omega), testBit_mk]; simp
    refine Ev.bind (by rw [rd_mat n f i (by omega)]; exact members_ev _ (by omega)) ?_
    have := converse_l1 n hn (mat n f) i (by omega) (n : Int) (mat n fun a b => f b a) (bitsOf (mk n (f i))) (bitsOf_length _) (fun x hx => ((hmem x).1 hx).1) (bitsOf (mk n (f i))).length 0 (fun a b => decide (b < i) && f b a) (by omega) ?_
    · have e : intsOf (mk n (f i)) = ints (bitsOf (mk n (f i))) := rfl
      rw [e, ints_length]
      exact this
    · rw [List.drop_zero]
      have e : (mat n fun a b => decide (b < i) && f b a || (decide (b = i) && decide (a ∈ bitsOf (mk n (f i))))) = mat n fun a b => decide (b < i + 1) && f b a := by
        refine mat_congr fun a b ha hb => ?_
        rw [Bool.eq_iff_iff]
        simp only [Bool.or_eq_true, Bool.and_eq_true, decide_eq_true_eq, hmem]
        constructor
        · rintro (⟨h1, h2⟩ | ⟨rfl, _, h2⟩)
          · exact ⟨by omega, h2⟩
          · exact ⟨by omega, h2⟩
        · rintro ⟨h1, h2⟩
          by_cases e : b = i
          · subst e; exact .inr ⟨rfl, ha, h2⟩
          · exact .inl ⟨by omega, h2⟩
      rw [e]
      exact ih (i + 1) (by omega)
theorem converse_ev (n : Nat) (hn : n ≤ 24) (f : Nat → Nat → Bool) : Ev (fun k => impl_converse.f k (mat n f)) (mat n fun a b => f b a) := by
  simp only [impl_converse.f]
  refine Ev.pos (by omega) (Ev.pos (by simp; omega) ?_)
  have e : List.replicate (((mat n f).length : Int)).toNat (0 : Int) = mat n fun a b => decide (b < 0) && f b a := by
    rw [mat_length, Int.toNat_natCast]
    apply List.ext_getElem
    · simp
    · intro q h1 h2
      simp only [List.getElem_replicate, mat, List.getElem_map, List.getElem_range]
      rw [show mk n (fun b => decide (b < 0) && f b q) = 0 from bits_ext fun b => by rw [testBit_mk]; simp]
      rfl
  rw [e, mat_length]
  exact converse_l0 n hn f n 0 (by omega)
theorem IsAlphabet_loop (m : Nat) (hm : m ≤ 8) (f : Nat → Nat → Bool) : ∀ (d a : Nat), a + d = m → (∀ i, i < a → f i i = true ∧ ∀ k, k < m → f i k = f k i) →
    Ev (fun k => impl_IsAlphabet.l0 k (mat m fun a b => f b a) (m : Int) (a : Int) (m : Int) (mat m f)) (decide (∀ i, i < m → f i i = true ∧ ∀ k, k < m → f i k = f k i)) := by
  intro d
  induction d with
  | zero =>
    intro a ha hp
    refine Ev.succ ?_
    simp only [impl_IsAlphabet.l0]
    refine Ev.neg (by omega) (Ev.const ?_)
    rw [decide_eq_true fun i hi => hp i (by omega)]
  | succ d ih =>
    intro a ha hp
    refine Ev.succ ?_
    simp only [impl_IsAlphabet.l0]
    refine Ev.pos (by omega) (Ev.pos (by omega) (Ev.pos (by simp; omega) (Ev.pos (by simp; omega) ?_)))
    rw [rd_mat m _ a (by omega), rd_mat m f a (by omega)]
    have hlt := mk_lt m fun b => f b a
    have h24 := pow24 (show m ≤ 24 by omega)
    refine Ev.ite (fun c => ?_) (fun c => ?_)
    · have hc : ∀ k, k < m → f a k = f k a := fun k hk => by
        have := congrArg (fun z : Nat => z.testBit k) (Int.ofNat.inj c)
        simp only [testBit_mk, hk, decide_true, Bool.true_and] at this
        exact this.symm
      rw [has_eq _ a (by omega) (by omega), testBit_mk]
      refine Ev.some_bind ?_
      refine Ev.ite (fun g => ?_) (fun g => ?_)
      · rw [w64' (by omega)]
        refine ih (a + 1) (by omega) (fun i hi => ?_)
        by_cases e : i = a
        · subst e; exact ⟨by simpa [show i < m by omega] using g, hc⟩
        · exact hp i (by omega)
      · refine Ev.const ?_
        rw [decide_eq_false fun h => g (by simpa [show a < m by omega] using (h a (by omega)).1)]
    · refine Ev.const ?_
      rw [decide_eq_false fun h => c ?_]
      congr 1
      exact mk_congr fun k hk => ((h a (by omega)).2 k hk).symm
theorem IsAlphabet_ev (n : Int) (D : List Int) : Ev (fun k => impl_IsAlphabet.f k n D) (decide (Alpha n D)) := by
  have hj : ∀ n D, ¬ Alpha n D → Ev (fun k => impl_IsAlphabet.j0 k true n D) (decide (Alpha n D)) := fun n D h => by
    refine Ev.succ ?_
    simp only [impl_IsAlphabet.j0]
    exact Ev.pos (by simp) (Ev.const (by rw [decide_eq_false h]))
  simp only [impl_IsAlphabet.f, inRange_eq, impl_length_int64.f, IsRelation_eq]
  refine Ev.some_bind ?_
  simp only [decide_eq_true_eq]
  refine Ev.ite (fun c1 => Ev.some_bind ?_) (fun c1 => hj n D fun h => c1 h.1)
  refine Ev.ite (fun c2 => Ev.some_bind ?_) (fun c2 => hj n D fun h => c2 h.2.1)
  obtain ⟨m, rfl⟩ := Int.eq_ofNat_of_zero_le c1.1
  have hl : D.length = m := by omega
  by_cases c3 : ∀ x ∈ D, 0 ≤ x ∧ x < ((2 ^ D.length : Nat) : Int)
  · rw [decide_eq_true ⟨by omega, c3⟩]
    have e : D = mat m (bitR D) := by have := eq_mat D c3; rwa [hl] at this
    refine Ev.succ ?_
    simp only [impl_IsAlphabet.j0]
    refine Ev.neg (by simp) ?_
    have hc := converse_ev m (by omega) (bitR D)
    rw [← e] at hc
    refine Ev.bind hc ?_
    have := IsAlphabet_loop m (by omega) (bitR D) m 0 (by omega) (by intro i hi; omega)
    rw [← e] at this
    rw [mat_length]
    refine Ev.val this ?_
    rw [decide_eq_decide]
    exact ⟨fun h => ⟨c1, c2, c3, fun a ha => ⟨(h a (by omega)).1, fun b hb => (h a (by omega)).2 b (by omega)⟩⟩, fun h a ha => ⟨(h.2.2.2 a (by omega)).1, fun b hb => (h.2.2.2 a (by omega)).2 b (by omega)⟩⟩
  · rw [decide_eq_false fun h => c3 h.2]
    exact hj _ _ fun h => c3 h.2.2.1
theorem l02Dep_eq (n : Nat) (hn : n ≤ 24) (f : Nat → Nat → Bool) (x : Int) (a b : Nat) (ha : a < n) (hb : b < n) : spec_l02Dep.f x (mat n f) (a : Int) (b : Int) = some (f a b) := by
  unfold spec_l02Dep.f
  have := mk_lt n (f a)
  have := pow24 hn
  rw [if_pos (by omega), if_pos (by simp; omega), rd_mat n f a ha, l01Bit_eq _ b (by omega) (by omega), testBit_mk]
  simp [hb]
end Go.Proofs.YthgapkbkhoeleaaDoor.PAll
