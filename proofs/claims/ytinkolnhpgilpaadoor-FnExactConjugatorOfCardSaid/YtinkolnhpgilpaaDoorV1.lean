import Derived.Test.YtinkolnhpgilpaaDoorPAllx0
import Derived.Test.YtinkolnhpgilpaaDoorPAllx1
import Derived.Test.YtinkolnhpgilpaaDoorPAllx2
import Derived.Test.YtinkolnhpgilpaaDoorPAllx3
import Derived.Test.YtinkolnhpgilpaaDoorV0
import Derived.Test.YtinkolnhpgilpaaDoorQBase
import Derived.Test.YtinkolnhpgilpaaDoorQConj
import Derived.Test.YtinkolnhpgilpaaDoorQMap
import Derived.Test.YtinkolnhpgilpaaDoorQMask
import Derived.Test.YtinkolnhpgilpaaDoorQMeet
import Derived.Test.YtinkolnhpgilpaaDoorQRev
import Derived.Test.YtinkolnhpgilpaaDoorQTrace
set_option linter.unusedVariables false
set_option linter.unusedSimpArgs false
namespace Go.Proofs.YtinkolnhpgilpaaDoor.PAll
open Go.RowKit Go.Proofs.YtinkolnhpgilpaaDoorW.PrintWords Go.Proofs.YtinkolnhpgilpaaDoorW.PrintMore Go.Proofs.YtinkolnhpgilpaaDoor.Q
theorem toInt64S_l0 (x : List Int) (hx : x.length ≤ 17592186044416) : ∀ (d i : Nat) (acc : List Int), i + d = x.length → acc.length = x.length → (∀ j, j < i → acc[j]? = x[j]?) →
    Ev (fun k => laws_toInt64S.l0 k x acc i) x := by
  intro d
  induction d with
  | zero =>
    intro i acc hi hl hp
    refine Ev.succ ?_
    simp only [laws_toInt64S.l0]
    refine Ev.neg (by omega) (Ev.const ?_)
    congr 1
    apply List.ext_getElem? 
    intro j
    by_cases hj : j < i
    · exact hp j hj
    · rw [List.getElem?_eq_none (by omega), List.getElem?_eq_none (by omega)]
  | succ d ih =>
    intro i acc hi hl hp
    refine Ev.succ ?_
    simp only [laws_toInt64S.l0]
    refine Ev.pos (by omega) (Ev.pos (by omega) (Ev.pos (by omega) ?_))
    rw [w64' (by omega)]
    refine Ev.congr (fun k => ?_) (ih (i + 1) (acc.set i x[i]) (by omega) (by simpa using hl) ?_)
    · rw [rd_lt x i (by omega)]
      simp
    · intro j hj
      by_cases e : j = i
      · subst e
        simp [hl, show j < x.length by omega]
      · rw [List.getElem?_set_ne (by omega)]
        exact hp j (by omega)

theorem toInt64S_ev (x : List Int) (hx : x.length ≤ 17592186044416) : Ev (fun k => laws_toInt64S.f k x) x := by
  simp only [laws_toInt64S.f]
  refine Ev.pos (by omega) (Ev.pos (by omega) ?_)
  exact toInt64S_l0 x hx x.length 0 _ (by omega) (by simp) (by intro j hj; omega)
theorem eqInt64S_l0 (x : List Int) (hx : x.length ≤ 17592186044416) : ∀ (d i : Nat), i + d = x.length → Ev (fun k => laws_eqInt64S.l0 k x x i) true := by
  intro d
  induction d with
  | zero =>
    intro i hi
    refine Ev.succ ?_
    simp only [laws_eqInt64S.l0]
    exact Ev.neg (by omega) (Ev.now _)
  | succ d ih =>
    intro i hi
    refine Ev.succ ?_
    simp only [laws_eqInt64S.l0]
    refine Ev.pos (by omega) (Ev.pos (by omega) (Ev.pos (by omega) (Ev.pos (by simp) ?_)))
    rw [w64' (by omega)]
    exact ih (i + 1) (by omega)

theorem eqInt64S_ev (x : List Int) (hx : x.length ≤ 17592186044416) : Ev (fun k => laws_eqInt64S.f k x x) true := by
  simp only [laws_eqInt64S.f]
  exact Ev.pos (by simp) (eqInt64S_l0 x hx x.length 0 (by omega))
theorem szInt64S_eq (l : List Int) (a : Int) (h0 : 0 ≤ a) (h1 : a ≤ 1048576) (hl : l.length ≤ 9223372036854775807) : laws_szInt64S.f l a = some (if (l.length : Int) ≤ a then a - (l.length : Int) else -1) := by
  unfold laws_szInt64S.f
  rw [w64 (by omega) (by omega)]
  by_cases h : (l.length : Int) ≤ a
  · rw [if_pos h, if_neg (by omega)]
  · rw [if_neg h, if_pos (by omega)]
theorem szAlphabet_eq (n : Int) (l : List Int) (a : Int) (h0 : 0 ≤ a) (h1 : a ≤ 1048576) (hl : l.length ≤ 9223372036854775807) : laws_szAlphabet.f n l a = some (if (l.length : Int) ≤ a then a - (l.length : Int) else -1) := by
  unfold laws_szAlphabet.f
  rw [szInt64S_eq l a h0 h1 hl]
  simp only [Option.bind_some]
  by_cases h : (l.length : Int) ≤ a
  · rw [if_pos h, if_neg (by omega)]
  · rw [if_neg h, if_pos (by omega)]
theorem toAlphabet_ev (n : Int) (l : List Int) (hl : l.length ≤ 17592186044416) : Ev (fun k => laws_toAlphabet.f k n l) (n, l) := by
  simp only [laws_toAlphabet.f]
  exact Ev.bind (toInt64S_ev l hl) (Ev.now _)
theorem eqAlphabet_ev (n : Int) (l : List Int) (hl : l.length ≤ 17592186044416) : Ev (fun k => laws_eqAlphabet.f k n l n l) true := by
  simp only [laws_eqAlphabet.f]
  exact Ev.pos (by simp) (Ev.bind (eqInt64S_ev l hl) (Ev.pos rfl (Ev.now _)))
theorem l01In_eq (a lo hi : Int) : spec_l01In.f a lo hi = some (decide (lo ≤ a ∧ a ≤ hi)) := by
  unfold spec_l01In.f
  by_cases h : lo ≤ a
  · rw [if_pos h]; simp [h]
  · rw [if_neg h]; simp [h]
theorem inRange_eq (a lo hi : Int) : impl_inRange.f a lo hi = some (decide (lo ≤ a ∧ a ≤ hi)) := by
  unfold impl_inRange.f
  by_cases h : lo ≤ a
  · rw [if_pos h]; simp [h]
  · rw [if_neg h]; simp [h]
theorem l01One_eq (n : Nat) (h : n ≤ 61) : spec_l01One.f (n : Int) = some ((2 ^ n : Nat) : Int) := by
  unfold spec_l01One.f
  rw [u64_nat n (by omega), if_pos (by omega), shl_one n h]
theorem l01Full_eq (n : Nat) (h : n ≤ 61) : spec_l01Full.f (n : Int) = some ((2 ^ n - 1 : Nat) : Int) := by
  unfold spec_l01Full.f
  rw [l01One_eq n h]
  have h1 : 0 < 2 ^ n := Nat.two_pow_pos n
  have h2 : (2 : Nat) ^ n ≤ 2 ^ 61 := Nat.pow_le_pow_right (by decide) h
  simp only [Option.bind_some]
  rw [w64' (by omega)]
  congr 1
  omega
theorem l01Bit_eq (m i : Nat) (hm : m < 2 ^ 62) (h : i ≤ 64) : spec_l01Bit.f (m : Int) (i : Int) = some (m.testBit i) := by
  unfold spec_l01Bit.f
  rw [u64_nat i (by omega), if_pos (by omega), bit_at m i hm h]
theorem one_eq (n : Nat) (h : n ≤ 61) : impl_one.f (n : Int) = some ((2 ^ n : Nat) : Int) := by
  unfold impl_one.f
  rw [if_pos (by omega), shl_one n h]
theorem has_eq (m i : Nat) (hm : m < 2 ^ 62) (h : i ≤ 64) : impl_has.f (m : Int) (i : Int) = some (m.testBit i) := by
  unfold impl_has.f
  rw [if_pos (by omega), bit_at m i hm h]
theorem least_eq (m : Nat) (hm : m < 2 ^ 62) : impl_least.f (m : Int) = some ((Lib.ctz 64 m : Nat) : Int) := by
  unfold impl_least.f bits_TrailingZeros64.f
  rw [u64_nat m (by omega), if_pos (by omega), Int.toNat_natCast]
  rfl
theorem members_l0 : ∀ (N m : Nat) (acc : List Int), m ≤ N → m < 2 ^ 62 → acc.length + (bitsOf m).length ≤ 1000 → Ev (fun k => impl_members.l0 k (m : Int) acc) (acc ++ intsOf m) := by
  intro N
  induction N with
  | zero =>
    intro m acc hN hm hl
    obtain rfl : m = 0 := by omega
    refine Ev.succ ?_
    simp only [impl_members.l0]
    refine Ev.pos (by simp) (Ev.const ?_)
    simp [intsOf, bitsOf_zero]
  | succ N ih =>
    intro m acc hN hm hl
    refine Ev.succ ?_
    simp only [impl_members.l0]
    by_cases h0 : m = 0
    · subst h0
      refine Ev.pos (by simp) (Ev.const ?_)
      simp [intsOf, bitsOf_zero]
    · rw [bitsOf_cons m h0 (by omega)] at hl
      simp only [List.length_cons] at hl
      refine Ev.neg (by omega) ?_
      rw [least_eq m hm]
      refine Ev.some_bind (Ev.pos (by omega) ?_)
      have hlt := and_pred_lt m h0
      rw [w64' (by omega), show (m : Int) - 1 = ((m - 1 : Nat) : Int) by omega, b_and m (m - 1) hm (by omega)]
      refine Ev.val (ih (m &&& (m - 1)) (acc ++ [((Lib.ctz 64 m : Nat) : Int)]) (by omega) (by omega) (by simp; omega)) ?_
      unfold intsOf
      rw [bitsOf_cons m h0 (by omega)]
      simp
theorem bitsOf_length (m : Nat) : (bitsOf m).length ≤ 64 := by
  unfold bitsOf
  have := List.length_filter_le (fun i => m.testBit i) (List.range 64)
  simpa using this
theorem members_ev (m : Nat) (hm : m < 2 ^ 62) : Ev (fun k => impl_members.f k (m : Int)) (intsOf m) := by
  simp only [impl_members.f]
  exact Ev.val (members_l0 m m [] (Nat.le_refl _) hm (by have := bitsOf_length m; simp; omega)) (by simp)
theorem l01Masks_l0 (n : Nat) (hn : n ≤ 61) (l : List Int) (hl : l.length ≤ 17592186044416) : ∀ (d i : Nat), i + d = l.length → (∀ j (h : j < l.length), j < i → 0 ≤ l[j] ∧ l[j] ≤ ((2 ^ n - 1 : Nat) : Int)) →
    Ev (fun k => spec_l01Masks.l0 k (n : Int) l i) (decide (∀ x ∈ l, 0 ≤ x ∧ x ≤ ((2 ^ n - 1 : Nat) : Int))) := by
  intro d
  induction d with
  | zero =>
    intro i hi hp
    refine Ev.succ ?_
    simp only [spec_l01Masks.l0]
    refine Ev.neg (by omega) (Ev.const ?_)
    rw [decide_eq_true fun x hx => ?_]
    obtain ⟨j, hj, rfl⟩ := List.getElem_of_mem hx
    exact hp j hj (by omega)
  | succ d ih =>
    intro i hi hp
    refine Ev.succ ?_
    simp only [spec_l01Masks.l0, l01Full_eq n hn, l01In_eq]
    refine Ev.pos (by omega) (Ev.pos (by omega) (Ev.some_bind (Ev.some_bind ?_)))
    rw [rd_lt l i (by omega)]
    simp only [decide_eq_true_eq]
    refine Ev.ite (fun c => ?_) (fun c => ?_)
    · rw [w64' (by omega)]
      refine ih (i + 1) (by omega) (fun j h hji => ?_)
      by_cases e : j = i
      · subst e; exact c
      · exact hp j h (by omega)
    · refine Ev.const ?_
      rw [decide_eq_false fun h => c (h _ (List.getElem_mem (by omega)))]
theorem l01Masks_ev (n : Nat) (hn : n ≤ 61) (l : List Int) (hl : l.length ≤ 17592186044416) : Ev (fun k => spec_l01Masks.f k (n : Int) l) (decide (∀ x ∈ l, 0 ≤ x ∧ x ≤ ((2 ^ n - 1 : Nat) : Int))) := by
  simp only [spec_l01Masks.f]
  exact l01Masks_l0 n hn l hl l.length 0 (by omega) (by intro j h hj; omega)
theorem l02Is_loop (m : Nat) (hm : m ≤ 8) (f : Nat → Nat → Bool) : ∀ (d a : Nat), a + d = m → (∀ i, i < a → f i i = true ∧ ∀ k, k < m → f i k = f k i) →
    Ev (fun k => spec_l02Is.l0 k (a : Int) (m : Int) (mat m f)) (decide (∀ i, i < m → f i i = true ∧ ∀ k, k < m → f i k = f k i)) := by
  intro d
  induction d with
  | zero =>
    intro a ha hp
    refine Ev.succ ?_
    simp only [spec_l02Is.l0]
    refine Ev.neg (by omega) (Ev.const ?_)
    rw [decide_eq_true fun i hi => hp i (by omega)]
  | succ d ih =>
    intro a ha hp
    have hb : ∀ i k, i < m → k < m → spec_l01Bit.f (rd (mat m f) (i : Int)) (k : Int) = some (f i k) := fun i k hi hk => by
      rw [rd_mat m f i hi, l01Bit_eq _ k (by have := mk_lt m (f i); have := pow24 (show m ≤ 24 by omega); omega) (by omega), testBit_mk]
      simp [hk]
    refine Ev.succ ?_
    simp only [spec_l02Is.l0]
    refine Ev.pos (by omega) (Ev.pos (by omega) (Ev.pos (by simp; omega) ?_))
    rw [hb a a (by omega) (by omega)]
    refine Ev.some_bind ?_
    by_cases c : f a a = true
    · refine Ev.pos c ?_
      have inner : ∀ (e b : Nat), b + e = m → (∀ k, k < b → f a k = f k a) → Ev (fun k => spec_l02Is.l1 k (a : Int) (b : Int) (m : Int) (mat m f)) (decide (∀ i, i < m → f i i = true ∧ ∀ k, k < m → f i k = f k i)) := by
        intro e
        induction e with
        | zero =>
          intro b hbe hq
          refine Ev.succ ?_
          simp only [spec_l02Is.l1]
          refine Ev.neg (by omega) ?_
          rw [w64' (by omega)]
          refine ih (a + 1) (by omega) (fun i hi => ?_)
          by_cases e : i = a
          · subst e; exact ⟨c, fun k hk => hq k (by omega)⟩
          · exact hp i (by omega)
        | succ e ihe =>
          intro b hbe hq
          refine Ev.succ ?_
          simp only [spec_l02Is.l1]
          refine Ev.pos (by omega) (Ev.pos (by omega) (Ev.pos (by simp; omega) ?_))
          rw [hb a b (by omega) (by omega)]
          refine Ev.some_bind (Ev.pos (by omega) (Ev.pos (by simp; omega) ?_))
          rw [hb b a (by omega) (by omega)]
          refine Ev.some_bind ?_
          by_cases g : f a b = f b a
          · refine Ev.neg (by rw [g]; simp) ?_
            rw [w64' (by omega)]
            refine ihe (b + 1) (by omega) (fun k hk => ?_)
            by_cases e : k = b
            · subst e; exact g
            · exact hq k (by omega)
          · refine Ev.pos (by simpa using g) (Ev.const ?_)
            rw [decide_eq_false fun h => g ((h a (by omega)).2 b (by omega))]
      exact inner m 0 (by omega) (by intro k hk; omega)
    · refine Ev.neg c (Ev.const ?_)
      rw [decide_eq_false fun h => c (h a (by omega)).1]
theorem l02Is_ev (n : Int) (D : List Int) : Ev (fun k => spec_l02Is.f k n D) (decide (Alpha n D)) := by
  have hj : ∀ n D, ¬ Alpha n D → Ev (fun k => spec_l02Is.j0 k true n D) (decide (Alpha n D)) := fun n D h => by
    refine Ev.succ ?_
    simp only [spec_l02Is.j0]
    exact Ev.pos (by simp) (Ev.const (by rw [decide_eq_false h]))
  simp only [spec_l02Is.f, l01In_eq]
  refine Ev.some_bind ?_
  simp only [decide_eq_true_eq]
  refine Ev.ite (fun c1 => ?_) (fun c1 => hj n D fun h => c1 h.1)
  refine Ev.ite (fun c2 => ?_) (fun c2 => hj n D fun h => c2 h.2.1)
  obtain ⟨m, rfl⟩ := Int.eq_ofNat_of_zero_le c1.1
  have hl : D.length = m := by omega
  have h1 : 0 < 2 ^ m := Nat.two_pow_pos m
  refine Ev.bind (l01Masks_ev m (by omega) D (by omega)) ?_
  refine Ev.succ ?_
  simp only [spec_l02Is.j0]
  by_cases c3 : ∀ x ∈ D, 0 ≤ x ∧ x ≤ ((2 ^ m - 1 : Nat) : Int)
  · have c3' : ∀ x ∈ D, 0 ≤ x ∧ x < ((2 ^ D.length : Nat) : Int) := fun x hx => by have := c3 x hx; rw [hl]; omega
    have e : D = mat m (bitR D) := by have := eq_mat D c3'; rwa [hl] at this
    refine Ev.neg (by simpa using c3) ?_
    have := l02Is_loop m (by omega) (bitR D) m 0 (by omega) (by intro i hi; omega)
    rw [← e] at this
    refine Ev.val this ?_
    rw [decide_eq_decide]
    exact ⟨fun h => ⟨c1, c2, c3', fun a ha => ⟨(h a (by omega)).1, fun b hb => (h a (by omega)).2 b (by omega)⟩⟩, fun h a ha => ⟨(h.2.2.2 a (by omega)).1, fun b hb => (h.2.2.2 a (by omega)).2 b (by omega)⟩⟩
  · refine Ev.pos (by simpa using c3) (Ev.const ?_)
    rw [decide_eq_false fun h => c3 fun x hx => ?_]
    have := h.2.2.1 x hx
    rw [hl] at this
    omega
theorem IsRelation_eq (r : List Int) : impl_IsRelation.f r = some (decide (r.length ≤ 24 ∧ ∀ x ∈ r, 0 ≤ x ∧ x < ((2 ^ r.length : Nat) : Int))) := by
  unfold impl_IsRelation.f
  by_cases h : r.length ≤ 24
  · have h1 : 0 < 2 ^ r.length := Nat.two_pow_pos _
    have h2 := pow24 h
    rw [if_pos (by omega)]
    simp only [impl_length_int64.f, Option.bind_some, one_eq r.length (by omega), impl_allIn.f]
    rw [w64' (by omega)]
    congr 1
    rw [Bool.eq_iff_iff]
    simp only [List.all_eq_true, decide_eq_true_eq]
    exact ⟨fun g => ⟨h, fun x hx => by have := g x hx; omega⟩, fun g x hx => by have := g.2 x hx; omega⟩
  · rw [if_neg (by omega)]
    congr 1
    symm
    rw [decide_eq_false fun g => h g.1]
/-- one round for each row: bit i of the k-th mask -/
theorem converse_l1 (n : Nat) (hn : n ≤ 24) (r : List Int) (i : Nat) (hi : i < n) (L : Int) (R : List Int) (ms : List Nat) (hml : ms.length ≤ 64) (hms : ∀ x ∈ ms, x < n) :
    ∀ (d j : Nat) (g : Nat → Nat → Bool), j + d = ms.length → (Ev (fun k => impl_converse.l0 k (mat n fun a b => g a b || (decide (b = i) && decide (a ∈ ms.drop j))) r L ((i + 1 : Nat) : Int)) R) →
    Ev (fun k => impl_converse.l1 k (mat n g) (i : Int) r L (i : Int) (ints ms) (ms.length : Int) (j : Int)) R := by
  intro d
  induction d with
  | zero =>
    intro j g hj hR
    refine Ev.succ ?_
    simp only [impl_converse.l1]
    refine Ev.neg (by omega) ?_
    rw [w64' (by omega)]
    rw [List.drop_of_length_le (by omega)] at hR
    simpa using hR
  | succ d ih =>
    intro j g hj hR
    have hj' : j < ms.length := by omega
    have hx := hms _ (List.getElem_mem hj')
    refine Ev.succ ?_
    simp only [impl_converse.l1]
    refine Ev.pos (by omega) (Ev.pos (by omega) (Ev.pos (by simp; omega) ?_))
    rw [rd_ints ms j hj']
    refine Ev.pos (by omega) (Ev.pos (by simp; omega) ?_)
    rw [one_eq i (by omega), rd_mat n g _ hx]
    refine Ev.some_bind ?_
    have hg := mk_lt n (g ms[j])
    have h24 := pow24 hn
    have hp : (2 : Nat) ^ i < 2 ^ n := Nat.pow_lt_pow_right (by decide) hi
    rw [b_or _ _ (by omega) (by omega), w64' (by omega)]
    have e : (mat n g).set ((ms[j] : Int)).toNat (((mk n (g ms[j]) ||| 2 ^ i : Nat)) : Int) = mat n fun a b => g a b || (decide (b = i) && decide (a = ms[j])) := by
      rw [Int.toNat_natCast]
      apply List.ext_getElem
      · simp
      · intro q h1 h2
        have hq : q < n := by simpa using h1
        rw [List.getElem_set]
        by_cases e : ms[j] = q
        · rw [if_pos e]
          simp only [mat, List.getElem_map, List.getElem_range]
          congr 1
          refine bits_ext fun b => ?_
          rw [Nat.testBit_or, testBit_mk, testBit_mk, testBit_one, ← e]
          by_cases hb : b = i
          · subst hb; simp [hi]
          · simp [hb, show ¬ i = b from fun h => hb h.symm]
        · rw [if_neg e]
          simp only [mat, List.getElem_map, List.getElem_range]
          congr 1
          exact mk_congr fun b _ => by simp [show ¬ q = ms[j] from fun h => e h.symm]
    rw [e]
    refine ih (j + 1) _ (by omega) ?_
    have e2 : (fun a b => (g a b || (decide (b = i) && decide (a = ms[j]))) || (decide (b = i) && decide (a ∈ ms.drop (j + 1)))) = fun a b => g a b || (decide (b = i) && decide (a ∈ ms.drop j)) := by
      funext a b
      have hm : a ∈ ms.drop j ↔ a = ms[j] ∨ a ∈ ms.drop (j + 1) := by rw [List.drop_eq_getElem_cons hj', List.mem_cons]
      rw [Bool.eq_iff_iff]
      simp only [Bool.or_eq_true, Bool.and_eq_true, decide_eq_true_eq, hm]
      constructor
      · rintro ((h | ⟨h1, h2⟩) | ⟨h1, h2⟩)
        · exact .inl h
        · exact .inr ⟨h1, .inl h2⟩
        · exact .inr ⟨h1, .inr h2⟩
      · rintro (h | ⟨h1, h2 | h2⟩)
        · exact .inl (.inl h)
        · exact .inl (.inr ⟨h1, h2⟩)
        · exact .inr ⟨h1, h2⟩
    rw [e2]
    exact hR
theorem converse_l0 (n : Nat) (hn : n ≤ 24) (f : Nat → Nat → Bool) : ∀ (d i : Nat), i + d = n →
    Ev (fun k => impl_converse.l0 k (mat n fun a b => decide (b < i) && f b a) (mat n f) (n : Int) (i : Int)) (mat n fun a b => f b a) := by
  intro d
  induction d with
  | zero =>
    intro i hi
    refine Ev.succ ?_
    simp only [impl_converse.l0]
    refine Ev.neg (by omega) (Ev.const ?_)
    congr 1
    exact mat_congr fun a b ha hb => by simp [show b < i by omega]
  | succ d ih =>
    intro i hi
    refine Ev.succ ?_
    simp only [impl_converse.l0]
    refine Ev.pos (by omega) (Ev.pos (by omega) (Ev.pos (by simp; omega) ?_))
    have hlt := mk_lt n (f i)
    have h24 := pow24 hn
    have hmem : ∀ x, x ∈ bitsOf (mk n (f i)) ↔ x < n ∧ f i x = true := fun x => by
      rw [mem_bitsOf (by omega), testBit_mk]; simp
    refine Ev.bind (by rw [rd_mat n f i (by omega)]; exact members_ev _ (by omega)) ?_
    have := converse_l1 n hn (mat n f) i (by omega) (n : Int) (mat n fun a b => f b a) (bitsOf (mk n (f i))) (bitsOf_length _) (fun x hx => ((hmem x).1 hx).1) (bitsOf (mk n (f i))).length 0 (fun a b => decide (b < i) && f b a) (by omega) ?_
    · have e : intsOf (mk n (f i)) = ints (bitsOf (mk n (f i))) := rfl
      rw [e, ints_length]
      exact this
    · rw [List.drop_zero]
      have e : (mat n fun a b => decide (b < i) && f b a || (decide (b = i) && decide (a ∈ bitsOf (mk n (f i))))) = mat n fun a b => decide (b < i + 1) && f b a := by
        refine mat_congr fun a b ha hb => ?_
        rw [Bool.eq_iff_iff]
        simp only [Bool.or_eq_true, Bool.and_eq_true, decide_eq_true_eq, hmem]
        constructor
        · rintro (⟨h1, h2⟩ | ⟨rfl, _, h2⟩)
          · exact ⟨by omega, h2⟩
          · exact ⟨by omega, h2⟩
        · rintro ⟨h1, h2⟩
          by_cases e : b = i
          · subst e; exact .inr ⟨rfl, ha, h2⟩
          · exact .inl ⟨by omega, h2⟩
      rw [e]
      exact ih (i + 1) (by omega)
theorem converse_ev (n : Nat) (hn : n ≤ 24) (f : Nat → Nat → Bool) : Ev (fun k => impl_converse.f k (mat n f)) (mat n fun a b => f b a) := by
  simp only [impl_converse.f]
  refine Ev.pos (by omega) (Ev.pos (by simp; omega) ?_)
  have e : List.replicate (((mat n f).length : Int)).toNat (0 : Int) = mat n fun a b => decide (b < 0) && f b a := by
    rw [mat_length, Int.toNat_natCast]
    apply List.ext_getElem
    · simp
    · intro q h1 h2
      simp only [List.getElem_replicate, mat, List.getElem_map, List.getElem_range]
      rw [show mk n (fun b => decide (b < 0) && f b q) = 0 from bits_ext fun b => by rw [testBit_mk]; simp]
      rfl
  rw [e, mat_length]
  exact converse_l0 n hn f n 0 (by omega)
theorem IsAlphabet_loop (m : Nat) (hm : m ≤ 8) (f : Nat → Nat → Bool) : ∀ (d a : Nat), a + d = m → (∀ i, i < a → f i i = true ∧ ∀ k, k < m → f i k = f k i) →
    Ev (fun k => impl_IsAlphabet.l0 k (mat m fun a b => f b a) (m : Int) (a : Int) (m : Int) (mat m f)) (decide (∀ i, i < m → f i i = true ∧ ∀ k, k < m → f i k = f k i)) := by
  intro d
  induction d with
  | zero =>
    intro a ha hp
    refine Ev.succ ?_
    simp only [impl_IsAlphabet.l0]
    refine Ev.neg (by omega) (Ev.const ?_)
    rw [decide_eq_true fun i hi => hp i (by omega)]
  | succ d ih =>
    intro a ha hp
    refine Ev.succ ?_
    simp only [impl_IsAlphabet.l0]
    refine Ev.pos (by omega) (Ev.pos (by omega) (Ev.pos (by simp; omega) (Ev.pos (by simp; omega) ?_)))
    rw [rd_mat m _ a (by omega), rd_mat m f a (by omega)]
    have hlt := mk_lt m fun b => f b a
    have h24 := pow24 (show m ≤ 24 by omega)
    refine Ev.ite (fun c => ?_) (fun c => ?_)
    · have hc : ∀ k, k < m → f a k = f k a := fun k hk => by
        have := congrArg (fun z : Nat => z.testBit k) (Int.ofNat.inj c)
        simp only [testBit_mk, hk, decide_true, Bool.true_and] at this
        exact this.symm
      rw [has_eq _ a (by omega) (by omega), testBit_mk]
      refine Ev.some_bind ?_
      refine Ev.ite (fun g => ?_) (fun g => ?_)
      · rw [w64' (by omega)]
        refine ih (a + 1) (by omega) (fun i hi => ?_)
        by_cases e : i = a
        · subst e; exact ⟨by simpa [show i < m by omega] using g, hc⟩
        · exact hp i (by omega)
      · refine Ev.const ?_
        rw [decide_eq_false fun h => g (by simpa [show a < m by omega] using (h a (by omega)).1)]
    · refine Ev.const ?_
      rw [decide_eq_false fun h => c ?_]
      congr 1
      exact mk_congr fun k hk => ((h a (by omega)).2 k hk).symm
theorem IsAlphabet_ev (n : Int) (D : List Int) : Ev (fun k => impl_IsAlphabet.f k n D) (decide (Alpha n D)) := by
  have hj : ∀ n D, ¬ Alpha n D → Ev (fun k => impl_IsAlphabet.j0 k true n D) (decide (Alpha n D)) := fun n D h => by
    refine Ev.succ ?_
    simp only [impl_IsAlphabet.j0]
    exact Ev.pos (by simp) (Ev.const (by rw [decide_eq_false h]))
  simp only [impl_IsAlphabet.f, inRange_eq, impl_length_int64.f, IsRelation_eq]
  refine Ev.some_bind ?_
  simp only [decide_eq_true_eq]
  refine Ev.ite (fun c1 => Ev.some_bind ?_) (fun c1 => hj n D fun h => c1 h.1)
  refine Ev.ite (fun c2 => Ev.some_bind ?_) (fun c2 => hj n D fun h => c2 h.2.1)
  obtain ⟨m, rfl⟩ := Int.eq_ofNat_of_zero_le c1.1
  have hl : D.length = m := by omega
  by_cases c3 : ∀ x ∈ D, 0 ≤ x ∧ x < ((2 ^ D.length : Nat) : Int)
  · rw [decide_eq_true ⟨by omega, c3⟩]
    have e : D = mat m (bitR D) := by have := eq_mat D c3; rwa [hl] at this
    refine Ev.succ ?_
    simp only [impl_IsAlphabet.j0]
    refine Ev.neg (by simp) ?_
    have hc := converse_ev m (by omega) (bitR D)
    rw [← e] at hc
    refine Ev.bind hc ?_
    have := IsAlphabet_loop m (by omega) (bitR D) m 0 (by omega) (by intro i hi; omega)
    rw [← e] at this
    rw [mat_length]
    refine Ev.val this ?_
    rw [decide_eq_decide]
    exact ⟨fun h => ⟨c1, c2, c3, fun a ha => ⟨(h a (by omega)).1, fun b hb => (h a (by omega)).2 b (by omega)⟩⟩, fun h a ha => ⟨(h.2.2.2 a (by omega)).1, fun b hb => (h.2.2.2 a (by omega)).2 b (by omega)⟩⟩
  · rw [decide_eq_false fun h => c3 h.2]
    exact hj _ _ fun h => c3 h.2.2.1
theorem l03Word_l0 (n : Int) (hn : 0 ≤ n ∧ n ≤ 8) (w : List Int) (hw : w.length ≤ 24) : ∀ (d i : Nat), i + d = w.length → (∀ j (h : j < w.length), j < i → 0 ≤ w[j] ∧ w[j] ≤ n - 1) → Ev (fun k => spec_l03Word.l0 k n w i) (decide (Word n w)) := by
  intro d
  induction d with
  | zero =>
    intro i hi hp
    refine Ev.succ ?_
    simp only [spec_l03Word.l0]
    refine Ev.neg (by omega) (Ev.const ?_)
    have hW : Word n w := ⟨hw, fun x hx => by obtain ⟨j, hj, rfl⟩ := List.getElem_of_mem hx; exact hp j hj (by omega)⟩
    rw [decide_eq_true hW]
  | succ d ih =>
    intro i hi hp
    refine Ev.succ ?_
    simp only [spec_l03Word.l0, l01In_eq]
    refine Ev.pos (by omega) (Ev.pos (by omega) (Ev.some_bind ?_))
    rw [rd_lt w i (by omega), w64' (show -9000000000000000000 ≤ n - 1 ∧ n - 1 ≤ 9000000000000000000 by omega)]
    simp only [decide_eq_true_eq]
    refine Ev.ite (fun c => ?_) (fun c => ?_)
    · rw [w64' (by omega)]
      refine ih (i + 1) (by omega) (fun j h hji => ?_)
      by_cases e : j = i
      · subst e; exact c
      · exact hp j h (by omega)
    · refine Ev.const ?_
      rw [decide_eq_false fun h => c (h.2 _ (List.getElem_mem (by omega)))]
theorem l03Word_ev (n : Int) (hn : 0 ≤ n ∧ n ≤ 8) (w : List Int) : Ev (fun k => spec_l03Word.f k n w) (decide (Word n w)) := by
  simp only [spec_l03Word.f]
  refine Ev.ite (fun c => Ev.const ?_) (fun c => ?_)
  · rw [decide_eq_false fun h => by have := h.1; omega]
  · exact l03Word_l0 n hn w (by omega) w.length 0 (by omega) (by intro j h hj; omega)
theorem l03Code_ev (n : Int) (D u v : List Int) : Ev (fun k => spec_l03Code.f k n D u v) (if Alpha n D then (if Word n u ∧ Word n v then 0 else 2) else 1) := by
  simp only [spec_l03Code.f]
  refine Ev.bind (l02Is_ev n D) ?_
  simp only [decide_eq_true_eq]
  refine Ev.ite (fun c => ?_) (fun c => Ev.const (by rw [if_neg c]))
  rw [if_pos c]
  refine Ev.bind (l03Word_ev n c.1 u) ?_
  simp only [decide_eq_true_eq]
  refine Ev.ite (fun c1 => ?_) (fun c1 => Ev.const (by rw [if_neg fun h => c1 h.1]))
  refine Ev.bind (l03Word_ev n c.1 v) ?_
  simp only [decide_eq_true_eq]
  refine Ev.ite (fun c2 => Ev.const (by rw [if_pos ⟨c1, c2⟩])) (fun c2 => Ev.const (by rw [if_neg fun h => c2 h.2]))
theorem wordB_eq (n : Int) (hn : 0 ≤ n ∧ n ≤ 8) (w : List Int) : wordB n w = decide (Word n w) := by
  unfold wordB
  rw [Bool.eq_iff_iff, w64' (by omega)]
  rw [decide_eq_true_iff]
  simp [Word, List.all_eq_true]
theorem checkWords_ev (n : Int) (D : List Int) (ws : List (List Int)) : Ev (fun k => impl_checkWords.f k n D ws) (if Alpha n D then (if ∀ w ∈ ws, Word n w then 0 else 2) else 1) := by
  simp only [impl_checkWords.f]
  refine Ev.bind (IsAlphabet_ev n D) (Ev.const ?_)
  congr 1
  by_cases h : Alpha n D
  · rw [if_pos (by simpa using h), if_pos h]
    by_cases g : ∀ w ∈ ws, Word n w
    · rw [if_pos g, if_pos]
      rw [List.all_eq_true]
      exact fun w hw => by rw [wordB_eq n h.1]; simpa using g w hw
    · rw [if_neg g, if_neg]
      rw [List.all_eq_true]
      exact fun k => g fun w hw => by have := k w hw; rw [wordB_eq n h.1] at this; simpa using this
  · rw [if_neg (by simpa using h), if_neg h]
theorem l02Dep_eq (n : Nat) (hn : n ≤ 24) (f : Nat → Nat → Bool) (x : Int) (a b : Nat) (ha : a < n) (hb : b < n) : spec_l02Dep.f x (mat n f) (a : Int) (b : Int) = some (f a b) := by
  unfold spec_l02Dep.f
  have := mk_lt n (f a)
  have := pow24 hn
  rw [if_pos (by omega), if_pos (by simp; omega), rd_mat n f a ha, l01Bit_eq _ b (by omega) (by omega), testBit_mk]
  simp [hb]
theorem l01Own_eq (l : List Int) (h : l.length < 17592186044416) : spec_l01Own.f l = some l := by
  unfold spec_l01Own.f
  simp only [Option.bind_some, List.length_nil, List.nil_append]
  rw [if_pos (by omega)]
theorem l03First_l0 (n : Nat) (hn : n ≤ 24) (f : Nat → Nat → Bool) (a : Nat) (ha : a < n) : ∀ (suf pre : List Nat), (pre ++ suf).length ≤ 1000000 → (∀ x ∈ pre ++ suf, x < n) →
    Ev (fun k => spec_l03First.l0 k (ints (pre ++ suf)) (a : Int) (pre.length : Int) (n : Int) (mat n f)) (if isFirst f suf a = true then ((pre.length + suf.idxOf a : Nat) : Int) else -1) := by
  intro suf
  induction suf with
  | nil =>
    intro pre hl hw
    refine Ev.succ ?_
    simp only [spec_l03First.l0]
    exact Ev.neg (by simp) (Ev.const rfl)
  | cons b suf ih =>
    intro pre hl hw
    simp only [List.length_append, List.length_cons] at hl
    have hb : b < n := mem_mid hw
    refine Ev.succ ?_
    simp only [spec_l03First.l0]
    refine Ev.pos (by simp; omega) (Ev.pos (by omega) ?_)
    rw [rd_mid]
    refine Ev.ite (fun c => ?_) (fun c => ?_)
    · obtain rfl := Int.ofNat.inj c
      refine Ev.const ?_
      rw [if_pos (isFirst_head f b suf)]
      simp
    · have c' : ¬ b = a := fun e => c (by rw [e])
      rw [l02Dep_eq n hn f _ b a hb ha]
      refine Ev.some_bind (Ev.ite (fun g => ?_) (fun g => ?_))
      · refine Ev.const ?_
        rw [if_neg (by simp [isFirst, c', g])]
      · rw [w64' (by omega)]
        have := ih (pre ++ [b]) (by simp; omega) (by simpa using hw)
        simp only [List.append_assoc, List.cons_append, List.nil_append, List.length_append, List.length_cons, List.length_nil] at this
        refine Ev.val this ?_
        have e1 : isFirst f (b :: suf) a = isFirst f suf a := by simp [isFirst, c', g]
        rw [e1, idxOf_tail _ c']
        by_cases h : isFirst f suf a = true
        · rw [if_pos h, if_pos h]
          congr 1
          omega
        · rw [if_neg h, if_neg h]
theorem l03First_ev (n : Nat) (hn : n ≤ 24) (f : Nat → Nat → Bool) (w : List Nat) (hl : w.length ≤ 1000000) (hw : ∀ x ∈ w, x < n) (a : Nat) (ha : a < n) : Ev (fun k => spec_l03First.f k (n : Int) (mat n f) (ints w) (a : Int)) (fIdx f w a) := by
  simp only [spec_l03First.f]
  have := l03First_l0 n hn f a ha w [] hl hw
  simpa [fIdx] using this
theorem l03Without_eq (w : List Nat) (hl : w.length ≤ 1000000) (i : Nat) (hi : i < w.length) : spec_l03Without.f (ints w) (i : Int) = some (ints (w.eraseIdx i)) := by
  unfold spec_l03Without.f
  rw [if_pos (by omega), if_pos (by simp; omega), w64' (by omega), Int.toNat_natCast, l01Own_eq _ (by simp; omega)]
  simp only [Option.bind_some]
  rw [if_pos (by omega), if_pos (by simp; omega), show ((i : Int) + 1).toNat = i + 1 by omega, if_pos (by simp; omega), ← ints_eraseIdx, List.eraseIdx_eq_take_drop_succ]
theorem l03Without_first (f : Nat → Nat → Bool) (w : List Nat) (hl : w.length ≤ 1000000) (a : Nat) (h : isFirst f w a = true) : spec_l03Without.f (ints w) (fIdx f w a) = some (ints (w.erase a)) := by
  have hm := isFirst_mem f h
  unfold fIdx
  rw [if_pos h, l03Without_eq w hl _ (idxOf_lt hm), erase_idx hm]
theorem l03Normal_l0 (n : Nat) (hn : n ≤ 24) (f : Nat → Nat → Bool) : ∀ (L : Nat) (w : List Nat) (acc : List Int), w.length = L → acc.length + w.length ≤ 1000000 → (∀ x ∈ w, x < n) →
    Ev (fun k => spec_l03Normal.l0 k acc (ints w) (n : Int) (mat n f)) (acc ++ ints (normalP f n w)) := by
  intro L
  induction L with
  | zero =>
    intro w acc hL hl hw
    obtain rfl := List.eq_nil_of_length_eq_zero hL
    refine Ev.succ ?_
    simp only [spec_l03Normal.l0]
    refine Ev.neg (by simp [ints]) (Ev.const ?_)
    simp [normalP_nil, ints]
  | succ L ih =>
    intro w acc hL hl hw
    have hne : w ≠ [] := by rintro rfl; simp at hL
    obtain ⟨h1, h2, h3⟩ := least_first f hw hne
    rw [normalP_cons f hw hne]
    refine Ev.succ ?_
    simp only [spec_l03Normal.l0]
    refine Ev.pos (by simp; omega) ?_
    have inner : ∀ (d a : Nat), a + d = leastF (isFirst f w) n → Ev (fun k => spec_l03Normal.l1 k acc (ints w) (a : Int) (n : Int) (mat n f)) (acc ++ ints (leastF (isFirst f w) n :: normalP f n (w.erase (leastF (isFirst f w) n)))) := by
      intro d
      induction d with
      | zero =>
        intro a ha
        obtain rfl : a = leastF (isFirst f w) n := by omega
        refine Ev.succ ?_
        simp only [spec_l03Normal.l1]
        refine Ev.pos (by omega) (Ev.bind (l03First_ev n hn f w (by omega) hw _ h1) (Ev.pos (by unfold fIdx; rw [if_pos h2]; omega) (Ev.pos (by omega) ?_)))
        rw [l03Without_first f w (by omega) _ h2]
        refine Ev.some_bind ?_
        have he := length_erase f h2
        refine Ev.val (ih _ _ (by omega) (by simp; omega) (erase_lt hw)) ?_
        rw [ints_cons]
        simp
      | succ d ihd =>
        intro a ha
        refine Ev.succ ?_
        simp only [spec_l03Normal.l1]
        refine Ev.pos (by omega) (Ev.bind (l03First_ev n hn f w (by omega) hw a (by omega)) (Ev.neg (by unfold fIdx; rw [h3 a (by omega)]; simp) ?_))
        rw [w64' (by omega)]
        exact ihd (a + 1) (by omega)
    exact inner (leastF (isFirst f w) n) 0 (by omega)
theorem l03Normal_ev (n : Nat) (hn : n ≤ 24) (f : Nat → Nat → Bool) (w : List Nat) (hl : w.length ≤ 1000000) (hw : ∀ x ∈ w, x < n) : Ev (fun k => spec_l03Normal.f k (n : Int) (mat n f) (ints w)) (ints (normalP f n w)) := by
  simp only [spec_l03Normal.f]
  rw [l01Own_eq _ (by simp; omega)]
  refine Ev.some_bind (Ev.val (l03Normal_l0 n hn f _ w [] rfl (by simpa using hl) hw) (by simp))
theorem Index_l0 (a : Nat) : ∀ (suf pre : List Nat), (pre ++ suf).length ≤ 1000000 →
    Ev (fun k => slices_Index_int64_int64.l0 k (ints (pre ++ suf)) (a : Int) ((pre ++ suf).length : Int) (pre.length : Int)) (if a ∈ suf then ((pre.length + suf.idxOf a : Nat) : Int) else -1) := by
  intro suf
  induction suf with
  | nil =>
    intro pre hl
    refine Ev.succ ?_
    simp only [slices_Index_int64_int64.l0]
    exact Ev.neg (by simp) (Ev.const rfl)
  | cons b suf ih =>
    intro pre hl
    simp only [List.length_append, List.length_cons] at hl
    refine Ev.succ ?_
    simp only [slices_Index_int64_int64.l0]
    refine Ev.pos (by simp; omega) (Ev.pos (by omega) (Ev.pos (by simp; omega) ?_))
    rw [rd_mid]
    refine Ev.ite (fun c => ?_) (fun c => ?_)
    · obtain rfl := Int.ofNat.inj c
      refine Ev.const ?_
      simp
    · have c' : ¬ b = a := fun e => c (by rw [e])
      rw [w64' (by omega)]
      have := ih (pre ++ [b]) (by simp; omega)
      simp only [List.append_assoc, List.cons_append, List.nil_append, List.length_append, List.length_cons, List.length_nil] at this ⊢
      refine Ev.val this ?_
      rw [idxOf_tail _ c']
      have e1 : a ∈ b :: suf ↔ a ∈ suf := by simp [List.mem_cons, show ¬ a = b from fun e => c' e.symm]
      by_cases h : a ∈ suf
      · rw [if_pos h, if_pos (e1.2 h)]
        congr 1
        omega
      · rw [if_neg h, if_neg (fun k => h (e1.1 k))]
theorem Index_ev (w : List Nat) (hl : w.length ≤ 1000000) (a : Nat) : Ev (fun k => slices_Index_int64_int64.f k (ints w) (a : Int)) (if a ∈ w then ((w.idxOf a : Nat) : Int) else -1) := by
  simp only [slices_Index_int64_int64.f]
  have := Index_l0 a w [] hl
  simpa using this
theorem withoutFirst_ev (w : List Nat) (hl : w.length ≤ 1000000) (a : Nat) (h : a ∈ w) : Ev (fun k => impl_withoutFirst.f k (ints w) (a : Int)) (ints (w.erase a)) := by
  simp only [impl_withoutFirst.f]
  have hi := idxOf_lt h
  refine Ev.bind (Index_ev w hl a) ?_
  rw [if_pos h]
  refine Ev.pos (by omega) (Ev.pos (by simp; omega) ?_)
  rw [w64' (by omega)]
  refine Ev.pos (by omega) (Ev.pos (by simp; omega) ?_)
  rw [Int.toNat_natCast, show ((w.idxOf a : Int) + 1).toNat = w.idxOf a + 1 by omega]
  refine Ev.const ?_
  unfold slices_Concat_int64_int64.f
  rw [if_pos (by simp; omega), ← erase_idx h, ← ints_eraseIdx, List.eraseIdx_eq_take_drop_succ]
  simp
theorem isFirst_snoc (f : Nat → Nat → Bool) (w : List Nat) (x a : Nat) : isFirst f (w ++ [x]) a = (isFirst f w a || (decide (x = a) && w.all fun b => !f b a)) := by
  induction w with
  | nil => simp [isFirst]
  | cons b w ih =>
    simp only [List.cons_append, isFirst, ih, List.all_cons]
    cases decide (b = a) <;> cases f b a <;> cases isFirst f w a <;> simp
theorem firsts_l0 (n : Nat) (hn : n ≤ 8) (f : Nat → Nat → Bool) : ∀ (suf pre : List Nat), (pre ++ suf).length ≤ 1000000 → (∀ x ∈ pre ++ suf, x < n) →
    Ev (fun k => impl_ties_firsts.l0 k (mat n f) ((mk n (isFirst f pre) : Nat) : Int) ((mk n (fun a => pre.any fun b => f b a) : Nat) : Int) (ints (pre ++ suf)) ((pre ++ suf).length : Int) (pre.length : Int)) ((mk n (isFirst f (pre ++ suf)) : Nat) : Int) := by
  intro suf
  induction suf with
  | nil =>
    intro pre hl hw
    refine Ev.succ ?_
    simp only [impl_ties_firsts.l0]
    exact Ev.neg (by simp) (Ev.const (by simp))
  | cons x suf ih =>
    intro pre hl hw
    have hx : x < n := mem_mid hw
    have i1 := ih (pre ++ [x]) (by simpa using hl) (by simpa using hw)
    simp only [List.append_assoc, List.cons_append, List.nil_append] at i1
    rw [show (pre ++ [x]).length = pre.length + 1 by simp] at i1
    have hl' : pre.length + suf.length + 1 ≤ 1000000 := by simpa [Nat.add_assoc] using hl
    have h1 := mk_lt n (isFirst f pre)
    have h2 := mk_lt n (fun a => pre.any fun b => f b a)
    have h3 := mk_lt n (f x)
    have h4 : (2 : Nat) ^ n ≤ 2 ^ 24 := pow24 (by omega)
    have h5 : (2 : Nat) ^ x ≤ 2 ^ 24 := pow24 (by omega)
    have eb : mk n (fun a => (pre ++ [x]).any fun b => f b a) = mk n (fun a => pre.any fun b => f b a) ||| mk n (f x) := bits_ext fun i => by
      rw [Nat.testBit_or, testBit_mk, testBit_mk, testBit_mk]
      by_cases hi : i < n <;> simp [hi]
    rw [eb] at i1
    refine Ev.succ ?_
    simp only [impl_ties_firsts.l0]
    refine Ev.pos (by simp; omega) (Ev.pos (by omega) (Ev.pos (by simp; omega) ?_))
    rw [rd_mid, has_eq _ x (by omega) (by omega), rd_mat n f x hx, b_or _ _ (by omega) (by omega), testBit_mk]
    refine Ev.some_bind (Ev.ite (fun g => ?_) (fun g => ?_))
    · refine Ev.pos (by omega) (Ev.pos (by simp; omega) ?_)
      rw [w64' (by omega)]
      have eo : mk n (isFirst f (pre ++ [x])) = mk n (isFirst f pre) := mk_congr fun a _ => by
        rw [isFirst_snoc]
        by_cases e : x = a
        · subst e
          have : (pre.all fun b => !f b x) = false := by
            rw [← Bool.not_eq_true]
            simp [hx] at g
            obtain ⟨b, hb, hf⟩ := g
            intro h
            have := List.all_eq_true.1 h b hb
            simp [hf] at this
          rw [this]; simp
        · simp [e]
      rw [eo] at i1
      exact i1
    · rw [one_eq x (by omega)]
      refine Ev.some_bind (Ev.pos (by omega) (Ev.pos (by simp; omega) ?_))
      rw [w64' (by omega), b_or _ _ (by omega) (by omega)]
      have eo : mk n (isFirst f (pre ++ [x])) = mk n (isFirst f pre) ||| 2 ^ x := bits_ext fun i => by
        rw [Nat.testBit_or, testBit_mk, testBit_mk, testBit_one, isFirst_snoc]
        by_cases e : x = i
        · subst e
          have : (pre.all fun b => !f b x) = true := by
            rw [List.all_eq_true]
            intro b hb
            simp only [hx, decide_true, Bool.true_and] at g
            have := fun h => g (List.any_eq_true.2 ⟨b, hb, h⟩)
            simpa using this
          simp [hx, this]
        · simp [e]
      rw [eo] at i1
      exact i1
theorem firsts_ev (n : Nat) (hn : n ≤ 8) (f : Nat → Nat → Bool) (w : List Nat) (hl : w.length ≤ 1000000) (hw : ∀ x ∈ w, x < n) : Ev (fun k => impl_ties_firsts.f k (mat n f) (ints w)) ((mk n (isFirst f w) : Nat) : Int) := by
  simp only [impl_ties_firsts.f]
  have := firsts_l0 n hn f w [] hl hw
  have e1 : mk n (isFirst f []) = 0 := Nat.eq_of_testBit_eq fun i => by rw [testBit_mk]; simp [isFirst]
  have e2 : mk n (fun a => ([] : List Nat).any fun b => f b a) = 0 := Nat.eq_of_testBit_eq fun i => by rw [testBit_mk]; simp
  rw [e1, e2] at this
  simpa using this
theorem normal_l0 (n : Nat) (hn : n ≤ 8) (f : Nat → Nat → Bool) : ∀ (L : Nat) (w : List Nat) (acc : List Int), w.length = L → acc.length + w.length ≤ 1000000 → (∀ x ∈ w, x < n) →
    Ev (fun k => impl_ties_normal.l0 k (mat n f) acc (ints w)) (acc ++ ints (normalP f n w)) := by
  intro L
  induction L with
  | zero =>
    intro w acc hL hl hw
    obtain rfl := List.eq_nil_of_length_eq_zero hL
    refine Ev.succ ?_
    simp only [impl_ties_normal.l0]
    refine Ev.neg (by simp [ints]) (Ev.const ?_)
    simp [normalP_nil, ints]
  | succ L ih =>
    intro w acc hL hl hw
    have hne : w ≠ [] := by rintro rfl; simp at hL
    obtain ⟨h1, h2, h3⟩ := least_first f hw hne
    rw [normalP_cons f hw hne]
    have h4 := mk_lt n (isFirst f w)
    have h5 : (2 : Nat) ^ n ≤ 2 ^ 24 := pow24 (by omega)
    refine Ev.succ ?_
    simp only [impl_ties_normal.l0]
    refine Ev.pos (by simp; omega) (Ev.bind (firsts_ev n hn f w (by omega) hw) ?_)
    rw [least_eq _ (by omega), ctz_mk (by omega) ⟨_, h1, h2⟩]
    refine Ev.some_bind (Ev.pos (by omega) (Ev.bind (withoutFirst_ev w (by omega) _ (isFirst_mem f h2)) ?_))
    have he := length_erase f h2
    refine Ev.val (ih _ _ (by omega) (by simp; omega) (erase_lt hw)) ?_
    rw [ints_cons]
    simp
theorem normal_ev (n : Nat) (hn : n ≤ 8) (f : Nat → Nat → Bool) (w : List Nat) (hl : w.length ≤ 1000000) (hw : ∀ x ∈ w, x < n) : Ev (fun k => impl_ties_normal.f k (mat n f) (ints w)) (ints (normalP f n w)) := by
  simp only [impl_ties_normal.f]
  refine Ev.pos (by omega) (Ev.pos (by simp; omega) (Ev.val (normal_l0 n hn f _ w [] rfl (by simpa using hl) hw) (by simp)))
theorem Equal_ev (u v : List Int) (hl : u.length ≤ 1000000) : Ev (fun k => slices_Equal_int64_int64.f k u v) (decide (u = v)) := by
  simp only [slices_Equal_int64_int64.f]
  refine Ev.ite (fun c => ?_) (fun c => ?_)
  · have hlen : u.length = v.length := by omega
    have loop : ∀ (d i : Nat), i + d = u.length → Ev (fun k => slices_Equal_int64_int64.l0 k u v (u.length : Int) (i : Int)) (decide (u.drop i = v.drop i)) := by
      intro d
      induction d with
      | zero =>
        intro i hi
        refine Ev.succ ?_
        simp only [slices_Equal_int64_int64.l0]
        refine Ev.neg (by omega) (Ev.const ?_)
        rw [List.drop_of_length_le (by omega), List.drop_of_length_le (by omega)]
        simp
      | succ d ih =>
        intro i hi
        refine Ev.succ ?_
        simp only [slices_Equal_int64_int64.l0]
        refine Ev.pos (by omega) (Ev.pos (by omega) (Ev.pos (by omega) (Ev.pos (by omega) ?_)))
        rw [rd_lt u i (by omega), rd_lt v i (by omega), List.drop_eq_getElem_cons (show i < u.length by omega), List.drop_eq_getElem_cons (show i < v.length by omega)]
        refine Ev.ite (fun g => ?_) (fun g => ?_)
        · rw [w64' (by omega)]
          refine Ev.val (ih (i + 1) (by omega)) ?_
          rw [decide_eq_decide, List.cons.injEq]
          simp [g]
        · refine Ev.const ?_
          rw [decide_eq_false]
          rw [List.cons.injEq]
          exact fun h => g h.1
    exact loop u.length 0 (by omega)
  · refine Ev.const ?_
    rw [decide_eq_false]
    rintro rfl
    exact c rfl
theorem check_ok {n : Nat} {D : List Int} (hA : Alpha (n : Int) D) (ws : List (List Int)) (h : ∀ w ∈ ws, Word (n : Int) w) : Ev (fun k => impl_checkWords.f k (n : Int) D ws) 0 := by
  have := checkWords_ev (n : Int) D ws
  rwa [if_pos hA, if_pos h] at this
theorem check_1 {n : Nat} {f : Nat → Nat → Bool} (hA : Alpha (n : Int) (mat n f)) {u : List Nat} (hl : u.length ≤ 24) (hu : ∀ x ∈ u, x < n) : Ev (fun k => impl_checkWords.f k (n : Int) (mat n f) [ints u]) 0 :=
  check_ok hA _ fun w hw => by rw [List.mem_singleton.1 hw]; exact Word.of hl hu
theorem check_2 {n : Nat} {f : Nat → Nat → Bool} (hA : Alpha (n : Int) (mat n f)) {u v : List Nat} (hl : u.length ≤ 24) (hu : ∀ x ∈ u, x < n) (hl2 : v.length ≤ 24) (hv : ∀ x ∈ v, x < n) : Ev (fun k => impl_checkWords.f k (n : Int) (mat n f) [ints u, ints v]) 0 :=
  check_ok hA _ fun w hw => by
    rcases List.mem_cons.1 hw with rfl | hw
    · exact Word.of hl hu
    · rw [List.mem_singleton.1 hw]; exact Word.of hl2 hv
theorem codes2 (n : Int) (D l1 l2 : List Int) : (∃ m f u v, Two n D l1 l2 m f u v ∧ Ev (fun k => spec_l03Code.f k n D l1 l2) 0 ∧ Ev (fun k => impl_checkWords.f k n D [l1, l2]) 0) ∨
    ∃ c : Int, c ≠ 0 ∧ (c = 1 ∨ c = 2) ∧ Ev (fun k => spec_l03Code.f k n D l1 l2) c ∧ Ev (fun k => impl_checkWords.f k n D [l1, l2]) c := by
  have hc := l03Code_ev n D l1 l2
  have hk := checkWords_ev n D [l1, l2]
  have e : (∀ x ∈ [l1, l2], Word n x) ↔ (Word n l1 ∧ Word n l2) := by simp
  simp only [e] at hk
  by_cases hA : Alpha n D
  · by_cases hW : Word n l1 ∧ Word n l2
    · rw [if_pos hA, if_pos hW] at hc hk
      have hA2 := hA
      obtain ⟨m, f, rfl, rfl, hm, hs, hr⟩ := hA.form
      obtain ⟨u, rfl, hul, hu⟩ := hW.1.form
      obtain ⟨v, rfl, hvl, hv⟩ := hW.2.form
      exact .inl ⟨m, f, u, v, ⟨rfl, rfl, rfl, rfl, hm, hs, hr, hul, hu, hvl, hv, hA2⟩, hc, hk⟩
    · rw [if_pos hA, if_neg hW] at hc hk
      exact .inr ⟨2, by decide, .inr rfl, hc, hk⟩
  · rw [if_neg hA] at hc hk
    exact .inr ⟨1, by decide, .inl rfl, hc, hk⟩
theorem l01Same_ev (u v : List Int) (hl : u.length ≤ 1000000) : Ev (fun k => spec_l01Same.f k u v) (decide (u = v)) := by
  simp only [spec_l01Same.f]
  refine Ev.ite (fun c => ?_) (fun c => ?_)
  · have hlen : u.length = v.length := by omega
    have loop : ∀ (d i : Nat), i + d = u.length → Ev (fun k => spec_l01Same.l0 k u v (i : Int)) (decide (u.drop i = v.drop i)) := by
      intro d
      induction d with
      | zero =>
        intro i hi
        refine Ev.succ ?_
        simp only [spec_l01Same.l0]
        refine Ev.neg (by omega) (Ev.const ?_)
        rw [List.drop_of_length_le (by omega), List.drop_of_length_le (by omega)]
        simp
      | succ d ih =>
        intro i hi
        refine Ev.succ ?_
        simp only [spec_l01Same.l0]
        refine Ev.pos (by omega) (Ev.pos (by omega) (Ev.pos (by omega) ?_))
        rw [rd_lt u i (by omega), rd_lt v i (by omega), List.drop_eq_getElem_cons (show i < u.length by omega), List.drop_eq_getElem_cons (show i < v.length by omega)]
        refine Ev.ite (fun g => ?_) (fun g => ?_)
        · rw [w64' (by omega)]
          refine Ev.val (ih (i + 1) (by omega)) ?_
          rw [decide_eq_decide, List.cons.injEq]
          simp [g]
        · refine Ev.const ?_
          rw [decide_eq_false]
          rw [List.cons.injEq]
          exact fun h => g h.1
    exact loop u.length 0 (by omega)
  · refine Ev.const ?_
    rw [decide_eq_false]
    rintro rfl
    exact c rfl
theorem l07Rotate_ev (n : Nat) (hn : n ≤ 8) (f : Nat → Nat → Bool) (w : List Nat) (hl : w.length ≤ 1000) (hw : ∀ x ∈ w, x < n) (a : Nat) (ha : a < n) :
    Ev (fun k => spec_l07Rotate.f k (n : Int) (mat n f) (ints w) (a : Int)) (if isFirst f w a = true then (ints (rotP f n w a), true) else ([], false)) := by
  simp only [spec_l07Rotate.f]
  by_cases h : isFirst f w a = true
  · have he := List.length_erase_of_mem (isFirst_mem f h)
    have h2 : ∀ x ∈ w.erase a ++ [a], x < n := fun x hx => (List.mem_append.1 hx).elim (fun g => hw x (List.mem_of_mem_erase g)) (fun g => by rw [List.mem_singleton.1 g]; exact ha)
    rw [if_pos h]
    refine Ev.bind (l03First_ev n (by omega) f w (by omega) hw a ha) (Ev.neg (by unfold fIdx; rw [if_pos h]; omega) ?_)
    rw [l03Without_first f w (by omega) a h]
    simp only [Option.bind_some]
    refine Ev.pos (by simp; omega) ?_
    rw [show ints (w.erase a) ++ [(a : Int)] = ints (w.erase a ++ [a]) by rw [ints_append]; rfl]
    exact Ev.bind (l03Normal_ev n (by omega) f _ (by simp; omega) h2) (Ev.now _)
  · rw [if_neg h]
    exact Ev.bind (l03First_ev n (by omega) f w (by omega) hw a ha) (Ev.pos (by unfold fIdx; rw [if_neg h]; omega) (Ev.now _))
theorem rd_pre (pre suf : List (List Nat)) (u : List Nat) : rd_L1 ((pre ++ u :: suf).map ints) (pre.length : Int) = ints u := by
  simp only [rd_L1, Int.toNat_natCast]
  rw [List.getD_eq_getElem?_getD, List.getElem?_map, List.getElem?_append_right (Nat.le_refl _)]
  simp
theorem l07Find_ev (w : List Nat) : ∀ (suf pre : List (List Nat)), (pre ++ suf).length ≤ 1000000 → (∀ u ∈ suf, u.length ≤ 1000000) →
    ∃ r : Int, Ev (fun k => spec_l07Find.l0 k ((pre ++ suf).map ints) (ints w) (pre.length : Int)) r ∧ ((r < 0 ∧ w ∉ suf) ∨ (0 ≤ r ∧ w ∈ suf)) := by
  intro suf
  induction suf with
  | nil =>
    intro pre hl hu
    refine ⟨-1, Ev.succ ?_, .inl ⟨by omega, by simp⟩⟩
    simp only [spec_l07Find.l0]
    exact Ev.neg (by simp) (Ev.const rfl)
  | cons u suf ih =>
    intro pre hl hu
    have hl' : pre.length + suf.length + 1 ≤ 1000000 := by simpa [Nat.add_assoc] using hl
    by_cases e : ints u = ints w
    · refine ⟨(pre.length : Int), Ev.succ ?_, .inr ⟨by omega, by rw [ints_inj e]; simp⟩⟩
      simp only [spec_l07Find.l0]
      refine Ev.pos (by simp; omega) (Ev.pos (by omega) (Ev.bind (by rw [rd_pre]; exact l01Same_ev _ _ (by rw [ints_length]; exact hu u (by simp))) ?_))
      exact Ev.pos (by simpa using e) (Ev.const rfl)
    · obtain ⟨r, h1, h2⟩ := ih (pre ++ [u]) (by simpa using hl) (fun x hx => hu x (by simp [hx]))
      refine ⟨r, Ev.succ ?_, ?_⟩
      · simp only [spec_l07Find.l0]
        refine Ev.pos (by simp; omega) (Ev.pos (by omega) (Ev.bind (by rw [rd_pre]; exact l01Same_ev _ _ (by rw [ints_length]; exact hu u (by simp))) ?_))
        refine Ev.neg (by simpa using e) ?_
        rw [w64' (by omega)]
        simp only [List.append_assoc, List.cons_append, List.nil_append] at h1
        rw [show (pre ++ [u]).length = pre.length + 1 by simp] at h1
        exact h1
      · have hne : w ≠ u := fun h => e (by rw [h])
        rcases h2 with h2 | h2
        · exact .inl ⟨h2.1, by simp [hne, h2.2]⟩
        · exact .inr ⟨h2.1, by simp [h2.2]⟩
/-- the list of the words, and how far each is -/
def clsW (l : List (List Nat × List Nat)) : List (List Int) := (l.map Prod.fst).map ints
def clsF (l : List (List Nat × List Nat)) : List Int := l.map fun p => (p.2.length : Int)
theorem clsW_length (l : List (List Nat × List Nat)) : (clsW l).length = l.length := by simp [clsW]
theorem clsF_length (l : List (List Nat × List Nat)) : (clsF l).length = l.length := by simp [clsF]
theorem clsW_at {l : List (List Nat × List Nat)} {i : Nat} (hi : i < l.length) : rd_L1 (clsW l) (i : Int) = ints (l.getD i ([], [])).1 := by
  simp only [rd_L1, Int.toNat_natCast, clsW]
  simp [List.getD_eq_getElem?_getD, hi]
theorem clsF_at {l : List (List Nat × List Nat)} {i : Nat} (hi : i < l.length) : rd (clsF l) (i : Int) = ((l.getD i ([], [])).2.length : Int) := by
  simp only [rd, Int.toNat_natCast, clsF]
  simp [List.getD_eq_getElem?_getD, hi]
theorem getD_append_at {α : Type} {l t : List α} {d : α} {i : Nat} (hi : i < l.length) : (l ++ t).getD i d = l.getD i d := by
  simp [List.getD_eq_getElem?_getD, List.getElem?_append_left hi]
theorem clsFind_ev {n N : Nat} {l : List (List Nat × List Nat)} (hg : Listed n N l) (hN : N ≤ 1000) (hl : l.length ≤ 1000) (w : List Nat) :
    ∃ r : Int, Ev (fun k => spec_l07Find.f k (clsW l) (ints w)) r ∧ ((r < 0 ∧ w ∉ l.map Prod.fst) ∨ (0 ≤ r ∧ w ∈ l.map Prod.fst)) := by
  have := l07Find_ev w (l.map Prod.fst) [] (by simp; omega) (fun u hu => by
    obtain ⟨p, hp, rfl⟩ := List.mem_map.1 hu
    have := (hg p hp).2.1
    omega)
  exact this
/-- one conjugate's letters, from some letter on: what the next one's round makes of it is made of this -/
theorem class_l1 {n N : Nat} (hn : n ≤ 8) {f : Nat → Nat → Bool} (hs : ∀ a b, f a b = f b a) (hN : N ≤ 1000) (i : Nat) (p : List Nat × List Nat) : ∀ (m a : Nat), a + m = n → ∀ l : List (List Nat × List Nat), Listed n N l → i < l.length → l.getD i ([], []) = p → l.length ≤ 1000 → i ≤ 1001 →
    ((clsR f n p (List.range' a m) l).length ≤ 1000 → ∀ r, Ev (fun k => spec_l07Class.l0 k (clsW (clsR f n p (List.range' a m) l)) (clsF (clsR f n p (List.range' a m) l)) ((i + 1 : Nat) : Int) (n : Int) (mat n f)) r → Ev (fun k => spec_l07Class.l1 k (clsW l) (clsF l) (i : Int) (a : Int) (n : Int) (mat n f)) r)
    ∧ (¬ (clsR f n p (List.range' a m) l).length ≤ 1000 → Ev (fun k => spec_l07Class.l1 k (clsW l) (clsF l) (i : Int) (a : Int) (n : Int) (mat n f)) ([], [], false)) := by
  intro m
  induction m with
  | zero =>
    intro a ha l hg hi hp hl hi2
    refine ⟨fun _ r hr => Ev.succ ?_, fun h => absurd hl h⟩
    simp only [spec_l07Class.l1]
    refine Ev.neg (by omega) ?_
    rw [w64' (by omega)]
    exact hr
  | succ m ih =>
    intro a ha l hg hi hp hl hi2
    have hpg := hg.at hi
    rw [hp] at hpg
    have han : a < n := by omega
    have hrot := l07Rotate_ev n hn f p.1 (by omega) hpg.1 a han
    have e1 : rd_L1 (clsW l) (i : Int) = ints p.1 := by rw [clsW_at hi, hp]
    have hlen1 := clsW_length l
    have hlen2 := clsF_length l
    rw [List.range'_succ, clsR_cons]
    -- the letter adds nothing
    have skip : clsS f n p l a = l → (∀ r, Ev (fun k => spec_l07Class.l1 k (clsW l) (clsF l) (i : Int) ((a + 1 : Nat) : Int) (n : Int) (mat n f)) r → Ev (fun k => spec_l07Class.l1 k (clsW l) (clsF l) (i : Int) (a : Int) (n : Int) (mat n f)) r) →
        ((clsR f n p (List.range' (a + 1) m) (clsS f n p l a)).length ≤ 1000 → ∀ r, Ev (fun k => spec_l07Class.l0 k (clsW (clsR f n p (List.range' (a + 1) m) (clsS f n p l a))) (clsF (clsR f n p (List.range' (a + 1) m) (clsS f n p l a))) ((i + 1 : Nat) : Int) (n : Int) (mat n f)) r → Ev (fun k => spec_l07Class.l1 k (clsW l) (clsF l) (i : Int) (a : Int) (n : Int) (mat n f)) r)
        ∧ (¬ (clsR f n p (List.range' (a + 1) m) (clsS f n p l a)).length ≤ 1000 → Ev (fun k => spec_l07Class.l1 k (clsW l) (clsF l) (i : Int) (a : Int) (n : Int) (mat n f)) ([], [], false)) := by
      intro e h
      rw [e]
      have := ih (a + 1) (by omega) l hg hi hp hl hi2
      exact ⟨fun h1 r hr => h r (this.1 h1 r hr), fun h1 => h _ (this.2 h1)⟩
    by_cases hf : isFirst f p.1 a = true
    · rw [if_pos hf] at hrot
      obtain ⟨q, hq, hq2⟩ := clsFind_ev hg hN hl (rotP f n p.1 a)
      rcases hq2 with hq2 | hq2
      · -- a new one
        have eS : clsS f n p l a = l ++ [(rotP f n p.1 a, p.2 ++ [a])] := by unfold clsS; rw [if_pos ⟨hf, hq2.2⟩]
        have hg2 := hg.step hs hpg han
        rw [eS] at hg2 ⊢
        have eW : clsW (l ++ [(rotP f n p.1 a, p.2 ++ [a])]) = clsW l ++ [ints (rotP f n p.1 a)] := by simp [clsW]
        have eF : clsF (l ++ [(rotP f n p.1 a, p.2 ++ [a])]) = clsF l ++ [wrap64 (rd (clsF l) (i : Int) + 1)] := by
          rw [clsF_at hi, hp, w64' (by omega)]
          simp [clsF]
        have step : ∀ r, (l.length + 1 ≤ 1000 → Ev (fun k => spec_l07Class.l1 k (clsW (l ++ [(rotP f n p.1 a, p.2 ++ [a])])) (clsF (l ++ [(rotP f n p.1 a, p.2 ++ [a])])) (i : Int) ((a + 1 : Nat) : Int) (n : Int) (mat n f)) r) → (¬ l.length + 1 ≤ 1000 → r = ([], [], false)) → Ev (fun k => spec_l07Class.l1 k (clsW l) (clsF l) (i : Int) (a : Int) (n : Int) (mat n f)) r := by
          intro r h1 h2
          refine Ev.succ ?_
          simp only [spec_l07Class.l1]
          refine Ev.pos (by omega) (Ev.pos (by omega) (Ev.pos (by omega) ?_))
          rw [e1]
          refine Ev.bind hrot (Ev.pos rfl (Ev.bind hq (Ev.succ ?_)))
          simp only [spec_l07Class.j2]
          refine Ev.pos (decide_eq_true hq2.1) (Ev.pos (by omega) (Ev.some_bind (Ev.pos (by omega) (Ev.pos (by omega) (Ev.pos (by omega) ?_)))))
          by_cases hc : l.length + 1 ≤ 1000
          · refine Ev.neg (by rw [List.length_append, List.length_singleton]; omega) ?_
            rw [← eF, w64' (by omega)]
            have := h1 hc
            rw [eW] at this
            exact this
          · refine Ev.pos (by rw [List.length_append, List.length_singleton]; omega) ?_
            rw [h2 hc]
            exact Ev.now _
        by_cases hc : l.length + 1 ≤ 1000
        · have := ih (a + 1) (by omega) (l ++ [(rotP f n p.1 a, p.2 ++ [a])]) hg2 (by simp; omega) (by rw [getD_append_at hi]; exact hp) (by simpa using hc) hi2
          exact ⟨fun h1 r hr => step r (fun _ => this.1 h1 r hr) (fun h => absurd hc h), fun h1 => step _ (fun _ => this.2 h1) (fun _ => rfl)⟩
        · have hle := clsR_le f n p (List.range' (a + 1) m) (l ++ [(rotP f n p.1 a, p.2 ++ [a])])
          rw [List.length_append, List.length_singleton] at hle
          exact ⟨fun h1 => by omega, fun h1 => step _ (fun h => absurd h hc) (fun _ => rfl)⟩
      · refine skip (by unfold clsS; rw [if_neg (fun h => h.2 hq2.2)]) (fun r hr => Ev.succ ?_)
        simp only [spec_l07Class.l1]
        refine Ev.pos (by omega) (Ev.pos (by omega) (Ev.pos (by omega) ?_))
        rw [e1]
        refine Ev.bind hrot (Ev.pos rfl (Ev.bind hq (Ev.succ ?_)))
        simp only [spec_l07Class.j2]
        refine Ev.neg (by simp; omega) ?_
        rw [w64' (by omega)]
        exact hr
    · rw [if_neg hf] at hrot
      refine skip (by unfold clsS; rw [if_neg (fun h => hf h.1)]) (fun r hr => Ev.succ ?_)
      simp only [spec_l07Class.l1]
      refine Ev.pos (by omega) (Ev.pos (by omega) (Ev.pos (by omega) ?_))
      rw [e1]
      refine Ev.bind hrot (Ev.neg (by simp) (Ev.succ ?_))
      simp only [spec_l07Class.j2]
      refine Ev.neg (by simp) ?_
      rw [w64' (by omega)]
      exact hr
/-- the outcome of the search -/
def clsOut : Option (List (List Nat × List Nat)) → List (List Int) × List Int × Bool
  | none => ([], [], false)
  | some L => (clsW L, clsF L, true)
theorem class_l0 {n N : Nat} (hn : n ≤ 8) {f : Nat → Nat → Bool} (hs : ∀ a b, f a b = f b a) (hN : N ≤ 1000) : ∀ (k i : Nat), k + i = 1001 → ∀ l : List (List Nat × List Nat), Listed n N l → i ≤ l.length → l.length ≤ 1000 →
    Ev (fun k => spec_l07Class.l0 k (clsW l) (clsF l) (i : Int) (n : Int) (mat n f)) (clsOut (clsK f n k l i)) := by
  intro k
  induction k with
  | zero => intro i hk l hg hi hl; omega
  | succ k ih =>
    intro i hk l hg hi hl
    refine Ev.succ ?_
    have hlen1 := clsW_length l
    simp only [spec_l07Class.l0, clsK]
    by_cases hc : i < l.length
    · rw [if_pos hc, List.range_eq_range']
      refine Ev.pos (by omega) ?_
      have h1 := class_l1 hn hs hN i (l.getD i ([], [])) n 0 (by omega) l hg hc rfl hl (by omega)
      by_cases hq : (clsR f n (l.getD i ([], [])) (List.range' 0 n) l).length ≤ 1000
      · rw [if_pos hq]
        refine h1.1 hq _ (ih (i + 1) (by omega) _ (hg.rounds hs _ l (hg.at hc) (fun a ha => by have := List.mem_range'.1 ha; omega)) ?_ hq)
        have := clsR_le f n (l.getD i ([], [])) (List.range' 0 n) l
        omega
      · rw [if_neg hq]
        exact h1.2 hq
    · rw [if_neg hc]
      exact Ev.neg (by omega) (Ev.now _)
/-- the search begins with the normal form -/
def clsP (f : Nat → Nat → Bool) (n : Nat) (w : List Nat) : Option (List (List Nat × List Nat)) := clsK f n 1001 [(normalP f n w, [])] 0
theorem found_first {n : Nat} {f : Nat → Nat → Bool} (hs : ∀ a b, f a b = f b a) {w : List Nat} (hw : ∀ x ∈ w, x < n) : Listed n w.length [(normalP f n w, [])] := by
  intro p hp
  rw [List.mem_singleton.1 hp]
  exact ⟨normalP_lt f hs hw, normalP_length f hs hw, by simp, by simp⟩
theorem l07Class_ev {n : Nat} (hn : n ≤ 8) {f : Nat → Nat → Bool} (hs : ∀ a b, f a b = f b a) {w : List Nat} (hl : w.length ≤ 1000) (hw : ∀ x ∈ w, x < n) : Ev (fun k => spec_l07Class.f k (n : Int) (mat n f) (ints w)) (clsOut (clsP f n w)) := by
  simp only [spec_l07Class.f]
  exact Ev.bind (l03Normal_ev n (by omega) f w (by omega) hw) (class_l0 hn hs hl 1001 0 rfl _ (found_first hs hw) (by simp) (by simp))
theorem clsK_found {n N : Nat} {f : Nat → Nat → Bool} (hs : ∀ a b, f a b = f b a) : ∀ (k i : Nat) (l L : List (List Nat × List Nat)), Listed n N l → l.length ≤ 1000 → clsK f n k l i = some L → Listed n N L ∧ L.length ≤ 1000 := by
  intro k
  induction k with
  | zero => intro i l L hg hl h; rw [← Option.some.inj h]; exact ⟨hg, hl⟩
  | succ k ih =>
    intro i l L hg hl h
    simp only [clsK] at h
    by_cases hc : i < l.length
    · rw [if_pos hc] at h
      by_cases hq : (clsR f n (l.getD i ([], [])) (List.range n) l).length ≤ 1000
      · rw [if_pos hq] at h
        exact ih _ _ _ (hg.rounds hs _ l (hg.at hc) (fun a ha => List.mem_range.1 ha)) hq h
      · rw [if_neg hq] at h
        cases h
    · rw [if_neg hc] at h
      rw [← Option.some.inj h]; exact ⟨hg, hl⟩
theorem wordKey_ev (w : List Nat) (hl : w.length ≤ 1000000) (hw : ∀ x ∈ w, x < 256) : Ev (fun k => impl_wordKey.f k (ints w)) (strOfNums (ints w)) := by
  have hlen : (ints w).length = w.length := ints_length w
  have loop : ∀ (d i : Nat), i + d = w.length → Ev (fun k => impl_wordKey.l0 k (ints (w.take i) ++ List.replicate (w.length - i) 0) (ints w) (w.length : Int) (i : Int)) (strOfNums (ints w)) := by
    intro d
    induction d with
    | zero =>
      intro i hi
      refine Ev.succ ?_
      simp only [impl_wordKey.l0]
      refine Ev.neg (by omega) (Ev.const ?_)
      rw [List.take_of_length_le (by omega), show w.length - i = 0 by omega]
      simp
    | succ d ih =>
      intro i hi
      refine Ev.succ ?_
      simp only [impl_wordKey.l0]
      have h3 : (ints (w.take i) ++ List.replicate (w.length - i) (0 : Int)).length = w.length := by simp; omega
      refine Ev.pos (by omega) (Ev.pos (by omega) (Ev.pos (by omega) (Ev.pos (by omega) ?_)))
      rw [w64' (by omega)]
      have h4 : w[i]'(by omega) < 256 := hw _ (List.getElem_mem _)
      have e : (ints (w.take i) ++ List.replicate (w.length - i) (0 : Int)).set ((i : Int)).toNat (rd (ints w) (i : Int) % 256) = ints (w.take (i + 1)) ++ List.replicate (w.length - (i + 1)) 0 := by
        rw [Int.toNat_natCast, rd_lt _ _ (by omega)]
        have e1 : (ints w)[i]'(by omega) = ((w[i]'(by omega) : Nat) : Int) := by simp [ints]
        rw [e1, show ((w[i]'(by omega) : Nat) : Int) % 256 = ((w[i]'(by omega) : Nat) : Int) by omega]
        rw [List.take_add_one, List.getElem?_eq_getElem (by omega : i < w.length), show w.length - i = (w.length - (i + 1)) + 1 by omega, List.replicate_succ, List.set_append_right _ _ (by simp; omega)]
        have e2 : i - (ints (w.take i)).length = 0 := by rw [ints_length, List.length_take]; omega
        rw [e2, List.set_cons_zero]
        simp only [Option.toList_some, ints_append, List.append_assoc]
        rfl
      rw [e]
      exact ih (i + 1) (by omega)
  simp only [impl_wordKey.f, hlen]
  refine Ev.pos (by omega) (Ev.pos (by omega) ?_)
  have := loop w.length 0 (by omega)
  simpa [ints] using this
/-- the key of a word -/
def keyP (w : List Nat) : List UInt8 := (strOfNums (ints w)).data.toList
theorem keyP_eq (w : List Nat) : keyP w = w.map fun n => UInt8.ofNat n := by
  unfold keyP ints
  rw [strOfNums_data, List.map_map]
  rfl
theorem keyP_inj {u v : List Nat} (hu : ∀ x ∈ u, x < 256) (hv : ∀ x ∈ v, x < 256) (h : keyP u = keyP v) : u = v := by
  rw [keyP_eq, keyP_eq] at h
  induction u generalizing v with
  | nil => cases v with
    | nil => rfl
    | cons b v => simp at h
  | cons a u ih =>
    cases v with
    | nil => simp at h
    | cons b v =>
      rw [List.map_cons, List.map_cons, List.cons.injEq] at h
      have h1 := hu a (by simp)
      have h2 := hv b (by simp)
      have h3 := congrArg UInt8.toNat h.1
      rw [UInt8.toNat_ofNat', UInt8.toNat_ofNat'] at h3
      rw [show a = b by omega, ih (fun x hx => hu x (by simp [hx])) (fun x hx => hv x (by simp [hx])) h.2]
/-- the list as the program keeps it, and the keys seen -/
def clsT (l : List (List Nat × List Nat)) : List S60 := l.map fun p => ⟨ints p.1, ints p.2⟩
def clsN (l : List (List Nat × List Nat)) : List (List UInt8) := (l.map fun p => keyP p.1).reverse
theorem clsT_length (l : List (List Nat × List Nat)) : (clsT l).length = l.length := by simp [clsT]
theorem clsT_at {l : List (List Nat × List Nat)} {i : Nat} (hi : i < l.length) : (clsT l).getD ((i : Int)).toNat ⟨[], []⟩ = ⟨ints (l.getD i ([], [])).1, ints (l.getD i ([], [])).2⟩ := by
  rw [Int.toNat_natCast]
  simp [clsT, List.getD_eq_getElem?_getD, hi]
theorem clsN_mem {n N : Nat} (hn : n ≤ 8) {l : List (List Nat × List Nat)} (hg : Listed n N l) {w : List Nat} (hw : ∀ x ∈ w, x < n) : keyP w ∈ clsN l ↔ w ∈ l.map Prod.fst := by
  unfold clsN
  rw [List.mem_reverse, List.mem_map, List.mem_map]
  constructor
  · rintro ⟨p, hp, e⟩
    exact ⟨p, hp, keyP_inj (fun x hx => by have := (hg p hp).1 x hx; omega) (fun x hx => by have := hw x hx; omega) e⟩
  · rintro ⟨p, hp, e⟩
    exact ⟨p, hp, by rw [e]⟩
theorem clsN_snoc (l : List (List Nat × List Nat)) (p : List Nat × List Nat) : clsN (l ++ [p]) = keyP p.1 :: clsN l := by simp [clsN]
theorem rotated_ev (n : Nat) (hn : n ≤ 8) (f : Nat → Nat → Bool) (w : List Nat) (hl : w.length ≤ 1000) (hw : ∀ x ∈ w, x < n) (a : Nat) (ha : a < n) (h : isFirst f w a = true) : Ev (fun k => impl_ties_rotated.f k (mat n f) (ints w) (a : Int)) (ints (rotP f n w a)) := by
  have he := List.length_erase_of_mem (isFirst_mem f h)
  have h2 : ∀ x ∈ w.erase a ++ [a], x < n := fun x hx => (List.mem_append.1 hx).elim (fun g => hw x (List.mem_of_mem_erase g)) (fun g => by rw [List.mem_singleton.1 g]; exact ha)
  simp only [impl_ties_rotated.f]
  refine Ev.bind (withoutFirst_ev w (by omega) a (isFirst_mem f h)) (Ev.pos (by simp; omega) ?_)
  rw [show ints (w.erase a) ++ [(a : Int)] = ints (w.erase a ++ [a]) by rw [ints_append]; rfl]
  exact Ev.bind (normal_ev n hn f _ (by simp; omega) h2) (Ev.now _)
theorem conj_l1 {n N : Nat} (hn : n ≤ 8) {f : Nat → Nat → Bool} (hs : ∀ a b, f a b = f b a) (hN : N ≤ 1000) (i : Nat) (p : List Nat × List Nat) : ∀ (suf pre : List Nat), (pre ++ suf).length ≤ 1000 → (∀ a ∈ suf, a < n ∧ isFirst f p.1 a = true) → ∀ l : List (List Nat × List Nat), Listed n N l → i < l.length → l.getD i ([], []) = p → l.length ≤ 1000 →
    ∃ res : List S60 × List (List UInt8) × Bool, Ev (fun k => impl_ties_conjugates.l1 k (mat n f) (clsT l) (i : Int) (ints (pre ++ suf)) (pre.length : Int) (clsN l)) res ∧
      (if (clsR f n p suf l).length ≤ 1000 then res = (clsT (clsR f n p suf l), clsN (clsR f n p suf l), false) else 1000 < res.1.length ∧ res.2.2 = true) := by
  intro suf
  induction suf with
  | nil =>
    intro pre hl ha l hg hi hp hl2
    refine ⟨(clsT l, clsN l, false), Ev.succ ?_, ?_⟩
    · simp only [impl_ties_conjugates.l1]
      exact Ev.neg (by simp) (Ev.const rfl)
    · show (if l.length ≤ 1000 then _ else _)
      rw [if_pos hl2]
      rfl
  | cons a suf ih =>
    intro pre hl ha l hg hi hp hl2
    have hl' : pre.length + suf.length + 1 ≤ 1000 := by simpa [Nat.add_assoc] using hl
    have hpg := hg.at hi
    rw [hp] at hpg
    have haf := ha a (by simp)
    have hr := rotated_ev n hn f p.1 (by omega) hpg.1 a haf.1 haf.2
    have hrp := rotP_lt f n hs haf.1 hpg.1 haf.2
    have hk := wordKey_ev (rotP f n p.1 a) (by omega) (fun x hx => by have := hrp.1 x hx; omega)
    have hm := clsN_mem hn hg hrp.1
    have hi2 := clsT_length l
    have eA : (clsT l).getD ((i : Int)).toNat ⟨[], []⟩ = ⟨ints p.1, ints p.2⟩ := by rw [clsT_at hi, hp]
    have pre1 : ∀ l2 res, Ev (fun k => impl_ties_conjugates.l1 k (mat n f) (clsT l2) (i : Int) (ints ((pre ++ [a]) ++ suf)) ((pre ++ [a]).length : Int) (clsN l2)) res → Ev (fun k => impl_ties_conjugates.l1 k (mat n f) (clsT l2) (i : Int) (ints (pre ++ a :: suf)) (wrap64 ((pre.length : Int) + 1)) (clsN l2)) res := by
      intro l2 res h
      rw [w64' (by omega)]
      simp only [List.append_assoc, List.cons_append, List.nil_append] at h
      rw [show (pre ++ [a]).length = pre.length + 1 by simp] at h
      exact h
    rw [clsR_cons]
    by_cases hin : rotP f n p.1 a ∈ l.map Prod.fst
    · have eS : clsS f n p l a = l := by unfold clsS; rw [if_neg (fun h => h.2 hin)]
      rw [eS]
      obtain ⟨res, h1, h2⟩ := ih (pre ++ [a]) (by simpa using hl) (fun b hb => ha b (by simp [hb])) l hg hi hp hl2
      refine ⟨res, Ev.succ ?_, h2⟩
      simp only [impl_ties_conjugates.l1]
      refine Ev.pos (by simp; omega) (Ev.pos (by omega) ?_)
      rw [rd_mid, eA]
      refine Ev.bind hr (Ev.bind hk (Ev.pos (hm.2 hin) (Ev.neg (by omega) (pre1 l res h1))))
    · have eS : clsS f n p l a = l ++ [(rotP f n p.1 a, p.2 ++ [a])] := by unfold clsS; rw [if_pos ⟨haf.2, hin⟩]
      have hg2 := hg.step hs hpg haf.1
      rw [eS] at hg2 ⊢
      have eT : clsT l ++ [(⟨ints (rotP f n p.1 a), ints p.2 ++ [(a : Int)]⟩ : S60)] = clsT (l ++ [(rotP f n p.1 a, p.2 ++ [a])]) := by simp [clsT, ints]
      have eN : (strOfNums (ints (rotP f n p.1 a))).data.toList :: clsN l = clsN (l ++ [(rotP f n p.1 a, p.2 ++ [a])]) := by rw [clsN_snoc]; rfl
      by_cases hc : l.length + 1 ≤ 1000
      · obtain ⟨res, h1, h2⟩ := ih (pre ++ [a]) (by simpa using hl) (fun b hb => ha b (by simp [hb])) (l ++ [(rotP f n p.1 a, p.2 ++ [a])]) hg2 (by simp; omega) (by rw [getD_append_at hi]; exact hp) (by simpa using hc)
        refine ⟨res, Ev.succ ?_, h2⟩
        simp only [impl_ties_conjugates.l1]
        refine Ev.pos (by simp; omega) (Ev.pos (by omega) ?_)
        rw [rd_mid, eA]
        refine Ev.bind hr (Ev.bind hk (Ev.neg (fun h => hin (hm.1 h)) (Ev.pos (by rw [ints_length]; omega) (Ev.neg (by rw [eT, clsT_length, List.length_append, List.length_singleton]; omega) ?_))))
        rw [eT, eN]
        exact pre1 _ res h1
      · have hle := clsR_le f n p suf (l ++ [(rotP f n p.1 a, p.2 ++ [a])])
        rw [List.length_append, List.length_singleton] at hle
        refine ⟨(clsT (l ++ [(rotP f n p.1 a, p.2 ++ [a])]), clsN (l ++ [(rotP f n p.1 a, p.2 ++ [a])]), true), Ev.succ ?_, ?_⟩
        · simp only [impl_ties_conjugates.l1]
          refine Ev.pos (by simp; omega) (Ev.pos (by omega) ?_)
          rw [rd_mid, eA]
          refine Ev.bind hr (Ev.bind hk (Ev.neg (fun h => hin (hm.1 h)) (Ev.pos (by rw [ints_length]; omega) (Ev.pos (by rw [eT, clsT_length, List.length_append, List.length_singleton]; omega) ?_))))
          rw [eT, eN]
          exact Ev.now _
        · rw [if_neg (by omega)]
          exact ⟨by rw [clsT_length, List.length_append, List.length_singleton]; omega, rfl⟩
theorem conj_l0 {n N : Nat} (hn : n ≤ 8) {f : Nat → Nat → Bool} (hs : ∀ a b, f a b = f b a) (hN : N ≤ 1000) : ∀ (k i : Nat), k + i = 1001 → ∀ l : List (List Nat × List Nat), Listed n N l → i ≤ l.length → l.length ≤ 1000 →
    ∃ res : List S60, Ev (fun k => impl_ties_conjugates.l0 k (mat n f) (clsT l) (i : Int) (clsN l)) res ∧ (match clsK f n k l i with | none => 1000 < res.length | some L => res = clsT L) := by
  intro k
  induction k with
  | zero => intro i hk l hg hi hl; omega
  | succ k ih =>
    intro i hk l hg hi hl
    have hlen1 := clsT_length l
    by_cases hc : i < l.length
    · have hpg := hg.at hc
      have hmk := mk_lt n (isFirst f (l.getD i ([], [])).1)
      have h8 : 2 ^ n ≤ 2 ^ 8 := Nat.pow_le_pow_right (by decide) hn
      have e1 := firsts_ev n hn f (l.getD i ([], [])).1 (by omega) hpg.1
      have e2 := members_ev (mk n (isFirst f (l.getD i ([], [])).1)) (by omega)
      have eb : bitsOf (mk n (isFirst f (l.getD i ([], [])).1)) = (List.range n).filter fun a => isFirst f (l.getD i ([], [])).1 a := by
        unfold bitsOf
        rw [show (64 : Nat) = n + (64 - n) by omega, List.range_add, List.filter_append]
        have h2 : List.filter (fun i_1 => (mk n (isFirst f (l.getD i ([], [])).1)).testBit i_1) (List.map (fun x => n + x) (List.range (64 - n))) = [] := by
          rw [List.filter_eq_nil_iff]
          intro x hx
          obtain ⟨y, _, rfl⟩ := List.mem_map.1 hx
          rw [testBit_mk, decide_eq_false (show ¬ n + y < n by omega)]
          simp
        rw [h2, List.append_nil]
        refine List.filter_congr fun a ha => ?_
        rw [testBit_mk]
        simp [List.mem_range.1 ha]
      have hml : ((List.range n).filter fun a => isFirst f (l.getD i ([], [])).1 a).length ≤ 1000 := by
        have := List.length_filter_le (fun a => isFirst f (l.getD i ([], [])).1 a) (List.range n)
        rw [List.length_range] at this
        omega
      obtain ⟨res, h1, h2⟩ := conj_l1 hn hs hN i (l.getD i ([], [])) ((List.range n).filter fun a => isFirst f (l.getD i ([], [])).1 a) [] hml (fun a ha => ⟨List.mem_range.1 (List.mem_filter.1 ha).1, (List.mem_filter.1 ha).2⟩) l hg hc rfl hl
      rw [clsR_filter] at h2
      simp only [List.nil_append, List.length_nil] at h1
      have hstart : ∀ r, (res.2.2 = true → r = res.1) → (res.2.2 = false → Ev (fun k => impl_ties_conjugates.l0 k (mat n f) res.1 ((i + 1 : Nat) : Int) res.2.1) r) → Ev (fun k => impl_ties_conjugates.l0 k (mat n f) (clsT l) (i : Int) (clsN l)) r := by
        intro r g1 g2
        refine Ev.succ ?_
        simp only [impl_ties_conjugates.l0]
        refine Ev.pos (by omega) (Ev.pos (by omega) ?_)
        rw [clsT_at hc]
        refine Ev.bind e1 (Ev.bind e2 (Ev.bind (by rw [show intsOf (mk n (isFirst f (l.getD i ([], [])).1)) = ints (bitsOf (mk n (isFirst f (l.getD i ([], [])).1))) from rfl, eb]; exact h1) ?_))
        cases hb : res.2.2 with
        | true => exact Ev.pos rfl (by rw [g1 hb]; exact Ev.now _)
        | false =>
          refine Ev.neg (by simp) ?_
          rw [w64' (by omega)]
          exact g2 hb
      simp only [clsK, if_pos hc]
      by_cases hq : (clsR f n (l.getD i ([], [])) (List.range n) l).length ≤ 1000
      · rw [if_pos hq] at h2 ⊢
        have hle := clsR_le f n (l.getD i ([], [])) (List.range n) l
        obtain ⟨r, h3, h4⟩ := ih (i + 1) (by omega) _ (hg.rounds hs _ l hpg (fun a ha => List.mem_range.1 ha)) (by omega) hq
        subst h2
        exact ⟨r, hstart r (fun h => by cases h) (fun _ => h3), h4⟩
      · rw [if_neg hq] at h2 ⊢
        exact ⟨res.1, hstart res.1 (fun _ => rfl) (fun h => by rw [h2.2] at h; cases h), h2.1⟩
    · refine ⟨clsT l, Ev.succ ?_, ?_⟩
      · simp only [impl_ties_conjugates.l0]
        exact Ev.neg (by omega) (Ev.now _)
      · simp only [clsK, if_neg hc]
theorem conj_ev {n : Nat} (hn : n ≤ 8) {f : Nat → Nat → Bool} (hs : ∀ a b, f a b = f b a) {w : List Nat} (hl : w.length ≤ 1000) (hw : ∀ x ∈ w, x < n) :
    ∃ res : List S60, Ev (fun k => impl_ties_conjugates.f k (mat n f) (ints w)) res ∧ (match clsP f n w with | none => 1000 < res.length | some L => res = clsT L) := by
  obtain ⟨res, h1, h2⟩ := conj_l0 hn hs hl 1001 0 rfl _ (found_first hs hw) (by simp) (by simp)
  refine ⟨res, ?_, h2⟩
  simp only [impl_ties_conjugates.f]
  refine Ev.bind (normal_ev n hn f w (by omega) hw) (Ev.bind (wordKey_ev _ (by rw [normalP_length f hs hw]; omega) (fun x hx => by have := normalP_lt f hs hw x hx; omega)) ?_)
  exact h1
theorem idx_find (w : List Nat) (l : List (List Nat × List Nat)) : ((clsT l).find? fun c => decide (c.f0 = ints w)) = (l.find? fun p => decide (p.1 = w)).map fun p => ⟨ints p.1, ints p.2⟩ := by
  unfold clsT
  rw [List.find?_map]
  congr 1
  refine congrArg (fun q => l.find? q) (funext fun p => ?_)
  show decide (ints p.1 = ints w) = decide (p.1 = w)
  rw [decide_eq_decide]
  exact ⟨ints_inj, fun h => by rw [h]⟩
/-- the program's list, and its code -/
theorem checkConj_ev {n : Nat} (hn : n ≤ 8) {f : Nat → Nat → Bool} (hs : ∀ a b, f a b = f b a) {u v : List Nat} (hl : u.length ≤ 1000) (hu : ∀ x ∈ u, x < n) (hk : Ev (fun k => impl_checkWords.f k (n : Int) (mat n f) [ints u, ints v]) 0) :
    Ev (fun k => impl_checkConjugates.f k (n : Int) (mat n f) (ints u) [ints v]) (match clsP f n u with | none => ([], 3) | some L => (clsT L, 0)) := by
  simp only [impl_checkConjugates.f, impl_Alphabet_ties.f]
  obtain ⟨res, h1, h2⟩ := conj_ev hn hs hl hu
  refine Ev.some_bind (Ev.pos (by simp) (Ev.bind hk (Ev.pos rfl (Ev.some_bind (Ev.bind h1 ?_)))))
  cases hc : clsP f n u with
  | none =>
    rw [hc] at h2
    exact Ev.pos (by simp only [] at h2; omega) (Ev.now _)
  | some L =>
    rw [hc] at h2
    simp only [] at h2
    subst h2
    have := (clsK_found hs 1001 0 _ L (found_first hs hu) (by simp) hc).2
    exact Ev.neg (by rw [clsT_length]; omega) (Ev.now _)
theorem checkConj_bad {n : Int} {D l1 l2 : List Int} {c : Int} (h0 : c ≠ 0) (hk : Ev (fun k => impl_checkWords.f k n D [l1, l2]) c) : Ev (fun k => impl_checkConjugates.f k n D l1 [l2]) ([], c) := by
  simp only [impl_checkConjugates.f]
  exact Ev.some_bind (Ev.pos (by simp) (Ev.bind hk (Ev.neg h0 (Ev.now _))))
/-- whether it is there -/
theorem specAre_ev {n : Nat} (hn : n ≤ 8) {f : Nat → Nat → Bool} (hs : ∀ a b, f a b = f b a) {u v : List Nat} (hl : u.length ≤ 1000) (hu : ∀ x ∈ u, x < n) (hl2 : v.length ≤ 1000) (hv : ∀ x ∈ v, x < n) (hc : Ev (fun k => spec_l03Code.f k (n : Int) (mat n f) (ints u) (ints v)) 0) :
    Ev (fun k => spec_AreConjugate.f k (n : Int) (mat n f) (ints u) (ints v)) (match clsP f n u with | none => (false, 3) | some L => (decide (normalP f n v ∈ L.map Prod.fst), 0)) := by
  simp only [spec_AreConjugate.f]
  refine Ev.bind hc (Ev.pos rfl (Ev.bind (l07Class_ev hn hs hl hu) ?_))
  cases hq : clsP f n u with
  | none => exact Ev.neg (by simp [clsOut]) (Ev.now _)
  | some L =>
    have hL := clsK_found hs 1001 0 _ L (found_first hs hu) (by simp) hq
    obtain ⟨r, h1, h2⟩ := clsFind_ev hL.1 hl hL.2 (normalP f n v)
    refine Ev.pos rfl (Ev.bind (l03Normal_ev n (by omega) f v (by omega) hv) (Ev.bind h1 (Ev.const ?_)))
    show some (decide (r ≥ 0), (0 : Int)) = some (decide (normalP f n v ∈ L.map Prod.fst), 0)
    rcases h2 with h2 | h2
    · rw [decide_eq_false (by omega), decide_eq_false h2.2]
    · rw [decide_eq_true (by omega), decide_eq_true h2.2]
end Go.Proofs.YtinkolnhpgilpaaDoor.PAll
