import Derived.Test.YtfldlkeabglnfaaDoorPAllx1
import Derived.Test.YtfldlkeabglnfaaDoorPAllx2
import Derived.Test.YtfldlkeabglnfaaDoorPAllx3
import Derived.Test.YtfldlkeabglnfaaDoorPAllx4
import Derived.Test.YtfldlkeabglnfaaDoorPAllx5
import Derived.Test.YtfldlkeabglnfaaDoorV0
import Derived.Test.YtfldlkeabglnfaaDoorQBase
import Derived.Test.YtfldlkeabglnfaaDoorQFoata
import Derived.Test.YtfldlkeabglnfaaDoorQMask
import Derived.Test.YtfldlkeabglnfaaDoorQMeet
import Derived.Test.YtfldlkeabglnfaaDoorQOrder
import Derived.Test.YtfldlkeabglnfaaDoorQRev
import Derived.Test.YtfldlkeabglnfaaDoorQTab
import Derived.Test.YtfldlkeabglnfaaDoorQTrace
set_option linter.unusedVariables false
set_option linter.unusedSimpArgs false
namespace Go.Proofs.YtfldlkeabglnfaaDoor.PAll
open Go.RowKit Go.Proofs.YtfldlkeabglnfaaDoorW.PrintWords Go.Proofs.YtfldlkeabglnfaaDoorW.PrintMore Go.Proofs.YtfldlkeabglnfaaDoor.Q
theorem toInt64S_l0 (x : List Int) (hx : x.length ≤ 17592186044416) : ∀ (d i : Nat) (acc : List Int), i + d = x.length → acc.length = x.length → (∀ j, j < i → acc[j]? = x[j]?) →
  Ev (fun k => laws_toInt64S.l0 k x acc i) x := by
 intro d
 induction d with
 | zero =>
  intro i acc hi hl hp
  refine Ev.succ ?_
  simp only [laws_toInt64S.l0]
  refine Ev.neg (by omega) (Ev.const ?_)
  congr 1
  apply List.ext_getElem? 
  intro j
  by_cases hj : j < i
  ·exact hp j hj
  ·rw [List.getElem?_eq_none (by omega), List.getElem?_eq_none (by omega)]
 | succ d ih =>
  intro i acc hi hl hp
  refine Ev.succ ?_
  simp only [laws_toInt64S.l0]
  refine Ev.pos (by omega) (Ev.pos (by omega) (Ev.pos (by omega) ?_))
  rw [w64' (by omega)]
  refine Ev.congr (fun k => ?_) (ih (i + 1) (acc.set i x[i]) (by omega) (by simpa using hl) ?_)
  ·rw [rd_lt x i (by omega)]
   simp
  ·intro j hj
   by_cases e : j = i
   ·subst e
    simp [hl, show j < x.length by omega]
   ·rw [List.getElem?_set_ne (by omega)]
    exact hp j (by omega)

theorem toInt64S_ev (x : List Int) (hx : x.length ≤ 17592186044416) : Ev (fun k => laws_toInt64S.f k x) x := by
 simp only [laws_toInt64S.f]
 refine Ev.pos (by omega) (Ev.pos (by omega) ?_)
 exact toInt64S_l0 x hx x.length 0 _ (by omega) (by simp) (by intro j hj; omega)
theorem eqInt64S_l0 (x : List Int) (hx : x.length ≤ 17592186044416) : ∀ (d i : Nat), i + d = x.length → Ev (fun k => laws_eqInt64S.l0 k x x i) true := by
 intro d
 induction d with
 | zero =>
  intro i hi
  refine Ev.succ ?_
  simp only [laws_eqInt64S.l0]
  exact Ev.neg (by omega) (Ev.now _)
 | succ d ih =>
  intro i hi
  refine Ev.succ ?_
  simp only [laws_eqInt64S.l0]
  refine Ev.pos (by omega) (Ev.pos (by omega) (Ev.pos (by omega) (Ev.pos (by simp) ?_)))
  rw [w64' (by omega)]
  exact ih (i + 1) (by omega)

theorem eqInt64S_ev (x : List Int) (hx : x.length ≤ 17592186044416) : Ev (fun k => laws_eqInt64S.f k x x) true := by
 simp only [laws_eqInt64S.f]
 exact Ev.pos (by simp) (eqInt64S_l0 x hx x.length 0 (by omega))
theorem markInt64S_l0 : ∀ (d i : Nat) (x : List Int) (c : Int), i + d = x.length → x.length ≤ 17592186044416 → 0 ≤ c → c + d ≤ 9000000000000000000 →
  Ev (fun k => laws_markInt64S.l0 k x c i) (c + d, marks x i c) := by
 intro d
 induction d with
 | zero =>
  intro i x c hi hx h0 h1
  refine Ev.succ ?_
  simp only [laws_markInt64S.l0]
  refine Ev.neg (by omega) (Ev.const ?_)
  simp [marks, show x.length - i = 0 by omega, List.take_of_length_le (show x.length ≤ i by omega)]
 | succ d ih =>
  intro i x c hi hx h0 h1
  refine Ev.succ ?_
  simp only [laws_markInt64S.l0]
  refine Ev.pos (by omega) (Ev.pos (by omega) ?_)
  rw [w64' (by omega), w64' (by omega)]
  refine Ev.val (ih (i + 1) (x.set i c) (c + 1) (by simpa using (by omega : i + 1 + d = x.length)) (by simpa using hx) (by omega) (by omega)) ?_
  rw [marks_set x i c (by omega)]
  congr 1
  omega

theorem markInt64S_ev (x : List Int) (c : Int) (hx : x.length ≤ 17592186044416) (h0 : 0 ≤ c) (h1 : c ≤ 8000000000000000000) : Ev (fun k => laws_markInt64S.f k x c) (c + x.length, marks x 0 c) := by
 simp only [laws_markInt64S.f]
 exact markInt64S_l0 x.length 0 x c (by omega) hx h0 (by omega)
theorem heldInt64S_l0 (y : List Int) (c0 : Int) (h0 : 0 ≤ c0) (h1 : c0 + y.length ≤ 8000000000000000000) (hy : ∀ j, j < y.length → rd y (j : Int) = c0 + j) : ∀ (d i : Nat), i + d = y.length →
  Ev (fun k => laws_heldInt64S.l0 k y (c0 + i) i) (c0 + y.length) := by
 intro d
 induction d with
 | zero =>
  intro i hi
  refine Ev.succ ?_
  simp only [laws_heldInt64S.l0]
  refine Ev.neg (by omega) (Ev.const ?_)
  congr 1
  omega
 | succ d ih =>
  intro i hi
  refine Ev.succ ?_
  simp only [laws_heldInt64S.l0]
  refine Ev.pos (by omega) (Ev.pos (by omega) (Ev.pos (hy i (by omega)) ?_))
  rw [w64' (by omega), w64' (by omega)]
  have := ih (i + 1) (by omega)
  rw [show c0 + (i : Int) + 1 = c0 + ((i + 1 : Nat) : Int) by omega, show (i : Int) + 1 = ((i + 1 : Nat) : Int) by omega]
  exact this

theorem heldInt64S_ev (x : List Int) (c : Int) (h0 : 0 ≤ c) (h1 : c + x.length ≤ 8000000000000000000) : Ev (fun k => laws_heldInt64S.f k (marks x 0 c) c) (c + x.length) := by
 simp only [laws_heldInt64S.f]
 have hl := marks_length x 0 c (Nat.zero_le _)
 have h := heldInt64S_l0 (marks x 0 c) c h0 (by omega) (fun j hj => by rw [rd_lt _ _ hj]; simp [marks]) (marks x 0 c).length 0 (by omega)
 rw [hl] at h
 simpa using h
theorem szInt64S_eq (l : List Int) (a : Int) (h0 : 0 ≤ a) (h1 : a ≤ 1048576) (hl : l.length ≤ 9223372036854775807) : laws_szInt64S.f l a = some (if (l.length : Int) ≤ a then a - (l.length : Int) else -1) := by
 unfold laws_szInt64S.f
 rw [w64 (by omega) (by omega)]
 by_cases h : (l.length : Int) ≤ a
 ·rw [if_pos h, if_neg (by omega)]
 ·rw [if_neg h, if_pos (by omega)]
theorem szAlphabet_eq (n : Int) (l : List Int) (a : Int) (h0 : 0 ≤ a) (h1 : a ≤ 1048576) (hl : l.length ≤ 9223372036854775807) : laws_szAlphabet.f n l a = some (if (l.length : Int) ≤ a then a - (l.length : Int) else -1) := by
 unfold laws_szAlphabet.f
 rw [szInt64S_eq l a h0 h1 hl]
 simp only [Option.bind_some]
 by_cases h : (l.length : Int) ≤ a
 ·rw [if_pos h, if_neg (by omega)]
 ·rw [if_neg h, if_pos (by omega)]
theorem toAlphabet_ev (n : Int) (l : List Int) (hl : l.length ≤ 17592186044416) : Ev (fun k => laws_toAlphabet.f k n l) (n, l) := by
 simp only [laws_toAlphabet.f]
 exact Ev.bind (toInt64S_ev l hl) (Ev.now _)
theorem eqAlphabet_ev (n : Int) (l : List Int) (hl : l.length ≤ 17592186044416) : Ev (fun k => laws_eqAlphabet.f k n l n l) true := by
 simp only [laws_eqAlphabet.f]
 exact Ev.pos (by simp) (Ev.bind (eqInt64S_ev l hl) (Ev.pos rfl (Ev.now _)))
theorem markAlphabet_ev (n : Int) (l : List Int) (c : Int) (hl : l.length ≤ 17592186044416) (h0 : 0 ≤ c) (h1 : c ≤ 8000000000000000000) : Ev (fun k => laws_markAlphabet.f k n l c) (c + l.length, marks l 0 c) := by
 simp only [laws_markAlphabet.f]
 exact Ev.bind (markInt64S_ev l c hl h0 h1) (Ev.now _)
theorem l01In_eq (a lo hi : Int) : spec_l01In.f a lo hi = some (decide (lo ≤ a ∧ a ≤ hi)) := by
 unfold spec_l01In.f
 by_cases h : lo ≤ a
 ·rw [if_pos h]; simp [h]
 ·rw [if_neg h]; simp [h]
theorem inRange_eq (a lo hi : Int) : impl_inRange.f a lo hi = some (decide (lo ≤ a ∧ a ≤ hi)) := by
 unfold impl_inRange.f
 by_cases h : lo ≤ a
 ·rw [if_pos h]; simp [h]
 ·rw [if_neg h]; simp [h]
theorem l01One_eq (n : Nat) (h : n ≤ 61) : spec_l01One.f (n : Int) = some ((2 ^ n : Nat) : Int) := by
 unfold spec_l01One.f
 rw [u64_nat n (by omega), if_pos (by omega), shl_one n h]
theorem l01Full_eq (n : Nat) (h : n ≤ 61) : spec_l01Full.f (n : Int) = some ((2 ^ n - 1 : Nat) : Int) := by
 unfold spec_l01Full.f
 rw [l01One_eq n h]
 have h1 : 0 < 2 ^ n := Nat.two_pow_pos n
 have h2 : (2 : Nat) ^ n ≤ 2 ^ 61 := Nat.pow_le_pow_right (by decide) h
 simp only [Option.bind_some]
 rw [w64' (by omega)]
 congr 1
 omega
theorem l01Bit_eq (m i : Nat) (hm : m < 2 ^ 62) (h : i ≤ 64) : spec_l01Bit.f (m : Int) (i : Int) = some (m.testBit i) := by
 unfold spec_l01Bit.f
 rw [u64_nat i (by omega), if_pos (by omega), bit_at m i hm h]
theorem one_eq (n : Nat) (h : n ≤ 61) : impl_one.f (n : Int) = some ((2 ^ n : Nat) : Int) := by
 unfold impl_one.f
 rw [if_pos (by omega), shl_one n h]
theorem has_eq (m i : Nat) (hm : m < 2 ^ 62) (h : i ≤ 64) : impl_has.f (m : Int) (i : Int) = some (m.testBit i) := by
 unfold impl_has.f
 rw [if_pos (by omega), bit_at m i hm h]
theorem least_eq (m : Nat) (hm : m < 2 ^ 62) : impl_least.f (m : Int) = some ((Lib.ctz 64 m : Nat) : Int) := by
 unfold impl_least.f bits_TrailingZeros64.f
 rw [u64_nat m (by omega), if_pos (by omega), Int.toNat_natCast]
 rfl
theorem members_l0 : ∀ (N m : Nat) (acc : List Int), m ≤ N → m < 2 ^ 62 → acc.length + (bitsOf m).length ≤ 1000 → Ev (fun k => impl_members.l0 k (m : Int) acc) (acc ++ intsOf m) := by
 intro N
 induction N with
 | zero =>
  intro m acc hN hm hl
  obtain rfl : m = 0 := by omega
  refine Ev.succ ?_
  simp only [impl_members.l0]
  refine Ev.pos (by simp) (Ev.const ?_)
  simp [intsOf, bitsOf_zero]
 | succ N ih =>
  intro m acc hN hm hl
  refine Ev.succ ?_
  simp only [impl_members.l0]
  by_cases h0 : m = 0
  ·subst h0
   refine Ev.pos (by simp) (Ev.const ?_)
   simp [intsOf, bitsOf_zero]
  ·rw [bitsOf_cons m h0 (by omega)] at hl
   simp only [List.length_cons] at hl
   refine Ev.neg (by omega) ?_
   rw [least_eq m hm]
   refine Ev.some_bind (Ev.pos (by omega) ?_)
   have hlt := and_pred_lt m h0
   rw [w64' (by omega), show (m : Int) - 1 = ((m - 1 : Nat) : Int) by omega, b_and m (m - 1) hm (by omega)]
   refine Ev.val (ih (m &&& (m - 1)) (acc ++ [((Lib.ctz 64 m : Nat) : Int)]) (by omega) (by omega) (by simp; omega)) ?_
   unfold intsOf
   rw [bitsOf_cons m h0 (by omega)]
   simp
theorem bitsOf_length (m : Nat) : (bitsOf m).length ≤ 64 := by
 unfold bitsOf
 have := List.length_filter_le (fun i => m.testBit i) (List.range 64)
 simpa using this
theorem members_ev (m : Nat) (hm : m < 2 ^ 62) : Ev (fun k => impl_members.f k (m : Int)) (intsOf m) := by
 simp only [impl_members.f]
 exact Ev.val (members_l0 m m [] (Nat.le_refl _) hm (by have := bitsOf_length m; simp; omega)) (by simp)
theorem l01Masks_l0 (n : Nat) (hn : n ≤ 61) (l : List Int) (hl : l.length ≤ 17592186044416) : ∀ (d i : Nat), i + d = l.length → (∀ j (h : j < l.length), j < i → 0 ≤ l[j] ∧ l[j] ≤ ((2 ^ n - 1 : Nat) : Int)) →
  Ev (fun k => spec_l01Masks.l0 k (n : Int) l i) (decide (∀ x ∈ l, 0 ≤ x ∧ x ≤ ((2 ^ n - 1 : Nat) : Int))) := by
 intro d
 induction d with
 | zero =>
  intro i hi hp
  refine Ev.succ ?_
  simp only [spec_l01Masks.l0]
  refine Ev.neg (by omega) (Ev.const ?_)
  rw [decide_eq_true fun x hx => ?_]
  obtain ⟨j, hj, rfl⟩ := List.getElem_of_mem hx
  exact hp j hj (by omega)
 | succ d ih =>
  intro i hi hp
  refine Ev.succ ?_
  simp only [spec_l01Masks.l0, l01Full_eq n hn, l01In_eq]
  refine Ev.pos (by omega) (Ev.pos (by omega) (Ev.some_bind (Ev.some_bind ?_)))
  rw [rd_lt l i (by omega)]
  simp only [decide_eq_true_eq]
  refine Ev.ite (fun c => ?_) (fun c => ?_)
  ·rw [w64' (by omega)]
   refine ih (i + 1) (by omega) (fun j h hji => ?_)
   by_cases e : j = i
   ·subst e; exact c
   ·exact hp j h (by omega)
  ·refine Ev.const ?_
   rw [decide_eq_false fun h => c (h _ (List.getElem_mem (by omega)))]
theorem l01Masks_ev (n : Nat) (hn : n ≤ 61) (l : List Int) (hl : l.length ≤ 17592186044416) : Ev (fun k => spec_l01Masks.f k (n : Int) l) (decide (∀ x ∈ l, 0 ≤ x ∧ x ≤ ((2 ^ n - 1 : Nat) : Int))) := by
 simp only [spec_l01Masks.f]
 exact l01Masks_l0 n hn l hl l.length 0 (by omega) (by intro j h hj; omega)
theorem l02Is_loop (m : Nat) (hm : m ≤ 8) (f : Nat → Nat → Bool) : ∀ (d a : Nat), a + d = m → (∀ i, i < a → f i i = true ∧ ∀ k, k < m → f i k = f k i) →
  Ev (fun k => spec_l02Is.l0 k (a : Int) (m : Int) (mat m f)) (decide (∀ i, i < m → f i i = true ∧ ∀ k, k < m → f i k = f k i)) := by
 intro d
 induction d with
 | zero =>
  intro a ha hp
  refine Ev.succ ?_
  simp only [spec_l02Is.l0]
  refine Ev.neg (by omega) (Ev.const ?_)
  rw [decide_eq_true fun i hi => hp i (by omega)]
 | succ d ih =>
  intro a ha hp
  have hb : ∀ i k, i < m → k < m → spec_l01Bit.f (rd (mat m f) (i : Int)) (k : Int) = some (f i k) := fun i k hi hk => by
   rw [rd_mat m f i hi, l01Bit_eq _ k (by have := mk_lt m (f i); have := pow24 (show m ≤ 24 by omega); omega) (by omega), testBit_mk]
   simp [hk]
  refine Ev.succ ?_
  simp only [spec_l02Is.l0]
  refine Ev.pos (by omega) (Ev.pos (by omega) (Ev.pos (by simp; omega) ?_))
  rw [hb a a (by omega) (by omega)]
  refine Ev.some_bind ?_
  by_cases c : f a a = true
  ·refine Ev.pos c ?_
   have inner : ∀ (e b : Nat), b + e = m → (∀ k, k < b → f a k = f k a) → Ev (fun k => spec_l02Is.l1 k (a : Int) (b : Int) (m : Int) (mat m f)) (decide (∀ i, i < m → f i i = true ∧ ∀ k, k < m → f i k = f k i)) := by
    intro e
    induction e with
    | zero =>
     intro b hbe hq
     refine Ev.succ ?_
     simp only [spec_l02Is.l1]
     refine Ev.neg (by omega) ?_
     rw [w64' (by omega)]
     refine ih (a + 1) (by omega) (fun i hi => ?_)
     by_cases e : i = a
     ·subst e; exact ⟨c, fun k hk => hq k (by omega)⟩
     ·exact hp i (by omega)
    | succ e ihe =>
     intro b hbe hq
     refine Ev.succ ?_
     simp only [spec_l02Is.l1]
     refine Ev.pos (by omega) (Ev.pos (by omega) (Ev.pos (by simp; omega) ?_))
     rw [hb a b (by omega) (by omega)]
     refine Ev.some_bind (Ev.pos (by omega) (Ev.pos (by simp; omega) ?_))
     rw [hb b a (by omega) (by omega)]
     refine Ev.some_bind ?_
     by_cases g : f a b = f b a
     ·refine Ev.neg (by rw [g]; simp) ?_
      rw [w64' (by omega)]
      refine ihe (b + 1) (by omega) (fun k hk => ?_)
      by_cases e : k = b
      ·subst e; exact g
      ·exact hq k (by omega)
     ·refine Ev.pos (by simpa using g) (Ev.const ?_)
      rw [decide_eq_false fun h => g ((h a (by omega)).2 b (by omega))]
   exact inner m 0 (by omega) (by intro k hk; omega)
  ·refine Ev.neg c (Ev.const ?_)
   rw [decide_eq_false fun h => c (h a (by omega)).1]
theorem l02Is_ev (n : Int) (D : List Int) : Ev (fun k => spec_l02Is.f k n D) (decide (Alpha n D)) := by
 have hj : ∀ n D, ¬ Alpha n D → Ev (fun k => spec_l02Is.j0 k true n D) (decide (Alpha n D)) := fun n D h => by
  refine Ev.succ ?_
  simp only [spec_l02Is.j0]
  exact Ev.pos (by simp) (Ev.const (by rw [decide_eq_false h]))
 simp only [spec_l02Is.f, l01In_eq]
 refine Ev.some_bind ?_
 simp only [decide_eq_true_eq]
 refine Ev.ite (fun c1 => ?_) (fun c1 => hj n D fun h => c1 h.1)
 refine Ev.ite (fun c2 => ?_) (fun c2 => hj n D fun h => c2 h.2.1)
 obtain ⟨m, rfl⟩ := Int.eq_ofNat_of_zero_le c1.1
 have hl : D.length = m := by omega
 have h1 : 0 < 2 ^ m := Nat.two_pow_pos m
 refine Ev.bind (l01Masks_ev m (by omega) D (by omega)) ?_
 refine Ev.succ ?_
 simp only [spec_l02Is.j0]
 by_cases c3 : ∀ x ∈ D, 0 ≤ x ∧ x ≤ ((2 ^ m - 1 : Nat) : Int)
 ·have c3' : ∀ x ∈ D, 0 ≤ x ∧ x < ((2 ^ D.length : Nat) : Int) := fun x hx => by have := c3 x hx; rw [hl]; omega
  have e : D = mat m (bitR D) := by have := eq_mat D c3'; rwa [hl] at this
  refine Ev.neg (by simpa using c3) ?_
  have := l02Is_loop m (by omega) (bitR D) m 0 (by omega) (by intro i hi; omega)
  rw [← e] at this
  refine Ev.val this ?_
  rw [decide_eq_decide]
  exact ⟨fun h => ⟨c1, c2, c3', fun a ha => ⟨(h a (by omega)).1, fun b hb => (h a (by omega)).2 b (by omega)⟩⟩, fun h a ha => ⟨(h.2.2.2 a (by omega)).1, fun b hb => (h.2.2.2 a (by omega)).2 b (by omega)⟩⟩
 ·refine Ev.pos (by simpa using c3) (Ev.const ?_)
  rw [decide_eq_false fun h => c3 fun x hx => ?_]
  have := h.2.2.1 x hx
  rw [hl] at this
  omega
theorem IsRelation_eq (r : List Int) : impl_IsRelation.f r = some (decide (r.length ≤ 24 ∧ ∀ x ∈ r, 0 ≤ x ∧ x < ((2 ^ r.length : Nat) : Int))) := by
 unfold impl_IsRelation.f
 by_cases h : r.length ≤ 24
 ·have h1 : 0 < 2 ^ r.length := Nat.two_pow_pos _
  have h2 := pow24 h
  rw [if_pos (by omega)]
  simp only [impl_length_int64.f, Option.bind_some, one_eq r.length (by omega), impl_allIn.f]
  rw [w64' (by omega)]
  congr 1
  rw [Bool.eq_iff_iff]
  simp only [List.all_eq_true, decide_eq_true_eq]
  exact ⟨fun g => ⟨h, fun x hx => by have := g x hx; omega⟩, fun g x hx => by have := g.2 x hx; omega⟩
 ·rw [if_neg (by omega)]
  congr 1
  symm
  rw [decide_eq_false fun g => h g.1]
/-- one round for each row: bit i of the k-th mask -/
theorem converse_l1 (n : Nat) (hn : n ≤ 24) (r : List Int) (i : Nat) (hi : i < n) (L : Int) (R : List Int) (ms : List Nat) (hml : ms.length ≤ 64) (hms : ∀ x ∈ ms, x < n) :
  ∀ (d j : Nat) (g : Nat → Nat → Bool), j + d = ms.length → (Ev (fun k => impl_converse.l0 k (mat n fun a b => g a b || (decide (b = i) && decide (a ∈ ms.drop j))) r L ((i + 1 : Nat) : Int)) R) →
  Ev (fun k => impl_converse.l1 k (mat n g) (i : Int) r L (i : Int) (ints ms) (ms.length : Int) (j : Int)) R := by
 intro d
 induction d with
 | zero =>
  intro j g hj hR
  refine Ev.succ ?_
  simp only [impl_converse.l1]
  refine Ev.neg (by omega) ?_
  rw [w64' (by omega)]
  rw [List.drop_of_length_le (by omega)] at hR
  simpa using hR
 | succ d ih =>
  intro j g hj hR
  have hj' : j < ms.length := by omega
  have hx := hms _ (List.getElem_mem hj')
  refine Ev.succ ?_
  simp only [impl_converse.l1]
  refine Ev.pos (by omega) (Ev.pos (by omega) (Ev.pos (by simp; omega) ?_))
  rw [rd_ints ms j hj']
  refine Ev.pos (by omega) (Ev.pos (by simp; omega) ?_)
  rw [one_eq i (by omega), rd_mat n g _ hx]
  refine Ev.some_bind ?_
  have hg := mk_lt n (g ms[j])
  have h24 := pow24 hn
  have hp : (2 : Nat) ^ i < 2 ^ n := Nat.pow_lt_pow_right (by decide) hi
  rw [b_or _ _ (by omega) (by omega), w64' (by omega)]
  have e : (mat n g).set ((ms[j] : Int)).toNat (((mk n (g ms[j]) ||| 2 ^ i : Nat)) : Int) = mat n fun a b => g a b || (decide (b = i) && decide (a = ms[j])) := by
   rw [Int.toNat_natCast]
   apply List.ext_getElem
   ·simp
   ·intro q h1 h2
    have hq : q < n := by simpa using h1
    rw [List.getElem_set]
    by_cases e : ms[j] = q
    ·rw [if_pos e]
     simp only [mat, List.getElem_map, List.getElem_range]
     congr 1
     refine bits_ext fun b => ?_
     rw [Nat.testBit_or, testBit_mk, testBit_mk, testBit_one, ← e]
     by_cases hb : b = i
     ·subst hb; simp [hi]
     ·simp [hb, show ¬ i = b from fun h => hb h.symm]
    ·rw [if_neg e]
     simp only [mat, List.getElem_map, List.getElem_range]
     congr 1
     exact mk_congr fun b _ => by simp [show ¬ q = ms[j] from fun h => e h.symm]
  rw [e]
  refine ih (j + 1) _ (by omega) ?_
  have e2 : (fun a b => (g a b || (decide (b = i) && decide (a = ms[j]))) || (decide (b = i) && decide (a ∈ ms.drop (j + 1)))) = fun a b => g a b || (decide (b = i) && decide (a ∈ ms.drop j)) := by
   funext a b
   have hm : a ∈ ms.drop j ↔ a = ms[j] ∨ a ∈ ms.drop (j + 1) := by rw [List.drop_eq_getElem_cons hj', List.mem_cons]
   rw [Bool.eq_iff_iff]
   simp only [Bool.or_eq_true, Bool.and_eq_true, decide_eq_true_eq, hm]
   constructor
   ·rintro ((h | ⟨h1, h2⟩) | ⟨h1, h2⟩)
    ·exact .inl h
    ·exact .inr ⟨h1, .inl h2⟩
    ·exact .inr ⟨h1, .inr h2⟩
   ·rintro (h | ⟨h1, h2 | h2⟩)
    ·exact .inl (.inl h)
    ·exact .inl (.inr ⟨h1, h2⟩)
    ·exact .inr ⟨h1, h2⟩
  rw [e2]
  exact hR
theorem converse_l0 (n : Nat) (hn : n ≤ 24) (f : Nat → Nat → Bool) : ∀ (d i : Nat), i + d = n →
  Ev (fun k => impl_converse.l0 k (mat n fun a b => decide (b < i) && f b a) (mat n f) (n : Int) (i : Int)) (mat n fun a b => f b a) := by
 intro d
 induction d with
 | zero =>
  intro i hi
  refine Ev.succ ?_
  simp only [impl_converse.l0]
  refine Ev.neg (by omega) (Ev.const ?_)
  congr 1
  exact mat_congr fun a b ha hb => by simp [show b < i by omega]
 | succ d ih =>
  intro i hi
  refine Ev.succ ?_
  simp only [impl_converse.l0]
  refine Ev.pos (by omega) (Ev.pos (by omega) (Ev.pos (by simp; omega) ?_))
  have hlt := mk_lt n (f i)
  have h24 := pow24 hn
  have hmem : ∀ x, x ∈ bitsOf (mk n (f i)) ↔ x < n ∧ f i x = true := fun x => by
   rw [mem_bitsOf (by omega), testBit_mk]; simp
  refine Ev.bind (by rw [rd_mat n f i (by omega)]; exact members_ev _ (by omega)) ?_
  have := converse_l1 n hn (mat n f) i (by omega) (n : Int) (mat n fun a b => f b a) (bitsOf (mk n (f i))) (bitsOf_length _) (fun x hx => ((hmem x).1 hx).1) (bitsOf (mk n (f i))).length 0 (fun a b => decide (b < i) && f b a) (by omega) ?_
  ·have e : intsOf (mk n (f i)) = ints (bitsOf (mk n (f i))) := rfl
   rw [e, ints_length]
   exact this
  ·rw [List.drop_zero]
   have e : (mat n fun a b => decide (b < i) && f b a || (decide (b = i) && decide (a ∈ bitsOf (mk n (f i))))) = mat n fun a b => decide (b < i + 1) && f b a := by
    refine mat_congr fun a b ha hb => ?_
    rw [Bool.eq_iff_iff]
    simp only [Bool.or_eq_true, Bool.and_eq_true, decide_eq_true_eq, hmem]
    constructor
    ·rintro (⟨h1, h2⟩ | ⟨rfl, _, h2⟩)
     ·exact ⟨by omega, h2⟩
     ·exact ⟨by omega, h2⟩
    ·rintro ⟨h1, h2⟩
     by_cases e : b = i
     ·subst e; exact .inr ⟨rfl, ha, h2⟩
     ·exact .inl ⟨by omega, h2⟩
   rw [e]
   exact ih (i + 1) (by omega)
theorem converse_ev (n : Nat) (hn : n ≤ 24) (f : Nat → Nat → Bool) : Ev (fun k => impl_converse.f k (mat n f)) (mat n fun a b => f b a) := by
 simp only [impl_converse.f]
 refine Ev.pos (by omega) (Ev.pos (by simp; omega) ?_)
 have e : List.replicate (((mat n f).length : Int)).toNat (0 : Int) = mat n fun a b => decide (b < 0) && f b a := by
  rw [mat_length, Int.toNat_natCast]
  apply List.ext_getElem
  ·simp
  ·intro q h1 h2
   simp only [List.getElem_replicate, mat, List.getElem_map, List.getElem_range]
   rw [show mk n (fun b => decide (b < 0) && f b q) = 0 from bits_ext fun b => by rw [testBit_mk]; simp]
   rfl
 rw [e, mat_length]
 exact converse_l0 n hn f n 0 (by omega)
theorem IsAlphabet_loop (m : Nat) (hm : m ≤ 8) (f : Nat → Nat → Bool) : ∀ (d a : Nat), a + d = m → (∀ i, i < a → f i i = true ∧ ∀ k, k < m → f i k = f k i) →
  Ev (fun k => impl_IsAlphabet.l0 k (mat m fun a b => f b a) (m : Int) (a : Int) (m : Int) (mat m f)) (decide (∀ i, i < m → f i i = true ∧ ∀ k, k < m → f i k = f k i)) := by
 intro d
 induction d with
 | zero =>
  intro a ha hp
  refine Ev.succ ?_
  simp only [impl_IsAlphabet.l0]
  refine Ev.neg (by omega) (Ev.const ?_)
  rw [decide_eq_true fun i hi => hp i (by omega)]
 | succ d ih =>
  intro a ha hp
  refine Ev.succ ?_
  simp only [impl_IsAlphabet.l0]
  refine Ev.pos (by omega) (Ev.pos (by omega) (Ev.pos (by simp; omega) (Ev.pos (by simp; omega) ?_)))
  rw [rd_mat m _ a (by omega), rd_mat m f a (by omega)]
  have hlt := mk_lt m fun b => f b a
  have h24 := pow24 (show m ≤ 24 by omega)
  refine Ev.ite (fun c => ?_) (fun c => ?_)
  ·have hc : ∀ k, k < m → f a k = f k a := fun k hk => by
    have := congrArg (fun z : Nat => z.testBit k) (Int.ofNat.inj c)
    simp only [testBit_mk, hk, decide_true, Bool.true_and] at this
    exact this.symm
   rw [has_eq _ a (by omega) (by omega), testBit_mk]
   refine Ev.some_bind ?_
   refine Ev.ite (fun g => ?_) (fun g => ?_)
   ·rw [w64' (by omega)]
    refine ih (a + 1) (by omega) (fun i hi => ?_)
    by_cases e : i = a
    ·subst e; exact ⟨by simpa [show i < m by omega] using g, hc⟩
    ·exact hp i (by omega)
   ·refine Ev.const ?_
    rw [decide_eq_false fun h => g (by simpa [show a < m by omega] using (h a (by omega)).1)]
  ·refine Ev.const ?_
   rw [decide_eq_false fun h => c ?_]
   congr 1
   exact mk_congr fun k hk => ((h a (by omega)).2 k hk).symm
theorem IsAlphabet_ev (n : Int) (D : List Int) : Ev (fun k => impl_IsAlphabet.f k n D) (decide (Alpha n D)) := by
 have hj : ∀ n D, ¬ Alpha n D → Ev (fun k => impl_IsAlphabet.j0 k true n D) (decide (Alpha n D)) := fun n D h => by
  refine Ev.succ ?_
  simp only [impl_IsAlphabet.j0]
  exact Ev.pos (by simp) (Ev.const (by rw [decide_eq_false h]))
 simp only [impl_IsAlphabet.f, inRange_eq, impl_length_int64.f, IsRelation_eq]
 refine Ev.some_bind ?_
 simp only [decide_eq_true_eq]
 refine Ev.ite (fun c1 => Ev.some_bind ?_) (fun c1 => hj n D fun h => c1 h.1)
 refine Ev.ite (fun c2 => Ev.some_bind ?_) (fun c2 => hj n D fun h => c2 h.2.1)
 obtain ⟨m, rfl⟩ := Int.eq_ofNat_of_zero_le c1.1
 have hl : D.length = m := by omega
 by_cases c3 : ∀ x ∈ D, 0 ≤ x ∧ x < ((2 ^ D.length : Nat) : Int)
 ·rw [decide_eq_true ⟨by omega, c3⟩]
  have e : D = mat m (bitR D) := by have := eq_mat D c3; rwa [hl] at this
  refine Ev.succ ?_
  simp only [impl_IsAlphabet.j0]
  refine Ev.neg (by simp) ?_
  have hc := converse_ev m (by omega) (bitR D)
  rw [← e] at hc
  refine Ev.bind hc ?_
  have := IsAlphabet_loop m (by omega) (bitR D) m 0 (by omega) (by intro i hi; omega)
  rw [← e] at this
  rw [mat_length]
  refine Ev.val this ?_
  rw [decide_eq_decide]
  exact ⟨fun h => ⟨c1, c2, c3, fun a ha => ⟨(h a (by omega)).1, fun b hb => (h a (by omega)).2 b (by omega)⟩⟩, fun h a ha => ⟨(h.2.2.2 a (by omega)).1, fun b hb => (h.2.2.2 a (by omega)).2 b (by omega)⟩⟩
 ·rw [decide_eq_false fun h => c3 h.2]
  exact hj _ _ fun h => c3 h.2.2.1
theorem l03Word_l0 (n : Int) (hn : 0 ≤ n ∧ n ≤ 8) (w : List Int) (hw : w.length ≤ 24) : ∀ (d i : Nat), i + d = w.length → (∀ j (h : j < w.length), j < i → 0 ≤ w[j] ∧ w[j] ≤ n - 1) → Ev (fun k => spec_l03Word.l0 k n w i) (decide (Word n w)) := by
 intro d
 induction d with
 | zero =>
  intro i hi hp
  refine Ev.succ ?_
  simp only [spec_l03Word.l0]
  refine Ev.neg (by omega) (Ev.const ?_)
  have hW : Word n w := ⟨hw, fun x hx => by obtain ⟨j, hj, rfl⟩ := List.getElem_of_mem hx; exact hp j hj (by omega)⟩
  rw [decide_eq_true hW]
 | succ d ih =>
  intro i hi hp
  refine Ev.succ ?_
  simp only [spec_l03Word.l0, l01In_eq]
  refine Ev.pos (by omega) (Ev.pos (by omega) (Ev.some_bind ?_))
  rw [rd_lt w i (by omega), w64' (show -9000000000000000000 ≤ n - 1 ∧ n - 1 ≤ 9000000000000000000 by omega)]
  simp only [decide_eq_true_eq]
  refine Ev.ite (fun c => ?_) (fun c => ?_)
  ·rw [w64' (by omega)]
   refine ih (i + 1) (by omega) (fun j h hji => ?_)
   by_cases e : j = i
   ·subst e; exact c
   ·exact hp j h (by omega)
  ·refine Ev.const ?_
   rw [decide_eq_false fun h => c (h.2 _ (List.getElem_mem (by omega)))]
theorem l03Word_ev (n : Int) (hn : 0 ≤ n ∧ n ≤ 8) (w : List Int) : Ev (fun k => spec_l03Word.f k n w) (decide (Word n w)) := by
 simp only [spec_l03Word.f]
 refine Ev.ite (fun c => Ev.const ?_) (fun c => ?_)
 ·rw [decide_eq_false fun h => by have := h.1; omega]
 ·exact l03Word_l0 n hn w (by omega) w.length 0 (by omega) (by intro j h hj; omega)
theorem l03Code_ev (n : Int) (D u v : List Int) : Ev (fun k => spec_l03Code.f k n D u v) (if Alpha n D then (if Word n u ∧ Word n v then 0 else 2) else 1) := by
 simp only [spec_l03Code.f]
 refine Ev.bind (l02Is_ev n D) ?_
 simp only [decide_eq_true_eq]
 refine Ev.ite (fun c => ?_) (fun c => Ev.const (by rw [if_neg c]))
 rw [if_pos c]
 refine Ev.bind (l03Word_ev n c.1 u) ?_
 simp only [decide_eq_true_eq]
 refine Ev.ite (fun c1 => ?_) (fun c1 => Ev.const (by rw [if_neg fun h => c1 h.1]))
 refine Ev.bind (l03Word_ev n c.1 v) ?_
 simp only [decide_eq_true_eq]
 refine Ev.ite (fun c2 => Ev.const (by rw [if_pos ⟨c1, c2⟩])) (fun c2 => Ev.const (by rw [if_neg fun h => c2 h.2]))
theorem wordB_eq (n : Int) (hn : 0 ≤ n ∧ n ≤ 8) (w : List Int) : wordB n w = decide (Word n w) := by
 unfold wordB
 rw [Bool.eq_iff_iff, w64' (by omega)]
 rw [decide_eq_true_iff]
 simp [Word, List.all_eq_true]
theorem checkWords_ev (n : Int) (D : List Int) (ws : List (List Int)) : Ev (fun k => impl_checkWords.f k n D ws) (if Alpha n D then (if ∀ w ∈ ws, Word n w then 0 else 2) else 1) := by
 simp only [impl_checkWords.f]
 refine Ev.bind (IsAlphabet_ev n D) (Ev.const ?_)
 congr 1
 by_cases h : Alpha n D
 ·rw [if_pos (by simpa using h), if_pos h]
  by_cases g : ∀ w ∈ ws, Word n w
  ·rw [if_pos g, if_pos]
   rw [List.all_eq_true]
   exact fun w hw => by rw [wordB_eq n h.1]; simpa using g w hw
  ·rw [if_neg g, if_neg]
   rw [List.all_eq_true]
   exact fun k => g fun w hw => by have := k w hw; rw [wordB_eq n h.1] at this; simpa using this
 ·rw [if_neg (by simpa using h), if_neg h]
theorem l02Dep_eq (n : Nat) (hn : n ≤ 24) (f : Nat → Nat → Bool) (x : Int) (a b : Nat) (ha : a < n) (hb : b < n) : spec_l02Dep.f x (mat n f) (a : Int) (b : Int) = some (f a b) := by
 unfold spec_l02Dep.f
 have := mk_lt n (f a)
 have := pow24 hn
 rw [if_pos (by omega), if_pos (by simp; omega), rd_mat n f a ha, l01Bit_eq _ b (by omega) (by omega), testBit_mk]
 simp [hb]
theorem l03Heights_ev (n : Nat) (hn : n ≤ 8) (f : Nat → Nat → Bool) (w : List Nat) (hl : w.length ≤ 10000) (hw : ∀ x ∈ w, x < n) : Ev (fun k => spec_l03Heights.f k (n : Int) (mat n f) (ints w)) (ints (hts f w w.length)) := by
 simp only [spec_l03Heights.f]
 have outer : ∀ (d i : Nat), i + d = w.length → Ev (fun k => spec_l03Heights.l0 k (ints w) (ints (hts f w i)) (i : Int) (n : Int) (mat n f)) (ints (hts f w w.length)) := by
  intro d
  induction d with
  | zero =>
   intro i hi
   refine Ev.succ ?_
   simp only [spec_l03Heights.l0]
   refine Ev.neg (by simp; omega) (Ev.const ?_)
   rw [show i = w.length by omega]
  | succ d ih =>
   intro i hi
   refine Ev.succ ?_
   simp only [spec_l03Heights.l0]
   refine Ev.pos (by simp; omega) ?_
   have hb : ∀ k, k ≤ i → hPart f w (hts f w i) i k ≤ 10001 ∧ ∀ j, (hts f w i).getD j 0 ≤ 10000 := by
    intro k hk
    have hj : ∀ j, (hts f w i).getD j 0 ≤ 10000 := fun j => by
     by_cases g : j < i
     ·have := ((stepInv f w i).pos j g).2
      have := stp_length_le f w i
      omega
     ·rw [List.getD_eq_getElem?_getD, List.getElem?_eq_none (by rw [hts_length]; omega)]; simp
    refine ⟨?_, hj⟩
    rcases (hPart_spec f w (hts f w i) i k).2.2 with e | ⟨j, _, _, e⟩
    ·omega
    ·have := hj j; omega
   have inner : ∀ (e k : Nat), k + e = i → Ev (fun q => spec_l03Heights.l1 q (ints w) (ints (hts f w i)) (i : Int) ((hPart f w (hts f w i) i k : Nat) : Int) (k : Int) (n : Int) (mat n f)) (ints (hts f w w.length)) := by
    intro e
    induction e with
    | zero =>
     intro k hk
     refine Ev.succ ?_
     simp only [spec_l03Heights.l1]
     refine Ev.neg (by omega) (Ev.pos (by rw [ints_length, hts_length]; omega) ?_)
     rw [w64' (by omega), show k = i by omega, show ints (hts f w i) ++ [((hPart f w (hts f w i) i i : Nat) : Int)] = ints (hts f w (i + 1)) by simp [hts, ints_append, ints]]
     exact ih (i + 1) (by omega)
    | succ e ihe =>
     intro k hk
     refine Ev.succ ?_
     simp only [spec_l03Heights.l1]
     refine Ev.pos (by omega) (Ev.pos (by omega) (Ev.pos (by simp; omega) (Ev.pos (by omega) (Ev.pos (by simp; omega) ?_))))
     rw [rd_getD, rd_getD, l02Dep_eq n (by omega) f _ _ _ (getD_lt hw (by omega)) (getD_lt hw (by omega)), rd_getD]
     have hbk := hb k (by omega)
     have hbj := hbk.2 k
     have hn' : ((hPart f w (hts f w i) i (k + 1) : Nat) : Int) = if f (w.getD k 0) (w.getD i 0) = true ∧ hPart f w (hts f w i) i k < (hts f w i).getD k 0 + 1 then (((hts f w i).getD k 0 : Nat) : Int) + 1 else ((hPart f w (hts f w i) i k : Nat) : Int) := by
      simp only [hPart]
      split <;> simp
     have := ihe (k + 1) (by omega)
     rw [hn'] at this
     refine Ev.some_bind ?_
     refine Ev.ite (fun c => ?_) (fun c => ?_)
     ·refine Ev.pos (by rw [ints_length, hts_length]; omega) ?_
      rw [w64' (by omega)]
      refine Ev.ite (fun g => ?_) (fun g => ?_)
      ·rw [if_pos ⟨c, by omega⟩] at this
       rw [w64' (by omega)]
       exact this
      ·rw [if_neg (fun h => g (by have := h.2; omega))] at this
       rw [w64' (by omega)]
       exact this
     ·rw [if_neg (fun h => c h.1)] at this
      rw [w64' (by omega)]
      exact this
   exact inner i 0 (by omega)
 exact outer w.length 0 (by omega)
theorem ints_set (l : List Nat) (i v : Nat) : (ints l).set i (v : Int) = ints (l.set i v) := by simp [ints, List.map_set]
theorem l03Foata_ev (n : Nat) (hn : n ≤ 8) (f : Nat → Nat → Bool) (w : List Nat) (hl : w.length ≤ 10000) (hw : ∀ x ∈ w, x < n) : Ev (fun k => spec_l03Foata.f k (n : Int) (mat n f) (ints w)) (ints (foataP f w)) := by
 simp only [spec_l03Foata.f]
 refine Ev.bind (l03Heights_ev n hn f w hl hw) ?_
 have outer : ∀ (d i : Nat), i + d = w.length → Ev (fun k => spec_l03Foata.l0 k (ints w) (ints (stp f w i)) (ints (hts f w w.length)) (i : Int)) (ints (foataP f w)) := by
  intro d
  induction d with
  | zero =>
   intro i hi
   refine Ev.succ ?_
   simp only [spec_l03Foata.l0]
   refine Ev.neg (by simp; omega) (Ev.const ?_)
   rw [foataP, show i = w.length by omega]
  | succ d ih =>
   intro i hi
   refine Ev.succ ?_
   simp only [spec_l03Foata.l0]
   refine Ev.pos (by simp; omega) ?_
   have hlen := stp_length_le f w i
   have hsame : ∀ e, i + 1 + e ≤ w.length → (hts f w (i + 1 + e)).getD i 0 = (hts f w (i + 1)).getD i 0 := by
    intro e
    induction e with
    | zero => intro _; rfl
    | succ e ihe => intro he; rw [← Nat.add_assoc, hts_prefix f w (i + 1 + e) i (by omega)]; exact ihe (by omega)
   have hH : rd (ints (hts f w w.length)) (i : Int) = (((hts f w (i + 1)).getD i 0 : Nat) : Int) := by
    rw [rd_getD]
    have := hsame (w.length - (i + 1)) (by omega)
    rw [show i + 1 + (w.length - (i + 1)) = w.length by omega] at this
    rw [this]
   have hHb : 1 ≤ (hts f w (i + 1)).getD i 0 ∧ (hts f w (i + 1)).getD i 0 ≤ i + 1 := by
    have := (stepInv f w (i + 1)).pos i (by omega)
    have := stp_length_le f w (i + 1)
    omega
   have hstp : stp f w (i + 1) = stepF (stp f w i) ((hts f w (i + 1)).getD i 0) (w.getD i 0) := rfl
   have hbd := stp_lt f w n hw i (by omega)
   generalize (hts f w (i + 1)).getD i 0 = h at *
   have inner : ∀ (e : Nat) (z : Nat), (stp f w i).length + z + e = max h (stp f w i).length → Ev (fun k => spec_l03Foata.l1 k (ints w) (ints (stp f w i ++ List.replicate z 0)) (ints (hts f w w.length)) (i : Int)) (ints (foataP f w)) := by
    intro e
    induction e with
    | zero =>
     intro z hz
     refine Ev.succ ?_
     simp only [spec_l03Foata.l1]
     rw [hH]
     refine Ev.pos (by omega) (Ev.pos (by simp [hts_length]; omega) (Ev.neg (by simp; omega) ?_))
     have e1 : wrap64 ((h : Int) - 1) = ((h - 1 : Nat) : Int) := (w64' (by omega)).trans (by omega)
     rw [e1]
     refine Ev.pos (by omega) (Ev.pos (by simp; omega) (Ev.pos (by simp; omega) ?_))
     have hx := getD_lt hw (show i < w.length by omega)
     rw [rd_getD, l01One_eq _ (by omega), rd_getD]
     refine Ev.some_bind ?_
     have h0 : (stp f w i ++ List.replicate z 0).getD (h - 1) 0 < 2 ^ n := by
      have := hbd (h - 1)
      simp only [List.getD_eq_getElem?_getD] at this ⊢
      by_cases g : h - 1 < (stp f w i).length
      ·rwa [List.getElem?_append_left g]
      ·rw [List.getElem?_append_right (by omega), List.getElem?_replicate]
       have := Nat.two_pow_pos n
       split <;> simpa using this
     have h1 : (2 : Nat) ^ n ≤ 2 ^ 24 := pow24 (by omega)
     have h2 : (2 : Nat) ^ (w.getD i 0) ≤ 2 ^ 24 := pow24 (by omega)
     rw [b_or _ _ (by omega) (by omega), w64' (by omega), Int.toNat_natCast, ints_set]
     have e2 : (stp f w i ++ List.replicate z 0).set (h - 1) ((stp f w i ++ List.replicate z 0).getD (h - 1) 0 ||| 2 ^ (w.getD i 0)) = stp f w (i + 1) := by
      rw [hstp]
      simp only [stepF]
      rw [show h - (stp f w i).length = z by omega]
     rw [e2]
     exact ih (i + 1) (by omega)
    | succ e ihe =>
     intro z hz
     refine Ev.succ ?_
     simp only [spec_l03Foata.l1]
     rw [hH]
     refine Ev.pos (by omega) (Ev.pos (by simp [hts_length]; omega) (Ev.pos (by simp; omega) (Ev.pos (by simp; omega) ?_)))
     have := ihe (z + 1) (by omega)
     rw [show ints (stp f w i ++ List.replicate (z + 1) 0) = ints (stp f w i ++ List.replicate z 0) ++ [0] by rw [List.replicate_succ', ← List.append_assoc, ints_append]; rfl] at this
     exact this
   have := inner (max h (stp f w i).length - (stp f w i).length) 0 (by omega)
   simpa using this
 exact outer w.length 0 (by omega)
theorem foata_ev (n : Nat) (hn : n ≤ 8) (f : Nat → Nat → Bool) (hs : ∀ a b, f a b = f b a) (w : List Nat) (hl : w.length ≤ 10000) (hw : ∀ x ∈ w, x < n) : Ev (fun k => impl_ties_foata.f k (mat n f) (ints w)) (ints (foataP f w)) := by
 simp only [impl_ties_foata.f]
 have outer : ∀ (d i : Nat), i + d = w.length → Ev (fun k => impl_ties_foata.l0 k (mat n f) (ints (stp f w i)) (ints w) (w.length : Int) (i : Int)) (ints (foataP f w)) := by
  intro d
  induction d with
  | zero =>
   intro i hi
   refine Ev.succ ?_
   simp only [impl_ties_foata.l0]
   refine Ev.neg (by omega) (Ev.const ?_)
   rw [foataP, show i = w.length by omega]
  | succ d ih =>
   intro i hi
   refine Ev.succ ?_
   simp only [impl_ties_foata.l0]
   refine Ev.pos (by omega) (Ev.pos (by omega) (Ev.pos (by simp; omega) ?_))
   have hx := getD_lt hw (show i < w.length by omega)
   have hlen := stp_length_le f w i
   have hbd := stp_lt f w n hw i (by omega)
   have hstp : stp f w (i + 1) = stepF (stp f w i) (hPart f w (hts f w i) i i) (w.getD i 0) := by simp only [stp]; rw [hts_last]
   have seen := height_seen f w hs n hw i (by omega)
   have ih' := ih (i + 1) (by omega)
   have h1 : (2 : Nat) ^ n ≤ 2 ^ 24 := pow24 (by omega)
   have h2 : (2 : Nat) ^ (w.getD i 0) ≤ 2 ^ 24 := pow24 (by omega)
   have hm := mk_lt n (f (w.getD i 0))
   rw [rd_getD]
   -- from place l on nothing meets; what follows at l
   have fin : ∀ l, l ≤ (stp f w i).length → hPart f w (hts f w i) i i = l + 1 → Ev (fun k => if (l : Int) = ((ints (stp f w i)).length : Int) then (if (ints (stp f w i)).length < 17592186044416 then ((some (ints (stp f w i) ++ [0] : List Int)).bind fun y => (if 0 ≤ (l : Int) then (if (l : Int) < (y.length : Int) then ((impl_one.f ((w.getD i 0 : Nat) : Int)).bind fun t => (impl_ties_foata.l0 k (mat n f) (y.set ((l : Int) : Int).toNat (Go.bits .or .i64 (rd y (l : Int)) t)) (ints w) (w.length : Int) (wrap64 ((i : Int) + 1)))) else none) else none)) else none) else (if 0 ≤ (l : Int) then (if (l : Int) < ((ints (stp f w i)).length : Int) then ((impl_one.f ((w.getD i 0 : Nat) : Int)).bind fun t => (impl_ties_foata.l0 k (mat n f) ((ints (stp f w i)).set ((l : Int) : Int).toNat (Go.bits .or .i64 (rd (ints (stp f w i)) (l : Int)) t)) (ints w) (w.length : Int) (wrap64 ((i : Int) + 1)))) else none) else none)) (ints (foataP f w)) := by
    intro l hl hh
    rw [hstp, hh] at ih'
    simp only [stepF, Nat.add_sub_cancel] at ih'
    rw [one_eq _ (by omega)]
    refine Ev.ite (fun c => ?_) (fun c => ?_)
    ·have el : l = (stp f w i).length := by rw [ints_length] at c; omega
     refine Ev.pos (by simp; omega) (Ev.some_bind (Ev.pos (by omega) (Ev.pos (by simp; omega) (Ev.some_bind ?_))))
     have e0 : ints (stp f w i) ++ [0] = ints (stp f w i ++ [0]) := by rw [ints_append]; rfl
     rw [e0, rd_getD, w64' (by omega), Int.toNat_natCast]
     have hz : (stp f w i ++ [0]).getD l 0 = 0 := by subst el; simp [List.getD_eq_getElem?_getD]
     rw [hz, b_or _ _ (by decide) (by omega), show (ints (stp f w i ++ [0])).set l (((0 ||| 2 ^ (w.getD i 0) : Nat)) : Int) = ints ((stp f w i ++ [0]).set l (0 ||| 2 ^ (w.getD i 0))) by simp [ints, List.map_set]]
     rw [show l + 1 - (stp f w i).length = 1 by omega, show List.replicate 1 0 = [0] from rfl, hz] at ih'
     exact ih'
    ·have el : l < (stp f w i).length := by
      rw [ints_length] at c; omega
     refine Ev.pos (by omega) (Ev.pos (by simp; omega) (Ev.some_bind ?_))
     have hb := hbd l
     rw [rd_getD, w64' (by omega), Int.toNat_natCast, b_or _ _ (by omega) (by omega), show (ints (stp f w i)).set l ((((stp f w i).getD l 0 ||| 2 ^ (w.getD i 0) : Nat)) : Int) = ints ((stp f w i).set l ((stp f w i).getD l 0 ||| 2 ^ (w.getD i 0))) by simp [ints, List.map_set]]
     rw [show l + 1 - (stp f w i).length = 0 by omega, List.replicate_zero, List.append_nil] at ih'
     exact ih'
   have inner : ∀ l, l ≤ (stp f w i).length → (∀ s, l ≤ s → s < (stp f w i).length → (stp f w i).getD s 0 &&& mk n (f (w.getD i 0)) = 0) → Ev (fun k => impl_ties_foata.l1 k (mat n f) (ints (stp f w i)) ((w.getD i 0 : Nat) : Int) (l : Int) (ints w) (w.length : Int) (i : Int)) (ints (foataP f w)) := by
    intro l
    induction l with
    | zero =>
     intro hl hz
     refine Ev.succ ?_
     simp only [impl_ties_foata.l1]
     refine Ev.neg (by omega) ?_
     exact fin 0 hl (seen 0 hl (.inl rfl) hz)
    | succ l ihl =>
     intro hl hz
     refine Ev.succ ?_
     simp only [impl_ties_foata.l1]
     have e1 : wrap64 (((l + 1 : Nat) : Int) - 1) = (l : Int) := (w64' (by omega)).trans (by omega)
     rw [e1]
     refine Ev.pos (by omega) (Ev.pos (by omega) (Ev.pos (by rw [ints_length]; omega) (Ev.pos (by omega) (Ev.pos (by rw [mat_length]; omega) ?_))))
     have hb := hbd l
     rw [rd_getD (stp f w i) l, rd_mat n f _ hx, b_and _ _ (by omega) (by omega)]
     refine Ev.ite (fun c => ?_) (fun c => ?_)
     ·refine ihl (by omega) (fun s h3 h4 => ?_)
      by_cases e : s = l
      ·subst e; exact Int.ofNat.inj c
      ·exact hz s (by omega) h4
     ·exact fin (l + 1) hl (seen (l + 1) hl (.inr (fun h => c (by rw [Nat.add_sub_cancel] at h; rw [h]; rfl))) hz)
   have := inner (stp f w i).length (Nat.le_refl _) (by intro s h3 h4; omega)
   rw [← ints_length (stp f w i)] at this
   exact this
 have := outer w.length 0 (by omega)
 rw [ints_length]
 exact this
theorem l01Own_eq (l : List Int) (h : l.length < 17592186044416) : spec_l01Own.f l = some l := by
 unfold spec_l01Own.f
 simp only [Option.bind_some, List.length_nil, List.nil_append]
 rw [if_pos (by omega)]
theorem l03First_l0 (n : Nat) (hn : n ≤ 24) (f : Nat → Nat → Bool) (a : Nat) (ha : a < n) : ∀ (suf pre : List Nat), (pre ++ suf).length ≤ 1000000 → (∀ x ∈ pre ++ suf, x < n) →
  Ev (fun k => spec_l03First.l0 k (ints (pre ++ suf)) (a : Int) (pre.length : Int) (n : Int) (mat n f)) (if isFirst f suf a = true then ((pre.length + suf.idxOf a : Nat) : Int) else -1) := by
 intro suf
 induction suf with
 | nil =>
  intro pre hl hw
  refine Ev.succ ?_
  simp only [spec_l03First.l0]
  exact Ev.neg (by simp) (Ev.const rfl)
 | cons b suf ih =>
  intro pre hl hw
  simp only [List.length_append, List.length_cons] at hl
  have hb : b < n := mem_mid hw
  refine Ev.succ ?_
  simp only [spec_l03First.l0]
  refine Ev.pos (by simp; omega) (Ev.pos (by omega) ?_)
  rw [rd_mid]
  refine Ev.ite (fun c => ?_) (fun c => ?_)
  ·obtain rfl := Int.ofNat.inj c
   refine Ev.const ?_
   rw [if_pos (isFirst_head f b suf)]
   simp
  ·have c' : ¬ b = a := fun e => c (by rw [e])
   rw [l02Dep_eq n hn f _ b a hb ha]
   refine Ev.some_bind (Ev.ite (fun g => ?_) (fun g => ?_))
   ·refine Ev.const ?_
    rw [if_neg (by simp [isFirst, c', g])]
   ·rw [w64' (by omega)]
    have := ih (pre ++ [b]) (by simp; omega) (by simpa using hw)
    simp only [List.append_assoc, List.cons_append, List.nil_append, List.length_append, List.length_cons, List.length_nil] at this
    refine Ev.val this ?_
    have e1 : isFirst f (b :: suf) a = isFirst f suf a := by simp [isFirst, c', g]
    rw [e1, idxOf_tail _ c']
    by_cases h : isFirst f suf a = true
    ·rw [if_pos h, if_pos h]
     congr 1
     omega
    ·rw [if_neg h, if_neg h]
theorem l03First_ev (n : Nat) (hn : n ≤ 24) (f : Nat → Nat → Bool) (w : List Nat) (hl : w.length ≤ 1000000) (hw : ∀ x ∈ w, x < n) (a : Nat) (ha : a < n) : Ev (fun k => spec_l03First.f k (n : Int) (mat n f) (ints w) (a : Int)) (fIdx f w a) := by
 simp only [spec_l03First.f]
 have := l03First_l0 n hn f a ha w [] hl hw
 simpa [fIdx] using this
theorem l03Without_eq (w : List Nat) (hl : w.length ≤ 1000000) (i : Nat) (hi : i < w.length) : spec_l03Without.f (ints w) (i : Int) = some (ints (w.eraseIdx i)) := by
 unfold spec_l03Without.f
 rw [if_pos (by omega), if_pos (by simp; omega), w64' (by omega), Int.toNat_natCast, l01Own_eq _ (by simp; omega)]
 simp only [Option.bind_some]
 rw [if_pos (by omega), if_pos (by simp; omega), show ((i : Int) + 1).toNat = i + 1 by omega, if_pos (by simp; omega), ← ints_eraseIdx, List.eraseIdx_eq_take_drop_succ]
theorem l03Without_first (f : Nat → Nat → Bool) (w : List Nat) (hl : w.length ≤ 1000000) (a : Nat) (h : isFirst f w a = true) : spec_l03Without.f (ints w) (fIdx f w a) = some (ints (w.erase a)) := by
 have hm := isFirst_mem f h
 unfold fIdx
 rw [if_pos h, l03Without_eq w hl _ (idxOf_lt hm), erase_idx hm]
theorem l03Normal_l0 (n : Nat) (hn : n ≤ 24) (f : Nat → Nat → Bool) : ∀ (L : Nat) (w : List Nat) (acc : List Int), w.length = L → acc.length + w.length ≤ 1000000 → (∀ x ∈ w, x < n) →
  Ev (fun k => spec_l03Normal.l0 k acc (ints w) (n : Int) (mat n f)) (acc ++ ints (normalP f n w)) := by
 intro L
 induction L with
 | zero =>
  intro w acc hL hl hw
  obtain rfl := List.eq_nil_of_length_eq_zero hL
  refine Ev.succ ?_
  simp only [spec_l03Normal.l0]
  refine Ev.neg (by simp [ints]) (Ev.const ?_)
  simp [normalP_nil, ints]
 | succ L ih =>
  intro w acc hL hl hw
  have hne : w ≠ [] := by rintro rfl; simp at hL
  obtain ⟨h1, h2, h3⟩ := least_first f hw hne
  rw [normalP_cons f hw hne]
  refine Ev.succ ?_
  simp only [spec_l03Normal.l0]
  refine Ev.pos (by simp; omega) ?_
  have inner : ∀ (d a : Nat), a + d = leastF (isFirst f w) n → Ev (fun k => spec_l03Normal.l1 k acc (ints w) (a : Int) (n : Int) (mat n f)) (acc ++ ints (leastF (isFirst f w) n :: normalP f n (w.erase (leastF (isFirst f w) n)))) := by
   intro d
   induction d with
   | zero =>
    intro a ha
    obtain rfl : a = leastF (isFirst f w) n := by omega
    refine Ev.succ ?_
    simp only [spec_l03Normal.l1]
    refine Ev.pos (by omega) (Ev.bind (l03First_ev n hn f w (by omega) hw _ h1) (Ev.pos (by unfold fIdx; rw [if_pos h2]; omega) (Ev.pos (by omega) ?_)))
    rw [l03Without_first f w (by omega) _ h2]
    refine Ev.some_bind ?_
    have he := length_erase f h2
    refine Ev.val (ih _ _ (by omega) (by simp; omega) (erase_lt hw)) ?_
    rw [ints_cons]
    simp
   | succ d ihd =>
    intro a ha
    refine Ev.succ ?_
    simp only [spec_l03Normal.l1]
    refine Ev.pos (by omega) (Ev.bind (l03First_ev n hn f w (by omega) hw a (by omega)) (Ev.neg (by unfold fIdx; rw [h3 a (by omega)]; simp) ?_))
    rw [w64' (by omega)]
    exact ihd (a + 1) (by omega)
  exact inner (leastF (isFirst f w) n) 0 (by omega)
theorem l03Normal_ev (n : Nat) (hn : n ≤ 24) (f : Nat → Nat → Bool) (w : List Nat) (hl : w.length ≤ 1000000) (hw : ∀ x ∈ w, x < n) : Ev (fun k => spec_l03Normal.f k (n : Int) (mat n f) (ints w)) (ints (normalP f n w)) := by
 simp only [spec_l03Normal.f]
 rw [l01Own_eq _ (by simp; omega)]
 refine Ev.some_bind (Ev.val (l03Normal_l0 n hn f _ w [] rfl (by simpa using hl) hw) (by simp))
theorem l03Back_l0 (x : List Int) (hx : x.length ≤ 10000000) : ∀ (i : Nat) (acc : List Int), i ≤ x.length → acc.length + i ≤ 10000000 → Ev (fun k => spec_l03Back.l0 k x acc ((i : Int) - 1)) (acc ++ (x.take i).reverse) := by
 intro i
 induction i with
 | zero =>
  intro acc hi hl
  refine Ev.succ ?_
  simp only [spec_l03Back.l0]
  exact Ev.neg (by omega) (Ev.const (by simp))
 | succ i ih =>
  intro acc hi hl
  refine Ev.succ ?_
  simp only [spec_l03Back.l0]
  refine Ev.pos (by omega) (Ev.pos (by omega) (Ev.pos (by omega) (Ev.pos (by omega) ?_)))
  rw [w64' (by omega), show ((i + 1 : Nat) : Int) - 1 = (i : Int) by omega, rd_lt x i (by omega)]
  refine Ev.val (ih (acc ++ [x[i]]) (by omega) (by simp; omega)) ?_
  rw [List.take_succ_eq_append_getElem (by omega), List.reverse_append, List.append_assoc]
  rfl
theorem l03Back_ev (w : List Nat) (hl : w.length ≤ 10000000) : Ev (fun k => spec_l03Back.f k (ints w)) (ints w.reverse) := by
 simp only [spec_l03Back.f]
 rw [w64' (by simp; omega)]
 have := l03Back_l0 (ints w) (by simpa using hl) (ints w).length [] (Nat.le_refl _) (by simpa using hl)
 refine Ev.val this ?_
 rw [List.nil_append, List.take_length]
 simp [ints]
theorem Index_l0 (a : Nat) : ∀ (suf pre : List Nat), (pre ++ suf).length ≤ 1000000 →
  Ev (fun k => slices_Index_int64_int64.l0 k (ints (pre ++ suf)) (a : Int) ((pre ++ suf).length : Int) (pre.length : Int)) (if a ∈ suf then ((pre.length + suf.idxOf a : Nat) : Int) else -1) := by
 intro suf
 induction suf with
 | nil =>
  intro pre hl
  refine Ev.succ ?_
  simp only [slices_Index_int64_int64.l0]
  exact Ev.neg (by simp) (Ev.const rfl)
 | cons b suf ih =>
  intro pre hl
  simp only [List.length_append, List.length_cons] at hl
  refine Ev.succ ?_
  simp only [slices_Index_int64_int64.l0]
  refine Ev.pos (by simp; omega) (Ev.pos (by omega) (Ev.pos (by simp; omega) ?_))
  rw [rd_mid]
  refine Ev.ite (fun c => ?_) (fun c => ?_)
  ·obtain rfl := Int.ofNat.inj c
   refine Ev.const ?_
   simp
  ·have c' : ¬ b = a := fun e => c (by rw [e])
   rw [w64' (by omega)]
   have := ih (pre ++ [b]) (by simp; omega)
   simp only [List.append_assoc, List.cons_append, List.nil_append, List.length_append, List.length_cons, List.length_nil] at this ⊢
   refine Ev.val this ?_
   rw [idxOf_tail _ c']
   have e1 : a ∈ b :: suf ↔ a ∈ suf := by simp [List.mem_cons, show ¬ a = b from fun e => c' e.symm]
   by_cases h : a ∈ suf
   ·rw [if_pos h, if_pos (e1.2 h)]
    congr 1
    omega
   ·rw [if_neg h, if_neg (fun k => h (e1.1 k))]
theorem Index_ev (w : List Nat) (hl : w.length ≤ 1000000) (a : Nat) : Ev (fun k => slices_Index_int64_int64.f k (ints w) (a : Int)) (if a ∈ w then ((w.idxOf a : Nat) : Int) else -1) := by
 simp only [slices_Index_int64_int64.f]
 have := Index_l0 a w [] hl
 simpa using this
theorem withoutFirst_ev (w : List Nat) (hl : w.length ≤ 1000000) (a : Nat) (h : a ∈ w) : Ev (fun k => impl_withoutFirst.f k (ints w) (a : Int)) (ints (w.erase a)) := by
 simp only [impl_withoutFirst.f]
 have hi := idxOf_lt h
 refine Ev.bind (Index_ev w hl a) ?_
 rw [if_pos h]
 refine Ev.pos (by omega) (Ev.pos (by simp; omega) ?_)
 rw [w64' (by omega)]
 refine Ev.pos (by omega) (Ev.pos (by simp; omega) ?_)
 rw [Int.toNat_natCast, show ((w.idxOf a : Int) + 1).toNat = w.idxOf a + 1 by omega]
 refine Ev.const ?_
 unfold slices_Concat_int64_int64.f
 rw [if_pos (by simp; omega), ← erase_idx h, ← ints_eraseIdx, List.eraseIdx_eq_take_drop_succ]
 simp
theorem isFirst_snoc (f : Nat → Nat → Bool) (w : List Nat) (x a : Nat) : isFirst f (w ++ [x]) a = (isFirst f w a || (decide (x = a) && w.all fun b => !f b a)) := by
 induction w with
 | nil => simp [isFirst]
 | cons b w ih =>
  simp only [List.cons_append, isFirst, ih, List.all_cons]
  cases decide (b = a) <;> cases f b a <;> cases isFirst f w a <;> simp
theorem firsts_l0 (n : Nat) (hn : n ≤ 8) (f : Nat → Nat → Bool) : ∀ (suf pre : List Nat), (pre ++ suf).length ≤ 1000000 → (∀ x ∈ pre ++ suf, x < n) →
  Ev (fun k => impl_ties_firsts.l0 k (mat n f) ((mk n (isFirst f pre) : Nat) : Int) ((mk n (fun a => pre.any fun b => f b a) : Nat) : Int) (ints (pre ++ suf)) ((pre ++ suf).length : Int) (pre.length : Int)) ((mk n (isFirst f (pre ++ suf)) : Nat) : Int) := by
 intro suf
 induction suf with
 | nil =>
  intro pre hl hw
  refine Ev.succ ?_
  simp only [impl_ties_firsts.l0]
  exact Ev.neg (by simp) (Ev.const (by simp))
 | cons x suf ih =>
  intro pre hl hw
  have hx : x < n := mem_mid hw
  have i1 := ih (pre ++ [x]) (by simpa using hl) (by simpa using hw)
  simp only [List.append_assoc, List.cons_append, List.nil_append] at i1
  rw [show (pre ++ [x]).length = pre.length + 1 by simp] at i1
  have hl' : pre.length + suf.length + 1 ≤ 1000000 := by simpa [Nat.add_assoc] using hl
  have h1 := mk_lt n (isFirst f pre)
  have h2 := mk_lt n (fun a => pre.any fun b => f b a)
  have h3 := mk_lt n (f x)
  have h4 : (2 : Nat) ^ n ≤ 2 ^ 24 := pow24 (by omega)
  have h5 : (2 : Nat) ^ x ≤ 2 ^ 24 := pow24 (by omega)
  have eb : mk n (fun a => (pre ++ [x]).any fun b => f b a) = mk n (fun a => pre.any fun b => f b a) ||| mk n (f x) := bits_ext fun i => by
   rw [Nat.testBit_or, testBit_mk, testBit_mk, testBit_mk]
   by_cases hi : i < n <;> simp [hi]
  rw [eb] at i1
  refine Ev.succ ?_
  simp only [impl_ties_firsts.l0]
  refine Ev.pos (by simp; omega) (Ev.pos (by omega) (Ev.pos (by simp; omega) ?_))
  rw [rd_mid, has_eq _ x (by omega) (by omega), rd_mat n f x hx, b_or _ _ (by omega) (by omega), testBit_mk]
  refine Ev.some_bind (Ev.ite (fun g => ?_) (fun g => ?_))
  ·refine Ev.pos (by omega) (Ev.pos (by simp; omega) ?_)
   rw [w64' (by omega)]
   have eo : mk n (isFirst f (pre ++ [x])) = mk n (isFirst f pre) := mk_congr fun a _ => by
    rw [isFirst_snoc]
    by_cases e : x = a
    ·subst e
     have : (pre.all fun b => !f b x) = false := by
      rw [← Bool.not_eq_true]
      simp [hx] at g
      obtain ⟨b, hb, hf⟩ := g
      intro h
      have := List.all_eq_true.1 h b hb
      simp [hf] at this
     rw [this]; simp
    ·simp [e]
   rw [eo] at i1
   exact i1
  ·rw [one_eq x (by omega)]
   refine Ev.some_bind (Ev.pos (by omega) (Ev.pos (by simp; omega) ?_))
   rw [w64' (by omega), b_or _ _ (by omega) (by omega)]
   have eo : mk n (isFirst f (pre ++ [x])) = mk n (isFirst f pre) ||| 2 ^ x := bits_ext fun i => by
    rw [Nat.testBit_or, testBit_mk, testBit_mk, testBit_one, isFirst_snoc]
    by_cases e : x = i
    ·subst e
     have : (pre.all fun b => !f b x) = true := by
      rw [List.all_eq_true]
      intro b hb
      simp only [hx, decide_true, Bool.true_and] at g
      have := fun h => g (List.any_eq_true.2 ⟨b, hb, h⟩)
      simpa using this
     simp [hx, this]
    ·simp [e]
   rw [eo] at i1
   exact i1
theorem firsts_ev (n : Nat) (hn : n ≤ 8) (f : Nat → Nat → Bool) (w : List Nat) (hl : w.length ≤ 1000000) (hw : ∀ x ∈ w, x < n) : Ev (fun k => impl_ties_firsts.f k (mat n f) (ints w)) ((mk n (isFirst f w) : Nat) : Int) := by
 simp only [impl_ties_firsts.f]
 have := firsts_l0 n hn f w [] hl hw
 have e1 : mk n (isFirst f []) = 0 := Nat.eq_of_testBit_eq fun i => by rw [testBit_mk]; simp [isFirst]
 have e2 : mk n (fun a => ([] : List Nat).any fun b => f b a) = 0 := Nat.eq_of_testBit_eq fun i => by rw [testBit_mk]; simp
 rw [e1, e2] at this
 simpa using this
theorem normal_l0 (n : Nat) (hn : n ≤ 8) (f : Nat → Nat → Bool) : ∀ (L : Nat) (w : List Nat) (acc : List Int), w.length = L → acc.length + w.length ≤ 1000000 → (∀ x ∈ w, x < n) →
  Ev (fun k => impl_ties_normal.l0 k (mat n f) acc (ints w)) (acc ++ ints (normalP f n w)) := by
 intro L
 induction L with
 | zero =>
  intro w acc hL hl hw
  obtain rfl := List.eq_nil_of_length_eq_zero hL
  refine Ev.succ ?_
  simp only [impl_ties_normal.l0]
  refine Ev.neg (by simp [ints]) (Ev.const ?_)
  simp [normalP_nil, ints]
 | succ L ih =>
  intro w acc hL hl hw
  have hne : w ≠ [] := by rintro rfl; simp at hL
  obtain ⟨h1, h2, h3⟩ := least_first f hw hne
  rw [normalP_cons f hw hne]
  have h4 := mk_lt n (isFirst f w)
  have h5 : (2 : Nat) ^ n ≤ 2 ^ 24 := pow24 (by omega)
  refine Ev.succ ?_
  simp only [impl_ties_normal.l0]
  refine Ev.pos (by simp; omega) (Ev.bind (firsts_ev n hn f w (by omega) hw) ?_)
  rw [least_eq _ (by omega), ctz_mk (by omega) ⟨_, h1, h2⟩]
  refine Ev.some_bind (Ev.pos (by omega) (Ev.bind (withoutFirst_ev w (by omega) _ (isFirst_mem f h2)) ?_))
  have he := length_erase f h2
  refine Ev.val (ih _ _ (by omega) (by simp; omega) (erase_lt hw)) ?_
  rw [ints_cons]
  simp
theorem normal_ev (n : Nat) (hn : n ≤ 8) (f : Nat → Nat → Bool) (w : List Nat) (hl : w.length ≤ 1000000) (hw : ∀ x ∈ w, x < n) : Ev (fun k => impl_ties_normal.f k (mat n f) (ints w)) (ints (normalP f n w)) := by
 simp only [impl_ties_normal.f]
 refine Ev.pos (by omega) (Ev.pos (by simp; omega) (Ev.val (normal_l0 n hn f _ w [] rfl (by simpa using hl) hw) (by simp)))
theorem closure_l2 (n : Nat) (hn : n ≤ 24) (g : Nat → Nat → Bool) (p : Nat) (hp : p < n) (R : List Int) (hR : Ev (fun k => impl_closure.l1 k (mat n fun i k => g i k || (g i p && g p k)) (n : Int) ((p + 1 : Nat) : Int)) R) :
  ∀ (d i : Nat), i + d = n → Ev (fun k => impl_closure.l2 k (mat n fun a b => if a < i then g a b || (g a p && g p b) else g a b) (p : Int) (n : Int) (p : Int) (n : Int) (i : Int)) R := by
 intro d
 induction d with
 | zero =>
  intro i hi
  refine Ev.succ ?_
  simp only [impl_closure.l2]
  refine Ev.neg (by omega) ?_
  rw [w64' (by omega)]
  have e : mat n (fun a b => if a < i then g a b || (g a p && g p b) else g a b) = mat n fun a b => g a b || (g a p && g p b) := mat_congr fun a b ha _ => by rw [if_pos (by omega)]
  rw [e]
  exact hR
 | succ d ih =>
  intro i hi
  have h24 := pow_lt62 hn
  have i1 := ih (i + 1) (by omega)
  refine Ev.succ ?_
  simp only [impl_closure.l2]
  refine Ev.pos (by omega) (Ev.pos (by omega) (Ev.pos (by simp; omega) ?_))
  rw [rd_mat n _ i (by omega)]
  have h1 := mk_lt n ((fun a b => if a < i then g a b || (g a p && g p b) else g a b) i)
  have h2 := mk_lt n ((fun a b => if a < i then g a b || (g a p && g p b) else g a b) p)
  rw [has_eq _ p (mk62 (by omega) _) (by omega), testBit_mk]
  refine Ev.some_bind ?_
  have row : (if i < i then g i p || (g i p && g p p) else g i p) = g i p := if_neg (by omega)
  have hrow : ∀ b, (if p < i then g p b || (g p p && g p b) else g p b) = g p b := fun b => by
   split
   ·cases g p b <;> simp
   ·rfl
  refine Ev.ite (fun c => ?_) (fun c => ?_)
  ·have c' : g i p = true := by
    simp only [hp, decide_true, Bool.true_and] at c
    rw [← row]; exact c
   refine Ev.pos (by omega) (Ev.pos (by simp; omega) ?_)
   rw [rd_mat n _ p hp, b_or _ _ (mk62 (by omega) _) (mk62 (by omega) _), mk_or, w64' (by omega), Int.toNat_natCast, mat_row n _ i (by omega)]
   have e : mat n (fun a b => if a = i then ((if i < i then g i b || (g i p && g p b) else g i b) || if p < i then g p b || (g p p && g p b) else g p b) else if a < i then g a b || (g a p && g p b) else g a b) = mat n fun a b => if a < i + 1 then g a b || (g a p && g p b) else g a b := mat_congr fun a b ha hb => by
    by_cases e : a = i
    ·subst e
     rw [if_pos rfl, hrow, if_neg (Nat.lt_irrefl a), if_pos (Nat.lt_succ_self a), c']
     simp
    ·rw [if_neg e]
     by_cases e2 : a < i
     ·rw [if_pos e2, if_pos (by omega)]
     ·rw [if_neg e2, if_neg (by omega)]
   rw [e]
   exact i1
  ·have c' : g i p = false := by
    simp only [hp, decide_true, Bool.true_and] at c
    rw [← row]; simpa using c
   rw [w64' (by omega)]
   have e : mat n (fun a b => if a < i then g a b || (g a p && g p b) else g a b) = mat n fun a b => if a < i + 1 then g a b || (g a p && g p b) else g a b := mat_congr fun a b ha hb => by
    by_cases e : a = i
    ·subst e
     rw [if_neg (by omega), if_pos (by omega), c']
     simp
    ·by_cases e2 : a < i
     ·rw [if_pos e2, if_pos (by omega)]
     ·rw [if_neg e2, if_neg (by omega)]
   rw [e]
   exact i1
theorem closure_l1 (n : Nat) (hn : n ≤ 24) (f : Nat → Nat → Bool) : ∀ (d p : Nat), p + d = n → Ev (fun k => impl_closure.l1 k (mat n (wsh f p)) (n : Int) (p : Int)) (mat n (clos n f)) := by
 intro d
 induction d with
 | zero =>
  intro p hp
  obtain rfl : p = n := by omega
  refine Ev.succ ?_
  simp only [impl_closure.l1]
  exact Ev.neg (by omega) (Ev.now _)
 | succ d ih =>
  intro p hp
  refine Ev.succ ?_
  simp only [impl_closure.l1]
  refine Ev.pos (by omega) ?_
  have := closure_l2 n hn (wsh f p) p (by omega) _ (ih (p + 1) (by omega)) n 0 (by omega)
  have e : mat n (fun a b => if a < 0 then wsh f p a b || (wsh f p a p && wsh f p p b) else wsh f p a b) = mat n (wsh f p) := mat_congr fun a b _ _ => if_neg (by omega)
  rw [e] at this
  rw [mat_length]
  exact this
theorem closure_ev (n : Nat) (hn : n ≤ 24) (f : Nat → Nat → Bool) : Ev (fun k => impl_closure.f k (mat n f)) (mat n (clos n f)) := by
 have h24 := pow_lt62 hn
 have loop : ∀ (d i : Nat), i + d = n → Ev (fun k => impl_closure.l0 k (mat n fun a b => (decide (a = b) && decide (a < i)) || f a b) (n : Int) (i : Int)) (mat n (clos n f)) := by
  intro d
  induction d with
  | zero =>
   intro i hi
   obtain rfl : i = n := by omega
   refine Ev.succ ?_
   simp only [impl_closure.l0]
   refine Ev.neg (by omega) ?_
   have := closure_l1 i hn f i 0 (by omega)
   have e : mat i (fun a b => (decide (a = b) && decide (a < i)) || f a b) = mat i (wsh f 0) := mat_congr fun a b ha _ => by simp [wsh, ha]
   rw [e, mat_length]
   exact this
  | succ d ih =>
   intro i hi
   have i1 := ih (i + 1) (by omega)
   have h1 := mk_lt n ((fun a b => (decide (a = b) && decide (a < i)) || f a b) i)
   have h2 : (2 : Nat) ^ i ≤ 2 ^ 24 := pow24 (by omega)
   refine Ev.succ ?_
   simp only [impl_closure.l0]
   refine Ev.pos (by omega) (Ev.pos (by omega) (Ev.pos (by simp; omega) ?_))
   rw [one_eq i (by omega), rd_mat n _ i (by omega)]
   refine Ev.some_bind ?_
   rw [b_or _ _ (mk62 (by omega) _) (two62 (by omega)), mk_or_one n _ i (by omega), w64' (by omega), Int.toNat_natCast, mat_row n _ i (by omega)]
   have e : mat n (fun a b => if a = i then (((decide (i = b) && decide (i < i)) || f i b) || decide (b = i)) else (decide (a = b) && decide (a < i)) || f a b) = mat n fun a b => (decide (a = b) && decide (a < i + 1)) || f a b := mat_congr fun a b ha hb => by
    by_cases e : a = i
    ·subst e
     rw [if_pos rfl]
     by_cases e2 : a = b
     ·subst e2; simp
     ·simp [e2, show ¬ b = a from fun h => e2 h.symm]
    ·rw [if_neg e]
     by_cases e2 : a < i
     ·simp [e2, show a < i + 1 by omega]
     ·simp [e2, show ¬ a < i + 1 by omega]
   rw [e]
   exact i1
 simp only [impl_closure.f]
 unfold slices_Clone_int64_int64.f
 rw [if_pos (by simp; omega)]
 refine Ev.some_bind ?_
 have := loop n 0 (by omega)
 have e : mat n (fun a b => (decide (a = b) && decide (a < 0)) || f a b) = mat n f := mat_congr fun a b _ _ => by simp
 rw [e] at this
 rw [mat_length]
 exact this
theorem orderOf_ev (n : Nat) (hn : n ≤ 8) (f : Nat → Nat → Bool) (w : List Nat) (hl : w.length ≤ 24) (hw : ∀ x ∈ w, x < n) : Ev (fun k => impl_ties_orderOf.f k (mat n f) (ints w)) (mat w.length (ordP f w)) := by
 have h24 := pow_lt62 hl
 have h8 := pow_lt62 (show n ≤ 24 by omega)
 have outer : ∀ (d i : Nat), i + d = w.length → Ev (fun k => impl_ties_orderOf.l0 k (mat n f) (ints w) (mat w.length fun a b => decide (a < i) && eP f w a b) (ints w) (w.length : Int) (i : Int)) (mat w.length (ordP f w)) := by
  intro d
  induction d with
  | zero =>
   intro i hi
   refine Ev.succ ?_
   simp only [impl_ties_orderOf.l0]
   refine Ev.neg (by omega) ?_
   have e : mat w.length (fun a b => decide (a < i) && eP f w a b) = mat w.length (eP f w) := mat_congr fun a b ha _ => by simp [show a < i by omega]
   rw [e]
   exact Ev.bind (closure_ev w.length hl (eP f w)) (Ev.now _)
  | succ d ih =>
   intro i hi
   have i1 := ih (i + 1) (by omega)
   have hx := getD_lt hw (show i < w.length by omega)
   have inner : ∀ (e k : Nat), k + e = w.length → i < k → Ev (fun q => impl_ties_orderOf.l1 q (mat n f) (ints w) (mat w.length fun a b => (decide (a < i) && eP f w a b) || (decide (a = i ∧ b < k) && eP f w a b)) (i : Int) ((w.getD i 0 : Nat) : Int) (k : Int) (ints w) (w.length : Int) (i : Int)) (mat w.length (ordP f w)) := by
    intro e
    induction e with
    | zero =>
     intro k hk hik
     refine Ev.succ ?_
     simp only [impl_ties_orderOf.l1]
     refine Ev.neg (by simp; omega) ?_
     rw [w64' (by omega)]
     have e : mat w.length (fun a b => (decide (a < i) && eP f w a b) || (decide (a = i ∧ b < k) && eP f w a b)) = mat w.length fun a b => decide (a < i + 1) && eP f w a b := mat_congr fun a b ha hb => by
      by_cases e1 : a = i
      ·subst e1; simp [show b < k by omega]
      ·by_cases e2 : a < i
       ·simp [e1, e2, show a < i + 1 by omega]
       ·simp [e1, e2, show ¬ a < i + 1 by omega]
     rw [e]
     exact i1
    | succ e ihe =>
     intro k hk hik
     have j1 := ihe (k + 1) (by omega) (by omega)
     have hy := getD_lt hw (show k < w.length by omega)
     have h1 := mk_lt n (f (w.getD i 0))
     refine Ev.succ ?_
     simp only [impl_ties_orderOf.l1]
     refine Ev.pos (by simp; omega) (Ev.pos (by omega) (Ev.pos (by rw [mat_length]; omega) (Ev.pos (by omega) ?_)))
     rw [rd_getD, rd_mat n f _ hx, has_eq _ _ (mk62 (by omega) _) (by omega), testBit_mk]
     have hee : eP f w i k = f (w.getD i 0) (w.getD k 0) := by simp [eP, hik, show k < w.length by omega]
     refine Ev.some_bind (Ev.ite (fun c => ?_) (fun c => ?_))
     ·have c' : eP f w i k = true := hee.trans (Bool.and_eq_true_iff.1 c).2
      have h2 := mk_lt w.length ((fun a b => (decide (a < i) && eP f w a b) || (decide (a = i ∧ b < k) && eP f w a b)) i)
      have h3 : (2 : Nat) ^ k ≤ 2 ^ 24 := pow24 (by omega)
      refine Ev.pos (by omega) (Ev.pos (by simp; omega) ?_)
      rw [one_eq k (by omega), rd_mat w.length _ i (by omega), w64' (by omega)]
      refine Ev.some_bind ?_
      rw [b_or _ _ (mk62 (by omega) _) (two62 (by omega)), mk_or_one w.length _ k (by omega), Int.toNat_natCast, mat_row w.length _ i (by omega)]
      have e : mat w.length (fun a b => if a = i then (((decide (i < i) && eP f w i b) || (decide (i = i ∧ b < k) && eP f w i b)) || decide (b = k)) else (decide (a < i) && eP f w a b) || (decide (a = i ∧ b < k) && eP f w a b)) = mat w.length fun a b => (decide (a < i) && eP f w a b) || (decide (a = i ∧ b < k + 1) && eP f w a b) := mat_congr fun a b ha hb => by
       by_cases e1 : a = i
       ·subst e1
        rw [if_pos rfl]
        by_cases e2 : b = k
        ·subst e2; simp [c']
        ·by_cases e3 : b < k
         ·simp [e2, e3, show b < k + 1 by omega]
         ·simp [e2, e3, show ¬ b < k + 1 by omega]
       ·rw [if_neg e1]; simp [e1]
      rw [e]
      exact j1
     ·have c' : eP f w i k = false := hee.trans (Bool.eq_false_iff.2 fun h => c (by rw [h, decide_eq_true hy]; rfl))
      rw [w64' (by omega)]
      have e : mat w.length (fun a b => (decide (a < i) && eP f w a b) || (decide (a = i ∧ b < k) && eP f w a b)) = mat w.length fun a b => (decide (a < i) && eP f w a b) || (decide (a = i ∧ b < k + 1) && eP f w a b) := mat_congr fun a b ha hb => by
       by_cases e1 : a = i
       ·subst e1
        by_cases e2 : b = k
        ·subst e2; simp [c']
        ·by_cases e3 : b < k
         ·simp [e3, show b < k + 1 by omega]
         ·simp [e3, show ¬ b < k + 1 by omega]
       ·simp [e1]
      rw [e]
      exact j1
   have := inner (w.length - (i + 1)) (i + 1) (by omega) (by omega)
   have e : mat w.length (fun a b => (decide (a < i) && eP f w a b) || (decide (a = i ∧ b < i + 1) && eP f w a b)) = mat w.length fun a b => decide (a < i) && eP f w a b := mat_congr fun a b ha hb => by
    by_cases e1 : a = i ∧ b < i + 1
    ·have : eP f w a b = false := by simp [eP]; omega
     simp [this]
    ·simp [e1]
   rw [e] at this
   refine Ev.succ ?_
   simp only [impl_ties_orderOf.l0]
   refine Ev.pos (by omega) (Ev.pos (by omega) (Ev.pos (by simp; omega) ?_))
   rw [rd_getD, w64' (by omega)]
   exact this
 simp only [impl_ties_orderOf.f]
 refine Ev.pos (by omega) (Ev.pos (by simp; omega) ?_)
 have := outer w.length 0 (by omega)
 have e : mat w.length (fun a b => decide (a < 0) && eP f w a b) = List.replicate w.length 0 := by
  apply List.ext_getElem
  ·simp
  ·intro q h1 h2
   simp only [mat, List.getElem_map, List.getElem_range, List.getElem_replicate]
   have : mk w.length (fun b => decide (q < 0) && eP f w q b) = 0 := Nat.eq_of_testBit_eq fun i => by rw [testBit_mk]; simp
   rw [this]; rfl
 rw [e] at this
 rw [ints_length, Int.toNat_natCast]
 exact this
theorem l04Order_ev (n : Nat) (hn : n ≤ 8) (f : Nat → Nat → Bool) (w : List Nat) (hl : w.length ≤ 24) (hw : ∀ x ∈ w, x < n) : Ev (fun k => spec_l04Order.f k (n : Int) (mat n f) (ints w)) (mat w.length (ordP f w)) := by
 have h24 := pow_lt62 hl
 have hlast : ∀ i k, ordP f w i k = true ↔ i = k ∨ ∃ j, i ≤ j ∧ j < k ∧ ordP f w i j = true ∧ eP f w j k = true := fun i k => clos_last fun i k h => eP_lt h
 have hle : ∀ i k, ordP f w i k = true → i ≤ k := fun i k h => clos_le (fun i k h => (eP_lt h).1) h
 -- row i as far as position k
 let row : Nat → Nat → Nat := fun i k => mk w.length fun b => decide (b < k) && ordP f w i b
 have outer : ∀ (d i : Nat), i + d = w.length → Ev (fun q => spec_l04Order.l0 q (ints w) ((List.range i).map fun a => ((mk w.length (ordP f w a) : Nat) : Int)) (i : Int) (n : Int) (mat n f)) (mat w.length (ordP f w)) := by
  intro d
  induction d with
  | zero =>
   intro i hi
   obtain rfl : i = w.length := by omega
   refine Ev.succ ?_
   simp only [spec_l04Order.l0]
   exact Ev.neg (by simp) (Ev.now _)
  | succ d ih =>
   intro i hi
   have i1 := ih (i + 1) (by omega)
   rw [List.range_succ, List.map_append] at i1
   have one : 2 ^ i = mk w.length fun b => decide (b < i + 1) && ordP f w i b := bits_ext fun b => by
    rw [testBit_mk, testBit_one]
    by_cases e : i = b
    ·subst e
     have : ordP f w i i = true := clos_refl _ _
     simp [this, show i < w.length by omega]
    ·have : (decide (b < i + 1) && ordP f w i b) = false := by
      by_cases e2 : b < i
      ·have : ¬ ordP f w i b = true := fun h => by have := hle i b h; omega
       simpa [show b < i + 1 by omega] using this
      ·simp [show ¬ b < i + 1 by omega]
     simp [e, this]
   have mid : ∀ (e k : Nat), k + e = w.length → i < k → Ev (fun q => spec_l04Order.l1 q (ints w) ((List.range i).map fun a => ((mk w.length (ordP f w a) : Nat) : Int)) (i : Int) ((mk w.length (fun b => decide (b < k) && ordP f w i b) : Nat) : Int) (k : Int) (n : Int) (mat n f)) (mat w.length (ordP f w)) := by
    intro e
    induction e with
    | zero =>
     intro k hk hik
     refine Ev.succ ?_
     simp only [spec_l04Order.l1]
     refine Ev.neg (by simp; omega) (Ev.pos (by simp; omega) ?_)
     rw [w64' (by omega), mk_congr (q := ordP f w i) fun b hb => by simp [show b < k by omega]]
     exact i1
    | succ e ihe =>
     intro k hk hik
     have j1 := ihe (k + 1) (by omega) (by omega)
     have h3 : (2 : Nat) ^ k ≤ 2 ^ 24 := pow24 (by omega)
     -- the positions below j have been looked at
     have inner : ∀ (e2 j : Nat), j + e2 = k → i ≤ j → ∀ (B : Bool), (B = true ↔ ∃ j', i ≤ j' ∧ j' < j ∧ ordP f w i j' = true ∧ eP f w j' k = true) →
       Ev (fun q => spec_l04Order.l2 q (ints w) ((List.range i).map fun a => ((mk w.length (ordP f w a) : Nat) : Int)) (i : Int) ((mk w.length (fun b => (decide (b < k) && ordP f w i b) || (decide (b = k) && B)) : Nat) : Int) (k : Int) (j : Int) (n : Int) (mat n f)) (mat w.length (ordP f w)) := by
      intro e2
      induction e2 with
      | zero =>
       intro j hj hij B hB
       obtain rfl : j = k := by omega
       refine Ev.succ ?_
       simp only [spec_l04Order.l2]
       refine Ev.neg (by omega) ?_
       have hB' : B = ordP f w i j := by
        rw [Bool.eq_iff_iff, hB, hlast i j]
        constructor
        ·exact .inr
        ·rintro (h | h)
         ·omega
         ·exact h
       rw [w64' (by omega), mk_congr (q := fun b => decide (b < j + 1) && ordP f w i b) fun b hb => by
        by_cases e1 : b = j
        ·subst e1; simp [hB']
        ·by_cases e2 : b < j
         ·simp [e1, e2, show b < j + 1 by omega]
         ·simp [e1, e2, show ¬ b < j + 1 by omega]]
       exact j1
      | succ e2 ih2 =>
       intro j hj hij B hB
       have h1 := mk_lt w.length (fun b => (decide (b < k) && ordP f w i b) || (decide (b = k) && B))
       have hxj := getD_lt hw (show j < w.length by omega)
       have hxk := getD_lt hw (show k < w.length by omega)
       have hjk : j < k := by omega
       refine Ev.succ ?_
       simp only [spec_l04Order.l2]
       refine Ev.pos (by omega) ?_
       rw [l01Bit_eq _ j (mk62 (by omega) _) (by omega), testBit_mk]
       have hbit : (decide (j < w.length) && ((decide (j < k) && ordP f w i j) || (decide (j = k) && B))) = ordP f w i j := by simp [hjk, show j < w.length by omega, show ¬ j = k by omega]
       rw [hbit]
       have hee : eP f w j k = f (w.getD j 0) (w.getD k 0) := by simp [eP, hjk, show k < w.length by omega]
       refine Ev.some_bind (Ev.ite (fun c => ?_) (fun c => ?_))
       ·refine Ev.pos (by omega) (Ev.pos (by simp; omega) (Ev.pos (by omega) (Ev.pos (by simp; omega) ?_)))
        rw [rd_getD, rd_getD, l02Dep_eq n (by omega) f _ _ _ hxj hxk, l01One_eq k (by omega), w64' (by omega)]
        refine Ev.some_bind (Ev.ite (fun g => Ev.some_bind ?_) (fun g => ?_))
        ·rw [b_or _ _ (mk62 (by omega) _) (two62 (by omega)), mk_or_one w.length _ k (by omega)]
         have := ih2 (j + 1) (by omega) (by omega) true ⟨fun _ => ⟨j, hij, by omega, c, by rw [hee]; exact g⟩, fun _ => rfl⟩
         rw [mk_congr (q := fun b => (decide (b < k) && ordP f w i b) || (decide (b = k) && true)) fun b hb => by
          by_cases e1 : b = k
          ·subst e1; simp
          ·simp [e1]]
         exact this
        ·exact ih2 (j + 1) (by omega) (by omega) B (hB.trans ⟨fun ⟨j', a1, a2, a3⟩ => ⟨j', a1, by omega, a3⟩, fun ⟨j', a1, a2, a3, a4⟩ => by
          by_cases e1 : j' = j
          ·subst e1; rw [hee] at a4; exact absurd a4 g
          ·exact ⟨j', a1, by omega, a3, a4⟩⟩)
       ·rw [w64' (by omega)]
        exact ih2 (j + 1) (by omega) (by omega) B (hB.trans ⟨fun ⟨j', a1, a2, a3⟩ => ⟨j', a1, by omega, a3⟩, fun ⟨j', a1, a2, a3, a4⟩ => by
          by_cases e1 : j' = j
          ·subst e1; exact absurd a3 c
          ·exact ⟨j', a1, by omega, a3, a4⟩⟩)
     have := inner (k - i) i (by omega) (Nat.le_refl _) false ⟨by simp, fun ⟨j', a1, a2, _⟩ => by omega⟩
     rw [mk_congr (q := fun b => decide (b < k) && ordP f w i b) fun b hb => by simp] at this
     refine Ev.succ ?_
     simp only [spec_l04Order.l1]
     exact Ev.pos (by simp; omega) this
   have := mid (w.length - (i + 1)) (i + 1) (by omega) (by omega)
   rw [← one] at this
   refine Ev.succ ?_
   simp only [spec_l04Order.l0]
   refine Ev.pos (by simp; omega) ?_
   rw [l01One_eq i (by omega), w64' (by omega)]
   exact Ev.some_bind this
 simp only [spec_l04Order.f]
 exact outer w.length 0 (by omega)
theorem l04Code_ok (n : Nat) (hn : n ≤ 8) (f : Nat → Nat → Bool) (hs : ∀ a b, f a b = f b a) (w : List Nat) (hl : w.length ≤ 24) (hw : ∀ x ∈ w, x < n) (hc : Ev (fun k => spec_l03Code.f k (n : Int) (mat n f) (ints w) (ints w)) 0) :
  Ev (fun k => spec_l04Code.f k (n : Int) (mat n f) (ints w)) (ints (normalP f n w), mat w.length (ordP f (normalP f n w)), 0) := by
 have hnl := normalP_length f hs hw
 simp only [spec_l04Code.f]
 refine Ev.bind hc (Ev.pos rfl (Ev.bind (l03Normal_ev n (by omega) f w (by omega) hw) ?_))
 have := l04Order_ev n hn f _ (by omega) (normalP_lt f hs hw)
 rw [hnl] at this
 exact Ev.bind this (Ev.now _)
theorem l04Code_bad (n : Int) (D w : List Int) (c : Int) (h0 : c ≠ 0) (hc : Ev (fun k => spec_l03Code.f k n D w w) c) : Ev (fun k => spec_l04Code.f k n D w) ([], [], c) := by
 simp only [spec_l04Code.f]
 exact Ev.bind hc (Ev.neg h0 (Ev.now _))
theorem positions_ev (n : Nat) (hn : n ≤ 8) (f : Nat → Nat → Bool) (hs : ∀ a b, f a b = f b a) (w : List Nat) (hl : w.length ≤ 24) (hw : ∀ x ∈ w, x < n) :
  Ev (fun k => impl_positions.f k (n : Int) (mat n f) (ints w)) (ints (normalP f n w), mat w.length (ordP f (normalP f n w))) := by
 have hnl := normalP_length f hs hw
 simp only [impl_positions.f, impl_Alphabet_ties.f]
 refine Ev.some_bind (Ev.bind (normal_ev n hn f w (by omega) hw) (Ev.some_bind ?_))
 have := orderOf_ev n hn f _ (by omega) (normalP_lt f hs hw)
 rw [hnl] at this
 exact Ev.bind this (Ev.now _)
theorem chainsFrom_l1 (n : Nat) (hn : n ≤ 24) (g : Nat → Nat → Bool) (xs : List Nat) (hx : xs.length = n) (hb : ∀ j, xs.getD j 0 ≤ 100) (i : Nat) (hi : i < n) (ks : List Nat) (hks : ∀ k ∈ ks, i < k ∧ k < n) (hkl : ks.length ≤ 64) (R : List Int)
  (hR : Ev (fun q => impl_chainsFrom.l0 q (mat n g) (ints (xs.set i (topV (fun k => xs.getD k 0) ks))) ((i : Int) - 1)) R) :
  ∀ (suf pre : List Nat), pre ++ suf = ks → topV (fun k => xs.getD k 0) pre ≤ 101 → Ev (fun q => impl_chainsFrom.l1 q (mat n g) (ints (xs.set i (topV (fun k => xs.getD k 0) pre))) (i : Int) (ints ks) ((ints ks).length : Int) (pre.length : Int)) R := by
 intro suf
 induction suf with
 | nil =>
  intro pre hp _
  rw [List.append_nil] at hp
  subst hp
  refine Ev.succ ?_
  simp only [impl_chainsFrom.l1]
  rw [w64' (show -9000000000000000000 ≤ (i : Int) - 1 ∧ (i : Int) - 1 ≤ 9000000000000000000 by omega)]
  exact Ev.neg (by simp) hR
 | cons b suf ih =>
  intro pre hp ht
  have hbk := hks b (by rw [← hp]; simp)
  have hlen : pre.length + suf.length + 1 = ks.length := by rw [← hp]; simp; omega
  have hbv := hb b
  have i1 := ih (pre ++ [b]) (by simpa using hp) (by rw [topV_snoc]; omega)
  rw [show (pre ++ [b]).length = pre.length + 1 by simp, topV_snoc] at i1
  have rb : rd (ints ks) (pre.length : Int) = (b : Int) := by rw [← hp]; exact rd_mid pre suf b
  have r1 : rd (ints (xs.set i (topV (fun k => xs.getD k 0) pre))) (i : Int) = ((topV (fun k => xs.getD k 0) pre : Nat) : Int) := by
   rw [rd_getD, getD_set _ _ _ _ (by omega), if_pos rfl]
  have r2 : rd (ints (xs.set i (topV (fun k => xs.getD k 0) pre))) (b : Int) = ((xs.getD b 0 : Nat) : Int) := by
   rw [rd_getD, getD_set _ _ _ _ (by omega), if_neg (by omega)]
  refine Ev.succ ?_
  simp only [impl_chainsFrom.l1]
  refine Ev.pos (by simp; omega) (Ev.pos (by omega) (Ev.pos (by simp; omega) (Ev.pos (by omega) (Ev.pos (by simp; omega) ?_))))
  rw [rb, r1, r2]
  refine Ev.pos (by omega) (Ev.pos (by simp; omega) ?_)
  rw [w64' (show -9000000000000000000 ≤ ((xs.getD b 0 : Nat) : Int) + 1 ∧ ((xs.getD b 0 : Nat) : Int) + 1 ≤ 9000000000000000000 by omega), w64' (by omega), show mx ((topV (fun k => xs.getD k 0) pre : Nat) : Int) (((xs.getD b 0 : Nat) : Int) + 1) = ((max (topV (fun k => xs.getD k 0) pre) (xs.getD b 0 + 1) : Nat) : Int) by unfold mx; split <;> omega, Int.toNat_natCast, ints_set, List.set_set]
  exact i1
theorem chainsFrom_l0 (n : Nat) (hn : n ≤ 24) (g : Nat → Nat → Bool) (hg : ∀ i k, g i k = true → i ≤ k) : ∀ (i : Nat) (xs : List Nat), i ≤ n → xs.length = n → (∀ j, j < i → xs.getD j 0 = 0) → (∀ j, i ≤ j → j < n → ChainAt g n (fun k => xs.getD k 0) j) →
  ∃ ys : List Nat, ys.length = n ∧ (∀ j, j < n → ChainAt g n (fun k => ys.getD k 0) j) ∧ Ev (fun q => impl_chainsFrom.l0 q (mat n g) (ints xs) ((i : Int) - 1)) (ints ys) := by
 have h24 := pow_lt62 hn
 intro i
 induction i with
 | zero =>
  intro xs _ hx _ hc
  refine ⟨xs, hx, fun j hj => hc j (by omega) hj, Ev.succ ?_⟩
  simp only [impl_chainsFrom.l0]
  exact Ev.neg (by omega) (Ev.now _)
 | succ i ih =>
  intro xs hi hx h0 hc
  have hbd : ∀ j, xs.getD j 0 ≤ 24 := fun j => by
   by_cases h1 : j < i + 1
   ·rw [h0 j h1]; omega
   ·by_cases h2 : j < n
    ·have : xs.getD j 0 ≤ n - j := ChainAt.le hc (n - j - 1) j (by omega) (by omega)
     omega
    ·rw [List.getD_eq_getElem?_getD, List.getElem?_eq_none (by omega)]; simp
  have hrow := mk_lt n (fun k => g i k && !decide (k = i))
  have hbits : ∀ k, k ∈ bitsOf (mk n (fun k => g i k && !decide (k = i))) ↔ k < n ∧ g i k = true ∧ k ≠ i := fun k => by
   rw [mem_bitsOf (by have : (2 : Nat) ^ 62 < 2 ^ 64 := (by decide); omega), testBit_mk]
   simp
  have hks : ∀ k ∈ bitsOf (mk n (fun k => g i k && !decide (k = i))), i < k ∧ k < n := fun k hk => by
   obtain ⟨k1, k2, k3⟩ := (hbits k).1 hk
   have := hg i k k2
   omega
  obtain ⟨t1, t2, t3⟩ := topV_spec (fun k => xs.getD k 0) (bitsOf (mk n (fun k => g i k && !decide (k = i))))
  have h64 := bitsOf_length (mk n (fun k => g i k && !decide (k = i)))
  have hget : ∀ v j, (xs.set i v).getD j 0 = if i = j then v else xs.getD j 0 := fun v j => getD_set xs i j v (by omega)
  obtain ⟨ys, y1, y2, y3⟩ := ih (xs.set i (topV (fun k => xs.getD k 0) (bitsOf (mk n (fun k => g i k && !decide (k = i)))))) (by omega) (by simpa using hx) (fun j hj => by rw [hget, if_neg (by omega)]; exact h0 j (by omega)) (fun j hj hjn => by
   by_cases e : i = j
   ·subst e
    refine ⟨?_, fun k k1 k2 k3 => ?_, ?_⟩
    ·simp only [hget, if_true]; exact t1
    ·simp only [hget, if_true, if_neg (show ¬ i = k by omega)]
     exact t2 k ((hbits k).2 ⟨k2, k3, by omega⟩)
    ·simp only [hget, if_true]
     rcases t3 with t3 | ⟨k, k1, k2⟩
     ·exact .inl t3
     ·have hk := hks k k1
      exact .inr ⟨k, hk.1, hk.2, ((hbits k).1 k1).2.1, by rw [if_neg (by omega)]; exact k2⟩
   ·obtain ⟨c1, c2, c3⟩ := hc j (by omega) hjn
    refine ⟨?_, fun k k1 k2 k3 => ?_, ?_⟩
    ·simp only [hget, if_neg e]; exact c1
    ·simp only [hget, if_neg e, if_neg (show ¬ i = k by omega)]
     exact c2 k k1 k2 k3
    ·simp only [hget, if_neg e]
     rcases c3 with c3 | ⟨k, k1, k2, k3, k4⟩
     ·exact .inl c3
     ·exact .inr ⟨k, k1, k2, k3, by rw [if_neg (by omega)]; exact k4⟩)
  refine ⟨ys, y1, y2, Ev.succ ?_⟩
  have l1 := chainsFrom_l1 n hn g xs hx (fun j => by have := hbd j; omega) i (by omega) _ hks h64 _ y3 (bitsOf (mk n (fun k => g i k && !decide (k = i)))) [] rfl (by simp [topV])
  have e1 : without (mk n (g i)) (2 ^ i) = mk n (fun k => g i k && !decide (k = i)) := by
   refine bits_ext fun b => ?_
   rw [testBit_without _ _ _ (mk62 hn _) (two62 (by omega)), testBit_mk, testBit_mk, testBit_one]
   by_cases e : i = b
   ·subst e; simp
   ·simp [e, show ¬ b = i from fun h => e h.symm]
  simp only [impl_chainsFrom.l0]
  rw [show ((i + 1 : Nat) : Int) - 1 = (i : Int) by omega]
  refine Ev.pos (by omega) (Ev.pos (by omega) (Ev.pos (by simp; omega) (Ev.pos (by simp; omega) ?_)))
  rw [one_eq i (by omega), rd_mat n g i (by omega)]
  refine Ev.some_bind ?_
  rw [b_andNot _ _ (mk62 hn _) (two62 (by omega)), e1, Int.toNat_natCast]
  refine Ev.bind (members_ev _ (by omega)) ?_
  rw [show (ints xs).set i 1 = ints (xs.set i 1) from ints_set xs i 1]
  exact l1
theorem chainsFrom_ev (n : Nat) (hn : n ≤ 24) (g : Nat → Nat → Bool) (hg : ∀ i k, g i k = true → i ≤ k) : ∃ ys : List Nat, ys.length = n ∧ (∀ j, j < n → ChainAt g n (fun k => ys.getD k 0) j) ∧ Ev (fun k => impl_chainsFrom.f k (mat n g)) (ints ys) := by
 obtain ⟨ys, h1, h2, h3⟩ := chainsFrom_l0 n hn g hg n (List.replicate n 0) (Nat.le_refl n) (by simp) (fun j hj => by simp [List.getD_eq_getElem?_getD, hj]) (fun j hj hjn => by omega)
 refine ⟨ys, h1, h2, ?_⟩
 simp only [impl_chainsFrom.f]
 refine Ev.pos (by omega) (Ev.pos (by simp; omega) ?_)
 rw [mat_length, w64' (by omega), Int.toNat_natCast]
 have e : ints (List.replicate n 0) = List.replicate n 0 := by simp [ints]
 rw [e] at h3
 exact h3
theorem spec_Latest_l0 (w back : List Nat) (hl : w.length ≤ 24) (hb : back.length = w.length) (hB : ∀ j, back.getD j 0 ≤ 100) (H : Nat) (hH : H ≤ 100) : ∀ (d i : Nat), i + d = w.length →
  Ev (fun k => spec_LatestSteps.l0 k (ints w) (H : Int) (ints back) (latestP H i fun j => back.getD (w.length - 1 - j) 0) (i : Int)) (latestP H w.length fun j => back.getD (w.length - 1 - j) 0, 0) := by
 intro d
 induction d with
 | zero =>
  intro i hi
  obtain rfl : i = w.length := by omega
  refine Ev.succ ?_
  simp only [spec_LatestSteps.l0]
  exact Ev.neg (by simp) (Ev.now _)
 | succ d ih =>
  intro i hi
  have i1 := ih (i + 1) (by omega)
  rw [latestP_succ] at i1
  have hBi := hB (w.length - 1 - i)
  refine Ev.succ ?_
  simp only [spec_LatestSteps.l0]
  rw [ints_length, ints_length, w64' (show -9000000000000000000 ≤ (w.length : Int) - 1 ∧ (w.length : Int) - 1 ≤ 9000000000000000000 by omega), w64' (show -9000000000000000000 ≤ (w.length : Int) - 1 - (i : Int) ∧ (w.length : Int) - 1 - (i : Int) ≤ 9000000000000000000 by omega), show (w.length : Int) - 1 - (i : Int) = ((w.length - 1 - i : Nat) : Int) by omega]
  refine Ev.pos (by omega) (Ev.pos (by omega) (Ev.pos (by omega) (Ev.pos (by rw [latestP_length]; omega) ?_)))
  rw [rd_getD, w64' (show -9000000000000000000 ≤ (H : Int) + 1 ∧ (H : Int) + 1 ≤ 9000000000000000000 by omega), w64' (by omega), w64' (by omega)]
  exact i1
theorem impl_Latest_l0 (n : Nat) (hn : n ≤ 24) (ys : List Nat) (hy : ys.length = n) (hB : ∀ j, ys.getD j 0 ≤ 100) (H : Nat) (hH : H ≤ 100) : ∀ (d i : Nat), i + d = n →
  Ev (fun k => impl_LatestSteps.l0 k (latestP H i (fun j => ys.getD j 0) ++ (ints ys).drop i) (H : Int) (n : Int) (i : Int)) (latestP H n fun j => ys.getD j 0, 0) := by
 intro d
 induction d with
 | zero =>
  intro i hi
  obtain rfl : i = n := by omega
  refine Ev.succ ?_
  simp only [impl_LatestSteps.l0]
  refine Ev.neg (by omega) (Ev.const ?_)
  rw [List.drop_of_length_le (by simp; omega), List.append_nil]
 | succ d ih =>
  intro i hi
  have i1 := ih (i + 1) (by omega)
  rw [latestP_succ, List.append_assoc] at i1
  have hBi := hB i
  have ed : (ints ys).drop i = ((ys.getD i 0 : Nat) : Int) :: (ints ys).drop (i + 1) := by
   rw [List.drop_eq_getElem_cons (by simp; omega)]
   congr 1
   simp [ints, List.getD_eq_getElem?_getD, List.getElem?_eq_getElem (show i < ys.length by omega)]
  have hll := latestP_length H i (fun j => ys.getD j 0)
  have hr : rd (latestP H i (fun j => ys.getD j 0) ++ (ints ys).drop i) (i : Int) = ((ys.getD i 0 : Nat) : Int) := by
   rw [ed, rd_nat, List.getD_eq_getElem?_getD, List.getElem?_append_right (by omega), hll, Nat.sub_self]; rfl
  refine Ev.succ ?_
  simp only [impl_LatestSteps.l0]
  refine Ev.pos (by omega) (Ev.pos (by omega) (Ev.pos (by rw [List.length_append, hll, List.length_drop, ints_length]; omega) ?_))
  rw [hr, w64' (show -9000000000000000000 ≤ (H : Int) + 1 ∧ (H : Int) + 1 ≤ 9000000000000000000 by omega), w64' (by omega), w64' (by omega), Int.toNat_natCast]
  have es : (latestP H i (fun j => ys.getD j 0) ++ (ints ys).drop i).set i ((H : Int) + 1 - ((ys.getD i 0 : Nat) : Int)) = latestP H i (fun j => ys.getD j 0) ++ ([(H : Int) + 1 - ((ys.getD i 0 : Nat) : Int)] ++ (ints ys).drop (i + 1)) := by
   rw [ed, List.set_append_right _ _ (by omega), hll, Nat.sub_self]; rfl
  rw [es]
  exact i1
end Go.Proofs.YtfldlkeabglnfaaDoor.PAll
