import Derived.Test.YthgapkbkhoeleaaDoorPAllx12
import Derived.Test.YthgapkbkhoeleaaDoorPAllx13
import Derived.Test.YthgapkbkhoeleaaDoorPAllx2
import Derived.Test.YthgapkbkhoeleaaDoorPAllx3
import Derived.Test.YthgapkbkhoeleaaDoorPAllx5
import Derived.Test.YthgapkbkhoeleaaDoorV0
import Derived.Test.YthgapkbkhoeleaaDoorV1
import Derived.Test.YthgapkbkhoeleaaDoorV2
import Derived.Test.YthgapkbkhoeleaaDoorV3
import Derived.Test.YthgapkbkhoeleaaDoorV5
import Derived.Test.YthgapkbkhoeleaaDoorQBase
import Derived.Test.YthgapkbkhoeleaaDoorQFoata
import Derived.Test.YthgapkbkhoeleaaDoorQMeet
import Derived.Test.YthgapkbkhoeleaaDoorQOrder
import Derived.Test.YthgapkbkhoeleaaDoorQRev
import Derived.Test.YthgapkbkhoeleaaDoorQTrace
import Derived.Test.YthgapkbkhoeleaaDoorQUp
set_option linter.unusedVariables false
set_option linter.unusedSimpArgs false
namespace Go.Proofs.YthgapkbkhoeleaaDoor.PAll
open Go.RowKit Go.Proofs.YthgapkbkhoeleaaDoorW.PrintWords Go.Proofs.YthgapkbkhoeleaaDoorW.PrintMore Go.Proofs.YthgapkbkhoeleaaDoor.Q
theorem l03Same_l0 (n : Nat) (hn : n ≤ 24) (f : Nat → Nat → Bool) : ∀ (u pre v : List Nat), (pre ++ u).length ≤ 1000000 → v.length ≤ 1000000 → (∀ x ∈ u, x < n) → (∀ x ∈ v, x < n) →
    Ev (fun k => spec_l03Same.l0 k (ints (pre ++ u)) (ints v) (pre.length : Int) (n : Int) (mat n f)) (decide (TrEq f u v)) := by
  intro u
  induction u with
  | nil =>
    intro pre v hl hv hu hw
    refine Ev.succ ?_
    simp only [spec_l03Same.l0]
    refine Ev.neg (by simp) (Ev.const ?_)
    congr 1
    rw [Bool.eq_iff_iff]
    simp only [beq_iff_eq, decide_eq_true_eq, TrEq.nil_iff, ints_length]
    constructor
    · intro h; exact List.eq_nil_of_length_eq_zero (by omega)
    · rintro rfl; rfl
  | cons a u ih =>
    intro pre v hl hv hu hw
    simp only [List.length_append, List.length_cons] at hl
    have ha : a < n := hu a (by simp)
    refine Ev.succ ?_
    simp only [spec_l03Same.l0]
    refine Ev.pos (by simp; omega) (Ev.pos (by omega) ?_)
    rw [rd_mid]
    refine Ev.bind (l03First_ev n hn f v hv hw a ha) ?_
    by_cases h : isFirst f v a = true
    · refine Ev.neg (by unfold fIdx; rw [if_pos h]; omega) ?_
      rw [l03Without_first f v hv a h, w64' (by omega)]
      refine Ev.some_bind ?_
      have := ih (pre ++ [a]) (v.erase a) (by simp; omega) (by have := length_erase f h; omega) (fun x hx => hu x (by simp [hx])) (erase_lt hw)
      simp only [List.append_assoc, List.cons_append, List.nil_append, List.length_append, List.length_cons, List.length_nil] at this
      refine Ev.val this ?_
      rw [decide_eq_decide, TrEq.cons_iff]
      simp [h]
    · refine Ev.pos (by unfold fIdx; rw [if_neg h]; omega) (Ev.const ?_)
      rw [decide_eq_false]
      rw [TrEq.cons_iff]
      exact fun e => h e.1
theorem l03Same_ev (n : Nat) (hn : n ≤ 24) (f : Nat → Nat → Bool) (u v : List Nat) (hl : u.length ≤ 1000000) (hv : v.length ≤ 1000000) (hu : ∀ x ∈ u, x < n) (hw : ∀ x ∈ v, x < n) : Ev (fun k => spec_l03Same.f k (n : Int) (mat n f) (ints u) (ints v)) (decide (TrEq f u v)) := by
  simp only [spec_l03Same.f]
  rw [l01Own_eq _ (by simp; omega)]
  exact Ev.some_bind (l03Same_l0 n hn f u [] v hl hv hu hw)
theorem Equal_ev (u v : List Int) (hl : u.length ≤ 1000000) : Ev (fun k => slices_Equal_int64_int64.f k u v) (decide (u = v)) := by
  simp only [slices_Equal_int64_int64.f]
  refine Ev.ite (fun c => ?_) (fun c => ?_)
  · have hlen : u.length = v.length := by omega
    have loop : ∀ (d i : Nat), i + d = u.length → Ev (fun k => slices_Equal_int64_int64.l0 k u v (u.length : Int) (i : Int)) (decide (u.drop i = v.drop i)) := by
      intro d
      induction d with
      | zero =>
        intro i hi
        refine Ev.succ ?_
        simp only [slices_Equal_int64_int64.l0]
        refine Ev.neg (by omega) (Ev.const ?_)
        rw [List.drop_of_length_le (by omega), List.drop_of_length_le (by omega)]
        simp
      | succ d ih =>
        intro i hi
        refine Ev.succ ?_
        simp only [slices_Equal_int64_int64.l0]
        refine Ev.pos (by omega) (Ev.pos (by omega) (Ev.pos (by omega) (Ev.pos (by omega) ?_)))
        rw [rd_lt u i (by omega), rd_lt v i (by omega), List.drop_eq_getElem_cons (show i < u.length by omega), List.drop_eq_getElem_cons (show i < v.length by omega)]
        refine Ev.ite (fun g => ?_) (fun g => ?_)
        · rw [w64' (by omega)]
          refine Ev.val (ih (i + 1) (by omega)) ?_
          rw [decide_eq_decide, List.cons.injEq]
          simp [g]
        · refine Ev.const ?_
          rw [decide_eq_false]
          rw [List.cons.injEq]
          exact fun h => g h.1
    exact loop u.length 0 (by omega)
  · refine Ev.const ?_
    rw [decide_eq_false]
    rintro rfl
    exact c rfl
theorem same_ev (n : Nat) (hn : n ≤ 8) (f : Nat → Nat → Bool) (hs : ∀ a b, f a b = f b a) (u v : List Nat) (hl : u.length ≤ 1000000) (hl2 : v.length ≤ 1000000) (hu : ∀ x ∈ u, x < n) (hw : ∀ x ∈ v, x < n) : Ev (fun k => impl_ties_same.f k (mat n f) (ints u) (ints v)) (decide (TrEq f u v)) := by
  simp only [impl_ties_same.f]
  refine Ev.bind (normal_ev n hn f u hl hu) (Ev.bind (normal_ev n hn f v hl2 hw) (Ev.bind (Equal_ev _ _ (by rw [ints_length, normalP_length f hs hu]; exact hl)) (Ev.const ?_)))
  congr 1
  rw [decide_eq_decide, ← normalP_eq_iff f hs _ u v rfl hu hw]
  exact ⟨ints_inj, fun h => by rw [h]⟩
theorem quotient_l0 (n : Nat) (hn : n ≤ 8) (f : Nat → Nat → Bool) : ∀ (u pre v : List Nat), (pre ++ u).length ≤ 1000000 → v.length ≤ 1000000 → (∀ x ∈ u, x < n) → (∀ x ∈ v, x < n) →
    Ev (fun k => impl_ties_quotient.l0 k (mat n f) (ints v) (ints (pre ++ u)) ((pre ++ u).length : Int) (pre.length : Int)) (cutR f u v) := by
  intro u
  induction u with
  | nil =>
    intro pre v hl hv hu hw
    refine Ev.succ ?_
    simp only [impl_ties_quotient.l0]
    exact Ev.neg (by simp) (Ev.const rfl)
  | cons a u ih =>
    intro pre v hl hv hu hw
    have hl' : pre.length + u.length + 1 ≤ 1000000 := by simpa [Nat.add_assoc] using hl
    have ha : a < n := hu a (by simp)
    have h4 := mk_lt n (isFirst f v)
    have h5 : (2 : Nat) ^ n ≤ 2 ^ 24 := pow24 (by omega)
    refine Ev.succ ?_
    simp only [impl_ties_quotient.l0]
    refine Ev.pos (by simp; omega) (Ev.pos (by omega) (Ev.pos (by simp; omega) (Ev.bind (firsts_ev n hn f v hv hw) ?_)))
    rw [rd_mid, has_eq _ a (by omega) (by omega), testBit_mk]
    refine Ev.some_bind ?_
    by_cases h : isFirst f v a = true
    · refine Ev.pos (by simp [ha, h]) (Ev.bind (withoutFirst_ev v hv a (isFirst_mem f h)) ?_)
      rw [w64' (by omega)]
      have := ih (pre ++ [a]) (v.erase a) (by simpa using hl) (by have := length_erase f h; omega) (fun x hx => hu x (by simp [hx])) (erase_lt hw)
      simp only [List.append_assoc, List.cons_append, List.nil_append] at this
      rw [show (pre ++ [a]).length = pre.length + 1 by simp] at this
      refine Ev.val this ?_
      unfold cutR
      rw [cutP_cons, if_pos h]
    · refine Ev.neg (by simp [h]) (Ev.const ?_)
      unfold cutR
      rw [cutP_cons, if_neg h]
theorem quotient_ev (n : Nat) (hn : n ≤ 8) (f : Nat → Nat → Bool) (u v : List Nat) (hl : u.length ≤ 1000000) (hv : v.length ≤ 1000000) (hu : ∀ x ∈ u, x < n) (hw : ∀ x ∈ v, x < n) : Ev (fun k => impl_ties_quotient.f k (mat n f) (ints u) (ints v)) (cutR f u v) := by
  simp only [impl_ties_quotient.f]
  have := quotient_l0 n hn f u [] v hl hv hu hw
  simpa using this
/-- two factorisations of one trace, laid open -/
def FourW (n : Int) (D l1 l2 l3 l4 : List Int) (m : Nat) (f : Nat → Nat → Bool) (u v y z : List Nat) : Prop := Two n D l1 l2 m f u v ∧ l3 = ints y ∧ l4 = ints z ∧ y.length ≤ 24 ∧ (∀ x ∈ y, x < m) ∧ z.length ≤ 24 ∧ (∀ x ∈ z, x < m)
theorem levi_spec_end {m : Nat} (hm : m ≤ 8) {f : Nat → Nat → Bool} {u v y : List Nat} (hul : u.length ≤ 24) (hu : ∀ x ∈ u, x < m) (hvl : v.length ≤ 24) (hv : ∀ x ∈ v, x < m) (hyl : y.length ≤ 24) (hy : ∀ x ∈ y, x < m)
    {p q b s : List Nat} (hM : Meets f u y p q b) (hs : cutP f b v = some s) (hl : Ev (fun k => spec_l05Meet.f k (m : Int) (mat m f) (ints u) (ints y)) (ints p)) :
    Ev (fun k => spec_LeviOf.j4 k (ints u) (ints v) (ints y) 0 (m : Int) (mat m f)) ([ints (normalP f m p), ints (normalP f m q), ints (normalP f m b), ints (normalP f m s)], 0) := by
  have lp := Meets.le f hM
  have lq := cutP_length f hM.1
  have lb := cutP_length f hM.2.1
  have ls := cutP_length f hs
  have hp : ∀ x ∈ p, x < m := fun x hx => hu x (cutP_mem f hM.1 x hx)
  have hq : ∀ x ∈ q, x < m := fun x hx => hu x (cutP_sub f hM.1 x hx)
  have hb : ∀ x ∈ b, x < m := fun x hx => hy x (cutP_sub f hM.2.1 x hx)
  have hss : ∀ x ∈ s, x < m := fun x hx => hv x (cutP_sub f hs x hx)
  have c1 := l05Cut_ev m (by omega) f p u (by omega) (by omega) hp hu
  have c2 := l05Cut_ev m (by omega) f p y (by omega) (by omega) hp hy
  have c3 := l05Cut_ev m (by omega) f b v (by omega) (by omega) hb hv
  unfold cutR at c1 c2 c3
  rw [hM.1] at c1
  rw [hM.2.1] at c2
  rw [hs] at c3
  refine Ev.succ ?_
  simp only [spec_LeviOf.j4]
  exact Ev.pos trivial (Ev.bind hl (Ev.bind c1 (Ev.bind c2 (Ev.bind c3 (Ev.bind (l03Normal_ev m (by omega) f p (by omega) hp) (Ev.bind (l03Normal_ev m (by omega) f q (by omega) hq) (Ev.bind (l03Normal_ev m (by omega) f b (by omega) hb) (Ev.bind (l03Normal_ev m (by omega) f s (by omega) hss) (Ev.now _)))))))))
theorem levi_spec_bad (l1 l2 l3 l4 : List Int) (n : Int) (D : List Int) (c : Int) (h : c ≠ 0) : Ev (fun k => spec_LeviOf.j0 k l1 l2 l3 l4 c n D) ([], c) := by
  refine Ev.succ ?_
  simp only [spec_LeviOf.j0]
  refine Ev.neg h (Ev.succ ?_)
  simp only [spec_LeviOf.j1]
  refine Ev.neg (by decide) (Ev.succ ?_)
  simp only [spec_LeviOf.j2]
  refine Ev.neg h (Ev.succ ?_)
  simp only [spec_LeviOf.j3]
  refine Ev.neg (by decide) (Ev.succ ?_)
  simp only [spec_LeviOf.j4]
  exact Ev.neg h (Ev.now _)
theorem levi_spec_long (l1 l2 l3 l4 : List Int) (n : Int) (D : List Int) : Ev (fun k => spec_LeviOf.j1 k l1 l2 l3 l4 0 true n D) ([], 3) := by
  refine Ev.succ ?_
  simp only [spec_LeviOf.j1]
  refine Ev.pos (by decide) (Ev.succ ?_)
  simp only [spec_LeviOf.j2]
  refine Ev.neg (by decide) (Ev.succ ?_)
  simp only [spec_LeviOf.j3]
  refine Ev.neg (by decide) (Ev.succ ?_)
  simp only [spec_LeviOf.j4]
  exact Ev.neg (by decide) (Ev.now _)
theorem levi_codes (n : Int) (D l1 l2 l3 l4 : List Int) : (∃ m f u v y z, FourW n D l1 l2 l3 l4 m f u v y z ∧ Ev (fun k => spec_l03Code.f k n D l1 l2) 0 ∧ Ev (fun k => spec_l03Code.f k n D l3 l4) 0 ∧ Ev (fun k => impl_checkWords.f k n D [l1, l2, l3, l4]) 0) ∨
    ∃ c : Int, c ≠ 0 ∧ Ev (fun k => spec_LeviOf.f k n D l1 l2 l3 l4) ([], c) ∧ Ev (fun k => impl_checkWords.f k n D [l1, l2, l3, l4]) c := by
  have hc := l03Code_ev n D l1 l2
  have hc2 := l03Code_ev n D l3 l4
  have hk := checkWords_ev n D [l1, l2, l3, l4]
  have e : (∀ x ∈ [l1, l2, l3, l4], Word n x) ↔ ((Word n l1 ∧ Word n l2) ∧ (Word n l3 ∧ Word n l4)) := by simp [and_assoc]
  simp only [e] at hk
  have bad1 : ∀ c : Int, c ≠ 0 → Ev (fun k => spec_l03Code.f k n D l1 l2) c → Ev (fun k => spec_LeviOf.f k n D l1 l2 l3 l4) ([], c) := fun c h0 h => by
    simp only [spec_LeviOf.f]
    exact Ev.bind h (Ev.neg h0 (levi_spec_bad l1 l2 l3 l4 n D c h0))
  by_cases hA : Alpha n D
  · by_cases hW : Word n l1 ∧ Word n l2
    · by_cases hW2 : Word n l3 ∧ Word n l4
      · rw [if_pos hA, if_pos hW] at hc
        rw [if_pos hA, if_pos hW2] at hc2
        rw [if_pos hA, if_pos ⟨hW, hW2⟩] at hk
        have hA2 := hA
        obtain ⟨m, f, rfl, rfl, hm, hs, hr⟩ := hA.form
        obtain ⟨u, rfl, hul, hu⟩ := hW.1.form
        obtain ⟨v, rfl, hvl, hv⟩ := hW.2.form
        obtain ⟨y, rfl, hyl, hy⟩ := hW2.1.form
        obtain ⟨z, rfl, hzl, hz⟩ := hW2.2.form
        exact .inl ⟨m, f, u, v, y, z, ⟨⟨rfl, rfl, rfl, rfl, hm, hs, hr, hul, hu, hvl, hv, hA2⟩, rfl, rfl, hyl, hy, hzl, hz⟩, hc, hc2, hk⟩
      · rw [if_pos hA, if_pos hW] at hc
        rw [if_pos hA, if_neg hW2] at hc2
        rw [if_pos hA, if_neg (fun z => hW2 z.2)] at hk
        refine .inr ⟨2, by decide, ?_, hk⟩
        simp only [spec_LeviOf.f]
        exact Ev.bind hc (Ev.pos rfl (Ev.bind hc2 (levi_spec_bad l1 l2 l3 l4 n D 2 (by decide))))
    · rw [if_pos hA, if_neg hW] at hc
      rw [if_pos hA, if_neg (fun z => hW z.1)] at hk
      exact .inr ⟨2, by decide, bad1 2 (by decide) hc, hk⟩
  · rw [if_neg hA] at hc hk
    exact .inr ⟨1, by decide, bad1 1 (by decide) hc, hk⟩
theorem LeviOf_both (n : Int) (D l1 l2 l3 l4 : List Int) : ∃ r : List (List Int) × Int, r.1.length ≤ 4 ∧ (∀ x ∈ r.1, x.length ≤ 24) ∧ Ev (fun k => spec_LeviOf.f k n D l1 l2 l3 l4) r ∧ Ev (fun k => impl_LeviOf.f k n D l1 l2 l3 l4) r ∧
    (r.2 = 0 → ∃ m f u v y z p q b s, FourW n D l1 l2 l3 l4 m f u v y z ∧ TrEq f (u ++ v) (y ++ z) ∧ Meets f u y p q b ∧ cutP f b v = some s ∧ TrEq f (q ++ s) z ∧ apartP f q b = true ∧ r.1 = [ints (normalP f m p), ints (normalP f m q), ints (normalP f m b), ints (normalP f m s)]) := by
  rcases levi_codes n D l1 l2 l3 l4 with ⟨m, f, u, v, y, z, F, hc, hc2, hk⟩ | ⟨c, h0, hsp, hk⟩
  · have F' := F
    obtain ⟨⟨rfl, rfl, rfl, rfl, hm, hs, hr, hul, hu, hvl, hv, hA⟩, rfl, rfl, hyl, hy, hzl, hz⟩ := F
    by_cases gl : 24 < u.length + v.length ∨ 24 < y.length + z.length
    · refine ⟨([], 3), by simp, by simp, ?_, ?_, fun h => by cases h⟩
      · simp only [spec_LeviOf.f]
        refine Ev.bind hc (Ev.pos rfl (Ev.bind hc2 (Ev.succ ?_)))
        simp only [spec_LeviOf.j0, ints_length]
        rw [w64' (by omega), w64' (by omega)]
        refine Ev.pos trivial (Ev.ite (fun _ => levi_spec_long _ _ _ _ _ _) (fun g => ?_))
        rw [decide_eq_true (by omega)]
        exact levi_spec_long _ _ _ _ _ _
      · simp only [impl_LeviOf.f, impl_Alphabet_ties.f, ints_length]
        rw [w64' (by omega), w64' (by omega)]
        have J : Ev (fun k => impl_LeviOf.j0 k (ints u) (ints v) (ints y) (ints z) (mat m f) true) ([], 3) := by
          refine Ev.succ ?_
          simp only [impl_LeviOf.j0]
          exact Ev.pos (by decide) (Ev.now _)
        refine Ev.bind hk (Ev.pos rfl (Ev.some_bind (Ev.ite (fun _ => J) (fun g => ?_))))
        rw [decide_eq_true (by omega)]
        exact J
    · have g1 : ¬ (24 : Int) < ((u.length : Int) + (v.length : Int)) := by omega
      have g2 : ¬ (24 : Int) < ((y.length : Int) + (z.length : Int)) := by omega
      have huv := mem_app hu hv
      have hyz := mem_app hy hz
      have sm := same_ev m hm f hs (u ++ v) (y ++ z) (by simp; omega) (by simp; omega) huv hyz
      have sm2 := l03Same_ev m (by omega) f (u ++ v) (y ++ z) (by simp; omega) (by simp; omega) huv hyz
      -- up to the test of sameness
      have S : ∀ R, Ev (fun k => spec_LeviOf.j3 k (ints u) (ints v) (ints y) 0 (!decide (TrEq f (u ++ v) (y ++ z))) (m : Int) (mat m f)) R → Ev (fun k => spec_LeviOf.f k (m : Int) (mat m f) (ints u) (ints v) (ints y) (ints z)) R := fun R h => by
        simp only [spec_LeviOf.f]
        refine Ev.bind hc (Ev.pos rfl (Ev.bind hc2 (Ev.succ ?_)))
        simp only [spec_LeviOf.j0, ints_length]
        rw [w64' (by omega), w64' (by omega)]
        refine Ev.pos trivial (Ev.neg g1 ?_)
        rw [decide_eq_false g2]
        refine Ev.succ ?_
        simp only [spec_LeviOf.j1]
        refine Ev.neg (by decide) (Ev.succ ?_)
        simp only [spec_LeviOf.j2]
        rw [l01Own_eq _ (by simp; omega), l01Own_eq _ (by simp; omega)]
        refine Ev.pos trivial (Ev.some_bind (Ev.pos (by simp; omega) (Ev.some_bind (Ev.pos (by simp; omega) ?_))))
        rw [← ints_append, ← ints_append]
        exact Ev.bind sm2 h
      have I : ∀ R, Ev (fun k => if decide (TrEq f (u ++ v) (y ++ z)) = true then ((impl_ties_meet.f k (mat m f) (ints u) (ints y)).bind fun bt360 => ((impl_ties_quotient.f k (mat m f) bt360.2.2 (ints v)).bind fun bt369 => ((impl_ties_normal.f k (mat m f) bt360.1).bind fun t373 => ((impl_ties_normal.f k (mat m f) bt360.2.1).bind fun t376 => ((impl_ties_normal.f k (mat m f) bt360.2.2).bind fun t379 => ((impl_ties_normal.f k (mat m f) bt369.1).bind fun t382 => (some ((([t373, t376, t379, t382] : List (List Int))), 0)))))))) else (some (([] : List (List Int)), 5))) R → Ev (fun k => impl_LeviOf.f k (m : Int) (mat m f) (ints u) (ints v) (ints y) (ints z)) R := fun R h => by
        simp only [impl_LeviOf.f, impl_Alphabet_ties.f, ints_length]
        rw [w64' (by omega), w64' (by omega)]
        refine Ev.bind hk (Ev.pos rfl (Ev.some_bind (Ev.neg g1 ?_)))
        rw [decide_eq_false g2]
        refine Ev.succ ?_
        simp only [impl_LeviOf.j0, slices_Concat_int64_int64.f]
        rw [if_pos (by simp; omega), if_pos (by simp; omega)]
        simp only [Option.bind_some, List.flatten_cons, List.flatten_nil, List.append_nil, ← ints_append]
        exact Ev.neg (by decide) (Ev.bind sm h)
      by_cases gt : TrEq f (u ++ v) (y ++ z)
      · obtain ⟨p, a, b, g1, h1⟩ := l05Meet_ev m (by omega) f u y (by omega) (by omega) hu hy
        obtain ⟨p2, a2, b2, g2, h2⟩ := meet_ev m hm f u y (by omega) (by omega) hu hy
        obtain ⟨tp, ea, eb⟩ := Meets.unique f hs g1 g2
        subst ea eb
        have hp : ∀ x ∈ p, x < m := fun x hx => hu x (cutP_mem f g1.1 x hx)
        have hp2 : ∀ x ∈ p2, x < m := fun x hx => hu x (cutP_mem f g2.1 x hx)
        have ha : ∀ x ∈ a, x < m := fun x hx => hu x (cutP_sub f g1.1 x hx)
        have hb : ∀ x ∈ b, x < m := fun x hx => hy x (cutP_sub f g1.2.1 x hx)
        obtain ⟨hap, s, cs, ts⟩ := levi f hs hr ha g1 gt
        have hss : ∀ x ∈ s, x < m := fun x hx => hv x (cutP_sub f cs x hx)
        have lp := Meets.le f g1
        have lp2 := Meets.le f g2
        have lq := cutP_length f g1.1
        have lb := cutP_length f g1.2.1
        have ls := cutP_length f cs
        have qe := quotient_ev m hm f b v (by omega) (by omega) hb hv
        unfold cutR at qe
        rw [cs] at qe
        have en := normalP_congr f hs hp hp2 tp
        refine ⟨([ints (normalP f m p), ints (normalP f m a), ints (normalP f m b), ints (normalP f m s)], 0), by simp, ?_, S _ ?_, I _ ?_, fun _ => ⟨m, f, u, v, y, z, p, a, b, s, F', gt, g1, cs, ts, hap, rfl⟩⟩
        · intro x hx
          simp only [List.mem_cons, List.not_mem_nil, or_false] at hx
          rcases hx with rfl | rfl | rfl | rfl
          · rw [ints_length, normalP_length f hs hp]; omega
          · rw [ints_length, normalP_length f hs ha]; omega
          · rw [ints_length, normalP_length f hs hb]; omega
          · rw [ints_length, normalP_length f hs hss]; omega
        · rw [decide_eq_true gt]
          refine Ev.succ ?_
          simp only [spec_LeviOf.j3]
          exact Ev.neg (by decide) (levi_spec_end hm hul hu hvl hv hyl hy g1 cs h1)
        · rw [en]
          exact Ev.pos (decide_eq_true gt) (Ev.bind h2 (Ev.bind qe (Ev.bind (normal_ev m hm f p2 (by omega) hp2) (Ev.bind (normal_ev m hm f a (by omega) ha) (Ev.bind (normal_ev m hm f b (by omega) hb) (Ev.bind (normal_ev m hm f s (by omega) hss) (Ev.now _)))))))
      · refine ⟨([], 5), by simp, by simp, S _ ?_, I _ ?_, fun h => by cases h⟩
        · rw [decide_eq_false gt]
          refine Ev.succ ?_
          simp only [spec_LeviOf.j3]
          refine Ev.pos (by decide) (Ev.succ ?_)
          simp only [spec_LeviOf.j4]
          exact Ev.neg (by decide) (Ev.now _)
        · exact Ev.neg (by simp [gt]) (Ev.now _)
  · refine ⟨([], c), by simp, by simp, hsp, ?_, fun h => absurd h h0⟩
    simp only [impl_LeviOf.f]
    exact Ev.bind hk (Ev.neg h0 (Ev.now _))
end Go.Proofs.YthgapkbkhoeleaaDoor.PAll
