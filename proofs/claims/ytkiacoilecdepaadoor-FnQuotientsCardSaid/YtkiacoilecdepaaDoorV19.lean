import Derived.Test.YtkiacoilecdepaaDoorPAllx20
import Derived.Test.YtkiacoilecdepaaDoorPAllx21
import Derived.Test.YtkiacoilecdepaaDoorPAllx31
import Derived.Test.YtkiacoilecdepaaDoorPAllx32
import Derived.Test.YtkiacoilecdepaaDoorPAllx4
import Derived.Test.YtkiacoilecdepaaDoorV0
import Derived.Test.YtkiacoilecdepaaDoorV1
import Derived.Test.YtkiacoilecdepaaDoorV10
import Derived.Test.YtkiacoilecdepaaDoorV14
import Derived.Test.YtkiacoilecdepaaDoorV2
import Derived.Test.YtkiacoilecdepaaDoorV3
import Derived.Test.YtkiacoilecdepaaDoorV4
import Derived.Test.YtkiacoilecdepaaDoorV8
import Derived.Test.YtkiacoilecdepaaDoorQBase
import Derived.Test.YtkiacoilecdepaaDoorQDraw
import Derived.Test.YtkiacoilecdepaaDoorQFoata
import Derived.Test.YtkiacoilecdepaaDoorQMeet
import Derived.Test.YtkiacoilecdepaaDoorQRev
import Derived.Test.YtkiacoilecdepaaDoorQTrace
set_option linter.unusedVariables false
set_option linter.unusedSimpArgs false
namespace Go.Proofs.YtkiacoilecdepaaDoor.PAll
open Go.RowKit Go.Proofs.YtkiacoilecdepaaDoorW.PrintWords Go.Proofs.YtkiacoilecdepaaDoorW.PrintMore Go.Proofs.YtkiacoilecdepaaDoor.Q
theorem Equal_ev (u v : List Int) (hl : u.length ≤ 1000000) : Ev (fun k => slices_Equal_int64_int64.f k u v) (decide (u = v)) := by
  simp only [slices_Equal_int64_int64.f]
  refine Ev.ite (fun c => ?_) (fun c => ?_)
  · have hlen : u.length = v.length := by omega
    have loop : ∀ (d i : Nat), i + d = u.length → Ev (fun k => slices_Equal_int64_int64.l0 k u v (u.length : Int) (i : Int)) (decide (u.drop i = v.drop i)) := by
      intro d
      induction d with
      | zero =>
        intro i hi
        refine Ev.succ ?_
        simp only [slices_Equal_int64_int64.l0]
        refine Ev.neg (by omega) (Ev.const ?_)
        rw [List.drop_of_length_le (by omega), List.drop_of_length_le (by omega)]
        simp
      | succ d ih =>
        intro i hi
        refine Ev.succ ?_
        simp only [slices_Equal_int64_int64.l0]
        refine Ev.pos (by omega) (Ev.pos (by omega) (Ev.pos (by omega) (Ev.pos (by omega) ?_)))
        rw [rd_lt u i (by omega), rd_lt v i (by omega), List.drop_eq_getElem_cons (show i < u.length by omega), List.drop_eq_getElem_cons (show i < v.length by omega)]
        refine Ev.ite (fun g => ?_) (fun g => ?_)
        · rw [w64' (by omega)]
          refine Ev.val (ih (i + 1) (by omega)) ?_
          rw [decide_eq_decide, List.cons.injEq]
          simp [g]
        · refine Ev.const ?_
          rw [decide_eq_false]
          rw [List.cons.injEq]
          exact fun h => g h.1
    exact loop u.length 0 (by omega)
  · refine Ev.const ?_
    rw [decide_eq_false]
    rintro rfl
    exact c rfl
theorem same_ev (n : Nat) (hn : n ≤ 8) (f : Nat → Nat → Bool) (hs : ∀ a b, f a b = f b a) (u v : List Nat) (hl : u.length ≤ 1000000) (hl2 : v.length ≤ 1000000) (hu : ∀ x ∈ u, x < n) (hw : ∀ x ∈ v, x < n) : Ev (fun k => impl_ties_same.f k (mat n f) (ints u) (ints v)) (decide (TrEq f u v)) := by
  simp only [impl_ties_same.f]
  refine Ev.bind (normal_ev n hn f u hl hu) (Ev.bind (normal_ev n hn f v hl2 hw) (Ev.bind (Equal_ev _ _ (by rw [ints_length, normalP_length f hs hu]; exact hl)) (Ev.const ?_)))
  congr 1
  rw [decide_eq_decide, ← normalP_eq_iff f hs _ u v rfl hu hw]
  exact ⟨ints_inj, fun h => by rw [h]⟩
theorem l05Part_j3 {c : List Int} (n : Int) (D x y : List Int) {a : Int} (hS : Src c a) (h : Int) : ∃ r : List Int, Ev (fun k => spec_l05Part.j3 k x y c a h n D) (n, D, r, x) := by
  have hi := l03Is_ev n D y
  by_cases g : Alpha n D ∧ Word n y
  · rw [decide_eq_true g] at hi
    obtain ⟨m, f, rfl, rfl, hm, hs, hr⟩ := g.1.form
    obtain ⟨y', rfl, hyl, hy⟩ := g.2.form
    obtain ⟨r, a1, h1, s1, _, _, e1⟩ := l03Shuffle_ev hS h hm f (show y'.length ≤ 1000 by omega) hy
    refine ⟨ints r, Ev.succ ?_⟩
    simp only [spec_l05Part.j3]
    exact Ev.bind hi (Ev.pos rfl (Ev.bind e1 (Ev.now _)))
  · rw [decide_eq_false g] at hi
    refine ⟨y, Ev.succ ?_⟩
    simp only [spec_l05Part.j3]
    exact Ev.bind hi (Ev.neg (by decide) (Ev.now _))
theorem l05Part_j2 {c : List Int} (n : Int) (D x y : List Int) {most : Nat} (hmo : most ≤ 24) {a : Int} (hS : Src c a) (h : Int) : ∃ r : List Int, Ev (fun k => spec_l05Part.j2 k (most : Int) x y c a h n D) (n, D, r, x) := by
  obtain ⟨t, a1, h1, e1, s1, _⟩ := l01Next_ev hS h 12
  by_cases g : t = 0
  · obtain ⟨z, a2, h2, s2, _, e2⟩ := l03Spoil_ev s1 h1 n D most hmo
    obtain ⟨r, e3⟩ := l05Part_j3 n D x z s2 h2
    refine ⟨r, Ev.succ ?_⟩
    simp only [spec_l05Part.j2]
    rw [e1]
    exact Ev.some_bind (Ev.pos g (Ev.bind e2 e3))
  · obtain ⟨r, e3⟩ := l05Part_j3 n D x y s1 h1
    refine ⟨r, Ev.succ ?_⟩
    simp only [spec_l05Part.j2]
    rw [e1]
    exact Ev.some_bind (Ev.neg g e3)
theorem l05Part_j1 {c : List Int} (n : Int) (D x y : List Int) {most : Nat} (hmo : most ≤ 24) (b : Bool) (hy : b = true → 0 < y.length) {a : Int} (hS : Src c a) (h : Int) : ∃ r : List Int, Ev (fun k => spec_l05Part.j1 k (most : Int) x y b c a h n D) (n, D, r, x) := by
  cases b with
  | true =>
    have hy' := hy rfl
    obtain ⟨t, a1, h1, e1, s1, p0, p1, _⟩ := l01Next_ev hS h (y.length : Int)
    have p1' := p1 (by omega)
    obtain ⟨t2, a2, h2, e2, s2, _⟩ := l01Next_ev s1 h1 n
    obtain ⟨r, e3⟩ := l05Part_j2 n D x (y.set t.toNat t2) hmo s2 h2
    refine ⟨r, Ev.succ ?_⟩
    simp only [spec_l05Part.j1]
    refine Ev.pos trivial ?_
    rw [e1]
    refine Ev.some_bind ?_
    simp only []
    rw [e2]
    exact Ev.some_bind (Ev.pos p0 (Ev.pos p1' e3))
  | false =>
    obtain ⟨r, e3⟩ := l05Part_j2 n D x y hmo hS h
    refine ⟨r, Ev.succ ?_⟩
    simp only [spec_l05Part.j1]
    exact Ev.neg (by decide) e3
theorem l05Part_j0 {c : List Int} (n : Int) (D x y : List Int) {most : Nat} (hmo : most ≤ 24) {a : Int} (hS : Src c a) (h : Int) : ∃ r : List Int, Ev (fun k => spec_l05Part.j0 k (most : Int) x y c a h n D) (n, D, r, x) := by
  obtain ⟨t, a1, h1, e1, s1, _⟩ := l01Next_ev hS h 3
  by_cases g : t = 0
  · obtain ⟨r, e3⟩ := l05Part_j1 n D x y hmo (decide ((y.length : Int) > 0)) (fun hd => by have := of_decide_eq_true hd; omega) s1 h1
    refine ⟨r, Ev.succ ?_⟩
    simp only [spec_l05Part.j0]
    rw [e1]
    exact Ev.some_bind (Ev.pos g e3)
  · obtain ⟨r, e3⟩ := l05Part_j1 n D x y hmo false (fun hd => by cases hd) s1 h1
    refine ⟨r, Ev.succ ?_⟩
    simp only [spec_l05Part.j0]
    rw [e1]
    exact Ev.some_bind (Ev.neg g e3)
theorem l05Part_ev (c : List Int) (hb : ∀ x ∈ c, 0 ≤ x ∧ x ≤ 255) (hc : c.length ≤ 4096) (letters most : Nat) (hl : letters ≤ 8) (hmo : most ≤ 24) (back : Bool) :
    ∃ (n : Int) (D r w : List Int), Ev (fun k => spec_l05Part.f k c (letters : Int) (most : Int) back) (n, D, r, w) := by
  obtain ⟨a, h, n, D, w, s0, l0, l1, hd⟩ := l03Pair_ev c hb hc letters most hl hmo
  have hi := l03Is_ev n D w
  by_cases g : Alpha n D ∧ Word n w
  · rw [decide_eq_true g] at hi
    obtain ⟨m, f, rfl, rfl, hm, hs, hr⟩ := g.1.form
    obtain ⟨w', rfl, hwl, hw⟩ := g.2.form
    obtain ⟨v, a1, h1, s1, vl, _, e1⟩ := l03Shuffle_ev s0 h hm f (show w'.length ≤ 1000 by omega) hw
    obtain ⟨t, a2, h2, e2, s2, p0, p1, _⟩ := l01Next_ev s1 h1 ((v.length : Int) + 1)
    have p1' := p1 (by omega)
    cases back with
    | true =>
      obtain ⟨t3, a3, h3, e3, s3, q0, q1, _⟩ := l01Next_ev s2 h2 ((v.length : Int) + 1)
      have q1' := q1 (by omega)
      obtain ⟨r, e4⟩ := l05Part_j0 (m : Int) (mat m f) (ints w') ((ints v).drop t3.toNat) hmo s3 h3
      refine ⟨(m : Int), mat m f, r, ints w', ?_⟩
      simp only [spec_l05Part.f]
      refine Ev.bind hd (Ev.bind hi (Ev.pos rfl (Ev.bind e1 ?_)))
      simp only []
      rw [ints_length, w64' (by omega), e2]
      refine Ev.some_bind (Ev.pos p0 (Ev.pos (by simp; omega) ?_))
      simp only []
      rw [l01Own_eq _ (by simp; omega)]
      refine Ev.some_bind (Ev.pos trivial ?_)
      rw [e3]
      refine Ev.some_bind (Ev.pos q0 (Ev.pos (by simp; omega) ?_))
      simp only []
      rw [l01Own_eq _ (by simp; omega)]
      exact Ev.some_bind e4
    | false =>
      obtain ⟨r, e4⟩ := l05Part_j0 (m : Int) (mat m f) (ints w') ((ints v).take t.toNat) hmo s2 h2
      refine ⟨(m : Int), mat m f, r, ints w', ?_⟩
      simp only [spec_l05Part.f]
      refine Ev.bind hd (Ev.bind hi (Ev.pos rfl (Ev.bind e1 ?_)))
      simp only []
      rw [ints_length, w64' (by omega), e2]
      refine Ev.some_bind (Ev.pos p0 (Ev.pos (by simp; omega) ?_))
      simp only []
      rw [l01Own_eq _ (by simp; omega)]
      exact Ev.some_bind (Ev.neg (by decide) e4)
  · rw [decide_eq_false g] at hi
    refine ⟨n, D, [0], w, ?_⟩
    simp only [spec_l05Part.f]
    exact Ev.bind hd (Ev.bind hi (Ev.neg (by decide) (Ev.now _)))
theorem AreSameTrace_ok {n : Nat} (hn : n ≤ 8) {f : Nat → Nat → Bool} (hs : ∀ a b, f a b = f b a) (hA : Alpha (n : Int) (mat n f)) {u v : List Nat} (hl : u.length ≤ 24) (hu : ∀ x ∈ u, x < n) (hl2 : v.length ≤ 24) (hv : ∀ x ∈ v, x < n) :
    Ev (fun k => impl_AreSameTrace.f k (n : Int) (mat n f) (ints u) (ints v)) (decide (TrEq f u v), 0) := by
  simp only [impl_AreSameTrace.f, impl_Alphabet_ties.f]
  exact Ev.bind (check_2 hA hl hu hl2 hv) (Ev.pos rfl (Ev.some_bind (Ev.bind (same_ev n hn f hs u v (by omega) (by omega) hu hv) (Ev.now _))))
theorem RightQuotient_ok {n : Nat} (hn : n ≤ 8) {f : Nat → Nat → Bool} (hA : Alpha (n : Int) (mat n f)) {u v r : List Nat} (hl : u.length ≤ 24) (hu : ∀ x ∈ u, x < n) (hl2 : v.length ≤ 24) (hv : ∀ x ∈ v, x < n) (h : cutP f u.reverse v.reverse = some r) :
    Ev (fun k => impl_RightQuotient.f k (n : Int) (mat n f) (ints u) (ints v)) (ints (normalP f n r.reverse), 0) := by
  have hu' : ∀ x ∈ u.reverse, x < n := fun x hx => hu x (by simpa using hx)
  have hv' : ∀ x ∈ v.reverse, x < n := fun x hx => hv x (by simpa using hx)
  have hq := quotient_ev n hn f u.reverse v.reverse (by simp; omega) (by simp; omega) hu' hv'
  unfold cutR at hq
  rw [h] at hq
  have hr : ∀ x ∈ r.reverse, x < n := fun x hx => hv' x (cutP_sub f h x (by simpa using hx))
  have hrl := cutP_length f h
  simp only [List.length_reverse] at hrl
  simp only [impl_RightQuotient.f, impl_Alphabet_ties.f]
  exact Ev.bind (check_2 hA hl hu hl2 hv) (Ev.pos rfl (Ev.some_bind (Ev.bind (reversed_ev u (by omega)) (Ev.bind (reversed_ev v (by omega)) (Ev.bind hq (Ev.pos rfl (Ev.some_bind (Ev.bind (reversed_ev r (by omega)) (Ev.bind (normal_ev n hn f _ (by simp; omega) hr) (Ev.now _))))))))))
theorem LeftQuotient_both (n : Int) (D l1 l2 : List Int) : ∃ r : List Int × Int, r.1.length ≤ 100000 ∧ Ev (fun k => spec_LeftQuotient.f k n D l1 l2) r ∧ Ev (fun k => impl_LeftQuotient.f k n D l1 l2) r ∧
    (r.2 = 0 → ∃ m f u v q, Two n D l1 l2 m f u v ∧ cutP f u v = some q ∧ r.1 = ints (normalP f m q)) := by
  simp only [spec_LeftQuotient.f, impl_LeftQuotient.f, impl_Alphabet_ties.f]
  rcases codes2 n D l1 l2 with ⟨m, f, u, v, T, hc, hk⟩ | ⟨c, c0, _, hc, hk⟩
  · have T2 := T
    obtain ⟨rfl, rfl, rfl, rfl, hm, hs, hr, hul, hu, hvl, hv, hA⟩ := T
    have h1 := l05Cut_ev m (by omega) f u v (by omega) (by omega) hu hv
    have h2 := quotient_ev m hm f u v (by omega) (by omega) hu hv
    unfold cutR at h1 h2
    cases e : cutP f u v with
    | none =>
      rw [e] at h1 h2
      refine ⟨([], 4), by simp, Ev.bind hc (Ev.pos rfl (Ev.bind h1 ?_)), Ev.bind hk (Ev.pos rfl (Ev.some_bind (Ev.bind h2 ?_))), fun h => by cases h⟩
      · exact Ev.neg (by simp) (Ev.now _)
      · exact Ev.neg (by simp) (Ev.now _)
    | some r =>
      rw [e] at h1 h2
      have hr' : ∀ x ∈ r, x < m := fun x hx => hv x (cutP_sub f e x hx)
      have hrl := cutP_length f e
      refine ⟨(ints (normalP f m r), 0), by rw [ints_length, normalP_length f hs hr']; omega, Ev.bind hc (Ev.pos rfl (Ev.bind h1 ?_)), Ev.bind hk (Ev.pos rfl (Ev.some_bind (Ev.bind h2 ?_))), fun _ => ⟨m, f, u, v, r, T2, e, rfl⟩⟩
      · exact Ev.pos rfl (Ev.bind (l03Normal_ev m (by omega) f r (by omega) hr') (Ev.now _))
      · exact Ev.pos rfl (Ev.some_bind (Ev.bind (normal_ev m hm f r (by omega) hr') (Ev.now _)))
  · exact ⟨([], c), by simp, Ev.bind hc (Ev.neg c0 (Ev.now _)), Ev.bind hk (Ev.neg c0 (Ev.now _)), fun h => absurd h c0⟩
theorem Concatenate_both (n : Int) (D l1 l2 : List Int) : ∃ r : List Int × Int, r.1.length ≤ 100000 ∧ Ev (fun k => spec_Concatenate.f k n D l1 l2) r ∧ Ev (fun k => impl_Concatenate.f k n D l1 l2) r ∧
    (r.2 = 0 → ∃ m f u v, Two n D l1 l2 m f u v ∧ (u ++ v).length ≤ 24 ∧ r.1 = ints (normalP f m (u ++ v))) := by
  rcases codes2 n D l1 l2 with ⟨m, f, u, v, T, hc, hk⟩ | ⟨c, c0, _, hc, hk⟩
  · have T2 := T
    obtain ⟨rfl, rfl, rfl, rfl, hm, hs, hr, hul, hu, hvl, hv, hA⟩ := T
    have huv := mem_app hu hv
    refine ⟨if 24 < (u ++ v).length then ([], 3) else (ints (normalP f m (u ++ v)), 0), ?_, ?_, Concatenate_ok hm hA hul hu hvl hv, ?_⟩
    · split
      · simp
      · rw [ints_length, normalP_length f hs huv]; simp; omega
    · simp only [spec_Concatenate.f]
      refine Ev.bind hc (Ev.pos rfl (Ev.succ ?_))
      simp only [spec_Concatenate.j0]
      by_cases h : 24 < (u ++ v).length
      · rw [if_pos h]
        have h' : 24 < u.length + v.length := by simpa using h
        refine Ev.pos (by rw [ints_length, ints_length, w64' (by omega)]; simp; omega) (Ev.succ ?_)
        simp only [spec_Concatenate.j1]
        exact Ev.neg (by decide) (Ev.now _)
      · rw [if_neg h]
        have h' : ¬ 24 < u.length + v.length := by simpa using h
        refine Ev.neg (by rw [ints_length, ints_length, w64' (by omega)]; simp; omega) (Ev.succ ?_)
        simp only [spec_Concatenate.j1]
        refine Ev.pos trivial ?_
        rw [l01Own_eq _ (by simp; omega)]
        refine Ev.some_bind (Ev.pos (by simp; omega) ?_)
        rw [← ints_append]
        exact Ev.bind (l03Normal_ev m (by omega) f _ (by simp; omega) huv) (Ev.now _)
    · intro h0
      by_cases h : 24 < (u ++ v).length
      · rw [if_pos h] at h0; cases h0
      · rw [if_neg h]
        exact ⟨m, f, u, v, T2, by omega, rfl⟩
  · refine ⟨([], c), by simp, ?_, ?_, fun h => absurd h c0⟩
    · simp only [spec_Concatenate.f]
      refine Ev.bind hc (Ev.neg c0 (Ev.succ ?_))
      simp only [spec_Concatenate.j0]
      refine Ev.neg (by simp) (Ev.succ ?_)
      simp only [spec_Concatenate.j1]
      exact Ev.neg c0 (Ev.now _)
    · simp only [impl_Concatenate.f]
      exact Ev.bind hk (Ev.neg c0 (Ev.now _))
end Go.Proofs.YtkiacoilecdepaaDoor.PAll
