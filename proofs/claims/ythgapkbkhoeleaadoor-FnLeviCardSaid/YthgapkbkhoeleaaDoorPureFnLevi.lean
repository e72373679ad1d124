/- For every code, FnLevi answers true: two factorisations of one trace have four parts of which both consist, the middle ones being independent, and the first part is the meet of the first factors. No condition. -/
import Derived.Test.YthgapkbkhoeleaaDoorPAllx0
import Derived.Test.YthgapkbkhoeleaaDoorPAllx2
import Derived.Test.YthgapkbkhoeleaaDoorPAllx25
import Derived.Test.YthgapkbkhoeleaaDoorPAllx26
import Derived.Test.YthgapkbkhoeleaaDoorPAllx27
import Derived.Test.YthgapkbkhoeleaaDoorPAllx8
import Derived.Test.YthgapkbkhoeleaaDoorV0
import Derived.Test.YthgapkbkhoeleaaDoorV11
import Derived.Test.YthgapkbkhoeleaaDoorV12
import Derived.Test.YthgapkbkhoeleaaDoorV16
import Derived.Test.YthgapkbkhoeleaaDoorV2
import Derived.Test.YthgapkbkhoeleaaDoorV7
import Derived.Test.YthgapkbkhoeleaaDoorV8
import Derived.Test.YthgapkbkhoeleaaDoorV9
import Derived.Test.YthgapkbkhoeleaaDoorQBase
import Derived.Test.YthgapkbkhoeleaaDoorQDraw
import Derived.Test.YthgapkbkhoeleaaDoorQMeet
import Derived.Test.YthgapkbkhoeleaaDoorQOrder
import Derived.Test.YthgapkbkhoeleaaDoorQRev
import Derived.Test.YthgapkbkhoeleaaDoorQTrace
import Derived.Test.YthgapkbkhoeleaaDoorStmtFnLevi
set_option linter.unusedVariables false
set_option linter.unusedSimpArgs false
namespace Go.Proofs.YthgapkbkhoeleaaDoor.LFnLevi
open Go.RowKit Go.Proofs.YthgapkbkhoeleaaDoorW.PrintWords Go.Proofs.YthgapkbkhoeleaaDoorW.PrintMore Go.Proofs.YthgapkbkhoeleaaDoor.Q
open Go.Proofs.YthgapkbkhoeleaaDoor.PAll
theorem DrawLeviOf_j1 {c : List Int} (x14 x15 x16 x17 : List Int) (hl : x15.length ≤ 1000) (hz : x17.length ≤ 1000) (b : Bool) {a : Int} (hS : Src c a) (h : Int) (n : Int) (D : List Int) :
    ∃ r, Ev (fun k => spec_DrawLeviOf.j1 k x14 x15 x16 x17 b c a h n D) r := by
  have loop : ∀ (d : Nat) (z : List Int), z.length ≤ 1000 → 24 ≤ z.length + d → ∃ r, Ev (fun k => spec_DrawLeviOf.l0 k x14 x15 x16 z n D) r := by
    intro d
    induction d with
    | zero =>
      intro z h1 h2
      refine ⟨(n, D, x14, x15, x16, z), Ev.succ ?_⟩
      simp only [spec_DrawLeviOf.l0]
      exact Ev.neg (by omega) (Ev.now _)
    | succ d ih =>
      intro z h1 h2
      by_cases g : z.length < 24
      · obtain ⟨r, hr⟩ := ih (z ++ [0]) (by simp; omega) (by simp; omega)
        refine ⟨r, Ev.succ ?_⟩
        simp only [spec_DrawLeviOf.l0]
        exact Ev.pos (by omega) (Ev.pos (by omega) hr)
      · refine ⟨(n, D, x14, x15, x16, z), Ev.succ ?_⟩
        simp only [spec_DrawLeviOf.l0]
        exact Ev.neg (by omega) (Ev.now _)
  cases b with
  | true =>
    obtain ⟨r, hr⟩ := loop 24 x17 hz (by omega)
    refine ⟨r, Ev.succ ?_⟩
    simp only [spec_DrawLeviOf.j1]
    exact Ev.pos trivial hr
  | false =>
    obtain ⟨v, a1, h1, e1, s1, _⟩ := l01Next_ev hS h 20
    by_cases g : v = 0
    · refine ⟨(n, D, x14, x15 ++ [n], x16, x17), Ev.succ ?_⟩
      simp only [spec_DrawLeviOf.j1]
      refine Ev.neg (by decide) ?_
      rw [e1]
      exact Ev.some_bind (Ev.pos g (Ev.pos (by omega) (Ev.now _)))
    · refine ⟨(n, D, x14, x15, x16, x17), Ev.succ ?_⟩
      simp only [spec_DrawLeviOf.j1]
      refine Ev.neg (by decide) ?_
      rw [e1]
      exact Ev.some_bind (Ev.neg g (Ev.now _))
theorem DrawLeviOf_j0 {c : List Int} (x14 x15 x16 x17 : List Int) (hl : x15.length ≤ 1000) (hz : x17.length ≤ 1000) (b : Bool) (hb : b = true → 1 ≤ x14.length) (h14 : x14.length ≤ 1000) {a : Int} (hS : Src c a) (h : Int) (n : Int) (D : List Int) :
    ∃ r, Ev (fun k => spec_DrawLeviOf.j0 k x14 x15 x16 x17 b c a h n D) r := by
  cases b with
  | true =>
    have h1 := hb rfl
    obtain ⟨v, a1, h1', e1, s1, p0, p1, _⟩ := l01Next_ev hS h (x14.length : Int)
    obtain ⟨v2, a2, h2, e2, s2, _⟩ := l01Next_ev s1 h1' n
    have p1' := p1 (by omega)
    refine ⟨(n, D, x14.set v.toNat v2, x15, x16, x17), Ev.succ ?_⟩
    simp only [spec_DrawLeviOf.j0]
    refine Ev.pos trivial ?_
    rw [e1]
    refine Ev.some_bind ?_
    simp only []
    rw [e2]
    exact Ev.some_bind (Ev.pos p0 (Ev.pos p1' (Ev.now _)))
  | false =>
    by_cases g : n > 0
    · obtain ⟨v, a1, h1, e1, s1, _⟩ := l01Next_ev hS h 16
      obtain ⟨r, hr⟩ := DrawLeviOf_j1 x14 x15 x16 x17 hl hz (v == 0) s1 h1 n D
      refine ⟨r, Ev.succ ?_⟩
      simp only [spec_DrawLeviOf.j0]
      refine Ev.neg (by decide) (Ev.pos g ?_)
      rw [e1]
      exact Ev.some_bind hr
    · obtain ⟨r, hr⟩ := DrawLeviOf_j1 x14 x15 x16 x17 hl hz false hS h n D
      refine ⟨r, Ev.succ ?_⟩
      simp only [spec_DrawLeviOf.j0]
      exact Ev.neg (by decide) (Ev.neg g hr)
theorem DrawLeviOf_ev (c : List Int) (hb : ∀ x ∈ c, 0 ≤ x ∧ x ≤ 255) (hc : c.length ≤ 4096) : ∃ r, Ev (fun k => spec_DrawLeviOf.f k c) r := by
  obtain ⟨a, h, n, D, w, s0, l0, l1, hd⟩ := l03Pair_ev c hb hc 6 22 (by omega) (by omega)
  have hi := l03Is_ev n D w
  by_cases g : Alpha n D ∧ Word n w
  · rw [decide_eq_true g] at hi
    obtain ⟨m, f, rfl, rfl, hm, hs, hr⟩ := g.1.form
    obtain ⟨w', rfl, hwl, hw⟩ := g.2.form
    obtain ⟨u, a1, h1, s1, ul, _, e1⟩ := l03Shuffle_ev s0 h hm f (show w'.length ≤ 1000 by omega) hw
    obtain ⟨v, a2, h2, s2, vl, _, e2⟩ := l03Shuffle_ev s1 h1 hm f (show w'.length ≤ 1000 by omega) hw
    obtain ⟨i, a3, h3, e3, s3, p0, p1, _⟩ := l01Next_ev s2 h2 ((u.length : Int) + 1)
    have p1' := p1 (by omega)
    obtain ⟨j, a4, h4, e4, s4, q0, q1, _⟩ := l01Next_ev s3 h3 ((v.length : Int) + 1)
    have q1' := q1 (by omega)
    have J := fun (b : Bool) (hb : b = true → 1 ≤ ((ints u).take i.toNat).length) {a : Int} (hS : Src c a) (h : Int) => DrawLeviOf_j0 ((ints u).take i.toNat) ((ints u).drop i.toNat) ((ints v).take j.toNat) ((ints v).drop j.toNat) (by simp; omega) (by simp; omega) b hb (by simp; omega) hS h (m : Int) (mat m f)
    have pre : ∀ r, Ev (fun k => if (((ints u).take i.toNat).length : Int) > 0 then ((spec_l01Next.f c a4 h4 8).bind fun bt655 => (spec_DrawLeviOf.j0 k ((ints u).take i.toNat) ((ints u).drop i.toNat) ((ints v).take j.toNat) ((ints v).drop j.toNat) (bt655.1 == 0) c bt655.2.1 bt655.2.2 (m : Int) (mat m f))) else (spec_DrawLeviOf.j0 k ((ints u).take i.toNat) ((ints u).drop i.toNat) ((ints v).take j.toNat) ((ints v).drop j.toNat) false c a4 h4 (m : Int) (mat m f))) r → Ev (fun k => spec_DrawLeviOf.f k c) r := fun r k0 => by
      simp only [spec_DrawLeviOf.f]
      refine Ev.bind hd (Ev.bind hi (Ev.pos rfl (Ev.bind e1 (Ev.bind e2 ?_))))
      simp only []
      rw [ints_length, w64' (by omega), e3]
      refine Ev.some_bind ?_
      simp only []
      rw [ints_length, w64' (by omega), e4]
      refine Ev.some_bind (Ev.pos p0 (Ev.pos (by omega) ?_))
      rw [l01Own_eq _ (by simp; omega)]
      refine Ev.some_bind ?_
      rw [l01Own_eq _ (by simp; omega)]
      refine Ev.some_bind (Ev.pos q0 (Ev.pos (by omega) ?_))
      skip
      rw [l01Own_eq _ (by simp; omega)]
      refine Ev.some_bind ?_
      rw [l01Own_eq _ (by simp; omega)]
      exact Ev.some_bind k0
    by_cases gt : (((ints u).take i.toNat).length : Int) > 0
    · obtain ⟨t, a5, h5, e5, s5, _⟩ := l01Next_ev s4 h4 8
      obtain ⟨r, hr⟩ := J (t == 0) (fun _ => by omega) s5 h5
      refine ⟨r, pre r (Ev.pos gt ?_)⟩
      rw [e5]
      exact Ev.some_bind hr
    · obtain ⟨r, hr⟩ := J false (fun z => by cases z) s4 h4
      exact ⟨r, pre r (Ev.neg gt hr)⟩
  · rw [decide_eq_false g] at hi
    refine ⟨(n, D, w, [0], w, [0]), ?_⟩
    · simp only [spec_DrawLeviOf.f]
      exact Ev.bind hd (Ev.bind hi (Ev.neg (by decide) (Ev.now _)))
theorem join5_eq (x y : List Int) (hx : x.length ≤ 1000) (hy : y.length ≤ 1000) : laws_join5.f x y = some (x ++ y) := by
  simp only [laws_join5.f, Option.bind_some, List.nil_append]
  rw [if_pos (by simp; omega), if_pos (by omega)]
theorem AreIndependent_ok {n : Nat} (hn : n ≤ 8) {f : Nat → Nat → Bool} (hA : Alpha (n : Int) (mat n f)) {u v : List Nat} (hl : u.length ≤ 24) (hu : ∀ x ∈ u, x < n) (hl2 : v.length ≤ 24) (hv : ∀ x ∈ v, x < n) :
    Ev (fun k => impl_AreIndependent.f k (n : Int) (mat n f) (ints u) (ints v)) (apartP f u v, 0) := by
  have hk := checkWords_ev (n : Int) (mat n f) [ints u, ints v]
  rw [if_pos hA, if_pos (by
    intro x hx
    simp only [List.mem_cons, List.not_mem_nil, or_false] at hx
    rcases hx with rfl | rfl
    · exact ⟨by simpa using hl, by intro x hx; obtain ⟨a, ha, rfl⟩ := List.mem_map.1 hx; have := hu a ha; omega⟩
    · exact ⟨by simpa using hl2, by intro x hx; obtain ⟨a, ha, rfl⟩ := List.mem_map.1 hx; have := hv a ha; omega⟩)] at hk
  simp only [impl_AreIndependent.f, impl_Alphabet_ties.f]
  exact Ev.bind hk (Ev.pos rfl (Ev.some_bind (Ev.bind (apart_ev n hn f u v (by omega) hu hv) (Ev.now _))))
theorem j0_ev (n : Int) (D l1 l2 l3 l4 : List Int) (r : List (List Int) × Int)
    (h : r.2 = 0 → ∃ m f u v y z p q b s, FourW n D l1 l2 l3 l4 m f u v y z ∧ TrEq f (u ++ v) (y ++ z) ∧ Meets f u y p q b ∧ cutP f b v = some s ∧ TrEq f (q ++ s) z ∧ apartP f q b = true ∧ r.1 = [ints (normalP f m p), ints (normalP f m q), ints (normalP f m b), ints (normalP f m s)]) :
    Ev (fun k => laws_FnLevi.j0 k l1 l2 l3 l4 r.1 r.2 false n D) true := by
  refine Ev.succ ?_
  simp only [laws_FnLevi.j0]
  refine Ev.neg (by decide) (Ev.ite (fun k0 => ?_) (fun _ => Ev.now _))
  obtain ⟨m, f, u, v, y, z, p, q, b, s, F, gt, hM, cs, ts, hap, e⟩ := h k0
  rw [e]
  obtain ⟨⟨rfl, rfl, rfl, rfl, hm, hs, hr, hul, hu, hvl, hv, hA⟩, rfl, rfl, hyl, hy, hzl, hz⟩ := F
  have lp := Meets.le f hM
  have lq := cutP_length f hM.1
  have lb := cutP_length f hM.2.1
  have ls := cutP_length f cs
  have hp : ∀ x ∈ p, x < m := fun x hx => hu x (cutP_mem f hM.1 x hx)
  have hq : ∀ x ∈ q, x < m := fun x hx => hu x (cutP_sub f hM.1 x hx)
  have hb : ∀ x ∈ b, x < m := fun x hx => hy x (cutP_sub f hM.2.1 x hx)
  have hss : ∀ x ∈ s, x < m := fun x hx => hv x (cutP_sub f cs x hx)
  have np := normalP_length f hs hp
  have nq := normalP_length f hs hq
  have nb := normalP_length f hs hb
  have ns := normalP_length f hs hss
  have tp := normalP_lt f hs hp
  have tq := normalP_lt f hs hq
  have tb := normalP_lt f hs hb
  have tss := normalP_lt f hs hss
  have ep := normalP_TrEq f hs _ p rfl hp
  have eq := normalP_TrEq f hs _ q rfl hq
  have eb := normalP_TrEq f hs _ b rfl hb
  have es := normalP_TrEq f hs _ s rfl hss
  have two : ∀ {a b a' b' : List Nat}, TrEq f a' a → TrEq f b' b → TrEq f (a' ++ b') (a ++ b) := fun h1 h2 => TrEq.trans f hs (TrEq.append_right f hs h1 _) (TrEq.append_left f _ h2)
  have i0 := AreIndependent_ok hm hA (show (normalP f m q).length ≤ 24 by omega) tq (show (normalP f m b).length ≤ 24 by omega) tb
  have hap' : apartP f (normalP f m q) (normalP f m b) = true := (apartP_iff f _ _).2 fun x hx y hy => (apartP_iff f _ _).1 hap x ((TrEq.mem f eq x).1 hx) y ((TrEq.mem f eb y).1 hy)
  rw [hap'] at i0
  have same : ∀ {A B w : List Nat}, A.length + B.length ≤ 24 → (∀ x ∈ A, x < m) → (∀ x ∈ B, x < m) → w.length ≤ 24 → (∀ x ∈ w, x < m) → TrEq f (A ++ B) w → Ev (fun k => impl_AreSameTrace.f k (m : Int) (mat m f) (ints A ++ ints B) (ints w)) (true, 0) := fun hl hA' hB' hwl hw ht => by
    have := AreSameTrace_ok hm hs hA (show (_ ++ _ : List Nat).length ≤ 24 by simp; omega) (mem_app hA' hB') hwl hw
    rwa [decide_eq_true ht, ints_append] at this
  have lv : q.length + s.length = z.length := by have := TrEq.length f ts; simpa using this
  have e1 := same (show (normalP f m p).length + (normalP f m q).length ≤ 24 by omega) tp tq hul hu (TrEq.trans f hs (two ep eq) (TrEq.symm f hs (cutP_spec f hs hM.1)))
  have e2 := same (show (normalP f m b).length + (normalP f m s).length ≤ 24 by omega) tb tss hvl hv (TrEq.trans f hs (two eb es) (TrEq.symm f hs (cutP_spec f hs cs)))
  have e3 := same (show (normalP f m p).length + (normalP f m b).length ≤ 24 by omega) tp tb hyl hy (TrEq.trans f hs (two ep eb) (TrEq.symm f hs (cutP_spec f hs hM.2.1)))
  have e4 := same (show (normalP f m q).length + (normalP f m s).length ≤ 24 by omega) tq tss hzl hz (TrEq.trans f hs (two eq es) ts)
  have e5 := MeetOf_ok hm hs hA hul hu hyl hy hM
  simp only [rd_L1, List.length_cons, List.length_nil]
  refine Ev.pos (by decide) (Ev.pos (by decide) (Ev.pos (by decide) (Ev.bind i0 (Ev.pos (by decide) ?_))))
  simp only [show ((1 : Int).toNat) = 1 from rfl, show ((0 : Int).toNat) = 0 from rfl, show ((2 : Int).toNat) = 2 from rfl, show ((3 : Int).toNat) = 3 from rfl, List.getD_cons_zero, List.getD_cons_succ]
  rw [join5_eq _ _ (by simp; omega) (by simp; omega), join5_eq _ _ (by simp; omega) (by simp; omega), join5_eq _ _ (by simp; omega) (by simp; omega), join5_eq _ _ (by simp; omega) (by simp; omega)]
  refine Ev.some_bind (Ev.bind e1 (Ev.pos (by decide) (Ev.some_bind (Ev.bind e2 (Ev.some_bind (Ev.bind e3 (Ev.some_bind (Ev.bind e4 (Ev.bind e5 ?_)))))))))
  exact Ev.pos trivial (Ev.pos rfl (Ev.pos rfl (Ev.pos rfl (Ev.pos rfl (Ev.pos rfl (Ev.pos trivial (Ev.pos rfl (Ev.pos rfl (Ev.pos rfl (Ev.pos rfl (Ev.bind (likeInts_ev _ (by simp; omega)) (Ev.now _))))))))))))
theorem law_ev (c : List Int) (hb : ∀ x ∈ c, 0 ≤ x ∧ x ≤ 255) : Ev (fun k => laws_FnLevi.f k c) true := by
  simp only [laws_FnLevi.f, laws_big.f]
  refine Ev.some_bind (Ev.ite (fun _ => Ev.now _) (fun g => ?_))
  have hc : c.length ≤ 4096 := by simp at g; omega
  obtain ⟨⟨n, D, l1, l2, l3, l4⟩, hd⟩ := DrawLeviOf_ev c hb hc
  obtain ⟨r, rl, rr, h1, h2, h3⟩ := LeviOf_both n D l1 l2 l3 l4
  refine Ev.bind hd (Ev.bind h2 (Ev.bind h1 (Ev.pos rfl (Ev.bind (likeRows5_ev r.1 (by omega) (fun x hx => by have := rr x hx; omega)) ?_))))
  exact j0_ev n D l1 l2 l3 l4 r h3
theorem pure : PureStmt := fun c _ h2 => (law_ev c (fun x hx => u8_bounds (h2 x hx))).elim fun K h => ⟨K, h K (Nat.le_refl K)⟩
end Go.Proofs.YthgapkbkhoeleaaDoor.LFnLevi
