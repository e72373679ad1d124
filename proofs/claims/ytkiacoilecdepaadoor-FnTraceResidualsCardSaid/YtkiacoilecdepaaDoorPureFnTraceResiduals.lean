/- For every code, FnTraceResiduals answers true: the join is each of both traces followed by the residual of the other one, and the residual of a third trace after both, where it exists, does not depend on whether it is taken at once or one after the other. No condition. -/
import Derived.Test.YtkiacoilecdepaaDoorPAllx1
import Derived.Test.YtkiacoilecdepaaDoorPAllx33
import Derived.Test.YtkiacoilecdepaaDoorV0
import Derived.Test.YtkiacoilecdepaaDoorV11
import Derived.Test.YtkiacoilecdepaaDoorV14
import Derived.Test.YtkiacoilecdepaaDoorV20
import Derived.Test.YtkiacoilecdepaaDoorV3
import Derived.Test.YtkiacoilecdepaaDoorQBase
import Derived.Test.YtkiacoilecdepaaDoorQDraw
import Derived.Test.YtkiacoilecdepaaDoorQMeet
import Derived.Test.YtkiacoilecdepaaDoorQOrder
import Derived.Test.YtkiacoilecdepaaDoorQRev
import Derived.Test.YtkiacoilecdepaaDoorQTrace
import Derived.Test.YtkiacoilecdepaaDoorQUp
import Derived.Test.YtkiacoilecdepaaDoorStmtFnTraceResiduals
set_option linter.unusedVariables false
set_option linter.unusedSimpArgs false
namespace Go.Proofs.YtkiacoilecdepaaDoor.LFnTraceResiduals
open Go.RowKit Go.Proofs.YtkiacoilecdepaaDoorW.PrintWords Go.Proofs.YtkiacoilecdepaaDoorW.PrintMore Go.Proofs.YtkiacoilecdepaaDoor.Q
open Go.Proofs.YtkiacoilecdepaaDoor.PAll
theorem j4_bad (x6 x20 : List Int) (x21 : Int) (x22 : List Int) (c : Int) (hc : c = 3 ∨ c = 4) (n : Int) (D : List Int) : Ev (fun k => laws_FnTraceResiduals.j4 k x6 x20 x21 x22 c true n D) true := by
  refine Ev.succ ?_
  simp only [laws_FnTraceResiduals.j4]
  have e : Ev (fun _ : Nat => if c = 4 then some true else some (c == 3)) true := Ev.ite (fun _ => Ev.now _) (fun g => by
    rcases hc with rfl | rfl
    · exact Ev.now _
    · exact absurd rfl g)
  exact Ev.pos trivial (Ev.ite (fun _ => e) (fun _ => e))
theorem j3_ev {m : Nat} {f : Nat → Nat → Bool} (hm : m ≤ 8) (hs : ∀ a b, f a b = f b a) (hr : ∀ a, a < m → f a a = true) (hA : Alpha (m : Int) (mat m f)) {u b J W : List Nat} (hul : u.length ≤ 24) (hu : ∀ x ∈ u, x < m) (hb : ∀ x ∈ b, x < m) (hJl : J.length ≤ 24) (hJ : ∀ x ∈ J, x < m) (hWl : W.length ≤ 24) (hW : ∀ x ∈ W, x < m) (hT : TrEq f (u ++ b) J) :
    Ev (fun k => laws_FnTraceResiduals.j3 k (ints u) (ints (normalP f m b)) (ints J) (ints W) (m : Int) (mat m f)) true := by
  obtain ⟨p2, a2, b2, h2⟩ := Meets.exist hm f hA hul hu hWl hW
  obtain ⟨m1, J1, W1, hM⟩ := Meets.exist hm f hA hJl hJ hWl hW
  have hJ1 : ∀ x ∈ J1, x < m := fun x hx => hJ x (cutP_sub f hM.1 x hx)
  have hW1 : ∀ x ∈ W1, x < m := fun x hx => hW x (cutP_sub f hM.2.1 x hx)
  have ha2 : ∀ x ∈ a2, x < m := fun x hx => hu x (cutP_sub f h2.1 x hx)
  have hb2 : ∀ x ∈ b2, x < m := fun x hx => hW x (cutP_sub f h2.2.1 x hx)
  have r7 := ResidualAfter_impl hm hs hA hul hu hWl hW h2
  have r8 := ResidualAfter_impl hm hs hA hJl hJ hWl hW hM
  have lT := TrEq.length f hT
  have l2 := cutP_length f h2.2.1
  have l1 := cutP_length f hM.2.1
  simp only [List.length_append] at lT
  refine Ev.succ ?_
  simp only [laws_FnTraceResiduals.j3]
  by_cases cA : apartP f J1 W1 = true ∧ J.length + W1.length ≤ 24
  · obtain ⟨g2, gl, _⟩ := residual_first f hs hr hJ1 hT hM cA.1 h2
    rw [if_pos g2, if_neg (by omega)] at r7
    rw [if_pos cA.1, if_neg (by omega)] at r8
    refine Ev.bind r7 (Ev.bind r8 (Ev.pos rfl (Ev.succ ?_)))
    simp only [laws_FnTraceResiduals.j4]
    refine Ev.neg (by decide) ?_
    have lB := normalP_length f hs hb
    have tB := TrEq.symm f hs (normalP_TrEq f hs _ b rfl hb)
    have nB := normalP_lt f hs hb
    have lB2 := normalP_length f hs hb2
    have tB2 := TrEq.symm f hs (normalP_TrEq f hs _ b2 rfl hb2)
    have nB2 := normalP_lt f hs hb2
    obtain ⟨p3, a3, b3, h3⟩ := Meets.exist hm f hA (show (normalP f m b).length ≤ 24 by omega) nB (show (normalP f m b2).length ≤ 24 by omega) nB2
    have ha3 : ∀ x ∈ a3, x < m := fun x hx => nB x (cutP_sub f h3.1 x hx)
    have hb3 : ∀ x ∈ b3, x < m := fun x hx => nB2 x (cutP_sub f h3.2.1 x hx)
    obtain ⟨g3, l3, t3⟩ := residual_cube f hs hr hJ1 ha2 ha3 hT hM cA.1 h2 tB tB2 h3
    have r9 := ResidualAfter_impl hm hs hA (show (normalP f m b).length ≤ 24 by omega) nB (show (normalP f m b2).length ≤ 24 by omega) nB2 h3
    rw [if_pos g3, if_neg (by omega), normalP_congr f hs hb3 hW1 t3] at r9
    have lW := normalP_length f hs hW1
    exact Ev.bind r9 (Ev.pos rfl (Ev.bind (likeInts_ev _ (by simp; omega)) (Ev.now _)))
  · have r8' : ∃ c : Int, (c = 3 ∨ c = 4) ∧ Ev (fun k => impl_ResidualAfter.f k (m : Int) (mat m f) (ints J) (ints W)) ([], c) := by
      by_cases g : apartP f J1 W1 = true
      · rw [if_pos g, if_pos (by
          have : ¬ J.length + W1.length ≤ 24 := fun z => cA ⟨g, z⟩
          omega)] at r8
        exact ⟨3, .inl rfl, r8⟩
      · rw [if_neg g] at r8
        exact ⟨4, .inr rfl, r8⟩
    obtain ⟨c, hc, r8'⟩ := r8'
    refine Ev.bind r7 (Ev.bind r8' (Ev.ite (fun _ => ?_) (fun _ => j4_bad _ _ _ _ c hc _ _)))
    rw [show (c != 0) = true from by rcases hc with rfl | rfl <;> rfl]
    exact j4_bad _ _ _ _ c hc _ _
theorem j1_ev (c : List Int) (hc1 : ∀ x ∈ c, 0 ≤ x ∧ x ≤ 255) (hc : c.length ≤ 4096) {m : Nat} {f : Nat → Nat → Bool} (hm : m ≤ 8) (hs : ∀ a b, f a b = f b a) (hr : ∀ a, a < m → f a a = true) (hA : Alpha (m : Int) (mat m f)) {u b J : List Nat} (hul : u.length ≤ 24) (hu : ∀ x ∈ u, x < m) (hb : ∀ x ∈ b, x < m) (hJl : J.length ≤ 24) (hJ : ∀ x ∈ J, x < m) (hT : TrEq f (u ++ b) J) :
    Ev (fun k => laws_FnTraceResiduals.j1 k c (ints u) (ints (normalP f m b)) (ints J) false (m : Int) (mat m f)) true := by
  obtain ⟨h0, r0⟩ := roll_ev c hc 510
  have s0 : Src c 0 := ⟨hc1, hc, by omega, by omega⟩
  obtain ⟨w, a1, h1, s1, t1, e1⟩ := shuffle5_ev s0 h0 hm hs (show J.length ≤ 100 by omega) hJ
  have hlen := TrEq.length f t1
  have hw : ∀ x ∈ w, x < m := fun x hx => hJ x ((TrEq.mem f t1 x).2 hx)
  obtain ⟨t, a2, h2, e2, s2, p0, p1, _⟩ := dice_ev s1 h1 ((w.length : Int) + 1)
  have p1' := p1 (by omega)
  obtain ⟨j, rfl⟩ := Int.eq_ofNat_of_zero_le p0
  have hq : ∀ x ∈ w.take j, x < m := fun x hx => hw x (List.mem_of_mem_take hx)
  have hql : (w.take j).length ≤ 24 := by simp; omega
  have fin : ∀ (q : Bool) {a : Int} (hS : Src c a) (h : Int), (q = true → 0 < m ∧ (w.take j).length < 20) → Ev (fun k => laws_FnTraceResiduals.j2 k (ints u) (ints (normalP f m b)) (ints J) (ints (w.take j)) q (m : Int) (mat m f) c a h) true := by
    intro q a hS h hqq
    refine Ev.succ ?_
    simp only [laws_FnTraceResiduals.j2]
    cases q with
    | true =>
      obtain ⟨k0, k1⟩ := hqq rfl
      obtain ⟨z, a3, h3, e3, s3, z0, z1, _⟩ := dice_ev hS h (m : Int)
      have z1' := z1 (by omega)
      obtain ⟨y, rfl⟩ := Int.eq_ofNat_of_zero_le z0
      refine Ev.pos rfl ?_
      rw [e3]
      refine Ev.some_bind (Ev.pos (by rw [ints_length]; omega) ?_)
      rw [show ints (w.take j) ++ [(y : Int)] = ints (w.take j ++ [y]) by rw [ints_append]; rfl]
      exact j3_ev hm hs hr hA hul hu hb hJl hJ (show (w.take j ++ [y]).length ≤ 24 by rw [List.length_append]; simp at k1 ⊢; omega) (mem_app hq (fun x hx => by rw [List.mem_singleton.1 hx]; omega)) hT
    | false => exact Ev.neg (by decide) (j3_ev hm hs hr hA hul hu hb hJl hJ hql hq hT)
  refine Ev.succ ?_
  simp only [laws_FnTraceResiduals.j1]
  refine Ev.neg (by decide) (Ev.bind r0 (Ev.bind e1 ?_))
  simp only []
  rw [ints_length, w64' (by omega), e2]
  refine Ev.some_bind (Ev.pos (by omega) (Ev.pos (by omega) (Ev.some_bind ?_)))
  rw [Int.toNat_natCast, show (ints w).take j = ints (w.take j) by simp [ints]]
  refine Ev.ite (fun g => ?_) (fun _ => fin false s2 h2 (fun z => by cases z))
  obtain ⟨t3, a3, h3, e3, s3, _⟩ := dice_ev s2 h2 3
  rw [e3]
  refine Ev.some_bind (Ev.ite (fun _ => ?_) (fun _ => fin false s3 h3 (fun z => by cases z)))
  exact fin _ s3 h3 (fun z => ⟨by omega, by have := of_decide_eq_true z; rw [ints_length] at this; omega⟩)
theorem law_ev (c : List Int) (hb : ∀ x ∈ c, 0 ≤ x ∧ x ≤ 255) : Ev (fun k => laws_FnTraceResiduals.f k c) true := by
  simp only [laws_FnTraceResiduals.f, laws_big.f]
  refine Ev.some_bind (Ev.ite (fun _ => Ev.now _) (fun g => ?_))
  have hc : c.length ≤ 4096 := by simp at g; omega
  obtain ⟨n, D, l1, l2, hd⟩ := l05Friends_ev c hb hc
  have hd' : Ev (fun k => spec_DrawResidualAfter.f k c) (n, D, l1, l2) := by
    simp only [spec_DrawResidualAfter.f]
    exact Ev.bind hd (Ev.now _)
  obtain ⟨r, hrl, h1, h2, h3⟩ := ResidualAfter_both n D l1 l2
  refine Ev.bind hd' (Ev.bind h2 (Ev.bind h1 (Ev.pos rfl (Ev.bind (likeInts_ev r.1 (by omega)) (Ev.succ ?_)))))
  simp only [laws_FnTraceResiduals.j0]
  refine Ev.neg (by simp) (Ev.ite (fun k0 => ?_) (fun _ => Ev.now _))
  obtain ⟨m, f, u, v, p, a, b, T, hM, gA, gl, e⟩ := h3 k0
  rw [e]
  obtain ⟨rfl, rfl, rfl, rfl, hm, hs, hr, hul, hu, hvl, hv, hA⟩ := T
  have ha' : ∀ x ∈ a, x < m := fun x hx => hu x (cutP_sub f hM.1 x hx)
  have hb' : ∀ x ∈ b, x < m := fun x hx => hv x (cutP_sub f hM.2.1 x hx)
  have la := cutP_length f hM.1
  have lb := cutP_length f hM.2.1
  have hub := mem_app hu hb'
  have nl := normalP_length f hs hub
  have nt := normalP_lt f hs hub
  have nT := TrEq.symm f hs (normalP_TrEq f hs _ (u ++ b) rfl hub)
  simp only [List.length_append] at nl
  have lA := normalP_length f hs ha'
  have tA := normalP_TrEq f hs _ a rfl ha'
  have nA := normalP_lt f hs ha'
  have lB := normalP_length f hs hb'
  have tB := normalP_TrEq f hs _ b rfl hb'
  have nB := normalP_lt f hs hb'
  have r3 := ResidualAfter_impl hm hs hA hvl hv hul hu (Meets.symm f hM)
  rw [if_pos (apart_symm f hs gA), if_neg (by omega)] at r3
  have r4 := JoinOf_impl hm hs hA hul hu hvl hv hM
  rw [if_pos gA, if_neg (by omega)] at r4
  have r5 := Concatenate_ok hm hA hul hu (show (normalP f m b).length ≤ 24 by omega) nB
  rw [if_neg (by simp; omega), normalP_congr f hs (mem_app hu nB) hub (TrEq.append_left f u tB)] at r5
  have r6 := Concatenate_ok hm hA hvl hv (show (normalP f m a).length ≤ 24 by omega) nA
  rw [if_neg (by simp; omega), normalP_congr f hs (mem_app hv nA) hub (TrEq.trans f hs (TrEq.append_left f v tA) (Meets.swap f hs hr ha' hM gA))] at r6
  exact Ev.bind r3 (Ev.bind r4 (Ev.bind r5 (Ev.bind r6 (Ev.pos rfl (Ev.pos rfl (Ev.pos rfl (Ev.pos rfl (Ev.bind (likeInts_ev _ (by simp; omega)) (Ev.pos rfl (Ev.bind (likeInts_ev _ (by simp; omega)) (j1_ev c hb hc hm hs hr hA hul hu hb' (show (normalP f m (u ++ b)).length ≤ 24 by omega) nt nT)))))))))))
theorem big_ev (c : List Int) (h : 4096 < c.length) : Ev (fun k => laws_FnTraceResiduals.f k c) true := by
  simp only [laws_FnTraceResiduals.f, laws_big.f]
  exact Ev.some_bind (Ev.pos (by simp; omega) (Ev.now _))
theorem pure : PureStmt := fun c _ h2 => (law_ev c (fun x hx => u8_bounds (h2 x hx))).elim fun K h => ⟨K, h K (Nat.le_refl K)⟩
end Go.Proofs.YtkiacoilecdepaaDoor.LFnTraceResiduals
