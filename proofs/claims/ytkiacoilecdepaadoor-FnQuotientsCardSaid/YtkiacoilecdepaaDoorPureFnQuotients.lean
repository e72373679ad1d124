/- For every code, FnQuotients answers true: a prefix followed by the left quotient is the trace, so is the right quotient followed by the suffix, and the quotient of a product by its first factor is the second one. No condition. -/
import Derived.Test.YtkiacoilecdepaaDoorPAllx1
import Derived.Test.YtkiacoilecdepaaDoorPAllx31
import Derived.Test.YtkiacoilecdepaaDoorPAllx32
import Derived.Test.YtkiacoilecdepaaDoorV0
import Derived.Test.YtkiacoilecdepaaDoorV13
import Derived.Test.YtkiacoilecdepaaDoorV14
import Derived.Test.YtkiacoilecdepaaDoorV19
import Derived.Test.YtkiacoilecdepaaDoorV3
import Derived.Test.YtkiacoilecdepaaDoorV8
import Derived.Test.YtkiacoilecdepaaDoorQBase
import Derived.Test.YtkiacoilecdepaaDoorQMeet
import Derived.Test.YtkiacoilecdepaaDoorQOrder
import Derived.Test.YtkiacoilecdepaaDoorQRev
import Derived.Test.YtkiacoilecdepaaDoorQTrace
import Derived.Test.YtkiacoilecdepaaDoorStmtFnQuotients
set_option linter.unusedVariables false
set_option linter.unusedSimpArgs false
namespace Go.Proofs.YtkiacoilecdepaaDoor.LFnQuotients
open Go.RowKit Go.Proofs.YtkiacoilecdepaaDoorW.PrintWords Go.Proofs.YtkiacoilecdepaaDoorW.PrintMore Go.Proofs.YtkiacoilecdepaaDoor.Q
open Go.Proofs.YtkiacoilecdepaaDoor.PAll
theorem back_ok {f : Nat → Nat → Bool} (hs : ∀ a b, f a b = f b a) {u v P : List Nat} (h : TrEq f (u ++ v) P) : ∃ q, cutP f v.reverse P.reverse = some q ∧ TrEq f q.reverse u := by
  have h1 := TrEq.reverse f hs h
  rw [List.reverse_append] at h1
  obtain ⟨q, q1, q2⟩ := cutP_TrEq_right f hs h1 (cutP_self_append f v.reverse u.reverse)
  refine ⟨q, q1, ?_⟩
  have h2 := TrEq.reverse f hs q2
  rw [List.reverse_reverse] at h2
  exact TrEq.symm f hs h2
theorem same_ok {m : Nat} {f : Nat → Nat → Bool} (hm : m ≤ 8) (hs : ∀ a b, f a b = f b a) (hA : Alpha (m : Int) (mat m f)) {q u : List Nat} (hq : ∀ x ∈ q, x < m) (hul : u.length ≤ 24) (hu : ∀ x ∈ u, x < m) (h : TrEq f q u) :
    Ev (fun k => impl_AreSameTrace.f k (m : Int) (mat m f) (ints (normalP f m q)) (ints u)) (true, 0) := by
  have hl := TrEq.length f h
  have hn := normalP_length f hs hq
  have := AreSameTrace_ok hm hs hA (show (normalP f m q).length ≤ 24 by omega) (normalP_lt f hs hq) hul hu
  rwa [decide_eq_true (TrEq.trans f hs (normalP_TrEq f hs _ q rfl hq) h)] at this
theorem j2_ev (n : Int) (D l1 l2 : List Int) (r : List Int × Int) (h3 : r.2 = 0 → ∃ m f u v, Two n D l1 l2 m f u v ∧ (u ++ v).length ≤ 24 ∧ r.1 = ints (normalP f m (u ++ v))) :
    Ev (fun k => laws_FnQuotients.j2 k l1 l2 r.1 r.2 (!true) n D) true := by
  refine Ev.succ ?_
  simp only [laws_FnQuotients.j2]
  refine Ev.neg (by simp) (Ev.ite (fun k0 => ?_) (fun _ => Ev.now _))
  obtain ⟨m, f, u, v, T, hle, e⟩ := h3 k0
  rw [e]
  obtain ⟨rfl, rfl, rfl, rfl, hm, hs, hr, hul, hu, hvl, hv, hA⟩ := T
  have huv := mem_app hu hv
  have hP := normalP_lt f hs huv
  have hPl := normalP_length f hs huv
  have hT := TrEq.symm f hs (normalP_TrEq f hs _ (u ++ v) rfl huv)
  obtain ⟨q, q1, q2⟩ := cutP_TrEq_right f hs hT (cutP_self_append f u v)
  obtain ⟨p, p1, p2⟩ := back_ok hs hT
  have hq : ∀ x ∈ q, x < m := fun x hx => hP x (cutP_sub f q1 x hx)
  have hp : ∀ x ∈ p.reverse, x < m := fun x hx => hu x ((TrEq.mem f p2 x).1 hx)
  have hL := LeftQuotient_ok hm hA hul hu (show (normalP f m (u ++ v)).length ≤ 24 by omega) hP q1
  have hR := RightQuotient_ok hm hA hvl hv (show (normalP f m (u ++ v)).length ≤ 24 by omega) hP p1
  exact Ev.bind hL (Ev.bind hR (Ev.bind (same_ok hm hs hA hq hvl hv (TrEq.symm f hs q2)) (Ev.bind (same_ok hm hs hA hp hul hu p2) (Ev.pos rfl (Ev.pos rfl (Ev.pos rfl (Ev.pos rfl (Ev.pos rfl (Ev.now _)))))))))
theorem j1_ev (c : List Int) (hb : ∀ x ∈ c, 0 ≤ x ∧ x ≤ 255) (hc : c.length ≤ 4096) : Ev (fun k => laws_FnQuotients.j1 k c) true := by
  obtain ⟨n, D, l1, l2, a, h, hd⟩ := l05Two_ev c hb hc 6 14 (by omega) (by omega)
  have hd' : Ev (fun k => spec_DrawConcatenate.f k c) (n, D, l1, l2) := by
    simp only [spec_DrawConcatenate.f]
    exact Ev.bind hd (Ev.now _)
  obtain ⟨r, hrl, h1, h2, h3⟩ := Concatenate_both n D l1 l2
  refine Ev.succ ?_
  simp only [laws_FnQuotients.j1]
  exact Ev.bind hd' (Ev.bind h2 (Ev.bind h1 (Ev.pos rfl (Ev.bind (likeInts_ev r.1 (by omega)) (j2_ev n D l1 l2 r h3)))))
theorem law_ev (c : List Int) (hb : ∀ x ∈ c, 0 ≤ x ∧ x ≤ 255) : Ev (fun k => laws_FnQuotients.f k c) true := by
  simp only [laws_FnQuotients.f, laws_big.f]
  refine Ev.some_bind (Ev.ite (fun _ => Ev.now _) (fun g => ?_))
  have hc : c.length ≤ 4096 := by simp at g; omega
  obtain ⟨n, D, l1, l2, hd⟩ := l05Part_ev c hb hc 6 24 (by omega) (by omega) false
  have hd' : Ev (fun k => spec_DrawLeftQuotient.f k c) (n, D, l1, l2) := by
    simp only [spec_DrawLeftQuotient.f]
    exact Ev.bind hd (Ev.now _)
  obtain ⟨r, hrl, h1, h2, h3⟩ := LeftQuotient_both n D l1 l2
  refine Ev.bind hd' (Ev.bind h2 (Ev.bind h1 (Ev.pos rfl (Ev.bind (likeInts_ev r.1 (by omega)) (Ev.succ ?_)))))
  simp only [laws_FnQuotients.j0]
  refine Ev.neg (by simp) (Ev.ite (fun k0 => ?_) (fun _ => j1_ev c hb hc))
  obtain ⟨m, f, u, w, q, T, q1, e⟩ := h3 k0
  rw [e]
  obtain ⟨rfl, rfl, rfl, rfl, hm, hs, hr, hul, hu, hwl, hw, hA⟩ := T
  have hq : ∀ x ∈ q, x < m := fun x hx => hw x (cutP_sub f q1 x hx)
  have hql := cutP_length f q1
  have hN := normalP_lt f hs hq
  have hNl := normalP_length f hs hq
  have hNt := normalP_TrEq f hs _ q rfl hq
  have hW : TrEq f (u ++ normalP f m q) w := TrEq.symm f hs (TrEq.trans f hs (cutP_spec f hs q1) (TrEq.append_left f u (TrEq.symm f hs hNt)))
  obtain ⟨p, p1, p2⟩ := back_ok hs hW
  have hp : ∀ x ∈ p.reverse, x < m := fun x hx => hu x ((TrEq.mem f p2 x).1 hx)
  have hC := Concatenate_ok hm hA hul hu (show (normalP f m q).length ≤ 24 by omega) hN
  rw [if_neg (by simp; omega)] at hC
  have hR := RightQuotient_ok hm hA (show (normalP f m q).length ≤ 24 by omega) hN hwl hw p1
  exact Ev.bind hC (Ev.bind (same_ok hm hs hA (mem_app hu hN) hwl hw hW) (Ev.bind hR (Ev.bind (same_ok hm hs hA hp hul hu p2) (Ev.pos rfl (Ev.pos rfl (Ev.pos rfl (Ev.pos rfl (Ev.pos rfl (Ev.pos rfl (j1_ev c hb hc))))))))))
theorem big_ev (c : List Int) (h : 4096 < c.length) : Ev (fun k => laws_FnQuotients.f k c) true := by
  simp only [laws_FnQuotients.f, laws_big.f]
  exact Ev.some_bind (Ev.pos (by simp; omega) (Ev.now _))
theorem pure : PureStmt := fun c _ h2 => (law_ev c (fun x hx => u8_bounds (h2 x hx))).elim fun K h => ⟨K, h K (Nat.le_refl K)⟩
end Go.Proofs.YtkiacoilecdepaaDoor.LFnQuotients
