/- For every code, FnLattice answers true: the meet of two traces is a prefix of both that all their common prefixes are prefixes of; the join of compatible ones does not depend on their order, has as many letters as both together less those of the meet, and both absorb each other. No condition. -/
import Derived.Test.YtkiacoilecdepaaDoorPAllx1
import Derived.Test.YtkiacoilecdepaaDoorPAllx25
import Derived.Test.YtkiacoilecdepaaDoorV0
import Derived.Test.YtkiacoilecdepaaDoorV11
import Derived.Test.YtkiacoilecdepaaDoorV16
import Derived.Test.YtkiacoilecdepaaDoorV3
import Derived.Test.YtkiacoilecdepaaDoorV5
import Derived.Test.YtkiacoilecdepaaDoorQBase
import Derived.Test.YtkiacoilecdepaaDoorQDraw
import Derived.Test.YtkiacoilecdepaaDoorQMeet
import Derived.Test.YtkiacoilecdepaaDoorQOrder
import Derived.Test.YtkiacoilecdepaaDoorQRev
import Derived.Test.YtkiacoilecdepaaDoorQTrace
import Derived.Test.YtkiacoilecdepaaDoorQUp
import Derived.Test.YtkiacoilecdepaaDoorStmtFnLattice
set_option linter.unusedVariables false
set_option linter.unusedSimpArgs false
namespace Go.Proofs.YtkiacoilecdepaaDoor.LFnLattice
open Go.RowKit Go.Proofs.YtkiacoilecdepaaDoorW.PrintWords Go.Proofs.YtkiacoilecdepaaDoorW.PrintMore Go.Proofs.YtkiacoilecdepaaDoor.Q
open Go.Proofs.YtkiacoilecdepaaDoor.PAll
theorem j3_ev {m : Nat} {f : Nat → Nat → Bool} (hm : m ≤ 8) (hs : ∀ a b, f a b = f b a) (hr : ∀ a, a < m → f a a = true) (hA : Alpha (m : Int) (mat m f)) {u v p a b : List Nat} (hul : u.length ≤ 24) (hu : ∀ x ∈ u, x < m) (hvl : v.length ≤ 24) (hv : ∀ x ∈ v, x < m) (hM : Meets f u v p a b)
  (r : List Int × Int) (e : r = if apartP f a b = true then (if 24 < u.length + b.length then ([], 3) else (ints (normalP f m (u ++ b)), 0)) else ([], 4)) :
  Ev (fun k => laws_FnLattice.j3 k (ints u) (ints v) r.1 r.2 (ints (normalP f m p)) false (m : Int) (mat m f)) true := by
 refine Ev.succ ?_
 simp only [laws_FnLattice.j3]
 refine Ev.neg (by decide) (Ev.ite (fun k0 => ?_) (fun _ => Ev.now _))
 by_cases g : apartP f a b = true
 ·rw [if_pos g] at e
  by_cases gl : 24 < u.length + b.length
  ·rw [if_pos gl] at e; subst e; cases k0
  ·rw [if_neg gl] at e
   subst e
   have la := cutP_length f hM.1
   have lb := cutP_length f hM.2.1
   have hp : ∀ x ∈ p, x < m := fun x hx => hu x (cutP_mem f hM.1 x hx)
   have ha : ∀ x ∈ a, x < m := fun x hx => hu x (cutP_sub f hM.1 x hx)
   have hb : ∀ x ∈ b, x < m := fun x hx => hv x (cutP_sub f hM.2.1 x hx)
   have hub := mem_app hu hb
   have hva := mem_app hv ha
   have nl := normalP_length f hs hub
   have nt := normalP_lt f hs hub
   have nT := TrEq.symm f hs (normalP_TrEq f hs _ (u ++ b) rfl hub)
   have pl := normalP_length f hs hp
   have pt := normalP_lt f hs hp
   have pT := TrEq.symm f hs (normalP_TrEq f hs _ p rfl hp)
   simp only [List.length_append] at nl
   have cu : cutP f u u = some [] := by have := cutP_self_append f u []; rwa [List.append_nil] at this
   have m1 : Meets f u (u ++ b) u [] b := ⟨cu, cutP_self_append f u b, fun c hc => by simp [isFirst] at hc⟩
   obtain ⟨a1, b1, m2, _, _⟩ := Meets.TrEq f hs m1 (TrEq.refl f u) nT
   have h1 := MeetOf_ok hm hs hA hul hu (show (normalP f m (u ++ b)).length ≤ 24 by omega) nt m2
   have h2 := NormalForm_ok hm hA hul hu
   have cp : cutP f p p = some [] := by have := cutP_self_append f p []; rwa [List.append_nil] at this
   have m3 : Meets f u p p a [] := ⟨hM.1, cp, fun c hc => by simp [isFirst] at hc⟩
   obtain ⟨a3, b3, m4, ta, tb⟩ := Meets.TrEq f hs m3 (TrEq.refl f u) pT
   have eb3 : b3 = [] := by have := TrEq.length f tb; exact List.length_eq_zero_iff.1 this.symm
   subst eb3
   have h3 := JoinOf_impl hm hs hA hul hu (show (normalP f m p).length ≤ 24 by omega) pt m4
   rw [if_pos (by simp [apartP]), if_neg (by simp; omega), List.append_nil] at h3
   have h4 := JoinOf_impl hm hs hA hvl hv hul hu (Meets.symm f hM)
   have swap : TrEq f (v ++ a) (u ++ b) := by
    have t1 : TrEq f (v ++ a) ((p ++ b) ++ a) := TrEq.append_right f hs (cutP_spec f hs hM.2.1) a
    have t2 : TrEq f (u ++ b) ((p ++ a) ++ b) := TrEq.append_right f hs (cutP_spec f hs hM.1) b
    have t3 : TrEq f ((p ++ b) ++ a) ((p ++ a) ++ b) := by
     rw [List.append_assoc, List.append_assoc]
     exact TrEq.append_left f p (apart_comm f hs hr a b ha g)
    exact TrEq.trans f hs t1 (TrEq.trans f hs t3 (TrEq.symm f hs t2))
   rw [if_pos (apart_symm f hs g), if_neg (by omega), normalP_congr f hs hva hub swap] at h4
   have lN := normalP_length f hs hu
   refine Ev.bind h1 (Ev.bind h2 (Ev.bind h3 (Ev.bind h4 (Ev.pos rfl (Ev.pos rfl (Ev.pos rfl (Ev.pos rfl (Ev.bind (likeInts_ev _ (by simp; omega)) (Ev.pos rfl (Ev.bind (likeInts_ev _ (by simp; omega)) (Ev.pos rfl (Ev.bind (likeInts_ev _ (by simp; omega)) (Ev.pos rfl (Ev.const ?_))))))))))))))
   simp only [ints_length]
   rw [w64' (by omega), w64' (by omega)]
   congr 1
   rw [beq_iff_eq]
   omega
 ·rw [if_neg g] at e; subst e; cases k0
theorem j2_ev (c : List Int) (hb : ∀ x ∈ c, 0 ≤ x ∧ x ≤ 255) (hc : c.length ≤ 4096) {m : Nat} {f : Nat → Nat → Bool} (hm : m ≤ 8) (hs : ∀ a b, f a b = f b a) (hr : ∀ a, a < m → f a a = true) (hA : Alpha (m : Int) (mat m f)) {u v p a b : List Nat} (hul : u.length ≤ 24) (hu : ∀ x ∈ u, x < m) (hvl : v.length ≤ 24) (hv : ∀ x ∈ v, x < m) (hM : Meets f u v p a b)
  (r : List Int × Int) (e : r = if apartP f a b = true then (if 24 < u.length + b.length then ([], 3) else (ints (normalP f m (u ++ b)), 0)) else ([], 4)) :
  Ev (fun k => laws_FnLattice.j2 k c (ints u) (ints v) r.1 r.2 (ints (normalP f m p)) false (m : Int) (mat m f)) true := by
 obtain ⟨h0, r0⟩ := roll_ev c hc 508
 have s0 : Src c 0 := ⟨hb, hc, by omega, by omega⟩
 obtain ⟨w, a1, h1, s1, t1, e1⟩ := shuffle5_ev s0 h0 hm hs (show u.length ≤ 100 by omega) hu
 have hlen := TrEq.length f t1
 have hw : ∀ x ∈ w, x < m := fun x hx => hu x ((TrEq.mem f t1 x).2 hx)
 obtain ⟨t, a2, h2, e2, s2, p0, p1, _⟩ := dice_ev s1 h1 ((w.length : Int) + 1)
 have p1' := p1 (by omega)
 obtain ⟨j, rfl⟩ := Int.eq_ofNat_of_zero_le p0
 have hq : ∀ x ∈ w.take j, x < m := fun x hx => hw x (List.mem_of_mem_take hx)
 have hql : (w.take j).length ≤ 24 := by simp; omega
 have hp : ∀ x ∈ p, x < m := fun x hx => hu x (cutP_mem f hM.1 x hx)
 have la := cutP_length f hM.1
 have pl := normalP_length f hs hp
 have pt := normalP_lt f hs hp
 have pT := TrEq.symm f hs (normalP_TrEq f hs _ p rfl hp)
 have i1 := IsPrefix_ok hm hA hql hq hvl hv
 have i2 := IsPrefix_ok hm hA hql hq (show (normalP f m p).length ≤ 24 by omega) pt
 have cq : cutP f (w.take j) w = some (w.drop j) := by
  have := cutP_self_append f (w.take j) (w.drop j)
  rwa [List.take_append_drop] at this
 obtain ⟨x, x1, _⟩ := cutP_TrEq_right f hs (TrEq.symm f hs t1) cq
 have key : (cutP f (w.take j) v).isSome = (cutP f (w.take j) (normalP f m p)).isSome := by
  rw [Bool.eq_iff_iff]
  constructor
  ·intro h
   obtain ⟨y, hy⟩ := Option.isSome_iff_exists.1 h
   obtain ⟨z, hz⟩ := Meets.greatest f hs hM x1 hy
   obtain ⟨z', hz', _⟩ := cutP_TrEq_right f hs pT hz
   rw [hz']; rfl
  ·intro h
   obtain ⟨y, hy⟩ := Option.isSome_iff_exists.1 h
   obtain ⟨y', hy', _⟩ := cutP_TrEq_right f hs (TrEq.symm f hs pT) hy
   obtain ⟨z, hz, _⟩ := cutP_trans f hs hy' hM.2.1
   rw [hz]; rfl
 rw [key] at i1
 refine Ev.succ ?_
 simp only [laws_FnLattice.j2]
 refine Ev.neg (by decide) (Ev.bind r0 (Ev.bind e1 ?_))
 simp only []
 rw [ints_length, w64' (by omega), e2]
 refine Ev.some_bind (Ev.pos (by omega) (Ev.pos (by omega) (Ev.some_bind ?_)))
 rw [Int.toNat_natCast, show (ints w).take j = ints (w.take j) by simp [ints]]
 refine Ev.bind i1 (Ev.bind i2 (Ev.pos rfl (Ev.pos rfl ?_)))
 simp only [bne_self_eq_false]
 exact j3_ev hm hs hr hA hul hu hvl hv hM r e
theorem j1_ev (c : List Int) (hb : ∀ x ∈ c, 0 ≤ x ∧ x ≤ 255) (hc : c.length ≤ 4096) (n : Int) (D l1 l2 : List Int) (r : List Int × Int) (q : Bool) (hq : q = decide (r.2 = 1 ∨ r.2 = 2))
  (h3 : r.2 ≠ 1 → r.2 ≠ 2 → ∃ m f u v p a b, Two n D l1 l2 m f u v ∧ Meets f u v p a b ∧ r = if apartP f a b = true then (if 24 < u.length + b.length then ([], 3) else (ints (normalP f m (u ++ b)), 0)) else ([], 4)) :
  Ev (fun k => laws_FnLattice.j1 k c l1 l2 r.1 r.2 q n D) true := by
 refine Ev.succ ?_
 simp only [laws_FnLattice.j1]
 refine Ev.ite (fun _ => Ev.now _) (fun g => ?_)
 have g' : ¬ (r.2 = 1 ∨ r.2 = 2) := fun z => g (by rw [hq]; exact decide_eq_true z)
 obtain ⟨m, f, u, v, p, a, b, T, hM, e⟩ := h3 (fun z => g' (.inl z)) (fun z => g' (.inr z))
 obtain ⟨rfl, rfl, rfl, rfl, hm, hs, hr, hul, hu, hvl, hv, hA⟩ := T
 have hp : ∀ x ∈ p, x < m := fun x hx => hu x (cutP_mem f hM.1 x hx)
 have la := cutP_length f hM.1
 have pl := normalP_length f hs hp
 have pt := normalP_lt f hs hp
 have pT := normalP_TrEq f hs _ p rfl hp
 have h1 := MeetOf_ok hm hs hA hul hu hvl hv hM
 have h2 := MeetOf_ok hm hs hA hvl hv hul hu (Meets.symm f hM)
 have i1 := IsPrefix_ok hm hA (show (normalP f m p).length ≤ 24 by omega) pt hul hu
 have i2 := IsPrefix_ok hm hA (show (normalP f m p).length ≤ 24 by omega) pt hvl hv
 rw [cutP_TrEq f hs pT, hM.1] at i1
 rw [cutP_TrEq f hs pT, hM.2.1] at i2
 exact Ev.bind h1 (Ev.bind h2 (Ev.bind i1 (Ev.bind i2 (Ev.pos rfl (Ev.pos rfl (Ev.pos rfl (Ev.pos rfl (Ev.bind (likeInts_ev _ (by simp; omega)) (Ev.pos rfl (Ev.pos rfl (j2_ev c hb hc hm hs hr hA hul hu hvl hv hM r e)))))))))))
theorem law_ev (c : List Int) (hb : ∀ x ∈ c, 0 ≤ x ∧ x ≤ 255) : Ev (fun k => laws_FnLattice.f k c) true := by
 simp only [laws_FnLattice.f, laws_big.f]
 refine Ev.some_bind (Ev.ite (fun _ => Ev.now _) (fun g => ?_))
 have hc : c.length ≤ 4096 := by simp at g; omega
 obtain ⟨n, D, l1, l2, hd⟩ := DrawJoinOf_ev c hb hc
 obtain ⟨r, hrl, h1, h2, h3⟩ := JoinOf_both n D l1 l2
 refine Ev.bind hd (Ev.bind h2 (Ev.bind h1 (Ev.pos rfl (Ev.bind (likeInts_ev r.1 (by omega)) (Ev.succ ?_)))))
 simp only [laws_FnLattice.j0]
 refine Ev.neg (by simp) (Ev.ite (fun k0 => ?_) (fun k0 => ?_))
 ·exact j1_ev c hb hc n D l1 l2 r true (by rw [decide_eq_true (.inl k0)]) h3
 ·exact j1_ev c hb hc n D l1 l2 r (r.2 == 2) (by rw [Bool.eq_iff_iff]; simp [k0]) h3
theorem big_ev (c : List Int) (h : 4096 < c.length) : Ev (fun k => laws_FnLattice.f k c) true := by
 simp only [laws_FnLattice.f, laws_big.f]
 exact Ev.some_bind (Ev.pos (by simp; omega) (Ev.now _))
theorem pure : PureStmt := fun c _ h2 => (law_ev c (fun x hx => u8_bounds (h2 x hx))).elim fun K h => ⟨K, h K (Nat.le_refl K)⟩
end Go.Proofs.YtkiacoilecdepaaDoor.LFnLattice
