import Derived.Test.YtkiacoilecdepaaDoorPAllx24
import Derived.Test.YtkiacoilecdepaaDoorPAllx4
import Derived.Test.YtkiacoilecdepaaDoorV0
import Derived.Test.YtkiacoilecdepaaDoorV1
import Derived.Test.YtkiacoilecdepaaDoorV11
import Derived.Test.YtkiacoilecdepaaDoorQBase
import Derived.Test.YtkiacoilecdepaaDoorQDraw
import Derived.Test.YtkiacoilecdepaaDoorQFoata
import Derived.Test.YtkiacoilecdepaaDoorQMeet
import Derived.Test.YtkiacoilecdepaaDoorQOrder
import Derived.Test.YtkiacoilecdepaaDoorQTrace
set_option linter.unusedVariables false
set_option linter.unusedSimpArgs false
namespace Go.Proofs.YtkiacoilecdepaaDoor.PAll
open Go.RowKit Go.Proofs.YtkiacoilecdepaaDoorW.PrintWords Go.Proofs.YtkiacoilecdepaaDoorW.PrintMore Go.Proofs.YtkiacoilecdepaaDoor.Q
set_option maxHeartbeats 2000000 in
theorem DrawJoinOf_ev (c : List Int) (hb : ∀ x ∈ c, 0 ≤ x ∧ x ≤ 255) (hc : c.length ≤ 4096) : ∃ (n : Int) (D r1 r2 : List Int), Ev (fun k => spec_DrawJoinOf.f k c) (n, D, r1, r2) := by
 obtain ⟨h0, r0⟩ := l01From_ev c hc
 have s0 : Src c 0 := ⟨hb, hc, by omega, by omega⟩
 obtain ⟨t, a1, h1, e1, s1, _⟩ := l01Next_ev s0 h0 16
 by_cases g : t = 0
 ·obtain ⟨t2, a2, h2, e2, s2, p0, p1, _⟩ := l01Next_ev s1 h1 4
  obtain ⟨t3, a3, h3, e3, s3, q0, q1, _⟩ := l01Next_ev s2 h2 4
  have p1' := p1 (by omega)
  have q1' := q1 (by omega)
  have loop : ∀ (d : Nat) (x y : List Int) (n : Int) (D : List Int), y.length + d ≤ 1000 → ∃ z, Ev (fun k => spec_DrawJoinOf.l0 k x y (d : Int) n D) (n, D, x, z) := by
   intro d
   induction d with
   | zero =>
    intro x y n D hy
    refine ⟨y, Ev.succ ?_⟩
    simp only [spec_DrawJoinOf.l0]
    exact Ev.neg (by omega) (Ev.now _)
   | succ d ih =>
    intro x y n D hy
    obtain ⟨z, e⟩ := ih x (y ++ [1]) n D (by simp; omega)
    refine ⟨z, Ev.succ ?_⟩
    simp only [spec_DrawJoinOf.l0]
    refine Ev.pos (by omega) (Ev.pos (by omega) ?_)
    rw [show wrap64 (((d + 1 : Nat) : Int) - 1) = (d : Int) by rw [w64' (by omega)]; omega]
    exact e
  obtain ⟨z, e⟩ := loop (10 + t3).toNat (List.replicate (11 + t2).toNat 0) [] 2 (mat 2 fun a b => decide (a = b)) (by simp; omega)
  refine ⟨2, mat 2 fun a b => decide (a = b), List.replicate (11 + t2).toNat 0, z, ?_⟩
  simp only [spec_DrawJoinOf.f]
  refine Ev.bind r0 ?_
  simp only []
  rw [e1]
  refine Ev.some_bind (Ev.pos g (Ev.bind (l02Free_ev 2 (by omega)) ?_))
  simp only []
  rw [e2]
  refine Ev.some_bind ?_
  simp only []
  rw [w64' (x := 11 + t2) (by omega), e3]
  refine Ev.pos (by omega) (Ev.pos (by omega) (Ev.some_bind ?_))
  simp only []
  rw [w64' (x := 10 + t3) (by omega)]
  rw [show (((10 + t3).toNat : Nat) : Int) = 10 + t3 by omega] at e
  exact e
 ·obtain ⟨n, D, x, y, e⟩ := l05Friends_ev c hb hc
  refine ⟨n, D, x, y, ?_⟩
  simp only [spec_DrawJoinOf.f]
  refine Ev.bind r0 ?_
  simp only []
  rw [e1]
  exact Ev.some_bind (Ev.neg g (Ev.bind e (Ev.now _)))
theorem MeetOf_ok {n : Nat} (hn : n ≤ 8) {f : Nat → Nat → Bool} (hs : ∀ a b, f a b = f b a) (hA : Alpha (n : Int) (mat n f)) {u v p a b : List Nat} (hl : u.length ≤ 24) (hu : ∀ x ∈ u, x < n) (hl2 : v.length ≤ 24) (hv : ∀ x ∈ v, x < n) (h : Meets f u v p a b) :
  Ev (fun k => impl_MeetOf.f k (n : Int) (mat n f) (ints u) (ints v)) (ints (normalP f n p), 0) := by
 obtain ⟨q, a2, b2, g2, h2⟩ := meet_ev n hn f u v (by omega) (by omega) hu hv
 have hp : ∀ x ∈ p, x < n := fun x hx => hu x (cutP_mem f h.1 x hx)
 have hq : ∀ x ∈ q, x < n := fun x hx => hu x (cutP_mem f g2.1 x hx)
 have lq := Meets.le f g2
 rw [normalP_congr f hs hp hq (Meets.unique f hs h g2).1]
 simp only [impl_MeetOf.f, impl_Alphabet_ties.f]
 exact Ev.bind (check_2 hA hl hu hl2 hv) (Ev.pos rfl (Ev.some_bind (Ev.bind h2 (Ev.some_bind (Ev.bind (normal_ev n hn f q (by omega) hq) (Ev.now _))))))
theorem NormalForm_ok {n : Nat} (hn : n ≤ 8) {f : Nat → Nat → Bool} (hA : Alpha (n : Int) (mat n f)) {u : List Nat} (hl : u.length ≤ 24) (hu : ∀ x ∈ u, x < n) : Ev (fun k => impl_NormalForm.f k (n : Int) (mat n f) (ints u)) (ints (normalP f n u), 0) := by
 simp only [impl_NormalForm.f, impl_Alphabet_ties.f]
 exact Ev.bind (check_1 hA hl hu) (Ev.pos rfl (Ev.some_bind (Ev.bind (normal_ev n hn f u (by omega) hu) (Ev.now _))))
end Go.Proofs.YtkiacoilecdepaaDoor.PAll
