import Derived.Test.YthgapkbkhoeleaaDoorPAllx16
import Derived.Test.YthgapkbkhoeleaaDoorV0
import Derived.Test.YthgapkbkhoeleaaDoorV1
import Derived.Test.YthgapkbkhoeleaaDoorV7
import Derived.Test.YthgapkbkhoeleaaDoorQBase
import Derived.Test.YthgapkbkhoeleaaDoorQDraw
import Derived.Test.YthgapkbkhoeleaaDoorQTrace
set_option linter.unusedVariables false
set_option linter.unusedSimpArgs false
namespace Go.Proofs.YthgapkbkhoeleaaDoor.PAll
open Go.RowKit Go.Proofs.YthgapkbkhoeleaaDoorW.PrintWords Go.Proofs.YthgapkbkhoeleaaDoorW.PrintMore Go.Proofs.YthgapkbkhoeleaaDoor.Q
theorem l03Draw_l0 {c : List Int} (m : Int) (D : List Int) : ∀ (t : Nat) (out : List Int) (a h : Int), Src c a → out.length + t ≤ 1000 →
    ∃ w a' h', Src c a' ∧ w.length = out.length + t ∧ Ev (fun k => spec_l03Draw.l0 k out (t : Int) c a h m D) (w, a', h') := by
  intro t
  induction t with
  | zero =>
    intro out a h hS hl
    refine ⟨out, a, h, hS, by omega, Ev.succ ?_⟩
    simp only [spec_l03Draw.l0]
    exact Ev.neg (by omega) (Ev.now _)
  | succ t ih =>
    intro out a h hS hl
    have wt : wrap64 (((t + 1 : Nat) : Int) - 1) = (t : Int) := by rw [w64' (by omega)]; omega
    by_cases g : (out.length : Int) > 0
    · obtain ⟨v, a1, h1, e1, s1, v0, v1, _⟩ := l01Next_ev hS h 8
      by_cases g2 : v = 0
      · obtain ⟨w, a2, h2, s2, l2, r2⟩ := ih (out ++ [rd out (wrap64 ((out.length : Int) - 1))]) a1 h1 s1 (by simp; omega)
        refine ⟨w, a2, h2, s2, by rw [l2]; simp; omega, Ev.succ ?_⟩
        simp only [spec_l03Draw.l0]
        refine Ev.pos (by omega) (Ev.pos g ?_)
        rw [e1]
        refine Ev.some_bind (Ev.pos g2 (Ev.pos (by rw [w64' (by omega)]; omega) (Ev.pos (by rw [w64' (by omega)]; omega) (Ev.pos (by omega) ?_))))
        rw [wt]
        exact r2
      · obtain ⟨v2, a2, h2, e2, s2, _⟩ := l01Next_ev s1 h1 m
        obtain ⟨w, a3, h3, s3, l3, r3⟩ := ih (out ++ [v2]) a2 h2 s2 (by simp; omega)
        refine ⟨w, a3, h3, s3, by rw [l3]; simp; omega, Ev.succ ?_⟩
        simp only [spec_l03Draw.l0]
        refine Ev.pos (by omega) (Ev.pos g ?_)
        rw [e1]
        refine Ev.some_bind (Ev.neg g2 ?_)
        rw [e2]
        refine Ev.some_bind (Ev.pos (by omega) ?_)
        rw [wt]
        exact r3
    · obtain ⟨v2, a2, h2, e2, s2, _⟩ := l01Next_ev hS h m
      obtain ⟨w, a3, h3, s3, l3, r3⟩ := ih (out ++ [v2]) a2 h2 s2 (by simp; omega)
      refine ⟨w, a3, h3, s3, by rw [l3]; simp; omega, Ev.succ ?_⟩
      simp only [spec_l03Draw.l0]
      refine Ev.pos (by omega) (Ev.neg g ?_)
      rw [e2]
      refine Ev.some_bind (Ev.pos (by omega) ?_)
      rw [wt]
      exact r3
theorem l03Draw_ev {c : List Int} {a : Int} (hS : Src c a) (h n : Int) (D : List Int) (most : Nat) (hm : most ≤ 24) : ∃ w a' h', Src c a' ∧ w.length ≤ most ∧ Ev (fun k => spec_l03Draw.f k c a h n D (most : Int)) (w, a', h') := by
  by_cases g : n = 0
  · refine ⟨[], a, h, hS, by simp, ?_⟩
    simp only [spec_l03Draw.f]
    exact Ev.some_bind (Ev.pos g (Ev.now _))
  · obtain ⟨v, a1, h1, e1, s1, v0, v1, _⟩ := l01Next_ev hS h (wrap64 ((most : Int) + 1))
    rw [w64' (by omega)] at v1
    have v1' := v1 (by omega)
    obtain ⟨t, rfl⟩ := Int.eq_ofNat_of_zero_le v0
    obtain ⟨w, a2, h2, s2, l2, r2⟩ := l03Draw_l0 (c := c) n D t [] a1 h1 s1 (by simp; omega)
    refine ⟨w, a2, h2, s2, by rw [l2]; simp; omega, ?_⟩
    simp only [spec_l03Draw.f]
    refine Ev.some_bind (Ev.neg g ?_)
    rw [e1]
    exact Ev.some_bind r2
theorem l03Spoil_l0 {c : List Int} (m : Int) (D : List Int) : ∀ (t : Nat) (out : List Int) (a h : Int), Src c a → out.length + t = 25 →
    ∃ w a' h', Src c a' ∧ w.length ≤ 25 ∧ Ev (fun k => spec_l03Spoil.l0 k out c a h m D) (w, a', h') := by
  intro t
  induction t with
  | zero =>
    intro out a h hS hl
    refine ⟨out, a, h, hS, by omega, Ev.succ ?_⟩
    simp only [spec_l03Spoil.l0]
    exact Ev.ite (fun _ => Ev.neg (by omega) (Ev.now _)) (fun _ => Ev.now _)
  | succ t ih =>
    intro out a h hS hl
    by_cases g : m > 0
    · obtain ⟨v2, a2, h2, e2, s2, _⟩ := l01Next_ev hS h m
      obtain ⟨w, a3, h3, s3, l3, r3⟩ := ih (out ++ [v2]) a2 h2 s2 (by simp; omega)
      refine ⟨w, a3, h3, s3, l3, Ev.succ ?_⟩
      simp only [spec_l03Spoil.l0]
      refine Ev.pos g (Ev.pos (by omega) ?_)
      rw [e2]
      exact Ev.some_bind (Ev.pos (by omega) r3)
    · refine ⟨out, a, h, hS, by omega, Ev.succ ?_⟩
      simp only [spec_l03Spoil.l0]
      exact Ev.neg g (Ev.now _)
theorem l03Spoil_ev {c : List Int} {a : Int} (hS : Src c a) (h n : Int) (D : List Int) (most : Nat) (hm : most ≤ 24) : ∃ w a' h', Src c a' ∧ w.length ≤ 25 ∧ Ev (fun k => spec_l03Spoil.f k c a h n D (most : Int)) (w, a', h') := by
  have hi := l02Is_ev n D
  by_cases g : Alpha n D
  · rw [decide_eq_true g] at hi
    obtain ⟨w, a1, h1, s1, l1, r1⟩ := l03Draw_ev hS h n D most hm
    obtain ⟨v, a2, h2, e2, s2, _⟩ := l01Next_ev s1 h1 28
    by_cases g0 : v = 0
    · obtain ⟨v3, a3, h3, e3, s3, _⟩ := l01Pick_ev s2 h2 [-1, n, 1099511627776] (by simp)
      refine ⟨w ++ [v3], a3, h3, s3, by simp; omega, ?_⟩
      simp only [spec_l03Spoil.f]
      refine Ev.bind hi (Ev.pos rfl (Ev.bind r1 ?_))
      simp only []
      rw [e2]
      refine Ev.some_bind (Ev.pos g0 ?_)
      simp only []
      rw [e3]
      exact Ev.some_bind (Ev.pos (by omega) (Ev.now _))
    · by_cases g1 : v = 1
      · obtain ⟨w', a3, h3, s3, l3, r3⟩ := l03Spoil_l0 (c := c) n D (25 - w.length) w a2 h2 s2 (by omega)
        refine ⟨w', a3, h3, s3, l3, ?_⟩
        simp only [spec_l03Spoil.f]
        refine Ev.bind hi (Ev.pos rfl (Ev.bind r1 ?_))
        simp only []
        rw [e2]
        exact Ev.some_bind (Ev.neg g0 (Ev.pos g1 r3))
      · refine ⟨w, a2, h2, s2, by omega, ?_⟩
        simp only [spec_l03Spoil.f]
        refine Ev.bind hi (Ev.pos rfl (Ev.bind r1 ?_))
        simp only []
        rw [e2]
        exact Ev.some_bind (Ev.neg g0 (Ev.neg g1 (Ev.now _)))
  · rw [decide_eq_false g] at hi
    refine ⟨[0, 1, 0], a, h, hS, by simp, ?_⟩
    simp only [spec_l03Spoil.f]
    exact Ev.bind hi (Ev.neg (by decide) (Ev.now _))
theorem l03Pair_ev (c : List Int) (hb : ∀ x ∈ c, 0 ≤ x ∧ x ≤ 255) (hc : c.length ≤ 4096) (letters most : Nat) (hl : letters ≤ 8) (hm : most ≤ 24) : ∃ a h n D w, Src c a ∧ D.length ≤ 9 ∧ w.length ≤ 25 ∧ Ev (fun k => spec_l03Pair.f k c (letters : Int) (most : Int)) (c, a, h, n, D, w) := by
  obtain ⟨h0, r0⟩ := l01From_ev c hc
  have s0 : Src c 0 := ⟨hb, hc, by omega, by omega⟩
  obtain ⟨⟨n1, D1, a1, h1⟩, ⟨m, f, e1, e2, hm1, hm8, hs, hr, s1⟩, r1⟩ := l02Draw_ev s0 h0 letters hl
  simp only at e1 e2 s1
  subst e1 e2
  obtain ⟨v2, a2, h2, x2, s2, _⟩ := l01Next_ev s1 h1 24
  by_cases g : v2 = 0
  · obtain ⟨n3, D3, a3, h3, s3, l3, r3⟩ := l02Spoil_ev s2 h2 letters hl
    obtain ⟨w, a4, h4, s4, l4, r4⟩ := l03Spoil_ev s3 h3 n3 D3 most hm
    refine ⟨a4, h4, n3, D3, w, s4, l3, l4, ?_⟩
    simp only [spec_l03Pair.f]
    refine Ev.bind r0 (Ev.bind r1 ?_)
    simp only []
    rw [x2]
    exact Ev.some_bind (Ev.pos g (Ev.bind r3 (Ev.bind r4 (Ev.now _))))
  · obtain ⟨w, a4, h4, s4, l4, r4⟩ := l03Spoil_ev s2 h2 (m : Int) (mat m f) most hm
    refine ⟨a4, h4, (m : Int), mat m f, w, s4, by simp; omega, l4, ?_⟩
    simp only [spec_l03Pair.f]
    refine Ev.bind r0 (Ev.bind r1 ?_)
    simp only []
    rw [x2]
    exact Ev.some_bind (Ev.neg g (Ev.bind r4 (Ev.now _)))
end Go.Proofs.YthgapkbkhoeleaaDoor.PAll
