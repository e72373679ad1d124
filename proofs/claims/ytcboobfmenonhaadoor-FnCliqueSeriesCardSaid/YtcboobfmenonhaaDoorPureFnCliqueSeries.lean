/- For every code, FnCliqueSeries answers true: the steps give the clique polynomial, and its inverse the numbers of traces. No condition. -/
import Derived.Test.YtcboobfmenonhaaDoorPAllx1
import Derived.Test.YtcboobfmenonhaaDoorPAllx2
import Derived.Test.YtcboobfmenonhaaDoorPAllx8
import Derived.Test.YtcboobfmenonhaaDoorV0
import Derived.Test.YtcboobfmenonhaaDoorV1
import Derived.Test.YtcboobfmenonhaaDoorQBase
import Derived.Test.YtcboobfmenonhaaDoorQCF
import Derived.Test.YtcboobfmenonhaaDoorQDraw
import Derived.Test.YtcboobfmenonhaaDoorQInv
import Derived.Test.YtcboobfmenonhaaDoorQMeet
import Derived.Test.YtcboobfmenonhaaDoorQPoly
import Derived.Test.YtcboobfmenonhaaDoorQTrace
import Derived.Test.YtcboobfmenonhaaDoorStmtFnCliqueSeries
set_option linter.unusedVariables false
set_option linter.unusedSimpArgs false
namespace Go.Proofs.YtcboobfmenonhaaDoor.LFnCliqueSeries
open Go.RowKit Go.Proofs.YtcboobfmenonhaaDoorW.PrintWords Go.Proofs.YtcboobfmenonhaaDoorW.PrintMore Go.Proofs.YtcboobfmenonhaaDoor.Q
open Go.Proofs.YtcboobfmenonhaaDoor.PAll
theorem main (m : Nat) (hm : m ≤ 8) (f : Nat → Nat → Bool) (hAl : Alpha (m : Int) (mat m f)) (hs : ∀ a b, f a b = f b a) (hr : ∀ a, a < m → f a a = true) (N : Nat) (hN : N ≤ 24) (cnt one : Int)
    (tail : (one = 0 ∧ cnt = ((nP m f N : Nat) : Int) ∧ invLoop (cliqueP (stepsP m f)) N [1] = (nList m f (1 + N), 0)) ∨ (one = 3 ∧ invLoop (cliqueP (stepsP m f)) N [1] = ([], 3))) :
    Ev (fun k => laws_FnCliqueSeries.j1 k (N : Int) cnt one false (m : Int) (mat m f)) true := by
  have hA := IsAlphabet_ev (m : Int) (mat m f)
  have h8 : (2 : Nat) ^ m ≤ 2 ^ 8 := Nat.pow_le_pow_right (by decide) hm
  have hpos := Nat.two_pow_pos m
  have hlen : (stepsP m f).length ≤ 256 := by
    have hl := List.length_filter_le (stepP m f) (List.range (2 ^ m))
    rw [List.length_range] at hl
    unfold stepsP
    omega
  have hlt : ∀ x ∈ stepsP m f, x < 256 := fun x hx => by have := List.mem_range.1 (List.mem_filter.1 hx).1; omega
  have hz : (0 : Nat) ∈ stepsP m f := by
    refine List.mem_filter.2 ⟨List.mem_range.2 hpos, (stepP_iff m f hr 0).2 fun a b _ _ h => ?_⟩
    rw [Nat.zero_testBit] at h
    exact absurd h (by simp)
  obtain ⟨hp1, hp2⟩ := poly_ev m hm f hs hr
  rw [decide_eq_true hAl] at hA
  have hP : Ev (fun k => impl_CliquePolynomial.f k (m : Int) (mat m f)) (cliqueP (stepsP m f), 0) := by
    simp only [impl_CliquePolynomial.f]
    exact Ev.bind hA (Ev.pos rfl (Ev.bind hp1 (Ev.now _)))
  have hS : Ev (fun k => impl_StepsOf.f k (m : Int) (mat m f)) (ints (stepsP m f), 0) := by
    simp only [impl_StepsOf.f]
    exact Ev.bind hA (Ev.pos rfl (Ev.bind (stepsOf_ev m hm f hs hr) (Ev.now _)))
  have h0 := clique_zero m f hs hr
  obtain ⟨hl1, hl2⟩ := clique_last (List.ne_nil_of_mem hz)
  obtain ⟨hd1, hd2⟩ := downs_clique (stepsP m f)
  obtain ⟨_, hk, hk2⟩ := len_foldK (stepsP m f) []
  have hL : (cliqueP (stepsP m f)).length ≤ 100 := by
    rcases hk2 with e | ⟨x, hx, e⟩
    · unfold cliqueP; rw [e]; simp
    · have := pcP_le 8 x (hlt x hx)
      unfold cliqueP; omega
  have hI : Ev (fun k => impl_InverseSeries.f k (cliqueP (stepsP m f)) (N : Int)) (invLoop (cliqueP (stepsP m f)) N [1]) := by
    have := impl_InverseSeries_ev (cliqueP (stepsP m f)) (N : Int)
    unfold invSeries at this
    rw [if_neg (by simp only [not_or, Decidable.not_not]; exact ⟨⟨by omega, by omega⟩, hp2⟩), if_neg (by simp only [not_or, Decidable.not_not]; exact ⟨by omega, h0⟩), Int.toNat_natCast] at this
    exact this
  have l1 : ∀ (d i : Nat), i + d = (cliqueP (stepsP m f)).length → Ev (fun k => laws_FnCliqueSeries.l1 k (N : Int) cnt one ((stepsP m f).foldl downK (cliqueP (stepsP m f))) (i : Int) (m : Int) (mat m f)) true := by
    intro d
    induction d with
    | zero =>
      intro i hi
      refine Ev.succ ?_
      simp only [laws_FnCliqueSeries.l1]
      refine Ev.neg (by rw [hd1]; omega) (Ev.bind hP (Ev.bind hI (Ev.pos rfl ?_)))
      rcases tail with ⟨rfl, rfl, hl⟩ | ⟨rfl, hl⟩
      · rw [hl]
        have e : (nList m f (1 + N)).length = 1 + N := by simp [nList]
        refine Ev.pos rfl (Ev.pos rfl (Ev.pos (by rw [w64' (by omega)]; simp only [e]; omega) (Ev.pos (by omega) (Ev.pos (by simp only [e]; omega) ?_))))
        simp only []
        rw [rd_nList m f (1 + N) N (by omega)]
        exact Ev.const (by simp)
      · rw [hl]
        exact Ev.neg (by decide) (Ev.const (by simp))
    | succ d ih =>
      intro i hi
      have := ih (i + 1) (by omega)
      refine Ev.succ ?_
      simp only [laws_FnCliqueSeries.l1]
      refine Ev.pos (by rw [hd1]; omega) (Ev.pos (by omega) (Ev.pos (hd2 i) ?_))
      rw [w64' (by omega)]
      exact this
  have l0 : ∀ (suf pre : List Nat), pre ++ suf = stepsP m f → Ev (fun k => laws_FnCliqueSeries.l0 k (N : Int) cnt one (pre.foldl downK (cliqueP (stepsP m f))) (ints (stepsP m f)) (pre.length : Int) (m : Int) (mat m f)) true := by
    intro suf
    induction suf with
    | nil =>
      intro pre hp
      rw [List.append_nil] at hp
      subst hp
      refine Ev.succ ?_
      simp only [laws_FnCliqueSeries.l0]
      exact Ev.neg (by simp) (l1 _ 0 (Nat.zero_add _))
    | cons x suf ih =>
      intro pre hp
      have hx : x ∈ stepsP m f := by rw [← hp]; simp
      have hx8 := hlt x hx
      have hpc := pcP_le 8 x hx8
      have hkx := hk x hx
      have hln : pre.length < (stepsP m f).length := by rw [← hp]; simp
      obtain ⟨e1, e2⟩ := rd_downs pre (cliqueP (stepsP m f)) (fun y hy => hk y (by rw [← hp]; exact List.mem_append_left _ hy))
      have hbd : -1000 ≤ rd (cliqueP (stepsP m f)) ((pcP x : Nat) : Int) ∧ rd (cliqueP (stepsP m f)) ((pcP x : Nat) : Int) ≤ 1000 := by
        have hlt' : pcP x < (cliqueP (stepsP m f)).length := hkx
        rw [rd_lt _ _ hlt']
        exact hp2 _ (List.getElem_mem hlt')
      have hmk := manyK_le pre (pcP x)
      have hbd2 : -2000 ≤ rd (pre.foldl downK (cliqueP (stepsP m f))) ((pcP x : Nat) : Int) ∧ rd (pre.foldl downK (cliqueP (stepsP m f))) ((pcP x : Nat) : Int) ≤ 2000 := by
        rw [e2]
        rcases sgK_abs (pcP x) with q | q <;> rw [q] <;> omega
      have := ih (pre ++ [x]) (by rw [← hp]; simp)
      rw [List.foldl_append, List.length_append] at this
      refine Ev.succ ?_
      simp only [laws_FnCliqueSeries.l0]
      refine Ev.pos (by rw [ints_length]; omega) (Ev.pos (by omega) ?_)
      have r1 : rd (ints (stepsP m f)) (pre.length : Int) = (x : Int) := by rw [← hp]; exact rd_mid pre suf x
      rw [r1]
      have hkx' : pcP x < (cliqueP (stepsP m f)).length := hkx
      refine Ev.bind (bits5_ev x (by omega)) (Ev.neg (by rw [e1]; omega) (Ev.pos (by omega) (Ev.pos (by rw [e1]; omega) ?_)))
      have t2 : Int.tmod ((pcP x : Nat) : Int) 2 = ((pcP x % 2 : Nat) : Int) := by rw [Int.tmod_eq_emod_of_nonneg (by omega)]; omega
      rw [t2, w64' (x := rd (pre.foldl downK (cliqueP (stepsP m f))) ((pcP x : Nat) : Int) - 1) (by omega), w64' (x := 2 * ((pcP x % 2 : Nat) : Int)) (by omega), w64' (x := rd (pre.foldl downK (cliqueP (stepsP m f))) ((pcP x : Nat) : Int) - 1 + 2 * ((pcP x % 2 : Nat) : Int)) (by omega), w64' (x := (pre.length : Int) + 1) (by omega), Int.toNat_natCast]
      have e5 : rd (pre.foldl downK (cliqueP (stepsP m f))) ((pcP x : Nat) : Int) - 1 + 2 * ((pcP x % 2 : Nat) : Int) = rd (pre.foldl downK (cliqueP (stepsP m f))) ((pcP x : Nat) : Int) - sgK (pcP x) := by unfold sgK; omega
      rw [e5]
      exact this
  refine Ev.succ ?_
  simp only [laws_FnCliqueSeries.j1]
  refine Ev.neg (by simp) (Ev.bind hP (Ev.bind hS (Ev.pos rfl (Ev.pos rfl (Ev.neg (by simp only []; omega) ?_)))))
  have e6 : wrap64 (((cliqueP (stepsP m f)).length : Int) - 1) = (((cliqueP (stepsP m f)).length - 1 : Nat) : Int) := by rw [w64' (by omega)]; omega
  simp only []
  rw [e6]
  refine Ev.pos (by omega) (Ev.pos (by omega) (Ev.succ ?_))
  simp only [laws_FnCliqueSeries.j2]
  refine Ev.neg (by simpa using hl2) ?_
  exact l0 (stepsP m f) [] rfl
theorem law_ev (c : List Int) (hb : ∀ x ∈ c, 0 ≤ x ∧ x ≤ 255) : Ev (fun k => laws_FnCliqueSeries.f k c) true := by
  simp only [laws_FnCliqueSeries.f, laws_big.f]
  refine Ev.some_bind (Ev.ite (fun _ => Ev.now _) (fun g => ?_))
  obtain ⟨a, h, n, D, x, _, hD, hd⟩ := l06Draw_ev c hb (by simp at g; omega) 8 24 (by omega) (by omega)
  have hd' : Ev (fun k => spec_DrawCountTraces.f k c) (n, D, x) := by
    simp only [spec_DrawCountTraces.f]
    exact Ev.bind hd (Ev.now _)
  obtain ⟨r, h1, h2, h3⟩ := countTraces_ev n D x
  refine Ev.bind hd' (Ev.bind h2 (Ev.bind h1 (Ev.pos rfl (Ev.succ ?_))))
  simp only [laws_FnCliqueSeries.j0]
  refine Ev.neg (by simp) ?_
  rcases h3 with rfl | rfl | ⟨m, f, N, hAl, rfl, rfl, hm, hs, hr, rfl, hN, h3⟩
  · refine Ev.pos rfl (Ev.succ ?_)
    simp only [laws_FnCliqueSeries.j1]
    exact Ev.pos (by simp) (Ev.now _)
  · refine Ev.neg (by decide) (Ev.succ ?_)
    simp only [laws_FnCliqueSeries.j1]
    exact Ev.pos (by simp) (Ev.now _)
  · rcases h3 with ⟨_, rfl, hl⟩ | ⟨_, rfl, hl⟩
    · exact Ev.neg (by simp) (main m hm f hAl hs hr N hN _ 0 (.inl ⟨rfl, rfl, hl⟩))
    · exact Ev.neg (by simp) (main m hm f hAl hs hr N hN _ 3 (.inr ⟨rfl, hl⟩))
theorem pure : PureStmt := fun c _ h2 => (law_ev c (fun x hx => u8_bounds (h2 x hx))).elim fun K h => ⟨K, h K (Nat.le_refl K)⟩
end Go.Proofs.YtcboobfmenonhaaDoor.LFnCliqueSeries
