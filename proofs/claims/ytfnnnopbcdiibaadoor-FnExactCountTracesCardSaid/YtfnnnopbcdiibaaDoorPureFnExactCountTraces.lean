/- For every alphabet and number, FnExactCountTraces answers true: the program's CountTraces and the reference's come to the same, and leave their argument alone. No condition. -/
import Derived.Test.YtfnnnopbcdiibaaDoorPAllx28
import Derived.Test.YtfnnnopbcdiibaaDoorV0
import Derived.Test.YtfnnnopbcdiibaaDoorV1
import Derived.Test.YtfnnnopbcdiibaaDoorV17
import Derived.Test.YtfnnnopbcdiibaaDoorV7
import Derived.Test.YtfnnnopbcdiibaaDoorQBase
import Derived.Test.YtfnnnopbcdiibaaDoorQCF
import Derived.Test.YtfnnnopbcdiibaaDoorQDraw
import Derived.Test.YtfnnnopbcdiibaaDoorQInv
import Derived.Test.YtfnnnopbcdiibaaDoorQTrace
import Derived.Test.YtfnnnopbcdiibaaDoorStmtFnExactCountTraces
set_option linter.unusedVariables false
set_option linter.unusedSimpArgs false
namespace Go.Proofs.YtfnnnopbcdiibaaDoor.LFnExactCountTraces
open Go.RowKit Go.Proofs.YtfnnnopbcdiibaaDoorW.PrintWords Go.Proofs.YtfnnnopbcdiibaaDoorW.PrintMore Go.Proofs.YtfnnnopbcdiibaaDoor.Q
open Go.Proofs.YtfnnnopbcdiibaaDoor.PAll
theorem nP_below (m : Nat) (f : Nat → Nat → Bool) (hs : ∀ a b, f a b = f b a) (hr : ∀ a, a < m → f a a = true) (j n : Nat) (h1 : 1 ≤ j) (h : j ≤ n) : nP m f j ≤ nP m f n := by
  by_cases hm : 0 < m
  · obtain ⟨d, rfl⟩ := Nat.exists_eq_add_of_le h
    clear h
    induction d with
    | zero => exact Nat.le_refl _
    | succ d ih => exact Nat.le_trans ih (nP_mono m f hs hr hm (j + d))
  · obtain ⟨i, rfl⟩ := Nat.exists_eq_add_of_le h1
    rw [Nat.add_comm]
    unfold nP
    rw [aP_none m f i (by omega)]
    exact Nat.zero_le _
theorem both_ev (n : Int) (D : List Int) (a : Int) : ∃ r : Int × Int, Ev (fun k => spec_CountTraces.f k n D a) r ∧ Ev (fun k => impl_CountTraces.f k n D a) r := by
  have hc := l02Is_ev n D
  have hk := IsAlphabet_ev n D
  by_cases hA : Alpha n D
  · rw [decide_eq_true hA] at hc hk
    by_cases ha : 0 ≤ a ∧ a ≤ 24
    · obtain ⟨m, f, rfl, rfl, hm, hs, hr⟩ := hA.form
      obtain ⟨N, rfl⟩ := Int.eq_ofNat_of_zero_le ha.1
      have hN : N ≤ 24 := by omega
      have hpos := Nat.two_pow_pos m
      have hp := poly_ev m hm f hs hr
      have hinv := impl_inverse_ev (cliqueP (stepsP m f)) N hN hp.2
      have e1 : ([1] : List Int) = nList m f 1 := by simp [nList, nP_zero]
      rw [e1] at hinv
      have hcf := invLoop_nP m f hs hr N 1 (Nat.le_refl 1)
      have hcode : Ev (fun k => spec_l06Code.f k (m : Int) (mat m f) (N : Int)) 0 := by
        simp only [spec_l06Code.f, l01In_eq]
        exact Ev.bind hc (Ev.pos rfl (Ev.some_bind (Ev.pos (decide_eq_true ha) (Ev.now _))))
      have ht := tails_ev m hm f N hN
      have hrow := rd_rowsT m f (N + 1) N (by omega)
      have hent : rd (rowT m f N (2 ^ m)) 0 = ((capN (nP m f N) : Nat) : Int) := by
        rw [← entT_nP]
        exact rd_rowT m f N (2 ^ m) 0 hpos
      by_cases hbig : nP m f N ≤ 1000000000000000
      · have hcap : capN (nP m f N) = nP m f N := by unfold capN; omega
        rw [hcap] at hent
        have hin := hcf.1 (fun j h1 h2 => by
          have := nP_below m f hs hr j N h1 (by omega)
          unfold MC
          omega)
        rw [hin] at hinv
        refine ⟨((nP m f N : Nat), 0), ?_, ?_⟩
        · simp only [spec_CountTraces.f, spec_l06Many.f]
          refine Ev.bind hcode (Ev.pos rfl (Ev.bind (a := 0) (Ev.bind ht ?_) (Ev.pos rfl (Ev.bind ht ?_))))
          · refine Ev.pos (by omega) (Ev.pos (by rw [rowsT_length]; omega) ?_)
            rw [hrow]
            refine Ev.pos (by rw [rowT_length]; omega) ?_
            rw [hent]
            exact Ev.neg (by omega) (Ev.now _)
          · refine Ev.pos (by omega) (Ev.pos (by rw [rowsT_length]; omega) ?_)
            rw [hrow]
            refine Ev.pos (by rw [rowT_length]; omega) ?_
            rw [hent]
            exact Ev.now _
        · simp only [impl_CountTraces.f, impl_checkCount.f, inRange_eq]
          refine Ev.bind (a := (((nP m f N : Nat) : Int), 0)) (Ev.bind hk (Ev.pos rfl (Ev.some_bind (Ev.pos (decide_eq_true ha) (Ev.bind hp.1 (Ev.bind hinv ?_)))))) (Ev.now _)
          have hl : (nList m f (1 + N)).length = 1 + N := by simp [nList]
          refine Ev.pos rfl (Ev.pos (by omega) (Ev.pos (by simp only [hl]; omega) ?_))
          simp only []
          rw [rd_nList m f (1 + N) N (by omega)]
          exact Ev.now _
      · have hcap : capN (nP m f N) = 1000000000000001 := by unfold capN; omega
        rw [hcap] at hent
        have hN1 : 1 ≤ N := by
          by_cases c : 1 ≤ N
          · exact c
          · obtain rfl : N = 0 := by omega
            rw [nP_zero] at hbig
            omega
        have hin := hcf.2 ⟨N, hN1, by omega, by unfold MC; omega⟩
        rw [hin] at hinv
        refine ⟨(0, 3), ?_, ?_⟩
        · simp only [spec_CountTraces.f, spec_l06Many.f]
          refine Ev.bind hcode (Ev.pos rfl (Ev.bind (a := 3) (Ev.bind ht ?_) (Ev.neg (by decide) (Ev.now _))))
          refine Ev.pos (by omega) (Ev.pos (by rw [rowsT_length]; omega) ?_)
          rw [hrow]
          refine Ev.pos (by rw [rowT_length]; omega) ?_
          rw [hent]
          exact Ev.pos (by omega) (Ev.now _)
        · simp only [impl_CountTraces.f, impl_checkCount.f, inRange_eq]
          refine Ev.bind (a := (0, 3)) (Ev.bind hk (Ev.pos rfl (Ev.some_bind (Ev.pos (decide_eq_true ha) (Ev.bind hp.1 (Ev.bind hinv (Ev.neg (by decide) (Ev.now _)))))))) (Ev.now _)
    · refine ⟨(0, 2), ?_, ?_⟩
      · simp only [spec_CountTraces.f, spec_l06Code.f, l01In_eq]
        exact Ev.bind (a := 2) (Ev.bind hc (Ev.pos rfl (Ev.some_bind (Ev.neg (by rw [decide_eq_false ha]; simp) (Ev.now _))))) (Ev.neg (by decide) (Ev.now _))
      · simp only [impl_CountTraces.f, impl_checkCount.f, inRange_eq]
        exact Ev.bind (a := (0, 2)) (Ev.bind hk (Ev.pos rfl (Ev.some_bind (Ev.neg (by rw [decide_eq_false ha]; simp) (Ev.now _))))) (Ev.now _)
  · rw [decide_eq_false hA] at hc hk
    refine ⟨(0, 1), ?_, ?_⟩
    · simp only [spec_CountTraces.f, spec_l06Code.f]
      exact Ev.bind (a := 1) (Ev.bind hc (Ev.neg (by decide) (Ev.now _))) (Ev.neg (by decide) (Ev.now _))
    · simp only [impl_CountTraces.f, impl_checkCount.f]
      exact Ev.bind (a := (0, 1)) (Ev.bind hk (Ev.neg (by decide) (Ev.now _))) (Ev.now _)
theorem law_ev (n : Int) (D : List Int) (a : Int) (hD : D.length ≤ maxLen) : Ev (fun k => laws_FnExactCountTraces.f k n D a) true := by
  unfold maxLen at hD
  simp only [laws_FnExactCountTraces.f]
  rw [szAlphabet_eq n D 1048576 (by omega) (by omega) hD]
  refine Ev.some_bind (Ev.ite (fun c2 => Ev.now _) (fun c2 => ?_))
  have hD' : D.length ≤ 1048576 := by
    by_cases g : (D.length : Int) ≤ 1048576
    · omega
    · rw [if_neg g] at c2; omega
  have hA := toAlphabet_ev n D (by omega)
  have eA := eqAlphabet_ev n D (by omega)
  obtain ⟨r, hs, hi⟩ := both_ev n D a
  refine Ev.bind hA ?_
  refine Ev.bind hs ?_
  refine Ev.bind hA ?_
  refine Ev.bind hi ?_
  refine Ev.pos rfl (Ev.pos rfl ?_)
  refine Ev.bind hA (Ev.bind eA (Ev.pos rfl ?_))
  exact Ev.now _
theorem pure : PureStmt := fun n D a _ hD _ _ => (law_ev n D a hD).elim fun K h => ⟨K, h K (Nat.le_refl K)⟩
end Go.Proofs.YtfnnnopbcdiibaaDoor.LFnExactCountTraces
