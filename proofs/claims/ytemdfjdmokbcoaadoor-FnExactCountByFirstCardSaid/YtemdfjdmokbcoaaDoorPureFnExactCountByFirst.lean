/- For every alphabet, length and mask, FnExactCountByFirst answers true: the program's CountByFirst and the reference's come to the same, and leave their arguments alone. No condition. -/
import Derived.Test.YtemdfjdmokbcoaaDoorPAllx1
import Derived.Test.YtemdfjdmokbcoaaDoorPAllx2
import Derived.Test.YtemdfjdmokbcoaaDoorPAllx3
import Derived.Test.YtemdfjdmokbcoaaDoorPAllx8
import Derived.Test.YtemdfjdmokbcoaaDoorV0
import Derived.Test.YtemdfjdmokbcoaaDoorV1
import Derived.Test.YtemdfjdmokbcoaaDoorQBase
import Derived.Test.YtemdfjdmokbcoaaDoorQConj
import Derived.Test.YtemdfjdmokbcoaaDoorQCount
import Derived.Test.YtemdfjdmokbcoaaDoorQDraw
import Derived.Test.YtemdfjdmokbcoaaDoorQProd
import Derived.Test.YtemdfjdmokbcoaaDoorQRev
import Derived.Test.YtemdfjdmokbcoaaDoorQTrace
import Derived.Test.YtemdfjdmokbcoaaDoorStmtFnExactCountByFirst
set_option linter.unusedVariables false
set_option linter.unusedSimpArgs false
namespace Go.Proofs.YtemdfjdmokbcoaaDoor.LFnExactCountByFirst
open Go.RowKit Go.Proofs.YtemdfjdmokbcoaaDoorW.PrintWords Go.Proofs.YtemdfjdmokbcoaaDoorW.PrintMore Go.Proofs.YtemdfjdmokbcoaaDoor.Q
open Go.Proofs.YtemdfjdmokbcoaaDoor.PAll
theorem both_ev (n : Int) (D : List Int) (a b : Int) (hb : (Lit.int .i64 b).wf = true) : ∃ r : Int × Int, Ev (fun k => spec_CountByFirst.f k n D a b) r ∧ Ev (fun k => impl_CountByFirst.f k n D a b) r := by
  have hc := l02Is_ev n D
  have hk := IsAlphabet_ev n D
  by_cases hA : Alpha n D
  · rw [decide_eq_true hA] at hc hk
    obtain ⟨m, f, rfl, rfl, hm, hs, hr⟩ := hA.form
    have hfull := l01Full_eq m (by omega)
    have hmask := IsMask24_eq m (by omega) b
    by_cases ha : 0 ≤ a ∧ a ≤ 24
    · obtain ⟨N, rfl⟩ := Int.eq_ofNat_of_zero_le ha.1
      have hN : N ≤ 24 := by omega
      have hcode : Ev (fun k => spec_l06Code.f k (m : Int) (mat m f) (N : Int)) 0 := by
        simp only [spec_l06Code.f, l01In_eq]
        exact Ev.bind hc (Ev.pos rfl (Ev.some_bind (Ev.pos (decide_eq_true ha) (Ev.now _))))
      by_cases hin : 0 ≤ b ∧ b ≤ ((2 ^ m - 1 : Nat) : Int)
      · rw [decide_eq_true hin] at hmask
        obtain ⟨c, v, h1, h2, h3, _⟩ := many_ev m hm f hs hr hk N hN
        have himp : ∀ r : Int × Int, (c = 0 → Ev (fun k => if b = 0 ∧ (N : Int) = 0 then some ((1 : Int), (0 : Int)) else ((impl_stepCounts.f k (m : Int) (mat m f) (N : Int)).bind fun sR => if (Lit.int .i64 b).wf = true then (if b ∈ sR.1 then (if 0 ≤ (N : Int) then some (rd (sR.2 b) (N : Int), 0) else none) else some (0, 0)) else none)) r) → (c ≠ 0 → r = (0, c)) → Ev (fun k => impl_CountByFirst.f k (m : Int) (mat m f) (N : Int) b) r := by
          intro r g1 g2
          simp only [impl_CountByFirst.f, inRange_eq, hmask]
          refine Ev.bind hk (Ev.pos rfl (Ev.some_bind (Ev.pos (decide_eq_true ha) (Ev.some_bind (Ev.pos rfl (Ev.bind h2 ?_))))))
          refine Ev.ite (fun z => g1 z) (fun z => ?_)
          rw [g2 z]
          exact Ev.now _
        have hsp : ∀ r : Int × Int, (c = 0 → Ev (fun k => (spec_l02Steps.f k (m : Int) (mat m f)).bind fun t253 => ((spec_l01Index.f k t253 b).bind fun t256 => (if t256 < 0 then (some ((0 : Int), (0 : Int))) else ((spec_l06First.f k (m : Int) (mat m f) (N : Int)).bind fun t257 => (spec_CountByFirst.l0 k t256 t257 0 0))))) r) → (c ≠ 0 → r = (0, c)) → Ev (fun k => spec_CountByFirst.f k (m : Int) (mat m f) (N : Int) b) r := by
          intro r g1 g2
          simp only [spec_CountByFirst.f, hfull, l01In_eq]
          refine Ev.bind hcode (Ev.pos rfl (Ev.some_bind (Ev.some_bind (Ev.succ ?_))))
          rw [decide_eq_true hin]
          simp only [spec_CountByFirst.j0]
          refine Ev.neg (by decide) (Ev.succ ?_)
          simp only [spec_CountByFirst.j1]
          refine Ev.pos (by decide) (Ev.bind h1 (Ev.succ ?_))
          simp only [spec_CountByFirst.j2]
          refine Ev.ite (fun z => g1 z) (fun z => ?_)
          rw [g2 z]
          exact Ev.now _
        by_cases hc0 : c = 0
        · obtain ⟨T, hT⟩ := stepsP_head m f
          have hd := stepsP_nodup m f
          have hl := stepsP_few m hm f
          have hS := stepsP_lt m f
          have hlen : 1 ≤ (stepsP m f).length := by rw [hT]; simp
          have h00 : (stepsP m f).getD 0 0 = 0 := by rw [hT]; rfl
          obtain ⟨R, g1, g2⟩ := stepCounts_ev m hm f hs hr N hN
          obtain ⟨ix, e1, e2⟩ := l01Index_ev (stepsP m f) hl b
          have hfirst := l06First_ev m hm f N hN
          have hsteps := l02Steps_ev m hm f
          rcases e2 with ⟨rfl, hno⟩ | ⟨i, hi, rfl, rfl⟩
          · refine ⟨(0, 0), hsp _ (fun _ => Ev.bind hsteps (Ev.bind e1 (Ev.pos (by decide) (Ev.now _)))) (fun z => absurd hc0 z), himp _ (fun _ => ?_) (fun z => absurd hc0 z)⟩
            have hb0 : b ≠ 0 := fun z => hno (by rw [hT, z]; simp [ints])
            refine Ev.neg (fun z => hb0 z.1) (Ev.bind g2 (Ev.pos hb (Ev.neg (fun z => hno (List.mem_of_mem_drop z)) (Ev.now _))))
          · have hspec : Ev (fun k => (spec_l02Steps.f k (m : Int) (mat m f)).bind fun t253 => ((spec_l01Index.f k t253 (((stepsP m f).getD i 0 : Nat) : Int)).bind fun t256 => (if t256 < 0 then (some ((0 : Int), (0 : Int))) else ((spec_l06First.f k (m : Int) (mat m f) (N : Int)).bind fun t257 => (spec_CountByFirst.l0 k t256 t257 0 0))))) (wrap64 (bS m f (stepsP m f) N i), 0) := Ev.bind hsteps (Ev.bind e1 (Ev.neg (by omega) (Ev.bind hfirst (byFirst_ev m f (stepsP m f) N hN i hi))))
            refine ⟨(wrap64 (bS m f (stepsP m f) N i), 0), hsp _ (fun _ => hspec) (fun z => absurd hc0 z), himp _ (fun _ => ?_) (fun z => absurd hc0 z)⟩
            by_cases hi0 : i = 0
            · subst hi0
              have eB : bS m f (stepsP m f) N 0 = if N = 0 then 1 else 0 := cB_first _ _ _ N
              rw [eB, h00]
              by_cases hN0 : N = 0
              · rw [if_pos hN0]
                refine Ev.pos ⟨rfl, by omega⟩ (Ev.val (Ev.now _) ?_)
                rw [w64 (by omega) (by omega)]
              · rw [if_neg hN0]
                rw [h00] at hb
                refine Ev.neg (fun z => by omega) (Ev.bind g2 (Ev.pos hb (Ev.neg (fun z => ?_) (Ev.val (Ev.now _) ?_))))
                · have hz := z
                  rw [hT, ints_cons, List.drop_succ_cons, List.drop_zero] at hz
                  obtain ⟨x, hx, hx0⟩ := List.mem_map.1 hz
                  rw [hT] at hd
                  have hx1 : x = 0 := Int.ofNat.inj hx0
                  rw [hx1] at hx
                  exact (List.nodup_cons.1 hd).1 hx
                · rw [w64 (by omega) (by omega)]
            · have hne : (stepsP m f).getD i 0 ≠ 0 := fun z => hi0 (getD_inj hd hi hlen (z.trans h00.symm))
              refine Ev.neg (fun z => hne (by have := z.1; omega)) (Ev.bind g2 (Ev.pos hb (Ev.pos ?_ (Ev.pos (by omega) (Ev.val (Ev.now _) ?_)))))
              · have e := rdT (stepsP m f) (i - 1) (by omega)
                rw [show i - 1 + 1 = i by omega] at e
                rw [← e, rd_lt _ _ (by simp; omega)]
                exact List.getElem_mem _
              · simp only []
                rw [g1 i (by omega) hi, rd_rowW _ _ N (by omega)]
        · exact ⟨(0, c), hsp _ (fun z => absurd z hc0) (fun _ => rfl), himp _ (fun z => absurd z hc0) (fun _ => rfl)⟩
      · rw [decide_eq_false hin] at hmask
        refine ⟨(0, 2), ?_, ?_⟩
        · simp only [spec_CountByFirst.f, hfull, l01In_eq]
          refine Ev.bind hcode (Ev.pos rfl (Ev.some_bind (Ev.some_bind (Ev.succ ?_))))
          rw [decide_eq_false hin]
          simp only [spec_CountByFirst.j0]
          refine Ev.pos rfl (Ev.succ ?_)
          simp only [spec_CountByFirst.j1]
          refine Ev.neg (by decide) (Ev.succ ?_)
          simp only [spec_CountByFirst.j2]
          exact Ev.neg (by decide) (Ev.now _)
        · simp only [impl_CountByFirst.f, inRange_eq, hmask]
          exact Ev.bind hk (Ev.pos rfl (Ev.some_bind (Ev.pos (decide_eq_true ha) (Ev.some_bind (Ev.neg (by decide) (Ev.now _))))))
    · refine ⟨(0, 2), ?_, ?_⟩
      · have hcode : Ev (fun k => spec_l06Code.f k (m : Int) (mat m f) a) 2 := by
          simp only [spec_l06Code.f, l01In_eq]
          exact Ev.bind hc (Ev.pos rfl (Ev.some_bind (Ev.neg (by rw [decide_eq_false ha]; simp) (Ev.now _))))
        simp only [spec_CountByFirst.f]
        refine Ev.bind hcode (Ev.neg (by decide) (Ev.succ ?_))
        simp only [spec_CountByFirst.j0]
        refine Ev.neg (by decide) (Ev.succ ?_)
        simp only [spec_CountByFirst.j1]
        refine Ev.neg (by decide) (Ev.succ ?_)
        simp only [spec_CountByFirst.j2]
        exact Ev.neg (by decide) (Ev.now _)
      · simp only [impl_CountByFirst.f, inRange_eq]
        exact Ev.bind hk (Ev.pos rfl (Ev.some_bind (Ev.neg (by rw [decide_eq_false ha]; simp) (Ev.now _))))
  · rw [decide_eq_false hA] at hc hk
    refine ⟨(0, 1), ?_, ?_⟩
    · have hcode : Ev (fun k => spec_l06Code.f k n D a) 1 := by
        simp only [spec_l06Code.f]
        exact Ev.bind hc (Ev.neg (by decide) (Ev.now _))
      simp only [spec_CountByFirst.f]
      refine Ev.bind hcode (Ev.neg (by decide) (Ev.succ ?_))
      simp only [spec_CountByFirst.j0]
      refine Ev.neg (by decide) (Ev.succ ?_)
      simp only [spec_CountByFirst.j1]
      refine Ev.neg (by decide) (Ev.succ ?_)
      simp only [spec_CountByFirst.j2]
      exact Ev.neg (by decide) (Ev.now _)
    · simp only [impl_CountByFirst.f]
      exact Ev.bind hk (Ev.neg (by decide) (Ev.now _))
theorem law_ev (n : Int) (D : List Int) (a b : Int) (hb : (Lit.int .i64 b).wf = true) (hD : D.length ≤ maxLen) : Ev (fun k => laws_FnExactCountByFirst.f k n D a b) true := by
  unfold maxLen at hD
  simp only [laws_FnExactCountByFirst.f]
  rw [szAlphabet_eq n D 1048576 (by omega) (by omega) hD]
  refine Ev.some_bind (Ev.ite (fun c2 => Ev.now _) (fun c2 => ?_))
  have hD' : D.length ≤ 1048576 := by
    by_cases g : (D.length : Int) ≤ 1048576
    · omega
    · rw [if_neg g] at c2; omega
  have hA := toAlphabet_ev n D (by omega)
  have eA := eqAlphabet_ev n D (by omega)
  obtain ⟨r, hs, hi⟩ := both_ev n D a b hb
  refine Ev.bind hA (Ev.bind hs (Ev.bind hA (Ev.bind hi (Ev.pos rfl (Ev.pos rfl (Ev.bind hA (Ev.bind eA (Ev.pos rfl (Ev.now _)))))))))
theorem pure : PureStmt := fun n D a b _ hD _ _ hb => (law_ev n D a b hb hD).elim fun K h => ⟨K, h K (Nat.le_refl K)⟩
end Go.Proofs.YtemdfjdmokbcoaaDoor.LFnExactCountByFirst
