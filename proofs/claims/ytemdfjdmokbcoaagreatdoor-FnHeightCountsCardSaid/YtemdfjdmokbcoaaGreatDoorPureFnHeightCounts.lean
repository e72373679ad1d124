/- For every code, FnHeightCounts answers true: the numbers of traces by height and by first step add up to the number of all, and the listed traces have the heights that are counted. No condition. -/
import Derived.Test.YtemdfjdmokbcoaaGreatDoorPAllx1
import Derived.Test.YtemdfjdmokbcoaaGreatDoorPAllx10
import Derived.Test.YtemdfjdmokbcoaaGreatDoorPAllx11
import Derived.Test.YtemdfjdmokbcoaaGreatDoorPAllx2
import Derived.Test.YtemdfjdmokbcoaaGreatDoorPAllx7
import Derived.Test.YtemdfjdmokbcoaaGreatDoorPAllx9
import Derived.Test.YtemdfjdmokbcoaaGreatDoorV0
import Derived.Test.YtemdfjdmokbcoaaGreatDoorV1
import Derived.Test.YtemdfjdmokbcoaaGreatDoorQBase
import Derived.Test.YtemdfjdmokbcoaaGreatDoorQCF
import Derived.Test.YtemdfjdmokbcoaaGreatDoorQConj
import Derived.Test.YtemdfjdmokbcoaaGreatDoorQCount
import Derived.Test.YtemdfjdmokbcoaaGreatDoorQDraw
import Derived.Test.YtemdfjdmokbcoaaGreatDoorQTrace
import Derived.Test.YtemdfjdmokbcoaaGreatDoorStmtFnHeightCounts
set_option linter.unusedVariables false
set_option linter.unusedSimpArgs false
namespace Go.Proofs.YtemdfjdmokbcoaaGreatDoor.LFnHeightCounts
open Go.RowKit Go.Proofs.YtemdfjdmokbcoaaGreatDoorW.PrintWords Go.Proofs.YtemdfjdmokbcoaaGreatDoorW.PrintMore Go.Proofs.YtemdfjdmokbcoaaGreatDoor.Q
open Go.Proofs.YtemdfjdmokbcoaaGreatDoor.PAll
theorem law_ev (c:List Int) (hb:∀ x ∈ c,0 ≤ x ∧ x ≤ 255):Ev (fun k=>laws_FnHeightCounts.f k c) true:=by
  simp only [laws_FnHeightCounts.f,laws_big.f]
  refine Ev.some_bind (Ev.ite (fun _=>Ev.now _) (fun g=>?_))
  obtain ⟨a,h,n,D,x,_,hD,hd⟩:=l06Draw_ev c hb (by simp at g;omega) 5 14 (by omega) (by omega)
  have hd' : Ev (fun k=>spec_DrawCountByHeight.f k c) (n,D,x):=by
    simp only [spec_DrawCountByHeight.f]
    exact Ev.bind hd (Ev.now _)
  refine Ev.bind hd' ?_
  obtain ⟨r,h1,h2,h3⟩:=checkCount_ev n D x
  have early2:r.2 ≠ 0 → Ev (fun k=>impl_CountByHeight.f k n D x) ([],r.2) ∧ Ev (fun k=>spec_CountByHeight.f k n D x) ([],r.2):=fun z=>by
    constructor
    · simp only [impl_CountByHeight.f]
      exact Ev.bind h2 (Ev.neg z (Ev.now _))
    · simp only [spec_CountByHeight.f]
      exact Ev.bind h1 (Ev.neg z (Ev.now _))
  by_cases z:r.2 = 0
  · rcases h3 with rfl | rfl | ⟨m,f,N,hA,rfl,rfl,hm,hs,hr,rfl,hN,h4⟩
    · exact absurd z (by decide)
    · exact absurd z (by decide)
    · rcases h4 with ⟨hq,rfl,_⟩ | ⟨_,rfl,_⟩
      · have hk:=IsAlphabet_ev (m:Int) (mat m f)
        rw [decide_eq_true hA] at hk
        obtain ⟨e1,e2⟩:=countByHeight_ok m hm f hs hr N hN _ h1 h2
        rw [rows_rowC m hm f hs hr N hq] at e1 e2
        have hct:Ev (fun k=>impl_CountTraces.f k (m:Int) (mat m f) (N:Int)) (((nP m f N:Nat):Int),0):=by
          simp only [impl_CountTraces.f]
          exact Ev.bind h2 (Ev.now _)
        have hst:Ev (fun k=>impl_StepsOf.f k (m:Int) (mat m f)) (ints (stepsP m f),0):=by
          simp only [impl_StepsOf.f]
          exact Ev.bind hk (Ev.pos rfl (Ev.bind (stepsOf_ev m hm f hs hr) (Ev.now _)))
        have hsum:Ev (fun k=>laws_sum.f k (rowC (cntT m f N) N)) ((nP m f N:Nat):Int):=by
          refine Ev.val (sum_ev (cntT m f N) N hN) ?_
          rw [cntT_total,w64 (by omega) (by omega)]
        have hlen:((rowC (cntT m f N) N).length:Int) = wrap64 ((N:Int) + 1):=by
          rw [rowC_length,w64s N (by omega)]
        refine Ev.bind e2 (Ev.bind e1 (Ev.pos rfl (Ev.bind (likeInts_ev _ (by rw [rowC_length];omega)) (Ev.pos rfl (Ev.pos rfl (Ev.pos (by rw [rowC_length];omega) (Ev.bind hct (Ev.bind hst (Ev.pos ⟨rfl,rfl⟩ (Ev.bind hsum (Ev.pos ⟨rfl,hlen⟩ (Ev.bind (parts_ev m hm f hs hr N hN hq _ hk h2) (Ev.pos rfl ?_)))))))))))))
        by_cases hb2:nP m f N ≤ 1000
        · have hlw:(listP m f N 0 []).length = nP m f N:=allT_length m f N
          have e3:=forms_ev m hm f N 0 [] [] (Nat.two_pow_pos m) (by simp;omega) (by rw [hlw];simp;omega)
          simp only [List.nil_append] at e3
          have htl:Ev (fun k=>impl_TracesOfLength.f k (m:Int) (mat m f) (N:Int)) ((allT m f N).map ints,0):=by
            simp only [impl_TracesOfLength.f]
            exact Ev.bind h2 (Ev.pos rfl (Ev.neg (by simp only [];omega) (Ev.bind e3 (Ev.now _))))
          have hT:(allT m f N).length ≤ 1000:=by rw [allT_length];exact hb2
          obtain ⟨R,w1,w2⟩:=walk_ev m hm f hA hs N hN hT
          refine Ev.bind htl (Ev.pos rfl (Ev.bind w1 ?_))
          by_cases hc:(allT m f N).length ≤ 300
          · rw [w2 hc]
            have hz:Ev (fun k=>laws_sum.f k (rowC (fun _=>0) N)) 0:=by
              refine Ev.val (sum_ev (fun _=>0) N hN) ?_
              have e:sS (fun _=>((0:Nat):Int)) (N + 1) = 0:=sS_none _ (fun _ _=>rfl)
              rw [e,w64 (by omega) (by omega)]
            exact Ev.neg (by simp only [List.length_map];omega) (Ev.bind hz (Ev.pos rfl (Ev.now _)))
          · exact Ev.pos (by simp only [List.length_map];omega) (Ev.now _)
        · have htl : Ev (fun k => impl_TracesOfLength.f k (m : Int) (mat m f) (N : Int)) ([], 3) := by
            simp only [impl_TracesOfLength.f]
            exact Ev.bind h2 (Ev.pos rfl (Ev.pos (by simp only [];omega) (Ev.now _)))
          exact Ev.bind htl (Ev.neg (by decide) (Ev.pos rfl (Ev.now _)))
      · exact absurd z (by decide)
  · obtain ⟨e1,e2⟩:=early2 z
    exact Ev.bind e1 (Ev.bind e2 (Ev.pos rfl (Ev.bind (likeInts_ev [] (by simp)) (Ev.pos rfl (Ev.neg z (Ev.now _))))))
theorem pure:PureStmt:=fun c _ hc=>(law_ev c (fun x hx=>u8_bounds (hc x hx))).elim fun K h=>⟨K,h K (Nat.le_refl K)⟩
end Go.Proofs.YtemdfjdmokbcoaaGreatDoor.LFnHeightCounts
