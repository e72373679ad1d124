import Derived.Test.YtemdfjdmokbcoaaGreatDoorPAllx0
import Derived.Test.YtemdfjdmokbcoaaGreatDoorPAllx1
import Derived.Test.YtemdfjdmokbcoaaGreatDoorPAllx2
import Derived.Test.YtemdfjdmokbcoaaGreatDoorPAllx7
import Derived.Test.YtemdfjdmokbcoaaGreatDoorPAllx9
import Derived.Test.YtemdfjdmokbcoaaGreatDoorPAllx10
namespace Go.Proofs.YtemdfjdmokbcoaaGreatDoor.PAll
open Go.RowKit Go.Proofs.YtemdfjdmokbcoaaGreatDoor.T Go.Proofs.YtemdfjdmokbcoaaGreatDoorW.PrintWords Go.Proofs.YtemdfjdmokbcoaaGreatDoorW.PrintLast Go.Proofs.YtemdfjdmokbcoaaGreatDoorW.PrintMore
attribute [local go_sem] max2_int min2_int max_two min_two max_three min_three max_four min_four   -- for this text's walks alone
set_option linter.unusedVariables false
set_option linter.unusedSimpArgs false
mutual
def impl_ties_foata.l0:Nat → List Int → List Int → List Int → Int → Int → Option (List Int)
 | 0,_,_,_,_,_=>none
 | k + 1,x0,x5,x10,x11,x12=>if x12 < x11 then (if 0 ≤ x12 then (if x12 < (x10.length:Int) then (impl_ties_foata.l1 k x0 x5 (rd x10 x12) (x5.length:Int) x10 x11 x12) else (none)) else (none)) else (some x5)
def impl_ties_foata.l1:Nat → List Int → List Int → Int → Int → List Int → Int → Int → Option (List Int)
 | 0,_,_,_,_,_,_,_=>none
 | k + 1,x0,x5,x7,x8,x10,x11,x12=>if x8 > 0 then (if 0 ≤ (wrap64 (x8 - 1)) then (if (wrap64 (x8 - 1)) < (x5.length:Int) then (if 0 ≤ x7 then (if x7 < (x0.length:Int) then (if (Go.bits .and .i64 (rd x5 (wrap64 (x8 - 1))) (rd x0 x7)) = 0 then (impl_ties_foata.l1 k x0 x5 x7 (wrap64 (x8 - 1)) x10 x11 x12) else (if x8 = (x5.length:Int) then (if x5.length < 17592186044416 then ((some (x5 ++ [0]:List Int)).bind fun y630=>(if 0 ≤ x8 then (if x8 < (y630.length:Int) then ((impl_one.f x7).bind fun t634=>(impl_ties_foata.l0 k x0 (y630.set (x8:Int).toNat (Go.bits .or .i64 (rd y630 x8) t634)) x10 x11 (wrap64 (x12 + 1)))) else (none)) else (none))) else (none)) else (if 0 ≤ x8 then (if x8 < (x5.length:Int) then ((impl_one.f x7).bind fun t637=>(impl_ties_foata.l0 k x0 (x5.set (x8:Int).toNat (Go.bits .or .i64 (rd x5 x8) t637)) x10 x11 (wrap64 (x12 + 1)))) else (none)) else (none)))) else (none)) else (none)) else (none)) else (none)) else (if x8 = (x5.length:Int) then (if x5.length < 17592186044416 then ((some (x5 ++ [0]:List Int)).bind fun y639=>(if 0 ≤ x8 then (if x8 < (y639.length:Int) then ((impl_one.f x7).bind fun t643=>(impl_ties_foata.l0 k x0 (y639.set (x8:Int).toNat (Go.bits .or .i64 (rd y639 x8) t643)) x10 x11 (wrap64 (x12 + 1)))) else (none)) else (none))) else (none)) else (if 0 ≤ x8 then (if x8 < (x5.length:Int) then ((impl_one.f x7).bind fun t646=>(impl_ties_foata.l0 k x0 (x5.set (x8:Int).toNat (Go.bits .or .i64 (rd x5 x8) t646)) x10 x11 (wrap64 (x12 + 1)))) else (none)) else (none)))
end
def impl_ties_foata.f (k:Nat) (l0:List Int) (l1:List Int):Option (List Int):=impl_ties_foata.l0 k l0 (([]:List Int)) l1 (l1.length:Int) 0
def impl_ties_foata.T6:Bool × List (List Nat × List Nat):=(true,[([],[]),([0],[0]),([1],[1]),([2],[2]),([2],[2]),([4,2],[2,4]),([3,5,2],[2,3,5]),([6,2],[2,6]),([2],[2]),([2],[2]),([8,9,2],[2,8,9]),([10,2],[2,10]),([7,11,2],[2,7,11]),([12,2],[2,12]),([2,13],[2,13])])
def impl_ties_foata.B6:List Nat:=[0,1,3,7,7,23,63,127,7,7,775,1799,4095,8191,16383]
theorem impl_ties_foata.tab6:rtab .any (opsOf Tryz.f32 6) = impl_ties_foata.T6:=by kernel_rfl
theorem impl_ties_foata.bits6:waitsOk impl_ties_foata.T6.2 impl_ties_foata.B6 = true:=by kernel_rfl
def impl_ties_foata.T10:Bool × List (List Nat × List Nat):=(true,[([],[]),([],[]),([0,1],[0,1]),([2],[2]),([],[]),([4],[4]),([3,5],[3,5]),([0,1,0,1,2,3,4,5,6],[0,1]),([7,6,5,0,1,2,3,4,5,6],[6,7])])
def impl_ties_foata.B10:List Nat:=[0,0,3,7,0,16,63,127,255]
theorem impl_ties_foata.tab10:rtab .any (opsOf Tryz.f32 10) = impl_ties_foata.T10:=by kernel_rfl
theorem impl_ties_foata.bits10:waitsOk impl_ties_foata.T10.2 impl_ties_foata.B10 = true:=by kernel_rfl
set_option maxHeartbeats 8000000 in
set_option maxRecDepth 100000 in
theorem impl_ties_foata.calls (k : Nat) (A0 : Option Addr) (c0 : Nat) (l0 : List Int) (A1 : Option Addr) (c1 : Nat) (l1 : List Int) (r : List Int) (w : World) (hr0 : Kd.C (Kd.int .i64) w A0 l0.length l0) (hc0 : l0.length ≤ c0) (hr1 : Kd.C (Kd.int .i64) w A1 l1.length l1) (hc1 : l1.length ≤ c1) (h : impl_ties_foata.f k l0 l1 = some r) :
  Calls Tryz.prog 32 #[.slice A0 l0.length c0,.slice A1 l1.length c1] w fun e w' => ∃ v0_:Value,e = .returned (v0_) ∧ Kd.R (Kd.int .i64) 2 w' w.heap.size (fun _=>True) v0_ r ∧ Below w.heap.size w w' := by
 have HR0:=zA hr0
 have HC0:=zA hc0
 clear hr0 hc0
 have HR1:=zA hr1
 have HC1:=zA hc1
 clear hr1 hc1
 have HB:=zA (kW w.heap.size w)
 have H:=h
 unfold impl_ties_foata.f at H
 clear h
 obtain ⟨y624,hy624⟩:∃ y_:List Int,y_ = (([]:List Int)):=⟨_,rfl⟩
 replace H:(impl_ties_foata.l0 k l0 y624 l1 (l1.length:Int) 0) = some r:=zy hy624 H
 have Ny624:=zA hy624
 clear hy624
 have H' := zA H
 clear H
 go_enter Tryz.func32,Tryz.ntmps32
 go_wp2_with (first | ((with_reducible refine kS (N:=9) rfl ?_);refine Kd.R_lit (Kd.int .i64) _ 2 ?hg (N:=9) ?hd (xs:=([]:List Int)) (inner:=[]) (ok:=fun _=>True) (okp:=fun _=>True) ?hr ?hp (fun _ hk=>hk) trivial (kW _ _) (Nat.le_refl _) (by simp) ?_;(case hd=>rfl);(case hg=>rfl);(case hr=>first | (go_simp;done) | (go_simp;rfl));(case hp=>exact (Reps.none _ _));intro v625 w3 ho4 hb hg_ hnew_;clear hg_ hnew_;(first | rw [← Ny624.out] at ho4 | (simp only [Int.reduceToNat] at ho4;rw [← Ny624.out] at ho4));have HO626:=zA (kI ho4 (kP (zQ HB.out)));replace HB:=zA (kQ (zQ HB.out) hb);clear hb ho4))
 go_loopg [5,12] k (fun kq v5 v12 w' => ∃ (x5_1:List Int) (x12_1:Int),v12 = .int .i64 x12_1 ∧ Aside0 (impl_ties_foata.l0 kq l0 x5_1 l1 (l1.length:Int) x12_1 = some r) ∧ Aside0 (kq ≤ k) ∧ Aside0 (Kd.R (Kd.int .i64) 2 w' w.heap.size (fun _=>True) v5 x5_1) ∧ Aside0 (Below w.heap.size w w'))
 case atStart=>exact ⟨(y624),(0),zs,H', ⟨Nat.le_refl _⟩,⟨zP HO626.out⟩,⟨zQ HB.out⟩⟩
 case round =>
  clear H'
  try clear c1
  try clear c3
  obtain ⟨x5_1,x12_1,rfl,HA,HK1,HO_5,HB⟩:=hrel
  cases gk with
  | zero=>exact absurd HA.out (by simp [impl_ties_foata.l0])
  | succ k1 =>
   have H:=HA.out
   clear HA
   simp only [impl_ties_foata.l0] at H
   by_cases c5:x12_1 < (l1.length:Int)
   ·rw [if_pos c5] at H
    have c5b0:decide (x12_1 < (l1.length:Int)) = true:=decide_eq_true c5
    clear c5
    by_cases c6:0 ≤ x12_1
    ·rw [if_pos c6] at H
     have c6b0:decide (0 ≤ x12_1) = true:=decide_eq_true c6
     clear c6
     by_cases c7:x12_1 < (l1.length:Int)
     ·rw [if_pos c7] at H
      have c7b0:decide (x12_1 < (l1.length:Int)) = true:=decide_eq_true c7
      clear c7
      have H' := zA H
      clear H
      have p627:0 ≤ (x12_1:Int):=zd
      have q627:x12_1 < (l1.length:Int):=zd
      obtain ⟨ad627,e627,hx627_0⟩:=Kd.at_int HR1.out x12_1 p627 q627
      cases e627
      replace hx627_0:=(HB.out.cell (jG w _ hx627_0)).trans hx627_0
      replace p627:=eq_true p627
      replace q627:=eq_true q627
      obtain ⟨Ao8,co8,eo8⟩:=kM HO_5.out
      subst eo8
      go_wp2
      go_loopg [8] k1 (fun kq v8 w' => ∃ (x8_2:Int),v8 = .int .i64 x8_2 ∧ Aside0 (impl_ties_foata.l1 kq l0 x5_1 (rd l1 x12_1) x8_2 l1 (l1.length:Int) x12_1 = some r) ∧ Aside0 (kq ≤ k1) ∧ Aside0 (Kd.R (Kd.int .i64) 2 w' w.heap.size (fun _=>True) (.slice Ao8 x5_1.length co8) x5_1) ∧ Aside0 (Below w.heap.size w w'))
      case atStart=>exact ⟨((x5_1.length:Int)),zs,H', ⟨Nat.le_refl _⟩,⟨zP HO_5.out⟩,⟨zQ HB.out⟩⟩
      case round =>
       clear H'
       try clear c1
       try clear c3
       try clear c5
       try clear c6
       try clear hx6
       try clear c7
       try clear hx627_0
       obtain ⟨x8_2,rfl,HA,HK2,HO_5,HB⟩:=hrel
       cases gk with
       | zero=>exact absurd HA.out (by simp [impl_ties_foata.l1])
       | succ k2 =>
        have H:=HA.out
        clear HA
        simp only [impl_ties_foata.l1] at H
        by_cases c9:x8_2 > 0
        ·rw [if_pos c9] at H
         have c9b0:decide (0 < x8_2) = true:=decide_eq_true c9
         clear c9
         obtain ⟨ji10,hji10⟩:∃ j_:Int,(wrap64 (x8_2 - 1)) = j_:=⟨_,rfl⟩
         replace H:(if 0 ≤ (ji10) then (if (ji10) < (x5_1.length:Int) then (if 0 ≤ (rd l1 x12_1) then (if (rd l1 x12_1) < (l0.length:Int) then (if (Go.bits .and .i64 (rd x5_1 (ji10)) (rd l0 (rd l1 x12_1))) = 0 then (impl_ties_foata.l1 k2 l0 x5_1 (rd l1 x12_1) ji10 l1 (l1.length:Int) x12_1) else (if x8_2 = (x5_1.length:Int) then (if x5_1.length < 17592186044416 then ((some (x5_1 ++ [0]:List Int)).bind fun y630=>(if 0 ≤ x8_2 then (if x8_2 < (y630.length:Int) then ((impl_one.f (rd l1 x12_1)).bind fun t634=>(impl_ties_foata.l0 k2 l0 (y630.set (x8_2:Int).toNat (Go.bits .or .i64 (rd y630 x8_2) t634)) l1 (l1.length:Int) (wrap64 (x12_1 + 1)))) else (none)) else (none))) else (none)) else (if 0 ≤ x8_2 then (if x8_2 < (x5_1.length:Int) then ((impl_one.f (rd l1 x12_1)).bind fun t637=>(impl_ties_foata.l0 k2 l0 (x5_1.set (x8_2:Int).toNat (Go.bits .or .i64 (rd x5_1 x8_2) t637)) l1 (l1.length:Int) (wrap64 (x12_1 + 1)))) else (none)) else (none)))) else (none)) else (none)) else (none)) else (none)) = some r:=by first | (rw [hji10] at H;exact H) | (simp only [hji10] at H ⊢;exact H)
         have hji10w:(IntKind.i64.wrap (x8_2 - 1)) = ji10:=(i64_w _).trans hji10
         by_cases c11:0 ≤ (ji10)
         ·rw [if_pos c11] at H
          have c11b0:decide (0 ≤ (ji10)) = true:=decide_eq_true c11
          clear c11
          by_cases c12:(ji10) < (x5_1.length:Int)
          ·rw [if_pos c12] at H
           have c12b0:decide ((ji10) < (x5_1.length:Int)) = true:=decide_eq_true c12
           clear c12
           by_cases c13:0 ≤ (rd l1 x12_1)
           ·rw [if_pos c13] at H
            have c13b0:decide (0 ≤ (rd l1 x12_1)) = true:=decide_eq_true c13
            clear c13
            by_cases c14:(rd l1 x12_1) < (l0.length:Int)
            ·rw [if_pos c14] at H
             have c14b0:decide ((rd l1 x12_1) < (l0.length:Int)) = true:=decide_eq_true c14
             clear c14
             by_cases c15:(Go.bits .and .i64 (rd x5_1 (ji10)) (rd l0 (rd l1 x12_1))) = 0
             ·rw [if_pos c15] at H
              obtain ⟨c15b0,c15b1⟩:=zT1 c15
              clear c15
              have H' := zA H
              clear H
              try go_wp2
              replace HO_5:=zA (zH HO_5.out)
              replace HB:=zA (zD HB.out)
              have p628:0 ≤ ((ji10):Int):=zd
              have q628:(ji10) < (x5_1.length:Int):=zd
              obtain ⟨ad628,e628,hx628_0⟩:=Kd.at_int (kB HO_5.out).2.2 (ji10) p628 q628
              cases e628
              replace p628:=eq_true p628
              replace q628:=eq_true q628
              have p629:0 ≤ ((rd l1 x12_1):Int):=zd
              have q629:(rd l1 x12_1) < (l0.length:Int):=zd
              obtain ⟨ad629,e629,hx629_0⟩:=Kd.at_int HR0.out (rd l1 x12_1) p629 q629
              have hw629_0:=hx629_0
              cases e629
              replace hx629_0:=(HB.out.cell (jG w _ hx629_0)).trans hx629_0
              replace p629:=eq_true p629
              replace q629:=eq_true q629
              refine start_ (n:=15) (S:=fun w' => w'.cell? (ad628.add ((ji10)).toNat) = some (.int .i64 (rd x5_1 (ji10))) ∧ w'.cell? (ad629.add ((rd l1 x12_1)).toNat) = some (.int .i64 (rd l0 (rd l1 x12_1)))) (ds:=[]) #[false,false,false,false,false,false,false,false,false,false,false,false,false,false,false] (by kernel_rfl) rfl rfl ⟨hx628_0,(pw_cell_below HB.out hw629_0)⟩ (fun hHeld=>?_);refine with_tabW impl_ties_foata.tab6 impl_ties_foata.bits6 (fun HT_ HW_=>?_)
              generalize wr.drew = w16 at HO_5 HB hx628_0 hx629_0 hHeld ⊢
              refine zp 0 (some 18) #[true,false,false,false,false,false,false,false,false,false,false,false,false,false,false] HT_.out ?_
              refine zp 1 (some 19) #[true,true,false,false,false,false,false,false,false,false,false,false,false,false,false] HT_.out ?_
              refine zp 2 (some 20) #[true,true,true,false,false,false,false,false,false,false,false,false,false,false,false] HT_.out ?_
              refine zp 3 (some 21) #[true,true,true,true,false,false,false,false,false,false,false,false,false,false,false] HT_.out ?_
              refine zp 4 (some 22) #[true,true,true,true,true,false,false,false,false,false,false,false,false,false,false] HT_.out ?_
              refine zp 5 (some 23) #[true,true,true,true,true,true,false,false,false,false,false,false,false,false,false] HT_.out ?_
              refine zp 6 (some 24) #[true,true,true,true,true,true,true,false,false,false,false,false,false,false,false] HT_.out ?_
              refine zp 8 (some 26) #[true,true,true,true,true,true,true,false,true,false,false,false,false,false,false] HT_.out ?_
              refine zp 9 (some 27) #[true,true,true,true,true,true,true,false,true,true,false,false,false,false,false] HT_.out ?_
              refine zp 10 (some 28) #[true,true,true,true,true,true,true,false,true,true,true,false,false,false,false] HT_.out ?_
              refine zc 7 (some 25) #[true,true,true,true,true,true,true,true,true,true,true,false,false,false,false] HT_.out HW_.out hHeld ?_
              refine zc 11 (some 29) #[true,true,true,true,true,true,true,true,true,true,true,true,false,false,false] HT_.out HW_.out hHeld ?_
              refine zp 12 (some 30) #[true,true,true,true,true,true,true,true,true,true,true,true,true,false,false] HT_.out ?_
              refine zp 13 (some 31) #[true,true,true,true,true,true,true,true,true,true,true,true,true,true,false] HT_.out ?_
              refine zp 14 (some 32) #[true,true,true,true,true,true,true,true,true,true,true,true,true,true,true] HT_.out ?_
              refine done_ (done_of HT_.out (by kernel_rfl)) ?_
              try go_wp2
              go_roundg k2
              case measure=>have:=HK1.out;have:=HK2.out;omega
              case rel=>exact ⟨(ji10),(by first | rfl | (simp;done) | (simp only [← hji10] <;> (first | rfl | simp)) | (simp [*];done)),H', ⟨by have:=HK1.out;have:=HK2.out;omega⟩,⟨zP HO_5.out⟩,⟨zQ HB.out⟩⟩
             rw [if_neg c15] at H
             obtain ⟨c15b0,c15b1⟩:=zT2 c15
             by_cases c17:x8_2 = (x5_1.length:Int)
             ·rw [if_pos c17] at H
              obtain ⟨c17b0,c17b1⟩:=zT1 c17
              clear c17
              by_cases c18:x5_1.length < 17592186044416
              ·rw [if_pos c18] at H
               have LMc18:=zA c18
               clear c18
               obtain ⟨y630,hy630⟩:∃ y_:List Int,y_ = (x5_1 ++ [0]):=⟨_,rfl⟩
               replace H:(if 0 ≤ x8_2 then (if x8_2 < (y630.length:Int) then ((impl_one.f (rd l1 x12_1)).bind fun t634=>(impl_ties_foata.l0 k2 l0 (y630.set (x8_2:Int).toNat (Go.bits .or .i64 (rd y630 x8_2) t634)) l1 (l1.length:Int) (wrap64 (x12_1 + 1)))) else (none)) else (none)) = some r:=zy hy630 H
               have Ny630:=zA hy630
               clear hy630
               by_cases c19:0 ≤ x8_2
               ·rw [if_pos c19] at H
                have c19b0:decide (0 ≤ x8_2) = true:=decide_eq_true c19
                clear c19
                by_cases c20:x8_2 < (y630.length:Int)
                ·rw [if_pos c20] at H
                 have c20b0:decide (x8_2 < (y630.length:Int)) = true:=decide_eq_true c20
                 clear c20
                 obtain ⟨t634,A21,H⟩:=zb H
                 try dsimp only at H
                 obtain ⟨y635,hy635⟩:∃ y_:List Int,y_ = (y630.set (x8_2:Int).toNat (Go.bits .or .i64 (rd y630 x8_2) t634)):=⟨_,rfl⟩
                 replace H:(impl_ties_foata.l0 k2 l0 y635 l1 (l1.length:Int) (wrap64 (x12_1 + 1))) = some r:=zy hy635 H
                 have Ny635:=zA hy635
                 clear hy635
                 have H' := zA H
                 clear H
                 try go_wp2
                 replace HO_5:=zA (zH HO_5.out)
                 replace HB:=zA (zD HB.out)
                 have p628:0 ≤ ((ji10):Int):=zd
                 have q628:(ji10) < (x5_1.length:Int):=zd
                 obtain ⟨ad628,e628,hx628_0⟩:=Kd.at_int (kB HO_5.out).2.2 (ji10) p628 q628
                 cases e628
                 replace p628:=eq_true p628
                 replace q628:=eq_true q628
                 have p629:0 ≤ ((rd l1 x12_1):Int):=zd
                 have q629:(rd l1 x12_1) < (l0.length:Int):=zd
                 obtain ⟨ad629,e629,hx629_0⟩:=Kd.at_int HR0.out (rd l1 x12_1) p629 q629
                 have hw629_0:=hx629_0
                 cases e629
                 replace hx629_0:=(HB.out.cell (jG w _ hx629_0)).trans hx629_0
                 replace p629:=eq_true p629
                 replace q629:=eq_true q629
                 refine start_ (n:=15) (S:=fun w' => w'.cell? (ad628.add ((ji10)).toNat) = some (.int .i64 (rd x5_1 (ji10))) ∧ w'.cell? (ad629.add ((rd l1 x12_1)).toNat) = some (.int .i64 (rd l0 (rd l1 x12_1)))) (ds:=[]) #[false,false,false,false,false,false,false,false,false,false,false,false,false,false,false] (by kernel_rfl) rfl rfl ⟨hx628_0,(pw_cell_below HB.out hw629_0)⟩ (fun hHeld=>?_);refine with_tabW impl_ties_foata.tab6 impl_ties_foata.bits6 (fun HT_ HW_=>?_)
                 generalize wr.drew = w23 at HO_5 HB hx628_0 hx629_0 hHeld ⊢
                 refine zp 0 (some 18) #[true,false,false,false,false,false,false,false,false,false,false,false,false,false,false] HT_.out ?_
                 refine zp 1 (some 19) #[true,true,false,false,false,false,false,false,false,false,false,false,false,false,false] HT_.out ?_
                 refine zp 2 (some 20) #[true,true,true,false,false,false,false,false,false,false,false,false,false,false,false] HT_.out ?_
                 refine zp 3 (some 21) #[true,true,true,true,false,false,false,false,false,false,false,false,false,false,false] HT_.out ?_
                 refine zp 4 (some 22) #[true,true,true,true,true,false,false,false,false,false,false,false,false,false,false] HT_.out ?_
                 refine zp 5 (some 23) #[true,true,true,true,true,true,false,false,false,false,false,false,false,false,false] HT_.out ?_
                 refine zp 6 (some 24) #[true,true,true,true,true,true,true,false,false,false,false,false,false,false,false] HT_.out ?_
                 refine zp 8 (some 26) #[true,true,true,true,true,true,true,false,true,false,false,false,false,false,false] HT_.out ?_
                 refine zp 9 (some 27) #[true,true,true,true,true,true,true,false,true,true,false,false,false,false,false] HT_.out ?_
                 refine zp 10 (some 28) #[true,true,true,true,true,true,true,false,true,true,true,false,false,false,false] HT_.out ?_
                 refine zc 7 (some 25) #[true,true,true,true,true,true,true,true,true,true,true,false,false,false,false] HT_.out HW_.out hHeld ?_
                 refine zc 11 (some 29) #[true,true,true,true,true,true,true,true,true,true,true,true,false,false,false] HT_.out HW_.out hHeld ?_
                 refine zp 12 (some 30) #[true,true,true,true,true,true,true,true,true,true,true,true,true,false,false] HT_.out ?_
                 refine zp 13 (some 31) #[true,true,true,true,true,true,true,true,true,true,true,true,true,true,false] HT_.out ?_
                 refine zp 14 (some 32) #[true,true,true,true,true,true,true,true,true,true,true,true,true,true,true] HT_.out ?_
                 refine done_ (done_of HT_.out (by kernel_rfl)) ?_
                 try go_wp2_with (first | ((with_reducible refine gate_builtin (b:=.append) (xs:=#[.tmp 39,.tmp 40]) rfl ?_);at_builtin;refine Kd.R_append (Kd.int .i64) (w0:=w) w.heap.size rfl (.tmp 39) (.tmp 40) 24 2 (.int .i64 0) 8 rfl Tryz.underlying24 info2 rfl (by decide) (by omega) (.slice (some ad628) x5_1.length co8) x5_1 0 [.int .i64 0] (fun _=>True) (fun _=>False) rfl rfl ?aP (fun _ hk=>hk.elim) ?aF ?aO ?aB ?aS ?aL ?_;(case aP=>exact rfl);(case aB=>exact (zQ HB.out));(case aF=>exact (fun _ _=>trivial));(case aO=>exact (zP HO_5.out));(case aS=>exact (kP (zQ HB.out)));(case aL=>have:=LMc18.out;omega);intro v631 w24 ho hb hg hat;rw [← Ny630.out] at ho;replace HB:=zA (hb);have HO632:=zA (ho);clear HO_5;clear ho hb hg hat))
                 replace HO632:=zA (zH HO632.out)
                 replace HB:=zA (zD HB.out)
                 obtain ⟨Ao26,co26,eo26⟩:=kM HO632.out
                 (first | subst eo26 | (injection eo26 with f1_ f2_ f3_;have f4_:=f1_.symm;have f5_:=f3_.symm;clear f1_ f2_ f3_;subst f4_;subst f5_))
                 have p633:0 ≤ (x8_2:Int):=zd
                 have q633:x8_2 < (y630.length:Int):=zd
                 obtain ⟨ad633,e633,hx633_0⟩:=Kd.at_int (kB HO632.out).2.2 x8_2 p633 q633
                 cases e633
                 replace p633:=eq_true p633
                 replace q633:=eq_true q633
                 refine start_ (n:=9) (S:=fun w' => w'.cell? (ad633.add (x8_2).toNat) = some (.int .i64 (rd y630 x8_2))) (ds:=[8]) #[false,false,false,false,false,false,false,false,false] (by kernel_rfl) rfl rfl (hx633_0) (fun hHeld=>?_);refine with_tabW impl_ties_foata.tab10 impl_ties_foata.bits10 (fun HT_ HW_=>?_)
                 generalize w24.drew = w25 at HO632 HB hx633_0 hHeld ⊢
                 refine zp 0 (some 42) #[true,false,false,false,false,false,false,false,false] HT_.out ?_
                 refine zp 1 (some 43) #[true,true,false,false,false,false,false,false,false] HT_.out ?_
                 refine zp 2 (some 44) #[true,true,true,false,false,false,false,false,false] HT_.out ?_
                 refine zp 4 (some 46) #[true,true,true,false,true,false,false,false,false] HT_.out ?_
                 refine za 3 (some 45) #[true,true,true,true,true,false,false,false,false] HT_.out HW_.out hHeld ?_
                 refine one_ (i:=5) (N:=some 47) #[true,true,true,true,true,true,false,false,false] rfl rfl (one_of HT_.out (by kernel_rfl)) (by decide) (fun K hK=>?_)
                 refine goes_ Tryz.func55 (by kernel_rfl) rfl #[.int .i64 (rd l1 x12_1)] (by rfl) rfl rfl zg ?_
                 with_reducible refine (impl_one.calls (rd l1 x12_1) t634 _ A21.out).mono ?_
                 rintro e w' ⟨rfl,⟨nd,rfl⟩⟩
                 refine ⟨_,rfl,?_⟩
                 have p22:0 ≤ (x8_2:Int):=zd
                 have q22:(x8_2:Int) < ((y630.length:Int):Int):=zd
                 obtain ⟨go22,co22,eo22,gb22,gl22,cl22,HG22⟩:=Kd.R_form HO632.out (by omega)
                 (first | cases eo22 | (injection eo22 with ea_ en_ ec_;(first | subst ea_ | (injection ea_ with ea_;subst ea_));subst ec_;clear en_))
                 have GB22:=zA gb22
                 have GG22:=zA HG22
                 clear gb22 gl22 HG22
                 (first | simp only [add_plain] at hx633_0 | skip)
                 obtain ⟨hx22_0,hf22_0⟩:=Kd.R_celln 0 HO632.out (x8_2:Int) p22 q22
                 replace p22:=eq_true p22
                 replace q22:=eq_true q22
                 have HP27:=Kd.R_putn HO632.out (x8_2:Int) (Go.bits .or .i64 (rd y630 x8_2) t634)
                 rw [← Ny635.out] at HP27
                 have HQ27:=zA HP27
                 clear HP27
                 refine hK.out _ _ (hHeld) (fun hHeld=>?_)
                 clear hK K
                 refine norm_ (a' := ?_) ?_ ?_
                 rotate_left
                 ·show Act.put _ (some 47) _ = _
                  simp only [Act.put,zL,zM,zN,i64_w,i32_w]
                  rfl
                 refine zp 6 (some 48) #[true,true,true,true,true,true,true,false,false] HT_.out ?_
                 refine zp 7 (some 49) #[true,true,true,true,true,true,true,true,false] HT_.out ?_
                 refine last_ (i:=8) (N:=none) #[true,true,true,true,true,true,true,true,true] rfl rfl (one_of HT_.out (by kernel_rfl)) (by decide) (fun K hK=>?_)
                 refine skip_ (w1:=?_) (by rfl) rfl ?_ ?_
                 rotate_left
                 ·go_simp
                  rfl
                 refine hK.out _ _ ?_
                 clear hK K
                 refine done_ (done_of HT_.out (by kernel_rfl)) ?_
                 try go_wp2
                 go_roundg k2
                 case measure=>have:=HK1.out;have:=HK2.out;omega
                 case rel=>exact ⟨(y635),(wrap64 (x12_1 + 1)),zs,H', ⟨by have:=HK1.out;have:=HK2.out;omega⟩,⟨zP HQ27.out⟩,⟨zT HB.out GB22.out⟩⟩
                rw [if_neg c20] at H
                exact absurd H (by simp)
               rw [if_neg c19] at H
               exact absurd H (by simp)
              rw [if_neg c18] at H
              exact absurd H (by simp)
             rw [if_neg c17] at H
             obtain ⟨c17b0,c17b1⟩:=zT2 c17
             by_cases c28:0 ≤ x8_2
             ·rw [if_pos c28] at H
              have c28b0:decide (0 ≤ x8_2) = true:=decide_eq_true c28
              clear c28
              by_cases c29:x8_2 < (x5_1.length:Int)
              ·rw [if_pos c29] at H
               have c29b0:decide (x8_2 < (x5_1.length:Int)) = true:=decide_eq_true c29
               clear c29
               obtain ⟨t637,A30,H⟩:=zb H
               try dsimp only at H
               obtain ⟨y638,hy638⟩:∃ y_:List Int,y_ = (x5_1.set (x8_2:Int).toNat (Go.bits .or .i64 (rd x5_1 x8_2) t637)):=⟨_,rfl⟩
               replace H:(impl_ties_foata.l0 k2 l0 y638 l1 (l1.length:Int) (wrap64 (x12_1 + 1))) = some r:=zy hy638 H
               have Ny638:=zA hy638
               clear hy638
               have H' := zA H
               clear H
               try go_wp2
               replace HO_5:=zA (zH HO_5.out)
               replace HB:=zA (zD HB.out)
               have p628:0 ≤ ((ji10):Int):=zd
               have q628:(ji10) < (x5_1.length:Int):=zd
               obtain ⟨ad628,e628,hx628_0⟩:=Kd.at_int (kB HO_5.out).2.2 (ji10) p628 q628
               cases e628
               replace p628:=eq_true p628
               replace q628:=eq_true q628
               have p629:0 ≤ ((rd l1 x12_1):Int):=zd
               have q629:(rd l1 x12_1) < (l0.length:Int):=zd
               obtain ⟨ad629,e629,hx629_0⟩:=Kd.at_int HR0.out (rd l1 x12_1) p629 q629
               have hw629_0:=hx629_0
               cases e629
               replace hx629_0:=(HB.out.cell (jG w _ hx629_0)).trans hx629_0
               replace p629:=eq_true p629
               replace q629:=eq_true q629
               refine start_ (n:=15) (S:=fun w' => w'.cell? (ad628.add ((ji10)).toNat) = some (.int .i64 (rd x5_1 (ji10))) ∧ w'.cell? (ad629.add ((rd l1 x12_1)).toNat) = some (.int .i64 (rd l0 (rd l1 x12_1)))) (ds:=[]) #[false,false,false,false,false,false,false,false,false,false,false,false,false,false,false] (by kernel_rfl) rfl rfl ⟨hx628_0,(pw_cell_below HB.out hw629_0)⟩ (fun hHeld=>?_);refine with_tabW impl_ties_foata.tab6 impl_ties_foata.bits6 (fun HT_ HW_=>?_)
               generalize wr.drew = w32 at HO_5 HB hx628_0 hx629_0 hHeld ⊢
               refine zp 0 (some 18) #[true,false,false,false,false,false,false,false,false,false,false,false,false,false,false] HT_.out ?_
               refine zp 1 (some 19) #[true,true,false,false,false,false,false,false,false,false,false,false,false,false,false] HT_.out ?_
               refine zp 2 (some 20) #[true,true,true,false,false,false,false,false,false,false,false,false,false,false,false] HT_.out ?_
               refine zp 3 (some 21) #[true,true,true,true,false,false,false,false,false,false,false,false,false,false,false] HT_.out ?_
               refine zp 4 (some 22) #[true,true,true,true,true,false,false,false,false,false,false,false,false,false,false] HT_.out ?_
               refine zp 5 (some 23) #[true,true,true,true,true,true,false,false,false,false,false,false,false,false,false] HT_.out ?_
               refine zp 6 (some 24) #[true,true,true,true,true,true,true,false,false,false,false,false,false,false,false] HT_.out ?_
               refine zp 8 (some 26) #[true,true,true,true,true,true,true,false,true,false,false,false,false,false,false] HT_.out ?_
               refine zp 9 (some 27) #[true,true,true,true,true,true,true,false,true,true,false,false,false,false,false] HT_.out ?_
               refine zp 10 (some 28) #[true,true,true,true,true,true,true,false,true,true,true,false,false,false,false] HT_.out ?_
               refine zc 7 (some 25) #[true,true,true,true,true,true,true,true,true,true,true,false,false,false,false] HT_.out HW_.out hHeld ?_
               refine zc 11 (some 29) #[true,true,true,true,true,true,true,true,true,true,true,true,false,false,false] HT_.out HW_.out hHeld ?_
               refine zp 12 (some 30) #[true,true,true,true,true,true,true,true,true,true,true,true,true,false,false] HT_.out ?_
               refine zp 13 (some 31) #[true,true,true,true,true,true,true,true,true,true,true,true,true,true,false] HT_.out ?_
               refine zp 14 (some 32) #[true,true,true,true,true,true,true,true,true,true,true,true,true,true,true] HT_.out ?_
               refine done_ (done_of HT_.out (by kernel_rfl)) ?_
               try go_wp2
               replace HO_5:=zA (zH HO_5.out)
               replace HB:=zA (zD HB.out)
               have p636:0 ≤ (x8_2:Int):=zd
               have q636:x8_2 < (x5_1.length:Int):=zd
               obtain ⟨ad636,e636,hx636_0⟩:=Kd.at_int (kB HO_5.out).2.2 x8_2 p636 q636
               obtain rfl:ad628 = ad636:=(by injection e636)
               replace p636:=eq_true p636
               replace q636:=eq_true q636
               refine start_ (n:=9) (S:=fun w' => w'.cell? (ad628.add (x8_2).toNat) = some (.int .i64 (rd x5_1 x8_2))) (ds:=[8]) #[false,false,false,false,false,false,false,false,false] (by kernel_rfl) rfl rfl (hx636_0) (fun hHeld=>?_);refine with_tabW impl_ties_foata.tab10 impl_ties_foata.bits10 (fun HT_ HW_=>?_)
               generalize w32.drew = w33 at HO_5 HB hx636_0 hHeld ⊢
               refine zp 0 (some 42) #[true,false,false,false,false,false,false,false,false] HT_.out ?_
               refine zp 1 (some 43) #[true,true,false,false,false,false,false,false,false] HT_.out ?_
               refine zp 2 (some 44) #[true,true,true,false,false,false,false,false,false] HT_.out ?_
               refine zp 4 (some 46) #[true,true,true,false,true,false,false,false,false] HT_.out ?_
               refine za 3 (some 45) #[true,true,true,true,true,false,false,false,false] HT_.out HW_.out hHeld ?_
               refine one_ (i:=5) (N:=some 47) #[true,true,true,true,true,true,false,false,false] rfl rfl (one_of HT_.out (by kernel_rfl)) (by decide) (fun K hK=>?_)
               refine goes_ Tryz.func55 (by kernel_rfl) rfl #[.int .i64 (rd l1 x12_1)] (by rfl) rfl rfl zg ?_
               with_reducible refine (impl_one.calls (rd l1 x12_1) t637 _ A30.out).mono ?_
               rintro e w' ⟨rfl,⟨nd,rfl⟩⟩
               refine ⟨_,rfl,?_⟩
               have p31:0 ≤ (x8_2:Int):=zd
               have q31:(x8_2:Int) < ((x5_1.length:Int):Int):=zd
               obtain ⟨go31,co31,eo31,gb31,gl31,cl31,HG31⟩:=Kd.R_form HO_5.out (by omega)
               (first | cases eo31 | (injection eo31 with ea_ en_ ec_;(first | subst ea_ | (injection ea_ with ea_;subst ea_));subst ec_;clear en_))
               have GB31:=zA gb31
               have GG31:=zA HG31
               clear gb31 gl31 HG31
               (first | simp only [add_plain] at hx628_0 | skip)
               (first | simp only [add_plain] at hx636_0 | skip)
               obtain ⟨hx31_0,hf31_0⟩:=Kd.R_celln 0 HO_5.out (x8_2:Int) p31 q31
               replace p31:=eq_true p31
               replace q31:=eq_true q31
               have HP34:=Kd.R_putn HO_5.out (x8_2:Int) (Go.bits .or .i64 (rd x5_1 x8_2) t637)
               rw [← Ny638.out] at HP34
               have HQ34:=zA HP34
               clear HP34
               refine hK.out _ _ (hHeld) (fun hHeld=>?_)
               clear hK K
               refine norm_ (a' := ?_) ?_ ?_
               rotate_left
               ·show Act.put _ (some 47) _ = _
                simp only [Act.put,zL,zM,zN,i64_w,i32_w]
                rfl
               refine zp 6 (some 48) #[true,true,true,true,true,true,true,false,false] HT_.out ?_
               refine zp 7 (some 49) #[true,true,true,true,true,true,true,true,false] HT_.out ?_
               refine last_ (i:=8) (N:=none) #[true,true,true,true,true,true,true,true,true] rfl rfl (one_of HT_.out (by kernel_rfl)) (by decide) (fun K hK=>?_)
               refine skip_ (w1:=?_) (by rfl) rfl ?_ ?_
               rotate_left
               ·go_simp
                rfl
               refine hK.out _ _ ?_
               clear hK K
               refine done_ (done_of HT_.out (by kernel_rfl)) ?_
               try go_wp2
               go_roundg k2
               case measure=>have:=HK1.out;have:=HK2.out;omega
               case rel=>exact ⟨(y638),(wrap64 (x12_1 + 1)),zs,H', ⟨by have:=HK1.out;have:=HK2.out;omega⟩,⟨zP HQ34.out⟩,⟨zT HB.out GB31.out⟩⟩
              rw [if_neg c29] at H
              exact absurd H (by simp)
             rw [if_neg c28] at H
             exact absurd H (by simp)
            rw [if_neg c14] at H
            exact absurd H (by simp)
           rw [if_neg c13] at H
           exact absurd H (by simp)
          rw [if_neg c12] at H
          exact absurd H (by simp)
         rw [if_neg c11] at H
         exact absurd H (by simp)
        rw [if_neg c9] at H
        have c9b0:decide (0 < x8_2) = false:=decide_eq_false c9
        clear c9
        by_cases c35:x8_2 = (x5_1.length:Int)
        ·rw [if_pos c35] at H
         obtain ⟨c35b0,c35b1⟩:=zT1 c35
         clear c35
         by_cases c36:x5_1.length < 17592186044416
         ·rw [if_pos c36] at H
          have LMc36:=zA c36
          clear c36
          obtain ⟨y639,hy639⟩:∃ y_:List Int,y_ = (x5_1 ++ [0]):=⟨_,rfl⟩
          replace H:(if 0 ≤ x8_2 then (if x8_2 < (y639.length:Int) then ((impl_one.f (rd l1 x12_1)).bind fun t643=>(impl_ties_foata.l0 k2 l0 (y639.set (x8_2:Int).toNat (Go.bits .or .i64 (rd y639 x8_2) t643)) l1 (l1.length:Int) (wrap64 (x12_1 + 1)))) else (none)) else (none)) = some r:=zy hy639 H
          have Ny639:=zA hy639
          clear hy639
          by_cases c37:0 ≤ x8_2
          ·rw [if_pos c37] at H
           have c37b0:decide (0 ≤ x8_2) = true:=decide_eq_true c37
           clear c37
           by_cases c38:x8_2 < (y639.length:Int)
           ·rw [if_pos c38] at H
            have c38b0:decide (x8_2 < (y639.length:Int)) = true:=decide_eq_true c38
            clear c38
            obtain ⟨t643,A39,H⟩:=zb H
            try dsimp only at H
            obtain ⟨y644,hy644⟩:∃ y_:List Int,y_ = (y639.set (x8_2:Int).toNat (Go.bits .or .i64 (rd y639 x8_2) t643)):=⟨_,rfl⟩
            replace H:(impl_ties_foata.l0 k2 l0 y644 l1 (l1.length:Int) (wrap64 (x12_1 + 1))) = some r:=zy hy644 H
            have Ny644:=zA hy644
            clear hy644
            have H' := zA H
            clear H
            try go_wp2
            replace HO_5:=zA (zH HO_5.out)
            replace HB:=zA (zD HB.out)
            refine start_ (n:=15) (S:=fun w' => True) (ds:=[]) #[false,false,false,false,false,false,false,false,false,false,false,false,false,false,false] (by kernel_rfl) rfl rfl trivial (fun hHeld=>?_);refine with_tabW impl_ties_foata.tab6 impl_ties_foata.bits6 (fun HT_ HW_=>?_)
            generalize wr.drew = w41 at HO_5 HB hHeld ⊢
            refine zp 0 (some 18) #[true,false,false,false,false,false,false,false,false,false,false,false,false,false,false] HT_.out ?_
            refine zp 1 (some 19) #[true,true,false,false,false,false,false,false,false,false,false,false,false,false,false] HT_.out ?_
            refine zp 2 (some 20) #[true,true,true,false,false,false,false,false,false,false,false,false,false,false,false] HT_.out ?_
            refine zu 3 (some 21) #[true,true,true,true,false,false,false,false,false,false,false,false,false,false,false] HT_.out ?_
            refine zu 4 (some 22) #[true,true,true,true,true,false,false,false,false,false,false,false,false,false,false] HT_.out ?_
            refine zu 5 (some 23) #[true,true,true,true,true,true,false,false,false,false,false,false,false,false,false] HT_.out ?_
            refine zu 6 (some 24) #[true,true,true,true,true,true,true,false,false,false,false,false,false,false,false] HT_.out ?_
            refine zu 7 (some 25) #[true,true,true,true,true,true,true,true,false,false,false,false,false,false,false] HT_.out ?_
            refine zu 8 (some 26) #[true,true,true,true,true,true,true,true,true,false,false,false,false,false,false] HT_.out ?_
            refine zu 9 (some 27) #[true,true,true,true,true,true,true,true,true,true,false,false,false,false,false] HT_.out ?_
            refine zu 10 (some 28) #[true,true,true,true,true,true,true,true,true,true,true,false,false,false,false] HT_.out ?_
            refine zu 11 (some 29) #[true,true,true,true,true,true,true,true,true,true,true,true,false,false,false] HT_.out ?_
            refine zu 12 (some 30) #[true,true,true,true,true,true,true,true,true,true,true,true,true,false,false] HT_.out ?_
            refine zu 13 (some 31) #[true,true,true,true,true,true,true,true,true,true,true,true,true,true,false] HT_.out ?_
            refine zp 14 (some 32) #[true,true,true,true,true,true,true,true,true,true,true,true,true,true,true] HT_.out ?_
            refine done_ (done_of HT_.out (by kernel_rfl)) ?_
            try go_wp2_with (first | ((with_reducible refine gate_builtin (b:=.append) (xs:=#[.tmp 39,.tmp 40]) rfl ?_);at_builtin;refine Kd.R_append (Kd.int .i64) (w0:=w) w.heap.size rfl (.tmp 39) (.tmp 40) 24 2 (.int .i64 0) 8 rfl Tryz.underlying24 info2 rfl (by decide) (by omega) (.slice Ao8 x5_1.length co8) x5_1 0 [.int .i64 0] (fun _=>True) (fun _=>False) rfl rfl ?aP (fun _ hk=>hk.elim) ?aF ?aO ?aB ?aS ?aL ?_;(case aP=>exact rfl);(case aB=>exact (zQ HB.out));(case aF=>exact (fun _ _=>trivial));(case aO=>exact (zP HO_5.out));(case aS=>exact (kP (zQ HB.out)));(case aL=>have:=LMc36.out;omega);intro v640 w42 ho hb hg hat;rw [← Ny639.out] at ho;replace HB:=zA (hb);have HO641:=zA (ho);clear HO_5;clear ho hb hg hat))
            replace HO641:=zA (zH HO641.out)
            replace HB:=zA (zD HB.out)
            obtain ⟨Ao44,co44,eo44⟩:=kM HO641.out
            (first | subst eo44 | (injection eo44 with f1_ f2_ f3_;have f4_:=f1_.symm;have f5_:=f3_.symm;clear f1_ f2_ f3_;subst f4_;subst f5_))
            have p642:0 ≤ (x8_2:Int):=zd
            have q642:x8_2 < (y639.length:Int):=zd
            obtain ⟨ad642,e642,hx642_0⟩:=Kd.at_int (kB HO641.out).2.2 x8_2 p642 q642
            cases e642
            replace p642:=eq_true p642
            replace q642:=eq_true q642
            refine start_ (n:=9) (S:=fun w' => w'.cell? (ad642.add (x8_2).toNat) = some (.int .i64 (rd y639 x8_2))) (ds:=[8]) #[false,false,false,false,false,false,false,false,false] (by kernel_rfl) rfl rfl (hx642_0) (fun hHeld=>?_);refine with_tabW impl_ties_foata.tab10 impl_ties_foata.bits10 (fun HT_ HW_=>?_)
            generalize w42.drew = w43 at HO641 HB hx642_0 hHeld ⊢
            refine zp 0 (some 42) #[true,false,false,false,false,false,false,false,false] HT_.out ?_
            refine zp 1 (some 43) #[true,true,false,false,false,false,false,false,false] HT_.out ?_
            refine zp 2 (some 44) #[true,true,true,false,false,false,false,false,false] HT_.out ?_
            refine zp 4 (some 46) #[true,true,true,false,true,false,false,false,false] HT_.out ?_
            refine za 3 (some 45) #[true,true,true,true,true,false,false,false,false] HT_.out HW_.out hHeld ?_
            refine one_ (i:=5) (N:=some 47) #[true,true,true,true,true,true,false,false,false] rfl rfl (one_of HT_.out (by kernel_rfl)) (by decide) (fun K hK=>?_)
            refine goes_ Tryz.func55 (by kernel_rfl) rfl #[.int .i64 (rd l1 x12_1)] (by rfl) rfl rfl zg ?_
            with_reducible refine (impl_one.calls (rd l1 x12_1) t643 _ A39.out).mono ?_
            rintro e w' ⟨rfl,⟨nd,rfl⟩⟩
            refine ⟨_,rfl,?_⟩
            have p40:0 ≤ (x8_2:Int):=zd
            have q40:(x8_2:Int) < ((y639.length:Int):Int):=zd
            obtain ⟨go40,co40,eo40,gb40,gl40,cl40,HG40⟩:=Kd.R_form HO641.out (by omega)
            (first | cases eo40 | (injection eo40 with ea_ en_ ec_;(first | subst ea_ | (injection ea_ with ea_;subst ea_));subst ec_;clear en_))
            have GB40:=zA gb40
            have GG40:=zA HG40
            clear gb40 gl40 HG40
            (first | simp only [add_plain] at hx642_0 | skip)
            obtain ⟨hx40_0,hf40_0⟩:=Kd.R_celln 0 HO641.out (x8_2:Int) p40 q40
            replace p40:=eq_true p40
            replace q40:=eq_true q40
            have HP45:=Kd.R_putn HO641.out (x8_2:Int) (Go.bits .or .i64 (rd y639 x8_2) t643)
            rw [← Ny644.out] at HP45
            have HQ45:=zA HP45
            clear HP45
            refine hK.out _ _ (hHeld) (fun hHeld=>?_)
            clear hK K
            refine norm_ (a' := ?_) ?_ ?_
            rotate_left
            ·show Act.put _ (some 47) _ = _
             simp only [Act.put,zL,zM,zN,i64_w,i32_w]
             rfl
            refine zp 6 (some 48) #[true,true,true,true,true,true,true,false,false] HT_.out ?_
            refine zp 7 (some 49) #[true,true,true,true,true,true,true,true,false] HT_.out ?_
            refine last_ (i:=8) (N:=none) #[true,true,true,true,true,true,true,true,true] rfl rfl (one_of HT_.out (by kernel_rfl)) (by decide) (fun K hK=>?_)
            refine skip_ (w1:=?_) (by rfl) rfl ?_ ?_
            rotate_left
            ·go_simp
             rfl
            refine hK.out _ _ ?_
            clear hK K
            refine done_ (done_of HT_.out (by kernel_rfl)) ?_
            try go_wp2
            go_roundg k2
            case measure=>have:=HK1.out;have:=HK2.out;omega
            case rel=>exact ⟨(y644),(wrap64 (x12_1 + 1)),zs,H', ⟨by have:=HK1.out;have:=HK2.out;omega⟩,⟨zP HQ45.out⟩,⟨zT HB.out GB40.out⟩⟩
           rw [if_neg c38] at H
           exact absurd H (by simp)
          rw [if_neg c37] at H
          exact absurd H (by simp)
         rw [if_neg c36] at H
         exact absurd H (by simp)
        rw [if_neg c35] at H
        obtain ⟨c35b0,c35b1⟩:=zT2 c35
        by_cases c46:0 ≤ x8_2
        ·rw [if_pos c46] at H
         have c46b0:decide (0 ≤ x8_2) = true:=decide_eq_true c46
         clear c46
         by_cases c47:x8_2 < (x5_1.length:Int)
         ·rw [if_pos c47] at H
          have c47b0:decide (x8_2 < (x5_1.length:Int)) = true:=decide_eq_true c47
          clear c47
          obtain ⟨t646,A48,H⟩:=zb H
          try dsimp only at H
          obtain ⟨y647,hy647⟩:∃ y_:List Int,y_ = (x5_1.set (x8_2:Int).toNat (Go.bits .or .i64 (rd x5_1 x8_2) t646)):=⟨_,rfl⟩
          replace H:(impl_ties_foata.l0 k2 l0 y647 l1 (l1.length:Int) (wrap64 (x12_1 + 1))) = some r:=zy hy647 H
          have Ny647:=zA hy647
          clear hy647
          have H' := zA H
          clear H
          try go_wp2
          replace HO_5:=zA (zH HO_5.out)
          replace HB:=zA (zD HB.out)
          refine start_ (n:=15) (S:=fun w' => True) (ds:=[]) #[false,false,false,false,false,false,false,false,false,false,false,false,false,false,false] (by kernel_rfl) rfl rfl trivial (fun hHeld=>?_);refine with_tabW impl_ties_foata.tab6 impl_ties_foata.bits6 (fun HT_ HW_=>?_)
          generalize wr.drew = w50 at HO_5 HB hHeld ⊢
          refine zp 0 (some 18) #[true,false,false,false,false,false,false,false,false,false,false,false,false,false,false] HT_.out ?_
          refine zp 1 (some 19) #[true,true,false,false,false,false,false,false,false,false,false,false,false,false,false] HT_.out ?_
          refine zp 2 (some 20) #[true,true,true,false,false,false,false,false,false,false,false,false,false,false,false] HT_.out ?_
          refine zu 3 (some 21) #[true,true,true,true,false,false,false,false,false,false,false,false,false,false,false] HT_.out ?_
          refine zu 4 (some 22) #[true,true,true,true,true,false,false,false,false,false,false,false,false,false,false] HT_.out ?_
          refine zu 5 (some 23) #[true,true,true,true,true,true,false,false,false,false,false,false,false,false,false] HT_.out ?_
          refine zu 6 (some 24) #[true,true,true,true,true,true,true,false,false,false,false,false,false,false,false] HT_.out ?_
          refine zu 7 (some 25) #[true,true,true,true,true,true,true,true,false,false,false,false,false,false,false] HT_.out ?_
          refine zu 8 (some 26) #[true,true,true,true,true,true,true,true,true,false,false,false,false,false,false] HT_.out ?_
          refine zu 9 (some 27) #[true,true,true,true,true,true,true,true,true,true,false,false,false,false,false] HT_.out ?_
          refine zu 10 (some 28) #[true,true,true,true,true,true,true,true,true,true,true,false,false,false,false] HT_.out ?_
          refine zu 11 (some 29) #[true,true,true,true,true,true,true,true,true,true,true,true,false,false,false] HT_.out ?_
          refine zu 12 (some 30) #[true,true,true,true,true,true,true,true,true,true,true,true,true,false,false] HT_.out ?_
          refine zu 13 (some 31) #[true,true,true,true,true,true,true,true,true,true,true,true,true,true,false] HT_.out ?_
          refine zp 14 (some 32) #[true,true,true,true,true,true,true,true,true,true,true,true,true,true,true] HT_.out ?_
          refine done_ (done_of HT_.out (by kernel_rfl)) ?_
          try go_wp2
          replace HO_5:=zA (zH HO_5.out)
          replace HB:=zA (zD HB.out)
          have p645:0 ≤ (x8_2:Int):=zd
          have q645:x8_2 < (x5_1.length:Int):=zd
          obtain ⟨ad645,e645,hx645_0⟩:=Kd.at_int (kB HO_5.out).2.2 x8_2 p645 q645
          cases e645
          replace p645:=eq_true p645
          replace q645:=eq_true q645
          refine start_ (n:=9) (S:=fun w' => w'.cell? (ad645.add (x8_2).toNat) = some (.int .i64 (rd x5_1 x8_2))) (ds:=[8]) #[false,false,false,false,false,false,false,false,false] (by kernel_rfl) rfl rfl (hx645_0) (fun hHeld=>?_);refine with_tabW impl_ties_foata.tab10 impl_ties_foata.bits10 (fun HT_ HW_=>?_)
          generalize w50.drew = w51 at HO_5 HB hx645_0 hHeld ⊢
          refine zp 0 (some 42) #[true,false,false,false,false,false,false,false,false] HT_.out ?_
          refine zp 1 (some 43) #[true,true,false,false,false,false,false,false,false] HT_.out ?_
          refine zp 2 (some 44) #[true,true,true,false,false,false,false,false,false] HT_.out ?_
          refine zp 4 (some 46) #[true,true,true,false,true,false,false,false,false] HT_.out ?_
          refine za 3 (some 45) #[true,true,true,true,true,false,false,false,false] HT_.out HW_.out hHeld ?_
          refine one_ (i:=5) (N:=some 47) #[true,true,true,true,true,true,false,false,false] rfl rfl (one_of HT_.out (by kernel_rfl)) (by decide) (fun K hK=>?_)
          refine goes_ Tryz.func55 (by kernel_rfl) rfl #[.int .i64 (rd l1 x12_1)] (by rfl) rfl rfl zg ?_
          with_reducible refine (impl_one.calls (rd l1 x12_1) t646 _ A48.out).mono ?_
          rintro e w' ⟨rfl,⟨nd,rfl⟩⟩
          refine ⟨_,rfl,?_⟩
          have p49:0 ≤ (x8_2:Int):=zd
          have q49:(x8_2:Int) < ((x5_1.length:Int):Int):=zd
          obtain ⟨go49,co49,eo49,gb49,gl49,cl49,HG49⟩:=Kd.R_form HO_5.out (by omega)
          (first | cases eo49 | (injection eo49 with ea_ en_ ec_;(first | subst ea_ | (injection ea_ with ea_;subst ea_));subst ec_;clear en_))
          have GB49:=zA gb49
          have GG49:=zA HG49
          clear gb49 gl49 HG49
          (first | simp only [add_plain] at hx645_0 | skip)
          obtain ⟨hx49_0,hf49_0⟩:=Kd.R_celln 0 HO_5.out (x8_2:Int) p49 q49
          replace p49:=eq_true p49
          replace q49:=eq_true q49
          have HP52:=Kd.R_putn HO_5.out (x8_2:Int) (Go.bits .or .i64 (rd x5_1 x8_2) t646)
          rw [← Ny647.out] at HP52
          have HQ52:=zA HP52
          clear HP52
          refine hK.out _ _ (hHeld) (fun hHeld=>?_)
          clear hK K
          refine norm_ (a' := ?_) ?_ ?_
          rotate_left
          ·show Act.put _ (some 47) _ = _
           simp only [Act.put,zL,zM,zN,i64_w,i32_w]
           rfl
          refine zp 6 (some 48) #[true,true,true,true,true,true,true,false,false] HT_.out ?_
          refine zp 7 (some 49) #[true,true,true,true,true,true,true,true,false] HT_.out ?_
          refine last_ (i:=8) (N:=none) #[true,true,true,true,true,true,true,true,true] rfl rfl (one_of HT_.out (by kernel_rfl)) (by decide) (fun K hK=>?_)
          refine skip_ (w1:=?_) (by rfl) rfl ?_ ?_
          rotate_left
          ·go_simp
           rfl
          refine hK.out _ _ ?_
          clear hK K
          refine done_ (done_of HT_.out (by kernel_rfl)) ?_
          try go_wp2
          go_roundg k2
          case measure=>have:=HK1.out;have:=HK2.out;omega
          case rel=>exact ⟨(y647),(wrap64 (x12_1 + 1)),zs,H', ⟨by have:=HK1.out;have:=HK2.out;omega⟩,⟨zP HQ52.out⟩,⟨zT HB.out GB49.out⟩⟩
         rw [if_neg c47] at H
         exact absurd H (by simp)
        rw [if_neg c46] at H
        exact absurd H (by simp)
     rw [if_neg c7] at H
     exact absurd H (by simp)
    rw [if_neg c6] at H
    exact absurd H (by simp)
   rw [if_neg c5] at H
   have c5b0:decide (x12_1 < (l1.length:Int)) = false:=decide_eq_false c5
   clear c5
   obtain rfl:=Option.some.inj H
   go_wp2
   go_ret
   exact ⟨_,zr,zP HO_5.out,zQ HB.out⟩
def impl_HeightOf.f (k:Nat) (a0_0:Int) (l0_1:List Int) (l1:List Int):Option (Int × Int):=(impl_checkWords.f k a0_0 l0_1 (([l1]:List (List Int)))).bind fun t652=>(if t652 = 0 then ((impl_Alphabet_ties.f a0_0 l0_1).bind fun t653=>((impl_ties_foata.f k t653 l1).bind fun t656=>((impl_length_int64.f t656).bind fun t659=>(some (t659,0))))) else (some (0,t652)))
set_option maxHeartbeats 8000000 in
set_option maxRecDepth 100000 in
theorem impl_HeightOf.calls (k : Nat) (a0_0 : Int) (P0_1_ : Nat → Prop) (A0_1 : Option Addr) (c0_1 : Nat) (l0_1 : List Int) (P1_ : Nat → Prop) (A1 : Option Addr) (c1 : Nat) (l1 : List Int) (r1 : Int) (r2 : Int) (w : World) (hs0_1 : Kd.V (Kd.int .i64) 2 w w.heap.size (fun k_ => P0_1_ k_) (.slice A0_1 l0_1.length c0_1) l0_1) (hs1 : Kd.V (Kd.int .i64) 2 w w.heap.size (fun k_ => P1_ k_) (.slice A1 l1.length c1) l1) (hT : TabW w) (h : impl_HeightOf.f k a0_0 l0_1 l1 = some (r1, r2)) :
  Calls Tryz.prog 14 #[.agg #[.int .i64 a0_0,.slice A0_1 l0_1.length c0_1],.slice A1 l1.length c1] w fun e w' => e = .returned (.tuple #[.int .i64 r1,.int .i64 r2]) ∧ Below w.heap.size w w' := by
 have hu26:=Tryz.underlying26
 have HT:=zA hT
 clear hT
 have HO0_1:=zA (show Kd.V (Kd.int .i64) 2 w w.heap.size (fun k_=>((P0_1_ k_ ∨ P1_ k_) ∨ w.heap.size ≤ k_)) (.slice A0_1 l0_1.length c0_1) l0_1 from kN hs0_1 (fun k_ hk=>.inl (.inl hk)))
 have HO1:=zA (show Kd.V (Kd.int .i64) 2 w w.heap.size (fun k_=>((P0_1_ k_ ∨ P1_ k_) ∨ w.heap.size ≤ k_)) (.slice A1 l1.length c1) l1 from kN hs1 (fun k_ hk=>.inl (.inr hk)))
 have HB:=zA (kW w.heap.size w)
 have H:=h
 unfold impl_HeightOf.f at H
 clear h
 obtain ⟨y649,hy649⟩:∃ y_:List (List Int),y_ = (([l1]:List (List Int))):=⟨_,rfl⟩
 replace H:((impl_checkWords.f k a0_0 l0_1 y649).bind fun t652=>(if t652 = 0 then ((impl_Alphabet_ties.f a0_0 l0_1).bind fun t653=>((impl_ties_foata.f k t653 l1).bind fun t656=>((impl_length_int64.f t656).bind fun t659=>(some (t659,0))))) else (some (0,t652)))) = some (r1,r2):=zy hy649 H
 have Ny649:=zA hy649
 clear hy649
 obtain ⟨t652,A3,H⟩:=zb H
 try dsimp only at H
 by_cases c4:t652 = 0
 ·rw [if_pos c4] at H
  obtain ⟨c4b0,c4b1⟩:=zT1 c4
  clear c4
  obtain ⟨t653,A5,H⟩:=zb H
  try dsimp only at H
  obtain ⟨t656,A6,H⟩:=zb H
  try dsimp only at H
  obtain ⟨t659,A7,H⟩:=zb H
  try dsimp only at H
  simp only [Option.some.injEq,Prod.mk.injEq] at H
  obtain ⟨rfl,rfl⟩:=H
  go_enter Tryz.func14,Tryz.ntmps14
  go_wp2_with (first | (refine zBE 2 #[.int .i64 a0_0,.slice A0_1 l0_1.length c0_1] 26 ?_;intro gb648 hg w8 hbox hb;replace HO0_1:=zA (kG (jD (zPV HO0_1.out) gb648 (Nat.le_of_eq hg.symm)) hb);replace HO1:=zA (kG (jD (zPV HO1.out) gb648 (Nat.le_of_eq hg.symm)) hb);have BK648:=zA (hbox);have GW648:=zA (zBH hg HB.out);have GE648:=zA (zBH hg HB.out);replace HB:=zA (kQ (zQ HB.out) hb);clear hb hbox hg;obtain ⟨hcz9_0,hcz9_1,hfz9_0,hfz9_1⟩:=zB3 BK648.out) | ((with_reducible refine kS (N:=9) rfl ?_);refine Kd.N_lit (Kd.slice 2 (Kd.int .i64)) _ 24 ?hg (N' := 9) ?hd (xs:=([l1]:List (List Int))) (inner:=[.slice A1 l1.length c1]) (ok:=(fun k_=>((P0_1_ k_ ∨ P1_ k_) ∨ w.heap.size ≤ k_) ∧ k_ ≠ gb648)) (okp:=(fun k_=>((P0_1_ k_ ∨ P1_ k_) ∨ w.heap.size ≤ k_) ∧ k_ ≠ gb648)) ?hr ?hp (fun _ hk=>hk) ((show ∀ k_:Nat,(_:Nat) ≤ k_ → (fun k_=>((P0_1_ k_ ∨ P1_ k_) ∨ w.heap.size ≤ k_) ∧ k_ ≠ gb648) k_ from fun k_ hk=>⟨(.inr (Nat.le_trans (kP (zT HB.out GE648.out)) hk)),jE (g:=gb648) (o:=.cells #[.int .i64 a0_0,.slice A0_1 l0_1.length c0_1] 26 (0,0)) (zR BK648.out) k_ hk⟩) _ (Nat.le_refl _)) (kW _ _) (Nat.le_refl _) (by simp) ?_;(case hd=>rfl);(case hg=>rfl);(case hr=>first | (go_simp;done) | (go_simp;rfl));(case hp=>exact (Reps.one (show Kd.FK (Kd.slice 2 (Kd.int .i64)) _ _ l1 [.slice A1 l1.length c1] from (zFK (kN (ok' := (fun k_=>((P0_1_ k_ ∨ P1_ k_) ∨ w.heap.size ≤ k_) ∧ k_ ≠ gb648)) (HO1.out) (fun k_ hk=>⟨hk.1,hk.2⟩)))) (Reps.none _ _)));intro v650 w10 ho11 hb hg_ hnew_;clear hg_ hnew_;(first | rw [← Ny649.out] at ho11 | (simp only [Int.reduceToNat] at ho11;rw [← Ny649.out] at ho11));replace HO0_1:=zA (kK (zPV HO0_1.out) (Kd.N_base ho11) hb);replace HO1:=zA (kK (zPV HO1.out) (Kd.N_base ho11) hb);have HO651:=zA (jN ho11 (kP (zT HB.out GE648.out)));replace BK648:=zA (zB1 BK648.out hb);replace HB:=zA (kQ (zT HB.out GE648.out) hb);clear hb ho11;obtain ⟨Ao12,co12,eo12⟩:=Kd.N_slice HO651.out;subst eo12) | (refine zO (some 10) Tryz.func30 #[.agg #[.int .i64 a0_0,.slice A0_1 l0_1.length c0_1],.slice Ao12 y649.length co12] ?_;(with_reducible refine (impl_checkWords.calls k a0_0 _ _ l0_1 _ _ y649 t652 _ ?side1 ?side2 ?side3 ?side4 ?side5 A3.out).mono ?_);(case side1=>exact zS (kJ HO0_1.out).2.2);(case side2=>exact (kJ HO0_1.out).2.1);(case side3=>exact zS (Kd.N_reads' HO651.out).2.2);(case side4=>exact (Kd.N_reads' HO651.out).2.1);(case side5=>exact TabW.below HT.out (zT HB.out GE648.out));rintro e w13 ⟨rfl,hb⟩;refine ⟨_,rfl,?_⟩;replace HO0_1:=zA (kG (zPV HO0_1.out) hb);replace HO1:=zA (kG (zPV HO1.out) hb);replace HO651:=zA (kZ (zPN HO651.out) hb);replace BK648:=zA (zB1 BK648.out hb);replace HB:=zA (kQ (zT HB.out GE648.out) hb);(try clear hb);obtain ⟨hcz14_0,hcz14_1,hfz14_0,hfz14_1⟩:=zB3 BK648.out) | (refine zO (some 15) Tryz.func18 #[.agg #[.int .i64 a0_0,.slice A0_1 l0_1.length c0_1]] ?_;(with_reducible refine (impl_Alphabet_ties.calls a0_0 (fun k_=>((((P0_1_ k_ ∨ P1_ k_) ∨ w.heap.size ≤ k_) ∧ k_ ≠ gb648) ∧ some k_ ≠ (.slice Ao12 y649.length co12:Value).ownBlock)) _ _ l0_1 t653 _ ?side1 A5.out).mono ?_);(case side1=>exact HO0_1.out);rintro e w15 ⟨v654,rfl,ho0,hb⟩;refine ⟨_,rfl,?_⟩;replace HO0_1:=zA (kG (zPV HO0_1.out) hb);replace HO1:=zA (kG (zPV HO1.out) hb);have HO655:=zA (jM (kN (ok' := fun k_=>((P0_1_ k_ ∨ P1_ k_) ∨ w.heap.size ≤ k_) ∧ some k_ ≠ (.slice Ao12 y649.length co12:Value).ownBlock ∧ k_ ≠ gb648) ho0 (fun k_ hk_=>⟨Or.elim hk_ (fun hs_=>hs_.1.1) (fun hn_=>(.inr (Nat.le_trans (kP (zT HB.out GE648.out)) hn_))),Or.elim hk_ (fun hs_=>hs_.2) (fun hn_=>(jF (jA (zPN HO651.out)) k_ hn_)),Or.elim hk_ (fun hs_=>hs_.1.2) (fun hn_=>(jE (g:=gb648) (o:=.cells #[.int .i64 a0_0,.slice A0_1 l0_1.length c0_1] 26 (0,0)) (zR BK648.out) k_ hn_))⟩)) (kP (zT HB.out GE648.out)));replace HO651:=zA (kZ (zPN HO651.out) hb);replace BK648:=zA (zB1 BK648.out hb);replace HB:=zA (kQ (zT HB.out GE648.out) hb);(try clear hb);(try clear ho0);obtain ⟨Ao16,co16,eo16⟩:=Kd.V_slice HO655.out;subst eo16) | (refine zO (some 17) Tryz.func32 #[.slice Ao16 t653.length co16,.slice A1 l1.length c1] ?_;(with_reducible refine (impl_ties_foata.calls k _ _ t653 _ _ l1 t656 _ ?side1 ?side2 ?side3 ?side4 A6.out).mono ?_);(case side1=>exact zS (kJ HO655.out).2.2);(case side2=>exact (kJ HO655.out).2.1);(case side3=>exact zS (kJ HO1.out).2.2);(case side4=>exact (kJ HO1.out).2.1);rintro e w17 ⟨v657,rfl,ho0,hb⟩;refine ⟨_,rfl,?_⟩;replace HO0_1:=zA (kK (zPV HO0_1.out) (kC ho0) hb);replace HO1:=zA (kK (zPV HO1.out) (kC ho0) hb);replace HO651:=zA (Kd.N_elder' (zPN HO651.out) (kC ho0) hb);replace HO655:=zA (kK (zPV HO655.out) (kC ho0) hb);have HO658:=zA (kI (Kd.R_newM (M:=fun k_=>(w.heap.size ≤ k_)) ho0 (kP (zT HB.out GE648.out)) (fun k_ h_=>h_)) (kP (zT HB.out GE648.out)));replace BK648:=zA (zB1 BK648.out hb);replace HB:=zA (kQ (zT HB.out GE648.out) hb);(try clear hb);(try clear ho0);obtain ⟨Ao18,co18,eo18⟩:=kM HO658.out;subst eo18) | (refine zO (some 18) Tryz.func31 #[.slice Ao18 t656.length co18] ?_;(with_reducible refine (impl_length_int64.calls _ _ t656 t659 _ ?side1 ?side2 A7.out).mono ?_);(case side1=>exact zS (kB HO658.out).2.2);(case side2=>exact (kB HO658.out).2.1);rintro e w' ⟨rfl,⟨nd,rfl⟩⟩;refine ⟨_,rfl,?_⟩))
  go_ret2
  exact ⟨zr,zT HB.out GE648.out⟩
 rw [if_neg c4] at H
 obtain ⟨c4b0,c4b1⟩:=zT2 c4
 simp only [Option.some.injEq,Prod.mk.injEq] at H
 obtain ⟨rfl,rfl⟩:=H
 go_enter Tryz.func14,Tryz.ntmps14
 go_wp2_with (first | (refine zBE 2 #[.int .i64 a0_0,.slice A0_1 l0_1.length c0_1] 26 ?_;intro gb648 hg w19 hbox hb;replace HO0_1:=zA (kG (jD (zPV HO0_1.out) gb648 (Nat.le_of_eq hg.symm)) hb);replace HO1:=zA (kG (jD (zPV HO1.out) gb648 (Nat.le_of_eq hg.symm)) hb);have BK648:=zA (hbox);have GW648:=zA (zBH hg HB.out);have GE648:=zA (zBH hg HB.out);replace HB:=zA (kQ (zQ HB.out) hb);clear hb hbox hg;obtain ⟨hcz20_0,hcz20_1,hfz20_0,hfz20_1⟩:=zB3 BK648.out) | ((with_reducible refine kS (N:=9) rfl ?_);refine Kd.N_lit (Kd.slice 2 (Kd.int .i64)) _ 24 ?hg (N' := 9) ?hd (xs:=([l1]:List (List Int))) (inner:=[.slice A1 l1.length c1]) (ok:=(fun k_=>((P0_1_ k_ ∨ P1_ k_) ∨ w.heap.size ≤ k_) ∧ k_ ≠ gb648)) (okp:=(fun k_=>((P0_1_ k_ ∨ P1_ k_) ∨ w.heap.size ≤ k_) ∧ k_ ≠ gb648)) ?hr ?hp (fun _ hk=>hk) ((show ∀ k_:Nat,(_:Nat) ≤ k_ → (fun k_=>((P0_1_ k_ ∨ P1_ k_) ∨ w.heap.size ≤ k_) ∧ k_ ≠ gb648) k_ from fun k_ hk=>⟨(.inr (Nat.le_trans (kP (zT HB.out GE648.out)) hk)),jE (g:=gb648) (o:=.cells #[.int .i64 a0_0,.slice A0_1 l0_1.length c0_1] 26 (0,0)) (zR BK648.out) k_ hk⟩) _ (Nat.le_refl _)) (kW _ _) (Nat.le_refl _) (by simp) ?_;(case hd=>rfl);(case hg=>rfl);(case hr=>first | (go_simp;done) | (go_simp;rfl));(case hp=>exact (Reps.one (show Kd.FK (Kd.slice 2 (Kd.int .i64)) _ _ l1 [.slice A1 l1.length c1] from (zFK (kN (ok' := (fun k_=>((P0_1_ k_ ∨ P1_ k_) ∨ w.heap.size ≤ k_) ∧ k_ ≠ gb648)) (HO1.out) (fun k_ hk=>⟨hk.1,hk.2⟩)))) (Reps.none _ _)));intro v650 w21 ho22 hb hg_ hnew_;clear hg_ hnew_;(first | rw [← Ny649.out] at ho22 | (simp only [Int.reduceToNat] at ho22;rw [← Ny649.out] at ho22));replace HO0_1:=zA (kK (zPV HO0_1.out) (Kd.N_base ho22) hb);replace HO1:=zA (kK (zPV HO1.out) (Kd.N_base ho22) hb);have HO651:=zA (jN ho22 (kP (zT HB.out GE648.out)));replace BK648:=zA (zB1 BK648.out hb);replace HB:=zA (kQ (zT HB.out GE648.out) hb);clear hb ho22;obtain ⟨Ao23,co23,eo23⟩:=Kd.N_slice HO651.out;subst eo23) | (refine zO (some 10) Tryz.func30 #[.agg #[.int .i64 a0_0,.slice A0_1 l0_1.length c0_1],.slice Ao23 y649.length co23] ?_;(with_reducible refine (impl_checkWords.calls k a0_0 _ _ l0_1 _ _ y649 t652 _ ?side1 ?side2 ?side3 ?side4 ?side5 A3.out).mono ?_);(case side1=>exact zS (kJ HO0_1.out).2.2);(case side2=>exact (kJ HO0_1.out).2.1);(case side3=>exact zS (Kd.N_reads' HO651.out).2.2);(case side4=>exact (Kd.N_reads' HO651.out).2.1);(case side5=>exact TabW.below HT.out (zT HB.out GE648.out));rintro e w24 ⟨rfl,hb⟩;refine ⟨_,rfl,?_⟩;replace HO0_1:=zA (kG (zPV HO0_1.out) hb);replace HO1:=zA (kG (zPV HO1.out) hb);replace HO651:=zA (kZ (zPN HO651.out) hb);replace BK648:=zA (zB1 BK648.out hb);replace HB:=zA (kQ (zT HB.out GE648.out) hb);(try clear hb)))
 go_ret2
 exact ⟨zr,zT HB.out GE648.out⟩
def laws_FnHeightCounts.l0:Nat → Int → List Int → Int → List Int → Int → Int → Option Int
 | 0,_,_,_,_,_,_=>none
 | f + 1,n,D,a,st,parts,i=>if i < (st.length:Int) then (if 0 ≤ i then ((impl_CountByFirst.f f n D a (rd st i)).bind fun kc=>(if kc.2 = 0 then laws_FnHeightCounts.l0 f n D a st (wrap64 (parts + kc.1)) (wrap64 (i + 1)) else none)) else none) else some parts
def laws_FnHeightCounts.l1:Nat → Int → List Int → Int → List (List Int) → List Int → Int → Option (List Int)
 | 0,_,_,_,_,_,_=>none
 | f + 1,n,D,a,L,R,i=>if i < (L.length:Int) ∧ i < 300 then (if 0 ≤ i then ((impl_HeightOf.f f n D (L.getD i.toNat [])).bind fun hc=>(if hc.2 = 0 ∧ 0 ≤ hc.1 ∧ hc.1 ≤ a ∧ hc.1 < (R.length:Int) ∧ ¬ rd R hc.1 = 0 then (if (L.length:Int) ≤ 300 then laws_FnHeightCounts.l1 f n D a L (R.set hc.1.toNat (wrap64 (rd R hc.1 - 1))) (wrap64 (i + 1)) else laws_FnHeightCounts.l1 f n D a L R (wrap64 (i + 1))) else none)) else none) else some R
def laws_FnHeightCounts.f (k:Nat) (l0:List Int):Option Bool:=(laws_big.f l0).bind fun t=>if t = true then some true else ((spec_DrawCountByHeight.f k l0).bind fun d=>((impl_CountByHeight.f k d.1 d.2.1 d.2.2).bind fun rc=>((spec_CountByHeight.f k d.1 d.2.1 d.2.2).bind fun wc=>(if rc.2 = wc.2 then ((laws_likeInts.f k rc.1 wc.1).bind fun b=>(if b = true then (if rc.2 = 0 then (if 0 < rc.1.length then ((impl_CountTraces.f k d.1 d.2.1 d.2.2).bind fun tc=>((impl_StepsOf.f k d.1 d.2.1).bind fun sc=>(if tc.2 = 0 ∧ sc.2 = 0 then ((laws_sum.f k rc.1).bind fun s=>(if s = tc.1 ∧ (rc.1.length:Int) = wrap64 (d.2.2 + 1) then ((laws_FnHeightCounts.l0 k d.1 d.2.1 d.2.2 sc.1 0 0).bind fun parts=>(if parts = tc.1 then ((impl_TracesOfLength.f k d.1 d.2.1 d.2.2).bind fun lc=>(if lc.2 = 0 then ((laws_FnHeightCounts.l1 k d.1 d.2.1 d.2.2 lc.1 rc.1 0).bind fun R2=>(if (lc.1.length:Int) > 300 then some true else ((laws_sum.f k R2).bind fun s2=>if s2 = 0 then some true else none))) else (if lc.2 = 3 then some true else none))) else none)) else none)) else none))) else none) else some true) else none)) else none))))
theorem sum_callsN (k:Nat) (A0:Option Addr) (n c0:Nat) (l0:List Int) (r:Int) (w:World) (hn:n = l0.length) (hr0:Kd.C (Kd.int .i64) w A0 l0.length l0) (hc0:l0.length ≤ c0) (h:laws_sum.f k l0 = some r):Calls Tryz.prog 11 #[.slice A0 n c0] w fun e w' => e = .returned (.int .i64 r) ∧ Drawn0 w w' := by
 subst hn
 exact laws_sum.calls k A0 c0 l0 r w hr0 hc0 h
theorem like_callsN (k:Nat) (A0:Option Addr) (n c0:Nat) (l0:List Int) (A1:Option Addr) (c1:Nat) (l1:List Int) (r:Bool) (w:World) (hn:n = l0.length) (hr0:Kd.C (Kd.int .i64) w A0 l0.length l0) (hc0:l0.length ≤ c0) (hr1:Kd.C (Kd.int .i64) w A1 l1.length l1) (hc1:l1.length ≤ c1) (h:laws_likeInts.f k l0 l1 = some r):Calls Tryz.prog 8 #[.slice A0 n c0,.slice A1 l1.length c1] w fun e w' => e = .returned (.bool r) ∧ Drawn0 w w' := by
 subst hn
 exact laws_likeInts.calls k A0 c0 l0 A1 c1 l1 r w hr0 hc0 hr1 hc1 h
theorem below_trans0 {w W W1:World} (h:Below w.heap.size w W) (hb:Below W.heap.size W W1):Below w.heap.size w W1:=Below.grown h (grown_of_below hb none) h.size (fun j hj=>by cases hj)
theorem below_drawn0 {W W1:World} (hd:Drawn0 W W1):Below W.heap.size W W1:=by
 obtain ⟨m,rfl⟩:=hd
 exact zC (kW _ _) m
theorem below_cell0 {W W1:World} {a:Addr} {v:Value} (h:W.cell? a = some v) (hb:Below W.heap.size W W1):W1.cell? a = some v:=pw_cell_below hb h
def HcD (w:World) (gb:Nat) (n0:Int) (AD:Option Addr) (cD:Nat) (D:List Int) (W:World):Prop:=W.heap[gb]? = some (.cells #[.int .i64 n0,.slice AD D.length cD] 26 (0,0)) ∧ Kd.R (Kd.int .i64) 2 W w.heap.size (fun k=>k ≠ gb) (.slice AD D.length cD) D ∧ w.heap.size ≤ gb ∧ Below w.heap.size w W
theorem hcD_below {w W W1:World} {gb cD:Nat} {n0:Int} {AD:Option Addr} {D:List Int} (h:HcD w gb n0 AD cD D W) (hb:Below W.heap.size W W1):HcD w gb n0 AD cD D W1 :=
 ⟨(hb.block gb (jI h.1)).trans h.1,kL h.2.1 hb,h.2.2.1,below_trans0 h.2.2.2 hb⟩
theorem hcD_box {w W w1 : World} {gb cD : Nat} {n0 : Int} {AD : Option Addr} {D : List Int} (hw : Below w.heap.size w W) (hD : Kd.R (Kd.int .i64) 2 W w.heap.size (fun _ => True) (.slice AD D.length cD) D) (hg : gb = W.heap.size) (hbox : w1.heap[gb]? = some (.cells #[.int .i64 0, .slice none 0 0] 26 (0, 0))) (hb : Below W.heap.size W w1) :
  HcD w gb n0 AD cD D ((w1.setCell ⟨gb,0,none⟩ (.int .i64 n0)).setCell ⟨gb,1,none⟩ (.slice AD D.length cD)):=by
 have h1:=kA (Kd.R_bound hD) (ok' := fun k=>k ≠ gb) (fun k hk=>by have:=hk.2.2.1;omega)
 have h2:=kY (kY (kL h1 hb) (p:=⟨gb,0,none⟩) (fun k hk=>hk) (.int .i64 n0)) (p:=⟨gb,1,none⟩) (fun k hk=>hk) (.slice AD D.length cD)
 have hle:w.heap.size ≤ gb:=by rw [hg];exact hw.size
 refine ⟨?_,h2,hle,zE (zE (below_trans0 hw hb) hle) hle⟩
 have:=blk_set (blk_set hbox 0 (.int .i64 n0)) 1 (.slice AD D.length cD)
 simpa using this
def HcR (w:World) (gb:Nat) (n0:Int) (AD:Option Addr) (cD:Nat) (D:List Int) (g N cR:Nat) (R:List Int) (W:World):Prop:=W.heap[gb]? = some (.cells #[.int .i64 n0,.slice AD D.length cD] 26 (0,0)) ∧ Kd.R (Kd.int .i64) 2 W w.heap.size (fun k=>k ≠ gb ∧ k ≠ g) (.slice AD D.length cD) D ∧ Kd.R (Kd.int .i64) 2 W w.heap.size (fun _=>True) (.slice (some ⟨g,0,none⟩) N cR) R ∧ gb ≠ g ∧ w.heap.size ≤ g ∧ Below w.heap.size w W
theorem hcR_below {w W W1:World} {gb cD g N cR:Nat} {n0:Int} {AD:Option Addr} {D R:List Int} (h:HcR w gb n0 AD cD D g N cR R W) (hb:Below W.heap.size W W1):HcR w gb n0 AD cD D g N cR R W1:=by
 obtain ⟨a1,a2,a3,a4,a5,a6⟩:=h
 exact ⟨(hb.block gb (jI a1)).trans a1,kL a2 hb,kL a3 hb,a4,a5,below_trans0 a6 hb⟩
theorem hcR_make {w W W1:World} {gb cD:Nat} {n0:Int} {AD:Option Addr} {D R:List Int} {v:Value} (h:HcD w gb n0 AD cD D W) (hb:Below W.heap.size W W1) (hr:Kd.R (Kd.int .i64) 2 W1 W.heap.size (fun _=>True) v R) (hp:0 < R.length):∃ g cR,v = .slice (some ⟨g,0,none⟩) R.length cR ∧ HcR w gb n0 AD cD D g R.length cR R W1:=by
 obtain ⟨g,cR,rfl,h1,h2,_⟩:=Kd.R_form hr hp
 have hlt:=jI h.1
 exact ⟨g,cR,rfl,(hb.block gb hlt).trans h.1,kL (kA (Kd.R_bound h.2.1) (fun k hk=>⟨hk.1,by have:=hk.2.2.1;omega⟩)) hb,kI hr h.2.2.2.size,by omega,Nat.le_trans h.2.2.2.size h1,below_trans0 h.2.2.2 hb⟩
theorem hcR_set {w W:World} {gb cD g N cR:Nat} {n0:Int} {AD:Option Addr} {D R:List Int} (h:HcR w gb n0 AD cD D g N cR R W) (i x:Int):HcR w gb n0 AD cD D g N cR (R.set i.toNat x) (W.setCell ⟨g,i.toNat,none⟩ (.int .i64 x)):=by
 obtain ⟨a1,a2,a3,a4,a5,a6⟩:=h
 exact ⟨blk_far a1 a4 _,kY a2 (fun k hk=>hk.2) _,Kd.R_putn a3 i x,a4,a5,zE a6 a5⟩
theorem hcR_len {w W:World} {gb cD g N cR:Nat} {n0:Int} {AD:Option Addr} {D R:List Int} (h:HcR w gb n0 AD cD D g N cR R W):N = R.length ∧ N ≤ cR:=⟨(kB h.2.2.1).1,(kB h.2.2.1).2.1⟩
theorem hcR_cell {w W:World} {gb cD g N cR:Nat} {n0:Int} {AD:Option Addr} {D R:List Int} (h:HcR w gb n0 AD cD D g N cR R W) {i:Int} (h0:0 ≤ i) (h1:i < (N:Int)):W.cell? ⟨g,i.toNat,none⟩ = some (.int .i64 (rd R i)) ∧ W.frozen? ⟨g,i.toNat,none⟩ = false:=by
 obtain ⟨e,_⟩:=hcR_len h
 subst e
 exact Kd.R_cell (0:Int) h.2.2.1 i h0 h1
theorem row_ofL {W : World} {bs : Nat} {ok : Nat → Prop} {AL : Option Addr} {cL : Nat} {L : List (List Int)} (h : Kd.S (Kd.slice 2 (Kd.int .i64)) 24 W bs ok (.slice AL L.length cL) L) (i : Int) (h0 : 0 ≤ i) (h1 : i < (L.length : Int)) :
  ∃ (g:Nat) (A:Option Addr) (c:Nat),AL = some ⟨g,0,none⟩ ∧ W.cell? ⟨g,i.toNat,none⟩ = some (.slice A (L.getD i.toNat []).length c) ∧ ∃ ok2,Kd.R (Kd.int .i64) 2 W bs ok2 (.slice A (L.getD i.toNat []).length c) (L.getD i.toNat []):=by
 obtain ⟨g,cap,e,_,_,_⟩:=Kd.S_form h (by omega)
 injection e with e1 e2 e3
 subst e1
 obtain ⟨c,hcl,⟨v,rfl,hR⟩,hcc,_⟩:=Kd.R_elem (Kd.S_R h) [] i h0 h1
 obtain ⟨A,c2,rfl⟩:=kM hR
 refine ⟨g,A,c2,rfl,?_,_,hR⟩
 have:=hcc 0 _ rfl
 rwa [show i.toNat * (Kd.slice 2 (Kd.int .i64)).sz + 0 = i.toNat from by simp [Kd.slice]] at this
set_option maxHeartbeats 8000000 in
set_option maxRecDepth 100000 in
theorem laws_FnHeightCounts.calls (k : Nat) (A0 : Option Addr) (c0 : Nat) (l0 : List Int) (r : Bool) (w : World) (hr0 : Kd.C (Kd.int .u8) w A0 l0.length l0) (hc0 : l0.length ≤ c0) (hT : TabW w) (h : laws_FnHeightCounts.f k l0 = some r) :
  Calls Tryz.prog 3 #[.slice A0 l0.length c0] w fun e w' => e = .returned (.bool r) ∧ Below w.heap.size w w' := by
 have hmm:=@run_makeMap Tryz.prog
 have hu:=Tryz.underlying26
 have HR:=zA hr0
 have HC:=zA hc0
 have HT:=zA hT
 clear hr0 hc0 hT
 have H:=h
 unfold laws_FnHeightCounts.f at H
 clear h
 obtain ⟨t,A1,H⟩:=zb H
 by_cases c1:t = true
 ·subst c1
  rw [if_pos rfl] at H
  obtain rfl:=Option.some.inj H
  go_enter Tryz.func3,Tryz.ntmps3
  go_wp2_with (first | (go_at_call 4;(with_reducible refine (laws_big.calls _ _ l0 true _ ?side1 ?side2 A1.out).mono ?_);(case side1=>exact HR.out);(case side2=>exact HC.out);rintro e w2 ⟨rfl,hd⟩;have HB:=zA (below_drawn0 hd);clear hd))
  go_ret
  exact ⟨zr,HB.out⟩
 rw [if_neg c1] at H
 obtain rfl:t = false:=by revert c1;cases t <;> simp
 clear c1
 obtain ⟨⟨n0,D,a1⟩,A2,H⟩:=zb H
 dsimp only at H
 obtain ⟨⟨R1,x1⟩,A3,H⟩:=zb H
 dsimp only at H
 obtain ⟨⟨W1,x2⟩,A4,H⟩:=zb H
 dsimp only at H
 by_cases c2:x1 = x2
 ·rw [if_pos c2] at H
  subst c2
  obtain ⟨b,A5,H⟩:=zb H
  by_cases c3:b = true
  ·subst c3
   rw [if_pos rfl] at H
   have y0:(x1 != x1) = false:=bne_self_eq_false x1
   by_cases c4:x1 = 0
   ·rw [if_pos c4] at H
    by_cases c5:0 < R1.length
    ·rw [if_pos c5] at H
     have HP:=zA c5
     clear c5
     subst c4
     obtain ⟨⟨cnt,x3⟩,A6,H⟩:=zb H
     dsimp only at H
     obtain ⟨⟨st,x4⟩,A7,H⟩:=zb H
     dsimp only at H
     by_cases c6:x3 = 0 ∧ x4 = 0
     ·rw [if_pos c6] at H
      obtain ⟨rfl,rfl⟩:=c6
      obtain ⟨s,A8,H⟩:=zb H
      by_cases c7:s = cnt ∧ (R1.length:Int) = wrap64 (a1 + 1)
      ·rw [if_pos c7] at H
       obtain ⟨rfl,c8⟩:=c7
       have y1:(s != s) = false:=bne_self_eq_false s
       have HLN:=zA c8
       obtain ⟨y2,y3⟩:=zT1 c8
       clear c8
       obtain ⟨pt,A9,H⟩:=zb H
       have HH:=zA H
       clear H
       go_enter Tryz.func3,Tryz.ntmps3
       go_wp2_with (first | (go_at_call 4;(with_reducible refine (laws_big.calls _ _ l0 false _ ?side1 ?side2 A1.out).mono ?_);(case side1=>exact HR.out);(case side2=>exact HC.out);rintro e w2 ⟨rfl,hd⟩;have HB:=zA (below_drawn0 hd);clear hd) | (go_at_call 5;(with_reducible refine (spec_DrawCountByHeight.calls k _ _ l0 n0 D a1 _ ?side1 ?side2 A2.out).mono ?_);(case side1=>exact kO HR.out HB.out);(case side2=>exact HC.out);rintro e w4 ⟨v1,rfl,ho0,hb⟩;obtain ⟨AD,cD,e1⟩:=kM ho0;subst e1;have HDR:=zA (kI ho0 HB.out.size);replace HB:=zA (below_trans0 HB.out hb);clear hb ho0) | (refine zBE 3 #[.int .i64 0,.slice none 0 0] 26 ?_;intro gb hg w5 hbox hb;have HX:=zA (hcD_box (n0:=n0) HB.out HDR.out hg hbox hb);clear hg hb;obtain ⟨hcz0,hcz1,hfz0,hfz1⟩:=zB3 hbox;clear hbox) | ((with_reducible refine gate_store (t:=26) (p:=3) rfl ?_);refine store_event (t:=26) (p:=3) (v:=?vo) (w1:=((w5.setCell ⟨gb,0,none⟩ (.int .i64 n0)).setCell ⟨gb,1,none⟩ (.slice AD D.length cD))) ?hg ?ho ?hn ?hr ?_;(case ho=>rfl);(case hg=>rfl);(case hn=>rfl);(case hr=>first | (go_simp;done) | (go_simp;rfl));intro w6 hw;clear hcz0 hcz1 hfz0 hfz1;rw [← hw] at HX;clear hw;obtain ⟨hca0,hca1,hfa0,hfa1⟩:=zB3 HX.out.1) | (go_at_call 6;(with_reducible refine (impl_CountByHeight.calls k n0 _ _ D a1 _ _ _ ?side1 ?side2 ?side3 A3.out).mono ?_);(case side1=>exact (kB (HX.out.2.1)).2.2);(case side2=>exact (kB (HX.out.2.1)).2.1);(case side3=>exact TabW.below HT.out (HX.out.2.2.2));rintro e w7 ⟨v2,rfl,ho0,hb⟩;obtain ⟨g,cR,e2,hx7⟩:=hcR_make HX.out hb ho0 HP.out;subst e2;have HX7:=zA hx7;clear hb ho0 hx7;obtain ⟨hcb0,hcb1,hfb0,hfb1⟩:=zB3 HX7.out.1) | (go_at_call 7;(with_reducible refine (spec_CountByHeight.calls k n0 _ _ D a1 _ _ _ ?side1 ?side2 A4.out).mono ?_);(case side1=>exact (kB HX7.out.2.1).2.2);(case side2=>exact (kB HX7.out.2.1).2.1);rintro e w8 ⟨v3,rfl,ho0,hb⟩;obtain ⟨AW,cW,e3⟩:=kM ho0;subst e3;have HRW:=zA ho0;have HX8:=zA (hcR_below HX7.out hb);clear hb ho0;obtain ⟨hcc0,hcc1,hfc0,hfc1⟩:=zB3 HX8.out.1) | (go_at_call 8;(with_reducible refine (laws_likeInts.calls k _ _ R1 _ _ W1 true _ ?side1 ?side2 ?side3 ?side4 A5.out).mono ?_);(case side1=>exact (kB HX8.out.2.2.1).2.2);(case side2=>exact (kB HX8.out.2.2.1).2.1);(case side3=>exact (kB HRW.out).2.2);(case side4=>exact (kB HRW.out).2.1);rintro e w9 ⟨rfl,hd⟩;have HX9:=zA (hcR_below HX8.out (below_drawn0 hd));clear hd;obtain ⟨hcd0,hcd1,hfd0,hfd1⟩:=zB3 HX9.out.1) | (go_at_call 9;(with_reducible refine (impl_CountTraces.calls k n0 _ _ D a1 _ _ _ ?side1 ?side2 ?side3 A6.out).mono ?_);(case side1=>exact (kB (HX9.out.2.1)).2.2);(case side2=>exact (kB (HX9.out.2.1)).2.1);(case side3=>exact TabW.below HT.out (HX9.out.2.2.2.2.2));rintro e w10 ⟨rfl,hb⟩;have HX10:=zA (hcR_below HX9.out hb);clear hb;obtain ⟨hce0,hce1,hfe0,hfe1⟩:=zB3 HX10.out.1) | (go_at_call 10;(with_reducible refine (impl_StepsOf.calls k n0 _ _ D _ _ _ ?side1 ?side2 ?side3 A7.out).mono ?_);(case side1=>exact (kB (HX10.out.2.1)).2.2);(case side2=>exact (kB (HX10.out.2.1)).2.1);(case side3=>exact TabW.below HT.out (HX10.out.2.2.2.2.2));rintro e w11 ⟨v4,rfl,ho0,hb⟩;obtain ⟨AS,cS,e4⟩:=kM ho0;subst e4;have HS11:=zA (kI ho0 HX10.out.2.2.2.2.2.size);have HX11:=zA (hcR_below HX10.out hb);clear hb ho0;obtain ⟨hcf0,hcf1,hff0,hff1⟩:=zB3 HX11.out.1) | (go_at_call 11;(with_reducible refine (laws_sum.calls k _ _ R1 _ _ ?side1 ?side2 A8.out).mono ?_);(case side1=>exact (kB HX11.out.2.2.1).2.2);(case side2=>exact (kB HX11.out.2.2.1).2.1);rintro e w12 ⟨rfl,hd⟩;have HX12:=zA (hcR_below HX11.out (below_drawn0 hd));have HS12:=zA (kL HS11.out (below_drawn0 hd));clear hd;obtain ⟨hcg0,hcg1,hfg0,hfg1⟩:=zB3 HX12.out.1))
       go_loopg [13,14] k (fun gg v13 v14 wr=>∃ (pa i:Int),v13 = .int .i64 pa ∧ v14 = .int .i64 i ∧ Aside0 (laws_FnHeightCounts.l0 gg n0 D a1 st pa i = some pt) ∧ Aside0 (gg ≤ k) ∧ Aside0 (HcR w gb n0 AD cD D g R1.length cR R1 wr) ∧ Aside0 (Kd.R (Kd.int .i64) 2 wr w.heap.size (fun _=>True) (.slice AS st.length cS) st))
       case atStart=>exact ⟨0,0,rfl,rfl,A9,⟨Nat.le_refl _⟩,HX12,HS12⟩
       case round =>
        obtain ⟨pa,i,rfl,rfl,HA,HK,HX,HS⟩:=hrel
        cases gk with
        | zero=>exact absurd HA.out (by simp [laws_FnHeightCounts.l0])
        | succ k1 =>
         have H:=HA.out
         clear HA
         simp only [laws_FnHeightCounts.l0] at H
         by_cases q5:i < (st.length:Int)
         ·rw [if_pos q5] at H
          have q5b:decide (i < (st.length:Int)) = true:=decide_eq_true q5
          by_cases q6:0 ≤ i
          ·rw [if_pos q6] at H
           obtain ⟨⟨kk,x5⟩,B1,H⟩:=zb H
           dsimp only at H
           by_cases q7:x5 = 0
           ·rw [if_pos q7] at H
            subst q7
            have HN:=zA H
            clear H
            obtain ⟨adS,eS,hcS⟩:=Kd.at_int (kB HS.out).2.2 i q6 q5
            subst eS
            have p5:=eq_true q5
            have p6:=eq_true q6
            go_wp2
            replace HX:=zA (hcR_below HX.out (zD (kW wr.heap.size wr)))
            replace HS:=zA (kL HS.out (zD (kW wr.heap.size wr)))
            have hcS2:=below_cell0 hcS (zD (kW wr.heap.size wr))
            refine start_ (n:=12) (S:=fun w' => w'.cell? ⟨gb,0,none⟩ = some (.int .i64 n0) ∧ w'.cell? ⟨gb,1,none⟩ = some (.slice AD D.length cD) ∧ w'.cell? (adS.add i.toNat) = some (.int .i64 (rd st i))) (ds:=[]) #[false,false,false,false,false,false,false,false,false,false,false,false] (by kernel_rfl) rfl rfl ⟨(zB3 HX.out.1).1,(zB3 HX.out.1).2.1,hcS2⟩ (fun hHeld=>?_)
            clear hcS
            generalize wr.drew = wz at HX HS hcS2 hHeld ⊢
            refine take_ (i:=0) (N:=some 89) (v:=?_) (a' := ?_) #[true,false,false,false,false,false,false,false,false,false,false,false] rfl rfl (by kernel_rfl) (fun _ _ _ h=>h) (Or.inl ⟨by rfl,?_⟩) hHeld ?_ ?_
            rotate_left
            ·rintro w' ⟨s0,s1,s2⟩
             go_simp
             with_reducible rfl
            rotate_left
            ·simp only [Act.put,zL,zM,zN,i64_w,i32_w]
             rfl
            refine pure_ (i:=1) (N:=some 90) (v:=?_) (a' := ?_) #[true,true,false,false,false,false,false,false,false,false,false,false] rfl rfl (by kernel_rfl) (fun _ _ _ h=>h) (Or.inl ⟨by rfl,?_⟩) ?_ ?_
            rotate_left
            ·intro w'
             go_simp
             with_reducible rfl
            rotate_left
            ·simp only [Act.put,zL,zM,zN,i64_w,i32_w]
             rfl
            refine pure_ (i:=2) (N:=some 91) (v:=?_) (a' := ?_) #[true,true,true,false,false,false,false,false,false,false,false,false] rfl rfl (by kernel_rfl) (fun _ _ _ h=>h) (Or.inl ⟨by rfl,?_⟩) ?_ ?_
            rotate_left
            ·intro w'
             go_simp
             with_reducible rfl
            rotate_left
            ·simp only [Act.put,zL,zM,zN,i64_w,i32_w]
             rfl
            refine pure_ (i:=3) (N:=some 92) (v:=?_) (a' := ?_) #[true,true,true,true,false,false,false,false,false,false,false,false] rfl rfl (by kernel_rfl) (fun _ _ _ h=>h) (Or.inl ⟨by rfl,?_⟩) ?_ ?_
            rotate_left
            ·intro w'
             go_simp
             with_reducible rfl
            rotate_left
            ·simp only [Act.put,zL,zM,zN,i64_w,i32_w]
             rfl
            refine pure_ (i:=4) (N:=some 93) (v:=?_) (a' := ?_) #[true,true,true,true,true,false,false,false,false,false,false,false] rfl rfl (by kernel_rfl) (fun _ _ _ h=>h) (Or.inl ⟨by rfl,?_⟩) ?_ ?_
            rotate_left
            ·intro w'
             go_simp
             with_reducible rfl
            rotate_left
            ·simp only [Act.put,zL,zM,zN,i64_w,i32_w]
             rfl
            refine take_ (i:=5) (N:=some 94) (v:=?_) (a' := ?_) #[true,true,true,true,true,true,false,false,false,false,false,false] rfl rfl (by kernel_rfl) (fun _ _ _ h=>h) (Or.inl ⟨by rfl,?_⟩) hHeld ?_ ?_
            rotate_left
            ·rintro w' ⟨s0,s1,s2⟩
             go_simp
             with_reducible rfl
            rotate_left
            ·simp only [Act.put,zL,zM,zN,i64_w,i32_w]
             rfl
            refine one_ (i:=6) (N:=some 95) #[true,true,true,true,true,true,true,false,false,false,false,false] rfl rfl (by kernel_rfl) (by decide) (fun K hK=>?_)
            refine goes_ Tryz.func12 (by kernel_rfl) rfl #[.agg #[.int .i64 n0,.slice AD D.length cD],.int .i64 a1,.int .i64 (rd st i)] (by rfl) rfl rfl (by simp only [List.map_toArray,List.map_cons,List.map_nil];rfl) ?_
            with_reducible refine (impl_CountByFirst.calls k1 n0 _ _ D a1 (rd st i) _ _ _ ?side1 ?side2 ?side3 B1.out).mono ?_
            case side1=>exact (kB HX.out.2.1).2.2
            case side2=>exact (kB HX.out.2.1).2.1
            case side3=>exact TabW.below HT.out HX.out.2.2.2.2.2
            rintro e wy ⟨rfl,hb⟩
            refine ⟨_,rfl,?_⟩
            replace HX:=zA (hcR_below HX.out hb)
            replace HS:=zA (kL HS.out hb)
            replace hcS2:=below_cell0 hcS2 hb
            refine hK.out _ _ ⟨(zB3 HX.out.1).1,(zB3 HX.out.1).2.1,hcS2⟩ (fun hHeld=>?_)
            clear hK K hb
            refine norm_ (a' := ?_) ?_ ?_
            rotate_left
            ·show Act.put _ (some 95) _ = _
             simp only [Act.put,zL,zM,zN,i64_w,i32_w]
             rfl
            refine pure_ (i:=7) (N:=some 88) (v:=?_) (a' := ?_) #[true,true,true,true,true,true,true,true,false,false,false,false] rfl rfl (by kernel_rfl) (fun _ _ _ h=>h) (Or.inl ⟨by rfl,?_⟩) ?_ ?_
            rotate_left
            ·intro w'
             go_simp
             with_reducible rfl
            rotate_left
            ·simp only [Act.put,zL,zM,zN,i64_w,i32_w]
             rfl
            refine pure_ (i:=8) (N:=some 96) (v:=?_) (a' := ?_) #[true,true,true,true,true,true,true,true,true,false,false,false] rfl rfl (by kernel_rfl) (fun _ _ _ h=>h) (Or.inl ⟨by rfl,?_⟩) ?_ ?_
            rotate_left
            ·intro w'
             go_simp
             with_reducible rfl
            rotate_left
            ·simp only [Act.put,zL,zM,zN,i64_w,i32_w]
             rfl
            refine pure_ (i:=9) (N:=some 97) (v:=?_) (a' := ?_) #[true,true,true,true,true,true,true,true,true,true,false,false] rfl rfl (by kernel_rfl) (fun _ _ _ h=>h) (Or.inl ⟨by rfl,?_⟩) ?_ ?_
            rotate_left
            ·intro w'
             go_simp
             with_reducible rfl
            rotate_left
            ·simp only [Act.put,zL,zM,zN,i64_w,i32_w]
             rfl
            refine pure_ (i:=10) (N:=some 15) (v:=?_) (a' := ?_) #[true,true,true,true,true,true,true,true,true,true,true,false] rfl rfl (by kernel_rfl) (fun _ _ _ h=>h) (Or.inl ⟨by rfl,?_⟩) ?_ ?_
            rotate_left
            ·intro w'
             go_simp
             with_reducible rfl
            rotate_left
            ·simp only [Act.put,zL,zM,zN,i64_w,i32_w]
             rfl
            refine pure_ (i:=11) (N:=some 16) (v:=?_) (a' := ?_) #[true,true,true,true,true,true,true,true,true,true,true,true] rfl rfl (by kernel_rfl) (fun _ _ _ h=>h) (Or.inl ⟨by rfl,?_⟩) ?_ ?_
            rotate_left
            ·intro w'
             go_simp
             with_reducible rfl
            rotate_left
            ·simp only [Act.put,zL,zM,zN,i64_w,i32_w]
             rfl
            refine done_ (by kernel_rfl) ?_
            clear hcS2 hHeld
            go_wp2
            go_roundg k1
            case measure=>have:=HK.out;omega
            case rel=>exact ⟨_,wrap64 (i + 1),rfl,rfl,HN,⟨by have:=HK.out;omega⟩,HX,HS⟩
           rw [if_neg q7] at H
           cases H
          rw [if_neg q6] at H
          cases H
         rw [if_neg q5] at H
         have q5b:decide (i < (st.length:Int)) = false:=decide_eq_false q5
         obtain rfl:=Option.some.inj H
         clear H HK
         have H:=HH.out
         clear HH
         by_cases d1:pa = s
         ·rw [if_pos d1] at H
          have HZ:=zA H
          clear H
          subst d1
          obtain ⟨⟨L,x6⟩,B2,H⟩:=zb HZ.out
          clear HZ
          dsimp only at H
          have hgl:=kH HX.out.2.2.1 g rfl
          obtain ⟨hcz0,hcz1,hfz0,hfz1⟩:=zB3 HX.out.1
          by_cases d2:x6 = 0
          ·rw [if_pos d2] at H
           subst d2
           obtain ⟨R2,B3,H⟩:=zb H
           have HH:=zA H
           clear H
           go_wp2_with (first | (go_at_call 13;(with_reducible refine (impl_TracesOfLength.calls k n0 _ _ D a1 _ _ _ ?side1 ?side2 ?side3 B2.out).mono ?_);(case side1=>exact (kB (HX.out.2.1)).2.2);(case side2=>exact (kB (HX.out.2.1)).2.1);(case side3=>exact TabW.below HT.out (HX.out.2.2.2.2.2));rintro e w13 ⟨v5,rfl,ho0,hb⟩;obtain ⟨AL,cL,e5⟩:=Kd.S_slice ho0;subst e5;have HL13:=zA (Kd.S_mono (Kd.S_bound ho0) (ok' := fun k=>k ≠ g) (fun k hk=>by have:=hk.2.1;omega));have HX13:=zA (hcR_below HX.out hb);clear hb ho0))
           go_loopg [19] k (fun gg v19 wr=>∃ (R:List Int) (i:Int),v19 = .int .i64 i ∧ Aside0 (laws_FnHeightCounts.l1 gg n0 D a1 L R i = some R2) ∧ Aside0 (gg ≤ k) ∧ Aside0 (HcR w gb n0 AD cD D g R1.length cR R wr) ∧ ∃ bs:Nat,Aside0 (Kd.S (Kd.slice 2 (Kd.int .i64)) 24 wr bs (fun k=>k ≠ g) (.slice AL L.length cL) L))
           case atStart=>exact ⟨_,0,rfl,B3,⟨Nat.le_refl _⟩,HX13,_,HL13⟩
           case round =>
            clear B3 HX13 HL13 hcz0 hcz1 hfz0 hfz1 hgl HX HS
            obtain ⟨R,i,rfl,HA,HK,HX,bs,HL⟩:=hrel
            cases gk with
            | zero=>exact absurd HA.out (by simp [laws_FnHeightCounts.l1])
            | succ k1 =>
             have H:=HA.out
             clear HA
             simp only [laws_FnHeightCounts.l1] at H
             by_cases d3:i < (L.length:Int) ∧ i < 300
             ·rw [if_pos d3] at H
              have d3b:decide (i < (L.length:Int)) = true:=decide_eq_true d3.1
              have d3c:decide (i < 300) = true:=decide_eq_true d3.2
              by_cases d4:0 ≤ i
              ·rw [if_pos d4] at H
               obtain ⟨⟨hh,x7⟩,B4,H⟩:=zb H
               dsimp only at H
               by_cases d5:x7 = 0 ∧ 0 ≤ hh ∧ hh ≤ a1 ∧ hh < (R.length:Int) ∧ ¬ rd R hh = 0
               ·rw [if_pos d5] at H
                obtain ⟨rfl,e1,e2,e3,e4⟩:=d5
                have HE1:=zA e1
                have HE3:=zA (show hh < (R1.length:Int) by rw [(hcR_len HX.out).1];exact e3)
                have e1b:decide (hh < 0) = false:=decide_eq_false (by omega)
                have e2b:decide (a1 < hh) = false:=decide_eq_false (by omega)
                obtain ⟨e4b,e4c⟩:=zT2 e4
                have p1:=eq_true e1
                have p2:=eq_true HE3.out
                have p3:=eq_true d4
                have p4:=eq_true d3.1
                obtain ⟨gL,AE,cE,eL,hcL,ok2,hRE⟩:=row_ofL HL.out i d4 d3.1
                subst eL
                clear e1 e2 e3 e4 d3
                generalize L.getD i.toNat [] = E at B4 hcL hRE
                have HRE:=zA hRE
                clear hRE
                by_cases d6:(L.length:Int) ≤ 300
                ·rw [if_pos d6] at H
                 have d6b:decide ((L.length:Int) ≤ 300) = true:=decide_eq_true d6
                 have HN:=zA H
                 clear H
                 go_wp2
                 replace HX:=zA (hcR_below HX.out (zD (kW wr.heap.size wr)))
                 replace HL:=zA (Kd.S_below HL.out (zD (kW wr.heap.size wr)))
                 replace HRE:=zA (kL HRE.out (zD (kW wr.heap.size wr)))
                 have hcL2:=below_cell0 hcL (zD (kW wr.heap.size wr))
                 refine start_ (n:=11) (S:=fun w' => w'.cell? ⟨gb,0,none⟩ = some (.int .i64 n0) ∧ w'.cell? ⟨gb,1,none⟩ = some (.slice AD D.length cD) ∧ w'.cell? ⟨gL,i.toNat,none⟩ = some (.slice AE E.length cE)) (ds:=[]) #[false,false,false,false,false,false,false,false,false,false,false] (by kernel_rfl) rfl rfl ⟨(zB3 HX.out.1).1,(zB3 HX.out.1).2.1,hcL2⟩ (fun hHeld=>?_)
                 clear hcL
                 generalize wr.drew = wz at HX HL HRE hcL2 hHeld ⊢
                 refine take_ (i:=0) (N:=some 127) (v:=?_) (a' := ?_) #[true,false,false,false,false,false,false,false,false,false,false] rfl rfl (by kernel_rfl) (fun _ _ _ h=>h) (Or.inl ⟨by rfl,?_⟩) hHeld ?_ ?_
                 rotate_left
                 ·rintro w' ⟨s0,s1,s2⟩
                  go_simp
                  with_reducible rfl
                 rotate_left
                 ·simp only [Act.put,zL,zM,zN,i64_w,i32_w]
                  rfl
                 refine pure_ (i:=1) (N:=some 128) (v:=?_) (a' := ?_) #[true,true,false,false,false,false,false,false,false,false,false] rfl rfl (by kernel_rfl) (fun _ _ _ h=>h) (Or.inl ⟨by rfl,?_⟩) ?_ ?_
                 rotate_left
                 ·intro w'
                  go_simp
                  with_reducible rfl
                 rotate_left
                 ·simp only [Act.put,zL,zM,zN,i64_w,i32_w]
                  rfl
                 refine pure_ (i:=2) (N:=some 129) (v:=?_) (a' := ?_) #[true,true,true,false,false,false,false,false,false,false,false] rfl rfl (by kernel_rfl) (fun _ _ _ h=>h) (Or.inl ⟨by rfl,?_⟩) ?_ ?_
                 rotate_left
                 ·intro w'
                  go_simp
                  with_reducible rfl
                 rotate_left
                 ·simp only [Act.put,zL,zM,zN,i64_w,i32_w]
                  rfl
                 refine pure_ (i:=3) (N:=some 130) (v:=?_) (a' := ?_) #[true,true,true,true,false,false,false,false,false,false,false] rfl rfl (by kernel_rfl) (fun _ _ _ h=>h) (Or.inl ⟨by rfl,?_⟩) ?_ ?_
                 rotate_left
                 ·intro w'
                  go_simp
                  with_reducible rfl
                 rotate_left
                 ·simp only [Act.put,zL,zM,zN,i64_w,i32_w]
                  rfl
                 refine take_ (i:=4) (N:=some 131) (v:=?_) (a' := ?_) #[true,true,true,true,true,false,false,false,false,false,false] rfl rfl (by kernel_rfl) (fun _ _ _ h=>h) (Or.inl ⟨by rfl,?_⟩) hHeld ?_ ?_
                 rotate_left
                 ·rintro w' ⟨s0,s1,s2⟩
                  go_simp
                  with_reducible rfl
                 rotate_left
                 ·simp only [Act.put,zL,zM,zN,i64_w,i32_w]
                  rfl
                 refine one_ (i:=5) (N:=some 132) #[true,true,true,true,true,true,false,false,false,false,false] rfl rfl (by kernel_rfl) (by decide) (fun K hK=>?_)
                 refine goes_ Tryz.func14 (by kernel_rfl) rfl #[.agg #[.int .i64 n0,.slice AD D.length cD],.slice AE E.length cE] (by rfl) rfl rfl (by simp only [List.map_toArray,List.map_cons,List.map_nil];rfl) ?_
                 with_reducible refine (impl_HeightOf.calls k1 n0 (fun k=>k ≠ gb ∧ k ≠ g) _ _ D ok2 _ _ E hh 0 _ ?side1 ?side2 ?side3 B4.out).mono ?_
                 case side1=>exact jL HX.out.2.1
                 case side2=>exact jL HRE.out
                 case side3=>exact TabW.below HT.out HX.out.2.2.2.2.2
                 rintro e wy ⟨rfl,hb⟩
                 refine ⟨_,rfl,?_⟩
                 replace HX:=zA (hcR_below HX.out hb)
                 replace HL:=zA (Kd.S_below HL.out hb)
                 replace hcL2:=below_cell0 hcL2 hb
                 refine hK.out _ _ ⟨(zB3 HX.out.1).1,(zB3 HX.out.1).2.1,hcL2⟩ (fun hHeld=>?_)
                 clear hK K hb HRE
                 refine norm_ (a' := ?_) ?_ ?_
                 rotate_left
                 ·show Act.put _ (some 132) _ = _
                  simp only [Act.put,zL,zM,zN,i64_w,i32_w]
                  rfl
                 refine pure_ (i:=6) (N:=some 126) (v:=?_) (a' := ?_) #[true,true,true,true,true,true,true,false,false,false,false] rfl rfl (by kernel_rfl) (fun _ _ _ h=>h) (Or.inl ⟨by rfl,?_⟩) ?_ ?_
                 rotate_left
                 ·intro w'
                  go_simp
                  with_reducible rfl
                 rotate_left
                 ·simp only [Act.put,zL,zM,zN,i64_w,i32_w]
                  rfl
                 refine pure_ (i:=7) (N:=some 133) (v:=?_) (a' := ?_) #[true,true,true,true,true,true,true,true,false,false,false] rfl rfl (by kernel_rfl) (fun _ _ _ h=>h) (Or.inl ⟨by rfl,?_⟩) ?_ ?_
                 rotate_left
                 ·intro w'
                  go_simp
                  with_reducible rfl
                 rotate_left
                 ·simp only [Act.put,zL,zM,zN,i64_w,i32_w]
                  rfl
                 refine pure_ (i:=8) (N:=some 134) (v:=?_) (a' := ?_) #[true,true,true,true,true,true,true,true,true,false,false] rfl rfl (by kernel_rfl) (fun _ _ _ h=>h) (Or.inl ⟨by rfl,?_⟩) ?_ ?_
                 rotate_left
                 ·intro w'
                  go_simp
                  with_reducible rfl
                 rotate_left
                 ·simp only [Act.put,zL,zM,zN,i64_w,i32_w]
                  rfl
                 refine pure_ (i:=9) (N:=some 20) (v:=?_) (a' := ?_) #[true,true,true,true,true,true,true,true,true,true,false] rfl rfl (by kernel_rfl) (fun _ _ _ h=>h) (Or.inl ⟨by rfl,?_⟩) ?_ ?_
                 rotate_left
                 ·intro w'
                  go_simp
                  with_reducible rfl
                 rotate_left
                 ·simp only [Act.put,zL,zM,zN,i64_w,i32_w]
                  rfl
                 refine pure_ (i:=10) (N:=some 21) (v:=?_) (a' := ?_) #[true,true,true,true,true,true,true,true,true,true,true] rfl rfl (by kernel_rfl) (fun _ _ _ h=>h) (Or.inl ⟨by rfl,?_⟩) ?_ ?_
                 rotate_left
                 ·intro w'
                  go_simp
                  with_reducible rfl
                 rotate_left
                 ·simp only [Act.put,zL,zM,zN,i64_w,i32_w]
                  rfl
                 refine done_ (by kernel_rfl) ?_
                 clear hcL2 hHeld
                 obtain ⟨hcO,hfO⟩:=hcR_cell HX.out HE1.out HE3.out
                 go_wp2
                 go_roundg k1
                 case measure=>have:=HK.out;omega
                 case rel=>exact ⟨_,wrap64 (i + 1),rfl,HN,⟨by have:=HK.out;omega⟩,⟨hcR_set HX.out hh _⟩,bs,⟨Kd.S_far HL.out (fun k hk=>hk) _⟩⟩
                rw [if_neg d6] at H
                have d6b:decide ((L.length:Int) ≤ 300) = false:=decide_eq_false d6
                have HN:=zA H
                clear H
                go_wp2
                replace HX:=zA (hcR_below HX.out (zD (kW wr.heap.size wr)))
                replace HL:=zA (Kd.S_below HL.out (zD (kW wr.heap.size wr)))
                replace HRE:=zA (kL HRE.out (zD (kW wr.heap.size wr)))
                have hcL2:=below_cell0 hcL (zD (kW wr.heap.size wr))
                refine start_ (n:=11) (S:=fun w' => w'.cell? ⟨gb,0,none⟩ = some (.int .i64 n0) ∧ w'.cell? ⟨gb,1,none⟩ = some (.slice AD D.length cD) ∧ w'.cell? ⟨gL,i.toNat,none⟩ = some (.slice AE E.length cE)) (ds:=[]) #[false,false,false,false,false,false,false,false,false,false,false] (by kernel_rfl) rfl rfl ⟨(zB3 HX.out.1).1,(zB3 HX.out.1).2.1,hcL2⟩ (fun hHeld=>?_)
                clear hcL
                generalize wr.drew = wz at HX HL HRE hcL2 hHeld ⊢
                refine take_ (i:=0) (N:=some 127) (v:=?_) (a' := ?_) #[true,false,false,false,false,false,false,false,false,false,false] rfl rfl (by kernel_rfl) (fun _ _ _ h=>h) (Or.inl ⟨by rfl,?_⟩) hHeld ?_ ?_
                rotate_left
                ·rintro w' ⟨s0,s1,s2⟩
                 go_simp
                 with_reducible rfl
                rotate_left
                ·simp only [Act.put,zL,zM,zN,i64_w,i32_w]
                 rfl
                refine pure_ (i:=1) (N:=some 128) (v:=?_) (a' := ?_) #[true,true,false,false,false,false,false,false,false,false,false] rfl rfl (by kernel_rfl) (fun _ _ _ h=>h) (Or.inl ⟨by rfl,?_⟩) ?_ ?_
                rotate_left
                ·intro w'
                 go_simp
                 with_reducible rfl
                rotate_left
                ·simp only [Act.put,zL,zM,zN,i64_w,i32_w]
                 rfl
                refine pure_ (i:=2) (N:=some 129) (v:=?_) (a' := ?_) #[true,true,true,false,false,false,false,false,false,false,false] rfl rfl (by kernel_rfl) (fun _ _ _ h=>h) (Or.inl ⟨by rfl,?_⟩) ?_ ?_
                rotate_left
                ·intro w'
                 go_simp
                 with_reducible rfl
                rotate_left
                ·simp only [Act.put,zL,zM,zN,i64_w,i32_w]
                 rfl
                refine pure_ (i:=3) (N:=some 130) (v:=?_) (a' := ?_) #[true,true,true,true,false,false,false,false,false,false,false] rfl rfl (by kernel_rfl) (fun _ _ _ h=>h) (Or.inl ⟨by rfl,?_⟩) ?_ ?_
                rotate_left
                ·intro w'
                 go_simp
                 with_reducible rfl
                rotate_left
                ·simp only [Act.put,zL,zM,zN,i64_w,i32_w]
                 rfl
                refine take_ (i:=4) (N:=some 131) (v:=?_) (a' := ?_) #[true,true,true,true,true,false,false,false,false,false,false] rfl rfl (by kernel_rfl) (fun _ _ _ h=>h) (Or.inl ⟨by rfl,?_⟩) hHeld ?_ ?_
                rotate_left
                ·rintro w' ⟨s0,s1,s2⟩
                 go_simp
                 with_reducible rfl
                rotate_left
                ·simp only [Act.put,zL,zM,zN,i64_w,i32_w]
                 rfl
                refine one_ (i:=5) (N:=some 132) #[true,true,true,true,true,true,false,false,false,false,false] rfl rfl (by kernel_rfl) (by decide) (fun K hK=>?_)
                refine goes_ Tryz.func14 (by kernel_rfl) rfl #[.agg #[.int .i64 n0,.slice AD D.length cD],.slice AE E.length cE] (by rfl) rfl rfl (by simp only [List.map_toArray,List.map_cons,List.map_nil];rfl) ?_
                with_reducible refine (impl_HeightOf.calls k1 n0 (fun k=>k ≠ gb ∧ k ≠ g) _ _ D ok2 _ _ E hh 0 _ ?side1 ?side2 ?side3 B4.out).mono ?_
                case side1=>exact jL HX.out.2.1
                case side2=>exact jL HRE.out
                case side3=>exact TabW.below HT.out HX.out.2.2.2.2.2
                rintro e wy ⟨rfl,hb⟩
                refine ⟨_,rfl,?_⟩
                replace HX:=zA (hcR_below HX.out hb)
                replace HL:=zA (Kd.S_below HL.out hb)
                replace hcL2:=below_cell0 hcL2 hb
                refine hK.out _ _ ⟨(zB3 HX.out.1).1,(zB3 HX.out.1).2.1,hcL2⟩ (fun hHeld=>?_)
                clear hK K hb HRE
                refine norm_ (a' := ?_) ?_ ?_
                rotate_left
                ·show Act.put _ (some 132) _ = _
                 simp only [Act.put,zL,zM,zN,i64_w,i32_w]
                 rfl
                refine pure_ (i:=6) (N:=some 126) (v:=?_) (a' := ?_) #[true,true,true,true,true,true,true,false,false,false,false] rfl rfl (by kernel_rfl) (fun _ _ _ h=>h) (Or.inl ⟨by rfl,?_⟩) ?_ ?_
                rotate_left
                ·intro w'
                 go_simp
                 with_reducible rfl
                rotate_left
                ·simp only [Act.put,zL,zM,zN,i64_w,i32_w]
                 rfl
                refine pure_ (i:=7) (N:=some 133) (v:=?_) (a' := ?_) #[true,true,true,true,true,true,true,true,false,false,false] rfl rfl (by kernel_rfl) (fun _ _ _ h=>h) (Or.inl ⟨by rfl,?_⟩) ?_ ?_
                rotate_left
                ·intro w'
                 go_simp
                 with_reducible rfl
                rotate_left
                ·simp only [Act.put,zL,zM,zN,i64_w,i32_w]
                 rfl
                refine pure_ (i:=8) (N:=some 134) (v:=?_) (a' := ?_) #[true,true,true,true,true,true,true,true,true,false,false] rfl rfl (by kernel_rfl) (fun _ _ _ h=>h) (Or.inl ⟨by rfl,?_⟩) ?_ ?_
                rotate_left
                ·intro w'
                 go_simp
                 with_reducible rfl
                rotate_left
                ·simp only [Act.put,zL,zM,zN,i64_w,i32_w]
                 rfl
                refine pure_ (i:=9) (N:=some 20) (v:=?_) (a' := ?_) #[true,true,true,true,true,true,true,true,true,true,false] rfl rfl (by kernel_rfl) (fun _ _ _ h=>h) (Or.inl ⟨by rfl,?_⟩) ?_ ?_
                rotate_left
                ·intro w'
                 go_simp
                 with_reducible rfl
                rotate_left
                ·simp only [Act.put,zL,zM,zN,i64_w,i32_w]
                 rfl
                refine pure_ (i:=10) (N:=some 21) (v:=?_) (a' := ?_) #[true,true,true,true,true,true,true,true,true,true,true] rfl rfl (by kernel_rfl) (fun _ _ _ h=>h) (Or.inl ⟨by rfl,?_⟩) ?_ ?_
                rotate_left
                ·intro w'
                 go_simp
                 with_reducible rfl
                rotate_left
                ·simp only [Act.put,zL,zM,zN,i64_w,i32_w]
                 rfl
                refine done_ (by kernel_rfl) ?_
                clear hcL2 hHeld
                obtain ⟨hcO,hfO⟩:=hcR_cell HX.out HE1.out HE3.out
                go_wp2
                go_roundg k1
                case measure=>have:=HK.out;omega
                case rel=>exact ⟨_,wrap64 (i + 1),rfl,HN,⟨by have:=HK.out;omega⟩,HX,bs,HL⟩
               rw [if_neg d5] at H
               cases H
              rw [if_neg d4] at H
              cases H
             rw [if_neg d3] at H
             obtain rfl:=Option.some.inj H
             clear H
             have H:=HH.out
             clear HH
             by_cases d7:i < (L.length:Int)
             ·have d7b:decide (i < (L.length:Int)) = true:=decide_eq_true d7
              have d7c:decide (i < 300) = false:=decide_eq_false (fun z=>d3 ⟨d7,z⟩)
              by_cases d8:(L.length:Int) > 300
              ·rw [if_pos d8] at H
               have d8b:decide (300 < (L.length:Int)) = true:=decide_eq_true d8
               obtain rfl:=Option.some.inj H
               go_wp2
               go_ret
               exact ⟨zr,HX.out.2.2.2.2.2⟩
              rw [if_neg d8] at H
              have d8b:decide (300 < (L.length:Int)) = false:=decide_eq_false d8
              obtain ⟨s2,B5,H⟩:=zb H
              by_cases d9:s2 = 0
              ·rw [if_pos d9] at H
               subst d9
               obtain rfl:=Option.some.inj H
               go_wp2_with (first | (go_at_call 11;(with_reducible refine (sum_callsN k _ _ _ R _ _ (hcR_len HX.out).1 ?side1 ?side2 B5.out).mono ?_);(case side1=>exact (hcR_len HX.out).1 ▸ (kB HX.out.2.2.1).2.2);(case side2=>exact (hcR_len HX.out).1 ▸ (hcR_len HX.out).2);rintro e w14 ⟨rfl,hd⟩;have HB14:=zA (below_trans0 HX.out.2.2.2.2.2 (below_drawn0 hd));clear hd))
               go_ret
               exact ⟨zr,HB14.out⟩
              rw [if_neg d9] at H
              cases H
             have d7b:decide (i < (L.length:Int)) = false:=decide_eq_false d7
             by_cases d8:(L.length:Int) > 300
             ·rw [if_pos d8] at H
              have d8b:decide (300 < (L.length:Int)) = true:=decide_eq_true d8
              obtain rfl:=Option.some.inj H
              go_wp2
              go_ret
              exact ⟨zr,HX.out.2.2.2.2.2⟩
             rw [if_neg d8] at H
             have d8b:decide (300 < (L.length:Int)) = false:=decide_eq_false d8
             obtain ⟨s2,B5,H⟩:=zb H
             by_cases d9:s2 = 0
             ·rw [if_pos d9] at H
              subst d9
              obtain rfl:=Option.some.inj H
              go_wp2_with (first | (go_at_call 11;(with_reducible refine (sum_callsN k _ _ _ R _ _ (hcR_len HX.out).1 ?side1 ?side2 B5.out).mono ?_);(case side1=>exact (hcR_len HX.out).1 ▸ (kB HX.out.2.2.1).2.2);(case side2=>exact (hcR_len HX.out).1 ▸ (hcR_len HX.out).2);rintro e w14 ⟨rfl,hd⟩;have HB14:=zA (below_trans0 HX.out.2.2.2.2.2 (below_drawn0 hd));clear hd))
              go_ret
              exact ⟨zr,HB14.out⟩
             rw [if_neg d9] at H
             cases H
          rw [if_neg d2] at H
          by_cases d10:x6 = 3
          ·rw [if_pos d10] at H
           subst d10
           obtain rfl:=Option.some.inj H
           go_wp2_with (first | (go_at_call 13;(with_reducible refine (impl_TracesOfLength.calls k n0 _ _ D a1 _ _ _ ?side1 ?side2 ?side3 B2.out).mono ?_);(case side1=>exact (kB (HX.out.2.1)).2.2);(case side2=>exact (kB (HX.out.2.1)).2.1);(case side3=>exact TabW.below HT.out (HX.out.2.2.2.2.2));rintro e w13 ⟨v5,rfl,ho0,hb⟩;obtain ⟨AL,cL,e5⟩:=Kd.S_slice ho0;subst e5;have HL13:=zA (Kd.S_mono (Kd.S_bound ho0) (ok' := fun k=>k ≠ g) (fun k hk=>by have:=hk.2.1;omega));have HX13:=zA (hcR_below HX.out hb);clear hb ho0))
           go_ret
           exact ⟨zr,HX13.out.2.2.2.2.2⟩
          rw [if_neg d10] at H
          cases H
         rw [if_neg d1] at H
         cases H
      rw [if_neg c7] at H
      exact absurd H (by simp)
     rw [if_neg c6] at H
     exact absurd H (by simp)
    rw [if_neg c5] at H
    exact absurd H (by simp)
   rw [if_neg c4] at H
   obtain rfl:=Option.some.inj H
   obtain ⟨y1,y2⟩:=zT2 c4
   clear c4
   go_enter Tryz.func3,Tryz.ntmps3
   go_wp2_with (first | (go_at_call 4;(with_reducible refine (laws_big.calls _ _ l0 false _ ?side1 ?side2 A1.out).mono ?_);(case side1=>exact HR.out);(case side2=>exact HC.out);rintro e w2 ⟨rfl,hd⟩;have HB:=zA (below_drawn0 hd);clear hd) | (go_at_call 5;(with_reducible refine (spec_DrawCountByHeight.calls k _ _ l0 n0 D a1 _ ?side1 ?side2 A2.out).mono ?_);(case side1=>exact kO HR.out HB.out);(case side2=>exact HC.out);rintro e w4 ⟨v1,rfl,ho0,hb⟩;obtain ⟨AD,cD,e1⟩:=kM ho0;subst e1;have HDR:=zA (kI ho0 HB.out.size);replace HB:=zA (below_trans0 HB.out hb);clear hb ho0) | (refine zBE 3 #[.int .i64 0,.slice none 0 0] 26 ?_;intro gb hg w5 hbox hb;have HX:=zA (hcD_box (n0:=n0) HB.out HDR.out hg hbox hb);clear hg hb;obtain ⟨hcz0,hcz1,hfz0,hfz1⟩:=zB3 hbox;clear hbox) | ((with_reducible refine gate_store (t:=26) (p:=3) rfl ?_);refine store_event (t:=26) (p:=3) (v:=?vo) (w1:=((w5.setCell ⟨gb,0,none⟩ (.int .i64 n0)).setCell ⟨gb,1,none⟩ (.slice AD D.length cD))) ?hg ?ho ?hn ?hr ?_;(case ho=>rfl);(case hg=>rfl);(case hn=>rfl);(case hr=>first | (go_simp;done) | (go_simp;rfl));intro w6 hw;clear hcz0 hcz1 hfz0 hfz1;rw [← hw] at HX;clear hw;obtain ⟨hca0,hca1,hfa0,hfa1⟩:=zB3 HX.out.1) | (go_at_call 6;(with_reducible refine (impl_CountByHeight.calls k n0 _ _ D a1 _ _ _ ?side1 ?side2 ?side3 A3.out).mono ?_);(case side1=>exact (kB (HX.out.2.1)).2.2);(case side2=>exact (kB (HX.out.2.1)).2.1);(case side3=>exact TabW.below HT.out (HX.out.2.2.2));rintro e w7 ⟨v2,rfl,ho0,hb⟩;obtain ⟨AR,cR,e2⟩:=kM ho0;subst e2;have HRR:=zA ho0;have HX7:=zA (hcD_below HX.out hb);clear hb ho0;obtain ⟨hcb0,hcb1,hfb0,hfb1⟩:=zB3 HX7.out.1) | (go_at_call 7;(with_reducible refine (spec_CountByHeight.calls k n0 _ _ D a1 _ _ _ ?side1 ?side2 A4.out).mono ?_);(case side1=>exact (kB HX7.out.2.1).2.2);(case side2=>exact (kB HX7.out.2.1).2.1);rintro e w8 ⟨v3,rfl,ho0,hb⟩;obtain ⟨AW,cW,e3⟩:=kM ho0;subst e3;have HRW:=zA ho0;have HRR8:=zA (kL HRR.out hb);have HX8:=zA (hcD_below HX7.out hb);clear hb ho0;obtain ⟨hcc0,hcc1,hfc0,hfc1⟩:=zB3 HX8.out.1) | (go_at_call 8;(with_reducible refine (laws_likeInts.calls k _ _ R1 _ _ W1 true _ ?side1 ?side2 ?side3 ?side4 A5.out).mono ?_);(case side1=>exact (kB HRR8.out).2.2);(case side2=>exact (kB HRR8.out).2.1);(case side3=>exact (kB HRW.out).2.2);(case side4=>exact (kB HRW.out).2.1);rintro e w9 ⟨rfl,hd⟩;have HB9:=zA (below_trans0 HX8.out.2.2.2 (below_drawn0 hd));clear hd))
   go_ret
   exact ⟨zr,HB9.out⟩
  rw [if_neg c3] at H
  exact absurd H (by simp)
 rw [if_neg c2] at H
 exact absurd H (by simp)
end Go.Proofs.YtemdfjdmokbcoaaGreatDoor.PAll
