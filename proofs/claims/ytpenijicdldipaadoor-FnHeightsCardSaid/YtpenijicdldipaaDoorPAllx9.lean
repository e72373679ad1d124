import Derived.Test.YtpenijicdldipaaDoorPAllx0
import Derived.Test.YtpenijicdldipaaDoorPAllx2
import Derived.Test.YtpenijicdldipaaDoorPAllx3
namespace Go.Proofs.YtpenijicdldipaaDoor.PAll
open Go.RowKit Go.Proofs.YtpenijicdldipaaDoor.T Go.Proofs.YtpenijicdldipaaDoorW.PrintWords Go.Proofs.YtpenijicdldipaaDoorW.PrintLast Go.Proofs.YtpenijicdldipaaDoorW.PrintMore
attribute [local go_sem] max2_int min2_int max_two min_two max_three min_three max_four min_four   -- for this text's walks alone
set_option linter.unusedVariables false
set_option linter.unusedSimpArgs false
mutual
def impl_ties_foata.l0:Nat → List Int → List Int → List Int → Int → Int → Option (List Int)
 | 0,_,_,_,_,_=>none
 | k + 1,x0,x5,x10,x11,x12=>if x12 < x11 then (if 0 ≤ x12 then (if x12 < (x10.length:Int) then (impl_ties_foata.l1 k x0 x5 (rd x10 x12) (x5.length:Int) x10 x11 x12) else (none)) else (none)) else (some x5)
def impl_ties_foata.l1:Nat → List Int → List Int → Int → Int → List Int → Int → Int → Option (List Int)
 | 0,_,_,_,_,_,_,_=>none
 | k + 1,x0,x5,x7,x8,x10,x11,x12=>if x8 > 0 then (if 0 ≤ (wrap64 (x8 - 1)) then (if (wrap64 (x8 - 1)) < (x5.length:Int) then (if 0 ≤ x7 then (if x7 < (x0.length:Int) then (if (Go.bits .and .i64 (rd x5 (wrap64 (x8 - 1))) (rd x0 x7)) = 0 then (impl_ties_foata.l1 k x0 x5 x7 (wrap64 (x8 - 1)) x10 x11 x12) else (if x8 = (x5.length:Int) then (if x5.length < 17592186044416 then ((some (x5 ++ [0]:List Int)).bind fun y644=>(if 0 ≤ x8 then (if x8 < (y644.length:Int) then ((impl_one.f x7).bind fun t648=>(impl_ties_foata.l0 k x0 (y644.set (x8:Int).toNat (Go.bits .or .i64 (rd y644 x8) t648)) x10 x11 (wrap64 (x12 + 1)))) else (none)) else (none))) else (none)) else (if 0 ≤ x8 then (if x8 < (x5.length:Int) then ((impl_one.f x7).bind fun t651=>(impl_ties_foata.l0 k x0 (x5.set (x8:Int).toNat (Go.bits .or .i64 (rd x5 x8) t651)) x10 x11 (wrap64 (x12 + 1)))) else (none)) else (none)))) else (none)) else (none)) else (none)) else (none)) else (if x8 = (x5.length:Int) then (if x5.length < 17592186044416 then ((some (x5 ++ [0]:List Int)).bind fun y653=>(if 0 ≤ x8 then (if x8 < (y653.length:Int) then ((impl_one.f x7).bind fun t657=>(impl_ties_foata.l0 k x0 (y653.set (x8:Int).toNat (Go.bits .or .i64 (rd y653 x8) t657)) x10 x11 (wrap64 (x12 + 1)))) else (none)) else (none))) else (none)) else (if 0 ≤ x8 then (if x8 < (x5.length:Int) then ((impl_one.f x7).bind fun t660=>(impl_ties_foata.l0 k x0 (x5.set (x8:Int).toNat (Go.bits .or .i64 (rd x5 x8) t660)) x10 x11 (wrap64 (x12 + 1)))) else (none)) else (none)))
end
def impl_ties_foata.f (k:Nat) (l0:List Int) (l1:List Int):Option (List Int):=impl_ties_foata.l0 k l0 (([]:List Int)) l1 (l1.length:Int) 0
def impl_ties_foata.T6:Bool × List (List Nat × List Nat):=(true,[([],[]),([0],[0]),([1],[1]),([2],[2]),([2],[2]),([4,2],[2,4]),([3,5,2],[2,3,5]),([6,2],[2,6]),([2],[2]),([2],[2]),([8,9,2],[2,8,9]),([10,2],[2,10]),([7,11,2],[2,7,11]),([12,2],[2,12]),([2,13],[2,13])])
def impl_ties_foata.B6:List Nat:=[0,1,3,7,7,23,63,127,7,7,775,1799,4095,8191,16383]
theorem impl_ties_foata.tab6:rtab .any (opsOf Tryd.f39 6) = impl_ties_foata.T6:=by kernel_rfl
theorem impl_ties_foata.bits6:waitsOk impl_ties_foata.T6.2 impl_ties_foata.B6 = true:=by kernel_rfl
def impl_ties_foata.T10:Bool × List (List Nat × List Nat):=(true,[([],[]),([],[]),([0,1],[0,1]),([2],[2]),([],[]),([4],[4]),([3,5],[3,5]),([0,1,0,1,2,3,4,5,6],[0,1]),([7,6,5,0,1,2,3,4,5,6],[6,7])])
def impl_ties_foata.B10:List Nat:=[0,0,3,7,0,16,63,127,255]
theorem impl_ties_foata.tab10:rtab .any (opsOf Tryd.f39 10) = impl_ties_foata.T10:=by kernel_rfl
theorem impl_ties_foata.bits10:waitsOk impl_ties_foata.T10.2 impl_ties_foata.B10 = true:=by kernel_rfl
set_option maxHeartbeats 8000000 in
set_option maxRecDepth 100000 in
theorem impl_ties_foata.calls (k:Nat) (A0:Option Addr) (c0:Nat) (l0:List Int) (A1:Option Addr) (c1:Nat) (l1:List Int) (r:List Int) (w:World) (hr0:Kd.C (Kd.int .i64) w A0 l0.length l0) (hc0:l0.length ≤ c0) (hr1:Kd.C (Kd.int .i64) w A1 l1.length l1) (hc1:l1.length ≤ c1) (h:impl_ties_foata.f k l0 l1 = some r) :
  Calls Tryd.prog 39 #[.slice A0 l0.length c0,.slice A1 l1.length c1] w fun e w' => ∃ v0_:Value,e = .returned (v0_) ∧ Kd.R (Kd.int .i64) 2 w' w.heap.size (fun _=>True) v0_ r ∧ Below w.heap.size w w' := by
 have HR0:=zA hr0
 have HC0:=zA hc0
 clear hr0 hc0
 have HR1:=zA hr1
 have HC1:=zA hc1
 clear hr1 hc1
 have HB:=zA (kW w.heap.size w)
 have H:=h
 unfold impl_ties_foata.f at H
 clear h
 obtain ⟨y638,hy638⟩:∃ y_:List Int,y_ = (([]:List Int)):=⟨_,rfl⟩
 replace H:(impl_ties_foata.l0 k l0 y638 l1 (l1.length:Int) 0) = some r:=zy hy638 H
 have Ny638:=zA hy638
 clear hy638
 have H' := zA H
 clear H
 go_enter Tryd.func39,Tryd.ntmps39
 go_wp2_with (first | ((with_reducible refine kS (N:=9) rfl ?_);refine Kd.R_lit (Kd.int .i64) _ 2 ?hg (N:=9) ?hd (xs:=([]:List Int)) (inner:=[]) (ok:=fun _=>True) (okp:=fun _=>True) ?hr ?hp (fun _ hk=>hk) trivial (kW _ _) (Nat.le_refl _) (by simp) ?_;(case hd=>rfl);(case hg=>rfl);(case hr=>first | (go_simp;done) | (go_simp;rfl));(case hp=>exact (Reps.none _ _));intro v639 w3 ho4 hb hg_ hnew_;clear hg_ hnew_;(first | rw [← Ny638.out] at ho4 | (simp only [Int.reduceToNat] at ho4;rw [← Ny638.out] at ho4));have HO640:=zA (kI ho4 (kP (zQ HB.out)));replace HB:=zA (kQ (zQ HB.out) hb);clear hb ho4))
 go_loopg [5,12] k (fun kq v5 v12 w' => ∃ (x5_1:List Int) (x12_1:Int),v12 = .int .i64 x12_1 ∧ Aside0 (impl_ties_foata.l0 kq l0 x5_1 l1 (l1.length:Int) x12_1 = some r) ∧ Aside0 (kq ≤ k) ∧ Aside0 (Kd.R (Kd.int .i64) 2 w' w.heap.size (fun _=>True) v5 x5_1) ∧ Aside0 (Below w.heap.size w w'))
 case atStart=>exact ⟨(y638),(0),zs,H', ⟨Nat.le_refl _⟩,⟨zP HO640.out⟩,⟨zQ HB.out⟩⟩
 case round =>
  clear H'
  try clear c1
  try clear c3
  obtain ⟨x5_1,x12_1,rfl,HA,HK1,HO_5,HB⟩:=hrel
  cases gk with
  | zero=>exact absurd HA.out (by simp [impl_ties_foata.l0])
  | succ k1 =>
   have H:=HA.out
   clear HA
   simp only [impl_ties_foata.l0] at H
   by_cases c5:x12_1 < (l1.length:Int)
   ·rw [if_pos c5] at H
    have c5b0:decide (x12_1 < (l1.length:Int)) = true:=decide_eq_true c5
    clear c5
    by_cases c6:0 ≤ x12_1
    ·rw [if_pos c6] at H
     have c6b0:decide (0 ≤ x12_1) = true:=decide_eq_true c6
     clear c6
     by_cases c7:x12_1 < (l1.length:Int)
     ·rw [if_pos c7] at H
      have c7b0:decide (x12_1 < (l1.length:Int)) = true:=decide_eq_true c7
      clear c7
      have H' := zA H
      clear H
      have p641:0 ≤ (x12_1:Int):=zd
      have q641:x12_1 < (l1.length:Int):=zd
      obtain ⟨ad641,e641,hx641_0⟩:=Kd.at_int HR1.out x12_1 p641 q641
      cases e641
      replace hx641_0:=(HB.out.cell (jG w _ hx641_0)).trans hx641_0
      replace p641:=eq_true p641
      replace q641:=eq_true q641
      obtain ⟨Ao8,co8,eo8⟩:=kM HO_5.out
      subst eo8
      go_wp2
      go_loopg [8] k1 (fun kq v8 w' => ∃ (x8_2:Int),v8 = .int .i64 x8_2 ∧ Aside0 (impl_ties_foata.l1 kq l0 x5_1 (rd l1 x12_1) x8_2 l1 (l1.length:Int) x12_1 = some r) ∧ Aside0 (kq ≤ k1) ∧ Aside0 (Kd.R (Kd.int .i64) 2 w' w.heap.size (fun _=>True) (.slice Ao8 x5_1.length co8) x5_1) ∧ Aside0 (Below w.heap.size w w'))
      case atStart=>exact ⟨((x5_1.length:Int)),zs,H', ⟨Nat.le_refl _⟩,⟨zP HO_5.out⟩,⟨zQ HB.out⟩⟩
      case round =>
       clear H'
       try clear c1
       try clear c3
       try clear c5
       try clear c6
       try clear hx6
       try clear c7
       try clear hx641_0
       obtain ⟨x8_2,rfl,HA,HK2,HO_5,HB⟩:=hrel
       cases gk with
       | zero=>exact absurd HA.out (by simp [impl_ties_foata.l1])
       | succ k2 =>
        have H:=HA.out
        clear HA
        simp only [impl_ties_foata.l1] at H
        by_cases c9:x8_2 > 0
        ·rw [if_pos c9] at H
         have c9b0:decide (0 < x8_2) = true:=decide_eq_true c9
         clear c9
         obtain ⟨ji10,hji10⟩:∃ j_:Int,(wrap64 (x8_2 - 1)) = j_:=⟨_,rfl⟩
         replace H:(if 0 ≤ (ji10) then (if (ji10) < (x5_1.length:Int) then (if 0 ≤ (rd l1 x12_1) then (if (rd l1 x12_1) < (l0.length:Int) then (if (Go.bits .and .i64 (rd x5_1 (ji10)) (rd l0 (rd l1 x12_1))) = 0 then (impl_ties_foata.l1 k2 l0 x5_1 (rd l1 x12_1) ji10 l1 (l1.length:Int) x12_1) else (if x8_2 = (x5_1.length:Int) then (if x5_1.length < 17592186044416 then ((some (x5_1 ++ [0]:List Int)).bind fun y644=>(if 0 ≤ x8_2 then (if x8_2 < (y644.length:Int) then ((impl_one.f (rd l1 x12_1)).bind fun t648=>(impl_ties_foata.l0 k2 l0 (y644.set (x8_2:Int).toNat (Go.bits .or .i64 (rd y644 x8_2) t648)) l1 (l1.length:Int) (wrap64 (x12_1 + 1)))) else (none)) else (none))) else (none)) else (if 0 ≤ x8_2 then (if x8_2 < (x5_1.length:Int) then ((impl_one.f (rd l1 x12_1)).bind fun t651=>(impl_ties_foata.l0 k2 l0 (x5_1.set (x8_2:Int).toNat (Go.bits .or .i64 (rd x5_1 x8_2) t651)) l1 (l1.length:Int) (wrap64 (x12_1 + 1)))) else (none)) else (none)))) else (none)) else (none)) else (none)) else (none)) = some r:=by first | (rw [hji10] at H;exact H) | (simp only [hji10] at H ⊢;exact H)
         have hji10w:(IntKind.i64.wrap (x8_2 - 1)) = ji10:=(i64_w _).trans hji10
         by_cases c11:0 ≤ (ji10)
         ·rw [if_pos c11] at H
          have c11b0:decide (0 ≤ (ji10)) = true:=decide_eq_true c11
          clear c11
          by_cases c12:(ji10) < (x5_1.length:Int)
          ·rw [if_pos c12] at H
           have c12b0:decide ((ji10) < (x5_1.length:Int)) = true:=decide_eq_true c12
           clear c12
           by_cases c13:0 ≤ (rd l1 x12_1)
           ·rw [if_pos c13] at H
            have c13b0:decide (0 ≤ (rd l1 x12_1)) = true:=decide_eq_true c13
            clear c13
            by_cases c14:(rd l1 x12_1) < (l0.length:Int)
            ·rw [if_pos c14] at H
             have c14b0:decide ((rd l1 x12_1) < (l0.length:Int)) = true:=decide_eq_true c14
             clear c14
             by_cases c15:(Go.bits .and .i64 (rd x5_1 (ji10)) (rd l0 (rd l1 x12_1))) = 0
             ·rw [if_pos c15] at H
              obtain ⟨c15b0,c15b1⟩:=zT1 c15
              clear c15
              have H' := zA H
              clear H
              try go_wp2
              replace HO_5:=zA (zH HO_5.out)
              replace HB:=zA (zD HB.out)
              have p642:0 ≤ ((ji10):Int):=zd
              have q642:(ji10) < (x5_1.length:Int):=zd
              obtain ⟨ad642,e642,hx642_0⟩:=Kd.at_int (kB HO_5.out).2.2 (ji10) p642 q642
              cases e642
              replace p642:=eq_true p642
              replace q642:=eq_true q642
              have p643:0 ≤ ((rd l1 x12_1):Int):=zd
              have q643:(rd l1 x12_1) < (l0.length:Int):=zd
              obtain ⟨ad643,e643,hx643_0⟩:=Kd.at_int HR0.out (rd l1 x12_1) p643 q643
              have hw643_0:=hx643_0
              cases e643
              replace hx643_0:=(HB.out.cell (jG w _ hx643_0)).trans hx643_0
              replace p643:=eq_true p643
              replace q643:=eq_true q643
              refine start_ (n:=15) (S:=fun w' => w'.cell? (ad642.add ((ji10)).toNat) = some (.int .i64 (rd x5_1 (ji10))) ∧ w'.cell? (ad643.add ((rd l1 x12_1)).toNat) = some (.int .i64 (rd l0 (rd l1 x12_1)))) (ds:=[]) #[false,false,false,false,false,false,false,false,false,false,false,false,false,false,false] (by kernel_rfl) rfl rfl ⟨hx642_0,(pw_cell_below HB.out hw643_0)⟩ (fun hHeld=>?_);refine with_tabW impl_ties_foata.tab6 impl_ties_foata.bits6 (fun HT_ HW_=>?_)
              generalize wr.drew = w16 at HO_5 HB hx642_0 hx643_0 hHeld ⊢
              refine zp 0 (some 18) #[true,false,false,false,false,false,false,false,false,false,false,false,false,false,false] HT_.out ?_
              refine zp 1 (some 19) #[true,true,false,false,false,false,false,false,false,false,false,false,false,false,false] HT_.out ?_
              refine zp 2 (some 20) #[true,true,true,false,false,false,false,false,false,false,false,false,false,false,false] HT_.out ?_
              refine zp 3 (some 21) #[true,true,true,true,false,false,false,false,false,false,false,false,false,false,false] HT_.out ?_
              refine zp 4 (some 22) #[true,true,true,true,true,false,false,false,false,false,false,false,false,false,false] HT_.out ?_
              refine zp 5 (some 23) #[true,true,true,true,true,true,false,false,false,false,false,false,false,false,false] HT_.out ?_
              refine zp 6 (some 24) #[true,true,true,true,true,true,true,false,false,false,false,false,false,false,false] HT_.out ?_
              refine zp 8 (some 26) #[true,true,true,true,true,true,true,false,true,false,false,false,false,false,false] HT_.out ?_
              refine zp 9 (some 27) #[true,true,true,true,true,true,true,false,true,true,false,false,false,false,false] HT_.out ?_
              refine zp 10 (some 28) #[true,true,true,true,true,true,true,false,true,true,true,false,false,false,false] HT_.out ?_
              refine zc 7 (some 25) #[true,true,true,true,true,true,true,true,true,true,true,false,false,false,false] HT_.out HW_.out hHeld ?_
              refine zc 11 (some 29) #[true,true,true,true,true,true,true,true,true,true,true,true,false,false,false] HT_.out HW_.out hHeld ?_
              refine zp 12 (some 30) #[true,true,true,true,true,true,true,true,true,true,true,true,true,false,false] HT_.out ?_
              refine zp 13 (some 31) #[true,true,true,true,true,true,true,true,true,true,true,true,true,true,false] HT_.out ?_
              refine zp 14 (some 32) #[true,true,true,true,true,true,true,true,true,true,true,true,true,true,true] HT_.out ?_
              refine done_ (done_of HT_.out (by kernel_rfl)) ?_
              try go_wp2
              go_roundg k2
              case measure=>have:=HK1.out;have:=HK2.out;omega
              case rel=>exact ⟨(ji10),(by first | rfl | (simp;done) | (simp only [← hji10] <;> (first | rfl | simp)) | (simp [*];done)),H', ⟨by have:=HK1.out;have:=HK2.out;omega⟩,⟨zP HO_5.out⟩,⟨zQ HB.out⟩⟩
             rw [if_neg c15] at H
             obtain ⟨c15b0,c15b1⟩:=zT2 c15
             by_cases c17:x8_2 = (x5_1.length:Int)
             ·rw [if_pos c17] at H
              obtain ⟨c17b0,c17b1⟩:=zT1 c17
              clear c17
              by_cases c18:x5_1.length < 17592186044416
              ·rw [if_pos c18] at H
               have LMc18:=zA c18
               clear c18
               obtain ⟨y644,hy644⟩:∃ y_:List Int,y_ = (x5_1 ++ [0]):=⟨_,rfl⟩
               replace H:(if 0 ≤ x8_2 then (if x8_2 < (y644.length:Int) then ((impl_one.f (rd l1 x12_1)).bind fun t648=>(impl_ties_foata.l0 k2 l0 (y644.set (x8_2:Int).toNat (Go.bits .or .i64 (rd y644 x8_2) t648)) l1 (l1.length:Int) (wrap64 (x12_1 + 1)))) else (none)) else (none)) = some r:=zy hy644 H
               have Ny644:=zA hy644
               clear hy644
               by_cases c19:0 ≤ x8_2
               ·rw [if_pos c19] at H
                have c19b0:decide (0 ≤ x8_2) = true:=decide_eq_true c19
                clear c19
                by_cases c20:x8_2 < (y644.length:Int)
                ·rw [if_pos c20] at H
                 have c20b0:decide (x8_2 < (y644.length:Int)) = true:=decide_eq_true c20
                 clear c20
                 obtain ⟨t648,A21,H⟩:=zb H
                 try dsimp only at H
                 obtain ⟨y649,hy649⟩:∃ y_:List Int,y_ = (y644.set (x8_2:Int).toNat (Go.bits .or .i64 (rd y644 x8_2) t648)):=⟨_,rfl⟩
                 replace H:(impl_ties_foata.l0 k2 l0 y649 l1 (l1.length:Int) (wrap64 (x12_1 + 1))) = some r:=zy hy649 H
                 have Ny649:=zA hy649
                 clear hy649
                 have H' := zA H
                 clear H
                 try go_wp2
                 replace HO_5:=zA (zH HO_5.out)
                 replace HB:=zA (zD HB.out)
                 have p642:0 ≤ ((ji10):Int):=zd
                 have q642:(ji10) < (x5_1.length:Int):=zd
                 obtain ⟨ad642,e642,hx642_0⟩:=Kd.at_int (kB HO_5.out).2.2 (ji10) p642 q642
                 cases e642
                 replace p642:=eq_true p642
                 replace q642:=eq_true q642
                 have p643:0 ≤ ((rd l1 x12_1):Int):=zd
                 have q643:(rd l1 x12_1) < (l0.length:Int):=zd
                 obtain ⟨ad643,e643,hx643_0⟩:=Kd.at_int HR0.out (rd l1 x12_1) p643 q643
                 have hw643_0:=hx643_0
                 cases e643
                 replace hx643_0:=(HB.out.cell (jG w _ hx643_0)).trans hx643_0
                 replace p643:=eq_true p643
                 replace q643:=eq_true q643
                 refine start_ (n:=15) (S:=fun w' => w'.cell? (ad642.add ((ji10)).toNat) = some (.int .i64 (rd x5_1 (ji10))) ∧ w'.cell? (ad643.add ((rd l1 x12_1)).toNat) = some (.int .i64 (rd l0 (rd l1 x12_1)))) (ds:=[]) #[false,false,false,false,false,false,false,false,false,false,false,false,false,false,false] (by kernel_rfl) rfl rfl ⟨hx642_0,(pw_cell_below HB.out hw643_0)⟩ (fun hHeld=>?_);refine with_tabW impl_ties_foata.tab6 impl_ties_foata.bits6 (fun HT_ HW_=>?_)
                 generalize wr.drew = w23 at HO_5 HB hx642_0 hx643_0 hHeld ⊢
                 refine zp 0 (some 18) #[true,false,false,false,false,false,false,false,false,false,false,false,false,false,false] HT_.out ?_
                 refine zp 1 (some 19) #[true,true,false,false,false,false,false,false,false,false,false,false,false,false,false] HT_.out ?_
                 refine zp 2 (some 20) #[true,true,true,false,false,false,false,false,false,false,false,false,false,false,false] HT_.out ?_
                 refine zp 3 (some 21) #[true,true,true,true,false,false,false,false,false,false,false,false,false,false,false] HT_.out ?_
                 refine zp 4 (some 22) #[true,true,true,true,true,false,false,false,false,false,false,false,false,false,false] HT_.out ?_
                 refine zp 5 (some 23) #[true,true,true,true,true,true,false,false,false,false,false,false,false,false,false] HT_.out ?_
                 refine zp 6 (some 24) #[true,true,true,true,true,true,true,false,false,false,false,false,false,false,false] HT_.out ?_
                 refine zp 8 (some 26) #[true,true,true,true,true,true,true,false,true,false,false,false,false,false,false] HT_.out ?_
                 refine zp 9 (some 27) #[true,true,true,true,true,true,true,false,true,true,false,false,false,false,false] HT_.out ?_
                 refine zp 10 (some 28) #[true,true,true,true,true,true,true,false,true,true,true,false,false,false,false] HT_.out ?_
                 refine zc 7 (some 25) #[true,true,true,true,true,true,true,true,true,true,true,false,false,false,false] HT_.out HW_.out hHeld ?_
                 refine zc 11 (some 29) #[true,true,true,true,true,true,true,true,true,true,true,true,false,false,false] HT_.out HW_.out hHeld ?_
                 refine zp 12 (some 30) #[true,true,true,true,true,true,true,true,true,true,true,true,true,false,false] HT_.out ?_
                 refine zp 13 (some 31) #[true,true,true,true,true,true,true,true,true,true,true,true,true,true,false] HT_.out ?_
                 refine zp 14 (some 32) #[true,true,true,true,true,true,true,true,true,true,true,true,true,true,true] HT_.out ?_
                 refine done_ (done_of HT_.out (by kernel_rfl)) ?_
                 try go_wp2_with (first | ((with_reducible refine gate_builtin (b:=.append) (xs:=#[.tmp 39,.tmp 40]) rfl ?_);at_builtin;refine Kd.R_append (Kd.int .i64) (w0:=w) w.heap.size rfl (.tmp 39) (.tmp 40) 22 2 (.int .i64 0) 8 rfl Tryd.underlying22 info2 rfl (by decide) (by omega) (.slice (some ad642) x5_1.length co8) x5_1 0 [.int .i64 0] (fun _=>True) (fun _=>False) rfl rfl ?aP (fun _ hk=>hk.elim) ?aF ?aO ?aB ?aS ?aL ?_;(case aP=>exact rfl);(case aB=>exact (zQ HB.out));(case aF=>exact (fun _ _=>trivial));(case aO=>exact (zP HO_5.out));(case aS=>exact (kP (zQ HB.out)));(case aL=>have:=LMc18.out;omega);intro v645 w24 ho hb hg hat;rw [← Ny644.out] at ho;replace HB:=zA (hb);have HO646:=zA (ho);clear HO_5;clear ho hb hg hat))
                 replace HO646:=zA (zH HO646.out)
                 replace HB:=zA (zD HB.out)
                 obtain ⟨Ao26,co26,eo26⟩:=kM HO646.out
                 (first | subst eo26 | (injection eo26 with f1_ f2_ f3_;have f4_:=f1_.symm;have f5_:=f3_.symm;clear f1_ f2_ f3_;subst f4_;subst f5_))
                 have p647:0 ≤ (x8_2:Int):=zd
                 have q647:x8_2 < (y644.length:Int):=zd
                 obtain ⟨ad647,e647,hx647_0⟩:=Kd.at_int (kB HO646.out).2.2 x8_2 p647 q647
                 cases e647
                 replace p647:=eq_true p647
                 replace q647:=eq_true q647
                 refine start_ (n:=9) (S:=fun w' => w'.cell? (ad647.add (x8_2).toNat) = some (.int .i64 (rd y644 x8_2))) (ds:=[8]) #[false,false,false,false,false,false,false,false,false] (by kernel_rfl) rfl rfl (hx647_0) (fun hHeld=>?_);refine with_tabW impl_ties_foata.tab10 impl_ties_foata.bits10 (fun HT_ HW_=>?_)
                 generalize w24.drew = w25 at HO646 HB hx647_0 hHeld ⊢
                 refine zp 0 (some 42) #[true,false,false,false,false,false,false,false,false] HT_.out ?_
                 refine zp 1 (some 43) #[true,true,false,false,false,false,false,false,false] HT_.out ?_
                 refine zp 2 (some 44) #[true,true,true,false,false,false,false,false,false] HT_.out ?_
                 refine zp 4 (some 46) #[true,true,true,false,true,false,false,false,false] HT_.out ?_
                 refine za 3 (some 45) #[true,true,true,true,true,false,false,false,false] HT_.out HW_.out hHeld ?_
                 refine one_ (i:=5) (N:=some 47) #[true,true,true,true,true,true,false,false,false] rfl rfl (one_of HT_.out (by kernel_rfl)) (by decide) (fun K hK=>?_)
                 refine goes_ Tryd.func33 (by kernel_rfl) rfl #[.int .i64 (rd l1 x12_1)] (by rfl) rfl rfl zg ?_
                 with_reducible refine (impl_one.calls (rd l1 x12_1) t648 _ A21.out).mono ?_
                 rintro e w' ⟨rfl,⟨nd,rfl⟩⟩
                 refine ⟨_,rfl,?_⟩
                 have p22:0 ≤ (x8_2:Int):=zd
                 have q22:(x8_2:Int) < ((y644.length:Int):Int):=zd
                 obtain ⟨go22,co22,eo22,gb22,gl22,cl22,HG22⟩:=Kd.R_form HO646.out (by omega)
                 (first | cases eo22 | (injection eo22 with ea_ en_ ec_;(first | subst ea_ | (injection ea_ with ea_;subst ea_));subst ec_;clear en_))
                 have GB22:=zA gb22
                 have GG22:=zA HG22
                 clear gb22 gl22 HG22
                 (first | simp only [add_plain] at hx647_0 | skip)
                 obtain ⟨hx22_0,hf22_0⟩:=Kd.R_celln 0 HO646.out (x8_2:Int) p22 q22
                 replace p22:=eq_true p22
                 replace q22:=eq_true q22
                 have HP27:=Kd.R_putn HO646.out (x8_2:Int) (Go.bits .or .i64 (rd y644 x8_2) t648)
                 rw [← Ny649.out] at HP27
                 have HQ27:=zA HP27
                 clear HP27
                 refine hK.out _ _ (hHeld) (fun hHeld=>?_)
                 clear hK K
                 refine norm_ (a' := ?_) ?_ ?_
                 rotate_left
                 ·show Act.put _ (some 47) _ = _
                  simp only [Act.put,zL,zM,zN,i64_w,i32_w]
                  rfl
                 refine zp 6 (some 48) #[true,true,true,true,true,true,true,false,false] HT_.out ?_
                 refine zp 7 (some 49) #[true,true,true,true,true,true,true,true,false] HT_.out ?_
                 refine last_ (i:=8) (N:=none) #[true,true,true,true,true,true,true,true,true] rfl rfl (one_of HT_.out (by kernel_rfl)) (by decide) (fun K hK=>?_)
                 refine skip_ (w1:=?_) (by rfl) rfl ?_ ?_
                 rotate_left
                 ·go_simp
                  rfl
                 refine hK.out _ _ ?_
                 clear hK K
                 refine done_ (done_of HT_.out (by kernel_rfl)) ?_
                 try go_wp2
                 go_roundg k2
                 case measure=>have:=HK1.out;have:=HK2.out;omega
                 case rel=>exact ⟨(y649),(wrap64 (x12_1 + 1)),zs,H', ⟨by have:=HK1.out;have:=HK2.out;omega⟩,⟨zP HQ27.out⟩,⟨zT HB.out GB22.out⟩⟩
                rw [if_neg c20] at H
                exact absurd H (by simp)
               rw [if_neg c19] at H
               exact absurd H (by simp)
              rw [if_neg c18] at H
              exact absurd H (by simp)
             rw [if_neg c17] at H
             obtain ⟨c17b0,c17b1⟩:=zT2 c17
             by_cases c28:0 ≤ x8_2
             ·rw [if_pos c28] at H
              have c28b0:decide (0 ≤ x8_2) = true:=decide_eq_true c28
              clear c28
              by_cases c29:x8_2 < (x5_1.length:Int)
              ·rw [if_pos c29] at H
               have c29b0:decide (x8_2 < (x5_1.length:Int)) = true:=decide_eq_true c29
               clear c29
               obtain ⟨t651,A30,H⟩:=zb H
               try dsimp only at H
               obtain ⟨y652,hy652⟩:∃ y_:List Int,y_ = (x5_1.set (x8_2:Int).toNat (Go.bits .or .i64 (rd x5_1 x8_2) t651)):=⟨_,rfl⟩
               replace H:(impl_ties_foata.l0 k2 l0 y652 l1 (l1.length:Int) (wrap64 (x12_1 + 1))) = some r:=zy hy652 H
               have Ny652:=zA hy652
               clear hy652
               have H' := zA H
               clear H
               try go_wp2
               replace HO_5:=zA (zH HO_5.out)
               replace HB:=zA (zD HB.out)
               have p642:0 ≤ ((ji10):Int):=zd
               have q642:(ji10) < (x5_1.length:Int):=zd
               obtain ⟨ad642,e642,hx642_0⟩:=Kd.at_int (kB HO_5.out).2.2 (ji10) p642 q642
               cases e642
               replace p642:=eq_true p642
               replace q642:=eq_true q642
               have p643:0 ≤ ((rd l1 x12_1):Int):=zd
               have q643:(rd l1 x12_1) < (l0.length:Int):=zd
               obtain ⟨ad643,e643,hx643_0⟩:=Kd.at_int HR0.out (rd l1 x12_1) p643 q643
               have hw643_0:=hx643_0
               cases e643
               replace hx643_0:=(HB.out.cell (jG w _ hx643_0)).trans hx643_0
               replace p643:=eq_true p643
               replace q643:=eq_true q643
               refine start_ (n:=15) (S:=fun w' => w'.cell? (ad642.add ((ji10)).toNat) = some (.int .i64 (rd x5_1 (ji10))) ∧ w'.cell? (ad643.add ((rd l1 x12_1)).toNat) = some (.int .i64 (rd l0 (rd l1 x12_1)))) (ds:=[]) #[false,false,false,false,false,false,false,false,false,false,false,false,false,false,false] (by kernel_rfl) rfl rfl ⟨hx642_0,(pw_cell_below HB.out hw643_0)⟩ (fun hHeld=>?_);refine with_tabW impl_ties_foata.tab6 impl_ties_foata.bits6 (fun HT_ HW_=>?_)
               generalize wr.drew = w32 at HO_5 HB hx642_0 hx643_0 hHeld ⊢
               refine zp 0 (some 18) #[true,false,false,false,false,false,false,false,false,false,false,false,false,false,false] HT_.out ?_
               refine zp 1 (some 19) #[true,true,false,false,false,false,false,false,false,false,false,false,false,false,false] HT_.out ?_
               refine zp 2 (some 20) #[true,true,true,false,false,false,false,false,false,false,false,false,false,false,false] HT_.out ?_
               refine zp 3 (some 21) #[true,true,true,true,false,false,false,false,false,false,false,false,false,false,false] HT_.out ?_
               refine zp 4 (some 22) #[true,true,true,true,true,false,false,false,false,false,false,false,false,false,false] HT_.out ?_
               refine zp 5 (some 23) #[true,true,true,true,true,true,false,false,false,false,false,false,false,false,false] HT_.out ?_
               refine zp 6 (some 24) #[true,true,true,true,true,true,true,false,false,false,false,false,false,false,false] HT_.out ?_
               refine zp 8 (some 26) #[true,true,true,true,true,true,true,false,true,false,false,false,false,false,false] HT_.out ?_
               refine zp 9 (some 27) #[true,true,true,true,true,true,true,false,true,true,false,false,false,false,false] HT_.out ?_
               refine zp 10 (some 28) #[true,true,true,true,true,true,true,false,true,true,true,false,false,false,false] HT_.out ?_
               refine zc 7 (some 25) #[true,true,true,true,true,true,true,true,true,true,true,false,false,false,false] HT_.out HW_.out hHeld ?_
               refine zc 11 (some 29) #[true,true,true,true,true,true,true,true,true,true,true,true,false,false,false] HT_.out HW_.out hHeld ?_
               refine zp 12 (some 30) #[true,true,true,true,true,true,true,true,true,true,true,true,true,false,false] HT_.out ?_
               refine zp 13 (some 31) #[true,true,true,true,true,true,true,true,true,true,true,true,true,true,false] HT_.out ?_
               refine zp 14 (some 32) #[true,true,true,true,true,true,true,true,true,true,true,true,true,true,true] HT_.out ?_
               refine done_ (done_of HT_.out (by kernel_rfl)) ?_
               try go_wp2
               replace HO_5:=zA (zH HO_5.out)
               replace HB:=zA (zD HB.out)
               have p650:0 ≤ (x8_2:Int):=zd
               have q650:x8_2 < (x5_1.length:Int):=zd
               obtain ⟨ad650,e650,hx650_0⟩:=Kd.at_int (kB HO_5.out).2.2 x8_2 p650 q650
               obtain rfl:ad642 = ad650:=(by injection e650)
               replace p650:=eq_true p650
               replace q650:=eq_true q650
               refine start_ (n:=9) (S:=fun w' => w'.cell? (ad642.add (x8_2).toNat) = some (.int .i64 (rd x5_1 x8_2))) (ds:=[8]) #[false,false,false,false,false,false,false,false,false] (by kernel_rfl) rfl rfl (hx650_0) (fun hHeld=>?_);refine with_tabW impl_ties_foata.tab10 impl_ties_foata.bits10 (fun HT_ HW_=>?_)
               generalize w32.drew = w33 at HO_5 HB hx650_0 hHeld ⊢
               refine zp 0 (some 42) #[true,false,false,false,false,false,false,false,false] HT_.out ?_
               refine zp 1 (some 43) #[true,true,false,false,false,false,false,false,false] HT_.out ?_
               refine zp 2 (some 44) #[true,true,true,false,false,false,false,false,false] HT_.out ?_
               refine zp 4 (some 46) #[true,true,true,false,true,false,false,false,false] HT_.out ?_
               refine za 3 (some 45) #[true,true,true,true,true,false,false,false,false] HT_.out HW_.out hHeld ?_
               refine one_ (i:=5) (N:=some 47) #[true,true,true,true,true,true,false,false,false] rfl rfl (one_of HT_.out (by kernel_rfl)) (by decide) (fun K hK=>?_)
               refine goes_ Tryd.func33 (by kernel_rfl) rfl #[.int .i64 (rd l1 x12_1)] (by rfl) rfl rfl zg ?_
               with_reducible refine (impl_one.calls (rd l1 x12_1) t651 _ A30.out).mono ?_
               rintro e w' ⟨rfl,⟨nd,rfl⟩⟩
               refine ⟨_,rfl,?_⟩
               have p31:0 ≤ (x8_2:Int):=zd
               have q31:(x8_2:Int) < ((x5_1.length:Int):Int):=zd
               obtain ⟨go31,co31,eo31,gb31,gl31,cl31,HG31⟩:=Kd.R_form HO_5.out (by omega)
               (first | cases eo31 | (injection eo31 with ea_ en_ ec_;(first | subst ea_ | (injection ea_ with ea_;subst ea_));subst ec_;clear en_))
               have GB31:=zA gb31
               have GG31:=zA HG31
               clear gb31 gl31 HG31
               (first | simp only [add_plain] at hx642_0 | skip)
               (first | simp only [add_plain] at hx650_0 | skip)
               obtain ⟨hx31_0,hf31_0⟩:=Kd.R_celln 0 HO_5.out (x8_2:Int) p31 q31
               replace p31:=eq_true p31
               replace q31:=eq_true q31
               have HP34:=Kd.R_putn HO_5.out (x8_2:Int) (Go.bits .or .i64 (rd x5_1 x8_2) t651)
               rw [← Ny652.out] at HP34
               have HQ34:=zA HP34
               clear HP34
               refine hK.out _ _ (hHeld) (fun hHeld=>?_)
               clear hK K
               refine norm_ (a' := ?_) ?_ ?_
               rotate_left
               ·show Act.put _ (some 47) _ = _
                simp only [Act.put,zL,zM,zN,i64_w,i32_w]
                rfl
               refine zp 6 (some 48) #[true,true,true,true,true,true,true,false,false] HT_.out ?_
               refine zp 7 (some 49) #[true,true,true,true,true,true,true,true,false] HT_.out ?_
               refine last_ (i:=8) (N:=none) #[true,true,true,true,true,true,true,true,true] rfl rfl (one_of HT_.out (by kernel_rfl)) (by decide) (fun K hK=>?_)
               refine skip_ (w1:=?_) (by rfl) rfl ?_ ?_
               rotate_left
               ·go_simp
                rfl
               refine hK.out _ _ ?_
               clear hK K
               refine done_ (done_of HT_.out (by kernel_rfl)) ?_
               try go_wp2
               go_roundg k2
               case measure=>have:=HK1.out;have:=HK2.out;omega
               case rel=>exact ⟨(y652),(wrap64 (x12_1 + 1)),zs,H', ⟨by have:=HK1.out;have:=HK2.out;omega⟩,⟨zP HQ34.out⟩,⟨zT HB.out GB31.out⟩⟩
              rw [if_neg c29] at H
              exact absurd H (by simp)
             rw [if_neg c28] at H
             exact absurd H (by simp)
            rw [if_neg c14] at H
            exact absurd H (by simp)
           rw [if_neg c13] at H
           exact absurd H (by simp)
          rw [if_neg c12] at H
          exact absurd H (by simp)
         rw [if_neg c11] at H
         exact absurd H (by simp)
        rw [if_neg c9] at H
        have c9b0:decide (0 < x8_2) = false:=decide_eq_false c9
        clear c9
        by_cases c35:x8_2 = (x5_1.length:Int)
        ·rw [if_pos c35] at H
         obtain ⟨c35b0,c35b1⟩:=zT1 c35
         clear c35
         by_cases c36:x5_1.length < 17592186044416
         ·rw [if_pos c36] at H
          have LMc36:=zA c36
          clear c36
          obtain ⟨y653,hy653⟩:∃ y_:List Int,y_ = (x5_1 ++ [0]):=⟨_,rfl⟩
          replace H:(if 0 ≤ x8_2 then (if x8_2 < (y653.length:Int) then ((impl_one.f (rd l1 x12_1)).bind fun t657=>(impl_ties_foata.l0 k2 l0 (y653.set (x8_2:Int).toNat (Go.bits .or .i64 (rd y653 x8_2) t657)) l1 (l1.length:Int) (wrap64 (x12_1 + 1)))) else (none)) else (none)) = some r:=zy hy653 H
          have Ny653:=zA hy653
          clear hy653
          by_cases c37:0 ≤ x8_2
          ·rw [if_pos c37] at H
           have c37b0:decide (0 ≤ x8_2) = true:=decide_eq_true c37
           clear c37
           by_cases c38:x8_2 < (y653.length:Int)
           ·rw [if_pos c38] at H
            have c38b0:decide (x8_2 < (y653.length:Int)) = true:=decide_eq_true c38
            clear c38
            obtain ⟨t657,A39,H⟩:=zb H
            try dsimp only at H
            obtain ⟨y658,hy658⟩:∃ y_:List Int,y_ = (y653.set (x8_2:Int).toNat (Go.bits .or .i64 (rd y653 x8_2) t657)):=⟨_,rfl⟩
            replace H:(impl_ties_foata.l0 k2 l0 y658 l1 (l1.length:Int) (wrap64 (x12_1 + 1))) = some r:=zy hy658 H
            have Ny658:=zA hy658
            clear hy658
            have H' := zA H
            clear H
            try go_wp2
            replace HO_5:=zA (zH HO_5.out)
            replace HB:=zA (zD HB.out)
            refine start_ (n:=15) (S:=fun w' => True) (ds:=[]) #[false,false,false,false,false,false,false,false,false,false,false,false,false,false,false] (by kernel_rfl) rfl rfl trivial (fun hHeld=>?_);refine with_tabW impl_ties_foata.tab6 impl_ties_foata.bits6 (fun HT_ HW_=>?_)
            generalize wr.drew = w41 at HO_5 HB hHeld ⊢
            refine zp 0 (some 18) #[true,false,false,false,false,false,false,false,false,false,false,false,false,false,false] HT_.out ?_
            refine zp 1 (some 19) #[true,true,false,false,false,false,false,false,false,false,false,false,false,false,false] HT_.out ?_
            refine zp 2 (some 20) #[true,true,true,false,false,false,false,false,false,false,false,false,false,false,false] HT_.out ?_
            refine zu 3 (some 21) #[true,true,true,true,false,false,false,false,false,false,false,false,false,false,false] HT_.out ?_
            refine zu 4 (some 22) #[true,true,true,true,true,false,false,false,false,false,false,false,false,false,false] HT_.out ?_
            refine zu 5 (some 23) #[true,true,true,true,true,true,false,false,false,false,false,false,false,false,false] HT_.out ?_
            refine zu 6 (some 24) #[true,true,true,true,true,true,true,false,false,false,false,false,false,false,false] HT_.out ?_
            refine zu 7 (some 25) #[true,true,true,true,true,true,true,true,false,false,false,false,false,false,false] HT_.out ?_
            refine zu 8 (some 26) #[true,true,true,true,true,true,true,true,true,false,false,false,false,false,false] HT_.out ?_
            refine zu 9 (some 27) #[true,true,true,true,true,true,true,true,true,true,false,false,false,false,false] HT_.out ?_
            refine zu 10 (some 28) #[true,true,true,true,true,true,true,true,true,true,true,false,false,false,false] HT_.out ?_
            refine zu 11 (some 29) #[true,true,true,true,true,true,true,true,true,true,true,true,false,false,false] HT_.out ?_
            refine zu 12 (some 30) #[true,true,true,true,true,true,true,true,true,true,true,true,true,false,false] HT_.out ?_
            refine zu 13 (some 31) #[true,true,true,true,true,true,true,true,true,true,true,true,true,true,false] HT_.out ?_
            refine zp 14 (some 32) #[true,true,true,true,true,true,true,true,true,true,true,true,true,true,true] HT_.out ?_
            refine done_ (done_of HT_.out (by kernel_rfl)) ?_
            try go_wp2_with (first | ((with_reducible refine gate_builtin (b:=.append) (xs:=#[.tmp 39,.tmp 40]) rfl ?_);at_builtin;refine Kd.R_append (Kd.int .i64) (w0:=w) w.heap.size rfl (.tmp 39) (.tmp 40) 22 2 (.int .i64 0) 8 rfl Tryd.underlying22 info2 rfl (by decide) (by omega) (.slice Ao8 x5_1.length co8) x5_1 0 [.int .i64 0] (fun _=>True) (fun _=>False) rfl rfl ?aP (fun _ hk=>hk.elim) ?aF ?aO ?aB ?aS ?aL ?_;(case aP=>exact rfl);(case aB=>exact (zQ HB.out));(case aF=>exact (fun _ _=>trivial));(case aO=>exact (zP HO_5.out));(case aS=>exact (kP (zQ HB.out)));(case aL=>have:=LMc36.out;omega);intro v654 w42 ho hb hg hat;rw [← Ny653.out] at ho;replace HB:=zA (hb);have HO655:=zA (ho);clear HO_5;clear ho hb hg hat))
            replace HO655:=zA (zH HO655.out)
            replace HB:=zA (zD HB.out)
            obtain ⟨Ao44,co44,eo44⟩:=kM HO655.out
            (first | subst eo44 | (injection eo44 with f1_ f2_ f3_;have f4_:=f1_.symm;have f5_:=f3_.symm;clear f1_ f2_ f3_;subst f4_;subst f5_))
            have p656:0 ≤ (x8_2:Int):=zd
            have q656:x8_2 < (y653.length:Int):=zd
            obtain ⟨ad656,e656,hx656_0⟩:=Kd.at_int (kB HO655.out).2.2 x8_2 p656 q656
            cases e656
            replace p656:=eq_true p656
            replace q656:=eq_true q656
            refine start_ (n:=9) (S:=fun w' => w'.cell? (ad656.add (x8_2).toNat) = some (.int .i64 (rd y653 x8_2))) (ds:=[8]) #[false,false,false,false,false,false,false,false,false] (by kernel_rfl) rfl rfl (hx656_0) (fun hHeld=>?_);refine with_tabW impl_ties_foata.tab10 impl_ties_foata.bits10 (fun HT_ HW_=>?_)
            generalize w42.drew = w43 at HO655 HB hx656_0 hHeld ⊢
            refine zp 0 (some 42) #[true,false,false,false,false,false,false,false,false] HT_.out ?_
            refine zp 1 (some 43) #[true,true,false,false,false,false,false,false,false] HT_.out ?_
            refine zp 2 (some 44) #[true,true,true,false,false,false,false,false,false] HT_.out ?_
            refine zp 4 (some 46) #[true,true,true,false,true,false,false,false,false] HT_.out ?_
            refine za 3 (some 45) #[true,true,true,true,true,false,false,false,false] HT_.out HW_.out hHeld ?_
            refine one_ (i:=5) (N:=some 47) #[true,true,true,true,true,true,false,false,false] rfl rfl (one_of HT_.out (by kernel_rfl)) (by decide) (fun K hK=>?_)
            refine goes_ Tryd.func33 (by kernel_rfl) rfl #[.int .i64 (rd l1 x12_1)] (by rfl) rfl rfl zg ?_
            with_reducible refine (impl_one.calls (rd l1 x12_1) t657 _ A39.out).mono ?_
            rintro e w' ⟨rfl,⟨nd,rfl⟩⟩
            refine ⟨_,rfl,?_⟩
            have p40:0 ≤ (x8_2:Int):=zd
            have q40:(x8_2:Int) < ((y653.length:Int):Int):=zd
            obtain ⟨go40,co40,eo40,gb40,gl40,cl40,HG40⟩:=Kd.R_form HO655.out (by omega)
            (first | cases eo40 | (injection eo40 with ea_ en_ ec_;(first | subst ea_ | (injection ea_ with ea_;subst ea_));subst ec_;clear en_))
            have GB40:=zA gb40
            have GG40:=zA HG40
            clear gb40 gl40 HG40
            (first | simp only [add_plain] at hx656_0 | skip)
            obtain ⟨hx40_0,hf40_0⟩:=Kd.R_celln 0 HO655.out (x8_2:Int) p40 q40
            replace p40:=eq_true p40
            replace q40:=eq_true q40
            have HP45:=Kd.R_putn HO655.out (x8_2:Int) (Go.bits .or .i64 (rd y653 x8_2) t657)
            rw [← Ny658.out] at HP45
            have HQ45:=zA HP45
            clear HP45
            refine hK.out _ _ (hHeld) (fun hHeld=>?_)
            clear hK K
            refine norm_ (a' := ?_) ?_ ?_
            rotate_left
            ·show Act.put _ (some 47) _ = _
             simp only [Act.put,zL,zM,zN,i64_w,i32_w]
             rfl
            refine zp 6 (some 48) #[true,true,true,true,true,true,true,false,false] HT_.out ?_
            refine zp 7 (some 49) #[true,true,true,true,true,true,true,true,false] HT_.out ?_
            refine last_ (i:=8) (N:=none) #[true,true,true,true,true,true,true,true,true] rfl rfl (one_of HT_.out (by kernel_rfl)) (by decide) (fun K hK=>?_)
            refine skip_ (w1:=?_) (by rfl) rfl ?_ ?_
            rotate_left
            ·go_simp
             rfl
            refine hK.out _ _ ?_
            clear hK K
            refine done_ (done_of HT_.out (by kernel_rfl)) ?_
            try go_wp2
            go_roundg k2
            case measure=>have:=HK1.out;have:=HK2.out;omega
            case rel=>exact ⟨(y658),(wrap64 (x12_1 + 1)),zs,H', ⟨by have:=HK1.out;have:=HK2.out;omega⟩,⟨zP HQ45.out⟩,⟨zT HB.out GB40.out⟩⟩
           rw [if_neg c38] at H
           exact absurd H (by simp)
          rw [if_neg c37] at H
          exact absurd H (by simp)
         rw [if_neg c36] at H
         exact absurd H (by simp)
        rw [if_neg c35] at H
        obtain ⟨c35b0,c35b1⟩:=zT2 c35
        by_cases c46:0 ≤ x8_2
        ·rw [if_pos c46] at H
         have c46b0:decide (0 ≤ x8_2) = true:=decide_eq_true c46
         clear c46
         by_cases c47:x8_2 < (x5_1.length:Int)
         ·rw [if_pos c47] at H
          have c47b0:decide (x8_2 < (x5_1.length:Int)) = true:=decide_eq_true c47
          clear c47
          obtain ⟨t660,A48,H⟩:=zb H
          try dsimp only at H
          obtain ⟨y661,hy661⟩:∃ y_:List Int,y_ = (x5_1.set (x8_2:Int).toNat (Go.bits .or .i64 (rd x5_1 x8_2) t660)):=⟨_,rfl⟩
          replace H:(impl_ties_foata.l0 k2 l0 y661 l1 (l1.length:Int) (wrap64 (x12_1 + 1))) = some r:=zy hy661 H
          have Ny661:=zA hy661
          clear hy661
          have H' := zA H
          clear H
          try go_wp2
          replace HO_5:=zA (zH HO_5.out)
          replace HB:=zA (zD HB.out)
          refine start_ (n:=15) (S:=fun w' => True) (ds:=[]) #[false,false,false,false,false,false,false,false,false,false,false,false,false,false,false] (by kernel_rfl) rfl rfl trivial (fun hHeld=>?_);refine with_tabW impl_ties_foata.tab6 impl_ties_foata.bits6 (fun HT_ HW_=>?_)
          generalize wr.drew = w50 at HO_5 HB hHeld ⊢
          refine zp 0 (some 18) #[true,false,false,false,false,false,false,false,false,false,false,false,false,false,false] HT_.out ?_
          refine zp 1 (some 19) #[true,true,false,false,false,false,false,false,false,false,false,false,false,false,false] HT_.out ?_
          refine zp 2 (some 20) #[true,true,true,false,false,false,false,false,false,false,false,false,false,false,false] HT_.out ?_
          refine zu 3 (some 21) #[true,true,true,true,false,false,false,false,false,false,false,false,false,false,false] HT_.out ?_
          refine zu 4 (some 22) #[true,true,true,true,true,false,false,false,false,false,false,false,false,false,false] HT_.out ?_
          refine zu 5 (some 23) #[true,true,true,true,true,true,false,false,false,false,false,false,false,false,false] HT_.out ?_
          refine zu 6 (some 24) #[true,true,true,true,true,true,true,false,false,false,false,false,false,false,false] HT_.out ?_
          refine zu 7 (some 25) #[true,true,true,true,true,true,true,true,false,false,false,false,false,false,false] HT_.out ?_
          refine zu 8 (some 26) #[true,true,true,true,true,true,true,true,true,false,false,false,false,false,false] HT_.out ?_
          refine zu 9 (some 27) #[true,true,true,true,true,true,true,true,true,true,false,false,false,false,false] HT_.out ?_
          refine zu 10 (some 28) #[true,true,true,true,true,true,true,true,true,true,true,false,false,false,false] HT_.out ?_
          refine zu 11 (some 29) #[true,true,true,true,true,true,true,true,true,true,true,true,false,false,false] HT_.out ?_
          refine zu 12 (some 30) #[true,true,true,true,true,true,true,true,true,true,true,true,true,false,false] HT_.out ?_
          refine zu 13 (some 31) #[true,true,true,true,true,true,true,true,true,true,true,true,true,true,false] HT_.out ?_
          refine zp 14 (some 32) #[true,true,true,true,true,true,true,true,true,true,true,true,true,true,true] HT_.out ?_
          refine done_ (done_of HT_.out (by kernel_rfl)) ?_
          try go_wp2
          replace HO_5:=zA (zH HO_5.out)
          replace HB:=zA (zD HB.out)
          have p659:0 ≤ (x8_2:Int):=zd
          have q659:x8_2 < (x5_1.length:Int):=zd
          obtain ⟨ad659,e659,hx659_0⟩:=Kd.at_int (kB HO_5.out).2.2 x8_2 p659 q659
          cases e659
          replace p659:=eq_true p659
          replace q659:=eq_true q659
          refine start_ (n:=9) (S:=fun w' => w'.cell? (ad659.add (x8_2).toNat) = some (.int .i64 (rd x5_1 x8_2))) (ds:=[8]) #[false,false,false,false,false,false,false,false,false] (by kernel_rfl) rfl rfl (hx659_0) (fun hHeld=>?_);refine with_tabW impl_ties_foata.tab10 impl_ties_foata.bits10 (fun HT_ HW_=>?_)
          generalize w50.drew = w51 at HO_5 HB hx659_0 hHeld ⊢
          refine zp 0 (some 42) #[true,false,false,false,false,false,false,false,false] HT_.out ?_
          refine zp 1 (some 43) #[true,true,false,false,false,false,false,false,false] HT_.out ?_
          refine zp 2 (some 44) #[true,true,true,false,false,false,false,false,false] HT_.out ?_
          refine zp 4 (some 46) #[true,true,true,false,true,false,false,false,false] HT_.out ?_
          refine za 3 (some 45) #[true,true,true,true,true,false,false,false,false] HT_.out HW_.out hHeld ?_
          refine one_ (i:=5) (N:=some 47) #[true,true,true,true,true,true,false,false,false] rfl rfl (one_of HT_.out (by kernel_rfl)) (by decide) (fun K hK=>?_)
          refine goes_ Tryd.func33 (by kernel_rfl) rfl #[.int .i64 (rd l1 x12_1)] (by rfl) rfl rfl zg ?_
          with_reducible refine (impl_one.calls (rd l1 x12_1) t660 _ A48.out).mono ?_
          rintro e w' ⟨rfl,⟨nd,rfl⟩⟩
          refine ⟨_,rfl,?_⟩
          have p49:0 ≤ (x8_2:Int):=zd
          have q49:(x8_2:Int) < ((x5_1.length:Int):Int):=zd
          obtain ⟨go49,co49,eo49,gb49,gl49,cl49,HG49⟩:=Kd.R_form HO_5.out (by omega)
          (first | cases eo49 | (injection eo49 with ea_ en_ ec_;(first | subst ea_ | (injection ea_ with ea_;subst ea_));subst ec_;clear en_))
          have GB49:=zA gb49
          have GG49:=zA HG49
          clear gb49 gl49 HG49
          (first | simp only [add_plain] at hx659_0 | skip)
          obtain ⟨hx49_0,hf49_0⟩:=Kd.R_celln 0 HO_5.out (x8_2:Int) p49 q49
          replace p49:=eq_true p49
          replace q49:=eq_true q49
          have HP52:=Kd.R_putn HO_5.out (x8_2:Int) (Go.bits .or .i64 (rd x5_1 x8_2) t660)
          rw [← Ny661.out] at HP52
          have HQ52:=zA HP52
          clear HP52
          refine hK.out _ _ (hHeld) (fun hHeld=>?_)
          clear hK K
          refine norm_ (a' := ?_) ?_ ?_
          rotate_left
          ·show Act.put _ (some 47) _ = _
           simp only [Act.put,zL,zM,zN,i64_w,i32_w]
           rfl
          refine zp 6 (some 48) #[true,true,true,true,true,true,true,false,false] HT_.out ?_
          refine zp 7 (some 49) #[true,true,true,true,true,true,true,true,false] HT_.out ?_
          refine last_ (i:=8) (N:=none) #[true,true,true,true,true,true,true,true,true] rfl rfl (one_of HT_.out (by kernel_rfl)) (by decide) (fun K hK=>?_)
          refine skip_ (w1:=?_) (by rfl) rfl ?_ ?_
          rotate_left
          ·go_simp
           rfl
          refine hK.out _ _ ?_
          clear hK K
          refine done_ (done_of HT_.out (by kernel_rfl)) ?_
          try go_wp2
          go_roundg k2
          case measure=>have:=HK1.out;have:=HK2.out;omega
          case rel=>exact ⟨(y661),(wrap64 (x12_1 + 1)),zs,H', ⟨by have:=HK1.out;have:=HK2.out;omega⟩,⟨zP HQ52.out⟩,⟨zT HB.out GB49.out⟩⟩
         rw [if_neg c47] at H
         exact absurd H (by simp)
        rw [if_neg c46] at H
        exact absurd H (by simp)
     rw [if_neg c7] at H
     exact absurd H (by simp)
    rw [if_neg c6] at H
    exact absurd H (by simp)
   rw [if_neg c5] at H
   have c5b0:decide (x12_1 < (l1.length:Int)) = false:=decide_eq_false c5
   clear c5
   obtain rfl:=Option.some.inj H
   go_wp2
   go_ret
   exact ⟨_,zr,zP HO_5.out,zQ HB.out⟩
def impl_HeightOf.f (k:Nat) (a0_0:Int) (l0_1:List Int) (l1:List Int):Option (Int × Int):=(impl_checkWords.f k a0_0 l0_1 (([l1]:List (List Int)))).bind fun t666=>(if t666 = 0 then ((impl_Alphabet_ties.f a0_0 l0_1).bind fun t667=>((impl_ties_foata.f k t667 l1).bind fun t670=>((impl_length_int64.f t670).bind fun t673=>(some (t673,0))))) else (some (0,t666)))
set_option maxHeartbeats 8000000 in
set_option maxRecDepth 100000 in
theorem impl_HeightOf.calls (k:Nat) (a0_0:Int) (P0_1_:Nat → Prop) (A0_1:Option Addr) (c0_1:Nat) (l0_1:List Int) (P1_:Nat → Prop) (A1:Option Addr) (c1:Nat) (l1:List Int) (r1:Int) (r2:Int) (w:World) (hs0_1:Kd.V (Kd.int .i64) 2 w w.heap.size (fun k_=>P0_1_ k_) (.slice A0_1 l0_1.length c0_1) l0_1) (hs1:Kd.V (Kd.int .i64) 2 w w.heap.size (fun k_=>P1_ k_) (.slice A1 l1.length c1) l1) (hT:TabW w) (h:impl_HeightOf.f k a0_0 l0_1 l1 = some (r1,r2)) :
  Calls Tryd.prog 18 #[.agg #[.int .i64 a0_0,.slice A0_1 l0_1.length c0_1],.slice A1 l1.length c1] w fun e w' => e = .returned (.tuple #[.int .i64 r1,.int .i64 r2]) ∧ Below w.heap.size w w' := by
 have hu28:=Tryd.underlying28
 have HT:=zA hT
 clear hT
 have HO0_1:=zA (show Kd.V (Kd.int .i64) 2 w w.heap.size (fun k_=>((P0_1_ k_ ∨ P1_ k_) ∨ w.heap.size ≤ k_)) (.slice A0_1 l0_1.length c0_1) l0_1 from kN hs0_1 (fun k_ hk=>.inl (.inl hk)))
 have HO1:=zA (show Kd.V (Kd.int .i64) 2 w w.heap.size (fun k_=>((P0_1_ k_ ∨ P1_ k_) ∨ w.heap.size ≤ k_)) (.slice A1 l1.length c1) l1 from kN hs1 (fun k_ hk=>.inl (.inr hk)))
 have HB:=zA (kW w.heap.size w)
 have H:=h
 unfold impl_HeightOf.f at H
 clear h
 obtain ⟨y663,hy663⟩:∃ y_:List (List Int),y_ = (([l1]:List (List Int))):=⟨_,rfl⟩
 replace H:((impl_checkWords.f k a0_0 l0_1 y663).bind fun t666=>(if t666 = 0 then ((impl_Alphabet_ties.f a0_0 l0_1).bind fun t667=>((impl_ties_foata.f k t667 l1).bind fun t670=>((impl_length_int64.f t670).bind fun t673=>(some (t673,0))))) else (some (0,t666)))) = some (r1,r2):=zy hy663 H
 have Ny663:=zA hy663
 clear hy663
 obtain ⟨t666,A3,H⟩:=zb H
 try dsimp only at H
 by_cases c4:t666 = 0
 ·rw [if_pos c4] at H
  obtain ⟨c4b0,c4b1⟩:=zT1 c4
  clear c4
  obtain ⟨t667,A5,H⟩:=zb H
  try dsimp only at H
  obtain ⟨t670,A6,H⟩:=zb H
  try dsimp only at H
  obtain ⟨t673,A7,H⟩:=zb H
  try dsimp only at H
  simp only [Option.some.injEq,Prod.mk.injEq] at H
  obtain ⟨rfl,rfl⟩:=H
  go_enter Tryd.func18,Tryd.ntmps18
  go_wp2_with (first | (refine zBE 2 #[.int .i64 a0_0,.slice A0_1 l0_1.length c0_1] 28 ?_;intro gb662 hg w8 hbox hb;replace HO0_1:=zA (kG (jD (zPV HO0_1.out) gb662 (Nat.le_of_eq hg.symm)) hb);replace HO1:=zA (kG (jD (zPV HO1.out) gb662 (Nat.le_of_eq hg.symm)) hb);have BK662:=zA (hbox);have GW662:=zA (zBH hg HB.out);have GE662:=zA (zBH hg HB.out);replace HB:=zA (kQ (zQ HB.out) hb);clear hb hbox hg;obtain ⟨hcz9_0,hcz9_1,hfz9_0,hfz9_1⟩:=zB3 BK662.out) | ((with_reducible refine kS (N:=9) rfl ?_);refine Kd.N_lit (Kd.slice 2 (Kd.int .i64)) _ 22 ?hg (N' := 9) ?hd (xs:=([l1]:List (List Int))) (inner:=[.slice A1 l1.length c1]) (ok:=(fun k_=>((P0_1_ k_ ∨ P1_ k_) ∨ w.heap.size ≤ k_) ∧ k_ ≠ gb662)) (okp:=(fun k_=>((P0_1_ k_ ∨ P1_ k_) ∨ w.heap.size ≤ k_) ∧ k_ ≠ gb662)) ?hr ?hp (fun _ hk=>hk) ((show ∀ k_:Nat,(_:Nat) ≤ k_ → (fun k_=>((P0_1_ k_ ∨ P1_ k_) ∨ w.heap.size ≤ k_) ∧ k_ ≠ gb662) k_ from fun k_ hk=>⟨(.inr (Nat.le_trans (kP (zT HB.out GE662.out)) hk)),jE (g:=gb662) (o:=.cells #[.int .i64 a0_0,.slice A0_1 l0_1.length c0_1] 28 (0,0)) (zR BK662.out) k_ hk⟩) _ (Nat.le_refl _)) (kW _ _) (Nat.le_refl _) (by simp) ?_;(case hd=>rfl);(case hg=>rfl);(case hr=>first | (go_simp;done) | (go_simp;rfl));(case hp=>exact (Reps.one (show Kd.FK (Kd.slice 2 (Kd.int .i64)) _ _ l1 [.slice A1 l1.length c1] from (zFK (kN (ok' := (fun k_=>((P0_1_ k_ ∨ P1_ k_) ∨ w.heap.size ≤ k_) ∧ k_ ≠ gb662)) (HO1.out) (fun k_ hk=>⟨hk.1,hk.2⟩)))) (Reps.none _ _)));intro v664 w10 ho11 hb hg_ hnew_;clear hg_ hnew_;(first | rw [← Ny663.out] at ho11 | (simp only [Int.reduceToNat] at ho11;rw [← Ny663.out] at ho11));replace HO0_1:=zA (kK (zPV HO0_1.out) (Kd.N_base ho11) hb);replace HO1:=zA (kK (zPV HO1.out) (Kd.N_base ho11) hb);have HO665:=zA (jN ho11 (kP (zT HB.out GE662.out)));replace BK662:=zA (zB1 BK662.out hb);replace HB:=zA (kQ (zT HB.out GE662.out) hb);clear hb ho11;obtain ⟨Ao12,co12,eo12⟩:=Kd.N_slice HO665.out;subst eo12) | (refine zO (some 10) Tryd.func30 #[.agg #[.int .i64 a0_0,.slice A0_1 l0_1.length c0_1],.slice Ao12 y663.length co12] ?_;(with_reducible refine (impl_checkWords.calls k a0_0 _ _ l0_1 _ _ y663 t666 _ ?side1 ?side2 ?side3 ?side4 ?side5 A3.out).mono ?_);(case side1=>exact zS (kJ HO0_1.out).2.2);(case side2=>exact (kJ HO0_1.out).2.1);(case side3=>exact zS (Kd.N_reads' HO665.out).2.2);(case side4=>exact (Kd.N_reads' HO665.out).2.1);(case side5=>exact TabW.below HT.out (zT HB.out GE662.out));rintro e w13 ⟨rfl,hb⟩;refine ⟨_,rfl,?_⟩;replace HO0_1:=zA (kG (zPV HO0_1.out) hb);replace HO1:=zA (kG (zPV HO1.out) hb);replace HO665:=zA (kZ (zPN HO665.out) hb);replace BK662:=zA (zB1 BK662.out hb);replace HB:=zA (kQ (zT HB.out GE662.out) hb);(try clear hb);obtain ⟨hcz14_0,hcz14_1,hfz14_0,hfz14_1⟩:=zB3 BK662.out) | (refine zO (some 15) Tryd.func38 #[.agg #[.int .i64 a0_0,.slice A0_1 l0_1.length c0_1]] ?_;(with_reducible refine (impl_Alphabet_ties.calls a0_0 (fun k_=>((((P0_1_ k_ ∨ P1_ k_) ∨ w.heap.size ≤ k_) ∧ k_ ≠ gb662) ∧ some k_ ≠ (.slice Ao12 y663.length co12:Value).ownBlock)) _ _ l0_1 t667 _ ?side1 A5.out).mono ?_);(case side1=>exact HO0_1.out);rintro e w15 ⟨v668,rfl,ho0,hb⟩;refine ⟨_,rfl,?_⟩;replace HO0_1:=zA (kG (zPV HO0_1.out) hb);replace HO1:=zA (kG (zPV HO1.out) hb);have HO669:=zA (jM (kN (ok' := fun k_=>((P0_1_ k_ ∨ P1_ k_) ∨ w.heap.size ≤ k_) ∧ some k_ ≠ (.slice Ao12 y663.length co12:Value).ownBlock ∧ k_ ≠ gb662) ho0 (fun k_ hk_=>⟨Or.elim hk_ (fun hs_=>hs_.1.1) (fun hn_=>(.inr (Nat.le_trans (kP (zT HB.out GE662.out)) hn_))),Or.elim hk_ (fun hs_=>hs_.2) (fun hn_=>(jF (jA (zPN HO665.out)) k_ hn_)),Or.elim hk_ (fun hs_=>hs_.1.2) (fun hn_=>(jE (g:=gb662) (o:=.cells #[.int .i64 a0_0,.slice A0_1 l0_1.length c0_1] 28 (0,0)) (zR BK662.out) k_ hn_))⟩)) (kP (zT HB.out GE662.out)));replace HO665:=zA (kZ (zPN HO665.out) hb);replace BK662:=zA (zB1 BK662.out hb);replace HB:=zA (kQ (zT HB.out GE662.out) hb);(try clear hb);(try clear ho0);obtain ⟨Ao16,co16,eo16⟩:=Kd.V_slice HO669.out;subst eo16) | (refine zO (some 17) Tryd.func39 #[.slice Ao16 t667.length co16,.slice A1 l1.length c1] ?_;(with_reducible refine (impl_ties_foata.calls k _ _ t667 _ _ l1 t670 _ ?side1 ?side2 ?side3 ?side4 A6.out).mono ?_);(case side1=>exact zS (kJ HO669.out).2.2);(case side2=>exact (kJ HO669.out).2.1);(case side3=>exact zS (kJ HO1.out).2.2);(case side4=>exact (kJ HO1.out).2.1);rintro e w17 ⟨v671,rfl,ho0,hb⟩;refine ⟨_,rfl,?_⟩;replace HO0_1:=zA (kK (zPV HO0_1.out) (kC ho0) hb);replace HO1:=zA (kK (zPV HO1.out) (kC ho0) hb);replace HO665:=zA (Kd.N_elder' (zPN HO665.out) (kC ho0) hb);replace HO669:=zA (kK (zPV HO669.out) (kC ho0) hb);have HO672:=zA (kI (Kd.R_newM (M:=fun k_=>(w.heap.size ≤ k_)) ho0 (kP (zT HB.out GE662.out)) (fun k_ h_=>h_)) (kP (zT HB.out GE662.out)));replace BK662:=zA (zB1 BK662.out hb);replace HB:=zA (kQ (zT HB.out GE662.out) hb);(try clear hb);(try clear ho0);obtain ⟨Ao18,co18,eo18⟩:=kM HO672.out;subst eo18) | (refine zO (some 18) Tryd.func34 #[.slice Ao18 t670.length co18] ?_;(with_reducible refine (impl_length_int64.calls _ _ t670 t673 _ ?side1 ?side2 A7.out).mono ?_);(case side1=>exact zS (kB HO672.out).2.2);(case side2=>exact (kB HO672.out).2.1);rintro e w' ⟨rfl,⟨nd,rfl⟩⟩;refine ⟨_,rfl,?_⟩))
  go_ret2
  exact ⟨zr,zT HB.out GE662.out⟩
 rw [if_neg c4] at H
 obtain ⟨c4b0,c4b1⟩:=zT2 c4
 simp only [Option.some.injEq,Prod.mk.injEq] at H
 obtain ⟨rfl,rfl⟩:=H
 go_enter Tryd.func18,Tryd.ntmps18
 go_wp2_with (first | (refine zBE 2 #[.int .i64 a0_0,.slice A0_1 l0_1.length c0_1] 28 ?_;intro gb662 hg w19 hbox hb;replace HO0_1:=zA (kG (jD (zPV HO0_1.out) gb662 (Nat.le_of_eq hg.symm)) hb);replace HO1:=zA (kG (jD (zPV HO1.out) gb662 (Nat.le_of_eq hg.symm)) hb);have BK662:=zA (hbox);have GW662:=zA (zBH hg HB.out);have GE662:=zA (zBH hg HB.out);replace HB:=zA (kQ (zQ HB.out) hb);clear hb hbox hg;obtain ⟨hcz20_0,hcz20_1,hfz20_0,hfz20_1⟩:=zB3 BK662.out) | ((with_reducible refine kS (N:=9) rfl ?_);refine Kd.N_lit (Kd.slice 2 (Kd.int .i64)) _ 22 ?hg (N' := 9) ?hd (xs:=([l1]:List (List Int))) (inner:=[.slice A1 l1.length c1]) (ok:=(fun k_=>((P0_1_ k_ ∨ P1_ k_) ∨ w.heap.size ≤ k_) ∧ k_ ≠ gb662)) (okp:=(fun k_=>((P0_1_ k_ ∨ P1_ k_) ∨ w.heap.size ≤ k_) ∧ k_ ≠ gb662)) ?hr ?hp (fun _ hk=>hk) ((show ∀ k_:Nat,(_:Nat) ≤ k_ → (fun k_=>((P0_1_ k_ ∨ P1_ k_) ∨ w.heap.size ≤ k_) ∧ k_ ≠ gb662) k_ from fun k_ hk=>⟨(.inr (Nat.le_trans (kP (zT HB.out GE662.out)) hk)),jE (g:=gb662) (o:=.cells #[.int .i64 a0_0,.slice A0_1 l0_1.length c0_1] 28 (0,0)) (zR BK662.out) k_ hk⟩) _ (Nat.le_refl _)) (kW _ _) (Nat.le_refl _) (by simp) ?_;(case hd=>rfl);(case hg=>rfl);(case hr=>first | (go_simp;done) | (go_simp;rfl));(case hp=>exact (Reps.one (show Kd.FK (Kd.slice 2 (Kd.int .i64)) _ _ l1 [.slice A1 l1.length c1] from (zFK (kN (ok' := (fun k_=>((P0_1_ k_ ∨ P1_ k_) ∨ w.heap.size ≤ k_) ∧ k_ ≠ gb662)) (HO1.out) (fun k_ hk=>⟨hk.1,hk.2⟩)))) (Reps.none _ _)));intro v664 w21 ho22 hb hg_ hnew_;clear hg_ hnew_;(first | rw [← Ny663.out] at ho22 | (simp only [Int.reduceToNat] at ho22;rw [← Ny663.out] at ho22));replace HO0_1:=zA (kK (zPV HO0_1.out) (Kd.N_base ho22) hb);replace HO1:=zA (kK (zPV HO1.out) (Kd.N_base ho22) hb);have HO665:=zA (jN ho22 (kP (zT HB.out GE662.out)));replace BK662:=zA (zB1 BK662.out hb);replace HB:=zA (kQ (zT HB.out GE662.out) hb);clear hb ho22;obtain ⟨Ao23,co23,eo23⟩:=Kd.N_slice HO665.out;subst eo23) | (refine zO (some 10) Tryd.func30 #[.agg #[.int .i64 a0_0,.slice A0_1 l0_1.length c0_1],.slice Ao23 y663.length co23] ?_;(with_reducible refine (impl_checkWords.calls k a0_0 _ _ l0_1 _ _ y663 t666 _ ?side1 ?side2 ?side3 ?side4 ?side5 A3.out).mono ?_);(case side1=>exact zS (kJ HO0_1.out).2.2);(case side2=>exact (kJ HO0_1.out).2.1);(case side3=>exact zS (Kd.N_reads' HO665.out).2.2);(case side4=>exact (Kd.N_reads' HO665.out).2.1);(case side5=>exact TabW.below HT.out (zT HB.out GE662.out));rintro e w24 ⟨rfl,hb⟩;refine ⟨_,rfl,?_⟩;replace HO0_1:=zA (kG (zPV HO0_1.out) hb);replace HO1:=zA (kG (zPV HO1.out) hb);replace HO665:=zA (kZ (zPN HO665.out) hb);replace BK662:=zA (zB1 BK662.out hb);replace HB:=zA (kQ (zT HB.out GE662.out) hb);(try clear hb)))
 go_ret2
 exact ⟨zr,zT HB.out GE662.out⟩
def impl_FoataForm.f (k:Nat) (a0_0:Int) (l0_1:List Int) (l1:List Int):Option (List Int × Int):=(impl_checkWords.f k a0_0 l0_1 (([l1]:List (List Int)))).bind fun t678=>(if t678 = 0 then ((impl_Alphabet_ties.f a0_0 l0_1).bind fun t679=>((impl_ties_foata.f k t679 l1).bind fun t682=>(some (t682,0)))) else (some (([]:List Int),t678)))
set_option maxHeartbeats 8000000 in
set_option maxRecDepth 100000 in
theorem impl_FoataForm.calls (k:Nat) (a0_0:Int) (P0_1_:Nat → Prop) (A0_1:Option Addr) (c0_1:Nat) (l0_1:List Int) (P1_:Nat → Prop) (A1:Option Addr) (c1:Nat) (l1:List Int) (r1:List Int) (r2:Int) (w:World) (hs0_1:Kd.V (Kd.int .i64) 2 w w.heap.size (fun k_=>P0_1_ k_) (.slice A0_1 l0_1.length c0_1) l0_1) (hs1:Kd.V (Kd.int .i64) 2 w w.heap.size (fun k_=>P1_ k_) (.slice A1 l1.length c1) l1) (hT:TabW w) (h:impl_FoataForm.f k a0_0 l0_1 l1 = some (r1,r2)) :
  Calls Tryd.prog 19 #[.agg #[.int .i64 a0_0,.slice A0_1 l0_1.length c0_1],.slice A1 l1.length c1] w fun e w' => ∃ v0_:Value,e = .returned (.tuple #[v0_,.int .i64 r2]) ∧ Kd.R (Kd.int .i64) 2 w' w.heap.size (fun k_=>(w.heap.size ≤ k_)) v0_ r1 ∧ Below w.heap.size w w' := by
 have hu28:=Tryd.underlying28
 have HT:=zA hT
 clear hT
 have HO0_1:=zA (show Kd.V (Kd.int .i64) 2 w w.heap.size (fun k_=>((P0_1_ k_ ∨ P1_ k_) ∨ w.heap.size ≤ k_)) (.slice A0_1 l0_1.length c0_1) l0_1 from kN hs0_1 (fun k_ hk=>.inl (.inl hk)))
 have HO1:=zA (show Kd.V (Kd.int .i64) 2 w w.heap.size (fun k_=>((P0_1_ k_ ∨ P1_ k_) ∨ w.heap.size ≤ k_)) (.slice A1 l1.length c1) l1 from kN hs1 (fun k_ hk=>.inl (.inr hk)))
 have HB:=zA (kW w.heap.size w)
 have H:=h
 unfold impl_FoataForm.f at H
 clear h
 obtain ⟨y675,hy675⟩:∃ y_:List (List Int),y_ = (([l1]:List (List Int))):=⟨_,rfl⟩
 replace H:((impl_checkWords.f k a0_0 l0_1 y675).bind fun t678=>(if t678 = 0 then ((impl_Alphabet_ties.f a0_0 l0_1).bind fun t679=>((impl_ties_foata.f k t679 l1).bind fun t682=>(some (t682,0)))) else (some (([]:List Int),t678)))) = some (r1,r2):=zy hy675 H
 have Ny675:=zA hy675
 clear hy675
 obtain ⟨t678,A3,H⟩:=zb H
 try dsimp only at H
 by_cases c4:t678 = 0
 ·rw [if_pos c4] at H
  obtain ⟨c4b0,c4b1⟩:=zT1 c4
  clear c4
  obtain ⟨t679,A5,H⟩:=zb H
  try dsimp only at H
  obtain ⟨t682,A6,H⟩:=zb H
  try dsimp only at H
  simp only [Option.some.injEq,Prod.mk.injEq] at H
  obtain ⟨rfl,rfl⟩:=H
  go_enter Tryd.func19,Tryd.ntmps19
  go_wp2_with (first | (refine zBE 2 #[.int .i64 a0_0,.slice A0_1 l0_1.length c0_1] 28 ?_;intro gb674 hg w7 hbox hb;replace HO0_1:=zA (kG (jD (zPV HO0_1.out) gb674 (Nat.le_of_eq hg.symm)) hb);replace HO1:=zA (kG (jD (zPV HO1.out) gb674 (Nat.le_of_eq hg.symm)) hb);have BK674:=zA (hbox);have GW674:=zA (zBH hg HB.out);have GE674:=zA (zBH hg HB.out);replace HB:=zA (kQ (zQ HB.out) hb);clear hb hbox hg;obtain ⟨hcz8_0,hcz8_1,hfz8_0,hfz8_1⟩:=zB3 BK674.out) | ((with_reducible refine kS (N:=9) rfl ?_);refine Kd.N_lit (Kd.slice 2 (Kd.int .i64)) _ 22 ?hg (N' := 9) ?hd (xs:=([l1]:List (List Int))) (inner:=[.slice A1 l1.length c1]) (ok:=(fun k_=>((P0_1_ k_ ∨ P1_ k_) ∨ w.heap.size ≤ k_) ∧ k_ ≠ gb674)) (okp:=(fun k_=>((P0_1_ k_ ∨ P1_ k_) ∨ w.heap.size ≤ k_) ∧ k_ ≠ gb674)) ?hr ?hp (fun _ hk=>hk) ((show ∀ k_:Nat,(_:Nat) ≤ k_ → (fun k_=>((P0_1_ k_ ∨ P1_ k_) ∨ w.heap.size ≤ k_) ∧ k_ ≠ gb674) k_ from fun k_ hk=>⟨(.inr (Nat.le_trans (kP (zT HB.out GE674.out)) hk)),jE (g:=gb674) (o:=.cells #[.int .i64 a0_0,.slice A0_1 l0_1.length c0_1] 28 (0,0)) (zR BK674.out) k_ hk⟩) _ (Nat.le_refl _)) (kW _ _) (Nat.le_refl _) (by simp) ?_;(case hd=>rfl);(case hg=>rfl);(case hr=>first | (go_simp;done) | (go_simp;rfl));(case hp=>exact (Reps.one (show Kd.FK (Kd.slice 2 (Kd.int .i64)) _ _ l1 [.slice A1 l1.length c1] from (zFK (kN (ok' := (fun k_=>((P0_1_ k_ ∨ P1_ k_) ∨ w.heap.size ≤ k_) ∧ k_ ≠ gb674)) (HO1.out) (fun k_ hk=>⟨hk.1,hk.2⟩)))) (Reps.none _ _)));intro v676 w9 ho10 hb hg_ hnew_;clear hg_ hnew_;(first | rw [← Ny675.out] at ho10 | (simp only [Int.reduceToNat] at ho10;rw [← Ny675.out] at ho10));replace HO0_1:=zA (kK (zPV HO0_1.out) (Kd.N_base ho10) hb);replace HO1:=zA (kK (zPV HO1.out) (Kd.N_base ho10) hb);have HO677:=zA (jN ho10 (kP (zT HB.out GE674.out)));replace BK674:=zA (zB1 BK674.out hb);replace HB:=zA (kQ (zT HB.out GE674.out) hb);clear hb ho10;obtain ⟨Ao11,co11,eo11⟩:=Kd.N_slice HO677.out;subst eo11) | (refine zO (some 10) Tryd.func30 #[.agg #[.int .i64 a0_0,.slice A0_1 l0_1.length c0_1],.slice Ao11 y675.length co11] ?_;(with_reducible refine (impl_checkWords.calls k a0_0 _ _ l0_1 _ _ y675 t678 _ ?side1 ?side2 ?side3 ?side4 ?side5 A3.out).mono ?_);(case side1=>exact zS (kJ HO0_1.out).2.2);(case side2=>exact (kJ HO0_1.out).2.1);(case side3=>exact zS (Kd.N_reads' HO677.out).2.2);(case side4=>exact (Kd.N_reads' HO677.out).2.1);(case side5=>exact TabW.below HT.out (zT HB.out GE674.out));rintro e w12 ⟨rfl,hb⟩;refine ⟨_,rfl,?_⟩;replace HO0_1:=zA (kG (zPV HO0_1.out) hb);replace HO1:=zA (kG (zPV HO1.out) hb);replace HO677:=zA (kZ (zPN HO677.out) hb);replace BK674:=zA (zB1 BK674.out hb);replace HB:=zA (kQ (zT HB.out GE674.out) hb);(try clear hb);obtain ⟨hcz13_0,hcz13_1,hfz13_0,hfz13_1⟩:=zB3 BK674.out) | (refine zO (some 15) Tryd.func38 #[.agg #[.int .i64 a0_0,.slice A0_1 l0_1.length c0_1]] ?_;(with_reducible refine (impl_Alphabet_ties.calls a0_0 (fun k_=>((((P0_1_ k_ ∨ P1_ k_) ∨ w.heap.size ≤ k_) ∧ k_ ≠ gb674) ∧ some k_ ≠ (.slice Ao11 y675.length co11:Value).ownBlock)) _ _ l0_1 t679 _ ?side1 A5.out).mono ?_);(case side1=>exact HO0_1.out);rintro e w14 ⟨v680,rfl,ho0,hb⟩;refine ⟨_,rfl,?_⟩;replace HO0_1:=zA (kG (zPV HO0_1.out) hb);replace HO1:=zA (kG (zPV HO1.out) hb);have HO681:=zA (jM (kN (ok' := fun k_=>((P0_1_ k_ ∨ P1_ k_) ∨ w.heap.size ≤ k_) ∧ some k_ ≠ (.slice Ao11 y675.length co11:Value).ownBlock ∧ k_ ≠ gb674) ho0 (fun k_ hk_=>⟨Or.elim hk_ (fun hs_=>hs_.1.1) (fun hn_=>(.inr (Nat.le_trans (kP (zT HB.out GE674.out)) hn_))),Or.elim hk_ (fun hs_=>hs_.2) (fun hn_=>(jF (jA (zPN HO677.out)) k_ hn_)),Or.elim hk_ (fun hs_=>hs_.1.2) (fun hn_=>(jE (g:=gb674) (o:=.cells #[.int .i64 a0_0,.slice A0_1 l0_1.length c0_1] 28 (0,0)) (zR BK674.out) k_ hn_))⟩)) (kP (zT HB.out GE674.out)));replace HO677:=zA (kZ (zPN HO677.out) hb);replace BK674:=zA (zB1 BK674.out hb);replace HB:=zA (kQ (zT HB.out GE674.out) hb);(try clear hb);(try clear ho0);obtain ⟨Ao15,co15,eo15⟩:=Kd.V_slice HO681.out;subst eo15) | (refine zO (some 17) Tryd.func39 #[.slice Ao15 t679.length co15,.slice A1 l1.length c1] ?_;(with_reducible refine (impl_ties_foata.calls k _ _ t679 _ _ l1 t682 _ ?side1 ?side2 ?side3 ?side4 A6.out).mono ?_);(case side1=>exact zS (kJ HO681.out).2.2);(case side2=>exact (kJ HO681.out).2.1);(case side3=>exact zS (kJ HO1.out).2.2);(case side4=>exact (kJ HO1.out).2.1);rintro e w16 ⟨v683,rfl,ho0,hb⟩;refine ⟨_,rfl,?_⟩;replace HO0_1:=zA (kK (zPV HO0_1.out) (kC ho0) hb);replace HO1:=zA (kK (zPV HO1.out) (kC ho0) hb);replace HO677:=zA (Kd.N_elder' (zPN HO677.out) (kC ho0) hb);replace HO681:=zA (kK (zPV HO681.out) (kC ho0) hb);have HO684:=zA (kI (Kd.R_newM (M:=fun k_=>(w.heap.size ≤ k_)) ho0 (kP (zT HB.out GE674.out)) (fun k_ h_=>h_)) (kP (zT HB.out GE674.out)));replace BK674:=zA (zB1 BK674.out hb);replace HB:=zA (kQ (zT HB.out GE674.out) hb);(try clear hb);(try clear ho0)))
  go_ret2
  exact ⟨_,zr,by (with_reducible repeat (first | apply zF | apply zG | apply zH));exact kA HO684.out (fun _ hk=>hk.1),zT HB.out GE674.out⟩
 rw [if_neg c4] at H
 obtain ⟨c4b0,c4b1⟩:=zT2 c4
 simp only [Option.some.injEq,Prod.mk.injEq] at H
 obtain ⟨rfl,rfl⟩:=H
 go_enter Tryd.func19,Tryd.ntmps19
 go_wp2_with (first | (refine zBE 2 #[.int .i64 a0_0,.slice A0_1 l0_1.length c0_1] 28 ?_;intro gb674 hg w17 hbox hb;replace HO0_1:=zA (kG (jD (zPV HO0_1.out) gb674 (Nat.le_of_eq hg.symm)) hb);replace HO1:=zA (kG (jD (zPV HO1.out) gb674 (Nat.le_of_eq hg.symm)) hb);have BK674:=zA (hbox);have GW674:=zA (zBH hg HB.out);have GE674:=zA (zBH hg HB.out);replace HB:=zA (kQ (zQ HB.out) hb);clear hb hbox hg;obtain ⟨hcz18_0,hcz18_1,hfz18_0,hfz18_1⟩:=zB3 BK674.out) | ((with_reducible refine kS (N:=9) rfl ?_);refine Kd.N_lit (Kd.slice 2 (Kd.int .i64)) _ 22 ?hg (N' := 9) ?hd (xs:=([l1]:List (List Int))) (inner:=[.slice A1 l1.length c1]) (ok:=(fun k_=>((P0_1_ k_ ∨ P1_ k_) ∨ w.heap.size ≤ k_) ∧ k_ ≠ gb674)) (okp:=(fun k_=>((P0_1_ k_ ∨ P1_ k_) ∨ w.heap.size ≤ k_) ∧ k_ ≠ gb674)) ?hr ?hp (fun _ hk=>hk) ((show ∀ k_:Nat,(_:Nat) ≤ k_ → (fun k_=>((P0_1_ k_ ∨ P1_ k_) ∨ w.heap.size ≤ k_) ∧ k_ ≠ gb674) k_ from fun k_ hk=>⟨(.inr (Nat.le_trans (kP (zT HB.out GE674.out)) hk)),jE (g:=gb674) (o:=.cells #[.int .i64 a0_0,.slice A0_1 l0_1.length c0_1] 28 (0,0)) (zR BK674.out) k_ hk⟩) _ (Nat.le_refl _)) (kW _ _) (Nat.le_refl _) (by simp) ?_;(case hd=>rfl);(case hg=>rfl);(case hr=>first | (go_simp;done) | (go_simp;rfl));(case hp=>exact (Reps.one (show Kd.FK (Kd.slice 2 (Kd.int .i64)) _ _ l1 [.slice A1 l1.length c1] from (zFK (kN (ok' := (fun k_=>((P0_1_ k_ ∨ P1_ k_) ∨ w.heap.size ≤ k_) ∧ k_ ≠ gb674)) (HO1.out) (fun k_ hk=>⟨hk.1,hk.2⟩)))) (Reps.none _ _)));intro v676 w19 ho20 hb hg_ hnew_;clear hg_ hnew_;(first | rw [← Ny675.out] at ho20 | (simp only [Int.reduceToNat] at ho20;rw [← Ny675.out] at ho20));replace HO0_1:=zA (kK (zPV HO0_1.out) (Kd.N_base ho20) hb);replace HO1:=zA (kK (zPV HO1.out) (Kd.N_base ho20) hb);have HO677:=zA (jN ho20 (kP (zT HB.out GE674.out)));replace BK674:=zA (zB1 BK674.out hb);replace HB:=zA (kQ (zT HB.out GE674.out) hb);clear hb ho20;obtain ⟨Ao21,co21,eo21⟩:=Kd.N_slice HO677.out;subst eo21) | (refine zO (some 10) Tryd.func30 #[.agg #[.int .i64 a0_0,.slice A0_1 l0_1.length c0_1],.slice Ao21 y675.length co21] ?_;(with_reducible refine (impl_checkWords.calls k a0_0 _ _ l0_1 _ _ y675 t678 _ ?side1 ?side2 ?side3 ?side4 ?side5 A3.out).mono ?_);(case side1=>exact zS (kJ HO0_1.out).2.2);(case side2=>exact (kJ HO0_1.out).2.1);(case side3=>exact zS (Kd.N_reads' HO677.out).2.2);(case side4=>exact (Kd.N_reads' HO677.out).2.1);(case side5=>exact TabW.below HT.out (zT HB.out GE674.out));rintro e w22 ⟨rfl,hb⟩;refine ⟨_,rfl,?_⟩;replace HO0_1:=zA (kG (zPV HO0_1.out) hb);replace HO1:=zA (kG (zPV HO1.out) hb);replace HO677:=zA (kZ (zPN HO677.out) hb);replace BK674:=zA (zB1 BK674.out hb);replace HB:=zA (kQ (zT HB.out GE674.out) hb);(try clear hb)))
 go_ret2
 exact ⟨_,zr,zn,zT HB.out GE674.out⟩
def impl_NormalForm.f (k:Nat) (a0_0:Int) (l0_1:List Int) (l1:List Int):Option (List Int × Int):=(impl_checkWords.f k a0_0 l0_1 (([l1]:List (List Int)))).bind fun t689=>(if t689 = 0 then ((impl_Alphabet_ties.f a0_0 l0_1).bind fun t690=>((impl_ties_normal.f k t690 l1).bind fun t693=>(some (t693,0)))) else (some (([]:List Int),t689)))
set_option maxHeartbeats 8000000 in
set_option maxRecDepth 100000 in
theorem impl_NormalForm.calls (k:Nat) (a0_0:Int) (P0_1_:Nat → Prop) (A0_1:Option Addr) (c0_1:Nat) (l0_1:List Int) (P1_:Nat → Prop) (A1:Option Addr) (c1:Nat) (l1:List Int) (r1:List Int) (r2:Int) (w:World) (hs0_1:Kd.V (Kd.int .i64) 2 w w.heap.size (fun k_=>P0_1_ k_) (.slice A0_1 l0_1.length c0_1) l0_1) (hs1:Kd.V (Kd.int .i64) 2 w w.heap.size (fun k_=>P1_ k_) (.slice A1 l1.length c1) l1) (hT:TabW w) (h:impl_NormalForm.f k a0_0 l0_1 l1 = some (r1,r2)) :
  Calls Tryd.prog 20 #[.agg #[.int .i64 a0_0,.slice A0_1 l0_1.length c0_1],.slice A1 l1.length c1] w fun e w' => ∃ v0_:Value,e = .returned (.tuple #[v0_,.int .i64 r2]) ∧ Kd.R (Kd.int .i64) 2 w' w.heap.size (fun k_=>(w.heap.size ≤ k_)) v0_ r1 ∧ Below w.heap.size w w' := by
 have hu28:=Tryd.underlying28
 have HT:=zA hT
 clear hT
 have HO0_1:=zA (show Kd.V (Kd.int .i64) 2 w w.heap.size (fun k_=>((P0_1_ k_ ∨ P1_ k_) ∨ w.heap.size ≤ k_)) (.slice A0_1 l0_1.length c0_1) l0_1 from kN hs0_1 (fun k_ hk=>.inl (.inl hk)))
 have HO1:=zA (show Kd.V (Kd.int .i64) 2 w w.heap.size (fun k_=>((P0_1_ k_ ∨ P1_ k_) ∨ w.heap.size ≤ k_)) (.slice A1 l1.length c1) l1 from kN hs1 (fun k_ hk=>.inl (.inr hk)))
 have HB:=zA (kW w.heap.size w)
 have H:=h
 unfold impl_NormalForm.f at H
 clear h
 obtain ⟨y686,hy686⟩:∃ y_:List (List Int),y_ = (([l1]:List (List Int))):=⟨_,rfl⟩
 replace H:((impl_checkWords.f k a0_0 l0_1 y686).bind fun t689=>(if t689 = 0 then ((impl_Alphabet_ties.f a0_0 l0_1).bind fun t690=>((impl_ties_normal.f k t690 l1).bind fun t693=>(some (t693,0)))) else (some (([]:List Int),t689)))) = some (r1,r2):=zy hy686 H
 have Ny686:=zA hy686
 clear hy686
 obtain ⟨t689,A3,H⟩:=zb H
 try dsimp only at H
 by_cases c4:t689 = 0
 ·rw [if_pos c4] at H
  obtain ⟨c4b0,c4b1⟩:=zT1 c4
  clear c4
  obtain ⟨t690,A5,H⟩:=zb H
  try dsimp only at H
  obtain ⟨t693,A6,H⟩:=zb H
  try dsimp only at H
  simp only [Option.some.injEq,Prod.mk.injEq] at H
  obtain ⟨rfl,rfl⟩:=H
  go_enter Tryd.func20,Tryd.ntmps20
  go_wp2_with (first | (refine zBE 2 #[.int .i64 a0_0,.slice A0_1 l0_1.length c0_1] 28 ?_;intro gb685 hg w7 hbox hb;replace HO0_1:=zA (kG (jD (zPV HO0_1.out) gb685 (Nat.le_of_eq hg.symm)) hb);replace HO1:=zA (kG (jD (zPV HO1.out) gb685 (Nat.le_of_eq hg.symm)) hb);have BK685:=zA (hbox);have GW685:=zA (zBH hg HB.out);have GE685:=zA (zBH hg HB.out);replace HB:=zA (kQ (zQ HB.out) hb);clear hb hbox hg;obtain ⟨hcz8_0,hcz8_1,hfz8_0,hfz8_1⟩:=zB3 BK685.out) | ((with_reducible refine kS (N:=9) rfl ?_);refine Kd.N_lit (Kd.slice 2 (Kd.int .i64)) _ 22 ?hg (N' := 9) ?hd (xs:=([l1]:List (List Int))) (inner:=[.slice A1 l1.length c1]) (ok:=(fun k_=>((P0_1_ k_ ∨ P1_ k_) ∨ w.heap.size ≤ k_) ∧ k_ ≠ gb685)) (okp:=(fun k_=>((P0_1_ k_ ∨ P1_ k_) ∨ w.heap.size ≤ k_) ∧ k_ ≠ gb685)) ?hr ?hp (fun _ hk=>hk) ((show ∀ k_:Nat,(_:Nat) ≤ k_ → (fun k_=>((P0_1_ k_ ∨ P1_ k_) ∨ w.heap.size ≤ k_) ∧ k_ ≠ gb685) k_ from fun k_ hk=>⟨(.inr (Nat.le_trans (kP (zT HB.out GE685.out)) hk)),jE (g:=gb685) (o:=.cells #[.int .i64 a0_0,.slice A0_1 l0_1.length c0_1] 28 (0,0)) (zR BK685.out) k_ hk⟩) _ (Nat.le_refl _)) (kW _ _) (Nat.le_refl _) (by simp) ?_;(case hd=>rfl);(case hg=>rfl);(case hr=>first | (go_simp;done) | (go_simp;rfl));(case hp=>exact (Reps.one (show Kd.FK (Kd.slice 2 (Kd.int .i64)) _ _ l1 [.slice A1 l1.length c1] from (zFK (kN (ok' := (fun k_=>((P0_1_ k_ ∨ P1_ k_) ∨ w.heap.size ≤ k_) ∧ k_ ≠ gb685)) (HO1.out) (fun k_ hk=>⟨hk.1,hk.2⟩)))) (Reps.none _ _)));intro v687 w9 ho10 hb hg_ hnew_;clear hg_ hnew_;(first | rw [← Ny686.out] at ho10 | (simp only [Int.reduceToNat] at ho10;rw [← Ny686.out] at ho10));replace HO0_1:=zA (kK (zPV HO0_1.out) (Kd.N_base ho10) hb);replace HO1:=zA (kK (zPV HO1.out) (Kd.N_base ho10) hb);have HO688:=zA (jN ho10 (kP (zT HB.out GE685.out)));replace BK685:=zA (zB1 BK685.out hb);replace HB:=zA (kQ (zT HB.out GE685.out) hb);clear hb ho10;obtain ⟨Ao11,co11,eo11⟩:=Kd.N_slice HO688.out;subst eo11) | (refine zO (some 10) Tryd.func30 #[.agg #[.int .i64 a0_0,.slice A0_1 l0_1.length c0_1],.slice Ao11 y686.length co11] ?_;(with_reducible refine (impl_checkWords.calls k a0_0 _ _ l0_1 _ _ y686 t689 _ ?side1 ?side2 ?side3 ?side4 ?side5 A3.out).mono ?_);(case side1=>exact zS (kJ HO0_1.out).2.2);(case side2=>exact (kJ HO0_1.out).2.1);(case side3=>exact zS (Kd.N_reads' HO688.out).2.2);(case side4=>exact (Kd.N_reads' HO688.out).2.1);(case side5=>exact TabW.below HT.out (zT HB.out GE685.out));rintro e w12 ⟨rfl,hb⟩;refine ⟨_,rfl,?_⟩;replace HO0_1:=zA (kG (zPV HO0_1.out) hb);replace HO1:=zA (kG (zPV HO1.out) hb);replace HO688:=zA (kZ (zPN HO688.out) hb);replace BK685:=zA (zB1 BK685.out hb);replace HB:=zA (kQ (zT HB.out GE685.out) hb);(try clear hb);obtain ⟨hcz13_0,hcz13_1,hfz13_0,hfz13_1⟩:=zB3 BK685.out) | (refine zO (some 15) Tryd.func38 #[.agg #[.int .i64 a0_0,.slice A0_1 l0_1.length c0_1]] ?_;(with_reducible refine (impl_Alphabet_ties.calls a0_0 (fun k_=>((((P0_1_ k_ ∨ P1_ k_) ∨ w.heap.size ≤ k_) ∧ k_ ≠ gb685) ∧ some k_ ≠ (.slice Ao11 y686.length co11:Value).ownBlock)) _ _ l0_1 t690 _ ?side1 A5.out).mono ?_);(case side1=>exact HO0_1.out);rintro e w14 ⟨v691,rfl,ho0,hb⟩;refine ⟨_,rfl,?_⟩;replace HO0_1:=zA (kG (zPV HO0_1.out) hb);replace HO1:=zA (kG (zPV HO1.out) hb);have HO692:=zA (jM (kN (ok' := fun k_=>((P0_1_ k_ ∨ P1_ k_) ∨ w.heap.size ≤ k_) ∧ some k_ ≠ (.slice Ao11 y686.length co11:Value).ownBlock ∧ k_ ≠ gb685) ho0 (fun k_ hk_=>⟨Or.elim hk_ (fun hs_=>hs_.1.1) (fun hn_=>(.inr (Nat.le_trans (kP (zT HB.out GE685.out)) hn_))),Or.elim hk_ (fun hs_=>hs_.2) (fun hn_=>(jF (jA (zPN HO688.out)) k_ hn_)),Or.elim hk_ (fun hs_=>hs_.1.2) (fun hn_=>(jE (g:=gb685) (o:=.cells #[.int .i64 a0_0,.slice A0_1 l0_1.length c0_1] 28 (0,0)) (zR BK685.out) k_ hn_))⟩)) (kP (zT HB.out GE685.out)));replace HO688:=zA (kZ (zPN HO688.out) hb);replace BK685:=zA (zB1 BK685.out hb);replace HB:=zA (kQ (zT HB.out GE685.out) hb);(try clear hb);(try clear ho0);obtain ⟨Ao15,co15,eo15⟩:=Kd.V_slice HO692.out;subst eo15) | (refine zO (some 17) Tryd.func40 #[.slice Ao15 t690.length co15,.slice A1 l1.length c1] ?_;(with_reducible refine (impl_ties_normal.calls k _ _ t690 (fun k_=>((((P0_1_ k_ ∨ P1_ k_) ∨ w.heap.size ≤ k_) ∧ k_ ≠ gb685) ∧ some k_ ≠ (.slice Ao11 y686.length co11:Value).ownBlock)) _ _ l1 t693 _ ?side1 ?side2 ?side3 ?side4 A6.out).mono ?_);(case side1=>exact zS (kJ HO692.out).2.2);(case side2=>exact (kJ HO692.out).2.1);(case side3=>exact HO1.out);(case side4=>exact TabW.below HT.out (zT HB.out GE685.out));rintro e w16 ⟨v694,rfl,ho0,hb⟩;refine ⟨_,rfl,?_⟩;replace HO0_1:=zA (kK (zPV HO0_1.out) (kC ho0) hb);replace HO1:=zA (kK (zPV HO1.out) (kC ho0) hb);replace HO688:=zA (Kd.N_elder' (zPN HO688.out) (kC ho0) hb);replace HO692:=zA (kK (zPV HO692.out) (kC ho0) hb);have HO695:=zA (kI (Kd.R_newM (M:=fun k_=>(w.heap.size ≤ k_)) (kA (ok' := fun k_=>True) ho0 (fun _ hk_=>trivial)) (kP (zT HB.out GE685.out)) (fun k_ h_=>h_)) (kP (zT HB.out GE685.out)));replace BK685:=zA (zB1 BK685.out hb);replace HB:=zA (kQ (zT HB.out GE685.out) hb);(try clear hb);(try clear ho0)))
  go_ret2
  exact ⟨_,zr,by (with_reducible repeat (first | apply zF | apply zG | apply zH));exact kA HO695.out (fun _ hk=>hk.1),zT HB.out GE685.out⟩
 rw [if_neg c4] at H
 obtain ⟨c4b0,c4b1⟩:=zT2 c4
 simp only [Option.some.injEq,Prod.mk.injEq] at H
 obtain ⟨rfl,rfl⟩:=H
 go_enter Tryd.func20,Tryd.ntmps20
 go_wp2_with (first | (refine zBE 2 #[.int .i64 a0_0,.slice A0_1 l0_1.length c0_1] 28 ?_;intro gb685 hg w17 hbox hb;replace HO0_1:=zA (kG (jD (zPV HO0_1.out) gb685 (Nat.le_of_eq hg.symm)) hb);replace HO1:=zA (kG (jD (zPV HO1.out) gb685 (Nat.le_of_eq hg.symm)) hb);have BK685:=zA (hbox);have GW685:=zA (zBH hg HB.out);have GE685:=zA (zBH hg HB.out);replace HB:=zA (kQ (zQ HB.out) hb);clear hb hbox hg;obtain ⟨hcz18_0,hcz18_1,hfz18_0,hfz18_1⟩:=zB3 BK685.out) | ((with_reducible refine kS (N:=9) rfl ?_);refine Kd.N_lit (Kd.slice 2 (Kd.int .i64)) _ 22 ?hg (N' := 9) ?hd (xs:=([l1]:List (List Int))) (inner:=[.slice A1 l1.length c1]) (ok:=(fun k_=>((P0_1_ k_ ∨ P1_ k_) ∨ w.heap.size ≤ k_) ∧ k_ ≠ gb685)) (okp:=(fun k_=>((P0_1_ k_ ∨ P1_ k_) ∨ w.heap.size ≤ k_) ∧ k_ ≠ gb685)) ?hr ?hp (fun _ hk=>hk) ((show ∀ k_:Nat,(_:Nat) ≤ k_ → (fun k_=>((P0_1_ k_ ∨ P1_ k_) ∨ w.heap.size ≤ k_) ∧ k_ ≠ gb685) k_ from fun k_ hk=>⟨(.inr (Nat.le_trans (kP (zT HB.out GE685.out)) hk)),jE (g:=gb685) (o:=.cells #[.int .i64 a0_0,.slice A0_1 l0_1.length c0_1] 28 (0,0)) (zR BK685.out) k_ hk⟩) _ (Nat.le_refl _)) (kW _ _) (Nat.le_refl _) (by simp) ?_;(case hd=>rfl);(case hg=>rfl);(case hr=>first | (go_simp;done) | (go_simp;rfl));(case hp=>exact (Reps.one (show Kd.FK (Kd.slice 2 (Kd.int .i64)) _ _ l1 [.slice A1 l1.length c1] from (zFK (kN (ok' := (fun k_=>((P0_1_ k_ ∨ P1_ k_) ∨ w.heap.size ≤ k_) ∧ k_ ≠ gb685)) (HO1.out) (fun k_ hk=>⟨hk.1,hk.2⟩)))) (Reps.none _ _)));intro v687 w19 ho20 hb hg_ hnew_;clear hg_ hnew_;(first | rw [← Ny686.out] at ho20 | (simp only [Int.reduceToNat] at ho20;rw [← Ny686.out] at ho20));replace HO0_1:=zA (kK (zPV HO0_1.out) (Kd.N_base ho20) hb);replace HO1:=zA (kK (zPV HO1.out) (Kd.N_base ho20) hb);have HO688:=zA (jN ho20 (kP (zT HB.out GE685.out)));replace BK685:=zA (zB1 BK685.out hb);replace HB:=zA (kQ (zT HB.out GE685.out) hb);clear hb ho20;obtain ⟨Ao21,co21,eo21⟩:=Kd.N_slice HO688.out;subst eo21) | (refine zO (some 10) Tryd.func30 #[.agg #[.int .i64 a0_0,.slice A0_1 l0_1.length c0_1],.slice Ao21 y686.length co21] ?_;(with_reducible refine (impl_checkWords.calls k a0_0 _ _ l0_1 _ _ y686 t689 _ ?side1 ?side2 ?side3 ?side4 ?side5 A3.out).mono ?_);(case side1=>exact zS (kJ HO0_1.out).2.2);(case side2=>exact (kJ HO0_1.out).2.1);(case side3=>exact zS (Kd.N_reads' HO688.out).2.2);(case side4=>exact (Kd.N_reads' HO688.out).2.1);(case side5=>exact TabW.below HT.out (zT HB.out GE685.out));rintro e w22 ⟨rfl,hb⟩;refine ⟨_,rfl,?_⟩;replace HO0_1:=zA (kG (zPV HO0_1.out) hb);replace HO1:=zA (kG (zPV HO1.out) hb);replace HO688:=zA (kZ (zPN HO688.out) hb);replace BK685:=zA (zB1 BK685.out hb);replace HB:=zA (kQ (zT HB.out GE685.out) hb);(try clear hb)))
 go_ret2
 exact ⟨_,zr,zn,zT HB.out GE685.out⟩
def impl_OrderOf.f (k:Nat) (a0_0:Int) (l0_1:List Int) (l1:List Int):Option (List Int × Int):=(impl_checkWords.f k a0_0 l0_1 (([l1]:List (List Int)))).bind fun t700=>(if t700 = 0 then ((impl_positions.f k a0_0 l0_1 l1).bind fun bt701=>(some (bt701.2,0))) else (some (([]:List Int),t700)))
set_option maxHeartbeats 8000000 in
set_option maxRecDepth 100000 in
theorem impl_OrderOf.calls (k:Nat) (a0_0:Int) (A0_1:Option Addr) (c0_1:Nat) (l0_1:List Int) (P1_:Nat → Prop) (A1:Option Addr) (c1:Nat) (l1:List Int) (r1:List Int) (r2:Int) (w:World) (hr0_1:Kd.C (Kd.int .i64) w A0_1 l0_1.length l0_1) (hc0_1:l0_1.length ≤ c0_1) (hs1:Kd.V (Kd.int .i64) 2 w w.heap.size (fun k_=>P1_ k_) (.slice A1 l1.length c1) l1) (hT:TabW w) (h:impl_OrderOf.f k a0_0 l0_1 l1 = some (r1,r2)) :
  Calls Tryd.prog 21 #[.agg #[.int .i64 a0_0,.slice A0_1 l0_1.length c0_1],.slice A1 l1.length c1] w fun e w' => ∃ v0_:Value,e = .returned (.tuple #[v0_,.int .i64 r2]) ∧ Kd.R (Kd.int .i64) 2 w' w.heap.size (fun k_=>(w.heap.size ≤ k_)) v0_ r1 ∧ Below w.heap.size w w' := by
 have hu28:=Tryd.underlying28
 have HT:=zA hT
 clear hT
 have HR0_1:=zA hr0_1
 have HC0_1:=zA hc0_1
 clear hr0_1 hc0_1
 have HO1:=zA (show Kd.V (Kd.int .i64) 2 w w.heap.size (fun k_=>(P1_ k_ ∨ w.heap.size ≤ k_)) (.slice A1 l1.length c1) l1 from kN hs1 (fun k_ hk=>.inl hk))
 have HB:=zA (kW w.heap.size w)
 have H:=h
 unfold impl_OrderOf.f at H
 clear h
 obtain ⟨y697,hy697⟩:∃ y_:List (List Int),y_ = (([l1]:List (List Int))):=⟨_,rfl⟩
 replace H:((impl_checkWords.f k a0_0 l0_1 y697).bind fun t700=>(if t700 = 0 then ((impl_positions.f k a0_0 l0_1 l1).bind fun bt701=>(some (bt701.2,0))) else (some (([]:List Int),t700)))) = some (r1,r2):=zy hy697 H
 have Ny697:=zA hy697
 clear hy697
 obtain ⟨t700,A3,H⟩:=zb H
 try dsimp only at H
 by_cases c4:t700 = 0
 ·rw [if_pos c4] at H
  obtain ⟨c4b0,c4b1⟩:=zT1 c4
  clear c4
  obtain ⟨⟨t701,t704⟩,A5,H⟩:=zb H
  try dsimp only at H
  simp only [Option.some.injEq,Prod.mk.injEq] at H
  obtain ⟨rfl,rfl⟩:=H
  go_enter Tryd.func21,Tryd.ntmps21
  go_wp2_with (first | (refine zBE 2 #[.int .i64 a0_0,.slice A0_1 l0_1.length c0_1] 28 ?_;intro gb696 hg w6 hbox hb;replace HO1:=zA (kG (jD (zPV HO1.out) gb696 (Nat.le_of_eq hg.symm)) hb);have BK696:=zA (hbox);have GW696:=zA (zBH hg HB.out);have GE696:=zA (zBH hg HB.out);replace HB:=zA (kQ (zQ HB.out) hb);clear hb hbox hg;obtain ⟨hcz7_0,hcz7_1,hfz7_0,hfz7_1⟩:=zB3 BK696.out) | ((with_reducible refine kS (N:=11) rfl ?_);refine Kd.N_lit (Kd.slice 2 (Kd.int .i64)) _ 22 ?hg (N' := 11) ?hd (xs:=([l1]:List (List Int))) (inner:=[.slice A1 l1.length c1]) (ok:=(fun k_=>(P1_ k_ ∨ w.heap.size ≤ k_) ∧ k_ ≠ gb696)) (okp:=(fun k_=>(P1_ k_ ∨ w.heap.size ≤ k_) ∧ k_ ≠ gb696)) ?hr ?hp (fun _ hk=>hk) ((show ∀ k_:Nat,(_:Nat) ≤ k_ → (fun k_=>(P1_ k_ ∨ w.heap.size ≤ k_) ∧ k_ ≠ gb696) k_ from fun k_ hk=>⟨(.inr (Nat.le_trans (kP (zT HB.out GE696.out)) hk)),jE (g:=gb696) (o:=.cells #[.int .i64 a0_0,.slice A0_1 l0_1.length c0_1] 28 (0,0)) (zR BK696.out) k_ hk⟩) _ (Nat.le_refl _)) (kW _ _) (Nat.le_refl _) (by simp) ?_;(case hd=>rfl);(case hg=>rfl);(case hr=>first | (go_simp;done) | (go_simp;rfl));(case hp=>exact (Reps.one (show Kd.FK (Kd.slice 2 (Kd.int .i64)) _ _ l1 [.slice A1 l1.length c1] from (zFK (kN (ok' := (fun k_=>(P1_ k_ ∨ w.heap.size ≤ k_) ∧ k_ ≠ gb696)) (HO1.out) (fun k_ hk=>⟨hk.1,hk.2⟩)))) (Reps.none _ _)));intro v698 w8 ho9 hb hg_ hnew_;clear hg_ hnew_;(first | rw [← Ny697.out] at ho9 | (simp only [Int.reduceToNat] at ho9;rw [← Ny697.out] at ho9));replace HO1:=zA (kK (zPV HO1.out) (Kd.N_base ho9) hb);have HO699:=zA (jN ho9 (kP (zT HB.out GE696.out)));replace BK696:=zA (zB1 BK696.out hb);replace HB:=zA (kQ (zT HB.out GE696.out) hb);clear hb ho9;obtain ⟨Ao10,co10,eo10⟩:=Kd.N_slice HO699.out;subst eo10) | (refine zO (some 12) Tryd.func30 #[.agg #[.int .i64 a0_0,.slice A0_1 l0_1.length c0_1],.slice Ao10 y697.length co10] ?_;(with_reducible refine (impl_checkWords.calls k a0_0 _ _ l0_1 _ _ y697 t700 _ ?side1 ?side2 ?side3 ?side4 ?side5 A3.out).mono ?_);(case side1=>exact zS (kO HR0_1.out HB.out));(case side2=>exact HC0_1.out);(case side3=>exact zS (Kd.N_reads' HO699.out).2.2);(case side4=>exact (Kd.N_reads' HO699.out).2.1);(case side5=>exact TabW.below HT.out (zT HB.out GE696.out));rintro e w11 ⟨rfl,hb⟩;refine ⟨_,rfl,?_⟩;replace HO1:=zA (kG (zPV HO1.out) hb);replace HO699:=zA (kZ (zPN HO699.out) hb);replace BK696:=zA (zB1 BK696.out hb);replace HB:=zA (kQ (zT HB.out GE696.out) hb);(try clear hb);obtain ⟨hcz12_0,hcz12_1,hfz12_0,hfz12_1⟩:=zB3 BK696.out) | (refine zO (some 19) Tryd.func31 #[.agg #[.int .i64 a0_0,.slice A0_1 l0_1.length c0_1],.slice A1 l1.length c1] ?_;(with_reducible refine (impl_positions.calls k a0_0 _ _ l0_1 _ _ l1 t701 t704 _ ?side1 ?side2 ?side3 ?side4 ?side5 A5.out).mono ?_);(case side1=>exact zS (kO HR0_1.out HB.out));(case side2=>exact HC0_1.out);(case side3=>exact zS (kJ HO1.out).2.2);(case side4=>exact (kJ HO1.out).2.1);(case side5=>exact TabW.below HT.out (zT HB.out GE696.out));rintro e w13 ⟨v702,v705,rfl,ho0,ho1,hb⟩;refine ⟨_,rfl,?_⟩;replace HO1:=zA (kN (Kd.V_told (Kd.V_told (Kd.V_old (zPV HO1.out) hb) (kC ho0)) (kC ho1)) (fun _ h_=>h_.1));replace HO699:=zA (Kd.N_mono (Kd.N_told (Kd.N_told (Kd.N_old (zPN HO699.out) hb) (kC ho0)) (kC ho1)) (fun _ h_=>h_.1));have HO703:=zA (kI (Kd.R_newM (M:=fun k_=>(w.heap.size ≤ k_)) ho0 (kP (zT HB.out GE696.out)) (fun k_ h_=>h_)) (kP (zT HB.out GE696.out)));have HO706:=zA (kI (Kd.R_newM (M:=fun k_=>(w.heap.size ≤ k_)) ho1 (kP (zT HB.out GE696.out)) (fun k_ h_=>h_)) (kP (zT HB.out GE696.out)));replace BK696:=zA (zB1 BK696.out hb);replace HB:=zA (kQ (zT HB.out GE696.out) hb);(try clear hb);(try clear ho0);(try clear ho1)))
  go_ret2
  exact ⟨_,zr,by (with_reducible repeat (first | apply zF | apply zG | apply zH));exact kA HO706.out (fun _ hk=>hk.1),zT HB.out GE696.out⟩
 rw [if_neg c4] at H
 obtain ⟨c4b0,c4b1⟩:=zT2 c4
 simp only [Option.some.injEq,Prod.mk.injEq] at H
 obtain ⟨rfl,rfl⟩:=H
 go_enter Tryd.func21,Tryd.ntmps21
 go_wp2_with (first | (refine zBE 2 #[.int .i64 a0_0,.slice A0_1 l0_1.length c0_1] 28 ?_;intro gb696 hg w14 hbox hb;replace HO1:=zA (kG (jD (zPV HO1.out) gb696 (Nat.le_of_eq hg.symm)) hb);have BK696:=zA (hbox);have GW696:=zA (zBH hg HB.out);have GE696:=zA (zBH hg HB.out);replace HB:=zA (kQ (zQ HB.out) hb);clear hb hbox hg;obtain ⟨hcz15_0,hcz15_1,hfz15_0,hfz15_1⟩:=zB3 BK696.out) | ((with_reducible refine kS (N:=11) rfl ?_);refine Kd.N_lit (Kd.slice 2 (Kd.int .i64)) _ 22 ?hg (N' := 11) ?hd (xs:=([l1]:List (List Int))) (inner:=[.slice A1 l1.length c1]) (ok:=(fun k_=>(P1_ k_ ∨ w.heap.size ≤ k_) ∧ k_ ≠ gb696)) (okp:=(fun k_=>(P1_ k_ ∨ w.heap.size ≤ k_) ∧ k_ ≠ gb696)) ?hr ?hp (fun _ hk=>hk) ((show ∀ k_:Nat,(_:Nat) ≤ k_ → (fun k_=>(P1_ k_ ∨ w.heap.size ≤ k_) ∧ k_ ≠ gb696) k_ from fun k_ hk=>⟨(.inr (Nat.le_trans (kP (zT HB.out GE696.out)) hk)),jE (g:=gb696) (o:=.cells #[.int .i64 a0_0,.slice A0_1 l0_1.length c0_1] 28 (0,0)) (zR BK696.out) k_ hk⟩) _ (Nat.le_refl _)) (kW _ _) (Nat.le_refl _) (by simp) ?_;(case hd=>rfl);(case hg=>rfl);(case hr=>first | (go_simp;done) | (go_simp;rfl));(case hp=>exact (Reps.one (show Kd.FK (Kd.slice 2 (Kd.int .i64)) _ _ l1 [.slice A1 l1.length c1] from (zFK (kN (ok' := (fun k_=>(P1_ k_ ∨ w.heap.size ≤ k_) ∧ k_ ≠ gb696)) (HO1.out) (fun k_ hk=>⟨hk.1,hk.2⟩)))) (Reps.none _ _)));intro v698 w16 ho17 hb hg_ hnew_;clear hg_ hnew_;(first | rw [← Ny697.out] at ho17 | (simp only [Int.reduceToNat] at ho17;rw [← Ny697.out] at ho17));replace HO1:=zA (kK (zPV HO1.out) (Kd.N_base ho17) hb);have HO699:=zA (jN ho17 (kP (zT HB.out GE696.out)));replace BK696:=zA (zB1 BK696.out hb);replace HB:=zA (kQ (zT HB.out GE696.out) hb);clear hb ho17;obtain ⟨Ao18,co18,eo18⟩:=Kd.N_slice HO699.out;subst eo18) | (refine zO (some 12) Tryd.func30 #[.agg #[.int .i64 a0_0,.slice A0_1 l0_1.length c0_1],.slice Ao18 y697.length co18] ?_;(with_reducible refine (impl_checkWords.calls k a0_0 _ _ l0_1 _ _ y697 t700 _ ?side1 ?side2 ?side3 ?side4 ?side5 A3.out).mono ?_);(case side1=>exact zS (kO HR0_1.out HB.out));(case side2=>exact HC0_1.out);(case side3=>exact zS (Kd.N_reads' HO699.out).2.2);(case side4=>exact (Kd.N_reads' HO699.out).2.1);(case side5=>exact TabW.below HT.out (zT HB.out GE696.out));rintro e w19 ⟨rfl,hb⟩;refine ⟨_,rfl,?_⟩;replace HO1:=zA (kG (zPV HO1.out) hb);replace HO699:=zA (kZ (zPN HO699.out) hb);replace BK696:=zA (zB1 BK696.out hb);replace HB:=zA (kQ (zT HB.out GE696.out) hb);(try clear hb)))
 go_ret2
 exact ⟨_,zr,zn,zT HB.out GE696.out⟩
end Go.Proofs.YtpenijicdldipaaDoor.PAll
