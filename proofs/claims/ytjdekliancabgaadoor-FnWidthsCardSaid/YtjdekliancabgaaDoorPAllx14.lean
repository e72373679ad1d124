import Derived.Test.YtjdekliancabgaaDoorPAllx0
import Derived.Test.YtjdekliancabgaaDoorPAllx1
import Derived.Test.YtjdekliancabgaaDoorPAllx2
import Derived.Test.YtjdekliancabgaaDoorPAllx11
import Derived.Test.YtjdekliancabgaaDoorPAllx12
import Derived.Test.YtjdekliancabgaaDoorPAllx13
namespace Go.Proofs.YtjdekliancabgaaDoor.PAll
open Go.RowKit Go.Proofs.YtjdekliancabgaaDoor.T Go.Proofs.YtjdekliancabgaaDoorW.PrintWords Go.Proofs.YtjdekliancabgaaDoorW.PrintLast Go.Proofs.YtjdekliancabgaaDoorW.PrintMore
attribute [local go_sem] max2_int min2_int max_two min_two max_three min_three max_four min_four   -- for this text's walks alone
set_option linter.unusedVariables false
set_option linter.unusedSimpArgs false
mutual
def impl_ties_foata.l0:Nat → List Int → List Int → List Int → Int → Int → Option (List Int)
 | 0,_,_,_,_,_=>none
 | k + 1,x0,x5,x10,x11,x12=>if x12 < x11 then (if 0 ≤ x12 then (if x12 < (x10.length:Int) then (impl_ties_foata.l1 k x0 x5 (rd x10 x12) (x5.length:Int) x10 x11 x12) else (none)) else (none)) else (some x5)
def impl_ties_foata.l1:Nat → List Int → List Int → Int → Int → List Int → Int → Int → Option (List Int)
 | 0,_,_,_,_,_,_,_=>none
 | k + 1,x0,x5,x7,x8,x10,x11,x12=>if x8 > 0 then (if 0 ≤ (wrap64 (x8 - 1)) then (if (wrap64 (x8 - 1)) < (x5.length:Int) then (if 0 ≤ x7 then (if x7 < (x0.length:Int) then (if (Go.bits .and .i64 (rd x5 (wrap64 (x8 - 1))) (rd x0 x7)) = 0 then (impl_ties_foata.l1 k x0 x5 x7 (wrap64 (x8 - 1)) x10 x11 x12) else (if x8 = (x5.length:Int) then (if x5.length < 17592186044416 then ((some (x5 ++ [0]:List Int)).bind fun y866=>(if 0 ≤ x8 then (if x8 < (y866.length:Int) then ((impl_one.f x7).bind fun t870=>(impl_ties_foata.l0 k x0 (y866.set (x8:Int).toNat (Go.bits .or .i64 (rd y866 x8) t870)) x10 x11 (wrap64 (x12 + 1)))) else (none)) else (none))) else (none)) else (if 0 ≤ x8 then (if x8 < (x5.length:Int) then ((impl_one.f x7).bind fun t873=>(impl_ties_foata.l0 k x0 (x5.set (x8:Int).toNat (Go.bits .or .i64 (rd x5 x8) t873)) x10 x11 (wrap64 (x12 + 1)))) else (none)) else (none)))) else (none)) else (none)) else (none)) else (none)) else (if x8 = (x5.length:Int) then (if x5.length < 17592186044416 then ((some (x5 ++ [0]:List Int)).bind fun y875=>(if 0 ≤ x8 then (if x8 < (y875.length:Int) then ((impl_one.f x7).bind fun t879=>(impl_ties_foata.l0 k x0 (y875.set (x8:Int).toNat (Go.bits .or .i64 (rd y875 x8) t879)) x10 x11 (wrap64 (x12 + 1)))) else (none)) else (none))) else (none)) else (if 0 ≤ x8 then (if x8 < (x5.length:Int) then ((impl_one.f x7).bind fun t882=>(impl_ties_foata.l0 k x0 (x5.set (x8:Int).toNat (Go.bits .or .i64 (rd x5 x8) t882)) x10 x11 (wrap64 (x12 + 1)))) else (none)) else (none)))
end
def impl_ties_foata.f (k:Nat) (l0:List Int) (l1:List Int):Option (List Int):=impl_ties_foata.l0 k l0 (([]:List Int)) l1 (l1.length:Int) 0
def impl_ties_foata.T6:Bool × List (List Nat × List Nat):=(true,[([],[]),([0],[0]),([1],[1]),([2],[2]),([2],[2]),([4,2],[2,4]),([3,5,2],[2,3,5]),([6,2],[2,6]),([2],[2]),([2],[2]),([8,9,2],[2,8,9]),([10,2],[2,10]),([7,11,2],[2,7,11]),([12,2],[2,12]),([2,13],[2,13])])
def impl_ties_foata.B6:List Nat:=[0,1,3,7,7,23,63,127,7,7,775,1799,4095,8191,16383]
theorem impl_ties_foata.tab6:rtab .any (opsOf Tryd.f39 6) = impl_ties_foata.T6:=by kernel_rfl
theorem impl_ties_foata.bits6:waitsOk impl_ties_foata.T6.2 impl_ties_foata.B6 = true:=by kernel_rfl
def impl_ties_foata.T10:Bool × List (List Nat × List Nat):=(true,[([],[]),([],[]),([0,1],[0,1]),([2],[2]),([],[]),([4],[4]),([3,5],[3,5]),([0,1,0,1,2,3,4,5,6],[0,1]),([7,6,5,0,1,2,3,4,5,6],[6,7])])
def impl_ties_foata.B10:List Nat:=[0,0,3,7,0,16,63,127,255]
theorem impl_ties_foata.tab10:rtab .any (opsOf Tryd.f39 10) = impl_ties_foata.T10:=by kernel_rfl
theorem impl_ties_foata.bits10:waitsOk impl_ties_foata.T10.2 impl_ties_foata.B10 = true:=by kernel_rfl
set_option maxHeartbeats 8000000 in
set_option maxRecDepth 100000 in
theorem impl_ties_foata.calls (k : Nat) (A0 : Option Addr) (c0 : Nat) (l0 : List Int) (A1 : Option Addr) (c1 : Nat) (l1 : List Int) (r : List Int) (w : World) (hr0 : Kd.C (Kd.int .i64) w A0 l0.length l0) (hc0 : l0.length ≤ c0) (hr1 : Kd.C (Kd.int .i64) w A1 l1.length l1) (hc1 : l1.length ≤ c1) (h : impl_ties_foata.f k l0 l1 = some r) :
  Calls Tryd.prog 39 #[.slice A0 l0.length c0,.slice A1 l1.length c1] w fun e w' => ∃ v0_:Value,e = .returned (v0_) ∧ Kd.R (Kd.int .i64) 2 w' w.heap.size (fun _=>True) v0_ r ∧ Below w.heap.size w w' := by
 have HR0:=zA hr0
 have HC0:=zA hc0
 clear hr0 hc0
 have HR1:=zA hr1
 have HC1:=zA hc1
 clear hr1 hc1
 have HB:=zA (kW w.heap.size w)
 have H:=h
 unfold impl_ties_foata.f at H
 clear h
 obtain ⟨y860,hy860⟩:∃ y_:List Int,y_ = (([]:List Int)):=⟨_,rfl⟩
 replace H:(impl_ties_foata.l0 k l0 y860 l1 (l1.length:Int) 0) = some r:=zy hy860 H
 have Ny860:=zA hy860
 clear hy860
 have H' := zA H
 clear H
 go_enter Tryd.func39,Tryd.ntmps39
 go_wp2_with (first | ((with_reducible refine kS (N:=9) rfl ?_);refine Kd.R_lit (Kd.int .i64) _ 2 ?hg (N:=9) ?hd (xs:=([]:List Int)) (inner:=[]) (ok:=fun _=>True) (okp:=fun _=>True) ?hr ?hp (fun _ hk=>hk) trivial (kW _ _) (Nat.le_refl _) (by simp) ?_;(case hd=>rfl);(case hg=>rfl);(case hr=>first | (go_simp;done) | (go_simp;rfl));(case hp=>exact (Reps.none _ _));intro v861 w3 ho4 hb hg_ hnew_;clear hg_ hnew_;(first | rw [← Ny860.out] at ho4 | (simp only [Int.reduceToNat] at ho4;rw [← Ny860.out] at ho4));have HO862:=zA (kI ho4 (kP (zQ HB.out)));replace HB:=zA (kQ (zQ HB.out) hb);clear hb ho4))
 go_loopg [5,12] k (fun kq v5 v12 w' => ∃ (x5_1:List Int) (x12_1:Int),v12 = .int .i64 x12_1 ∧ Aside0 (impl_ties_foata.l0 kq l0 x5_1 l1 (l1.length:Int) x12_1 = some r) ∧ Aside0 (kq ≤ k) ∧ Aside0 (Kd.R (Kd.int .i64) 2 w' w.heap.size (fun _=>True) v5 x5_1) ∧ Aside0 (Below w.heap.size w w'))
 case atStart=>exact ⟨(y860),(0),zs,H', ⟨Nat.le_refl _⟩,⟨zP HO862.out⟩,⟨zQ HB.out⟩⟩
 case round =>
  clear H'
  try clear c1
  try clear c3
  obtain ⟨x5_1,x12_1,rfl,HA,HK1,HO_5,HB⟩:=hrel
  cases gk with
  | zero=>exact absurd HA.out (by simp [impl_ties_foata.l0])
  | succ k1 =>
   have H:=HA.out
   clear HA
   simp only [impl_ties_foata.l0] at H
   by_cases c5:x12_1 < (l1.length:Int)
   ·rw [if_pos c5] at H
    have c5b0:decide (x12_1 < (l1.length:Int)) = true:=decide_eq_true c5
    clear c5
    by_cases c6:0 ≤ x12_1
    ·rw [if_pos c6] at H
     have c6b0:decide (0 ≤ x12_1) = true:=decide_eq_true c6
     clear c6
     by_cases c7:x12_1 < (l1.length:Int)
     ·rw [if_pos c7] at H
      have c7b0:decide (x12_1 < (l1.length:Int)) = true:=decide_eq_true c7
      clear c7
      have H' := zA H
      clear H
      have p863:0 ≤ (x12_1:Int):=zd
      have q863:x12_1 < (l1.length:Int):=zd
      obtain ⟨ad863,e863,hx863_0⟩:=Kd.at_int HR1.out x12_1 p863 q863
      cases e863
      replace hx863_0:=(HB.out.cell (jG w _ hx863_0)).trans hx863_0
      replace p863:=eq_true p863
      replace q863:=eq_true q863
      obtain ⟨Ao8,co8,eo8⟩:=kM HO_5.out
      subst eo8
      go_wp2
      go_loopg [8] k1 (fun kq v8 w' => ∃ (x8_2:Int),v8 = .int .i64 x8_2 ∧ Aside0 (impl_ties_foata.l1 kq l0 x5_1 (rd l1 x12_1) x8_2 l1 (l1.length:Int) x12_1 = some r) ∧ Aside0 (kq ≤ k1) ∧ Aside0 (Kd.R (Kd.int .i64) 2 w' w.heap.size (fun _=>True) (.slice Ao8 x5_1.length co8) x5_1) ∧ Aside0 (Below w.heap.size w w'))
      case atStart=>exact ⟨((x5_1.length:Int)),zs,H', ⟨Nat.le_refl _⟩,⟨zP HO_5.out⟩,⟨zQ HB.out⟩⟩
      case round =>
       clear H'
       try clear c1
       try clear c3
       try clear c5
       try clear c6
       try clear c7
       try clear hx8
       try clear hx863_0
       obtain ⟨x8_2,rfl,HA,HK2,HO_5,HB⟩:=hrel
       cases gk with
       | zero=>exact absurd HA.out (by simp [impl_ties_foata.l1])
       | succ k2 =>
        have H:=HA.out
        clear HA
        simp only [impl_ties_foata.l1] at H
        by_cases c9:x8_2 > 0
        ·rw [if_pos c9] at H
         have c9b0:decide (0 < x8_2) = true:=decide_eq_true c9
         clear c9
         obtain ⟨ji10,hji10⟩:∃ j_:Int,(wrap64 (x8_2 - 1)) = j_:=⟨_,rfl⟩
         replace H:(if 0 ≤ (ji10) then (if (ji10) < (x5_1.length:Int) then (if 0 ≤ (rd l1 x12_1) then (if (rd l1 x12_1) < (l0.length:Int) then (if (Go.bits .and .i64 (rd x5_1 (ji10)) (rd l0 (rd l1 x12_1))) = 0 then (impl_ties_foata.l1 k2 l0 x5_1 (rd l1 x12_1) ji10 l1 (l1.length:Int) x12_1) else (if x8_2 = (x5_1.length:Int) then (if x5_1.length < 17592186044416 then ((some (x5_1 ++ [0]:List Int)).bind fun y866=>(if 0 ≤ x8_2 then (if x8_2 < (y866.length:Int) then ((impl_one.f (rd l1 x12_1)).bind fun t870=>(impl_ties_foata.l0 k2 l0 (y866.set (x8_2:Int).toNat (Go.bits .or .i64 (rd y866 x8_2) t870)) l1 (l1.length:Int) (wrap64 (x12_1 + 1)))) else (none)) else (none))) else (none)) else (if 0 ≤ x8_2 then (if x8_2 < (x5_1.length:Int) then ((impl_one.f (rd l1 x12_1)).bind fun t873=>(impl_ties_foata.l0 k2 l0 (x5_1.set (x8_2:Int).toNat (Go.bits .or .i64 (rd x5_1 x8_2) t873)) l1 (l1.length:Int) (wrap64 (x12_1 + 1)))) else (none)) else (none)))) else (none)) else (none)) else (none)) else (none)) = some r:=by first | (rw [hji10] at H;exact H) | (simp only [hji10] at H ⊢;exact H)
         have hji10w:(IntKind.i64.wrap (x8_2 - 1)) = ji10:=(i64_w _).trans hji10
         by_cases c11:0 ≤ (ji10)
         ·rw [if_pos c11] at H
          have c11b0:decide (0 ≤ (ji10)) = true:=decide_eq_true c11
          clear c11
          by_cases c12:(ji10) < (x5_1.length:Int)
          ·rw [if_pos c12] at H
           have c12b0:decide ((ji10) < (x5_1.length:Int)) = true:=decide_eq_true c12
           clear c12
           by_cases c13:0 ≤ (rd l1 x12_1)
           ·rw [if_pos c13] at H
            have c13b0:decide (0 ≤ (rd l1 x12_1)) = true:=decide_eq_true c13
            clear c13
            by_cases c14:(rd l1 x12_1) < (l0.length:Int)
            ·rw [if_pos c14] at H
             have c14b0:decide ((rd l1 x12_1) < (l0.length:Int)) = true:=decide_eq_true c14
             clear c14
             by_cases c15:(Go.bits .and .i64 (rd x5_1 (ji10)) (rd l0 (rd l1 x12_1))) = 0
             ·rw [if_pos c15] at H
              obtain ⟨c15b0,c15b1⟩:=zT1 c15
              clear c15
              have H' := zA H
              clear H
              try go_wp2
              replace HO_5:=zA (zH HO_5.out)
              replace HB:=zA (zD HB.out)
              have p864:0 ≤ ((ji10):Int):=zd
              have q864:(ji10) < (x5_1.length:Int):=zd
              obtain ⟨ad864,e864,hx864_0⟩:=Kd.at_int (kB HO_5.out).2.2 (ji10) p864 q864
              cases e864
              replace p864:=eq_true p864
              replace q864:=eq_true q864
              have p865:0 ≤ ((rd l1 x12_1):Int):=zd
              have q865:(rd l1 x12_1) < (l0.length:Int):=zd
              obtain ⟨ad865,e865,hx865_0⟩:=Kd.at_int HR0.out (rd l1 x12_1) p865 q865
              have hw865_0:=hx865_0
              cases e865
              replace hx865_0:=(HB.out.cell (jG w _ hx865_0)).trans hx865_0
              replace p865:=eq_true p865
              replace q865:=eq_true q865
              refine start_ (n:=15) (S:=fun w' => w'.cell? (ad864.add ((ji10)).toNat) = some (.int .i64 (rd x5_1 (ji10))) ∧ w'.cell? (ad865.add ((rd l1 x12_1)).toNat) = some (.int .i64 (rd l0 (rd l1 x12_1)))) (ds:=[]) #[false,false,false,false,false,false,false,false,false,false,false,false,false,false,false] (by kernel_rfl) rfl rfl ⟨hx864_0,(pw_cell_below HB.out hw865_0)⟩ (fun hHeld=>?_);refine with_tabW impl_ties_foata.tab6 impl_ties_foata.bits6 (fun HT_ HW_=>?_)
              generalize wr.drew = w16 at HO_5 HB hx864_0 hx865_0 hHeld ⊢
              refine zp 0 (some 18) #[true,false,false,false,false,false,false,false,false,false,false,false,false,false,false] HT_.out ?_
              refine zp 1 (some 19) #[true,true,false,false,false,false,false,false,false,false,false,false,false,false,false] HT_.out ?_
              refine zp 2 (some 20) #[true,true,true,false,false,false,false,false,false,false,false,false,false,false,false] HT_.out ?_
              refine zp 3 (some 21) #[true,true,true,true,false,false,false,false,false,false,false,false,false,false,false] HT_.out ?_
              refine zp 4 (some 22) #[true,true,true,true,true,false,false,false,false,false,false,false,false,false,false] HT_.out ?_
              refine zp 5 (some 23) #[true,true,true,true,true,true,false,false,false,false,false,false,false,false,false] HT_.out ?_
              refine zp 6 (some 24) #[true,true,true,true,true,true,true,false,false,false,false,false,false,false,false] HT_.out ?_
              refine zp 8 (some 26) #[true,true,true,true,true,true,true,false,true,false,false,false,false,false,false] HT_.out ?_
              refine zp 9 (some 27) #[true,true,true,true,true,true,true,false,true,true,false,false,false,false,false] HT_.out ?_
              refine zp 10 (some 28) #[true,true,true,true,true,true,true,false,true,true,true,false,false,false,false] HT_.out ?_
              refine zc 7 (some 25) #[true,true,true,true,true,true,true,true,true,true,true,false,false,false,false] HT_.out HW_.out hHeld ?_
              refine zc 11 (some 29) #[true,true,true,true,true,true,true,true,true,true,true,true,false,false,false] HT_.out HW_.out hHeld ?_
              refine zp 12 (some 30) #[true,true,true,true,true,true,true,true,true,true,true,true,true,false,false] HT_.out ?_
              refine zp 13 (some 31) #[true,true,true,true,true,true,true,true,true,true,true,true,true,true,false] HT_.out ?_
              refine zp 14 (some 32) #[true,true,true,true,true,true,true,true,true,true,true,true,true,true,true] HT_.out ?_
              refine done_ (done_of HT_.out (by kernel_rfl)) ?_
              try go_wp2
              go_roundg k2
              case measure=>have:=HK1.out;have:=HK2.out;omega
              case rel=>exact ⟨(ji10),(by first | rfl | (simp;done) | (simp only [← hji10] <;> (first | rfl | simp)) | (simp [*];done)),H', ⟨by have:=HK1.out;have:=HK2.out;omega⟩,⟨zP HO_5.out⟩,⟨zQ HB.out⟩⟩
             rw [if_neg c15] at H
             obtain ⟨c15b0,c15b1⟩:=zT2 c15
             by_cases c17:x8_2 = (x5_1.length:Int)
             ·rw [if_pos c17] at H
              obtain ⟨c17b0,c17b1⟩:=zT1 c17
              clear c17
              by_cases c18:x5_1.length < 17592186044416
              ·rw [if_pos c18] at H
               have LMc18:=zA c18
               clear c18
               obtain ⟨y866,hy866⟩:∃ y_:List Int,y_ = (x5_1 ++ [0]):=⟨_,rfl⟩
               replace H:(if 0 ≤ x8_2 then (if x8_2 < (y866.length:Int) then ((impl_one.f (rd l1 x12_1)).bind fun t870=>(impl_ties_foata.l0 k2 l0 (y866.set (x8_2:Int).toNat (Go.bits .or .i64 (rd y866 x8_2) t870)) l1 (l1.length:Int) (wrap64 (x12_1 + 1)))) else (none)) else (none)) = some r:=zy hy866 H
               have Ny866:=zA hy866
               clear hy866
               by_cases c19:0 ≤ x8_2
               ·rw [if_pos c19] at H
                have c19b0:decide (0 ≤ x8_2) = true:=decide_eq_true c19
                clear c19
                by_cases c20:x8_2 < (y866.length:Int)
                ·rw [if_pos c20] at H
                 have c20b0:decide (x8_2 < (y866.length:Int)) = true:=decide_eq_true c20
                 clear c20
                 obtain ⟨t870,A21,H⟩:=zb H
                 try dsimp only at H
                 obtain ⟨y871,hy871⟩:∃ y_:List Int,y_ = (y866.set (x8_2:Int).toNat (Go.bits .or .i64 (rd y866 x8_2) t870)):=⟨_,rfl⟩
                 replace H:(impl_ties_foata.l0 k2 l0 y871 l1 (l1.length:Int) (wrap64 (x12_1 + 1))) = some r:=zy hy871 H
                 have Ny871:=zA hy871
                 clear hy871
                 have H' := zA H
                 clear H
                 try go_wp2
                 replace HO_5:=zA (zH HO_5.out)
                 replace HB:=zA (zD HB.out)
                 have p864:0 ≤ ((ji10):Int):=zd
                 have q864:(ji10) < (x5_1.length:Int):=zd
                 obtain ⟨ad864,e864,hx864_0⟩:=Kd.at_int (kB HO_5.out).2.2 (ji10) p864 q864
                 cases e864
                 replace p864:=eq_true p864
                 replace q864:=eq_true q864
                 have p865:0 ≤ ((rd l1 x12_1):Int):=zd
                 have q865:(rd l1 x12_1) < (l0.length:Int):=zd
                 obtain ⟨ad865,e865,hx865_0⟩:=Kd.at_int HR0.out (rd l1 x12_1) p865 q865
                 have hw865_0:=hx865_0
                 cases e865
                 replace hx865_0:=(HB.out.cell (jG w _ hx865_0)).trans hx865_0
                 replace p865:=eq_true p865
                 replace q865:=eq_true q865
                 refine start_ (n:=15) (S:=fun w' => w'.cell? (ad864.add ((ji10)).toNat) = some (.int .i64 (rd x5_1 (ji10))) ∧ w'.cell? (ad865.add ((rd l1 x12_1)).toNat) = some (.int .i64 (rd l0 (rd l1 x12_1)))) (ds:=[]) #[false,false,false,false,false,false,false,false,false,false,false,false,false,false,false] (by kernel_rfl) rfl rfl ⟨hx864_0,(pw_cell_below HB.out hw865_0)⟩ (fun hHeld=>?_);refine with_tabW impl_ties_foata.tab6 impl_ties_foata.bits6 (fun HT_ HW_=>?_)
                 generalize wr.drew = w23 at HO_5 HB hx864_0 hx865_0 hHeld ⊢
                 refine zp 0 (some 18) #[true,false,false,false,false,false,false,false,false,false,false,false,false,false,false] HT_.out ?_
                 refine zp 1 (some 19) #[true,true,false,false,false,false,false,false,false,false,false,false,false,false,false] HT_.out ?_
                 refine zp 2 (some 20) #[true,true,true,false,false,false,false,false,false,false,false,false,false,false,false] HT_.out ?_
                 refine zp 3 (some 21) #[true,true,true,true,false,false,false,false,false,false,false,false,false,false,false] HT_.out ?_
                 refine zp 4 (some 22) #[true,true,true,true,true,false,false,false,false,false,false,false,false,false,false] HT_.out ?_
                 refine zp 5 (some 23) #[true,true,true,true,true,true,false,false,false,false,false,false,false,false,false] HT_.out ?_
                 refine zp 6 (some 24) #[true,true,true,true,true,true,true,false,false,false,false,false,false,false,false] HT_.out ?_
                 refine zp 8 (some 26) #[true,true,true,true,true,true,true,false,true,false,false,false,false,false,false] HT_.out ?_
                 refine zp 9 (some 27) #[true,true,true,true,true,true,true,false,true,true,false,false,false,false,false] HT_.out ?_
                 refine zp 10 (some 28) #[true,true,true,true,true,true,true,false,true,true,true,false,false,false,false] HT_.out ?_
                 refine zc 7 (some 25) #[true,true,true,true,true,true,true,true,true,true,true,false,false,false,false] HT_.out HW_.out hHeld ?_
                 refine zc 11 (some 29) #[true,true,true,true,true,true,true,true,true,true,true,true,false,false,false] HT_.out HW_.out hHeld ?_
                 refine zp 12 (some 30) #[true,true,true,true,true,true,true,true,true,true,true,true,true,false,false] HT_.out ?_
                 refine zp 13 (some 31) #[true,true,true,true,true,true,true,true,true,true,true,true,true,true,false] HT_.out ?_
                 refine zp 14 (some 32) #[true,true,true,true,true,true,true,true,true,true,true,true,true,true,true] HT_.out ?_
                 refine done_ (done_of HT_.out (by kernel_rfl)) ?_
                 try go_wp2_with (first | ((with_reducible refine gate_builtin (b:=.append) (xs:=#[.tmp 39,.tmp 40]) rfl ?_);at_builtin;refine Kd.R_append (Kd.int .i64) (w0:=w) w.heap.size rfl (.tmp 39) (.tmp 40) 24 2 (.int .i64 0) 8 rfl Tryd.underlying24 info2 rfl (by decide) (by omega) (.slice (some ad864) x5_1.length co8) x5_1 0 [.int .i64 0] (fun _=>True) (fun _=>False) rfl rfl ?aP (fun _ hk=>hk.elim) ?aF ?aO ?aB ?aS ?aL ?_;(case aP=>exact rfl);(case aB=>exact (zQ HB.out));(case aF=>exact (fun _ _=>trivial));(case aO=>exact (zP HO_5.out));(case aS=>exact (kP (zQ HB.out)));(case aL=>have:=LMc18.out;omega);intro v867 w24 ho hb hg hat;rw [← Ny866.out] at ho;replace HB:=zA (hb);have HO868:=zA (ho);clear HO_5;clear ho hb hg hat))
                 replace HO868:=zA (zH HO868.out)
                 replace HB:=zA (zD HB.out)
                 obtain ⟨Ao26,co26,eo26⟩:=kM HO868.out
                 (first | subst eo26 | (injection eo26 with f1_ f2_ f3_;have f4_:=f1_.symm;have f5_:=f3_.symm;clear f1_ f2_ f3_;subst f4_;subst f5_))
                 have p869:0 ≤ (x8_2:Int):=zd
                 have q869:x8_2 < (y866.length:Int):=zd
                 obtain ⟨ad869,e869,hx869_0⟩:=Kd.at_int (kB HO868.out).2.2 x8_2 p869 q869
                 cases e869
                 replace p869:=eq_true p869
                 replace q869:=eq_true q869
                 refine start_ (n:=9) (S:=fun w' => w'.cell? (ad869.add (x8_2).toNat) = some (.int .i64 (rd y866 x8_2))) (ds:=[8]) #[false,false,false,false,false,false,false,false,false] (by kernel_rfl) rfl rfl (hx869_0) (fun hHeld=>?_);refine with_tabW impl_ties_foata.tab10 impl_ties_foata.bits10 (fun HT_ HW_=>?_)
                 generalize w24.drew = w25 at HO868 HB hx869_0 hHeld ⊢
                 refine zp 0 (some 42) #[true,false,false,false,false,false,false,false,false] HT_.out ?_
                 refine zp 1 (some 43) #[true,true,false,false,false,false,false,false,false] HT_.out ?_
                 refine zp 2 (some 44) #[true,true,true,false,false,false,false,false,false] HT_.out ?_
                 refine zp 4 (some 46) #[true,true,true,false,true,false,false,false,false] HT_.out ?_
                 refine za 3 (some 45) #[true,true,true,true,true,false,false,false,false] HT_.out HW_.out hHeld ?_
                 refine one_ (i:=5) (N:=some 47) #[true,true,true,true,true,true,false,false,false] rfl rfl (one_of HT_.out (by kernel_rfl)) (by decide) (fun K hK=>?_)
                 refine goes_ Tryd.func31 (by kernel_rfl) rfl #[.int .i64 (rd l1 x12_1)] (by rfl) rfl rfl zg ?_
                 with_reducible refine (impl_one.calls (rd l1 x12_1) t870 _ A21.out).mono ?_
                 rintro e w' ⟨rfl,⟨nd,rfl⟩⟩
                 refine ⟨_,rfl,?_⟩
                 have p22:0 ≤ (x8_2:Int):=zd
                 have q22:(x8_2:Int) < ((y866.length:Int):Int):=zd
                 obtain ⟨go22,co22,eo22,gb22,gl22,cl22,HG22⟩:=Kd.R_form HO868.out (by omega)
                 (first | cases eo22 | (injection eo22 with ea_ en_ ec_;(first | subst ea_ | (injection ea_ with ea_;subst ea_));subst ec_;clear en_))
                 have GB22:=zA gb22
                 have GG22:=zA HG22
                 clear gb22 gl22 HG22
                 (first | simp only [add_plain] at hx869_0 | skip)
                 obtain ⟨hx22_0,hf22_0⟩:=Kd.R_celln 0 HO868.out (x8_2:Int) p22 q22
                 replace p22:=eq_true p22
                 replace q22:=eq_true q22
                 have HP27:=Kd.R_putn HO868.out (x8_2:Int) (Go.bits .or .i64 (rd y866 x8_2) t870)
                 rw [← Ny871.out] at HP27
                 have HQ27:=zA HP27
                 clear HP27
                 refine hK.out _ _ (hHeld) (fun hHeld=>?_)
                 clear hK K
                 refine norm_ (a' := ?_) ?_ ?_
                 rotate_left
                 ·show Act.put _ (some 47) _ = _
                  simp only [Act.put,zL,zM,zN,i64_w,i32_w]
                  rfl
                 refine zp 6 (some 48) #[true,true,true,true,true,true,true,false,false] HT_.out ?_
                 refine zp 7 (some 49) #[true,true,true,true,true,true,true,true,false] HT_.out ?_
                 refine last_ (i:=8) (N:=none) #[true,true,true,true,true,true,true,true,true] rfl rfl (one_of HT_.out (by kernel_rfl)) (by decide) (fun K hK=>?_)
                 refine skip_ (w1:=?_) (by rfl) rfl ?_ ?_
                 rotate_left
                 ·go_simp
                  rfl
                 refine hK.out _ _ ?_
                 clear hK K
                 refine done_ (done_of HT_.out (by kernel_rfl)) ?_
                 try go_wp2
                 go_roundg k2
                 case measure=>have:=HK1.out;have:=HK2.out;omega
                 case rel=>exact ⟨(y871),(wrap64 (x12_1 + 1)),zs,H', ⟨by have:=HK1.out;have:=HK2.out;omega⟩,⟨zP HQ27.out⟩,⟨zT HB.out GB22.out⟩⟩
                rw [if_neg c20] at H
                exact absurd H (by simp)
               rw [if_neg c19] at H
               exact absurd H (by simp)
              rw [if_neg c18] at H
              exact absurd H (by simp)
             rw [if_neg c17] at H
             obtain ⟨c17b0,c17b1⟩:=zT2 c17
             by_cases c28:0 ≤ x8_2
             ·rw [if_pos c28] at H
              have c28b0:decide (0 ≤ x8_2) = true:=decide_eq_true c28
              clear c28
              by_cases c29:x8_2 < (x5_1.length:Int)
              ·rw [if_pos c29] at H
               have c29b0:decide (x8_2 < (x5_1.length:Int)) = true:=decide_eq_true c29
               clear c29
               obtain ⟨t873,A30,H⟩:=zb H
               try dsimp only at H
               obtain ⟨y874,hy874⟩:∃ y_:List Int,y_ = (x5_1.set (x8_2:Int).toNat (Go.bits .or .i64 (rd x5_1 x8_2) t873)):=⟨_,rfl⟩
               replace H:(impl_ties_foata.l0 k2 l0 y874 l1 (l1.length:Int) (wrap64 (x12_1 + 1))) = some r:=zy hy874 H
               have Ny874:=zA hy874
               clear hy874
               have H' := zA H
               clear H
               try go_wp2
               replace HO_5:=zA (zH HO_5.out)
               replace HB:=zA (zD HB.out)
               have p864:0 ≤ ((ji10):Int):=zd
               have q864:(ji10) < (x5_1.length:Int):=zd
               obtain ⟨ad864,e864,hx864_0⟩:=Kd.at_int (kB HO_5.out).2.2 (ji10) p864 q864
               cases e864
               replace p864:=eq_true p864
               replace q864:=eq_true q864
               have p865:0 ≤ ((rd l1 x12_1):Int):=zd
               have q865:(rd l1 x12_1) < (l0.length:Int):=zd
               obtain ⟨ad865,e865,hx865_0⟩:=Kd.at_int HR0.out (rd l1 x12_1) p865 q865
               have hw865_0:=hx865_0
               cases e865
               replace hx865_0:=(HB.out.cell (jG w _ hx865_0)).trans hx865_0
               replace p865:=eq_true p865
               replace q865:=eq_true q865
               refine start_ (n:=15) (S:=fun w' => w'.cell? (ad864.add ((ji10)).toNat) = some (.int .i64 (rd x5_1 (ji10))) ∧ w'.cell? (ad865.add ((rd l1 x12_1)).toNat) = some (.int .i64 (rd l0 (rd l1 x12_1)))) (ds:=[]) #[false,false,false,false,false,false,false,false,false,false,false,false,false,false,false] (by kernel_rfl) rfl rfl ⟨hx864_0,(pw_cell_below HB.out hw865_0)⟩ (fun hHeld=>?_);refine with_tabW impl_ties_foata.tab6 impl_ties_foata.bits6 (fun HT_ HW_=>?_)
               generalize wr.drew = w32 at HO_5 HB hx864_0 hx865_0 hHeld ⊢
               refine zp 0 (some 18) #[true,false,false,false,false,false,false,false,false,false,false,false,false,false,false] HT_.out ?_
               refine zp 1 (some 19) #[true,true,false,false,false,false,false,false,false,false,false,false,false,false,false] HT_.out ?_
               refine zp 2 (some 20) #[true,true,true,false,false,false,false,false,false,false,false,false,false,false,false] HT_.out ?_
               refine zp 3 (some 21) #[true,true,true,true,false,false,false,false,false,false,false,false,false,false,false] HT_.out ?_
               refine zp 4 (some 22) #[true,true,true,true,true,false,false,false,false,false,false,false,false,false,false] HT_.out ?_
               refine zp 5 (some 23) #[true,true,true,true,true,true,false,false,false,false,false,false,false,false,false] HT_.out ?_
               refine zp 6 (some 24) #[true,true,true,true,true,true,true,false,false,false,false,false,false,false,false] HT_.out ?_
               refine zp 8 (some 26) #[true,true,true,true,true,true,true,false,true,false,false,false,false,false,false] HT_.out ?_
               refine zp 9 (some 27) #[true,true,true,true,true,true,true,false,true,true,false,false,false,false,false] HT_.out ?_
               refine zp 10 (some 28) #[true,true,true,true,true,true,true,false,true,true,true,false,false,false,false] HT_.out ?_
               refine zc 7 (some 25) #[true,true,true,true,true,true,true,true,true,true,true,false,false,false,false] HT_.out HW_.out hHeld ?_
               refine zc 11 (some 29) #[true,true,true,true,true,true,true,true,true,true,true,true,false,false,false] HT_.out HW_.out hHeld ?_
               refine zp 12 (some 30) #[true,true,true,true,true,true,true,true,true,true,true,true,true,false,false] HT_.out ?_
               refine zp 13 (some 31) #[true,true,true,true,true,true,true,true,true,true,true,true,true,true,false] HT_.out ?_
               refine zp 14 (some 32) #[true,true,true,true,true,true,true,true,true,true,true,true,true,true,true] HT_.out ?_
               refine done_ (done_of HT_.out (by kernel_rfl)) ?_
               try go_wp2
               replace HO_5:=zA (zH HO_5.out)
               replace HB:=zA (zD HB.out)
               have p872:0 ≤ (x8_2:Int):=zd
               have q872:x8_2 < (x5_1.length:Int):=zd
               obtain ⟨ad872,e872,hx872_0⟩:=Kd.at_int (kB HO_5.out).2.2 x8_2 p872 q872
               obtain rfl:ad864 = ad872:=(by injection e872)
               replace p872:=eq_true p872
               replace q872:=eq_true q872
               refine start_ (n:=9) (S:=fun w' => w'.cell? (ad864.add (x8_2).toNat) = some (.int .i64 (rd x5_1 x8_2))) (ds:=[8]) #[false,false,false,false,false,false,false,false,false] (by kernel_rfl) rfl rfl (hx872_0) (fun hHeld=>?_);refine with_tabW impl_ties_foata.tab10 impl_ties_foata.bits10 (fun HT_ HW_=>?_)
               generalize w32.drew = w33 at HO_5 HB hx872_0 hHeld ⊢
               refine zp 0 (some 42) #[true,false,false,false,false,false,false,false,false] HT_.out ?_
               refine zp 1 (some 43) #[true,true,false,false,false,false,false,false,false] HT_.out ?_
               refine zp 2 (some 44) #[true,true,true,false,false,false,false,false,false] HT_.out ?_
               refine zp 4 (some 46) #[true,true,true,false,true,false,false,false,false] HT_.out ?_
               refine za 3 (some 45) #[true,true,true,true,true,false,false,false,false] HT_.out HW_.out hHeld ?_
               refine one_ (i:=5) (N:=some 47) #[true,true,true,true,true,true,false,false,false] rfl rfl (one_of HT_.out (by kernel_rfl)) (by decide) (fun K hK=>?_)
               refine goes_ Tryd.func31 (by kernel_rfl) rfl #[.int .i64 (rd l1 x12_1)] (by rfl) rfl rfl zg ?_
               with_reducible refine (impl_one.calls (rd l1 x12_1) t873 _ A30.out).mono ?_
               rintro e w' ⟨rfl,⟨nd,rfl⟩⟩
               refine ⟨_,rfl,?_⟩
               have p31:0 ≤ (x8_2:Int):=zd
               have q31:(x8_2:Int) < ((x5_1.length:Int):Int):=zd
               obtain ⟨go31,co31,eo31,gb31,gl31,cl31,HG31⟩:=Kd.R_form HO_5.out (by omega)
               (first | cases eo31 | (injection eo31 with ea_ en_ ec_;(first | subst ea_ | (injection ea_ with ea_;subst ea_));subst ec_;clear en_))
               have GB31:=zA gb31
               have GG31:=zA HG31
               clear gb31 gl31 HG31
               (first | simp only [add_plain] at hx864_0 | skip)
               (first | simp only [add_plain] at hx872_0 | skip)
               obtain ⟨hx31_0,hf31_0⟩:=Kd.R_celln 0 HO_5.out (x8_2:Int) p31 q31
               replace p31:=eq_true p31
               replace q31:=eq_true q31
               have HP34:=Kd.R_putn HO_5.out (x8_2:Int) (Go.bits .or .i64 (rd x5_1 x8_2) t873)
               rw [← Ny874.out] at HP34
               have HQ34:=zA HP34
               clear HP34
               refine hK.out _ _ (hHeld) (fun hHeld=>?_)
               clear hK K
               refine norm_ (a' := ?_) ?_ ?_
               rotate_left
               ·show Act.put _ (some 47) _ = _
                simp only [Act.put,zL,zM,zN,i64_w,i32_w]
                rfl
               refine zp 6 (some 48) #[true,true,true,true,true,true,true,false,false] HT_.out ?_
               refine zp 7 (some 49) #[true,true,true,true,true,true,true,true,false] HT_.out ?_
               refine last_ (i:=8) (N:=none) #[true,true,true,true,true,true,true,true,true] rfl rfl (one_of HT_.out (by kernel_rfl)) (by decide) (fun K hK=>?_)
               refine skip_ (w1:=?_) (by rfl) rfl ?_ ?_
               rotate_left
               ·go_simp
                rfl
               refine hK.out _ _ ?_
               clear hK K
               refine done_ (done_of HT_.out (by kernel_rfl)) ?_
               try go_wp2
               go_roundg k2
               case measure=>have:=HK1.out;have:=HK2.out;omega
               case rel=>exact ⟨(y874),(wrap64 (x12_1 + 1)),zs,H', ⟨by have:=HK1.out;have:=HK2.out;omega⟩,⟨zP HQ34.out⟩,⟨zT HB.out GB31.out⟩⟩
              rw [if_neg c29] at H
              exact absurd H (by simp)
             rw [if_neg c28] at H
             exact absurd H (by simp)
            rw [if_neg c14] at H
            exact absurd H (by simp)
           rw [if_neg c13] at H
           exact absurd H (by simp)
          rw [if_neg c12] at H
          exact absurd H (by simp)
         rw [if_neg c11] at H
         exact absurd H (by simp)
        rw [if_neg c9] at H
        have c9b0:decide (0 < x8_2) = false:=decide_eq_false c9
        clear c9
        by_cases c35:x8_2 = (x5_1.length:Int)
        ·rw [if_pos c35] at H
         obtain ⟨c35b0,c35b1⟩:=zT1 c35
         clear c35
         by_cases c36:x5_1.length < 17592186044416
         ·rw [if_pos c36] at H
          have LMc36:=zA c36
          clear c36
          obtain ⟨y875,hy875⟩:∃ y_:List Int,y_ = (x5_1 ++ [0]):=⟨_,rfl⟩
          replace H:(if 0 ≤ x8_2 then (if x8_2 < (y875.length:Int) then ((impl_one.f (rd l1 x12_1)).bind fun t879=>(impl_ties_foata.l0 k2 l0 (y875.set (x8_2:Int).toNat (Go.bits .or .i64 (rd y875 x8_2) t879)) l1 (l1.length:Int) (wrap64 (x12_1 + 1)))) else (none)) else (none)) = some r:=zy hy875 H
          have Ny875:=zA hy875
          clear hy875
          by_cases c37:0 ≤ x8_2
          ·rw [if_pos c37] at H
           have c37b0:decide (0 ≤ x8_2) = true:=decide_eq_true c37
           clear c37
           by_cases c38:x8_2 < (y875.length:Int)
           ·rw [if_pos c38] at H
            have c38b0:decide (x8_2 < (y875.length:Int)) = true:=decide_eq_true c38
            clear c38
            obtain ⟨t879,A39,H⟩:=zb H
            try dsimp only at H
            obtain ⟨y880,hy880⟩:∃ y_:List Int,y_ = (y875.set (x8_2:Int).toNat (Go.bits .or .i64 (rd y875 x8_2) t879)):=⟨_,rfl⟩
            replace H:(impl_ties_foata.l0 k2 l0 y880 l1 (l1.length:Int) (wrap64 (x12_1 + 1))) = some r:=zy hy880 H
            have Ny880:=zA hy880
            clear hy880
            have H' := zA H
            clear H
            try go_wp2
            replace HO_5:=zA (zH HO_5.out)
            replace HB:=zA (zD HB.out)
            refine start_ (n:=15) (S:=fun w' => True) (ds:=[]) #[false,false,false,false,false,false,false,false,false,false,false,false,false,false,false] (by kernel_rfl) rfl rfl trivial (fun hHeld=>?_);refine with_tabW impl_ties_foata.tab6 impl_ties_foata.bits6 (fun HT_ HW_=>?_)
            generalize wr.drew = w41 at HO_5 HB hHeld ⊢
            refine zp 0 (some 18) #[true,false,false,false,false,false,false,false,false,false,false,false,false,false,false] HT_.out ?_
            refine zp 1 (some 19) #[true,true,false,false,false,false,false,false,false,false,false,false,false,false,false] HT_.out ?_
            refine zp 2 (some 20) #[true,true,true,false,false,false,false,false,false,false,false,false,false,false,false] HT_.out ?_
            refine zu 3 (some 21) #[true,true,true,true,false,false,false,false,false,false,false,false,false,false,false] HT_.out ?_
            refine zu 4 (some 22) #[true,true,true,true,true,false,false,false,false,false,false,false,false,false,false] HT_.out ?_
            refine zu 5 (some 23) #[true,true,true,true,true,true,false,false,false,false,false,false,false,false,false] HT_.out ?_
            refine zu 6 (some 24) #[true,true,true,true,true,true,true,false,false,false,false,false,false,false,false] HT_.out ?_
            refine zu 7 (some 25) #[true,true,true,true,true,true,true,true,false,false,false,false,false,false,false] HT_.out ?_
            refine zu 8 (some 26) #[true,true,true,true,true,true,true,true,true,false,false,false,false,false,false] HT_.out ?_
            refine zu 9 (some 27) #[true,true,true,true,true,true,true,true,true,true,false,false,false,false,false] HT_.out ?_
            refine zu 10 (some 28) #[true,true,true,true,true,true,true,true,true,true,true,false,false,false,false] HT_.out ?_
            refine zu 11 (some 29) #[true,true,true,true,true,true,true,true,true,true,true,true,false,false,false] HT_.out ?_
            refine zu 12 (some 30) #[true,true,true,true,true,true,true,true,true,true,true,true,true,false,false] HT_.out ?_
            refine zu 13 (some 31) #[true,true,true,true,true,true,true,true,true,true,true,true,true,true,false] HT_.out ?_
            refine zp 14 (some 32) #[true,true,true,true,true,true,true,true,true,true,true,true,true,true,true] HT_.out ?_
            refine done_ (done_of HT_.out (by kernel_rfl)) ?_
            try go_wp2_with (first | ((with_reducible refine gate_builtin (b:=.append) (xs:=#[.tmp 39,.tmp 40]) rfl ?_);at_builtin;refine Kd.R_append (Kd.int .i64) (w0:=w) w.heap.size rfl (.tmp 39) (.tmp 40) 24 2 (.int .i64 0) 8 rfl Tryd.underlying24 info2 rfl (by decide) (by omega) (.slice Ao8 x5_1.length co8) x5_1 0 [.int .i64 0] (fun _=>True) (fun _=>False) rfl rfl ?aP (fun _ hk=>hk.elim) ?aF ?aO ?aB ?aS ?aL ?_;(case aP=>exact rfl);(case aB=>exact (zQ HB.out));(case aF=>exact (fun _ _=>trivial));(case aO=>exact (zP HO_5.out));(case aS=>exact (kP (zQ HB.out)));(case aL=>have:=LMc36.out;omega);intro v876 w42 ho hb hg hat;rw [← Ny875.out] at ho;replace HB:=zA (hb);have HO877:=zA (ho);clear HO_5;clear ho hb hg hat))
            replace HO877:=zA (zH HO877.out)
            replace HB:=zA (zD HB.out)
            obtain ⟨Ao44,co44,eo44⟩:=kM HO877.out
            (first | subst eo44 | (injection eo44 with f1_ f2_ f3_;have f4_:=f1_.symm;have f5_:=f3_.symm;clear f1_ f2_ f3_;subst f4_;subst f5_))
            have p878:0 ≤ (x8_2:Int):=zd
            have q878:x8_2 < (y875.length:Int):=zd
            obtain ⟨ad878,e878,hx878_0⟩:=Kd.at_int (kB HO877.out).2.2 x8_2 p878 q878
            cases e878
            replace p878:=eq_true p878
            replace q878:=eq_true q878
            refine start_ (n:=9) (S:=fun w' => w'.cell? (ad878.add (x8_2).toNat) = some (.int .i64 (rd y875 x8_2))) (ds:=[8]) #[false,false,false,false,false,false,false,false,false] (by kernel_rfl) rfl rfl (hx878_0) (fun hHeld=>?_);refine with_tabW impl_ties_foata.tab10 impl_ties_foata.bits10 (fun HT_ HW_=>?_)
            generalize w42.drew = w43 at HO877 HB hx878_0 hHeld ⊢
            refine zp 0 (some 42) #[true,false,false,false,false,false,false,false,false] HT_.out ?_
            refine zp 1 (some 43) #[true,true,false,false,false,false,false,false,false] HT_.out ?_
            refine zp 2 (some 44) #[true,true,true,false,false,false,false,false,false] HT_.out ?_
            refine zp 4 (some 46) #[true,true,true,false,true,false,false,false,false] HT_.out ?_
            refine za 3 (some 45) #[true,true,true,true,true,false,false,false,false] HT_.out HW_.out hHeld ?_
            refine one_ (i:=5) (N:=some 47) #[true,true,true,true,true,true,false,false,false] rfl rfl (one_of HT_.out (by kernel_rfl)) (by decide) (fun K hK=>?_)
            refine goes_ Tryd.func31 (by kernel_rfl) rfl #[.int .i64 (rd l1 x12_1)] (by rfl) rfl rfl zg ?_
            with_reducible refine (impl_one.calls (rd l1 x12_1) t879 _ A39.out).mono ?_
            rintro e w' ⟨rfl,⟨nd,rfl⟩⟩
            refine ⟨_,rfl,?_⟩
            have p40:0 ≤ (x8_2:Int):=zd
            have q40:(x8_2:Int) < ((y875.length:Int):Int):=zd
            obtain ⟨go40,co40,eo40,gb40,gl40,cl40,HG40⟩:=Kd.R_form HO877.out (by omega)
            (first | cases eo40 | (injection eo40 with ea_ en_ ec_;(first | subst ea_ | (injection ea_ with ea_;subst ea_));subst ec_;clear en_))
            have GB40:=zA gb40
            have GG40:=zA HG40
            clear gb40 gl40 HG40
            (first | simp only [add_plain] at hx878_0 | skip)
            obtain ⟨hx40_0,hf40_0⟩:=Kd.R_celln 0 HO877.out (x8_2:Int) p40 q40
            replace p40:=eq_true p40
            replace q40:=eq_true q40
            have HP45:=Kd.R_putn HO877.out (x8_2:Int) (Go.bits .or .i64 (rd y875 x8_2) t879)
            rw [← Ny880.out] at HP45
            have HQ45:=zA HP45
            clear HP45
            refine hK.out _ _ (hHeld) (fun hHeld=>?_)
            clear hK K
            refine norm_ (a' := ?_) ?_ ?_
            rotate_left
            ·show Act.put _ (some 47) _ = _
             simp only [Act.put,zL,zM,zN,i64_w,i32_w]
             rfl
            refine zp 6 (some 48) #[true,true,true,true,true,true,true,false,false] HT_.out ?_
            refine zp 7 (some 49) #[true,true,true,true,true,true,true,true,false] HT_.out ?_
            refine last_ (i:=8) (N:=none) #[true,true,true,true,true,true,true,true,true] rfl rfl (one_of HT_.out (by kernel_rfl)) (by decide) (fun K hK=>?_)
            refine skip_ (w1:=?_) (by rfl) rfl ?_ ?_
            rotate_left
            ·go_simp
             rfl
            refine hK.out _ _ ?_
            clear hK K
            refine done_ (done_of HT_.out (by kernel_rfl)) ?_
            try go_wp2
            go_roundg k2
            case measure=>have:=HK1.out;have:=HK2.out;omega
            case rel=>exact ⟨(y880),(wrap64 (x12_1 + 1)),zs,H', ⟨by have:=HK1.out;have:=HK2.out;omega⟩,⟨zP HQ45.out⟩,⟨zT HB.out GB40.out⟩⟩
           rw [if_neg c38] at H
           exact absurd H (by simp)
          rw [if_neg c37] at H
          exact absurd H (by simp)
         rw [if_neg c36] at H
         exact absurd H (by simp)
        rw [if_neg c35] at H
        obtain ⟨c35b0,c35b1⟩:=zT2 c35
        by_cases c46:0 ≤ x8_2
        ·rw [if_pos c46] at H
         have c46b0:decide (0 ≤ x8_2) = true:=decide_eq_true c46
         clear c46
         by_cases c47:x8_2 < (x5_1.length:Int)
         ·rw [if_pos c47] at H
          have c47b0:decide (x8_2 < (x5_1.length:Int)) = true:=decide_eq_true c47
          clear c47
          obtain ⟨t882,A48,H⟩:=zb H
          try dsimp only at H
          obtain ⟨y883,hy883⟩:∃ y_:List Int,y_ = (x5_1.set (x8_2:Int).toNat (Go.bits .or .i64 (rd x5_1 x8_2) t882)):=⟨_,rfl⟩
          replace H:(impl_ties_foata.l0 k2 l0 y883 l1 (l1.length:Int) (wrap64 (x12_1 + 1))) = some r:=zy hy883 H
          have Ny883:=zA hy883
          clear hy883
          have H' := zA H
          clear H
          try go_wp2
          replace HO_5:=zA (zH HO_5.out)
          replace HB:=zA (zD HB.out)
          refine start_ (n:=15) (S:=fun w' => True) (ds:=[]) #[false,false,false,false,false,false,false,false,false,false,false,false,false,false,false] (by kernel_rfl) rfl rfl trivial (fun hHeld=>?_);refine with_tabW impl_ties_foata.tab6 impl_ties_foata.bits6 (fun HT_ HW_=>?_)
          generalize wr.drew = w50 at HO_5 HB hHeld ⊢
          refine zp 0 (some 18) #[true,false,false,false,false,false,false,false,false,false,false,false,false,false,false] HT_.out ?_
          refine zp 1 (some 19) #[true,true,false,false,false,false,false,false,false,false,false,false,false,false,false] HT_.out ?_
          refine zp 2 (some 20) #[true,true,true,false,false,false,false,false,false,false,false,false,false,false,false] HT_.out ?_
          refine zu 3 (some 21) #[true,true,true,true,false,false,false,false,false,false,false,false,false,false,false] HT_.out ?_
          refine zu 4 (some 22) #[true,true,true,true,true,false,false,false,false,false,false,false,false,false,false] HT_.out ?_
          refine zu 5 (some 23) #[true,true,true,true,true,true,false,false,false,false,false,false,false,false,false] HT_.out ?_
          refine zu 6 (some 24) #[true,true,true,true,true,true,true,false,false,false,false,false,false,false,false] HT_.out ?_
          refine zu 7 (some 25) #[true,true,true,true,true,true,true,true,false,false,false,false,false,false,false] HT_.out ?_
          refine zu 8 (some 26) #[true,true,true,true,true,true,true,true,true,false,false,false,false,false,false] HT_.out ?_
          refine zu 9 (some 27) #[true,true,true,true,true,true,true,true,true,true,false,false,false,false,false] HT_.out ?_
          refine zu 10 (some 28) #[true,true,true,true,true,true,true,true,true,true,true,false,false,false,false] HT_.out ?_
          refine zu 11 (some 29) #[true,true,true,true,true,true,true,true,true,true,true,true,false,false,false] HT_.out ?_
          refine zu 12 (some 30) #[true,true,true,true,true,true,true,true,true,true,true,true,true,false,false] HT_.out ?_
          refine zu 13 (some 31) #[true,true,true,true,true,true,true,true,true,true,true,true,true,true,false] HT_.out ?_
          refine zp 14 (some 32) #[true,true,true,true,true,true,true,true,true,true,true,true,true,true,true] HT_.out ?_
          refine done_ (done_of HT_.out (by kernel_rfl)) ?_
          try go_wp2
          replace HO_5:=zA (zH HO_5.out)
          replace HB:=zA (zD HB.out)
          have p881:0 ≤ (x8_2:Int):=zd
          have q881:x8_2 < (x5_1.length:Int):=zd
          obtain ⟨ad881,e881,hx881_0⟩:=Kd.at_int (kB HO_5.out).2.2 x8_2 p881 q881
          cases e881
          replace p881:=eq_true p881
          replace q881:=eq_true q881
          refine start_ (n:=9) (S:=fun w' => w'.cell? (ad881.add (x8_2).toNat) = some (.int .i64 (rd x5_1 x8_2))) (ds:=[8]) #[false,false,false,false,false,false,false,false,false] (by kernel_rfl) rfl rfl (hx881_0) (fun hHeld=>?_);refine with_tabW impl_ties_foata.tab10 impl_ties_foata.bits10 (fun HT_ HW_=>?_)
          generalize w50.drew = w51 at HO_5 HB hx881_0 hHeld ⊢
          refine zp 0 (some 42) #[true,false,false,false,false,false,false,false,false] HT_.out ?_
          refine zp 1 (some 43) #[true,true,false,false,false,false,false,false,false] HT_.out ?_
          refine zp 2 (some 44) #[true,true,true,false,false,false,false,false,false] HT_.out ?_
          refine zp 4 (some 46) #[true,true,true,false,true,false,false,false,false] HT_.out ?_
          refine za 3 (some 45) #[true,true,true,true,true,false,false,false,false] HT_.out HW_.out hHeld ?_
          refine one_ (i:=5) (N:=some 47) #[true,true,true,true,true,true,false,false,false] rfl rfl (one_of HT_.out (by kernel_rfl)) (by decide) (fun K hK=>?_)
          refine goes_ Tryd.func31 (by kernel_rfl) rfl #[.int .i64 (rd l1 x12_1)] (by rfl) rfl rfl zg ?_
          with_reducible refine (impl_one.calls (rd l1 x12_1) t882 _ A48.out).mono ?_
          rintro e w' ⟨rfl,⟨nd,rfl⟩⟩
          refine ⟨_,rfl,?_⟩
          have p49:0 ≤ (x8_2:Int):=zd
          have q49:(x8_2:Int) < ((x5_1.length:Int):Int):=zd
          obtain ⟨go49,co49,eo49,gb49,gl49,cl49,HG49⟩:=Kd.R_form HO_5.out (by omega)
          (first | cases eo49 | (injection eo49 with ea_ en_ ec_;(first | subst ea_ | (injection ea_ with ea_;subst ea_));subst ec_;clear en_))
          have GB49:=zA gb49
          have GG49:=zA HG49
          clear gb49 gl49 HG49
          (first | simp only [add_plain] at hx881_0 | skip)
          obtain ⟨hx49_0,hf49_0⟩:=Kd.R_celln 0 HO_5.out (x8_2:Int) p49 q49
          replace p49:=eq_true p49
          replace q49:=eq_true q49
          have HP52:=Kd.R_putn HO_5.out (x8_2:Int) (Go.bits .or .i64 (rd x5_1 x8_2) t882)
          rw [← Ny883.out] at HP52
          have HQ52:=zA HP52
          clear HP52
          refine hK.out _ _ (hHeld) (fun hHeld=>?_)
          clear hK K
          refine norm_ (a' := ?_) ?_ ?_
          rotate_left
          ·show Act.put _ (some 47) _ = _
           simp only [Act.put,zL,zM,zN,i64_w,i32_w]
           rfl
          refine zp 6 (some 48) #[true,true,true,true,true,true,true,false,false] HT_.out ?_
          refine zp 7 (some 49) #[true,true,true,true,true,true,true,true,false] HT_.out ?_
          refine last_ (i:=8) (N:=none) #[true,true,true,true,true,true,true,true,true] rfl rfl (one_of HT_.out (by kernel_rfl)) (by decide) (fun K hK=>?_)
          refine skip_ (w1:=?_) (by rfl) rfl ?_ ?_
          rotate_left
          ·go_simp
           rfl
          refine hK.out _ _ ?_
          clear hK K
          refine done_ (done_of HT_.out (by kernel_rfl)) ?_
          try go_wp2
          go_roundg k2
          case measure=>have:=HK1.out;have:=HK2.out;omega
          case rel=>exact ⟨(y883),(wrap64 (x12_1 + 1)),zs,H', ⟨by have:=HK1.out;have:=HK2.out;omega⟩,⟨zP HQ52.out⟩,⟨zT HB.out GB49.out⟩⟩
         rw [if_neg c47] at H
         exact absurd H (by simp)
        rw [if_neg c46] at H
        exact absurd H (by simp)
     rw [if_neg c7] at H
     exact absurd H (by simp)
    rw [if_neg c6] at H
    exact absurd H (by simp)
   rw [if_neg c5] at H
   have c5b0:decide (x12_1 < (l1.length:Int)) = false:=decide_eq_false c5
   clear c5
   obtain rfl:=Option.some.inj H
   go_wp2
   go_ret
   exact ⟨_,zr,zP HO_5.out,zQ HB.out⟩
def impl_FoataForm.f (k:Nat) (a0_0:Int) (l0_1:List Int) (l1:List Int):Option (List Int × Int):=(impl_checkWords.f k a0_0 l0_1 (([l1]:List (List Int)))).bind fun t888=>(if t888 = 0 then ((impl_Alphabet_ties.f a0_0 l0_1).bind fun t889=>((impl_ties_foata.f k t889 l1).bind fun t892=>(some (t892,0)))) else (some (([]:List Int),t888)))
set_option maxHeartbeats 8000000 in
set_option maxRecDepth 100000 in
theorem impl_FoataForm.calls (k : Nat) (a0_0 : Int) (P0_1_ : Nat → Prop) (A0_1 : Option Addr) (c0_1 : Nat) (l0_1 : List Int) (P1_ : Nat → Prop) (A1 : Option Addr) (c1 : Nat) (l1 : List Int) (r1 : List Int) (r2 : Int) (w : World) (hs0_1 : Kd.V (Kd.int .i64) 2 w w.heap.size (fun k_ => P0_1_ k_) (.slice A0_1 l0_1.length c0_1) l0_1) (hs1 : Kd.V (Kd.int .i64) 2 w w.heap.size (fun k_ => P1_ k_) (.slice A1 l1.length c1) l1) (hT : TabW w) (h : impl_FoataForm.f k a0_0 l0_1 l1 = some (r1, r2)) :
  Calls Tryd.prog 17 #[.agg #[.int .i64 a0_0,.slice A0_1 l0_1.length c0_1],.slice A1 l1.length c1] w fun e w' => ∃ v0_:Value,e = .returned (.tuple #[v0_,.int .i64 r2]) ∧ Kd.R (Kd.int .i64) 2 w' w.heap.size (fun k_=>(w.heap.size ≤ k_)) v0_ r1 ∧ Below w.heap.size w w' := by
 have hu26:=Tryd.underlying26
 have HT:=zA hT
 clear hT
 have HO0_1:=zA (show Kd.V (Kd.int .i64) 2 w w.heap.size (fun k_=>((P0_1_ k_ ∨ P1_ k_) ∨ w.heap.size ≤ k_)) (.slice A0_1 l0_1.length c0_1) l0_1 from kN hs0_1 (fun k_ hk=>.inl (.inl hk)))
 have HO1:=zA (show Kd.V (Kd.int .i64) 2 w w.heap.size (fun k_=>((P0_1_ k_ ∨ P1_ k_) ∨ w.heap.size ≤ k_)) (.slice A1 l1.length c1) l1 from kN hs1 (fun k_ hk=>.inl (.inr hk)))
 have HB:=zA (kW w.heap.size w)
 have H:=h
 unfold impl_FoataForm.f at H
 clear h
 obtain ⟨y885,hy885⟩:∃ y_:List (List Int),y_ = (([l1]:List (List Int))):=⟨_,rfl⟩
 replace H:((impl_checkWords.f k a0_0 l0_1 y885).bind fun t888=>(if t888 = 0 then ((impl_Alphabet_ties.f a0_0 l0_1).bind fun t889=>((impl_ties_foata.f k t889 l1).bind fun t892=>(some (t892,0)))) else (some (([]:List Int),t888)))) = some (r1,r2):=zy hy885 H
 have Ny885:=zA hy885
 clear hy885
 obtain ⟨t888,A3,H⟩:=zb H
 try dsimp only at H
 by_cases c4:t888 = 0
 ·rw [if_pos c4] at H
  obtain ⟨c4b0,c4b1⟩:=zT1 c4
  clear c4
  obtain ⟨t889,A5,H⟩:=zb H
  try dsimp only at H
  obtain ⟨t892,A6,H⟩:=zb H
  try dsimp only at H
  simp only [Option.some.injEq,Prod.mk.injEq] at H
  obtain ⟨rfl,rfl⟩:=H
  go_enter Tryd.func17,Tryd.ntmps17
  go_wp2_with (first | (refine zBE 2 #[.int .i64 a0_0,.slice A0_1 l0_1.length c0_1] 26 ?_;intro gb884 hg w7 hbox hb;replace HO0_1:=zA (kG (jD (zPV HO0_1.out) gb884 (Nat.le_of_eq hg.symm)) hb);replace HO1:=zA (kG (jD (zPV HO1.out) gb884 (Nat.le_of_eq hg.symm)) hb);have BK884:=zA (hbox);have GW884:=zA (zBH hg HB.out);have GE884:=zA (zBH hg HB.out);replace HB:=zA (kQ (zQ HB.out) hb);clear hb hbox hg;obtain ⟨hcz8_0,hcz8_1,hfz8_0,hfz8_1⟩:=zB3 BK884.out) | ((with_reducible refine kS (N:=9) rfl ?_);refine Kd.N_lit (Kd.slice 2 (Kd.int .i64)) _ 24 ?hg (N' := 9) ?hd (xs:=([l1]:List (List Int))) (inner:=[.slice A1 l1.length c1]) (ok:=(fun k_=>((P0_1_ k_ ∨ P1_ k_) ∨ w.heap.size ≤ k_) ∧ k_ ≠ gb884)) (okp:=(fun k_=>((P0_1_ k_ ∨ P1_ k_) ∨ w.heap.size ≤ k_) ∧ k_ ≠ gb884)) ?hr ?hp (fun _ hk=>hk) ((show ∀ k_:Nat,(_:Nat) ≤ k_ → (fun k_=>((P0_1_ k_ ∨ P1_ k_) ∨ w.heap.size ≤ k_) ∧ k_ ≠ gb884) k_ from fun k_ hk=>⟨(.inr (Nat.le_trans (kP (zT HB.out GE884.out)) hk)),jE (g:=gb884) (o:=.cells #[.int .i64 a0_0,.slice A0_1 l0_1.length c0_1] 26 (0,0)) (zR BK884.out) k_ hk⟩) _ (Nat.le_refl _)) (kW _ _) (Nat.le_refl _) (by simp) ?_;(case hd=>rfl);(case hg=>rfl);(case hr=>first | (go_simp;done) | (go_simp;rfl));(case hp=>exact (Reps.one (show Kd.FK (Kd.slice 2 (Kd.int .i64)) _ _ l1 [.slice A1 l1.length c1] from (zFK (kN (ok' := (fun k_=>((P0_1_ k_ ∨ P1_ k_) ∨ w.heap.size ≤ k_) ∧ k_ ≠ gb884)) (HO1.out) (fun k_ hk=>⟨hk.1,hk.2⟩)))) (Reps.none _ _)));intro v886 w9 ho10 hb hg_ hnew_;clear hg_ hnew_;(first | rw [← Ny885.out] at ho10 | (simp only [Int.reduceToNat] at ho10;rw [← Ny885.out] at ho10));replace HO0_1:=zA (kK (zPV HO0_1.out) (Kd.N_base ho10) hb);replace HO1:=zA (kK (zPV HO1.out) (Kd.N_base ho10) hb);have HO887:=zA (jN ho10 (kP (zT HB.out GE884.out)));replace BK884:=zA (zB1 BK884.out hb);replace HB:=zA (kQ (zT HB.out GE884.out) hb);clear hb ho10;obtain ⟨Ao11,co11,eo11⟩:=Kd.N_slice HO887.out;subst eo11) | (refine zO (some 10) Tryd.func27 #[.agg #[.int .i64 a0_0,.slice A0_1 l0_1.length c0_1],.slice Ao11 y885.length co11] ?_;(with_reducible refine (impl_checkWords.calls k a0_0 _ _ l0_1 _ _ y885 t888 _ ?side1 ?side2 ?side3 ?side4 ?side5 A3.out).mono ?_);(case side1=>exact zS (kJ HO0_1.out).2.2);(case side2=>exact (kJ HO0_1.out).2.1);(case side3=>exact zS (Kd.N_reads' HO887.out).2.2);(case side4=>exact (Kd.N_reads' HO887.out).2.1);(case side5=>exact TabW.below HT.out (zT HB.out GE884.out));rintro e w12 ⟨rfl,hb⟩;refine ⟨_,rfl,?_⟩;replace HO0_1:=zA (kG (zPV HO0_1.out) hb);replace HO1:=zA (kG (zPV HO1.out) hb);replace HO887:=zA (kZ (zPN HO887.out) hb);replace BK884:=zA (zB1 BK884.out hb);replace HB:=zA (kQ (zT HB.out GE884.out) hb);(try clear hb);obtain ⟨hcz13_0,hcz13_1,hfz13_0,hfz13_1⟩:=zB3 BK884.out) | (refine zO (some 15) Tryd.func38 #[.agg #[.int .i64 a0_0,.slice A0_1 l0_1.length c0_1]] ?_;(with_reducible refine (impl_Alphabet_ties.calls a0_0 (fun k_=>((((P0_1_ k_ ∨ P1_ k_) ∨ w.heap.size ≤ k_) ∧ k_ ≠ gb884) ∧ some k_ ≠ (.slice Ao11 y885.length co11:Value).ownBlock)) _ _ l0_1 t889 _ ?side1 A5.out).mono ?_);(case side1=>exact HO0_1.out);rintro e w14 ⟨v890,rfl,ho0,hb⟩;refine ⟨_,rfl,?_⟩;replace HO0_1:=zA (kG (zPV HO0_1.out) hb);replace HO1:=zA (kG (zPV HO1.out) hb);have HO891:=zA (jM (kN (ok' := fun k_=>((P0_1_ k_ ∨ P1_ k_) ∨ w.heap.size ≤ k_) ∧ some k_ ≠ (.slice Ao11 y885.length co11:Value).ownBlock ∧ k_ ≠ gb884) ho0 (fun k_ hk_=>⟨Or.elim hk_ (fun hs_=>hs_.1.1) (fun hn_=>(.inr (Nat.le_trans (kP (zT HB.out GE884.out)) hn_))),Or.elim hk_ (fun hs_=>hs_.2) (fun hn_=>(jF (jA (zPN HO887.out)) k_ hn_)),Or.elim hk_ (fun hs_=>hs_.1.2) (fun hn_=>(jE (g:=gb884) (o:=.cells #[.int .i64 a0_0,.slice A0_1 l0_1.length c0_1] 26 (0,0)) (zR BK884.out) k_ hn_))⟩)) (kP (zT HB.out GE884.out)));replace HO887:=zA (kZ (zPN HO887.out) hb);replace BK884:=zA (zB1 BK884.out hb);replace HB:=zA (kQ (zT HB.out GE884.out) hb);(try clear hb);(try clear ho0);obtain ⟨Ao15,co15,eo15⟩:=Kd.V_slice HO891.out;subst eo15) | (refine zO (some 17) Tryd.func39 #[.slice Ao15 t889.length co15,.slice A1 l1.length c1] ?_;(with_reducible refine (impl_ties_foata.calls k _ _ t889 _ _ l1 t892 _ ?side1 ?side2 ?side3 ?side4 A6.out).mono ?_);(case side1=>exact zS (kJ HO891.out).2.2);(case side2=>exact (kJ HO891.out).2.1);(case side3=>exact zS (kJ HO1.out).2.2);(case side4=>exact (kJ HO1.out).2.1);rintro e w16 ⟨v893,rfl,ho0,hb⟩;refine ⟨_,rfl,?_⟩;replace HO0_1:=zA (kK (zPV HO0_1.out) (kC ho0) hb);replace HO1:=zA (kK (zPV HO1.out) (kC ho0) hb);replace HO887:=zA (Kd.N_elder' (zPN HO887.out) (kC ho0) hb);replace HO891:=zA (kK (zPV HO891.out) (kC ho0) hb);have HO894:=zA (kI (Kd.R_newM (M:=fun k_=>(w.heap.size ≤ k_)) ho0 (kP (zT HB.out GE884.out)) (fun k_ h_=>h_)) (kP (zT HB.out GE884.out)));replace BK884:=zA (zB1 BK884.out hb);replace HB:=zA (kQ (zT HB.out GE884.out) hb);(try clear hb);(try clear ho0)))
  go_ret2
  exact ⟨_,zr,by (with_reducible repeat (first | apply zF | apply zG | apply zH));exact kA HO894.out (fun _ hk=>hk.1),zT HB.out GE884.out⟩
 rw [if_neg c4] at H
 obtain ⟨c4b0,c4b1⟩:=zT2 c4
 simp only [Option.some.injEq,Prod.mk.injEq] at H
 obtain ⟨rfl,rfl⟩:=H
 go_enter Tryd.func17,Tryd.ntmps17
 go_wp2_with (first | (refine zBE 2 #[.int .i64 a0_0,.slice A0_1 l0_1.length c0_1] 26 ?_;intro gb884 hg w17 hbox hb;replace HO0_1:=zA (kG (jD (zPV HO0_1.out) gb884 (Nat.le_of_eq hg.symm)) hb);replace HO1:=zA (kG (jD (zPV HO1.out) gb884 (Nat.le_of_eq hg.symm)) hb);have BK884:=zA (hbox);have GW884:=zA (zBH hg HB.out);have GE884:=zA (zBH hg HB.out);replace HB:=zA (kQ (zQ HB.out) hb);clear hb hbox hg;obtain ⟨hcz18_0,hcz18_1,hfz18_0,hfz18_1⟩:=zB3 BK884.out) | ((with_reducible refine kS (N:=9) rfl ?_);refine Kd.N_lit (Kd.slice 2 (Kd.int .i64)) _ 24 ?hg (N' := 9) ?hd (xs:=([l1]:List (List Int))) (inner:=[.slice A1 l1.length c1]) (ok:=(fun k_=>((P0_1_ k_ ∨ P1_ k_) ∨ w.heap.size ≤ k_) ∧ k_ ≠ gb884)) (okp:=(fun k_=>((P0_1_ k_ ∨ P1_ k_) ∨ w.heap.size ≤ k_) ∧ k_ ≠ gb884)) ?hr ?hp (fun _ hk=>hk) ((show ∀ k_:Nat,(_:Nat) ≤ k_ → (fun k_=>((P0_1_ k_ ∨ P1_ k_) ∨ w.heap.size ≤ k_) ∧ k_ ≠ gb884) k_ from fun k_ hk=>⟨(.inr (Nat.le_trans (kP (zT HB.out GE884.out)) hk)),jE (g:=gb884) (o:=.cells #[.int .i64 a0_0,.slice A0_1 l0_1.length c0_1] 26 (0,0)) (zR BK884.out) k_ hk⟩) _ (Nat.le_refl _)) (kW _ _) (Nat.le_refl _) (by simp) ?_;(case hd=>rfl);(case hg=>rfl);(case hr=>first | (go_simp;done) | (go_simp;rfl));(case hp=>exact (Reps.one (show Kd.FK (Kd.slice 2 (Kd.int .i64)) _ _ l1 [.slice A1 l1.length c1] from (zFK (kN (ok' := (fun k_=>((P0_1_ k_ ∨ P1_ k_) ∨ w.heap.size ≤ k_) ∧ k_ ≠ gb884)) (HO1.out) (fun k_ hk=>⟨hk.1,hk.2⟩)))) (Reps.none _ _)));intro v886 w19 ho20 hb hg_ hnew_;clear hg_ hnew_;(first | rw [← Ny885.out] at ho20 | (simp only [Int.reduceToNat] at ho20;rw [← Ny885.out] at ho20));replace HO0_1:=zA (kK (zPV HO0_1.out) (Kd.N_base ho20) hb);replace HO1:=zA (kK (zPV HO1.out) (Kd.N_base ho20) hb);have HO887:=zA (jN ho20 (kP (zT HB.out GE884.out)));replace BK884:=zA (zB1 BK884.out hb);replace HB:=zA (kQ (zT HB.out GE884.out) hb);clear hb ho20;obtain ⟨Ao21,co21,eo21⟩:=Kd.N_slice HO887.out;subst eo21) | (refine zO (some 10) Tryd.func27 #[.agg #[.int .i64 a0_0,.slice A0_1 l0_1.length c0_1],.slice Ao21 y885.length co21] ?_;(with_reducible refine (impl_checkWords.calls k a0_0 _ _ l0_1 _ _ y885 t888 _ ?side1 ?side2 ?side3 ?side4 ?side5 A3.out).mono ?_);(case side1=>exact zS (kJ HO0_1.out).2.2);(case side2=>exact (kJ HO0_1.out).2.1);(case side3=>exact zS (Kd.N_reads' HO887.out).2.2);(case side4=>exact (Kd.N_reads' HO887.out).2.1);(case side5=>exact TabW.below HT.out (zT HB.out GE884.out));rintro e w22 ⟨rfl,hb⟩;refine ⟨_,rfl,?_⟩;replace HO0_1:=zA (kG (zPV HO0_1.out) hb);replace HO1:=zA (kG (zPV HO1.out) hb);replace HO887:=zA (kZ (zPN HO887.out) hb);replace BK884:=zA (zB1 BK884.out hb);replace HB:=zA (kQ (zT HB.out GE884.out) hb);(try clear hb)))
 go_ret2
 exact ⟨_,zr,zn,zT HB.out GE884.out⟩
def laws_bits5.l0:Nat → Int → Int → Option (Int)
 | 0,_,_=>none
 | k + 1,x0,x3=>if x0 > 0 then (laws_bits5.l0 k (wrap64 (Int.tdiv x0 2)) (wrap64 (x3 + (Int.tmod x0 2)))) else (some x3)
def laws_bits5.f (k:Nat) (a0:Int):Option (Int):=laws_bits5.l0 k a0 0
set_option maxHeartbeats 8000000 in
set_option maxRecDepth 100000 in
theorem laws_bits5.calls (k : Nat) (a0 : Int) (r : Int) (w : World) (h : laws_bits5.f k a0 = some r) :
  Calls Tryd.prog 18 #[.int .i64 a0] w fun e w' => e = .returned (.int .i64 r) ∧ Drawn0 w w' := by
 have H:=h
 unfold laws_bits5.f at H
 clear h
 have H' := zA H
 clear H
 go_enter Tryd.func18,Tryd.ntmps18
 go_wp2
 go_loopg [0,3] k (fun kq v0 v3 w' => ∃ (x0_1:Int) (x3_1:Int),v0 = .int .i64 x0_1 ∧ v3 = .int .i64 x3_1 ∧ Aside0 (laws_bits5.l0 kq x0_1 x3_1 = some r) ∧ Aside0 (kq ≤ k) ∧ Drawn0 w w')
 case atStart=>exact ⟨(a0),(0),zs,zs,H', ⟨Nat.le_refl _⟩,by repeat (first | exact Drawn0.refl _ | apply Drawn0.step)⟩
 case round =>
  clear H'
  try clear c1
  obtain ⟨x0_1,x3_1,rfl,rfl,HA,HK1,⟨m1,rfl⟩⟩:=hrel
  cases gk with
  | zero=>exact absurd HA.out (by simp [laws_bits5.l0])
  | succ k1 =>
   have H:=HA.out
   clear HA
   simp only [laws_bits5.l0] at H
   by_cases c2:x0_1 > 0
   ·rw [if_pos c2] at H
    have c2b0:decide (0 < x0_1) = true:=decide_eq_true c2
    clear c2
    have H' := zA H
    clear H
    go_wp2
    go_roundg k1
    case measure=>have:=HK1.out;omega
    case rel=>exact ⟨(wrap64 (Int.tdiv x0_1 2)),(wrap64 (x3_1 + (Int.tmod x0_1 2))),zs,zs,H', ⟨by have:=HK1.out;omega⟩,by repeat (first | exact Drawn0.refl _ | apply Drawn0.step)⟩
   rw [if_neg c2] at H
   have c2b0:decide (0 < x0_1) = false:=decide_eq_false c2
   clear c2
   obtain rfl:=Option.some.inj H
   go_wp2
   go_ret
   exact ⟨zs,by repeat (first | exact Drawn0.refl _ | apply Drawn0.step)⟩
mutual
def laws_FnWidths.j0:Nat → List Int → Int → Int → Bool → Int → List Int → Option (Bool)
 | 0,_,_,_,_,_,_=>none
 | k + 1,x4,x5,x6,x46,x904000,x904001=>if x46 = true then (none) else (if x6 = 0 then (laws_FnWidths.l0 k x4 x5 (([]:List Int)) 0 x904000 x904001) else (some true))
def laws_FnWidths.l0:Nat → List Int → Int → List Int → Int → Int → List Int → Option (Bool)
 | 0,_,_,_,_,_,_=>none
 | k + 1,x4,x5,x9,x10,x904000,x904001=>if x10 < (x4.length:Int) then ((impl_ConcurrentWith.f k x904000 x904001 x4 x10).bind fun bt911=>(if bt911.2 = 0 then (if x9.length < 17592186044416 then (laws_FnWidths.l0 k x4 x5 (x9 ++ [bt911.1]) (wrap64 (x10 + 1)) x904000 x904001) else (none)) else (none))) else ((impl_CliquesOf.f k x9).bind fun bt916=>((impl_FoataForm.f k x904000 x904001 x4).bind fun bt920=>(if bt916.2 = 0 then (laws_FnWidths.j2 k x5 bt916.1 bt916.2 bt920.1 (bt920.2 != 0)) else (laws_FnWidths.j2 k x5 bt916.1 bt916.2 bt920.1 true))))
def laws_FnWidths.j2:Nat → Int → List Int → Int → List Int → Bool → Option (Bool)
 | 0,_,_,_,_,_=>none
 | k + 1,x5,x13,x14,x15,x85=>if x85 = true then (some (x14 == 3)) else (laws_FnWidths.l1 k x5 x13 x15 0 0)
def laws_FnWidths.l1:Nat → Int → List Int → List Int → Int → Int → Option (Bool)
 | 0,_,_,_,_,_=>none
 | k + 1,x5,x13,x15,x17,x18=>if x18 < (x13.length:Int) then (if 0 ≤ x18 then ((laws_bits5.f k (rd x13 x18)).bind fun t925=>(if t925 > x17 then ((laws_bits5.f k (rd x13 x18)).bind fun t927=>(laws_FnWidths.l1 k x5 x13 x15 t927 (wrap64 (x18 + 1)))) else (laws_FnWidths.l1 k x5 x13 x15 x17 (wrap64 (x18 + 1))))) else (none)) else (laws_FnWidths.l2 k x5 x15 x17 0)
def laws_FnWidths.l2:Nat → Int → List Int → Int → Int → Option (Bool)
 | 0,_,_,_,_=>none
 | k + 1,x5,x15,x17,x19=>if x19 < (x15.length:Int) then (if 0 ≤ x19 then ((laws_bits5.f k (rd x15 x19)).bind fun t929=>(if t929 > x5 then (none) else (laws_FnWidths.l2 k x5 x15 x17 (wrap64 (x19 + 1))))) else (none)) else (some (x17 == x5))
end
def laws_FnWidths.f (k:Nat) (l0:List Int):Option (Bool):=(laws_big.f l0).bind fun t895=>(if t895 = true then (some true) else ((spec_DrawWidthOf.f k l0).bind fun bt896=>((impl_WidthOf.f k bt896.1 bt896.2.1 bt896.2.2).bind fun bt904=>((spec_WidthOf.f k bt896.1 bt896.2.1 bt896.2.2).bind fun bt906=>(if bt904.2 = bt906.2 then (laws_FnWidths.j0 k bt896.2.2 bt904.1 bt904.2 (bt904.1 != bt906.1) bt896.1 bt896.2.1) else (laws_FnWidths.j0 k bt896.2.2 bt904.1 bt904.2 true bt896.1 bt896.2.1))))))
set_option maxHeartbeats 8000000 in
set_option maxRecDepth 100000 in
theorem laws_FnWidths.calls (k : Nat) (A0 : Option Addr) (c0 : Nat) (l0 : List Int) (r : Bool) (w : World) (hr0 : Kd.C (Kd.int .u8) w A0 l0.length l0) (hc0 : l0.length ≤ c0) (hT : TabW w) (h : laws_FnWidths.f k l0 = some r) :
  Calls Tryd.prog 4 #[.slice A0 l0.length c0] w fun e w' => e = .returned (.bool r) ∧ Below w.heap.size w w' := by
 have hu26:=Tryd.underlying26
 have HT:=zA hT
 clear hT
 have HR0:=zA hr0
 have HC0:=zA hc0
 clear hr0 hc0
 have HB:=zA (kW w.heap.size w)
 have H:=h
 unfold laws_FnWidths.f at H
 clear h
 obtain ⟨t895,A2,H⟩:=zb H
 try dsimp only at H
 by_cases c3:t895 = true
 ·subst c3
  rw [if_pos rfl] at H
  obtain rfl:=Option.some.inj H
  go_enter Tryd.func4,Tryd.ntmps4
  go_wp2_with (first | (refine zO (some 21) Tryd.func5 #[.slice A0 l0.length c0] ?_;(with_reducible refine (laws_big.calls _ _ l0 true _ ?side1 ?side2 A2.out).mono ?_);(case side1=>exact zS HR0.out);(case side2=>exact HC0.out);rintro e w' ⟨rfl,⟨nd,rfl⟩⟩;refine ⟨_,rfl,?_⟩))
  go_ret
  exact ⟨zr,zQ HB.out⟩
 replace c3:=Bool.eq_false_iff.mpr c3
 subst c3
 rw [if_neg (show ¬ (false = true) by decide)] at H
 obtain ⟨⟨t896,t897,t900⟩,A4,H⟩:=zb H
 try dsimp only at H
 obtain ⟨⟨t904,t905⟩,A5,H⟩:=zb H
 try dsimp only at H
 obtain ⟨⟨t906,t907⟩,A6,H⟩:=zb H
 try dsimp only at H
 have HC7:=zA H
 clear H
 go_enter Tryd.func4,Tryd.ntmps4
 go_upto_region 6 with (first | (refine zO (some 21) Tryd.func5 #[.slice A0 l0.length c0] ?_;(with_reducible refine (laws_big.calls _ _ l0 false _ ?side1 ?side2 A2.out).mono ?_);(case side1=>exact zS HR0.out);(case side2=>exact HC0.out);rintro e w' ⟨rfl,⟨nd,rfl⟩⟩;refine ⟨_,rfl,?_⟩) | (refine zO (some 24) Tryd.func12 #[.slice A0 l0.length c0] ?_;(with_reducible refine (spec_DrawWidthOf.calls k _ _ l0 t896 t897 t900 _ ?side1 ?side2 A4.out).mono ?_);(case side1=>exact zS HR0.out);(case side2=>exact HC0.out);rintro e w8 ⟨v898,v901,rfl,ho0,ho1,hb⟩;refine ⟨_,rfl,?_⟩;have HO899:=zA (kI ho0 (kP (zQ HB.out)));have HO902:=zA (kI ho1 (kP (zQ HB.out)));replace HB:=zA (kQ (zQ HB.out) hb);(try clear hb);(try clear ho0);(try clear ho1)) | (refine zBE 3 #[.int .i64 0,.slice none 0 0] 26 ?_;intro gb903 hg w9 hbox hb;replace HO899:=zA (kL (zP HO899.out) hb);replace HO902:=zA (kL (zP HO902.out) hb);have BK903:=zA (hbox);have GW903:=zA (zBH hg HB.out);have GE903:=zA (zBH hg HB.out);replace HB:=zA (kQ (zQ HB.out) hb);clear hb hbox hg;obtain ⟨hcz10_0,hcz10_1,hfz10_0,hfz10_1⟩:=zB3 BK903.out;obtain ⟨Ao11,co11,eo11⟩:=kM HO899.out;subst eo11) | ((with_reducible refine gate_store (t:=26) (p:=3) rfl ?_);refine store_event (t:=26) (p:=3) (v:=?vo_w12) (w1:=((w9.setCell ⟨gb903,0,none⟩ (.int .i64 t896)).setCell ⟨gb903,1,none⟩ (.slice Ao11 t897.length co11))) ?hg ?ho ?hn ?hr ?_;(case ho=>rfl);(case hg=>rfl);(case hn=>rfl);(case hr=>first | (go_simp;done) | (go_simp;rfl));intro w12 hw;replace HO899:Aside0 (Kd.R (Kd.int .i64) 2 w12 w.heap.size (fun k_=>some k_ ≠ (v901:Value).ownBlock) (.slice Ao11 t897.length co11) t897):=⟨(by rw [hw];exact (by (with_reducible repeat (first | apply zF | apply zG | apply zH));exact kA (kY (p:=⟨gb903,1,none⟩) (kY (p:=⟨gb903,0,none⟩) (kD HO899.out BK903.out (by decide)) (fun _ hk=>hk.2) (.int .i64 t896)) (fun _ hk=>hk.2) (.slice Ao11 t897.length co11)) (fun _ hk=>hk.1)))⟩;replace HO902:Aside0 (Kd.R (Kd.int .i64) 2 w12 w.heap.size (fun k_=>some k_ ≠ (.slice Ao11 t897.length co11:Value).ownBlock) v901 t900):=⟨(by rw [hw];exact (by (with_reducible repeat (first | apply zF | apply zG | apply zH));exact kA (kY (p:=⟨gb903,1,none⟩) (kY (p:=⟨gb903,0,none⟩) (kD HO902.out BK903.out (by decide)) (fun _ hk=>hk.2) (.int .i64 t896)) (fun _ hk=>hk.2) (.slice Ao11 t897.length co11)) (fun _ hk=>hk.1)))⟩;replace BK903:Aside0 (w12.heap[gb903]? = some (.cells #[.int .i64 t896,.slice Ao11 t897.length co11] 26 (0,0))):=⟨(by rw [hw];exact (zRP BK903.out))⟩;replace HB:Aside0 (Below w.heap.size w w12):=⟨(by rw [hw];exact (zT HB.out GE903.out))⟩;clear hw;obtain ⟨hcz13_0,hcz13_1,hfz13_0,hfz13_1⟩:=zB3 BK903.out;obtain ⟨Ao14,co14,eo14⟩:=kM HO902.out;subst eo14) | (refine zO (some 30) Tryd.func13 #[.agg #[.int .i64 t896,.slice Ao11 t897.length co11],.slice Ao14 t900.length co14] ?_;(with_reducible refine (impl_WidthOf.calls k t896 _ _ t897 (fun k_=>some k_ = (.slice Ao14 t900.length co14:Value).ownBlock) _ _ t900 t904 t905 _ ?side1 ?side2 ?side3 ?side4 A5.out).mono ?_);(case side1=>exact zS (kB HO899.out).2.2);(case side2=>exact (kB HO899.out).2.1);(case side3=>exact jL (jK rfl (kD (HO902.out) BK903.out (by decide))));(case side4=>exact TabW.below HT.out (zT HB.out GE903.out));rintro e w15 ⟨rfl,hb⟩;refine ⟨_,rfl,?_⟩;replace HO899:=zA (kL (zP HO899.out) hb);replace HO902:=zA (kL (zP HO902.out) hb);replace BK903:=zA (zB1 BK903.out hb);replace HB:=zA (kQ (zT HB.out GE903.out) hb);(try clear hb);obtain ⟨hcz16_0,hcz16_1,hfz16_0,hfz16_1⟩:=zB3 BK903.out) | (refine zO (some 36) Tryd.func14 #[.agg #[.int .i64 t896,.slice Ao11 t897.length co11],.slice Ao14 t900.length co14] ?_;(with_reducible refine (spec_WidthOf.calls k t896 _ _ t897 _ _ t900 t906 t907 _ ?side1 ?side2 ?side3 ?side4 A6.out).mono ?_);(case side1=>exact zS (kB HO899.out).2.2);(case side2=>exact (kB HO899.out).2.1);(case side3=>exact zS (kB HO902.out).2.2);(case side4=>exact (kB HO902.out).2.1);rintro e w17 ⟨rfl,hb⟩;refine ⟨_,rfl,?_⟩;replace HO899:=zA (kL (zP HO899.out) hb);replace HO902:=zA (kL (zP HO902.out) hb);replace BK903:=zA (zB1 BK903.out hb);replace HB:=zA (kQ (zT HB.out GE903.out) hb);(try clear hb)))
 (try simp only [Act.put,zL,zM,zN])
 go_cut [46] (fun v46 wc=>∃ (kq:Nat) (x46_6:Bool),v46 = .bool x46_6 ∧ Aside0 (laws_FnWidths.j0 kq t900 t904 t905 x46_6 t896 t897 = some r) ∧ Aside0 (kq ≤ k) ∧ Aside0 (Kd.R (Kd.int .i64) 2 wc w.heap.size (fun k_=>some k_ ≠ ((.slice Ao11 t897.length co11):Value).ownBlock) (.slice Ao14 t900.length co14) t900) ∧ Aside0 (Kd.R (Kd.int .i64) 2 wc w.heap.size (fun k_=>some k_ ≠ ((.slice Ao14 t900.length co14):Value).ownBlock) (.slice Ao11 t897.length co11) t897) ∧ Aside0 (wc.heap[gb903]? = some (.cells #[.int .i64 t896,(.slice Ao11 t897.length co11)] 26 (0,0))) ∧ Aside0 (Below w.heap.size w wc))
 case first=>as_aux_lemma =>
  have H:=HC7.out
  clear HC7
  by_cases c18:t905 = t907
  ·rw [if_pos c18] at H
   obtain ⟨c18b0,c18b1⟩:=zT1 c18
   clear c18
   (first | rw [c18b0] | (simp only [i64_w,i32_w];rw [c18b0]) | skip)
   have H' := zA H
   clear H
   go_wp2
   go_meet
   case rel=>exact ⟨_,((t904 != t906)),zs,H', ⟨by first | omega | exact Nat.le_refl _⟩,⟨zP HO902.out⟩,⟨zP HO899.out⟩,⟨zR BK903.out⟩,⟨zT HB.out GE903.out⟩⟩
  rw [if_neg c18] at H
  obtain ⟨c18b0,c18b1⟩:=zT2 c18
  (first | rw [c18b0] | (simp only [i64_w,i32_w];rw [c18b0]) | skip)
  have H' := zA H
  clear H
  go_wp2
  go_meet
  case rel=>exact ⟨_,(true),zs,H', ⟨by first | omega | exact Nat.le_refl _⟩,⟨zP HO902.out⟩,⟨zP HO899.out⟩,⟨zR BK903.out⟩,⟨zT HB.out GE903.out⟩⟩
 case rest =>
  clear HC7
  try clear c1
  try clear c3
  try clear c4
  try clear c5
  try clear c12
  try clear c13
  try clear c14
  try clear c18
  try clear hcz10_0
  try clear hcz10_1
  try clear hcz13_0
  try clear hcz13_1
  try clear hcz16_0
  try clear hcz16_1
  try clear hfz10_0
  try clear hfz10_1
  try clear hfz13_0
  try clear hfz13_1
  try clear hfz16_0
  try clear hfz16_1
  obtain ⟨kq,x46_6,rfl,HA,HJ6,HO_4,HO_904001,BK903,HB⟩:=hcut
  cases kq with
  | zero=>exact absurd HA.out (by simp [laws_FnWidths.j0])
  | succ kj6 =>
   have H:=HA.out
   clear HA
   simp only [laws_FnWidths.j0] at H
   by_cases c19:x46_6 = true
   ·subst c19
    rw [if_pos rfl] at H
    exact absurd H (by simp)
   replace c19:=Bool.eq_false_iff.mpr c19
   subst c19
   rw [if_neg (show ¬ (false = true) by decide)] at H
   by_cases c20:t905 = 0
   ·rw [if_pos c20] at H
    obtain ⟨c20b0,c20b1⟩:=zT1 c20
    clear c20
    obtain ⟨y908,hy908⟩:∃ y_:List Int,y_ = (([]:List Int)):=⟨_,rfl⟩
    replace H:(laws_FnWidths.l0 kj6 t900 t904 y908 0 t896 t897) = some r:=zy hy908 H
    have Ny908:=zA hy908
    clear hy908
    have H' := zA H
    clear H
    go_wp2_with (first | ((with_reducible refine kS (N:=49) rfl ?_);refine Kd.R_lit (Kd.int .i64) _ 2 ?hg (N:=49) ?hd (xs:=([]:List Int)) (inner:=[]) (ok:=fun _=>True) (okp:=fun _=>True) ?hr ?hp (fun _ hk=>hk) trivial (kW _ _) (Nat.le_refl _) (by simp) ?_;(case hd=>rfl);(case hg=>rfl);(case hr=>first | (go_simp;done) | (go_simp;rfl));(case hp=>exact (Reps.none _ _));intro v909 w21 ho22 hb hg_ hnew_;clear hg_ hnew_;(first | rw [← Ny908.out] at ho22 | (simp only [Int.reduceToNat] at ho22;rw [← Ny908.out] at ho22));have HO910:=zA (kI (kF (kF ho22 (kH (zP HO_4.out))) (kH (zP HO_904001.out))) (kP (zT HB.out GE903.out)));replace HO_4:=zA (kE (zP HO_4.out) (kC ho22) hb);replace HO_904001:=zA (kE (zP HO_904001.out) (kC ho22) hb);replace BK903:=zA (zB1 BK903.out hb);replace HB:=zA (kQ (zT HB.out GE903.out) hb);clear hb ho22))
    go_loopg [9,10] kj6 (fun kq v9 v10 w' => ∃ (x9_2:List Int) (x10_2:Int),v10 = .int .i64 x10_2 ∧ Aside0 (laws_FnWidths.l0 kq t900 t904 x9_2 x10_2 t896 t897 = some r) ∧ Aside0 (kq ≤ kj6) ∧ Aside0 (Kd.R (Kd.int .i64) 2 w' w.heap.size (fun k_=>some k_ ≠ (v9:Value).ownBlock ∧ some k_ ≠ ((.slice Ao11 t897.length co11):Value).ownBlock) (.slice Ao14 t900.length co14) t900) ∧ Aside0 (Kd.R (Kd.int .i64) 2 w' w.heap.size (fun k_=>some k_ ≠ ((.slice Ao14 t900.length co14):Value).ownBlock ∧ some k_ ≠ ((.slice Ao11 t897.length co11):Value).ownBlock) v9 x9_2) ∧ Aside0 (Kd.R (Kd.int .i64) 2 w' w.heap.size (fun k_=>some k_ ≠ ((.slice Ao14 t900.length co14):Value).ownBlock ∧ some k_ ≠ (v9:Value).ownBlock) (.slice Ao11 t897.length co11) t897) ∧ Aside0 (w'.heap[gb903]? = some (.cells #[.int .i64 t896,(.slice Ao11 t897.length co11)] 26 (0,0))) ∧ Aside0 (Below w.heap.size w w'))
    case atStart=>exact ⟨(y908),(0),zs,H', ⟨Nat.le_refl _⟩,⟨zPM HO_4.out (fun _ hk=>⟨hk.2,hk.1⟩)⟩,⟨zPM HO910.out (fun _ hk=>⟨hk.1.2,hk.2⟩)⟩,⟨zP HO_904001.out⟩,⟨zR BK903.out⟩,⟨zT HB.out GE903.out⟩⟩
    case round =>
     clear H'
     try clear c1
     try clear c2
     try clear c3
     try clear c4
     try clear c5
     try clear c12
     try clear c13
     try clear c14
     try clear c18
     try clear c19
     try clear c20
     try clear hcz10_0
     try clear hcz10_1
     try clear hcz13_0
     try clear hcz13_1
     try clear hcz16_0
     try clear hcz16_1
     try clear hfz10_0
     try clear hfz10_1
     try clear hfz13_0
     try clear hfz13_1
     try clear hfz16_0
     try clear hfz16_1
     obtain ⟨x9_2,x10_2,rfl,HA,HK2,HO_4,HO_9,HO_904001,BK903,HB⟩:=hrel
     cases gk with
     | zero=>exact absurd HA.out (by simp [laws_FnWidths.l0])
     | succ k2 =>
      have H:=HA.out
      clear HA
      simp only [laws_FnWidths.l0] at H
      by_cases c23:x10_2 < (t900.length:Int)
      ·rw [if_pos c23] at H
       have c23b0:decide (x10_2 < (t900.length:Int)) = true:=decide_eq_true c23
       clear c23
       obtain ⟨⟨t911,t912⟩,A24,H⟩:=zb H
       try dsimp only at H
       by_cases c25:t912 = 0
       ·rw [if_pos c25] at H
        obtain ⟨c25b0,c25b1⟩:=zT1 c25
        clear c25
        by_cases c26:x9_2.length < 17592186044416
        ·rw [if_pos c26] at H
         have LMc26:=zA c26
         clear c26
         obtain ⟨y913,hy913⟩:∃ y_:List Int,y_ = (x9_2 ++ [t911]):=⟨_,rfl⟩
         replace H:(laws_FnWidths.l0 k2 t900 t904 y913 (wrap64 (x10_2 + 1)) t896 t897) = some r:=zy hy913 H
         have Ny913:=zA hy913
         clear hy913
         have H' := zA H
         clear H
         obtain ⟨hcz27_0,hcz27_1,hfz27_0,hfz27_1⟩:=zB3 BK903.out
         go_wp2_with (first | (refine zO (some 60) Tryd.func15 #[.agg #[.int .i64 t896,.slice Ao11 t897.length co11],.slice Ao14 t900.length co14,.int .i64 x10_2] ?_;(with_reducible refine (impl_ConcurrentWith.calls k2 t896 _ _ t897 _ _ t900 x10_2 t911 t912 _ ?side1 ?side2 ?side3 ?side4 ?side5 A24.out).mono ?_);(case side1=>exact zS (kB HO_904001.out).2.2);(case side2=>exact (kB HO_904001.out).2.1);(case side3=>exact zS (kB HO_4.out).2.2);(case side4=>exact (kB HO_4.out).2.1);(case side5=>exact TabW.below HT.out (zT HB.out GE903.out));rintro e w28 ⟨rfl,hb⟩;refine ⟨_,rfl,?_⟩;replace HO_4:=zA (kL (zP HO_4.out) hb);replace HO_9:=zA (kL (zP HO_9.out) hb);replace HO_904001:=zA (kL (zP HO_904001.out) hb);replace BK903:=zA (zB1 BK903.out hb);replace HB:=zA (kQ (zT HB.out GE903.out) hb);(try clear hb)) | ((with_reducible refine gate_builtin (b:=.append) (xs:=#[.tmp 65,.tmp 67]) rfl ?_);at_builtin;refine Kd.R_append (Kd.int .i64) (w0:=w) w.heap.size rfl (.tmp 65) (.tmp 67) 24 2 (.int .i64 0) 8 rfl Tryd.underlying24 info2 rfl (by decide) (by omega) u9 x9_2 t911 [.int .i64 t911] (fun k_=>some k_ ≠ (.slice Ao14 t900.length co14:Value).ownBlock ∧ some k_ ≠ (.slice Ao11 t897.length co11:Value).ownBlock) (fun _=>False) rfl rfl ?aP (fun _ hk=>hk.elim) ?aF ?aO ?aB ?aS ?aL ?_;(case aP=>exact rfl);(case aB=>exact (zT HB.out GE903.out));(case aF=>exact (fun k_ hk=>⟨jF (kH (zP HO_4.out)) k_ hk,jF (kH (zP HO_904001.out)) k_ hk⟩));(case aO=>exact (zP HO_9.out));(case aS=>exact (kP (zT HB.out GE903.out)));(case aL=>have:=LMc26.out;omega);intro v914 w29 ho hb hg hat;rw [← Ny913.out] at ho;replace HO_4:=zA (Kd.R_after (ok:=(fun k_=>some k_ ≠ (.slice Ao11 t897.length co11:Value).ownBlock)) (by (with_reducible repeat (first | apply zF | apply zG | apply zH));exact kA HO_4.out (fun _ hk=>⟨hk.2,hk.1⟩)) hg hat);replace HO_904001:=zA (Kd.R_after (ok:=(fun k_=>some k_ ≠ (.slice Ao14 t900.length co14:Value).ownBlock)) (zP HO_904001.out) hg hat);replace BK903:=zA (blk_grown (g:=gb903) (o:=.cells #[.int .i64 t896,.slice Ao11 t897.length co11] 26 (0,0)) (zR BK903.out) hg (Kd.R_ne HO_9.out BK903.out (by decide)));replace HB:=zA (hb);have HO915:=zA (ho);clear HO_9;clear ho hb hg hat))
         go_roundg k2
         case measure=>have:=HJ6.out;have:=HK2.out;omega
         case rel=>exact ⟨(y913),(wrap64 (x10_2 + 1)),zs,H', ⟨by have:=HJ6.out;have:=HK2.out;omega⟩,⟨zPM HO_4.out (fun _ hk=>⟨hk.2,hk.1⟩)⟩,⟨zP HO915.out⟩,⟨zP HO_904001.out⟩,⟨zR BK903.out⟩,⟨zT HB.out GE903.out⟩⟩
        rw [if_neg c26] at H
        exact absurd H (by simp)
       rw [if_neg c25] at H
       exact absurd H (by simp)
      rw [if_neg c23] at H
      have c23b0:decide (x10_2 < (t900.length:Int)) = false:=decide_eq_false c23
      clear c23
      obtain ⟨⟨t916,t917⟩,A30,H⟩:=zb H
      try dsimp only at H
      obtain ⟨⟨t920,t923⟩,A31,H⟩:=zb H
      try dsimp only at H
      have HC32:=zA H
      clear H
      obtain ⟨Ao33,co33,eo33⟩:=kM HO_9.out
      subst eo33
      go_upto_region 20 with (first | (refine zO (some 71) Tryd.func16 #[.slice Ao33 x9_2.length co33] ?_;(with_reducible refine (impl_CliquesOf.calls k2 _ _ x9_2 t916 t917 _ ?side1 ?side2 ?side3 A30.out).mono ?_);(case side1=>exact zS (kB HO_9.out).2.2);(case side2=>exact (kB HO_9.out).2.1);(case side3=>exact TabW.below HT.out (zT HB.out GE903.out));rintro e w34 ⟨v918,rfl,ho0,hb⟩;refine ⟨_,rfl,?_⟩;have HO919:=zA (kI (kF (kF (kF ho0 (kH (zP HO_4.out))) (kH (zP HO_9.out))) (kH (zP HO_904001.out))) (kP (zT HB.out GE903.out)));replace HO_4:=zA (kE (zP HO_4.out) (kC ho0) hb);replace HO_9:=zA (kE (zP HO_9.out) (kC ho0) hb);replace HO_904001:=zA (kE (zP HO_904001.out) (kC ho0) hb);replace BK903:=zA (zB1 BK903.out hb);replace HB:=zA (kQ (zT HB.out GE903.out) hb);(try clear hb);(try clear ho0);obtain ⟨hcz35_0,hcz35_1,hfz35_0,hfz35_1⟩:=zB3 BK903.out) | (refine zO (some 77) Tryd.func17 #[.agg #[.int .i64 t896,.slice Ao11 t897.length co11],.slice Ao14 t900.length co14] ?_;(with_reducible refine (impl_FoataForm.calls k2 t896 (fun k_=>some k_ = (.slice Ao11 t897.length co11:Value).ownBlock) _ _ t897 (fun k_=>some k_ = (.slice Ao14 t900.length co14:Value).ownBlock) _ _ t900 t920 t923 _ ?side1 ?side2 ?side3 A31.out).mono ?_);(case side1=>exact jL (jK rfl (kD (HO_904001.out) BK903.out (by decide))));(case side2=>exact jL (jK rfl (kD (HO_4.out) BK903.out (by decide))));(case side3=>exact TabW.below HT.out (zT HB.out GE903.out));rintro e w36 ⟨v921,rfl,ho0,hb⟩;refine ⟨_,rfl,?_⟩;have HO922:=zA (kI (kF (kF (kF (kF (kA (ok' := fun k_=>True) ho0 (fun _ hk_=>trivial)) (kH (zP HO_4.out))) (kH (zP HO_9.out))) (kH (zP HO_904001.out))) (kH (zP HO919.out))) (kP (zT HB.out GE903.out)));replace HO_4:=zA (kE (zP HO_4.out) (kC ho0) hb);replace HO_9:=zA (kE (zP HO_9.out) (kC ho0) hb);replace HO_904001:=zA (kE (zP HO_904001.out) (kC ho0) hb);replace HO919:=zA (kE (zP HO919.out) (kC ho0) hb);replace BK903:=zA (zB1 BK903.out hb);replace HB:=zA (kQ (zT HB.out GE903.out) hb);(try clear hb);(try clear ho0)))
      (try simp only [Act.put,zL,zM,zN])
      go_cut [85] (fun v85 wc=>∃ (kq:Nat) (x85_31:Bool),v85 = .bool x85_31 ∧ Aside0 (laws_FnWidths.j2 kq t904 t916 t917 t920 x85_31 = some r) ∧ Aside0 (kq ≤ k2) ∧ Aside0 (Kd.R (Kd.int .i64) 2 wc w.heap.size (fun k_=>some k_ ≠ (v921:Value).ownBlock ∧ some k_ ≠ ((.slice Ao11 t897.length co11):Value).ownBlock) v918 t916) ∧ Aside0 (Kd.R (Kd.int .i64) 2 wc w.heap.size (fun k_=>some k_ ≠ (v918:Value).ownBlock ∧ some k_ ≠ ((.slice Ao11 t897.length co11):Value).ownBlock) v921 t920) ∧ Aside0 (Kd.R (Kd.int .i64) 2 wc w.heap.size (fun k_=>some k_ ≠ (v918:Value).ownBlock ∧ some k_ ≠ (v921:Value).ownBlock) (.slice Ao11 t897.length co11) t897) ∧ Aside0 (wc.heap[gb903]? = some (.cells #[.int .i64 t896,(.slice Ao11 t897.length co11)] 26 (0,0))) ∧ Aside0 (Below w.heap.size w wc))
      case first=>as_aux_lemma =>
       have H:=HC32.out
       clear HC32
       by_cases c37:t917 = 0
       ·rw [if_pos c37] at H
        obtain ⟨c37b0,c37b1⟩:=zT1 c37
        clear c37
        (first | rw [c37b0] | (simp only [i64_w,i32_w];rw [c37b0]) | skip)
        have H' := zA H
        clear H
        go_wp2
        go_meet
        case rel=>exact ⟨_,((t923 != 0)),zs,H', ⟨by have:=HJ6.out;have:=HK2.out;first | omega | exact Nat.le_refl _⟩,⟨zPM HO919.out (fun _ hk=>⟨hk.2,hk.1.2⟩)⟩,⟨zPM HO922.out (fun _ hk=>⟨hk.2,hk.1.2⟩)⟩,⟨zPM HO_904001.out (fun _ hk=>⟨hk.1.2,hk.2⟩)⟩,⟨zR BK903.out⟩,⟨zT HB.out GE903.out⟩⟩
       rw [if_neg c37] at H
       obtain ⟨c37b0,c37b1⟩:=zT2 c37
       (first | rw [c37b0] | (simp only [i64_w,i32_w];rw [c37b0]) | skip)
       have H' := zA H
       clear H
       go_wp2
       go_meet
       case rel=>exact ⟨_,(true),zs,H', ⟨by have:=HJ6.out;have:=HK2.out;first | omega | exact Nat.le_refl _⟩,⟨zPM HO919.out (fun _ hk=>⟨hk.2,hk.1.2⟩)⟩,⟨zPM HO922.out (fun _ hk=>⟨hk.2,hk.1.2⟩)⟩,⟨zPM HO_904001.out (fun _ hk=>⟨hk.1.2,hk.2⟩)⟩,⟨zR BK903.out⟩,⟨zT HB.out GE903.out⟩⟩
      case rest =>
       clear HC32
       try clear c1
       try clear c2
       try clear c3
       try clear c4
       try clear c5
       try clear c12
       try clear c13
       try clear c14
       try clear c15
       try clear c16
       try clear c17
       try clear c18
       try clear c19
       try clear c20
       try clear c23
       try clear c25
       try clear c26
       try clear c37
       try clear hcz10_0
       try clear hcz10_1
       try clear hcz13_0
       try clear hcz13_1
       try clear hcz16_0
       try clear hcz16_1
       try clear hcz27_0
       try clear hcz27_1
       try clear hcz35_0
       try clear hcz35_1
       try clear hfz10_0
       try clear hfz10_1
       try clear hfz13_0
       try clear hfz13_1
       try clear hfz16_0
       try clear hfz16_1
       try clear hfz27_0
       try clear hfz27_1
       try clear hfz35_0
       try clear hfz35_1
       obtain ⟨kq,x85_31,rfl,HA,HJ31,HO_13,HO_15,HO_904001,BK903,HB⟩:=hcut
       cases kq with
       | zero=>exact absurd HA.out (by simp [laws_FnWidths.j2])
       | succ kj31 =>
        have H:=HA.out
        clear HA
        simp only [laws_FnWidths.j2] at H
        by_cases c38:x85_31 = true
        ·subst c38
         rw [if_pos rfl] at H
         obtain rfl:=Option.some.inj H
         go_wp2
         go_ret
         exact ⟨zr,zT HB.out GE903.out⟩
        replace c38:=Bool.eq_false_iff.mpr c38
        subst c38
        rw [if_neg (show ¬ (false = true) by decide)] at H
        have H' := zA H
        clear H
        go_wp2
        go_loopg [17,18] kj31 (fun kq v17 v18 w' => ∃ (x17_4:Int) (x18_4:Int),v17 = .int .i64 x17_4 ∧ v18 = .int .i64 x18_4 ∧ Aside0 (laws_FnWidths.l1 kq t904 t916 t920 x17_4 x18_4 = some r) ∧ Aside0 (kq ≤ kj31) ∧ Aside0 (Kd.R (Kd.int .i64) 2 w' w.heap.size (fun k_=>some k_ ≠ (v921:Value).ownBlock ∧ some k_ ≠ ((.slice Ao11 t897.length co11):Value).ownBlock) v918 t916) ∧ Aside0 (Kd.R (Kd.int .i64) 2 w' w.heap.size (fun k_=>some k_ ≠ (v918:Value).ownBlock ∧ some k_ ≠ ((.slice Ao11 t897.length co11):Value).ownBlock) v921 t920) ∧ Aside0 (Kd.R (Kd.int .i64) 2 w' w.heap.size (fun k_=>some k_ ≠ (v918:Value).ownBlock ∧ some k_ ≠ (v921:Value).ownBlock) (.slice Ao11 t897.length co11) t897) ∧ Aside0 (w'.heap[gb903]? = some (.cells #[.int .i64 t896,(.slice Ao11 t897.length co11)] 26 (0,0))) ∧ Aside0 (Below w.heap.size w w'))
        case atStart=>exact ⟨(0),(0),zs,zs,H', ⟨Nat.le_refl _⟩,⟨zP HO_13.out⟩,⟨zP HO_15.out⟩,⟨zP HO_904001.out⟩,⟨zR BK903.out⟩,⟨zT HB.out GE903.out⟩⟩
        case round =>
         clear H'
         try clear c1
         try clear c2
         try clear c3
         try clear c4
         try clear c5
         try clear c12
         try clear c13
         try clear c14
         try clear c15
         try clear c16
         try clear c17
         try clear c18
         try clear c19
         try clear c20
         try clear c23
         try clear c25
         try clear c26
         try clear c37
         try clear c38
         try clear hcz10_0
         try clear hcz10_1
         try clear hcz13_0
         try clear hcz13_1
         try clear hcz16_0
         try clear hcz16_1
         try clear hcz27_0
         try clear hcz27_1
         try clear hcz35_0
         try clear hcz35_1
         try clear hfz10_0
         try clear hfz10_1
         try clear hfz13_0
         try clear hfz13_1
         try clear hfz16_0
         try clear hfz16_1
         try clear hfz27_0
         try clear hfz27_1
         try clear hfz35_0
         try clear hfz35_1
         obtain ⟨x17_4,x18_4,rfl,rfl,HA,HK4,HO_13,HO_15,HO_904001,BK903,HB⟩:=hrel
         cases gk with
         | zero=>exact absurd HA.out (by simp [laws_FnWidths.l1])
         | succ k4 =>
          have H:=HA.out
          clear HA
          simp only [laws_FnWidths.l1] at H
          by_cases c39:x18_4 < (t916.length:Int)
          ·rw [if_pos c39] at H
           have c39b0:decide (x18_4 < (t916.length:Int)) = true:=decide_eq_true c39
           clear c39
           by_cases c40:0 ≤ x18_4
           ·rw [if_pos c40] at H
            have c40b0:decide (0 ≤ x18_4) = true:=decide_eq_true c40
            clear c40
            obtain ⟨t925,A41,H⟩:=zb H
            try dsimp only at H
            by_cases c42:t925 > x17_4
            ·rw [if_pos c42] at H
             have c42b0:decide (x17_4 < t925) = true:=decide_eq_true c42
             clear c42
             obtain ⟨t927,A43,H⟩:=zb H
             try dsimp only at H
             have H' := zA H
             clear H
             obtain ⟨Ao44,co44,eo44⟩:=kM HO_13.out
             subst eo44
             have p924:0 ≤ (x18_4:Int):=zd
             have q924:x18_4 < (t916.length:Int):=zd
             obtain ⟨ad924,e924,hx924_0⟩:=Kd.at_int (kB HO_13.out).2.2 x18_4 p924 q924
             cases e924
             replace p924:=eq_true p924
             replace q924:=eq_true q924
             go_wp2_with (first | (refine zO (some 98) Tryd.func18 #[.int .i64 (rd t916 x18_4)] ?_;(with_reducible refine (laws_bits5.calls k4 (rd t916 x18_4) t925 _ A41.out).mono ?_);rintro e w' ⟨rfl,⟨nd,rfl⟩⟩;refine ⟨_,rfl,?_⟩;have p926:0 ≤ (x18_4:Int):=zd;have q926:x18_4 < (t916.length:Int):=zd;obtain ⟨ad926,e926,hx926_0⟩:=Kd.at_int (kB HO_13.out).2.2 x18_4 p926 q926;obtain rfl:ad924 = ad926:=(by injection e926);replace p926:=eq_true p926;replace q926:=eq_true q926) | (refine zO (some 105) Tryd.func18 #[.int .i64 (rd t916 x18_4)] ?_;(with_reducible refine (laws_bits5.calls k4 (rd t916 x18_4) t927 _ A43.out).mono ?_);rintro e w' ⟨rfl,⟨nd,rfl⟩⟩;refine ⟨_,rfl,?_⟩))
             go_roundg k4
             case measure=>have:=HJ6.out;have:=HK2.out;have:=HJ31.out;have:=HK4.out;omega
             case rel=>exact ⟨(t927),(wrap64 (x18_4 + 1)),zs,zs,H', ⟨by have:=HJ6.out;have:=HK2.out;have:=HJ31.out;have:=HK4.out;omega⟩,⟨zP HO_13.out⟩,⟨zP HO_15.out⟩,⟨zP HO_904001.out⟩,⟨zR BK903.out⟩,⟨zT HB.out GE903.out⟩⟩
            rw [if_neg c42] at H
            have c42b0:decide (x17_4 < t925) = false:=decide_eq_false c42
            clear c42
            have H' := zA H
            clear H
            obtain ⟨Ao45,co45,eo45⟩:=kM HO_13.out
            subst eo45
            have p924:0 ≤ (x18_4:Int):=zd
            have q924:x18_4 < (t916.length:Int):=zd
            obtain ⟨ad924,e924,hx924_0⟩:=Kd.at_int (kB HO_13.out).2.2 x18_4 p924 q924
            cases e924
            replace p924:=eq_true p924
            replace q924:=eq_true q924
            go_wp2_with (first | (refine zO (some 98) Tryd.func18 #[.int .i64 (rd t916 x18_4)] ?_;(with_reducible refine (laws_bits5.calls k4 (rd t916 x18_4) t925 _ A41.out).mono ?_);rintro e w' ⟨rfl,⟨nd,rfl⟩⟩;refine ⟨_,rfl,?_⟩))
            go_roundg k4
            case measure=>have:=HJ6.out;have:=HK2.out;have:=HJ31.out;have:=HK4.out;omega
            case rel=>exact ⟨(x17_4),(wrap64 (x18_4 + 1)),zs,zs,H', ⟨by have:=HJ6.out;have:=HK2.out;have:=HJ31.out;have:=HK4.out;omega⟩,⟨zP HO_13.out⟩,⟨zP HO_15.out⟩,⟨zP HO_904001.out⟩,⟨zR BK903.out⟩,⟨zT HB.out GE903.out⟩⟩
           rw [if_neg c40] at H
           exact absurd H (by simp)
          rw [if_neg c39] at H
          have c39b0:decide (x18_4 < (t916.length:Int)) = false:=decide_eq_false c39
          clear c39
          have H' := zA H
          clear H
          obtain ⟨Ao46,co46,eo46⟩:=kM HO_13.out
          subst eo46
          go_wp2
          go_loopg [19] k4 (fun kq v19 w' => ∃ (x19_5:Int),v19 = .int .i64 x19_5 ∧ Aside0 (laws_FnWidths.l2 kq t904 t920 x17_4 x19_5 = some r) ∧ Aside0 (kq ≤ k4) ∧ Aside0 (Kd.R (Kd.int .i64) 2 w' w.heap.size (fun k_=>some k_ ≠ ((.slice Ao11 t897.length co11):Value).ownBlock) v921 t920) ∧ Aside0 (Kd.R (Kd.int .i64) 2 w' w.heap.size (fun k_=>some k_ ≠ (v921:Value).ownBlock) (.slice Ao11 t897.length co11) t897) ∧ Aside0 (w'.heap[gb903]? = some (.cells #[.int .i64 t896,(.slice Ao11 t897.length co11)] 26 (0,0))) ∧ Aside0 (Below w.heap.size w w'))
          case atStart=>exact ⟨(0),zs,H', ⟨Nat.le_refl _⟩,⟨zPM HO_15.out (fun _ hk=>hk.2)⟩,⟨zPM HO_904001.out (fun _ hk=>hk.2)⟩,⟨zR BK903.out⟩,⟨zT HB.out GE903.out⟩⟩
          case round =>
           clear H'
           try clear c1
           try clear c2
           try clear c3
           try clear c4
           try clear c5
           try clear hx9
           try clear c12
           try clear c13
           try clear c14
           try clear c15
           try clear c16
           try clear c17
           try clear c18
           try clear c19
           try clear c20
           try clear c23
           try clear c25
           try clear c26
           try clear c37
           try clear c38
           try clear c39
           try clear c40
           try clear c42
           try clear hcz10_0
           try clear hcz10_1
           try clear hcz13_0
           try clear hcz13_1
           try clear hcz16_0
           try clear hcz16_1
           try clear hcz27_0
           try clear hcz27_1
           try clear hcz35_0
           try clear hcz35_1
           try clear hfz10_0
           try clear hfz10_1
           try clear hfz13_0
           try clear hfz13_1
           try clear hfz16_0
           try clear hfz16_1
           try clear hfz27_0
           try clear hfz27_1
           try clear hfz35_0
           try clear hfz35_1
           try clear hx924_0
           try clear hx926_0
           obtain ⟨x19_5,rfl,HA,HK5,HO_15,HO_904001,BK903,HB⟩:=hrel
           cases gk with
           | zero=>exact absurd HA.out (by simp [laws_FnWidths.l2])
           | succ k5 =>
            have H:=HA.out
            clear HA
            simp only [laws_FnWidths.l2] at H
            by_cases c47:x19_5 < (t920.length:Int)
            ·rw [if_pos c47] at H
             have c47b0:decide (x19_5 < (t920.length:Int)) = true:=decide_eq_true c47
             clear c47
             by_cases c48:0 ≤ x19_5
             ·rw [if_pos c48] at H
              have c48b0:decide (0 ≤ x19_5) = true:=decide_eq_true c48
              clear c48
              obtain ⟨t929,A49,H⟩:=zb H
              try dsimp only at H
              by_cases c50:t929 > t904
              ·rw [if_pos c50] at H
               exact absurd H (by simp)
              rw [if_neg c50] at H
              have c50b0:decide (t904 < t929) = false:=decide_eq_false c50
              clear c50
              have H' := zA H
              clear H
              obtain ⟨Ao51,co51,eo51⟩:=kM HO_15.out
              subst eo51
              have p928:0 ≤ (x19_5:Int):=zd
              have q928:x19_5 < (t920.length:Int):=zd
              obtain ⟨ad928,e928,hx928_0⟩:=Kd.at_int (kB HO_15.out).2.2 x19_5 p928 q928
              cases e928
              replace p928:=eq_true p928
              replace q928:=eq_true q928
              go_wp2_with (first | (refine zO (some 116) Tryd.func18 #[.int .i64 (rd t920 x19_5)] ?_;(with_reducible refine (laws_bits5.calls k5 (rd t920 x19_5) t929 _ A49.out).mono ?_);rintro e w' ⟨rfl,⟨nd,rfl⟩⟩;refine ⟨_,rfl,?_⟩))
              go_roundg k5
              case measure=>have:=HJ6.out;have:=HK2.out;have:=HJ31.out;have:=HK4.out;have:=HK5.out;omega
              case rel=>exact ⟨(wrap64 (x19_5 + 1)),zs,H', ⟨by have:=HJ6.out;have:=HK2.out;have:=HJ31.out;have:=HK4.out;have:=HK5.out;omega⟩,⟨zP HO_15.out⟩,⟨zP HO_904001.out⟩,⟨zR BK903.out⟩,⟨zT HB.out GE903.out⟩⟩
             rw [if_neg c48] at H
             exact absurd H (by simp)
            rw [if_neg c47] at H
            have c47b0:decide (x19_5 < (t920.length:Int)) = false:=decide_eq_false c47
            clear c47
            obtain rfl:=Option.some.inj H
            obtain ⟨Ao52,co52,eo52⟩:=kM HO_15.out
            subst eo52
            go_wp2
            go_ret
            exact ⟨zr,zT HB.out GE903.out⟩
   rw [if_neg c20] at H
   obtain ⟨c20b0,c20b1⟩:=zT2 c20
   obtain rfl:=Option.some.inj H
   go_wp2
   go_ret
   exact ⟨zr,zT HB.out GE903.out⟩
end Go.Proofs.YtjdekliancabgaaDoor.PAll
