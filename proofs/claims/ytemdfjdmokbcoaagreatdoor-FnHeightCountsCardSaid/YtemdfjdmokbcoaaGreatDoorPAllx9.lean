import Derived.Test.YtemdfjdmokbcoaaGreatDoorPAllx0
import Derived.Test.YtemdfjdmokbcoaaGreatDoorPAllx7
import Derived.Test.YtemdfjdmokbcoaaGreatDoorPAllx8
namespace Go.Proofs.YtemdfjdmokbcoaaGreatDoor.PAll
open Go.RowKit Go.Proofs.YtemdfjdmokbcoaaGreatDoor.T Go.Proofs.YtemdfjdmokbcoaaGreatDoorW.PrintWords Go.Proofs.YtemdfjdmokbcoaaGreatDoorW.PrintLast Go.Proofs.YtemdfjdmokbcoaaGreatDoorW.PrintMore
attribute [local go_sem] max2_int min2_int max_two min_two max_three min_three max_four min_four   -- for this text's walks alone
set_option linter.unusedVariables false
set_option linter.unusedSimpArgs false
mutual
def spec_l06First.l0:Nat → Int → List Int → List (List Int) → Int → Int → List Int → Option ((List (List Int)))
 | 0,_,_,_,_,_,_=>none
 | k + 1,x1,x5,x6,x7,x539000,x539001=>if x7 ≤ x1 then (if 0 ≤ (x5.length:Int) then (if ((x5.length:Int):Int).toNat ≤ 35184372088832 then ((some (List.replicate ((x5.length:Int):Int).toNat 0:List Int)).bind fun y545=>(if x7 = 0 then (if 0 < (y545.length:Int) then (if x6.length < 5864062014805 then (spec_l06First.l0 k x1 x5 (x6 ++ [(y545.set (0:Int).toNat 1)]) (wrap64 (x7 + 1)) x539000 x539001) else (none)) else (none)) else (if x6.length < 5864062014805 then (spec_l06First.l0 k x1 x5 (x6 ++ [y545]) (wrap64 (x7 + 1)) x539000 x539001) else (none)))) else (none)) else (none)) else (if 0 ≤ x1 then (if x1 < (x6.length:Int) then ((spec_l01Own.f (rd_L2 x6 x1)).bind fun t556=>(spec_l06First.l1 k x1 x5 x6 (([t556]:List (List Int))) 1 x539000 x539001)) else (none)) else (none))
def spec_l06First.l1:Nat → Int → List Int → List (List Int) → List (List Int) → Int → Int → List Int → Option ((List (List Int)))
 | 0,_,_,_,_,_,_,_=>none
 | k + 1,x1,x5,x6,x9,x10,x539000,x539001=>if x10 ≤ x1 then (spec_l06First.l2 k x1 x5 x6 x9 x10 (([]:List (List Int))) 0 x539000 x539001) else (some x9)
def spec_l06First.l2:Nat → Int → List Int → List (List Int) → List (List Int) → Int → List (List Int) → Int → Int → List Int → Option ((List (List Int)))
 | 0,_,_,_,_,_,_,_,_,_=>none
 | k + 1,x1,x5,x6,x9,x10,x11,x12,x539000,x539001=>if x12 ≤ x1 then (if 0 ≤ (x5.length:Int) then (if ((x5.length:Int):Int).toNat ≤ 35184372088832 then (spec_l06First.l3 k x1 x5 x6 x9 x10 x11 x12 (List.replicate ((x5.length:Int):Int).toNat 0) 1 x539000 x539001) else (none)) else (none)) else (if 0 ≤ x1 then (if x1 < (x11.length:Int) then ((spec_l01Own.f (rd_L2 x11 x1)).bind fun t566=>(if x9.length < 5864062014805 then (spec_l06First.l1 k x1 x5 x11 (x9 ++ [t566]) (wrap64 (x10 + 1)) x539000 x539001) else (none))) else (none)) else (none))
def spec_l06First.l3:Nat → Int → List Int → List (List Int) → List (List Int) → Int → List (List Int) → Int → List Int → Int → Int → List Int → Option ((List (List Int)))
 | 0,_,_,_,_,_,_,_,_,_,_,_=>none
 | k + 1,x1,x5,x6,x9,x10,x11,x12,x13,x14,x539000,x539001=>if x14 < (x5.length:Int) then (if 0 ≤ x14 then ((spec_l01Bits.f k (rd x5 x14)).bind fun t579=>(if (wrap64 (x12 - t579)) < 0 then (spec_l06First.l3 k x1 x5 x6 x9 x10 x11 x12 x13 (wrap64 (x14 + 1)) x539000 x539001) else ((spec_l06Reach.f k x539000 x539001 (rd x5 x14)).bind fun t581=>(spec_l06First.l4 k x1 x5 x6 x9 x10 x11 x12 x13 x14 (wrap64 (x12 - t579)) t581 0 x539000 x539001)))) else (none)) else (if x11.length < 5864062014805 then (spec_l06First.l2 k x1 x5 x6 x9 x10 (x11 ++ [x13]) (wrap64 (x12 + 1)) x539000 x539001) else (none))
def spec_l06First.l4:Nat → Int → List Int → List (List Int) → List (List Int) → Int → List (List Int) → Int → List Int → Int → Int → Int → Int → Int → List Int → Option ((List (List Int)))
 | 0,_,_,_,_,_,_,_,_,_,_,_,_,_,_=>none
 | k + 1,x1,x5,x6,x9,x10,x11,x12,x13,x14,x15,x16,x17,x539000,x539001=>if x17 < (x5.length:Int) then (if 0 ≤ x17 then (if (Go.bits .or .i64 (rd x5 x17) x16) = x16 then (if x17 > 0 then (if 0 ≤ x14 then (if x14 < (x13.length:Int) then (if 0 ≤ x15 then (if x15 < (x6.length:Int) then (if x17 < ((rd_L2 x6 x15).length:Int) then (spec_l06First.l4 k x1 x5 x6 x9 x10 x11 x12 (x13.set (x14:Int).toNat (wrap64 ((rd x13 x14) + (rd (rd_L2 x6 x15) x17)))) x14 x15 x16 (wrap64 (x17 + 1)) x539000 x539001) else (none)) else (none)) else (none)) else (none)) else (none)) else (if x10 = 1 then (if 0 ≤ x14 then (if x14 < (x13.length:Int) then (if 0 ≤ x15 then (if x15 < (x6.length:Int) then (if x17 < ((rd_L2 x6 x15).length:Int) then (spec_l06First.l4 k x1 x5 x6 x9 x10 x11 x12 (x13.set (x14:Int).toNat (wrap64 ((rd x13 x14) + (rd (rd_L2 x6 x15) x17)))) x14 x15 x16 (wrap64 (x17 + 1)) x539000 x539001) else (none)) else (none)) else (none)) else (none)) else (none)) else (spec_l06First.l4 k x1 x5 x6 x9 x10 x11 x12 x13 x14 x15 x16 (wrap64 (x17 + 1)) x539000 x539001))) else (spec_l06First.l4 k x1 x5 x6 x9 x10 x11 x12 x13 x14 x15 x16 (wrap64 (x17 + 1)) x539000 x539001)) else (none)) else (spec_l06First.l3 k x1 x5 x6 x9 x10 x11 x12 x13 (wrap64 (x14 + 1)) x539000 x539001)
end
def spec_l06First.f (k:Nat) (a0_0:Int) (l0_1:List Int) (a1:Int):Option ((List (List Int))):=(spec_l02Steps.f k a0_0 l0_1).bind fun t539=>(spec_l06First.l0 k a1 t539 (([]:List (List Int))) 0 a0_0 l0_1)
def spec_l06First.T29:Bool × List (List Nat × List Nat):=(true,[([],[]),([],[]),([],[]),([],[]),([2,3],[2,3]),([4],[4]),([],[]),([],[]),([6,7],[6,7]),([8],[8]),([],[]),([9,10],[9,10]),([11],[11]),([5,12],[5,12]),([0,1,0,1,2,3,4,5,6,7,8,9,10,11,12,13],[0,1]),([14,13,0,1,2,3,4,5,6,7,8,9,10,11,12,13],[13,14])])
def spec_l06First.B29:List Nat:=[0,0,0,0,12,28,0,0,192,448,0,1984,4032,8188,16383,32767]
theorem spec_l06First.tab29:rtab .any (opsOf Tryz.f22 29) = spec_l06First.T29:=by kernel_rfl
theorem spec_l06First.bits29:waitsOk spec_l06First.T29.2 spec_l06First.B29 = true:=by kernel_rfl
set_option maxHeartbeats 8000000 in
set_option maxRecDepth 100000 in
theorem spec_l06First.calls (k : Nat) (a0_0 : Int) (A0_1 : Option Addr) (c0_1 : Nat) (l0_1 : List Int) (a1 : Int) (r : List (List Int)) (w : World) (hr0_1 : Kd.C (Kd.int .i64) w A0_1 l0_1.length l0_1) (hc0_1 : l0_1.length ≤ c0_1) (h : spec_l06First.f k a0_0 l0_1 a1 = some r) :
  Calls Tryz.prog 22 #[.agg #[.int .i64 a0_0,.slice A0_1 l0_1.length c0_1],.int .i64 a1] w fun e w' => ∃ v0_:Value,e = .returned (v0_) ∧ Kd.N (Kd.slice 2 (Kd.int .i64)) 24 w' w.heap.size (fun k_=>(w.heap.size ≤ k_)) v0_ r ∧ Below w.heap.size w w' := by
 have hu26:=Tryz.underlying26
 have HR0_1:=zA hr0_1
 have HC0_1:=zA hc0_1
 clear hr0_1 hc0_1
 have HB:=zA (kW w.heap.size w)
 have H:=h
 unfold spec_l06First.f at H
 clear h
 obtain ⟨t539,A3,H⟩:=zb H
 try dsimp only at H
 obtain ⟨y542,hy542⟩:∃ y_:List (List Int),y_ = (([]:List (List Int))):=⟨_,rfl⟩
 replace H:(spec_l06First.l0 k a1 t539 y542 0 a0_0 l0_1) = some r:=zy hy542 H
 have Ny542:=zA hy542
 clear hy542
 have H' := zA H
 clear H
 go_enter Tryz.func22,Tryz.ntmps22
 go_wp2_with (first | (refine zBE 2 #[.int .i64 a0_0,.slice A0_1 l0_1.length c0_1] 26 ?_;intro gb538 hg w4 hbox hb;have BK538:=zA (hbox);have GW538:=zA (zBH hg HB.out);have GE538:=zA (zBH hg HB.out);replace HB:=zA (kQ (zQ HB.out) hb);clear hb hbox hg;obtain ⟨hcz5_0,hcz5_1,hfz5_0,hfz5_1⟩:=zB3 BK538.out) | (refine zO (some 19) Tryz.func48 #[.agg #[.int .i64 a0_0,.slice A0_1 l0_1.length c0_1]] ?_;(with_reducible refine (spec_l02Steps.calls k a0_0 _ _ l0_1 t539 _ ?side1 ?side2 A3.out).mono ?_);(case side1=>exact zS (kO HR0_1.out HB.out));(case side2=>exact HC0_1.out);rintro e w6 ⟨v540,rfl,ho0,hb⟩;refine ⟨_,rfl,?_⟩;have HO541:=zA (kI (Kd.R_newM (M:=fun k_=>(w.heap.size ≤ k_)) ho0 (kP (zT HB.out GE538.out)) (fun k_ h_=>h_)) (kP (zT HB.out GE538.out)));replace BK538:=zA (zB1 BK538.out hb);replace HB:=zA (kQ (zT HB.out GE538.out) hb);(try clear hb);(try clear ho0)) | ((with_reducible refine kS (N:=20) rfl ?_);refine Kd.N_lit (Kd.slice 2 (Kd.int .i64)) _ 24 ?hg (N' := 20) ?hd (xs:=([]:List (List Int))) (inner:=[]) (ok:=(fun k_=>(w.heap.size ≤ k_) ∧ some k_ ≠ (v540:Value).ownBlock ∧ k_ ≠ gb538)) (okp:=(fun k_=>(w.heap.size ≤ k_) ∧ some k_ ≠ (v540:Value).ownBlock ∧ k_ ≠ gb538)) ?hr ?hp (fun _ hk=>hk) ((show ∀ k_:Nat,(_:Nat) ≤ k_ → (fun k_=>(w.heap.size ≤ k_) ∧ some k_ ≠ (v540:Value).ownBlock ∧ k_ ≠ gb538) k_ from fun k_ hk=>⟨(Nat.le_trans (kP (zT HB.out GE538.out)) hk),jF (kH (zP HO541.out)) k_ hk,jE (g:=gb538) (o:=.cells #[.int .i64 a0_0,.slice A0_1 l0_1.length c0_1] 26 (0,0)) (zR BK538.out) k_ hk⟩) _ (Nat.le_refl _)) (kW _ _) (Nat.le_refl _) (by simp) ?_;(case hd=>rfl);(case hg=>rfl);(case hr=>first | (go_simp;done) | (go_simp;rfl));(case hp=>exact (Reps.none _ _));intro v543 w7 ho8 hb hg_ hnew_;clear hg_ hnew_;(first | rw [← Ny542.out] at ho8 | (simp only [Int.reduceToNat] at ho8;rw [← Ny542.out] at ho8));replace HO541:=zA (kL (zP HO541.out) hb);have HO544:=zA (jN ho8 (kP (zT HB.out GE538.out)));replace BK538:=zA (zB1 BK538.out hb);replace HB:=zA (kQ (zT HB.out GE538.out) hb);clear hb ho8))
 go_loopg [6,7] k (fun kq v6 v7 w' => ∃ (x5_1:List Int) (x6_1:List (List Int)) (x7_1:Int),v7 = .int .i64 x7_1 ∧ Aside0 (spec_l06First.l0 kq a1 x5_1 x6_1 x7_1 a0_0 l0_1 = some r) ∧ Aside0 (kq ≤ k) ∧ Aside0 (Kd.R (Kd.int .i64) 2 w' w.heap.size (fun k_=>(w.heap.size ≤ k_)) v540 x5_1) ∧ Aside0 (Kd.N (Kd.slice 2 (Kd.int .i64)) 24 w' w.heap.size (fun k_=>(w.heap.size ≤ k_) ∧ some k_ ≠ (v540:Value).ownBlock ∧ k_ ≠ gb538) v6 x6_1) ∧ Aside0 (w'.heap[gb538]? = some (.cells #[.int .i64 a0_0,(.slice A0_1 l0_1.length c0_1)] 26 (0,0))) ∧ Aside0 (Below w.heap.size w w'))
 case atStart=>exact ⟨(t539),(y542),(0),zs,H', ⟨Nat.le_refl _⟩,⟨zPM HO541.out (fun _ hk=>hk.1)⟩,⟨zPN HO544.out⟩,⟨zR BK538.out⟩,⟨zT HB.out GE538.out⟩⟩
 case round =>
  clear H'
  try clear c2
  try clear c4
  try clear hcz5_0
  try clear hcz5_1
  try clear hfz5_0
  try clear hfz5_1
  obtain ⟨x5_1,x6_1,x7_1,rfl,HA,HK1,HO_5,HO_6,BK538,HB⟩:=hrel
  cases gk with
  | zero=>exact absurd HA.out (by simp [spec_l06First.l0])
  | succ k1 =>
   have H:=HA.out
   clear HA
   simp only [spec_l06First.l0] at H
   by_cases c9:x7_1 ≤ a1
   ·rw [if_pos c9] at H
    have c9b0:decide (x7_1 ≤ a1) = true:=decide_eq_true c9
    clear c9
    by_cases c10:0 ≤ (x5_1.length:Int)
    ·rw [if_pos c10] at H
     have c10b0:=eq_true c10
     have c10b1:decide (0 ≤ (x5_1.length:Int)) = true:=decide_eq_true c10
     clear c10
     by_cases c11:((x5_1.length:Int):Int).toNat ≤ 35184372088832
     ·rw [if_pos c11] at H
      have c11b0:=eq_true c11
      have c11b1:decide (((x5_1.length:Int):Int).toNat ≤ 35184372088832) = true:=decide_eq_true c11
      clear c11
      obtain ⟨y545,hy545⟩:∃ y_:List Int,y_ = (List.replicate ((x5_1.length:Int):Int).toNat 0):=⟨_,rfl⟩
      replace H:(if x7_1 = 0 then (if 0 < (y545.length:Int) then (if x6_1.length < 5864062014805 then (spec_l06First.l0 k1 a1 x5_1 (x6_1 ++ [(y545.set (0:Int).toNat 1)]) (wrap64 (x7_1 + 1)) a0_0 l0_1) else (none)) else (none)) else (if x6_1.length < 5864062014805 then (spec_l06First.l0 k1 a1 x5_1 (x6_1 ++ [y545]) (wrap64 (x7_1 + 1)) a0_0 l0_1) else (none))) = some r:=zy hy545 H
      have Ny545:=zA hy545
      clear hy545
      by_cases c12:x7_1 = 0
      ·rw [if_pos c12] at H
       obtain ⟨c12b0,c12b1⟩:=zT1 c12
       clear c12
       by_cases c13:0 < (y545.length:Int)
       ·rw [if_pos c13] at H
        have c13b0:decide (0 < (y545.length:Int)) = true:=decide_eq_true c13
        have c13b1:decide (0 < y545.length) = true:=decide_eq_true (by omega)
        clear c13
        obtain ⟨y548,hy548⟩:∃ y_:List Int,y_ = (y545.set (0:Int).toNat 1):=⟨_,rfl⟩
        replace H:(if x6_1.length < 5864062014805 then (spec_l06First.l0 k1 a1 x5_1 (x6_1 ++ [y548]) (wrap64 (x7_1 + 1)) a0_0 l0_1) else (none)) = some r:=zy hy548 H
        have Ny548:=zA hy548
        clear hy548
        by_cases c15:x6_1.length < 5864062014805
        ·rw [if_pos c15] at H
         have LMc15:=zA c15
         clear c15
         obtain ⟨y549,hy549⟩:∃ y_:List (List Int),y_ = (x6_1 ++ [y548]):=⟨_,rfl⟩
         replace H:(spec_l06First.l0 k1 a1 x5_1 y549 (wrap64 (x7_1 + 1)) a0_0 l0_1) = some r:=zy hy549 H
         have Ny549:=zA hy549
         clear hy549
         have H' := zA H
         clear H
         obtain ⟨Ao16,co16,eo16⟩:=kM HO_5.out
         subst eo16
         go_wp2_with (first | ((with_reducible refine kS (N:=28) rfl ?_);refine Kd.R_make (Kd.int .i64) _ 2 rfl (N:=28) rfl 24 _ _ rfl (x5_1.length:Int) rfl rfl Tryz.underlying24 (.int .i64 0) 8 info2 rfl (by decide) (by omega) 0 (ok:=fun _=>True) (okp:=fun _=>True) rfl (fun _ hk=>hk) trivial (zd) (Nat.le_trans (Nat.mul_le_mul_right _ (zd:(x5_1.length:Int).toNat ≤ 35184372088832)) (by omega)) (kW _ _) (Nat.le_refl _) ?_;intro v546 w17 ho18 hb hg_ hnew_;clear hg_ hnew_;(first | rw [← Ny545.out] at ho18 | (simp only [Int.reduceToNat] at ho18;rw [← Ny545.out] at ho18));replace HO_6:=zA (Kd.N_elder' (zPN HO_6.out) (kC ho18) hb);have HO547:=zA (kI (kF (Kd.R_newM (M:=fun k_=>(w.heap.size ≤ k_)) ho18 (kP (zT HB.out GE538.out)) (fun k_ h_=>h_)) (kH (zP HO_5.out))) (kP (zT HB.out GE538.out)));replace HO_5:=zA (kE (zP HO_5.out) (kC ho18) hb);replace BK538:=zA (zB1 BK538.out hb);replace HB:=zA (kQ (zT HB.out GE538.out) hb);clear hb ho18;have p14:0 ≤ (0:Int):=(by omega);have q14:(0:Int) < ((y545.length:Int):Int):=zd;have qi14:(0 < y545.length) = True:=eq_true (by omega);obtain ⟨go14,co14,eo14,gb14,gl14,cl14,HG14⟩:=Kd.R_form HO547.out (by omega);(first | cases eo14 | (injection eo14 with ea_ en_ ec_;(first | subst ea_ | (injection ea_ with ea_;subst ea_));subst ec_;clear en_));have GB14:=zA gb14;have GG14:=zA HG14;clear gb14 gl14 HG14;obtain ⟨hx14_0,hf14_0⟩:=Kd.R_celln 0 HO547.out (0:Int) p14 q14;(try rw [show ((0:Int)).toNat = 0 from rfl] at hx14_0);(try simp only [Nat.reduceMul,Nat.zero_mul,Nat.zero_add,Nat.reduceAdd] at hx14_0);(try rw [show ((0:Int)).toNat = 0 from rfl] at hf14_0);(try simp only [Nat.reduceMul,Nat.zero_mul,Nat.zero_add,Nat.reduceAdd] at hf14_0);replace p14:=eq_true p14;replace q14:=eq_true q14;have n_:=zA (kA (ok' := (fun k_=>(w.heap.size ≤ k_) ∧ some k_ ≠ (.slice Ao16 x5_1.length co16:Value).ownBlock)) HO547.out (fun k_ hk=>⟨hk.1.1,hk.2⟩));clear HO547;have HO547:=n_;clear n_;obtain ⟨hy19_,hz19_⟩:=Kd.R_celln 0 HO547.out (0:Int) (by omega) (zd);(try simp only [Int.reduceToNat,Int.toNat_zero,Int.toNat_ofNat,Nat.reduceMul,Nat.zero_mul,Nat.zero_add] at hy19_ hz19_);(try rw [show ((0:Int)).toNat = 0 from rfl] at hy19_);(try rw [show ((0:Int)).toNat = 0 from rfl] at hz19_);have HP19:=Kd.R_putg HO547.out (0:Int) 1) | ((with_reducible refine gate_store (t:=2) (p:=32) rfl ?_);refine store_event (t:=2) (p:=32) (v:=?vo_w20) (w1:=(w17.setCell ⟨go14,(0:Int).toNat,none⟩ (.int .i64 1))) ?hg ?ho ?hn ?hr ?_;(case ho=>rfl);(case hg=>rfl);(case hn=>rfl);(case hr=>first | (go_simp;done) | (go_simp;rfl));intro w20 hw;have hg:w17.grownBy w20 (some go14):=(by rw [hw];exact HP19.2);have hp_:Kd.R (Kd.int .i64) 2 w20 w.heap.size (fun k_=>(w.heap.size ≤ k_) ∧ some k_ ≠ (.slice Ao16 x5_1.length co16:Value).ownBlock) (.slice (some ⟨go14,0,none⟩) y545.length co14) y548:=(by rw [hw,Ny548.out];exact HP19.1);clear HP19;replace HO_5:=zA (Kd.R_after (v:=(.slice (some ⟨go14,0,none⟩) y545.length co14)) (v1:=(.slice (some ⟨go14,0,none⟩) y545.length co14)) (ok:=(fun k_=>(w.heap.size ≤ k_))) (zP HO_5.out) hg (.inl rfl));replace HO_6:=zA (Kd.N_afterv (v:=(.slice (some ⟨go14,0,none⟩) y545.length co14)) (v1:=(.slice (some ⟨go14,0,none⟩) y545.length co14)) (ok:=(fun k_=>(w.heap.size ≤ k_) ∧ some k_ ≠ (.slice Ao16 x5_1.length co16:Value).ownBlock ∧ k_ ≠ gb538)) (zPN HO_6.out) hg (.inl rfl));replace BK538:=zA (blk_grown (g:=gb538) (o:=.cells #[.int .i64 a0_0,.slice A0_1 l0_1.length c0_1] 26 (0,0)) (zR BK538.out) hg (Kd.R_ne HO547.out BK538.out (by decide)));replace HO547:=zA (hp_);replace HB:=zA ((by rw [hw];exact zE (HB.out) GB14.out:Below w.heap.size w w20));clear hg hw hp_) | ((with_reducible refine gate_builtin (b:=.append) (xs:=#[.tmp 33,.tmp 35]) rfl ?_);at_builtin;refine Kd.N_append (Kd.slice 2 (Kd.int .i64)) (w0:=w) w.heap.size rfl (.tmp 33) (.tmp 35) 37 24 (.slice none 0 0) 24 rfl Tryz.underlying37 info24 rfl (by decide) (by omega) u6 x6_1 y548 [.slice (some ⟨go14,0,none⟩) y545.length co14] (fun k_=>(w.heap.size ≤ k_) ∧ some k_ ≠ (.slice Ao16 x5_1.length co16:Value).ownBlock ∧ k_ ≠ gb538) (fun k_=>((fun k_=>(w.heap.size ≤ k_) ∧ some k_ ≠ (.slice Ao16 x5_1.length co16:Value).ownBlock ∧ k_ ≠ gb538)) k_ ∧ some k_ ≠ (u6:Value).ownBlock) rfl rfl ?aP (fun _ hk=>hk) ?aF ?aO ?aB ?aS ?aL ?_;(case aP=>have e_:y545.length = y548.length:=(by rw [Ny548.out,List.length_set]);have HQ_:=HO547.out;rw [e_] at HQ_ ⊢;exact (Kd.FK_slice_mk (kB (kA (ok' := (fun k_=>((fun k_=>(w.heap.size ≤ k_) ∧ some k_ ≠ (.slice Ao16 x5_1.length co16:Value).ownBlock ∧ k_ ≠ gb538)) k_ ∧ some k_ ≠ (u6:Value).ownBlock)) (kD (Kd.R_apart' (HQ_) (Kd.N_typed HO_6.out) (by decide)) BK538.out (by decide)) (fun k_ hk=>⟨⟨hk.1.1.1,⟨hk.1.1.2,hk.2⟩⟩,hk.1.2⟩))).2.1 (Kd.R_F (kA (ok' := (fun k_=>((fun k_=>(w.heap.size ≤ k_) ∧ some k_ ≠ (.slice Ao16 x5_1.length co16:Value).ownBlock ∧ k_ ≠ gb538)) k_ ∧ some k_ ≠ (u6:Value).ownBlock)) (kD (Kd.R_apart' (HQ_) (Kd.N_typed HO_6.out) (by decide)) BK538.out (by decide)) (fun k_ hk=>⟨⟨hk.1.1.1,⟨hk.1.1.2,hk.2⟩⟩,hk.1.2⟩)))));(case aB=>exact (zT HB.out GE538.out));(case aF=>exact (fun k_ hk=>⟨(Nat.le_trans (kP (zT HB.out GE538.out)) hk),jF (kH (zP HO_5.out)) k_ hk,jE (g:=gb538) (o:=.cells #[.int .i64 a0_0,.slice A0_1 l0_1.length c0_1] 26 (0,0)) (zR BK538.out) k_ hk⟩));(case aO=>exact (by (with_reducible repeat (first | apply Kd.N_alloc | apply Kd.N_drewN | apply Kd.N_drew));exact Kd.N_mono HO_6.out (fun _ hk=>⟨hk.1.1,⟨hk.1.2.1,hk.1.2.2⟩⟩)));(case aS=>exact (kP (zT HB.out GE538.out)));(case aL=>have:=LMc15.out;omega);intro v550 w21 ho hb hg hat;rw [← Ny549.out] at ho;replace HO_5:=zA (Kd.R_over' (zP HO_5.out) (Kd.N_typed (zPN HO_6.out)) (by decide) hg);replace BK538:=zA (blk_grown (g:=gb538) (o:=.cells #[.int .i64 a0_0,.slice A0_1 l0_1.length c0_1] 26 (0,0)) (zR BK538.out) hg (Kd.N_ne HO_6.out BK538.out (by decide)));replace HB:=zA (hb);have HO551:=zA (ho);clear HO_6 HO547;clear ho hb hg hat))
         go_roundg k1
         case measure=>have:=HK1.out;omega
         case rel=>exact ⟨(x5_1),(y549),(wrap64 (x7_1 + 1)),zs,H', ⟨by have:=HK1.out;omega⟩,⟨zPM HO_5.out (fun _ hk=>hk.1)⟩,⟨zPN HO551.out⟩,⟨zR BK538.out⟩,⟨zT HB.out GE538.out⟩⟩
        rw [if_neg c15] at H
        exact absurd H (by simp)
       rw [if_neg c13] at H
       exact absurd H (by simp)
      rw [if_neg c12] at H
      obtain ⟨c12b0,c12b1⟩:=zT2 c12
      by_cases c22:x6_1.length < 5864062014805
      ·rw [if_pos c22] at H
       have LMc22:=zA c22
       clear c22
       obtain ⟨y552,hy552⟩:∃ y_:List (List Int),y_ = (x6_1 ++ [y545]):=⟨_,rfl⟩
       replace H:(spec_l06First.l0 k1 a1 x5_1 y552 (wrap64 (x7_1 + 1)) a0_0 l0_1) = some r:=zy hy552 H
       have Ny552:=zA hy552
       clear hy552
       have H' := zA H
       clear H
       obtain ⟨Ao23,co23,eo23⟩:=kM HO_5.out
       subst eo23
       go_wp2_with (first | ((with_reducible refine kS (N:=28) rfl ?_);refine Kd.R_make (Kd.int .i64) _ 2 rfl (N:=28) rfl 24 _ _ rfl (x5_1.length:Int) rfl rfl Tryz.underlying24 (.int .i64 0) 8 info2 rfl (by decide) (by omega) 0 (ok:=fun _=>True) (okp:=fun _=>True) rfl (fun _ hk=>hk) trivial (zd) (Nat.le_trans (Nat.mul_le_mul_right _ (zd:(x5_1.length:Int).toNat ≤ 35184372088832)) (by omega)) (kW _ _) (Nat.le_refl _) ?_;intro v546 w24 ho25 hb hg_ hnew_;clear hg_ hnew_;(first | rw [← Ny545.out] at ho25 | (simp only [Int.reduceToNat] at ho25;rw [← Ny545.out] at ho25));replace HO_6:=zA (Kd.N_elder' (zPN HO_6.out) (kC ho25) hb);have HO547:=zA (kI (kF (Kd.R_newM (M:=fun k_=>(w.heap.size ≤ k_)) ho25 (kP (zT HB.out GE538.out)) (fun k_ h_=>h_)) (kH (zP HO_5.out))) (kP (zT HB.out GE538.out)));replace HO_5:=zA (kE (zP HO_5.out) (kC ho25) hb);replace BK538:=zA (zB1 BK538.out hb);replace HB:=zA (kQ (zT HB.out GE538.out) hb);clear hb ho25;obtain ⟨Ao27,co27,eo27⟩:=kM HO547.out;subst eo27) | ((with_reducible refine gate_builtin (b:=.append) (xs:=#[.tmp 33,.tmp 35]) rfl ?_);at_builtin;refine Kd.N_append (Kd.slice 2 (Kd.int .i64)) (w0:=w) w.heap.size rfl (.tmp 33) (.tmp 35) 37 24 (.slice none 0 0) 24 rfl Tryz.underlying37 info24 rfl (by decide) (by omega) u6 x6_1 y545 [.slice Ao27 y545.length co27] (fun k_=>(w.heap.size ≤ k_) ∧ some k_ ≠ (.slice Ao23 x5_1.length co23:Value).ownBlock ∧ k_ ≠ gb538) (fun k_=>((fun k_=>(w.heap.size ≤ k_) ∧ some k_ ≠ (.slice Ao23 x5_1.length co23:Value).ownBlock ∧ k_ ≠ gb538)) k_ ∧ some k_ ≠ (u6:Value).ownBlock) rfl rfl ?aP (fun _ hk=>hk) ?aF ?aO ?aB ?aS ?aL ?_;(case aP=>exact (Kd.FK_slice_mk (kB (kA (ok' := (fun k_=>((fun k_=>(w.heap.size ≤ k_) ∧ some k_ ≠ (.slice Ao23 x5_1.length co23:Value).ownBlock ∧ k_ ≠ gb538)) k_ ∧ some k_ ≠ (u6:Value).ownBlock)) (kD (Kd.R_apart' (HO547.out) (Kd.N_typed HO_6.out) (by decide)) BK538.out (by decide)) (fun k_ hk=>⟨⟨hk.1.1.1.1,⟨hk.1.1.2,hk.2⟩⟩,hk.1.2⟩))).2.1 (Kd.R_F (kA (ok' := (fun k_=>((fun k_=>(w.heap.size ≤ k_) ∧ some k_ ≠ (.slice Ao23 x5_1.length co23:Value).ownBlock ∧ k_ ≠ gb538)) k_ ∧ some k_ ≠ (u6:Value).ownBlock)) (kD (Kd.R_apart' (HO547.out) (Kd.N_typed HO_6.out) (by decide)) BK538.out (by decide)) (fun k_ hk=>⟨⟨hk.1.1.1.1,⟨hk.1.1.2,hk.2⟩⟩,hk.1.2⟩)))));(case aB=>exact (zT HB.out GE538.out));(case aF=>exact (fun k_ hk=>⟨(Nat.le_trans (kP (zT HB.out GE538.out)) hk),jF (kH (zP HO_5.out)) k_ hk,jE (g:=gb538) (o:=.cells #[.int .i64 a0_0,.slice A0_1 l0_1.length c0_1] 26 (0,0)) (zR BK538.out) k_ hk⟩));(case aO=>exact (by (with_reducible repeat (first | apply Kd.N_alloc | apply Kd.N_drewN | apply Kd.N_drew));exact Kd.N_mono HO_6.out (fun _ hk=>⟨hk.1.1,⟨hk.1.2.1,hk.1.2.2⟩⟩)));(case aS=>exact (kP (zT HB.out GE538.out)));(case aL=>have:=LMc22.out;omega);intro v553 w26 ho hb hg hat;rw [← Ny552.out] at ho;replace HO_5:=zA (Kd.R_over' (zP HO_5.out) (Kd.N_typed (zPN HO_6.out)) (by decide) hg);replace BK538:=zA (blk_grown (g:=gb538) (o:=.cells #[.int .i64 a0_0,.slice A0_1 l0_1.length c0_1] 26 (0,0)) (zR BK538.out) hg (Kd.N_ne HO_6.out BK538.out (by decide)));replace HB:=zA (hb);have HO554:=zA (ho);clear HO_6 HO547;clear ho hb hg hat))
       go_roundg k1
       case measure=>have:=HK1.out;omega
       case rel=>exact ⟨(x5_1),(y552),(wrap64 (x7_1 + 1)),zs,H', ⟨by have:=HK1.out;omega⟩,⟨zPM HO_5.out (fun _ hk=>hk.1)⟩,⟨zPN HO554.out⟩,⟨zR BK538.out⟩,⟨zT HB.out GE538.out⟩⟩
      rw [if_neg c22] at H
      exact absurd H (by simp)
     rw [if_neg c11] at H
     exact absurd H (by simp)
    rw [if_neg c10] at H
    exact absurd H (by simp)
   rw [if_neg c9] at H
   have c9b0:decide (x7_1 ≤ a1) = false:=decide_eq_false c9
   clear c9
   by_cases c28:0 ≤ a1
   ·rw [if_pos c28] at H
    have c28b0:decide (0 ≤ a1) = true:=decide_eq_true c28
    clear c28
    by_cases c29:a1 < (x6_1.length:Int)
    ·rw [if_pos c29] at H
     have c29b0:decide (a1 < (x6_1.length:Int)) = true:=decide_eq_true c29
     clear c29
     obtain ⟨t556,A30,H⟩:=zb H
     try dsimp only at H
     obtain ⟨y559,hy559⟩:∃ y_:List (List Int),y_ = (([t556]:List (List Int))):=⟨_,rfl⟩
     replace H:(spec_l06First.l1 k1 a1 x5_1 x6_1 y559 1 a0_0 l0_1) = some r:=zy hy559 H
     have Ny559:=zA hy559
     clear hy559
     have H' := zA H
     clear H
     obtain ⟨Ao31,co31,eo31⟩:=Kd.N_slice HO_6.out
     subst eo31
     have p555:0 ≤ (a1:Int):=zd
     have q555:a1 < (x6_1.length:Int):=zd
     obtain ⟨ad555,A555_0,c555_0,e555,hx555_0,hl555_0,hi555_0⟩:=at_L2 (Kd.N_reads' HO_6.out).2.2 a1 p555 q555
     cases e555
     obtain ⟨ce555,hce555,hMe555,hcc555⟩:=Kd.N_get HO_6.out [] a1 p555 (by first | exact q555 | exact zd | (have e_:=(Kd.N_reads' HO_6.out).1;omega))
     obtain ⟨ua555_0,uc555_0,rfl,ul555_0,ge555_0⟩:=Kd.FK_slice_open hMe555
     have hv555_0:=hcc555 0 _ rfl
     rw [Nat.add_zero,show ((Kd.slice 2 (Kd.int .i64))).sz = 1 from rfl,Nat.mul_one] at hv555_0
     replace hv555_0:=Option.some.inj (hv555_0.symm.trans hx555_0)
     injection hv555_0 with hva_ hvn_ hvc_
     rw [hva_] at ge555_0
     rw [hvc_] at ul555_0
     have HL555_0:=zA (show Kd.V (Kd.int .i64) 2 _ w.heap.size _ _ (rd_L2 x6_1 a1) from Kd.V_mk ul555_0 ge555_0)
     clear hva_ hvn_ hvc_ ge555_0 ul555_0 hcc555 hce555
     have HR555_0:=zA hi555_0
     have HC555_0:=zA hl555_0
     clear hi555_0 hl555_0
     replace p555:=eq_true p555
     replace q555:=eq_true q555
     go_wp2_with (first | (refine zO (some 41) Tryz.func49 #[.slice A555_0 (rd_L2 x6_1 a1).length c555_0] ?_;(with_reducible refine (spec_l01Own.calls _ _ (rd_L2 x6_1 a1) t556 _ ?side1 ?side2 A30.out).mono ?_);(case side1=>repeat (first | exact (by repeat (first | (with_reducible exact HR555_0.out) | (with_reducible refine Kd.C_alloc ?_ _) | (with_reducible refine Kd.C_drewN ?_ _) | (with_reducible refine Kd.C_drew ?_) | exact HR555_0.out)) | (with_reducible refine Kd.C_alloc ?_ _) | (with_reducible refine Kd.C_drewN ?_ _) | (with_reducible refine Kd.C_drew ?_)));(case side2=>exact HC555_0.out);rintro e w32 ⟨v557,rfl,ho0,hb⟩;refine ⟨_,rfl,?_⟩;replace HO_6:=zA (Kd.N_elder' (zPN HO_6.out) (kC ho0) hb);replace HL555_0:=zA (kK (zPV HL555_0.out) (kC ho0) hb);have HO558:=zA (kI (kF (Kd.R_newM (M:=fun k_=>(w.heap.size ≤ k_)) ho0 (kP (zT HB.out GE538.out)) (fun k_ h_=>h_)) (kH (zP HO_5.out))) (kP (zT HB.out GE538.out)));replace HO_5:=zA (kE (zP HO_5.out) (kC ho0) hb);replace BK538:=zA (zB1 BK538.out hb);replace HR555_0:=zA (kO (by repeat (first | (with_reducible exact HR555_0.out) | (with_reducible refine Kd.C_alloc ?_ _) | (with_reducible refine Kd.C_drewN ?_ _) | (with_reducible refine Kd.C_drew ?_) | exact HR555_0.out)) hb);replace HB:=zA (kQ (zT HB.out GE538.out) hb);(try clear hb);(try clear ho0);obtain ⟨Ao33,co33,eo33⟩:=kM HO558.out;subst eo33) | ((with_reducible refine kS (N:=42) rfl ?_);refine Kd.N_lit (Kd.slice 2 (Kd.int .i64)) _ 24 ?hg (N' := 42) ?hd (xs:=([t556]:List (List Int))) (inner:=[.slice Ao33 t556.length co33]) (ok:=(fun k_=>(w.heap.size ≤ k_) ∧ some k_ ≠ (v540:Value).ownBlock ∧ some k_ ≠ (.slice (some ad555) x6_1.length co31:Value).ownBlock ∧ k_ ≠ gb538)) (okp:=(fun k_=>(w.heap.size ≤ k_) ∧ some k_ ≠ (v540:Value).ownBlock ∧ some k_ ≠ (.slice (some ad555) x6_1.length co31:Value).ownBlock ∧ k_ ≠ gb538)) ?hr ?hp (fun _ hk=>hk) ((show ∀ k_:Nat,(_:Nat) ≤ k_ → (fun k_=>(w.heap.size ≤ k_) ∧ some k_ ≠ (v540:Value).ownBlock ∧ some k_ ≠ (.slice (some ad555) x6_1.length co31:Value).ownBlock ∧ k_ ≠ gb538) k_ from fun k_ hk=>⟨(Nat.le_trans (kP (zT HB.out GE538.out)) hk),jF (kH (zP HO_5.out)) k_ hk,jF (jA (zPN HO_6.out)) k_ hk,jE (g:=gb538) (o:=.cells #[.int .i64 a0_0,.slice A0_1 l0_1.length c0_1] 26 (0,0)) (zR BK538.out) k_ hk⟩) _ (Nat.le_refl _)) (kW _ _) (Nat.le_refl _) (by simp) ?_;(case hd=>rfl);(case hg=>rfl);(case hr=>first | (go_simp;done) | (go_simp;rfl));(case hp=>exact (Reps.one (show Kd.FK (Kd.slice 2 (Kd.int .i64)) _ _ t556 [.slice Ao33 t556.length co33] from (Kd.FK_slice_mk (kB (kA (ok' := (fun k_=>(w.heap.size ≤ k_) ∧ some k_ ≠ (v540:Value).ownBlock ∧ some k_ ≠ (.slice (some ad555) x6_1.length co31:Value).ownBlock ∧ k_ ≠ gb538)) (kD (Kd.R_apart' (HO558.out) (Kd.N_typed HO_6.out) (by decide)) BK538.out (by decide)) (fun k_ hk=>⟨hk.1.1.1.1,⟨hk.1.1.2,⟨hk.1.2,hk.2⟩⟩⟩))).2.1 (Kd.R_F (kA (ok' := (fun k_=>(w.heap.size ≤ k_) ∧ some k_ ≠ (v540:Value).ownBlock ∧ some k_ ≠ (.slice (some ad555) x6_1.length co31:Value).ownBlock ∧ k_ ≠ gb538)) (kD (Kd.R_apart' (HO558.out) (Kd.N_typed HO_6.out) (by decide)) BK538.out (by decide)) (fun k_ hk=>⟨hk.1.1.1.1,⟨hk.1.1.2,⟨hk.1.2,hk.2⟩⟩⟩))))) (Reps.none _ _)));intro v560 w34 ho35 hb hg_ hnew_;clear hg_ hnew_;(first | rw [← Ny559.out] at ho35 | (simp only [Int.reduceToNat] at ho35;rw [← Ny559.out] at ho35));replace HO_5:=zA (kL (zP HO_5.out) hb);replace HO_6:=zA (Kd.N_elder' (zPN HO_6.out) (Kd.N_base ho35) hb);replace HL555_0:=zA (kK (zPV HL555_0.out) (Kd.N_base ho35) hb);have HO561:=zA (jN ho35 (kP (zT HB.out GE538.out)));replace BK538:=zA (zB1 BK538.out hb);replace HR555_0:=zA (kO (by repeat (first | (with_reducible exact HR555_0.out) | (with_reducible refine Kd.C_alloc ?_ _) | (with_reducible refine Kd.C_drewN ?_ _) | (with_reducible refine Kd.C_drew ?_) | exact HR555_0.out)) hb);replace HB:=zA (kQ (zT HB.out GE538.out) hb);clear HO558;clear hb ho35))
     go_loopg [6,9,10] k1 (fun kq v6 v9 v10 w' => ∃ (x5_2:List Int) (x6_2:List (List Int)) (x9_2:List (List Int)) (x10_2:Int),v10 = .int .i64 x10_2 ∧ Aside0 (spec_l06First.l1 kq a1 x5_2 x6_2 x9_2 x10_2 a0_0 l0_1 = some r) ∧ Aside0 (kq ≤ k1) ∧ Aside0 (Kd.R (Kd.int .i64) 2 w' w.heap.size (fun k_=>(w.heap.size ≤ k_)) v540 x5_2) ∧ Aside0 (Kd.N (Kd.slice 2 (Kd.int .i64)) 24 w' w.heap.size (fun k_=>(w.heap.size ≤ k_) ∧ some k_ ≠ (v540:Value).ownBlock ∧ some k_ ≠ (v9:Value).ownBlock ∧ k_ ≠ gb538) v6 x6_2) ∧ Aside0 (Kd.N (Kd.slice 2 (Kd.int .i64)) 24 w' w.heap.size (fun k_=>(w.heap.size ≤ k_) ∧ some k_ ≠ (v540:Value).ownBlock ∧ some k_ ≠ (v6:Value).ownBlock ∧ k_ ≠ gb538) v9 x9_2) ∧ Aside0 (w'.heap[gb538]? = some (.cells #[.int .i64 a0_0,(.slice A0_1 l0_1.length c0_1)] 26 (0,0))) ∧ Aside0 (Below w.heap.size w w'))
     case atStart=>exact ⟨(x5_1),(x6_1),(y559),(1),zs,H', ⟨Nat.le_refl _⟩,⟨zPM HO_5.out (fun _ hk=>hk.1)⟩,⟨by (with_reducible repeat (first | apply Kd.N_alloc | apply Kd.N_drewN | apply Kd.N_drew));exact Kd.N_mono HO_6.out (fun _ hk=>⟨hk.1.1.1,⟨hk.1.1.2.1,⟨hk.2,hk.1.1.2.2⟩⟩⟩)⟩,⟨zPN HO561.out⟩,⟨zR BK538.out⟩,⟨zT HB.out GE538.out⟩⟩
     case round =>
      clear H'
      try clear c1
      try clear hx1
      try clear qi1
      try clear c2
      try clear c4
      try clear c5
      try clear hx5
      try clear c9
      try clear c10
      try clear c11
      try clear c12
      try clear c13
      try clear hx14
      try clear qi14
      try clear hf14
      try clear c15
      try clear c22
      try clear c28
      try clear c29
      try clear hcz5_0
      try clear hcz5_1
      try clear hfz5_0
      try clear hfz5_1
      try clear hx14_0
      try clear hx555_0
      obtain ⟨x5_2,x6_2,x9_2,x10_2,rfl,HA,HK2,HO_5,HO_6,HO_9,BK538,HB⟩:=hrel
      cases gk with
      | zero=>exact absurd HA.out (by simp [spec_l06First.l1])
      | succ k2 =>
       have H:=HA.out
       clear HA
       simp only [spec_l06First.l1] at H
       by_cases c36:x10_2 ≤ a1
       ·rw [if_pos c36] at H
        have c36b0:decide (x10_2 ≤ a1) = true:=decide_eq_true c36
        clear c36
        obtain ⟨y562,hy562⟩:∃ y_:List (List Int),y_ = (([]:List (List Int))):=⟨_,rfl⟩
        replace H:(spec_l06First.l2 k2 a1 x5_2 x6_2 x9_2 x10_2 y562 0 a0_0 l0_1) = some r:=zy hy562 H
        have Ny562:=zA hy562
        clear hy562
        have H' := zA H
        clear H
        go_wp2_with (first | ((with_reducible refine kS (N:=48) rfl ?_);refine Kd.N_lit (Kd.slice 2 (Kd.int .i64)) _ 24 ?hg (N' := 48) ?hd (xs:=([]:List (List Int))) (inner:=[]) (ok:=(fun k_=>(w.heap.size ≤ k_) ∧ some k_ ≠ (v540:Value).ownBlock ∧ some k_ ≠ (u6:Value).ownBlock ∧ some k_ ≠ (u9:Value).ownBlock ∧ k_ ≠ gb538)) (okp:=(fun k_=>(w.heap.size ≤ k_) ∧ some k_ ≠ (v540:Value).ownBlock ∧ some k_ ≠ (u6:Value).ownBlock ∧ some k_ ≠ (u9:Value).ownBlock ∧ k_ ≠ gb538)) ?hr ?hp (fun _ hk=>hk) ((show ∀ k_:Nat,(_:Nat) ≤ k_ → (fun k_=>(w.heap.size ≤ k_) ∧ some k_ ≠ (v540:Value).ownBlock ∧ some k_ ≠ (u6:Value).ownBlock ∧ some k_ ≠ (u9:Value).ownBlock ∧ k_ ≠ gb538) k_ from fun k_ hk=>⟨(Nat.le_trans (kP (zT HB.out GE538.out)) hk),jF (kH (zP HO_5.out)) k_ hk,jF (jA (zPN HO_6.out)) k_ hk,jF (jA (zPN HO_9.out)) k_ hk,jE (g:=gb538) (o:=.cells #[.int .i64 a0_0,.slice A0_1 l0_1.length c0_1] 26 (0,0)) (zR BK538.out) k_ hk⟩) _ (Nat.le_refl _)) (kW _ _) (Nat.le_refl _) (by simp) ?_;(case hd=>rfl);(case hg=>rfl);(case hr=>first | (go_simp;done) | (go_simp;rfl));(case hp=>exact (Reps.none _ _));intro v563 w37 ho38 hb hg_ hnew_;clear hg_ hnew_;(first | rw [← Ny562.out] at ho38 | (simp only [Int.reduceToNat] at ho38;rw [← Ny562.out] at ho38));replace HO_5:=zA (kL (zP HO_5.out) hb);replace HO_6:=zA (Kd.N_elder' (zPN HO_6.out) (Kd.N_base ho38) hb);replace HO_9:=zA (Kd.N_elder' (zPN HO_9.out) (Kd.N_base ho38) hb);have HO564:=zA (jN ho38 (kP (zT HB.out GE538.out)));replace BK538:=zA (zB1 BK538.out hb);replace HB:=zA (kQ (zT HB.out GE538.out) hb);clear hb ho38))
        go_loopg [11,12] k2 (fun kq v11 v12 w' => ∃ (x5_3:List Int) (x11_3:List (List Int)) (x12_3:Int),v12 = .int .i64 x12_3 ∧ Aside0 (spec_l06First.l2 kq a1 x5_3 x6_2 x9_2 x10_2 x11_3 x12_3 a0_0 l0_1 = some r) ∧ Aside0 (kq ≤ k2) ∧ Aside0 (Kd.R (Kd.int .i64) 2 w' w.heap.size (fun k_=>(w.heap.size ≤ k_)) v540 x5_3) ∧ Aside0 (Kd.N (Kd.slice 2 (Kd.int .i64)) 24 w' w.heap.size (fun k_=>(w.heap.size ≤ k_) ∧ some k_ ≠ (v540:Value).ownBlock ∧ some k_ ≠ (u9:Value).ownBlock ∧ some k_ ≠ (v11:Value).ownBlock ∧ k_ ≠ gb538) u6 x6_2) ∧ Aside0 (Kd.N (Kd.slice 2 (Kd.int .i64)) 24 w' w.heap.size (fun k_=>(w.heap.size ≤ k_) ∧ some k_ ≠ (v540:Value).ownBlock ∧ some k_ ≠ (u6:Value).ownBlock ∧ some k_ ≠ (v11:Value).ownBlock ∧ k_ ≠ gb538) u9 x9_2) ∧ Aside0 (Kd.N (Kd.slice 2 (Kd.int .i64)) 24 w' w.heap.size (fun k_=>(w.heap.size ≤ k_) ∧ some k_ ≠ (v540:Value).ownBlock ∧ some k_ ≠ (u6:Value).ownBlock ∧ some k_ ≠ (u9:Value).ownBlock ∧ k_ ≠ gb538) v11 x11_3) ∧ Aside0 (w'.heap[gb538]? = some (.cells #[.int .i64 a0_0,(.slice A0_1 l0_1.length c0_1)] 26 (0,0))) ∧ Aside0 (Below w.heap.size w w'))
        case atStart=>exact ⟨(x5_2),(y562),(0),zs,H', ⟨Nat.le_refl _⟩,⟨zP HO_5.out⟩,⟨by (with_reducible repeat (first | apply Kd.N_alloc | apply Kd.N_drewN | apply Kd.N_drew));exact Kd.N_mono HO_6.out (fun _ hk=>⟨hk.1.1,⟨hk.1.2.1,⟨hk.1.2.2.1,⟨hk.2,hk.1.2.2.2⟩⟩⟩⟩)⟩,⟨by (with_reducible repeat (first | apply Kd.N_alloc | apply Kd.N_drewN | apply Kd.N_drew));exact Kd.N_mono HO_9.out (fun _ hk=>⟨hk.1.1,⟨hk.1.2.1,⟨hk.1.2.2.1,⟨hk.2,hk.1.2.2.2⟩⟩⟩⟩)⟩,⟨zPN HO564.out⟩,⟨zR BK538.out⟩,⟨zT HB.out GE538.out⟩⟩
        case round =>
         clear H'
         try clear c1
         try clear hx1
         try clear qi1
         try clear c2
         try clear c3
         try clear c4
         try clear c5
         try clear hx5
         try clear c9
         try clear c10
         try clear c11
         try clear c12
         try clear c13
         try clear hx14
         try clear qi14
         try clear hf14
         try clear c15
         try clear c22
         try clear c28
         try clear c29
         try clear c36
         try clear hcz5_0
         try clear hcz5_1
         try clear hfz5_0
         try clear hfz5_1
         try clear hx14_0
         try clear hx555_0
         obtain ⟨x5_3,x11_3,x12_3,rfl,HA,HK3,HO_5,HO_6,HO_9,HO_11,BK538,HB⟩:=hrel
         cases gk with
         | zero=>exact absurd HA.out (by simp [spec_l06First.l2])
         | succ k3 =>
          have H:=HA.out
          clear HA
          simp only [spec_l06First.l2] at H
          by_cases c39:x12_3 ≤ a1
          ·rw [if_pos c39] at H
           have c39b0:decide (x12_3 ≤ a1) = true:=decide_eq_true c39
           clear c39
           by_cases c40:0 ≤ (x5_3.length:Int)
           ·rw [if_pos c40] at H
            have c40b0:=eq_true c40
            have c40b1:decide (0 ≤ (x5_3.length:Int)) = true:=decide_eq_true c40
            clear c40
            by_cases c41:((x5_3.length:Int):Int).toNat ≤ 35184372088832
            ·rw [if_pos c41] at H
             have c41b0:=eq_true c41
             have c41b1:decide (((x5_3.length:Int):Int).toNat ≤ 35184372088832) = true:=decide_eq_true c41
             clear c41
             obtain ⟨y572,hy572⟩:∃ y_:List Int,y_ = (List.replicate ((x5_3.length:Int):Int).toNat 0):=⟨_,rfl⟩
             replace H:(spec_l06First.l3 k3 a1 x5_3 x6_2 x9_2 x10_2 x11_3 x12_3 y572 1 a0_0 l0_1) = some r:=zy hy572 H
             have Ny572:=zA hy572
             clear hy572
             have H' := zA H
             clear H
             obtain ⟨Ao42,co42,eo42⟩:=kM HO_5.out
             subst eo42
             go_wp2_with (first | ((with_reducible refine kS (N:=56) rfl ?_);refine Kd.R_make (Kd.int .i64) _ 2 rfl (N:=56) rfl 24 _ _ rfl (x5_3.length:Int) rfl rfl Tryz.underlying24 (.int .i64 0) 8 info2 rfl (by decide) (by omega) 0 (ok:=fun _=>True) (okp:=fun _=>True) rfl (fun _ hk=>hk) trivial (zd) (Nat.le_trans (Nat.mul_le_mul_right _ (zd:(x5_3.length:Int).toNat ≤ 35184372088832)) (by omega)) (kW _ _) (Nat.le_refl _) ?_;intro v573 w43 ho44 hb hg_ hnew_;clear hg_ hnew_;(first | rw [← Ny572.out] at ho44 | (simp only [Int.reduceToNat] at ho44;rw [← Ny572.out] at ho44));replace HO_6:=zA (Kd.N_elder' (zPN HO_6.out) (kC ho44) hb);replace HO_9:=zA (Kd.N_elder' (zPN HO_9.out) (kC ho44) hb);replace HO_11:=zA (Kd.N_elder' (zPN HO_11.out) (kC ho44) hb);have HO574:=zA (kI (kF (Kd.R_newM (M:=fun k_=>(w.heap.size ≤ k_)) ho44 (kP (zT HB.out GE538.out)) (fun k_ h_=>h_)) (kH (zP HO_5.out))) (kP (zT HB.out GE538.out)));replace HO_5:=zA (kE (zP HO_5.out) (kC ho44) hb);replace BK538:=zA (zB1 BK538.out hb);replace HB:=zA (kQ (zT HB.out GE538.out) hb);clear hb ho44))
             go_loopg [14] k3 (fun kq v14 w' => ∃ (x13_4:List Int) (x14_4:Int),v14 = .int .i64 x14_4 ∧ Aside0 (spec_l06First.l3 kq a1 x5_3 x6_2 x9_2 x10_2 x11_3 x12_3 x13_4 x14_4 a0_0 l0_1 = some r) ∧ Aside0 (kq ≤ k3) ∧ Aside0 (Kd.R (Kd.int .i64) 2 w' w.heap.size (fun k_=>(w.heap.size ≤ k_) ∧ some k_ ≠ (v573:Value).ownBlock) (.slice Ao42 x5_3.length co42) x5_3) ∧ Aside0 (Kd.N (Kd.slice 2 (Kd.int .i64)) 24 w' w.heap.size (fun k_=>(w.heap.size ≤ k_) ∧ some k_ ≠ ((.slice Ao42 x5_3.length co42):Value).ownBlock ∧ some k_ ≠ (u9:Value).ownBlock ∧ some k_ ≠ (u11:Value).ownBlock ∧ some k_ ≠ (v573:Value).ownBlock ∧ k_ ≠ gb538) u6 x6_2) ∧ Aside0 (Kd.N (Kd.slice 2 (Kd.int .i64)) 24 w' w.heap.size (fun k_=>(w.heap.size ≤ k_) ∧ some k_ ≠ ((.slice Ao42 x5_3.length co42):Value).ownBlock ∧ some k_ ≠ (u6:Value).ownBlock ∧ some k_ ≠ (u11:Value).ownBlock ∧ some k_ ≠ (v573:Value).ownBlock ∧ k_ ≠ gb538) u9 x9_2) ∧ Aside0 (Kd.N (Kd.slice 2 (Kd.int .i64)) 24 w' w.heap.size (fun k_=>(w.heap.size ≤ k_) ∧ some k_ ≠ ((.slice Ao42 x5_3.length co42):Value).ownBlock ∧ some k_ ≠ (u6:Value).ownBlock ∧ some k_ ≠ (u9:Value).ownBlock ∧ some k_ ≠ (v573:Value).ownBlock ∧ k_ ≠ gb538) u11 x11_3) ∧ Aside0 (Kd.R (Kd.int .i64) 2 w' w.heap.size (fun k_=>(w.heap.size ≤ k_) ∧ some k_ ≠ ((.slice Ao42 x5_3.length co42):Value).ownBlock) v573 x13_4) ∧ Aside0 (w'.heap[gb538]? = some (.cells #[.int .i64 a0_0,(.slice A0_1 l0_1.length c0_1)] 26 (0,0))) ∧ Aside0 (Below w.heap.size w w'))
             case atStart=>exact ⟨(y572),(1),zs,H', ⟨Nat.le_refl _⟩,⟨zP HO_5.out⟩,⟨by (with_reducible repeat (first | apply Kd.N_alloc | apply Kd.N_drewN | apply Kd.N_drew));exact Kd.N_mono HO_6.out (fun _ hk=>⟨hk.1.1,⟨hk.1.2.1,⟨hk.1.2.2.1,⟨hk.1.2.2.2.1,⟨hk.2,hk.1.2.2.2.2⟩⟩⟩⟩⟩)⟩,⟨by (with_reducible repeat (first | apply Kd.N_alloc | apply Kd.N_drewN | apply Kd.N_drew));exact Kd.N_mono HO_9.out (fun _ hk=>⟨hk.1.1,⟨hk.1.2.1,⟨hk.1.2.2.1,⟨hk.1.2.2.2.1,⟨hk.2,hk.1.2.2.2.2⟩⟩⟩⟩⟩)⟩,⟨by (with_reducible repeat (first | apply Kd.N_alloc | apply Kd.N_drewN | apply Kd.N_drew));exact Kd.N_mono HO_11.out (fun _ hk=>⟨hk.1.1,⟨hk.1.2.1,⟨hk.1.2.2.1,⟨hk.1.2.2.2.1,⟨hk.2,hk.1.2.2.2.2⟩⟩⟩⟩⟩)⟩,⟨zPM HO574.out (fun _ hk=>⟨hk.1.1,hk.2⟩)⟩,⟨zR BK538.out⟩,⟨zT HB.out GE538.out⟩⟩
             case round =>
              clear H'
              try clear c1
              try clear hx1
              try clear qi1
              try clear c2
              try clear c3
              try clear c4
              try clear c5
              try clear hx5
              try clear c9
              try clear c10
              try clear c11
              try clear c12
              try clear c13
              try clear hx14
              try clear qi14
              try clear hf14
              try clear c15
              try clear c22
              try clear c28
              try clear c29
              try clear c36
              try clear c39
              try clear c40
              try clear c41
              try clear hcz5_0
              try clear hcz5_1
              try clear hfz5_0
              try clear hfz5_1
              try clear hx14_0
              try clear hx555_0
              obtain ⟨x13_4,x14_4,rfl,HA,HK4,HO_5,HO_6,HO_9,HO_11,HO_13,BK538,HB⟩:=hrel
              cases gk with
              | zero=>exact absurd HA.out (by simp [spec_l06First.l3])
              | succ k4 =>
               have H:=HA.out
               clear HA
               simp only [spec_l06First.l3] at H
               by_cases c45:x14_4 < (x5_3.length:Int)
               ·rw [if_pos c45] at H
                have c45b0:decide (x14_4 < (x5_3.length:Int)) = true:=decide_eq_true c45
                clear c45
                by_cases c46:0 ≤ x14_4
                ·rw [if_pos c46] at H
                 have c46b0:decide (0 ≤ x14_4) = true:=decide_eq_true c46
                 clear c46
                 obtain ⟨t579,A47,H⟩:=zb H
                 try dsimp only at H
                 by_cases c48:(wrap64 (x12_3 - t579)) < 0
                 ·rw [if_pos c48] at H
                  have c48b0:decide ((wrap64 (x12_3 - t579)) < 0) = true:=decide_eq_true c48
                  clear c48
                  have H' := zA H
                  clear H
                  have p578:0 ≤ (x14_4:Int):=zd
                  have q578:x14_4 < (x5_3.length:Int):=zd
                  obtain ⟨ad578,e578,hx578_0⟩:=Kd.at_int (kB HO_5.out).2.2 x14_4 p578 q578
                  cases e578
                  replace p578:=eq_true p578
                  replace q578:=eq_true q578
                  go_wp2_with (first | (refine zO (some 68) Tryz.func50 #[.int .i64 (rd x5_3 x14_4)] ?_;(with_reducible refine (spec_l01Bits.calls k4 (rd x5_3 x14_4) t579 _ A47.out).mono ?_);rintro e w' ⟨rfl,⟨nd,rfl⟩⟩;refine ⟨_,rfl,?_⟩))
                  go_roundg k4
                  case measure=>have:=HK1.out;have:=HK2.out;have:=HK3.out;have:=HK4.out;omega
                  case rel=>exact ⟨(x13_4),(wrap64 (x14_4 + 1)),zs,H', ⟨by have:=HK1.out;have:=HK2.out;have:=HK3.out;have:=HK4.out;omega⟩,⟨zP HO_5.out⟩,⟨zPN HO_6.out⟩,⟨zPN HO_9.out⟩,⟨zPN HO_11.out⟩,⟨zP HO_13.out⟩,⟨zR BK538.out⟩,⟨zT HB.out GE538.out⟩⟩
                 rw [if_neg c48] at H
                 have c48b0:decide ((wrap64 (x12_3 - t579)) < 0) = false:=decide_eq_false c48
                 clear c48
                 obtain ⟨t581,A49,H⟩:=zb H
                 try dsimp only at H
                 have H' := zA H
                 clear H
                 have p578:0 ≤ (x14_4:Int):=zd
                 have q578:x14_4 < (x5_3.length:Int):=zd
                 obtain ⟨ad578,e578,hx578_0⟩:=Kd.at_int (kB HO_5.out).2.2 x14_4 p578 q578
                 cases e578
                 replace p578:=eq_true p578
                 replace q578:=eq_true q578
                 try go_wp2_with (first | (refine zO (some 68) Tryz.func50 #[.int .i64 (rd x5_3 x14_4)] ?_;(with_reducible refine (spec_l01Bits.calls k4 (rd x5_3 x14_4) t579 _ A47.out).mono ?_);rintro e w' ⟨rfl,⟨nd,rfl⟩⟩;refine ⟨_,rfl,?_⟩))
                 (try (rw [drewN_self wr];generalize hq_:World.drewN wr _ = wr;have n0_:Aside0 (Kd.N (Kd.slice 2 (Kd.int .i64)) 24 wr w.heap.size (fun k_=>(w.heap.size ≤ k_) ∧ some k_ ≠ (v573:Value).ownBlock ∧ some k_ ≠ (.slice (some ad578) x5_3.length co42:Value).ownBlock ∧ some k_ ≠ (u6:Value).ownBlock ∧ some k_ ≠ (u9:Value).ownBlock ∧ k_ ≠ gb538) u11 x11_3):=⟨by rw [← hq_];exact (by (with_reducible repeat (first | apply Kd.N_alloc | apply Kd.N_drewN | apply Kd.N_drew));exact Kd.N_mono HO_11.out (fun _ hk=>⟨hk.1,⟨hk.2.2.2.2.1,⟨hk.2.1,⟨hk.2.2.1,⟨hk.2.2.2.1,hk.2.2.2.2.2⟩⟩⟩⟩⟩))⟩;have n1_:Aside0 (Kd.R (Kd.int .i64) 2 wr w.heap.size (fun k_=>(w.heap.size ≤ k_) ∧ some k_ ≠ (.slice (some ad578) x5_3.length co42:Value).ownBlock) v573 x13_4):=⟨by rw [← hq_];exact (zP HO_13.out)⟩;have n2_:Aside0 (Kd.R (Kd.int .i64) 2 wr w.heap.size (fun k_=>(w.heap.size ≤ k_) ∧ some k_ ≠ (v573:Value).ownBlock) (.slice (some ad578) x5_3.length co42) x5_3):=⟨by rw [← hq_];exact (zP HO_5.out)⟩;have n3_:Aside0 (Kd.N (Kd.slice 2 (Kd.int .i64)) 24 wr w.heap.size (fun k_=>(w.heap.size ≤ k_) ∧ some k_ ≠ (u11:Value).ownBlock ∧ some k_ ≠ (v573:Value).ownBlock ∧ some k_ ≠ (.slice (some ad578) x5_3.length co42:Value).ownBlock ∧ some k_ ≠ (u9:Value).ownBlock ∧ k_ ≠ gb538) u6 x6_2):=⟨by rw [← hq_];exact (by (with_reducible repeat (first | apply Kd.N_alloc | apply Kd.N_drewN | apply Kd.N_drew));exact Kd.N_mono HO_6.out (fun _ hk=>⟨hk.1,⟨hk.2.2.2.1,⟨hk.2.2.2.2.1,⟨hk.2.1,⟨hk.2.2.1,hk.2.2.2.2.2⟩⟩⟩⟩⟩))⟩;have n4_:Aside0 (Kd.N (Kd.slice 2 (Kd.int .i64)) 24 wr w.heap.size (fun k_=>(w.heap.size ≤ k_) ∧ some k_ ≠ (u11:Value).ownBlock ∧ some k_ ≠ (v573:Value).ownBlock ∧ some k_ ≠ (.slice (some ad578) x5_3.length co42:Value).ownBlock ∧ some k_ ≠ (u6:Value).ownBlock ∧ k_ ≠ gb538) u9 x9_2):=⟨by rw [← hq_];exact (by (with_reducible repeat (first | apply Kd.N_alloc | apply Kd.N_drewN | apply Kd.N_drew));exact Kd.N_mono HO_9.out (fun _ hk=>⟨hk.1,⟨hk.2.2.2.1,⟨hk.2.2.2.2.1,⟨hk.2.1,⟨hk.2.2.1,hk.2.2.2.2.2⟩⟩⟩⟩⟩))⟩;have n5_:Aside0 (wr.heap[gb538]? = some (.cells #[.int .i64 a0_0,.slice A0_1 l0_1.length c0_1] 26 (0,0))):=⟨by rw [← hq_];exact (zR BK538.out)⟩;have n6_:Aside0 (Below w.heap.size w wr):=⟨by rw [← hq_];exact (zT HB.out GE538.out)⟩;clear HO_11 HO_13 HO_5 HO_6 HO_9 BK538 HB hq_;have HO_11:=n0_;have HO_13:=n1_;have HO_5:=n2_;have HO_6:=n3_;have HO_9:=n4_;have BK538:=n5_;have HB:=n6_;clear n0_ n1_ n2_ n3_ n4_ n5_ n6_))
                 replace HO_5:=zA (zH HO_5.out)
                 replace HO_6:=zA (Kd.N_drew HO_6.out)
                 replace HO_9:=zA (Kd.N_drew HO_9.out)
                 replace HO_11:=zA (Kd.N_drew HO_11.out)
                 replace HO_13:=zA (zH HO_13.out)
                 replace BK538:=zA (zK BK538.out)
                 replace HB:=zA (zD HB.out)
                 have p580:0 ≤ (x14_4:Int):=zd
                 have q580:x14_4 < (x5_3.length:Int):=zd
                 obtain ⟨ad580,e580,hx580_0⟩:=Kd.at_int (kB HO_5.out).2.2 x14_4 p580 q580
                 obtain rfl:ad578 = ad580:=(by injection e580)
                 replace p580:=eq_true p580
                 replace q580:=eq_true q580
                 refine start_ (n:=7) (S:=fun w' => w'.cell? ⟨gb538,0,none⟩ = some (.int .i64 a0_0) ∧ w'.cell? ⟨gb538,1,none⟩ = some (.slice A0_1 l0_1.length c0_1) ∧ w'.cell? (ad578.add (x14_4).toNat) = some (.int .i64 (rd x5_3 x14_4))) (ds:=[]) #[false,false,false,false,false,false,false] (by kernel_rfl) rfl rfl ⟨(kV BK538.out 0).trans rfl,(kV BK538.out 1).trans rfl,hx580_0⟩ (fun hHeld=>?_)
                 generalize wr.drew = w50 at HO_5 HO_6 HO_9 HO_11 HO_13 BK538 HB hx580_0 hHeld ⊢
                 refine pure_ (i:=1) (N:=some 73) (v:=?_) (a' := ?_) #[false,true,false,false,false,false,false] rfl rfl (by kernel_rfl) (fun _ _ _ h=>h) (Or.inl ⟨by rfl,?_⟩) ?_ ?_
                 rotate_left
                 ·intro w'
                  go_simp
                  with_reducible rfl
                 rotate_left
                 ·simp only [Act.put,zL,zM,zN,i64_w,i32_w]
                  rfl
                 refine pure_ (i:=2) (N:=some 74) (v:=?_) (a' := ?_) #[false,true,true,false,false,false,false] rfl rfl (by kernel_rfl) (fun _ _ _ h=>h) (Or.inl ⟨by rfl,?_⟩) ?_ ?_
                 rotate_left
                 ·intro w'
                  go_simp
                  with_reducible rfl
                 rotate_left
                 ·simp only [Act.put,zL,zM,zN,i64_w,i32_w]
                  rfl
                 refine pure_ (i:=3) (N:=some 75) (v:=?_) (a' := ?_) #[false,true,true,true,false,false,false] rfl rfl (by kernel_rfl) (fun _ _ _ h=>h) (Or.inl ⟨by rfl,?_⟩) ?_ ?_
                 rotate_left
                 ·intro w'
                  go_simp
                  with_reducible rfl
                 rotate_left
                 ·simp only [Act.put,zL,zM,zN,i64_w,i32_w]
                  rfl
                 refine take_ (i:=0) (N:=some 72) (v:=?_) (a' := ?_) #[true,true,true,true,false,false,false] rfl rfl (by kernel_rfl) (fun _ _ _ h=>h) (Or.inl ⟨by rfl,?_⟩) hHeld ?_ ?_
                 rotate_left
                 ·rintro w' ⟨s0,s1,s2⟩
                  go_simp
                  with_reducible rfl
                 rotate_left
                 ·simp only [Act.put,zL,zM,zN,i64_w,i32_w]
                  rfl
                 refine take_ (i:=4) (N:=some 76) (v:=?_) (a' := ?_) #[true,true,true,true,true,false,false] rfl rfl (by kernel_rfl) (fun _ _ _ h=>h) (Or.inl ⟨by rfl,?_⟩) hHeld ?_ ?_
                 rotate_left
                 ·rintro w' ⟨s0,s1,s2⟩
                  go_simp
                  with_reducible rfl
                 rotate_left
                 ·simp only [Act.put,zL,zM,zN,i64_w,i32_w]
                  rfl
                 refine one_ (i:=5) (N:=some 77) #[true,true,true,true,true,true,false] rfl rfl (by kernel_rfl) (by decide) (fun K hK=>?_)
                 refine goes_ Tryz.func51 (by kernel_rfl) rfl #[.agg #[.int .i64 a0_0,.slice A0_1 l0_1.length c0_1],.int .i64 (rd x5_3 x14_4)] (by rfl) rfl rfl zg ?_
                 with_reducible refine (spec_l06Reach.calls k4 a0_0 _ _ l0_1 (rd x5_3 x14_4) t581 _ ?side1 ?side2 A49.out).mono ?_
                 (case side1=>exact zS (kO HR0_1.out HB.out))
                 (case side2=>exact HC0_1.out)
                 rintro e w51 ⟨rfl,hb⟩
                 have HS2_:=(hb.cell (jG _ _ (hHeld.2.2))).trans (hHeld.2.2)
                 refine ⟨_,rfl,?_⟩
                 replace HO_5:=zA (kL (zP HO_5.out) hb)
                 replace HO_6:=zA (kZ (zPN HO_6.out) hb)
                 replace HO_9:=zA (kZ (zPN HO_9.out) hb)
                 replace HO_11:=zA (kZ (zPN HO_11.out) hb)
                 replace HO_13:=zA (kL (zP HO_13.out) hb)
                 replace BK538:=zA (zB1 BK538.out hb)
                 replace HB:=zA (kQ (zT HB.out GE538.out) hb)
                 (try clear hb)
                 (try clear hb2)
                 (try clear hk)
                 (try clear hi)
                 (try clear hgw)
                 refine hK.out _ _ ⟨(kV BK538.out 0).trans rfl,(kV BK538.out 1).trans rfl,HS2_⟩ (fun hHeld=>?_)
                 clear hK K
                 refine norm_ (a' := ?_) ?_ ?_
                 rotate_left
                 ·show Act.put _ (some 77) _ = _
                  simp only [Act.put,zL,zM,zN,i64_w,i32_w]
                  rfl
                 refine pure_ (i:=6) (N:=some 16) (v:=?_) (a' := ?_) #[true,true,true,true,true,true,true] rfl rfl (by kernel_rfl) (fun _ _ _ h=>h) (Or.inl ⟨by rfl,?_⟩) ?_ ?_
                 rotate_left
                 ·intro w'
                  go_simp
                  with_reducible rfl
                 rotate_left
                 ·simp only [Act.put,zL,zM,zN,i64_w,i32_w]
                  rfl
                 refine done_ (by kernel_rfl) ?_
                 try go_wp2
                 go_loopg [17] k4 (fun kq v17 w' => ∃ (x13_5:List Int) (x17_5:Int),v17 = .int .i64 x17_5 ∧ Aside0 (spec_l06First.l4 kq a1 x5_3 x6_2 x9_2 x10_2 x11_3 x12_3 x13_5 x14_4 (wrap64 (x12_3 - t579)) t581 x17_5 a0_0 l0_1 = some r) ∧ Aside0 (kq ≤ k4) ∧ Aside0 (Kd.R (Kd.int .i64) 2 w' w.heap.size (fun k_=>(w.heap.size ≤ k_) ∧ some k_ ≠ (v573:Value).ownBlock) (.slice (some ad578) x5_3.length co42) x5_3) ∧ Aside0 (Kd.N (Kd.slice 2 (Kd.int .i64)) 24 w' w.heap.size (fun k_=>(w.heap.size ≤ k_) ∧ some k_ ≠ ((.slice (some ad578) x5_3.length co42):Value).ownBlock ∧ some k_ ≠ (u9:Value).ownBlock ∧ some k_ ≠ (u11:Value).ownBlock ∧ some k_ ≠ (v573:Value).ownBlock ∧ k_ ≠ gb538) u6 x6_2) ∧ Aside0 (Kd.N (Kd.slice 2 (Kd.int .i64)) 24 w' w.heap.size (fun k_=>(w.heap.size ≤ k_) ∧ some k_ ≠ ((.slice (some ad578) x5_3.length co42):Value).ownBlock ∧ some k_ ≠ (u6:Value).ownBlock ∧ some k_ ≠ (u11:Value).ownBlock ∧ some k_ ≠ (v573:Value).ownBlock ∧ k_ ≠ gb538) u9 x9_2) ∧ Aside0 (Kd.N (Kd.slice 2 (Kd.int .i64)) 24 w' w.heap.size (fun k_=>(w.heap.size ≤ k_) ∧ some k_ ≠ ((.slice (some ad578) x5_3.length co42):Value).ownBlock ∧ some k_ ≠ (u6:Value).ownBlock ∧ some k_ ≠ (u9:Value).ownBlock ∧ some k_ ≠ (v573:Value).ownBlock ∧ k_ ≠ gb538) u11 x11_3) ∧ Aside0 (Kd.R (Kd.int .i64) 2 w' w.heap.size (fun k_=>(w.heap.size ≤ k_) ∧ some k_ ≠ ((.slice (some ad578) x5_3.length co42):Value).ownBlock) v573 x13_5) ∧ Aside0 (w'.heap[gb538]? = some (.cells #[.int .i64 a0_0,(.slice A0_1 l0_1.length c0_1)] 26 (0,0))) ∧ Aside0 (Below w.heap.size w w'))
                 case atStart=>exact ⟨(x13_4),(0),zs,H', ⟨Nat.le_refl _⟩,⟨zP HO_5.out⟩,⟨Kd.N_mono (zPN HO_6.out) (fun _ hk=>by simp only [ne_eq] at hk ⊢;obtain ⟨h1_,h2_,h3_,h4_,h5_,h6_⟩:=hk;exact ⟨h1_,by assumption,by assumption,by assumption,by assumption,by assumption⟩)⟩,⟨Kd.N_mono (zPN HO_9.out) (fun _ hk=>by simp only [ne_eq] at hk ⊢;obtain ⟨h1_,h2_,h3_,h4_,h5_,h6_⟩:=hk;exact ⟨h1_,by assumption,by assumption,by assumption,by assumption,by assumption⟩)⟩,⟨Kd.N_mono (zPN HO_11.out) (fun _ hk=>by simp only [ne_eq] at hk ⊢;obtain ⟨h1_,h2_,h3_,h4_,h5_,h6_⟩:=hk;exact ⟨h1_,by assumption,by assumption,by assumption,by assumption,by assumption⟩)⟩,⟨zP HO_13.out⟩,⟨zR BK538.out⟩,⟨zT HB.out GE538.out⟩⟩
                 case round =>
                  clear H'
                  try clear c1
                  try clear hx1
                  try clear qi1
                  try clear c2
                  try clear c3
                  try clear c4
                  try clear c5
                  try clear hx5
                  try clear c9
                  try clear c10
                  try clear c11
                  try clear c12
                  try clear c13
                  try clear hx14
                  try clear qi14
                  try clear hf14
                  try clear c15
                  try clear c22
                  try clear c28
                  try clear c29
                  try clear c36
                  try clear c39
                  try clear c40
                  try clear c41
                  try clear c45
                  try clear c46
                  try clear c48
                  try clear c49
                  try clear c50
                  try clear c51
                  try clear hcz5_0
                  try clear hcz5_1
                  try clear hfz5_0
                  try clear hfz5_1
                  try clear hx14_0
                  try clear hx555_0
                  try clear hx578_0
                  try clear hx580_0
                  obtain ⟨x13_5,x17_5,rfl,HA,HK5,HO_5,HO_6,HO_9,HO_11,HO_13,BK538,HB⟩:=hrel
                  cases gk with
                  | zero=>exact absurd HA.out (by simp [spec_l06First.l4])
                  | succ k5 =>
                   have H:=HA.out
                   clear HA
                   simp only [spec_l06First.l4] at H
                   by_cases c52:x17_5 < (x5_3.length:Int)
                   ·rw [if_pos c52] at H
                    have c52b0:decide (x17_5 < (x5_3.length:Int)) = true:=decide_eq_true c52
                    clear c52
                    by_cases c53:0 ≤ x17_5
                    ·rw [if_pos c53] at H
                     have c53b0:decide (0 ≤ x17_5) = true:=decide_eq_true c53
                     clear c53
                     by_cases c54:(Go.bits .or .i64 (rd x5_3 x17_5) t581) = t581
                     ·rw [if_pos c54] at H
                      obtain ⟨c54b0,c54b1⟩:=zT1 c54
                      clear c54
                      by_cases c55:x17_5 > 0
                      ·rw [if_pos c55] at H
                       have c55b0:decide (0 < x17_5) = true:=decide_eq_true c55
                       clear c55
                       by_cases c56:0 ≤ x14_4
                       ·rw [if_pos c56] at H
                        have c56b0:decide (0 ≤ x14_4) = true:=decide_eq_true c56
                        clear c56
                        by_cases c57:x14_4 < (x13_5.length:Int)
                        ·rw [if_pos c57] at H
                         have c57b0:decide (x14_4 < (x13_5.length:Int)) = true:=decide_eq_true c57
                         clear c57
                         obtain ⟨ji58,hji58⟩:∃ j_:Int,(wrap64 (x12_3 - t579)) = j_:=⟨_,rfl⟩
                         replace H:(if 0 ≤ (ji58) then (if (ji58) < (x6_2.length:Int) then (if x17_5 < ((rd_L2 x6_2 (ji58)).length:Int) then (spec_l06First.l4 k5 a1 x5_3 x6_2 x9_2 x10_2 x11_3 x12_3 (x13_5.set (x14_4:Int).toNat (wrap64 ((rd x13_5 x14_4) + (rd (rd_L2 x6_2 (ji58)) x17_5)))) x14_4 (ji58) t581 (wrap64 (x17_5 + 1)) a0_0 l0_1) else (none)) else (none)) else (none)) = some r:=by first | (rw [hji58] at H;exact H) | (simp only [hji58] at H ⊢;exact H)
                         (try rw [hji58] at c48b0)
                         have hji58w:(IntKind.i64.wrap (x12_3 - t579)) = ji58:=(i64_w _).trans hji58
                         by_cases c59:0 ≤ (ji58)
                         ·rw [if_pos c59] at H
                          have c59b0:decide (0 ≤ (ji58)) = true:=decide_eq_true c59
                          clear c59
                          by_cases c60:(ji58) < (x6_2.length:Int)
                          ·rw [if_pos c60] at H
                           have c60b0:decide ((ji58) < (x6_2.length:Int)) = true:=decide_eq_true c60
                           clear c60
                           by_cases c61:x17_5 < ((rd_L2 x6_2 (ji58)).length:Int)
                           ·rw [if_pos c61] at H
                            have c61b0:decide (x17_5 < ((rd_L2 x6_2 (ji58)).length:Int)) = true:=decide_eq_true c61
                            clear c61
                            obtain ⟨y586,hy586⟩:∃ y_:List Int,y_ = (x13_5.set (x14_4:Int).toNat (wrap64 ((rd x13_5 x14_4) + (rd (rd_L2 x6_2 (ji58)) x17_5)))):=⟨_,rfl⟩
                            replace H:(spec_l06First.l4 k5 a1 x5_3 x6_2 x9_2 x10_2 x11_3 x12_3 y586 x14_4 (ji58) t581 (wrap64 (x17_5 + 1)) a0_0 l0_1) = some r:=zy hy586 H
                            have Ny586:=zA hy586
                            clear hy586
                            have H' := zA H
                            clear H
                            have p582:0 ≤ (x17_5:Int):=zd
                            have q582:x17_5 < (x5_3.length:Int):=zd
                            obtain ⟨ad582,e582,hx582_0⟩:=Kd.at_int (kB HO_5.out).2.2 x17_5 p582 q582
                            obtain rfl:ad578 = ad582:=(by injection e582)
                            replace p582:=eq_true p582
                            replace q582:=eq_true q582
                            try go_wp2
                            replace HO_5:=zA (zH HO_5.out)
                            replace HO_6:=zA (Kd.N_drew HO_6.out)
                            replace HO_9:=zA (Kd.N_drew HO_9.out)
                            replace HO_11:=zA (Kd.N_drew HO_11.out)
                            replace HO_13:=zA (zH HO_13.out)
                            replace BK538:=zA (zK BK538.out)
                            replace HB:=zA (zD HB.out)
                            obtain ⟨Ao64,co64,eo64⟩:=kM HO_13.out
                            (first | subst eo64 | (injection eo64 with f1_ f2_ f3_;have f4_:=f1_.symm;have f5_:=f3_.symm;clear f1_ f2_ f3_;subst f4_;subst f5_))
                            have p583:0 ≤ (x14_4:Int):=zd
                            have q583:x14_4 < (x13_5.length:Int):=zd
                            obtain ⟨ad583,e583,hx583_0⟩:=Kd.at_int (kB HO_13.out).2.2 x14_4 p583 q583
                            cases e583
                            replace p583:=eq_true p583
                            replace q583:=eq_true q583
                            obtain ⟨Ao65,co65,eo65⟩:=Kd.N_slice HO_6.out
                            (first | subst eo65 | (injection eo65 with f1_ f2_ f3_;have f4_:=f1_.symm;have f5_:=f3_.symm;clear f1_ f2_ f3_;subst f4_;subst f5_))
                            have p584:0 ≤ ((ji58):Int):=zd
                            have q584:(ji58) < (x6_2.length:Int):=zd
                            obtain ⟨ad584,A584_0,c584_0,e584,hx584_0,hl584_0,hi584_0⟩:=at_L2 (Kd.N_reads' HO_6.out).2.2 (ji58) p584 q584
                            cases e584
                            obtain ⟨ce584,hce584,hMe584,hcc584⟩:=Kd.N_get HO_6.out [] (ji58) p584 (by first | exact q584 | exact zd | (have e_:=(Kd.N_reads' HO_6.out).1;omega))
                            obtain ⟨ua584_0,uc584_0,rfl,ul584_0,ge584_0⟩:=Kd.FK_slice_open hMe584
                            have hv584_0:=hcc584 0 _ rfl
                            rw [Nat.add_zero,show ((Kd.slice 2 (Kd.int .i64))).sz = 1 from rfl,Nat.mul_one] at hv584_0
                            replace hv584_0:=Option.some.inj (hv584_0.symm.trans hx584_0)
                            injection hv584_0 with hva_ hvn_ hvc_
                            rw [hva_] at ge584_0
                            rw [hvc_] at ul584_0
                            have HL584_0:=zA (show Kd.V (Kd.int .i64) 2 _ w.heap.size _ _ (rd_L2 x6_2 (ji58)) from Kd.V_mk ul584_0 ge584_0)
                            clear hva_ hvn_ hvc_ ge584_0 ul584_0 hcc584 hce584
                            have HR584_0:=zA hi584_0
                            have HC584_0:=zA hl584_0
                            clear hi584_0 hl584_0
                            replace p584:=eq_true p584
                            replace q584:=eq_true q584
                            have p585:0 ≤ (x17_5:Int):=zd
                            have q585:x17_5 < ((rd_L2 x6_2 (ji58)).length:Int):=zd
                            obtain ⟨ad585,e585,hx585_0⟩:=Kd.at_int (by repeat (first | (with_reducible exact HR584_0.out) | (with_reducible refine Kd.C_alloc ?_ _) | (with_reducible refine Kd.C_drewN ?_ _) | (with_reducible refine Kd.C_drew ?_) | exact HR584_0.out)) x17_5 p585 q585
                            cases e585
                            replace p585:=eq_true p585
                            replace q585:=eq_true q585
                            have p62:0 ≤ (x14_4:Int):=zd
                            have q62:(x14_4:Int) < ((x13_5.length:Int):Int):=zd
                            obtain ⟨go62,co62,eo62,gb62,gl62,cl62,HG62⟩:=Kd.R_form HO_13.out (by omega)
                            (first | cases eo62 | (injection eo62 with ea_ en_ ec_;(first | subst ea_ | (injection ea_ with ea_;subst ea_));subst ec_;clear en_))
                            have GB62:=zA gb62
                            have GG62:=zA HG62
                            clear gb62 gl62 HG62
                            (first | simp only [add_plain] at hx583_0 | skip)
                            obtain ⟨hx62_0,hf62_0⟩:=Kd.R_celln 0 HO_13.out (x14_4:Int) p62 q62
                            replace p62:=eq_true p62
                            replace q62:=eq_true q62
                            have HP66:=Kd.R_putn HO_13.out (x14_4:Int) (wrap64 ((rd x13_5 x14_4) + (rd (rd_L2 x6_2 (ji58)) x17_5)))
                            rw [← Ny586.out] at HP66
                            have HQ66:=zA HP66
                            clear HP66
                            refine start_ (n:=16) (S:=fun w' => w'.cell? ⟨go62,(x14_4).toNat,none⟩ = some (.int .i64 (rd x13_5 x14_4)) ∧ w'.cell? (ad584.add ((ji58)).toNat) = some (.slice (some ad585) (rd_L2 x6_2 (ji58)).length c584_0) ∧ w'.cell? (ad585.add (x17_5).toNat) = some (.int .i64 (rd (rd_L2 x6_2 (ji58)) x17_5))) (ds:=[15]) #[false,false,false,false,false,false,false,false,false,false,false,false,false,false,false,false] (by kernel_rfl) rfl rfl ⟨hx583_0,hx584_0,hx585_0⟩ (fun hHeld=>?_);refine with_tabW spec_l06First.tab29 spec_l06First.bits29 (fun HT_ HW_=>?_)
                            generalize wr.drew = w63 at HO_5 HO_6 HO_9 HO_11 HO_13 BK538 HB GG62 HL584_0 HQ66 HR584_0 hf62_0 hx583_0 hx584_0 hx585_0 hx62_0 hHeld ⊢
                            refine zp 0 (some 100) #[true,false,false,false,false,false,false,false,false,false,false,false,false,false,false,false] HT_.out ?_
                            refine zp 1 (some 101) #[true,true,false,false,false,false,false,false,false,false,false,false,false,false,false,false] HT_.out ?_
                            refine zp 2 (some 102) #[true,true,true,false,false,false,false,false,false,false,false,false,false,false,false,false] HT_.out ?_
                            refine zp 3 (some 103) #[true,true,true,true,false,false,false,false,false,false,false,false,false,false,false,false] HT_.out ?_
                            refine zp 4 (some 104) #[true,true,true,true,true,false,false,false,false,false,false,false,false,false,false,false] HT_.out ?_
                            refine zp 6 (some 106) #[true,true,true,true,true,false,true,false,false,false,false,false,false,false,false,false] HT_.out ?_
                            refine zp 7 (some 107) #[true,true,true,true,true,false,true,true,false,false,false,false,false,false,false,false] HT_.out ?_
                            refine zp 8 (some 108) #[true,true,true,true,true,false,true,true,true,false,false,false,false,false,false,false] HT_.out ?_
                            refine zp 10 (some 110) #[true,true,true,true,true,false,true,true,true,false,true,false,false,false,false,false] HT_.out ?_
                            refine ze 5 (some 105) #[true,true,true,true,true,true,true,true,true,false,true,false,false,false,false,false] HT_.out HW_.out hHeld ?_
                            refine ze 9 (some 109) #[true,true,true,true,true,true,true,true,true,true,true,false,false,false,false,false] HT_.out HW_.out hHeld ?_
                            refine zp 11 (some 111) #[true,true,true,true,true,true,true,true,true,true,true,true,false,false,false,false] HT_.out ?_
                            refine ze 12 (some 112) #[true,true,true,true,true,true,true,true,true,true,true,true,true,false,false,false] HT_.out HW_.out hHeld ?_
                            refine zp 13 (some 113) #[true,true,true,true,true,true,true,true,true,true,true,true,true,true,false,false] HT_.out ?_
                            refine zp 14 (some 114) #[true,true,true,true,true,true,true,true,true,true,true,true,true,true,true,false] HT_.out ?_
                            refine last_ (i:=15) (N:=none) #[true,true,true,true,true,true,true,true,true,true,true,true,true,true,true,true] rfl rfl (one_of HT_.out (by kernel_rfl)) (by decide) (fun K hK=>?_)
                            refine skip_ (w1:=?_) (by rfl) rfl ?_ ?_
                            rotate_left
                            ·go_simp
                             rfl
                            refine hK.out _ _ ?_
                            clear hK K
                            refine done_ (done_of HT_.out (by kernel_rfl)) ?_
                            try go_wp2
                            subst hji58
                            go_roundg k5
                            case measure=>have:=HK1.out;have:=HK2.out;have:=HK3.out;have:=HK4.out;have:=HK5.out;omega
                            case rel=>exact ⟨(y586),(wrap64 (x17_5 + 1)),zs,H', ⟨by have:=HK1.out;have:=HK2.out;have:=HK3.out;have:=HK4.out;have:=HK5.out;omega⟩,⟨by (with_reducible repeat (first | apply zF | apply zG | apply zH));exact kA (kY (p:=⟨go62,(x14_4:Int).toNat,none⟩) (kA HO_5.out (fun k_ hk=>(⟨hk,fun e_=>hk.2 (by rw [e_];rfl)⟩:_ ∧ k_ ≠ go62))) (fun _ hk=>hk.2) (.int .i64 (wrap64 ((rd x13_5 x14_4) + (rd (rd_L2 x6_2 (wrap64 (x12_3 - t579))) x17_5))))) (fun _ hk=>⟨hk.1.1,hk.1.2⟩)⟩,⟨by (with_reducible repeat (first | apply Kd.N_alloc | apply Kd.N_drewN | apply Kd.N_drew));exact Kd.N_mono (Kd.N_far (p:=⟨go62,(x14_4:Int).toNat,none⟩) (Kd.N_mono HO_6.out (fun k_ hk=>(⟨hk,fun e_=>hk.2.2.2.2.1 (by rw [e_];rfl)⟩:_ ∧ k_ ≠ go62))) (fun _ hk=>hk.2) (.int .i64 (wrap64 ((rd x13_5 x14_4) + (rd (rd_L2 x6_2 (wrap64 (x12_3 - t579))) x17_5))))) (fun _ hk=>⟨hk.1.1,⟨hk.1.2.1,⟨hk.1.2.2.1,⟨hk.1.2.2.2.1,⟨hk.1.2.2.2.2.1,hk.1.2.2.2.2.2⟩⟩⟩⟩⟩)⟩,⟨by (with_reducible repeat (first | apply Kd.N_alloc | apply Kd.N_drewN | apply Kd.N_drew));exact Kd.N_mono (Kd.N_far (p:=⟨go62,(x14_4:Int).toNat,none⟩) (Kd.N_mono HO_9.out (fun k_ hk=>(⟨hk,fun e_=>hk.2.2.2.2.1 (by rw [e_];rfl)⟩:_ ∧ k_ ≠ go62))) (fun _ hk=>hk.2) (.int .i64 (wrap64 ((rd x13_5 x14_4) + (rd (rd_L2 x6_2 (wrap64 (x12_3 - t579))) x17_5))))) (fun _ hk=>⟨hk.1.1,⟨hk.1.2.1,⟨hk.1.2.2.1,⟨hk.1.2.2.2.1,⟨hk.1.2.2.2.2.1,hk.1.2.2.2.2.2⟩⟩⟩⟩⟩)⟩,⟨by (with_reducible repeat (first | apply Kd.N_alloc | apply Kd.N_drewN | apply Kd.N_drew));exact Kd.N_mono (Kd.N_far (p:=⟨go62,(x14_4:Int).toNat,none⟩) (Kd.N_mono HO_11.out (fun k_ hk=>(⟨hk,fun e_=>hk.2.2.2.2.1 (by rw [e_];rfl)⟩:_ ∧ k_ ≠ go62))) (fun _ hk=>hk.2) (.int .i64 (wrap64 ((rd x13_5 x14_4) + (rd (rd_L2 x6_2 (wrap64 (x12_3 - t579))) x17_5))))) (fun _ hk=>⟨hk.1.1,⟨hk.1.2.1,⟨hk.1.2.2.1,⟨hk.1.2.2.2.1,⟨hk.1.2.2.2.2.1,hk.1.2.2.2.2.2⟩⟩⟩⟩⟩)⟩,⟨zP HQ66.out⟩,⟨by (with_reducible repeat (first | refine zJ ?_ _ | refine zK ?_ | refine zI ?_ _));refine blk_far ?_ (by have h_:=Kd.R_ne HO_13.out BK538.out (by decide);intro e_;exact h_ (by rw [e_];rfl)) _;(with_reducible repeat (first | refine zJ ?_ _ | refine zK ?_ | refine zI ?_ _));exact BK538.out⟩,⟨zV HB.out GB62.out GE538.out⟩⟩
                           rw [if_neg c61] at H
                           exact absurd H (by simp)
                          rw [if_neg c60] at H
                          exact absurd H (by simp)
                         rw [if_neg c59] at H
                         exact absurd H (by simp)
                        rw [if_neg c57] at H
                        exact absurd H (by simp)
                       rw [if_neg c56] at H
                       exact absurd H (by simp)
                      rw [if_neg c55] at H
                      have c55b0:decide (0 < x17_5) = false:=decide_eq_false c55
                      clear c55
                      by_cases c67:x10_2 = 1
                      ·rw [if_pos c67] at H
                       obtain ⟨c67b0,c67b1⟩:=zT1 c67
                       clear c67
                       by_cases c68:0 ≤ x14_4
                       ·rw [if_pos c68] at H
                        have c68b0:decide (0 ≤ x14_4) = true:=decide_eq_true c68
                        clear c68
                        by_cases c69:x14_4 < (x13_5.length:Int)
                        ·rw [if_pos c69] at H
                         have c69b0:decide (x14_4 < (x13_5.length:Int)) = true:=decide_eq_true c69
                         clear c69
                         obtain ⟨ji70,hji70⟩:∃ j_:Int,(wrap64 (x12_3 - t579)) = j_:=⟨_,rfl⟩
                         replace H:(if 0 ≤ (ji70) then (if (ji70) < (x6_2.length:Int) then (if x17_5 < ((rd_L2 x6_2 (ji70)).length:Int) then (spec_l06First.l4 k5 a1 x5_3 x6_2 x9_2 x10_2 x11_3 x12_3 (x13_5.set (x14_4:Int).toNat (wrap64 ((rd x13_5 x14_4) + (rd (rd_L2 x6_2 (ji70)) x17_5)))) x14_4 (ji70) t581 (wrap64 (x17_5 + 1)) a0_0 l0_1) else (none)) else (none)) else (none)) = some r:=by first | (rw [hji70] at H;exact H) | (simp only [hji70] at H ⊢;exact H)
                         (try rw [hji70] at c48b0)
                         have hji70w:(IntKind.i64.wrap (x12_3 - t579)) = ji70:=(i64_w _).trans hji70
                         by_cases c71:0 ≤ (ji70)
                         ·rw [if_pos c71] at H
                          have c71b0:decide (0 ≤ (ji70)) = true:=decide_eq_true c71
                          clear c71
                          by_cases c72:(ji70) < (x6_2.length:Int)
                          ·rw [if_pos c72] at H
                           have c72b0:decide ((ji70) < (x6_2.length:Int)) = true:=decide_eq_true c72
                           clear c72
                           by_cases c73:x17_5 < ((rd_L2 x6_2 (ji70)).length:Int)
                           ·rw [if_pos c73] at H
                            have c73b0:decide (x17_5 < ((rd_L2 x6_2 (ji70)).length:Int)) = true:=decide_eq_true c73
                            clear c73
                            obtain ⟨y590,hy590⟩:∃ y_:List Int,y_ = (x13_5.set (x14_4:Int).toNat (wrap64 ((rd x13_5 x14_4) + (rd (rd_L2 x6_2 (ji70)) x17_5)))):=⟨_,rfl⟩
                            replace H:(spec_l06First.l4 k5 a1 x5_3 x6_2 x9_2 x10_2 x11_3 x12_3 y590 x14_4 (ji70) t581 (wrap64 (x17_5 + 1)) a0_0 l0_1) = some r:=zy hy590 H
                            have Ny590:=zA hy590
                            clear hy590
                            have H' := zA H
                            clear H
                            have p582:0 ≤ (x17_5:Int):=zd
                            have q582:x17_5 < (x5_3.length:Int):=zd
                            obtain ⟨ad582,e582,hx582_0⟩:=Kd.at_int (kB HO_5.out).2.2 x17_5 p582 q582
                            obtain rfl:ad578 = ad582:=(by injection e582)
                            replace p582:=eq_true p582
                            replace q582:=eq_true q582
                            try go_wp2
                            replace HO_5:=zA (zH HO_5.out)
                            replace HO_6:=zA (Kd.N_drew HO_6.out)
                            replace HO_9:=zA (Kd.N_drew HO_9.out)
                            replace HO_11:=zA (Kd.N_drew HO_11.out)
                            replace HO_13:=zA (zH HO_13.out)
                            replace BK538:=zA (zK BK538.out)
                            replace HB:=zA (zD HB.out)
                            obtain ⟨Ao76,co76,eo76⟩:=kM HO_13.out
                            (first | subst eo76 | (injection eo76 with f1_ f2_ f3_;have f4_:=f1_.symm;have f5_:=f3_.symm;clear f1_ f2_ f3_;subst f4_;subst f5_))
                            have p587:0 ≤ (x14_4:Int):=zd
                            have q587:x14_4 < (x13_5.length:Int):=zd
                            obtain ⟨ad587,e587,hx587_0⟩:=Kd.at_int (kB HO_13.out).2.2 x14_4 p587 q587
                            cases e587
                            replace p587:=eq_true p587
                            replace q587:=eq_true q587
                            obtain ⟨Ao77,co77,eo77⟩:=Kd.N_slice HO_6.out
                            (first | subst eo77 | (injection eo77 with f1_ f2_ f3_;have f4_:=f1_.symm;have f5_:=f3_.symm;clear f1_ f2_ f3_;subst f4_;subst f5_))
                            have p588:0 ≤ ((ji70):Int):=zd
                            have q588:(ji70) < (x6_2.length:Int):=zd
                            obtain ⟨ad588,A588_0,c588_0,e588,hx588_0,hl588_0,hi588_0⟩:=at_L2 (Kd.N_reads' HO_6.out).2.2 (ji70) p588 q588
                            cases e588
                            obtain ⟨ce588,hce588,hMe588,hcc588⟩:=Kd.N_get HO_6.out [] (ji70) p588 (by first | exact q588 | exact zd | (have e_:=(Kd.N_reads' HO_6.out).1;omega))
                            obtain ⟨ua588_0,uc588_0,rfl,ul588_0,ge588_0⟩:=Kd.FK_slice_open hMe588
                            have hv588_0:=hcc588 0 _ rfl
                            rw [Nat.add_zero,show ((Kd.slice 2 (Kd.int .i64))).sz = 1 from rfl,Nat.mul_one] at hv588_0
                            replace hv588_0:=Option.some.inj (hv588_0.symm.trans hx588_0)
                            injection hv588_0 with hva_ hvn_ hvc_
                            rw [hva_] at ge588_0
                            rw [hvc_] at ul588_0
                            have HL588_0:=zA (show Kd.V (Kd.int .i64) 2 _ w.heap.size _ _ (rd_L2 x6_2 (ji70)) from Kd.V_mk ul588_0 ge588_0)
                            clear hva_ hvn_ hvc_ ge588_0 ul588_0 hcc588 hce588
                            have HR588_0:=zA hi588_0
                            have HC588_0:=zA hl588_0
                            clear hi588_0 hl588_0
                            replace p588:=eq_true p588
                            replace q588:=eq_true q588
                            have p589:0 ≤ (x17_5:Int):=zd
                            have q589:x17_5 < ((rd_L2 x6_2 (ji70)).length:Int):=zd
                            obtain ⟨ad589,e589,hx589_0⟩:=Kd.at_int (by repeat (first | (with_reducible exact HR588_0.out) | (with_reducible refine Kd.C_alloc ?_ _) | (with_reducible refine Kd.C_drewN ?_ _) | (with_reducible refine Kd.C_drew ?_) | exact HR588_0.out)) x17_5 p589 q589
                            cases e589
                            replace p589:=eq_true p589
                            replace q589:=eq_true q589
                            have p74:0 ≤ (x14_4:Int):=zd
                            have q74:(x14_4:Int) < ((x13_5.length:Int):Int):=zd
                            obtain ⟨go74,co74,eo74,gb74,gl74,cl74,HG74⟩:=Kd.R_form HO_13.out (by omega)
                            (first | cases eo74 | (injection eo74 with ea_ en_ ec_;(first | subst ea_ | (injection ea_ with ea_;subst ea_));subst ec_;clear en_))
                            have GB74:=zA gb74
                            have GG74:=zA HG74
                            clear gb74 gl74 HG74
                            (first | simp only [add_plain] at hx587_0 | skip)
                            obtain ⟨hx74_0,hf74_0⟩:=Kd.R_celln 0 HO_13.out (x14_4:Int) p74 q74
                            replace p74:=eq_true p74
                            replace q74:=eq_true q74
                            have HP78:=Kd.R_putn HO_13.out (x14_4:Int) (wrap64 ((rd x13_5 x14_4) + (rd (rd_L2 x6_2 (ji70)) x17_5)))
                            rw [← Ny590.out] at HP78
                            have HQ78:=zA HP78
                            clear HP78
                            refine start_ (n:=16) (S:=fun w' => w'.cell? ⟨go74,(x14_4).toNat,none⟩ = some (.int .i64 (rd x13_5 x14_4)) ∧ w'.cell? (ad588.add ((ji70)).toNat) = some (.slice (some ad589) (rd_L2 x6_2 (ji70)).length c588_0) ∧ w'.cell? (ad589.add (x17_5).toNat) = some (.int .i64 (rd (rd_L2 x6_2 (ji70)) x17_5))) (ds:=[15]) #[false,false,false,false,false,false,false,false,false,false,false,false,false,false,false,false] (by kernel_rfl) rfl rfl ⟨hx587_0,hx588_0,hx589_0⟩ (fun hHeld=>?_);refine with_tabW spec_l06First.tab29 spec_l06First.bits29 (fun HT_ HW_=>?_)
                            generalize wr.drew = w75 at HO_5 HO_6 HO_9 HO_11 HO_13 BK538 HB GG74 HL588_0 HQ78 HR588_0 hf74_0 hx587_0 hx588_0 hx589_0 hx74_0 hHeld ⊢
                            refine zp 0 (some 100) #[true,false,false,false,false,false,false,false,false,false,false,false,false,false,false,false] HT_.out ?_
                            refine zp 1 (some 101) #[true,true,false,false,false,false,false,false,false,false,false,false,false,false,false,false] HT_.out ?_
                            refine zp 2 (some 102) #[true,true,true,false,false,false,false,false,false,false,false,false,false,false,false,false] HT_.out ?_
                            refine zp 3 (some 103) #[true,true,true,true,false,false,false,false,false,false,false,false,false,false,false,false] HT_.out ?_
                            refine zp 4 (some 104) #[true,true,true,true,true,false,false,false,false,false,false,false,false,false,false,false] HT_.out ?_
                            refine zp 6 (some 106) #[true,true,true,true,true,false,true,false,false,false,false,false,false,false,false,false] HT_.out ?_
                            refine zp 7 (some 107) #[true,true,true,true,true,false,true,true,false,false,false,false,false,false,false,false] HT_.out ?_
                            refine zp 8 (some 108) #[true,true,true,true,true,false,true,true,true,false,false,false,false,false,false,false] HT_.out ?_
                            refine zp 10 (some 110) #[true,true,true,true,true,false,true,true,true,false,true,false,false,false,false,false] HT_.out ?_
                            refine ze 5 (some 105) #[true,true,true,true,true,true,true,true,true,false,true,false,false,false,false,false] HT_.out HW_.out hHeld ?_
                            refine ze 9 (some 109) #[true,true,true,true,true,true,true,true,true,true,true,false,false,false,false,false] HT_.out HW_.out hHeld ?_
                            refine zp 11 (some 111) #[true,true,true,true,true,true,true,true,true,true,true,true,false,false,false,false] HT_.out ?_
                            refine ze 12 (some 112) #[true,true,true,true,true,true,true,true,true,true,true,true,true,false,false,false] HT_.out HW_.out hHeld ?_
                            refine zp 13 (some 113) #[true,true,true,true,true,true,true,true,true,true,true,true,true,true,false,false] HT_.out ?_
                            refine zp 14 (some 114) #[true,true,true,true,true,true,true,true,true,true,true,true,true,true,true,false] HT_.out ?_
                            refine last_ (i:=15) (N:=none) #[true,true,true,true,true,true,true,true,true,true,true,true,true,true,true,true] rfl rfl (one_of HT_.out (by kernel_rfl)) (by decide) (fun K hK=>?_)
                            refine skip_ (w1:=?_) (by rfl) rfl ?_ ?_
                            rotate_left
                            ·go_simp
                             rfl
                            refine hK.out _ _ ?_
                            clear hK K
                            refine done_ (done_of HT_.out (by kernel_rfl)) ?_
                            try go_wp2
                            subst hji70
                            go_roundg k5
                            case measure=>have:=HK1.out;have:=HK2.out;have:=HK3.out;have:=HK4.out;have:=HK5.out;omega
                            case rel=>exact ⟨(y590),(wrap64 (x17_5 + 1)),zs,H', ⟨by have:=HK1.out;have:=HK2.out;have:=HK3.out;have:=HK4.out;have:=HK5.out;omega⟩,⟨by (with_reducible repeat (first | apply zF | apply zG | apply zH));exact kA (kY (p:=⟨go74,(x14_4:Int).toNat,none⟩) (kA HO_5.out (fun k_ hk=>(⟨hk,fun e_=>hk.2 (by rw [e_];rfl)⟩:_ ∧ k_ ≠ go74))) (fun _ hk=>hk.2) (.int .i64 (wrap64 ((rd x13_5 x14_4) + (rd (rd_L2 x6_2 (wrap64 (x12_3 - t579))) x17_5))))) (fun _ hk=>⟨hk.1.1,hk.1.2⟩)⟩,⟨by (with_reducible repeat (first | apply Kd.N_alloc | apply Kd.N_drewN | apply Kd.N_drew));exact Kd.N_mono (Kd.N_far (p:=⟨go74,(x14_4:Int).toNat,none⟩) (Kd.N_mono HO_6.out (fun k_ hk=>(⟨hk,fun e_=>hk.2.2.2.2.1 (by rw [e_];rfl)⟩:_ ∧ k_ ≠ go74))) (fun _ hk=>hk.2) (.int .i64 (wrap64 ((rd x13_5 x14_4) + (rd (rd_L2 x6_2 (wrap64 (x12_3 - t579))) x17_5))))) (fun _ hk=>⟨hk.1.1,⟨hk.1.2.1,⟨hk.1.2.2.1,⟨hk.1.2.2.2.1,⟨hk.1.2.2.2.2.1,hk.1.2.2.2.2.2⟩⟩⟩⟩⟩)⟩,⟨by (with_reducible repeat (first | apply Kd.N_alloc | apply Kd.N_drewN | apply Kd.N_drew));exact Kd.N_mono (Kd.N_far (p:=⟨go74,(x14_4:Int).toNat,none⟩) (Kd.N_mono HO_9.out (fun k_ hk=>(⟨hk,fun e_=>hk.2.2.2.2.1 (by rw [e_];rfl)⟩:_ ∧ k_ ≠ go74))) (fun _ hk=>hk.2) (.int .i64 (wrap64 ((rd x13_5 x14_4) + (rd (rd_L2 x6_2 (wrap64 (x12_3 - t579))) x17_5))))) (fun _ hk=>⟨hk.1.1,⟨hk.1.2.1,⟨hk.1.2.2.1,⟨hk.1.2.2.2.1,⟨hk.1.2.2.2.2.1,hk.1.2.2.2.2.2⟩⟩⟩⟩⟩)⟩,⟨by (with_reducible repeat (first | apply Kd.N_alloc | apply Kd.N_drewN | apply Kd.N_drew));exact Kd.N_mono (Kd.N_far (p:=⟨go74,(x14_4:Int).toNat,none⟩) (Kd.N_mono HO_11.out (fun k_ hk=>(⟨hk,fun e_=>hk.2.2.2.2.1 (by rw [e_];rfl)⟩:_ ∧ k_ ≠ go74))) (fun _ hk=>hk.2) (.int .i64 (wrap64 ((rd x13_5 x14_4) + (rd (rd_L2 x6_2 (wrap64 (x12_3 - t579))) x17_5))))) (fun _ hk=>⟨hk.1.1,⟨hk.1.2.1,⟨hk.1.2.2.1,⟨hk.1.2.2.2.1,⟨hk.1.2.2.2.2.1,hk.1.2.2.2.2.2⟩⟩⟩⟩⟩)⟩,⟨zP HQ78.out⟩,⟨by (with_reducible repeat (first | refine zJ ?_ _ | refine zK ?_ | refine zI ?_ _));refine blk_far ?_ (by have h_:=Kd.R_ne HO_13.out BK538.out (by decide);intro e_;exact h_ (by rw [e_];rfl)) _;(with_reducible repeat (first | refine zJ ?_ _ | refine zK ?_ | refine zI ?_ _));exact BK538.out⟩,⟨zV HB.out GB74.out GE538.out⟩⟩
                           rw [if_neg c73] at H
                           exact absurd H (by simp)
                          rw [if_neg c72] at H
                          exact absurd H (by simp)
                         rw [if_neg c71] at H
                         exact absurd H (by simp)
                        rw [if_neg c69] at H
                        exact absurd H (by simp)
                       rw [if_neg c68] at H
                       exact absurd H (by simp)
                      rw [if_neg c67] at H
                      obtain ⟨c67b0,c67b1⟩:=zT2 c67
                      have H' := zA H
                      clear H
                      have p582:0 ≤ (x17_5:Int):=zd
                      have q582:x17_5 < (x5_3.length:Int):=zd
                      obtain ⟨ad582,e582,hx582_0⟩:=Kd.at_int (kB HO_5.out).2.2 x17_5 p582 q582
                      obtain rfl:ad578 = ad582:=(by injection e582)
                      replace p582:=eq_true p582
                      replace q582:=eq_true q582
                      go_wp2
                      go_roundg k5
                      case measure=>have:=HK1.out;have:=HK2.out;have:=HK3.out;have:=HK4.out;have:=HK5.out;omega
                      case rel=>exact ⟨(x13_5),(wrap64 (x17_5 + 1)),zs,H', ⟨by have:=HK1.out;have:=HK2.out;have:=HK3.out;have:=HK4.out;have:=HK5.out;omega⟩,⟨zP HO_5.out⟩,⟨zPN HO_6.out⟩,⟨zPN HO_9.out⟩,⟨zPN HO_11.out⟩,⟨zP HO_13.out⟩,⟨zR BK538.out⟩,⟨zT HB.out GE538.out⟩⟩
                     rw [if_neg c54] at H
                     obtain ⟨c54b0,c54b1⟩:=zT2 c54
                     have H' := zA H
                     clear H
                     have p582:0 ≤ (x17_5:Int):=zd
                     have q582:x17_5 < (x5_3.length:Int):=zd
                     obtain ⟨ad582,e582,hx582_0⟩:=Kd.at_int (kB HO_5.out).2.2 x17_5 p582 q582
                     obtain rfl:ad578 = ad582:=(by injection e582)
                     replace p582:=eq_true p582
                     replace q582:=eq_true q582
                     go_wp2
                     go_roundg k5
                     case measure=>have:=HK1.out;have:=HK2.out;have:=HK3.out;have:=HK4.out;have:=HK5.out;omega
                     case rel=>exact ⟨(x13_5),(wrap64 (x17_5 + 1)),zs,H', ⟨by have:=HK1.out;have:=HK2.out;have:=HK3.out;have:=HK4.out;have:=HK5.out;omega⟩,⟨zP HO_5.out⟩,⟨zPN HO_6.out⟩,⟨zPN HO_9.out⟩,⟨zPN HO_11.out⟩,⟨zP HO_13.out⟩,⟨zR BK538.out⟩,⟨zT HB.out GE538.out⟩⟩
                    rw [if_neg c53] at H
                    exact absurd H (by simp)
                   rw [if_neg c52] at H
                   have c52b0:decide (x17_5 < (x5_3.length:Int)) = false:=decide_eq_false c52
                   clear c52
                   have H' := zA H
                   clear H
                   go_wp2
                   go_roundg k5
                   case measure=>have:=HK1.out;have:=HK2.out;have:=HK3.out;have:=HK4.out;have:=HK5.out;omega
                   case rel=>exact ⟨(x13_5),(wrap64 (x14_4 + 1)),zs,H', ⟨by have:=HK1.out;have:=HK2.out;have:=HK3.out;have:=HK4.out;have:=HK5.out;omega⟩,⟨zP HO_5.out⟩,⟨zPN HO_6.out⟩,⟨zPN HO_9.out⟩,⟨zPN HO_11.out⟩,⟨zP HO_13.out⟩,⟨zR BK538.out⟩,⟨zT HB.out GE538.out⟩⟩
                rw [if_neg c46] at H
                exact absurd H (by simp)
               rw [if_neg c45] at H
               have c45b0:decide (x14_4 < (x5_3.length:Int)) = false:=decide_eq_false c45
               clear c45
               by_cases c79:x11_3.length < 5864062014805
               ·rw [if_pos c79] at H
                have LMc79:=zA c79
                clear c79
                obtain ⟨y575,hy575⟩:∃ y_:List (List Int),y_ = (x11_3 ++ [x13_4]):=⟨_,rfl⟩
                replace H:(spec_l06First.l2 k4 a1 x5_3 x6_2 x9_2 x10_2 y575 (wrap64 (x12_3 + 1)) a0_0 l0_1) = some r:=zy hy575 H
                have Ny575:=zA hy575
                clear hy575
                have H' := zA H
                clear H
                obtain ⟨Ao81,co81,eo81⟩:=kM HO_13.out
                subst eo81
                go_wp2_with (first | ((with_reducible refine gate_builtin (b:=.append) (xs:=#[.tmp 115,.tmp 117]) rfl ?_);at_builtin;refine Kd.N_append (Kd.slice 2 (Kd.int .i64)) (w0:=w) w.heap.size rfl (.tmp 115) (.tmp 117) 37 24 (.slice none 0 0) 24 rfl Tryz.underlying37 info24 rfl (by decide) (by omega) u11 x11_3 x13_4 [.slice Ao81 x13_4.length co81] (fun k_=>(w.heap.size ≤ k_) ∧ some k_ ≠ (.slice Ao42 x5_3.length co42:Value).ownBlock ∧ some k_ ≠ (u6:Value).ownBlock ∧ some k_ ≠ (u9:Value).ownBlock ∧ k_ ≠ gb538) (fun k_=>((fun k_=>(w.heap.size ≤ k_) ∧ some k_ ≠ (.slice Ao42 x5_3.length co42:Value).ownBlock ∧ some k_ ≠ (u6:Value).ownBlock ∧ some k_ ≠ (u9:Value).ownBlock ∧ k_ ≠ gb538)) k_ ∧ some k_ ≠ (u11:Value).ownBlock) rfl rfl ?aP (fun _ hk=>hk) ?aF ?aO ?aB ?aS ?aL ?_;(case aP=>exact (Kd.FK_slice_mk (kB (kA (ok' := (fun k_=>((fun k_=>(w.heap.size ≤ k_) ∧ some k_ ≠ (.slice Ao42 x5_3.length co42:Value).ownBlock ∧ some k_ ≠ (u6:Value).ownBlock ∧ some k_ ≠ (u9:Value).ownBlock ∧ k_ ≠ gb538)) k_ ∧ some k_ ≠ (u11:Value).ownBlock)) (kD (Kd.R_apart' (Kd.R_apart' (Kd.R_apart' (HO_13.out) (Kd.N_typed HO_6.out) (by decide)) (Kd.N_typed HO_9.out) (by decide)) (Kd.N_typed HO_11.out) (by decide)) BK538.out (by decide)) (fun k_ hk=>⟨⟨hk.1.1.1.1.1,⟨hk.1.1.1.1.2,⟨hk.1.1.1.2,⟨hk.1.1.2,hk.2⟩⟩⟩⟩,hk.1.2⟩))).2.1 (Kd.R_F (kA (ok' := (fun k_=>((fun k_=>(w.heap.size ≤ k_) ∧ some k_ ≠ (.slice Ao42 x5_3.length co42:Value).ownBlock ∧ some k_ ≠ (u6:Value).ownBlock ∧ some k_ ≠ (u9:Value).ownBlock ∧ k_ ≠ gb538)) k_ ∧ some k_ ≠ (u11:Value).ownBlock)) (kD (Kd.R_apart' (Kd.R_apart' (Kd.R_apart' (HO_13.out) (Kd.N_typed HO_6.out) (by decide)) (Kd.N_typed HO_9.out) (by decide)) (Kd.N_typed HO_11.out) (by decide)) BK538.out (by decide)) (fun k_ hk=>⟨⟨hk.1.1.1.1.1,⟨hk.1.1.1.1.2,⟨hk.1.1.1.2,⟨hk.1.1.2,hk.2⟩⟩⟩⟩,hk.1.2⟩)))));(case aB=>exact (zT HB.out GE538.out));(case aF=>exact (fun k_ hk=>⟨(Nat.le_trans (kP (zT HB.out GE538.out)) hk),jF (kH (zP HO_5.out)) k_ hk,jF (jA (zPN HO_6.out)) k_ hk,jF (jA (zPN HO_9.out)) k_ hk,jE (g:=gb538) (o:=.cells #[.int .i64 a0_0,.slice A0_1 l0_1.length c0_1] 26 (0,0)) (zR BK538.out) k_ hk⟩));(case aO=>exact (by (with_reducible repeat (first | apply Kd.N_alloc | apply Kd.N_drewN | apply Kd.N_drew));exact Kd.N_mono HO_11.out (fun _ hk=>⟨hk.1,⟨hk.2.1,⟨hk.2.2.1,⟨hk.2.2.2.1,hk.2.2.2.2.2⟩⟩⟩⟩)));(case aS=>exact (kP (zT HB.out GE538.out)));(case aL=>have:=LMc79.out;omega);intro v576 w80 ho hb hg hat;rw [← Ny575.out] at ho;replace HO_5:=zA (Kd.R_over' (zP HO_5.out) (Kd.N_typed (zPN HO_11.out)) (by decide) hg);replace HO_6:=zA (Kd.N_afterv (ok:=(fun k_=>(w.heap.size ≤ k_) ∧ some k_ ≠ (.slice Ao42 x5_3.length co42:Value).ownBlock ∧ some k_ ≠ (u9:Value).ownBlock ∧ some k_ ≠ (.slice Ao81 x13_4.length co81:Value).ownBlock ∧ k_ ≠ gb538)) (by (with_reducible repeat (first | apply Kd.N_alloc | apply Kd.N_drewN | apply Kd.N_drew));exact Kd.N_mono HO_6.out (fun _ hk=>⟨⟨hk.1,⟨hk.2.1,⟨hk.2.2.1,⟨hk.2.2.2.2.1,hk.2.2.2.2.2⟩⟩⟩⟩,hk.2.2.2.1⟩)) hg hat);replace HO_9:=zA (Kd.N_afterv (ok:=(fun k_=>(w.heap.size ≤ k_) ∧ some k_ ≠ (.slice Ao42 x5_3.length co42:Value).ownBlock ∧ some k_ ≠ (u6:Value).ownBlock ∧ some k_ ≠ (.slice Ao81 x13_4.length co81:Value).ownBlock ∧ k_ ≠ gb538)) (by (with_reducible repeat (first | apply Kd.N_alloc | apply Kd.N_drewN | apply Kd.N_drew));exact Kd.N_mono HO_9.out (fun _ hk=>⟨⟨hk.1,⟨hk.2.1,⟨hk.2.2.1,⟨hk.2.2.2.2.1,hk.2.2.2.2.2⟩⟩⟩⟩,hk.2.2.2.1⟩)) hg hat);replace BK538:=zA (blk_grown (g:=gb538) (o:=.cells #[.int .i64 a0_0,.slice A0_1 l0_1.length c0_1] 26 (0,0)) (zR BK538.out) hg (Kd.N_ne HO_11.out BK538.out (by decide)));replace HB:=zA (hb);have HO577:=zA (ho);clear HO_11 HO_13;clear ho hb hg hat))
                go_roundg k4
                case measure=>have:=HK1.out;have:=HK2.out;have:=HK3.out;have:=HK4.out;omega
                case rel=>exact ⟨(x5_3),(y575),(wrap64 (x12_3 + 1)),zs,H', ⟨by have:=HK1.out;have:=HK2.out;have:=HK3.out;have:=HK4.out;omega⟩,⟨zPM HO_5.out (fun _ hk=>hk.1)⟩,⟨by (with_reducible repeat (first | apply Kd.N_alloc | apply Kd.N_drewN | apply Kd.N_drew));exact Kd.N_mono HO_6.out (fun _ hk=>⟨hk.1.1,⟨hk.1.2.1,⟨hk.1.2.2.1,⟨hk.2,hk.1.2.2.2.2⟩⟩⟩⟩)⟩,⟨by (with_reducible repeat (first | apply Kd.N_alloc | apply Kd.N_drewN | apply Kd.N_drew));exact Kd.N_mono HO_9.out (fun _ hk=>⟨hk.1.1,⟨hk.1.2.1,⟨hk.1.2.2.1,⟨hk.2,hk.1.2.2.2.2⟩⟩⟩⟩)⟩,⟨zPN HO577.out⟩,⟨zR BK538.out⟩,⟨zT HB.out GE538.out⟩⟩
               rw [if_neg c79] at H
               exact absurd H (by simp)
            rw [if_neg c41] at H
            exact absurd H (by simp)
           rw [if_neg c40] at H
           exact absurd H (by simp)
          rw [if_neg c39] at H
          have c39b0:decide (x12_3 ≤ a1) = false:=decide_eq_false c39
          clear c39
          by_cases c82:0 ≤ a1
          ·rw [if_pos c82] at H
           have c82b0:decide (0 ≤ a1) = true:=decide_eq_true c82
           clear c82
           by_cases c83:a1 < (x11_3.length:Int)
           ·rw [if_pos c83] at H
            have c83b0:decide (a1 < (x11_3.length:Int)) = true:=decide_eq_true c83
            clear c83
            obtain ⟨t566,A84,H⟩:=zb H
            try dsimp only at H
            by_cases c85:x9_2.length < 5864062014805
            ·rw [if_pos c85] at H
             have LMc85:=zA c85
             clear c85
             obtain ⟨y569,hy569⟩:∃ y_:List (List Int),y_ = (x9_2 ++ [t566]):=⟨_,rfl⟩
             replace H:(spec_l06First.l1 k3 a1 x5_3 x11_3 y569 (wrap64 (x10_2 + 1)) a0_0 l0_1) = some r:=zy hy569 H
             have Ny569:=zA hy569
             clear hy569
             have H' := zA H
             clear H
             obtain ⟨Ao86,co86,eo86⟩:=Kd.N_slice HO_11.out
             subst eo86
             have p565:0 ≤ (a1:Int):=zd
             have q565:a1 < (x11_3.length:Int):=zd
             obtain ⟨ad565,A565_0,c565_0,e565,hx565_0,hl565_0,hi565_0⟩:=at_L2 (Kd.N_reads' HO_11.out).2.2 a1 p565 q565
             cases e565
             obtain ⟨ce565,hce565,hMe565,hcc565⟩:=Kd.N_get HO_11.out [] a1 p565 (by first | exact q565 | exact zd | (have e_:=(Kd.N_reads' HO_11.out).1;omega))
             obtain ⟨ua565_0,uc565_0,rfl,ul565_0,ge565_0⟩:=Kd.FK_slice_open hMe565
             have hv565_0:=hcc565 0 _ rfl
             rw [Nat.add_zero,show ((Kd.slice 2 (Kd.int .i64))).sz = 1 from rfl,Nat.mul_one] at hv565_0
             replace hv565_0:=Option.some.inj (hv565_0.symm.trans hx565_0)
             injection hv565_0 with hva_ hvn_ hvc_
             rw [hva_] at ge565_0
             rw [hvc_] at ul565_0
             have HL565_0:=zA (show Kd.V (Kd.int .i64) 2 _ w.heap.size _ _ (rd_L2 x11_3 a1) from Kd.V_mk ul565_0 ge565_0)
             clear hva_ hvn_ hvc_ ge565_0 ul565_0 hcc565 hce565
             have HR565_0:=zA hi565_0
             have HC565_0:=zA hl565_0
             clear hi565_0 hl565_0
             replace p565:=eq_true p565
             replace q565:=eq_true q565
             go_wp2_with (first | (refine zO (some 125) Tryz.func49 #[.slice A565_0 (rd_L2 x11_3 a1).length c565_0] ?_;(with_reducible refine (spec_l01Own.calls _ _ (rd_L2 x11_3 a1) t566 _ ?side1 ?side2 A84.out).mono ?_);(case side1=>repeat (first | exact (by repeat (first | (with_reducible exact HR565_0.out) | (with_reducible refine Kd.C_alloc ?_ _) | (with_reducible refine Kd.C_drewN ?_ _) | (with_reducible refine Kd.C_drew ?_) | exact HR565_0.out)) | (with_reducible refine Kd.C_alloc ?_ _) | (with_reducible refine Kd.C_drewN ?_ _) | (with_reducible refine Kd.C_drew ?_)));(case side2=>exact HC565_0.out);rintro e w87 ⟨v567,rfl,ho0,hb⟩;refine ⟨_,rfl,?_⟩;replace HO_6:=zA (Kd.N_elder' (zPN HO_6.out) (kC ho0) hb);replace HO_9:=zA (Kd.N_elder' (zPN HO_9.out) (kC ho0) hb);replace HO_11:=zA (Kd.N_elder' (zPN HO_11.out) (kC ho0) hb);replace HL565_0:=zA (kK (zPV HL565_0.out) (kC ho0) hb);have HO568:=zA (kI (kF (Kd.R_newM (M:=fun k_=>(w.heap.size ≤ k_)) ho0 (kP (zT HB.out GE538.out)) (fun k_ h_=>h_)) (kH (zP HO_5.out))) (kP (zT HB.out GE538.out)));replace HO_5:=zA (kE (zP HO_5.out) (kC ho0) hb);replace BK538:=zA (zB1 BK538.out hb);replace HR565_0:=zA (kO (by repeat (first | (with_reducible exact HR565_0.out) | (with_reducible refine Kd.C_alloc ?_ _) | (with_reducible refine Kd.C_drewN ?_ _) | (with_reducible refine Kd.C_drew ?_) | exact HR565_0.out)) hb);replace HB:=zA (kQ (zT HB.out GE538.out) hb);(try clear hb);(try clear ho0);obtain ⟨Ao89,co89,eo89⟩:=kM HO568.out;subst eo89) | ((with_reducible refine gate_builtin (b:=.append) (xs:=#[.tmp 120,.tmp 126]) rfl ?_);at_builtin;refine Kd.N_append (Kd.slice 2 (Kd.int .i64)) (w0:=w) w.heap.size rfl (.tmp 120) (.tmp 126) 37 24 (.slice none 0 0) 24 rfl Tryz.underlying37 info24 rfl (by decide) (by omega) u9 x9_2 t566 [.slice Ao89 t566.length co89] (fun k_=>(w.heap.size ≤ k_) ∧ some k_ ≠ (v540:Value).ownBlock ∧ some k_ ≠ (u6:Value).ownBlock ∧ some k_ ≠ (.slice (some ad565) x11_3.length co86:Value).ownBlock ∧ k_ ≠ gb538) (fun k_=>((fun k_=>(w.heap.size ≤ k_) ∧ some k_ ≠ (v540:Value).ownBlock ∧ some k_ ≠ (u6:Value).ownBlock ∧ some k_ ≠ (.slice (some ad565) x11_3.length co86:Value).ownBlock ∧ k_ ≠ gb538)) k_ ∧ some k_ ≠ (u9:Value).ownBlock) rfl rfl ?aP (fun _ hk=>hk) ?aF ?aO ?aB ?aS ?aL ?_;(case aP=>exact (Kd.FK_slice_mk (kB (kA (ok' := (fun k_=>((fun k_=>(w.heap.size ≤ k_) ∧ some k_ ≠ (v540:Value).ownBlock ∧ some k_ ≠ (u6:Value).ownBlock ∧ some k_ ≠ (.slice (some ad565) x11_3.length co86:Value).ownBlock ∧ k_ ≠ gb538)) k_ ∧ some k_ ≠ (u9:Value).ownBlock)) (kD (Kd.R_apart' (Kd.R_apart' (Kd.R_apart' (HO568.out) (Kd.N_typed HO_6.out) (by decide)) (Kd.N_typed HO_11.out) (by decide)) (Kd.N_typed HO_9.out) (by decide)) BK538.out (by decide)) (fun k_ hk=>⟨⟨hk.1.1.1.1.1.1,⟨hk.1.1.1.1.2,⟨hk.1.1.1.2,⟨hk.1.1.2,hk.2⟩⟩⟩⟩,hk.1.2⟩))).2.1 (Kd.R_F (kA (ok' := (fun k_=>((fun k_=>(w.heap.size ≤ k_) ∧ some k_ ≠ (v540:Value).ownBlock ∧ some k_ ≠ (u6:Value).ownBlock ∧ some k_ ≠ (.slice (some ad565) x11_3.length co86:Value).ownBlock ∧ k_ ≠ gb538)) k_ ∧ some k_ ≠ (u9:Value).ownBlock)) (kD (Kd.R_apart' (Kd.R_apart' (Kd.R_apart' (HO568.out) (Kd.N_typed HO_6.out) (by decide)) (Kd.N_typed HO_11.out) (by decide)) (Kd.N_typed HO_9.out) (by decide)) BK538.out (by decide)) (fun k_ hk=>⟨⟨hk.1.1.1.1.1.1,⟨hk.1.1.1.1.2,⟨hk.1.1.1.2,⟨hk.1.1.2,hk.2⟩⟩⟩⟩,hk.1.2⟩)))));(case aB=>exact (zT HB.out GE538.out));(case aF=>exact (fun k_ hk=>⟨(Nat.le_trans (kP (zT HB.out GE538.out)) hk),jF (kH (zP HO_5.out)) k_ hk,jF (jA (zPN HO_6.out)) k_ hk,jF (jA (zPN HO_11.out)) k_ hk,jE (g:=gb538) (o:=.cells #[.int .i64 a0_0,.slice A0_1 l0_1.length c0_1] 26 (0,0)) (zR BK538.out) k_ hk⟩));(case aO=>exact (by (with_reducible repeat (first | apply Kd.N_alloc | apply Kd.N_drewN | apply Kd.N_drew));exact Kd.N_mono HO_9.out (fun _ hk=>⟨hk.1.1,⟨hk.1.2.1,⟨hk.1.2.2.1,⟨hk.1.2.2.2.1,hk.1.2.2.2.2⟩⟩⟩⟩)));(case aS=>exact (kP (zT HB.out GE538.out)));(case aL=>have:=LMc85.out;omega);intro v570 w88 ho hb hg hat;rw [← Ny569.out] at ho;replace HO_5:=zA (Kd.R_over' (zP HO_5.out) (Kd.N_typed (zPN HO_9.out)) (by decide) hg);replace HO_6:=zA (Kd.N_afterv (ok:=(fun k_=>(w.heap.size ≤ k_) ∧ some k_ ≠ (v540:Value).ownBlock ∧ some k_ ≠ (.slice (some ad565) x11_3.length co86:Value).ownBlock ∧ some k_ ≠ (.slice Ao89 t566.length co89:Value).ownBlock ∧ k_ ≠ gb538)) (by (with_reducible repeat (first | apply Kd.N_alloc | apply Kd.N_drewN | apply Kd.N_drew));exact Kd.N_mono HO_6.out (fun _ hk=>⟨⟨hk.1.1,⟨hk.1.2.1,⟨hk.1.2.2.2.1,⟨hk.2,hk.1.2.2.2.2⟩⟩⟩⟩,hk.1.2.2.1⟩)) hg hat);replace HO_11:=zA (Kd.N_afterv (ok:=(fun k_=>(w.heap.size ≤ k_) ∧ some k_ ≠ (v540:Value).ownBlock ∧ some k_ ≠ (u6:Value).ownBlock ∧ some k_ ≠ (.slice Ao89 t566.length co89:Value).ownBlock ∧ k_ ≠ gb538)) (by (with_reducible repeat (first | apply Kd.N_alloc | apply Kd.N_drewN | apply Kd.N_drew));exact Kd.N_mono HO_11.out (fun _ hk=>⟨⟨hk.1.1,⟨hk.1.2.1,⟨hk.1.2.2.1,⟨hk.2,hk.1.2.2.2.2⟩⟩⟩⟩,hk.1.2.2.2.1⟩)) hg hat);replace BK538:=zA (blk_grown (g:=gb538) (o:=.cells #[.int .i64 a0_0,.slice A0_1 l0_1.length c0_1] 26 (0,0)) (zR BK538.out) hg (Kd.N_ne HO_9.out BK538.out (by decide)));replace HL565_0:=zA (Kd.V_afterv (ok:=(fun k_=>(w.heap.size ≤ k_) ∧ some k_ ≠ (v540:Value).ownBlock ∧ some k_ ≠ (u6:Value).ownBlock ∧ some k_ ≠ (.slice (some ad565) x11_3.length co86:Value).ownBlock ∧ some k_ ≠ (.slice Ao89 t566.length co89:Value).ownBlock ∧ k_ ≠ gb538)) (by (with_reducible repeat (first | apply Kd.V_alloc | apply Kd.V_drewN | apply Kd.V_drew));exact kN HL565_0.out (fun _ hk=>⟨⟨hk.1.1.1,⟨hk.1.1.2.1,⟨hk.1.1.2.2.1,⟨hk.1.2,⟨hk.2,hk.1.1.2.2.2.2⟩⟩⟩⟩⟩,hk.1.1.2.2.2.1⟩)) hg hat);replace HB:=zA (hb);have HO571:=zA (ho);clear HO_9 HO568;clear ho hb hg hat))
             go_roundg k3
             case measure=>have:=HK1.out;have:=HK2.out;have:=HK3.out;omega
             case rel=>exact ⟨(x5_3),(x11_3),(y569),(wrap64 (x10_2 + 1)),zs,H', ⟨by have:=HK1.out;have:=HK2.out;have:=HK3.out;omega⟩,⟨zPM HO_5.out (fun _ hk=>hk.1)⟩,⟨by (with_reducible repeat (first | apply Kd.N_alloc | apply Kd.N_drewN | apply Kd.N_drew));exact Kd.N_mono HO_11.out (fun _ hk=>⟨hk.1.1,⟨hk.1.2.1,⟨hk.2,hk.1.2.2.2.2⟩⟩⟩)⟩,⟨by (with_reducible repeat (first | apply Kd.N_alloc | apply Kd.N_drewN | apply Kd.N_drew));exact Kd.N_mono HO571.out (fun _ hk=>⟨hk.1,⟨hk.2.1,⟨hk.2.2.2.1,hk.2.2.2.2⟩⟩⟩)⟩,⟨zR BK538.out⟩,⟨zT HB.out GE538.out⟩⟩
            rw [if_neg c85] at H
            exact absurd H (by simp)
           rw [if_neg c83] at H
           exact absurd H (by simp)
          rw [if_neg c82] at H
          exact absurd H (by simp)
       rw [if_neg c36] at H
       have c36b0:decide (x10_2 ≤ a1) = false:=decide_eq_false c36
       clear c36
       obtain rfl:=Option.some.inj H
       go_wp2
       go_ret
       exact ⟨_,zr,by (with_reducible repeat (first | apply Kd.N_alloc | apply Kd.N_drewN | apply Kd.N_drew));exact Kd.N_mono HO_9.out (fun _ hk=>hk.1),zT HB.out GE538.out⟩
    rw [if_neg c29] at H
    exact absurd H (by simp)
   rw [if_neg c28] at H
   exact absurd H (by simp)
mutual
def spec_CountByHeight.l0:Nat → List (List Int) → List Int → Int → Option (List Int × Int)
 | 0,_,_,_=>none
 | k + 1,x8,x9,x10=>if x10 < (x8.length:Int) then (spec_CountByHeight.l1 k x8 x9 x10 0 0) else (some (x9,0))
def spec_CountByHeight.l1:Nat → List (List Int) → List Int → Int → Int → Int → Option (List Int × Int)
 | 0,_,_,_,_,_=>none
 | k + 1,x8,x9,x10,x11,x12=>if 0 ≤ x10 then (if x10 < (x8.length:Int) then (if x12 < ((rd_L2 x8 x10).length:Int) then (if 0 ≤ x12 then (spec_CountByHeight.l1 k x8 x9 x10 (wrap64 (x11 + (rd (rd_L2 x8 x10) x12))) (wrap64 (x12 + 1))) else (none)) else (if x9.length < 17592186044416 then (spec_CountByHeight.l0 k x8 (x9 ++ [x11]) (wrap64 (x10 + 1))) else (none))) else (none)) else (none)
end
def spec_CountByHeight.f (k:Nat) (a0_0:Int) (l0_1:List Int) (a1:Int):Option (List Int × Int):=(spec_CountTraces.f k a0_0 l0_1 a1).bind fun bt592=>(if bt592.2 = 0 then ((spec_l06First.f k a0_0 l0_1 a1).bind fun t594=>(spec_CountByHeight.l0 k t594 (([]:List Int)) 0)) else (some (([]:List Int),bt592.2)))
set_option maxHeartbeats 8000000 in
set_option maxRecDepth 100000 in
theorem spec_CountByHeight.calls (k : Nat) (a0_0 : Int) (A0_1 : Option Addr) (c0_1 : Nat) (l0_1 : List Int) (a1 : Int) (r1 : List Int) (r2 : Int) (w : World) (hr0_1 : Kd.C (Kd.int .i64) w A0_1 l0_1.length l0_1) (hc0_1 : l0_1.length ≤ c0_1) (h : spec_CountByHeight.f k a0_0 l0_1 a1 = some (r1, r2)) :
  Calls Tryz.prog 7 #[.agg #[.int .i64 a0_0,.slice A0_1 l0_1.length c0_1],.int .i64 a1] w fun e w' => ∃ v0_:Value,e = .returned (.tuple #[v0_,.int .i64 r2]) ∧ Kd.R (Kd.int .i64) 2 w' w.heap.size (fun _=>True) v0_ r1 ∧ Below w.heap.size w w' := by
 have hu26:=Tryz.underlying26
 have HR0_1:=zA hr0_1
 have HC0_1:=zA hc0_1
 clear hr0_1 hc0_1
 have HB:=zA (kW w.heap.size w)
 have H:=h
 unfold spec_CountByHeight.f at H
 clear h
 obtain ⟨⟨t592,t593⟩,A3,H⟩:=zb H
 try dsimp only at H
 by_cases c4:t593 = 0
 ·rw [if_pos c4] at H
  obtain ⟨c4b0,c4b1⟩:=zT1 c4
  clear c4
  obtain ⟨t594,A5,H⟩:=zb H
  try dsimp only at H
  obtain ⟨y597,hy597⟩:∃ y_:List Int,y_ = (([]:List Int)):=⟨_,rfl⟩
  replace H:(spec_CountByHeight.l0 k t594 y597 0) = some (r1,r2):=zy hy597 H
  have Ny597:=zA hy597
  clear hy597
  have H' := zA H
  clear H
  go_enter Tryz.func7,Tryz.ntmps7
  go_wp2_with (first | (refine zBE 2 #[.int .i64 a0_0,.slice A0_1 l0_1.length c0_1] 26 ?_;intro gb591 hg w6 hbox hb;have BK591:=zA (hbox);have GW591:=zA (zBH hg HB.out);have GE591:=zA (zBH hg HB.out);replace HB:=zA (kQ (zQ HB.out) hb);clear hb hbox hg;obtain ⟨hcz7_0,hcz7_1,hfz7_0,hfz7_1⟩:=zB3 BK591.out) | (refine zO (some 16) Tryz.func21 #[.agg #[.int .i64 a0_0,.slice A0_1 l0_1.length c0_1],.int .i64 a1] ?_;(with_reducible refine (spec_CountTraces.calls k a0_0 _ _ l0_1 a1 t592 t593 _ ?side1 ?side2 A3.out).mono ?_);(case side1=>exact zS (kO HR0_1.out HB.out));(case side2=>exact HC0_1.out);rintro e w8 ⟨rfl,hb⟩;refine ⟨_,rfl,?_⟩;replace BK591:=zA (zB1 BK591.out hb);replace HB:=zA (kQ (zT HB.out GE591.out) hb);(try clear hb);obtain ⟨hcz9_0,hcz9_1,hfz9_0,hfz9_1⟩:=zB3 BK591.out) | (refine zO (some 24) Tryz.func22 #[.agg #[.int .i64 a0_0,.slice A0_1 l0_1.length c0_1],.int .i64 a1] ?_;(with_reducible refine (spec_l06First.calls k a0_0 _ _ l0_1 a1 t594 _ ?side1 ?side2 A5.out).mono ?_);(case side1=>exact zS (kO HR0_1.out HB.out));(case side2=>exact HC0_1.out);rintro e w10 ⟨v595,rfl,ho0,hb⟩;refine ⟨_,rfl,?_⟩;have HO596:=zA (jN (Kd.N_mono (ok' := fun k_=>k_ ≠ gb591) ho0 (fun k_ hk_=>(jE (g:=gb591) (o:=.cells #[.int .i64 a0_0,.slice A0_1 l0_1.length c0_1] 26 (0,0)) (zR BK591.out) k_ hk_))) (kP (zT HB.out GE591.out)));replace BK591:=zA (zB1 BK591.out hb);replace HB:=zA (kQ (zT HB.out GE591.out) hb);(try clear hb);(try clear ho0)) | ((with_reducible refine kS (N:=25) rfl ?_);refine Kd.R_lit (Kd.int .i64) _ 2 ?hg (N:=25) ?hd (xs:=([]:List Int)) (inner:=[]) (ok:=fun _=>True) (okp:=fun _=>True) ?hr ?hp (fun _ hk=>hk) trivial (kW _ _) (Nat.le_refl _) (by simp) ?_;(case hd=>rfl);(case hg=>rfl);(case hr=>first | (go_simp;done) | (go_simp;rfl));(case hp=>exact (Reps.none _ _));intro v598 w11 ho12 hb hg_ hnew_;clear hg_ hnew_;(first | rw [← Ny597.out] at ho12 | (simp only [Int.reduceToNat] at ho12;rw [← Ny597.out] at ho12));replace HO596:=zA (Kd.N_elder' (zPN HO596.out) (kC ho12) hb);have HO599:=zA (kI ho12 (kP (zT HB.out GE591.out)));replace BK591:=zA (zB1 BK591.out hb);replace HB:=zA (kQ (zT HB.out GE591.out) hb);clear hb ho12))
  go_loopg [9,10] k (fun kq v9 v10 w' => ∃ (x9_1:List Int) (x10_1:Int),v10 = .int .i64 x10_1 ∧ Aside0 (spec_CountByHeight.l0 kq t594 x9_1 x10_1 = some (r1,r2)) ∧ Aside0 (kq ≤ k) ∧ Aside0 (Kd.N (Kd.slice 2 (Kd.int .i64)) 24 w' w.heap.size (fun k_=>some k_ ≠ (v9:Value).ownBlock ∧ k_ ≠ gb591) v595 t594) ∧ Aside0 (Kd.R (Kd.int .i64) 2 w' w.heap.size (fun _=>True) v9 x9_1) ∧ Aside0 (w'.heap[gb591]? = some (.cells #[.int .i64 a0_0,(.slice A0_1 l0_1.length c0_1)] 26 (0,0))) ∧ Aside0 (Below w.heap.size w w'))
  case atStart=>exact ⟨(y597),(0),zs,H', ⟨Nat.le_refl _⟩,⟨by (with_reducible repeat (first | apply Kd.N_alloc | apply Kd.N_drewN | apply Kd.N_drew));exact Kd.N_mono HO596.out (fun _ hk=>⟨hk.2,hk.1⟩)⟩,⟨zP HO599.out⟩,⟨zR BK591.out⟩,⟨zT HB.out GE591.out⟩⟩
  case round =>
   clear H'
   try clear c2
   try clear c4
   try clear c7
   try clear hcz7_0
   try clear hcz7_1
   try clear hcz9_0
   try clear hcz9_1
   try clear hfz7_0
   try clear hfz7_1
   try clear hfz9_0
   try clear hfz9_1
   obtain ⟨x9_1,x10_1,rfl,HA,HK1,HO_8,HO_9,BK591,HB⟩:=hrel
   cases gk with
   | zero=>exact absurd HA.out (by simp [spec_CountByHeight.l0])
   | succ k1 =>
    have H:=HA.out
    clear HA
    simp only [spec_CountByHeight.l0] at H
    by_cases c13:x10_1 < (t594.length:Int)
    ·rw [if_pos c13] at H
     have c13b0:decide (x10_1 < (t594.length:Int)) = true:=decide_eq_true c13
     clear c13
     have H' := zA H
     clear H
     obtain ⟨Ao14,co14,eo14⟩:=Kd.N_slice HO_8.out
     subst eo14
     go_wp2
     go_loopg [11,12] k1 (fun kq v11 v12 w' => ∃ (x11_2:Int) (x12_2:Int),v11 = .int .i64 x11_2 ∧ v12 = .int .i64 x12_2 ∧ Aside0 (spec_CountByHeight.l1 kq t594 x9_1 x10_1 x11_2 x12_2 = some (r1,r2)) ∧ Aside0 (kq ≤ k1) ∧ Aside0 (Kd.N (Kd.slice 2 (Kd.int .i64)) 24 w' w.heap.size (fun k_=>some k_ ≠ (u9:Value).ownBlock ∧ k_ ≠ gb591) (.slice Ao14 t594.length co14) t594) ∧ Aside0 (Kd.R (Kd.int .i64) 2 w' w.heap.size (fun _=>True) u9 x9_1) ∧ Aside0 (w'.heap[gb591]? = some (.cells #[.int .i64 a0_0,(.slice A0_1 l0_1.length c0_1)] 26 (0,0))) ∧ Aside0 (Below w.heap.size w w'))
     case atStart=>exact ⟨(0),(0),zs,zs,H', ⟨Nat.le_refl _⟩,⟨zPN HO_8.out⟩,⟨zP HO_9.out⟩,⟨zR BK591.out⟩,⟨zT HB.out GE591.out⟩⟩
     case round =>
      clear H'
      try clear c1
      try clear c2
      try clear c4
      try clear c7
      try clear c13
      try clear hcz7_0
      try clear hcz7_1
      try clear hcz9_0
      try clear hcz9_1
      try clear hfz7_0
      try clear hfz7_1
      try clear hfz9_0
      try clear hfz9_1
      obtain ⟨x11_2,x12_2,rfl,rfl,HA,HK2,HO_8,HO_9,BK591,HB⟩:=hrel
      cases gk with
      | zero=>exact absurd HA.out (by simp [spec_CountByHeight.l1])
      | succ k2 =>
       have H:=HA.out
       clear HA
       simp only [spec_CountByHeight.l1] at H
       by_cases c15:0 ≤ x10_1
       ·rw [if_pos c15] at H
        have c15b0:decide (0 ≤ x10_1) = true:=decide_eq_true c15
        clear c15
        by_cases c16:x10_1 < (t594.length:Int)
        ·rw [if_pos c16] at H
         have c16b0:decide (x10_1 < (t594.length:Int)) = true:=decide_eq_true c16
         clear c16
         by_cases c17:x12_2 < ((rd_L2 t594 x10_1).length:Int)
         ·rw [if_pos c17] at H
          have c17b0:decide (x12_2 < ((rd_L2 t594 x10_1).length:Int)) = true:=decide_eq_true c17
          clear c17
          by_cases c18:0 ≤ x12_2
          ·rw [if_pos c18] at H
           have c18b0:decide (0 ≤ x12_2) = true:=decide_eq_true c18
           clear c18
           have H' := zA H
           clear H
           have p600:0 ≤ (x10_1:Int):=zd
           have q600:x10_1 < (t594.length:Int):=zd
           obtain ⟨ad600,A600_0,c600_0,e600,hx600_0,hl600_0,hi600_0⟩:=at_L2 (Kd.N_reads' HO_8.out).2.2 x10_1 p600 q600
           cases e600
           obtain ⟨ce600,hce600,hMe600,hcc600⟩:=Kd.N_get HO_8.out [] x10_1 p600 (by first | exact q600 | exact zd | (have e_:=(Kd.N_reads' HO_8.out).1;omega))
           obtain ⟨ua600_0,uc600_0,rfl,ul600_0,ge600_0⟩:=Kd.FK_slice_open hMe600
           have hv600_0:=hcc600 0 _ rfl
           rw [Nat.add_zero,show ((Kd.slice 2 (Kd.int .i64))).sz = 1 from rfl,Nat.mul_one] at hv600_0
           replace hv600_0:=Option.some.inj (hv600_0.symm.trans hx600_0)
           injection hv600_0 with hva_ hvn_ hvc_
           rw [hva_] at ge600_0
           rw [hvc_] at ul600_0
           have HL600_0:=zA (show Kd.V (Kd.int .i64) 2 _ w.heap.size _ _ (rd_L2 t594 x10_1) from Kd.V_mk ul600_0 ge600_0)
           clear hva_ hvn_ hvc_ ge600_0 ul600_0 hcc600 hce600
           have HR600_0:=zA hi600_0
           have HC600_0:=zA hl600_0
           clear hi600_0 hl600_0
           replace p600:=eq_true p600
           replace q600:=eq_true q600
           have p601:0 ≤ (x10_1:Int):=zd
           have q601:x10_1 < (t594.length:Int):=zd
           obtain ⟨ad601,A601_0,c601_0,e601,hx601_0,hl601_0,hi601_0⟩:=at_L2 (Kd.N_reads' HO_8.out).2.2 x10_1 p601 q601
           obtain rfl:ad600 = ad601:=(by injection e601)
           obtain ⟨ce601,hce601,hMe601,hcc601⟩:=Kd.N_get HO_8.out [] x10_1 p601 (by first | exact q601 | exact zd | (have e_:=(Kd.N_reads' HO_8.out).1;omega))
           obtain ⟨ua601_0,uc601_0,rfl,ul601_0,ge601_0⟩:=Kd.FK_slice_open hMe601
           have hv601_0:=hcc601 0 _ rfl
           rw [Nat.add_zero,show ((Kd.slice 2 (Kd.int .i64))).sz = 1 from rfl,Nat.mul_one] at hv601_0
           replace hv601_0:=Option.some.inj (hv601_0.symm.trans hx601_0)
           injection hv601_0 with hva_ hvn_ hvc_
           rw [hva_] at ge601_0
           rw [hvc_] at ul601_0
           have HL601_0:=zA (show Kd.V (Kd.int .i64) 2 _ w.heap.size _ _ (rd_L2 t594 x10_1) from Kd.V_mk ul601_0 ge601_0)
           clear hva_ hvn_ hvc_ ge601_0 ul601_0 hcc601 hce601
           have HR601_0:=zA hi601_0
           have HC601_0:=zA hl601_0
           clear hi601_0 hl601_0
           replace p601:=eq_true p601
           replace q601:=eq_true q601
           have ea_:=Option.some.inj (hx600_0.symm.trans hx601_0)
           injection ea_ with ea_ en_ ec_
           subst ea_
           subst ec_
           clear en_
           have p602:0 ≤ (x12_2:Int):=zd
           have q602:x12_2 < ((rd_L2 t594 x10_1).length:Int):=zd
           obtain ⟨ad602,e602,hx602_0⟩:=Kd.at_int (by repeat (first | (with_reducible exact HR601_0.out) | (with_reducible refine Kd.C_alloc ?_ _) | (with_reducible refine Kd.C_drewN ?_ _) | (with_reducible refine Kd.C_drew ?_) | exact HR601_0.out)) x12_2 p602 q602
           cases e602
           replace p602:=eq_true p602
           replace q602:=eq_true q602
           go_wp2
           go_roundg k2
           case measure=>have:=HK1.out;have:=HK2.out;omega
           case rel=>exact ⟨(wrap64 (x11_2 + (rd (rd_L2 t594 x10_1) x12_2))),(wrap64 (x12_2 + 1)),zs,zs,H', ⟨by have:=HK1.out;have:=HK2.out;omega⟩,⟨zPN HO_8.out⟩,⟨zP HO_9.out⟩,⟨zR BK591.out⟩,⟨zT HB.out GE591.out⟩⟩
          rw [if_neg c18] at H
          exact absurd H (by simp)
         rw [if_neg c17] at H
         have c17b0:decide (x12_2 < ((rd_L2 t594 x10_1).length:Int)) = false:=decide_eq_false c17
         clear c17
         by_cases c19:x9_1.length < 17592186044416
         ·rw [if_pos c19] at H
          have LMc19:=zA c19
          clear c19
          obtain ⟨y603,hy603⟩:∃ y_:List Int,y_ = (x9_1 ++ [x11_2]):=⟨_,rfl⟩
          replace H:(spec_CountByHeight.l0 k2 t594 y603 (wrap64 (x10_1 + 1))) = some (r1,r2):=zy hy603 H
          have Ny603:=zA hy603
          clear hy603
          have H' := zA H
          clear H
          have p600:0 ≤ (x10_1:Int):=zd
          have q600:x10_1 < (t594.length:Int):=zd
          obtain ⟨ad600,A600_0,c600_0,e600,hx600_0,hl600_0,hi600_0⟩:=at_L2 (Kd.N_reads' HO_8.out).2.2 x10_1 p600 q600
          cases e600
          obtain ⟨ce600,hce600,hMe600,hcc600⟩:=Kd.N_get HO_8.out [] x10_1 p600 (by first | exact q600 | exact zd | (have e_:=(Kd.N_reads' HO_8.out).1;omega))
          obtain ⟨ua600_0,uc600_0,rfl,ul600_0,ge600_0⟩:=Kd.FK_slice_open hMe600
          have hv600_0:=hcc600 0 _ rfl
          rw [Nat.add_zero,show ((Kd.slice 2 (Kd.int .i64))).sz = 1 from rfl,Nat.mul_one] at hv600_0
          replace hv600_0:=Option.some.inj (hv600_0.symm.trans hx600_0)
          injection hv600_0 with hva_ hvn_ hvc_
          rw [hva_] at ge600_0
          rw [hvc_] at ul600_0
          have HL600_0:=zA (show Kd.V (Kd.int .i64) 2 _ w.heap.size _ _ (rd_L2 t594 x10_1) from Kd.V_mk ul600_0 ge600_0)
          clear hva_ hvn_ hvc_ ge600_0 ul600_0 hcc600 hce600
          have HR600_0:=zA hi600_0
          have HC600_0:=zA hl600_0
          clear hi600_0 hl600_0
          replace p600:=eq_true p600
          replace q600:=eq_true q600
          go_wp2_with (first | ((with_reducible refine gate_builtin (b:=.append) (xs:=#[.tmp 50,.tmp 52]) rfl ?_);at_builtin;refine Kd.R_append (Kd.int .i64) (w0:=w) w.heap.size rfl (.tmp 50) (.tmp 52) 24 2 (.int .i64 0) 8 rfl Tryz.underlying24 info2 rfl (by decide) (by omega) u9 x9_1 x11_2 [.int .i64 x11_2] (fun _=>True) (fun _=>False) rfl rfl ?aP (fun _ hk=>hk.elim) ?aF ?aO ?aB ?aS ?aL ?_;(case aP=>exact rfl);(case aB=>exact (zT HB.out GE591.out));(case aF=>exact (fun _ _=>trivial));(case aO=>exact (zP HO_9.out));(case aS=>exact (kP (zT HB.out GE591.out)));(case aL=>have:=LMc19.out;omega);intro v604 w20 ho hb hg hat;rw [← Ny603.out] at ho;replace HO_8:=zA (Kd.N_afterv (ok:=(fun k_=>k_ ≠ gb591)) (by (with_reducible repeat (first | apply Kd.N_alloc | apply Kd.N_drewN | apply Kd.N_drew));exact Kd.N_mono HO_8.out (fun _ hk=>⟨hk.2,hk.1⟩)) hg hat);replace BK591:=zA (blk_grown (g:=gb591) (o:=.cells #[.int .i64 a0_0,.slice A0_1 l0_1.length c0_1] 26 (0,0)) (zR BK591.out) hg (Kd.R_ne HO_9.out BK591.out (by decide)));replace HL600_0:=zA (Kd.V_afterv (ok:=(fun k_=>some k_ ≠ (.slice (some ad600) t594.length co14:Value).ownBlock ∧ k_ ≠ gb591)) (by (with_reducible repeat (first | apply Kd.V_alloc | apply Kd.V_drewN | apply Kd.V_drew));exact kN HL600_0.out (fun _ hk=>⟨⟨hk.2,hk.1.2⟩,hk.1.1⟩)) hg hat);replace HB:=zA (hb);have HO605:=zA (ho);clear HO_9;clear ho hb hg hat))
          go_roundg k2
          case measure=>have:=HK1.out;have:=HK2.out;omega
          case rel=>exact ⟨(y603),(wrap64 (x10_1 + 1)),zs,H', ⟨by have:=HK1.out;have:=HK2.out;omega⟩,⟨by (with_reducible repeat (first | apply Kd.N_alloc | apply Kd.N_drewN | apply Kd.N_drew));exact Kd.N_mono HO_8.out (fun _ hk=>⟨hk.2,hk.1⟩)⟩,⟨zP HO605.out⟩,⟨zR BK591.out⟩,⟨zT HB.out GE591.out⟩⟩
         rw [if_neg c19] at H
         exact absurd H (by simp)
        rw [if_neg c16] at H
        exact absurd H (by simp)
       rw [if_neg c15] at H
       exact absurd H (by simp)
    rw [if_neg c13] at H
    have c13b0:decide (x10_1 < (t594.length:Int)) = false:=decide_eq_false c13
    clear c13
    simp only [Option.some.injEq,Prod.mk.injEq] at H
    obtain ⟨rfl,rfl⟩:=H
    obtain ⟨Ao21,co21,eo21⟩:=Kd.N_slice HO_8.out
    subst eo21
    go_wp2
    go_ret2
    exact ⟨_,zr,zP HO_9.out,zT HB.out GE591.out⟩
 rw [if_neg c4] at H
 obtain ⟨c4b0,c4b1⟩:=zT2 c4
 simp only [Option.some.injEq,Prod.mk.injEq] at H
 obtain ⟨rfl,rfl⟩:=H
 go_enter Tryz.func7,Tryz.ntmps7
 go_wp2_with (first | (refine zBE 2 #[.int .i64 a0_0,.slice A0_1 l0_1.length c0_1] 26 ?_;intro gb591 hg w22 hbox hb;have BK591:=zA (hbox);have GW591:=zA (zBH hg HB.out);have GE591:=zA (zBH hg HB.out);replace HB:=zA (kQ (zQ HB.out) hb);clear hb hbox hg;obtain ⟨hcz23_0,hcz23_1,hfz23_0,hfz23_1⟩:=zB3 BK591.out) | (refine zO (some 16) Tryz.func21 #[.agg #[.int .i64 a0_0,.slice A0_1 l0_1.length c0_1],.int .i64 a1] ?_;(with_reducible refine (spec_CountTraces.calls k a0_0 _ _ l0_1 a1 t592 t593 _ ?side1 ?side2 A3.out).mono ?_);(case side1=>exact zS (kO HR0_1.out HB.out));(case side2=>exact HC0_1.out);rintro e w24 ⟨rfl,hb⟩;refine ⟨_,rfl,?_⟩;replace BK591:=zA (zB1 BK591.out hb);replace HB:=zA (kQ (zT HB.out GE591.out) hb);(try clear hb)))
 go_ret2
 exact ⟨_,zr,zn,zT HB.out GE591.out⟩
def laws_likeInts.l0:Nat → List Int → List Int → Int → Option (Bool)
 | 0,_,_,_=>none
 | k + 1,x0,x1,x5=>if x5 < (x0.length:Int) then (if 0 ≤ x5 then (if x5 < (x1.length:Int) then (if (rd x0 x5) = (rd x1 x5) then (laws_likeInts.l0 k x0 x1 (wrap64 (x5 + 1))) else (some false)) else (none)) else (none)) else (some true)
def laws_likeInts.f (k:Nat) (l0:List Int) (l1:List Int):Option (Bool):=if (l0.length:Int) = (l1.length:Int) then (laws_likeInts.l0 k l0 l1 0) else (some false)
set_option maxHeartbeats 8000000 in
set_option maxRecDepth 100000 in
theorem laws_likeInts.calls (k : Nat) (A0 : Option Addr) (c0 : Nat) (l0 : List Int) (A1 : Option Addr) (c1 : Nat) (l1 : List Int) (r : Bool) (w : World) (hr0 : Kd.C (Kd.int .i64) w A0 l0.length l0) (hc0 : l0.length ≤ c0) (hr1 : Kd.C (Kd.int .i64) w A1 l1.length l1) (hc1 : l1.length ≤ c1) (h : laws_likeInts.f k l0 l1 = some r) :
  Calls Tryz.prog 8 #[.slice A0 l0.length c0,.slice A1 l1.length c1] w fun e w' => e = .returned (.bool r) ∧ Drawn0 w w' := by
 have HR0:=zA hr0
 have HC0:=zA hc0
 clear hr0 hc0
 have HR1:=zA hr1
 have HC1:=zA hc1
 clear hr1 hc1
 have H:=h
 unfold laws_likeInts.f at H
 clear h
 by_cases c3:(l0.length:Int) = (l1.length:Int)
 ·rw [if_pos c3] at H
  obtain ⟨c3b0,c3b1⟩:=zT1 c3
  have c3b2:(l0.length == l1.length) = true:=by first | simpa using c3 | (simp at c3 ⊢;omega)
  clear c3
  have H' := zA H
  clear H
  go_enter Tryz.func8,Tryz.ntmps8
  go_wp2
  repeat (go_quiet (fail);try go_wp2)
  go_loopg [5] k (fun kq v5 w' => ∃ (x5_1:Int),v5 = .int .i64 x5_1 ∧ Aside0 (laws_likeInts.l0 kq l0 l1 x5_1 = some r) ∧ Aside0 (kq ≤ k) ∧ Drawn0 w w')
  case atStart=>exact ⟨(0),zs,H', ⟨Nat.le_refl _⟩,by repeat (first | exact Drawn0.refl _ | apply Drawn0.step)⟩
  case round =>
   clear H'
   try clear c1
   try clear c3
   obtain ⟨x5_1,rfl,HA,HK1,⟨m1,rfl⟩⟩:=hrel
   cases gk with
   | zero=>exact absurd HA.out (by simp [laws_likeInts.l0])
   | succ k1 =>
    have H:=HA.out
    clear HA
    simp only [laws_likeInts.l0] at H
    by_cases c4:x5_1 < (l0.length:Int)
    ·rw [if_pos c4] at H
     have c4b0:decide (x5_1 < (l0.length:Int)) = true:=decide_eq_true c4
     clear c4
     by_cases c5:0 ≤ x5_1
     ·rw [if_pos c5] at H
      have c5b0:decide (0 ≤ x5_1) = true:=decide_eq_true c5
      clear c5
      by_cases c6:x5_1 < (l1.length:Int)
      ·rw [if_pos c6] at H
       have c6b0:decide (x5_1 < (l1.length:Int)) = true:=decide_eq_true c6
       clear c6
       by_cases c7:(rd l0 x5_1) = (rd l1 x5_1)
       ·rw [if_pos c7] at H
        obtain ⟨c7b0,c7b1⟩:=zT1 c7
        clear c7
        have H' := zA H
        clear H
        have p606:0 ≤ (x5_1:Int):=zd
        have q606:x5_1 < (l0.length:Int):=zd
        obtain ⟨ad606,e606,hx606_0⟩:=Kd.at_int HR0.out x5_1 p606 q606
        cases e606
        replace p606:=eq_true p606
        replace q606:=eq_true q606
        have p607:0 ≤ (x5_1:Int):=zd
        have q607:x5_1 < (l1.length:Int):=zd
        obtain ⟨ad607,e607,hx607_0⟩:=Kd.at_int HR1.out x5_1 p607 q607
        cases e607
        replace p607:=eq_true p607
        replace q607:=eq_true q607
        go_wp2
        repeat (go_quiet (fail);try go_wp2)
        go_roundg k1
        case measure=>have:=HK1.out;omega
        case rel=>exact ⟨(wrap64 (x5_1 + 1)),zs,H', ⟨by have:=HK1.out;omega⟩,by repeat (first | exact Drawn0.refl _ | apply Drawn0.step)⟩
       rw [if_neg c7] at H
       obtain ⟨c7b0,c7b1⟩:=zT2 c7
       obtain rfl:=Option.some.inj H
       have p606:0 ≤ (x5_1:Int):=zd
       have q606:x5_1 < (l0.length:Int):=zd
       obtain ⟨ad606,e606,hx606_0⟩:=Kd.at_int HR0.out x5_1 p606 q606
       cases e606
       replace p606:=eq_true p606
       replace q606:=eq_true q606
       have p607:0 ≤ (x5_1:Int):=zd
       have q607:x5_1 < (l1.length:Int):=zd
       obtain ⟨ad607,e607,hx607_0⟩:=Kd.at_int HR1.out x5_1 p607 q607
       cases e607
       replace p607:=eq_true p607
       replace q607:=eq_true q607
       go_wp2
       repeat (go_quiet (fail);try go_wp2)
       go_ret
       exact ⟨zs,by repeat (first | exact Drawn0.refl _ | apply Drawn0.step)⟩
      rw [if_neg c6] at H
      exact absurd H (by simp)
     rw [if_neg c5] at H
     exact absurd H (by simp)
    rw [if_neg c4] at H
    have c4b0:decide (x5_1 < (l0.length:Int)) = false:=decide_eq_false c4
    clear c4
    obtain rfl:=Option.some.inj H
    go_wp2
    repeat (go_quiet (fail);try go_wp2)
    go_ret
    exact ⟨zs,by repeat (first | exact Drawn0.refl _ | apply Drawn0.step)⟩
 rw [if_neg c3] at H
 obtain ⟨c3b0,c3b1⟩:=zT2 c3
 have c3b2:(l0.length == l1.length) = false:=by first | simpa using c3 | (simp at c3 ⊢;omega)
 obtain rfl:=Option.some.inj H
 go_enter Tryz.func8,Tryz.ntmps8
 go_wp2
 repeat (go_quiet (fail);try go_wp2)
 go_ret
 exact ⟨zs,by repeat (first | exact Drawn0.refl _ | apply Drawn0.step)⟩
def impl_CountTraces.f (k:Nat) (a0_0:Int) (l0_1:List Int) (a1:Int):Option (Int × Int):=(impl_checkCount.f k a0_0 l0_1 a1).bind fun bt609=>(some (bt609.1,bt609.2))
set_option maxHeartbeats 8000000 in
set_option maxRecDepth 100000 in
theorem impl_CountTraces.calls (k : Nat) (a0_0 : Int) (A0_1 : Option Addr) (c0_1 : Nat) (l0_1 : List Int) (a1 : Int) (r1 : Int) (r2 : Int) (w : World) (hr0_1 : Kd.C (Kd.int .i64) w A0_1 l0_1.length l0_1) (hc0_1 : l0_1.length ≤ c0_1) (hT : TabW w) (h : impl_CountTraces.f k a0_0 l0_1 a1 = some (r1, r2)) :
  Calls Tryz.prog 9 #[.agg #[.int .i64 a0_0,.slice A0_1 l0_1.length c0_1],.int .i64 a1] w fun e w' => e = .returned (.tuple #[.int .i64 r1,.int .i64 r2]) ∧ Below w.heap.size w w' := by
 have hu26:=Tryz.underlying26
 have HT:=zA hT
 clear hT
 have HR0_1:=zA hr0_1
 have HC0_1:=zA hc0_1
 clear hr0_1 hc0_1
 have HB:=zA (kW w.heap.size w)
 have H:=h
 unfold impl_CountTraces.f at H
 clear h
 obtain ⟨⟨t609,t610⟩,A3,H⟩:=zb H
 try dsimp only at H
 simp only [Option.some.injEq,Prod.mk.injEq] at H
 obtain ⟨rfl,rfl⟩:=H
 go_enter Tryz.func9,Tryz.ntmps9
 go_wp2_with (first | (refine zBE 2 #[.int .i64 a0_0,.slice A0_1 l0_1.length c0_1] 26 ?_;intro gb608 hg w4 hbox hb;have BK608:=zA (hbox);have GW608:=zA (zBH hg HB.out);have GE608:=zA (zBH hg HB.out);replace HB:=zA (kQ (zQ HB.out) hb);clear hb hbox hg;obtain ⟨hcz5_0,hcz5_1,hfz5_0,hfz5_1⟩:=zB3 BK608.out) | (refine zO (some 8) Tryz.func16 #[.agg #[.int .i64 a0_0,.slice A0_1 l0_1.length c0_1],.int .i64 a1] ?_;(with_reducible refine (impl_checkCount.calls k a0_0 _ _ l0_1 a1 t609 t610 _ ?side1 ?side2 ?side3 A3.out).mono ?_);(case side1=>exact zS (kO HR0_1.out HB.out));(case side2=>exact HC0_1.out);(case side3=>exact TabW.below HT.out (zT HB.out GE608.out));rintro e w6 ⟨rfl,hb⟩;refine ⟨_,rfl,?_⟩;replace BK608:=zA (zB1 BK608.out hb);replace HB:=zA (kQ (zT HB.out GE608.out) hb);(try clear hb)))
 go_ret2
 exact ⟨zr,zT HB.out GE608.out⟩
end Go.Proofs.YtemdfjdmokbcoaaGreatDoor.PAll
