import Derived.Test.YtjdekliancabgaaDoorPAllx0
import Derived.Test.YtjdekliancabgaaDoorPAllx2
import Derived.Test.YtjdekliancabgaaDoorPAllx3
import Derived.Test.YtjdekliancabgaaDoorPAllx8
namespace Go.Proofs.YtjdekliancabgaaDoor.PAll
open Go.RowKit Go.Proofs.YtjdekliancabgaaDoor.T Go.Proofs.YtjdekliancabgaaDoorW.PrintWords Go.Proofs.YtjdekliancabgaaDoorW.PrintLast Go.Proofs.YtjdekliancabgaaDoorW.PrintMore
attribute [local go_sem] max2_int min2_int max_two min_two max_three min_three max_four min_four   -- for this text's walks alone
set_option linter.unusedVariables false
set_option linter.unusedSimpArgs false
mutual
def impl_cliquePolynomial.l0:Nat → List Int → List Int → Int → Int → Option (List Int)
 | 0,_,_,_,_=>none
 | k + 1,x3,x8,x9,x10=>if x10 < x9 then (if 0 ≤ x10 then (if x10 < (x8.length:Int) then (impl_cliquePolynomial.l1 k x3 (rd x8 x10) x8 x9 x10) else (none)) else (none)) else (some x3)
def impl_cliquePolynomial.l1:Nat → List Int → Int → List Int → Int → Int → Option (List Int)
 | 0,_,_,_,_,_=>none
 | k + 1,x3,x5,x8,x9,x10=>(impl_length_int64.f x3).bind fun t488=>((impl_size.f x5).bind fun t489=>(if t488 ≤ t489 then (if x3.length < 17592186044416 then (impl_cliquePolynomial.l1 k (x3 ++ [0]) x5 x8 x9 x10) else (none)) else ((impl_size.f x5).bind fun t493=>(if 0 ≤ t493 then (if t493 < (x3.length:Int) then ((impl_size.f x5).bind fun t495=>(impl_cliquePolynomial.l0 k (x3.set (t493:Int).toNat (wrap64 ((rd x3 t493) + (wrap64 (1 - (wrap64 (2 * (Int.tmod t495 2)))))))) x8 x9 (wrap64 (x10 + 1)))) else (none)) else (none)))))
end
def impl_cliquePolynomial.f (k:Nat) (a0_0:Int) (l0_1:List Int):Option (List Int):=(impl_stepsOf.f k a0_0 l0_1).bind fun t484=>(impl_cliquePolynomial.l0 k (([]:List Int)) t484 (t484.length:Int) 0)
def impl_cliquePolynomial.T7:Bool × List (List Nat × List Nat):=(true,[([],[]),([],[]),([1],[1]),([0,2],[0,2]),([3],[3]),([],[]),([5,2],[5]),([6],[6]),([7],[7]),([8],[8]),([4,9],[4,9]),([0,2,0,1,2,3,4,5,6,7,8,9,10],[0,2]),([11,10,6,0,1,2,3,4,5,6,7,8,9,10],[10,11])])
def impl_cliquePolynomial.B7:List Nat:=[0,0,2,7,15,0,38,102,230,486,1023,2047,4095]
theorem impl_cliquePolynomial.tab7:rtab .any (opsOf Tryd.f25 7) = impl_cliquePolynomial.T7:=by kernel_rfl
theorem impl_cliquePolynomial.bits7:waitsOk impl_cliquePolynomial.T7.2 impl_cliquePolynomial.B7 = true:=by kernel_rfl
set_option maxHeartbeats 8000000 in
set_option maxRecDepth 100000 in
theorem impl_cliquePolynomial.calls (k : Nat) (a0_0 : Int) (A0_1 : Option Addr) (c0_1 : Nat) (l0_1 : List Int) (r : List Int) (w : World) (hr0_1 : Kd.C (Kd.int .i64) w A0_1 l0_1.length l0_1) (hc0_1 : l0_1.length ≤ c0_1) (hT : TabW w) (h : impl_cliquePolynomial.f k a0_0 l0_1 = some r) :
  Calls Tryd.prog 25 #[.agg #[.int .i64 a0_0,.slice A0_1 l0_1.length c0_1]] w fun e w' => ∃ v0_:Value,e = .returned (v0_) ∧ Kd.R (Kd.int .i64) 2 w' w.heap.size (fun _=>True) v0_ r ∧ Below w.heap.size w w' := by
 have hu26:=Tryd.underlying26
 have HT:=zA hT
 clear hT
 have HR0_1:=zA hr0_1
 have HC0_1:=zA hc0_1
 clear hr0_1 hc0_1
 have HB:=zA (kW w.heap.size w)
 have H:=h
 unfold impl_cliquePolynomial.f at H
 clear h
 obtain ⟨y481,hy481⟩:∃ y_:List Int,y_ = (([]:List Int)):=⟨_,rfl⟩
 replace H:((impl_stepsOf.f k a0_0 l0_1).bind fun t484=>(impl_cliquePolynomial.l0 k y481 t484 (t484.length:Int) 0)) = some r:=zy hy481 H
 have Ny481:=zA hy481
 clear hy481
 obtain ⟨t484,A2,H⟩:=zb H
 try dsimp only at H
 have H' := zA H
 clear H
 go_enter Tryd.func25,Tryd.ntmps25
 go_wp2_with (first | (refine zBE 1 #[.int .i64 a0_0,.slice A0_1 l0_1.length c0_1] 26 ?_;intro gb480 hg w3 hbox hb;have BK480:=zA (hbox);have GW480:=zA (zBH hg HB.out);have GE480:=zA (zBH hg HB.out);replace HB:=zA (kQ (zQ HB.out) hb);clear hb hbox hg) | ((with_reducible refine kS (N:=6) rfl ?_);refine Kd.R_lit (Kd.int .i64) _ 2 ?hg (N:=6) ?hd (xs:=([]:List Int)) (inner:=[]) (ok:=fun _=>True) (okp:=fun _=>True) ?hr ?hp (fun _ hk=>hk) trivial (kW _ _) (Nat.le_refl _) (by simp) ?_;(case hd=>rfl);(case hg=>rfl);(case hr=>first | (go_simp;done) | (go_simp;rfl));(case hp=>exact (Reps.none _ _));intro v482 w4 ho5 hb hg_ hnew_;clear hg_ hnew_;(first | rw [← Ny481.out] at ho5 | (simp only [Int.reduceToNat] at ho5;rw [← Ny481.out] at ho5));have HO483:=zA (kI ho5 (kP (zT HB.out GE480.out)));replace BK480:=zA (zB1 BK480.out hb);replace HB:=zA (kQ (zT HB.out GE480.out) hb);clear hb ho5;obtain ⟨hcz6_0,hcz6_1,hfz6_0,hfz6_1⟩:=zB3 BK480.out) | (refine zO (some 8) Tryd.func53 #[.agg #[.int .i64 a0_0,.slice A0_1 l0_1.length c0_1]] ?_;(with_reducible refine (impl_stepsOf.calls k a0_0 _ _ l0_1 t484 _ ?side1 ?side2 ?side3 A2.out).mono ?_);(case side1=>exact zS (kO HR0_1.out HB.out));(case side2=>exact HC0_1.out);(case side3=>exact TabW.below HT.out (zT HB.out GE480.out));rintro e w7 ⟨v485,rfl,ho0,hb⟩;refine ⟨_,rfl,?_⟩;have HO486:=zA (kI (kF ho0 (kH (zP HO483.out))) (kP (zT HB.out GE480.out)));replace HO483:=zA (kE (zP HO483.out) (kC ho0) hb);replace BK480:=zA (zB1 BK480.out hb);replace HB:=zA (kQ (zT HB.out GE480.out) hb);(try clear hb);(try clear ho0);obtain ⟨Ao8,co8,eo8⟩:=kM HO486.out;subst eo8))
 go_loopg [3,10] k (fun kq v3 v10 w' => ∃ (x3_1:List Int) (x8_1:List Int) (x10_1:Int),v10 = .int .i64 x10_1 ∧ Aside0 (impl_cliquePolynomial.l0 kq x3_1 x8_1 (t484.length:Int) x10_1 = some r) ∧ Aside0 (kq ≤ k) ∧ Aside0 (Kd.R (Kd.int .i64) 2 w' w.heap.size (fun k_=>some k_ ≠ ((.slice Ao8 t484.length co8):Value).ownBlock) v3 x3_1) ∧ Aside0 (Kd.R (Kd.int .i64) 2 w' w.heap.size (fun k_=>some k_ ≠ (v3:Value).ownBlock) (.slice Ao8 t484.length co8) x8_1) ∧ Aside0 (w'.heap[gb480]? = some (.cells #[.int .i64 a0_0,(.slice A0_1 l0_1.length c0_1)] 26 (0,0))) ∧ Aside0 (Below w.heap.size w w'))
 case atStart=>exact ⟨(y481),(t484),(0),zs,H', ⟨Nat.le_refl _⟩,⟨zPM HO483.out (fun _ hk=>hk.2)⟩,⟨zPM HO486.out (fun _ hk=>hk.2)⟩,⟨zR BK480.out⟩,⟨zT HB.out GE480.out⟩⟩
 case round =>
  clear H'
  try clear c2
  try clear c5
  try clear hcz6_0
  try clear hcz6_1
  try clear hfz6_0
  try clear hfz6_1
  obtain ⟨x3_1,x8_1,x10_1,rfl,HA,HK1,HO_3,HO_8,BK480,HB⟩:=hrel
  have hl8_1:=(kB HO_8.out).1
  rw [hl8_1] at HO_8
  (try simp only [hl8_1])
  (try simp only [hl8_1] at BK480)
  (try simp only [hl8_1] at HO_3)
  cases gk with
  | zero=>exact absurd HA.out (by simp [impl_cliquePolynomial.l0])
  | succ k1 =>
   have H:=HA.out
   clear HA
   simp only [impl_cliquePolynomial.l0] at H
   by_cases c9:x10_1 < (t484.length:Int)
   ·rw [if_pos c9] at H
    have c9b0:decide (x10_1 < (t484.length:Int)) = true:=decide_eq_true c9
    (try (have c9b0h0_:=c9b0;rw [hl8_1] at c9b0h0_))
    clear c9
    by_cases c10:0 ≤ x10_1
    ·rw [if_pos c10] at H
     have c10b0:decide (0 ≤ x10_1) = true:=decide_eq_true c10
     clear c10
     by_cases c11:x10_1 < (x8_1.length:Int)
     ·rw [if_pos c11] at H
      have c11b0:decide (x10_1 < (x8_1.length:Int)) = true:=decide_eq_true c11
      (try (have c11b0h0_:=c11b0;rw [hl8_1] at c11b0h0_))
      clear c11
      have H' := zA H
      clear H
      have p487:0 ≤ (x10_1:Int):=zd
      have q487:x10_1 < (x8_1.length:Int):=zd
      obtain ⟨ad487,e487,hx487_0⟩:=Kd.at_int (kB HO_8.out).2.2 x10_1 p487 q487
      cases e487
      replace p487:=eq_true p487
      replace q487:=eq_true q487
      go_wp2
      go_loopg [3] k1 (fun kq v3 w' => ∃ (x3_2:List Int),Aside0 (impl_cliquePolynomial.l1 kq x3_2 (rd x8_1 x10_1) x8_1 (t484.length:Int) x10_1 = some r) ∧ Aside0 (kq ≤ k1) ∧ Aside0 (Kd.R (Kd.int .i64) 2 w' w.heap.size (fun k_=>some k_ ≠ ((.slice (some ad487) x8_1.length co8):Value).ownBlock) v3 x3_2) ∧ Aside0 (Kd.R (Kd.int .i64) 2 w' w.heap.size (fun k_=>some k_ ≠ (v3:Value).ownBlock) (.slice (some ad487) x8_1.length co8) x8_1) ∧ Aside0 (w'.heap[gb480]? = some (.cells #[.int .i64 a0_0,(.slice A0_1 l0_1.length c0_1)] 26 (0,0))) ∧ Aside0 (Below w.heap.size w w'))
      case atStart=>exact ⟨(x3_1),H', ⟨Nat.le_refl _⟩,⟨by (try simp only [hl8_1]);(with_reducible repeat (first | apply zF | apply zG | apply zH));exact HO_3.out⟩,⟨by (try simp only [hl8_1]);(with_reducible repeat (first | apply zF | apply zG | apply zH));exact HO_8.out⟩,⟨by (try simp only [hl8_1]);(with_reducible repeat (first | refine zJ ?_ _ | refine zK ?_ | refine zI ?_ _));exact BK480.out⟩,⟨zT HB.out GE480.out⟩⟩
      case round =>
       clear H'
       try clear c1
       try clear c2
       try clear hx4
       try clear c5
       try clear c9
       try clear c10
       try clear c11
       try clear hcz6_0
       try clear hcz6_1
       try clear hfz6_0
       try clear hfz6_1
       try clear hx487_0
       obtain ⟨x3_2,HA,HK2,HO_3,HO_8,BK480,HB⟩:=hrel
       cases gk with
       | zero=>exact absurd HA.out (by simp [impl_cliquePolynomial.l1])
       | succ k2 =>
        have H:=HA.out
        clear HA
        simp only [impl_cliquePolynomial.l1] at H
        obtain ⟨t488,A12,H⟩:=zb H
        try dsimp only at H
        obtain ⟨t489,A13,H⟩:=zb H
        try dsimp only at H
        by_cases c14:t488 ≤ t489
        ·rw [if_pos c14] at H
         have c14b0:decide (t488 ≤ t489) = true:=decide_eq_true c14
         clear c14
         by_cases c15:x3_2.length < 17592186044416
         ·rw [if_pos c15] at H
          have LMc15:=zA c15
          clear c15
          obtain ⟨y490,hy490⟩:∃ y_:List Int,y_ = (x3_2 ++ [0]):=⟨_,rfl⟩
          replace H:(impl_cliquePolynomial.l1 k2 y490 (rd x8_1 x10_1) x8_1 (t484.length:Int) x10_1) = some r:=zy hy490 H
          have Ny490:=zA hy490
          clear hy490
          have H' := zA H
          clear H
          obtain ⟨Ao16,co16,eo16⟩:=kM HO_3.out
          subst eo16
          go_wp2_with (first | (refine zO (some 15) Tryd.func32 #[.slice Ao16 x3_2.length co16] ?_;(with_reducible refine (impl_length_int64.calls _ _ x3_2 t488 _ ?side1 ?side2 A12.out).mono ?_);(case side1=>exact zS (kB HO_3.out).2.2);(case side2=>exact (kB HO_3.out).2.1);rintro e w' ⟨rfl,⟨nd,rfl⟩⟩;refine ⟨_,rfl,?_⟩) | (refine zO (some 17) Tryd.func54 #[.int .i64 (rd x8_1 x10_1)] ?_;(with_reducible refine (impl_size.calls (rd x8_1 x10_1) t489 _ A13.out).mono ?_);rintro e w' ⟨rfl,⟨nd,rfl⟩⟩;refine ⟨_,rfl,?_⟩) | ((with_reducible refine gate_builtin (b:=.append) (xs:=#[.tmp 19,.tmp 20]) rfl ?_);at_builtin;refine Kd.R_append (Kd.int .i64) (w0:=w) w.heap.size rfl (.tmp 19) (.tmp 20) 24 2 (.int .i64 0) 8 rfl Tryd.underlying24 info2 rfl (by decide) (by omega) (.slice Ao16 x3_2.length co16) x3_2 0 [.int .i64 0] (fun k_=>some k_ ≠ (.slice (some ad487) x8_1.length co8:Value).ownBlock) (fun _=>False) rfl rfl ?aP (fun _ hk=>hk.elim) ?aF ?aO ?aB ?aS ?aL ?_;(case aP=>exact rfl);(case aB=>exact (zT HB.out GE480.out));(case aF=>exact (fun k_ hk=>jF (kH (zP HO_8.out)) k_ hk));(case aO=>exact (zP HO_3.out));(case aS=>exact (kP (zT HB.out GE480.out)));(case aL=>have:=LMc15.out;omega);intro v491 w17 ho hb hg hat;rw [← Ny490.out] at ho;replace HO_8:=zA (Kd.R_after (ok:=(fun _=>True)) (by (with_reducible repeat (first | apply zF | apply zG | apply zH));exact kA HO_8.out (fun _ hk=>⟨trivial,hk⟩)) hg hat);replace BK480:=zA (blk_grown (g:=gb480) (o:=.cells #[.int .i64 a0_0,.slice A0_1 l0_1.length c0_1] 26 (0,0)) (zR BK480.out) hg (Kd.R_ne HO_3.out BK480.out (by decide)));replace HB:=zA (hb);have HO492:=zA (ho);clear HO_3;clear ho hb hg hat))
          go_roundg k2
          case measure=>have:=HK1.out;have:=HK2.out;omega
          case rel=>exact ⟨(y490),H', ⟨by have:=HK1.out;have:=HK2.out;omega⟩,⟨by (try simp only [hl8_1]);(with_reducible repeat (first | apply zF | apply zG | apply zH));exact HO492.out⟩,⟨by (try simp only [hl8_1]);(with_reducible repeat (first | apply zF | apply zG | apply zH));exact kA HO_8.out (fun _ hk=>hk.2)⟩,⟨by (try simp only [hl8_1]);(with_reducible repeat (first | refine zJ ?_ _ | refine zK ?_ | refine zI ?_ _));exact BK480.out⟩,⟨zT HB.out GE480.out⟩⟩
         rw [if_neg c15] at H
         exact absurd H (by simp)
        rw [if_neg c14] at H
        have c14b0:decide (t488 ≤ t489) = false:=decide_eq_false c14
        clear c14
        obtain ⟨t493,A18,H⟩:=zb H
        try dsimp only at H
        by_cases c19:0 ≤ t493
        ·rw [if_pos c19] at H
         have c19b0:decide (0 ≤ t493) = true:=decide_eq_true c19
         clear c19
         by_cases c20:t493 < (x3_2.length:Int)
         ·rw [if_pos c20] at H
          have c20b0:decide (t493 < (x3_2.length:Int)) = true:=decide_eq_true c20
          (try (have c20b0h0_:=c20b0;rw [hl8_1] at c20b0h0_))
          clear c20
          obtain ⟨t495,A21,H⟩:=zb H
          try dsimp only at H
          obtain ⟨y496,hy496⟩:∃ y_:List Int,y_ = (x3_2.set (t493:Int).toNat (wrap64 ((rd x3_2 t493) + (wrap64 (1 - (wrap64 (2 * (Int.tmod t495 2)))))))):=⟨_,rfl⟩
          replace H:(impl_cliquePolynomial.l0 k2 y496 x8_1 (t484.length:Int) (wrap64 (x10_1 + 1))) = some r:=zy hy496 H
          have Ny496:=zA hy496
          clear hy496
          have H' := zA H
          clear H
          obtain ⟨Ao23,co23,eo23⟩:=kM HO_3.out
          subst eo23
          try go_wp2_with (first | (refine zO (some 15) Tryd.func32 #[.slice Ao23 x3_2.length co23] ?_;(with_reducible refine (impl_length_int64.calls _ _ x3_2 t488 _ ?side1 ?side2 A12.out).mono ?_);(case side1=>exact zS (kB HO_3.out).2.2);(case side2=>exact (kB HO_3.out).2.1);rintro e w' ⟨rfl,⟨nd,rfl⟩⟩;refine ⟨_,rfl,?_⟩;(try (rw [drewN_self wr];generalize hq_:World.drewN wr _ = wr;have n0_:Aside0 (Kd.R (Kd.int .i64) 2 wr w.heap.size (fun k_=>some k_ ≠ (.slice (some ad487) x8_1.length co8:Value).ownBlock) (.slice Ao23 x3_2.length co23) x3_2):=⟨by rw [← hq_];exact (zP HO_3.out)⟩;have n1_:Aside0 (Kd.R (Kd.int .i64) 2 wr w.heap.size (fun k_=>some k_ ≠ (.slice Ao23 x3_2.length co23:Value).ownBlock) (.slice (some ad487) x8_1.length co8) x8_1):=⟨by rw [← hq_];exact (zP HO_8.out)⟩;have n2_:Aside0 (wr.heap[gb480]? = some (.cells #[.int .i64 a0_0,.slice A0_1 l0_1.length c0_1] 26 (0,0))):=⟨by rw [← hq_];exact (zR BK480.out)⟩;have n3_:Aside0 (Below w.heap.size w wr):=⟨by rw [← hq_];exact (zT HB.out GE480.out)⟩;clear HO_3 HO_8 BK480 HB hq_;have HO_3:=n0_;have HO_8:=n1_;have BK480:=n2_;have HB:=n3_;clear n0_ n1_ n2_ n3_))) | (refine zO (some 17) Tryd.func54 #[.int .i64 (rd x8_1 x10_1)] ?_;(with_reducible refine (impl_size.calls (rd x8_1 x10_1) t489 _ A13.out).mono ?_);rintro e w' ⟨rfl,⟨nd,rfl⟩⟩;refine ⟨_,rfl,?_⟩;(try (rw [drewN_self wr];generalize hq_:World.drewN wr _ = wr;have n0_:Aside0 (Kd.R (Kd.int .i64) 2 wr w.heap.size (fun k_=>some k_ ≠ (.slice (some ad487) x8_1.length co8:Value).ownBlock) (.slice Ao23 x3_2.length co23) x3_2):=⟨by rw [← hq_];exact (zP HO_3.out)⟩;have n1_:Aside0 (Kd.R (Kd.int .i64) 2 wr w.heap.size (fun k_=>some k_ ≠ (.slice Ao23 x3_2.length co23:Value).ownBlock) (.slice (some ad487) x8_1.length co8) x8_1):=⟨by rw [← hq_];exact (zP HO_8.out)⟩;have n2_:Aside0 (wr.heap[gb480]? = some (.cells #[.int .i64 a0_0,.slice A0_1 l0_1.length c0_1] 26 (0,0))):=⟨by rw [← hq_];exact (zR BK480.out)⟩;have n3_:Aside0 (Below w.heap.size w wr):=⟨by rw [← hq_];exact (zT HB.out GE480.out)⟩;clear HO_3 HO_8 BK480 HB hq_;have HO_3:=n0_;have HO_8:=n1_;have BK480:=n2_;have HB:=n3_;clear n0_ n1_ n2_ n3_))))
          replace HO_3:=zA (zH HO_3.out)
          replace HO_8:=zA (zH HO_8.out)
          replace BK480:=zA (zK BK480.out)
          replace HB:=zA (zD HB.out)
          have p494:0 ≤ (t493:Int):=zd
          have q494:t493 < (x3_2.length:Int):=zd
          obtain ⟨ad494,e494,hx494_0⟩:=Kd.at_int (kB HO_3.out).2.2 t493 p494 q494
          cases e494
          replace p494:=eq_true p494
          replace q494:=eq_true q494
          refine start_ (n:=13) (S:=fun w' => w'.cell? (ad494.add (t493).toNat) = some (.int .i64 (rd x3_2 t493))) (ds:=[12]) #[false,false,false,false,false,false,false,false,false,false,false,false,false] (by kernel_rfl) rfl rfl (hx494_0) (fun hHeld=>?_);refine with_tabW impl_cliquePolynomial.tab7 impl_cliquePolynomial.bits7 (fun HT_ HW_=>?_)
          generalize wr.drew = w24 at HO_3 HO_8 BK480 HB hx494_0 hHeld ⊢
          refine zp 0 (some 22) #[true,false,false,false,false,false,false,false,false,false,false,false,false] HT_.out ?_
          refine zp 1 (some 23) #[true,true,false,false,false,false,false,false,false,false,false,false,false] HT_.out ?_
          refine zp 5 (some 27) #[true,true,false,false,false,true,false,false,false,false,false,false,false] HT_.out ?_
          refine one_ (i:=2) (N:=some 24) #[true,true,true,false,false,true,false,false,false,false,false,false,false] rfl rfl (one_of HT_.out (by kernel_rfl)) (by decide) (fun K hK=>?_)
          refine goes_ Tryd.func54 (by kernel_rfl) rfl #[.int .i64 (rd x8_1 x10_1)] (by rfl) rfl rfl zg ?_
          with_reducible refine (impl_size.calls (rd x8_1 x10_1) t493 _ A18.out).mono ?_
          rintro e w' ⟨rfl,⟨nd,rfl⟩⟩
          refine ⟨_,rfl,?_⟩
          refine hK.out _ _ (hHeld) (fun hHeld=>?_)
          clear hK K
          refine norm_ (a' := ?_) ?_ ?_
          rotate_left
          ·show Act.put _ (some 24) _ = _
           simp only [Act.put,zL,zM,zN,i64_w,i32_w]
           rfl
          refine zp 3 (some 25) #[true,true,true,true,false,true,false,false,false,false,false,false,false] HT_.out ?_
          refine za 4 (some 26) #[true,true,true,true,true,true,false,false,false,false,false,false,false] HT_.out HW_.out hHeld ?_
          refine one_ (i:=6) (N:=some 28) #[true,true,true,true,true,true,true,false,false,false,false,false,false] rfl rfl (one_of HT_.out (by kernel_rfl)) (by decide) (fun K hK=>?_)
          refine goes_ Tryd.func54 (by kernel_rfl) rfl #[.int .i64 (rd x8_1 x10_1)] (by rfl) rfl rfl zg ?_
          with_reducible refine (impl_size.calls (rd x8_1 x10_1) t495 _ A21.out).mono ?_
          rintro e w' ⟨rfl,⟨nd,rfl⟩⟩
          refine ⟨_,rfl,?_⟩
          have p22:0 ≤ (t493:Int):=zd
          have q22:(t493:Int) < ((x3_2.length:Int):Int):=zd
          obtain ⟨go22,co22,eo22,gb22,gl22,cl22,HG22⟩:=Kd.R_form HO_3.out (by omega)
          (first | cases eo22 | (injection eo22 with ea_ en_ ec_;(first | subst ea_ | (injection ea_ with ea_;subst ea_));subst ec_;clear en_))
          have GB22:=zA gb22
          have GG22:=zA HG22
          clear gb22 gl22 HG22
          (first | simp only [add_plain] at hx494_0 | skip)
          obtain ⟨hx22_0,hf22_0⟩:=Kd.R_celln 0 HO_3.out (t493:Int) p22 q22
          replace p22:=eq_true p22
          replace q22:=eq_true q22
          have HP25:=Kd.R_putn HO_3.out (t493:Int) (wrap64 ((rd x3_2 t493) + (wrap64 (1 - (wrap64 (2 * (Int.tmod t495 2)))))))
          rw [← Ny496.out] at HP25
          have HQ25:=zA HP25
          clear HP25
          refine hK.out _ _ (hHeld) (fun hHeld=>?_)
          clear hK K
          refine norm_ (a' := ?_) ?_ ?_
          rotate_left
          ·show Act.put _ (some 28) _ = _
           simp only [Act.put,zL,zM,zN,i64_w,i32_w]
           rfl
          refine zp 7 (some 29) #[true,true,true,true,true,true,true,true,false,false,false,false,false] HT_.out ?_
          refine zp 8 (some 30) #[true,true,true,true,true,true,true,true,true,false,false,false,false] HT_.out ?_
          refine zp 9 (some 31) #[true,true,true,true,true,true,true,true,true,true,false,false,false] HT_.out ?_
          refine zp 10 (some 32) #[true,true,true,true,true,true,true,true,true,true,true,false,false] HT_.out ?_
          refine zp 11 (some 33) #[true,true,true,true,true,true,true,true,true,true,true,true,false] HT_.out ?_
          refine last_ (i:=12) (N:=none) #[true,true,true,true,true,true,true,true,true,true,true,true,true] rfl rfl (one_of HT_.out (by kernel_rfl)) (by decide) (fun K hK=>?_)
          refine skip_ (w1:=?_) (by rfl) rfl ?_ ?_
          rotate_left
          ·go_simp
           rfl
          refine hK.out _ _ ?_
          clear hK K
          refine done_ (done_of HT_.out (by kernel_rfl)) ?_
          try go_wp2
          (try simp only [← hl8_1])
          go_roundg k2
          case measure=>have:=HK1.out;have:=HK2.out;omega
          case rel=>exact ⟨(y496),(x8_1),(wrap64 (x10_1 + 1)),zs,H', ⟨by have:=HK1.out;have:=HK2.out;omega⟩,⟨by (try simp only [hl8_1]);(with_reducible repeat (first | apply zF | apply zG | apply zH));exact HQ25.out⟩,⟨by (try simp only [hl8_1]);(with_reducible repeat (first | apply zF | apply zG | apply zH));exact kA (kY (p:=⟨go22,(t493:Int).toNat,none⟩) (kA HO_8.out (fun k_ hk=>(⟨hk,fun e_=>hk (by rw [e_];rfl)⟩:_ ∧ k_ ≠ go22))) (fun _ hk=>hk.2) (.int .i64 (wrap64 ((rd x3_2 t493) + (wrap64 (1 - (wrap64 (2 * (Int.tmod t495 2))))))))) (fun _ hk=>hk.1)⟩,⟨by (try simp only [hl8_1]);(with_reducible repeat (first | refine zJ ?_ _ | refine zK ?_ | refine zI ?_ _));refine blk_far ?_ (by have h_:=Kd.R_ne HO_3.out BK480.out (by decide);intro e_;exact h_ (by rw [e_];rfl)) _;(with_reducible repeat (first | refine zJ ?_ _ | refine zK ?_ | refine zI ?_ _));exact BK480.out⟩,⟨zV HB.out GB22.out GE480.out⟩⟩
         rw [if_neg c20] at H
         exact absurd H (by simp)
        rw [if_neg c19] at H
        exact absurd H (by simp)
     rw [if_neg c11] at H
     exact absurd H (by simp)
    rw [if_neg c10] at H
    exact absurd H (by simp)
   rw [if_neg c9] at H
   have c9b0:decide (x10_1 < (t484.length:Int)) = false:=decide_eq_false c9
   (try (have c9b0h0_:=c9b0;rw [hl8_1] at c9b0h0_))
   clear c9
   obtain rfl:=Option.some.inj H
   go_wp2
   go_ret
   exact ⟨_,zr,by (with_reducible repeat (first | apply zF | apply zG | apply zH));exact kA HO_3.out (fun _ hk=>trivial),zT HB.out GE480.out⟩
def impl_CliquePolynomial.f (k:Nat) (a0_0:Int) (l0_1:List Int):Option (List Int × Int):=(impl_IsAlphabet.f k a0_0 l0_1).bind fun t498=>(if t498 = true then ((impl_cliquePolynomial.f k a0_0 l0_1).bind fun t499=>(some (t499,0))) else (some (([]:List Int),1)))
set_option maxHeartbeats 8000000 in
set_option maxRecDepth 100000 in
theorem impl_CliquePolynomial.calls (k : Nat) (a0_0 : Int) (A0_1 : Option Addr) (c0_1 : Nat) (l0_1 : List Int) (r1 : List Int) (r2 : Int) (w : World) (hr0_1 : Kd.C (Kd.int .i64) w A0_1 l0_1.length l0_1) (hc0_1 : l0_1.length ≤ c0_1) (hT : TabW w) (h : impl_CliquePolynomial.f k a0_0 l0_1 = some (r1, r2)) :
  Calls Tryd.prog 11 #[.agg #[.int .i64 a0_0,.slice A0_1 l0_1.length c0_1]] w fun e w' => ∃ v0_:Value,e = .returned (.tuple #[v0_,.int .i64 r2]) ∧ Kd.R (Kd.int .i64) 2 w' w.heap.size (fun _=>True) v0_ r1 ∧ Below w.heap.size w w' := by
 have hu26:=Tryd.underlying26
 have HT:=zA hT
 clear hT
 have HR0_1:=zA hr0_1
 have HC0_1:=zA hc0_1
 clear hr0_1 hc0_1
 have HB:=zA (kW w.heap.size w)
 have H:=h
 unfold impl_CliquePolynomial.f at H
 clear h
 obtain ⟨t498,A2,H⟩:=zb H
 try dsimp only at H
 by_cases c3:t498 = true
 ·subst c3
  rw [if_pos rfl] at H
  obtain ⟨t499,A4,H⟩:=zb H
  try dsimp only at H
  simp only [Option.some.injEq,Prod.mk.injEq] at H
  obtain ⟨rfl,rfl⟩:=H
  go_enter Tryd.func11,Tryd.ntmps11
  go_wp2_with (first | (refine zBE 1 #[.int .i64 a0_0,.slice A0_1 l0_1.length c0_1] 26 ?_;intro gb497 hg w5 hbox hb;have BK497:=zA (hbox);have GW497:=zA (zBH hg HB.out);have GE497:=zA (zBH hg HB.out);replace HB:=zA (kQ (zQ HB.out) hb);clear hb hbox hg;obtain ⟨hcz6_0,hcz6_1,hfz6_0,hfz6_1⟩:=zB3 BK497.out) | (refine zO (some 5) Tryd.func24 #[.agg #[.int .i64 a0_0,.slice A0_1 l0_1.length c0_1]] ?_;(with_reducible refine (impl_IsAlphabet.calls k a0_0 _ _ l0_1 true _ ?side1 ?side2 ?side3 A2.out).mono ?_);(case side1=>exact zS (kO HR0_1.out HB.out));(case side2=>exact HC0_1.out);(case side3=>exact TabW.below HT.out (zT HB.out GE497.out));rintro e w7 ⟨rfl,hb⟩;refine ⟨_,rfl,?_⟩;replace BK497:=zA (zB1 BK497.out hb);replace HB:=zA (kQ (zT HB.out GE497.out) hb);(try clear hb);obtain ⟨hcz8_0,hcz8_1,hfz8_0,hfz8_1⟩:=zB3 BK497.out) | (refine zO (some 8) Tryd.func25 #[.agg #[.int .i64 a0_0,.slice A0_1 l0_1.length c0_1]] ?_;(with_reducible refine (impl_cliquePolynomial.calls k a0_0 _ _ l0_1 t499 _ ?side1 ?side2 ?side3 A4.out).mono ?_);(case side1=>exact zS (kO HR0_1.out HB.out));(case side2=>exact HC0_1.out);(case side3=>exact TabW.below HT.out (zT HB.out GE497.out));rintro e w9 ⟨v500,rfl,ho0,hb⟩;refine ⟨_,rfl,?_⟩;have HO501:=zA (kI ho0 (kP (zT HB.out GE497.out)));replace BK497:=zA (zB1 BK497.out hb);replace HB:=zA (kQ (zT HB.out GE497.out) hb);(try clear hb);(try clear ho0)))
  go_ret2
  exact ⟨_,zr,zP HO501.out,zT HB.out GE497.out⟩
 replace c3:=Bool.eq_false_iff.mpr c3
 subst c3
 rw [if_neg (show ¬ (false = true) by decide)] at H
 simp only [Option.some.injEq,Prod.mk.injEq] at H
 obtain ⟨rfl,rfl⟩:=H
 go_enter Tryd.func11,Tryd.ntmps11
 go_wp2_with (first | (refine zBE 1 #[.int .i64 a0_0,.slice A0_1 l0_1.length c0_1] 26 ?_;intro gb497 hg w10 hbox hb;have BK497:=zA (hbox);have GW497:=zA (zBH hg HB.out);have GE497:=zA (zBH hg HB.out);replace HB:=zA (kQ (zQ HB.out) hb);clear hb hbox hg;obtain ⟨hcz11_0,hcz11_1,hfz11_0,hfz11_1⟩:=zB3 BK497.out) | (refine zO (some 5) Tryd.func24 #[.agg #[.int .i64 a0_0,.slice A0_1 l0_1.length c0_1]] ?_;(with_reducible refine (impl_IsAlphabet.calls k a0_0 _ _ l0_1 false _ ?side1 ?side2 ?side3 A2.out).mono ?_);(case side1=>exact zS (kO HR0_1.out HB.out));(case side2=>exact HC0_1.out);(case side3=>exact TabW.below HT.out (zT HB.out GE497.out));rintro e w12 ⟨rfl,hb⟩;refine ⟨_,rfl,?_⟩;replace BK497:=zA (zB1 BK497.out hb);replace HB:=zA (kQ (zT HB.out GE497.out) hb);(try clear hb)))
 go_ret2
 exact ⟨_,zr,zn,zT HB.out GE497.out⟩
end Go.Proofs.YtjdekliancabgaaDoor.PAll
