import Derived.Test.YtpenijicdldipaaDoorPAllx0
import Derived.Test.YtpenijicdldipaaDoorPAllx2
import Derived.Test.YtpenijicdldipaaDoorPAllx4
import Derived.Test.YtpenijicdldipaaDoorPAllx6
import Derived.Test.YtpenijicdldipaaDoorPAllx8
import Derived.Test.YtpenijicdldipaaDoorPAllx9
import Derived.Test.YtpenijicdldipaaDoorPAllx10
namespace Go.Proofs.YtpenijicdldipaaDoor.PAll
open Go.RowKit Go.Proofs.YtpenijicdldipaaDoor.T Go.Proofs.YtpenijicdldipaaDoorW.PrintWords Go.Proofs.YtpenijicdldipaaDoorW.PrintLast Go.Proofs.YtpenijicdldipaaDoorW.PrintMore
attribute [local go_sem] max2_int min2_int max_two min_two max_three min_three max_four min_four   -- for this text's walks alone
set_option linter.unusedVariables false
set_option linter.unusedSimpArgs false
mutual
def laws_FnHeights.j0:Nat → List Int → List Int → Int → Bool → Int → List Int → Option (Bool)
 | 0,_,_,_,_,_,_=>none
 | k + 1,x4,x5,x6,x54,x805000,x805001=>if x54 = true then (none) else (if x6 = 0 then ((impl_HeightOf.f k x805000 x805001 x4).bind fun bt814=>((impl_FoataForm.f k x805000 x805001 x4).bind fun bt816=>((impl_NormalForm.f k x805000 x805001 x4).bind fun bt820=>((impl_OrderOf.f k x805000 x805001 x4).bind fun bt824=>((impl_LatestSteps.f k x805000 x805001 x4).bind fun bt828=>(if bt814.2 = 0 then (if bt816.2 = 0 then (if bt820.2 = 0 then (if bt824.2 = 0 then (if bt828.2 = 0 then (if (bt828.1.length:Int) = (bt820.1.length:Int) then (if (bt820.1.length:Int) = (x4.length:Int) then (laws_FnHeights.j1 k x4 x5 bt814.1 bt816.1 bt820.1 bt824.1 bt828.1 ((bt824.1.length:Int) != (x4.length:Int)) x805000 x805001) else (laws_FnHeights.j1 k x4 x5 bt814.1 bt816.1 bt820.1 bt824.1 bt828.1 true x805000 x805001)) else (laws_FnHeights.j1 k x4 x5 bt814.1 bt816.1 bt820.1 bt824.1 bt828.1 true x805000 x805001)) else (laws_FnHeights.j1 k x4 x5 bt814.1 bt816.1 bt820.1 bt824.1 bt828.1 true x805000 x805001)) else (laws_FnHeights.j1 k x4 x5 bt814.1 bt816.1 bt820.1 bt824.1 bt828.1 true x805000 x805001)) else (laws_FnHeights.j1 k x4 x5 bt814.1 bt816.1 bt820.1 bt824.1 bt828.1 true x805000 x805001)) else (laws_FnHeights.j1 k x4 x5 bt814.1 bt816.1 bt820.1 bt824.1 bt828.1 true x805000 x805001)) else (laws_FnHeights.j1 k x4 x5 bt814.1 bt816.1 bt820.1 bt824.1 bt828.1 true x805000 x805001))))))) else (some true))
def laws_FnHeights.j1:Nat → List Int → List Int → Int → List Int → List Int → List Int → List Int → Bool → Int → List Int → Option (Bool)
 | 0,_,_,_,_,_,_,_,_,_,_=>none
 | k + 1,x4,x5,x9,x11,x13,x15,x17,x125,x805000,x805001=>if x125 = true then (none) else (if x9 = (x11.length:Int) then (laws_FnHeights.j2 k x4 x5 x9 x11 x13 x15 x17 (x9 != (x5.length:Int)) x805000 x805001) else (laws_FnHeights.j2 k x4 x5 x9 x11 x13 x15 x17 true x805000 x805001))
def laws_FnHeights.j2:Nat → List Int → List Int → Int → List Int → List Int → List Int → List Int → Bool → Int → List Int → Option (Bool)
 | 0,_,_,_,_,_,_,_,_,_,_=>none
 | k + 1,x4,x5,x9,x11,x13,x15,x17,x135,x805000,x805001=>if x135 = true then (none) else (laws_FnHeights.l0 k x4 x5 x9 x11 x13 x15 x17 1 x805000 x805001)
def laws_FnHeights.l0:Nat → List Int → List Int → Int → List Int → List Int → List Int → List Int → Int → Int → List Int → Option (Bool)
 | 0,_,_,_,_,_,_,_,_,_,_=>none
 | k + 1,x4,x5,x9,x11,x13,x15,x17,x19,x805000,x805001=>if x19 < (x5.length:Int) then (if 0 ≤ (wrap64 (x19 - 1)) then (if (wrap64 (x19 - 1)) < (x5.length:Int) then (if 0 ≤ (rd x5 (wrap64 (x19 - 1))) then (if (rd x5 (wrap64 (x19 - 1))) < (x15.length:Int) then (if 0 ≤ x19 then (if 0 ≤ (IntKind.u64.wrap (rd x5 x19)) then (if (Go.bits .and .i64 (shr .i64 (rd x15 (rd x5 (wrap64 (x19 - 1)))) (IntKind.u64.wrap (rd x5 x19))) 1) = 0 then (none) else (if (rd x5 (wrap64 (x19 - 1))) = (rd x5 x19) then (none) else (laws_FnHeights.l0 k x4 x5 x9 x11 x13 x15 x17 (wrap64 (x19 + 1)) x805000 x805001))) else (none)) else (none)) else (none)) else (none)) else (none)) else (none)) else (laws_FnHeights.l1 k x4 x5 x9 x11 x13 x17 0 x805000 x805001)
def laws_FnHeights.l1:Nat → List Int → List Int → Int → List Int → List Int → List Int → Int → Int → List Int → Option (Bool)
 | 0,_,_,_,_,_,_,_,_,_=>none
 | k + 1,x4,x5,x9,x11,x13,x17,x20,x805000,x805001=>if x20 < (x13.length:Int) then ((impl_PastOf.f k x805000 x805001 x4 x20).bind fun bt837=>((impl_PrefixAt.f k x805000 x805001 x4 bt837.1).bind fun bt839=>((impl_HeightOf.f k x805000 x805001 bt839.1).bind fun bt843=>(if bt837.2 = 0 then (if bt839.2 = 0 then (if bt843.2 = 0 then (if 0 ≤ x20 then (if x20 < (x17.length:Int) then (if bt843.1 > (rd x17 x20) then (laws_FnHeights.j5 k x4 x5 x9 x11 x13 x17 x20 bt843.1 true x805000 x805001) else (if (rd x17 x20) > x9 then (laws_FnHeights.j5 k x4 x5 x9 x11 x13 x17 x20 bt843.1 true x805000 x805001) else ((laws_hasInt.f k x5 x20).bind fun t847=>(if t847 = true then (laws_FnHeights.j5 k x4 x5 x9 x11 x13 x17 x20 bt843.1 (bt843.1 != (rd x17 x20)) x805000 x805001) else (laws_FnHeights.j5 k x4 x5 x9 x11 x13 x17 x20 bt843.1 false x805000 x805001))))) else (none)) else (none)) else (laws_FnHeights.j5 k x4 x5 x9 x11 x13 x17 x20 bt843.1 true x805000 x805001)) else (laws_FnHeights.j5 k x4 x5 x9 x11 x13 x17 x20 bt843.1 true x805000 x805001)) else (laws_FnHeights.j5 k x4 x5 x9 x11 x13 x17 x20 bt843.1 true x805000 x805001))))) else (some true)
def laws_FnHeights.j5:Nat → List Int → List Int → Int → List Int → List Int → List Int → Int → Int → Bool → Int → List Int → Option (Bool)
 | 0,_,_,_,_,_,_,_,_,_,_,_=>none
 | k + 1,x4,x5,x9,x11,x13,x17,x20,x25,x234,x805000,x805001=>if x234 = true then (none) else (if x25 < 1 then (none) else (if x25 > (x11.length:Int) then (none) else (if 0 ≤ (wrap64 (x25 - 1)) then (if (wrap64 (x25 - 1)) < (x11.length:Int) then (if 0 ≤ x20 then (if x20 < (x13.length:Int) then (if 0 ≤ (IntKind.u64.wrap (rd x13 x20)) then (if (Go.bits .and .i64 (shr .i64 (rd x11 (wrap64 (x25 - 1))) (IntKind.u64.wrap (rd x13 x20))) 1) = 0 then (none) else (laws_FnHeights.l1 k x4 x5 x9 x11 x13 x17 (wrap64 (x20 + 1)) x805000 x805001)) else (none)) else (none)) else (none)) else (none)) else (none))))
end
def laws_FnHeights.f (k:Nat) (l0:List Int):Option (Bool):=(laws_big.f l0).bind fun t796=>(if t796 = true then (some true) else ((spec_DrawLongestChain.f k l0).bind fun bt797=>((impl_LongestChain.f k bt797.1 bt797.2.1 bt797.2.2).bind fun bt805=>((spec_LongestChain.f k bt797.1 bt797.2.1 bt797.2.2).bind fun bt809=>(if bt805.2 = bt809.2 then ((laws_likeInts.f k bt805.1 bt809.1).bind fun t813=>(laws_FnHeights.j0 k bt797.2.2 bt805.1 bt805.2 (!t813) bt797.1 bt797.2.1)) else (laws_FnHeights.j0 k bt797.2.2 bt805.1 bt805.2 true bt797.1 bt797.2.1))))))
set_option maxHeartbeats 8000000 in
set_option maxRecDepth 100000 in
theorem laws_FnHeights.calls (k:Nat) (A0:Option Addr) (c0:Nat) (l0:List Int) (r:Bool) (w:World) (hr0:Kd.C (Kd.int .u8) w A0 l0.length l0) (hc0:l0.length ≤ c0) (hT:TabW w) (h:laws_FnHeights.f k l0 = some r) :
  Calls Tryd.prog 4 #[.slice A0 l0.length c0] w fun e w' => e = .returned (.bool r) ∧ Below w.heap.size w w' := by
 have hu28:=Tryd.underlying28
 have HT:=zA hT
 clear hT
 have HR0:=zA hr0
 have HC0:=zA hc0
 clear hr0 hc0
 have HB:=zA (kW w.heap.size w)
 have H:=h
 unfold laws_FnHeights.f at H
 clear h
 obtain ⟨t796,A2,H⟩:=zb H
 try dsimp only at H
 by_cases c3:t796 = true
 ·subst c3
  rw [if_pos rfl] at H
  obtain rfl:=Option.some.inj H
  go_enter Tryd.func4,Tryd.ntmps4
  go_wp2_with (first | (go_at_call 15;(with_reducible refine (laws_big.calls _ _ l0 true _ ?side1 ?side2 A2.out).mono ?_);(case side1=>exact zS HR0.out);(case side2=>exact HC0.out);rintro e w' ⟨rfl,⟨nd,rfl⟩⟩;(try exact zw)))
  repeat (go_quiet (first | (go_at_call 15;(with_reducible refine (laws_big.calls _ _ l0 true _ ?side1 ?side2 A2.out).mono ?_);(case side1=>exact zS HR0.out);(case side2=>exact HC0.out);rintro e w' ⟨rfl,⟨nd,rfl⟩⟩;(try exact zw)));try go_wp2_with (first | (go_at_call 15;(with_reducible refine (laws_big.calls _ _ l0 true _ ?side1 ?side2 A2.out).mono ?_);(case side1=>exact zS HR0.out);(case side2=>exact HC0.out);rintro e w' ⟨rfl,⟨nd,rfl⟩⟩;(try exact zw))))
  go_ret
  exact ⟨zr,zQ HB.out⟩
 replace c3:=Bool.eq_false_iff.mpr c3
 subst c3
 rw [if_neg (show ¬ (false = true) by decide)] at H
 obtain ⟨⟨t797,t798,t801⟩,A4,H⟩:=zb H
 try dsimp only at H
 obtain ⟨⟨t805,t808⟩,A5,H⟩:=zb H
 try dsimp only at H
 obtain ⟨⟨t809,t812⟩,A6,H⟩:=zb H
 try dsimp only at H
 have HC7:=zA H
 clear H
 go_enter Tryd.func4,Tryd.ntmps4
 go_upto_region 6 with (first | (go_at_call 15;(with_reducible refine (laws_big.calls _ _ l0 false _ ?side1 ?side2 A2.out).mono ?_);(case side1=>exact zS HR0.out);(case side2=>exact HC0.out);rintro e w' ⟨rfl,⟨nd,rfl⟩⟩;(try exact zw)) | (go_at_call 16;(with_reducible refine (spec_DrawLongestChain.calls k _ _ l0 t797 t798 t801 _ ?side1 ?side2 A4.out).mono ?_);(case side1=>exact zS HR0.out);(case side2=>exact HC0.out);rintro e w8 ⟨v799,v802,rfl,ho0,ho1,hb⟩;have HO800:=zA (kI ho0 (kP (zQ HB.out)));have HO803:=zA (kI ho1 (kP (zQ HB.out)));replace HB:=zA (kQ (zQ HB.out) hb);(try clear ho0);(try clear ho1)) | (refine zBE 3 #[.int .i64 0,.slice none 0 0] 28 ?_;intro gb804 hg w9 hbox hb;replace HO800:=zA (kL (zP HO800.out) hb);replace HO803:=zA (kL (zP HO803.out) hb);have BK804:=zA (hbox);have GW804:=zA (zBH hg HB.out);have GE804:=zA (zBH hg HB.out);replace HB:=zA (kQ (zQ HB.out) hb);clear hb hbox hg;obtain ⟨hcz10_0,hcz10_1,hfz10_0,hfz10_1⟩:=zB3 BK804.out;obtain ⟨Ao11,co11,eo11⟩:=kM HO800.out;subst eo11) | ((with_reducible refine gate_store (t:=28) (p:=3) rfl ?_);(try (rw [drewN_self w9];generalize hq_:World.drewN w9 _ = w9;have n0_:=zA (Kd.R_at hq_ HO800.out);have n1_:=zA (Kd.R_at hq_ HO803.out);have n2_:=zA (blk_at hq_ BK804.out);have n3_:=zA (below_at hq_ HB.out);clear hq_ HO800 HO803 BK804 HB;have HO800:=n0_;have HO803:=n1_;have BK804:=n2_;have HB:=n3_;clear n0_ n1_ n2_ n3_));refine store_event (t:=28) (p:=3) (v:=?vo_w12) (w1:=((w9.setCell ⟨gb804,0,none⟩ (.int .i64 t797)).setCell ⟨gb804,1,none⟩ (.slice Ao11 t798.length co11))) ?hg ?ho ?hn ?hr ?_;(case ho=>rfl);(case hg=>rfl);(case hn=>rfl);(case hr=>first | (go_simp;done) | (go_simp;rfl));intro w12 hw;replace HO800:Aside0 (Kd.R (Kd.int .i64) 2 w12 w.heap.size (fun k_=>some k_ ≠ (v802:Value).ownBlock) (.slice Ao11 t798.length co11) t798):=⟨(by rw [hw];exact (by (with_reducible repeat (first | apply zF | apply zG | apply zH));exact kA (kY (p:=⟨gb804,1,none⟩) (kY (p:=⟨gb804,0,none⟩) (kD HO800.out BK804.out (by decide)) (fun _ hk=>hk.2) (.int .i64 t797)) (fun _ hk=>hk.2) (.slice Ao11 t798.length co11)) (fun _ hk=>hk.1)))⟩;replace HO803:Aside0 (Kd.R (Kd.int .i64) 2 w12 w.heap.size (fun k_=>some k_ ≠ (.slice Ao11 t798.length co11:Value).ownBlock) v802 t801):=⟨(by rw [hw];exact (by (with_reducible repeat (first | apply zF | apply zG | apply zH));exact kA (kY (p:=⟨gb804,1,none⟩) (kY (p:=⟨gb804,0,none⟩) (kD HO803.out BK804.out (by decide)) (fun _ hk=>hk.2) (.int .i64 t797)) (fun _ hk=>hk.2) (.slice Ao11 t798.length co11)) (fun _ hk=>hk.1)))⟩;replace BK804:Aside0 (w12.heap[gb804]? = some (.cells #[.int .i64 t797,.slice Ao11 t798.length co11] 28 (0,0))):=⟨(by rw [hw];exact (zRP BK804.out))⟩;replace HB:Aside0 (Below w.heap.size w w12):=⟨(by rw [hw];exact (zT HB.out GE804.out))⟩;clear hw;obtain ⟨hcz13_0,hcz13_1,hfz13_0,hfz13_1⟩:=zB3 BK804.out;obtain ⟨Ao14,co14,eo14⟩:=kM HO803.out;subst eo14) | (go_at_call 9;(with_reducible refine (impl_LongestChain.calls k t797 _ _ t798 (fun k_=>some k_ = (.slice Ao14 t801.length co14:Value).ownBlock) _ _ t801 t805 t808 _ ?side1 ?side2 ?side3 ?side4 A5.out).mono ?_);(case side1=>exact zS (kB HO800.out).2.2);(case side2=>exact (kB HO800.out).2.1);(case side3=>exact jL (jK rfl (kD (HO803.out) BK804.out (by decide))));(case side4=>exact TabW.below HT.out (zT HB.out GE804.out));rintro e w15 ⟨v806,rfl,ho0,hb⟩;have HO807:=zA (kI (kF (kF (kA (ok' := fun k_=>True) ho0 (fun _ hk_=>trivial)) (kH (zP HO800.out))) (kH (zP HO803.out))) (kP (zT HB.out GE804.out)));replace HO800:=zA (kE (zP HO800.out) (kC ho0) hb);replace HO803:=zA (kE (zP HO803.out) (kC ho0) hb);replace BK804:=zA (zB1 BK804.out hb);replace HB:=zA (kQ (zT HB.out GE804.out) hb);(try clear ho0);obtain ⟨hcz16_0,hcz16_1,hfz16_0,hfz16_1⟩:=zB3 BK804.out) | (go_at_call 6;(with_reducible refine (spec_LongestChain.calls k t797 _ _ t798 _ _ t801 t809 t812 _ ?side1 ?side2 ?side3 ?side4 A6.out).mono ?_);(case side1=>exact zS (kB HO800.out).2.2);(case side2=>exact (kB HO800.out).2.1);(case side3=>exact zS (kB HO803.out).2.2);(case side4=>exact (kB HO803.out).2.1);rintro e w17 ⟨v810,rfl,ho0,hb⟩;have HO811:=zA (kI (kF (kF (kF ho0 (kH (zP HO800.out))) (kH (zP HO803.out))) (kH (zP HO807.out))) (kP (zT HB.out GE804.out)));replace HO800:=zA (kE (zP HO800.out) (kC ho0) hb);replace HO803:=zA (kE (zP HO803.out) (kC ho0) hb);replace HO807:=zA (kE (zP HO807.out) (kC ho0) hb);replace BK804:=zA (zB1 BK804.out hb);replace HB:=zA (kQ (zT HB.out GE804.out) hb);(try clear ho0)))
 repeat (go_quiet (first | (go_at_call 15;(with_reducible refine (laws_big.calls _ _ l0 false _ ?side1 ?side2 A2.out).mono ?_);(case side1=>exact zS HR0.out);(case side2=>exact HC0.out);rintro e w' ⟨rfl,⟨nd,rfl⟩⟩;(try exact zw)) | (go_at_call 16;(with_reducible refine (spec_DrawLongestChain.calls k _ _ l0 t797 t798 t801 _ ?side1 ?side2 A4.out).mono ?_);(case side1=>exact zS HR0.out);(case side2=>exact HC0.out);rintro e w8 ⟨v799,v802,rfl,ho0,ho1,hb⟩;have n0_:=zA (kI ho0 (kP (zQ HB.out)));have n1_:=zA (kI ho1 (kP (zQ HB.out)));have n2_:=zA (kQ (zQ HB.out) hb);clear HB;have HO800:=n0_;have HO803:=n1_;have HB:=n2_;clear n0_ n1_ n2_;(try clear ho0);(try clear ho1)) | (refine zBE 3 #[.int .i64 0,.slice none 0 0] 28 ?_;intro gb804 hg w9 hbox hb;have n0_:=zA (kL (zP HO800.out) hb);have n1_:=zA (kL (zP HO803.out) hb);have n2_:=zA (kQ (zQ HB.out) hb);have n3_:=zA (hbox);have n4_:=zA (zBH hg HB.out);have n5_:=zA (zBH hg HB.out);clear HO800;clear HO803;clear HB;have HO800:=n0_;have HO803:=n1_;have HB:=n2_;have BK804:=n3_;have GW804:=n4_;have GE804:=n5_;clear n0_ n1_ n2_ n3_ n4_ n5_;clear hb hbox hg;obtain ⟨hcz10_0,hcz10_1,hfz10_0,hfz10_1⟩:=zB3 BK804.out;obtain ⟨Ao11,co11,eo11⟩:=kM HO800.out;subst eo11) | ((with_reducible refine gate_store (t:=28) (p:=3) rfl ?_);(try (rw [drewN_self w9];generalize hq_:World.drewN w9 _ = w9;have n0_:=zA (Kd.R_at hq_ HO800.out);have n1_:=zA (Kd.R_at hq_ HO803.out);have n2_:=zA (blk_at hq_ BK804.out);have n3_:=zA (below_at hq_ HB.out);clear hq_ HO800 HO803 BK804 HB;have HO800:=n0_;have HO803:=n1_;have BK804:=n2_;have HB:=n3_;clear n0_ n1_ n2_ n3_));refine store_event (t:=28) (p:=3) (v:=?vo_w12) (w1:=((w9.setCell ⟨gb804,0,none⟩ (.int .i64 t797)).setCell ⟨gb804,1,none⟩ (.slice Ao11 t798.length co11))) ?hg ?ho ?hn ?hr ?_;(case ho=>rfl);(case hg=>rfl);(case hn=>rfl);(case hr=>first | (go_simp;done) | (go_simp;rfl));intro w12 hw;have n0_:Aside0 (Kd.R (Kd.int .i64) 2 w12 w.heap.size (fun k_=>some k_ ≠ (v802:Value).ownBlock) (.slice Ao11 t798.length co11) t798):=⟨(by rw [hw];exact (by (with_reducible repeat (first | apply zF | apply zG | apply zH));exact kA (kY (p:=⟨gb804,1,none⟩) (kY (p:=⟨gb804,0,none⟩) (kD HO800.out BK804.out (by decide)) (fun _ hk=>hk.2) (.int .i64 t797)) (fun _ hk=>hk.2) (.slice Ao11 t798.length co11)) (fun _ hk=>hk.1)))⟩;have n1_:Aside0 (Kd.R (Kd.int .i64) 2 w12 w.heap.size (fun k_=>some k_ ≠ (.slice Ao11 t798.length co11:Value).ownBlock) v802 t801):=⟨(by rw [hw];exact (by (with_reducible repeat (first | apply zF | apply zG | apply zH));exact kA (kY (p:=⟨gb804,1,none⟩) (kY (p:=⟨gb804,0,none⟩) (kD HO803.out BK804.out (by decide)) (fun _ hk=>hk.2) (.int .i64 t797)) (fun _ hk=>hk.2) (.slice Ao11 t798.length co11)) (fun _ hk=>hk.1)))⟩;have n2_:Aside0 (w12.heap[gb804]? = some (.cells #[.int .i64 t797,.slice Ao11 t798.length co11] 28 (0,0))):=⟨(by rw [hw];exact (zRP BK804.out))⟩;have n3_:Aside0 (Below w.heap.size w w12):=⟨(by rw [hw];exact (zT HB.out GE804.out))⟩;clear hw;clear HO800;clear HO803;clear BK804;clear HB;have HO800:=n0_;have HO803:=n1_;have BK804:=n2_;have HB:=n3_;clear n0_ n1_ n2_ n3_;obtain ⟨hcz13_0,hcz13_1,hfz13_0,hfz13_1⟩:=zB3 BK804.out;obtain ⟨Ao14,co14,eo14⟩:=kM HO803.out;subst eo14) | (go_at_call 9;(with_reducible refine (impl_LongestChain.calls k t797 _ _ t798 (fun k_=>some k_ = (.slice Ao14 t801.length co14:Value).ownBlock) _ _ t801 t805 t808 _ ?side1 ?side2 ?side3 ?side4 A5.out).mono ?_);(case side1=>exact zS (kB HO800.out).2.2);(case side2=>exact (kB HO800.out).2.1);(case side3=>exact jL (jK rfl (kD (HO803.out) BK804.out (by decide))));(case side4=>exact TabW.below HT.out (zT HB.out GE804.out));rintro e w15 ⟨v806,rfl,ho0,hb⟩;have n0_:=zA (kE (zP HO800.out) (kC ho0) hb);have n1_:=zA (kE (zP HO803.out) (kC ho0) hb);have n2_:=zA (kI (kF (kF (kA (ok' := fun k_=>True) ho0 (fun _ hk_=>trivial)) (kH (zP HO800.out))) (kH (zP HO803.out))) (kP (zT HB.out GE804.out)));have n3_:=zA (zB1 BK804.out hb);have n4_:=zA (kQ (zT HB.out GE804.out) hb);clear HO800;clear HO803;clear BK804;clear HB;have HO800:=n0_;have HO803:=n1_;have HO807:=n2_;have BK804:=n3_;have HB:=n4_;clear n0_ n1_ n2_ n3_ n4_;(try clear ho0);obtain ⟨hcz16_0,hcz16_1,hfz16_0,hfz16_1⟩:=zB3 BK804.out) | (go_at_call 6;(with_reducible refine (spec_LongestChain.calls k t797 _ _ t798 _ _ t801 t809 t812 _ ?side1 ?side2 ?side3 ?side4 A6.out).mono ?_);(case side1=>exact zS (kB HO800.out).2.2);(case side2=>exact (kB HO800.out).2.1);(case side3=>exact zS (kB HO803.out).2.2);(case side4=>exact (kB HO803.out).2.1);rintro e w17 ⟨v810,rfl,ho0,hb⟩;have n0_:=zA (kE (zP HO800.out) (kC ho0) hb);have n1_:=zA (kE (zP HO803.out) (kC ho0) hb);have n2_:=zA (kE (zP HO807.out) (kC ho0) hb);have n3_:=zA (kI (kF (kF (kF ho0 (kH (zP HO800.out))) (kH (zP HO803.out))) (kH (zP HO807.out))) (kP (zT HB.out GE804.out)));have n4_:=zA (zB1 BK804.out hb);have n5_:=zA (kQ (zT HB.out GE804.out) hb);clear HO800;clear HO803;clear HO807;clear BK804;clear HB;have HO800:=n0_;have HO803:=n1_;have HO807:=n2_;have HO811:=n3_;have BK804:=n4_;have HB:=n5_;clear n0_ n1_ n2_ n3_ n4_ n5_;(try clear ho0)));go_upto_region 6 with (first | (go_at_call 15;(with_reducible refine (laws_big.calls _ _ l0 false _ ?side1 ?side2 A2.out).mono ?_);(case side1=>exact zS HR0.out);(case side2=>exact HC0.out);rintro e w' ⟨rfl,⟨nd,rfl⟩⟩;(try exact zw)) | (go_at_call 16;(with_reducible refine (spec_DrawLongestChain.calls k _ _ l0 t797 t798 t801 _ ?side1 ?side2 A4.out).mono ?_);(case side1=>exact zS HR0.out);(case side2=>exact HC0.out);rintro e w8 ⟨v799,v802,rfl,ho0,ho1,hb⟩;have HO800:=zA (kI ho0 (kP (zQ HB.out)));have HO803:=zA (kI ho1 (kP (zQ HB.out)));replace HB:=zA (kQ (zQ HB.out) hb);(try clear ho0);(try clear ho1)) | (refine zBE 3 #[.int .i64 0,.slice none 0 0] 28 ?_;intro gb804 hg w9 hbox hb;replace HO800:=zA (kL (zP HO800.out) hb);replace HO803:=zA (kL (zP HO803.out) hb);have BK804:=zA (hbox);have GW804:=zA (zBH hg HB.out);have GE804:=zA (zBH hg HB.out);replace HB:=zA (kQ (zQ HB.out) hb);clear hb hbox hg;obtain ⟨hcz10_0,hcz10_1,hfz10_0,hfz10_1⟩:=zB3 BK804.out;obtain ⟨Ao11,co11,eo11⟩:=kM HO800.out;subst eo11) | ((with_reducible refine gate_store (t:=28) (p:=3) rfl ?_);(try (rw [drewN_self w9];generalize hq_:World.drewN w9 _ = w9;have n0_:=zA (Kd.R_at hq_ HO800.out);have n1_:=zA (Kd.R_at hq_ HO803.out);have n2_:=zA (blk_at hq_ BK804.out);have n3_:=zA (below_at hq_ HB.out);clear hq_ HO800 HO803 BK804 HB;have HO800:=n0_;have HO803:=n1_;have BK804:=n2_;have HB:=n3_;clear n0_ n1_ n2_ n3_));refine store_event (t:=28) (p:=3) (v:=?vo_w12) (w1:=((w9.setCell ⟨gb804,0,none⟩ (.int .i64 t797)).setCell ⟨gb804,1,none⟩ (.slice Ao11 t798.length co11))) ?hg ?ho ?hn ?hr ?_;(case ho=>rfl);(case hg=>rfl);(case hn=>rfl);(case hr=>first | (go_simp;done) | (go_simp;rfl));intro w12 hw;replace HO800:Aside0 (Kd.R (Kd.int .i64) 2 w12 w.heap.size (fun k_=>some k_ ≠ (v802:Value).ownBlock) (.slice Ao11 t798.length co11) t798):=⟨(by rw [hw];exact (by (with_reducible repeat (first | apply zF | apply zG | apply zH));exact kA (kY (p:=⟨gb804,1,none⟩) (kY (p:=⟨gb804,0,none⟩) (kD HO800.out BK804.out (by decide)) (fun _ hk=>hk.2) (.int .i64 t797)) (fun _ hk=>hk.2) (.slice Ao11 t798.length co11)) (fun _ hk=>hk.1)))⟩;replace HO803:Aside0 (Kd.R (Kd.int .i64) 2 w12 w.heap.size (fun k_=>some k_ ≠ (.slice Ao11 t798.length co11:Value).ownBlock) v802 t801):=⟨(by rw [hw];exact (by (with_reducible repeat (first | apply zF | apply zG | apply zH));exact kA (kY (p:=⟨gb804,1,none⟩) (kY (p:=⟨gb804,0,none⟩) (kD HO803.out BK804.out (by decide)) (fun _ hk=>hk.2) (.int .i64 t797)) (fun _ hk=>hk.2) (.slice Ao11 t798.length co11)) (fun _ hk=>hk.1)))⟩;replace BK804:Aside0 (w12.heap[gb804]? = some (.cells #[.int .i64 t797,.slice Ao11 t798.length co11] 28 (0,0))):=⟨(by rw [hw];exact (zRP BK804.out))⟩;replace HB:Aside0 (Below w.heap.size w w12):=⟨(by rw [hw];exact (zT HB.out GE804.out))⟩;clear hw;obtain ⟨hcz13_0,hcz13_1,hfz13_0,hfz13_1⟩:=zB3 BK804.out;obtain ⟨Ao14,co14,eo14⟩:=kM HO803.out;subst eo14) | (go_at_call 9;(with_reducible refine (impl_LongestChain.calls k t797 _ _ t798 (fun k_=>some k_ = (.slice Ao14 t801.length co14:Value).ownBlock) _ _ t801 t805 t808 _ ?side1 ?side2 ?side3 ?side4 A5.out).mono ?_);(case side1=>exact zS (kB HO800.out).2.2);(case side2=>exact (kB HO800.out).2.1);(case side3=>exact jL (jK rfl (kD (HO803.out) BK804.out (by decide))));(case side4=>exact TabW.below HT.out (zT HB.out GE804.out));rintro e w15 ⟨v806,rfl,ho0,hb⟩;have HO807:=zA (kI (kF (kF (kA (ok' := fun k_=>True) ho0 (fun _ hk_=>trivial)) (kH (zP HO800.out))) (kH (zP HO803.out))) (kP (zT HB.out GE804.out)));replace HO800:=zA (kE (zP HO800.out) (kC ho0) hb);replace HO803:=zA (kE (zP HO803.out) (kC ho0) hb);replace BK804:=zA (zB1 BK804.out hb);replace HB:=zA (kQ (zT HB.out GE804.out) hb);(try clear ho0);obtain ⟨hcz16_0,hcz16_1,hfz16_0,hfz16_1⟩:=zB3 BK804.out) | (go_at_call 6;(with_reducible refine (spec_LongestChain.calls k t797 _ _ t798 _ _ t801 t809 t812 _ ?side1 ?side2 ?side3 ?side4 A6.out).mono ?_);(case side1=>exact zS (kB HO800.out).2.2);(case side2=>exact (kB HO800.out).2.1);(case side3=>exact zS (kB HO803.out).2.2);(case side4=>exact (kB HO803.out).2.1);rintro e w17 ⟨v810,rfl,ho0,hb⟩;have HO811:=zA (kI (kF (kF (kF ho0 (kH (zP HO800.out))) (kH (zP HO803.out))) (kH (zP HO807.out))) (kP (zT HB.out GE804.out)));replace HO800:=zA (kE (zP HO800.out) (kC ho0) hb);replace HO803:=zA (kE (zP HO803.out) (kC ho0) hb);replace HO807:=zA (kE (zP HO807.out) (kC ho0) hb);replace BK804:=zA (zB1 BK804.out hb);replace HB:=zA (kQ (zT HB.out GE804.out) hb);(try clear ho0))))
 (try simp only [Act.put,zL,zM,zN])
 go_cut [54] (fun v54 wc=>∃ (kq:Nat) (x54_6:Bool),v54 = .bool x54_6 ∧ Aside0 (laws_FnHeights.j0 kq t801 t805 t808 x54_6 t797 t798 = some r) ∧ Aside0 (kq ≤ k) ∧ Aside0 (Kd.R (Kd.int .i64) 2 wc w.heap.size (fun k_=>some k_ ≠ (v806:Value).ownBlock ∧ some k_ ≠ ((.slice Ao11 t798.length co11):Value).ownBlock) (.slice Ao14 t801.length co14) t801) ∧ Aside0 (Kd.R (Kd.int .i64) 2 wc w.heap.size (fun k_=>some k_ ≠ ((.slice Ao14 t801.length co14):Value).ownBlock ∧ some k_ ≠ ((.slice Ao11 t798.length co11):Value).ownBlock) v806 t805) ∧ Aside0 (Kd.R (Kd.int .i64) 2 wc w.heap.size (fun k_=>some k_ ≠ ((.slice Ao14 t801.length co14):Value).ownBlock ∧ some k_ ≠ (v806:Value).ownBlock) (.slice Ao11 t798.length co11) t798) ∧ Aside0 (wc.heap[gb804]? = some (.cells #[.int .i64 t797,(.slice Ao11 t798.length co11)] 28 (0,0))) ∧ Aside0 (Below w.heap.size w wc))
 case first=>as_aux_lemma =>
  have H:=HC7.out
  clear HC7
  by_cases c18:t808 = t812
  ·rw [if_pos c18] at H
   obtain ⟨c18b0,c18b1⟩:=zT1 c18
   clear c18
   (first | rw [c18b0] | (simp only [i64_w,i32_w];rw [c18b0]) | skip)
   obtain ⟨t813,A19,H⟩:=zb H
   try dsimp only at H
   have H' := zA H
   clear H
   obtain ⟨Ao20,co20,eo20⟩:=kM HO807.out
   subst eo20
   obtain ⟨Ao21,co21,eo21⟩:=kM HO811.out
   subst eo21
   go_wp2_with (first | (go_at_call 17;(with_reducible refine (laws_likeInts.calls k _ _ t805 _ _ t809 t813 _ ?side1 ?side2 ?side3 ?side4 A19.out).mono ?_);(case side1=>exact zS (kB HO807.out).2.2);(case side2=>exact (kB HO807.out).2.1);(case side3=>exact zS (kB HO811.out).2.2);(case side4=>exact (kB HO811.out).2.1);rintro e w' ⟨rfl,⟨nd,rfl⟩⟩;(try exact zw)))
   repeat (go_quiet (first | (go_at_call 17;(with_reducible refine (laws_likeInts.calls k _ _ t805 _ _ t809 t813 _ ?side1 ?side2 ?side3 ?side4 A19.out).mono ?_);(case side1=>exact zS (kB HO807.out).2.2);(case side2=>exact (kB HO807.out).2.1);(case side3=>exact zS (kB HO811.out).2.2);(case side4=>exact (kB HO811.out).2.1);rintro e w' ⟨rfl,⟨nd,rfl⟩⟩;(try exact zw)));try go_wp2_with (first | (go_at_call 17;(with_reducible refine (laws_likeInts.calls k _ _ t805 _ _ t809 t813 _ ?side1 ?side2 ?side3 ?side4 A19.out).mono ?_);(case side1=>exact zS (kB HO807.out).2.2);(case side2=>exact (kB HO807.out).2.1);(case side3=>exact zS (kB HO811.out).2.2);(case side4=>exact (kB HO811.out).2.1);rintro e w' ⟨rfl,⟨nd,rfl⟩⟩;(try exact zw))))
   go_meet
   case rel=>exact ⟨_,(!t813),zs,H', ⟨by first | omega | exact Nat.le_refl _⟩,⟨zPM HO803.out (fun _ hk=>⟨hk.1.2,hk.1.1⟩)⟩,⟨zPM HO807.out (fun _ hk=>⟨hk.1.2,hk.1.1.2⟩)⟩,⟨zPM HO800.out (fun _ hk=>⟨hk.1.1,hk.1.2⟩)⟩,⟨zR BK804.out⟩,⟨zT HB.out GE804.out⟩⟩
  rw [if_neg c18] at H
  obtain ⟨c18b0,c18b1⟩:=zT2 c18
  (first | rw [c18b0] | (simp only [i64_w,i32_w];rw [c18b0]) | skip)
  have H' := zA H
  clear H
  go_wp2
  repeat (go_quiet (fail);try go_wp2)
  go_meet
  case rel=>exact ⟨_,(true),zs,H', ⟨by first | omega | exact Nat.le_refl _⟩,⟨zPM HO803.out (fun _ hk=>⟨hk.1.2,hk.1.1⟩)⟩,⟨zPM HO807.out (fun _ hk=>⟨hk.1.2,hk.1.1.2⟩)⟩,⟨zPM HO800.out (fun _ hk=>⟨hk.1.1,hk.1.2⟩)⟩,⟨zR BK804.out⟩,⟨zT HB.out GE804.out⟩⟩
 case rest =>
  clear HC7
  try clear c1
  try clear c3
  try clear c4
  try clear c18
  try clear hcz10_0
  try clear hcz10_1
  try clear hcz13_0
  try clear hcz13_1
  try clear hcz16_0
  try clear hcz16_1
  try clear hfz10_0
  try clear hfz10_1
  try clear hfz13_0
  try clear hfz13_1
  try clear hfz16_0
  try clear hfz16_1
  obtain ⟨kq,x54_6,rfl,HA,HJ6,HO_4,HO_5,HO_805001,BK804,HB⟩:=hcut
  cases kq with
  | zero=>exact absurd HA.out (by simp [laws_FnHeights.j0])
  | succ kj6 =>
   have H:=HA.out
   clear HA
   simp only [laws_FnHeights.j0] at H
   by_cases c22:x54_6 = true
   ·subst c22
    rw [if_pos rfl] at H
    exact absurd H (by simp)
   replace c22:=Bool.eq_false_iff.mpr c22
   subst c22
   rw [if_neg (show ¬ (false = true) by decide)] at H
   by_cases c23:t808 = 0
   ·rw [if_pos c23] at H
    obtain ⟨c23b0,c23b1⟩:=zT1 c23
    clear c23
    obtain ⟨⟨t814,t815⟩,A24,H⟩:=zb H
    try dsimp only at H
    obtain ⟨⟨t816,t819⟩,A25,H⟩:=zb H
    try dsimp only at H
    obtain ⟨⟨t820,t823⟩,A26,H⟩:=zb H
    try dsimp only at H
    obtain ⟨⟨t824,t827⟩,A27,H⟩:=zb H
    try dsimp only at H
    obtain ⟨⟨t828,t831⟩,A28,H⟩:=zb H
    try dsimp only at H
    have HC29:=zA H
    clear H
    obtain ⟨hcz30_0,hcz30_1,hfz30_0,hfz30_1⟩:=zB3 BK804.out
    go_upto_region 15 with (first | (go_at_call 18;(with_reducible refine (impl_HeightOf.calls kj6 t797 (fun k_=>some k_ = (.slice Ao11 t798.length co11:Value).ownBlock) _ _ t798 (fun k_=>some k_ = (.slice Ao14 t801.length co14:Value).ownBlock) _ _ t801 t814 t815 _ ?side1 ?side2 ?side3 A24.out).mono ?_);(case side1=>exact jL (jK rfl (kD (HO_805001.out) BK804.out (by decide))));(case side2=>exact jL (jK rfl (kD (HO_4.out) BK804.out (by decide))));(case side3=>exact TabW.below HT.out (zT HB.out GE804.out));rintro e w31 ⟨rfl,hb⟩;replace HO_4:=zA (kL (zP HO_4.out) hb);replace HO_5:=zA (kL (zP HO_5.out) hb);replace HO_805001:=zA (kL (zP HO_805001.out) hb);replace BK804:=zA (zB1 BK804.out hb);replace HB:=zA (kQ (zT HB.out GE804.out) hb);obtain ⟨hcz32_0,hcz32_1,hfz32_0,hfz32_1⟩:=zB3 BK804.out) | (go_at_call 19;(with_reducible refine (impl_FoataForm.calls kj6 t797 (fun k_=>some k_ = (.slice Ao11 t798.length co11:Value).ownBlock) _ _ t798 (fun k_=>some k_ = (.slice Ao14 t801.length co14:Value).ownBlock) _ _ t801 t816 t819 _ ?side1 ?side2 ?side3 A25.out).mono ?_);(case side1=>exact jL (jK rfl (kD (HO_805001.out) BK804.out (by decide))));(case side2=>exact jL (jK rfl (kD (HO_4.out) BK804.out (by decide))));(case side3=>exact TabW.below HT.out (zT HB.out GE804.out));rintro e w33 ⟨v817,rfl,ho0,hb⟩;have HO818:=zA (kI (kF (kF (kF (kA (ok' := fun k_=>True) ho0 (fun _ hk_=>trivial)) (kH (zP HO_4.out))) (kH (zP HO_5.out))) (kH (zP HO_805001.out))) (kP (zT HB.out GE804.out)));replace HO_4:=zA (kE (zP HO_4.out) (kC ho0) hb);replace HO_5:=zA (kE (zP HO_5.out) (kC ho0) hb);replace HO_805001:=zA (kE (zP HO_805001.out) (kC ho0) hb);replace BK804:=zA (zB1 BK804.out hb);replace HB:=zA (kQ (zT HB.out GE804.out) hb);(try clear ho0);obtain ⟨hcz34_0,hcz34_1,hfz34_0,hfz34_1⟩:=zB3 BK804.out) | (go_at_call 20;(with_reducible refine (impl_NormalForm.calls kj6 t797 (fun k_=>some k_ = (.slice Ao11 t798.length co11:Value).ownBlock) _ _ t798 (fun k_=>some k_ = (.slice Ao14 t801.length co14:Value).ownBlock) _ _ t801 t820 t823 _ ?side1 ?side2 ?side3 A26.out).mono ?_);(case side1=>exact jL (jK rfl (kD (HO_805001.out) BK804.out (by decide))));(case side2=>exact jL (jK rfl (kD (HO_4.out) BK804.out (by decide))));(case side3=>exact TabW.below HT.out (zT HB.out GE804.out));rintro e w35 ⟨v821,rfl,ho0,hb⟩;have HO822:=zA (kI (kF (kF (kF (kF (kA (ok' := fun k_=>True) ho0 (fun _ hk_=>trivial)) (kH (zP HO_4.out))) (kH (zP HO_5.out))) (kH (zP HO_805001.out))) (kH (zP HO818.out))) (kP (zT HB.out GE804.out)));replace HO_4:=zA (kE (zP HO_4.out) (kC ho0) hb);replace HO_5:=zA (kE (zP HO_5.out) (kC ho0) hb);replace HO_805001:=zA (kE (zP HO_805001.out) (kC ho0) hb);replace HO818:=zA (kE (zP HO818.out) (kC ho0) hb);replace BK804:=zA (zB1 BK804.out hb);replace HB:=zA (kQ (zT HB.out GE804.out) hb);(try clear ho0);obtain ⟨hcz36_0,hcz36_1,hfz36_0,hfz36_1⟩:=zB3 BK804.out) | (go_at_call 21;(with_reducible refine (impl_OrderOf.calls kj6 t797 _ _ t798 (fun k_=>some k_ = (.slice Ao14 t801.length co14:Value).ownBlock) _ _ t801 t824 t827 _ ?side1 ?side2 ?side3 ?side4 A27.out).mono ?_);(case side1=>exact zS (kB HO_805001.out).2.2);(case side2=>exact (kB HO_805001.out).2.1);(case side3=>exact jL (jK rfl (kD (HO_4.out) BK804.out (by decide))));(case side4=>exact TabW.below HT.out (zT HB.out GE804.out));rintro e w37 ⟨v825,rfl,ho0,hb⟩;have HO826:=zA (kI (kF (kF (kF (kF (kF (kA (ok' := fun k_=>True) ho0 (fun _ hk_=>trivial)) (kH (zP HO_4.out))) (kH (zP HO_5.out))) (kH (zP HO_805001.out))) (kH (zP HO818.out))) (kH (zP HO822.out))) (kP (zT HB.out GE804.out)));replace HO_4:=zA (kE (zP HO_4.out) (kC ho0) hb);replace HO_5:=zA (kE (zP HO_5.out) (kC ho0) hb);replace HO_805001:=zA (kE (zP HO_805001.out) (kC ho0) hb);replace HO818:=zA (kE (zP HO818.out) (kC ho0) hb);replace HO822:=zA (kE (zP HO822.out) (kC ho0) hb);replace BK804:=zA (zB1 BK804.out hb);replace HB:=zA (kQ (zT HB.out GE804.out) hb);(try clear ho0);obtain ⟨hcz38_0,hcz38_1,hfz38_0,hfz38_1⟩:=zB3 BK804.out) | (go_at_call 22;(with_reducible refine (impl_LatestSteps.calls kj6 t797 (fun k_=>some k_ = (.slice Ao11 t798.length co11:Value).ownBlock) _ _ t798 (fun k_=>some k_ = (.slice Ao14 t801.length co14:Value).ownBlock) _ _ t801 t828 t831 _ ?side1 ?side2 ?side3 A28.out).mono ?_);(case side1=>exact jL (jK rfl (kD (HO_805001.out) BK804.out (by decide))));(case side2=>exact jL (jK rfl (kD (HO_4.out) BK804.out (by decide))));(case side3=>exact TabW.below HT.out (zT HB.out GE804.out));rintro e w39 ⟨v829,rfl,ho0,hb⟩;have HO830:=zA (kI (kF (kF (kF (kF (kF (kF (kA (ok' := fun k_=>True) ho0 (fun _ hk_=>trivial)) (kH (zP HO_4.out))) (kH (zP HO_5.out))) (kH (zP HO_805001.out))) (kH (zP HO818.out))) (kH (zP HO822.out))) (kH (zP HO826.out))) (kP (zT HB.out GE804.out)));replace HO_4:=zA (kE (zP HO_4.out) (kC ho0) hb);replace HO_5:=zA (kE (zP HO_5.out) (kC ho0) hb);replace HO_805001:=zA (kE (zP HO_805001.out) (kC ho0) hb);replace HO818:=zA (kE (zP HO818.out) (kC ho0) hb);replace HO822:=zA (kE (zP HO822.out) (kC ho0) hb);replace HO826:=zA (kE (zP HO826.out) (kC ho0) hb);replace BK804:=zA (zB1 BK804.out hb);replace HB:=zA (kQ (zT HB.out GE804.out) hb);(try clear ho0)))
    repeat (go_quiet (first | (go_at_call 18;(with_reducible refine (impl_HeightOf.calls kj6 t797 (fun k_=>some k_ = (.slice Ao11 t798.length co11:Value).ownBlock) _ _ t798 (fun k_=>some k_ = (.slice Ao14 t801.length co14:Value).ownBlock) _ _ t801 t814 t815 _ ?side1 ?side2 ?side3 A24.out).mono ?_);(case side1=>exact jL (jK rfl (kD (HO_805001.out) BK804.out (by decide))));(case side2=>exact jL (jK rfl (kD (HO_4.out) BK804.out (by decide))));(case side3=>exact TabW.below HT.out (zT HB.out GE804.out));rintro e w31 ⟨rfl,hb⟩;have n0_:=zA (kL (zP HO_4.out) hb);have n1_:=zA (kL (zP HO_5.out) hb);have n2_:=zA (kL (zP HO_805001.out) hb);have n3_:=zA (zB1 BK804.out hb);have n4_:=zA (kQ (zT HB.out GE804.out) hb);clear HO_4;clear HO_5;clear HO_805001;clear BK804;clear HB;have HO_4:=n0_;have HO_5:=n1_;have HO_805001:=n2_;have BK804:=n3_;have HB:=n4_;clear n0_ n1_ n2_ n3_ n4_;obtain ⟨hcz32_0,hcz32_1,hfz32_0,hfz32_1⟩:=zB3 BK804.out) | (go_at_call 19;(with_reducible refine (impl_FoataForm.calls kj6 t797 (fun k_=>some k_ = (.slice Ao11 t798.length co11:Value).ownBlock) _ _ t798 (fun k_=>some k_ = (.slice Ao14 t801.length co14:Value).ownBlock) _ _ t801 t816 t819 _ ?side1 ?side2 ?side3 A25.out).mono ?_);(case side1=>exact jL (jK rfl (kD (HO_805001.out) BK804.out (by decide))));(case side2=>exact jL (jK rfl (kD (HO_4.out) BK804.out (by decide))));(case side3=>exact TabW.below HT.out (zT HB.out GE804.out));rintro e w33 ⟨v817,rfl,ho0,hb⟩;have n0_:=zA (kE (zP HO_4.out) (kC ho0) hb);have n1_:=zA (kE (zP HO_5.out) (kC ho0) hb);have n2_:=zA (kE (zP HO_805001.out) (kC ho0) hb);have n3_:=zA (kI (kF (kF (kF (kA (ok' := fun k_=>True) ho0 (fun _ hk_=>trivial)) (kH (zP HO_4.out))) (kH (zP HO_5.out))) (kH (zP HO_805001.out))) (kP (zT HB.out GE804.out)));have n4_:=zA (zB1 BK804.out hb);have n5_:=zA (kQ (zT HB.out GE804.out) hb);clear HO_4;clear HO_5;clear HO_805001;clear BK804;clear HB;have HO_4:=n0_;have HO_5:=n1_;have HO_805001:=n2_;have HO818:=n3_;have BK804:=n4_;have HB:=n5_;clear n0_ n1_ n2_ n3_ n4_ n5_;(try clear ho0);obtain ⟨hcz34_0,hcz34_1,hfz34_0,hfz34_1⟩:=zB3 BK804.out) | (go_at_call 20;(with_reducible refine (impl_NormalForm.calls kj6 t797 (fun k_=>some k_ = (.slice Ao11 t798.length co11:Value).ownBlock) _ _ t798 (fun k_=>some k_ = (.slice Ao14 t801.length co14:Value).ownBlock) _ _ t801 t820 t823 _ ?side1 ?side2 ?side3 A26.out).mono ?_);(case side1=>exact jL (jK rfl (kD (HO_805001.out) BK804.out (by decide))));(case side2=>exact jL (jK rfl (kD (HO_4.out) BK804.out (by decide))));(case side3=>exact TabW.below HT.out (zT HB.out GE804.out));rintro e w35 ⟨v821,rfl,ho0,hb⟩;have n0_:=zA (kE (zP HO_4.out) (kC ho0) hb);have n1_:=zA (kE (zP HO_5.out) (kC ho0) hb);have n2_:=zA (kE (zP HO_805001.out) (kC ho0) hb);have n3_:=zA (kE (zP HO818.out) (kC ho0) hb);have n4_:=zA (kI (kF (kF (kF (kF (kA (ok' := fun k_=>True) ho0 (fun _ hk_=>trivial)) (kH (zP HO_4.out))) (kH (zP HO_5.out))) (kH (zP HO_805001.out))) (kH (zP HO818.out))) (kP (zT HB.out GE804.out)));have n5_:=zA (zB1 BK804.out hb);have n6_:=zA (kQ (zT HB.out GE804.out) hb);clear HO_4;clear HO_5;clear HO_805001;clear HO818;clear BK804;clear HB;have HO_4:=n0_;have HO_5:=n1_;have HO_805001:=n2_;have HO818:=n3_;have HO822:=n4_;have BK804:=n5_;have HB:=n6_;clear n0_ n1_ n2_ n3_ n4_ n5_ n6_;(try clear ho0);obtain ⟨hcz36_0,hcz36_1,hfz36_0,hfz36_1⟩:=zB3 BK804.out) | (go_at_call 21;(with_reducible refine (impl_OrderOf.calls kj6 t797 _ _ t798 (fun k_=>some k_ = (.slice Ao14 t801.length co14:Value).ownBlock) _ _ t801 t824 t827 _ ?side1 ?side2 ?side3 ?side4 A27.out).mono ?_);(case side1=>exact zS (kB HO_805001.out).2.2);(case side2=>exact (kB HO_805001.out).2.1);(case side3=>exact jL (jK rfl (kD (HO_4.out) BK804.out (by decide))));(case side4=>exact TabW.below HT.out (zT HB.out GE804.out));rintro e w37 ⟨v825,rfl,ho0,hb⟩;have n0_:=zA (kE (zP HO_4.out) (kC ho0) hb);have n1_:=zA (kE (zP HO_5.out) (kC ho0) hb);have n2_:=zA (kE (zP HO_805001.out) (kC ho0) hb);have n3_:=zA (kE (zP HO818.out) (kC ho0) hb);have n4_:=zA (kE (zP HO822.out) (kC ho0) hb);have n5_:=zA (kI (kF (kF (kF (kF (kF (kA (ok' := fun k_=>True) ho0 (fun _ hk_=>trivial)) (kH (zP HO_4.out))) (kH (zP HO_5.out))) (kH (zP HO_805001.out))) (kH (zP HO818.out))) (kH (zP HO822.out))) (kP (zT HB.out GE804.out)));have n6_:=zA (zB1 BK804.out hb);have n7_:=zA (kQ (zT HB.out GE804.out) hb);clear HO_4;clear HO_5;clear HO_805001;clear HO818;clear HO822;clear BK804;clear HB;have HO_4:=n0_;have HO_5:=n1_;have HO_805001:=n2_;have HO818:=n3_;have HO822:=n4_;have HO826:=n5_;have BK804:=n6_;have HB:=n7_;clear n0_ n1_ n2_ n3_ n4_ n5_ n6_ n7_;(try clear ho0);obtain ⟨hcz38_0,hcz38_1,hfz38_0,hfz38_1⟩:=zB3 BK804.out) | (go_at_call 22;(with_reducible refine (impl_LatestSteps.calls kj6 t797 (fun k_=>some k_ = (.slice Ao11 t798.length co11:Value).ownBlock) _ _ t798 (fun k_=>some k_ = (.slice Ao14 t801.length co14:Value).ownBlock) _ _ t801 t828 t831 _ ?side1 ?side2 ?side3 A28.out).mono ?_);(case side1=>exact jL (jK rfl (kD (HO_805001.out) BK804.out (by decide))));(case side2=>exact jL (jK rfl (kD (HO_4.out) BK804.out (by decide))));(case side3=>exact TabW.below HT.out (zT HB.out GE804.out));rintro e w39 ⟨v829,rfl,ho0,hb⟩;have n0_:=zA (kE (zP HO_4.out) (kC ho0) hb);have n1_:=zA (kE (zP HO_5.out) (kC ho0) hb);have n2_:=zA (kE (zP HO_805001.out) (kC ho0) hb);have n3_:=zA (kE (zP HO818.out) (kC ho0) hb);have n4_:=zA (kE (zP HO822.out) (kC ho0) hb);have n5_:=zA (kE (zP HO826.out) (kC ho0) hb);have n6_:=zA (kI (kF (kF (kF (kF (kF (kF (kA (ok' := fun k_=>True) ho0 (fun _ hk_=>trivial)) (kH (zP HO_4.out))) (kH (zP HO_5.out))) (kH (zP HO_805001.out))) (kH (zP HO818.out))) (kH (zP HO822.out))) (kH (zP HO826.out))) (kP (zT HB.out GE804.out)));have n7_:=zA (zB1 BK804.out hb);have n8_:=zA (kQ (zT HB.out GE804.out) hb);clear HO_4;clear HO_5;clear HO_805001;clear HO818;clear HO822;clear HO826;clear BK804;clear HB;have HO_4:=n0_;have HO_5:=n1_;have HO_805001:=n2_;have HO818:=n3_;have HO822:=n4_;have HO826:=n5_;have HO830:=n6_;have BK804:=n7_;have HB:=n8_;clear n0_ n1_ n2_ n3_ n4_ n5_ n6_ n7_ n8_;(try clear ho0)));go_upto_region 15 with (first | (go_at_call 18;(with_reducible refine (impl_HeightOf.calls kj6 t797 (fun k_=>some k_ = (.slice Ao11 t798.length co11:Value).ownBlock) _ _ t798 (fun k_=>some k_ = (.slice Ao14 t801.length co14:Value).ownBlock) _ _ t801 t814 t815 _ ?side1 ?side2 ?side3 A24.out).mono ?_);(case side1=>exact jL (jK rfl (kD (HO_805001.out) BK804.out (by decide))));(case side2=>exact jL (jK rfl (kD (HO_4.out) BK804.out (by decide))));(case side3=>exact TabW.below HT.out (zT HB.out GE804.out));rintro e w31 ⟨rfl,hb⟩;replace HO_4:=zA (kL (zP HO_4.out) hb);replace HO_5:=zA (kL (zP HO_5.out) hb);replace HO_805001:=zA (kL (zP HO_805001.out) hb);replace BK804:=zA (zB1 BK804.out hb);replace HB:=zA (kQ (zT HB.out GE804.out) hb);obtain ⟨hcz32_0,hcz32_1,hfz32_0,hfz32_1⟩:=zB3 BK804.out) | (go_at_call 19;(with_reducible refine (impl_FoataForm.calls kj6 t797 (fun k_=>some k_ = (.slice Ao11 t798.length co11:Value).ownBlock) _ _ t798 (fun k_=>some k_ = (.slice Ao14 t801.length co14:Value).ownBlock) _ _ t801 t816 t819 _ ?side1 ?side2 ?side3 A25.out).mono ?_);(case side1=>exact jL (jK rfl (kD (HO_805001.out) BK804.out (by decide))));(case side2=>exact jL (jK rfl (kD (HO_4.out) BK804.out (by decide))));(case side3=>exact TabW.below HT.out (zT HB.out GE804.out));rintro e w33 ⟨v817,rfl,ho0,hb⟩;have HO818:=zA (kI (kF (kF (kF (kA (ok' := fun k_=>True) ho0 (fun _ hk_=>trivial)) (kH (zP HO_4.out))) (kH (zP HO_5.out))) (kH (zP HO_805001.out))) (kP (zT HB.out GE804.out)));replace HO_4:=zA (kE (zP HO_4.out) (kC ho0) hb);replace HO_5:=zA (kE (zP HO_5.out) (kC ho0) hb);replace HO_805001:=zA (kE (zP HO_805001.out) (kC ho0) hb);replace BK804:=zA (zB1 BK804.out hb);replace HB:=zA (kQ (zT HB.out GE804.out) hb);(try clear ho0);obtain ⟨hcz34_0,hcz34_1,hfz34_0,hfz34_1⟩:=zB3 BK804.out) | (go_at_call 20;(with_reducible refine (impl_NormalForm.calls kj6 t797 (fun k_=>some k_ = (.slice Ao11 t798.length co11:Value).ownBlock) _ _ t798 (fun k_=>some k_ = (.slice Ao14 t801.length co14:Value).ownBlock) _ _ t801 t820 t823 _ ?side1 ?side2 ?side3 A26.out).mono ?_);(case side1=>exact jL (jK rfl (kD (HO_805001.out) BK804.out (by decide))));(case side2=>exact jL (jK rfl (kD (HO_4.out) BK804.out (by decide))));(case side3=>exact TabW.below HT.out (zT HB.out GE804.out));rintro e w35 ⟨v821,rfl,ho0,hb⟩;have HO822:=zA (kI (kF (kF (kF (kF (kA (ok' := fun k_=>True) ho0 (fun _ hk_=>trivial)) (kH (zP HO_4.out))) (kH (zP HO_5.out))) (kH (zP HO_805001.out))) (kH (zP HO818.out))) (kP (zT HB.out GE804.out)));replace HO_4:=zA (kE (zP HO_4.out) (kC ho0) hb);replace HO_5:=zA (kE (zP HO_5.out) (kC ho0) hb);replace HO_805001:=zA (kE (zP HO_805001.out) (kC ho0) hb);replace HO818:=zA (kE (zP HO818.out) (kC ho0) hb);replace BK804:=zA (zB1 BK804.out hb);replace HB:=zA (kQ (zT HB.out GE804.out) hb);(try clear ho0);obtain ⟨hcz36_0,hcz36_1,hfz36_0,hfz36_1⟩:=zB3 BK804.out) | (go_at_call 21;(with_reducible refine (impl_OrderOf.calls kj6 t797 _ _ t798 (fun k_=>some k_ = (.slice Ao14 t801.length co14:Value).ownBlock) _ _ t801 t824 t827 _ ?side1 ?side2 ?side3 ?side4 A27.out).mono ?_);(case side1=>exact zS (kB HO_805001.out).2.2);(case side2=>exact (kB HO_805001.out).2.1);(case side3=>exact jL (jK rfl (kD (HO_4.out) BK804.out (by decide))));(case side4=>exact TabW.below HT.out (zT HB.out GE804.out));rintro e w37 ⟨v825,rfl,ho0,hb⟩;have HO826:=zA (kI (kF (kF (kF (kF (kF (kA (ok' := fun k_=>True) ho0 (fun _ hk_=>trivial)) (kH (zP HO_4.out))) (kH (zP HO_5.out))) (kH (zP HO_805001.out))) (kH (zP HO818.out))) (kH (zP HO822.out))) (kP (zT HB.out GE804.out)));replace HO_4:=zA (kE (zP HO_4.out) (kC ho0) hb);replace HO_5:=zA (kE (zP HO_5.out) (kC ho0) hb);replace HO_805001:=zA (kE (zP HO_805001.out) (kC ho0) hb);replace HO818:=zA (kE (zP HO818.out) (kC ho0) hb);replace HO822:=zA (kE (zP HO822.out) (kC ho0) hb);replace BK804:=zA (zB1 BK804.out hb);replace HB:=zA (kQ (zT HB.out GE804.out) hb);(try clear ho0);obtain ⟨hcz38_0,hcz38_1,hfz38_0,hfz38_1⟩:=zB3 BK804.out) | (go_at_call 22;(with_reducible refine (impl_LatestSteps.calls kj6 t797 (fun k_=>some k_ = (.slice Ao11 t798.length co11:Value).ownBlock) _ _ t798 (fun k_=>some k_ = (.slice Ao14 t801.length co14:Value).ownBlock) _ _ t801 t828 t831 _ ?side1 ?side2 ?side3 A28.out).mono ?_);(case side1=>exact jL (jK rfl (kD (HO_805001.out) BK804.out (by decide))));(case side2=>exact jL (jK rfl (kD (HO_4.out) BK804.out (by decide))));(case side3=>exact TabW.below HT.out (zT HB.out GE804.out));rintro e w39 ⟨v829,rfl,ho0,hb⟩;have HO830:=zA (kI (kF (kF (kF (kF (kF (kF (kA (ok' := fun k_=>True) ho0 (fun _ hk_=>trivial)) (kH (zP HO_4.out))) (kH (zP HO_5.out))) (kH (zP HO_805001.out))) (kH (zP HO818.out))) (kH (zP HO822.out))) (kH (zP HO826.out))) (kP (zT HB.out GE804.out)));replace HO_4:=zA (kE (zP HO_4.out) (kC ho0) hb);replace HO_5:=zA (kE (zP HO_5.out) (kC ho0) hb);replace HO_805001:=zA (kE (zP HO_805001.out) (kC ho0) hb);replace HO818:=zA (kE (zP HO818.out) (kC ho0) hb);replace HO822:=zA (kE (zP HO822.out) (kC ho0) hb);replace HO826:=zA (kE (zP HO826.out) (kC ho0) hb);replace BK804:=zA (zB1 BK804.out hb);replace HB:=zA (kQ (zT HB.out GE804.out) hb);(try clear ho0))))
    (try simp only [Act.put,zL,zM,zN])
    go_cut [125] (fun v125 wc=>∃ (kq:Nat) (x125_28:Bool),v125 = .bool x125_28 ∧ Aside0 (laws_FnHeights.j1 kq t801 t805 t814 t816 t820 t824 t828 x125_28 t797 t798 = some r) ∧ Aside0 (kq ≤ kj6) ∧ Aside0 (Kd.R (Kd.int .i64) 2 wc w.heap.size (fun k_=>some k_ ≠ (v806:Value).ownBlock ∧ some k_ ≠ (v817:Value).ownBlock ∧ some k_ ≠ (v821:Value).ownBlock ∧ some k_ ≠ (v825:Value).ownBlock ∧ some k_ ≠ (v829:Value).ownBlock ∧ some k_ ≠ ((.slice Ao11 t798.length co11):Value).ownBlock) (.slice Ao14 t801.length co14) t801) ∧ Aside0 (Kd.R (Kd.int .i64) 2 wc w.heap.size (fun k_=>some k_ ≠ ((.slice Ao14 t801.length co14):Value).ownBlock ∧ some k_ ≠ (v817:Value).ownBlock ∧ some k_ ≠ (v821:Value).ownBlock ∧ some k_ ≠ (v825:Value).ownBlock ∧ some k_ ≠ (v829:Value).ownBlock ∧ some k_ ≠ ((.slice Ao11 t798.length co11):Value).ownBlock) v806 t805) ∧ Aside0 (Kd.R (Kd.int .i64) 2 wc w.heap.size (fun k_=>some k_ ≠ ((.slice Ao14 t801.length co14):Value).ownBlock ∧ some k_ ≠ (v806:Value).ownBlock ∧ some k_ ≠ (v821:Value).ownBlock ∧ some k_ ≠ (v825:Value).ownBlock ∧ some k_ ≠ (v829:Value).ownBlock ∧ some k_ ≠ ((.slice Ao11 t798.length co11):Value).ownBlock) v817 t816) ∧ Aside0 (Kd.R (Kd.int .i64) 2 wc w.heap.size (fun k_=>some k_ ≠ ((.slice Ao14 t801.length co14):Value).ownBlock ∧ some k_ ≠ (v806:Value).ownBlock ∧ some k_ ≠ (v817:Value).ownBlock ∧ some k_ ≠ (v825:Value).ownBlock ∧ some k_ ≠ (v829:Value).ownBlock ∧ some k_ ≠ ((.slice Ao11 t798.length co11):Value).ownBlock) v821 t820) ∧ Aside0 (Kd.R (Kd.int .i64) 2 wc w.heap.size (fun k_=>some k_ ≠ ((.slice Ao14 t801.length co14):Value).ownBlock ∧ some k_ ≠ (v806:Value).ownBlock ∧ some k_ ≠ (v817:Value).ownBlock ∧ some k_ ≠ (v821:Value).ownBlock ∧ some k_ ≠ (v829:Value).ownBlock ∧ some k_ ≠ ((.slice Ao11 t798.length co11):Value).ownBlock) v825 t824) ∧ Aside0 (Kd.R (Kd.int .i64) 2 wc w.heap.size (fun k_=>some k_ ≠ ((.slice Ao14 t801.length co14):Value).ownBlock ∧ some k_ ≠ (v806:Value).ownBlock ∧ some k_ ≠ (v817:Value).ownBlock ∧ some k_ ≠ (v821:Value).ownBlock ∧ some k_ ≠ (v825:Value).ownBlock ∧ some k_ ≠ ((.slice Ao11 t798.length co11):Value).ownBlock) v829 t828) ∧ Aside0 (Kd.R (Kd.int .i64) 2 wc w.heap.size (fun k_=>some k_ ≠ ((.slice Ao14 t801.length co14):Value).ownBlock ∧ some k_ ≠ (v806:Value).ownBlock ∧ some k_ ≠ (v817:Value).ownBlock ∧ some k_ ≠ (v821:Value).ownBlock ∧ some k_ ≠ (v825:Value).ownBlock ∧ some k_ ≠ (v829:Value).ownBlock) (.slice Ao11 t798.length co11) t798) ∧ Aside0 (wc.heap[gb804]? = some (.cells #[.int .i64 t797,(.slice Ao11 t798.length co11)] 28 (0,0))) ∧ Aside0 (Below w.heap.size w wc))
    case first=>as_aux_lemma =>
     have H:=HC29.out
     clear HC29
     by_cases c40:t815 = 0
     ·rw [if_pos c40] at H
      obtain ⟨c40b0,c40b1⟩:=zT1 c40
      clear c40
      (first | rw [c40b0] | (simp only [i64_w,i32_w];rw [c40b0]) | skip)
      by_cases c41:t819 = 0
      ·rw [if_pos c41] at H
       obtain ⟨c41b0,c41b1⟩:=zT1 c41
       clear c41
       by_cases c42:t823 = 0
       ·rw [if_pos c42] at H
        obtain ⟨c42b0,c42b1⟩:=zT1 c42
        clear c42
        by_cases c43:t827 = 0
        ·rw [if_pos c43] at H
         obtain ⟨c43b0,c43b1⟩:=zT1 c43
         clear c43
         by_cases c44:t831 = 0
         ·rw [if_pos c44] at H
          obtain ⟨c44b0,c44b1⟩:=zT1 c44
          clear c44
          by_cases c45:(t828.length:Int) = (t820.length:Int)
          ·rw [if_pos c45] at H
           obtain ⟨c45b0,c45b1⟩:=zT1 c45
           have c45b2:(t828.length == t820.length) = true:=by first | simpa using c45 | (simp at c45 ⊢;omega)
           clear c45
           by_cases c46:(t820.length:Int) = (t801.length:Int)
           ·rw [if_pos c46] at H
            obtain ⟨c46b0,c46b1⟩:=zT1 c46
            have c46b2:(t820.length == t801.length) = true:=by first | simpa using c46 | (simp at c46 ⊢;omega)
            clear c46
            have H' := zA H
            clear H
            obtain ⟨Ao47,co47,eo47⟩:=kM HO830.out
            subst eo47
            obtain ⟨Ao48,co48,eo48⟩:=kM HO822.out
            subst eo48
            obtain ⟨Ao49,co49,eo49⟩:=kM HO826.out
            subst eo49
            go_wp2
            repeat (go_quiet (fail);try go_wp2)
            go_meet
            case rel=>exact ⟨_,(((t824.length:Int) != (t801.length:Int))),zs,H', ⟨by have:=HJ6.out;first | omega | exact Nat.le_refl _⟩,⟨zPM HO_4.out (fun _ hk=>⟨hk.1.1.1.1.1,⟨hk.1.1.1.2,⟨hk.1.1.2,⟨hk.1.2,⟨hk.2,hk.1.1.1.1.2⟩⟩⟩⟩⟩)⟩,⟨zPM HO_5.out (fun _ hk=>⟨hk.1.1.1.1.1,⟨hk.1.1.1.2,⟨hk.1.1.2,⟨hk.1.2,⟨hk.2,hk.1.1.1.1.2⟩⟩⟩⟩⟩)⟩,⟨zPM HO818.out (fun _ hk=>⟨hk.1.1.1.1.1.2,⟨hk.1.1.1.1.2,⟨hk.1.1.2,⟨hk.1.2,⟨hk.2,hk.1.1.1.2⟩⟩⟩⟩⟩)⟩,⟨zPM HO822.out (fun _ hk=>⟨hk.1.1.1.1.1.2,⟨hk.1.1.1.1.2,⟨hk.1.1.2,⟨hk.1.2,⟨hk.2,hk.1.1.1.2⟩⟩⟩⟩⟩)⟩,⟨zPM HO826.out (fun _ hk=>⟨hk.1.1.1.1.1.2,⟨hk.1.1.1.1.2,⟨hk.1.1.2,⟨hk.1.2,⟨hk.2,hk.1.1.1.2⟩⟩⟩⟩⟩)⟩,⟨zPM HO830.out (fun _ hk=>⟨hk.1.1.1.1.1.2,⟨hk.1.1.1.1.2,⟨hk.1.1.2,⟨hk.1.2,⟨hk.2,hk.1.1.1.2⟩⟩⟩⟩⟩)⟩,⟨zPM HO_805001.out (fun _ hk=>⟨hk.1.1.1.1.1,⟨hk.1.1.1.1.2,⟨hk.1.1.1.2,⟨hk.1.1.2,⟨hk.1.2,hk.2⟩⟩⟩⟩⟩)⟩,⟨zR BK804.out⟩,⟨zT HB.out GE804.out⟩⟩
           rw [if_neg c46] at H
           obtain ⟨c46b0,c46b1⟩:=zT2 c46
           have c46b2:(t820.length == t801.length) = false:=by first | simpa using c46 | (simp at c46 ⊢;omega)
           have H' := zA H
           clear H
           obtain ⟨Ao50,co50,eo50⟩:=kM HO830.out
           subst eo50
           obtain ⟨Ao51,co51,eo51⟩:=kM HO822.out
           subst eo51
           go_wp2
           repeat (go_quiet (fail);try go_wp2)
           go_meet
           case rel=>exact ⟨_,(true),zs,H', ⟨by have:=HJ6.out;first | omega | exact Nat.le_refl _⟩,⟨zPM HO_4.out (fun _ hk=>⟨hk.1.1.1.1.1,⟨hk.1.1.1.2,⟨hk.1.1.2,⟨hk.1.2,⟨hk.2,hk.1.1.1.1.2⟩⟩⟩⟩⟩)⟩,⟨zPM HO_5.out (fun _ hk=>⟨hk.1.1.1.1.1,⟨hk.1.1.1.2,⟨hk.1.1.2,⟨hk.1.2,⟨hk.2,hk.1.1.1.1.2⟩⟩⟩⟩⟩)⟩,⟨zPM HO818.out (fun _ hk=>⟨hk.1.1.1.1.1.2,⟨hk.1.1.1.1.2,⟨hk.1.1.2,⟨hk.1.2,⟨hk.2,hk.1.1.1.2⟩⟩⟩⟩⟩)⟩,⟨zPM HO822.out (fun _ hk=>⟨hk.1.1.1.1.1.2,⟨hk.1.1.1.1.2,⟨hk.1.1.2,⟨hk.1.2,⟨hk.2,hk.1.1.1.2⟩⟩⟩⟩⟩)⟩,⟨zPM HO826.out (fun _ hk=>⟨hk.1.1.1.1.1.2,⟨hk.1.1.1.1.2,⟨hk.1.1.2,⟨hk.1.2,⟨hk.2,hk.1.1.1.2⟩⟩⟩⟩⟩)⟩,⟨zPM HO830.out (fun _ hk=>⟨hk.1.1.1.1.1.2,⟨hk.1.1.1.1.2,⟨hk.1.1.2,⟨hk.1.2,⟨hk.2,hk.1.1.1.2⟩⟩⟩⟩⟩)⟩,⟨zPM HO_805001.out (fun _ hk=>⟨hk.1.1.1.1.1,⟨hk.1.1.1.1.2,⟨hk.1.1.1.2,⟨hk.1.1.2,⟨hk.1.2,hk.2⟩⟩⟩⟩⟩)⟩,⟨zR BK804.out⟩,⟨zT HB.out GE804.out⟩⟩
          rw [if_neg c45] at H
          obtain ⟨c45b0,c45b1⟩:=zT2 c45
          have c45b2:(t828.length == t820.length) = false:=by first | simpa using c45 | (simp at c45 ⊢;omega)
          have H' := zA H
          clear H
          obtain ⟨Ao52,co52,eo52⟩:=kM HO830.out
          subst eo52
          obtain ⟨Ao53,co53,eo53⟩:=kM HO822.out
          subst eo53
          go_wp2
          repeat (go_quiet (fail);try go_wp2)
          go_meet
          case rel=>exact ⟨_,(true),zs,H', ⟨by have:=HJ6.out;first | omega | exact Nat.le_refl _⟩,⟨zPM HO_4.out (fun _ hk=>⟨hk.1.1.1.1.1,⟨hk.1.1.1.2,⟨hk.1.1.2,⟨hk.1.2,⟨hk.2,hk.1.1.1.1.2⟩⟩⟩⟩⟩)⟩,⟨zPM HO_5.out (fun _ hk=>⟨hk.1.1.1.1.1,⟨hk.1.1.1.2,⟨hk.1.1.2,⟨hk.1.2,⟨hk.2,hk.1.1.1.1.2⟩⟩⟩⟩⟩)⟩,⟨zPM HO818.out (fun _ hk=>⟨hk.1.1.1.1.1.2,⟨hk.1.1.1.1.2,⟨hk.1.1.2,⟨hk.1.2,⟨hk.2,hk.1.1.1.2⟩⟩⟩⟩⟩)⟩,⟨zPM HO822.out (fun _ hk=>⟨hk.1.1.1.1.1.2,⟨hk.1.1.1.1.2,⟨hk.1.1.2,⟨hk.1.2,⟨hk.2,hk.1.1.1.2⟩⟩⟩⟩⟩)⟩,⟨zPM HO826.out (fun _ hk=>⟨hk.1.1.1.1.1.2,⟨hk.1.1.1.1.2,⟨hk.1.1.2,⟨hk.1.2,⟨hk.2,hk.1.1.1.2⟩⟩⟩⟩⟩)⟩,⟨zPM HO830.out (fun _ hk=>⟨hk.1.1.1.1.1.2,⟨hk.1.1.1.1.2,⟨hk.1.1.2,⟨hk.1.2,⟨hk.2,hk.1.1.1.2⟩⟩⟩⟩⟩)⟩,⟨zPM HO_805001.out (fun _ hk=>⟨hk.1.1.1.1.1,⟨hk.1.1.1.1.2,⟨hk.1.1.1.2,⟨hk.1.1.2,⟨hk.1.2,hk.2⟩⟩⟩⟩⟩)⟩,⟨zR BK804.out⟩,⟨zT HB.out GE804.out⟩⟩
         rw [if_neg c44] at H
         obtain ⟨c44b0,c44b1⟩:=zT2 c44
         have H' := zA H
         clear H
         go_wp2
         repeat (go_quiet (fail);try go_wp2)
         go_meet
         case rel=>exact ⟨_,(true),zs,H', ⟨by have:=HJ6.out;first | omega | exact Nat.le_refl _⟩,⟨zPM HO_4.out (fun _ hk=>⟨hk.1.1.1.1.1,⟨hk.1.1.1.2,⟨hk.1.1.2,⟨hk.1.2,⟨hk.2,hk.1.1.1.1.2⟩⟩⟩⟩⟩)⟩,⟨zPM HO_5.out (fun _ hk=>⟨hk.1.1.1.1.1,⟨hk.1.1.1.2,⟨hk.1.1.2,⟨hk.1.2,⟨hk.2,hk.1.1.1.1.2⟩⟩⟩⟩⟩)⟩,⟨zPM HO818.out (fun _ hk=>⟨hk.1.1.1.1.1.2,⟨hk.1.1.1.1.2,⟨hk.1.1.2,⟨hk.1.2,⟨hk.2,hk.1.1.1.2⟩⟩⟩⟩⟩)⟩,⟨zPM HO822.out (fun _ hk=>⟨hk.1.1.1.1.1.2,⟨hk.1.1.1.1.2,⟨hk.1.1.2,⟨hk.1.2,⟨hk.2,hk.1.1.1.2⟩⟩⟩⟩⟩)⟩,⟨zPM HO826.out (fun _ hk=>⟨hk.1.1.1.1.1.2,⟨hk.1.1.1.1.2,⟨hk.1.1.2,⟨hk.1.2,⟨hk.2,hk.1.1.1.2⟩⟩⟩⟩⟩)⟩,⟨zPM HO830.out (fun _ hk=>⟨hk.1.1.1.1.1.2,⟨hk.1.1.1.1.2,⟨hk.1.1.2,⟨hk.1.2,⟨hk.2,hk.1.1.1.2⟩⟩⟩⟩⟩)⟩,⟨zPM HO_805001.out (fun _ hk=>⟨hk.1.1.1.1.1,⟨hk.1.1.1.1.2,⟨hk.1.1.1.2,⟨hk.1.1.2,⟨hk.1.2,hk.2⟩⟩⟩⟩⟩)⟩,⟨zR BK804.out⟩,⟨zT HB.out GE804.out⟩⟩
        rw [if_neg c43] at H
        obtain ⟨c43b0,c43b1⟩:=zT2 c43
        have H' := zA H
        clear H
        go_wp2
        repeat (go_quiet (fail);try go_wp2)
        go_meet
        case rel=>exact ⟨_,(true),zs,H', ⟨by have:=HJ6.out;first | omega | exact Nat.le_refl _⟩,⟨zPM HO_4.out (fun _ hk=>⟨hk.1.1.1.1.1,⟨hk.1.1.1.2,⟨hk.1.1.2,⟨hk.1.2,⟨hk.2,hk.1.1.1.1.2⟩⟩⟩⟩⟩)⟩,⟨zPM HO_5.out (fun _ hk=>⟨hk.1.1.1.1.1,⟨hk.1.1.1.2,⟨hk.1.1.2,⟨hk.1.2,⟨hk.2,hk.1.1.1.1.2⟩⟩⟩⟩⟩)⟩,⟨zPM HO818.out (fun _ hk=>⟨hk.1.1.1.1.1.2,⟨hk.1.1.1.1.2,⟨hk.1.1.2,⟨hk.1.2,⟨hk.2,hk.1.1.1.2⟩⟩⟩⟩⟩)⟩,⟨zPM HO822.out (fun _ hk=>⟨hk.1.1.1.1.1.2,⟨hk.1.1.1.1.2,⟨hk.1.1.2,⟨hk.1.2,⟨hk.2,hk.1.1.1.2⟩⟩⟩⟩⟩)⟩,⟨zPM HO826.out (fun _ hk=>⟨hk.1.1.1.1.1.2,⟨hk.1.1.1.1.2,⟨hk.1.1.2,⟨hk.1.2,⟨hk.2,hk.1.1.1.2⟩⟩⟩⟩⟩)⟩,⟨zPM HO830.out (fun _ hk=>⟨hk.1.1.1.1.1.2,⟨hk.1.1.1.1.2,⟨hk.1.1.2,⟨hk.1.2,⟨hk.2,hk.1.1.1.2⟩⟩⟩⟩⟩)⟩,⟨zPM HO_805001.out (fun _ hk=>⟨hk.1.1.1.1.1,⟨hk.1.1.1.1.2,⟨hk.1.1.1.2,⟨hk.1.1.2,⟨hk.1.2,hk.2⟩⟩⟩⟩⟩)⟩,⟨zR BK804.out⟩,⟨zT HB.out GE804.out⟩⟩
       rw [if_neg c42] at H
       obtain ⟨c42b0,c42b1⟩:=zT2 c42
       have H' := zA H
       clear H
       go_wp2
       repeat (go_quiet (fail);try go_wp2)
       go_meet
       case rel=>exact ⟨_,(true),zs,H', ⟨by have:=HJ6.out;first | omega | exact Nat.le_refl _⟩,⟨zPM HO_4.out (fun _ hk=>⟨hk.1.1.1.1.1,⟨hk.1.1.1.2,⟨hk.1.1.2,⟨hk.1.2,⟨hk.2,hk.1.1.1.1.2⟩⟩⟩⟩⟩)⟩,⟨zPM HO_5.out (fun _ hk=>⟨hk.1.1.1.1.1,⟨hk.1.1.1.2,⟨hk.1.1.2,⟨hk.1.2,⟨hk.2,hk.1.1.1.1.2⟩⟩⟩⟩⟩)⟩,⟨zPM HO818.out (fun _ hk=>⟨hk.1.1.1.1.1.2,⟨hk.1.1.1.1.2,⟨hk.1.1.2,⟨hk.1.2,⟨hk.2,hk.1.1.1.2⟩⟩⟩⟩⟩)⟩,⟨zPM HO822.out (fun _ hk=>⟨hk.1.1.1.1.1.2,⟨hk.1.1.1.1.2,⟨hk.1.1.2,⟨hk.1.2,⟨hk.2,hk.1.1.1.2⟩⟩⟩⟩⟩)⟩,⟨zPM HO826.out (fun _ hk=>⟨hk.1.1.1.1.1.2,⟨hk.1.1.1.1.2,⟨hk.1.1.2,⟨hk.1.2,⟨hk.2,hk.1.1.1.2⟩⟩⟩⟩⟩)⟩,⟨zPM HO830.out (fun _ hk=>⟨hk.1.1.1.1.1.2,⟨hk.1.1.1.1.2,⟨hk.1.1.2,⟨hk.1.2,⟨hk.2,hk.1.1.1.2⟩⟩⟩⟩⟩)⟩,⟨zPM HO_805001.out (fun _ hk=>⟨hk.1.1.1.1.1,⟨hk.1.1.1.1.2,⟨hk.1.1.1.2,⟨hk.1.1.2,⟨hk.1.2,hk.2⟩⟩⟩⟩⟩)⟩,⟨zR BK804.out⟩,⟨zT HB.out GE804.out⟩⟩
      rw [if_neg c41] at H
      obtain ⟨c41b0,c41b1⟩:=zT2 c41
      have H' := zA H
      clear H
      go_wp2
      repeat (go_quiet (fail);try go_wp2)
      go_meet
      case rel=>exact ⟨_,(true),zs,H', ⟨by have:=HJ6.out;first | omega | exact Nat.le_refl _⟩,⟨zPM HO_4.out (fun _ hk=>⟨hk.1.1.1.1.1,⟨hk.1.1.1.2,⟨hk.1.1.2,⟨hk.1.2,⟨hk.2,hk.1.1.1.1.2⟩⟩⟩⟩⟩)⟩,⟨zPM HO_5.out (fun _ hk=>⟨hk.1.1.1.1.1,⟨hk.1.1.1.2,⟨hk.1.1.2,⟨hk.1.2,⟨hk.2,hk.1.1.1.1.2⟩⟩⟩⟩⟩)⟩,⟨zPM HO818.out (fun _ hk=>⟨hk.1.1.1.1.1.2,⟨hk.1.1.1.1.2,⟨hk.1.1.2,⟨hk.1.2,⟨hk.2,hk.1.1.1.2⟩⟩⟩⟩⟩)⟩,⟨zPM HO822.out (fun _ hk=>⟨hk.1.1.1.1.1.2,⟨hk.1.1.1.1.2,⟨hk.1.1.2,⟨hk.1.2,⟨hk.2,hk.1.1.1.2⟩⟩⟩⟩⟩)⟩,⟨zPM HO826.out (fun _ hk=>⟨hk.1.1.1.1.1.2,⟨hk.1.1.1.1.2,⟨hk.1.1.2,⟨hk.1.2,⟨hk.2,hk.1.1.1.2⟩⟩⟩⟩⟩)⟩,⟨zPM HO830.out (fun _ hk=>⟨hk.1.1.1.1.1.2,⟨hk.1.1.1.1.2,⟨hk.1.1.2,⟨hk.1.2,⟨hk.2,hk.1.1.1.2⟩⟩⟩⟩⟩)⟩,⟨zPM HO_805001.out (fun _ hk=>⟨hk.1.1.1.1.1,⟨hk.1.1.1.1.2,⟨hk.1.1.1.2,⟨hk.1.1.2,⟨hk.1.2,hk.2⟩⟩⟩⟩⟩)⟩,⟨zR BK804.out⟩,⟨zT HB.out GE804.out⟩⟩
     rw [if_neg c40] at H
     obtain ⟨c40b0,c40b1⟩:=zT2 c40
     (first | rw [c40b0] | (simp only [i64_w,i32_w];rw [c40b0]) | skip)
     have H' := zA H
     clear H
     go_wp2
     repeat (go_quiet (fail);try go_wp2)
     go_meet
     case rel=>exact ⟨_,(true),zs,H', ⟨by have:=HJ6.out;first | omega | exact Nat.le_refl _⟩,⟨zPM HO_4.out (fun _ hk=>⟨hk.1.1.1.1.1,⟨hk.1.1.1.2,⟨hk.1.1.2,⟨hk.1.2,⟨hk.2,hk.1.1.1.1.2⟩⟩⟩⟩⟩)⟩,⟨zPM HO_5.out (fun _ hk=>⟨hk.1.1.1.1.1,⟨hk.1.1.1.2,⟨hk.1.1.2,⟨hk.1.2,⟨hk.2,hk.1.1.1.1.2⟩⟩⟩⟩⟩)⟩,⟨zPM HO818.out (fun _ hk=>⟨hk.1.1.1.1.1.2,⟨hk.1.1.1.1.2,⟨hk.1.1.2,⟨hk.1.2,⟨hk.2,hk.1.1.1.2⟩⟩⟩⟩⟩)⟩,⟨zPM HO822.out (fun _ hk=>⟨hk.1.1.1.1.1.2,⟨hk.1.1.1.1.2,⟨hk.1.1.2,⟨hk.1.2,⟨hk.2,hk.1.1.1.2⟩⟩⟩⟩⟩)⟩,⟨zPM HO826.out (fun _ hk=>⟨hk.1.1.1.1.1.2,⟨hk.1.1.1.1.2,⟨hk.1.1.2,⟨hk.1.2,⟨hk.2,hk.1.1.1.2⟩⟩⟩⟩⟩)⟩,⟨zPM HO830.out (fun _ hk=>⟨hk.1.1.1.1.1.2,⟨hk.1.1.1.1.2,⟨hk.1.1.2,⟨hk.1.2,⟨hk.2,hk.1.1.1.2⟩⟩⟩⟩⟩)⟩,⟨zPM HO_805001.out (fun _ hk=>⟨hk.1.1.1.1.1,⟨hk.1.1.1.1.2,⟨hk.1.1.1.2,⟨hk.1.1.2,⟨hk.1.2,hk.2⟩⟩⟩⟩⟩)⟩,⟨zR BK804.out⟩,⟨zT HB.out GE804.out⟩⟩
    case rest =>
     clear HC29
     try clear c1
     try clear c2
     try clear c3
     try clear c4
     try clear c18
     try clear c22
     try clear c23
     try clear c40
     try clear c41
     try clear c42
     try clear c43
     try clear c44
     try clear c45
     try clear c46
     try clear hcz10_0
     try clear hcz10_1
     try clear hcz13_0
     try clear hcz13_1
     try clear hcz16_0
     try clear hcz16_1
     try clear hcz30_0
     try clear hcz30_1
     try clear hcz32_0
     try clear hcz32_1
     try clear hcz34_0
     try clear hcz34_1
     try clear hcz36_0
     try clear hcz36_1
     try clear hcz38_0
     try clear hcz38_1
     try clear hfz10_0
     try clear hfz10_1
     try clear hfz13_0
     try clear hfz13_1
     try clear hfz16_0
     try clear hfz16_1
     try clear hfz30_0
     try clear hfz30_1
     try clear hfz32_0
     try clear hfz32_1
     try clear hfz34_0
     try clear hfz34_1
     try clear hfz36_0
     try clear hfz36_1
     try clear hfz38_0
     try clear hfz38_1
     obtain ⟨kq,x125_28,rfl,HA,HJ28,HO_4,HO_5,HO_11,HO_13,HO_15,HO_17,HO_805001,BK804,HB⟩:=hcut
     cases kq with
     | zero=>exact absurd HA.out (by simp [laws_FnHeights.j1])
     | succ kj28 =>
      have H:=HA.out
      clear HA
      simp only [laws_FnHeights.j1] at H
      by_cases c54:x125_28 = true
      ·subst c54
       rw [if_pos rfl] at H
       exact absurd H (by simp)
      replace c54:=Bool.eq_false_iff.mpr c54
      subst c54
      rw [if_neg (show ¬ (false = true) by decide)] at H
      have HC55:=zA H
      clear H
      go_upto_region 17 with (fail)
      repeat (go_quiet (fail);go_upto_region 17 with (fail))
      go_cut [135] (fun v135 wc=>∃ (kq:Nat) (x135_54:Bool),v135 = .bool x135_54 ∧ Aside0 (laws_FnHeights.j2 kq t801 t805 t814 t816 t820 t824 t828 x135_54 t797 t798 = some r) ∧ Aside0 (kq ≤ kj28) ∧ Aside0 (Kd.R (Kd.int .i64) 2 wc w.heap.size (fun k_=>some k_ ≠ (v806:Value).ownBlock ∧ some k_ ≠ (v817:Value).ownBlock ∧ some k_ ≠ (v821:Value).ownBlock ∧ some k_ ≠ (v825:Value).ownBlock ∧ some k_ ≠ (v829:Value).ownBlock ∧ some k_ ≠ ((.slice Ao11 t798.length co11):Value).ownBlock) (.slice Ao14 t801.length co14) t801) ∧ Aside0 (Kd.R (Kd.int .i64) 2 wc w.heap.size (fun k_=>some k_ ≠ ((.slice Ao14 t801.length co14):Value).ownBlock ∧ some k_ ≠ (v817:Value).ownBlock ∧ some k_ ≠ (v821:Value).ownBlock ∧ some k_ ≠ (v825:Value).ownBlock ∧ some k_ ≠ (v829:Value).ownBlock ∧ some k_ ≠ ((.slice Ao11 t798.length co11):Value).ownBlock) v806 t805) ∧ Aside0 (Kd.R (Kd.int .i64) 2 wc w.heap.size (fun k_=>some k_ ≠ ((.slice Ao14 t801.length co14):Value).ownBlock ∧ some k_ ≠ (v806:Value).ownBlock ∧ some k_ ≠ (v821:Value).ownBlock ∧ some k_ ≠ (v825:Value).ownBlock ∧ some k_ ≠ (v829:Value).ownBlock ∧ some k_ ≠ ((.slice Ao11 t798.length co11):Value).ownBlock) v817 t816) ∧ Aside0 (Kd.R (Kd.int .i64) 2 wc w.heap.size (fun k_=>some k_ ≠ ((.slice Ao14 t801.length co14):Value).ownBlock ∧ some k_ ≠ (v806:Value).ownBlock ∧ some k_ ≠ (v817:Value).ownBlock ∧ some k_ ≠ (v825:Value).ownBlock ∧ some k_ ≠ (v829:Value).ownBlock ∧ some k_ ≠ ((.slice Ao11 t798.length co11):Value).ownBlock) v821 t820) ∧ Aside0 (Kd.R (Kd.int .i64) 2 wc w.heap.size (fun k_=>some k_ ≠ ((.slice Ao14 t801.length co14):Value).ownBlock ∧ some k_ ≠ (v806:Value).ownBlock ∧ some k_ ≠ (v817:Value).ownBlock ∧ some k_ ≠ (v821:Value).ownBlock ∧ some k_ ≠ (v829:Value).ownBlock ∧ some k_ ≠ ((.slice Ao11 t798.length co11):Value).ownBlock) v825 t824) ∧ Aside0 (Kd.R (Kd.int .i64) 2 wc w.heap.size (fun k_=>some k_ ≠ ((.slice Ao14 t801.length co14):Value).ownBlock ∧ some k_ ≠ (v806:Value).ownBlock ∧ some k_ ≠ (v817:Value).ownBlock ∧ some k_ ≠ (v821:Value).ownBlock ∧ some k_ ≠ (v825:Value).ownBlock ∧ some k_ ≠ ((.slice Ao11 t798.length co11):Value).ownBlock) v829 t828) ∧ Aside0 (Kd.R (Kd.int .i64) 2 wc w.heap.size (fun k_=>some k_ ≠ ((.slice Ao14 t801.length co14):Value).ownBlock ∧ some k_ ≠ (v806:Value).ownBlock ∧ some k_ ≠ (v817:Value).ownBlock ∧ some k_ ≠ (v821:Value).ownBlock ∧ some k_ ≠ (v825:Value).ownBlock ∧ some k_ ≠ (v829:Value).ownBlock) (.slice Ao11 t798.length co11) t798) ∧ Aside0 (wc.heap[gb804]? = some (.cells #[.int .i64 t797,(.slice Ao11 t798.length co11)] 28 (0,0))) ∧ Aside0 (Below w.heap.size w wc))
      case first=>as_aux_lemma =>
       have H:=HC55.out
       clear HC55
       by_cases c56:t814 = (t816.length:Int)
       ·rw [if_pos c56] at H
        obtain ⟨c56b0,c56b1⟩:=zT1 c56
        clear c56
        (first | rw [c56b0] | (simp only [i64_w,i32_w];rw [c56b0]) | skip)
        have H' := zA H
        clear H
        obtain ⟨Ao57,co57,eo57⟩:=kM HO_11.out
        subst eo57
        obtain ⟨Ao58,co58,eo58⟩:=kM HO_5.out
        subst eo58
        go_wp2
        repeat (go_quiet (fail);try go_wp2)
        go_meet
        case rel=>exact ⟨_,((t814 != (t805.length:Int))),zs,H', ⟨by have:=HJ6.out;have:=HJ28.out;first | omega | exact Nat.le_refl _⟩,⟨zP HO_4.out⟩,⟨zP HO_5.out⟩,⟨zP HO_11.out⟩,⟨zP HO_13.out⟩,⟨zP HO_15.out⟩,⟨zP HO_17.out⟩,⟨zP HO_805001.out⟩,⟨zR BK804.out⟩,⟨zT HB.out GE804.out⟩⟩
       rw [if_neg c56] at H
       obtain ⟨c56b0,c56b1⟩:=zT2 c56
       (first | rw [c56b0] | (simp only [i64_w,i32_w];rw [c56b0]) | skip)
       have H' := zA H
       clear H
       obtain ⟨Ao59,co59,eo59⟩:=kM HO_11.out
       subst eo59
       go_wp2
       repeat (go_quiet (fail);try go_wp2)
       go_meet
       case rel=>exact ⟨_,(true),zs,H', ⟨by have:=HJ6.out;have:=HJ28.out;first | omega | exact Nat.le_refl _⟩,⟨zP HO_4.out⟩,⟨zP HO_5.out⟩,⟨zP HO_11.out⟩,⟨zP HO_13.out⟩,⟨zP HO_15.out⟩,⟨zP HO_17.out⟩,⟨zP HO_805001.out⟩,⟨zR BK804.out⟩,⟨zT HB.out GE804.out⟩⟩
      case rest =>
       clear HC55
       try clear c1
       try clear c2
       try clear c3
       try clear c4
       try clear c5
       try clear c18
       try clear c22
       try clear c23
       try clear c40
       try clear c41
       try clear c42
       try clear c43
       try clear c44
       try clear c45
       try clear c46
       try clear c54
       try clear c56
       try clear hcz10_0
       try clear hcz10_1
       try clear hcz13_0
       try clear hcz13_1
       try clear hcz16_0
       try clear hcz16_1
       try clear hcz30_0
       try clear hcz30_1
       try clear hcz32_0
       try clear hcz32_1
       try clear hcz34_0
       try clear hcz34_1
       try clear hcz36_0
       try clear hcz36_1
       try clear hcz38_0
       try clear hcz38_1
       try clear hfz10_0
       try clear hfz10_1
       try clear hfz13_0
       try clear hfz13_1
       try clear hfz16_0
       try clear hfz16_1
       try clear hfz30_0
       try clear hfz30_1
       try clear hfz32_0
       try clear hfz32_1
       try clear hfz34_0
       try clear hfz34_1
       try clear hfz36_0
       try clear hfz36_1
       try clear hfz38_0
       try clear hfz38_1
       obtain ⟨kq,x135_54,rfl,HA,HJ54,HO_4,HO_5,HO_11,HO_13,HO_15,HO_17,HO_805001,BK804,HB⟩:=hcut
       cases kq with
       | zero=>exact absurd HA.out (by simp [laws_FnHeights.j2])
       | succ kj54 =>
        have H:=HA.out
        clear HA
        simp only [laws_FnHeights.j2] at H
        by_cases c60:x135_54 = true
        ·subst c60
         rw [if_pos rfl] at H
         exact absurd H (by simp)
        replace c60:=Bool.eq_false_iff.mpr c60
        subst c60
        rw [if_neg (show ¬ (false = true) by decide)] at H
        have H' := zA H
        clear H
        go_wp2
        repeat (go_quiet (fail);try go_wp2)
        go_loopg [19] kj54 (fun kq v19 w' => ∃ (x19_4:Int),v19 = .int .i64 x19_4 ∧ Aside0 (laws_FnHeights.l0 kq t801 t805 t814 t816 t820 t824 t828 x19_4 t797 t798 = some r) ∧ Aside0 (kq ≤ kj54) ∧ Aside0 (Kd.R (Kd.int .i64) 2 w' w.heap.size (fun k_=>some k_ ≠ (v806:Value).ownBlock ∧ some k_ ≠ (v817:Value).ownBlock ∧ some k_ ≠ (v821:Value).ownBlock ∧ some k_ ≠ (v825:Value).ownBlock ∧ some k_ ≠ (v829:Value).ownBlock ∧ some k_ ≠ ((.slice Ao11 t798.length co11):Value).ownBlock) (.slice Ao14 t801.length co14) t801) ∧ Aside0 (Kd.R (Kd.int .i64) 2 w' w.heap.size (fun k_=>some k_ ≠ ((.slice Ao14 t801.length co14):Value).ownBlock ∧ some k_ ≠ (v817:Value).ownBlock ∧ some k_ ≠ (v821:Value).ownBlock ∧ some k_ ≠ (v825:Value).ownBlock ∧ some k_ ≠ (v829:Value).ownBlock ∧ some k_ ≠ ((.slice Ao11 t798.length co11):Value).ownBlock) v806 t805) ∧ Aside0 (Kd.R (Kd.int .i64) 2 w' w.heap.size (fun k_=>some k_ ≠ ((.slice Ao14 t801.length co14):Value).ownBlock ∧ some k_ ≠ (v806:Value).ownBlock ∧ some k_ ≠ (v821:Value).ownBlock ∧ some k_ ≠ (v825:Value).ownBlock ∧ some k_ ≠ (v829:Value).ownBlock ∧ some k_ ≠ ((.slice Ao11 t798.length co11):Value).ownBlock) v817 t816) ∧ Aside0 (Kd.R (Kd.int .i64) 2 w' w.heap.size (fun k_=>some k_ ≠ ((.slice Ao14 t801.length co14):Value).ownBlock ∧ some k_ ≠ (v806:Value).ownBlock ∧ some k_ ≠ (v817:Value).ownBlock ∧ some k_ ≠ (v825:Value).ownBlock ∧ some k_ ≠ (v829:Value).ownBlock ∧ some k_ ≠ ((.slice Ao11 t798.length co11):Value).ownBlock) v821 t820) ∧ Aside0 (Kd.R (Kd.int .i64) 2 w' w.heap.size (fun k_=>some k_ ≠ ((.slice Ao14 t801.length co14):Value).ownBlock ∧ some k_ ≠ (v806:Value).ownBlock ∧ some k_ ≠ (v817:Value).ownBlock ∧ some k_ ≠ (v821:Value).ownBlock ∧ some k_ ≠ (v829:Value).ownBlock ∧ some k_ ≠ ((.slice Ao11 t798.length co11):Value).ownBlock) v825 t824) ∧ Aside0 (Kd.R (Kd.int .i64) 2 w' w.heap.size (fun k_=>some k_ ≠ ((.slice Ao14 t801.length co14):Value).ownBlock ∧ some k_ ≠ (v806:Value).ownBlock ∧ some k_ ≠ (v817:Value).ownBlock ∧ some k_ ≠ (v821:Value).ownBlock ∧ some k_ ≠ (v825:Value).ownBlock ∧ some k_ ≠ ((.slice Ao11 t798.length co11):Value).ownBlock) v829 t828) ∧ Aside0 (Kd.R (Kd.int .i64) 2 w' w.heap.size (fun k_=>some k_ ≠ ((.slice Ao14 t801.length co14):Value).ownBlock ∧ some k_ ≠ (v806:Value).ownBlock ∧ some k_ ≠ (v817:Value).ownBlock ∧ some k_ ≠ (v821:Value).ownBlock ∧ some k_ ≠ (v825:Value).ownBlock ∧ some k_ ≠ (v829:Value).ownBlock) (.slice Ao11 t798.length co11) t798) ∧ Aside0 (w'.heap[gb804]? = some (.cells #[.int .i64 t797,(.slice Ao11 t798.length co11)] 28 (0,0))) ∧ Aside0 (Below w.heap.size w w'))
        case atStart=>exact ⟨(1),zs,H', ⟨Nat.le_refl _⟩,⟨zP HO_4.out⟩,⟨zP HO_5.out⟩,⟨zP HO_11.out⟩,⟨zP HO_13.out⟩,⟨zP HO_15.out⟩,⟨zP HO_17.out⟩,⟨zP HO_805001.out⟩,⟨zR BK804.out⟩,⟨zT HB.out GE804.out⟩⟩
        case round =>
         clear H'
         try clear c1
         try clear c2
         try clear c3
         try clear c4
         try clear c5
         try clear c6
         try clear c18
         try clear c22
         try clear c23
         try clear c40
         try clear c41
         try clear c42
         try clear c43
         try clear c44
         try clear c45
         try clear c46
         try clear c54
         try clear c56
         try clear c60
         try clear hcz10_0
         try clear hcz10_1
         try clear hcz13_0
         try clear hcz13_1
         try clear hcz16_0
         try clear hcz16_1
         try clear hcz30_0
         try clear hcz30_1
         try clear hcz32_0
         try clear hcz32_1
         try clear hcz34_0
         try clear hcz34_1
         try clear hcz36_0
         try clear hcz36_1
         try clear hcz38_0
         try clear hcz38_1
         try clear hfz10_0
         try clear hfz10_1
         try clear hfz13_0
         try clear hfz13_1
         try clear hfz16_0
         try clear hfz16_1
         try clear hfz30_0
         try clear hfz30_1
         try clear hfz32_0
         try clear hfz32_1
         try clear hfz34_0
         try clear hfz34_1
         try clear hfz36_0
         try clear hfz36_1
         try clear hfz38_0
         try clear hfz38_1
         obtain ⟨x19_4,rfl,HA,HK4,HO_4,HO_5,HO_11,HO_13,HO_15,HO_17,HO_805001,BK804,HB⟩:=hrel
         cases gk with
         | zero=>exact absurd HA.out (by simp [laws_FnHeights.l0])
         | succ k4 =>
          have H:=HA.out
          clear HA
          simp only [laws_FnHeights.l0] at H
          by_cases c61:x19_4 < (t805.length:Int)
          ·rw [if_pos c61] at H
           have c61b0:decide (x19_4 < (t805.length:Int)) = true:=decide_eq_true c61
           clear c61
           obtain ⟨ji62,hji62⟩:∃ j_:Int,(wrap64 (x19_4 - 1)) = j_:=⟨_,rfl⟩
           replace H:(if 0 ≤ (ji62) then (if (ji62) < (t805.length:Int) then (if 0 ≤ (rd t805 (ji62)) then (if (rd t805 (ji62)) < (t824.length:Int) then (if 0 ≤ x19_4 then (if 0 ≤ (IntKind.u64.wrap (rd t805 x19_4)) then (if (Go.bits .and .i64 (shr .i64 (rd t824 (rd t805 (ji62))) (IntKind.u64.wrap (rd t805 x19_4))) 1) = 0 then (none) else (if (rd t805 (ji62)) = (rd t805 x19_4) then (none) else (laws_FnHeights.l0 k4 t801 t805 t814 t816 t820 t824 t828 (wrap64 (x19_4 + 1)) t797 t798))) else (none)) else (none)) else (none)) else (none)) else (none)) else (none)) = some r:=by first | (rw [hji62] at H;exact H) | (simp only [hji62] at H ⊢;exact H)
           have hji62w:(IntKind.i64.wrap (x19_4 - 1)) = ji62:=(i64_w _).trans hji62
           by_cases c63:0 ≤ (ji62)
           ·rw [if_pos c63] at H
            have c63b0:decide (0 ≤ (ji62)) = true:=decide_eq_true c63
            clear c63
            by_cases c64:(ji62) < (t805.length:Int)
            ·rw [if_pos c64] at H
             have c64b0:decide ((ji62) < (t805.length:Int)) = true:=decide_eq_true c64
             clear c64
             by_cases c65:0 ≤ (rd t805 (ji62))
             ·rw [if_pos c65] at H
              have c65b0:decide (0 ≤ (rd t805 (ji62))) = true:=decide_eq_true c65
              clear c65
              by_cases c66:(rd t805 (ji62)) < (t824.length:Int)
              ·rw [if_pos c66] at H
               have c66b0:decide ((rd t805 (ji62)) < (t824.length:Int)) = true:=decide_eq_true c66
               clear c66
               by_cases c67:0 ≤ x19_4
               ·rw [if_pos c67] at H
                have c67b0:decide (0 ≤ x19_4) = true:=decide_eq_true c67
                clear c67
                obtain ⟨ji68,hji68⟩:∃ j_:Int,(IntKind.u64.wrap (rd t805 x19_4)) = j_:=⟨_,rfl⟩
                replace H:(if 0 ≤ (ji68) then (if (Go.bits .and .i64 (shr .i64 (rd t824 (rd t805 (ji62))) (ji68)) 1) = 0 then (none) else (if (rd t805 (ji62)) = (rd t805 x19_4) then (none) else (laws_FnHeights.l0 k4 t801 t805 t814 t816 t820 t824 t828 (wrap64 (x19_4 + 1)) t797 t798))) else (none)) = some r:=by first | (rw [hji68] at H;exact H) | (simp only [hji68] at H ⊢;exact H)
                by_cases c69:0 ≤ (ji68)
                ·rw [if_pos c69] at H
                 have c69b0:=eq_true c69
                 have c69b1:decide (0 ≤ (ji68)) = true:=decide_eq_true c69
                 clear c69
                 obtain ⟨ji70,hji70⟩:∃ j_:Int,(shr .i64 (rd t824 (rd t805 (ji62))) (ji68)) = j_:=⟨_,rfl⟩
                 replace H:(if (Go.bits .and .i64 (ji70) 1) = 0 then (none) else (if (rd t805 (ji62)) = (rd t805 x19_4) then (none) else (laws_FnHeights.l0 k4 t801 t805 t814 t816 t820 t824 t828 (wrap64 (x19_4 + 1)) t797 t798))) = some r:=by first | (rw [hji70] at H;exact H) | (simp only [hji70] at H ⊢;exact H)
                 have hji70_:((rd t824 (rd t805 (ji62))) / 2 ^ min (ji68).toNat 64) = ji70:=hji70
                 have hji70z:(ji68) ≤ 64 → ((rd t824 (rd t805 (ji62))) / 2 ^ (ji68).toNat) = ji70:=shr_small hji70
                 by_cases c71:(Go.bits .and .i64 (ji70) 1) = 0
                 ·rw [if_pos c71] at H
                  exact absurd H (by simp)
                 rw [if_neg c71] at H
                 obtain ⟨c71b0,c71b1⟩:=zT2 c71
                 by_cases c72:(rd t805 (ji62)) = (rd t805 x19_4)
                 ·rw [if_pos c72] at H
                  exact absurd H (by simp)
                 rw [if_neg c72] at H
                 obtain ⟨c72b0,c72b1⟩:=zT2 c72
                 have H' := zA H
                 clear H
                 obtain ⟨Ao73,co73,eo73⟩:=kM HO_5.out
                 subst eo73
                 have p832:0 ≤ ((ji62):Int):=zd
                 have q832:(ji62) < (t805.length:Int):=zd
                 obtain ⟨ad832,e832,hx832_0⟩:=Kd.at_int (kB HO_5.out).2.2 (ji62) p832 q832
                 cases e832
                 replace p832:=eq_true p832
                 replace q832:=eq_true q832
                 obtain ⟨Ao74,co74,eo74⟩:=kM HO_15.out
                 subst eo74
                 have p833:0 ≤ ((rd t805 (ji62)):Int):=zd
                 have q833:(rd t805 (ji62)) < (t824.length:Int):=zd
                 obtain ⟨ad833,e833,hx833_0⟩:=Kd.at_int (kB HO_15.out).2.2 (rd t805 (ji62)) p833 q833
                 cases e833
                 replace p833:=eq_true p833
                 replace q833:=eq_true q833
                 have p834:0 ≤ (x19_4:Int):=zd
                 have q834:x19_4 < (t805.length:Int):=zd
                 obtain ⟨ad834,e834,hx834_0⟩:=Kd.at_int (kB HO_5.out).2.2 x19_4 p834 q834
                 obtain rfl:ad832 = ad834:=(by injection e834)
                 replace p834:=eq_true p834
                 replace q834:=eq_true q834
                 have p835:0 ≤ ((ji62):Int):=zd
                 have q835:(ji62) < (t805.length:Int):=zd
                 obtain ⟨ad835,e835,hx835_0⟩:=Kd.at_int (kB HO_5.out).2.2 (ji62) p835 q835
                 obtain rfl:ad832 = ad835:=(by injection e835)
                 replace p835:=eq_true p835
                 replace q835:=eq_true q835
                 have p836:0 ≤ (x19_4:Int):=zd
                 have q836:x19_4 < (t805.length:Int):=zd
                 obtain ⟨ad836,e836,hx836_0⟩:=Kd.at_int (kB HO_5.out).2.2 x19_4 p836 q836
                 obtain rfl:ad832 = ad836:=(by injection e836)
                 replace p836:=eq_true p836
                 replace q836:=eq_true q836
                 go_wp2
                 repeat (go_quiet (fail);try go_wp2)
                 go_roundg k4
                 case measure=>have:=HJ6.out;have:=HJ28.out;have:=HJ54.out;have:=HK4.out;omega
                 case rel=>exact ⟨(wrap64 (x19_4 + 1)),zs,H', ⟨by have:=HJ6.out;have:=HJ28.out;have:=HJ54.out;have:=HK4.out;omega⟩,⟨zP HO_4.out⟩,⟨zP HO_5.out⟩,⟨zP HO_11.out⟩,⟨zP HO_13.out⟩,⟨zP HO_15.out⟩,⟨zP HO_17.out⟩,⟨zP HO_805001.out⟩,⟨zR BK804.out⟩,⟨zT HB.out GE804.out⟩⟩
                rw [if_neg c69] at H
                exact absurd H (by simp)
               rw [if_neg c67] at H
               exact absurd H (by simp)
              rw [if_neg c66] at H
              exact absurd H (by simp)
             rw [if_neg c65] at H
             exact absurd H (by simp)
            rw [if_neg c64] at H
            exact absurd H (by simp)
           rw [if_neg c63] at H
           exact absurd H (by simp)
          rw [if_neg c61] at H
          have c61b0:decide (x19_4 < (t805.length:Int)) = false:=decide_eq_false c61
          clear c61
          have H' := zA H
          clear H
          obtain ⟨Ao75,co75,eo75⟩:=kM HO_5.out
          subst eo75
          go_wp2
          repeat (go_quiet (fail);try go_wp2)
          go_loopg [20] k4 (fun kq v20 w' => ∃ (x20_5:Int),v20 = .int .i64 x20_5 ∧ Aside0 (laws_FnHeights.l1 kq t801 t805 t814 t816 t820 t828 x20_5 t797 t798 = some r) ∧ Aside0 (kq ≤ k4) ∧ Aside0 (Kd.R (Kd.int .i64) 2 w' w.heap.size (fun k_=>some k_ ≠ ((.slice Ao75 t805.length co75):Value).ownBlock ∧ some k_ ≠ (v817:Value).ownBlock ∧ some k_ ≠ (v821:Value).ownBlock ∧ some k_ ≠ (v829:Value).ownBlock ∧ some k_ ≠ ((.slice Ao11 t798.length co11):Value).ownBlock) (.slice Ao14 t801.length co14) t801) ∧ Aside0 (Kd.R (Kd.int .i64) 2 w' w.heap.size (fun k_=>some k_ ≠ ((.slice Ao14 t801.length co14):Value).ownBlock ∧ some k_ ≠ (v817:Value).ownBlock ∧ some k_ ≠ (v821:Value).ownBlock ∧ some k_ ≠ (v829:Value).ownBlock ∧ some k_ ≠ ((.slice Ao11 t798.length co11):Value).ownBlock) (.slice Ao75 t805.length co75) t805) ∧ Aside0 (Kd.R (Kd.int .i64) 2 w' w.heap.size (fun k_=>some k_ ≠ ((.slice Ao14 t801.length co14):Value).ownBlock ∧ some k_ ≠ ((.slice Ao75 t805.length co75):Value).ownBlock ∧ some k_ ≠ (v821:Value).ownBlock ∧ some k_ ≠ (v829:Value).ownBlock ∧ some k_ ≠ ((.slice Ao11 t798.length co11):Value).ownBlock) v817 t816) ∧ Aside0 (Kd.R (Kd.int .i64) 2 w' w.heap.size (fun k_=>some k_ ≠ ((.slice Ao14 t801.length co14):Value).ownBlock ∧ some k_ ≠ ((.slice Ao75 t805.length co75):Value).ownBlock ∧ some k_ ≠ (v817:Value).ownBlock ∧ some k_ ≠ (v829:Value).ownBlock ∧ some k_ ≠ ((.slice Ao11 t798.length co11):Value).ownBlock) v821 t820) ∧ Aside0 (Kd.R (Kd.int .i64) 2 w' w.heap.size (fun k_=>some k_ ≠ ((.slice Ao14 t801.length co14):Value).ownBlock ∧ some k_ ≠ ((.slice Ao75 t805.length co75):Value).ownBlock ∧ some k_ ≠ (v817:Value).ownBlock ∧ some k_ ≠ (v821:Value).ownBlock ∧ some k_ ≠ ((.slice Ao11 t798.length co11):Value).ownBlock) v829 t828) ∧ Aside0 (Kd.R (Kd.int .i64) 2 w' w.heap.size (fun k_=>some k_ ≠ ((.slice Ao14 t801.length co14):Value).ownBlock ∧ some k_ ≠ ((.slice Ao75 t805.length co75):Value).ownBlock ∧ some k_ ≠ (v817:Value).ownBlock ∧ some k_ ≠ (v821:Value).ownBlock ∧ some k_ ≠ (v829:Value).ownBlock) (.slice Ao11 t798.length co11) t798) ∧ Aside0 (w'.heap[gb804]? = some (.cells #[.int .i64 t797,(.slice Ao11 t798.length co11)] 28 (0,0))) ∧ Aside0 (Below w.heap.size w w'))
          case atStart=>exact ⟨(0),zs,H', ⟨Nat.le_refl _⟩,⟨zPM HO_4.out (fun _ hk=>⟨hk.1,⟨hk.2.1,⟨hk.2.2.1,⟨hk.2.2.2.2.1,hk.2.2.2.2.2⟩⟩⟩⟩)⟩,⟨zPM HO_5.out (fun _ hk=>⟨hk.1,⟨hk.2.1,⟨hk.2.2.1,⟨hk.2.2.2.2.1,hk.2.2.2.2.2⟩⟩⟩⟩)⟩,⟨zPM HO_11.out (fun _ hk=>⟨hk.1,⟨hk.2.1,⟨hk.2.2.1,⟨hk.2.2.2.2.1,hk.2.2.2.2.2⟩⟩⟩⟩)⟩,⟨zPM HO_13.out (fun _ hk=>⟨hk.1,⟨hk.2.1,⟨hk.2.2.1,⟨hk.2.2.2.2.1,hk.2.2.2.2.2⟩⟩⟩⟩)⟩,⟨zPM HO_17.out (fun _ hk=>⟨hk.1,⟨hk.2.1,⟨hk.2.2.1,⟨hk.2.2.2.1,hk.2.2.2.2.2⟩⟩⟩⟩)⟩,⟨zPM HO_805001.out (fun _ hk=>⟨hk.1,⟨hk.2.1,⟨hk.2.2.1,⟨hk.2.2.2.1,hk.2.2.2.2.2⟩⟩⟩⟩)⟩,⟨zR BK804.out⟩,⟨zT HB.out GE804.out⟩⟩
          case round =>
           clear H'
           try clear c1
           try clear c2
           try clear c3
           try clear c4
           try clear c5
           try clear c6
           try clear c7
           try clear hx8
           try clear c18
           try clear c22
           try clear c23
           try clear c40
           try clear c41
           try clear c42
           try clear c43
           try clear c44
           try clear c45
           try clear c46
           try clear c54
           try clear c56
           try clear c60
           try clear c61
           try clear c63
           try clear c64
           try clear c65
           try clear c66
           try clear c67
           try clear c69
           try clear c71
           try clear c72
           try clear hcz10_0
           try clear hcz10_1
           try clear hcz13_0
           try clear hcz13_1
           try clear hcz16_0
           try clear hcz16_1
           try clear hcz30_0
           try clear hcz30_1
           try clear hcz32_0
           try clear hcz32_1
           try clear hcz34_0
           try clear hcz34_1
           try clear hcz36_0
           try clear hcz36_1
           try clear hcz38_0
           try clear hcz38_1
           try clear hfz10_0
           try clear hfz10_1
           try clear hfz13_0
           try clear hfz13_1
           try clear hfz16_0
           try clear hfz16_1
           try clear hfz30_0
           try clear hfz30_1
           try clear hfz32_0
           try clear hfz32_1
           try clear hfz34_0
           try clear hfz34_1
           try clear hfz36_0
           try clear hfz36_1
           try clear hfz38_0
           try clear hfz38_1
           try clear hx832_0
           try clear hx833_0
           try clear hx834_0
           try clear hx835_0
           try clear hx836_0
           obtain ⟨x20_5,rfl,HA,HK5,HO_4,HO_5,HO_11,HO_13,HO_17,HO_805001,BK804,HB⟩:=hrel
           cases gk with
           | zero=>exact absurd HA.out (by simp [laws_FnHeights.l1])
           | succ k5 =>
            have H:=HA.out
            clear HA
            simp only [laws_FnHeights.l1] at H
            by_cases c76:x20_5 < (t820.length:Int)
            ·rw [if_pos c76] at H
             have c76b0:decide (x20_5 < (t820.length:Int)) = true:=decide_eq_true c76
             clear c76
             obtain ⟨⟨t837,t838⟩,A77,H⟩:=zb H
             try dsimp only at H
             obtain ⟨⟨t839,t842⟩,A78,H⟩:=zb H
             try dsimp only at H
             obtain ⟨⟨t843,t844⟩,A79,H⟩:=zb H
             try dsimp only at H
             have HC80:=zA H
             clear H
             obtain ⟨Ao81,co81,eo81⟩:=kM HO_13.out
             subst eo81
             obtain ⟨hcz82_0,hcz82_1,hfz82_0,hfz82_1⟩:=zB3 BK804.out
             go_upto_region 30 with (first | (go_at_call 23;(with_reducible refine (impl_PastOf.calls k5 t797 _ _ t798 _ _ t801 x20_5 t837 t838 _ ?side1 ?side2 ?side3 ?side4 ?side5 A77.out).mono ?_);(case side1=>exact zS (kB HO_805001.out).2.2);(case side2=>exact (kB HO_805001.out).2.1);(case side3=>exact zS (kB HO_4.out).2.2);(case side4=>exact (kB HO_4.out).2.1);(case side5=>exact TabW.below HT.out (zT HB.out GE804.out));rintro e w83 ⟨rfl,hb⟩;replace HO_4:=zA (kL (zP HO_4.out) hb);replace HO_5:=zA (kL (zP HO_5.out) hb);replace HO_11:=zA (kL (zP HO_11.out) hb);replace HO_13:=zA (kL (zP HO_13.out) hb);replace HO_17:=zA (kL (zP HO_17.out) hb);replace HO_805001:=zA (kL (zP HO_805001.out) hb);replace BK804:=zA (zB1 BK804.out hb);replace HB:=zA (kQ (zT HB.out GE804.out) hb);obtain ⟨hcz84_0,hcz84_1,hfz84_0,hfz84_1⟩:=zB3 BK804.out) | (go_at_call 24;(with_reducible refine (impl_PrefixAt.calls k5 t797 (fun k_=>some k_ = (.slice Ao11 t798.length co11:Value).ownBlock) _ _ t798 (fun k_=>some k_ = (.slice Ao14 t801.length co14:Value).ownBlock) _ _ t801 t837 t839 t842 _ ?side1 ?side2 ?side3 A78.out).mono ?_);(case side1=>exact jL (jK rfl (kD (HO_805001.out) BK804.out (by decide))));(case side2=>exact jL (jK rfl (kD (HO_4.out) BK804.out (by decide))));(case side3=>exact TabW.below HT.out (zT HB.out GE804.out));rintro e w85 ⟨v840,rfl,ho0,hb⟩;have HO841:=zA (kI (kF (kF (kF (kF (kF (kF (kA (ok' := fun k_=>True) ho0 (fun _ hk_=>trivial)) (kH (zP HO_4.out))) (kH (zP HO_5.out))) (kH (zP HO_11.out))) (kH (zP HO_13.out))) (kH (zP HO_17.out))) (kH (zP HO_805001.out))) (kP (zT HB.out GE804.out)));replace HO_4:=zA (kE (zP HO_4.out) (kC ho0) hb);replace HO_5:=zA (kE (zP HO_5.out) (kC ho0) hb);replace HO_11:=zA (kE (zP HO_11.out) (kC ho0) hb);replace HO_13:=zA (kE (zP HO_13.out) (kC ho0) hb);replace HO_17:=zA (kE (zP HO_17.out) (kC ho0) hb);replace HO_805001:=zA (kE (zP HO_805001.out) (kC ho0) hb);replace BK804:=zA (zB1 BK804.out hb);replace HB:=zA (kQ (zT HB.out GE804.out) hb);(try clear ho0);obtain ⟨hcz86_0,hcz86_1,hfz86_0,hfz86_1⟩:=zB3 BK804.out;obtain ⟨Ao87,co87,eo87⟩:=kM HO841.out;subst eo87) | (go_at_call 18;(with_reducible refine (impl_HeightOf.calls k5 t797 (fun k_=>some k_ = (.slice Ao11 t798.length co11:Value).ownBlock) _ _ t798 (fun k_=>some k_ = (.slice Ao87 t839.length co87:Value).ownBlock) _ _ t839 t843 t844 _ ?side1 ?side2 ?side3 A79.out).mono ?_);(case side1=>exact jL (jK rfl (kD (HO_805001.out) BK804.out (by decide))));(case side2=>exact jL (jK rfl (kD (HO841.out) BK804.out (by decide))));(case side3=>exact TabW.below HT.out (zT HB.out GE804.out));rintro e w88 ⟨rfl,hb⟩;replace HO_4:=zA (kL (zP HO_4.out) hb);replace HO_5:=zA (kL (zP HO_5.out) hb);replace HO_11:=zA (kL (zP HO_11.out) hb);replace HO_13:=zA (kL (zP HO_13.out) hb);replace HO_17:=zA (kL (zP HO_17.out) hb);replace HO_805001:=zA (kL (zP HO_805001.out) hb);replace HO841:=zA (kL (zP HO841.out) hb);replace BK804:=zA (zB1 BK804.out hb);replace HB:=zA (kQ (zT HB.out GE804.out) hb)))
             repeat (go_quiet (first | (go_at_call 23;(with_reducible refine (impl_PastOf.calls k5 t797 _ _ t798 _ _ t801 x20_5 t837 t838 _ ?side1 ?side2 ?side3 ?side4 ?side5 A77.out).mono ?_);(case side1=>exact zS (kB HO_805001.out).2.2);(case side2=>exact (kB HO_805001.out).2.1);(case side3=>exact zS (kB HO_4.out).2.2);(case side4=>exact (kB HO_4.out).2.1);(case side5=>exact TabW.below HT.out (zT HB.out GE804.out));rintro e w83 ⟨rfl,hb⟩;have n0_:=zA (kL (zP HO_4.out) hb);have n1_:=zA (kL (zP HO_5.out) hb);have n2_:=zA (kL (zP HO_11.out) hb);have n3_:=zA (kL (zP HO_13.out) hb);have n4_:=zA (kL (zP HO_17.out) hb);have n5_:=zA (kL (zP HO_805001.out) hb);have n6_:=zA (zB1 BK804.out hb);have n7_:=zA (kQ (zT HB.out GE804.out) hb);clear HO_4;clear HO_5;clear HO_11;clear HO_13;clear HO_17;clear HO_805001;clear BK804;clear HB;have HO_4:=n0_;have HO_5:=n1_;have HO_11:=n2_;have HO_13:=n3_;have HO_17:=n4_;have HO_805001:=n5_;have BK804:=n6_;have HB:=n7_;clear n0_ n1_ n2_ n3_ n4_ n5_ n6_ n7_;obtain ⟨hcz84_0,hcz84_1,hfz84_0,hfz84_1⟩:=zB3 BK804.out) | (go_at_call 24;(with_reducible refine (impl_PrefixAt.calls k5 t797 (fun k_=>some k_ = (.slice Ao11 t798.length co11:Value).ownBlock) _ _ t798 (fun k_=>some k_ = (.slice Ao14 t801.length co14:Value).ownBlock) _ _ t801 t837 t839 t842 _ ?side1 ?side2 ?side3 A78.out).mono ?_);(case side1=>exact jL (jK rfl (kD (HO_805001.out) BK804.out (by decide))));(case side2=>exact jL (jK rfl (kD (HO_4.out) BK804.out (by decide))));(case side3=>exact TabW.below HT.out (zT HB.out GE804.out));rintro e w85 ⟨v840,rfl,ho0,hb⟩;have n0_:=zA (kE (zP HO_4.out) (kC ho0) hb);have n1_:=zA (kE (zP HO_5.out) (kC ho0) hb);have n2_:=zA (kE (zP HO_11.out) (kC ho0) hb);have n3_:=zA (kE (zP HO_13.out) (kC ho0) hb);have n4_:=zA (kE (zP HO_17.out) (kC ho0) hb);have n5_:=zA (kE (zP HO_805001.out) (kC ho0) hb);have n6_:=zA (kI (kF (kF (kF (kF (kF (kF (kA (ok' := fun k_=>True) ho0 (fun _ hk_=>trivial)) (kH (zP HO_4.out))) (kH (zP HO_5.out))) (kH (zP HO_11.out))) (kH (zP HO_13.out))) (kH (zP HO_17.out))) (kH (zP HO_805001.out))) (kP (zT HB.out GE804.out)));have n7_:=zA (zB1 BK804.out hb);have n8_:=zA (kQ (zT HB.out GE804.out) hb);clear HO_4;clear HO_5;clear HO_11;clear HO_13;clear HO_17;clear HO_805001;clear BK804;clear HB;have HO_4:=n0_;have HO_5:=n1_;have HO_11:=n2_;have HO_13:=n3_;have HO_17:=n4_;have HO_805001:=n5_;have HO841:=n6_;have BK804:=n7_;have HB:=n8_;clear n0_ n1_ n2_ n3_ n4_ n5_ n6_ n7_ n8_;(try clear ho0);obtain ⟨hcz86_0,hcz86_1,hfz86_0,hfz86_1⟩:=zB3 BK804.out;obtain ⟨Ao87,co87,eo87⟩:=kM HO841.out;subst eo87) | (go_at_call 18;(with_reducible refine (impl_HeightOf.calls k5 t797 (fun k_=>some k_ = (.slice Ao11 t798.length co11:Value).ownBlock) _ _ t798 (fun k_=>some k_ = (.slice Ao87 t839.length co87:Value).ownBlock) _ _ t839 t843 t844 _ ?side1 ?side2 ?side3 A79.out).mono ?_);(case side1=>exact jL (jK rfl (kD (HO_805001.out) BK804.out (by decide))));(case side2=>exact jL (jK rfl (kD (HO841.out) BK804.out (by decide))));(case side3=>exact TabW.below HT.out (zT HB.out GE804.out));rintro e w88 ⟨rfl,hb⟩;have n0_:=zA (kL (zP HO_4.out) hb);have n1_:=zA (kL (zP HO_5.out) hb);have n2_:=zA (kL (zP HO_11.out) hb);have n3_:=zA (kL (zP HO_13.out) hb);have n4_:=zA (kL (zP HO_17.out) hb);have n5_:=zA (kL (zP HO_805001.out) hb);have n6_:=zA (kL (zP HO841.out) hb);have n7_:=zA (zB1 BK804.out hb);have n8_:=zA (kQ (zT HB.out GE804.out) hb);clear HO_4;clear HO_5;clear HO_11;clear HO_13;clear HO_17;clear HO_805001;clear HO841;clear BK804;clear HB;have HO_4:=n0_;have HO_5:=n1_;have HO_11:=n2_;have HO_13:=n3_;have HO_17:=n4_;have HO_805001:=n5_;have HO841:=n6_;have BK804:=n7_;have HB:=n8_;clear n0_ n1_ n2_ n3_ n4_ n5_ n6_ n7_ n8_));go_upto_region 30 with (first | (go_at_call 23;(with_reducible refine (impl_PastOf.calls k5 t797 _ _ t798 _ _ t801 x20_5 t837 t838 _ ?side1 ?side2 ?side3 ?side4 ?side5 A77.out).mono ?_);(case side1=>exact zS (kB HO_805001.out).2.2);(case side2=>exact (kB HO_805001.out).2.1);(case side3=>exact zS (kB HO_4.out).2.2);(case side4=>exact (kB HO_4.out).2.1);(case side5=>exact TabW.below HT.out (zT HB.out GE804.out));rintro e w83 ⟨rfl,hb⟩;replace HO_4:=zA (kL (zP HO_4.out) hb);replace HO_5:=zA (kL (zP HO_5.out) hb);replace HO_11:=zA (kL (zP HO_11.out) hb);replace HO_13:=zA (kL (zP HO_13.out) hb);replace HO_17:=zA (kL (zP HO_17.out) hb);replace HO_805001:=zA (kL (zP HO_805001.out) hb);replace BK804:=zA (zB1 BK804.out hb);replace HB:=zA (kQ (zT HB.out GE804.out) hb);obtain ⟨hcz84_0,hcz84_1,hfz84_0,hfz84_1⟩:=zB3 BK804.out) | (go_at_call 24;(with_reducible refine (impl_PrefixAt.calls k5 t797 (fun k_=>some k_ = (.slice Ao11 t798.length co11:Value).ownBlock) _ _ t798 (fun k_=>some k_ = (.slice Ao14 t801.length co14:Value).ownBlock) _ _ t801 t837 t839 t842 _ ?side1 ?side2 ?side3 A78.out).mono ?_);(case side1=>exact jL (jK rfl (kD (HO_805001.out) BK804.out (by decide))));(case side2=>exact jL (jK rfl (kD (HO_4.out) BK804.out (by decide))));(case side3=>exact TabW.below HT.out (zT HB.out GE804.out));rintro e w85 ⟨v840,rfl,ho0,hb⟩;have HO841:=zA (kI (kF (kF (kF (kF (kF (kF (kA (ok' := fun k_=>True) ho0 (fun _ hk_=>trivial)) (kH (zP HO_4.out))) (kH (zP HO_5.out))) (kH (zP HO_11.out))) (kH (zP HO_13.out))) (kH (zP HO_17.out))) (kH (zP HO_805001.out))) (kP (zT HB.out GE804.out)));replace HO_4:=zA (kE (zP HO_4.out) (kC ho0) hb);replace HO_5:=zA (kE (zP HO_5.out) (kC ho0) hb);replace HO_11:=zA (kE (zP HO_11.out) (kC ho0) hb);replace HO_13:=zA (kE (zP HO_13.out) (kC ho0) hb);replace HO_17:=zA (kE (zP HO_17.out) (kC ho0) hb);replace HO_805001:=zA (kE (zP HO_805001.out) (kC ho0) hb);replace BK804:=zA (zB1 BK804.out hb);replace HB:=zA (kQ (zT HB.out GE804.out) hb);(try clear ho0);obtain ⟨hcz86_0,hcz86_1,hfz86_0,hfz86_1⟩:=zB3 BK804.out;obtain ⟨Ao87,co87,eo87⟩:=kM HO841.out;subst eo87) | (go_at_call 18;(with_reducible refine (impl_HeightOf.calls k5 t797 (fun k_=>some k_ = (.slice Ao11 t798.length co11:Value).ownBlock) _ _ t798 (fun k_=>some k_ = (.slice Ao87 t839.length co87:Value).ownBlock) _ _ t839 t843 t844 _ ?side1 ?side2 ?side3 A79.out).mono ?_);(case side1=>exact jL (jK rfl (kD (HO_805001.out) BK804.out (by decide))));(case side2=>exact jL (jK rfl (kD (HO841.out) BK804.out (by decide))));(case side3=>exact TabW.below HT.out (zT HB.out GE804.out));rintro e w88 ⟨rfl,hb⟩;replace HO_4:=zA (kL (zP HO_4.out) hb);replace HO_5:=zA (kL (zP HO_5.out) hb);replace HO_11:=zA (kL (zP HO_11.out) hb);replace HO_13:=zA (kL (zP HO_13.out) hb);replace HO_17:=zA (kL (zP HO_17.out) hb);replace HO_805001:=zA (kL (zP HO_805001.out) hb);replace HO841:=zA (kL (zP HO841.out) hb);replace BK804:=zA (zB1 BK804.out hb);replace HB:=zA (kQ (zT HB.out GE804.out) hb))))
             (try simp only [Act.put,zL,zM,zN])
             go_cut [234] (fun v234 wc=>∃ (kq:Nat) (x234_79:Bool),v234 = .bool x234_79 ∧ Aside0 (laws_FnHeights.j5 kq t801 t805 t814 t816 t820 t828 x20_5 t843 x234_79 t797 t798 = some r) ∧ Aside0 (kq ≤ k5) ∧ Aside0 (Kd.R (Kd.int .i64) 2 wc w.heap.size (fun k_=>some k_ ≠ ((.slice Ao75 t805.length co75):Value).ownBlock ∧ some k_ ≠ (v817:Value).ownBlock ∧ some k_ ≠ ((.slice Ao81 t820.length co81):Value).ownBlock ∧ some k_ ≠ (v829:Value).ownBlock ∧ some k_ ≠ ((.slice Ao11 t798.length co11):Value).ownBlock) (.slice Ao14 t801.length co14) t801) ∧ Aside0 (Kd.R (Kd.int .i64) 2 wc w.heap.size (fun k_=>some k_ ≠ ((.slice Ao14 t801.length co14):Value).ownBlock ∧ some k_ ≠ (v817:Value).ownBlock ∧ some k_ ≠ ((.slice Ao81 t820.length co81):Value).ownBlock ∧ some k_ ≠ (v829:Value).ownBlock ∧ some k_ ≠ ((.slice Ao11 t798.length co11):Value).ownBlock) (.slice Ao75 t805.length co75) t805) ∧ Aside0 (Kd.R (Kd.int .i64) 2 wc w.heap.size (fun k_=>some k_ ≠ ((.slice Ao14 t801.length co14):Value).ownBlock ∧ some k_ ≠ ((.slice Ao75 t805.length co75):Value).ownBlock ∧ some k_ ≠ ((.slice Ao81 t820.length co81):Value).ownBlock ∧ some k_ ≠ (v829:Value).ownBlock ∧ some k_ ≠ ((.slice Ao11 t798.length co11):Value).ownBlock) v817 t816) ∧ Aside0 (Kd.R (Kd.int .i64) 2 wc w.heap.size (fun k_=>some k_ ≠ ((.slice Ao14 t801.length co14):Value).ownBlock ∧ some k_ ≠ ((.slice Ao75 t805.length co75):Value).ownBlock ∧ some k_ ≠ (v817:Value).ownBlock ∧ some k_ ≠ (v829:Value).ownBlock ∧ some k_ ≠ ((.slice Ao11 t798.length co11):Value).ownBlock) (.slice Ao81 t820.length co81) t820) ∧ Aside0 (Kd.R (Kd.int .i64) 2 wc w.heap.size (fun k_=>some k_ ≠ ((.slice Ao14 t801.length co14):Value).ownBlock ∧ some k_ ≠ ((.slice Ao75 t805.length co75):Value).ownBlock ∧ some k_ ≠ (v817:Value).ownBlock ∧ some k_ ≠ ((.slice Ao81 t820.length co81):Value).ownBlock ∧ some k_ ≠ ((.slice Ao11 t798.length co11):Value).ownBlock) v829 t828) ∧ Aside0 (Kd.R (Kd.int .i64) 2 wc w.heap.size (fun k_=>some k_ ≠ ((.slice Ao14 t801.length co14):Value).ownBlock ∧ some k_ ≠ ((.slice Ao75 t805.length co75):Value).ownBlock ∧ some k_ ≠ (v817:Value).ownBlock ∧ some k_ ≠ ((.slice Ao81 t820.length co81):Value).ownBlock ∧ some k_ ≠ (v829:Value).ownBlock) (.slice Ao11 t798.length co11) t798) ∧ Aside0 (wc.heap[gb804]? = some (.cells #[.int .i64 t797,(.slice Ao11 t798.length co11)] 28 (0,0))) ∧ Aside0 (Below w.heap.size w wc))
             case first=>as_aux_lemma =>
              have H:=HC80.out
              clear HC80
              by_cases c89:t838 = 0
              ·rw [if_pos c89] at H
               obtain ⟨c89b0,c89b1⟩:=zT1 c89
               clear c89
               (first | rw [c89b0] | (simp only [i64_w,i32_w];rw [c89b0]) | skip)
               by_cases c90:t842 = 0
               ·rw [if_pos c90] at H
                obtain ⟨c90b0,c90b1⟩:=zT1 c90
                clear c90
                by_cases c91:t844 = 0
                ·rw [if_pos c91] at H
                 obtain ⟨c91b0,c91b1⟩:=zT1 c91
                 clear c91
                 by_cases c92:0 ≤ x20_5
                 ·rw [if_pos c92] at H
                  have c92b0:decide (0 ≤ x20_5) = true:=decide_eq_true c92
                  clear c92
                  by_cases c93:x20_5 < (t828.length:Int)
                  ·rw [if_pos c93] at H
                   have c93b0:decide (x20_5 < (t828.length:Int)) = true:=decide_eq_true c93
                   clear c93
                   by_cases c94:t843 > (rd t828 x20_5)
                   ·rw [if_pos c94] at H
                    have c94b0:decide ((rd t828 x20_5) < t843) = true:=decide_eq_true c94
                    clear c94
                    have H' := zA H
                    clear H
                    obtain ⟨Ao95,co95,eo95⟩:=kM HO_17.out
                    subst eo95
                    have p845:0 ≤ (x20_5:Int):=zd
                    have q845:x20_5 < (t828.length:Int):=zd
                    obtain ⟨ad845,e845,hx845_0⟩:=Kd.at_int (kB HO_17.out).2.2 x20_5 p845 q845
                    cases e845
                    replace p845:=eq_true p845
                    replace q845:=eq_true q845
                    go_wp2
                    repeat (go_quiet (fail);try go_wp2)
                    go_meet
                    case rel=>exact ⟨_,(true),zs,H', ⟨by have:=HJ6.out;have:=HJ28.out;have:=HJ54.out;have:=HK4.out;have:=HK5.out;first | omega | exact Nat.le_refl _⟩,⟨zPM HO_4.out (fun _ hk=>⟨hk.1.1,⟨hk.1.2.1,⟨hk.1.2.2.1,⟨hk.1.2.2.2.1,hk.1.2.2.2.2⟩⟩⟩⟩)⟩,⟨zPM HO_5.out (fun _ hk=>⟨hk.1.1,⟨hk.1.2.1,⟨hk.1.2.2.1,⟨hk.1.2.2.2.1,hk.1.2.2.2.2⟩⟩⟩⟩)⟩,⟨zPM HO_11.out (fun _ hk=>⟨hk.1.1,⟨hk.1.2.1,⟨hk.1.2.2.1,⟨hk.1.2.2.2.1,hk.1.2.2.2.2⟩⟩⟩⟩)⟩,⟨zPM HO_13.out (fun _ hk=>⟨hk.1.1,⟨hk.1.2.1,⟨hk.1.2.2.1,⟨hk.1.2.2.2.1,hk.1.2.2.2.2⟩⟩⟩⟩)⟩,⟨zPM HO_17.out (fun _ hk=>⟨hk.1.1,⟨hk.1.2.1,⟨hk.1.2.2.1,⟨hk.1.2.2.2.1,hk.1.2.2.2.2⟩⟩⟩⟩)⟩,⟨zPM HO_805001.out (fun _ hk=>⟨hk.1.1,⟨hk.1.2.1,⟨hk.1.2.2.1,⟨hk.1.2.2.2.1,hk.1.2.2.2.2⟩⟩⟩⟩)⟩,⟨zR BK804.out⟩,⟨zT HB.out GE804.out⟩⟩
                   rw [if_neg c94] at H
                   have c94b0:decide ((rd t828 x20_5) < t843) = false:=decide_eq_false c94
                   clear c94
                   by_cases c96:(rd t828 x20_5) > t814
                   ·rw [if_pos c96] at H
                    have c96b0:decide (t814 < (rd t828 x20_5)) = true:=decide_eq_true c96
                    clear c96
                    have H' := zA H
                    clear H
                    obtain ⟨Ao97,co97,eo97⟩:=kM HO_17.out
                    subst eo97
                    have p845:0 ≤ (x20_5:Int):=zd
                    have q845:x20_5 < (t828.length:Int):=zd
                    obtain ⟨ad845,e845,hx845_0⟩:=Kd.at_int (kB HO_17.out).2.2 x20_5 p845 q845
                    cases e845
                    replace p845:=eq_true p845
                    replace q845:=eq_true q845
                    have p846:0 ≤ (x20_5:Int):=zd
                    have q846:x20_5 < (t828.length:Int):=zd
                    obtain ⟨ad846,e846,hx846_0⟩:=Kd.at_int (kB HO_17.out).2.2 x20_5 p846 q846
                    obtain rfl:ad845 = ad846:=(by injection e846)
                    replace p846:=eq_true p846
                    replace q846:=eq_true q846
                    go_wp2
                    repeat (go_quiet (fail);try go_wp2)
                    go_meet
                    case rel=>exact ⟨_,(true),zs,H', ⟨by have:=HJ6.out;have:=HJ28.out;have:=HJ54.out;have:=HK4.out;have:=HK5.out;first | omega | exact Nat.le_refl _⟩,⟨zPM HO_4.out (fun _ hk=>⟨hk.1.1,⟨hk.1.2.1,⟨hk.1.2.2.1,⟨hk.1.2.2.2.1,hk.1.2.2.2.2⟩⟩⟩⟩)⟩,⟨zPM HO_5.out (fun _ hk=>⟨hk.1.1,⟨hk.1.2.1,⟨hk.1.2.2.1,⟨hk.1.2.2.2.1,hk.1.2.2.2.2⟩⟩⟩⟩)⟩,⟨zPM HO_11.out (fun _ hk=>⟨hk.1.1,⟨hk.1.2.1,⟨hk.1.2.2.1,⟨hk.1.2.2.2.1,hk.1.2.2.2.2⟩⟩⟩⟩)⟩,⟨zPM HO_13.out (fun _ hk=>⟨hk.1.1,⟨hk.1.2.1,⟨hk.1.2.2.1,⟨hk.1.2.2.2.1,hk.1.2.2.2.2⟩⟩⟩⟩)⟩,⟨zPM HO_17.out (fun _ hk=>⟨hk.1.1,⟨hk.1.2.1,⟨hk.1.2.2.1,⟨hk.1.2.2.2.1,hk.1.2.2.2.2⟩⟩⟩⟩)⟩,⟨zPM HO_805001.out (fun _ hk=>⟨hk.1.1,⟨hk.1.2.1,⟨hk.1.2.2.1,⟨hk.1.2.2.2.1,hk.1.2.2.2.2⟩⟩⟩⟩)⟩,⟨zR BK804.out⟩,⟨zT HB.out GE804.out⟩⟩
                   rw [if_neg c96] at H
                   have c96b0:decide (t814 < (rd t828 x20_5)) = false:=decide_eq_false c96
                   clear c96
                   obtain ⟨t847,A98,H⟩:=zb H
                   try dsimp only at H
                   by_cases c99:t847 = true
                   ·subst c99
                    rw [if_pos rfl] at H
                    have H' := zA H
                    clear H
                    obtain ⟨Ao100,co100,eo100⟩:=kM HO_17.out
                    subst eo100
                    have p845:0 ≤ (x20_5:Int):=zd
                    have q845:x20_5 < (t828.length:Int):=zd
                    obtain ⟨ad845,e845,hx845_0⟩:=Kd.at_int (kB HO_17.out).2.2 x20_5 p845 q845
                    cases e845
                    replace p845:=eq_true p845
                    replace q845:=eq_true q845
                    have p846:0 ≤ (x20_5:Int):=zd
                    have q846:x20_5 < (t828.length:Int):=zd
                    obtain ⟨ad846,e846,hx846_0⟩:=Kd.at_int (kB HO_17.out).2.2 x20_5 p846 q846
                    obtain rfl:ad845 = ad846:=(by injection e846)
                    replace p846:=eq_true p846
                    replace q846:=eq_true q846
                    go_wp2_with (first | (go_at_call 25;(with_reducible refine (laws_hasInt.calls k5 _ _ t805 x20_5 true _ ?side1 ?side2 A98.out).mono ?_);(case side1=>exact zS (kB HO_5.out).2.2);(case side2=>exact (kB HO_5.out).2.1);rintro e w' ⟨rfl,⟨nd,rfl⟩⟩;(try exact zw);have p848:0 ≤ (x20_5:Int):=zd;have q848:x20_5 < (t828.length:Int):=zd;obtain ⟨ad848,e848,hx848_0⟩:=Kd.at_int (kB HO_17.out).2.2 x20_5 p848 q848;obtain rfl:ad845 = ad848:=(by injection e848);replace p848:=eq_true p848;replace q848:=eq_true q848))
                    repeat (go_quiet (first | (go_at_call 25;(with_reducible refine (laws_hasInt.calls k5 _ _ t805 x20_5 true _ ?side1 ?side2 A98.out).mono ?_);(case side1=>exact zS (kB HO_5.out).2.2);(case side2=>exact (kB HO_5.out).2.1);rintro e w' ⟨rfl,⟨nd,rfl⟩⟩;(try exact zw);have p848:0 ≤ (x20_5:Int):=zd;have q848:x20_5 < (t828.length:Int):=zd;obtain ⟨ad848,e848,hx848_0⟩:=Kd.at_int (kB HO_17.out).2.2 x20_5 p848 q848;obtain rfl:ad845 = ad848:=(by injection e848);replace p848:=eq_true p848;replace q848:=eq_true q848));try go_wp2_with (first | (go_at_call 25;(with_reducible refine (laws_hasInt.calls k5 _ _ t805 x20_5 true _ ?side1 ?side2 A98.out).mono ?_);(case side1=>exact zS (kB HO_5.out).2.2);(case side2=>exact (kB HO_5.out).2.1);rintro e w' ⟨rfl,⟨nd,rfl⟩⟩;(try exact zw);have p848:0 ≤ (x20_5:Int):=zd;have q848:x20_5 < (t828.length:Int):=zd;obtain ⟨ad848,e848,hx848_0⟩:=Kd.at_int (kB HO_17.out).2.2 x20_5 p848 q848;obtain rfl:ad845 = ad848:=(by injection e848);replace p848:=eq_true p848;replace q848:=eq_true q848)))
                    go_meet
                    case rel=>exact ⟨_,((t843 != (rd t828 x20_5))),zs,H', ⟨by have:=HJ6.out;have:=HJ28.out;have:=HJ54.out;have:=HK4.out;have:=HK5.out;first | omega | exact Nat.le_refl _⟩,⟨zPM HO_4.out (fun _ hk=>⟨hk.1.1,⟨hk.1.2.1,⟨hk.1.2.2.1,⟨hk.1.2.2.2.1,hk.1.2.2.2.2⟩⟩⟩⟩)⟩,⟨zPM HO_5.out (fun _ hk=>⟨hk.1.1,⟨hk.1.2.1,⟨hk.1.2.2.1,⟨hk.1.2.2.2.1,hk.1.2.2.2.2⟩⟩⟩⟩)⟩,⟨zPM HO_11.out (fun _ hk=>⟨hk.1.1,⟨hk.1.2.1,⟨hk.1.2.2.1,⟨hk.1.2.2.2.1,hk.1.2.2.2.2⟩⟩⟩⟩)⟩,⟨zPM HO_13.out (fun _ hk=>⟨hk.1.1,⟨hk.1.2.1,⟨hk.1.2.2.1,⟨hk.1.2.2.2.1,hk.1.2.2.2.2⟩⟩⟩⟩)⟩,⟨zPM HO_17.out (fun _ hk=>⟨hk.1.1,⟨hk.1.2.1,⟨hk.1.2.2.1,⟨hk.1.2.2.2.1,hk.1.2.2.2.2⟩⟩⟩⟩)⟩,⟨zPM HO_805001.out (fun _ hk=>⟨hk.1.1,⟨hk.1.2.1,⟨hk.1.2.2.1,⟨hk.1.2.2.2.1,hk.1.2.2.2.2⟩⟩⟩⟩)⟩,⟨zR BK804.out⟩,⟨zT HB.out GE804.out⟩⟩
                   replace c99:=Bool.eq_false_iff.mpr c99
                   subst c99
                   rw [if_neg (show ¬ (false = true) by decide)] at H
                   have H' := zA H
                   clear H
                   obtain ⟨Ao101,co101,eo101⟩:=kM HO_17.out
                   subst eo101
                   have p845:0 ≤ (x20_5:Int):=zd
                   have q845:x20_5 < (t828.length:Int):=zd
                   obtain ⟨ad845,e845,hx845_0⟩:=Kd.at_int (kB HO_17.out).2.2 x20_5 p845 q845
                   cases e845
                   replace p845:=eq_true p845
                   replace q845:=eq_true q845
                   have p846:0 ≤ (x20_5:Int):=zd
                   have q846:x20_5 < (t828.length:Int):=zd
                   obtain ⟨ad846,e846,hx846_0⟩:=Kd.at_int (kB HO_17.out).2.2 x20_5 p846 q846
                   obtain rfl:ad845 = ad846:=(by injection e846)
                   replace p846:=eq_true p846
                   replace q846:=eq_true q846
                   go_wp2_with (first | (go_at_call 25;(with_reducible refine (laws_hasInt.calls k5 _ _ t805 x20_5 false _ ?side1 ?side2 A98.out).mono ?_);(case side1=>exact zS (kB HO_5.out).2.2);(case side2=>exact (kB HO_5.out).2.1);rintro e w' ⟨rfl,⟨nd,rfl⟩⟩;(try exact zw)))
                   repeat (go_quiet (first | (go_at_call 25;(with_reducible refine (laws_hasInt.calls k5 _ _ t805 x20_5 false _ ?side1 ?side2 A98.out).mono ?_);(case side1=>exact zS (kB HO_5.out).2.2);(case side2=>exact (kB HO_5.out).2.1);rintro e w' ⟨rfl,⟨nd,rfl⟩⟩;(try exact zw)));try go_wp2_with (first | (go_at_call 25;(with_reducible refine (laws_hasInt.calls k5 _ _ t805 x20_5 false _ ?side1 ?side2 A98.out).mono ?_);(case side1=>exact zS (kB HO_5.out).2.2);(case side2=>exact (kB HO_5.out).2.1);rintro e w' ⟨rfl,⟨nd,rfl⟩⟩;(try exact zw))))
                   go_meet
                   case rel=>exact ⟨_,(false),zs,H', ⟨by have:=HJ6.out;have:=HJ28.out;have:=HJ54.out;have:=HK4.out;have:=HK5.out;first | omega | exact Nat.le_refl _⟩,⟨zPM HO_4.out (fun _ hk=>⟨hk.1.1,⟨hk.1.2.1,⟨hk.1.2.2.1,⟨hk.1.2.2.2.1,hk.1.2.2.2.2⟩⟩⟩⟩)⟩,⟨zPM HO_5.out (fun _ hk=>⟨hk.1.1,⟨hk.1.2.1,⟨hk.1.2.2.1,⟨hk.1.2.2.2.1,hk.1.2.2.2.2⟩⟩⟩⟩)⟩,⟨zPM HO_11.out (fun _ hk=>⟨hk.1.1,⟨hk.1.2.1,⟨hk.1.2.2.1,⟨hk.1.2.2.2.1,hk.1.2.2.2.2⟩⟩⟩⟩)⟩,⟨zPM HO_13.out (fun _ hk=>⟨hk.1.1,⟨hk.1.2.1,⟨hk.1.2.2.1,⟨hk.1.2.2.2.1,hk.1.2.2.2.2⟩⟩⟩⟩)⟩,⟨zPM HO_17.out (fun _ hk=>⟨hk.1.1,⟨hk.1.2.1,⟨hk.1.2.2.1,⟨hk.1.2.2.2.1,hk.1.2.2.2.2⟩⟩⟩⟩)⟩,⟨zPM HO_805001.out (fun _ hk=>⟨hk.1.1,⟨hk.1.2.1,⟨hk.1.2.2.1,⟨hk.1.2.2.2.1,hk.1.2.2.2.2⟩⟩⟩⟩)⟩,⟨zR BK804.out⟩,⟨zT HB.out GE804.out⟩⟩
                  rw [if_neg c93] at H
                  exact absurd H (by simp)
                 rw [if_neg c92] at H
                 exact absurd H (by simp)
                rw [if_neg c91] at H
                obtain ⟨c91b0,c91b1⟩:=zT2 c91
                have H' := zA H
                clear H
                go_wp2
                repeat (go_quiet (fail);try go_wp2)
                go_meet
                case rel=>exact ⟨_,(true),zs,H', ⟨by have:=HJ6.out;have:=HJ28.out;have:=HJ54.out;have:=HK4.out;have:=HK5.out;first | omega | exact Nat.le_refl _⟩,⟨zPM HO_4.out (fun _ hk=>⟨hk.1.1,⟨hk.1.2.1,⟨hk.1.2.2.1,⟨hk.1.2.2.2.1,hk.1.2.2.2.2⟩⟩⟩⟩)⟩,⟨zPM HO_5.out (fun _ hk=>⟨hk.1.1,⟨hk.1.2.1,⟨hk.1.2.2.1,⟨hk.1.2.2.2.1,hk.1.2.2.2.2⟩⟩⟩⟩)⟩,⟨zPM HO_11.out (fun _ hk=>⟨hk.1.1,⟨hk.1.2.1,⟨hk.1.2.2.1,⟨hk.1.2.2.2.1,hk.1.2.2.2.2⟩⟩⟩⟩)⟩,⟨zPM HO_13.out (fun _ hk=>⟨hk.1.1,⟨hk.1.2.1,⟨hk.1.2.2.1,⟨hk.1.2.2.2.1,hk.1.2.2.2.2⟩⟩⟩⟩)⟩,⟨zPM HO_17.out (fun _ hk=>⟨hk.1.1,⟨hk.1.2.1,⟨hk.1.2.2.1,⟨hk.1.2.2.2.1,hk.1.2.2.2.2⟩⟩⟩⟩)⟩,⟨zPM HO_805001.out (fun _ hk=>⟨hk.1.1,⟨hk.1.2.1,⟨hk.1.2.2.1,⟨hk.1.2.2.2.1,hk.1.2.2.2.2⟩⟩⟩⟩)⟩,⟨zR BK804.out⟩,⟨zT HB.out GE804.out⟩⟩
               rw [if_neg c90] at H
               obtain ⟨c90b0,c90b1⟩:=zT2 c90
               have H' := zA H
               clear H
               go_wp2
               repeat (go_quiet (fail);try go_wp2)
               go_meet
               case rel=>exact ⟨_,(true),zs,H', ⟨by have:=HJ6.out;have:=HJ28.out;have:=HJ54.out;have:=HK4.out;have:=HK5.out;first | omega | exact Nat.le_refl _⟩,⟨zPM HO_4.out (fun _ hk=>⟨hk.1.1,⟨hk.1.2.1,⟨hk.1.2.2.1,⟨hk.1.2.2.2.1,hk.1.2.2.2.2⟩⟩⟩⟩)⟩,⟨zPM HO_5.out (fun _ hk=>⟨hk.1.1,⟨hk.1.2.1,⟨hk.1.2.2.1,⟨hk.1.2.2.2.1,hk.1.2.2.2.2⟩⟩⟩⟩)⟩,⟨zPM HO_11.out (fun _ hk=>⟨hk.1.1,⟨hk.1.2.1,⟨hk.1.2.2.1,⟨hk.1.2.2.2.1,hk.1.2.2.2.2⟩⟩⟩⟩)⟩,⟨zPM HO_13.out (fun _ hk=>⟨hk.1.1,⟨hk.1.2.1,⟨hk.1.2.2.1,⟨hk.1.2.2.2.1,hk.1.2.2.2.2⟩⟩⟩⟩)⟩,⟨zPM HO_17.out (fun _ hk=>⟨hk.1.1,⟨hk.1.2.1,⟨hk.1.2.2.1,⟨hk.1.2.2.2.1,hk.1.2.2.2.2⟩⟩⟩⟩)⟩,⟨zPM HO_805001.out (fun _ hk=>⟨hk.1.1,⟨hk.1.2.1,⟨hk.1.2.2.1,⟨hk.1.2.2.2.1,hk.1.2.2.2.2⟩⟩⟩⟩)⟩,⟨zR BK804.out⟩,⟨zT HB.out GE804.out⟩⟩
              rw [if_neg c89] at H
              obtain ⟨c89b0,c89b1⟩:=zT2 c89
              (first | rw [c89b0] | (simp only [i64_w,i32_w];rw [c89b0]) | skip)
              have H' := zA H
              clear H
              go_wp2
              repeat (go_quiet (fail);try go_wp2)
              go_meet
              case rel=>exact ⟨_,(true),zs,H', ⟨by have:=HJ6.out;have:=HJ28.out;have:=HJ54.out;have:=HK4.out;have:=HK5.out;first | omega | exact Nat.le_refl _⟩,⟨zPM HO_4.out (fun _ hk=>⟨hk.1.1,⟨hk.1.2.1,⟨hk.1.2.2.1,⟨hk.1.2.2.2.1,hk.1.2.2.2.2⟩⟩⟩⟩)⟩,⟨zPM HO_5.out (fun _ hk=>⟨hk.1.1,⟨hk.1.2.1,⟨hk.1.2.2.1,⟨hk.1.2.2.2.1,hk.1.2.2.2.2⟩⟩⟩⟩)⟩,⟨zPM HO_11.out (fun _ hk=>⟨hk.1.1,⟨hk.1.2.1,⟨hk.1.2.2.1,⟨hk.1.2.2.2.1,hk.1.2.2.2.2⟩⟩⟩⟩)⟩,⟨zPM HO_13.out (fun _ hk=>⟨hk.1.1,⟨hk.1.2.1,⟨hk.1.2.2.1,⟨hk.1.2.2.2.1,hk.1.2.2.2.2⟩⟩⟩⟩)⟩,⟨zPM HO_17.out (fun _ hk=>⟨hk.1.1,⟨hk.1.2.1,⟨hk.1.2.2.1,⟨hk.1.2.2.2.1,hk.1.2.2.2.2⟩⟩⟩⟩)⟩,⟨zPM HO_805001.out (fun _ hk=>⟨hk.1.1,⟨hk.1.2.1,⟨hk.1.2.2.1,⟨hk.1.2.2.2.1,hk.1.2.2.2.2⟩⟩⟩⟩)⟩,⟨zR BK804.out⟩,⟨zT HB.out GE804.out⟩⟩
             case rest =>
              clear HC80
              try clear c1
              try clear c2
              try clear c3
              try clear c4
              try clear c5
              try clear c6
              try clear c7
              try clear c8
              try clear hx8
              try clear c9
              try clear c18
              try clear c22
              try clear c23
              try clear c40
              try clear c41
              try clear c42
              try clear c43
              try clear c44
              try clear c45
              try clear c46
              try clear c54
              try clear c56
              try clear c60
              try clear c61
              try clear c63
              try clear c64
              try clear c65
              try clear c66
              try clear c67
              try clear c69
              try clear c71
              try clear c72
              try clear c76
              try clear hx83
              try clear hx84
              try clear c89
              try clear c90
              try clear c91
              try clear c92
              try clear c93
              try clear c94
              try clear c96
              try clear c99
              try clear hcz10_0
              try clear hcz10_1
              try clear hcz13_0
              try clear hcz13_1
              try clear hcz16_0
              try clear hcz16_1
              try clear hcz30_0
              try clear hcz30_1
              try clear hcz32_0
              try clear hcz32_1
              try clear hcz34_0
              try clear hcz34_1
              try clear hcz36_0
              try clear hcz36_1
              try clear hcz38_0
              try clear hcz38_1
              try clear hcz82_0
              try clear hcz82_1
              try clear hcz84_0
              try clear hcz84_1
              try clear hcz86_0
              try clear hcz86_1
              try clear hfz10_0
              try clear hfz10_1
              try clear hfz13_0
              try clear hfz13_1
              try clear hfz16_0
              try clear hfz16_1
              try clear hfz30_0
              try clear hfz30_1
              try clear hfz32_0
              try clear hfz32_1
              try clear hfz34_0
              try clear hfz34_1
              try clear hfz36_0
              try clear hfz36_1
              try clear hfz38_0
              try clear hfz38_1
              try clear hfz82_0
              try clear hfz82_1
              try clear hfz84_0
              try clear hfz84_1
              try clear hfz86_0
              try clear hfz86_1
              try clear hx832_0
              try clear hx833_0
              try clear hx834_0
              try clear hx835_0
              try clear hx836_0
              try clear hx845_0
              try clear hx846_0
              try clear hx848_0
              obtain ⟨kq,x234_79,rfl,HA,HJ79,HO_4,HO_5,HO_11,HO_13,HO_17,HO_805001,BK804,HB⟩:=hcut
              cases kq with
              | zero=>exact absurd HA.out (by simp [laws_FnHeights.j5])
              | succ kj79 =>
               have H:=HA.out
               clear HA
               simp only [laws_FnHeights.j5] at H
               by_cases c102:x234_79 = true
               ·subst c102
                rw [if_pos rfl] at H
                exact absurd H (by simp)
               replace c102:=Bool.eq_false_iff.mpr c102
               subst c102
               rw [if_neg (show ¬ (false = true) by decide)] at H
               by_cases c103:t843 < 1
               ·rw [if_pos c103] at H
                exact absurd H (by simp)
               rw [if_neg c103] at H
               have c103b0:decide (t843 < 1) = false:=decide_eq_false c103
               clear c103
               by_cases c104:t843 > (t816.length:Int)
               ·rw [if_pos c104] at H
                exact absurd H (by simp)
               rw [if_neg c104] at H
               have c104b0:decide ((t816.length:Int) < t843) = false:=decide_eq_false c104
               clear c104
               obtain ⟨ji105,hji105⟩:∃ j_:Int,(wrap64 (t843 - 1)) = j_:=⟨_,rfl⟩
               replace H:(if 0 ≤ (ji105) then (if (ji105) < (t816.length:Int) then (if 0 ≤ x20_5 then (if x20_5 < (t820.length:Int) then (if 0 ≤ (IntKind.u64.wrap (rd t820 x20_5)) then (if (Go.bits .and .i64 (shr .i64 (rd t816 (ji105)) (IntKind.u64.wrap (rd t820 x20_5))) 1) = 0 then (none) else (laws_FnHeights.l1 kj79 t801 t805 t814 t816 t820 t828 (wrap64 (x20_5 + 1)) t797 t798)) else (none)) else (none)) else (none)) else (none)) else (none)) = some r:=by first | (rw [hji105] at H;exact H) | (simp only [hji105] at H ⊢;exact H)
               have hji105w:(IntKind.i64.wrap (t843 - 1)) = ji105:=(i64_w _).trans hji105
               by_cases c106:0 ≤ (ji105)
               ·rw [if_pos c106] at H
                have c106b0:decide (0 ≤ (ji105)) = true:=decide_eq_true c106
                clear c106
                by_cases c107:(ji105) < (t816.length:Int)
                ·rw [if_pos c107] at H
                 have c107b0:decide ((ji105) < (t816.length:Int)) = true:=decide_eq_true c107
                 clear c107
                 by_cases c108:0 ≤ x20_5
                 ·rw [if_pos c108] at H
                  have c108b0:decide (0 ≤ x20_5) = true:=decide_eq_true c108
                  clear c108
                  by_cases c109:x20_5 < (t820.length:Int)
                  ·rw [if_pos c109] at H
                   have c109b0:decide (x20_5 < (t820.length:Int)) = true:=decide_eq_true c109
                   clear c109
                   obtain ⟨ji110,hji110⟩:∃ j_:Int,(IntKind.u64.wrap (rd t820 x20_5)) = j_:=⟨_,rfl⟩
                   replace H:(if 0 ≤ (ji110) then (if (Go.bits .and .i64 (shr .i64 (rd t816 (ji105)) (ji110)) 1) = 0 then (none) else (laws_FnHeights.l1 kj79 t801 t805 t814 t816 t820 t828 (wrap64 (x20_5 + 1)) t797 t798)) else (none)) = some r:=by first | (rw [hji110] at H;exact H) | (simp only [hji110] at H ⊢;exact H)
                   by_cases c111:0 ≤ (ji110)
                   ·rw [if_pos c111] at H
                    have c111b0:=eq_true c111
                    have c111b1:decide (0 ≤ (ji110)) = true:=decide_eq_true c111
                    clear c111
                    obtain ⟨ji112,hji112⟩:∃ j_:Int,(shr .i64 (rd t816 (ji105)) (ji110)) = j_:=⟨_,rfl⟩
                    replace H:(if (Go.bits .and .i64 (ji112) 1) = 0 then (none) else (laws_FnHeights.l1 kj79 t801 t805 t814 t816 t820 t828 (wrap64 (x20_5 + 1)) t797 t798)) = some r:=by first | (rw [hji112] at H;exact H) | (simp only [hji112] at H ⊢;exact H)
                    have hji112_:((rd t816 (ji105)) / 2 ^ min (ji110).toNat 64) = ji112:=hji112
                    have hji112z:(ji110) ≤ 64 → ((rd t816 (ji105)) / 2 ^ (ji110).toNat) = ji112:=shr_small hji112
                    by_cases c113:(Go.bits .and .i64 (ji112) 1) = 0
                    ·rw [if_pos c113] at H
                     exact absurd H (by simp)
                    rw [if_neg c113] at H
                    obtain ⟨c113b0,c113b1⟩:=zT2 c113
                    have H' := zA H
                    clear H
                    obtain ⟨Ao114,co114,eo114⟩:=kM HO_11.out
                    subst eo114
                    have p849:0 ≤ ((ji105):Int):=zd
                    have q849:(ji105) < (t816.length:Int):=zd
                    obtain ⟨ad849,e849,hx849_0⟩:=Kd.at_int (kB HO_11.out).2.2 (ji105) p849 q849
                    cases e849
                    replace p849:=eq_true p849
                    replace q849:=eq_true q849
                    have p850:0 ≤ (x20_5:Int):=zd
                    have q850:x20_5 < (t820.length:Int):=zd
                    obtain ⟨ad850,e850,hx850_0⟩:=Kd.at_int (kB HO_13.out).2.2 x20_5 p850 q850
                    cases e850
                    replace p850:=eq_true p850
                    replace q850:=eq_true q850
                    go_wp2
                    repeat (go_quiet (fail);try go_wp2)
                    go_roundg kj79
                    case measure=>have:=HJ6.out;have:=HJ28.out;have:=HJ54.out;have:=HK4.out;have:=HK5.out;have:=HJ79.out;omega
                    case rel=>exact ⟨(wrap64 (x20_5 + 1)),zs,H', ⟨by have:=HJ6.out;have:=HJ28.out;have:=HJ54.out;have:=HK4.out;have:=HK5.out;have:=HJ79.out;omega⟩,⟨zP HO_4.out⟩,⟨zP HO_5.out⟩,⟨zP HO_11.out⟩,⟨zP HO_13.out⟩,⟨zP HO_17.out⟩,⟨zP HO_805001.out⟩,⟨zR BK804.out⟩,⟨zT HB.out GE804.out⟩⟩
                   rw [if_neg c111] at H
                   exact absurd H (by simp)
                  rw [if_neg c109] at H
                  exact absurd H (by simp)
                 rw [if_neg c108] at H
                 exact absurd H (by simp)
                rw [if_neg c107] at H
                exact absurd H (by simp)
               rw [if_neg c106] at H
               exact absurd H (by simp)
            rw [if_neg c76] at H
            have c76b0:decide (x20_5 < (t820.length:Int)) = false:=decide_eq_false c76
            clear c76
            obtain rfl:=Option.some.inj H
            obtain ⟨Ao115,co115,eo115⟩:=kM HO_13.out
            subst eo115
            go_wp2
            repeat (go_quiet (fail);try go_wp2)
            go_ret
            exact ⟨zr,zT HB.out GE804.out⟩
   rw [if_neg c23] at H
   obtain ⟨c23b0,c23b1⟩:=zT2 c23
   obtain rfl:=Option.some.inj H
   go_wp2
   repeat (go_quiet (fail);try go_wp2)
   go_ret
   exact ⟨zr,zT HB.out GE804.out⟩
end Go.Proofs.YtpenijicdldipaaDoor.PAll
