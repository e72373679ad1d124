import Derived.Test.YtjdekliancabgaaDoorPAllx0
import Derived.Test.YtjdekliancabgaaDoorPAllx1
import Derived.Test.YtjdekliancabgaaDoorPAllx2
import Derived.Test.YtjdekliancabgaaDoorPAllx3
namespace Go.Proofs.YtjdekliancabgaaDoor.PAll
open Go.RowKit Go.Proofs.YtjdekliancabgaaDoor.T Go.Proofs.YtjdekliancabgaaDoorW.PrintWords Go.Proofs.YtjdekliancabgaaDoorW.PrintLast Go.Proofs.YtjdekliancabgaaDoorW.PrintMore
attribute [local go_sem] max2_int min2_int max_two min_two max_three min_three max_four min_four   -- for this text's walks alone
set_option linter.unusedVariables false
set_option linter.unusedSimpArgs false
def spec_DrawDirectProduct.f (k:Nat) (l0:List Int):Option (Int × List Int × Int × List Int):=(spec_l01From.f k l0).bind fun bt201=>((spec_l02Spoil.f k bt201.1 bt201.2.1 bt201.2.2 5).bind fun bt205=>((spec_l02Spoil.f k bt201.1 bt205.2.2.1 bt205.2.2.2 5).bind fun bt212=>(some (bt205.1,bt205.2.1,bt212.1,bt212.2.1))))
set_option maxHeartbeats 8000000 in
set_option maxRecDepth 100000 in
theorem spec_DrawDirectProduct.calls (k : Nat) (A0 : Option Addr) (c0 : Nat) (l0 : List Int) (r1 : Int) (r2 : List Int) (r3 : Int) (r4 : List Int) (w : World) (hr0 : Kd.C (Kd.int .u8) w A0 l0.length l0) (hc0 : l0.length ≤ c0) (h : spec_DrawDirectProduct.f k l0 = some (r1, r2, r3, r4)) :
  Calls Tryd.prog 6 #[.slice A0 l0.length c0] w fun e w' => ∃ v1_ v3_:Value,e = .returned (.tuple #[.agg #[.int .i64 r1,v1_],.agg #[.int .i64 r3,v3_]]) ∧ Kd.R (Kd.int .i64) 2 w' w.heap.size (fun k_=>some k_ ≠ (v3_:Value).ownBlock) v1_ r2 ∧ Kd.R (Kd.int .i64) 2 w' w.heap.size (fun k_=>some k_ ≠ (v1_:Value).ownBlock) v3_ r4 ∧ Below w.heap.size w w' := by
 have hu26:=Tryd.underlying26
 have HR0:=zA hr0
 have HC0:=zA hc0
 clear hr0 hc0
 have HB:=zA (kW w.heap.size w)
 have H:=h
 unfold spec_DrawDirectProduct.f at H
 clear h
 obtain ⟨⟨t201,t202,t203⟩,A2,H⟩:=zb H
 try dsimp only at H
 obtain ⟨⟨t205,t206,t209,t210⟩,A3,H⟩:=zb H
 try dsimp only at H
 obtain ⟨⟨t212,t213,t216,t217⟩,A4,H⟩:=zb H
 try dsimp only at H
 simp only [Option.some.injEq,Prod.mk.injEq] at H
 obtain ⟨rfl,rfl,rfl,rfl⟩:=H
 go_enter Tryd.func6,Tryd.ntmps6
 try go_wp2_with (first | (refine zBE 2 #[.int .i64 0,.slice none 0 0] 26 ?_;intro gb199 hg w5 hbox hb;have BK199:=zA (hbox);have GW199:=zA (zBH hg HB.out);have GE199:=zA (zBH hg HB.out);replace HB:=zA (kQ (zQ HB.out) hb);clear hb hbox hg) | (refine zBE 3 #[.int .i64 0,.slice none 0 0] 26 ?_;intro gb200 hg w6 hbox hb;have BK200:=zA (hbox);have GW200:=zA (zB6 hg (kP (zT HB.out GE199.out)):w.heap.size ≤ gb200);have GE200:=zA (zB6 hg (kP (zT HB.out GE199.out)):w.heap.size ≤ gb200);replace HB:=zA (kQ (zT HB.out GE199.out) hb);have NB199_200:=zA (zB4 hg BK199.out:gb199 ≠ gb200);have NB200_199:=zA (zB5 hg BK199.out:gb200 ≠ gb199);replace BK199:=zA (zB1 BK199.out hb);clear hb hbox hg) | (refine zO (some 8) Tryd.func19 #[.slice A0 l0.length c0] ?_;(with_reducible refine (spec_l01From.calls k _ _ l0 t201 t202 t203 w _ ?side1 ?side2 ?side3 A2.out).mono ?_);(case side1=>exact zV HB.out GE199.out GE200.out);(case side2=>exact HR0.out);(case side3=>exact HC0.out);rintro e w7 ⟨g204,rfl,hi,hb,hb2,hgw⟩;refine ⟨_,rfl,?_⟩;replace HB:=zA (hb);have HI204:=zA (hi);have NB204_199:=zA (Z66.ne_blk hi (blk_below (g:=gb199) (o:=.cells #[.int .i64 0,.slice none 0 0] 26 (0,0)) (zR BK199.out) hb2) (by decide));have NB199_204:=zA (Ne.symm (Z66.ne_blk hi (blk_below (g:=gb199) (o:=.cells #[.int .i64 0,.slice none 0 0] 26 (0,0)) (zR BK199.out) hb2) (by decide)));replace BK199:=zA (zB1 BK199.out hb2);have NB204_200:=zA (Z66.ne_blk hi (blk_below (g:=gb200) (o:=.cells #[.int .i64 0,.slice none 0 0] 26 (0,0)) (zR BK200.out) hb2) (by decide));have NB200_204:=zA (Ne.symm (Z66.ne_blk hi (blk_below (g:=gb200) (o:=.cells #[.int .i64 0,.slice none 0 0] 26 (0,0)) (zR BK200.out) hb2) (by decide)));replace BK200:=zA (zB1 BK200.out hb2);(try clear hb);(try clear hb2);(try clear hi);(try clear hgw)) | (refine zO (some 10) Tryd.func20 #[.pointer (some ⟨g204,0,none⟩),.int .i64 5] ?_;(with_reducible refine (spec_l02Spoil.calls k g204 t201 t202 t203 5 t205 t206 t209 t210 w _ ?side1 ?side2 A3.out).mono ?_);(case side1=>exact Z66.uC HI204.out NB204_199.out NB204_200.out);(case side2=>exact zW HB.out (Z66.ge HI204.out) GE199.out GE200.out);rintro e w8 ⟨v207,rfl,ho0,hi,hb,hk⟩;refine ⟨_,rfl,?_⟩;replace BK199:=zA (zB2 hk BK199.out NB199_204.out);replace BK200:=zA (zB2 hk BK200.out NB200_204.out);have HO208:=zA (kI ho0 (kP (zW HB.out (Z66.ge HI204.out) GE199.out GE200.out)));replace HB:=zA (hb);replace HI204:=zA (hi);(try clear hb);(try clear hk);(try clear hi);(try clear ho0)) | (refine zBE 5 #[.int .i64 0,.slice none 0 0] 26 ?_;intro gb211 hg w9 hbox hb;replace HO208:=zA (kL (zP HO208.out) hb);have BK211:=zA (hbox);have GW211:=zA (zB6 hg (kP (zW HB.out (Z66.ge HI204.out) GE199.out GE200.out)):w.heap.size ≤ gb211);have GE211:=zA (zB6 hg (kP (zW HB.out (Z66.ge HI204.out) GE199.out GE200.out)):w.heap.size ≤ gb211);replace HB:=zA (kQ (zW HB.out (Z66.ge HI204.out) GE199.out GE200.out) hb);have NB199_211:=zA (zB4 hg BK199.out:gb199 ≠ gb211);have NB211_199:=zA (zB5 hg BK199.out:gb211 ≠ gb199);replace BK199:=zA (zB1 BK199.out hb);have NB200_211:=zA (zB4 hg BK200.out:gb200 ≠ gb211);have NB211_200:=zA (zB5 hg BK200.out:gb211 ≠ gb200);replace BK200:=zA (zB1 BK200.out hb);have NB204_211:=zA (zB7 hg (Z66.lt (show Z66 w _ g204 t201 t209 t210 from Z66.uC HI204.out NB204_199.out NB204_200.out)):g204 ≠ gb211);have NB211_204:=zA (zB8 hg (Z66.lt (show Z66 w _ g204 t201 t209 t210 from Z66.uC HI204.out NB204_199.out NB204_200.out)):gb211 ≠ g204);replace HI204:=zA (Z66.below (Z66.uC HI204.out NB204_199.out NB204_200.out) hb);clear hb hbox hg;have hnb10:=NB211_199.out;have hnc10:=NB199_211.out;have hnb11:=NB211_200.out;have hnc11:=NB200_211.out;have hnb12:=NB211_204.out;have hnc12:=NB204_211.out;obtain ⟨hcz13_0,hcz13_1,hfz13_0,hfz13_1⟩:=zB3 BK211.out;obtain ⟨Ao14,co14,eo14⟩:=kM HO208.out;subst eo14) | (refine zO (some 12) Tryd.func20 #[.pointer (some ⟨g204,0,none⟩),.int .i64 5] ?_;(with_reducible refine (spec_l02Spoil.calls k g204 t201 t209 t210 5 t212 t213 t216 t217 w _ ?side1 ?side2 A4.out).mono ?_);(case side1=>repeat (first | (with_reducible first | exact HI204.out | apply Z66.alloc | apply Z66.drewN | apply Z66.drew | apply Z66.set_1 | apply Z66.set_2 | refine Z66.far ?_ NB204_199.out _ | refine Z66.far ?_ NB204_200.out _ | refine Z66.far ?_ NB204_211.out _) | exact HI204.out));(case side2=>repeat (first | (with_reducible first | exact HB.out | apply zB | apply zC | apply zD | refine zE ?_ (Z66.ge HI204.out) | refine zE ?_ GE199.out | refine zE ?_ GE200.out | refine zE ?_ GE211.out) | exact HB.out));rintro e w15 ⟨v214,rfl,ho0,hi,hb,hk⟩;refine ⟨_,rfl,?_⟩;replace BK199:=zA (KeepBut.blk hk (g' := gb199) (o:=.cells #[.int .i64 0,.slice none 0 0] 26 (0,0)) (zBG BK199.out NB199_211.out NB199_211.out) NB199_204.out (by simp));replace BK200:=zA (KeepBut.blk hk (g' := gb200) (o:=.cells #[.int .i64 0,.slice none 0 0] 26 (0,0)) (zBG BK200.out NB200_211.out NB200_211.out) NB200_204.out (by simp));have HO215:=zA (kI (kF ho0 (kH (zP (zFG HO208.out BK211.out (.int .i64 t205) (.slice Ao14 t206.length co14))))) (kP (by repeat (first | (with_reducible first | exact HB.out | apply zB | apply zC | apply zD | refine zE ?_ (Z66.ge HI204.out) | refine zE ?_ GE199.out | refine zE ?_ GE200.out | refine zE ?_ GE211.out) | exact HB.out))));replace HO208:=zA (kA (Kd.R_told (Kd.R_oldK (Z66.apart (show Z66 w _ g204 t201 t209 t210 from by repeat (first | (with_reducible first | exact HI204.out | apply Z66.alloc | apply Z66.drewN | apply Z66.drew | apply Z66.set_1 | apply Z66.set_2 | refine Z66.far ?_ NB204_199.out _ | refine Z66.far ?_ NB204_200.out _ | refine Z66.far ?_ NB204_211.out _) | exact HI204.out)) (zP (zFG HO208.out BK211.out (.int .i64 t205) (.slice Ao14 t206.length co14))) (by decide)) hk) (kC ho0)) (fun _ h_=>h_.1));replace BK211:=zA (KeepBut.blk hk (g' := gb211) (o:=.cells #[.int .i64 t205,.slice Ao14 t206.length co14] 26 (0,0)) (zRP BK211.out) NB211_204.out (by simp));replace HB:=zA (hb);replace HI204:=zA (hi);(try clear hb);(try clear hk);(try clear hi);(try clear ho0)) | (refine zBE 6 #[.int .i64 0,.slice none 0 0] 26 ?_;intro gb218 hg w16 hbox hb;replace HO208:=zA (kL (zP HO208.out) hb);replace HO215:=zA (kL (zP HO215.out) hb);have BK218:=zA (hbox);have GW218:=zA ((by rw [hg];exact (kP (by repeat (first | (with_reducible first | exact HB.out | apply zB | apply zC | apply zD | refine zE ?_ (Z66.ge HI204.out) | refine zE ?_ GE199.out | refine zE ?_ GE200.out | refine zE ?_ GE211.out) | exact HB.out))):w.heap.size ≤ gb218));have GE218:=zA ((by rw [hg];exact (kP (by repeat (first | (with_reducible first | exact HB.out | apply zB | apply zC | apply zD | refine zE ?_ (Z66.ge HI204.out) | refine zE ?_ GE199.out | refine zE ?_ GE200.out | refine zE ?_ GE211.out) | exact HB.out))):w.heap.size ≤ gb218));replace HB:=zA (kQ (by repeat (first | (with_reducible first | exact HB.out | apply zB | apply zC | apply zD | refine zE ?_ (Z66.ge HI204.out) | refine zE ?_ GE199.out | refine zE ?_ GE200.out | refine zE ?_ GE211.out) | exact HB.out)) hb);have NB199_218:=zA (zB4 hg BK199.out:gb199 ≠ gb218);have NB218_199:=zA (zB5 hg BK199.out:gb218 ≠ gb199);replace BK199:=zA (zB1 BK199.out hb);have NB200_218:=zA (zB4 hg BK200.out:gb200 ≠ gb218);have NB218_200:=zA (zB5 hg BK200.out:gb218 ≠ gb200);replace BK200:=zA (zB1 BK200.out hb);have NB211_218:=zA (zB4 hg BK211.out:gb211 ≠ gb218);have NB218_211:=zA (zB5 hg BK211.out:gb218 ≠ gb211);replace BK211:=zA (zB1 BK211.out hb);have NB204_218:=zA (zB7 hg (Z66.lt (show Z66 w _ g204 t201 t216 t217 from by repeat (first | (with_reducible first | exact HI204.out | apply Z66.alloc | apply Z66.drewN | apply Z66.drew | apply Z66.set_1 | apply Z66.set_2 | refine Z66.far ?_ NB204_199.out _ | refine Z66.far ?_ NB204_200.out _ | refine Z66.far ?_ NB204_211.out _) | exact HI204.out))):g204 ≠ gb218);have NB218_204:=zA (zB8 hg (Z66.lt (show Z66 w _ g204 t201 t216 t217 from by repeat (first | (with_reducible first | exact HI204.out | apply Z66.alloc | apply Z66.drewN | apply Z66.drew | apply Z66.set_1 | apply Z66.set_2 | refine Z66.far ?_ NB204_199.out _ | refine Z66.far ?_ NB204_200.out _ | refine Z66.far ?_ NB204_211.out _) | exact HI204.out))):gb218 ≠ g204);replace HI204:=zA (Z66.below (by repeat (first | (with_reducible first | exact HI204.out | apply Z66.alloc | apply Z66.drewN | apply Z66.drew | apply Z66.set_1 | apply Z66.set_2 | refine Z66.far ?_ NB204_199.out _ | refine Z66.far ?_ NB204_200.out _ | refine Z66.far ?_ NB204_211.out _) | exact HI204.out)) hb);clear hb hbox hg;have hnb17:=NB218_199.out;have hnc17:=NB199_218.out;have hnb18:=NB218_200.out;have hnc18:=NB200_218.out;have hnb19:=NB218_211.out;have hnc19:=NB211_218.out;have hnb20:=NB218_204.out;have hnc20:=NB204_218.out;obtain ⟨hcz21_0,hcz21_1,hfz21_0,hfz21_1⟩:=zB3 BK218.out;obtain ⟨Ao22,co22,eo22⟩:=kM HO215.out;subst eo22))
 have n0_:Aside0 (Kd.R (Kd.int .i64) 2 ((w16.setCell ⟨gb218,0,none⟩ (.int .i64 t212)).setCell ⟨gb218,1,none⟩ (.slice Ao22 t213.length co22)) w.heap.size (fun k_=>some k_ ≠ (.slice Ao22 t213.length co22:Value).ownBlock) (.slice Ao14 t206.length co14) t206):=⟨by (with_reducible repeat (first | apply zF | apply zG | apply zH));exact kA (kY (p:=⟨gb218,1,none⟩) (kY (p:=⟨gb218,0,none⟩) (kD HO208.out BK218.out (by decide)) (fun _ hk=>hk.2) (.int .i64 t212)) (fun _ hk=>hk.2) (.slice Ao22 t213.length co22)) (fun _ hk=>hk.1.2)⟩
 have n1_:Aside0 (Kd.R (Kd.int .i64) 2 ((w16.setCell ⟨gb218,0,none⟩ (.int .i64 t212)).setCell ⟨gb218,1,none⟩ (.slice Ao22 t213.length co22)) w.heap.size (fun k_=>some k_ ≠ (.slice Ao14 t206.length co14:Value).ownBlock) (.slice Ao22 t213.length co22) t213):=⟨by (with_reducible repeat (first | apply zF | apply zG | apply zH));exact kA (kY (p:=⟨gb218,1,none⟩) (kY (p:=⟨gb218,0,none⟩) (kD HO215.out BK218.out (by decide)) (fun _ hk=>hk.2) (.int .i64 t212)) (fun _ hk=>hk.2) (.slice Ao22 t213.length co22)) (fun _ hk=>hk.1.2)⟩
 have n2_:Aside0 (((w16.setCell ⟨gb218,0,none⟩ (.int .i64 t212)).setCell ⟨gb218,1,none⟩ (.slice Ao22 t213.length co22)).heap[gb199]? = some (.cells #[.int .i64 0,.slice none 0 0] 26 (0,0))):=⟨by (with_reducible repeat (first | refine zJ ?_ _ | refine zK ?_ | refine zI ?_ _));refine blk_far ?_ NB199_218.out _;(with_reducible repeat (first | refine zJ ?_ _ | refine zK ?_ | refine zI ?_ _));refine blk_far ?_ NB199_218.out _;(with_reducible repeat (first | refine zJ ?_ _ | refine zK ?_ | refine zI ?_ _));exact BK199.out⟩
 have n3_:Aside0 (((w16.setCell ⟨gb218,0,none⟩ (.int .i64 t212)).setCell ⟨gb218,1,none⟩ (.slice Ao22 t213.length co22)).heap[gb200]? = some (.cells #[.int .i64 0,.slice none 0 0] 26 (0,0))):=⟨by (with_reducible repeat (first | refine zJ ?_ _ | refine zK ?_ | refine zI ?_ _));refine blk_far ?_ NB200_218.out _;(with_reducible repeat (first | refine zJ ?_ _ | refine zK ?_ | refine zI ?_ _));refine blk_far ?_ NB200_218.out _;(with_reducible repeat (first | refine zJ ?_ _ | refine zK ?_ | refine zI ?_ _));exact BK200.out⟩
 have n4_:Aside0 (((w16.setCell ⟨gb218,0,none⟩ (.int .i64 t212)).setCell ⟨gb218,1,none⟩ (.slice Ao22 t213.length co22)).heap[gb211]? = some (.cells #[.int .i64 t205,.slice Ao14 t206.length co14] 26 (0,0))):=⟨by (with_reducible repeat (first | refine zJ ?_ _ | refine zK ?_ | refine zI ?_ _));refine blk_far ?_ NB211_218.out _;(with_reducible repeat (first | refine zJ ?_ _ | refine zK ?_ | refine zI ?_ _));refine blk_far ?_ NB211_218.out _;(with_reducible repeat (first | refine zJ ?_ _ | refine zK ?_ | refine zI ?_ _));exact BK211.out⟩
 have n5_:Aside0 (((w16.setCell ⟨gb218,0,none⟩ (.int .i64 t212)).setCell ⟨gb218,1,none⟩ (.slice Ao22 t213.length co22)).heap[gb218]? = some (.cells #[.int .i64 t212,.slice Ao22 t213.length co22] 26 (0,0))):=⟨by (with_reducible repeat (first | refine zJ ?_ _ | refine zK ?_ | refine zI ?_ _));refine blk_put (cs:=#[.int .i64 t212,.slice none 0 0]) ?_ 1 _ rfl;(with_reducible repeat (first | refine zJ ?_ _ | refine zK ?_ | refine zI ?_ _));refine blk_put (cs:=#[.int .i64 0,.slice none 0 0]) ?_ 0 _ rfl;(with_reducible repeat (first | refine zJ ?_ _ | refine zK ?_ | refine zI ?_ _));exact BK218.out⟩
 have n6_:Aside0 (Z66 w ((w16.setCell ⟨gb218,0,none⟩ (.int .i64 t212)).setCell ⟨gb218,1,none⟩ (.slice Ao22 t213.length co22)) g204 t201 t216 t217):=⟨by repeat (first | (with_reducible first | exact HI204.out | apply Z66.alloc | apply Z66.drewN | apply Z66.drew | apply Z66.set_1 | apply Z66.set_2 | refine Z66.far ?_ NB204_199.out _ | refine Z66.far ?_ NB204_200.out _ | refine Z66.far ?_ NB204_211.out _ | refine Z66.far ?_ NB204_218.out _) | exact HI204.out)⟩
 have n7_:Aside0 (Below w.heap.size w ((w16.setCell ⟨gb218,0,none⟩ (.int .i64 t212)).setCell ⟨gb218,1,none⟩ (.slice Ao22 t213.length co22))):=⟨by repeat (first | (with_reducible first | exact HB.out | apply zB | apply zC | apply zD | refine zE ?_ (Z66.ge HI204.out) | refine zE ?_ GE199.out | refine zE ?_ GE200.out | refine zE ?_ GE211.out | refine zE ?_ GE218.out) | exact HB.out)⟩
 (try clear HO208)
 (try clear HO215)
 (try clear BK199)
 (try clear BK200)
 (try clear BK211)
 (try clear BK218)
 (try clear HI204)
 (try clear HB)
 generalize ((w16.setCell ⟨gb218,0,none⟩ (.int .i64 t212)).setCell ⟨gb218,1,none⟩ (.slice Ao22 t213.length co22)) = w23 at n0_ n1_ n2_ n3_ n4_ n5_ n6_ n7_ ⊢
 have HO208:=n0_
 have HO215:=n1_
 have BK199:=n2_
 have BK200:=n3_
 have BK211:=n4_
 have BK218:=n5_
 have HI204:=n6_
 have HB:=n7_
 clear n0_ n1_ n2_ n3_ n4_ n5_ n6_ n7_
 replace HO208:=zA (zH HO208.out)
 replace HO215:=zA (zH HO215.out)
 replace BK199:=zA (zK BK199.out)
 replace BK200:=zA (zK BK200.out)
 replace BK211:=zA (zK BK211.out)
 replace BK218:=zA (zK BK218.out)
 replace HI204:=zA (Z66.drew HI204.out)
 replace HB:=zA (zD HB.out)
 refine start_ (n:=4) (S:=fun w' => w'.cell? ⟨gb211,0,none⟩ = some (.int .i64 t205) ∧ w'.cell? ⟨gb211,1,none⟩ = some (.slice Ao14 t206.length co14) ∧ w'.cell? ⟨gb218,0,none⟩ = some (.int .i64 t212) ∧ w'.cell? ⟨gb218,1,none⟩ = some (.slice Ao22 t213.length co22)) (ds:=[]) #[false,false,false,false] (by kernel_rfl) rfl rfl ⟨(kV BK211.out 0).trans rfl,(kV BK211.out 1).trans rfl,(kV BK218.out 0).trans rfl,(kV BK218.out 1).trans rfl⟩ (fun hHeld=>?_)
 generalize w23.drew = w24 at HO208 HO215 BK199 BK200 BK211 BK218 HI204 HB hHeld ⊢
 refine take_ (i:=0) (N:=some 13) (v:=?_) (a' := ?_) #[true,false,false,false] rfl rfl (by kernel_rfl) (fun _ _ _ h=>h) (Or.inl ⟨by rfl,?_⟩) hHeld ?_ ?_
 rotate_left
 ·rintro w' ⟨s0,s1,s2,s3⟩
  go_simp
  with_reducible rfl
 rotate_left
 ·simp only [Act.put,zL,zM,zN,i64_w,i32_w]
  rfl
 refine take_ (i:=1) (N:=some 14) (v:=?_) (a' := ?_) #[true,true,false,false] rfl rfl (by kernel_rfl) (fun _ _ _ h=>h) (Or.inl ⟨by rfl,?_⟩) hHeld ?_ ?_
 rotate_left
 ·rintro w' ⟨s0,s1,s2,s3⟩
  go_simp
  with_reducible rfl
 rotate_left
 ·simp only [Act.put,zL,zM,zN,i64_w,i32_w]
  rfl
 refine one_ (i:=2) (N:=none) #[true,true,true,false] rfl rfl (by kernel_rfl) (by decide) (fun K hK=>?_)
 have hs25:w24.cell? ⟨gb199,0,none⟩ = some (.int .i64 0):=(kV BK199.out 0).trans rfl
 have hfs25:=jH BK199.out 0
 have hns25_1:=NB200_199.out
 have hns25_2:=NB211_199.out
 have hns25_3:=NB218_199.out
 have hms25_1:=NB199_200.out
 have hms25_2:=NB199_211.out
 have hms25_3:=NB199_218.out
 have hs26:w24.cell? ⟨gb199,1,none⟩ = some (.slice none 0 0):=(kV BK199.out 1).trans rfl
 have hfs26:=jH BK199.out 1
 have hns26_1:=NB200_199.out
 have hns26_2:=NB211_199.out
 have hns26_3:=NB218_199.out
 have hms26_1:=NB199_200.out
 have hms26_2:=NB199_211.out
 have hms26_3:=NB199_218.out
 refine skip_ (w1:=?_) (by rfl) rfl ?_ ?_
 rotate_left
 ·go_simp
  rfl
 refine hK.out _ _ ⟨((cell_far (p:=⟨gb199,_,none⟩) NB211_199.out _).trans (((cell_far (p:=⟨gb199,_,none⟩) NB211_199.out _).trans (hHeld.1)))),((cell_far (p:=⟨gb199,_,none⟩) NB211_199.out _).trans (((cell_far (p:=⟨gb199,_,none⟩) NB211_199.out _).trans (hHeld.2.1)))),((cell_far (p:=⟨gb199,_,none⟩) NB218_199.out _).trans (((cell_far (p:=⟨gb199,_,none⟩) NB218_199.out _).trans (hHeld.2.2.1)))),((cell_far (p:=⟨gb199,_,none⟩) NB218_199.out _).trans (((cell_far (p:=⟨gb199,_,none⟩) NB218_199.out _).trans (hHeld.2.2.2))))⟩ (fun hHeld=>?_)
 clear hK K
 refine one_ (i:=3) (N:=none) #[true,true,true,true] rfl rfl (by kernel_rfl) (by decide) (fun K hK=>?_)
 have hs27:w24.cell? ⟨gb200,0,none⟩ = some (.int .i64 0):=(kV BK200.out 0).trans rfl
 have hfs27:=jH BK200.out 0
 have hns27_0:=NB199_200.out
 have hns27_2:=NB211_200.out
 have hns27_3:=NB218_200.out
 have hms27_0:=NB200_199.out
 have hms27_2:=NB200_211.out
 have hms27_3:=NB200_218.out
 have hs28:w24.cell? ⟨gb200,1,none⟩ = some (.slice none 0 0):=(kV BK200.out 1).trans rfl
 have hfs28:=jH BK200.out 1
 have hns28_0:=NB199_200.out
 have hns28_2:=NB211_200.out
 have hns28_3:=NB218_200.out
 have hms28_0:=NB200_199.out
 have hms28_2:=NB200_211.out
 have hms28_3:=NB200_218.out
 refine skip_ (w1:=?_) (by rfl) rfl ?_ ?_
 rotate_left
 ·go_simp
  rfl
 refine hK.out _ _ ⟨((cell_far (p:=⟨gb200,_,none⟩) NB211_200.out _).trans (((cell_far (p:=⟨gb200,_,none⟩) NB211_200.out _).trans (hHeld.1)))),((cell_far (p:=⟨gb200,_,none⟩) NB211_200.out _).trans (((cell_far (p:=⟨gb200,_,none⟩) NB211_200.out _).trans (hHeld.2.1)))),((cell_far (p:=⟨gb200,_,none⟩) NB218_200.out _).trans (((cell_far (p:=⟨gb200,_,none⟩) NB218_200.out _).trans (hHeld.2.2.1)))),((cell_far (p:=⟨gb200,_,none⟩) NB218_200.out _).trans (((cell_far (p:=⟨gb200,_,none⟩) NB218_200.out _).trans (hHeld.2.2.2))))⟩ (fun hHeld=>?_)
 clear hK K
 refine done_ (by kernel_rfl) ?_
 try go_wp2
 refine bodyPost_ret (results_cc rfl _ _ gb199 gb200 26 26 #[.int .i64 t205,.slice Ao14 t206.length co14] #[.int .i64 t212,.slice Ao22 t213.length co22] (0,0) (0,0) _ _ rfl (by (with_reducible repeat (first | refine zJ ?_ _ | refine zK ?_ | refine zI ?_ _));refine blk_far ?_ NB199_200.out _;(with_reducible repeat (first | refine zJ ?_ _ | refine zK ?_ | refine zI ?_ _));refine blk_far ?_ NB199_200.out _;(with_reducible repeat (first | refine zJ ?_ _ | refine zK ?_ | refine zI ?_ _));refine blk_put (cs:=#[.int .i64 t205,.slice none 0 0]) ?_ 1 _ rfl;(with_reducible repeat (first | refine zJ ?_ _ | refine zK ?_ | refine zI ?_ _));refine blk_put (cs:=#[.int .i64 0,.slice none 0 0]) ?_ 0 _ rfl;(with_reducible repeat (first | refine zJ ?_ _ | refine zK ?_ | refine zI ?_ _));exact BK199.out) Tryd.underlying26 rfl (by kernel_rfl) rfl (by (with_reducible repeat (first | refine zJ ?_ _ | refine zK ?_ | refine zI ?_ _));refine blk_put (cs:=#[.int .i64 t212,.slice none 0 0]) ?_ 1 _ rfl;(with_reducible repeat (first | refine zJ ?_ _ | refine zK ?_ | refine zI ?_ _));refine blk_put (cs:=#[.int .i64 0,.slice none 0 0]) ?_ 0 _ rfl;(with_reducible repeat (first | refine zJ ?_ _ | refine zK ?_ | refine zI ?_ _));refine blk_far ?_ NB200_199.out _;(with_reducible repeat (first | refine zJ ?_ _ | refine zK ?_ | refine zI ?_ _));refine blk_far ?_ NB200_199.out _;(with_reducible repeat (first | refine zJ ?_ _ | refine zK ?_ | refine zI ?_ _));exact BK200.out) Tryd.underlying26 rfl (by kernel_rfl)) rfl ?_
 exact ⟨_,_,zr,by (with_reducible repeat (first | apply zF | apply zG | apply zH));exact kA (kY (p:=⟨gb200,1,none⟩) (kY (p:=⟨gb200,0,none⟩) (kY (p:=⟨gb199,1,none⟩) (kY (p:=⟨gb199,0,none⟩) (kD (kD HO208.out BK199.out (by decide)) BK200.out (by decide)) (fun _ hk=>hk.1.2) (.int .i64 t205)) (fun _ hk=>hk.1.2) (.slice Ao14 t206.length co14)) (fun _ hk=>hk.2) (.int .i64 t212)) (fun _ hk=>hk.2) (.slice Ao22 t213.length co22)) (fun _ hk=>hk.1.1),by (with_reducible repeat (first | apply zF | apply zG | apply zH));exact kA (kY (p:=⟨gb200,1,none⟩) (kY (p:=⟨gb200,0,none⟩) (kY (p:=⟨gb199,1,none⟩) (kY (p:=⟨gb199,0,none⟩) (kD (kD HO215.out BK199.out (by decide)) BK200.out (by decide)) (fun _ hk=>hk.1.2) (.int .i64 t205)) (fun _ hk=>hk.1.2) (.slice Ao14 t206.length co14)) (fun _ hk=>hk.2) (.int .i64 t212)) (fun _ hk=>hk.2) (.slice Ao22 t213.length co22)) (fun _ hk=>hk.1.1),by repeat (first | (with_reducible first | exact HB.out | apply zB | apply zC | apply zD | refine zE ?_ (Z66.ge HI204.out) | refine zE ?_ GE199.out | refine zE ?_ GE200.out | refine zE ?_ GE211.out | refine zE ?_ GE218.out) | exact HB.out)⟩
def impl_one_Btie.f (a0:Int):Option (Int):=impl_one.f a0
theorem impl_one_Btie.calls (a0:Int) (r:Int) (w:World) (h:impl_one_Btie.f a0 = some r) :
 Calls Tryd.prog 31 #[.int .i64 a0] w fun e w' => e = .returned (.int .i64 r) ∧ Below w.heap.size w w' := by
 refine (impl_one.calls a0 r w h).mono ?_
 rintro e w' ⟨h1,h2⟩
 exact ⟨h1,Drawn0.below h2⟩
def impl_Alphabet_tie.f (a0_0:Int) (l0_1:List Int) (a1:Int) (a2:Int):Option (List Int):=if 0 ≤ a1 then (if a1 < (l0_1.length:Int) then ((impl_one_Btie.f a2).bind fun t253=>((some (l0_1.set (a1:Int).toNat (Go.bits .or .i64 (rd l0_1 a1) t253):List Int)).bind fun y254=>(if 0 ≤ a2 then (if a2 < (l0_1.length:Int) then ((impl_one_Btie.f a1).bind fun t256=>(some (y254.set (a2:Int).toNat (Go.bits .or .i64 (rd y254 a2) t256)))) else (none)) else (none)))) else (none)) else (none)
def impl_Alphabet_tie.T1:Bool × List (List Nat × List Nat):=(true,[([],[]),([0],[0]),([],[]),([1,2],[1,2]),([3],[3]),([],[]),([5],[5]),([4,6],[4,6]),([1,2,0,1,2,3,4,5,6,7],[1,2]),([8,7,6,0,1,2,3,4,5,6,7],[7,8])])
def impl_Alphabet_tie.B1:List Nat:=[0,1,0,7,15,0,32,127,255,511]
theorem impl_Alphabet_tie.tab1:rtab .any (opsOf Tryd.f45 1) = impl_Alphabet_tie.T1:=by kernel_rfl
theorem impl_Alphabet_tie.bits1:waitsOk impl_Alphabet_tie.T1.2 impl_Alphabet_tie.B1 = true:=by kernel_rfl
def impl_Alphabet_tie.T2:Bool × List (List Nat × List Nat):=(true,[([],[]),([0],[0]),([],[]),([1,2],[1,2]),([3],[3]),([],[]),([5],[5]),([4,6],[4,6]),([1,2,0,1,2,3,4,5,6,7],[1,2]),([8,7,6,0,1,2,3,4,5,6,7],[7,8])])
def impl_Alphabet_tie.B2:List Nat:=[0,1,0,7,15,0,32,127,255,511]
theorem impl_Alphabet_tie.tab2:rtab .any (opsOf Tryd.f45 2) = impl_Alphabet_tie.T2:=by kernel_rfl
theorem impl_Alphabet_tie.bits2:waitsOk impl_Alphabet_tie.T2.2 impl_Alphabet_tie.B2 = true:=by kernel_rfl
set_option maxHeartbeats 8000000 in
set_option maxRecDepth 100000 in
theorem impl_Alphabet_tie.calls (a0_0 : Int) (P0_1_ : Nat → Prop) (u9000_ : Value) (l0_1 : List Int) (a1 : Int) (a2 : Int) (r : List Int) (w0 w : World) (hB : Below w0.heap.size w0 w) (ho0_1 : Kd.R (Kd.int .i64) 2 w w0.heap.size P0_1_ u9000_ l0_1) (h : impl_Alphabet_tie.f a0_0 l0_1 a1 a2 = some r) :
  Calls Tryd.prog 45 #[.agg #[.int .i64 a0_0,u9000_],.int .i64 a1,.int .i64 a2] w fun e w' => e = .returned (.tuple #[]) ∧ Kd.R (Kd.int .i64) 2 w' w0.heap.size (fun k_=>(P0_1_ k_ ∨ w.heap.size ≤ k_)) u9000_ r ∧ Below w0.heap.size w0 w' ∧ Kept w w' (fun k_=>P0_1_ k_):=by
 have hu26:=Tryd.underlying26
 have HO0_1:=zA (show Kd.R (Kd.int .i64) 2 w w0.heap.size (fun k_=>(P0_1_ k_ ∨ w.heap.size ≤ k_)) u9000_ l0_1 from kA ho0_1 (fun k_ hk=>(.inl hk)))
 have HK:=zA (Kept.refl w (fun k_=>P0_1_ k_))
 have HW0:=zA hB.size
 have HB:=zA hB
 clear hB
 have H:=h
 unfold impl_Alphabet_tie.f at H
 clear h
 by_cases c4:0 ≤ a1
 ·rw [if_pos c4] at H
  have c4b0:decide (0 ≤ a1) = true:=decide_eq_true c4
  clear c4
  by_cases c5:a1 < (l0_1.length:Int)
  ·rw [if_pos c5] at H
   have c5b0:decide (a1 < (l0_1.length:Int)) = true:=decide_eq_true c5
   clear c5
   obtain ⟨t253,A6,H⟩:=zb H
   try dsimp only at H
   obtain ⟨y254,hy254⟩:∃ y_:List Int,y_ = (l0_1.set (a1:Int).toNat (Go.bits .or .i64 (rd l0_1 a1) t253)):=⟨_,rfl⟩
   replace H:(if 0 ≤ a2 then (if a2 < (l0_1.length:Int) then ((impl_one_Btie.f a1).bind fun t256=>(some (y254.set (a2:Int).toNat (Go.bits .or .i64 (rd y254 a2) t256)))) else (none)) else (none)) = some r:=zy hy254 H
   have Ny254:=zA hy254
   clear hy254
   by_cases c8:0 ≤ a2
   ·rw [if_pos c8] at H
    have c8b0:decide (0 ≤ a2) = true:=decide_eq_true c8
    clear c8
    by_cases c9:a2 < (l0_1.length:Int)
    ·rw [if_pos c9] at H
     have c9b0:decide (a2 < (l0_1.length:Int)) = true:=decide_eq_true c9
     clear c9
     obtain ⟨t256,A10,H⟩:=zb H
     try dsimp only at H
     obtain ⟨y257,hy257⟩:∃ y_:List Int,y_ = (y254.set (a2:Int).toNat (Go.bits .or .i64 (rd y254 a2) t256)):=⟨_,rfl⟩
     replace H:(some y257) = some r:=zy hy257 H
     have Ny257:=zA hy257
     clear hy257
     obtain rfl:=Option.some.inj H
     obtain ⟨Ao12,co12,eo12⟩:=kM HO0_1.out
     subst eo12
     go_enter Tryd.func45,Tryd.ntmps45
     try go_wp2_with (first | (refine zBE 3 #[.int .i64 a0_0,.slice Ao12 l0_1.length co12] 26 ?_;intro gb251 hg w13 hbox hb;replace HO0_1:=zA (kL (zP HO0_1.out) hb);have BK251:=zA (hbox);have GW251:=zA (zB6 hg (by first | exact HK.out.1 | exact (show Kept w _ (fun k_=>P0_1_ k_) from by repeat (first | (with_reducible first | exact HK.out | apply Kept.alloc | apply Kept.drewN | apply Kept.drew) | exact HK.out)).1):w.heap.size ≤ gb251);replace HK:=zA (Kept.below (S:=(fun k_=>P0_1_ k_)) (by repeat (first | (with_reducible first | exact HK.out | apply Kept.alloc | apply Kept.drewN | apply Kept.drew) | exact HK.out)) hb);have GE251:=zA (zBH hg HB.out);replace HB:=zA (kQ (zQ HB.out) hb);clear hb hbox hg))
     replace HO0_1:=zA (zH HO0_1.out)
     replace BK251:=zA (zK BK251.out)
     replace HK:=zA (Kept.drew HK.out)
     replace HB:=zA (zD HB.out)
     have p252:0 ≤ (a1:Int):=zd
     have q252:a1 < (l0_1.length:Int):=zd
     obtain ⟨ad252,e252,hx252_0⟩:=Kd.at_int (kB HO0_1.out).2.2 a1 p252 q252
     cases e252
     replace p252:=eq_true p252
     replace q252:=eq_true q252
     refine start_ (n:=10) (S:=fun w' => w'.cell? ⟨gb251,0,none⟩ = some (.int .i64 a0_0) ∧ w'.cell? ⟨gb251,1,none⟩ = some (.slice (some ad252) l0_1.length co12) ∧ w'.cell? (ad252.add (a1).toNat) = some (.int .i64 (rd l0_1 a1))) (ds:=[9]) #[false,false,false,false,false,false,false,false,false,false] (by kernel_rfl) rfl rfl ⟨(kV BK251.out 0).trans rfl,(kV BK251.out 1).trans rfl,hx252_0⟩ (fun hHeld=>?_);refine with_tabW impl_Alphabet_tie.tab1 impl_Alphabet_tie.bits1 (fun HT_ HW_=>?_)
     generalize w13.drew = w14 at HO0_1 BK251 HK HB hx252_0 hHeld ⊢
     refine zp 0 (some 6) #[true,false,false,false,false,false,false,false,false,false] HT_.out ?_
     refine zp 2 (some 8) #[true,false,true,false,false,false,false,false,false,false] HT_.out ?_
     refine zp 5 (some 11) #[true,false,true,false,false,true,false,false,false,false] HT_.out ?_
     refine ze 1 (some 7) #[true,true,true,false,false,true,false,false,false,false] HT_.out HW_.out hHeld ?_
     refine zp 3 (some 9) #[true,true,true,true,false,true,false,false,false,false] HT_.out ?_
     refine ze 4 (some 10) #[true,true,true,true,true,true,false,false,false,false] HT_.out HW_.out hHeld ?_
     refine one_ (i:=6) (N:=some 12) #[true,true,true,true,true,true,true,false,false,false] rfl rfl (one_of HT_.out (by kernel_rfl)) (by decide) (fun K hK=>?_)
     refine goes_ Tryd.func31 (by kernel_rfl) rfl #[.int .i64 a2] (by rfl) rfl rfl zg ?_
     with_reducible refine (impl_one_Btie.calls a2 t253 _ A6.out).mono ?_
     rintro e w15 ⟨rfl,hb⟩
     have HS2_:=(hb.cell (jG _ _ (hHeld.2.2))).trans (hHeld.2.2)
     refine ⟨_,rfl,?_⟩
     replace HO0_1:=zA (kL (zP HO0_1.out) hb)
     replace BK251:=zA (zB1 BK251.out hb)
     replace HK:=zA (Kept.below (S:=(fun k_=>P0_1_ k_)) (by repeat (first | (with_reducible first | exact HK.out | apply Kept.alloc | apply Kept.drewN | apply Kept.drew | refine Kept.setCell ?_ (.inr GW251.out) _) | exact HK.out)) hb)
     replace HB:=zA (kQ (zT HB.out GE251.out) hb)
     (try clear hb)
     (try clear hb2)
     (try clear hk)
     (try clear hi)
     (try clear hgw)
     have p7:0 ≤ (a1:Int):=zd
     have q7:(a1:Int) < ((l0_1.length:Int):Int):=zd
     obtain ⟨go7,co7,eo7,gb7,gl7,cl7,HG7⟩:=Kd.R_form HO0_1.out (by omega)
     (first | cases eo7 | (injection eo7 with ea_ en_ ec_;(first | subst ea_ | (injection ea_ with ea_;subst ea_));subst ec_;clear en_))
     have GB7:=zA gb7
     have GG7:=zA HG7
     clear gb7 gl7 HG7
     have HMgo7:=zA (show (P0_1_ go7 ∨ w.heap.size ≤ go7) from (HO0_1.out.1 _ rfl))
     (first | simp only [add_plain] at hx252_0 | skip)
     obtain ⟨hx7_0,hf7_0⟩:=Kd.R_celln 0 HO0_1.out (a1:Int) p7 q7
     replace p7:=eq_true p7
     replace q7:=eq_true q7
     have HP16:=Kd.R_putn HO0_1.out (a1:Int) (Go.bits .or .i64 (rd l0_1 a1) t253)
     rw [← Ny254.out] at HP16
     have HQ16:=zA HP16
     clear HP16
     refine hK.out _ _ ⟨(kV BK251.out 0).trans rfl,(kV BK251.out 1).trans rfl,HS2_⟩ (fun hHeld=>?_)
     clear hK K
     refine norm_ (a' := ?_) ?_ ?_
     rotate_left
     ·show Act.put _ (some 12) _ = _
      simp only [Act.put,zL,zM,zN,i64_w,i32_w]
      rfl
     refine zp 7 (some 13) #[true,true,true,true,true,true,true,true,false,false] HT_.out ?_
     refine zp 8 (some 14) #[true,true,true,true,true,true,true,true,true,false] HT_.out ?_
     refine last_ (i:=9) (N:=none) #[true,true,true,true,true,true,true,true,true,true] rfl rfl (one_of HT_.out (by kernel_rfl)) (by decide) (fun K hK=>?_)
     refine skip_ (w1:=?_) (by rfl) rfl ?_ ?_
     rotate_left
     ·go_simp
      rfl
     refine hK.out _ _ ?_
     clear hK K
     refine done_ (done_of HT_.out (by kernel_rfl)) ?_
     try go_wp2
     have n0_:Aside0 (Kd.R (Kd.int .i64) 2 (w15.setCell ⟨go7,(a1:Int).toNat,none⟩ (.int .i64 (Go.bits .or .i64 (rd l0_1 a1) t253))) w0.heap.size (fun k_=>(P0_1_ k_ ∨ w.heap.size ≤ k_)) (.slice (some ⟨go7,0,none⟩) l0_1.length co12) y254):=⟨zP HQ16.out⟩
     have n1_:Aside0 ((w15.setCell ⟨go7,(a1:Int).toNat,none⟩ (.int .i64 (Go.bits .or .i64 (rd l0_1 a1) t253))).heap[gb251]? = some (.cells #[.int .i64 a0_0,.slice (some ⟨go7,0,none⟩) l0_1.length co12] 26 (0,0))):=⟨by (with_reducible repeat (first | refine zJ ?_ _ | refine zK ?_ | refine zI ?_ _));refine blk_far ?_ (by have h_:=Kd.R_ne HO0_1.out BK251.out (by decide);intro e_;exact h_ (by rw [e_];rfl)) _;(with_reducible repeat (first | refine zJ ?_ _ | refine zK ?_ | refine zI ?_ _));exact BK251.out⟩
     have n2_:Aside0 (Kept w (w15.setCell ⟨go7,(a1:Int).toNat,none⟩ (.int .i64 (Go.bits .or .i64 (rd l0_1 a1) t253))) (fun k_=>P0_1_ k_)):=⟨by repeat (first | (with_reducible first | exact HK.out | apply Kept.alloc | apply Kept.drewN | apply Kept.drew | refine Kept.setCell ?_ HMgo7.out _ | refine Kept.setCell ?_ (.inr GW251.out) _) | exact HK.out)⟩
     have n3_:Aside0 (Below w0.heap.size w0 (w15.setCell ⟨go7,(a1:Int).toNat,none⟩ (.int .i64 (Go.bits .or .i64 (rd l0_1 a1) t253)))):=⟨zV HB.out GB7.out GE251.out⟩
     (try clear HO0_1)
     (try clear BK251)
     (try clear HK)
     (try clear HB)
     generalize (w15.setCell ⟨go7,(a1:Int).toNat,none⟩ (.int .i64 (Go.bits .or .i64 (rd l0_1 a1) t253))) = w17 at n0_ n1_ n2_ n3_ ⊢
     have HO0_1:=n0_
     have BK251:=n1_
     have HK:=n2_
     have HB:=n3_
     clear n0_ n1_ n2_ n3_
     replace HO0_1:=zA (zH HO0_1.out)
     replace BK251:=zA (zK BK251.out)
     replace HK:=zA (Kept.drew HK.out)
     replace HB:=zA (zD HB.out)
     have p255:0 ≤ (a2:Int):=zd
     have q255:a2 < (y254.length:Int):=(by have h_:(a2:Int) < ((l0_1.length:Int):Int):=zd;first | (have e_:=(kB HO0_1.out).1;omega) | simpa only [Ny254.out,List.length_set] using h_)
     have ql255:((a2:Int) < ((l0_1.length:Int):Int)) = True:=eq_true (zd)
     obtain ⟨ad255,e255,hx255_0⟩:=Kd.at_int (kB HO0_1.out).2.2 a2 p255 q255
     obtain rfl:(⟨go7,0,none⟩:Addr) = ad255:=(by injection e255)
     (first | simp only [add_plain] at hx255_0 | simp only [add_at] at hx255_0 | simp only [Addr.add,Nat.zero_add] at hx255_0 | skip)
     replace p255:=eq_true p255
     replace q255:=eq_true q255
     refine start_ (n:=10) (S:=fun w' => w'.cell? ⟨gb251,0,none⟩ = some (.int .i64 a0_0) ∧ w'.cell? ⟨gb251,1,none⟩ = some (.slice (some ⟨go7,0,none⟩) l0_1.length co12) ∧ w'.cell? ⟨go7,(a2).toNat,none⟩ = some (.int .i64 (rd y254 a2))) (ds:=[9]) #[false,false,false,false,false,false,false,false,false,false] (by kernel_rfl) rfl rfl ⟨(kV BK251.out 0).trans rfl,(kV BK251.out 1).trans rfl,hx255_0⟩ (fun hHeld=>?_);refine with_tabW impl_Alphabet_tie.tab2 impl_Alphabet_tie.bits2 (fun HT_ HW_=>?_)
     generalize w17.drew = w18 at HO0_1 BK251 HK HB HQ16 hx255_0 hHeld ⊢
     refine zp 0 (some 15) #[true,false,false,false,false,false,false,false,false,false] HT_.out ?_
     refine zp 2 (some 17) #[true,false,true,false,false,false,false,false,false,false] HT_.out ?_
     refine zp 5 (some 20) #[true,false,true,false,false,true,false,false,false,false] HT_.out ?_
     refine ze 1 (some 16) #[true,true,true,false,false,true,false,false,false,false] HT_.out HW_.out hHeld ?_
     refine zp 3 (some 18) #[true,true,true,true,false,true,false,false,false,false] HT_.out ?_
     refine ze 4 (some 19) #[true,true,true,true,true,true,false,false,false,false] HT_.out HW_.out hHeld ?_
     refine one_ (i:=6) (N:=some 21) #[true,true,true,true,true,true,true,false,false,false] rfl rfl (one_of HT_.out (by kernel_rfl)) (by decide) (fun K hK=>?_)
     refine goes_ Tryd.func31 (by kernel_rfl) rfl #[.int .i64 a1] (by rfl) rfl rfl zg ?_
     with_reducible refine (impl_one_Btie.calls a1 t256 _ A10.out).mono ?_
     rintro e w19 ⟨rfl,hb⟩
     have HS2_:=(hb.cell (jG _ _ (hHeld.2.2))).trans (hHeld.2.2)
     refine ⟨_,rfl,?_⟩
     replace HO0_1:=zA (kL (zP HO0_1.out) hb)
     replace BK251:=zA (zB1 BK251.out hb)
     replace HK:=zA (Kept.below (S:=(fun k_=>P0_1_ k_)) (by repeat (first | (with_reducible first | exact HK.out | apply Kept.alloc | apply Kept.drewN | apply Kept.drew | refine Kept.setCell ?_ (.inr GW251.out) _) | exact HK.out)) hb)
     replace HB:=zA (kQ (zT HB.out GE251.out) hb)
     (try clear hb)
     (try clear hb2)
     (try clear hk)
     (try clear hi)
     (try clear hgw)
     have p11:0 ≤ (a2:Int):=zd
     have q11:(a2:Int) < ((l0_1.length:Int):Int):=zd
     obtain ⟨hx11_0,hf11_0⟩:=Kd.R_celln 0 HO0_1.out (a2:Int) p11 q11
     replace p11:=eq_true p11
     replace q11:=eq_true q11
     have HP20:=Kd.R_putn HO0_1.out (a2:Int) (Go.bits .or .i64 (rd y254 a2) t256)
     rw [← Ny257.out] at HP20
     have HQ20:=zA HP20
     clear HP20
     refine hK.out _ _ ⟨(kV BK251.out 0).trans rfl,(kV BK251.out 1).trans rfl,HS2_⟩ (fun hHeld=>?_)
     clear hK K
     refine norm_ (a' := ?_) ?_ ?_
     rotate_left
     ·show Act.put _ (some 21) _ = _
      simp only [Act.put,zL,zM,zN,i64_w,i32_w]
      rfl
     refine zp 7 (some 22) #[true,true,true,true,true,true,true,true,false,false] HT_.out ?_
     refine zp 8 (some 23) #[true,true,true,true,true,true,true,true,true,false] HT_.out ?_
     refine last_ (i:=9) (N:=none) #[true,true,true,true,true,true,true,true,true,true] rfl rfl (one_of HT_.out (by kernel_rfl)) (by decide) (fun K hK=>?_)
     refine skip_ (w1:=?_) (by rfl) rfl ?_ ?_
     rotate_left
     ·go_simp
      rfl
     refine hK.out _ _ ?_
     clear hK K
     refine done_ (done_of HT_.out (by kernel_rfl)) ?_
     try go_wp2
     first | go_end0 | ((try simp only [Exit.inBlock,Exit.then]);refine bodyPost_ret (results_none rfl _ _ _) rfl ?_)
     exact ⟨zr,zP HQ20.out,zV HB.out GB7.out GE251.out,by repeat (first | (with_reducible first | exact HK.out | apply Kept.alloc | apply Kept.drewN | apply Kept.drew | refine Kept.setCell ?_ HMgo7.out _ | refine Kept.setCell ?_ (.inr GW251.out) _) | exact HK.out)⟩
    rw [if_neg c9] at H
    exact absurd H (by simp)
   rw [if_neg c8] at H
   exact absurd H (by simp)
  rw [if_neg c5] at H
  exact absurd H (by simp)
 rw [if_neg c4] at H
 exact absurd H (by simp)
mutual
def impl_product.j0:Nat → Bool → Bool → Int → List Int → Int → List Int → Option (Int × List Int × Int)
 | 0,_,_,_,_,_,_=>none
 | k + 1,x2,x21,x259000,x259001,x260000,x260001=>if x21 = true then (some (0,([]:List Int),1)) else (if (wrap64 (x259000 + x260000)) > 8 then (some (0,([]:List Int),3)) else ((slices_Clone_int64_int64.f x259001).bind fun t263=>(impl_product.l0 k x2 x259000 x260001 (x260001.length:Int) 0 x260000 x260001 (wrap64 (x259000 + x260000)) t263)))
def impl_product.l0:Nat → Bool → Int → List Int → Int → Int → Int → List Int → Int → List Int → Option (Int × List Int × Int)
 | 0,_,_,_,_,_,_,_,_,_=>none
 | k + 1,x2,x8,x40,x41,x42,x260000,x260001,x267000,x267001=>if x42 < x41 then (if 0 ≤ x42 then (if x42 < (x40.length:Int) then (if 0 ≤ x8 then (if x267001.length < 17592186044416 then (impl_product.l0 k x2 x8 x40 x41 (wrap64 (x42 + 1)) x260000 x260001 x267000 (x267001 ++ [shl .i64 (rd x40 x42) x8])) else (none)) else (none)) else (none)) else (none)) else (if x2 = true then (impl_product.l1 k x8 x8 0 x260000 x260001 x267000 x267001) else (some (x267000,x267001,0)))
def impl_product.l1:Nat → Int → Int → Int → Int → List Int → Int → List Int → Option (Int × List Int × Int)
 | 0,_,_,_,_,_,_,_=>none
 | k + 1,x8,x56,x57,x260000,x260001,x267000,x267001=>if x57 < x56 then (impl_product.l2 k x8 x57 x56 x57 x260000 0 x260000 x260001 x267000 x267001) else (some (x267000,x267001,0))
def impl_product.l2:Nat → Int → Int → Int → Int → Int → Int → Int → List Int → Int → List Int → Option (Int × List Int × Int)
 | 0,_,_,_,_,_,_,_,_,_,_=>none
 | k + 1,x8,x12,x56,x57,x61,x62,x260000,x260001,x267000,x267001=>if x62 < x61 then ((impl_Alphabet_tie.f x267000 x267001 x12 (wrap64 (x8 + x62))).bind fun t271=>(impl_product.l2 k x8 x12 x56 x57 x61 (wrap64 (x62 + 1)) x260000 x260001 x267000 t271)) else (impl_product.l1 k x8 x56 (wrap64 (x57 + 1)) x260000 x260001 x267000 x267001)
end
def impl_product.f (k:Nat) (a0_0:Int) (l0_1:List Int) (a1_0:Int) (l1_1:List Int) (a2:Bool):Option (Int × List Int × Int):=(impl_IsAlphabet.f k a0_0 l0_1).bind fun t261=>(if t261 = true then ((impl_IsAlphabet.f k a1_0 l1_1).bind fun t262=>(impl_product.j0 k a2 (!t262) a0_0 l0_1 a1_0 l1_1)) else (impl_product.j0 k a2 true a0_0 l0_1 a1_0 l1_1))
def impl_product.T6:Bool × List (List Nat × List Nat):=(true,[([],[]),([],[]),([1],[1]),([0,2],[0,2]),([],[]),([4],[4]),([5],[5]),([3,6],[3,6]),([],[]),([8,7,6,0,1,2,3,4,5,6,7,8],[7,8])])
def impl_product.B6:List Nat:=[0,0,2,7,0,16,48,127,0,511]
theorem impl_product.tab6:rtab .any (opsOf Tryd.f21 6) = impl_product.T6:=by kernel_rfl
theorem impl_product.bits6:waitsOk impl_product.T6.2 impl_product.B6 = true:=by kernel_rfl
def impl_product.T10:Bool × List (List Nat × List Nat):=(true,[([],[]),([0],[0]),([],[]),([],[]),([2,3],[2,3]),([4],[4]),([1,5],[1,5]),([0,1,2,3,4,5,6],[]),([7,6,6,0,1,2,3,4,5,6],[6,7])])
def impl_product.B10:List Nat:=[0,1,0,0,12,28,63,127,255]
theorem impl_product.tab10:rtab .any (opsOf Tryd.f21 10) = impl_product.T10:=by kernel_rfl
theorem impl_product.bits10:waitsOk impl_product.T10.2 impl_product.B10 = true:=by kernel_rfl
set_option maxHeartbeats 8000000 in
set_option maxRecDepth 100000 in
theorem impl_product.calls (k : Nat) (a0_0 : Int) (A0_1 : Option Addr) (c0_1 : Nat) (l0_1 : List Int) (a1_0 : Int) (A1_1 : Option Addr) (c1_1 : Nat) (l1_1 : List Int) (a2 : Bool) (r1 : Int) (r2 : List Int) (r3 : Int) (w : World) (hr0_1 : Kd.C (Kd.int .i64) w A0_1 l0_1.length l0_1) (hc0_1 : l0_1.length ≤ c0_1) (hr1_1 : Kd.C (Kd.int .i64) w A1_1 l1_1.length l1_1) (hc1_1 : l1_1.length ≤ c1_1) (hT : TabW w) (h : impl_product.f k a0_0 l0_1 a1_0 l1_1 a2 = some (r1, r2, r3)) :
  Calls Tryd.prog 21 #[.agg #[.int .i64 a0_0,.slice A0_1 l0_1.length c0_1],.agg #[.int .i64 a1_0,.slice A1_1 l1_1.length c1_1],.bool a2] w fun e w' => ∃ v1_:Value,e = .returned (.tuple #[.agg #[.int .i64 r1,v1_],.int .i64 r3]) ∧ Kd.R (Kd.int .i64) 2 w' w.heap.size (fun _=>True) v1_ r2 ∧ Below w.heap.size w w' := by
 have hu26:=Tryd.underlying26
 have HT:=zA hT
 clear hT
 have HR0_1:=zA hr0_1
 have HC0_1:=zA hc0_1
 clear hr0_1 hc0_1
 have HR1_1:=zA hr1_1
 have HC1_1:=zA hc1_1
 clear hr1_1 hc1_1
 have HB:=zA (kW w.heap.size w)
 have H:=h
 unfold impl_product.f at H
 clear h
 have HC4:=zA H
 clear H
 go_enter Tryd.func21,Tryd.ntmps21
 go_upto_region 1 with (first | (refine zBE 3 #[.int .i64 a0_0,.slice A0_1 l0_1.length c0_1] 26 ?_;intro gb258 hg w5 hbox hb;have BK258:=zA (hbox);have GW258:=zA (zBH hg HB.out);have GE258:=zA (zBH hg HB.out);replace HB:=zA (kQ (zQ HB.out) hb);clear hb hbox hg) | (refine zBE 4 #[.int .i64 a1_0,.slice A1_1 l1_1.length c1_1] 26 ?_;intro gb259 hg w6 hbox hb;have BK259:=zA (hbox);have GW259:=zA (zB6 hg (kP (zT HB.out GE258.out)):w.heap.size ≤ gb259);have GE259:=zA (zB6 hg (kP (zT HB.out GE258.out)):w.heap.size ≤ gb259);replace HB:=zA (kQ (zT HB.out GE258.out) hb);have NB258_259:=zA (zB4 hg BK258.out:gb258 ≠ gb259);have NB259_258:=zA (zB5 hg BK258.out:gb259 ≠ gb258);replace BK258:=zA (zB1 BK258.out hb);clear hb hbox hg) | (refine zBE 6 #[.int .i64 0,.slice none 0 0] 26 ?_;intro gb260 hg w7 hbox hb;have BK260:=zA (hbox);have GW260:=zA (zB6 hg (kP (zV HB.out GE258.out GE259.out)):w.heap.size ≤ gb260);have GE260:=zA (zB6 hg (kP (zV HB.out GE258.out GE259.out)):w.heap.size ≤ gb260);replace HB:=zA (kQ (zV HB.out GE258.out GE259.out) hb);have NB258_260:=zA (zB4 hg BK258.out:gb258 ≠ gb260);have NB260_258:=zA (zB5 hg BK258.out:gb260 ≠ gb258);replace BK258:=zA (zB1 BK258.out hb);have NB259_260:=zA (zB4 hg BK259.out:gb259 ≠ gb260);have NB260_259:=zA (zB5 hg BK259.out:gb260 ≠ gb259);replace BK259:=zA (zB1 BK259.out hb);clear hb hbox hg))
 (try simp only [Act.put,zL,zM,zN])
 go_cut [21] (fun v21 wc=>∃ (kq:Nat) (x21_3:Bool),v21 = .bool x21_3 ∧ Aside0 (impl_product.j0 kq a2 x21_3 a0_0 l0_1 a1_0 l1_1 = some (r1,r2,r3)) ∧ Aside0 (kq ≤ k) ∧ Aside0 (wc.heap[gb258]? = some (.cells #[.int .i64 a0_0,(.slice A0_1 l0_1.length c0_1)] 26 (0,0))) ∧ Aside0 (wc.heap[gb259]? = some (.cells #[.int .i64 a1_0,(.slice A1_1 l1_1.length c1_1)] 26 (0,0))) ∧ Aside0 (wc.heap[gb260]? = some (.cells #[.int .i64 0,(.slice none 0 0)] 26 (0,0))) ∧ Aside0 (Below w.heap.size w wc))
 case first =>
  have H:=HC4.out
  clear HC4
  obtain ⟨t261,A8,H⟩:=zb H
  try dsimp only at H
  by_cases c9:t261 = true
  ·subst c9
   rw [if_pos rfl] at H
   obtain ⟨t262,A10,H⟩:=zb H
   try dsimp only at H
   have H' := zA H
   clear H
   have hnb11:=NB258_259.out
   have hnc11:=NB259_258.out
   have hnb12:=NB258_260.out
   have hnc12:=NB260_258.out
   obtain ⟨hcz13_0,hcz13_1,hfz13_0,hfz13_1⟩:=zB3 BK258.out
   go_wp2_with (first | (refine zO (some 15) Tryd.func24 #[.agg #[.int .i64 a0_0,.slice A0_1 l0_1.length c0_1]] ?_;(with_reducible refine (impl_IsAlphabet.calls k a0_0 _ _ l0_1 true _ ?side1 ?side2 ?side3 A8.out).mono ?_);(case side1=>exact zS (kO HR0_1.out HB.out));(case side2=>exact HC0_1.out);(case side3=>exact TabW.below HT.out (zW HB.out GE258.out GE259.out GE260.out));rintro e w14 ⟨rfl,hb⟩;refine ⟨_,rfl,?_⟩;replace BK258:=zA (zB1 BK258.out hb);replace BK259:=zA (zB1 BK259.out hb);replace BK260:=zA (zB1 BK260.out hb);replace HB:=zA (kQ (zW HB.out GE258.out GE259.out GE260.out) hb);(try clear hb);have hnb15:=NB259_260.out;have hnc15:=NB260_259.out;obtain ⟨hcz16_0,hcz16_1,hfz16_0,hfz16_1⟩:=zB3 BK259.out) | (go_at_call 24;(with_reducible refine (impl_IsAlphabet.calls k a1_0 _ _ l1_1 t262 _ ?side1 ?side2 ?side3 A10.out).mono ?_);(case side1=>exact zS (kO HR1_1.out HB.out));(case side2=>exact HC1_1.out);(case side3=>exact TabW.below HT.out (zW HB.out GE258.out GE259.out GE260.out));rintro e w17 ⟨rfl,hb⟩;replace BK258:=zA (zB1 BK258.out hb);replace BK259:=zA (zB1 BK259.out hb);replace BK260:=zA (zB1 BK260.out hb);replace HB:=zA (kQ (zW HB.out GE258.out GE259.out GE260.out) hb);(try clear hb)))
   go_meet
   case rel=>exact ⟨_,(!t262),zs,H', ⟨by first | omega | exact Nat.le_refl _⟩,⟨zR BK258.out⟩,⟨zR BK259.out⟩,⟨zR BK260.out⟩,⟨zW HB.out GE258.out GE259.out GE260.out⟩⟩
  replace c9:=Bool.eq_false_iff.mpr c9
  subst c9
  rw [if_neg (show ¬ (false = true) by decide)] at H
  have H' := zA H
  clear H
  have hnb18:=NB258_259.out
  have hnc18:=NB259_258.out
  have hnb19:=NB258_260.out
  have hnc19:=NB260_258.out
  obtain ⟨hcz20_0,hcz20_1,hfz20_0,hfz20_1⟩:=zB3 BK258.out
  go_wp2_with (first | (refine zO (some 15) Tryd.func24 #[.agg #[.int .i64 a0_0,.slice A0_1 l0_1.length c0_1]] ?_;(with_reducible refine (impl_IsAlphabet.calls k a0_0 _ _ l0_1 false _ ?side1 ?side2 ?side3 A8.out).mono ?_);(case side1=>exact zS (kO HR0_1.out HB.out));(case side2=>exact HC0_1.out);(case side3=>exact TabW.below HT.out (zW HB.out GE258.out GE259.out GE260.out));rintro e w21 ⟨rfl,hb⟩;refine ⟨_,rfl,?_⟩;replace BK258:=zA (zB1 BK258.out hb);replace BK259:=zA (zB1 BK259.out hb);replace BK260:=zA (zB1 BK260.out hb);replace HB:=zA (kQ (zW HB.out GE258.out GE259.out GE260.out) hb);(try clear hb)))
  go_meet
  case rel=>exact ⟨_,(true),zs,H', ⟨by first | omega | exact Nat.le_refl _⟩,⟨zR BK258.out⟩,⟨zR BK259.out⟩,⟨zR BK260.out⟩,⟨zW HB.out GE258.out GE259.out GE260.out⟩⟩
 case rest =>
  clear HC4
  try clear c1
  try clear c2
  try clear c9
  try clear c11
  try clear c12
  try clear c15
  try clear c18
  try clear c19
  try clear c21
  try clear hcz13_0
  try clear hcz13_1
  try clear hcz16_0
  try clear hcz16_1
  try clear hcz20_0
  try clear hcz20_1
  try clear hfz13_0
  try clear hfz13_1
  try clear hfz16_0
  try clear hfz16_1
  try clear hfz20_0
  try clear hfz20_1
  obtain ⟨kq,x21_3,rfl,HA,HJ3,BK258,BK259,BK260,HB⟩:=hcut
  cases kq with
  | zero=>exact absurd HA.out (by simp [impl_product.j0])
  | succ kj3 =>
   have H:=HA.out
   clear HA
   simp only [impl_product.j0] at H
   by_cases c22:x21_3 = true
   ·subst c22
    rw [if_pos rfl] at H
    simp only [Option.some.injEq,Prod.mk.injEq] at H
    obtain ⟨rfl,rfl,rfl⟩:=H
    have hnb23:=NB260_258.out
    have hnc23:=NB258_260.out
    have hnb24:=NB260_259.out
    have hnc24:=NB259_260.out
    obtain ⟨hcz25_0,hcz25_1,hfz25_0,hfz25_1⟩:=zB3 BK260.out
    go_wp2
    refine bodyPost_ret (results_ct rfl _ _ gb260 26 #[.int .i64 0,.slice none 0 0] (0,0) _ rfl (zRP BK260.out) Tryd.underlying26 rfl (by kernel_rfl)) rfl ?_
    exact ⟨_,zr,zn,zW HB.out GE258.out GE259.out GE260.out⟩
   replace c22:=Bool.eq_false_iff.mpr c22
   subst c22
   rw [if_neg (show ¬ (false = true) by decide)] at H
   by_cases c26:(wrap64 (a0_0 + a1_0)) > 8
   ·rw [if_pos c26] at H
    have c26b0:decide (8 < (wrap64 (a0_0 + a1_0))) = true:=decide_eq_true c26
    clear c26
    simp only [Option.some.injEq,Prod.mk.injEq] at H
    obtain ⟨rfl,rfl,rfl⟩:=H
    have hnb27:=NB258_259.out
    have hnc27:=NB259_258.out
    have hnb28:=NB258_260.out
    have hnc28:=NB260_258.out
    obtain ⟨hcz29_0,hcz29_1,hfz29_0,hfz29_1⟩:=zB3 BK258.out
    have hnb30:=NB259_260.out
    have hnc30:=NB260_259.out
    obtain ⟨hcz31_0,hcz31_1,hfz31_0,hfz31_1⟩:=zB3 BK259.out
    obtain ⟨hcz32_0,hcz32_1,hfz32_0,hfz32_1⟩:=zB3 BK260.out
    go_wp2
    refine bodyPost_ret (results_ct rfl _ _ gb260 26 #[.int .i64 0,.slice none 0 0] (0,0) _ rfl (zRP BK260.out) Tryd.underlying26 rfl (by kernel_rfl)) rfl ?_
    exact ⟨_,zr,zn,zW HB.out GE258.out GE259.out GE260.out⟩
   rw [if_neg c26] at H
   have c26b0:decide (8 < (wrap64 (a0_0 + a1_0))) = false:=decide_eq_false c26
   clear c26
   obtain ⟨t263,A33,H⟩:=zb H
   try dsimp only at H
   have H' := zA H
   clear H
   have hnb34:=NB258_259.out
   have hnc34:=NB259_258.out
   have hnb35:=NB258_260.out
   have hnc35:=NB260_258.out
   obtain ⟨hcz36_0,hcz36_1,hfz36_0,hfz36_1⟩:=zB3 BK258.out
   have hnb37:=NB259_260.out
   have hnc37:=NB260_259.out
   obtain ⟨hcz38_0,hcz38_1,hfz38_0,hfz38_1⟩:=zB3 BK259.out
   try go_wp2
   replace BK258:=zA (zK BK258.out)
   replace BK259:=zA (zK BK259.out)
   replace BK260:=zA (zK BK260.out)
   replace HB:=zA (zD HB.out)
   refine start_ (n:=10) (S:=fun w' => w'.cell? ⟨gb259,0,none⟩ = some (.int .i64 a1_0) ∧ w'.cell? ⟨gb259,1,none⟩ = some (.slice A1_1 l1_1.length c1_1) ∧ w'.cell? ⟨gb258,0,none⟩ = some (.int .i64 a0_0) ∧ w'.cell? ⟨gb258,1,none⟩ = some (.slice A0_1 l0_1.length c0_1)) (ds:=[]) #[false,false,false,false,false,false,false,false,false,false] (by kernel_rfl) rfl rfl ⟨(kV BK259.out 0).trans rfl,(kV BK259.out 1).trans rfl,(kV BK258.out 0).trans rfl,(kV BK258.out 1).trans rfl⟩ (fun hHeld=>?_);refine with_tabW impl_product.tab6 impl_product.bits6 (fun HT_ HW_=>?_)
   generalize wc.drew = w39 at BK258 BK259 BK260 HB hHeld ⊢
   refine zp 0 (some 31) #[true,false,false,false,false,false,false,false,false,false] HT_.out ?_
   refine zp 1 (some 32) #[true,true,false,false,false,false,false,false,false,false] HT_.out ?_
   refine zp 4 (some 35) #[true,true,false,false,true,false,false,false,false,false] HT_.out ?_
   refine zf 2 (some 33) #[true,true,true,false,true,false,false,false,false,false] HT_.out HW_.out hHeld ?_
   refine zp 3 (some 34) #[true,true,true,true,true,false,false,false,false,false] HT_.out ?_
   refine zf 5 (some 36) #[true,true,true,true,true,true,false,false,false,false] HT_.out HW_.out hHeld ?_
   refine join_ (σ:=Value × Nat) 1 #[true,true,true,true,true,true,true,true,true,false] (fun s_=>[(37,s_.1),(9,.pointer (some ⟨s_.2,0,none⟩)),(38,.agg #[.int .i64 (wrap64 (a0_0 + a1_0)),s_.1])]) (fun s_ w' => (w'.cell? ⟨gb259,0,none⟩ = some (.int .i64 a1_0) ∧ w'.cell? ⟨gb259,1,none⟩ = some (.slice A1_1 l1_1.length c1_1) ∧ w'.cell? ⟨gb258,0,none⟩ = some (.int .i64 a0_0) ∧ w'.cell? ⟨gb258,1,none⟩ = some (.slice A0_1 l0_1.length c0_1)) ∧ (Kd.R (Kd.int .i64) 2 w' w.heap.size (fun _=>True) s_.1 t263) ∧ (w'.heap[gb258]? = some (.cells #[.int .i64 a0_0,.slice A0_1 l0_1.length c0_1] 26 (0,0))) ∧ (w'.heap[gb259]? = some (.cells #[.int .i64 a1_0,.slice A1_1 l1_1.length c1_1] 26 (0,0))) ∧ (w'.heap[gb260]? = some (.cells #[.int .i64 0,.slice none 0 0] 26 (0,0))) ∧ (w'.heap[s_.2]? = some (.cells #[.int .i64 0,.slice none 0 0] 26 (0,0))) ∧ (w.heap.size ≤ s_.2) ∧ (w.heap.size ≤ s_.2) ∧ (gb258 ≠ s_.2) ∧ (s_.2 ≠ gb258) ∧ (gb259 ≠ s_.2) ∧ (s_.2 ≠ gb259) ∧ (gb260 ≠ s_.2) ∧ (s_.2 ≠ gb260) ∧ (Below w.heap.size w w')) ?_ ?_
   rotate_left
   ·intro hCont
    refine two_ (i:=6) (j:=8) (Ni:=some 37) (Nj:=some 9) #[true,true,true,true,true,true,true,false,false,false] #[true,true,true,true,true,true,false,false,true,false] rfl rfl rfl rfl (two_of HT_.out (by kernel_rfl)) (by decide) (by decide) (fun K hK=>?_) (fun K hK=>?_)
    ·skip
     refine goes_ Tryd.func44 (by kernel_rfl) rfl #[.slice A0_1 l0_1.length c0_1] (by rfl) rfl rfl zg ?_
     with_reducible refine (slices_Clone_int64_int64.calls _ _ l0_1 t263 _ ?side1 ?side2 A33.out).mono ?_
     (case side1=>exact zS (kO HR0_1.out HB.out))
     (case side2=>exact HC0_1.out)
     rintro e w40 ⟨v264,rfl,ho0,hb⟩
     refine ⟨_,rfl,?_⟩
     have HO265:=zA (kI ho0 (kP (zW HB.out GE258.out GE259.out GE260.out)))
     replace BK258:=zA (zB1 BK258.out hb)
     replace BK259:=zA (zB1 BK259.out hb)
     replace BK260:=zA (zB1 BK260.out hb)
     replace HB:=zA (kQ (zW HB.out GE258.out GE259.out GE260.out) hb)
     (try clear hb)
     (try clear hb2)
     (try clear hk)
     (try clear hi)
     (try clear hgw)
     (try clear ho0)
     obtain ⟨Ao41,co41,eo41⟩:=kM HO265.out
     (first | subst eo41 | (injection eo41 with f1_ f2_ f3_;have f4_:=f1_.symm;have f5_:=f3_.symm;clear f1_ f2_ f3_;subst f4_;subst f5_))
     refine hK.out _ _ ⟨(kV BK259.out 0).trans rfl,(kV BK259.out 1).trans rfl,(kV BK258.out 0).trans rfl,(kV BK258.out 1).trans rfl⟩ (fun hHeld=>?_)
     clear hK K
     refine norm_ (a' := ?_) ?_ ?_
     rotate_left
     ·show Act.put _ (some 37) _ = _
      simp only [Act.put,zL,zM,zN,i64_w,i32_w]
      rfl
     refine zp 7 (some 38) #[true,true,true,true,true,true,true,true,false,false] HT_.out ?_
     refine one_ (i:=8) (N:=some 9) #[true,true,true,true,true,true,true,true,true,false] rfl rfl (one_of HT_.out (by kernel_rfl)) (by decide) (fun K hK=>?_)
     refine box_step ?hg (N:=9) ?hd (cs:=#[.int .i64 0,.slice none 0 0]) (t:=26) ?hr ?_;(case hd=>rfl);(case hg=>rfl);(case hr=>first | (go_simp;done) | (go_simp;rfl))
     intro gb266 hg w42 hbox hb
     replace HO265:=zA (kL (zP HO265.out) hb)
     have BK266:=zA (hbox)
     have GW266:=zA (zB6 hg (kP (zW HB.out GE258.out GE259.out GE260.out)):w.heap.size ≤ gb266)
     have GE266:=zA (zB6 hg (kP (zW HB.out GE258.out GE259.out GE260.out)):w.heap.size ≤ gb266)
     replace HB:=zA (kQ (zW HB.out GE258.out GE259.out GE260.out) hb)
     have NB258_266:=zA (zB4 hg BK258.out:gb258 ≠ gb266)
     have NB266_258:=zA (zB5 hg BK258.out:gb266 ≠ gb258)
     replace BK258:=zA (zB1 BK258.out hb)
     have NB259_266:=zA (zB4 hg BK259.out:gb259 ≠ gb266)
     have NB266_259:=zA (zB5 hg BK259.out:gb266 ≠ gb259)
     replace BK259:=zA (zB1 BK259.out hb)
     have NB260_266:=zA (zB4 hg BK260.out:gb260 ≠ gb266)
     have NB266_260:=zA (zB5 hg BK260.out:gb266 ≠ gb260)
     replace BK260:=zA (zB1 BK260.out hb)
     clear hb hbox hg
     refine hK.out _ _ ⟨(kV BK259.out 0).trans rfl,(kV BK259.out 1).trans rfl,(kV BK258.out 0).trans rfl,(kV BK258.out 1).trans rfl⟩ (fun hHeld=>?_)
     clear hK K
     refine norm_ (a' := ?_) ?_ ?_
     rotate_left
     ·show Act.put _ (some 9) _ = _
      simp only [Act.put,zL,zM,zN,i64_w,i32_w]
      rfl
     exact norm_ (by simp only [putAll,Act.put,zL,zM,zN]) (hCont (.slice Ao41 t263.length co41,gb266) _ ⟨hHeld,(zP HO265.out),(zR BK258.out),(zR BK259.out),(zR BK260.out),(zR BK266.out),GW266.out,GE266.out,NB258_266.out,NB266_258.out,NB259_266.out,NB266_259.out,NB260_266.out,NB266_260.out,(by repeat (first | (with_reducible first | exact HB.out | apply zB | apply zC | apply zD | refine zE ?_ GE258.out | refine zE ?_ GE259.out | refine zE ?_ GE260.out | refine zE ?_ GE266.out) | exact HB.out))⟩)
    skip
    refine box_step ?hg (N:=9) ?hd (cs:=#[.int .i64 0,.slice none 0 0]) (t:=26) ?hr ?_;(case hd=>rfl);(case hg=>rfl);(case hr=>first | (go_simp;done) | (go_simp;rfl))
    intro gb266 hg w40 hbox hb
    have BK266:=zA (hbox)
    have GW266:=zA (zB6 hg (kP (zW HB.out GE258.out GE259.out GE260.out)):w.heap.size ≤ gb266)
    have GE266:=zA (zB6 hg (kP (zW HB.out GE258.out GE259.out GE260.out)):w.heap.size ≤ gb266)
    replace HB:=zA (kQ (zW HB.out GE258.out GE259.out GE260.out) hb)
    have NB258_266:=zA (zB4 hg BK258.out:gb258 ≠ gb266)
    have NB266_258:=zA (zB5 hg BK258.out:gb266 ≠ gb258)
    replace BK258:=zA (zB1 BK258.out hb)
    have NB259_266:=zA (zB4 hg BK259.out:gb259 ≠ gb266)
    have NB266_259:=zA (zB5 hg BK259.out:gb266 ≠ gb259)
    replace BK259:=zA (zB1 BK259.out hb)
    have NB260_266:=zA (zB4 hg BK260.out:gb260 ≠ gb266)
    have NB266_260:=zA (zB5 hg BK260.out:gb266 ≠ gb260)
    replace BK260:=zA (zB1 BK260.out hb)
    clear hb hbox hg
    refine hK.out _ _ ⟨(kV BK259.out 0).trans rfl,(kV BK259.out 1).trans rfl,(kV BK258.out 0).trans rfl,(kV BK258.out 1).trans rfl⟩ (fun hHeld=>?_)
    clear hK K
    refine norm_ (a' := ?_) ?_ ?_
    rotate_left
    ·show Act.put _ (some 9) _ = _
     simp only [Act.put,zL,zM,zN,i64_w,i32_w]
     rfl
    refine one_ (i:=6) (N:=some 37) #[true,true,true,true,true,true,true,false,true,false] rfl rfl (one_of HT_.out (by kernel_rfl)) (by decide) (fun K hK=>?_)
    refine goes_ Tryd.func44 (by kernel_rfl) rfl #[.slice A0_1 l0_1.length c0_1] (by rfl) rfl rfl zg ?_
    with_reducible refine (slices_Clone_int64_int64.calls _ _ l0_1 t263 _ ?side1 ?side2 A33.out).mono ?_
    (case side1=>exact zS (kO HR0_1.out HB.out))
    (case side2=>exact HC0_1.out)
    rintro e w41 ⟨v264,rfl,ho0,hb⟩
    refine ⟨_,rfl,?_⟩
    have HO265:=zA (kI ho0 (kP (by repeat (first | (with_reducible first | exact HB.out | apply zB | apply zC | apply zD | refine zE ?_ GE258.out | refine zE ?_ GE259.out | refine zE ?_ GE260.out | refine zE ?_ GE266.out) | exact HB.out))))
    replace BK258:=zA (zB1 BK258.out hb)
    replace BK259:=zA (zB1 BK259.out hb)
    replace BK260:=zA (zB1 BK260.out hb)
    replace BK266:=zA (zB1 BK266.out hb)
    replace HB:=zA (kQ (by repeat (first | (with_reducible first | exact HB.out | apply zB | apply zC | apply zD | refine zE ?_ GE258.out | refine zE ?_ GE259.out | refine zE ?_ GE260.out | refine zE ?_ GE266.out) | exact HB.out)) hb)
    (try clear hb)
    (try clear hb2)
    (try clear hk)
    (try clear hi)
    (try clear hgw)
    (try clear ho0)
    obtain ⟨Ao42,co42,eo42⟩:=kM HO265.out
    (first | subst eo42 | (injection eo42 with f1_ f2_ f3_;have f4_:=f1_.symm;have f5_:=f3_.symm;clear f1_ f2_ f3_;subst f4_;subst f5_))
    refine hK.out _ _ ⟨(kV BK259.out 0).trans rfl,(kV BK259.out 1).trans rfl,(kV BK258.out 0).trans rfl,(kV BK258.out 1).trans rfl⟩ (fun hHeld=>?_)
    clear hK K
    refine norm_ (a' := ?_) ?_ ?_
    rotate_left
    ·show Act.put _ (some 37) _ = _
     simp only [Act.put,zL,zM,zN,i64_w,i32_w]
     rfl
    refine zp 7 (some 38) #[true,true,true,true,true,true,true,true,true,false] HT_.out ?_
    exact norm_ (by simp only [putAll,Act.put,zL,zM,zN]) (hCont (.slice Ao42 t263.length co42,gb266) _ ⟨hHeld,(zP HO265.out),(zR BK258.out),(zR BK259.out),(zR BK260.out),(zR BK266.out),GW266.out,GE266.out,NB258_266.out,NB266_258.out,NB259_266.out,NB266_259.out,NB260_266.out,NB266_260.out,(by repeat (first | (with_reducible first | exact HB.out | apply zB | apply zC | apply zD | refine zE ?_ GE258.out | refine zE ?_ GE259.out | refine zE ?_ GE260.out | refine zE ?_ GE266.out) | exact HB.out))⟩)
   rintro ⟨v264,gb266⟩ w43 ⟨hS_,h0_,h1_,h2_,h3_,h4_,h5_,h6_,h7_,h8_,h9_,h10_,h11_,h12_,h13_⟩
   have n0_:Aside0 (Kd.R (Kd.int .i64) 2 w43 w.heap.size (fun _=>True) v264 t263):=⟨h0_⟩
   have n1_:Aside0 (w43.heap[gb258]? = some (.cells #[.int .i64 a0_0,.slice A0_1 l0_1.length c0_1] 26 (0,0))):=⟨h1_⟩
   have n2_:Aside0 (w43.heap[gb259]? = some (.cells #[.int .i64 a1_0,.slice A1_1 l1_1.length c1_1] 26 (0,0))):=⟨h2_⟩
   have n3_:Aside0 (w43.heap[gb260]? = some (.cells #[.int .i64 0,.slice none 0 0] 26 (0,0))):=⟨h3_⟩
   have n4_:Aside0 (w43.heap[gb266]? = some (.cells #[.int .i64 0,.slice none 0 0] 26 (0,0))):=⟨h4_⟩
   have n5_:Aside0 (w.heap.size ≤ gb266):=⟨h5_⟩
   have n6_:Aside0 (w.heap.size ≤ gb266):=⟨h6_⟩
   have n7_:Aside0 (gb258 ≠ gb266):=⟨h7_⟩
   have n8_:Aside0 (gb266 ≠ gb258):=⟨h8_⟩
   have n9_:Aside0 (gb259 ≠ gb266):=⟨h9_⟩
   have n10_:Aside0 (gb266 ≠ gb259):=⟨h10_⟩
   have n11_:Aside0 (gb260 ≠ gb266):=⟨h11_⟩
   have n12_:Aside0 (gb266 ≠ gb260):=⟨h12_⟩
   have n13_:Aside0 (Below w.heap.size w w43):=⟨h13_⟩
   clear BK258 BK259 BK260 HB h0_ h1_ h2_ h3_ h4_ h5_ h6_ h7_ h8_ h9_ h10_ h11_ h12_ h13_
   have HO265:=n0_
   have BK258:=n1_
   have BK259:=n2_
   have BK260:=n3_
   have BK266:=n4_
   have GW266:=n5_
   have GE266:=n6_
   have NB258_266:=n7_
   have NB266_258:=n8_
   have NB259_266:=n9_
   have NB266_259:=n10_
   have NB260_266:=n11_
   have NB266_260:=n12_
   have HB:=n13_
   clear n0_ n1_ n2_ n3_ n4_ n5_ n6_ n7_ n8_ n9_ n10_ n11_ n12_ n13_
   have hHeld:w43.cell? ⟨gb259,0,none⟩ = some (.int .i64 a1_0) ∧ w43.cell? ⟨gb259,1,none⟩ = some (.slice A1_1 l1_1.length c1_1) ∧ w43.cell? ⟨gb258,0,none⟩ = some (.int .i64 a0_0) ∧ w43.cell? ⟨gb258,1,none⟩ = some (.slice A0_1 l0_1.length c0_1):=hS_
   obtain ⟨Ao44,co44,eo44⟩:=kM HO265.out
   (first | subst eo44 | (injection eo44 with f1_ f2_ f3_;have f4_:=f1_.symm;have f5_:=f3_.symm;clear f1_ f2_ f3_;subst f4_;subst f5_))
   refine norm_ (a' := ?_) ?_ ?_
   rotate_left
   ·simp only [putAll,Act.put,zL,zM,zN]
    rfl
   refine one_ (i:=9) (N:=none) #[true,true,true,true,true,true,true,true,true,true] rfl rfl (one_of HT_.out (by kernel_rfl)) (by decide) (fun K hK=>?_)
   have hs45:w43.cell? ⟨gb266,0,none⟩ = some (.int .i64 0):=(kV BK266.out 0).trans rfl
   have hfs45:=jH BK266.out 0
   have hns45_0:=NB258_266.out
   have hns45_1:=NB259_266.out
   have hns45_2:=NB260_266.out
   have hms45_0:=NB266_258.out
   have hms45_1:=NB266_259.out
   have hms45_2:=NB266_260.out
   have hs46:w43.cell? ⟨gb266,1,none⟩ = some (.slice none 0 0):=(kV BK266.out 1).trans rfl
   have hfs46:=jH BK266.out 1
   have hns46_0:=NB258_266.out
   have hns46_1:=NB259_266.out
   have hns46_2:=NB260_266.out
   have hms46_0:=NB266_258.out
   have hms46_1:=NB266_259.out
   have hms46_2:=NB266_260.out
   refine skip_ (w1:=?_) (by rfl) rfl ?_ ?_
   rotate_left
   ·go_simp
    rfl
   refine hK.out _ _ ⟨((cell_far (p:=⟨gb266,_,none⟩) NB259_266.out _).trans (((cell_far (p:=⟨gb266,_,none⟩) NB259_266.out _).trans (hHeld.1)))),((cell_far (p:=⟨gb266,_,none⟩) NB259_266.out _).trans (((cell_far (p:=⟨gb266,_,none⟩) NB259_266.out _).trans (hHeld.2.1)))),((cell_far (p:=⟨gb266,_,none⟩) NB258_266.out _).trans (((cell_far (p:=⟨gb266,_,none⟩) NB258_266.out _).trans (hHeld.2.2.1)))),((cell_far (p:=⟨gb266,_,none⟩) NB258_266.out _).trans (((cell_far (p:=⟨gb266,_,none⟩) NB258_266.out _).trans (hHeld.2.2.2))))⟩ (fun hHeld=>?_)
   clear hK K
   refine done_ (done_of HT_.out (by kernel_rfl)) ?_
   have hnb47:=NB259_266.out
   have hnc47:=NB266_259.out
   obtain ⟨hcz48_0,hcz48_1,hfz48_0,hfz48_1⟩:=zB3 BK259.out
   try go_wp2
   go_loopg [42] kj3 (fun kq v42 w' => ∃ (x42_2:Int) (x267001_2:List Int) (u267001:Value),v42 = .int .i64 x42_2 ∧ Aside0 (impl_product.l0 kq a2 a0_0 l1_1 (l1_1.length:Int) x42_2 a1_0 l1_1 (wrap64 (a0_0 + a1_0)) x267001_2 = some (r1,r2,r3)) ∧ Aside0 (kq ≤ kj3) ∧ Aside0 (Kd.R (Kd.int .i64) 2 w' w.heap.size (fun _=>True) u267001 x267001_2) ∧ Aside0 (w'.heap[gb258]? = some (.cells #[.int .i64 a0_0,(.slice A0_1 l0_1.length c0_1)] 26 (0,0))) ∧ Aside0 (w'.heap[gb259]? = some (.cells #[.int .i64 a1_0,(.slice A1_1 l1_1.length c1_1)] 26 (0,0))) ∧ Aside0 (w'.heap[gb260]? = some (.cells #[.int .i64 0,(.slice none 0 0)] 26 (0,0))) ∧ Aside0 (w'.heap[gb266]? = some (.cells #[.int .i64 (wrap64 (a0_0 + a1_0)),u267001] 26 (0,0))) ∧ Aside0 (Below w.heap.size w w'))
   case atStart=>exact ⟨(0),(t263),(.slice Ao44 t263.length co44),zs,H', ⟨Nat.le_refl _⟩,⟨by (with_reducible repeat (first | apply zF | apply zG | apply zH));exact kA (kY (p:=⟨gb266,1,none⟩) (kY (p:=⟨gb266,0,none⟩) (kD HO265.out BK266.out (by decide)) (fun _ hk=>hk.2) (.int .i64 (wrap64 (a0_0 + a1_0)))) (fun _ hk=>hk.2) (.slice Ao44 t263.length co44)) (fun _ hk=>trivial)⟩,⟨by (with_reducible repeat (first | refine zJ ?_ _ | refine zK ?_ | refine zI ?_ _));refine blk_far ?_ NB258_266.out _;(with_reducible repeat (first | refine zJ ?_ _ | refine zK ?_ | refine zI ?_ _));refine blk_far ?_ NB258_266.out _;(with_reducible repeat (first | refine zJ ?_ _ | refine zK ?_ | refine zI ?_ _));exact BK258.out⟩,⟨by (with_reducible repeat (first | refine zJ ?_ _ | refine zK ?_ | refine zI ?_ _));refine blk_far ?_ NB259_266.out _;(with_reducible repeat (first | refine zJ ?_ _ | refine zK ?_ | refine zI ?_ _));refine blk_far ?_ NB259_266.out _;(with_reducible repeat (first | refine zJ ?_ _ | refine zK ?_ | refine zI ?_ _));exact BK259.out⟩,⟨by (with_reducible repeat (first | refine zJ ?_ _ | refine zK ?_ | refine zI ?_ _));refine blk_far ?_ NB260_266.out _;(with_reducible repeat (first | refine zJ ?_ _ | refine zK ?_ | refine zI ?_ _));refine blk_far ?_ NB260_266.out _;(with_reducible repeat (first | refine zJ ?_ _ | refine zK ?_ | refine zI ?_ _));exact BK260.out⟩,⟨by (with_reducible repeat (first | refine zJ ?_ _ | refine zK ?_ | refine zI ?_ _));refine blk_put (cs:=#[.int .i64 (wrap64 (a0_0 + a1_0)),.slice none 0 0]) ?_ 1 _ rfl;(with_reducible repeat (first | refine zJ ?_ _ | refine zK ?_ | refine zI ?_ _));refine blk_put (cs:=#[.int .i64 0,.slice none 0 0]) ?_ 0 _ rfl;(with_reducible repeat (first | refine zJ ?_ _ | refine zK ?_ | refine zI ?_ _));exact BK266.out⟩,⟨by repeat (first | (with_reducible first | exact HB.out | apply zB | apply zC | apply zD | refine zE ?_ GE258.out | refine zE ?_ GE259.out | refine zE ?_ GE260.out | refine zE ?_ GE266.out) | exact HB.out)⟩⟩
   case round =>
    clear H'
    try clear c1
    try clear c2
    try clear c3
    try clear c4
    try clear c9
    try clear c11
    try clear c12
    try clear c15
    try clear c18
    try clear c19
    try clear c21
    try clear c22
    try clear c23
    try clear c24
    try clear c26
    try clear c27
    try clear c28
    try clear c30
    try clear c34
    try clear c35
    try clear c37
    try clear c44
    try clear c47
    try clear hcz13_0
    try clear hcz13_1
    try clear hcz16_0
    try clear hcz16_1
    try clear hcz20_0
    try clear hcz20_1
    try clear hcz25_0
    try clear hcz25_1
    try clear hcz29_0
    try clear hcz29_1
    try clear hcz31_0
    try clear hcz31_1
    try clear hcz32_0
    try clear hcz32_1
    try clear hcz36_0
    try clear hcz36_1
    try clear hcz38_0
    try clear hcz38_1
    try clear hcz48_0
    try clear hcz48_1
    try clear hfz13_0
    try clear hfz13_1
    try clear hfz16_0
    try clear hfz16_1
    try clear hfz20_0
    try clear hfz20_1
    try clear hfz25_0
    try clear hfz25_1
    try clear hfz29_0
    try clear hfz29_1
    try clear hfz31_0
    try clear hfz31_1
    try clear hfz32_0
    try clear hfz32_1
    try clear hfz36_0
    try clear hfz36_1
    try clear hfz38_0
    try clear hfz38_1
    try clear hfz48_0
    try clear hfz48_1
    obtain ⟨x42_2,x267001_2,u267001,rfl,HA,HK2,HO_267001,BK258,BK259,BK260,BK266,HB⟩:=hrel
    cases gk with
    | zero=>exact absurd HA.out (by simp [impl_product.l0])
    | succ k2 =>
     have H:=HA.out
     clear HA
     simp only [impl_product.l0] at H
     by_cases c49:x42_2 < (l1_1.length:Int)
     ·rw [if_pos c49] at H
      have c49b0:decide (x42_2 < (l1_1.length:Int)) = true:=decide_eq_true c49
      clear c49
      by_cases c50:0 ≤ x42_2
      ·rw [if_pos c50] at H
       have c50b0:decide (0 ≤ x42_2) = true:=decide_eq_true c50
       clear c50
       by_cases c51:x42_2 < (l1_1.length:Int)
       ·rw [if_pos c51] at H
        have c51b0:decide (x42_2 < (l1_1.length:Int)) = true:=decide_eq_true c51
        clear c51
        by_cases c52:0 ≤ a0_0
        ·rw [if_pos c52] at H
         have c52b0:=eq_true c52
         have c52b1:decide (0 ≤ a0_0) = true:=decide_eq_true c52
         clear c52
         obtain ⟨ji53,hji53⟩:∃ j_:Int,(shl .i64 (rd l1_1 x42_2) a0_0) = j_:=⟨_,rfl⟩
         replace H:(if x267001_2.length < 17592186044416 then (impl_product.l0 k2 a2 a0_0 l1_1 (l1_1.length:Int) (wrap64 (x42_2 + 1)) a1_0 l1_1 (wrap64 (a0_0 + a1_0)) (x267001_2 ++ [ji53])) else (none)) = some (r1,r2,r3):=by first | (rw [hji53] at H;exact H) | (simp only [hji53] at H ⊢;exact H)
         have hji53_:(IntKind.i64.wrap ((rd l1_1 x42_2) * 2 ^ min a0_0.toNat 64)) = ji53:=hji53
         have hji53z:a0_0 ≤ 64 → (IntKind.i64.wrap ((rd l1_1 x42_2) * 2 ^ a0_0.toNat)) = ji53:=shl_small hji53
         have hji53y:(wrap64 ((rd l1_1 x42_2) * 2 ^ min a0_0.toNat 64)) = ji53:=(i64_w _).symm.trans hji53_
         have hji53x:a0_0 ≤ 64 → (wrap64 ((rd l1_1 x42_2) * 2 ^ a0_0.toNat)) = ji53:=fun h_=>(i64_w _).symm.trans (hji53z h_)
         by_cases c54:x267001_2.length < 17592186044416
         ·rw [if_pos c54] at H
          have LMc54:=zA c54
          clear c54
          obtain ⟨y268,hy268⟩:∃ y_:List Int,y_ = (x267001_2 ++ [ji53]):=⟨_,rfl⟩
          replace H:(impl_product.l0 k2 a2 a0_0 l1_1 (l1_1.length:Int) (wrap64 (x42_2 + 1)) a1_0 l1_1 (wrap64 (a0_0 + a1_0)) y268) = some (r1,r2,r3):=zy hy268 H
          have Ny268:=zA hy268
          clear hy268
          have H' := zA H
          clear H
          have p267:0 ≤ (x42_2:Int):=zd
          have q267:x42_2 < (l1_1.length:Int):=zd
          obtain ⟨ad267,e267,hx267_0⟩:=Kd.at_int HR1_1.out x42_2 p267 q267
          cases e267
          replace hx267_0:=(HB.out.cell (jG w _ hx267_0)).trans hx267_0
          replace p267:=eq_true p267
          replace q267:=eq_true q267
          try go_wp2
          replace HO_267001:=zA (zH HO_267001.out)
          replace BK258:=zA (zK BK258.out)
          replace BK259:=zA (zK BK259.out)
          replace BK260:=zA (zK BK260.out)
          replace BK266:=zA (zK BK266.out)
          replace HB:=zA (zD HB.out)
          refine start_ (n:=9) (S:=fun w' => w'.cell? ⟨gb266,0,none⟩ = some (.int .i64 (wrap64 (a0_0 + a1_0))) ∧ w'.cell? ⟨gb266,1,none⟩ = some (u267001)) (ds:=[8]) #[false,false,false,false,false,false,false,false,false] (by kernel_rfl) rfl rfl ⟨(kV BK266.out 0).trans rfl,(kV BK266.out 1).trans rfl⟩ (fun hHeld=>?_);refine with_tabW impl_product.tab10 impl_product.bits10 (fun HT_ HW_=>?_)
          generalize wr.drew = w55 at HO_267001 BK258 BK259 BK260 BK266 HB hHeld ⊢
          refine zp 0 (some 46) #[true,false,false,false,false,false,false,false,false] HT_.out ?_
          refine zp 2 (some 48) #[true,false,true,false,false,false,false,false,false] HT_.out ?_
          refine zp 3 (some 49) #[true,false,true,true,false,false,false,false,false] HT_.out ?_
          refine zp 4 (some 50) #[true,false,true,true,true,false,false,false,false] HT_.out ?_
          refine zc 1 (some 47) #[true,true,true,true,true,false,false,false,false] HT_.out HW_.out hHeld ?_
          refine one_ (i:=5) (N:=some 51) #[true,true,true,true,true,true,false,false,false] rfl rfl (one_of HT_.out (by kernel_rfl)) (by decide) (fun K hK=>?_)
          refine value_ (w1:=?_) (v:=?_) (by rfl) rfl ?_ ?_
          rotate_left 2
          ·go_simp
           constructor
           ·rfl
           rfl
          refine hK.out _ _ ⟨(kV (zI BK266.out _) 0).trans rfl,(kV (zI BK266.out _) 1).trans rfl⟩ (fun hHeld=>?_)
          clear hK K
          refine norm_ (a' := ?_) ?_ ?_
          rotate_left
          ·show Act.put _ (some 51) _ = _
           simp only [Act.put,zL,zM,zN,i64_w,i32_w]
           rfl
          refine one_ (i:=6) (N:=some 52) #[true,true,true,true,true,true,true,false,false] rfl rfl (one_of HT_.out (by kernel_rfl)) (by decide) (fun K hK=>?_)
          refine Kd.R_append_step (Kd.int .i64) (w0:=w) w.heap.size (by rfl) (.tmp 47) (.tmp 51) 24 2 (.int .i64 0) 8 rfl Tryd.underlying24 info2 rfl (by decide) (by omega) u267001 x267001_2 ji53 [.int .i64 ji53] (fun _=>True) (fun _=>False) rfl rfl ?aP (fun _ hk=>hk.elim) ?aF ?aO ?aB ?aS ?aL ?_
          (case aP=>exact rfl)
          (case aB=>exact (by repeat (first | (with_reducible first | exact HB.out | apply zB | apply zC | apply zD | refine zE ?_ GE258.out | refine zE ?_ GE259.out | refine zE ?_ GE260.out | refine zE ?_ GE266.out) | exact HB.out)))
          (case aF=>exact (fun _ _=>trivial))
          (case aO=>exact (zP HO_267001.out))
          (case aS=>exact (kP (by repeat (first | (with_reducible first | exact HB.out | apply zB | apply zC | apply zD | refine zE ?_ GE258.out | refine zE ?_ GE259.out | refine zE ?_ GE260.out | refine zE ?_ GE266.out) | exact HB.out))))
          (case aL=>have:=LMc54.out;omega)
          intro v269 w56 ho hb hg hat
          rw [← Ny268.out] at ho
          replace BK258:=zA (blk_grown (g:=gb258) (o:=.cells #[.int .i64 a0_0,.slice A0_1 l0_1.length c0_1] 26 (0,0)) (zR BK258.out) hg (Kd.R_ne HO_267001.out BK258.out (by decide)))
          replace BK259:=zA (blk_grown (g:=gb259) (o:=.cells #[.int .i64 a1_0,.slice (some ad267) l1_1.length c1_1] 26 (0,0)) (zR BK259.out) hg (Kd.R_ne HO_267001.out BK259.out (by decide)))
          replace BK260:=zA (blk_grown (g:=gb260) (o:=.cells #[.int .i64 0,.slice none 0 0] 26 (0,0)) (zR BK260.out) hg (Kd.R_ne HO_267001.out BK260.out (by decide)))
          replace BK266:=zA (blk_grown (g:=gb266) (o:=.cells #[.int .i64 (wrap64 (a0_0 + a1_0)),u267001] 26 (0,0)) (zR BK266.out) hg (Kd.R_ne HO_267001.out BK266.out (by decide)))
          replace HB:=zA (hb)
          have HO270:=zA (ho)
          clear HO_267001 ho hb hg hat
          obtain ⟨Ao57,co57,eo57⟩:=kM HO270.out
          (first | subst eo57 | (injection eo57 with f1_ f2_ f3_;have f4_:=f1_.symm;have f5_:=f3_.symm;clear f1_ f2_ f3_;subst f4_;subst f5_))
          refine hK.out _ _ ⟨(kV BK266.out 0).trans rfl,(kV BK266.out 1).trans rfl⟩ (fun hHeld=>?_)
          clear hK K
          refine norm_ (a' := ?_) ?_ ?_
          rotate_left
          ·show Act.put _ (some 52) _ = _
           simp only [Act.put,zL,zM,zN,i64_w,i32_w]
           rfl
          refine zp 7 (some 53) #[true,true,true,true,true,true,true,true,false] HT_.out ?_
          refine last_ (i:=8) (N:=none) #[true,true,true,true,true,true,true,true,true] rfl rfl (one_of HT_.out (by kernel_rfl)) (by decide) (fun K hK=>?_)
          have hs58:w56.cell? ⟨gb266,1,none⟩ = some (u267001):=(kV BK266.out 1).trans rfl
          have hfs58:=jH BK266.out 1
          have hns58_0:=NB258_266.out
          have hns58_1:=NB259_266.out
          have hns58_2:=NB260_266.out
          have hms58_0:=NB266_258.out
          have hms58_1:=NB266_259.out
          have hms58_2:=NB266_260.out
          refine skip_ (w1:=?_) (by rfl) rfl ?_ ?_
          rotate_left
          ·go_simp
           rfl
          refine hK.out _ _ ?_
          clear hK K
          refine done_ (done_of HT_.out (by kernel_rfl)) ?_
          try go_wp2
          go_roundg k2
          case measure=>have:=HJ3.out;have:=HK2.out;omega
          case rel=>exact ⟨(wrap64 (x42_2 + 1)),(y268),(.slice Ao57 y268.length co57),zs,H', ⟨by have:=HJ3.out;have:=HK2.out;omega⟩,⟨by (with_reducible repeat (first | apply zF | apply zG | apply zH));exact kA (kY (p:=⟨gb266,1,none⟩) (kD HO270.out BK266.out (by decide)) (fun _ hk=>hk.2) (.slice Ao57 y268.length co57)) (fun _ hk=>trivial)⟩,⟨by (with_reducible repeat (first | refine zJ ?_ _ | refine zK ?_ | refine zI ?_ _));refine blk_far ?_ NB258_266.out _;(with_reducible repeat (first | refine zJ ?_ _ | refine zK ?_ | refine zI ?_ _));exact BK258.out⟩,⟨by (with_reducible repeat (first | refine zJ ?_ _ | refine zK ?_ | refine zI ?_ _));refine blk_far ?_ NB259_266.out _;(with_reducible repeat (first | refine zJ ?_ _ | refine zK ?_ | refine zI ?_ _));exact BK259.out⟩,⟨by (with_reducible repeat (first | refine zJ ?_ _ | refine zK ?_ | refine zI ?_ _));refine blk_far ?_ NB260_266.out _;(with_reducible repeat (first | refine zJ ?_ _ | refine zK ?_ | refine zI ?_ _));exact BK260.out⟩,⟨by (with_reducible repeat (first | refine zJ ?_ _ | refine zK ?_ | refine zI ?_ _));refine blk_put (cs:=#[.int .i64 (wrap64 (a0_0 + a1_0)),u267001]) ?_ 1 _ rfl;(with_reducible repeat (first | refine zJ ?_ _ | refine zK ?_ | refine zI ?_ _));exact BK266.out⟩,⟨by repeat (first | (with_reducible first | exact HB.out | apply zB | apply zC | apply zD | refine zE ?_ GE258.out | refine zE ?_ GE259.out | refine zE ?_ GE260.out | refine zE ?_ GE266.out) | exact HB.out)⟩⟩
         rw [if_neg c54] at H
         exact absurd H (by simp)
        rw [if_neg c52] at H
        exact absurd H (by simp)
       rw [if_neg c51] at H
       exact absurd H (by simp)
      rw [if_neg c50] at H
      exact absurd H (by simp)
     rw [if_neg c49] at H
     have c49b0:decide (x42_2 < (l1_1.length:Int)) = false:=decide_eq_false c49
     clear c49
     by_cases c59:a2 = true
     ·subst c59
      rw [if_pos rfl] at H
      have H' := zA H
      clear H
      go_wp2
      go_loopg [57] k2 (fun kq v57 w' => ∃ (x57_3:Int) (x267001_3:List Int) (u267001:Value),v57 = .int .i64 x57_3 ∧ Aside0 (impl_product.l1 kq a0_0 a0_0 x57_3 a1_0 l1_1 (wrap64 (a0_0 + a1_0)) x267001_3 = some (r1,r2,r3)) ∧ Aside0 (kq ≤ k2) ∧ Aside0 (Kd.R (Kd.int .i64) 2 w' w.heap.size (fun _=>True) u267001 x267001_3) ∧ Aside0 (w'.heap[gb258]? = some (.cells #[.int .i64 a0_0,(.slice A0_1 l0_1.length c0_1)] 26 (0,0))) ∧ Aside0 (w'.heap[gb259]? = some (.cells #[.int .i64 a1_0,(.slice A1_1 l1_1.length c1_1)] 26 (0,0))) ∧ Aside0 (w'.heap[gb260]? = some (.cells #[.int .i64 0,(.slice none 0 0)] 26 (0,0))) ∧ Aside0 (w'.heap[gb266]? = some (.cells #[.int .i64 (wrap64 (a0_0 + a1_0)),u267001] 26 (0,0))) ∧ Aside0 (Below w.heap.size w w'))
      case atStart=>exact ⟨(0),(x267001_2),(u267001),zs,H', ⟨Nat.le_refl _⟩,⟨zP HO_267001.out⟩,⟨zR BK258.out⟩,⟨zR BK259.out⟩,⟨zR BK260.out⟩,⟨zR BK266.out⟩,⟨by repeat (first | (with_reducible first | exact HB.out | apply zB | apply zC | apply zD | refine zE ?_ GE258.out | refine zE ?_ GE259.out | refine zE ?_ GE260.out | refine zE ?_ GE266.out) | exact HB.out)⟩⟩
      case round =>
       clear H'
       try clear c1
       try clear c2
       try clear hx2
       try clear c3
       try clear c4
       try clear c5
       try clear c9
       try clear c11
       try clear c12
       try clear c15
       try clear c18
       try clear c19
       try clear c21
       try clear c22
       try clear c23
       try clear c24
       try clear c26
       try clear hx26
       try clear c27
       try clear c28
       try clear c30
       try clear c34
       try clear c35
       try clear c37
       try clear c44
       try clear c47
       try clear c49
       try clear c50
       try clear c51
       try clear c52
       try clear c54
       try clear c59
       try clear hcz13_0
       try clear hcz13_1
       try clear hcz16_0
       try clear hcz16_1
       try clear hcz20_0
       try clear hcz20_1
       try clear hcz25_0
       try clear hcz25_1
       try clear hcz29_0
       try clear hcz29_1
       try clear hcz31_0
       try clear hcz31_1
       try clear hcz32_0
       try clear hcz32_1
       try clear hcz36_0
       try clear hcz36_1
       try clear hcz38_0
       try clear hcz38_1
       try clear hcz48_0
       try clear hcz48_1
       try clear hfz13_0
       try clear hfz13_1
       try clear hfz16_0
       try clear hfz16_1
       try clear hfz20_0
       try clear hfz20_1
       try clear hfz25_0
       try clear hfz25_1
       try clear hfz29_0
       try clear hfz29_1
       try clear hfz31_0
       try clear hfz31_1
       try clear hfz32_0
       try clear hfz32_1
       try clear hfz36_0
       try clear hfz36_1
       try clear hfz38_0
       try clear hfz38_1
       try clear hfz48_0
       try clear hfz48_1
       try clear hx267_0
       obtain ⟨x57_3,x267001_3,u267001,rfl,HA,HK3,HO_267001,BK258,BK259,BK260,BK266,HB⟩:=hrel
       cases gk with
       | zero=>exact absurd HA.out (by simp [impl_product.l1])
       | succ k3 =>
        have H:=HA.out
        clear HA
        simp only [impl_product.l1] at H
        by_cases c60:x57_3 < a0_0
        ·rw [if_pos c60] at H
         have c60b0:decide (x57_3 < a0_0) = true:=decide_eq_true c60
         clear c60
         have H' := zA H
         clear H
         have hnb61:=NB259_258.out
         have hnc61:=NB258_259.out
         have hnb62:=NB259_260.out
         have hnc62:=NB260_259.out
         have hnb63:=NB259_266.out
         have hnc63:=NB266_259.out
         obtain ⟨hcz64_0,hcz64_1,hfz64_0,hfz64_1⟩:=zB3 BK259.out
         go_wp2
         go_loopg [62] k3 (fun kq v62 w' => ∃ (x62_4:Int) (x267001_4:List Int) (u267001:Value),v62 = .int .i64 x62_4 ∧ Aside0 (impl_product.l2 kq a0_0 x57_3 a0_0 x57_3 a1_0 x62_4 a1_0 l1_1 (wrap64 (a0_0 + a1_0)) x267001_4 = some (r1,r2,r3)) ∧ Aside0 (kq ≤ k3) ∧ Aside0 (Kd.R (Kd.int .i64) 2 w' w.heap.size (fun _=>True) u267001 x267001_4) ∧ Aside0 (w'.heap[gb258]? = some (.cells #[.int .i64 a0_0,(.slice A0_1 l0_1.length c0_1)] 26 (0,0))) ∧ Aside0 (w'.heap[gb259]? = some (.cells #[.int .i64 a1_0,(.slice A1_1 l1_1.length c1_1)] 26 (0,0))) ∧ Aside0 (w'.heap[gb260]? = some (.cells #[.int .i64 0,(.slice none 0 0)] 26 (0,0))) ∧ Aside0 (w'.heap[gb266]? = some (.cells #[.int .i64 (wrap64 (a0_0 + a1_0)),u267001] 26 (0,0))) ∧ Aside0 (Below w.heap.size w w'))
         case atStart=>exact ⟨(0),(x267001_3),(u267001),zs,H', ⟨Nat.le_refl _⟩,⟨zP HO_267001.out⟩,⟨zR BK258.out⟩,⟨zR BK259.out⟩,⟨zR BK260.out⟩,⟨zR BK266.out⟩,⟨by repeat (first | (with_reducible first | exact HB.out | apply zB | apply zC | apply zD | refine zE ?_ GE258.out | refine zE ?_ GE259.out | refine zE ?_ GE260.out | refine zE ?_ GE266.out) | exact HB.out)⟩⟩
         case round =>
          clear H'
          try clear c1
          try clear c2
          try clear hx2
          try clear c3
          try clear c4
          try clear c5
          try clear c6
          try clear c9
          try clear c11
          try clear c12
          try clear c15
          try clear c18
          try clear c19
          try clear c21
          try clear c22
          try clear c23
          try clear c24
          try clear c26
          try clear hx26
          try clear c27
          try clear c28
          try clear c30
          try clear c34
          try clear c35
          try clear c37
          try clear c44
          try clear c47
          try clear c49
          try clear c50
          try clear c51
          try clear c52
          try clear c54
          try clear c59
          try clear c60
          try clear c61
          try clear c62
          try clear c63
          try clear hcz13_0
          try clear hcz13_1
          try clear hcz16_0
          try clear hcz16_1
          try clear hcz20_0
          try clear hcz20_1
          try clear hcz25_0
          try clear hcz25_1
          try clear hcz29_0
          try clear hcz29_1
          try clear hcz31_0
          try clear hcz31_1
          try clear hcz32_0
          try clear hcz32_1
          try clear hcz36_0
          try clear hcz36_1
          try clear hcz38_0
          try clear hcz38_1
          try clear hcz48_0
          try clear hcz48_1
          try clear hcz64_0
          try clear hcz64_1
          try clear hfz13_0
          try clear hfz13_1
          try clear hfz16_0
          try clear hfz16_1
          try clear hfz20_0
          try clear hfz20_1
          try clear hfz25_0
          try clear hfz25_1
          try clear hfz29_0
          try clear hfz29_1
          try clear hfz31_0
          try clear hfz31_1
          try clear hfz32_0
          try clear hfz32_1
          try clear hfz36_0
          try clear hfz36_1
          try clear hfz38_0
          try clear hfz38_1
          try clear hfz48_0
          try clear hfz48_1
          try clear hfz64_0
          try clear hfz64_1
          try clear hx267_0
          obtain ⟨x62_4,x267001_4,u267001,rfl,HA,HK4,HO_267001,BK258,BK259,BK260,BK266,HB⟩:=hrel
          cases gk with
          | zero=>exact absurd HA.out (by simp [impl_product.l2])
          | succ k4 =>
           have H:=HA.out
           clear HA
           simp only [impl_product.l2] at H
           by_cases c65:x62_4 < a1_0
           ·rw [if_pos c65] at H
            have c65b0:decide (x62_4 < a1_0) = true:=decide_eq_true c65
            clear c65
            obtain ⟨t271,A66,H⟩:=zb H
            try dsimp only at H
            have H' := zA H
            clear H
            have hnb67:=NB266_258.out
            have hnc67:=NB258_266.out
            have hnb68:=NB266_259.out
            have hnc68:=NB259_266.out
            have hnb69:=NB266_260.out
            have hnc69:=NB260_266.out
            obtain ⟨hcz70_0,hcz70_1,hfz70_0,hfz70_1⟩:=zB3 BK266.out
            obtain ⟨Ao71,co71,eo71⟩:=kM HO_267001.out
            subst eo71
            go_wp2_with (first | (refine zO (some 70) Tryd.func45 #[.agg #[.int .i64 (wrap64 (a0_0 + a1_0)),.slice Ao71 x267001_4.length co71],.int .i64 x57_3,.int .i64 (wrap64 (a0_0 + x62_4))] ?_;(with_reducible refine (impl_Alphabet_tie.calls (wrap64 (a0_0 + a1_0)) (fun k_=>some k_ = (.slice Ao71 x267001_4.length co71:Value).ownBlock) (.slice Ao71 x267001_4.length co71) x267001_4 x57_3 (wrap64 (a0_0 + x62_4)) t271 w _ ?side1 ?side2 A66.out).mono ?_);(case side1=>repeat (first | (with_reducible first | exact HB.out | apply zB | apply zC | apply zD | refine zE ?_ GE258.out | refine zE ?_ GE259.out | refine zE ?_ GE260.out | refine zE ?_ GE266.out) | exact HB.out));(case side2=>exact jK rfl HO_267001.out);rintro e w72 ⟨rfl,hy0,hb,hkp⟩;refine ⟨_,rfl,?_⟩;replace BK258:=zA (blk_kept (zR BK258.out) hkp (fun hs_=>(fun e_=>(Kd.R_ne HO_267001.out BK258.out (by decide)) e_) hs_));replace BK259:=zA (blk_kept (zR BK259.out) hkp (fun hs_=>(fun e_=>(Kd.R_ne HO_267001.out BK259.out (by decide)) e_) hs_));replace BK260:=zA (blk_kept (zR BK260.out) hkp (fun hs_=>(fun e_=>(Kd.R_ne HO_267001.out BK260.out (by decide)) e_) hs_));replace BK266:=zA (blk_kept (zR BK266.out) hkp (fun hs_=>(fun e_=>(Kd.R_ne HO_267001.out BK266.out (by decide)) e_) hs_));replace HO_267001:=zA (Kd.R_reok rfl hy0 (fun k_ e_=>HO_267001.out.1 k_ e_));replace HB:=zA (hb);(try clear hb);(try clear hkp);(try clear hy0)))
            go_roundg k4
            case measure=>have:=HJ3.out;have:=HK2.out;have:=HK3.out;have:=HK4.out;omega
            case rel=>exact ⟨(wrap64 (x62_4 + 1)),(t271),(.slice Ao71 x267001_4.length co71),zs,H', ⟨by have:=HJ3.out;have:=HK2.out;have:=HK3.out;have:=HK4.out;omega⟩,⟨zP HO_267001.out⟩,⟨zR BK258.out⟩,⟨zR BK259.out⟩,⟨zR BK260.out⟩,⟨zR BK266.out⟩,⟨by repeat (first | (with_reducible first | exact HB.out | apply zB | apply zC | apply zD | refine zE ?_ GE258.out | refine zE ?_ GE259.out | refine zE ?_ GE260.out | refine zE ?_ GE266.out) | exact HB.out)⟩⟩
           rw [if_neg c65] at H
           have c65b0:decide (x62_4 < a1_0) = false:=decide_eq_false c65
           clear c65
           have H' := zA H
           clear H
           go_wp2
           go_roundg k4
           case measure=>have:=HJ3.out;have:=HK2.out;have:=HK3.out;have:=HK4.out;omega
           case rel=>exact ⟨(wrap64 (x57_3 + 1)),(x267001_4),(u267001),zs,H', ⟨by have:=HJ3.out;have:=HK2.out;have:=HK3.out;have:=HK4.out;omega⟩,⟨zP HO_267001.out⟩,⟨zR BK258.out⟩,⟨zR BK259.out⟩,⟨zR BK260.out⟩,⟨zR BK266.out⟩,⟨by repeat (first | (with_reducible first | exact HB.out | apply zB | apply zC | apply zD | refine zE ?_ GE258.out | refine zE ?_ GE259.out | refine zE ?_ GE260.out | refine zE ?_ GE266.out) | exact HB.out)⟩⟩
        rw [if_neg c60] at H
        have c60b0:decide (x57_3 < a0_0) = false:=decide_eq_false c60
        clear c60
        simp only [Option.some.injEq,Prod.mk.injEq] at H
        obtain ⟨rfl,rfl,rfl⟩:=H
        have hnb73:=NB266_258.out
        have hnc73:=NB258_266.out
        have hnb74:=NB266_259.out
        have hnc74:=NB259_266.out
        have hnb75:=NB266_260.out
        have hnc75:=NB260_266.out
        obtain ⟨hcz76_0,hcz76_1,hfz76_0,hfz76_1⟩:=zB3 BK266.out
        have hnb77:=NB260_258.out
        have hnc77:=NB258_260.out
        have hnb78:=NB260_259.out
        have hnc78:=NB259_260.out
        obtain ⟨hcz79_0,hcz79_1,hfz79_0,hfz79_1⟩:=zB3 BK260.out
        obtain ⟨Ao80,co80,eo80⟩:=kM HO_267001.out
        subst eo80
        go_wp2
        refine bodyPost_ret (results_ct rfl _ _ gb260 26 #[.int .i64 (wrap64 (a0_0 + a1_0)),.slice Ao80 x267001_3.length co80] (0,0) _ rfl (zRP BK260.out) Tryd.underlying26 rfl (by kernel_rfl)) rfl ?_
        exact ⟨_,zr,by (with_reducible repeat (first | apply zF | apply zG | apply zH));exact kA (kY (p:=⟨gb260,1,none⟩) (kY (p:=⟨gb260,0,none⟩) (kD HO_267001.out BK260.out (by decide)) (fun _ hk=>hk.2) (.int .i64 (wrap64 (a0_0 + a1_0)))) (fun _ hk=>hk.2) (.slice Ao80 x267001_3.length co80)) (fun _ hk=>trivial),by repeat (first | (with_reducible first | exact HB.out | apply zB | apply zC | apply zD | refine zE ?_ GE258.out | refine zE ?_ GE259.out | refine zE ?_ GE260.out | refine zE ?_ GE266.out) | exact HB.out)⟩
     replace c59:=Bool.eq_false_iff.mpr c59
     subst c59
     rw [if_neg (show ¬ (false = true) by decide)] at H
     simp only [Option.some.injEq,Prod.mk.injEq] at H
     obtain ⟨rfl,rfl,rfl⟩:=H
     have hnb81:=NB266_258.out
     have hnc81:=NB258_266.out
     have hnb82:=NB266_259.out
     have hnc82:=NB259_266.out
     have hnb83:=NB266_260.out
     have hnc83:=NB260_266.out
     obtain ⟨hcz84_0,hcz84_1,hfz84_0,hfz84_1⟩:=zB3 BK266.out
     have hnb85:=NB260_258.out
     have hnc85:=NB258_260.out
     have hnb86:=NB260_259.out
     have hnc86:=NB259_260.out
     obtain ⟨hcz87_0,hcz87_1,hfz87_0,hfz87_1⟩:=zB3 BK260.out
     obtain ⟨Ao88,co88,eo88⟩:=kM HO_267001.out
     subst eo88
     go_wp2
     refine bodyPost_ret (results_ct rfl _ _ gb260 26 #[.int .i64 (wrap64 (a0_0 + a1_0)),.slice Ao88 x267001_2.length co88] (0,0) _ rfl (zRP BK260.out) Tryd.underlying26 rfl (by kernel_rfl)) rfl ?_
     exact ⟨_,zr,by (with_reducible repeat (first | apply zF | apply zG | apply zH));exact kA (kY (p:=⟨gb260,1,none⟩) (kY (p:=⟨gb260,0,none⟩) (kD HO_267001.out BK260.out (by decide)) (fun _ hk=>hk.2) (.int .i64 (wrap64 (a0_0 + a1_0)))) (fun _ hk=>hk.2) (.slice Ao88 x267001_2.length co88)) (fun _ hk=>trivial),by repeat (first | (with_reducible first | exact HB.out | apply zB | apply zC | apply zD | refine zE ?_ GE258.out | refine zE ?_ GE259.out | refine zE ?_ GE260.out | refine zE ?_ GE266.out) | exact HB.out)⟩
def impl_DirectProduct.f (k:Nat) (a0_0:Int) (l0_1:List Int) (a1_0:Int) (l1_1:List Int):Option (Int × List Int × Int):=(impl_product.f k a0_0 l0_1 a1_0 l1_1 false).bind fun bt275=>(some (bt275.1,bt275.2.1,bt275.2.2))
set_option maxHeartbeats 8000000 in
set_option maxRecDepth 100000 in
theorem impl_DirectProduct.calls (k : Nat) (a0_0 : Int) (A0_1 : Option Addr) (c0_1 : Nat) (l0_1 : List Int) (a1_0 : Int) (A1_1 : Option Addr) (c1_1 : Nat) (l1_1 : List Int) (r1 : Int) (r2 : List Int) (r3 : Int) (w : World) (hr0_1 : Kd.C (Kd.int .i64) w A0_1 l0_1.length l0_1) (hc0_1 : l0_1.length ≤ c0_1) (hr1_1 : Kd.C (Kd.int .i64) w A1_1 l1_1.length l1_1) (hc1_1 : l1_1.length ≤ c1_1) (hT : TabW w) (h : impl_DirectProduct.f k a0_0 l0_1 a1_0 l1_1 = some (r1, r2, r3)) :
  Calls Tryd.prog 7 #[.agg #[.int .i64 a0_0,.slice A0_1 l0_1.length c0_1],.agg #[.int .i64 a1_0,.slice A1_1 l1_1.length c1_1]] w fun e w' => ∃ v1_:Value,e = .returned (.tuple #[.agg #[.int .i64 r1,v1_],.int .i64 r3]) ∧ Kd.R (Kd.int .i64) 2 w' w.heap.size (fun _=>True) v1_ r2 ∧ Below w.heap.size w w' := by
 have hu26:=Tryd.underlying26
 have HT:=zA hT
 clear hT
 have HR0_1:=zA hr0_1
 have HC0_1:=zA hc0_1
 clear hr0_1 hc0_1
 have HR1_1:=zA hr1_1
 have HC1_1:=zA hc1_1
 clear hr1_1 hc1_1
 have HB:=zA (kW w.heap.size w)
 have H:=h
 unfold impl_DirectProduct.f at H
 clear h
 obtain ⟨⟨t275,t276,t279⟩,A3,H⟩:=zb H
 try dsimp only at H
 simp only [Option.some.injEq,Prod.mk.injEq] at H
 obtain ⟨rfl,rfl,rfl⟩:=H
 go_enter Tryd.func7,Tryd.ntmps7
 go_wp2_with (first | (refine zBE 2 #[.int .i64 a0_0,.slice A0_1 l0_1.length c0_1] 26 ?_;intro gb272 hg w4 hbox hb;have BK272:=zA (hbox);have GW272:=zA (zBH hg HB.out);have GE272:=zA (zBH hg HB.out);replace HB:=zA (kQ (zQ HB.out) hb);clear hb hbox hg) | (refine zBE 3 #[.int .i64 a1_0,.slice A1_1 l1_1.length c1_1] 26 ?_;intro gb273 hg w5 hbox hb;have BK273:=zA (hbox);have GW273:=zA (zB6 hg (kP (zT HB.out GE272.out)):w.heap.size ≤ gb273);have GE273:=zA (zB6 hg (kP (zT HB.out GE272.out)):w.heap.size ≤ gb273);replace HB:=zA (kQ (zT HB.out GE272.out) hb);have NB272_273:=zA (zB4 hg BK272.out:gb272 ≠ gb273);have NB273_272:=zA (zB5 hg BK272.out:gb273 ≠ gb272);replace BK272:=zA (zB1 BK272.out hb);clear hb hbox hg) | (refine zBE 4 #[.int .i64 0,.slice none 0 0] 26 ?_;intro gb274 hg w6 hbox hb;have BK274:=zA (hbox);have GW274:=zA (zB6 hg (kP (zV HB.out GE272.out GE273.out)):w.heap.size ≤ gb274);have GE274:=zA (zB6 hg (kP (zV HB.out GE272.out GE273.out)):w.heap.size ≤ gb274);replace HB:=zA (kQ (zV HB.out GE272.out GE273.out) hb);have NB272_274:=zA (zB4 hg BK272.out:gb272 ≠ gb274);have NB274_272:=zA (zB5 hg BK272.out:gb274 ≠ gb272);replace BK272:=zA (zB1 BK272.out hb);have NB273_274:=zA (zB4 hg BK273.out:gb273 ≠ gb274);have NB274_273:=zA (zB5 hg BK273.out:gb274 ≠ gb273);replace BK273:=zA (zB1 BK273.out hb);clear hb hbox hg;have hnb7:=NB272_273.out;have hnc7:=NB273_272.out;have hnb8:=NB272_274.out;have hnc8:=NB274_272.out;obtain ⟨hcz9_0,hcz9_1,hfz9_0,hfz9_1⟩:=zB3 BK272.out;have hnb10:=NB273_274.out;have hnc10:=NB274_273.out;obtain ⟨hcz11_0,hcz11_1,hfz11_0,hfz11_1⟩:=zB3 BK273.out) | (refine zO (some 8) Tryd.func21 #[.agg #[.int .i64 a0_0,.slice A0_1 l0_1.length c0_1],.agg #[.int .i64 a1_0,.slice A1_1 l1_1.length c1_1],.bool false] ?_;(with_reducible refine (impl_product.calls k a0_0 _ _ l0_1 a1_0 _ _ l1_1 false t275 t276 t279 _ ?side1 ?side2 ?side3 ?side4 ?side5 A3.out).mono ?_);(case side1=>exact zS (kO HR0_1.out HB.out));(case side2=>exact HC0_1.out);(case side3=>exact zS (kO HR1_1.out HB.out));(case side4=>exact HC1_1.out);(case side5=>exact TabW.below HT.out (zW HB.out GE272.out GE273.out GE274.out));rintro e w12 ⟨v277,rfl,ho0,hb⟩;refine ⟨_,rfl,?_⟩;have HO278:=zA (kI ho0 (kP (zW HB.out GE272.out GE273.out GE274.out)));replace BK272:=zA (zB1 BK272.out hb);replace BK273:=zA (zB1 BK273.out hb);replace BK274:=zA (zB1 BK274.out hb);replace HB:=zA (kQ (zW HB.out GE272.out GE273.out GE274.out) hb);(try clear hb);(try clear ho0);obtain ⟨hcz13_0,hcz13_1,hfz13_0,hfz13_1⟩:=zB3 BK274.out;obtain ⟨Ao14,co14,eo14⟩:=kM HO278.out;subst eo14))
 refine bodyPost_ret (results_ct rfl _ _ gb274 26 #[.int .i64 t275,.slice Ao14 t276.length co14] (0,0) _ rfl (zRP BK274.out) Tryd.underlying26 rfl (by kernel_rfl)) rfl ?_
 exact ⟨_,zr,by (with_reducible repeat (first | apply zF | apply zG | apply zH));exact kA (kY (p:=⟨gb274,1,none⟩) (kY (p:=⟨gb274,0,none⟩) (kD HO278.out BK274.out (by decide)) (fun _ hk=>hk.2) (.int .i64 t275)) (fun _ hk=>hk.2) (.slice Ao14 t276.length co14)) (fun _ hk=>trivial),zW HB.out GE272.out GE273.out GE274.out⟩
end Go.Proofs.YtjdekliancabgaaDoor.PAll
