import Derived.Test.YtpenijicdldipaaDoorPAllx0
import Derived.Test.YtpenijicdldipaaDoorPAllx1
import Derived.Test.YtpenijicdldipaaDoorPAllx6
import Derived.Test.YtpenijicdldipaaDoorPAllx7
namespace Go.Proofs.YtpenijicdldipaaDoor.PAll
open Go.RowKit Go.Proofs.YtpenijicdldipaaDoor.T Go.Proofs.YtpenijicdldipaaDoorW.PrintWords Go.Proofs.YtpenijicdldipaaDoorW.PrintLast Go.Proofs.YtpenijicdldipaaDoorW.PrintMore
attribute [local go_sem] max2_int min2_int max_two min_two max_three min_three max_four min_four   -- for this text's walks alone
set_option linter.unusedVariables false
set_option linter.unusedSimpArgs false
def spec_l03Spoil.l0:Nat → List Int → List Int → Int → Int → Int → List Int → Option (List Int × Int × Int)
 | 0,_,_,_,_,_,_=>none
 | k + 1,x7,x1000,x1001,x1002,x565000,x565001=>if x565000 > 0 then (if (x7.length:Int) < 25 then ((spec_l01Next.f x1000 x1001 x1002 x565000).bind fun bt586=>(if x7.length < 17592186044416 then (spec_l03Spoil.l0 k (x7 ++ [bt586.1]) x1000 bt586.2.1 bt586.2.2 x565000 x565001) else (none))) else (some (x7,x1001,x1002))) else (some (x7,x1001,x1002))
def spec_l03Spoil.f (k:Nat) (s0_0:List Int) (s0_1:Int) (s0_2:Int) (a1_0:Int) (l1_1:List Int) (a2:Int):Option (List Int × Int × Int):=(spec_l02Is.f k a1_0 l1_1).bind fun t565=>(if t565 = true then ((spec_l03Draw.f k s0_0 s0_1 s0_2 a1_0 l1_1 a2).bind fun bt569=>((spec_l01Next.f s0_0 bt569.2.1 bt569.2.2 28).bind fun bt574=>(if bt574.1 = 0 then ((spec_l01Pick.f s0_0 bt574.2.1 bt574.2.2 (([(-1),a1_0,1099511627776]:List Int))).bind fun bt580=>(if bt569.1.length < 17592186044416 then (some ((bt569.1 ++ [bt580.1]),bt580.2.1,bt580.2.2)) else (none))) else (if bt574.1 = 1 then (spec_l03Spoil.l0 k bt569.1 s0_0 bt574.2.1 bt574.2.2 a1_0 l1_1) else (some (bt569.1,bt574.2.1,bt574.2.2)))))) else (some ((([0,1,0]:List Int)),s0_1,s0_2)))
set_option maxHeartbeats 8000000 in
set_option maxRecDepth 100000 in
theorem spec_l03Spoil.calls (k:Nat) (g:Nat) (s0_0:List Int) (s0_1:Int) (s0_2:Int) (a1_0:Int) (A1_1:Option Addr) (c1_1:Nat) (l1_1:List Int) (a2:Int) (r1:List Int) (r2:Int) (r3:Int) (w0 w:World) (hI:Z82 w0 w g s0_0 s0_1 s0_2) (hB:Below w0.heap.size w0 w) (hr1_1:Kd.C (Kd.int .i64) w A1_1 l1_1.length l1_1) (hc1_1:l1_1.length ≤ c1_1) (hf1_1:∀ ad,A1_1 = some ad → 0 < l1_1.length → ad.block ≠ g) (h:spec_l03Spoil.f k s0_0 s0_1 s0_2 a1_0 l1_1 a2 = some (r1,r2,r3)) :
  Calls Tryd.prog 58 #[.pointer (some ⟨g,0,none⟩),.agg #[.int .i64 a1_0,.slice A1_1 l1_1.length c1_1],.int .i64 a2] w fun e w' => ∃ v0_:Value,e = .returned (v0_) ∧ Kd.R (Kd.int .i64) 2 w' w.heap.size (fun _=>True) v0_ r1 ∧ Z82 w0 w' g s0_0 r2 r3 ∧ Below w0.heap.size w0 w' ∧ KeepBut w w' g none:=by
 have hu28:=Tryd.underlying28
 have HR1_1:=zA hr1_1
 have HC1_1:=zA hc1_1
 clear hr1_1 hc1_1
 have HI0:=zA hI
 have HK:=zA (KeepBut.refl w g none)
 have HL:=zA hB.size
 clear hI
 have HW0:=zA hB.size
 have HB:=zA hB
 clear hB
 have H:=h
 unfold spec_l03Spoil.f at H
 clear h
 obtain ⟨t565,A4,H⟩:=zb H
 try dsimp only at H
 by_cases c5:t565 = true
 ·subst c5
  rw [if_pos rfl] at H
  obtain ⟨⟨t569,t572,t573⟩,A6,H⟩:=zb H
  try dsimp only at H
  obtain ⟨⟨t574,t575,t576⟩,A7,H⟩:=zb H
  try dsimp only at H
  by_cases c8:t574 = 0
  ·rw [if_pos c8] at H
   obtain ⟨c8b0,c8b1⟩:=zT1 c8
   clear c8
   obtain ⟨y577,hy577⟩:∃ y_:List Int,y_ = (([(-1),a1_0,1099511627776]:List Int)):=⟨_,rfl⟩
   replace H:((spec_l01Pick.f s0_0 t575 t576 y577).bind fun bt580=>(if t569.length < 17592186044416 then (some ((t569 ++ [bt580.1]),bt580.2.1,bt580.2.2)) else (none))) = some (r1,r2,r3):=zy hy577 H
   have Ny577:=zA hy577
   clear hy577
   obtain ⟨⟨t580,t581,t582⟩,A9,H⟩:=zb H
   try dsimp only at H
   by_cases c10:t569.length < 17592186044416
   ·rw [if_pos c10] at H
    have LMc10:=zA c10
    clear c10
    obtain ⟨y583,hy583⟩:∃ y_:List Int,y_ = (t569 ++ [t580]):=⟨_,rfl⟩
    replace H:(some (y583,t581,t582)) = some (r1,r2,r3):=zy hy583 H
    have Ny583:=zA hy583
    clear hy583
    simp only [Option.some.injEq,Prod.mk.injEq] at H
    obtain ⟨rfl,rfl,rfl⟩:=H
    go_enter Tryd.func58,Tryd.ntmps58
    go_wp2_with (first | (refine zBE 4 #[.int .i64 a1_0,.slice A1_1 l1_1.length c1_1] 28 ?_;intro gb564 hg w11 hbox hb;replace HB:=zA (kQ (zT HB.out (Z82.ge HI0.out)) hb);have BK564:=zA (hbox);have GW564:=zA (zB6 hg (kX (w:=w) (g:=g) (row:=none) (yA HK.out)):w.heap.size ≤ gb564);have GE564:=zA ((Nat.le_trans HW0.out (by rw [hg];exact (kX (w:=w) (g:=g) (row:=none) (yA HK.out)):w.heap.size ≤ gb564):w0.heap.size ≤ gb564));replace HK:=zA (kT (yA HK.out) (kU hb g none) (.inl rfl));have NB0_564:=zA (zB7 hg (Z82.lt (show Z82 w0 _ g s0_0 s0_1 s0_2 from Z82.uA HI0.out)):g ≠ gb564);have NB564_0:=zA (zB8 hg (Z82.lt (show Z82 w0 _ g s0_0 s0_1 s0_2 from Z82.uA HI0.out)):gb564 ≠ g);replace HI0:=zA (Z82.below (Z82.uA HI0.out) hb);clear hb hbox hg;have hnb12:=NB564_0.out;have hnc12:=NB0_564.out;obtain ⟨hcz13_0,hcz13_1,hfz13_0,hfz13_1⟩:=zB3 BK564.out) | (refine zO (some 9) Tryd.func62 #[.agg #[.int .i64 a1_0,.slice A1_1 l1_1.length c1_1]] ?_;(with_reducible refine (spec_l02Is.calls k a1_0 _ _ l1_1 true _ ?side1 ?side2 A4.out).mono ?_);(case side1=>exact Kd.C_keep 0 HR1_1.out (yB HK.out GW564.out) hf1_1);(case side2=>exact HC1_1.out);rintro e w14 ⟨rfl,hb⟩;refine ⟨_,rfl,?_⟩;replace BK564:=zA (zB1 BK564.out hb);replace HK:=zA (kT (yB HK.out GW564.out) (kU hb g none) (.inl rfl));replace HB:=zA (kQ (zV HB.out (Z82.ge HI0.out) GE564.out) hb);replace HI0:=zA (Z82.below (Z82.uB HI0.out NB0_564.out) hb);(try clear hb);obtain ⟨hcz15_0,hcz15_1,hfz15_0,hfz15_1⟩:=zB3 BK564.out) | (refine zO (some 15) Tryd.func76 #[.pointer (some ⟨g,0,none⟩),.agg #[.int .i64 a1_0,.slice A1_1 l1_1.length c1_1],.int .i64 a2] ?_;(with_reducible refine (spec_l03Draw.calls k g s0_0 s0_1 s0_2 a1_0 _ _ l1_1 a2 t569 t572 t573 w0 _ ?side1 ?side2 ?side3 ?side4 ?side5 A6.out).mono ?_);(case side1=>exact Z82.uB HI0.out NB0_564.out);(case side2=>exact zV HB.out (Z82.ge HI0.out) GE564.out);(case side3=>exact Kd.C_keep 0 HR1_1.out (yB HK.out GW564.out) hf1_1);(case side4=>exact HC1_1.out);(case side5=>exact hf1_1);rintro e w16 ⟨v570,rfl,ho0,hi,hb,hk⟩;refine ⟨_,rfl,?_⟩;replace BK564:=zA (zB2 hk BK564.out NB564_0.out);have HO571:=zA (kI ho0 (kX (w:=w) (g:=g) (row:=none) (yB HK.out GW564.out)));replace HK:=zA (kT (yB HK.out GW564.out) hk (.inl rfl));replace HB:=zA (hb);replace HI0:=zA (hi);(try clear hb);(try clear hk);(try clear hi);(try clear ho0)) | (refine zO (some 17) Tryd.func56 #[.pointer (some ⟨g,0,none⟩),.int .i64 28] ?_;(with_reducible refine (spec_l01Next.calls g s0_0 t572 t573 28 t574 t575 t576 w0 _ ?side1 ?side2 A7.out).mono ?_);(case side1=>exact Z82.uB HI0.out NB0_564.out);(case side2=>exact zV HB.out (Z82.ge HI0.out) GE564.out);rintro e w17 ⟨rfl,hi,hb,hk⟩;refine ⟨_,rfl,?_⟩;replace BK564:=zA (zB2 hk BK564.out NB564_0.out);replace HO571:=zA (zB9 (Z82.apart (show Z82 w0 _ g s0_0 t572 t573 from Z82.uB HI0.out NB0_564.out) (zP HO571.out) (by decide)) hk);replace HK:=zA (kT (yB HK.out GW564.out) hk (.inl rfl));replace HB:=zA (hb);replace HI0:=zA (hi);(try clear hb);(try clear hk);(try clear hi);obtain ⟨hcz18_0,hcz18_1,hfz18_0,hfz18_1⟩:=zB3 BK564.out) | ((with_reducible refine kS (N:=24) rfl ?_);refine Kd.R_lit (Kd.int .i64) _ 2 ?hg (N:=24) ?hd (xs:=([(-1),a1_0,1099511627776]:List Int)) (inner:=[.int .i64 (-1),.int .i64 a1_0,.int .i64 1099511627776]) (ok:=fun _=>True) (okp:=fun _=>True) ?hr ?hp (fun _ hk=>hk) trivial (kW _ _) (Nat.le_refl _) (by simp) ?_;(case hd=>rfl);(case hg=>rfl);(case hr=>first | (go_simp;done) | (go_simp;rfl));(case hp=>exact (Reps.one (show Kd.M (Kd.int .i64) _ _ _ (-1) [.int .i64 (-1)] from rfl) (Reps.one (show Kd.M (Kd.int .i64) _ _ _ a1_0 [.int .i64 a1_0] from rfl) (Reps.one (show Kd.M (Kd.int .i64) _ _ _ 1099511627776 [.int .i64 1099511627776] from rfl) (Reps.none _ _)))));intro v578 w19 ho20 hb hg_ hnew_;clear hg_ hnew_;(first | rw [← Ny577.out] at ho20 | (simp only [Int.reduceToNat] at ho20;rw [← Ny577.out] at ho20));have HO579:=zA (kI (kF ho20 (kH (zP HO571.out))) (kX (w:=w) (g:=g) (row:=none) (yB HK.out GW564.out)));replace HO571:=zA (kE (zP HO571.out) (kC ho20) hb);replace BK564:=zA (zB1 BK564.out hb);replace HK:=zA (kT (yB HK.out GW564.out) (kU hb g none) (.inl rfl));replace HB:=zA (kQ (zV HB.out (Z82.ge HI0.out) GE564.out) hb);replace HI0:=zA (Z82.below (Z82.uB HI0.out NB0_564.out) hb);clear hb ho20;obtain ⟨Ao21,co21,eo21⟩:=kM HO579.out;subst eo21) | (refine zO (some 25) Tryd.func74 #[.pointer (some ⟨g,0,none⟩),.slice Ao21 y577.length co21] ?_;(with_reducible refine (spec_l01Pick.calls g s0_0 t575 t576 _ _ y577 t580 t581 t582 w0 _ ?side1 ?side2 ?side3 ?side4 ?side5 A9.out).mono ?_);(case side1=>exact Z82.uB HI0.out NB0_564.out);(case side2=>exact zV HB.out (Z82.ge HI0.out) GE564.out);(case side3=>exact zS (kB HO579.out).2.2);(case side4=>exact (kB HO579.out).2.1);(case side5=>exact jJ (Z82.own_ne HI0.out HO579.out (by decide)));rintro e w22 ⟨rfl,hi,hb,hk⟩;refine ⟨_,rfl,?_⟩;replace BK564:=zA (zB2 hk BK564.out NB564_0.out);replace HO571:=zA (zB9 (Z82.apart (show Z82 w0 _ g s0_0 t575 t576 from Z82.uB HI0.out NB0_564.out) (zP HO571.out) (by decide)) hk);replace HO579:=zA (zB9 (Z82.apart (show Z82 w0 _ g s0_0 t575 t576 from Z82.uB HI0.out NB0_564.out) (zP HO579.out) (by decide)) hk);replace HK:=zA (kT (yB HK.out GW564.out) hk (.inl rfl));replace HB:=zA (hb);replace HI0:=zA (hi);(try clear hb);(try clear hk);(try clear hi)) | ((with_reducible refine gate_builtin (b:=.append) (xs:=#[.tmp 20,.tmp 26]) rfl ?_);at_builtin;refine Kd.R_append (Kd.int .i64) w.heap.size rfl (.tmp 20) (.tmp 26) 22 2 (.int .i64 0) 8 rfl Tryd.underlying22 info2 rfl (by decide) (by omega) v570 t569 t580 [.int .i64 t580] (fun k_=>some k_ ≠ (.slice Ao21 y577.length co21:Value).ownBlock) (fun _=>False) rfl rfl ?aP (fun _ hk=>hk.elim) ?aF ?aO (kW _ _) ?aS ?aL ?_;(case aP=>exact rfl);(case aF=>exact (fun k_ hk=>jF (kH (zP HO579.out)) k_ hk));(case aO=>exact (by (with_reducible repeat (first | apply zF | apply zG | apply zH));exact kA HO571.out (fun _ hk=>hk.2)));(case aS=>exact (kX (w:=w) (g:=g) (row:=none) (yB HK.out GW564.out)));(case aL=>have:=LMc10.out;omega);intro v584 w23 ho hb hg hat;rw [← Ny583.out] at ho;replace BK564:=zA (blk_grown (g:=gb564) (o:=.cells #[.int .i64 a1_0,.slice A1_1 l1_1.length c1_1] 28 (0,0)) (zR BK564.out) hg (Kd.R_ne HO571.out BK564.out (by decide)));replace HO579:=zA (Kd.R_after (ok:=(fun _=>True)) (zP HO579.out) hg hat);replace HB:=zA (below_weaken (zV HB.out (Z82.ge HI0.out) GE564.out) HL.out hb);replace HI0:=zA (Z82.grown (Z82.uB HI0.out NB0_564.out) hg (Z82.own_ne HI0.out HO571.out (by decide)));replace HK:=zA (kT (yB HK.out GW564.out) (KeepBut.of_grown hg g) (Kd.R_base2 HO571.out));have HO585:=zA (ho);clear HO571;clear ho hb hg hat))
    go_ret
    exact ⟨_,zr,by (with_reducible repeat (first | apply zF | apply zG | apply zH));exact kA HO585.out (fun _ hk=>trivial),by repeat (first | (with_reducible first | exact HI0.out | apply Z82.alloc | apply Z82.drewN | apply Z82.drew | apply Z82.set_1 | apply Z82.set_2 | refine Z82.far ?_ NB0_564.out _) | exact HI0.out),zV HB.out (Z82.ge HI0.out) GE564.out,by repeat (first | (with_reducible first | exact HK.out | apply KeepBut.set_ | apply keep_drewN | apply keep_drew | apply keep_alloc | refine keep_far ?_ GW564.out _) | exact HK.out)⟩
   rw [if_neg c10] at H
   exact absurd H (by simp)
  rw [if_neg c8] at H
  obtain ⟨c8b0,c8b1⟩:=zT2 c8
  by_cases c24:t574 = 1
  ·rw [if_pos c24] at H
   obtain ⟨c24b0,c24b1⟩:=zT1 c24
   clear c24
   have H' := zA H
   clear H
   go_enter Tryd.func58,Tryd.ntmps58
   go_wp2_with (first | (refine zBE 4 #[.int .i64 a1_0,.slice A1_1 l1_1.length c1_1] 28 ?_;intro gb564 hg w25 hbox hb;replace HB:=zA (kQ (zT HB.out (Z82.ge HI0.out)) hb);have BK564:=zA (hbox);have GW564:=zA (zB6 hg (kX (w:=w) (g:=g) (row:=none) (yA HK.out)):w.heap.size ≤ gb564);have GE564:=zA ((Nat.le_trans HW0.out (by rw [hg];exact (kX (w:=w) (g:=g) (row:=none) (yA HK.out)):w.heap.size ≤ gb564):w0.heap.size ≤ gb564));replace HK:=zA (kT (yA HK.out) (kU hb g none) (.inl rfl));have NB0_564:=zA (zB7 hg (Z82.lt (show Z82 w0 _ g s0_0 s0_1 s0_2 from Z82.uA HI0.out)):g ≠ gb564);have NB564_0:=zA (zB8 hg (Z82.lt (show Z82 w0 _ g s0_0 s0_1 s0_2 from Z82.uA HI0.out)):gb564 ≠ g);replace HI0:=zA (Z82.below (Z82.uA HI0.out) hb);clear hb hbox hg;have hnb26:=NB564_0.out;have hnc26:=NB0_564.out;obtain ⟨hcz27_0,hcz27_1,hfz27_0,hfz27_1⟩:=zB3 BK564.out) | (refine zO (some 9) Tryd.func62 #[.agg #[.int .i64 a1_0,.slice A1_1 l1_1.length c1_1]] ?_;(with_reducible refine (spec_l02Is.calls k a1_0 _ _ l1_1 true _ ?side1 ?side2 A4.out).mono ?_);(case side1=>exact Kd.C_keep 0 HR1_1.out (yB HK.out GW564.out) hf1_1);(case side2=>exact HC1_1.out);rintro e w28 ⟨rfl,hb⟩;refine ⟨_,rfl,?_⟩;replace BK564:=zA (zB1 BK564.out hb);replace HK:=zA (kT (yB HK.out GW564.out) (kU hb g none) (.inl rfl));replace HB:=zA (kQ (zV HB.out (Z82.ge HI0.out) GE564.out) hb);replace HI0:=zA (Z82.below (Z82.uB HI0.out NB0_564.out) hb);(try clear hb);obtain ⟨hcz29_0,hcz29_1,hfz29_0,hfz29_1⟩:=zB3 BK564.out) | (refine zO (some 15) Tryd.func76 #[.pointer (some ⟨g,0,none⟩),.agg #[.int .i64 a1_0,.slice A1_1 l1_1.length c1_1],.int .i64 a2] ?_;(with_reducible refine (spec_l03Draw.calls k g s0_0 s0_1 s0_2 a1_0 _ _ l1_1 a2 t569 t572 t573 w0 _ ?side1 ?side2 ?side3 ?side4 ?side5 A6.out).mono ?_);(case side1=>exact Z82.uB HI0.out NB0_564.out);(case side2=>exact zV HB.out (Z82.ge HI0.out) GE564.out);(case side3=>exact Kd.C_keep 0 HR1_1.out (yB HK.out GW564.out) hf1_1);(case side4=>exact HC1_1.out);(case side5=>exact hf1_1);rintro e w30 ⟨v570,rfl,ho0,hi,hb,hk⟩;refine ⟨_,rfl,?_⟩;replace BK564:=zA (zB2 hk BK564.out NB564_0.out);have HO571:=zA (kI ho0 (kX (w:=w) (g:=g) (row:=none) (yB HK.out GW564.out)));replace HK:=zA (kT (yB HK.out GW564.out) hk (.inl rfl));replace HB:=zA (hb);replace HI0:=zA (hi);(try clear hb);(try clear hk);(try clear hi);(try clear ho0)) | (refine zO (some 17) Tryd.func56 #[.pointer (some ⟨g,0,none⟩),.int .i64 28] ?_;(with_reducible refine (spec_l01Next.calls g s0_0 t572 t573 28 t574 t575 t576 w0 _ ?side1 ?side2 A7.out).mono ?_);(case side1=>exact Z82.uB HI0.out NB0_564.out);(case side2=>exact zV HB.out (Z82.ge HI0.out) GE564.out);rintro e w31 ⟨rfl,hi,hb,hk⟩;refine ⟨_,rfl,?_⟩;replace BK564:=zA (zB2 hk BK564.out NB564_0.out);replace HO571:=zA (zB9 (Z82.apart (show Z82 w0 _ g s0_0 t572 t573 from Z82.uB HI0.out NB0_564.out) (zP HO571.out) (by decide)) hk);replace HK:=zA (kT (yB HK.out GW564.out) hk (.inl rfl));replace HB:=zA (hb);replace HI0:=zA (hi);(try clear hb);(try clear hk);(try clear hi)))
   go_loopg [7] k (fun kq v7 w' => ∃ (x7_1:List Int) (x1001_1:Int) (x1002_1:Int),Aside0 (spec_l03Spoil.l0 kq x7_1 s0_0 x1001_1 x1002_1 a1_0 l1_1 = some (r1,r2,r3)) ∧ Aside0 (kq ≤ k) ∧ Aside0 (Kd.R (Kd.int .i64) 2 w' w.heap.size (fun _=>True) v7 x7_1) ∧ Aside0 (w'.heap[gb564]? = some (.cells #[.int .i64 a1_0,(.slice A1_1 l1_1.length c1_1)] 28 (0,0))) ∧ Aside0 (Z82 w0 w' g s0_0 x1001_1 x1002_1) ∧ Aside0 (KeepBut w w' g none) ∧ Aside0 (Below w0.heap.size w0 w'))
   case atStart=>exact ⟨(t569),(t575),(t576),H', ⟨Nat.le_refl _⟩,⟨zP HO571.out⟩,⟨zR BK564.out⟩,⟨Z82.uB HI0.out NB0_564.out⟩,⟨yB HK.out GW564.out⟩,⟨zV HB.out (Z82.ge HI0.out) GE564.out⟩⟩
   case round =>
    clear H'
    try clear c1
    try clear c2
    try clear c5
    try clear c6
    try clear c7
    try clear c8
    try clear c10
    try clear c12
    try clear c24
    try clear c26
    try clear hcz13_0
    try clear hcz13_1
    try clear hcz15_0
    try clear hcz15_1
    try clear hcz18_0
    try clear hcz18_1
    try clear hcz27_0
    try clear hcz27_1
    try clear hcz29_0
    try clear hcz29_1
    try clear hfz13_0
    try clear hfz13_1
    try clear hfz15_0
    try clear hfz15_1
    try clear hfz18_0
    try clear hfz18_1
    try clear hfz27_0
    try clear hfz27_1
    try clear hfz29_0
    try clear hfz29_1
    obtain ⟨x7_1,x1001_1,x1002_1,HA,HK1,HO_7,BK564,HI0,HK,HB⟩:=hrel
    cases gk with
    | zero=>exact absurd HA.out (by simp [spec_l03Spoil.l0])
    | succ k1 =>
     have H:=HA.out
     clear HA
     simp only [spec_l03Spoil.l0] at H
     by_cases c32:a1_0 > 0
     ·rw [if_pos c32] at H
      have c32b0:decide (0 < a1_0) = true:=decide_eq_true c32
      clear c32
      by_cases c33:(x7_1.length:Int) < 25
      ·rw [if_pos c33] at H
       have c33b0:decide ((x7_1.length:Int) < 25) = true:=decide_eq_true c33
       have c33b1:decide (x7_1.length < 25) = true:=decide_eq_true (by omega)
       clear c33
       obtain ⟨⟨t586,t587,t588⟩,A34,H⟩:=zb H
       try dsimp only at H
       by_cases c35:x7_1.length < 17592186044416
       ·rw [if_pos c35] at H
        have LMc35:=zA c35
        clear c35
        obtain ⟨y589,hy589⟩:∃ y_:List Int,y_ = (x7_1 ++ [t586]):=⟨_,rfl⟩
        replace H:(spec_l03Spoil.l0 k1 y589 s0_0 t587 t588 a1_0 l1_1) = some (r1,r2,r3):=zy hy589 H
        have Ny589:=zA hy589
        clear hy589
        have H' := zA H
        clear H
        have hnb36:=NB564_0.out
        have hnc36:=NB0_564.out
        obtain ⟨hcz37_0,hcz37_1,hfz37_0,hfz37_1⟩:=zB3 BK564.out
        obtain ⟨Ao38,co38,eo38⟩:=kM HO_7.out
        subst eo38
        go_wp2_with (first | (refine zO (some 42) Tryd.func56 #[.pointer (some ⟨g,0,none⟩),.int .i64 a1_0] ?_;(with_reducible refine (spec_l01Next.calls g s0_0 x1001_1 x1002_1 a1_0 t586 t587 t588 w0 _ ?side1 ?side2 A34.out).mono ?_);(case side1=>exact Z82.uB HI0.out NB0_564.out);(case side2=>exact zV HB.out (Z82.ge HI0.out) GE564.out);rintro e w39 ⟨rfl,hi,hb,hk⟩;refine ⟨_,rfl,?_⟩;replace HO_7:=zA (zB9 (Z82.apart (show Z82 w0 _ g s0_0 x1001_1 x1002_1 from Z82.uB HI0.out NB0_564.out) (zP HO_7.out) (by decide)) hk);replace BK564:=zA (zB2 hk BK564.out NB564_0.out);replace HK:=zA (kT (yB HK.out GW564.out) hk (.inl rfl));replace HB:=zA (hb);replace HI0:=zA (hi);(try clear hb);(try clear hk);(try clear hi)) | ((with_reducible refine gate_builtin (b:=.append) (xs:=#[.tmp 38,.tmp 43]) rfl ?_);at_builtin;refine Kd.R_append (Kd.int .i64) w.heap.size rfl (.tmp 38) (.tmp 43) 22 2 (.int .i64 0) 8 rfl Tryd.underlying22 info2 rfl (by decide) (by omega) (.slice Ao38 x7_1.length co38) x7_1 t586 [.int .i64 t586] (fun _=>True) (fun _=>False) rfl rfl ?aP (fun _ hk=>hk.elim) ?aF ?aO (kW _ _) ?aS ?aL ?_;(case aP=>exact rfl);(case aF=>exact (fun _ _=>trivial));(case aO=>exact (zP HO_7.out));(case aS=>exact (kX (w:=w) (g:=g) (row:=none) (yB HK.out GW564.out)));(case aL=>have:=LMc35.out;omega);intro v590 w40 ho hb hg hat;rw [← Ny589.out] at ho;replace BK564:=zA (blk_grown (g:=gb564) (o:=.cells #[.int .i64 a1_0,.slice A1_1 l1_1.length c1_1] 28 (0,0)) (zR BK564.out) hg (Kd.R_ne HO_7.out BK564.out (by decide)));replace HB:=zA (below_weaken (zV HB.out (Z82.ge HI0.out) GE564.out) HL.out hb);replace HI0:=zA (Z82.grown (Z82.uB HI0.out NB0_564.out) hg (Z82.own_ne HI0.out HO_7.out (by decide)));replace HK:=zA (kT (yB HK.out GW564.out) (KeepBut.of_grown hg g) (Kd.R_base2 HO_7.out));have HO591:=zA (ho);clear HO_7;clear ho hb hg hat))
        go_roundg k1
        case measure=>have:=HK1.out;omega
        case rel=>exact ⟨(y589),(t587),(t588),H', ⟨by have:=HK1.out;omega⟩,⟨zP HO591.out⟩,⟨zR BK564.out⟩,⟨Z82.uB HI0.out NB0_564.out⟩,⟨yB HK.out GW564.out⟩,⟨zV HB.out (Z82.ge HI0.out) GE564.out⟩⟩
       rw [if_neg c35] at H
       exact absurd H (by simp)
      rw [if_neg c33] at H
      have c33b0:decide ((x7_1.length:Int) < 25) = false:=decide_eq_false c33
      have c33b1:decide (x7_1.length < 25) = false:=decide_eq_false (by omega)
      clear c33
      simp only [Option.some.injEq,Prod.mk.injEq] at H
      obtain ⟨rfl,rfl,rfl⟩:=H
      have hnb41:=NB564_0.out
      have hnc41:=NB0_564.out
      obtain ⟨hcz42_0,hcz42_1,hfz42_0,hfz42_1⟩:=zB3 BK564.out
      obtain ⟨Ao43,co43,eo43⟩:=kM HO_7.out
      subst eo43
      go_wp2
      go_ret
      exact ⟨_,zr,zP HO_7.out,by repeat (first | (with_reducible first | exact HI0.out | apply Z82.alloc | apply Z82.drewN | apply Z82.drew | apply Z82.set_1 | apply Z82.set_2 | refine Z82.far ?_ NB0_564.out _) | exact HI0.out),zV HB.out (Z82.ge HI0.out) GE564.out,by repeat (first | (with_reducible first | exact HK.out | apply KeepBut.set_ | apply keep_drewN | apply keep_drew | apply keep_alloc | refine keep_far ?_ GW564.out _) | exact HK.out)⟩
     rw [if_neg c32] at H
     have c32b0:decide (0 < a1_0) = false:=decide_eq_false c32
     clear c32
     simp only [Option.some.injEq,Prod.mk.injEq] at H
     obtain ⟨rfl,rfl,rfl⟩:=H
     have hnb44:=NB564_0.out
     have hnc44:=NB0_564.out
     obtain ⟨hcz45_0,hcz45_1,hfz45_0,hfz45_1⟩:=zB3 BK564.out
     go_wp2
     go_ret
     exact ⟨_,zr,zP HO_7.out,by repeat (first | (with_reducible first | exact HI0.out | apply Z82.alloc | apply Z82.drewN | apply Z82.drew | apply Z82.set_1 | apply Z82.set_2 | refine Z82.far ?_ NB0_564.out _) | exact HI0.out),zV HB.out (Z82.ge HI0.out) GE564.out,by repeat (first | (with_reducible first | exact HK.out | apply KeepBut.set_ | apply keep_drewN | apply keep_drew | apply keep_alloc | refine keep_far ?_ GW564.out _) | exact HK.out)⟩
  rw [if_neg c24] at H
  obtain ⟨c24b0,c24b1⟩:=zT2 c24
  simp only [Option.some.injEq,Prod.mk.injEq] at H
  obtain ⟨rfl,rfl,rfl⟩:=H
  go_enter Tryd.func58,Tryd.ntmps58
  go_wp2_with (first | (refine zBE 4 #[.int .i64 a1_0,.slice A1_1 l1_1.length c1_1] 28 ?_;intro gb564 hg w46 hbox hb;replace HB:=zA (kQ (zT HB.out (Z82.ge HI0.out)) hb);have BK564:=zA (hbox);have GW564:=zA (zB6 hg (kX (w:=w) (g:=g) (row:=none) (yA HK.out)):w.heap.size ≤ gb564);have GE564:=zA ((Nat.le_trans HW0.out (by rw [hg];exact (kX (w:=w) (g:=g) (row:=none) (yA HK.out)):w.heap.size ≤ gb564):w0.heap.size ≤ gb564));replace HK:=zA (kT (yA HK.out) (kU hb g none) (.inl rfl));have NB0_564:=zA (zB7 hg (Z82.lt (show Z82 w0 _ g s0_0 s0_1 s0_2 from Z82.uA HI0.out)):g ≠ gb564);have NB564_0:=zA (zB8 hg (Z82.lt (show Z82 w0 _ g s0_0 s0_1 s0_2 from Z82.uA HI0.out)):gb564 ≠ g);replace HI0:=zA (Z82.below (Z82.uA HI0.out) hb);clear hb hbox hg;have hnb47:=NB564_0.out;have hnc47:=NB0_564.out;obtain ⟨hcz48_0,hcz48_1,hfz48_0,hfz48_1⟩:=zB3 BK564.out) | (refine zO (some 9) Tryd.func62 #[.agg #[.int .i64 a1_0,.slice A1_1 l1_1.length c1_1]] ?_;(with_reducible refine (spec_l02Is.calls k a1_0 _ _ l1_1 true _ ?side1 ?side2 A4.out).mono ?_);(case side1=>exact Kd.C_keep 0 HR1_1.out (yB HK.out GW564.out) hf1_1);(case side2=>exact HC1_1.out);rintro e w49 ⟨rfl,hb⟩;refine ⟨_,rfl,?_⟩;replace BK564:=zA (zB1 BK564.out hb);replace HK:=zA (kT (yB HK.out GW564.out) (kU hb g none) (.inl rfl));replace HB:=zA (kQ (zV HB.out (Z82.ge HI0.out) GE564.out) hb);replace HI0:=zA (Z82.below (Z82.uB HI0.out NB0_564.out) hb);(try clear hb);obtain ⟨hcz50_0,hcz50_1,hfz50_0,hfz50_1⟩:=zB3 BK564.out) | (refine zO (some 15) Tryd.func76 #[.pointer (some ⟨g,0,none⟩),.agg #[.int .i64 a1_0,.slice A1_1 l1_1.length c1_1],.int .i64 a2] ?_;(with_reducible refine (spec_l03Draw.calls k g s0_0 s0_1 s0_2 a1_0 _ _ l1_1 a2 t569 t572 t573 w0 _ ?side1 ?side2 ?side3 ?side4 ?side5 A6.out).mono ?_);(case side1=>exact Z82.uB HI0.out NB0_564.out);(case side2=>exact zV HB.out (Z82.ge HI0.out) GE564.out);(case side3=>exact Kd.C_keep 0 HR1_1.out (yB HK.out GW564.out) hf1_1);(case side4=>exact HC1_1.out);(case side5=>exact hf1_1);rintro e w51 ⟨v570,rfl,ho0,hi,hb,hk⟩;refine ⟨_,rfl,?_⟩;replace BK564:=zA (zB2 hk BK564.out NB564_0.out);have HO571:=zA (kI ho0 (kX (w:=w) (g:=g) (row:=none) (yB HK.out GW564.out)));replace HK:=zA (kT (yB HK.out GW564.out) hk (.inl rfl));replace HB:=zA (hb);replace HI0:=zA (hi);(try clear hb);(try clear hk);(try clear hi);(try clear ho0)) | (refine zO (some 17) Tryd.func56 #[.pointer (some ⟨g,0,none⟩),.int .i64 28] ?_;(with_reducible refine (spec_l01Next.calls g s0_0 t572 t573 28 t574 t575 t576 w0 _ ?side1 ?side2 A7.out).mono ?_);(case side1=>exact Z82.uB HI0.out NB0_564.out);(case side2=>exact zV HB.out (Z82.ge HI0.out) GE564.out);rintro e w52 ⟨rfl,hi,hb,hk⟩;refine ⟨_,rfl,?_⟩;replace BK564:=zA (zB2 hk BK564.out NB564_0.out);replace HO571:=zA (zB9 (Z82.apart (show Z82 w0 _ g s0_0 t572 t573 from Z82.uB HI0.out NB0_564.out) (zP HO571.out) (by decide)) hk);replace HK:=zA (kT (yB HK.out GW564.out) hk (.inl rfl));replace HB:=zA (hb);replace HI0:=zA (hi);(try clear hb);(try clear hk);(try clear hi)))
  go_ret
  exact ⟨_,zr,zP HO571.out,by repeat (first | (with_reducible first | exact HI0.out | apply Z82.alloc | apply Z82.drewN | apply Z82.drew | apply Z82.set_1 | apply Z82.set_2 | refine Z82.far ?_ NB0_564.out _) | exact HI0.out),zV HB.out (Z82.ge HI0.out) GE564.out,by repeat (first | (with_reducible first | exact HK.out | apply KeepBut.set_ | apply keep_drewN | apply keep_drew | apply keep_alloc | refine keep_far ?_ GW564.out _) | exact HK.out)⟩
 replace c5:=Bool.eq_false_iff.mpr c5
 subst c5
 rw [if_neg (show ¬ (false = true) by decide)] at H
 obtain ⟨y566,hy566⟩:∃ y_:List Int,y_ = (([0,1,0]:List Int)):=⟨_,rfl⟩
 replace H:(some (y566,s0_1,s0_2)) = some (r1,r2,r3):=zy hy566 H
 have Ny566:=zA hy566
 clear hy566
 simp only [Option.some.injEq,Prod.mk.injEq] at H
 obtain ⟨rfl,rfl,rfl⟩:=H
 go_enter Tryd.func58,Tryd.ntmps58
 go_wp2_with (first | (refine zBE 4 #[.int .i64 a1_0,.slice A1_1 l1_1.length c1_1] 28 ?_;intro gb564 hg w53 hbox hb;replace HB:=zA (kQ (zT HB.out (Z82.ge HI0.out)) hb);have BK564:=zA (hbox);have GW564:=zA (zB6 hg (kX (w:=w) (g:=g) (row:=none) (yA HK.out)):w.heap.size ≤ gb564);have GE564:=zA ((Nat.le_trans HW0.out (by rw [hg];exact (kX (w:=w) (g:=g) (row:=none) (yA HK.out)):w.heap.size ≤ gb564):w0.heap.size ≤ gb564));replace HK:=zA (kT (yA HK.out) (kU hb g none) (.inl rfl));have NB0_564:=zA (zB7 hg (Z82.lt (show Z82 w0 _ g s0_0 s0_1 s0_2 from Z82.uA HI0.out)):g ≠ gb564);have NB564_0:=zA (zB8 hg (Z82.lt (show Z82 w0 _ g s0_0 s0_1 s0_2 from Z82.uA HI0.out)):gb564 ≠ g);replace HI0:=zA (Z82.below (Z82.uA HI0.out) hb);clear hb hbox hg;have hnb54:=NB564_0.out;have hnc54:=NB0_564.out;obtain ⟨hcz55_0,hcz55_1,hfz55_0,hfz55_1⟩:=zB3 BK564.out) | (refine zO (some 9) Tryd.func62 #[.agg #[.int .i64 a1_0,.slice A1_1 l1_1.length c1_1]] ?_;(with_reducible refine (spec_l02Is.calls k a1_0 _ _ l1_1 false _ ?side1 ?side2 A4.out).mono ?_);(case side1=>exact Kd.C_keep 0 HR1_1.out (yB HK.out GW564.out) hf1_1);(case side2=>exact HC1_1.out);rintro e w56 ⟨rfl,hb⟩;refine ⟨_,rfl,?_⟩;replace BK564:=zA (zB1 BK564.out hb);replace HK:=zA (kT (yB HK.out GW564.out) (kU hb g none) (.inl rfl));replace HB:=zA (kQ (zV HB.out (Z82.ge HI0.out) GE564.out) hb);replace HI0:=zA (Z82.below (Z82.uB HI0.out NB0_564.out) hb);(try clear hb)) | ((with_reducible refine kS (N:=11) rfl ?_);refine Kd.R_lit (Kd.int .i64) _ 2 ?hg (N:=11) ?hd (xs:=([0,1,0]:List Int)) (inner:=[.int .i64 0,.int .i64 1,.int .i64 0]) (ok:=fun _=>True) (okp:=fun _=>True) ?hr ?hp (fun _ hk=>hk) trivial (kW _ _) (Nat.le_refl _) (by simp) ?_;(case hd=>rfl);(case hg=>rfl);(case hr=>first | (go_simp;done) | (go_simp;rfl));(case hp=>exact (Reps.one (show Kd.M (Kd.int .i64) _ _ _ 0 [.int .i64 0] from rfl) (Reps.one (show Kd.M (Kd.int .i64) _ _ _ 1 [.int .i64 1] from rfl) (Reps.one (show Kd.M (Kd.int .i64) _ _ _ 0 [.int .i64 0] from rfl) (Reps.none _ _)))));intro v567 w57 ho58 hb hg_ hnew_;clear hg_ hnew_;(first | rw [← Ny566.out] at ho58 | (simp only [Int.reduceToNat] at ho58;rw [← Ny566.out] at ho58));have HO568:=zA (kI ho58 (kX (w:=w) (g:=g) (row:=none) (yB HK.out GW564.out)));replace BK564:=zA (zB1 BK564.out hb);replace HK:=zA (kT (yB HK.out GW564.out) (kU hb g none) (.inl rfl));replace HB:=zA (kQ (zV HB.out (Z82.ge HI0.out) GE564.out) hb);replace HI0:=zA (Z82.below (Z82.uB HI0.out NB0_564.out) hb);clear hb ho58))
 go_ret
 exact ⟨_,zr,zP HO568.out,by repeat (first | (with_reducible first | exact HI0.out | apply Z82.alloc | apply Z82.drewN | apply Z82.drew | apply Z82.set_1 | apply Z82.set_2 | refine Z82.far ?_ NB0_564.out _) | exact HI0.out),zV HB.out (Z82.ge HI0.out) GE564.out,by repeat (first | (with_reducible first | exact HK.out | apply KeepBut.set_ | apply keep_drewN | apply keep_drew | apply keep_alloc | refine keep_far ?_ GW564.out _) | exact HK.out)⟩
def spec_l03Pair.f (k:Nat) (l0:List Int) (a1:Int) (a2:Int):Option (List Int × Int × Int × Int × List Int × List Int):=(spec_l01From.f k l0).bind fun bt593=>((spec_l02Draw.f k bt593.1 bt593.2.1 bt593.2.2 a1).bind fun bt597=>((spec_l01Next.f bt593.1 bt597.2.2.1 bt597.2.2.2 24).bind fun bt604=>(if bt604.1 = 0 then ((spec_l02Spoil.f k bt593.1 bt604.2.1 bt604.2.2 a1).bind fun bt607=>((spec_l03Spoil.f k bt593.1 bt607.2.2.1 bt607.2.2.2 bt607.1 bt607.2.1 a2).bind fun bt613=>(some (bt593.1,bt613.2.1,bt613.2.2,bt607.1,bt607.2.1,bt613.1)))) else ((spec_l03Spoil.f k bt593.1 bt604.2.1 bt604.2.2 bt597.1 bt597.2.1 a2).bind fun bt618=>(some (bt593.1,bt618.2.1,bt618.2.2,bt597.1,bt597.2.1,bt618.1))))))
def spec_l03Pair.T5:Bool × List (List Nat × List Nat):=(true,[([],[]),([],[]),([],[]),([],[]),([],[]),([2,3,4],[2,3,4]),([0,5,0],[0]),([1,6,0,1,6],[1]),([5,7,0,1,2,3,4,5,6,7],[5])])
def spec_l03Pair.B5:List Nat:=[0,0,0,0,0,28,61,127,255]
theorem spec_l03Pair.tab5:rtab .any (opsOf Tryd.f37 5) = spec_l03Pair.T5:=by kernel_rfl
theorem spec_l03Pair.bits5:waitsOk spec_l03Pair.T5.2 spec_l03Pair.B5 = true:=by kernel_rfl
set_option maxHeartbeats 8000000 in
set_option maxRecDepth 100000 in
theorem spec_l03Pair.calls (k:Nat) (A0:Option Addr) (c0:Nat) (l0:List Int) (a1:Int) (a2:Int) (r1:List Int) (r2:Int) (r3:Int) (r4:Int) (r5:List Int) (r6:List Int) (w0 w:World) (hB:Below w0.heap.size w0 w) (hr0:Kd.C (Kd.int .u8) w0 A0 l0.length l0) (hc0:l0.length ≤ c0) (h:spec_l03Pair.f k l0 a1 a2 = some (r1,r2,r3,r4,r5,r6)) :
  Calls Tryd.prog 37 #[.slice A0 l0.length c0,.int .i64 a1,.int .i64 a2] w fun e w' => ∃ v1_ v2_:Value,∃ g_:Nat,e = .returned (.tuple #[.pointer (some ⟨g_,0,none⟩),.agg #[.int .i64 r4,v1_],v2_]) ∧ Kd.R (Kd.int .i64) 2 w' w.heap.size (fun k_=>some k_ ≠ (v2_:Value).ownBlock) v1_ r5 ∧ Kd.R (Kd.int .i64) 2 w' w.heap.size (fun k_=>some k_ ≠ (v1_:Value).ownBlock) v2_ r6 ∧ Z82 w0 w' g_ r1 r2 r3 ∧ Below w0.heap.size w0 w' ∧ Below w.heap.size w w' ∧ w.heap.size ≤ g_:=by
 have hu28:=Tryd.underlying28
 have HR0:=zA hr0
 have HC0:=zA hc0
 clear hr0 hc0
 have HBW:=zA (kW w.heap.size w)
 have HB00:=zA hB
 have HW0:=zA hB.size
 have HB:=zA hB
 clear hB
 have H:=h
 unfold spec_l03Pair.f at H
 clear h
 obtain ⟨⟨t593,t594,t595⟩,A4,H⟩:=zb H
 try dsimp only at H
 obtain ⟨⟨t597,t598,t601,t602⟩,A5,H⟩:=zb H
 try dsimp only at H
 obtain ⟨⟨t604,t605,t606⟩,A6,H⟩:=zb H
 try dsimp only at H
 by_cases c7:t604 = 0
 ·rw [if_pos c7] at H
  obtain ⟨c7b0,c7b1⟩:=zT1 c7
  clear c7
  obtain ⟨⟨t607,t608,t611,t612⟩,A8,H⟩:=zb H
  try dsimp only at H
  obtain ⟨⟨t613,t616,t617⟩,A9,H⟩:=zb H
  try dsimp only at H
  simp only [Option.some.injEq,Prod.mk.injEq] at H
  obtain ⟨rfl,rfl,rfl,rfl,rfl,rfl⟩:=H
  go_enter Tryd.func37,Tryd.ntmps37
  try go_wp2_with (first | (refine zBE 7 #[.int .i64 0,.slice none 0 0] 28 ?_;intro gb592 hg w10 hbox hb;replace HB:=zA (kQ (zQ HB.out) hb);have BK592:=zA (hbox);have GW592:=zA (zBH hg HBW.out);have GE592:=zA ((Nat.le_trans HW0.out (by rw [hg];exact (kP (zQ HBW.out)):w.heap.size ≤ gb592):w0.heap.size ≤ gb592));replace HBW:=zA (kQ HBW.out hb);clear hb hbox hg) | (refine zO (some 12) Tryd.func54 #[.slice A0 l0.length c0] ?_;(with_reducible refine (spec_l01From.calls k _ _ l0 t593 t594 t595 w0 _ ?side1 ?side2 ?side3 A4.out).mono ?_);(case side1=>exact zT HB.out GE592.out);(case side2=>exact HR0.out);(case side3=>exact HC0.out);rintro e w11 ⟨g596,rfl,hi,hb,hb2,hgw⟩;refine ⟨_,rfl,?_⟩;have GWS596:=zA ((Nat.le_trans (kP (zT HBW.out GW592.out)) hgw:w.heap.size ≤ g596));replace HBW:=zA (kQ (zT HBW.out GW592.out) hb2);replace HB:=zA (hb);have HI596:=zA (hi);have NB596_592:=zA (Z82.ne_blk hi (blk_below (g:=gb592) (o:=.cells #[.int .i64 0,.slice none 0 0] 28 (0,0)) (zR BK592.out) hb2) (by decide));have NB592_596:=zA (Ne.symm (Z82.ne_blk hi (blk_below (g:=gb592) (o:=.cells #[.int .i64 0,.slice none 0 0] 28 (0,0)) (zR BK592.out) hb2) (by decide)));replace BK592:=zA (zB1 BK592.out hb2);(try clear hb);(try clear hb2);(try clear hi);(try clear hgw)) | (refine zO (some 15) Tryd.func55 #[.pointer (some ⟨g596,0,none⟩),.int .i64 a1] ?_;(with_reducible refine (spec_l02Draw.calls k g596 t593 t594 t595 a1 t597 t598 t601 t602 w0 _ ?side1 ?side2 A5.out).mono ?_);(case side1=>exact Z82.uB HI596.out NB596_592.out);(case side2=>exact zV HB.out (Z82.ge HI596.out) GE592.out);rintro e w12 ⟨v599,rfl,ho0,hi,hb,hk⟩;refine ⟨_,rfl,?_⟩;replace BK592:=zA (zB2 hk BK592.out NB592_596.out);have HO600:=zA (kI ho0 (kP (zV HBW.out GWS596.out GW592.out)));replace HBW:=zA (Z82.below_keepW HB00.out (zV HBW.out GWS596.out GW592.out) hk hb GWS596.out);replace HB:=zA (hb);replace HI596:=zA (hi);(try clear hb);(try clear hk);(try clear hi);(try clear ho0)) | (refine zBE 10 #[.int .i64 0,.slice none 0 0] 28 ?_;intro gb603 hg w13 hbox hb;replace HO600:=zA (kL (zP HO600.out) hb);replace HB:=zA (kQ (zV HB.out (Z82.ge HI596.out) GE592.out) hb);have BK603:=zA (hbox);have GW603:=zA (zB6 hg (kP (zV HBW.out GWS596.out GW592.out)):w.heap.size ≤ gb603);have GE603:=zA ((Nat.le_trans HW0.out (by rw [hg];exact (kP (zV HBW.out GWS596.out GW592.out)):w.heap.size ≤ gb603):w0.heap.size ≤ gb603));replace HBW:=zA (kQ HBW.out hb);have NB592_603:=zA (zB4 hg BK592.out:gb592 ≠ gb603);have NB603_592:=zA (zB5 hg BK592.out:gb603 ≠ gb592);replace BK592:=zA (zB1 BK592.out hb);have NB596_603:=zA (zB7 hg (Z82.lt (show Z82 w0 _ g596 t593 t601 t602 from Z82.uB HI596.out NB596_592.out)):g596 ≠ gb603);have NB603_596:=zA (zB8 hg (Z82.lt (show Z82 w0 _ g596 t593 t601 t602 from Z82.uB HI596.out NB596_592.out)):gb603 ≠ g596);replace HI596:=zA (Z82.below (Z82.uB HI596.out NB596_592.out) hb);clear hb hbox hg;have hnb14:=NB603_592.out;have hnc14:=NB592_603.out;have hnb15:=NB603_596.out;have hnc15:=NB596_603.out;obtain ⟨hcz16_0,hcz16_1,hfz16_0,hfz16_1⟩:=zB3 BK603.out;obtain ⟨Ao17,co17,eo17⟩:=kM HO600.out;subst eo17) | (refine zO (some 17) Tryd.func56 #[.pointer (some ⟨g596,0,none⟩),.int .i64 24] ?_;(with_reducible refine (spec_l01Next.calls g596 t593 t601 t602 24 t604 t605 t606 w0 _ ?side1 ?side2 A6.out).mono ?_);(case side1=>exact Z82.uC HI596.out NB596_592.out NB596_603.out);(case side2=>exact zW HB.out (Z82.ge HI596.out) GE592.out GE603.out);rintro e w18 ⟨rfl,hi,hb,hk⟩;refine ⟨_,rfl,?_⟩;replace BK592:=zA (KeepBut.blk hk (g' := gb592) (o:=.cells #[.int .i64 0,.slice none 0 0] 28 (0,0)) (zBG BK592.out NB592_603.out NB592_603.out) NB592_596.out (by simp));replace HO600:=zA (kA (Kd.R_keep (Z82.apart (show Z82 w0 _ g596 t593 t601 t602 from Z82.uC HI596.out NB596_592.out NB596_603.out) (zP (zFG HO600.out BK603.out (.int .i64 t597) (.slice Ao17 t598.length co17))) (by decide)) hk (fun _ h=>h.2)) (fun _ h=>h.1));replace BK603:=zA (KeepBut.blk hk (g' := gb603) (o:=.cells #[.int .i64 t597,.slice Ao17 t598.length co17] 28 (0,0)) (zRP BK603.out) NB603_596.out (by simp));replace HBW:=zA (Z82.below_keepW HB00.out (zW HBW.out GWS596.out GW592.out GW603.out) hk hb GWS596.out);replace HB:=zA (hb);replace HI596:=zA (hi);(try clear hb);(try clear hk);(try clear hi)) | (refine zO (some 21) Tryd.func57 #[.pointer (some ⟨g596,0,none⟩),.int .i64 a1] ?_;(with_reducible refine (spec_l02Spoil.calls k g596 t593 t605 t606 a1 t607 t608 t611 t612 w0 _ ?side1 ?side2 A8.out).mono ?_);(case side1=>exact Z82.uC HI596.out NB596_592.out NB596_603.out);(case side2=>exact zW HB.out (Z82.ge HI596.out) GE592.out GE603.out);rintro e w19 ⟨v609,rfl,ho0,hi,hb,hk⟩;refine ⟨_,rfl,?_⟩;replace BK592:=zA (zB2 hk BK592.out NB592_596.out);replace BK603:=zA (zB2 hk BK603.out NB603_596.out);have HO610:=zA (kI (kF ho0 (kH (zP HO600.out))) (kP (zW HBW.out GWS596.out GW592.out GW603.out)));replace HO600:=zA (kA (Kd.R_told (Kd.R_oldK (Z82.apart (show Z82 w0 _ g596 t593 t605 t606 from Z82.uC HI596.out NB596_592.out NB596_603.out) (zP HO600.out) (by decide)) hk) (kC ho0)) (fun _ h_=>h_.1));replace HBW:=zA (Z82.below_keepW HB00.out (zW HBW.out GWS596.out GW592.out GW603.out) hk hb GWS596.out);replace HB:=zA (hb);replace HI596:=zA (hi);(try clear hb);(try clear hk);(try clear hi);(try clear ho0);obtain ⟨hcz20_0,hcz20_1,hfz20_0,hfz20_1⟩:=zB3 BK603.out;obtain ⟨Ao21,co21,eo21⟩:=kM HO610.out;subst eo21))
  have n0_:Aside0 (Kd.R (Kd.int .i64) 2 ((w19.setCell ⟨gb603,0,none⟩ (.int .i64 t607)).setCell ⟨gb603,1,none⟩ (.slice Ao21 t608.length co21)) w.heap.size (fun k_=>some k_ ≠ (.slice Ao21 t608.length co21:Value).ownBlock) (.slice Ao17 t598.length co17) t598):=⟨by (with_reducible repeat (first | apply zF | apply zG | apply zH));exact kA (kY (p:=⟨gb603,1,none⟩) (kY (p:=⟨gb603,0,none⟩) (kD HO600.out BK603.out (by decide)) (fun _ hk=>hk.2) (.int .i64 t607)) (fun _ hk=>hk.2) (.slice Ao21 t608.length co21)) (fun _ hk=>hk.1.2)⟩
  have n1_:Aside0 (Kd.R (Kd.int .i64) 2 ((w19.setCell ⟨gb603,0,none⟩ (.int .i64 t607)).setCell ⟨gb603,1,none⟩ (.slice Ao21 t608.length co21)) w.heap.size (fun k_=>some k_ ≠ (.slice Ao17 t598.length co17:Value).ownBlock) (.slice Ao21 t608.length co21) t608):=⟨by (with_reducible repeat (first | apply zF | apply zG | apply zH));exact kA (kY (p:=⟨gb603,1,none⟩) (kY (p:=⟨gb603,0,none⟩) (kD HO610.out BK603.out (by decide)) (fun _ hk=>hk.2) (.int .i64 t607)) (fun _ hk=>hk.2) (.slice Ao21 t608.length co21)) (fun _ hk=>hk.1.2)⟩
  have n2_:Aside0 (((w19.setCell ⟨gb603,0,none⟩ (.int .i64 t607)).setCell ⟨gb603,1,none⟩ (.slice Ao21 t608.length co21)).heap[gb592]? = some (.cells #[.int .i64 0,.slice none 0 0] 28 (0,0))):=⟨by (with_reducible repeat (first | refine zJ ?_ _ | refine zK ?_ | refine zI ?_ _));refine blk_far ?_ NB592_603.out _;(with_reducible repeat (first | refine zJ ?_ _ | refine zK ?_ | refine zI ?_ _));refine blk_far ?_ NB592_603.out _;(with_reducible repeat (first | refine zJ ?_ _ | refine zK ?_ | refine zI ?_ _));exact BK592.out⟩
  have n3_:Aside0 (((w19.setCell ⟨gb603,0,none⟩ (.int .i64 t607)).setCell ⟨gb603,1,none⟩ (.slice Ao21 t608.length co21)).heap[gb603]? = some (.cells #[.int .i64 t607,.slice Ao21 t608.length co21] 28 (0,0))):=⟨by (with_reducible repeat (first | refine zJ ?_ _ | refine zK ?_ | refine zI ?_ _));refine blk_put (cs:=#[.int .i64 t607,.slice Ao17 t598.length co17]) ?_ 1 _ rfl;(with_reducible repeat (first | refine zJ ?_ _ | refine zK ?_ | refine zI ?_ _));refine blk_put (cs:=#[.int .i64 t597,.slice Ao17 t598.length co17]) ?_ 0 _ rfl;(with_reducible repeat (first | refine zJ ?_ _ | refine zK ?_ | refine zI ?_ _));exact BK603.out⟩
  have n4_:Aside0 (Z82 w0 ((w19.setCell ⟨gb603,0,none⟩ (.int .i64 t607)).setCell ⟨gb603,1,none⟩ (.slice Ao21 t608.length co21)) g596 t593 t611 t612):=⟨Z82.uC HI596.out NB596_592.out NB596_603.out⟩
  have n5_:Aside0 (Below w0.heap.size w0 ((w19.setCell ⟨gb603,0,none⟩ (.int .i64 t607)).setCell ⟨gb603,1,none⟩ (.slice Ao21 t608.length co21))):=⟨zW HB.out (Z82.ge HI596.out) GE592.out GE603.out⟩
  have n5w_:Aside0 (Below w.heap.size w ((w19.setCell ⟨gb603,0,none⟩ (.int .i64 t607)).setCell ⟨gb603,1,none⟩ (.slice Ao21 t608.length co21))):=⟨zW HBW.out GWS596.out GW592.out GW603.out⟩
  (try clear HO600)
  (try clear HO610)
  (try clear BK592)
  (try clear BK603)
  (try clear HI596)
  (try clear HB HBW)
  generalize ((w19.setCell ⟨gb603,0,none⟩ (.int .i64 t607)).setCell ⟨gb603,1,none⟩ (.slice Ao21 t608.length co21)) = w22 at n0_ n1_ n2_ n3_ n4_ n5_ n5w_ ⊢
  have HO600:=n0_
  have HO610:=n1_
  have BK592:=n2_
  have BK603:=n3_
  have HI596:=n4_
  have HB:=n5_
  have HBW:=n5w_
  clear n0_ n1_ n2_ n3_ n4_ n5_
  have n0_:=zA (zH HO600.out)
  have n1_:=zA (zH HO610.out)
  have n2_:=zA (zK BK592.out)
  have n3_:=zA (zK BK603.out)
  have n4_:=zA (Z82.drew HI596.out)
  have n5_:=zA (zD HB.out)
  have n5w_:=zA (zD HBW.out)
  clear HO600 HO610 BK592 BK603 HI596 HB HBW
  have HO600:=n0_
  have HO610:=n1_
  have BK592:=n2_
  have BK603:=n3_
  have HI596:=n4_
  have HB:=n5_
  have HBW:=n5w_
  clear n0_ n1_ n2_ n3_ n4_ n5_
  refine start_ (n:=9) (S:=fun w' => w'.cell? ⟨gb603,0,none⟩ = some (.int .i64 t607) ∧ w'.cell? ⟨gb603,1,none⟩ = some (.slice Ao21 t608.length co21)) (ds:=[]) #[false,false,false,false,false,false,false,false,false] (by kernel_rfl) rfl rfl ⟨(kV BK603.out 0).trans rfl,(kV BK603.out 1).trans rfl⟩ (fun hHeld=>?_);refine with_tabW spec_l03Pair.tab5 spec_l03Pair.bits5 (fun HT_ HW_=>?_)
  generalize w22.drew = w23 at HO600 HO610 BK592 BK603 HI596 HB HBW hHeld ⊢
  refine zp 0 (some 22) #[true,false,false,false,false,false,false,false,false] HT_.out ?_
  refine zp 2 (some 24) #[true,false,true,false,false,false,false,false,false] HT_.out ?_
  refine zp 4 (some 26) #[true,false,true,false,true,false,false,false,false] HT_.out ?_
  refine zc 1 (some 23) #[true,true,true,false,true,false,false,false,false] HT_.out HW_.out hHeld ?_
  refine zc 3 (some 25) #[true,true,true,true,true,false,false,false,false] HT_.out HW_.out hHeld ?_
  refine one_ (i:=5) (N:=some 27) #[true,true,true,true,true,true,false,false,false] rfl rfl (one_of HT_.out (by kernel_rfl)) (by decide) (fun K hK=>?_)
  refine goes_ Tryd.func58 (by kernel_rfl) rfl #[.pointer (some ⟨g596,0,none⟩),.agg #[.int .i64 t607,.slice Ao21 t608.length co21],.int .i64 a2] (by rfl) rfl rfl zg ?_
  with_reducible refine (spec_l03Spoil.calls k g596 t593 t611 t612 t607 _ _ t608 a2 t613 t616 t617 w0 _ ?side1 ?side2 ?side3 ?side4 ?side5 A9.out).mono ?_
  (case side1=>exact Z82.uC HI596.out NB596_592.out NB596_603.out)
  (case side2=>exact zW HB.out (Z82.ge HI596.out) GE592.out GE603.out)
  (case side3=>exact zS (kB HO610.out).2.2)
  (case side4=>exact (kB HO610.out).2.1)
  (case side5=>exact jJ (Z82.own_ne HI596.out HO610.out (by decide)))
  rintro e w24 ⟨v614,rfl,ho0,hi,hb,hk⟩
  refine ⟨_,rfl,?_⟩
  replace BK592:=zA (zB2 hk BK592.out NB592_596.out)
  replace BK603:=zA (zB2 hk BK603.out NB603_596.out)
  have HO615:=zA (kI (kF (kF ho0 (kH (zP HO600.out))) (kH (zP HO610.out))) (kP (zW HBW.out GWS596.out GW592.out GW603.out)))
  replace HO600:=zA (kA (Kd.R_told (Kd.R_oldK (Z82.apart (show Z82 w0 _ g596 t593 t611 t612 from Z82.uC HI596.out NB596_592.out NB596_603.out) (zP HO600.out) (by decide)) hk) (kC ho0)) (fun _ h_=>h_.1))
  replace HO610:=zA (kA (Kd.R_told (Kd.R_oldK (Z82.apart (show Z82 w0 _ g596 t593 t611 t612 from Z82.uC HI596.out NB596_592.out NB596_603.out) (zP HO610.out) (by decide)) hk) (kC ho0)) (fun _ h_=>h_.1))
  replace HBW:=zA (Z82.below_keepW HB00.out (zW HBW.out GWS596.out GW592.out GW603.out) hk hb GWS596.out)
  replace HB:=zA (hb)
  replace HI596:=zA (hi)
  (try clear hb)
  (try clear hb2)
  (try clear hk)
  (try clear hi)
  (try clear hgw)
  (try clear ho0)
  refine hK.out _ _ ⟨(kV BK603.out 0).trans rfl,(kV BK603.out 1).trans rfl⟩ (fun hHeld=>?_)
  clear hK K
  refine norm_ (a' := ?_) ?_ ?_
  rotate_left
  ·show Act.put _ (some 27) _ = _
   simp only [Act.put,zL,zM,zN,i64_w,i32_w]
   rfl
  refine zp 6 (some 6) #[true,true,true,true,true,true,true,false,false] HT_.out ?_
  refine one_ (i:=7) (N:=none) #[true,true,true,true,true,true,true,true,false] rfl rfl (one_of HT_.out (by kernel_rfl)) (by decide) (fun K hK=>?_)
  have hs25:w24.cell? ⟨gb592,0,none⟩ = some (.int .i64 0):=(kV BK592.out 0).trans rfl
  have hfs25:=jH BK592.out 0
  have hns25_1:=NB603_592.out
  have hms25_1:=NB592_603.out
  have hs26:w24.cell? ⟨gb592,1,none⟩ = some (.slice none 0 0):=(kV BK592.out 1).trans rfl
  have hfs26:=jH BK592.out 1
  have hns26_1:=NB603_592.out
  have hms26_1:=NB592_603.out
  refine skip_ (w1:=?_) (by rfl) rfl ?_ ?_
  rotate_left
  ·go_simp
   rfl
  refine hK.out _ _ ⟨((cell_far (p:=⟨gb592,_,none⟩) NB603_592.out _).trans (((cell_far (p:=⟨gb592,_,none⟩) NB603_592.out _).trans (hHeld.1)))),((cell_far (p:=⟨gb592,_,none⟩) NB603_592.out _).trans (((cell_far (p:=⟨gb592,_,none⟩) NB603_592.out _).trans (hHeld.2))))⟩ (fun hHeld=>?_)
  clear hK K
  refine zp 8 (some 8) #[true,true,true,true,true,true,true,true,true] HT_.out ?_
  refine done_ (done_of HT_.out (by kernel_rfl)) ?_
  try go_wp2
  refine bodyPost_ret (results_list (rs:=[.tmp 6,.cell 7 28,.tmp 8]) rfl (by simp) (.tmp (.cell gb592 28 #[.int .i64 t607,.slice Ao21 t608.length co21] (0,0) _ rfl (zRP BK592.out) Tryd.underlying28 rfl (by kernel_rfl) (.tmp .nil)))) rfl ?_
  exact ⟨_,_,_,zr,by (with_reducible repeat (first | apply zF | apply zG | apply zH));exact kA (kY (p:=⟨gb592,1,none⟩) (kY (p:=⟨gb592,0,none⟩) (kD HO610.out BK592.out (by decide)) (fun _ hk=>hk.2) (.int .i64 t607)) (fun _ hk=>hk.2) (.slice Ao21 t608.length co21)) (fun _ hk=>hk.1.2),by (with_reducible repeat (first | apply zF | apply zG | apply zH));exact kA (kY (p:=⟨gb592,1,none⟩) (kY (p:=⟨gb592,0,none⟩) (kD HO615.out BK592.out (by decide)) (fun _ hk=>hk.2) (.int .i64 t607)) (fun _ hk=>hk.2) (.slice Ao21 t608.length co21)) (fun _ hk=>hk.1.2),(show Z82 w0 _ g596 t593 t616 t617 from Z82.uC HI596.out NB596_592.out NB596_603.out),zW HB.out (Z82.ge HI596.out) GE592.out GE603.out,zW HBW.out GWS596.out GW592.out GW603.out,GWS596.out⟩
 rw [if_neg c7] at H
 obtain ⟨c7b0,c7b1⟩:=zT2 c7
 obtain ⟨⟨t618,t621,t622⟩,A27,H⟩:=zb H
 try dsimp only at H
 simp only [Option.some.injEq,Prod.mk.injEq] at H
 obtain ⟨rfl,rfl,rfl,rfl,rfl,rfl⟩:=H
 go_enter Tryd.func37,Tryd.ntmps37
 try go_wp2_with (first | (refine zBE 7 #[.int .i64 0,.slice none 0 0] 28 ?_;intro gb592 hg w28 hbox hb;replace HB:=zA (kQ (zQ HB.out) hb);have BK592:=zA (hbox);have GW592:=zA (zBH hg HBW.out);have GE592:=zA ((Nat.le_trans HW0.out (by rw [hg];exact (kP (zQ HBW.out)):w.heap.size ≤ gb592):w0.heap.size ≤ gb592));replace HBW:=zA (kQ HBW.out hb);clear hb hbox hg) | (refine zO (some 12) Tryd.func54 #[.slice A0 l0.length c0] ?_;(with_reducible refine (spec_l01From.calls k _ _ l0 t593 t594 t595 w0 _ ?side1 ?side2 ?side3 A4.out).mono ?_);(case side1=>exact zT HB.out GE592.out);(case side2=>exact HR0.out);(case side3=>exact HC0.out);rintro e w29 ⟨g596,rfl,hi,hb,hb2,hgw⟩;refine ⟨_,rfl,?_⟩;have GWS596:=zA ((Nat.le_trans (kP (zT HBW.out GW592.out)) hgw:w.heap.size ≤ g596));replace HBW:=zA (kQ (zT HBW.out GW592.out) hb2);replace HB:=zA (hb);have HI596:=zA (hi);have NB596_592:=zA (Z82.ne_blk hi (blk_below (g:=gb592) (o:=.cells #[.int .i64 0,.slice none 0 0] 28 (0,0)) (zR BK592.out) hb2) (by decide));have NB592_596:=zA (Ne.symm (Z82.ne_blk hi (blk_below (g:=gb592) (o:=.cells #[.int .i64 0,.slice none 0 0] 28 (0,0)) (zR BK592.out) hb2) (by decide)));replace BK592:=zA (zB1 BK592.out hb2);(try clear hb);(try clear hb2);(try clear hi);(try clear hgw)) | (refine zO (some 15) Tryd.func55 #[.pointer (some ⟨g596,0,none⟩),.int .i64 a1] ?_;(with_reducible refine (spec_l02Draw.calls k g596 t593 t594 t595 a1 t597 t598 t601 t602 w0 _ ?side1 ?side2 A5.out).mono ?_);(case side1=>exact Z82.uB HI596.out NB596_592.out);(case side2=>exact zV HB.out (Z82.ge HI596.out) GE592.out);rintro e w30 ⟨v599,rfl,ho0,hi,hb,hk⟩;refine ⟨_,rfl,?_⟩;replace BK592:=zA (zB2 hk BK592.out NB592_596.out);have HO600:=zA (kI ho0 (kP (zV HBW.out GWS596.out GW592.out)));replace HBW:=zA (Z82.below_keepW HB00.out (zV HBW.out GWS596.out GW592.out) hk hb GWS596.out);replace HB:=zA (hb);replace HI596:=zA (hi);(try clear hb);(try clear hk);(try clear hi);(try clear ho0)) | (refine zBE 10 #[.int .i64 0,.slice none 0 0] 28 ?_;intro gb603 hg w31 hbox hb;replace HO600:=zA (kL (zP HO600.out) hb);replace HB:=zA (kQ (zV HB.out (Z82.ge HI596.out) GE592.out) hb);have BK603:=zA (hbox);have GW603:=zA (zB6 hg (kP (zV HBW.out GWS596.out GW592.out)):w.heap.size ≤ gb603);have GE603:=zA ((Nat.le_trans HW0.out (by rw [hg];exact (kP (zV HBW.out GWS596.out GW592.out)):w.heap.size ≤ gb603):w0.heap.size ≤ gb603));replace HBW:=zA (kQ HBW.out hb);have NB592_603:=zA (zB4 hg BK592.out:gb592 ≠ gb603);have NB603_592:=zA (zB5 hg BK592.out:gb603 ≠ gb592);replace BK592:=zA (zB1 BK592.out hb);have NB596_603:=zA (zB7 hg (Z82.lt (show Z82 w0 _ g596 t593 t601 t602 from Z82.uB HI596.out NB596_592.out)):g596 ≠ gb603);have NB603_596:=zA (zB8 hg (Z82.lt (show Z82 w0 _ g596 t593 t601 t602 from Z82.uB HI596.out NB596_592.out)):gb603 ≠ g596);replace HI596:=zA (Z82.below (Z82.uB HI596.out NB596_592.out) hb);clear hb hbox hg;have hnb32:=NB603_592.out;have hnc32:=NB592_603.out;have hnb33:=NB603_596.out;have hnc33:=NB596_603.out;obtain ⟨hcz34_0,hcz34_1,hfz34_0,hfz34_1⟩:=zB3 BK603.out;obtain ⟨Ao35,co35,eo35⟩:=kM HO600.out;subst eo35) | (refine zO (some 17) Tryd.func56 #[.pointer (some ⟨g596,0,none⟩),.int .i64 24] ?_;(with_reducible refine (spec_l01Next.calls g596 t593 t601 t602 24 t604 t605 t606 w0 _ ?side1 ?side2 A6.out).mono ?_);(case side1=>exact Z82.uC HI596.out NB596_592.out NB596_603.out);(case side2=>exact zW HB.out (Z82.ge HI596.out) GE592.out GE603.out);rintro e w36 ⟨rfl,hi,hb,hk⟩;refine ⟨_,rfl,?_⟩;replace BK592:=zA (KeepBut.blk hk (g' := gb592) (o:=.cells #[.int .i64 0,.slice none 0 0] 28 (0,0)) (zBG BK592.out NB592_603.out NB592_603.out) NB592_596.out (by simp));replace HO600:=zA (kA (Kd.R_keep (Z82.apart (show Z82 w0 _ g596 t593 t601 t602 from Z82.uC HI596.out NB596_592.out NB596_603.out) (zP (zFG HO600.out BK603.out (.int .i64 t597) (.slice Ao35 t598.length co35))) (by decide)) hk (fun _ h=>h.2)) (fun _ h=>h.1));replace BK603:=zA (KeepBut.blk hk (g' := gb603) (o:=.cells #[.int .i64 t597,.slice Ao35 t598.length co35] 28 (0,0)) (zRP BK603.out) NB603_596.out (by simp));replace HBW:=zA (Z82.below_keepW HB00.out (zW HBW.out GWS596.out GW592.out GW603.out) hk hb GWS596.out);replace HB:=zA (hb);replace HI596:=zA (hi);(try clear hb);(try clear hk);(try clear hi)))
 have n0_:=zA (zH HO600.out)
 have n1_:=zA (zK BK592.out)
 have n2_:=zA (zK BK603.out)
 have n3_:=zA (Z82.drew HI596.out)
 have n4_:=zA (zD HB.out)
 have n4w_:=zA (zD HBW.out)
 clear HO600 BK592 BK603 HI596 HB HBW
 have HO600:=n0_
 have BK592:=n1_
 have BK603:=n2_
 have HI596:=n3_
 have HB:=n4_
 have HBW:=n4w_
 clear n0_ n1_ n2_ n3_ n4_
 refine start_ (n:=9) (S:=fun w' => w'.cell? ⟨gb603,0,none⟩ = some (.int .i64 t597) ∧ w'.cell? ⟨gb603,1,none⟩ = some (.slice Ao35 t598.length co35)) (ds:=[]) #[false,false,false,false,false,false,false,false,false] (by kernel_rfl) rfl rfl ⟨(kV BK603.out 0).trans rfl,(kV BK603.out 1).trans rfl⟩ (fun hHeld=>?_);refine with_tabW spec_l03Pair.tab5 spec_l03Pair.bits5 (fun HT_ HW_=>?_)
 generalize w36.drew = w37 at HO600 BK592 BK603 HI596 HB HBW hHeld ⊢
 refine zp 0 (some 22) #[true,false,false,false,false,false,false,false,false] HT_.out ?_
 refine zp 2 (some 24) #[true,false,true,false,false,false,false,false,false] HT_.out ?_
 refine zp 4 (some 26) #[true,false,true,false,true,false,false,false,false] HT_.out ?_
 refine zc 1 (some 23) #[true,true,true,false,true,false,false,false,false] HT_.out HW_.out hHeld ?_
 refine zc 3 (some 25) #[true,true,true,true,true,false,false,false,false] HT_.out HW_.out hHeld ?_
 refine one_ (i:=5) (N:=some 27) #[true,true,true,true,true,true,false,false,false] rfl rfl (one_of HT_.out (by kernel_rfl)) (by decide) (fun K hK=>?_)
 refine goes_ Tryd.func58 (by kernel_rfl) rfl #[.pointer (some ⟨g596,0,none⟩),.agg #[.int .i64 t597,.slice Ao35 t598.length co35],.int .i64 a2] (by rfl) rfl rfl zg ?_
 with_reducible refine (spec_l03Spoil.calls k g596 t593 t605 t606 t597 _ _ t598 a2 t618 t621 t622 w0 _ ?side1 ?side2 ?side3 ?side4 ?side5 A27.out).mono ?_
 (case side1=>exact Z82.uC HI596.out NB596_592.out NB596_603.out)
 (case side2=>exact zW HB.out (Z82.ge HI596.out) GE592.out GE603.out)
 (case side3=>exact zS (kB HO600.out).2.2)
 (case side4=>exact (kB HO600.out).2.1)
 (case side5=>exact jJ (Z82.own_ne HI596.out HO600.out (by decide)))
 rintro e w38 ⟨v619,rfl,ho0,hi,hb,hk⟩
 refine ⟨_,rfl,?_⟩
 replace BK592:=zA (zB2 hk BK592.out NB592_596.out)
 replace BK603:=zA (zB2 hk BK603.out NB603_596.out)
 have HO620:=zA (kI (kF ho0 (kH (zP HO600.out))) (kP (zW HBW.out GWS596.out GW592.out GW603.out)))
 replace HO600:=zA (kA (Kd.R_told (Kd.R_oldK (Z82.apart (show Z82 w0 _ g596 t593 t605 t606 from Z82.uC HI596.out NB596_592.out NB596_603.out) (zP HO600.out) (by decide)) hk) (kC ho0)) (fun _ h_=>h_.1))
 replace HBW:=zA (Z82.below_keepW HB00.out (zW HBW.out GWS596.out GW592.out GW603.out) hk hb GWS596.out)
 replace HB:=zA (hb)
 replace HI596:=zA (hi)
 (try clear hb)
 (try clear hb2)
 (try clear hk)
 (try clear hi)
 (try clear hgw)
 (try clear ho0)
 refine hK.out _ _ ⟨(kV BK603.out 0).trans rfl,(kV BK603.out 1).trans rfl⟩ (fun hHeld=>?_)
 clear hK K
 refine norm_ (a' := ?_) ?_ ?_
 rotate_left
 ·show Act.put _ (some 27) _ = _
  simp only [Act.put,zL,zM,zN,i64_w,i32_w]
  rfl
 refine zp 6 (some 6) #[true,true,true,true,true,true,true,false,false] HT_.out ?_
 refine one_ (i:=7) (N:=none) #[true,true,true,true,true,true,true,true,false] rfl rfl (one_of HT_.out (by kernel_rfl)) (by decide) (fun K hK=>?_)
 have hs39:w38.cell? ⟨gb592,0,none⟩ = some (.int .i64 0):=(kV BK592.out 0).trans rfl
 have hfs39:=jH BK592.out 0
 have hns39_1:=NB603_592.out
 have hms39_1:=NB592_603.out
 have hs40:w38.cell? ⟨gb592,1,none⟩ = some (.slice none 0 0):=(kV BK592.out 1).trans rfl
 have hfs40:=jH BK592.out 1
 have hns40_1:=NB603_592.out
 have hms40_1:=NB592_603.out
 refine skip_ (w1:=?_) (by rfl) rfl ?_ ?_
 rotate_left
 ·go_simp
  rfl
 refine hK.out _ _ ⟨((cell_far (p:=⟨gb592,_,none⟩) NB603_592.out _).trans (((cell_far (p:=⟨gb592,_,none⟩) NB603_592.out _).trans (hHeld.1)))),((cell_far (p:=⟨gb592,_,none⟩) NB603_592.out _).trans (((cell_far (p:=⟨gb592,_,none⟩) NB603_592.out _).trans (hHeld.2))))⟩ (fun hHeld=>?_)
 clear hK K
 refine zp 8 (some 8) #[true,true,true,true,true,true,true,true,true] HT_.out ?_
 refine done_ (done_of HT_.out (by kernel_rfl)) ?_
 try go_wp2
 refine bodyPost_ret (results_list (rs:=[.tmp 6,.cell 7 28,.tmp 8]) rfl (by simp) (.tmp (.cell gb592 28 #[.int .i64 t597,.slice Ao35 t598.length co35] (0,0) _ rfl (zRP BK592.out) Tryd.underlying28 rfl (by kernel_rfl) (.tmp .nil)))) rfl ?_
 exact ⟨_,_,_,zr,by (with_reducible repeat (first | apply zF | apply zG | apply zH));exact kA (kY (p:=⟨gb592,1,none⟩) (kY (p:=⟨gb592,0,none⟩) (kD HO600.out BK592.out (by decide)) (fun _ hk=>hk.2) (.int .i64 t597)) (fun _ hk=>hk.2) (.slice Ao35 t598.length co35)) (fun _ hk=>hk.1.2),by (with_reducible repeat (first | apply zF | apply zG | apply zH));exact kA (kY (p:=⟨gb592,1,none⟩) (kY (p:=⟨gb592,0,none⟩) (kD HO620.out BK592.out (by decide)) (fun _ hk=>hk.2) (.int .i64 t597)) (fun _ hk=>hk.2) (.slice Ao35 t598.length co35)) (fun _ hk=>hk.1.2),(show Z82 w0 _ g596 t593 t621 t622 from Z82.uC HI596.out NB596_592.out NB596_603.out),zW HB.out (Z82.ge HI596.out) GE592.out GE603.out,zW HBW.out GWS596.out GW592.out GW603.out,GWS596.out⟩
def spec_DrawLongestChain.f (k:Nat) (l0:List Int):Option (Int × List Int × List Int):=(spec_l03Pair.f k l0 8 24).bind fun bt624=>(some (bt624.2.2.2.1,bt624.2.2.2.2.1,bt624.2.2.2.2.2))
set_option maxHeartbeats 8000000 in
set_option maxRecDepth 100000 in
theorem spec_DrawLongestChain.calls (k:Nat) (A0:Option Addr) (c0:Nat) (l0:List Int) (r1:Int) (r2:List Int) (r3:List Int) (w:World) (hr0:Kd.C (Kd.int .u8) w A0 l0.length l0) (hc0:l0.length ≤ c0) (h:spec_DrawLongestChain.f k l0 = some (r1,r2,r3)) :
  Calls Tryd.prog 16 #[.slice A0 l0.length c0] w fun e w' => ∃ v1_ v2_:Value,e = .returned (.tuple #[.agg #[.int .i64 r1,v1_],v2_]) ∧ Kd.R (Kd.int .i64) 2 w' w.heap.size (fun k_=>some k_ ≠ (v2_:Value).ownBlock) v1_ r2 ∧ Kd.R (Kd.int .i64) 2 w' w.heap.size (fun k_=>some k_ ≠ (v1_:Value).ownBlock) v2_ r3 ∧ Below w.heap.size w w' := by
 have hu28:=Tryd.underlying28
 have HR0:=zA hr0
 have HC0:=zA hc0
 clear hr0 hc0
 have HB:=zA (kW w.heap.size w)
 have H:=h
 unfold spec_DrawLongestChain.f at H
 clear h
 obtain ⟨⟨t624,t625,t626,t628,t629,t632⟩,A2,H⟩:=zb H
 try dsimp only at H
 simp only [Option.some.injEq,Prod.mk.injEq] at H
 obtain ⟨rfl,rfl,rfl⟩:=H
 go_enter Tryd.func16,Tryd.ntmps16
 go_wp2_with (first | (refine zBE 2 #[.int .i64 0,.slice none 0 0] 28 ?_;intro gb623 hg w3 hbox hb;have BK623:=zA (hbox);have GW623:=zA (zBH hg HB.out);have GE623:=zA (zBH hg HB.out);replace HB:=zA (kQ (zQ HB.out) hb);clear hb hbox hg) | (refine zO (some 9) Tryd.func37 #[.slice A0 l0.length c0,.int .i64 8,.int .i64 24] ?_;(with_reducible refine (spec_l03Pair.calls k _ _ l0 8 24 t624 t625 t626 t628 t629 t632 w _ ?side1 ?side2 ?side3 A2.out).mono ?_);(case side1=>exact zT HB.out GE623.out);(case side2=>exact HR0.out);(case side3=>exact HC0.out);rintro e w4 ⟨v630,v633,g627,rfl,ho0,ho1,hi,hb,hb2,hgw⟩;refine ⟨_,rfl,?_⟩;have HO631:=zA (kI ho0 (kP (zT HB.out GE623.out)));have HO634:=zA (kI ho1 (kP (zT HB.out GE623.out)));replace HB:=zA (hb);have HI627:=zA (hi);have NB627_623:=zA (Z82.ne_blk hi (blk_below (g:=gb623) (o:=.cells #[.int .i64 0,.slice none 0 0] 28 (0,0)) (zR BK623.out) hb2) (by decide));have NB623_627:=zA (Ne.symm (Z82.ne_blk hi (blk_below (g:=gb623) (o:=.cells #[.int .i64 0,.slice none 0 0] 28 (0,0)) (zR BK623.out) hb2) (by decide)));replace BK623:=zA (zB1 BK623.out hb2);(try clear hb);(try clear hb2);(try clear hi);(try clear hgw);(try clear ho0);(try clear ho1)) | (refine zBE 5 #[.int .i64 0,.slice none 0 0] 28 ?_;intro gb635 hg w5 hbox hb;replace HO631:=zA (kL (zP HO631.out) hb);replace HO634:=zA (kL (zP HO634.out) hb);have BK635:=zA (hbox);have GW635:=zA (zB6 hg (kP (zV HB.out (Z82.ge HI627.out) GE623.out)):w.heap.size ≤ gb635);have GE635:=zA (zB6 hg (kP (zV HB.out (Z82.ge HI627.out) GE623.out)):w.heap.size ≤ gb635);replace HB:=zA (kQ (zV HB.out (Z82.ge HI627.out) GE623.out) hb);have NB623_635:=zA (zB4 hg BK623.out:gb623 ≠ gb635);have NB635_623:=zA (zB5 hg BK623.out:gb635 ≠ gb623);replace BK623:=zA (zB1 BK623.out hb);have NB627_635:=zA (zB7 hg (Z82.lt (show Z82 w _ g627 t624 t625 t626 from Z82.uB HI627.out NB627_623.out)):g627 ≠ gb635);have NB635_627:=zA (zB8 hg (Z82.lt (show Z82 w _ g627 t624 t625 t626 from Z82.uB HI627.out NB627_623.out)):gb635 ≠ g627);replace HI627:=zA (Z82.below (Z82.uB HI627.out NB627_623.out) hb);clear hb hbox hg;have hnb6:=NB635_623.out;have hnc6:=NB623_635.out;have hnb7:=NB635_627.out;have hnc7:=NB627_635.out;obtain ⟨hcz8_0,hcz8_1,hfz8_0,hfz8_1⟩:=zB3 BK635.out;obtain ⟨Ao9,co9,eo9⟩:=kM HO631.out;subst eo9;have hnb10:=NB623_627.out;have hnc10:=NB627_623.out;obtain ⟨hcz11_0,hcz11_1,hfz11_0,hfz11_1⟩:=zB3 BK623.out))
 refine bodyPost_ret (results_ct rfl _ _ gb623 28 #[.int .i64 t628,.slice Ao9 t629.length co9] (0,0) _ rfl (by (with_reducible repeat (first | refine zJ ?_ _ | refine zK ?_ | refine zI ?_ _));refine blk_put (cs:=#[.int .i64 t628,.slice none 0 0]) ?_ 1 _ rfl;(with_reducible repeat (first | refine zJ ?_ _ | refine zK ?_ | refine zI ?_ _));refine blk_put (cs:=#[.int .i64 0,.slice none 0 0]) ?_ 0 _ rfl;(with_reducible repeat (first | refine zJ ?_ _ | refine zK ?_ | refine zI ?_ _));refine blk_far ?_ NB623_635.out _;(with_reducible repeat (first | refine zJ ?_ _ | refine zK ?_ | refine zI ?_ _));refine blk_far ?_ NB623_635.out _;(with_reducible repeat (first | refine zJ ?_ _ | refine zK ?_ | refine zI ?_ _));exact BK623.out) Tryd.underlying28 rfl (by kernel_rfl)) rfl ?_
 exact ⟨_,_,zr,by (with_reducible repeat (first | apply zF | apply zG | apply zH));exact kA (kY (p:=⟨gb623,1,none⟩) (kY (p:=⟨gb623,0,none⟩) (kY (p:=⟨gb635,1,none⟩) (kY (p:=⟨gb635,0,none⟩) (kD (kD HO631.out BK635.out (by decide)) BK623.out (by decide)) (fun _ hk=>hk.1.2) (.int .i64 t628)) (fun _ hk=>hk.1.2) (.slice Ao9 t629.length co9)) (fun _ hk=>hk.2) (.int .i64 t628)) (fun _ hk=>hk.2) (.slice Ao9 t629.length co9)) (fun _ hk=>hk.1.1),by (with_reducible repeat (first | apply zF | apply zG | apply zH));exact kA (kY (p:=⟨gb623,1,none⟩) (kY (p:=⟨gb623,0,none⟩) (kY (p:=⟨gb635,1,none⟩) (kY (p:=⟨gb635,0,none⟩) (kD (kD HO634.out BK635.out (by decide)) BK623.out (by decide)) (fun _ hk=>hk.1.2) (.int .i64 t628)) (fun _ hk=>hk.1.2) (.slice Ao9 t629.length co9)) (fun _ hk=>hk.2) (.int .i64 t628)) (fun _ hk=>hk.2) (.slice Ao9 t629.length co9)) (fun _ hk=>hk.1.1),zW HB.out (Z82.ge HI627.out) GE623.out GE635.out⟩
def laws_likeInts.l0:Nat → List Int → List Int → Int → Option (Bool)
 | 0,_,_,_=>none
 | k + 1,x0,x1,x5=>if x5 < (x0.length:Int) then (if 0 ≤ x5 then (if x5 < (x1.length:Int) then (if (rd x0 x5) = (rd x1 x5) then (laws_likeInts.l0 k x0 x1 (wrap64 (x5 + 1))) else (some false)) else (none)) else (none)) else (some true)
def laws_likeInts.f (k:Nat) (l0:List Int) (l1:List Int):Option (Bool):=if (l0.length:Int) = (l1.length:Int) then (laws_likeInts.l0 k l0 l1 0) else (some false)
set_option maxHeartbeats 8000000 in
set_option maxRecDepth 100000 in
theorem laws_likeInts.calls (k:Nat) (A0:Option Addr) (c0:Nat) (l0:List Int) (A1:Option Addr) (c1:Nat) (l1:List Int) (r:Bool) (w:World) (hr0:Kd.C (Kd.int .i64) w A0 l0.length l0) (hc0:l0.length ≤ c0) (hr1:Kd.C (Kd.int .i64) w A1 l1.length l1) (hc1:l1.length ≤ c1) (h:laws_likeInts.f k l0 l1 = some r) :
  Calls Tryd.prog 17 #[.slice A0 l0.length c0,.slice A1 l1.length c1] w fun e w' => e = .returned (.bool r) ∧ Drawn0 w w' := by
 have HR0:=zA hr0
 have HC0:=zA hc0
 clear hr0 hc0
 have HR1:=zA hr1
 have HC1:=zA hc1
 clear hr1 hc1
 have H:=h
 unfold laws_likeInts.f at H
 clear h
 by_cases c3:(l0.length:Int) = (l1.length:Int)
 ·rw [if_pos c3] at H
  obtain ⟨c3b0,c3b1⟩:=zT1 c3
  have c3b2:(l0.length == l1.length) = true:=by first | simpa using c3 | (simp at c3 ⊢;omega)
  clear c3
  have H' := zA H
  clear H
  go_enter Tryd.func17,Tryd.ntmps17
  go_wp2
  repeat (go_quiet (fail);try go_wp2)
  go_loopg [5] k (fun kq v5 w' => ∃ (x5_1:Int),v5 = .int .i64 x5_1 ∧ Aside0 (laws_likeInts.l0 kq l0 l1 x5_1 = some r) ∧ Aside0 (kq ≤ k) ∧ Drawn0 w w')
  case atStart=>exact ⟨(0),zs,H', ⟨Nat.le_refl _⟩,by repeat (first | exact Drawn0.refl _ | apply Drawn0.step)⟩
  case round =>
   clear H'
   try clear c1
   try clear c3
   obtain ⟨x5_1,rfl,HA,HK1,⟨m1,rfl⟩⟩:=hrel
   cases gk with
   | zero=>exact absurd HA.out (by simp [laws_likeInts.l0])
   | succ k1 =>
    have H:=HA.out
    clear HA
    simp only [laws_likeInts.l0] at H
    by_cases c4:x5_1 < (l0.length:Int)
    ·rw [if_pos c4] at H
     have c4b0:decide (x5_1 < (l0.length:Int)) = true:=decide_eq_true c4
     clear c4
     by_cases c5:0 ≤ x5_1
     ·rw [if_pos c5] at H
      have c5b0:decide (0 ≤ x5_1) = true:=decide_eq_true c5
      clear c5
      by_cases c6:x5_1 < (l1.length:Int)
      ·rw [if_pos c6] at H
       have c6b0:decide (x5_1 < (l1.length:Int)) = true:=decide_eq_true c6
       clear c6
       by_cases c7:(rd l0 x5_1) = (rd l1 x5_1)
       ·rw [if_pos c7] at H
        obtain ⟨c7b0,c7b1⟩:=zT1 c7
        clear c7
        have H' := zA H
        clear H
        have p636:0 ≤ (x5_1:Int):=zd
        have q636:x5_1 < (l0.length:Int):=zd
        obtain ⟨ad636,e636,hx636_0⟩:=Kd.at_int HR0.out x5_1 p636 q636
        cases e636
        replace p636:=eq_true p636
        replace q636:=eq_true q636
        have p637:0 ≤ (x5_1:Int):=zd
        have q637:x5_1 < (l1.length:Int):=zd
        obtain ⟨ad637,e637,hx637_0⟩:=Kd.at_int HR1.out x5_1 p637 q637
        cases e637
        replace p637:=eq_true p637
        replace q637:=eq_true q637
        go_wp2
        repeat (go_quiet (fail);try go_wp2)
        go_roundg k1
        case measure=>have:=HK1.out;omega
        case rel=>exact ⟨(wrap64 (x5_1 + 1)),zs,H', ⟨by have:=HK1.out;omega⟩,by repeat (first | exact Drawn0.refl _ | apply Drawn0.step)⟩
       rw [if_neg c7] at H
       obtain ⟨c7b0,c7b1⟩:=zT2 c7
       obtain rfl:=Option.some.inj H
       have p636:0 ≤ (x5_1:Int):=zd
       have q636:x5_1 < (l0.length:Int):=zd
       obtain ⟨ad636,e636,hx636_0⟩:=Kd.at_int HR0.out x5_1 p636 q636
       cases e636
       replace p636:=eq_true p636
       replace q636:=eq_true q636
       have p637:0 ≤ (x5_1:Int):=zd
       have q637:x5_1 < (l1.length:Int):=zd
       obtain ⟨ad637,e637,hx637_0⟩:=Kd.at_int HR1.out x5_1 p637 q637
       cases e637
       replace p637:=eq_true p637
       replace q637:=eq_true q637
       go_wp2
       repeat (go_quiet (fail);try go_wp2)
       go_ret
       exact ⟨zs,by repeat (first | exact Drawn0.refl _ | apply Drawn0.step)⟩
      rw [if_neg c6] at H
      exact absurd H (by simp)
     rw [if_neg c5] at H
     exact absurd H (by simp)
    rw [if_neg c4] at H
    have c4b0:decide (x5_1 < (l0.length:Int)) = false:=decide_eq_false c4
    clear c4
    obtain rfl:=Option.some.inj H
    go_wp2
    repeat (go_quiet (fail);try go_wp2)
    go_ret
    exact ⟨zs,by repeat (first | exact Drawn0.refl _ | apply Drawn0.step)⟩
 rw [if_neg c3] at H
 obtain ⟨c3b0,c3b1⟩:=zT2 c3
 have c3b2:(l0.length == l1.length) = false:=by first | simpa using c3 | (simp at c3 ⊢;omega)
 obtain rfl:=Option.some.inj H
 go_enter Tryd.func17,Tryd.ntmps17
 go_wp2
 repeat (go_quiet (fail);try go_wp2)
 go_ret
 exact ⟨zs,by repeat (first | exact Drawn0.refl _ | apply Drawn0.step)⟩
end Go.Proofs.YtpenijicdldipaaDoor.PAll
