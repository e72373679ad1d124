import Derived.Test.YtemdfjdmokbcoaaGreatDoorPAllx0
import Derived.Test.YtemdfjdmokbcoaaGreatDoorPAllx1
namespace Go.Proofs.YtemdfjdmokbcoaaGreatDoor.PAll
open Go.RowKit Go.Proofs.YtemdfjdmokbcoaaGreatDoor.T Go.Proofs.YtemdfjdmokbcoaaGreatDoorW.PrintWords Go.Proofs.YtemdfjdmokbcoaaGreatDoorW.PrintLast Go.Proofs.YtemdfjdmokbcoaaGreatDoorW.PrintMore
attribute [local go_sem] max2_int min2_int max_two min_two max_three min_three max_four min_four   -- for this text's walks alone
set_option linter.unusedVariables false
set_option linter.unusedSimpArgs false
def spec_l02Spoil.f (k:Nat) (s0_0:List Int) (s0_1:Int) (s0_2:Int) (a1:Int):Option (Int × List Int × Int × Int):=(spec_l02Draw.f k s0_0 s0_1 s0_2 a1).bind fun bt153=>((spec_l01Next.f s0_0 bt153.2.2.1 bt153.2.2.2 14).bind fun bt160=>(if bt160.1 > 0 then (some (bt153.1,bt153.2.1,bt160.2.1,bt160.2.2)) else ((spec_l01Next.f s0_0 bt160.2.1 bt160.2.2 4).bind fun bt163=>(if bt163.1 = 0 then ((spec_l01Pick.f s0_0 bt163.2.1 bt163.2.2 (([(-1),9,wrap64 (bt153.1 + 1)]:List Int))).bind fun bt169=>(some (bt169.1,bt153.2.1,bt169.2.1,bt169.2.2))) else (if bt163.1 = 1 then ((spec_l01Pick.f s0_0 bt163.2.1 bt163.2.2 (([0,1,255]:List Int))).bind fun bt175=>(if bt153.2.1.length < 17592186044416 then (some (bt153.1,(bt153.2.1 ++ [bt175.1]),bt175.2.1,bt175.2.2)) else (none))) else (if bt153.1 > 0 then ((spec_l01Next.f s0_0 bt163.2.1 bt163.2.2 bt153.1).bind fun bt181=>(if 0 ≤ bt181.1 then (if bt181.1 < (bt153.2.1.length:Int) then ((spec_l01One.f bt181.1).bind fun t185=>((spec_l01One.f bt153.1).bind fun t187=>((spec_l01One.f bt153.1).bind fun t188=>((spec_l01Next.f s0_0 bt181.2.1 bt181.2.2 t188).bind fun bt189=>((spec_l01Pick.f s0_0 bt189.2.1 bt189.2.2 (([wrap64 ((rd bt153.2.1 bt181.1) - t185),Go.bits .or .i64 (rd bt153.2.1 bt181.1) t187,bt189.1,(-1)]:List Int))).bind fun bt195=>(some (bt153.1,(bt153.2.1.set (bt181.1:Int).toNat bt195.1),bt195.2.1,bt195.2.2))))))) else (none)) else (none))) else (some (bt153.1,bt153.2.1,bt163.2.1,bt163.2.2))))))))
def spec_l02Spoil.T7:Bool × List (List Nat × List Nat):=(true,[([],[]),([0],[0]),([],[]),([],[]),([],[]),([4],[4]),([],[]),([5,6],[5,6]),([7],[7]),([],[]),([9],[9]),([8,10],[8,10]),([],[]),([12],[12]),([],[]),([13,14],[13,14]),([15],[15]),([],[]),([17],[17]),([18,10],[18]),([16,19],[16,19]),([],[]),([],[]),([22],[22]),([23,19],[23]),([21,24,24],[21,24]),([11,20,25],[11,20,25]),([3,26,25],[3,26]),([1,2,0,1,2,3,4,5,6,7,8,9,10,11,12,13,14,15,16,17,18,19,20,21,22,23,24,25,26,27],[1,2]),([28,27,27,0,1,2,3,4,5,6,7,8,9,10,11,12,13,14,15,16,17,18,19,20,21,22,23,24,25,26,27],[27,28])])
def spec_l02Spoil.B7:List Nat:=[0,1,0,0,0,16,0,112,240,0,512,2032,0,4096,0,28672,61440,0,131072,394752,1046016,0,0,4194304,13501952,32376320,67108848,134217720,268435455,536870911]
theorem spec_l02Spoil.tab7:rtab .any (opsOf Tryz.f34 7) = spec_l02Spoil.T7:=by kernel_rfl
theorem spec_l02Spoil.bits7:waitsOk spec_l02Spoil.T7.2 spec_l02Spoil.B7 = true:=by kernel_rfl
def spec_l02Spoil.T11:Bool × List (List Nat × List Nat):=(true,[([],[]),([0],[0]),([],[]),([],[]),([2,3],[2,3]),([4],[4]),([1,5,4],[1,5]),([0,1,2,3,4,5,6],[]),([7,6,6,0,1,2,3,4,5,6],[6,7])])
def spec_l02Spoil.B11:List Nat:=[0,1,0,0,12,28,63,127,255]
theorem spec_l02Spoil.tab11:rtab .any (opsOf Tryz.f34 11) = spec_l02Spoil.T11:=by kernel_rfl
theorem spec_l02Spoil.bits11:waitsOk spec_l02Spoil.T11.2 spec_l02Spoil.B11 = true:=by kernel_rfl
set_option maxHeartbeats 8000000 in
set_option maxRecDepth 100000 in
theorem spec_l02Spoil.calls (k : Nat) (g : Nat) (s0_0 : List Int) (s0_1 : Int) (s0_2 : Int) (a1 : Int) (r1 : Int) (r2 : List Int) (r3 : Int) (r4 : Int) (w0 w : World) (hI : Z76 w0 w g s0_0 s0_1 s0_2) (hB : Below w0.heap.size w0 w) (h : spec_l02Spoil.f k s0_0 s0_1 s0_2 a1 = some (r1, r2, r3, r4)) :
  Calls Tryz.prog 34 #[.pointer (some ⟨g,0,none⟩),.int .i64 a1] w fun e w' => ∃ v1_:Value,e = .returned (.agg #[.int .i64 r1,v1_]) ∧ Kd.R (Kd.int .i64) 2 w' w.heap.size (fun _=>True) v1_ r2 ∧ Z76 w0 w' g s0_0 r3 r4 ∧ Below w0.heap.size w0 w' ∧ KeepBut w w' g none:=by
 have hu26:=Tryz.underlying26
 have HI0:=zA hI
 have HK:=zA (KeepBut.refl w g none)
 have HL:=zA hB.size
 clear hI
 have HW0:=zA hB.size
 have HB:=zA hB
 clear hB
 have H:=h
 unfold spec_l02Spoil.f at H
 clear h
 obtain ⟨⟨t153,t154,t157,t158⟩,A3,H⟩:=zb H
 try dsimp only at H
 obtain ⟨⟨t160,t161,t162⟩,A4,H⟩:=zb H
 try dsimp only at H
 by_cases c5:t160 > 0
 ·rw [if_pos c5] at H
  have c5b0:decide (0 < t160) = true:=decide_eq_true c5
  clear c5
  simp only [Option.some.injEq,Prod.mk.injEq] at H
  obtain ⟨rfl,rfl,rfl,rfl⟩:=H
  go_enter Tryz.func34,Tryz.ntmps34
  go_wp2_with (first | (refine zBE 4 #[.int .i64 0,.slice none 0 0] 26 ?_;intro gb152 hg w6 hbox hb;replace HB:=zA (kQ (zT HB.out (Z76.ge HI0.out)) hb);have BK152:=zA (hbox);have GW152:=zA (zB6 hg (kX (w:=w) (g:=g) (row:=none) (yA HK.out)):w.heap.size ≤ gb152);have GE152:=zA ((Nat.le_trans HW0.out (by rw [hg];exact (kX (w:=w) (g:=g) (row:=none) (yA HK.out)):w.heap.size ≤ gb152):w0.heap.size ≤ gb152));replace HK:=zA (kT (yA HK.out) (kU hb g none) (.inl rfl));have NB0_152:=zA (zB7 hg (Z76.lt (show Z76 w0 _ g s0_0 s0_1 s0_2 from Z76.uA HI0.out)):g ≠ gb152);have NB152_0:=zA (zB8 hg (Z76.lt (show Z76 w0 _ g s0_0 s0_1 s0_2 from Z76.uA HI0.out)):gb152 ≠ g);replace HI0:=zA (Z76.below (Z76.uA HI0.out) hb);clear hb hbox hg) | (refine zO (some 9) Tryz.func60 #[.pointer (some ⟨g,0,none⟩),.int .i64 a1] ?_;(with_reducible refine (spec_l02Draw.calls k g s0_0 s0_1 s0_2 a1 t153 t154 t157 t158 w0 _ ?side1 ?side2 A3.out).mono ?_);(case side1=>exact Z76.uB HI0.out NB0_152.out);(case side2=>exact zV HB.out (Z76.ge HI0.out) GE152.out);rintro e w7 ⟨v155,rfl,ho0,hi,hb,hk⟩;refine ⟨_,rfl,?_⟩;replace BK152:=zA (zB2 hk BK152.out NB152_0.out);have HO156:=zA (kI ho0 (kX (w:=w) (g:=g) (row:=none) (yB HK.out GW152.out)));replace HK:=zA (kT (yB HK.out GW152.out) hk (.inl rfl));replace HB:=zA (hb);replace HI0:=zA (hi);(try clear hb);(try clear hk);(try clear hi);(try clear ho0)) | (refine zBE 5 #[.int .i64 0,.slice none 0 0] 26 ?_;intro gb159 hg w8 hbox hb;replace HO156:=zA (kL (zP HO156.out) hb);replace HB:=zA (kQ (zV HB.out (Z76.ge HI0.out) GE152.out) hb);have BK159:=zA (hbox);have GW159:=zA (zB6 hg (kX (w:=w) (g:=g) (row:=none) (yB HK.out GW152.out)):w.heap.size ≤ gb159);have GE159:=zA ((Nat.le_trans HW0.out (by rw [hg];exact (kX (w:=w) (g:=g) (row:=none) (yB HK.out GW152.out)):w.heap.size ≤ gb159):w0.heap.size ≤ gb159));replace HK:=zA (kT (yB HK.out GW152.out) (kU hb g none) (.inl rfl));have NB152_159:=zA (zB4 hg BK152.out:gb152 ≠ gb159);have NB159_152:=zA (zB5 hg BK152.out:gb159 ≠ gb152);replace BK152:=zA (zB1 BK152.out hb);have NB0_159:=zA (zB7 hg (Z76.lt (show Z76 w0 _ g s0_0 t157 t158 from Z76.uB HI0.out NB0_152.out)):g ≠ gb159);have NB159_0:=zA (zB8 hg (Z76.lt (show Z76 w0 _ g s0_0 t157 t158 from Z76.uB HI0.out NB0_152.out)):gb159 ≠ g);replace HI0:=zA (Z76.below (Z76.uB HI0.out NB0_152.out) hb);clear hb hbox hg;have hnb9:=NB159_152.out;have hnc9:=NB152_159.out;have hnb10:=NB159_0.out;have hnc10:=NB0_159.out;obtain ⟨hcz11_0,hcz11_1,hfz11_0,hfz11_1⟩:=zB3 BK159.out;obtain ⟨Ao12,co12,eo12⟩:=kM HO156.out;subst eo12) | (refine zO (some 11) Tryz.func35 #[.pointer (some ⟨g,0,none⟩),.int .i64 14] ?_;(with_reducible refine (spec_l01Next.calls g s0_0 t157 t158 14 t160 t161 t162 w0 _ ?side1 ?side2 A4.out).mono ?_);(case side1=>exact Z76.uC HI0.out NB0_152.out NB0_159.out);(case side2=>exact zW HB.out (Z76.ge HI0.out) GE152.out GE159.out);rintro e w13 ⟨rfl,hi,hb,hk⟩;refine ⟨_,rfl,?_⟩;replace BK152:=zA (KeepBut.blk hk (g' := gb152) (o:=.cells #[.int .i64 0,.slice none 0 0] 26 (0,0)) (zBG BK152.out NB152_159.out NB152_159.out) NB152_0.out (by simp));replace HO156:=zA (kA (Kd.R_keep (Z76.apart (show Z76 w0 _ g s0_0 t157 t158 from Z76.uC HI0.out NB0_152.out NB0_159.out) (zP (zFG HO156.out BK159.out (.int .i64 t153) (.slice Ao12 t154.length co12))) (by decide)) hk (fun _ h=>h.2)) (fun _ h=>h.1));replace BK159:=zA (KeepBut.blk hk (g' := gb159) (o:=.cells #[.int .i64 t153,.slice Ao12 t154.length co12] 26 (0,0)) (zRP BK159.out) NB159_0.out (by simp));replace HK:=zA (kT (yC HK.out GW152.out GW159.out) hk (.inl rfl));replace HB:=zA (hb);replace HI0:=zA (hi);(try clear hb);(try clear hk);(try clear hi);obtain ⟨hcz14_0,hcz14_1,hfz14_0,hfz14_1⟩:=zB3 BK159.out;have hnb15:=NB152_0.out;have hnc15:=NB0_152.out;obtain ⟨hcz16_0,hcz16_1,hfz16_0,hfz16_1⟩:=zB3 BK152.out))
  refine bodyPost_ret (results_cell_row rfl _ _ gb152 26 #[.int .i64 t153,.slice Ao12 t154.length co12] (0,0) _ rfl (zRP BK152.out) Tryz.underlying26 rfl (by kernel_rfl)) rfl ?_
  exact ⟨_,zr,by (with_reducible repeat (first | apply zF | apply zG | apply zH));exact kA (kY (p:=⟨gb152,1,none⟩) (kY (p:=⟨gb152,0,none⟩) (kD HO156.out BK152.out (by decide)) (fun _ hk=>hk.2) (.int .i64 t153)) (fun _ hk=>hk.2) (.slice Ao12 t154.length co12)) (fun _ hk=>trivial),by repeat (first | (with_reducible first | exact HI0.out | apply Z76.alloc | apply Z76.drewN | apply Z76.drew | apply Z76.set_1 | apply Z76.set_2 | refine Z76.far ?_ NB0_152.out _ | refine Z76.far ?_ NB0_159.out _) | exact HI0.out),zW HB.out (Z76.ge HI0.out) GE152.out GE159.out,by repeat (first | (with_reducible first | exact HK.out | apply KeepBut.set_ | apply keep_drewN | apply keep_drew | apply keep_alloc | refine keep_far ?_ GW152.out _ | refine keep_far ?_ GW159.out _) | exact HK.out)⟩
 rw [if_neg c5] at H
 have c5b0:decide (0 < t160) = false:=decide_eq_false c5
 clear c5
 obtain ⟨⟨t163,t164,t165⟩,A17,H⟩:=zb H
 try dsimp only at H
 by_cases c18:t163 = 0
 ·rw [if_pos c18] at H
  obtain ⟨c18b0,c18b1⟩:=zT1 c18
  clear c18
  obtain ⟨y166,hy166⟩:∃ y_:List Int,y_ = (([(-1),9,wrap64 (t153 + 1)]:List Int)):=⟨_,rfl⟩
  replace H:((spec_l01Pick.f s0_0 t164 t165 y166).bind fun bt169=>(some (bt169.1,t154,bt169.2.1,bt169.2.2))) = some (r1,r2,r3,r4):=zy hy166 H
  have Ny166:=zA hy166
  clear hy166
  obtain ⟨⟨t169,t170,t171⟩,A19,H⟩:=zb H
  try dsimp only at H
  simp only [Option.some.injEq,Prod.mk.injEq] at H
  obtain ⟨rfl,rfl,rfl,rfl⟩:=H
  go_enter Tryz.func34,Tryz.ntmps34
  go_wp2_with (first | (refine zBE 4 #[.int .i64 0,.slice none 0 0] 26 ?_;intro gb152 hg w20 hbox hb;replace HB:=zA (kQ (zT HB.out (Z76.ge HI0.out)) hb);have BK152:=zA (hbox);have GW152:=zA (zB6 hg (kX (w:=w) (g:=g) (row:=none) (yA HK.out)):w.heap.size ≤ gb152);have GE152:=zA ((Nat.le_trans HW0.out (by rw [hg];exact (kX (w:=w) (g:=g) (row:=none) (yA HK.out)):w.heap.size ≤ gb152):w0.heap.size ≤ gb152));replace HK:=zA (kT (yA HK.out) (kU hb g none) (.inl rfl));have NB0_152:=zA (zB7 hg (Z76.lt (show Z76 w0 _ g s0_0 s0_1 s0_2 from Z76.uA HI0.out)):g ≠ gb152);have NB152_0:=zA (zB8 hg (Z76.lt (show Z76 w0 _ g s0_0 s0_1 s0_2 from Z76.uA HI0.out)):gb152 ≠ g);replace HI0:=zA (Z76.below (Z76.uA HI0.out) hb);clear hb hbox hg) | (refine zO (some 9) Tryz.func60 #[.pointer (some ⟨g,0,none⟩),.int .i64 a1] ?_;(with_reducible refine (spec_l02Draw.calls k g s0_0 s0_1 s0_2 a1 t153 t154 t157 t158 w0 _ ?side1 ?side2 A3.out).mono ?_);(case side1=>exact Z76.uB HI0.out NB0_152.out);(case side2=>exact zV HB.out (Z76.ge HI0.out) GE152.out);rintro e w21 ⟨v155,rfl,ho0,hi,hb,hk⟩;refine ⟨_,rfl,?_⟩;replace BK152:=zA (zB2 hk BK152.out NB152_0.out);have HO156:=zA (kI ho0 (kX (w:=w) (g:=g) (row:=none) (yB HK.out GW152.out)));replace HK:=zA (kT (yB HK.out GW152.out) hk (.inl rfl));replace HB:=zA (hb);replace HI0:=zA (hi);(try clear hb);(try clear hk);(try clear hi);(try clear ho0)) | (refine zBE 5 #[.int .i64 0,.slice none 0 0] 26 ?_;intro gb159 hg w22 hbox hb;replace HO156:=zA (kL (zP HO156.out) hb);replace HB:=zA (kQ (zV HB.out (Z76.ge HI0.out) GE152.out) hb);have BK159:=zA (hbox);have GW159:=zA (zB6 hg (kX (w:=w) (g:=g) (row:=none) (yB HK.out GW152.out)):w.heap.size ≤ gb159);have GE159:=zA ((Nat.le_trans HW0.out (by rw [hg];exact (kX (w:=w) (g:=g) (row:=none) (yB HK.out GW152.out)):w.heap.size ≤ gb159):w0.heap.size ≤ gb159));replace HK:=zA (kT (yB HK.out GW152.out) (kU hb g none) (.inl rfl));have NB152_159:=zA (zB4 hg BK152.out:gb152 ≠ gb159);have NB159_152:=zA (zB5 hg BK152.out:gb159 ≠ gb152);replace BK152:=zA (zB1 BK152.out hb);have NB0_159:=zA (zB7 hg (Z76.lt (show Z76 w0 _ g s0_0 t157 t158 from Z76.uB HI0.out NB0_152.out)):g ≠ gb159);have NB159_0:=zA (zB8 hg (Z76.lt (show Z76 w0 _ g s0_0 t157 t158 from Z76.uB HI0.out NB0_152.out)):gb159 ≠ g);replace HI0:=zA (Z76.below (Z76.uB HI0.out NB0_152.out) hb);clear hb hbox hg;have hnb23:=NB159_152.out;have hnc23:=NB152_159.out;have hnb24:=NB159_0.out;have hnc24:=NB0_159.out;obtain ⟨hcz25_0,hcz25_1,hfz25_0,hfz25_1⟩:=zB3 BK159.out;obtain ⟨Ao26,co26,eo26⟩:=kM HO156.out;subst eo26) | (refine zO (some 11) Tryz.func35 #[.pointer (some ⟨g,0,none⟩),.int .i64 14] ?_;(with_reducible refine (spec_l01Next.calls g s0_0 t157 t158 14 t160 t161 t162 w0 _ ?side1 ?side2 A4.out).mono ?_);(case side1=>exact Z76.uC HI0.out NB0_152.out NB0_159.out);(case side2=>exact zW HB.out (Z76.ge HI0.out) GE152.out GE159.out);rintro e w27 ⟨rfl,hi,hb,hk⟩;refine ⟨_,rfl,?_⟩;replace BK152:=zA (KeepBut.blk hk (g' := gb152) (o:=.cells #[.int .i64 0,.slice none 0 0] 26 (0,0)) (zBG BK152.out NB152_159.out NB152_159.out) NB152_0.out (by simp));replace HO156:=zA (kA (Kd.R_keep (Z76.apart (show Z76 w0 _ g s0_0 t157 t158 from Z76.uC HI0.out NB0_152.out NB0_159.out) (zP (zFG HO156.out BK159.out (.int .i64 t153) (.slice Ao26 t154.length co26))) (by decide)) hk (fun _ h=>h.2)) (fun _ h=>h.1));replace BK159:=zA (KeepBut.blk hk (g' := gb159) (o:=.cells #[.int .i64 t153,.slice Ao26 t154.length co26] 26 (0,0)) (zRP BK159.out) NB159_0.out (by simp));replace HK:=zA (kT (yC HK.out GW152.out GW159.out) hk (.inl rfl));replace HB:=zA (hb);replace HI0:=zA (hi);(try clear hb);(try clear hk);(try clear hi)) | (refine zO (some 15) Tryz.func35 #[.pointer (some ⟨g,0,none⟩),.int .i64 4] ?_;(with_reducible refine (spec_l01Next.calls g s0_0 t161 t162 4 t163 t164 t165 w0 _ ?side1 ?side2 A17.out).mono ?_);(case side1=>exact Z76.uC HI0.out NB0_152.out NB0_159.out);(case side2=>exact zW HB.out (Z76.ge HI0.out) GE152.out GE159.out);rintro e w28 ⟨rfl,hi,hb,hk⟩;refine ⟨_,rfl,?_⟩;replace BK152:=zA (zB2 hk BK152.out NB152_0.out);replace HO156:=zA (zB9 (Z76.apart (show Z76 w0 _ g s0_0 t161 t162 from Z76.uC HI0.out NB0_152.out NB0_159.out) (zP HO156.out) (by decide)) hk);replace BK159:=zA (zB2 hk BK159.out NB159_0.out);replace HK:=zA (kT (yC HK.out GW152.out GW159.out) hk (.inl rfl));replace HB:=zA (hb);replace HI0:=zA (hi);(try clear hb);(try clear hk);(try clear hi);obtain ⟨hcz29_0,hcz29_1,hfz29_0,hfz29_1⟩:=zB3 BK159.out) | ((with_reducible refine kS (N:=58) rfl ?_);refine Kd.R_lit (Kd.int .i64) _ 2 ?hg (N:=58) ?hd (xs:=([(-1),9,wrap64 (t153 + 1)]:List Int)) (inner:=[.int .i64 (-1),.int .i64 9,.int .i64 (wrap64 (t153 + 1))]) (ok:=fun _=>True) (okp:=fun _=>True) ?hr ?hp (fun _ hk=>hk) trivial (kW _ _) (Nat.le_refl _) (by simp) ?_;(case hd=>rfl);(case hg=>rfl);(case hr=>first | (go_simp;done) | (go_simp;rfl));(case hp=>exact (Reps.one (show Kd.M (Kd.int .i64) _ _ _ (-1) [.int .i64 (-1)] from rfl) (Reps.one (show Kd.M (Kd.int .i64) _ _ _ 9 [.int .i64 9] from rfl) (Reps.one (show Kd.M (Kd.int .i64) _ _ _ (wrap64 (t153 + 1)) [.int .i64 (wrap64 (t153 + 1))] from rfl) (Reps.none _ _)))));intro v167 w30 ho31 hb hg_ hnew_;clear hg_ hnew_;(first | rw [← Ny166.out] at ho31 | (simp only [Int.reduceToNat] at ho31;rw [← Ny166.out] at ho31));have HO168:=zA (kI (kF ho31 (kH (zP HO156.out))) (kX (w:=w) (g:=g) (row:=none) (yC HK.out GW152.out GW159.out)));replace HO156:=zA (kE (zP HO156.out) (kC ho31) hb);replace BK152:=zA (zB1 BK152.out hb);replace BK159:=zA (zB1 BK159.out hb);replace HK:=zA (kT (yC HK.out GW152.out GW159.out) (kU hb g none) (.inl rfl));replace HB:=zA (kQ (zW HB.out (Z76.ge HI0.out) GE152.out GE159.out) hb);replace HI0:=zA (Z76.below (Z76.uC HI0.out NB0_152.out NB0_159.out) hb);clear hb ho31;obtain ⟨Ao32,co32,eo32⟩:=kM HO168.out;subst eo32) | (refine zO (some 59) Tryz.func36 #[.pointer (some ⟨g,0,none⟩),.slice Ao32 y166.length co32] ?_;(with_reducible refine (spec_l01Pick.calls g s0_0 t164 t165 _ _ y166 t169 t170 t171 w0 _ ?side1 ?side2 ?side3 ?side4 ?side5 A19.out).mono ?_);(case side1=>exact Z76.uC HI0.out NB0_152.out NB0_159.out);(case side2=>exact zW HB.out (Z76.ge HI0.out) GE152.out GE159.out);(case side3=>exact zS (kB HO168.out).2.2);(case side4=>exact (kB HO168.out).2.1);(case side5=>exact jJ (Z76.own_ne HI0.out HO168.out (by decide)));rintro e w33 ⟨rfl,hi,hb,hk⟩;refine ⟨_,rfl,?_⟩;replace BK152:=zA (zB2 hk BK152.out NB152_0.out);replace HO156:=zA (zB9 (Z76.apart (show Z76 w0 _ g s0_0 t164 t165 from Z76.uC HI0.out NB0_152.out NB0_159.out) (zP HO156.out) (by decide)) hk);replace BK159:=zA (zB2 hk BK159.out NB159_0.out);replace HO168:=zA (zB9 (Z76.apart (show Z76 w0 _ g s0_0 t164 t165 from Z76.uC HI0.out NB0_152.out NB0_159.out) (zP HO168.out) (by decide)) hk);replace HK:=zA (kT (yC HK.out GW152.out GW159.out) hk (.inl rfl));replace HB:=zA (hb);replace HI0:=zA (hi);(try clear hb);(try clear hk);(try clear hi);obtain ⟨hcz34_0,hcz34_1,hfz34_0,hfz34_1⟩:=zB3 BK159.out;have hnb35:=NB152_0.out;have hnc35:=NB0_152.out;obtain ⟨hcz36_0,hcz36_1,hfz36_0,hfz36_1⟩:=zB3 BK152.out))
  refine bodyPost_ret (results_cell_row rfl _ _ gb152 26 #[.int .i64 t169,.slice Ao26 t154.length co26] (0,0) _ rfl (by (with_reducible repeat (first | refine zJ ?_ _ | refine zK ?_ | refine zI ?_ _));refine blk_put (cs:=#[.int .i64 t169,.slice none 0 0]) ?_ 1 _ rfl;(with_reducible repeat (first | refine zJ ?_ _ | refine zK ?_ | refine zI ?_ _));refine blk_put (cs:=#[.int .i64 0,.slice none 0 0]) ?_ 0 _ rfl;(with_reducible repeat (first | refine zJ ?_ _ | refine zK ?_ | refine zI ?_ _));refine blk_far ?_ NB152_159.out _;(with_reducible repeat (first | refine zJ ?_ _ | refine zK ?_ | refine zI ?_ _));exact BK152.out) Tryz.underlying26 rfl (by kernel_rfl)) rfl ?_
  exact ⟨_,zr,by (with_reducible repeat (first | apply zF | apply zG | apply zH));exact kA (kY (p:=⟨gb152,1,none⟩) (kY (p:=⟨gb152,0,none⟩) (kY (p:=⟨gb159,0,none⟩) (kD (kD HO156.out BK159.out (by decide)) BK152.out (by decide)) (fun _ hk=>hk.1.2) (.int .i64 t169)) (fun _ hk=>hk.2) (.int .i64 t169)) (fun _ hk=>hk.2) (.slice Ao26 t154.length co26)) (fun _ hk=>trivial),by repeat (first | (with_reducible first | exact HI0.out | apply Z76.alloc | apply Z76.drewN | apply Z76.drew | apply Z76.set_1 | apply Z76.set_2 | refine Z76.far ?_ NB0_152.out _ | refine Z76.far ?_ NB0_159.out _) | exact HI0.out),zW HB.out (Z76.ge HI0.out) GE152.out GE159.out,by repeat (first | (with_reducible first | exact HK.out | apply KeepBut.set_ | apply keep_drewN | apply keep_drew | apply keep_alloc | refine keep_far ?_ GW152.out _ | refine keep_far ?_ GW159.out _) | exact HK.out)⟩
 rw [if_neg c18] at H
 obtain ⟨c18b0,c18b1⟩:=zT2 c18
 by_cases c37:t163 = 1
 ·rw [if_pos c37] at H
  obtain ⟨c37b0,c37b1⟩:=zT1 c37
  clear c37
  obtain ⟨y172,hy172⟩:∃ y_:List Int,y_ = (([0,1,255]:List Int)):=⟨_,rfl⟩
  replace H:((spec_l01Pick.f s0_0 t164 t165 y172).bind fun bt175=>(if t154.length < 17592186044416 then (some (t153,(t154 ++ [bt175.1]),bt175.2.1,bt175.2.2)) else (none))) = some (r1,r2,r3,r4):=zy hy172 H
  have Ny172:=zA hy172
  clear hy172
  obtain ⟨⟨t175,t176,t177⟩,A38,H⟩:=zb H
  try dsimp only at H
  by_cases c39:t154.length < 17592186044416
  ·rw [if_pos c39] at H
   have LMc39:=zA c39
   clear c39
   obtain ⟨y178,hy178⟩:∃ y_:List Int,y_ = (t154 ++ [t175]):=⟨_,rfl⟩
   replace H:(some (t153,y178,t176,t177)) = some (r1,r2,r3,r4):=zy hy178 H
   have Ny178:=zA hy178
   clear hy178
   simp only [Option.some.injEq,Prod.mk.injEq] at H
   obtain ⟨rfl,rfl,rfl,rfl⟩:=H
   go_enter Tryz.func34,Tryz.ntmps34
   try go_wp2_with (first | (refine zBE 4 #[.int .i64 0,.slice none 0 0] 26 ?_;intro gb152 hg w40 hbox hb;replace HB:=zA (kQ (zT HB.out (Z76.ge HI0.out)) hb);have BK152:=zA (hbox);have GW152:=zA (zB6 hg (kX (w:=w) (g:=g) (row:=none) (yA HK.out)):w.heap.size ≤ gb152);have GE152:=zA ((Nat.le_trans HW0.out (by rw [hg];exact (kX (w:=w) (g:=g) (row:=none) (yA HK.out)):w.heap.size ≤ gb152):w0.heap.size ≤ gb152));replace HK:=zA (kT (yA HK.out) (kU hb g none) (.inl rfl));have NB0_152:=zA (zB7 hg (Z76.lt (show Z76 w0 _ g s0_0 s0_1 s0_2 from Z76.uA HI0.out)):g ≠ gb152);have NB152_0:=zA (zB8 hg (Z76.lt (show Z76 w0 _ g s0_0 s0_1 s0_2 from Z76.uA HI0.out)):gb152 ≠ g);replace HI0:=zA (Z76.below (Z76.uA HI0.out) hb);clear hb hbox hg) | (refine zO (some 9) Tryz.func60 #[.pointer (some ⟨g,0,none⟩),.int .i64 a1] ?_;(with_reducible refine (spec_l02Draw.calls k g s0_0 s0_1 s0_2 a1 t153 t154 t157 t158 w0 _ ?side1 ?side2 A3.out).mono ?_);(case side1=>exact Z76.uB HI0.out NB0_152.out);(case side2=>exact zV HB.out (Z76.ge HI0.out) GE152.out);rintro e w41 ⟨v155,rfl,ho0,hi,hb,hk⟩;refine ⟨_,rfl,?_⟩;replace BK152:=zA (zB2 hk BK152.out NB152_0.out);have HO156:=zA (kI ho0 (kX (w:=w) (g:=g) (row:=none) (yB HK.out GW152.out)));replace HK:=zA (kT (yB HK.out GW152.out) hk (.inl rfl));replace HB:=zA (hb);replace HI0:=zA (hi);(try clear hb);(try clear hk);(try clear hi);(try clear ho0)) | (refine zBE 5 #[.int .i64 0,.slice none 0 0] 26 ?_;intro gb159 hg w42 hbox hb;replace HO156:=zA (kL (zP HO156.out) hb);replace HB:=zA (kQ (zV HB.out (Z76.ge HI0.out) GE152.out) hb);have BK159:=zA (hbox);have GW159:=zA (zB6 hg (kX (w:=w) (g:=g) (row:=none) (yB HK.out GW152.out)):w.heap.size ≤ gb159);have GE159:=zA ((Nat.le_trans HW0.out (by rw [hg];exact (kX (w:=w) (g:=g) (row:=none) (yB HK.out GW152.out)):w.heap.size ≤ gb159):w0.heap.size ≤ gb159));replace HK:=zA (kT (yB HK.out GW152.out) (kU hb g none) (.inl rfl));have NB152_159:=zA (zB4 hg BK152.out:gb152 ≠ gb159);have NB159_152:=zA (zB5 hg BK152.out:gb159 ≠ gb152);replace BK152:=zA (zB1 BK152.out hb);have NB0_159:=zA (zB7 hg (Z76.lt (show Z76 w0 _ g s0_0 t157 t158 from Z76.uB HI0.out NB0_152.out)):g ≠ gb159);have NB159_0:=zA (zB8 hg (Z76.lt (show Z76 w0 _ g s0_0 t157 t158 from Z76.uB HI0.out NB0_152.out)):gb159 ≠ g);replace HI0:=zA (Z76.below (Z76.uB HI0.out NB0_152.out) hb);clear hb hbox hg;have hnb43:=NB159_152.out;have hnc43:=NB152_159.out;have hnb44:=NB159_0.out;have hnc44:=NB0_159.out;obtain ⟨hcz45_0,hcz45_1,hfz45_0,hfz45_1⟩:=zB3 BK159.out;obtain ⟨Ao46,co46,eo46⟩:=kM HO156.out;subst eo46) | (refine zO (some 11) Tryz.func35 #[.pointer (some ⟨g,0,none⟩),.int .i64 14] ?_;(with_reducible refine (spec_l01Next.calls g s0_0 t157 t158 14 t160 t161 t162 w0 _ ?side1 ?side2 A4.out).mono ?_);(case side1=>exact Z76.uC HI0.out NB0_152.out NB0_159.out);(case side2=>exact zW HB.out (Z76.ge HI0.out) GE152.out GE159.out);rintro e w47 ⟨rfl,hi,hb,hk⟩;refine ⟨_,rfl,?_⟩;replace BK152:=zA (KeepBut.blk hk (g' := gb152) (o:=.cells #[.int .i64 0,.slice none 0 0] 26 (0,0)) (zBG BK152.out NB152_159.out NB152_159.out) NB152_0.out (by simp));replace HO156:=zA (kA (Kd.R_keep (Z76.apart (show Z76 w0 _ g s0_0 t157 t158 from Z76.uC HI0.out NB0_152.out NB0_159.out) (zP (zFG HO156.out BK159.out (.int .i64 t153) (.slice Ao46 t154.length co46))) (by decide)) hk (fun _ h=>h.2)) (fun _ h=>h.1));replace BK159:=zA (KeepBut.blk hk (g' := gb159) (o:=.cells #[.int .i64 t153,.slice Ao46 t154.length co46] 26 (0,0)) (zRP BK159.out) NB159_0.out (by simp));replace HK:=zA (kT (yC HK.out GW152.out GW159.out) hk (.inl rfl));replace HB:=zA (hb);replace HI0:=zA (hi);(try clear hb);(try clear hk);(try clear hi)) | (refine zO (some 15) Tryz.func35 #[.pointer (some ⟨g,0,none⟩),.int .i64 4] ?_;(with_reducible refine (spec_l01Next.calls g s0_0 t161 t162 4 t163 t164 t165 w0 _ ?side1 ?side2 A17.out).mono ?_);(case side1=>exact Z76.uC HI0.out NB0_152.out NB0_159.out);(case side2=>exact zW HB.out (Z76.ge HI0.out) GE152.out GE159.out);rintro e w48 ⟨rfl,hi,hb,hk⟩;refine ⟨_,rfl,?_⟩;replace BK152:=zA (zB2 hk BK152.out NB152_0.out);replace HO156:=zA (zB9 (Z76.apart (show Z76 w0 _ g s0_0 t161 t162 from Z76.uC HI0.out NB0_152.out NB0_159.out) (zP HO156.out) (by decide)) hk);replace BK159:=zA (zB2 hk BK159.out NB159_0.out);replace HK:=zA (kT (yC HK.out GW152.out GW159.out) hk (.inl rfl));replace HB:=zA (hb);replace HI0:=zA (hi);(try clear hb);(try clear hk);(try clear hi)))
   replace HO156:=zA (zH HO156.out)
   replace BK152:=zA (zK BK152.out)
   replace BK159:=zA (zK BK159.out)
   replace HI0:=zA (Z76.drew HI0.out)
   replace HK:=zA (keep_drew HK.out)
   replace HB:=zA (zD HB.out)
   refine start_ (n:=9) (S:=fun w' => w'.cell? ⟨gb159,0,none⟩ = some (.int .i64 t153) ∧ w'.cell? ⟨gb159,1,none⟩ = some (.slice Ao46 t154.length co46)) (ds:=[8]) #[false,false,false,false,false,false,false,false,false] (by kernel_rfl) rfl rfl ⟨(kV BK159.out 0).trans rfl,(kV BK159.out 1).trans rfl⟩ (fun hHeld=>?_);refine with_tabW spec_l02Spoil.tab11 spec_l02Spoil.bits11 (fun HT_ HW_=>?_)
   generalize w48.drew = w49 at HO156 BK152 BK159 HI0 HK HB hHeld ⊢
   refine zp 0 (some 63) #[true,false,false,false,false,false,false,false,false] HT_.out ?_
   refine zp 2 (some 65) #[true,false,true,false,false,false,false,false,false] HT_.out ?_
   refine zc 1 (some 64) #[true,true,true,false,false,false,false,false,false] HT_.out HW_.out hHeld ?_
   refine one_ (i:=3) (N:=some 66) #[true,true,true,true,false,false,false,false,false] rfl rfl (one_of HT_.out (by kernel_rfl)) (by decide) (fun K hK=>?_)
   refine Kd.R_lit_step (Kd.int .i64) _ 2 ?hg (N:=66) ?hd (xs:=([0,1,255]:List Int)) (inner:=[.int .i64 0,.int .i64 1,.int .i64 255]) (ok:=fun _=>True) (okp:=fun _=>True) ?hr ?hp (fun _ hk=>hk) trivial (kW _ _) (Nat.le_refl _) (by simp) ?_;(case hd=>rfl);(case hg=>rfl);(case hr=>first | (go_simp;done) | (go_simp;rfl));(case hp=>exact (Reps.one (show Kd.M (Kd.int .i64) _ _ _ 0 [.int .i64 0] from rfl) (Reps.one (show Kd.M (Kd.int .i64) _ _ _ 1 [.int .i64 1] from rfl) (Reps.one (show Kd.M (Kd.int .i64) _ _ _ 255 [.int .i64 255] from rfl) (Reps.none _ _)))))
   intro v173 w50 ho51 hb hg_ hnew_
   clear hg_ hnew_
   (first | rw [← Ny172.out] at ho51 | (simp only [Int.reduceToNat] at ho51;rw [← Ny172.out] at ho51))
   have HO174:=zA (kI (kF ho51 (kH (zP HO156.out))) (kX (w:=w) (g:=g) (row:=none) (yC HK.out GW152.out GW159.out)))
   replace HO156:=zA (kE (zP HO156.out) (kC ho51) hb)
   replace BK152:=zA (zB1 BK152.out hb)
   replace BK159:=zA (zB1 BK159.out hb)
   replace HK:=zA (kT (yC HK.out GW152.out GW159.out) (kU hb g none) (.inl rfl))
   replace HB:=zA (kQ (zW HB.out (Z76.ge HI0.out) GE152.out GE159.out) hb)
   replace HI0:=zA (Z76.below (Z76.uC HI0.out NB0_152.out NB0_159.out) hb)
   clear hb ho51
   obtain ⟨Ao52,co52,eo52⟩:=kM HO174.out
   (first | subst eo52 | (injection eo52 with f1_ f2_ f3_;have f4_:=f1_.symm;have f5_:=f3_.symm;clear f1_ f2_ f3_;subst f4_;subst f5_))
   refine hK.out _ _ ⟨(kV BK159.out 0).trans rfl,(kV BK159.out 1).trans rfl⟩ (fun hHeld=>?_)
   clear hK K
   refine norm_ (a' := ?_) ?_ ?_
   rotate_left
   ·show Act.put _ (some 66) _ = _
    simp only [Act.put,zL,zM,zN,i64_w,i32_w]
    rfl
   refine one_ (i:=4) (N:=some 67) #[true,true,true,true,true,false,false,false,false] rfl rfl (one_of HT_.out (by kernel_rfl)) (by decide) (fun K hK=>?_)
   refine goes_ Tryz.func36 (by kernel_rfl) rfl #[.pointer (some ⟨g,0,none⟩),.slice Ao52 y172.length co52] (by rfl) rfl rfl zg ?_
   with_reducible refine (spec_l01Pick.calls g s0_0 t164 t165 _ _ y172 t175 t176 t177 w0 _ ?side1 ?side2 ?side3 ?side4 ?side5 A38.out).mono ?_
   (case side1=>exact Z76.uC HI0.out NB0_152.out NB0_159.out)
   (case side2=>exact zW HB.out (Z76.ge HI0.out) GE152.out GE159.out)
   (case side3=>exact zS (kB HO174.out).2.2)
   (case side4=>exact (kB HO174.out).2.1)
   (case side5=>exact jJ (Z76.own_ne HI0.out HO174.out (by decide)))
   rintro e w53 ⟨rfl,hi,hb,hk⟩
   refine ⟨_,rfl,?_⟩
   replace BK152:=zA (zB2 hk BK152.out NB152_0.out)
   replace HO156:=zA (zB9 (Z76.apart (show Z76 w0 _ g s0_0 t164 t165 from Z76.uC HI0.out NB0_152.out NB0_159.out) (zP HO156.out) (by decide)) hk)
   replace BK159:=zA (zB2 hk BK159.out NB159_0.out)
   replace HO174:=zA (zB9 (Z76.apart (show Z76 w0 _ g s0_0 t164 t165 from Z76.uC HI0.out NB0_152.out NB0_159.out) (zP HO174.out) (by decide)) hk)
   replace HK:=zA (kT (yC HK.out GW152.out GW159.out) hk (.inl rfl))
   replace HB:=zA (hb)
   replace HI0:=zA (hi)
   (try clear hb)
   (try clear hb2)
   (try clear hk)
   (try clear hi)
   (try clear hgw)
   refine hK.out _ _ ⟨(kV BK159.out 0).trans rfl,(kV BK159.out 1).trans rfl⟩ (fun hHeld=>?_)
   clear hK K
   refine norm_ (a' := ?_) ?_ ?_
   rotate_left
   ·show Act.put _ (some 67) _ = _
    simp only [Act.put,zL,zM,zN,i64_w,i32_w]
    rfl
   refine one_ (i:=5) (N:=some 68) #[true,true,true,true,true,true,false,false,false] rfl rfl (one_of HT_.out (by kernel_rfl)) (by decide) (fun K hK=>?_)
   refine value_ (w1:=?_) (v:=?_) (by rfl) rfl ?_ ?_
   rotate_left 2
   ·go_simp
    constructor
    ·rfl
    rfl
   refine hK.out _ _ ⟨(kV (zI BK159.out _) 0).trans rfl,(kV (zI BK159.out _) 1).trans rfl⟩ (fun hHeld=>?_)
   clear hK K
   refine norm_ (a' := ?_) ?_ ?_
   rotate_left
   ·show Act.put _ (some 68) _ = _
    simp only [Act.put,zL,zM,zN,i64_w,i32_w]
    rfl
   refine one_ (i:=6) (N:=some 69) #[true,true,true,true,true,true,true,false,false] rfl rfl (one_of HT_.out (by kernel_rfl)) (by decide) (fun K hK=>?_)
   refine Kd.R_append_step (Kd.int .i64) w.heap.size (by rfl) (.tmp 64) (.tmp 68) 24 2 (.int .i64 0) 8 rfl Tryz.underlying24 info2 rfl (by decide) (by omega) (.slice Ao46 t154.length co46) t154 t175 [.int .i64 t175] (fun k_=>some k_ ≠ (.slice Ao52 y172.length co52:Value).ownBlock) (fun _=>False) rfl rfl ?aP (fun _ hk=>hk.elim) ?aF ?aO (kW _ _) ?aS ?aL ?_
   (case aP=>exact rfl)
   (case aF=>exact (fun k_ hk=>jF (kH (zP HO174.out)) k_ hk))
   (case aO=>exact (by (with_reducible repeat (first | apply zF | apply zG | apply zH));exact kA HO156.out (fun _ hk=>hk.2)))
   (case aS=>exact (kX (w:=w) (g:=g) (row:=none) (yC HK.out GW152.out GW159.out)))
   (case aL=>have:=LMc39.out;omega)
   intro v179 w54 ho hb hg hat
   rw [← Ny178.out] at ho
   replace BK152:=zA (blk_grown (g:=gb152) (o:=.cells #[.int .i64 0,.slice none 0 0] 26 (0,0)) (zR BK152.out) hg (Kd.R_ne HO156.out BK152.out (by decide)))
   replace BK159:=zA (blk_grown (g:=gb159) (o:=.cells #[.int .i64 t153,.slice Ao46 t154.length co46] 26 (0,0)) (zR BK159.out) hg (Kd.R_ne HO156.out BK159.out (by decide)))
   replace HO174:=zA (Kd.R_after (ok:=(fun _=>True)) (zP HO174.out) hg hat)
   replace HB:=zA (below_weaken (zW HB.out (Z76.ge HI0.out) GE152.out GE159.out) HL.out hb)
   replace HI0:=zA (Z76.grown (Z76.uC HI0.out NB0_152.out NB0_159.out) hg (Z76.own_ne HI0.out HO156.out (by decide)))
   replace HK:=zA (kT (yC HK.out GW152.out GW159.out) (KeepBut.of_grown hg g) (Kd.R_base2 HO156.out))
   have HO180:=zA (ho)
   clear HO156 ho hb hg hat
   obtain ⟨Ao55,co55,eo55⟩:=kM HO180.out
   (first | subst eo55 | (injection eo55 with f1_ f2_ f3_;have f4_:=f1_.symm;have f5_:=f3_.symm;clear f1_ f2_ f3_;subst f4_;subst f5_))
   refine hK.out _ _ ⟨(kV BK159.out 0).trans rfl,(kV BK159.out 1).trans rfl⟩ (fun hHeld=>?_)
   clear hK K
   refine norm_ (a' := ?_) ?_ ?_
   rotate_left
   ·show Act.put _ (some 69) _ = _
    simp only [Act.put,zL,zM,zN,i64_w,i32_w]
    rfl
   refine zp 7 (some 70) #[true,true,true,true,true,true,true,true,false] HT_.out ?_
   refine last_ (i:=8) (N:=none) #[true,true,true,true,true,true,true,true,true] rfl rfl (one_of HT_.out (by kernel_rfl)) (by decide) (fun K hK=>?_)
   have hs56:w54.cell? ⟨gb159,1,none⟩ = some (.slice Ao46 t154.length co46):=(kV BK159.out 1).trans rfl
   have hfs56:=jH BK159.out 1
   have hns56_0:=NB152_159.out
   have hms56_0:=NB159_152.out
   refine skip_ (w1:=?_) (by rfl) rfl ?_ ?_
   rotate_left
   ·go_simp
    rfl
   refine hK.out _ _ ?_
   clear hK K
   refine done_ (done_of HT_.out (by kernel_rfl)) ?_
   obtain ⟨hcz57_0,hcz57_1,hfz57_0,hfz57_1⟩:=zB3 BK159.out
   have hnb58:=NB152_0.out
   have hnc58:=NB0_152.out
   obtain ⟨hcz59_0,hcz59_1,hfz59_0,hfz59_1⟩:=zB3 BK152.out
   try go_wp2
   refine bodyPost_ret (results_cell_row rfl _ _ gb152 26 #[.int .i64 t153,.slice Ao55 y178.length co55] (0,0) _ rfl (by (with_reducible repeat (first | refine zJ ?_ _ | refine zK ?_ | refine zI ?_ _));refine blk_put (cs:=#[.int .i64 t153,.slice none 0 0]) ?_ 1 _ rfl;(with_reducible repeat (first | refine zJ ?_ _ | refine zK ?_ | refine zI ?_ _));refine blk_put (cs:=#[.int .i64 0,.slice none 0 0]) ?_ 0 _ rfl;(with_reducible repeat (first | refine zJ ?_ _ | refine zK ?_ | refine zI ?_ _));refine blk_far ?_ NB152_159.out _;(with_reducible repeat (first | refine zJ ?_ _ | refine zK ?_ | refine zI ?_ _));exact BK152.out) Tryz.underlying26 rfl (by kernel_rfl)) rfl ?_
   exact ⟨_,zr,by (with_reducible repeat (first | apply zF | apply zG | apply zH));exact kA (kY (p:=⟨gb152,1,none⟩) (kY (p:=⟨gb152,0,none⟩) (kY (p:=⟨gb159,1,none⟩) (kD (kD HO180.out BK159.out (by decide)) BK152.out (by decide)) (fun _ hk=>hk.1.2) (.slice Ao55 y178.length co55)) (fun _ hk=>hk.2) (.int .i64 t153)) (fun _ hk=>hk.2) (.slice Ao55 y178.length co55)) (fun _ hk=>trivial),by repeat (first | (with_reducible first | exact HI0.out | apply Z76.alloc | apply Z76.drewN | apply Z76.drew | apply Z76.set_1 | apply Z76.set_2 | refine Z76.far ?_ NB0_152.out _ | refine Z76.far ?_ NB0_159.out _) | exact HI0.out),zW HB.out (Z76.ge HI0.out) GE152.out GE159.out,by repeat (first | (with_reducible first | exact HK.out | apply KeepBut.set_ | apply keep_drewN | apply keep_drew | apply keep_alloc | refine keep_far ?_ GW152.out _ | refine keep_far ?_ GW159.out _) | exact HK.out)⟩
  rw [if_neg c39] at H
  exact absurd H (by simp)
 rw [if_neg c37] at H
 obtain ⟨c37b0,c37b1⟩:=zT2 c37
 by_cases c60:t153 > 0
 ·rw [if_pos c60] at H
  have c60b0:decide (0 < t153) = true:=decide_eq_true c60
  clear c60
  obtain ⟨⟨t181,t182,t183⟩,A61,H⟩:=zb H
  try dsimp only at H
  by_cases c62:0 ≤ t181
  ·rw [if_pos c62] at H
   have c62b0:decide (0 ≤ t181) = true:=decide_eq_true c62
   clear c62
   by_cases c63:t181 < (t154.length:Int)
   ·rw [if_pos c63] at H
    have c63b0:decide (t181 < (t154.length:Int)) = true:=decide_eq_true c63
    clear c63
    obtain ⟨t185,A64,H⟩:=zb H
    try dsimp only at H
    obtain ⟨t187,A65,H⟩:=zb H
    try dsimp only at H
    obtain ⟨t188,A66,H⟩:=zb H
    try dsimp only at H
    obtain ⟨⟨t189,t190,t191⟩,A67,H⟩:=zb H
    try dsimp only at H
    obtain ⟨y192,hy192⟩:∃ y_:List Int,y_ = (([wrap64 ((rd t154 t181) - t185),Go.bits .or .i64 (rd t154 t181) t187,t189,(-1)]:List Int)):=⟨_,rfl⟩
    replace H:((spec_l01Pick.f s0_0 t190 t191 y192).bind fun bt195=>(some (t153,(t154.set (t181:Int).toNat bt195.1),bt195.2.1,bt195.2.2))) = some (r1,r2,r3,r4):=zy hy192 H
    have Ny192:=zA hy192
    clear hy192
    obtain ⟨⟨t195,t196,t197⟩,A68,H⟩:=zb H
    try dsimp only at H
    obtain ⟨y198,hy198⟩:∃ y_:List Int,y_ = (t154.set (t181:Int).toNat t195):=⟨_,rfl⟩
    replace H:(some (t153,y198,t196,t197)) = some (r1,r2,r3,r4):=zy hy198 H
    have Ny198:=zA hy198
    clear hy198
    simp only [Option.some.injEq,Prod.mk.injEq] at H
    obtain ⟨rfl,rfl,rfl,rfl⟩:=H
    go_enter Tryz.func34,Tryz.ntmps34
    try go_wp2_with (first | (refine zBE 4 #[.int .i64 0,.slice none 0 0] 26 ?_;intro gb152 hg w70 hbox hb;replace HB:=zA (kQ (zT HB.out (Z76.ge HI0.out)) hb);have BK152:=zA (hbox);have GW152:=zA (zB6 hg (kX (w:=w) (g:=g) (row:=none) (yA HK.out)):w.heap.size ≤ gb152);have GE152:=zA ((Nat.le_trans HW0.out (by rw [hg];exact (kX (w:=w) (g:=g) (row:=none) (yA HK.out)):w.heap.size ≤ gb152):w0.heap.size ≤ gb152));replace HK:=zA (kT (yA HK.out) (kU hb g none) (.inl rfl));have NB0_152:=zA (zB7 hg (Z76.lt (show Z76 w0 _ g s0_0 s0_1 s0_2 from Z76.uA HI0.out)):g ≠ gb152);have NB152_0:=zA (zB8 hg (Z76.lt (show Z76 w0 _ g s0_0 s0_1 s0_2 from Z76.uA HI0.out)):gb152 ≠ g);replace HI0:=zA (Z76.below (Z76.uA HI0.out) hb);clear hb hbox hg) | (refine zO (some 9) Tryz.func60 #[.pointer (some ⟨g,0,none⟩),.int .i64 a1] ?_;(with_reducible refine (spec_l02Draw.calls k g s0_0 s0_1 s0_2 a1 t153 t154 t157 t158 w0 _ ?side1 ?side2 A3.out).mono ?_);(case side1=>exact Z76.uB HI0.out NB0_152.out);(case side2=>exact zV HB.out (Z76.ge HI0.out) GE152.out);rintro e w71 ⟨v155,rfl,ho0,hi,hb,hk⟩;refine ⟨_,rfl,?_⟩;replace BK152:=zA (zB2 hk BK152.out NB152_0.out);have HO156:=zA (kI ho0 (kX (w:=w) (g:=g) (row:=none) (yB HK.out GW152.out)));replace HK:=zA (kT (yB HK.out GW152.out) hk (.inl rfl));replace HB:=zA (hb);replace HI0:=zA (hi);(try clear hb);(try clear hk);(try clear hi);(try clear ho0)) | (refine zBE 5 #[.int .i64 0,.slice none 0 0] 26 ?_;intro gb159 hg w72 hbox hb;replace HO156:=zA (kL (zP HO156.out) hb);replace HB:=zA (kQ (zV HB.out (Z76.ge HI0.out) GE152.out) hb);have BK159:=zA (hbox);have GW159:=zA (zB6 hg (kX (w:=w) (g:=g) (row:=none) (yB HK.out GW152.out)):w.heap.size ≤ gb159);have GE159:=zA ((Nat.le_trans HW0.out (by rw [hg];exact (kX (w:=w) (g:=g) (row:=none) (yB HK.out GW152.out)):w.heap.size ≤ gb159):w0.heap.size ≤ gb159));replace HK:=zA (kT (yB HK.out GW152.out) (kU hb g none) (.inl rfl));have NB152_159:=zA (zB4 hg BK152.out:gb152 ≠ gb159);have NB159_152:=zA (zB5 hg BK152.out:gb159 ≠ gb152);replace BK152:=zA (zB1 BK152.out hb);have NB0_159:=zA (zB7 hg (Z76.lt (show Z76 w0 _ g s0_0 t157 t158 from Z76.uB HI0.out NB0_152.out)):g ≠ gb159);have NB159_0:=zA (zB8 hg (Z76.lt (show Z76 w0 _ g s0_0 t157 t158 from Z76.uB HI0.out NB0_152.out)):gb159 ≠ g);replace HI0:=zA (Z76.below (Z76.uB HI0.out NB0_152.out) hb);clear hb hbox hg;have hnb73:=NB159_152.out;have hnc73:=NB152_159.out;have hnb74:=NB159_0.out;have hnc74:=NB0_159.out;obtain ⟨hcz75_0,hcz75_1,hfz75_0,hfz75_1⟩:=zB3 BK159.out;obtain ⟨Ao76,co76,eo76⟩:=kM HO156.out;subst eo76) | (refine zO (some 11) Tryz.func35 #[.pointer (some ⟨g,0,none⟩),.int .i64 14] ?_;(with_reducible refine (spec_l01Next.calls g s0_0 t157 t158 14 t160 t161 t162 w0 _ ?side1 ?side2 A4.out).mono ?_);(case side1=>exact Z76.uC HI0.out NB0_152.out NB0_159.out);(case side2=>exact zW HB.out (Z76.ge HI0.out) GE152.out GE159.out);rintro e w77 ⟨rfl,hi,hb,hk⟩;refine ⟨_,rfl,?_⟩;replace BK152:=zA (KeepBut.blk hk (g' := gb152) (o:=.cells #[.int .i64 0,.slice none 0 0] 26 (0,0)) (zBG BK152.out NB152_159.out NB152_159.out) NB152_0.out (by simp));replace HO156:=zA (kA (Kd.R_keep (Z76.apart (show Z76 w0 _ g s0_0 t157 t158 from Z76.uC HI0.out NB0_152.out NB0_159.out) (zP (zFG HO156.out BK159.out (.int .i64 t153) (.slice Ao76 t154.length co76))) (by decide)) hk (fun _ h=>h.2)) (fun _ h=>h.1));replace BK159:=zA (KeepBut.blk hk (g' := gb159) (o:=.cells #[.int .i64 t153,.slice Ao76 t154.length co76] 26 (0,0)) (zRP BK159.out) NB159_0.out (by simp));replace HK:=zA (kT (yC HK.out GW152.out GW159.out) hk (.inl rfl));replace HB:=zA (hb);replace HI0:=zA (hi);(try clear hb);(try clear hk);(try clear hi)) | (refine zO (some 15) Tryz.func35 #[.pointer (some ⟨g,0,none⟩),.int .i64 4] ?_;(with_reducible refine (spec_l01Next.calls g s0_0 t161 t162 4 t163 t164 t165 w0 _ ?side1 ?side2 A17.out).mono ?_);(case side1=>exact Z76.uC HI0.out NB0_152.out NB0_159.out);(case side2=>exact zW HB.out (Z76.ge HI0.out) GE152.out GE159.out);rintro e w78 ⟨rfl,hi,hb,hk⟩;refine ⟨_,rfl,?_⟩;replace BK152:=zA (zB2 hk BK152.out NB152_0.out);replace HO156:=zA (zB9 (Z76.apart (show Z76 w0 _ g s0_0 t161 t162 from Z76.uC HI0.out NB0_152.out NB0_159.out) (zP HO156.out) (by decide)) hk);replace BK159:=zA (zB2 hk BK159.out NB159_0.out);replace HK:=zA (kT (yC HK.out GW152.out GW159.out) hk (.inl rfl));replace HB:=zA (hb);replace HI0:=zA (hi);(try clear hb);(try clear hk);(try clear hi);obtain ⟨hcz79_0,hcz79_1,hfz79_0,hfz79_1⟩:=zB3 BK159.out) | (refine zO (some 22) Tryz.func35 #[.pointer (some ⟨g,0,none⟩),.int .i64 t153] ?_;(with_reducible refine (spec_l01Next.calls g s0_0 t164 t165 t153 t181 t182 t183 w0 _ ?side1 ?side2 A61.out).mono ?_);(case side1=>exact Z76.uC HI0.out NB0_152.out NB0_159.out);(case side2=>exact zW HB.out (Z76.ge HI0.out) GE152.out GE159.out);rintro e w80 ⟨rfl,hi,hb,hk⟩;refine ⟨_,rfl,?_⟩;replace BK152:=zA (zB2 hk BK152.out NB152_0.out);replace HO156:=zA (zB9 (Z76.apart (show Z76 w0 _ g s0_0 t164 t165 from Z76.uC HI0.out NB0_152.out NB0_159.out) (zP HO156.out) (by decide)) hk);replace BK159:=zA (zB2 hk BK159.out NB159_0.out);replace HK:=zA (kT (yC HK.out GW152.out GW159.out) hk (.inl rfl));replace HB:=zA (hb);replace HI0:=zA (hi);(try clear hb);(try clear hk);(try clear hi)))
    replace HO156:=zA (zH HO156.out)
    replace BK152:=zA (zK BK152.out)
    replace BK159:=zA (zK BK159.out)
    replace HI0:=zA (Z76.drew HI0.out)
    replace HK:=zA (keep_drew HK.out)
    replace HB:=zA (zD HB.out)
    have p184:0 ≤ (t181:Int):=zd
    have q184:t181 < (t154.length:Int):=zd
    obtain ⟨ad184,e184,hx184_0⟩:=Kd.at_int (kB HO156.out).2.2 t181 p184 q184
    cases e184
    replace p184:=eq_true p184
    replace q184:=eq_true q184
    have p186:0 ≤ (t181:Int):=zd
    have q186:t181 < (t154.length:Int):=zd
    obtain ⟨ad186,e186,hx186_0⟩:=Kd.at_int (kB HO156.out).2.2 t181 p186 q186
    obtain rfl:ad184 = ad186:=(by injection e186)
    replace p186:=eq_true p186
    replace q186:=eq_true q186
    refine start_ (n:=30) (S:=fun w' => w'.cell? ⟨gb159,0,none⟩ = some (.int .i64 t153) ∧ w'.cell? ⟨gb159,1,none⟩ = some (.slice (some ad184) t154.length co76) ∧ w'.cell? (ad184.add (t181).toNat) = some (.int .i64 (rd t154 t181)) ∧ w'.cell? (ad184.add (t181).toNat) = some (.int .i64 (rd t154 t181))) (ds:=[29]) #[false,false,false,false,false,false,false,false,false,false,false,false,false,false,false,false,false,false,false,false,false,false,false,false,false,false,false,false,false,false] (by kernel_rfl) rfl rfl ⟨(kV BK159.out 0).trans rfl,(kV BK159.out 1).trans rfl,hx184_0,hx186_0⟩ (fun hHeld=>?_);refine with_tabW spec_l02Spoil.tab7 spec_l02Spoil.bits7 (fun HT_ HW_=>?_)
    generalize w80.drew = w81 at HO156 BK152 BK159 HI0 HK HB hx184_0 hx186_0 hHeld ⊢
    refine zp 0 (some 23) #[true,false,false,false,false,false,false,false,false,false,false,false,false,false,false,false,false,false,false,false,false,false,false,false,false,false,false,false,false,false] HT_.out ?_
    refine zp 2 (some 25) #[true,false,true,false,false,false,false,false,false,false,false,false,false,false,false,false,false,false,false,false,false,false,false,false,false,false,false,false,false,false] HT_.out ?_
    refine zp 3 (some 26) #[true,false,true,true,false,false,false,false,false,false,false,false,false,false,false,false,false,false,false,false,false,false,false,false,false,false,false,false,false,false] HT_.out ?_
    refine zp 4 (some 27) #[true,false,true,true,true,false,false,false,false,false,false,false,false,false,false,false,false,false,false,false,false,false,false,false,false,false,false,false,false,false] HT_.out ?_
    refine zp 6 (some 29) #[true,false,true,true,true,false,true,false,false,false,false,false,false,false,false,false,false,false,false,false,false,false,false,false,false,false,false,false,false,false] HT_.out ?_
    refine zp 9 (some 32) #[true,false,true,true,true,false,true,false,false,true,false,false,false,false,false,false,false,false,false,false,false,false,false,false,false,false,false,false,false,false] HT_.out ?_
    refine zp 12 (some 35) #[true,false,true,true,true,false,true,false,false,true,false,false,true,false,false,false,false,false,false,false,false,false,false,false,false,false,false,false,false,false] HT_.out ?_
    refine zp 14 (some 37) #[true,false,true,true,true,false,true,false,false,true,false,false,true,false,true,false,false,false,false,false,false,false,false,false,false,false,false,false,false,false] HT_.out ?_
    refine zp 17 (some 40) #[true,false,true,true,true,false,true,false,false,true,false,false,true,false,true,false,false,true,false,false,false,false,false,false,false,false,false,false,false,false] HT_.out ?_
    refine zp 21 (some 44) #[true,false,true,true,true,false,true,false,false,true,false,false,true,false,true,false,false,true,false,false,false,true,false,false,false,false,false,false,false,false] HT_.out ?_
    refine zp 22 (some 45) #[true,false,true,true,true,false,true,false,false,true,false,false,true,false,true,false,false,true,false,false,false,true,true,false,false,false,false,false,false,false] HT_.out ?_
    refine zf 1 (some 24) #[true,true,true,true,true,false,true,false,false,true,false,false,true,false,true,false,false,true,false,false,false,true,true,false,false,false,false,false,false,false] HT_.out HW_.out hHeld ?_
    refine zf 5 (some 28) #[true,true,true,true,true,true,true,false,false,true,false,false,true,false,true,false,false,true,false,false,false,true,true,false,false,false,false,false,false,false] HT_.out HW_.out hHeld ?_
    refine zp 7 (some 30) #[true,true,true,true,true,true,true,true,false,true,false,false,true,false,true,false,false,true,false,false,false,true,true,false,false,false,false,false,false,false] HT_.out ?_
    refine zf 8 (some 31) #[true,true,true,true,true,true,true,true,true,true,false,false,true,false,true,false,false,true,false,false,false,true,true,false,false,false,false,false,false,false] HT_.out HW_.out hHeld ?_
    refine zf 13 (some 36) #[true,true,true,true,true,true,true,true,true,true,false,false,true,true,true,false,false,true,false,false,false,true,true,false,false,false,false,false,false,false] HT_.out HW_.out hHeld ?_
    refine zp 15 (some 38) #[true,true,true,true,true,true,true,true,true,true,false,false,true,true,true,true,false,true,false,false,false,true,true,false,false,false,false,false,false,false] HT_.out ?_
    refine zf 16 (some 39) #[true,true,true,true,true,true,true,true,true,true,false,false,true,true,true,true,true,true,false,false,false,true,true,false,false,false,false,false,false,false] HT_.out HW_.out hHeld ?_
    refine zf 18 (some 41) #[true,true,true,true,true,true,true,true,true,true,false,false,true,true,true,true,true,true,true,false,false,true,true,false,false,false,false,false,false,false] HT_.out HW_.out hHeld ?_
    refine zf 23 (some 46) #[true,true,true,true,true,true,true,true,true,true,false,false,true,true,true,true,true,true,true,false,false,true,true,true,false,false,false,false,false,false] HT_.out HW_.out hHeld ?_
    refine one_ (i:=10) (N:=some 33) #[true,true,true,true,true,true,true,true,true,true,true,false,true,true,true,true,true,true,true,false,false,true,true,true,false,false,false,false,false,false] rfl rfl (one_of HT_.out (by kernel_rfl)) (by decide) (fun K hK=>?_)
    refine goes_ Tryz.func61 (by kernel_rfl) rfl #[.int .i64 t181] (by rfl) rfl rfl zg ?_
    with_reducible refine (spec_l01One.calls t181 t185 _ A64.out).mono ?_
    rintro e w' ⟨rfl,⟨nd,rfl⟩⟩
    refine ⟨_,rfl,?_⟩
    refine hK.out _ _ ⟨(kV BK159.out 0).trans rfl,(kV BK159.out 1).trans rfl,hHeld.2.2.1,hHeld.2.2.2⟩ (fun hHeld=>?_)
    clear hK K
    refine norm_ (a' := ?_) ?_ ?_
    rotate_left
    ·show Act.put _ (some 33) _ = _
     simp only [Act.put,zL,zM,zN,i64_w,i32_w]
     rfl
    refine zp 11 (some 34) #[true,true,true,true,true,true,true,true,true,true,true,true,true,true,true,true,true,true,true,false,false,true,true,true,false,false,false,false,false,false] HT_.out ?_
    refine one_ (i:=19) (N:=some 42) #[true,true,true,true,true,true,true,true,true,true,true,true,true,true,true,true,true,true,true,true,false,true,true,true,false,false,false,false,false,false] rfl rfl (one_of HT_.out (by kernel_rfl)) (by decide) (fun K hK=>?_)
    refine goes_ Tryz.func61 (by kernel_rfl) rfl #[.int .i64 t153] (by rfl) rfl rfl zg ?_
    with_reducible refine (spec_l01One.calls t153 t187 _ A65.out).mono ?_
    rintro e w' ⟨rfl,⟨nd,rfl⟩⟩
    refine ⟨_,rfl,?_⟩
    refine hK.out _ _ ⟨(kV BK159.out 0).trans rfl,(kV BK159.out 1).trans rfl,hHeld.2.2.1,hHeld.2.2.2⟩ (fun hHeld=>?_)
    clear hK K
    refine norm_ (a' := ?_) ?_ ?_
    rotate_left
    ·show Act.put _ (some 42) _ = _
     simp only [Act.put,zL,zM,zN,i64_w,i32_w]
     rfl
    refine zp 20 (some 43) #[true,true,true,true,true,true,true,true,true,true,true,true,true,true,true,true,true,true,true,true,true,true,true,true,false,false,false,false,false,false] HT_.out ?_
    refine one_ (i:=24) (N:=some 47) #[true,true,true,true,true,true,true,true,true,true,true,true,true,true,true,true,true,true,true,true,true,true,true,true,true,false,false,false,false,false] rfl rfl (one_of HT_.out (by kernel_rfl)) (by decide) (fun K hK=>?_)
    refine goes_ Tryz.func61 (by kernel_rfl) rfl #[.int .i64 t153] (by rfl) rfl rfl zg ?_
    with_reducible refine (spec_l01One.calls t153 t188 _ A66.out).mono ?_
    rintro e w' ⟨rfl,⟨nd,rfl⟩⟩
    refine ⟨_,rfl,?_⟩
    refine hK.out _ _ ⟨(kV BK159.out 0).trans rfl,(kV BK159.out 1).trans rfl,hHeld.2.2.1,hHeld.2.2.2⟩ (fun hHeld=>?_)
    clear hK K
    refine norm_ (a' := ?_) ?_ ?_
    rotate_left
    ·show Act.put _ (some 47) _ = _
     simp only [Act.put,zL,zM,zN,i64_w,i32_w]
     rfl
    refine one_ (i:=25) (N:=some 48) #[true,true,true,true,true,true,true,true,true,true,true,true,true,true,true,true,true,true,true,true,true,true,true,true,true,true,false,false,false,false] rfl rfl (one_of HT_.out (by kernel_rfl)) (by decide) (fun K hK=>?_)
    refine goes_ Tryz.func35 (by kernel_rfl) rfl #[.pointer (some ⟨g,0,none⟩),.int .i64 t188] (by rfl) rfl rfl zg ?_
    with_reducible refine (spec_l01Next.calls g s0_0 t182 t183 t188 t189 t190 t191 w0 _ ?side1 ?side2 A67.out).mono ?_
    (case side1=>exact Z76.uC HI0.out NB0_152.out NB0_159.out)
    (case side2=>exact zW HB.out (Z76.ge HI0.out) GE152.out GE159.out)
    rintro e w82 ⟨rfl,hi,hb,hk⟩
    have HS2_:=keep_cell hk (hHeld.2.2.1) (by first | (rw [add_block];exact Kd.own_blk (Z76.own_ne HI0.out HO156.out (by decide))) | (show (Addr.add _ _).block ≠ _;rw [add_block];exact Kd.own_blk (Z76.own_ne HI0.out HO156.out (by decide))) | exact Kd.own_blk (Z76.own_ne HI0.out HO156.out (by decide)))
    have HS3_:=keep_cell hk (hHeld.2.2.2) (by first | (rw [add_block];exact Kd.own_blk (Z76.own_ne HI0.out HO156.out (by decide))) | (show (Addr.add _ _).block ≠ _;rw [add_block];exact Kd.own_blk (Z76.own_ne HI0.out HO156.out (by decide))) | exact Kd.own_blk (Z76.own_ne HI0.out HO156.out (by decide)))
    refine ⟨_,rfl,?_⟩
    replace BK152:=zA (zB2 hk BK152.out NB152_0.out)
    replace HO156:=zA (zB9 (Z76.apart (show Z76 w0 _ g s0_0 t182 t183 from Z76.uC HI0.out NB0_152.out NB0_159.out) (zP HO156.out) (by decide)) hk)
    replace BK159:=zA (zB2 hk BK159.out NB159_0.out)
    replace HK:=zA (kT (yC HK.out GW152.out GW159.out) hk (.inl rfl))
    replace HB:=zA (hb)
    replace HI0:=zA (hi)
    (try clear hb)
    (try clear hb2)
    (try clear hk)
    (try clear hi)
    (try clear hgw)
    refine hK.out _ _ ⟨(kV BK159.out 0).trans rfl,(kV BK159.out 1).trans rfl,HS2_,HS3_⟩ (fun hHeld=>?_)
    clear hK K
    refine norm_ (a' := ?_) ?_ ?_
    rotate_left
    ·show Act.put _ (some 48) _ = _
     simp only [Act.put,zL,zM,zN,i64_w,i32_w]
     rfl
    refine one_ (i:=26) (N:=some 49) #[true,true,true,true,true,true,true,true,true,true,true,true,true,true,true,true,true,true,true,true,true,true,true,true,true,true,true,false,false,false] rfl rfl (one_of HT_.out (by kernel_rfl)) (by decide) (fun K hK=>?_)
    refine Kd.R_lit_step (Kd.int .i64) _ 2 ?hg (N:=49) ?hd (xs:=([wrap64 ((rd t154 t181) - t185),Go.bits .or .i64 (rd t154 t181) t187,t189,(-1)]:List Int)) (inner:=[.int .i64 (wrap64 ((rd t154 t181) - t185)),.int .i64 (Go.bits .or .i64 (rd t154 t181) t187),.int .i64 t189,.int .i64 (-1)]) (ok:=fun _=>True) (okp:=fun _=>True) ?hr ?hp (fun _ hk=>hk) trivial (kW _ _) (Nat.le_refl _) (by simp) ?_;(case hd=>rfl);(case hg=>rfl);(case hr=>first | (go_simp;done) | (go_simp;rfl));(case hp=>exact (Reps.one (show Kd.M (Kd.int .i64) _ _ _ (wrap64 ((rd t154 t181) - t185)) [.int .i64 (wrap64 ((rd t154 t181) - t185))] from rfl) (Reps.one (show Kd.M (Kd.int .i64) _ _ _ (Go.bits .or .i64 (rd t154 t181) t187) [.int .i64 (Go.bits .or .i64 (rd t154 t181) t187)] from rfl) (Reps.one (show Kd.M (Kd.int .i64) _ _ _ t189 [.int .i64 t189] from rfl) (Reps.one (show Kd.M (Kd.int .i64) _ _ _ (-1) [.int .i64 (-1)] from rfl) (Reps.none _ _))))))
    intro v193 w83 ho84 hb hg_ hnew_
    have HS2_:=(hb.cell (jG _ _ (hHeld.2.2.1))).trans (hHeld.2.2.1)
    have HS3_:=(hb.cell (jG _ _ (hHeld.2.2.2))).trans (hHeld.2.2.2)
    clear hg_ hnew_
    (first | rw [← Ny192.out] at ho84 | (simp only [Int.reduceToNat] at ho84;rw [← Ny192.out] at ho84))
    have HO194:=zA (kI (kF ho84 (kH (zP HO156.out))) (kX (w:=w) (g:=g) (row:=none) (yC HK.out GW152.out GW159.out)))
    replace HO156:=zA (kE (zP HO156.out) (kC ho84) hb)
    replace BK152:=zA (zB1 BK152.out hb)
    replace BK159:=zA (zB1 BK159.out hb)
    replace HK:=zA (kT (yC HK.out GW152.out GW159.out) (kU hb g none) (.inl rfl))
    replace HB:=zA (kQ (zW HB.out (Z76.ge HI0.out) GE152.out GE159.out) hb)
    replace HI0:=zA (Z76.below (Z76.uC HI0.out NB0_152.out NB0_159.out) hb)
    clear hb ho84
    obtain ⟨Ao85,co85,eo85⟩:=kM HO194.out
    (first | subst eo85 | (injection eo85 with f1_ f2_ f3_;have f4_:=f1_.symm;have f5_:=f3_.symm;clear f1_ f2_ f3_;subst f4_;subst f5_))
    refine hK.out _ _ ⟨(kV BK159.out 0).trans rfl,(kV BK159.out 1).trans rfl,HS2_,HS3_⟩ (fun hHeld=>?_)
    clear hK K
    refine norm_ (a' := ?_) ?_ ?_
    rotate_left
    ·show Act.put _ (some 49) _ = _
     simp only [Act.put,zL,zM,zN,i64_w,i32_w]
     rfl
    refine one_ (i:=27) (N:=some 50) #[true,true,true,true,true,true,true,true,true,true,true,true,true,true,true,true,true,true,true,true,true,true,true,true,true,true,true,true,false,false] rfl rfl (one_of HT_.out (by kernel_rfl)) (by decide) (fun K hK=>?_)
    refine goes_ Tryz.func36 (by kernel_rfl) rfl #[.pointer (some ⟨g,0,none⟩),.slice Ao85 y192.length co85] (by rfl) rfl rfl zg ?_
    with_reducible refine (spec_l01Pick.calls g s0_0 t190 t191 _ _ y192 t195 t196 t197 w0 _ ?side1 ?side2 ?side3 ?side4 ?side5 A68.out).mono ?_
    (case side1=>exact Z76.uC HI0.out NB0_152.out NB0_159.out)
    (case side2=>exact zW HB.out (Z76.ge HI0.out) GE152.out GE159.out)
    (case side3=>exact zS (kB HO194.out).2.2)
    (case side4=>exact (kB HO194.out).2.1)
    (case side5=>exact jJ (Z76.own_ne HI0.out HO194.out (by decide)))
    rintro e w86 ⟨rfl,hi,hb,hk⟩
    have HS2_:=keep_cell hk (hHeld.2.2.1) (by first | (rw [add_block];exact Kd.own_blk (Z76.own_ne HI0.out HO156.out (by decide))) | (show (Addr.add _ _).block ≠ _;rw [add_block];exact Kd.own_blk (Z76.own_ne HI0.out HO156.out (by decide))) | exact Kd.own_blk (Z76.own_ne HI0.out HO156.out (by decide)))
    have HS3_:=keep_cell hk (hHeld.2.2.2) (by first | (rw [add_block];exact Kd.own_blk (Z76.own_ne HI0.out HO156.out (by decide))) | (show (Addr.add _ _).block ≠ _;rw [add_block];exact Kd.own_blk (Z76.own_ne HI0.out HO156.out (by decide))) | exact Kd.own_blk (Z76.own_ne HI0.out HO156.out (by decide)))
    refine ⟨_,rfl,?_⟩
    replace BK152:=zA (zB2 hk BK152.out NB152_0.out)
    replace HO156:=zA (zB9 (Z76.apart (show Z76 w0 _ g s0_0 t190 t191 from Z76.uC HI0.out NB0_152.out NB0_159.out) (zP HO156.out) (by decide)) hk)
    replace BK159:=zA (zB2 hk BK159.out NB159_0.out)
    replace HO194:=zA (zB9 (Z76.apart (show Z76 w0 _ g s0_0 t190 t191 from Z76.uC HI0.out NB0_152.out NB0_159.out) (zP HO194.out) (by decide)) hk)
    replace HK:=zA (kT (yC HK.out GW152.out GW159.out) hk (.inl rfl))
    replace HB:=zA (hb)
    replace HI0:=zA (hi)
    (try clear hb)
    (try clear hb2)
    (try clear hk)
    (try clear hi)
    (try clear hgw)
    have p69:0 ≤ (t181:Int):=zd
    have q69:(t181:Int) < ((t154.length:Int):Int):=zd
    obtain ⟨go69,co69,eo69,gb69,gl69,cl69,HG69⟩:=Kd.R_form HO156.out (by omega)
    (first | cases eo69 | (injection eo69 with ea_ en_ ec_;(first | subst ea_ | (injection ea_ with ea_;subst ea_));subst ec_;clear en_))
    have GB69:=zA gb69
    have GG69:=zA HG69
    clear gb69 gl69 HG69
    (first | simp only [add_plain] at hx184_0 | skip)
    (first | simp only [add_plain] at hx186_0 | skip)
    obtain ⟨hx69_0,hf69_0⟩:=Kd.R_celln 0 HO156.out (t181:Int) p69 q69
    replace p69:=eq_true p69
    replace q69:=eq_true q69
    have HN0_go69:=zA (show g ≠ go69 from by have h_:=Z76.own_ne HI0.out HO156.out (by decide);intro e_;exact h_ (by rw [e_];rfl))
    have HP87:=Kd.R_putn HO156.out (t181:Int) t195
    rw [← Ny198.out] at HP87
    have HQ87:=zA HP87
    clear HP87
    refine hK.out _ _ ⟨(kV BK159.out 0).trans rfl,(kV BK159.out 1).trans rfl,HS2_,HS3_⟩ (fun hHeld=>?_)
    clear hK K
    refine norm_ (a' := ?_) ?_ ?_
    rotate_left
    ·show Act.put _ (some 50) _ = _
     simp only [Act.put,zL,zM,zN,i64_w,i32_w]
     rfl
    refine zp 28 (some 51) #[true,true,true,true,true,true,true,true,true,true,true,true,true,true,true,true,true,true,true,true,true,true,true,true,true,true,true,true,true,false] HT_.out ?_
    refine last_ (i:=29) (N:=none) #[true,true,true,true,true,true,true,true,true,true,true,true,true,true,true,true,true,true,true,true,true,true,true,true,true,true,true,true,true,true] rfl rfl (one_of HT_.out (by kernel_rfl)) (by decide) (fun K hK=>?_)
    refine skip_ (w1:=?_) (by rfl) rfl ?_ ?_
    rotate_left
    ·go_simp
     rfl
    refine hK.out _ _ ?_
    clear hK K
    refine done_ (done_of HT_.out (by kernel_rfl)) ?_
    have n0_:Aside0 (Kd.R (Kd.int .i64) 2 (w86.setCell ⟨go69,(t181:Int).toNat,none⟩ (.int .i64 t195)) w.heap.size (fun k_=>some k_ ≠ (.slice Ao85 y192.length co85:Value).ownBlock) (.slice (some ⟨go69,0,none⟩) t154.length co76) y198):=⟨zPM HQ87.out (fun _ hk=>hk.2)⟩
    have n1_:Aside0 (Kd.R (Kd.int .i64) 2 (w86.setCell ⟨go69,(t181:Int).toNat,none⟩ (.int .i64 t195)) w.heap.size (fun k_=>some k_ ≠ (.slice (some ⟨go69,0,none⟩) t154.length co76:Value).ownBlock) (.slice Ao85 y192.length co85) y192):=⟨by (with_reducible repeat (first | apply zF | apply zG | apply zH));exact kA (kY (p:=⟨go69,(t181:Int).toNat,none⟩) (kA HO194.out (fun k_ hk=>(⟨hk,fun e_=>hk.2 (by rw [e_];rfl)⟩:_ ∧ k_ ≠ go69))) (fun _ hk=>hk.2) (.int .i64 t195)) (fun _ hk=>hk.1.2)⟩
    have n2_:Aside0 ((w86.setCell ⟨go69,(t181:Int).toNat,none⟩ (.int .i64 t195)).heap[gb152]? = some (.cells #[.int .i64 0,.slice none 0 0] 26 (0,0))):=⟨by (with_reducible repeat (first | refine zJ ?_ _ | refine zK ?_ | refine zI ?_ _));refine blk_far ?_ (by have h_:=Kd.R_ne HO156.out BK152.out (by decide);intro e_;exact h_ (by rw [e_];rfl)) _;(with_reducible repeat (first | refine zJ ?_ _ | refine zK ?_ | refine zI ?_ _));exact BK152.out⟩
    have n3_:Aside0 ((w86.setCell ⟨go69,(t181:Int).toNat,none⟩ (.int .i64 t195)).heap[gb159]? = some (.cells #[.int .i64 t153,.slice (some ⟨go69,0,none⟩) t154.length co76] 26 (0,0))):=⟨by (with_reducible repeat (first | refine zJ ?_ _ | refine zK ?_ | refine zI ?_ _));refine blk_far ?_ (by have h_:=Kd.R_ne HO156.out BK159.out (by decide);intro e_;exact h_ (by rw [e_];rfl)) _;(with_reducible repeat (first | refine zJ ?_ _ | refine zK ?_ | refine zI ?_ _));exact BK159.out⟩
    have n4_:Aside0 (Z76 w0 (w86.setCell ⟨go69,(t181:Int).toNat,none⟩ (.int .i64 t195)) g s0_0 t196 t197):=⟨by repeat (first | (with_reducible first | exact HI0.out | apply Z76.alloc | apply Z76.drewN | apply Z76.drew | apply Z76.set_1 | apply Z76.set_2 | refine Z76.far ?_ HN0_go69.out _ | refine Z76.far ?_ NB0_152.out _ | refine Z76.far ?_ NB0_159.out _) | exact HI0.out)⟩
    have n5_:Aside0 (KeepBut w (w86.setCell ⟨go69,(t181:Int).toNat,none⟩ (.int .i64 t195)) g none):=⟨by repeat (first | (with_reducible first | exact HK.out | apply KeepBut.set_ | apply keep_drewN | apply keep_drew | apply keep_alloc | refine keep_far ?_ GB69.out _ | refine keep_far ?_ GW152.out _ | refine keep_far ?_ GW159.out _) | exact HK.out)⟩
    have n6_:Aside0 (Below w0.heap.size w0 (w86.setCell ⟨go69,(t181:Int).toNat,none⟩ (.int .i64 t195))):=⟨by repeat (first | (with_reducible first | exact HB.out | apply zB | apply zC | apply zD | refine zE ?_ (Nat.le_trans HL.out GB69.out) | refine zE ?_ (Z76.ge HI0.out) | refine zE ?_ GE152.out | refine zE ?_ GE159.out) | exact HB.out)⟩
    (try clear HO156)
    (try clear HO194)
    (try clear BK152)
    (try clear BK159)
    (try clear HI0)
    (try clear HK)
    (try clear HB)
    generalize (w86.setCell ⟨go69,(t181:Int).toNat,none⟩ (.int .i64 t195)) = w88 at n0_ n1_ n2_ n3_ n4_ n5_ n6_ ⊢
    have HO156:=n0_
    have HO194:=n1_
    have BK152:=n2_
    have BK159:=n3_
    have HI0:=n4_
    have HK:=n5_
    have HB:=n6_
    clear n0_ n1_ n2_ n3_ n4_ n5_ n6_
    obtain ⟨hcz89_0,hcz89_1,hfz89_0,hfz89_1⟩:=zB3 BK159.out
    have hnb90:=NB152_0.out
    have hnc90:=NB0_152.out
    obtain ⟨hcz91_0,hcz91_1,hfz91_0,hfz91_1⟩:=zB3 BK152.out
    try go_wp2
    refine bodyPost_ret (results_cell_row rfl _ _ gb152 26 #[.int .i64 t153,.slice (some ⟨go69,0,none⟩) t154.length co76] (0,0) _ rfl (zRP BK152.out) Tryz.underlying26 rfl (by kernel_rfl)) rfl ?_
    exact ⟨_,zr,by (with_reducible repeat (first | apply zF | apply zG | apply zH));exact kA (kY (p:=⟨gb152,1,none⟩) (kY (p:=⟨gb152,0,none⟩) (kD HO156.out BK152.out (by decide)) (fun _ hk=>hk.2) (.int .i64 t153)) (fun _ hk=>hk.2) (.slice (some ⟨go69,0,none⟩) t154.length co76)) (fun _ hk=>trivial),by repeat (first | (with_reducible first | exact HI0.out | apply Z76.alloc | apply Z76.drewN | apply Z76.drew | apply Z76.set_1 | apply Z76.set_2 | refine Z76.far ?_ NB0_152.out _ | refine Z76.far ?_ NB0_159.out _) | exact HI0.out),zW HB.out (Z76.ge HI0.out) GE152.out GE159.out,by repeat (first | (with_reducible first | exact HK.out | apply KeepBut.set_ | apply keep_drewN | apply keep_drew | apply keep_alloc | refine keep_far ?_ GW152.out _ | refine keep_far ?_ GW159.out _) | exact HK.out)⟩
   rw [if_neg c63] at H
   exact absurd H (by simp)
  rw [if_neg c62] at H
  exact absurd H (by simp)
 rw [if_neg c60] at H
 have c60b0:decide (0 < t153) = false:=decide_eq_false c60
 clear c60
 simp only [Option.some.injEq,Prod.mk.injEq] at H
 obtain ⟨rfl,rfl,rfl,rfl⟩:=H
 go_enter Tryz.func34,Tryz.ntmps34
 go_wp2_with (first | (refine zBE 4 #[.int .i64 0,.slice none 0 0] 26 ?_;intro gb152 hg w92 hbox hb;replace HB:=zA (kQ (zT HB.out (Z76.ge HI0.out)) hb);have BK152:=zA (hbox);have GW152:=zA (zB6 hg (kX (w:=w) (g:=g) (row:=none) (yA HK.out)):w.heap.size ≤ gb152);have GE152:=zA ((Nat.le_trans HW0.out (by rw [hg];exact (kX (w:=w) (g:=g) (row:=none) (yA HK.out)):w.heap.size ≤ gb152):w0.heap.size ≤ gb152));replace HK:=zA (kT (yA HK.out) (kU hb g none) (.inl rfl));have NB0_152:=zA (zB7 hg (Z76.lt (show Z76 w0 _ g s0_0 s0_1 s0_2 from Z76.uA HI0.out)):g ≠ gb152);have NB152_0:=zA (zB8 hg (Z76.lt (show Z76 w0 _ g s0_0 s0_1 s0_2 from Z76.uA HI0.out)):gb152 ≠ g);replace HI0:=zA (Z76.below (Z76.uA HI0.out) hb);clear hb hbox hg) | (refine zO (some 9) Tryz.func60 #[.pointer (some ⟨g,0,none⟩),.int .i64 a1] ?_;(with_reducible refine (spec_l02Draw.calls k g s0_0 s0_1 s0_2 a1 t153 t154 t157 t158 w0 _ ?side1 ?side2 A3.out).mono ?_);(case side1=>exact Z76.uB HI0.out NB0_152.out);(case side2=>exact zV HB.out (Z76.ge HI0.out) GE152.out);rintro e w93 ⟨v155,rfl,ho0,hi,hb,hk⟩;refine ⟨_,rfl,?_⟩;replace BK152:=zA (zB2 hk BK152.out NB152_0.out);have HO156:=zA (kI ho0 (kX (w:=w) (g:=g) (row:=none) (yB HK.out GW152.out)));replace HK:=zA (kT (yB HK.out GW152.out) hk (.inl rfl));replace HB:=zA (hb);replace HI0:=zA (hi);(try clear hb);(try clear hk);(try clear hi);(try clear ho0)) | (refine zBE 5 #[.int .i64 0,.slice none 0 0] 26 ?_;intro gb159 hg w94 hbox hb;replace HO156:=zA (kL (zP HO156.out) hb);replace HB:=zA (kQ (zV HB.out (Z76.ge HI0.out) GE152.out) hb);have BK159:=zA (hbox);have GW159:=zA (zB6 hg (kX (w:=w) (g:=g) (row:=none) (yB HK.out GW152.out)):w.heap.size ≤ gb159);have GE159:=zA ((Nat.le_trans HW0.out (by rw [hg];exact (kX (w:=w) (g:=g) (row:=none) (yB HK.out GW152.out)):w.heap.size ≤ gb159):w0.heap.size ≤ gb159));replace HK:=zA (kT (yB HK.out GW152.out) (kU hb g none) (.inl rfl));have NB152_159:=zA (zB4 hg BK152.out:gb152 ≠ gb159);have NB159_152:=zA (zB5 hg BK152.out:gb159 ≠ gb152);replace BK152:=zA (zB1 BK152.out hb);have NB0_159:=zA (zB7 hg (Z76.lt (show Z76 w0 _ g s0_0 t157 t158 from Z76.uB HI0.out NB0_152.out)):g ≠ gb159);have NB159_0:=zA (zB8 hg (Z76.lt (show Z76 w0 _ g s0_0 t157 t158 from Z76.uB HI0.out NB0_152.out)):gb159 ≠ g);replace HI0:=zA (Z76.below (Z76.uB HI0.out NB0_152.out) hb);clear hb hbox hg;have hnb95:=NB159_152.out;have hnc95:=NB152_159.out;have hnb96:=NB159_0.out;have hnc96:=NB0_159.out;obtain ⟨hcz97_0,hcz97_1,hfz97_0,hfz97_1⟩:=zB3 BK159.out;obtain ⟨Ao98,co98,eo98⟩:=kM HO156.out;subst eo98) | (refine zO (some 11) Tryz.func35 #[.pointer (some ⟨g,0,none⟩),.int .i64 14] ?_;(with_reducible refine (spec_l01Next.calls g s0_0 t157 t158 14 t160 t161 t162 w0 _ ?side1 ?side2 A4.out).mono ?_);(case side1=>exact Z76.uC HI0.out NB0_152.out NB0_159.out);(case side2=>exact zW HB.out (Z76.ge HI0.out) GE152.out GE159.out);rintro e w99 ⟨rfl,hi,hb,hk⟩;refine ⟨_,rfl,?_⟩;replace BK152:=zA (KeepBut.blk hk (g' := gb152) (o:=.cells #[.int .i64 0,.slice none 0 0] 26 (0,0)) (zBG BK152.out NB152_159.out NB152_159.out) NB152_0.out (by simp));replace HO156:=zA (kA (Kd.R_keep (Z76.apart (show Z76 w0 _ g s0_0 t157 t158 from Z76.uC HI0.out NB0_152.out NB0_159.out) (zP (zFG HO156.out BK159.out (.int .i64 t153) (.slice Ao98 t154.length co98))) (by decide)) hk (fun _ h=>h.2)) (fun _ h=>h.1));replace BK159:=zA (KeepBut.blk hk (g' := gb159) (o:=.cells #[.int .i64 t153,.slice Ao98 t154.length co98] 26 (0,0)) (zRP BK159.out) NB159_0.out (by simp));replace HK:=zA (kT (yC HK.out GW152.out GW159.out) hk (.inl rfl));replace HB:=zA (hb);replace HI0:=zA (hi);(try clear hb);(try clear hk);(try clear hi)) | (refine zO (some 15) Tryz.func35 #[.pointer (some ⟨g,0,none⟩),.int .i64 4] ?_;(with_reducible refine (spec_l01Next.calls g s0_0 t161 t162 4 t163 t164 t165 w0 _ ?side1 ?side2 A17.out).mono ?_);(case side1=>exact Z76.uC HI0.out NB0_152.out NB0_159.out);(case side2=>exact zW HB.out (Z76.ge HI0.out) GE152.out GE159.out);rintro e w100 ⟨rfl,hi,hb,hk⟩;refine ⟨_,rfl,?_⟩;replace BK152:=zA (zB2 hk BK152.out NB152_0.out);replace HO156:=zA (zB9 (Z76.apart (show Z76 w0 _ g s0_0 t161 t162 from Z76.uC HI0.out NB0_152.out NB0_159.out) (zP HO156.out) (by decide)) hk);replace BK159:=zA (zB2 hk BK159.out NB159_0.out);replace HK:=zA (kT (yC HK.out GW152.out GW159.out) hk (.inl rfl));replace HB:=zA (hb);replace HI0:=zA (hi);(try clear hb);(try clear hk);(try clear hi);obtain ⟨hcz101_0,hcz101_1,hfz101_0,hfz101_1⟩:=zB3 BK159.out;have hnb102:=NB152_0.out;have hnc102:=NB0_152.out;obtain ⟨hcz103_0,hcz103_1,hfz103_0,hfz103_1⟩:=zB3 BK152.out))
 refine bodyPost_ret (results_cell_row rfl _ _ gb152 26 #[.int .i64 t153,.slice Ao98 t154.length co98] (0,0) _ rfl (zRP BK152.out) Tryz.underlying26 rfl (by kernel_rfl)) rfl ?_
 exact ⟨_,zr,by (with_reducible repeat (first | apply zF | apply zG | apply zH));exact kA (kY (p:=⟨gb152,1,none⟩) (kY (p:=⟨gb152,0,none⟩) (kD HO156.out BK152.out (by decide)) (fun _ hk=>hk.2) (.int .i64 t153)) (fun _ hk=>hk.2) (.slice Ao98 t154.length co98)) (fun _ hk=>trivial),by repeat (first | (with_reducible first | exact HI0.out | apply Z76.alloc | apply Z76.drewN | apply Z76.drew | apply Z76.set_1 | apply Z76.set_2 | refine Z76.far ?_ NB0_152.out _ | refine Z76.far ?_ NB0_159.out _) | exact HI0.out),zW HB.out (Z76.ge HI0.out) GE152.out GE159.out,by repeat (first | (with_reducible first | exact HK.out | apply KeepBut.set_ | apply keep_drewN | apply keep_drew | apply keep_alloc | refine keep_far ?_ GW152.out _ | refine keep_far ?_ GW159.out _) | exact HK.out)⟩
def spec_l06Draw.f (k:Nat) (l0:List Int) (a1:Int) (a2:Int):Option (List Int × Int × Int × Int × List Int × Int):=(spec_l01From.f k l0).bind fun bt200=>((spec_l02Spoil.f k bt200.1 bt200.2.1 bt200.2.2 a1).bind fun bt204=>((spec_l01Next.f bt200.1 bt204.2.2.1 bt204.2.2.2 (wrap64 (a2 + 1))).bind fun bt211=>((spec_l01Next.f bt200.1 bt211.2.1 bt211.2.2 16).bind fun bt214=>(if bt214.1 = 0 then ((spec_l01Pick.f bt200.1 bt214.2.1 bt214.2.2 (([(-1),25,24,1099511627776]:List Int))).bind fun bt220=>(some (bt200.1,bt220.2.1,bt220.2.2,bt204.1,bt204.2.1,bt220.1))) else (some (bt200.1,bt214.2.1,bt214.2.2,bt204.1,bt204.2.1,bt211.1))))))
set_option maxHeartbeats 8000000 in
set_option maxRecDepth 100000 in
theorem spec_l06Draw.calls (k : Nat) (A0 : Option Addr) (c0 : Nat) (l0 : List Int) (a1 : Int) (a2 : Int) (r1 : List Int) (r2 : Int) (r3 : Int) (r4 : Int) (r5 : List Int) (r6 : Int) (w0 w : World) (hB : Below w0.heap.size w0 w) (hr0 : Kd.C (Kd.int .u8) w0 A0 l0.length l0) (hc0 : l0.length ≤ c0) (h : spec_l06Draw.f k l0 a1 a2 = some (r1, r2, r3, r4, r5, r6)) :
  Calls Tryz.prog 15 #[.slice A0 l0.length c0,.int .i64 a1,.int .i64 a2] w fun e w' => ∃ v1_:Value,∃ g_:Nat,e = .returned (.tuple #[.pointer (some ⟨g_,0,none⟩),.agg #[.int .i64 r4,v1_],.int .i64 r6]) ∧ Kd.R (Kd.int .i64) 2 w' w.heap.size (fun _=>True) v1_ r5 ∧ Z76 w0 w' g_ r1 r2 r3 ∧ Below w0.heap.size w0 w' ∧ Below w.heap.size w w' ∧ w.heap.size ≤ g_:=by
 have hu26:=Tryz.underlying26
 have HR0:=zA hr0
 have HC0:=zA hc0
 clear hr0 hc0
 have HBW:=zA (kW w.heap.size w)
 have HB00:=zA hB
 have HW0:=zA hB.size
 have HB:=zA hB
 clear hB
 have H:=h
 unfold spec_l06Draw.f at H
 clear h
 obtain ⟨⟨t200,t201,t202⟩,A4,H⟩:=zb H
 try dsimp only at H
 obtain ⟨⟨t204,t205,t208,t209⟩,A5,H⟩:=zb H
 try dsimp only at H
 obtain ⟨⟨t211,t212,t213⟩,A6,H⟩:=zb H
 try dsimp only at H
 obtain ⟨⟨t214,t215,t216⟩,A7,H⟩:=zb H
 try dsimp only at H
 by_cases c8:t214 = 0
 ·rw [if_pos c8] at H
  obtain ⟨c8b0,c8b1⟩:=zT1 c8
  clear c8
  obtain ⟨y217,hy217⟩:∃ y_:List Int,y_ = (([(-1),25,24,1099511627776]:List Int)):=⟨_,rfl⟩
  replace H:((spec_l01Pick.f t200 t215 t216 y217).bind fun bt220=>(some (t200,bt220.2.1,bt220.2.2,t204,t205,bt220.1))) = some (r1,r2,r3,r4,r5,r6):=zy hy217 H
  have Ny217:=zA hy217
  clear hy217
  obtain ⟨⟨t220,t221,t222⟩,A9,H⟩:=zb H
  try dsimp only at H
  simp only [Option.some.injEq,Prod.mk.injEq] at H
  obtain ⟨rfl,rfl,rfl,rfl,rfl,rfl⟩:=H
  go_enter Tryz.func15,Tryz.ntmps15
  try go_wp2_with (first | (refine zBE 7 #[.int .i64 0,.slice none 0 0] 26 ?_;intro gb199 hg w10 hbox hb;replace HB:=zA (kQ (zQ HB.out) hb);have BK199:=zA (hbox);have GW199:=zA (zBH hg HBW.out);have GE199:=zA ((Nat.le_trans HW0.out (by rw [hg];exact (kP (zQ HBW.out)):w.heap.size ≤ gb199):w0.heap.size ≤ gb199));replace HBW:=zA (kQ HBW.out hb);clear hb hbox hg) | (refine zO (some 13) Tryz.func33 #[.slice A0 l0.length c0] ?_;(with_reducible refine (spec_l01From.calls k _ _ l0 t200 t201 t202 w0 _ ?side1 ?side2 ?side3 A4.out).mono ?_);(case side1=>exact zT HB.out GE199.out);(case side2=>exact HR0.out);(case side3=>exact HC0.out);rintro e w11 ⟨g203,rfl,hi,hb,hb2,hgw⟩;refine ⟨_,rfl,?_⟩;have GWS203:=zA ((Nat.le_trans (kP (zT HBW.out GW199.out)) hgw:w.heap.size ≤ g203));replace HBW:=zA (kQ (zT HBW.out GW199.out) hb2);replace HB:=zA (hb);have HI203:=zA (hi);have NB203_199:=zA (Z76.ne_blk hi (blk_below (g:=gb199) (o:=.cells #[.int .i64 0,.slice none 0 0] 26 (0,0)) (zR BK199.out) hb2) (by decide));have NB199_203:=zA (Ne.symm (Z76.ne_blk hi (blk_below (g:=gb199) (o:=.cells #[.int .i64 0,.slice none 0 0] 26 (0,0)) (zR BK199.out) hb2) (by decide)));replace BK199:=zA (zB1 BK199.out hb2);(try clear hb);(try clear hb2);(try clear hi);(try clear hgw)) | (refine zO (some 16) Tryz.func34 #[.pointer (some ⟨g203,0,none⟩),.int .i64 a1] ?_;(with_reducible refine (spec_l02Spoil.calls k g203 t200 t201 t202 a1 t204 t205 t208 t209 w0 _ ?side1 ?side2 A5.out).mono ?_);(case side1=>exact Z76.uB HI203.out NB203_199.out);(case side2=>exact zV HB.out (Z76.ge HI203.out) GE199.out);rintro e w12 ⟨v206,rfl,ho0,hi,hb,hk⟩;refine ⟨_,rfl,?_⟩;replace BK199:=zA (zB2 hk BK199.out NB199_203.out);have HO207:=zA (kI ho0 (kP (zV HBW.out GWS203.out GW199.out)));replace HBW:=zA (Z76.below_keepW HB00.out (zV HBW.out GWS203.out GW199.out) hk hb GWS203.out);replace HB:=zA (hb);replace HI203:=zA (hi);(try clear hb);(try clear hk);(try clear hi);(try clear ho0)) | (refine zBE 10 #[.int .i64 0,.slice none 0 0] 26 ?_;intro gb210 hg w13 hbox hb;replace HO207:=zA (kL (zP HO207.out) hb);replace HB:=zA (kQ (zV HB.out (Z76.ge HI203.out) GE199.out) hb);have BK210:=zA (hbox);have GW210:=zA (zB6 hg (kP (zV HBW.out GWS203.out GW199.out)):w.heap.size ≤ gb210);have GE210:=zA ((Nat.le_trans HW0.out (by rw [hg];exact (kP (zV HBW.out GWS203.out GW199.out)):w.heap.size ≤ gb210):w0.heap.size ≤ gb210));replace HBW:=zA (kQ HBW.out hb);have NB199_210:=zA (zB4 hg BK199.out:gb199 ≠ gb210);have NB210_199:=zA (zB5 hg BK199.out:gb210 ≠ gb199);replace BK199:=zA (zB1 BK199.out hb);have NB203_210:=zA (zB7 hg (Z76.lt (show Z76 w0 _ g203 t200 t208 t209 from Z76.uB HI203.out NB203_199.out)):g203 ≠ gb210);have NB210_203:=zA (zB8 hg (Z76.lt (show Z76 w0 _ g203 t200 t208 t209 from Z76.uB HI203.out NB203_199.out)):gb210 ≠ g203);replace HI203:=zA (Z76.below (Z76.uB HI203.out NB203_199.out) hb);clear hb hbox hg;have hnb14:=NB210_199.out;have hnc14:=NB199_210.out;have hnb15:=NB210_203.out;have hnc15:=NB203_210.out;obtain ⟨hcz16_0,hcz16_1,hfz16_0,hfz16_1⟩:=zB3 BK210.out;obtain ⟨Ao17,co17,eo17⟩:=kM HO207.out;subst eo17) | (refine zO (some 20) Tryz.func35 #[.pointer (some ⟨g203,0,none⟩),.int .i64 (wrap64 (a2 + 1))] ?_;(with_reducible refine (spec_l01Next.calls g203 t200 t208 t209 (wrap64 (a2 + 1)) t211 t212 t213 w0 _ ?side1 ?side2 A6.out).mono ?_);(case side1=>exact Z76.uC HI203.out NB203_199.out NB203_210.out);(case side2=>exact zW HB.out (Z76.ge HI203.out) GE199.out GE210.out);rintro e w18 ⟨rfl,hi,hb,hk⟩;refine ⟨_,rfl,?_⟩;replace BK199:=zA (KeepBut.blk hk (g' := gb199) (o:=.cells #[.int .i64 0,.slice none 0 0] 26 (0,0)) (zBG BK199.out NB199_210.out NB199_210.out) NB199_203.out (by simp));replace HO207:=zA (kA (Kd.R_keep (Z76.apart (show Z76 w0 _ g203 t200 t208 t209 from Z76.uC HI203.out NB203_199.out NB203_210.out) (zP (zFG HO207.out BK210.out (.int .i64 t204) (.slice Ao17 t205.length co17))) (by decide)) hk (fun _ h=>h.2)) (fun _ h=>h.1));replace BK210:=zA (KeepBut.blk hk (g' := gb210) (o:=.cells #[.int .i64 t204,.slice Ao17 t205.length co17] 26 (0,0)) (zRP BK210.out) NB210_203.out (by simp));replace HBW:=zA (Z76.below_keepW HB00.out (zW HBW.out GWS203.out GW199.out GW210.out) hk hb GWS203.out);replace HB:=zA (hb);replace HI203:=zA (hi);(try clear hb);(try clear hk);(try clear hi)) | (refine zO (some 22) Tryz.func35 #[.pointer (some ⟨g203,0,none⟩),.int .i64 16] ?_;(with_reducible refine (spec_l01Next.calls g203 t200 t212 t213 16 t214 t215 t216 w0 _ ?side1 ?side2 A7.out).mono ?_);(case side1=>exact Z76.uC HI203.out NB203_199.out NB203_210.out);(case side2=>exact zW HB.out (Z76.ge HI203.out) GE199.out GE210.out);rintro e w19 ⟨rfl,hi,hb,hk⟩;refine ⟨_,rfl,?_⟩;replace BK199:=zA (zB2 hk BK199.out NB199_203.out);replace HO207:=zA (zB9 (Z76.apart (show Z76 w0 _ g203 t200 t212 t213 from Z76.uC HI203.out NB203_199.out NB203_210.out) (zP HO207.out) (by decide)) hk);replace BK210:=zA (zB2 hk BK210.out NB210_203.out);replace HBW:=zA (Z76.below_keepW HB00.out (zW HBW.out GWS203.out GW199.out GW210.out) hk hb GWS203.out);replace HB:=zA (hb);replace HI203:=zA (hi);(try clear hb);(try clear hk);(try clear hi)) | ((with_reducible refine kS (N:=25) rfl ?_);refine Kd.R_lit (Kd.int .i64) _ 2 ?hg (N:=25) ?hd (xs:=([(-1),25,24,1099511627776]:List Int)) (inner:=[.int .i64 (-1),.int .i64 25,.int .i64 24,.int .i64 1099511627776]) (ok:=fun _=>True) (okp:=fun _=>True) ?hr ?hp (fun _ hk=>hk) trivial (kW _ _) (Nat.le_refl _) (by simp) ?_;(case hd=>rfl);(case hg=>rfl);(case hr=>first | (go_simp;done) | (go_simp;rfl));(case hp=>exact (Reps.one (show Kd.M (Kd.int .i64) _ _ _ (-1) [.int .i64 (-1)] from rfl) (Reps.one (show Kd.M (Kd.int .i64) _ _ _ 25 [.int .i64 25] from rfl) (Reps.one (show Kd.M (Kd.int .i64) _ _ _ 24 [.int .i64 24] from rfl) (Reps.one (show Kd.M (Kd.int .i64) _ _ _ 1099511627776 [.int .i64 1099511627776] from rfl) (Reps.none _ _))))));intro v218 w20 ho21 hb hg_ hnew_;clear hg_ hnew_;(first | rw [← Ny217.out] at ho21 | (simp only [Int.reduceToNat] at ho21;rw [← Ny217.out] at ho21));have HO219:=zA (kI (kF ho21 (kH (zP HO207.out))) (kP (zW HBW.out GWS203.out GW199.out GW210.out)));replace HO207:=zA (kE (zP HO207.out) (kC ho21) hb);replace BK199:=zA (zB1 BK199.out hb);replace BK210:=zA (zB1 BK210.out hb);replace HBW:=zA (kQ (zW HBW.out GWS203.out GW199.out GW210.out) hb);replace HB:=zA (kQ (zW HB.out (Z76.ge HI203.out) GE199.out GE210.out) hb);replace HI203:=zA (Z76.below (Z76.uC HI203.out NB203_199.out NB203_210.out) hb);clear hb ho21;obtain ⟨Ao22,co22,eo22⟩:=kM HO219.out;subst eo22) | (refine zO (some 26) Tryz.func36 #[.pointer (some ⟨g203,0,none⟩),.slice Ao22 y217.length co22] ?_;(with_reducible refine (spec_l01Pick.calls g203 t200 t215 t216 _ _ y217 t220 t221 t222 w0 _ ?side1 ?side2 ?side3 ?side4 ?side5 A9.out).mono ?_);(case side1=>exact Z76.uC HI203.out NB203_199.out NB203_210.out);(case side2=>exact zW HB.out (Z76.ge HI203.out) GE199.out GE210.out);(case side3=>exact zS (kB HO219.out).2.2);(case side4=>exact (kB HO219.out).2.1);(case side5=>exact jJ (Z76.own_ne HI203.out HO219.out (by decide)));rintro e w23 ⟨rfl,hi,hb,hk⟩;refine ⟨_,rfl,?_⟩;replace BK199:=zA (zB2 hk BK199.out NB199_203.out);replace HO207:=zA (zB9 (Z76.apart (show Z76 w0 _ g203 t200 t215 t216 from Z76.uC HI203.out NB203_199.out NB203_210.out) (zP HO207.out) (by decide)) hk);replace BK210:=zA (zB2 hk BK210.out NB210_203.out);replace HO219:=zA (zB9 (Z76.apart (show Z76 w0 _ g203 t200 t215 t216 from Z76.uC HI203.out NB203_199.out NB203_210.out) (zP HO219.out) (by decide)) hk);replace HBW:=zA (Z76.below_keepW HB00.out (zW HBW.out GWS203.out GW199.out GW210.out) hk hb GWS203.out);replace HB:=zA (hb);replace HI203:=zA (hi);(try clear hb);(try clear hk);(try clear hi)))
  have n0_:=zA (zH HO207.out)
  have n1_:=zA (zH HO219.out)
  have n2_:=zA (zK BK199.out)
  have n3_:=zA (zK BK210.out)
  have n4_:=zA (Z76.drew HI203.out)
  have n5_:=zA (zD HB.out)
  have n5w_:=zA (zD HBW.out)
  clear HO207 HO219 BK199 BK210 HI203 HB HBW
  have HO207:=n0_
  have HO219:=n1_
  have BK199:=n2_
  have BK210:=n3_
  have HI203:=n4_
  have HB:=n5_
  have HBW:=n5w_
  clear n0_ n1_ n2_ n3_ n4_ n5_
  refine start_ (n:=6) (S:=fun w' => w'.cell? ⟨gb210,0,none⟩ = some (.int .i64 t204) ∧ w'.cell? ⟨gb210,1,none⟩ = some (.slice Ao17 t205.length co17)) (ds:=[]) #[false,false,false,false,false,false] (by kernel_rfl) rfl rfl ⟨(kV BK210.out 0).trans rfl,(kV BK210.out 1).trans rfl⟩ (fun hHeld=>?_)
  generalize w23.drew = w24 at HO207 HO219 BK199 BK210 HI203 HB HBW hHeld ⊢
  refine pure_ (i:=0) (N:=some 27) (v:=?_) (a' := ?_) #[true,false,false,false,false,false] rfl rfl (by kernel_rfl) (fun _ _ _ h=>h) (Or.inl ⟨by rfl,?_⟩) ?_ ?_
  rotate_left
  ·intro w'
   go_simp
   with_reducible rfl
  rotate_left
  ·simp only [Act.put,zL,zM,zN,i64_w,i32_w]
   rfl
  refine pure_ (i:=2) (N:=some 29) (v:=?_) (a' := ?_) #[true,false,true,false,false,false] rfl rfl (by kernel_rfl) (fun _ _ _ h=>h) (Or.inl ⟨by rfl,?_⟩) ?_ ?_
  rotate_left
  ·intro w'
   go_simp
   with_reducible rfl
  rotate_left
  ·simp only [Act.put,zL,zM,zN,i64_w,i32_w]
   rfl
  refine pure_ (i:=3) (N:=some 6) (v:=?_) (a' := ?_) #[true,false,true,true,false,false] rfl rfl (by kernel_rfl) (fun _ _ _ h=>h) (Or.inl ⟨by rfl,?_⟩) ?_ ?_
  rotate_left
  ·intro w'
   go_simp
   with_reducible rfl
  rotate_left
  ·simp only [Act.put,zL,zM,zN,i64_w,i32_w]
   rfl
  refine take_ (i:=1) (N:=some 28) (v:=?_) (a' := ?_) #[true,true,true,true,false,false] rfl rfl (by kernel_rfl) (fun _ _ _ h=>h) (Or.inl ⟨by rfl,?_⟩) hHeld ?_ ?_
  rotate_left
  ·rintro w' ⟨s0,s1⟩
   go_simp
   with_reducible rfl
  rotate_left
  ·simp only [Act.put,zL,zM,zN,i64_w,i32_w]
   rfl
  refine one_ (i:=4) (N:=none) #[true,true,true,true,true,false] rfl rfl (by kernel_rfl) (by decide) (fun K hK=>?_)
  have hs25:w24.cell? ⟨gb199,0,none⟩ = some (.int .i64 0):=(kV BK199.out 0).trans rfl
  have hfs25:=jH BK199.out 0
  have hns25_1:=NB210_199.out
  have hms25_1:=NB199_210.out
  have hs26:w24.cell? ⟨gb199,1,none⟩ = some (.slice none 0 0):=(kV BK199.out 1).trans rfl
  have hfs26:=jH BK199.out 1
  have hns26_1:=NB210_199.out
  have hms26_1:=NB199_210.out
  refine skip_ (w1:=?_) (by rfl) rfl ?_ ?_
  rotate_left
  ·go_simp
   rfl
  refine hK.out _ _ ⟨((cell_far (p:=⟨gb199,_,none⟩) NB210_199.out _).trans (((cell_far (p:=⟨gb199,_,none⟩) NB210_199.out _).trans (hHeld.1)))),((cell_far (p:=⟨gb199,_,none⟩) NB210_199.out _).trans (((cell_far (p:=⟨gb199,_,none⟩) NB210_199.out _).trans (hHeld.2))))⟩ (fun hHeld=>?_)
  clear hK K
  refine pure_ (i:=5) (N:=some 8) (v:=?_) (a' := ?_) #[true,true,true,true,true,true] rfl rfl (by kernel_rfl) (fun _ _ _ h=>h) (Or.inl ⟨by rfl,?_⟩) ?_ ?_
  rotate_left
  ·intro w'
   go_simp
   with_reducible rfl
  rotate_left
  ·simp only [Act.put,zL,zM,zN,i64_w,i32_w]
   rfl
  refine done_ (by kernel_rfl) ?_
  try go_wp2
  refine bodyPost_ret (results_list (rs:=[.tmp 6,.cell 7 26,.tmp 8]) rfl (by simp) (.tmp (.cell gb199 26 #[.int .i64 t204,.slice Ao17 t205.length co17] (0,0) _ rfl (zRP BK199.out) Tryz.underlying26 rfl (by kernel_rfl) (.tmp .nil)))) rfl ?_
  exact ⟨_,_,zr,by (with_reducible repeat (first | apply zF | apply zG | apply zH));exact kA (kY (p:=⟨gb199,1,none⟩) (kY (p:=⟨gb199,0,none⟩) (kD HO207.out BK199.out (by decide)) (fun _ hk=>hk.2) (.int .i64 t204)) (fun _ hk=>hk.2) (.slice Ao17 t205.length co17)) (fun _ hk=>trivial),(show Z76 w0 _ g203 t200 t221 t222 from Z76.uC HI203.out NB203_199.out NB203_210.out),zW HB.out (Z76.ge HI203.out) GE199.out GE210.out,zW HBW.out GWS203.out GW199.out GW210.out,GWS203.out⟩
 rw [if_neg c8] at H
 obtain ⟨c8b0,c8b1⟩:=zT2 c8
 simp only [Option.some.injEq,Prod.mk.injEq] at H
 obtain ⟨rfl,rfl,rfl,rfl,rfl,rfl⟩:=H
 go_enter Tryz.func15,Tryz.ntmps15
 try go_wp2_with (first | (refine zBE 7 #[.int .i64 0,.slice none 0 0] 26 ?_;intro gb199 hg w27 hbox hb;replace HB:=zA (kQ (zQ HB.out) hb);have BK199:=zA (hbox);have GW199:=zA (zBH hg HBW.out);have GE199:=zA ((Nat.le_trans HW0.out (by rw [hg];exact (kP (zQ HBW.out)):w.heap.size ≤ gb199):w0.heap.size ≤ gb199));replace HBW:=zA (kQ HBW.out hb);clear hb hbox hg) | (refine zO (some 13) Tryz.func33 #[.slice A0 l0.length c0] ?_;(with_reducible refine (spec_l01From.calls k _ _ l0 t200 t201 t202 w0 _ ?side1 ?side2 ?side3 A4.out).mono ?_);(case side1=>exact zT HB.out GE199.out);(case side2=>exact HR0.out);(case side3=>exact HC0.out);rintro e w28 ⟨g203,rfl,hi,hb,hb2,hgw⟩;refine ⟨_,rfl,?_⟩;have GWS203:=zA ((Nat.le_trans (kP (zT HBW.out GW199.out)) hgw:w.heap.size ≤ g203));replace HBW:=zA (kQ (zT HBW.out GW199.out) hb2);replace HB:=zA (hb);have HI203:=zA (hi);have NB203_199:=zA (Z76.ne_blk hi (blk_below (g:=gb199) (o:=.cells #[.int .i64 0,.slice none 0 0] 26 (0,0)) (zR BK199.out) hb2) (by decide));have NB199_203:=zA (Ne.symm (Z76.ne_blk hi (blk_below (g:=gb199) (o:=.cells #[.int .i64 0,.slice none 0 0] 26 (0,0)) (zR BK199.out) hb2) (by decide)));replace BK199:=zA (zB1 BK199.out hb2);(try clear hb);(try clear hb2);(try clear hi);(try clear hgw)) | (refine zO (some 16) Tryz.func34 #[.pointer (some ⟨g203,0,none⟩),.int .i64 a1] ?_;(with_reducible refine (spec_l02Spoil.calls k g203 t200 t201 t202 a1 t204 t205 t208 t209 w0 _ ?side1 ?side2 A5.out).mono ?_);(case side1=>exact Z76.uB HI203.out NB203_199.out);(case side2=>exact zV HB.out (Z76.ge HI203.out) GE199.out);rintro e w29 ⟨v206,rfl,ho0,hi,hb,hk⟩;refine ⟨_,rfl,?_⟩;replace BK199:=zA (zB2 hk BK199.out NB199_203.out);have HO207:=zA (kI ho0 (kP (zV HBW.out GWS203.out GW199.out)));replace HBW:=zA (Z76.below_keepW HB00.out (zV HBW.out GWS203.out GW199.out) hk hb GWS203.out);replace HB:=zA (hb);replace HI203:=zA (hi);(try clear hb);(try clear hk);(try clear hi);(try clear ho0)) | (refine zBE 10 #[.int .i64 0,.slice none 0 0] 26 ?_;intro gb210 hg w30 hbox hb;replace HO207:=zA (kL (zP HO207.out) hb);replace HB:=zA (kQ (zV HB.out (Z76.ge HI203.out) GE199.out) hb);have BK210:=zA (hbox);have GW210:=zA (zB6 hg (kP (zV HBW.out GWS203.out GW199.out)):w.heap.size ≤ gb210);have GE210:=zA ((Nat.le_trans HW0.out (by rw [hg];exact (kP (zV HBW.out GWS203.out GW199.out)):w.heap.size ≤ gb210):w0.heap.size ≤ gb210));replace HBW:=zA (kQ HBW.out hb);have NB199_210:=zA (zB4 hg BK199.out:gb199 ≠ gb210);have NB210_199:=zA (zB5 hg BK199.out:gb210 ≠ gb199);replace BK199:=zA (zB1 BK199.out hb);have NB203_210:=zA (zB7 hg (Z76.lt (show Z76 w0 _ g203 t200 t208 t209 from Z76.uB HI203.out NB203_199.out)):g203 ≠ gb210);have NB210_203:=zA (zB8 hg (Z76.lt (show Z76 w0 _ g203 t200 t208 t209 from Z76.uB HI203.out NB203_199.out)):gb210 ≠ g203);replace HI203:=zA (Z76.below (Z76.uB HI203.out NB203_199.out) hb);clear hb hbox hg;have hnb31:=NB210_199.out;have hnc31:=NB199_210.out;have hnb32:=NB210_203.out;have hnc32:=NB203_210.out;obtain ⟨hcz33_0,hcz33_1,hfz33_0,hfz33_1⟩:=zB3 BK210.out;obtain ⟨Ao34,co34,eo34⟩:=kM HO207.out;subst eo34) | (refine zO (some 20) Tryz.func35 #[.pointer (some ⟨g203,0,none⟩),.int .i64 (wrap64 (a2 + 1))] ?_;(with_reducible refine (spec_l01Next.calls g203 t200 t208 t209 (wrap64 (a2 + 1)) t211 t212 t213 w0 _ ?side1 ?side2 A6.out).mono ?_);(case side1=>exact Z76.uC HI203.out NB203_199.out NB203_210.out);(case side2=>exact zW HB.out (Z76.ge HI203.out) GE199.out GE210.out);rintro e w35 ⟨rfl,hi,hb,hk⟩;refine ⟨_,rfl,?_⟩;replace BK199:=zA (KeepBut.blk hk (g' := gb199) (o:=.cells #[.int .i64 0,.slice none 0 0] 26 (0,0)) (zBG BK199.out NB199_210.out NB199_210.out) NB199_203.out (by simp));replace HO207:=zA (kA (Kd.R_keep (Z76.apart (show Z76 w0 _ g203 t200 t208 t209 from Z76.uC HI203.out NB203_199.out NB203_210.out) (zP (zFG HO207.out BK210.out (.int .i64 t204) (.slice Ao34 t205.length co34))) (by decide)) hk (fun _ h=>h.2)) (fun _ h=>h.1));replace BK210:=zA (KeepBut.blk hk (g' := gb210) (o:=.cells #[.int .i64 t204,.slice Ao34 t205.length co34] 26 (0,0)) (zRP BK210.out) NB210_203.out (by simp));replace HBW:=zA (Z76.below_keepW HB00.out (zW HBW.out GWS203.out GW199.out GW210.out) hk hb GWS203.out);replace HB:=zA (hb);replace HI203:=zA (hi);(try clear hb);(try clear hk);(try clear hi)) | (refine zO (some 22) Tryz.func35 #[.pointer (some ⟨g203,0,none⟩),.int .i64 16] ?_;(with_reducible refine (spec_l01Next.calls g203 t200 t212 t213 16 t214 t215 t216 w0 _ ?side1 ?side2 A7.out).mono ?_);(case side1=>exact Z76.uC HI203.out NB203_199.out NB203_210.out);(case side2=>exact zW HB.out (Z76.ge HI203.out) GE199.out GE210.out);rintro e w36 ⟨rfl,hi,hb,hk⟩;refine ⟨_,rfl,?_⟩;replace BK199:=zA (zB2 hk BK199.out NB199_203.out);replace HO207:=zA (zB9 (Z76.apart (show Z76 w0 _ g203 t200 t212 t213 from Z76.uC HI203.out NB203_199.out NB203_210.out) (zP HO207.out) (by decide)) hk);replace BK210:=zA (zB2 hk BK210.out NB210_203.out);replace HBW:=zA (Z76.below_keepW HB00.out (zW HBW.out GWS203.out GW199.out GW210.out) hk hb GWS203.out);replace HB:=zA (hb);replace HI203:=zA (hi);(try clear hb);(try clear hk);(try clear hi)))
 have n0_:=zA (zH HO207.out)
 have n1_:=zA (zK BK199.out)
 have n2_:=zA (zK BK210.out)
 have n3_:=zA (Z76.drew HI203.out)
 have n4_:=zA (zD HB.out)
 have n4w_:=zA (zD HBW.out)
 clear HO207 BK199 BK210 HI203 HB HBW
 have HO207:=n0_
 have BK199:=n1_
 have BK210:=n2_
 have HI203:=n3_
 have HB:=n4_
 have HBW:=n4w_
 clear n0_ n1_ n2_ n3_ n4_
 refine start_ (n:=6) (S:=fun w' => w'.cell? ⟨gb210,0,none⟩ = some (.int .i64 t204) ∧ w'.cell? ⟨gb210,1,none⟩ = some (.slice Ao34 t205.length co34)) (ds:=[]) #[false,false,false,false,false,false] (by kernel_rfl) rfl rfl ⟨(kV BK210.out 0).trans rfl,(kV BK210.out 1).trans rfl⟩ (fun hHeld=>?_)
 generalize w36.drew = w37 at HO207 BK199 BK210 HI203 HB HBW hHeld ⊢
 refine pure_ (i:=0) (N:=some 27) (v:=?_) (a' := ?_) #[true,false,false,false,false,false] rfl rfl (by kernel_rfl) (fun _ _ _ h=>h) (Or.inl ⟨by rfl,?_⟩) ?_ ?_
 rotate_left
 ·intro w'
  go_simp
  with_reducible rfl
 rotate_left
 ·simp only [Act.put,zL,zM,zN,i64_w,i32_w]
  rfl
 refine pure_ (i:=2) (N:=some 29) (v:=?_) (a' := ?_) #[true,false,true,false,false,false] rfl rfl (by kernel_rfl) (fun _ _ _ h=>h) (Or.inl ⟨by rfl,?_⟩) ?_ ?_
 rotate_left
 ·intro w'
  go_simp
  with_reducible rfl
 rotate_left
 ·simp only [Act.put,zL,zM,zN,i64_w,i32_w]
  rfl
 refine pure_ (i:=3) (N:=some 6) (v:=?_) (a' := ?_) #[true,false,true,true,false,false] rfl rfl (by kernel_rfl) (fun _ _ _ h=>h) (Or.inl ⟨by rfl,?_⟩) ?_ ?_
 rotate_left
 ·intro w'
  go_simp
  with_reducible rfl
 rotate_left
 ·simp only [Act.put,zL,zM,zN,i64_w,i32_w]
  rfl
 refine take_ (i:=1) (N:=some 28) (v:=?_) (a' := ?_) #[true,true,true,true,false,false] rfl rfl (by kernel_rfl) (fun _ _ _ h=>h) (Or.inl ⟨by rfl,?_⟩) hHeld ?_ ?_
 rotate_left
 ·rintro w' ⟨s0,s1⟩
  go_simp
  with_reducible rfl
 rotate_left
 ·simp only [Act.put,zL,zM,zN,i64_w,i32_w]
  rfl
 refine one_ (i:=4) (N:=none) #[true,true,true,true,true,false] rfl rfl (by kernel_rfl) (by decide) (fun K hK=>?_)
 have hs38:w37.cell? ⟨gb199,0,none⟩ = some (.int .i64 0):=(kV BK199.out 0).trans rfl
 have hfs38:=jH BK199.out 0
 have hns38_1:=NB210_199.out
 have hms38_1:=NB199_210.out
 have hs39:w37.cell? ⟨gb199,1,none⟩ = some (.slice none 0 0):=(kV BK199.out 1).trans rfl
 have hfs39:=jH BK199.out 1
 have hns39_1:=NB210_199.out
 have hms39_1:=NB199_210.out
 refine skip_ (w1:=?_) (by rfl) rfl ?_ ?_
 rotate_left
 ·go_simp
  rfl
 refine hK.out _ _ ⟨((cell_far (p:=⟨gb199,_,none⟩) NB210_199.out _).trans (((cell_far (p:=⟨gb199,_,none⟩) NB210_199.out _).trans (hHeld.1)))),((cell_far (p:=⟨gb199,_,none⟩) NB210_199.out _).trans (((cell_far (p:=⟨gb199,_,none⟩) NB210_199.out _).trans (hHeld.2))))⟩ (fun hHeld=>?_)
 clear hK K
 refine pure_ (i:=5) (N:=some 8) (v:=?_) (a' := ?_) #[true,true,true,true,true,true] rfl rfl (by kernel_rfl) (fun _ _ _ h=>h) (Or.inl ⟨by rfl,?_⟩) ?_ ?_
 rotate_left
 ·intro w'
  go_simp
  with_reducible rfl
 rotate_left
 ·simp only [Act.put,zL,zM,zN,i64_w,i32_w]
  rfl
 refine done_ (by kernel_rfl) ?_
 try go_wp2
 refine bodyPost_ret (results_list (rs:=[.tmp 6,.cell 7 26,.tmp 8]) rfl (by simp) (.tmp (.cell gb199 26 #[.int .i64 t204,.slice Ao34 t205.length co34] (0,0) _ rfl (zRP BK199.out) Tryz.underlying26 rfl (by kernel_rfl) (.tmp .nil)))) rfl ?_
 exact ⟨_,_,zr,by (with_reducible repeat (first | apply zF | apply zG | apply zH));exact kA (kY (p:=⟨gb199,1,none⟩) (kY (p:=⟨gb199,0,none⟩) (kD HO207.out BK199.out (by decide)) (fun _ hk=>hk.2) (.int .i64 t204)) (fun _ hk=>hk.2) (.slice Ao34 t205.length co34)) (fun _ hk=>trivial),(show Z76 w0 _ g203 t200 t215 t216 from Z76.uC HI203.out NB203_199.out NB203_210.out),zW HB.out (Z76.ge HI203.out) GE199.out GE210.out,zW HBW.out GWS203.out GW199.out GW210.out,GWS203.out⟩
def spec_DrawCountByHeight.f (k:Nat) (l0:List Int):Option (Int × List Int × Int):=(spec_l06Draw.f k l0 5 14).bind fun bt224=>(some (bt224.2.2.2.1,bt224.2.2.2.2.1,bt224.2.2.2.2.2))
set_option maxHeartbeats 8000000 in
set_option maxRecDepth 100000 in
theorem spec_DrawCountByHeight.calls (k : Nat) (A0 : Option Addr) (c0 : Nat) (l0 : List Int) (r1 : Int) (r2 : List Int) (r3 : Int) (w : World) (hr0 : Kd.C (Kd.int .u8) w A0 l0.length l0) (hc0 : l0.length ≤ c0) (h : spec_DrawCountByHeight.f k l0 = some (r1, r2, r3)) :
  Calls Tryz.prog 5 #[.slice A0 l0.length c0] w fun e w' => ∃ v1_:Value,e = .returned (.tuple #[.agg #[.int .i64 r1,v1_],.int .i64 r3]) ∧ Kd.R (Kd.int .i64) 2 w' w.heap.size (fun _=>True) v1_ r2 ∧ Below w.heap.size w w' := by
 have hu26:=Tryz.underlying26
 have HR0:=zA hr0
 have HC0:=zA hc0
 clear hr0 hc0
 have HB:=zA (kW w.heap.size w)
 have H:=h
 unfold spec_DrawCountByHeight.f at H
 clear h
 obtain ⟨⟨t224,t225,t226,t228,t229,t232⟩,A2,H⟩:=zb H
 try dsimp only at H
 simp only [Option.some.injEq,Prod.mk.injEq] at H
 obtain ⟨rfl,rfl,rfl⟩:=H
 go_enter Tryz.func5,Tryz.ntmps5
 go_wp2_with (first | (refine zBE 2 #[.int .i64 0,.slice none 0 0] 26 ?_;intro gb223 hg w3 hbox hb;have BK223:=zA (hbox);have GW223:=zA (zBH hg HB.out);have GE223:=zA (zBH hg HB.out);replace HB:=zA (kQ (zQ HB.out) hb);clear hb hbox hg) | (refine zO (some 9) Tryz.func15 #[.slice A0 l0.length c0,.int .i64 5,.int .i64 14] ?_;(with_reducible refine (spec_l06Draw.calls k _ _ l0 5 14 t224 t225 t226 t228 t229 t232 w _ ?side1 ?side2 ?side3 A2.out).mono ?_);(case side1=>exact zT HB.out GE223.out);(case side2=>exact HR0.out);(case side3=>exact HC0.out);rintro e w4 ⟨v230,g227,rfl,ho0,hi,hb,hb2,hgw⟩;refine ⟨_,rfl,?_⟩;have HO231:=zA (kI ho0 (kP (zT HB.out GE223.out)));replace HB:=zA (hb);have HI227:=zA (hi);have NB227_223:=zA (Z76.ne_blk hi (blk_below (g:=gb223) (o:=.cells #[.int .i64 0,.slice none 0 0] 26 (0,0)) (zR BK223.out) hb2) (by decide));have NB223_227:=zA (Ne.symm (Z76.ne_blk hi (blk_below (g:=gb223) (o:=.cells #[.int .i64 0,.slice none 0 0] 26 (0,0)) (zR BK223.out) hb2) (by decide)));replace BK223:=zA (zB1 BK223.out hb2);(try clear hb);(try clear hb2);(try clear hi);(try clear hgw);(try clear ho0)) | (refine zBE 5 #[.int .i64 0,.slice none 0 0] 26 ?_;intro gb233 hg w5 hbox hb;replace HO231:=zA (kL (zP HO231.out) hb);have BK233:=zA (hbox);have GW233:=zA (zB6 hg (kP (zV HB.out (Z76.ge HI227.out) GE223.out)):w.heap.size ≤ gb233);have GE233:=zA (zB6 hg (kP (zV HB.out (Z76.ge HI227.out) GE223.out)):w.heap.size ≤ gb233);replace HB:=zA (kQ (zV HB.out (Z76.ge HI227.out) GE223.out) hb);have NB223_233:=zA (zB4 hg BK223.out:gb223 ≠ gb233);have NB233_223:=zA (zB5 hg BK223.out:gb233 ≠ gb223);replace BK223:=zA (zB1 BK223.out hb);have NB227_233:=zA (zB7 hg (Z76.lt (show Z76 w _ g227 t224 t225 t226 from Z76.uB HI227.out NB227_223.out)):g227 ≠ gb233);have NB233_227:=zA (zB8 hg (Z76.lt (show Z76 w _ g227 t224 t225 t226 from Z76.uB HI227.out NB227_223.out)):gb233 ≠ g227);replace HI227:=zA (Z76.below (Z76.uB HI227.out NB227_223.out) hb);clear hb hbox hg;have hnb6:=NB233_223.out;have hnc6:=NB223_233.out;have hnb7:=NB233_227.out;have hnc7:=NB227_233.out;obtain ⟨hcz8_0,hcz8_1,hfz8_0,hfz8_1⟩:=zB3 BK233.out;obtain ⟨Ao9,co9,eo9⟩:=kM HO231.out;subst eo9;have hnb10:=NB223_227.out;have hnc10:=NB227_223.out;obtain ⟨hcz11_0,hcz11_1,hfz11_0,hfz11_1⟩:=zB3 BK223.out))
 refine bodyPost_ret (results_ct rfl _ _ gb223 26 #[.int .i64 t228,.slice Ao9 t229.length co9] (0,0) _ rfl (by (with_reducible repeat (first | refine zJ ?_ _ | refine zK ?_ | refine zI ?_ _));refine blk_put (cs:=#[.int .i64 t228,.slice none 0 0]) ?_ 1 _ rfl;(with_reducible repeat (first | refine zJ ?_ _ | refine zK ?_ | refine zI ?_ _));refine blk_put (cs:=#[.int .i64 0,.slice none 0 0]) ?_ 0 _ rfl;(with_reducible repeat (first | refine zJ ?_ _ | refine zK ?_ | refine zI ?_ _));refine blk_far ?_ NB223_233.out _;(with_reducible repeat (first | refine zJ ?_ _ | refine zK ?_ | refine zI ?_ _));refine blk_far ?_ NB223_233.out _;(with_reducible repeat (first | refine zJ ?_ _ | refine zK ?_ | refine zI ?_ _));exact BK223.out) Tryz.underlying26 rfl (by kernel_rfl)) rfl ?_
 exact ⟨_,zr,by (with_reducible repeat (first | apply zF | apply zG | apply zH));exact kA (kY (p:=⟨gb223,1,none⟩) (kY (p:=⟨gb223,0,none⟩) (kY (p:=⟨gb233,1,none⟩) (kY (p:=⟨gb233,0,none⟩) (kD (kD HO231.out BK233.out (by decide)) BK223.out (by decide)) (fun _ hk=>hk.1.2) (.int .i64 t228)) (fun _ hk=>hk.1.2) (.slice Ao9 t229.length co9)) (fun _ hk=>hk.2) (.int .i64 t228)) (fun _ hk=>hk.2) (.slice Ao9 t229.length co9)) (fun _ hk=>trivial),zW HB.out (Z76.ge HI227.out) GE223.out GE233.out⟩
def impl_inRange.f (a0:Int) (a1:Int) (a2:Int):Option (Bool):=if a1 ≤ a0 then (some (decide (a0 ≤ a2))) else (some false)
set_option maxHeartbeats 8000000 in
set_option maxRecDepth 100000 in
theorem impl_inRange.calls (a0 : Int) (a1 : Int) (a2 : Int) (r : Bool) (w : World) (h : impl_inRange.f a0 a1 a2 = some r) :
  Calls Tryz.prog 24 #[.int .i64 a0,.int .i64 a1,.int .i64 a2] w fun e w' => e = .returned (.bool r) ∧ Drawn0 w w' := by
 have H:=h
 unfold impl_inRange.f at H
 clear h
 by_cases c4:a1 ≤ a0
 ·rw [if_pos c4] at H
  have c4b0:decide (a1 ≤ a0) = true:=decide_eq_true c4
  clear c4
  obtain rfl:=Option.some.inj H
  go_enter Tryz.func24,Tryz.ntmps24
  go_wp2
  go_ret
  exact ⟨zs,by repeat (first | exact Drawn0.refl _ | apply Drawn0.step)⟩
 rw [if_neg c4] at H
 have c4b0:decide (a1 ≤ a0) = false:=decide_eq_false c4
 clear c4
 obtain rfl:=Option.some.inj H
 go_enter Tryz.func24,Tryz.ntmps24
 go_wp2
 go_ret
 exact ⟨zs,by repeat (first | exact Drawn0.refl _ | apply Drawn0.step)⟩
def impl_length_int64.f (l0:List Int):Option (Int):=some (l0.length:Int)
set_option maxHeartbeats 8000000 in
set_option maxRecDepth 100000 in
theorem impl_length_int64.calls (A0 : Option Addr) (c0 : Nat) (l0 : List Int) (r : Int) (w : World) (hr0 : Kd.C (Kd.int .i64) w A0 l0.length l0) (hc0 : l0.length ≤ c0) (h : impl_length_int64.f l0 = some r) :
  Calls Tryz.prog 31 #[.slice A0 l0.length c0] w fun e w' => e = .returned (.int .i64 r) ∧ Drawn0 w w' := by
 have HR0:=zA hr0
 have HC0:=zA hc0
 clear hr0 hc0
 have H:=h
 unfold impl_length_int64.f at H
 clear h
 obtain rfl:=Option.some.inj H
 go_enter Tryz.func31,Tryz.ntmps31
 go_wp2
 go_ret
 exact ⟨zs,by repeat (first | exact Drawn0.refl _ | apply Drawn0.step)⟩
def impl_one.f (a0:Int):Option (Int):=if 0 ≤ a0 then (some (shl .i64 1 a0)) else (none)
set_option maxHeartbeats 8000000 in
set_option maxRecDepth 100000 in
theorem impl_one.calls (a0 : Int) (r : Int) (w : World) (h : impl_one.f a0 = some r) :
  Calls Tryz.prog 55 #[.int .i64 a0] w fun e w' => e = .returned (.int .i64 r) ∧ Drawn0 w w' := by
 have H:=h
 unfold impl_one.f at H
 clear h
 by_cases c2:0 ≤ a0
 ·rw [if_pos c2] at H
  have c2b0:=eq_true c2
  have c2b1:decide (0 ≤ a0) = true:=decide_eq_true c2
  clear c2
  obtain ⟨ji3,hji3⟩:∃ j_:Int,(shl .i64 1 a0) = j_:=⟨_,rfl⟩
  replace H:(some ji3) = some r:=by first | (rw [hji3] at H;exact H) | (simp only [hji3] at H ⊢;exact H)
  have hji3_:(IntKind.i64.wrap (1 * 2 ^ min a0.toNat 64)) = ji3:=hji3
  have hji3z:a0 ≤ 64 → (IntKind.i64.wrap (1 * 2 ^ a0.toNat)) = ji3:=shl_small hji3
  have hji3u:(IntKind.i64.wrap (2 ^ min a0.toNat 64)) = ji3:=by have h_:=hji3_;rw [Int.one_mul] at h_;exact h_
  have hji3v:a0 ≤ 64 → (IntKind.i64.wrap (2 ^ a0.toNat)) = ji3:=fun hle_=>by have h_:=hji3z hle_;rw [Int.one_mul] at h_;exact h_
  have hji3y:(wrap64 (1 * 2 ^ min a0.toNat 64)) = ji3:=(i64_w _).symm.trans hji3_
  have hji3x:a0 ≤ 64 → (wrap64 (1 * 2 ^ a0.toNat)) = ji3:=fun h_=>(i64_w _).symm.trans (hji3z h_)
  obtain rfl:=Option.some.inj H
  go_enter Tryz.func55,Tryz.ntmps55
  go_wp2
  go_ret
  exact ⟨by first | rfl | (simp;done) | (simp only [← hji3] <;> (first | rfl | simp)) | (simp [*];done),by repeat (first | exact Drawn0.refl _ | apply Drawn0.step)⟩
 rw [if_neg c2] at H
 exact absurd H (by simp)
def impl_allIn.f (l0:List Int) (a1 a2:Int):Option Bool:=some (l0.all fun x=>decide (a1 ≤ x ∧ x ≤ a2))
theorem allIn_pred (l : List Int) (lo hi : Int) (B : Nat) (w : World) (hB : B + 1 < w.heap.size) (h1 : w.cell? ⟨B, 0, none⟩ = some (.int .i64 lo)) (h2 : w.cell? ⟨B + 1, 0, none⟩ = some (.int .i64 hi)) :
  PredOf 82 #[.pointer (some ⟨B,0,none⟩),.pointer (some ⟨B + 1,0,none⟩)] (fun x=>!decide (lo ≤ x ∧ x ≤ hi)) w l:=fun W x _ hb=>by
 have hc1:W.cell? ⟨B,0,none⟩ = some (.int .i64 lo):=(hb.cell (p:=⟨B,0,none⟩) (by simp;omega)).trans h1
 have hc2:W.cell? ⟨B + 1,0,none⟩ = some (.int .i64 hi):=(hb.cell (p:=⟨B + 1,0,none⟩) (by simpa using hB)).trans h2
 clear h1 h2 hb
 show Calls Tryz.prog 82 #[.int .i64 x,.pointer (some ⟨B,0,none⟩),.pointer (some ⟨B + 1,0,none⟩)] W _
 by_cases c1:lo ≤ x <;> by_cases c2:x ≤ hi
 all_goals
  go_enter Tryz.func82,Tryz.ntmps82
  go_wp2
  go_ret
  exact ⟨by simp [c1,c2],kW _ _⟩
theorem impl_allIn.calls (A0 : Option Addr) (c0 : Nat) (l0 : List Int) (a1 : Int) (a2 : Int) (r : Bool) (w : World) (hr0 : Kd.C (Kd.int .i64) w A0 l0.length l0) (hc0 : l0.length ≤ c0) (h : impl_allIn.f l0 a1 a2 = some r) :
  Calls Tryz.prog 74 #[.slice A0 l0.length c0,.int .i64 a1,.int .i64 a2] w fun e w' => e = .returned (.bool r) ∧ Below w.heap.size w w' := by
 have hW:Below w.heap.size w ((w.alloc (.cells #[.int .i64 a1] 2)).alloc (.cells #[.int .i64 a2] 2)):=zB (zB (kW _ w) _) _
 have eg:∀ args w,(callFunc 82 args).run Tryz.prog w = .ok (.enter 82 args) w:=enters_fn Tryz.func82 (by kernel_rfl) rfl
 have hcon:=containsFunc_any A0 c0 l0 82 #[.pointer (some ⟨w.heap.size,0,none⟩),.pointer (some ⟨w.heap.size + 1,0,none⟩)] (fun x=>!decide (a1 ≤ x ∧ x ≤ a2)) _ eg
  (allIn_pred l0 a1 a2 w.heap.size ((w.alloc (.cells #[.int .i64 a1] 2)).alloc (.cells #[.int .i64 a2] 2)) (by simp) (by simp) (by simp)) (kO hr0 hW)
 have hr:(!(l0.any fun x=>!decide (a1 ≤ x ∧ x ≤ a2))) = r:=by
  have:=Option.some.inj h
  rw [← this,List.all_eq_not_any_not]
 clear h hr0 eg
 generalize (l0.any fun x=>!decide (a1 ≤ x ∧ x ≤ a2)) = b at hcon hr
 subst hr
 replace hW:=zA hW
 go_enter Tryz.func74,Tryz.ntmps74
 go_wp2_with fail
 refine hcon.mono ?_
 rintro e w' ⟨rfl,hb⟩
 replace hb:=zA hb
 clear hcon
 go_wp2
 go_ret
 exact ⟨rfl,kQ hW.out hb.out⟩
end Go.Proofs.YtemdfjdmokbcoaaGreatDoor.PAll
