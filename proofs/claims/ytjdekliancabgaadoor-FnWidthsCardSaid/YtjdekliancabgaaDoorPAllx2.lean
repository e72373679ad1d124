import Derived.Test.YtjdekliancabgaaDoorPAllx0
import Derived.Test.YtjdekliancabgaaDoorPAllx1
namespace Go.Proofs.YtjdekliancabgaaDoor.PAll
open Go.RowKit Go.Proofs.YtjdekliancabgaaDoor.T Go.Proofs.YtjdekliancabgaaDoorW.PrintWords Go.Proofs.YtjdekliancabgaaDoorW.PrintLast Go.Proofs.YtjdekliancabgaaDoorW.PrintMore
attribute [local go_sem] max2_int min2_int max_two min_two max_three min_three max_four min_four   -- for this text's walks alone
set_option linter.unusedVariables false
set_option linter.unusedSimpArgs false
def spec_l02Spoil.f (k:Nat) (s0_0:List Int) (s0_1:Int) (s0_2:Int) (a1:Int):Option (Int × List Int × Int × Int):=(spec_l02Draw.f k s0_0 s0_1 s0_2 a1).bind fun bt153=>((spec_l01Next.f s0_0 bt153.2.2.1 bt153.2.2.2 14).bind fun bt160=>(if bt160.1 > 0 then (some (bt153.1,bt153.2.1,bt160.2.1,bt160.2.2)) else ((spec_l01Next.f s0_0 bt160.2.1 bt160.2.2 4).bind fun bt163=>(if bt163.1 = 0 then ((spec_l01Pick.f s0_0 bt163.2.1 bt163.2.2 (([(-1),9,wrap64 (bt153.1 + 1)]:List Int))).bind fun bt169=>(some (bt169.1,bt153.2.1,bt169.2.1,bt169.2.2))) else (if bt163.1 = 1 then ((spec_l01Pick.f s0_0 bt163.2.1 bt163.2.2 (([0,1,255]:List Int))).bind fun bt175=>(if bt153.2.1.length < 17592186044416 then (some (bt153.1,(bt153.2.1 ++ [bt175.1]),bt175.2.1,bt175.2.2)) else (none))) else (if bt153.1 > 0 then ((spec_l01Next.f s0_0 bt163.2.1 bt163.2.2 bt153.1).bind fun bt181=>(if 0 ≤ bt181.1 then (if bt181.1 < (bt153.2.1.length:Int) then ((spec_l01One.f bt181.1).bind fun t185=>((spec_l01One.f bt153.1).bind fun t187=>((spec_l01One.f bt153.1).bind fun t188=>((spec_l01Next.f s0_0 bt181.2.1 bt181.2.2 t188).bind fun bt189=>((spec_l01Pick.f s0_0 bt189.2.1 bt189.2.2 (([wrap64 ((rd bt153.2.1 bt181.1) - t185),Go.bits .or .i64 (rd bt153.2.1 bt181.1) t187,bt189.1,(-1)]:List Int))).bind fun bt195=>(some (bt153.1,(bt153.2.1.set (bt181.1:Int).toNat bt195.1),bt195.2.1,bt195.2.2))))))) else (none)) else (none))) else (some (bt153.1,bt153.2.1,bt163.2.1,bt163.2.2))))))))
def spec_l02Spoil.T7:Bool × List (List Nat × List Nat):=(true,[([],[]),([0],[0]),([],[]),([],[]),([],[]),([4],[4]),([],[]),([5,6],[5,6]),([7],[7]),([],[]),([9],[9]),([8,10],[8,10]),([],[]),([12],[12]),([],[]),([13,14],[13,14]),([15],[15]),([],[]),([17],[17]),([18,10],[18]),([16,19],[16,19]),([],[]),([],[]),([22],[22]),([23,19],[23]),([21,24,24],[21,24]),([11,20,25],[11,20,25]),([3,26,25],[3,26]),([1,2,0,1,2,3,4,5,6,7,8,9,10,11,12,13,14,15,16,17,18,19,20,21,22,23,24,25,26,27],[1,2]),([28,27,27,0,1,2,3,4,5,6,7,8,9,10,11,12,13,14,15,16,17,18,19,20,21,22,23,24,25,26,27],[27,28])])
def spec_l02Spoil.B7:List Nat:=[0,1,0,0,0,16,0,112,240,0,512,2032,0,4096,0,28672,61440,0,131072,394752,1046016,0,0,4194304,13501952,32376320,67108848,134217720,268435455,536870911]
theorem spec_l02Spoil.tab7:rtab .any (opsOf Tryd.f20 7) = spec_l02Spoil.T7:=by kernel_rfl
theorem spec_l02Spoil.bits7:waitsOk spec_l02Spoil.T7.2 spec_l02Spoil.B7 = true:=by kernel_rfl
def spec_l02Spoil.T11:Bool × List (List Nat × List Nat):=(true,[([],[]),([0],[0]),([],[]),([],[]),([2,3],[2,3]),([4],[4]),([1,5,4],[1,5]),([0,1,2,3,4,5,6],[]),([7,6,6,0,1,2,3,4,5,6],[6,7])])
def spec_l02Spoil.B11:List Nat:=[0,1,0,0,12,28,63,127,255]
theorem spec_l02Spoil.tab11:rtab .any (opsOf Tryd.f20 11) = spec_l02Spoil.T11:=by kernel_rfl
theorem spec_l02Spoil.bits11:waitsOk spec_l02Spoil.T11.2 spec_l02Spoil.B11 = true:=by kernel_rfl
set_option maxHeartbeats 8000000 in
set_option maxRecDepth 100000 in
theorem spec_l02Spoil.calls (k : Nat) (g : Nat) (s0_0 : List Int) (s0_1 : Int) (s0_2 : Int) (a1 : Int) (r1 : Int) (r2 : List Int) (r3 : Int) (r4 : Int) (w0 w : World) (hI : Z66 w0 w g s0_0 s0_1 s0_2) (hB : Below w0.heap.size w0 w) (h : spec_l02Spoil.f k s0_0 s0_1 s0_2 a1 = some (r1, r2, r3, r4)) :
  Calls Tryd.prog 20 #[.pointer (some ⟨g,0,none⟩),.int .i64 a1] w fun e w' => ∃ v1_:Value,e = .returned (.agg #[.int .i64 r1,v1_]) ∧ Kd.R (Kd.int .i64) 2 w' w.heap.size (fun _=>True) v1_ r2 ∧ Z66 w0 w' g s0_0 r3 r4 ∧ Below w0.heap.size w0 w' ∧ KeepBut w w' g none:=by
 have hu26:=Tryd.underlying26
 have HI0:=zA hI
 have HK:=zA (KeepBut.refl w g none)
 have HL:=zA hB.size
 clear hI
 have HW0:=zA hB.size
 have HB:=zA hB
 clear hB
 have H:=h
 unfold spec_l02Spoil.f at H
 clear h
 obtain ⟨⟨t153,t154,t157,t158⟩,A3,H⟩:=zb H
 try dsimp only at H
 obtain ⟨⟨t160,t161,t162⟩,A4,H⟩:=zb H
 try dsimp only at H
 by_cases c5:t160 > 0
 ·rw [if_pos c5] at H
  have c5b0:decide (0 < t160) = true:=decide_eq_true c5
  clear c5
  simp only [Option.some.injEq,Prod.mk.injEq] at H
  obtain ⟨rfl,rfl,rfl,rfl⟩:=H
  go_enter Tryd.func20,Tryd.ntmps20
  go_wp2_with (first | (refine zBE 4 #[.int .i64 0,.slice none 0 0] 26 ?_;intro gb152 hg w6 hbox hb;replace HB:=zA (kQ (zT HB.out (Z66.ge HI0.out)) hb);have BK152:=zA (hbox);have GW152:=zA (zB6 hg (kX (w:=w) (g:=g) (row:=none) (yA HK.out)):w.heap.size ≤ gb152);have GE152:=zA ((Nat.le_trans HW0.out (by rw [hg];exact (kX (w:=w) (g:=g) (row:=none) (yA HK.out)):w.heap.size ≤ gb152):w0.heap.size ≤ gb152));replace HK:=zA (kT (yA HK.out) (kU hb g none) (.inl rfl));have NB0_152:=zA (zB7 hg (Z66.lt (show Z66 w0 _ g s0_0 s0_1 s0_2 from Z66.uA HI0.out)):g ≠ gb152);have NB152_0:=zA (zB8 hg (Z66.lt (show Z66 w0 _ g s0_0 s0_1 s0_2 from Z66.uA HI0.out)):gb152 ≠ g);replace HI0:=zA (Z66.below (Z66.uA HI0.out) hb);clear hb hbox hg) | (refine zO (some 9) Tryd.func40 #[.pointer (some ⟨g,0,none⟩),.int .i64 a1] ?_;(with_reducible refine (spec_l02Draw.calls k g s0_0 s0_1 s0_2 a1 t153 t154 t157 t158 w0 _ ?side1 ?side2 A3.out).mono ?_);(case side1=>exact Z66.uB HI0.out NB0_152.out);(case side2=>exact zV HB.out (Z66.ge HI0.out) GE152.out);rintro e w7 ⟨v155,rfl,ho0,hi,hb,hk⟩;refine ⟨_,rfl,?_⟩;replace BK152:=zA (zB2 hk BK152.out NB152_0.out);have HO156:=zA (kI ho0 (kX (w:=w) (g:=g) (row:=none) (yB HK.out GW152.out)));replace HK:=zA (kT (yB HK.out GW152.out) hk (.inl rfl));replace HB:=zA (hb);replace HI0:=zA (hi);(try clear hb);(try clear hk);(try clear hi);(try clear ho0)) | (refine zBE 5 #[.int .i64 0,.slice none 0 0] 26 ?_;intro gb159 hg w8 hbox hb;replace HO156:=zA (kL (zP HO156.out) hb);replace HB:=zA (kQ (zV HB.out (Z66.ge HI0.out) GE152.out) hb);have BK159:=zA (hbox);have GW159:=zA (zB6 hg (kX (w:=w) (g:=g) (row:=none) (yB HK.out GW152.out)):w.heap.size ≤ gb159);have GE159:=zA ((Nat.le_trans HW0.out (by rw [hg];exact (kX (w:=w) (g:=g) (row:=none) (yB HK.out GW152.out)):w.heap.size ≤ gb159):w0.heap.size ≤ gb159));replace HK:=zA (kT (yB HK.out GW152.out) (kU hb g none) (.inl rfl));have NB152_159:=zA (zB4 hg BK152.out:gb152 ≠ gb159);have NB159_152:=zA (zB5 hg BK152.out:gb159 ≠ gb152);replace BK152:=zA (zB1 BK152.out hb);have NB0_159:=zA (zB7 hg (Z66.lt (show Z66 w0 _ g s0_0 t157 t158 from Z66.uB HI0.out NB0_152.out)):g ≠ gb159);have NB159_0:=zA (zB8 hg (Z66.lt (show Z66 w0 _ g s0_0 t157 t158 from Z66.uB HI0.out NB0_152.out)):gb159 ≠ g);replace HI0:=zA (Z66.below (Z66.uB HI0.out NB0_152.out) hb);clear hb hbox hg;have hnb9:=NB159_152.out;have hnc9:=NB152_159.out;have hnb10:=NB159_0.out;have hnc10:=NB0_159.out;obtain ⟨hcz11_0,hcz11_1,hfz11_0,hfz11_1⟩:=zB3 BK159.out;obtain ⟨Ao12,co12,eo12⟩:=kM HO156.out;subst eo12) | (refine zO (some 11) Tryd.func41 #[.pointer (some ⟨g,0,none⟩),.int .i64 14] ?_;(with_reducible refine (spec_l01Next.calls g s0_0 t157 t158 14 t160 t161 t162 w0 _ ?side1 ?side2 A4.out).mono ?_);(case side1=>exact Z66.uC HI0.out NB0_152.out NB0_159.out);(case side2=>exact zW HB.out (Z66.ge HI0.out) GE152.out GE159.out);rintro e w13 ⟨rfl,hi,hb,hk⟩;refine ⟨_,rfl,?_⟩;replace BK152:=zA (KeepBut.blk hk (g' := gb152) (o:=.cells #[.int .i64 0,.slice none 0 0] 26 (0,0)) (zBG BK152.out NB152_159.out NB152_159.out) NB152_0.out (by simp));replace HO156:=zA (kA (Kd.R_keep (Z66.apart (show Z66 w0 _ g s0_0 t157 t158 from Z66.uC HI0.out NB0_152.out NB0_159.out) (zP (zFG HO156.out BK159.out (.int .i64 t153) (.slice Ao12 t154.length co12))) (by decide)) hk (fun _ h=>h.2)) (fun _ h=>h.1));replace BK159:=zA (KeepBut.blk hk (g' := gb159) (o:=.cells #[.int .i64 t153,.slice Ao12 t154.length co12] 26 (0,0)) (zRP BK159.out) NB159_0.out (by simp));replace HK:=zA (kT (yC HK.out GW152.out GW159.out) hk (.inl rfl));replace HB:=zA (hb);replace HI0:=zA (hi);(try clear hb);(try clear hk);(try clear hi);obtain ⟨hcz14_0,hcz14_1,hfz14_0,hfz14_1⟩:=zB3 BK159.out;have hnb15:=NB152_0.out;have hnc15:=NB0_152.out;obtain ⟨hcz16_0,hcz16_1,hfz16_0,hfz16_1⟩:=zB3 BK152.out))
  refine bodyPost_ret (results_cell_row rfl _ _ gb152 26 #[.int .i64 t153,.slice Ao12 t154.length co12] (0,0) _ rfl (zRP BK152.out) Tryd.underlying26 rfl (by kernel_rfl)) rfl ?_
  exact ⟨_,zr,by (with_reducible repeat (first | apply zF | apply zG | apply zH));exact kA (kY (p:=⟨gb152,1,none⟩) (kY (p:=⟨gb152,0,none⟩) (kD HO156.out BK152.out (by decide)) (fun _ hk=>hk.2) (.int .i64 t153)) (fun _ hk=>hk.2) (.slice Ao12 t154.length co12)) (fun _ hk=>trivial),by repeat (first | (with_reducible first | exact HI0.out | apply Z66.alloc | apply Z66.drewN | apply Z66.drew | apply Z66.set_1 | apply Z66.set_2 | refine Z66.far ?_ NB0_152.out _ | refine Z66.far ?_ NB0_159.out _) | exact HI0.out),zW HB.out (Z66.ge HI0.out) GE152.out GE159.out,by repeat (first | (with_reducible first | exact HK.out | apply KeepBut.set_ | apply keep_drewN | apply keep_drew | apply keep_alloc | refine keep_far ?_ GW152.out _ | refine keep_far ?_ GW159.out _) | exact HK.out)⟩
 rw [if_neg c5] at H
 have c5b0:decide (0 < t160) = false:=decide_eq_false c5
 clear c5
 obtain ⟨⟨t163,t164,t165⟩,A17,H⟩:=zb H
 try dsimp only at H
 by_cases c18:t163 = 0
 ·rw [if_pos c18] at H
  obtain ⟨c18b0,c18b1⟩:=zT1 c18
  clear c18
  obtain ⟨y166,hy166⟩:∃ y_:List Int,y_ = (([(-1),9,wrap64 (t153 + 1)]:List Int)):=⟨_,rfl⟩
  replace H:((spec_l01Pick.f s0_0 t164 t165 y166).bind fun bt169=>(some (bt169.1,t154,bt169.2.1,bt169.2.2))) = some (r1,r2,r3,r4):=zy hy166 H
  have Ny166:=zA hy166
  clear hy166
  obtain ⟨⟨t169,t170,t171⟩,A19,H⟩:=zb H
  try dsimp only at H
  simp only [Option.some.injEq,Prod.mk.injEq] at H
  obtain ⟨rfl,rfl,rfl,rfl⟩:=H
  go_enter Tryd.func20,Tryd.ntmps20
  go_wp2_with (first | (refine zBE 4 #[.int .i64 0,.slice none 0 0] 26 ?_;intro gb152 hg w20 hbox hb;replace HB:=zA (kQ (zT HB.out (Z66.ge HI0.out)) hb);have BK152:=zA (hbox);have GW152:=zA (zB6 hg (kX (w:=w) (g:=g) (row:=none) (yA HK.out)):w.heap.size ≤ gb152);have GE152:=zA ((Nat.le_trans HW0.out (by rw [hg];exact (kX (w:=w) (g:=g) (row:=none) (yA HK.out)):w.heap.size ≤ gb152):w0.heap.size ≤ gb152));replace HK:=zA (kT (yA HK.out) (kU hb g none) (.inl rfl));have NB0_152:=zA (zB7 hg (Z66.lt (show Z66 w0 _ g s0_0 s0_1 s0_2 from Z66.uA HI0.out)):g ≠ gb152);have NB152_0:=zA (zB8 hg (Z66.lt (show Z66 w0 _ g s0_0 s0_1 s0_2 from Z66.uA HI0.out)):gb152 ≠ g);replace HI0:=zA (Z66.below (Z66.uA HI0.out) hb);clear hb hbox hg) | (refine zO (some 9) Tryd.func40 #[.pointer (some ⟨g,0,none⟩),.int .i64 a1] ?_;(with_reducible refine (spec_l02Draw.calls k g s0_0 s0_1 s0_2 a1 t153 t154 t157 t158 w0 _ ?side1 ?side2 A3.out).mono ?_);(case side1=>exact Z66.uB HI0.out NB0_152.out);(case side2=>exact zV HB.out (Z66.ge HI0.out) GE152.out);rintro e w21 ⟨v155,rfl,ho0,hi,hb,hk⟩;refine ⟨_,rfl,?_⟩;replace BK152:=zA (zB2 hk BK152.out NB152_0.out);have HO156:=zA (kI ho0 (kX (w:=w) (g:=g) (row:=none) (yB HK.out GW152.out)));replace HK:=zA (kT (yB HK.out GW152.out) hk (.inl rfl));replace HB:=zA (hb);replace HI0:=zA (hi);(try clear hb);(try clear hk);(try clear hi);(try clear ho0)) | (refine zBE 5 #[.int .i64 0,.slice none 0 0] 26 ?_;intro gb159 hg w22 hbox hb;replace HO156:=zA (kL (zP HO156.out) hb);replace HB:=zA (kQ (zV HB.out (Z66.ge HI0.out) GE152.out) hb);have BK159:=zA (hbox);have GW159:=zA (zB6 hg (kX (w:=w) (g:=g) (row:=none) (yB HK.out GW152.out)):w.heap.size ≤ gb159);have GE159:=zA ((Nat.le_trans HW0.out (by rw [hg];exact (kX (w:=w) (g:=g) (row:=none) (yB HK.out GW152.out)):w.heap.size ≤ gb159):w0.heap.size ≤ gb159));replace HK:=zA (kT (yB HK.out GW152.out) (kU hb g none) (.inl rfl));have NB152_159:=zA (zB4 hg BK152.out:gb152 ≠ gb159);have NB159_152:=zA (zB5 hg BK152.out:gb159 ≠ gb152);replace BK152:=zA (zB1 BK152.out hb);have NB0_159:=zA (zB7 hg (Z66.lt (show Z66 w0 _ g s0_0 t157 t158 from Z66.uB HI0.out NB0_152.out)):g ≠ gb159);have NB159_0:=zA (zB8 hg (Z66.lt (show Z66 w0 _ g s0_0 t157 t158 from Z66.uB HI0.out NB0_152.out)):gb159 ≠ g);replace HI0:=zA (Z66.below (Z66.uB HI0.out NB0_152.out) hb);clear hb hbox hg;have hnb23:=NB159_152.out;have hnc23:=NB152_159.out;have hnb24:=NB159_0.out;have hnc24:=NB0_159.out;obtain ⟨hcz25_0,hcz25_1,hfz25_0,hfz25_1⟩:=zB3 BK159.out;obtain ⟨Ao26,co26,eo26⟩:=kM HO156.out;subst eo26) | (refine zO (some 11) Tryd.func41 #[.pointer (some ⟨g,0,none⟩),.int .i64 14] ?_;(with_reducible refine (spec_l01Next.calls g s0_0 t157 t158 14 t160 t161 t162 w0 _ ?side1 ?side2 A4.out).mono ?_);(case side1=>exact Z66.uC HI0.out NB0_152.out NB0_159.out);(case side2=>exact zW HB.out (Z66.ge HI0.out) GE152.out GE159.out);rintro e w27 ⟨rfl,hi,hb,hk⟩;refine ⟨_,rfl,?_⟩;replace BK152:=zA (KeepBut.blk hk (g' := gb152) (o:=.cells #[.int .i64 0,.slice none 0 0] 26 (0,0)) (zBG BK152.out NB152_159.out NB152_159.out) NB152_0.out (by simp));replace HO156:=zA (kA (Kd.R_keep (Z66.apart (show Z66 w0 _ g s0_0 t157 t158 from Z66.uC HI0.out NB0_152.out NB0_159.out) (zP (zFG HO156.out BK159.out (.int .i64 t153) (.slice Ao26 t154.length co26))) (by decide)) hk (fun _ h=>h.2)) (fun _ h=>h.1));replace BK159:=zA (KeepBut.blk hk (g' := gb159) (o:=.cells #[.int .i64 t153,.slice Ao26 t154.length co26] 26 (0,0)) (zRP BK159.out) NB159_0.out (by simp));replace HK:=zA (kT (yC HK.out GW152.out GW159.out) hk (.inl rfl));replace HB:=zA (hb);replace HI0:=zA (hi);(try clear hb);(try clear hk);(try clear hi)) | (refine zO (some 15) Tryd.func41 #[.pointer (some ⟨g,0,none⟩),.int .i64 4] ?_;(with_reducible refine (spec_l01Next.calls g s0_0 t161 t162 4 t163 t164 t165 w0 _ ?side1 ?side2 A17.out).mono ?_);(case side1=>exact Z66.uC HI0.out NB0_152.out NB0_159.out);(case side2=>exact zW HB.out (Z66.ge HI0.out) GE152.out GE159.out);rintro e w28 ⟨rfl,hi,hb,hk⟩;refine ⟨_,rfl,?_⟩;replace BK152:=zA (zB2 hk BK152.out NB152_0.out);replace HO156:=zA (zB9 (Z66.apart (show Z66 w0 _ g s0_0 t161 t162 from Z66.uC HI0.out NB0_152.out NB0_159.out) (zP HO156.out) (by decide)) hk);replace BK159:=zA (zB2 hk BK159.out NB159_0.out);replace HK:=zA (kT (yC HK.out GW152.out GW159.out) hk (.inl rfl));replace HB:=zA (hb);replace HI0:=zA (hi);(try clear hb);(try clear hk);(try clear hi);obtain ⟨hcz29_0,hcz29_1,hfz29_0,hfz29_1⟩:=zB3 BK159.out) | ((with_reducible refine kS (N:=58) rfl ?_);refine Kd.R_lit (Kd.int .i64) _ 2 ?hg (N:=58) ?hd (xs:=([(-1),9,wrap64 (t153 + 1)]:List Int)) (inner:=[.int .i64 (-1),.int .i64 9,.int .i64 (wrap64 (t153 + 1))]) (ok:=fun _=>True) (okp:=fun _=>True) ?hr ?hp (fun _ hk=>hk) trivial (kW _ _) (Nat.le_refl _) (by simp) ?_;(case hd=>rfl);(case hg=>rfl);(case hr=>first | (go_simp;done) | (go_simp;rfl));(case hp=>exact (Reps.one (show Kd.M (Kd.int .i64) _ _ _ (-1) [.int .i64 (-1)] from rfl) (Reps.one (show Kd.M (Kd.int .i64) _ _ _ 9 [.int .i64 9] from rfl) (Reps.one (show Kd.M (Kd.int .i64) _ _ _ (wrap64 (t153 + 1)) [.int .i64 (wrap64 (t153 + 1))] from rfl) (Reps.none _ _)))));intro v167 w30 ho31 hb hg_ hnew_;clear hg_ hnew_;(first | rw [← Ny166.out] at ho31 | (simp only [Int.reduceToNat] at ho31;rw [← Ny166.out] at ho31));have HO168:=zA (kI (kF ho31 (kH (zP HO156.out))) (kX (w:=w) (g:=g) (row:=none) (yC HK.out GW152.out GW159.out)));replace HO156:=zA (kE (zP HO156.out) (kC ho31) hb);replace BK152:=zA (zB1 BK152.out hb);replace BK159:=zA (zB1 BK159.out hb);replace HK:=zA (kT (yC HK.out GW152.out GW159.out) (kU hb g none) (.inl rfl));replace HB:=zA (kQ (zW HB.out (Z66.ge HI0.out) GE152.out GE159.out) hb);replace HI0:=zA (Z66.below (Z66.uC HI0.out NB0_152.out NB0_159.out) hb);clear hb ho31;obtain ⟨Ao32,co32,eo32⟩:=kM HO168.out;subst eo32) | (refine zO (some 59) Tryd.func42 #[.pointer (some ⟨g,0,none⟩),.slice Ao32 y166.length co32] ?_;(with_reducible refine (spec_l01Pick.calls g s0_0 t164 t165 _ _ y166 t169 t170 t171 w0 _ ?side1 ?side2 ?side3 ?side4 ?side5 A19.out).mono ?_);(case side1=>exact Z66.uC HI0.out NB0_152.out NB0_159.out);(case side2=>exact zW HB.out (Z66.ge HI0.out) GE152.out GE159.out);(case side3=>exact zS (kB HO168.out).2.2);(case side4=>exact (kB HO168.out).2.1);(case side5=>exact jJ (Z66.own_ne HI0.out HO168.out (by decide)));rintro e w33 ⟨rfl,hi,hb,hk⟩;refine ⟨_,rfl,?_⟩;replace BK152:=zA (zB2 hk BK152.out NB152_0.out);replace HO156:=zA (zB9 (Z66.apart (show Z66 w0 _ g s0_0 t164 t165 from Z66.uC HI0.out NB0_152.out NB0_159.out) (zP HO156.out) (by decide)) hk);replace BK159:=zA (zB2 hk BK159.out NB159_0.out);replace HO168:=zA (zB9 (Z66.apart (show Z66 w0 _ g s0_0 t164 t165 from Z66.uC HI0.out NB0_152.out NB0_159.out) (zP HO168.out) (by decide)) hk);replace HK:=zA (kT (yC HK.out GW152.out GW159.out) hk (.inl rfl));replace HB:=zA (hb);replace HI0:=zA (hi);(try clear hb);(try clear hk);(try clear hi);obtain ⟨hcz34_0,hcz34_1,hfz34_0,hfz34_1⟩:=zB3 BK159.out;have hnb35:=NB152_0.out;have hnc35:=NB0_152.out;obtain ⟨hcz36_0,hcz36_1,hfz36_0,hfz36_1⟩:=zB3 BK152.out))
  refine bodyPost_ret (results_cell_row rfl _ _ gb152 26 #[.int .i64 t169,.slice Ao26 t154.length co26] (0,0) _ rfl (by (with_reducible repeat (first | refine zJ ?_ _ | refine zK ?_ | refine zI ?_ _));refine blk_put (cs:=#[.int .i64 t169,.slice none 0 0]) ?_ 1 _ rfl;(with_reducible repeat (first | refine zJ ?_ _ | refine zK ?_ | refine zI ?_ _));refine blk_put (cs:=#[.int .i64 0,.slice none 0 0]) ?_ 0 _ rfl;(with_reducible repeat (first | refine zJ ?_ _ | refine zK ?_ | refine zI ?_ _));refine blk_far ?_ NB152_159.out _;(with_reducible repeat (first | refine zJ ?_ _ | refine zK ?_ | refine zI ?_ _));exact BK152.out) Tryd.underlying26 rfl (by kernel_rfl)) rfl ?_
  exact ⟨_,zr,by (with_reducible repeat (first | apply zF | apply zG | apply zH));exact kA (kY (p:=⟨gb152,1,none⟩) (kY (p:=⟨gb152,0,none⟩) (kY (p:=⟨gb159,0,none⟩) (kD (kD HO156.out BK159.out (by decide)) BK152.out (by decide)) (fun _ hk=>hk.1.2) (.int .i64 t169)) (fun _ hk=>hk.2) (.int .i64 t169)) (fun _ hk=>hk.2) (.slice Ao26 t154.length co26)) (fun _ hk=>trivial),by repeat (first | (with_reducible first | exact HI0.out | apply Z66.alloc | apply Z66.drewN | apply Z66.drew | apply Z66.set_1 | apply Z66.set_2 | refine Z66.far ?_ NB0_152.out _ | refine Z66.far ?_ NB0_159.out _) | exact HI0.out),zW HB.out (Z66.ge HI0.out) GE152.out GE159.out,by repeat (first | (with_reducible first | exact HK.out | apply KeepBut.set_ | apply keep_drewN | apply keep_drew | apply keep_alloc | refine keep_far ?_ GW152.out _ | refine keep_far ?_ GW159.out _) | exact HK.out)⟩
 rw [if_neg c18] at H
 obtain ⟨c18b0,c18b1⟩:=zT2 c18
 by_cases c37:t163 = 1
 ·rw [if_pos c37] at H
  obtain ⟨c37b0,c37b1⟩:=zT1 c37
  clear c37
  obtain ⟨y172,hy172⟩:∃ y_:List Int,y_ = (([0,1,255]:List Int)):=⟨_,rfl⟩
  replace H:((spec_l01Pick.f s0_0 t164 t165 y172).bind fun bt175=>(if t154.length < 17592186044416 then (some (t153,(t154 ++ [bt175.1]),bt175.2.1,bt175.2.2)) else (none))) = some (r1,r2,r3,r4):=zy hy172 H
  have Ny172:=zA hy172
  clear hy172
  obtain ⟨⟨t175,t176,t177⟩,A38,H⟩:=zb H
  try dsimp only at H
  by_cases c39:t154.length < 17592186044416
  ·rw [if_pos c39] at H
   have LMc39:=zA c39
   clear c39
   obtain ⟨y178,hy178⟩:∃ y_:List Int,y_ = (t154 ++ [t175]):=⟨_,rfl⟩
   replace H:(some (t153,y178,t176,t177)) = some (r1,r2,r3,r4):=zy hy178 H
   have Ny178:=zA hy178
   clear hy178
   simp only [Option.some.injEq,Prod.mk.injEq] at H
   obtain ⟨rfl,rfl,rfl,rfl⟩:=H
   go_enter Tryd.func20,Tryd.ntmps20
   try go_wp2_with (first | (refine zBE 4 #[.int .i64 0,.slice none 0 0] 26 ?_;intro gb152 hg w40 hbox hb;replace HB:=zA (kQ (zT HB.out (Z66.ge HI0.out)) hb);have BK152:=zA (hbox);have GW152:=zA (zB6 hg (kX (w:=w) (g:=g) (row:=none) (yA HK.out)):w.heap.size ≤ gb152);have GE152:=zA ((Nat.le_trans HW0.out (by rw [hg];exact (kX (w:=w) (g:=g) (row:=none) (yA HK.out)):w.heap.size ≤ gb152):w0.heap.size ≤ gb152));replace HK:=zA (kT (yA HK.out) (kU hb g none) (.inl rfl));have NB0_152:=zA (zB7 hg (Z66.lt (show Z66 w0 _ g s0_0 s0_1 s0_2 from Z66.uA HI0.out)):g ≠ gb152);have NB152_0:=zA (zB8 hg (Z66.lt (show Z66 w0 _ g s0_0 s0_1 s0_2 from Z66.uA HI0.out)):gb152 ≠ g);replace HI0:=zA (Z66.below (Z66.uA HI0.out) hb);clear hb hbox hg) | (refine zO (some 9) Tryd.func40 #[.pointer (some ⟨g,0,none⟩),.int .i64 a1] ?_;(with_reducible refine (spec_l02Draw.calls k g s0_0 s0_1 s0_2 a1 t153 t154 t157 t158 w0 _ ?side1 ?side2 A3.out).mono ?_);(case side1=>exact Z66.uB HI0.out NB0_152.out);(case side2=>exact zV HB.out (Z66.ge HI0.out) GE152.out);rintro e w41 ⟨v155,rfl,ho0,hi,hb,hk⟩;refine ⟨_,rfl,?_⟩;replace BK152:=zA (zB2 hk BK152.out NB152_0.out);have HO156:=zA (kI ho0 (kX (w:=w) (g:=g) (row:=none) (yB HK.out GW152.out)));replace HK:=zA (kT (yB HK.out GW152.out) hk (.inl rfl));replace HB:=zA (hb);replace HI0:=zA (hi);(try clear hb);(try clear hk);(try clear hi);(try clear ho0)) | (refine zBE 5 #[.int .i64 0,.slice none 0 0] 26 ?_;intro gb159 hg w42 hbox hb;replace HO156:=zA (kL (zP HO156.out) hb);replace HB:=zA (kQ (zV HB.out (Z66.ge HI0.out) GE152.out) hb);have BK159:=zA (hbox);have GW159:=zA (zB6 hg (kX (w:=w) (g:=g) (row:=none) (yB HK.out GW152.out)):w.heap.size ≤ gb159);have GE159:=zA ((Nat.le_trans HW0.out (by rw [hg];exact (kX (w:=w) (g:=g) (row:=none) (yB HK.out GW152.out)):w.heap.size ≤ gb159):w0.heap.size ≤ gb159));replace HK:=zA (kT (yB HK.out GW152.out) (kU hb g none) (.inl rfl));have NB152_159:=zA (zB4 hg BK152.out:gb152 ≠ gb159);have NB159_152:=zA (zB5 hg BK152.out:gb159 ≠ gb152);replace BK152:=zA (zB1 BK152.out hb);have NB0_159:=zA (zB7 hg (Z66.lt (show Z66 w0 _ g s0_0 t157 t158 from Z66.uB HI0.out NB0_152.out)):g ≠ gb159);have NB159_0:=zA (zB8 hg (Z66.lt (show Z66 w0 _ g s0_0 t157 t158 from Z66.uB HI0.out NB0_152.out)):gb159 ≠ g);replace HI0:=zA (Z66.below (Z66.uB HI0.out NB0_152.out) hb);clear hb hbox hg;have hnb43:=NB159_152.out;have hnc43:=NB152_159.out;have hnb44:=NB159_0.out;have hnc44:=NB0_159.out;obtain ⟨hcz45_0,hcz45_1,hfz45_0,hfz45_1⟩:=zB3 BK159.out;obtain ⟨Ao46,co46,eo46⟩:=kM HO156.out;subst eo46) | (refine zO (some 11) Tryd.func41 #[.pointer (some ⟨g,0,none⟩),.int .i64 14] ?_;(with_reducible refine (spec_l01Next.calls g s0_0 t157 t158 14 t160 t161 t162 w0 _ ?side1 ?side2 A4.out).mono ?_);(case side1=>exact Z66.uC HI0.out NB0_152.out NB0_159.out);(case side2=>exact zW HB.out (Z66.ge HI0.out) GE152.out GE159.out);rintro e w47 ⟨rfl,hi,hb,hk⟩;refine ⟨_,rfl,?_⟩;replace BK152:=zA (KeepBut.blk hk (g' := gb152) (o:=.cells #[.int .i64 0,.slice none 0 0] 26 (0,0)) (zBG BK152.out NB152_159.out NB152_159.out) NB152_0.out (by simp));replace HO156:=zA (kA (Kd.R_keep (Z66.apart (show Z66 w0 _ g s0_0 t157 t158 from Z66.uC HI0.out NB0_152.out NB0_159.out) (zP (zFG HO156.out BK159.out (.int .i64 t153) (.slice Ao46 t154.length co46))) (by decide)) hk (fun _ h=>h.2)) (fun _ h=>h.1));replace BK159:=zA (KeepBut.blk hk (g' := gb159) (o:=.cells #[.int .i64 t153,.slice Ao46 t154.length co46] 26 (0,0)) (zRP BK159.out) NB159_0.out (by simp));replace HK:=zA (kT (yC HK.out GW152.out GW159.out) hk (.inl rfl));replace HB:=zA (hb);replace HI0:=zA (hi);(try clear hb);(try clear hk);(try clear hi)) | (refine zO (some 15) Tryd.func41 #[.pointer (some ⟨g,0,none⟩),.int .i64 4] ?_;(with_reducible refine (spec_l01Next.calls g s0_0 t161 t162 4 t163 t164 t165 w0 _ ?side1 ?side2 A17.out).mono ?_);(case side1=>exact Z66.uC HI0.out NB0_152.out NB0_159.out);(case side2=>exact zW HB.out (Z66.ge HI0.out) GE152.out GE159.out);rintro e w48 ⟨rfl,hi,hb,hk⟩;refine ⟨_,rfl,?_⟩;replace BK152:=zA (zB2 hk BK152.out NB152_0.out);replace HO156:=zA (zB9 (Z66.apart (show Z66 w0 _ g s0_0 t161 t162 from Z66.uC HI0.out NB0_152.out NB0_159.out) (zP HO156.out) (by decide)) hk);replace BK159:=zA (zB2 hk BK159.out NB159_0.out);replace HK:=zA (kT (yC HK.out GW152.out GW159.out) hk (.inl rfl));replace HB:=zA (hb);replace HI0:=zA (hi);(try clear hb);(try clear hk);(try clear hi)))
   replace HO156:=zA (zH HO156.out)
   replace BK152:=zA (zK BK152.out)
   replace BK159:=zA (zK BK159.out)
   replace HI0:=zA (Z66.drew HI0.out)
   replace HK:=zA (keep_drew HK.out)
   replace HB:=zA (zD HB.out)
   refine start_ (n:=9) (S:=fun w' => w'.cell? ⟨gb159,0,none⟩ = some (.int .i64 t153) ∧ w'.cell? ⟨gb159,1,none⟩ = some (.slice Ao46 t154.length co46)) (ds:=[8]) #[false,false,false,false,false,false,false,false,false] (by kernel_rfl) rfl rfl ⟨(kV BK159.out 0).trans rfl,(kV BK159.out 1).trans rfl⟩ (fun hHeld=>?_);refine with_tabW spec_l02Spoil.tab11 spec_l02Spoil.bits11 (fun HT_ HW_=>?_)
   generalize w48.drew = w49 at HO156 BK152 BK159 HI0 HK HB hHeld ⊢
   refine zp 0 (some 63) #[true,false,false,false,false,false,false,false,false] HT_.out ?_
   refine zp 2 (some 65) #[true,false,true,false,false,false,false,false,false] HT_.out ?_
   refine zc 1 (some 64) #[true,true,true,false,false,false,false,false,false] HT_.out HW_.out hHeld ?_
   refine one_ (i:=3) (N:=some 66) #[true,true,true,true,false,false,false,false,false] rfl rfl (one_of HT_.out (by kernel_rfl)) (by decide) (fun K hK=>?_)
   refine Kd.R_lit_step (Kd.int .i64) _ 2 ?hg (N:=66) ?hd (xs:=([0,1,255]:List Int)) (inner:=[.int .i64 0,.int .i64 1,.int .i64 255]) (ok:=fun _=>True) (okp:=fun _=>True) ?hr ?hp (fun _ hk=>hk) trivial (kW _ _) (Nat.le_refl _) (by simp) ?_;(case hd=>rfl);(case hg=>rfl);(case hr=>first | (go_simp;done) | (go_simp;rfl));(case hp=>exact (Reps.one (show Kd.M (Kd.int .i64) _ _ _ 0 [.int .i64 0] from rfl) (Reps.one (show Kd.M (Kd.int .i64) _ _ _ 1 [.int .i64 1] from rfl) (Reps.one (show Kd.M (Kd.int .i64) _ _ _ 255 [.int .i64 255] from rfl) (Reps.none _ _)))))
   intro v173 w50 ho51 hb hg_ hnew_
   clear hg_ hnew_
   (first | rw [← Ny172.out] at ho51 | (simp only [Int.reduceToNat] at ho51;rw [← Ny172.out] at ho51))
   have HO174:=zA (kI (kF ho51 (kH (zP HO156.out))) (kX (w:=w) (g:=g) (row:=none) (yC HK.out GW152.out GW159.out)))
   replace HO156:=zA (kE (zP HO156.out) (kC ho51) hb)
   replace BK152:=zA (zB1 BK152.out hb)
   replace BK159:=zA (zB1 BK159.out hb)
   replace HK:=zA (kT (yC HK.out GW152.out GW159.out) (kU hb g none) (.inl rfl))
   replace HB:=zA (kQ (zW HB.out (Z66.ge HI0.out) GE152.out GE159.out) hb)
   replace HI0:=zA (Z66.below (Z66.uC HI0.out NB0_152.out NB0_159.out) hb)
   clear hb ho51
   obtain ⟨Ao52,co52,eo52⟩:=kM HO174.out
   (first | subst eo52 | (injection eo52 with f1_ f2_ f3_;have f4_:=f1_.symm;have f5_:=f3_.symm;clear f1_ f2_ f3_;subst f4_;subst f5_))
   refine hK.out _ _ ⟨(kV BK159.out 0).trans rfl,(kV BK159.out 1).trans rfl⟩ (fun hHeld=>?_)
   clear hK K
   refine norm_ (a' := ?_) ?_ ?_
   rotate_left
   ·show Act.put _ (some 66) _ = _
    simp only [Act.put,zL,zM,zN,i64_w,i32_w]
    rfl
   refine one_ (i:=4) (N:=some 67) #[true,true,true,true,true,false,false,false,false] rfl rfl (one_of HT_.out (by kernel_rfl)) (by decide) (fun K hK=>?_)
   refine goes_ Tryd.func42 (by kernel_rfl) rfl #[.pointer (some ⟨g,0,none⟩),.slice Ao52 y172.length co52] (by rfl) rfl rfl zg ?_
   with_reducible refine (spec_l01Pick.calls g s0_0 t164 t165 _ _ y172 t175 t176 t177 w0 _ ?side1 ?side2 ?side3 ?side4 ?side5 A38.out).mono ?_
   (case side1=>exact Z66.uC HI0.out NB0_152.out NB0_159.out)
   (case side2=>exact zW HB.out (Z66.ge HI0.out) GE152.out GE159.out)
   (case side3=>exact zS (kB HO174.out).2.2)
   (case side4=>exact (kB HO174.out).2.1)
   (case side5=>exact jJ (Z66.own_ne HI0.out HO174.out (by decide)))
   rintro e w53 ⟨rfl,hi,hb,hk⟩
   refine ⟨_,rfl,?_⟩
   replace BK152:=zA (zB2 hk BK152.out NB152_0.out)
   replace HO156:=zA (zB9 (Z66.apart (show Z66 w0 _ g s0_0 t164 t165 from Z66.uC HI0.out NB0_152.out NB0_159.out) (zP HO156.out) (by decide)) hk)
   replace BK159:=zA (zB2 hk BK159.out NB159_0.out)
   replace HO174:=zA (zB9 (Z66.apart (show Z66 w0 _ g s0_0 t164 t165 from Z66.uC HI0.out NB0_152.out NB0_159.out) (zP HO174.out) (by decide)) hk)
   replace HK:=zA (kT (yC HK.out GW152.out GW159.out) hk (.inl rfl))
   replace HB:=zA (hb)
   replace HI0:=zA (hi)
   (try clear hb)
   (try clear hb2)
   (try clear hk)
   (try clear hi)
   (try clear hgw)
   refine hK.out _ _ ⟨(kV BK159.out 0).trans rfl,(kV BK159.out 1).trans rfl⟩ (fun hHeld=>?_)
   clear hK K
   refine norm_ (a' := ?_) ?_ ?_
   rotate_left
   ·show Act.put _ (some 67) _ = _
    simp only [Act.put,zL,zM,zN,i64_w,i32_w]
    rfl
   refine one_ (i:=5) (N:=some 68) #[true,true,true,true,true,true,false,false,false] rfl rfl (one_of HT_.out (by kernel_rfl)) (by decide) (fun K hK=>?_)
   refine value_ (w1:=?_) (v:=?_) (by rfl) rfl ?_ ?_
   rotate_left 2
   ·go_simp
    constructor
    ·rfl
    rfl
   refine hK.out _ _ ⟨(kV (zI BK159.out _) 0).trans rfl,(kV (zI BK159.out _) 1).trans rfl⟩ (fun hHeld=>?_)
   clear hK K
   refine norm_ (a' := ?_) ?_ ?_
   rotate_left
   ·show Act.put _ (some 68) _ = _
    simp only [Act.put,zL,zM,zN,i64_w,i32_w]
    rfl
   refine one_ (i:=6) (N:=some 69) #[true,true,true,true,true,true,true,false,false] rfl rfl (one_of HT_.out (by kernel_rfl)) (by decide) (fun K hK=>?_)
   refine Kd.R_append_step (Kd.int .i64) w.heap.size (by rfl) (.tmp 64) (.tmp 68) 24 2 (.int .i64 0) 8 rfl Tryd.underlying24 info2 rfl (by decide) (by omega) (.slice Ao46 t154.length co46) t154 t175 [.int .i64 t175] (fun k_=>some k_ ≠ (.slice Ao52 y172.length co52:Value).ownBlock) (fun _=>False) rfl rfl ?aP (fun _ hk=>hk.elim) ?aF ?aO (kW _ _) ?aS ?aL ?_
   (case aP=>exact rfl)
   (case aF=>exact (fun k_ hk=>jF (kH (zP HO174.out)) k_ hk))
   (case aO=>exact (by (with_reducible repeat (first | apply zF | apply zG | apply zH));exact kA HO156.out (fun _ hk=>hk.2)))
   (case aS=>exact (kX (w:=w) (g:=g) (row:=none) (yC HK.out GW152.out GW159.out)))
   (case aL=>have:=LMc39.out;omega)
   intro v179 w54 ho hb hg hat
   rw [← Ny178.out] at ho
   replace BK152:=zA (blk_grown (g:=gb152) (o:=.cells #[.int .i64 0,.slice none 0 0] 26 (0,0)) (zR BK152.out) hg (Kd.R_ne HO156.out BK152.out (by decide)))
   replace BK159:=zA (blk_grown (g:=gb159) (o:=.cells #[.int .i64 t153,.slice Ao46 t154.length co46] 26 (0,0)) (zR BK159.out) hg (Kd.R_ne HO156.out BK159.out (by decide)))
   replace HO174:=zA (Kd.R_after (ok:=(fun _=>True)) (zP HO174.out) hg hat)
   replace HB:=zA (below_weaken (zW HB.out (Z66.ge HI0.out) GE152.out GE159.out) HL.out hb)
   replace HI0:=zA (Z66.grown (Z66.uC HI0.out NB0_152.out NB0_159.out) hg (Z66.own_ne HI0.out HO156.out (by decide)))
   replace HK:=zA (kT (yC HK.out GW152.out GW159.out) (KeepBut.of_grown hg g) (Kd.R_base2 HO156.out))
   have HO180:=zA (ho)
   clear HO156 ho hb hg hat
   obtain ⟨Ao55,co55,eo55⟩:=kM HO180.out
   (first | subst eo55 | (injection eo55 with f1_ f2_ f3_;have f4_:=f1_.symm;have f5_:=f3_.symm;clear f1_ f2_ f3_;subst f4_;subst f5_))
   refine hK.out _ _ ⟨(kV BK159.out 0).trans rfl,(kV BK159.out 1).trans rfl⟩ (fun hHeld=>?_)
   clear hK K
   refine norm_ (a' := ?_) ?_ ?_
   rotate_left
   ·show Act.put _ (some 69) _ = _
    simp only [Act.put,zL,zM,zN,i64_w,i32_w]
    rfl
   refine zp 7 (some 70) #[true,true,true,true,true,true,true,true,false] HT_.out ?_
   refine last_ (i:=8) (N:=none) #[true,true,true,true,true,true,true,true,true] rfl rfl (one_of HT_.out (by kernel_rfl)) (by decide) (fun K hK=>?_)
   have hs56:w54.cell? ⟨gb159,1,none⟩ = some (.slice Ao46 t154.length co46):=(kV BK159.out 1).trans rfl
   have hfs56:=jH BK159.out 1
   have hns56_0:=NB152_159.out
   have hms56_0:=NB159_152.out
   refine skip_ (w1:=?_) (by rfl) rfl ?_ ?_
   rotate_left
   ·go_simp
    rfl
   refine hK.out _ _ ?_
   clear hK K
   refine done_ (done_of HT_.out (by kernel_rfl)) ?_
   obtain ⟨hcz57_0,hcz57_1,hfz57_0,hfz57_1⟩:=zB3 BK159.out
   have hnb58:=NB152_0.out
   have hnc58:=NB0_152.out
   obtain ⟨hcz59_0,hcz59_1,hfz59_0,hfz59_1⟩:=zB3 BK152.out
   try go_wp2
   refine bodyPost_ret (results_cell_row rfl _ _ gb152 26 #[.int .i64 t153,.slice Ao55 y178.length co55] (0,0) _ rfl (by (with_reducible repeat (first | refine zJ ?_ _ | refine zK ?_ | refine zI ?_ _));refine blk_put (cs:=#[.int .i64 t153,.slice none 0 0]) ?_ 1 _ rfl;(with_reducible repeat (first | refine zJ ?_ _ | refine zK ?_ | refine zI ?_ _));refine blk_put (cs:=#[.int .i64 0,.slice none 0 0]) ?_ 0 _ rfl;(with_reducible repeat (first | refine zJ ?_ _ | refine zK ?_ | refine zI ?_ _));refine blk_far ?_ NB152_159.out _;(with_reducible repeat (first | refine zJ ?_ _ | refine zK ?_ | refine zI ?_ _));exact BK152.out) Tryd.underlying26 rfl (by kernel_rfl)) rfl ?_
   exact ⟨_,zr,by (with_reducible repeat (first | apply zF | apply zG | apply zH));exact kA (kY (p:=⟨gb152,1,none⟩) (kY (p:=⟨gb152,0,none⟩) (kY (p:=⟨gb159,1,none⟩) (kD (kD HO180.out BK159.out (by decide)) BK152.out (by decide)) (fun _ hk=>hk.1.2) (.slice Ao55 y178.length co55)) (fun _ hk=>hk.2) (.int .i64 t153)) (fun _ hk=>hk.2) (.slice Ao55 y178.length co55)) (fun _ hk=>trivial),by repeat (first | (with_reducible first | exact HI0.out | apply Z66.alloc | apply Z66.drewN | apply Z66.drew | apply Z66.set_1 | apply Z66.set_2 | refine Z66.far ?_ NB0_152.out _ | refine Z66.far ?_ NB0_159.out _) | exact HI0.out),zW HB.out (Z66.ge HI0.out) GE152.out GE159.out,by repeat (first | (with_reducible first | exact HK.out | apply KeepBut.set_ | apply keep_drewN | apply keep_drew | apply keep_alloc | refine keep_far ?_ GW152.out _ | refine keep_far ?_ GW159.out _) | exact HK.out)⟩
  rw [if_neg c39] at H
  exact absurd H (by simp)
 rw [if_neg c37] at H
 obtain ⟨c37b0,c37b1⟩:=zT2 c37
 by_cases c60:t153 > 0
 ·rw [if_pos c60] at H
  have c60b0:decide (0 < t153) = true:=decide_eq_true c60
  clear c60
  obtain ⟨⟨t181,t182,t183⟩,A61,H⟩:=zb H
  try dsimp only at H
  by_cases c62:0 ≤ t181
  ·rw [if_pos c62] at H
   have c62b0:decide (0 ≤ t181) = true:=decide_eq_true c62
   clear c62
   by_cases c63:t181 < (t154.length:Int)
   ·rw [if_pos c63] at H
    have c63b0:decide (t181 < (t154.length:Int)) = true:=decide_eq_true c63
    clear c63
    obtain ⟨t185,A64,H⟩:=zb H
    try dsimp only at H
    obtain ⟨t187,A65,H⟩:=zb H
    try dsimp only at H
    obtain ⟨t188,A66,H⟩:=zb H
    try dsimp only at H
    obtain ⟨⟨t189,t190,t191⟩,A67,H⟩:=zb H
    try dsimp only at H
    obtain ⟨y192,hy192⟩:∃ y_:List Int,y_ = (([wrap64 ((rd t154 t181) - t185),Go.bits .or .i64 (rd t154 t181) t187,t189,(-1)]:List Int)):=⟨_,rfl⟩
    replace H:((spec_l01Pick.f s0_0 t190 t191 y192).bind fun bt195=>(some (t153,(t154.set (t181:Int).toNat bt195.1),bt195.2.1,bt195.2.2))) = some (r1,r2,r3,r4):=zy hy192 H
    have Ny192:=zA hy192
    clear hy192
    obtain ⟨⟨t195,t196,t197⟩,A68,H⟩:=zb H
    try dsimp only at H
    obtain ⟨y198,hy198⟩:∃ y_:List Int,y_ = (t154.set (t181:Int).toNat t195):=⟨_,rfl⟩
    replace H:(some (t153,y198,t196,t197)) = some (r1,r2,r3,r4):=zy hy198 H
    have Ny198:=zA hy198
    clear hy198
    simp only [Option.some.injEq,Prod.mk.injEq] at H
    obtain ⟨rfl,rfl,rfl,rfl⟩:=H
    go_enter Tryd.func20,Tryd.ntmps20
    try go_wp2_with (first | (refine zBE 4 #[.int .i64 0,.slice none 0 0] 26 ?_;intro gb152 hg w70 hbox hb;replace HB:=zA (kQ (zT HB.out (Z66.ge HI0.out)) hb);have BK152:=zA (hbox);have GW152:=zA (zB6 hg (kX (w:=w) (g:=g) (row:=none) (yA HK.out)):w.heap.size ≤ gb152);have GE152:=zA ((Nat.le_trans HW0.out (by rw [hg];exact (kX (w:=w) (g:=g) (row:=none) (yA HK.out)):w.heap.size ≤ gb152):w0.heap.size ≤ gb152));replace HK:=zA (kT (yA HK.out) (kU hb g none) (.inl rfl));have NB0_152:=zA (zB7 hg (Z66.lt (show Z66 w0 _ g s0_0 s0_1 s0_2 from Z66.uA HI0.out)):g ≠ gb152);have NB152_0:=zA (zB8 hg (Z66.lt (show Z66 w0 _ g s0_0 s0_1 s0_2 from Z66.uA HI0.out)):gb152 ≠ g);replace HI0:=zA (Z66.below (Z66.uA HI0.out) hb);clear hb hbox hg) | (refine zO (some 9) Tryd.func40 #[.pointer (some ⟨g,0,none⟩),.int .i64 a1] ?_;(with_reducible refine (spec_l02Draw.calls k g s0_0 s0_1 s0_2 a1 t153 t154 t157 t158 w0 _ ?side1 ?side2 A3.out).mono ?_);(case side1=>exact Z66.uB HI0.out NB0_152.out);(case side2=>exact zV HB.out (Z66.ge HI0.out) GE152.out);rintro e w71 ⟨v155,rfl,ho0,hi,hb,hk⟩;refine ⟨_,rfl,?_⟩;replace BK152:=zA (zB2 hk BK152.out NB152_0.out);have HO156:=zA (kI ho0 (kX (w:=w) (g:=g) (row:=none) (yB HK.out GW152.out)));replace HK:=zA (kT (yB HK.out GW152.out) hk (.inl rfl));replace HB:=zA (hb);replace HI0:=zA (hi);(try clear hb);(try clear hk);(try clear hi);(try clear ho0)) | (refine zBE 5 #[.int .i64 0,.slice none 0 0] 26 ?_;intro gb159 hg w72 hbox hb;replace HO156:=zA (kL (zP HO156.out) hb);replace HB:=zA (kQ (zV HB.out (Z66.ge HI0.out) GE152.out) hb);have BK159:=zA (hbox);have GW159:=zA (zB6 hg (kX (w:=w) (g:=g) (row:=none) (yB HK.out GW152.out)):w.heap.size ≤ gb159);have GE159:=zA ((Nat.le_trans HW0.out (by rw [hg];exact (kX (w:=w) (g:=g) (row:=none) (yB HK.out GW152.out)):w.heap.size ≤ gb159):w0.heap.size ≤ gb159));replace HK:=zA (kT (yB HK.out GW152.out) (kU hb g none) (.inl rfl));have NB152_159:=zA (zB4 hg BK152.out:gb152 ≠ gb159);have NB159_152:=zA (zB5 hg BK152.out:gb159 ≠ gb152);replace BK152:=zA (zB1 BK152.out hb);have NB0_159:=zA (zB7 hg (Z66.lt (show Z66 w0 _ g s0_0 t157 t158 from Z66.uB HI0.out NB0_152.out)):g ≠ gb159);have NB159_0:=zA (zB8 hg (Z66.lt (show Z66 w0 _ g s0_0 t157 t158 from Z66.uB HI0.out NB0_152.out)):gb159 ≠ g);replace HI0:=zA (Z66.below (Z66.uB HI0.out NB0_152.out) hb);clear hb hbox hg;have hnb73:=NB159_152.out;have hnc73:=NB152_159.out;have hnb74:=NB159_0.out;have hnc74:=NB0_159.out;obtain ⟨hcz75_0,hcz75_1,hfz75_0,hfz75_1⟩:=zB3 BK159.out;obtain ⟨Ao76,co76,eo76⟩:=kM HO156.out;subst eo76) | (refine zO (some 11) Tryd.func41 #[.pointer (some ⟨g,0,none⟩),.int .i64 14] ?_;(with_reducible refine (spec_l01Next.calls g s0_0 t157 t158 14 t160 t161 t162 w0 _ ?side1 ?side2 A4.out).mono ?_);(case side1=>exact Z66.uC HI0.out NB0_152.out NB0_159.out);(case side2=>exact zW HB.out (Z66.ge HI0.out) GE152.out GE159.out);rintro e w77 ⟨rfl,hi,hb,hk⟩;refine ⟨_,rfl,?_⟩;replace BK152:=zA (KeepBut.blk hk (g' := gb152) (o:=.cells #[.int .i64 0,.slice none 0 0] 26 (0,0)) (zBG BK152.out NB152_159.out NB152_159.out) NB152_0.out (by simp));replace HO156:=zA (kA (Kd.R_keep (Z66.apart (show Z66 w0 _ g s0_0 t157 t158 from Z66.uC HI0.out NB0_152.out NB0_159.out) (zP (zFG HO156.out BK159.out (.int .i64 t153) (.slice Ao76 t154.length co76))) (by decide)) hk (fun _ h=>h.2)) (fun _ h=>h.1));replace BK159:=zA (KeepBut.blk hk (g' := gb159) (o:=.cells #[.int .i64 t153,.slice Ao76 t154.length co76] 26 (0,0)) (zRP BK159.out) NB159_0.out (by simp));replace HK:=zA (kT (yC HK.out GW152.out GW159.out) hk (.inl rfl));replace HB:=zA (hb);replace HI0:=zA (hi);(try clear hb);(try clear hk);(try clear hi)) | (refine zO (some 15) Tryd.func41 #[.pointer (some ⟨g,0,none⟩),.int .i64 4] ?_;(with_reducible refine (spec_l01Next.calls g s0_0 t161 t162 4 t163 t164 t165 w0 _ ?side1 ?side2 A17.out).mono ?_);(case side1=>exact Z66.uC HI0.out NB0_152.out NB0_159.out);(case side2=>exact zW HB.out (Z66.ge HI0.out) GE152.out GE159.out);rintro e w78 ⟨rfl,hi,hb,hk⟩;refine ⟨_,rfl,?_⟩;replace BK152:=zA (zB2 hk BK152.out NB152_0.out);replace HO156:=zA (zB9 (Z66.apart (show Z66 w0 _ g s0_0 t161 t162 from Z66.uC HI0.out NB0_152.out NB0_159.out) (zP HO156.out) (by decide)) hk);replace BK159:=zA (zB2 hk BK159.out NB159_0.out);replace HK:=zA (kT (yC HK.out GW152.out GW159.out) hk (.inl rfl));replace HB:=zA (hb);replace HI0:=zA (hi);(try clear hb);(try clear hk);(try clear hi);obtain ⟨hcz79_0,hcz79_1,hfz79_0,hfz79_1⟩:=zB3 BK159.out) | (refine zO (some 22) Tryd.func41 #[.pointer (some ⟨g,0,none⟩),.int .i64 t153] ?_;(with_reducible refine (spec_l01Next.calls g s0_0 t164 t165 t153 t181 t182 t183 w0 _ ?side1 ?side2 A61.out).mono ?_);(case side1=>exact Z66.uC HI0.out NB0_152.out NB0_159.out);(case side2=>exact zW HB.out (Z66.ge HI0.out) GE152.out GE159.out);rintro e w80 ⟨rfl,hi,hb,hk⟩;refine ⟨_,rfl,?_⟩;replace BK152:=zA (zB2 hk BK152.out NB152_0.out);replace HO156:=zA (zB9 (Z66.apart (show Z66 w0 _ g s0_0 t164 t165 from Z66.uC HI0.out NB0_152.out NB0_159.out) (zP HO156.out) (by decide)) hk);replace BK159:=zA (zB2 hk BK159.out NB159_0.out);replace HK:=zA (kT (yC HK.out GW152.out GW159.out) hk (.inl rfl));replace HB:=zA (hb);replace HI0:=zA (hi);(try clear hb);(try clear hk);(try clear hi)))
    replace HO156:=zA (zH HO156.out)
    replace BK152:=zA (zK BK152.out)
    replace BK159:=zA (zK BK159.out)
    replace HI0:=zA (Z66.drew HI0.out)
    replace HK:=zA (keep_drew HK.out)
    replace HB:=zA (zD HB.out)
    have p184:0 ≤ (t181:Int):=zd
    have q184:t181 < (t154.length:Int):=zd
    obtain ⟨ad184,e184,hx184_0⟩:=Kd.at_int (kB HO156.out).2.2 t181 p184 q184
    cases e184
    replace p184:=eq_true p184
    replace q184:=eq_true q184
    have p186:0 ≤ (t181:Int):=zd
    have q186:t181 < (t154.length:Int):=zd
    obtain ⟨ad186,e186,hx186_0⟩:=Kd.at_int (kB HO156.out).2.2 t181 p186 q186
    obtain rfl:ad184 = ad186:=(by injection e186)
    replace p186:=eq_true p186
    replace q186:=eq_true q186
    refine start_ (n:=30) (S:=fun w' => w'.cell? ⟨gb159,0,none⟩ = some (.int .i64 t153) ∧ w'.cell? ⟨gb159,1,none⟩ = some (.slice (some ad184) t154.length co76) ∧ w'.cell? (ad184.add (t181).toNat) = some (.int .i64 (rd t154 t181)) ∧ w'.cell? (ad184.add (t181).toNat) = some (.int .i64 (rd t154 t181))) (ds:=[29]) #[false,false,false,false,false,false,false,false,false,false,false,false,false,false,false,false,false,false,false,false,false,false,false,false,false,false,false,false,false,false] (by kernel_rfl) rfl rfl ⟨(kV BK159.out 0).trans rfl,(kV BK159.out 1).trans rfl,hx184_0,hx186_0⟩ (fun hHeld=>?_);refine with_tabW spec_l02Spoil.tab7 spec_l02Spoil.bits7 (fun HT_ HW_=>?_)
    generalize w80.drew = w81 at HO156 BK152 BK159 HI0 HK HB hx184_0 hx186_0 hHeld ⊢
    refine zp 0 (some 23) #[true,false,false,false,false,false,false,false,false,false,false,false,false,false,false,false,false,false,false,false,false,false,false,false,false,false,false,false,false,false] HT_.out ?_
    refine zp 2 (some 25) #[true,false,true,false,false,false,false,false,false,false,false,false,false,false,false,false,false,false,false,false,false,false,false,false,false,false,false,false,false,false] HT_.out ?_
    refine zp 3 (some 26) #[true,false,true,true,false,false,false,false,false,false,false,false,false,false,false,false,false,false,false,false,false,false,false,false,false,false,false,false,false,false] HT_.out ?_
    refine zp 4 (some 27) #[true,false,true,true,true,false,false,false,false,false,false,false,false,false,false,false,false,false,false,false,false,false,false,false,false,false,false,false,false,false] HT_.out ?_
    refine zp 6 (some 29) #[true,false,true,true,true,false,true,false,false,false,false,false,false,false,false,false,false,false,false,false,false,false,false,false,false,false,false,false,false,false] HT_.out ?_
    refine zp 9 (some 32) #[true,false,true,true,true,false,true,false,false,true,false,false,false,false,false,false,false,false,false,false,false,false,false,false,false,false,false,false,false,false] HT_.out ?_
    refine zp 12 (some 35) #[true,false,true,true,true,false,true,false,false,true,false,false,true,false,false,false,false,false,false,false,false,false,false,false,false,false,false,false,false,false] HT_.out ?_
    refine zp 14 (some 37) #[true,false,true,true,true,false,true,false,false,true,false,false,true,false,true,false,false,false,false,false,false,false,false,false,false,false,false,false,false,false] HT_.out ?_
    refine zp 17 (some 40) #[true,false,true,true,true,false,true,false,false,true,false,false,true,false,true,false,false,true,false,false,false,false,false,false,false,false,false,false,false,false] HT_.out ?_
    refine zp 21 (some 44) #[true,false,true,true,true,false,true,false,false,true,false,false,true,false,true,false,false,true,false,false,false,true,false,false,false,false,false,false,false,false] HT_.out ?_
    refine zp 22 (some 45) #[true,false,true,true,true,false,true,false,false,true,false,false,true,false,true,false,false,true,false,false,false,true,true,false,false,false,false,false,false,false] HT_.out ?_
    refine zf 1 (some 24) #[true,true,true,true,true,false,true,false,false,true,false,false,true,false,true,false,false,true,false,false,false,true,true,false,false,false,false,false,false,false] HT_.out HW_.out hHeld ?_
    refine zf 5 (some 28) #[true,true,true,true,true,true,true,false,false,true,false,false,true,false,true,false,false,true,false,false,false,true,true,false,false,false,false,false,false,false] HT_.out HW_.out hHeld ?_
    refine zp 7 (some 30) #[true,true,true,true,true,true,true,true,false,true,false,false,true,false,true,false,false,true,false,false,false,true,true,false,false,false,false,false,false,false] HT_.out ?_
    refine zf 8 (some 31) #[true,true,true,true,true,true,true,true,true,true,false,false,true,false,true,false,false,true,false,false,false,true,true,false,false,false,false,false,false,false] HT_.out HW_.out hHeld ?_
    refine zf 13 (some 36) #[true,true,true,true,true,true,true,true,true,true,false,false,true,true,true,false,false,true,false,false,false,true,true,false,false,false,false,false,false,false] HT_.out HW_.out hHeld ?_
    refine zp 15 (some 38) #[true,true,true,true,true,true,true,true,true,true,false,false,true,true,true,true,false,true,false,false,false,true,true,false,false,false,false,false,false,false] HT_.out ?_
    refine zf 16 (some 39) #[true,true,true,true,true,true,true,true,true,true,false,false,true,true,true,true,true,true,false,false,false,true,true,false,false,false,false,false,false,false] HT_.out HW_.out hHeld ?_
    refine zf 18 (some 41) #[true,true,true,true,true,true,true,true,true,true,false,false,true,true,true,true,true,true,true,false,false,true,true,false,false,false,false,false,false,false] HT_.out HW_.out hHeld ?_
    refine zf 23 (some 46) #[true,true,true,true,true,true,true,true,true,true,false,false,true,true,true,true,true,true,true,false,false,true,true,true,false,false,false,false,false,false] HT_.out HW_.out hHeld ?_
    refine one_ (i:=10) (N:=some 33) #[true,true,true,true,true,true,true,true,true,true,true,false,true,true,true,true,true,true,true,false,false,true,true,true,false,false,false,false,false,false] rfl rfl (one_of HT_.out (by kernel_rfl)) (by decide) (fun K hK=>?_)
    refine goes_ Tryd.func43 (by kernel_rfl) rfl #[.int .i64 t181] (by rfl) rfl rfl zg ?_
    with_reducible refine (spec_l01One.calls t181 t185 _ A64.out).mono ?_
    rintro e w' ⟨rfl,⟨nd,rfl⟩⟩
    refine ⟨_,rfl,?_⟩
    refine hK.out _ _ ⟨(kV BK159.out 0).trans rfl,(kV BK159.out 1).trans rfl,hHeld.2.2.1,hHeld.2.2.2⟩ (fun hHeld=>?_)
    clear hK K
    refine norm_ (a' := ?_) ?_ ?_
    rotate_left
    ·show Act.put _ (some 33) _ = _
     simp only [Act.put,zL,zM,zN,i64_w,i32_w]
     rfl
    refine zp 11 (some 34) #[true,true,true,true,true,true,true,true,true,true,true,true,true,true,true,true,true,true,true,false,false,true,true,true,false,false,false,false,false,false] HT_.out ?_
    refine one_ (i:=19) (N:=some 42) #[true,true,true,true,true,true,true,true,true,true,true,true,true,true,true,true,true,true,true,true,false,true,true,true,false,false,false,false,false,false] rfl rfl (one_of HT_.out (by kernel_rfl)) (by decide) (fun K hK=>?_)
    refine goes_ Tryd.func43 (by kernel_rfl) rfl #[.int .i64 t153] (by rfl) rfl rfl zg ?_
    with_reducible refine (spec_l01One.calls t153 t187 _ A65.out).mono ?_
    rintro e w' ⟨rfl,⟨nd,rfl⟩⟩
    refine ⟨_,rfl,?_⟩
    refine hK.out _ _ ⟨(kV BK159.out 0).trans rfl,(kV BK159.out 1).trans rfl,hHeld.2.2.1,hHeld.2.2.2⟩ (fun hHeld=>?_)
    clear hK K
    refine norm_ (a' := ?_) ?_ ?_
    rotate_left
    ·show Act.put _ (some 42) _ = _
     simp only [Act.put,zL,zM,zN,i64_w,i32_w]
     rfl
    refine zp 20 (some 43) #[true,true,true,true,true,true,true,true,true,true,true,true,true,true,true,true,true,true,true,true,true,true,true,true,false,false,false,false,false,false] HT_.out ?_
    refine one_ (i:=24) (N:=some 47) #[true,true,true,true,true,true,true,true,true,true,true,true,true,true,true,true,true,true,true,true,true,true,true,true,true,false,false,false,false,false] rfl rfl (one_of HT_.out (by kernel_rfl)) (by decide) (fun K hK=>?_)
    refine goes_ Tryd.func43 (by kernel_rfl) rfl #[.int .i64 t153] (by rfl) rfl rfl zg ?_
    with_reducible refine (spec_l01One.calls t153 t188 _ A66.out).mono ?_
    rintro e w' ⟨rfl,⟨nd,rfl⟩⟩
    refine ⟨_,rfl,?_⟩
    refine hK.out _ _ ⟨(kV BK159.out 0).trans rfl,(kV BK159.out 1).trans rfl,hHeld.2.2.1,hHeld.2.2.2⟩ (fun hHeld=>?_)
    clear hK K
    refine norm_ (a' := ?_) ?_ ?_
    rotate_left
    ·show Act.put _ (some 47) _ = _
     simp only [Act.put,zL,zM,zN,i64_w,i32_w]
     rfl
    refine one_ (i:=25) (N:=some 48) #[true,true,true,true,true,true,true,true,true,true,true,true,true,true,true,true,true,true,true,true,true,true,true,true,true,true,false,false,false,false] rfl rfl (one_of HT_.out (by kernel_rfl)) (by decide) (fun K hK=>?_)
    refine goes_ Tryd.func41 (by kernel_rfl) rfl #[.pointer (some ⟨g,0,none⟩),.int .i64 t188] (by rfl) rfl rfl zg ?_
    with_reducible refine (spec_l01Next.calls g s0_0 t182 t183 t188 t189 t190 t191 w0 _ ?side1 ?side2 A67.out).mono ?_
    (case side1=>exact Z66.uC HI0.out NB0_152.out NB0_159.out)
    (case side2=>exact zW HB.out (Z66.ge HI0.out) GE152.out GE159.out)
    rintro e w82 ⟨rfl,hi,hb,hk⟩
    have HS2_:=keep_cell hk (hHeld.2.2.1) (by first | (rw [add_block];exact Kd.own_blk (Z66.own_ne HI0.out HO156.out (by decide))) | (show (Addr.add _ _).block ≠ _;rw [add_block];exact Kd.own_blk (Z66.own_ne HI0.out HO156.out (by decide))) | exact Kd.own_blk (Z66.own_ne HI0.out HO156.out (by decide)))
    have HS3_:=keep_cell hk (hHeld.2.2.2) (by first | (rw [add_block];exact Kd.own_blk (Z66.own_ne HI0.out HO156.out (by decide))) | (show (Addr.add _ _).block ≠ _;rw [add_block];exact Kd.own_blk (Z66.own_ne HI0.out HO156.out (by decide))) | exact Kd.own_blk (Z66.own_ne HI0.out HO156.out (by decide)))
    refine ⟨_,rfl,?_⟩
    replace BK152:=zA (zB2 hk BK152.out NB152_0.out)
    replace HO156:=zA (zB9 (Z66.apart (show Z66 w0 _ g s0_0 t182 t183 from Z66.uC HI0.out NB0_152.out NB0_159.out) (zP HO156.out) (by decide)) hk)
    replace BK159:=zA (zB2 hk BK159.out NB159_0.out)
    replace HK:=zA (kT (yC HK.out GW152.out GW159.out) hk (.inl rfl))
    replace HB:=zA (hb)
    replace HI0:=zA (hi)
    (try clear hb)
    (try clear hb2)
    (try clear hk)
    (try clear hi)
    (try clear hgw)
    refine hK.out _ _ ⟨(kV BK159.out 0).trans rfl,(kV BK159.out 1).trans rfl,HS2_,HS3_⟩ (fun hHeld=>?_)
    clear hK K
    refine norm_ (a' := ?_) ?_ ?_
    rotate_left
    ·show Act.put _ (some 48) _ = _
     simp only [Act.put,zL,zM,zN,i64_w,i32_w]
     rfl
    refine one_ (i:=26) (N:=some 49) #[true,true,true,true,true,true,true,true,true,true,true,true,true,true,true,true,true,true,true,true,true,true,true,true,true,true,true,false,false,false] rfl rfl (one_of HT_.out (by kernel_rfl)) (by decide) (fun K hK=>?_)
    refine Kd.R_lit_step (Kd.int .i64) _ 2 ?hg (N:=49) ?hd (xs:=([wrap64 ((rd t154 t181) - t185),Go.bits .or .i64 (rd t154 t181) t187,t189,(-1)]:List Int)) (inner:=[.int .i64 (wrap64 ((rd t154 t181) - t185)),.int .i64 (Go.bits .or .i64 (rd t154 t181) t187),.int .i64 t189,.int .i64 (-1)]) (ok:=fun _=>True) (okp:=fun _=>True) ?hr ?hp (fun _ hk=>hk) trivial (kW _ _) (Nat.le_refl _) (by simp) ?_;(case hd=>rfl);(case hg=>rfl);(case hr=>first | (go_simp;done) | (go_simp;rfl));(case hp=>exact (Reps.one (show Kd.M (Kd.int .i64) _ _ _ (wrap64 ((rd t154 t181) - t185)) [.int .i64 (wrap64 ((rd t154 t181) - t185))] from rfl) (Reps.one (show Kd.M (Kd.int .i64) _ _ _ (Go.bits .or .i64 (rd t154 t181) t187) [.int .i64 (Go.bits .or .i64 (rd t154 t181) t187)] from rfl) (Reps.one (show Kd.M (Kd.int .i64) _ _ _ t189 [.int .i64 t189] from rfl) (Reps.one (show Kd.M (Kd.int .i64) _ _ _ (-1) [.int .i64 (-1)] from rfl) (Reps.none _ _))))))
    intro v193 w83 ho84 hb hg_ hnew_
    have HS2_:=(hb.cell (jG _ _ (hHeld.2.2.1))).trans (hHeld.2.2.1)
    have HS3_:=(hb.cell (jG _ _ (hHeld.2.2.2))).trans (hHeld.2.2.2)
    clear hg_ hnew_
    (first | rw [← Ny192.out] at ho84 | (simp only [Int.reduceToNat] at ho84;rw [← Ny192.out] at ho84))
    have HO194:=zA (kI (kF ho84 (kH (zP HO156.out))) (kX (w:=w) (g:=g) (row:=none) (yC HK.out GW152.out GW159.out)))
    replace HO156:=zA (kE (zP HO156.out) (kC ho84) hb)
    replace BK152:=zA (zB1 BK152.out hb)
    replace BK159:=zA (zB1 BK159.out hb)
    replace HK:=zA (kT (yC HK.out GW152.out GW159.out) (kU hb g none) (.inl rfl))
    replace HB:=zA (kQ (zW HB.out (Z66.ge HI0.out) GE152.out GE159.out) hb)
    replace HI0:=zA (Z66.below (Z66.uC HI0.out NB0_152.out NB0_159.out) hb)
    clear hb ho84
    obtain ⟨Ao85,co85,eo85⟩:=kM HO194.out
    (first | subst eo85 | (injection eo85 with f1_ f2_ f3_;have f4_:=f1_.symm;have f5_:=f3_.symm;clear f1_ f2_ f3_;subst f4_;subst f5_))
    refine hK.out _ _ ⟨(kV BK159.out 0).trans rfl,(kV BK159.out 1).trans rfl,HS2_,HS3_⟩ (fun hHeld=>?_)
    clear hK K
    refine norm_ (a' := ?_) ?_ ?_
    rotate_left
    ·show Act.put _ (some 49) _ = _
     simp only [Act.put,zL,zM,zN,i64_w,i32_w]
     rfl
    refine one_ (i:=27) (N:=some 50) #[true,true,true,true,true,true,true,true,true,true,true,true,true,true,true,true,true,true,true,true,true,true,true,true,true,true,true,true,false,false] rfl rfl (one_of HT_.out (by kernel_rfl)) (by decide) (fun K hK=>?_)
    refine goes_ Tryd.func42 (by kernel_rfl) rfl #[.pointer (some ⟨g,0,none⟩),.slice Ao85 y192.length co85] (by rfl) rfl rfl zg ?_
    with_reducible refine (spec_l01Pick.calls g s0_0 t190 t191 _ _ y192 t195 t196 t197 w0 _ ?side1 ?side2 ?side3 ?side4 ?side5 A68.out).mono ?_
    (case side1=>exact Z66.uC HI0.out NB0_152.out NB0_159.out)
    (case side2=>exact zW HB.out (Z66.ge HI0.out) GE152.out GE159.out)
    (case side3=>exact zS (kB HO194.out).2.2)
    (case side4=>exact (kB HO194.out).2.1)
    (case side5=>exact jJ (Z66.own_ne HI0.out HO194.out (by decide)))
    rintro e w86 ⟨rfl,hi,hb,hk⟩
    have HS2_:=keep_cell hk (hHeld.2.2.1) (by first | (rw [add_block];exact Kd.own_blk (Z66.own_ne HI0.out HO156.out (by decide))) | (show (Addr.add _ _).block ≠ _;rw [add_block];exact Kd.own_blk (Z66.own_ne HI0.out HO156.out (by decide))) | exact Kd.own_blk (Z66.own_ne HI0.out HO156.out (by decide)))
    have HS3_:=keep_cell hk (hHeld.2.2.2) (by first | (rw [add_block];exact Kd.own_blk (Z66.own_ne HI0.out HO156.out (by decide))) | (show (Addr.add _ _).block ≠ _;rw [add_block];exact Kd.own_blk (Z66.own_ne HI0.out HO156.out (by decide))) | exact Kd.own_blk (Z66.own_ne HI0.out HO156.out (by decide)))
    refine ⟨_,rfl,?_⟩
    replace BK152:=zA (zB2 hk BK152.out NB152_0.out)
    replace HO156:=zA (zB9 (Z66.apart (show Z66 w0 _ g s0_0 t190 t191 from Z66.uC HI0.out NB0_152.out NB0_159.out) (zP HO156.out) (by decide)) hk)
    replace BK159:=zA (zB2 hk BK159.out NB159_0.out)
    replace HO194:=zA (zB9 (Z66.apart (show Z66 w0 _ g s0_0 t190 t191 from Z66.uC HI0.out NB0_152.out NB0_159.out) (zP HO194.out) (by decide)) hk)
    replace HK:=zA (kT (yC HK.out GW152.out GW159.out) hk (.inl rfl))
    replace HB:=zA (hb)
    replace HI0:=zA (hi)
    (try clear hb)
    (try clear hb2)
    (try clear hk)
    (try clear hi)
    (try clear hgw)
    have p69:0 ≤ (t181:Int):=zd
    have q69:(t181:Int) < ((t154.length:Int):Int):=zd
    obtain ⟨go69,co69,eo69,gb69,gl69,cl69,HG69⟩:=Kd.R_form HO156.out (by omega)
    (first | cases eo69 | (injection eo69 with ea_ en_ ec_;(first | subst ea_ | (injection ea_ with ea_;subst ea_));subst ec_;clear en_))
    have GB69:=zA gb69
    have GG69:=zA HG69
    clear gb69 gl69 HG69
    (first | simp only [add_plain] at hx184_0 | skip)
    (first | simp only [add_plain] at hx186_0 | skip)
    obtain ⟨hx69_0,hf69_0⟩:=Kd.R_celln 0 HO156.out (t181:Int) p69 q69
    replace p69:=eq_true p69
    replace q69:=eq_true q69
    have HN0_go69:=zA (show g ≠ go69 from by have h_:=Z66.own_ne HI0.out HO156.out (by decide);intro e_;exact h_ (by rw [e_];rfl))
    have HP87:=Kd.R_putn HO156.out (t181:Int) t195
    rw [← Ny198.out] at HP87
    have HQ87:=zA HP87
    clear HP87
    refine hK.out _ _ ⟨(kV BK159.out 0).trans rfl,(kV BK159.out 1).trans rfl,HS2_,HS3_⟩ (fun hHeld=>?_)
    clear hK K
    refine norm_ (a' := ?_) ?_ ?_
    rotate_left
    ·show Act.put _ (some 50) _ = _
     simp only [Act.put,zL,zM,zN,i64_w,i32_w]
     rfl
    refine zp 28 (some 51) #[true,true,true,true,true,true,true,true,true,true,true,true,true,true,true,true,true,true,true,true,true,true,true,true,true,true,true,true,true,false] HT_.out ?_
    refine last_ (i:=29) (N:=none) #[true,true,true,true,true,true,true,true,true,true,true,true,true,true,true,true,true,true,true,true,true,true,true,true,true,true,true,true,true,true] rfl rfl (one_of HT_.out (by kernel_rfl)) (by decide) (fun K hK=>?_)
    refine skip_ (w1:=?_) (by rfl) rfl ?_ ?_
    rotate_left
    ·go_simp
     rfl
    refine hK.out _ _ ?_
    clear hK K
    refine done_ (done_of HT_.out (by kernel_rfl)) ?_
    have n0_:Aside0 (Kd.R (Kd.int .i64) 2 (w86.setCell ⟨go69,(t181:Int).toNat,none⟩ (.int .i64 t195)) w.heap.size (fun k_=>some k_ ≠ (.slice Ao85 y192.length co85:Value).ownBlock) (.slice (some ⟨go69,0,none⟩) t154.length co76) y198):=⟨zPM HQ87.out (fun _ hk=>hk.2)⟩
    have n1_:Aside0 (Kd.R (Kd.int .i64) 2 (w86.setCell ⟨go69,(t181:Int).toNat,none⟩ (.int .i64 t195)) w.heap.size (fun k_=>some k_ ≠ (.slice (some ⟨go69,0,none⟩) t154.length co76:Value).ownBlock) (.slice Ao85 y192.length co85) y192):=⟨by (with_reducible repeat (first | apply zF | apply zG | apply zH));exact kA (kY (p:=⟨go69,(t181:Int).toNat,none⟩) (kA HO194.out (fun k_ hk=>(⟨hk,fun e_=>hk.2 (by rw [e_];rfl)⟩:_ ∧ k_ ≠ go69))) (fun _ hk=>hk.2) (.int .i64 t195)) (fun _ hk=>hk.1.2)⟩
    have n2_:Aside0 ((w86.setCell ⟨go69,(t181:Int).toNat,none⟩ (.int .i64 t195)).heap[gb152]? = some (.cells #[.int .i64 0,.slice none 0 0] 26 (0,0))):=⟨by (with_reducible repeat (first | refine zJ ?_ _ | refine zK ?_ | refine zI ?_ _));refine blk_far ?_ (by have h_:=Kd.R_ne HO156.out BK152.out (by decide);intro e_;exact h_ (by rw [e_];rfl)) _;(with_reducible repeat (first | refine zJ ?_ _ | refine zK ?_ | refine zI ?_ _));exact BK152.out⟩
    have n3_:Aside0 ((w86.setCell ⟨go69,(t181:Int).toNat,none⟩ (.int .i64 t195)).heap[gb159]? = some (.cells #[.int .i64 t153,.slice (some ⟨go69,0,none⟩) t154.length co76] 26 (0,0))):=⟨by (with_reducible repeat (first | refine zJ ?_ _ | refine zK ?_ | refine zI ?_ _));refine blk_far ?_ (by have h_:=Kd.R_ne HO156.out BK159.out (by decide);intro e_;exact h_ (by rw [e_];rfl)) _;(with_reducible repeat (first | refine zJ ?_ _ | refine zK ?_ | refine zI ?_ _));exact BK159.out⟩
    have n4_:Aside0 (Z66 w0 (w86.setCell ⟨go69,(t181:Int).toNat,none⟩ (.int .i64 t195)) g s0_0 t196 t197):=⟨by repeat (first | (with_reducible first | exact HI0.out | apply Z66.alloc | apply Z66.drewN | apply Z66.drew | apply Z66.set_1 | apply Z66.set_2 | refine Z66.far ?_ HN0_go69.out _ | refine Z66.far ?_ NB0_152.out _ | refine Z66.far ?_ NB0_159.out _) | exact HI0.out)⟩
    have n5_:Aside0 (KeepBut w (w86.setCell ⟨go69,(t181:Int).toNat,none⟩ (.int .i64 t195)) g none):=⟨by repeat (first | (with_reducible first | exact HK.out | apply KeepBut.set_ | apply keep_drewN | apply keep_drew | apply keep_alloc | refine keep_far ?_ GB69.out _ | refine keep_far ?_ GW152.out _ | refine keep_far ?_ GW159.out _) | exact HK.out)⟩
    have n6_:Aside0 (Below w0.heap.size w0 (w86.setCell ⟨go69,(t181:Int).toNat,none⟩ (.int .i64 t195))):=⟨by repeat (first | (with_reducible first | exact HB.out | apply zB | apply zC | apply zD | refine zE ?_ (Nat.le_trans HL.out GB69.out) | refine zE ?_ (Z66.ge HI0.out) | refine zE ?_ GE152.out | refine zE ?_ GE159.out) | exact HB.out)⟩
    (try clear HO156)
    (try clear HO194)
    (try clear BK152)
    (try clear BK159)
    (try clear HI0)
    (try clear HK)
    (try clear HB)
    generalize (w86.setCell ⟨go69,(t181:Int).toNat,none⟩ (.int .i64 t195)) = w88 at n0_ n1_ n2_ n3_ n4_ n5_ n6_ ⊢
    have HO156:=n0_
    have HO194:=n1_
    have BK152:=n2_
    have BK159:=n3_
    have HI0:=n4_
    have HK:=n5_
    have HB:=n6_
    clear n0_ n1_ n2_ n3_ n4_ n5_ n6_
    obtain ⟨hcz89_0,hcz89_1,hfz89_0,hfz89_1⟩:=zB3 BK159.out
    have hnb90:=NB152_0.out
    have hnc90:=NB0_152.out
    obtain ⟨hcz91_0,hcz91_1,hfz91_0,hfz91_1⟩:=zB3 BK152.out
    try go_wp2
    refine bodyPost_ret (results_cell_row rfl _ _ gb152 26 #[.int .i64 t153,.slice (some ⟨go69,0,none⟩) t154.length co76] (0,0) _ rfl (zRP BK152.out) Tryd.underlying26 rfl (by kernel_rfl)) rfl ?_
    exact ⟨_,zr,by (with_reducible repeat (first | apply zF | apply zG | apply zH));exact kA (kY (p:=⟨gb152,1,none⟩) (kY (p:=⟨gb152,0,none⟩) (kD HO156.out BK152.out (by decide)) (fun _ hk=>hk.2) (.int .i64 t153)) (fun _ hk=>hk.2) (.slice (some ⟨go69,0,none⟩) t154.length co76)) (fun _ hk=>trivial),by repeat (first | (with_reducible first | exact HI0.out | apply Z66.alloc | apply Z66.drewN | apply Z66.drew | apply Z66.set_1 | apply Z66.set_2 | refine Z66.far ?_ NB0_152.out _ | refine Z66.far ?_ NB0_159.out _) | exact HI0.out),zW HB.out (Z66.ge HI0.out) GE152.out GE159.out,by repeat (first | (with_reducible first | exact HK.out | apply KeepBut.set_ | apply keep_drewN | apply keep_drew | apply keep_alloc | refine keep_far ?_ GW152.out _ | refine keep_far ?_ GW159.out _) | exact HK.out)⟩
   rw [if_neg c63] at H
   exact absurd H (by simp)
  rw [if_neg c62] at H
  exact absurd H (by simp)
 rw [if_neg c60] at H
 have c60b0:decide (0 < t153) = false:=decide_eq_false c60
 clear c60
 simp only [Option.some.injEq,Prod.mk.injEq] at H
 obtain ⟨rfl,rfl,rfl,rfl⟩:=H
 go_enter Tryd.func20,Tryd.ntmps20
 go_wp2_with (first | (refine zBE 4 #[.int .i64 0,.slice none 0 0] 26 ?_;intro gb152 hg w92 hbox hb;replace HB:=zA (kQ (zT HB.out (Z66.ge HI0.out)) hb);have BK152:=zA (hbox);have GW152:=zA (zB6 hg (kX (w:=w) (g:=g) (row:=none) (yA HK.out)):w.heap.size ≤ gb152);have GE152:=zA ((Nat.le_trans HW0.out (by rw [hg];exact (kX (w:=w) (g:=g) (row:=none) (yA HK.out)):w.heap.size ≤ gb152):w0.heap.size ≤ gb152));replace HK:=zA (kT (yA HK.out) (kU hb g none) (.inl rfl));have NB0_152:=zA (zB7 hg (Z66.lt (show Z66 w0 _ g s0_0 s0_1 s0_2 from Z66.uA HI0.out)):g ≠ gb152);have NB152_0:=zA (zB8 hg (Z66.lt (show Z66 w0 _ g s0_0 s0_1 s0_2 from Z66.uA HI0.out)):gb152 ≠ g);replace HI0:=zA (Z66.below (Z66.uA HI0.out) hb);clear hb hbox hg) | (refine zO (some 9) Tryd.func40 #[.pointer (some ⟨g,0,none⟩),.int .i64 a1] ?_;(with_reducible refine (spec_l02Draw.calls k g s0_0 s0_1 s0_2 a1 t153 t154 t157 t158 w0 _ ?side1 ?side2 A3.out).mono ?_);(case side1=>exact Z66.uB HI0.out NB0_152.out);(case side2=>exact zV HB.out (Z66.ge HI0.out) GE152.out);rintro e w93 ⟨v155,rfl,ho0,hi,hb,hk⟩;refine ⟨_,rfl,?_⟩;replace BK152:=zA (zB2 hk BK152.out NB152_0.out);have HO156:=zA (kI ho0 (kX (w:=w) (g:=g) (row:=none) (yB HK.out GW152.out)));replace HK:=zA (kT (yB HK.out GW152.out) hk (.inl rfl));replace HB:=zA (hb);replace HI0:=zA (hi);(try clear hb);(try clear hk);(try clear hi);(try clear ho0)) | (refine zBE 5 #[.int .i64 0,.slice none 0 0] 26 ?_;intro gb159 hg w94 hbox hb;replace HO156:=zA (kL (zP HO156.out) hb);replace HB:=zA (kQ (zV HB.out (Z66.ge HI0.out) GE152.out) hb);have BK159:=zA (hbox);have GW159:=zA (zB6 hg (kX (w:=w) (g:=g) (row:=none) (yB HK.out GW152.out)):w.heap.size ≤ gb159);have GE159:=zA ((Nat.le_trans HW0.out (by rw [hg];exact (kX (w:=w) (g:=g) (row:=none) (yB HK.out GW152.out)):w.heap.size ≤ gb159):w0.heap.size ≤ gb159));replace HK:=zA (kT (yB HK.out GW152.out) (kU hb g none) (.inl rfl));have NB152_159:=zA (zB4 hg BK152.out:gb152 ≠ gb159);have NB159_152:=zA (zB5 hg BK152.out:gb159 ≠ gb152);replace BK152:=zA (zB1 BK152.out hb);have NB0_159:=zA (zB7 hg (Z66.lt (show Z66 w0 _ g s0_0 t157 t158 from Z66.uB HI0.out NB0_152.out)):g ≠ gb159);have NB159_0:=zA (zB8 hg (Z66.lt (show Z66 w0 _ g s0_0 t157 t158 from Z66.uB HI0.out NB0_152.out)):gb159 ≠ g);replace HI0:=zA (Z66.below (Z66.uB HI0.out NB0_152.out) hb);clear hb hbox hg;have hnb95:=NB159_152.out;have hnc95:=NB152_159.out;have hnb96:=NB159_0.out;have hnc96:=NB0_159.out;obtain ⟨hcz97_0,hcz97_1,hfz97_0,hfz97_1⟩:=zB3 BK159.out;obtain ⟨Ao98,co98,eo98⟩:=kM HO156.out;subst eo98) | (refine zO (some 11) Tryd.func41 #[.pointer (some ⟨g,0,none⟩),.int .i64 14] ?_;(with_reducible refine (spec_l01Next.calls g s0_0 t157 t158 14 t160 t161 t162 w0 _ ?side1 ?side2 A4.out).mono ?_);(case side1=>exact Z66.uC HI0.out NB0_152.out NB0_159.out);(case side2=>exact zW HB.out (Z66.ge HI0.out) GE152.out GE159.out);rintro e w99 ⟨rfl,hi,hb,hk⟩;refine ⟨_,rfl,?_⟩;replace BK152:=zA (KeepBut.blk hk (g' := gb152) (o:=.cells #[.int .i64 0,.slice none 0 0] 26 (0,0)) (zBG BK152.out NB152_159.out NB152_159.out) NB152_0.out (by simp));replace HO156:=zA (kA (Kd.R_keep (Z66.apart (show Z66 w0 _ g s0_0 t157 t158 from Z66.uC HI0.out NB0_152.out NB0_159.out) (zP (zFG HO156.out BK159.out (.int .i64 t153) (.slice Ao98 t154.length co98))) (by decide)) hk (fun _ h=>h.2)) (fun _ h=>h.1));replace BK159:=zA (KeepBut.blk hk (g' := gb159) (o:=.cells #[.int .i64 t153,.slice Ao98 t154.length co98] 26 (0,0)) (zRP BK159.out) NB159_0.out (by simp));replace HK:=zA (kT (yC HK.out GW152.out GW159.out) hk (.inl rfl));replace HB:=zA (hb);replace HI0:=zA (hi);(try clear hb);(try clear hk);(try clear hi)) | (refine zO (some 15) Tryd.func41 #[.pointer (some ⟨g,0,none⟩),.int .i64 4] ?_;(with_reducible refine (spec_l01Next.calls g s0_0 t161 t162 4 t163 t164 t165 w0 _ ?side1 ?side2 A17.out).mono ?_);(case side1=>exact Z66.uC HI0.out NB0_152.out NB0_159.out);(case side2=>exact zW HB.out (Z66.ge HI0.out) GE152.out GE159.out);rintro e w100 ⟨rfl,hi,hb,hk⟩;refine ⟨_,rfl,?_⟩;replace BK152:=zA (zB2 hk BK152.out NB152_0.out);replace HO156:=zA (zB9 (Z66.apart (show Z66 w0 _ g s0_0 t161 t162 from Z66.uC HI0.out NB0_152.out NB0_159.out) (zP HO156.out) (by decide)) hk);replace BK159:=zA (zB2 hk BK159.out NB159_0.out);replace HK:=zA (kT (yC HK.out GW152.out GW159.out) hk (.inl rfl));replace HB:=zA (hb);replace HI0:=zA (hi);(try clear hb);(try clear hk);(try clear hi);obtain ⟨hcz101_0,hcz101_1,hfz101_0,hfz101_1⟩:=zB3 BK159.out;have hnb102:=NB152_0.out;have hnc102:=NB0_152.out;obtain ⟨hcz103_0,hcz103_1,hfz103_0,hfz103_1⟩:=zB3 BK152.out))
 refine bodyPost_ret (results_cell_row rfl _ _ gb152 26 #[.int .i64 t153,.slice Ao98 t154.length co98] (0,0) _ rfl (zRP BK152.out) Tryd.underlying26 rfl (by kernel_rfl)) rfl ?_
 exact ⟨_,zr,by (with_reducible repeat (first | apply zF | apply zG | apply zH));exact kA (kY (p:=⟨gb152,1,none⟩) (kY (p:=⟨gb152,0,none⟩) (kD HO156.out BK152.out (by decide)) (fun _ hk=>hk.2) (.int .i64 t153)) (fun _ hk=>hk.2) (.slice Ao98 t154.length co98)) (fun _ hk=>trivial),by repeat (first | (with_reducible first | exact HI0.out | apply Z66.alloc | apply Z66.drewN | apply Z66.drew | apply Z66.set_1 | apply Z66.set_2 | refine Z66.far ?_ NB0_152.out _ | refine Z66.far ?_ NB0_159.out _) | exact HI0.out),zW HB.out (Z66.ge HI0.out) GE152.out GE159.out,by repeat (first | (with_reducible first | exact HK.out | apply KeepBut.set_ | apply keep_drewN | apply keep_drew | apply keep_alloc | refine keep_far ?_ GW152.out _ | refine keep_far ?_ GW159.out _) | exact HK.out)⟩
def impl_length_int64.f (l0:List Int):Option (Int):=some (l0.length:Int)
set_option maxHeartbeats 8000000 in
set_option maxRecDepth 100000 in
theorem impl_length_int64.calls (A0 : Option Addr) (c0 : Nat) (l0 : List Int) (r : Int) (w : World) (hr0 : Kd.C (Kd.int .i64) w A0 l0.length l0) (hc0 : l0.length ≤ c0) (h : impl_length_int64.f l0 = some r) :
  Calls Tryd.prog 32 #[.slice A0 l0.length c0] w fun e w' => e = .returned (.int .i64 r) ∧ Drawn0 w w' := by
 have HR0:=zA hr0
 have HC0:=zA hc0
 clear hr0 hc0
 have H:=h
 unfold impl_length_int64.f at H
 clear h
 obtain rfl:=Option.some.inj H
 go_enter Tryd.func32,Tryd.ntmps32
 go_wp2
 go_ret
 exact ⟨zs,by repeat (first | exact Drawn0.refl _ | apply Drawn0.step)⟩
def impl_one.f (a0:Int):Option (Int):=if 0 ≤ a0 then (some (shl .i64 1 a0)) else (none)
set_option maxHeartbeats 8000000 in
set_option maxRecDepth 100000 in
theorem impl_one.calls (a0 : Int) (r : Int) (w : World) (h : impl_one.f a0 = some r) :
  Calls Tryd.prog 31 #[.int .i64 a0] w fun e w' => e = .returned (.int .i64 r) ∧ Drawn0 w w' := by
 have H:=h
 unfold impl_one.f at H
 clear h
 by_cases c2:0 ≤ a0
 ·rw [if_pos c2] at H
  have c2b0:=eq_true c2
  have c2b1:decide (0 ≤ a0) = true:=decide_eq_true c2
  clear c2
  obtain ⟨ji3,hji3⟩:∃ j_:Int,(shl .i64 1 a0) = j_:=⟨_,rfl⟩
  replace H:(some ji3) = some r:=by first | (rw [hji3] at H;exact H) | (simp only [hji3] at H ⊢;exact H)
  have hji3_:(IntKind.i64.wrap (1 * 2 ^ min a0.toNat 64)) = ji3:=hji3
  have hji3z:a0 ≤ 64 → (IntKind.i64.wrap (1 * 2 ^ a0.toNat)) = ji3:=shl_small hji3
  have hji3u:(IntKind.i64.wrap (2 ^ min a0.toNat 64)) = ji3:=by have h_:=hji3_;rw [Int.one_mul] at h_;exact h_
  have hji3v:a0 ≤ 64 → (IntKind.i64.wrap (2 ^ a0.toNat)) = ji3:=fun hle_=>by have h_:=hji3z hle_;rw [Int.one_mul] at h_;exact h_
  have hji3y:(wrap64 (1 * 2 ^ min a0.toNat 64)) = ji3:=(i64_w _).symm.trans hji3_
  have hji3x:a0 ≤ 64 → (wrap64 (1 * 2 ^ a0.toNat)) = ji3:=fun h_=>(i64_w _).symm.trans (hji3z h_)
  obtain rfl:=Option.some.inj H
  go_enter Tryd.func31,Tryd.ntmps31
  go_wp2
  go_ret
  exact ⟨by first | rfl | (simp;done) | (simp only [← hji3] <;> (first | rfl | simp)) | (simp [*];done),by repeat (first | exact Drawn0.refl _ | apply Drawn0.step)⟩
 rw [if_neg c2] at H
 exact absurd H (by simp)
def impl_allIn.f (l0:List Int) (a1 a2:Int):Option Bool:=some (l0.all fun x=>decide (a1 ≤ x ∧ x ≤ a2))
theorem allIn_pred (l : List Int) (lo hi : Int) (B : Nat) (w : World) (hB : B + 1 < w.heap.size) (h1 : w.cell? ⟨B, 0, none⟩ = some (.int .i64 lo)) (h2 : w.cell? ⟨B + 1, 0, none⟩ = some (.int .i64 hi)) :
  PredOf 86 #[.pointer (some ⟨B,0,none⟩),.pointer (some ⟨B + 1,0,none⟩)] (fun x=>!decide (lo ≤ x ∧ x ≤ hi)) w l:=fun W x _ hb=>by
 have hc1:W.cell? ⟨B,0,none⟩ = some (.int .i64 lo):=(hb.cell (p:=⟨B,0,none⟩) (by simp;omega)).trans h1
 have hc2:W.cell? ⟨B + 1,0,none⟩ = some (.int .i64 hi):=(hb.cell (p:=⟨B + 1,0,none⟩) (by simpa using hB)).trans h2
 clear h1 h2 hb
 show Calls Tryd.prog 86 #[.int .i64 x,.pointer (some ⟨B,0,none⟩),.pointer (some ⟨B + 1,0,none⟩)] W _
 by_cases c1:lo ≤ x <;> by_cases c2:x ≤ hi
 all_goals
  go_enter Tryd.func86,Tryd.ntmps86
  go_wp2
  go_ret
  exact ⟨by simp [c1,c2],kW _ _⟩
theorem impl_allIn.calls (A0 : Option Addr) (c0 : Nat) (l0 : List Int) (a1 : Int) (a2 : Int) (r : Bool) (w : World) (hr0 : Kd.C (Kd.int .i64) w A0 l0.length l0) (hc0 : l0.length ≤ c0) (h : impl_allIn.f l0 a1 a2 = some r) :
  Calls Tryd.prog 66 #[.slice A0 l0.length c0,.int .i64 a1,.int .i64 a2] w fun e w' => e = .returned (.bool r) ∧ Below w.heap.size w w' := by
 have hW:Below w.heap.size w ((w.alloc (.cells #[.int .i64 a1] 2)).alloc (.cells #[.int .i64 a2] 2)):=zB (zB (kW _ w) _) _
 have eg:∀ args w,(callFunc 86 args).run Tryd.prog w = .ok (.enter 86 args) w:=enters_fn Tryd.func86 (by kernel_rfl) rfl
 have hcon:=containsFunc_any A0 c0 l0 86 #[.pointer (some ⟨w.heap.size,0,none⟩),.pointer (some ⟨w.heap.size + 1,0,none⟩)] (fun x=>!decide (a1 ≤ x ∧ x ≤ a2)) _ eg
  (allIn_pred l0 a1 a2 w.heap.size ((w.alloc (.cells #[.int .i64 a1] 2)).alloc (.cells #[.int .i64 a2] 2)) (by simp) (by simp) (by simp)) (kO hr0 hW)
 have hr:(!(l0.any fun x=>!decide (a1 ≤ x ∧ x ≤ a2))) = r:=by
  have:=Option.some.inj h
  rw [← this,List.all_eq_not_any_not]
 clear h hr0 eg
 generalize (l0.any fun x=>!decide (a1 ≤ x ∧ x ≤ a2)) = b at hcon hr
 subst hr
 replace hW:=zA hW
 go_enter Tryd.func66,Tryd.ntmps66
 go_wp2_with fail
 refine hcon.mono ?_
 rintro e w' ⟨rfl,hb⟩
 replace hb:=zA hb
 clear hcon
 go_wp2
 go_ret
 exact ⟨rfl,kQ hW.out hb.out⟩
def impl_IsRelation.f (l0:List Int):Option (Bool):=if (l0.length:Int) ≤ 24 then ((impl_length_int64.f l0).bind fun t219=>((impl_one.f t219).bind fun t220=>((impl_allIn.f l0 0 (wrap64 (t220 - 1))).bind fun t221=>(some t221)))) else (some false)
set_option maxHeartbeats 8000000 in
set_option maxRecDepth 100000 in
theorem impl_IsRelation.calls (A0 : Option Addr) (c0 : Nat) (l0 : List Int) (r : Bool) (w : World) (hr0 : Kd.C (Kd.int .i64) w A0 l0.length l0) (hc0 : l0.length ≤ c0) (h : impl_IsRelation.f l0 = some r) :
  Calls Tryd.prog 36 #[.slice A0 l0.length c0] w fun e w' => e = .returned (.bool r) ∧ Below w.heap.size w w' := by
 have HR0:=zA hr0
 have HC0:=zA hc0
 clear hr0 hc0
 have HB:=zA (kW w.heap.size w)
 have H:=h
 unfold impl_IsRelation.f at H
 clear h
 by_cases c2:(l0.length:Int) ≤ 24
 ·rw [if_pos c2] at H
  have c2b0:decide ((l0.length:Int) ≤ 24) = true:=decide_eq_true c2
  have c2b1:decide (l0.length ≤ 24) = true:=decide_eq_true (by omega)
  clear c2
  obtain ⟨t219,A3,H⟩:=zb H
  try dsimp only at H
  obtain ⟨t220,A4,H⟩:=zb H
  try dsimp only at H
  obtain ⟨t221,A5,H⟩:=zb H
  try dsimp only at H
  obtain rfl:=Option.some.inj H
  go_enter Tryd.func36,Tryd.ntmps36
  go_wp2_with (first | (go_at_call 32;(with_reducible refine (impl_length_int64.calls _ _ l0 t219 _ ?side1 ?side2 A3.out).mono ?_);(case side1=>exact zS HR0.out);(case side2=>exact HC0.out);rintro e w' ⟨rfl,⟨nd,rfl⟩⟩) | (go_at_call 31;(with_reducible refine (impl_one.calls t219 t220 _ A4.out).mono ?_);rintro e w' ⟨rfl,⟨nd,rfl⟩⟩) | (go_at_call 66;(with_reducible refine (impl_allIn.calls _ _ l0 0 (wrap64 (t220 - 1)) t221 _ ?side1 ?side2 A5.out).mono ?_);(case side1=>exact zS HR0.out);(case side2=>exact HC0.out);rintro e w6 ⟨rfl,hb⟩;replace HB:=zA (kQ (zQ HB.out) hb);(try clear hb);(try clear hk);(try clear hi)))
  go_ret
  exact ⟨zr,zQ HB.out⟩
 rw [if_neg c2] at H
 have c2b0:decide ((l0.length:Int) ≤ 24) = false:=decide_eq_false c2
 have c2b1:decide (l0.length ≤ 24) = false:=decide_eq_false (by omega)
 clear c2
 obtain rfl:=Option.some.inj H
 go_enter Tryd.func36,Tryd.ntmps36
 go_wp2
 go_ret
 exact ⟨zr,zQ HB.out⟩
def impl_inRange.f (a0:Int) (a1:Int) (a2:Int):Option (Bool):=if a1 ≤ a0 then (some (decide (a0 ≤ a2))) else (some false)
set_option maxHeartbeats 8000000 in
set_option maxRecDepth 100000 in
theorem impl_inRange.calls (a0 : Int) (a1 : Int) (a2 : Int) (r : Bool) (w : World) (h : impl_inRange.f a0 a1 a2 = some r) :
  Calls Tryd.prog 50 #[.int .i64 a0,.int .i64 a1,.int .i64 a2] w fun e w' => e = .returned (.bool r) ∧ Drawn0 w w' := by
 have H:=h
 unfold impl_inRange.f at H
 clear h
 by_cases c4:a1 ≤ a0
 ·rw [if_pos c4] at H
  have c4b0:decide (a1 ≤ a0) = true:=decide_eq_true c4
  clear c4
  obtain rfl:=Option.some.inj H
  go_enter Tryd.func50,Tryd.ntmps50
  go_wp2
  go_ret
  exact ⟨zs,by repeat (first | exact Drawn0.refl _ | apply Drawn0.step)⟩
 rw [if_neg c4] at H
 have c4b0:decide (a1 ≤ a0) = false:=decide_eq_false c4
 clear c4
 obtain rfl:=Option.some.inj H
 go_enter Tryd.func50,Tryd.ntmps50
 go_wp2
 go_ret
 exact ⟨zs,by repeat (first | exact Drawn0.refl _ | apply Drawn0.step)⟩
def bits_TrailingZeros64.f (a0:Int):Option Int:=if 0 ≤ a0 ∧ a0 < 18446744073709551616 then some (Lib.ctz 64 a0.toNat:Int) else none
set_option maxHeartbeats 1000000 in
theorem tz64_core (x k idx : Nat) (w : World) (hx0 : ((x : Int) == 0) = false)
  (key:IntKind.u64.wrap (bits BinOp.and IntKind.u64 (x:Int) (IntKind.u64.wrap (-(x:Int))) * 285870213051353865) / 288230376151711744 = (idx:Int))
  (hi:idx < 64) (hk:k < 64) (hcell:w.cell? ⟨0,idx,none⟩ = some (.int .u8 k)) :
  Calls Tryd.prog 80 #[.int .u64 x] w fun e w' => e = .returned (.int .i64 k) ∧ w = w' := by
 go_enter Tryd.func80,Tryd.ntmps80
 go_wp2_with (simp only [key])
 go_ret
 exact ⟨rfl,rfl⟩
theorem tz64_zero (w:World):Calls Tryd.prog 80 #[.int .u64 0] w fun e w' => e = .returned (.int .i64 64) ∧ w = w' := by
 go_enter Tryd.func80,Tryd.ntmps80
 go_wp2
 go_ret
 exact ⟨rfl,rfl⟩
theorem tz64_key (x a : Nat) (hx : x < 18446744073709551616) (hx0 : x ≠ 0) (hlow : x &&& (18446744073709551616 - x) = a) :
  IntKind.u64.wrap (bits BinOp.and IntKind.u64 (x:Int) (IntKind.u64.wrap (-(x:Int))) * 285870213051353865) / 288230376151711744 = ((a * 285870213051353865 % 18446744073709551616 / 288230376151711744:Nat):Int):=by
 have e1:IntKind.u64.wrap (-(x:Int)) = ((18446744073709551616 - x:Nat):Int):=by rw [IntKind.wrap_u64];omega
 rw [e1,bits_and_u64_nat x _ hx (by omega),hlow,IntKind.wrap_u64]
 omega
theorem bits_TrailingZeros64.calls (a0 : Int) (r : Int) (w : World) (hT : TabW w) (h : bits_TrailingZeros64.f a0 = some r) :
  Calls Tryd.prog 80 #[.int .u64 a0] w fun e w' => e = .returned (.int .i64 r) ∧ Drawn0 w w' := by
 unfold bits_TrailingZeros64.f at h
 split at h
 ·rename_i hr
  obtain ⟨x,rfl⟩:=Int.eq_ofNat_of_zero_le hr.1
  rw [Int.toNat_natCast] at h
  injection h with h
  subst h
  by_cases hx0:x = 0
  ·subst hx0
   exact (tz64_zero w).mono fun e w' ⟨he,hw⟩=>⟨he,⟨0,hw.symm⟩⟩
  obtain ⟨hlow,hk⟩:=Lib.lowest_bit 64 x hx0 (by omega)
  obtain ⟨hi,htab⟩:=Lib.deBruijn64_at _ hk
  have hcell:=hT _ hi
  rw [htab] at hcell
  exact (tz64_core x _ _ w (by simp;omega) (tz64_key x _ (by omega) hx0 hlow) hi hk hcell).mono fun e w' ⟨he,hw⟩=>⟨he,⟨0,hw.symm⟩⟩
 cases h
def impl_least.f (a0:Int):Option (Int):=(bits_TrailingZeros64.f (IntKind.u64.wrap (a0))).bind fun t222=>(some t222)
set_option maxHeartbeats 8000000 in
set_option maxRecDepth 100000 in
theorem impl_least.calls (a0 : Int) (r : Int) (w : World) (hT : TabW w) (h : impl_least.f a0 = some r) :
  Calls Tryd.prog 61 #[.int .i64 a0] w fun e w' => e = .returned (.int .i64 r) ∧ Drawn0 w w' := by
 have HT:=zA hT
 clear hT
 have H:=h
 unfold impl_least.f at H
 clear h
 obtain ⟨t222,A2,H⟩:=zb H
 try dsimp only at H
 obtain rfl:=Option.some.inj H
 go_enter Tryd.func61,Tryd.ntmps61
 go_wp2_with (first | (refine zO (some 5) Tryd.func80 #[.int .u64 (IntKind.u64.wrap (a0))] ?_;(with_reducible refine (bits_TrailingZeros64.calls (IntKind.u64.wrap (a0)) t222 _ ?side1 A2.out).mono ?_);(case side1=>repeat (first | (with_reducible first | exact HT.out | apply TabW.drewN | apply TabW.drew | apply TabW.alloc) | exact HT.out));rintro e w' ⟨rfl,⟨nd,rfl⟩⟩;refine ⟨_,rfl,?_⟩))
 go_ret
 exact ⟨zs,by repeat (first | exact Drawn0.refl _ | apply Drawn0.step)⟩
def impl_members.l0:Nat → Int → List Int → Option (List Int)
 | 0,_,_=>none
 | k + 1,x0,x3=>if x0 = 0 then (some x3) else ((impl_least.f x0).bind fun t226=>(if x3.length < 17592186044416 then (impl_members.l0 k (Go.bits .and .i64 x0 (wrap64 (x0 - 1))) (x3 ++ [t226])) else (none)))
def impl_members.f (k:Nat) (a0:Int):Option (List Int):=impl_members.l0 k a0 (([]:List Int))
set_option maxHeartbeats 8000000 in
set_option maxRecDepth 100000 in
theorem impl_members.calls (k : Nat) (a0 : Int) (r : List Int) (w : World) (hT : TabW w) (h : impl_members.f k a0 = some r) :
  Calls Tryd.prog 72 #[.int .i64 a0] w fun e w' => ∃ v0_:Value,e = .returned (v0_) ∧ Kd.R (Kd.int .i64) 2 w' w.heap.size (fun _=>True) v0_ r ∧ Below w.heap.size w w' := by
 have HT:=zA hT
 clear hT
 have HB:=zA (kW w.heap.size w)
 have H:=h
 unfold impl_members.f at H
 clear h
 obtain ⟨y223,hy223⟩:∃ y_:List Int,y_ = (([]:List Int)):=⟨_,rfl⟩
 replace H:(impl_members.l0 k a0 y223) = some r:=zy hy223 H
 have Ny223:=zA hy223
 clear hy223
 have H' := zA H
 clear H
 go_enter Tryd.func72,Tryd.ntmps72
 go_wp2_with (first | ((with_reducible refine kS (N:=4) rfl ?_);refine Kd.R_lit (Kd.int .i64) _ 2 ?hg (N:=4) ?hd (xs:=([]:List Int)) (inner:=[]) (ok:=fun _=>True) (okp:=fun _=>True) ?hr ?hp (fun _ hk=>hk) trivial (kW _ _) (Nat.le_refl _) (by simp) ?_;(case hd=>rfl);(case hg=>rfl);(case hr=>first | (go_simp;done) | (go_simp;rfl));(case hp=>exact (Reps.none _ _));intro v224 w2 ho3 hb hg_ hnew_;clear hg_ hnew_;(first | rw [← Ny223.out] at ho3 | (simp only [Int.reduceToNat] at ho3;rw [← Ny223.out] at ho3));have HO225:=zA (kI ho3 (kP (zQ HB.out)));replace HB:=zA (kQ (zQ HB.out) hb);clear hb ho3))
 go_loopg [0,3] k (fun kq v0 v3 w' => ∃ (x0_1:Int) (x3_1:List Int),v0 = .int .i64 x0_1 ∧ Aside0 (impl_members.l0 kq x0_1 x3_1 = some r) ∧ Aside0 (kq ≤ k) ∧ Aside0 (Kd.R (Kd.int .i64) 2 w' w.heap.size (fun _=>True) v3 x3_1) ∧ Aside0 (Below w.heap.size w w'))
 case atStart=>exact ⟨(a0),(y223),zs,H', ⟨Nat.le_refl _⟩,⟨zP HO225.out⟩,⟨zQ HB.out⟩⟩
 case round =>
  clear H'
  obtain ⟨x0_1,x3_1,rfl,HA,HK1,HO_3,HB⟩:=hrel
  cases gk with
  | zero=>exact absurd HA.out (by simp [impl_members.l0])
  | succ k1 =>
   have H:=HA.out
   clear HA
   simp only [impl_members.l0] at H
   by_cases c4:x0_1 = 0
   ·rw [if_pos c4] at H
    obtain ⟨c4b0,c4b1⟩:=zT1 c4
    clear c4
    obtain rfl:=Option.some.inj H
    go_wp2
    go_ret
    exact ⟨_,zr,zP HO_3.out,zQ HB.out⟩
   rw [if_neg c4] at H
   obtain ⟨c4b0,c4b1⟩:=zT2 c4
   obtain ⟨t226,A5,H⟩:=zb H
   try dsimp only at H
   by_cases c6:x3_1.length < 17592186044416
   ·rw [if_pos c6] at H
    have LMc6:=zA c6
    clear c6
    obtain ⟨y227,hy227⟩:∃ y_:List Int,y_ = (x3_1 ++ [t226]):=⟨_,rfl⟩
    replace H:(impl_members.l0 k1 (Go.bits .and .i64 x0_1 (wrap64 (x0_1 - 1))) y227) = some r:=zy hy227 H
    have Ny227:=zA hy227
    clear hy227
    have H' := zA H
    clear H
    go_wp2_with (first | (refine zO (some 13) Tryd.func61 #[.int .i64 x0_1] ?_;(with_reducible refine (impl_least.calls x0_1 t226 _ ?side1 A5.out).mono ?_);(case side1=>exact TabW.below HT.out (zQ HB.out));rintro e w' ⟨rfl,⟨nd,rfl⟩⟩;refine ⟨_,rfl,?_⟩) | ((with_reducible refine gate_builtin (b:=.append) (xs:=#[.tmp 11,.tmp 14]) rfl ?_);at_builtin;refine Kd.R_append (Kd.int .i64) (w0:=w) w.heap.size rfl (.tmp 11) (.tmp 14) 24 2 (.int .i64 0) 8 rfl Tryd.underlying24 info2 rfl (by decide) (by omega) u3 x3_1 t226 [.int .i64 t226] (fun _=>True) (fun _=>False) rfl rfl ?aP (fun _ hk=>hk.elim) ?aF ?aO ?aB ?aS ?aL ?_;(case aP=>exact rfl);(case aB=>exact (zQ HB.out));(case aF=>exact (fun _ _=>trivial));(case aO=>exact (zP HO_3.out));(case aS=>exact (kP (zQ HB.out)));(case aL=>have:=LMc6.out;omega);intro v228 w7 ho hb hg hat;rw [← Ny227.out] at ho;replace HB:=zA (hb);have HO229:=zA (ho);clear HO_3;clear ho hb hg hat))
    go_roundg k1
    case measure=>have:=HK1.out;omega
    case rel=>exact ⟨(Go.bits .and .i64 x0_1 (wrap64 (x0_1 - 1))),(y227),zs,H', ⟨by have:=HK1.out;omega⟩,⟨zP HO229.out⟩,⟨zQ HB.out⟩⟩
   rw [if_neg c6] at H
   exact absurd H (by simp)
mutual
def impl_converse.l0:Nat → List Int → List Int → Int → Int → Option (List Int)
 | 0,_,_,_,_=>none
 | k + 1,x3,x11,x12,x13=>if x13 < x12 then (if 0 ≤ x13 then (if x13 < (x11.length:Int) then ((impl_members.f k (rd x11 x13)).bind fun t234=>(impl_converse.l1 k x3 x13 x11 x12 x13 t234 (t234.length:Int) 0)) else (none)) else (none)) else (some x3)
def impl_converse.l1:Nat → List Int → Int → List Int → Int → Int → List Int → Int → Int → Option (List Int)
 | 0,_,_,_,_,_,_,_,_=>none
 | k + 1,x3,x4,x11,x12,x13,x19,x20,x21=>if x21 < x20 then (if 0 ≤ x21 then (if x21 < (x19.length:Int) then (if 0 ≤ (rd x19 x21) then (if (rd x19 x21) < (x3.length:Int) then ((impl_one.f x4).bind fun t239=>(impl_converse.l1 k (x3.set ((rd x19 x21):Int).toNat (Go.bits .or .i64 (rd x3 (rd x19 x21)) t239)) x4 x11 x12 x13 x19 x20 (wrap64 (x21 + 1)))) else (none)) else (none)) else (none)) else (none)) else (impl_converse.l0 k x3 x11 x12 (wrap64 (x13 + 1)))
end
def impl_converse.f (k:Nat) (l0:List Int):Option (List Int):=if 0 ≤ (l0.length:Int) then (if ((l0.length:Int):Int).toNat ≤ 35184372088832 then (impl_converse.l0 k (List.replicate ((l0.length:Int):Int).toNat 0) l0 (l0.length:Int) 0) else (none)) else (none)
def impl_converse.T8:Bool × List (List Nat × List Nat):=(true,[([],[]),([],[]),([0,1],[0,1]),([2],[2]),([],[]),([4],[4]),([3,5],[3,5]),([0,1,0,1,2,3,4,5,6],[0,1]),([7,6,5,0,1,2,3,4,5,6],[6,7])])
def impl_converse.B8:List Nat:=[0,0,3,7,0,16,63,127,255]
theorem impl_converse.tab8:rtab .any (opsOf Tryd.f51 8) = impl_converse.T8:=by kernel_rfl
theorem impl_converse.bits8:waitsOk impl_converse.T8.2 impl_converse.B8 = true:=by kernel_rfl
set_option maxHeartbeats 8000000 in
set_option maxRecDepth 100000 in
theorem impl_converse.calls (k : Nat) (A0 : Option Addr) (c0 : Nat) (l0 : List Int) (r : List Int) (w : World) (hr0 : Kd.C (Kd.int .i64) w A0 l0.length l0) (hc0 : l0.length ≤ c0) (hT : TabW w) (h : impl_converse.f k l0 = some r) :
  Calls Tryd.prog 51 #[.slice A0 l0.length c0] w fun e w' => ∃ v0_:Value,e = .returned (v0_) ∧ Kd.R (Kd.int .i64) 2 w' w.heap.size (fun _=>True) v0_ r ∧ Below w.heap.size w w' := by
 have HT:=zA hT
 clear hT
 have HR0:=zA hr0
 have HC0:=zA hc0
 clear hr0 hc0
 have HB:=zA (kW w.heap.size w)
 have H:=h
 unfold impl_converse.f at H
 clear h
 by_cases c2:0 ≤ (l0.length:Int)
 ·rw [if_pos c2] at H
  have c2b0:=eq_true c2
  have c2b1:decide (0 ≤ (l0.length:Int)) = true:=decide_eq_true c2
  clear c2
  by_cases c3:((l0.length:Int):Int).toNat ≤ 35184372088832
  ·rw [if_pos c3] at H
   have c3b0:=eq_true c3
   have c3b1:decide (((l0.length:Int):Int).toNat ≤ 35184372088832) = true:=decide_eq_true c3
   clear c3
   obtain ⟨y230,hy230⟩:∃ y_:List Int,y_ = (List.replicate ((l0.length:Int):Int).toNat 0):=⟨_,rfl⟩
   replace H:(impl_converse.l0 k y230 l0 (l0.length:Int) 0) = some r:=zy hy230 H
   have Ny230:=zA hy230
   clear hy230
   have H' := zA H
   clear H
   go_enter Tryd.func51,Tryd.ntmps51
   go_wp2_with (first | ((with_reducible refine kS (N:=10) rfl ?_);refine Kd.R_make (Kd.int .i64) _ 2 rfl (N:=10) rfl 24 _ _ rfl (l0.length:Int) rfl rfl Tryd.underlying24 (.int .i64 0) 8 info2 rfl (by decide) (by omega) 0 (ok:=fun _=>True) (okp:=fun _=>True) rfl (fun _ hk=>hk) trivial (zd) (Nat.le_trans (Nat.mul_le_mul_right _ (zd:(l0.length:Int).toNat ≤ 35184372088832)) (by omega)) (kW _ _) (Nat.le_refl _) ?_;intro v231 w4 ho5 hb hg_ hnew_;clear hg_ hnew_;(first | rw [← Ny230.out] at ho5 | (simp only [Int.reduceToNat] at ho5;rw [← Ny230.out] at ho5));have HO232:=zA (kI ho5 (kP (zQ HB.out)));replace HB:=zA (kQ (zQ HB.out) hb);clear hb ho5))
   go_loopg [13] k (fun kq v13 w' => ∃ (x3_1:List Int) (x13_1:Int),v13 = .int .i64 x13_1 ∧ Aside0 (impl_converse.l0 kq x3_1 l0 (l0.length:Int) x13_1 = some r) ∧ Aside0 (kq ≤ k) ∧ Aside0 (Kd.R (Kd.int .i64) 2 w' w.heap.size (fun _=>True) v231 x3_1) ∧ Aside0 (Below w.heap.size w w'))
   case atStart=>exact ⟨(y230),(0),zs,H', ⟨Nat.le_refl _⟩,⟨zP HO232.out⟩,⟨zQ HB.out⟩⟩
   case round =>
    clear H'
    try clear c2
    try clear c3
    try clear c5
    obtain ⟨x3_1,x13_1,rfl,HA,HK1,HO_3,HB⟩:=hrel
    cases gk with
    | zero=>exact absurd HA.out (by simp [impl_converse.l0])
    | succ k1 =>
     have H:=HA.out
     clear HA
     simp only [impl_converse.l0] at H
     by_cases c6:x13_1 < (l0.length:Int)
     ·rw [if_pos c6] at H
      have c6b0:decide (x13_1 < (l0.length:Int)) = true:=decide_eq_true c6
      clear c6
      by_cases c7:0 ≤ x13_1
      ·rw [if_pos c7] at H
       have c7b0:decide (0 ≤ x13_1) = true:=decide_eq_true c7
       clear c7
       by_cases c8:x13_1 < (l0.length:Int)
       ·rw [if_pos c8] at H
        have c8b0:decide (x13_1 < (l0.length:Int)) = true:=decide_eq_true c8
        clear c8
        obtain ⟨t234,A9,H⟩:=zb H
        try dsimp only at H
        have H' := zA H
        clear H
        have p233:0 ≤ (x13_1:Int):=zd
        have q233:x13_1 < (l0.length:Int):=zd
        obtain ⟨ad233,e233,hx233_0⟩:=Kd.at_int HR0.out x13_1 p233 q233
        cases e233
        replace hx233_0:=(HB.out.cell (jG w _ hx233_0)).trans hx233_0
        replace p233:=eq_true p233
        replace q233:=eq_true q233
        go_wp2_with (first | (refine zO (some 19) Tryd.func72 #[.int .i64 (rd l0 x13_1)] ?_;(with_reducible refine (impl_members.calls k1 (rd l0 x13_1) t234 _ ?side1 A9.out).mono ?_);(case side1=>exact TabW.below HT.out (zQ HB.out));rintro e w10 ⟨v235,rfl,ho0,hb⟩;refine ⟨_,rfl,?_⟩;have HO236:=zA (kI (kF ho0 (kH (zP HO_3.out))) (kP (zQ HB.out)));replace HO_3:=zA (kE (zP HO_3.out) (kC ho0) hb);replace HB:=zA (kQ (zQ HB.out) hb);(try clear hb);(try clear ho0);obtain ⟨Ao11,co11,eo11⟩:=kM HO236.out;subst eo11))
        go_loopg [21] k1 (fun kq v21 w' => ∃ (x3_2:List Int) (x21_2:Int),v21 = .int .i64 x21_2 ∧ Aside0 (impl_converse.l1 kq x3_2 x13_1 l0 (l0.length:Int) x13_1 t234 (t234.length:Int) x21_2 = some r) ∧ Aside0 (kq ≤ k1) ∧ Aside0 (Kd.R (Kd.int .i64) 2 w' w.heap.size (fun k_=>some k_ ≠ ((.slice Ao11 t234.length co11):Value).ownBlock) v231 x3_2) ∧ Aside0 (Kd.R (Kd.int .i64) 2 w' w.heap.size (fun k_=>some k_ ≠ (v231:Value).ownBlock) (.slice Ao11 t234.length co11) t234) ∧ Aside0 (Below w.heap.size w w'))
        case atStart=>exact ⟨(x3_1),(0),zs,H', ⟨Nat.le_refl _⟩,⟨zPM HO_3.out (fun _ hk=>hk.2)⟩,⟨zPM HO236.out (fun _ hk=>hk.2)⟩,⟨zQ HB.out⟩⟩
        case round =>
         clear H'
         try clear c2
         try clear hx2
         try clear c3
         try clear c5
         try clear c6
         try clear c7
         try clear c8
         try clear hx233_0
         obtain ⟨x3_2,x21_2,rfl,HA,HK2,HO_3,HO_19,HB⟩:=hrel
         cases gk with
         | zero=>exact absurd HA.out (by simp [impl_converse.l1])
         | succ k2 =>
          have H:=HA.out
          clear HA
          simp only [impl_converse.l1] at H
          by_cases c12:x21_2 < (t234.length:Int)
          ·rw [if_pos c12] at H
           have c12b0:decide (x21_2 < (t234.length:Int)) = true:=decide_eq_true c12
           clear c12
           by_cases c13:0 ≤ x21_2
           ·rw [if_pos c13] at H
            have c13b0:decide (0 ≤ x21_2) = true:=decide_eq_true c13
            clear c13
            by_cases c14:x21_2 < (t234.length:Int)
            ·rw [if_pos c14] at H
             have c14b0:decide (x21_2 < (t234.length:Int)) = true:=decide_eq_true c14
             clear c14
             by_cases c15:0 ≤ (rd t234 x21_2)
             ·rw [if_pos c15] at H
              have c15b0:decide (0 ≤ (rd t234 x21_2)) = true:=decide_eq_true c15
              clear c15
              by_cases c16:(rd t234 x21_2) < (x3_2.length:Int)
              ·rw [if_pos c16] at H
               have c16b0:decide ((rd t234 x21_2) < (x3_2.length:Int)) = true:=decide_eq_true c16
               clear c16
               obtain ⟨t239,A17,H⟩:=zb H
               try dsimp only at H
               obtain ⟨y240,hy240⟩:∃ y_:List Int,y_ = (x3_2.set ((rd t234 x21_2):Int).toNat (Go.bits .or .i64 (rd x3_2 (rd t234 x21_2)) t239)):=⟨_,rfl⟩
               replace H:(impl_converse.l1 k2 y240 x13_1 l0 (l0.length:Int) x13_1 t234 (t234.length:Int) (wrap64 (x21_2 + 1))) = some r:=zy hy240 H
               have Ny240:=zA hy240
               clear hy240
               have H' := zA H
               clear H
               have p237:0 ≤ (x21_2:Int):=zd
               have q237:x21_2 < (t234.length:Int):=zd
               obtain ⟨ad237,e237,hx237_0⟩:=Kd.at_int (kB HO_19.out).2.2 x21_2 p237 q237
               cases e237
               replace p237:=eq_true p237
               replace q237:=eq_true q237
               try go_wp2
               replace HO_3:=zA (zH HO_3.out)
               replace HO_19:=zA (zH HO_19.out)
               replace HB:=zA (zD HB.out)
               obtain ⟨Ao20,co20,eo20⟩:=kM HO_3.out
               (first | subst eo20 | (injection eo20 with f1_ f2_ f3_;have f4_:=f1_.symm;have f5_:=f3_.symm;clear f1_ f2_ f3_;subst f4_;subst f5_))
               have p238:0 ≤ ((rd t234 x21_2):Int):=zd
               have q238:(rd t234 x21_2) < (x3_2.length:Int):=zd
               obtain ⟨ad238,e238,hx238_0⟩:=Kd.at_int (kB HO_3.out).2.2 (rd t234 x21_2) p238 q238
               cases e238
               replace p238:=eq_true p238
               replace q238:=eq_true q238
               refine start_ (n:=9) (S:=fun w' => w'.cell? (ad238.add ((rd t234 x21_2)).toNat) = some (.int .i64 (rd x3_2 (rd t234 x21_2)))) (ds:=[8]) #[false,false,false,false,false,false,false,false,false] (by kernel_rfl) rfl rfl (hx238_0) (fun hHeld=>?_);refine with_tabW impl_converse.tab8 impl_converse.bits8 (fun HT_ HW_=>?_)
               generalize wr.drew = w19 at HO_3 HO_19 HB hx238_0 hHeld ⊢
               refine zp 0 (some 25) #[true,false,false,false,false,false,false,false,false] HT_.out ?_
               refine zp 1 (some 26) #[true,true,false,false,false,false,false,false,false] HT_.out ?_
               refine zp 2 (some 27) #[true,true,true,false,false,false,false,false,false] HT_.out ?_
               refine zp 4 (some 29) #[true,true,true,false,true,false,false,false,false] HT_.out ?_
               refine za 3 (some 28) #[true,true,true,true,true,false,false,false,false] HT_.out HW_.out hHeld ?_
               refine one_ (i:=5) (N:=some 30) #[true,true,true,true,true,true,false,false,false] rfl rfl (one_of HT_.out (by kernel_rfl)) (by decide) (fun K hK=>?_)
               refine goes_ Tryd.func31 (by kernel_rfl) rfl #[.int .i64 x13_1] (by rfl) rfl rfl zg ?_
               with_reducible refine (impl_one.calls x13_1 t239 _ A17.out).mono ?_
               rintro e w' ⟨rfl,⟨nd,rfl⟩⟩
               refine ⟨_,rfl,?_⟩
               have p18:0 ≤ ((rd t234 x21_2):Int):=zd
               have q18:((rd t234 x21_2):Int) < ((x3_2.length:Int):Int):=zd
               obtain ⟨go18,co18,eo18,gb18,gl18,cl18,HG18⟩:=Kd.R_form HO_3.out (by omega)
               (first | cases eo18 | (injection eo18 with ea_ en_ ec_;(first | subst ea_ | (injection ea_ with ea_;subst ea_));subst ec_;clear en_))
               have GB18:=zA gb18
               have GG18:=zA HG18
               clear gb18 gl18 HG18
               (first | simp only [add_plain] at hx238_0 | skip)
               obtain ⟨hx18_0,hf18_0⟩:=Kd.R_celln 0 HO_3.out ((rd t234 x21_2):Int) p18 q18
               replace p18:=eq_true p18
               replace q18:=eq_true q18
               have HP21:=Kd.R_putn HO_3.out ((rd t234 x21_2):Int) (Go.bits .or .i64 (rd x3_2 (rd t234 x21_2)) t239)
               rw [← Ny240.out] at HP21
               have HQ21:=zA HP21
               clear HP21
               refine hK.out _ _ (hHeld) (fun hHeld=>?_)
               clear hK K
               refine norm_ (a' := ?_) ?_ ?_
               rotate_left
               ·show Act.put _ (some 30) _ = _
                simp only [Act.put,zL,zM,zN,i64_w,i32_w]
                rfl
               refine zp 6 (some 31) #[true,true,true,true,true,true,true,false,false] HT_.out ?_
               refine zp 7 (some 32) #[true,true,true,true,true,true,true,true,false] HT_.out ?_
               refine last_ (i:=8) (N:=none) #[true,true,true,true,true,true,true,true,true] rfl rfl (one_of HT_.out (by kernel_rfl)) (by decide) (fun K hK=>?_)
               refine skip_ (w1:=?_) (by rfl) rfl ?_ ?_
               rotate_left
               ·go_simp
                rfl
               refine hK.out _ _ ?_
               clear hK K
               refine done_ (done_of HT_.out (by kernel_rfl)) ?_
               try go_wp2
               go_roundg k2
               case measure=>have:=HK1.out;have:=HK2.out;omega
               case rel=>exact ⟨(y240),(wrap64 (x21_2 + 1)),zs,H', ⟨by have:=HK1.out;have:=HK2.out;omega⟩,⟨zP HQ21.out⟩,⟨by (with_reducible repeat (first | apply zF | apply zG | apply zH));exact kA (kY (p:=⟨go18,((rd t234 x21_2):Int).toNat,none⟩) (kA HO_19.out (fun k_ hk=>(⟨hk,fun e_=>hk (by rw [e_];rfl)⟩:_ ∧ k_ ≠ go18))) (fun _ hk=>hk.2) (.int .i64 (Go.bits .or .i64 (rd x3_2 (rd t234 x21_2)) t239))) (fun _ hk=>hk.1)⟩,⟨zT HB.out GB18.out⟩⟩
              rw [if_neg c16] at H
              exact absurd H (by simp)
             rw [if_neg c15] at H
             exact absurd H (by simp)
            rw [if_neg c14] at H
            exact absurd H (by simp)
           rw [if_neg c13] at H
           exact absurd H (by simp)
          rw [if_neg c12] at H
          have c12b0:decide (x21_2 < (t234.length:Int)) = false:=decide_eq_false c12
          clear c12
          have H' := zA H
          clear H
          go_wp2
          go_roundg k2
          case measure=>have:=HK1.out;have:=HK2.out;omega
          case rel=>exact ⟨(x3_2),(wrap64 (x13_1 + 1)),zs,H', ⟨by have:=HK1.out;have:=HK2.out;omega⟩,⟨zPM HO_3.out (fun _ hk=>trivial)⟩,⟨zQ HB.out⟩⟩
       rw [if_neg c8] at H
       exact absurd H (by simp)
      rw [if_neg c7] at H
      exact absurd H (by simp)
     rw [if_neg c6] at H
     have c6b0:decide (x13_1 < (l0.length:Int)) = false:=decide_eq_false c6
     clear c6
     obtain rfl:=Option.some.inj H
     go_wp2
     go_ret
     exact ⟨_,zr,zP HO_3.out,zQ HB.out⟩
  rw [if_neg c3] at H
  exact absurd H (by simp)
 rw [if_neg c2] at H
 exact absurd H (by simp)
def impl_has.f (a0:Int) (a1:Int):Option (Bool):=if 0 ≤ a1 then (some ((Go.bits .and .i64 (shr .i64 a0 a1) 1) == 1)) else (none)
set_option maxHeartbeats 8000000 in
set_option maxRecDepth 100000 in
theorem impl_has.calls (a0 : Int) (a1 : Int) (r : Bool) (w : World) (h : impl_has.f a0 a1 = some r) :
  Calls Tryd.prog 52 #[.int .i64 a0,.int .i64 a1] w fun e w' => e = .returned (.bool r) ∧ Drawn0 w w' := by
 have H:=h
 unfold impl_has.f at H
 clear h
 by_cases c3:0 ≤ a1
 ·rw [if_pos c3] at H
  have c3b0:=eq_true c3
  have c3b1:decide (0 ≤ a1) = true:=decide_eq_true c3
  clear c3
  obtain ⟨ji4,hji4⟩:∃ j_:Int,(shr .i64 a0 a1) = j_:=⟨_,rfl⟩
  replace H:(some ((Go.bits .and .i64 (ji4) 1) == 1)) = some r:=by first | (rw [hji4] at H;exact H) | (simp only [hji4] at H ⊢;exact H)
  have hji4_:(a0 / 2 ^ min a1.toNat 64) = ji4:=hji4
  have hji4z:a1 ≤ 64 → (a0 / 2 ^ a1.toNat) = ji4:=shr_small hji4
  obtain rfl:=Option.some.inj H
  go_enter Tryd.func52,Tryd.ntmps52
  go_wp2
  go_ret
  exact ⟨by first | rfl | (simp;done) | (simp only [← hji4] <;> (first | rfl | simp)) | (simp [*];done),by repeat (first | exact Drawn0.refl _ | apply Drawn0.step)⟩
 rw [if_neg c3] at H
 exact absurd H (by simp)
end Go.Proofs.YtjdekliancabgaaDoor.PAll
