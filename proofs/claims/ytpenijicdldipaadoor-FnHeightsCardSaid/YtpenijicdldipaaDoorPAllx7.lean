import Derived.Test.YtpenijicdldipaaDoorPAllx0
import Derived.Test.YtpenijicdldipaaDoorPAllx1
import Derived.Test.YtpenijicdldipaaDoorPAllx6
namespace Go.Proofs.YtpenijicdldipaaDoor.PAll
open Go.RowKit Go.Proofs.YtpenijicdldipaaDoor.T Go.Proofs.YtpenijicdldipaaDoorW.PrintWords Go.Proofs.YtpenijicdldipaaDoorW.PrintLast Go.Proofs.YtpenijicdldipaaDoorW.PrintMore
attribute [local go_sem] max2_int min2_int max_two min_two max_three min_three max_four min_four   -- for this text's walks alone
set_option linter.unusedVariables false
set_option linter.unusedSimpArgs false
def spec_l02Spoil.f (k:Nat) (s0_0:List Int) (s0_1:Int) (s0_2:Int) (a1:Int):Option (Int × List Int × Int × Int):=(spec_l02Draw.f k s0_0 s0_1 s0_2 a1).bind fun bt492=>((spec_l01Next.f s0_0 bt492.2.2.1 bt492.2.2.2 14).bind fun bt499=>(if bt499.1 > 0 then (some (bt492.1,bt492.2.1,bt499.2.1,bt499.2.2)) else ((spec_l01Next.f s0_0 bt499.2.1 bt499.2.2 4).bind fun bt502=>(if bt502.1 = 0 then ((spec_l01Pick.f s0_0 bt502.2.1 bt502.2.2 (([(-1),9,wrap64 (bt492.1 + 1)]:List Int))).bind fun bt508=>(some (bt508.1,bt492.2.1,bt508.2.1,bt508.2.2))) else (if bt502.1 = 1 then ((spec_l01Pick.f s0_0 bt502.2.1 bt502.2.2 (([0,1,255]:List Int))).bind fun bt514=>(if bt492.2.1.length < 17592186044416 then (some (bt492.1,(bt492.2.1 ++ [bt514.1]),bt514.2.1,bt514.2.2)) else (none))) else (if bt492.1 > 0 then ((spec_l01Next.f s0_0 bt502.2.1 bt502.2.2 bt492.1).bind fun bt520=>(if 0 ≤ bt520.1 then (if bt520.1 < (bt492.2.1.length:Int) then ((spec_l01One.f bt520.1).bind fun t524=>((spec_l01One.f bt492.1).bind fun t526=>((spec_l01One.f bt492.1).bind fun t527=>((spec_l01Next.f s0_0 bt520.2.1 bt520.2.2 t527).bind fun bt528=>((spec_l01Pick.f s0_0 bt528.2.1 bt528.2.2 (([wrap64 ((rd bt492.2.1 bt520.1) - t524),Go.bits .or .i64 (rd bt492.2.1 bt520.1) t526,bt528.1,(-1)]:List Int))).bind fun bt534=>(some (bt492.1,(bt492.2.1.set (bt520.1:Int).toNat bt534.1),bt534.2.1,bt534.2.2))))))) else (none)) else (none))) else (some (bt492.1,bt492.2.1,bt502.2.1,bt502.2.2))))))))
def spec_l02Spoil.T7:Bool × List (List Nat × List Nat):=(true,[([],[]),([0],[0]),([],[]),([],[]),([],[]),([4],[4]),([],[]),([5,6],[5,6]),([7],[7]),([],[]),([9],[9]),([8,10],[8,10]),([],[]),([12],[12]),([],[]),([13,14],[13,14]),([15],[15]),([],[]),([17],[17]),([18,10],[18]),([16,19],[16,19]),([],[]),([],[]),([22],[22]),([23,19],[23]),([21,24,24],[21,24]),([11,20,25],[11,20,25]),([3,26,25],[3,26]),([1,2,0,1,2,3,4,5,6,7,8,9,10,11,12,13,14,15,16,17,18,19,20,21,22,23,24,25,26,27],[1,2]),([28,27,27,0,1,2,3,4,5,6,7,8,9,10,11,12,13,14,15,16,17,18,19,20,21,22,23,24,25,26,27],[27,28])])
def spec_l02Spoil.B7:List Nat:=[0,1,0,0,0,16,0,112,240,0,512,2032,0,4096,0,28672,61440,0,131072,394752,1046016,0,0,4194304,13501952,32376320,67108848,134217720,268435455,536870911]
theorem spec_l02Spoil.tab7:rtab .any (opsOf Tryd.f57 7) = spec_l02Spoil.T7:=by kernel_rfl
theorem spec_l02Spoil.bits7:waitsOk spec_l02Spoil.T7.2 spec_l02Spoil.B7 = true:=by kernel_rfl
def spec_l02Spoil.T11:Bool × List (List Nat × List Nat):=(true,[([],[]),([0],[0]),([],[]),([],[]),([2,3],[2,3]),([4],[4]),([1,5,4],[1,5]),([0,1,2,3,4,5,6],[]),([7,6,6,0,1,2,3,4,5,6],[6,7])])
def spec_l02Spoil.B11:List Nat:=[0,1,0,0,12,28,63,127,255]
theorem spec_l02Spoil.tab11:rtab .any (opsOf Tryd.f57 11) = spec_l02Spoil.T11:=by kernel_rfl
theorem spec_l02Spoil.bits11:waitsOk spec_l02Spoil.T11.2 spec_l02Spoil.B11 = true:=by kernel_rfl
set_option maxHeartbeats 8000000 in
set_option maxRecDepth 100000 in
theorem spec_l02Spoil.calls (k:Nat) (g:Nat) (s0_0:List Int) (s0_1:Int) (s0_2:Int) (a1:Int) (r1:Int) (r2:List Int) (r3:Int) (r4:Int) (w0 w:World) (hI:Z82 w0 w g s0_0 s0_1 s0_2) (hB:Below w0.heap.size w0 w) (h:spec_l02Spoil.f k s0_0 s0_1 s0_2 a1 = some (r1,r2,r3,r4)) :
  Calls Tryd.prog 57 #[.pointer (some ⟨g,0,none⟩),.int .i64 a1] w fun e w' => ∃ v1_:Value,e = .returned (.agg #[.int .i64 r1,v1_]) ∧ Kd.R (Kd.int .i64) 2 w' w.heap.size (fun _=>True) v1_ r2 ∧ Z82 w0 w' g s0_0 r3 r4 ∧ Below w0.heap.size w0 w' ∧ KeepBut w w' g none:=by
 have hu28:=Tryd.underlying28
 have HI0:=zA hI
 have HK:=zA (KeepBut.refl w g none)
 have HL:=zA hB.size
 clear hI
 have HW0:=zA hB.size
 have HB:=zA hB
 clear hB
 have H:=h
 unfold spec_l02Spoil.f at H
 clear h
 obtain ⟨⟨t492,t493,t496,t497⟩,A3,H⟩:=zb H
 try dsimp only at H
 obtain ⟨⟨t499,t500,t501⟩,A4,H⟩:=zb H
 try dsimp only at H
 by_cases c5:t499 > 0
 ·rw [if_pos c5] at H
  have c5b0:decide (0 < t499) = true:=decide_eq_true c5
  clear c5
  simp only [Option.some.injEq,Prod.mk.injEq] at H
  obtain ⟨rfl,rfl,rfl,rfl⟩:=H
  go_enter Tryd.func57,Tryd.ntmps57
  go_wp2_with (first | (refine zBE 4 #[.int .i64 0,.slice none 0 0] 28 ?_;intro gb491 hg w6 hbox hb;replace HB:=zA (kQ (zT HB.out (Z82.ge HI0.out)) hb);have BK491:=zA (hbox);have GW491:=zA (zB6 hg (kX (w:=w) (g:=g) (row:=none) (yA HK.out)):w.heap.size ≤ gb491);have GE491:=zA ((Nat.le_trans HW0.out (by rw [hg];exact (kX (w:=w) (g:=g) (row:=none) (yA HK.out)):w.heap.size ≤ gb491):w0.heap.size ≤ gb491));replace HK:=zA (kT (yA HK.out) (kU hb g none) (.inl rfl));have NB0_491:=zA (zB7 hg (Z82.lt (show Z82 w0 _ g s0_0 s0_1 s0_2 from Z82.uA HI0.out)):g ≠ gb491);have NB491_0:=zA (zB8 hg (Z82.lt (show Z82 w0 _ g s0_0 s0_1 s0_2 from Z82.uA HI0.out)):gb491 ≠ g);replace HI0:=zA (Z82.below (Z82.uA HI0.out) hb);clear hb hbox hg) | (refine zO (some 9) Tryd.func55 #[.pointer (some ⟨g,0,none⟩),.int .i64 a1] ?_;(with_reducible refine (spec_l02Draw.calls k g s0_0 s0_1 s0_2 a1 t492 t493 t496 t497 w0 _ ?side1 ?side2 A3.out).mono ?_);(case side1=>exact Z82.uB HI0.out NB0_491.out);(case side2=>exact zV HB.out (Z82.ge HI0.out) GE491.out);rintro e w7 ⟨v494,rfl,ho0,hi,hb,hk⟩;refine ⟨_,rfl,?_⟩;replace BK491:=zA (zB2 hk BK491.out NB491_0.out);have HO495:=zA (kI ho0 (kX (w:=w) (g:=g) (row:=none) (yB HK.out GW491.out)));replace HK:=zA (kT (yB HK.out GW491.out) hk (.inl rfl));replace HB:=zA (hb);replace HI0:=zA (hi);(try clear hb);(try clear hk);(try clear hi);(try clear ho0)) | (refine zBE 5 #[.int .i64 0,.slice none 0 0] 28 ?_;intro gb498 hg w8 hbox hb;replace HO495:=zA (kL (zP HO495.out) hb);replace HB:=zA (kQ (zV HB.out (Z82.ge HI0.out) GE491.out) hb);have BK498:=zA (hbox);have GW498:=zA (zB6 hg (kX (w:=w) (g:=g) (row:=none) (yB HK.out GW491.out)):w.heap.size ≤ gb498);have GE498:=zA ((Nat.le_trans HW0.out (by rw [hg];exact (kX (w:=w) (g:=g) (row:=none) (yB HK.out GW491.out)):w.heap.size ≤ gb498):w0.heap.size ≤ gb498));replace HK:=zA (kT (yB HK.out GW491.out) (kU hb g none) (.inl rfl));have NB491_498:=zA (zB4 hg BK491.out:gb491 ≠ gb498);have NB498_491:=zA (zB5 hg BK491.out:gb498 ≠ gb491);replace BK491:=zA (zB1 BK491.out hb);have NB0_498:=zA (zB7 hg (Z82.lt (show Z82 w0 _ g s0_0 t496 t497 from Z82.uB HI0.out NB0_491.out)):g ≠ gb498);have NB498_0:=zA (zB8 hg (Z82.lt (show Z82 w0 _ g s0_0 t496 t497 from Z82.uB HI0.out NB0_491.out)):gb498 ≠ g);replace HI0:=zA (Z82.below (Z82.uB HI0.out NB0_491.out) hb);clear hb hbox hg;have hnb9:=NB498_491.out;have hnc9:=NB491_498.out;have hnb10:=NB498_0.out;have hnc10:=NB0_498.out;obtain ⟨hcz11_0,hcz11_1,hfz11_0,hfz11_1⟩:=zB3 BK498.out;obtain ⟨Ao12,co12,eo12⟩:=kM HO495.out;subst eo12) | (refine zO (some 11) Tryd.func56 #[.pointer (some ⟨g,0,none⟩),.int .i64 14] ?_;(with_reducible refine (spec_l01Next.calls g s0_0 t496 t497 14 t499 t500 t501 w0 _ ?side1 ?side2 A4.out).mono ?_);(case side1=>exact Z82.uC HI0.out NB0_491.out NB0_498.out);(case side2=>exact zW HB.out (Z82.ge HI0.out) GE491.out GE498.out);rintro e w13 ⟨rfl,hi,hb,hk⟩;refine ⟨_,rfl,?_⟩;replace BK491:=zA (KeepBut.blk hk (g' := gb491) (o:=.cells #[.int .i64 0,.slice none 0 0] 28 (0,0)) (zBG BK491.out NB491_498.out NB491_498.out) NB491_0.out (by simp));replace HO495:=zA (kA (Kd.R_keep (Z82.apart (show Z82 w0 _ g s0_0 t496 t497 from Z82.uC HI0.out NB0_491.out NB0_498.out) (zP (zFG HO495.out BK498.out (.int .i64 t492) (.slice Ao12 t493.length co12))) (by decide)) hk (fun _ h=>h.2)) (fun _ h=>h.1));replace BK498:=zA (KeepBut.blk hk (g' := gb498) (o:=.cells #[.int .i64 t492,.slice Ao12 t493.length co12] 28 (0,0)) (zRP BK498.out) NB498_0.out (by simp));replace HK:=zA (kT (yC HK.out GW491.out GW498.out) hk (.inl rfl));replace HB:=zA (hb);replace HI0:=zA (hi);(try clear hb);(try clear hk);(try clear hi);obtain ⟨hcz14_0,hcz14_1,hfz14_0,hfz14_1⟩:=zB3 BK498.out;have hnb15:=NB491_0.out;have hnc15:=NB0_491.out;obtain ⟨hcz16_0,hcz16_1,hfz16_0,hfz16_1⟩:=zB3 BK491.out))
  refine bodyPost_ret (results_cell_row rfl _ _ gb491 28 #[.int .i64 t492,.slice Ao12 t493.length co12] (0,0) _ rfl (zRP BK491.out) Tryd.underlying28 rfl (by kernel_rfl)) rfl ?_
  exact ⟨_,zr,by (with_reducible repeat (first | apply zF | apply zG | apply zH));exact kA (kY (p:=⟨gb491,1,none⟩) (kY (p:=⟨gb491,0,none⟩) (kD HO495.out BK491.out (by decide)) (fun _ hk=>hk.2) (.int .i64 t492)) (fun _ hk=>hk.2) (.slice Ao12 t493.length co12)) (fun _ hk=>trivial),by repeat (first | (with_reducible first | exact HI0.out | apply Z82.alloc | apply Z82.drewN | apply Z82.drew | apply Z82.set_1 | apply Z82.set_2 | refine Z82.far ?_ NB0_491.out _ | refine Z82.far ?_ NB0_498.out _) | exact HI0.out),zW HB.out (Z82.ge HI0.out) GE491.out GE498.out,by repeat (first | (with_reducible first | exact HK.out | apply KeepBut.set_ | apply keep_drewN | apply keep_drew | apply keep_alloc | refine keep_far ?_ GW491.out _ | refine keep_far ?_ GW498.out _) | exact HK.out)⟩
 rw [if_neg c5] at H
 have c5b0:decide (0 < t499) = false:=decide_eq_false c5
 clear c5
 obtain ⟨⟨t502,t503,t504⟩,A17,H⟩:=zb H
 try dsimp only at H
 by_cases c18:t502 = 0
 ·rw [if_pos c18] at H
  obtain ⟨c18b0,c18b1⟩:=zT1 c18
  clear c18
  obtain ⟨y505,hy505⟩:∃ y_:List Int,y_ = (([(-1),9,wrap64 (t492 + 1)]:List Int)):=⟨_,rfl⟩
  replace H:((spec_l01Pick.f s0_0 t503 t504 y505).bind fun bt508=>(some (bt508.1,t493,bt508.2.1,bt508.2.2))) = some (r1,r2,r3,r4):=zy hy505 H
  have Ny505:=zA hy505
  clear hy505
  obtain ⟨⟨t508,t509,t510⟩,A19,H⟩:=zb H
  try dsimp only at H
  simp only [Option.some.injEq,Prod.mk.injEq] at H
  obtain ⟨rfl,rfl,rfl,rfl⟩:=H
  go_enter Tryd.func57,Tryd.ntmps57
  go_wp2_with (first | (refine zBE 4 #[.int .i64 0,.slice none 0 0] 28 ?_;intro gb491 hg w20 hbox hb;replace HB:=zA (kQ (zT HB.out (Z82.ge HI0.out)) hb);have BK491:=zA (hbox);have GW491:=zA (zB6 hg (kX (w:=w) (g:=g) (row:=none) (yA HK.out)):w.heap.size ≤ gb491);have GE491:=zA ((Nat.le_trans HW0.out (by rw [hg];exact (kX (w:=w) (g:=g) (row:=none) (yA HK.out)):w.heap.size ≤ gb491):w0.heap.size ≤ gb491));replace HK:=zA (kT (yA HK.out) (kU hb g none) (.inl rfl));have NB0_491:=zA (zB7 hg (Z82.lt (show Z82 w0 _ g s0_0 s0_1 s0_2 from Z82.uA HI0.out)):g ≠ gb491);have NB491_0:=zA (zB8 hg (Z82.lt (show Z82 w0 _ g s0_0 s0_1 s0_2 from Z82.uA HI0.out)):gb491 ≠ g);replace HI0:=zA (Z82.below (Z82.uA HI0.out) hb);clear hb hbox hg) | (refine zO (some 9) Tryd.func55 #[.pointer (some ⟨g,0,none⟩),.int .i64 a1] ?_;(with_reducible refine (spec_l02Draw.calls k g s0_0 s0_1 s0_2 a1 t492 t493 t496 t497 w0 _ ?side1 ?side2 A3.out).mono ?_);(case side1=>exact Z82.uB HI0.out NB0_491.out);(case side2=>exact zV HB.out (Z82.ge HI0.out) GE491.out);rintro e w21 ⟨v494,rfl,ho0,hi,hb,hk⟩;refine ⟨_,rfl,?_⟩;replace BK491:=zA (zB2 hk BK491.out NB491_0.out);have HO495:=zA (kI ho0 (kX (w:=w) (g:=g) (row:=none) (yB HK.out GW491.out)));replace HK:=zA (kT (yB HK.out GW491.out) hk (.inl rfl));replace HB:=zA (hb);replace HI0:=zA (hi);(try clear hb);(try clear hk);(try clear hi);(try clear ho0)) | (refine zBE 5 #[.int .i64 0,.slice none 0 0] 28 ?_;intro gb498 hg w22 hbox hb;replace HO495:=zA (kL (zP HO495.out) hb);replace HB:=zA (kQ (zV HB.out (Z82.ge HI0.out) GE491.out) hb);have BK498:=zA (hbox);have GW498:=zA (zB6 hg (kX (w:=w) (g:=g) (row:=none) (yB HK.out GW491.out)):w.heap.size ≤ gb498);have GE498:=zA ((Nat.le_trans HW0.out (by rw [hg];exact (kX (w:=w) (g:=g) (row:=none) (yB HK.out GW491.out)):w.heap.size ≤ gb498):w0.heap.size ≤ gb498));replace HK:=zA (kT (yB HK.out GW491.out) (kU hb g none) (.inl rfl));have NB491_498:=zA (zB4 hg BK491.out:gb491 ≠ gb498);have NB498_491:=zA (zB5 hg BK491.out:gb498 ≠ gb491);replace BK491:=zA (zB1 BK491.out hb);have NB0_498:=zA (zB7 hg (Z82.lt (show Z82 w0 _ g s0_0 t496 t497 from Z82.uB HI0.out NB0_491.out)):g ≠ gb498);have NB498_0:=zA (zB8 hg (Z82.lt (show Z82 w0 _ g s0_0 t496 t497 from Z82.uB HI0.out NB0_491.out)):gb498 ≠ g);replace HI0:=zA (Z82.below (Z82.uB HI0.out NB0_491.out) hb);clear hb hbox hg;have hnb23:=NB498_491.out;have hnc23:=NB491_498.out;have hnb24:=NB498_0.out;have hnc24:=NB0_498.out;obtain ⟨hcz25_0,hcz25_1,hfz25_0,hfz25_1⟩:=zB3 BK498.out;obtain ⟨Ao26,co26,eo26⟩:=kM HO495.out;subst eo26) | (refine zO (some 11) Tryd.func56 #[.pointer (some ⟨g,0,none⟩),.int .i64 14] ?_;(with_reducible refine (spec_l01Next.calls g s0_0 t496 t497 14 t499 t500 t501 w0 _ ?side1 ?side2 A4.out).mono ?_);(case side1=>exact Z82.uC HI0.out NB0_491.out NB0_498.out);(case side2=>exact zW HB.out (Z82.ge HI0.out) GE491.out GE498.out);rintro e w27 ⟨rfl,hi,hb,hk⟩;refine ⟨_,rfl,?_⟩;replace BK491:=zA (KeepBut.blk hk (g' := gb491) (o:=.cells #[.int .i64 0,.slice none 0 0] 28 (0,0)) (zBG BK491.out NB491_498.out NB491_498.out) NB491_0.out (by simp));replace HO495:=zA (kA (Kd.R_keep (Z82.apart (show Z82 w0 _ g s0_0 t496 t497 from Z82.uC HI0.out NB0_491.out NB0_498.out) (zP (zFG HO495.out BK498.out (.int .i64 t492) (.slice Ao26 t493.length co26))) (by decide)) hk (fun _ h=>h.2)) (fun _ h=>h.1));replace BK498:=zA (KeepBut.blk hk (g' := gb498) (o:=.cells #[.int .i64 t492,.slice Ao26 t493.length co26] 28 (0,0)) (zRP BK498.out) NB498_0.out (by simp));replace HK:=zA (kT (yC HK.out GW491.out GW498.out) hk (.inl rfl));replace HB:=zA (hb);replace HI0:=zA (hi);(try clear hb);(try clear hk);(try clear hi)) | (refine zO (some 15) Tryd.func56 #[.pointer (some ⟨g,0,none⟩),.int .i64 4] ?_;(with_reducible refine (spec_l01Next.calls g s0_0 t500 t501 4 t502 t503 t504 w0 _ ?side1 ?side2 A17.out).mono ?_);(case side1=>exact Z82.uC HI0.out NB0_491.out NB0_498.out);(case side2=>exact zW HB.out (Z82.ge HI0.out) GE491.out GE498.out);rintro e w28 ⟨rfl,hi,hb,hk⟩;refine ⟨_,rfl,?_⟩;replace BK491:=zA (zB2 hk BK491.out NB491_0.out);replace HO495:=zA (zB9 (Z82.apart (show Z82 w0 _ g s0_0 t500 t501 from Z82.uC HI0.out NB0_491.out NB0_498.out) (zP HO495.out) (by decide)) hk);replace BK498:=zA (zB2 hk BK498.out NB498_0.out);replace HK:=zA (kT (yC HK.out GW491.out GW498.out) hk (.inl rfl));replace HB:=zA (hb);replace HI0:=zA (hi);(try clear hb);(try clear hk);(try clear hi);obtain ⟨hcz29_0,hcz29_1,hfz29_0,hfz29_1⟩:=zB3 BK498.out) | ((with_reducible refine kS (N:=58) rfl ?_);refine Kd.R_lit (Kd.int .i64) _ 2 ?hg (N:=58) ?hd (xs:=([(-1),9,wrap64 (t492 + 1)]:List Int)) (inner:=[.int .i64 (-1),.int .i64 9,.int .i64 (wrap64 (t492 + 1))]) (ok:=fun _=>True) (okp:=fun _=>True) ?hr ?hp (fun _ hk=>hk) trivial (kW _ _) (Nat.le_refl _) (by simp) ?_;(case hd=>rfl);(case hg=>rfl);(case hr=>first | (go_simp;done) | (go_simp;rfl));(case hp=>exact (Reps.one (show Kd.M (Kd.int .i64) _ _ _ (-1) [.int .i64 (-1)] from rfl) (Reps.one (show Kd.M (Kd.int .i64) _ _ _ 9 [.int .i64 9] from rfl) (Reps.one (show Kd.M (Kd.int .i64) _ _ _ (wrap64 (t492 + 1)) [.int .i64 (wrap64 (t492 + 1))] from rfl) (Reps.none _ _)))));intro v506 w30 ho31 hb hg_ hnew_;clear hg_ hnew_;(first | rw [← Ny505.out] at ho31 | (simp only [Int.reduceToNat] at ho31;rw [← Ny505.out] at ho31));have HO507:=zA (kI (kF ho31 (kH (zP HO495.out))) (kX (w:=w) (g:=g) (row:=none) (yC HK.out GW491.out GW498.out)));replace HO495:=zA (kE (zP HO495.out) (kC ho31) hb);replace BK491:=zA (zB1 BK491.out hb);replace BK498:=zA (zB1 BK498.out hb);replace HK:=zA (kT (yC HK.out GW491.out GW498.out) (kU hb g none) (.inl rfl));replace HB:=zA (kQ (zW HB.out (Z82.ge HI0.out) GE491.out GE498.out) hb);replace HI0:=zA (Z82.below (Z82.uC HI0.out NB0_491.out NB0_498.out) hb);clear hb ho31;obtain ⟨Ao32,co32,eo32⟩:=kM HO507.out;subst eo32) | (refine zO (some 59) Tryd.func74 #[.pointer (some ⟨g,0,none⟩),.slice Ao32 y505.length co32] ?_;(with_reducible refine (spec_l01Pick.calls g s0_0 t503 t504 _ _ y505 t508 t509 t510 w0 _ ?side1 ?side2 ?side3 ?side4 ?side5 A19.out).mono ?_);(case side1=>exact Z82.uC HI0.out NB0_491.out NB0_498.out);(case side2=>exact zW HB.out (Z82.ge HI0.out) GE491.out GE498.out);(case side3=>exact zS (kB HO507.out).2.2);(case side4=>exact (kB HO507.out).2.1);(case side5=>exact jJ (Z82.own_ne HI0.out HO507.out (by decide)));rintro e w33 ⟨rfl,hi,hb,hk⟩;refine ⟨_,rfl,?_⟩;replace BK491:=zA (zB2 hk BK491.out NB491_0.out);replace HO495:=zA (zB9 (Z82.apart (show Z82 w0 _ g s0_0 t503 t504 from Z82.uC HI0.out NB0_491.out NB0_498.out) (zP HO495.out) (by decide)) hk);replace BK498:=zA (zB2 hk BK498.out NB498_0.out);replace HO507:=zA (zB9 (Z82.apart (show Z82 w0 _ g s0_0 t503 t504 from Z82.uC HI0.out NB0_491.out NB0_498.out) (zP HO507.out) (by decide)) hk);replace HK:=zA (kT (yC HK.out GW491.out GW498.out) hk (.inl rfl));replace HB:=zA (hb);replace HI0:=zA (hi);(try clear hb);(try clear hk);(try clear hi);obtain ⟨hcz34_0,hcz34_1,hfz34_0,hfz34_1⟩:=zB3 BK498.out;have hnb35:=NB491_0.out;have hnc35:=NB0_491.out;obtain ⟨hcz36_0,hcz36_1,hfz36_0,hfz36_1⟩:=zB3 BK491.out))
  refine bodyPost_ret (results_cell_row rfl _ _ gb491 28 #[.int .i64 t508,.slice Ao26 t493.length co26] (0,0) _ rfl (by (with_reducible repeat (first | refine zJ ?_ _ | refine zK ?_ | refine zI ?_ _));refine blk_put (cs:=#[.int .i64 t508,.slice none 0 0]) ?_ 1 _ rfl;(with_reducible repeat (first | refine zJ ?_ _ | refine zK ?_ | refine zI ?_ _));refine blk_put (cs:=#[.int .i64 0,.slice none 0 0]) ?_ 0 _ rfl;(with_reducible repeat (first | refine zJ ?_ _ | refine zK ?_ | refine zI ?_ _));refine blk_far ?_ NB491_498.out _;(with_reducible repeat (first | refine zJ ?_ _ | refine zK ?_ | refine zI ?_ _));exact BK491.out) Tryd.underlying28 rfl (by kernel_rfl)) rfl ?_
  exact ⟨_,zr,by (with_reducible repeat (first | apply zF | apply zG | apply zH));exact kA (kY (p:=⟨gb491,1,none⟩) (kY (p:=⟨gb491,0,none⟩) (kY (p:=⟨gb498,0,none⟩) (kD (kD HO495.out BK498.out (by decide)) BK491.out (by decide)) (fun _ hk=>hk.1.2) (.int .i64 t508)) (fun _ hk=>hk.2) (.int .i64 t508)) (fun _ hk=>hk.2) (.slice Ao26 t493.length co26)) (fun _ hk=>trivial),by repeat (first | (with_reducible first | exact HI0.out | apply Z82.alloc | apply Z82.drewN | apply Z82.drew | apply Z82.set_1 | apply Z82.set_2 | refine Z82.far ?_ NB0_491.out _ | refine Z82.far ?_ NB0_498.out _) | exact HI0.out),zW HB.out (Z82.ge HI0.out) GE491.out GE498.out,by repeat (first | (with_reducible first | exact HK.out | apply KeepBut.set_ | apply keep_drewN | apply keep_drew | apply keep_alloc | refine keep_far ?_ GW491.out _ | refine keep_far ?_ GW498.out _) | exact HK.out)⟩
 rw [if_neg c18] at H
 obtain ⟨c18b0,c18b1⟩:=zT2 c18
 by_cases c37:t502 = 1
 ·rw [if_pos c37] at H
  obtain ⟨c37b0,c37b1⟩:=zT1 c37
  clear c37
  obtain ⟨y511,hy511⟩:∃ y_:List Int,y_ = (([0,1,255]:List Int)):=⟨_,rfl⟩
  replace H:((spec_l01Pick.f s0_0 t503 t504 y511).bind fun bt514=>(if t493.length < 17592186044416 then (some (t492,(t493 ++ [bt514.1]),bt514.2.1,bt514.2.2)) else (none))) = some (r1,r2,r3,r4):=zy hy511 H
  have Ny511:=zA hy511
  clear hy511
  obtain ⟨⟨t514,t515,t516⟩,A38,H⟩:=zb H
  try dsimp only at H
  by_cases c39:t493.length < 17592186044416
  ·rw [if_pos c39] at H
   have LMc39:=zA c39
   clear c39
   obtain ⟨y517,hy517⟩:∃ y_:List Int,y_ = (t493 ++ [t514]):=⟨_,rfl⟩
   replace H:(some (t492,y517,t515,t516)) = some (r1,r2,r3,r4):=zy hy517 H
   have Ny517:=zA hy517
   clear hy517
   simp only [Option.some.injEq,Prod.mk.injEq] at H
   obtain ⟨rfl,rfl,rfl,rfl⟩:=H
   go_enter Tryd.func57,Tryd.ntmps57
   try go_wp2_with (first | (refine zBE 4 #[.int .i64 0,.slice none 0 0] 28 ?_;intro gb491 hg w40 hbox hb;replace HB:=zA (kQ (zT HB.out (Z82.ge HI0.out)) hb);have BK491:=zA (hbox);have GW491:=zA (zB6 hg (kX (w:=w) (g:=g) (row:=none) (yA HK.out)):w.heap.size ≤ gb491);have GE491:=zA ((Nat.le_trans HW0.out (by rw [hg];exact (kX (w:=w) (g:=g) (row:=none) (yA HK.out)):w.heap.size ≤ gb491):w0.heap.size ≤ gb491));replace HK:=zA (kT (yA HK.out) (kU hb g none) (.inl rfl));have NB0_491:=zA (zB7 hg (Z82.lt (show Z82 w0 _ g s0_0 s0_1 s0_2 from Z82.uA HI0.out)):g ≠ gb491);have NB491_0:=zA (zB8 hg (Z82.lt (show Z82 w0 _ g s0_0 s0_1 s0_2 from Z82.uA HI0.out)):gb491 ≠ g);replace HI0:=zA (Z82.below (Z82.uA HI0.out) hb);clear hb hbox hg) | (refine zO (some 9) Tryd.func55 #[.pointer (some ⟨g,0,none⟩),.int .i64 a1] ?_;(with_reducible refine (spec_l02Draw.calls k g s0_0 s0_1 s0_2 a1 t492 t493 t496 t497 w0 _ ?side1 ?side2 A3.out).mono ?_);(case side1=>exact Z82.uB HI0.out NB0_491.out);(case side2=>exact zV HB.out (Z82.ge HI0.out) GE491.out);rintro e w41 ⟨v494,rfl,ho0,hi,hb,hk⟩;refine ⟨_,rfl,?_⟩;replace BK491:=zA (zB2 hk BK491.out NB491_0.out);have HO495:=zA (kI ho0 (kX (w:=w) (g:=g) (row:=none) (yB HK.out GW491.out)));replace HK:=zA (kT (yB HK.out GW491.out) hk (.inl rfl));replace HB:=zA (hb);replace HI0:=zA (hi);(try clear hb);(try clear hk);(try clear hi);(try clear ho0)) | (refine zBE 5 #[.int .i64 0,.slice none 0 0] 28 ?_;intro gb498 hg w42 hbox hb;replace HO495:=zA (kL (zP HO495.out) hb);replace HB:=zA (kQ (zV HB.out (Z82.ge HI0.out) GE491.out) hb);have BK498:=zA (hbox);have GW498:=zA (zB6 hg (kX (w:=w) (g:=g) (row:=none) (yB HK.out GW491.out)):w.heap.size ≤ gb498);have GE498:=zA ((Nat.le_trans HW0.out (by rw [hg];exact (kX (w:=w) (g:=g) (row:=none) (yB HK.out GW491.out)):w.heap.size ≤ gb498):w0.heap.size ≤ gb498));replace HK:=zA (kT (yB HK.out GW491.out) (kU hb g none) (.inl rfl));have NB491_498:=zA (zB4 hg BK491.out:gb491 ≠ gb498);have NB498_491:=zA (zB5 hg BK491.out:gb498 ≠ gb491);replace BK491:=zA (zB1 BK491.out hb);have NB0_498:=zA (zB7 hg (Z82.lt (show Z82 w0 _ g s0_0 t496 t497 from Z82.uB HI0.out NB0_491.out)):g ≠ gb498);have NB498_0:=zA (zB8 hg (Z82.lt (show Z82 w0 _ g s0_0 t496 t497 from Z82.uB HI0.out NB0_491.out)):gb498 ≠ g);replace HI0:=zA (Z82.below (Z82.uB HI0.out NB0_491.out) hb);clear hb hbox hg;have hnb43:=NB498_491.out;have hnc43:=NB491_498.out;have hnb44:=NB498_0.out;have hnc44:=NB0_498.out;obtain ⟨hcz45_0,hcz45_1,hfz45_0,hfz45_1⟩:=zB3 BK498.out;obtain ⟨Ao46,co46,eo46⟩:=kM HO495.out;subst eo46) | (refine zO (some 11) Tryd.func56 #[.pointer (some ⟨g,0,none⟩),.int .i64 14] ?_;(with_reducible refine (spec_l01Next.calls g s0_0 t496 t497 14 t499 t500 t501 w0 _ ?side1 ?side2 A4.out).mono ?_);(case side1=>exact Z82.uC HI0.out NB0_491.out NB0_498.out);(case side2=>exact zW HB.out (Z82.ge HI0.out) GE491.out GE498.out);rintro e w47 ⟨rfl,hi,hb,hk⟩;refine ⟨_,rfl,?_⟩;replace BK491:=zA (KeepBut.blk hk (g' := gb491) (o:=.cells #[.int .i64 0,.slice none 0 0] 28 (0,0)) (zBG BK491.out NB491_498.out NB491_498.out) NB491_0.out (by simp));replace HO495:=zA (kA (Kd.R_keep (Z82.apart (show Z82 w0 _ g s0_0 t496 t497 from Z82.uC HI0.out NB0_491.out NB0_498.out) (zP (zFG HO495.out BK498.out (.int .i64 t492) (.slice Ao46 t493.length co46))) (by decide)) hk (fun _ h=>h.2)) (fun _ h=>h.1));replace BK498:=zA (KeepBut.blk hk (g' := gb498) (o:=.cells #[.int .i64 t492,.slice Ao46 t493.length co46] 28 (0,0)) (zRP BK498.out) NB498_0.out (by simp));replace HK:=zA (kT (yC HK.out GW491.out GW498.out) hk (.inl rfl));replace HB:=zA (hb);replace HI0:=zA (hi);(try clear hb);(try clear hk);(try clear hi)) | (refine zO (some 15) Tryd.func56 #[.pointer (some ⟨g,0,none⟩),.int .i64 4] ?_;(with_reducible refine (spec_l01Next.calls g s0_0 t500 t501 4 t502 t503 t504 w0 _ ?side1 ?side2 A17.out).mono ?_);(case side1=>exact Z82.uC HI0.out NB0_491.out NB0_498.out);(case side2=>exact zW HB.out (Z82.ge HI0.out) GE491.out GE498.out);rintro e w48 ⟨rfl,hi,hb,hk⟩;refine ⟨_,rfl,?_⟩;replace BK491:=zA (zB2 hk BK491.out NB491_0.out);replace HO495:=zA (zB9 (Z82.apart (show Z82 w0 _ g s0_0 t500 t501 from Z82.uC HI0.out NB0_491.out NB0_498.out) (zP HO495.out) (by decide)) hk);replace BK498:=zA (zB2 hk BK498.out NB498_0.out);replace HK:=zA (kT (yC HK.out GW491.out GW498.out) hk (.inl rfl));replace HB:=zA (hb);replace HI0:=zA (hi);(try clear hb);(try clear hk);(try clear hi)))
   replace HO495:=zA (zH HO495.out)
   replace BK491:=zA (zK BK491.out)
   replace BK498:=zA (zK BK498.out)
   replace HI0:=zA (Z82.drew HI0.out)
   replace HK:=zA (keep_drew HK.out)
   replace HB:=zA (zD HB.out)
   refine start_ (n:=9) (S:=fun w' => w'.cell? ⟨gb498,0,none⟩ = some (.int .i64 t492) ∧ w'.cell? ⟨gb498,1,none⟩ = some (.slice Ao46 t493.length co46)) (ds:=[8]) #[false,false,false,false,false,false,false,false,false] (by kernel_rfl) rfl rfl ⟨(kV BK498.out 0).trans rfl,(kV BK498.out 1).trans rfl⟩ (fun hHeld=>?_);refine with_tabW spec_l02Spoil.tab11 spec_l02Spoil.bits11 (fun HT_ HW_=>?_)
   generalize w48.drew = w49 at HO495 BK491 BK498 HI0 HK HB hHeld ⊢
   refine zp 0 (some 63) #[true,false,false,false,false,false,false,false,false] HT_.out ?_
   refine zp 2 (some 65) #[true,false,true,false,false,false,false,false,false] HT_.out ?_
   refine zc 1 (some 64) #[true,true,true,false,false,false,false,false,false] HT_.out HW_.out hHeld ?_
   refine one_ (i:=3) (N:=some 66) #[true,true,true,true,false,false,false,false,false] rfl rfl (one_of HT_.out (by kernel_rfl)) (by decide) (fun K hK=>?_)
   refine Kd.R_lit_step (Kd.int .i64) _ 2 ?hg (N:=66) ?hd (xs:=([0,1,255]:List Int)) (inner:=[.int .i64 0,.int .i64 1,.int .i64 255]) (ok:=fun _=>True) (okp:=fun _=>True) ?hr ?hp (fun _ hk=>hk) trivial (kW _ _) (Nat.le_refl _) (by simp) ?_;(case hd=>rfl);(case hg=>rfl);(case hr=>first | (go_simp;done) | (go_simp;rfl));(case hp=>exact (Reps.one (show Kd.M (Kd.int .i64) _ _ _ 0 [.int .i64 0] from rfl) (Reps.one (show Kd.M (Kd.int .i64) _ _ _ 1 [.int .i64 1] from rfl) (Reps.one (show Kd.M (Kd.int .i64) _ _ _ 255 [.int .i64 255] from rfl) (Reps.none _ _)))))
   intro v512 w50 ho51 hb hg_ hnew_
   clear hg_ hnew_
   (first | rw [← Ny511.out] at ho51 | (simp only [Int.reduceToNat] at ho51;rw [← Ny511.out] at ho51))
   have HO513:=zA (kI (kF ho51 (kH (zP HO495.out))) (kX (w:=w) (g:=g) (row:=none) (yC HK.out GW491.out GW498.out)))
   replace HO495:=zA (kE (zP HO495.out) (kC ho51) hb)
   replace BK491:=zA (zB1 BK491.out hb)
   replace BK498:=zA (zB1 BK498.out hb)
   replace HK:=zA (kT (yC HK.out GW491.out GW498.out) (kU hb g none) (.inl rfl))
   replace HB:=zA (kQ (zW HB.out (Z82.ge HI0.out) GE491.out GE498.out) hb)
   replace HI0:=zA (Z82.below (Z82.uC HI0.out NB0_491.out NB0_498.out) hb)
   clear hb ho51
   obtain ⟨Ao52,co52,eo52⟩:=kM HO513.out
   (first | subst eo52 | (injection eo52 with f1_ f2_ f3_;have f4_:=f1_.symm;have f5_:=f3_.symm;clear f1_ f2_ f3_;subst f4_;subst f5_))
   refine hK.out _ _ ⟨(kV BK498.out 0).trans rfl,(kV BK498.out 1).trans rfl⟩ (fun hHeld=>?_)
   clear hK K
   refine norm_ (a' := ?_) ?_ ?_
   rotate_left
   ·show Act.put _ (some 66) _ = _
    simp only [Act.put,zL,zM,zN,i64_w,i32_w]
    rfl
   refine one_ (i:=4) (N:=some 67) #[true,true,true,true,true,false,false,false,false] rfl rfl (one_of HT_.out (by kernel_rfl)) (by decide) (fun K hK=>?_)
   refine goes_ Tryd.func74 (by kernel_rfl) rfl #[.pointer (some ⟨g,0,none⟩),.slice Ao52 y511.length co52] (by rfl) rfl rfl zg ?_
   with_reducible refine (spec_l01Pick.calls g s0_0 t503 t504 _ _ y511 t514 t515 t516 w0 _ ?side1 ?side2 ?side3 ?side4 ?side5 A38.out).mono ?_
   (case side1=>exact Z82.uC HI0.out NB0_491.out NB0_498.out)
   (case side2=>exact zW HB.out (Z82.ge HI0.out) GE491.out GE498.out)
   (case side3=>exact zS (kB HO513.out).2.2)
   (case side4=>exact (kB HO513.out).2.1)
   (case side5=>exact jJ (Z82.own_ne HI0.out HO513.out (by decide)))
   rintro e w53 ⟨rfl,hi,hb,hk⟩
   refine ⟨_,rfl,?_⟩
   replace BK491:=zA (zB2 hk BK491.out NB491_0.out)
   replace HO495:=zA (zB9 (Z82.apart (show Z82 w0 _ g s0_0 t503 t504 from Z82.uC HI0.out NB0_491.out NB0_498.out) (zP HO495.out) (by decide)) hk)
   replace BK498:=zA (zB2 hk BK498.out NB498_0.out)
   replace HO513:=zA (zB9 (Z82.apart (show Z82 w0 _ g s0_0 t503 t504 from Z82.uC HI0.out NB0_491.out NB0_498.out) (zP HO513.out) (by decide)) hk)
   replace HK:=zA (kT (yC HK.out GW491.out GW498.out) hk (.inl rfl))
   replace HB:=zA (hb)
   replace HI0:=zA (hi)
   (try clear hb)
   (try clear hb2)
   (try clear hk)
   (try clear hi)
   (try clear hgw)
   refine hK.out _ _ ⟨(kV BK498.out 0).trans rfl,(kV BK498.out 1).trans rfl⟩ (fun hHeld=>?_)
   clear hK K
   refine norm_ (a' := ?_) ?_ ?_
   rotate_left
   ·show Act.put _ (some 67) _ = _
    simp only [Act.put,zL,zM,zN,i64_w,i32_w]
    rfl
   refine one_ (i:=5) (N:=some 68) #[true,true,true,true,true,true,false,false,false] rfl rfl (one_of HT_.out (by kernel_rfl)) (by decide) (fun K hK=>?_)
   refine value_ (w1:=?_) (v:=?_) (by rfl) rfl ?_ ?_
   rotate_left 2
   ·go_simp
    constructor
    ·rfl
    rfl
   refine hK.out _ _ ⟨(kV (zI BK498.out _) 0).trans rfl,(kV (zI BK498.out _) 1).trans rfl⟩ (fun hHeld=>?_)
   clear hK K
   refine norm_ (a' := ?_) ?_ ?_
   rotate_left
   ·show Act.put _ (some 68) _ = _
    simp only [Act.put,zL,zM,zN,i64_w,i32_w]
    rfl
   refine one_ (i:=6) (N:=some 69) #[true,true,true,true,true,true,true,false,false] rfl rfl (one_of HT_.out (by kernel_rfl)) (by decide) (fun K hK=>?_)
   refine Kd.R_append_step (Kd.int .i64) w.heap.size (by rfl) (.tmp 64) (.tmp 68) 22 2 (.int .i64 0) 8 rfl Tryd.underlying22 info2 rfl (by decide) (by omega) (.slice Ao46 t493.length co46) t493 t514 [.int .i64 t514] (fun k_=>some k_ ≠ (.slice Ao52 y511.length co52:Value).ownBlock) (fun _=>False) rfl rfl ?aP (fun _ hk=>hk.elim) ?aF ?aO (kW _ _) ?aS ?aL ?_
   (case aP=>exact rfl)
   (case aF=>exact (fun k_ hk=>jF (kH (zP HO513.out)) k_ hk))
   (case aO=>exact (by (with_reducible repeat (first | apply zF | apply zG | apply zH));exact kA HO495.out (fun _ hk=>hk.2)))
   (case aS=>exact (kX (w:=w) (g:=g) (row:=none) (yC HK.out GW491.out GW498.out)))
   (case aL=>have:=LMc39.out;omega)
   intro v518 w54 ho hb hg hat
   rw [← Ny517.out] at ho
   replace BK491:=zA (blk_grown (g:=gb491) (o:=.cells #[.int .i64 0,.slice none 0 0] 28 (0,0)) (zR BK491.out) hg (Kd.R_ne HO495.out BK491.out (by decide)))
   replace BK498:=zA (blk_grown (g:=gb498) (o:=.cells #[.int .i64 t492,.slice Ao46 t493.length co46] 28 (0,0)) (zR BK498.out) hg (Kd.R_ne HO495.out BK498.out (by decide)))
   replace HO513:=zA (Kd.R_after (ok:=(fun _=>True)) (zP HO513.out) hg hat)
   replace HB:=zA (below_weaken (zW HB.out (Z82.ge HI0.out) GE491.out GE498.out) HL.out hb)
   replace HI0:=zA (Z82.grown (Z82.uC HI0.out NB0_491.out NB0_498.out) hg (Z82.own_ne HI0.out HO495.out (by decide)))
   replace HK:=zA (kT (yC HK.out GW491.out GW498.out) (KeepBut.of_grown hg g) (Kd.R_base2 HO495.out))
   have HO519:=zA (ho)
   clear HO495 ho hb hg hat
   obtain ⟨Ao55,co55,eo55⟩:=kM HO519.out
   (first | subst eo55 | (injection eo55 with f1_ f2_ f3_;have f4_:=f1_.symm;have f5_:=f3_.symm;clear f1_ f2_ f3_;subst f4_;subst f5_))
   refine hK.out _ _ ⟨(kV BK498.out 0).trans rfl,(kV BK498.out 1).trans rfl⟩ (fun hHeld=>?_)
   clear hK K
   refine norm_ (a' := ?_) ?_ ?_
   rotate_left
   ·show Act.put _ (some 69) _ = _
    simp only [Act.put,zL,zM,zN,i64_w,i32_w]
    rfl
   refine zp 7 (some 70) #[true,true,true,true,true,true,true,true,false] HT_.out ?_
   refine last_ (i:=8) (N:=none) #[true,true,true,true,true,true,true,true,true] rfl rfl (one_of HT_.out (by kernel_rfl)) (by decide) (fun K hK=>?_)
   have hs56:w54.cell? ⟨gb498,1,none⟩ = some (.slice Ao46 t493.length co46):=(kV BK498.out 1).trans rfl
   have hfs56:=jH BK498.out 1
   have hns56_0:=NB491_498.out
   have hms56_0:=NB498_491.out
   refine skip_ (w1:=?_) (by rfl) rfl ?_ ?_
   rotate_left
   ·go_simp
    rfl
   refine hK.out _ _ ?_
   clear hK K
   refine done_ (done_of HT_.out (by kernel_rfl)) ?_
   obtain ⟨hcz57_0,hcz57_1,hfz57_0,hfz57_1⟩:=zB3 BK498.out
   have hnb58:=NB491_0.out
   have hnc58:=NB0_491.out
   obtain ⟨hcz59_0,hcz59_1,hfz59_0,hfz59_1⟩:=zB3 BK491.out
   try go_wp2
   refine bodyPost_ret (results_cell_row rfl _ _ gb491 28 #[.int .i64 t492,.slice Ao55 y517.length co55] (0,0) _ rfl (by (with_reducible repeat (first | refine zJ ?_ _ | refine zK ?_ | refine zI ?_ _));refine blk_put (cs:=#[.int .i64 t492,.slice none 0 0]) ?_ 1 _ rfl;(with_reducible repeat (first | refine zJ ?_ _ | refine zK ?_ | refine zI ?_ _));refine blk_put (cs:=#[.int .i64 0,.slice none 0 0]) ?_ 0 _ rfl;(with_reducible repeat (first | refine zJ ?_ _ | refine zK ?_ | refine zI ?_ _));refine blk_far ?_ NB491_498.out _;(with_reducible repeat (first | refine zJ ?_ _ | refine zK ?_ | refine zI ?_ _));exact BK491.out) Tryd.underlying28 rfl (by kernel_rfl)) rfl ?_
   exact ⟨_,zr,by (with_reducible repeat (first | apply zF | apply zG | apply zH));exact kA (kY (p:=⟨gb491,1,none⟩) (kY (p:=⟨gb491,0,none⟩) (kY (p:=⟨gb498,1,none⟩) (kD (kD HO519.out BK498.out (by decide)) BK491.out (by decide)) (fun _ hk=>hk.1.2) (.slice Ao55 y517.length co55)) (fun _ hk=>hk.2) (.int .i64 t492)) (fun _ hk=>hk.2) (.slice Ao55 y517.length co55)) (fun _ hk=>trivial),by repeat (first | (with_reducible first | exact HI0.out | apply Z82.alloc | apply Z82.drewN | apply Z82.drew | apply Z82.set_1 | apply Z82.set_2 | refine Z82.far ?_ NB0_491.out _ | refine Z82.far ?_ NB0_498.out _) | exact HI0.out),zW HB.out (Z82.ge HI0.out) GE491.out GE498.out,by repeat (first | (with_reducible first | exact HK.out | apply KeepBut.set_ | apply keep_drewN | apply keep_drew | apply keep_alloc | refine keep_far ?_ GW491.out _ | refine keep_far ?_ GW498.out _) | exact HK.out)⟩
  rw [if_neg c39] at H
  exact absurd H (by simp)
 rw [if_neg c37] at H
 obtain ⟨c37b0,c37b1⟩:=zT2 c37
 by_cases c60:t492 > 0
 ·rw [if_pos c60] at H
  have c60b0:decide (0 < t492) = true:=decide_eq_true c60
  clear c60
  obtain ⟨⟨t520,t521,t522⟩,A61,H⟩:=zb H
  try dsimp only at H
  by_cases c62:0 ≤ t520
  ·rw [if_pos c62] at H
   have c62b0:decide (0 ≤ t520) = true:=decide_eq_true c62
   clear c62
   by_cases c63:t520 < (t493.length:Int)
   ·rw [if_pos c63] at H
    have c63b0:decide (t520 < (t493.length:Int)) = true:=decide_eq_true c63
    clear c63
    obtain ⟨t524,A64,H⟩:=zb H
    try dsimp only at H
    obtain ⟨t526,A65,H⟩:=zb H
    try dsimp only at H
    obtain ⟨t527,A66,H⟩:=zb H
    try dsimp only at H
    obtain ⟨⟨t528,t529,t530⟩,A67,H⟩:=zb H
    try dsimp only at H
    obtain ⟨y531,hy531⟩:∃ y_:List Int,y_ = (([wrap64 ((rd t493 t520) - t524),Go.bits .or .i64 (rd t493 t520) t526,t528,(-1)]:List Int)):=⟨_,rfl⟩
    replace H:((spec_l01Pick.f s0_0 t529 t530 y531).bind fun bt534=>(some (t492,(t493.set (t520:Int).toNat bt534.1),bt534.2.1,bt534.2.2))) = some (r1,r2,r3,r4):=zy hy531 H
    have Ny531:=zA hy531
    clear hy531
    obtain ⟨⟨t534,t535,t536⟩,A68,H⟩:=zb H
    try dsimp only at H
    obtain ⟨y537,hy537⟩:∃ y_:List Int,y_ = (t493.set (t520:Int).toNat t534):=⟨_,rfl⟩
    replace H:(some (t492,y537,t535,t536)) = some (r1,r2,r3,r4):=zy hy537 H
    have Ny537:=zA hy537
    clear hy537
    simp only [Option.some.injEq,Prod.mk.injEq] at H
    obtain ⟨rfl,rfl,rfl,rfl⟩:=H
    go_enter Tryd.func57,Tryd.ntmps57
    try go_wp2_with (first | (refine zBE 4 #[.int .i64 0,.slice none 0 0] 28 ?_;intro gb491 hg w70 hbox hb;replace HB:=zA (kQ (zT HB.out (Z82.ge HI0.out)) hb);have BK491:=zA (hbox);have GW491:=zA (zB6 hg (kX (w:=w) (g:=g) (row:=none) (yA HK.out)):w.heap.size ≤ gb491);have GE491:=zA ((Nat.le_trans HW0.out (by rw [hg];exact (kX (w:=w) (g:=g) (row:=none) (yA HK.out)):w.heap.size ≤ gb491):w0.heap.size ≤ gb491));replace HK:=zA (kT (yA HK.out) (kU hb g none) (.inl rfl));have NB0_491:=zA (zB7 hg (Z82.lt (show Z82 w0 _ g s0_0 s0_1 s0_2 from Z82.uA HI0.out)):g ≠ gb491);have NB491_0:=zA (zB8 hg (Z82.lt (show Z82 w0 _ g s0_0 s0_1 s0_2 from Z82.uA HI0.out)):gb491 ≠ g);replace HI0:=zA (Z82.below (Z82.uA HI0.out) hb);clear hb hbox hg) | (refine zO (some 9) Tryd.func55 #[.pointer (some ⟨g,0,none⟩),.int .i64 a1] ?_;(with_reducible refine (spec_l02Draw.calls k g s0_0 s0_1 s0_2 a1 t492 t493 t496 t497 w0 _ ?side1 ?side2 A3.out).mono ?_);(case side1=>exact Z82.uB HI0.out NB0_491.out);(case side2=>exact zV HB.out (Z82.ge HI0.out) GE491.out);rintro e w71 ⟨v494,rfl,ho0,hi,hb,hk⟩;refine ⟨_,rfl,?_⟩;replace BK491:=zA (zB2 hk BK491.out NB491_0.out);have HO495:=zA (kI ho0 (kX (w:=w) (g:=g) (row:=none) (yB HK.out GW491.out)));replace HK:=zA (kT (yB HK.out GW491.out) hk (.inl rfl));replace HB:=zA (hb);replace HI0:=zA (hi);(try clear hb);(try clear hk);(try clear hi);(try clear ho0)) | (refine zBE 5 #[.int .i64 0,.slice none 0 0] 28 ?_;intro gb498 hg w72 hbox hb;replace HO495:=zA (kL (zP HO495.out) hb);replace HB:=zA (kQ (zV HB.out (Z82.ge HI0.out) GE491.out) hb);have BK498:=zA (hbox);have GW498:=zA (zB6 hg (kX (w:=w) (g:=g) (row:=none) (yB HK.out GW491.out)):w.heap.size ≤ gb498);have GE498:=zA ((Nat.le_trans HW0.out (by rw [hg];exact (kX (w:=w) (g:=g) (row:=none) (yB HK.out GW491.out)):w.heap.size ≤ gb498):w0.heap.size ≤ gb498));replace HK:=zA (kT (yB HK.out GW491.out) (kU hb g none) (.inl rfl));have NB491_498:=zA (zB4 hg BK491.out:gb491 ≠ gb498);have NB498_491:=zA (zB5 hg BK491.out:gb498 ≠ gb491);replace BK491:=zA (zB1 BK491.out hb);have NB0_498:=zA (zB7 hg (Z82.lt (show Z82 w0 _ g s0_0 t496 t497 from Z82.uB HI0.out NB0_491.out)):g ≠ gb498);have NB498_0:=zA (zB8 hg (Z82.lt (show Z82 w0 _ g s0_0 t496 t497 from Z82.uB HI0.out NB0_491.out)):gb498 ≠ g);replace HI0:=zA (Z82.below (Z82.uB HI0.out NB0_491.out) hb);clear hb hbox hg;have hnb73:=NB498_491.out;have hnc73:=NB491_498.out;have hnb74:=NB498_0.out;have hnc74:=NB0_498.out;obtain ⟨hcz75_0,hcz75_1,hfz75_0,hfz75_1⟩:=zB3 BK498.out;obtain ⟨Ao76,co76,eo76⟩:=kM HO495.out;subst eo76) | (refine zO (some 11) Tryd.func56 #[.pointer (some ⟨g,0,none⟩),.int .i64 14] ?_;(with_reducible refine (spec_l01Next.calls g s0_0 t496 t497 14 t499 t500 t501 w0 _ ?side1 ?side2 A4.out).mono ?_);(case side1=>exact Z82.uC HI0.out NB0_491.out NB0_498.out);(case side2=>exact zW HB.out (Z82.ge HI0.out) GE491.out GE498.out);rintro e w77 ⟨rfl,hi,hb,hk⟩;refine ⟨_,rfl,?_⟩;replace BK491:=zA (KeepBut.blk hk (g' := gb491) (o:=.cells #[.int .i64 0,.slice none 0 0] 28 (0,0)) (zBG BK491.out NB491_498.out NB491_498.out) NB491_0.out (by simp));replace HO495:=zA (kA (Kd.R_keep (Z82.apart (show Z82 w0 _ g s0_0 t496 t497 from Z82.uC HI0.out NB0_491.out NB0_498.out) (zP (zFG HO495.out BK498.out (.int .i64 t492) (.slice Ao76 t493.length co76))) (by decide)) hk (fun _ h=>h.2)) (fun _ h=>h.1));replace BK498:=zA (KeepBut.blk hk (g' := gb498) (o:=.cells #[.int .i64 t492,.slice Ao76 t493.length co76] 28 (0,0)) (zRP BK498.out) NB498_0.out (by simp));replace HK:=zA (kT (yC HK.out GW491.out GW498.out) hk (.inl rfl));replace HB:=zA (hb);replace HI0:=zA (hi);(try clear hb);(try clear hk);(try clear hi)) | (refine zO (some 15) Tryd.func56 #[.pointer (some ⟨g,0,none⟩),.int .i64 4] ?_;(with_reducible refine (spec_l01Next.calls g s0_0 t500 t501 4 t502 t503 t504 w0 _ ?side1 ?side2 A17.out).mono ?_);(case side1=>exact Z82.uC HI0.out NB0_491.out NB0_498.out);(case side2=>exact zW HB.out (Z82.ge HI0.out) GE491.out GE498.out);rintro e w78 ⟨rfl,hi,hb,hk⟩;refine ⟨_,rfl,?_⟩;replace BK491:=zA (zB2 hk BK491.out NB491_0.out);replace HO495:=zA (zB9 (Z82.apart (show Z82 w0 _ g s0_0 t500 t501 from Z82.uC HI0.out NB0_491.out NB0_498.out) (zP HO495.out) (by decide)) hk);replace BK498:=zA (zB2 hk BK498.out NB498_0.out);replace HK:=zA (kT (yC HK.out GW491.out GW498.out) hk (.inl rfl));replace HB:=zA (hb);replace HI0:=zA (hi);(try clear hb);(try clear hk);(try clear hi);obtain ⟨hcz79_0,hcz79_1,hfz79_0,hfz79_1⟩:=zB3 BK498.out) | (refine zO (some 22) Tryd.func56 #[.pointer (some ⟨g,0,none⟩),.int .i64 t492] ?_;(with_reducible refine (spec_l01Next.calls g s0_0 t503 t504 t492 t520 t521 t522 w0 _ ?side1 ?side2 A61.out).mono ?_);(case side1=>exact Z82.uC HI0.out NB0_491.out NB0_498.out);(case side2=>exact zW HB.out (Z82.ge HI0.out) GE491.out GE498.out);rintro e w80 ⟨rfl,hi,hb,hk⟩;refine ⟨_,rfl,?_⟩;replace BK491:=zA (zB2 hk BK491.out NB491_0.out);replace HO495:=zA (zB9 (Z82.apart (show Z82 w0 _ g s0_0 t503 t504 from Z82.uC HI0.out NB0_491.out NB0_498.out) (zP HO495.out) (by decide)) hk);replace BK498:=zA (zB2 hk BK498.out NB498_0.out);replace HK:=zA (kT (yC HK.out GW491.out GW498.out) hk (.inl rfl));replace HB:=zA (hb);replace HI0:=zA (hi);(try clear hb);(try clear hk);(try clear hi)))
    replace HO495:=zA (zH HO495.out)
    replace BK491:=zA (zK BK491.out)
    replace BK498:=zA (zK BK498.out)
    replace HI0:=zA (Z82.drew HI0.out)
    replace HK:=zA (keep_drew HK.out)
    replace HB:=zA (zD HB.out)
    have p523:0 ≤ (t520:Int):=zd
    have q523:t520 < (t493.length:Int):=zd
    obtain ⟨ad523,e523,hx523_0⟩:=Kd.at_int (kB HO495.out).2.2 t520 p523 q523
    cases e523
    replace p523:=eq_true p523
    replace q523:=eq_true q523
    have p525:0 ≤ (t520:Int):=zd
    have q525:t520 < (t493.length:Int):=zd
    obtain ⟨ad525,e525,hx525_0⟩:=Kd.at_int (kB HO495.out).2.2 t520 p525 q525
    obtain rfl:ad523 = ad525:=(by injection e525)
    replace p525:=eq_true p525
    replace q525:=eq_true q525
    refine start_ (n:=30) (S:=fun w' => w'.cell? ⟨gb498,0,none⟩ = some (.int .i64 t492) ∧ w'.cell? ⟨gb498,1,none⟩ = some (.slice (some ad523) t493.length co76) ∧ w'.cell? (ad523.add (t520).toNat) = some (.int .i64 (rd t493 t520)) ∧ w'.cell? (ad523.add (t520).toNat) = some (.int .i64 (rd t493 t520))) (ds:=[29]) #[false,false,false,false,false,false,false,false,false,false,false,false,false,false,false,false,false,false,false,false,false,false,false,false,false,false,false,false,false,false] (by kernel_rfl) rfl rfl ⟨(kV BK498.out 0).trans rfl,(kV BK498.out 1).trans rfl,hx523_0,hx525_0⟩ (fun hHeld=>?_);refine with_tabW spec_l02Spoil.tab7 spec_l02Spoil.bits7 (fun HT_ HW_=>?_)
    generalize w80.drew = w81 at HO495 BK491 BK498 HI0 HK HB hx523_0 hx525_0 hHeld ⊢
    refine zp 0 (some 23) #[true,false,false,false,false,false,false,false,false,false,false,false,false,false,false,false,false,false,false,false,false,false,false,false,false,false,false,false,false,false] HT_.out ?_
    refine zp 2 (some 25) #[true,false,true,false,false,false,false,false,false,false,false,false,false,false,false,false,false,false,false,false,false,false,false,false,false,false,false,false,false,false] HT_.out ?_
    refine zp 3 (some 26) #[true,false,true,true,false,false,false,false,false,false,false,false,false,false,false,false,false,false,false,false,false,false,false,false,false,false,false,false,false,false] HT_.out ?_
    refine zp 4 (some 27) #[true,false,true,true,true,false,false,false,false,false,false,false,false,false,false,false,false,false,false,false,false,false,false,false,false,false,false,false,false,false] HT_.out ?_
    refine zp 6 (some 29) #[true,false,true,true,true,false,true,false,false,false,false,false,false,false,false,false,false,false,false,false,false,false,false,false,false,false,false,false,false,false] HT_.out ?_
    refine zp 9 (some 32) #[true,false,true,true,true,false,true,false,false,true,false,false,false,false,false,false,false,false,false,false,false,false,false,false,false,false,false,false,false,false] HT_.out ?_
    refine zp 12 (some 35) #[true,false,true,true,true,false,true,false,false,true,false,false,true,false,false,false,false,false,false,false,false,false,false,false,false,false,false,false,false,false] HT_.out ?_
    refine zp 14 (some 37) #[true,false,true,true,true,false,true,false,false,true,false,false,true,false,true,false,false,false,false,false,false,false,false,false,false,false,false,false,false,false] HT_.out ?_
    refine zp 17 (some 40) #[true,false,true,true,true,false,true,false,false,true,false,false,true,false,true,false,false,true,false,false,false,false,false,false,false,false,false,false,false,false] HT_.out ?_
    refine zp 21 (some 44) #[true,false,true,true,true,false,true,false,false,true,false,false,true,false,true,false,false,true,false,false,false,true,false,false,false,false,false,false,false,false] HT_.out ?_
    refine zp 22 (some 45) #[true,false,true,true,true,false,true,false,false,true,false,false,true,false,true,false,false,true,false,false,false,true,true,false,false,false,false,false,false,false] HT_.out ?_
    refine zf 1 (some 24) #[true,true,true,true,true,false,true,false,false,true,false,false,true,false,true,false,false,true,false,false,false,true,true,false,false,false,false,false,false,false] HT_.out HW_.out hHeld ?_
    refine zf 5 (some 28) #[true,true,true,true,true,true,true,false,false,true,false,false,true,false,true,false,false,true,false,false,false,true,true,false,false,false,false,false,false,false] HT_.out HW_.out hHeld ?_
    refine zp 7 (some 30) #[true,true,true,true,true,true,true,true,false,true,false,false,true,false,true,false,false,true,false,false,false,true,true,false,false,false,false,false,false,false] HT_.out ?_
    refine zf 8 (some 31) #[true,true,true,true,true,true,true,true,true,true,false,false,true,false,true,false,false,true,false,false,false,true,true,false,false,false,false,false,false,false] HT_.out HW_.out hHeld ?_
    refine zf 13 (some 36) #[true,true,true,true,true,true,true,true,true,true,false,false,true,true,true,false,false,true,false,false,false,true,true,false,false,false,false,false,false,false] HT_.out HW_.out hHeld ?_
    refine zp 15 (some 38) #[true,true,true,true,true,true,true,true,true,true,false,false,true,true,true,true,false,true,false,false,false,true,true,false,false,false,false,false,false,false] HT_.out ?_
    refine zf 16 (some 39) #[true,true,true,true,true,true,true,true,true,true,false,false,true,true,true,true,true,true,false,false,false,true,true,false,false,false,false,false,false,false] HT_.out HW_.out hHeld ?_
    refine zf 18 (some 41) #[true,true,true,true,true,true,true,true,true,true,false,false,true,true,true,true,true,true,true,false,false,true,true,false,false,false,false,false,false,false] HT_.out HW_.out hHeld ?_
    refine zf 23 (some 46) #[true,true,true,true,true,true,true,true,true,true,false,false,true,true,true,true,true,true,true,false,false,true,true,true,false,false,false,false,false,false] HT_.out HW_.out hHeld ?_
    refine one_ (i:=10) (N:=some 33) #[true,true,true,true,true,true,true,true,true,true,true,false,true,true,true,true,true,true,true,false,false,true,true,true,false,false,false,false,false,false] rfl rfl (one_of HT_.out (by kernel_rfl)) (by decide) (fun K hK=>?_)
    refine goes_ Tryd.func66 (by kernel_rfl) rfl #[.int .i64 t520] (by rfl) rfl rfl zg ?_
    with_reducible refine (spec_l01One.calls t520 t524 _ A64.out).mono ?_
    rintro e w' ⟨rfl,⟨nd,rfl⟩⟩
    refine ⟨_,rfl,?_⟩
    refine hK.out _ _ ⟨(kV BK498.out 0).trans rfl,(kV BK498.out 1).trans rfl,hHeld.2.2.1,hHeld.2.2.2⟩ (fun hHeld=>?_)
    clear hK K
    refine norm_ (a' := ?_) ?_ ?_
    rotate_left
    ·show Act.put _ (some 33) _ = _
     simp only [Act.put,zL,zM,zN,i64_w,i32_w]
     rfl
    refine zp 11 (some 34) #[true,true,true,true,true,true,true,true,true,true,true,true,true,true,true,true,true,true,true,false,false,true,true,true,false,false,false,false,false,false] HT_.out ?_
    refine one_ (i:=19) (N:=some 42) #[true,true,true,true,true,true,true,true,true,true,true,true,true,true,true,true,true,true,true,true,false,true,true,true,false,false,false,false,false,false] rfl rfl (one_of HT_.out (by kernel_rfl)) (by decide) (fun K hK=>?_)
    refine goes_ Tryd.func66 (by kernel_rfl) rfl #[.int .i64 t492] (by rfl) rfl rfl zg ?_
    with_reducible refine (spec_l01One.calls t492 t526 _ A65.out).mono ?_
    rintro e w' ⟨rfl,⟨nd,rfl⟩⟩
    refine ⟨_,rfl,?_⟩
    refine hK.out _ _ ⟨(kV BK498.out 0).trans rfl,(kV BK498.out 1).trans rfl,hHeld.2.2.1,hHeld.2.2.2⟩ (fun hHeld=>?_)
    clear hK K
    refine norm_ (a' := ?_) ?_ ?_
    rotate_left
    ·show Act.put _ (some 42) _ = _
     simp only [Act.put,zL,zM,zN,i64_w,i32_w]
     rfl
    refine zp 20 (some 43) #[true,true,true,true,true,true,true,true,true,true,true,true,true,true,true,true,true,true,true,true,true,true,true,true,false,false,false,false,false,false] HT_.out ?_
    refine one_ (i:=24) (N:=some 47) #[true,true,true,true,true,true,true,true,true,true,true,true,true,true,true,true,true,true,true,true,true,true,true,true,true,false,false,false,false,false] rfl rfl (one_of HT_.out (by kernel_rfl)) (by decide) (fun K hK=>?_)
    refine goes_ Tryd.func66 (by kernel_rfl) rfl #[.int .i64 t492] (by rfl) rfl rfl zg ?_
    with_reducible refine (spec_l01One.calls t492 t527 _ A66.out).mono ?_
    rintro e w' ⟨rfl,⟨nd,rfl⟩⟩
    refine ⟨_,rfl,?_⟩
    refine hK.out _ _ ⟨(kV BK498.out 0).trans rfl,(kV BK498.out 1).trans rfl,hHeld.2.2.1,hHeld.2.2.2⟩ (fun hHeld=>?_)
    clear hK K
    refine norm_ (a' := ?_) ?_ ?_
    rotate_left
    ·show Act.put _ (some 47) _ = _
     simp only [Act.put,zL,zM,zN,i64_w,i32_w]
     rfl
    refine one_ (i:=25) (N:=some 48) #[true,true,true,true,true,true,true,true,true,true,true,true,true,true,true,true,true,true,true,true,true,true,true,true,true,true,false,false,false,false] rfl rfl (one_of HT_.out (by kernel_rfl)) (by decide) (fun K hK=>?_)
    refine goes_ Tryd.func56 (by kernel_rfl) rfl #[.pointer (some ⟨g,0,none⟩),.int .i64 t527] (by rfl) rfl rfl zg ?_
    with_reducible refine (spec_l01Next.calls g s0_0 t521 t522 t527 t528 t529 t530 w0 _ ?side1 ?side2 A67.out).mono ?_
    (case side1=>exact Z82.uC HI0.out NB0_491.out NB0_498.out)
    (case side2=>exact zW HB.out (Z82.ge HI0.out) GE491.out GE498.out)
    rintro e w82 ⟨rfl,hi,hb,hk⟩
    have HS2_:=keep_cell hk (hHeld.2.2.1) (by first | (rw [add_block];exact Kd.own_blk (Z82.own_ne HI0.out HO495.out (by decide))) | (show (Addr.add _ _).block ≠ _;rw [add_block];exact Kd.own_blk (Z82.own_ne HI0.out HO495.out (by decide))) | exact Kd.own_blk (Z82.own_ne HI0.out HO495.out (by decide)))
    have HS3_:=keep_cell hk (hHeld.2.2.2) (by first | (rw [add_block];exact Kd.own_blk (Z82.own_ne HI0.out HO495.out (by decide))) | (show (Addr.add _ _).block ≠ _;rw [add_block];exact Kd.own_blk (Z82.own_ne HI0.out HO495.out (by decide))) | exact Kd.own_blk (Z82.own_ne HI0.out HO495.out (by decide)))
    refine ⟨_,rfl,?_⟩
    replace BK491:=zA (zB2 hk BK491.out NB491_0.out)
    replace HO495:=zA (zB9 (Z82.apart (show Z82 w0 _ g s0_0 t521 t522 from Z82.uC HI0.out NB0_491.out NB0_498.out) (zP HO495.out) (by decide)) hk)
    replace BK498:=zA (zB2 hk BK498.out NB498_0.out)
    replace HK:=zA (kT (yC HK.out GW491.out GW498.out) hk (.inl rfl))
    replace HB:=zA (hb)
    replace HI0:=zA (hi)
    (try clear hb)
    (try clear hb2)
    (try clear hk)
    (try clear hi)
    (try clear hgw)
    refine hK.out _ _ ⟨(kV BK498.out 0).trans rfl,(kV BK498.out 1).trans rfl,HS2_,HS3_⟩ (fun hHeld=>?_)
    clear hK K
    refine norm_ (a' := ?_) ?_ ?_
    rotate_left
    ·show Act.put _ (some 48) _ = _
     simp only [Act.put,zL,zM,zN,i64_w,i32_w]
     rfl
    refine one_ (i:=26) (N:=some 49) #[true,true,true,true,true,true,true,true,true,true,true,true,true,true,true,true,true,true,true,true,true,true,true,true,true,true,true,false,false,false] rfl rfl (one_of HT_.out (by kernel_rfl)) (by decide) (fun K hK=>?_)
    refine Kd.R_lit_step (Kd.int .i64) _ 2 ?hg (N:=49) ?hd (xs:=([wrap64 ((rd t493 t520) - t524),Go.bits .or .i64 (rd t493 t520) t526,t528,(-1)]:List Int)) (inner:=[.int .i64 (wrap64 ((rd t493 t520) - t524)),.int .i64 (Go.bits .or .i64 (rd t493 t520) t526),.int .i64 t528,.int .i64 (-1)]) (ok:=fun _=>True) (okp:=fun _=>True) ?hr ?hp (fun _ hk=>hk) trivial (kW _ _) (Nat.le_refl _) (by simp) ?_;(case hd=>rfl);(case hg=>rfl);(case hr=>first | (go_simp;done) | (go_simp;rfl));(case hp=>exact (Reps.one (show Kd.M (Kd.int .i64) _ _ _ (wrap64 ((rd t493 t520) - t524)) [.int .i64 (wrap64 ((rd t493 t520) - t524))] from rfl) (Reps.one (show Kd.M (Kd.int .i64) _ _ _ (Go.bits .or .i64 (rd t493 t520) t526) [.int .i64 (Go.bits .or .i64 (rd t493 t520) t526)] from rfl) (Reps.one (show Kd.M (Kd.int .i64) _ _ _ t528 [.int .i64 t528] from rfl) (Reps.one (show Kd.M (Kd.int .i64) _ _ _ (-1) [.int .i64 (-1)] from rfl) (Reps.none _ _))))))
    intro v532 w83 ho84 hb hg_ hnew_
    have HS2_:=(hb.cell (jG _ _ (hHeld.2.2.1))).trans (hHeld.2.2.1)
    have HS3_:=(hb.cell (jG _ _ (hHeld.2.2.2))).trans (hHeld.2.2.2)
    clear hg_ hnew_
    (first | rw [← Ny531.out] at ho84 | (simp only [Int.reduceToNat] at ho84;rw [← Ny531.out] at ho84))
    have HO533:=zA (kI (kF ho84 (kH (zP HO495.out))) (kX (w:=w) (g:=g) (row:=none) (yC HK.out GW491.out GW498.out)))
    replace HO495:=zA (kE (zP HO495.out) (kC ho84) hb)
    replace BK491:=zA (zB1 BK491.out hb)
    replace BK498:=zA (zB1 BK498.out hb)
    replace HK:=zA (kT (yC HK.out GW491.out GW498.out) (kU hb g none) (.inl rfl))
    replace HB:=zA (kQ (zW HB.out (Z82.ge HI0.out) GE491.out GE498.out) hb)
    replace HI0:=zA (Z82.below (Z82.uC HI0.out NB0_491.out NB0_498.out) hb)
    clear hb ho84
    obtain ⟨Ao85,co85,eo85⟩:=kM HO533.out
    (first | subst eo85 | (injection eo85 with f1_ f2_ f3_;have f4_:=f1_.symm;have f5_:=f3_.symm;clear f1_ f2_ f3_;subst f4_;subst f5_))
    refine hK.out _ _ ⟨(kV BK498.out 0).trans rfl,(kV BK498.out 1).trans rfl,HS2_,HS3_⟩ (fun hHeld=>?_)
    clear hK K
    refine norm_ (a' := ?_) ?_ ?_
    rotate_left
    ·show Act.put _ (some 49) _ = _
     simp only [Act.put,zL,zM,zN,i64_w,i32_w]
     rfl
    refine one_ (i:=27) (N:=some 50) #[true,true,true,true,true,true,true,true,true,true,true,true,true,true,true,true,true,true,true,true,true,true,true,true,true,true,true,true,false,false] rfl rfl (one_of HT_.out (by kernel_rfl)) (by decide) (fun K hK=>?_)
    refine goes_ Tryd.func74 (by kernel_rfl) rfl #[.pointer (some ⟨g,0,none⟩),.slice Ao85 y531.length co85] (by rfl) rfl rfl zg ?_
    with_reducible refine (spec_l01Pick.calls g s0_0 t529 t530 _ _ y531 t534 t535 t536 w0 _ ?side1 ?side2 ?side3 ?side4 ?side5 A68.out).mono ?_
    (case side1=>exact Z82.uC HI0.out NB0_491.out NB0_498.out)
    (case side2=>exact zW HB.out (Z82.ge HI0.out) GE491.out GE498.out)
    (case side3=>exact zS (kB HO533.out).2.2)
    (case side4=>exact (kB HO533.out).2.1)
    (case side5=>exact jJ (Z82.own_ne HI0.out HO533.out (by decide)))
    rintro e w86 ⟨rfl,hi,hb,hk⟩
    have HS2_:=keep_cell hk (hHeld.2.2.1) (by first | (rw [add_block];exact Kd.own_blk (Z82.own_ne HI0.out HO495.out (by decide))) | (show (Addr.add _ _).block ≠ _;rw [add_block];exact Kd.own_blk (Z82.own_ne HI0.out HO495.out (by decide))) | exact Kd.own_blk (Z82.own_ne HI0.out HO495.out (by decide)))
    have HS3_:=keep_cell hk (hHeld.2.2.2) (by first | (rw [add_block];exact Kd.own_blk (Z82.own_ne HI0.out HO495.out (by decide))) | (show (Addr.add _ _).block ≠ _;rw [add_block];exact Kd.own_blk (Z82.own_ne HI0.out HO495.out (by decide))) | exact Kd.own_blk (Z82.own_ne HI0.out HO495.out (by decide)))
    refine ⟨_,rfl,?_⟩
    replace BK491:=zA (zB2 hk BK491.out NB491_0.out)
    replace HO495:=zA (zB9 (Z82.apart (show Z82 w0 _ g s0_0 t529 t530 from Z82.uC HI0.out NB0_491.out NB0_498.out) (zP HO495.out) (by decide)) hk)
    replace BK498:=zA (zB2 hk BK498.out NB498_0.out)
    replace HO533:=zA (zB9 (Z82.apart (show Z82 w0 _ g s0_0 t529 t530 from Z82.uC HI0.out NB0_491.out NB0_498.out) (zP HO533.out) (by decide)) hk)
    replace HK:=zA (kT (yC HK.out GW491.out GW498.out) hk (.inl rfl))
    replace HB:=zA (hb)
    replace HI0:=zA (hi)
    (try clear hb)
    (try clear hb2)
    (try clear hk)
    (try clear hi)
    (try clear hgw)
    have p69:0 ≤ (t520:Int):=zd
    have q69:(t520:Int) < ((t493.length:Int):Int):=zd
    obtain ⟨go69,co69,eo69,gb69,gl69,cl69,HG69⟩:=Kd.R_form HO495.out (by omega)
    (first | cases eo69 | (injection eo69 with ea_ en_ ec_;(first | subst ea_ | (injection ea_ with ea_;subst ea_));subst ec_;clear en_))
    have GB69:=zA gb69
    have GG69:=zA HG69
    clear gb69 gl69 HG69
    (first | simp only [add_plain] at hx523_0 | skip)
    (first | simp only [add_plain] at hx525_0 | skip)
    obtain ⟨hx69_0,hf69_0⟩:=Kd.R_celln 0 HO495.out (t520:Int) p69 q69
    replace p69:=eq_true p69
    replace q69:=eq_true q69
    have HN0_go69:=zA (show g ≠ go69 from by have h_:=Z82.own_ne HI0.out HO495.out (by decide);intro e_;exact h_ (by rw [e_];rfl))
    have HP87:=Kd.R_putn HO495.out (t520:Int) t534
    rw [← Ny537.out] at HP87
    have HQ87:=zA HP87
    clear HP87
    refine hK.out _ _ ⟨(kV BK498.out 0).trans rfl,(kV BK498.out 1).trans rfl,HS2_,HS3_⟩ (fun hHeld=>?_)
    clear hK K
    refine norm_ (a' := ?_) ?_ ?_
    rotate_left
    ·show Act.put _ (some 50) _ = _
     simp only [Act.put,zL,zM,zN,i64_w,i32_w]
     rfl
    refine zp 28 (some 51) #[true,true,true,true,true,true,true,true,true,true,true,true,true,true,true,true,true,true,true,true,true,true,true,true,true,true,true,true,true,false] HT_.out ?_
    refine last_ (i:=29) (N:=none) #[true,true,true,true,true,true,true,true,true,true,true,true,true,true,true,true,true,true,true,true,true,true,true,true,true,true,true,true,true,true] rfl rfl (one_of HT_.out (by kernel_rfl)) (by decide) (fun K hK=>?_)
    refine skip_ (w1:=?_) (by rfl) rfl ?_ ?_
    rotate_left
    ·go_simp
     rfl
    refine hK.out _ _ ?_
    clear hK K
    refine done_ (done_of HT_.out (by kernel_rfl)) ?_
    have n0_:Aside0 (Kd.R (Kd.int .i64) 2 (w86.setCell ⟨go69,(t520:Int).toNat,none⟩ (.int .i64 t534)) w.heap.size (fun k_=>some k_ ≠ (.slice Ao85 y531.length co85:Value).ownBlock) (.slice (some ⟨go69,0,none⟩) t493.length co76) y537):=⟨zPM HQ87.out (fun _ hk=>hk.2)⟩
    have n1_:Aside0 (Kd.R (Kd.int .i64) 2 (w86.setCell ⟨go69,(t520:Int).toNat,none⟩ (.int .i64 t534)) w.heap.size (fun k_=>some k_ ≠ (.slice (some ⟨go69,0,none⟩) t493.length co76:Value).ownBlock) (.slice Ao85 y531.length co85) y531):=⟨by (with_reducible repeat (first | apply zF | apply zG | apply zH));exact kA (kY (p:=⟨go69,(t520:Int).toNat,none⟩) (kA HO533.out (fun k_ hk=>(⟨hk,fun e_=>hk.2 (by rw [e_];rfl)⟩:_ ∧ k_ ≠ go69))) (fun _ hk=>hk.2) (.int .i64 t534)) (fun _ hk=>hk.1.2)⟩
    have n2_:Aside0 ((w86.setCell ⟨go69,(t520:Int).toNat,none⟩ (.int .i64 t534)).heap[gb491]? = some (.cells #[.int .i64 0,.slice none 0 0] 28 (0,0))):=⟨by (with_reducible repeat (first | refine zJ ?_ _ | refine zK ?_ | refine zI ?_ _));refine blk_far ?_ (by have h_:=Kd.R_ne HO495.out BK491.out (by decide);intro e_;exact h_ (by rw [e_];rfl)) _;(with_reducible repeat (first | refine zJ ?_ _ | refine zK ?_ | refine zI ?_ _));exact BK491.out⟩
    have n3_:Aside0 ((w86.setCell ⟨go69,(t520:Int).toNat,none⟩ (.int .i64 t534)).heap[gb498]? = some (.cells #[.int .i64 t492,.slice (some ⟨go69,0,none⟩) t493.length co76] 28 (0,0))):=⟨by (with_reducible repeat (first | refine zJ ?_ _ | refine zK ?_ | refine zI ?_ _));refine blk_far ?_ (by have h_:=Kd.R_ne HO495.out BK498.out (by decide);intro e_;exact h_ (by rw [e_];rfl)) _;(with_reducible repeat (first | refine zJ ?_ _ | refine zK ?_ | refine zI ?_ _));exact BK498.out⟩
    have n4_:Aside0 (Z82 w0 (w86.setCell ⟨go69,(t520:Int).toNat,none⟩ (.int .i64 t534)) g s0_0 t535 t536):=⟨by repeat (first | (with_reducible first | exact HI0.out | apply Z82.alloc | apply Z82.drewN | apply Z82.drew | apply Z82.set_1 | apply Z82.set_2 | refine Z82.far ?_ HN0_go69.out _ | refine Z82.far ?_ NB0_491.out _ | refine Z82.far ?_ NB0_498.out _) | exact HI0.out)⟩
    have n5_:Aside0 (KeepBut w (w86.setCell ⟨go69,(t520:Int).toNat,none⟩ (.int .i64 t534)) g none):=⟨by repeat (first | (with_reducible first | exact HK.out | apply KeepBut.set_ | apply keep_drewN | apply keep_drew | apply keep_alloc | refine keep_far ?_ GB69.out _ | refine keep_far ?_ GW491.out _ | refine keep_far ?_ GW498.out _) | exact HK.out)⟩
    have n6_:Aside0 (Below w0.heap.size w0 (w86.setCell ⟨go69,(t520:Int).toNat,none⟩ (.int .i64 t534))):=⟨by repeat (first | (with_reducible first | exact HB.out | apply zB | apply zC | apply zD | refine zE ?_ (Nat.le_trans HL.out GB69.out) | refine zE ?_ (Z82.ge HI0.out) | refine zE ?_ GE491.out | refine zE ?_ GE498.out) | exact HB.out)⟩
    (try clear HO495)
    (try clear HO533)
    (try clear BK491)
    (try clear BK498)
    (try clear HI0)
    (try clear HK)
    (try clear HB)
    generalize (w86.setCell ⟨go69,(t520:Int).toNat,none⟩ (.int .i64 t534)) = w88 at n0_ n1_ n2_ n3_ n4_ n5_ n6_ ⊢
    have HO495:=n0_
    have HO533:=n1_
    have BK491:=n2_
    have BK498:=n3_
    have HI0:=n4_
    have HK:=n5_
    have HB:=n6_
    clear n0_ n1_ n2_ n3_ n4_ n5_ n6_
    obtain ⟨hcz89_0,hcz89_1,hfz89_0,hfz89_1⟩:=zB3 BK498.out
    have hnb90:=NB491_0.out
    have hnc90:=NB0_491.out
    obtain ⟨hcz91_0,hcz91_1,hfz91_0,hfz91_1⟩:=zB3 BK491.out
    try go_wp2
    refine bodyPost_ret (results_cell_row rfl _ _ gb491 28 #[.int .i64 t492,.slice (some ⟨go69,0,none⟩) t493.length co76] (0,0) _ rfl (zRP BK491.out) Tryd.underlying28 rfl (by kernel_rfl)) rfl ?_
    exact ⟨_,zr,by (with_reducible repeat (first | apply zF | apply zG | apply zH));exact kA (kY (p:=⟨gb491,1,none⟩) (kY (p:=⟨gb491,0,none⟩) (kD HO495.out BK491.out (by decide)) (fun _ hk=>hk.2) (.int .i64 t492)) (fun _ hk=>hk.2) (.slice (some ⟨go69,0,none⟩) t493.length co76)) (fun _ hk=>trivial),by repeat (first | (with_reducible first | exact HI0.out | apply Z82.alloc | apply Z82.drewN | apply Z82.drew | apply Z82.set_1 | apply Z82.set_2 | refine Z82.far ?_ NB0_491.out _ | refine Z82.far ?_ NB0_498.out _) | exact HI0.out),zW HB.out (Z82.ge HI0.out) GE491.out GE498.out,by repeat (first | (with_reducible first | exact HK.out | apply KeepBut.set_ | apply keep_drewN | apply keep_drew | apply keep_alloc | refine keep_far ?_ GW491.out _ | refine keep_far ?_ GW498.out _) | exact HK.out)⟩
   rw [if_neg c63] at H
   exact absurd H (by simp)
  rw [if_neg c62] at H
  exact absurd H (by simp)
 rw [if_neg c60] at H
 have c60b0:decide (0 < t492) = false:=decide_eq_false c60
 clear c60
 simp only [Option.some.injEq,Prod.mk.injEq] at H
 obtain ⟨rfl,rfl,rfl,rfl⟩:=H
 go_enter Tryd.func57,Tryd.ntmps57
 go_wp2_with (first | (refine zBE 4 #[.int .i64 0,.slice none 0 0] 28 ?_;intro gb491 hg w92 hbox hb;replace HB:=zA (kQ (zT HB.out (Z82.ge HI0.out)) hb);have BK491:=zA (hbox);have GW491:=zA (zB6 hg (kX (w:=w) (g:=g) (row:=none) (yA HK.out)):w.heap.size ≤ gb491);have GE491:=zA ((Nat.le_trans HW0.out (by rw [hg];exact (kX (w:=w) (g:=g) (row:=none) (yA HK.out)):w.heap.size ≤ gb491):w0.heap.size ≤ gb491));replace HK:=zA (kT (yA HK.out) (kU hb g none) (.inl rfl));have NB0_491:=zA (zB7 hg (Z82.lt (show Z82 w0 _ g s0_0 s0_1 s0_2 from Z82.uA HI0.out)):g ≠ gb491);have NB491_0:=zA (zB8 hg (Z82.lt (show Z82 w0 _ g s0_0 s0_1 s0_2 from Z82.uA HI0.out)):gb491 ≠ g);replace HI0:=zA (Z82.below (Z82.uA HI0.out) hb);clear hb hbox hg) | (refine zO (some 9) Tryd.func55 #[.pointer (some ⟨g,0,none⟩),.int .i64 a1] ?_;(with_reducible refine (spec_l02Draw.calls k g s0_0 s0_1 s0_2 a1 t492 t493 t496 t497 w0 _ ?side1 ?side2 A3.out).mono ?_);(case side1=>exact Z82.uB HI0.out NB0_491.out);(case side2=>exact zV HB.out (Z82.ge HI0.out) GE491.out);rintro e w93 ⟨v494,rfl,ho0,hi,hb,hk⟩;refine ⟨_,rfl,?_⟩;replace BK491:=zA (zB2 hk BK491.out NB491_0.out);have HO495:=zA (kI ho0 (kX (w:=w) (g:=g) (row:=none) (yB HK.out GW491.out)));replace HK:=zA (kT (yB HK.out GW491.out) hk (.inl rfl));replace HB:=zA (hb);replace HI0:=zA (hi);(try clear hb);(try clear hk);(try clear hi);(try clear ho0)) | (refine zBE 5 #[.int .i64 0,.slice none 0 0] 28 ?_;intro gb498 hg w94 hbox hb;replace HO495:=zA (kL (zP HO495.out) hb);replace HB:=zA (kQ (zV HB.out (Z82.ge HI0.out) GE491.out) hb);have BK498:=zA (hbox);have GW498:=zA (zB6 hg (kX (w:=w) (g:=g) (row:=none) (yB HK.out GW491.out)):w.heap.size ≤ gb498);have GE498:=zA ((Nat.le_trans HW0.out (by rw [hg];exact (kX (w:=w) (g:=g) (row:=none) (yB HK.out GW491.out)):w.heap.size ≤ gb498):w0.heap.size ≤ gb498));replace HK:=zA (kT (yB HK.out GW491.out) (kU hb g none) (.inl rfl));have NB491_498:=zA (zB4 hg BK491.out:gb491 ≠ gb498);have NB498_491:=zA (zB5 hg BK491.out:gb498 ≠ gb491);replace BK491:=zA (zB1 BK491.out hb);have NB0_498:=zA (zB7 hg (Z82.lt (show Z82 w0 _ g s0_0 t496 t497 from Z82.uB HI0.out NB0_491.out)):g ≠ gb498);have NB498_0:=zA (zB8 hg (Z82.lt (show Z82 w0 _ g s0_0 t496 t497 from Z82.uB HI0.out NB0_491.out)):gb498 ≠ g);replace HI0:=zA (Z82.below (Z82.uB HI0.out NB0_491.out) hb);clear hb hbox hg;have hnb95:=NB498_491.out;have hnc95:=NB491_498.out;have hnb96:=NB498_0.out;have hnc96:=NB0_498.out;obtain ⟨hcz97_0,hcz97_1,hfz97_0,hfz97_1⟩:=zB3 BK498.out;obtain ⟨Ao98,co98,eo98⟩:=kM HO495.out;subst eo98) | (refine zO (some 11) Tryd.func56 #[.pointer (some ⟨g,0,none⟩),.int .i64 14] ?_;(with_reducible refine (spec_l01Next.calls g s0_0 t496 t497 14 t499 t500 t501 w0 _ ?side1 ?side2 A4.out).mono ?_);(case side1=>exact Z82.uC HI0.out NB0_491.out NB0_498.out);(case side2=>exact zW HB.out (Z82.ge HI0.out) GE491.out GE498.out);rintro e w99 ⟨rfl,hi,hb,hk⟩;refine ⟨_,rfl,?_⟩;replace BK491:=zA (KeepBut.blk hk (g' := gb491) (o:=.cells #[.int .i64 0,.slice none 0 0] 28 (0,0)) (zBG BK491.out NB491_498.out NB491_498.out) NB491_0.out (by simp));replace HO495:=zA (kA (Kd.R_keep (Z82.apart (show Z82 w0 _ g s0_0 t496 t497 from Z82.uC HI0.out NB0_491.out NB0_498.out) (zP (zFG HO495.out BK498.out (.int .i64 t492) (.slice Ao98 t493.length co98))) (by decide)) hk (fun _ h=>h.2)) (fun _ h=>h.1));replace BK498:=zA (KeepBut.blk hk (g' := gb498) (o:=.cells #[.int .i64 t492,.slice Ao98 t493.length co98] 28 (0,0)) (zRP BK498.out) NB498_0.out (by simp));replace HK:=zA (kT (yC HK.out GW491.out GW498.out) hk (.inl rfl));replace HB:=zA (hb);replace HI0:=zA (hi);(try clear hb);(try clear hk);(try clear hi)) | (refine zO (some 15) Tryd.func56 #[.pointer (some ⟨g,0,none⟩),.int .i64 4] ?_;(with_reducible refine (spec_l01Next.calls g s0_0 t500 t501 4 t502 t503 t504 w0 _ ?side1 ?side2 A17.out).mono ?_);(case side1=>exact Z82.uC HI0.out NB0_491.out NB0_498.out);(case side2=>exact zW HB.out (Z82.ge HI0.out) GE491.out GE498.out);rintro e w100 ⟨rfl,hi,hb,hk⟩;refine ⟨_,rfl,?_⟩;replace BK491:=zA (zB2 hk BK491.out NB491_0.out);replace HO495:=zA (zB9 (Z82.apart (show Z82 w0 _ g s0_0 t500 t501 from Z82.uC HI0.out NB0_491.out NB0_498.out) (zP HO495.out) (by decide)) hk);replace BK498:=zA (zB2 hk BK498.out NB498_0.out);replace HK:=zA (kT (yC HK.out GW491.out GW498.out) hk (.inl rfl));replace HB:=zA (hb);replace HI0:=zA (hi);(try clear hb);(try clear hk);(try clear hi);obtain ⟨hcz101_0,hcz101_1,hfz101_0,hfz101_1⟩:=zB3 BK498.out;have hnb102:=NB491_0.out;have hnc102:=NB0_491.out;obtain ⟨hcz103_0,hcz103_1,hfz103_0,hfz103_1⟩:=zB3 BK491.out))
 refine bodyPost_ret (results_cell_row rfl _ _ gb491 28 #[.int .i64 t492,.slice Ao98 t493.length co98] (0,0) _ rfl (zRP BK491.out) Tryd.underlying28 rfl (by kernel_rfl)) rfl ?_
 exact ⟨_,zr,by (with_reducible repeat (first | apply zF | apply zG | apply zH));exact kA (kY (p:=⟨gb491,1,none⟩) (kY (p:=⟨gb491,0,none⟩) (kD HO495.out BK491.out (by decide)) (fun _ hk=>hk.2) (.int .i64 t492)) (fun _ hk=>hk.2) (.slice Ao98 t493.length co98)) (fun _ hk=>trivial),by repeat (first | (with_reducible first | exact HI0.out | apply Z82.alloc | apply Z82.drewN | apply Z82.drew | apply Z82.set_1 | apply Z82.set_2 | refine Z82.far ?_ NB0_491.out _ | refine Z82.far ?_ NB0_498.out _) | exact HI0.out),zW HB.out (Z82.ge HI0.out) GE491.out GE498.out,by repeat (first | (with_reducible first | exact HK.out | apply KeepBut.set_ | apply keep_drewN | apply keep_drew | apply keep_alloc | refine keep_far ?_ GW491.out _ | refine keep_far ?_ GW498.out _) | exact HK.out)⟩
def spec_l03Draw.l0:Nat → List Int → Int → List Int → Int → Int → Int → List Int → Option (List Int × Int × Int)
 | 0,_,_,_,_,_,_,_=>none
 | k + 1,x7,x8,x1000,x1001,x1002,x539000,x539001=>if x8 > 0 then (if (x7.length:Int) > 0 then ((spec_l01Next.f x1000 x1001 x1002 8).bind fun bt545=>(if bt545.1 = 0 then (if 0 ≤ (wrap64 ((x7.length:Int) - 1)) then (if (wrap64 ((x7.length:Int) - 1)) < (x7.length:Int) then (if x7.length < 17592186044416 then (spec_l03Draw.l0 k (x7 ++ [rd x7 (wrap64 ((x7.length:Int) - 1))]) (wrap64 (x8 - 1)) x1000 bt545.2.1 bt545.2.2 x539000 x539001) else (none)) else (none)) else (none)) else ((spec_l01Next.f x1000 bt545.2.1 bt545.2.2 x539000).bind fun bt552=>(if x7.length < 17592186044416 then (spec_l03Draw.l0 k (x7 ++ [bt552.1]) (wrap64 (x8 - 1)) x1000 bt552.2.1 bt552.2.2 x539000 x539001) else (none))))) else ((spec_l01Next.f x1000 x1001 x1002 x539000).bind fun bt558=>(if x7.length < 17592186044416 then (spec_l03Draw.l0 k (x7 ++ [bt558.1]) (wrap64 (x8 - 1)) x1000 bt558.2.1 bt558.2.2 x539000 x539001) else (none)))) else (some (x7,x1001,x1002))
def spec_l03Draw.f (k:Nat) (s0_0:List Int) (s0_1:Int) (s0_2:Int) (a1_0:Int) (l1_1:List Int) (a2:Int):Option (List Int × Int × Int):=(some (([]:List Int):List Int)).bind fun y539=>(if a1_0 = 0 then (some (y539,s0_1,s0_2)) else ((spec_l01Next.f s0_0 s0_1 s0_2 (wrap64 (a2 + 1))).bind fun bt542=>(spec_l03Draw.l0 k y539 bt542.1 s0_0 bt542.2.1 bt542.2.2 a1_0 l1_1)))
set_option maxHeartbeats 8000000 in
set_option maxRecDepth 100000 in
theorem spec_l03Draw.calls (k:Nat) (g:Nat) (s0_0:List Int) (s0_1:Int) (s0_2:Int) (a1_0:Int) (A1_1:Option Addr) (c1_1:Nat) (l1_1:List Int) (a2:Int) (r1:List Int) (r2:Int) (r3:Int) (w0 w:World) (hI:Z82 w0 w g s0_0 s0_1 s0_2) (hB:Below w0.heap.size w0 w) (hr1_1:Kd.C (Kd.int .i64) w A1_1 l1_1.length l1_1) (hc1_1:l1_1.length ≤ c1_1) (hf1_1:∀ ad,A1_1 = some ad → 0 < l1_1.length → ad.block ≠ g) (h:spec_l03Draw.f k s0_0 s0_1 s0_2 a1_0 l1_1 a2 = some (r1,r2,r3)) :
  Calls Tryd.prog 76 #[.pointer (some ⟨g,0,none⟩),.agg #[.int .i64 a1_0,.slice A1_1 l1_1.length c1_1],.int .i64 a2] w fun e w' => ∃ v0_:Value,e = .returned (v0_) ∧ Kd.R (Kd.int .i64) 2 w' w.heap.size (fun _=>True) v0_ r1 ∧ Z82 w0 w' g s0_0 r2 r3 ∧ Below w0.heap.size w0 w' ∧ KeepBut w w' g none:=by
 have hu28:=Tryd.underlying28
 have HR1_1:=zA hr1_1
 have HC1_1:=zA hc1_1
 clear hr1_1 hc1_1
 have HI0:=zA hI
 have HK:=zA (KeepBut.refl w g none)
 have HL:=zA hB.size
 clear hI
 have HW0:=zA hB.size
 have HB:=zA hB
 clear hB
 have H:=h
 unfold spec_l03Draw.f at H
 clear h
 obtain ⟨y539,hy539⟩:∃ y_:List Int,y_ = (([]:List Int)):=⟨_,rfl⟩
 replace H:(if a1_0 = 0 then (some (y539,s0_1,s0_2)) else ((spec_l01Next.f s0_0 s0_1 s0_2 (wrap64 (a2 + 1))).bind fun bt542=>(spec_l03Draw.l0 k y539 bt542.1 s0_0 bt542.2.1 bt542.2.2 a1_0 l1_1))) = some (r1,r2,r3):=zy hy539 H
 have Ny539:=zA hy539
 clear hy539
 by_cases c4:a1_0 = 0
 ·rw [if_pos c4] at H
  obtain ⟨c4b0,c4b1⟩:=zT1 c4
  clear c4
  simp only [Option.some.injEq,Prod.mk.injEq] at H
  obtain ⟨rfl,rfl,rfl⟩:=H
  go_enter Tryd.func76,Tryd.ntmps76
  go_wp2_with (first | (refine zBE 4 #[.int .i64 a1_0,.slice A1_1 l1_1.length c1_1] 28 ?_;intro gb538 hg w5 hbox hb;replace HB:=zA (kQ (zT HB.out (Z82.ge HI0.out)) hb);have BK538:=zA (hbox);have GW538:=zA (zB6 hg (kX (w:=w) (g:=g) (row:=none) (yA HK.out)):w.heap.size ≤ gb538);have GE538:=zA ((Nat.le_trans HW0.out (by rw [hg];exact (kX (w:=w) (g:=g) (row:=none) (yA HK.out)):w.heap.size ≤ gb538):w0.heap.size ≤ gb538));replace HK:=zA (kT (yA HK.out) (kU hb g none) (.inl rfl));have NB0_538:=zA (zB7 hg (Z82.lt (show Z82 w0 _ g s0_0 s0_1 s0_2 from Z82.uA HI0.out)):g ≠ gb538);have NB538_0:=zA (zB8 hg (Z82.lt (show Z82 w0 _ g s0_0 s0_1 s0_2 from Z82.uA HI0.out)):gb538 ≠ g);replace HI0:=zA (Z82.below (Z82.uA HI0.out) hb);clear hb hbox hg) | ((with_reducible refine kS (N:=9) rfl ?_);refine Kd.R_lit (Kd.int .i64) _ 2 ?hg (N:=9) ?hd (xs:=([]:List Int)) (inner:=[]) (ok:=fun _=>True) (okp:=fun _=>True) ?hr ?hp (fun _ hk=>hk) trivial (kW _ _) (Nat.le_refl _) (by simp) ?_;(case hd=>rfl);(case hg=>rfl);(case hr=>first | (go_simp;done) | (go_simp;rfl));(case hp=>exact (Reps.none _ _));intro v540 w6 ho7 hb hg_ hnew_;clear hg_ hnew_;(first | rw [← Ny539.out] at ho7 | (simp only [Int.reduceToNat] at ho7;rw [← Ny539.out] at ho7));have HO541:=zA (kI ho7 (kX (w:=w) (g:=g) (row:=none) (yB HK.out GW538.out)));replace BK538:=zA (zB1 BK538.out hb);replace HK:=zA (kT (yB HK.out GW538.out) (kU hb g none) (.inl rfl));replace HB:=zA (kQ (zV HB.out (Z82.ge HI0.out) GE538.out) hb);replace HI0:=zA (Z82.below (Z82.uB HI0.out NB0_538.out) hb);clear hb ho7;have hnb8:=NB538_0.out;have hnc8:=NB0_538.out;obtain ⟨hcz9_0,hcz9_1,hfz9_0,hfz9_1⟩:=zB3 BK538.out))
  go_ret
  exact ⟨_,zr,zP HO541.out,by repeat (first | (with_reducible first | exact HI0.out | apply Z82.alloc | apply Z82.drewN | apply Z82.drew | apply Z82.set_1 | apply Z82.set_2 | refine Z82.far ?_ NB0_538.out _) | exact HI0.out),zV HB.out (Z82.ge HI0.out) GE538.out,by repeat (first | (with_reducible first | exact HK.out | apply KeepBut.set_ | apply keep_drewN | apply keep_drew | apply keep_alloc | refine keep_far ?_ GW538.out _) | exact HK.out)⟩
 rw [if_neg c4] at H
 obtain ⟨c4b0,c4b1⟩:=zT2 c4
 obtain ⟨⟨t542,t543,t544⟩,A10,H⟩:=zb H
 try dsimp only at H
 have H' := zA H
 clear H
 go_enter Tryd.func76,Tryd.ntmps76
 go_wp2_with (first | (refine zBE 4 #[.int .i64 a1_0,.slice A1_1 l1_1.length c1_1] 28 ?_;intro gb538 hg w11 hbox hb;replace HB:=zA (kQ (zT HB.out (Z82.ge HI0.out)) hb);have BK538:=zA (hbox);have GW538:=zA (zB6 hg (kX (w:=w) (g:=g) (row:=none) (yA HK.out)):w.heap.size ≤ gb538);have GE538:=zA ((Nat.le_trans HW0.out (by rw [hg];exact (kX (w:=w) (g:=g) (row:=none) (yA HK.out)):w.heap.size ≤ gb538):w0.heap.size ≤ gb538));replace HK:=zA (kT (yA HK.out) (kU hb g none) (.inl rfl));have NB0_538:=zA (zB7 hg (Z82.lt (show Z82 w0 _ g s0_0 s0_1 s0_2 from Z82.uA HI0.out)):g ≠ gb538);have NB538_0:=zA (zB8 hg (Z82.lt (show Z82 w0 _ g s0_0 s0_1 s0_2 from Z82.uA HI0.out)):gb538 ≠ g);replace HI0:=zA (Z82.below (Z82.uA HI0.out) hb);clear hb hbox hg) | ((with_reducible refine kS (N:=9) rfl ?_);refine Kd.R_lit (Kd.int .i64) _ 2 ?hg (N:=9) ?hd (xs:=([]:List Int)) (inner:=[]) (ok:=fun _=>True) (okp:=fun _=>True) ?hr ?hp (fun _ hk=>hk) trivial (kW _ _) (Nat.le_refl _) (by simp) ?_;(case hd=>rfl);(case hg=>rfl);(case hr=>first | (go_simp;done) | (go_simp;rfl));(case hp=>exact (Reps.none _ _));intro v540 w12 ho13 hb hg_ hnew_;clear hg_ hnew_;(first | rw [← Ny539.out] at ho13 | (simp only [Int.reduceToNat] at ho13;rw [← Ny539.out] at ho13));have HO541:=zA (kI ho13 (kX (w:=w) (g:=g) (row:=none) (yB HK.out GW538.out)));replace BK538:=zA (zB1 BK538.out hb);replace HK:=zA (kT (yB HK.out GW538.out) (kU hb g none) (.inl rfl));replace HB:=zA (kQ (zV HB.out (Z82.ge HI0.out) GE538.out) hb);replace HI0:=zA (Z82.below (Z82.uB HI0.out NB0_538.out) hb);clear hb ho13;have hnb14:=NB538_0.out;have hnc14:=NB0_538.out;obtain ⟨hcz15_0,hcz15_1,hfz15_0,hfz15_1⟩:=zB3 BK538.out) | (refine zO (some 17) Tryd.func56 #[.pointer (some ⟨g,0,none⟩),.int .i64 (wrap64 (a2 + 1))] ?_;(with_reducible refine (spec_l01Next.calls g s0_0 s0_1 s0_2 (wrap64 (a2 + 1)) t542 t543 t544 w0 _ ?side1 ?side2 A10.out).mono ?_);(case side1=>exact Z82.uB HI0.out NB0_538.out);(case side2=>exact zV HB.out (Z82.ge HI0.out) GE538.out);rintro e w16 ⟨rfl,hi,hb,hk⟩;refine ⟨_,rfl,?_⟩;replace BK538:=zA (zB2 hk BK538.out NB538_0.out);replace HO541:=zA (zB9 (Z82.apart (show Z82 w0 _ g s0_0 s0_1 s0_2 from Z82.uB HI0.out NB0_538.out) (zP HO541.out) (by decide)) hk);replace HK:=zA (kT (yB HK.out GW538.out) hk (.inl rfl));replace HB:=zA (hb);replace HI0:=zA (hi);(try clear hb);(try clear hk);(try clear hi)))
 go_loopg [7,8] k (fun kq v7 v8 w' => ∃ (x7_1:List Int) (x8_1:Int) (x1001_1:Int) (x1002_1:Int),v8 = .int .i64 x8_1 ∧ Aside0 (spec_l03Draw.l0 kq x7_1 x8_1 s0_0 x1001_1 x1002_1 a1_0 l1_1 = some (r1,r2,r3)) ∧ Aside0 (kq ≤ k) ∧ Aside0 (Kd.R (Kd.int .i64) 2 w' w.heap.size (fun _=>True) v7 x7_1) ∧ Aside0 (w'.heap[gb538]? = some (.cells #[.int .i64 a1_0,(.slice A1_1 l1_1.length c1_1)] 28 (0,0))) ∧ Aside0 (Z82 w0 w' g s0_0 x1001_1 x1002_1) ∧ Aside0 (KeepBut w w' g none) ∧ Aside0 (Below w0.heap.size w0 w'))
 case atStart=>exact ⟨(y539),(t542),(t543),(t544),zs,H', ⟨Nat.le_refl _⟩,⟨zP HO541.out⟩,⟨zR BK538.out⟩,⟨Z82.uB HI0.out NB0_538.out⟩,⟨yB HK.out GW538.out⟩,⟨zV HB.out (Z82.ge HI0.out) GE538.out⟩⟩
 case round =>
  clear H'
  try clear c1
  try clear c4
  try clear c5
  try clear c7
  try clear c8
  try clear c14
  try clear hcz15_0
  try clear hcz15_1
  try clear hcz9_0
  try clear hcz9_1
  try clear hfz15_0
  try clear hfz15_1
  try clear hfz9_0
  try clear hfz9_1
  obtain ⟨x7_1,x8_1,x1001_1,x1002_1,rfl,HA,HK1,HO_7,BK538,HI0,HK,HB⟩:=hrel
  cases gk with
  | zero=>exact absurd HA.out (by simp [spec_l03Draw.l0])
  | succ k1 =>
   have H:=HA.out
   clear HA
   simp only [spec_l03Draw.l0] at H
   by_cases c17:x8_1 > 0
   ·rw [if_pos c17] at H
    have c17b0:decide (0 < x8_1) = true:=decide_eq_true c17
    clear c17
    by_cases c18:(x7_1.length:Int) > 0
    ·rw [if_pos c18] at H
     have c18b0:decide (0 < (x7_1.length:Int)) = true:=decide_eq_true c18
     have c18b1:decide (0 < x7_1.length) = true:=decide_eq_true (by omega)
     clear c18
     obtain ⟨⟨t545,t546,t547⟩,A19,H⟩:=zb H
     try dsimp only at H
     by_cases c20:t545 = 0
     ·rw [if_pos c20] at H
      obtain ⟨c20b0,c20b1⟩:=zT1 c20
      clear c20
      obtain ⟨ji21,hji21⟩:∃ j_:Int,(wrap64 ((x7_1.length:Int) - 1)) = j_:=⟨_,rfl⟩
      replace H:(if 0 ≤ (ji21) then (if (ji21) < (x7_1.length:Int) then (if x7_1.length < 17592186044416 then (spec_l03Draw.l0 k1 (x7_1 ++ [rd x7_1 (ji21)]) (wrap64 (x8_1 - 1)) s0_0 t546 t547 a1_0 l1_1) else (none)) else (none)) else (none)) = some (r1,r2,r3):=by first | (rw [hji21] at H;exact H) | (simp only [hji21] at H ⊢;exact H)
      (try rw [hji21] at A19)
      have hji21w:(IntKind.i64.wrap ((x7_1.length:Int) - 1)) = ji21:=(i64_w _).trans hji21
      by_cases c22:0 ≤ (ji21)
      ·rw [if_pos c22] at H
       have c22b0:decide (0 ≤ (ji21)) = true:=decide_eq_true c22
       clear c22
       by_cases c23:(ji21) < (x7_1.length:Int)
       ·rw [if_pos c23] at H
        have c23b0:decide ((ji21) < (x7_1.length:Int)) = true:=decide_eq_true c23
        clear c23
        by_cases c24:x7_1.length < 17592186044416
        ·rw [if_pos c24] at H
         have LMc24:=zA c24
         clear c24
         obtain ⟨y549,hy549⟩:∃ y_:List Int,y_ = (x7_1 ++ [rd x7_1 (ji21)]):=⟨_,rfl⟩
         replace H:(spec_l03Draw.l0 k1 y549 (wrap64 (x8_1 - 1)) s0_0 t546 t547 a1_0 l1_1) = some (r1,r2,r3):=zy hy549 H
         have Ny549:=zA hy549
         clear hy549
         have H' := zA H
         clear H
         obtain ⟨Ao25,co25,eo25⟩:=kM HO_7.out
         subst eo25
         go_wp2_with (first | (go_at_call 56;(with_reducible refine (spec_l01Next.calls g s0_0 x1001_1 x1002_1 8 t545 t546 t547 w0 _ ?side1 ?side2 A19.out).mono ?_);(case side1=>exact Z82.uB HI0.out NB0_538.out);(case side2=>exact zV HB.out (Z82.ge HI0.out) GE538.out);rintro e w26 ⟨rfl,hi,hb,hk⟩;replace HO_7:=zA (zB9 (Z82.apart (show Z82 w0 _ g s0_0 x1001_1 x1002_1 from Z82.uB HI0.out NB0_538.out) (zP HO_7.out) (by decide)) hk);replace BK538:=zA (zB2 hk BK538.out NB538_0.out);replace HK:=zA (kT (yB HK.out GW538.out) hk (.inl rfl));replace HB:=zA (hb);replace HI0:=zA (hi);(try clear hb);(try clear hk);(try clear hi);have p548:0 ≤ ((ji21):Int):=zd;have q548:(ji21) < (x7_1.length:Int):=zd;obtain ⟨ad548,e548,hx548_0⟩:=Kd.at_int (kB HO_7.out).2.2 (ji21) p548 q548;cases e548;replace p548:=eq_true p548;replace q548:=eq_true q548) | ((with_reducible refine gate_builtin (b:=.append) (xs:=#[.tmp 30,.tmp 37]) rfl ?_);at_builtin;refine Kd.R_append (Kd.int .i64) w.heap.size rfl (.tmp 30) (.tmp 37) 22 2 (.int .i64 0) 8 rfl Tryd.underlying22 info2 rfl (by decide) (by omega) (.slice (some ad548) x7_1.length co25) x7_1 (rd x7_1 (ji21)) [.int .i64 (rd x7_1 (ji21))] (fun _=>True) (fun _=>False) rfl rfl ?aP (fun _ hk=>hk.elim) ?aF ?aO (kW _ _) ?aS ?aL ?_;(case aP=>exact rfl);(case aF=>exact (fun _ _=>trivial));(case aO=>exact (zP HO_7.out));(case aS=>exact (kX (w:=w) (g:=g) (row:=none) (yB HK.out GW538.out)));(case aL=>have:=LMc24.out;omega);intro v550 w27 ho hb hg hat;rw [← Ny549.out] at ho;replace BK538:=zA (blk_grown (g:=gb538) (o:=.cells #[.int .i64 a1_0,.slice A1_1 l1_1.length c1_1] 28 (0,0)) (zR BK538.out) hg (Kd.R_ne HO_7.out BK538.out (by decide)));replace HB:=zA (below_weaken (zV HB.out (Z82.ge HI0.out) GE538.out) HL.out hb);replace HI0:=zA (Z82.grown (Z82.uB HI0.out NB0_538.out) hg (Z82.own_ne HI0.out HO_7.out (by decide)));replace HK:=zA (kT (yB HK.out GW538.out) (KeepBut.of_grown hg g) (Kd.R_base2 HO_7.out));have HO551:=zA (ho);clear HO_7;clear ho hb hg hat))
         go_roundg k1
         case measure=>have:=HK1.out;omega
         case rel=>exact ⟨(y549),(wrap64 (x8_1 - 1)),(t546),(t547),zs,H', ⟨by have:=HK1.out;omega⟩,⟨zP HO551.out⟩,⟨zR BK538.out⟩,⟨Z82.uB HI0.out NB0_538.out⟩,⟨yB HK.out GW538.out⟩,⟨zV HB.out (Z82.ge HI0.out) GE538.out⟩⟩
        rw [if_neg c24] at H
        exact absurd H (by simp)
       rw [if_neg c23] at H
       exact absurd H (by simp)
      rw [if_neg c22] at H
      exact absurd H (by simp)
     rw [if_neg c20] at H
     obtain ⟨c20b0,c20b1⟩:=zT2 c20
     obtain ⟨⟨t552,t553,t554⟩,A28,H⟩:=zb H
     try dsimp only at H
     by_cases c29:x7_1.length < 17592186044416
     ·rw [if_pos c29] at H
      have LMc29:=zA c29
      clear c29
      obtain ⟨y555,hy555⟩:∃ y_:List Int,y_ = (x7_1 ++ [t552]):=⟨_,rfl⟩
      replace H:(spec_l03Draw.l0 k1 y555 (wrap64 (x8_1 - 1)) s0_0 t553 t554 a1_0 l1_1) = some (r1,r2,r3):=zy hy555 H
      have Ny555:=zA hy555
      clear hy555
      have H' := zA H
      clear H
      obtain ⟨Ao30,co30,eo30⟩:=kM HO_7.out
      subst eo30
      go_wp2_with (first | (go_at_call 56;(with_reducible refine (spec_l01Next.calls g s0_0 x1001_1 x1002_1 8 t545 t546 t547 w0 _ ?side1 ?side2 A19.out).mono ?_);(case side1=>exact Z82.uB HI0.out NB0_538.out);(case side2=>exact zV HB.out (Z82.ge HI0.out) GE538.out);rintro e w31 ⟨rfl,hi,hb,hk⟩;replace HO_7:=zA (zB9 (Z82.apart (show Z82 w0 _ g s0_0 x1001_1 x1002_1 from Z82.uB HI0.out NB0_538.out) (zP HO_7.out) (by decide)) hk);replace BK538:=zA (zB2 hk BK538.out NB538_0.out);replace HK:=zA (kT (yB HK.out GW538.out) hk (.inl rfl));replace HB:=zA (hb);replace HI0:=zA (hi);(try clear hb);(try clear hb2);(try clear hk);(try clear hi);(try clear hgw);have hnb32:=NB538_0.out;have hnc32:=NB0_538.out;obtain ⟨hcz33_0,hcz33_1,hfz33_0,hfz33_1⟩:=zB3 BK538.out) | (refine zO (some 43) Tryd.func56 #[.pointer (some ⟨g,0,none⟩),.int .i64 a1_0] ?_;(with_reducible refine (spec_l01Next.calls g s0_0 t546 t547 a1_0 t552 t553 t554 w0 _ ?side1 ?side2 A28.out).mono ?_);(case side1=>exact Z82.uB HI0.out NB0_538.out);(case side2=>exact zV HB.out (Z82.ge HI0.out) GE538.out);rintro e w34 ⟨rfl,hi,hb,hk⟩;refine ⟨_,rfl,?_⟩;replace HO_7:=zA (zB9 (Z82.apart (show Z82 w0 _ g s0_0 t546 t547 from Z82.uB HI0.out NB0_538.out) (zP HO_7.out) (by decide)) hk);replace BK538:=zA (zB2 hk BK538.out NB538_0.out);replace HK:=zA (kT (yB HK.out GW538.out) hk (.inl rfl));replace HB:=zA (hb);replace HI0:=zA (hi);(try clear hb);(try clear hb2);(try clear hk);(try clear hi);(try clear hgw)) | ((with_reducible refine gate_builtin (b:=.append) (xs:=#[.tmp 39,.tmp 44]) rfl ?_);at_builtin;refine Kd.R_append (Kd.int .i64) w.heap.size rfl (.tmp 39) (.tmp 44) 22 2 (.int .i64 0) 8 rfl Tryd.underlying22 info2 rfl (by decide) (by omega) (.slice Ao30 x7_1.length co30) x7_1 t552 [.int .i64 t552] (fun _=>True) (fun _=>False) rfl rfl ?aP (fun _ hk=>hk.elim) ?aF ?aO (kW _ _) ?aS ?aL ?_;(case aP=>exact rfl);(case aF=>exact (fun _ _=>trivial));(case aO=>exact (zP HO_7.out));(case aS=>exact (kX (w:=w) (g:=g) (row:=none) (yB HK.out GW538.out)));(case aL=>have:=LMc29.out;omega);intro v556 w35 ho hb hg hat;rw [← Ny555.out] at ho;replace BK538:=zA (blk_grown (g:=gb538) (o:=.cells #[.int .i64 a1_0,.slice A1_1 l1_1.length c1_1] 28 (0,0)) (zR BK538.out) hg (Kd.R_ne HO_7.out BK538.out (by decide)));replace HB:=zA (below_weaken (zV HB.out (Z82.ge HI0.out) GE538.out) HL.out hb);replace HI0:=zA (Z82.grown (Z82.uB HI0.out NB0_538.out) hg (Z82.own_ne HI0.out HO_7.out (by decide)));replace HK:=zA (kT (yB HK.out GW538.out) (KeepBut.of_grown hg g) (Kd.R_base2 HO_7.out));have HO557:=zA (ho);clear HO_7;clear ho hb hg hat))
      go_roundg k1
      case measure=>have:=HK1.out;omega
      case rel=>exact ⟨(y555),(wrap64 (x8_1 - 1)),(t553),(t554),zs,H', ⟨by have:=HK1.out;omega⟩,⟨zP HO557.out⟩,⟨zR BK538.out⟩,⟨Z82.uB HI0.out NB0_538.out⟩,⟨yB HK.out GW538.out⟩,⟨zV HB.out (Z82.ge HI0.out) GE538.out⟩⟩
     rw [if_neg c29] at H
     exact absurd H (by simp)
    rw [if_neg c18] at H
    have c18b0:decide (0 < (x7_1.length:Int)) = false:=decide_eq_false c18
    have c18b1:decide (0 < x7_1.length) = false:=decide_eq_false (by omega)
    clear c18
    obtain ⟨⟨t558,t559,t560⟩,A36,H⟩:=zb H
    try dsimp only at H
    by_cases c37:x7_1.length < 17592186044416
    ·rw [if_pos c37] at H
     have LMc37:=zA c37
     clear c37
     obtain ⟨y561,hy561⟩:∃ y_:List Int,y_ = (x7_1 ++ [t558]):=⟨_,rfl⟩
     replace H:(spec_l03Draw.l0 k1 y561 (wrap64 (x8_1 - 1)) s0_0 t559 t560 a1_0 l1_1) = some (r1,r2,r3):=zy hy561 H
     have Ny561:=zA hy561
     clear hy561
     have H' := zA H
     clear H
     obtain ⟨Ao38,co38,eo38⟩:=kM HO_7.out
     subst eo38
     have hnb39:=NB538_0.out
     have hnc39:=NB0_538.out
     obtain ⟨hcz40_0,hcz40_1,hfz40_0,hfz40_1⟩:=zB3 BK538.out
     go_wp2_with (first | (refine zO (some 43) Tryd.func56 #[.pointer (some ⟨g,0,none⟩),.int .i64 a1_0] ?_;(with_reducible refine (spec_l01Next.calls g s0_0 x1001_1 x1002_1 a1_0 t558 t559 t560 w0 _ ?side1 ?side2 A36.out).mono ?_);(case side1=>exact Z82.uB HI0.out NB0_538.out);(case side2=>exact zV HB.out (Z82.ge HI0.out) GE538.out);rintro e w41 ⟨rfl,hi,hb,hk⟩;refine ⟨_,rfl,?_⟩;replace HO_7:=zA (zB9 (Z82.apart (show Z82 w0 _ g s0_0 x1001_1 x1002_1 from Z82.uB HI0.out NB0_538.out) (zP HO_7.out) (by decide)) hk);replace BK538:=zA (zB2 hk BK538.out NB538_0.out);replace HK:=zA (kT (yB HK.out GW538.out) hk (.inl rfl));replace HB:=zA (hb);replace HI0:=zA (hi);(try clear hb);(try clear hk);(try clear hi)) | ((with_reducible refine gate_builtin (b:=.append) (xs:=#[.tmp 39,.tmp 44]) rfl ?_);at_builtin;refine Kd.R_append (Kd.int .i64) w.heap.size rfl (.tmp 39) (.tmp 44) 22 2 (.int .i64 0) 8 rfl Tryd.underlying22 info2 rfl (by decide) (by omega) (.slice Ao38 x7_1.length co38) x7_1 t558 [.int .i64 t558] (fun _=>True) (fun _=>False) rfl rfl ?aP (fun _ hk=>hk.elim) ?aF ?aO (kW _ _) ?aS ?aL ?_;(case aP=>exact rfl);(case aF=>exact (fun _ _=>trivial));(case aO=>exact (zP HO_7.out));(case aS=>exact (kX (w:=w) (g:=g) (row:=none) (yB HK.out GW538.out)));(case aL=>have:=LMc37.out;omega);intro v562 w42 ho hb hg hat;rw [← Ny561.out] at ho;replace BK538:=zA (blk_grown (g:=gb538) (o:=.cells #[.int .i64 a1_0,.slice A1_1 l1_1.length c1_1] 28 (0,0)) (zR BK538.out) hg (Kd.R_ne HO_7.out BK538.out (by decide)));replace HB:=zA (below_weaken (zV HB.out (Z82.ge HI0.out) GE538.out) HL.out hb);replace HI0:=zA (Z82.grown (Z82.uB HI0.out NB0_538.out) hg (Z82.own_ne HI0.out HO_7.out (by decide)));replace HK:=zA (kT (yB HK.out GW538.out) (KeepBut.of_grown hg g) (Kd.R_base2 HO_7.out));have HO563:=zA (ho);clear HO_7;clear ho hb hg hat))
     go_roundg k1
     case measure=>have:=HK1.out;omega
     case rel=>exact ⟨(y561),(wrap64 (x8_1 - 1)),(t559),(t560),zs,H', ⟨by have:=HK1.out;omega⟩,⟨zP HO563.out⟩,⟨zR BK538.out⟩,⟨Z82.uB HI0.out NB0_538.out⟩,⟨yB HK.out GW538.out⟩,⟨zV HB.out (Z82.ge HI0.out) GE538.out⟩⟩
    rw [if_neg c37] at H
    exact absurd H (by simp)
   rw [if_neg c17] at H
   have c17b0:decide (0 < x8_1) = false:=decide_eq_false c17
   clear c17
   simp only [Option.some.injEq,Prod.mk.injEq] at H
   obtain ⟨rfl,rfl,rfl⟩:=H
   go_wp2
   go_ret
   exact ⟨_,zr,zP HO_7.out,by repeat (first | (with_reducible first | exact HI0.out | apply Z82.alloc | apply Z82.drewN | apply Z82.drew | apply Z82.set_1 | apply Z82.set_2 | refine Z82.far ?_ NB0_538.out _) | exact HI0.out),zV HB.out (Z82.ge HI0.out) GE538.out,by repeat (first | (with_reducible first | exact HK.out | apply KeepBut.set_ | apply keep_drewN | apply keep_drew | apply keep_alloc | refine keep_far ?_ GW538.out _) | exact HK.out)⟩
end Go.Proofs.YtpenijicdldipaaDoor.PAll
