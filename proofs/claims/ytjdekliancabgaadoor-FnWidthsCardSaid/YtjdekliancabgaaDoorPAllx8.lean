import Derived.Test.YtjdekliancabgaaDoorPAllx0
import Derived.Test.YtjdekliancabgaaDoorPAllx1
import Derived.Test.YtjdekliancabgaaDoorPAllx2
import Derived.Test.YtjdekliancabgaaDoorPAllx3
import Derived.Test.YtjdekliancabgaaDoorPAllx6
import Derived.Test.YtjdekliancabgaaDoorPAllx7
namespace Go.Proofs.YtjdekliancabgaaDoor.PAll
open Go.RowKit Go.Proofs.YtjdekliancabgaaDoor.T Go.Proofs.YtjdekliancabgaaDoorW.PrintWords Go.Proofs.YtjdekliancabgaaDoorW.PrintLast Go.Proofs.YtjdekliancabgaaDoorW.PrintMore
attribute [local go_sem] max2_int min2_int max_two min_two max_three min_three max_four min_four   -- for this text's walks alone
set_option linter.unusedVariables false
set_option linter.unusedSimpArgs false
mutual
def spec_l02Beside.j0:Nat → Bool → Bool → Int → List Int → Int → List Int → Option (Int × List Int × Int)
 | 0,_,_,_,_,_,_=>none
 | k + 1,x2,x18,x297000,x297001,x298000,x298001=>if x18 = true then (some (0,([]:List Int),1)) else (if (wrap64 (x297000 + x298000)) > 8 then (some (0,([]:List Int),3)) else ((spec_l02Free.f k (wrap64 (x297000 + x298000))).bind fun bt301=>(spec_l02Beside.l0 k x2 0 x297000 x297001 x298000 x298001 bt301.1 bt301.2)))
def spec_l02Beside.l0:Nat → Bool → Int → Int → List Int → Int → List Int → Int → List Int → Option (Int × List Int × Int)
 | 0,_,_,_,_,_,_,_,_=>none
 | k + 1,x2,x9,x297000,x297001,x298000,x298001,x306000,x306001=>if x9 < x306000 then (spec_l02Beside.l1 k x2 x9 0 x297000 x297001 x298000 x298001 x306000 x306001) else (some (x306000,x306001,0))
def spec_l02Beside.l1:Nat → Bool → Int → Int → Int → List Int → Int → List Int → Int → List Int → Option (Int × List Int × Int)
 | 0,_,_,_,_,_,_,_,_,_=>none
 | k + 1,x2,x9,x10,x297000,x297001,x298000,x298001,x306000,x306001=>if x10 < x306000 then (if x9 < x297000 then (spec_l02Beside.j3 k x2 x9 x10 (decide (x10 < x297000)) x297000 x297001 x298000 x298001 x306000 x306001) else (spec_l02Beside.j3 k x2 x9 x10 false x297000 x297001 x298000 x298001 x306000 x306001)) else (spec_l02Beside.l0 k x2 (wrap64 (x9 + 1)) x297000 x297001 x298000 x298001 x306000 x306001)
def spec_l02Beside.j3:Nat → Bool → Int → Int → Bool → Int → List Int → Int → List Int → Int → List Int → Option (Int × List Int × Int)
 | 0,_,_,_,_,_,_,_,_,_,_=>none
 | k + 1,x2,x9,x10,x45,x297000,x297001,x298000,x298001,x306000,x306001=>if x45 = true then ((spec_l02Dep.f x297000 x297001 x9 x10).bind fun t306=>(if t306 = true then ((spec_l02Join.f x306000 x306001 x9 x10).bind fun t307=>(spec_l02Beside.l1 k x2 x9 (wrap64 (x10 + 1)) x297000 x297001 x298000 x298001 x306000 t307)) else (spec_l02Beside.l1 k x2 x9 (wrap64 (x10 + 1)) x297000 x297001 x298000 x298001 x306000 x306001))) else (if x9 ≥ x297000 then (spec_l02Beside.j4 k x2 x9 x10 (decide (x10 ≥ x297000)) x297000 x297001 x298000 x298001 x306000 x306001) else (spec_l02Beside.j4 k x2 x9 x10 false x297000 x297001 x298000 x298001 x306000 x306001))
def spec_l02Beside.j4:Nat → Bool → Int → Int → Bool → Int → List Int → Int → List Int → Int → List Int → Option (Int × List Int × Int)
 | 0,_,_,_,_,_,_,_,_,_,_=>none
 | k + 1,x2,x9,x10,x64,x297000,x297001,x298000,x298001,x306000,x306001=>if x64 = true then ((spec_l02Dep.f x298000 x298001 (wrap64 (x9 - x297000)) (wrap64 (x10 - x297000))).bind fun t308=>(if t308 = true then ((spec_l02Join.f x306000 x306001 x9 x10).bind fun t309=>(spec_l02Beside.l1 k x2 x9 (wrap64 (x10 + 1)) x297000 x297001 x298000 x298001 x306000 t309)) else (spec_l02Beside.l1 k x2 x9 (wrap64 (x10 + 1)) x297000 x297001 x298000 x298001 x306000 x306001))) else (if x2 = true then ((spec_l02Join.f x306000 x306001 x9 x10).bind fun t310=>(spec_l02Beside.l1 k x2 x9 (wrap64 (x10 + 1)) x297000 x297001 x298000 x298001 x306000 t310)) else (spec_l02Beside.l1 k x2 x9 (wrap64 (x10 + 1)) x297000 x297001 x298000 x298001 x306000 x306001))
end
def spec_l02Beside.f (k:Nat) (a0_0:Int) (l0_1:List Int) (a1_0:Int) (l1_1:List Int) (a2:Bool):Option (Int × List Int × Int):=(spec_l02Is.f k a0_0 l0_1).bind fun t299=>(if t299 = true then ((spec_l02Is.f k a1_0 l1_1).bind fun t300=>(spec_l02Beside.j0 k a2 (!t300) a0_0 l0_1 a1_0 l1_1)) else (spec_l02Beside.j0 k a2 true a0_0 l0_1 a1_0 l1_1))
set_option maxHeartbeats 8000000 in
set_option maxRecDepth 100000 in
theorem spec_l02Beside.calls (k : Nat) (a0_0 : Int) (A0_1 : Option Addr) (c0_1 : Nat) (l0_1 : List Int) (a1_0 : Int) (A1_1 : Option Addr) (c1_1 : Nat) (l1_1 : List Int) (a2 : Bool) (r1 : Int) (r2 : List Int) (r3 : Int) (w : World) (hr0_1 : Kd.C (Kd.int .i64) w A0_1 l0_1.length l0_1) (hc0_1 : l0_1.length ≤ c0_1) (hr1_1 : Kd.C (Kd.int .i64) w A1_1 l1_1.length l1_1) (hc1_1 : l1_1.length ≤ c1_1) (h : spec_l02Beside.f k a0_0 l0_1 a1_0 l1_1 a2 = some (r1, r2, r3)) :
  Calls Tryd.prog 22 #[.agg #[.int .i64 a0_0,.slice A0_1 l0_1.length c0_1],.agg #[.int .i64 a1_0,.slice A1_1 l1_1.length c1_1],.bool a2] w fun e w' => ∃ v1_:Value,e = .returned (.tuple #[.agg #[.int .i64 r1,v1_],.int .i64 r3]) ∧ Kd.R (Kd.int .i64) 2 w' w.heap.size (fun _=>True) v1_ r2 ∧ Below w.heap.size w w' := by
 have hu26:=Tryd.underlying26
 have HR0_1:=zA hr0_1
 have HC0_1:=zA hc0_1
 clear hr0_1 hc0_1
 have HR1_1:=zA hr1_1
 have HC1_1:=zA hc1_1
 clear hr1_1 hc1_1
 have HB:=zA (kW w.heap.size w)
 have H:=h
 unfold spec_l02Beside.f at H
 clear h
 have HC4:=zA H
 clear H
 go_enter Tryd.func22,Tryd.ntmps22
 go_upto_region 1 with (first | (refine zBE 3 #[.int .i64 a0_0,.slice A0_1 l0_1.length c0_1] 26 ?_;intro gb296 hg w5 hbox hb;have BK296:=zA (hbox);have GW296:=zA (zBH hg HB.out);have GE296:=zA (zBH hg HB.out);replace HB:=zA (kQ (zQ HB.out) hb);clear hb hbox hg) | (refine zBE 4 #[.int .i64 a1_0,.slice A1_1 l1_1.length c1_1] 26 ?_;intro gb297 hg w6 hbox hb;have BK297:=zA (hbox);have GW297:=zA (zB6 hg (kP (zT HB.out GE296.out)):w.heap.size ≤ gb297);have GE297:=zA (zB6 hg (kP (zT HB.out GE296.out)):w.heap.size ≤ gb297);replace HB:=zA (kQ (zT HB.out GE296.out) hb);have NB296_297:=zA (zB4 hg BK296.out:gb296 ≠ gb297);have NB297_296:=zA (zB5 hg BK296.out:gb297 ≠ gb296);replace BK296:=zA (zB1 BK296.out hb);clear hb hbox hg) | (refine zBE 6 #[.int .i64 0,.slice none 0 0] 26 ?_;intro gb298 hg w7 hbox hb;have BK298:=zA (hbox);have GW298:=zA (zB6 hg (kP (zV HB.out GE296.out GE297.out)):w.heap.size ≤ gb298);have GE298:=zA (zB6 hg (kP (zV HB.out GE296.out GE297.out)):w.heap.size ≤ gb298);replace HB:=zA (kQ (zV HB.out GE296.out GE297.out) hb);have NB296_298:=zA (zB4 hg BK296.out:gb296 ≠ gb298);have NB298_296:=zA (zB5 hg BK296.out:gb298 ≠ gb296);replace BK296:=zA (zB1 BK296.out hb);have NB297_298:=zA (zB4 hg BK297.out:gb297 ≠ gb298);have NB298_297:=zA (zB5 hg BK297.out:gb298 ≠ gb297);replace BK297:=zA (zB1 BK297.out hb);clear hb hbox hg))
 (try simp only [Act.put,zL,zM,zN])
 go_cut [18] (fun v18 wc=>∃ (kq:Nat) (x18_3:Bool),v18 = .bool x18_3 ∧ Aside0 (spec_l02Beside.j0 kq a2 x18_3 a0_0 l0_1 a1_0 l1_1 = some (r1,r2,r3)) ∧ Aside0 (kq ≤ k) ∧ Aside0 (wc.heap[gb296]? = some (.cells #[.int .i64 a0_0,(.slice A0_1 l0_1.length c0_1)] 26 (0,0))) ∧ Aside0 (wc.heap[gb297]? = some (.cells #[.int .i64 a1_0,(.slice A1_1 l1_1.length c1_1)] 26 (0,0))) ∧ Aside0 (wc.heap[gb298]? = some (.cells #[.int .i64 0,(.slice none 0 0)] 26 (0,0))) ∧ Aside0 (Below w.heap.size w wc))
 case first =>
  have H:=HC4.out
  clear HC4
  obtain ⟨t299,A8,H⟩:=zb H
  try dsimp only at H
  by_cases c9:t299 = true
  ·subst c9
   rw [if_pos rfl] at H
   obtain ⟨t300,A10,H⟩:=zb H
   try dsimp only at H
   have H' := zA H
   clear H
   have hnb11:=NB296_297.out
   have hnc11:=NB297_296.out
   have hnb12:=NB296_298.out
   have hnc12:=NB298_296.out
   obtain ⟨hcz13_0,hcz13_1,hfz13_0,hfz13_1⟩:=zB3 BK296.out
   go_wp2_with (first | (refine zO (some 12) Tryd.func46 #[.agg #[.int .i64 a0_0,.slice A0_1 l0_1.length c0_1]] ?_;(with_reducible refine (spec_l02Is.calls k a0_0 _ _ l0_1 true _ ?side1 ?side2 A8.out).mono ?_);(case side1=>exact zS (kO HR0_1.out HB.out));(case side2=>exact HC0_1.out);rintro e w14 ⟨rfl,hb⟩;refine ⟨_,rfl,?_⟩;replace BK296:=zA (zB1 BK296.out hb);replace BK297:=zA (zB1 BK297.out hb);replace BK298:=zA (zB1 BK298.out hb);replace HB:=zA (kQ (zW HB.out GE296.out GE297.out GE298.out) hb);(try clear hb);have hnb15:=NB297_298.out;have hnc15:=NB298_297.out;obtain ⟨hcz16_0,hcz16_1,hfz16_0,hfz16_1⟩:=zB3 BK297.out) | (go_at_call 46;(with_reducible refine (spec_l02Is.calls k a1_0 _ _ l1_1 t300 _ ?side1 ?side2 A10.out).mono ?_);(case side1=>exact zS (kO HR1_1.out HB.out));(case side2=>exact HC1_1.out);rintro e w17 ⟨rfl,hb⟩;replace BK296:=zA (zB1 BK296.out hb);replace BK297:=zA (zB1 BK297.out hb);replace BK298:=zA (zB1 BK298.out hb);replace HB:=zA (kQ (zW HB.out GE296.out GE297.out GE298.out) hb);(try clear hb)))
   go_meet
   case rel=>exact ⟨_,(!t300),zs,H', ⟨by first | omega | exact Nat.le_refl _⟩,⟨zR BK296.out⟩,⟨zR BK297.out⟩,⟨zR BK298.out⟩,⟨zW HB.out GE296.out GE297.out GE298.out⟩⟩
  replace c9:=Bool.eq_false_iff.mpr c9
  subst c9
  rw [if_neg (show ¬ (false = true) by decide)] at H
  have H' := zA H
  clear H
  have hnb18:=NB296_297.out
  have hnc18:=NB297_296.out
  have hnb19:=NB296_298.out
  have hnc19:=NB298_296.out
  obtain ⟨hcz20_0,hcz20_1,hfz20_0,hfz20_1⟩:=zB3 BK296.out
  go_wp2_with (first | (refine zO (some 12) Tryd.func46 #[.agg #[.int .i64 a0_0,.slice A0_1 l0_1.length c0_1]] ?_;(with_reducible refine (spec_l02Is.calls k a0_0 _ _ l0_1 false _ ?side1 ?side2 A8.out).mono ?_);(case side1=>exact zS (kO HR0_1.out HB.out));(case side2=>exact HC0_1.out);rintro e w21 ⟨rfl,hb⟩;refine ⟨_,rfl,?_⟩;replace BK296:=zA (zB1 BK296.out hb);replace BK297:=zA (zB1 BK297.out hb);replace BK298:=zA (zB1 BK298.out hb);replace HB:=zA (kQ (zW HB.out GE296.out GE297.out GE298.out) hb);(try clear hb)))
  go_meet
  case rel=>exact ⟨_,(true),zs,H', ⟨by first | omega | exact Nat.le_refl _⟩,⟨zR BK296.out⟩,⟨zR BK297.out⟩,⟨zR BK298.out⟩,⟨zW HB.out GE296.out GE297.out GE298.out⟩⟩
 case rest =>
  clear HC4
  try clear c1
  try clear c2
  try clear c4
  try clear c9
  try clear c11
  try clear c12
  try clear c15
  try clear c18
  try clear c19
  try clear hcz13_0
  try clear hcz13_1
  try clear hcz16_0
  try clear hcz16_1
  try clear hcz20_0
  try clear hcz20_1
  try clear hfz13_0
  try clear hfz13_1
  try clear hfz16_0
  try clear hfz16_1
  try clear hfz20_0
  try clear hfz20_1
  obtain ⟨kq,x18_3,rfl,HA,HJ3,BK296,BK297,BK298,HB⟩:=hcut
  cases kq with
  | zero=>exact absurd HA.out (by simp [spec_l02Beside.j0])
  | succ kj3 =>
   have H:=HA.out
   clear HA
   simp only [spec_l02Beside.j0] at H
   by_cases c22:x18_3 = true
   ·subst c22
    rw [if_pos rfl] at H
    simp only [Option.some.injEq,Prod.mk.injEq] at H
    obtain ⟨rfl,rfl,rfl⟩:=H
    have hnb23:=NB298_296.out
    have hnc23:=NB296_298.out
    have hnb24:=NB298_297.out
    have hnc24:=NB297_298.out
    obtain ⟨hcz25_0,hcz25_1,hfz25_0,hfz25_1⟩:=zB3 BK298.out
    go_wp2
    refine bodyPost_ret (results_ct rfl _ _ gb298 26 #[.int .i64 0,.slice none 0 0] (0,0) _ rfl (zRP BK298.out) Tryd.underlying26 rfl (by kernel_rfl)) rfl ?_
    exact ⟨_,zr,zn,zW HB.out GE296.out GE297.out GE298.out⟩
   replace c22:=Bool.eq_false_iff.mpr c22
   subst c22
   rw [if_neg (show ¬ (false = true) by decide)] at H
   by_cases c26:(wrap64 (a0_0 + a1_0)) > 8
   ·rw [if_pos c26] at H
    have c26b0:decide (8 < (wrap64 (a0_0 + a1_0))) = true:=decide_eq_true c26
    clear c26
    simp only [Option.some.injEq,Prod.mk.injEq] at H
    obtain ⟨rfl,rfl,rfl⟩:=H
    have hnb27:=NB296_297.out
    have hnc27:=NB297_296.out
    have hnb28:=NB296_298.out
    have hnc28:=NB298_296.out
    obtain ⟨hcz29_0,hcz29_1,hfz29_0,hfz29_1⟩:=zB3 BK296.out
    have hnb30:=NB297_298.out
    have hnc30:=NB298_297.out
    obtain ⟨hcz31_0,hcz31_1,hfz31_0,hfz31_1⟩:=zB3 BK297.out
    obtain ⟨hcz32_0,hcz32_1,hfz32_0,hfz32_1⟩:=zB3 BK298.out
    go_wp2
    refine bodyPost_ret (results_ct rfl _ _ gb298 26 #[.int .i64 0,.slice none 0 0] (0,0) _ rfl (zRP BK298.out) Tryd.underlying26 rfl (by kernel_rfl)) rfl ?_
    exact ⟨_,zr,zn,zW HB.out GE296.out GE297.out GE298.out⟩
   rw [if_neg c26] at H
   have c26b0:decide (8 < (wrap64 (a0_0 + a1_0))) = false:=decide_eq_false c26
   clear c26
   obtain ⟨⟨t301,t302⟩,A33,H⟩:=zb H
   try dsimp only at H
   have H' := zA H
   clear H
   have hnb34:=NB296_297.out
   have hnc34:=NB297_296.out
   have hnb35:=NB296_298.out
   have hnc35:=NB298_296.out
   obtain ⟨hcz36_0,hcz36_1,hfz36_0,hfz36_1⟩:=zB3 BK296.out
   have hnb37:=NB297_298.out
   have hnc37:=NB298_297.out
   obtain ⟨hcz38_0,hcz38_1,hfz38_0,hfz38_1⟩:=zB3 BK297.out
   go_wp2_with (first | (refine zO (some 32) Tryd.func47 #[.int .i64 (wrap64 (a0_0 + a1_0))] ?_;(with_reducible refine (spec_l02Free.calls kj3 (wrap64 (a0_0 + a1_0)) t301 t302 _ A33.out).mono ?_);rintro e w39 ⟨v303,rfl,ho0,hb⟩;refine ⟨_,rfl,?_⟩;have HO304:=zA (kI ho0 (kP (zW HB.out GE296.out GE297.out GE298.out)));replace BK296:=zA (zB1 BK296.out hb);replace BK297:=zA (zB1 BK297.out hb);replace BK298:=zA (zB1 BK298.out hb);replace HB:=zA (kQ (zW HB.out GE296.out GE297.out GE298.out) hb);(try clear hb);(try clear ho0)) | (refine zBE 8 #[.int .i64 0,.slice none 0 0] 26 ?_;intro gb305 hg w40 hbox hb;replace HO304:=zA (kL (zP HO304.out) hb);have BK305:=zA (hbox);have GW305:=zA (zB6 hg (kP (zW HB.out GE296.out GE297.out GE298.out)):w.heap.size ≤ gb305);have GE305:=zA (zB6 hg (kP (zW HB.out GE296.out GE297.out GE298.out)):w.heap.size ≤ gb305);replace HB:=zA (kQ (zW HB.out GE296.out GE297.out GE298.out) hb);have NB296_305:=zA (zB4 hg BK296.out:gb296 ≠ gb305);have NB305_296:=zA (zB5 hg BK296.out:gb305 ≠ gb296);replace BK296:=zA (zB1 BK296.out hb);have NB297_305:=zA (zB4 hg BK297.out:gb297 ≠ gb305);have NB305_297:=zA (zB5 hg BK297.out:gb305 ≠ gb297);replace BK297:=zA (zB1 BK297.out hb);have NB298_305:=zA (zB4 hg BK298.out:gb298 ≠ gb305);have NB305_298:=zA (zB5 hg BK298.out:gb305 ≠ gb298);replace BK298:=zA (zB1 BK298.out hb);clear hb hbox hg;have hnb41:=NB305_296.out;have hnc41:=NB296_305.out;have hnb42:=NB305_297.out;have hnc42:=NB297_305.out;have hnb43:=NB305_298.out;have hnc43:=NB298_305.out;obtain ⟨hcz44_0,hcz44_1,hfz44_0,hfz44_1⟩:=zB3 BK305.out;obtain ⟨Ao45,co45,eo45⟩:=kM HO304.out;subst eo45))
   go_loopg [9] kj3 (fun kq v9 w' => ∃ (x9_2:Int) (x306001_2:List Int) (u306001:Value),v9 = .int .i64 x9_2 ∧ Aside0 (spec_l02Beside.l0 kq a2 x9_2 a0_0 l0_1 a1_0 l1_1 t301 x306001_2 = some (r1,r2,r3)) ∧ Aside0 (kq ≤ kj3) ∧ Aside0 (Kd.R (Kd.int .i64) 2 w' w.heap.size (fun _=>True) u306001 x306001_2) ∧ Aside0 (w'.heap[gb296]? = some (.cells #[.int .i64 a0_0,(.slice A0_1 l0_1.length c0_1)] 26 (0,0))) ∧ Aside0 (w'.heap[gb297]? = some (.cells #[.int .i64 a1_0,(.slice A1_1 l1_1.length c1_1)] 26 (0,0))) ∧ Aside0 (w'.heap[gb298]? = some (.cells #[.int .i64 0,(.slice none 0 0)] 26 (0,0))) ∧ Aside0 (w'.heap[gb305]? = some (.cells #[.int .i64 t301,u306001] 26 (0,0))) ∧ Aside0 (Below w.heap.size w w'))
   case atStart=>exact ⟨(0),(t302),(.slice Ao45 t302.length co45),zs,H', ⟨Nat.le_refl _⟩,⟨by (with_reducible repeat (first | apply zF | apply zG | apply zH));exact kA (kY (p:=⟨gb305,1,none⟩) (kY (p:=⟨gb305,0,none⟩) (kD HO304.out BK305.out (by decide)) (fun _ hk=>hk.2) (.int .i64 t301)) (fun _ hk=>hk.2) (.slice Ao45 t302.length co45)) (fun _ hk=>trivial)⟩,⟨by (with_reducible repeat (first | refine zJ ?_ _ | refine zK ?_ | refine zI ?_ _));refine blk_far ?_ NB296_305.out _;(with_reducible repeat (first | refine zJ ?_ _ | refine zK ?_ | refine zI ?_ _));refine blk_far ?_ NB296_305.out _;(with_reducible repeat (first | refine zJ ?_ _ | refine zK ?_ | refine zI ?_ _));exact BK296.out⟩,⟨by (with_reducible repeat (first | refine zJ ?_ _ | refine zK ?_ | refine zI ?_ _));refine blk_far ?_ NB297_305.out _;(with_reducible repeat (first | refine zJ ?_ _ | refine zK ?_ | refine zI ?_ _));refine blk_far ?_ NB297_305.out _;(with_reducible repeat (first | refine zJ ?_ _ | refine zK ?_ | refine zI ?_ _));exact BK297.out⟩,⟨by (with_reducible repeat (first | refine zJ ?_ _ | refine zK ?_ | refine zI ?_ _));refine blk_far ?_ NB298_305.out _;(with_reducible repeat (first | refine zJ ?_ _ | refine zK ?_ | refine zI ?_ _));refine blk_far ?_ NB298_305.out _;(with_reducible repeat (first | refine zJ ?_ _ | refine zK ?_ | refine zI ?_ _));exact BK298.out⟩,⟨by (with_reducible repeat (first | refine zJ ?_ _ | refine zK ?_ | refine zI ?_ _));refine blk_put (cs:=#[.int .i64 t301,.slice none 0 0]) ?_ 1 _ rfl;(with_reducible repeat (first | refine zJ ?_ _ | refine zK ?_ | refine zI ?_ _));refine blk_put (cs:=#[.int .i64 0,.slice none 0 0]) ?_ 0 _ rfl;(with_reducible repeat (first | refine zJ ?_ _ | refine zK ?_ | refine zI ?_ _));exact BK305.out⟩,⟨by repeat (first | (with_reducible first | exact HB.out | apply zB | apply zC | apply zD | refine zE ?_ GE296.out | refine zE ?_ GE297.out | refine zE ?_ GE298.out | refine zE ?_ GE305.out) | exact HB.out)⟩⟩
   case round =>
    clear H'
    try clear c1
    try clear c2
    try clear c3
    try clear c4
    try clear c9
    try clear c11
    try clear c12
    try clear c15
    try clear c18
    try clear c19
    try clear c22
    try clear c23
    try clear c24
    try clear c26
    try clear c27
    try clear c28
    try clear c30
    try clear c34
    try clear c35
    try clear c37
    try clear c41
    try clear c42
    try clear c43
    try clear hcz13_0
    try clear hcz13_1
    try clear hcz16_0
    try clear hcz16_1
    try clear hcz20_0
    try clear hcz20_1
    try clear hcz25_0
    try clear hcz25_1
    try clear hcz29_0
    try clear hcz29_1
    try clear hcz31_0
    try clear hcz31_1
    try clear hcz32_0
    try clear hcz32_1
    try clear hcz36_0
    try clear hcz36_1
    try clear hcz38_0
    try clear hcz38_1
    try clear hcz44_0
    try clear hcz44_1
    try clear hfz13_0
    try clear hfz13_1
    try clear hfz16_0
    try clear hfz16_1
    try clear hfz20_0
    try clear hfz20_1
    try clear hfz25_0
    try clear hfz25_1
    try clear hfz29_0
    try clear hfz29_1
    try clear hfz31_0
    try clear hfz31_1
    try clear hfz32_0
    try clear hfz32_1
    try clear hfz36_0
    try clear hfz36_1
    try clear hfz38_0
    try clear hfz38_1
    try clear hfz44_0
    try clear hfz44_1
    obtain ⟨x9_2,x306001_2,u306001,rfl,HA,HK2,HO_306001,BK296,BK297,BK298,BK305,HB⟩:=hrel
    cases gk with
    | zero=>exact absurd HA.out (by simp [spec_l02Beside.l0])
    | succ k2 =>
     have H:=HA.out
     clear HA
     simp only [spec_l02Beside.l0] at H
     by_cases c46:x9_2 < t301
     ·rw [if_pos c46] at H
      have c46b0:decide (x9_2 < t301) = true:=decide_eq_true c46
      clear c46
      have H' := zA H
      clear H
      have hnb47:=NB305_296.out
      have hnc47:=NB296_305.out
      have hnb48:=NB305_297.out
      have hnc48:=NB297_305.out
      have hnb49:=NB305_298.out
      have hnc49:=NB298_305.out
      obtain ⟨hcz50_0,hcz50_1,hfz50_0,hfz50_1⟩:=zB3 BK305.out
      go_wp2
      go_loopg [10] k2 (fun kq v10 w' => ∃ (x10_3:Int) (x306001_3:List Int) (u306001:Value),v10 = .int .i64 x10_3 ∧ Aside0 (spec_l02Beside.l1 kq a2 x9_2 x10_3 a0_0 l0_1 a1_0 l1_1 t301 x306001_3 = some (r1,r2,r3)) ∧ Aside0 (kq ≤ k2) ∧ Aside0 (Kd.R (Kd.int .i64) 2 w' w.heap.size (fun _=>True) u306001 x306001_3) ∧ Aside0 (w'.heap[gb296]? = some (.cells #[.int .i64 a0_0,(.slice A0_1 l0_1.length c0_1)] 26 (0,0))) ∧ Aside0 (w'.heap[gb297]? = some (.cells #[.int .i64 a1_0,(.slice A1_1 l1_1.length c1_1)] 26 (0,0))) ∧ Aside0 (w'.heap[gb298]? = some (.cells #[.int .i64 0,(.slice none 0 0)] 26 (0,0))) ∧ Aside0 (w'.heap[gb305]? = some (.cells #[.int .i64 t301,u306001] 26 (0,0))) ∧ Aside0 (Below w.heap.size w w'))
      case atStart=>exact ⟨(0),(x306001_2),(u306001),zs,H', ⟨Nat.le_refl _⟩,⟨zP HO_306001.out⟩,⟨zR BK296.out⟩,⟨zR BK297.out⟩,⟨zR BK298.out⟩,⟨zR BK305.out⟩,⟨by repeat (first | (with_reducible first | exact HB.out | apply zB | apply zC | apply zD | refine zE ?_ GE296.out | refine zE ?_ GE297.out | refine zE ?_ GE298.out | refine zE ?_ GE305.out) | exact HB.out)⟩⟩
      case round =>
       clear H'
       try clear c1
       try clear c2
       try clear c3
       try clear c4
       try clear c9
       try clear c11
       try clear c12
       try clear c15
       try clear c18
       try clear c19
       try clear c22
       try clear c23
       try clear c24
       try clear c26
       try clear c27
       try clear c28
       try clear c30
       try clear c34
       try clear c35
       try clear c37
       try clear c41
       try clear c42
       try clear c43
       try clear c46
       try clear c47
       try clear c48
       try clear c49
       try clear hcz13_0
       try clear hcz13_1
       try clear hcz16_0
       try clear hcz16_1
       try clear hcz20_0
       try clear hcz20_1
       try clear hcz25_0
       try clear hcz25_1
       try clear hcz29_0
       try clear hcz29_1
       try clear hcz31_0
       try clear hcz31_1
       try clear hcz32_0
       try clear hcz32_1
       try clear hcz36_0
       try clear hcz36_1
       try clear hcz38_0
       try clear hcz38_1
       try clear hcz44_0
       try clear hcz44_1
       try clear hcz50_0
       try clear hcz50_1
       try clear hfz13_0
       try clear hfz13_1
       try clear hfz16_0
       try clear hfz16_1
       try clear hfz20_0
       try clear hfz20_1
       try clear hfz25_0
       try clear hfz25_1
       try clear hfz29_0
       try clear hfz29_1
       try clear hfz31_0
       try clear hfz31_1
       try clear hfz32_0
       try clear hfz32_1
       try clear hfz36_0
       try clear hfz36_1
       try clear hfz38_0
       try clear hfz38_1
       try clear hfz44_0
       try clear hfz44_1
       try clear hfz50_0
       try clear hfz50_1
       obtain ⟨x10_3,x306001_3,u306001,rfl,HA,HK3,HO_306001,BK296,BK297,BK298,BK305,HB⟩:=hrel
       cases gk with
       | zero=>exact absurd HA.out (by simp [spec_l02Beside.l1])
       | succ k3 =>
        have H:=HA.out
        clear HA
        simp only [spec_l02Beside.l1] at H
        by_cases c51:x10_3 < t301
        ·rw [if_pos c51] at H
         have c51b0:decide (x10_3 < t301) = true:=decide_eq_true c51
         clear c51
         have HC52:=zA H
         clear H
         have hnb53:=NB305_296.out
         have hnc53:=NB296_305.out
         have hnb54:=NB305_297.out
         have hnc54:=NB297_305.out
         have hnb55:=NB305_298.out
         have hnc55:=NB298_305.out
         obtain ⟨hcz56_0,hcz56_1,hfz56_0,hfz56_1⟩:=zB3 BK305.out
         go_upto_region 12 with (fail)
         go_cut [45] (fun v45 wc=>∃ (kq:Nat) (x45_51:Bool),v45 = .bool x45_51 ∧ Aside0 (spec_l02Beside.j3 kq a2 x9_2 x10_3 x45_51 a0_0 l0_1 a1_0 l1_1 t301 x306001_3 = some (r1,r2,r3)) ∧ Aside0 (kq ≤ k3) ∧ Aside0 (Kd.R (Kd.int .i64) 2 wc w.heap.size (fun _=>True) u306001 x306001_3) ∧ Aside0 (wc.heap[gb296]? = some (.cells #[.int .i64 a0_0,(.slice A0_1 l0_1.length c0_1)] 26 (0,0))) ∧ Aside0 (wc.heap[gb297]? = some (.cells #[.int .i64 a1_0,(.slice A1_1 l1_1.length c1_1)] 26 (0,0))) ∧ Aside0 (wc.heap[gb298]? = some (.cells #[.int .i64 0,(.slice none 0 0)] 26 (0,0))) ∧ Aside0 (wc.heap[gb305]? = some (.cells #[.int .i64 t301,u306001] 26 (0,0))) ∧ Aside0 (Below w.heap.size w wc))
         case first =>
          have H:=HC52.out
          clear HC52
          by_cases c57:x9_2 < a0_0
          ·rw [if_pos c57] at H
           have c57b0:decide (x9_2 < a0_0) = true:=decide_eq_true c57
           clear c57
           (first | rw [c57b0] | (simp only [i64_w,i32_w];rw [c57b0]) | skip)
           have H' := zA H
           clear H
           have hnb58:=NB296_297.out
           have hnc58:=NB297_296.out
           have hnb59:=NB296_298.out
           have hnc59:=NB298_296.out
           have hnb60:=NB296_305.out
           have hnc60:=NB305_296.out
           obtain ⟨hcz61_0,hcz61_1,hfz61_0,hfz61_1⟩:=zB3 BK296.out
           go_wp2
           go_meet
           case rel=>exact ⟨_,(decide (x10_3 < a0_0)),zs,H', ⟨by have:=HJ3.out;have:=HK2.out;have:=HK3.out;first | omega | exact Nat.le_refl _⟩,⟨zP HO_306001.out⟩,⟨zR BK296.out⟩,⟨zR BK297.out⟩,⟨zR BK298.out⟩,⟨zR BK305.out⟩,⟨by repeat (first | (with_reducible first | exact HB.out | apply zB | apply zC | apply zD | refine zE ?_ GE296.out | refine zE ?_ GE297.out | refine zE ?_ GE298.out | refine zE ?_ GE305.out) | exact HB.out)⟩⟩
          rw [if_neg c57] at H
          have c57b0:decide (x9_2 < a0_0) = false:=decide_eq_false c57
          clear c57
          (first | rw [c57b0] | (simp only [i64_w,i32_w];rw [c57b0]) | skip)
          have H' := zA H
          clear H
          have hnb62:=NB296_297.out
          have hnc62:=NB297_296.out
          have hnb63:=NB296_298.out
          have hnc63:=NB298_296.out
          have hnb64:=NB296_305.out
          have hnc64:=NB305_296.out
          obtain ⟨hcz65_0,hcz65_1,hfz65_0,hfz65_1⟩:=zB3 BK296.out
          go_wp2
          go_meet
          case rel=>exact ⟨_,(false),zs,H', ⟨by have:=HJ3.out;have:=HK2.out;have:=HK3.out;first | omega | exact Nat.le_refl _⟩,⟨zP HO_306001.out⟩,⟨zR BK296.out⟩,⟨zR BK297.out⟩,⟨zR BK298.out⟩,⟨zR BK305.out⟩,⟨by repeat (first | (with_reducible first | exact HB.out | apply zB | apply zC | apply zD | refine zE ?_ GE296.out | refine zE ?_ GE297.out | refine zE ?_ GE298.out | refine zE ?_ GE305.out) | exact HB.out)⟩⟩
         case rest =>
          clear HC52
          try clear c1
          try clear c2
          try clear c3
          try clear c4
          try clear c5
          try clear c6
          try clear c9
          try clear c11
          try clear c12
          try clear c15
          try clear c18
          try clear c19
          try clear c22
          try clear c23
          try clear c24
          try clear c26
          try clear c27
          try clear c28
          try clear c30
          try clear c34
          try clear c35
          try clear c37
          try clear c41
          try clear c42
          try clear c43
          try clear c46
          try clear c47
          try clear c48
          try clear c49
          try clear c51
          try clear c53
          try clear c54
          try clear c55
          try clear c57
          try clear c58
          try clear c59
          try clear c60
          try clear c62
          try clear c63
          try clear c64
          try clear hcz13_0
          try clear hcz13_1
          try clear hcz16_0
          try clear hcz16_1
          try clear hcz20_0
          try clear hcz20_1
          try clear hcz25_0
          try clear hcz25_1
          try clear hcz29_0
          try clear hcz29_1
          try clear hcz31_0
          try clear hcz31_1
          try clear hcz32_0
          try clear hcz32_1
          try clear hcz36_0
          try clear hcz36_1
          try clear hcz38_0
          try clear hcz38_1
          try clear hcz44_0
          try clear hcz44_1
          try clear hcz50_0
          try clear hcz50_1
          try clear hcz56_0
          try clear hcz56_1
          try clear hcz61_0
          try clear hcz61_1
          try clear hcz65_0
          try clear hcz65_1
          try clear hfz13_0
          try clear hfz13_1
          try clear hfz16_0
          try clear hfz16_1
          try clear hfz20_0
          try clear hfz20_1
          try clear hfz25_0
          try clear hfz25_1
          try clear hfz29_0
          try clear hfz29_1
          try clear hfz31_0
          try clear hfz31_1
          try clear hfz32_0
          try clear hfz32_1
          try clear hfz36_0
          try clear hfz36_1
          try clear hfz38_0
          try clear hfz38_1
          try clear hfz44_0
          try clear hfz44_1
          try clear hfz50_0
          try clear hfz50_1
          try clear hfz56_0
          try clear hfz56_1
          try clear hfz61_0
          try clear hfz61_1
          try clear hfz65_0
          try clear hfz65_1
          obtain ⟨kq,x45_51,rfl,HA,HJ51,HO_306001,BK296,BK297,BK298,BK305,HB⟩:=hcut
          cases kq with
          | zero=>exact absurd HA.out (by simp [spec_l02Beside.j3])
          | succ kj51 =>
           have H:=HA.out
           clear HA
           simp only [spec_l02Beside.j3] at H
           by_cases c66:x45_51 = true
           ·subst c66
            rw [if_pos rfl] at H
            obtain ⟨t306,A67,H⟩:=zb H
            try dsimp only at H
            by_cases c68:t306 = true
            ·subst c68
             rw [if_pos rfl] at H
             obtain ⟨t307,A69,H⟩:=zb H
             try dsimp only at H
             have H' := zA H
             clear H
             have hnb70:=NB296_297.out
             have hnc70:=NB297_296.out
             have hnb71:=NB296_298.out
             have hnc71:=NB298_296.out
             have hnb72:=NB296_305.out
             have hnc72:=NB305_296.out
             obtain ⟨hcz73_0,hcz73_1,hfz73_0,hfz73_1⟩:=zB3 BK296.out
             go_wp2_with (first | (refine zO (some 59) Tryd.func48 #[.agg #[.int .i64 a0_0,.slice A0_1 l0_1.length c0_1],.int .i64 x9_2,.int .i64 x10_3] ?_;(with_reducible refine (spec_l02Dep.calls a0_0 _ _ l0_1 x9_2 x10_3 true _ ?side1 ?side2 A67.out).mono ?_);(case side1=>exact zS (kO HR0_1.out HB.out));(case side2=>exact HC0_1.out);rintro e w74 ⟨rfl,hb⟩;refine ⟨_,rfl,?_⟩;replace HO_306001:=zA (kL (zP HO_306001.out) hb);replace BK296:=zA (zB1 BK296.out hb);replace BK297:=zA (zB1 BK297.out hb);replace BK298:=zA (zB1 BK298.out hb);replace BK305:=zA (zB1 BK305.out hb);replace HB:=zA (kQ (by repeat (first | (with_reducible first | exact HB.out | apply zB | apply zC | apply zD | refine zE ?_ GE296.out | refine zE ?_ GE297.out | refine zE ?_ GE298.out | refine zE ?_ GE305.out) | exact HB.out)) hb);(try clear hb);have hnb75:=NB305_297.out;have hnc75:=NB297_305.out;have hnb76:=NB305_298.out;have hnc76:=NB298_305.out;obtain ⟨hcz77_0,hcz77_1,hfz77_0,hfz77_1⟩:=zB3 BK305.out;obtain ⟨Ao78,co78,eo78⟩:=kM HO_306001.out;subst eo78) | (refine zO (some 63) Tryd.func49 #[.agg #[.int .i64 t301,.slice Ao78 x306001_3.length co78],.int .i64 x9_2,.int .i64 x10_3] ?_;(with_reducible refine (spec_l02Join.calls t301 (fun k_=>some k_ = (.slice Ao78 x306001_3.length co78:Value).ownBlock) (.slice Ao78 x306001_3.length co78) x306001_3 x9_2 x10_3 t307 w _ ?side1 ?side2 A69.out).mono ?_);(case side1=>repeat (first | (with_reducible first | exact HB.out | apply zB | apply zC | apply zD | refine zE ?_ GE296.out | refine zE ?_ GE297.out | refine zE ?_ GE298.out | refine zE ?_ GE305.out) | exact HB.out));(case side2=>exact jK rfl HO_306001.out);rintro e w79 ⟨rfl,hy0,hb,hkp⟩;refine ⟨_,rfl,?_⟩;replace BK296:=zA (blk_kept (zR BK296.out) hkp (fun hs_=>(fun e_=>(Kd.R_ne HO_306001.out BK296.out (by decide)) e_) hs_));replace BK297:=zA (blk_kept (zR BK297.out) hkp (fun hs_=>(fun e_=>(Kd.R_ne HO_306001.out BK297.out (by decide)) e_) hs_));replace BK298:=zA (blk_kept (zR BK298.out) hkp (fun hs_=>(fun e_=>(Kd.R_ne HO_306001.out BK298.out (by decide)) e_) hs_));replace BK305:=zA (blk_kept (zR BK305.out) hkp (fun hs_=>(fun e_=>(Kd.R_ne HO_306001.out BK305.out (by decide)) e_) hs_));replace HO_306001:=zA (Kd.R_reok rfl hy0 (fun k_ e_=>HO_306001.out.1 k_ e_));replace HB:=zA (hb);(try clear hb);(try clear hkp);(try clear hy0)))
             go_roundg kj51
             case measure=>have:=HJ3.out;have:=HK2.out;have:=HK3.out;have:=HJ51.out;omega
             case rel=>exact ⟨(wrap64 (x10_3 + 1)),(t307),(.slice Ao78 x306001_3.length co78),zs,H', ⟨by have:=HJ3.out;have:=HK2.out;have:=HK3.out;have:=HJ51.out;omega⟩,⟨zP HO_306001.out⟩,⟨zR BK296.out⟩,⟨zR BK297.out⟩,⟨zR BK298.out⟩,⟨zR BK305.out⟩,⟨by repeat (first | (with_reducible first | exact HB.out | apply zB | apply zC | apply zD | refine zE ?_ GE296.out | refine zE ?_ GE297.out | refine zE ?_ GE298.out | refine zE ?_ GE305.out) | exact HB.out)⟩⟩
            replace c68:=Bool.eq_false_iff.mpr c68
            subst c68
            rw [if_neg (show ¬ (false = true) by decide)] at H
            have H' := zA H
            clear H
            have hnb80:=NB296_297.out
            have hnc80:=NB297_296.out
            have hnb81:=NB296_298.out
            have hnc81:=NB298_296.out
            have hnb82:=NB296_305.out
            have hnc82:=NB305_296.out
            obtain ⟨hcz83_0,hcz83_1,hfz83_0,hfz83_1⟩:=zB3 BK296.out
            go_wp2_with (first | (refine zO (some 59) Tryd.func48 #[.agg #[.int .i64 a0_0,.slice A0_1 l0_1.length c0_1],.int .i64 x9_2,.int .i64 x10_3] ?_;(with_reducible refine (spec_l02Dep.calls a0_0 _ _ l0_1 x9_2 x10_3 false _ ?side1 ?side2 A67.out).mono ?_);(case side1=>exact zS (kO HR0_1.out HB.out));(case side2=>exact HC0_1.out);rintro e w84 ⟨rfl,hb⟩;refine ⟨_,rfl,?_⟩;replace HO_306001:=zA (kL (zP HO_306001.out) hb);replace BK296:=zA (zB1 BK296.out hb);replace BK297:=zA (zB1 BK297.out hb);replace BK298:=zA (zB1 BK298.out hb);replace BK305:=zA (zB1 BK305.out hb);replace HB:=zA (kQ (by repeat (first | (with_reducible first | exact HB.out | apply zB | apply zC | apply zD | refine zE ?_ GE296.out | refine zE ?_ GE297.out | refine zE ?_ GE298.out | refine zE ?_ GE305.out) | exact HB.out)) hb);(try clear hb)))
            go_roundg kj51
            case measure=>have:=HJ3.out;have:=HK2.out;have:=HK3.out;have:=HJ51.out;omega
            case rel=>exact ⟨(wrap64 (x10_3 + 1)),(x306001_3),(u306001),zs,H', ⟨by have:=HJ3.out;have:=HK2.out;have:=HK3.out;have:=HJ51.out;omega⟩,⟨zP HO_306001.out⟩,⟨zR BK296.out⟩,⟨zR BK297.out⟩,⟨zR BK298.out⟩,⟨zR BK305.out⟩,⟨by repeat (first | (with_reducible first | exact HB.out | apply zB | apply zC | apply zD | refine zE ?_ GE296.out | refine zE ?_ GE297.out | refine zE ?_ GE298.out | refine zE ?_ GE305.out) | exact HB.out)⟩⟩
           replace c66:=Bool.eq_false_iff.mpr c66
           subst c66
           rw [if_neg (show ¬ (false = true) by decide)] at H
           have HC85:=zA H
           clear H
           go_upto_region 15 with (fail)
           go_cut [64] (fun v64 wc=>∃ (kq:Nat) (x64_84:Bool),v64 = .bool x64_84 ∧ Aside0 (spec_l02Beside.j4 kq a2 x9_2 x10_3 x64_84 a0_0 l0_1 a1_0 l1_1 t301 x306001_3 = some (r1,r2,r3)) ∧ Aside0 (kq ≤ kj51) ∧ Aside0 (Kd.R (Kd.int .i64) 2 wc w.heap.size (fun _=>True) u306001 x306001_3) ∧ Aside0 (wc.heap[gb296]? = some (.cells #[.int .i64 a0_0,(.slice A0_1 l0_1.length c0_1)] 26 (0,0))) ∧ Aside0 (wc.heap[gb297]? = some (.cells #[.int .i64 a1_0,(.slice A1_1 l1_1.length c1_1)] 26 (0,0))) ∧ Aside0 (wc.heap[gb298]? = some (.cells #[.int .i64 0,(.slice none 0 0)] 26 (0,0))) ∧ Aside0 (wc.heap[gb305]? = some (.cells #[.int .i64 t301,u306001] 26 (0,0))) ∧ Aside0 (Below w.heap.size w wc))
           case first =>
            have H:=HC85.out
            clear HC85
            by_cases c86:x9_2 ≥ a0_0
            ·rw [if_pos c86] at H
             have c86b0:decide (a0_0 ≤ x9_2) = true:=decide_eq_true c86
             clear c86
             (first | rw [c86b0] | (simp only [i64_w,i32_w];rw [c86b0]) | skip)
             have H' := zA H
             clear H
             have hnb87:=NB296_297.out
             have hnc87:=NB297_296.out
             have hnb88:=NB296_298.out
             have hnc88:=NB298_296.out
             have hnb89:=NB296_305.out
             have hnc89:=NB305_296.out
             obtain ⟨hcz90_0,hcz90_1,hfz90_0,hfz90_1⟩:=zB3 BK296.out
             go_wp2
             go_meet
             case rel=>exact ⟨_,(decide (x10_3 ≥ a0_0)),zs,H', ⟨by have:=HJ3.out;have:=HK2.out;have:=HK3.out;have:=HJ51.out;first | omega | exact Nat.le_refl _⟩,⟨zP HO_306001.out⟩,⟨zR BK296.out⟩,⟨zR BK297.out⟩,⟨zR BK298.out⟩,⟨zR BK305.out⟩,⟨by repeat (first | (with_reducible first | exact HB.out | apply zB | apply zC | apply zD | refine zE ?_ GE296.out | refine zE ?_ GE297.out | refine zE ?_ GE298.out | refine zE ?_ GE305.out) | exact HB.out)⟩⟩
            rw [if_neg c86] at H
            have c86b0:decide (a0_0 ≤ x9_2) = false:=decide_eq_false c86
            clear c86
            (first | rw [c86b0] | (simp only [i64_w,i32_w];rw [c86b0]) | skip)
            have H' := zA H
            clear H
            have hnb91:=NB296_297.out
            have hnc91:=NB297_296.out
            have hnb92:=NB296_298.out
            have hnc92:=NB298_296.out
            have hnb93:=NB296_305.out
            have hnc93:=NB305_296.out
            obtain ⟨hcz94_0,hcz94_1,hfz94_0,hfz94_1⟩:=zB3 BK296.out
            go_wp2
            go_meet
            case rel=>exact ⟨_,(false),zs,H', ⟨by have:=HJ3.out;have:=HK2.out;have:=HK3.out;have:=HJ51.out;first | omega | exact Nat.le_refl _⟩,⟨zP HO_306001.out⟩,⟨zR BK296.out⟩,⟨zR BK297.out⟩,⟨zR BK298.out⟩,⟨zR BK305.out⟩,⟨by repeat (first | (with_reducible first | exact HB.out | apply zB | apply zC | apply zD | refine zE ?_ GE296.out | refine zE ?_ GE297.out | refine zE ?_ GE298.out | refine zE ?_ GE305.out) | exact HB.out)⟩⟩
           case rest =>
            clear HC85
            try clear c1
            try clear c2
            try clear c3
            try clear c4
            try clear c5
            try clear c6
            try clear c7
            try clear c8
            try clear c9
            try clear c11
            try clear c12
            try clear c15
            try clear c18
            try clear c19
            try clear c22
            try clear c23
            try clear c24
            try clear c26
            try clear c27
            try clear c28
            try clear c30
            try clear c34
            try clear c35
            try clear c37
            try clear c41
            try clear c42
            try clear c43
            try clear c46
            try clear c47
            try clear c48
            try clear c49
            try clear c51
            try clear c53
            try clear c54
            try clear c55
            try clear c57
            try clear c58
            try clear c59
            try clear c60
            try clear c62
            try clear c63
            try clear c64
            try clear c66
            try clear c68
            try clear c70
            try clear c71
            try clear c72
            try clear c75
            try clear c76
            try clear c80
            try clear c81
            try clear c82
            try clear c86
            try clear c87
            try clear c88
            try clear c89
            try clear c91
            try clear c92
            try clear c93
            try clear hcz13_0
            try clear hcz13_1
            try clear hcz16_0
            try clear hcz16_1
            try clear hcz20_0
            try clear hcz20_1
            try clear hcz25_0
            try clear hcz25_1
            try clear hcz29_0
            try clear hcz29_1
            try clear hcz31_0
            try clear hcz31_1
            try clear hcz32_0
            try clear hcz32_1
            try clear hcz36_0
            try clear hcz36_1
            try clear hcz38_0
            try clear hcz38_1
            try clear hcz44_0
            try clear hcz44_1
            try clear hcz50_0
            try clear hcz50_1
            try clear hcz56_0
            try clear hcz56_1
            try clear hcz61_0
            try clear hcz61_1
            try clear hcz65_0
            try clear hcz65_1
            try clear hcz73_0
            try clear hcz73_1
            try clear hcz77_0
            try clear hcz77_1
            try clear hcz83_0
            try clear hcz83_1
            try clear hcz90_0
            try clear hcz90_1
            try clear hcz94_0
            try clear hcz94_1
            try clear hfz13_0
            try clear hfz13_1
            try clear hfz16_0
            try clear hfz16_1
            try clear hfz20_0
            try clear hfz20_1
            try clear hfz25_0
            try clear hfz25_1
            try clear hfz29_0
            try clear hfz29_1
            try clear hfz31_0
            try clear hfz31_1
            try clear hfz32_0
            try clear hfz32_1
            try clear hfz36_0
            try clear hfz36_1
            try clear hfz38_0
            try clear hfz38_1
            try clear hfz44_0
            try clear hfz44_1
            try clear hfz50_0
            try clear hfz50_1
            try clear hfz56_0
            try clear hfz56_1
            try clear hfz61_0
            try clear hfz61_1
            try clear hfz65_0
            try clear hfz65_1
            try clear hfz73_0
            try clear hfz73_1
            try clear hfz77_0
            try clear hfz77_1
            try clear hfz83_0
            try clear hfz83_1
            try clear hfz90_0
            try clear hfz90_1
            try clear hfz94_0
            try clear hfz94_1
            obtain ⟨kq,x64_84,rfl,HA,HJ84,HO_306001,BK296,BK297,BK298,BK305,HB⟩:=hcut
            cases kq with
            | zero=>exact absurd HA.out (by simp [spec_l02Beside.j4])
            | succ kj84 =>
             have H:=HA.out
             clear HA
             simp only [spec_l02Beside.j4] at H
             by_cases c95:x64_84 = true
             ·subst c95
              rw [if_pos rfl] at H
              obtain ⟨t308,A96,H⟩:=zb H
              try dsimp only at H
              by_cases c97:t308 = true
              ·subst c97
               rw [if_pos rfl] at H
               obtain ⟨t309,A98,H⟩:=zb H
               try dsimp only at H
               have H' := zA H
               clear H
               have hnb99:=NB297_296.out
               have hnc99:=NB296_297.out
               have hnb100:=NB297_298.out
               have hnc100:=NB298_297.out
               have hnb101:=NB297_305.out
               have hnc101:=NB305_297.out
               obtain ⟨hcz102_0,hcz102_1,hfz102_0,hfz102_1⟩:=zB3 BK297.out
               have hnb103:=NB296_298.out
               have hnc103:=NB298_296.out
               have hnb104:=NB296_305.out
               have hnc104:=NB305_296.out
               obtain ⟨hcz105_0,hcz105_1,hfz105_0,hfz105_1⟩:=zB3 BK296.out
               go_wp2_with (first | (refine zO (some 84) Tryd.func48 #[.agg #[.int .i64 a1_0,.slice A1_1 l1_1.length c1_1],.int .i64 (wrap64 (x9_2 - a0_0)),.int .i64 (wrap64 (x10_3 - a0_0))] ?_;(with_reducible refine (spec_l02Dep.calls a1_0 _ _ l1_1 (wrap64 (x9_2 - a0_0)) (wrap64 (x10_3 - a0_0)) true _ ?side1 ?side2 A96.out).mono ?_);(case side1=>exact zS (kO HR1_1.out HB.out));(case side2=>exact HC1_1.out);rintro e w106 ⟨rfl,hb⟩;refine ⟨_,rfl,?_⟩;replace HO_306001:=zA (kL (zP HO_306001.out) hb);replace BK296:=zA (zB1 BK296.out hb);replace BK297:=zA (zB1 BK297.out hb);replace BK298:=zA (zB1 BK298.out hb);replace BK305:=zA (zB1 BK305.out hb);replace HB:=zA (kQ (by repeat (first | (with_reducible first | exact HB.out | apply zB | apply zC | apply zD | refine zE ?_ GE296.out | refine zE ?_ GE297.out | refine zE ?_ GE298.out | refine zE ?_ GE305.out) | exact HB.out)) hb);(try clear hb);have hnb107:=NB305_298.out;have hnc107:=NB298_305.out;obtain ⟨hcz108_0,hcz108_1,hfz108_0,hfz108_1⟩:=zB3 BK305.out;obtain ⟨Ao109,co109,eo109⟩:=kM HO_306001.out;subst eo109) | (refine zO (some 88) Tryd.func49 #[.agg #[.int .i64 t301,.slice Ao109 x306001_3.length co109],.int .i64 x9_2,.int .i64 x10_3] ?_;(with_reducible refine (spec_l02Join.calls t301 (fun k_=>some k_ = (.slice Ao109 x306001_3.length co109:Value).ownBlock) (.slice Ao109 x306001_3.length co109) x306001_3 x9_2 x10_3 t309 w _ ?side1 ?side2 A98.out).mono ?_);(case side1=>repeat (first | (with_reducible first | exact HB.out | apply zB | apply zC | apply zD | refine zE ?_ GE296.out | refine zE ?_ GE297.out | refine zE ?_ GE298.out | refine zE ?_ GE305.out) | exact HB.out));(case side2=>exact jK rfl HO_306001.out);rintro e w110 ⟨rfl,hy0,hb,hkp⟩;refine ⟨_,rfl,?_⟩;replace BK296:=zA (blk_kept (zR BK296.out) hkp (fun hs_=>(fun e_=>(Kd.R_ne HO_306001.out BK296.out (by decide)) e_) hs_));replace BK297:=zA (blk_kept (zR BK297.out) hkp (fun hs_=>(fun e_=>(Kd.R_ne HO_306001.out BK297.out (by decide)) e_) hs_));replace BK298:=zA (blk_kept (zR BK298.out) hkp (fun hs_=>(fun e_=>(Kd.R_ne HO_306001.out BK298.out (by decide)) e_) hs_));replace BK305:=zA (blk_kept (zR BK305.out) hkp (fun hs_=>(fun e_=>(Kd.R_ne HO_306001.out BK305.out (by decide)) e_) hs_));replace HO_306001:=zA (Kd.R_reok rfl hy0 (fun k_ e_=>HO_306001.out.1 k_ e_));replace HB:=zA (hb);(try clear hb);(try clear hkp);(try clear hy0)))
               go_roundg kj84
               case measure=>have:=HJ3.out;have:=HK2.out;have:=HK3.out;have:=HJ51.out;have:=HJ84.out;omega
               case rel=>exact ⟨(wrap64 (x10_3 + 1)),(t309),(.slice Ao109 x306001_3.length co109),zs,H', ⟨by have:=HJ3.out;have:=HK2.out;have:=HK3.out;have:=HJ51.out;have:=HJ84.out;omega⟩,⟨zP HO_306001.out⟩,⟨zR BK296.out⟩,⟨zR BK297.out⟩,⟨zR BK298.out⟩,⟨zR BK305.out⟩,⟨by repeat (first | (with_reducible first | exact HB.out | apply zB | apply zC | apply zD | refine zE ?_ GE296.out | refine zE ?_ GE297.out | refine zE ?_ GE298.out | refine zE ?_ GE305.out) | exact HB.out)⟩⟩
              replace c97:=Bool.eq_false_iff.mpr c97
              subst c97
              rw [if_neg (show ¬ (false = true) by decide)] at H
              have H' := zA H
              clear H
              have hnb111:=NB297_296.out
              have hnc111:=NB296_297.out
              have hnb112:=NB297_298.out
              have hnc112:=NB298_297.out
              have hnb113:=NB297_305.out
              have hnc113:=NB305_297.out
              obtain ⟨hcz114_0,hcz114_1,hfz114_0,hfz114_1⟩:=zB3 BK297.out
              have hnb115:=NB296_298.out
              have hnc115:=NB298_296.out
              have hnb116:=NB296_305.out
              have hnc116:=NB305_296.out
              obtain ⟨hcz117_0,hcz117_1,hfz117_0,hfz117_1⟩:=zB3 BK296.out
              go_wp2_with (first | (refine zO (some 84) Tryd.func48 #[.agg #[.int .i64 a1_0,.slice A1_1 l1_1.length c1_1],.int .i64 (wrap64 (x9_2 - a0_0)),.int .i64 (wrap64 (x10_3 - a0_0))] ?_;(with_reducible refine (spec_l02Dep.calls a1_0 _ _ l1_1 (wrap64 (x9_2 - a0_0)) (wrap64 (x10_3 - a0_0)) false _ ?side1 ?side2 A96.out).mono ?_);(case side1=>exact zS (kO HR1_1.out HB.out));(case side2=>exact HC1_1.out);rintro e w118 ⟨rfl,hb⟩;refine ⟨_,rfl,?_⟩;replace HO_306001:=zA (kL (zP HO_306001.out) hb);replace BK296:=zA (zB1 BK296.out hb);replace BK297:=zA (zB1 BK297.out hb);replace BK298:=zA (zB1 BK298.out hb);replace BK305:=zA (zB1 BK305.out hb);replace HB:=zA (kQ (by repeat (first | (with_reducible first | exact HB.out | apply zB | apply zC | apply zD | refine zE ?_ GE296.out | refine zE ?_ GE297.out | refine zE ?_ GE298.out | refine zE ?_ GE305.out) | exact HB.out)) hb);(try clear hb)))
              go_roundg kj84
              case measure=>have:=HJ3.out;have:=HK2.out;have:=HK3.out;have:=HJ51.out;have:=HJ84.out;omega
              case rel=>exact ⟨(wrap64 (x10_3 + 1)),(x306001_3),(u306001),zs,H', ⟨by have:=HJ3.out;have:=HK2.out;have:=HK3.out;have:=HJ51.out;have:=HJ84.out;omega⟩,⟨zP HO_306001.out⟩,⟨zR BK296.out⟩,⟨zR BK297.out⟩,⟨zR BK298.out⟩,⟨zR BK305.out⟩,⟨by repeat (first | (with_reducible first | exact HB.out | apply zB | apply zC | apply zD | refine zE ?_ GE296.out | refine zE ?_ GE297.out | refine zE ?_ GE298.out | refine zE ?_ GE305.out) | exact HB.out)⟩⟩
             replace c95:=Bool.eq_false_iff.mpr c95
             subst c95
             rw [if_neg (show ¬ (false = true) by decide)] at H
             by_cases c119:a2 = true
             ·subst c119
              rw [if_pos rfl] at H
              obtain ⟨t310,A120,H⟩:=zb H
              try dsimp only at H
              have H' := zA H
              clear H
              have hnb121:=NB305_296.out
              have hnc121:=NB296_305.out
              have hnb122:=NB305_297.out
              have hnc122:=NB297_305.out
              have hnb123:=NB305_298.out
              have hnc123:=NB298_305.out
              obtain ⟨hcz124_0,hcz124_1,hfz124_0,hfz124_1⟩:=zB3 BK305.out
              obtain ⟨Ao125,co125,eo125⟩:=kM HO_306001.out
              subst eo125
              go_wp2_with (first | (refine zO (some 94) Tryd.func49 #[.agg #[.int .i64 t301,.slice Ao125 x306001_3.length co125],.int .i64 x9_2,.int .i64 x10_3] ?_;(with_reducible refine (spec_l02Join.calls t301 (fun k_=>some k_ = (.slice Ao125 x306001_3.length co125:Value).ownBlock) (.slice Ao125 x306001_3.length co125) x306001_3 x9_2 x10_3 t310 w _ ?side1 ?side2 A120.out).mono ?_);(case side1=>repeat (first | (with_reducible first | exact HB.out | apply zB | apply zC | apply zD | refine zE ?_ GE296.out | refine zE ?_ GE297.out | refine zE ?_ GE298.out | refine zE ?_ GE305.out) | exact HB.out));(case side2=>exact jK rfl HO_306001.out);rintro e w126 ⟨rfl,hy0,hb,hkp⟩;refine ⟨_,rfl,?_⟩;replace BK296:=zA (blk_kept (zR BK296.out) hkp (fun hs_=>(fun e_=>(Kd.R_ne HO_306001.out BK296.out (by decide)) e_) hs_));replace BK297:=zA (blk_kept (zR BK297.out) hkp (fun hs_=>(fun e_=>(Kd.R_ne HO_306001.out BK297.out (by decide)) e_) hs_));replace BK298:=zA (blk_kept (zR BK298.out) hkp (fun hs_=>(fun e_=>(Kd.R_ne HO_306001.out BK298.out (by decide)) e_) hs_));replace BK305:=zA (blk_kept (zR BK305.out) hkp (fun hs_=>(fun e_=>(Kd.R_ne HO_306001.out BK305.out (by decide)) e_) hs_));replace HO_306001:=zA (Kd.R_reok rfl hy0 (fun k_ e_=>HO_306001.out.1 k_ e_));replace HB:=zA (hb);(try clear hb);(try clear hkp);(try clear hy0)))
              go_roundg kj84
              case measure=>have:=HJ3.out;have:=HK2.out;have:=HK3.out;have:=HJ51.out;have:=HJ84.out;omega
              case rel=>exact ⟨(wrap64 (x10_3 + 1)),(t310),(.slice Ao125 x306001_3.length co125),zs,H', ⟨by have:=HJ3.out;have:=HK2.out;have:=HK3.out;have:=HJ51.out;have:=HJ84.out;omega⟩,⟨zP HO_306001.out⟩,⟨zR BK296.out⟩,⟨zR BK297.out⟩,⟨zR BK298.out⟩,⟨zR BK305.out⟩,⟨by repeat (first | (with_reducible first | exact HB.out | apply zB | apply zC | apply zD | refine zE ?_ GE296.out | refine zE ?_ GE297.out | refine zE ?_ GE298.out | refine zE ?_ GE305.out) | exact HB.out)⟩⟩
             replace c119:=Bool.eq_false_iff.mpr c119
             subst c119
             rw [if_neg (show ¬ (false = true) by decide)] at H
             have H' := zA H
             clear H
             go_wp2
             go_roundg kj84
             case measure=>have:=HJ3.out;have:=HK2.out;have:=HK3.out;have:=HJ51.out;have:=HJ84.out;omega
             case rel=>exact ⟨(wrap64 (x10_3 + 1)),(x306001_3),(u306001),zs,H', ⟨by have:=HJ3.out;have:=HK2.out;have:=HK3.out;have:=HJ51.out;have:=HJ84.out;omega⟩,⟨zP HO_306001.out⟩,⟨zR BK296.out⟩,⟨zR BK297.out⟩,⟨zR BK298.out⟩,⟨zR BK305.out⟩,⟨by repeat (first | (with_reducible first | exact HB.out | apply zB | apply zC | apply zD | refine zE ?_ GE296.out | refine zE ?_ GE297.out | refine zE ?_ GE298.out | refine zE ?_ GE305.out) | exact HB.out)⟩⟩
        rw [if_neg c51] at H
        have c51b0:decide (x10_3 < t301) = false:=decide_eq_false c51
        clear c51
        have H' := zA H
        clear H
        have hnb127:=NB305_296.out
        have hnc127:=NB296_305.out
        have hnb128:=NB305_297.out
        have hnc128:=NB297_305.out
        have hnb129:=NB305_298.out
        have hnc129:=NB298_305.out
        obtain ⟨hcz130_0,hcz130_1,hfz130_0,hfz130_1⟩:=zB3 BK305.out
        go_wp2
        go_roundg k3
        case measure=>have:=HJ3.out;have:=HK2.out;have:=HK3.out;omega
        case rel=>exact ⟨(wrap64 (x9_2 + 1)),(x306001_3),(u306001),zs,H', ⟨by have:=HJ3.out;have:=HK2.out;have:=HK3.out;omega⟩,⟨zP HO_306001.out⟩,⟨zR BK296.out⟩,⟨zR BK297.out⟩,⟨zR BK298.out⟩,⟨zR BK305.out⟩,⟨by repeat (first | (with_reducible first | exact HB.out | apply zB | apply zC | apply zD | refine zE ?_ GE296.out | refine zE ?_ GE297.out | refine zE ?_ GE298.out | refine zE ?_ GE305.out) | exact HB.out)⟩⟩
     rw [if_neg c46] at H
     have c46b0:decide (x9_2 < t301) = false:=decide_eq_false c46
     clear c46
     simp only [Option.some.injEq,Prod.mk.injEq] at H
     obtain ⟨rfl,rfl,rfl⟩:=H
     have hnb131:=NB305_296.out
     have hnc131:=NB296_305.out
     have hnb132:=NB305_297.out
     have hnc132:=NB297_305.out
     have hnb133:=NB305_298.out
     have hnc133:=NB298_305.out
     obtain ⟨hcz134_0,hcz134_1,hfz134_0,hfz134_1⟩:=zB3 BK305.out
     have hnb135:=NB298_296.out
     have hnc135:=NB296_298.out
     have hnb136:=NB298_297.out
     have hnc136:=NB297_298.out
     obtain ⟨hcz137_0,hcz137_1,hfz137_0,hfz137_1⟩:=zB3 BK298.out
     obtain ⟨Ao138,co138,eo138⟩:=kM HO_306001.out
     subst eo138
     go_wp2
     refine bodyPost_ret (results_ct rfl _ _ gb298 26 #[.int .i64 t301,.slice Ao138 x306001_2.length co138] (0,0) _ rfl (zRP BK298.out) Tryd.underlying26 rfl (by kernel_rfl)) rfl ?_
     exact ⟨_,zr,by (with_reducible repeat (first | apply zF | apply zG | apply zH));exact kA (kY (p:=⟨gb298,1,none⟩) (kY (p:=⟨gb298,0,none⟩) (kD HO_306001.out BK298.out (by decide)) (fun _ hk=>hk.2) (.int .i64 t301)) (fun _ hk=>hk.2) (.slice Ao138 x306001_2.length co138)) (fun _ hk=>trivial),by repeat (first | (with_reducible first | exact HB.out | apply zB | apply zC | apply zD | refine zE ?_ GE296.out | refine zE ?_ GE297.out | refine zE ?_ GE298.out | refine zE ?_ GE305.out) | exact HB.out)⟩
def spec_DirectProduct.f (k:Nat) (a0_0:Int) (l0_1:List Int) (a1_0:Int) (l1_1:List Int):Option (Int × List Int × Int):=(spec_l02Beside.f k a0_0 l0_1 a1_0 l1_1 false).bind fun bt314=>(some (bt314.1,bt314.2.1,bt314.2.2))
set_option maxHeartbeats 8000000 in
set_option maxRecDepth 100000 in
theorem spec_DirectProduct.calls (k : Nat) (a0_0 : Int) (A0_1 : Option Addr) (c0_1 : Nat) (l0_1 : List Int) (a1_0 : Int) (A1_1 : Option Addr) (c1_1 : Nat) (l1_1 : List Int) (r1 : Int) (r2 : List Int) (r3 : Int) (w : World) (hr0_1 : Kd.C (Kd.int .i64) w A0_1 l0_1.length l0_1) (hc0_1 : l0_1.length ≤ c0_1) (hr1_1 : Kd.C (Kd.int .i64) w A1_1 l1_1.length l1_1) (hc1_1 : l1_1.length ≤ c1_1) (h : spec_DirectProduct.f k a0_0 l0_1 a1_0 l1_1 = some (r1, r2, r3)) :
  Calls Tryd.prog 8 #[.agg #[.int .i64 a0_0,.slice A0_1 l0_1.length c0_1],.agg #[.int .i64 a1_0,.slice A1_1 l1_1.length c1_1]] w fun e w' => ∃ v1_:Value,e = .returned (.tuple #[.agg #[.int .i64 r1,v1_],.int .i64 r3]) ∧ Kd.R (Kd.int .i64) 2 w' w.heap.size (fun _=>True) v1_ r2 ∧ Below w.heap.size w w' := by
 have hu26:=Tryd.underlying26
 have HR0_1:=zA hr0_1
 have HC0_1:=zA hc0_1
 clear hr0_1 hc0_1
 have HR1_1:=zA hr1_1
 have HC1_1:=zA hc1_1
 clear hr1_1 hc1_1
 have HB:=zA (kW w.heap.size w)
 have H:=h
 unfold spec_DirectProduct.f at H
 clear h
 obtain ⟨⟨t314,t315,t318⟩,A3,H⟩:=zb H
 try dsimp only at H
 simp only [Option.some.injEq,Prod.mk.injEq] at H
 obtain ⟨rfl,rfl,rfl⟩:=H
 go_enter Tryd.func8,Tryd.ntmps8
 go_wp2_with (first | (refine zBE 2 #[.int .i64 a0_0,.slice A0_1 l0_1.length c0_1] 26 ?_;intro gb311 hg w4 hbox hb;have BK311:=zA (hbox);have GW311:=zA (zBH hg HB.out);have GE311:=zA (zBH hg HB.out);replace HB:=zA (kQ (zQ HB.out) hb);clear hb hbox hg) | (refine zBE 3 #[.int .i64 a1_0,.slice A1_1 l1_1.length c1_1] 26 ?_;intro gb312 hg w5 hbox hb;have BK312:=zA (hbox);have GW312:=zA (zB6 hg (kP (zT HB.out GE311.out)):w.heap.size ≤ gb312);have GE312:=zA (zB6 hg (kP (zT HB.out GE311.out)):w.heap.size ≤ gb312);replace HB:=zA (kQ (zT HB.out GE311.out) hb);have NB311_312:=zA (zB4 hg BK311.out:gb311 ≠ gb312);have NB312_311:=zA (zB5 hg BK311.out:gb312 ≠ gb311);replace BK311:=zA (zB1 BK311.out hb);clear hb hbox hg) | (refine zBE 4 #[.int .i64 0,.slice none 0 0] 26 ?_;intro gb313 hg w6 hbox hb;have BK313:=zA (hbox);have GW313:=zA (zB6 hg (kP (zV HB.out GE311.out GE312.out)):w.heap.size ≤ gb313);have GE313:=zA (zB6 hg (kP (zV HB.out GE311.out GE312.out)):w.heap.size ≤ gb313);replace HB:=zA (kQ (zV HB.out GE311.out GE312.out) hb);have NB311_313:=zA (zB4 hg BK311.out:gb311 ≠ gb313);have NB313_311:=zA (zB5 hg BK311.out:gb313 ≠ gb311);replace BK311:=zA (zB1 BK311.out hb);have NB312_313:=zA (zB4 hg BK312.out:gb312 ≠ gb313);have NB313_312:=zA (zB5 hg BK312.out:gb313 ≠ gb312);replace BK312:=zA (zB1 BK312.out hb);clear hb hbox hg;have hnb7:=NB311_312.out;have hnc7:=NB312_311.out;have hnb8:=NB311_313.out;have hnc8:=NB313_311.out;obtain ⟨hcz9_0,hcz9_1,hfz9_0,hfz9_1⟩:=zB3 BK311.out;have hnb10:=NB312_313.out;have hnc10:=NB313_312.out;obtain ⟨hcz11_0,hcz11_1,hfz11_0,hfz11_1⟩:=zB3 BK312.out) | (refine zO (some 8) Tryd.func22 #[.agg #[.int .i64 a0_0,.slice A0_1 l0_1.length c0_1],.agg #[.int .i64 a1_0,.slice A1_1 l1_1.length c1_1],.bool false] ?_;(with_reducible refine (spec_l02Beside.calls k a0_0 _ _ l0_1 a1_0 _ _ l1_1 false t314 t315 t318 _ ?side1 ?side2 ?side3 ?side4 A3.out).mono ?_);(case side1=>exact zS (kO HR0_1.out HB.out));(case side2=>exact HC0_1.out);(case side3=>exact zS (kO HR1_1.out HB.out));(case side4=>exact HC1_1.out);rintro e w12 ⟨v316,rfl,ho0,hb⟩;refine ⟨_,rfl,?_⟩;have HO317:=zA (kI ho0 (kP (zW HB.out GE311.out GE312.out GE313.out)));replace BK311:=zA (zB1 BK311.out hb);replace BK312:=zA (zB1 BK312.out hb);replace BK313:=zA (zB1 BK313.out hb);replace HB:=zA (kQ (zW HB.out GE311.out GE312.out GE313.out) hb);(try clear hb);(try clear ho0);obtain ⟨hcz13_0,hcz13_1,hfz13_0,hfz13_1⟩:=zB3 BK313.out;obtain ⟨Ao14,co14,eo14⟩:=kM HO317.out;subst eo14))
 refine bodyPost_ret (results_ct rfl _ _ gb313 26 #[.int .i64 t314,.slice Ao14 t315.length co14] (0,0) _ rfl (zRP BK313.out) Tryd.underlying26 rfl (by kernel_rfl)) rfl ?_
 exact ⟨_,zr,by (with_reducible repeat (first | apply zF | apply zG | apply zH));exact kA (kY (p:=⟨gb313,1,none⟩) (kY (p:=⟨gb313,0,none⟩) (kD HO317.out BK313.out (by decide)) (fun _ hk=>hk.2) (.int .i64 t314)) (fun _ hk=>hk.2) (.slice Ao14 t315.length co14)) (fun _ hk=>trivial),zW HB.out GE311.out GE312.out GE313.out⟩
def laws_likeInts.l0:Nat → List Int → List Int → Int → Option (Bool)
 | 0,_,_,_=>none
 | k + 1,x0,x1,x5=>if x5 < (x0.length:Int) then (if 0 ≤ x5 then (if x5 < (x1.length:Int) then (if (rd x0 x5) = (rd x1 x5) then (laws_likeInts.l0 k x0 x1 (wrap64 (x5 + 1))) else (some false)) else (none)) else (none)) else (some true)
def laws_likeInts.f (k:Nat) (l0:List Int) (l1:List Int):Option (Bool):=if (l0.length:Int) = (l1.length:Int) then (laws_likeInts.l0 k l0 l1 0) else (some false)
set_option maxHeartbeats 8000000 in
set_option maxRecDepth 100000 in
theorem laws_likeInts.calls (k : Nat) (A0 : Option Addr) (c0 : Nat) (l0 : List Int) (A1 : Option Addr) (c1 : Nat) (l1 : List Int) (r : Bool) (w : World) (hr0 : Kd.C (Kd.int .i64) w A0 l0.length l0) (hc0 : l0.length ≤ c0) (hr1 : Kd.C (Kd.int .i64) w A1 l1.length l1) (hc1 : l1.length ≤ c1) (h : laws_likeInts.f k l0 l1 = some r) :
  Calls Tryd.prog 23 #[.slice A0 l0.length c0,.slice A1 l1.length c1] w fun e w' => e = .returned (.bool r) ∧ Drawn0 w w' := by
 have HR0:=zA hr0
 have HC0:=zA hc0
 clear hr0 hc0
 have HR1:=zA hr1
 have HC1:=zA hc1
 clear hr1 hc1
 have H:=h
 unfold laws_likeInts.f at H
 clear h
 by_cases c3:(l0.length:Int) = (l1.length:Int)
 ·rw [if_pos c3] at H
  obtain ⟨c3b0,c3b1⟩:=zT1 c3
  have c3b2:(l0.length == l1.length) = true:=by first | simpa using c3 | (simp at c3 ⊢;omega)
  clear c3
  have H' := zA H
  clear H
  go_enter Tryd.func23,Tryd.ntmps23
  go_wp2
  repeat (go_quiet (fail);try go_wp2)
  go_loopg [5] k (fun kq v5 w' => ∃ (x5_1:Int),v5 = .int .i64 x5_1 ∧ Aside0 (laws_likeInts.l0 kq l0 l1 x5_1 = some r) ∧ Aside0 (kq ≤ k) ∧ Drawn0 w w')
  case atStart=>exact ⟨(0),zs,H', ⟨Nat.le_refl _⟩,by repeat (first | exact Drawn0.refl _ | apply Drawn0.step)⟩
  case round =>
   clear H'
   try clear c1
   try clear c2
   try clear c3
   obtain ⟨x5_1,rfl,HA,HK1,⟨m1,rfl⟩⟩:=hrel
   cases gk with
   | zero=>exact absurd HA.out (by simp [laws_likeInts.l0])
   | succ k1 =>
    have H:=HA.out
    clear HA
    simp only [laws_likeInts.l0] at H
    by_cases c4:x5_1 < (l0.length:Int)
    ·rw [if_pos c4] at H
     have c4b0:decide (x5_1 < (l0.length:Int)) = true:=decide_eq_true c4
     clear c4
     by_cases c5:0 ≤ x5_1
     ·rw [if_pos c5] at H
      have c5b0:decide (0 ≤ x5_1) = true:=decide_eq_true c5
      clear c5
      by_cases c6:x5_1 < (l1.length:Int)
      ·rw [if_pos c6] at H
       have c6b0:decide (x5_1 < (l1.length:Int)) = true:=decide_eq_true c6
       clear c6
       by_cases c7:(rd l0 x5_1) = (rd l1 x5_1)
       ·rw [if_pos c7] at H
        obtain ⟨c7b0,c7b1⟩:=zT1 c7
        clear c7
        have H' := zA H
        clear H
        have p319:0 ≤ (x5_1:Int):=zd
        have q319:x5_1 < (l0.length:Int):=zd
        obtain ⟨ad319,e319,hx319_0⟩:=Kd.at_int HR0.out x5_1 p319 q319
        cases e319
        replace p319:=eq_true p319
        replace q319:=eq_true q319
        have p320:0 ≤ (x5_1:Int):=zd
        have q320:x5_1 < (l1.length:Int):=zd
        obtain ⟨ad320,e320,hx320_0⟩:=Kd.at_int HR1.out x5_1 p320 q320
        cases e320
        replace p320:=eq_true p320
        replace q320:=eq_true q320
        go_wp2
        repeat (go_quiet (fail);try go_wp2)
        go_roundg k1
        case measure=>have:=HK1.out;omega
        case rel=>exact ⟨(wrap64 (x5_1 + 1)),zs,H', ⟨by have:=HK1.out;omega⟩,by repeat (first | exact Drawn0.refl _ | apply Drawn0.step)⟩
       rw [if_neg c7] at H
       obtain ⟨c7b0,c7b1⟩:=zT2 c7
       obtain rfl:=Option.some.inj H
       have p319:0 ≤ (x5_1:Int):=zd
       have q319:x5_1 < (l0.length:Int):=zd
       obtain ⟨ad319,e319,hx319_0⟩:=Kd.at_int HR0.out x5_1 p319 q319
       cases e319
       replace p319:=eq_true p319
       replace q319:=eq_true q319
       have p320:0 ≤ (x5_1:Int):=zd
       have q320:x5_1 < (l1.length:Int):=zd
       obtain ⟨ad320,e320,hx320_0⟩:=Kd.at_int HR1.out x5_1 p320 q320
       cases e320
       replace p320:=eq_true p320
       replace q320:=eq_true q320
       go_wp2
       repeat (go_quiet (fail);try go_wp2)
       go_ret
       exact ⟨zs,by repeat (first | exact Drawn0.refl _ | apply Drawn0.step)⟩
      rw [if_neg c6] at H
      exact absurd H (by simp)
     rw [if_neg c5] at H
     exact absurd H (by simp)
    rw [if_neg c4] at H
    have c4b0:decide (x5_1 < (l0.length:Int)) = false:=decide_eq_false c4
    clear c4
    obtain rfl:=Option.some.inj H
    go_wp2
    repeat (go_quiet (fail);try go_wp2)
    go_ret
    exact ⟨zs,by repeat (first | exact Drawn0.refl _ | apply Drawn0.step)⟩
 rw [if_neg c3] at H
 obtain ⟨c3b0,c3b1⟩:=zT2 c3
 have c3b2:(l0.length == l1.length) = false:=by first | simpa using c3 | (simp at c3 ⊢;omega)
 obtain rfl:=Option.some.inj H
 go_enter Tryd.func23,Tryd.ntmps23
 go_wp2
 repeat (go_quiet (fail);try go_wp2)
 go_ret
 exact ⟨zs,by repeat (first | exact Drawn0.refl _ | apply Drawn0.step)⟩
def laws_likeAlphabet5.f (k:Nat) (a0_0:Int) (l0_1:List Int) (a1_0:Int) (l1_1:List Int):Option (Bool):=if a0_0 = a1_0 then ((laws_likeInts.f k l0_1 l1_1).bind fun t323=>(some t323)) else (some false)
set_option maxHeartbeats 8000000 in
set_option maxRecDepth 100000 in
theorem laws_likeAlphabet5.calls (k : Nat) (a0_0 : Int) (A0_1 : Option Addr) (c0_1 : Nat) (l0_1 : List Int) (a1_0 : Int) (A1_1 : Option Addr) (c1_1 : Nat) (l1_1 : List Int) (r : Bool) (w : World) (hr0_1 : Kd.C (Kd.int .i64) w A0_1 l0_1.length l0_1) (hc0_1 : l0_1.length ≤ c0_1) (hr1_1 : Kd.C (Kd.int .i64) w A1_1 l1_1.length l1_1) (hc1_1 : l1_1.length ≤ c1_1) (h : laws_likeAlphabet5.f k a0_0 l0_1 a1_0 l1_1 = some r) :
  Calls Tryd.prog 9 #[.agg #[.int .i64 a0_0,.slice A0_1 l0_1.length c0_1],.agg #[.int .i64 a1_0,.slice A1_1 l1_1.length c1_1]] w fun e w' => e = .returned (.bool r) ∧ Below w.heap.size w w' := by
 have hu26:=Tryd.underlying26
 have HR0_1:=zA hr0_1
 have HC0_1:=zA hc0_1
 clear hr0_1 hc0_1
 have HR1_1:=zA hr1_1
 have HC1_1:=zA hc1_1
 clear hr1_1 hc1_1
 have HB:=zA (kW w.heap.size w)
 have H:=h
 unfold laws_likeAlphabet5.f at H
 clear h
 by_cases c3:a0_0 = a1_0
 ·rw [if_pos c3] at H
  obtain ⟨c3b0,c3b1⟩:=zT1 c3
  clear c3
  obtain ⟨t323,A4,H⟩:=zb H
  try dsimp only at H
  obtain rfl:=Option.some.inj H
  go_enter Tryd.func9,Tryd.ntmps9
  go_wp2_with (first | (refine zBE 2 #[.int .i64 a0_0,.slice A0_1 l0_1.length c0_1] 26 ?_;intro gb321 hg w5 hbox hb;have BK321:=zA (hbox);have GW321:=zA (zBH hg HB.out);have GE321:=zA (zBH hg HB.out);replace HB:=zA (kQ (zQ HB.out) hb);clear hb hbox hg) | (refine zBE 3 #[.int .i64 a1_0,.slice A1_1 l1_1.length c1_1] 26 ?_;intro gb322 hg w6 hbox hb;have BK322:=zA (hbox);have GW322:=zA (zB6 hg (kP (zT HB.out GE321.out)):w.heap.size ≤ gb322);have GE322:=zA (zB6 hg (kP (zT HB.out GE321.out)):w.heap.size ≤ gb322);replace HB:=zA (kQ (zT HB.out GE321.out) hb);have NB321_322:=zA (zB4 hg BK321.out:gb321 ≠ gb322);have NB322_321:=zA (zB5 hg BK321.out:gb322 ≠ gb321);replace BK321:=zA (zB1 BK321.out hb);clear hb hbox hg;have hnb7:=NB321_322.out;have hnc7:=NB322_321.out;obtain ⟨hcz8_0,hcz8_1,hfz8_0,hfz8_1⟩:=zB3 BK321.out;obtain ⟨hcz9_0,hcz9_1,hfz9_0,hfz9_1⟩:=zB3 BK322.out) | (go_at_call 23;(with_reducible refine (laws_likeInts.calls k _ _ l0_1 _ _ l1_1 t323 _ ?side1 ?side2 ?side3 ?side4 A4.out).mono ?_);(case side1=>exact zS (kO HR0_1.out HB.out));(case side2=>exact HC0_1.out);(case side3=>exact zS (kO HR1_1.out HB.out));(case side4=>exact HC1_1.out);rintro e w' ⟨rfl,⟨nd,rfl⟩⟩))
  go_ret
  exact ⟨zr,zV HB.out GE321.out GE322.out⟩
 rw [if_neg c3] at H
 obtain ⟨c3b0,c3b1⟩:=zT2 c3
 obtain rfl:=Option.some.inj H
 go_enter Tryd.func9,Tryd.ntmps9
 go_wp2_with (first | (refine zBE 2 #[.int .i64 a0_0,.slice A0_1 l0_1.length c0_1] 26 ?_;intro gb321 hg w10 hbox hb;have BK321:=zA (hbox);have GW321:=zA (zBH hg HB.out);have GE321:=zA (zBH hg HB.out);replace HB:=zA (kQ (zQ HB.out) hb);clear hb hbox hg) | (refine zBE 3 #[.int .i64 a1_0,.slice A1_1 l1_1.length c1_1] 26 ?_;intro gb322 hg w11 hbox hb;have BK322:=zA (hbox);have GW322:=zA (zB6 hg (kP (zT HB.out GE321.out)):w.heap.size ≤ gb322);have GE322:=zA (zB6 hg (kP (zT HB.out GE321.out)):w.heap.size ≤ gb322);replace HB:=zA (kQ (zT HB.out GE321.out) hb);have NB321_322:=zA (zB4 hg BK321.out:gb321 ≠ gb322);have NB322_321:=zA (zB5 hg BK321.out:gb322 ≠ gb321);replace BK321:=zA (zB1 BK321.out hb);clear hb hbox hg;have hnb12:=NB321_322.out;have hnc12:=NB322_321.out;obtain ⟨hcz13_0,hcz13_1,hfz13_0,hfz13_1⟩:=zB3 BK321.out;obtain ⟨hcz14_0,hcz14_1,hfz14_0,hfz14_1⟩:=zB3 BK322.out))
 go_ret
 exact ⟨zr,zV HB.out GE321.out GE322.out⟩
def impl_FreeProduct.f (k:Nat) (a0_0:Int) (l0_1:List Int) (a1_0:Int) (l1_1:List Int):Option (Int × List Int × Int):=(impl_product.f k a0_0 l0_1 a1_0 l1_1 true).bind fun bt327=>(some (bt327.1,bt327.2.1,bt327.2.2))
set_option maxHeartbeats 8000000 in
set_option maxRecDepth 100000 in
theorem impl_FreeProduct.calls (k : Nat) (a0_0 : Int) (A0_1 : Option Addr) (c0_1 : Nat) (l0_1 : List Int) (a1_0 : Int) (A1_1 : Option Addr) (c1_1 : Nat) (l1_1 : List Int) (r1 : Int) (r2 : List Int) (r3 : Int) (w : World) (hr0_1 : Kd.C (Kd.int .i64) w A0_1 l0_1.length l0_1) (hc0_1 : l0_1.length ≤ c0_1) (hr1_1 : Kd.C (Kd.int .i64) w A1_1 l1_1.length l1_1) (hc1_1 : l1_1.length ≤ c1_1) (hT : TabW w) (h : impl_FreeProduct.f k a0_0 l0_1 a1_0 l1_1 = some (r1, r2, r3)) :
  Calls Tryd.prog 10 #[.agg #[.int .i64 a0_0,.slice A0_1 l0_1.length c0_1],.agg #[.int .i64 a1_0,.slice A1_1 l1_1.length c1_1]] w fun e w' => ∃ v1_:Value,e = .returned (.tuple #[.agg #[.int .i64 r1,v1_],.int .i64 r3]) ∧ Kd.R (Kd.int .i64) 2 w' w.heap.size (fun _=>True) v1_ r2 ∧ Below w.heap.size w w' := by
 have hu26:=Tryd.underlying26
 have HT:=zA hT
 clear hT
 have HR0_1:=zA hr0_1
 have HC0_1:=zA hc0_1
 clear hr0_1 hc0_1
 have HR1_1:=zA hr1_1
 have HC1_1:=zA hc1_1
 clear hr1_1 hc1_1
 have HB:=zA (kW w.heap.size w)
 have H:=h
 unfold impl_FreeProduct.f at H
 clear h
 obtain ⟨⟨t327,t328,t331⟩,A3,H⟩:=zb H
 try dsimp only at H
 simp only [Option.some.injEq,Prod.mk.injEq] at H
 obtain ⟨rfl,rfl,rfl⟩:=H
 go_enter Tryd.func10,Tryd.ntmps10
 go_wp2_with (first | (refine zBE 2 #[.int .i64 a0_0,.slice A0_1 l0_1.length c0_1] 26 ?_;intro gb324 hg w4 hbox hb;have BK324:=zA (hbox);have GW324:=zA (zBH hg HB.out);have GE324:=zA (zBH hg HB.out);replace HB:=zA (kQ (zQ HB.out) hb);clear hb hbox hg) | (refine zBE 3 #[.int .i64 a1_0,.slice A1_1 l1_1.length c1_1] 26 ?_;intro gb325 hg w5 hbox hb;have BK325:=zA (hbox);have GW325:=zA (zB6 hg (kP (zT HB.out GE324.out)):w.heap.size ≤ gb325);have GE325:=zA (zB6 hg (kP (zT HB.out GE324.out)):w.heap.size ≤ gb325);replace HB:=zA (kQ (zT HB.out GE324.out) hb);have NB324_325:=zA (zB4 hg BK324.out:gb324 ≠ gb325);have NB325_324:=zA (zB5 hg BK324.out:gb325 ≠ gb324);replace BK324:=zA (zB1 BK324.out hb);clear hb hbox hg) | (refine zBE 4 #[.int .i64 0,.slice none 0 0] 26 ?_;intro gb326 hg w6 hbox hb;have BK326:=zA (hbox);have GW326:=zA (zB6 hg (kP (zV HB.out GE324.out GE325.out)):w.heap.size ≤ gb326);have GE326:=zA (zB6 hg (kP (zV HB.out GE324.out GE325.out)):w.heap.size ≤ gb326);replace HB:=zA (kQ (zV HB.out GE324.out GE325.out) hb);have NB324_326:=zA (zB4 hg BK324.out:gb324 ≠ gb326);have NB326_324:=zA (zB5 hg BK324.out:gb326 ≠ gb324);replace BK324:=zA (zB1 BK324.out hb);have NB325_326:=zA (zB4 hg BK325.out:gb325 ≠ gb326);have NB326_325:=zA (zB5 hg BK325.out:gb326 ≠ gb325);replace BK325:=zA (zB1 BK325.out hb);clear hb hbox hg;have hnb7:=NB324_325.out;have hnc7:=NB325_324.out;have hnb8:=NB324_326.out;have hnc8:=NB326_324.out;obtain ⟨hcz9_0,hcz9_1,hfz9_0,hfz9_1⟩:=zB3 BK324.out;have hnb10:=NB325_326.out;have hnc10:=NB326_325.out;obtain ⟨hcz11_0,hcz11_1,hfz11_0,hfz11_1⟩:=zB3 BK325.out) | (refine zO (some 8) Tryd.func21 #[.agg #[.int .i64 a0_0,.slice A0_1 l0_1.length c0_1],.agg #[.int .i64 a1_0,.slice A1_1 l1_1.length c1_1],.bool true] ?_;(with_reducible refine (impl_product.calls k a0_0 _ _ l0_1 a1_0 _ _ l1_1 true t327 t328 t331 _ ?side1 ?side2 ?side3 ?side4 ?side5 A3.out).mono ?_);(case side1=>exact zS (kO HR0_1.out HB.out));(case side2=>exact HC0_1.out);(case side3=>exact zS (kO HR1_1.out HB.out));(case side4=>exact HC1_1.out);(case side5=>exact TabW.below HT.out (zW HB.out GE324.out GE325.out GE326.out));rintro e w12 ⟨v329,rfl,ho0,hb⟩;refine ⟨_,rfl,?_⟩;have HO330:=zA (kI ho0 (kP (zW HB.out GE324.out GE325.out GE326.out)));replace BK324:=zA (zB1 BK324.out hb);replace BK325:=zA (zB1 BK325.out hb);replace BK326:=zA (zB1 BK326.out hb);replace HB:=zA (kQ (zW HB.out GE324.out GE325.out GE326.out) hb);(try clear hb);(try clear ho0);obtain ⟨hcz13_0,hcz13_1,hfz13_0,hfz13_1⟩:=zB3 BK326.out;obtain ⟨Ao14,co14,eo14⟩:=kM HO330.out;subst eo14))
 refine bodyPost_ret (results_ct rfl _ _ gb326 26 #[.int .i64 t327,.slice Ao14 t328.length co14] (0,0) _ rfl (zRP BK326.out) Tryd.underlying26 rfl (by kernel_rfl)) rfl ?_
 exact ⟨_,zr,by (with_reducible repeat (first | apply zF | apply zG | apply zH));exact kA (kY (p:=⟨gb326,1,none⟩) (kY (p:=⟨gb326,0,none⟩) (kD HO330.out BK326.out (by decide)) (fun _ hk=>hk.2) (.int .i64 t327)) (fun _ hk=>hk.2) (.slice Ao14 t328.length co14)) (fun _ hk=>trivial),zW HB.out GE324.out GE325.out GE326.out⟩
def impl_allLetters.f (a0_0:Int) (l0_1:List Int):Option (Int):=(impl_one.f a0_0).bind fun t460=>(some (wrap64 (t460 - 1)))
set_option maxHeartbeats 8000000 in
set_option maxRecDepth 100000 in
theorem impl_allLetters.calls (a0_0 : Int) (A0_1 : Option Addr) (c0_1 : Nat) (l0_1 : List Int) (r : Int) (w : World) (hr0_1 : Kd.C (Kd.int .i64) w A0_1 l0_1.length l0_1) (hc0_1 : l0_1.length ≤ c0_1) (h : impl_allLetters.f a0_0 l0_1 = some r) :
  Calls Tryd.prog 90 #[.agg #[.int .i64 a0_0,.slice A0_1 l0_1.length c0_1]] w fun e w' => e = .returned (.int .i64 r) ∧ Below w.heap.size w w' := by
 have hu26:=Tryd.underlying26
 have HR0_1:=zA hr0_1
 have HC0_1:=zA hc0_1
 clear hr0_1 hc0_1
 have HB:=zA (kW w.heap.size w)
 have H:=h
 unfold impl_allLetters.f at H
 clear h
 obtain ⟨t460,A2,H⟩:=zb H
 try dsimp only at H
 obtain rfl:=Option.some.inj H
 go_enter Tryd.func90,Tryd.ntmps90
 go_wp2_with (first | (refine zBE 1 #[.int .i64 a0_0,.slice A0_1 l0_1.length c0_1] 26 ?_;intro gb459 hg w3 hbox hb;have BK459:=zA (hbox);have GW459:=zA (zBH hg HB.out);have GE459:=zA (zBH hg HB.out);replace HB:=zA (kQ (zQ HB.out) hb);clear hb hbox hg;obtain ⟨hcz4_0,hcz4_1,hfz4_0,hfz4_1⟩:=zB3 BK459.out) | (refine zO (some 5) Tryd.func31 #[.int .i64 a0_0] ?_;(with_reducible refine (impl_one.calls a0_0 t460 _ A2.out).mono ?_);rintro e w' ⟨rfl,⟨nd,rfl⟩⟩;refine ⟨_,rfl,?_⟩))
 go_ret
 exact ⟨zr,zT HB.out GE459.out⟩
def impl_complement.l0:Nat → List Int → Int → Int → Int → List Int → Int → List Int → Option (Int × List Int)
 | 0,_,_,_,_,_,_,_=>none
 | k + 1,x10,x11,x12,x462000,x462001,x464000,x464001=>if x12 < x11 then (if 0 ≤ x12 then (if x12 < (x10.length:Int) then ((impl_allLetters.f x462000 x462001).bind fun t465=>((impl_one.f x12).bind fun t466=>(if x464001.length < 17592186044416 then (impl_complement.l0 k x10 x11 (wrap64 (x12 + 1)) x462000 x462001 x464000 (x464001 ++ [Go.bits .or .i64 (Go.bits .andNot .i64 t465 (rd x10 x12)) t466])) else (none)))) else (none)) else (none)) else (some (x464000,x464001))
def impl_complement.f (k:Nat) (a0_0:Int) (l0_1:List Int):Option (Int × List Int):=impl_complement.l0 k l0_1 (l0_1.length:Int) 0 a0_0 l0_1 a0_0 ([]:List Int)
def impl_complement.T5:Bool × List (List Nat × List Nat):=(true,[([],[]),([0],[0]),([],[]),([2],[2]),([],[]),([3,4],[3,4]),([],[]),([6,3],[6]),([5,7],[5,7]),([8],[8]),([1,9,7],[1,9]),([0,1,2,3,4,5,6,7,8,9,10],[]),([11,10,10,0,1,2,3,4,5,6,7,8,9,10],[10,11])])
def impl_complement.B5:List Nat:=[0,1,0,4,0,28,0,76,252,508,1023,2047,4095]
theorem impl_complement.tab5:rtab .any (opsOf Tryd.f73 5) = impl_complement.T5:=by kernel_rfl
theorem impl_complement.bits5:waitsOk impl_complement.T5.2 impl_complement.B5 = true:=by kernel_rfl
set_option maxHeartbeats 8000000 in
set_option maxRecDepth 100000 in
theorem impl_complement.calls (k : Nat) (a0_0 : Int) (A0_1 : Option Addr) (c0_1 : Nat) (l0_1 : List Int) (r1 : Int) (r2 : List Int) (w : World) (hr0_1 : Kd.C (Kd.int .i64) w A0_1 l0_1.length l0_1) (hc0_1 : l0_1.length ≤ c0_1) (h : impl_complement.f k a0_0 l0_1 = some (r1, r2)) :
  Calls Tryd.prog 73 #[.agg #[.int .i64 a0_0,.slice A0_1 l0_1.length c0_1]] w fun e w' => ∃ v1_:Value,e = .returned (.agg #[.int .i64 r1,v1_]) ∧ Kd.R (Kd.int .i64) 2 w' w.heap.size (fun _=>True) v1_ r2 ∧ Below w.heap.size w w' := by
 have hu26:=Tryd.underlying26
 have HR0_1:=zA hr0_1
 have HC0_1:=zA hc0_1
 clear hr0_1 hc0_1
 have HB:=zA (kW w.heap.size w)
 have H:=h
 unfold impl_complement.f at H
 clear h
 have H' := zA H
 clear H
 go_enter Tryd.func73,Tryd.ntmps73
 go_wp2_with (first | (refine zBE 1 #[.int .i64 a0_0,.slice A0_1 l0_1.length c0_1] 26 ?_;intro gb461 hg w2 hbox hb;have BK461:=zA (hbox);have GW461:=zA (zBH hg HB.out);have GE461:=zA (zBH hg HB.out);replace HB:=zA (kQ (zQ HB.out) hb);clear hb hbox hg) | (refine zBE 2 #[.int .i64 0,.slice none 0 0] 26 ?_;intro gb462 hg w3 hbox hb;have BK462:=zA (hbox);have GW462:=zA (zB6 hg (kP (zT HB.out GE461.out)):w.heap.size ≤ gb462);have GE462:=zA (zB6 hg (kP (zT HB.out GE461.out)):w.heap.size ≤ gb462);replace HB:=zA (kQ (zT HB.out GE461.out) hb);have NB461_462:=zA (zB4 hg BK461.out:gb461 ≠ gb462);have NB462_461:=zA (zB5 hg BK461.out:gb462 ≠ gb461);replace BK461:=zA (zB1 BK461.out hb);clear hb hbox hg;have hnb4:=NB461_462.out;have hnc4:=NB462_461.out;obtain ⟨hcz5_0,hcz5_1,hfz5_0,hfz5_1⟩:=zB3 BK461.out) | (refine zBE 3 #[.int .i64 0,.slice none 0 0] 26 ?_;intro gb463 hg w6 hbox hb;have BK463:=zA (hbox);have GW463:=zA (zB6 hg (kP (zV HB.out GE461.out GE462.out)):w.heap.size ≤ gb463);have GE463:=zA (zB6 hg (kP (zV HB.out GE461.out GE462.out)):w.heap.size ≤ gb463);replace HB:=zA (kQ (zV HB.out GE461.out GE462.out) hb);have NB461_463:=zA (zB4 hg BK461.out:gb461 ≠ gb463);have NB463_461:=zA (zB5 hg BK461.out:gb463 ≠ gb461);replace BK461:=zA (zB1 BK461.out hb);have NB462_463:=zA (zB4 hg BK462.out:gb462 ≠ gb463);have NB463_462:=zA (zB5 hg BK462.out:gb463 ≠ gb462);replace BK462:=zA (zB1 BK462.out hb);clear hb hbox hg;have hnb7:=NB463_461.out;have hnc7:=NB461_463.out;have hnb8:=NB463_462.out;have hnc8:=NB462_463.out;obtain ⟨hcz9_0,hcz9_1,hfz9_0,hfz9_1⟩:=zB3 BK463.out;obtain ⟨hcz10_0,hcz10_1,hfz10_0,hfz10_1⟩:=zB3 BK461.out))
 go_loopg [12] k (fun kq v12 w' => ∃ (x12_1:Int) (x464001_1:List Int) (u464001:Value),v12 = .int .i64 x12_1 ∧ Aside0 (impl_complement.l0 kq l0_1 (l0_1.length:Int) x12_1 a0_0 l0_1 a0_0 x464001_1 = some (r1,r2)) ∧ Aside0 (kq ≤ k) ∧ Aside0 (Kd.R (Kd.int .i64) 2 w' w.heap.size (fun _=>True) u464001 x464001_1) ∧ Aside0 (w'.heap[gb461]? = some (.cells #[.int .i64 a0_0,(.slice A0_1 l0_1.length c0_1)] 26 (0,0))) ∧ Aside0 (w'.heap[gb462]? = some (.cells #[.int .i64 0,(.slice none 0 0)] 26 (0,0))) ∧ Aside0 (w'.heap[gb463]? = some (.cells #[.int .i64 a0_0,u464001] 26 (0,0))) ∧ Aside0 (Below w.heap.size w w'))
 case atStart=>exact ⟨(0),(([]:List Int)),(.slice none 0 0),zs,H', ⟨Nat.le_refl _⟩,⟨zn⟩,⟨by (with_reducible repeat (first | refine zJ ?_ _ | refine zK ?_ | refine zI ?_ _));refine blk_far ?_ NB461_463.out _;(with_reducible repeat (first | refine zJ ?_ _ | refine zK ?_ | refine zI ?_ _));refine blk_far ?_ NB461_463.out _;(with_reducible repeat (first | refine zJ ?_ _ | refine zK ?_ | refine zI ?_ _));exact BK461.out⟩,⟨by (with_reducible repeat (first | refine zJ ?_ _ | refine zK ?_ | refine zI ?_ _));refine blk_far ?_ NB462_463.out _;(with_reducible repeat (first | refine zJ ?_ _ | refine zK ?_ | refine zI ?_ _));refine blk_far ?_ NB462_463.out _;(with_reducible repeat (first | refine zJ ?_ _ | refine zK ?_ | refine zI ?_ _));exact BK462.out⟩,⟨by (with_reducible repeat (first | refine zJ ?_ _ | refine zK ?_ | refine zI ?_ _));refine blk_put (cs:=#[.int .i64 a0_0,.slice none 0 0]) ?_ 1 _ rfl;(with_reducible repeat (first | refine zJ ?_ _ | refine zK ?_ | refine zI ?_ _));refine blk_put (cs:=#[.int .i64 0,.slice none 0 0]) ?_ 0 _ rfl;(with_reducible repeat (first | refine zJ ?_ _ | refine zK ?_ | refine zI ?_ _));exact BK463.out⟩,⟨zW HB.out GE461.out GE462.out GE463.out⟩⟩
 case round =>
  clear H'
  try clear c4
  try clear c7
  try clear c8
  try clear hcz10_0
  try clear hcz10_1
  try clear hcz5_0
  try clear hcz5_1
  try clear hcz9_0
  try clear hcz9_1
  try clear hfz10_0
  try clear hfz10_1
  try clear hfz5_0
  try clear hfz5_1
  try clear hfz9_0
  try clear hfz9_1
  obtain ⟨x12_1,x464001_1,u464001,rfl,HA,HK1,HO_464001,BK461,BK462,BK463,HB⟩:=hrel
  cases gk with
  | zero=>exact absurd HA.out (by simp [impl_complement.l0])
  | succ k1 =>
   have H:=HA.out
   clear HA
   simp only [impl_complement.l0] at H
   by_cases c11:x12_1 < (l0_1.length:Int)
   ·rw [if_pos c11] at H
    have c11b0:decide (x12_1 < (l0_1.length:Int)) = true:=decide_eq_true c11
    clear c11
    by_cases c12:0 ≤ x12_1
    ·rw [if_pos c12] at H
     have c12b0:decide (0 ≤ x12_1) = true:=decide_eq_true c12
     clear c12
     by_cases c13:x12_1 < (l0_1.length:Int)
     ·rw [if_pos c13] at H
      have c13b0:decide (x12_1 < (l0_1.length:Int)) = true:=decide_eq_true c13
      clear c13
      obtain ⟨t465,A14,H⟩:=zb H
      try dsimp only at H
      obtain ⟨t466,A15,H⟩:=zb H
      try dsimp only at H
      by_cases c16:x464001_1.length < 17592186044416
      ·rw [if_pos c16] at H
       have LMc16:=zA c16
       clear c16
       obtain ⟨y467,hy467⟩:∃ y_:List Int,y_ = (x464001_1 ++ [Go.bits .or .i64 (Go.bits .andNot .i64 t465 (rd l0_1 x12_1)) t466]):=⟨_,rfl⟩
       replace H:(impl_complement.l0 k1 l0_1 (l0_1.length:Int) (wrap64 (x12_1 + 1)) a0_0 l0_1 a0_0 y467) = some (r1,r2):=zy hy467 H
       have Ny467:=zA hy467
       clear hy467
       have H' := zA H
       clear H
       have p464:0 ≤ (x12_1:Int):=zd
       have q464:x12_1 < (l0_1.length:Int):=zd
       obtain ⟨ad464,e464,hx464_0⟩:=Kd.at_int HR0_1.out x12_1 p464 q464
       cases e464
       replace hx464_0:=(HB.out.cell (jG w _ hx464_0)).trans hx464_0
       replace p464:=eq_true p464
       replace q464:=eq_true q464
       try go_wp2
       replace HO_464001:=zA (zH HO_464001.out)
       replace BK461:=zA (zK BK461.out)
       replace BK462:=zA (zK BK462.out)
       replace BK463:=zA (zK BK463.out)
       replace HB:=zA (zD HB.out)
       refine start_ (n:=13) (S:=fun w' => w'.cell? ⟨gb463,0,none⟩ = some (.int .i64 a0_0) ∧ w'.cell? ⟨gb463,1,none⟩ = some (u464001) ∧ w'.cell? ⟨gb461,0,none⟩ = some (.int .i64 a0_0) ∧ w'.cell? ⟨gb461,1,none⟩ = some (.slice (some ad464) l0_1.length c0_1)) (ds:=[12]) #[false,false,false,false,false,false,false,false,false,false,false,false,false] (by kernel_rfl) rfl rfl ⟨(kV BK463.out 0).trans rfl,(kV BK463.out 1).trans rfl,(kV BK461.out 0).trans rfl,(kV BK461.out 1).trans rfl⟩ (fun hHeld=>?_);refine with_tabW impl_complement.tab5 impl_complement.bits5 (fun HT_ HW_=>?_)
       generalize wr.drew = w17 at HO_464001 BK461 BK462 BK463 HB hHeld ⊢
       refine zp 0 (some 17) #[true,false,false,false,false,false,false,false,false,false,false,false,false] HT_.out ?_
       refine zp 4 (some 21) #[true,false,false,false,true,false,false,false,false,false,false,false,false] HT_.out ?_
       refine zp 6 (some 23) #[true,false,false,false,true,false,true,false,false,false,false,false,false] HT_.out ?_
       refine zf 1 (some 18) #[true,true,false,false,true,false,true,false,false,false,false,false,false] HT_.out HW_.out hHeld ?_
       refine zf 2 (some 19) #[true,true,true,false,true,false,true,false,false,false,false,false,false] HT_.out HW_.out hHeld ?_
       refine one_ (i:=3) (N:=some 20) #[true,true,true,true,true,false,true,false,false,false,false,false,false] rfl rfl (one_of HT_.out (by kernel_rfl)) (by decide) (fun K hK=>?_)
       refine goes_ Tryd.func90 (by kernel_rfl) rfl #[.agg #[.int .i64 a0_0,.slice (some ad464) l0_1.length c0_1]] (by rfl) rfl rfl zg ?_
       with_reducible refine (impl_allLetters.calls a0_0 _ _ l0_1 t465 _ ?side1 ?side2 A14.out).mono ?_
       (case side1=>exact zS (kO HR0_1.out HB.out))
       (case side2=>exact HC0_1.out)
       rintro e w18 ⟨rfl,hb⟩
       refine ⟨_,rfl,?_⟩
       replace HO_464001:=zA (kL (zP HO_464001.out) hb)
       replace BK461:=zA (zB1 BK461.out hb)
       replace BK462:=zA (zB1 BK462.out hb)
       replace BK463:=zA (zB1 BK463.out hb)
       replace HB:=zA (kQ (zW HB.out GE461.out GE462.out GE463.out) hb)
       (try clear hb)
       (try clear hb2)
       (try clear hk)
       (try clear hi)
       (try clear hgw)
       refine hK.out _ _ ⟨(kV BK463.out 0).trans rfl,(kV BK463.out 1).trans rfl,(kV BK461.out 0).trans rfl,(kV BK461.out 1).trans rfl⟩ (fun hHeld=>?_)
       clear hK K
       refine norm_ (a' := ?_) ?_ ?_
       rotate_left
       ·show Act.put _ (some 20) _ = _
        simp only [Act.put,zL,zM,zN,i64_w,i32_w]
        rfl
       refine zp 5 (some 22) #[true,true,true,true,true,true,true,false,false,false,false,false,false] HT_.out ?_
       refine one_ (i:=7) (N:=some 24) #[true,true,true,true,true,true,true,true,false,false,false,false,false] rfl rfl (one_of HT_.out (by kernel_rfl)) (by decide) (fun K hK=>?_)
       refine goes_ Tryd.func31 (by kernel_rfl) rfl #[.int .i64 x12_1] (by rfl) rfl rfl zg ?_
       with_reducible refine (impl_one.calls x12_1 t466 _ A15.out).mono ?_
       rintro e w' ⟨rfl,⟨nd,rfl⟩⟩
       refine ⟨_,rfl,?_⟩
       refine hK.out _ _ ⟨(kV BK463.out 0).trans rfl,(kV BK463.out 1).trans rfl,(kV BK461.out 0).trans rfl,(kV BK461.out 1).trans rfl⟩ (fun hHeld=>?_)
       clear hK K
       refine norm_ (a' := ?_) ?_ ?_
       rotate_left
       ·show Act.put _ (some 24) _ = _
        simp only [Act.put,zL,zM,zN,i64_w,i32_w]
        rfl
       refine zp 8 (some 25) #[true,true,true,true,true,true,true,true,true,false,false,false,false] HT_.out ?_
       refine one_ (i:=9) (N:=some 26) #[true,true,true,true,true,true,true,true,true,true,false,false,false] rfl rfl (one_of HT_.out (by kernel_rfl)) (by decide) (fun K hK=>?_)
       refine value_ (w1:=?_) (v:=?_) (by rfl) rfl ?_ ?_
       rotate_left 2
       ·go_simp
        constructor
        ·rfl
        rfl
       refine hK.out _ _ ⟨(kV (zI BK463.out _) 0).trans rfl,(kV (zI BK463.out _) 1).trans rfl,(kV (zI BK461.out _) 0).trans rfl,(kV (zI BK461.out _) 1).trans rfl⟩ (fun hHeld=>?_)
       clear hK K
       refine norm_ (a' := ?_) ?_ ?_
       rotate_left
       ·show Act.put _ (some 26) _ = _
        simp only [Act.put,zL,zM,zN,i64_w,i32_w]
        rfl
       refine one_ (i:=10) (N:=some 27) #[true,true,true,true,true,true,true,true,true,true,true,false,false] rfl rfl (one_of HT_.out (by kernel_rfl)) (by decide) (fun K hK=>?_)
       refine Kd.R_append_step (Kd.int .i64) (w0:=w) w.heap.size (by rfl) (.tmp 18) (.tmp 26) 24 2 (.int .i64 0) 8 rfl Tryd.underlying24 info2 rfl (by decide) (by omega) u464001 x464001_1 (Go.bits .or .i64 (Go.bits .andNot .i64 t465 (rd l0_1 x12_1)) t466) [.int .i64 (Go.bits .or .i64 (Go.bits .andNot .i64 t465 (rd l0_1 x12_1)) t466)] (fun _=>True) (fun _=>False) rfl rfl ?aP (fun _ hk=>hk.elim) ?aF ?aO ?aB ?aS ?aL ?_
       (case aP=>exact rfl)
       (case aB=>exact (zW HB.out GE461.out GE462.out GE463.out))
       (case aF=>exact (fun _ _=>trivial))
       (case aO=>exact (zP HO_464001.out))
       (case aS=>exact (kP (zW HB.out GE461.out GE462.out GE463.out)))
       (case aL=>have:=LMc16.out;omega)
       intro v468 w19 ho hb hg hat
       rw [← Ny467.out] at ho
       replace BK461:=zA (blk_grown (g:=gb461) (o:=.cells #[.int .i64 a0_0,.slice (some ad464) l0_1.length c0_1] 26 (0,0)) (zR BK461.out) hg (Kd.R_ne HO_464001.out BK461.out (by decide)))
       replace BK462:=zA (blk_grown (g:=gb462) (o:=.cells #[.int .i64 0,.slice none 0 0] 26 (0,0)) (zR BK462.out) hg (Kd.R_ne HO_464001.out BK462.out (by decide)))
       replace BK463:=zA (blk_grown (g:=gb463) (o:=.cells #[.int .i64 a0_0,u464001] 26 (0,0)) (zR BK463.out) hg (Kd.R_ne HO_464001.out BK463.out (by decide)))
       replace HB:=zA (hb)
       have HO469:=zA (ho)
       clear HO_464001 ho hb hg hat
       obtain ⟨Ao20,co20,eo20⟩:=kM HO469.out
       (first | subst eo20 | (injection eo20 with f1_ f2_ f3_;have f4_:=f1_.symm;have f5_:=f3_.symm;clear f1_ f2_ f3_;subst f4_;subst f5_))
       refine hK.out _ _ ⟨(kV BK463.out 0).trans rfl,(kV BK463.out 1).trans rfl,(kV BK461.out 0).trans rfl,(kV BK461.out 1).trans rfl⟩ (fun hHeld=>?_)
       clear hK K
       refine norm_ (a' := ?_) ?_ ?_
       rotate_left
       ·show Act.put _ (some 27) _ = _
        simp only [Act.put,zL,zM,zN,i64_w,i32_w]
        rfl
       refine zp 11 (some 28) #[true,true,true,true,true,true,true,true,true,true,true,true,false] HT_.out ?_
       refine last_ (i:=12) (N:=none) #[true,true,true,true,true,true,true,true,true,true,true,true,true] rfl rfl (one_of HT_.out (by kernel_rfl)) (by decide) (fun K hK=>?_)
       have hs21:w19.cell? ⟨gb463,1,none⟩ = some (u464001):=(kV BK463.out 1).trans rfl
       have hfs21:=jH BK463.out 1
       have hns21_0:=NB461_463.out
       have hns21_1:=NB462_463.out
       have hms21_0:=NB463_461.out
       have hms21_1:=NB463_462.out
       refine skip_ (w1:=?_) (by rfl) rfl ?_ ?_
       rotate_left
       ·go_simp
        rfl
       refine hK.out _ _ ?_
       clear hK K
       refine done_ (done_of HT_.out (by kernel_rfl)) ?_
       try go_wp2
       go_roundg k1
       case measure=>have:=HK1.out;omega
       case rel=>exact ⟨(wrap64 (x12_1 + 1)),(y467),(.slice Ao20 y467.length co20),zs,H', ⟨by have:=HK1.out;omega⟩,⟨by (with_reducible repeat (first | apply zF | apply zG | apply zH));exact kA (kY (p:=⟨gb463,1,none⟩) (kD HO469.out BK463.out (by decide)) (fun _ hk=>hk.2) (.slice Ao20 y467.length co20)) (fun _ hk=>trivial)⟩,⟨by (with_reducible repeat (first | refine zJ ?_ _ | refine zK ?_ | refine zI ?_ _));refine blk_far ?_ NB461_463.out _;(with_reducible repeat (first | refine zJ ?_ _ | refine zK ?_ | refine zI ?_ _));exact BK461.out⟩,⟨by (with_reducible repeat (first | refine zJ ?_ _ | refine zK ?_ | refine zI ?_ _));refine blk_far ?_ NB462_463.out _;(with_reducible repeat (first | refine zJ ?_ _ | refine zK ?_ | refine zI ?_ _));exact BK462.out⟩,⟨by (with_reducible repeat (first | refine zJ ?_ _ | refine zK ?_ | refine zI ?_ _));refine blk_put (cs:=#[.int .i64 a0_0,u464001]) ?_ 1 _ rfl;(with_reducible repeat (first | refine zJ ?_ _ | refine zK ?_ | refine zI ?_ _));exact BK463.out⟩,⟨zW HB.out GE461.out GE462.out GE463.out⟩⟩
      rw [if_neg c16] at H
      exact absurd H (by simp)
     rw [if_neg c13] at H
     exact absurd H (by simp)
    rw [if_neg c12] at H
    exact absurd H (by simp)
   rw [if_neg c11] at H
   have c11b0:decide (x12_1 < (l0_1.length:Int)) = false:=decide_eq_false c11
   clear c11
   simp only [Option.some.injEq,Prod.mk.injEq] at H
   obtain ⟨rfl,rfl⟩:=H
   have hnb22:=NB463_461.out
   have hnc22:=NB461_463.out
   have hnb23:=NB463_462.out
   have hnc23:=NB462_463.out
   obtain ⟨hcz24_0,hcz24_1,hfz24_0,hfz24_1⟩:=zB3 BK463.out
   have hnb25:=NB462_461.out
   have hnc25:=NB461_462.out
   obtain ⟨hcz26_0,hcz26_1,hfz26_0,hfz26_1⟩:=zB3 BK462.out
   obtain ⟨Ao27,co27,eo27⟩:=kM HO_464001.out
   subst eo27
   go_wp2
   refine bodyPost_ret (results_cell_row rfl _ _ gb462 26 #[.int .i64 a0_0,.slice Ao27 x464001_1.length co27] (0,0) _ rfl (zRP BK462.out) Tryd.underlying26 rfl (by kernel_rfl)) rfl ?_
   exact ⟨_,zr,by (with_reducible repeat (first | apply zF | apply zG | apply zH));exact kA (kY (p:=⟨gb462,1,none⟩) (kY (p:=⟨gb462,0,none⟩) (kD HO_464001.out BK462.out (by decide)) (fun _ hk=>hk.2) (.int .i64 a0_0)) (fun _ hk=>hk.2) (.slice Ao27 x464001_1.length co27)) (fun _ hk=>trivial),zW HB.out GE461.out GE462.out GE463.out⟩
def impl_stepsOf.f (k:Nat) (a0_0:Int) (l0_1:List Int):Option (List Int):=(impl_complement.f k a0_0 l0_1).bind fun bt471=>((impl_cliques.f k bt471.2).bind fun bt475=>(some bt475.1))
set_option maxHeartbeats 8000000 in
set_option maxRecDepth 100000 in
theorem impl_stepsOf.calls (k : Nat) (a0_0 : Int) (A0_1 : Option Addr) (c0_1 : Nat) (l0_1 : List Int) (r : List Int) (w : World) (hr0_1 : Kd.C (Kd.int .i64) w A0_1 l0_1.length l0_1) (hc0_1 : l0_1.length ≤ c0_1) (hT : TabW w) (h : impl_stepsOf.f k a0_0 l0_1 = some r) :
  Calls Tryd.prog 53 #[.agg #[.int .i64 a0_0,.slice A0_1 l0_1.length c0_1]] w fun e w' => ∃ v0_:Value,e = .returned (v0_) ∧ Kd.R (Kd.int .i64) 2 w' w.heap.size (fun _=>True) v0_ r ∧ Below w.heap.size w w' := by
 have hu26:=Tryd.underlying26
 have HT:=zA hT
 clear hT
 have HR0_1:=zA hr0_1
 have HC0_1:=zA hc0_1
 clear hr0_1 hc0_1
 have HB:=zA (kW w.heap.size w)
 have H:=h
 unfold impl_stepsOf.f at H
 clear h
 obtain ⟨⟨t471,t472⟩,A2,H⟩:=zb H
 try dsimp only at H
 obtain ⟨⟨t475,t476⟩,A3,H⟩:=zb H
 try dsimp only at H
 obtain rfl:=Option.some.inj H
 go_enter Tryd.func53,Tryd.ntmps53
 go_wp2_with (first | (refine zBE 1 #[.int .i64 a0_0,.slice A0_1 l0_1.length c0_1] 26 ?_;intro gb470 hg w4 hbox hb;have BK470:=zA (hbox);have GW470:=zA (zBH hg HB.out);have GE470:=zA (zBH hg HB.out);replace HB:=zA (kQ (zQ HB.out) hb);clear hb hbox hg;obtain ⟨hcz5_0,hcz5_1,hfz5_0,hfz5_1⟩:=zB3 BK470.out) | (refine zO (some 7) Tryd.func73 #[.agg #[.int .i64 a0_0,.slice A0_1 l0_1.length c0_1]] ?_;(with_reducible refine (impl_complement.calls k a0_0 _ _ l0_1 t471 t472 _ ?side1 ?side2 A2.out).mono ?_);(case side1=>exact zS (kO HR0_1.out HB.out));(case side2=>exact HC0_1.out);rintro e w6 ⟨v473,rfl,ho0,hb⟩;refine ⟨_,rfl,?_⟩;have HO474:=zA (kI ho0 (kP (zT HB.out GE470.out)));replace BK470:=zA (zB1 BK470.out hb);replace HB:=zA (kQ (zT HB.out GE470.out) hb);(try clear hb);(try clear ho0);obtain ⟨Ao7,co7,eo7⟩:=kM HO474.out;subst eo7) | (refine zO (some 9) Tryd.func37 #[.slice Ao7 t472.length co7] ?_;(with_reducible refine (impl_cliques.calls k _ _ t472 t475 t476 _ ?side1 ?side2 ?side3 A3.out).mono ?_);(case side1=>exact zS (kB HO474.out).2.2);(case side2=>exact (kB HO474.out).2.1);(case side3=>exact TabW.below HT.out (zT HB.out GE470.out));rintro e w8 ⟨v477,rfl,ho0,hb⟩;refine ⟨_,rfl,?_⟩;have HO478:=zA (kI (kF ho0 (kH (zP HO474.out))) (kP (zT HB.out GE470.out)));replace HO474:=zA (kE (zP HO474.out) (kC ho0) hb);replace BK470:=zA (zB1 BK470.out hb);replace HB:=zA (kQ (zT HB.out GE470.out) hb);(try clear hb);(try clear ho0)))
 go_ret
 exact ⟨_,zr,by (with_reducible repeat (first | apply zF | apply zG | apply zH));exact kA HO478.out (fun _ hk=>trivial),zT HB.out GE470.out⟩
def bits_OnesCount64.f (a0:Int):Option (Int):=some (Go.bits .and .i64 (wrap64 (IntKind.u64.wrap ((IntKind.u64.wrap ((IntKind.u64.wrap ((Go.bits .and .u64 (IntKind.u64.wrap (((IntKind.u64.wrap ((Go.bits .and .u64 ((IntKind.u64.wrap ((Go.bits .and .u64 (a0 / 2) 6148914691236517205) + (Go.bits .and .u64 a0 6148914691236517205))) / 4) 3689348814741910323) + (Go.bits .and .u64 (IntKind.u64.wrap ((Go.bits .and .u64 (a0 / 2) 6148914691236517205) + (Go.bits .and .u64 a0 6148914691236517205))) 3689348814741910323))) / 16) + (IntKind.u64.wrap ((Go.bits .and .u64 ((IntKind.u64.wrap ((Go.bits .and .u64 (a0 / 2) 6148914691236517205) + (Go.bits .and .u64 a0 6148914691236517205))) / 4) 3689348814741910323) + (Go.bits .and .u64 (IntKind.u64.wrap ((Go.bits .and .u64 (a0 / 2) 6148914691236517205) + (Go.bits .and .u64 a0 6148914691236517205))) 3689348814741910323))))) 1085102592571150095) + ((Go.bits .and .u64 (IntKind.u64.wrap (((IntKind.u64.wrap ((Go.bits .and .u64 ((IntKind.u64.wrap ((Go.bits .and .u64 (a0 / 2) 6148914691236517205) + (Go.bits .and .u64 a0 6148914691236517205))) / 4) 3689348814741910323) + (Go.bits .and .u64 (IntKind.u64.wrap ((Go.bits .and .u64 (a0 / 2) 6148914691236517205) + (Go.bits .and .u64 a0 6148914691236517205))) 3689348814741910323))) / 16) + (IntKind.u64.wrap ((Go.bits .and .u64 ((IntKind.u64.wrap ((Go.bits .and .u64 (a0 / 2) 6148914691236517205) + (Go.bits .and .u64 a0 6148914691236517205))) / 4) 3689348814741910323) + (Go.bits .and .u64 (IntKind.u64.wrap ((Go.bits .and .u64 (a0 / 2) 6148914691236517205) + (Go.bits .and .u64 a0 6148914691236517205))) 3689348814741910323))))) 1085102592571150095) / 256))) + ((IntKind.u64.wrap ((Go.bits .and .u64 (IntKind.u64.wrap (((IntKind.u64.wrap ((Go.bits .and .u64 ((IntKind.u64.wrap ((Go.bits .and .u64 (a0 / 2) 6148914691236517205) + (Go.bits .and .u64 a0 6148914691236517205))) / 4) 3689348814741910323) + (Go.bits .and .u64 (IntKind.u64.wrap ((Go.bits .and .u64 (a0 / 2) 6148914691236517205) + (Go.bits .and .u64 a0 6148914691236517205))) 3689348814741910323))) / 16) + (IntKind.u64.wrap ((Go.bits .and .u64 ((IntKind.u64.wrap ((Go.bits .and .u64 (a0 / 2) 6148914691236517205) + (Go.bits .and .u64 a0 6148914691236517205))) / 4) 3689348814741910323) + (Go.bits .and .u64 (IntKind.u64.wrap ((Go.bits .and .u64 (a0 / 2) 6148914691236517205) + (Go.bits .and .u64 a0 6148914691236517205))) 3689348814741910323))))) 1085102592571150095) + ((Go.bits .and .u64 (IntKind.u64.wrap (((IntKind.u64.wrap ((Go.bits .and .u64 ((IntKind.u64.wrap ((Go.bits .and .u64 (a0 / 2) 6148914691236517205) + (Go.bits .and .u64 a0 6148914691236517205))) / 4) 3689348814741910323) + (Go.bits .and .u64 (IntKind.u64.wrap ((Go.bits .and .u64 (a0 / 2) 6148914691236517205) + (Go.bits .and .u64 a0 6148914691236517205))) 3689348814741910323))) / 16) + (IntKind.u64.wrap ((Go.bits .and .u64 ((IntKind.u64.wrap ((Go.bits .and .u64 (a0 / 2) 6148914691236517205) + (Go.bits .and .u64 a0 6148914691236517205))) / 4) 3689348814741910323) + (Go.bits .and .u64 (IntKind.u64.wrap ((Go.bits .and .u64 (a0 / 2) 6148914691236517205) + (Go.bits .and .u64 a0 6148914691236517205))) 3689348814741910323))))) 1085102592571150095) / 256))) / 65536))) + ((IntKind.u64.wrap ((IntKind.u64.wrap ((Go.bits .and .u64 (IntKind.u64.wrap (((IntKind.u64.wrap ((Go.bits .and .u64 ((IntKind.u64.wrap ((Go.bits .and .u64 (a0 / 2) 6148914691236517205) + (Go.bits .and .u64 a0 6148914691236517205))) / 4) 3689348814741910323) + (Go.bits .and .u64 (IntKind.u64.wrap ((Go.bits .and .u64 (a0 / 2) 6148914691236517205) + (Go.bits .and .u64 a0 6148914691236517205))) 3689348814741910323))) / 16) + (IntKind.u64.wrap ((Go.bits .and .u64 ((IntKind.u64.wrap ((Go.bits .and .u64 (a0 / 2) 6148914691236517205) + (Go.bits .and .u64 a0 6148914691236517205))) / 4) 3689348814741910323) + (Go.bits .and .u64 (IntKind.u64.wrap ((Go.bits .and .u64 (a0 / 2) 6148914691236517205) + (Go.bits .and .u64 a0 6148914691236517205))) 3689348814741910323))))) 1085102592571150095) + ((Go.bits .and .u64 (IntKind.u64.wrap (((IntKind.u64.wrap ((Go.bits .and .u64 ((IntKind.u64.wrap ((Go.bits .and .u64 (a0 / 2) 6148914691236517205) + (Go.bits .and .u64 a0 6148914691236517205))) / 4) 3689348814741910323) + (Go.bits .and .u64 (IntKind.u64.wrap ((Go.bits .and .u64 (a0 / 2) 6148914691236517205) + (Go.bits .and .u64 a0 6148914691236517205))) 3689348814741910323))) / 16) + (IntKind.u64.wrap ((Go.bits .and .u64 ((IntKind.u64.wrap ((Go.bits .and .u64 (a0 / 2) 6148914691236517205) + (Go.bits .and .u64 a0 6148914691236517205))) / 4) 3689348814741910323) + (Go.bits .and .u64 (IntKind.u64.wrap ((Go.bits .and .u64 (a0 / 2) 6148914691236517205) + (Go.bits .and .u64 a0 6148914691236517205))) 3689348814741910323))))) 1085102592571150095) / 256))) + ((IntKind.u64.wrap ((Go.bits .and .u64 (IntKind.u64.wrap (((IntKind.u64.wrap ((Go.bits .and .u64 ((IntKind.u64.wrap ((Go.bits .and .u64 (a0 / 2) 6148914691236517205) + (Go.bits .and .u64 a0 6148914691236517205))) / 4) 3689348814741910323) + (Go.bits .and .u64 (IntKind.u64.wrap ((Go.bits .and .u64 (a0 / 2) 6148914691236517205) + (Go.bits .and .u64 a0 6148914691236517205))) 3689348814741910323))) / 16) + (IntKind.u64.wrap ((Go.bits .and .u64 ((IntKind.u64.wrap ((Go.bits .and .u64 (a0 / 2) 6148914691236517205) + (Go.bits .and .u64 a0 6148914691236517205))) / 4) 3689348814741910323) + (Go.bits .and .u64 (IntKind.u64.wrap ((Go.bits .and .u64 (a0 / 2) 6148914691236517205) + (Go.bits .and .u64 a0 6148914691236517205))) 3689348814741910323))))) 1085102592571150095) + ((Go.bits .and .u64 (IntKind.u64.wrap (((IntKind.u64.wrap ((Go.bits .and .u64 ((IntKind.u64.wrap ((Go.bits .and .u64 (a0 / 2) 6148914691236517205) + (Go.bits .and .u64 a0 6148914691236517205))) / 4) 3689348814741910323) + (Go.bits .and .u64 (IntKind.u64.wrap ((Go.bits .and .u64 (a0 / 2) 6148914691236517205) + (Go.bits .and .u64 a0 6148914691236517205))) 3689348814741910323))) / 16) + (IntKind.u64.wrap ((Go.bits .and .u64 ((IntKind.u64.wrap ((Go.bits .and .u64 (a0 / 2) 6148914691236517205) + (Go.bits .and .u64 a0 6148914691236517205))) / 4) 3689348814741910323) + (Go.bits .and .u64 (IntKind.u64.wrap ((Go.bits .and .u64 (a0 / 2) 6148914691236517205) + (Go.bits .and .u64 a0 6148914691236517205))) 3689348814741910323))))) 1085102592571150095) / 256))) / 65536))) / 4294967296)))) 127)
set_option maxHeartbeats 8000000 in
set_option maxRecDepth 100000 in
theorem bits_OnesCount64.calls (a0 : Int) (r : Int) (w : World) (h : bits_OnesCount64.f a0 = some r) :
  Calls Tryd.prog 74 #[.int .u64 a0] w fun e w' => e = .returned (.int .i64 r) ∧ Drawn0 w w' := by
 have H:=h
 unfold bits_OnesCount64.f at H
 clear h
 obtain rfl:=Option.some.inj H
 go_enter Tryd.func74,Tryd.ntmps74
 go_wp2
 go_ret
 exact ⟨zs,by repeat (first | exact Drawn0.refl _ | apply Drawn0.step)⟩
def impl_size.f (a0:Int):Option (Int):=(bits_OnesCount64.f (IntKind.u64.wrap (a0))).bind fun t479=>(some t479)
set_option maxHeartbeats 8000000 in
set_option maxRecDepth 100000 in
theorem impl_size.calls (a0 : Int) (r : Int) (w : World) (h : impl_size.f a0 = some r) :
  Calls Tryd.prog 54 #[.int .i64 a0] w fun e w' => e = .returned (.int .i64 r) ∧ Drawn0 w w' := by
 have H:=h
 unfold impl_size.f at H
 clear h
 obtain ⟨t479,A2,H⟩:=zb H
 try dsimp only at H
 obtain rfl:=Option.some.inj H
 go_enter Tryd.func54,Tryd.ntmps54
 go_wp2_with (first | (refine zO (some 5) Tryd.func74 #[.int .u64 (IntKind.u64.wrap (a0))] ?_;(with_reducible refine (bits_OnesCount64.calls (IntKind.u64.wrap (a0)) t479 _ A2.out).mono ?_);rintro e w' ⟨rfl,⟨nd,rfl⟩⟩;refine ⟨_,rfl,?_⟩))
 go_ret
 exact ⟨zs,by repeat (first | exact Drawn0.refl _ | apply Drawn0.step)⟩
end Go.Proofs.YtjdekliancabgaaDoor.PAll
