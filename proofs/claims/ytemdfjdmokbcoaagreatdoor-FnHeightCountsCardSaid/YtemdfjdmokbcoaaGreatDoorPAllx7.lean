import Derived.Test.YtemdfjdmokbcoaaGreatDoorPAllx0
import Derived.Test.YtemdfjdmokbcoaaGreatDoorPAllx1
import Derived.Test.YtemdfjdmokbcoaaGreatDoorPAllx2
import Derived.Test.YtemdfjdmokbcoaaGreatDoorPAllx3
import Derived.Test.YtemdfjdmokbcoaaGreatDoorPAllx6
namespace Go.Proofs.YtemdfjdmokbcoaaGreatDoor.PAll
open Go.RowKit Go.Proofs.YtemdfjdmokbcoaaGreatDoor.T Go.Proofs.YtemdfjdmokbcoaaGreatDoorW.PrintWords Go.Proofs.YtemdfjdmokbcoaaGreatDoorW.PrintLast Go.Proofs.YtemdfjdmokbcoaaGreatDoorW.PrintMore
attribute [local go_sem] max2_int min2_int max_two min_two max_three min_three max_four min_four   -- for this text's walks alone
set_option linter.unusedVariables false
set_option linter.unusedSimpArgs false
def impl_complement.l0:Nat → List Int → Int → Int → Int → List Int → Int → List Int → Option (Int × List Int)
 | 0,_,_,_,_,_,_,_=>none
 | k + 1,x10,x11,x12,x408000,x408001,x410000,x410001=>if x12 < x11 then (if 0 ≤ x12 then (if x12 < (x10.length:Int) then ((impl_allLetters.f x408000 x408001).bind fun t411=>((impl_one.f x12).bind fun t412=>(if x410001.length < 17592186044416 then (impl_complement.l0 k x10 x11 (wrap64 (x12 + 1)) x408000 x408001 x410000 (x410001 ++ [Go.bits .or .i64 (Go.bits .andNot .i64 t411 (rd x10 x12)) t412])) else (none)))) else (none)) else (none)) else (some (x410000,x410001))
def impl_complement.f (k:Nat) (a0_0:Int) (l0_1:List Int):Option (Int × List Int):=impl_complement.l0 k l0_1 (l0_1.length:Int) 0 a0_0 l0_1 a0_0 ([]:List Int)
def impl_complement.T5:Bool × List (List Nat × List Nat):=(true,[([],[]),([0],[0]),([],[]),([2],[2]),([],[]),([3,4],[3,4]),([],[]),([6,3],[6]),([5,7],[5,7]),([8],[8]),([1,9,7],[1,9]),([0,1,2,3,4,5,6,7,8,9,10],[]),([11,10,10,0,1,2,3,4,5,6,7,8,9,10],[10,11])])
def impl_complement.B5:List Nat:=[0,1,0,4,0,28,0,76,252,508,1023,2047,4095]
theorem impl_complement.tab5:rtab .any (opsOf Tryz.f40 5) = impl_complement.T5:=by kernel_rfl
theorem impl_complement.bits5:waitsOk impl_complement.T5.2 impl_complement.B5 = true:=by kernel_rfl
set_option maxHeartbeats 8000000 in
set_option maxRecDepth 100000 in
theorem impl_complement.calls (k : Nat) (a0_0 : Int) (A0_1 : Option Addr) (c0_1 : Nat) (l0_1 : List Int) (r1 : Int) (r2 : List Int) (w : World) (hr0_1 : Kd.C (Kd.int .i64) w A0_1 l0_1.length l0_1) (hc0_1 : l0_1.length ≤ c0_1) (h : impl_complement.f k a0_0 l0_1 = some (r1, r2)) :
  Calls Tryz.prog 40 #[.agg #[.int .i64 a0_0,.slice A0_1 l0_1.length c0_1]] w fun e w' => ∃ v1_:Value,e = .returned (.agg #[.int .i64 r1,v1_]) ∧ Kd.R (Kd.int .i64) 2 w' w.heap.size (fun _=>True) v1_ r2 ∧ Below w.heap.size w w' := by
 have hu26:=Tryz.underlying26
 have HR0_1:=zA hr0_1
 have HC0_1:=zA hc0_1
 clear hr0_1 hc0_1
 have HB:=zA (kW w.heap.size w)
 have H:=h
 unfold impl_complement.f at H
 clear h
 have H' := zA H
 clear H
 go_enter Tryz.func40,Tryz.ntmps40
 go_wp2_with (first | (refine zBE 1 #[.int .i64 a0_0,.slice A0_1 l0_1.length c0_1] 26 ?_;intro gb407 hg w2 hbox hb;have BK407:=zA (hbox);have GW407:=zA (zBH hg HB.out);have GE407:=zA (zBH hg HB.out);replace HB:=zA (kQ (zQ HB.out) hb);clear hb hbox hg) | (refine zBE 2 #[.int .i64 0,.slice none 0 0] 26 ?_;intro gb408 hg w3 hbox hb;have BK408:=zA (hbox);have GW408:=zA (zB6 hg (kP (zT HB.out GE407.out)):w.heap.size ≤ gb408);have GE408:=zA (zB6 hg (kP (zT HB.out GE407.out)):w.heap.size ≤ gb408);replace HB:=zA (kQ (zT HB.out GE407.out) hb);have NB407_408:=zA (zB4 hg BK407.out:gb407 ≠ gb408);have NB408_407:=zA (zB5 hg BK407.out:gb408 ≠ gb407);replace BK407:=zA (zB1 BK407.out hb);clear hb hbox hg;have hnb4:=NB407_408.out;have hnc4:=NB408_407.out;obtain ⟨hcz5_0,hcz5_1,hfz5_0,hfz5_1⟩:=zB3 BK407.out) | (refine zBE 3 #[.int .i64 0,.slice none 0 0] 26 ?_;intro gb409 hg w6 hbox hb;have BK409:=zA (hbox);have GW409:=zA (zB6 hg (kP (zV HB.out GE407.out GE408.out)):w.heap.size ≤ gb409);have GE409:=zA (zB6 hg (kP (zV HB.out GE407.out GE408.out)):w.heap.size ≤ gb409);replace HB:=zA (kQ (zV HB.out GE407.out GE408.out) hb);have NB407_409:=zA (zB4 hg BK407.out:gb407 ≠ gb409);have NB409_407:=zA (zB5 hg BK407.out:gb409 ≠ gb407);replace BK407:=zA (zB1 BK407.out hb);have NB408_409:=zA (zB4 hg BK408.out:gb408 ≠ gb409);have NB409_408:=zA (zB5 hg BK408.out:gb409 ≠ gb408);replace BK408:=zA (zB1 BK408.out hb);clear hb hbox hg;have hnb7:=NB409_407.out;have hnc7:=NB407_409.out;have hnb8:=NB409_408.out;have hnc8:=NB408_409.out;obtain ⟨hcz9_0,hcz9_1,hfz9_0,hfz9_1⟩:=zB3 BK409.out;obtain ⟨hcz10_0,hcz10_1,hfz10_0,hfz10_1⟩:=zB3 BK407.out))
 go_loopg [12] k (fun kq v12 w' => ∃ (x12_1:Int) (x410001_1:List Int) (u410001:Value),v12 = .int .i64 x12_1 ∧ Aside0 (impl_complement.l0 kq l0_1 (l0_1.length:Int) x12_1 a0_0 l0_1 a0_0 x410001_1 = some (r1,r2)) ∧ Aside0 (kq ≤ k) ∧ Aside0 (Kd.R (Kd.int .i64) 2 w' w.heap.size (fun _=>True) u410001 x410001_1) ∧ Aside0 (w'.heap[gb407]? = some (.cells #[.int .i64 a0_0,(.slice A0_1 l0_1.length c0_1)] 26 (0,0))) ∧ Aside0 (w'.heap[gb408]? = some (.cells #[.int .i64 0,(.slice none 0 0)] 26 (0,0))) ∧ Aside0 (w'.heap[gb409]? = some (.cells #[.int .i64 a0_0,u410001] 26 (0,0))) ∧ Aside0 (Below w.heap.size w w'))
 case atStart=>exact ⟨(0),(([]:List Int)),(.slice none 0 0),zs,H', ⟨Nat.le_refl _⟩,⟨zn⟩,⟨by (with_reducible repeat (first | refine zJ ?_ _ | refine zK ?_ | refine zI ?_ _));refine blk_far ?_ NB407_409.out _;(with_reducible repeat (first | refine zJ ?_ _ | refine zK ?_ | refine zI ?_ _));refine blk_far ?_ NB407_409.out _;(with_reducible repeat (first | refine zJ ?_ _ | refine zK ?_ | refine zI ?_ _));exact BK407.out⟩,⟨by (with_reducible repeat (first | refine zJ ?_ _ | refine zK ?_ | refine zI ?_ _));refine blk_far ?_ NB408_409.out _;(with_reducible repeat (first | refine zJ ?_ _ | refine zK ?_ | refine zI ?_ _));refine blk_far ?_ NB408_409.out _;(with_reducible repeat (first | refine zJ ?_ _ | refine zK ?_ | refine zI ?_ _));exact BK408.out⟩,⟨by (with_reducible repeat (first | refine zJ ?_ _ | refine zK ?_ | refine zI ?_ _));refine blk_put (cs:=#[.int .i64 a0_0,.slice none 0 0]) ?_ 1 _ rfl;(with_reducible repeat (first | refine zJ ?_ _ | refine zK ?_ | refine zI ?_ _));refine blk_put (cs:=#[.int .i64 0,.slice none 0 0]) ?_ 0 _ rfl;(with_reducible repeat (first | refine zJ ?_ _ | refine zK ?_ | refine zI ?_ _));exact BK409.out⟩,⟨zW HB.out GE407.out GE408.out GE409.out⟩⟩
 case round =>
  clear H'
  try clear c4
  try clear c7
  try clear c8
  try clear hcz10_0
  try clear hcz10_1
  try clear hcz5_0
  try clear hcz5_1
  try clear hcz9_0
  try clear hcz9_1
  try clear hfz10_0
  try clear hfz10_1
  try clear hfz5_0
  try clear hfz5_1
  try clear hfz9_0
  try clear hfz9_1
  obtain ⟨x12_1,x410001_1,u410001,rfl,HA,HK1,HO_410001,BK407,BK408,BK409,HB⟩:=hrel
  cases gk with
  | zero=>exact absurd HA.out (by simp [impl_complement.l0])
  | succ k1 =>
   have H:=HA.out
   clear HA
   simp only [impl_complement.l0] at H
   by_cases c11:x12_1 < (l0_1.length:Int)
   ·rw [if_pos c11] at H
    have c11b0:decide (x12_1 < (l0_1.length:Int)) = true:=decide_eq_true c11
    clear c11
    by_cases c12:0 ≤ x12_1
    ·rw [if_pos c12] at H
     have c12b0:decide (0 ≤ x12_1) = true:=decide_eq_true c12
     clear c12
     by_cases c13:x12_1 < (l0_1.length:Int)
     ·rw [if_pos c13] at H
      have c13b0:decide (x12_1 < (l0_1.length:Int)) = true:=decide_eq_true c13
      clear c13
      obtain ⟨t411,A14,H⟩:=zb H
      try dsimp only at H
      obtain ⟨t412,A15,H⟩:=zb H
      try dsimp only at H
      by_cases c16:x410001_1.length < 17592186044416
      ·rw [if_pos c16] at H
       have LMc16:=zA c16
       clear c16
       obtain ⟨y413,hy413⟩:∃ y_:List Int,y_ = (x410001_1 ++ [Go.bits .or .i64 (Go.bits .andNot .i64 t411 (rd l0_1 x12_1)) t412]):=⟨_,rfl⟩
       replace H:(impl_complement.l0 k1 l0_1 (l0_1.length:Int) (wrap64 (x12_1 + 1)) a0_0 l0_1 a0_0 y413) = some (r1,r2):=zy hy413 H
       have Ny413:=zA hy413
       clear hy413
       have H' := zA H
       clear H
       have p410:0 ≤ (x12_1:Int):=zd
       have q410:x12_1 < (l0_1.length:Int):=zd
       obtain ⟨ad410,e410,hx410_0⟩:=Kd.at_int HR0_1.out x12_1 p410 q410
       cases e410
       replace hx410_0:=(HB.out.cell (jG w _ hx410_0)).trans hx410_0
       replace p410:=eq_true p410
       replace q410:=eq_true q410
       try go_wp2
       replace HO_410001:=zA (zH HO_410001.out)
       replace BK407:=zA (zK BK407.out)
       replace BK408:=zA (zK BK408.out)
       replace BK409:=zA (zK BK409.out)
       replace HB:=zA (zD HB.out)
       refine start_ (n:=13) (S:=fun w' => w'.cell? ⟨gb409,0,none⟩ = some (.int .i64 a0_0) ∧ w'.cell? ⟨gb409,1,none⟩ = some (u410001) ∧ w'.cell? ⟨gb407,0,none⟩ = some (.int .i64 a0_0) ∧ w'.cell? ⟨gb407,1,none⟩ = some (.slice (some ad410) l0_1.length c0_1)) (ds:=[12]) #[false,false,false,false,false,false,false,false,false,false,false,false,false] (by kernel_rfl) rfl rfl ⟨(kV BK409.out 0).trans rfl,(kV BK409.out 1).trans rfl,(kV BK407.out 0).trans rfl,(kV BK407.out 1).trans rfl⟩ (fun hHeld=>?_);refine with_tabW impl_complement.tab5 impl_complement.bits5 (fun HT_ HW_=>?_)
       generalize wr.drew = w17 at HO_410001 BK407 BK408 BK409 HB hHeld ⊢
       refine zp 0 (some 17) #[true,false,false,false,false,false,false,false,false,false,false,false,false] HT_.out ?_
       refine zp 4 (some 21) #[true,false,false,false,true,false,false,false,false,false,false,false,false] HT_.out ?_
       refine zp 6 (some 23) #[true,false,false,false,true,false,true,false,false,false,false,false,false] HT_.out ?_
       refine zf 1 (some 18) #[true,true,false,false,true,false,true,false,false,false,false,false,false] HT_.out HW_.out hHeld ?_
       refine zf 2 (some 19) #[true,true,true,false,true,false,true,false,false,false,false,false,false] HT_.out HW_.out hHeld ?_
       refine one_ (i:=3) (N:=some 20) #[true,true,true,true,true,false,true,false,false,false,false,false,false] rfl rfl (one_of HT_.out (by kernel_rfl)) (by decide) (fun K hK=>?_)
       refine goes_ Tryz.func65 (by kernel_rfl) rfl #[.agg #[.int .i64 a0_0,.slice (some ad410) l0_1.length c0_1]] (by rfl) rfl rfl zg ?_
       with_reducible refine (impl_allLetters.calls a0_0 _ _ l0_1 t411 _ ?side1 ?side2 A14.out).mono ?_
       (case side1=>exact zS (kO HR0_1.out HB.out))
       (case side2=>exact HC0_1.out)
       rintro e w18 ⟨rfl,hb⟩
       refine ⟨_,rfl,?_⟩
       replace HO_410001:=zA (kL (zP HO_410001.out) hb)
       replace BK407:=zA (zB1 BK407.out hb)
       replace BK408:=zA (zB1 BK408.out hb)
       replace BK409:=zA (zB1 BK409.out hb)
       replace HB:=zA (kQ (zW HB.out GE407.out GE408.out GE409.out) hb)
       (try clear hb)
       (try clear hb2)
       (try clear hk)
       (try clear hi)
       (try clear hgw)
       refine hK.out _ _ ⟨(kV BK409.out 0).trans rfl,(kV BK409.out 1).trans rfl,(kV BK407.out 0).trans rfl,(kV BK407.out 1).trans rfl⟩ (fun hHeld=>?_)
       clear hK K
       refine norm_ (a' := ?_) ?_ ?_
       rotate_left
       ·show Act.put _ (some 20) _ = _
        simp only [Act.put,zL,zM,zN,i64_w,i32_w]
        rfl
       refine zp 5 (some 22) #[true,true,true,true,true,true,true,false,false,false,false,false,false] HT_.out ?_
       refine one_ (i:=7) (N:=some 24) #[true,true,true,true,true,true,true,true,false,false,false,false,false] rfl rfl (one_of HT_.out (by kernel_rfl)) (by decide) (fun K hK=>?_)
       refine goes_ Tryz.func55 (by kernel_rfl) rfl #[.int .i64 x12_1] (by rfl) rfl rfl zg ?_
       with_reducible refine (impl_one.calls x12_1 t412 _ A15.out).mono ?_
       rintro e w' ⟨rfl,⟨nd,rfl⟩⟩
       refine ⟨_,rfl,?_⟩
       refine hK.out _ _ ⟨(kV BK409.out 0).trans rfl,(kV BK409.out 1).trans rfl,(kV BK407.out 0).trans rfl,(kV BK407.out 1).trans rfl⟩ (fun hHeld=>?_)
       clear hK K
       refine norm_ (a' := ?_) ?_ ?_
       rotate_left
       ·show Act.put _ (some 24) _ = _
        simp only [Act.put,zL,zM,zN,i64_w,i32_w]
        rfl
       refine zp 8 (some 25) #[true,true,true,true,true,true,true,true,true,false,false,false,false] HT_.out ?_
       refine one_ (i:=9) (N:=some 26) #[true,true,true,true,true,true,true,true,true,true,false,false,false] rfl rfl (one_of HT_.out (by kernel_rfl)) (by decide) (fun K hK=>?_)
       refine value_ (w1:=?_) (v:=?_) (by rfl) rfl ?_ ?_
       rotate_left 2
       ·go_simp
        constructor
        ·rfl
        rfl
       refine hK.out _ _ ⟨(kV (zI BK409.out _) 0).trans rfl,(kV (zI BK409.out _) 1).trans rfl,(kV (zI BK407.out _) 0).trans rfl,(kV (zI BK407.out _) 1).trans rfl⟩ (fun hHeld=>?_)
       clear hK K
       refine norm_ (a' := ?_) ?_ ?_
       rotate_left
       ·show Act.put _ (some 26) _ = _
        simp only [Act.put,zL,zM,zN,i64_w,i32_w]
        rfl
       refine one_ (i:=10) (N:=some 27) #[true,true,true,true,true,true,true,true,true,true,true,false,false] rfl rfl (one_of HT_.out (by kernel_rfl)) (by decide) (fun K hK=>?_)
       refine Kd.R_append_step (Kd.int .i64) (w0:=w) w.heap.size (by rfl) (.tmp 18) (.tmp 26) 24 2 (.int .i64 0) 8 rfl Tryz.underlying24 info2 rfl (by decide) (by omega) u410001 x410001_1 (Go.bits .or .i64 (Go.bits .andNot .i64 t411 (rd l0_1 x12_1)) t412) [.int .i64 (Go.bits .or .i64 (Go.bits .andNot .i64 t411 (rd l0_1 x12_1)) t412)] (fun _=>True) (fun _=>False) rfl rfl ?aP (fun _ hk=>hk.elim) ?aF ?aO ?aB ?aS ?aL ?_
       (case aP=>exact rfl)
       (case aB=>exact (zW HB.out GE407.out GE408.out GE409.out))
       (case aF=>exact (fun _ _=>trivial))
       (case aO=>exact (zP HO_410001.out))
       (case aS=>exact (kP (zW HB.out GE407.out GE408.out GE409.out)))
       (case aL=>have:=LMc16.out;omega)
       intro v414 w19 ho hb hg hat
       rw [← Ny413.out] at ho
       replace BK407:=zA (blk_grown (g:=gb407) (o:=.cells #[.int .i64 a0_0,.slice (some ad410) l0_1.length c0_1] 26 (0,0)) (zR BK407.out) hg (Kd.R_ne HO_410001.out BK407.out (by decide)))
       replace BK408:=zA (blk_grown (g:=gb408) (o:=.cells #[.int .i64 0,.slice none 0 0] 26 (0,0)) (zR BK408.out) hg (Kd.R_ne HO_410001.out BK408.out (by decide)))
       replace BK409:=zA (blk_grown (g:=gb409) (o:=.cells #[.int .i64 a0_0,u410001] 26 (0,0)) (zR BK409.out) hg (Kd.R_ne HO_410001.out BK409.out (by decide)))
       replace HB:=zA (hb)
       have HO415:=zA (ho)
       clear HO_410001 ho hb hg hat
       obtain ⟨Ao20,co20,eo20⟩:=kM HO415.out
       (first | subst eo20 | (injection eo20 with f1_ f2_ f3_;have f4_:=f1_.symm;have f5_:=f3_.symm;clear f1_ f2_ f3_;subst f4_;subst f5_))
       refine hK.out _ _ ⟨(kV BK409.out 0).trans rfl,(kV BK409.out 1).trans rfl,(kV BK407.out 0).trans rfl,(kV BK407.out 1).trans rfl⟩ (fun hHeld=>?_)
       clear hK K
       refine norm_ (a' := ?_) ?_ ?_
       rotate_left
       ·show Act.put _ (some 27) _ = _
        simp only [Act.put,zL,zM,zN,i64_w,i32_w]
        rfl
       refine zp 11 (some 28) #[true,true,true,true,true,true,true,true,true,true,true,true,false] HT_.out ?_
       refine last_ (i:=12) (N:=none) #[true,true,true,true,true,true,true,true,true,true,true,true,true] rfl rfl (one_of HT_.out (by kernel_rfl)) (by decide) (fun K hK=>?_)
       have hs21:w19.cell? ⟨gb409,1,none⟩ = some (u410001):=(kV BK409.out 1).trans rfl
       have hfs21:=jH BK409.out 1
       have hns21_0:=NB407_409.out
       have hns21_1:=NB408_409.out
       have hms21_0:=NB409_407.out
       have hms21_1:=NB409_408.out
       refine skip_ (w1:=?_) (by rfl) rfl ?_ ?_
       rotate_left
       ·go_simp
        rfl
       refine hK.out _ _ ?_
       clear hK K
       refine done_ (done_of HT_.out (by kernel_rfl)) ?_
       try go_wp2
       go_roundg k1
       case measure=>have:=HK1.out;omega
       case rel=>exact ⟨(wrap64 (x12_1 + 1)),(y413),(.slice Ao20 y413.length co20),zs,H', ⟨by have:=HK1.out;omega⟩,⟨by (with_reducible repeat (first | apply zF | apply zG | apply zH));exact kA (kY (p:=⟨gb409,1,none⟩) (kD HO415.out BK409.out (by decide)) (fun _ hk=>hk.2) (.slice Ao20 y413.length co20)) (fun _ hk=>trivial)⟩,⟨by (with_reducible repeat (first | refine zJ ?_ _ | refine zK ?_ | refine zI ?_ _));refine blk_far ?_ NB407_409.out _;(with_reducible repeat (first | refine zJ ?_ _ | refine zK ?_ | refine zI ?_ _));exact BK407.out⟩,⟨by (with_reducible repeat (first | refine zJ ?_ _ | refine zK ?_ | refine zI ?_ _));refine blk_far ?_ NB408_409.out _;(with_reducible repeat (first | refine zJ ?_ _ | refine zK ?_ | refine zI ?_ _));exact BK408.out⟩,⟨by (with_reducible repeat (first | refine zJ ?_ _ | refine zK ?_ | refine zI ?_ _));refine blk_put (cs:=#[.int .i64 a0_0,u410001]) ?_ 1 _ rfl;(with_reducible repeat (first | refine zJ ?_ _ | refine zK ?_ | refine zI ?_ _));exact BK409.out⟩,⟨zW HB.out GE407.out GE408.out GE409.out⟩⟩
      rw [if_neg c16] at H
      exact absurd H (by simp)
     rw [if_neg c13] at H
     exact absurd H (by simp)
    rw [if_neg c12] at H
    exact absurd H (by simp)
   rw [if_neg c11] at H
   have c11b0:decide (x12_1 < (l0_1.length:Int)) = false:=decide_eq_false c11
   clear c11
   simp only [Option.some.injEq,Prod.mk.injEq] at H
   obtain ⟨rfl,rfl⟩:=H
   have hnb22:=NB409_407.out
   have hnc22:=NB407_409.out
   have hnb23:=NB409_408.out
   have hnc23:=NB408_409.out
   obtain ⟨hcz24_0,hcz24_1,hfz24_0,hfz24_1⟩:=zB3 BK409.out
   have hnb25:=NB408_407.out
   have hnc25:=NB407_408.out
   obtain ⟨hcz26_0,hcz26_1,hfz26_0,hfz26_1⟩:=zB3 BK408.out
   obtain ⟨Ao27,co27,eo27⟩:=kM HO_410001.out
   subst eo27
   go_wp2
   refine bodyPost_ret (results_cell_row rfl _ _ gb408 26 #[.int .i64 a0_0,.slice Ao27 x410001_1.length co27] (0,0) _ rfl (zRP BK408.out) Tryz.underlying26 rfl (by kernel_rfl)) rfl ?_
   exact ⟨_,zr,by (with_reducible repeat (first | apply zF | apply zG | apply zH));exact kA (kY (p:=⟨gb408,1,none⟩) (kY (p:=⟨gb408,0,none⟩) (kD HO_410001.out BK408.out (by decide)) (fun _ hk=>hk.2) (.int .i64 a0_0)) (fun _ hk=>hk.2) (.slice Ao27 x410001_1.length co27)) (fun _ hk=>trivial),zW HB.out GE407.out GE408.out GE409.out⟩
def impl_stepsOf.f (k:Nat) (a0_0:Int) (l0_1:List Int):Option (List Int):=(impl_complement.f k a0_0 l0_1).bind fun bt417=>((impl_cliques.f k bt417.2).bind fun bt421=>(some bt421.1))
set_option maxHeartbeats 8000000 in
set_option maxRecDepth 100000 in
theorem impl_stepsOf.calls (k : Nat) (a0_0 : Int) (A0_1 : Option Addr) (c0_1 : Nat) (l0_1 : List Int) (r : List Int) (w : World) (hr0_1 : Kd.C (Kd.int .i64) w A0_1 l0_1.length l0_1) (hc0_1 : l0_1.length ≤ c0_1) (hT : TabW w) (h : impl_stepsOf.f k a0_0 l0_1 = some r) :
  Calls Tryz.prog 17 #[.agg #[.int .i64 a0_0,.slice A0_1 l0_1.length c0_1]] w fun e w' => ∃ v0_:Value,e = .returned (v0_) ∧ Kd.R (Kd.int .i64) 2 w' w.heap.size (fun _=>True) v0_ r ∧ Below w.heap.size w w' := by
 have hu26:=Tryz.underlying26
 have HT:=zA hT
 clear hT
 have HR0_1:=zA hr0_1
 have HC0_1:=zA hc0_1
 clear hr0_1 hc0_1
 have HB:=zA (kW w.heap.size w)
 have H:=h
 unfold impl_stepsOf.f at H
 clear h
 obtain ⟨⟨t417,t418⟩,A2,H⟩:=zb H
 try dsimp only at H
 obtain ⟨⟨t421,t422⟩,A3,H⟩:=zb H
 try dsimp only at H
 obtain rfl:=Option.some.inj H
 go_enter Tryz.func17,Tryz.ntmps17
 go_wp2_with (first | (refine zBE 1 #[.int .i64 a0_0,.slice A0_1 l0_1.length c0_1] 26 ?_;intro gb416 hg w4 hbox hb;have BK416:=zA (hbox);have GW416:=zA (zBH hg HB.out);have GE416:=zA (zBH hg HB.out);replace HB:=zA (kQ (zQ HB.out) hb);clear hb hbox hg;obtain ⟨hcz5_0,hcz5_1,hfz5_0,hfz5_1⟩:=zB3 BK416.out) | (refine zO (some 7) Tryz.func40 #[.agg #[.int .i64 a0_0,.slice A0_1 l0_1.length c0_1]] ?_;(with_reducible refine (impl_complement.calls k a0_0 _ _ l0_1 t417 t418 _ ?side1 ?side2 A2.out).mono ?_);(case side1=>exact zS (kO HR0_1.out HB.out));(case side2=>exact HC0_1.out);rintro e w6 ⟨v419,rfl,ho0,hb⟩;refine ⟨_,rfl,?_⟩;have HO420:=zA (kI ho0 (kP (zT HB.out GE416.out)));replace BK416:=zA (zB1 BK416.out hb);replace HB:=zA (kQ (zT HB.out GE416.out) hb);(try clear hb);(try clear ho0);obtain ⟨Ao7,co7,eo7⟩:=kM HO420.out;subst eo7) | (refine zO (some 9) Tryz.func39 #[.slice Ao7 t418.length co7] ?_;(with_reducible refine (impl_cliques.calls k _ _ t418 t421 t422 _ ?side1 ?side2 ?side3 A3.out).mono ?_);(case side1=>exact zS (kB HO420.out).2.2);(case side2=>exact (kB HO420.out).2.1);(case side3=>exact TabW.below HT.out (zT HB.out GE416.out));rintro e w8 ⟨v423,rfl,ho0,hb⟩;refine ⟨_,rfl,?_⟩;have HO424:=zA (kI (kF ho0 (kH (zP HO420.out))) (kP (zT HB.out GE416.out)));replace HO420:=zA (kE (zP HO420.out) (kC ho0) hb);replace BK416:=zA (zB1 BK416.out hb);replace HB:=zA (kQ (zT HB.out GE416.out) hb);(try clear hb);(try clear ho0)))
 go_ret
 exact ⟨_,zr,by (with_reducible repeat (first | apply zF | apply zG | apply zH));exact kA HO424.out (fun _ hk=>trivial),zT HB.out GE416.out⟩
def bits_OnesCount64.f (a0:Int):Option (Int):=some (Go.bits .and .i64 (wrap64 (IntKind.u64.wrap ((IntKind.u64.wrap ((IntKind.u64.wrap ((Go.bits .and .u64 (IntKind.u64.wrap (((IntKind.u64.wrap ((Go.bits .and .u64 ((IntKind.u64.wrap ((Go.bits .and .u64 (a0 / 2) 6148914691236517205) + (Go.bits .and .u64 a0 6148914691236517205))) / 4) 3689348814741910323) + (Go.bits .and .u64 (IntKind.u64.wrap ((Go.bits .and .u64 (a0 / 2) 6148914691236517205) + (Go.bits .and .u64 a0 6148914691236517205))) 3689348814741910323))) / 16) + (IntKind.u64.wrap ((Go.bits .and .u64 ((IntKind.u64.wrap ((Go.bits .and .u64 (a0 / 2) 6148914691236517205) + (Go.bits .and .u64 a0 6148914691236517205))) / 4) 3689348814741910323) + (Go.bits .and .u64 (IntKind.u64.wrap ((Go.bits .and .u64 (a0 / 2) 6148914691236517205) + (Go.bits .and .u64 a0 6148914691236517205))) 3689348814741910323))))) 1085102592571150095) + ((Go.bits .and .u64 (IntKind.u64.wrap (((IntKind.u64.wrap ((Go.bits .and .u64 ((IntKind.u64.wrap ((Go.bits .and .u64 (a0 / 2) 6148914691236517205) + (Go.bits .and .u64 a0 6148914691236517205))) / 4) 3689348814741910323) + (Go.bits .and .u64 (IntKind.u64.wrap ((Go.bits .and .u64 (a0 / 2) 6148914691236517205) + (Go.bits .and .u64 a0 6148914691236517205))) 3689348814741910323))) / 16) + (IntKind.u64.wrap ((Go.bits .and .u64 ((IntKind.u64.wrap ((Go.bits .and .u64 (a0 / 2) 6148914691236517205) + (Go.bits .and .u64 a0 6148914691236517205))) / 4) 3689348814741910323) + (Go.bits .and .u64 (IntKind.u64.wrap ((Go.bits .and .u64 (a0 / 2) 6148914691236517205) + (Go.bits .and .u64 a0 6148914691236517205))) 3689348814741910323))))) 1085102592571150095) / 256))) + ((IntKind.u64.wrap ((Go.bits .and .u64 (IntKind.u64.wrap (((IntKind.u64.wrap ((Go.bits .and .u64 ((IntKind.u64.wrap ((Go.bits .and .u64 (a0 / 2) 6148914691236517205) + (Go.bits .and .u64 a0 6148914691236517205))) / 4) 3689348814741910323) + (Go.bits .and .u64 (IntKind.u64.wrap ((Go.bits .and .u64 (a0 / 2) 6148914691236517205) + (Go.bits .and .u64 a0 6148914691236517205))) 3689348814741910323))) / 16) + (IntKind.u64.wrap ((Go.bits .and .u64 ((IntKind.u64.wrap ((Go.bits .and .u64 (a0 / 2) 6148914691236517205) + (Go.bits .and .u64 a0 6148914691236517205))) / 4) 3689348814741910323) + (Go.bits .and .u64 (IntKind.u64.wrap ((Go.bits .and .u64 (a0 / 2) 6148914691236517205) + (Go.bits .and .u64 a0 6148914691236517205))) 3689348814741910323))))) 1085102592571150095) + ((Go.bits .and .u64 (IntKind.u64.wrap (((IntKind.u64.wrap ((Go.bits .and .u64 ((IntKind.u64.wrap ((Go.bits .and .u64 (a0 / 2) 6148914691236517205) + (Go.bits .and .u64 a0 6148914691236517205))) / 4) 3689348814741910323) + (Go.bits .and .u64 (IntKind.u64.wrap ((Go.bits .and .u64 (a0 / 2) 6148914691236517205) + (Go.bits .and .u64 a0 6148914691236517205))) 3689348814741910323))) / 16) + (IntKind.u64.wrap ((Go.bits .and .u64 ((IntKind.u64.wrap ((Go.bits .and .u64 (a0 / 2) 6148914691236517205) + (Go.bits .and .u64 a0 6148914691236517205))) / 4) 3689348814741910323) + (Go.bits .and .u64 (IntKind.u64.wrap ((Go.bits .and .u64 (a0 / 2) 6148914691236517205) + (Go.bits .and .u64 a0 6148914691236517205))) 3689348814741910323))))) 1085102592571150095) / 256))) / 65536))) + ((IntKind.u64.wrap ((IntKind.u64.wrap ((Go.bits .and .u64 (IntKind.u64.wrap (((IntKind.u64.wrap ((Go.bits .and .u64 ((IntKind.u64.wrap ((Go.bits .and .u64 (a0 / 2) 6148914691236517205) + (Go.bits .and .u64 a0 6148914691236517205))) / 4) 3689348814741910323) + (Go.bits .and .u64 (IntKind.u64.wrap ((Go.bits .and .u64 (a0 / 2) 6148914691236517205) + (Go.bits .and .u64 a0 6148914691236517205))) 3689348814741910323))) / 16) + (IntKind.u64.wrap ((Go.bits .and .u64 ((IntKind.u64.wrap ((Go.bits .and .u64 (a0 / 2) 6148914691236517205) + (Go.bits .and .u64 a0 6148914691236517205))) / 4) 3689348814741910323) + (Go.bits .and .u64 (IntKind.u64.wrap ((Go.bits .and .u64 (a0 / 2) 6148914691236517205) + (Go.bits .and .u64 a0 6148914691236517205))) 3689348814741910323))))) 1085102592571150095) + ((Go.bits .and .u64 (IntKind.u64.wrap (((IntKind.u64.wrap ((Go.bits .and .u64 ((IntKind.u64.wrap ((Go.bits .and .u64 (a0 / 2) 6148914691236517205) + (Go.bits .and .u64 a0 6148914691236517205))) / 4) 3689348814741910323) + (Go.bits .and .u64 (IntKind.u64.wrap ((Go.bits .and .u64 (a0 / 2) 6148914691236517205) + (Go.bits .and .u64 a0 6148914691236517205))) 3689348814741910323))) / 16) + (IntKind.u64.wrap ((Go.bits .and .u64 ((IntKind.u64.wrap ((Go.bits .and .u64 (a0 / 2) 6148914691236517205) + (Go.bits .and .u64 a0 6148914691236517205))) / 4) 3689348814741910323) + (Go.bits .and .u64 (IntKind.u64.wrap ((Go.bits .and .u64 (a0 / 2) 6148914691236517205) + (Go.bits .and .u64 a0 6148914691236517205))) 3689348814741910323))))) 1085102592571150095) / 256))) + ((IntKind.u64.wrap ((Go.bits .and .u64 (IntKind.u64.wrap (((IntKind.u64.wrap ((Go.bits .and .u64 ((IntKind.u64.wrap ((Go.bits .and .u64 (a0 / 2) 6148914691236517205) + (Go.bits .and .u64 a0 6148914691236517205))) / 4) 3689348814741910323) + (Go.bits .and .u64 (IntKind.u64.wrap ((Go.bits .and .u64 (a0 / 2) 6148914691236517205) + (Go.bits .and .u64 a0 6148914691236517205))) 3689348814741910323))) / 16) + (IntKind.u64.wrap ((Go.bits .and .u64 ((IntKind.u64.wrap ((Go.bits .and .u64 (a0 / 2) 6148914691236517205) + (Go.bits .and .u64 a0 6148914691236517205))) / 4) 3689348814741910323) + (Go.bits .and .u64 (IntKind.u64.wrap ((Go.bits .and .u64 (a0 / 2) 6148914691236517205) + (Go.bits .and .u64 a0 6148914691236517205))) 3689348814741910323))))) 1085102592571150095) + ((Go.bits .and .u64 (IntKind.u64.wrap (((IntKind.u64.wrap ((Go.bits .and .u64 ((IntKind.u64.wrap ((Go.bits .and .u64 (a0 / 2) 6148914691236517205) + (Go.bits .and .u64 a0 6148914691236517205))) / 4) 3689348814741910323) + (Go.bits .and .u64 (IntKind.u64.wrap ((Go.bits .and .u64 (a0 / 2) 6148914691236517205) + (Go.bits .and .u64 a0 6148914691236517205))) 3689348814741910323))) / 16) + (IntKind.u64.wrap ((Go.bits .and .u64 ((IntKind.u64.wrap ((Go.bits .and .u64 (a0 / 2) 6148914691236517205) + (Go.bits .and .u64 a0 6148914691236517205))) / 4) 3689348814741910323) + (Go.bits .and .u64 (IntKind.u64.wrap ((Go.bits .and .u64 (a0 / 2) 6148914691236517205) + (Go.bits .and .u64 a0 6148914691236517205))) 3689348814741910323))))) 1085102592571150095) / 256))) / 65536))) / 4294967296)))) 127)
set_option maxHeartbeats 8000000 in
set_option maxRecDepth 100000 in
theorem bits_OnesCount64.calls (a0 : Int) (r : Int) (w : World) (h : bits_OnesCount64.f a0 = some r) :
  Calls Tryz.prog 41 #[.int .u64 a0] w fun e w' => e = .returned (.int .i64 r) ∧ Drawn0 w w' := by
 have H:=h
 unfold bits_OnesCount64.f at H
 clear h
 obtain rfl:=Option.some.inj H
 go_enter Tryz.func41,Tryz.ntmps41
 go_wp2
 go_ret
 exact ⟨zs,by repeat (first | exact Drawn0.refl _ | apply Drawn0.step)⟩
def impl_size.f (a0:Int):Option (Int):=(bits_OnesCount64.f (IntKind.u64.wrap (a0))).bind fun t425=>(some t425)
set_option maxHeartbeats 8000000 in
set_option maxRecDepth 100000 in
theorem impl_size.calls (a0 : Int) (r : Int) (w : World) (h : impl_size.f a0 = some r) :
  Calls Tryz.prog 19 #[.int .i64 a0] w fun e w' => e = .returned (.int .i64 r) ∧ Drawn0 w w' := by
 have H:=h
 unfold impl_size.f at H
 clear h
 obtain ⟨t425,A2,H⟩:=zb H
 try dsimp only at H
 obtain rfl:=Option.some.inj H
 go_enter Tryz.func19,Tryz.ntmps19
 go_wp2_with (first | (refine zO (some 5) Tryz.func41 #[.int .u64 (IntKind.u64.wrap (a0))] ?_;(with_reducible refine (bits_OnesCount64.calls (IntKind.u64.wrap (a0)) t425 _ A2.out).mono ?_);rintro e w' ⟨rfl,⟨nd,rfl⟩⟩;refine ⟨_,rfl,?_⟩))
 go_ret
 exact ⟨zs,by repeat (first | exact Drawn0.refl _ | apply Drawn0.step)⟩
mutual
def impl_cliquePolynomial.l0:Nat → List Int → List Int → Int → Int → Option (List Int)
 | 0,_,_,_,_=>none
 | k + 1,x3,x8,x9,x10=>if x10 < x9 then (if 0 ≤ x10 then (if x10 < (x8.length:Int) then (impl_cliquePolynomial.l1 k x3 (rd x8 x10) x8 x9 x10) else (none)) else (none)) else (some x3)
def impl_cliquePolynomial.l1:Nat → List Int → Int → List Int → Int → Int → Option (List Int)
 | 0,_,_,_,_,_=>none
 | k + 1,x3,x5,x8,x9,x10=>(impl_length_int64.f x3).bind fun t434=>((impl_size.f x5).bind fun t435=>(if t434 ≤ t435 then (if x3.length < 17592186044416 then (impl_cliquePolynomial.l1 k (x3 ++ [0]) x5 x8 x9 x10) else (none)) else ((impl_size.f x5).bind fun t439=>(if 0 ≤ t439 then (if t439 < (x3.length:Int) then ((impl_size.f x5).bind fun t441=>(impl_cliquePolynomial.l0 k (x3.set (t439:Int).toNat (wrap64 ((rd x3 t439) + (wrap64 (1 - (wrap64 (2 * (Int.tmod t441 2)))))))) x8 x9 (wrap64 (x10 + 1)))) else (none)) else (none)))))
end
def impl_cliquePolynomial.f (k:Nat) (a0_0:Int) (l0_1:List Int):Option (List Int):=(impl_stepsOf.f k a0_0 l0_1).bind fun t430=>(impl_cliquePolynomial.l0 k (([]:List Int)) t430 (t430.length:Int) 0)
def impl_cliquePolynomial.T7:Bool × List (List Nat × List Nat):=(true,[([],[]),([],[]),([1],[1]),([0,2],[0,2]),([3],[3]),([],[]),([5,2],[5]),([6],[6]),([7],[7]),([8],[8]),([4,9],[4,9]),([0,2,0,1,2,3,4,5,6,7,8,9,10],[0,2]),([11,10,6,0,1,2,3,4,5,6,7,8,9,10],[10,11])])
def impl_cliquePolynomial.B7:List Nat:=[0,0,2,7,15,0,38,102,230,486,1023,2047,4095]
theorem impl_cliquePolynomial.tab7:rtab .any (opsOf Tryz.f38 7) = impl_cliquePolynomial.T7:=by kernel_rfl
theorem impl_cliquePolynomial.bits7:waitsOk impl_cliquePolynomial.T7.2 impl_cliquePolynomial.B7 = true:=by kernel_rfl
set_option maxHeartbeats 8000000 in
set_option maxRecDepth 100000 in
theorem impl_cliquePolynomial.calls (k : Nat) (a0_0 : Int) (A0_1 : Option Addr) (c0_1 : Nat) (l0_1 : List Int) (r : List Int) (w : World) (hr0_1 : Kd.C (Kd.int .i64) w A0_1 l0_1.length l0_1) (hc0_1 : l0_1.length ≤ c0_1) (hT : TabW w) (h : impl_cliquePolynomial.f k a0_0 l0_1 = some r) :
  Calls Tryz.prog 38 #[.agg #[.int .i64 a0_0,.slice A0_1 l0_1.length c0_1]] w fun e w' => ∃ v0_:Value,e = .returned (v0_) ∧ Kd.R (Kd.int .i64) 2 w' w.heap.size (fun _=>True) v0_ r ∧ Below w.heap.size w w' := by
 have hu26:=Tryz.underlying26
 have HT:=zA hT
 clear hT
 have HR0_1:=zA hr0_1
 have HC0_1:=zA hc0_1
 clear hr0_1 hc0_1
 have HB:=zA (kW w.heap.size w)
 have H:=h
 unfold impl_cliquePolynomial.f at H
 clear h
 obtain ⟨y427,hy427⟩:∃ y_:List Int,y_ = (([]:List Int)):=⟨_,rfl⟩
 replace H:((impl_stepsOf.f k a0_0 l0_1).bind fun t430=>(impl_cliquePolynomial.l0 k y427 t430 (t430.length:Int) 0)) = some r:=zy hy427 H
 have Ny427:=zA hy427
 clear hy427
 obtain ⟨t430,A2,H⟩:=zb H
 try dsimp only at H
 have H' := zA H
 clear H
 go_enter Tryz.func38,Tryz.ntmps38
 go_wp2_with (first | (refine zBE 1 #[.int .i64 a0_0,.slice A0_1 l0_1.length c0_1] 26 ?_;intro gb426 hg w3 hbox hb;have BK426:=zA (hbox);have GW426:=zA (zBH hg HB.out);have GE426:=zA (zBH hg HB.out);replace HB:=zA (kQ (zQ HB.out) hb);clear hb hbox hg) | ((with_reducible refine kS (N:=6) rfl ?_);refine Kd.R_lit (Kd.int .i64) _ 2 ?hg (N:=6) ?hd (xs:=([]:List Int)) (inner:=[]) (ok:=fun _=>True) (okp:=fun _=>True) ?hr ?hp (fun _ hk=>hk) trivial (kW _ _) (Nat.le_refl _) (by simp) ?_;(case hd=>rfl);(case hg=>rfl);(case hr=>first | (go_simp;done) | (go_simp;rfl));(case hp=>exact (Reps.none _ _));intro v428 w4 ho5 hb hg_ hnew_;clear hg_ hnew_;(first | rw [← Ny427.out] at ho5 | (simp only [Int.reduceToNat] at ho5;rw [← Ny427.out] at ho5));have HO429:=zA (kI ho5 (kP (zT HB.out GE426.out)));replace BK426:=zA (zB1 BK426.out hb);replace HB:=zA (kQ (zT HB.out GE426.out) hb);clear hb ho5;obtain ⟨hcz6_0,hcz6_1,hfz6_0,hfz6_1⟩:=zB3 BK426.out) | (refine zO (some 8) Tryz.func17 #[.agg #[.int .i64 a0_0,.slice A0_1 l0_1.length c0_1]] ?_;(with_reducible refine (impl_stepsOf.calls k a0_0 _ _ l0_1 t430 _ ?side1 ?side2 ?side3 A2.out).mono ?_);(case side1=>exact zS (kO HR0_1.out HB.out));(case side2=>exact HC0_1.out);(case side3=>exact TabW.below HT.out (zT HB.out GE426.out));rintro e w7 ⟨v431,rfl,ho0,hb⟩;refine ⟨_,rfl,?_⟩;have HO432:=zA (kI (kF ho0 (kH (zP HO429.out))) (kP (zT HB.out GE426.out)));replace HO429:=zA (kE (zP HO429.out) (kC ho0) hb);replace BK426:=zA (zB1 BK426.out hb);replace HB:=zA (kQ (zT HB.out GE426.out) hb);(try clear hb);(try clear ho0);obtain ⟨Ao8,co8,eo8⟩:=kM HO432.out;subst eo8))
 go_loopg [3,10] k (fun kq v3 v10 w' => ∃ (x3_1:List Int) (x8_1:List Int) (x10_1:Int),v10 = .int .i64 x10_1 ∧ Aside0 (impl_cliquePolynomial.l0 kq x3_1 x8_1 (t430.length:Int) x10_1 = some r) ∧ Aside0 (kq ≤ k) ∧ Aside0 (Kd.R (Kd.int .i64) 2 w' w.heap.size (fun k_=>some k_ ≠ ((.slice Ao8 t430.length co8):Value).ownBlock) v3 x3_1) ∧ Aside0 (Kd.R (Kd.int .i64) 2 w' w.heap.size (fun k_=>some k_ ≠ (v3:Value).ownBlock) (.slice Ao8 t430.length co8) x8_1) ∧ Aside0 (w'.heap[gb426]? = some (.cells #[.int .i64 a0_0,(.slice A0_1 l0_1.length c0_1)] 26 (0,0))) ∧ Aside0 (Below w.heap.size w w'))
 case atStart=>exact ⟨(y427),(t430),(0),zs,H', ⟨Nat.le_refl _⟩,⟨zPM HO429.out (fun _ hk=>hk.2)⟩,⟨zPM HO432.out (fun _ hk=>hk.2)⟩,⟨zR BK426.out⟩,⟨zT HB.out GE426.out⟩⟩
 case round =>
  clear H'
  try clear c1
  try clear c3
  try clear hcz6_0
  try clear hcz6_1
  try clear hfz6_0
  try clear hfz6_1
  obtain ⟨x3_1,x8_1,x10_1,rfl,HA,HK1,HO_3,HO_8,BK426,HB⟩:=hrel
  have hl8_1:=(kB HO_8.out).1
  rw [hl8_1] at HO_8
  (try simp only [hl8_1])
  (try simp only [hl8_1] at BK426)
  (try simp only [hl8_1] at HO_3)
  cases gk with
  | zero=>exact absurd HA.out (by simp [impl_cliquePolynomial.l0])
  | succ k1 =>
   have H:=HA.out
   clear HA
   simp only [impl_cliquePolynomial.l0] at H
   by_cases c9:x10_1 < (t430.length:Int)
   ·rw [if_pos c9] at H
    have c9b0:decide (x10_1 < (t430.length:Int)) = true:=decide_eq_true c9
    (try (have c9b0h0_:=c9b0;rw [hl8_1] at c9b0h0_))
    clear c9
    by_cases c10:0 ≤ x10_1
    ·rw [if_pos c10] at H
     have c10b0:decide (0 ≤ x10_1) = true:=decide_eq_true c10
     clear c10
     by_cases c11:x10_1 < (x8_1.length:Int)
     ·rw [if_pos c11] at H
      have c11b0:decide (x10_1 < (x8_1.length:Int)) = true:=decide_eq_true c11
      (try (have c11b0h0_:=c11b0;rw [hl8_1] at c11b0h0_))
      clear c11
      have H' := zA H
      clear H
      have p433:0 ≤ (x10_1:Int):=zd
      have q433:x10_1 < (x8_1.length:Int):=zd
      obtain ⟨ad433,e433,hx433_0⟩:=Kd.at_int (kB HO_8.out).2.2 x10_1 p433 q433
      cases e433
      replace p433:=eq_true p433
      replace q433:=eq_true q433
      go_wp2
      go_loopg [3] k1 (fun kq v3 w' => ∃ (x3_2:List Int),Aside0 (impl_cliquePolynomial.l1 kq x3_2 (rd x8_1 x10_1) x8_1 (t430.length:Int) x10_1 = some r) ∧ Aside0 (kq ≤ k1) ∧ Aside0 (Kd.R (Kd.int .i64) 2 w' w.heap.size (fun k_=>some k_ ≠ ((.slice (some ad433) x8_1.length co8):Value).ownBlock) v3 x3_2) ∧ Aside0 (Kd.R (Kd.int .i64) 2 w' w.heap.size (fun k_=>some k_ ≠ (v3:Value).ownBlock) (.slice (some ad433) x8_1.length co8) x8_1) ∧ Aside0 (w'.heap[gb426]? = some (.cells #[.int .i64 a0_0,(.slice A0_1 l0_1.length c0_1)] 26 (0,0))) ∧ Aside0 (Below w.heap.size w w'))
      case atStart=>exact ⟨(x3_1),H', ⟨Nat.le_refl _⟩,⟨by (try simp only [hl8_1]);(with_reducible repeat (first | apply zF | apply zG | apply zH));exact HO_3.out⟩,⟨by (try simp only [hl8_1]);(with_reducible repeat (first | apply zF | apply zG | apply zH));exact HO_8.out⟩,⟨by (try simp only [hl8_1]);(with_reducible repeat (first | refine zJ ?_ _ | refine zK ?_ | refine zI ?_ _));exact BK426.out⟩,⟨zT HB.out GE426.out⟩⟩
      case round =>
       clear H'
       try clear c1
       try clear c3
       try clear hx4
       try clear c9
       try clear c10
       try clear c11
       try clear hcz6_0
       try clear hcz6_1
       try clear hfz6_0
       try clear hfz6_1
       try clear hx433_0
       obtain ⟨x3_2,HA,HK2,HO_3,HO_8,BK426,HB⟩:=hrel
       cases gk with
       | zero=>exact absurd HA.out (by simp [impl_cliquePolynomial.l1])
       | succ k2 =>
        have H:=HA.out
        clear HA
        simp only [impl_cliquePolynomial.l1] at H
        obtain ⟨t434,A12,H⟩:=zb H
        try dsimp only at H
        obtain ⟨t435,A13,H⟩:=zb H
        try dsimp only at H
        by_cases c14:t434 ≤ t435
        ·rw [if_pos c14] at H
         have c14b0:decide (t434 ≤ t435) = true:=decide_eq_true c14
         clear c14
         by_cases c15:x3_2.length < 17592186044416
         ·rw [if_pos c15] at H
          have LMc15:=zA c15
          clear c15
          obtain ⟨y436,hy436⟩:∃ y_:List Int,y_ = (x3_2 ++ [0]):=⟨_,rfl⟩
          replace H:(impl_cliquePolynomial.l1 k2 y436 (rd x8_1 x10_1) x8_1 (t430.length:Int) x10_1) = some r:=zy hy436 H
          have Ny436:=zA hy436
          clear hy436
          have H' := zA H
          clear H
          obtain ⟨Ao16,co16,eo16⟩:=kM HO_3.out
          subst eo16
          go_wp2_with (first | (refine zO (some 15) Tryz.func31 #[.slice Ao16 x3_2.length co16] ?_;(with_reducible refine (impl_length_int64.calls _ _ x3_2 t434 _ ?side1 ?side2 A12.out).mono ?_);(case side1=>exact zS (kB HO_3.out).2.2);(case side2=>exact (kB HO_3.out).2.1);rintro e w' ⟨rfl,⟨nd,rfl⟩⟩;refine ⟨_,rfl,?_⟩) | (refine zO (some 17) Tryz.func19 #[.int .i64 (rd x8_1 x10_1)] ?_;(with_reducible refine (impl_size.calls (rd x8_1 x10_1) t435 _ A13.out).mono ?_);rintro e w' ⟨rfl,⟨nd,rfl⟩⟩;refine ⟨_,rfl,?_⟩) | ((with_reducible refine gate_builtin (b:=.append) (xs:=#[.tmp 19,.tmp 20]) rfl ?_);at_builtin;refine Kd.R_append (Kd.int .i64) (w0:=w) w.heap.size rfl (.tmp 19) (.tmp 20) 24 2 (.int .i64 0) 8 rfl Tryz.underlying24 info2 rfl (by decide) (by omega) (.slice Ao16 x3_2.length co16) x3_2 0 [.int .i64 0] (fun k_=>some k_ ≠ (.slice (some ad433) x8_1.length co8:Value).ownBlock) (fun _=>False) rfl rfl ?aP (fun _ hk=>hk.elim) ?aF ?aO ?aB ?aS ?aL ?_;(case aP=>exact rfl);(case aB=>exact (zT HB.out GE426.out));(case aF=>exact (fun k_ hk=>jF (kH (zP HO_8.out)) k_ hk));(case aO=>exact (zP HO_3.out));(case aS=>exact (kP (zT HB.out GE426.out)));(case aL=>have:=LMc15.out;omega);intro v437 w17 ho hb hg hat;rw [← Ny436.out] at ho;replace HO_8:=zA (Kd.R_after (ok:=(fun _=>True)) (by (with_reducible repeat (first | apply zF | apply zG | apply zH));exact kA HO_8.out (fun _ hk=>⟨trivial,hk⟩)) hg hat);replace BK426:=zA (blk_grown (g:=gb426) (o:=.cells #[.int .i64 a0_0,.slice A0_1 l0_1.length c0_1] 26 (0,0)) (zR BK426.out) hg (Kd.R_ne HO_3.out BK426.out (by decide)));replace HB:=zA (hb);have HO438:=zA (ho);clear HO_3;clear ho hb hg hat))
          go_roundg k2
          case measure=>have:=HK1.out;have:=HK2.out;omega
          case rel=>exact ⟨(y436),H', ⟨by have:=HK1.out;have:=HK2.out;omega⟩,⟨by (try simp only [hl8_1]);(with_reducible repeat (first | apply zF | apply zG | apply zH));exact HO438.out⟩,⟨by (try simp only [hl8_1]);(with_reducible repeat (first | apply zF | apply zG | apply zH));exact kA HO_8.out (fun _ hk=>hk.2)⟩,⟨by (try simp only [hl8_1]);(with_reducible repeat (first | refine zJ ?_ _ | refine zK ?_ | refine zI ?_ _));exact BK426.out⟩,⟨zT HB.out GE426.out⟩⟩
         rw [if_neg c15] at H
         exact absurd H (by simp)
        rw [if_neg c14] at H
        have c14b0:decide (t434 ≤ t435) = false:=decide_eq_false c14
        clear c14
        obtain ⟨t439,A18,H⟩:=zb H
        try dsimp only at H
        by_cases c19:0 ≤ t439
        ·rw [if_pos c19] at H
         have c19b0:decide (0 ≤ t439) = true:=decide_eq_true c19
         clear c19
         by_cases c20:t439 < (x3_2.length:Int)
         ·rw [if_pos c20] at H
          have c20b0:decide (t439 < (x3_2.length:Int)) = true:=decide_eq_true c20
          (try (have c20b0h0_:=c20b0;rw [hl8_1] at c20b0h0_))
          clear c20
          obtain ⟨t441,A21,H⟩:=zb H
          try dsimp only at H
          obtain ⟨y442,hy442⟩:∃ y_:List Int,y_ = (x3_2.set (t439:Int).toNat (wrap64 ((rd x3_2 t439) + (wrap64 (1 - (wrap64 (2 * (Int.tmod t441 2)))))))):=⟨_,rfl⟩
          replace H:(impl_cliquePolynomial.l0 k2 y442 x8_1 (t430.length:Int) (wrap64 (x10_1 + 1))) = some r:=zy hy442 H
          have Ny442:=zA hy442
          clear hy442
          have H' := zA H
          clear H
          obtain ⟨Ao23,co23,eo23⟩:=kM HO_3.out
          subst eo23
          try go_wp2_with (first | (refine zO (some 15) Tryz.func31 #[.slice Ao23 x3_2.length co23] ?_;(with_reducible refine (impl_length_int64.calls _ _ x3_2 t434 _ ?side1 ?side2 A12.out).mono ?_);(case side1=>exact zS (kB HO_3.out).2.2);(case side2=>exact (kB HO_3.out).2.1);rintro e w' ⟨rfl,⟨nd,rfl⟩⟩;refine ⟨_,rfl,?_⟩;(try (rw [drewN_self wr];generalize hq_:World.drewN wr _ = wr;have n0_:Aside0 (Kd.R (Kd.int .i64) 2 wr w.heap.size (fun k_=>some k_ ≠ (.slice (some ad433) x8_1.length co8:Value).ownBlock) (.slice Ao23 x3_2.length co23) x3_2):=⟨by rw [← hq_];exact (zP HO_3.out)⟩;have n1_:Aside0 (Kd.R (Kd.int .i64) 2 wr w.heap.size (fun k_=>some k_ ≠ (.slice Ao23 x3_2.length co23:Value).ownBlock) (.slice (some ad433) x8_1.length co8) x8_1):=⟨by rw [← hq_];exact (zP HO_8.out)⟩;have n2_:Aside0 (wr.heap[gb426]? = some (.cells #[.int .i64 a0_0,.slice A0_1 l0_1.length c0_1] 26 (0,0))):=⟨by rw [← hq_];exact (zR BK426.out)⟩;have n3_:Aside0 (Below w.heap.size w wr):=⟨by rw [← hq_];exact (zT HB.out GE426.out)⟩;clear HO_3 HO_8 BK426 HB hq_;have HO_3:=n0_;have HO_8:=n1_;have BK426:=n2_;have HB:=n3_;clear n0_ n1_ n2_ n3_))) | (refine zO (some 17) Tryz.func19 #[.int .i64 (rd x8_1 x10_1)] ?_;(with_reducible refine (impl_size.calls (rd x8_1 x10_1) t435 _ A13.out).mono ?_);rintro e w' ⟨rfl,⟨nd,rfl⟩⟩;refine ⟨_,rfl,?_⟩;(try (rw [drewN_self wr];generalize hq_:World.drewN wr _ = wr;have n0_:Aside0 (Kd.R (Kd.int .i64) 2 wr w.heap.size (fun k_=>some k_ ≠ (.slice (some ad433) x8_1.length co8:Value).ownBlock) (.slice Ao23 x3_2.length co23) x3_2):=⟨by rw [← hq_];exact (zP HO_3.out)⟩;have n1_:Aside0 (Kd.R (Kd.int .i64) 2 wr w.heap.size (fun k_=>some k_ ≠ (.slice Ao23 x3_2.length co23:Value).ownBlock) (.slice (some ad433) x8_1.length co8) x8_1):=⟨by rw [← hq_];exact (zP HO_8.out)⟩;have n2_:Aside0 (wr.heap[gb426]? = some (.cells #[.int .i64 a0_0,.slice A0_1 l0_1.length c0_1] 26 (0,0))):=⟨by rw [← hq_];exact (zR BK426.out)⟩;have n3_:Aside0 (Below w.heap.size w wr):=⟨by rw [← hq_];exact (zT HB.out GE426.out)⟩;clear HO_3 HO_8 BK426 HB hq_;have HO_3:=n0_;have HO_8:=n1_;have BK426:=n2_;have HB:=n3_;clear n0_ n1_ n2_ n3_))))
          replace HO_3:=zA (zH HO_3.out)
          replace HO_8:=zA (zH HO_8.out)
          replace BK426:=zA (zK BK426.out)
          replace HB:=zA (zD HB.out)
          have p440:0 ≤ (t439:Int):=zd
          have q440:t439 < (x3_2.length:Int):=zd
          obtain ⟨ad440,e440,hx440_0⟩:=Kd.at_int (kB HO_3.out).2.2 t439 p440 q440
          cases e440
          replace p440:=eq_true p440
          replace q440:=eq_true q440
          refine start_ (n:=13) (S:=fun w' => w'.cell? (ad440.add (t439).toNat) = some (.int .i64 (rd x3_2 t439))) (ds:=[12]) #[false,false,false,false,false,false,false,false,false,false,false,false,false] (by kernel_rfl) rfl rfl (hx440_0) (fun hHeld=>?_);refine with_tabW impl_cliquePolynomial.tab7 impl_cliquePolynomial.bits7 (fun HT_ HW_=>?_)
          generalize wr.drew = w24 at HO_3 HO_8 BK426 HB hx440_0 hHeld ⊢
          refine zp 0 (some 22) #[true,false,false,false,false,false,false,false,false,false,false,false,false] HT_.out ?_
          refine zp 1 (some 23) #[true,true,false,false,false,false,false,false,false,false,false,false,false] HT_.out ?_
          refine zp 5 (some 27) #[true,true,false,false,false,true,false,false,false,false,false,false,false] HT_.out ?_
          refine one_ (i:=2) (N:=some 24) #[true,true,true,false,false,true,false,false,false,false,false,false,false] rfl rfl (one_of HT_.out (by kernel_rfl)) (by decide) (fun K hK=>?_)
          refine goes_ Tryz.func19 (by kernel_rfl) rfl #[.int .i64 (rd x8_1 x10_1)] (by rfl) rfl rfl zg ?_
          with_reducible refine (impl_size.calls (rd x8_1 x10_1) t439 _ A18.out).mono ?_
          rintro e w' ⟨rfl,⟨nd,rfl⟩⟩
          refine ⟨_,rfl,?_⟩
          refine hK.out _ _ (hHeld) (fun hHeld=>?_)
          clear hK K
          refine norm_ (a' := ?_) ?_ ?_
          rotate_left
          ·show Act.put _ (some 24) _ = _
           simp only [Act.put,zL,zM,zN,i64_w,i32_w]
           rfl
          refine zp 3 (some 25) #[true,true,true,true,false,true,false,false,false,false,false,false,false] HT_.out ?_
          refine za 4 (some 26) #[true,true,true,true,true,true,false,false,false,false,false,false,false] HT_.out HW_.out hHeld ?_
          refine one_ (i:=6) (N:=some 28) #[true,true,true,true,true,true,true,false,false,false,false,false,false] rfl rfl (one_of HT_.out (by kernel_rfl)) (by decide) (fun K hK=>?_)
          refine goes_ Tryz.func19 (by kernel_rfl) rfl #[.int .i64 (rd x8_1 x10_1)] (by rfl) rfl rfl zg ?_
          with_reducible refine (impl_size.calls (rd x8_1 x10_1) t441 _ A21.out).mono ?_
          rintro e w' ⟨rfl,⟨nd,rfl⟩⟩
          refine ⟨_,rfl,?_⟩
          have p22:0 ≤ (t439:Int):=zd
          have q22:(t439:Int) < ((x3_2.length:Int):Int):=zd
          obtain ⟨go22,co22,eo22,gb22,gl22,cl22,HG22⟩:=Kd.R_form HO_3.out (by omega)
          (first | cases eo22 | (injection eo22 with ea_ en_ ec_;(first | subst ea_ | (injection ea_ with ea_;subst ea_));subst ec_;clear en_))
          have GB22:=zA gb22
          have GG22:=zA HG22
          clear gb22 gl22 HG22
          (first | simp only [add_plain] at hx440_0 | skip)
          obtain ⟨hx22_0,hf22_0⟩:=Kd.R_celln 0 HO_3.out (t439:Int) p22 q22
          replace p22:=eq_true p22
          replace q22:=eq_true q22
          have HP25:=Kd.R_putn HO_3.out (t439:Int) (wrap64 ((rd x3_2 t439) + (wrap64 (1 - (wrap64 (2 * (Int.tmod t441 2)))))))
          rw [← Ny442.out] at HP25
          have HQ25:=zA HP25
          clear HP25
          refine hK.out _ _ (hHeld) (fun hHeld=>?_)
          clear hK K
          refine norm_ (a' := ?_) ?_ ?_
          rotate_left
          ·show Act.put _ (some 28) _ = _
           simp only [Act.put,zL,zM,zN,i64_w,i32_w]
           rfl
          refine zp 7 (some 29) #[true,true,true,true,true,true,true,true,false,false,false,false,false] HT_.out ?_
          refine zp 8 (some 30) #[true,true,true,true,true,true,true,true,true,false,false,false,false] HT_.out ?_
          refine zp 9 (some 31) #[true,true,true,true,true,true,true,true,true,true,false,false,false] HT_.out ?_
          refine zp 10 (some 32) #[true,true,true,true,true,true,true,true,true,true,true,false,false] HT_.out ?_
          refine zp 11 (some 33) #[true,true,true,true,true,true,true,true,true,true,true,true,false] HT_.out ?_
          refine last_ (i:=12) (N:=none) #[true,true,true,true,true,true,true,true,true,true,true,true,true] rfl rfl (one_of HT_.out (by kernel_rfl)) (by decide) (fun K hK=>?_)
          refine skip_ (w1:=?_) (by rfl) rfl ?_ ?_
          rotate_left
          ·go_simp
           rfl
          refine hK.out _ _ ?_
          clear hK K
          refine done_ (done_of HT_.out (by kernel_rfl)) ?_
          try go_wp2
          (try simp only [← hl8_1])
          go_roundg k2
          case measure=>have:=HK1.out;have:=HK2.out;omega
          case rel=>exact ⟨(y442),(x8_1),(wrap64 (x10_1 + 1)),zs,H', ⟨by have:=HK1.out;have:=HK2.out;omega⟩,⟨by (try simp only [hl8_1]);(with_reducible repeat (first | apply zF | apply zG | apply zH));exact HQ25.out⟩,⟨by (try simp only [hl8_1]);(with_reducible repeat (first | apply zF | apply zG | apply zH));exact kA (kY (p:=⟨go22,(t439:Int).toNat,none⟩) (kA HO_8.out (fun k_ hk=>(⟨hk,fun e_=>hk (by rw [e_];rfl)⟩:_ ∧ k_ ≠ go22))) (fun _ hk=>hk.2) (.int .i64 (wrap64 ((rd x3_2 t439) + (wrap64 (1 - (wrap64 (2 * (Int.tmod t441 2))))))))) (fun _ hk=>hk.1)⟩,⟨by (try simp only [hl8_1]);(with_reducible repeat (first | refine zJ ?_ _ | refine zK ?_ | refine zI ?_ _));refine blk_far ?_ (by have h_:=Kd.R_ne HO_3.out BK426.out (by decide);intro e_;exact h_ (by rw [e_];rfl)) _;(with_reducible repeat (first | refine zJ ?_ _ | refine zK ?_ | refine zI ?_ _));exact BK426.out⟩,⟨zV HB.out GB22.out GE426.out⟩⟩
         rw [if_neg c20] at H
         exact absurd H (by simp)
        rw [if_neg c19] at H
        exact absurd H (by simp)
     rw [if_neg c11] at H
     exact absurd H (by simp)
    rw [if_neg c10] at H
    exact absurd H (by simp)
   rw [if_neg c9] at H
   have c9b0:decide (x10_1 < (t430.length:Int)) = false:=decide_eq_false c9
   (try (have c9b0h0_:=c9b0;rw [hl8_1] at c9b0h0_))
   clear c9
   obtain rfl:=Option.some.inj H
   go_wp2
   go_ret
   exact ⟨_,zr,by (with_reducible repeat (first | apply zF | apply zG | apply zH));exact kA HO_3.out (fun _ hk=>trivial),zT HB.out GE426.out⟩
def impl_checkCount.f (k:Nat) (a0_0:Int) (l0_1:List Int) (a1:Int):Option (Int × Int):=(impl_IsAlphabet.f k a0_0 l0_1).bind fun t444=>(if t444 = true then ((impl_inRange.f a1 0 24).bind fun t445=>(if t445 = true then ((impl_cliquePolynomial.f k a0_0 l0_1).bind fun t446=>((impl_inverse.f k t446 a1).bind fun bt449=>(if bt449.2 = 0 then (if 0 ≤ a1 then (if a1 < (bt449.1.length:Int) then (some (rd bt449.1 a1,0)) else (none)) else (none)) else (some (0,bt449.2))))) else (some (0,2)))) else (some (0,1)))
set_option maxHeartbeats 8000000 in
set_option maxRecDepth 100000 in
theorem impl_checkCount.calls (k : Nat) (a0_0 : Int) (A0_1 : Option Addr) (c0_1 : Nat) (l0_1 : List Int) (a1 : Int) (r1 : Int) (r2 : Int) (w : World) (hr0_1 : Kd.C (Kd.int .i64) w A0_1 l0_1.length l0_1) (hc0_1 : l0_1.length ≤ c0_1) (hT : TabW w) (h : impl_checkCount.f k a0_0 l0_1 a1 = some (r1, r2)) :
  Calls Tryz.prog 16 #[.agg #[.int .i64 a0_0,.slice A0_1 l0_1.length c0_1],.int .i64 a1] w fun e w' => e = .returned (.tuple #[.int .i64 r1,.int .i64 r2]) ∧ Below w.heap.size w w' := by
 have hu26:=Tryz.underlying26
 have HT:=zA hT
 clear hT
 have HR0_1:=zA hr0_1
 have HC0_1:=zA hc0_1
 clear hr0_1 hc0_1
 have HB:=zA (kW w.heap.size w)
 have H:=h
 unfold impl_checkCount.f at H
 clear h
 obtain ⟨t444,A3,H⟩:=zb H
 try dsimp only at H
 by_cases c4:t444 = true
 ·subst c4
  rw [if_pos rfl] at H
  obtain ⟨t445,A5,H⟩:=zb H
  try dsimp only at H
  by_cases c6:t445 = true
  ·subst c6
   rw [if_pos rfl] at H
   obtain ⟨t446,A7,H⟩:=zb H
   try dsimp only at H
   obtain ⟨⟨t449,t450⟩,A8,H⟩:=zb H
   try dsimp only at H
   by_cases c9:t450 = 0
   ·rw [if_pos c9] at H
    obtain ⟨c9b0,c9b1⟩:=zT1 c9
    clear c9
    by_cases c10:0 ≤ a1
    ·rw [if_pos c10] at H
     have c10b0:decide (0 ≤ a1) = true:=decide_eq_true c10
     clear c10
     by_cases c11:a1 < (t449.length:Int)
     ·rw [if_pos c11] at H
      have c11b0:decide (a1 < (t449.length:Int)) = true:=decide_eq_true c11
      clear c11
      simp only [Option.some.injEq,Prod.mk.injEq] at H
      obtain ⟨rfl,rfl⟩:=H
      go_enter Tryz.func16,Tryz.ntmps16
      go_wp2_with (first | (refine zBE 2 #[.int .i64 a0_0,.slice A0_1 l0_1.length c0_1] 26 ?_;intro gb443 hg w12 hbox hb;have BK443:=zA (hbox);have GW443:=zA (zBH hg HB.out);have GE443:=zA (zBH hg HB.out);replace HB:=zA (kQ (zQ HB.out) hb);clear hb hbox hg;obtain ⟨hcz13_0,hcz13_1,hfz13_0,hfz13_1⟩:=zB3 BK443.out) | (refine zO (some 9) Tryz.func23 #[.agg #[.int .i64 a0_0,.slice A0_1 l0_1.length c0_1]] ?_;(with_reducible refine (impl_IsAlphabet.calls k a0_0 _ _ l0_1 true _ ?side1 ?side2 ?side3 A3.out).mono ?_);(case side1=>exact zS (kO HR0_1.out HB.out));(case side2=>exact HC0_1.out);(case side3=>exact TabW.below HT.out (zT HB.out GE443.out));rintro e w14 ⟨rfl,hb⟩;refine ⟨_,rfl,?_⟩;replace BK443:=zA (zB1 BK443.out hb);replace HB:=zA (kQ (zT HB.out GE443.out) hb);(try clear hb)) | (refine zO (some 12) Tryz.func24 #[.int .i64 a1,.int .i64 0,.int .i64 24] ?_;(with_reducible refine (impl_inRange.calls a1 0 24 true _ A5.out).mono ?_);rintro e w' ⟨rfl,⟨nd,rfl⟩⟩;refine ⟨_,rfl,?_⟩;obtain ⟨hcz15_0,hcz15_1,hfz15_0,hfz15_1⟩:=zB3 BK443.out) | (refine zO (some 16) Tryz.func38 #[.agg #[.int .i64 a0_0,.slice A0_1 l0_1.length c0_1]] ?_;(with_reducible refine (impl_cliquePolynomial.calls k a0_0 _ _ l0_1 t446 _ ?side1 ?side2 ?side3 A7.out).mono ?_);(case side1=>exact zS (kO HR0_1.out (zT HB.out GE443.out)));(case side2=>exact HC0_1.out);(case side3=>exact TabW.below HT.out (zT HB.out GE443.out));rintro e w16 ⟨v447,rfl,ho0,hb⟩;refine ⟨_,rfl,?_⟩;have HO448:=zA (kI ho0 (kP (zT HB.out GE443.out)));replace BK443:=zA (zB1 BK443.out hb);replace HB:=zA (kQ (zT HB.out GE443.out) hb);(try clear hb);(try clear ho0);obtain ⟨Ao17,co17,eo17⟩:=kM HO448.out;subst eo17) | (refine zO (some 18) Tryz.func37 #[.slice Ao17 t446.length co17,.int .i64 a1] ?_;(with_reducible refine (impl_inverse.calls k _ _ t446 a1 t449 t450 _ ?side1 ?side2 A8.out).mono ?_);(case side1=>exact zS (kB HO448.out).2.2);(case side2=>exact (kB HO448.out).2.1);rintro e w18 ⟨v451,rfl,ho0,hb⟩;refine ⟨_,rfl,?_⟩;have HO452:=zA (kI (kF ho0 (kH (zP HO448.out))) (kP (zT HB.out GE443.out)));replace HO448:=zA (kE (zP HO448.out) (kC ho0) hb);replace BK443:=zA (zB1 BK443.out hb);replace HB:=zA (kQ (zT HB.out GE443.out) hb);(try clear hb);(try clear ho0);obtain ⟨Ao19,co19,eo19⟩:=kM HO452.out;subst eo19;have p453:0 ≤ (a1:Int):=zd;have q453:a1 < (t449.length:Int):=zd;obtain ⟨ad453,e453,hx453_0⟩:=Kd.at_int (kB HO452.out).2.2 a1 p453 q453;cases e453;replace p453:=eq_true p453;replace q453:=eq_true q453))
      go_ret2
      exact ⟨zr,zT HB.out GE443.out⟩
     rw [if_neg c11] at H
     exact absurd H (by simp)
    rw [if_neg c10] at H
    exact absurd H (by simp)
   rw [if_neg c9] at H
   obtain ⟨c9b0,c9b1⟩:=zT2 c9
   simp only [Option.some.injEq,Prod.mk.injEq] at H
   obtain ⟨rfl,rfl⟩:=H
   go_enter Tryz.func16,Tryz.ntmps16
   go_wp2_with (first | (refine zBE 2 #[.int .i64 a0_0,.slice A0_1 l0_1.length c0_1] 26 ?_;intro gb443 hg w20 hbox hb;have BK443:=zA (hbox);have GW443:=zA (zBH hg HB.out);have GE443:=zA (zBH hg HB.out);replace HB:=zA (kQ (zQ HB.out) hb);clear hb hbox hg;obtain ⟨hcz21_0,hcz21_1,hfz21_0,hfz21_1⟩:=zB3 BK443.out) | (refine zO (some 9) Tryz.func23 #[.agg #[.int .i64 a0_0,.slice A0_1 l0_1.length c0_1]] ?_;(with_reducible refine (impl_IsAlphabet.calls k a0_0 _ _ l0_1 true _ ?side1 ?side2 ?side3 A3.out).mono ?_);(case side1=>exact zS (kO HR0_1.out HB.out));(case side2=>exact HC0_1.out);(case side3=>exact TabW.below HT.out (zT HB.out GE443.out));rintro e w22 ⟨rfl,hb⟩;refine ⟨_,rfl,?_⟩;replace BK443:=zA (zB1 BK443.out hb);replace HB:=zA (kQ (zT HB.out GE443.out) hb);(try clear hb)) | (refine zO (some 12) Tryz.func24 #[.int .i64 a1,.int .i64 0,.int .i64 24] ?_;(with_reducible refine (impl_inRange.calls a1 0 24 true _ A5.out).mono ?_);rintro e w' ⟨rfl,⟨nd,rfl⟩⟩;refine ⟨_,rfl,?_⟩;obtain ⟨hcz23_0,hcz23_1,hfz23_0,hfz23_1⟩:=zB3 BK443.out) | (refine zO (some 16) Tryz.func38 #[.agg #[.int .i64 a0_0,.slice A0_1 l0_1.length c0_1]] ?_;(with_reducible refine (impl_cliquePolynomial.calls k a0_0 _ _ l0_1 t446 _ ?side1 ?side2 ?side3 A7.out).mono ?_);(case side1=>exact zS (kO HR0_1.out (zT HB.out GE443.out)));(case side2=>exact HC0_1.out);(case side3=>exact TabW.below HT.out (zT HB.out GE443.out));rintro e w24 ⟨v447,rfl,ho0,hb⟩;refine ⟨_,rfl,?_⟩;have HO448:=zA (kI ho0 (kP (zT HB.out GE443.out)));replace BK443:=zA (zB1 BK443.out hb);replace HB:=zA (kQ (zT HB.out GE443.out) hb);(try clear hb);(try clear ho0);obtain ⟨Ao25,co25,eo25⟩:=kM HO448.out;subst eo25) | (refine zO (some 18) Tryz.func37 #[.slice Ao25 t446.length co25,.int .i64 a1] ?_;(with_reducible refine (impl_inverse.calls k _ _ t446 a1 t449 t450 _ ?side1 ?side2 A8.out).mono ?_);(case side1=>exact zS (kB HO448.out).2.2);(case side2=>exact (kB HO448.out).2.1);rintro e w26 ⟨v451,rfl,ho0,hb⟩;refine ⟨_,rfl,?_⟩;have HO452:=zA (kI (kF ho0 (kH (zP HO448.out))) (kP (zT HB.out GE443.out)));replace HO448:=zA (kE (zP HO448.out) (kC ho0) hb);replace BK443:=zA (zB1 BK443.out hb);replace HB:=zA (kQ (zT HB.out GE443.out) hb);(try clear hb);(try clear ho0)))
   go_ret2
   exact ⟨zr,zT HB.out GE443.out⟩
  replace c6:=Bool.eq_false_iff.mpr c6
  subst c6
  rw [if_neg (show ¬ (false = true) by decide)] at H
  simp only [Option.some.injEq,Prod.mk.injEq] at H
  obtain ⟨rfl,rfl⟩:=H
  go_enter Tryz.func16,Tryz.ntmps16
  go_wp2_with (first | (refine zBE 2 #[.int .i64 a0_0,.slice A0_1 l0_1.length c0_1] 26 ?_;intro gb443 hg w27 hbox hb;have BK443:=zA (hbox);have GW443:=zA (zBH hg HB.out);have GE443:=zA (zBH hg HB.out);replace HB:=zA (kQ (zQ HB.out) hb);clear hb hbox hg;obtain ⟨hcz28_0,hcz28_1,hfz28_0,hfz28_1⟩:=zB3 BK443.out) | (refine zO (some 9) Tryz.func23 #[.agg #[.int .i64 a0_0,.slice A0_1 l0_1.length c0_1]] ?_;(with_reducible refine (impl_IsAlphabet.calls k a0_0 _ _ l0_1 true _ ?side1 ?side2 ?side3 A3.out).mono ?_);(case side1=>exact zS (kO HR0_1.out HB.out));(case side2=>exact HC0_1.out);(case side3=>exact TabW.below HT.out (zT HB.out GE443.out));rintro e w29 ⟨rfl,hb⟩;refine ⟨_,rfl,?_⟩;replace BK443:=zA (zB1 BK443.out hb);replace HB:=zA (kQ (zT HB.out GE443.out) hb);(try clear hb)) | (refine zO (some 12) Tryz.func24 #[.int .i64 a1,.int .i64 0,.int .i64 24] ?_;(with_reducible refine (impl_inRange.calls a1 0 24 false _ A5.out).mono ?_);rintro e w' ⟨rfl,⟨nd,rfl⟩⟩;refine ⟨_,rfl,?_⟩))
  go_ret2
  exact ⟨zr,zT HB.out GE443.out⟩
 replace c4:=Bool.eq_false_iff.mpr c4
 subst c4
 rw [if_neg (show ¬ (false = true) by decide)] at H
 simp only [Option.some.injEq,Prod.mk.injEq] at H
 obtain ⟨rfl,rfl⟩:=H
 go_enter Tryz.func16,Tryz.ntmps16
 go_wp2_with (first | (refine zBE 2 #[.int .i64 a0_0,.slice A0_1 l0_1.length c0_1] 26 ?_;intro gb443 hg w30 hbox hb;have BK443:=zA (hbox);have GW443:=zA (zBH hg HB.out);have GE443:=zA (zBH hg HB.out);replace HB:=zA (kQ (zQ HB.out) hb);clear hb hbox hg;obtain ⟨hcz31_0,hcz31_1,hfz31_0,hfz31_1⟩:=zB3 BK443.out) | (refine zO (some 9) Tryz.func23 #[.agg #[.int .i64 a0_0,.slice A0_1 l0_1.length c0_1]] ?_;(with_reducible refine (impl_IsAlphabet.calls k a0_0 _ _ l0_1 false _ ?side1 ?side2 ?side3 A3.out).mono ?_);(case side1=>exact zS (kO HR0_1.out HB.out));(case side2=>exact HC0_1.out);(case side3=>exact TabW.below HT.out (zT HB.out GE443.out));rintro e w32 ⟨rfl,hb⟩;refine ⟨_,rfl,?_⟩;replace BK443:=zA (zB1 BK443.out hb);replace HB:=zA (kQ (zT HB.out GE443.out) hb);(try clear hb)))
 go_ret2
 exact ⟨zr,zT HB.out GE443.out⟩
def impl_Alphabet_ties.f (a0_0:Int) (l0_1:List Int):Option (List Int):=some l0_1
set_option maxHeartbeats 8000000 in
set_option maxRecDepth 100000 in
theorem impl_Alphabet_ties.calls (a0_0 : Int) (P0_1_ : Nat → Prop) (A0_1 : Option Addr) (c0_1 : Nat) (l0_1 : List Int) (r : List Int) (w : World) (hs0_1 : Kd.V (Kd.int .i64) 2 w w.heap.size (fun k_ => P0_1_ k_) (.slice A0_1 l0_1.length c0_1) l0_1) (h : impl_Alphabet_ties.f a0_0 l0_1 = some r) :
  Calls Tryz.prog 18 #[.agg #[.int .i64 a0_0,.slice A0_1 l0_1.length c0_1]] w fun e w' => ∃ v0_:Value,e = .returned (v0_) ∧ Kd.V (Kd.int .i64) 2 w' w.heap.size (fun k_=>(P0_1_ k_ ∨ w.heap.size ≤ k_)) v0_ r ∧ Below w.heap.size w w' := by
 have hu26:=Tryz.underlying26
 have HO0_1:=zA (show Kd.V (Kd.int .i64) 2 w w.heap.size (fun k_=>(P0_1_ k_ ∨ w.heap.size ≤ k_)) (.slice A0_1 l0_1.length c0_1) l0_1 from kN hs0_1 (fun k_ hk=>.inl hk))
 have HB:=zA (kW w.heap.size w)
 have H:=h
 unfold impl_Alphabet_ties.f at H
 clear h
 obtain rfl:=Option.some.inj H
 go_enter Tryz.func18,Tryz.ntmps18
 go_wp2_with (first | (refine zBE 1 #[.int .i64 a0_0,.slice A0_1 l0_1.length c0_1] 26 ?_;intro gb454 hg w2 hbox hb;replace HO0_1:=zA (kG (jD (zPV HO0_1.out) gb454 (Nat.le_of_eq hg.symm)) hb);have BK454:=zA (hbox);have GW454:=zA (zBH hg HB.out);have GE454:=zA (zBH hg HB.out);replace HB:=zA (kQ (zQ HB.out) hb);clear hb hbox hg;obtain ⟨hcz3_0,hcz3_1,hfz3_0,hfz3_1⟩:=zB3 BK454.out))
 go_ret
 exact ⟨_,zr,by (with_reducible repeat (first | apply Kd.V_alloc | apply Kd.V_drewN | apply Kd.V_drew));exact kN HO0_1.out (fun _ hk=>hk.1),zT HB.out GE454.out⟩
def impl_ties_follows.f (k:Nat) (l0:List Int) (a1 a2:Int):Option Bool :=
 (impl_members.f k a2).bind fun ms=>if ms.all (fun a=>decide (0 ≤ a ∧ a < (l0.length:Int))) = true then some (ms.all fun a=>!decide (Go.bits .and .i64 (rd l0 a) a1 = 0)) else none
set_option maxHeartbeats 2000000 in
set_option maxRecDepth 100000 in
theorem follows_pred (A0 : Option Addr) (ct : Nat) (T : List Int) (m : Int) (B : Nat) (w : World) (hB : B + 1 < w.heap.size)
  (hD:(Kd.int .i64).C w A0 T.length T) (h0:w.cell? ⟨B,0,none⟩ = some (.slice A0 T.length ct)) (h1:w.cell? ⟨B + 1,0,none⟩ = some (.int .i64 m))
  (l:List Int) (hl:∀ x ∈ l,0 ≤ x ∧ x < (T.length:Int)) :
  PredOf 44 #[.pointer (some ⟨B,0,none⟩),.pointer (some ⟨B + 1,0,none⟩)] (fun x=>decide (Go.bits .and .i64 (rd T x) m = 0)) w l:=fun W x hx hb=>by
 obtain ⟨hx0,hx1⟩:=hl x hx
 clear hl hx
 have HD:=zA (kO hD hb)
 have K0:=zA ((hb.cell (p:=⟨B,0,none⟩) (by simp;omega)).trans h0)
 have K1:=zA ((hb.cell (p:=⟨B + 1,0,none⟩) (by simpa using hB)).trans h1)
 clear h0 h1 hb hD
 obtain ⟨ad,e0,hcell⟩:=Kd.at_int HD.out x hx0 hx1
 cases e0
 have K2:=zA hcell
 clear hcell HD
 have hk0:=K0.out
 have hk1:=K1.out
 have hk2:=K2.out
 replace hx0:=eq_true hx0
 replace hx1:=eq_true hx1
 show Calls Tryz.prog 44 #[.int .i64 x,.pointer (some ⟨B,0,none⟩),.pointer (some ⟨B + 1,0,none⟩)] W _
 go_enter Tryz.func44,Tryz.ntmps44
 go_wp2
 have HDW:=zA (zD (kW W.heap.size W))
 clear hk0 hk1 hk2
 refine start_ (n:=8) (S:=fun w' => w'.cell? ⟨B,0,none⟩ = some (.slice (some ad) T.length ct) ∧ w'.cell? ⟨B + 1,0,none⟩ = some (.int .i64 m) ∧ w'.cell? (ad.add x.toNat) = some (.int .i64 (rd T x))) (ds:=[]) #[false,false,false,false,false,false,false,false] (by kernel_rfl) rfl rfl ⟨pw_cell_below HDW.out K0.out,pw_cell_below HDW.out K1.out,pw_cell_below HDW.out K2.out⟩ (fun hHeld=>?_)
 refine take_ (i:=0) (N:=some 5) (v:=?_) (a' := ?_) #[true,false,false,false,false,false,false,false] rfl rfl (by kernel_rfl) (fun _ _ _ h=>h) (Or.inl ⟨by rfl,?_⟩) hHeld ?_ ?_
 rotate_left
 ·rintro w' ⟨s0,s1,s2⟩
  go_simp
  with_reducible rfl
 rotate_left
 ·simp only [Act.put,zL,zM,zN,i64_w,i32_w]
  rfl
 refine pure_ (i:=1) (N:=some 6) (v:=?_) (a' := ?_) #[true,true,false,false,false,false,false,false] rfl rfl (by kernel_rfl) (fun _ _ _ h=>h) (Or.inl ⟨by rfl,?_⟩) ?_ ?_
 rotate_left
 ·intro w'
  go_simp
  with_reducible rfl
 rotate_left
 ·simp only [Act.put,zL,zM,zN,i64_w,i32_w]
  rfl
 refine pure_ (i:=2) (N:=some 7) (v:=?_) (a' := ?_) #[true,true,true,false,false,false,false,false] rfl rfl (by kernel_rfl) (fun _ _ _ h=>h) (Or.inl ⟨by rfl,?_⟩) ?_ ?_
 rotate_left
 ·intro w'
  go_simp
  with_reducible rfl
 rotate_left
 ·simp only [Act.put,zL,zM,zN,i64_w,i32_w]
  rfl
 refine take_ (i:=3) (N:=some 8) (v:=?_) (a' := ?_) #[true,true,true,true,false,false,false,false] rfl rfl (by kernel_rfl) (fun _ _ _ h=>h) (Or.inl ⟨by rfl,?_⟩) hHeld ?_ ?_
 rotate_left
 ·rintro w' ⟨s0,s1,s2⟩
  go_simp
  with_reducible rfl
 rotate_left
 ·simp only [Act.put,zL,zM,zN,i64_w,i32_w]
  rfl
 refine take_ (i:=4) (N:=some 9) (v:=?_) (a' := ?_) #[true,true,true,true,true,false,false,false] rfl rfl (by kernel_rfl) (fun _ _ _ h=>h) (Or.inl ⟨by rfl,?_⟩) hHeld ?_ ?_
 rotate_left
 ·rintro w' ⟨s0,s1,s2⟩
  go_simp
  with_reducible rfl
 rotate_left
 ·simp only [Act.put,zL,zM,zN,i64_w,i32_w]
  rfl
 refine pure_ (i:=5) (N:=some 10) (v:=?_) (a' := ?_) #[true,true,true,true,true,true,false,false] rfl rfl (by kernel_rfl) (fun _ _ _ h=>h) (Or.inl ⟨by rfl,?_⟩) ?_ ?_
 rotate_left
 ·intro w'
  go_simp
  with_reducible rfl
 rotate_left
 ·simp only [Act.put,zL,zM,zN,i64_w,i32_w]
  rfl
 refine pure_ (i:=6) (N:=some 11) (v:=?_) (a' := ?_) #[true,true,true,true,true,true,true,false] rfl rfl (by kernel_rfl) (fun _ _ _ h=>h) (Or.inl ⟨by rfl,?_⟩) ?_ ?_
 rotate_left
 ·intro w'
  go_simp
  with_reducible rfl
 rotate_left
 ·simp only [Act.put,zL,zM,zN,i64_w,i32_w]
  rfl
 refine pure_ (i:=7) (N:=some 4) (v:=?_) (a' := ?_) #[true,true,true,true,true,true,true,true] rfl rfl (by kernel_rfl) (fun _ _ _ h=>h) (Or.inl ⟨by rfl,?_⟩) ?_ ?_
 rotate_left
 ·intro w'
  go_simp
  with_reducible rfl
 rotate_left
 ·simp only [Act.put,zL,zM,zN,i64_w,i32_w]
  rfl
 refine done_ (by kernel_rfl) ?_
 go_wp2
 go_ret
 exact ⟨rfl,HDW.out⟩
set_option maxHeartbeats 2000000 in
set_option maxRecDepth 100000 in
theorem impl_ties_follows.calls (k : Nat) (A0 : Option Addr) (c0 : Nat) (l0 : List Int) (a1 a2 : Int) (r : Bool) (w : World) (hr0 : Kd.C (Kd.int .i64) w A0 l0.length l0) (hc0 : l0.length ≤ c0) (hT : TabW w) (h : impl_ties_follows.f k l0 a1 a2 = some r) :
  Calls Tryz.prog 20 #[.slice A0 l0.length c0,.int .i64 a1,.int .i64 a2] w fun e w' => e = .returned (.bool r) ∧ Below w.heap.size w w' := by
 obtain ⟨ms,hm,hr⟩:=Option.bind_eq_some_iff.mp h
 clear h
 by_cases hall:ms.all (fun a=>decide (0 ≤ a ∧ a < (l0.length:Int))) = true
 ·rw [if_pos hall] at hr
  have hW:Below w.heap.size w ((w.alloc (.cells #[.slice A0 l0.length c0] 45)).alloc (.cells #[.int .i64 a1] 2)):=zB (zB (kW _ w) _) _
  have eg:∀ args w,(callFunc 44 args).run Tryz.prog w = .ok (.enter 44 args) w:=enters_fn Tryz.func44 (by kernel_rfl) rfl
  have hmem:=zA (impl_members.calls k a2 ms ((w.alloc (.cells #[.slice A0 l0.length c0] 45)).alloc (.cells #[.int .i64 a1] 2)) (hT.below hW) hm)
  have hcon:=zA (fun (W:World) (A:Option Addr) (c:Nat) (hb:Below ((w.alloc (.cells #[.slice A0 l0.length c0] 45)).alloc (.cells #[.int .i64 a1] 2)).heap.size ((w.alloc (.cells #[.slice A0 l0.length c0] 45)).alloc (.cells #[.int .i64 a1] 2)) W) (hC:Kd.C (Kd.int .i64) W A ms.length ms) =>
   containsFunc_any A c ms 44 #[.pointer (some ⟨w.heap.size,0,none⟩),.pointer (some ⟨w.heap.size + 1,0,none⟩)] (fun x=>decide (Go.bits .and .i64 (rd l0 x) a1 = 0)) W eg
    (follows_pred A0 c0 l0 a1 w.heap.size W (Nat.lt_of_lt_of_le (by simp) hb.size) (kO (kO hr0 hW) hb) ((hb.cell (p:=⟨w.heap.size,0,none⟩) (by simp;omega)).trans (by simp)) ((hb.cell (p:=⟨w.heap.size + 1,0,none⟩) (by simp)).trans (by simp)) ms (fun x hx=>by simpa using List.all_eq_true.1 hall x hx)) hC)
  have hr' : (!(ms.any fun x=>decide (Go.bits .and .i64 (rd l0 x) a1 = 0))) = r:=by
   rw [← Option.some.inj hr,List.all_eq_not_any_not]
   simp
  clear hr hr0 hc0 hm hall hT
  replace hW:=zA hW
  generalize (ms.any fun x=>decide (Go.bits .and .i64 (rd l0 x) a1 = 0)) = b at hcon hr'
  subst hr'
  go_enter Tryz.func20,Tryz.ntmps20
  go_wp2_with fail
  refine hmem.out.mono ?_
  rintro e w3 ⟨v8,rfl,ho0,hb⟩
  obtain ⟨A8,c8,e8⟩:=kM ho0
  subst e8
  have HC:=zA (hcon.out w3 A8 c8 hb (kB ho0).2.2)
  have HB3:=zA (kQ hW.out hb)
  clear hmem hcon ho0 hb
  go_wp2_with fail
  refine HC.out.mono ?_
  rintro e w4 ⟨rfl,hb⟩
  have HB4:=zA (kQ HB3.out hb)
  clear HC hb
  go_wp2
  go_ret
  exact ⟨rfl,HB4.out⟩
 rw [if_neg hall] at hr
 cases hr
def impl_CountByHeight.l0:Nat → Int → List Int → (Int → List Int) → Int → Option (Int → List Int)
 | 0,_,_,_,_=>none
 | f + 1,n,st,R,i=>if i < (st.length:Int) then (if 0 ≤ i then ((impl_size.f (rd st i)).bind fun z=>(if z ≤ n then (if 0 ≤ z then impl_CountByHeight.l0 f n st (updR R (rd st i) z 1) (wrap64 (i + 1)) else none) else impl_CountByHeight.l0 f n st R (wrap64 (i + 1)))) else none) else some R
def impl_CountByHeight.l2:Nat → Int → List Int → (Int → List Int) → Int → List Int → Int → Option (List Int)
 | 0,_,_,_,_,_,_=>none
 | f + 1,n,st,R,h,out,i=>if i < (st.length:Int) then (if 0 ≤ i then impl_CountByHeight.l2 f n st R h (out.set h.toNat (wrap64 (rd out h + rd (R (rd st i)) n))) (wrap64 (i + 1)) else none) else some out
def impl_CountByHeight.l5:Nat → Int → (Int → List Int) → Int → Int → Int → (Int → List Int) → Int → Option (Int → List Int)
 | 0,_,_,_,_,_,_,_=>none
 | f + 1,n,R,s,r,z,R2,k=>if wrap64 (k + z) ≤ n then (if 0 ≤ k ∧ k ≤ n ∧ 0 ≤ wrap64 (k + z) then impl_CountByHeight.l5 f n R s r z (updR R2 r (wrap64 (k + z)) (wrap64 (rd (R2 r) (wrap64 (k + z)) + rd (R s) k))) (wrap64 (k + 1)) else none) else some R2
def impl_CountByHeight.l4:Nat → List Int → Int → List Int → (Int → List Int) → Int → (Int → List Int) → Int → Option (Int → List Int)
 | 0,_,_,_,_,_,_,_=>none
 | f + 1,D,n,st,R,s,R2,i=>if i < (st.length:Int) then (if 0 ≤ i then ((impl_ties_follows.f f D s (rd st i)).bind fun b=>(if b = true then ((impl_size.f (rd st i)).bind fun z=>((impl_CountByHeight.l5 f n R s (rd st i) z R2 0).bind fun R3=>impl_CountByHeight.l4 f D n st R s R3 (wrap64 (i + 1)))) else impl_CountByHeight.l4 f D n st R s R2 (wrap64 (i + 1)))) else none) else some R2
def impl_CountByHeight.l3:Nat → List Int → Int → List Int → (Int → List Int) → (Int → List Int) → Int → Option (Int → List Int)
 | 0,_,_,_,_,_,_=>none
 | f + 1,D,n,st,R,R2,i=>if i < (st.length:Int) then (if 0 ≤ i then ((impl_CountByHeight.l4 f D n st R (rd st i) R2 0).bind fun R3=>impl_CountByHeight.l3 f D n st R R3 (wrap64 (i + 1))) else none) else some R2
def impl_CountByHeight.l1:Nat → List Int → Int → List Int → (Int → List Int) → List Int → Int → Option (List Int)
 | 0,_,_,_,_,_,_=>none
 | f + 1,D,n,st,R,out,h=>if h ≤ n then (if 0 ≤ h then ((impl_CountByHeight.l2 f n st R h out 0).bind fun out2=>((impl_CountByHeight.l3 f D n st R (fun _=>List.replicate (n + 1).toNat 0) 0).bind fun R2=>impl_CountByHeight.l1 f D n st R2 out2 (wrap64 (h + 1)))) else none) else some out
def impl_CountByHeight.f (k:Nat) (a0_0:Int) (l0_1:List Int) (a1:Int):Option (List Int × Int):=(impl_checkCount.f k a0_0 l0_1 a1).bind fun bt=>if bt.2 = 0 then ((impl_stepsOf.f k a0_0 l0_1).bind fun st=>if 1 ≤ st.length ∧ st.length < 1000000000 ∧ (st.drop 1).Nodup ∧ ((st.drop 1).all fun s=>(Lit.int .i64 s).wf) = true ∧ 0 ≤ a1 ∧ a1 < 1000000000 then (if a1 = 0 then some ([1],0) else ((impl_CountByHeight.l0 k a1 (st.drop 1) (fun _=>List.replicate (a1 + 1).toNat 0) 0).bind fun R=>((impl_CountByHeight.l1 k l0_1 a1 (st.drop 1) R (List.replicate (a1 + 1).toNat 0) 1).bind fun out=>some (out,0)))) else none) else some ([],bt.2)
theorem zero_sliceH (w:World):(zeroValue 24).run Tryz.prog w = .ok (.slice none 0 0) w:=by kernel_rfl
theorem ties_sameH (n:Int) (A:Option Addr) (m c:Nat) (w:World):Calls Tryz.prog 18 #[.agg #[.int .i64 n,.slice A m c]] w fun e w' => e = .returned (.slice A m c) ∧ Below w.heap.size w w' := by
 have hu:=Tryz.underlying26
 have HB:=zA (zB (kW w.heap.size w) (.cells #[.int .i64 n,.slice A m c] 26))
 go_enter Tryz.func18,Tryz.ntmps18
 go_wp2
 go_ret
 exact ⟨rfl,HB.out⟩
theorem make_runH {o : Oper} {a : Act} {W : World} (x y : Operand) (ho : o.op = .makeSlice 24 x y) (m : Int) (hx : a.eval x = .int .i64 m) (hy : a.eval y = .int .i64 m) (h0 : 0 ≤ m) (hl : m ≤ 1000000001) (Nn : Nat) (hN : m.toNat = Nn) :
  (execOp a.eval o).run Tryz.prog W = .ok (.value (.slice (some ⟨W.heap.size,0,none⟩) Nn Nn)) (W.alloc (.cells (madeCells #[.int .i64 0] Nn) 2)):=by
 subst hN
 obtain ⟨i0,hi,hzz⟩:=Option.map_eq_some_iff.1 (show (Tryz.prog.info? 2).map (fun i=>(i.zero,i.size,i.bytes)) = some (some (.int .i64 0),1,8) from info2)
 simp only [Prod.mk.injEq] at hzz
 obtain ⟨hz0,hz1,hz2⟩:=hzz
 have hr:=run_make (P:=Tryz.prog) W 24 2 i0 _ Tryz.underlying24 hi hz0 .i64 .i64 m m h0 (Int.le_refl _) (by rw [hz2];omega) (by omega)
 rw [hz1,Nat.mul_one] at hr
 simp only [Value.cells] at hr
 simp [execOp,ho,hx,hy,hr]
theorem val_stepH {P:Program} {ops:Array Oper} {o:Oper} {a:Act} {Q:Exit → Act → World → Prop} {Kc:Act → World → Prop} {W w1:World} {v:Value} (hw:Region.wanted o (yielded ops a.tmps) = true) (hrun:(execOp a.eval o).run P W = .ok (.value v) w1) (h:Kc (a.put o.dst v) w1):if Region.wanted o (yielded ops a.tmps) = true then Oper.wp P o a W Kc Q else Kc (a.put o.dst undef) W:=by
 rw [if_pos hw]
 unfold Oper.wp
 rw [hrun]
 exact h
theorem steps_oldH {w W W2:World} {v:Value} {s0:List Int} (h:Kd.R (Kd.int .i64) 2 W2 W.heap.size (fun _=>True) v s0) (hb:w.heap.size ≤ W.heap.size):Kd.R (Kd.int .i64) 2 W2 w.heap.size (fun k=>W.heap.size ≤ k ∧ k < W2.heap.size) v s0:=by
 have h2:=kA (Kd.R_bound h) (ok' := fun k=>W.heap.size ≤ k ∧ k < W2.heap.size) (fun k hk=>⟨hk.2.1,hk.2.2.1⟩)
 exact kI h2 hb
def HgtF (w:World) (Nn:Nat) (st st0:List Int) (s:Option Addr × Nat × Value × Nat) (w' : World):Prop :=
 (∀ (W:World) (ok:Nat → Prop),Kd.R (Kd.int .i64) 2 W w.heap.size ok s.2.2.1 st0 → Kd.C (Kd.int .i64) W s.1 st.length st) ∧ st.length ≤ s.2.1 ∧ Kd.R (Kd.int .i64) 2 w' w.heap.size (fun k=>k ≠ s.2.2.2 ∧ k < w'.heap.size) s.2.2.1 st0 ∧ RowAt w' s.2.2.2 Nn (List.replicate Nn 0) ∧ w.heap.size ≤ s.2.2.2 ∧ Below w.heap.size w w'
set_option maxHeartbeats 8000000 in
set_option maxRecDepth 100000 in
theorem impl_CountByHeight.calls (k : Nat) (a0_0 : Int) (A0_1 : Option Addr) (c0_1 : Nat) (l0_1 : List Int) (a1 : Int) (r1 : List Int) (r2 : Int) (w : World) (hr0_1 : Kd.C (Kd.int .i64) w A0_1 l0_1.length l0_1) (hc0_1 : l0_1.length ≤ c0_1) (hT : TabW w) (h : impl_CountByHeight.f k a0_0 l0_1 a1 = some (r1, r2)) :
  Calls Tryz.prog 6 #[.agg #[.int .i64 a0_0,.slice A0_1 l0_1.length c0_1],.int .i64 a1] w fun e w' => ∃ v0_:Value,e = .returned (.tuple #[v0_,.int .i64 r2]) ∧ Kd.R (Kd.int .i64) 2 w' w.heap.size (fun _=>True) v0_ r1 ∧ Below w.heap.size w w' := by
 have law:Go.Maps.Keyed Tryz.prog 2:=Go.Maps.int_keyed Tryz.underlying2
 have hmm:=@run_makeMap Tryz.prog
 have hu:=Tryz.underlying26
 have HR:=zA hr0_1
 have HC:=zA hc0_1
 have HT:=zA hT
 clear hr0_1 hc0_1 hT
 have HB:=zA (kW w.heap.size w)
 have H:=h
 unfold impl_CountByHeight.f at H
 clear h
 obtain ⟨⟨m,cd⟩,A4,H⟩:=zb H
 dsimp only at H
 by_cases c4:cd = 0
 ·subst c4
  rw [if_pos rfl] at H
  obtain ⟨st0,A5,H⟩:=zb H
  by_cases q1:1 ≤ st0.length ∧ st0.length < 1000000000 ∧ (st0.drop 1).Nodup ∧ ((st0.drop 1).all fun s=>(Lit.int .i64 s).wf) = true ∧ 0 ≤ a1 ∧ a1 < 1000000000
  ·rw [if_pos q1] at H
   obtain ⟨st,hst⟩:∃ st:List Int,st0.drop 1 = st:=⟨_,rfl⟩
   rw [hst] at H q1
   have HDR:=zA hst
   clear hst
   have HH:=zA H
   have HX:=zA q1
   clear H q1
   have HLN:=zA (show st.length = st0.length - 1 from HDR.out ▸ List.length_drop)
   have HD:=zA HX.out.2.2.1
   have HWF:=zA HX.out.2.2.2.1
   have HNN:=zA HX.out.2.2.2.2
   have HBD:=zA (show st.length < 1000000000 by have:=HLN.out;have:=HX.out.2.1;omega)
   obtain ⟨Nn,hNn⟩:∃ Nn:Nat,(a1 + 1).toNat = Nn:=⟨_,rfl⟩
   have HNe:=zA (show (Nn:Int) = a1 + 1 by have:=HNN.out;omega)
   have HNl:=zA (show Nn ≤ 1000000001 by have:=HNN.out;have:=HNe.out;omega)
   have HNq:=zA hNn
   clear hNn
   have HW1:=zA (show wrap64 (a1 + 1) = a1 + 1 by have:=HNN.out;unfold wrap64;omega)
   have HMK:=zA (show (wrap64 (a1 + 1)).toNat = Nn by rw [HW1.out,HNq.out])
   have HMK0:=zA (show 0 ≤ wrap64 (a1 + 1) ∧ wrap64 (a1 + 1) ≤ 1000000001 by rw [HW1.out];have:=HNN.out;omega)
   go_enter Tryz.func6,Tryz.ntmps6
   go_wp2_with (first | (refine zBE 2 #[.int .i64 a0_0,.slice A0_1 l0_1.length c0_1] 26 ?_;intro gb hg w12 hbox hb;have BK:=zA hbox;have GE:=zA (zBH hg HB.out);replace HB:=zA (kQ (zQ HB.out) hb);clear hb hbox hg;obtain ⟨hcz0,hcz1,hfz0,hfz1⟩:=zB3 BK.out) | (refine zO (some 26) Tryz.func16 #[.agg #[.int .i64 a0_0,.slice A0_1 l0_1.length c0_1],.int .i64 a1] ?_;(with_reducible refine (impl_checkCount.calls k a0_0 _ _ l0_1 _ _ _ _ ?side1 ?side2 ?side3 A4.out).mono ?_);(case side1=>exact zS (kO HR.out (zT HB.out GE.out)));(case side2=>exact HC.out);(case side3=>exact TabW.below HT.out (zT HB.out GE.out));rintro e w18 ⟨rfl,hb⟩;refine ⟨_,rfl,?_⟩;replace BK:=zA (zB1 BK.out hb);replace HB:=zA (kQ (zT HB.out GE.out) hb);(try clear hb);obtain ⟨hcv0,hcv1,hfv0,hfv1⟩:=zB3 BK.out))
   have HDW:=zA (zD (kW w18.heap.size w18))
   have BK1:=zA ((HDW.out.block gb (jI BK.out)).trans BK.out)
   have HB0:=zA (show Below w.heap.size w w18 from zT HB.out GE.out)
   have HB1:=zA (Below.grown HB0.out (grown_of_below HDW.out none) HB0.out.size (fun j hj=>by cases hj))
   refine start_ (n:=11) (S:=fun w' => w'.cell? ⟨gb,0,none⟩ = some (.int .i64 a0_0) ∧ w'.cell? ⟨gb,1,none⟩ = some (.slice A0_1 l0_1.length c0_1)) (ds:=[]) #[false,false,false,false,false,false,false,false,false,false,false] (by kernel_rfl) rfl rfl ⟨(zB3 BK1.out).1,(zB3 BK1.out).2.1⟩ (fun hHeld=>?_)
   clear hcz0 hcz1 hfz0 hfz1 hcv0 hcv1 hfv0 hfv1 HB0 HB BK HDW GE
   generalize w18.drew = w5 at BK1 HB1 hHeld ⊢
   refine take_ (i:=0) (N:=some 32) (v:=?_) (a' := ?_) #[true,false,false,false,false,false,false,false,false,false,false] rfl rfl (by kernel_rfl) (fun _ _ _ h=>h) (Or.inl ⟨by rfl,?_⟩) hHeld ?_ ?_
   rotate_left
   ·rintro w' ⟨s0,s1⟩
    go_simp
    with_reducible rfl
   rotate_left
   ·simp only [Act.put,zL,zM,zN,i64_w,i32_w]
    rfl
   refine take_ (i:=3) (N:=some 35) (v:=?_) (a' := ?_) #[true,false,false,true,false,false,false,false,false,false,false] rfl rfl (by kernel_rfl) (fun _ _ _ h=>h) (Or.inl ⟨by rfl,?_⟩) hHeld ?_ ?_
   rotate_left
   ·rintro w' ⟨s0,s1⟩
    go_simp
    with_reducible rfl
   rotate_left
   ·simp only [Act.put,zL,zM,zN,i64_w,i32_w]
    rfl
   refine pure_ (i:=5) (N:=some 37) (v:=?_) (a' := ?_) #[true,false,false,true,false,true,false,false,false,false,false] rfl rfl (by kernel_rfl) (fun _ _ _ h=>h) (Or.inl ⟨by rfl,?_⟩) ?_ ?_
   rotate_left
   ·intro w'
    go_simp
    with_reducible rfl
   rotate_left
   ·simp only [Act.put,zL,zM,zN,i64_w,i32_w]
    rfl
   refine pure_ (i:=6) (N:=some 38) (v:=?_) (a' := ?_) #[true,false,false,true,false,true,true,false,false,false,false] rfl rfl (by kernel_rfl) (fun _ _ _ h=>h) (Or.inl ⟨by rfl,?_⟩) ?_ ?_
   rotate_left
   ·intro w'
    go_simp
    with_reducible rfl
   rotate_left
   ·simp only [Act.put,zL,zM,zN,i64_w,i32_w]
    rfl
   refine join_ (σ:=Option Addr × Nat × Value × Nat) 1 #[true,true,true,true,true,true,true,true,true,true,false] (fun s=>[(33,s.2.2.1),(34,.slice s.1 st.length s.2.1),(36,.slice A0_1 l0_1.length c0_1),(39,.slice (some ⟨s.2.2.2,0,none⟩) Nn Nn),(8,.slice s.1 st.length s.2.1),(9,.slice A0_1 l0_1.length c0_1)]) (HgtF w Nn st st0) ?hcont ?hord
   case hord =>
    intro hcont
    refine two_ (i:=1) (j:=7) (Ni:=some 33) (Nj:=some 39) #[true,true,false,true,false,true,true,false,false,false,false] #[true,false,false,true,false,true,true,true,false,false,false] rfl rfl rfl rfl (by kernel_rfl) (by decide) (by decide) (fun K hK=>?_) (fun K hK=>?_)
    ·skip
     refine goes_ Tryz.func17 (by kernel_rfl) rfl #[.agg #[.int .i64 a0_0,.slice A0_1 l0_1.length c0_1]] (by rfl) rfl rfl (by simp only [List.map_toArray,List.map_cons,List.map_nil];rfl) ?_
     with_reducible refine (impl_stepsOf.calls k a0_0 _ _ l0_1 st0 _ ?side1 ?side2 ?side3 A5.out).mono ?_
     case side1=>exact kO HR.out HB1.out
     case side2=>exact HC.out
     case side3=>exact TabW.below HT.out HB1.out
     rintro e w6 ⟨v17,rfl,ho0,hb⟩
     refine ⟨_,rfl,?_⟩
     have HRS:=zA (steps_oldH (w:=w) ho0 HB1.out.size)
     have hx:=(hb.block gb (jI BK1.out)).trans BK1.out
     have HB6:=zA (Below.grown HB1.out (grown_of_below hb none) HB1.out.size (fun j hj=>by cases hj))
     have BK6:=zA hx
     have HCAP:=zA hb.size
     obtain ⟨A17,c17,e17⟩:=kM ho0
     subst e17
     obtain ⟨ad17,ea17,_⟩:=(kB ho0).2.2.2.2 (by have:=HX.out.1;omega)
     subst ea17
     have hcap:=(kB ho0).2.1
     have HAS:=zA (show ∀ (W:World) (ok:Nat → Prop),Kd.R (Kd.int .i64) 2 W w.heap.size ok (.slice (some ad17) st0.length c17) st0 → Kd.C (Kd.int .i64) W (if c17 = 1 then some ad17 else some ⟨ad17.block,ad17.off + 1,none⟩) st.length st from fun W ok hW=>HDR.out ▸ Kd.C_drop (m:=1) (c:=c17) (kB hW).2.2 HX.out.1 hcap)
     refine hK.out _ _ ⟨(zB3 hx).1,(zB3 hx).2.1⟩ (fun hHeld=>?_)
     clear hK K ho0 hb hx
     refine norm_ (a' := ?_) ?_ ?_
     rotate_left
     ·show Act.put _ (some 33) _ = _
      simp only [Act.put,zL,zM,zN,i64_w,i32_w]
      rfl
     have hone:=HX.out.1
     have s1:(1:Int) ≤ (st0.length:Int):=by omega
     have s2:(st0.length:Int) ≤ (c17:Int):=by omega
     refine pure_ (i:=2) (N:=some 34) (v:=?_) (a' := ?_) #[true,true,true,true,false,true,true,false,false,false,false] rfl rfl (by kernel_rfl) (fun _ _ _ h=>h) (Or.inl ⟨by rfl,?_⟩) ?_ ?_
     rotate_left
     ·intro w'
      go_simp
      with_reducible rfl
     rotate_left
     ·simp only [Act.put,zL,zM,zN,i64_w,i32_w]
      rfl
     generalize (if c17 = 1 then some ad17 else some (⟨ad17.block,ad17.off + 1,none⟩:Addr)) = A18 at HAS ⊢
     rw [← HLN.out]
     clear s1 s2 hone
     refine two_ (i:=4) (j:=7) (Ni:=some 36) (Nj:=some 39) #[true,true,true,true,true,true,true,false,false,false,false] #[true,true,true,true,false,true,true,true,false,false,false] rfl rfl rfl rfl (by kernel_rfl) (by decide) (by decide) (fun K hK=>?_) (fun K hK=>?_)
     ·skip
      refine goes_ Tryz.func18 (by kernel_rfl) rfl #[.agg #[.int .i64 a0_0,.slice A0_1 l0_1.length c0_1]] (by rfl) rfl rfl (by simp only [List.map_toArray,List.map_cons,List.map_nil];rfl) ?_
      refine (ties_sameH a0_0 A0_1 l0_1.length c0_1 _).mono ?_
      rintro e w7 ⟨rfl,hb⟩
      refine ⟨_,rfl,?_⟩
      have hx:=(hb.block gb (jI BK6.out)).trans BK6.out
      have HB7:=zA (Below.grown HB6.out (grown_of_below hb none) HB6.out.size (fun j hj=>by cases hj))
      have HR7:=zA (kL HRS.out hb)
      have HSZ:=zA hb.size
      have BK7:=zA hx
      refine hK.out _ _ ⟨(zB3 hx).1,(zB3 hx).2.1⟩ (fun hHeld=>?_)
      clear hK K hb hx
      refine norm_ (a' := ?_) ?_ ?_
      rotate_left
      ·show Act.put _ (some 36) _ = _
       simp only [Act.put,zL,zM,zN,i64_w,i32_w]
       rfl
      refine pure_ (i:=8) (N:=some 8) (v:=?_) (a' := ?_) #[true,true,true,true,true,true,true,false,true,false,false] rfl rfl (by kernel_rfl) (fun _ _ _ h=>h) (Or.inl ⟨by rfl,?_⟩) ?_ ?_
      rotate_left
      ·intro w'
       go_simp
       with_reducible rfl
      rotate_left
      ·simp only [Act.put,zL,zM,zN,i64_w,i32_w]
       rfl
      refine pure_ (i:=9) (N:=some 9) (v:=?_) (a' := ?_) #[true,true,true,true,true,true,true,false,true,true,false] rfl rfl (by kernel_rfl) (fun _ _ _ h=>h) (Or.inl ⟨by rfl,?_⟩) ?_ ?_
      rotate_left
      ·intro w'
       go_simp
       with_reducible rfl
      rotate_left
      ·simp only [Act.put,zL,zM,zN,i64_w,i32_w]
       rfl
      refine one_ (i:=7) (N:=some 39) #[true,true,true,true,true,true,true,true,true,true,false] rfl rfl (by kernel_rfl) (by decide) (fun K hK=>?_)
      refine val_stepH (by rfl) (make_runH (.tmp 38) (.tmp 38) rfl (wrap64 (a1 + 1)) rfl rfl HMK0.out.1 HMK0.out.2 Nn HMK.out) ?_
      have hal:=zB (kW w7.heap.size w7) (.cells (madeCells #[.int .i64 0] Nn) 2)
      have hx:=(hal.block gb (jI BK7.out)).trans BK7.out
      refine hK.out _ _ ⟨(zB3 hx).1,(zB3 hx).2.1⟩ (fun hHeld=>?_)
      clear hK K hx
      refine norm_ (a' := ?_) ?_ ?_
      rotate_left
      ·show Act.put _ (some 39) _ = _
       simp only [Act.put,zL,zM,zN,i64_w,i32_w]
       rfl
      have hc:=hcont (A18,c17 - 1,.slice (some ad17) st0.length c17,w7.heap.size) _ ⟨HAS.out,by have:=HLN.out;dsimp only;omega,kA (kL HR7.out hal) (fun k hk=>⟨by have:=HSZ.out;have:=hk.2;dsimp only;omega,by have:=hal.size;have:=HSZ.out;have:=hk.2;omega⟩),made_row w7 Nn,HB7.out.size,Below.grown HB7.out (grown_of_below hal none) HB7.out.size (fun j hj=>by cases hj)⟩
      simp only [putAll,Act.put,zL,zM,zN] at hc
      exact hc
     skip
     refine val_stepH (by rfl) (make_runH (.tmp 38) (.tmp 38) rfl (wrap64 (a1 + 1)) rfl rfl HMK0.out.1 HMK0.out.2 Nn HMK.out) ?_
     have hal:=zB (kW w6.heap.size w6) (.cells (madeCells #[.int .i64 0] Nn) 2)
     have hx:=(hal.block gb (jI BK6.out)).trans BK6.out
     have HB7:=zA (Below.grown HB6.out (grown_of_below hal none) HB6.out.size (fun j hj=>by cases hj))
     have HRW:=zA (made_row w6 Nn)
     have HAL:=zA hal
     have BK7:=zA hx
     refine hK.out _ _ ⟨(zB3 hx).1,(zB3 hx).2.1⟩ (fun hHeld=>?_)
     clear hK K hx hal
     refine norm_ (a' := ?_) ?_ ?_
     rotate_left
     ·show Act.put _ (some 39) _ = _
      simp only [Act.put,zL,zM,zN,i64_w,i32_w]
      rfl
     refine one_ (i:=4) (N:=some 36) #[true,true,true,true,true,true,true,true,false,false,false] rfl rfl (by kernel_rfl) (by decide) (fun K hK=>?_)
     refine goes_ Tryz.func18 (by kernel_rfl) rfl #[.agg #[.int .i64 a0_0,.slice A0_1 l0_1.length c0_1]] (by rfl) rfl rfl (by simp only [List.map_toArray,List.map_cons,List.map_nil];rfl) ?_
     refine (ties_sameH a0_0 A0_1 l0_1.length c0_1 _).mono ?_
     rintro e w7 ⟨rfl,hb⟩
     refine ⟨_,rfl,?_⟩
     have hx:=(hb.block gb (jI BK7.out)).trans BK7.out
     have HB8:=zA (Below.grown HB7.out (grown_of_below hb none) HB7.out.size (fun j hj=>by cases hj))
     have HR8:=zA (kL (kL HRS.out HAL.out) hb)
     have HRW8:=zA (rowAt_block HRW.out (hb.block _ (rowAt_lt HRW.out)))
     have HSZ:=zA hb.size
     refine hK.out _ _ ⟨(zB3 hx).1,(zB3 hx).2.1⟩ (fun hHeld=>?_)
     clear hK K hb hx
     refine norm_ (a' := ?_) ?_ ?_
     rotate_left
     ·show Act.put _ (some 36) _ = _
      simp only [Act.put,zL,zM,zN,i64_w,i32_w]
      rfl
     refine pure_ (i:=8) (N:=some 8) (v:=?_) (a' := ?_) #[true,true,true,true,true,true,true,true,true,false,false] rfl rfl (by kernel_rfl) (fun _ _ _ h=>h) (Or.inl ⟨by rfl,?_⟩) ?_ ?_
     rotate_left
     ·intro w'
      go_simp
      with_reducible rfl
     rotate_left
     ·simp only [Act.put,zL,zM,zN,i64_w,i32_w]
      rfl
     refine pure_ (i:=9) (N:=some 9) (v:=?_) (a' := ?_) #[true,true,true,true,true,true,true,true,true,true,false] rfl rfl (by kernel_rfl) (fun _ _ _ h=>h) (Or.inl ⟨by rfl,?_⟩) ?_ ?_
     rotate_left
     ·intro w'
      go_simp
      with_reducible rfl
     rotate_left
     ·simp only [Act.put,zL,zM,zN,i64_w,i32_w]
      rfl
     have hc:=hcont (A18,c17 - 1,.slice (some ad17) st0.length c17,w6.heap.size) _ ⟨HAS.out,by have:=HLN.out;dsimp only;omega,kA HR8.out (fun k hk=>⟨by have:=hk.2;dsimp only;omega,by have:=HAL.out.size;have:=HSZ.out;have:=hk.2;omega⟩),HRW8.out,HB6.out.size,HB8.out⟩
     simp only [putAll,Act.put,zL,zM,zN] at hc
     exact hc
    skip
    refine val_stepH (by rfl) (make_runH (.tmp 38) (.tmp 38) rfl (wrap64 (a1 + 1)) rfl rfl HMK0.out.1 HMK0.out.2 Nn HMK.out) ?_
    have hal:=zB (kW w5.heap.size w5) (.cells (madeCells #[.int .i64 0] Nn) 2)
    have hx:=(hal.block gb (jI BK1.out)).trans BK1.out
    have HB5:=zA (Below.grown HB1.out (grown_of_below hal none) HB1.out.size (fun j hj=>by cases hj))
    have HRW:=zA (made_row w5 Nn)
    have BK5:=zA hx
    have HG5:=zA (show w5.heap.size < (w5.alloc (.cells (madeCells #[.int .i64 0] Nn) 2)).heap.size from rowAt_lt HRW.out)
    refine hK.out _ _ ⟨(zB3 hx).1,(zB3 hx).2.1⟩ (fun hHeld=>?_)
    clear hK K hx hal
    refine norm_ (a' := ?_) ?_ ?_
    rotate_left
    ·show Act.put _ (some 39) _ = _
     simp only [Act.put,zL,zM,zN,i64_w,i32_w]
     rfl
    refine one_ (i:=1) (N:=some 33) #[true,true,false,true,false,true,true,true,false,false,false] rfl rfl (by kernel_rfl) (by decide) (fun K hK=>?_)
    refine goes_ Tryz.func17 (by kernel_rfl) rfl #[.agg #[.int .i64 a0_0,.slice A0_1 l0_1.length c0_1]] (by rfl) rfl rfl (by simp only [List.map_toArray,List.map_cons,List.map_nil];rfl) ?_
    with_reducible refine (impl_stepsOf.calls k a0_0 _ _ l0_1 st0 _ ?side1 ?side2 ?side3 A5.out).mono ?_
    case side1=>exact kO HR.out HB5.out
    case side2=>exact HC.out
    case side3=>exact TabW.below HT.out HB5.out
    rintro e w6 ⟨v17,rfl,ho0,hb⟩
    refine ⟨_,rfl,?_⟩
    have HRS:=zA (steps_oldH (w:=w) ho0 HB5.out.size)
    have hx:=(hb.block gb (jI BK5.out)).trans BK5.out
    have HB6:=zA (Below.grown HB5.out (grown_of_below hb none) HB5.out.size (fun j hj=>by cases hj))
    have BK6:=zA hx
    have HCAP:=zA hb.size
    obtain ⟨A17,c17,e17⟩:=kM ho0
    subst e17
    obtain ⟨ad17,ea17,_⟩:=(kB ho0).2.2.2.2 (by have:=HX.out.1;omega)
    subst ea17
    have hcap:=(kB ho0).2.1
    have HAS:=zA (show ∀ (W:World) (ok:Nat → Prop),Kd.R (Kd.int .i64) 2 W w.heap.size ok (.slice (some ad17) st0.length c17) st0 → Kd.C (Kd.int .i64) W (if c17 = 1 then some ad17 else some ⟨ad17.block,ad17.off + 1,none⟩) st.length st from fun W ok hW=>HDR.out ▸ Kd.C_drop (m:=1) (c:=c17) (kB hW).2.2 HX.out.1 hcap)
    have HRW6:=zA (rowAt_block HRW.out (hb.block _ (rowAt_lt HRW.out)))
    refine hK.out _ _ ⟨(zB3 hx).1,(zB3 hx).2.1⟩ (fun hHeld=>?_)
    clear hK K ho0 hb hx
    refine norm_ (a' := ?_) ?_ ?_
    rotate_left
    ·show Act.put _ (some 33) _ = _
     simp only [Act.put,zL,zM,zN,i64_w,i32_w]
     rfl
    have hone:=HX.out.1
    have s1:(1:Int) ≤ (st0.length:Int):=by omega
    have s2:(st0.length:Int) ≤ (c17:Int):=by omega
    refine pure_ (i:=2) (N:=some 34) (v:=?_) (a' := ?_) #[true,true,true,true,false,true,true,true,false,false,false] rfl rfl (by kernel_rfl) (fun _ _ _ h=>h) (Or.inl ⟨by rfl,?_⟩) ?_ ?_
    rotate_left
    ·intro w'
     go_simp
     with_reducible rfl
    rotate_left
    ·simp only [Act.put,zL,zM,zN,i64_w,i32_w]
     rfl
    generalize (if c17 = 1 then some ad17 else some (⟨ad17.block,ad17.off + 1,none⟩:Addr)) = A18 at HAS ⊢
    rw [← HLN.out]
    clear s1 s2 hone
    refine one_ (i:=4) (N:=some 36) #[true,true,true,true,true,true,true,true,false,false,false] rfl rfl (by kernel_rfl) (by decide) (fun K hK=>?_)
    refine goes_ Tryz.func18 (by kernel_rfl) rfl #[.agg #[.int .i64 a0_0,.slice A0_1 l0_1.length c0_1]] (by rfl) rfl rfl (by simp only [List.map_toArray,List.map_cons,List.map_nil];rfl) ?_
    refine (ties_sameH a0_0 A0_1 l0_1.length c0_1 _).mono ?_
    rintro e w7 ⟨rfl,hb⟩
    refine ⟨_,rfl,?_⟩
    have hx:=(hb.block gb (jI BK6.out)).trans BK6.out
    have HB8:=zA (Below.grown HB6.out (grown_of_below hb none) HB6.out.size (fun j hj=>by cases hj))
    have HR8:=zA (kL HRS.out hb)
    have HRW8:=zA (rowAt_block HRW6.out (hb.block _ (rowAt_lt HRW6.out)))
    have HSZ:=zA hb.size
    refine hK.out _ _ ⟨(zB3 hx).1,(zB3 hx).2.1⟩ (fun hHeld=>?_)
    clear hK K hb hx
    refine norm_ (a' := ?_) ?_ ?_
    rotate_left
    ·show Act.put _ (some 36) _ = _
     simp only [Act.put,zL,zM,zN,i64_w,i32_w]
     rfl
    refine pure_ (i:=8) (N:=some 8) (v:=?_) (a' := ?_) #[true,true,true,true,true,true,true,true,true,false,false] rfl rfl (by kernel_rfl) (fun _ _ _ h=>h) (Or.inl ⟨by rfl,?_⟩) ?_ ?_
    rotate_left
    ·intro w'
     go_simp
     with_reducible rfl
    rotate_left
    ·simp only [Act.put,zL,zM,zN,i64_w,i32_w]
     rfl
    refine pure_ (i:=9) (N:=some 9) (v:=?_) (a' := ?_) #[true,true,true,true,true,true,true,true,true,true,false] rfl rfl (by kernel_rfl) (fun _ _ _ h=>h) (Or.inl ⟨by rfl,?_⟩) ?_ ?_
    rotate_left
    ·intro w'
     go_simp
     with_reducible rfl
    rotate_left
    ·simp only [Act.put,zL,zM,zN,i64_w,i32_w]
     rfl
    have hc:=hcont (A18,c17 - 1,.slice (some ad17) st0.length c17,w5.heap.size) _ ⟨HAS.out,by have:=HLN.out;dsimp only;omega,kA HR8.out (fun k hk=>⟨by have:=HG5.out;have:=hk.1;dsimp only;omega,by have:=HSZ.out;have:=hk.2;omega⟩),HRW8.out,HB1.out.size,HB8.out⟩
    simp only [putAll,Act.put,zL,zM,zN] at hc
    exact hc
   case hcont =>
    rintro ⟨A18,cs,v17,bo⟩ w8 hF
    have HAS:=zA hF.1
    have HLC:=zA hF.2.1
    have HRS:=zA hF.2.2.1
    have HRW:=zA hF.2.2.2.1
    have HBO:=zA hF.2.2.2.2.1
    have HB8:=zA hF.2.2.2.2.2
    clear hF hHeld BK1 HB1
    dsimp only at HAS HLC HRS HRW HBO
    refine norm_ (a' := ?_) ?_ ?_
    rotate_left
    ·show putAll _ _ = _
     simp only [putAll,Act.put,zL,zM,zN,i64_w,i32_w]
     rfl
    refine pure_ (i:=10) (N:=some 10) (v:=?_) (a' := ?_) #[true,true,true,true,true,true,true,true,true,true,true] rfl rfl (by kernel_rfl) (fun _ _ _ h=>h) (Or.inl ⟨by rfl,?_⟩) ?_ ?_
    rotate_left
    ·intro w'
     go_simp
     with_reducible rfl
    rotate_left
    ·simp only [Act.put,zL,zM,zN,i64_w,i32_w]
     rfl
    refine done_ (by kernel_rfl) ?_
    rw [HW1.out]
    have HDL:=HR
    have HTB:=HT
    have H:=HH.out
    clear HH HLN HX HR HT HMK HMK0 A4 A5
    by_cases c5:a1 = 0
    ·rw [if_pos c5] at H
     obtain ⟨c51,c51b⟩:=zT1 c5
     clear c5 HNN HNe HNl HNq HW1
     simp only [Option.some.injEq,Prod.mk.injEq] at H
     obtain ⟨rfl,rfl⟩:=H
     go_wp2_with (first | ((with_reducible refine kS (N:=42) rfl ?_);refine Kd.R_lit (Kd.int .i64) _ 2 ?hg (N:=42) ?hd (xs:=([1]:List Int)) (inner:=[.int .i64 1]) (ok:=fun _=>True) (okp:=fun _=>True) ?hr ?hp (fun _ hk=>hk) trivial (kW _ _) (Nat.le_refl _) (by simp) ?_;(case hd=>rfl);(case hg=>rfl);(case hr=>first | (go_simp;done) | (go_simp;rfl));(case hp=>exact (Reps.one (show Kd.M (Kd.int .i64) _ _ _ 1 [.int .i64 1] from rfl) (Reps.none _ _)));intro v42 w9 ho4 hb hg_ hnew_;clear hg_ hnew_;have HO9:=zA (kI ho4 HB8.out.size);have HB9:=zA (kQ HB8.out hb);clear hb ho4))
     go_ret2
     exact ⟨_,zr,HO9.out,HB9.out⟩
    rw [if_neg c5] at H
    obtain ⟨c51,c51b⟩:=zT2 c5
    clear c5
    obtain ⟨R0,h0,H⟩:=zb H
    obtain ⟨ro,h1o,H⟩:=zb H
    simp only [Option.some.injEq,Prod.mk.injEq] at H
    obtain ⟨hro,hr2⟩:=H
    subst hr2
    have HL0:=zA (show impl_CountByHeight.l0 k a1 st (fun _=>List.replicate Nn 0) 0 = some R0 from HNq.out ▸ h0.out)
    have HL1:=zA (show impl_CountByHeight.l1 k l0_1 a1 st R0 (List.replicate Nn 0) 1 = some ro from HNq.out ▸ h1o.out)
    clear h0 h1o
    have HG0:=zA (oneR_nil (m0:=w8.heap.size) HRW.out HBO.out HB8.out (Nat.le_refl _) HRS.out (fun _=>0) (fun _=>List.replicate Nn 0))
    go_wp2
    go_loopg [46] k (fun gg v46 wr=>∃ (R:Int → List Int) (i:Nat) (G:Int → Nat),i ≤ st.length ∧ v46 = .int .i64 i ∧ Aside0 (impl_CountByHeight.l0 gg a1 st R i = some R0) ∧ Aside0 (gg ≤ k) ∧ Aside0 (∀ s,s ∉ st.take i → R s = List.replicate Nn 0) ∧ Aside0 (OneR w w8.heap.size Nn bo w8.heap.size G (st.take i) v17 st0 wr R (List.replicate Nn 0)))
    case atStart=>exact ⟨_,0,_,Nat.zero_le _,rfl,HL0,⟨Nat.le_refl _⟩,⟨fun _ _=>rfl⟩,HG0⟩
    case round =>
     clear HG0 HL0
     obtain ⟨R,i,G,hile,rfl,HA,HK,HZ,HG⟩:=hrel
     cases gk with
     | zero=>exact absurd HA.out (by simp [impl_CountByHeight.l0])
     | succ k1 =>
      have H:=HA.out
      clear HA
      simp only [impl_CountByHeight.l0] at H
      by_cases q2:(i:Int) < (st.length:Int)
      ·rw [if_pos q2,if_pos (by omega)] at H
       have q2n:i < st.length:=by omega
       have q2b:decide ((i:Int) < (st.length:Int)) = true:=decide_eq_true q2
       obtain ⟨z,H1,H⟩:=zb H
       have HSC:=zA (HAS.out _ _ HG.out.2.2.2.2.2.2.2)
       obtain ⟨adS,eS,hcS⟩:=Kd.at_int HSC.out (i:Int) (by omega) q2
       subst eS
       have HKW:=zA (rd_wf HWF.out (show (0:Int) ≤ (i:Int) by omega) q2)
       have HNI:=zA (nodup_take HD.out q2n)
       have HTK:=zA (take_snocI q2n)
       have HMS:=zA (show rd st (i:Int) ∈ st.take i ++ [rd st (i:Int)] by simp)
       have HIV:=zA (show wrap64 ((i:Int) + 1) = ((i + 1:Nat):Int) by have:=HBD.out;unfold wrap64;omega)
       rw [Int.toNat_natCast] at hcS
       by_cases q3:z ≤ a1
       ·rw [if_pos q3] at H
        by_cases q4:0 ≤ z
        ·rw [if_pos q4] at H
         have q3b:decide (z ≤ a1) = true:=decide_eq_true q3
         have HN:=zA H
         have HZ0:=zA q4
         have HZN:=zA (show z < (Nn:Int) by have:=HNe.out;omega)
         clear H
         go_wp2_with (first | ((with_reducible refine kS (N:=54) rfl ?_);refine make_row (Nt:=54) rfl rfl 24 2 (.tmp 53) (.tmp 53) rfl (wrap64 (a1 + 1)) rfl rfl Tryz.underlying24 info2 (by rw [HW1.out];have:=HNN.out;omega) (by rw [HW1.out];have:=HNN.out;omega) ?_;rw [HW1.out,HNq.out];have HRN:=zA (made_row wr Nn);have HMG:=zA (mapG_below HG.out.1.1 (zB (kW wr.heap.size wr) (.cells (madeCells #[.int .i64 0] Nn) 2)))) | (at_mapUpdate;refine wpList_mg_put rfl (.tmp 50) (.tmp 51) (.tmp 54) 47 rfl law Tryz.underlying47 HMG.out (by have:=HBD.out;rw [List.length_take];unfold maxLen;omega) rfl (rd st (i:Int)) wr.heap.size HKW.out _ rfl rfl (Go.Maps.keyOf_int_mk Tryz.underlying2 HKW.out) ?_;intro w9 hm9 hg9;have HG9:=zA (oneR_snoc HG.out HNI.out (by rw [HZ.out _ HNI.out];exact HRN.out) hm9 hg9);clear hm9 hg9) | (refine zO (some 56) Tryz.func19 #[.int .i64 (rd st (i:Int))] ?_;(with_reducible refine (impl_size.calls (rd st (i:Int)) z _ H1.out).mono ?_);rintro e w10 ⟨rfl,hd⟩;refine ⟨_,rfl,?_⟩;have HG10:=zA (oneR_drawn HG9.out hd);clear hd))
         have p4:=eq_true HZ0.out
         have p5:=eq_true HZN.out
         replace HG10:=zA (oneR_below HG10.out (zD (kW w10.heap.size w10)))
         refine start_ (n:=7) (S:=fun w' => MapG Tryz.prog 2 Nn w' w8.heap.size (st.take i ++ [rd st (i:Int)]).length (fun a=>decide (a ∈ st.take i ++ [rd st (i:Int)])) (fun a=>if a ∈ st.take i ++ [rd st (i:Int)] then ((if a = rd st (i:Int) then wr.heap.size else G a:Nat):Int) else -1)) (ds:=[6]) #[false,false,false,false,false,false,false] (by kernel_rfl) rfl rfl HG10.out.1.1 (fun hHeld=>?_)
         generalize w10.drew = wy at HG10 hHeld ⊢
         refine pure_ (i:=0) (N:=some 59) (v:=?_) (a' := ?_) #[true,false,false,false,false,false,false] rfl rfl (by kernel_rfl) (fun _ _ _ h=>h) (Or.inl ⟨by rfl,?_⟩) ?_ ?_
         rotate_left
         ·intro w'
          go_simp
          with_reducible rfl
         rotate_left
         ·simp only [Act.put,zL,zM,zN,i64_w,i32_w]
          rfl
         refine pure_ (i:=1) (N:=some 60) (v:=?_) (a' := ?_) #[true,true,false,false,false,false,false] rfl rfl (by kernel_rfl) (fun _ _ _ h=>h) (Or.inl ⟨by rfl,?_⟩) ?_ ?_
         rotate_left
         ·intro w'
          go_simp
          with_reducible rfl
         rotate_left
         ·simp only [Act.put,zL,zM,zN,i64_w,i32_w]
          rfl
         refine take_ (i:=2) (N:=some 61) (v:=.slice (some ⟨wr.heap.size,0,none⟩) Nn Nn) (a' := ?_) #[true,true,true,false,false,false,false] rfl rfl (by kernel_rfl) (fun _ _ _ h=>h) (Or.inl ⟨by rfl,?_⟩) hHeld ?_ ?_
         ·rintro w' s0
          have hr_:=mapG_look law Tryz.underlying47 zero_sliceH s0 (rd st (i:Int)) wr.heap.size HKW.out (by rw [if_pos HMS.out,if_pos rfl]) (Go.Maps.keyOf_int_mk Tryz.underlying2 HKW.out)
          go_simp
         rotate_left
         ·simp only [Act.put,zL,zM,zN,i64_w,i32_w]
          rfl
         refine pure_ (i:=3) (N:=some 62) (v:=?_) (a' := ?_) #[true,true,true,true,false,false,false] rfl rfl (by kernel_rfl) (fun _ _ _ h=>h) (Or.inl ⟨by rfl,?_⟩) ?_ ?_
         rotate_left
         ·intro w'
          go_simp
          with_reducible rfl
         rotate_left
         ·simp only [Act.put,zL,zM,zN,i64_w,i32_w]
          rfl
         refine one_ (i:=4) (N:=some 63) #[true,true,true,true,true,false,false] rfl rfl (by kernel_rfl) (by decide) (fun K hK=>?_)
         refine goes_ Tryz.func19 (by kernel_rfl) rfl #[.int .i64 (rd st (i:Int))] (by rfl) rfl rfl (by simp only [List.map_toArray,List.map_cons,List.map_nil];rfl) ?_
         with_reducible refine (impl_size.calls (rd st (i:Int)) z _ H1.out).mono ?_
         rintro e wz ⟨rfl,hd⟩
         refine ⟨_,rfl,?_⟩
         replace HG10:=zA (oneR_drawn HG10.out hd)
         refine hK.out _ _ HG10.out.1.1 (fun hHeld=>?_)
         clear hK K hd
         refine norm_ (a' := ?_) ?_ ?_
         rotate_left
         ·show Act.put _ (some 63) _ = _
          simp only [Act.put,zL,zM,zN,i64_w,i32_w]
          rfl
         refine pure_ (i:=5) (N:=some 64) (v:=?_) (a' := ?_) #[true,true,true,true,true,true,false] rfl rfl (by kernel_rfl) (fun _ _ _ h=>h) (Or.inl ⟨by rfl,?_⟩) ?_ ?_
         rotate_left
         ·intro w'
          go_simp
          with_reducible rfl
         rotate_left
         ·simp only [Act.put,zL,zM,zN,i64_w,i32_w]
          rfl
         have HRZ:=zA (grI_row HG10.out.1 HMS.out)
         rw [if_pos rfl] at HRZ
         have hcZ:=rowAt_cell HRZ.out HZ0.out HZN.out
         have hfZ:=rowAt_frozen HRZ.out z.toNat
         refine last_ (i:=6) (N:=none) #[true,true,true,true,true,true,true] rfl rfl (by kernel_rfl) (by decide) (fun K hK=>?_)
         refine skip_ (w1:=wz.setCell ⟨wr.heap.size,z.toNat,none⟩ (.int .i64 (1))) (by rfl) rfl (by first | (go_simp;done) | (go_simp;rfl)) ?_
         refine hK.out _ _ ?_
         clear hK K hcZ hfZ hHeld HRZ
         refine done_ (by kernel_rfl) ?_
         go_wp2
         go_roundg k1
         case measure=>have:=HK.out;omega
         case rel=>exact ⟨updR R (rd st (i:Int)) z 1,i + 1,_,by omega,by rw [HIV.out],HIV.out ▸ HN,⟨by have:=HK.out;omega⟩,⟨fun s hs=>by rw [HTK.out] at hs;have h1:s ≠ rd st (i:Int):=(fun e_=>hs (by rw [e_];simp));unfold updR;rw [if_neg h1];exact HZ.out s (fun e_=>hs (by simp [e_]))⟩,⟨by rw [HTK.out];exact (if_pos (c:=rd st (i:Int) = rd st (i:Int)) rfl:(if rd st (i:Int) = rd st (i:Int) then wr.heap.size else G (rd st (i:Int))) = wr.heap.size) ▸ oneR_set HG10.out HMS.out HZ0.out HZN.out 1⟩⟩
        rw [if_neg q4] at H
        cases H
       rw [if_neg q3] at H
       have q3b:decide (z ≤ a1) = false:=decide_eq_false q3
       have HN:=zA H
       clear H
       go_wp2_with (first | ((with_reducible refine kS (N:=54) rfl ?_);refine make_row (Nt:=54) rfl rfl 24 2 (.tmp 53) (.tmp 53) rfl (wrap64 (a1 + 1)) rfl rfl Tryz.underlying24 info2 (by rw [HW1.out];have:=HNN.out;omega) (by rw [HW1.out];have:=HNN.out;omega) ?_;rw [HW1.out,HNq.out];have HRN:=zA (made_row wr Nn);have HMG:=zA (mapG_below HG.out.1.1 (zB (kW wr.heap.size wr) (.cells (madeCells #[.int .i64 0] Nn) 2)))) | (at_mapUpdate;refine wpList_mg_put rfl (.tmp 50) (.tmp 51) (.tmp 54) 47 rfl law Tryz.underlying47 HMG.out (by have:=HBD.out;rw [List.length_take];unfold maxLen;omega) rfl (rd st (i:Int)) wr.heap.size HKW.out _ rfl rfl (Go.Maps.keyOf_int_mk Tryz.underlying2 HKW.out) ?_;intro w9 hm9 hg9;have HG9:=zA (oneR_snoc HG.out HNI.out (by rw [HZ.out _ HNI.out];exact HRN.out) hm9 hg9);clear hm9 hg9) | (refine zO (some 56) Tryz.func19 #[.int .i64 (rd st (i:Int))] ?_;(with_reducible refine (impl_size.calls (rd st (i:Int)) z _ H1.out).mono ?_);rintro e w10 ⟨rfl,hd⟩;refine ⟨_,rfl,?_⟩;have HG10:=zA (oneR_drawn HG9.out hd);clear hd))
       go_roundg k1
       case measure=>have:=HK.out;omega
       case rel=>exact ⟨R,i + 1,_,by omega,by rw [HIV.out],HIV.out ▸ HN,⟨by have:=HK.out;omega⟩,⟨fun s hs=>by rw [HTK.out] at hs;exact HZ.out s (fun e_=>hs (by simp [e_]))⟩,⟨by rw [HTK.out];exact HG10.out⟩⟩
      rw [if_neg q2] at H
      have q2b:decide ((i:Int) < (st.length:Int)) = false:=decide_eq_false q2
      obtain rfl:=Option.some.inj H
      obtain rfl:i = st.length:=by omega
      rw [List.take_length] at HG
      have HGA:=zA HG.out
      clear HG HZ H
      go_wp2
      go_loopg [11,14] k (fun gg v11 v14 wr=>∃ (R1:Int → List Int) (o:List Int) (hh:Int) (b1:Nat) (G1:Int → Nat),v11 = .map (some b1) ∧ v14 = .int .i64 hh ∧ Aside0 (impl_CountByHeight.l1 gg l0_1 a1 st R1 o hh = some ro) ∧ Aside0 (gg ≤ k) ∧ Aside0 (OneR w w8.heap.size Nn bo b1 G1 st v17 st0 wr R1 o))
      case atStart=>exact ⟨_,_,1,_,_,rfl,rfl,HL1,⟨Nat.le_refl _⟩,HGA⟩
      case round =>
       clear HL1 HGA HK
       obtain ⟨R1,o,hh,b1,G1,rfl,rfl,HA,HK,HG⟩:=hrel
       cases gk with
       | zero=>exact absurd HA.out (by simp [impl_CountByHeight.l1])
       | succ k1 =>
        have H:=HA.out
        clear HA
        simp only [impl_CountByHeight.l1] at H
        by_cases q5:hh ≤ a1
        ·rw [if_pos q5] at H
         have q5b:decide (hh ≤ a1) = true:=decide_eq_true q5
         by_cases q6:0 ≤ hh
         ·rw [if_pos q6] at H
          obtain ⟨o2,H2,H⟩:=zb H
          obtain ⟨R9,H3,H⟩:=zb H
          have HN:=zA H
          have HH0:=zA q6
          have HHN:=zA (show hh < (Nn:Int) by have:=HNe.out;omega)
          have HA0:=zA HNN.out.1
          have HAN:=zA (show a1 < (Nn:Int) by have:=HNe.out;omega)
          replace H3:=zA (show impl_CountByHeight.l3 k1 l0_1 a1 st R1 (fun _=>List.replicate Nn 0) 0 = some R9 from HNq.out ▸ H3.out)
          clear H
          obtain ⟨b2,hb2⟩:∃ b2:Nat,b2 = wr.heap.size:=⟨_,rfl⟩
          have HT0:=twoR_start HG.out (fun _=>0) (fun _=>List.replicate Nn 0)
          rw [← hb2] at HT0
          replace HT0:=zA HT0
          go_wp2
          rw [← hb2]
          clear hb2
          go_loopg [74] k1 (fun gg v74 wr=>∃ (oc:List Int) (i:Nat) (G2:Int → Nat),i ≤ st.length ∧ v74 = .int .i64 i ∧ Aside0 (impl_CountByHeight.l2 gg a1 st R1 hh oc i = some o2) ∧ Aside0 (gg ≤ k1) ∧ Aside0 (TwoR w w8.heap.size Nn bo b1 G1 st R1 b2 b2 G2 (st.take i) v17 st0 wr (fun _=>List.replicate Nn 0) oc))
          case atStart=>exact ⟨_,0,_,Nat.zero_le _,rfl,H2,⟨Nat.le_refl _⟩,HT0⟩
          case round =>
           clear H2 HT0 HG
           obtain ⟨oc,i,G2,hile,rfl,HA,HK2,HG⟩:=hrel
           cases gk with
           | zero=>exact absurd HA.out (by simp [impl_CountByHeight.l2])
           | succ k2 =>
            have H:=HA.out
            clear HA
            simp only [impl_CountByHeight.l2] at H
            by_cases q7:(i:Int) < (st.length:Int)
            ·rw [if_pos q7,if_pos (by omega)] at H
             have q7n:i < st.length:=by omega
             have q7b:decide ((i:Int) < (st.length:Int)) = true:=decide_eq_true q7
             have HN2:=zA H
             clear H
             have HSC:=zA (HAS.out _ _ HG.out.1.2.2.2.2.2.2.2)
             obtain ⟨adS,eS,hcS⟩:=Kd.at_int HSC.out (i:Int) (by omega) q7
             subst eS
             have HKW:=zA (rd_wf HWF.out (show (0:Int) ≤ (i:Int) by omega) q7)
             have HNI:=zA (nodup_take HD.out q7n)
             have HTK:=zA (take_snocI q7n)
             have HMS:=zA (rd_mem (show (0:Int) ≤ (i:Int) by omega) q7)
             have HIV:=zA (show wrap64 ((i:Int) + 1) = ((i + 1:Nat):Int) by have:=HBD.out;unfold wrap64;omega)
             rw [Int.toNat_natCast] at hcS
             have p4:=eq_true HH0.out
             have p5:=eq_true HHN.out
             have p6:=eq_true HA0.out
             have p7:=eq_true HAN.out
             go_wp2
             replace HG:=zA (twoR_below HG.out (zD (kW wr.heap.size wr)))
             refine start_ (n:=13) (S:=fun w' => MapG Tryz.prog 2 Nn w' b1 st.length (fun a=>decide (a ∈ st)) (fun a=>if a ∈ st then (G1 a:Int) else -1) ∧ w'.cell? ⟨bo,hh.toNat,none⟩ = some (.int .i64 (rd oc hh)) ∧ w'.cell? ⟨G1 (rd st (i:Int)),a1.toNat,none⟩ = some (.int .i64 (rd (R1 (rd st (i:Int))) a1))) (ds:=[12]) #[false,false,false,false,false,false,false,false,false,false,false,false,false] (by kernel_rfl) rfl rfl ⟨HG.out.1.1.1,rowAt_cell HG.out.1.2.1 HH0.out HHN.out,rowAt_cell (grI_row HG.out.1.1 HMS.out) HA0.out HAN.out⟩ (fun hHeld=>?_)
             generalize wr.drew = wz at HG hHeld ⊢
             refine pure_ (i:=0) (N:=some 78) (v:=?_) (a' := ?_) #[true,false,false,false,false,false,false,false,false,false,false,false,false] rfl rfl (by kernel_rfl) (fun _ _ _ h=>h) (Or.inl ⟨by rfl,?_⟩) ?_ ?_
             rotate_left
             ·intro w'
              go_simp
              with_reducible rfl
             rotate_left
             ·simp only [Act.put,zL,zM,zN,i64_w,i32_w]
              rfl
             refine pure_ (i:=1) (N:=some 79) (v:=?_) (a' := ?_) #[true,true,false,false,false,false,false,false,false,false,false,false,false] rfl rfl (by kernel_rfl) (fun _ _ _ h=>h) (Or.inl ⟨by rfl,?_⟩) ?_ ?_
             rotate_left
             ·intro w'
              go_simp
              with_reducible rfl
             rotate_left
             ·simp only [Act.put,zL,zM,zN,i64_w,i32_w]
              rfl
             refine pure_ (i:=2) (N:=some 80) (v:=?_) (a' := ?_) #[true,true,true,false,false,false,false,false,false,false,false,false,false] rfl rfl (by kernel_rfl) (fun _ _ _ h=>h) (Or.inl ⟨by rfl,?_⟩) ?_ ?_
             rotate_left
             ·intro w'
              go_simp
              with_reducible rfl
             rotate_left
             ·simp only [Act.put,zL,zM,zN,i64_w,i32_w]
              rfl
             refine take_ (i:=3) (N:=some 81) (v:=?_) (a' := ?_) #[true,true,true,true,false,false,false,false,false,false,false,false,false] rfl rfl (by kernel_rfl) (fun _ _ _ h=>h) (Or.inl ⟨by rfl,?_⟩) hHeld ?_ ?_
             rotate_left
             ·rintro w' ⟨s0,s1,s2⟩
              go_simp
              with_reducible rfl
             rotate_left
             ·simp only [Act.put,zL,zM,zN,i64_w,i32_w]
              rfl
             refine pure_ (i:=4) (N:=some 82) (v:=?_) (a' := ?_) #[true,true,true,true,true,false,false,false,false,false,false,false,false] rfl rfl (by kernel_rfl) (fun _ _ _ h=>h) (Or.inl ⟨by rfl,?_⟩) ?_ ?_
             rotate_left
             ·intro w'
              go_simp
              with_reducible rfl
             rotate_left
             ·simp only [Act.put,zL,zM,zN,i64_w,i32_w]
              rfl
             refine pure_ (i:=5) (N:=some 83) (v:=?_) (a' := ?_) #[true,true,true,true,true,true,false,false,false,false,false,false,false] rfl rfl (by kernel_rfl) (fun _ _ _ h=>h) (Or.inl ⟨by rfl,?_⟩) ?_ ?_
             rotate_left
             ·intro w'
              go_simp
              with_reducible rfl
             rotate_left
             ·simp only [Act.put,zL,zM,zN,i64_w,i32_w]
              rfl
             refine take_ (i:=6) (N:=some 84) (v:=.slice (some ⟨G1 (rd st (i:Int)),0,none⟩) Nn Nn) (a' := ?_) #[true,true,true,true,true,true,true,false,false,false,false,false,false] rfl rfl (by kernel_rfl) (fun _ _ _ h=>h) (Or.inl ⟨by rfl,?_⟩) hHeld ?_ ?_
             ·rintro w' ⟨s0,s1,s2⟩
              have hr_:=mapG_look law Tryz.underlying47 zero_sliceH s0 (rd st (i:Int)) (G1 (rd st (i:Int))) HKW.out (if_pos HMS.out) (Go.Maps.keyOf_int_mk Tryz.underlying2 HKW.out)
              go_simp
             rotate_left
             ·simp only [Act.put,zL,zM,zN,i64_w,i32_w]
              rfl
             refine pure_ (i:=7) (N:=some 85) (v:=?_) (a' := ?_) #[true,true,true,true,true,true,true,true,false,false,false,false,false] rfl rfl (by kernel_rfl) (fun _ _ _ h=>h) (Or.inl ⟨by rfl,?_⟩) ?_ ?_
             rotate_left
             ·intro w'
              go_simp
              with_reducible rfl
             rotate_left
             ·simp only [Act.put,zL,zM,zN,i64_w,i32_w]
              rfl
             refine pure_ (i:=8) (N:=some 86) (v:=?_) (a' := ?_) #[true,true,true,true,true,true,true,true,true,false,false,false,false] rfl rfl (by kernel_rfl) (fun _ _ _ h=>h) (Or.inl ⟨by rfl,?_⟩) ?_ ?_
             rotate_left
             ·intro w'
              go_simp
              with_reducible rfl
             rotate_left
             ·simp only [Act.put,zL,zM,zN,i64_w,i32_w]
              rfl
             refine take_ (i:=9) (N:=some 87) (v:=?_) (a' := ?_) #[true,true,true,true,true,true,true,true,true,true,false,false,false] rfl rfl (by kernel_rfl) (fun _ _ _ h=>h) (Or.inl ⟨by rfl,?_⟩) hHeld ?_ ?_
             rotate_left
             ·rintro w' ⟨s0,s1,s2⟩
              go_simp
              with_reducible rfl
             rotate_left
             ·simp only [Act.put,zL,zM,zN,i64_w,i32_w]
              rfl
             refine pure_ (i:=10) (N:=some 88) (v:=?_) (a' := ?_) #[true,true,true,true,true,true,true,true,true,true,true,false,false] rfl rfl (by kernel_rfl) (fun _ _ _ h=>h) (Or.inl ⟨by rfl,?_⟩) ?_ ?_
             rotate_left
             ·intro w'
              go_simp
              with_reducible rfl
             rotate_left
             ·simp only [Act.put,zL,zM,zN,i64_w,i32_w]
              rfl
             refine pure_ (i:=11) (N:=some 89) (v:=?_) (a' := ?_) #[true,true,true,true,true,true,true,true,true,true,true,true,false] rfl rfl (by kernel_rfl) (fun _ _ _ h=>h) (Or.inl ⟨by rfl,?_⟩) ?_ ?_
             rotate_left
             ·intro w'
              go_simp
              with_reducible rfl
             rotate_left
             ·simp only [Act.put,zL,zM,zN,i64_w,i32_w]
              rfl
             have hcO:=rowAt_cell HG.out.1.2.1 HH0.out HHN.out
             have hfO:=rowAt_frozen HG.out.1.2.1 hh.toNat
             refine last_ (i:=12) (N:=none) #[true,true,true,true,true,true,true,true,true,true,true,true,true] rfl rfl (by kernel_rfl) (by decide) (fun K hK=>?_)
             refine skip_ (w1:=wz.setCell ⟨bo,hh.toNat,none⟩ (.int .i64 (wrap64 (rd oc hh + rd (R1 (rd st (i:Int))) a1)))) (by rfl) rfl (by first | (go_simp;done) | (go_simp;rfl)) ?_
             refine hK.out _ _ ?_
             clear hK K hcO hfO hHeld
             refine done_ (by kernel_rfl) ?_
             replace HG:=zA (twoR_out HG.out HH0.out HHN.out (wrap64 (rd oc hh + rd (R1 (rd st (i:Int))) a1)))
             generalize wz.setCell ⟨bo,hh.toNat,none⟩ (.int .i64 (wrap64 (rd oc hh + rd (R1 (rd st (i:Int))) a1))) = wx at HG ⊢
             go_wp2_with (first | ((with_reducible refine kS (N:=94) rfl ?_);refine make_row (Nt:=94) rfl rfl 24 2 (.tmp 93) (.tmp 93) rfl (wrap64 (a1 + 1)) rfl rfl Tryz.underlying24 info2 (by rw [HW1.out];have:=HNN.out;omega) (by rw [HW1.out];have:=HNN.out;omega) ?_;rw [HW1.out,HNq.out];have HRN:=zA (made_row wx Nn);have HMG:=zA (mapG_below HG.out.2.1.1.1 (zB (kW wx.heap.size wx) (.cells (madeCells #[.int .i64 0] Nn) 2)))) | (at_mapUpdate;refine wpList_mg_put rfl (.tmp 90) (.tmp 91) (.tmp 94) 47 rfl law Tryz.underlying47 HMG.out (by have:=HBD.out;rw [List.length_take];unfold maxLen;omega) rfl (rd st (i:Int)) wx.heap.size HKW.out _ rfl rfl (Go.Maps.keyOf_int_mk Tryz.underlying2 HKW.out) ?_;intro w9 hm9 hg9;have HG9:=zA (twoR_snoc HG.out HNI.out HRN.out hm9 hg9);clear hm9 hg9))
             go_roundg k2
             case measure=>have:=HK2.out;omega
             case rel=>exact ⟨_,i + 1,_,by omega,by rw [HIV.out],HIV.out ▸ HN2,⟨by have:=HK2.out;omega⟩,⟨by rw [HTK.out];exact HG9.out⟩⟩
            rw [if_neg q7] at H
            have q7b:decide ((i:Int) < (st.length:Int)) = false:=decide_eq_false q7
            obtain rfl:=Option.some.inj H
            obtain rfl:i = st.length:=by omega
            rw [List.take_length] at HG
            have HGA:=zA HG.out
            clear HG H HK2
            go_wp2
            go_loopg [98] k1 (fun gg v98 wr=>∃ (R2:Int → List Int) (j:Int),v98 = .int .i64 j ∧ Aside0 (impl_CountByHeight.l3 gg l0_1 a1 st R1 R2 j = some R9) ∧ Aside0 (gg ≤ k1) ∧ Aside0 (TwoR w w8.heap.size Nn bo b1 G1 st R1 b2 b2 G2 st v17 st0 wr R2 oc))
            case atStart=>exact ⟨_,0,rfl,H3,⟨Nat.le_refl _⟩,HGA⟩
            case round =>
             clear H3 HGA
             obtain ⟨R2,j,rfl,HA,HK2,HG⟩:=hrel
             cases gk with
             | zero=>exact absurd HA.out (by simp [impl_CountByHeight.l3])
             | succ k2 =>
              have H:=HA.out
              clear HA
              simp only [impl_CountByHeight.l3] at H
              by_cases q8:j < (st.length:Int)
              ·rw [if_pos q8] at H
               have q8b:decide (j < (st.length:Int)) = true:=decide_eq_true q8
               by_cases q9:0 ≤ j
               ·rw [if_pos q9] at H
                obtain ⟨R3,H4,H⟩:=zb H
                have HN2:=zA H
                clear H
                have HSC:=zA (HAS.out _ _ HG.out.1.2.2.2.2.2.2.2)
                obtain ⟨adS,eS,hcS⟩:=Kd.at_int HSC.out j q9 q8
                subst eS
                have HKW:=zA (rd_wf HWF.out q9 q8)
                have HMS:=zA (rd_mem q9 q8)
                have p8:=eq_true q8
                have p9:=eq_true q9
                go_wp2
                clear hcS HSC
                go_loopg [104] k2 (fun gg v104 wr=>∃ (R2:Int → List Int) (i:Int),v104 = .int .i64 i ∧ Aside0 (impl_CountByHeight.l4 gg l0_1 a1 st R1 (rd st j) R2 i = some R3) ∧ Aside0 (gg ≤ k2) ∧ Aside0 (TwoR w w8.heap.size Nn bo b1 G1 st R1 b2 b2 G2 st v17 st0 wr R2 oc))
                case atStart=>exact ⟨_,0,rfl,H4,⟨Nat.le_refl _⟩,HG⟩
                case round =>
                 clear H4 HG
                 obtain ⟨R2,i,rfl,HA,HK3,HG⟩:=hrel
                 cases gk with
                 | zero=>exact absurd HA.out (by simp [impl_CountByHeight.l4])
                 | succ k3 =>
                  have H:=HA.out
                  clear HA
                  simp only [impl_CountByHeight.l4] at H
                  by_cases q10:i < (st.length:Int)
                  ·rw [if_pos q10] at H
                   have q10b:decide (i < (st.length:Int)) = true:=decide_eq_true q10
                   by_cases q11:0 ≤ i
                   ·rw [if_pos q11] at H
                    obtain ⟨b,H5,H⟩:=zb H
                    have HSC:=zA (HAS.out _ _ HG.out.1.2.2.2.2.2.2.2)
                    obtain ⟨adT,eT,hcT⟩:=Kd.at_int HSC.out i q11 q10
                    have eT2:=Option.some.inj eT
                    subst eT2
                    have HKI:=zA (rd_wf HWF.out q11 q10)
                    have HMI:=zA (rd_mem q11 q10)
                    have p10:=eq_true q10
                    have p11:=eq_true q11
                    cases b with
                    | false =>
                     rw [if_neg (by decide)] at H
                     have HN3:=zA H
                     clear H
                     go_wp2_with (first | (refine zO (some 111) Tryz.func20 #[.slice A0_1 l0_1.length c0_1,.int .i64 (rd st j),.int .i64 (rd st i)] ?_;(with_reducible refine (impl_ties_follows.calls k3 _ _ l0_1 (rd st j) (rd st i) _ _ ?side1 ?side2 ?side3 H5.out).mono ?_);(case side1=>exact kO HDL.out (oneR_tail HG.out.1));(case side2=>exact HC.out);(case side3=>exact TabW.below HTB.out (oneR_tail HG.out.1));rintro e w9 ⟨rfl,hb⟩;refine ⟨_,rfl,?_⟩;replace HG:=zA (twoR_below HG.out hb);clear hb))
                     go_roundg k3
                     case measure=>have:=HK3.out;omega
                     case rel=>exact ⟨R2,wrap64 (i + 1),rfl,HN3,⟨by have:=HK3.out;omega⟩,HG⟩
                    | true =>
                     rw [if_pos rfl] at H
                     obtain ⟨z,H1,H⟩:=zb H
                     obtain ⟨R5,H6,H⟩:=zb H
                     have HN3:=zA H
                     clear H
                     go_wp2_with (first | (refine zO (some 111) Tryz.func20 #[.slice A0_1 l0_1.length c0_1,.int .i64 (rd st j),.int .i64 (rd st i)] ?_;(with_reducible refine (impl_ties_follows.calls k3 _ _ l0_1 (rd st j) (rd st i) _ _ ?side1 ?side2 ?side3 H5.out).mono ?_);(case side1=>exact kO HDL.out (oneR_tail HG.out.1));(case side2=>exact HC.out);(case side3=>exact TabW.below HTB.out (oneR_tail HG.out.1));rintro e w9 ⟨rfl,hb⟩;refine ⟨_,rfl,?_⟩;replace HG:=zA (twoR_below HG.out hb);clear hb))
                     clear hcT HSC
                     go_loopg [22] k3 (fun gg v22 wr=>∃ (R2:Int → List Int) (q:Int),v22 = .int .i64 q ∧ Aside0 (impl_CountByHeight.l5 gg a1 R1 (rd st j) (rd st i) z R2 q = some R5) ∧ Aside0 (gg ≤ k3) ∧ Aside0 (TwoR w w8.heap.size Nn bo b1 G1 st R1 b2 b2 G2 st v17 st0 wr R2 oc))
                     case atStart=>exact ⟨_,0,rfl,H6,⟨Nat.le_refl _⟩,HG⟩
                     case round =>
                      clear H6 HG
                      obtain ⟨R2,q,rfl,HA,HK4,HG⟩:=hrel
                      cases gk with
                      | zero=>exact absurd HA.out (by simp [impl_CountByHeight.l5])
                      | succ k4 =>
                       have H:=HA.out
                       clear HA
                       simp only [impl_CountByHeight.l5] at H
                       by_cases q12:wrap64 (q + z) ≤ a1
                       ·rw [if_pos q12] at H
                        have q12b:decide (wrap64 (q + z) ≤ a1) = true:=decide_eq_true q12
                        by_cases q13:0 ≤ q ∧ q ≤ a1 ∧ 0 ≤ wrap64 (q + z)
                        ·rw [if_pos q13] at H
                         have HN4:=zA H
                         clear H
                         have HQ0:=zA q13.1
                         have HQN:=zA (show q < (Nn:Int) by have:=HNe.out;omega)
                         have HS0:=zA q13.2.2
                         have HSN:=zA (show wrap64 (q + z) < (Nn:Int) by have:=HNe.out;omega)
                         have p12:=eq_true HQ0.out
                         have p13:=eq_true HQN.out
                         have p14:=eq_true HS0.out
                         have p15:=eq_true HSN.out
                         clear q13
                         go_wp2_with (first | (refine zO (some 115) Tryz.func19 #[.int .i64 (rd st i)] ?_;(with_reducible refine (impl_size.calls (rd st i) z _ H1.out).mono ?_);rintro e w10 ⟨rfl,hd⟩;refine ⟨_,rfl,?_⟩;replace HG:=zA (twoR_drawn HG.out hd);clear hd))
                         replace HG:=zA (twoR_below HG.out (zD (kW w10.heap.size w10)))
                         refine start_ (n:=18) (S:=fun w' => MapG Tryz.prog 2 Nn w' b1 st.length (fun a=>decide (a ∈ st)) (fun a=>if a ∈ st then (G1 a:Int) else -1) ∧ MapG Tryz.prog 2 Nn w' b2 st.length (fun a=>decide (a ∈ st)) (fun a=>if a ∈ st then (G2 a:Int) else -1) ∧ w'.cell? ⟨G2 (rd st i),(wrap64 (q + z)).toNat,none⟩ = some (.int .i64 (rd (R2 (rd st i)) (wrap64 (q + z)))) ∧ w'.cell? ⟨G1 (rd st j),q.toNat,none⟩ = some (.int .i64 (rd (R1 (rd st j)) q))) (ds:=[17]) #[false,false,false,false,false,false,false,false,false,false,false,false,false,false,false,false,false,false] (by kernel_rfl) rfl rfl ⟨HG.out.1.1.1,HG.out.2.1.1.1,rowAt_cell (grI_row HG.out.2.1.1 HMI.out) HS0.out HSN.out,rowAt_cell (grI_row HG.out.1.1 HMS.out) HQ0.out HQN.out⟩ (fun hHeld=>?_)
                         generalize w10.drew = wy at HG hHeld ⊢
                         refine pure_ (i:=0) (N:=some 121) (v:=?_) (a' := ?_) #[true,false,false,false,false,false,false,false,false,false,false,false,false,false,false,false,false,false] rfl rfl (by kernel_rfl) (fun _ _ _ h=>h) (Or.inl ⟨by rfl,?_⟩) ?_ ?_
                         rotate_left
                         ·intro w'
                          go_simp
                          with_reducible rfl
                         rotate_left
                         ·simp only [Act.put,zL,zM,zN,i64_w,i32_w]
                          rfl
                         refine pure_ (i:=1) (N:=some 122) (v:=?_) (a' := ?_) #[true,true,false,false,false,false,false,false,false,false,false,false,false,false,false,false,false,false] rfl rfl (by kernel_rfl) (fun _ _ _ h=>h) (Or.inl ⟨by rfl,?_⟩) ?_ ?_
                         rotate_left
                         ·intro w'
                          go_simp
                          with_reducible rfl
                         rotate_left
                         ·simp only [Act.put,zL,zM,zN,i64_w,i32_w]
                          rfl
                         refine take_ (i:=2) (N:=some 123) (v:=.slice (some ⟨G2 (rd st i),0,none⟩) Nn Nn) (a' := ?_) #[true,true,true,false,false,false,false,false,false,false,false,false,false,false,false,false,false,false] rfl rfl (by kernel_rfl) (fun _ _ _ h=>h) (Or.inl ⟨by rfl,?_⟩) hHeld ?_ ?_
                         ·rintro w' ⟨s0,s1,s2,s3⟩
                          have hr_:=mapG_look law Tryz.underlying47 zero_sliceH s1 (rd st i) (G2 (rd st i)) HKI.out (if_pos HMI.out) (Go.Maps.keyOf_int_mk Tryz.underlying2 HKI.out)
                          go_simp
                         rotate_left
                         ·simp only [Act.put,zL,zM,zN,i64_w,i32_w]
                          rfl
                         refine pure_ (i:=3) (N:=some 124) (v:=?_) (a' := ?_) #[true,true,true,true,false,false,false,false,false,false,false,false,false,false,false,false,false,false] rfl rfl (by kernel_rfl) (fun _ _ _ h=>h) (Or.inl ⟨by rfl,?_⟩) ?_ ?_
                         rotate_left
                         ·intro w'
                          go_simp
                          with_reducible rfl
                         rotate_left
                         ·simp only [Act.put,zL,zM,zN,i64_w,i32_w]
                          rfl
                         refine pure_ (i:=4) (N:=some 125) (v:=?_) (a' := ?_) #[true,true,true,true,true,false,false,false,false,false,false,false,false,false,false,false,false,false] rfl rfl (by kernel_rfl) (fun _ _ _ h=>h) (Or.inl ⟨by rfl,?_⟩) ?_ ?_
                         rotate_left
                         ·intro w'
                          go_simp
                          with_reducible rfl
                         rotate_left
                         ·simp only [Act.put,zL,zM,zN,i64_w,i32_w]
                          rfl
                         refine pure_ (i:=9) (N:=some 130) (v:=?_) (a' := ?_) #[true,true,true,true,true,false,false,false,false,true,false,false,false,false,false,false,false,false] rfl rfl (by kernel_rfl) (fun _ _ _ h=>h) (Or.inl ⟨by rfl,?_⟩) ?_ ?_
                         rotate_left
                         ·intro w'
                          go_simp
                          with_reducible rfl
                         rotate_left
                         ·simp only [Act.put,zL,zM,zN,i64_w,i32_w]
                          rfl
                         refine pure_ (i:=10) (N:=some 131) (v:=?_) (a' := ?_) #[true,true,true,true,true,false,false,false,false,true,true,false,false,false,false,false,false,false] rfl rfl (by kernel_rfl) (fun _ _ _ h=>h) (Or.inl ⟨by rfl,?_⟩) ?_ ?_
                         rotate_left
                         ·intro w'
                          go_simp
                          with_reducible rfl
                         rotate_left
                         ·simp only [Act.put,zL,zM,zN,i64_w,i32_w]
                          rfl
                         refine take_ (i:=11) (N:=some 132) (v:=.slice (some ⟨G1 (rd st j),0,none⟩) Nn Nn) (a' := ?_) #[true,true,true,true,true,false,false,false,false,true,true,true,false,false,false,false,false,false] rfl rfl (by kernel_rfl) (fun _ _ _ h=>h) (Or.inl ⟨by rfl,?_⟩) hHeld ?_ ?_
                         ·rintro w' ⟨s0,s1,s2,s3⟩
                          have hr_:=mapG_look law Tryz.underlying47 zero_sliceH s0 (rd st j) (G1 (rd st j)) HKW.out (if_pos HMS.out) (Go.Maps.keyOf_int_mk Tryz.underlying2 HKW.out)
                          go_simp
                         rotate_left
                         ·simp only [Act.put,zL,zM,zN,i64_w,i32_w]
                          rfl
                         refine pure_ (i:=12) (N:=some 133) (v:=?_) (a' := ?_) #[true,true,true,true,true,false,false,false,false,true,true,true,true,false,false,false,false,false] rfl rfl (by kernel_rfl) (fun _ _ _ h=>h) (Or.inl ⟨by rfl,?_⟩) ?_ ?_
                         rotate_left
                         ·intro w'
                          go_simp
                          with_reducible rfl
                         rotate_left
                         ·simp only [Act.put,zL,zM,zN,i64_w,i32_w]
                          rfl
                         refine pure_ (i:=13) (N:=some 134) (v:=?_) (a' := ?_) #[true,true,true,true,true,false,false,false,false,true,true,true,true,true,false,false,false,false] rfl rfl (by kernel_rfl) (fun _ _ _ h=>h) (Or.inl ⟨by rfl,?_⟩) ?_ ?_
                         rotate_left
                         ·intro w'
                          go_simp
                          with_reducible rfl
                         rotate_left
                         ·simp only [Act.put,zL,zM,zN,i64_w,i32_w]
                          rfl
                         refine take_ (i:=14) (N:=some 135) (v:=?_) (a' := ?_) #[true,true,true,true,true,false,false,false,false,true,true,true,true,true,true,false,false,false] rfl rfl (by kernel_rfl) (fun _ _ _ h=>h) (Or.inl ⟨by rfl,?_⟩) hHeld ?_ ?_
                         rotate_left
                         ·rintro w' ⟨s0,s1,s2,s3⟩
                          go_simp
                          with_reducible rfl
                         rotate_left
                         ·simp only [Act.put,zL,zM,zN,i64_w,i32_w]
                          rfl
                         refine one_ (i:=5) (N:=some 126) #[true,true,true,true,true,true,false,false,false,true,true,true,true,true,true,false,false,false] rfl rfl (by kernel_rfl) (by decide) (fun K hK=>?_)
                         refine goes_ Tryz.func19 (by kernel_rfl) rfl #[.int .i64 (rd st i)] (by rfl) rfl rfl (by simp only [List.map_toArray,List.map_cons,List.map_nil];rfl) ?_
                         with_reducible refine (impl_size.calls (rd st i) z _ H1.out).mono ?_
                         rintro e wz ⟨rfl,hd⟩
                         refine ⟨_,rfl,?_⟩
                         replace HG:=zA (twoR_drawn HG.out hd)
                         refine hK.out _ _ ⟨HG.out.1.1.1,HG.out.2.1.1.1,rowAt_cell (grI_row HG.out.2.1.1 HMI.out) HS0.out HSN.out,rowAt_cell (grI_row HG.out.1.1 HMS.out) HQ0.out HQN.out⟩ (fun hHeld=>?_)
                         clear hK K hd
                         refine norm_ (a' := ?_) ?_ ?_
                         rotate_left
                         ·show Act.put _ (some 126) _ = _
                          simp only [Act.put,zL,zM,zN,i64_w,i32_w]
                          rfl
                         refine pure_ (i:=6) (N:=some 127) (v:=?_) (a' := ?_) #[true,true,true,true,true,true,true,false,false,true,true,true,true,true,true,false,false,false] rfl rfl (by kernel_rfl) (fun _ _ _ h=>h) (Or.inl ⟨by rfl,?_⟩) ?_ ?_
                         rotate_left
                         ·intro w'
                          go_simp
                          with_reducible rfl
                         rotate_left
                         ·simp only [Act.put,zL,zM,zN,i64_w,i32_w]
                          rfl
                         refine pure_ (i:=7) (N:=some 128) (v:=?_) (a' := ?_) #[true,true,true,true,true,true,true,true,false,true,true,true,true,true,true,false,false,false] rfl rfl (by kernel_rfl) (fun _ _ _ h=>h) (Or.inl ⟨by rfl,?_⟩) ?_ ?_
                         rotate_left
                         ·intro w'
                          go_simp
                          with_reducible rfl
                         rotate_left
                         ·simp only [Act.put,zL,zM,zN,i64_w,i32_w]
                          rfl
                         refine take_ (i:=8) (N:=some 129) (v:=?_) (a' := ?_) #[true,true,true,true,true,true,true,true,true,true,true,true,true,true,true,false,false,false] rfl rfl (by kernel_rfl) (fun _ _ _ h=>h) (Or.inl ⟨by rfl,?_⟩) hHeld ?_ ?_
                         rotate_left
                         ·rintro w' ⟨s0,s1,s2,s3⟩
                          go_simp
                          with_reducible rfl
                         rotate_left
                         ·simp only [Act.put,zL,zM,zN,i64_w,i32_w]
                          rfl
                         refine pure_ (i:=15) (N:=some 136) (v:=?_) (a' := ?_) #[true,true,true,true,true,true,true,true,true,true,true,true,true,true,true,true,false,false] rfl rfl (by kernel_rfl) (fun _ _ _ h=>h) (Or.inl ⟨by rfl,?_⟩) ?_ ?_
                         rotate_left
                         ·intro w'
                          go_simp
                          with_reducible rfl
                         rotate_left
                         ·simp only [Act.put,zL,zM,zN,i64_w,i32_w]
                          rfl
                         refine pure_ (i:=16) (N:=some 137) (v:=?_) (a' := ?_) #[true,true,true,true,true,true,true,true,true,true,true,true,true,true,true,true,true,false] rfl rfl (by kernel_rfl) (fun _ _ _ h=>h) (Or.inl ⟨by rfl,?_⟩) ?_ ?_
                         rotate_left
                         ·intro w'
                          go_simp
                          with_reducible rfl
                         rotate_left
                         ·simp only [Act.put,zL,zM,zN,i64_w,i32_w]
                          rfl
                         have hcO:=rowAt_cell (grI_row HG.out.2.1.1 HMI.out) HS0.out HSN.out
                         have hfO:=rowAt_frozen (grI_row HG.out.2.1.1 HMI.out) (wrap64 (q + z)).toNat
                         refine last_ (i:=17) (N:=none) #[true,true,true,true,true,true,true,true,true,true,true,true,true,true,true,true,true,true] rfl rfl (by kernel_rfl) (by decide) (fun K hK=>?_)
                         refine skip_ (w1:=wz.setCell ⟨G2 (rd st i),(wrap64 (q + z)).toNat,none⟩ (.int .i64 (wrap64 (rd (R2 (rd st i)) (wrap64 (q + z)) + rd (R1 (rd st j)) q)))) (by rfl) rfl (by first | (go_simp;done) | (go_simp;rfl)) ?_
                         refine hK.out _ _ ?_
                         clear hK K hcO hfO hHeld
                         refine done_ (by kernel_rfl) ?_
                         replace HG:=zA (twoR_set HG.out HMI.out HS0.out HSN.out (wrap64 (rd (R2 (rd st i)) (wrap64 (q + z)) + rd (R1 (rd st j)) q)))
                         generalize wz.setCell ⟨G2 (rd st i),(wrap64 (q + z)).toNat,none⟩ (.int .i64 (wrap64 (rd (R2 (rd st i)) (wrap64 (q + z)) + rd (R1 (rd st j)) q))) = wx at HG ⊢
                         go_wp2
                         go_roundg k4
                         case measure=>have:=HK4.out;omega
                         case rel=>exact ⟨_,wrap64 (q + 1),rfl,HN4,⟨by have:=HK4.out;omega⟩,HG⟩
                        rw [if_neg q13] at H
                        cases H
                       rw [if_neg q12] at H
                       have q12b:decide (wrap64 (q + z) ≤ a1) = false:=decide_eq_false q12
                       obtain rfl:=Option.some.inj H
                       clear H
                       go_wp2_with (first | (refine zO (some 115) Tryz.func19 #[.int .i64 (rd st i)] ?_;(with_reducible refine (impl_size.calls (rd st i) z _ H1.out).mono ?_);rintro e w10 ⟨rfl,hd⟩;refine ⟨_,rfl,?_⟩;replace HG:=zA (twoR_drawn HG.out hd);clear hd))
                       go_roundg k3
                       case measure=>have:=HK3.out;omega
                       case rel=>exact ⟨_,wrap64 (i + 1),rfl,HN3,⟨by have:=HK3.out;omega⟩,HG⟩
                   rw [if_neg q11] at H
                   cases H
                  rw [if_neg q10] at H
                  have q10b:decide (i < (st.length:Int)) = false:=decide_eq_false q10
                  obtain rfl:=Option.some.inj H
                  clear H
                  go_wp2
                  go_roundg k2
                  case measure=>have:=HK2.out;omega
                  case rel=>exact ⟨_,wrap64 (j + 1),rfl,HN2,⟨by have:=HK2.out;omega⟩,HG⟩
               rw [if_neg q9] at H
               cases H
              rw [if_neg q8] at H
              have q8b:decide (j < (st.length:Int)) = false:=decide_eq_false q8
              obtain rfl:=Option.some.inj H
              clear H
              go_wp2
              go_roundg k1
              case measure=>have:=HK.out;omega
              case rel=>exact ⟨_,_,wrap64 (hh + 1),_,_,rfl,rfl,HN,⟨by have:=HK.out;omega⟩,⟨HG.out.2.1⟩⟩
         rw [if_neg q6] at H
         cases H
        rw [if_neg q5] at H
        have q5b:decide (hh ≤ a1) = false:=decide_eq_false q5
        obtain rfl:=Option.some.inj H
        go_wp2
        go_ret2
        subst hro
        exact ⟨_,zr,rowAt_R HG.out.2.1 HNl.out HBO.out trivial,oneR_tail HG.out⟩
  rw [if_neg q1] at H
  cases H
 rw [if_neg c4] at H
 have c4b:decide (cd = 0) = false:=decide_eq_false c4
 have c4c:decide (cd ≠ 0) = true:=decide_eq_true c4
 simp only [Option.some.injEq,Prod.mk.injEq] at H
 obtain ⟨rfl,rfl⟩:=H
 go_enter Tryz.func6,Tryz.ntmps6
 go_wp2_with (first | (refine zBE 2 #[.int .i64 a0_0,.slice A0_1 l0_1.length c0_1] 26 ?_;intro gb hg w12 hbox hb;have BK:=zA hbox;have GE:=zA (zBH hg HB.out);replace HB:=zA (kQ (zQ HB.out) hb);clear hb hbox hg;obtain ⟨hcz0,hcz1,hfz0,hfz1⟩:=zB3 BK.out) | (refine zO (some 26) Tryz.func16 #[.agg #[.int .i64 a0_0,.slice A0_1 l0_1.length c0_1],.int .i64 a1] ?_;(with_reducible refine (impl_checkCount.calls k a0_0 _ _ l0_1 _ _ _ _ ?side1 ?side2 ?side3 A4.out).mono ?_);(case side1=>exact zS (kO HR.out (zT HB.out GE.out)));(case side2=>exact HC.out);(case side3=>exact TabW.below HT.out (zT HB.out GE.out));rintro e w18 ⟨rfl,hb⟩;refine ⟨_,rfl,?_⟩;replace BK:=zA (zB1 BK.out hb);replace HB:=zA (kQ (zT HB.out GE.out) hb);(try clear hb);obtain ⟨hcv0,hcv1,hfv0,hfv1⟩:=zB3 BK.out))
 go_ret2
 exact ⟨_,zr,jO _ _ _ _ _,zT HB.out GE.out⟩
def spec_l01In.f (a0:Int) (a1:Int) (a2:Int):Option (Bool):=if a0 ≥ a1 then (some (decide (a0 ≤ a2))) else (some false)
set_option maxHeartbeats 8000000 in
set_option maxRecDepth 100000 in
theorem spec_l01In.calls (a0 : Int) (a1 : Int) (a2 : Int) (r : Bool) (w : World) (h : spec_l01In.f a0 a1 a2 = some r) :
  Calls Tryz.prog 69 #[.int .i64 a0,.int .i64 a1,.int .i64 a2] w fun e w' => e = .returned (.bool r) ∧ Drawn0 w w' := by
 have H:=h
 unfold spec_l01In.f at H
 clear h
 by_cases c4:a0 ≥ a1
 ·rw [if_pos c4] at H
  have c4b0:decide (a1 ≤ a0) = true:=decide_eq_true c4
  clear c4
  obtain rfl:=Option.some.inj H
  go_enter Tryz.func69,Tryz.ntmps69
  go_wp2
  go_ret
  exact ⟨zs,by repeat (first | exact Drawn0.refl _ | apply Drawn0.step)⟩
 rw [if_neg c4] at H
 have c4b0:decide (a1 ≤ a0) = false:=decide_eq_false c4
 clear c4
 obtain rfl:=Option.some.inj H
 go_enter Tryz.func69,Tryz.ntmps69
 go_wp2
 go_ret
 exact ⟨zs,by repeat (first | exact Drawn0.refl _ | apply Drawn0.step)⟩
def spec_l01Bit.f (a0:Int) (a1:Int):Option (Bool):=if 0 ≤ (IntKind.u64.wrap (a1)) then (some ((Go.bits .and .i64 (shr .i64 a0 (IntKind.u64.wrap (a1))) 1) == 1)) else (none)
set_option maxHeartbeats 8000000 in
set_option maxRecDepth 100000 in
theorem spec_l01Bit.calls (a0 : Int) (a1 : Int) (r : Bool) (w : World) (h : spec_l01Bit.f a0 a1 = some r) :
  Calls Tryz.prog 70 #[.int .i64 a0,.int .i64 a1] w fun e w' => e = .returned (.bool r) ∧ Drawn0 w w' := by
 have H:=h
 unfold spec_l01Bit.f at H
 clear h
 obtain ⟨ji3,hji3⟩:∃ j_:Int,(IntKind.u64.wrap (a1)) = j_:=⟨_,rfl⟩
 replace H:(if 0 ≤ (ji3) then (some ((Go.bits .and .i64 (shr .i64 a0 (ji3)) 1) == 1)) else (none)) = some r:=by first | (rw [hji3] at H;exact H) | (simp only [hji3] at H ⊢;exact H)
 by_cases c4:0 ≤ (ji3)
 ·rw [if_pos c4] at H
  have c4b0:=eq_true c4
  have c4b1:decide (0 ≤ (ji3)) = true:=decide_eq_true c4
  clear c4
  obtain ⟨ji5,hji5⟩:∃ j_:Int,(shr .i64 a0 (ji3)) = j_:=⟨_,rfl⟩
  replace H:(some ((Go.bits .and .i64 (ji5) 1) == 1)) = some r:=by first | (rw [hji5] at H;exact H) | (simp only [hji5] at H ⊢;exact H)
  have hji5_:(a0 / 2 ^ min (ji3).toNat 64) = ji5:=hji5
  have hji5z:(ji3) ≤ 64 → (a0 / 2 ^ (ji3).toNat) = ji5:=shr_small hji5
  obtain rfl:=Option.some.inj H
  go_enter Tryz.func70,Tryz.ntmps70
  go_wp2
  go_ret
  exact ⟨by first | rfl | (simp;done) | (simp only [← hji3,← hji5] <;> (first | rfl | simp)) | (simp [*];done),by repeat (first | exact Drawn0.refl _ | apply Drawn0.step)⟩
 rw [if_neg c4] at H
 exact absurd H (by simp)
def spec_l01Full.f (a0:Int):Option (Int):=(spec_l01One.f a0).bind fun t455=>(some (wrap64 (t455 - 1)))
set_option maxHeartbeats 8000000 in
set_option maxRecDepth 100000 in
theorem spec_l01Full.calls (a0 : Int) (r : Int) (w : World) (h : spec_l01Full.f a0 = some r) :
  Calls Tryz.prog 72 #[.int .i64 a0] w fun e w' => e = .returned (.int .i64 r) ∧ Drawn0 w w' := by
 have H:=h
 unfold spec_l01Full.f at H
 clear h
 obtain ⟨t455,A2,H⟩:=zb H
 try dsimp only at H
 obtain rfl:=Option.some.inj H
 go_enter Tryz.func72,Tryz.ntmps72
 go_wp2_with (first | (refine zO (some 4) Tryz.func61 #[.int .i64 a0] ?_;(with_reducible refine (spec_l01One.calls a0 t455 _ A2.out).mono ?_);rintro e w' ⟨rfl,⟨nd,rfl⟩⟩;refine ⟨_,rfl,?_⟩))
 go_ret
 exact ⟨zs,by repeat (first | exact Drawn0.refl _ | apply Drawn0.step)⟩
def spec_l01Masks.l0:Nat → Int → List Int → Int → Option (Bool)
 | 0,_,_,_=>none
 | k + 1,x0,x1,x5=>if x5 < (x1.length:Int) then (if 0 ≤ x5 then ((spec_l01Full.f x0).bind fun t457=>((spec_l01In.f (rd x1 x5) 0 t457).bind fun t458=>(if t458 = true then (spec_l01Masks.l0 k x0 x1 (wrap64 (x5 + 1))) else (some false)))) else (none)) else (some true)
def spec_l01Masks.f (k:Nat) (a0:Int) (l1:List Int):Option (Bool):=spec_l01Masks.l0 k a0 l1 0
set_option maxHeartbeats 8000000 in
set_option maxRecDepth 100000 in
theorem spec_l01Masks.calls (k : Nat) (a0 : Int) (A1 : Option Addr) (c1 : Nat) (l1 : List Int) (r : Bool) (w : World) (hr1 : Kd.C (Kd.int .i64) w A1 l1.length l1) (hc1 : l1.length ≤ c1) (h : spec_l01Masks.f k a0 l1 = some r) :
  Calls Tryz.prog 81 #[.int .i64 a0,.slice A1 l1.length c1] w fun e w' => e = .returned (.bool r) ∧ Drawn0 w w' := by
 have HR1:=zA hr1
 have HC1:=zA hc1
 clear hr1 hc1
 have H:=h
 unfold spec_l01Masks.f at H
 clear h
 have H' := zA H
 clear H
 go_enter Tryz.func81,Tryz.ntmps81
 go_wp2
 repeat (go_quiet (fail);try go_wp2)
 go_loopg [5] k (fun kq v5 w' => ∃ (x5_1:Int),v5 = .int .i64 x5_1 ∧ Aside0 (spec_l01Masks.l0 kq a0 l1 x5_1 = some r) ∧ Aside0 (kq ≤ k) ∧ Drawn0 w w')
 case atStart=>exact ⟨(0),zs,H', ⟨Nat.le_refl _⟩,by repeat (first | exact Drawn0.refl _ | apply Drawn0.step)⟩
 case round =>
  clear H'
  try clear c1
  obtain ⟨x5_1,rfl,HA,HK1,⟨m1,rfl⟩⟩:=hrel
  cases gk with
  | zero=>exact absurd HA.out (by simp [spec_l01Masks.l0])
  | succ k1 =>
   have H:=HA.out
   clear HA
   simp only [spec_l01Masks.l0] at H
   by_cases c3:x5_1 < (l1.length:Int)
   ·rw [if_pos c3] at H
    have c3b0:decide (x5_1 < (l1.length:Int)) = true:=decide_eq_true c3
    clear c3
    by_cases c4:0 ≤ x5_1
    ·rw [if_pos c4] at H
     have c4b0:decide (0 ≤ x5_1) = true:=decide_eq_true c4
     clear c4
     obtain ⟨t457,A5,H⟩:=zb H
     try dsimp only at H
     obtain ⟨t458,A6,H⟩:=zb H
     try dsimp only at H
     by_cases c7:t458 = true
     ·subst c7
      rw [if_pos rfl] at H
      have H' := zA H
      clear H
      have p456:0 ≤ (x5_1:Int):=zd
      have q456:x5_1 < (l1.length:Int):=zd
      obtain ⟨ad456,e456,hx456_0⟩:=Kd.at_int HR1.out x5_1 p456 q456
      cases e456
      replace p456:=eq_true p456
      replace q456:=eq_true q456
      go_wp2_with (first | (go_at_call 72;(with_reducible refine (spec_l01Full.calls a0 t457 _ A5.out).mono ?_);rintro e w' ⟨rfl,⟨nd,rfl⟩⟩;(try exact zw)) | (go_at_call 69;(with_reducible refine (spec_l01In.calls (rd l1 x5_1) 0 t457 true _ A6.out).mono ?_);rintro e w' ⟨rfl,⟨nd,rfl⟩⟩;(try exact zw)))
      repeat (go_quiet (first | (go_at_call 72;(with_reducible refine (spec_l01Full.calls a0 t457 _ A5.out).mono ?_);rintro e w' ⟨rfl,⟨nd,rfl⟩⟩;(try exact zw)) | (go_at_call 69;(with_reducible refine (spec_l01In.calls (rd l1 x5_1) 0 t457 true _ A6.out).mono ?_);rintro e w' ⟨rfl,⟨nd,rfl⟩⟩;(try exact zw)));try go_wp2_with (first | (go_at_call 72;(with_reducible refine (spec_l01Full.calls a0 t457 _ A5.out).mono ?_);rintro e w' ⟨rfl,⟨nd,rfl⟩⟩;(try exact zw)) | (go_at_call 69;(with_reducible refine (spec_l01In.calls (rd l1 x5_1) 0 t457 true _ A6.out).mono ?_);rintro e w' ⟨rfl,⟨nd,rfl⟩⟩;(try exact zw))))
      go_roundg k1
      case measure=>have:=HK1.out;omega
      case rel=>exact ⟨(wrap64 (x5_1 + 1)),zs,H', ⟨by have:=HK1.out;omega⟩,by repeat (first | exact Drawn0.refl _ | apply Drawn0.step)⟩
     replace c7:=Bool.eq_false_iff.mpr c7
     subst c7
     rw [if_neg (show ¬ (false = true) by decide)] at H
     obtain rfl:=Option.some.inj H
     have p456:0 ≤ (x5_1:Int):=zd
     have q456:x5_1 < (l1.length:Int):=zd
     obtain ⟨ad456,e456,hx456_0⟩:=Kd.at_int HR1.out x5_1 p456 q456
     cases e456
     replace p456:=eq_true p456
     replace q456:=eq_true q456
     go_wp2_with (first | (go_at_call 72;(with_reducible refine (spec_l01Full.calls a0 t457 _ A5.out).mono ?_);rintro e w' ⟨rfl,⟨nd,rfl⟩⟩;(try exact zw)) | (go_at_call 69;(with_reducible refine (spec_l01In.calls (rd l1 x5_1) 0 t457 false _ A6.out).mono ?_);rintro e w' ⟨rfl,⟨nd,rfl⟩⟩;(try exact zw)))
     repeat (go_quiet (first | (go_at_call 72;(with_reducible refine (spec_l01Full.calls a0 t457 _ A5.out).mono ?_);rintro e w' ⟨rfl,⟨nd,rfl⟩⟩;(try exact zw)) | (go_at_call 69;(with_reducible refine (spec_l01In.calls (rd l1 x5_1) 0 t457 false _ A6.out).mono ?_);rintro e w' ⟨rfl,⟨nd,rfl⟩⟩;(try exact zw)));try go_wp2_with (first | (go_at_call 72;(with_reducible refine (spec_l01Full.calls a0 t457 _ A5.out).mono ?_);rintro e w' ⟨rfl,⟨nd,rfl⟩⟩;(try exact zw)) | (go_at_call 69;(with_reducible refine (spec_l01In.calls (rd l1 x5_1) 0 t457 false _ A6.out).mono ?_);rintro e w' ⟨rfl,⟨nd,rfl⟩⟩;(try exact zw))))
     go_ret
     exact ⟨zs,by repeat (first | exact Drawn0.refl _ | apply Drawn0.step)⟩
    rw [if_neg c4] at H
    exact absurd H (by simp)
   rw [if_neg c3] at H
   have c3b0:decide (x5_1 < (l1.length:Int)) = false:=decide_eq_false c3
   clear c3
   obtain rfl:=Option.some.inj H
   go_wp2
   repeat (go_quiet (fail);try go_wp2)
   go_ret
   exact ⟨zs,by repeat (first | exact Drawn0.refl _ | apply Drawn0.step)⟩
end Go.Proofs.YtemdfjdmokbcoaaGreatDoor.PAll
