import Derived.Test.YtpenijicdldipaaDoorPAllx0
import Derived.Test.YtpenijicdldipaaDoorPAllx2
namespace Go.Proofs.YtpenijicdldipaaDoor.PAll
open Go.RowKit Go.Proofs.YtpenijicdldipaaDoor.T Go.Proofs.YtpenijicdldipaaDoorW.PrintWords Go.Proofs.YtpenijicdldipaaDoorW.PrintLast Go.Proofs.YtpenijicdldipaaDoorW.PrintMore
attribute [local go_sem] max2_int min2_int max_two min_two max_three min_three max_four min_four   -- for this text's walks alone
set_option linter.unusedVariables false
set_option linter.unusedSimpArgs false
mutual
def impl_IsAlphabet.j0:Nat → Bool → Int → List Int → Option (Bool)
 | 0,_,_,_=>none
 | k + 1,x22,x247000,x247001=>if x22 = true then (some false) else ((impl_converse.f k x247001).bind fun t250=>(impl_IsAlphabet.l0 k t250 (t250.length:Int) 0 x247000 x247001))
def impl_IsAlphabet.l0:Nat → List Int → Int → Int → Int → List Int → Option (Bool)
 | 0,_,_,_,_,_=>none
 | k + 1,x25,x26,x27,x247000,x247001=>if x27 < x26 then (if 0 ≤ x27 then (if x27 < (x25.length:Int) then (if x27 < (x247001.length:Int) then (if (rd x25 x27) = (rd x247001 x27) then ((impl_has.f (rd x25 x27) x27).bind fun t255=>(if t255 = true then (impl_IsAlphabet.l0 k x25 x26 (wrap64 (x27 + 1)) x247000 x247001) else (some false))) else (some false)) else (none)) else (none)) else (none)) else (some true)
end
def impl_IsAlphabet.f (k:Nat) (a0_0:Int) (l0_1:List Int):Option (Bool):=(impl_inRange.f a0_0 0 8).bind fun t247=>(if t247 = true then ((impl_length_int64.f l0_1).bind fun t248=>(if t248 = a0_0 then ((impl_IsRelation.f l0_1).bind fun t249=>(impl_IsAlphabet.j0 k (!t249) a0_0 l0_1)) else (impl_IsAlphabet.j0 k true a0_0 l0_1))) else (impl_IsAlphabet.j0 k true a0_0 l0_1))
def impl_IsAlphabet.T1:Bool × List (List Nat × List Nat):=(true,[([],[]),([0],[0]),([1],[1]),([2],[2]),([3,2],[3]),([4],[4]),([5,4],[4,5]),([6,4,4],[4,6]),([4],[4]),([8,4],[4,8]),([7,9,4],[4,7,9]),([4,10],[4,10]),([11,7],[11]),([12],[12]),([13,12],[12,13]),([14,12,12],[12,14]),([15,12],[12,15]),([12,16],[12,16])])
def impl_IsAlphabet.B1:List Nat:=[0,1,3,7,15,31,63,127,31,287,1023,2047,4095,8191,16383,32767,65535,131071]
theorem impl_IsAlphabet.tab1:rtab .any (opsOf Tryd.f48 1) = impl_IsAlphabet.T1:=by kernel_rfl
theorem impl_IsAlphabet.bits1:waitsOk impl_IsAlphabet.T1.2 impl_IsAlphabet.B1 = true:=by kernel_rfl
set_option maxHeartbeats 8000000 in
set_option maxRecDepth 100000 in
theorem impl_IsAlphabet.calls (k:Nat) (a0_0:Int) (A0_1:Option Addr) (c0_1:Nat) (l0_1:List Int) (r:Bool) (w:World) (hr0_1:Kd.C (Kd.int .i64) w A0_1 l0_1.length l0_1) (hc0_1:l0_1.length ≤ c0_1) (hT:TabW w) (h:impl_IsAlphabet.f k a0_0 l0_1 = some r) :
  Calls Tryd.prog 48 #[.agg #[.int .i64 a0_0,.slice A0_1 l0_1.length c0_1]] w fun e w' => e = .returned (.bool r) ∧ Below w.heap.size w w' := by
 have hu28:=Tryd.underlying28
 have HT:=zA hT
 clear hT
 have HR0_1:=zA hr0_1
 have HC0_1:=zA hc0_1
 clear hr0_1 hc0_1
 have HB:=zA (kW w.heap.size w)
 have H:=h
 unfold impl_IsAlphabet.f at H
 clear h
 have HC2:=zA H
 clear H
 go_enter Tryd.func48,Tryd.ntmps48
 go_upto_region 1 with (first | (refine zBE 1 #[.int .i64 a0_0,.slice A0_1 l0_1.length c0_1] 28 ?_;intro gb246 hg w3 hbox hb;have BK246:=zA (hbox);have GW246:=zA (zBH hg HB.out);have GE246:=zA (zBH hg HB.out);replace HB:=zA (kQ (zQ HB.out) hb);clear hb hbox hg))
 (try simp only [Act.put,zL,zM,zN])
 go_cut [22] (fun v22 wc=>∃ (kq:Nat) (x22_1:Bool),v22 = .bool x22_1 ∧ Aside0 (impl_IsAlphabet.j0 kq x22_1 a0_0 l0_1 = some r) ∧ Aside0 (kq ≤ k) ∧ Aside0 (wc.heap[gb246]? = some (.cells #[.int .i64 a0_0,(.slice A0_1 l0_1.length c0_1)] 28 (0,0))) ∧ Aside0 (Below w.heap.size w wc))
 case first =>
  have H:=HC2.out
  clear HC2
  obtain ⟨t247,A4,H⟩:=zb H
  try dsimp only at H
  by_cases c5:t247 = true
  ·subst c5
   rw [if_pos rfl] at H
   obtain ⟨t248,A6,H⟩:=zb H
   try dsimp only at H
   by_cases c7:t248 = a0_0
   ·rw [if_pos c7] at H
    obtain ⟨c7b0,c7b1⟩:=zT1 c7
    clear c7
    (first | rw [c7b0] | (simp only [i64_w,i32_w];rw [c7b0]) | skip)
    obtain ⟨t249,A8,H⟩:=zb H
    try dsimp only at H
    have H' := zA H
    clear H
    try go_wp2
    replace BK246:=zA (zK BK246.out)
    replace HB:=zA (zD HB.out)
    refine start_ (n:=18) (S:=fun w' => w'.cell? ⟨gb246,0,none⟩ = some (.int .i64 a0_0) ∧ w'.cell? ⟨gb246,1,none⟩ = some (.slice A0_1 l0_1.length c0_1)) (ds:=[]) #[false,false,false,false,false,false,false,false,false,false,false,false,false,false,false,false,false,false] (by kernel_rfl) rfl rfl ⟨(kV BK246.out 0).trans rfl,(kV BK246.out 1).trans rfl⟩ (fun hHeld=>?_);refine with_tabW impl_IsAlphabet.tab1 impl_IsAlphabet.bits1 (fun HT_ HW_=>?_)
    generalize w3.drew = w9 at BK246 HB hHeld ⊢
    refine zp 0 (some 5) #[true,false,false,false,false,false,false,false,false,false,false,false,false,false,false,false,false,false] HT_.out ?_
    refine zc 1 (some 6) #[true,true,false,false,false,false,false,false,false,false,false,false,false,false,false,false,false,false] HT_.out HW_.out hHeld ?_
    refine one_ (i:=2) (N:=some 7) #[true,true,true,false,false,false,false,false,false,false,false,false,false,false,false,false,false,false] rfl rfl (one_of HT_.out (by kernel_rfl)) (by decide) (fun K hK=>?_)
    refine goes_ Tryd.func61 (by kernel_rfl) rfl #[.int .i64 a0_0,.int .i64 0,.int .i64 8] (by rfl) rfl rfl zg ?_
    with_reducible refine (impl_inRange.calls a0_0 0 8 true _ A4.out).mono ?_
    rintro e w' ⟨rfl,⟨nd,rfl⟩⟩
    refine ⟨_,rfl,?_⟩
    refine hK.out _ _ ⟨(kV BK246.out 0).trans rfl,(kV BK246.out 1).trans rfl⟩ (fun hHeld=>?_)
    clear hK K
    refine norm_ (a' := ?_) ?_ ?_
    rotate_left
    ·show Act.put _ (some 7) _ = _
     simp only [Act.put,zL,zM,zN,i64_w,i32_w]
     rfl
    refine zp 3 (some 8) #[true,true,true,true,false,false,false,false,false,false,false,false,false,false,false,false,false,false] HT_.out ?_
    refine zp 4 (some 9) #[true,true,true,true,true,false,false,false,false,false,false,false,false,false,false,false,false,false] HT_.out ?_
    refine zp 5 (some 10) #[true,true,true,true,true,true,false,false,false,false,false,false,false,false,false,false,false,false] HT_.out ?_
    refine zp 8 (some 13) #[true,true,true,true,true,true,false,false,true,false,false,false,false,false,false,false,false,false] HT_.out ?_
    refine zc 6 (some 11) #[true,true,true,true,true,true,true,false,true,false,false,false,false,false,false,false,false,false] HT_.out HW_.out hHeld ?_
    refine zc 9 (some 14) #[true,true,true,true,true,true,true,false,true,true,false,false,false,false,false,false,false,false] HT_.out HW_.out hHeld ?_
    refine one_ (i:=7) (N:=some 12) #[true,true,true,true,true,true,true,true,true,true,false,false,false,false,false,false,false,false] rfl rfl (one_of HT_.out (by kernel_rfl)) (by decide) (fun K hK=>?_)
    refine goes_ Tryd.func34 (by kernel_rfl) rfl #[.slice A0_1 l0_1.length c0_1] (by rfl) rfl rfl zg ?_
    with_reducible refine (impl_length_int64.calls _ _ l0_1 t248 _ ?side1 ?side2 A6.out).mono ?_
    (case side1=>exact zS (kO HR0_1.out (zT HB.out GE246.out)))
    (case side2=>exact HC0_1.out)
    rintro e w' ⟨rfl,⟨nd,rfl⟩⟩
    refine ⟨_,rfl,?_⟩
    refine hK.out _ _ ⟨(kV BK246.out 0).trans rfl,(kV BK246.out 1).trans rfl⟩ (fun hHeld=>?_)
    clear hK K
    refine norm_ (a' := ?_) ?_ ?_
    rotate_left
    ·show Act.put _ (some 12) _ = _
     simp only [Act.put,zL,zM,zN,i64_w,i32_w]
     rfl
    refine zp 10 (some 15) #[true,true,true,true,true,true,true,true,true,true,true,false,false,false,false,false,false,false] HT_.out ?_
    refine zp 11 (some 16) #[true,true,true,true,true,true,true,true,true,true,true,true,false,false,false,false,false,false] HT_.out ?_
    refine zp 12 (some 17) #[true,true,true,true,true,true,true,true,true,true,true,true,true,false,false,false,false,false] HT_.out ?_
    refine zp 13 (some 18) #[true,true,true,true,true,true,true,true,true,true,true,true,true,true,false,false,false,false] HT_.out ?_
    refine zc 14 (some 19) #[true,true,true,true,true,true,true,true,true,true,true,true,true,true,true,false,false,false] HT_.out HW_.out hHeld ?_
    refine one_ (i:=15) (N:=some 20) #[true,true,true,true,true,true,true,true,true,true,true,true,true,true,true,true,false,false] rfl rfl (one_of HT_.out (by kernel_rfl)) (by decide) (fun K hK=>?_)
    refine goes_ Tryd.func68 (by kernel_rfl) rfl #[.slice A0_1 l0_1.length c0_1] (by rfl) rfl rfl zg ?_
    with_reducible refine (impl_IsRelation.calls _ _ l0_1 t249 _ ?side1 ?side2 A8.out).mono ?_
    (case side1=>exact zS (kO HR0_1.out (zT HB.out GE246.out)))
    (case side2=>exact HC0_1.out)
    rintro e w10 ⟨rfl,hb⟩
    refine ⟨_,rfl,?_⟩
    replace BK246:=zA (zB1 BK246.out hb)
    replace HB:=zA (kQ (zT HB.out GE246.out) hb)
    (try clear hb)
    (try clear hb2)
    (try clear hk)
    (try clear hi)
    (try clear hgw)
    refine hK.out _ _ ⟨(kV BK246.out 0).trans rfl,(kV BK246.out 1).trans rfl⟩ (fun hHeld=>?_)
    clear hK K
    refine norm_ (a' := ?_) ?_ ?_
    rotate_left
    ·show Act.put _ (some 20) _ = _
     simp only [Act.put,zL,zM,zN,i64_w,i32_w]
     rfl
    refine zp 16 (some 21) #[true,true,true,true,true,true,true,true,true,true,true,true,true,true,true,true,true,false] HT_.out ?_
    refine zp 17 (some 22) #[true,true,true,true,true,true,true,true,true,true,true,true,true,true,true,true,true,true] HT_.out ?_
    refine done_ (done_of HT_.out (by kernel_rfl)) ?_
    try go_wp2
    go_meet
    case rel=>exact ⟨_,(!t249),zs,H', ⟨by first | omega | exact Nat.le_refl _⟩,⟨zR BK246.out⟩,⟨zT HB.out GE246.out⟩⟩
   rw [if_neg c7] at H
   obtain ⟨c7b0,c7b1⟩:=zT2 c7
   (first | rw [c7b0] | (simp only [i64_w,i32_w];rw [c7b0]) | skip)
   have H' := zA H
   clear H
   try go_wp2
   replace BK246:=zA (zK BK246.out)
   replace HB:=zA (zD HB.out)
   refine start_ (n:=18) (S:=fun w' => w'.cell? ⟨gb246,0,none⟩ = some (.int .i64 a0_0) ∧ w'.cell? ⟨gb246,1,none⟩ = some (.slice A0_1 l0_1.length c0_1)) (ds:=[]) #[false,false,false,false,false,false,false,false,false,false,false,false,false,false,false,false,false,false] (by kernel_rfl) rfl rfl ⟨(kV BK246.out 0).trans rfl,(kV BK246.out 1).trans rfl⟩ (fun hHeld=>?_);refine with_tabW impl_IsAlphabet.tab1 impl_IsAlphabet.bits1 (fun HT_ HW_=>?_)
   generalize w3.drew = w11 at BK246 HB hHeld ⊢
   refine zp 0 (some 5) #[true,false,false,false,false,false,false,false,false,false,false,false,false,false,false,false,false,false] HT_.out ?_
   refine zc 1 (some 6) #[true,true,false,false,false,false,false,false,false,false,false,false,false,false,false,false,false,false] HT_.out HW_.out hHeld ?_
   refine one_ (i:=2) (N:=some 7) #[true,true,true,false,false,false,false,false,false,false,false,false,false,false,false,false,false,false] rfl rfl (one_of HT_.out (by kernel_rfl)) (by decide) (fun K hK=>?_)
   refine goes_ Tryd.func61 (by kernel_rfl) rfl #[.int .i64 a0_0,.int .i64 0,.int .i64 8] (by rfl) rfl rfl zg ?_
   with_reducible refine (impl_inRange.calls a0_0 0 8 true _ A4.out).mono ?_
   rintro e w' ⟨rfl,⟨nd,rfl⟩⟩
   refine ⟨_,rfl,?_⟩
   refine hK.out _ _ ⟨(kV BK246.out 0).trans rfl,(kV BK246.out 1).trans rfl⟩ (fun hHeld=>?_)
   clear hK K
   refine norm_ (a' := ?_) ?_ ?_
   rotate_left
   ·show Act.put _ (some 7) _ = _
    simp only [Act.put,zL,zM,zN,i64_w,i32_w]
    rfl
   refine zp 3 (some 8) #[true,true,true,true,false,false,false,false,false,false,false,false,false,false,false,false,false,false] HT_.out ?_
   refine zp 4 (some 9) #[true,true,true,true,true,false,false,false,false,false,false,false,false,false,false,false,false,false] HT_.out ?_
   refine zp 5 (some 10) #[true,true,true,true,true,true,false,false,false,false,false,false,false,false,false,false,false,false] HT_.out ?_
   refine zp 8 (some 13) #[true,true,true,true,true,true,false,false,true,false,false,false,false,false,false,false,false,false] HT_.out ?_
   refine zc 6 (some 11) #[true,true,true,true,true,true,true,false,true,false,false,false,false,false,false,false,false,false] HT_.out HW_.out hHeld ?_
   refine zc 9 (some 14) #[true,true,true,true,true,true,true,false,true,true,false,false,false,false,false,false,false,false] HT_.out HW_.out hHeld ?_
   refine one_ (i:=7) (N:=some 12) #[true,true,true,true,true,true,true,true,true,true,false,false,false,false,false,false,false,false] rfl rfl (one_of HT_.out (by kernel_rfl)) (by decide) (fun K hK=>?_)
   refine goes_ Tryd.func34 (by kernel_rfl) rfl #[.slice A0_1 l0_1.length c0_1] (by rfl) rfl rfl zg ?_
   with_reducible refine (impl_length_int64.calls _ _ l0_1 t248 _ ?side1 ?side2 A6.out).mono ?_
   (case side1=>exact zS (kO HR0_1.out (zT HB.out GE246.out)))
   (case side2=>exact HC0_1.out)
   rintro e w' ⟨rfl,⟨nd,rfl⟩⟩
   refine ⟨_,rfl,?_⟩
   refine hK.out _ _ ⟨(kV BK246.out 0).trans rfl,(kV BK246.out 1).trans rfl⟩ (fun hHeld=>?_)
   clear hK K
   refine norm_ (a' := ?_) ?_ ?_
   rotate_left
   ·show Act.put _ (some 12) _ = _
    simp only [Act.put,zL,zM,zN,i64_w,i32_w]
    rfl
   refine zp 10 (some 15) #[true,true,true,true,true,true,true,true,true,true,true,false,false,false,false,false,false,false] HT_.out ?_
   refine zp 11 (some 16) #[true,true,true,true,true,true,true,true,true,true,true,true,false,false,false,false,false,false] HT_.out ?_
   refine zp 12 (some 17) #[true,true,true,true,true,true,true,true,true,true,true,true,true,false,false,false,false,false] HT_.out ?_
   refine zu 13 (some 18) #[true,true,true,true,true,true,true,true,true,true,true,true,true,true,false,false,false,false] HT_.out ?_
   refine zu 14 (some 19) #[true,true,true,true,true,true,true,true,true,true,true,true,true,true,true,false,false,false] HT_.out ?_
   refine zu 15 (some 20) #[true,true,true,true,true,true,true,true,true,true,true,true,true,true,true,true,false,false] HT_.out ?_
   refine zu 16 (some 21) #[true,true,true,true,true,true,true,true,true,true,true,true,true,true,true,true,true,false] HT_.out ?_
   refine zp 17 (some 22) #[true,true,true,true,true,true,true,true,true,true,true,true,true,true,true,true,true,true] HT_.out ?_
   refine done_ (done_of HT_.out (by kernel_rfl)) ?_
   try go_wp2
   go_meet
   case rel=>exact ⟨_,(true),zs,H', ⟨by first | omega | exact Nat.le_refl _⟩,⟨zR BK246.out⟩,⟨zT HB.out GE246.out⟩⟩
  replace c5:=Bool.eq_false_iff.mpr c5
  subst c5
  rw [if_neg (show ¬ (false = true) by decide)] at H
  have H' := zA H
  clear H
  try go_wp2
  replace BK246:=zA (zK BK246.out)
  replace HB:=zA (zD HB.out)
  refine start_ (n:=18) (S:=fun w' => w'.cell? ⟨gb246,0,none⟩ = some (.int .i64 a0_0) ∧ w'.cell? ⟨gb246,1,none⟩ = some (.slice A0_1 l0_1.length c0_1)) (ds:=[]) #[false,false,false,false,false,false,false,false,false,false,false,false,false,false,false,false,false,false] (by kernel_rfl) rfl rfl ⟨(kV BK246.out 0).trans rfl,(kV BK246.out 1).trans rfl⟩ (fun hHeld=>?_);refine with_tabW impl_IsAlphabet.tab1 impl_IsAlphabet.bits1 (fun HT_ HW_=>?_)
  generalize w3.drew = w12 at BK246 HB hHeld ⊢
  refine zp 0 (some 5) #[true,false,false,false,false,false,false,false,false,false,false,false,false,false,false,false,false,false] HT_.out ?_
  refine zc 1 (some 6) #[true,true,false,false,false,false,false,false,false,false,false,false,false,false,false,false,false,false] HT_.out HW_.out hHeld ?_
  refine one_ (i:=2) (N:=some 7) #[true,true,true,false,false,false,false,false,false,false,false,false,false,false,false,false,false,false] rfl rfl (one_of HT_.out (by kernel_rfl)) (by decide) (fun K hK=>?_)
  refine goes_ Tryd.func61 (by kernel_rfl) rfl #[.int .i64 a0_0,.int .i64 0,.int .i64 8] (by rfl) rfl rfl zg ?_
  with_reducible refine (impl_inRange.calls a0_0 0 8 false _ A4.out).mono ?_
  rintro e w' ⟨rfl,⟨nd,rfl⟩⟩
  refine ⟨_,rfl,?_⟩
  refine hK.out _ _ ⟨(kV BK246.out 0).trans rfl,(kV BK246.out 1).trans rfl⟩ (fun hHeld=>?_)
  clear hK K
  refine norm_ (a' := ?_) ?_ ?_
  rotate_left
  ·show Act.put _ (some 7) _ = _
   simp only [Act.put,zL,zM,zN,i64_w,i32_w]
   rfl
  refine zp 3 (some 8) #[true,true,true,true,false,false,false,false,false,false,false,false,false,false,false,false,false,false] HT_.out ?_
  refine zp 4 (some 9) #[true,true,true,true,true,false,false,false,false,false,false,false,false,false,false,false,false,false] HT_.out ?_
  refine zu 5 (some 10) #[true,true,true,true,true,true,false,false,false,false,false,false,false,false,false,false,false,false] HT_.out ?_
  refine zu 6 (some 11) #[true,true,true,true,true,true,true,false,false,false,false,false,false,false,false,false,false,false] HT_.out ?_
  refine zu 7 (some 12) #[true,true,true,true,true,true,true,true,false,false,false,false,false,false,false,false,false,false] HT_.out ?_
  refine zu 8 (some 13) #[true,true,true,true,true,true,true,true,true,false,false,false,false,false,false,false,false,false] HT_.out ?_
  refine zu 9 (some 14) #[true,true,true,true,true,true,true,true,true,true,false,false,false,false,false,false,false,false] HT_.out ?_
  refine zu 10 (some 15) #[true,true,true,true,true,true,true,true,true,true,true,false,false,false,false,false,false,false] HT_.out ?_
  refine zp 11 (some 16) #[true,true,true,true,true,true,true,true,true,true,true,true,false,false,false,false,false,false] HT_.out ?_
  refine zp 12 (some 17) #[true,true,true,true,true,true,true,true,true,true,true,true,true,false,false,false,false,false] HT_.out ?_
  refine zu 13 (some 18) #[true,true,true,true,true,true,true,true,true,true,true,true,true,true,false,false,false,false] HT_.out ?_
  refine zu 14 (some 19) #[true,true,true,true,true,true,true,true,true,true,true,true,true,true,true,false,false,false] HT_.out ?_
  refine zu 15 (some 20) #[true,true,true,true,true,true,true,true,true,true,true,true,true,true,true,true,false,false] HT_.out ?_
  refine zu 16 (some 21) #[true,true,true,true,true,true,true,true,true,true,true,true,true,true,true,true,true,false] HT_.out ?_
  refine zp 17 (some 22) #[true,true,true,true,true,true,true,true,true,true,true,true,true,true,true,true,true,true] HT_.out ?_
  refine done_ (done_of HT_.out (by kernel_rfl)) ?_
  try go_wp2
  go_meet
  case rel=>exact ⟨_,(true),zs,H', ⟨by first | omega | exact Nat.le_refl _⟩,⟨zR BK246.out⟩,⟨zT HB.out GE246.out⟩⟩
 case rest =>
  clear HC2
  try clear c3
  try clear c4
  try clear c5
  try clear c6
  try clear c7
  obtain ⟨kq,x22_1,rfl,HA,HJ1,BK246,HB⟩:=hcut
  cases kq with
  | zero=>exact absurd HA.out (by simp [impl_IsAlphabet.j0])
  | succ kj1 =>
   have H:=HA.out
   clear HA
   simp only [impl_IsAlphabet.j0] at H
   by_cases c13:x22_1 = true
   ·subst c13
    rw [if_pos rfl] at H
    obtain rfl:=Option.some.inj H
    go_wp2
    go_ret
    exact ⟨zr,zT HB.out GE246.out⟩
   replace c13:=Bool.eq_false_iff.mpr c13
   subst c13
   rw [if_neg (show ¬ (false = true) by decide)] at H
   obtain ⟨t250,A14,H⟩:=zb H
   try dsimp only at H
   have H' := zA H
   clear H
   obtain ⟨hcz15_0,hcz15_1,hfz15_0,hfz15_1⟩:=zB3 BK246.out
   go_wp2_with (first | (refine zO (some 25) Tryd.func42 #[.slice A0_1 l0_1.length c0_1] ?_;(with_reducible refine (impl_converse.calls kj1 _ _ l0_1 t250 _ ?side1 ?side2 ?side3 A14.out).mono ?_);(case side1=>exact zS (kO HR0_1.out HB.out));(case side2=>exact HC0_1.out);(case side3=>exact TabW.below HT.out (zT HB.out GE246.out));rintro e w16 ⟨v251,rfl,ho0,hb⟩;refine ⟨_,rfl,?_⟩;have HO252:=zA (kI ho0 (kP (zT HB.out GE246.out)));replace BK246:=zA (zB1 BK246.out hb);replace HB:=zA (kQ (zT HB.out GE246.out) hb);(try clear hb);(try clear ho0);obtain ⟨Ao17,co17,eo17⟩:=kM HO252.out;subst eo17))
   go_loopg [27] kj1 (fun kq v27 w' => ∃ (x27_2:Int),v27 = .int .i64 x27_2 ∧ Aside0 (impl_IsAlphabet.l0 kq t250 (t250.length:Int) x27_2 a0_0 l0_1 = some r) ∧ Aside0 (kq ≤ kj1) ∧ Aside0 (Kd.R (Kd.int .i64) 2 w' w.heap.size (fun _=>True) (.slice Ao17 t250.length co17) t250) ∧ Aside0 (w'.heap[gb246]? = some (.cells #[.int .i64 a0_0,(.slice A0_1 l0_1.length c0_1)] 28 (0,0))) ∧ Aside0 (Below w.heap.size w w'))
   case atStart=>exact ⟨(0),zs,H', ⟨Nat.le_refl _⟩,⟨zP HO252.out⟩,⟨zR BK246.out⟩,⟨zT HB.out GE246.out⟩⟩
   case round =>
    clear H'
    try clear c1
    try clear c3
    try clear c4
    try clear c5
    try clear c6
    try clear c7
    try clear c13
    try clear hcz15_0
    try clear hcz15_1
    try clear hfz15_0
    try clear hfz15_1
    obtain ⟨x27_2,rfl,HA,HK2,HO_25,BK246,HB⟩:=hrel
    cases gk with
    | zero=>exact absurd HA.out (by simp [impl_IsAlphabet.l0])
    | succ k2 =>
     have H:=HA.out
     clear HA
     simp only [impl_IsAlphabet.l0] at H
     by_cases c18:x27_2 < (t250.length:Int)
     ·rw [if_pos c18] at H
      have c18b0:decide (x27_2 < (t250.length:Int)) = true:=decide_eq_true c18
      clear c18
      by_cases c19:0 ≤ x27_2
      ·rw [if_pos c19] at H
       have c19b0:decide (0 ≤ x27_2) = true:=decide_eq_true c19
       clear c19
       by_cases c20:x27_2 < (t250.length:Int)
       ·rw [if_pos c20] at H
        have c20b0:decide (x27_2 < (t250.length:Int)) = true:=decide_eq_true c20
        clear c20
        by_cases c21:x27_2 < (l0_1.length:Int)
        ·rw [if_pos c21] at H
         have c21b0:decide (x27_2 < (l0_1.length:Int)) = true:=decide_eq_true c21
         clear c21
         by_cases c22:(rd t250 x27_2) = (rd l0_1 x27_2)
         ·rw [if_pos c22] at H
          obtain ⟨c22b0,c22b1⟩:=zT1 c22
          clear c22
          obtain ⟨t255,A23,H⟩:=zb H
          try dsimp only at H
          by_cases c24:t255 = true
          ·subst c24
           rw [if_pos rfl] at H
           have H' := zA H
           clear H
           have p253:0 ≤ (x27_2:Int):=zd
           have q253:x27_2 < (t250.length:Int):=zd
           obtain ⟨ad253,e253,hx253_0⟩:=Kd.at_int (kB HO_25.out).2.2 x27_2 p253 q253
           cases e253
           replace p253:=eq_true p253
           replace q253:=eq_true q253
           obtain ⟨hcz25_0,hcz25_1,hfz25_0,hfz25_1⟩:=zB3 BK246.out
           have p254:0 ≤ (x27_2:Int):=zd
           have q254:x27_2 < (l0_1.length:Int):=zd
           obtain ⟨ad254,e254,hx254_0⟩:=Kd.at_int HR0_1.out x27_2 p254 q254
           cases e254
           replace hx254_0:=(HB.out.cell (jG w _ hx254_0)).trans hx254_0
           replace p254:=eq_true p254
           replace q254:=eq_true q254
           go_wp2_with (first | (go_at_call 69;(with_reducible refine (impl_has.calls (rd t250 x27_2) x27_2 true _ A23.out).mono ?_);rintro e w' ⟨rfl,⟨nd,rfl⟩⟩))
           go_roundg k2
           case measure=>have:=HJ1.out;have:=HK2.out;omega
           case rel=>exact ⟨(wrap64 (x27_2 + 1)),zs,H', ⟨by have:=HJ1.out;have:=HK2.out;omega⟩,⟨zP HO_25.out⟩,⟨zR BK246.out⟩,⟨zT HB.out GE246.out⟩⟩
          replace c24:=Bool.eq_false_iff.mpr c24
          subst c24
          rw [if_neg (show ¬ (false = true) by decide)] at H
          obtain rfl:=Option.some.inj H
          have p253:0 ≤ (x27_2:Int):=zd
          have q253:x27_2 < (t250.length:Int):=zd
          obtain ⟨ad253,e253,hx253_0⟩:=Kd.at_int (kB HO_25.out).2.2 x27_2 p253 q253
          cases e253
          replace p253:=eq_true p253
          replace q253:=eq_true q253
          obtain ⟨hcz26_0,hcz26_1,hfz26_0,hfz26_1⟩:=zB3 BK246.out
          have p254:0 ≤ (x27_2:Int):=zd
          have q254:x27_2 < (l0_1.length:Int):=zd
          obtain ⟨ad254,e254,hx254_0⟩:=Kd.at_int HR0_1.out x27_2 p254 q254
          cases e254
          replace hx254_0:=(HB.out.cell (jG w _ hx254_0)).trans hx254_0
          replace p254:=eq_true p254
          replace q254:=eq_true q254
          go_wp2_with (first | (go_at_call 69;(with_reducible refine (impl_has.calls (rd t250 x27_2) x27_2 false _ A23.out).mono ?_);rintro e w' ⟨rfl,⟨nd,rfl⟩⟩))
          go_ret
          exact ⟨zr,zT HB.out GE246.out⟩
         rw [if_neg c22] at H
         obtain ⟨c22b0,c22b1⟩:=zT2 c22
         obtain rfl:=Option.some.inj H
         have p253:0 ≤ (x27_2:Int):=zd
         have q253:x27_2 < (t250.length:Int):=zd
         obtain ⟨ad253,e253,hx253_0⟩:=Kd.at_int (kB HO_25.out).2.2 x27_2 p253 q253
         cases e253
         replace p253:=eq_true p253
         replace q253:=eq_true q253
         obtain ⟨hcz27_0,hcz27_1,hfz27_0,hfz27_1⟩:=zB3 BK246.out
         have p254:0 ≤ (x27_2:Int):=zd
         have q254:x27_2 < (l0_1.length:Int):=zd
         obtain ⟨ad254,e254,hx254_0⟩:=Kd.at_int HR0_1.out x27_2 p254 q254
         cases e254
         replace hx254_0:=(HB.out.cell (jG w _ hx254_0)).trans hx254_0
         replace p254:=eq_true p254
         replace q254:=eq_true q254
         go_wp2
         go_ret
         exact ⟨zr,zT HB.out GE246.out⟩
        rw [if_neg c21] at H
        exact absurd H (by simp)
       rw [if_neg c20] at H
       exact absurd H (by simp)
      rw [if_neg c19] at H
      exact absurd H (by simp)
     rw [if_neg c18] at H
     have c18b0:decide (x27_2 < (t250.length:Int)) = false:=decide_eq_false c18
     clear c18
     obtain rfl:=Option.some.inj H
     go_wp2
     go_ret
     exact ⟨zr,zT HB.out GE246.out⟩
def impl_isWord.f (a0_0:Int) (l0_1:List Int) (l1:List Int):Option (Bool):=if (l1.length:Int) ≤ 24 then ((impl_allIn.f l1 0 (wrap64 (a0_0 - 1))).bind fun t257=>(some t257)) else (some false)
set_option maxHeartbeats 8000000 in
set_option maxRecDepth 100000 in
theorem impl_isWord.calls (a0_0:Int) (A0_1:Option Addr) (c0_1:Nat) (l0_1:List Int) (A1:Option Addr) (c1:Nat) (l1:List Int) (r:Bool) (w:World) (hr0_1:Kd.C (Kd.int .i64) w A0_1 l0_1.length l0_1) (hc0_1:l0_1.length ≤ c0_1) (hr1:Kd.C (Kd.int .i64) w A1 l1.length l1) (hc1:l1.length ≤ c1) (h:impl_isWord.f a0_0 l0_1 l1 = some r) :
  Calls Tryd.prog 51 #[.agg #[.int .i64 a0_0,.slice A0_1 l0_1.length c0_1],.slice A1 l1.length c1] w fun e w' => e = .returned (.bool r) ∧ Below w.heap.size w w' := by
 have hu28:=Tryd.underlying28
 have HR0_1:=zA hr0_1
 have HC0_1:=zA hc0_1
 clear hr0_1 hc0_1
 have HR1:=zA hr1
 have HC1:=zA hc1
 clear hr1 hc1
 have HB:=zA (kW w.heap.size w)
 have H:=h
 unfold impl_isWord.f at H
 clear h
 by_cases c3:(l1.length:Int) ≤ 24
 ·rw [if_pos c3] at H
  have c3b0:decide ((l1.length:Int) ≤ 24) = true:=decide_eq_true c3
  have c3b1:decide (l1.length ≤ 24) = true:=decide_eq_true (by omega)
  clear c3
  obtain ⟨t257,A4,H⟩:=zb H
  try dsimp only at H
  obtain rfl:=Option.some.inj H
  go_enter Tryd.func51,Tryd.ntmps51
  go_wp2_with (first | (refine zBE 2 #[.int .i64 a0_0,.slice A0_1 l0_1.length c0_1] 28 ?_;intro gb256 hg w5 hbox hb;have BK256:=zA (hbox);have GW256:=zA (zBH hg HB.out);have GE256:=zA (zBH hg HB.out);replace HB:=zA (kQ (zQ HB.out) hb);clear hb hbox hg;obtain ⟨hcz6_0,hcz6_1,hfz6_0,hfz6_1⟩:=zB3 BK256.out) | (go_at_call 71;(with_reducible refine (impl_allIn.calls _ _ l1 0 (wrap64 (a0_0 - 1)) t257 _ ?side1 ?side2 A4.out).mono ?_);(case side1=>exact zS (kO HR1.out HB.out));(case side2=>exact HC1.out);rintro e w7 ⟨rfl,hb⟩;replace BK256:=zA (zB1 BK256.out hb);replace HB:=zA (kQ (zT HB.out GE256.out) hb);(try clear hb)))
  go_ret
  exact ⟨zr,zT HB.out GE256.out⟩
 rw [if_neg c3] at H
 have c3b0:decide ((l1.length:Int) ≤ 24) = false:=decide_eq_false c3
 have c3b1:decide (l1.length ≤ 24) = false:=decide_eq_false (by omega)
 clear c3
 obtain rfl:=Option.some.inj H
 go_enter Tryd.func51,Tryd.ntmps51
 go_wp2_with (first | (refine zBE 2 #[.int .i64 a0_0,.slice A0_1 l0_1.length c0_1] 28 ?_;intro gb256 hg w8 hbox hb;have BK256:=zA (hbox);have GW256:=zA (zBH hg HB.out);have GE256:=zA (zBH hg HB.out);replace HB:=zA (kQ (zQ HB.out) hb);clear hb hbox hg))
 go_ret
 exact ⟨zr,zT HB.out GE256.out⟩
def wordB (n:Int) (w:List Int):Bool:=decide (w.length ≤ 24) && w.all fun x=>decide (0 ≤ x ∧ x ≤ wrap64 (n - 1))
def impl_checkWords.f (k:Nat) (a0_0:Int) (l0_1:List Int) (l1:List (List Int)):Option Int :=
 (impl_IsAlphabet.f k a0_0 l0_1).bind fun t=>some (if t = true then (if l1.all (wordB a0_0) = true then 0 else 2) else 1)
theorem isWord_some (n:Int) (D w:List Int):impl_isWord.f n D w = some (wordB n w):=by
 unfold impl_isWord.f wordB
 by_cases h:w.length ≤ 24
 ·rw [if_pos (by omega)]
  simp [h,impl_allIn.f]
 rw [if_neg (by omega)]
 simp [h]
theorem checkWords_pred (n:Int) (A:Option Addr) (c:Nat) (D:List Int) (B:Nat) (w:World) (hB:B < w.heap.size) (hD:(Kd.int .i64).C w A D.length D) (hc:D.length ≤ c)
  (h0:w.cell? ⟨B,0,none⟩ = some (.int .i64 n)) (h1:w.cell? ⟨B,1,none⟩ = some (.slice A D.length c)) :
  PredL 50 #[.pointer (some ⟨B,0,none⟩)] (fun x=>!wordB n x) w:=fun W A2 c2 x hb hx hcx=>by
 have k0:W.cell? ⟨B,0,none⟩ = some (.int .i64 n):=(hb.cell (p:=⟨B,0,none⟩) hB).trans h0
 have k1:W.cell? ⟨B,1,none⟩ = some (.slice A D.length c):=(hb.cell (p:=⟨B,1,none⟩) hB).trans h1
 have hcall:=impl_isWord.calls n A c D A2 c2 x (wordB n x) W (kO hD hb) hc hx hcx (isWord_some n D x)
 replace hcall:=zA hcall
 clear h0 h1 hb hx hcx hD hc
 show Calls Tryd.prog 50 #[.slice A2 x.length c2,.pointer (some ⟨B,0,none⟩)] W fun e W' => e = .returned (.bool (!wordB n x)) ∧ Below W.heap.size W W'
 generalize wordB n x = b at hcall ⊢
 have hu:=Tryd.underlying28
 go_enter Tryd.func50,Tryd.ntmps50
 go_wp2_with fail
 refine hcall.out.mono ?_
 rintro e w' ⟨rfl,hb⟩
 replace hb:=zA hb
 clear hcall
 go_wp2
 go_ret
 exact ⟨rfl,hb.out⟩
theorem impl_checkWords.calls (k:Nat) (a0_0:Int) (A0_1:Option Addr) (c0_1:Nat) (l0_1:List Int) (A1:Option Addr) (c1:Nat) (l1:List (List Int)) (r:Int) (w:World) (hr0_1:Kd.C (Kd.int .i64) w A0_1 l0_1.length l0_1) (hc0_1:l0_1.length ≤ c0_1)
  (hr1:Kd.C (Kd.slice 22 (Kd.int .i64)) w A1 l1.length l1) (hc1:l1.length ≤ c1) (hT:TabW w) (h:impl_checkWords.f k a0_0 l0_1 l1 = some r) :
  Calls Tryd.prog 30 #[.agg #[.int .i64 a0_0,.slice A0_1 l0_1.length c0_1],.slice A1 l1.length c1] w fun e w' => e = .returned (.int .i64 r) ∧ Below w.heap.size w w' := by
 obtain ⟨t,ht,hr⟩:=Option.bind_eq_some_iff.mp h
 clear h
 have hW:Below w.heap.size w (w.alloc (.cells #[.int .i64 a0_0,.slice A0_1 l0_1.length c0_1] 28)):=zB (kW _ w) _
 have hal:=zA (impl_IsAlphabet.calls k a0_0 A0_1 c0_1 l0_1 t (w.alloc (.cells #[.int .i64 a0_0,.slice A0_1 l0_1.length c0_1] 28)) (kO hr0_1 hW) hc0_1 (hT.below hW) ht)
 have eg:∀ args w,(callFunc 50 args).run Tryd.prog w = .ok (.enter 50 args) w:=enters_fn Tryd.func50 (by kernel_rfl) rfl
 have hcon:=zA (fun (W:World) (hb:Below (w.alloc (.cells #[.int .i64 a0_0,.slice A0_1 l0_1.length c0_1] 28)).heap.size (w.alloc (.cells #[.int .i64 a0_0,.slice A0_1 l0_1.length c0_1] 28)) W) =>
  containsFuncL_any A1 c1 l1 50 #[.pointer (some ⟨w.heap.size,0,none⟩)] (fun x=>!wordB a0_0 x) W eg
  (checkWords_pred a0_0 A0_1 c0_1 l0_1 w.heap.size W (Nat.lt_of_lt_of_le (by simp) hb.size) (kO (kO hr0_1 hW) hb) hc0_1 ((hb.cell (p:=⟨w.heap.size,0,none⟩) (by simp)).trans (by simp)) ((hb.cell (p:=⟨w.heap.size,1,none⟩) (by simp)).trans (by simp))) (kO (kO hr1 hW) hb))
 replace hW:=zA hW
 clear ht eg hr0_1 hr1 hc1 hc0_1 hT
 have hany:(l1.any fun x=>!wordB a0_0 x) = !(l1.all (wordB a0_0)):=by rw [List.all_eq_not_any_not];simp
 rw [hany] at hcon
 clear hany
 generalize l1.all (wordB a0_0) = b at hcon hr
 have hu:=Tryd.underlying28
 cases t with
 | false =>
  rw [if_neg (by decide)] at hr
  obtain rfl:=Option.some.inj hr
  clear hr
  go_enter Tryd.func30,Tryd.ntmps30
  go_wp2_with fail
  refine hal.out.mono ?_
  rintro e w' ⟨rfl,hb⟩
  replace hb:=zA hb
  clear hal hcon
  go_wp2
  go_ret
  exact ⟨rfl,kQ hW.out hb.out⟩
 | true =>
  rw [if_pos rfl] at hr
  cases b with
  | false =>
   rw [if_neg (by decide)] at hr
   obtain rfl:=Option.some.inj hr
   clear hr
   go_enter Tryd.func30,Tryd.ntmps30
   go_wp2_with fail
   refine hal.out.mono ?_
   rintro e w' ⟨rfl,hb⟩
   replace hb:=zA hb
   clear hal
   go_wp2_with fail
   refine (hcon.out _ hb.out).mono ?_
   rintro e w'' ⟨rfl,hb2⟩
   replace hb2:=zA hb2
   clear hcon
   go_wp2
   go_ret
   exact ⟨rfl,kQ (kQ hW.out hb.out) hb2.out⟩
  | true =>
   rw [if_pos rfl] at hr
   obtain rfl:=Option.some.inj hr
   clear hr
   go_enter Tryd.func30,Tryd.ntmps30
   go_wp2_with fail
   refine hal.out.mono ?_
   rintro e w' ⟨rfl,hb⟩
   replace hb:=zA hb
   clear hal
   go_wp2_with fail
   refine (hcon.out _ hb.out).mono ?_
   rintro e w'' ⟨rfl,hb2⟩
   replace hb2:=zA hb2
   clear hcon
   go_wp2
   go_ret
   exact ⟨rfl,kQ (kQ hW.out hb.out) hb2.out⟩
def impl_Alphabet_ties.f (a0_0:Int) (l0_1:List Int):Option (List Int):=some l0_1
set_option maxHeartbeats 8000000 in
set_option maxRecDepth 100000 in
theorem impl_Alphabet_ties.calls (a0_0:Int) (P0_1_:Nat → Prop) (A0_1:Option Addr) (c0_1:Nat) (l0_1:List Int) (r:List Int) (w:World) (hs0_1:Kd.V (Kd.int .i64) 2 w w.heap.size (fun k_=>P0_1_ k_) (.slice A0_1 l0_1.length c0_1) l0_1) (h:impl_Alphabet_ties.f a0_0 l0_1 = some r) :
  Calls Tryd.prog 38 #[.agg #[.int .i64 a0_0,.slice A0_1 l0_1.length c0_1]] w fun e w' => ∃ v0_:Value,e = .returned (v0_) ∧ Kd.V (Kd.int .i64) 2 w' w.heap.size (fun k_=>(P0_1_ k_ ∨ w.heap.size ≤ k_)) v0_ r ∧ Below w.heap.size w w' := by
 have hu28:=Tryd.underlying28
 have HO0_1:=zA (show Kd.V (Kd.int .i64) 2 w w.heap.size (fun k_=>(P0_1_ k_ ∨ w.heap.size ≤ k_)) (.slice A0_1 l0_1.length c0_1) l0_1 from kN hs0_1 (fun k_ hk=>.inl hk))
 have HB:=zA (kW w.heap.size w)
 have H:=h
 unfold impl_Alphabet_ties.f at H
 clear h
 obtain rfl:=Option.some.inj H
 go_enter Tryd.func38,Tryd.ntmps38
 go_wp2_with (first | (refine zBE 1 #[.int .i64 a0_0,.slice A0_1 l0_1.length c0_1] 28 ?_;intro gb258 hg w2 hbox hb;replace HO0_1:=zA (kG (jD (zPV HO0_1.out) gb258 (Nat.le_of_eq hg.symm)) hb);have BK258:=zA (hbox);have GW258:=zA (zBH hg HB.out);have GE258:=zA (zBH hg HB.out);replace HB:=zA (kQ (zQ HB.out) hb);clear hb hbox hg;obtain ⟨hcz3_0,hcz3_1,hfz3_0,hfz3_1⟩:=zB3 BK258.out))
 go_ret
 exact ⟨_,zr,by (with_reducible repeat (first | apply Kd.V_alloc | apply Kd.V_drewN | apply Kd.V_drew));exact kN HO0_1.out (fun _ hk=>hk.1),zT HB.out GE258.out⟩
def impl_ties_firsts.l0:Nat → List Int → Int → Int → List Int → Int → Int → Option (Int)
 | 0,_,_,_,_,_,_=>none
 | k + 1,x0,x5,x6,x9,x10,x11=>if x11 < x10 then (if 0 ≤ x11 then (if x11 < (x9.length:Int) then ((impl_has.f x6 (rd x9 x11)).bind fun t260=>(if t260 = true then (if 0 ≤ (rd x9 x11) then (if (rd x9 x11) < (x0.length:Int) then (impl_ties_firsts.l0 k x0 x5 (Go.bits .or .i64 x6 (rd x0 (rd x9 x11))) x9 x10 (wrap64 (x11 + 1))) else (none)) else (none)) else ((impl_one.f (rd x9 x11)).bind fun t262=>(if 0 ≤ (rd x9 x11) then (if (rd x9 x11) < (x0.length:Int) then (impl_ties_firsts.l0 k x0 (Go.bits .or .i64 x5 t262) (Go.bits .or .i64 x6 (rd x0 (rd x9 x11))) x9 x10 (wrap64 (x11 + 1))) else (none)) else (none))))) else (none)) else (none)) else (some x5)
def impl_ties_firsts.f (k:Nat) (l0:List Int) (l1:List Int):Option (Int):=impl_ties_firsts.l0 k l0 0 0 l1 (l1.length:Int) 0
set_option maxHeartbeats 8000000 in
set_option maxRecDepth 100000 in
theorem impl_ties_firsts.calls (k:Nat) (A0:Option Addr) (c0:Nat) (l0:List Int) (A1:Option Addr) (c1:Nat) (l1:List Int) (r:Int) (w:World) (hr0:Kd.C (Kd.int .i64) w A0 l0.length l0) (hc0:l0.length ≤ c0) (hr1:Kd.C (Kd.int .i64) w A1 l1.length l1) (hc1:l1.length ≤ c1) (h:impl_ties_firsts.f k l0 l1 = some r) :
  Calls Tryd.prog 59 #[.slice A0 l0.length c0,.slice A1 l1.length c1] w fun e w' => e = .returned (.int .i64 r) ∧ Drawn0 w w' := by
 have HR0:=zA hr0
 have HC0:=zA hc0
 clear hr0 hc0
 have HR1:=zA hr1
 have HC1:=zA hc1
 clear hr1 hc1
 have H:=h
 unfold impl_ties_firsts.f at H
 clear h
 have H' := zA H
 clear H
 go_enter Tryd.func59,Tryd.ntmps59
 go_wp2
 go_loopg [5,6,11] k (fun kq v5 v6 v11 w' => ∃ (x5_1:Int) (x6_1:Int) (x11_1:Int),v5 = .int .i64 x5_1 ∧ v6 = .int .i64 x6_1 ∧ v11 = .int .i64 x11_1 ∧ Aside0 (impl_ties_firsts.l0 kq l0 x5_1 x6_1 l1 (l1.length:Int) x11_1 = some r) ∧ Aside0 (kq ≤ k) ∧ Drawn0 w w')
 case atStart=>exact ⟨(0),(0),(0),zs,zs,zs,H', ⟨Nat.le_refl _⟩,by repeat (first | exact Drawn0.refl _ | apply Drawn0.step)⟩
 case round =>
  clear H'
  try clear c1
  obtain ⟨x5_1,x6_1,x11_1,rfl,rfl,rfl,HA,HK1,⟨m1,rfl⟩⟩:=hrel
  cases gk with
  | zero=>exact absurd HA.out (by simp [impl_ties_firsts.l0])
  | succ k1 =>
   have H:=HA.out
   clear HA
   simp only [impl_ties_firsts.l0] at H
   by_cases c3:x11_1 < (l1.length:Int)
   ·rw [if_pos c3] at H
    have c3b0:decide (x11_1 < (l1.length:Int)) = true:=decide_eq_true c3
    clear c3
    by_cases c4:0 ≤ x11_1
    ·rw [if_pos c4] at H
     have c4b0:decide (0 ≤ x11_1) = true:=decide_eq_true c4
     clear c4
     by_cases c5:x11_1 < (l1.length:Int)
     ·rw [if_pos c5] at H
      have c5b0:decide (x11_1 < (l1.length:Int)) = true:=decide_eq_true c5
      clear c5
      obtain ⟨t260,A6,H⟩:=zb H
      try dsimp only at H
      by_cases c7:t260 = true
      ·subst c7
       rw [if_pos rfl] at H
       by_cases c8:0 ≤ (rd l1 x11_1)
       ·rw [if_pos c8] at H
        have c8b0:decide (0 ≤ (rd l1 x11_1)) = true:=decide_eq_true c8
        clear c8
        by_cases c9:(rd l1 x11_1) < (l0.length:Int)
        ·rw [if_pos c9] at H
         have c9b0:decide ((rd l1 x11_1) < (l0.length:Int)) = true:=decide_eq_true c9
         clear c9
         have H' := zA H
         clear H
         have p259:0 ≤ (x11_1:Int):=zd
         have q259:x11_1 < (l1.length:Int):=zd
         obtain ⟨ad259,e259,hx259_0⟩:=Kd.at_int HR1.out x11_1 p259 q259
         cases e259
         replace p259:=eq_true p259
         replace q259:=eq_true q259
         go_wp2_with (first | (refine zO (some 17) Tryd.func69 #[.int .i64 x6_1,.int .i64 (rd l1 x11_1)] ?_;(with_reducible refine (impl_has.calls x6_1 (rd l1 x11_1) true _ A6.out).mono ?_);rintro e w' ⟨rfl,⟨nd,rfl⟩⟩;refine ⟨_,rfl,?_⟩;have p261:0 ≤ ((rd l1 x11_1):Int):=zd;have q261:(rd l1 x11_1) < (l0.length:Int):=zd;obtain ⟨ad261,e261,hx261_0⟩:=Kd.at_int HR0.out (rd l1 x11_1) p261 q261;cases e261;replace p261:=eq_true p261;replace q261:=eq_true q261))
         go_roundg k1
         case measure=>have:=HK1.out;omega
         case rel=>exact ⟨(x5_1),(Go.bits .or .i64 x6_1 (rd l0 (rd l1 x11_1))),(wrap64 (x11_1 + 1)),zs,zs,zs,H', ⟨by have:=HK1.out;omega⟩,by repeat (first | exact Drawn0.refl _ | apply Drawn0.step)⟩
        rw [if_neg c9] at H
        exact absurd H (by simp)
       rw [if_neg c8] at H
       exact absurd H (by simp)
      replace c7:=Bool.eq_false_iff.mpr c7
      subst c7
      rw [if_neg (show ¬ (false = true) by decide)] at H
      obtain ⟨t262,A10,H⟩:=zb H
      try dsimp only at H
      by_cases c11:0 ≤ (rd l1 x11_1)
      ·rw [if_pos c11] at H
       have c11b0:decide (0 ≤ (rd l1 x11_1)) = true:=decide_eq_true c11
       clear c11
       by_cases c12:(rd l1 x11_1) < (l0.length:Int)
       ·rw [if_pos c12] at H
        have c12b0:decide ((rd l1 x11_1) < (l0.length:Int)) = true:=decide_eq_true c12
        clear c12
        have H' := zA H
        clear H
        have p259:0 ≤ (x11_1:Int):=zd
        have q259:x11_1 < (l1.length:Int):=zd
        obtain ⟨ad259,e259,hx259_0⟩:=Kd.at_int HR1.out x11_1 p259 q259
        cases e259
        replace p259:=eq_true p259
        replace q259:=eq_true q259
        go_wp2_with (first | (refine zO (some 17) Tryd.func69 #[.int .i64 x6_1,.int .i64 (rd l1 x11_1)] ?_;(with_reducible refine (impl_has.calls x6_1 (rd l1 x11_1) false _ A6.out).mono ?_);rintro e w' ⟨rfl,⟨nd,rfl⟩⟩;refine ⟨_,rfl,?_⟩) | (refine zO (some 21) Tryd.func33 #[.int .i64 (rd l1 x11_1)] ?_;(with_reducible refine (impl_one.calls (rd l1 x11_1) t262 _ A10.out).mono ?_);rintro e w' ⟨rfl,⟨nd,rfl⟩⟩;refine ⟨_,rfl,?_⟩;have p263:0 ≤ ((rd l1 x11_1):Int):=zd;have q263:(rd l1 x11_1) < (l0.length:Int):=zd;obtain ⟨ad263,e263,hx263_0⟩:=Kd.at_int HR0.out (rd l1 x11_1) p263 q263;cases e263;replace p263:=eq_true p263;replace q263:=eq_true q263))
        go_roundg k1
        case measure=>have:=HK1.out;omega
        case rel=>exact ⟨(Go.bits .or .i64 x5_1 t262),(Go.bits .or .i64 x6_1 (rd l0 (rd l1 x11_1))),(wrap64 (x11_1 + 1)),zs,zs,zs,H', ⟨by have:=HK1.out;omega⟩,by repeat (first | exact Drawn0.refl _ | apply Drawn0.step)⟩
       rw [if_neg c12] at H
       exact absurd H (by simp)
      rw [if_neg c11] at H
      exact absurd H (by simp)
     rw [if_neg c5] at H
     exact absurd H (by simp)
    rw [if_neg c4] at H
    exact absurd H (by simp)
   rw [if_neg c3] at H
   have c3b0:decide (x11_1 < (l1.length:Int)) = false:=decide_eq_false c3
   clear c3
   obtain rfl:=Option.some.inj H
   go_wp2
   go_ret
   exact ⟨zs,by repeat (first | exact Drawn0.refl _ | apply Drawn0.step)⟩
def slices_Index_int64_int64.l0:Nat → List Int → Int → Int → Int → Option (Int)
 | 0,_,_,_,_=>none
 | k + 1,x0,x1,x7,x8=>if x8 < x7 then (if 0 ≤ x8 then (if x8 < (x0.length:Int) then (if x1 = (rd x0 x8) then (some x8) else (slices_Index_int64_int64.l0 k x0 x1 x7 (wrap64 (x8 + 1)))) else (none)) else (none)) else (some (-1))
def slices_Index_int64_int64.f (k:Nat) (l0:List Int) (a1:Int):Option (Int):=slices_Index_int64_int64.l0 k l0 a1 (l0.length:Int) 0
set_option maxHeartbeats 8000000 in
set_option maxRecDepth 100000 in
theorem slices_Index_int64_int64.calls (k:Nat) (A0:Option Addr) (c0:Nat) (l0:List Int) (a1:Int) (r:Int) (w:World) (hr0:Kd.C (Kd.int .i64) w A0 l0.length l0) (hc0:l0.length ≤ c0) (h:slices_Index_int64_int64.f k l0 a1 = some r) :
  Calls Tryd.prog 77 #[.slice A0 l0.length c0,.int .i64 a1] w fun e w' => e = .returned (.int .i64 r) ∧ Drawn0 w w' := by
 have HR0:=zA hr0
 have HC0:=zA hc0
 clear hr0 hc0
 have H:=h
 unfold slices_Index_int64_int64.f at H
 clear h
 have H' := zA H
 clear H
 go_enter Tryd.func77,Tryd.ntmps77
 go_wp2
 go_loopg [8] k (fun kq v8 w' => ∃ (x8_1:Int),v8 = .int .i64 x8_1 ∧ Aside0 (slices_Index_int64_int64.l0 kq l0 a1 (l0.length:Int) x8_1 = some r) ∧ Aside0 (kq ≤ k) ∧ Drawn0 w w')
 case atStart=>exact ⟨(0),zs,H', ⟨Nat.le_refl _⟩,by repeat (first | exact Drawn0.refl _ | apply Drawn0.step)⟩
 case round =>
  clear H'
  obtain ⟨x8_1,rfl,HA,HK1,⟨m1,rfl⟩⟩:=hrel
  cases gk with
  | zero=>exact absurd HA.out (by simp [slices_Index_int64_int64.l0])
  | succ k1 =>
   have H:=HA.out
   clear HA
   simp only [slices_Index_int64_int64.l0] at H
   by_cases c3:x8_1 < (l0.length:Int)
   ·rw [if_pos c3] at H
    have c3b0:decide (x8_1 < (l0.length:Int)) = true:=decide_eq_true c3
    clear c3
    by_cases c4:0 ≤ x8_1
    ·rw [if_pos c4] at H
     have c4b0:decide (0 ≤ x8_1) = true:=decide_eq_true c4
     clear c4
     by_cases c5:x8_1 < (l0.length:Int)
     ·rw [if_pos c5] at H
      have c5b0:decide (x8_1 < (l0.length:Int)) = true:=decide_eq_true c5
      clear c5
      by_cases c6:a1 = (rd l0 x8_1)
      ·rw [if_pos c6] at H
       obtain ⟨c6b0,c6b1⟩:=zT1 c6
       clear c6
       obtain rfl:=Option.some.inj H
       have p264:0 ≤ (x8_1:Int):=zd
       have q264:x8_1 < (l0.length:Int):=zd
       obtain ⟨ad264,e264,hx264_0⟩:=Kd.at_int HR0.out x8_1 p264 q264
       cases e264
       replace p264:=eq_true p264
       replace q264:=eq_true q264
       go_wp2
       go_ret
       exact ⟨zs,by repeat (first | exact Drawn0.refl _ | apply Drawn0.step)⟩
      rw [if_neg c6] at H
      obtain ⟨c6b0,c6b1⟩:=zT2 c6
      have H' := zA H
      clear H
      have p264:0 ≤ (x8_1:Int):=zd
      have q264:x8_1 < (l0.length:Int):=zd
      obtain ⟨ad264,e264,hx264_0⟩:=Kd.at_int HR0.out x8_1 p264 q264
      cases e264
      replace p264:=eq_true p264
      replace q264:=eq_true q264
      go_wp2
      go_roundg k1
      case measure=>have:=HK1.out;omega
      case rel=>exact ⟨(wrap64 (x8_1 + 1)),zs,H', ⟨by have:=HK1.out;omega⟩,by repeat (first | exact Drawn0.refl _ | apply Drawn0.step)⟩
     rw [if_neg c5] at H
     exact absurd H (by simp)
    rw [if_neg c4] at H
    exact absurd H (by simp)
   rw [if_neg c3] at H
   have c3b0:decide (x8_1 < (l0.length:Int)) = false:=decide_eq_false c3
   clear c3
   obtain rfl:=Option.some.inj H
   go_wp2
   go_ret
   exact ⟨zs,by repeat (first | exact Drawn0.refl _ | apply Drawn0.step)⟩
def slices_Concat_int64_int64.f (l0:List (List Int)):Option (List Int):=if (l0.map List.length).sum < 17592186044416 then some l0.flatten else none
theorem pw_wrap64_id {x:Int} (h1:-9223372036854775808 ≤ x) (h2:x ≤ 9223372036854775807):wrap64 x = x:=by
 unfold wrap64
 omega
set_option maxHeartbeats 2000000 in
set_option maxRecDepth 100000 in
theorem grow_nil (n:Int) (h0:0 ≤ n) (hn:n < 17592186044416) (w:World) :
  Calls Tryd.prog 84 #[.slice none 0 0,.int .i64 n] w fun e w' => ∃ v0_:Value,e = .returned (v0_) ∧ Kd.R (Kd.int .i64) 2 w' w.heap.size (fun _=>True) v0_ [] ∧ Below w.heap.size w w' := by
 have e0:(n < 0) = False:=by simp;omega
 by_cases hp:0 < n
 ·have e1:(0 < n) = True:=by simp [hp]
  go_enter Tryd.func84,Tryd.ntmps84
  go_wp2_with (first | ((with_reducible refine gate_builtin (b:=.append) (xs:=#[.tmp 20,.tmp 21]) rfl ?_);at_builtin;refine Kd.R_append_zeros (Kd.int .i64) (w0:=w) w.heap.size rfl (.tmp 20) (.tmp 21) 22 3 2 (.int .i64 0) 8 rfl Tryd.underlying22 Tryd.underlying3 info2 rfl (by decide) (by omega) (.slice none 0 0) [] 0 n (fun _=>True) rfl rfl rfl (fun _ _=>trivial) (jO _ _ _ _ _) h0 (kW _ _) (Nat.le_refl _) (by simp;omega) ?_;intro v1 w1 ho hb hg hat;have hs:=kM ho;obtain ⟨A1,c1,rfl⟩:=hs;have HO:=zA (Kd.R_take ho (Nat.zero_le _));have HB:=zA hb;clear ho hb hg hat))
  go_ret
  exact ⟨_,rfl,HO.out,HB.out⟩
 have e1:n = 0:=by omega
 subst e1
 go_enter Tryd.func84,Tryd.ntmps84
 go_wp2
 go_ret
 exact ⟨_,rfl,jO _ _ _ _ _,kW _ _⟩
theorem take_sum_step (l:List (List Int)) (k:Nat) (hk:k < l.length):((l.take (k + 1)).map List.length).sum = ((l.take k).map List.length).sum + (l.getD k []).length:=by
 rw [List.take_add_one,List.getElem?_eq_getElem hk,List.map_append,List.sum_append]
 simp [List.getD_eq_getElem?_getD,hk]
theorem take_sum_le (l:List (List Int)) (k:Nat):((l.take k).map List.length).sum ≤ (l.map List.length).sum:=by
 have h:(l.map List.length).sum = ((l.take k).map List.length).sum + ((l.drop k).map List.length).sum:=by
  rw [← List.sum_append,← List.map_append,List.take_append_drop]
 omega
theorem take_flatten_step (l:List (List Int)) (k:Nat) (hk:k < l.length):(l.take (k + 1)).flatten = (l.take k).flatten ++ l.getD k []:=by
 rw [List.take_add_one,List.getElem?_eq_getElem hk,List.flatten_append]
 simp [List.getD_eq_getElem?_getD,hk]
set_option maxHeartbeats 4000000 in
set_option maxRecDepth 100000 in
theorem slices_Concat_int64_int64.calls (A0:Option Addr) (c0:Nat) (l0:List (List Int)) (r:List Int) (w:World) (hr0:Kd.C (Kd.slice 22 (Kd.int .i64)) w A0 l0.length l0) (hc0:l0.length ≤ c0) (h:slices_Concat_int64_int64.f l0 = some r) :
  Calls Tryd.prog 78 #[.slice A0 l0.length c0] w fun e w' => ∃ v0_:Value,e = .returned (v0_) ∧ Kd.R (Kd.int .i64) 2 w' w.heap.size (fun _=>True) v0_ r ∧ Below w.heap.size w w' := by
 unfold slices_Concat_int64_int64.f at h
 by_cases hT:(l0.map List.length).sum < 17592186044416
 ·rw [if_pos hT] at h
  obtain rfl:=Option.some.inj h
  clear h hc0
  have hl:l0.length ≤ 9223372036854775807:=hr0.2.1
  have HR0:=zA hr0
  have HT:=zA hT
  clear hr0 hT
  go_enter Tryd.func78,Tryd.ntmps78
  go_wp2
  go_loopg [3,5,11] l0.length (fun gg v3 _ v11 wr=>∃ kk:Nat,kk ≤ l0.length ∧ l0.length - kk ≤ gg ∧ v3 = .int .i64 (((l0.take kk).map List.length).sum:Nat) ∧ v11 = .int .i64 kk ∧ Aside0 (Below w.heap.size w wr))
  case atStart=>exact ⟨0,Nat.zero_le _,by omega,by simp,rfl,⟨kW _ _⟩⟩
  case round =>
   obtain ⟨kk,hkk,hg,rfl,rfl,HB⟩:=hrel
   by_cases hlt:kk < l0.length
   ·have hltz:(kk:Int) < (l0.length:Int):=by omega
    obtain ⟨ad,A1,c1,e0,hcell,hc1,hC1⟩:=at_row HR0.out kk hlt
    cases e0
    have S1:=zA (take_sum_step l0 kk hlt)
    have S2:=zA (take_sum_le l0 (kk + 1))
    replace hcell:=pw_cell_below HB.out hcell
    clear hc1 hC1
    generalize hy:l0.getD kk [] = y at hcell S1
    generalize ((l0.take kk).map List.length).sum = s at S1 ⊢
    clear hy
    have hn:¬ (wrap64 ((s:Int) + (y.length:Int)) < 0):=by
     have h1:=S1.out
     have h2:=S2.out
     have h3:=HT.out
     rw [pw_wrap64_id (by omega) (by omega)];omega
    go_wp2
    go_roundg (l0.length - (kk + 1))
    case measure=>omega
    case rel =>
     refine ⟨kk + 1,by omega,by omega,?_,by go_num,?_⟩
     ·rw [S1.out]
      have h1:=S1.out
      have h2:=S2.out
      have h3:=HT.out
      rw [pw_wrap64_id (by omega) (by omega)];simp
     exact HB
   have hltz:¬ (kk:Int) < (l0.length:Int):=by omega
   have:kk = l0.length:=by omega
   subst this
   rw [List.take_length]
   have hF:∀ kk,kk ≤ l0.length → ((l0.take kk).flatten).length ≤ (l0.map List.length).sum:=fun kk _=>by
    rw [List.length_flatten];exact take_sum_le l0 kk
   replace hF:=zA hF
   generalize (l0.map List.length).sum = s at HT hF ⊢
   have hcall:=grow_nil (s:Int) (by omega) (by have:=HT.out;omega) wr
   replace hcall:=zA hcall
   go_wp2_with fail
   refine hcall.out.mono ?_
   rintro e w1 ⟨v1,rfl,ho,hb⟩
   have HO:=zA (kI ho HB.out.size)
   have HB1:=zA (kQ HB.out hb)
   clear hcall ho hb
   go_wp2
   go_loopg [6,8,27] l0.length (fun gg v6 _ v27 wr=>∃ kk:Nat,kk ≤ l0.length ∧ l0.length - kk ≤ gg ∧ v27 = .int .i64 kk ∧ Aside0 (Kd.R (Kd.int .i64) 2 wr w.heap.size (fun _=>True) v6 (l0.take kk).flatten) ∧ Aside0 (Below w.heap.size w wr))
   case atStart=>exact ⟨0,Nat.zero_le _,by omega,rfl,⟨by simpa using HO.out⟩,HB1⟩
   case round =>
    clear HO HB1 HB
    obtain ⟨kk,hkk,hg,rfl,HO,HB⟩:=hrel
    by_cases hlt:kk < l0.length
    ·have hltz:(kk:Int) < (l0.length:Int):=by omega
     obtain ⟨ad,A1,c1,e0,hcell,hc1,hC1⟩:=at_row HR0.out kk hlt
     cases e0
     have S1:=zA (take_flatten_step l0 kk hlt)
     have S2:=zA (hF.out (kk + 1) (by omega))
     replace hcell:=pw_cell_below HB.out hcell
     replace hC1:=zA (kO hC1 HB.out)
     clear hc1
     generalize hy:l0.getD kk [] = y at hcell S1 hC1
     clear hy
     generalize hz:(l0.take kk).flatten = z at HO S1
     clear hz
     have hlen:z.length + y.length ≤ s:=by
      have h2:=S2.out
      rw [S1.out,List.length_append] at h2
      exact h2
     have HLN:=zA hlen
     clear hlen
     go_wp2_with (first | ((with_reducible refine gate_builtin (b:=.append) (xs:=#[.tmp 31,.tmp 32]) rfl ?_);at_builtin;refine Kd.R_append_rows (Kd.int .i64) (w0:=w) w.heap.size rfl (.tmp 31) (.tmp 32) 22 2 (.int .i64 0) 8 rfl Tryd.underlying22 info2 rfl (by decide) (by omega) u6 z y _ _ _ (fun _=>True) (fun _=>False) rfl rfl ?aO ?aR (fun _ _ h=>h) (fun _ h=>h.elim) (fun _ _=>trivial) ?aB ?aS (by have:=HLN.out;have:=HT.out;omega) ?_;(case aR=>exact zS hC1.out);(case aO=>(with_reducible repeat (first | apply zF | apply zG | apply zH));exact HO.out);(case aB=>exact zQ HB.out);(case aS=>exact kP (zQ HB.out));intro v6 w6 ho hb hg_ hat;have HO' := zA ho;have HB' := zA hb;clear ho hb hg_ hat))
     go_roundg (l0.length - (kk + 1))
     case measure=>omega
     case rel=>exact ⟨kk + 1,by omega,by omega,by go_num,⟨by rw [S1.out];exact HO'.out⟩,HB'⟩
    have hltz:¬ (kk:Int) < (l0.length:Int):=by omega
    have:kk = l0.length:=by omega
    subst this
    go_wp2
    go_ret
    refine ⟨_,rfl,?_,HB.out⟩
    have:=HO.out
    rw [List.take_length] at this
    exact this
 rw [if_neg hT] at h
 cases h
def slices_Index_int64_int64_BwithoutFirst.f (k:Nat) (l0:List Int) (a1:Int):Option (Int):=slices_Index_int64_int64.f k l0 a1
theorem slices_Index_int64_int64_BwithoutFirst.calls (k:Nat) (A0:Option Addr) (c0:Nat) (l0:List Int) (a1:Int) (r:Int) (w:World) (hr0:Kd.C (Kd.int .i64) w A0 l0.length l0) (hc0:l0.length ≤ c0) (h:slices_Index_int64_int64_BwithoutFirst.f k l0 a1 = some r) :
 Calls Tryd.prog 77 #[.slice A0 l0.length c0,.int .i64 a1] w fun e w' => e = .returned (.int .i64 r) ∧ Below w.heap.size w w' := by
 refine (slices_Index_int64_int64.calls k A0 c0 l0 a1 r w hr0 hc0 h).mono ?_
 rintro e w' ⟨h1,h2⟩
 exact ⟨h1,Drawn0.below h2⟩
def impl_withoutFirst.f (k:Nat) (l0:List Int) (a1:Int):Option (List Int):=(slices_Index_int64_int64_BwithoutFirst.f k l0 a1).bind fun t265=>(if 0 ≤ t265 then (if t265 ≤ (l0.length:Int) then (if 0 ≤ (wrap64 (t265 + 1)) then (if (wrap64 (t265 + 1)) ≤ (l0.length:Int) then ((slices_Concat_int64_int64.f (([(l0.take (t265:Int).toNat),(l0.drop ((wrap64 (t265 + 1)):Int).toNat)]:List (List Int)))).bind fun t279=>(some t279)) else (none)) else (none)) else (none)) else (none))
def impl_withoutFirst.T2:Bool × List (List Nat × List Nat):=(true,[([],[]),([],[]),([0,1],[0,1]),([],[]),([],[]),([4],[4]),([3,5],[3,5]),([2,6],[2,6]),([7],[7]),([8,8,0,1,2,3,4,5,6,7,8],[8])])
def impl_withoutFirst.B2:List Nat:=[0,0,3,0,0,16,56,127,255,511]
theorem impl_withoutFirst.tab2:rtab .any (opsOf Tryd.f60 2) = impl_withoutFirst.T2:=by kernel_rfl
theorem impl_withoutFirst.bits2:waitsOk impl_withoutFirst.T2.2 impl_withoutFirst.B2 = true:=by kernel_rfl
set_option maxHeartbeats 8000000 in
set_option maxRecDepth 100000 in
theorem impl_withoutFirst.calls (k:Nat) (P0_:Nat → Prop) (A0:Option Addr) (c0:Nat) (l0:List Int) (a1:Int) (r:List Int) (w:World) (hs0:Kd.V (Kd.int .i64) 2 w w.heap.size (fun k_=>P0_ k_) (.slice A0 l0.length c0) l0) (h:impl_withoutFirst.f k l0 a1 = some r) :
  Calls Tryd.prog 60 #[.slice A0 l0.length c0,.int .i64 a1] w fun e w' => ∃ v0_:Value,e = .returned (v0_) ∧ Kd.R (Kd.int .i64) 2 w' w.heap.size (fun k_=>(w.heap.size ≤ k_)) v0_ r ∧ Below w.heap.size w w' := by
 have HO0:=zA (show Kd.V (Kd.int .i64) 2 w w.heap.size (fun k_=>(P0_ k_ ∨ w.heap.size ≤ k_)) (.slice A0 l0.length c0) l0 from kN hs0 (fun k_ hk=>.inl hk))
 have HB:=zA (kW w.heap.size w)
 have H:=h
 unfold impl_withoutFirst.f at H
 clear h
 obtain ⟨t265,A3,H⟩:=zb H
 try dsimp only at H
 by_cases c4:0 ≤ t265
 ·rw [if_pos c4] at H
  have c4b0:=eq_true c4
  have c4b1:decide (0 ≤ t265) = true:=decide_eq_true c4
  clear c4
  by_cases c5:t265 ≤ (l0.length:Int)
  ·rw [if_pos c5] at H
   have c5b0:=eq_true c5
   have c5b1:decide (t265 ≤ (l0.length:Int)) = true:=decide_eq_true c5
   clear c5
   obtain ⟨y266,hy266⟩:∃ y_:List Int,y_ = (l0.take (t265:Int).toNat):=⟨_,rfl⟩
   replace H:(if 0 ≤ (wrap64 (t265 + 1)) then (if (wrap64 (t265 + 1)) ≤ (l0.length:Int) then ((slices_Concat_int64_int64.f (([y266,(l0.drop ((wrap64 (t265 + 1)):Int).toNat)]:List (List Int)))).bind fun t279=>(some t279)) else (none)) else (none)) = some r:=zy hy266 H
   have Ny266:=zA hy266
   clear hy266
   obtain ⟨ji6,hji6⟩:∃ j_:Int,(wrap64 (t265 + 1)) = j_:=⟨_,rfl⟩
   replace H:(if 0 ≤ (ji6) then (if (ji6) ≤ (l0.length:Int) then ((slices_Concat_int64_int64.f (([y266,(l0.drop ((ji6):Int).toNat)]:List (List Int)))).bind fun t279=>(some t279)) else (none)) else (none)) = some r:=by first | (rw [hji6] at H;exact H) | (simp only [hji6] at H ⊢;exact H)
   (try rw [hji6] at A3)
   have hji6w:(IntKind.i64.wrap (t265 + 1)) = ji6:=(i64_w _).trans hji6
   by_cases c7:0 ≤ (ji6)
   ·rw [if_pos c7] at H
    have c7b0:=eq_true c7
    have c7b1:decide (0 ≤ (ji6)) = true:=decide_eq_true c7
    clear c7
    by_cases c8:(ji6) ≤ (l0.length:Int)
    ·rw [if_pos c8] at H
     have c8b0:=eq_true c8
     have c8b1:decide ((ji6) ≤ (l0.length:Int)) = true:=decide_eq_true c8
     clear c8
     obtain ⟨y271,hy271⟩:∃ y_:List Int,y_ = (l0.drop ((ji6):Int).toNat):=⟨_,rfl⟩
     replace H:((slices_Concat_int64_int64.f (([y266,y271]:List (List Int)))).bind fun t279=>(some t279)) = some r:=zy hy271 H
     have Ny271:=zA hy271
     clear hy271
     obtain ⟨y276,hy276⟩:∃ y_:List (List Int),y_ = (([y266,y271]:List (List Int))):=⟨_,rfl⟩
     replace H:((slices_Concat_int64_int64.f y276).bind fun t279=>(some t279)) = some r:=zy hy276 H
     have Ny276:=zA hy276
     clear hy276
     obtain ⟨t279,A9,H⟩:=zb H
     try dsimp only at H
     obtain rfl:=Option.some.inj H
     go_enter Tryd.func60,Tryd.ntmps60
     try go_wp2_with (first | (refine zO (some 8) Tryd.func77 #[.slice A0 l0.length c0,.int .i64 a1] ?_;(with_reducible refine (slices_Index_int64_int64_BwithoutFirst.calls k _ _ l0 a1 t265 _ ?side1 ?side2 A3.out).mono ?_);(case side1=>exact zS (kJ HO0.out).2.2);(case side2=>exact (kJ HO0.out).2.1);rintro e w10 ⟨rfl,hb⟩;refine ⟨_,rfl,?_⟩;replace HO0:=zA (kG (zPV HO0.out) hb);replace HB:=zA (kQ (zQ HB.out) hb);(try clear hb)))
     replace HO0:=zA (Kd.V_drew HO0.out)
     replace HB:=zA (zD HB.out)
     have q12:(t265:Int) ≤ ((l0.length:Int):Int):=zd
     obtain ⟨i012,hi012,_,hsz12,_⟩:=info_parts info2
     have hroom12:l0.length ≤ c0:=(kJ HO0.out).2.1
     have hC12:Kd.F (Kd.int .i64) _ _ A0 l0.length l0:=(Kd.V_at (base:=w.heap.size) HO0.out).2.2
     have hcut12:=cut_to (P:=Tryd.prog) 22 2 .i64 Tryd.underlying22 hi012 A0 l0.length c0 t265 (zd) q12 hroom12
     have hr12:=Kd.F_take (m:=(t265:Int).toNat) hC12 (by omega)
     have hy12:y266.length = (t265:Int).toNat:=(by rw [Ny266.out,List.length_take];omega)
     rw [← Ny266.out] at hr12
     rw [← hy12] at hcut12
     have HO270:=zA (show Kd.V (Kd.int .i64) 2 _ w.heap.size _ (.slice A0 y266.length c0) y266 from Kd.V_mk (by omega) hr12)
     have HC270:=zA (show y266.length ≤ c0 from by omega)
     clear hr12 hC12 hroom12 hi012 hsz12
     have KY12:=zA hy12
     clear hy12
     replace q12:=eq_true q12
     have q13:((ji6):Int) ≤ ((l0.length:Int):Int):=zd
     obtain ⟨i013,hi013,_,hsz13,_⟩:=info_parts info2
     have hroom13:l0.length ≤ c0:=(kJ HO0.out).2.1
     have hC13:Kd.F (Kd.int .i64) _ _ A0 l0.length l0:=(Kd.V_at (base:=w.heap.size) HO0.out).2.2
     have q013:(0:Int) ≤ ((ji6):Int):=zd
     have hcut13:=cut_from (P:=Tryd.prog) 22 2 .i64 Tryd.underlying22 hi013 1 hsz13 A0 l0.length c0 (ji6) q013 q13
     have hr13:=Kd.F_cut (m:=((ji6):Int).toNat) (c:=c0) hC13 (by omega) hroom13
     obtain ⟨A13,hA13⟩:∃ A1,A1 = (if c0 = ((ji6):Int).toNat then A0 else (A0:Option Addr).map (·.add (((ji6):Int).toNat * 1))):=⟨_,rfl⟩
     obtain ⟨c13,hc13⟩:∃ c1,c1 = c0 - ((ji6):Int).toNat:=⟨_,rfl⟩
     have hy13:y271.length = l0.length - ((ji6):Int).toNat:=(by rw [Ny271.out,List.length_drop] <;> omega)
     rw [show (l0).drop ((ji6):Int).toNat = y271 from Ny271.out.symm] at hr13
     replace hr13:Kd.F (Kd.int .i64) _ _ A13 y271.length y271:=(by rw [hA13];exact hr13)
     rw [← hy13,← hA13,← hc13] at hcut13
     have HO275:=zA (show Kd.V (Kd.int .i64) 2 _ w.heap.size _ (.slice A13 y271.length c13) y271 from Kd.V_mk (by rw [hy13,hc13];exact Nat.sub_le_sub_right hroom13 _) hr13)
     have HC275:=zA (show y271.length ≤ c13 from by rw [hy13,hc13];exact Nat.sub_le_sub_right hroom13 _)
     clear hr13 hC13 hroom13 hi013 hsz13 hc13
     have KY13:=zA hy13
     have KA13:=zA hA13
     clear hy13 hA13
     replace q13:=eq_true q13
     refine start_ (n:=10) (S:=fun w' => True) (ds:=[]) #[false,false,false,false,false,false,false,false,false,false] (by kernel_rfl) rfl rfl trivial (fun hHeld=>?_);refine with_tabW impl_withoutFirst.tab2 impl_withoutFirst.bits2 (fun HT_ HW_=>?_)
     generalize w10.drew = w11 at HO0 HB HO270 HO275 hHeld ⊢
     refine zp 0 (some 9) #[true,false,false,false,false,false,false,false,false,false] HT_.out ?_
     refine zp 1 (some 10) #[true,true,false,false,false,false,false,false,false,false] HT_.out ?_
     refine zp 2 (some 11) #[true,true,true,false,false,false,false,false,false,false] HT_.out ?_
     refine zp 3 (some 12) #[true,true,true,true,false,false,false,false,false,false] HT_.out ?_
     refine zp 4 (some 13) #[true,true,true,true,true,false,false,false,false,false] HT_.out ?_
     refine zp 5 (some 14) #[true,true,true,true,true,true,false,false,false,false] HT_.out ?_
     refine zp 6 (some 15) #[true,true,true,true,true,true,true,false,false,false] HT_.out ?_
     refine one_ (i:=7) (N:=some 16) #[true,true,true,true,true,true,true,true,false,false] rfl rfl (one_of HT_.out (by kernel_rfl)) (by decide) (fun K hK=>?_)
     refine Kd.N_lit_step (Kd.slice 2 (Kd.int .i64)) _ 22 ?hg (N' := 16) ?hd (xs:=([y266,y271]:List (List Int))) (inner:=[.slice A0 y266.length c0,.slice A13 y271.length c13]) (ok:=(fun k_=>(P0_ k_ ∨ w.heap.size ≤ k_))) (okp:=(fun k_=>(P0_ k_ ∨ w.heap.size ≤ k_))) ?hr ?hp (fun _ hk=>hk) ((show ∀ k_:Nat,(_:Nat) ≤ k_ → (fun k_=>(P0_ k_ ∨ w.heap.size ≤ k_)) k_ from fun k_ hk=>(.inr (Nat.le_trans (kP (zQ HB.out)) hk))) _ (Nat.le_refl _)) (kW _ _) (Nat.le_refl _) (by simp) ?_;(case hd=>rfl);(case hg=>rfl);(case hr=>first | (go_simp;done) | (go_simp;rfl));(case hp=>exact (Reps.one (show Kd.FK (Kd.slice 2 (Kd.int .i64)) _ _ y266 [.slice A0 y266.length c0] from (zFK (kN (ok' := (fun k_=>(P0_ k_ ∨ w.heap.size ≤ k_))) (HO270.out) (fun k_ hk=>hk)))) (Reps.one (show Kd.FK (Kd.slice 2 (Kd.int .i64)) _ _ y271 [.slice A13 y271.length c13] from (zFK (kN (ok' := (fun k_=>(P0_ k_ ∨ w.heap.size ≤ k_))) (HO275.out) (fun k_ hk=>hk)))) (Reps.none _ _))))
     intro v277 w14 ho15 hb hg_ hnew_
     clear hg_ hnew_
     (first | rw [← Ny276.out] at ho15 | (simp only [Int.reduceToNat] at ho15;rw [← Ny276.out] at ho15))
     replace HO0:=zA (kK (zPV HO0.out) (Kd.N_base ho15) hb)
     replace HO270:=zA (kK (zPV HO270.out) (Kd.N_base ho15) hb)
     replace HO275:=zA (kK (zPV HO275.out) (Kd.N_base ho15) hb)
     have HO278:=zA (jN ho15 (kP (zQ HB.out)))
     replace HB:=zA (kQ (zQ HB.out) hb)
     clear hb ho15
     obtain ⟨Ao16,co16,eo16⟩:=Kd.N_slice HO278.out
     (first | subst eo16 | (injection eo16 with f1_ f2_ f3_;have f4_:=f1_.symm;have f5_:=f3_.symm;clear f1_ f2_ f3_;subst f4_;subst f5_))
     refine hK.out _ _ trivial (fun hHeld=>?_)
     clear hK K
     refine norm_ (a' := ?_) ?_ ?_
     rotate_left
     ·show Act.put _ (some 16) _ = _
      simp only [Act.put,zL,zM,zN,i64_w,i32_w]
      rfl
     refine one_ (i:=8) (N:=some 17) #[true,true,true,true,true,true,true,true,true,false] rfl rfl (one_of HT_.out (by kernel_rfl)) (by decide) (fun K hK=>?_)
     refine goes_ Tryd.func78 (by kernel_rfl) rfl #[.slice Ao16 y276.length co16] (by rfl) rfl rfl zg ?_
     with_reducible refine (slices_Concat_int64_int64.calls _ _ y276 t279 _ ?side1 ?side2 A9.out).mono ?_
     (case side1=>exact zS (Kd.N_reads' HO278.out).2.2)
     (case side2=>exact (Kd.N_reads' HO278.out).2.1)
     rintro e w17 ⟨v280,rfl,ho0,hb⟩
     refine ⟨_,rfl,?_⟩
     replace HO0:=zA (kK (zPV HO0.out) (kC ho0) hb)
     replace HO270:=zA (kK (zPV HO270.out) (kC ho0) hb)
     replace HO275:=zA (kK (zPV HO275.out) (kC ho0) hb)
     replace HO278:=zA (Kd.N_elder' (zPN HO278.out) (kC ho0) hb)
     have HO281:=zA (kI (Kd.R_newM (M:=fun k_=>(w.heap.size ≤ k_)) ho0 (kP (zQ HB.out)) (fun k_ h_=>h_)) (kP (zQ HB.out)))
     replace HB:=zA (kQ (zQ HB.out) hb)
     (try clear hb)
     (try clear hb2)
     (try clear hk)
     (try clear hi)
     (try clear hgw)
     (try clear ho0)
     refine hK.out _ _ trivial (fun hHeld=>?_)
     clear hK K
     refine norm_ (a' := ?_) ?_ ?_
     rotate_left
     ·show Act.put _ (some 17) _ = _
      simp only [Act.put,zL,zM,zN,i64_w,i32_w]
      rfl
     refine zp 9 (some 4) #[true,true,true,true,true,true,true,true,true,true] HT_.out ?_
     refine done_ (done_of HT_.out (by kernel_rfl)) ?_
     try go_wp2
     go_ret
     exact ⟨_,by first | rfl | (simp [errW_none,errW_some] <;> rfl) | (simp only [← hji6];first | rfl | (simp [errW_none,errW_some] <;> rfl)) | (simp [*,errW_none,errW_some] <;> rfl),by (with_reducible repeat (first | apply zF | apply zG | apply zH));exact kA HO281.out (fun _ hk=>hk.1),zQ HB.out⟩
    rw [if_neg c8] at H
    exact absurd H (by simp)
   rw [if_neg c7] at H
   exact absurd H (by simp)
  rw [if_neg c5] at H
  exact absurd H (by simp)
 rw [if_neg c4] at H
 exact absurd H (by simp)
def impl_ties_normal.l0:Nat → List Int → List Int → List Int → Option (List Int)
 | 0,_,_,_=>none
 | k + 1,x0,x5,x6=>if (x6.length:Int) > 0 then ((impl_ties_firsts.f k x0 x6).bind fun t285=>((impl_least.f t285).bind fun t286=>(if x5.length < 17592186044416 then ((impl_withoutFirst.f k x6 t286).bind fun t290=>(impl_ties_normal.l0 k x0 (x5 ++ [t286]) t290)) else (none)))) else (some x5)
def impl_ties_normal.f (k:Nat) (l0:List Int) (l1:List Int):Option (List Int):=if 0 ≤ (l1.length:Int) then (if ((l1.length:Int):Int).toNat ≤ 35184372088832 then (impl_ties_normal.l0 k l0 (([]:List Int)) l1) else (none)) else (none)
set_option maxHeartbeats 8000000 in
set_option maxRecDepth 100000 in
theorem impl_ties_normal.calls (k:Nat) (A0:Option Addr) (c0:Nat) (l0:List Int) (P1_:Nat → Prop) (A1:Option Addr) (c1:Nat) (l1:List Int) (r:List Int) (w:World) (hr0:Kd.C (Kd.int .i64) w A0 l0.length l0) (hc0:l0.length ≤ c0) (hs1:Kd.V (Kd.int .i64) 2 w w.heap.size (fun k_=>P1_ k_) (.slice A1 l1.length c1) l1) (hT:TabW w) (h:impl_ties_normal.f k l0 l1 = some r) :
  Calls Tryd.prog 40 #[.slice A0 l0.length c0,.slice A1 l1.length c1] w fun e w' => ∃ v0_:Value,e = .returned (v0_) ∧ Kd.R (Kd.int .i64) 2 w' w.heap.size (fun k_=>(w.heap.size ≤ k_)) v0_ r ∧ Below w.heap.size w w' := by
 have HT:=zA hT
 clear hT
 have HR0:=zA hr0
 have HC0:=zA hc0
 clear hr0 hc0
 have HO1:=zA (show Kd.V (Kd.int .i64) 2 w w.heap.size (fun k_=>(P1_ k_ ∨ w.heap.size ≤ k_)) (.slice A1 l1.length c1) l1 from kN hs1 (fun k_ hk=>.inl hk))
 have HB:=zA (kW w.heap.size w)
 have H:=h
 unfold impl_ties_normal.f at H
 clear h
 by_cases c3:0 ≤ (l1.length:Int)
 ·rw [if_pos c3] at H
  have c3b0:=eq_true c3
  have c3b1:decide (0 ≤ (l1.length:Int)) = true:=decide_eq_true c3
  clear c3
  by_cases c4:((l1.length:Int):Int).toNat ≤ 35184372088832
  ·rw [if_pos c4] at H
   have c4b0:=eq_true c4
   have c4b1:decide (((l1.length:Int):Int).toNat ≤ 35184372088832) = true:=decide_eq_true c4
   clear c4
   obtain ⟨y282,hy282⟩:∃ y_:List Int,y_ = (([]:List Int)):=⟨_,rfl⟩
   replace H:(impl_ties_normal.l0 k l0 y282 l1) = some r:=zy hy282 H
   have Ny282:=zA hy282
   clear hy282
   have H' := zA H
   clear H
   go_enter Tryd.func40,Tryd.ntmps40
   go_wp2_with (first | ((with_reducible refine kS (N:=10) rfl ?_);refine Kd.R_make0 (Kd.int .i64) _ 2 rfl (N:=10) rfl 22 _ _ rfl (l1.length:Int) rfl rfl Tryd.underlying22 (.int .i64 0) 8 info2 rfl (by decide) (by omega) 0 (ok:=fun _=>True) (okp:=fun _=>True) rfl (fun _ hk=>hk) trivial (zd) (Nat.le_trans (Nat.mul_le_mul_right _ (zd:(l1.length:Int).toNat ≤ 35184372088832)) (by omega)) (kW _ _) (Nat.le_refl _) ?_;intro v283 w5 ho6 hb hg_ hnew_;clear hg_ hnew_;(first | rw [← Ny282.out] at ho6 | (simp only [Int.reduceToNat] at ho6;rw [← Ny282.out] at ho6));replace HO1:=zA (kK (zPV HO1.out) (kC ho6) hb);have HO284:=zA (kI (Kd.R_newM (M:=fun k_=>(w.heap.size ≤ k_)) ho6 (kP (zQ HB.out)) (fun k_ h_=>h_)) (kP (zQ HB.out)));replace HB:=zA (kQ (zQ HB.out) hb);clear hb ho6))
   go_loopg [5,6] k (fun kq v5 v6 w' => ∃ (x5_1:List Int) (x6_1:List Int),Aside0 (impl_ties_normal.l0 kq l0 x5_1 x6_1 = some r) ∧ Aside0 (kq ≤ k) ∧ Aside0 (Kd.R (Kd.int .i64) 2 w' w.heap.size (fun k_=>(w.heap.size ≤ k_)) v5 x5_1) ∧ Aside0 (Kd.V (Kd.int .i64) 2 w' w.heap.size (fun k_=>(P1_ k_ ∨ w.heap.size ≤ k_) ∧ some k_ ≠ (v5:Value).ownBlock) v6 x6_1) ∧ Aside0 (Below w.heap.size w w'))
   case atStart=>exact ⟨(y282),(l1),H', ⟨Nat.le_refl _⟩,⟨zPM HO284.out (fun _ hk=>hk.1)⟩,⟨zPV HO1.out⟩,⟨zQ HB.out⟩⟩
   case round =>
    clear H'
    try clear c1
    try clear c3
    try clear c4
    obtain ⟨x5_1,x6_1,HA,HK1,HO_5,HO_6,HB⟩:=hrel
    cases gk with
    | zero=>exact absurd HA.out (by simp [impl_ties_normal.l0])
    | succ k1 =>
     have H:=HA.out
     clear HA
     simp only [impl_ties_normal.l0] at H
     by_cases c7:(x6_1.length:Int) > 0
     ·rw [if_pos c7] at H
      have c7b0:decide (0 < (x6_1.length:Int)) = true:=decide_eq_true c7
      have c7b1:decide (0 < x6_1.length) = true:=decide_eq_true (by omega)
      clear c7
      obtain ⟨t285,A8,H⟩:=zb H
      try dsimp only at H
      obtain ⟨t286,A9,H⟩:=zb H
      try dsimp only at H
      by_cases c10:x5_1.length < 17592186044416
      ·rw [if_pos c10] at H
       have LMc10:=zA c10
       clear c10
       obtain ⟨y287,hy287⟩:∃ y_:List Int,y_ = (x5_1 ++ [t286]):=⟨_,rfl⟩
       replace H:((impl_withoutFirst.f k1 x6_1 t286).bind fun t290=>(impl_ties_normal.l0 k1 l0 y287 t290)) = some r:=zy hy287 H
       have Ny287:=zA hy287
       clear hy287
       obtain ⟨t290,A11,H⟩:=zb H
       try dsimp only at H
       have H' := zA H
       clear H
       obtain ⟨Ao12,co12,eo12⟩:=Kd.V_slice HO_6.out
       subst eo12
       go_wp2_with (first | (refine zO (some 17) Tryd.func59 #[.slice A0 l0.length c0,.slice Ao12 x6_1.length co12] ?_;(with_reducible refine (impl_ties_firsts.calls k1 _ _ l0 _ _ x6_1 t285 _ ?side1 ?side2 ?side3 ?side4 A8.out).mono ?_);(case side1=>exact zS (kO HR0.out HB.out));(case side2=>exact HC0.out);(case side3=>exact zS (kJ HO_6.out).2.2);(case side4=>exact (kJ HO_6.out).2.1);rintro e w' ⟨rfl,⟨nd,rfl⟩⟩;refine ⟨_,rfl,?_⟩) | (refine zO (some 18) Tryd.func35 #[.int .i64 t285] ?_;(with_reducible refine (impl_least.calls t285 t286 _ ?side1 A9.out).mono ?_);(case side1=>exact TabW.below HT.out (zQ HB.out));rintro e w' ⟨rfl,⟨nd,rfl⟩⟩;refine ⟨_,rfl,?_⟩) | ((with_reducible refine gate_builtin (b:=.append) (xs:=#[.tmp 19,.tmp 21]) rfl ?_);at_builtin;refine Kd.R_append (Kd.int .i64) (w0:=w) w.heap.size rfl (.tmp 19) (.tmp 21) 22 2 (.int .i64 0) 8 rfl Tryd.underlying22 info2 rfl (by decide) (by omega) u5 x5_1 t286 [.int .i64 t286] (fun k_=>(w.heap.size ≤ k_)) (fun _=>False) rfl rfl ?aP (fun _ hk=>hk.elim) ?aF ?aO ?aB ?aS ?aL ?_;(case aP=>exact rfl);(case aB=>exact (zQ HB.out));(case aF=>exact (fun k_ hk=>(Nat.le_trans (kP (zQ HB.out)) hk)));(case aO=>exact (zP HO_5.out));(case aS=>exact (kP (zQ HB.out)));(case aL=>have:=LMc10.out;omega);intro v288 w13 ho hb hg hat;rw [← Ny287.out] at ho;replace HO_6:=zA (Kd.V_afterv (ok:=(fun k_=>(P1_ k_ ∨ w.heap.size ≤ k_))) (zPV HO_6.out) hg hat);replace HB:=zA (hb);have HO289:=zA (ho);clear HO_5;clear ho hb hg hat) | (refine zO (some 25) Tryd.func60 #[.slice Ao12 x6_1.length co12,.int .i64 t286] ?_;(with_reducible refine (impl_withoutFirst.calls k1 (fun k_=>((P1_ k_ ∨ w.heap.size ≤ k_) ∧ some k_ ≠ (v288:Value).ownBlock)) _ _ x6_1 t286 t290 _ ?side1 A11.out).mono ?_);(case side1=>exact HO_6.out);rintro e w14 ⟨v291,rfl,ho0,hb⟩;refine ⟨_,rfl,?_⟩;replace HO_6:=zA (kK (zPV HO_6.out) (kC ho0) hb);have HO292:=zA (kI (kF (Kd.R_newM (M:=fun k_=>(w.heap.size ≤ k_)) (kA (ok' := fun k_=>True) ho0 (fun _ hk_=>trivial)) (kP (zQ HB.out)) (fun k_ h_=>h_)) (kH (zP HO289.out))) (kP (zQ HB.out)));replace HO289:=zA (kE (zP HO289.out) (kC ho0) hb);replace HB:=zA (kQ (zQ HB.out) hb);(try clear hb);(try clear ho0)))
       go_roundg k1
       case measure=>have:=HK1.out;omega
       case rel=>exact ⟨(y287),(t290),H', ⟨by have:=HK1.out;omega⟩,⟨zPM HO289.out (fun _ hk=>hk.1)⟩,⟨kN (jL (zP HO292.out)) (fun k_ hk=>by first | exact ⟨(.inr (hk.1.1)),hk.2⟩ | exact ⟨(.inr (hk.1)),hk.2⟩ | exact (.inr (hk)))⟩,⟨zQ HB.out⟩⟩
      rw [if_neg c10] at H
      exact absurd H (by simp)
     rw [if_neg c7] at H
     have c7b0:decide (0 < (x6_1.length:Int)) = false:=decide_eq_false c7
     have c7b1:decide (0 < x6_1.length) = false:=decide_eq_false (by omega)
     clear c7
     obtain rfl:=Option.some.inj H
     obtain ⟨Ao15,co15,eo15⟩:=Kd.V_slice HO_6.out
     subst eo15
     go_wp2
     go_ret
     exact ⟨_,zr,zP HO_5.out,zQ HB.out⟩
  rw [if_neg c4] at H
  exact absurd H (by simp)
 rw [if_neg c3] at H
 exact absurd H (by simp)
def slices_Clone_int64_int64.f (l0:List Int):Option (List Int):=if l0.length < 17592186044416 then some l0 else none
set_option maxHeartbeats 2000000 in
set_option maxRecDepth 100000 in
theorem slices_Clone_int64_int64.calls (A0:Option Addr) (c0:Nat) (l0:List Int) (r:List Int) (w:World) (hr0:Kd.C (Kd.int .i64) w A0 l0.length l0) (hc0:l0.length ≤ c0) (h:slices_Clone_int64_int64.f l0 = some r) :
  Calls Tryd.prog 83 #[.slice A0 l0.length c0] w fun e w' => ∃ v0_:Value,e = .returned (v0_) ∧ Kd.R (Kd.int .i64) 2 w' w.heap.size (fun _=>True) v0_ r ∧ Below w.heap.size w w' := by
 unfold slices_Clone_int64_int64.f at h
 by_cases hl:l0.length < 17592186044416
 ·rw [if_pos hl] at h
  obtain rfl:=Option.some.inj h
  clear h
  have HR0:=zA hr0
  have HL:=zA hl
  have qnil:∀ (w:World) (a:Option Addr) (n c n' c' : Nat),(binOp .eql 22 (.slice a n c) (.slice none n' c')).run Tryd.prog w = .ok (.bool a.isNone) w:=fun w a n c n' c' => Lib.run_eql_slice_nil w _ _ a n c n' c' Tryd.underlying22
  cases A0 with
  | none =>
   have hz:l0 = []:=by
    rcases Nat.eq_zero_or_pos l0.length with e | e
    ·exact List.eq_nil_of_length_eq_zero e
    obtain ⟨ad,e1,_⟩:=hr0.2.2 e
    cases e1
   subst hz
   clear hr0 hl hc0
   go_enter Tryd.func83,Tryd.ntmps83
   go_wp2
   go_ret
   exact ⟨_,rfl,jO _ _ _ _ _,kW _ _⟩
  | some ad =>
   clear hr0 hl hc0
   go_enter Tryd.func83,Tryd.ntmps83
   go_wp2_with (first | ((with_reducible refine kS (N:=5) rfl ?_);refine Kd.R_lit (Kd.int .i64) _ 2 ?hg (N:=5) ?hd (xs:=([]:List Int)) (inner:=[]) (ok:=fun _=>True) (okp:=fun _=>True) ?hr ?hp (fun _ hk=>hk) trivial (kW _ _) (Nat.le_refl _) (by simp) ?_;(case hd=>rfl);(case hg=>rfl);(case hr=>first | (go_simp;done) | (go_simp;rfl));(case hp=>exact (Reps.none _ _));intro v5 w5 ho hb hg_ hnew_;clear hg_ hnew_;have HO:=zA ho;have HB:=zA hb;clear ho hb) | ((with_reducible refine gate_builtin (b:=.append) (xs:=#[.tmp 5,.tmp 6]) rfl ?_);at_builtin;refine Kd.R_append_rows (Kd.int .i64) (w0:=w) w.heap.size rfl (.tmp 5) (.tmp 6) 22 2 (.int .i64 0) 8 rfl Tryd.underlying22 info2 rfl (by decide) (by omega) v5 [] l0 _ _ _ (fun _=>True) (fun _=>False) rfl rfl HO.out (kO HR0.out HB.out) (fun _ _ h=>h) (fun _ h=>h.elim) (fun _ _=>trivial) HB.out HB.out.size (by have:=HL.out;simp;omega) ?_;intro v6 w6 ho hb hg hat;have HO' := zA ho;have HB' := zA hb;clear ho hb hg hat HO HB))
   go_ret
   exact ⟨_,rfl,HO'.out,HB'.out⟩
 rw [if_neg hl] at h
 cases h
mutual
def impl_closure.l0:Nat → List Int → Int → Int → Option (List Int)
 | 0,_,_,_=>none
 | k + 1,x3,x10,x11=>if x11 < x10 then (if 0 ≤ x11 then (if x11 < (x3.length:Int) then ((impl_one.f x11).bind fun t297=>(impl_closure.l0 k (x3.set (x11:Int).toNat (Go.bits .or .i64 (rd x3 x11) t297)) x10 (wrap64 (x11 + 1)))) else (none)) else (none)) else (impl_closure.l1 k x3 (x3.length:Int) 0)
def impl_closure.l1:Nat → List Int → Int → Int → Option (List Int)
 | 0,_,_,_=>none
 | k + 1,x3,x24,x25=>if x25 < x24 then (impl_closure.l2 k x3 x25 x24 x25 (x3.length:Int) 0) else (some x3)
def impl_closure.l2:Nat → List Int → Int → Int → Int → Int → Int → Option (List Int)
 | 0,_,_,_,_,_,_=>none
 | k + 1,x3,x5,x24,x25,x29,x30=>if x30 < x29 then (if 0 ≤ x30 then (if x30 < (x3.length:Int) then ((impl_has.f (rd x3 x30) x5).bind fun t300=>(if t300 = true then (if 0 ≤ x5 then (if x5 < (x3.length:Int) then (impl_closure.l2 k (x3.set (x30:Int).toNat (Go.bits .or .i64 (rd x3 x30) (rd x3 x5))) x5 x24 x25 x29 (wrap64 (x30 + 1))) else (none)) else (none)) else (impl_closure.l2 k x3 x5 x24 x25 x29 (wrap64 (x30 + 1))))) else (none)) else (none)) else (impl_closure.l1 k x3 x24 (wrap64 (x25 + 1)))
end
def impl_closure.f (k:Nat) (l0:List Int):Option (List Int):=(slices_Clone_int64_int64.f l0).bind fun t293=>(impl_closure.l0 k t293 (t293.length:Int) 0)
def impl_closure.T5:Bool × List (List Nat × List Nat):=(true,[([],[]),([],[]),([0,1],[0,1]),([2],[2]),([],[]),([4],[4]),([3,5],[3,5]),([0,1,0,1,2,3,4,5,6],[0,1]),([7,6,5,0,1,2,3,4,5,6],[6,7])])
def impl_closure.B5:List Nat:=[0,0,3,7,0,16,63,127,255]
theorem impl_closure.tab5:rtab .any (opsOf Tryd.f72 5) = impl_closure.T5:=by kernel_rfl
theorem impl_closure.bits5:waitsOk impl_closure.T5.2 impl_closure.B5 = true:=by kernel_rfl
def impl_closure.T14:Bool × List (List Nat × List Nat):=(true,[([],[]),([],[]),([0,1],[0,1]),([2],[2]),([],[]),([],[]),([4,5],[4,5]),([6],[6]),([3,7],[3,7]),([0,1,0,1,2,3,4,5,6,7,8],[0,1]),([9,8,0,1,2,3,4,5,6,7,8],[8,9])])
def impl_closure.B14:List Nat:=[0,0,3,7,0,0,48,112,255,511,1023]
theorem impl_closure.tab14:rtab .any (opsOf Tryd.f72 14) = impl_closure.T14:=by kernel_rfl
theorem impl_closure.bits14:waitsOk impl_closure.T14.2 impl_closure.B14 = true:=by kernel_rfl
set_option maxHeartbeats 8000000 in
set_option maxRecDepth 100000 in
theorem impl_closure.calls (k:Nat) (A0:Option Addr) (c0:Nat) (l0:List Int) (r:List Int) (w:World) (hr0:Kd.C (Kd.int .i64) w A0 l0.length l0) (hc0:l0.length ≤ c0) (h:impl_closure.f k l0 = some r) :
  Calls Tryd.prog 72 #[.slice A0 l0.length c0] w fun e w' => ∃ v0_:Value,e = .returned (v0_) ∧ Kd.R (Kd.int .i64) 2 w' w.heap.size (fun _=>True) v0_ r ∧ Below w.heap.size w w' := by
 have HR0:=zA hr0
 have HC0:=zA hc0
 clear hr0 hc0
 have HB:=zA (kW w.heap.size w)
 have H:=h
 unfold impl_closure.f at H
 clear h
 obtain ⟨t293,A2,H⟩:=zb H
 try dsimp only at H
 have H' := zA H
 clear H
 go_enter Tryd.func72,Tryd.ntmps72
 go_wp2_with (first | (refine zO (some 8) Tryd.func83 #[.slice A0 l0.length c0] ?_;(with_reducible refine (slices_Clone_int64_int64.calls _ _ l0 t293 _ ?side1 ?side2 A2.out).mono ?_);(case side1=>exact zS HR0.out);(case side2=>exact HC0.out);rintro e w3 ⟨v294,rfl,ho0,hb⟩;refine ⟨_,rfl,?_⟩;have HO295:=zA (kI ho0 (kP (zQ HB.out)));replace HB:=zA (kQ (zQ HB.out) hb);(try clear hb);(try clear ho0);obtain ⟨Ao4,co4,eo4⟩:=kM HO295.out;subst eo4))
 go_loopg [11] k (fun kq v11 w' => ∃ (x3_1:List Int) (x11_1:Int),v11 = .int .i64 x11_1 ∧ Aside0 (impl_closure.l0 kq x3_1 (t293.length:Int) x11_1 = some r) ∧ Aside0 (kq ≤ k) ∧ Aside0 (Kd.R (Kd.int .i64) 2 w' w.heap.size (fun _=>True) (.slice Ao4 t293.length co4) x3_1) ∧ Aside0 (Below w.heap.size w w'))
 case atStart=>exact ⟨(t293),(0),zs,H', ⟨Nat.le_refl _⟩,⟨zP HO295.out⟩,⟨zQ HB.out⟩⟩
 case round =>
  clear H'
  obtain ⟨x3_1,x11_1,rfl,HA,HK1,HO_3,HB⟩:=hrel
  have hl3_1:=(kB HO_3.out).1
  rw [hl3_1] at HO_3
  (try simp only [hl3_1])
  cases gk with
  | zero=>exact absurd HA.out (by simp [impl_closure.l0])
  | succ k1 =>
   have H:=HA.out
   clear HA
   simp only [impl_closure.l0] at H
   by_cases c5:x11_1 < (t293.length:Int)
   ·rw [if_pos c5] at H
    have c5b0:decide (x11_1 < (t293.length:Int)) = true:=decide_eq_true c5
    (try (have c5b0h0_:=c5b0;rw [hl3_1] at c5b0h0_))
    clear c5
    by_cases c6:0 ≤ x11_1
    ·rw [if_pos c6] at H
     have c6b0:decide (0 ≤ x11_1) = true:=decide_eq_true c6
     clear c6
     by_cases c7:x11_1 < (x3_1.length:Int)
     ·rw [if_pos c7] at H
      have c7b0:decide (x11_1 < (x3_1.length:Int)) = true:=decide_eq_true c7
      (try (have c7b0h0_:=c7b0;rw [hl3_1] at c7b0h0_))
      clear c7
      obtain ⟨t297,A8,H⟩:=zb H
      try dsimp only at H
      obtain ⟨y298,hy298⟩:∃ y_:List Int,y_ = (x3_1.set (x11_1:Int).toNat (Go.bits .or .i64 (rd x3_1 x11_1) t297)):=⟨_,rfl⟩
      replace H:(impl_closure.l0 k1 y298 (t293.length:Int) (wrap64 (x11_1 + 1))) = some r:=zy hy298 H
      have Ny298:=zA hy298
      clear hy298
      have H' := zA H
      clear H
      try go_wp2
      replace HO_3:=zA (zH HO_3.out)
      replace HB:=zA (zD HB.out)
      have p296:0 ≤ (x11_1:Int):=zd
      have q296:x11_1 < (x3_1.length:Int):=zd
      obtain ⟨ad296,e296,hx296_0⟩:=Kd.at_int (kB HO_3.out).2.2 x11_1 p296 q296
      cases e296
      replace p296:=eq_true p296
      replace q296:=eq_true q296
      refine start_ (n:=9) (S:=fun w' => w'.cell? (ad296.add (x11_1).toNat) = some (.int .i64 (rd x3_1 x11_1))) (ds:=[8]) #[false,false,false,false,false,false,false,false,false] (by kernel_rfl) rfl rfl (hx296_0) (fun hHeld=>?_);refine with_tabW impl_closure.tab5 impl_closure.bits5 (fun HT_ HW_=>?_)
      generalize wr.drew = w10 at HO_3 HB hx296_0 hHeld ⊢
      refine zp 0 (some 14) #[true,false,false,false,false,false,false,false,false] HT_.out ?_
      refine zp 1 (some 15) #[true,true,false,false,false,false,false,false,false] HT_.out ?_
      refine zp 2 (some 16) #[true,true,true,false,false,false,false,false,false] HT_.out ?_
      refine zp 4 (some 18) #[true,true,true,false,true,false,false,false,false] HT_.out ?_
      refine za 3 (some 17) #[true,true,true,true,true,false,false,false,false] HT_.out HW_.out hHeld ?_
      refine one_ (i:=5) (N:=some 19) #[true,true,true,true,true,true,false,false,false] rfl rfl (one_of HT_.out (by kernel_rfl)) (by decide) (fun K hK=>?_)
      refine goes_ Tryd.func33 (by kernel_rfl) rfl #[.int .i64 x11_1] (by rfl) rfl rfl zg ?_
      with_reducible refine (impl_one.calls x11_1 t297 _ A8.out).mono ?_
      rintro e w' ⟨rfl,⟨nd,rfl⟩⟩
      refine ⟨_,rfl,?_⟩
      have p9:0 ≤ (x11_1:Int):=zd
      have q9:(x11_1:Int) < ((x3_1.length:Int):Int):=zd
      obtain ⟨go9,co9,eo9,gb9,gl9,cl9,HG9⟩:=Kd.R_form HO_3.out (by omega)
      (first | cases eo9 | (injection eo9 with ea_ en_ ec_;(first | subst ea_ | (injection ea_ with ea_;subst ea_));subst ec_;clear en_))
      have GB9:=zA gb9
      have GG9:=zA HG9
      clear gb9 gl9 HG9
      (first | simp only [add_plain] at hx296_0 | skip)
      obtain ⟨hx9_0,hf9_0⟩:=Kd.R_celln 0 HO_3.out (x11_1:Int) p9 q9
      replace p9:=eq_true p9
      replace q9:=eq_true q9
      have HP11:=Kd.R_putn HO_3.out (x11_1:Int) (Go.bits .or .i64 (rd x3_1 x11_1) t297)
      rw [← Ny298.out] at HP11
      have HQ11:=zA HP11
      clear HP11
      refine hK.out _ _ (hHeld) (fun hHeld=>?_)
      clear hK K
      refine norm_ (a' := ?_) ?_ ?_
      rotate_left
      ·show Act.put _ (some 19) _ = _
       simp only [Act.put,zL,zM,zN,i64_w,i32_w]
       rfl
      refine zp 6 (some 20) #[true,true,true,true,true,true,true,false,false] HT_.out ?_
      refine zp 7 (some 21) #[true,true,true,true,true,true,true,true,false] HT_.out ?_
      refine last_ (i:=8) (N:=none) #[true,true,true,true,true,true,true,true,true] rfl rfl (one_of HT_.out (by kernel_rfl)) (by decide) (fun K hK=>?_)
      refine skip_ (w1:=?_) (by rfl) rfl ?_ ?_
      rotate_left
      ·go_simp
       rfl
      refine hK.out _ _ ?_
      clear hK K
      refine done_ (done_of HT_.out (by kernel_rfl)) ?_
      try go_wp2
      (try simp only [← hl3_1])
      go_roundg k1
      case measure=>have:=HK1.out;omega
      case rel=>exact ⟨(y298),(wrap64 (x11_1 + 1)),zs,H', ⟨by have:=HK1.out;omega⟩,⟨by (try simp only [hl3_1]);(with_reducible repeat (first | apply zF | apply zG | apply zH));exact HQ11.out⟩,⟨zT HB.out GB9.out⟩⟩
     rw [if_neg c7] at H
     exact absurd H (by simp)
    rw [if_neg c6] at H
    exact absurd H (by simp)
   rw [if_neg c5] at H
   have c5b0:decide (x11_1 < (t293.length:Int)) = false:=decide_eq_false c5
   (try (have c5b0h0_:=c5b0;rw [hl3_1] at c5b0h0_))
   clear c5
   have H' := zA H
   clear H
   go_wp2
   go_loopg [25] k1 (fun kq v25 w' => ∃ (x3_2:List Int) (x25_2:Int),v25 = .int .i64 x25_2 ∧ Aside0 (impl_closure.l1 kq x3_2 (x3_1.length:Int) x25_2 = some r) ∧ Aside0 (kq ≤ k1) ∧ Aside0 (Kd.R (Kd.int .i64) 2 w' w.heap.size (fun _=>True) (.slice Ao4 x3_1.length co4) x3_2) ∧ Aside0 (Below w.heap.size w w'))
   case atStart=>exact ⟨(x3_1),(0),zs,H', ⟨Nat.le_refl _⟩,⟨by (try simp only [hl3_1]);(with_reducible repeat (first | apply zF | apply zG | apply zH));exact HO_3.out⟩,⟨zQ HB.out⟩⟩
   case round =>
    clear H'
    try clear hx2
    try clear c3
    try clear c5
    try clear c6
    try clear c7
    try clear c8
    try clear hx9
    try clear hf9
    try clear hx296_0
    try clear hx9_0
    obtain ⟨x3_2,x25_2,rfl,HA,HK2,HO_3,HB⟩:=hrel
    have hl3_2:=(kB HO_3.out).1
    rw [hl3_2] at HO_3
    (try simp only [hl3_2])
    cases gk with
    | zero=>exact absurd HA.out (by simp [impl_closure.l1])
    | succ k2 =>
     have H:=HA.out
     clear HA
     simp only [impl_closure.l1] at H
     by_cases c12:x25_2 < (x3_1.length:Int)
     ·rw [if_pos c12] at H
      have c12b0:decide (x25_2 < (x3_1.length:Int)) = true:=decide_eq_true c12
      (try (have c12b0h0_:=c12b0;rw [hl3_1] at c12b0h0_))
      (try (have c12b0h1_:=c12b0;rw [hl3_2] at c12b0h1_))
      clear c12
      have H' := zA H
      clear H
      go_wp2
      go_loopg [30] k2 (fun kq v30 w' => ∃ (x3_3:List Int) (x30_3:Int),v30 = .int .i64 x30_3 ∧ Aside0 (impl_closure.l2 kq x3_3 x25_2 (x3_1.length:Int) x25_2 (x3_2.length:Int) x30_3 = some r) ∧ Aside0 (kq ≤ k2) ∧ Aside0 (Kd.R (Kd.int .i64) 2 w' w.heap.size (fun _=>True) (.slice Ao4 x3_2.length co4) x3_3) ∧ Aside0 (Below w.heap.size w w'))
      case atStart=>exact ⟨(x3_2),(0),zs,H', ⟨Nat.le_refl _⟩,⟨by (try simp only [hl3_1]);(try simp only [hl3_2]);(with_reducible repeat (first | apply zF | apply zG | apply zH));exact HO_3.out⟩,⟨zQ HB.out⟩⟩
      case round =>
       clear H'
       try clear c1
       try clear hx2
       try clear c3
       try clear c5
       try clear c6
       try clear c7
       try clear c8
       try clear hx9
       try clear hf9
       try clear c12
       try clear hx296_0
       try clear hx9_0
       obtain ⟨x3_3,x30_3,rfl,HA,HK3,HO_3,HB⟩:=hrel
       have hl3_3:=(kB HO_3.out).1
       rw [hl3_3] at HO_3
       (try simp only [hl3_3])
       cases gk with
       | zero=>exact absurd HA.out (by simp [impl_closure.l2])
       | succ k3 =>
        have H:=HA.out
        clear HA
        simp only [impl_closure.l2] at H
        by_cases c13:x30_3 < (x3_2.length:Int)
        ·rw [if_pos c13] at H
         have c13b0:decide (x30_3 < (x3_2.length:Int)) = true:=decide_eq_true c13
         (try (have c13b0h0_:=c13b0;rw [hl3_1] at c13b0h0_))
         (try (have c13b0h1_:=c13b0;rw [hl3_2] at c13b0h1_))
         (try (have c13b0h2_:=c13b0;rw [hl3_3] at c13b0h2_))
         clear c13
         by_cases c14:0 ≤ x30_3
         ·rw [if_pos c14] at H
          have c14b0:decide (0 ≤ x30_3) = true:=decide_eq_true c14
          clear c14
          by_cases c15:x30_3 < (x3_3.length:Int)
          ·rw [if_pos c15] at H
           have c15b0:decide (x30_3 < (x3_3.length:Int)) = true:=decide_eq_true c15
           (try (have c15b0h0_:=c15b0;rw [hl3_1] at c15b0h0_))
           (try (have c15b0h1_:=c15b0;rw [hl3_2] at c15b0h1_))
           (try (have c15b0h2_:=c15b0;rw [hl3_3] at c15b0h2_))
           clear c15
           obtain ⟨t300,A16,H⟩:=zb H
           try dsimp only at H
           by_cases c17:t300 = true
           ·subst c17
            rw [if_pos rfl] at H
            by_cases c18:0 ≤ x25_2
            ·rw [if_pos c18] at H
             have c18b0:decide (0 ≤ x25_2) = true:=decide_eq_true c18
             clear c18
             by_cases c19:x25_2 < (x3_3.length:Int)
             ·rw [if_pos c19] at H
              have c19b0:decide (x25_2 < (x3_3.length:Int)) = true:=decide_eq_true c19
              (try (have c19b0h0_:=c19b0;rw [hl3_1] at c19b0h0_))
              (try (have c19b0h1_:=c19b0;rw [hl3_2] at c19b0h1_))
              (try (have c19b0h2_:=c19b0;rw [hl3_3] at c19b0h2_))
              clear c19
              obtain ⟨y303,hy303⟩:∃ y_:List Int,y_ = (x3_3.set (x30_3:Int).toNat (Go.bits .or .i64 (rd x3_3 x30_3) (rd x3_3 x25_2))):=⟨_,rfl⟩
              replace H:(impl_closure.l2 k3 y303 x25_2 (x3_1.length:Int) x25_2 (x3_2.length:Int) (wrap64 (x30_3 + 1))) = some r:=zy hy303 H
              have Ny303:=zA hy303
              clear hy303
              have H' := zA H
              clear H
              have p299:0 ≤ (x30_3:Int):=zd
              have q299:x30_3 < (x3_3.length:Int):=zd
              obtain ⟨ad299,e299,hx299_0⟩:=Kd.at_int (kB HO_3.out).2.2 x30_3 p299 q299
              cases e299
              replace p299:=eq_true p299
              replace q299:=eq_true q299
              try go_wp2_with (first | (refine zO (some 38) Tryd.func69 #[.int .i64 (rd x3_3 x30_3),.int .i64 x25_2] ?_;(with_reducible refine (impl_has.calls (rd x3_3 x30_3) x25_2 true _ A16.out).mono ?_);rintro e w' ⟨rfl,⟨nd,rfl⟩⟩;refine ⟨_,rfl,?_⟩;(try (rw [drewN_self wr];generalize hq_:World.drewN wr _ = wr;have n0_:Aside0 (Kd.R (Kd.int .i64) 2 wr w.heap.size (fun _=>True) (.slice (some ad299) x3_3.length co4) x3_3):=⟨by rw [← hq_];exact (zP HO_3.out)⟩;have n1_:Aside0 (Below w.heap.size w wr):=⟨by rw [← hq_];exact (zQ HB.out)⟩;clear HO_3 HB hq_;have HO_3:=n0_;have HB:=n1_;clear n0_ n1_))))
              replace HO_3:=zA (zH HO_3.out)
              replace HB:=zA (zD HB.out)
              have p301:0 ≤ (x30_3:Int):=zd
              have q301:x30_3 < (x3_3.length:Int):=zd
              obtain ⟨ad301,e301,hx301_0⟩:=Kd.at_int (kB HO_3.out).2.2 x30_3 p301 q301
              obtain rfl:ad299 = ad301:=(by injection e301)
              replace p301:=eq_true p301
              replace q301:=eq_true q301
              have p302:0 ≤ (x25_2:Int):=zd
              have q302:x25_2 < (x3_3.length:Int):=zd
              obtain ⟨ad302,e302,hx302_0⟩:=Kd.at_int (kB HO_3.out).2.2 x25_2 p302 q302
              obtain rfl:ad299 = ad302:=(by injection e302)
              replace p302:=eq_true p302
              replace q302:=eq_true q302
              have p20:0 ≤ (x30_3:Int):=zd
              have q20:(x30_3:Int) < ((x3_3.length:Int):Int):=zd
              obtain ⟨go20,co20,eo20,gb20,gl20,cl20,HG20⟩:=Kd.R_form HO_3.out (by omega)
              (first | cases eo20 | (injection eo20 with ea_ en_ ec_;(first | subst ea_ | (injection ea_ with ea_;subst ea_));subst ec_;clear en_))
              have GB20:=zA gb20
              have GG20:=zA HG20
              clear gb20 gl20 HG20
              (first | simp only [add_plain] at hx299_0 | skip)
              (first | simp only [add_plain] at hx301_0 | skip)
              (first | simp only [add_plain] at hx302_0 | skip)
              obtain ⟨hx20_0,hf20_0⟩:=Kd.R_celln 0 HO_3.out (x30_3:Int) p20 q20
              replace p20:=eq_true p20
              replace q20:=eq_true q20
              have HP22:=Kd.R_putn HO_3.out (x30_3:Int) (Go.bits .or .i64 (rd x3_3 x30_3) (rd x3_3 x25_2))
              rw [← Ny303.out] at HP22
              have HQ22:=zA HP22
              clear HP22
              refine start_ (n:=11) (S:=fun w' => w'.cell? ⟨go20,(x30_3).toNat,none⟩ = some (.int .i64 (rd x3_3 x30_3)) ∧ w'.cell? ⟨go20,(x25_2).toNat,none⟩ = some (.int .i64 (rd x3_3 x25_2))) (ds:=[10]) #[false,false,false,false,false,false,false,false,false,false,false] (by kernel_rfl) rfl rfl ⟨hx301_0,hx302_0⟩ (fun hHeld=>?_);refine with_tabW impl_closure.tab14 impl_closure.bits14 (fun HT_ HW_=>?_)
              generalize wr.drew = w21 at HO_3 HB GG20 HQ22 hf20_0 hx20_0 hx299_0 hx301_0 hx302_0 hHeld ⊢
              refine zp 0 (some 39) #[true,false,false,false,false,false,false,false,false,false,false] HT_.out ?_
              refine zp 1 (some 40) #[true,true,false,false,false,false,false,false,false,false,false] HT_.out ?_
              refine zp 2 (some 41) #[true,true,true,false,false,false,false,false,false,false,false] HT_.out ?_
              refine zp 4 (some 43) #[true,true,true,false,true,false,false,false,false,false,false] HT_.out ?_
              refine zp 5 (some 44) #[true,true,true,false,true,true,false,false,false,false,false] HT_.out ?_
              refine zp 6 (some 45) #[true,true,true,false,true,true,true,false,false,false,false] HT_.out ?_
              refine zc 3 (some 42) #[true,true,true,true,true,true,true,false,false,false,false] HT_.out HW_.out hHeld ?_
              refine zc 7 (some 46) #[true,true,true,true,true,true,true,true,false,false,false] HT_.out HW_.out hHeld ?_
              refine zp 8 (some 47) #[true,true,true,true,true,true,true,true,true,false,false] HT_.out ?_
              refine zp 9 (some 48) #[true,true,true,true,true,true,true,true,true,true,false] HT_.out ?_
              refine last_ (i:=10) (N:=none) #[true,true,true,true,true,true,true,true,true,true,true] rfl rfl (one_of HT_.out (by kernel_rfl)) (by decide) (fun K hK=>?_)
              refine skip_ (w1:=?_) (by rfl) rfl ?_ ?_
              rotate_left
              ·go_simp
               rfl
              refine hK.out _ _ ?_
              clear hK K
              refine done_ (done_of HT_.out (by kernel_rfl)) ?_
              try go_wp2
              (try simp only [← hl3_3])
              go_roundg k3
              case measure=>have:=HK1.out;have:=HK2.out;have:=HK3.out;omega
              case rel=>exact ⟨(y303),(wrap64 (x30_3 + 1)),zs,H', ⟨by have:=HK1.out;have:=HK2.out;have:=HK3.out;omega⟩,⟨by (try simp only [hl3_1]);(try simp only [hl3_2]);(try simp only [hl3_3]);(with_reducible repeat (first | apply zF | apply zG | apply zH));exact HQ22.out⟩,⟨zT HB.out GB20.out⟩⟩
             rw [if_neg c19] at H
             exact absurd H (by simp)
            rw [if_neg c18] at H
            exact absurd H (by simp)
           replace c17:=Bool.eq_false_iff.mpr c17
           subst c17
           rw [if_neg (show ¬ (false = true) by decide)] at H
           have H' := zA H
           clear H
           have p299:0 ≤ (x30_3:Int):=zd
           have q299:x30_3 < (x3_3.length:Int):=zd
           obtain ⟨ad299,e299,hx299_0⟩:=Kd.at_int (kB HO_3.out).2.2 x30_3 p299 q299
           cases e299
           replace p299:=eq_true p299
           replace q299:=eq_true q299
           go_wp2_with (first | (refine zO (some 38) Tryd.func69 #[.int .i64 (rd x3_3 x30_3),.int .i64 x25_2] ?_;(with_reducible refine (impl_has.calls (rd x3_3 x30_3) x25_2 false _ A16.out).mono ?_);rintro e w' ⟨rfl,⟨nd,rfl⟩⟩;refine ⟨_,rfl,?_⟩))
           (try simp only [← hl3_3])
           go_roundg k3
           case measure=>have:=HK1.out;have:=HK2.out;have:=HK3.out;omega
           case rel=>exact ⟨(x3_3),(wrap64 (x30_3 + 1)),zs,H', ⟨by have:=HK1.out;have:=HK2.out;have:=HK3.out;omega⟩,⟨by (try simp only [hl3_1]);(try simp only [hl3_2]);(try simp only [hl3_3]);(with_reducible repeat (first | apply zF | apply zG | apply zH));exact HO_3.out⟩,⟨zQ HB.out⟩⟩
          rw [if_neg c15] at H
          exact absurd H (by simp)
         rw [if_neg c14] at H
         exact absurd H (by simp)
        rw [if_neg c13] at H
        have c13b0:decide (x30_3 < (x3_2.length:Int)) = false:=decide_eq_false c13
        (try (have c13b0h0_:=c13b0;rw [hl3_1] at c13b0h0_))
        (try (have c13b0h1_:=c13b0;rw [hl3_2] at c13b0h1_))
        (try (have c13b0h2_:=c13b0;rw [hl3_3] at c13b0h2_))
        clear c13
        have H' := zA H
        clear H
        go_wp2
        (try simp only [← hl3_2,← hl3_3])
        go_roundg k3
        case measure=>have:=HK1.out;have:=HK2.out;have:=HK3.out;omega
        case rel=>exact ⟨(x3_3),(wrap64 (x25_2 + 1)),zs,H', ⟨by have:=HK1.out;have:=HK2.out;have:=HK3.out;omega⟩,⟨by (try simp only [hl3_1]);(try simp only [hl3_2]);(try simp only [hl3_3]);(with_reducible repeat (first | apply zF | apply zG | apply zH));exact HO_3.out⟩,⟨zQ HB.out⟩⟩
     rw [if_neg c12] at H
     have c12b0:decide (x25_2 < (x3_1.length:Int)) = false:=decide_eq_false c12
     (try (have c12b0h0_:=c12b0;rw [hl3_1] at c12b0h0_))
     (try (have c12b0h1_:=c12b0;rw [hl3_2] at c12b0h1_))
     (try (have c12b0h2_:=c12b0;rw [hl3_3] at c12b0h2_))
     clear c12
     obtain rfl:=Option.some.inj H
     go_wp2
     go_ret
     exact ⟨_,zr,zP HO_3.out,zQ HB.out⟩
mutual
def impl_ties_orderOf.l0:Nat → List Int → List Int → List Int → List Int → Int → Int → Option (List Int)
 | 0,_,_,_,_,_,_=>none
 | k + 1,x0,x1,x5,x12,x13,x14=>if x14 < x13 then (if 0 ≤ x14 then (if x14 < (x12.length:Int) then (impl_ties_orderOf.l1 k x0 x1 x5 x14 (rd x12 x14) (wrap64 (x14 + 1)) x12 x13 x14) else (none)) else (none)) else ((impl_closure.f k x5).bind fun t307=>(some t307))
def impl_ties_orderOf.l1:Nat → List Int → List Int → List Int → Int → Int → Int → List Int → Int → Int → Option (List Int)
 | 0,_,_,_,_,_,_,_,_,_=>none
 | k + 1,x0,x1,x5,x6,x7,x8,x12,x13,x14=>if x8 < (x1.length:Int) then (if 0 ≤ x7 then (if x7 < (x0.length:Int) then (if 0 ≤ x8 then ((impl_has.f (rd x0 x7) (rd x1 x8)).bind fun t313=>(if t313 = true then (if 0 ≤ x6 then (if x6 < (x5.length:Int) then ((impl_one.f x8).bind fun t315=>(impl_ties_orderOf.l1 k x0 x1 (x5.set (x6:Int).toNat (Go.bits .or .i64 (rd x5 x6) t315)) x6 x7 (wrap64 (x8 + 1)) x12 x13 x14)) else (none)) else (none)) else (impl_ties_orderOf.l1 k x0 x1 x5 x6 x7 (wrap64 (x8 + 1)) x12 x13 x14))) else (none)) else (none)) else (none)) else (impl_ties_orderOf.l0 k x0 x1 x5 x12 x13 (wrap64 (x14 + 1)))
end
def impl_ties_orderOf.f (k:Nat) (l0:List Int) (l1:List Int):Option (List Int):=if 0 ≤ (l1.length:Int) then (if ((l1.length:Int):Int).toNat ≤ 35184372088832 then (impl_ties_orderOf.l0 k l0 l1 (List.replicate ((l1.length:Int):Int).toNat 0) l1 (l1.length:Int) 0) else (none)) else (none)
def impl_ties_orderOf.T8:Bool × List (List Nat × List Nat):=(true,[([],[]),([],[]),([0,1],[0,1]),([2],[2]),([],[]),([],[]),([4,5],[4,5]),([6],[6]),([3,7],[3,7])])
def impl_ties_orderOf.B8:List Nat:=[0,0,3,7,0,0,48,112,255]
theorem impl_ties_orderOf.tab8:rtab .any (opsOf Tryd.f52 8) = impl_ties_orderOf.T8:=by kernel_rfl
theorem impl_ties_orderOf.bits8:waitsOk impl_ties_orderOf.T8.2 impl_ties_orderOf.B8 = true:=by kernel_rfl
def impl_ties_orderOf.T9:Bool × List (List Nat × List Nat):=(true,[([],[]),([],[]),([0,1],[0,1]),([2],[2]),([],[]),([4],[4]),([3,5],[3,5]),([0,1,0,1,2,3,4,5,6],[0,1]),([7,6,5,0,1,2,3,4,5,6],[6,7])])
def impl_ties_orderOf.B9:List Nat:=[0,0,3,7,0,16,63,127,255]
theorem impl_ties_orderOf.tab9:rtab .any (opsOf Tryd.f52 9) = impl_ties_orderOf.T9:=by kernel_rfl
theorem impl_ties_orderOf.bits9:waitsOk impl_ties_orderOf.T9.2 impl_ties_orderOf.B9 = true:=by kernel_rfl
set_option maxHeartbeats 8000000 in
set_option maxRecDepth 100000 in
theorem impl_ties_orderOf.calls (k:Nat) (A0:Option Addr) (c0:Nat) (l0:List Int) (A1:Option Addr) (c1:Nat) (l1:List Int) (r:List Int) (w:World) (hr0:Kd.C (Kd.int .i64) w A0 l0.length l0) (hc0:l0.length ≤ c0) (hr1:Kd.C (Kd.int .i64) w A1 l1.length l1) (hc1:l1.length ≤ c1) (h:impl_ties_orderOf.f k l0 l1 = some r) :
  Calls Tryd.prog 52 #[.slice A0 l0.length c0,.slice A1 l1.length c1] w fun e w' => ∃ v0_:Value,e = .returned (v0_) ∧ Kd.R (Kd.int .i64) 2 w' w.heap.size (fun _=>True) v0_ r ∧ Below w.heap.size w w' := by
 have HR0:=zA hr0
 have HC0:=zA hc0
 clear hr0 hc0
 have HR1:=zA hr1
 have HC1:=zA hc1
 clear hr1 hc1
 have HB:=zA (kW w.heap.size w)
 have H:=h
 unfold impl_ties_orderOf.f at H
 clear h
 by_cases c3:0 ≤ (l1.length:Int)
 ·rw [if_pos c3] at H
  have c3b0:=eq_true c3
  have c3b1:decide (0 ≤ (l1.length:Int)) = true:=decide_eq_true c3
  clear c3
  by_cases c4:((l1.length:Int):Int).toNat ≤ 35184372088832
  ·rw [if_pos c4] at H
   have c4b0:=eq_true c4
   have c4b1:decide (((l1.length:Int):Int).toNat ≤ 35184372088832) = true:=decide_eq_true c4
   clear c4
   obtain ⟨y304,hy304⟩:∃ y_:List Int,y_ = (List.replicate ((l1.length:Int):Int).toNat 0):=⟨_,rfl⟩
   replace H:(impl_ties_orderOf.l0 k l0 l1 y304 l1 (l1.length:Int) 0) = some r:=zy hy304 H
   have Ny304:=zA hy304
   clear hy304
   have H' := zA H
   clear H
   go_enter Tryd.func52,Tryd.ntmps52
   go_wp2_with (first | ((with_reducible refine kS (N:=11) rfl ?_);refine Kd.R_make (Kd.int .i64) _ 2 rfl (N:=11) rfl 22 _ _ rfl (l1.length:Int) rfl rfl Tryd.underlying22 (.int .i64 0) 8 info2 rfl (by decide) (by omega) 0 (ok:=fun _=>True) (okp:=fun _=>True) rfl (fun _ hk=>hk) trivial (zd) (Nat.le_trans (Nat.mul_le_mul_right _ (zd:(l1.length:Int).toNat ≤ 35184372088832)) (by omega)) (kW _ _) (Nat.le_refl _) ?_;intro v305 w5 ho6 hb hg_ hnew_;clear hg_ hnew_;(first | rw [← Ny304.out] at ho6 | (simp only [Int.reduceToNat] at ho6;rw [← Ny304.out] at ho6));have HO306:=zA (kI ho6 (kP (zQ HB.out)));replace HB:=zA (kQ (zQ HB.out) hb);clear hb ho6))
   go_loopg [14] k (fun kq v14 w' => ∃ (x5_1:List Int) (x14_1:Int),v14 = .int .i64 x14_1 ∧ Aside0 (impl_ties_orderOf.l0 kq l0 l1 x5_1 l1 (l1.length:Int) x14_1 = some r) ∧ Aside0 (kq ≤ k) ∧ Aside0 (Kd.R (Kd.int .i64) 2 w' w.heap.size (fun _=>True) v305 x5_1) ∧ Aside0 (Below w.heap.size w w'))
   case atStart=>exact ⟨(y304),(0),zs,H', ⟨Nat.le_refl _⟩,⟨zP HO306.out⟩,⟨zQ HB.out⟩⟩
   case round =>
    clear H'
    try clear c1
    try clear c3
    try clear c4
    try clear c5
    obtain ⟨x5_1,x14_1,rfl,HA,HK1,HO_5,HB⟩:=hrel
    cases gk with
    | zero=>exact absurd HA.out (by simp [impl_ties_orderOf.l0])
    | succ k1 =>
     have H:=HA.out
     clear HA
     simp only [impl_ties_orderOf.l0] at H
     by_cases c7:x14_1 < (l1.length:Int)
     ·rw [if_pos c7] at H
      have c7b0:decide (x14_1 < (l1.length:Int)) = true:=decide_eq_true c7
      clear c7
      by_cases c8:0 ≤ x14_1
      ·rw [if_pos c8] at H
       have c8b0:decide (0 ≤ x14_1) = true:=decide_eq_true c8
       clear c8
       by_cases c9:x14_1 < (l1.length:Int)
       ·rw [if_pos c9] at H
        have c9b0:decide (x14_1 < (l1.length:Int)) = true:=decide_eq_true c9
        clear c9
        have H' := zA H
        clear H
        have p310:0 ≤ (x14_1:Int):=zd
        have q310:x14_1 < (l1.length:Int):=zd
        obtain ⟨ad310,e310,hx310_0⟩:=Kd.at_int HR1.out x14_1 p310 q310
        cases e310
        replace hx310_0:=(HB.out.cell (jG w _ hx310_0)).trans hx310_0
        replace p310:=eq_true p310
        replace q310:=eq_true q310
        go_wp2
        go_loopg [8] k1 (fun kq v8 w' => ∃ (x5_2:List Int) (x8_2:Int),v8 = .int .i64 x8_2 ∧ Aside0 (impl_ties_orderOf.l1 kq l0 l1 x5_2 x14_1 (rd l1 x14_1) x8_2 l1 (l1.length:Int) x14_1 = some r) ∧ Aside0 (kq ≤ k1) ∧ Aside0 (Kd.R (Kd.int .i64) 2 w' w.heap.size (fun _=>True) v305 x5_2) ∧ Aside0 (Below w.heap.size w w'))
        case atStart=>exact ⟨(x5_1),(wrap64 (x14_1 + 1)),zs,H', ⟨Nat.le_refl _⟩,⟨zP HO_5.out⟩,⟨zQ HB.out⟩⟩
        case round =>
         clear H'
         try clear c1
         try clear c3
         try clear hx3
         try clear c4
         try clear c5
         try clear c7
         try clear c8
         try clear c9
         try clear hx310_0
         obtain ⟨x5_2,x8_2,rfl,HA,HK2,HO_5,HB⟩:=hrel
         cases gk with
         | zero=>exact absurd HA.out (by simp [impl_ties_orderOf.l1])
         | succ k2 =>
          have H:=HA.out
          clear HA
          simp only [impl_ties_orderOf.l1] at H
          by_cases c10:x8_2 < (l1.length:Int)
          ·rw [if_pos c10] at H
           have c10b0:decide (x8_2 < (l1.length:Int)) = true:=decide_eq_true c10
           clear c10
           by_cases c11:0 ≤ (rd l1 x14_1)
           ·rw [if_pos c11] at H
            have c11b0:decide (0 ≤ (rd l1 x14_1)) = true:=decide_eq_true c11
            clear c11
            by_cases c12:(rd l1 x14_1) < (l0.length:Int)
            ·rw [if_pos c12] at H
             have c12b0:decide ((rd l1 x14_1) < (l0.length:Int)) = true:=decide_eq_true c12
             clear c12
             by_cases c13:0 ≤ x8_2
             ·rw [if_pos c13] at H
              have c13b0:decide (0 ≤ x8_2) = true:=decide_eq_true c13
              clear c13
              obtain ⟨t313,A14,H⟩:=zb H
              try dsimp only at H
              by_cases c15:t313 = true
              ·subst c15
               rw [if_pos rfl] at H
               by_cases c16:0 ≤ x14_1
               ·rw [if_pos c16] at H
                have c16b0:decide (0 ≤ x14_1) = true:=decide_eq_true c16
                clear c16
                by_cases c17:x14_1 < (x5_2.length:Int)
                ·rw [if_pos c17] at H
                 have c17b0:decide (x14_1 < (x5_2.length:Int)) = true:=decide_eq_true c17
                 clear c17
                 obtain ⟨t315,A18,H⟩:=zb H
                 try dsimp only at H
                 obtain ⟨y316,hy316⟩:∃ y_:List Int,y_ = (x5_2.set (x14_1:Int).toNat (Go.bits .or .i64 (rd x5_2 x14_1) t315)):=⟨_,rfl⟩
                 replace H:(impl_ties_orderOf.l1 k2 l0 l1 y316 x14_1 (rd l1 x14_1) (wrap64 (x8_2 + 1)) l1 (l1.length:Int) x14_1) = some r:=zy hy316 H
                 have Ny316:=zA hy316
                 clear hy316
                 have H' := zA H
                 clear H
                 try go_wp2
                 replace HO_5:=zA (zH HO_5.out)
                 replace HB:=zA (zD HB.out)
                 have p311:0 ≤ ((rd l1 x14_1):Int):=zd
                 have q311:(rd l1 x14_1) < (l0.length:Int):=zd
                 obtain ⟨ad311,e311,hx311_0⟩:=Kd.at_int HR0.out (rd l1 x14_1) p311 q311
                 have hw311_0:=hx311_0
                 cases e311
                 replace hx311_0:=(HB.out.cell (jG w _ hx311_0)).trans hx311_0
                 replace p311:=eq_true p311
                 replace q311:=eq_true q311
                 have p312:0 ≤ (x8_2:Int):=zd
                 have q312:x8_2 < (l1.length:Int):=zd
                 obtain ⟨ad312,e312,hx312_0⟩:=Kd.at_int HR1.out x8_2 p312 q312
                 have hw312_0:=hx312_0
                 obtain rfl:ad310 = ad312:=(by injection e312)
                 replace hx312_0:=(HB.out.cell (jG w _ hx312_0)).trans hx312_0
                 replace p312:=eq_true p312
                 replace q312:=eq_true q312
                 refine start_ (n:=9) (S:=fun w' => w'.cell? (ad311.add ((rd l1 x14_1)).toNat) = some (.int .i64 (rd l0 (rd l1 x14_1))) ∧ w'.cell? (ad310.add (x8_2).toNat) = some (.int .i64 (rd l1 x8_2))) (ds:=[]) #[false,false,false,false,false,false,false,false,false] (by kernel_rfl) rfl rfl ⟨(pw_cell_below HB.out hw311_0),(pw_cell_below HB.out hw312_0)⟩ (fun hHeld=>?_);refine with_tabW impl_ties_orderOf.tab8 impl_ties_orderOf.bits8 (fun HT_ HW_=>?_)
                 generalize wr.drew = w20 at HO_5 HB hx311_0 hx312_0 hHeld ⊢
                 refine zp 0 (some 27) #[true,false,false,false,false,false,false,false,false] HT_.out ?_
                 refine zp 1 (some 28) #[true,true,false,false,false,false,false,false,false] HT_.out ?_
                 refine zp 2 (some 29) #[true,true,true,false,false,false,false,false,false] HT_.out ?_
                 refine zp 4 (some 31) #[true,true,true,false,true,false,false,false,false] HT_.out ?_
                 refine zp 5 (some 32) #[true,true,true,false,true,true,false,false,false] HT_.out ?_
                 refine zp 6 (some 33) #[true,true,true,false,true,true,true,false,false] HT_.out ?_
                 refine zc 3 (some 30) #[true,true,true,true,true,true,true,false,false] HT_.out HW_.out hHeld ?_
                 refine zc 7 (some 34) #[true,true,true,true,true,true,true,true,false] HT_.out HW_.out hHeld ?_
                 refine one_ (i:=8) (N:=some 35) #[true,true,true,true,true,true,true,true,true] rfl rfl (one_of HT_.out (by kernel_rfl)) (by decide) (fun K hK=>?_)
                 refine goes_ Tryd.func69 (by kernel_rfl) rfl #[.int .i64 (rd l0 (rd l1 x14_1)),.int .i64 (rd l1 x8_2)] (by rfl) rfl rfl zg ?_
                 with_reducible refine (impl_has.calls (rd l0 (rd l1 x14_1)) (rd l1 x8_2) true _ A14.out).mono ?_
                 rintro e w' ⟨rfl,⟨nd,rfl⟩⟩
                 refine ⟨_,rfl,?_⟩
                 refine hK.out _ _ ⟨(pw_cell_below HB.out hw311_0),(pw_cell_below HB.out hw312_0)⟩ (fun hHeld=>?_)
                 clear hK K
                 refine norm_ (a' := ?_) ?_ ?_
                 rotate_left
                 ·show Act.put _ (some 35) _ = _
                  simp only [Act.put,zL,zM,zN,i64_w,i32_w]
                  rfl
                 refine done_ (done_of HT_.out (by kernel_rfl)) ?_
                 try go_wp2
                 (try (rw [drewN_self w20];generalize hq_:World.drewN w20 _ = w20;have n0_:Aside0 (Kd.R (Kd.int .i64) 2 w20 w.heap.size (fun _=>True) v305 x5_2):=⟨by rw [← hq_];exact (zP HO_5.out)⟩;have n1_:Aside0 (Below w.heap.size w w20):=⟨by rw [← hq_];exact (zQ HB.out)⟩;clear HO_5 HB hq_;have HO_5:=n0_;have HB:=n1_;clear n0_ n1_))
                 replace HO_5:=zA (zH HO_5.out)
                 replace HB:=zA (zD HB.out)
                 obtain ⟨Ao22,co22,eo22⟩:=kM HO_5.out
                 (first | subst eo22 | (injection eo22 with f1_ f2_ f3_;have f4_:=f1_.symm;have f5_:=f3_.symm;clear f1_ f2_ f3_;subst f4_;subst f5_))
                 have p314:0 ≤ (x14_1:Int):=zd
                 have q314:x14_1 < (x5_2.length:Int):=zd
                 obtain ⟨ad314,e314,hx314_0⟩:=Kd.at_int (kB HO_5.out).2.2 x14_1 p314 q314
                 cases e314
                 replace p314:=eq_true p314
                 replace q314:=eq_true q314
                 refine start_ (n:=9) (S:=fun w' => w'.cell? (ad314.add (x14_1).toNat) = some (.int .i64 (rd x5_2 x14_1))) (ds:=[8]) #[false,false,false,false,false,false,false,false,false] (by kernel_rfl) rfl rfl (hx314_0) (fun hHeld=>?_);refine with_tabW impl_ties_orderOf.tab9 impl_ties_orderOf.bits9 (fun HT_ HW_=>?_)
                 generalize w20.drew = w21 at HO_5 HB hx314_0 hHeld ⊢
                 refine zp 0 (some 36) #[true,false,false,false,false,false,false,false,false] HT_.out ?_
                 refine zp 1 (some 37) #[true,true,false,false,false,false,false,false,false] HT_.out ?_
                 refine zp 2 (some 38) #[true,true,true,false,false,false,false,false,false] HT_.out ?_
                 refine zp 4 (some 40) #[true,true,true,false,true,false,false,false,false] HT_.out ?_
                 refine za 3 (some 39) #[true,true,true,true,true,false,false,false,false] HT_.out HW_.out hHeld ?_
                 refine one_ (i:=5) (N:=some 41) #[true,true,true,true,true,true,false,false,false] rfl rfl (one_of HT_.out (by kernel_rfl)) (by decide) (fun K hK=>?_)
                 refine goes_ Tryd.func33 (by kernel_rfl) rfl #[.int .i64 x8_2] (by rfl) rfl rfl zg ?_
                 with_reducible refine (impl_one.calls x8_2 t315 _ A18.out).mono ?_
                 rintro e w' ⟨rfl,⟨nd,rfl⟩⟩
                 refine ⟨_,rfl,?_⟩
                 have p19:0 ≤ (x14_1:Int):=zd
                 have q19:(x14_1:Int) < ((x5_2.length:Int):Int):=zd
                 obtain ⟨go19,co19,eo19,gb19,gl19,cl19,HG19⟩:=Kd.R_form HO_5.out (by omega)
                 (first | cases eo19 | (injection eo19 with ea_ en_ ec_;(first | subst ea_ | (injection ea_ with ea_;subst ea_));subst ec_;clear en_))
                 have GB19:=zA gb19
                 have GG19:=zA HG19
                 clear gb19 gl19 HG19
                 (first | simp only [add_plain] at hx314_0 | skip)
                 obtain ⟨hx19_0,hf19_0⟩:=Kd.R_celln 0 HO_5.out (x14_1:Int) p19 q19
                 replace p19:=eq_true p19
                 replace q19:=eq_true q19
                 have HP23:=Kd.R_putn HO_5.out (x14_1:Int) (Go.bits .or .i64 (rd x5_2 x14_1) t315)
                 rw [← Ny316.out] at HP23
                 have HQ23:=zA HP23
                 clear HP23
                 refine hK.out _ _ (hHeld) (fun hHeld=>?_)
                 clear hK K
                 refine norm_ (a' := ?_) ?_ ?_
                 rotate_left
                 ·show Act.put _ (some 41) _ = _
                  simp only [Act.put,zL,zM,zN,i64_w,i32_w]
                  rfl
                 refine zp 6 (some 42) #[true,true,true,true,true,true,true,false,false] HT_.out ?_
                 refine zp 7 (some 43) #[true,true,true,true,true,true,true,true,false] HT_.out ?_
                 refine last_ (i:=8) (N:=none) #[true,true,true,true,true,true,true,true,true] rfl rfl (one_of HT_.out (by kernel_rfl)) (by decide) (fun K hK=>?_)
                 refine skip_ (w1:=?_) (by rfl) rfl ?_ ?_
                 rotate_left
                 ·go_simp
                  rfl
                 refine hK.out _ _ ?_
                 clear hK K
                 refine done_ (done_of HT_.out (by kernel_rfl)) ?_
                 try go_wp2
                 go_roundg k2
                 case measure=>have:=HK1.out;have:=HK2.out;omega
                 case rel=>exact ⟨(y316),(wrap64 (x8_2 + 1)),zs,H', ⟨by have:=HK1.out;have:=HK2.out;omega⟩,⟨zP HQ23.out⟩,⟨zT HB.out GB19.out⟩⟩
                rw [if_neg c17] at H
                exact absurd H (by simp)
               rw [if_neg c16] at H
               exact absurd H (by simp)
              replace c15:=Bool.eq_false_iff.mpr c15
              subst c15
              rw [if_neg (show ¬ (false = true) by decide)] at H
              have H' := zA H
              clear H
              try go_wp2
              replace HO_5:=zA (zH HO_5.out)
              replace HB:=zA (zD HB.out)
              have p311:0 ≤ ((rd l1 x14_1):Int):=zd
              have q311:(rd l1 x14_1) < (l0.length:Int):=zd
              obtain ⟨ad311,e311,hx311_0⟩:=Kd.at_int HR0.out (rd l1 x14_1) p311 q311
              have hw311_0:=hx311_0
              cases e311
              replace hx311_0:=(HB.out.cell (jG w _ hx311_0)).trans hx311_0
              replace p311:=eq_true p311
              replace q311:=eq_true q311
              have p312:0 ≤ (x8_2:Int):=zd
              have q312:x8_2 < (l1.length:Int):=zd
              obtain ⟨ad312,e312,hx312_0⟩:=Kd.at_int HR1.out x8_2 p312 q312
              have hw312_0:=hx312_0
              obtain rfl:ad310 = ad312:=(by injection e312)
              replace hx312_0:=(HB.out.cell (jG w _ hx312_0)).trans hx312_0
              replace p312:=eq_true p312
              replace q312:=eq_true q312
              refine start_ (n:=9) (S:=fun w' => w'.cell? (ad311.add ((rd l1 x14_1)).toNat) = some (.int .i64 (rd l0 (rd l1 x14_1))) ∧ w'.cell? (ad310.add (x8_2).toNat) = some (.int .i64 (rd l1 x8_2))) (ds:=[]) #[false,false,false,false,false,false,false,false,false] (by kernel_rfl) rfl rfl ⟨(pw_cell_below HB.out hw311_0),(pw_cell_below HB.out hw312_0)⟩ (fun hHeld=>?_);refine with_tabW impl_ties_orderOf.tab8 impl_ties_orderOf.bits8 (fun HT_ HW_=>?_)
              generalize wr.drew = w24 at HO_5 HB hx311_0 hx312_0 hHeld ⊢
              refine zp 0 (some 27) #[true,false,false,false,false,false,false,false,false] HT_.out ?_
              refine zp 1 (some 28) #[true,true,false,false,false,false,false,false,false] HT_.out ?_
              refine zp 2 (some 29) #[true,true,true,false,false,false,false,false,false] HT_.out ?_
              refine zp 4 (some 31) #[true,true,true,false,true,false,false,false,false] HT_.out ?_
              refine zp 5 (some 32) #[true,true,true,false,true,true,false,false,false] HT_.out ?_
              refine zp 6 (some 33) #[true,true,true,false,true,true,true,false,false] HT_.out ?_
              refine zc 3 (some 30) #[true,true,true,true,true,true,true,false,false] HT_.out HW_.out hHeld ?_
              refine zc 7 (some 34) #[true,true,true,true,true,true,true,true,false] HT_.out HW_.out hHeld ?_
              refine one_ (i:=8) (N:=some 35) #[true,true,true,true,true,true,true,true,true] rfl rfl (one_of HT_.out (by kernel_rfl)) (by decide) (fun K hK=>?_)
              refine goes_ Tryd.func69 (by kernel_rfl) rfl #[.int .i64 (rd l0 (rd l1 x14_1)),.int .i64 (rd l1 x8_2)] (by rfl) rfl rfl zg ?_
              with_reducible refine (impl_has.calls (rd l0 (rd l1 x14_1)) (rd l1 x8_2) false _ A14.out).mono ?_
              rintro e w' ⟨rfl,⟨nd,rfl⟩⟩
              refine ⟨_,rfl,?_⟩
              refine hK.out _ _ ⟨(pw_cell_below HB.out hw311_0),(pw_cell_below HB.out hw312_0)⟩ (fun hHeld=>?_)
              clear hK K
              refine norm_ (a' := ?_) ?_ ?_
              rotate_left
              ·show Act.put _ (some 35) _ = _
               simp only [Act.put,zL,zM,zN,i64_w,i32_w]
               rfl
              refine done_ (done_of HT_.out (by kernel_rfl)) ?_
              try go_wp2
              go_roundg k2
              case measure=>have:=HK1.out;have:=HK2.out;omega
              case rel=>exact ⟨(x5_2),(wrap64 (x8_2 + 1)),zs,H', ⟨by have:=HK1.out;have:=HK2.out;omega⟩,⟨zP HO_5.out⟩,⟨zQ HB.out⟩⟩
             rw [if_neg c13] at H
             exact absurd H (by simp)
            rw [if_neg c12] at H
            exact absurd H (by simp)
           rw [if_neg c11] at H
           exact absurd H (by simp)
          rw [if_neg c10] at H
          have c10b0:decide (x8_2 < (l1.length:Int)) = false:=decide_eq_false c10
          clear c10
          have H' := zA H
          clear H
          go_wp2
          go_roundg k2
          case measure=>have:=HK1.out;have:=HK2.out;omega
          case rel=>exact ⟨(x5_2),(wrap64 (x14_1 + 1)),zs,H', ⟨by have:=HK1.out;have:=HK2.out;omega⟩,⟨zP HO_5.out⟩,⟨zQ HB.out⟩⟩
       rw [if_neg c9] at H
       exact absurd H (by simp)
      rw [if_neg c8] at H
      exact absurd H (by simp)
     rw [if_neg c7] at H
     have c7b0:decide (x14_1 < (l1.length:Int)) = false:=decide_eq_false c7
     clear c7
     obtain ⟨t307,A25,H⟩:=zb H
     try dsimp only at H
     obtain rfl:=Option.some.inj H
     obtain ⟨Ao26,co26,eo26⟩:=kM HO_5.out
     subst eo26
     go_wp2_with (first | (refine zO (some 46) Tryd.func72 #[.slice Ao26 x5_1.length co26] ?_;(with_reducible refine (impl_closure.calls k1 _ _ x5_1 t307 _ ?side1 ?side2 A25.out).mono ?_);(case side1=>exact zS (kB HO_5.out).2.2);(case side2=>exact (kB HO_5.out).2.1);rintro e w27 ⟨v308,rfl,ho0,hb⟩;refine ⟨_,rfl,?_⟩;have HO309:=zA (kI (kF ho0 (kH (zP HO_5.out))) (kP (zQ HB.out)));replace HO_5:=zA (kE (zP HO_5.out) (kC ho0) hb);replace HB:=zA (kQ (zQ HB.out) hb);(try clear hb);(try clear ho0)))
     go_ret
     exact ⟨_,zr,by (with_reducible repeat (first | apply zF | apply zG | apply zH));exact kA HO309.out (fun _ hk=>trivial),zQ HB.out⟩
  rw [if_neg c4] at H
  exact absurd H (by simp)
 rw [if_neg c3] at H
 exact absurd H (by simp)
def impl_positions.f (k:Nat) (a0_0:Int) (l0_1:List Int) (l1:List Int):Option (List Int × List Int):=(impl_Alphabet_ties.f a0_0 l0_1).bind fun t318=>((impl_ties_normal.f k t318 l1).bind fun t321=>((impl_Alphabet_ties.f a0_0 l0_1).bind fun t324=>((impl_ties_orderOf.f k t324 t321).bind fun t327=>(some (t321,t327)))))
set_option maxHeartbeats 8000000 in
set_option maxRecDepth 100000 in
theorem impl_positions.calls (k:Nat) (a0_0:Int) (A0_1:Option Addr) (c0_1:Nat) (l0_1:List Int) (A1:Option Addr) (c1:Nat) (l1:List Int) (r1:List Int) (r2:List Int) (w:World) (hr0_1:Kd.C (Kd.int .i64) w A0_1 l0_1.length l0_1) (hc0_1:l0_1.length ≤ c0_1) (hr1:Kd.C (Kd.int .i64) w A1 l1.length l1) (hc1:l1.length ≤ c1) (hT:TabW w) (h:impl_positions.f k a0_0 l0_1 l1 = some (r1,r2)) :
  Calls Tryd.prog 31 #[.agg #[.int .i64 a0_0,.slice A0_1 l0_1.length c0_1],.slice A1 l1.length c1] w fun e w' => ∃ v0_ v1_:Value,e = .returned (.tuple #[v0_,v1_]) ∧ Kd.R (Kd.int .i64) 2 w' w.heap.size (fun k_=>some k_ ≠ (v1_:Value).ownBlock) v0_ r1 ∧ Kd.R (Kd.int .i64) 2 w' w.heap.size (fun k_=>some k_ ≠ (v0_:Value).ownBlock) v1_ r2 ∧ Below w.heap.size w w' := by
 have hu28:=Tryd.underlying28
 have HT:=zA hT
 clear hT
 have HR0_1:=zA hr0_1
 have HC0_1:=zA hc0_1
 clear hr0_1 hc0_1
 have HR1:=zA hr1
 have HC1:=zA hc1
 clear hr1 hc1
 have HB:=zA (kW w.heap.size w)
 have H:=h
 unfold impl_positions.f at H
 clear h
 obtain ⟨t318,A3,H⟩:=zb H
 try dsimp only at H
 obtain ⟨t321,A4,H⟩:=zb H
 try dsimp only at H
 obtain ⟨t324,A5,H⟩:=zb H
 try dsimp only at H
 obtain ⟨t327,A6,H⟩:=zb H
 try dsimp only at H
 simp only [Option.some.injEq,Prod.mk.injEq] at H
 obtain ⟨rfl,rfl⟩:=H
 go_enter Tryd.func31,Tryd.ntmps31
 go_wp2_with (first | (refine zBE 2 #[.int .i64 a0_0,.slice A0_1 l0_1.length c0_1] 28 ?_;intro gb317 hg w7 hbox hb;have BK317:=zA (hbox);have GW317:=zA (zBH hg HB.out);have GE317:=zA (zBH hg HB.out);replace HB:=zA (kQ (zQ HB.out) hb);clear hb hbox hg;obtain ⟨hcz8_0,hcz8_1,hfz8_0,hfz8_1⟩:=zB3 BK317.out) | (refine zO (some 8) Tryd.func38 #[.agg #[.int .i64 a0_0,.slice A0_1 l0_1.length c0_1]] ?_;(with_reducible refine (impl_Alphabet_ties.calls a0_0 (fun k_=>k_ < w.heap.size) _ _ l0_1 t318 _ ?side1 A3.out).mono ?_);(case side1=>exact Kd.V_mk HC0_1.out (Kd.F_below (Kd.C_F (Kd.heap_int .i64) HR0_1.out) (zT HB.out GE317.out)));rintro e w9 ⟨v319,rfl,ho0,hb⟩;refine ⟨_,rfl,?_⟩;have HO320:=zA (jM (kN (ok' := fun k_=>k_ ≠ gb317) ho0 (fun k_ hk_=>Or.elim hk_ (fun hs_=>fun e_=>Nat.not_le.2 hs_ (by rw [e_];exact GW317.out)) (fun hn_=>(jE (g:=gb317) (o:=.cells #[.int .i64 a0_0,.slice A0_1 l0_1.length c0_1] 28 (0,0)) (zR BK317.out) k_ hn_)))) (kP (zT HB.out GE317.out)));replace BK317:=zA (zB1 BK317.out hb);replace HB:=zA (kQ (zT HB.out GE317.out) hb);(try clear hb);(try clear ho0);obtain ⟨Ao10,co10,eo10⟩:=Kd.V_slice HO320.out;subst eo10) | (refine zO (some 10) Tryd.func40 #[.slice Ao10 t318.length co10,.slice A1 l1.length c1] ?_;(with_reducible refine (impl_ties_normal.calls k _ _ t318 (fun k_=>k_ < w.heap.size) _ _ l1 t321 _ ?side1 ?side2 ?side3 ?side4 A4.out).mono ?_);(case side1=>exact zS (kJ HO320.out).2.2);(case side2=>exact (kJ HO320.out).2.1);(case side3=>exact Kd.V_mk HC1.out (Kd.F_below (Kd.C_F (Kd.heap_int .i64) HR1.out) (zT HB.out GE317.out)));(case side4=>exact TabW.below HT.out (zT HB.out GE317.out));rintro e w11 ⟨v322,rfl,ho0,hb⟩;refine ⟨_,rfl,?_⟩;replace HO320:=zA (kK (zPV HO320.out) (kC ho0) hb);have HO323:=zA (kI (kA (ok' := fun k_=>True) ho0 (fun _ hk_=>trivial)) (kP (zT HB.out GE317.out)));replace BK317:=zA (zB1 BK317.out hb);replace HB:=zA (kQ (zT HB.out GE317.out) hb);(try clear hb);(try clear ho0);obtain ⟨hcz12_0,hcz12_1,hfz12_0,hfz12_1⟩:=zB3 BK317.out) | (refine zO (some 13) Tryd.func38 #[.agg #[.int .i64 a0_0,.slice A0_1 l0_1.length c0_1]] ?_;(with_reducible refine (impl_Alphabet_ties.calls a0_0 (fun k_=>k_ < w.heap.size) _ _ l0_1 t324 _ ?side1 A5.out).mono ?_);(case side1=>exact Kd.V_mk HC0_1.out (Kd.F_below (Kd.C_F (Kd.heap_int .i64) HR0_1.out) (zT HB.out GE317.out)));rintro e w13 ⟨v325,rfl,ho0,hb⟩;refine ⟨_,rfl,?_⟩;replace HO320:=zA (kG (zPV HO320.out) hb);have HO326:=zA (jM (kN (ok' := fun k_=>some k_ ≠ (v322:Value).ownBlock ∧ k_ ≠ gb317) ho0 (fun k_ hk_=>⟨Or.elim hk_ (fun hs_=>fun e_=>Nat.not_le.2 hs_ (kC HO323.out k_ e_.symm)) (fun hn_=>(jF (kH (zP HO323.out)) k_ hn_)),Or.elim hk_ (fun hs_=>fun e_=>Nat.not_le.2 hs_ (by rw [e_];exact GW317.out)) (fun hn_=>(jE (g:=gb317) (o:=.cells #[.int .i64 a0_0,.slice A0_1 l0_1.length c0_1] 28 (0,0)) (zR BK317.out) k_ hn_))⟩)) (kP (zT HB.out GE317.out)));replace HO323:=zA (kL (zP HO323.out) hb);replace BK317:=zA (zB1 BK317.out hb);replace HB:=zA (kQ (zT HB.out GE317.out) hb);(try clear hb);(try clear ho0);obtain ⟨Ao14,co14,eo14⟩:=Kd.V_slice HO326.out;subst eo14;obtain ⟨Ao15,co15,eo15⟩:=kM HO323.out;subst eo15) | (refine zO (some 15) Tryd.func52 #[.slice Ao14 t324.length co14,.slice Ao15 t321.length co15] ?_;(with_reducible refine (impl_ties_orderOf.calls k _ _ t324 _ _ t321 t327 _ ?side1 ?side2 ?side3 ?side4 A6.out).mono ?_);(case side1=>exact zS (kJ HO326.out).2.2);(case side2=>exact (kJ HO326.out).2.1);(case side3=>exact zS (kB HO323.out).2.2);(case side4=>exact (kB HO323.out).2.1);rintro e w16 ⟨v328,rfl,ho0,hb⟩;refine ⟨_,rfl,?_⟩;replace HO320:=zA (kK (zPV HO320.out) (kC ho0) hb);replace HO326:=zA (kK (zPV HO326.out) (kC ho0) hb);have HO329:=zA (kI (kF ho0 (kH (zP HO323.out))) (kP (zT HB.out GE317.out)));replace HO323:=zA (kE (zP HO323.out) (kC ho0) hb);replace BK317:=zA (zB1 BK317.out hb);replace HB:=zA (kQ (zT HB.out GE317.out) hb);(try clear hb);(try clear ho0)))
 go_ret2
 exact ⟨_,_,zr,by (with_reducible repeat (first | apply zF | apply zG | apply zH));exact kA HO323.out (fun _ hk=>hk.2),by (with_reducible repeat (first | apply zF | apply zG | apply zH));exact kA HO329.out (fun _ hk=>hk.2),zT HB.out GE317.out⟩
end Go.Proofs.YtpenijicdldipaaDoor.PAll
