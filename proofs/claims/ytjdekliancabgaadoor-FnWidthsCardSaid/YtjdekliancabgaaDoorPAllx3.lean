import Derived.Test.YtjdekliancabgaaDoorPAllx0
import Derived.Test.YtjdekliancabgaaDoorPAllx1
import Derived.Test.YtjdekliancabgaaDoorPAllx2
namespace Go.Proofs.YtjdekliancabgaaDoor.PAll
open Go.RowKit Go.Proofs.YtjdekliancabgaaDoor.T Go.Proofs.YtjdekliancabgaaDoorW.PrintWords Go.Proofs.YtjdekliancabgaaDoorW.PrintLast Go.Proofs.YtjdekliancabgaaDoorW.PrintMore
attribute [local go_sem] max2_int min2_int max_two min_two max_three min_three max_four min_four   -- for this text's walks alone
set_option linter.unusedVariables false
set_option linter.unusedSimpArgs false
mutual
def impl_IsAlphabet.j0:Nat → Bool → Int → List Int → Option (Bool)
 | 0,_,_,_=>none
 | k + 1,x22,x242000,x242001=>if x22 = true then (some false) else ((impl_converse.f k x242001).bind fun t245=>(impl_IsAlphabet.l0 k t245 (t245.length:Int) 0 x242000 x242001))
def impl_IsAlphabet.l0:Nat → List Int → Int → Int → Int → List Int → Option (Bool)
 | 0,_,_,_,_,_=>none
 | k + 1,x25,x26,x27,x242000,x242001=>if x27 < x26 then (if 0 ≤ x27 then (if x27 < (x25.length:Int) then (if x27 < (x242001.length:Int) then (if (rd x25 x27) = (rd x242001 x27) then ((impl_has.f (rd x25 x27) x27).bind fun t250=>(if t250 = true then (impl_IsAlphabet.l0 k x25 x26 (wrap64 (x27 + 1)) x242000 x242001) else (some false))) else (some false)) else (none)) else (none)) else (none)) else (some true)
end
def impl_IsAlphabet.f (k:Nat) (a0_0:Int) (l0_1:List Int):Option (Bool):=(impl_inRange.f a0_0 0 8).bind fun t242=>(if t242 = true then ((impl_length_int64.f l0_1).bind fun t243=>(if t243 = a0_0 then ((impl_IsRelation.f l0_1).bind fun t244=>(impl_IsAlphabet.j0 k (!t244) a0_0 l0_1)) else (impl_IsAlphabet.j0 k true a0_0 l0_1))) else (impl_IsAlphabet.j0 k true a0_0 l0_1))
def impl_IsAlphabet.T1:Bool × List (List Nat × List Nat):=(true,[([],[]),([0],[0]),([1],[1]),([2],[2]),([3,2],[3]),([4],[4]),([5,4],[4,5]),([6,4,4],[4,6]),([4],[4]),([8,4],[4,8]),([7,9,4],[4,7,9]),([4,10],[4,10]),([11,7],[11]),([12],[12]),([13,12],[12,13]),([14,12,12],[12,14]),([15,12],[12,15]),([12,16],[12,16])])
def impl_IsAlphabet.B1:List Nat:=[0,1,3,7,15,31,63,127,31,287,1023,2047,4095,8191,16383,32767,65535,131071]
theorem impl_IsAlphabet.tab1:rtab .any (opsOf Tryd.f24 1) = impl_IsAlphabet.T1:=by kernel_rfl
theorem impl_IsAlphabet.bits1:waitsOk impl_IsAlphabet.T1.2 impl_IsAlphabet.B1 = true:=by kernel_rfl
set_option maxHeartbeats 8000000 in
set_option maxRecDepth 100000 in
theorem impl_IsAlphabet.calls (k : Nat) (a0_0 : Int) (A0_1 : Option Addr) (c0_1 : Nat) (l0_1 : List Int) (r : Bool) (w : World) (hr0_1 : Kd.C (Kd.int .i64) w A0_1 l0_1.length l0_1) (hc0_1 : l0_1.length ≤ c0_1) (hT : TabW w) (h : impl_IsAlphabet.f k a0_0 l0_1 = some r) :
  Calls Tryd.prog 24 #[.agg #[.int .i64 a0_0,.slice A0_1 l0_1.length c0_1]] w fun e w' => e = .returned (.bool r) ∧ Below w.heap.size w w' := by
 have hu26:=Tryd.underlying26
 have HT:=zA hT
 clear hT
 have HR0_1:=zA hr0_1
 have HC0_1:=zA hc0_1
 clear hr0_1 hc0_1
 have HB:=zA (kW w.heap.size w)
 have H:=h
 unfold impl_IsAlphabet.f at H
 clear h
 have HC2:=zA H
 clear H
 go_enter Tryd.func24,Tryd.ntmps24
 go_upto_region 1 with (first | (refine zBE 1 #[.int .i64 a0_0,.slice A0_1 l0_1.length c0_1] 26 ?_;intro gb241 hg w3 hbox hb;have BK241:=zA (hbox);have GW241:=zA (zBH hg HB.out);have GE241:=zA (zBH hg HB.out);replace HB:=zA (kQ (zQ HB.out) hb);clear hb hbox hg))
 (try simp only [Act.put,zL,zM,zN])
 go_cut [22] (fun v22 wc=>∃ (kq:Nat) (x22_1:Bool),v22 = .bool x22_1 ∧ Aside0 (impl_IsAlphabet.j0 kq x22_1 a0_0 l0_1 = some r) ∧ Aside0 (kq ≤ k) ∧ Aside0 (wc.heap[gb241]? = some (.cells #[.int .i64 a0_0,(.slice A0_1 l0_1.length c0_1)] 26 (0,0))) ∧ Aside0 (Below w.heap.size w wc))
 case first =>
  have H:=HC2.out
  clear HC2
  obtain ⟨t242,A4,H⟩:=zb H
  try dsimp only at H
  by_cases c5:t242 = true
  ·subst c5
   rw [if_pos rfl] at H
   obtain ⟨t243,A6,H⟩:=zb H
   try dsimp only at H
   by_cases c7:t243 = a0_0
   ·rw [if_pos c7] at H
    obtain ⟨c7b0,c7b1⟩:=zT1 c7
    clear c7
    (first | rw [c7b0] | (simp only [i64_w,i32_w];rw [c7b0]) | skip)
    obtain ⟨t244,A8,H⟩:=zb H
    try dsimp only at H
    have H' := zA H
    clear H
    try go_wp2
    replace BK241:=zA (zK BK241.out)
    replace HB:=zA (zD HB.out)
    refine start_ (n:=18) (S:=fun w' => w'.cell? ⟨gb241,0,none⟩ = some (.int .i64 a0_0) ∧ w'.cell? ⟨gb241,1,none⟩ = some (.slice A0_1 l0_1.length c0_1)) (ds:=[]) #[false,false,false,false,false,false,false,false,false,false,false,false,false,false,false,false,false,false] (by kernel_rfl) rfl rfl ⟨(kV BK241.out 0).trans rfl,(kV BK241.out 1).trans rfl⟩ (fun hHeld=>?_);refine with_tabW impl_IsAlphabet.tab1 impl_IsAlphabet.bits1 (fun HT_ HW_=>?_)
    generalize w3.drew = w9 at BK241 HB hHeld ⊢
    refine zp 0 (some 5) #[true,false,false,false,false,false,false,false,false,false,false,false,false,false,false,false,false,false] HT_.out ?_
    refine zc 1 (some 6) #[true,true,false,false,false,false,false,false,false,false,false,false,false,false,false,false,false,false] HT_.out HW_.out hHeld ?_
    refine one_ (i:=2) (N:=some 7) #[true,true,true,false,false,false,false,false,false,false,false,false,false,false,false,false,false,false] rfl rfl (one_of HT_.out (by kernel_rfl)) (by decide) (fun K hK=>?_)
    refine goes_ Tryd.func50 (by kernel_rfl) rfl #[.int .i64 a0_0,.int .i64 0,.int .i64 8] (by rfl) rfl rfl zg ?_
    with_reducible refine (impl_inRange.calls a0_0 0 8 true _ A4.out).mono ?_
    rintro e w' ⟨rfl,⟨nd,rfl⟩⟩
    refine ⟨_,rfl,?_⟩
    refine hK.out _ _ ⟨(kV BK241.out 0).trans rfl,(kV BK241.out 1).trans rfl⟩ (fun hHeld=>?_)
    clear hK K
    refine norm_ (a' := ?_) ?_ ?_
    rotate_left
    ·show Act.put _ (some 7) _ = _
     simp only [Act.put,zL,zM,zN,i64_w,i32_w]
     rfl
    refine zp 3 (some 8) #[true,true,true,true,false,false,false,false,false,false,false,false,false,false,false,false,false,false] HT_.out ?_
    refine zp 4 (some 9) #[true,true,true,true,true,false,false,false,false,false,false,false,false,false,false,false,false,false] HT_.out ?_
    refine zp 5 (some 10) #[true,true,true,true,true,true,false,false,false,false,false,false,false,false,false,false,false,false] HT_.out ?_
    refine zp 8 (some 13) #[true,true,true,true,true,true,false,false,true,false,false,false,false,false,false,false,false,false] HT_.out ?_
    refine zc 6 (some 11) #[true,true,true,true,true,true,true,false,true,false,false,false,false,false,false,false,false,false] HT_.out HW_.out hHeld ?_
    refine zc 9 (some 14) #[true,true,true,true,true,true,true,false,true,true,false,false,false,false,false,false,false,false] HT_.out HW_.out hHeld ?_
    refine one_ (i:=7) (N:=some 12) #[true,true,true,true,true,true,true,true,true,true,false,false,false,false,false,false,false,false] rfl rfl (one_of HT_.out (by kernel_rfl)) (by decide) (fun K hK=>?_)
    refine goes_ Tryd.func32 (by kernel_rfl) rfl #[.slice A0_1 l0_1.length c0_1] (by rfl) rfl rfl zg ?_
    with_reducible refine (impl_length_int64.calls _ _ l0_1 t243 _ ?side1 ?side2 A6.out).mono ?_
    (case side1=>exact zS (kO HR0_1.out (zT HB.out GE241.out)))
    (case side2=>exact HC0_1.out)
    rintro e w' ⟨rfl,⟨nd,rfl⟩⟩
    refine ⟨_,rfl,?_⟩
    refine hK.out _ _ ⟨(kV BK241.out 0).trans rfl,(kV BK241.out 1).trans rfl⟩ (fun hHeld=>?_)
    clear hK K
    refine norm_ (a' := ?_) ?_ ?_
    rotate_left
    ·show Act.put _ (some 12) _ = _
     simp only [Act.put,zL,zM,zN,i64_w,i32_w]
     rfl
    refine zp 10 (some 15) #[true,true,true,true,true,true,true,true,true,true,true,false,false,false,false,false,false,false] HT_.out ?_
    refine zp 11 (some 16) #[true,true,true,true,true,true,true,true,true,true,true,true,false,false,false,false,false,false] HT_.out ?_
    refine zp 12 (some 17) #[true,true,true,true,true,true,true,true,true,true,true,true,true,false,false,false,false,false] HT_.out ?_
    refine zp 13 (some 18) #[true,true,true,true,true,true,true,true,true,true,true,true,true,true,false,false,false,false] HT_.out ?_
    refine zc 14 (some 19) #[true,true,true,true,true,true,true,true,true,true,true,true,true,true,true,false,false,false] HT_.out HW_.out hHeld ?_
    refine one_ (i:=15) (N:=some 20) #[true,true,true,true,true,true,true,true,true,true,true,true,true,true,true,true,false,false] rfl rfl (one_of HT_.out (by kernel_rfl)) (by decide) (fun K hK=>?_)
    refine goes_ Tryd.func36 (by kernel_rfl) rfl #[.slice A0_1 l0_1.length c0_1] (by rfl) rfl rfl zg ?_
    with_reducible refine (impl_IsRelation.calls _ _ l0_1 t244 _ ?side1 ?side2 A8.out).mono ?_
    (case side1=>exact zS (kO HR0_1.out (zT HB.out GE241.out)))
    (case side2=>exact HC0_1.out)
    rintro e w10 ⟨rfl,hb⟩
    refine ⟨_,rfl,?_⟩
    replace BK241:=zA (zB1 BK241.out hb)
    replace HB:=zA (kQ (zT HB.out GE241.out) hb)
    (try clear hb)
    (try clear hb2)
    (try clear hk)
    (try clear hi)
    (try clear hgw)
    refine hK.out _ _ ⟨(kV BK241.out 0).trans rfl,(kV BK241.out 1).trans rfl⟩ (fun hHeld=>?_)
    clear hK K
    refine norm_ (a' := ?_) ?_ ?_
    rotate_left
    ·show Act.put _ (some 20) _ = _
     simp only [Act.put,zL,zM,zN,i64_w,i32_w]
     rfl
    refine zp 16 (some 21) #[true,true,true,true,true,true,true,true,true,true,true,true,true,true,true,true,true,false] HT_.out ?_
    refine zp 17 (some 22) #[true,true,true,true,true,true,true,true,true,true,true,true,true,true,true,true,true,true] HT_.out ?_
    refine done_ (done_of HT_.out (by kernel_rfl)) ?_
    try go_wp2
    go_meet
    case rel=>exact ⟨_,(!t244),zs,H', ⟨by first | omega | exact Nat.le_refl _⟩,⟨zR BK241.out⟩,⟨zT HB.out GE241.out⟩⟩
   rw [if_neg c7] at H
   obtain ⟨c7b0,c7b1⟩:=zT2 c7
   (first | rw [c7b0] | (simp only [i64_w,i32_w];rw [c7b0]) | skip)
   have H' := zA H
   clear H
   try go_wp2
   replace BK241:=zA (zK BK241.out)
   replace HB:=zA (zD HB.out)
   refine start_ (n:=18) (S:=fun w' => w'.cell? ⟨gb241,0,none⟩ = some (.int .i64 a0_0) ∧ w'.cell? ⟨gb241,1,none⟩ = some (.slice A0_1 l0_1.length c0_1)) (ds:=[]) #[false,false,false,false,false,false,false,false,false,false,false,false,false,false,false,false,false,false] (by kernel_rfl) rfl rfl ⟨(kV BK241.out 0).trans rfl,(kV BK241.out 1).trans rfl⟩ (fun hHeld=>?_);refine with_tabW impl_IsAlphabet.tab1 impl_IsAlphabet.bits1 (fun HT_ HW_=>?_)
   generalize w3.drew = w11 at BK241 HB hHeld ⊢
   refine zp 0 (some 5) #[true,false,false,false,false,false,false,false,false,false,false,false,false,false,false,false,false,false] HT_.out ?_
   refine zc 1 (some 6) #[true,true,false,false,false,false,false,false,false,false,false,false,false,false,false,false,false,false] HT_.out HW_.out hHeld ?_
   refine one_ (i:=2) (N:=some 7) #[true,true,true,false,false,false,false,false,false,false,false,false,false,false,false,false,false,false] rfl rfl (one_of HT_.out (by kernel_rfl)) (by decide) (fun K hK=>?_)
   refine goes_ Tryd.func50 (by kernel_rfl) rfl #[.int .i64 a0_0,.int .i64 0,.int .i64 8] (by rfl) rfl rfl zg ?_
   with_reducible refine (impl_inRange.calls a0_0 0 8 true _ A4.out).mono ?_
   rintro e w' ⟨rfl,⟨nd,rfl⟩⟩
   refine ⟨_,rfl,?_⟩
   refine hK.out _ _ ⟨(kV BK241.out 0).trans rfl,(kV BK241.out 1).trans rfl⟩ (fun hHeld=>?_)
   clear hK K
   refine norm_ (a' := ?_) ?_ ?_
   rotate_left
   ·show Act.put _ (some 7) _ = _
    simp only [Act.put,zL,zM,zN,i64_w,i32_w]
    rfl
   refine zp 3 (some 8) #[true,true,true,true,false,false,false,false,false,false,false,false,false,false,false,false,false,false] HT_.out ?_
   refine zp 4 (some 9) #[true,true,true,true,true,false,false,false,false,false,false,false,false,false,false,false,false,false] HT_.out ?_
   refine zp 5 (some 10) #[true,true,true,true,true,true,false,false,false,false,false,false,false,false,false,false,false,false] HT_.out ?_
   refine zp 8 (some 13) #[true,true,true,true,true,true,false,false,true,false,false,false,false,false,false,false,false,false] HT_.out ?_
   refine zc 6 (some 11) #[true,true,true,true,true,true,true,false,true,false,false,false,false,false,false,false,false,false] HT_.out HW_.out hHeld ?_
   refine zc 9 (some 14) #[true,true,true,true,true,true,true,false,true,true,false,false,false,false,false,false,false,false] HT_.out HW_.out hHeld ?_
   refine one_ (i:=7) (N:=some 12) #[true,true,true,true,true,true,true,true,true,true,false,false,false,false,false,false,false,false] rfl rfl (one_of HT_.out (by kernel_rfl)) (by decide) (fun K hK=>?_)
   refine goes_ Tryd.func32 (by kernel_rfl) rfl #[.slice A0_1 l0_1.length c0_1] (by rfl) rfl rfl zg ?_
   with_reducible refine (impl_length_int64.calls _ _ l0_1 t243 _ ?side1 ?side2 A6.out).mono ?_
   (case side1=>exact zS (kO HR0_1.out (zT HB.out GE241.out)))
   (case side2=>exact HC0_1.out)
   rintro e w' ⟨rfl,⟨nd,rfl⟩⟩
   refine ⟨_,rfl,?_⟩
   refine hK.out _ _ ⟨(kV BK241.out 0).trans rfl,(kV BK241.out 1).trans rfl⟩ (fun hHeld=>?_)
   clear hK K
   refine norm_ (a' := ?_) ?_ ?_
   rotate_left
   ·show Act.put _ (some 12) _ = _
    simp only [Act.put,zL,zM,zN,i64_w,i32_w]
    rfl
   refine zp 10 (some 15) #[true,true,true,true,true,true,true,true,true,true,true,false,false,false,false,false,false,false] HT_.out ?_
   refine zp 11 (some 16) #[true,true,true,true,true,true,true,true,true,true,true,true,false,false,false,false,false,false] HT_.out ?_
   refine zp 12 (some 17) #[true,true,true,true,true,true,true,true,true,true,true,true,true,false,false,false,false,false] HT_.out ?_
   refine zu 13 (some 18) #[true,true,true,true,true,true,true,true,true,true,true,true,true,true,false,false,false,false] HT_.out ?_
   refine zu 14 (some 19) #[true,true,true,true,true,true,true,true,true,true,true,true,true,true,true,false,false,false] HT_.out ?_
   refine zu 15 (some 20) #[true,true,true,true,true,true,true,true,true,true,true,true,true,true,true,true,false,false] HT_.out ?_
   refine zu 16 (some 21) #[true,true,true,true,true,true,true,true,true,true,true,true,true,true,true,true,true,false] HT_.out ?_
   refine zp 17 (some 22) #[true,true,true,true,true,true,true,true,true,true,true,true,true,true,true,true,true,true] HT_.out ?_
   refine done_ (done_of HT_.out (by kernel_rfl)) ?_
   try go_wp2
   go_meet
   case rel=>exact ⟨_,(true),zs,H', ⟨by first | omega | exact Nat.le_refl _⟩,⟨zR BK241.out⟩,⟨zT HB.out GE241.out⟩⟩
  replace c5:=Bool.eq_false_iff.mpr c5
  subst c5
  rw [if_neg (show ¬ (false = true) by decide)] at H
  have H' := zA H
  clear H
  try go_wp2
  replace BK241:=zA (zK BK241.out)
  replace HB:=zA (zD HB.out)
  refine start_ (n:=18) (S:=fun w' => w'.cell? ⟨gb241,0,none⟩ = some (.int .i64 a0_0) ∧ w'.cell? ⟨gb241,1,none⟩ = some (.slice A0_1 l0_1.length c0_1)) (ds:=[]) #[false,false,false,false,false,false,false,false,false,false,false,false,false,false,false,false,false,false] (by kernel_rfl) rfl rfl ⟨(kV BK241.out 0).trans rfl,(kV BK241.out 1).trans rfl⟩ (fun hHeld=>?_);refine with_tabW impl_IsAlphabet.tab1 impl_IsAlphabet.bits1 (fun HT_ HW_=>?_)
  generalize w3.drew = w12 at BK241 HB hHeld ⊢
  refine zp 0 (some 5) #[true,false,false,false,false,false,false,false,false,false,false,false,false,false,false,false,false,false] HT_.out ?_
  refine zc 1 (some 6) #[true,true,false,false,false,false,false,false,false,false,false,false,false,false,false,false,false,false] HT_.out HW_.out hHeld ?_
  refine one_ (i:=2) (N:=some 7) #[true,true,true,false,false,false,false,false,false,false,false,false,false,false,false,false,false,false] rfl rfl (one_of HT_.out (by kernel_rfl)) (by decide) (fun K hK=>?_)
  refine goes_ Tryd.func50 (by kernel_rfl) rfl #[.int .i64 a0_0,.int .i64 0,.int .i64 8] (by rfl) rfl rfl zg ?_
  with_reducible refine (impl_inRange.calls a0_0 0 8 false _ A4.out).mono ?_
  rintro e w' ⟨rfl,⟨nd,rfl⟩⟩
  refine ⟨_,rfl,?_⟩
  refine hK.out _ _ ⟨(kV BK241.out 0).trans rfl,(kV BK241.out 1).trans rfl⟩ (fun hHeld=>?_)
  clear hK K
  refine norm_ (a' := ?_) ?_ ?_
  rotate_left
  ·show Act.put _ (some 7) _ = _
   simp only [Act.put,zL,zM,zN,i64_w,i32_w]
   rfl
  refine zp 3 (some 8) #[true,true,true,true,false,false,false,false,false,false,false,false,false,false,false,false,false,false] HT_.out ?_
  refine zp 4 (some 9) #[true,true,true,true,true,false,false,false,false,false,false,false,false,false,false,false,false,false] HT_.out ?_
  refine zu 5 (some 10) #[true,true,true,true,true,true,false,false,false,false,false,false,false,false,false,false,false,false] HT_.out ?_
  refine zu 6 (some 11) #[true,true,true,true,true,true,true,false,false,false,false,false,false,false,false,false,false,false] HT_.out ?_
  refine zu 7 (some 12) #[true,true,true,true,true,true,true,true,false,false,false,false,false,false,false,false,false,false] HT_.out ?_
  refine zu 8 (some 13) #[true,true,true,true,true,true,true,true,true,false,false,false,false,false,false,false,false,false] HT_.out ?_
  refine zu 9 (some 14) #[true,true,true,true,true,true,true,true,true,true,false,false,false,false,false,false,false,false] HT_.out ?_
  refine zu 10 (some 15) #[true,true,true,true,true,true,true,true,true,true,true,false,false,false,false,false,false,false] HT_.out ?_
  refine zp 11 (some 16) #[true,true,true,true,true,true,true,true,true,true,true,true,false,false,false,false,false,false] HT_.out ?_
  refine zp 12 (some 17) #[true,true,true,true,true,true,true,true,true,true,true,true,true,false,false,false,false,false] HT_.out ?_
  refine zu 13 (some 18) #[true,true,true,true,true,true,true,true,true,true,true,true,true,true,false,false,false,false] HT_.out ?_
  refine zu 14 (some 19) #[true,true,true,true,true,true,true,true,true,true,true,true,true,true,true,false,false,false] HT_.out ?_
  refine zu 15 (some 20) #[true,true,true,true,true,true,true,true,true,true,true,true,true,true,true,true,false,false] HT_.out ?_
  refine zu 16 (some 21) #[true,true,true,true,true,true,true,true,true,true,true,true,true,true,true,true,true,false] HT_.out ?_
  refine zp 17 (some 22) #[true,true,true,true,true,true,true,true,true,true,true,true,true,true,true,true,true,true] HT_.out ?_
  refine done_ (done_of HT_.out (by kernel_rfl)) ?_
  try go_wp2
  go_meet
  case rel=>exact ⟨_,(true),zs,H', ⟨by first | omega | exact Nat.le_refl _⟩,⟨zR BK241.out⟩,⟨zT HB.out GE241.out⟩⟩
 case rest =>
  clear HC2
  try clear c2
  try clear c3
  try clear c5
  try clear c7
  obtain ⟨kq,x22_1,rfl,HA,HJ1,BK241,HB⟩:=hcut
  cases kq with
  | zero=>exact absurd HA.out (by simp [impl_IsAlphabet.j0])
  | succ kj1 =>
   have H:=HA.out
   clear HA
   simp only [impl_IsAlphabet.j0] at H
   by_cases c13:x22_1 = true
   ·subst c13
    rw [if_pos rfl] at H
    obtain rfl:=Option.some.inj H
    go_wp2
    go_ret
    exact ⟨zr,zT HB.out GE241.out⟩
   replace c13:=Bool.eq_false_iff.mpr c13
   subst c13
   rw [if_neg (show ¬ (false = true) by decide)] at H
   obtain ⟨t245,A14,H⟩:=zb H
   try dsimp only at H
   have H' := zA H
   clear H
   obtain ⟨hcz15_0,hcz15_1,hfz15_0,hfz15_1⟩:=zB3 BK241.out
   go_wp2_with (first | (refine zO (some 25) Tryd.func51 #[.slice A0_1 l0_1.length c0_1] ?_;(with_reducible refine (impl_converse.calls kj1 _ _ l0_1 t245 _ ?side1 ?side2 ?side3 A14.out).mono ?_);(case side1=>exact zS (kO HR0_1.out HB.out));(case side2=>exact HC0_1.out);(case side3=>exact TabW.below HT.out (zT HB.out GE241.out));rintro e w16 ⟨v246,rfl,ho0,hb⟩;refine ⟨_,rfl,?_⟩;have HO247:=zA (kI ho0 (kP (zT HB.out GE241.out)));replace BK241:=zA (zB1 BK241.out hb);replace HB:=zA (kQ (zT HB.out GE241.out) hb);(try clear hb);(try clear ho0);obtain ⟨Ao17,co17,eo17⟩:=kM HO247.out;subst eo17))
   go_loopg [27] kj1 (fun kq v27 w' => ∃ (x27_2:Int),v27 = .int .i64 x27_2 ∧ Aside0 (impl_IsAlphabet.l0 kq t245 (t245.length:Int) x27_2 a0_0 l0_1 = some r) ∧ Aside0 (kq ≤ kj1) ∧ Aside0 (Kd.R (Kd.int .i64) 2 w' w.heap.size (fun _=>True) (.slice Ao17 t245.length co17) t245) ∧ Aside0 (w'.heap[gb241]? = some (.cells #[.int .i64 a0_0,(.slice A0_1 l0_1.length c0_1)] 26 (0,0))) ∧ Aside0 (Below w.heap.size w w'))
   case atStart=>exact ⟨(0),zs,H', ⟨Nat.le_refl _⟩,⟨zP HO247.out⟩,⟨zR BK241.out⟩,⟨zT HB.out GE241.out⟩⟩
   case round =>
    clear H'
    try clear c1
    try clear c2
    try clear c3
    try clear c5
    try clear c7
    try clear c13
    try clear hcz15_0
    try clear hcz15_1
    try clear hfz15_0
    try clear hfz15_1
    obtain ⟨x27_2,rfl,HA,HK2,HO_25,BK241,HB⟩:=hrel
    cases gk with
    | zero=>exact absurd HA.out (by simp [impl_IsAlphabet.l0])
    | succ k2 =>
     have H:=HA.out
     clear HA
     simp only [impl_IsAlphabet.l0] at H
     by_cases c18:x27_2 < (t245.length:Int)
     ·rw [if_pos c18] at H
      have c18b0:decide (x27_2 < (t245.length:Int)) = true:=decide_eq_true c18
      clear c18
      by_cases c19:0 ≤ x27_2
      ·rw [if_pos c19] at H
       have c19b0:decide (0 ≤ x27_2) = true:=decide_eq_true c19
       clear c19
       by_cases c20:x27_2 < (t245.length:Int)
       ·rw [if_pos c20] at H
        have c20b0:decide (x27_2 < (t245.length:Int)) = true:=decide_eq_true c20
        clear c20
        by_cases c21:x27_2 < (l0_1.length:Int)
        ·rw [if_pos c21] at H
         have c21b0:decide (x27_2 < (l0_1.length:Int)) = true:=decide_eq_true c21
         clear c21
         by_cases c22:(rd t245 x27_2) = (rd l0_1 x27_2)
         ·rw [if_pos c22] at H
          obtain ⟨c22b0,c22b1⟩:=zT1 c22
          clear c22
          obtain ⟨t250,A23,H⟩:=zb H
          try dsimp only at H
          by_cases c24:t250 = true
          ·subst c24
           rw [if_pos rfl] at H
           have H' := zA H
           clear H
           have p248:0 ≤ (x27_2:Int):=zd
           have q248:x27_2 < (t245.length:Int):=zd
           obtain ⟨ad248,e248,hx248_0⟩:=Kd.at_int (kB HO_25.out).2.2 x27_2 p248 q248
           cases e248
           replace p248:=eq_true p248
           replace q248:=eq_true q248
           obtain ⟨hcz25_0,hcz25_1,hfz25_0,hfz25_1⟩:=zB3 BK241.out
           have p249:0 ≤ (x27_2:Int):=zd
           have q249:x27_2 < (l0_1.length:Int):=zd
           obtain ⟨ad249,e249,hx249_0⟩:=Kd.at_int HR0_1.out x27_2 p249 q249
           cases e249
           replace hx249_0:=(HB.out.cell (jG w _ hx249_0)).trans hx249_0
           replace p249:=eq_true p249
           replace q249:=eq_true q249
           go_wp2_with (first | (go_at_call 52;(with_reducible refine (impl_has.calls (rd t245 x27_2) x27_2 true _ A23.out).mono ?_);rintro e w' ⟨rfl,⟨nd,rfl⟩⟩))
           go_roundg k2
           case measure=>have:=HJ1.out;have:=HK2.out;omega
           case rel=>exact ⟨(wrap64 (x27_2 + 1)),zs,H', ⟨by have:=HJ1.out;have:=HK2.out;omega⟩,⟨zP HO_25.out⟩,⟨zR BK241.out⟩,⟨zT HB.out GE241.out⟩⟩
          replace c24:=Bool.eq_false_iff.mpr c24
          subst c24
          rw [if_neg (show ¬ (false = true) by decide)] at H
          obtain rfl:=Option.some.inj H
          have p248:0 ≤ (x27_2:Int):=zd
          have q248:x27_2 < (t245.length:Int):=zd
          obtain ⟨ad248,e248,hx248_0⟩:=Kd.at_int (kB HO_25.out).2.2 x27_2 p248 q248
          cases e248
          replace p248:=eq_true p248
          replace q248:=eq_true q248
          obtain ⟨hcz26_0,hcz26_1,hfz26_0,hfz26_1⟩:=zB3 BK241.out
          have p249:0 ≤ (x27_2:Int):=zd
          have q249:x27_2 < (l0_1.length:Int):=zd
          obtain ⟨ad249,e249,hx249_0⟩:=Kd.at_int HR0_1.out x27_2 p249 q249
          cases e249
          replace hx249_0:=(HB.out.cell (jG w _ hx249_0)).trans hx249_0
          replace p249:=eq_true p249
          replace q249:=eq_true q249
          go_wp2_with (first | (go_at_call 52;(with_reducible refine (impl_has.calls (rd t245 x27_2) x27_2 false _ A23.out).mono ?_);rintro e w' ⟨rfl,⟨nd,rfl⟩⟩))
          go_ret
          exact ⟨zr,zT HB.out GE241.out⟩
         rw [if_neg c22] at H
         obtain ⟨c22b0,c22b1⟩:=zT2 c22
         obtain rfl:=Option.some.inj H
         have p248:0 ≤ (x27_2:Int):=zd
         have q248:x27_2 < (t245.length:Int):=zd
         obtain ⟨ad248,e248,hx248_0⟩:=Kd.at_int (kB HO_25.out).2.2 x27_2 p248 q248
         cases e248
         replace p248:=eq_true p248
         replace q248:=eq_true q248
         obtain ⟨hcz27_0,hcz27_1,hfz27_0,hfz27_1⟩:=zB3 BK241.out
         have p249:0 ≤ (x27_2:Int):=zd
         have q249:x27_2 < (l0_1.length:Int):=zd
         obtain ⟨ad249,e249,hx249_0⟩:=Kd.at_int HR0_1.out x27_2 p249 q249
         cases e249
         replace hx249_0:=(HB.out.cell (jG w _ hx249_0)).trans hx249_0
         replace p249:=eq_true p249
         replace q249:=eq_true q249
         go_wp2
         go_ret
         exact ⟨zr,zT HB.out GE241.out⟩
        rw [if_neg c21] at H
        exact absurd H (by simp)
       rw [if_neg c20] at H
       exact absurd H (by simp)
      rw [if_neg c19] at H
      exact absurd H (by simp)
     rw [if_neg c18] at H
     have c18b0:decide (x27_2 < (t245.length:Int)) = false:=decide_eq_false c18
     clear c18
     obtain rfl:=Option.some.inj H
     go_wp2
     go_ret
     exact ⟨zr,zT HB.out GE241.out⟩
def slices_Clone_int64_int64.f (l0:List Int):Option (List Int):=if l0.length < 17592186044416 then some l0 else none
set_option maxHeartbeats 2000000 in
set_option maxRecDepth 100000 in
theorem slices_Clone_int64_int64.calls (A0 : Option Addr) (c0 : Nat) (l0 : List Int) (r : List Int) (w : World) (hr0 : Kd.C (Kd.int .i64) w A0 l0.length l0) (hc0 : l0.length ≤ c0) (h : slices_Clone_int64_int64.f l0 = some r) :
  Calls Tryd.prog 44 #[.slice A0 l0.length c0] w fun e w' => ∃ v0_:Value,e = .returned (v0_) ∧ Kd.R (Kd.int .i64) 2 w' w.heap.size (fun _=>True) v0_ r ∧ Below w.heap.size w w' := by
 unfold slices_Clone_int64_int64.f at h
 by_cases hl:l0.length < 17592186044416
 ·rw [if_pos hl] at h
  obtain rfl:=Option.some.inj h
  clear h
  have HR0:=zA hr0
  have HL:=zA hl
  have qnil:∀ (w:World) (a:Option Addr) (n c n' c' : Nat),(binOp .eql 24 (.slice a n c) (.slice none n' c')).run Tryd.prog w = .ok (.bool a.isNone) w:=fun w a n c n' c' => Lib.run_eql_slice_nil w _ _ a n c n' c' Tryd.underlying24
  cases A0 with
  | none =>
   have hz:l0 = []:=by
    rcases Nat.eq_zero_or_pos l0.length with e | e
    ·exact List.eq_nil_of_length_eq_zero e
    obtain ⟨ad,e1,_⟩:=hr0.2.2 e
    cases e1
   subst hz
   clear hr0 hl hc0
   go_enter Tryd.func44,Tryd.ntmps44
   go_wp2
   go_ret
   exact ⟨_,rfl,jO _ _ _ _ _,kW _ _⟩
  | some ad =>
   clear hr0 hl hc0
   go_enter Tryd.func44,Tryd.ntmps44
   go_wp2_with (first | ((with_reducible refine kS (N:=5) rfl ?_);refine Kd.R_lit (Kd.int .i64) _ 2 ?hg (N:=5) ?hd (xs:=([]:List Int)) (inner:=[]) (ok:=fun _=>True) (okp:=fun _=>True) ?hr ?hp (fun _ hk=>hk) trivial (kW _ _) (Nat.le_refl _) (by simp) ?_;(case hd=>rfl);(case hg=>rfl);(case hr=>first | (go_simp;done) | (go_simp;rfl));(case hp=>exact (Reps.none _ _));intro v5 w5 ho hb hg_ hnew_;clear hg_ hnew_;have HO:=zA ho;have HB:=zA hb;clear ho hb) | ((with_reducible refine gate_builtin (b:=.append) (xs:=#[.tmp 5,.tmp 6]) rfl ?_);at_builtin;refine Kd.R_append_rows (Kd.int .i64) (w0:=w) w.heap.size rfl (.tmp 5) (.tmp 6) 24 2 (.int .i64 0) 8 rfl Tryd.underlying24 info2 rfl (by decide) (by omega) v5 [] l0 _ _ _ (fun _=>True) (fun _=>False) rfl rfl HO.out (kO HR0.out HB.out) (fun _ _ h=>h) (fun _ h=>h.elim) (fun _ _=>trivial) HB.out HB.out.size (by have:=HL.out;simp;omega) ?_;intro v6 w6 ho hb hg hat;have HO' := zA ho;have HB' := zA hb;clear ho hb hg hat HO HB))
   go_ret
   exact ⟨_,rfl,HO'.out,HB'.out⟩
 rw [if_neg hl] at h
 cases h
def spec_l01Bit.f (a0:Int) (a1:Int):Option (Bool):=if 0 ≤ (IntKind.u64.wrap (a1)) then (some ((Go.bits .and .i64 (shr .i64 a0 (IntKind.u64.wrap (a1))) 1) == 1)) else (none)
set_option maxHeartbeats 8000000 in
set_option maxRecDepth 100000 in
theorem spec_l01Bit.calls (a0 : Int) (a1 : Int) (r : Bool) (w : World) (h : spec_l01Bit.f a0 a1 = some r) :
  Calls Tryd.prog 65 #[.int .i64 a0,.int .i64 a1] w fun e w' => e = .returned (.bool r) ∧ Drawn0 w w' := by
 have H:=h
 unfold spec_l01Bit.f at H
 clear h
 obtain ⟨ji3,hji3⟩:∃ j_:Int,(IntKind.u64.wrap (a1)) = j_:=⟨_,rfl⟩
 replace H:(if 0 ≤ (ji3) then (some ((Go.bits .and .i64 (shr .i64 a0 (ji3)) 1) == 1)) else (none)) = some r:=by first | (rw [hji3] at H;exact H) | (simp only [hji3] at H ⊢;exact H)
 by_cases c4:0 ≤ (ji3)
 ·rw [if_pos c4] at H
  have c4b0:=eq_true c4
  have c4b1:decide (0 ≤ (ji3)) = true:=decide_eq_true c4
  clear c4
  obtain ⟨ji5,hji5⟩:∃ j_:Int,(shr .i64 a0 (ji3)) = j_:=⟨_,rfl⟩
  replace H:(some ((Go.bits .and .i64 (ji5) 1) == 1)) = some r:=by first | (rw [hji5] at H;exact H) | (simp only [hji5] at H ⊢;exact H)
  have hji5_:(a0 / 2 ^ min (ji3).toNat 64) = ji5:=hji5
  have hji5z:(ji3) ≤ 64 → (a0 / 2 ^ (ji3).toNat) = ji5:=shr_small hji5
  obtain rfl:=Option.some.inj H
  go_enter Tryd.func65,Tryd.ntmps65
  go_wp2
  go_ret
  exact ⟨by first | rfl | (simp;done) | (simp only [← hji3,← hji5] <;> (first | rfl | simp)) | (simp [*];done),by repeat (first | exact Drawn0.refl _ | apply Drawn0.step)⟩
 rw [if_neg c4] at H
 exact absurd H (by simp)
def spec_l01In.f (a0:Int) (a1:Int) (a2:Int):Option (Bool):=if a0 ≥ a1 then (some (decide (a0 ≤ a2))) else (some false)
set_option maxHeartbeats 8000000 in
set_option maxRecDepth 100000 in
theorem spec_l01In.calls (a0 : Int) (a1 : Int) (a2 : Int) (r : Bool) (w : World) (h : spec_l01In.f a0 a1 a2 = some r) :
  Calls Tryd.prog 70 #[.int .i64 a0,.int .i64 a1,.int .i64 a2] w fun e w' => e = .returned (.bool r) ∧ Drawn0 w w' := by
 have H:=h
 unfold spec_l01In.f at H
 clear h
 by_cases c4:a0 ≥ a1
 ·rw [if_pos c4] at H
  have c4b0:decide (a1 ≤ a0) = true:=decide_eq_true c4
  clear c4
  obtain rfl:=Option.some.inj H
  go_enter Tryd.func70,Tryd.ntmps70
  go_wp2
  go_ret
  exact ⟨zs,by repeat (first | exact Drawn0.refl _ | apply Drawn0.step)⟩
 rw [if_neg c4] at H
 have c4b0:decide (a1 ≤ a0) = false:=decide_eq_false c4
 clear c4
 obtain rfl:=Option.some.inj H
 go_enter Tryd.func70,Tryd.ntmps70
 go_wp2
 go_ret
 exact ⟨zs,by repeat (first | exact Drawn0.refl _ | apply Drawn0.step)⟩
def spec_l01Full.f (a0:Int):Option (Int):=(spec_l01One.f a0).bind fun t280=>(some (wrap64 (t280 - 1)))
set_option maxHeartbeats 8000000 in
set_option maxRecDepth 100000 in
theorem spec_l01Full.calls (a0 : Int) (r : Int) (w : World) (h : spec_l01Full.f a0 = some r) :
  Calls Tryd.prog 89 #[.int .i64 a0] w fun e w' => e = .returned (.int .i64 r) ∧ Drawn0 w w' := by
 have H:=h
 unfold spec_l01Full.f at H
 clear h
 obtain ⟨t280,A2,H⟩:=zb H
 try dsimp only at H
 obtain rfl:=Option.some.inj H
 go_enter Tryd.func89,Tryd.ntmps89
 go_wp2_with (first | (refine zO (some 4) Tryd.func43 #[.int .i64 a0] ?_;(with_reducible refine (spec_l01One.calls a0 t280 _ A2.out).mono ?_);rintro e w' ⟨rfl,⟨nd,rfl⟩⟩;refine ⟨_,rfl,?_⟩))
 go_ret
 exact ⟨zs,by repeat (first | exact Drawn0.refl _ | apply Drawn0.step)⟩
def spec_l01Masks.l0:Nat → Int → List Int → Int → Option (Bool)
 | 0,_,_,_=>none
 | k + 1,x0,x1,x5=>if x5 < (x1.length:Int) then (if 0 ≤ x5 then ((spec_l01Full.f x0).bind fun t282=>((spec_l01In.f (rd x1 x5) 0 t282).bind fun t283=>(if t283 = true then (spec_l01Masks.l0 k x0 x1 (wrap64 (x5 + 1))) else (some false)))) else (none)) else (some true)
def spec_l01Masks.f (k:Nat) (a0:Int) (l1:List Int):Option (Bool):=spec_l01Masks.l0 k a0 l1 0
set_option maxHeartbeats 8000000 in
set_option maxRecDepth 100000 in
theorem spec_l01Masks.calls (k : Nat) (a0 : Int) (A1 : Option Addr) (c1 : Nat) (l1 : List Int) (r : Bool) (w : World) (hr1 : Kd.C (Kd.int .i64) w A1 l1.length l1) (hc1 : l1.length ≤ c1) (h : spec_l01Masks.f k a0 l1 = some r) :
  Calls Tryd.prog 71 #[.int .i64 a0,.slice A1 l1.length c1] w fun e w' => e = .returned (.bool r) ∧ Drawn0 w w' := by
 have HR1:=zA hr1
 have HC1:=zA hc1
 clear hr1 hc1
 have H:=h
 unfold spec_l01Masks.f at H
 clear h
 have H' := zA H
 clear H
 go_enter Tryd.func71,Tryd.ntmps71
 go_wp2
 repeat (go_quiet (fail);try go_wp2)
 go_loopg [5] k (fun kq v5 w' => ∃ (x5_1:Int),v5 = .int .i64 x5_1 ∧ Aside0 (spec_l01Masks.l0 kq a0 l1 x5_1 = some r) ∧ Aside0 (kq ≤ k) ∧ Drawn0 w w')
 case atStart=>exact ⟨(0),zs,H', ⟨Nat.le_refl _⟩,by repeat (first | exact Drawn0.refl _ | apply Drawn0.step)⟩
 case round =>
  clear H'
  try clear c1
  obtain ⟨x5_1,rfl,HA,HK1,⟨m1,rfl⟩⟩:=hrel
  cases gk with
  | zero=>exact absurd HA.out (by simp [spec_l01Masks.l0])
  | succ k1 =>
   have H:=HA.out
   clear HA
   simp only [spec_l01Masks.l0] at H
   by_cases c3:x5_1 < (l1.length:Int)
   ·rw [if_pos c3] at H
    have c3b0:decide (x5_1 < (l1.length:Int)) = true:=decide_eq_true c3
    clear c3
    by_cases c4:0 ≤ x5_1
    ·rw [if_pos c4] at H
     have c4b0:decide (0 ≤ x5_1) = true:=decide_eq_true c4
     clear c4
     obtain ⟨t282,A5,H⟩:=zb H
     try dsimp only at H
     obtain ⟨t283,A6,H⟩:=zb H
     try dsimp only at H
     by_cases c7:t283 = true
     ·subst c7
      rw [if_pos rfl] at H
      have H' := zA H
      clear H
      have p281:0 ≤ (x5_1:Int):=zd
      have q281:x5_1 < (l1.length:Int):=zd
      obtain ⟨ad281,e281,hx281_0⟩:=Kd.at_int HR1.out x5_1 p281 q281
      cases e281
      replace p281:=eq_true p281
      replace q281:=eq_true q281
      go_wp2_with (first | (go_at_call 89;(with_reducible refine (spec_l01Full.calls a0 t282 _ A5.out).mono ?_);rintro e w' ⟨rfl,⟨nd,rfl⟩⟩;(try exact zw)) | (go_at_call 70;(with_reducible refine (spec_l01In.calls (rd l1 x5_1) 0 t282 true _ A6.out).mono ?_);rintro e w' ⟨rfl,⟨nd,rfl⟩⟩;(try exact zw)))
      repeat (go_quiet (first | (go_at_call 89;(with_reducible refine (spec_l01Full.calls a0 t282 _ A5.out).mono ?_);rintro e w' ⟨rfl,⟨nd,rfl⟩⟩;(try exact zw)) | (go_at_call 70;(with_reducible refine (spec_l01In.calls (rd l1 x5_1) 0 t282 true _ A6.out).mono ?_);rintro e w' ⟨rfl,⟨nd,rfl⟩⟩;(try exact zw)));try go_wp2_with (first | (go_at_call 89;(with_reducible refine (spec_l01Full.calls a0 t282 _ A5.out).mono ?_);rintro e w' ⟨rfl,⟨nd,rfl⟩⟩;(try exact zw)) | (go_at_call 70;(with_reducible refine (spec_l01In.calls (rd l1 x5_1) 0 t282 true _ A6.out).mono ?_);rintro e w' ⟨rfl,⟨nd,rfl⟩⟩;(try exact zw))))
      go_roundg k1
      case measure=>have:=HK1.out;omega
      case rel=>exact ⟨(wrap64 (x5_1 + 1)),zs,H', ⟨by have:=HK1.out;omega⟩,by repeat (first | exact Drawn0.refl _ | apply Drawn0.step)⟩
     replace c7:=Bool.eq_false_iff.mpr c7
     subst c7
     rw [if_neg (show ¬ (false = true) by decide)] at H
     obtain rfl:=Option.some.inj H
     have p281:0 ≤ (x5_1:Int):=zd
     have q281:x5_1 < (l1.length:Int):=zd
     obtain ⟨ad281,e281,hx281_0⟩:=Kd.at_int HR1.out x5_1 p281 q281
     cases e281
     replace p281:=eq_true p281
     replace q281:=eq_true q281
     go_wp2_with (first | (go_at_call 89;(with_reducible refine (spec_l01Full.calls a0 t282 _ A5.out).mono ?_);rintro e w' ⟨rfl,⟨nd,rfl⟩⟩;(try exact zw)) | (go_at_call 70;(with_reducible refine (spec_l01In.calls (rd l1 x5_1) 0 t282 false _ A6.out).mono ?_);rintro e w' ⟨rfl,⟨nd,rfl⟩⟩;(try exact zw)))
     repeat (go_quiet (first | (go_at_call 89;(with_reducible refine (spec_l01Full.calls a0 t282 _ A5.out).mono ?_);rintro e w' ⟨rfl,⟨nd,rfl⟩⟩;(try exact zw)) | (go_at_call 70;(with_reducible refine (spec_l01In.calls (rd l1 x5_1) 0 t282 false _ A6.out).mono ?_);rintro e w' ⟨rfl,⟨nd,rfl⟩⟩;(try exact zw)));try go_wp2_with (first | (go_at_call 89;(with_reducible refine (spec_l01Full.calls a0 t282 _ A5.out).mono ?_);rintro e w' ⟨rfl,⟨nd,rfl⟩⟩;(try exact zw)) | (go_at_call 70;(with_reducible refine (spec_l01In.calls (rd l1 x5_1) 0 t282 false _ A6.out).mono ?_);rintro e w' ⟨rfl,⟨nd,rfl⟩⟩;(try exact zw))))
     go_ret
     exact ⟨zs,by repeat (first | exact Drawn0.refl _ | apply Drawn0.step)⟩
    rw [if_neg c4] at H
    exact absurd H (by simp)
   rw [if_neg c3] at H
   have c3b0:decide (x5_1 < (l1.length:Int)) = false:=decide_eq_false c3
   clear c3
   obtain rfl:=Option.some.inj H
   go_wp2
   repeat (go_quiet (fail);try go_wp2)
   go_ret
   exact ⟨zs,by repeat (first | exact Drawn0.refl _ | apply Drawn0.step)⟩
mutual
def spec_l02Is.j0:Nat → Bool → Int → List Int → Option (Bool)
 | 0,_,_,_=>none
 | k + 1,x24,x285000,x285001=>if x24 = true then (some false) else (spec_l02Is.l0 k 0 x285000 x285001)
def spec_l02Is.l0:Nat → Int → Int → List Int → Option (Bool)
 | 0,_,_,_=>none
 | k + 1,x3,x285000,x285001=>if x3 < x285000 then (if 0 ≤ x3 then (if x3 < (x285001.length:Int) then ((spec_l01Bit.f (rd x285001 x3) x3).bind fun t288=>(if t288 = true then (spec_l02Is.l1 k x3 0 x285000 x285001) else (some false))) else (none)) else (none)) else (some true)
def spec_l02Is.l1:Nat → Int → Int → Int → List Int → Option (Bool)
 | 0,_,_,_,_=>none
 | k + 1,x3,x4,x285000,x285001=>if x4 < x285000 then (if 0 ≤ x3 then (if x3 < (x285001.length:Int) then ((spec_l01Bit.f (rd x285001 x3) x4).bind fun t290=>(if 0 ≤ x4 then (if x4 < (x285001.length:Int) then ((spec_l01Bit.f (rd x285001 x4) x3).bind fun t292=>(if (t290 != t292) = true then (some false) else (spec_l02Is.l1 k x3 (wrap64 (x4 + 1)) x285000 x285001))) else (none)) else (none))) else (none)) else (none)) else (spec_l02Is.l0 k (wrap64 (x3 + 1)) x285000 x285001)
end
def spec_l02Is.f (k:Nat) (a0_0:Int) (l0_1:List Int):Option (Bool):=(spec_l01In.f a0_0 0 8).bind fun t285=>(if t285 = true then (if (l0_1.length:Int) = a0_0 then ((spec_l01Masks.f k a0_0 l0_1).bind fun t286=>(spec_l02Is.j0 k (!t286) a0_0 l0_1)) else (spec_l02Is.j0 k true a0_0 l0_1)) else (spec_l02Is.j0 k true a0_0 l0_1))
set_option maxHeartbeats 8000000 in
set_option maxRecDepth 100000 in
theorem spec_l02Is.calls (k : Nat) (a0_0 : Int) (A0_1 : Option Addr) (c0_1 : Nat) (l0_1 : List Int) (r : Bool) (w : World) (hr0_1 : Kd.C (Kd.int .i64) w A0_1 l0_1.length l0_1) (hc0_1 : l0_1.length ≤ c0_1) (h : spec_l02Is.f k a0_0 l0_1 = some r) :
  Calls Tryd.prog 46 #[.agg #[.int .i64 a0_0,.slice A0_1 l0_1.length c0_1]] w fun e w' => e = .returned (.bool r) ∧ Below w.heap.size w w' := by
 have hu26:=Tryd.underlying26
 have HR0_1:=zA hr0_1
 have HC0_1:=zA hc0_1
 clear hr0_1 hc0_1
 have HB:=zA (kW w.heap.size w)
 have H:=h
 unfold spec_l02Is.f at H
 clear h
 have HC2:=zA H
 clear H
 go_enter Tryd.func46,Tryd.ntmps46
 go_upto_region 1 with (first | (refine zBE 1 #[.int .i64 a0_0,.slice A0_1 l0_1.length c0_1] 26 ?_;intro gb284 hg w3 hbox hb;have BK284:=zA (hbox);have GW284:=zA (zBH hg HB.out);have GE284:=zA (zBH hg HB.out);replace HB:=zA (kQ (zQ HB.out) hb);clear hb hbox hg))
 repeat (go_quiet (first | (refine zBE 1 #[.int .i64 a0_0,.slice A0_1 l0_1.length c0_1] 26 ?_;intro gb284 hg w3 hbox hb;have n0_:=zA (kQ (zQ HB.out) hb);have n1_:=zA (hbox);have n2_:=zA (zBH hg HB.out);have n3_:=zA (zBH hg HB.out);clear HB;have HB:=n0_;have BK284:=n1_;have GW284:=n2_;have GE284:=n3_;clear n0_ n1_ n2_ n3_;clear hb hbox hg));go_upto_region 1 with (first | (refine zBE 1 #[.int .i64 a0_0,.slice A0_1 l0_1.length c0_1] 26 ?_;intro gb284 hg w3 hbox hb;have BK284:=zA (hbox);have GW284:=zA (zBH hg HB.out);have GE284:=zA (zBH hg HB.out);replace HB:=zA (kQ (zQ HB.out) hb);clear hb hbox hg)))
 (try simp only [Act.put,zL,zM,zN])
 go_cut [24] (fun v24 wc=>∃ (kq:Nat) (x24_1:Bool),v24 = .bool x24_1 ∧ Aside0 (spec_l02Is.j0 kq x24_1 a0_0 l0_1 = some r) ∧ Aside0 (kq ≤ k) ∧ Aside0 (wc.heap[gb284]? = some (.cells #[.int .i64 a0_0,(.slice A0_1 l0_1.length c0_1)] 26 (0,0))) ∧ Aside0 (Below w.heap.size w wc))
 case first =>
  have H:=HC2.out
  clear HC2
  obtain ⟨t285,A4,H⟩:=zb H
  try dsimp only at H
  by_cases c5:t285 = true
  ·subst c5
   rw [if_pos rfl] at H
   by_cases c6:(l0_1.length:Int) = a0_0
   ·rw [if_pos c6] at H
    obtain ⟨c6b0,c6b1⟩:=zT1 c6
    clear c6
    (first | rw [c6b0] | (simp only [i64_w,i32_w];rw [c6b0]) | skip)
    obtain ⟨t286,A7,H⟩:=zb H
    try dsimp only at H
    have H' := zA H
    clear H
    obtain ⟨hcz8_0,hcz8_1,hfz8_0,hfz8_1⟩:=zB3 BK284.out
    go_wp2_with (first | (go_at_call 70;(with_reducible refine (spec_l01In.calls a0_0 0 8 true _ A4.out).mono ?_);rintro e w' ⟨rfl,⟨nd,rfl⟩⟩;(try exact zw)) | (go_at_call 71;(with_reducible refine (spec_l01Masks.calls k a0_0 _ _ l0_1 t286 _ ?side1 ?side2 A7.out).mono ?_);(case side1=>exact zS (kO HR0_1.out (zT HB.out GE284.out)));(case side2=>exact HC0_1.out);rintro e w' ⟨rfl,⟨nd,rfl⟩⟩;(try exact zw)))
    repeat (go_quiet (first | (go_at_call 70;(with_reducible refine (spec_l01In.calls a0_0 0 8 true _ A4.out).mono ?_);rintro e w' ⟨rfl,⟨nd,rfl⟩⟩;(try exact zw)) | (go_at_call 71;(with_reducible refine (spec_l01Masks.calls k a0_0 _ _ l0_1 t286 _ ?side1 ?side2 A7.out).mono ?_);(case side1=>exact zS (kO HR0_1.out (zT HB.out GE284.out)));(case side2=>exact HC0_1.out);rintro e w' ⟨rfl,⟨nd,rfl⟩⟩;(try exact zw)));try go_wp2_with (first | (go_at_call 70;(with_reducible refine (spec_l01In.calls a0_0 0 8 true _ A4.out).mono ?_);rintro e w' ⟨rfl,⟨nd,rfl⟩⟩;(try exact zw)) | (go_at_call 71;(with_reducible refine (spec_l01Masks.calls k a0_0 _ _ l0_1 t286 _ ?side1 ?side2 A7.out).mono ?_);(case side1=>exact zS (kO HR0_1.out (zT HB.out GE284.out)));(case side2=>exact HC0_1.out);rintro e w' ⟨rfl,⟨nd,rfl⟩⟩;(try exact zw))))
    go_meet
    case rel=>exact ⟨_,(!t286),zs,H', ⟨by first | omega | exact Nat.le_refl _⟩,⟨zR BK284.out⟩,⟨zT HB.out GE284.out⟩⟩
   rw [if_neg c6] at H
   obtain ⟨c6b0,c6b1⟩:=zT2 c6
   (first | rw [c6b0] | (simp only [i64_w,i32_w];rw [c6b0]) | skip)
   have H' := zA H
   clear H
   obtain ⟨hcz9_0,hcz9_1,hfz9_0,hfz9_1⟩:=zB3 BK284.out
   go_wp2_with (first | (go_at_call 70;(with_reducible refine (spec_l01In.calls a0_0 0 8 true _ A4.out).mono ?_);rintro e w' ⟨rfl,⟨nd,rfl⟩⟩;(try exact zw)))
   repeat (go_quiet (first | (go_at_call 70;(with_reducible refine (spec_l01In.calls a0_0 0 8 true _ A4.out).mono ?_);rintro e w' ⟨rfl,⟨nd,rfl⟩⟩;(try exact zw)));try go_wp2_with (first | (go_at_call 70;(with_reducible refine (spec_l01In.calls a0_0 0 8 true _ A4.out).mono ?_);rintro e w' ⟨rfl,⟨nd,rfl⟩⟩;(try exact zw))))
   go_meet
   case rel=>exact ⟨_,(true),zs,H', ⟨by first | omega | exact Nat.le_refl _⟩,⟨zR BK284.out⟩,⟨zT HB.out GE284.out⟩⟩
  replace c5:=Bool.eq_false_iff.mpr c5
  subst c5
  rw [if_neg (show ¬ (false = true) by decide)] at H
  have H' := zA H
  clear H
  obtain ⟨hcz10_0,hcz10_1,hfz10_0,hfz10_1⟩:=zB3 BK284.out
  go_wp2_with (first | (go_at_call 70;(with_reducible refine (spec_l01In.calls a0_0 0 8 false _ A4.out).mono ?_);rintro e w' ⟨rfl,⟨nd,rfl⟩⟩;(try exact zw)))
  repeat (go_quiet (first | (go_at_call 70;(with_reducible refine (spec_l01In.calls a0_0 0 8 false _ A4.out).mono ?_);rintro e w' ⟨rfl,⟨nd,rfl⟩⟩;(try exact zw)));try go_wp2_with (first | (go_at_call 70;(with_reducible refine (spec_l01In.calls a0_0 0 8 false _ A4.out).mono ?_);rintro e w' ⟨rfl,⟨nd,rfl⟩⟩;(try exact zw))))
  go_meet
  case rel=>exact ⟨_,(true),zs,H', ⟨by first | omega | exact Nat.le_refl _⟩,⟨zR BK284.out⟩,⟨zT HB.out GE284.out⟩⟩
 case rest =>
  clear HC2
  try clear c4
  try clear c5
  try clear c6
  try clear hcz10_0
  try clear hcz10_1
  try clear hcz8_0
  try clear hcz8_1
  try clear hcz9_0
  try clear hcz9_1
  try clear hfz10_0
  try clear hfz10_1
  try clear hfz8_0
  try clear hfz8_1
  try clear hfz9_0
  try clear hfz9_1
  obtain ⟨kq,x24_1,rfl,HA,HJ1,BK284,HB⟩:=hcut
  cases kq with
  | zero=>exact absurd HA.out (by simp [spec_l02Is.j0])
  | succ kj1 =>
   have H:=HA.out
   clear HA
   simp only [spec_l02Is.j0] at H
   by_cases c11:x24_1 = true
   ·subst c11
    rw [if_pos rfl] at H
    obtain rfl:=Option.some.inj H
    go_wp2
    repeat (go_quiet (fail);try go_wp2)
    go_ret
    exact ⟨zr,zT HB.out GE284.out⟩
   replace c11:=Bool.eq_false_iff.mpr c11
   subst c11
   rw [if_neg (show ¬ (false = true) by decide)] at H
   have H' := zA H
   clear H
   go_wp2
   repeat (go_quiet (fail);try go_wp2)
   go_loopg [3] kj1 (fun kq v3 w' => ∃ (x3_2:Int),v3 = .int .i64 x3_2 ∧ Aside0 (spec_l02Is.l0 kq x3_2 a0_0 l0_1 = some r) ∧ Aside0 (kq ≤ kj1) ∧ Aside0 (w'.heap[gb284]? = some (.cells #[.int .i64 a0_0,(.slice A0_1 l0_1.length c0_1)] 26 (0,0))) ∧ Aside0 (Below w.heap.size w w'))
   case atStart=>exact ⟨(0),zs,H', ⟨Nat.le_refl _⟩,⟨zR BK284.out⟩,⟨zT HB.out GE284.out⟩⟩
   case round =>
    clear H'
    try clear c1
    try clear c4
    try clear c5
    try clear c6
    try clear c11
    try clear hcz10_0
    try clear hcz10_1
    try clear hcz8_0
    try clear hcz8_1
    try clear hcz9_0
    try clear hcz9_1
    try clear hfz10_0
    try clear hfz10_1
    try clear hfz8_0
    try clear hfz8_1
    try clear hfz9_0
    try clear hfz9_1
    obtain ⟨x3_2,rfl,HA,HK2,BK284,HB⟩:=hrel
    cases gk with
    | zero=>exact absurd HA.out (by simp [spec_l02Is.l0])
    | succ k2 =>
     have H:=HA.out
     clear HA
     simp only [spec_l02Is.l0] at H
     by_cases c12:x3_2 < a0_0
     ·rw [if_pos c12] at H
      have c12b0:decide (x3_2 < a0_0) = true:=decide_eq_true c12
      clear c12
      by_cases c13:0 ≤ x3_2
      ·rw [if_pos c13] at H
       have c13b0:decide (0 ≤ x3_2) = true:=decide_eq_true c13
       clear c13
       by_cases c14:x3_2 < (l0_1.length:Int)
       ·rw [if_pos c14] at H
        have c14b0:decide (x3_2 < (l0_1.length:Int)) = true:=decide_eq_true c14
        clear c14
        obtain ⟨t288,A15,H⟩:=zb H
        try dsimp only at H
        by_cases c16:t288 = true
        ·subst c16
         rw [if_pos rfl] at H
         have H' := zA H
         clear H
         obtain ⟨hcz17_0,hcz17_1,hfz17_0,hfz17_1⟩:=zB3 BK284.out
         have p287:0 ≤ (x3_2:Int):=zd
         have q287:x3_2 < (l0_1.length:Int):=zd
         obtain ⟨ad287,e287,hx287_0⟩:=Kd.at_int HR0_1.out x3_2 p287 q287
         cases e287
         replace hx287_0:=(HB.out.cell (jG w _ hx287_0)).trans hx287_0
         replace p287:=eq_true p287
         replace q287:=eq_true q287
         go_wp2_with (first | (go_at_call 65;(with_reducible refine (spec_l01Bit.calls (rd l0_1 x3_2) x3_2 true _ A15.out).mono ?_);rintro e w' ⟨rfl,⟨nd,rfl⟩⟩;(try exact zw)))
         repeat (go_quiet (first | (go_at_call 65;(with_reducible refine (spec_l01Bit.calls (rd l0_1 x3_2) x3_2 true _ A15.out).mono ?_);rintro e w' ⟨rfl,⟨nd,rfl⟩⟩;(try exact zw)));try go_wp2_with (first | (go_at_call 65;(with_reducible refine (spec_l01Bit.calls (rd l0_1 x3_2) x3_2 true _ A15.out).mono ?_);rintro e w' ⟨rfl,⟨nd,rfl⟩⟩;(try exact zw))))
         go_loopg [4] k2 (fun kq v4 w' => ∃ (x4_3:Int),v4 = .int .i64 x4_3 ∧ Aside0 (spec_l02Is.l1 kq x3_2 x4_3 a0_0 l0_1 = some r) ∧ Aside0 (kq ≤ k2) ∧ Aside0 (w'.heap[gb284]? = some (.cells #[.int .i64 a0_0,(.slice (some ad287) l0_1.length c0_1)] 26 (0,0))) ∧ Aside0 (Below w.heap.size w w'))
         case atStart=>exact ⟨(0),zs,H', ⟨Nat.le_refl _⟩,⟨zR BK284.out⟩,⟨zT HB.out GE284.out⟩⟩
         case round =>
          clear H'
          try clear c1
          try clear hx2
          try clear c4
          try clear c5
          try clear c6
          try clear c11
          try clear c12
          try clear c13
          try clear c14
          try clear c16
          try clear hcz10_0
          try clear hcz10_1
          try clear hcz17_0
          try clear hcz17_1
          try clear hcz8_0
          try clear hcz8_1
          try clear hcz9_0
          try clear hcz9_1
          try clear hfz10_0
          try clear hfz10_1
          try clear hfz17_0
          try clear hfz17_1
          try clear hfz8_0
          try clear hfz8_1
          try clear hfz9_0
          try clear hfz9_1
          try clear hx287_0
          obtain ⟨x4_3,rfl,HA,HK3,BK284,HB⟩:=hrel
          cases gk with
          | zero=>exact absurd HA.out (by simp [spec_l02Is.l1])
          | succ k3 =>
           have H:=HA.out
           clear HA
           simp only [spec_l02Is.l1] at H
           by_cases c18:x4_3 < a0_0
           ·rw [if_pos c18] at H
            have c18b0:decide (x4_3 < a0_0) = true:=decide_eq_true c18
            clear c18
            by_cases c19:0 ≤ x3_2
            ·rw [if_pos c19] at H
             have c19b0:decide (0 ≤ x3_2) = true:=decide_eq_true c19
             clear c19
             by_cases c20:x3_2 < (l0_1.length:Int)
             ·rw [if_pos c20] at H
              have c20b0:decide (x3_2 < (l0_1.length:Int)) = true:=decide_eq_true c20
              clear c20
              obtain ⟨t290,A21,H⟩:=zb H
              try dsimp only at H
              by_cases c22:0 ≤ x4_3
              ·rw [if_pos c22] at H
               have c22b0:decide (0 ≤ x4_3) = true:=decide_eq_true c22
               clear c22
               by_cases c23:x4_3 < (l0_1.length:Int)
               ·rw [if_pos c23] at H
                have c23b0:decide (x4_3 < (l0_1.length:Int)) = true:=decide_eq_true c23
                clear c23
                obtain ⟨t292,A24,H⟩:=zb H
                try dsimp only at H
                by_cases c25:(t290 != t292) = true
                ·rw [if_pos c25] at H
                 have c25b0:(t290 != t292) = true:=c25
                 (try (have c25b1:decide (t290 = t292) = false:=by simpa using c25))
                 (try (have c25b2:(t290 == t292) = false:=by simpa using c25))
                 (try (have c25b3:¬ (t290 = t292):=by simpa using c25))
                 clear c25
                 obtain rfl:=Option.some.inj H
                 obtain ⟨hcz26_0,hcz26_1,hfz26_0,hfz26_1⟩:=zB3 BK284.out
                 have p289:0 ≤ (x3_2:Int):=zd
                 have q289:x3_2 < (l0_1.length:Int):=zd
                 obtain ⟨ad289,e289,hx289_0⟩:=Kd.at_int HR0_1.out x3_2 p289 q289
                 obtain rfl:ad287 = ad289:=(by injection e289)
                 replace hx289_0:=(HB.out.cell (jG w _ hx289_0)).trans hx289_0
                 replace p289:=eq_true p289
                 replace q289:=eq_true q289
                 go_wp2_with (first | (go_at_call 65;(with_reducible refine (spec_l01Bit.calls (rd l0_1 x3_2) x4_3 t290 _ A21.out).mono ?_);rintro e w' ⟨rfl,⟨nd,rfl⟩⟩;(try exact zw);have p291:0 ≤ (x4_3:Int):=zd;have q291:x4_3 < (l0_1.length:Int):=zd;obtain ⟨ad291,e291,hx291_0⟩:=Kd.at_int HR0_1.out x4_3 p291 q291;obtain rfl:ad287 = ad291:=(by injection e291);replace hx291_0:=(HB.out.cell (jG w _ hx291_0)).trans hx291_0;replace p291:=eq_true p291;replace q291:=eq_true q291) | (go_at_call 65;(with_reducible refine (spec_l01Bit.calls (rd l0_1 x4_3) x3_2 t292 _ A24.out).mono ?_);rintro e w' ⟨rfl,⟨nd,rfl⟩⟩;(try exact zw)))
                 repeat (go_quiet (first | (go_at_call 65;(with_reducible refine (spec_l01Bit.calls (rd l0_1 x3_2) x4_3 t290 _ A21.out).mono ?_);rintro e w' ⟨rfl,⟨nd,rfl⟩⟩;(try exact zw);have p291:0 ≤ (x4_3:Int):=zd;have q291:x4_3 < (l0_1.length:Int):=zd;obtain ⟨ad291,e291,hx291_0⟩:=Kd.at_int HR0_1.out x4_3 p291 q291;obtain rfl:ad287 = ad291:=(by injection e291);replace hx291_0:=(HB.out.cell (jG w _ hx291_0)).trans hx291_0;replace p291:=eq_true p291;replace q291:=eq_true q291) | (go_at_call 65;(with_reducible refine (spec_l01Bit.calls (rd l0_1 x4_3) x3_2 t292 _ A24.out).mono ?_);rintro e w' ⟨rfl,⟨nd,rfl⟩⟩;(try exact zw)));try go_wp2_with (first | (go_at_call 65;(with_reducible refine (spec_l01Bit.calls (rd l0_1 x3_2) x4_3 t290 _ A21.out).mono ?_);rintro e w' ⟨rfl,⟨nd,rfl⟩⟩;(try exact zw);have p291:0 ≤ (x4_3:Int):=zd;have q291:x4_3 < (l0_1.length:Int):=zd;obtain ⟨ad291,e291,hx291_0⟩:=Kd.at_int HR0_1.out x4_3 p291 q291;obtain rfl:ad287 = ad291:=(by injection e291);replace hx291_0:=(HB.out.cell (jG w _ hx291_0)).trans hx291_0;replace p291:=eq_true p291;replace q291:=eq_true q291) | (go_at_call 65;(with_reducible refine (spec_l01Bit.calls (rd l0_1 x4_3) x3_2 t292 _ A24.out).mono ?_);rintro e w' ⟨rfl,⟨nd,rfl⟩⟩;(try exact zw))))
                 go_ret
                 exact ⟨zr,zT HB.out GE284.out⟩
                rw [if_neg c25] at H
                have c25b0:(t290 != t292) = false:=by simpa using c25
                (try (have c25b1:decide (t290 = t292) = true:=by simpa using c25))
                (try (have c25b2:(t290 == t292) = true:=by simpa using c25))
                clear c25
                have H' := zA H
                clear H
                obtain ⟨hcz27_0,hcz27_1,hfz27_0,hfz27_1⟩:=zB3 BK284.out
                have p289:0 ≤ (x3_2:Int):=zd
                have q289:x3_2 < (l0_1.length:Int):=zd
                obtain ⟨ad289,e289,hx289_0⟩:=Kd.at_int HR0_1.out x3_2 p289 q289
                obtain rfl:ad287 = ad289:=(by injection e289)
                replace hx289_0:=(HB.out.cell (jG w _ hx289_0)).trans hx289_0
                replace p289:=eq_true p289
                replace q289:=eq_true q289
                go_wp2_with (first | (go_at_call 65;(with_reducible refine (spec_l01Bit.calls (rd l0_1 x3_2) x4_3 t290 _ A21.out).mono ?_);rintro e w' ⟨rfl,⟨nd,rfl⟩⟩;(try exact zw);have p291:0 ≤ (x4_3:Int):=zd;have q291:x4_3 < (l0_1.length:Int):=zd;obtain ⟨ad291,e291,hx291_0⟩:=Kd.at_int HR0_1.out x4_3 p291 q291;obtain rfl:ad287 = ad291:=(by injection e291);replace hx291_0:=(HB.out.cell (jG w _ hx291_0)).trans hx291_0;replace p291:=eq_true p291;replace q291:=eq_true q291) | (go_at_call 65;(with_reducible refine (spec_l01Bit.calls (rd l0_1 x4_3) x3_2 t292 _ A24.out).mono ?_);rintro e w' ⟨rfl,⟨nd,rfl⟩⟩;(try exact zw)))
                repeat (go_quiet (first | (go_at_call 65;(with_reducible refine (spec_l01Bit.calls (rd l0_1 x3_2) x4_3 t290 _ A21.out).mono ?_);rintro e w' ⟨rfl,⟨nd,rfl⟩⟩;(try exact zw);have p291:0 ≤ (x4_3:Int):=zd;have q291:x4_3 < (l0_1.length:Int):=zd;obtain ⟨ad291,e291,hx291_0⟩:=Kd.at_int HR0_1.out x4_3 p291 q291;obtain rfl:ad287 = ad291:=(by injection e291);replace hx291_0:=(HB.out.cell (jG w _ hx291_0)).trans hx291_0;replace p291:=eq_true p291;replace q291:=eq_true q291) | (go_at_call 65;(with_reducible refine (spec_l01Bit.calls (rd l0_1 x4_3) x3_2 t292 _ A24.out).mono ?_);rintro e w' ⟨rfl,⟨nd,rfl⟩⟩;(try exact zw)));try go_wp2_with (first | (go_at_call 65;(with_reducible refine (spec_l01Bit.calls (rd l0_1 x3_2) x4_3 t290 _ A21.out).mono ?_);rintro e w' ⟨rfl,⟨nd,rfl⟩⟩;(try exact zw);have p291:0 ≤ (x4_3:Int):=zd;have q291:x4_3 < (l0_1.length:Int):=zd;obtain ⟨ad291,e291,hx291_0⟩:=Kd.at_int HR0_1.out x4_3 p291 q291;obtain rfl:ad287 = ad291:=(by injection e291);replace hx291_0:=(HB.out.cell (jG w _ hx291_0)).trans hx291_0;replace p291:=eq_true p291;replace q291:=eq_true q291) | (go_at_call 65;(with_reducible refine (spec_l01Bit.calls (rd l0_1 x4_3) x3_2 t292 _ A24.out).mono ?_);rintro e w' ⟨rfl,⟨nd,rfl⟩⟩;(try exact zw))))
                go_roundg k3
                case measure=>have:=HJ1.out;have:=HK2.out;have:=HK3.out;omega
                case rel=>exact ⟨(wrap64 (x4_3 + 1)),zs,H', ⟨by have:=HJ1.out;have:=HK2.out;have:=HK3.out;omega⟩,⟨zR BK284.out⟩,⟨zT HB.out GE284.out⟩⟩
               rw [if_neg c23] at H
               exact absurd H (by simp)
              rw [if_neg c22] at H
              exact absurd H (by simp)
             rw [if_neg c20] at H
             exact absurd H (by simp)
            rw [if_neg c19] at H
            exact absurd H (by simp)
           rw [if_neg c18] at H
           have c18b0:decide (x4_3 < a0_0) = false:=decide_eq_false c18
           clear c18
           have H' := zA H
           clear H
           obtain ⟨hcz28_0,hcz28_1,hfz28_0,hfz28_1⟩:=zB3 BK284.out
           go_wp2
           repeat (go_quiet (fail);try go_wp2)
           go_roundg k3
           case measure=>have:=HJ1.out;have:=HK2.out;have:=HK3.out;omega
           case rel=>exact ⟨(wrap64 (x3_2 + 1)),zs,H', ⟨by have:=HJ1.out;have:=HK2.out;have:=HK3.out;omega⟩,⟨zR BK284.out⟩,⟨zT HB.out GE284.out⟩⟩
        replace c16:=Bool.eq_false_iff.mpr c16
        subst c16
        rw [if_neg (show ¬ (false = true) by decide)] at H
        obtain rfl:=Option.some.inj H
        obtain ⟨hcz29_0,hcz29_1,hfz29_0,hfz29_1⟩:=zB3 BK284.out
        have p287:0 ≤ (x3_2:Int):=zd
        have q287:x3_2 < (l0_1.length:Int):=zd
        obtain ⟨ad287,e287,hx287_0⟩:=Kd.at_int HR0_1.out x3_2 p287 q287
        cases e287
        replace hx287_0:=(HB.out.cell (jG w _ hx287_0)).trans hx287_0
        replace p287:=eq_true p287
        replace q287:=eq_true q287
        go_wp2_with (first | (go_at_call 65;(with_reducible refine (spec_l01Bit.calls (rd l0_1 x3_2) x3_2 false _ A15.out).mono ?_);rintro e w' ⟨rfl,⟨nd,rfl⟩⟩;(try exact zw)))
        repeat (go_quiet (first | (go_at_call 65;(with_reducible refine (spec_l01Bit.calls (rd l0_1 x3_2) x3_2 false _ A15.out).mono ?_);rintro e w' ⟨rfl,⟨nd,rfl⟩⟩;(try exact zw)));try go_wp2_with (first | (go_at_call 65;(with_reducible refine (spec_l01Bit.calls (rd l0_1 x3_2) x3_2 false _ A15.out).mono ?_);rintro e w' ⟨rfl,⟨nd,rfl⟩⟩;(try exact zw))))
        go_ret
        exact ⟨zr,zT HB.out GE284.out⟩
       rw [if_neg c14] at H
       exact absurd H (by simp)
      rw [if_neg c13] at H
      exact absurd H (by simp)
     rw [if_neg c12] at H
     have c12b0:decide (x3_2 < a0_0) = false:=decide_eq_false c12
     clear c12
     obtain rfl:=Option.some.inj H
     obtain ⟨hcz30_0,hcz30_1,hfz30_0,hfz30_1⟩:=zB3 BK284.out
     go_wp2
     repeat (go_quiet (fail);try go_wp2)
     go_ret
     exact ⟨zr,zT HB.out GE284.out⟩
def spec_l02Dep.f (a0_0:Int) (l0_1:List Int) (a1:Int) (a2:Int):Option (Bool):=if 0 ≤ a1 then (if a1 < (l0_1.length:Int) then ((spec_l01Bit.f (rd l0_1 a1) a2).bind fun t295=>(some t295)) else (none)) else (none)
set_option maxHeartbeats 8000000 in
set_option maxRecDepth 100000 in
theorem spec_l02Dep.calls (a0_0 : Int) (A0_1 : Option Addr) (c0_1 : Nat) (l0_1 : List Int) (a1 : Int) (a2 : Int) (r : Bool) (w : World) (hr0_1 : Kd.C (Kd.int .i64) w A0_1 l0_1.length l0_1) (hc0_1 : l0_1.length ≤ c0_1) (h : spec_l02Dep.f a0_0 l0_1 a1 a2 = some r) :
  Calls Tryd.prog 48 #[.agg #[.int .i64 a0_0,.slice A0_1 l0_1.length c0_1],.int .i64 a1,.int .i64 a2] w fun e w' => e = .returned (.bool r) ∧ Below w.heap.size w w' := by
 have hu26:=Tryd.underlying26
 have HR0_1:=zA hr0_1
 have HC0_1:=zA hc0_1
 clear hr0_1 hc0_1
 have HB:=zA (kW w.heap.size w)
 have H:=h
 unfold spec_l02Dep.f at H
 clear h
 by_cases c4:0 ≤ a1
 ·rw [if_pos c4] at H
  have c4b0:decide (0 ≤ a1) = true:=decide_eq_true c4
  clear c4
  by_cases c5:a1 < (l0_1.length:Int)
  ·rw [if_pos c5] at H
   have c5b0:decide (a1 < (l0_1.length:Int)) = true:=decide_eq_true c5
   clear c5
   obtain ⟨t295,A6,H⟩:=zb H
   try dsimp only at H
   obtain rfl:=Option.some.inj H
   go_enter Tryd.func48,Tryd.ntmps48
   go_wp2_with (first | (refine zBE 3 #[.int .i64 a0_0,.slice A0_1 l0_1.length c0_1] 26 ?_;intro gb293 hg w7 hbox hb;have BK293:=zA (hbox);have GW293:=zA (zBH hg HB.out);have GE293:=zA (zBH hg HB.out);replace HB:=zA (kQ (zQ HB.out) hb);clear hb hbox hg;obtain ⟨hcz8_0,hcz8_1,hfz8_0,hfz8_1⟩:=zB3 BK293.out;have p294:0 ≤ (a1:Int):=zd;have q294:a1 < (l0_1.length:Int):=zd;obtain ⟨ad294,e294,hx294_0⟩:=Kd.at_int HR0_1.out a1 p294 q294;cases e294;replace hx294_0:=(HB.out.cell (jG w _ hx294_0)).trans hx294_0;replace p294:=eq_true p294;replace q294:=eq_true q294) | (refine zO (some 13) Tryd.func65 #[.int .i64 (rd l0_1 a1),.int .i64 a2] ?_;(with_reducible refine (spec_l01Bit.calls (rd l0_1 a1) a2 t295 _ A6.out).mono ?_);rintro e w' ⟨rfl,⟨nd,rfl⟩⟩;refine ⟨_,rfl,?_⟩))
   go_ret
   exact ⟨zr,zT HB.out GE293.out⟩
  rw [if_neg c5] at H
  exact absurd H (by simp)
 rw [if_neg c4] at H
 exact absurd H (by simp)
def impl_mutual.l0:Nat → List Int → List Int → Int → Int → Option (List Int)
 | 0,_,_,_,_=>none
 | k + 1,x0,x3,x8,x9=>if x9 < x8 then (if 0 ≤ x9 then (if x9 < (x3.length:Int) then (if x9 < (x0.length:Int) then ((impl_one.f x9).bind fun t337=>(impl_mutual.l0 k x0 (x3.set (x9:Int).toNat (Go.bits .and .i64 (rd x3 x9) (Go.bits .andNot .i64 (rd x0 x9) t337))) x8 (wrap64 (x9 + 1)))) else (none)) else (none)) else (none)) else (some x3)
def impl_mutual.f (k:Nat) (l0:List Int):Option (List Int):=(impl_converse.f k l0).bind fun t332=>(impl_mutual.l0 k l0 t332 (t332.length:Int) 0)
def impl_mutual.T5:Bool × List (List Nat × List Nat):=(true,[([],[]),([],[]),([0,1],[0,1]),([2],[2]),([],[]),([],[]),([4,5],[4,5]),([6],[6]),([],[]),([8],[8]),([7,9],[7,9]),([3,10],[3,10]),([0,1,0,1,2,3,4,5,6,7,8,9,10,11],[0,1]),([12,11,9,0,1,2,3,4,5,6,7,8,9,10,11],[11,12])])
def impl_mutual.B5:List Nat:=[0,0,3,7,0,0,48,112,0,256,1008,2047,4095,8191]
theorem impl_mutual.tab5:rtab .any (opsOf Tryd.f68 5) = impl_mutual.T5:=by kernel_rfl
theorem impl_mutual.bits5:waitsOk impl_mutual.T5.2 impl_mutual.B5 = true:=by kernel_rfl
set_option maxHeartbeats 8000000 in
set_option maxRecDepth 100000 in
theorem impl_mutual.calls (k : Nat) (A0 : Option Addr) (c0 : Nat) (l0 : List Int) (r : List Int) (w : World) (hr0 : Kd.C (Kd.int .i64) w A0 l0.length l0) (hc0 : l0.length ≤ c0) (hT : TabW w) (h : impl_mutual.f k l0 = some r) :
  Calls Tryd.prog 68 #[.slice A0 l0.length c0] w fun e w' => ∃ v0_:Value,e = .returned (v0_) ∧ Kd.R (Kd.int .i64) 2 w' w.heap.size (fun _=>True) v0_ r ∧ Below w.heap.size w w' := by
 have HT:=zA hT
 clear hT
 have HR0:=zA hr0
 have HC0:=zA hc0
 clear hr0 hc0
 have HB:=zA (kW w.heap.size w)
 have H:=h
 unfold impl_mutual.f at H
 clear h
 obtain ⟨t332,A2,H⟩:=zb H
 try dsimp only at H
 have H' := zA H
 clear H
 go_enter Tryd.func68,Tryd.ntmps68
 go_wp2_with (first | (refine zO (some 6) Tryd.func51 #[.slice A0 l0.length c0] ?_;(with_reducible refine (impl_converse.calls k _ _ l0 t332 _ ?side1 ?side2 ?side3 A2.out).mono ?_);(case side1=>exact zS HR0.out);(case side2=>exact HC0.out);(case side3=>exact TabW.below HT.out (zQ HB.out));rintro e w3 ⟨v333,rfl,ho0,hb⟩;refine ⟨_,rfl,?_⟩;have HO334:=zA (kI ho0 (kP (zQ HB.out)));replace HB:=zA (kQ (zQ HB.out) hb);(try clear hb);(try clear ho0);obtain ⟨Ao4,co4,eo4⟩:=kM HO334.out;subst eo4))
 go_loopg [9] k (fun kq v9 w' => ∃ (x3_1:List Int) (x9_1:Int),v9 = .int .i64 x9_1 ∧ Aside0 (impl_mutual.l0 kq l0 x3_1 (t332.length:Int) x9_1 = some r) ∧ Aside0 (kq ≤ k) ∧ Aside0 (Kd.R (Kd.int .i64) 2 w' w.heap.size (fun _=>True) (.slice Ao4 t332.length co4) x3_1) ∧ Aside0 (Below w.heap.size w w'))
 case atStart=>exact ⟨(t332),(0),zs,H', ⟨Nat.le_refl _⟩,⟨zP HO334.out⟩,⟨zQ HB.out⟩⟩
 case round =>
  clear H'
  obtain ⟨x3_1,x9_1,rfl,HA,HK1,HO_3,HB⟩:=hrel
  have hl3_1:=(kB HO_3.out).1
  rw [hl3_1] at HO_3
  (try simp only [hl3_1])
  cases gk with
  | zero=>exact absurd HA.out (by simp [impl_mutual.l0])
  | succ k1 =>
   have H:=HA.out
   clear HA
   simp only [impl_mutual.l0] at H
   by_cases c5:x9_1 < (t332.length:Int)
   ·rw [if_pos c5] at H
    have c5b0:decide (x9_1 < (t332.length:Int)) = true:=decide_eq_true c5
    (try (have c5b0h0_:=c5b0;rw [hl3_1] at c5b0h0_))
    clear c5
    by_cases c6:0 ≤ x9_1
    ·rw [if_pos c6] at H
     have c6b0:decide (0 ≤ x9_1) = true:=decide_eq_true c6
     clear c6
     by_cases c7:x9_1 < (x3_1.length:Int)
     ·rw [if_pos c7] at H
      have c7b0:decide (x9_1 < (x3_1.length:Int)) = true:=decide_eq_true c7
      (try (have c7b0h0_:=c7b0;rw [hl3_1] at c7b0h0_))
      clear c7
      by_cases c8:x9_1 < (l0.length:Int)
      ·rw [if_pos c8] at H
       have c8b0:decide (x9_1 < (l0.length:Int)) = true:=decide_eq_true c8
       (try (have c8b0h0_:=c8b0;rw [hl3_1] at c8b0h0_))
       clear c8
       obtain ⟨t337,A9,H⟩:=zb H
       try dsimp only at H
       obtain ⟨y338,hy338⟩:∃ y_:List Int,y_ = (x3_1.set (x9_1:Int).toNat (Go.bits .and .i64 (rd x3_1 x9_1) (Go.bits .andNot .i64 (rd l0 x9_1) t337))):=⟨_,rfl⟩
       replace H:(impl_mutual.l0 k1 l0 y338 (t332.length:Int) (wrap64 (x9_1 + 1))) = some r:=zy hy338 H
       have Ny338:=zA hy338
       clear hy338
       have H' := zA H
       clear H
       try go_wp2
       replace HO_3:=zA (zH HO_3.out)
       replace HB:=zA (zD HB.out)
       have p335:0 ≤ (x9_1:Int):=zd
       have q335:x9_1 < (x3_1.length:Int):=zd
       obtain ⟨ad335,e335,hx335_0⟩:=Kd.at_int (kB HO_3.out).2.2 x9_1 p335 q335
       cases e335
       replace p335:=eq_true p335
       replace q335:=eq_true q335
       have p336:0 ≤ (x9_1:Int):=zd
       have q336:x9_1 < (l0.length:Int):=zd
       obtain ⟨ad336,e336,hx336_0⟩:=Kd.at_int HR0.out x9_1 p336 q336
       have hw336_0:=hx336_0
       cases e336
       replace hx336_0:=(HB.out.cell (jG w _ hx336_0)).trans hx336_0
       replace p336:=eq_true p336
       replace q336:=eq_true q336
       refine start_ (n:=14) (S:=fun w' => w'.cell? (ad335.add (x9_1).toNat) = some (.int .i64 (rd x3_1 x9_1)) ∧ w'.cell? (ad336.add (x9_1).toNat) = some (.int .i64 (rd l0 x9_1))) (ds:=[13]) #[false,false,false,false,false,false,false,false,false,false,false,false,false,false] (by kernel_rfl) rfl rfl ⟨hx335_0,(pw_cell_below HB.out hw336_0)⟩ (fun hHeld=>?_);refine with_tabW impl_mutual.tab5 impl_mutual.bits5 (fun HT_ HW_=>?_)
       generalize wr.drew = w11 at HO_3 HB hx335_0 hx336_0 hHeld ⊢
       refine zp 0 (some 12) #[true,false,false,false,false,false,false,false,false,false,false,false,false,false] HT_.out ?_
       refine zp 1 (some 13) #[true,true,false,false,false,false,false,false,false,false,false,false,false,false] HT_.out ?_
       refine zp 2 (some 14) #[true,true,true,false,false,false,false,false,false,false,false,false,false,false] HT_.out ?_
       refine zp 4 (some 16) #[true,true,true,false,true,false,false,false,false,false,false,false,false,false] HT_.out ?_
       refine zp 5 (some 17) #[true,true,true,false,true,true,false,false,false,false,false,false,false,false] HT_.out ?_
       refine zp 6 (some 18) #[true,true,true,false,true,true,true,false,false,false,false,false,false,false] HT_.out ?_
       refine zp 8 (some 20) #[true,true,true,false,true,true,true,false,true,false,false,false,false,false] HT_.out ?_
       refine zc 3 (some 15) #[true,true,true,true,true,true,true,false,true,false,false,false,false,false] HT_.out HW_.out hHeld ?_
       refine zc 7 (some 19) #[true,true,true,true,true,true,true,true,true,false,false,false,false,false] HT_.out HW_.out hHeld ?_
       refine one_ (i:=9) (N:=some 21) #[true,true,true,true,true,true,true,true,true,true,false,false,false,false] rfl rfl (one_of HT_.out (by kernel_rfl)) (by decide) (fun K hK=>?_)
       refine goes_ Tryd.func31 (by kernel_rfl) rfl #[.int .i64 x9_1] (by rfl) rfl rfl zg ?_
       with_reducible refine (impl_one.calls x9_1 t337 _ A9.out).mono ?_
       rintro e w' ⟨rfl,⟨nd,rfl⟩⟩
       refine ⟨_,rfl,?_⟩
       have p10:0 ≤ (x9_1:Int):=zd
       have q10:(x9_1:Int) < ((x3_1.length:Int):Int):=zd
       obtain ⟨go10,co10,eo10,gb10,gl10,cl10,HG10⟩:=Kd.R_form HO_3.out (by omega)
       (first | cases eo10 | (injection eo10 with ea_ en_ ec_;(first | subst ea_ | (injection ea_ with ea_;subst ea_));subst ec_;clear en_))
       have GB10:=zA gb10
       have GG10:=zA HG10
       clear gb10 gl10 HG10
       (first | simp only [add_plain] at hx335_0 | skip)
       obtain ⟨hx10_0,hf10_0⟩:=Kd.R_celln 0 HO_3.out (x9_1:Int) p10 q10
       replace p10:=eq_true p10
       replace q10:=eq_true q10
       have HP12:=Kd.R_putn HO_3.out (x9_1:Int) (Go.bits .and .i64 (rd x3_1 x9_1) (Go.bits .andNot .i64 (rd l0 x9_1) t337))
       rw [← Ny338.out] at HP12
       have HQ12:=zA HP12
       clear HP12
       refine hK.out _ _ ⟨hHeld.1,(pw_cell_below HB.out hw336_0)⟩ (fun hHeld=>?_)
       clear hK K
       refine norm_ (a' := ?_) ?_ ?_
       rotate_left
       ·show Act.put _ (some 21) _ = _
        simp only [Act.put,zL,zM,zN,i64_w,i32_w]
        rfl
       refine zp 10 (some 22) #[true,true,true,true,true,true,true,true,true,true,true,false,false,false] HT_.out ?_
       refine zp 11 (some 23) #[true,true,true,true,true,true,true,true,true,true,true,true,false,false] HT_.out ?_
       refine zp 12 (some 24) #[true,true,true,true,true,true,true,true,true,true,true,true,true,false] HT_.out ?_
       refine last_ (i:=13) (N:=none) #[true,true,true,true,true,true,true,true,true,true,true,true,true,true] rfl rfl (one_of HT_.out (by kernel_rfl)) (by decide) (fun K hK=>?_)
       refine skip_ (w1:=?_) (by rfl) rfl ?_ ?_
       rotate_left
       ·go_simp
        rfl
       refine hK.out _ _ ?_
       clear hK K
       refine done_ (done_of HT_.out (by kernel_rfl)) ?_
       try go_wp2
       (try simp only [← hl3_1])
       go_roundg k1
       case measure=>have:=HK1.out;omega
       case rel=>exact ⟨(y338),(wrap64 (x9_1 + 1)),zs,H', ⟨by have:=HK1.out;omega⟩,⟨by (try simp only [hl3_1]);(with_reducible repeat (first | apply zF | apply zG | apply zH));exact HQ12.out⟩,⟨zT HB.out GB10.out⟩⟩
      rw [if_neg c8] at H
      exact absurd H (by simp)
     rw [if_neg c7] at H
     exact absurd H (by simp)
    rw [if_neg c6] at H
    exact absurd H (by simp)
   rw [if_neg c5] at H
   have c5b0:decide (x9_1 < (t332.length:Int)) = false:=decide_eq_false c5
   (try (have c5b0h0_:=c5b0;rw [hl3_1] at c5b0h0_))
   clear c5
   obtain rfl:=Option.some.inj H
   go_wp2
   go_ret
   exact ⟨_,zr,zP HO_3.out,zQ HB.out⟩
def cmp_isNaN_int64.f (a0:Int):Option (Bool):=some (a0 != a0)
set_option maxHeartbeats 8000000 in
set_option maxRecDepth 100000 in
theorem cmp_isNaN_int64.calls (a0 : Int) (r : Bool) (w : World) (h : cmp_isNaN_int64.f a0 = some r) :
  Calls Tryd.prog 113 #[.int .i64 a0] w fun e w' => e = .returned (.bool r) ∧ Drawn0 w w' := by
 have H:=h
 unfold cmp_isNaN_int64.f at H
 clear h
 obtain rfl:=Option.some.inj H
 go_enter Tryd.func113,Tryd.ntmps113
 go_wp2
 go_ret
 exact ⟨zs,by repeat (first | exact Drawn0.refl _ | apply Drawn0.step)⟩
def cmp_Less_int64.f (a0:Int) (a1:Int):Option (Bool):=(cmp_isNaN_int64.f a0).bind fun t339=>(if t339 = true then ((cmp_isNaN_int64.f a1).bind fun t340=>(if t340 = true then (some (decide (a0 < a1))) else (some true))) else (some (decide (a0 < a1))))
set_option maxHeartbeats 8000000 in
set_option maxRecDepth 100000 in
theorem cmp_Less_int64.calls (a0 : Int) (a1 : Int) (r : Bool) (w : World) (h : cmp_Less_int64.f a0 a1 = some r) :
  Calls Tryd.prog 103 #[.int .i64 a0,.int .i64 a1] w fun e w' => e = .returned (.bool r) ∧ Drawn0 w w' := by
 have H:=h
 unfold cmp_Less_int64.f at H
 clear h
 obtain ⟨t339,A3,H⟩:=zb H
 try dsimp only at H
 by_cases c4:t339 = true
 ·subst c4
  rw [if_pos rfl] at H
  obtain ⟨t340,A5,H⟩:=zb H
  try dsimp only at H
  by_cases c6:t340 = true
  ·subst c6
   rw [if_pos rfl] at H
   obtain rfl:=Option.some.inj H
   go_enter Tryd.func103,Tryd.ntmps103
   go_wp2_with (first | (refine zO (some 6) Tryd.func113 #[.int .i64 a0] ?_;(with_reducible refine (cmp_isNaN_int64.calls a0 true _ A3.out).mono ?_);rintro e w' ⟨rfl,⟨nd,rfl⟩⟩;refine ⟨_,rfl,?_⟩) | (go_at_call 113;(with_reducible refine (cmp_isNaN_int64.calls a1 true _ A5.out).mono ?_);rintro e w' ⟨rfl,⟨nd,rfl⟩⟩))
   go_ret
   exact ⟨zs,by repeat (first | exact Drawn0.refl _ | apply Drawn0.step)⟩
  replace c6:=Bool.eq_false_iff.mpr c6
  subst c6
  rw [if_neg (show ¬ (false = true) by decide)] at H
  obtain rfl:=Option.some.inj H
  go_enter Tryd.func103,Tryd.ntmps103
  go_wp2_with (first | (refine zO (some 6) Tryd.func113 #[.int .i64 a0] ?_;(with_reducible refine (cmp_isNaN_int64.calls a0 true _ A3.out).mono ?_);rintro e w' ⟨rfl,⟨nd,rfl⟩⟩;refine ⟨_,rfl,?_⟩) | (go_at_call 113;(with_reducible refine (cmp_isNaN_int64.calls a1 false _ A5.out).mono ?_);rintro e w' ⟨rfl,⟨nd,rfl⟩⟩))
  go_ret
  exact ⟨zs,by repeat (first | exact Drawn0.refl _ | apply Drawn0.step)⟩
 replace c4:=Bool.eq_false_iff.mpr c4
 subst c4
 rw [if_neg (show ¬ (false = true) by decide)] at H
 obtain rfl:=Option.some.inj H
 go_enter Tryd.func103,Tryd.ntmps103
 go_wp2_with (first | (refine zO (some 6) Tryd.func113 #[.int .i64 a0] ?_;(with_reducible refine (cmp_isNaN_int64.calls a0 false _ A3.out).mono ?_);rintro e w' ⟨rfl,⟨nd,rfl⟩⟩;refine ⟨_,rfl,?_⟩))
 go_ret
 exact ⟨zs,by repeat (first | exact Drawn0.refl _ | apply Drawn0.step)⟩
mutual
def slices_insertionSortOrdered_int64.l0:Nat → List Int → Int → Int → Int → Option (List Int)
 | 0,_,_,_,_=>none
 | k + 1,x0,x1,x2,x6=>if x6 < x2 then (slices_insertionSortOrdered_int64.l1 k x0 x1 x2 x6 x6) else (some x0)
def slices_insertionSortOrdered_int64.l1:Nat → List Int → Int → Int → Int → Int → Option (List Int)
 | 0,_,_,_,_,_=>none
 | k + 1,x0,x1,x2,x6,x7=>if x7 > x1 then (if 0 ≤ x7 then (if x7 < (x0.length:Int) then (if 0 ≤ (wrap64 (x7 - 1)) then (if (wrap64 (x7 - 1)) < (x0.length:Int) then ((cmp_Less_int64.f (rd x0 x7) (rd x0 (wrap64 (x7 - 1)))).bind fun t343=>(if t343 = true then (slices_insertionSortOrdered_int64.l1 k ((x0.set (x7:Int).toNat (rd x0 (wrap64 (x7 - 1)))).set ((wrap64 (x7 - 1)):Int).toNat (rd x0 x7)) x1 x2 x6 (wrap64 (x7 - 1))) else (slices_insertionSortOrdered_int64.l0 k x0 x1 x2 (wrap64 (x6 + 1))))) else (none)) else (none)) else (none)) else (none)) else (slices_insertionSortOrdered_int64.l0 k x0 x1 x2 (wrap64 (x6 + 1)))
end
def slices_insertionSortOrdered_int64.f (k:Nat) (l0:List Int) (a1:Int) (a2:Int):Option (List Int):=slices_insertionSortOrdered_int64.l0 k l0 a1 a2 (wrap64 (a1 + 1))
def slices_insertionSortOrdered_int64.T4:Bool × List (List Nat × List Nat):=(true,[([],[]),([],[]),([0,1],[0,1]),([2],[2]),([3],[3]),([3],[3]),([4,5,3],[3,4,5]),([6,3],[3,6]),([3],[3]),([3],[3]),([9,3],[3,9]),([8,10,3],[3,8,10]),([11,3],[3,11]),([7,12,3,3],[3,7,12]),([3,13],[3,13])])
def slices_insertionSortOrdered_int64.B4:List Nat:=[0,0,3,7,15,15,63,127,15,15,527,1807,3855,8191,16383]
theorem slices_insertionSortOrdered_int64.tab4:rtab .any (opsOf Tryd.f97 4) = slices_insertionSortOrdered_int64.T4:=by kernel_rfl
theorem slices_insertionSortOrdered_int64.bits4:waitsOk slices_insertionSortOrdered_int64.T4.2 slices_insertionSortOrdered_int64.B4 = true:=by kernel_rfl
def slices_insertionSortOrdered_int64.T6:Bool × List (List Nat × List Nat):=(true,[([],[]),([],[]),([],[]),([],[]),([3],[3]),([],[]),([],[]),([6],[6]),([5,7],[5,7]),([8],[8]),([],[]),([],[]),([10,11],[10,11]),([12],[12]),([0,1,0,1,5,6,7,8,9,13],[0,1]),([14,9,0,1,5,6,7,8,9,13],[9,14]),([2,4,0,1,2,3,4,5,6,7,8,9,10,11,12,13,14,15],[2,4]),([16,13,15,0,1,2,3,4,5,6,7,8,9,10,11,12,13,14,15],[13,16])])
def slices_insertionSortOrdered_int64.B6:List Nat:=[0,0,0,0,8,0,0,64,224,480,0,0,3072,7168,16355,32739,65535,131071]
theorem slices_insertionSortOrdered_int64.tab6:rtab .any (opsOf Tryd.f97 6) = slices_insertionSortOrdered_int64.T6:=by kernel_rfl
theorem slices_insertionSortOrdered_int64.bits6:waitsOk slices_insertionSortOrdered_int64.T6.2 slices_insertionSortOrdered_int64.B6 = true:=by kernel_rfl
set_option maxHeartbeats 8000000 in
set_option maxRecDepth 100000 in
theorem slices_insertionSortOrdered_int64.calls (k : Nat) (P0_ : Nat → Prop) (u9000_ : Value) (l0 : List Int) (a1 : Int) (a2 : Int) (r : List Int) (w0 w : World) (hB : Below w0.heap.size w0 w) (ho0 : Kd.R (Kd.int .i64) 2 w w0.heap.size P0_ u9000_ l0) (h : slices_insertionSortOrdered_int64.f k l0 a1 a2 = some r) :
  Calls Tryd.prog 97 #[u9000_,.int .i64 a1,.int .i64 a2] w fun e w' => e = .returned (.tuple #[]) ∧ Kd.R (Kd.int .i64) 2 w' w0.heap.size (fun k_=>(P0_ k_ ∨ w.heap.size ≤ k_)) u9000_ r ∧ Below w0.heap.size w0 w' ∧ Kept w w' (fun k_=>P0_ k_):=by
 have HO0:=zA (show Kd.R (Kd.int .i64) 2 w w0.heap.size (fun k_=>(P0_ k_ ∨ w.heap.size ≤ k_)) u9000_ l0 from kA ho0 (fun k_ hk=>(.inl hk)))
 have HK:=zA (Kept.refl w (fun k_=>P0_ k_))
 have HW0:=zA hB.size
 have HB:=zA hB
 clear hB
 have H:=h
 unfold slices_insertionSortOrdered_int64.f at H
 clear h
 have H' := zA H
 clear H
 go_enter Tryd.func97,Tryd.ntmps97
 go_wp2
 go_loopg [6] k (fun kq v6 w' => ∃ (x0_1:List Int) (x6_1:Int),v6 = .int .i64 x6_1 ∧ Aside0 (slices_insertionSortOrdered_int64.l0 kq x0_1 a1 a2 x6_1 = some r) ∧ Aside0 (kq ≤ k) ∧ Aside0 (Kd.R (Kd.int .i64) 2 w' w0.heap.size (fun k_=>(P0_ k_ ∨ w.heap.size ≤ k_)) u9000_ x0_1) ∧ Aside0 (Kept w w' (fun k_=>P0_ k_)) ∧ Aside0 (Below w0.heap.size w0 w'))
 case atStart=>exact ⟨(l0),(wrap64 (a1 + 1)),zs,H', ⟨Nat.le_refl _⟩,⟨zP HO0.out⟩,⟨by repeat (first | (with_reducible first | exact HK.out | apply Kept.alloc | apply Kept.drewN | apply Kept.drew) | exact HK.out)⟩,⟨zQ HB.out⟩⟩
 case round =>
  clear H'
  obtain ⟨x0_1,x6_1,rfl,HA,HK1,HO_0,HK,HB⟩:=hrel
  cases gk with
  | zero=>exact absurd HA.out (by simp [slices_insertionSortOrdered_int64.l0])
  | succ k1 =>
   have H:=HA.out
   clear HA
   simp only [slices_insertionSortOrdered_int64.l0] at H
   by_cases c4:x6_1 < a2
   ·rw [if_pos c4] at H
    have c4b0:decide (x6_1 < a2) = true:=decide_eq_true c4
    clear c4
    have H' := zA H
    clear H
    go_wp2
    go_loopg [7] k1 (fun kq v7 w' => ∃ (x0_2:List Int) (x7_2:Int),v7 = .int .i64 x7_2 ∧ Aside0 (slices_insertionSortOrdered_int64.l1 kq x0_2 a1 a2 x6_1 x7_2 = some r) ∧ Aside0 (kq ≤ k1) ∧ Aside0 (Kd.R (Kd.int .i64) 2 w' w0.heap.size (fun k_=>(P0_ k_ ∨ w.heap.size ≤ k_)) u9000_ x0_2) ∧ Aside0 (Kept w w' (fun k_=>P0_ k_)) ∧ Aside0 (Below w0.heap.size w0 w'))
    case atStart=>exact ⟨(x0_1),(x6_1),zs,H', ⟨Nat.le_refl _⟩,⟨zP HO_0.out⟩,⟨by repeat (first | (with_reducible first | exact HK.out | apply Kept.alloc | apply Kept.drewN | apply Kept.drew) | exact HK.out)⟩,⟨zQ HB.out⟩⟩
    case round =>
     clear H'
     try clear c4
     obtain ⟨x0_2,x7_2,rfl,HA,HK2,HO_0,HK,HB⟩:=hrel
     cases gk with
     | zero=>exact absurd HA.out (by simp [slices_insertionSortOrdered_int64.l1])
     | succ k2 =>
      have H:=HA.out
      clear HA
      simp only [slices_insertionSortOrdered_int64.l1] at H
      by_cases c5:x7_2 > a1
      ·rw [if_pos c5] at H
       have c5b0:decide (a1 < x7_2) = true:=decide_eq_true c5
       clear c5
       by_cases c6:0 ≤ x7_2
       ·rw [if_pos c6] at H
        have c6b0:decide (0 ≤ x7_2) = true:=decide_eq_true c6
        clear c6
        by_cases c7:x7_2 < (x0_2.length:Int)
        ·rw [if_pos c7] at H
         have c7b0:decide (x7_2 < (x0_2.length:Int)) = true:=decide_eq_true c7
         clear c7
         obtain ⟨ji8,hji8⟩:∃ j_:Int,(wrap64 (x7_2 - 1)) = j_:=⟨_,rfl⟩
         replace H:(if 0 ≤ (ji8) then (if (ji8) < (x0_2.length:Int) then ((cmp_Less_int64.f (rd x0_2 x7_2) (rd x0_2 (ji8))).bind fun t343=>(if t343 = true then (slices_insertionSortOrdered_int64.l1 k2 ((x0_2.set (x7_2:Int).toNat (rd x0_2 (ji8))).set ((ji8):Int).toNat (rd x0_2 x7_2)) a1 a2 x6_1 ji8) else (slices_insertionSortOrdered_int64.l0 k2 x0_2 a1 a2 (wrap64 (x6_1 + 1))))) else (none)) else (none)) = some r:=by first | (rw [hji8] at H;exact H) | (simp only [hji8] at H ⊢;exact H)
         have hji8w:(IntKind.i64.wrap (x7_2 - 1)) = ji8:=(i64_w _).trans hji8
         by_cases c9:0 ≤ (ji8)
         ·rw [if_pos c9] at H
          have c9b0:decide (0 ≤ (ji8)) = true:=decide_eq_true c9
          clear c9
          by_cases c10:(ji8) < (x0_2.length:Int)
          ·rw [if_pos c10] at H
           have c10b0:decide ((ji8) < (x0_2.length:Int)) = true:=decide_eq_true c10
           clear c10
           obtain ⟨t343,A11,H⟩:=zb H
           try dsimp only at H
           by_cases c12:t343 = true
           ·subst c12
            rw [if_pos rfl] at H
            obtain ⟨y346,hy346⟩:∃ y_:List Int,y_ = (x0_2.set (x7_2:Int).toNat (rd x0_2 (ji8))):=⟨_,rfl⟩
            replace H:(slices_insertionSortOrdered_int64.l1 k2 (y346.set ((ji8):Int).toNat (rd x0_2 x7_2)) a1 a2 x6_1 ji8) = some r:=zy hy346 H
            have Ny346:=zA hy346
            clear hy346
            obtain ⟨y347,hy347⟩:∃ y_:List Int,y_ = (y346.set ((ji8):Int).toNat (rd x0_2 x7_2)):=⟨_,rfl⟩
            replace H:(slices_insertionSortOrdered_int64.l1 k2 y347 a1 a2 x6_1 ji8) = some r:=zy hy347 H
            have Ny347:=zA hy347
            clear hy347
            have H' := zA H
            clear H
            try go_wp2
            replace HO_0:=zA (zH HO_0.out)
            replace HK:=zA (Kept.drew HK.out)
            replace HB:=zA (zD HB.out)
            obtain ⟨Ao16,co16,eo16⟩:=kM HO_0.out
            (first | subst eo16 | (injection eo16 with f1_ f2_ f3_;have f4_:=f1_.symm;have f5_:=f3_.symm;clear f1_ f2_ f3_;subst f4_;subst f5_))
            have p341:0 ≤ (x7_2:Int):=zd
            have q341:x7_2 < (x0_2.length:Int):=zd
            obtain ⟨ad341,e341,hx341_0⟩:=Kd.at_int (kB HO_0.out).2.2 x7_2 p341 q341
            cases e341
            replace p341:=eq_true p341
            replace q341:=eq_true q341
            have p342:0 ≤ ((ji8):Int):=zd
            have q342:(ji8) < (x0_2.length:Int):=zd
            obtain ⟨ad342,e342,hx342_0⟩:=Kd.at_int (kB HO_0.out).2.2 (ji8) p342 q342
            obtain rfl:ad341 = ad342:=(by injection e342)
            replace p342:=eq_true p342
            replace q342:=eq_true q342
            refine start_ (n:=15) (S:=fun w' => w'.cell? (ad341.add (x7_2).toNat) = some (.int .i64 (rd x0_2 x7_2)) ∧ w'.cell? (ad341.add ((ji8)).toNat) = some (.int .i64 (rd x0_2 (ji8)))) (ds:=[]) #[false,false,false,false,false,false,false,false,false,false,false,false,false,false,false] (by kernel_rfl) rfl rfl ⟨hx341_0,hx342_0⟩ (fun hHeld=>?_);refine with_tabW slices_insertionSortOrdered_int64.tab4 slices_insertionSortOrdered_int64.bits4 (fun HT_ HW_=>?_)
            generalize wr.drew = w15 at HO_0 HK HB hx341_0 hx342_0 hHeld ⊢
            refine zp 0 (some 16) #[true,false,false,false,false,false,false,false,false,false,false,false,false,false,false] HT_.out ?_
            refine zp 1 (some 17) #[true,true,false,false,false,false,false,false,false,false,false,false,false,false,false] HT_.out ?_
            refine zp 2 (some 18) #[true,true,true,false,false,false,false,false,false,false,false,false,false,false,false] HT_.out ?_
            refine zp 3 (some 19) #[true,true,true,true,false,false,false,false,false,false,false,false,false,false,false] HT_.out ?_
            refine zp 4 (some 20) #[true,true,true,true,true,false,false,false,false,false,false,false,false,false,false] HT_.out ?_
            refine zp 5 (some 21) #[true,true,true,true,true,true,false,false,false,false,false,false,false,false,false] HT_.out ?_
            refine zp 6 (some 22) #[true,true,true,true,true,true,true,false,false,false,false,false,false,false,false] HT_.out ?_
            refine zp 8 (some 24) #[true,true,true,true,true,true,true,false,true,false,false,false,false,false,false] HT_.out ?_
            refine zp 9 (some 25) #[true,true,true,true,true,true,true,false,true,true,false,false,false,false,false] HT_.out ?_
            refine zp 10 (some 26) #[true,true,true,true,true,true,true,false,true,true,true,false,false,false,false] HT_.out ?_
            refine zp 11 (some 27) #[true,true,true,true,true,true,true,false,true,true,true,true,false,false,false] HT_.out ?_
            refine zc 7 (some 23) #[true,true,true,true,true,true,true,true,true,true,true,true,false,false,false] HT_.out HW_.out hHeld ?_
            refine zc 12 (some 28) #[true,true,true,true,true,true,true,true,true,true,true,true,true,false,false] HT_.out HW_.out hHeld ?_
            refine one_ (i:=13) (N:=some 29) #[true,true,true,true,true,true,true,true,true,true,true,true,true,true,false] rfl rfl (one_of HT_.out (by kernel_rfl)) (by decide) (fun K hK=>?_)
            refine goes_ Tryd.func103 (by kernel_rfl) rfl #[.int .i64 (rd x0_2 x7_2),.int .i64 (rd x0_2 (ji8))] (by rfl) rfl rfl (by (try simp only [List.map_toArray,List.map_cons,List.map_nil]);first | done | (simp only [hji8];rfl) | rfl | (simp only [List.length_drop,List.length_take];rfl)) ?_
            with_reducible refine (cmp_Less_int64.calls (rd x0_2 x7_2) (rd x0_2 (ji8)) true _ A11.out).mono ?_
            rintro e w' ⟨rfl,⟨nd,rfl⟩⟩
            refine ⟨_,rfl,?_⟩
            refine hK.out _ _ ⟨hHeld.1,hHeld.2⟩ (fun hHeld=>?_)
            clear hK K
            refine norm_ (a' := ?_) ?_ ?_
            rotate_left
            ·show Act.put _ (some 29) _ = _
             simp only [Act.put,zL,zM,zN,i64_w,i32_w]
             rfl
            refine zp 14 (some 30) #[true,true,true,true,true,true,true,true,true,true,true,true,true,true,true] HT_.out ?_
            refine done_ (done_of HT_.out (by kernel_rfl)) ?_
            try go_wp2
            (try (rw [drewN_self w15];generalize hq_:World.drewN w15 _ = w15;have n0_:Aside0 (Kd.R (Kd.int .i64) 2 w15 w0.heap.size (fun k_=>(P0_ k_ ∨ w.heap.size ≤ k_)) (.slice (some ad341) x0_2.length co16) x0_2):=⟨by rw [← hq_];exact (zP HO_0.out)⟩;have n1_:Aside0 (Kept w w15 (fun k_=>P0_ k_)):=⟨by rw [← hq_];exact (by repeat (first | (with_reducible first | exact HK.out | apply Kept.alloc | apply Kept.drewN | apply Kept.drew) | exact HK.out))⟩;have n2_:Aside0 (Below w0.heap.size w0 w15):=⟨by rw [← hq_];exact (zQ HB.out)⟩;clear HO_0 HK HB hq_;have HO_0:=n0_;have HK:=n1_;have HB:=n2_;clear n0_ n1_ n2_))
            replace HO_0:=zA (zH HO_0.out)
            replace HK:=zA (Kept.drew HK.out)
            replace HB:=zA (zD HB.out)
            have p344:0 ≤ ((ji8):Int):=zd
            have q344:(ji8) < (x0_2.length:Int):=zd
            obtain ⟨ad344,e344,hx344_0⟩:=Kd.at_int (kB HO_0.out).2.2 (ji8) p344 q344
            obtain rfl:ad341 = ad344:=(by injection e344)
            replace p344:=eq_true p344
            replace q344:=eq_true q344
            have p345:0 ≤ (x7_2:Int):=zd
            have q345:x7_2 < (x0_2.length:Int):=zd
            obtain ⟨ad345,e345,hx345_0⟩:=Kd.at_int (kB HO_0.out).2.2 x7_2 p345 q345
            obtain rfl:ad341 = ad345:=(by injection e345)
            replace p345:=eq_true p345
            replace q345:=eq_true q345
            have p13:0 ≤ (x7_2:Int):=zd
            have q13:(x7_2:Int) < ((x0_2.length:Int):Int):=zd
            obtain ⟨go13,co13,eo13,gb13,gl13,cl13,HG13⟩:=Kd.R_form HO_0.out (by omega)
            (first | cases eo13 | (injection eo13 with ea_ en_ ec_;(first | subst ea_ | (injection ea_ with ea_;subst ea_));subst ec_;clear en_))
            have GB13:=zA gb13
            have GG13:=zA HG13
            clear gb13 gl13 HG13
            have HMgo13:=zA (show (P0_ go13 ∨ w.heap.size ≤ go13) from (HO_0.out.1 _ rfl))
            (first | simp only [add_plain] at hx341_0 | skip)
            (first | simp only [add_plain] at hx342_0 | skip)
            (first | simp only [add_plain] at hx344_0 | skip)
            (first | simp only [add_plain] at hx345_0 | skip)
            obtain ⟨hx13_0,hf13_0⟩:=Kd.R_celln 0 HO_0.out (x7_2:Int) p13 q13
            replace p13:=eq_true p13
            replace q13:=eq_true q13
            have HP18:=Kd.R_putn HO_0.out (x7_2:Int) (rd x0_2 (ji8))
            rw [← Ny346.out] at HP18
            have HQ18:=zA HP18
            clear HP18
            have p14:0 ≤ ((ji8):Int):=zd
            have q14:((ji8):Int) < ((x0_2.length:Int):Int):=zd
            obtain ⟨hx14_0,hf14_0⟩:=Kd.R_celln 0 HQ18.out ((ji8):Int) p14 q14
            replace p14:=eq_true p14
            replace q14:=eq_true q14
            have HP19:=Kd.R_putn HQ18.out ((ji8):Int) (rd x0_2 x7_2)
            rw [← Ny347.out] at HP19
            have HQ19:=zA HP19
            clear HP19
            refine start_ (n:=18) (S:=fun w' => w'.cell? ⟨go13,((ji8)).toNat,none⟩ = some (.int .i64 (rd x0_2 (ji8))) ∧ w'.cell? ⟨go13,(x7_2).toNat,none⟩ = some (.int .i64 (rd x0_2 x7_2))) (ds:=[15,17]) #[false,false,false,false,false,false,false,false,false,false,false,false,false,false,false,false,false,false] (by kernel_rfl) rfl rfl ⟨hx344_0,hx345_0⟩ (fun hHeld=>?_);refine with_tabW slices_insertionSortOrdered_int64.tab6 slices_insertionSortOrdered_int64.bits6 (fun HT_ HW_=>?_)
            generalize w15.drew = w17 at HO_0 HK HB GG13 HQ18 HQ19 hf13_0 hf14_0 hx13_0 hx14_0 hx341_0 hx342_0 hx344_0 hx345_0 hHeld ⊢
            refine zp 0 (some 33) #[true,false,false,false,false,false,false,false,false,false,false,false,false,false,false,false,false,false] HT_.out ?_
            refine zp 1 (some 34) #[true,true,false,false,false,false,false,false,false,false,false,false,false,false,false,false,false,false] HT_.out ?_
            refine zp 2 (some 35) #[true,true,true,false,false,false,false,false,false,false,false,false,false,false,false,false,false,false] HT_.out ?_
            refine zp 3 (some 36) #[true,true,true,true,false,false,false,false,false,false,false,false,false,false,false,false,false,false] HT_.out ?_
            refine zp 4 (some 37) #[true,true,true,true,true,false,false,false,false,false,false,false,false,false,false,false,false,false] HT_.out ?_
            refine zp 5 (some 38) #[true,true,true,true,true,true,false,false,false,false,false,false,false,false,false,false,false,false] HT_.out ?_
            refine zp 6 (some 39) #[true,true,true,true,true,true,true,false,false,false,false,false,false,false,false,false,false,false] HT_.out ?_
            refine zp 7 (some 40) #[true,true,true,true,true,true,true,true,false,false,false,false,false,false,false,false,false,false] HT_.out ?_
            refine zp 8 (some 41) #[true,true,true,true,true,true,true,true,true,false,false,false,false,false,false,false,false,false] HT_.out ?_
            refine zp 10 (some 43) #[true,true,true,true,true,true,true,true,true,false,true,false,false,false,false,false,false,false] HT_.out ?_
            refine zp 11 (some 44) #[true,true,true,true,true,true,true,true,true,false,true,true,false,false,false,false,false,false] HT_.out ?_
            refine zp 12 (some 45) #[true,true,true,true,true,true,true,true,true,false,true,true,true,false,false,false,false,false] HT_.out ?_
            refine zc 9 (some 42) #[true,true,true,true,true,true,true,true,true,true,true,true,true,false,false,false,false,false] HT_.out HW_.out hHeld ?_
            refine zc 13 (some 46) #[true,true,true,true,true,true,true,true,true,true,true,true,true,true,false,false,false,false] HT_.out HW_.out hHeld ?_
            refine zp 14 (some 47) #[true,true,true,true,true,true,true,true,true,true,true,true,true,true,true,false,false,false] HT_.out ?_
            refine last_ (i:=15) (N:=none) #[true,true,true,true,true,true,true,true,true,true,true,true,true,true,true,true,false,false] rfl rfl (one_of HT_.out (by kernel_rfl)) (by decide) (fun K hK=>?_)
            refine skip_ (w1:=?_) (by rfl) rfl ?_ ?_
            rotate_left
            ·go_simp
             rfl
            refine hK.out _ _ ?_
            clear hK K
            refine zp 16 (some 48) #[true,true,true,true,true,true,true,true,true,true,true,true,true,true,true,true,true,false] HT_.out ?_
            refine last_ (i:=17) (N:=none) #[true,true,true,true,true,true,true,true,true,true,true,true,true,true,true,true,true,true] rfl rfl (one_of HT_.out (by kernel_rfl)) (by decide) (fun K hK=>?_)
            refine skip_ (w1:=?_) (by rfl) rfl ?_ ?_
            rotate_left
            ·go_simp
             rfl
            refine hK.out _ _ ?_
            clear hK K
            refine done_ (done_of HT_.out (by kernel_rfl)) ?_
            try go_wp2
            go_roundg k2
            case measure=>have:=HK1.out;have:=HK2.out;omega
            case rel=>exact ⟨(y347),(ji8),(by first | rfl | (simp;done) | (simp only [← hji8] <;> (first | rfl | simp)) | (simp [*];done)),H', ⟨by have:=HK1.out;have:=HK2.out;omega⟩,⟨zP HQ19.out⟩,⟨by repeat (first | (with_reducible first | exact HK.out | apply Kept.alloc | apply Kept.drewN | apply Kept.drew | refine Kept.setCell ?_ HMgo13.out _ | refine Kept.setCell ?_ HMgo13.out _) | exact HK.out)⟩,⟨zV HB.out GB13.out GB13.out⟩⟩
           replace c12:=Bool.eq_false_iff.mpr c12
           subst c12
           rw [if_neg (show ¬ (false = true) by decide)] at H
           have H' := zA H
           clear H
           try go_wp2
           replace HO_0:=zA (zH HO_0.out)
           replace HK:=zA (Kept.drew HK.out)
           replace HB:=zA (zD HB.out)
           obtain ⟨Ao21,co21,eo21⟩:=kM HO_0.out
           (first | subst eo21 | (injection eo21 with f1_ f2_ f3_;have f4_:=f1_.symm;have f5_:=f3_.symm;clear f1_ f2_ f3_;subst f4_;subst f5_))
           have p341:0 ≤ (x7_2:Int):=zd
           have q341:x7_2 < (x0_2.length:Int):=zd
           obtain ⟨ad341,e341,hx341_0⟩:=Kd.at_int (kB HO_0.out).2.2 x7_2 p341 q341
           cases e341
           replace p341:=eq_true p341
           replace q341:=eq_true q341
           have p342:0 ≤ ((ji8):Int):=zd
           have q342:(ji8) < (x0_2.length:Int):=zd
           obtain ⟨ad342,e342,hx342_0⟩:=Kd.at_int (kB HO_0.out).2.2 (ji8) p342 q342
           obtain rfl:ad341 = ad342:=(by injection e342)
           replace p342:=eq_true p342
           replace q342:=eq_true q342
           refine start_ (n:=15) (S:=fun w' => w'.cell? (ad341.add (x7_2).toNat) = some (.int .i64 (rd x0_2 x7_2)) ∧ w'.cell? (ad341.add ((ji8)).toNat) = some (.int .i64 (rd x0_2 (ji8)))) (ds:=[]) #[false,false,false,false,false,false,false,false,false,false,false,false,false,false,false] (by kernel_rfl) rfl rfl ⟨hx341_0,hx342_0⟩ (fun hHeld=>?_);refine with_tabW slices_insertionSortOrdered_int64.tab4 slices_insertionSortOrdered_int64.bits4 (fun HT_ HW_=>?_)
           generalize wr.drew = w20 at HO_0 HK HB hx341_0 hx342_0 hHeld ⊢
           refine zp 0 (some 16) #[true,false,false,false,false,false,false,false,false,false,false,false,false,false,false] HT_.out ?_
           refine zp 1 (some 17) #[true,true,false,false,false,false,false,false,false,false,false,false,false,false,false] HT_.out ?_
           refine zp 2 (some 18) #[true,true,true,false,false,false,false,false,false,false,false,false,false,false,false] HT_.out ?_
           refine zp 3 (some 19) #[true,true,true,true,false,false,false,false,false,false,false,false,false,false,false] HT_.out ?_
           refine zp 4 (some 20) #[true,true,true,true,true,false,false,false,false,false,false,false,false,false,false] HT_.out ?_
           refine zp 5 (some 21) #[true,true,true,true,true,true,false,false,false,false,false,false,false,false,false] HT_.out ?_
           refine zp 6 (some 22) #[true,true,true,true,true,true,true,false,false,false,false,false,false,false,false] HT_.out ?_
           refine zp 8 (some 24) #[true,true,true,true,true,true,true,false,true,false,false,false,false,false,false] HT_.out ?_
           refine zp 9 (some 25) #[true,true,true,true,true,true,true,false,true,true,false,false,false,false,false] HT_.out ?_
           refine zp 10 (some 26) #[true,true,true,true,true,true,true,false,true,true,true,false,false,false,false] HT_.out ?_
           refine zp 11 (some 27) #[true,true,true,true,true,true,true,false,true,true,true,true,false,false,false] HT_.out ?_
           refine zc 7 (some 23) #[true,true,true,true,true,true,true,true,true,true,true,true,false,false,false] HT_.out HW_.out hHeld ?_
           refine zc 12 (some 28) #[true,true,true,true,true,true,true,true,true,true,true,true,true,false,false] HT_.out HW_.out hHeld ?_
           refine one_ (i:=13) (N:=some 29) #[true,true,true,true,true,true,true,true,true,true,true,true,true,true,false] rfl rfl (one_of HT_.out (by kernel_rfl)) (by decide) (fun K hK=>?_)
           refine goes_ Tryd.func103 (by kernel_rfl) rfl #[.int .i64 (rd x0_2 x7_2),.int .i64 (rd x0_2 (ji8))] (by rfl) rfl rfl (by (try simp only [List.map_toArray,List.map_cons,List.map_nil]);first | done | (simp only [hji8];rfl) | rfl | (simp only [List.length_drop,List.length_take];rfl)) ?_
           with_reducible refine (cmp_Less_int64.calls (rd x0_2 x7_2) (rd x0_2 (ji8)) false _ A11.out).mono ?_
           rintro e w' ⟨rfl,⟨nd,rfl⟩⟩
           refine ⟨_,rfl,?_⟩
           refine hK.out _ _ ⟨hHeld.1,hHeld.2⟩ (fun hHeld=>?_)
           clear hK K
           refine norm_ (a' := ?_) ?_ ?_
           rotate_left
           ·show Act.put _ (some 29) _ = _
            simp only [Act.put,zL,zM,zN,i64_w,i32_w]
            rfl
           refine zp 14 (some 30) #[true,true,true,true,true,true,true,true,true,true,true,true,true,true,true] HT_.out ?_
           refine done_ (done_of HT_.out (by kernel_rfl)) ?_
           try go_wp2
           go_roundg k2
           case measure=>have:=HK1.out;have:=HK2.out;omega
           case rel=>exact ⟨(x0_2),(wrap64 (x6_1 + 1)),zs,H', ⟨by have:=HK1.out;have:=HK2.out;omega⟩,⟨zP HO_0.out⟩,⟨by repeat (first | (with_reducible first | exact HK.out | apply Kept.alloc | apply Kept.drewN | apply Kept.drew) | exact HK.out)⟩,⟨zQ HB.out⟩⟩
          rw [if_neg c10] at H
          exact absurd H (by simp)
         rw [if_neg c9] at H
         exact absurd H (by simp)
        rw [if_neg c7] at H
        exact absurd H (by simp)
       rw [if_neg c6] at H
       exact absurd H (by simp)
      rw [if_neg c5] at H
      have c5b0:decide (a1 < x7_2) = false:=decide_eq_false c5
      clear c5
      have H' := zA H
      clear H
      try go_wp2
      replace HO_0:=zA (zH HO_0.out)
      replace HK:=zA (Kept.drew HK.out)
      replace HB:=zA (zD HB.out)
      refine start_ (n:=15) (S:=fun w' => True) (ds:=[]) #[false,false,false,false,false,false,false,false,false,false,false,false,false,false,false] (by kernel_rfl) rfl rfl trivial (fun hHeld=>?_);refine with_tabW slices_insertionSortOrdered_int64.tab4 slices_insertionSortOrdered_int64.bits4 (fun HT_ HW_=>?_)
      generalize wr.drew = w22 at HO_0 HK HB hHeld ⊢
      refine zp 0 (some 16) #[true,false,false,false,false,false,false,false,false,false,false,false,false,false,false] HT_.out ?_
      refine zp 1 (some 17) #[true,true,false,false,false,false,false,false,false,false,false,false,false,false,false] HT_.out ?_
      refine zp 2 (some 18) #[true,true,true,false,false,false,false,false,false,false,false,false,false,false,false] HT_.out ?_
      refine zp 3 (some 19) #[true,true,true,true,false,false,false,false,false,false,false,false,false,false,false] HT_.out ?_
      refine zu 4 (some 20) #[true,true,true,true,true,false,false,false,false,false,false,false,false,false,false] HT_.out ?_
      refine zu 5 (some 21) #[true,true,true,true,true,true,false,false,false,false,false,false,false,false,false] HT_.out ?_
      refine zu 6 (some 22) #[true,true,true,true,true,true,true,false,false,false,false,false,false,false,false] HT_.out ?_
      refine zu 7 (some 23) #[true,true,true,true,true,true,true,true,false,false,false,false,false,false,false] HT_.out ?_
      refine zu 8 (some 24) #[true,true,true,true,true,true,true,true,true,false,false,false,false,false,false] HT_.out ?_
      refine zu 9 (some 25) #[true,true,true,true,true,true,true,true,true,true,false,false,false,false,false] HT_.out ?_
      refine zu 10 (some 26) #[true,true,true,true,true,true,true,true,true,true,true,false,false,false,false] HT_.out ?_
      refine zu 11 (some 27) #[true,true,true,true,true,true,true,true,true,true,true,true,false,false,false] HT_.out ?_
      refine zu 12 (some 28) #[true,true,true,true,true,true,true,true,true,true,true,true,true,false,false] HT_.out ?_
      refine zu 13 (some 29) #[true,true,true,true,true,true,true,true,true,true,true,true,true,true,false] HT_.out ?_
      refine zp 14 (some 30) #[true,true,true,true,true,true,true,true,true,true,true,true,true,true,true] HT_.out ?_
      refine done_ (done_of HT_.out (by kernel_rfl)) ?_
      try go_wp2
      go_roundg k2
      case measure=>have:=HK1.out;have:=HK2.out;omega
      case rel=>exact ⟨(x0_2),(wrap64 (x6_1 + 1)),zs,H', ⟨by have:=HK1.out;have:=HK2.out;omega⟩,⟨zP HO_0.out⟩,⟨by repeat (first | (with_reducible first | exact HK.out | apply Kept.alloc | apply Kept.drewN | apply Kept.drew) | exact HK.out)⟩,⟨zQ HB.out⟩⟩
   rw [if_neg c4] at H
   have c4b0:decide (x6_1 < a2) = false:=decide_eq_false c4
   clear c4
   obtain rfl:=Option.some.inj H
   go_wp2
   first | go_end0 | ((try simp only [Exit.inBlock,Exit.then]);refine bodyPost_ret (results_none rfl _ _ _) rfl ?_)
   exact ⟨zr,zP HO_0.out,zQ HB.out,by repeat (first | (with_reducible first | exact HK.out | apply Kept.alloc | apply Kept.drewN | apply Kept.drew) | exact HK.out)⟩
end Go.Proofs.YtjdekliancabgaaDoor.PAll
