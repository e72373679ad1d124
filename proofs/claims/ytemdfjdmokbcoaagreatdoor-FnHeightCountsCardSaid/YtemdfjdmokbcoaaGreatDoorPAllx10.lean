import Derived.Test.YtemdfjdmokbcoaaGreatDoorPAllx0
import Derived.Test.YtemdfjdmokbcoaaGreatDoorPAllx2
import Derived.Test.YtemdfjdmokbcoaaGreatDoorPAllx3
import Derived.Test.YtemdfjdmokbcoaaGreatDoorPAllx7
namespace Go.Proofs.YtemdfjdmokbcoaaGreatDoor.PAll
open Go.RowKit Go.Proofs.YtemdfjdmokbcoaaGreatDoor.T Go.Proofs.YtemdfjdmokbcoaaGreatDoorW.PrintWords Go.Proofs.YtemdfjdmokbcoaaGreatDoorW.PrintLast Go.Proofs.YtemdfjdmokbcoaaGreatDoorW.PrintMore
attribute [local go_sem] max2_int min2_int max_two min_two max_three min_three max_four min_four   -- for this text's walks alone
set_option linter.unusedVariables false
set_option linter.unusedSimpArgs false
def impl_StepsOf.f (k:Nat) (a0_0:Int) (l0_1:List Int):Option (List Int × Int):=(impl_IsAlphabet.f k a0_0 l0_1).bind fun t612=>(if t612 = true then ((impl_stepsOf.f k a0_0 l0_1).bind fun t613=>(some (t613,0))) else (some (([]:List Int),1)))
set_option maxHeartbeats 8000000 in
set_option maxRecDepth 100000 in
theorem impl_StepsOf.calls (k : Nat) (a0_0 : Int) (A0_1 : Option Addr) (c0_1 : Nat) (l0_1 : List Int) (r1 : List Int) (r2 : Int) (w : World) (hr0_1 : Kd.C (Kd.int .i64) w A0_1 l0_1.length l0_1) (hc0_1 : l0_1.length ≤ c0_1) (hT : TabW w) (h : impl_StepsOf.f k a0_0 l0_1 = some (r1, r2)) :
  Calls Tryz.prog 10 #[.agg #[.int .i64 a0_0,.slice A0_1 l0_1.length c0_1]] w fun e w' => ∃ v0_:Value,e = .returned (.tuple #[v0_,.int .i64 r2]) ∧ Kd.R (Kd.int .i64) 2 w' w.heap.size (fun _=>True) v0_ r1 ∧ Below w.heap.size w w' := by
 have hu26:=Tryz.underlying26
 have HT:=zA hT
 clear hT
 have HR0_1:=zA hr0_1
 have HC0_1:=zA hc0_1
 clear hr0_1 hc0_1
 have HB:=zA (kW w.heap.size w)
 have H:=h
 unfold impl_StepsOf.f at H
 clear h
 obtain ⟨t612,A2,H⟩:=zb H
 try dsimp only at H
 by_cases c3:t612 = true
 ·subst c3
  rw [if_pos rfl] at H
  obtain ⟨t613,A4,H⟩:=zb H
  try dsimp only at H
  simp only [Option.some.injEq,Prod.mk.injEq] at H
  obtain ⟨rfl,rfl⟩:=H
  go_enter Tryz.func10,Tryz.ntmps10
  go_wp2_with (first | (refine zBE 1 #[.int .i64 a0_0,.slice A0_1 l0_1.length c0_1] 26 ?_;intro gb611 hg w5 hbox hb;have BK611:=zA (hbox);have GW611:=zA (zBH hg HB.out);have GE611:=zA (zBH hg HB.out);replace HB:=zA (kQ (zQ HB.out) hb);clear hb hbox hg;obtain ⟨hcz6_0,hcz6_1,hfz6_0,hfz6_1⟩:=zB3 BK611.out) | (refine zO (some 5) Tryz.func23 #[.agg #[.int .i64 a0_0,.slice A0_1 l0_1.length c0_1]] ?_;(with_reducible refine (impl_IsAlphabet.calls k a0_0 _ _ l0_1 true _ ?side1 ?side2 ?side3 A2.out).mono ?_);(case side1=>exact zS (kO HR0_1.out HB.out));(case side2=>exact HC0_1.out);(case side3=>exact TabW.below HT.out (zT HB.out GE611.out));rintro e w7 ⟨rfl,hb⟩;refine ⟨_,rfl,?_⟩;replace BK611:=zA (zB1 BK611.out hb);replace HB:=zA (kQ (zT HB.out GE611.out) hb);(try clear hb);obtain ⟨hcz8_0,hcz8_1,hfz8_0,hfz8_1⟩:=zB3 BK611.out) | (refine zO (some 8) Tryz.func17 #[.agg #[.int .i64 a0_0,.slice A0_1 l0_1.length c0_1]] ?_;(with_reducible refine (impl_stepsOf.calls k a0_0 _ _ l0_1 t613 _ ?side1 ?side2 ?side3 A4.out).mono ?_);(case side1=>exact zS (kO HR0_1.out HB.out));(case side2=>exact HC0_1.out);(case side3=>exact TabW.below HT.out (zT HB.out GE611.out));rintro e w9 ⟨v614,rfl,ho0,hb⟩;refine ⟨_,rfl,?_⟩;have HO615:=zA (kI ho0 (kP (zT HB.out GE611.out)));replace BK611:=zA (zB1 BK611.out hb);replace HB:=zA (kQ (zT HB.out GE611.out) hb);(try clear hb);(try clear ho0)))
  go_ret2
  exact ⟨_,zr,zP HO615.out,zT HB.out GE611.out⟩
 replace c3:=Bool.eq_false_iff.mpr c3
 subst c3
 rw [if_neg (show ¬ (false = true) by decide)] at H
 simp only [Option.some.injEq,Prod.mk.injEq] at H
 obtain ⟨rfl,rfl⟩:=H
 go_enter Tryz.func10,Tryz.ntmps10
 go_wp2_with (first | (refine zBE 1 #[.int .i64 a0_0,.slice A0_1 l0_1.length c0_1] 26 ?_;intro gb611 hg w10 hbox hb;have BK611:=zA (hbox);have GW611:=zA (zBH hg HB.out);have GE611:=zA (zBH hg HB.out);replace HB:=zA (kQ (zQ HB.out) hb);clear hb hbox hg;obtain ⟨hcz11_0,hcz11_1,hfz11_0,hfz11_1⟩:=zB3 BK611.out) | (refine zO (some 5) Tryz.func23 #[.agg #[.int .i64 a0_0,.slice A0_1 l0_1.length c0_1]] ?_;(with_reducible refine (impl_IsAlphabet.calls k a0_0 _ _ l0_1 false _ ?side1 ?side2 ?side3 A2.out).mono ?_);(case side1=>exact zS (kO HR0_1.out HB.out));(case side2=>exact HC0_1.out);(case side3=>exact TabW.below HT.out (zT HB.out GE611.out));rintro e w12 ⟨rfl,hb⟩;refine ⟨_,rfl,?_⟩;replace BK611:=zA (zB1 BK611.out hb);replace HB:=zA (kQ (zT HB.out GE611.out) hb);(try clear hb)))
 go_ret2
 exact ⟨_,zr,zn,zT HB.out GE611.out⟩
def laws_sum.l0:Nat → List Int → Int → Int → Option (Int)
 | 0,_,_,_=>none
 | k + 1,x0,x3,x4=>if x4 < (x0.length:Int) then (if 0 ≤ x4 then (laws_sum.l0 k x0 (wrap64 (x3 + (rd x0 x4))) (wrap64 (x4 + 1))) else (none)) else (some x3)
def laws_sum.f (k:Nat) (l0:List Int):Option (Int):=laws_sum.l0 k l0 0 0
set_option maxHeartbeats 8000000 in
set_option maxRecDepth 100000 in
theorem laws_sum.calls (k : Nat) (A0 : Option Addr) (c0 : Nat) (l0 : List Int) (r : Int) (w : World) (hr0 : Kd.C (Kd.int .i64) w A0 l0.length l0) (hc0 : l0.length ≤ c0) (h : laws_sum.f k l0 = some r) :
  Calls Tryz.prog 11 #[.slice A0 l0.length c0] w fun e w' => e = .returned (.int .i64 r) ∧ Drawn0 w w' := by
 have HR0:=zA hr0
 have HC0:=zA hc0
 clear hr0 hc0
 have H:=h
 unfold laws_sum.f at H
 clear h
 have H' := zA H
 clear H
 go_enter Tryz.func11,Tryz.ntmps11
 go_wp2
 go_loopg [3,4] k (fun kq v3 v4 w' => ∃ (x3_1:Int) (x4_1:Int),v3 = .int .i64 x3_1 ∧ v4 = .int .i64 x4_1 ∧ Aside0 (laws_sum.l0 kq l0 x3_1 x4_1 = some r) ∧ Aside0 (kq ≤ k) ∧ Drawn0 w w')
 case atStart=>exact ⟨(0),(0),zs,zs,H', ⟨Nat.le_refl _⟩,by repeat (first | exact Drawn0.refl _ | apply Drawn0.step)⟩
 case round =>
  clear H'
  try clear c1
  obtain ⟨x3_1,x4_1,rfl,rfl,HA,HK1,⟨m1,rfl⟩⟩:=hrel
  cases gk with
  | zero=>exact absurd HA.out (by simp [laws_sum.l0])
  | succ k1 =>
   have H:=HA.out
   clear HA
   simp only [laws_sum.l0] at H
   by_cases c2:x4_1 < (l0.length:Int)
   ·rw [if_pos c2] at H
    have c2b0:decide (x4_1 < (l0.length:Int)) = true:=decide_eq_true c2
    clear c2
    by_cases c3:0 ≤ x4_1
    ·rw [if_pos c3] at H
     have c3b0:decide (0 ≤ x4_1) = true:=decide_eq_true c3
     clear c3
     have H' := zA H
     clear H
     have p616:0 ≤ (x4_1:Int):=zd
     have q616:x4_1 < (l0.length:Int):=zd
     obtain ⟨ad616,e616,hx616_0⟩:=Kd.at_int HR0.out x4_1 p616 q616
     cases e616
     replace p616:=eq_true p616
     replace q616:=eq_true q616
     go_wp2
     go_roundg k1
     case measure=>have:=HK1.out;omega
     case rel=>exact ⟨(wrap64 (x3_1 + (rd l0 x4_1))),(wrap64 (x4_1 + 1)),zs,zs,H', ⟨by have:=HK1.out;omega⟩,by repeat (first | exact Drawn0.refl _ | apply Drawn0.step)⟩
    rw [if_neg c3] at H
    exact absurd H (by simp)
   rw [if_neg c2] at H
   have c2b0:decide (x4_1 < (l0.length:Int)) = false:=decide_eq_false c2
   clear c2
   obtain rfl:=Option.some.inj H
   go_wp2
   go_ret
   exact ⟨zs,by repeat (first | exact Drawn0.refl _ | apply Drawn0.step)⟩
def impl_IsMask.f (a0:Int) (a1:Int):Option (Bool):=(impl_inRange.f a1 0 24).bind fun t617=>(if t617 = true then ((impl_one.f a1).bind fun t618=>((impl_inRange.f a0 0 (wrap64 (t618 - 1))).bind fun t619=>(some t619))) else (some false))
set_option maxHeartbeats 8000000 in
set_option maxRecDepth 100000 in
theorem impl_IsMask.calls (a0 : Int) (a1 : Int) (r : Bool) (w : World) (h : impl_IsMask.f a0 a1 = some r) :
  Calls Tryz.prog 25 #[.int .i64 a0,.int .i64 a1] w fun e w' => e = .returned (.bool r) ∧ Drawn0 w w' := by
 have H:=h
 unfold impl_IsMask.f at H
 clear h
 obtain ⟨t617,A3,H⟩:=zb H
 try dsimp only at H
 by_cases c4:t617 = true
 ·subst c4
  rw [if_pos rfl] at H
  obtain ⟨t618,A5,H⟩:=zb H
  try dsimp only at H
  obtain ⟨t619,A6,H⟩:=zb H
  try dsimp only at H
  obtain rfl:=Option.some.inj H
  go_enter Tryz.func25,Tryz.ntmps25
  go_wp2_with (first | (refine zO (some 6) Tryz.func24 #[.int .i64 a1,.int .i64 0,.int .i64 24] ?_;(with_reducible refine (impl_inRange.calls a1 0 24 true _ A3.out).mono ?_);rintro e w' ⟨rfl,⟨nd,rfl⟩⟩;refine ⟨_,rfl,?_⟩) | (go_at_call 55;(with_reducible refine (impl_one.calls a1 t618 _ A5.out).mono ?_);rintro e w' ⟨rfl,⟨nd,rfl⟩⟩) | (go_at_call 24;(with_reducible refine (impl_inRange.calls a0 0 (wrap64 (t618 - 1)) t619 _ A6.out).mono ?_);rintro e w' ⟨rfl,⟨nd,rfl⟩⟩))
  go_ret
  exact ⟨zs,by repeat (first | exact Drawn0.refl _ | apply Drawn0.step)⟩
 replace c4:=Bool.eq_false_iff.mpr c4
 subst c4
 rw [if_neg (show ¬ (false = true) by decide)] at H
 obtain rfl:=Option.some.inj H
 go_enter Tryz.func25,Tryz.ntmps25
 go_wp2_with (first | (refine zO (some 6) Tryz.func24 #[.int .i64 a1,.int .i64 0,.int .i64 24] ?_;(with_reducible refine (impl_inRange.calls a1 0 24 false _ A3.out).mono ?_);rintro e w' ⟨rfl,⟨nd,rfl⟩⟩;refine ⟨_,rfl,?_⟩))
 go_ret
 exact ⟨zs,by repeat (first | exact Drawn0.refl _ | apply Drawn0.step)⟩
def impl_stepCounts.l3:Nat → List Int → List Int → Int → Int → Int → (Int → List Int) → Int → Option (Int → List Int)
 | 0,_,_,_,_,_,_,_=>none
 | f + 1,D,st,s,k,rest,R,i=>if i < (st.length:Int) then (if 0 ≤ i then ((impl_ties_follows.f f D s (rd st i)).bind fun b=>(if b = true then (if 0 ≤ rest ∧ rest ≤ k then impl_stepCounts.l3 f D st s k rest (updR R s k (wrap64 (rd (R s) k + rd (R (rd st i)) rest))) (wrap64 (i + 1)) else none) else impl_stepCounts.l3 f D st s k rest R (wrap64 (i + 1)))) else none) else some R
def impl_stepCounts.l2:Nat → List Int → List Int → Int → (Int → List Int) → Int → Option (Int → List Int)
 | 0,_,_,_,_,_=>none
 | f + 1,D,st,k,R,j=>if j < (st.length:Int) then (if 0 ≤ j then ((impl_size.f (rd st j)).bind fun z=>(if wrap64 (k - z) = 0 then impl_stepCounts.l2 f D st k (updR R (rd st j) k 1) (wrap64 (j + 1)) else (if wrap64 (k - z) ≤ 0 then impl_stepCounts.l2 f D st k R (wrap64 (j + 1)) else ((impl_stepCounts.l3 f D st (rd st j) k (wrap64 (k - z)) R 0).bind fun R2=>impl_stepCounts.l2 f D st k R2 (wrap64 (j + 1)))))) else none) else some R
def impl_stepCounts.l1:Nat → List Int → List Int → Int → (Int → List Int) → Int → Option (Int → List Int)
 | 0,_,_,_,_,_=>none
 | f + 1,D,st,n,R,k=>if k ≤ n then (if 0 ≤ k then ((impl_stepCounts.l2 f D st k R 0).bind fun R2=>impl_stepCounts.l1 f D st n R2 (wrap64 (k + 1))) else none) else some R
def impl_stepCounts.f (k:Nat) (a0_0:Int) (l0_1:List Int) (n:Int):Option (List Int × (Int → List Int)):=(impl_stepsOf.f k a0_0 l0_1).bind fun st=>if 1 ≤ st.length ∧ st.length < 1000000000 ∧ (st.drop 1).Nodup ∧ ((st.drop 1).all fun s=>(Lit.int .i64 s).wf) = true ∧ 0 ≤ n ∧ n < 1000000000 then (impl_stepCounts.l1 k l0_1 (st.drop 1) n (fun _=>List.replicate (n + 1).toNat 0) 1).bind fun R=>some (st.drop 1,R) else none
def MapOut (N:Nat) (st:List Int) (W:World) (R:Int → List Int) (v:Value):Prop:=∃ (b:Nat) (G:Int → Nat) (w2:World),v = .map (some b) ∧ GrI w2 N b G st W R
theorem zero_sliceD (w:World):(zeroValue 24).run Tryz.prog w = .ok (.slice none 0 0) w:=by kernel_rfl
theorem ties_same2 (n:Int) (A:Option Addr) (m c:Nat) (w:World):Calls Tryz.prog 18 #[.agg #[.int .i64 n,.slice A m c]] w fun e w' => e = .returned (.slice A m c) ∧ Below w.heap.size w w' := by
 have hu:=Tryz.underlying26
 have HB:=zA (zB (kW w.heap.size w) (.cells #[.int .i64 n,.slice A m c] 26))
 go_enter Tryz.func18,Tryz.ntmps18
 go_wp2
 go_ret
 exact ⟨rfl,HB.out⟩
set_option maxHeartbeats 8000000 in
set_option maxRecDepth 100000 in
theorem stepCounts_calls (k : Nat) (a0_0 : Int) (A0_1 : Option Addr) (c0_1 : Nat) (l0_1 : List Int) (n : Int) (st : List Int) (R : Int → List Int) (w : World) (hr0_1 : Kd.C (Kd.int .i64) w A0_1 l0_1.length l0_1) (hc0_1 : l0_1.length ≤ c0_1) (hT : TabW w) (h : impl_stepCounts.f k a0_0 l0_1 n = some (st, R)) :
  Calls Tryz.prog 26 #[.agg #[.int .i64 a0_0,.slice A0_1 l0_1.length c0_1],.int .i64 n] w fun e w' => ∃ v0_:Value,e = .returned v0_ ∧ MapOut (n + 1).toNat st w' R v0_ ∧ Below w.heap.size w w' := by
 have law:Go.Maps.Keyed Tryz.prog 2:=Go.Maps.int_keyed Tryz.underlying2
 have hmm:=@run_makeMap Tryz.prog
 have HR:=zA hr0_1
 have HC:=zA hc0_1
 have HT:=zA hT
 have hu:=Tryz.underlying26
 clear hr0_1 hc0_1 hT
 obtain ⟨st0,h1,h⟩:=Option.bind_eq_some_iff.1 h
 by_cases q1:1 ≤ st0.length ∧ st0.length < 1000000000 ∧ (st0.drop 1).Nodup ∧ ((st0.drop 1).all fun s=>(Lit.int .i64 s).wf) = true ∧ 0 ≤ n ∧ n < 1000000000
 ·rw [if_pos q1] at h
  obtain ⟨R9,h2,h⟩:=Option.bind_eq_some_iff.1 h
  simp only [Option.some.injEq,Prod.mk.injEq] at h
  obtain ⟨hst,rfl⟩:=h
  rw [hst] at h2 q1
  have HDR:=zA hst
  clear hst
  have H1:=zA h1
  have H2:=zA h2
  have HX:=zA q1
  clear h1 h2 q1
  go_enter Tryz.func26,Tryz.ntmps26
  go_wp2_with (first | (refine zBE 2 #[.int .i64 a0_0,.slice A0_1 l0_1.length c0_1] 26 ?_;intro gb hg w1 hbox hb;have BK:=zA hbox;have HB:=zA hb;clear hb hbox hg;obtain ⟨hcz0,hcz1,_,_⟩:=zB3 BK.out))
  have HDW:=zA (zD (kW w1.heap.size w1))
  have BK1:=zA ((HDW.out.block gb (jI BK.out)).trans BK.out)
  have HB1:=zA (Below.grown HB.out (grown_of_below HDW.out none) HB.out.size (fun j hj=>by cases hj))
  refine start_ (n:=7) (S:=fun w' => w'.cell? ⟨gb,0,none⟩ = some (.int .i64 a0_0) ∧ w'.cell? ⟨gb,1,none⟩ = some (.slice A0_1 l0_1.length c0_1)) (ds:=[]) #[false,false,false,false,false,false,false] (by kernel_rfl) rfl rfl ⟨(zB3 BK1.out).1,(zB3 BK1.out).2.1⟩ (fun hHeld=>?_)
  clear hcz0 hcz1 HB BK HDW
  generalize w1.drew = w5 at BK1 HB1 hHeld ⊢
  refine take_ (i:=0) (N:=some 16) (v:=?_) (a' := ?_) #[true,false,false,false,false,false,false] rfl rfl (by kernel_rfl) (fun _ _ _ h=>h) (Or.inl ⟨by rfl,?_⟩) hHeld ?_ ?_
  rotate_left
  ·rintro w' ⟨s0,s1⟩
   go_simp
   with_reducible rfl
  rotate_left
  ·simp only [Act.put,zL,zM,zN,i64_w,i32_w]
   rfl
  refine take_ (i:=3) (N:=some 19) (v:=?_) (a' := ?_) #[true,false,false,true,false,false,false] rfl rfl (by kernel_rfl) (fun _ _ _ h=>h) (Or.inl ⟨by rfl,?_⟩) hHeld ?_ ?_
  rotate_left
  ·rintro w' ⟨s0,s1⟩
   go_simp
   with_reducible rfl
  rotate_left
  ·simp only [Act.put,zL,zM,zN,i64_w,i32_w]
   rfl
  refine one_ (i:=1) (N:=some 17) #[true,true,false,true,false,false,false] rfl rfl (by kernel_rfl) (by decide) (fun K hK=>?_)
  refine goes_ Tryz.func17 (by kernel_rfl) rfl #[.agg #[.int .i64 a0_0,.slice A0_1 l0_1.length c0_1]] (by rfl) rfl rfl (by simp only [List.map_toArray,List.map_cons,List.map_nil];rfl) ?_
  with_reducible refine (impl_stepsOf.calls k a0_0 _ _ l0_1 st0 _ ?side1 ?side2 ?side3 H1.out).mono ?_
  case side1=>exact kO HR.out HB1.out
  case side2=>exact HC.out
  case side3=>exact TabW.below HT.out HB1.out
  rintro e w6 ⟨v17,rfl,ho0,hb⟩
  refine ⟨_,rfl,?_⟩
  obtain ⟨A17,c17,e17⟩:=kM ho0
  subst e17
  obtain ⟨ad17,ea17,_⟩:=(kB ho0).2.2.2.2 (by have:=HX.out.1;omega)
  subst ea17
  have hx:=(hb.block gb (jI BK1.out)).trans BK1.out
  have HB6:=zA (Below.grown HB1.out (grown_of_below hb none) HB1.out.size (fun j hj=>by cases hj))
  have HS6:=zA ho0
  have hcap:=(kB ho0).2.1
  refine hK.out _ _ ⟨(zB3 hx).1,(zB3 hx).2.1⟩ (fun hHeld=>?_)
  have BK6:=zA hx
  clear hK K ho0 hb hx
  refine norm_ (a' := ?_) ?_ ?_
  rotate_left
  ·show Act.put _ (some 17) _ = _
   simp only [Act.put,zL,zM,zN,i64_w,i32_w]
   rfl
  have hone:=HX.out.1
  have s1:(1:Int) ≤ (st0.length:Int):=by omega
  have s2:(st0.length:Int) ≤ (c17:Int):=by omega
  refine pure_ (i:=2) (N:=some 18) (v:=?_) (a' := ?_) #[true,true,true,true,false,false,false] rfl rfl (by kernel_rfl) (fun _ _ _ h=>h) (Or.inl ⟨by rfl,?_⟩) ?_ ?_
  rotate_left
  ·intro w'
   go_simp
   with_reducible rfl
  rotate_left
  ·simp only [Act.put,zL,zM,zN,i64_w,i32_w]
   rfl
  have HST:=zA (show Kd.C (Kd.int .i64) w6 (if c17 = 1 then some ad17 else some ⟨ad17.block,ad17.off + 1,none⟩) st.length st from HDR.out ▸ Kd.C_drop (m:=1) (c:=c17) (kB HS6.out).2.2 hone hcap)
  have HLN:=zA (show st.length = st0.length - 1 from HDR.out ▸ List.length_drop)
  have HLC:=zA (show st.length ≤ c17 - 1 by have:=HLN.out;omega)
  have HD:=zA HX.out.2.2.1
  have HWF:=zA HX.out.2.2.2.1
  have HNN:=zA HX.out.2.2.2.2
  have HBD:=zA (show st.length < 1000000000 by have:=HLN.out;have:=HX.out.2.1;omega)
  generalize (if c17 = 1 then some ad17 else some (⟨ad17.block,ad17.off + 1,none⟩:Addr)) = A18 at HST ⊢
  rw [← HLN.out]
  refine one_ (i:=4) (N:=some 20) #[true,true,true,true,true,false,false] rfl rfl (by kernel_rfl) (by decide) (fun K hK=>?_)
  refine goes_ Tryz.func18 (by kernel_rfl) rfl #[.agg #[.int .i64 a0_0,.slice A0_1 l0_1.length c0_1]] (by rfl) rfl rfl (by simp only [List.map_toArray,List.map_cons,List.map_nil];rfl) ?_
  refine (ties_same2 a0_0 A0_1 l0_1.length c0_1 _).mono ?_
  rintro e w7 ⟨rfl,hb⟩
  refine ⟨_,rfl,?_⟩
  have hx:=(hb.block gb (jI BK6.out)).trans BK6.out
  have HB7:=zA (Below.grown HB6.out (grown_of_below hb none) HB6.out.size (fun j hj=>by cases hj))
  have HS7:=zA (kO HST.out hb)
  refine hK.out _ _ ⟨(zB3 hx).1,(zB3 hx).2.1⟩ (fun hHeld=>?_)
  clear hK K hb hx HST HS6 HB6 BK6 BK1 HB1 hcap s1 s2 hone
  refine norm_ (a' := ?_) ?_ ?_
  rotate_left
  ·show Act.put _ (some 20) _ = _
   simp only [Act.put,zL,zM,zN,i64_w,i32_w]
   rfl
  refine pure_ (i:=5) (N:=some 5) (v:=?_) (a' := ?_) #[true,true,true,true,true,true,false] rfl rfl (by kernel_rfl) (fun _ _ _ h=>h) (Or.inl ⟨by rfl,?_⟩) ?_ ?_
  rotate_left
  ·intro w'
   go_simp
   with_reducible rfl
  rotate_left
  ·simp only [Act.put,zL,zM,zN,i64_w,i32_w]
   rfl
  refine pure_ (i:=6) (N:=some 6) (v:=?_) (a' := ?_) #[true,true,true,true,true,true,true] rfl rfl (by kernel_rfl) (fun _ _ _ h=>h) (Or.inl ⟨by rfl,?_⟩) ?_ ?_
  rotate_left
  ·intro w'
   go_simp
   with_reducible rfl
  rotate_left
  ·simp only [Act.put,zL,zM,zN,i64_w,i32_w]
   rfl
  refine done_ (by kernel_rfl) ?_
  clear hHeld HLN HX H1
  have HDL:=zA (kO HR.out HB7.out)
  go_wp2
  obtain ⟨Nn,hNn⟩:∃ Nn:Nat,(n + 1).toNat = Nn:=⟨_,rfl⟩
  have HNe:=zA (show (Nn:Int) = n + 1 by have:=HNN.out;omega)
  have HNq:=zA hNn
  replace H2:=zA (show impl_stepCounts.l1 k l0_1 st n (fun _=>List.replicate Nn 0) 1 = some R9 from hNn ▸ H2.out)
  clear hNn
  have HW1:=zA (show wrap64 (n + 1) = n + 1 by have:=HNN.out;unfold wrap64;omega)
  have HG0:=zA (grI_nil w7 Nn (fun _=>0) (fun _=>List.replicate Nn 0))
  generalize c17 - 1 = cs at HLC ⊢
  go_loopg [24] st.length (fun gg v24 wr=>∃ (i:Nat) (G:Int → Nat),i ≤ st.length ∧ st.length - i ≤ gg ∧ v24 = .int .i64 i ∧ Aside0 (GrI w7 Nn w7.heap.size G (st.take i) wr (fun _=>List.replicate Nn 0)))
  case atStart=>exact ⟨0,fun _=>0,Nat.zero_le _,by omega,rfl,HG0⟩
  case round =>
   clear HG0
   obtain ⟨i,G,hile,hgi,rfl,HG⟩:=hrel
   by_cases q2:i < st.length
   ·have q2i:(i:Int) < (st.length:Int):=by omega
    obtain ⟨adS,eS,hcS⟩:=Kd.at_int (kO HS7.out HG.out.2.2.2.1) (i:Int) (by omega) q2i
    subst eS
    have HKW:=zA (rd_wf HWF.out (show (0:Int) ≤ (i:Int) by omega) q2i)
    have HNI:=zA (nodup_take HD.out q2)
    have HTK:=zA (take_snocI q2)
    rw [Int.toNat_natCast] at hcS
    go_wp2_with (first | ((with_reducible refine kS (N:=32) rfl ?_);refine make_row (Nt:=32) rfl rfl 24 2 (.tmp 31) (.tmp 31) rfl (wrap64 (n + 1)) rfl rfl Tryz.underlying24 info2 (by rw [HW1.out];have:=HNN.out;omega) (by rw [HW1.out];have:=HNN.out;omega) ?_;rw [HW1.out,HNq.out];have HRW:=zA (made_row wr Nn);have HMG:=zA (mapG_below HG.out.1 (zB (kW wr.heap.size wr) (.cells (madeCells #[.int .i64 0] Nn) 2)))) | (at_mapUpdate;refine wpList_mg_put rfl (.tmp 28) (.tmp 29) (.tmp 32) 47 rfl law Tryz.underlying47 HMG.out (by have:=HBD.out;rw [List.length_take];unfold maxLen;omega) rfl (rd st (i:Int)) wr.heap.size HKW.out _ rfl rfl (Go.Maps.keyOf_int_mk Tryz.underlying2 HKW.out) ?_;intro w9 hm9 hg9;have HG9:=zA (grI_snoc HG.out HNI.out HRW.out hm9 hg9);clear hm9 hg9))
    go_roundg (st.length - (i + 1))
    case measure=>omega
    case rel=>exact ⟨i + 1,_,by omega,by omega,by rw [show wrap64 ((i:Int) + 1) = ((i + 1:Nat):Int) by have:=HBD.out;unfold wrap64;omega],⟨by rw [HTK.out];exact HG9.out⟩⟩
   have q2i:¬ (i:Int) < (st.length:Int):=by omega
   obtain rfl:i = st.length:=by omega
   rw [List.take_length] at HG
   have HGA:=zA HG.out
   clear HG
   go_wp2
   clear HNN HD
   go_loopg [10] k (fun gg v10 wr=>∃ (R:Int → List Int) (kk:Int),v10 = .int .i64 kk ∧ Aside0 (impl_stepCounts.l1 gg l0_1 st n R kk = some R9) ∧ Aside0 (gg ≤ k) ∧ Aside0 (GrI w7 Nn w7.heap.size G st wr R))
   case atStart=>exact ⟨_,1,rfl,H2,⟨Nat.le_refl _⟩,HGA⟩
   case round =>
    clear H2 HGA
    obtain ⟨R,kk,rfl,HA,HK,HG⟩:=hrel
    cases gk with
    | zero=>exact absurd HA.out (by simp [impl_stepCounts.l1])
    | succ k1 =>
     have H:=HA.out
     clear HA
     simp only [impl_stepCounts.l1] at H
     by_cases q3:kk ≤ n
     ·rw [if_pos q3] at H
      have q3b:decide (kk ≤ n) = true:=decide_eq_true q3
      by_cases q4:0 ≤ kk
      ·rw [if_pos q4] at H
       obtain ⟨R2,h3,H⟩:=Option.bind_eq_some_iff.1 H
       have H3:=zA h3
       have HRR:=zA H
       have HK0:=zA q4
       have HKN:=zA (show kk < (Nn:Int) by have:=HNe.out;omega)
       clear h3 H
       go_wp2
       go_loopg [41] k1 (fun gg v41 wr=>∃ (R' : Int → List Int) (j:Int),v41 = .int .i64 j ∧ Aside0 (impl_stepCounts.l2 gg l0_1 st kk R' j = some R2) ∧ Aside0 (gg ≤ k1) ∧ Aside0 (GrI w7 Nn w7.heap.size G st wr R'))
       case atStart=>exact ⟨R,0,rfl,H3,⟨Nat.le_refl _⟩,HG⟩
       case round =>
        clear H3 HG
        obtain ⟨R', j,rfl,HA,HK2,HG⟩:=hrel
        cases gk with
        | zero=>exact absurd HA.out (by simp [impl_stepCounts.l2])
        | succ k2 =>
         have H:=HA.out
         clear HA
         simp only [impl_stepCounts.l2] at H
         by_cases q5:j < (st.length:Int)
         ·rw [if_pos q5] at H
          have q5b:decide (j < (st.length:Int)) = true:=decide_eq_true q5
          by_cases q6:0 ≤ j
          ·rw [if_pos q6] at H
           obtain ⟨z,h1,H⟩:=Option.bind_eq_some_iff.1 H
           have H1:=zA h1
           clear h1
           obtain ⟨adS,eS,hcS⟩:=Kd.at_int (kO HS7.out HG.out.2.2.2.1) j q6 q5
           subst eS
           have HKW:=zA (rd_wf HWF.out q6 q5)
           have HMS:=zA (rd_mem q6 q5)
           have p4:=eq_true q4
           have pkn:=eq_true HKN.out
           have p6:=eq_true q6
           have p5:=eq_true q5
           by_cases q7:wrap64 (kk - z) = 0
           ·rw [if_pos q7] at H
            have q7b:decide (wrap64 (kk - z) = 0) = true:=decide_eq_true q7
            have q7c:decide (wrap64 (kk - z) ≤ 0) = true:=decide_eq_true (by omega)
            have HN:=zA H
            clear H
            go_wp2_with (first | (refine zO (some 47) Tryz.func19 #[.int .i64 (rd st j)] ?_;(with_reducible refine (impl_size.calls (rd st j) z _ H1.out).mono ?_);rintro e w8 ⟨rfl,hd⟩;refine ⟨_,rfl,?_⟩;replace HG:=zA (grI_drawn HG.out hd);have HRW:=zA (grI_row HG.out HMS.out);have hcR:=rowAt_cell HRW.out HK0.out HKN.out;have hfR:=rowAt_frozen HRW.out kk.toNat;clear hd) | (at_lookup;refine wpList_mg_look rfl (.tmp 51) (.tmp 52) 47 rfl law Tryz.underlying47 zero_sliceD HG.out.1 rfl (rd st j) (G (rd st j)) HKW.out (if_pos HMS.out) _ rfl (Go.Maps.keyOf_int_mk Tryz.underlying2 HKW.out) ?_))
            go_roundg k2
            case measure=>have:=HK2.out;omega
            case rel=>exact ⟨updR R' (rd st j) kk 1,wrap64 (j + 1),rfl,HN,⟨by have:=HK2.out;omega⟩,⟨grI_set HG.out HMS.out HK0.out HKN.out 1⟩⟩
           rw [if_neg q7] at H
           have q7b:decide (wrap64 (kk - z) = 0) = false:=decide_eq_false q7
           by_cases q8:wrap64 (kk - z) ≤ 0
           ·rw [if_pos q8] at H
            have q8b:decide (wrap64 (kk - z) ≤ 0) = true:=decide_eq_true q8
            have HN:=zA H
            clear H
            go_wp2_with (first | (refine zO (some 47) Tryz.func19 #[.int .i64 (rd st j)] ?_;(with_reducible refine (impl_size.calls (rd st j) z _ H1.out).mono ?_);rintro e w8 ⟨rfl,hd⟩;refine ⟨_,rfl,?_⟩;replace HG:=zA (grI_drawn HG.out hd);have HRW:=zA (grI_row HG.out HMS.out);have hcR:=rowAt_cell HRW.out HK0.out HKN.out;have hfR:=rowAt_frozen HRW.out kk.toNat;clear hd))
            go_roundg k2
            case measure=>have:=HK2.out;omega
            case rel=>exact ⟨R', wrap64 (j + 1),rfl,HN,⟨by have:=HK2.out;omega⟩,HG⟩
           rw [if_neg q8] at H
           have q8b:decide (wrap64 (kk - z) ≤ 0) = false:=decide_eq_false q8
           obtain ⟨R3,h4,H⟩:=Option.bind_eq_some_iff.1 H
           have HN:=zA H
           have HD3:=zA h4
           clear H h4
           go_wp2_with (first | (refine zO (some 47) Tryz.func19 #[.int .i64 (rd st j)] ?_;(with_reducible refine (impl_size.calls (rd st j) z _ H1.out).mono ?_);rintro e w8 ⟨rfl,hd⟩;refine ⟨_,rfl,?_⟩;replace HG:=zA (grI_drawn HG.out hd);have HRW:=zA (grI_row HG.out HMS.out);have hcR:=rowAt_cell HRW.out HK0.out HKN.out;have hfR:=rowAt_frozen HRW.out kk.toNat;clear hd))
           clear hcR hfR HRW
           go_loopg [60] k2 (fun gg v60 wr=>∃ (R4:Int → List Int) (i:Int),v60 = .int .i64 i ∧ Aside0 (impl_stepCounts.l3 gg l0_1 st (rd st j) kk (wrap64 (kk - z)) R4 i = some R3) ∧ Aside0 (gg ≤ k2) ∧ Aside0 (GrI w7 Nn w7.heap.size G st wr R4))
           case atStart=>exact ⟨R', 0,rfl,HD3,⟨Nat.le_refl _⟩,HG⟩
           case round =>
            clear HD3 HG hcS
            obtain ⟨R4,i,rfl,HA,HK3,HG⟩:=hrel
            cases gk with
            | zero=>exact absurd HA.out (by simp [impl_stepCounts.l3])
            | succ k3 =>
             have H:=HA.out
             clear HA
             simp only [impl_stepCounts.l3] at H
             by_cases q9:i < (st.length:Int)
             ·rw [if_pos q9] at H
              have q9b:decide (i < (st.length:Int)) = true:=decide_eq_true q9
              by_cases q10:0 ≤ i
              ·rw [if_pos q10] at H
               obtain ⟨b,h4,H⟩:=Option.bind_eq_some_iff.1 H
               have H4:=zA h4
               clear h4
               obtain ⟨adT,eT,hcT⟩:=Kd.at_int (kO HS7.out HG.out.2.2.2.1) i q10 q9
               have eT2:=Option.some.inj eT
               subst eT2
               have HKI:=zA (rd_wf HWF.out q10 q9)
               have HMI:=zA (rd_mem q10 q9)
               have p9:=eq_true q9
               have p10:=eq_true q10
               cases b with
               | false =>
                rw [if_neg (by decide)] at H
                have HN4:=zA H
                clear H
                go_wp2_with (first | (refine zO (some 67) Tryz.func20 #[.slice A0_1 l0_1.length c0_1,.int .i64 (rd st j),.int .i64 (rd st i)] ?_;(with_reducible refine (impl_ties_follows.calls k3 _ _ l0_1 (rd st j) (rd st i) _ _ ?side1 ?side2 ?side3 H4.out).mono ?_);(case side1=>exact kO HDL.out HG.out.2.2.2.1);(case side2=>exact HC.out);(case side3=>exact TabW.below (TabW.below HT.out HB7.out) HG.out.2.2.2.1);rintro e w9 ⟨rfl,hb⟩;refine ⟨_,rfl,?_⟩;replace HG:=zA (grI_below HG.out hb);clear hb))
                go_roundg k3
                case measure=>have:=HK3.out;omega
                case rel=>exact ⟨R4,wrap64 (i + 1),rfl,HN4,⟨by have:=HK3.out;omega⟩,HG⟩
               | true =>
                rw [if_pos rfl] at H
                by_cases q11:0 ≤ wrap64 (kk - z) ∧ wrap64 (kk - z) ≤ kk
                ·rw [if_pos q11] at H
                 have HN4:=zA H
                 have HR0:=zA q11.1
                 have HRN:=zA (show wrap64 (kk - z) < (Nn:Int) by have:=HKN.out;omega)
                 have p11:=eq_true q11.1
                 have p12:=eq_true HRN.out
                 clear H
                 go_wp2_with (first | (refine zO (some 67) Tryz.func20 #[.slice A0_1 l0_1.length c0_1,.int .i64 (rd st j),.int .i64 (rd st i)] ?_;(with_reducible refine (impl_ties_follows.calls k3 _ _ l0_1 (rd st j) (rd st i) _ _ ?side1 ?side2 ?side3 H4.out).mono ?_);(case side1=>exact kO HDL.out HG.out.2.2.2.1);(case side2=>exact HC.out);(case side3=>exact TabW.below (TabW.below HT.out HB7.out) HG.out.2.2.2.1);rintro e w9 ⟨rfl,hb⟩;refine ⟨_,rfl,?_⟩;replace HG:=zA (grI_below HG.out hb);have HRJ:=zA (grI_row HG.out HMS.out);have hcJ:=rowAt_cell HRJ.out HK0.out HKN.out;have hfJ:=rowAt_frozen HRJ.out kk.toNat;have HRI:=zA (grI_row HG.out HMI.out);have hcI:=rowAt_cell HRI.out HR0.out HRN.out;clear hb) | (at_lookup;refine wpList_mg_look rfl (.tmp 68) (.tmp 69) 47 rfl law Tryz.underlying47 zero_sliceD HG.out.1 rfl (rd st j) (G (rd st j)) HKW.out (if_pos HMS.out) _ rfl (Go.Maps.keyOf_int_mk Tryz.underlying2 HKW.out) ?_) | (at_lookup;refine wpList_mg_look rfl (.tmp 74) (.tmp 75) 47 rfl law Tryz.underlying47 zero_sliceD HG.out.1 rfl (rd st i) (G (rd st i)) HKI.out (if_pos HMI.out) _ rfl (Go.Maps.keyOf_int_mk Tryz.underlying2 HKI.out) ?_))
                 clear hcJ hfJ hcI HRJ HRI
                 replace HG:=zA (grI_below HG.out (zD (kW w9.heap.size w9)))
                 refine start_ (n:=15) (S:=fun w' => MapG Tryz.prog 2 Nn w' w7.heap.size st.length (fun a=>decide (a ∈ st)) (fun a=>if a ∈ st then (G a:Int) else -1) ∧ w'.cell? ⟨G (rd st j),kk.toNat,none⟩ = some (.int .i64 (rd (R4 (rd st j)) kk)) ∧ w'.cell? ⟨G (rd st i),(wrap64 (kk - z)).toNat,none⟩ = some (.int .i64 (rd (R4 (rd st i)) (wrap64 (kk - z))))) (ds:=[14]) #[false,false,false,false,false,false,false,false,false,false,false,false,false,false,false] (by kernel_rfl) rfl rfl ⟨HG.out.1,rowAt_cell (grI_row HG.out HMS.out) HK0.out HKN.out,rowAt_cell (grI_row HG.out HMI.out) HR0.out HRN.out⟩ (fun hHeld=>?_)
                 generalize w9.drew = w10 at HG hHeld ⊢
                 refine pure_ (i:=0) (N:=some 68) (v:=?_) (a' := ?_) #[true,false,false,false,false,false,false,false,false,false,false,false,false,false,false] rfl rfl (by kernel_rfl) (fun _ _ _ h=>h) (Or.inl ⟨by rfl,?_⟩) ?_ ?_
                 rotate_left
                 ·intro w'
                  go_simp
                  with_reducible rfl
                 rotate_left
                 ·simp only [Act.put,zL,zM,zN,i64_w,i32_w]
                  rfl
                 refine pure_ (i:=1) (N:=some 69) (v:=?_) (a' := ?_) #[true,true,false,false,false,false,false,false,false,false,false,false,false,false,false] rfl rfl (by kernel_rfl) (fun _ _ _ h=>h) (Or.inl ⟨by rfl,?_⟩) ?_ ?_
                 rotate_left
                 ·intro w'
                  go_simp
                  with_reducible rfl
                 rotate_left
                 ·simp only [Act.put,zL,zM,zN,i64_w,i32_w]
                  rfl
                 refine take_ (i:=2) (N:=some 70) (v:=.slice (some ⟨G (rd st j),0,none⟩) Nn Nn) (a' := ?_) #[true,true,true,false,false,false,false,false,false,false,false,false,false,false,false] rfl rfl (by kernel_rfl) (fun _ _ _ h=>h) (Or.inl ⟨by rfl,?_⟩) hHeld ?_ ?_
                 ·rintro w' ⟨s0,s1,s2⟩
                  have hr_:=mapG_look law Tryz.underlying47 zero_sliceD s0 (rd st j) (G (rd st j)) HKW.out (if_pos HMS.out) (Go.Maps.keyOf_int_mk Tryz.underlying2 HKW.out)
                  go_simp
                 rotate_left
                 ·simp only [Act.put,zL,zM,zN,i64_w,i32_w]
                  rfl
                 refine pure_ (i:=3) (N:=some 71) (v:=?_) (a' := ?_) #[true,true,true,true,false,false,false,false,false,false,false,false,false,false,false] rfl rfl (by kernel_rfl) (fun _ _ _ h=>h) (Or.inl ⟨by rfl,?_⟩) ?_ ?_
                 rotate_left
                 ·intro w'
                  go_simp
                  with_reducible rfl
                 rotate_left
                 ·simp only [Act.put,zL,zM,zN,i64_w,i32_w]
                  rfl
                 refine pure_ (i:=4) (N:=some 72) (v:=?_) (a' := ?_) #[true,true,true,true,true,false,false,false,false,false,false,false,false,false,false] rfl rfl (by kernel_rfl) (fun _ _ _ h=>h) (Or.inl ⟨by rfl,?_⟩) ?_ ?_
                 rotate_left
                 ·intro w'
                  go_simp
                  with_reducible rfl
                 rotate_left
                 ·simp only [Act.put,zL,zM,zN,i64_w,i32_w]
                  rfl
                 refine take_ (i:=5) (N:=some 73) (v:=?_) (a' := ?_) #[true,true,true,true,true,true,false,false,false,false,false,false,false,false,false] rfl rfl (by kernel_rfl) (fun _ _ _ h=>h) (Or.inl ⟨by rfl,?_⟩) hHeld ?_ ?_
                 rotate_left
                 ·rintro w' ⟨s0,s1,s2⟩
                  go_simp
                  with_reducible rfl
                 rotate_left
                 ·simp only [Act.put,zL,zM,zN,i64_w,i32_w]
                  rfl
                 refine pure_ (i:=6) (N:=some 74) (v:=?_) (a' := ?_) #[true,true,true,true,true,true,true,false,false,false,false,false,false,false,false] rfl rfl (by kernel_rfl) (fun _ _ _ h=>h) (Or.inl ⟨by rfl,?_⟩) ?_ ?_
                 rotate_left
                 ·intro w'
                  go_simp
                  with_reducible rfl
                 rotate_left
                 ·simp only [Act.put,zL,zM,zN,i64_w,i32_w]
                  rfl
                 refine pure_ (i:=7) (N:=some 75) (v:=?_) (a' := ?_) #[true,true,true,true,true,true,true,true,false,false,false,false,false,false,false] rfl rfl (by kernel_rfl) (fun _ _ _ h=>h) (Or.inl ⟨by rfl,?_⟩) ?_ ?_
                 rotate_left
                 ·intro w'
                  go_simp
                  with_reducible rfl
                 rotate_left
                 ·simp only [Act.put,zL,zM,zN,i64_w,i32_w]
                  rfl
                 refine take_ (i:=8) (N:=some 76) (v:=.slice (some ⟨G (rd st i),0,none⟩) Nn Nn) (a' := ?_) #[true,true,true,true,true,true,true,true,true,false,false,false,false,false,false] rfl rfl (by kernel_rfl) (fun _ _ _ h=>h) (Or.inl ⟨by rfl,?_⟩) hHeld ?_ ?_
                 ·rintro w' ⟨s0,s1,s2⟩
                  have hr_:=mapG_look law Tryz.underlying47 zero_sliceD s0 (rd st i) (G (rd st i)) HKI.out (if_pos HMI.out) (Go.Maps.keyOf_int_mk Tryz.underlying2 HKI.out)
                  go_simp
                 rotate_left
                 ·simp only [Act.put,zL,zM,zN,i64_w,i32_w]
                  rfl
                 refine pure_ (i:=9) (N:=some 77) (v:=?_) (a' := ?_) #[true,true,true,true,true,true,true,true,true,true,false,false,false,false,false] rfl rfl (by kernel_rfl) (fun _ _ _ h=>h) (Or.inl ⟨by rfl,?_⟩) ?_ ?_
                 rotate_left
                 ·intro w'
                  go_simp
                  with_reducible rfl
                 rotate_left
                 ·simp only [Act.put,zL,zM,zN,i64_w,i32_w]
                  rfl
                 refine pure_ (i:=10) (N:=some 78) (v:=?_) (a' := ?_) #[true,true,true,true,true,true,true,true,true,true,true,false,false,false,false] rfl rfl (by kernel_rfl) (fun _ _ _ h=>h) (Or.inl ⟨by rfl,?_⟩) ?_ ?_
                 rotate_left
                 ·intro w'
                  go_simp
                  with_reducible rfl
                 rotate_left
                 ·simp only [Act.put,zL,zM,zN,i64_w,i32_w]
                  rfl
                 refine take_ (i:=11) (N:=some 79) (v:=?_) (a' := ?_) #[true,true,true,true,true,true,true,true,true,true,true,true,false,false,false] rfl rfl (by kernel_rfl) (fun _ _ _ h=>h) (Or.inl ⟨by rfl,?_⟩) hHeld ?_ ?_
                 rotate_left
                 ·rintro w' ⟨s0,s1,s2⟩
                  go_simp
                  with_reducible rfl
                 rotate_left
                 ·simp only [Act.put,zL,zM,zN,i64_w,i32_w]
                  rfl
                 refine pure_ (i:=12) (N:=some 80) (v:=?_) (a' := ?_) #[true,true,true,true,true,true,true,true,true,true,true,true,true,false,false] rfl rfl (by kernel_rfl) (fun _ _ _ h=>h) (Or.inl ⟨by rfl,?_⟩) ?_ ?_
                 rotate_left
                 ·intro w'
                  go_simp
                  with_reducible rfl
                 rotate_left
                 ·simp only [Act.put,zL,zM,zN,i64_w,i32_w]
                  rfl
                 refine pure_ (i:=13) (N:=some 81) (v:=?_) (a' := ?_) #[true,true,true,true,true,true,true,true,true,true,true,true,true,true,false] rfl rfl (by kernel_rfl) (fun _ _ _ h=>h) (Or.inl ⟨by rfl,?_⟩) ?_ ?_
                 rotate_left
                 ·intro w'
                  go_simp
                  with_reducible rfl
                 rotate_left
                 ·simp only [Act.put,zL,zM,zN,i64_w,i32_w]
                  rfl
                 have HRJ:=zA (grI_row HG.out HMS.out)
                 have hcJ:=rowAt_cell HRJ.out HK0.out HKN.out
                 have hfJ:=rowAt_frozen HRJ.out kk.toNat
                 refine last_ (i:=14) (N:=none) #[true,true,true,true,true,true,true,true,true,true,true,true,true,true,true] rfl rfl (by kernel_rfl) (by decide) (fun K hK=>?_)
                 refine skip_ (w1:=w10.setCell ⟨G (rd st j),kk.toNat,none⟩ (.int .i64 (wrap64 (rd (R4 (rd st j)) kk + rd (R4 (rd st i)) (wrap64 (kk - z)))))) (by rfl) rfl (by first | (go_simp;done) | (go_simp;rfl)) ?_
                 refine hK.out _ _ ?_
                 clear hK K hcJ hfJ HRJ hHeld
                 refine done_ (by kernel_rfl) ?_
                 go_wp2
                 go_roundg k3
                 case measure=>have:=HK3.out;omega
                 case rel=>exact ⟨_,wrap64 (i + 1),rfl,HN4,⟨by have:=HK3.out;omega⟩,⟨grI_set HG.out HMS.out HK0.out HKN.out _⟩⟩
                rw [if_neg q11] at H
                cases H
              rw [if_neg q10] at H
              cases H
             rw [if_neg q9] at H
             have q9b:decide (i < (st.length:Int)) = false:=decide_eq_false q9
             obtain rfl:=Option.some.inj H
             go_wp2
             go_roundg k2
             case measure=>have:=HK2.out;omega
             case rel=>exact ⟨R4,wrap64 (j + 1),rfl,HN,⟨by have:=HK2.out;omega⟩,HG⟩
          rw [if_neg q6] at H
          cases H
         rw [if_neg q5] at H
         have q5b:decide (j < (st.length:Int)) = false:=decide_eq_false q5
         obtain rfl:=Option.some.inj H
         go_wp2
         go_roundg k1
         case measure=>have:=HK.out;omega
         case rel=>exact ⟨R', wrap64 (kk + 1),rfl,HRR,⟨by have:=HK.out;omega⟩,HG⟩
      rw [if_neg q4] at H
      cases H
     rw [if_neg q3] at H
     have q3b:decide (kk ≤ n) = false:=decide_eq_false q3
     obtain rfl:=Option.some.inj H
     go_wp2
     go_ret
     exact ⟨_,rfl,HNq.out.symm ▸ ⟨_,G,w7,rfl,HG.out⟩,Below.grown HB7.out (grown_of_below HG.out.2.2.2.1 none) HB7.out.size (fun j hj=>by cases hj)⟩
 rw [if_neg q1] at h
 cases h
def impl_CountByFirst.f (k:Nat) (a0_0:Int) (l0_1:List Int) (a1:Int) (a2:Int):Option (Int × Int):=(impl_IsAlphabet.f k a0_0 l0_1).bind fun t=>if t = true then ((impl_inRange.f a1 0 24).bind fun t1=>if t1 = true then ((impl_IsMask.f a2 a0_0).bind fun t2=>if t2 = true then ((impl_checkCount.f k a0_0 l0_1 a1).bind fun bt=>if bt.2 = 0 then (if a2 = 0 ∧ a1 = 0 then some (1,0) else ((impl_stepCounts.f k a0_0 l0_1 a1).bind fun sR=>if (Lit.int .i64 a2).wf = true then (if a2 ∈ sR.1 then (if 0 ≤ a1 then some (rd (sR.2 a2) a1,0) else none) else some (0,0)) else none)) else some (0,bt.2)) else some (0,2)) else some (0,2)) else some (0,1)
set_option maxHeartbeats 8000000 in
set_option maxRecDepth 100000 in
theorem impl_CountByFirst.calls (k : Nat) (a0_0 : Int) (A0_1 : Option Addr) (c0_1 : Nat) (l0_1 : List Int) (a1 : Int) (a2 : Int) (r1 : Int) (r2 : Int) (w : World) (hr0_1 : Kd.C (Kd.int .i64) w A0_1 l0_1.length l0_1) (hc0_1 : l0_1.length ≤ c0_1) (hT : TabW w) (h : impl_CountByFirst.f k a0_0 l0_1 a1 a2 = some (r1, r2)) :
  Calls Tryz.prog 12 #[.agg #[.int .i64 a0_0,.slice A0_1 l0_1.length c0_1],.int .i64 a1,.int .i64 a2] w fun e w' => e = .returned (.tuple #[.int .i64 r1,.int .i64 r2]) ∧ Below w.heap.size w w' := by
 have law:Go.Maps.Keyed Tryz.prog 2:=Go.Maps.int_keyed Tryz.underlying2
 have hu:=Tryz.underlying26
 have HR:=zA hr0_1
 have HC:=zA hc0_1
 have HT:=zA hT
 clear hr0_1 hc0_1 hT
 have HB:=zA (kW w.heap.size w)
 have H:=h
 unfold impl_CountByFirst.f at H
 clear h
 obtain ⟨t,A1,H⟩:=zb H
 by_cases c1:t = true
 ·subst c1
  rw [if_pos rfl] at H
  obtain ⟨t1,A2,H⟩:=zb H
  by_cases c2:t1 = true
  ·subst c2
   rw [if_pos rfl] at H
   obtain ⟨t2,A3,H⟩:=zb H
   by_cases c3:t2 = true
   ·subst c3
    rw [if_pos rfl] at H
    obtain ⟨⟨m,cd⟩,A4,H⟩:=zb H
    dsimp only at H
    by_cases c4:cd = 0
    ·subst c4
     rw [if_pos rfl] at H
     by_cases c5:a2 = 0 ∧ a1 = 0
     ·rw [if_pos c5] at H
      simp only [Option.some.injEq,Prod.mk.injEq] at H
      obtain ⟨rfl,rfl⟩:=H
      obtain ⟨c51,c51b⟩:=zT1 c5.1
      obtain ⟨c52,c52b⟩:=zT1 c5.2
      clear c5
      go_enter Tryz.func12,Tryz.ntmps12
      go_wp2_with (first | (refine zBE 3 #[.int .i64 a0_0,.slice A0_1 l0_1.length c0_1] 26 ?_;intro gb hg w12 hbox hb;have BK:=zA hbox;have GE:=zA (zBH hg HB.out);replace HB:=zA (kQ (zQ HB.out) hb);clear hb hbox hg;obtain ⟨hcz0,hcz1,hfz0,hfz1⟩:=zB3 BK.out) | (refine zO (some 13) Tryz.func23 #[.agg #[.int .i64 a0_0,.slice A0_1 l0_1.length c0_1]] ?_;(with_reducible refine (impl_IsAlphabet.calls k a0_0 _ _ l0_1 _ _ ?side1 ?side2 ?side3 A1.out).mono ?_);(case side1=>exact zS (kO HR.out HB.out));(case side2=>exact HC.out);(case side3=>exact TabW.below HT.out (zT HB.out GE.out));rintro e w14 ⟨rfl,hb⟩;refine ⟨_,rfl,?_⟩;replace BK:=zA (zB1 BK.out hb);replace HB:=zA (kQ (zT HB.out GE.out) hb);(try clear hb);obtain ⟨hcx0,hcx1,hfx0,hfx1⟩:=zB3 BK.out) | (refine zO (some 16) Tryz.func24 #[.int .i64 a1,.int .i64 0,.int .i64 24] ?_;(with_reducible refine (impl_inRange.calls a1 0 24 _ _ A2.out).mono ?_);rintro e w' ⟨rfl,⟨nd,rfl⟩⟩;refine ⟨_,rfl,?_⟩;obtain ⟨hcy0,hcy1,hfy0,hfy1⟩:=zB3 BK.out) | (go_at_call 25;(with_reducible refine (impl_IsMask.calls a2 a0_0 _ _ A3.out).mono ?_);rintro e w' ⟨rfl,⟨nd2,rfl⟩⟩;obtain ⟨hcu0,hcu1,hfu0,hfu1⟩:=zB3 BK.out) | (refine zO (some 28) Tryz.func16 #[.agg #[.int .i64 a0_0,.slice A0_1 l0_1.length c0_1],.int .i64 a1] ?_;(with_reducible refine (impl_checkCount.calls k a0_0 _ _ l0_1 _ _ _ _ ?side1 ?side2 ?side3 A4.out).mono ?_);(case side1=>exact zS (kO HR.out (zT HB.out GE.out)));(case side2=>exact HC.out);(case side3=>exact TabW.below HT.out (zT HB.out GE.out));rintro e w18 ⟨rfl,hb⟩;refine ⟨_,rfl,?_⟩;replace BK:=zA (zB1 BK.out hb);replace HB:=zA (kQ (zT HB.out GE.out) hb);(try clear hb);obtain ⟨hcv0,hcv1,hfv0,hfv1⟩:=zB3 BK.out))
      go_ret2
      exact ⟨zr,zT HB.out GE.out⟩
     rw [if_neg c5] at H
     obtain ⟨⟨st,R⟩,A5,H⟩:=zb H
     dsimp only at H
     by_cases c6:(Lit.int .i64 a2).wf = true
     ·rw [if_pos c6] at H
      by_cases c7:a2 ∈ st
      ·rw [if_pos c7] at H
       by_cases c8:0 ≤ a1
       ·rw [if_pos c8] at H
        have c5b:(a2 = 0 → a1 ≠ 0):=fun x y=>c5 ⟨x,y⟩
        by_cases c9:a2 = 0
        ·obtain ⟨c9b,c9bb⟩:=zT1 c9
         obtain ⟨c10b,c10bb⟩:=zT2 (c5b c9)
         clear c9 c5b c5
         simp only [Option.some.injEq,Prod.mk.injEq] at H
         obtain ⟨rfl,rfl⟩:=H
         go_enter Tryz.func12,Tryz.ntmps12
         go_wp2_with (first | (refine zBE 3 #[.int .i64 a0_0,.slice A0_1 l0_1.length c0_1] 26 ?_;intro gb hg w12 hbox hb;have BK:=zA hbox;have GE:=zA (zBH hg HB.out);replace HB:=zA (kQ (zQ HB.out) hb);clear hb hbox hg;obtain ⟨hcz0,hcz1,hfz0,hfz1⟩:=zB3 BK.out) | (refine zO (some 13) Tryz.func23 #[.agg #[.int .i64 a0_0,.slice A0_1 l0_1.length c0_1]] ?_;(with_reducible refine (impl_IsAlphabet.calls k a0_0 _ _ l0_1 _ _ ?side1 ?side2 ?side3 A1.out).mono ?_);(case side1=>exact zS (kO HR.out HB.out));(case side2=>exact HC.out);(case side3=>exact TabW.below HT.out (zT HB.out GE.out));rintro e w14 ⟨rfl,hb⟩;refine ⟨_,rfl,?_⟩;replace BK:=zA (zB1 BK.out hb);replace HB:=zA (kQ (zT HB.out GE.out) hb);(try clear hb);obtain ⟨hcx0,hcx1,hfx0,hfx1⟩:=zB3 BK.out) | (refine zO (some 16) Tryz.func24 #[.int .i64 a1,.int .i64 0,.int .i64 24] ?_;(with_reducible refine (impl_inRange.calls a1 0 24 _ _ A2.out).mono ?_);rintro e w' ⟨rfl,⟨nd,rfl⟩⟩;refine ⟨_,rfl,?_⟩;obtain ⟨hcy0,hcy1,hfy0,hfy1⟩:=zB3 BK.out) | (go_at_call 25;(with_reducible refine (impl_IsMask.calls a2 a0_0 _ _ A3.out).mono ?_);rintro e w' ⟨rfl,⟨nd2,rfl⟩⟩;obtain ⟨hcu0,hcu1,hfu0,hfu1⟩:=zB3 BK.out) | (refine zO (some 28) Tryz.func16 #[.agg #[.int .i64 a0_0,.slice A0_1 l0_1.length c0_1],.int .i64 a1] ?_;(with_reducible refine (impl_checkCount.calls k a0_0 _ _ l0_1 _ _ _ _ ?side1 ?side2 ?side3 A4.out).mono ?_);(case side1=>exact zS (kO HR.out (zT HB.out GE.out)));(case side2=>exact HC.out);(case side3=>exact TabW.below HT.out (zT HB.out GE.out));rintro e w18 ⟨rfl,hb⟩;refine ⟨_,rfl,?_⟩;replace BK:=zA (zB1 BK.out hb);replace HB:=zA (kQ (zT HB.out GE.out) hb);(try clear hb);obtain ⟨hcv0,hcv1,hfv0,hfv1⟩:=zB3 BK.out) | (refine zO (some 43) Tryz.func26 #[.agg #[.int .i64 a0_0,.slice A0_1 l0_1.length c0_1],.int .i64 a1] ?_;(with_reducible refine (stepCounts_calls k a0_0 _ _ l0_1 _ st R _ ?side1 ?side2 ?side3 A5.out).mono ?_);(case side1=>exact zS (kO HR.out (zT HB.out GE.out)));(case side2=>exact HC.out);(case side3=>exact TabW.below HT.out (zT HB.out GE.out));rintro e w19 ⟨v43,rfl,⟨gm,GG,w20,hv43,hgr⟩,hb⟩;subst hv43;refine ⟨_,rfl,?_⟩;have HG:=zA hgr;clear hgr;replace BK:=zA (zB1 BK.out hb);replace HB:=zA (kQ (zT HB.out GE.out) hb);(try clear hb)) | (at_lookup;refine wpList_mg_in rfl (.tmp 43) (.tmp 44) 47 rfl law Tryz.underlying47 zero_sliceD HG.out.1 rfl a2 (GG a2) c6 (decide_eq_true c7) (if_pos c7) _ rfl (Go.Maps.keyOf_int_mk Tryz.underlying2 c6) ?_;have hcR:=rowAt_cell (grI_row HG.out c7) c8 (show a1 < (((a1 + 1).toNat:Nat):Int) by omega);have hfR:=rowAt_frozen (grI_row HG.out c7) a1.toNat;have c8t:=eq_true c8;have c81t:=eq_true (show a1 < (((a1 + 1).toNat:Nat):Int) by omega)))
         go_ret2
         exact ⟨zr,zT HB.out GE.out⟩
        obtain ⟨c9b,c9bb⟩:=zT2 c9
        clear c9 c5b c5
        simp only [Option.some.injEq,Prod.mk.injEq] at H
        obtain ⟨rfl,rfl⟩:=H
        go_enter Tryz.func12,Tryz.ntmps12
        go_wp2_with (first | (refine zBE 3 #[.int .i64 a0_0,.slice A0_1 l0_1.length c0_1] 26 ?_;intro gb hg w12 hbox hb;have BK:=zA hbox;have GE:=zA (zBH hg HB.out);replace HB:=zA (kQ (zQ HB.out) hb);clear hb hbox hg;obtain ⟨hcz0,hcz1,hfz0,hfz1⟩:=zB3 BK.out) | (refine zO (some 13) Tryz.func23 #[.agg #[.int .i64 a0_0,.slice A0_1 l0_1.length c0_1]] ?_;(with_reducible refine (impl_IsAlphabet.calls k a0_0 _ _ l0_1 _ _ ?side1 ?side2 ?side3 A1.out).mono ?_);(case side1=>exact zS (kO HR.out HB.out));(case side2=>exact HC.out);(case side3=>exact TabW.below HT.out (zT HB.out GE.out));rintro e w14 ⟨rfl,hb⟩;refine ⟨_,rfl,?_⟩;replace BK:=zA (zB1 BK.out hb);replace HB:=zA (kQ (zT HB.out GE.out) hb);(try clear hb);obtain ⟨hcx0,hcx1,hfx0,hfx1⟩:=zB3 BK.out) | (refine zO (some 16) Tryz.func24 #[.int .i64 a1,.int .i64 0,.int .i64 24] ?_;(with_reducible refine (impl_inRange.calls a1 0 24 _ _ A2.out).mono ?_);rintro e w' ⟨rfl,⟨nd,rfl⟩⟩;refine ⟨_,rfl,?_⟩;obtain ⟨hcy0,hcy1,hfy0,hfy1⟩:=zB3 BK.out) | (go_at_call 25;(with_reducible refine (impl_IsMask.calls a2 a0_0 _ _ A3.out).mono ?_);rintro e w' ⟨rfl,⟨nd2,rfl⟩⟩;obtain ⟨hcu0,hcu1,hfu0,hfu1⟩:=zB3 BK.out) | (refine zO (some 28) Tryz.func16 #[.agg #[.int .i64 a0_0,.slice A0_1 l0_1.length c0_1],.int .i64 a1] ?_;(with_reducible refine (impl_checkCount.calls k a0_0 _ _ l0_1 _ _ _ _ ?side1 ?side2 ?side3 A4.out).mono ?_);(case side1=>exact zS (kO HR.out (zT HB.out GE.out)));(case side2=>exact HC.out);(case side3=>exact TabW.below HT.out (zT HB.out GE.out));rintro e w18 ⟨rfl,hb⟩;refine ⟨_,rfl,?_⟩;replace BK:=zA (zB1 BK.out hb);replace HB:=zA (kQ (zT HB.out GE.out) hb);(try clear hb);obtain ⟨hcv0,hcv1,hfv0,hfv1⟩:=zB3 BK.out) | (refine zO (some 43) Tryz.func26 #[.agg #[.int .i64 a0_0,.slice A0_1 l0_1.length c0_1],.int .i64 a1] ?_;(with_reducible refine (stepCounts_calls k a0_0 _ _ l0_1 _ st R _ ?side1 ?side2 ?side3 A5.out).mono ?_);(case side1=>exact zS (kO HR.out (zT HB.out GE.out)));(case side2=>exact HC.out);(case side3=>exact TabW.below HT.out (zT HB.out GE.out));rintro e w19 ⟨v43,rfl,⟨gm,GG,w20,hv43,hgr⟩,hb⟩;subst hv43;refine ⟨_,rfl,?_⟩;have HG:=zA hgr;clear hgr;replace BK:=zA (zB1 BK.out hb);replace HB:=zA (kQ (zT HB.out GE.out) hb);(try clear hb)) | (at_lookup;refine wpList_mg_in rfl (.tmp 43) (.tmp 44) 47 rfl law Tryz.underlying47 zero_sliceD HG.out.1 rfl a2 (GG a2) c6 (decide_eq_true c7) (if_pos c7) _ rfl (Go.Maps.keyOf_int_mk Tryz.underlying2 c6) ?_;have hcR:=rowAt_cell (grI_row HG.out c7) c8 (show a1 < (((a1 + 1).toNat:Nat):Int) by omega);have hfR:=rowAt_frozen (grI_row HG.out c7) a1.toNat;have c8t:=eq_true c8;have c81t:=eq_true (show a1 < (((a1 + 1).toNat:Nat):Int) by omega)))
        go_ret2
        exact ⟨zr,zT HB.out GE.out⟩
       rw [if_neg c8] at H
       exact absurd H (by simp)
      rw [if_neg c7] at H
      have c5b:(a2 = 0 → a1 ≠ 0):=fun x y=>c5 ⟨x,y⟩
      by_cases c9:a2 = 0
      ·obtain ⟨c9b,c9bb⟩:=zT1 c9
       obtain ⟨c10b,c10bb⟩:=zT2 (c5b c9)
       clear c9 c5b c5
       simp only [Option.some.injEq,Prod.mk.injEq] at H
       obtain ⟨rfl,rfl⟩:=H
       go_enter Tryz.func12,Tryz.ntmps12
       go_wp2_with (first | (refine zBE 3 #[.int .i64 a0_0,.slice A0_1 l0_1.length c0_1] 26 ?_;intro gb hg w12 hbox hb;have BK:=zA hbox;have GE:=zA (zBH hg HB.out);replace HB:=zA (kQ (zQ HB.out) hb);clear hb hbox hg;obtain ⟨hcz0,hcz1,hfz0,hfz1⟩:=zB3 BK.out) | (refine zO (some 13) Tryz.func23 #[.agg #[.int .i64 a0_0,.slice A0_1 l0_1.length c0_1]] ?_;(with_reducible refine (impl_IsAlphabet.calls k a0_0 _ _ l0_1 _ _ ?side1 ?side2 ?side3 A1.out).mono ?_);(case side1=>exact zS (kO HR.out HB.out));(case side2=>exact HC.out);(case side3=>exact TabW.below HT.out (zT HB.out GE.out));rintro e w14 ⟨rfl,hb⟩;refine ⟨_,rfl,?_⟩;replace BK:=zA (zB1 BK.out hb);replace HB:=zA (kQ (zT HB.out GE.out) hb);(try clear hb);obtain ⟨hcx0,hcx1,hfx0,hfx1⟩:=zB3 BK.out) | (refine zO (some 16) Tryz.func24 #[.int .i64 a1,.int .i64 0,.int .i64 24] ?_;(with_reducible refine (impl_inRange.calls a1 0 24 _ _ A2.out).mono ?_);rintro e w' ⟨rfl,⟨nd,rfl⟩⟩;refine ⟨_,rfl,?_⟩;obtain ⟨hcy0,hcy1,hfy0,hfy1⟩:=zB3 BK.out) | (go_at_call 25;(with_reducible refine (impl_IsMask.calls a2 a0_0 _ _ A3.out).mono ?_);rintro e w' ⟨rfl,⟨nd2,rfl⟩⟩;obtain ⟨hcu0,hcu1,hfu0,hfu1⟩:=zB3 BK.out) | (refine zO (some 28) Tryz.func16 #[.agg #[.int .i64 a0_0,.slice A0_1 l0_1.length c0_1],.int .i64 a1] ?_;(with_reducible refine (impl_checkCount.calls k a0_0 _ _ l0_1 _ _ _ _ ?side1 ?side2 ?side3 A4.out).mono ?_);(case side1=>exact zS (kO HR.out (zT HB.out GE.out)));(case side2=>exact HC.out);(case side3=>exact TabW.below HT.out (zT HB.out GE.out));rintro e w18 ⟨rfl,hb⟩;refine ⟨_,rfl,?_⟩;replace BK:=zA (zB1 BK.out hb);replace HB:=zA (kQ (zT HB.out GE.out) hb);(try clear hb);obtain ⟨hcv0,hcv1,hfv0,hfv1⟩:=zB3 BK.out) | (refine zO (some 43) Tryz.func26 #[.agg #[.int .i64 a0_0,.slice A0_1 l0_1.length c0_1],.int .i64 a1] ?_;(with_reducible refine (stepCounts_calls k a0_0 _ _ l0_1 _ st R _ ?side1 ?side2 ?side3 A5.out).mono ?_);(case side1=>exact zS (kO HR.out (zT HB.out GE.out)));(case side2=>exact HC.out);(case side3=>exact TabW.below HT.out (zT HB.out GE.out));rintro e w19 ⟨v43,rfl,⟨gm,GG,w20,hv43,hgr⟩,hb⟩;subst hv43;refine ⟨_,rfl,?_⟩;have HG:=zA hgr;clear hgr;replace BK:=zA (zB1 BK.out hb);replace HB:=zA (kQ (zT HB.out GE.out) hb);(try clear hb)) | (at_lookup;refine wpList_mg_out rfl (.tmp 43) (.tmp 44) 47 rfl law Tryz.underlying47 zero_sliceD HG.out.1 rfl a2 c6 (decide_eq_false c7) (if_neg c7) _ rfl (Go.Maps.keyOf_int_mk Tryz.underlying2 c6) ?_))
       go_ret2
       exact ⟨zr,zT HB.out GE.out⟩
      obtain ⟨c9b,c9bb⟩:=zT2 c9
      clear c9 c5b c5
      simp only [Option.some.injEq,Prod.mk.injEq] at H
      obtain ⟨rfl,rfl⟩:=H
      go_enter Tryz.func12,Tryz.ntmps12
      go_wp2_with (first | (refine zBE 3 #[.int .i64 a0_0,.slice A0_1 l0_1.length c0_1] 26 ?_;intro gb hg w12 hbox hb;have BK:=zA hbox;have GE:=zA (zBH hg HB.out);replace HB:=zA (kQ (zQ HB.out) hb);clear hb hbox hg;obtain ⟨hcz0,hcz1,hfz0,hfz1⟩:=zB3 BK.out) | (refine zO (some 13) Tryz.func23 #[.agg #[.int .i64 a0_0,.slice A0_1 l0_1.length c0_1]] ?_;(with_reducible refine (impl_IsAlphabet.calls k a0_0 _ _ l0_1 _ _ ?side1 ?side2 ?side3 A1.out).mono ?_);(case side1=>exact zS (kO HR.out HB.out));(case side2=>exact HC.out);(case side3=>exact TabW.below HT.out (zT HB.out GE.out));rintro e w14 ⟨rfl,hb⟩;refine ⟨_,rfl,?_⟩;replace BK:=zA (zB1 BK.out hb);replace HB:=zA (kQ (zT HB.out GE.out) hb);(try clear hb);obtain ⟨hcx0,hcx1,hfx0,hfx1⟩:=zB3 BK.out) | (refine zO (some 16) Tryz.func24 #[.int .i64 a1,.int .i64 0,.int .i64 24] ?_;(with_reducible refine (impl_inRange.calls a1 0 24 _ _ A2.out).mono ?_);rintro e w' ⟨rfl,⟨nd,rfl⟩⟩;refine ⟨_,rfl,?_⟩;obtain ⟨hcy0,hcy1,hfy0,hfy1⟩:=zB3 BK.out) | (go_at_call 25;(with_reducible refine (impl_IsMask.calls a2 a0_0 _ _ A3.out).mono ?_);rintro e w' ⟨rfl,⟨nd2,rfl⟩⟩;obtain ⟨hcu0,hcu1,hfu0,hfu1⟩:=zB3 BK.out) | (refine zO (some 28) Tryz.func16 #[.agg #[.int .i64 a0_0,.slice A0_1 l0_1.length c0_1],.int .i64 a1] ?_;(with_reducible refine (impl_checkCount.calls k a0_0 _ _ l0_1 _ _ _ _ ?side1 ?side2 ?side3 A4.out).mono ?_);(case side1=>exact zS (kO HR.out (zT HB.out GE.out)));(case side2=>exact HC.out);(case side3=>exact TabW.below HT.out (zT HB.out GE.out));rintro e w18 ⟨rfl,hb⟩;refine ⟨_,rfl,?_⟩;replace BK:=zA (zB1 BK.out hb);replace HB:=zA (kQ (zT HB.out GE.out) hb);(try clear hb);obtain ⟨hcv0,hcv1,hfv0,hfv1⟩:=zB3 BK.out) | (refine zO (some 43) Tryz.func26 #[.agg #[.int .i64 a0_0,.slice A0_1 l0_1.length c0_1],.int .i64 a1] ?_;(with_reducible refine (stepCounts_calls k a0_0 _ _ l0_1 _ st R _ ?side1 ?side2 ?side3 A5.out).mono ?_);(case side1=>exact zS (kO HR.out (zT HB.out GE.out)));(case side2=>exact HC.out);(case side3=>exact TabW.below HT.out (zT HB.out GE.out));rintro e w19 ⟨v43,rfl,⟨gm,GG,w20,hv43,hgr⟩,hb⟩;subst hv43;refine ⟨_,rfl,?_⟩;have HG:=zA hgr;clear hgr;replace BK:=zA (zB1 BK.out hb);replace HB:=zA (kQ (zT HB.out GE.out) hb);(try clear hb)) | (at_lookup;refine wpList_mg_out rfl (.tmp 43) (.tmp 44) 47 rfl law Tryz.underlying47 zero_sliceD HG.out.1 rfl a2 c6 (decide_eq_false c7) (if_neg c7) _ rfl (Go.Maps.keyOf_int_mk Tryz.underlying2 c6) ?_))
      go_ret2
      exact ⟨zr,zT HB.out GE.out⟩
     rw [if_neg c6] at H
     exact absurd H (by simp)
    rw [if_neg c4] at H
    have c4b:decide (cd = 0) = false:=decide_eq_false c4
    have c4c:decide (cd ≠ 0) = true:=decide_eq_true c4
    simp only [Option.some.injEq,Prod.mk.injEq] at H
    obtain ⟨rfl,rfl⟩:=H
    go_enter Tryz.func12,Tryz.ntmps12
    go_wp2_with (first | (refine zBE 3 #[.int .i64 a0_0,.slice A0_1 l0_1.length c0_1] 26 ?_;intro gb hg w12 hbox hb;have BK:=zA hbox;have GE:=zA (zBH hg HB.out);replace HB:=zA (kQ (zQ HB.out) hb);clear hb hbox hg;obtain ⟨hcz0,hcz1,hfz0,hfz1⟩:=zB3 BK.out) | (refine zO (some 13) Tryz.func23 #[.agg #[.int .i64 a0_0,.slice A0_1 l0_1.length c0_1]] ?_;(with_reducible refine (impl_IsAlphabet.calls k a0_0 _ _ l0_1 _ _ ?side1 ?side2 ?side3 A1.out).mono ?_);(case side1=>exact zS (kO HR.out HB.out));(case side2=>exact HC.out);(case side3=>exact TabW.below HT.out (zT HB.out GE.out));rintro e w14 ⟨rfl,hb⟩;refine ⟨_,rfl,?_⟩;replace BK:=zA (zB1 BK.out hb);replace HB:=zA (kQ (zT HB.out GE.out) hb);(try clear hb);obtain ⟨hcx0,hcx1,hfx0,hfx1⟩:=zB3 BK.out) | (refine zO (some 16) Tryz.func24 #[.int .i64 a1,.int .i64 0,.int .i64 24] ?_;(with_reducible refine (impl_inRange.calls a1 0 24 _ _ A2.out).mono ?_);rintro e w' ⟨rfl,⟨nd,rfl⟩⟩;refine ⟨_,rfl,?_⟩;obtain ⟨hcy0,hcy1,hfy0,hfy1⟩:=zB3 BK.out) | (go_at_call 25;(with_reducible refine (impl_IsMask.calls a2 a0_0 _ _ A3.out).mono ?_);rintro e w' ⟨rfl,⟨nd2,rfl⟩⟩;obtain ⟨hcu0,hcu1,hfu0,hfu1⟩:=zB3 BK.out) | (refine zO (some 28) Tryz.func16 #[.agg #[.int .i64 a0_0,.slice A0_1 l0_1.length c0_1],.int .i64 a1] ?_;(with_reducible refine (impl_checkCount.calls k a0_0 _ _ l0_1 _ _ _ _ ?side1 ?side2 ?side3 A4.out).mono ?_);(case side1=>exact zS (kO HR.out (zT HB.out GE.out)));(case side2=>exact HC.out);(case side3=>exact TabW.below HT.out (zT HB.out GE.out));rintro e w18 ⟨rfl,hb⟩;refine ⟨_,rfl,?_⟩;replace BK:=zA (zB1 BK.out hb);replace HB:=zA (kQ (zT HB.out GE.out) hb);(try clear hb);obtain ⟨hcv0,hcv1,hfv0,hfv1⟩:=zB3 BK.out))
    go_ret2
    exact ⟨zr,zT HB.out GE.out⟩
   rw [if_neg c3] at H
   obtain rfl:t2 = false:=by cases t2 <;> simp_all
   simp only [Option.some.injEq,Prod.mk.injEq] at H
   obtain ⟨rfl,rfl⟩:=H
   go_enter Tryz.func12,Tryz.ntmps12
   go_wp2_with (first | (refine zBE 3 #[.int .i64 a0_0,.slice A0_1 l0_1.length c0_1] 26 ?_;intro gb hg w12 hbox hb;have BK:=zA hbox;have GE:=zA (zBH hg HB.out);replace HB:=zA (kQ (zQ HB.out) hb);clear hb hbox hg;obtain ⟨hcz0,hcz1,hfz0,hfz1⟩:=zB3 BK.out) | (refine zO (some 13) Tryz.func23 #[.agg #[.int .i64 a0_0,.slice A0_1 l0_1.length c0_1]] ?_;(with_reducible refine (impl_IsAlphabet.calls k a0_0 _ _ l0_1 _ _ ?side1 ?side2 ?side3 A1.out).mono ?_);(case side1=>exact zS (kO HR.out HB.out));(case side2=>exact HC.out);(case side3=>exact TabW.below HT.out (zT HB.out GE.out));rintro e w14 ⟨rfl,hb⟩;refine ⟨_,rfl,?_⟩;replace BK:=zA (zB1 BK.out hb);replace HB:=zA (kQ (zT HB.out GE.out) hb);(try clear hb);obtain ⟨hcx0,hcx1,hfx0,hfx1⟩:=zB3 BK.out) | (refine zO (some 16) Tryz.func24 #[.int .i64 a1,.int .i64 0,.int .i64 24] ?_;(with_reducible refine (impl_inRange.calls a1 0 24 _ _ A2.out).mono ?_);rintro e w' ⟨rfl,⟨nd,rfl⟩⟩;refine ⟨_,rfl,?_⟩;obtain ⟨hcy0,hcy1,hfy0,hfy1⟩:=zB3 BK.out) | (go_at_call 25;(with_reducible refine (impl_IsMask.calls a2 a0_0 _ _ A3.out).mono ?_);rintro e w' ⟨rfl,⟨nd2,rfl⟩⟩;obtain ⟨hcu0,hcu1,hfu0,hfu1⟩:=zB3 BK.out))
   go_ret2
   exact ⟨zr,zT HB.out GE.out⟩
  rw [if_neg c2] at H
  obtain rfl:t1 = false:=by cases t1 <;> simp_all
  simp only [Option.some.injEq,Prod.mk.injEq] at H
  obtain ⟨rfl,rfl⟩:=H
  go_enter Tryz.func12,Tryz.ntmps12
  go_wp2_with (first | (refine zBE 3 #[.int .i64 a0_0,.slice A0_1 l0_1.length c0_1] 26 ?_;intro gb hg w12 hbox hb;have BK:=zA hbox;have GE:=zA (zBH hg HB.out);replace HB:=zA (kQ (zQ HB.out) hb);clear hb hbox hg;obtain ⟨hcz0,hcz1,hfz0,hfz1⟩:=zB3 BK.out) | (refine zO (some 13) Tryz.func23 #[.agg #[.int .i64 a0_0,.slice A0_1 l0_1.length c0_1]] ?_;(with_reducible refine (impl_IsAlphabet.calls k a0_0 _ _ l0_1 _ _ ?side1 ?side2 ?side3 A1.out).mono ?_);(case side1=>exact zS (kO HR.out HB.out));(case side2=>exact HC.out);(case side3=>exact TabW.below HT.out (zT HB.out GE.out));rintro e w14 ⟨rfl,hb⟩;refine ⟨_,rfl,?_⟩;replace BK:=zA (zB1 BK.out hb);replace HB:=zA (kQ (zT HB.out GE.out) hb);(try clear hb);obtain ⟨hcx0,hcx1,hfx0,hfx1⟩:=zB3 BK.out) | (refine zO (some 16) Tryz.func24 #[.int .i64 a1,.int .i64 0,.int .i64 24] ?_;(with_reducible refine (impl_inRange.calls a1 0 24 _ _ A2.out).mono ?_);rintro e w' ⟨rfl,⟨nd,rfl⟩⟩;refine ⟨_,rfl,?_⟩;obtain ⟨hcy0,hcy1,hfy0,hfy1⟩:=zB3 BK.out))
  go_ret2
  exact ⟨zr,zT HB.out GE.out⟩
 rw [if_neg c1] at H
 obtain rfl:t = false:=by cases t <;> simp_all
 simp only [Option.some.injEq,Prod.mk.injEq] at H
 obtain ⟨rfl,rfl⟩:=H
 go_enter Tryz.func12,Tryz.ntmps12
 go_wp2_with (first | (refine zBE 3 #[.int .i64 a0_0,.slice A0_1 l0_1.length c0_1] 26 ?_;intro gb hg w12 hbox hb;have BK:=zA hbox;have GE:=zA (zBH hg HB.out);replace HB:=zA (kQ (zQ HB.out) hb);clear hb hbox hg;obtain ⟨hcz0,hcz1,hfz0,hfz1⟩:=zB3 BK.out) | (refine zO (some 13) Tryz.func23 #[.agg #[.int .i64 a0_0,.slice A0_1 l0_1.length c0_1]] ?_;(with_reducible refine (impl_IsAlphabet.calls k a0_0 _ _ l0_1 _ _ ?side1 ?side2 ?side3 A1.out).mono ?_);(case side1=>exact zS (kO HR.out HB.out));(case side2=>exact HC.out);(case side3=>exact TabW.below HT.out (zT HB.out GE.out));rintro e w14 ⟨rfl,hb⟩;refine ⟨_,rfl,?_⟩;replace BK:=zA (zB1 BK.out hb);replace HB:=zA (kQ (zT HB.out GE.out) hb);(try clear hb);obtain ⟨hcx0,hcx1,hfx0,hfx1⟩:=zB3 BK.out))
 go_ret2
 exact ⟨zr,zT HB.out GE.out⟩
def slices_Clone_int64_int64.f (l0:List Int):Option (List Int):=if l0.length < 17592186044416 then some l0 else none
set_option maxHeartbeats 2000000 in
set_option maxRecDepth 100000 in
theorem slices_Clone_int64_int64.calls (A0 : Option Addr) (c0 : Nat) (l0 : List Int) (r : List Int) (w : World) (hr0 : Kd.C (Kd.int .i64) w A0 l0.length l0) (hc0 : l0.length ≤ c0) (h : slices_Clone_int64_int64.f l0 = some r) :
  Calls Tryz.prog 29 #[.slice A0 l0.length c0] w fun e w' => ∃ v0_:Value,e = .returned (v0_) ∧ Kd.R (Kd.int .i64) 2 w' w.heap.size (fun _=>True) v0_ r ∧ Below w.heap.size w w' := by
 unfold slices_Clone_int64_int64.f at h
 by_cases hl:l0.length < 17592186044416
 ·rw [if_pos hl] at h
  obtain rfl:=Option.some.inj h
  clear h
  have HR0:=zA hr0
  have HL:=zA hl
  have qnil:∀ (w:World) (a:Option Addr) (n c n' c' : Nat),(binOp .eql 24 (.slice a n c) (.slice none n' c')).run Tryz.prog w = .ok (.bool a.isNone) w:=fun w a n c n' c' => Lib.run_eql_slice_nil w _ _ a n c n' c' Tryz.underlying24
  cases A0 with
  | none =>
   have hz:l0 = []:=by
    rcases Nat.eq_zero_or_pos l0.length with e | e
    ·exact List.eq_nil_of_length_eq_zero e
    obtain ⟨ad,e1,_⟩:=hr0.2.2 e
    cases e1
   subst hz
   clear hr0 hl hc0
   go_enter Tryz.func29,Tryz.ntmps29
   go_wp2
   go_ret
   exact ⟨_,rfl,jO _ _ _ _ _,kW _ _⟩
  | some ad =>
   clear hr0 hl hc0
   go_enter Tryz.func29,Tryz.ntmps29
   go_wp2_with (first | ((with_reducible refine kS (N:=5) rfl ?_);refine Kd.R_lit (Kd.int .i64) _ 2 ?hg (N:=5) ?hd (xs:=([]:List Int)) (inner:=[]) (ok:=fun _=>True) (okp:=fun _=>True) ?hr ?hp (fun _ hk=>hk) trivial (kW _ _) (Nat.le_refl _) (by simp) ?_;(case hd=>rfl);(case hg=>rfl);(case hr=>first | (go_simp;done) | (go_simp;rfl));(case hp=>exact (Reps.none _ _));intro v5 w5 ho hb hg_ hnew_;clear hg_ hnew_;have HO:=zA ho;have HB:=zA hb;clear ho hb) | ((with_reducible refine gate_builtin (b:=.append) (xs:=#[.tmp 5,.tmp 6]) rfl ?_);at_builtin;refine Kd.R_append_rows (Kd.int .i64) (w0:=w) w.heap.size rfl (.tmp 5) (.tmp 6) 24 2 (.int .i64 0) 8 rfl Tryz.underlying24 info2 rfl (by decide) (by omega) v5 [] l0 _ _ _ (fun _=>True) (fun _=>False) rfl rfl HO.out (kO HR0.out HB.out) (fun _ _ h=>h) (fun _ h=>h.elim) (fun _ _=>trivial) HB.out HB.out.size (by have:=HL.out;simp;omega) ?_;intro v6 w6 ho hb hg hat;have HO' := zA ho;have HB' := zA hb;clear ho hb hg hat HO HB))
   go_ret
   exact ⟨_,rfl,HO'.out,HB'.out⟩
 rw [if_neg hl] at h
 cases h
def impl_ties_forbidden.f (l0:List Int) (a1:Int) (a2:Int):Option (Int):=(impl_one.f a2).bind fun t620=>(if 0 ≤ a2 then (if a2 < (l0.length:Int) then (some (Go.bits .andNot .i64 (Go.bits .or .i64 a1 (wrap64 (t620 - 1))) (rd l0 a2))) else (none)) else (none))
set_option maxHeartbeats 8000000 in
set_option maxRecDepth 100000 in
theorem impl_ties_forbidden.calls (A0 : Option Addr) (c0 : Nat) (l0 : List Int) (a1 : Int) (a2 : Int) (r : Int) (w : World) (hr0 : Kd.C (Kd.int .i64) w A0 l0.length l0) (hc0 : l0.length ≤ c0) (h : impl_ties_forbidden.f l0 a1 a2 = some r) :
  Calls Tryz.prog 56 #[.slice A0 l0.length c0,.int .i64 a1,.int .i64 a2] w fun e w' => e = .returned (.int .i64 r) ∧ Drawn0 w w' := by
 have HR0:=zA hr0
 have HC0:=zA hc0
 clear hr0 hc0
 have H:=h
 unfold impl_ties_forbidden.f at H
 clear h
 obtain ⟨t620,A4,H⟩:=zb H
 try dsimp only at H
 by_cases c5:0 ≤ a2
 ·rw [if_pos c5] at H
  have c5b0:decide (0 ≤ a2) = true:=decide_eq_true c5
  clear c5
  by_cases c6:a2 < (l0.length:Int)
  ·rw [if_pos c6] at H
   have c6b0:decide (a2 < (l0.length:Int)) = true:=decide_eq_true c6
   clear c6
   obtain rfl:=Option.some.inj H
   go_enter Tryz.func56,Tryz.ntmps56
   go_wp2_with (first | (go_at_call 55;(with_reducible refine (impl_one.calls a2 t620 _ A4.out).mono ?_);rintro e w' ⟨rfl,⟨nd,rfl⟩⟩;(try exact zw);have p621:0 ≤ (a2:Int):=zd;have q621:a2 < (l0.length:Int):=zd;obtain ⟨ad621,e621,hx621_0⟩:=Kd.at_int HR0.out a2 p621 q621;cases e621;replace p621:=eq_true p621;replace q621:=eq_true q621))
   repeat (go_quiet (first | (go_at_call 55;(with_reducible refine (impl_one.calls a2 t620 _ A4.out).mono ?_);rintro e w' ⟨rfl,⟨nd,rfl⟩⟩;(try exact zw);have p621:0 ≤ (a2:Int):=zd;have q621:a2 < (l0.length:Int):=zd;obtain ⟨ad621,e621,hx621_0⟩:=Kd.at_int HR0.out a2 p621 q621;cases e621;replace p621:=eq_true p621;replace q621:=eq_true q621));try go_wp2_with (first | (go_at_call 55;(with_reducible refine (impl_one.calls a2 t620 _ A4.out).mono ?_);rintro e w' ⟨rfl,⟨nd,rfl⟩⟩;(try exact zw);have p621:0 ≤ (a2:Int):=zd;have q621:a2 < (l0.length:Int):=zd;obtain ⟨ad621,e621,hx621_0⟩:=Kd.at_int HR0.out a2 p621 q621;cases e621;replace p621:=eq_true p621;replace q621:=eq_true q621)))
   go_ret
   exact ⟨by first | rfl | (simp only [i64_w] <;> rfl) | (simp;done) | (simp [*];done),by repeat (first | exact Drawn0.refl _ | apply Drawn0.step)⟩
  rw [if_neg c6] at H
  exact absurd H (by simp)
 rw [if_neg c5] at H
 exact absurd H (by simp)
mutual
def impl_ties_forms.r:Nat → List Int → List Int → Int → Int → List (List Int) → Option (List (List Int))
 | 0,_,_,_,_,_=>none
 | k + 1,D,s,M,m,L=>if m = 0 then (if s.length < 1000000000 ∧ L.length < 1000000000 then some (L ++ [s]) else none) else impl_ties_forms.l0 k D s M m L 0
def impl_ties_forms.l0:Nat → List Int → List Int → Int → Int → List (List Int) → Int → Option (List (List Int))
 | 0,_,_,_,_,_,_=>none
 | k + 1,D,s,M,m,L,a=>if a < (D.length:Int) then ((impl_has.f M a).bind fun b=>(if b = true then impl_ties_forms.l0 k D s M m L (wrap64 (a + 1)) else (if s.length < 1000000000 then ((impl_ties_forbidden.f D M a).bind fun M2=>((impl_ties_forms.r k D (s ++ [a]) M2 (wrap64 (m - 1)) L).bind fun L2=>impl_ties_forms.l0 k D s M m L2 (wrap64 (a + 1)))) else none))) else some L
end
def impl_TracesOfLength.f (k:Nat) (a0_0:Int) (l0_1:List Int) (a1:Int):Option ((List (List Int)) × Int):=(impl_checkCount.f k a0_0 l0_1 a1).bind fun bt=>if bt.2 = 0 then (if bt.1 > 1000 then some ([],3) else (impl_ties_forms.r k l0_1 [] 0 a1 []).bind fun L=>some (L,0)) else some ([],bt.2)
def FmI (W0 w:World) (B:Nat) (vs:Value) (s:List Int) (W:World) (L:List (List Int)):Prop :=
 ∃ A c,W.heap[B]? = some (.cells #[.slice A L.length c] 37 (0,0)) ∧ Kd.S (Kd.slice 2 (Kd.int .i64)) 24 W W0.heap.size (fun _=>True) (.slice A L.length c) L ∧ Below W0.heap.size W0 W ∧ Kd.R (Kd.int .i64) 2 W W0.heap.size (fun _=>True) vs s ∧ IntsKeep 2 w W ∧ W0.heap.size ≤ B
section
variable {W0 w:World} {B:Nat} {vs:Value} {s:List Int} {W w1:World} {L:List (List Int)}
theorem FmI_below (h:FmI W0 w B vs s W L) (hb:Below W.heap.size W w1):FmI W0 w B vs s w1 L:=by
 obtain ⟨A,c,h1,h2,h3,h4,h5,h6⟩:=h
 exact ⟨A,c,(hb.block B (jI h1)).trans h1,Kd.S_below h2 hb,Below.grown h3 (grown_of_below hb none) h3.size (fun j hj=>by cases hj),kL h4 hb,keep_ints_trans h5 (keep_ints_below hb),h6⟩
theorem FmI_drawn (h:FmI W0 w B vs s W L) (hd:Drawn0 W w1):FmI W0 w B vs s w1 L:=by
 obtain ⟨m,rfl⟩:=hd
 exact FmI_below h (zC (kW _ _) m)
end
theorem list_app_keep2 {e:Nat} {base:Nat} {W w1:World} {v:Value} {L:List (List Int)} (he:e ≠ 24) (hs:Kd.S (Kd.slice 2 (Kd.int .i64)) 24 W base (fun _=>True) v L) (hg:W.grownBy w1 v.ownBlock):IntsKeep e W w1 :=
 keep_ints_grown hg (fun k hk=>by
  obtain ⟨c,hc⟩:=Kd.S_typed hs k hk
  exact ⟨c,_,hc,fun h=>he h.symm⟩)
set_option maxHeartbeats 8000000 in
set_option maxRecDepth 100000 in
theorem forms_each (W0 : World) (B : Nat) (hB : W0.heap.size ≤ B) (A1 : Option Addr) (c1 : Nat) (s : List Int) (L : List (List Int)) (w : World) (hs1 : s.length < 1000000000) (hl1 : L.length < 1000000000) (h : FmI W0 w B (.slice A1 s.length c1) s w L) :
  Calls Tryz.prog 28 #[.slice A1 s.length c1,.pointer (some ⟨B,0,none⟩)] w fun e w' => e = .returned (.bool false) ∧ FmI W0 w B (.slice A1 s.length c1) s w' (L ++ [s]):=by
 have HI:=zA h
 have H1:=zA hs1
 have H2:=zA hl1
 obtain ⟨A,c,h1,h2,h3,h4,h5,h6⟩:=h
 have HK1:=zA h1
 have HL:=zA h2
 have HB:=zA h3
 have HS:=zA h4
 have HS0:=zA h4
 clear h1 h2 h3 h4 h5 h6 hs1 hl1
 have hcz:=kV HK1.out 0
 have hfz:=jH HK1.out 0
 go_enter Tryz.func28,Tryz.ntmps28
 go_wp2
 have HD:=zA (zD (kW w.heap.size w))
 have HK2:=zA ((HD.out.block B (jI HK1.out)).trans HK1.out)
 replace hcz:=kV HK2.out 0
 clear hfz
 refine start_ (n:=6) (S:=fun w' => w'.cell? ⟨B,0,none⟩ = some (.slice A L.length c)) (ds:=[5]) #[false,false,false,false,false,false] (by kernel_rfl) rfl rfl (hcz.trans rfl) (fun hHeld=>?_)
 clear hcz
 replace HI:=zA (FmI_below HI.out HD.out)
 replace HL:=zA (Kd.S_below HL.out HD.out)
 replace HB:=zA (Below.grown HB.out (grown_of_below HD.out none) HB.out.size (fun j hj=>by cases hj))
 replace HS:=zA (kL HS.out HD.out)
 have HKW:=zA (keep_ints_below (e:=2) HD.out)
 generalize w.drew = w5 at HI HL HB HS HK2 HKW hHeld ⊢
 refine take_ (i:=0) (N:=some 4) (v:=?_) (a' := ?_) #[true,false,false,false,false,false] rfl rfl (by kernel_rfl) (fun _ _ _ h=>h) (Or.inl ⟨by rfl,?_⟩) hHeld ?_ ?_
 rotate_left
 ·rintro w' s0
  go_simp
  with_reducible rfl
 rotate_left
 ·simp only [Act.put,zL,zM,zN,i64_w,i32_w]
  rfl
 refine pure_ (i:=1) (N:=some 5) (v:=?_) (a' := ?_) #[true,true,false,false,false,false] rfl rfl (by kernel_rfl) (fun _ _ _ h=>h) (Or.inl ⟨by rfl,?_⟩) ?_ ?_
 rotate_left
 ·intro w'
  go_simp
  with_reducible rfl
 rotate_left
 ·simp only [Act.put,zL,zM,zN,i64_w,i32_w]
  rfl
 refine one_ (i:=2) (N:=some 6) #[true,true,true,false,false,false] rfl rfl (by kernel_rfl) (by decide) (fun K hK=>?_)
 refine goes_ Tryz.func29 (by kernel_rfl) rfl #[.slice A1 s.length c1] (by rfl) rfl rfl (by simp only [List.map_toArray,List.map_cons,List.map_nil];rfl) ?_
 with_reducible refine (slices_Clone_int64_int64.calls _ _ s s _ ?side1 ?side2 (by unfold slices_Clone_int64_int64.f;rw [if_pos (by have:=H1.out;omega)])).mono ?_
 case side1=>exact (kB HS.out).2.2
 case side2=>exact (kB HS.out).2.1
 rintro e w6 ⟨v6,rfl,ho0,hb⟩
 refine ⟨_,rfl,?_⟩
 obtain ⟨Ao,co,eo⟩:=kM ho0
 subst eo
 have HK6:=zA ((hb.block B (jI HK2.out)).trans HK2.out)
 have HB6:=zA (Below.grown HB.out (grown_of_below hb none) HB.out.size (fun j hj=>by cases hj))
 have HZ:=zA (Kd.S_below (Kd.S_mono (Kd.S_bound HL.out) (ok' := fun k_=>k_ < w5.heap.size) (fun k_ hk_=>hk_.2.2.1)) hb)
 have HL6:=zA (Kd.S_below HL.out hb)
 have HV:=zA (Kd.S_lt HL.out)
 have HKW6:=zA (keep_ints_trans HKW.out (keep_ints_below hb))
 have HO:=zA ho0
 have HZ6:=zA hb.size
 refine hK.out _ _ ((kV HK6.out 0).trans rfl) (fun hHeld=>?_)
 clear hK K ho0 hb
 refine norm_ (a' := ?_) ?_ ?_
 rotate_left
 ·show Act.put _ (some 6) _ = _
  simp only [Act.put,zL,zM,zN,i64_w,i32_w]
  rfl
 refine one_ (i:=3) (N:=some 7) #[true,true,true,true,false,false] rfl rfl (by kernel_rfl) (by decide) (fun K hK=>?_)
 refine value_ (v:=.slice (some ⟨w6.heap.size,0,none⟩) 1 1) (w1:=w6.alloc (.cells #[.slice Ao s.length co] 24)) (by rfl) rfl (by first | (go_simp;done) | (go_simp;rfl)) ?_
 refine hK.out _ _ ((kV (zI HK6.out _) 0).trans rfl) (fun hHeld=>?_)
 clear hK K
 refine norm_ (a' := ?_) ?_ ?_
 rotate_left
 ·show Act.put _ (some 7) _ = _
  simp only [Act.put,zL,zM,zN,i64_w,i32_w]
  rfl
 refine one_ (i:=4) (N:=some 8) #[true,true,true,true,true,false] rfl rfl (by kernel_rfl) (by decide) (fun K hK=>?_)
 refine Kd.S_append_step (Kd.slice 2 (Kd.int .i64)) (w0:=W0) (W:=w6) W0.heap.size (by rfl) (.tmp 4) (.tmp 7) 37 24 (.slice none 0 0) 24 rfl Tryz.underlying37 info24 rfl (by decide) (by omega) (.slice A L.length c) L s [.slice Ao s.length co] (fun _=>True) (fun k_=>w5.heap.size ≤ k_) rfl rfl ?aP ?aH (fun _ _=>trivial) ?aO ?aB ?aS ?aL ?_
 case aP=>exact Kd.M_row (kI (kA (Kd.R_bound HO.out) (fun _ hk_=>hk_.2.1)) HB.out.size)
 case aH=>exact fun k_ hk_=>⟨trivial,fun e_=>by have:=HV.out k_ e_.symm;omega⟩
 case aO=>exact Kd.S_mono HZ.out (fun k_ hk_=>⟨trivial,Nat.not_le.2 hk_⟩)
 case aB=>exact HB6.out
 case aS=>exact HB6.out.size
 case aL=>have:=H2.out;omega
 intro v8 w7 ho hb hg hat
 have hne:some B ≠ (Value.slice A L.length c).ownBlock:=fun e_=>by
  obtain ⟨c2_,hc2⟩:=Kd.S_typed HL6.out B e_.symm
  rw [HK6.out] at hc2
  simp at hc2
 have HK7:=zA ((hg.block B (jI HK6.out) hne).trans HK6.out)
 have HKW7:=zA (keep_ints_trans HKW6.out (list_app_keep2 (by decide) HL6.out hg))
 refine hK.out _ _ ((kV HK7.out 0).trans rfl) (fun hHeld=>?_)
 obtain ⟨A8,c8,e8⟩:=Kd.S_slice ho
 subst e8
 have HL7:=zA ho
 have HB7:=zA hb
 clear hK K ho hb hg hat hne
 refine norm_ (a' := ?_) ?_ ?_
 rotate_left
 ·show Act.put _ (some 8) _ = _
  simp only [Act.put,zL,zM,zN,i64_w,i32_w]
  rfl
 have hfz7:=jH HK7.out 0
 have hcz7:=kV HK7.out 0
 refine last_ (i:=5) (N:=none) #[true,true,true,true,true,true] rfl rfl (by kernel_rfl) (by decide) (fun K hK=>?_)
 refine skip_ (w1:=w7.setCell ⟨B,0,none⟩ (.slice A8 (L ++ [s]).length c8)) (by rfl) rfl (by first | (go_simp;done) | (go_simp;rfl)) ?_
 refine hK.out _ _ ?_
 clear hK K hfz7 hcz7
 refine done_ (by kernel_rfl) ?_
 have HF:=zA (show FmI W0 w B (.slice A1 s.length c1) s (w7.setCell ⟨B,0,none⟩ (.slice A8 (L ++ [s]).length c8)) (L ++ [s]) from ?_)
 ·go_wp2
  go_ret
  exact ⟨rfl,HF.out⟩
 refine ⟨A8,c8,?_,Kd.S_set HL7.out HK7.out (by decide) 0 _,zE HB7.out hB,R_ints HS0.out (keep_ints_trans HKW7.out (keep_ints_set HK7.out (by decide))),keep_ints_trans HKW7.out (keep_ints_set HK7.out (by decide)),hB⟩
 have:=blk_set HK7.out 0 (.slice A8 (L ++ [s]).length c8)
 simpa using this
theorem FmI_C {W0 w:World} {B:Nat} {vs:Value} {s:List Int} {W:World} {L:List (List Int)} {A0:Option Addr} {D:List Int} (h:Kd.C (Kd.int .i64) W0 A0 D.length D) (hI:FmI W0 w B vs s W L):Kd.C (Kd.int .i64) W A0 D.length D:=by
 obtain ⟨A,c,_,_,h3,_⟩:=hI
 exact kO h h3
theorem FmI_S {W0 w:World} {B:Nat} {A1:Option Addr} {c1:Nat} {s:List Int} {W:World} {L:List (List Int)} (hI:FmI W0 w B (.slice A1 s.length c1) s W L):Kd.C (Kd.int .i64) W A1 s.length s:=by
 obtain ⟨A,c,_,_,_,h4,_⟩:=hI
 exact (kB h4).2.2
theorem FmI_le {W0 w:World} {B:Nat} {A1:Option Addr} {c1:Nat} {s:List Int} {W:World} {L:List (List Int)} (hI:FmI W0 w B (.slice A1 s.length c1) s W L):s.length ≤ c1:=by
 obtain ⟨A,c,_,_,_,h4,_⟩:=hI
 exact (kB h4).2.1
theorem FmI_size {W0 w:World} {B:Nat} {vs:Value} {s:List Int} {W:World} {L:List (List Int)} (hI:FmI W0 w B vs s W L):W0.heap.size ≤ W.heap.size:=by
 obtain ⟨A,c,_,_,h3,_⟩:=hI
 exact h3.size
theorem FmI_word {W0 w:World} {B:Nat} {vs vs2:Value} {s s2:List Int} {W:World} {L:List (List Int)} (hI:FmI W0 w B vs s W L) (hr:Kd.R (Kd.int .i64) 2 W W0.heap.size (fun _=>True) vs2 s2):FmI W0 W B vs2 s2 W L:=by
 obtain ⟨A,c,h1,h2,h3,_,_,h6⟩:=hI
 exact ⟨A,c,h1,h2,h3,hr,keep_ints_refl _ _,h6⟩
theorem FmI_ext {W0 w:World} {B:Nat} {vs vs2:Value} {s s2:List Int} {W W2:World} {L L2:List (List Int)} (hI:FmI W0 w B vs s W L) (h2:FmI W0 W B vs2 s2 W2 L2):FmI W0 w B vs s W2 L2:=by
 obtain ⟨_,_,_,_,_,a4,a5,a6⟩:=hI
 obtain ⟨A,c,h1,h2,h3,_,h5,h6⟩:=h2
 exact ⟨A,c,h1,h2,h3,R_ints a4 h5,keep_ints_trans a5 h5,h6⟩
theorem R_drawn5 {e base:Nat} {ok:Nat → Prop} {w w1:World} {v:Value} {xs:List Int} (h:Kd.R (Kd.int .i64) e w base ok v xs) (hd:Drawn0 w w1):Kd.R (Kd.int .i64) e w1 base ok v xs:=by
 obtain ⟨n,rfl⟩:=hd
 exact kL h (zC (kW _ _) n)
set_option maxHeartbeats 8000000 in
set_option maxRecDepth 100000 in
theorem forms_calls (W0 : World) (B : Nat) (hB : W0.heap.size ≤ B) (A0 : Option Addr) (c0 : Nat) (D : List Int) (hD : Kd.C (Kd.int .i64) W0 A0 D.length D) (hc0 : D.length ≤ c0) : ∀ (k : Nat) (s : List Int) (M m : Int) (L r : List (List Int)) (A1 : Option Addr) (c1 : Nat) (w : World), impl_ties_forms.r k D s M m L = some r → FmI W0 w B (.slice A1 s.length c1) s w L →
  Calls Tryz.prog 27 #[.slice A0 D.length c0,.slice A1 s.length c1,.int .i64 M,.int .i64 m,.func (.func 28) #[] #[.pointer (some ⟨B,0,none⟩)]] w fun e w' => e = .returned (.bool false) ∧ FmI W0 w B (.slice A1 s.length c1) s w' r:=by
 have HD:=zA hD
 have HC0:=zA hc0
 clear hD hc0
 have eg:∀ args w,(callFunc 28 args).run Tryz.prog w = .ok (.enter 28 args) w:=enters_fn Tryz.func28 (by kernel_rfl) rfl
 intro k
 induction k using Nat.strongRecOn with
 | ind k IH =>
 intro s M m L r A1 c1 w hf hI
 cases k with
 | zero=>exact absurd hf (by simp [impl_ties_forms.r])
 | succ k0 =>
 have HI:=zA hI
 clear hI
 simp only [impl_ties_forms.r] at hf
 by_cases q1:m = 0
 ·rw [if_pos q1] at hf
  subst q1
  by_cases q2:s.length < 1000000000 ∧ L.length < 1000000000
  ·rw [if_pos q2] at hf
   obtain rfl:=Option.some.inj hf
   have HE:=zA (forms_each W0 B hB A1 c1 s L w q2.1 q2.2 HI.out)
   clear hf q2
   go_enter Tryz.func27,Tryz.ntmps27
   go_wp2_with fail
   refine HE.out.mono ?_
   rintro e w' ⟨rfl,hb⟩
   have HR:=zA hb
   clear HE hb
   go_wp2
   go_ret
   exact ⟨rfl,HR.out⟩
  rw [if_neg q2] at hf
  cases hf
 rw [if_neg q1] at hf
 have H' := zA hf
 have q1b:decide (m = 0) = false:=decide_eq_false q1
 clear hf
 go_enter Tryz.func27,Tryz.ntmps27
 go_wp2_with (first | (refine zO (some 18) Tryz.func31 #[.slice A0 D.length c0] ?_;(with_reducible refine (impl_length_int64.calls _ _ D (D.length:Int) _ ?side1 ?side2 rfl).mono ?_);(case side1=>exact FmI_C HD.out HI.out);(case side2=>exact HC0.out);rintro e w1 ⟨rfl,hd⟩;refine ⟨_,rfl,?_⟩;have HI1:=zA (FmI_drawn HI.out hd);clear hd))
 clear HI
 go_loopg [19] k0 (fun gg v19 wr=>∃ (L2:List (List Int)) (a:Int),v19 = .int .i64 a ∧ Aside0 (impl_ties_forms.l0 gg D s M m L2 a = some r) ∧ Aside0 (gg ≤ k0) ∧ Aside0 (FmI W0 w B (.slice A1 s.length c1) s wr L2))
 case atStart=>exact ⟨L,0,rfl,H', ⟨Nat.le_refl _⟩,HI1⟩
 case round =>
  clear H' HI1
  obtain ⟨L2,a,rfl,HA,HK,HI⟩:=hrel
  cases gk with
  | zero=>exact absurd HA.out (by simp [impl_ties_forms.l0])
  | succ k1 =>
   have H:=HA.out
   clear HA
   simp only [impl_ties_forms.l0] at H
   by_cases q3:a < (D.length:Int)
   ·rw [if_pos q3] at H
    have q3b:decide (a < (D.length:Int)) = true:=decide_eq_true q3
    obtain ⟨b,h1,H⟩:=Option.bind_eq_some_iff.1 H
    have H1:=zA h1
    clear h1
    cases b with
    | true =>
     rw [if_pos rfl] at H
     have HN:=zA H
     clear H
     go_wp2_with (first | (refine zO (some 24) Tryz.func54 #[.int .i64 M,.int .i64 a] ?_;(with_reducible refine (impl_has.calls M a _ _ H1.out).mono ?_);rintro e w2 ⟨rfl,hd⟩;refine ⟨_,rfl,?_⟩;replace HI:=zA (FmI_drawn HI.out hd);clear hd))
     go_roundg k1
     case measure=>have:=HK.out;omega
     case rel=>exact ⟨L2,wrap64 (a + 1),rfl,HN,⟨by have:=HK.out;omega⟩,HI⟩
    | false =>
     rw [if_neg (by decide)] at H
     by_cases q4:s.length < 1000000000
     ·rw [if_pos q4] at H
      obtain ⟨M2,h3,H⟩:=Option.bind_eq_some_iff.1 H
      obtain ⟨L3,h4,H⟩:=Option.bind_eq_some_iff.1 H
      obtain ⟨yo,hyo⟩:∃ y_:List Int,y_ = s ++ [a]:=⟨_,rfl⟩
      rw [← hyo] at h4
      have NY:=zA hyo
      clear hyo
      have H2:=zA q4
      have H3:=zA h3
      have H4:=zA h4
      have HN:=zA H
      clear H h3 h4 q4
      go_wp2_with (first | (refine zO (some 24) Tryz.func54 #[.int .i64 M,.int .i64 a] ?_;(with_reducible refine (impl_has.calls M a _ _ H1.out).mono ?_);rintro e w2 ⟨rfl,hd⟩;refine ⟨_,rfl,?_⟩;replace HI:=zA (FmI_drawn HI.out hd);clear hd) | (go_at_call 29;(with_reducible refine (slices_Clone_int64_int64.calls _ _ s s _ ?side1 ?side2 (by unfold slices_Clone_int64_int64.f;rw [if_pos (by have:=H2.out;omega)])).mono ?_);(case side1=>exact FmI_S HI.out);(case side2=>exact FmI_le HI.out);rintro e w3 ⟨v29,rfl,ho0,hb⟩;have HV:=zA ho0;have HB3:=zA hb;clear ho0 hb) | ((with_reducible refine gate_builtin (b:=.append) (xs:=#[.tmp 29,.tmp 31]) rfl ?_);(try (refine gate_guard (by rfl) ?_;dsimp only));at_builtin;refine Kd.R_append (Kd.int .i64) (w0:=w2) w2.heap.size rfl (.tmp 29) (.tmp 31) 24 2 (.int .i64 0) 8 rfl Tryz.underlying24 info2 rfl (by decide) (by omega) v29 s a [.int .i64 a] (fun _=>True) (fun _=>False) rfl rfl ?aP (fun _ hk=>hk.elim) ?aF ?aO ?aB ?aS ?aL ?_;(case aP=>exact rfl);(case aF=>exact (fun _ _=>trivial));(case aO=>exact HV.out);(case aB=>exact HB3.out);(case aS=>exact HB3.out.size);(case aL=>have:=H2.out;omega);intro v32 w4 ho hb hg hat;rw [← NY.out] at ho;obtain ⟨Ay,cy,ey⟩:=kM ho;subst ey;have HY:=zA ho;have HI4:=zA (FmI_below HI.out hb);have HZ4:=zA hb.size;clear ho hb hg hat) | (go_at_call 56;(with_reducible refine (impl_ties_forbidden.calls _ _ D M a M2 _ ?side1 ?side2 H3.out).mono ?_);(case side1=>exact FmI_C HD.out HI4.out);(case side2=>exact HC0.out);rintro e w5 ⟨rfl,hd⟩;have HI5:=zA (FmI_drawn HI4.out hd);have HY5:=zA (R_drawn5 HY.out hd);clear hd) | (go_at_call 27;refine (IH k1 (by have:=HK.out;omega) yo M2 (wrap64 (m - 1)) L2 L3 Ay cy w5 H4.out (FmI_word HI5.out (kI HY5.out (FmI_size HI.out)))).mono ?_;rintro e w6 ⟨rfl,hf6⟩;have HI6:=zA (FmI_ext HI5.out hf6);clear hf6))
      go_roundg k1
      case measure=>have:=HK.out;omega
      case rel=>exact ⟨L3,wrap64 (a + 1),rfl,HN,⟨by have:=HK.out;omega⟩,HI6⟩
     rw [if_neg q4] at H
     cases H
   rw [if_neg q3] at H
   have q3b:decide (a < (D.length:Int)) = false:=decide_eq_false q3
   obtain rfl:=Option.some.inj H
   go_wp2
   go_ret
   exact ⟨rfl,HI.out⟩
theorem ties_same (n:Int) (A:Option Addr) (m c:Nat) (w:World):Calls Tryz.prog 18 #[.agg #[.int .i64 n,.slice A m c]] w fun e w' => e = .returned (.slice A m c) ∧ Below w.heap.size w w' := by
 have hu:=Tryz.underlying26
 have HB:=zA (zB (kW w.heap.size w) (.cells #[.int .i64 n,.slice A m c] 26))
 go_enter Tryz.func18,Tryz.ntmps18
 go_wp2
 go_ret
 exact ⟨rfl,HB.out⟩
set_option maxHeartbeats 8000000 in
set_option maxRecDepth 100000 in
theorem impl_TracesOfLength.calls (k : Nat) (a0_0 : Int) (A0_1 : Option Addr) (c0_1 : Nat) (l0_1 : List Int) (a1 : Int) (r1 : List (List Int)) (r2 : Int) (w : World) (hr0_1 : Kd.C (Kd.int .i64) w A0_1 l0_1.length l0_1) (hc0_1 : l0_1.length ≤ c0_1) (hT : TabW w) (h : impl_TracesOfLength.f k a0_0 l0_1 a1 = some (r1, r2)) :
  Calls Tryz.prog 13 #[.agg #[.int .i64 a0_0,.slice A0_1 l0_1.length c0_1],.int .i64 a1] w fun e w' => ∃ v0_:Value,e = .returned (.tuple #[v0_,.int .i64 r2]) ∧ Kd.S (Kd.slice 2 (Kd.int .i64)) 24 w' w.heap.size (fun _=>True) v0_ r1 ∧ Below w.heap.size w w' := by
 obtain ⟨⟨m,code⟩,h1,h⟩:=Option.bind_eq_some_iff.1 h
 have H1:=zA h1
 have HR:=zA hr0_1
 have HC:=zA hc0_1
 have HT:=zA hT
 clear h1 hr0_1 hc0_1 hT
 have hu:=Tryz.underlying26
 simp only [] at h
 by_cases q1:code = 0
 ·rw [if_pos q1] at h
  subst q1
  by_cases q2:m > 1000
  ·rw [if_pos q2] at h
   have q2b:decide (m > 1000) = true:=decide_eq_true q2
   have q2c:decide (1000 < m) = true:=decide_eq_true q2
   simp only [Option.some.injEq,Prod.mk.injEq] at h
   obtain ⟨rfl,rfl⟩:=h
   go_enter Tryz.func13,Tryz.ntmps13
   go_wp2_with (first | (refine zBE 2 #[.int .i64 a0_0,.slice A0_1 l0_1.length c0_1] 26 ?_;intro gb hg w1 hbox hb;have BK:=zA hbox;have HB:=zA hb;clear hb hbox hg;obtain ⟨hcz0,hcz1,_,_⟩:=zB3 BK.out) | (refine zO (some 12) Tryz.func16 #[.agg #[.int .i64 a0_0,.slice A0_1 l0_1.length c0_1],.int .i64 a1] ?_;(with_reducible refine (impl_checkCount.calls k a0_0 _ _ l0_1 a1 _ _ _ ?side1 ?side2 ?side3 H1.out).mono ?_);(case side1=>exact kO HR.out HB.out);(case side2=>exact HC.out);(case side3=>exact TabW.below HT.out HB.out);rintro e w2 ⟨rfl,hb⟩;refine ⟨_,rfl,?_⟩;have HB2:=zA (Below.grown HB.out (grown_of_below hb none) HB.out.size (fun j hj=>by cases hj));have BK2:=zA ((hb.block gb (jI BK.out)).trans BK.out);clear hb;replace hcz0:=(zB3 BK2.out).1;replace hcz1:=(zB3 BK2.out).2.1))
   go_ret2
   exact ⟨_,rfl,Kd.S_nil _ _ _ _ _,HB2.out⟩
  rw [if_neg q2] at h
  have q2b:decide (m > 1000) = false:=decide_eq_false q2
  have q2c:decide (1000 < m) = false:=decide_eq_false q2
  obtain ⟨L,h2,h⟩:=Option.bind_eq_some_iff.1 h
  simp only [Option.some.injEq,Prod.mk.injEq] at h
  obtain ⟨rfl,rfl⟩:=h
  have H2:=zA h2
  clear h2
  go_enter Tryz.func13,Tryz.ntmps13
  go_wp2_with (first | (refine zBE 2 #[.int .i64 a0_0,.slice A0_1 l0_1.length c0_1] 26 ?_;intro gb hg w1 hbox hb;have BK:=zA hbox;have HB:=zA hb;clear hb hbox hg;obtain ⟨hcz0,hcz1,_,_⟩:=zB3 BK.out) | (refine zO (some 12) Tryz.func16 #[.agg #[.int .i64 a0_0,.slice A0_1 l0_1.length c0_1],.int .i64 a1] ?_;(with_reducible refine (impl_checkCount.calls k a0_0 _ _ l0_1 a1 _ _ _ ?side1 ?side2 ?side3 H1.out).mono ?_);(case side1=>exact kO HR.out HB.out);(case side2=>exact HC.out);(case side3=>exact TabW.below HT.out HB.out);rintro e w2 ⟨rfl,hb⟩;refine ⟨_,rfl,?_⟩;have HB2:=zA (Below.grown HB.out (grown_of_below hb none) HB.out.size (fun j hj=>by cases hj));have BK2:=zA ((hb.block gb (jI BK.out)).trans BK.out);clear hb;replace hcz0:=(zB3 BK2.out).1;replace hcz1:=(zB3 BK2.out).2.1) | ((with_reducible refine kS (N:=20) rfl ?_);refine Kd.S_lits (Kd.slice 2 (Kd.int .i64)) _ 24 ?hg (N:=20) ?hd (xs:=([]:List (List Int))) (inner:=[]) (ok:=fun _=>True) (fun _ _=>False) ?hr (by rfl) ?hp (fun _ _ _ h_=>h_.elim) (fun _ _ h_=>h_.elim) trivial (kW _ _) (Nat.le_refl _) (by simp) ?_;(case hd=>rfl);(case hg=>rfl);(case hr=>first | (go_simp;done) | (go_simp;rfl));(case hp=>exact fun j_ x_ hx_=>by simp at hx_);intro v20 w3 ho hb hg_ hnew_;obtain ⟨A20,c20,e20⟩:=Kd.S_slice ho;simp only [List.length_nil] at e20;subst e20;have HS3:=zA (Kd.S_lower ho HB2.out.size);have HB3:=zA (Below.grown HB2.out (grown_of_below hb none) HB2.out.size (fun j hj=>by cases hj));have BK3:=zA ((hb.block gb (jI BK2.out)).trans BK2.out);clear hg_ hnew_ ho hb) | (refine zBE 8 #[.slice none 0 0] 37 ?_;intro g8 hg w4 hbox hb;have HGE:=zA (show w.heap.size ≤ g8 from hg ▸ HB3.out.size);have HNE:=zA (show gb ≠ g8 from hg ▸ Nat.ne_of_lt (jI BK3.out));have HX:=zA hbox;have HS4:=zA (Kd.S_below HS3.out hb);have HB4:=zA (Below.grown HB3.out (grown_of_below hb none) HB3.out.size (fun j hj=>by cases hj));have BK4:=zA ((hb.block gb (jI BK3.out)).trans BK3.out);clear hb hbox hg;have hcz8:=kV HX.out 0;have hfz8:=jH HX.out 0) | (refine store_event (t:=37) (p:=8) (v:=?vo_w5) (w1:=w4.setCell ⟨g8,0,none⟩ (.slice A20 0 c20)) ?hg ?ho ?hn ?hr ?_;(case ho=>rfl);(case hg=>rfl);(case hn=>rfl);(case hr=>first | (go_simp;done) | (go_simp;rfl));intro w5 hw;have HI:=zA (show FmI w w5 g8 (.slice none 0 0) [] w5 [] from ⟨A20,c20,by rw [hw];have:=blk_set HX.out 0 (.slice A20 0 c20);simpa using this,by rw [hw];exact Kd.S_set HS4.out HX.out (by decide) 0 _,by rw [hw];exact zE HB4.out HGE.out,jO _ _ _ _ _,keep_ints_refl _ _,HGE.out⟩);have BK5:=zA (show w5.heap[gb]? = some (.cells #[.int .i64 a0_0,.slice A0_1 l0_1.length c0_1] 26 (0,0)) from by rw [hw];exact (Below.heap_setCell w4 ⟨g8,0,none⟩ _ gb HNE.out).trans BK4.out);clear hw hcz8 hfz8;replace hcz0:=(zB3 BK5.out).1;replace hcz1:=(zB3 BK5.out).2.1) | (refine zO (some 22) Tryz.func18 #[.agg #[.int .i64 a0_0,.slice A0_1 l0_1.length c0_1]] ?_;refine (ties_same a0_0 A0_1 l0_1.length c0_1 _).mono ?_;rintro e w6 ⟨rfl,hb⟩;refine ⟨_,rfl,?_⟩;have HI5:=zA (FmI_below HI.out hb);clear hb) | (refine zO (some 25) Tryz.func27 #[.slice A0_1 l0_1.length c0_1,.slice none 0 0,.int .i64 0,.int .i64 a1,.func (.func 28) #[] #[.pointer (some ⟨g8,0,none⟩)]] ?_;refine (forms_calls w g8 HGE.out A0_1 c0_1 l0_1 HR.out HC.out k [] 0 a1 [] L none 0 _ H2.out (FmI_word HI5.out (jO _ _ _ _ _))).mono ?_;rintro e w7 ⟨rfl,hf6⟩;refine ⟨_,rfl,?_⟩;obtain ⟨A6,c6,hbx,hs6,hb6,_,_,_⟩:=hf6;have HF:=zA (show Kd.S (Kd.slice 2 (Kd.int .i64)) 24 w7 w.heap.size (fun _=>True) (.slice A6 L.length c6) L ∧ Below w.heap.size w w7 from ⟨hs6,hb6⟩);have hcz8:w7.cell? ⟨g8,0,none⟩ = some (.slice A6 L.length c6):=(kV hbx 0).trans rfl;clear hbx hs6 hb6 hcz0 hcz1))
  go_ret2
  exact ⟨_,rfl,HF.out.1,HF.out.2⟩
 rw [if_neg q1] at h
 have q1b:decide (code = 0) = false:=decide_eq_false q1
 have q1c:decide (code ≠ 0) = true:=decide_eq_true q1
 simp only [Option.some.injEq,Prod.mk.injEq] at h
 obtain ⟨rfl,rfl⟩:=h
 go_enter Tryz.func13,Tryz.ntmps13
 go_wp2_with (first | (refine zBE 2 #[.int .i64 a0_0,.slice A0_1 l0_1.length c0_1] 26 ?_;intro gb hg w1 hbox hb;have BK:=zA hbox;have HB:=zA hb;clear hb hbox hg;obtain ⟨hcz0,hcz1,_,_⟩:=zB3 BK.out) | (refine zO (some 12) Tryz.func16 #[.agg #[.int .i64 a0_0,.slice A0_1 l0_1.length c0_1],.int .i64 a1] ?_;(with_reducible refine (impl_checkCount.calls k a0_0 _ _ l0_1 a1 _ _ _ ?side1 ?side2 ?side3 H1.out).mono ?_);(case side1=>exact kO HR.out HB.out);(case side2=>exact HC.out);(case side3=>exact TabW.below HT.out HB.out);rintro e w2 ⟨rfl,hb⟩;refine ⟨_,rfl,?_⟩;have HB2:=zA (Below.grown HB.out (grown_of_below hb none) HB.out.size (fun j hj=>by cases hj));have BK2:=zA ((hb.block gb (jI BK.out)).trans BK.out);clear hb;replace hcz0:=(zB3 BK2.out).1;replace hcz1:=(zB3 BK2.out).2.1))
 go_ret2
 exact ⟨_,rfl,Kd.S_nil _ _ _ _ _,HB2.out⟩
def impl_isWord.f (a0_0:Int) (l0_1:List Int) (l1:List Int):Option (Bool):=if (l1.length:Int) ≤ 24 then ((impl_allIn.f l1 0 (wrap64 (a0_0 - 1))).bind fun t623=>(some t623)) else (some false)
set_option maxHeartbeats 8000000 in
set_option maxRecDepth 100000 in
theorem impl_isWord.calls (a0_0 : Int) (A0_1 : Option Addr) (c0_1 : Nat) (l0_1 : List Int) (A1 : Option Addr) (c1 : Nat) (l1 : List Int) (r : Bool) (w : World) (hr0_1 : Kd.C (Kd.int .i64) w A0_1 l0_1.length l0_1) (hc0_1 : l0_1.length ≤ c0_1) (hr1 : Kd.C (Kd.int .i64) w A1 l1.length l1) (hc1 : l1.length ≤ c1) (h : impl_isWord.f a0_0 l0_1 l1 = some r) :
  Calls Tryz.prog 59 #[.agg #[.int .i64 a0_0,.slice A0_1 l0_1.length c0_1],.slice A1 l1.length c1] w fun e w' => e = .returned (.bool r) ∧ Below w.heap.size w w' := by
 have hu26:=Tryz.underlying26
 have HR0_1:=zA hr0_1
 have HC0_1:=zA hc0_1
 clear hr0_1 hc0_1
 have HR1:=zA hr1
 have HC1:=zA hc1
 clear hr1 hc1
 have HB:=zA (kW w.heap.size w)
 have H:=h
 unfold impl_isWord.f at H
 clear h
 by_cases c3:(l1.length:Int) ≤ 24
 ·rw [if_pos c3] at H
  have c3b0:decide ((l1.length:Int) ≤ 24) = true:=decide_eq_true c3
  have c3b1:decide (l1.length ≤ 24) = true:=decide_eq_true (by omega)
  clear c3
  obtain ⟨t623,A4,H⟩:=zb H
  try dsimp only at H
  obtain rfl:=Option.some.inj H
  go_enter Tryz.func59,Tryz.ntmps59
  go_wp2_with (first | (refine zBE 2 #[.int .i64 a0_0,.slice A0_1 l0_1.length c0_1] 26 ?_;intro gb622 hg w5 hbox hb;have BK622:=zA (hbox);have GW622:=zA (zBH hg HB.out);have GE622:=zA (zBH hg HB.out);replace HB:=zA (kQ (zQ HB.out) hb);clear hb hbox hg;obtain ⟨hcz6_0,hcz6_1,hfz6_0,hfz6_1⟩:=zB3 BK622.out) | (go_at_call 74;(with_reducible refine (impl_allIn.calls _ _ l1 0 (wrap64 (a0_0 - 1)) t623 _ ?side1 ?side2 A4.out).mono ?_);(case side1=>exact zS (kO HR1.out HB.out));(case side2=>exact HC1.out);rintro e w7 ⟨rfl,hb⟩;replace BK622:=zA (zB1 BK622.out hb);replace HB:=zA (kQ (zT HB.out GE622.out) hb);(try clear hb)))
  go_ret
  exact ⟨zr,zT HB.out GE622.out⟩
 rw [if_neg c3] at H
 have c3b0:decide ((l1.length:Int) ≤ 24) = false:=decide_eq_false c3
 have c3b1:decide (l1.length ≤ 24) = false:=decide_eq_false (by omega)
 clear c3
 obtain rfl:=Option.some.inj H
 go_enter Tryz.func59,Tryz.ntmps59
 go_wp2_with (first | (refine zBE 2 #[.int .i64 a0_0,.slice A0_1 l0_1.length c0_1] 26 ?_;intro gb622 hg w8 hbox hb;have BK622:=zA (hbox);have GW622:=zA (zBH hg HB.out);have GE622:=zA (zBH hg HB.out);replace HB:=zA (kQ (zQ HB.out) hb);clear hb hbox hg))
 go_ret
 exact ⟨zr,zT HB.out GE622.out⟩
def wordB (n:Int) (w:List Int):Bool:=decide (w.length ≤ 24) && w.all fun x=>decide (0 ≤ x ∧ x ≤ wrap64 (n - 1))
def impl_checkWords.f (k:Nat) (a0_0:Int) (l0_1:List Int) (l1:List (List Int)):Option Int :=
 (impl_IsAlphabet.f k a0_0 l0_1).bind fun t=>some (if t = true then (if l1.all (wordB a0_0) = true then 0 else 2) else 1)
theorem isWord_some (n:Int) (D w:List Int):impl_isWord.f n D w = some (wordB n w):=by
 unfold impl_isWord.f wordB
 by_cases h:w.length ≤ 24
 ·rw [if_pos (by omega)]
  simp [h,impl_allIn.f]
 rw [if_neg (by omega)]
 simp [h]
theorem checkWords_pred (n : Int) (A : Option Addr) (c : Nat) (D : List Int) (B : Nat) (w : World) (hB : B < w.heap.size) (hD : (Kd.int .i64).C w A D.length D) (hc : D.length ≤ c)
  (h0:w.cell? ⟨B,0,none⟩ = some (.int .i64 n)) (h1:w.cell? ⟨B,1,none⟩ = some (.slice A D.length c)) :
  PredL 58 #[.pointer (some ⟨B,0,none⟩)] (fun x=>!wordB n x) w:=fun W A2 c2 x hb hx hcx=>by
 have k0:W.cell? ⟨B,0,none⟩ = some (.int .i64 n):=(hb.cell (p:=⟨B,0,none⟩) hB).trans h0
 have k1:W.cell? ⟨B,1,none⟩ = some (.slice A D.length c):=(hb.cell (p:=⟨B,1,none⟩) hB).trans h1
 have hcall:=impl_isWord.calls n A c D A2 c2 x (wordB n x) W (kO hD hb) hc hx hcx (isWord_some n D x)
 replace hcall:=zA hcall
 clear h0 h1 hb hx hcx hD hc
 show Calls Tryz.prog 58 #[.slice A2 x.length c2,.pointer (some ⟨B,0,none⟩)] W fun e W' => e = .returned (.bool (!wordB n x)) ∧ Below W.heap.size W W'
 generalize wordB n x = b at hcall ⊢
 have hu:=Tryz.underlying26
 go_enter Tryz.func58,Tryz.ntmps58
 go_wp2_with fail
 refine hcall.out.mono ?_
 rintro e w' ⟨rfl,hb⟩
 replace hb:=zA hb
 clear hcall
 go_wp2
 go_ret
 exact ⟨rfl,hb.out⟩
theorem impl_checkWords.calls (k : Nat) (a0_0 : Int) (A0_1 : Option Addr) (c0_1 : Nat) (l0_1 : List Int) (A1 : Option Addr) (c1 : Nat) (l1 : List (List Int)) (r : Int) (w : World) (hr0_1 : Kd.C (Kd.int .i64) w A0_1 l0_1.length l0_1) (hc0_1 : l0_1.length ≤ c0_1)
  (hr1:Kd.C (Kd.slice 24 (Kd.int .i64)) w A1 l1.length l1) (hc1:l1.length ≤ c1) (hT:TabW w) (h:impl_checkWords.f k a0_0 l0_1 l1 = some r) :
  Calls Tryz.prog 30 #[.agg #[.int .i64 a0_0,.slice A0_1 l0_1.length c0_1],.slice A1 l1.length c1] w fun e w' => e = .returned (.int .i64 r) ∧ Below w.heap.size w w' := by
 obtain ⟨t,ht,hr⟩:=Option.bind_eq_some_iff.mp h
 clear h
 have hW:Below w.heap.size w (w.alloc (.cells #[.int .i64 a0_0,.slice A0_1 l0_1.length c0_1] 26)):=zB (kW _ w) _
 have hal:=zA (impl_IsAlphabet.calls k a0_0 A0_1 c0_1 l0_1 t (w.alloc (.cells #[.int .i64 a0_0,.slice A0_1 l0_1.length c0_1] 26)) (kO hr0_1 hW) hc0_1 (hT.below hW) ht)
 have eg:∀ args w,(callFunc 58 args).run Tryz.prog w = .ok (.enter 58 args) w:=enters_fn Tryz.func58 (by kernel_rfl) rfl
 have hcon:=zA (fun (W:World) (hb:Below (w.alloc (.cells #[.int .i64 a0_0,.slice A0_1 l0_1.length c0_1] 26)).heap.size (w.alloc (.cells #[.int .i64 a0_0,.slice A0_1 l0_1.length c0_1] 26)) W) =>
  containsFuncL_any A1 c1 l1 58 #[.pointer (some ⟨w.heap.size,0,none⟩)] (fun x=>!wordB a0_0 x) W eg
  (checkWords_pred a0_0 A0_1 c0_1 l0_1 w.heap.size W (Nat.lt_of_lt_of_le (by simp) hb.size) (kO (kO hr0_1 hW) hb) hc0_1 ((hb.cell (p:=⟨w.heap.size,0,none⟩) (by simp)).trans (by simp)) ((hb.cell (p:=⟨w.heap.size,1,none⟩) (by simp)).trans (by simp))) (kO (kO hr1 hW) hb))
 replace hW:=zA hW
 clear ht eg hr0_1 hr1 hc1 hc0_1 hT
 have hany:(l1.any fun x=>!wordB a0_0 x) = !(l1.all (wordB a0_0)):=by rw [List.all_eq_not_any_not];simp
 rw [hany] at hcon
 clear hany
 generalize l1.all (wordB a0_0) = b at hcon hr
 have hu:=Tryz.underlying26
 cases t with
 | false =>
  rw [if_neg (by decide)] at hr
  obtain rfl:=Option.some.inj hr
  clear hr
  go_enter Tryz.func30,Tryz.ntmps30
  go_wp2_with fail
  refine hal.out.mono ?_
  rintro e w' ⟨rfl,hb⟩
  replace hb:=zA hb
  clear hal hcon
  go_wp2
  go_ret
  exact ⟨rfl,kQ hW.out hb.out⟩
 | true =>
  rw [if_pos rfl] at hr
  cases b with
  | false =>
   rw [if_neg (by decide)] at hr
   obtain rfl:=Option.some.inj hr
   clear hr
   go_enter Tryz.func30,Tryz.ntmps30
   go_wp2_with fail
   refine hal.out.mono ?_
   rintro e w' ⟨rfl,hb⟩
   replace hb:=zA hb
   clear hal
   go_wp2_with fail
   refine (hcon.out _ hb.out).mono ?_
   rintro e w'' ⟨rfl,hb2⟩
   replace hb2:=zA hb2
   clear hcon
   go_wp2
   go_ret
   exact ⟨rfl,kQ (kQ hW.out hb.out) hb2.out⟩
  | true =>
   rw [if_pos rfl] at hr
   obtain rfl:=Option.some.inj hr
   clear hr
   go_enter Tryz.func30,Tryz.ntmps30
   go_wp2_with fail
   refine hal.out.mono ?_
   rintro e w' ⟨rfl,hb⟩
   replace hb:=zA hb
   clear hal
   go_wp2_with fail
   refine (hcon.out _ hb.out).mono ?_
   rintro e w'' ⟨rfl,hb2⟩
   replace hb2:=zA hb2
   clear hcon
   go_wp2
   go_ret
   exact ⟨rfl,kQ (kQ hW.out hb.out) hb2.out⟩
end Go.Proofs.YtemdfjdmokbcoaaGreatDoor.PAll
