import Derived.Test.YtjdekliancabgaaDoorPAllx0
import Derived.Test.YtjdekliancabgaaDoorPAllx1
import Derived.Test.YtjdekliancabgaaDoorPAllx2
import Derived.Test.YtjdekliancabgaaDoorPAllx3
import Derived.Test.YtjdekliancabgaaDoorPAllx6
import Derived.Test.YtjdekliancabgaaDoorPAllx11
import Derived.Test.YtjdekliancabgaaDoorPAllx12
namespace Go.Proofs.YtjdekliancabgaaDoor.PAll
open Go.RowKit Go.Proofs.YtjdekliancabgaaDoor.T Go.Proofs.YtjdekliancabgaaDoorW.PrintWords Go.Proofs.YtjdekliancabgaaDoorW.PrintLast Go.Proofs.YtjdekliancabgaaDoorW.PrintMore
attribute [local go_sem] max2_int min2_int max_two min_two max_three min_three max_four min_four   -- for this text's walks alone
set_option linter.unusedVariables false
set_option linter.unusedSimpArgs false
def spec_l03First.l0:Nat → List Int → Int → Int → Int → List Int → Option (Int)
 | 0,_,_,_,_,_=>none
 | k + 1,x1,x2,x7,x774000,x774001=>if x7 < (x1.length:Int) then (if 0 ≤ x7 then (if (rd x1 x7) = x2 then (some x7) else ((spec_l02Dep.f x774000 x774001 (rd x1 x7) x2).bind fun t776=>(if t776 = true then (some (-1)) else (spec_l03First.l0 k x1 x2 (wrap64 (x7 + 1)) x774000 x774001)))) else (none)) else (some (-1))
def spec_l03First.f (k:Nat) (a0_0:Int) (l0_1:List Int) (l1:List Int) (a2:Int):Option (Int):=spec_l03First.l0 k l1 a2 0 a0_0 l0_1
set_option maxHeartbeats 8000000 in
set_option maxRecDepth 100000 in
theorem spec_l03First.calls (k : Nat) (a0_0 : Int) (A0_1 : Option Addr) (c0_1 : Nat) (l0_1 : List Int) (A1 : Option Addr) (c1 : Nat) (l1 : List Int) (a2 : Int) (r : Int) (w : World) (hr0_1 : Kd.C (Kd.int .i64) w A0_1 l0_1.length l0_1) (hc0_1 : l0_1.length ≤ c0_1) (hr1 : Kd.C (Kd.int .i64) w A1 l1.length l1) (hc1 : l1.length ≤ c1) (h : spec_l03First.f k a0_0 l0_1 l1 a2 = some r) :
  Calls Tryd.prog 83 #[.agg #[.int .i64 a0_0,.slice A0_1 l0_1.length c0_1],.slice A1 l1.length c1,.int .i64 a2] w fun e w' => e = .returned (.int .i64 r) ∧ Below w.heap.size w w' := by
 have hu26:=Tryd.underlying26
 have HR0_1:=zA hr0_1
 have HC0_1:=zA hc0_1
 clear hr0_1 hc0_1
 have HR1:=zA hr1
 have HC1:=zA hc1
 clear hr1 hc1
 have HB:=zA (kW w.heap.size w)
 have H:=h
 unfold spec_l03First.f at H
 clear h
 have H' := zA H
 clear H
 go_enter Tryd.func83,Tryd.ntmps83
 go_wp2_with (first | (refine zBE 3 #[.int .i64 a0_0,.slice A0_1 l0_1.length c0_1] 26 ?_;intro gb773 hg w4 hbox hb;have BK773:=zA (hbox);have GW773:=zA (zBH hg HB.out);have GE773:=zA (zBH hg HB.out);replace HB:=zA (kQ (zQ HB.out) hb);clear hb hbox hg))
 go_loopg [7] k (fun kq v7 w' => ∃ (x7_1:Int),v7 = .int .i64 x7_1 ∧ Aside0 (spec_l03First.l0 kq l1 a2 x7_1 a0_0 l0_1 = some r) ∧ Aside0 (kq ≤ k) ∧ Aside0 (w'.heap[gb773]? = some (.cells #[.int .i64 a0_0,(.slice A0_1 l0_1.length c0_1)] 26 (0,0))) ∧ Aside0 (Below w.heap.size w w'))
 case atStart=>exact ⟨(0),zs,H', ⟨Nat.le_refl _⟩,⟨zR BK773.out⟩,⟨zT HB.out GE773.out⟩⟩
 case round =>
  clear H'
  try clear c1
  obtain ⟨x7_1,rfl,HA,HK1,BK773,HB⟩:=hrel
  cases gk with
  | zero=>exact absurd HA.out (by simp [spec_l03First.l0])
  | succ k1 =>
   have H:=HA.out
   clear HA
   simp only [spec_l03First.l0] at H
   by_cases c5:x7_1 < (l1.length:Int)
   ·rw [if_pos c5] at H
    have c5b0:decide (x7_1 < (l1.length:Int)) = true:=decide_eq_true c5
    clear c5
    by_cases c6:0 ≤ x7_1
    ·rw [if_pos c6] at H
     have c6b0:decide (0 ≤ x7_1) = true:=decide_eq_true c6
     clear c6
     by_cases c7:(rd l1 x7_1) = a2
     ·rw [if_pos c7] at H
      obtain ⟨c7b0,c7b1⟩:=zT1 c7
      clear c7
      obtain rfl:=Option.some.inj H
      have p774:0 ≤ (x7_1:Int):=zd
      have q774:x7_1 < (l1.length:Int):=zd
      obtain ⟨ad774,e774,hx774_0⟩:=Kd.at_int HR1.out x7_1 p774 q774
      cases e774
      replace hx774_0:=(HB.out.cell (jG w _ hx774_0)).trans hx774_0
      replace p774:=eq_true p774
      replace q774:=eq_true q774
      go_wp2
      go_ret
      exact ⟨zr,zT HB.out GE773.out⟩
     rw [if_neg c7] at H
     obtain ⟨c7b0,c7b1⟩:=zT2 c7
     obtain ⟨t776,A8,H⟩:=zb H
     try dsimp only at H
     by_cases c9:t776 = true
     ·subst c9
      rw [if_pos rfl] at H
      obtain rfl:=Option.some.inj H
      have p774:0 ≤ (x7_1:Int):=zd
      have q774:x7_1 < (l1.length:Int):=zd
      obtain ⟨ad774,e774,hx774_0⟩:=Kd.at_int HR1.out x7_1 p774 q774
      cases e774
      replace hx774_0:=(HB.out.cell (jG w _ hx774_0)).trans hx774_0
      replace p774:=eq_true p774
      replace q774:=eq_true q774
      try go_wp2
      replace BK773:=zA (zK BK773.out)
      replace HB:=zA (zD HB.out)
      have p775:0 ≤ (x7_1:Int):=zd
      have q775:x7_1 < (l1.length:Int):=zd
      obtain ⟨ad775,e775,hx775_0⟩:=Kd.at_int HR1.out x7_1 p775 q775
      have hw775_0:=hx775_0
      obtain rfl:ad774 = ad775:=(by injection e775)
      replace hx775_0:=(HB.out.cell (jG w _ hx775_0)).trans hx775_0
      replace p775:=eq_true p775
      replace q775:=eq_true q775
      refine start_ (n:=7) (S:=fun w' => w'.cell? ⟨gb773,0,none⟩ = some (.int .i64 a0_0) ∧ w'.cell? ⟨gb773,1,none⟩ = some (.slice A0_1 l0_1.length c0_1) ∧ w'.cell? (ad774.add (x7_1).toNat) = some (.int .i64 (rd l1 x7_1))) (ds:=[]) #[false,false,false,false,false,false,false] (by kernel_rfl) rfl rfl ⟨(kV BK773.out 0).trans rfl,(kV BK773.out 1).trans rfl,(pw_cell_below HB.out hw775_0)⟩ (fun hHeld=>?_)
      generalize wr.drew = w10 at BK773 HB hx775_0 hHeld ⊢
      refine pure_ (i:=1) (N:=some 22) (v:=?_) (a' := ?_) #[false,true,false,false,false,false,false] rfl rfl (by kernel_rfl) (fun _ _ _ h=>h) (Or.inl ⟨by rfl,?_⟩) ?_ ?_
      rotate_left
      ·intro w'
       go_simp
       with_reducible rfl
      rotate_left
      ·simp only [Act.put,zL,zM,zN,i64_w,i32_w]
       rfl
      refine pure_ (i:=2) (N:=some 23) (v:=?_) (a' := ?_) #[false,true,true,false,false,false,false] rfl rfl (by kernel_rfl) (fun _ _ _ h=>h) (Or.inl ⟨by rfl,?_⟩) ?_ ?_
      rotate_left
      ·intro w'
       go_simp
       with_reducible rfl
      rotate_left
      ·simp only [Act.put,zL,zM,zN,i64_w,i32_w]
       rfl
      refine pure_ (i:=3) (N:=some 24) (v:=?_) (a' := ?_) #[false,true,true,true,false,false,false] rfl rfl (by kernel_rfl) (fun _ _ _ h=>h) (Or.inl ⟨by rfl,?_⟩) ?_ ?_
      rotate_left
      ·intro w'
       go_simp
       with_reducible rfl
      rotate_left
      ·simp only [Act.put,zL,zM,zN,i64_w,i32_w]
       rfl
      refine pure_ (i:=5) (N:=some 26) (v:=?_) (a' := ?_) #[false,true,true,true,false,true,false] rfl rfl (by kernel_rfl) (fun _ _ _ h=>h) (Or.inl ⟨by rfl,?_⟩) ?_ ?_
      rotate_left
      ·intro w'
       go_simp
       with_reducible rfl
      rotate_left
      ·simp only [Act.put,zL,zM,zN,i64_w,i32_w]
       rfl
      refine take_ (i:=0) (N:=some 21) (v:=?_) (a' := ?_) #[true,true,true,true,false,true,false] rfl rfl (by kernel_rfl) (fun _ _ _ h=>h) (Or.inl ⟨by rfl,?_⟩) hHeld ?_ ?_
      rotate_left
      ·rintro w' ⟨s0,s1,s2⟩
       go_simp
       with_reducible rfl
      rotate_left
      ·simp only [Act.put,zL,zM,zN,i64_w,i32_w]
       rfl
      refine take_ (i:=4) (N:=some 25) (v:=?_) (a' := ?_) #[true,true,true,true,true,true,false] rfl rfl (by kernel_rfl) (fun _ _ _ h=>h) (Or.inl ⟨by rfl,?_⟩) hHeld ?_ ?_
      rotate_left
      ·rintro w' ⟨s0,s1,s2⟩
       go_simp
       with_reducible rfl
      rotate_left
      ·simp only [Act.put,zL,zM,zN,i64_w,i32_w]
       rfl
      refine one_ (i:=6) (N:=some 27) #[true,true,true,true,true,true,true] rfl rfl (by kernel_rfl) (by decide) (fun K hK=>?_)
      refine goes_ Tryd.func48 (by kernel_rfl) rfl #[.agg #[.int .i64 a0_0,.slice A0_1 l0_1.length c0_1],.int .i64 (rd l1 x7_1),.int .i64 a2] (by rfl) rfl rfl zg ?_
      with_reducible refine (spec_l02Dep.calls a0_0 _ _ l0_1 (rd l1 x7_1) a2 true _ ?side1 ?side2 A8.out).mono ?_
      (case side1=>exact zS (kO HR0_1.out HB.out))
      (case side2=>exact HC0_1.out)
      rintro e w11 ⟨rfl,hb⟩
      refine ⟨_,rfl,?_⟩
      replace BK773:=zA (zB1 BK773.out hb)
      replace HB:=zA (kQ (zT HB.out GE773.out) hb)
      (try clear hb)
      (try clear hb2)
      (try clear hk)
      (try clear hi)
      (try clear hgw)
      refine hK.out _ _ ⟨(kV BK773.out 0).trans rfl,(kV BK773.out 1).trans rfl,(pw_cell_below HB.out hw775_0)⟩ (fun hHeld=>?_)
      clear hK K
      refine norm_ (a' := ?_) ?_ ?_
      rotate_left
      ·show Act.put _ (some 27) _ = _
       simp only [Act.put,zL,zM,zN,i64_w,i32_w]
       rfl
      refine done_ (by kernel_rfl) ?_
      try go_wp2
      go_ret
      exact ⟨zr,zT HB.out GE773.out⟩
     replace c9:=Bool.eq_false_iff.mpr c9
     subst c9
     rw [if_neg (show ¬ (false = true) by decide)] at H
     have H' := zA H
     clear H
     have p774:0 ≤ (x7_1:Int):=zd
     have q774:x7_1 < (l1.length:Int):=zd
     obtain ⟨ad774,e774,hx774_0⟩:=Kd.at_int HR1.out x7_1 p774 q774
     cases e774
     replace hx774_0:=(HB.out.cell (jG w _ hx774_0)).trans hx774_0
     replace p774:=eq_true p774
     replace q774:=eq_true q774
     try go_wp2
     replace BK773:=zA (zK BK773.out)
     replace HB:=zA (zD HB.out)
     have p775:0 ≤ (x7_1:Int):=zd
     have q775:x7_1 < (l1.length:Int):=zd
     obtain ⟨ad775,e775,hx775_0⟩:=Kd.at_int HR1.out x7_1 p775 q775
     have hw775_0:=hx775_0
     obtain rfl:ad774 = ad775:=(by injection e775)
     replace hx775_0:=(HB.out.cell (jG w _ hx775_0)).trans hx775_0
     replace p775:=eq_true p775
     replace q775:=eq_true q775
     refine start_ (n:=7) (S:=fun w' => w'.cell? ⟨gb773,0,none⟩ = some (.int .i64 a0_0) ∧ w'.cell? ⟨gb773,1,none⟩ = some (.slice A0_1 l0_1.length c0_1) ∧ w'.cell? (ad774.add (x7_1).toNat) = some (.int .i64 (rd l1 x7_1))) (ds:=[]) #[false,false,false,false,false,false,false] (by kernel_rfl) rfl rfl ⟨(kV BK773.out 0).trans rfl,(kV BK773.out 1).trans rfl,(pw_cell_below HB.out hw775_0)⟩ (fun hHeld=>?_)
     generalize wr.drew = w12 at BK773 HB hx775_0 hHeld ⊢
     refine pure_ (i:=1) (N:=some 22) (v:=?_) (a' := ?_) #[false,true,false,false,false,false,false] rfl rfl (by kernel_rfl) (fun _ _ _ h=>h) (Or.inl ⟨by rfl,?_⟩) ?_ ?_
     rotate_left
     ·intro w'
      go_simp
      with_reducible rfl
     rotate_left
     ·simp only [Act.put,zL,zM,zN,i64_w,i32_w]
      rfl
     refine pure_ (i:=2) (N:=some 23) (v:=?_) (a' := ?_) #[false,true,true,false,false,false,false] rfl rfl (by kernel_rfl) (fun _ _ _ h=>h) (Or.inl ⟨by rfl,?_⟩) ?_ ?_
     rotate_left
     ·intro w'
      go_simp
      with_reducible rfl
     rotate_left
     ·simp only [Act.put,zL,zM,zN,i64_w,i32_w]
      rfl
     refine pure_ (i:=3) (N:=some 24) (v:=?_) (a' := ?_) #[false,true,true,true,false,false,false] rfl rfl (by kernel_rfl) (fun _ _ _ h=>h) (Or.inl ⟨by rfl,?_⟩) ?_ ?_
     rotate_left
     ·intro w'
      go_simp
      with_reducible rfl
     rotate_left
     ·simp only [Act.put,zL,zM,zN,i64_w,i32_w]
      rfl
     refine pure_ (i:=5) (N:=some 26) (v:=?_) (a' := ?_) #[false,true,true,true,false,true,false] rfl rfl (by kernel_rfl) (fun _ _ _ h=>h) (Or.inl ⟨by rfl,?_⟩) ?_ ?_
     rotate_left
     ·intro w'
      go_simp
      with_reducible rfl
     rotate_left
     ·simp only [Act.put,zL,zM,zN,i64_w,i32_w]
      rfl
     refine take_ (i:=0) (N:=some 21) (v:=?_) (a' := ?_) #[true,true,true,true,false,true,false] rfl rfl (by kernel_rfl) (fun _ _ _ h=>h) (Or.inl ⟨by rfl,?_⟩) hHeld ?_ ?_
     rotate_left
     ·rintro w' ⟨s0,s1,s2⟩
      go_simp
      with_reducible rfl
     rotate_left
     ·simp only [Act.put,zL,zM,zN,i64_w,i32_w]
      rfl
     refine take_ (i:=4) (N:=some 25) (v:=?_) (a' := ?_) #[true,true,true,true,true,true,false] rfl rfl (by kernel_rfl) (fun _ _ _ h=>h) (Or.inl ⟨by rfl,?_⟩) hHeld ?_ ?_
     rotate_left
     ·rintro w' ⟨s0,s1,s2⟩
      go_simp
      with_reducible rfl
     rotate_left
     ·simp only [Act.put,zL,zM,zN,i64_w,i32_w]
      rfl
     refine one_ (i:=6) (N:=some 27) #[true,true,true,true,true,true,true] rfl rfl (by kernel_rfl) (by decide) (fun K hK=>?_)
     refine goes_ Tryd.func48 (by kernel_rfl) rfl #[.agg #[.int .i64 a0_0,.slice A0_1 l0_1.length c0_1],.int .i64 (rd l1 x7_1),.int .i64 a2] (by rfl) rfl rfl zg ?_
     with_reducible refine (spec_l02Dep.calls a0_0 _ _ l0_1 (rd l1 x7_1) a2 false _ ?side1 ?side2 A8.out).mono ?_
     (case side1=>exact zS (kO HR0_1.out HB.out))
     (case side2=>exact HC0_1.out)
     rintro e w13 ⟨rfl,hb⟩
     refine ⟨_,rfl,?_⟩
     replace BK773:=zA (zB1 BK773.out hb)
     replace HB:=zA (kQ (zT HB.out GE773.out) hb)
     (try clear hb)
     (try clear hb2)
     (try clear hk)
     (try clear hi)
     (try clear hgw)
     refine hK.out _ _ ⟨(kV BK773.out 0).trans rfl,(kV BK773.out 1).trans rfl,(pw_cell_below HB.out hw775_0)⟩ (fun hHeld=>?_)
     clear hK K
     refine norm_ (a' := ?_) ?_ ?_
     rotate_left
     ·show Act.put _ (some 27) _ = _
      simp only [Act.put,zL,zM,zN,i64_w,i32_w]
      rfl
     refine done_ (by kernel_rfl) ?_
     try go_wp2
     go_roundg k1
     case measure=>have:=HK1.out;omega
     case rel=>exact ⟨(wrap64 (x7_1 + 1)),zs,H', ⟨by have:=HK1.out;omega⟩,⟨zR BK773.out⟩,⟨zT HB.out GE773.out⟩⟩
    rw [if_neg c6] at H
    exact absurd H (by simp)
   rw [if_neg c5] at H
   have c5b0:decide (x7_1 < (l1.length:Int)) = false:=decide_eq_false c5
   clear c5
   obtain rfl:=Option.some.inj H
   go_wp2
   go_ret
   exact ⟨zr,zT HB.out GE773.out⟩
def spec_l03Without.f (l0:List Int) (a1:Int):Option (List Int):=if 0 ≤ a1 then (if a1 ≤ (l0.length:Int) then ((spec_l01Own.f (l0.take (a1:Int).toNat)).bind fun t778=>(if 0 ≤ (wrap64 (a1 + 1)) then (if (wrap64 (a1 + 1)) ≤ (l0.length:Int) then (if t778.length + (l0.drop ((wrap64 (a1 + 1)):Int).toNat).length < 17592186044416 then (some (t778 ++ (l0.drop ((wrap64 (a1 + 1)):Int).toNat))) else (none)) else (none)) else (none))) else (none)) else (none)
def spec_l03Without.T1:Bool × List (List Nat × List Nat):=(true,[([],[]),([],[]),([0,1],[0,1]),([2],[2]),([],[]),([],[]),([5],[5]),([4,6],[4,6]),([3,7,3],[3,7]),([8,8,0,1,2,3,4,5,6,7,8],[8])])
def spec_l03Without.B1:List Nat:=[0,0,3,7,0,0,32,112,255,511]
theorem spec_l03Without.tab1:rtab .any (opsOf Tryd.f84 1) = spec_l03Without.T1:=by kernel_rfl
theorem spec_l03Without.bits1:waitsOk spec_l03Without.T1.2 spec_l03Without.B1 = true:=by kernel_rfl
set_option maxHeartbeats 8000000 in
set_option maxRecDepth 100000 in
theorem spec_l03Without.calls (A0 : Option Addr) (c0 : Nat) (l0 : List Int) (a1 : Int) (r : List Int) (w : World) (hr0 : Kd.C (Kd.int .i64) w A0 l0.length l0) (hc0 : l0.length ≤ c0) (h : spec_l03Without.f l0 a1 = some r) :
  Calls Tryd.prog 84 #[.slice A0 l0.length c0,.int .i64 a1] w fun e w' => ∃ v0_:Value,e = .returned (v0_) ∧ Kd.R (Kd.int .i64) 2 w' w.heap.size (fun _=>True) v0_ r ∧ Below w.heap.size w w' := by
 have HR0:=zA hr0
 have HC0:=zA hc0
 clear hr0 hc0
 have HB:=zA (kW w.heap.size w)
 have H:=h
 unfold spec_l03Without.f at H
 clear h
 by_cases c3:0 ≤ a1
 ·rw [if_pos c3] at H
  have c3b0:=eq_true c3
  have c3b1:decide (0 ≤ a1) = true:=decide_eq_true c3
  clear c3
  by_cases c4:a1 ≤ (l0.length:Int)
  ·rw [if_pos c4] at H
   have c4b0:=eq_true c4
   have c4b1:decide (a1 ≤ (l0.length:Int)) = true:=decide_eq_true c4
   clear c4
   obtain ⟨t778,A5,H⟩:=zb H
   try dsimp only at H
   obtain ⟨ji6,hji6⟩:∃ j_:Int,(wrap64 (a1 + 1)) = j_:=⟨_,rfl⟩
   replace H:(if 0 ≤ (ji6) then (if (ji6) ≤ (l0.length:Int) then (if t778.length + (l0.drop ((ji6):Int).toNat).length < 17592186044416 then (some (t778 ++ (l0.drop ((ji6):Int).toNat))) else (none)) else (none)) else (none)) = some r:=by first | (rw [hji6] at H;exact H) | (simp only [hji6] at H ⊢;exact H)
   (try rw [hji6] at A5)
   have hji6w:(IntKind.i64.wrap (a1 + 1)) = ji6:=(i64_w _).trans hji6
   by_cases c7:0 ≤ (ji6)
   ·rw [if_pos c7] at H
    have c7b0:=eq_true c7
    have c7b1:decide (0 ≤ (ji6)) = true:=decide_eq_true c7
    clear c7
    by_cases c8:(ji6) ≤ (l0.length:Int)
    ·rw [if_pos c8] at H
     have c8b0:=eq_true c8
     have c8b1:decide ((ji6) ≤ (l0.length:Int)) = true:=decide_eq_true c8
     clear c8
     by_cases c9:t778.length + (l0.drop ((ji6):Int).toNat).length < 17592186044416
     ·rw [if_pos c9] at H
      have LMc9:=zA c9
      clear c9
      obtain ⟨y782,hy782⟩:∃ y_:List Int,y_ = (t778 ++ (l0.drop ((ji6):Int).toNat)):=⟨_,rfl⟩
      replace H:(some y782) = some r:=zy hy782 H
      have Ny782:=zA hy782
      clear hy782
      obtain rfl:=Option.some.inj H
      go_enter Tryd.func84,Tryd.ntmps84
      try go_wp2
      replace HB:=zA (zD HB.out)
      obtain ⟨i011,hi011,_,hsz11,_⟩:=info_parts info2
      obtain ⟨hcut11,hA11,hC11⟩:=print_take_of (P:=Tryd.prog) (Value.int .i64) 0 24 2 .i64 Tryd.underlying24 hi011 hsz11 A0 c0 l0 a1 (zd) (zd) HC0.out
      have HR777:=zA (Kd.C_of_reads (h1:=fun _=>rfl) (hA11 _ (Kd.reads_of_C HR0.out)))
      have HC777:=zA hC11
      clear hA11 hC11 hi011 hsz11
      obtain ⟨i012,hi012,_,hsz12,_⟩:=info_parts info2
      obtain ⟨A12,hcut12,hA12,hC12⟩:=print_drop_of (P:=Tryd.prog) (Value.int .i64) 0 24 2 .i64 Tryd.underlying24 hi012 hsz12 A0 c0 l0 (ji6) (zd) (zd) HC0.out
      have HR781:=zA (Kd.C_of_reads (h1:=fun _=>rfl) (hA12 _ (Kd.reads_of_C HR0.out)))
      have HC781:=zA hC12
      clear hA12 hC12 hi012 hsz12
      refine start_ (n:=10) (S:=fun w' => True) (ds:=[]) #[false,false,false,false,false,false,false,false,false,false] (by kernel_rfl) rfl rfl trivial (fun hHeld=>?_);refine with_tabW spec_l03Without.tab1 spec_l03Without.bits1 (fun HT_ HW_=>?_)
      generalize w.drew = w10 at HB HR777 HR781 hHeld ⊢
      refine zp 0 (some 5) #[true,false,false,false,false,false,false,false,false,false] HT_.out ?_
      refine zp 1 (some 6) #[true,true,false,false,false,false,false,false,false,false] HT_.out ?_
      refine zp 2 (some 7) #[true,true,true,false,false,false,false,false,false,false] HT_.out ?_
      refine zp 4 (some 9) #[true,true,true,false,true,false,false,false,false,false] HT_.out ?_
      refine zp 5 (some 10) #[true,true,true,false,true,true,false,false,false,false] HT_.out ?_
      refine zp 6 (some 11) #[true,true,true,false,true,true,true,false,false,false] HT_.out ?_
      refine zp 7 (some 12) #[true,true,true,false,true,true,true,true,false,false] HT_.out ?_
      refine one_ (i:=3) (N:=some 8) #[true,true,true,true,true,true,true,true,false,false] rfl rfl (one_of HT_.out (by kernel_rfl)) (by decide) (fun K hK=>?_)
      refine goes_ Tryd.func82 (by kernel_rfl) rfl #[.slice A0 (l0.take (a1:Int).toNat).length c0] (by rfl) rfl rfl (by (try simp only [List.map_toArray,List.map_cons,List.map_nil]);first | done | (rw [show (l0.take (a1:Int).toNat).length = a1.toNat from (by rw [List.length_take];have h_:(a1:Int) ≤ (l0.length:Int):=zd;omega)] <;> rfl) | rfl | (simp only [List.length_drop,List.length_take];rfl)) ?_
      with_reducible refine (spec_l01Own.calls _ _ (l0.take (a1:Int).toNat) t778 _ ?side1 ?side2 A5.out).mono ?_
      (case side1=>exact zS (kO HR777.out HB.out))
      (case side2=>exact HC777.out)
      rintro e w13 ⟨v779,rfl,ho0,hb⟩
      refine ⟨_,rfl,?_⟩
      have HO780:=zA (kI ho0 (kP (zQ HB.out)))
      replace HB:=zA (kQ (zQ HB.out) hb)
      (try clear hb)
      (try clear hb2)
      (try clear hk)
      (try clear hi)
      (try clear hgw)
      (try clear ho0)
      refine hK.out _ _ trivial (fun hHeld=>?_)
      clear hK K
      refine norm_ (a' := ?_) ?_ ?_
      rotate_left
      ·show Act.put _ (some 8) _ = _
       simp only [Act.put,zL,zM,zN,i64_w,i32_w]
       rfl
      refine one_ (i:=8) (N:=some 13) #[true,true,true,true,true,true,true,true,true,false] rfl rfl (one_of HT_.out (by kernel_rfl)) (by decide) (fun K hK=>?_)
      refine Kd.R_append_rows_step (Kd.int .i64) (w0:=w) w.heap.size (by rfl) (.tmp 8) (.tmp 12) 24 2 (.int .i64 0) 8 rfl Tryd.underlying24 info2 rfl (by decide) (by omega) v779 t778 (l0.drop ((ji6):Int).toNat) _ _ _ (fun _=>True) (fun _=>False) rfl rfl ?aO ?aR (fun _ _ h=>h) (fun _ h=>h.elim) ?aF ?aB ?aS ?aL ?_
      (case aR=>first | (rw [← show (l0.drop ((ji6):Int).toNat).length = (l0.length - (ji6).toNat) from List.length_drop];repeat (first | exact (kO HR781.out HB.out) | (with_reducible refine Kd.C_alloc ?_ _) | (with_reducible refine Kd.C_drewN ?_ _) | (with_reducible refine Kd.C_drew ?_))) | (repeat (first | exact (kO HR781.out HB.out) | (with_reducible refine Kd.C_alloc ?_ _) | (with_reducible refine Kd.C_drewN ?_ _) | (with_reducible refine Kd.C_drew ?_))))
      (case aB=>exact (zQ HB.out))
      (case aF=>exact (fun _ _=>trivial))
      (case aO=>exact (zP HO780.out))
      (case aS=>exact (kP (zQ HB.out)))
      (case aL=>have:=LMc9.out;have hlx_:=(show (l0.drop ((ji6):Int).toNat).length = (l0.length - (ji6).toNat) from List.length_drop);omega)
      intro v783 w14 ho hb hg hat
      rw [← Ny782.out] at ho
      replace HB:=zA (hb)
      have HO784:=zA (ho)
      clear HO780 ho hb hg hat
      refine hK.out _ _ trivial (fun hHeld=>?_)
      clear hK K
      refine norm_ (a' := ?_) ?_ ?_
      rotate_left
      ·show Act.put _ (some 13) _ = _
       simp only [Act.put,zL,zM,zN,i64_w,i32_w]
       rfl
      refine zp 9 (some 4) #[true,true,true,true,true,true,true,true,true,true] HT_.out ?_
      refine done_ (done_of HT_.out (by kernel_rfl)) ?_
      try go_wp2
      go_ret
      exact ⟨_,by first | rfl | (simp [errW_none,errW_some] <;> rfl) | (simp only [← hji6];first | rfl | (simp [errW_none,errW_some] <;> rfl)) | (simp [*,errW_none,errW_some] <;> rfl),zP HO784.out,zQ HB.out⟩
     rw [if_neg c9] at H
     exact absurd H (by simp)
    rw [if_neg c8] at H
    exact absurd H (by simp)
   rw [if_neg c7] at H
   exact absurd H (by simp)
  rw [if_neg c4] at H
  exact absurd H (by simp)
 rw [if_neg c3] at H
 exact absurd H (by simp)
mutual
def spec_l03Normal.l0:Nat → List Int → List Int → Int → List Int → Option (List Int)
 | 0,_,_,_,_=>none
 | k + 1,x5,x6,x786000,x786001=>if (x6.length:Int) > 0 then (spec_l03Normal.l1 k x5 x6 0 x786000 x786001) else (some x5)
def spec_l03Normal.l1:Nat → List Int → List Int → Int → Int → List Int → Option (List Int)
 | 0,_,_,_,_,_=>none
 | k + 1,x5,x6,x7,x786000,x786001=>if x7 < x786000 then ((spec_l03First.f k x786000 x786001 x6 x7).bind fun t792=>(if t792 ≥ 0 then (if x5.length < 17592186044416 then ((spec_l03Without.f x6 t792).bind fun t796=>(spec_l03Normal.l0 k (x5 ++ [x7]) t796 x786000 x786001)) else (none)) else (spec_l03Normal.l1 k x5 x6 (wrap64 (x7 + 1)) x786000 x786001))) else (spec_l03Normal.l0 k x5 x6 x786000 x786001)
end
def spec_l03Normal.f (k:Nat) (a0_0:Int) (l0_1:List Int) (l1:List Int):Option (List Int):=(spec_l01Own.f l1).bind fun t789=>(spec_l03Normal.l0 k (([]:List Int)) t789 a0_0 l0_1)
set_option maxHeartbeats 8000000 in
set_option maxRecDepth 100000 in
theorem spec_l03Normal.calls (k : Nat) (a0_0 : Int) (A0_1 : Option Addr) (c0_1 : Nat) (l0_1 : List Int) (A1 : Option Addr) (c1 : Nat) (l1 : List Int) (r : List Int) (w : World) (hr0_1 : Kd.C (Kd.int .i64) w A0_1 l0_1.length l0_1) (hc0_1 : l0_1.length ≤ c0_1) (hr1 : Kd.C (Kd.int .i64) w A1 l1.length l1) (hc1 : l1.length ≤ c1) (h : spec_l03Normal.f k a0_0 l0_1 l1 = some r) :
  Calls Tryd.prog 63 #[.agg #[.int .i64 a0_0,.slice A0_1 l0_1.length c0_1],.slice A1 l1.length c1] w fun e w' => ∃ v0_:Value,e = .returned (v0_) ∧ Kd.R (Kd.int .i64) 2 w' w.heap.size (fun _=>True) v0_ r ∧ Below w.heap.size w w' := by
 have hu26:=Tryd.underlying26
 have HR0_1:=zA hr0_1
 have HC0_1:=zA hc0_1
 clear hr0_1 hc0_1
 have HR1:=zA hr1
 have HC1:=zA hc1
 clear hr1 hc1
 have HB:=zA (kW w.heap.size w)
 have H:=h
 unfold spec_l03Normal.f at H
 clear h
 obtain ⟨y786,hy786⟩:∃ y_:List Int,y_ = (([]:List Int)):=⟨_,rfl⟩
 replace H:((spec_l01Own.f l1).bind fun t789=>(spec_l03Normal.l0 k y786 t789 a0_0 l0_1)) = some r:=zy hy786 H
 have Ny786:=zA hy786
 clear hy786
 obtain ⟨t789,A3,H⟩:=zb H
 try dsimp only at H
 have H' := zA H
 clear H
 go_enter Tryd.func63,Tryd.ntmps63
 go_wp2_with (first | (refine zBE 2 #[.int .i64 a0_0,.slice A0_1 l0_1.length c0_1] 26 ?_;intro gb785 hg w4 hbox hb;have BK785:=zA (hbox);have GW785:=zA (zBH hg HB.out);have GE785:=zA (zBH hg HB.out);replace HB:=zA (kQ (zQ HB.out) hb);clear hb hbox hg) | ((with_reducible refine kS (N:=9) rfl ?_);refine Kd.R_lit (Kd.int .i64) _ 2 ?hg (N:=9) ?hd (xs:=([]:List Int)) (inner:=[]) (ok:=fun _=>True) (okp:=fun _=>True) ?hr ?hp (fun _ hk=>hk) trivial (kW _ _) (Nat.le_refl _) (by simp) ?_;(case hd=>rfl);(case hg=>rfl);(case hr=>first | (go_simp;done) | (go_simp;rfl));(case hp=>exact (Reps.none _ _));intro v787 w5 ho6 hb hg_ hnew_;clear hg_ hnew_;(first | rw [← Ny786.out] at ho6 | (simp only [Int.reduceToNat] at ho6;rw [← Ny786.out] at ho6));have HO788:=zA (kI ho6 (kP (zT HB.out GE785.out)));replace BK785:=zA (zB1 BK785.out hb);replace HB:=zA (kQ (zT HB.out GE785.out) hb);clear hb ho6) | (refine zO (some 11) Tryd.func82 #[.slice A1 l1.length c1] ?_;(with_reducible refine (spec_l01Own.calls _ _ l1 t789 _ ?side1 ?side2 A3.out).mono ?_);(case side1=>exact zS (kO HR1.out HB.out));(case side2=>exact HC1.out);rintro e w7 ⟨v790,rfl,ho0,hb⟩;refine ⟨_,rfl,?_⟩;have HO791:=zA (kI (kF ho0 (kH (zP HO788.out))) (kP (zT HB.out GE785.out)));replace HO788:=zA (kE (zP HO788.out) (kC ho0) hb);replace BK785:=zA (zB1 BK785.out hb);replace HB:=zA (kQ (zT HB.out GE785.out) hb);(try clear hb);(try clear ho0)))
 go_loopg [5,6] k (fun kq v5 v6 w' => ∃ (x5_1:List Int) (x6_1:List Int),Aside0 (spec_l03Normal.l0 kq x5_1 x6_1 a0_0 l0_1 = some r) ∧ Aside0 (kq ≤ k) ∧ Aside0 (Kd.R (Kd.int .i64) 2 w' w.heap.size (fun k_=>some k_ ≠ (v6:Value).ownBlock) v5 x5_1) ∧ Aside0 (Kd.R (Kd.int .i64) 2 w' w.heap.size (fun k_=>some k_ ≠ (v5:Value).ownBlock) v6 x6_1) ∧ Aside0 (w'.heap[gb785]? = some (.cells #[.int .i64 a0_0,(.slice A0_1 l0_1.length c0_1)] 26 (0,0))) ∧ Aside0 (Below w.heap.size w w'))
 case atStart=>exact ⟨(y786),(t789),H', ⟨Nat.le_refl _⟩,⟨zPM HO788.out (fun _ hk=>hk.2)⟩,⟨zPM HO791.out (fun _ hk=>hk.2)⟩,⟨zR BK785.out⟩,⟨zT HB.out GE785.out⟩⟩
 case round =>
  clear H'
  try clear c1
  try clear c6
  obtain ⟨x5_1,x6_1,HA,HK1,HO_5,HO_6,BK785,HB⟩:=hrel
  cases gk with
  | zero=>exact absurd HA.out (by simp [spec_l03Normal.l0])
  | succ k1 =>
   have H:=HA.out
   clear HA
   simp only [spec_l03Normal.l0] at H
   by_cases c8:(x6_1.length:Int) > 0
   ·rw [if_pos c8] at H
    have c8b0:decide (0 < (x6_1.length:Int)) = true:=decide_eq_true c8
    have c8b1:decide (0 < x6_1.length) = true:=decide_eq_true (by omega)
    clear c8
    have H' := zA H
    clear H
    obtain ⟨Ao9,co9,eo9⟩:=kM HO_6.out
    subst eo9
    go_wp2
    go_loopg [5,6,7] k1 (fun kq v5 v6 v7 w' => ∃ (x5_2:List Int) (x6_2:List Int) (x7_2:Int),v7 = .int .i64 x7_2 ∧ Aside0 (spec_l03Normal.l1 kq x5_2 x6_2 x7_2 a0_0 l0_1 = some r) ∧ Aside0 (kq ≤ k1) ∧ Aside0 (Kd.R (Kd.int .i64) 2 w' w.heap.size (fun k_=>some k_ ≠ (v6:Value).ownBlock) v5 x5_2) ∧ Aside0 (Kd.R (Kd.int .i64) 2 w' w.heap.size (fun k_=>some k_ ≠ (v5:Value).ownBlock) v6 x6_2) ∧ Aside0 (w'.heap[gb785]? = some (.cells #[.int .i64 a0_0,(.slice A0_1 l0_1.length c0_1)] 26 (0,0))) ∧ Aside0 (Below w.heap.size w w'))
    case atStart=>exact ⟨(x5_1),(x6_1),(0),zs,H', ⟨Nat.le_refl _⟩,⟨zP HO_5.out⟩,⟨zP HO_6.out⟩,⟨zR BK785.out⟩,⟨zT HB.out GE785.out⟩⟩
    case round =>
     clear H'
     try clear c1
     try clear c6
     try clear c8
     obtain ⟨x5_2,x6_2,x7_2,rfl,HA,HK2,HO_5,HO_6,BK785,HB⟩:=hrel
     cases gk with
     | zero=>exact absurd HA.out (by simp [spec_l03Normal.l1])
     | succ k2 =>
      have H:=HA.out
      clear HA
      simp only [spec_l03Normal.l1] at H
      by_cases c10:x7_2 < a0_0
      ·rw [if_pos c10] at H
       have c10b0:decide (x7_2 < a0_0) = true:=decide_eq_true c10
       clear c10
       obtain ⟨t792,A11,H⟩:=zb H
       try dsimp only at H
       by_cases c12:t792 ≥ 0
       ·rw [if_pos c12] at H
        have c12b0:decide (0 ≤ t792) = true:=decide_eq_true c12
        clear c12
        by_cases c13:x5_2.length < 17592186044416
        ·rw [if_pos c13] at H
         have LMc13:=zA c13
         clear c13
         obtain ⟨y793,hy793⟩:∃ y_:List Int,y_ = (x5_2 ++ [x7_2]):=⟨_,rfl⟩
         replace H:((spec_l03Without.f x6_2 t792).bind fun t796=>(spec_l03Normal.l0 k2 y793 t796 a0_0 l0_1)) = some r:=zy hy793 H
         have Ny793:=zA hy793
         clear hy793
         obtain ⟨t796,A14,H⟩:=zb H
         try dsimp only at H
         have H' := zA H
         clear H
         obtain ⟨hcz15_0,hcz15_1,hfz15_0,hfz15_1⟩:=zB3 BK785.out
         obtain ⟨Ao16,co16,eo16⟩:=kM HO_6.out
         subst eo16
         go_wp2_with (first | (refine zO (some 24) Tryd.func83 #[.agg #[.int .i64 a0_0,.slice A0_1 l0_1.length c0_1],.slice Ao16 x6_2.length co16,.int .i64 x7_2] ?_;(with_reducible refine (spec_l03First.calls k2 a0_0 _ _ l0_1 _ _ x6_2 x7_2 t792 _ ?side1 ?side2 ?side3 ?side4 A11.out).mono ?_);(case side1=>exact zS (kO HR0_1.out HB.out));(case side2=>exact HC0_1.out);(case side3=>exact zS (kB HO_6.out).2.2);(case side4=>exact (kB HO_6.out).2.1);rintro e w17 ⟨rfl,hb⟩;refine ⟨_,rfl,?_⟩;replace HO_5:=zA (kL (zP HO_5.out) hb);replace HO_6:=zA (kL (zP HO_6.out) hb);replace BK785:=zA (zB1 BK785.out hb);replace HB:=zA (kQ (zT HB.out GE785.out) hb);(try clear hb)) | ((with_reducible refine gate_builtin (b:=.append) (xs:=#[.tmp 27,.tmp 29]) rfl ?_);at_builtin;refine Kd.R_append (Kd.int .i64) (w0:=w) w.heap.size rfl (.tmp 27) (.tmp 29) 24 2 (.int .i64 0) 8 rfl Tryd.underlying24 info2 rfl (by decide) (by omega) u5 x5_2 x7_2 [.int .i64 x7_2] (fun k_=>some k_ ≠ (.slice Ao16 x6_2.length co16:Value).ownBlock) (fun _=>False) rfl rfl ?aP (fun _ hk=>hk.elim) ?aF ?aO ?aB ?aS ?aL ?_;(case aP=>exact rfl);(case aB=>exact (zT HB.out GE785.out));(case aF=>exact (fun k_ hk=>jF (kH (zP HO_6.out)) k_ hk));(case aO=>exact (zP HO_5.out));(case aS=>exact (kP (zT HB.out GE785.out)));(case aL=>have:=LMc13.out;omega);intro v794 w18 ho hb hg hat;rw [← Ny793.out] at ho;replace HO_6:=zA (Kd.R_after (ok:=(fun _=>True)) (by (with_reducible repeat (first | apply zF | apply zG | apply zH));exact kA HO_6.out (fun _ hk=>⟨trivial,hk⟩)) hg hat);replace BK785:=zA (blk_grown (g:=gb785) (o:=.cells #[.int .i64 a0_0,.slice A0_1 l0_1.length c0_1] 26 (0,0)) (zR BK785.out) hg (Kd.R_ne HO_5.out BK785.out (by decide)));replace HB:=zA (hb);have HO795:=zA (ho);clear HO_5;clear ho hb hg hat) | (refine zO (some 33) Tryd.func84 #[.slice Ao16 x6_2.length co16,.int .i64 t792] ?_;(with_reducible refine (spec_l03Without.calls _ _ x6_2 t792 t796 _ ?side1 ?side2 A14.out).mono ?_);(case side1=>exact zS (kB HO_6.out).2.2);(case side2=>exact (kB HO_6.out).2.1);rintro e w19 ⟨v797,rfl,ho0,hb⟩;refine ⟨_,rfl,?_⟩;have HO798:=zA (kI (kF (kF ho0 (kH (zP HO_6.out))) (kH (zP HO795.out))) (kP (zT HB.out GE785.out)));replace HO_6:=zA (kE (zP HO_6.out) (kC ho0) hb);replace HO795:=zA (kE (zP HO795.out) (kC ho0) hb);replace BK785:=zA (zB1 BK785.out hb);replace HB:=zA (kQ (zT HB.out GE785.out) hb);(try clear hb);(try clear ho0)))
         go_roundg k2
         case measure=>have:=HK1.out;have:=HK2.out;omega
         case rel=>exact ⟨(y793),(t796),H', ⟨by have:=HK1.out;have:=HK2.out;omega⟩,⟨zPM HO795.out (fun _ hk=>hk.2)⟩,⟨zPM HO798.out (fun _ hk=>hk.2)⟩,⟨zR BK785.out⟩,⟨zT HB.out GE785.out⟩⟩
        rw [if_neg c13] at H
        exact absurd H (by simp)
       rw [if_neg c12] at H
       have c12b0:decide (0 ≤ t792) = false:=decide_eq_false c12
       clear c12
       have H' := zA H
       clear H
       obtain ⟨hcz20_0,hcz20_1,hfz20_0,hfz20_1⟩:=zB3 BK785.out
       obtain ⟨Ao21,co21,eo21⟩:=kM HO_6.out
       subst eo21
       go_wp2_with (first | (refine zO (some 24) Tryd.func83 #[.agg #[.int .i64 a0_0,.slice A0_1 l0_1.length c0_1],.slice Ao21 x6_2.length co21,.int .i64 x7_2] ?_;(with_reducible refine (spec_l03First.calls k2 a0_0 _ _ l0_1 _ _ x6_2 x7_2 t792 _ ?side1 ?side2 ?side3 ?side4 A11.out).mono ?_);(case side1=>exact zS (kO HR0_1.out HB.out));(case side2=>exact HC0_1.out);(case side3=>exact zS (kB HO_6.out).2.2);(case side4=>exact (kB HO_6.out).2.1);rintro e w22 ⟨rfl,hb⟩;refine ⟨_,rfl,?_⟩;replace HO_5:=zA (kL (zP HO_5.out) hb);replace HO_6:=zA (kL (zP HO_6.out) hb);replace BK785:=zA (zB1 BK785.out hb);replace HB:=zA (kQ (zT HB.out GE785.out) hb);(try clear hb)))
       go_roundg k2
       case measure=>have:=HK1.out;have:=HK2.out;omega
       case rel=>exact ⟨(x5_2),(x6_2),(wrap64 (x7_2 + 1)),zs,H', ⟨by have:=HK1.out;have:=HK2.out;omega⟩,⟨zP HO_5.out⟩,⟨zP HO_6.out⟩,⟨zR BK785.out⟩,⟨zT HB.out GE785.out⟩⟩
      rw [if_neg c10] at H
      have c10b0:decide (x7_2 < a0_0) = false:=decide_eq_false c10
      clear c10
      have H' := zA H
      clear H
      obtain ⟨hcz23_0,hcz23_1,hfz23_0,hfz23_1⟩:=zB3 BK785.out
      go_wp2
      go_roundg k2
      case measure=>have:=HK1.out;have:=HK2.out;omega
      case rel=>exact ⟨(x5_2),(x6_2),H', ⟨by have:=HK1.out;have:=HK2.out;omega⟩,⟨zP HO_5.out⟩,⟨zP HO_6.out⟩,⟨zR BK785.out⟩,⟨zT HB.out GE785.out⟩⟩
   rw [if_neg c8] at H
   have c8b0:decide (0 < (x6_1.length:Int)) = false:=decide_eq_false c8
   have c8b1:decide (0 < x6_1.length) = false:=decide_eq_false (by omega)
   clear c8
   obtain rfl:=Option.some.inj H
   obtain ⟨Ao24,co24,eo24⟩:=kM HO_6.out
   subst eo24
   go_wp2
   go_ret
   exact ⟨_,zr,by (with_reducible repeat (first | apply zF | apply zG | apply zH));exact kA HO_5.out (fun _ hk=>trivial),zT HB.out GE785.out⟩
mutual
def spec_l04Order.l0:Nat → List Int → List Int → Int → Int → List Int → Option (List Int)
 | 0,_,_,_,_,_=>none
 | k + 1,x1,x5,x6,x800000,x800001=>if x6 < (x1.length:Int) then ((spec_l01One.f x6).bind fun t803=>(spec_l04Order.l1 k x1 x5 x6 t803 (wrap64 (x6 + 1)) x800000 x800001)) else (some x5)
def spec_l04Order.l1:Nat → List Int → List Int → Int → Int → Int → Int → List Int → Option (List Int)
 | 0,_,_,_,_,_,_,_=>none
 | k + 1,x1,x5,x6,x7,x8,x800000,x800001=>if x8 < (x1.length:Int) then (spec_l04Order.l2 k x1 x5 x6 x7 x8 x6 x800000 x800001) else (if x5.length < 17592186044416 then (spec_l04Order.l0 k x1 (x5 ++ [x7]) (wrap64 (x6 + 1)) x800000 x800001) else (none))
def spec_l04Order.l2:Nat → List Int → List Int → Int → Int → Int → Int → Int → List Int → Option (List Int)
 | 0,_,_,_,_,_,_,_,_=>none
 | k + 1,x1,x5,x6,x7,x8,x9,x800000,x800001=>if x9 < x8 then ((spec_l01Bit.f x7 x9).bind fun t807=>(if t807 = true then (if 0 ≤ x9 then (if x9 < (x1.length:Int) then (if 0 ≤ x8 then (if x8 < (x1.length:Int) then ((spec_l02Dep.f x800000 x800001 (rd x1 x9) (rd x1 x8)).bind fun t810=>(if t810 = true then ((spec_l01One.f x8).bind fun t811=>(spec_l04Order.l2 k x1 x5 x6 (Go.bits .or .i64 x7 t811) x8 (wrap64 (x9 + 1)) x800000 x800001)) else (spec_l04Order.l2 k x1 x5 x6 x7 x8 (wrap64 (x9 + 1)) x800000 x800001))) else (none)) else (none)) else (none)) else (none)) else (spec_l04Order.l2 k x1 x5 x6 x7 x8 (wrap64 (x9 + 1)) x800000 x800001))) else (spec_l04Order.l1 k x1 x5 x6 x7 (wrap64 (x8 + 1)) x800000 x800001)
end
def spec_l04Order.f (k:Nat) (a0_0:Int) (l0_1:List Int) (l1:List Int):Option (List Int):=spec_l04Order.l0 k l1 (([]:List Int)) 0 a0_0 l0_1
def spec_l04Order.T12:Bool × List (List Nat × List Nat):=(true,[([],[]),([],[]),([0,1],[0,1]),([2,2],[2]),([3],[3]),([3],[3]),([3],[3]),([5,6,3],[3,5,6]),([7,3],[3,7]),([3],[3]),([3],[3]),([9,10,3],[3,9,10]),([11,3],[3,11]),([4,8,12,3,3],[3,4,8,12]),([3,13],[3,13])])
def spec_l04Order.B12:List Nat:=[0,0,3,7,15,15,15,111,239,15,15,1551,3599,8191,16383]
theorem spec_l04Order.tab12:rtab .any (opsOf Tryd.f64 12) = spec_l04Order.T12:=by kernel_rfl
theorem spec_l04Order.bits12:waitsOk spec_l04Order.T12.2 spec_l04Order.B12 = true:=by kernel_rfl
set_option maxHeartbeats 8000000 in
set_option maxRecDepth 100000 in
theorem spec_l04Order.calls (k : Nat) (a0_0 : Int) (A0_1 : Option Addr) (c0_1 : Nat) (l0_1 : List Int) (A1 : Option Addr) (c1 : Nat) (l1 : List Int) (r : List Int) (w : World) (hr0_1 : Kd.C (Kd.int .i64) w A0_1 l0_1.length l0_1) (hc0_1 : l0_1.length ≤ c0_1) (hr1 : Kd.C (Kd.int .i64) w A1 l1.length l1) (hc1 : l1.length ≤ c1) (h : spec_l04Order.f k a0_0 l0_1 l1 = some r) :
  Calls Tryd.prog 64 #[.agg #[.int .i64 a0_0,.slice A0_1 l0_1.length c0_1],.slice A1 l1.length c1] w fun e w' => ∃ v0_:Value,e = .returned (v0_) ∧ Kd.R (Kd.int .i64) 2 w' w.heap.size (fun _=>True) v0_ r ∧ Below w.heap.size w w' := by
 have hu26:=Tryd.underlying26
 have HR0_1:=zA hr0_1
 have HC0_1:=zA hc0_1
 clear hr0_1 hc0_1
 have HR1:=zA hr1
 have HC1:=zA hc1
 clear hr1 hc1
 have HB:=zA (kW w.heap.size w)
 have H:=h
 unfold spec_l04Order.f at H
 clear h
 obtain ⟨y800,hy800⟩:∃ y_:List Int,y_ = (([]:List Int)):=⟨_,rfl⟩
 replace H:(spec_l04Order.l0 k l1 y800 0 a0_0 l0_1) = some r:=zy hy800 H
 have Ny800:=zA hy800
 clear hy800
 have H' := zA H
 clear H
 go_enter Tryd.func64,Tryd.ntmps64
 go_wp2_with (first | (refine zBE 2 #[.int .i64 a0_0,.slice A0_1 l0_1.length c0_1] 26 ?_;intro gb799 hg w3 hbox hb;have BK799:=zA (hbox);have GW799:=zA (zBH hg HB.out);have GE799:=zA (zBH hg HB.out);replace HB:=zA (kQ (zQ HB.out) hb);clear hb hbox hg) | ((with_reducible refine kS (N:=10) rfl ?_);refine Kd.R_lit (Kd.int .i64) _ 2 ?hg (N:=10) ?hd (xs:=([]:List Int)) (inner:=[]) (ok:=fun _=>True) (okp:=fun _=>True) ?hr ?hp (fun _ hk=>hk) trivial (kW _ _) (Nat.le_refl _) (by simp) ?_;(case hd=>rfl);(case hg=>rfl);(case hr=>first | (go_simp;done) | (go_simp;rfl));(case hp=>exact (Reps.none _ _));intro v801 w4 ho5 hb hg_ hnew_;clear hg_ hnew_;(first | rw [← Ny800.out] at ho5 | (simp only [Int.reduceToNat] at ho5;rw [← Ny800.out] at ho5));have HO802:=zA (kI ho5 (kP (zT HB.out GE799.out)));replace BK799:=zA (zB1 BK799.out hb);replace HB:=zA (kQ (zT HB.out GE799.out) hb);clear hb ho5))
 go_loopg [5,6] k (fun kq v5 v6 w' => ∃ (x5_1:List Int) (x6_1:Int),v6 = .int .i64 x6_1 ∧ Aside0 (spec_l04Order.l0 kq l1 x5_1 x6_1 a0_0 l0_1 = some r) ∧ Aside0 (kq ≤ k) ∧ Aside0 (Kd.R (Kd.int .i64) 2 w' w.heap.size (fun _=>True) v5 x5_1) ∧ Aside0 (w'.heap[gb799]? = some (.cells #[.int .i64 a0_0,(.slice A0_1 l0_1.length c0_1)] 26 (0,0))) ∧ Aside0 (Below w.heap.size w w'))
 case atStart=>exact ⟨(y800),(0),zs,H', ⟨Nat.le_refl _⟩,⟨zP HO802.out⟩,⟨zR BK799.out⟩,⟨zT HB.out GE799.out⟩⟩
 case round =>
  clear H'
  try clear c1
  obtain ⟨x5_1,x6_1,rfl,HA,HK1,HO_5,BK799,HB⟩:=hrel
  cases gk with
  | zero=>exact absurd HA.out (by simp [spec_l04Order.l0])
  | succ k1 =>
   have H:=HA.out
   clear HA
   simp only [spec_l04Order.l0] at H
   by_cases c6:x6_1 < (l1.length:Int)
   ·rw [if_pos c6] at H
    have c6b0:decide (x6_1 < (l1.length:Int)) = true:=decide_eq_true c6
    clear c6
    obtain ⟨t803,A7,H⟩:=zb H
    try dsimp only at H
    have H' := zA H
    clear H
    go_wp2_with (first | (refine zO (some 18) Tryd.func43 #[.int .i64 x6_1] ?_;(with_reducible refine (spec_l01One.calls x6_1 t803 _ A7.out).mono ?_);rintro e w' ⟨rfl,⟨nd,rfl⟩⟩;refine ⟨_,rfl,?_⟩))
    go_loopg [7,8] k1 (fun kq v7 v8 w' => ∃ (x7_2:Int) (x8_2:Int),v7 = .int .i64 x7_2 ∧ v8 = .int .i64 x8_2 ∧ Aside0 (spec_l04Order.l1 kq l1 x5_1 x6_1 x7_2 x8_2 a0_0 l0_1 = some r) ∧ Aside0 (kq ≤ k1) ∧ Aside0 (Kd.R (Kd.int .i64) 2 w' w.heap.size (fun _=>True) u5 x5_1) ∧ Aside0 (w'.heap[gb799]? = some (.cells #[.int .i64 a0_0,(.slice A0_1 l0_1.length c0_1)] 26 (0,0))) ∧ Aside0 (Below w.heap.size w w'))
    case atStart=>exact ⟨(t803),(wrap64 (x6_1 + 1)),zs,zs,H', ⟨Nat.le_refl _⟩,⟨zP HO_5.out⟩,⟨zR BK799.out⟩,⟨zT HB.out GE799.out⟩⟩
    case round =>
     clear H'
     try clear c1
     try clear c4
     try clear c6
     obtain ⟨x7_2,x8_2,rfl,rfl,HA,HK2,HO_5,BK799,HB⟩:=hrel
     cases gk with
     | zero=>exact absurd HA.out (by simp [spec_l04Order.l1])
     | succ k2 =>
      have H:=HA.out
      clear HA
      simp only [spec_l04Order.l1] at H
      by_cases c8:x8_2 < (l1.length:Int)
      ·rw [if_pos c8] at H
       have c8b0:decide (x8_2 < (l1.length:Int)) = true:=decide_eq_true c8
       clear c8
       have H' := zA H
       clear H
       go_wp2
       go_loopg [7,9] k2 (fun kq v7 v9 w' => ∃ (x7_3:Int) (x9_3:Int),v7 = .int .i64 x7_3 ∧ v9 = .int .i64 x9_3 ∧ Aside0 (spec_l04Order.l2 kq l1 x5_1 x6_1 x7_3 x8_2 x9_3 a0_0 l0_1 = some r) ∧ Aside0 (kq ≤ k2) ∧ Aside0 (Kd.R (Kd.int .i64) 2 w' w.heap.size (fun _=>True) u5 x5_1) ∧ Aside0 (w'.heap[gb799]? = some (.cells #[.int .i64 a0_0,(.slice A0_1 l0_1.length c0_1)] 26 (0,0))) ∧ Aside0 (Below w.heap.size w w'))
       case atStart=>exact ⟨(x7_2),(x6_1),zs,zs,H', ⟨Nat.le_refl _⟩,⟨zP HO_5.out⟩,⟨zR BK799.out⟩,⟨zT HB.out GE799.out⟩⟩
       case round =>
        clear H'
        try clear c1
        try clear c4
        try clear c6
        try clear c8
        obtain ⟨x7_3,x9_3,rfl,rfl,HA,HK3,HO_5,BK799,HB⟩:=hrel
        cases gk with
        | zero=>exact absurd HA.out (by simp [spec_l04Order.l2])
        | succ k3 =>
         have H:=HA.out
         clear HA
         simp only [spec_l04Order.l2] at H
         by_cases c9:x9_3 < x8_2
         ·rw [if_pos c9] at H
          have c9b0:decide (x9_3 < x8_2) = true:=decide_eq_true c9
          clear c9
          obtain ⟨t807,A10,H⟩:=zb H
          try dsimp only at H
          by_cases c11:t807 = true
          ·subst c11
           rw [if_pos rfl] at H
           by_cases c12:0 ≤ x9_3
           ·rw [if_pos c12] at H
            have c12b0:decide (0 ≤ x9_3) = true:=decide_eq_true c12
            clear c12
            by_cases c13:x9_3 < (l1.length:Int)
            ·rw [if_pos c13] at H
             have c13b0:decide (x9_3 < (l1.length:Int)) = true:=decide_eq_true c13
             clear c13
             by_cases c14:0 ≤ x8_2
             ·rw [if_pos c14] at H
              have c14b0:decide (0 ≤ x8_2) = true:=decide_eq_true c14
              clear c14
              by_cases c15:x8_2 < (l1.length:Int)
              ·rw [if_pos c15] at H
               have c15b0:decide (x8_2 < (l1.length:Int)) = true:=decide_eq_true c15
               clear c15
               obtain ⟨t810,A16,H⟩:=zb H
               try dsimp only at H
               by_cases c17:t810 = true
               ·subst c17
                rw [if_pos rfl] at H
                obtain ⟨t811,A18,H⟩:=zb H
                try dsimp only at H
                have H' := zA H
                clear H
                try go_wp2
                replace HO_5:=zA (zH HO_5.out)
                replace BK799:=zA (zK BK799.out)
                replace HB:=zA (zD HB.out)
                have p808:0 ≤ (x9_3:Int):=zd
                have q808:x9_3 < (l1.length:Int):=zd
                obtain ⟨ad808,e808,hx808_0⟩:=Kd.at_int HR1.out x9_3 p808 q808
                have hw808_0:=hx808_0
                cases e808
                replace hx808_0:=(HB.out.cell (jG w _ hx808_0)).trans hx808_0
                replace p808:=eq_true p808
                replace q808:=eq_true q808
                have p809:0 ≤ (x8_2:Int):=zd
                have q809:x8_2 < (l1.length:Int):=zd
                obtain ⟨ad809,e809,hx809_0⟩:=Kd.at_int HR1.out x8_2 p809 q809
                have hw809_0:=hx809_0
                obtain rfl:ad808 = ad809:=(by injection e809)
                replace hx809_0:=(HB.out.cell (jG w _ hx809_0)).trans hx809_0
                replace p809:=eq_true p809
                replace q809:=eq_true q809
                refine start_ (n:=15) (S:=fun w' => w'.cell? ⟨gb799,0,none⟩ = some (.int .i64 a0_0) ∧ w'.cell? ⟨gb799,1,none⟩ = some (.slice A0_1 l0_1.length c0_1) ∧ w'.cell? (ad808.add (x9_3).toNat) = some (.int .i64 (rd l1 x9_3)) ∧ w'.cell? (ad808.add (x8_2).toNat) = some (.int .i64 (rd l1 x8_2))) (ds:=[]) #[false,false,false,false,false,false,false,false,false,false,false,false,false,false,false] (by kernel_rfl) rfl rfl ⟨(kV BK799.out 0).trans rfl,(kV BK799.out 1).trans rfl,(pw_cell_below HB.out hw808_0),(pw_cell_below HB.out hw809_0)⟩ (fun hHeld=>?_);refine with_tabW spec_l04Order.tab12 spec_l04Order.bits12 (fun HT_ HW_=>?_)
                generalize wr.drew = w19 at HO_5 BK799 HB hx808_0 hx809_0 hHeld ⊢
                refine zp 0 (some 33) #[true,false,false,false,false,false,false,false,false,false,false,false,false,false,false] HT_.out ?_
                refine zp 1 (some 34) #[true,true,false,false,false,false,false,false,false,false,false,false,false,false,false] HT_.out ?_
                refine one_ (i:=2) (N:=some 35) #[true,true,true,false,false,false,false,false,false,false,false,false,false,false,false] rfl rfl (one_of HT_.out (by kernel_rfl)) (by decide) (fun K hK=>?_)
                refine goes_ Tryd.func65 (by kernel_rfl) rfl #[.int .i64 x7_3,.int .i64 x9_3] (by rfl) rfl rfl zg ?_
                with_reducible refine (spec_l01Bit.calls x7_3 x9_3 true _ A10.out).mono ?_
                rintro e w' ⟨rfl,⟨nd,rfl⟩⟩
                refine ⟨_,rfl,?_⟩
                refine hK.out _ _ ⟨(kV BK799.out 0).trans rfl,(kV BK799.out 1).trans rfl,(pw_cell_below HB.out hw808_0),(pw_cell_below HB.out hw809_0)⟩ (fun hHeld=>?_)
                clear hK K
                refine norm_ (a' := ?_) ?_ ?_
                rotate_left
                ·show Act.put _ (some 35) _ = _
                 simp only [Act.put,zL,zM,zN,i64_w,i32_w]
                 rfl
                refine zp 3 (some 36) #[true,true,true,true,false,false,false,false,false,false,false,false,false,false,false] HT_.out ?_
                refine zp 5 (some 38) #[true,true,true,true,false,true,false,false,false,false,false,false,false,false,false] HT_.out ?_
                refine zp 6 (some 39) #[true,true,true,true,false,true,true,false,false,false,false,false,false,false,false] HT_.out ?_
                refine zp 7 (some 40) #[true,true,true,true,false,true,true,true,false,false,false,false,false,false,false] HT_.out ?_
                refine zp 9 (some 42) #[true,true,true,true,false,true,true,true,false,true,false,false,false,false,false] HT_.out ?_
                refine zp 10 (some 43) #[true,true,true,true,false,true,true,true,false,true,true,false,false,false,false] HT_.out ?_
                refine zp 11 (some 44) #[true,true,true,true,false,true,true,true,false,true,true,true,false,false,false] HT_.out ?_
                refine zf 4 (some 37) #[true,true,true,true,true,true,true,true,false,true,true,true,false,false,false] HT_.out HW_.out hHeld ?_
                refine zf 8 (some 41) #[true,true,true,true,true,true,true,true,true,true,true,true,false,false,false] HT_.out HW_.out hHeld ?_
                refine zf 12 (some 45) #[true,true,true,true,true,true,true,true,true,true,true,true,true,false,false] HT_.out HW_.out hHeld ?_
                refine one_ (i:=13) (N:=some 46) #[true,true,true,true,true,true,true,true,true,true,true,true,true,true,false] rfl rfl (one_of HT_.out (by kernel_rfl)) (by decide) (fun K hK=>?_)
                refine goes_ Tryd.func48 (by kernel_rfl) rfl #[.agg #[.int .i64 a0_0,.slice A0_1 l0_1.length c0_1],.int .i64 (rd l1 x9_3),.int .i64 (rd l1 x8_2)] (by rfl) rfl rfl zg ?_
                with_reducible refine (spec_l02Dep.calls a0_0 _ _ l0_1 (rd l1 x9_3) (rd l1 x8_2) true _ ?side1 ?side2 A16.out).mono ?_
                (case side1=>exact zS (kO HR0_1.out (zT HB.out GE799.out)))
                (case side2=>exact HC0_1.out)
                rintro e w20 ⟨rfl,hb⟩
                refine ⟨_,rfl,?_⟩
                replace HO_5:=zA (kL (zP HO_5.out) hb)
                replace BK799:=zA (zB1 BK799.out hb)
                replace HB:=zA (kQ (zT HB.out GE799.out) hb)
                (try clear hb)
                (try clear hb2)
                (try clear hk)
                (try clear hi)
                (try clear hgw)
                refine hK.out _ _ ⟨(kV BK799.out 0).trans rfl,(kV BK799.out 1).trans rfl,(pw_cell_below HB.out hw808_0),(pw_cell_below HB.out hw809_0)⟩ (fun hHeld=>?_)
                clear hK K
                refine norm_ (a' := ?_) ?_ ?_
                rotate_left
                ·show Act.put _ (some 46) _ = _
                 simp only [Act.put,zL,zM,zN,i64_w,i32_w]
                 rfl
                refine zp 14 (some 47) #[true,true,true,true,true,true,true,true,true,true,true,true,true,true,true] HT_.out ?_
                refine done_ (done_of HT_.out (by kernel_rfl)) ?_
                try go_wp2_with (first | (refine zO (some 50) Tryd.func43 #[.int .i64 x8_2] ?_;(with_reducible refine (spec_l01One.calls x8_2 t811 _ A18.out).mono ?_);rintro e w' ⟨rfl,⟨nd,rfl⟩⟩;refine ⟨_,rfl,?_⟩))
                go_roundg k3
                case measure=>have:=HK1.out;have:=HK2.out;have:=HK3.out;omega
                case rel=>exact ⟨(Go.bits .or .i64 x7_3 t811),(wrap64 (x9_3 + 1)),zs,zs,H', ⟨by have:=HK1.out;have:=HK2.out;have:=HK3.out;omega⟩,⟨zP HO_5.out⟩,⟨zR BK799.out⟩,⟨zT HB.out GE799.out⟩⟩
               replace c17:=Bool.eq_false_iff.mpr c17
               subst c17
               rw [if_neg (show ¬ (false = true) by decide)] at H
               have H' := zA H
               clear H
               try go_wp2
               replace HO_5:=zA (zH HO_5.out)
               replace BK799:=zA (zK BK799.out)
               replace HB:=zA (zD HB.out)
               have p808:0 ≤ (x9_3:Int):=zd
               have q808:x9_3 < (l1.length:Int):=zd
               obtain ⟨ad808,e808,hx808_0⟩:=Kd.at_int HR1.out x9_3 p808 q808
               have hw808_0:=hx808_0
               cases e808
               replace hx808_0:=(HB.out.cell (jG w _ hx808_0)).trans hx808_0
               replace p808:=eq_true p808
               replace q808:=eq_true q808
               have p809:0 ≤ (x8_2:Int):=zd
               have q809:x8_2 < (l1.length:Int):=zd
               obtain ⟨ad809,e809,hx809_0⟩:=Kd.at_int HR1.out x8_2 p809 q809
               have hw809_0:=hx809_0
               obtain rfl:ad808 = ad809:=(by injection e809)
               replace hx809_0:=(HB.out.cell (jG w _ hx809_0)).trans hx809_0
               replace p809:=eq_true p809
               replace q809:=eq_true q809
               refine start_ (n:=15) (S:=fun w' => w'.cell? ⟨gb799,0,none⟩ = some (.int .i64 a0_0) ∧ w'.cell? ⟨gb799,1,none⟩ = some (.slice A0_1 l0_1.length c0_1) ∧ w'.cell? (ad808.add (x9_3).toNat) = some (.int .i64 (rd l1 x9_3)) ∧ w'.cell? (ad808.add (x8_2).toNat) = some (.int .i64 (rd l1 x8_2))) (ds:=[]) #[false,false,false,false,false,false,false,false,false,false,false,false,false,false,false] (by kernel_rfl) rfl rfl ⟨(kV BK799.out 0).trans rfl,(kV BK799.out 1).trans rfl,(pw_cell_below HB.out hw808_0),(pw_cell_below HB.out hw809_0)⟩ (fun hHeld=>?_);refine with_tabW spec_l04Order.tab12 spec_l04Order.bits12 (fun HT_ HW_=>?_)
               generalize wr.drew = w21 at HO_5 BK799 HB hx808_0 hx809_0 hHeld ⊢
               refine zp 0 (some 33) #[true,false,false,false,false,false,false,false,false,false,false,false,false,false,false] HT_.out ?_
               refine zp 1 (some 34) #[true,true,false,false,false,false,false,false,false,false,false,false,false,false,false] HT_.out ?_
               refine one_ (i:=2) (N:=some 35) #[true,true,true,false,false,false,false,false,false,false,false,false,false,false,false] rfl rfl (one_of HT_.out (by kernel_rfl)) (by decide) (fun K hK=>?_)
               refine goes_ Tryd.func65 (by kernel_rfl) rfl #[.int .i64 x7_3,.int .i64 x9_3] (by rfl) rfl rfl zg ?_
               with_reducible refine (spec_l01Bit.calls x7_3 x9_3 true _ A10.out).mono ?_
               rintro e w' ⟨rfl,⟨nd,rfl⟩⟩
               refine ⟨_,rfl,?_⟩
               refine hK.out _ _ ⟨(kV BK799.out 0).trans rfl,(kV BK799.out 1).trans rfl,(pw_cell_below HB.out hw808_0),(pw_cell_below HB.out hw809_0)⟩ (fun hHeld=>?_)
               clear hK K
               refine norm_ (a' := ?_) ?_ ?_
               rotate_left
               ·show Act.put _ (some 35) _ = _
                simp only [Act.put,zL,zM,zN,i64_w,i32_w]
                rfl
               refine zp 3 (some 36) #[true,true,true,true,false,false,false,false,false,false,false,false,false,false,false] HT_.out ?_
               refine zp 5 (some 38) #[true,true,true,true,false,true,false,false,false,false,false,false,false,false,false] HT_.out ?_
               refine zp 6 (some 39) #[true,true,true,true,false,true,true,false,false,false,false,false,false,false,false] HT_.out ?_
               refine zp 7 (some 40) #[true,true,true,true,false,true,true,true,false,false,false,false,false,false,false] HT_.out ?_
               refine zp 9 (some 42) #[true,true,true,true,false,true,true,true,false,true,false,false,false,false,false] HT_.out ?_
               refine zp 10 (some 43) #[true,true,true,true,false,true,true,true,false,true,true,false,false,false,false] HT_.out ?_
               refine zp 11 (some 44) #[true,true,true,true,false,true,true,true,false,true,true,true,false,false,false] HT_.out ?_
               refine zf 4 (some 37) #[true,true,true,true,true,true,true,true,false,true,true,true,false,false,false] HT_.out HW_.out hHeld ?_
               refine zf 8 (some 41) #[true,true,true,true,true,true,true,true,true,true,true,true,false,false,false] HT_.out HW_.out hHeld ?_
               refine zf 12 (some 45) #[true,true,true,true,true,true,true,true,true,true,true,true,true,false,false] HT_.out HW_.out hHeld ?_
               refine one_ (i:=13) (N:=some 46) #[true,true,true,true,true,true,true,true,true,true,true,true,true,true,false] rfl rfl (one_of HT_.out (by kernel_rfl)) (by decide) (fun K hK=>?_)
               refine goes_ Tryd.func48 (by kernel_rfl) rfl #[.agg #[.int .i64 a0_0,.slice A0_1 l0_1.length c0_1],.int .i64 (rd l1 x9_3),.int .i64 (rd l1 x8_2)] (by rfl) rfl rfl zg ?_
               with_reducible refine (spec_l02Dep.calls a0_0 _ _ l0_1 (rd l1 x9_3) (rd l1 x8_2) false _ ?side1 ?side2 A16.out).mono ?_
               (case side1=>exact zS (kO HR0_1.out (zT HB.out GE799.out)))
               (case side2=>exact HC0_1.out)
               rintro e w22 ⟨rfl,hb⟩
               refine ⟨_,rfl,?_⟩
               replace HO_5:=zA (kL (zP HO_5.out) hb)
               replace BK799:=zA (zB1 BK799.out hb)
               replace HB:=zA (kQ (zT HB.out GE799.out) hb)
               (try clear hb)
               (try clear hb2)
               (try clear hk)
               (try clear hi)
               (try clear hgw)
               refine hK.out _ _ ⟨(kV BK799.out 0).trans rfl,(kV BK799.out 1).trans rfl,(pw_cell_below HB.out hw808_0),(pw_cell_below HB.out hw809_0)⟩ (fun hHeld=>?_)
               clear hK K
               refine norm_ (a' := ?_) ?_ ?_
               rotate_left
               ·show Act.put _ (some 46) _ = _
                simp only [Act.put,zL,zM,zN,i64_w,i32_w]
                rfl
               refine zp 14 (some 47) #[true,true,true,true,true,true,true,true,true,true,true,true,true,true,true] HT_.out ?_
               refine done_ (done_of HT_.out (by kernel_rfl)) ?_
               try go_wp2
               go_roundg k3
               case measure=>have:=HK1.out;have:=HK2.out;have:=HK3.out;omega
               case rel=>exact ⟨(x7_3),(wrap64 (x9_3 + 1)),zs,zs,H', ⟨by have:=HK1.out;have:=HK2.out;have:=HK3.out;omega⟩,⟨zP HO_5.out⟩,⟨zR BK799.out⟩,⟨zT HB.out GE799.out⟩⟩
              rw [if_neg c15] at H
              exact absurd H (by simp)
             rw [if_neg c14] at H
             exact absurd H (by simp)
            rw [if_neg c13] at H
            exact absurd H (by simp)
           rw [if_neg c12] at H
           exact absurd H (by simp)
          replace c11:=Bool.eq_false_iff.mpr c11
          subst c11
          rw [if_neg (show ¬ (false = true) by decide)] at H
          have H' := zA H
          clear H
          try go_wp2
          replace HO_5:=zA (zH HO_5.out)
          replace BK799:=zA (zK BK799.out)
          replace HB:=zA (zD HB.out)
          refine start_ (n:=15) (S:=fun w' => True) (ds:=[]) #[false,false,false,false,false,false,false,false,false,false,false,false,false,false,false] (by kernel_rfl) rfl rfl trivial (fun hHeld=>?_);refine with_tabW spec_l04Order.tab12 spec_l04Order.bits12 (fun HT_ HW_=>?_)
          generalize wr.drew = w23 at HO_5 BK799 HB hHeld ⊢
          refine zp 0 (some 33) #[true,false,false,false,false,false,false,false,false,false,false,false,false,false,false] HT_.out ?_
          refine zp 1 (some 34) #[true,true,false,false,false,false,false,false,false,false,false,false,false,false,false] HT_.out ?_
          refine one_ (i:=2) (N:=some 35) #[true,true,true,false,false,false,false,false,false,false,false,false,false,false,false] rfl rfl (one_of HT_.out (by kernel_rfl)) (by decide) (fun K hK=>?_)
          refine goes_ Tryd.func65 (by kernel_rfl) rfl #[.int .i64 x7_3,.int .i64 x9_3] (by rfl) rfl rfl zg ?_
          with_reducible refine (spec_l01Bit.calls x7_3 x9_3 false _ A10.out).mono ?_
          rintro e w' ⟨rfl,⟨nd,rfl⟩⟩
          refine ⟨_,rfl,?_⟩
          refine hK.out _ _ trivial (fun hHeld=>?_)
          clear hK K
          refine norm_ (a' := ?_) ?_ ?_
          rotate_left
          ·show Act.put _ (some 35) _ = _
           simp only [Act.put,zL,zM,zN,i64_w,i32_w]
           rfl
          refine zp 3 (some 36) #[true,true,true,true,false,false,false,false,false,false,false,false,false,false,false] HT_.out ?_
          refine zu 4 (some 37) #[true,true,true,true,true,false,false,false,false,false,false,false,false,false,false] HT_.out ?_
          refine zu 5 (some 38) #[true,true,true,true,true,true,false,false,false,false,false,false,false,false,false] HT_.out ?_
          refine zu 6 (some 39) #[true,true,true,true,true,true,true,false,false,false,false,false,false,false,false] HT_.out ?_
          refine zu 7 (some 40) #[true,true,true,true,true,true,true,true,false,false,false,false,false,false,false] HT_.out ?_
          refine zu 8 (some 41) #[true,true,true,true,true,true,true,true,true,false,false,false,false,false,false] HT_.out ?_
          refine zu 9 (some 42) #[true,true,true,true,true,true,true,true,true,true,false,false,false,false,false] HT_.out ?_
          refine zu 10 (some 43) #[true,true,true,true,true,true,true,true,true,true,true,false,false,false,false] HT_.out ?_
          refine zu 11 (some 44) #[true,true,true,true,true,true,true,true,true,true,true,true,false,false,false] HT_.out ?_
          refine zu 12 (some 45) #[true,true,true,true,true,true,true,true,true,true,true,true,true,false,false] HT_.out ?_
          refine zu 13 (some 46) #[true,true,true,true,true,true,true,true,true,true,true,true,true,true,false] HT_.out ?_
          refine zp 14 (some 47) #[true,true,true,true,true,true,true,true,true,true,true,true,true,true,true] HT_.out ?_
          refine done_ (done_of HT_.out (by kernel_rfl)) ?_
          try go_wp2
          go_roundg k3
          case measure=>have:=HK1.out;have:=HK2.out;have:=HK3.out;omega
          case rel=>exact ⟨(x7_3),(wrap64 (x9_3 + 1)),zs,zs,H', ⟨by have:=HK1.out;have:=HK2.out;have:=HK3.out;omega⟩,⟨zP HO_5.out⟩,⟨zR BK799.out⟩,⟨zT HB.out GE799.out⟩⟩
         rw [if_neg c9] at H
         have c9b0:decide (x9_3 < x8_2) = false:=decide_eq_false c9
         clear c9
         have H' := zA H
         clear H
         go_wp2
         go_roundg k3
         case measure=>have:=HK1.out;have:=HK2.out;have:=HK3.out;omega
         case rel=>exact ⟨(x7_3),(wrap64 (x8_2 + 1)),zs,zs,H', ⟨by have:=HK1.out;have:=HK2.out;have:=HK3.out;omega⟩,⟨zP HO_5.out⟩,⟨zR BK799.out⟩,⟨zT HB.out GE799.out⟩⟩
      rw [if_neg c8] at H
      have c8b0:decide (x8_2 < (l1.length:Int)) = false:=decide_eq_false c8
      clear c8
      by_cases c24:x5_1.length < 17592186044416
      ·rw [if_pos c24] at H
       have LMc24:=zA c24
       clear c24
       obtain ⟨y804,hy804⟩:∃ y_:List Int,y_ = (x5_1 ++ [x7_2]):=⟨_,rfl⟩
       replace H:(spec_l04Order.l0 k2 l1 y804 (wrap64 (x6_1 + 1)) a0_0 l0_1) = some r:=zy hy804 H
       have Ny804:=zA hy804
       clear hy804
       have H' := zA H
       clear H
       go_wp2_with (first | ((with_reducible refine gate_builtin (b:=.append) (xs:=#[.tmp 52,.tmp 54]) rfl ?_);at_builtin;refine Kd.R_append (Kd.int .i64) (w0:=w) w.heap.size rfl (.tmp 52) (.tmp 54) 24 2 (.int .i64 0) 8 rfl Tryd.underlying24 info2 rfl (by decide) (by omega) u5 x5_1 x7_2 [.int .i64 x7_2] (fun _=>True) (fun _=>False) rfl rfl ?aP (fun _ hk=>hk.elim) ?aF ?aO ?aB ?aS ?aL ?_;(case aP=>exact rfl);(case aB=>exact (zT HB.out GE799.out));(case aF=>exact (fun _ _=>trivial));(case aO=>exact (zP HO_5.out));(case aS=>exact (kP (zT HB.out GE799.out)));(case aL=>have:=LMc24.out;omega);intro v805 w25 ho hb hg hat;rw [← Ny804.out] at ho;replace BK799:=zA (blk_grown (g:=gb799) (o:=.cells #[.int .i64 a0_0,.slice A0_1 l0_1.length c0_1] 26 (0,0)) (zR BK799.out) hg (Kd.R_ne HO_5.out BK799.out (by decide)));replace HB:=zA (hb);have HO806:=zA (ho);clear HO_5;clear ho hb hg hat))
       go_roundg k2
       case measure=>have:=HK1.out;have:=HK2.out;omega
       case rel=>exact ⟨(y804),(wrap64 (x6_1 + 1)),zs,H', ⟨by have:=HK1.out;have:=HK2.out;omega⟩,⟨zP HO806.out⟩,⟨zR BK799.out⟩,⟨zT HB.out GE799.out⟩⟩
      rw [if_neg c24] at H
      exact absurd H (by simp)
   rw [if_neg c6] at H
   have c6b0:decide (x6_1 < (l1.length:Int)) = false:=decide_eq_false c6
   clear c6
   obtain rfl:=Option.some.inj H
   go_wp2
   go_ret
   exact ⟨_,zr,zP HO_5.out,zT HB.out GE799.out⟩
def spec_l04Code.f (k:Nat) (a0_0:Int) (l0_1:List Int) (l1:List Int):Option (List Int × List Int × Int):=(spec_l03Code.f k a0_0 l0_1 l1 l1).bind fun t813=>(if t813 = 0 then ((spec_l03Normal.f k a0_0 l0_1 l1).bind fun t814=>((spec_l04Order.f k a0_0 l0_1 t814).bind fun t817=>(some (t814,t817,0)))) else (some (([]:List Int),([]:List Int),t813)))
set_option maxHeartbeats 8000000 in
set_option maxRecDepth 100000 in
theorem spec_l04Code.calls (k : Nat) (a0_0 : Int) (A0_1 : Option Addr) (c0_1 : Nat) (l0_1 : List Int) (A1 : Option Addr) (c1 : Nat) (l1 : List Int) (r1 : List Int) (r2 : List Int) (r3 : Int) (w : World) (hr0_1 : Kd.C (Kd.int .i64) w A0_1 l0_1.length l0_1) (hc0_1 : l0_1.length ≤ c0_1) (hr1 : Kd.C (Kd.int .i64) w A1 l1.length l1) (hc1 : l1.length ≤ c1) (h : spec_l04Code.f k a0_0 l0_1 l1 = some (r1, r2, r3)) :
  Calls Tryd.prog 33 #[.agg #[.int .i64 a0_0,.slice A0_1 l0_1.length c0_1],.slice A1 l1.length c1] w fun e w' => ∃ v0_ v1_:Value,e = .returned (.tuple #[v0_,v1_,.int .i64 r3]) ∧ Kd.R (Kd.int .i64) 2 w' w.heap.size (fun k_=>some k_ ≠ (v1_:Value).ownBlock) v0_ r1 ∧ Kd.R (Kd.int .i64) 2 w' w.heap.size (fun k_=>some k_ ≠ (v0_:Value).ownBlock) v1_ r2 ∧ Below w.heap.size w w' := by
 have hu26:=Tryd.underlying26
 have HR0_1:=zA hr0_1
 have HC0_1:=zA hc0_1
 clear hr0_1 hc0_1
 have HR1:=zA hr1
 have HC1:=zA hc1
 clear hr1 hc1
 have HB:=zA (kW w.heap.size w)
 have H:=h
 unfold spec_l04Code.f at H
 clear h
 obtain ⟨t813,A3,H⟩:=zb H
 try dsimp only at H
 by_cases c4:t813 = 0
 ·rw [if_pos c4] at H
  obtain ⟨c4b0,c4b1⟩:=zT1 c4
  clear c4
  obtain ⟨t814,A5,H⟩:=zb H
  try dsimp only at H
  obtain ⟨t817,A6,H⟩:=zb H
  try dsimp only at H
  simp only [Option.some.injEq,Prod.mk.injEq] at H
  obtain ⟨rfl,rfl,rfl⟩:=H
  go_enter Tryd.func33,Tryd.ntmps33
  go_wp2_with (first | (refine zBE 2 #[.int .i64 a0_0,.slice A0_1 l0_1.length c0_1] 26 ?_;intro gb812 hg w7 hbox hb;have BK812:=zA (hbox);have GW812:=zA (zBH hg HB.out);have GE812:=zA (zBH hg HB.out);replace HB:=zA (kQ (zQ HB.out) hb);clear hb hbox hg;obtain ⟨hcz8_0,hcz8_1,hfz8_0,hfz8_1⟩:=zB3 BK812.out) | (refine zO (some 12) Tryd.func62 #[.agg #[.int .i64 a0_0,.slice A0_1 l0_1.length c0_1],.slice A1 l1.length c1,.slice A1 l1.length c1] ?_;(with_reducible refine (spec_l03Code.calls k a0_0 _ _ l0_1 _ _ l1 _ _ l1 t813 _ ?side1 ?side2 ?side3 ?side4 ?side5 ?side6 A3.out).mono ?_);(case side1=>exact zS (kO HR0_1.out HB.out));(case side2=>exact HC0_1.out);(case side3=>exact zS (kO HR1.out HB.out));(case side4=>exact HC1.out);(case side5=>exact zS (kO HR1.out HB.out));(case side6=>exact HC1.out);rintro e w9 ⟨rfl,hb⟩;refine ⟨_,rfl,?_⟩;replace BK812:=zA (zB1 BK812.out hb);replace HB:=zA (kQ (zT HB.out GE812.out) hb);(try clear hb);obtain ⟨hcz10_0,hcz10_1,hfz10_0,hfz10_1⟩:=zB3 BK812.out) | (refine zO (some 18) Tryd.func63 #[.agg #[.int .i64 a0_0,.slice A0_1 l0_1.length c0_1],.slice A1 l1.length c1] ?_;(with_reducible refine (spec_l03Normal.calls k a0_0 _ _ l0_1 _ _ l1 t814 _ ?side1 ?side2 ?side3 ?side4 A5.out).mono ?_);(case side1=>exact zS (kO HR0_1.out HB.out));(case side2=>exact HC0_1.out);(case side3=>exact zS (kO HR1.out HB.out));(case side4=>exact HC1.out);rintro e w11 ⟨v815,rfl,ho0,hb⟩;refine ⟨_,rfl,?_⟩;have HO816:=zA (kI ho0 (kP (zT HB.out GE812.out)));replace BK812:=zA (zB1 BK812.out hb);replace HB:=zA (kQ (zT HB.out GE812.out) hb);(try clear hb);(try clear ho0);obtain ⟨hcz12_0,hcz12_1,hfz12_0,hfz12_1⟩:=zB3 BK812.out;obtain ⟨Ao13,co13,eo13⟩:=kM HO816.out;subst eo13) | (refine zO (some 22) Tryd.func64 #[.agg #[.int .i64 a0_0,.slice A0_1 l0_1.length c0_1],.slice Ao13 t814.length co13] ?_;(with_reducible refine (spec_l04Order.calls k a0_0 _ _ l0_1 _ _ t814 t817 _ ?side1 ?side2 ?side3 ?side4 A6.out).mono ?_);(case side1=>exact zS (kO HR0_1.out HB.out));(case side2=>exact HC0_1.out);(case side3=>exact zS (kB HO816.out).2.2);(case side4=>exact (kB HO816.out).2.1);rintro e w14 ⟨v818,rfl,ho0,hb⟩;refine ⟨_,rfl,?_⟩;have HO819:=zA (kI (kF ho0 (kH (zP HO816.out))) (kP (zT HB.out GE812.out)));replace HO816:=zA (kE (zP HO816.out) (kC ho0) hb);replace BK812:=zA (zB1 BK812.out hb);replace HB:=zA (kQ (zT HB.out GE812.out) hb);(try clear hb);(try clear ho0)))
  go_ret3
  exact ⟨_,_,zr,by (with_reducible repeat (first | apply zF | apply zG | apply zH));exact kA HO816.out (fun _ hk=>hk.2),by (with_reducible repeat (first | apply zF | apply zG | apply zH));exact kA HO819.out (fun _ hk=>hk.2),zT HB.out GE812.out⟩
 rw [if_neg c4] at H
 obtain ⟨c4b0,c4b1⟩:=zT2 c4
 simp only [Option.some.injEq,Prod.mk.injEq] at H
 obtain ⟨rfl,rfl,rfl⟩:=H
 go_enter Tryd.func33,Tryd.ntmps33
 go_wp2_with (first | (refine zBE 2 #[.int .i64 a0_0,.slice A0_1 l0_1.length c0_1] 26 ?_;intro gb812 hg w15 hbox hb;have BK812:=zA (hbox);have GW812:=zA (zBH hg HB.out);have GE812:=zA (zBH hg HB.out);replace HB:=zA (kQ (zQ HB.out) hb);clear hb hbox hg;obtain ⟨hcz16_0,hcz16_1,hfz16_0,hfz16_1⟩:=zB3 BK812.out) | (refine zO (some 12) Tryd.func62 #[.agg #[.int .i64 a0_0,.slice A0_1 l0_1.length c0_1],.slice A1 l1.length c1,.slice A1 l1.length c1] ?_;(with_reducible refine (spec_l03Code.calls k a0_0 _ _ l0_1 _ _ l1 _ _ l1 t813 _ ?side1 ?side2 ?side3 ?side4 ?side5 ?side6 A3.out).mono ?_);(case side1=>exact zS (kO HR0_1.out HB.out));(case side2=>exact HC0_1.out);(case side3=>exact zS (kO HR1.out HB.out));(case side4=>exact HC1.out);(case side5=>exact zS (kO HR1.out HB.out));(case side6=>exact HC1.out);rintro e w17 ⟨rfl,hb⟩;refine ⟨_,rfl,?_⟩;replace BK812:=zA (zB1 BK812.out hb);replace HB:=zA (kQ (zT HB.out GE812.out) hb);(try clear hb)))
 go_ret3
 exact ⟨_,_,zr,zn,zn,zT HB.out GE812.out⟩
def spec_l04Width.f:Nat → List Int → Int → Int → Option (Int)
 | 0,_,_,_=>none
 | k + 1,l0,a1,a2=>if a1 = (l0.length:Int) then (some 0) else ((spec_l04Width.f k l0 (wrap64 (a1 + 1)) a2).bind fun t820=>((spec_l01Bit.f a2 a1).bind fun t821=>(if t821 = true then (some t820) else (if 0 ≤ a1 then (if a1 < (l0.length:Int) then ((spec_l04Width.f k l0 (wrap64 (a1 + 1)) (Go.bits .or .i64 a2 (rd l0 a1))).bind fun t823=>(if (wrap64 (1 + t823)) > t820 then (some (wrap64 (1 + t823))) else (some t820))) else (none)) else (none)))))
set_option maxHeartbeats 8000000 in
set_option maxRecDepth 100000 in
theorem spec_l04Width.calls (k : Nat) : ∀ (A0 : Option Addr) (c0 : Nat) (l0 : List Int) (a1 : Int) (a2 : Int) (r : Int) (w : World) (hr0 : Kd.C (Kd.int .i64) w A0 l0.length l0) (hc0 : l0.length ≤ c0) (h : spec_l04Width.f k l0 a1 a2 = some r),
  Calls Tryd.prog 34 #[.slice A0 l0.length c0,.int .i64 a1,.int .i64 a2] w fun e w' => e = .returned (.int .i64 r) ∧ Drawn0 w w' := by
 induction k using Nat.strongRecOn with
 | _ k ih =>
 intro A0 c0 l0 a1 a2 r w hr0 hc0 h
 cases k with
 | zero=>exact absurd h (by simp [spec_l04Width.f])
 | succ k =>
 simp only [spec_l04Width.f] at h
 have HR0:=zA hr0
 have HC0:=zA hc0
 clear hr0 hc0
 have H:=h
 clear h
 by_cases c4:a1 = (l0.length:Int)
 ·rw [if_pos c4] at H
  obtain ⟨c4b0,c4b1⟩:=zT1 c4
  clear c4
  obtain rfl:=Option.some.inj H
  go_enter Tryd.func34,Tryd.ntmps34
  go_wp2
  go_ret
  exact ⟨zs,by repeat (first | exact Drawn0.refl _ | apply Drawn0.step)⟩
 rw [if_neg c4] at H
 obtain ⟨c4b0,c4b1⟩:=zT2 c4
 obtain ⟨t820,A5,H⟩:=zb H
 try dsimp only at H
 obtain ⟨t821,A6,H⟩:=zb H
 try dsimp only at H
 by_cases c7:t821 = true
 ·subst c7
  rw [if_pos rfl] at H
  obtain rfl:=Option.some.inj H
  go_enter Tryd.func34,Tryd.ntmps34
  go_wp2_with (first | (refine zO (some 17) Tryd.func34 #[.slice A0 l0.length c0,.int .i64 (wrap64 (a1 + 1)),.int .i64 a2] ?_;(with_reducible refine (ih k (by omega) _ _ l0 (wrap64 (a1 + 1)) a2 t820 _ ?side1 ?side2 A5.out).mono ?_);(case side1=>exact zS HR0.out);(case side2=>exact HC0.out);rintro e w' ⟨rfl,⟨nd,rfl⟩⟩;refine ⟨_,rfl,?_⟩) | (refine zO (some 20) Tryd.func65 #[.int .i64 a2,.int .i64 a1] ?_;(with_reducible refine (spec_l01Bit.calls a2 a1 true _ A6.out).mono ?_);rintro e w' ⟨rfl,⟨nd,rfl⟩⟩;refine ⟨_,rfl,?_⟩))
  go_ret
  exact ⟨zs,by repeat (first | exact Drawn0.refl _ | apply Drawn0.step)⟩
 replace c7:=Bool.eq_false_iff.mpr c7
 subst c7
 rw [if_neg (show ¬ (false = true) by decide)] at H
 by_cases c8:0 ≤ a1
 ·rw [if_pos c8] at H
  have c8b0:decide (0 ≤ a1) = true:=decide_eq_true c8
  clear c8
  by_cases c9:a1 < (l0.length:Int)
  ·rw [if_pos c9] at H
   have c9b0:decide (a1 < (l0.length:Int)) = true:=decide_eq_true c9
   clear c9
   obtain ⟨t823,A10,H⟩:=zb H
   try dsimp only at H
   by_cases c11:(wrap64 (1 + t823)) > t820
   ·rw [if_pos c11] at H
    have c11b0:decide (t820 < (wrap64 (1 + t823))) = true:=decide_eq_true c11
    clear c11
    obtain rfl:=Option.some.inj H
    go_enter Tryd.func34,Tryd.ntmps34
    go_wp2_with (first | (refine zO (some 17) Tryd.func34 #[.slice A0 l0.length c0,.int .i64 (wrap64 (a1 + 1)),.int .i64 a2] ?_;(with_reducible refine (ih k (by omega) _ _ l0 (wrap64 (a1 + 1)) a2 t820 _ ?side1 ?side2 A5.out).mono ?_);(case side1=>exact zS HR0.out);(case side2=>exact HC0.out);rintro e w' ⟨rfl,⟨nd,rfl⟩⟩;refine ⟨_,rfl,?_⟩) | (refine zO (some 20) Tryd.func65 #[.int .i64 a2,.int .i64 a1] ?_;(with_reducible refine (spec_l01Bit.calls a2 a1 false _ A6.out).mono ?_);rintro e w' ⟨rfl,⟨nd,rfl⟩⟩;refine ⟨_,rfl,?_⟩;have p822:0 ≤ (a1:Int):=zd;have q822:a1 < (l0.length:Int):=zd;obtain ⟨ad822,e822,hx822_0⟩:=Kd.at_int HR0.out a1 p822 q822;cases e822;replace p822:=eq_true p822;replace q822:=eq_true q822) | (refine zO (some 31) Tryd.func34 #[.slice (some ad822) l0.length c0,.int .i64 (wrap64 (a1 + 1)),.int .i64 (Go.bits .or .i64 a2 (rd l0 a1))] ?_;(with_reducible refine (ih k (by omega) _ _ l0 (wrap64 (a1 + 1)) (Go.bits .or .i64 a2 (rd l0 a1)) t823 _ ?side1 ?side2 A10.out).mono ?_);(case side1=>exact zS HR0.out);(case side2=>exact HC0.out);rintro e w' ⟨rfl,⟨nd,rfl⟩⟩;refine ⟨_,rfl,?_⟩))
    go_ret
    exact ⟨zs,by repeat (first | exact Drawn0.refl _ | apply Drawn0.step)⟩
   rw [if_neg c11] at H
   have c11b0:decide (t820 < (wrap64 (1 + t823))) = false:=decide_eq_false c11
   clear c11
   obtain rfl:=Option.some.inj H
   go_enter Tryd.func34,Tryd.ntmps34
   go_wp2_with (first | (refine zO (some 17) Tryd.func34 #[.slice A0 l0.length c0,.int .i64 (wrap64 (a1 + 1)),.int .i64 a2] ?_;(with_reducible refine (ih k (by omega) _ _ l0 (wrap64 (a1 + 1)) a2 t820 _ ?side1 ?side2 A5.out).mono ?_);(case side1=>exact zS HR0.out);(case side2=>exact HC0.out);rintro e w' ⟨rfl,⟨nd,rfl⟩⟩;refine ⟨_,rfl,?_⟩) | (refine zO (some 20) Tryd.func65 #[.int .i64 a2,.int .i64 a1] ?_;(with_reducible refine (spec_l01Bit.calls a2 a1 false _ A6.out).mono ?_);rintro e w' ⟨rfl,⟨nd,rfl⟩⟩;refine ⟨_,rfl,?_⟩;have p822:0 ≤ (a1:Int):=zd;have q822:a1 < (l0.length:Int):=zd;obtain ⟨ad822,e822,hx822_0⟩:=Kd.at_int HR0.out a1 p822 q822;cases e822;replace p822:=eq_true p822;replace q822:=eq_true q822) | (refine zO (some 31) Tryd.func34 #[.slice (some ad822) l0.length c0,.int .i64 (wrap64 (a1 + 1)),.int .i64 (Go.bits .or .i64 a2 (rd l0 a1))] ?_;(with_reducible refine (ih k (by omega) _ _ l0 (wrap64 (a1 + 1)) (Go.bits .or .i64 a2 (rd l0 a1)) t823 _ ?side1 ?side2 A10.out).mono ?_);(case side1=>exact zS HR0.out);(case side2=>exact HC0.out);rintro e w' ⟨rfl,⟨nd,rfl⟩⟩;refine ⟨_,rfl,?_⟩))
   go_ret
   exact ⟨zs,by repeat (first | exact Drawn0.refl _ | apply Drawn0.step)⟩
  rw [if_neg c9] at H
  exact absurd H (by simp)
 rw [if_neg c8] at H
 exact absurd H (by simp)
def spec_WidthOf.f (k:Nat) (a0_0:Int) (l0_1:List Int) (l1:List Int):Option (Int × Int):=(spec_l04Code.f k a0_0 l0_1 l1).bind fun bt825=>(if bt825.2.2 = 0 then ((spec_l04Width.f k bt825.2.1 0 0).bind fun t832=>(some (t832,0))) else (some (0,bt825.2.2)))
set_option maxHeartbeats 8000000 in
set_option maxRecDepth 100000 in
theorem spec_WidthOf.calls (k : Nat) (a0_0 : Int) (A0_1 : Option Addr) (c0_1 : Nat) (l0_1 : List Int) (A1 : Option Addr) (c1 : Nat) (l1 : List Int) (r1 : Int) (r2 : Int) (w : World) (hr0_1 : Kd.C (Kd.int .i64) w A0_1 l0_1.length l0_1) (hc0_1 : l0_1.length ≤ c0_1) (hr1 : Kd.C (Kd.int .i64) w A1 l1.length l1) (hc1 : l1.length ≤ c1) (h : spec_WidthOf.f k a0_0 l0_1 l1 = some (r1, r2)) :
  Calls Tryd.prog 14 #[.agg #[.int .i64 a0_0,.slice A0_1 l0_1.length c0_1],.slice A1 l1.length c1] w fun e w' => e = .returned (.tuple #[.int .i64 r1,.int .i64 r2]) ∧ Below w.heap.size w w' := by
 have hu26:=Tryd.underlying26
 have HR0_1:=zA hr0_1
 have HC0_1:=zA hc0_1
 clear hr0_1 hc0_1
 have HR1:=zA hr1
 have HC1:=zA hc1
 clear hr1 hc1
 have HB:=zA (kW w.heap.size w)
 have H:=h
 unfold spec_WidthOf.f at H
 clear h
 obtain ⟨⟨t825,t828,t831⟩,A3,H⟩:=zb H
 try dsimp only at H
 by_cases c4:t831 = 0
 ·rw [if_pos c4] at H
  obtain ⟨c4b0,c4b1⟩:=zT1 c4
  clear c4
  obtain ⟨t832,A5,H⟩:=zb H
  try dsimp only at H
  simp only [Option.some.injEq,Prod.mk.injEq] at H
  obtain ⟨rfl,rfl⟩:=H
  go_enter Tryd.func14,Tryd.ntmps14
  go_wp2_with (first | (refine zBE 2 #[.int .i64 a0_0,.slice A0_1 l0_1.length c0_1] 26 ?_;intro gb824 hg w6 hbox hb;have BK824:=zA (hbox);have GW824:=zA (zBH hg HB.out);have GE824:=zA (zBH hg HB.out);replace HB:=zA (kQ (zQ HB.out) hb);clear hb hbox hg;obtain ⟨hcz7_0,hcz7_1,hfz7_0,hfz7_1⟩:=zB3 BK824.out) | (refine zO (some 12) Tryd.func33 #[.agg #[.int .i64 a0_0,.slice A0_1 l0_1.length c0_1],.slice A1 l1.length c1] ?_;(with_reducible refine (spec_l04Code.calls k a0_0 _ _ l0_1 _ _ l1 t825 t828 t831 _ ?side1 ?side2 ?side3 ?side4 A3.out).mono ?_);(case side1=>exact zS (kO HR0_1.out HB.out));(case side2=>exact HC0_1.out);(case side3=>exact zS (kO HR1.out HB.out));(case side4=>exact HC1.out);rintro e w8 ⟨v826,v829,rfl,ho0,ho1,hb⟩;refine ⟨_,rfl,?_⟩;have HO827:=zA (kI ho0 (kP (zT HB.out GE824.out)));have HO830:=zA (kI ho1 (kP (zT HB.out GE824.out)));replace BK824:=zA (zB1 BK824.out hb);replace HB:=zA (kQ (zT HB.out GE824.out) hb);(try clear hb);(try clear ho0);(try clear ho1);obtain ⟨Ao9,co9,eo9⟩:=kM HO830.out;subst eo9) | (refine zO (some 20) Tryd.func34 #[.slice Ao9 t828.length co9,.int .i64 0,.int .i64 0] ?_;(with_reducible refine (spec_l04Width.calls k _ _ t828 0 0 t832 _ ?side1 ?side2 A5.out).mono ?_);(case side1=>exact zS (kB HO830.out).2.2);(case side2=>exact (kB HO830.out).2.1);rintro e w' ⟨rfl,⟨nd,rfl⟩⟩;refine ⟨_,rfl,?_⟩))
  go_ret2
  exact ⟨zr,zT HB.out GE824.out⟩
 rw [if_neg c4] at H
 obtain ⟨c4b0,c4b1⟩:=zT2 c4
 simp only [Option.some.injEq,Prod.mk.injEq] at H
 obtain ⟨rfl,rfl⟩:=H
 go_enter Tryd.func14,Tryd.ntmps14
 go_wp2_with (first | (refine zBE 2 #[.int .i64 a0_0,.slice A0_1 l0_1.length c0_1] 26 ?_;intro gb824 hg w10 hbox hb;have BK824:=zA (hbox);have GW824:=zA (zBH hg HB.out);have GE824:=zA (zBH hg HB.out);replace HB:=zA (kQ (zQ HB.out) hb);clear hb hbox hg;obtain ⟨hcz11_0,hcz11_1,hfz11_0,hfz11_1⟩:=zB3 BK824.out) | (refine zO (some 12) Tryd.func33 #[.agg #[.int .i64 a0_0,.slice A0_1 l0_1.length c0_1],.slice A1 l1.length c1] ?_;(with_reducible refine (spec_l04Code.calls k a0_0 _ _ l0_1 _ _ l1 t825 t828 t831 _ ?side1 ?side2 ?side3 ?side4 A3.out).mono ?_);(case side1=>exact zS (kO HR0_1.out HB.out));(case side2=>exact HC0_1.out);(case side3=>exact zS (kO HR1.out HB.out));(case side4=>exact HC1.out);rintro e w12 ⟨v826,v829,rfl,ho0,ho1,hb⟩;refine ⟨_,rfl,?_⟩;have HO827:=zA (kI ho0 (kP (zT HB.out GE824.out)));have HO830:=zA (kI ho1 (kP (zT HB.out GE824.out)));replace BK824:=zA (zB1 BK824.out hb);replace HB:=zA (kQ (zT HB.out GE824.out) hb);(try clear hb);(try clear ho0);(try clear ho1)))
 go_ret2
 exact ⟨zr,zT HB.out GE824.out⟩
def impl_checkPosition.f (k:Nat) (a0_0:Int) (l0_1:List Int) (l1:List Int) (a2:Int):Option (List Int × Int):=(impl_checkWords.f k a0_0 l0_1 (([l1]:List (List Int)))).bind fun t837=>(if t837 = 0 then ((impl_length_int64.f l1).bind fun t838=>((impl_inRange.f a2 0 (wrap64 (t838 - 1))).bind fun t839=>(if t839 = true then ((impl_positions.f k a0_0 l0_1 l1).bind fun bt840=>(some (bt840.2,0))) else (some (([]:List Int),2))))) else (some (([]:List Int),t837)))
set_option maxHeartbeats 8000000 in
set_option maxRecDepth 100000 in
theorem impl_checkPosition.calls (k : Nat) (a0_0 : Int) (A0_1 : Option Addr) (c0_1 : Nat) (l0_1 : List Int) (P1_ : Nat → Prop) (A1 : Option Addr) (c1 : Nat) (l1 : List Int) (a2 : Int) (r1 : List Int) (r2 : Int) (w : World) (hr0_1 : Kd.C (Kd.int .i64) w A0_1 l0_1.length l0_1) (hc0_1 : l0_1.length ≤ c0_1) (hs1 : Kd.V (Kd.int .i64) 2 w w.heap.size (fun k_ => P1_ k_) (.slice A1 l1.length c1) l1) (hT : TabW w) (h : impl_checkPosition.f k a0_0 l0_1 l1 a2 = some (r1, r2)) :
  Calls Tryd.prog 35 #[.agg #[.int .i64 a0_0,.slice A0_1 l0_1.length c0_1],.slice A1 l1.length c1,.int .i64 a2] w fun e w' => ∃ v0_:Value,e = .returned (.tuple #[v0_,.int .i64 r2]) ∧ Kd.R (Kd.int .i64) 2 w' w.heap.size (fun k_=>(w.heap.size ≤ k_)) v0_ r1 ∧ Below w.heap.size w w' := by
 have hu26:=Tryd.underlying26
 have HT:=zA hT
 clear hT
 have HR0_1:=zA hr0_1
 have HC0_1:=zA hc0_1
 clear hr0_1 hc0_1
 have HO1:=zA (show Kd.V (Kd.int .i64) 2 w w.heap.size (fun k_=>(P1_ k_ ∨ w.heap.size ≤ k_)) (.slice A1 l1.length c1) l1 from kN hs1 (fun k_ hk=>.inl hk))
 have HB:=zA (kW w.heap.size w)
 have H:=h
 unfold impl_checkPosition.f at H
 clear h
 obtain ⟨y834,hy834⟩:∃ y_:List (List Int),y_ = (([l1]:List (List Int))):=⟨_,rfl⟩
 replace H:((impl_checkWords.f k a0_0 l0_1 y834).bind fun t837=>(if t837 = 0 then ((impl_length_int64.f l1).bind fun t838=>((impl_inRange.f a2 0 (wrap64 (t838 - 1))).bind fun t839=>(if t839 = true then ((impl_positions.f k a0_0 l0_1 l1).bind fun bt840=>(some (bt840.2,0))) else (some (([]:List Int),2))))) else (some (([]:List Int),t837)))) = some (r1,r2):=zy hy834 H
 have Ny834:=zA hy834
 clear hy834
 obtain ⟨t837,A4,H⟩:=zb H
 try dsimp only at H
 by_cases c5:t837 = 0
 ·rw [if_pos c5] at H
  obtain ⟨c5b0,c5b1⟩:=zT1 c5
  clear c5
  obtain ⟨t838,A6,H⟩:=zb H
  try dsimp only at H
  obtain ⟨t839,A7,H⟩:=zb H
  try dsimp only at H
  by_cases c8:t839 = true
  ·subst c8
   rw [if_pos rfl] at H
   obtain ⟨⟨t840,t843⟩,A9,H⟩:=zb H
   try dsimp only at H
   simp only [Option.some.injEq,Prod.mk.injEq] at H
   obtain ⟨rfl,rfl⟩:=H
   go_enter Tryd.func35,Tryd.ntmps35
   go_wp2_with (first | (refine zBE 3 #[.int .i64 a0_0,.slice A0_1 l0_1.length c0_1] 26 ?_;intro gb833 hg w10 hbox hb;replace HO1:=zA (kG (jD (zPV HO1.out) gb833 (Nat.le_of_eq hg.symm)) hb);have BK833:=zA (hbox);have GW833:=zA (zBH hg HB.out);have GE833:=zA (zBH hg HB.out);replace HB:=zA (kQ (zQ HB.out) hb);clear hb hbox hg;obtain ⟨hcz11_0,hcz11_1,hfz11_0,hfz11_1⟩:=zB3 BK833.out) | ((with_reducible refine kS (N:=13) rfl ?_);refine Kd.N_lit (Kd.slice 2 (Kd.int .i64)) _ 24 ?hg (N' := 13) ?hd (xs:=([l1]:List (List Int))) (inner:=[.slice A1 l1.length c1]) (ok:=(fun k_=>(P1_ k_ ∨ w.heap.size ≤ k_) ∧ k_ ≠ gb833)) (okp:=(fun k_=>(P1_ k_ ∨ w.heap.size ≤ k_) ∧ k_ ≠ gb833)) ?hr ?hp (fun _ hk=>hk) ((show ∀ k_:Nat,(_:Nat) ≤ k_ → (fun k_=>(P1_ k_ ∨ w.heap.size ≤ k_) ∧ k_ ≠ gb833) k_ from fun k_ hk=>⟨(.inr (Nat.le_trans (kP (zT HB.out GE833.out)) hk)),jE (g:=gb833) (o:=.cells #[.int .i64 a0_0,.slice A0_1 l0_1.length c0_1] 26 (0,0)) (zR BK833.out) k_ hk⟩) _ (Nat.le_refl _)) (kW _ _) (Nat.le_refl _) (by simp) ?_;(case hd=>rfl);(case hg=>rfl);(case hr=>first | (go_simp;done) | (go_simp;rfl));(case hp=>exact (Reps.one (show Kd.FK (Kd.slice 2 (Kd.int .i64)) _ _ l1 [.slice A1 l1.length c1] from (zFK (kN (ok' := (fun k_=>(P1_ k_ ∨ w.heap.size ≤ k_) ∧ k_ ≠ gb833)) (HO1.out) (fun k_ hk=>⟨hk.1,hk.2⟩)))) (Reps.none _ _)));intro v835 w12 ho13 hb hg_ hnew_;clear hg_ hnew_;(first | rw [← Ny834.out] at ho13 | (simp only [Int.reduceToNat] at ho13;rw [← Ny834.out] at ho13));replace HO1:=zA (kK (zPV HO1.out) (Kd.N_base ho13) hb);have HO836:=zA (jN ho13 (kP (zT HB.out GE833.out)));replace BK833:=zA (zB1 BK833.out hb);replace HB:=zA (kQ (zT HB.out GE833.out) hb);clear hb ho13;obtain ⟨Ao14,co14,eo14⟩:=Kd.N_slice HO836.out;subst eo14) | (refine zO (some 14) Tryd.func27 #[.agg #[.int .i64 a0_0,.slice A0_1 l0_1.length c0_1],.slice Ao14 y834.length co14] ?_;(with_reducible refine (impl_checkWords.calls k a0_0 _ _ l0_1 _ _ y834 t837 _ ?side1 ?side2 ?side3 ?side4 ?side5 A4.out).mono ?_);(case side1=>exact zS (kO HR0_1.out HB.out));(case side2=>exact HC0_1.out);(case side3=>exact zS (Kd.N_reads' HO836.out).2.2);(case side4=>exact (Kd.N_reads' HO836.out).2.1);(case side5=>exact TabW.below HT.out (zT HB.out GE833.out));rintro e w15 ⟨rfl,hb⟩;refine ⟨_,rfl,?_⟩;replace HO1:=zA (kG (zPV HO1.out) hb);replace HO836:=zA (kZ (zPN HO836.out) hb);replace BK833:=zA (zB1 BK833.out hb);replace HB:=zA (kQ (zT HB.out GE833.out) hb);(try clear hb)) | (refine zO (some 20) Tryd.func32 #[.slice A1 l1.length c1] ?_;(with_reducible refine (impl_length_int64.calls _ _ l1 t838 _ ?side1 ?side2 A6.out).mono ?_);(case side1=>exact zS (kJ HO1.out).2.2);(case side2=>exact (kJ HO1.out).2.1);rintro e w' ⟨rfl,⟨nd,rfl⟩⟩;refine ⟨_,rfl,?_⟩) | (refine zO (some 22) Tryd.func50 #[.int .i64 a2,.int .i64 0,.int .i64 (wrap64 (t838 - 1))] ?_;(with_reducible refine (impl_inRange.calls a2 0 (wrap64 (t838 - 1)) true _ A7.out).mono ?_);rintro e w' ⟨rfl,⟨nd,rfl⟩⟩;refine ⟨_,rfl,?_⟩;obtain ⟨hcz16_0,hcz16_1,hfz16_0,hfz16_1⟩:=zB3 BK833.out) | (refine zO (some 27) Tryd.func28 #[.agg #[.int .i64 a0_0,.slice A0_1 l0_1.length c0_1],.slice A1 l1.length c1] ?_;(with_reducible refine (impl_positions.calls k a0_0 _ _ l0_1 _ _ l1 t840 t843 _ ?side1 ?side2 ?side3 ?side4 ?side5 A9.out).mono ?_);(case side1=>exact zS (kO HR0_1.out (zT HB.out GE833.out)));(case side2=>exact HC0_1.out);(case side3=>exact zS (kJ HO1.out).2.2);(case side4=>exact (kJ HO1.out).2.1);(case side5=>exact TabW.below HT.out (zT HB.out GE833.out));rintro e w17 ⟨v841,v844,rfl,ho0,ho1,hb⟩;refine ⟨_,rfl,?_⟩;replace HO1:=zA (kN (Kd.V_told (Kd.V_told (Kd.V_old (zPV HO1.out) hb) (kC ho0)) (kC ho1)) (fun _ h_=>h_.1));replace HO836:=zA (Kd.N_mono (Kd.N_told (Kd.N_told (Kd.N_old (zPN HO836.out) hb) (kC ho0)) (kC ho1)) (fun _ h_=>h_.1));have HO842:=zA (kI (Kd.R_newM (M:=fun k_=>(w.heap.size ≤ k_)) ho0 (kP (zT HB.out GE833.out)) (fun k_ h_=>h_)) (kP (zT HB.out GE833.out)));have HO845:=zA (kI (Kd.R_newM (M:=fun k_=>(w.heap.size ≤ k_)) ho1 (kP (zT HB.out GE833.out)) (fun k_ h_=>h_)) (kP (zT HB.out GE833.out)));replace BK833:=zA (zB1 BK833.out hb);replace HB:=zA (kQ (zT HB.out GE833.out) hb);(try clear hb);(try clear ho0);(try clear ho1)))
   go_ret2
   exact ⟨_,zr,by (with_reducible repeat (first | apply zF | apply zG | apply zH));exact kA HO845.out (fun _ hk=>hk.1),zT HB.out GE833.out⟩
  replace c8:=Bool.eq_false_iff.mpr c8
  subst c8
  rw [if_neg (show ¬ (false = true) by decide)] at H
  simp only [Option.some.injEq,Prod.mk.injEq] at H
  obtain ⟨rfl,rfl⟩:=H
  go_enter Tryd.func35,Tryd.ntmps35
  go_wp2_with (first | (refine zBE 3 #[.int .i64 a0_0,.slice A0_1 l0_1.length c0_1] 26 ?_;intro gb833 hg w18 hbox hb;replace HO1:=zA (kG (jD (zPV HO1.out) gb833 (Nat.le_of_eq hg.symm)) hb);have BK833:=zA (hbox);have GW833:=zA (zBH hg HB.out);have GE833:=zA (zBH hg HB.out);replace HB:=zA (kQ (zQ HB.out) hb);clear hb hbox hg;obtain ⟨hcz19_0,hcz19_1,hfz19_0,hfz19_1⟩:=zB3 BK833.out) | ((with_reducible refine kS (N:=13) rfl ?_);refine Kd.N_lit (Kd.slice 2 (Kd.int .i64)) _ 24 ?hg (N' := 13) ?hd (xs:=([l1]:List (List Int))) (inner:=[.slice A1 l1.length c1]) (ok:=(fun k_=>(P1_ k_ ∨ w.heap.size ≤ k_) ∧ k_ ≠ gb833)) (okp:=(fun k_=>(P1_ k_ ∨ w.heap.size ≤ k_) ∧ k_ ≠ gb833)) ?hr ?hp (fun _ hk=>hk) ((show ∀ k_:Nat,(_:Nat) ≤ k_ → (fun k_=>(P1_ k_ ∨ w.heap.size ≤ k_) ∧ k_ ≠ gb833) k_ from fun k_ hk=>⟨(.inr (Nat.le_trans (kP (zT HB.out GE833.out)) hk)),jE (g:=gb833) (o:=.cells #[.int .i64 a0_0,.slice A0_1 l0_1.length c0_1] 26 (0,0)) (zR BK833.out) k_ hk⟩) _ (Nat.le_refl _)) (kW _ _) (Nat.le_refl _) (by simp) ?_;(case hd=>rfl);(case hg=>rfl);(case hr=>first | (go_simp;done) | (go_simp;rfl));(case hp=>exact (Reps.one (show Kd.FK (Kd.slice 2 (Kd.int .i64)) _ _ l1 [.slice A1 l1.length c1] from (zFK (kN (ok' := (fun k_=>(P1_ k_ ∨ w.heap.size ≤ k_) ∧ k_ ≠ gb833)) (HO1.out) (fun k_ hk=>⟨hk.1,hk.2⟩)))) (Reps.none _ _)));intro v835 w20 ho21 hb hg_ hnew_;clear hg_ hnew_;(first | rw [← Ny834.out] at ho21 | (simp only [Int.reduceToNat] at ho21;rw [← Ny834.out] at ho21));replace HO1:=zA (kK (zPV HO1.out) (Kd.N_base ho21) hb);have HO836:=zA (jN ho21 (kP (zT HB.out GE833.out)));replace BK833:=zA (zB1 BK833.out hb);replace HB:=zA (kQ (zT HB.out GE833.out) hb);clear hb ho21;obtain ⟨Ao22,co22,eo22⟩:=Kd.N_slice HO836.out;subst eo22) | (refine zO (some 14) Tryd.func27 #[.agg #[.int .i64 a0_0,.slice A0_1 l0_1.length c0_1],.slice Ao22 y834.length co22] ?_;(with_reducible refine (impl_checkWords.calls k a0_0 _ _ l0_1 _ _ y834 t837 _ ?side1 ?side2 ?side3 ?side4 ?side5 A4.out).mono ?_);(case side1=>exact zS (kO HR0_1.out HB.out));(case side2=>exact HC0_1.out);(case side3=>exact zS (Kd.N_reads' HO836.out).2.2);(case side4=>exact (Kd.N_reads' HO836.out).2.1);(case side5=>exact TabW.below HT.out (zT HB.out GE833.out));rintro e w23 ⟨rfl,hb⟩;refine ⟨_,rfl,?_⟩;replace HO1:=zA (kG (zPV HO1.out) hb);replace HO836:=zA (kZ (zPN HO836.out) hb);replace BK833:=zA (zB1 BK833.out hb);replace HB:=zA (kQ (zT HB.out GE833.out) hb);(try clear hb)) | (refine zO (some 20) Tryd.func32 #[.slice A1 l1.length c1] ?_;(with_reducible refine (impl_length_int64.calls _ _ l1 t838 _ ?side1 ?side2 A6.out).mono ?_);(case side1=>exact zS (kJ HO1.out).2.2);(case side2=>exact (kJ HO1.out).2.1);rintro e w' ⟨rfl,⟨nd,rfl⟩⟩;refine ⟨_,rfl,?_⟩) | (refine zO (some 22) Tryd.func50 #[.int .i64 a2,.int .i64 0,.int .i64 (wrap64 (t838 - 1))] ?_;(with_reducible refine (impl_inRange.calls a2 0 (wrap64 (t838 - 1)) false _ A7.out).mono ?_);rintro e w' ⟨rfl,⟨nd,rfl⟩⟩;refine ⟨_,rfl,?_⟩))
  go_ret2
  exact ⟨_,zr,zn,zT HB.out GE833.out⟩
 rw [if_neg c5] at H
 obtain ⟨c5b0,c5b1⟩:=zT2 c5
 simp only [Option.some.injEq,Prod.mk.injEq] at H
 obtain ⟨rfl,rfl⟩:=H
 go_enter Tryd.func35,Tryd.ntmps35
 go_wp2_with (first | (refine zBE 3 #[.int .i64 a0_0,.slice A0_1 l0_1.length c0_1] 26 ?_;intro gb833 hg w24 hbox hb;replace HO1:=zA (kG (jD (zPV HO1.out) gb833 (Nat.le_of_eq hg.symm)) hb);have BK833:=zA (hbox);have GW833:=zA (zBH hg HB.out);have GE833:=zA (zBH hg HB.out);replace HB:=zA (kQ (zQ HB.out) hb);clear hb hbox hg;obtain ⟨hcz25_0,hcz25_1,hfz25_0,hfz25_1⟩:=zB3 BK833.out) | ((with_reducible refine kS (N:=13) rfl ?_);refine Kd.N_lit (Kd.slice 2 (Kd.int .i64)) _ 24 ?hg (N' := 13) ?hd (xs:=([l1]:List (List Int))) (inner:=[.slice A1 l1.length c1]) (ok:=(fun k_=>(P1_ k_ ∨ w.heap.size ≤ k_) ∧ k_ ≠ gb833)) (okp:=(fun k_=>(P1_ k_ ∨ w.heap.size ≤ k_) ∧ k_ ≠ gb833)) ?hr ?hp (fun _ hk=>hk) ((show ∀ k_:Nat,(_:Nat) ≤ k_ → (fun k_=>(P1_ k_ ∨ w.heap.size ≤ k_) ∧ k_ ≠ gb833) k_ from fun k_ hk=>⟨(.inr (Nat.le_trans (kP (zT HB.out GE833.out)) hk)),jE (g:=gb833) (o:=.cells #[.int .i64 a0_0,.slice A0_1 l0_1.length c0_1] 26 (0,0)) (zR BK833.out) k_ hk⟩) _ (Nat.le_refl _)) (kW _ _) (Nat.le_refl _) (by simp) ?_;(case hd=>rfl);(case hg=>rfl);(case hr=>first | (go_simp;done) | (go_simp;rfl));(case hp=>exact (Reps.one (show Kd.FK (Kd.slice 2 (Kd.int .i64)) _ _ l1 [.slice A1 l1.length c1] from (zFK (kN (ok' := (fun k_=>(P1_ k_ ∨ w.heap.size ≤ k_) ∧ k_ ≠ gb833)) (HO1.out) (fun k_ hk=>⟨hk.1,hk.2⟩)))) (Reps.none _ _)));intro v835 w26 ho27 hb hg_ hnew_;clear hg_ hnew_;(first | rw [← Ny834.out] at ho27 | (simp only [Int.reduceToNat] at ho27;rw [← Ny834.out] at ho27));replace HO1:=zA (kK (zPV HO1.out) (Kd.N_base ho27) hb);have HO836:=zA (jN ho27 (kP (zT HB.out GE833.out)));replace BK833:=zA (zB1 BK833.out hb);replace HB:=zA (kQ (zT HB.out GE833.out) hb);clear hb ho27;obtain ⟨Ao28,co28,eo28⟩:=Kd.N_slice HO836.out;subst eo28) | (refine zO (some 14) Tryd.func27 #[.agg #[.int .i64 a0_0,.slice A0_1 l0_1.length c0_1],.slice Ao28 y834.length co28] ?_;(with_reducible refine (impl_checkWords.calls k a0_0 _ _ l0_1 _ _ y834 t837 _ ?side1 ?side2 ?side3 ?side4 ?side5 A4.out).mono ?_);(case side1=>exact zS (kO HR0_1.out HB.out));(case side2=>exact HC0_1.out);(case side3=>exact zS (Kd.N_reads' HO836.out).2.2);(case side4=>exact (Kd.N_reads' HO836.out).2.1);(case side5=>exact TabW.below HT.out (zT HB.out GE833.out));rintro e w29 ⟨rfl,hb⟩;refine ⟨_,rfl,?_⟩;replace HO1:=zA (kG (zPV HO1.out) hb);replace HO836:=zA (kZ (zPN HO836.out) hb);replace BK833:=zA (zB1 BK833.out hb);replace HB:=zA (kQ (zT HB.out GE833.out) hb);(try clear hb)))
 go_ret2
 exact ⟨_,zr,zn,zT HB.out GE833.out⟩
def impl_ConcurrentWith.f (k:Nat) (a0_0:Int) (l0_1:List Int) (l1:List Int) (a2:Int):Option (Int × Int):=(impl_checkPosition.f k a0_0 l0_1 l1 a2).bind fun bt847=>(if bt847.2 = 0 then ((impl_concurrent.f k bt847.1).bind fun t851=>(if 0 ≤ a2 then (if a2 < (t851.length:Int) then (some (rd t851 a2,0)) else (none)) else (none))) else (some (0,bt847.2)))
set_option maxHeartbeats 8000000 in
set_option maxRecDepth 100000 in
theorem impl_ConcurrentWith.calls (k : Nat) (a0_0 : Int) (A0_1 : Option Addr) (c0_1 : Nat) (l0_1 : List Int) (A1 : Option Addr) (c1 : Nat) (l1 : List Int) (a2 : Int) (r1 : Int) (r2 : Int) (w : World) (hr0_1 : Kd.C (Kd.int .i64) w A0_1 l0_1.length l0_1) (hc0_1 : l0_1.length ≤ c0_1) (hr1 : Kd.C (Kd.int .i64) w A1 l1.length l1) (hc1 : l1.length ≤ c1) (hT : TabW w) (h : impl_ConcurrentWith.f k a0_0 l0_1 l1 a2 = some (r1, r2)) :
  Calls Tryd.prog 15 #[.agg #[.int .i64 a0_0,.slice A0_1 l0_1.length c0_1],.slice A1 l1.length c1,.int .i64 a2] w fun e w' => e = .returned (.tuple #[.int .i64 r1,.int .i64 r2]) ∧ Below w.heap.size w w' := by
 have hu26:=Tryd.underlying26
 have HT:=zA hT
 clear hT
 have HR0_1:=zA hr0_1
 have HC0_1:=zA hc0_1
 clear hr0_1 hc0_1
 have HR1:=zA hr1
 have HC1:=zA hc1
 clear hr1 hc1
 have HB:=zA (kW w.heap.size w)
 have H:=h
 unfold impl_ConcurrentWith.f at H
 clear h
 obtain ⟨⟨t847,t850⟩,A4,H⟩:=zb H
 try dsimp only at H
 by_cases c5:t850 = 0
 ·rw [if_pos c5] at H
  obtain ⟨c5b0,c5b1⟩:=zT1 c5
  clear c5
  obtain ⟨t851,A6,H⟩:=zb H
  try dsimp only at H
  by_cases c7:0 ≤ a2
  ·rw [if_pos c7] at H
   have c7b0:decide (0 ≤ a2) = true:=decide_eq_true c7
   clear c7
   by_cases c8:a2 < (t851.length:Int)
   ·rw [if_pos c8] at H
    have c8b0:decide (a2 < (t851.length:Int)) = true:=decide_eq_true c8
    clear c8
    simp only [Option.some.injEq,Prod.mk.injEq] at H
    obtain ⟨rfl,rfl⟩:=H
    go_enter Tryd.func15,Tryd.ntmps15
    go_wp2_with (first | (refine zBE 3 #[.int .i64 a0_0,.slice A0_1 l0_1.length c0_1] 26 ?_;intro gb846 hg w9 hbox hb;have BK846:=zA (hbox);have GW846:=zA (zBH hg HB.out);have GE846:=zA (zBH hg HB.out);replace HB:=zA (kQ (zQ HB.out) hb);clear hb hbox hg;obtain ⟨hcz10_0,hcz10_1,hfz10_0,hfz10_1⟩:=zB3 BK846.out) | (refine zO (some 14) Tryd.func35 #[.agg #[.int .i64 a0_0,.slice A0_1 l0_1.length c0_1],.slice A1 l1.length c1,.int .i64 a2] ?_;(with_reducible refine (impl_checkPosition.calls k a0_0 _ _ l0_1 (fun k_=>k_ < w.heap.size) _ _ l1 a2 t847 t850 _ ?side1 ?side2 ?side3 ?side4 A4.out).mono ?_);(case side1=>exact zS (kO HR0_1.out HB.out));(case side2=>exact HC0_1.out);(case side3=>exact Kd.V_mk HC1.out (Kd.F_below (Kd.C_F (Kd.heap_int .i64) HR1.out) (zT HB.out GE846.out)));(case side4=>exact TabW.below HT.out (zT HB.out GE846.out));rintro e w11 ⟨v848,rfl,ho0,hb⟩;refine ⟨_,rfl,?_⟩;have HO849:=zA (kI (kA (ok' := fun k_=>True) ho0 (fun _ hk_=>trivial)) (kP (zT HB.out GE846.out)));replace BK846:=zA (zB1 BK846.out hb);replace HB:=zA (kQ (zT HB.out GE846.out) hb);(try clear hb);(try clear ho0);obtain ⟨Ao12,co12,eo12⟩:=kM HO849.out;subst eo12) | (refine zO (some 21) Tryd.func30 #[.slice Ao12 t847.length co12] ?_;(with_reducible refine (impl_concurrent.calls k _ _ t847 t851 _ ?side1 ?side2 ?side3 A6.out).mono ?_);(case side1=>exact zS (kB HO849.out).2.2);(case side2=>exact (kB HO849.out).2.1);(case side3=>exact TabW.below HT.out (zT HB.out GE846.out));rintro e w13 ⟨v852,rfl,ho0,hb⟩;refine ⟨_,rfl,?_⟩;have HO853:=zA (kI (kF ho0 (kH (zP HO849.out))) (kP (zT HB.out GE846.out)));replace HO849:=zA (kE (zP HO849.out) (kC ho0) hb);replace BK846:=zA (zB1 BK846.out hb);replace HB:=zA (kQ (zT HB.out GE846.out) hb);(try clear hb);(try clear ho0);obtain ⟨Ao14,co14,eo14⟩:=kM HO853.out;subst eo14;have p854:0 ≤ (a2:Int):=zd;have q854:a2 < (t851.length:Int):=zd;obtain ⟨ad854,e854,hx854_0⟩:=Kd.at_int (kB HO853.out).2.2 a2 p854 q854;cases e854;replace p854:=eq_true p854;replace q854:=eq_true q854))
    go_ret2
    exact ⟨zr,zT HB.out GE846.out⟩
   rw [if_neg c8] at H
   exact absurd H (by simp)
  rw [if_neg c7] at H
  exact absurd H (by simp)
 rw [if_neg c5] at H
 obtain ⟨c5b0,c5b1⟩:=zT2 c5
 simp only [Option.some.injEq,Prod.mk.injEq] at H
 obtain ⟨rfl,rfl⟩:=H
 go_enter Tryd.func15,Tryd.ntmps15
 go_wp2_with (first | (refine zBE 3 #[.int .i64 a0_0,.slice A0_1 l0_1.length c0_1] 26 ?_;intro gb846 hg w15 hbox hb;have BK846:=zA (hbox);have GW846:=zA (zBH hg HB.out);have GE846:=zA (zBH hg HB.out);replace HB:=zA (kQ (zQ HB.out) hb);clear hb hbox hg;obtain ⟨hcz16_0,hcz16_1,hfz16_0,hfz16_1⟩:=zB3 BK846.out) | (refine zO (some 14) Tryd.func35 #[.agg #[.int .i64 a0_0,.slice A0_1 l0_1.length c0_1],.slice A1 l1.length c1,.int .i64 a2] ?_;(with_reducible refine (impl_checkPosition.calls k a0_0 _ _ l0_1 (fun k_=>k_ < w.heap.size) _ _ l1 a2 t847 t850 _ ?side1 ?side2 ?side3 ?side4 A4.out).mono ?_);(case side1=>exact zS (kO HR0_1.out HB.out));(case side2=>exact HC0_1.out);(case side3=>exact Kd.V_mk HC1.out (Kd.F_below (Kd.C_F (Kd.heap_int .i64) HR1.out) (zT HB.out GE846.out)));(case side4=>exact TabW.below HT.out (zT HB.out GE846.out));rintro e w17 ⟨v848,rfl,ho0,hb⟩;refine ⟨_,rfl,?_⟩;have HO849:=zA (kI (kA (ok' := fun k_=>True) ho0 (fun _ hk_=>trivial)) (kP (zT HB.out GE846.out)));replace BK846:=zA (zB1 BK846.out hb);replace HB:=zA (kQ (zT HB.out GE846.out) hb);(try clear hb);(try clear ho0)))
 go_ret2
 exact ⟨zr,zT HB.out GE846.out⟩
def impl_CliquesOf.f (k:Nat) (l0:List Int):Option (List Int × Int):=(impl_IsRelation.f l0).bind fun t855=>(if t855 = true then ((impl_cliques.f k l0).bind fun bt856=>(some (bt856.1,bt856.2))) else (some (([]:List Int),1)))
set_option maxHeartbeats 8000000 in
set_option maxRecDepth 100000 in
theorem impl_CliquesOf.calls (k : Nat) (A0 : Option Addr) (c0 : Nat) (l0 : List Int) (r1 : List Int) (r2 : Int) (w : World) (hr0 : Kd.C (Kd.int .i64) w A0 l0.length l0) (hc0 : l0.length ≤ c0) (hT : TabW w) (h : impl_CliquesOf.f k l0 = some (r1, r2)) :
  Calls Tryd.prog 16 #[.slice A0 l0.length c0] w fun e w' => ∃ v0_:Value,e = .returned (.tuple #[v0_,.int .i64 r2]) ∧ Kd.R (Kd.int .i64) 2 w' w.heap.size (fun _=>True) v0_ r1 ∧ Below w.heap.size w w' := by
 have HT:=zA hT
 clear hT
 have HR0:=zA hr0
 have HC0:=zA hc0
 clear hr0 hc0
 have HB:=zA (kW w.heap.size w)
 have H:=h
 unfold impl_CliquesOf.f at H
 clear h
 obtain ⟨t855,A2,H⟩:=zb H
 try dsimp only at H
 by_cases c3:t855 = true
 ·subst c3
  rw [if_pos rfl] at H
  obtain ⟨⟨t856,t857⟩,A4,H⟩:=zb H
  try dsimp only at H
  simp only [Option.some.injEq,Prod.mk.injEq] at H
  obtain ⟨rfl,rfl⟩:=H
  go_enter Tryd.func16,Tryd.ntmps16
  go_wp2_with (first | (refine zO (some 5) Tryd.func36 #[.slice A0 l0.length c0] ?_;(with_reducible refine (impl_IsRelation.calls _ _ l0 true _ ?side1 ?side2 A2.out).mono ?_);(case side1=>exact zS HR0.out);(case side2=>exact HC0.out);rintro e w5 ⟨rfl,hb⟩;refine ⟨_,rfl,?_⟩;replace HB:=zA (kQ (zQ HB.out) hb);(try clear hb)) | (refine zO (some 8) Tryd.func37 #[.slice A0 l0.length c0] ?_;(with_reducible refine (impl_cliques.calls k _ _ l0 t856 t857 _ ?side1 ?side2 ?side3 A4.out).mono ?_);(case side1=>exact zS (kO HR0.out HB.out));(case side2=>exact HC0.out);(case side3=>exact TabW.below HT.out (zQ HB.out));rintro e w6 ⟨v858,rfl,ho0,hb⟩;refine ⟨_,rfl,?_⟩;have HO859:=zA (kI ho0 (kP (zQ HB.out)));replace HB:=zA (kQ (zQ HB.out) hb);(try clear hb);(try clear ho0)))
  go_ret2
  exact ⟨_,zr,zP HO859.out,zQ HB.out⟩
 replace c3:=Bool.eq_false_iff.mpr c3
 subst c3
 rw [if_neg (show ¬ (false = true) by decide)] at H
 simp only [Option.some.injEq,Prod.mk.injEq] at H
 obtain ⟨rfl,rfl⟩:=H
 go_enter Tryd.func16,Tryd.ntmps16
 go_wp2_with (first | (refine zO (some 5) Tryd.func36 #[.slice A0 l0.length c0] ?_;(with_reducible refine (impl_IsRelation.calls _ _ l0 false _ ?side1 ?side2 A2.out).mono ?_);(case side1=>exact zS HR0.out);(case side2=>exact HC0.out);rintro e w7 ⟨rfl,hb⟩;refine ⟨_,rfl,?_⟩;replace HB:=zA (kQ (zQ HB.out) hb);(try clear hb)))
 go_ret2
 exact ⟨_,zr,zn,zQ HB.out⟩
end Go.Proofs.YtjdekliancabgaaDoor.PAll
