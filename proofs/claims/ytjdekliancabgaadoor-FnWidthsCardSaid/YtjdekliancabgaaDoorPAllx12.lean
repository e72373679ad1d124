import Derived.Test.YtjdekliancabgaaDoorPAllx0
import Derived.Test.YtjdekliancabgaaDoorPAllx2
import Derived.Test.YtjdekliancabgaaDoorPAllx3
import Derived.Test.YtjdekliancabgaaDoorPAllx11
namespace Go.Proofs.YtjdekliancabgaaDoor.PAll
open Go.RowKit Go.Proofs.YtjdekliancabgaaDoor.T Go.Proofs.YtjdekliancabgaaDoorW.PrintWords Go.Proofs.YtjdekliancabgaaDoorW.PrintLast Go.Proofs.YtjdekliancabgaaDoorW.PrintMore
attribute [local go_sem] max2_int min2_int max_two min_two max_three min_three max_four min_four   -- for this text's walks alone
set_option linter.unusedVariables false
set_option linter.unusedSimpArgs false
def slices_Index_int64_int64_BwithoutFirst.f (k:Nat) (l0:List Int) (a1:Int):Option (Int):=slices_Index_int64_int64.f k l0 a1
theorem slices_Index_int64_int64_BwithoutFirst.calls (k:Nat) (A0:Option Addr) (c0:Nat) (l0:List Int) (a1:Int) (r:Int) (w:World) (hr0:Kd.C (Kd.int .i64) w A0 l0.length l0) (hc0:l0.length ≤ c0) (h:slices_Index_int64_int64_BwithoutFirst.f k l0 a1 = some r) :
 Calls Tryd.prog 91 #[.slice A0 l0.length c0,.int .i64 a1] w fun e w' => e = .returned (.int .i64 r) ∧ Below w.heap.size w w' := by
 refine (slices_Index_int64_int64.calls k A0 c0 l0 a1 r w hr0 hc0 h).mono ?_
 rintro e w' ⟨h1,h2⟩
 exact ⟨h1,Drawn0.below h2⟩
def impl_withoutFirst.f (k:Nat) (l0:List Int) (a1:Int):Option (List Int):=(slices_Index_int64_int64_BwithoutFirst.f k l0 a1).bind fun t663=>(if 0 ≤ t663 then (if t663 ≤ (l0.length:Int) then (if 0 ≤ (wrap64 (t663 + 1)) then (if (wrap64 (t663 + 1)) ≤ (l0.length:Int) then ((slices_Concat_int64_int64.f (([(l0.take (t663:Int).toNat),(l0.drop ((wrap64 (t663 + 1)):Int).toNat)]:List (List Int)))).bind fun t677=>(some t677)) else (none)) else (none)) else (none)) else (none))
def impl_withoutFirst.T2:Bool × List (List Nat × List Nat):=(true,[([],[]),([],[]),([0,1],[0,1]),([],[]),([],[]),([4],[4]),([3,5],[3,5]),([2,6],[2,6]),([7],[7]),([8,8,0,1,2,3,4,5,6,7,8],[8])])
def impl_withoutFirst.B2:List Nat:=[0,0,3,0,0,16,56,127,255,511]
theorem impl_withoutFirst.tab2:rtab .any (opsOf Tryd.f78 2) = impl_withoutFirst.T2:=by kernel_rfl
theorem impl_withoutFirst.bits2:waitsOk impl_withoutFirst.T2.2 impl_withoutFirst.B2 = true:=by kernel_rfl
set_option maxHeartbeats 8000000 in
set_option maxRecDepth 100000 in
theorem impl_withoutFirst.calls (k : Nat) (P0_ : Nat → Prop) (A0 : Option Addr) (c0 : Nat) (l0 : List Int) (a1 : Int) (r : List Int) (w : World) (hs0 : Kd.V (Kd.int .i64) 2 w w.heap.size (fun k_ => P0_ k_) (.slice A0 l0.length c0) l0) (h : impl_withoutFirst.f k l0 a1 = some r) :
  Calls Tryd.prog 78 #[.slice A0 l0.length c0,.int .i64 a1] w fun e w' => ∃ v0_:Value,e = .returned (v0_) ∧ Kd.R (Kd.int .i64) 2 w' w.heap.size (fun k_=>(w.heap.size ≤ k_)) v0_ r ∧ Below w.heap.size w w' := by
 have HO0:=zA (show Kd.V (Kd.int .i64) 2 w w.heap.size (fun k_=>(P0_ k_ ∨ w.heap.size ≤ k_)) (.slice A0 l0.length c0) l0 from kN hs0 (fun k_ hk=>.inl hk))
 have HB:=zA (kW w.heap.size w)
 have H:=h
 unfold impl_withoutFirst.f at H
 clear h
 obtain ⟨t663,A3,H⟩:=zb H
 try dsimp only at H
 by_cases c4:0 ≤ t663
 ·rw [if_pos c4] at H
  have c4b0:=eq_true c4
  have c4b1:decide (0 ≤ t663) = true:=decide_eq_true c4
  clear c4
  by_cases c5:t663 ≤ (l0.length:Int)
  ·rw [if_pos c5] at H
   have c5b0:=eq_true c5
   have c5b1:decide (t663 ≤ (l0.length:Int)) = true:=decide_eq_true c5
   clear c5
   obtain ⟨y664,hy664⟩:∃ y_:List Int,y_ = (l0.take (t663:Int).toNat):=⟨_,rfl⟩
   replace H:(if 0 ≤ (wrap64 (t663 + 1)) then (if (wrap64 (t663 + 1)) ≤ (l0.length:Int) then ((slices_Concat_int64_int64.f (([y664,(l0.drop ((wrap64 (t663 + 1)):Int).toNat)]:List (List Int)))).bind fun t677=>(some t677)) else (none)) else (none)) = some r:=zy hy664 H
   have Ny664:=zA hy664
   clear hy664
   obtain ⟨ji6,hji6⟩:∃ j_:Int,(wrap64 (t663 + 1)) = j_:=⟨_,rfl⟩
   replace H:(if 0 ≤ (ji6) then (if (ji6) ≤ (l0.length:Int) then ((slices_Concat_int64_int64.f (([y664,(l0.drop ((ji6):Int).toNat)]:List (List Int)))).bind fun t677=>(some t677)) else (none)) else (none)) = some r:=by first | (rw [hji6] at H;exact H) | (simp only [hji6] at H ⊢;exact H)
   (try rw [hji6] at A3)
   have hji6w:(IntKind.i64.wrap (t663 + 1)) = ji6:=(i64_w _).trans hji6
   by_cases c7:0 ≤ (ji6)
   ·rw [if_pos c7] at H
    have c7b0:=eq_true c7
    have c7b1:decide (0 ≤ (ji6)) = true:=decide_eq_true c7
    clear c7
    by_cases c8:(ji6) ≤ (l0.length:Int)
    ·rw [if_pos c8] at H
     have c8b0:=eq_true c8
     have c8b1:decide ((ji6) ≤ (l0.length:Int)) = true:=decide_eq_true c8
     clear c8
     obtain ⟨y669,hy669⟩:∃ y_:List Int,y_ = (l0.drop ((ji6):Int).toNat):=⟨_,rfl⟩
     replace H:((slices_Concat_int64_int64.f (([y664,y669]:List (List Int)))).bind fun t677=>(some t677)) = some r:=zy hy669 H
     have Ny669:=zA hy669
     clear hy669
     obtain ⟨y674,hy674⟩:∃ y_:List (List Int),y_ = (([y664,y669]:List (List Int))):=⟨_,rfl⟩
     replace H:((slices_Concat_int64_int64.f y674).bind fun t677=>(some t677)) = some r:=zy hy674 H
     have Ny674:=zA hy674
     clear hy674
     obtain ⟨t677,A9,H⟩:=zb H
     try dsimp only at H
     obtain rfl:=Option.some.inj H
     go_enter Tryd.func78,Tryd.ntmps78
     try go_wp2_with (first | (refine zO (some 8) Tryd.func91 #[.slice A0 l0.length c0,.int .i64 a1] ?_;(with_reducible refine (slices_Index_int64_int64_BwithoutFirst.calls k _ _ l0 a1 t663 _ ?side1 ?side2 A3.out).mono ?_);(case side1=>exact zS (kJ HO0.out).2.2);(case side2=>exact (kJ HO0.out).2.1);rintro e w10 ⟨rfl,hb⟩;refine ⟨_,rfl,?_⟩;replace HO0:=zA (kG (zPV HO0.out) hb);replace HB:=zA (kQ (zQ HB.out) hb);(try clear hb)))
     replace HO0:=zA (Kd.V_drew HO0.out)
     replace HB:=zA (zD HB.out)
     have q12:(t663:Int) ≤ ((l0.length:Int):Int):=zd
     obtain ⟨i012,hi012,_,hsz12,_⟩:=info_parts info2
     have hroom12:l0.length ≤ c0:=(kJ HO0.out).2.1
     have hC12:Kd.F (Kd.int .i64) _ _ A0 l0.length l0:=(Kd.V_at (base:=w.heap.size) HO0.out).2.2
     have hcut12:=cut_to (P:=Tryd.prog) 24 2 .i64 Tryd.underlying24 hi012 A0 l0.length c0 t663 (zd) q12 hroom12
     have hr12:=Kd.F_take (m:=(t663:Int).toNat) hC12 (by omega)
     have hy12:y664.length = (t663:Int).toNat:=(by rw [Ny664.out,List.length_take];omega)
     rw [← Ny664.out] at hr12
     rw [← hy12] at hcut12
     have HO668:=zA (show Kd.V (Kd.int .i64) 2 _ w.heap.size _ (.slice A0 y664.length c0) y664 from Kd.V_mk (by omega) hr12)
     have HC668:=zA (show y664.length ≤ c0 from by omega)
     clear hr12 hC12 hroom12 hi012 hsz12
     have KY12:=zA hy12
     clear hy12
     replace q12:=eq_true q12
     have q13:((ji6):Int) ≤ ((l0.length:Int):Int):=zd
     obtain ⟨i013,hi013,_,hsz13,_⟩:=info_parts info2
     have hroom13:l0.length ≤ c0:=(kJ HO0.out).2.1
     have hC13:Kd.F (Kd.int .i64) _ _ A0 l0.length l0:=(Kd.V_at (base:=w.heap.size) HO0.out).2.2
     have q013:(0:Int) ≤ ((ji6):Int):=zd
     have hcut13:=cut_from (P:=Tryd.prog) 24 2 .i64 Tryd.underlying24 hi013 1 hsz13 A0 l0.length c0 (ji6) q013 q13
     have hr13:=Kd.F_cut (m:=((ji6):Int).toNat) (c:=c0) hC13 (by omega) hroom13
     obtain ⟨A13,hA13⟩:∃ A1,A1 = (if c0 = ((ji6):Int).toNat then A0 else (A0:Option Addr).map (·.add (((ji6):Int).toNat * 1))):=⟨_,rfl⟩
     obtain ⟨c13,hc13⟩:∃ c1,c1 = c0 - ((ji6):Int).toNat:=⟨_,rfl⟩
     have hy13:y669.length = l0.length - ((ji6):Int).toNat:=(by rw [Ny669.out,List.length_drop] <;> omega)
     rw [show (l0).drop ((ji6):Int).toNat = y669 from Ny669.out.symm] at hr13
     replace hr13:Kd.F (Kd.int .i64) _ _ A13 y669.length y669:=(by rw [hA13];exact hr13)
     rw [← hy13,← hA13,← hc13] at hcut13
     have HO673:=zA (show Kd.V (Kd.int .i64) 2 _ w.heap.size _ (.slice A13 y669.length c13) y669 from Kd.V_mk (by rw [hy13,hc13];exact Nat.sub_le_sub_right hroom13 _) hr13)
     have HC673:=zA (show y669.length ≤ c13 from by rw [hy13,hc13];exact Nat.sub_le_sub_right hroom13 _)
     clear hr13 hC13 hroom13 hi013 hsz13 hc13
     have KY13:=zA hy13
     have KA13:=zA hA13
     clear hy13 hA13
     replace q13:=eq_true q13
     refine start_ (n:=10) (S:=fun w' => True) (ds:=[]) #[false,false,false,false,false,false,false,false,false,false] (by kernel_rfl) rfl rfl trivial (fun hHeld=>?_);refine with_tabW impl_withoutFirst.tab2 impl_withoutFirst.bits2 (fun HT_ HW_=>?_)
     generalize w10.drew = w11 at HO0 HB HO668 HO673 hHeld ⊢
     refine zp 0 (some 9) #[true,false,false,false,false,false,false,false,false,false] HT_.out ?_
     refine zp 1 (some 10) #[true,true,false,false,false,false,false,false,false,false] HT_.out ?_
     refine zp 2 (some 11) #[true,true,true,false,false,false,false,false,false,false] HT_.out ?_
     refine zp 3 (some 12) #[true,true,true,true,false,false,false,false,false,false] HT_.out ?_
     refine zp 4 (some 13) #[true,true,true,true,true,false,false,false,false,false] HT_.out ?_
     refine zp 5 (some 14) #[true,true,true,true,true,true,false,false,false,false] HT_.out ?_
     refine zp 6 (some 15) #[true,true,true,true,true,true,true,false,false,false] HT_.out ?_
     refine one_ (i:=7) (N:=some 16) #[true,true,true,true,true,true,true,true,false,false] rfl rfl (one_of HT_.out (by kernel_rfl)) (by decide) (fun K hK=>?_)
     refine Kd.N_lit_step (Kd.slice 2 (Kd.int .i64)) _ 24 ?hg (N' := 16) ?hd (xs:=([y664,y669]:List (List Int))) (inner:=[.slice A0 y664.length c0,.slice A13 y669.length c13]) (ok:=(fun k_=>(P0_ k_ ∨ w.heap.size ≤ k_))) (okp:=(fun k_=>(P0_ k_ ∨ w.heap.size ≤ k_))) ?hr ?hp (fun _ hk=>hk) ((show ∀ k_:Nat,(_:Nat) ≤ k_ → (fun k_=>(P0_ k_ ∨ w.heap.size ≤ k_)) k_ from fun k_ hk=>(.inr (Nat.le_trans (kP (zQ HB.out)) hk))) _ (Nat.le_refl _)) (kW _ _) (Nat.le_refl _) (by simp) ?_;(case hd=>rfl);(case hg=>rfl);(case hr=>first | (go_simp;done) | (go_simp;rfl));(case hp=>exact (Reps.one (show Kd.FK (Kd.slice 2 (Kd.int .i64)) _ _ y664 [.slice A0 y664.length c0] from (zFK (kN (ok' := (fun k_=>(P0_ k_ ∨ w.heap.size ≤ k_))) (HO668.out) (fun k_ hk=>hk)))) (Reps.one (show Kd.FK (Kd.slice 2 (Kd.int .i64)) _ _ y669 [.slice A13 y669.length c13] from (zFK (kN (ok' := (fun k_=>(P0_ k_ ∨ w.heap.size ≤ k_))) (HO673.out) (fun k_ hk=>hk)))) (Reps.none _ _))))
     intro v675 w14 ho15 hb hg_ hnew_
     clear hg_ hnew_
     (first | rw [← Ny674.out] at ho15 | (simp only [Int.reduceToNat] at ho15;rw [← Ny674.out] at ho15))
     replace HO0:=zA (kK (zPV HO0.out) (Kd.N_base ho15) hb)
     replace HO668:=zA (kK (zPV HO668.out) (Kd.N_base ho15) hb)
     replace HO673:=zA (kK (zPV HO673.out) (Kd.N_base ho15) hb)
     have HO676:=zA (jN ho15 (kP (zQ HB.out)))
     replace HB:=zA (kQ (zQ HB.out) hb)
     clear hb ho15
     obtain ⟨Ao16,co16,eo16⟩:=Kd.N_slice HO676.out
     (first | subst eo16 | (injection eo16 with f1_ f2_ f3_;have f4_:=f1_.symm;have f5_:=f3_.symm;clear f1_ f2_ f3_;subst f4_;subst f5_))
     refine hK.out _ _ trivial (fun hHeld=>?_)
     clear hK K
     refine norm_ (a' := ?_) ?_ ?_
     rotate_left
     ·show Act.put _ (some 16) _ = _
      simp only [Act.put,zL,zM,zN,i64_w,i32_w]
      rfl
     refine one_ (i:=8) (N:=some 17) #[true,true,true,true,true,true,true,true,true,false] rfl rfl (one_of HT_.out (by kernel_rfl)) (by decide) (fun K hK=>?_)
     refine goes_ Tryd.func92 (by kernel_rfl) rfl #[.slice Ao16 y674.length co16] (by rfl) rfl rfl zg ?_
     with_reducible refine (slices_Concat_int64_int64.calls _ _ y674 t677 _ ?side1 ?side2 A9.out).mono ?_
     (case side1=>exact zS (Kd.N_reads' HO676.out).2.2)
     (case side2=>exact (Kd.N_reads' HO676.out).2.1)
     rintro e w17 ⟨v678,rfl,ho0,hb⟩
     refine ⟨_,rfl,?_⟩
     replace HO0:=zA (kK (zPV HO0.out) (kC ho0) hb)
     replace HO668:=zA (kK (zPV HO668.out) (kC ho0) hb)
     replace HO673:=zA (kK (zPV HO673.out) (kC ho0) hb)
     replace HO676:=zA (Kd.N_elder' (zPN HO676.out) (kC ho0) hb)
     have HO679:=zA (kI (Kd.R_newM (M:=fun k_=>(w.heap.size ≤ k_)) ho0 (kP (zQ HB.out)) (fun k_ h_=>h_)) (kP (zQ HB.out)))
     replace HB:=zA (kQ (zQ HB.out) hb)
     (try clear hb)
     (try clear hb2)
     (try clear hk)
     (try clear hi)
     (try clear hgw)
     (try clear ho0)
     refine hK.out _ _ trivial (fun hHeld=>?_)
     clear hK K
     refine norm_ (a' := ?_) ?_ ?_
     rotate_left
     ·show Act.put _ (some 17) _ = _
      simp only [Act.put,zL,zM,zN,i64_w,i32_w]
      rfl
     refine zp 9 (some 4) #[true,true,true,true,true,true,true,true,true,true] HT_.out ?_
     refine done_ (done_of HT_.out (by kernel_rfl)) ?_
     try go_wp2
     go_ret
     exact ⟨_,by first | rfl | (simp [errW_none,errW_some] <;> rfl) | (simp only [← hji6];first | rfl | (simp [errW_none,errW_some] <;> rfl)) | (simp [*,errW_none,errW_some] <;> rfl),by (with_reducible repeat (first | apply zF | apply zG | apply zH));exact kA HO679.out (fun _ hk=>hk.1),zQ HB.out⟩
    rw [if_neg c8] at H
    exact absurd H (by simp)
   rw [if_neg c7] at H
   exact absurd H (by simp)
  rw [if_neg c5] at H
  exact absurd H (by simp)
 rw [if_neg c4] at H
 exact absurd H (by simp)
def impl_ties_normal.l0:Nat → List Int → List Int → List Int → Option (List Int)
 | 0,_,_,_=>none
 | k + 1,x0,x5,x6=>if (x6.length:Int) > 0 then ((impl_ties_firsts.f k x0 x6).bind fun t683=>((impl_least.f t683).bind fun t684=>(if x5.length < 17592186044416 then ((impl_withoutFirst.f k x6 t684).bind fun t688=>(impl_ties_normal.l0 k x0 (x5 ++ [t684]) t688)) else (none)))) else (some x5)
def impl_ties_normal.f (k:Nat) (l0:List Int) (l1:List Int):Option (List Int):=if 0 ≤ (l1.length:Int) then (if ((l1.length:Int):Int).toNat ≤ 35184372088832 then (impl_ties_normal.l0 k l0 (([]:List Int)) l1) else (none)) else (none)
set_option maxHeartbeats 8000000 in
set_option maxRecDepth 100000 in
theorem impl_ties_normal.calls (k : Nat) (A0 : Option Addr) (c0 : Nat) (l0 : List Int) (P1_ : Nat → Prop) (A1 : Option Addr) (c1 : Nat) (l1 : List Int) (r : List Int) (w : World) (hr0 : Kd.C (Kd.int .i64) w A0 l0.length l0) (hc0 : l0.length ≤ c0) (hs1 : Kd.V (Kd.int .i64) 2 w w.heap.size (fun k_ => P1_ k_) (.slice A1 l1.length c1) l1) (hT : TabW w) (h : impl_ties_normal.f k l0 l1 = some r) :
  Calls Tryd.prog 59 #[.slice A0 l0.length c0,.slice A1 l1.length c1] w fun e w' => ∃ v0_:Value,e = .returned (v0_) ∧ Kd.R (Kd.int .i64) 2 w' w.heap.size (fun k_=>(w.heap.size ≤ k_)) v0_ r ∧ Below w.heap.size w w' := by
 have HT:=zA hT
 clear hT
 have HR0:=zA hr0
 have HC0:=zA hc0
 clear hr0 hc0
 have HO1:=zA (show Kd.V (Kd.int .i64) 2 w w.heap.size (fun k_=>(P1_ k_ ∨ w.heap.size ≤ k_)) (.slice A1 l1.length c1) l1 from kN hs1 (fun k_ hk=>.inl hk))
 have HB:=zA (kW w.heap.size w)
 have H:=h
 unfold impl_ties_normal.f at H
 clear h
 by_cases c3:0 ≤ (l1.length:Int)
 ·rw [if_pos c3] at H
  have c3b0:=eq_true c3
  have c3b1:decide (0 ≤ (l1.length:Int)) = true:=decide_eq_true c3
  clear c3
  by_cases c4:((l1.length:Int):Int).toNat ≤ 35184372088832
  ·rw [if_pos c4] at H
   have c4b0:=eq_true c4
   have c4b1:decide (((l1.length:Int):Int).toNat ≤ 35184372088832) = true:=decide_eq_true c4
   clear c4
   obtain ⟨y680,hy680⟩:∃ y_:List Int,y_ = (([]:List Int)):=⟨_,rfl⟩
   replace H:(impl_ties_normal.l0 k l0 y680 l1) = some r:=zy hy680 H
   have Ny680:=zA hy680
   clear hy680
   have H' := zA H
   clear H
   go_enter Tryd.func59,Tryd.ntmps59
   go_wp2_with (first | ((with_reducible refine kS (N:=10) rfl ?_);refine Kd.R_make0 (Kd.int .i64) _ 2 rfl (N:=10) rfl 24 _ _ rfl (l1.length:Int) rfl rfl Tryd.underlying24 (.int .i64 0) 8 info2 rfl (by decide) (by omega) 0 (ok:=fun _=>True) (okp:=fun _=>True) rfl (fun _ hk=>hk) trivial (zd) (Nat.le_trans (Nat.mul_le_mul_right _ (zd:(l1.length:Int).toNat ≤ 35184372088832)) (by omega)) (kW _ _) (Nat.le_refl _) ?_;intro v681 w5 ho6 hb hg_ hnew_;clear hg_ hnew_;(first | rw [← Ny680.out] at ho6 | (simp only [Int.reduceToNat] at ho6;rw [← Ny680.out] at ho6));replace HO1:=zA (kK (zPV HO1.out) (kC ho6) hb);have HO682:=zA (kI (Kd.R_newM (M:=fun k_=>(w.heap.size ≤ k_)) ho6 (kP (zQ HB.out)) (fun k_ h_=>h_)) (kP (zQ HB.out)));replace HB:=zA (kQ (zQ HB.out) hb);clear hb ho6))
   go_loopg [5,6] k (fun kq v5 v6 w' => ∃ (x5_1:List Int) (x6_1:List Int),Aside0 (impl_ties_normal.l0 kq l0 x5_1 x6_1 = some r) ∧ Aside0 (kq ≤ k) ∧ Aside0 (Kd.R (Kd.int .i64) 2 w' w.heap.size (fun k_=>(w.heap.size ≤ k_)) v5 x5_1) ∧ Aside0 (Kd.V (Kd.int .i64) 2 w' w.heap.size (fun k_=>(P1_ k_ ∨ w.heap.size ≤ k_) ∧ some k_ ≠ (v5:Value).ownBlock) v6 x6_1) ∧ Aside0 (Below w.heap.size w w'))
   case atStart=>exact ⟨(y680),(l1),H', ⟨Nat.le_refl _⟩,⟨zPM HO682.out (fun _ hk=>hk.1)⟩,⟨zPV HO1.out⟩,⟨zQ HB.out⟩⟩
   case round =>
    clear H'
    try clear c1
    try clear c3
    try clear c4
    try clear c5
    obtain ⟨x5_1,x6_1,HA,HK1,HO_5,HO_6,HB⟩:=hrel
    cases gk with
    | zero=>exact absurd HA.out (by simp [impl_ties_normal.l0])
    | succ k1 =>
     have H:=HA.out
     clear HA
     simp only [impl_ties_normal.l0] at H
     by_cases c7:(x6_1.length:Int) > 0
     ·rw [if_pos c7] at H
      have c7b0:decide (0 < (x6_1.length:Int)) = true:=decide_eq_true c7
      have c7b1:decide (0 < x6_1.length) = true:=decide_eq_true (by omega)
      clear c7
      obtain ⟨t683,A8,H⟩:=zb H
      try dsimp only at H
      obtain ⟨t684,A9,H⟩:=zb H
      try dsimp only at H
      by_cases c10:x5_1.length < 17592186044416
      ·rw [if_pos c10] at H
       have LMc10:=zA c10
       clear c10
       obtain ⟨y685,hy685⟩:∃ y_:List Int,y_ = (x5_1 ++ [t684]):=⟨_,rfl⟩
       replace H:((impl_withoutFirst.f k1 x6_1 t684).bind fun t688=>(impl_ties_normal.l0 k1 l0 y685 t688)) = some r:=zy hy685 H
       have Ny685:=zA hy685
       clear hy685
       obtain ⟨t688,A11,H⟩:=zb H
       try dsimp only at H
       have H' := zA H
       clear H
       obtain ⟨Ao12,co12,eo12⟩:=Kd.V_slice HO_6.out
       subst eo12
       go_wp2_with (first | (refine zO (some 17) Tryd.func77 #[.slice A0 l0.length c0,.slice Ao12 x6_1.length co12] ?_;(with_reducible refine (impl_ties_firsts.calls k1 _ _ l0 _ _ x6_1 t683 _ ?side1 ?side2 ?side3 ?side4 A8.out).mono ?_);(case side1=>exact zS (kO HR0.out HB.out));(case side2=>exact HC0.out);(case side3=>exact zS (kJ HO_6.out).2.2);(case side4=>exact (kJ HO_6.out).2.1);rintro e w' ⟨rfl,⟨nd,rfl⟩⟩;refine ⟨_,rfl,?_⟩) | (refine zO (some 18) Tryd.func61 #[.int .i64 t683] ?_;(with_reducible refine (impl_least.calls t683 t684 _ ?side1 A9.out).mono ?_);(case side1=>exact TabW.below HT.out (zQ HB.out));rintro e w' ⟨rfl,⟨nd,rfl⟩⟩;refine ⟨_,rfl,?_⟩) | ((with_reducible refine gate_builtin (b:=.append) (xs:=#[.tmp 19,.tmp 21]) rfl ?_);at_builtin;refine Kd.R_append (Kd.int .i64) (w0:=w) w.heap.size rfl (.tmp 19) (.tmp 21) 24 2 (.int .i64 0) 8 rfl Tryd.underlying24 info2 rfl (by decide) (by omega) u5 x5_1 t684 [.int .i64 t684] (fun k_=>(w.heap.size ≤ k_)) (fun _=>False) rfl rfl ?aP (fun _ hk=>hk.elim) ?aF ?aO ?aB ?aS ?aL ?_;(case aP=>exact rfl);(case aB=>exact (zQ HB.out));(case aF=>exact (fun k_ hk=>(Nat.le_trans (kP (zQ HB.out)) hk)));(case aO=>exact (zP HO_5.out));(case aS=>exact (kP (zQ HB.out)));(case aL=>have:=LMc10.out;omega);intro v686 w13 ho hb hg hat;rw [← Ny685.out] at ho;replace HO_6:=zA (Kd.V_afterv (ok:=(fun k_=>(P1_ k_ ∨ w.heap.size ≤ k_))) (zPV HO_6.out) hg hat);replace HB:=zA (hb);have HO687:=zA (ho);clear HO_5;clear ho hb hg hat) | (refine zO (some 25) Tryd.func78 #[.slice Ao12 x6_1.length co12,.int .i64 t684] ?_;(with_reducible refine (impl_withoutFirst.calls k1 (fun k_=>((P1_ k_ ∨ w.heap.size ≤ k_) ∧ some k_ ≠ (v686:Value).ownBlock)) _ _ x6_1 t684 t688 _ ?side1 A11.out).mono ?_);(case side1=>exact HO_6.out);rintro e w14 ⟨v689,rfl,ho0,hb⟩;refine ⟨_,rfl,?_⟩;replace HO_6:=zA (kK (zPV HO_6.out) (kC ho0) hb);have HO690:=zA (kI (kF (Kd.R_newM (M:=fun k_=>(w.heap.size ≤ k_)) (kA (ok' := fun k_=>True) ho0 (fun _ hk_=>trivial)) (kP (zQ HB.out)) (fun k_ h_=>h_)) (kH (zP HO687.out))) (kP (zQ HB.out)));replace HO687:=zA (kE (zP HO687.out) (kC ho0) hb);replace HB:=zA (kQ (zQ HB.out) hb);(try clear hb);(try clear ho0)))
       go_roundg k1
       case measure=>have:=HK1.out;omega
       case rel=>exact ⟨(y685),(t688),H', ⟨by have:=HK1.out;omega⟩,⟨zPM HO687.out (fun _ hk=>hk.1)⟩,⟨kN (jL (zP HO690.out)) (fun k_ hk=>by first | exact ⟨(.inr (hk.1.1)),hk.2⟩ | exact ⟨(.inr (hk.1)),hk.2⟩ | exact (.inr (hk)))⟩,⟨zQ HB.out⟩⟩
      rw [if_neg c10] at H
      exact absurd H (by simp)
     rw [if_neg c7] at H
     have c7b0:decide (0 < (x6_1.length:Int)) = false:=decide_eq_false c7
     have c7b1:decide (0 < x6_1.length) = false:=decide_eq_false (by omega)
     clear c7
     obtain rfl:=Option.some.inj H
     obtain ⟨Ao15,co15,eo15⟩:=Kd.V_slice HO_6.out
     subst eo15
     go_wp2
     go_ret
     exact ⟨_,zr,zP HO_5.out,zQ HB.out⟩
  rw [if_neg c4] at H
  exact absurd H (by simp)
 rw [if_neg c3] at H
 exact absurd H (by simp)
mutual
def impl_closure.l0:Nat → List Int → Int → Int → Option (List Int)
 | 0,_,_,_=>none
 | k + 1,x3,x10,x11=>if x11 < x10 then (if 0 ≤ x11 then (if x11 < (x3.length:Int) then ((impl_one.f x11).bind fun t695=>(impl_closure.l0 k (x3.set (x11:Int).toNat (Go.bits .or .i64 (rd x3 x11) t695)) x10 (wrap64 (x11 + 1)))) else (none)) else (none)) else (impl_closure.l1 k x3 (x3.length:Int) 0)
def impl_closure.l1:Nat → List Int → Int → Int → Option (List Int)
 | 0,_,_,_=>none
 | k + 1,x3,x24,x25=>if x25 < x24 then (impl_closure.l2 k x3 x25 x24 x25 (x3.length:Int) 0) else (some x3)
def impl_closure.l2:Nat → List Int → Int → Int → Int → Int → Int → Option (List Int)
 | 0,_,_,_,_,_,_=>none
 | k + 1,x3,x5,x24,x25,x29,x30=>if x30 < x29 then (if 0 ≤ x30 then (if x30 < (x3.length:Int) then ((impl_has.f (rd x3 x30) x5).bind fun t698=>(if t698 = true then (if 0 ≤ x5 then (if x5 < (x3.length:Int) then (impl_closure.l2 k (x3.set (x30:Int).toNat (Go.bits .or .i64 (rd x3 x30) (rd x3 x5))) x5 x24 x25 x29 (wrap64 (x30 + 1))) else (none)) else (none)) else (impl_closure.l2 k x3 x5 x24 x25 x29 (wrap64 (x30 + 1))))) else (none)) else (none)) else (impl_closure.l1 k x3 x24 (wrap64 (x25 + 1)))
end
def impl_closure.f (k:Nat) (l0:List Int):Option (List Int):=(slices_Clone_int64_int64.f l0).bind fun t691=>(impl_closure.l0 k t691 (t691.length:Int) 0)
def impl_closure.T5:Bool × List (List Nat × List Nat):=(true,[([],[]),([],[]),([0,1],[0,1]),([2],[2]),([],[]),([4],[4]),([3,5],[3,5]),([0,1,0,1,2,3,4,5,6],[0,1]),([7,6,5,0,1,2,3,4,5,6],[6,7])])
def impl_closure.B5:List Nat:=[0,0,3,7,0,16,63,127,255]
theorem impl_closure.tab5:rtab .any (opsOf Tryd.f79 5) = impl_closure.T5:=by kernel_rfl
theorem impl_closure.bits5:waitsOk impl_closure.T5.2 impl_closure.B5 = true:=by kernel_rfl
def impl_closure.T14:Bool × List (List Nat × List Nat):=(true,[([],[]),([],[]),([0,1],[0,1]),([2],[2]),([],[]),([],[]),([4,5],[4,5]),([6],[6]),([3,7],[3,7]),([0,1,0,1,2,3,4,5,6,7,8],[0,1]),([9,8,0,1,2,3,4,5,6,7,8],[8,9])])
def impl_closure.B14:List Nat:=[0,0,3,7,0,0,48,112,255,511,1023]
theorem impl_closure.tab14:rtab .any (opsOf Tryd.f79 14) = impl_closure.T14:=by kernel_rfl
theorem impl_closure.bits14:waitsOk impl_closure.T14.2 impl_closure.B14 = true:=by kernel_rfl
set_option maxHeartbeats 8000000 in
set_option maxRecDepth 100000 in
theorem impl_closure.calls (k : Nat) (A0 : Option Addr) (c0 : Nat) (l0 : List Int) (r : List Int) (w : World) (hr0 : Kd.C (Kd.int .i64) w A0 l0.length l0) (hc0 : l0.length ≤ c0) (h : impl_closure.f k l0 = some r) :
  Calls Tryd.prog 79 #[.slice A0 l0.length c0] w fun e w' => ∃ v0_:Value,e = .returned (v0_) ∧ Kd.R (Kd.int .i64) 2 w' w.heap.size (fun _=>True) v0_ r ∧ Below w.heap.size w w' := by
 have HR0:=zA hr0
 have HC0:=zA hc0
 clear hr0 hc0
 have HB:=zA (kW w.heap.size w)
 have H:=h
 unfold impl_closure.f at H
 clear h
 obtain ⟨t691,A2,H⟩:=zb H
 try dsimp only at H
 have H' := zA H
 clear H
 go_enter Tryd.func79,Tryd.ntmps79
 go_wp2_with (first | (refine zO (some 8) Tryd.func44 #[.slice A0 l0.length c0] ?_;(with_reducible refine (slices_Clone_int64_int64.calls _ _ l0 t691 _ ?side1 ?side2 A2.out).mono ?_);(case side1=>exact zS HR0.out);(case side2=>exact HC0.out);rintro e w3 ⟨v692,rfl,ho0,hb⟩;refine ⟨_,rfl,?_⟩;have HO693:=zA (kI ho0 (kP (zQ HB.out)));replace HB:=zA (kQ (zQ HB.out) hb);(try clear hb);(try clear ho0);obtain ⟨Ao4,co4,eo4⟩:=kM HO693.out;subst eo4))
 go_loopg [11] k (fun kq v11 w' => ∃ (x3_1:List Int) (x11_1:Int),v11 = .int .i64 x11_1 ∧ Aside0 (impl_closure.l0 kq x3_1 (t691.length:Int) x11_1 = some r) ∧ Aside0 (kq ≤ k) ∧ Aside0 (Kd.R (Kd.int .i64) 2 w' w.heap.size (fun _=>True) (.slice Ao4 t691.length co4) x3_1) ∧ Aside0 (Below w.heap.size w w'))
 case atStart=>exact ⟨(t691),(0),zs,H', ⟨Nat.le_refl _⟩,⟨zP HO693.out⟩,⟨zQ HB.out⟩⟩
 case round =>
  clear H'
  try clear c4
  obtain ⟨x3_1,x11_1,rfl,HA,HK1,HO_3,HB⟩:=hrel
  have hl3_1:=(kB HO_3.out).1
  rw [hl3_1] at HO_3
  (try simp only [hl3_1])
  cases gk with
  | zero=>exact absurd HA.out (by simp [impl_closure.l0])
  | succ k1 =>
   have H:=HA.out
   clear HA
   simp only [impl_closure.l0] at H
   by_cases c5:x11_1 < (t691.length:Int)
   ·rw [if_pos c5] at H
    have c5b0:decide (x11_1 < (t691.length:Int)) = true:=decide_eq_true c5
    (try (have c5b0h0_:=c5b0;rw [hl3_1] at c5b0h0_))
    clear c5
    by_cases c6:0 ≤ x11_1
    ·rw [if_pos c6] at H
     have c6b0:decide (0 ≤ x11_1) = true:=decide_eq_true c6
     clear c6
     by_cases c7:x11_1 < (x3_1.length:Int)
     ·rw [if_pos c7] at H
      have c7b0:decide (x11_1 < (x3_1.length:Int)) = true:=decide_eq_true c7
      (try (have c7b0h0_:=c7b0;rw [hl3_1] at c7b0h0_))
      clear c7
      obtain ⟨t695,A8,H⟩:=zb H
      try dsimp only at H
      obtain ⟨y696,hy696⟩:∃ y_:List Int,y_ = (x3_1.set (x11_1:Int).toNat (Go.bits .or .i64 (rd x3_1 x11_1) t695)):=⟨_,rfl⟩
      replace H:(impl_closure.l0 k1 y696 (t691.length:Int) (wrap64 (x11_1 + 1))) = some r:=zy hy696 H
      have Ny696:=zA hy696
      clear hy696
      have H' := zA H
      clear H
      try go_wp2
      replace HO_3:=zA (zH HO_3.out)
      replace HB:=zA (zD HB.out)
      have p694:0 ≤ (x11_1:Int):=zd
      have q694:x11_1 < (x3_1.length:Int):=zd
      obtain ⟨ad694,e694,hx694_0⟩:=Kd.at_int (kB HO_3.out).2.2 x11_1 p694 q694
      cases e694
      replace p694:=eq_true p694
      replace q694:=eq_true q694
      refine start_ (n:=9) (S:=fun w' => w'.cell? (ad694.add (x11_1).toNat) = some (.int .i64 (rd x3_1 x11_1))) (ds:=[8]) #[false,false,false,false,false,false,false,false,false] (by kernel_rfl) rfl rfl (hx694_0) (fun hHeld=>?_);refine with_tabW impl_closure.tab5 impl_closure.bits5 (fun HT_ HW_=>?_)
      generalize wr.drew = w10 at HO_3 HB hx694_0 hHeld ⊢
      refine zp 0 (some 14) #[true,false,false,false,false,false,false,false,false] HT_.out ?_
      refine zp 1 (some 15) #[true,true,false,false,false,false,false,false,false] HT_.out ?_
      refine zp 2 (some 16) #[true,true,true,false,false,false,false,false,false] HT_.out ?_
      refine zp 4 (some 18) #[true,true,true,false,true,false,false,false,false] HT_.out ?_
      refine za 3 (some 17) #[true,true,true,true,true,false,false,false,false] HT_.out HW_.out hHeld ?_
      refine one_ (i:=5) (N:=some 19) #[true,true,true,true,true,true,false,false,false] rfl rfl (one_of HT_.out (by kernel_rfl)) (by decide) (fun K hK=>?_)
      refine goes_ Tryd.func31 (by kernel_rfl) rfl #[.int .i64 x11_1] (by rfl) rfl rfl zg ?_
      with_reducible refine (impl_one.calls x11_1 t695 _ A8.out).mono ?_
      rintro e w' ⟨rfl,⟨nd,rfl⟩⟩
      refine ⟨_,rfl,?_⟩
      have p9:0 ≤ (x11_1:Int):=zd
      have q9:(x11_1:Int) < ((x3_1.length:Int):Int):=zd
      obtain ⟨go9,co9,eo9,gb9,gl9,cl9,HG9⟩:=Kd.R_form HO_3.out (by omega)
      (first | cases eo9 | (injection eo9 with ea_ en_ ec_;(first | subst ea_ | (injection ea_ with ea_;subst ea_));subst ec_;clear en_))
      have GB9:=zA gb9
      have GG9:=zA HG9
      clear gb9 gl9 HG9
      (first | simp only [add_plain] at hx694_0 | skip)
      obtain ⟨hx9_0,hf9_0⟩:=Kd.R_celln 0 HO_3.out (x11_1:Int) p9 q9
      replace p9:=eq_true p9
      replace q9:=eq_true q9
      have HP11:=Kd.R_putn HO_3.out (x11_1:Int) (Go.bits .or .i64 (rd x3_1 x11_1) t695)
      rw [← Ny696.out] at HP11
      have HQ11:=zA HP11
      clear HP11
      refine hK.out _ _ (hHeld) (fun hHeld=>?_)
      clear hK K
      refine norm_ (a' := ?_) ?_ ?_
      rotate_left
      ·show Act.put _ (some 19) _ = _
       simp only [Act.put,zL,zM,zN,i64_w,i32_w]
       rfl
      refine zp 6 (some 20) #[true,true,true,true,true,true,true,false,false] HT_.out ?_
      refine zp 7 (some 21) #[true,true,true,true,true,true,true,true,false] HT_.out ?_
      refine last_ (i:=8) (N:=none) #[true,true,true,true,true,true,true,true,true] rfl rfl (one_of HT_.out (by kernel_rfl)) (by decide) (fun K hK=>?_)
      refine skip_ (w1:=?_) (by rfl) rfl ?_ ?_
      rotate_left
      ·go_simp
       rfl
      refine hK.out _ _ ?_
      clear hK K
      refine done_ (done_of HT_.out (by kernel_rfl)) ?_
      try go_wp2
      (try simp only [← hl3_1])
      go_roundg k1
      case measure=>have:=HK1.out;omega
      case rel=>exact ⟨(y696),(wrap64 (x11_1 + 1)),zs,H', ⟨by have:=HK1.out;omega⟩,⟨by (try simp only [hl3_1]);(with_reducible repeat (first | apply zF | apply zG | apply zH));exact HQ11.out⟩,⟨zT HB.out GB9.out⟩⟩
     rw [if_neg c7] at H
     exact absurd H (by simp)
    rw [if_neg c6] at H
    exact absurd H (by simp)
   rw [if_neg c5] at H
   have c5b0:decide (x11_1 < (t691.length:Int)) = false:=decide_eq_false c5
   (try (have c5b0h0_:=c5b0;rw [hl3_1] at c5b0h0_))
   clear c5
   have H' := zA H
   clear H
   go_wp2
   go_loopg [25] k1 (fun kq v25 w' => ∃ (x3_2:List Int) (x25_2:Int),v25 = .int .i64 x25_2 ∧ Aside0 (impl_closure.l1 kq x3_2 (x3_1.length:Int) x25_2 = some r) ∧ Aside0 (kq ≤ k1) ∧ Aside0 (Kd.R (Kd.int .i64) 2 w' w.heap.size (fun _=>True) (.slice Ao4 x3_1.length co4) x3_2) ∧ Aside0 (Below w.heap.size w w'))
   case atStart=>exact ⟨(x3_1),(0),zs,H', ⟨Nat.le_refl _⟩,⟨by (try simp only [hl3_1]);(with_reducible repeat (first | apply zF | apply zG | apply zH));exact HO_3.out⟩,⟨zQ HB.out⟩⟩
   case round =>
    clear H'
    try clear c3
    try clear c4
    try clear c5
    try clear c6
    try clear hx6
    try clear c7
    try clear hx9
    try clear hf9
    try clear hx694_0
    try clear hx9_0
    obtain ⟨x3_2,x25_2,rfl,HA,HK2,HO_3,HB⟩:=hrel
    have hl3_2:=(kB HO_3.out).1
    rw [hl3_2] at HO_3
    (try simp only [hl3_2])
    cases gk with
    | zero=>exact absurd HA.out (by simp [impl_closure.l1])
    | succ k2 =>
     have H:=HA.out
     clear HA
     simp only [impl_closure.l1] at H
     by_cases c12:x25_2 < (x3_1.length:Int)
     ·rw [if_pos c12] at H
      have c12b0:decide (x25_2 < (x3_1.length:Int)) = true:=decide_eq_true c12
      (try (have c12b0h0_:=c12b0;rw [hl3_1] at c12b0h0_))
      (try (have c12b0h1_:=c12b0;rw [hl3_2] at c12b0h1_))
      clear c12
      have H' := zA H
      clear H
      go_wp2
      go_loopg [30] k2 (fun kq v30 w' => ∃ (x3_3:List Int) (x30_3:Int),v30 = .int .i64 x30_3 ∧ Aside0 (impl_closure.l2 kq x3_3 x25_2 (x3_1.length:Int) x25_2 (x3_2.length:Int) x30_3 = some r) ∧ Aside0 (kq ≤ k2) ∧ Aside0 (Kd.R (Kd.int .i64) 2 w' w.heap.size (fun _=>True) (.slice Ao4 x3_2.length co4) x3_3) ∧ Aside0 (Below w.heap.size w w'))
      case atStart=>exact ⟨(x3_2),(0),zs,H', ⟨Nat.le_refl _⟩,⟨by (try simp only [hl3_1]);(try simp only [hl3_2]);(with_reducible repeat (first | apply zF | apply zG | apply zH));exact HO_3.out⟩,⟨zQ HB.out⟩⟩
      case round =>
       clear H'
       try clear c1
       try clear c3
       try clear c4
       try clear c5
       try clear c6
       try clear hx6
       try clear c7
       try clear hx9
       try clear hf9
       try clear c12
       try clear hx694_0
       try clear hx9_0
       obtain ⟨x3_3,x30_3,rfl,HA,HK3,HO_3,HB⟩:=hrel
       have hl3_3:=(kB HO_3.out).1
       rw [hl3_3] at HO_3
       (try simp only [hl3_3])
       cases gk with
       | zero=>exact absurd HA.out (by simp [impl_closure.l2])
       | succ k3 =>
        have H:=HA.out
        clear HA
        simp only [impl_closure.l2] at H
        by_cases c13:x30_3 < (x3_2.length:Int)
        ·rw [if_pos c13] at H
         have c13b0:decide (x30_3 < (x3_2.length:Int)) = true:=decide_eq_true c13
         (try (have c13b0h0_:=c13b0;rw [hl3_1] at c13b0h0_))
         (try (have c13b0h1_:=c13b0;rw [hl3_2] at c13b0h1_))
         (try (have c13b0h2_:=c13b0;rw [hl3_3] at c13b0h2_))
         clear c13
         by_cases c14:0 ≤ x30_3
         ·rw [if_pos c14] at H
          have c14b0:decide (0 ≤ x30_3) = true:=decide_eq_true c14
          clear c14
          by_cases c15:x30_3 < (x3_3.length:Int)
          ·rw [if_pos c15] at H
           have c15b0:decide (x30_3 < (x3_3.length:Int)) = true:=decide_eq_true c15
           (try (have c15b0h0_:=c15b0;rw [hl3_1] at c15b0h0_))
           (try (have c15b0h1_:=c15b0;rw [hl3_2] at c15b0h1_))
           (try (have c15b0h2_:=c15b0;rw [hl3_3] at c15b0h2_))
           clear c15
           obtain ⟨t698,A16,H⟩:=zb H
           try dsimp only at H
           by_cases c17:t698 = true
           ·subst c17
            rw [if_pos rfl] at H
            by_cases c18:0 ≤ x25_2
            ·rw [if_pos c18] at H
             have c18b0:decide (0 ≤ x25_2) = true:=decide_eq_true c18
             clear c18
             by_cases c19:x25_2 < (x3_3.length:Int)
             ·rw [if_pos c19] at H
              have c19b0:decide (x25_2 < (x3_3.length:Int)) = true:=decide_eq_true c19
              (try (have c19b0h0_:=c19b0;rw [hl3_1] at c19b0h0_))
              (try (have c19b0h1_:=c19b0;rw [hl3_2] at c19b0h1_))
              (try (have c19b0h2_:=c19b0;rw [hl3_3] at c19b0h2_))
              clear c19
              obtain ⟨y701,hy701⟩:∃ y_:List Int,y_ = (x3_3.set (x30_3:Int).toNat (Go.bits .or .i64 (rd x3_3 x30_3) (rd x3_3 x25_2))):=⟨_,rfl⟩
              replace H:(impl_closure.l2 k3 y701 x25_2 (x3_1.length:Int) x25_2 (x3_2.length:Int) (wrap64 (x30_3 + 1))) = some r:=zy hy701 H
              have Ny701:=zA hy701
              clear hy701
              have H' := zA H
              clear H
              have p697:0 ≤ (x30_3:Int):=zd
              have q697:x30_3 < (x3_3.length:Int):=zd
              obtain ⟨ad697,e697,hx697_0⟩:=Kd.at_int (kB HO_3.out).2.2 x30_3 p697 q697
              cases e697
              replace p697:=eq_true p697
              replace q697:=eq_true q697
              try go_wp2_with (first | (refine zO (some 38) Tryd.func52 #[.int .i64 (rd x3_3 x30_3),.int .i64 x25_2] ?_;(with_reducible refine (impl_has.calls (rd x3_3 x30_3) x25_2 true _ A16.out).mono ?_);rintro e w' ⟨rfl,⟨nd,rfl⟩⟩;refine ⟨_,rfl,?_⟩;(try (rw [drewN_self wr];generalize hq_:World.drewN wr _ = wr;have n0_:Aside0 (Kd.R (Kd.int .i64) 2 wr w.heap.size (fun _=>True) (.slice (some ad697) x3_3.length co4) x3_3):=⟨by rw [← hq_];exact (zP HO_3.out)⟩;have n1_:Aside0 (Below w.heap.size w wr):=⟨by rw [← hq_];exact (zQ HB.out)⟩;clear HO_3 HB hq_;have HO_3:=n0_;have HB:=n1_;clear n0_ n1_))))
              replace HO_3:=zA (zH HO_3.out)
              replace HB:=zA (zD HB.out)
              have p699:0 ≤ (x30_3:Int):=zd
              have q699:x30_3 < (x3_3.length:Int):=zd
              obtain ⟨ad699,e699,hx699_0⟩:=Kd.at_int (kB HO_3.out).2.2 x30_3 p699 q699
              obtain rfl:ad697 = ad699:=(by injection e699)
              replace p699:=eq_true p699
              replace q699:=eq_true q699
              have p700:0 ≤ (x25_2:Int):=zd
              have q700:x25_2 < (x3_3.length:Int):=zd
              obtain ⟨ad700,e700,hx700_0⟩:=Kd.at_int (kB HO_3.out).2.2 x25_2 p700 q700
              obtain rfl:ad697 = ad700:=(by injection e700)
              replace p700:=eq_true p700
              replace q700:=eq_true q700
              have p20:0 ≤ (x30_3:Int):=zd
              have q20:(x30_3:Int) < ((x3_3.length:Int):Int):=zd
              obtain ⟨go20,co20,eo20,gb20,gl20,cl20,HG20⟩:=Kd.R_form HO_3.out (by omega)
              (first | cases eo20 | (injection eo20 with ea_ en_ ec_;(first | subst ea_ | (injection ea_ with ea_;subst ea_));subst ec_;clear en_))
              have GB20:=zA gb20
              have GG20:=zA HG20
              clear gb20 gl20 HG20
              (first | simp only [add_plain] at hx697_0 | skip)
              (first | simp only [add_plain] at hx699_0 | skip)
              (first | simp only [add_plain] at hx700_0 | skip)
              obtain ⟨hx20_0,hf20_0⟩:=Kd.R_celln 0 HO_3.out (x30_3:Int) p20 q20
              replace p20:=eq_true p20
              replace q20:=eq_true q20
              have HP22:=Kd.R_putn HO_3.out (x30_3:Int) (Go.bits .or .i64 (rd x3_3 x30_3) (rd x3_3 x25_2))
              rw [← Ny701.out] at HP22
              have HQ22:=zA HP22
              clear HP22
              refine start_ (n:=11) (S:=fun w' => w'.cell? ⟨go20,(x30_3).toNat,none⟩ = some (.int .i64 (rd x3_3 x30_3)) ∧ w'.cell? ⟨go20,(x25_2).toNat,none⟩ = some (.int .i64 (rd x3_3 x25_2))) (ds:=[10]) #[false,false,false,false,false,false,false,false,false,false,false] (by kernel_rfl) rfl rfl ⟨hx699_0,hx700_0⟩ (fun hHeld=>?_);refine with_tabW impl_closure.tab14 impl_closure.bits14 (fun HT_ HW_=>?_)
              generalize wr.drew = w21 at HO_3 HB GG20 HQ22 hf20_0 hx20_0 hx697_0 hx699_0 hx700_0 hHeld ⊢
              refine zp 0 (some 39) #[true,false,false,false,false,false,false,false,false,false,false] HT_.out ?_
              refine zp 1 (some 40) #[true,true,false,false,false,false,false,false,false,false,false] HT_.out ?_
              refine zp 2 (some 41) #[true,true,true,false,false,false,false,false,false,false,false] HT_.out ?_
              refine zp 4 (some 43) #[true,true,true,false,true,false,false,false,false,false,false] HT_.out ?_
              refine zp 5 (some 44) #[true,true,true,false,true,true,false,false,false,false,false] HT_.out ?_
              refine zp 6 (some 45) #[true,true,true,false,true,true,true,false,false,false,false] HT_.out ?_
              refine zc 3 (some 42) #[true,true,true,true,true,true,true,false,false,false,false] HT_.out HW_.out hHeld ?_
              refine zc 7 (some 46) #[true,true,true,true,true,true,true,true,false,false,false] HT_.out HW_.out hHeld ?_
              refine zp 8 (some 47) #[true,true,true,true,true,true,true,true,true,false,false] HT_.out ?_
              refine zp 9 (some 48) #[true,true,true,true,true,true,true,true,true,true,false] HT_.out ?_
              refine last_ (i:=10) (N:=none) #[true,true,true,true,true,true,true,true,true,true,true] rfl rfl (one_of HT_.out (by kernel_rfl)) (by decide) (fun K hK=>?_)
              refine skip_ (w1:=?_) (by rfl) rfl ?_ ?_
              rotate_left
              ·go_simp
               rfl
              refine hK.out _ _ ?_
              clear hK K
              refine done_ (done_of HT_.out (by kernel_rfl)) ?_
              try go_wp2
              (try simp only [← hl3_3])
              go_roundg k3
              case measure=>have:=HK1.out;have:=HK2.out;have:=HK3.out;omega
              case rel=>exact ⟨(y701),(wrap64 (x30_3 + 1)),zs,H', ⟨by have:=HK1.out;have:=HK2.out;have:=HK3.out;omega⟩,⟨by (try simp only [hl3_1]);(try simp only [hl3_2]);(try simp only [hl3_3]);(with_reducible repeat (first | apply zF | apply zG | apply zH));exact HQ22.out⟩,⟨zT HB.out GB20.out⟩⟩
             rw [if_neg c19] at H
             exact absurd H (by simp)
            rw [if_neg c18] at H
            exact absurd H (by simp)
           replace c17:=Bool.eq_false_iff.mpr c17
           subst c17
           rw [if_neg (show ¬ (false = true) by decide)] at H
           have H' := zA H
           clear H
           have p697:0 ≤ (x30_3:Int):=zd
           have q697:x30_3 < (x3_3.length:Int):=zd
           obtain ⟨ad697,e697,hx697_0⟩:=Kd.at_int (kB HO_3.out).2.2 x30_3 p697 q697
           cases e697
           replace p697:=eq_true p697
           replace q697:=eq_true q697
           go_wp2_with (first | (refine zO (some 38) Tryd.func52 #[.int .i64 (rd x3_3 x30_3),.int .i64 x25_2] ?_;(with_reducible refine (impl_has.calls (rd x3_3 x30_3) x25_2 false _ A16.out).mono ?_);rintro e w' ⟨rfl,⟨nd,rfl⟩⟩;refine ⟨_,rfl,?_⟩))
           (try simp only [← hl3_3])
           go_roundg k3
           case measure=>have:=HK1.out;have:=HK2.out;have:=HK3.out;omega
           case rel=>exact ⟨(x3_3),(wrap64 (x30_3 + 1)),zs,H', ⟨by have:=HK1.out;have:=HK2.out;have:=HK3.out;omega⟩,⟨by (try simp only [hl3_1]);(try simp only [hl3_2]);(try simp only [hl3_3]);(with_reducible repeat (first | apply zF | apply zG | apply zH));exact HO_3.out⟩,⟨zQ HB.out⟩⟩
          rw [if_neg c15] at H
          exact absurd H (by simp)
         rw [if_neg c14] at H
         exact absurd H (by simp)
        rw [if_neg c13] at H
        have c13b0:decide (x30_3 < (x3_2.length:Int)) = false:=decide_eq_false c13
        (try (have c13b0h0_:=c13b0;rw [hl3_1] at c13b0h0_))
        (try (have c13b0h1_:=c13b0;rw [hl3_2] at c13b0h1_))
        (try (have c13b0h2_:=c13b0;rw [hl3_3] at c13b0h2_))
        clear c13
        have H' := zA H
        clear H
        go_wp2
        (try simp only [← hl3_2,← hl3_3])
        go_roundg k3
        case measure=>have:=HK1.out;have:=HK2.out;have:=HK3.out;omega
        case rel=>exact ⟨(x3_3),(wrap64 (x25_2 + 1)),zs,H', ⟨by have:=HK1.out;have:=HK2.out;have:=HK3.out;omega⟩,⟨by (try simp only [hl3_1]);(try simp only [hl3_2]);(try simp only [hl3_3]);(with_reducible repeat (first | apply zF | apply zG | apply zH));exact HO_3.out⟩,⟨zQ HB.out⟩⟩
     rw [if_neg c12] at H
     have c12b0:decide (x25_2 < (x3_1.length:Int)) = false:=decide_eq_false c12
     (try (have c12b0h0_:=c12b0;rw [hl3_1] at c12b0h0_))
     (try (have c12b0h1_:=c12b0;rw [hl3_2] at c12b0h1_))
     (try (have c12b0h2_:=c12b0;rw [hl3_3] at c12b0h2_))
     clear c12
     obtain rfl:=Option.some.inj H
     go_wp2
     go_ret
     exact ⟨_,zr,zP HO_3.out,zQ HB.out⟩
mutual
def impl_ties_orderOf.l0:Nat → List Int → List Int → List Int → List Int → Int → Int → Option (List Int)
 | 0,_,_,_,_,_,_=>none
 | k + 1,x0,x1,x5,x12,x13,x14=>if x14 < x13 then (if 0 ≤ x14 then (if x14 < (x12.length:Int) then (impl_ties_orderOf.l1 k x0 x1 x5 x14 (rd x12 x14) (wrap64 (x14 + 1)) x12 x13 x14) else (none)) else (none)) else ((impl_closure.f k x5).bind fun t705=>(some t705))
def impl_ties_orderOf.l1:Nat → List Int → List Int → List Int → Int → Int → Int → List Int → Int → Int → Option (List Int)
 | 0,_,_,_,_,_,_,_,_,_=>none
 | k + 1,x0,x1,x5,x6,x7,x8,x12,x13,x14=>if x8 < (x1.length:Int) then (if 0 ≤ x7 then (if x7 < (x0.length:Int) then (if 0 ≤ x8 then ((impl_has.f (rd x0 x7) (rd x1 x8)).bind fun t711=>(if t711 = true then (if 0 ≤ x6 then (if x6 < (x5.length:Int) then ((impl_one.f x8).bind fun t713=>(impl_ties_orderOf.l1 k x0 x1 (x5.set (x6:Int).toNat (Go.bits .or .i64 (rd x5 x6) t713)) x6 x7 (wrap64 (x8 + 1)) x12 x13 x14)) else (none)) else (none)) else (impl_ties_orderOf.l1 k x0 x1 x5 x6 x7 (wrap64 (x8 + 1)) x12 x13 x14))) else (none)) else (none)) else (none)) else (impl_ties_orderOf.l0 k x0 x1 x5 x12 x13 (wrap64 (x14 + 1)))
end
def impl_ties_orderOf.f (k:Nat) (l0:List Int) (l1:List Int):Option (List Int):=if 0 ≤ (l1.length:Int) then (if ((l1.length:Int):Int).toNat ≤ 35184372088832 then (impl_ties_orderOf.l0 k l0 l1 (List.replicate ((l1.length:Int):Int).toNat 0) l1 (l1.length:Int) 0) else (none)) else (none)
def impl_ties_orderOf.T8:Bool × List (List Nat × List Nat):=(true,[([],[]),([],[]),([0,1],[0,1]),([2],[2]),([],[]),([],[]),([4,5],[4,5]),([6],[6]),([3,7],[3,7])])
def impl_ties_orderOf.B8:List Nat:=[0,0,3,7,0,0,48,112,255]
theorem impl_ties_orderOf.tab8:rtab .any (opsOf Tryd.f60 8) = impl_ties_orderOf.T8:=by kernel_rfl
theorem impl_ties_orderOf.bits8:waitsOk impl_ties_orderOf.T8.2 impl_ties_orderOf.B8 = true:=by kernel_rfl
def impl_ties_orderOf.T9:Bool × List (List Nat × List Nat):=(true,[([],[]),([],[]),([0,1],[0,1]),([2],[2]),([],[]),([4],[4]),([3,5],[3,5]),([0,1,0,1,2,3,4,5,6],[0,1]),([7,6,5,0,1,2,3,4,5,6],[6,7])])
def impl_ties_orderOf.B9:List Nat:=[0,0,3,7,0,16,63,127,255]
theorem impl_ties_orderOf.tab9:rtab .any (opsOf Tryd.f60 9) = impl_ties_orderOf.T9:=by kernel_rfl
theorem impl_ties_orderOf.bits9:waitsOk impl_ties_orderOf.T9.2 impl_ties_orderOf.B9 = true:=by kernel_rfl
set_option maxHeartbeats 8000000 in
set_option maxRecDepth 100000 in
theorem impl_ties_orderOf.calls (k : Nat) (A0 : Option Addr) (c0 : Nat) (l0 : List Int) (A1 : Option Addr) (c1 : Nat) (l1 : List Int) (r : List Int) (w : World) (hr0 : Kd.C (Kd.int .i64) w A0 l0.length l0) (hc0 : l0.length ≤ c0) (hr1 : Kd.C (Kd.int .i64) w A1 l1.length l1) (hc1 : l1.length ≤ c1) (h : impl_ties_orderOf.f k l0 l1 = some r) :
  Calls Tryd.prog 60 #[.slice A0 l0.length c0,.slice A1 l1.length c1] w fun e w' => ∃ v0_:Value,e = .returned (v0_) ∧ Kd.R (Kd.int .i64) 2 w' w.heap.size (fun _=>True) v0_ r ∧ Below w.heap.size w w' := by
 have HR0:=zA hr0
 have HC0:=zA hc0
 clear hr0 hc0
 have HR1:=zA hr1
 have HC1:=zA hc1
 clear hr1 hc1
 have HB:=zA (kW w.heap.size w)
 have H:=h
 unfold impl_ties_orderOf.f at H
 clear h
 by_cases c3:0 ≤ (l1.length:Int)
 ·rw [if_pos c3] at H
  have c3b0:=eq_true c3
  have c3b1:decide (0 ≤ (l1.length:Int)) = true:=decide_eq_true c3
  clear c3
  by_cases c4:((l1.length:Int):Int).toNat ≤ 35184372088832
  ·rw [if_pos c4] at H
   have c4b0:=eq_true c4
   have c4b1:decide (((l1.length:Int):Int).toNat ≤ 35184372088832) = true:=decide_eq_true c4
   clear c4
   obtain ⟨y702,hy702⟩:∃ y_:List Int,y_ = (List.replicate ((l1.length:Int):Int).toNat 0):=⟨_,rfl⟩
   replace H:(impl_ties_orderOf.l0 k l0 l1 y702 l1 (l1.length:Int) 0) = some r:=zy hy702 H
   have Ny702:=zA hy702
   clear hy702
   have H' := zA H
   clear H
   go_enter Tryd.func60,Tryd.ntmps60
   go_wp2_with (first | ((with_reducible refine kS (N:=11) rfl ?_);refine Kd.R_make (Kd.int .i64) _ 2 rfl (N:=11) rfl 24 _ _ rfl (l1.length:Int) rfl rfl Tryd.underlying24 (.int .i64 0) 8 info2 rfl (by decide) (by omega) 0 (ok:=fun _=>True) (okp:=fun _=>True) rfl (fun _ hk=>hk) trivial (zd) (Nat.le_trans (Nat.mul_le_mul_right _ (zd:(l1.length:Int).toNat ≤ 35184372088832)) (by omega)) (kW _ _) (Nat.le_refl _) ?_;intro v703 w5 ho6 hb hg_ hnew_;clear hg_ hnew_;(first | rw [← Ny702.out] at ho6 | (simp only [Int.reduceToNat] at ho6;rw [← Ny702.out] at ho6));have HO704:=zA (kI ho6 (kP (zQ HB.out)));replace HB:=zA (kQ (zQ HB.out) hb);clear hb ho6))
   go_loopg [14] k (fun kq v14 w' => ∃ (x5_1:List Int) (x14_1:Int),v14 = .int .i64 x14_1 ∧ Aside0 (impl_ties_orderOf.l0 kq l0 l1 x5_1 l1 (l1.length:Int) x14_1 = some r) ∧ Aside0 (kq ≤ k) ∧ Aside0 (Kd.R (Kd.int .i64) 2 w' w.heap.size (fun _=>True) v703 x5_1) ∧ Aside0 (Below w.heap.size w w'))
   case atStart=>exact ⟨(y702),(0),zs,H', ⟨Nat.le_refl _⟩,⟨zP HO704.out⟩,⟨zQ HB.out⟩⟩
   case round =>
    clear H'
    try clear c1
    try clear c3
    try clear c4
    try clear c6
    obtain ⟨x5_1,x14_1,rfl,HA,HK1,HO_5,HB⟩:=hrel
    cases gk with
    | zero=>exact absurd HA.out (by simp [impl_ties_orderOf.l0])
    | succ k1 =>
     have H:=HA.out
     clear HA
     simp only [impl_ties_orderOf.l0] at H
     by_cases c7:x14_1 < (l1.length:Int)
     ·rw [if_pos c7] at H
      have c7b0:decide (x14_1 < (l1.length:Int)) = true:=decide_eq_true c7
      clear c7
      by_cases c8:0 ≤ x14_1
      ·rw [if_pos c8] at H
       have c8b0:decide (0 ≤ x14_1) = true:=decide_eq_true c8
       clear c8
       by_cases c9:x14_1 < (l1.length:Int)
       ·rw [if_pos c9] at H
        have c9b0:decide (x14_1 < (l1.length:Int)) = true:=decide_eq_true c9
        clear c9
        have H' := zA H
        clear H
        have p708:0 ≤ (x14_1:Int):=zd
        have q708:x14_1 < (l1.length:Int):=zd
        obtain ⟨ad708,e708,hx708_0⟩:=Kd.at_int HR1.out x14_1 p708 q708
        cases e708
        replace hx708_0:=(HB.out.cell (jG w _ hx708_0)).trans hx708_0
        replace p708:=eq_true p708
        replace q708:=eq_true q708
        go_wp2
        go_loopg [8] k1 (fun kq v8 w' => ∃ (x5_2:List Int) (x8_2:Int),v8 = .int .i64 x8_2 ∧ Aside0 (impl_ties_orderOf.l1 kq l0 l1 x5_2 x14_1 (rd l1 x14_1) x8_2 l1 (l1.length:Int) x14_1 = some r) ∧ Aside0 (kq ≤ k1) ∧ Aside0 (Kd.R (Kd.int .i64) 2 w' w.heap.size (fun _=>True) v703 x5_2) ∧ Aside0 (Below w.heap.size w w'))
        case atStart=>exact ⟨(x5_1),(wrap64 (x14_1 + 1)),zs,H', ⟨Nat.le_refl _⟩,⟨zP HO_5.out⟩,⟨zQ HB.out⟩⟩
        case round =>
         clear H'
         try clear c1
         try clear c3
         try clear c4
         try clear c6
         try clear c7
         try clear hx7
         try clear c8
         try clear c9
         try clear hx708_0
         obtain ⟨x5_2,x8_2,rfl,HA,HK2,HO_5,HB⟩:=hrel
         cases gk with
         | zero=>exact absurd HA.out (by simp [impl_ties_orderOf.l1])
         | succ k2 =>
          have H:=HA.out
          clear HA
          simp only [impl_ties_orderOf.l1] at H
          by_cases c10:x8_2 < (l1.length:Int)
          ·rw [if_pos c10] at H
           have c10b0:decide (x8_2 < (l1.length:Int)) = true:=decide_eq_true c10
           clear c10
           by_cases c11:0 ≤ (rd l1 x14_1)
           ·rw [if_pos c11] at H
            have c11b0:decide (0 ≤ (rd l1 x14_1)) = true:=decide_eq_true c11
            clear c11
            by_cases c12:(rd l1 x14_1) < (l0.length:Int)
            ·rw [if_pos c12] at H
             have c12b0:decide ((rd l1 x14_1) < (l0.length:Int)) = true:=decide_eq_true c12
             clear c12
             by_cases c13:0 ≤ x8_2
             ·rw [if_pos c13] at H
              have c13b0:decide (0 ≤ x8_2) = true:=decide_eq_true c13
              clear c13
              obtain ⟨t711,A14,H⟩:=zb H
              try dsimp only at H
              by_cases c15:t711 = true
              ·subst c15
               rw [if_pos rfl] at H
               by_cases c16:0 ≤ x14_1
               ·rw [if_pos c16] at H
                have c16b0:decide (0 ≤ x14_1) = true:=decide_eq_true c16
                clear c16
                by_cases c17:x14_1 < (x5_2.length:Int)
                ·rw [if_pos c17] at H
                 have c17b0:decide (x14_1 < (x5_2.length:Int)) = true:=decide_eq_true c17
                 clear c17
                 obtain ⟨t713,A18,H⟩:=zb H
                 try dsimp only at H
                 obtain ⟨y714,hy714⟩:∃ y_:List Int,y_ = (x5_2.set (x14_1:Int).toNat (Go.bits .or .i64 (rd x5_2 x14_1) t713)):=⟨_,rfl⟩
                 replace H:(impl_ties_orderOf.l1 k2 l0 l1 y714 x14_1 (rd l1 x14_1) (wrap64 (x8_2 + 1)) l1 (l1.length:Int) x14_1) = some r:=zy hy714 H
                 have Ny714:=zA hy714
                 clear hy714
                 have H' := zA H
                 clear H
                 try go_wp2
                 replace HO_5:=zA (zH HO_5.out)
                 replace HB:=zA (zD HB.out)
                 have p709:0 ≤ ((rd l1 x14_1):Int):=zd
                 have q709:(rd l1 x14_1) < (l0.length:Int):=zd
                 obtain ⟨ad709,e709,hx709_0⟩:=Kd.at_int HR0.out (rd l1 x14_1) p709 q709
                 have hw709_0:=hx709_0
                 cases e709
                 replace hx709_0:=(HB.out.cell (jG w _ hx709_0)).trans hx709_0
                 replace p709:=eq_true p709
                 replace q709:=eq_true q709
                 have p710:0 ≤ (x8_2:Int):=zd
                 have q710:x8_2 < (l1.length:Int):=zd
                 obtain ⟨ad710,e710,hx710_0⟩:=Kd.at_int HR1.out x8_2 p710 q710
                 have hw710_0:=hx710_0
                 obtain rfl:ad708 = ad710:=(by injection e710)
                 replace hx710_0:=(HB.out.cell (jG w _ hx710_0)).trans hx710_0
                 replace p710:=eq_true p710
                 replace q710:=eq_true q710
                 refine start_ (n:=9) (S:=fun w' => w'.cell? (ad709.add ((rd l1 x14_1)).toNat) = some (.int .i64 (rd l0 (rd l1 x14_1))) ∧ w'.cell? (ad708.add (x8_2).toNat) = some (.int .i64 (rd l1 x8_2))) (ds:=[]) #[false,false,false,false,false,false,false,false,false] (by kernel_rfl) rfl rfl ⟨(pw_cell_below HB.out hw709_0),(pw_cell_below HB.out hw710_0)⟩ (fun hHeld=>?_);refine with_tabW impl_ties_orderOf.tab8 impl_ties_orderOf.bits8 (fun HT_ HW_=>?_)
                 generalize wr.drew = w20 at HO_5 HB hx709_0 hx710_0 hHeld ⊢
                 refine zp 0 (some 27) #[true,false,false,false,false,false,false,false,false] HT_.out ?_
                 refine zp 1 (some 28) #[true,true,false,false,false,false,false,false,false] HT_.out ?_
                 refine zp 2 (some 29) #[true,true,true,false,false,false,false,false,false] HT_.out ?_
                 refine zp 4 (some 31) #[true,true,true,false,true,false,false,false,false] HT_.out ?_
                 refine zp 5 (some 32) #[true,true,true,false,true,true,false,false,false] HT_.out ?_
                 refine zp 6 (some 33) #[true,true,true,false,true,true,true,false,false] HT_.out ?_
                 refine zc 3 (some 30) #[true,true,true,true,true,true,true,false,false] HT_.out HW_.out hHeld ?_
                 refine zc 7 (some 34) #[true,true,true,true,true,true,true,true,false] HT_.out HW_.out hHeld ?_
                 refine one_ (i:=8) (N:=some 35) #[true,true,true,true,true,true,true,true,true] rfl rfl (one_of HT_.out (by kernel_rfl)) (by decide) (fun K hK=>?_)
                 refine goes_ Tryd.func52 (by kernel_rfl) rfl #[.int .i64 (rd l0 (rd l1 x14_1)),.int .i64 (rd l1 x8_2)] (by rfl) rfl rfl zg ?_
                 with_reducible refine (impl_has.calls (rd l0 (rd l1 x14_1)) (rd l1 x8_2) true _ A14.out).mono ?_
                 rintro e w' ⟨rfl,⟨nd,rfl⟩⟩
                 refine ⟨_,rfl,?_⟩
                 refine hK.out _ _ ⟨(pw_cell_below HB.out hw709_0),(pw_cell_below HB.out hw710_0)⟩ (fun hHeld=>?_)
                 clear hK K
                 refine norm_ (a' := ?_) ?_ ?_
                 rotate_left
                 ·show Act.put _ (some 35) _ = _
                  simp only [Act.put,zL,zM,zN,i64_w,i32_w]
                  rfl
                 refine done_ (done_of HT_.out (by kernel_rfl)) ?_
                 try go_wp2
                 (try (rw [drewN_self w20];generalize hq_:World.drewN w20 _ = w20;have n0_:Aside0 (Kd.R (Kd.int .i64) 2 w20 w.heap.size (fun _=>True) v703 x5_2):=⟨by rw [← hq_];exact (zP HO_5.out)⟩;have n1_:Aside0 (Below w.heap.size w w20):=⟨by rw [← hq_];exact (zQ HB.out)⟩;clear HO_5 HB hq_;have HO_5:=n0_;have HB:=n1_;clear n0_ n1_))
                 replace HO_5:=zA (zH HO_5.out)
                 replace HB:=zA (zD HB.out)
                 obtain ⟨Ao22,co22,eo22⟩:=kM HO_5.out
                 (first | subst eo22 | (injection eo22 with f1_ f2_ f3_;have f4_:=f1_.symm;have f5_:=f3_.symm;clear f1_ f2_ f3_;subst f4_;subst f5_))
                 have p712:0 ≤ (x14_1:Int):=zd
                 have q712:x14_1 < (x5_2.length:Int):=zd
                 obtain ⟨ad712,e712,hx712_0⟩:=Kd.at_int (kB HO_5.out).2.2 x14_1 p712 q712
                 cases e712
                 replace p712:=eq_true p712
                 replace q712:=eq_true q712
                 refine start_ (n:=9) (S:=fun w' => w'.cell? (ad712.add (x14_1).toNat) = some (.int .i64 (rd x5_2 x14_1))) (ds:=[8]) #[false,false,false,false,false,false,false,false,false] (by kernel_rfl) rfl rfl (hx712_0) (fun hHeld=>?_);refine with_tabW impl_ties_orderOf.tab9 impl_ties_orderOf.bits9 (fun HT_ HW_=>?_)
                 generalize w20.drew = w21 at HO_5 HB hx712_0 hHeld ⊢
                 refine zp 0 (some 36) #[true,false,false,false,false,false,false,false,false] HT_.out ?_
                 refine zp 1 (some 37) #[true,true,false,false,false,false,false,false,false] HT_.out ?_
                 refine zp 2 (some 38) #[true,true,true,false,false,false,false,false,false] HT_.out ?_
                 refine zp 4 (some 40) #[true,true,true,false,true,false,false,false,false] HT_.out ?_
                 refine za 3 (some 39) #[true,true,true,true,true,false,false,false,false] HT_.out HW_.out hHeld ?_
                 refine one_ (i:=5) (N:=some 41) #[true,true,true,true,true,true,false,false,false] rfl rfl (one_of HT_.out (by kernel_rfl)) (by decide) (fun K hK=>?_)
                 refine goes_ Tryd.func31 (by kernel_rfl) rfl #[.int .i64 x8_2] (by rfl) rfl rfl zg ?_
                 with_reducible refine (impl_one.calls x8_2 t713 _ A18.out).mono ?_
                 rintro e w' ⟨rfl,⟨nd,rfl⟩⟩
                 refine ⟨_,rfl,?_⟩
                 have p19:0 ≤ (x14_1:Int):=zd
                 have q19:(x14_1:Int) < ((x5_2.length:Int):Int):=zd
                 obtain ⟨go19,co19,eo19,gb19,gl19,cl19,HG19⟩:=Kd.R_form HO_5.out (by omega)
                 (first | cases eo19 | (injection eo19 with ea_ en_ ec_;(first | subst ea_ | (injection ea_ with ea_;subst ea_));subst ec_;clear en_))
                 have GB19:=zA gb19
                 have GG19:=zA HG19
                 clear gb19 gl19 HG19
                 (first | simp only [add_plain] at hx712_0 | skip)
                 obtain ⟨hx19_0,hf19_0⟩:=Kd.R_celln 0 HO_5.out (x14_1:Int) p19 q19
                 replace p19:=eq_true p19
                 replace q19:=eq_true q19
                 have HP23:=Kd.R_putn HO_5.out (x14_1:Int) (Go.bits .or .i64 (rd x5_2 x14_1) t713)
                 rw [← Ny714.out] at HP23
                 have HQ23:=zA HP23
                 clear HP23
                 refine hK.out _ _ (hHeld) (fun hHeld=>?_)
                 clear hK K
                 refine norm_ (a' := ?_) ?_ ?_
                 rotate_left
                 ·show Act.put _ (some 41) _ = _
                  simp only [Act.put,zL,zM,zN,i64_w,i32_w]
                  rfl
                 refine zp 6 (some 42) #[true,true,true,true,true,true,true,false,false] HT_.out ?_
                 refine zp 7 (some 43) #[true,true,true,true,true,true,true,true,false] HT_.out ?_
                 refine last_ (i:=8) (N:=none) #[true,true,true,true,true,true,true,true,true] rfl rfl (one_of HT_.out (by kernel_rfl)) (by decide) (fun K hK=>?_)
                 refine skip_ (w1:=?_) (by rfl) rfl ?_ ?_
                 rotate_left
                 ·go_simp
                  rfl
                 refine hK.out _ _ ?_
                 clear hK K
                 refine done_ (done_of HT_.out (by kernel_rfl)) ?_
                 try go_wp2
                 go_roundg k2
                 case measure=>have:=HK1.out;have:=HK2.out;omega
                 case rel=>exact ⟨(y714),(wrap64 (x8_2 + 1)),zs,H', ⟨by have:=HK1.out;have:=HK2.out;omega⟩,⟨zP HQ23.out⟩,⟨zT HB.out GB19.out⟩⟩
                rw [if_neg c17] at H
                exact absurd H (by simp)
               rw [if_neg c16] at H
               exact absurd H (by simp)
              replace c15:=Bool.eq_false_iff.mpr c15
              subst c15
              rw [if_neg (show ¬ (false = true) by decide)] at H
              have H' := zA H
              clear H
              try go_wp2
              replace HO_5:=zA (zH HO_5.out)
              replace HB:=zA (zD HB.out)
              have p709:0 ≤ ((rd l1 x14_1):Int):=zd
              have q709:(rd l1 x14_1) < (l0.length:Int):=zd
              obtain ⟨ad709,e709,hx709_0⟩:=Kd.at_int HR0.out (rd l1 x14_1) p709 q709
              have hw709_0:=hx709_0
              cases e709
              replace hx709_0:=(HB.out.cell (jG w _ hx709_0)).trans hx709_0
              replace p709:=eq_true p709
              replace q709:=eq_true q709
              have p710:0 ≤ (x8_2:Int):=zd
              have q710:x8_2 < (l1.length:Int):=zd
              obtain ⟨ad710,e710,hx710_0⟩:=Kd.at_int HR1.out x8_2 p710 q710
              have hw710_0:=hx710_0
              obtain rfl:ad708 = ad710:=(by injection e710)
              replace hx710_0:=(HB.out.cell (jG w _ hx710_0)).trans hx710_0
              replace p710:=eq_true p710
              replace q710:=eq_true q710
              refine start_ (n:=9) (S:=fun w' => w'.cell? (ad709.add ((rd l1 x14_1)).toNat) = some (.int .i64 (rd l0 (rd l1 x14_1))) ∧ w'.cell? (ad708.add (x8_2).toNat) = some (.int .i64 (rd l1 x8_2))) (ds:=[]) #[false,false,false,false,false,false,false,false,false] (by kernel_rfl) rfl rfl ⟨(pw_cell_below HB.out hw709_0),(pw_cell_below HB.out hw710_0)⟩ (fun hHeld=>?_);refine with_tabW impl_ties_orderOf.tab8 impl_ties_orderOf.bits8 (fun HT_ HW_=>?_)
              generalize wr.drew = w24 at HO_5 HB hx709_0 hx710_0 hHeld ⊢
              refine zp 0 (some 27) #[true,false,false,false,false,false,false,false,false] HT_.out ?_
              refine zp 1 (some 28) #[true,true,false,false,false,false,false,false,false] HT_.out ?_
              refine zp 2 (some 29) #[true,true,true,false,false,false,false,false,false] HT_.out ?_
              refine zp 4 (some 31) #[true,true,true,false,true,false,false,false,false] HT_.out ?_
              refine zp 5 (some 32) #[true,true,true,false,true,true,false,false,false] HT_.out ?_
              refine zp 6 (some 33) #[true,true,true,false,true,true,true,false,false] HT_.out ?_
              refine zc 3 (some 30) #[true,true,true,true,true,true,true,false,false] HT_.out HW_.out hHeld ?_
              refine zc 7 (some 34) #[true,true,true,true,true,true,true,true,false] HT_.out HW_.out hHeld ?_
              refine one_ (i:=8) (N:=some 35) #[true,true,true,true,true,true,true,true,true] rfl rfl (one_of HT_.out (by kernel_rfl)) (by decide) (fun K hK=>?_)
              refine goes_ Tryd.func52 (by kernel_rfl) rfl #[.int .i64 (rd l0 (rd l1 x14_1)),.int .i64 (rd l1 x8_2)] (by rfl) rfl rfl zg ?_
              with_reducible refine (impl_has.calls (rd l0 (rd l1 x14_1)) (rd l1 x8_2) false _ A14.out).mono ?_
              rintro e w' ⟨rfl,⟨nd,rfl⟩⟩
              refine ⟨_,rfl,?_⟩
              refine hK.out _ _ ⟨(pw_cell_below HB.out hw709_0),(pw_cell_below HB.out hw710_0)⟩ (fun hHeld=>?_)
              clear hK K
              refine norm_ (a' := ?_) ?_ ?_
              rotate_left
              ·show Act.put _ (some 35) _ = _
               simp only [Act.put,zL,zM,zN,i64_w,i32_w]
               rfl
              refine done_ (done_of HT_.out (by kernel_rfl)) ?_
              try go_wp2
              go_roundg k2
              case measure=>have:=HK1.out;have:=HK2.out;omega
              case rel=>exact ⟨(x5_2),(wrap64 (x8_2 + 1)),zs,H', ⟨by have:=HK1.out;have:=HK2.out;omega⟩,⟨zP HO_5.out⟩,⟨zQ HB.out⟩⟩
             rw [if_neg c13] at H
             exact absurd H (by simp)
            rw [if_neg c12] at H
            exact absurd H (by simp)
           rw [if_neg c11] at H
           exact absurd H (by simp)
          rw [if_neg c10] at H
          have c10b0:decide (x8_2 < (l1.length:Int)) = false:=decide_eq_false c10
          clear c10
          have H' := zA H
          clear H
          go_wp2
          go_roundg k2
          case measure=>have:=HK1.out;have:=HK2.out;omega
          case rel=>exact ⟨(x5_2),(wrap64 (x14_1 + 1)),zs,H', ⟨by have:=HK1.out;have:=HK2.out;omega⟩,⟨zP HO_5.out⟩,⟨zQ HB.out⟩⟩
       rw [if_neg c9] at H
       exact absurd H (by simp)
      rw [if_neg c8] at H
      exact absurd H (by simp)
     rw [if_neg c7] at H
     have c7b0:decide (x14_1 < (l1.length:Int)) = false:=decide_eq_false c7
     clear c7
     obtain ⟨t705,A25,H⟩:=zb H
     try dsimp only at H
     obtain rfl:=Option.some.inj H
     obtain ⟨Ao26,co26,eo26⟩:=kM HO_5.out
     subst eo26
     go_wp2_with (first | (refine zO (some 46) Tryd.func79 #[.slice Ao26 x5_1.length co26] ?_;(with_reducible refine (impl_closure.calls k1 _ _ x5_1 t705 _ ?side1 ?side2 A25.out).mono ?_);(case side1=>exact zS (kB HO_5.out).2.2);(case side2=>exact (kB HO_5.out).2.1);rintro e w27 ⟨v706,rfl,ho0,hb⟩;refine ⟨_,rfl,?_⟩;have HO707:=zA (kI (kF ho0 (kH (zP HO_5.out))) (kP (zQ HB.out)));replace HO_5:=zA (kE (zP HO_5.out) (kC ho0) hb);replace HB:=zA (kQ (zQ HB.out) hb);(try clear hb);(try clear ho0)))
     go_ret
     exact ⟨_,zr,by (with_reducible repeat (first | apply zF | apply zG | apply zH));exact kA HO707.out (fun _ hk=>trivial),zQ HB.out⟩
  rw [if_neg c4] at H
  exact absurd H (by simp)
 rw [if_neg c3] at H
 exact absurd H (by simp)
def impl_positions.f (k:Nat) (a0_0:Int) (l0_1:List Int) (l1:List Int):Option (List Int × List Int):=(impl_Alphabet_ties.f a0_0 l0_1).bind fun t716=>((impl_ties_normal.f k t716 l1).bind fun t719=>((impl_Alphabet_ties.f a0_0 l0_1).bind fun t722=>((impl_ties_orderOf.f k t722 t719).bind fun t725=>(some (t719,t725)))))
set_option maxHeartbeats 8000000 in
set_option maxRecDepth 100000 in
theorem impl_positions.calls (k : Nat) (a0_0 : Int) (A0_1 : Option Addr) (c0_1 : Nat) (l0_1 : List Int) (A1 : Option Addr) (c1 : Nat) (l1 : List Int) (r1 : List Int) (r2 : List Int) (w : World) (hr0_1 : Kd.C (Kd.int .i64) w A0_1 l0_1.length l0_1) (hc0_1 : l0_1.length ≤ c0_1) (hr1 : Kd.C (Kd.int .i64) w A1 l1.length l1) (hc1 : l1.length ≤ c1) (hT : TabW w) (h : impl_positions.f k a0_0 l0_1 l1 = some (r1, r2)) :
  Calls Tryd.prog 28 #[.agg #[.int .i64 a0_0,.slice A0_1 l0_1.length c0_1],.slice A1 l1.length c1] w fun e w' => ∃ v0_ v1_:Value,e = .returned (.tuple #[v0_,v1_]) ∧ Kd.R (Kd.int .i64) 2 w' w.heap.size (fun k_=>some k_ ≠ (v1_:Value).ownBlock) v0_ r1 ∧ Kd.R (Kd.int .i64) 2 w' w.heap.size (fun k_=>some k_ ≠ (v0_:Value).ownBlock) v1_ r2 ∧ Below w.heap.size w w' := by
 have hu26:=Tryd.underlying26
 have HT:=zA hT
 clear hT
 have HR0_1:=zA hr0_1
 have HC0_1:=zA hc0_1
 clear hr0_1 hc0_1
 have HR1:=zA hr1
 have HC1:=zA hc1
 clear hr1 hc1
 have HB:=zA (kW w.heap.size w)
 have H:=h
 unfold impl_positions.f at H
 clear h
 obtain ⟨t716,A3,H⟩:=zb H
 try dsimp only at H
 obtain ⟨t719,A4,H⟩:=zb H
 try dsimp only at H
 obtain ⟨t722,A5,H⟩:=zb H
 try dsimp only at H
 obtain ⟨t725,A6,H⟩:=zb H
 try dsimp only at H
 simp only [Option.some.injEq,Prod.mk.injEq] at H
 obtain ⟨rfl,rfl⟩:=H
 go_enter Tryd.func28,Tryd.ntmps28
 go_wp2_with (first | (refine zBE 2 #[.int .i64 a0_0,.slice A0_1 l0_1.length c0_1] 26 ?_;intro gb715 hg w7 hbox hb;have BK715:=zA (hbox);have GW715:=zA (zBH hg HB.out);have GE715:=zA (zBH hg HB.out);replace HB:=zA (kQ (zQ HB.out) hb);clear hb hbox hg;obtain ⟨hcz8_0,hcz8_1,hfz8_0,hfz8_1⟩:=zB3 BK715.out) | (refine zO (some 8) Tryd.func38 #[.agg #[.int .i64 a0_0,.slice A0_1 l0_1.length c0_1]] ?_;(with_reducible refine (impl_Alphabet_ties.calls a0_0 (fun k_=>k_ < w.heap.size) _ _ l0_1 t716 _ ?side1 A3.out).mono ?_);(case side1=>exact Kd.V_mk HC0_1.out (Kd.F_below (Kd.C_F (Kd.heap_int .i64) HR0_1.out) (zT HB.out GE715.out)));rintro e w9 ⟨v717,rfl,ho0,hb⟩;refine ⟨_,rfl,?_⟩;have HO718:=zA (jM (kN (ok' := fun k_=>k_ ≠ gb715) ho0 (fun k_ hk_=>Or.elim hk_ (fun hs_=>fun e_=>Nat.not_le.2 hs_ (by rw [e_];exact GW715.out)) (fun hn_=>(jE (g:=gb715) (o:=.cells #[.int .i64 a0_0,.slice A0_1 l0_1.length c0_1] 26 (0,0)) (zR BK715.out) k_ hn_)))) (kP (zT HB.out GE715.out)));replace BK715:=zA (zB1 BK715.out hb);replace HB:=zA (kQ (zT HB.out GE715.out) hb);(try clear hb);(try clear ho0);obtain ⟨Ao10,co10,eo10⟩:=Kd.V_slice HO718.out;subst eo10) | (refine zO (some 10) Tryd.func59 #[.slice Ao10 t716.length co10,.slice A1 l1.length c1] ?_;(with_reducible refine (impl_ties_normal.calls k _ _ t716 (fun k_=>k_ < w.heap.size) _ _ l1 t719 _ ?side1 ?side2 ?side3 ?side4 A4.out).mono ?_);(case side1=>exact zS (kJ HO718.out).2.2);(case side2=>exact (kJ HO718.out).2.1);(case side3=>exact Kd.V_mk HC1.out (Kd.F_below (Kd.C_F (Kd.heap_int .i64) HR1.out) (zT HB.out GE715.out)));(case side4=>exact TabW.below HT.out (zT HB.out GE715.out));rintro e w11 ⟨v720,rfl,ho0,hb⟩;refine ⟨_,rfl,?_⟩;replace HO718:=zA (kK (zPV HO718.out) (kC ho0) hb);have HO721:=zA (kI (kA (ok' := fun k_=>True) ho0 (fun _ hk_=>trivial)) (kP (zT HB.out GE715.out)));replace BK715:=zA (zB1 BK715.out hb);replace HB:=zA (kQ (zT HB.out GE715.out) hb);(try clear hb);(try clear ho0);obtain ⟨hcz12_0,hcz12_1,hfz12_0,hfz12_1⟩:=zB3 BK715.out) | (refine zO (some 13) Tryd.func38 #[.agg #[.int .i64 a0_0,.slice A0_1 l0_1.length c0_1]] ?_;(with_reducible refine (impl_Alphabet_ties.calls a0_0 (fun k_=>k_ < w.heap.size) _ _ l0_1 t722 _ ?side1 A5.out).mono ?_);(case side1=>exact Kd.V_mk HC0_1.out (Kd.F_below (Kd.C_F (Kd.heap_int .i64) HR0_1.out) (zT HB.out GE715.out)));rintro e w13 ⟨v723,rfl,ho0,hb⟩;refine ⟨_,rfl,?_⟩;replace HO718:=zA (kG (zPV HO718.out) hb);have HO724:=zA (jM (kN (ok' := fun k_=>some k_ ≠ (v720:Value).ownBlock ∧ k_ ≠ gb715) ho0 (fun k_ hk_=>⟨Or.elim hk_ (fun hs_=>fun e_=>Nat.not_le.2 hs_ (kC HO721.out k_ e_.symm)) (fun hn_=>(jF (kH (zP HO721.out)) k_ hn_)),Or.elim hk_ (fun hs_=>fun e_=>Nat.not_le.2 hs_ (by rw [e_];exact GW715.out)) (fun hn_=>(jE (g:=gb715) (o:=.cells #[.int .i64 a0_0,.slice A0_1 l0_1.length c0_1] 26 (0,0)) (zR BK715.out) k_ hn_))⟩)) (kP (zT HB.out GE715.out)));replace HO721:=zA (kL (zP HO721.out) hb);replace BK715:=zA (zB1 BK715.out hb);replace HB:=zA (kQ (zT HB.out GE715.out) hb);(try clear hb);(try clear ho0);obtain ⟨Ao14,co14,eo14⟩:=Kd.V_slice HO724.out;subst eo14;obtain ⟨Ao15,co15,eo15⟩:=kM HO721.out;subst eo15) | (refine zO (some 15) Tryd.func60 #[.slice Ao14 t722.length co14,.slice Ao15 t719.length co15] ?_;(with_reducible refine (impl_ties_orderOf.calls k _ _ t722 _ _ t719 t725 _ ?side1 ?side2 ?side3 ?side4 A6.out).mono ?_);(case side1=>exact zS (kJ HO724.out).2.2);(case side2=>exact (kJ HO724.out).2.1);(case side3=>exact zS (kB HO721.out).2.2);(case side4=>exact (kB HO721.out).2.1);rintro e w16 ⟨v726,rfl,ho0,hb⟩;refine ⟨_,rfl,?_⟩;replace HO718:=zA (kK (zPV HO718.out) (kC ho0) hb);replace HO724:=zA (kK (zPV HO724.out) (kC ho0) hb);have HO727:=zA (kI (kF ho0 (kH (zP HO721.out))) (kP (zT HB.out GE715.out)));replace HO721:=zA (kE (zP HO721.out) (kC ho0) hb);replace BK715:=zA (zB1 BK715.out hb);replace HB:=zA (kQ (zT HB.out GE715.out) hb);(try clear hb);(try clear ho0)))
 go_ret2
 exact ⟨_,_,zr,by (with_reducible repeat (first | apply zF | apply zG | apply zH));exact kA HO721.out (fun _ hk=>hk.2),by (with_reducible repeat (first | apply zF | apply zG | apply zH));exact kA HO727.out (fun _ hk=>hk.2),zT HB.out GE715.out⟩
mutual
def impl_mostTogether.l0:Nat → List Int → Int → Int → Option (Int)
 | 0,_,_,_=>none
 | k + 1,x0,x1,x5=>if x1 = 0 then (some x5) else ((impl_least.f x1).bind fun t728=>(if 0 ≤ t728 then (if t728 < (x0.length:Int) then ((impl_mostTogether.f k x0 (Go.bits .and .i64 (Go.bits .and .i64 x1 (wrap64 (x1 - 1))) (rd x0 t728))).bind fun t730=>(impl_mostTogether.l0 k x0 (Go.bits .and .i64 x1 (wrap64 (x1 - 1))) (mx x5 (wrap64 (1 + t730))))) else (none)) else (none)))
def impl_mostTogether.f:Nat → List Int → Int → Option (Int)
 | 0,_,_=>none
 | k + 1,l0,a1=>impl_mostTogether.l0 k l0 a1 0
end
set_option maxHeartbeats 8000000 in
set_option maxRecDepth 100000 in
theorem impl_mostTogether.calls (k : Nat) : ∀ (A0 : Option Addr) (c0 : Nat) (l0 : List Int) (a1 : Int) (r : Int) (w : World) (hr0 : Kd.C (Kd.int .i64) w A0 l0.length l0) (hc0 : l0.length ≤ c0) (hT : TabW w) (h : impl_mostTogether.f k l0 a1 = some r),
  Calls Tryd.prog 29 #[.slice A0 l0.length c0,.int .i64 a1] w fun e w' => e = .returned (.int .i64 r) ∧ Below w.heap.size w w' := by
 induction k using Nat.strongRecOn with
 | _ k ih =>
 intro A0 c0 l0 a1 r w hr0 hc0 hT h
 cases k with
 | zero=>exact absurd h (by simp [impl_mostTogether.f])
 | succ k =>
 simp only [impl_mostTogether.f] at h
 have HT:=zA hT
 clear hT
 have HR0:=zA hr0
 have HC0:=zA hc0
 clear hr0 hc0
 have HB:=zA (kW w.heap.size w)
 have H:=h
 clear h
 have H' := zA H
 clear H
 go_enter Tryd.func29,Tryd.ntmps29
 go_wp2
 go_loopg [1,5] k (fun kq v1 v5 w' => ∃ (x1_1:Int) (x5_1:Int),v1 = .int .i64 x1_1 ∧ v5 = .int .i64 x5_1 ∧ Aside0 (impl_mostTogether.l0 kq l0 x1_1 x5_1 = some r) ∧ Aside0 (kq ≤ k) ∧ Aside0 (Below w.heap.size w w'))
 case atStart=>exact ⟨(a1),(0),zs,zs,H', ⟨Nat.le_refl _⟩,⟨zQ HB.out⟩⟩
 case round =>
  clear H'
  try clear c2
  obtain ⟨x1_1,x5_1,rfl,rfl,HA,HK1,HB⟩:=hrel
  cases gk with
  | zero=>exact absurd HA.out (by simp [impl_mostTogether.l0])
  | succ k1 =>
   have H:=HA.out
   clear HA
   simp only [impl_mostTogether.l0] at H
   by_cases c3:x1_1 = 0
   ·rw [if_pos c3] at H
    obtain ⟨c3b0,c3b1⟩:=zT1 c3
    clear c3
    obtain rfl:=Option.some.inj H
    go_wp2
    go_ret
    exact ⟨zr,zQ HB.out⟩
   rw [if_neg c3] at H
   obtain ⟨c3b0,c3b1⟩:=zT2 c3
   obtain ⟨t728,A4,H⟩:=zb H
   try dsimp only at H
   by_cases c5:0 ≤ t728
   ·rw [if_pos c5] at H
    have c5b0:decide (0 ≤ t728) = true:=decide_eq_true c5
    clear c5
    by_cases c6:t728 < (l0.length:Int)
    ·rw [if_pos c6] at H
     have c6b0:decide (t728 < (l0.length:Int)) = true:=decide_eq_true c6
     clear c6
     obtain ⟨t730,A7,H⟩:=zb H
     try dsimp only at H
     obtain ⟨ji8,hji8⟩:∃ j_:Int,(mx x5_1 (wrap64 (1 + t730))) = j_:=⟨_,rfl⟩
     replace H:(impl_mostTogether.l0 k1 l0 (Go.bits .and .i64 x1_1 (wrap64 (x1_1 - 1))) ji8) = some r:=by first | (rw [hji8] at H;exact H) | (simp only [hji8] at H ⊢;exact H)
     (try rw [hji8] at A4)
     (try rw [hji8] at A7)
     have hji8_:(if x5_1 < (wrap64 (1 + t730)) then (wrap64 (1 + t730)) else x5_1) = ji8:=hji8
     have H' := zA H
     clear H
     go_wp2_with (first | (refine zO (some 14) Tryd.func61 #[.int .i64 x1_1] ?_;(with_reducible refine (impl_least.calls x1_1 t728 _ ?side1 A4.out).mono ?_);(case side1=>exact TabW.below HT.out (zQ HB.out));rintro e w' ⟨rfl,⟨nd,rfl⟩⟩;refine ⟨_,rfl,?_⟩;have p729:0 ≤ (t728:Int):=zd;have q729:t728 < (l0.length:Int):=zd;obtain ⟨ad729,e729,hx729_0⟩:=Kd.at_int HR0.out t728 p729 q729;cases e729;replace hx729_0:=(HB.out.cell (jG w _ hx729_0)).trans hx729_0;replace p729:=eq_true p729;replace q729:=eq_true q729) | (refine zO (some 26) Tryd.func29 #[.slice (some ad729) l0.length c0,.int .i64 (Go.bits .and .i64 (Go.bits .and .i64 x1_1 (wrap64 (x1_1 - 1))) (rd l0 t728))] ?_;(with_reducible refine (ih k1 (by have:=HK1.out;omega) _ _ l0 (Go.bits .and .i64 (Go.bits .and .i64 x1_1 (wrap64 (x1_1 - 1))) (rd l0 t728)) t730 _ ?side1 ?side2 ?side3 A7.out).mono ?_);(case side1=>exact zS (kO HR0.out (zQ HB.out)));(case side2=>exact HC0.out);(case side3=>exact TabW.below HT.out (zQ HB.out));rintro e w9 ⟨rfl,hb⟩;refine ⟨_,rfl,?_⟩;replace HB:=zA (kQ (zQ HB.out) hb);(try clear hb)))
     go_roundg k1
     case measure=>have:=HK1.out;omega
     case rel=>exact ⟨(Go.bits .and .i64 x1_1 (wrap64 (x1_1 - 1))),(ji8),zs,(by first | rfl | (simp;done) | (simp only [← hji8] <;> (first | rfl | simp)) | (simp [*];done)),H', ⟨by have:=HK1.out;omega⟩,⟨zQ HB.out⟩⟩
    rw [if_neg c6] at H
    exact absurd H (by simp)
   rw [if_neg c5] at H
   exact absurd H (by simp)
def impl_concurrent.l0:Nat → List Int → List Int → List Int → Int → Int → Option (List Int)
 | 0,_,_,_,_,_=>none
 | k + 1,x0,x3,x8,x9,x10=>if x10 < x9 then (if 0 ≤ x10 then (if x10 < (x8.length:Int) then ((impl_length_int64.f x0).bind fun t738=>((impl_one.f t738).bind fun t739=>(if x10 < (x0.length:Int) then (if x3.length < 17592186044416 then (impl_concurrent.l0 k x0 (x3 ++ [Go.bits .andNot .i64 (Go.bits .andNot .i64 (wrap64 (t739 - 1)) (rd x8 x10)) (rd x0 x10)]) x8 x9 (wrap64 (x10 + 1))) else (none)) else (none)))) else (none)) else (none)) else (some x3)
def impl_concurrent.f (k:Nat) (l0:List Int):Option (List Int):=(impl_converse.f k l0).bind fun t734=>(impl_concurrent.l0 k l0 (([]:List Int)) t734 (t734.length:Int) 0)
def impl_concurrent.T5:Bool × List (List Nat × List Nat):=(true,[([],[]),([],[]),([1],[1]),([2,2],[2]),([3],[3]),([],[]),([4,5],[4,5]),([],[]),([],[]),([7,8],[7,8]),([9],[9]),([6,10],[6,10]),([11],[11]),([0,12,3],[0,12]),([13,13,0,1,2,3,4,5,6,7,8,9,10,11,12,13],[0,13])])
def impl_concurrent.B5:List Nat:=[0,0,2,6,14,0,62,0,0,384,896,2046,4094,8191,16383]
theorem impl_concurrent.tab5:rtab .any (opsOf Tryd.f30 5) = impl_concurrent.T5:=by kernel_rfl
theorem impl_concurrent.bits5:waitsOk impl_concurrent.T5.2 impl_concurrent.B5 = true:=by kernel_rfl
set_option maxHeartbeats 8000000 in
set_option maxRecDepth 100000 in
theorem impl_concurrent.calls (k : Nat) (A0 : Option Addr) (c0 : Nat) (l0 : List Int) (r : List Int) (w : World) (hr0 : Kd.C (Kd.int .i64) w A0 l0.length l0) (hc0 : l0.length ≤ c0) (hT : TabW w) (h : impl_concurrent.f k l0 = some r) :
  Calls Tryd.prog 30 #[.slice A0 l0.length c0] w fun e w' => ∃ v0_:Value,e = .returned (v0_) ∧ Kd.R (Kd.int .i64) 2 w' w.heap.size (fun _=>True) v0_ r ∧ Below w.heap.size w w' := by
 have HT:=zA hT
 clear hT
 have HR0:=zA hr0
 have HC0:=zA hc0
 clear hr0 hc0
 have HB:=zA (kW w.heap.size w)
 have H:=h
 unfold impl_concurrent.f at H
 clear h
 obtain ⟨y731,hy731⟩:∃ y_:List Int,y_ = (([]:List Int)):=⟨_,rfl⟩
 replace H:((impl_converse.f k l0).bind fun t734=>(impl_concurrent.l0 k l0 y731 t734 (t734.length:Int) 0)) = some r:=zy hy731 H
 have Ny731:=zA hy731
 clear hy731
 obtain ⟨t734,A2,H⟩:=zb H
 try dsimp only at H
 have H' := zA H
 clear H
 go_enter Tryd.func30,Tryd.ntmps30
 go_wp2_with (first | ((with_reducible refine kS (N:=6) rfl ?_);refine Kd.R_lit (Kd.int .i64) _ 2 ?hg (N:=6) ?hd (xs:=([]:List Int)) (inner:=[]) (ok:=fun _=>True) (okp:=fun _=>True) ?hr ?hp (fun _ hk=>hk) trivial (kW _ _) (Nat.le_refl _) (by simp) ?_;(case hd=>rfl);(case hg=>rfl);(case hr=>first | (go_simp;done) | (go_simp;rfl));(case hp=>exact (Reps.none _ _));intro v732 w3 ho4 hb hg_ hnew_;clear hg_ hnew_;(first | rw [← Ny731.out] at ho4 | (simp only [Int.reduceToNat] at ho4;rw [← Ny731.out] at ho4));have HO733:=zA (kI ho4 (kP (zQ HB.out)));replace HB:=zA (kQ (zQ HB.out) hb);clear hb ho4) | (refine zO (some 8) Tryd.func51 #[.slice A0 l0.length c0] ?_;(with_reducible refine (impl_converse.calls k _ _ l0 t734 _ ?side1 ?side2 ?side3 A2.out).mono ?_);(case side1=>exact zS (kO HR0.out HB.out));(case side2=>exact HC0.out);(case side3=>exact TabW.below HT.out (zQ HB.out));rintro e w5 ⟨v735,rfl,ho0,hb⟩;refine ⟨_,rfl,?_⟩;have HO736:=zA (kI (kF ho0 (kH (zP HO733.out))) (kP (zQ HB.out)));replace HO733:=zA (kE (zP HO733.out) (kC ho0) hb);replace HB:=zA (kQ (zQ HB.out) hb);(try clear hb);(try clear ho0);obtain ⟨Ao6,co6,eo6⟩:=kM HO736.out;subst eo6))
 go_loopg [3,10] k (fun kq v3 v10 w' => ∃ (x3_1:List Int) (x10_1:Int),v10 = .int .i64 x10_1 ∧ Aside0 (impl_concurrent.l0 kq l0 x3_1 t734 (t734.length:Int) x10_1 = some r) ∧ Aside0 (kq ≤ k) ∧ Aside0 (Kd.R (Kd.int .i64) 2 w' w.heap.size (fun k_=>some k_ ≠ ((.slice Ao6 t734.length co6):Value).ownBlock) v3 x3_1) ∧ Aside0 (Kd.R (Kd.int .i64) 2 w' w.heap.size (fun k_=>some k_ ≠ (v3:Value).ownBlock) (.slice Ao6 t734.length co6) t734) ∧ Aside0 (Below w.heap.size w w'))
 case atStart=>exact ⟨(y731),(0),zs,H', ⟨Nat.le_refl _⟩,⟨zPM HO733.out (fun _ hk=>hk.2)⟩,⟨zPM HO736.out (fun _ hk=>hk.2)⟩,⟨zQ HB.out⟩⟩
 case round =>
  clear H'
  try clear c3
  try clear c5
  obtain ⟨x3_1,x10_1,rfl,HA,HK1,HO_3,HO_8,HB⟩:=hrel
  cases gk with
  | zero=>exact absurd HA.out (by simp [impl_concurrent.l0])
  | succ k1 =>
   have H:=HA.out
   clear HA
   simp only [impl_concurrent.l0] at H
   by_cases c7:x10_1 < (t734.length:Int)
   ·rw [if_pos c7] at H
    have c7b0:decide (x10_1 < (t734.length:Int)) = true:=decide_eq_true c7
    clear c7
    by_cases c8:0 ≤ x10_1
    ·rw [if_pos c8] at H
     have c8b0:decide (0 ≤ x10_1) = true:=decide_eq_true c8
     clear c8
     by_cases c9:x10_1 < (t734.length:Int)
     ·rw [if_pos c9] at H
      have c9b0:decide (x10_1 < (t734.length:Int)) = true:=decide_eq_true c9
      clear c9
      obtain ⟨t738,A10,H⟩:=zb H
      try dsimp only at H
      obtain ⟨t739,A11,H⟩:=zb H
      try dsimp only at H
      by_cases c12:x10_1 < (l0.length:Int)
      ·rw [if_pos c12] at H
       have c12b0:decide (x10_1 < (l0.length:Int)) = true:=decide_eq_true c12
       clear c12
       by_cases c13:x3_1.length < 17592186044416
       ·rw [if_pos c13] at H
        have LMc13:=zA c13
        clear c13
        obtain ⟨y741,hy741⟩:∃ y_:List Int,y_ = (x3_1 ++ [Go.bits .andNot .i64 (Go.bits .andNot .i64 (wrap64 (t739 - 1)) (rd t734 x10_1)) (rd l0 x10_1)]):=⟨_,rfl⟩
        replace H:(impl_concurrent.l0 k1 l0 y741 t734 (t734.length:Int) (wrap64 (x10_1 + 1))) = some r:=zy hy741 H
        have Ny741:=zA hy741
        clear hy741
        have H' := zA H
        clear H
        have p737:0 ≤ (x10_1:Int):=zd
        have q737:x10_1 < (t734.length:Int):=zd
        obtain ⟨ad737,e737,hx737_0⟩:=Kd.at_int (kB HO_8.out).2.2 x10_1 p737 q737
        cases e737
        replace p737:=eq_true p737
        replace q737:=eq_true q737
        try go_wp2
        replace HO_3:=zA (zH HO_3.out)
        replace HO_8:=zA (zH HO_8.out)
        replace HB:=zA (zD HB.out)
        have p740:0 ≤ (x10_1:Int):=zd
        have q740:x10_1 < (l0.length:Int):=zd
        obtain ⟨ad740,e740,hx740_0⟩:=Kd.at_int HR0.out x10_1 p740 q740
        have hw740_0:=hx740_0
        cases e740
        replace hx740_0:=(HB.out.cell (jG w _ hx740_0)).trans hx740_0
        replace p740:=eq_true p740
        replace q740:=eq_true q740
        refine start_ (n:=15) (S:=fun w' => w'.cell? (ad740.add (x10_1).toNat) = some (.int .i64 (rd l0 x10_1))) (ds:=[]) #[false,false,false,false,false,false,false,false,false,false,false,false,false,false,false] (by kernel_rfl) rfl rfl ((pw_cell_below HB.out hw740_0)) (fun hHeld=>?_);refine with_tabW impl_concurrent.tab5 impl_concurrent.bits5 (fun HT_ HW_=>?_)
        generalize wr.drew = w14 at HO_3 HO_8 HB hx740_0 hHeld ⊢
        refine zp 0 (some 15) #[true,false,false,false,false,false,false,false,false,false,false,false,false,false,false] HT_.out ?_
        refine zp 1 (some 16) #[true,true,false,false,false,false,false,false,false,false,false,false,false,false,false] HT_.out ?_
        refine zp 5 (some 20) #[true,true,false,false,false,true,false,false,false,false,false,false,false,false,false] HT_.out ?_
        refine zp 7 (some 22) #[true,true,false,false,false,true,false,true,false,false,false,false,false,false,false] HT_.out ?_
        refine zp 8 (some 23) #[true,true,false,false,false,true,false,true,true,false,false,false,false,false,false] HT_.out ?_
        refine zp 9 (some 24) #[true,true,false,false,false,true,false,true,true,true,false,false,false,false,false] HT_.out ?_
        refine za 10 (some 25) #[true,true,false,false,false,true,false,true,true,true,true,false,false,false,false] HT_.out HW_.out hHeld ?_
        refine one_ (i:=2) (N:=some 17) #[true,true,true,false,false,true,false,true,true,true,true,false,false,false,false] rfl rfl (one_of HT_.out (by kernel_rfl)) (by decide) (fun K hK=>?_)
        refine goes_ Tryd.func32 (by kernel_rfl) rfl #[.slice (some ad740) l0.length c0] (by rfl) rfl rfl zg ?_
        with_reducible refine (impl_length_int64.calls _ _ l0 t738 _ ?side1 ?side2 A10.out).mono ?_
        (case side1=>exact zS (kO HR0.out HB.out))
        (case side2=>exact HC0.out)
        rintro e w' ⟨rfl,⟨nd,rfl⟩⟩
        refine ⟨_,rfl,?_⟩
        refine hK.out _ _ ((pw_cell_below HB.out hw740_0)) (fun hHeld=>?_)
        clear hK K
        refine norm_ (a' := ?_) ?_ ?_
        rotate_left
        ·show Act.put _ (some 17) _ = _
         simp only [Act.put,zL,zM,zN,i64_w,i32_w]
         rfl
        refine one_ (i:=3) (N:=some 18) #[true,true,true,true,false,true,false,true,true,true,true,false,false,false,false] rfl rfl (one_of HT_.out (by kernel_rfl)) (by decide) (fun K hK=>?_)
        refine goes_ Tryd.func31 (by kernel_rfl) rfl #[.int .i64 t738] (by rfl) rfl rfl zg ?_
        with_reducible refine (impl_one.calls t738 t739 _ A11.out).mono ?_
        rintro e w' ⟨rfl,⟨nd,rfl⟩⟩
        refine ⟨_,rfl,?_⟩
        refine hK.out _ _ ((pw_cell_below HB.out hw740_0)) (fun hHeld=>?_)
        clear hK K
        refine norm_ (a' := ?_) ?_ ?_
        rotate_left
        ·show Act.put _ (some 18) _ = _
         simp only [Act.put,zL,zM,zN,i64_w,i32_w]
         rfl
        refine zp 4 (some 19) #[true,true,true,true,true,true,false,true,true,true,true,false,false,false,false] HT_.out ?_
        refine zp 6 (some 21) #[true,true,true,true,true,true,true,true,true,true,true,false,false,false,false] HT_.out ?_
        refine zp 11 (some 26) #[true,true,true,true,true,true,true,true,true,true,true,true,false,false,false] HT_.out ?_
        refine one_ (i:=12) (N:=some 27) #[true,true,true,true,true,true,true,true,true,true,true,true,true,false,false] rfl rfl (one_of HT_.out (by kernel_rfl)) (by decide) (fun K hK=>?_)
        refine value_ (w1:=?_) (v:=?_) (by rfl) rfl ?_ ?_
        rotate_left 2
        ·go_simp
         constructor
         ·rfl
         rfl
        refine hK.out _ _ ((World.cell?_alloc_lt _ _ _ (jG _ _ ((pw_cell_below HB.out hw740_0)))).trans ((pw_cell_below HB.out hw740_0))) (fun hHeld=>?_)
        clear hK K
        refine norm_ (a' := ?_) ?_ ?_
        rotate_left
        ·show Act.put _ (some 27) _ = _
         simp only [Act.put,zL,zM,zN,i64_w,i32_w]
         rfl
        refine one_ (i:=13) (N:=some 28) #[true,true,true,true,true,true,true,true,true,true,true,true,true,true,false] rfl rfl (one_of HT_.out (by kernel_rfl)) (by decide) (fun K hK=>?_)
        refine Kd.R_append_step (Kd.int .i64) (w0:=w) w.heap.size (by rfl) (.tmp 15) (.tmp 27) 24 2 (.int .i64 0) 8 rfl Tryd.underlying24 info2 rfl (by decide) (by omega) u3 x3_1 (Go.bits .andNot .i64 (Go.bits .andNot .i64 (wrap64 (t739 - 1)) (rd t734 x10_1)) (rd l0 x10_1)) [.int .i64 (Go.bits .andNot .i64 (Go.bits .andNot .i64 (wrap64 (t739 - 1)) (rd t734 x10_1)) (rd l0 x10_1))] (fun k_=>some k_ ≠ (.slice (some ad737) t734.length co6:Value).ownBlock) (fun _=>False) rfl rfl ?aP (fun _ hk=>hk.elim) ?aF ?aO ?aB ?aS ?aL ?_
        (case aP=>exact rfl)
        (case aB=>exact (zQ HB.out))
        (case aF=>exact (fun k_ hk=>jF (kH (zP HO_8.out)) k_ hk))
        (case aO=>exact (zP HO_3.out))
        (case aS=>exact (kP (zQ HB.out)))
        (case aL=>have:=LMc13.out;omega)
        intro v742 w15 ho hb hg hat
        rw [← Ny741.out] at ho
        replace HO_8:=zA (Kd.R_after (ok:=(fun _=>True)) (by (with_reducible repeat (first | apply zF | apply zG | apply zH));exact kA HO_8.out (fun _ hk=>⟨trivial,hk⟩)) hg hat)
        replace HB:=zA (hb)
        have HO743:=zA (ho)
        clear HO_3 ho hb hg hat
        refine hK.out _ _ ((pw_cell_below HB.out hw740_0)) (fun hHeld=>?_)
        clear hK K
        refine norm_ (a' := ?_) ?_ ?_
        rotate_left
        ·show Act.put _ (some 28) _ = _
         simp only [Act.put,zL,zM,zN,i64_w,i32_w]
         rfl
        refine zp 14 (some 3) #[true,true,true,true,true,true,true,true,true,true,true,true,true,true,true] HT_.out ?_
        refine done_ (done_of HT_.out (by kernel_rfl)) ?_
        try go_wp2
        go_roundg k1
        case measure=>have:=HK1.out;omega
        case rel=>exact ⟨(y741),(wrap64 (x10_1 + 1)),zs,H', ⟨by have:=HK1.out;omega⟩,⟨zP HO743.out⟩,⟨zPM HO_8.out (fun _ hk=>hk.2)⟩,⟨zQ HB.out⟩⟩
       rw [if_neg c13] at H
       exact absurd H (by simp)
      rw [if_neg c12] at H
      exact absurd H (by simp)
     rw [if_neg c9] at H
     exact absurd H (by simp)
    rw [if_neg c8] at H
    exact absurd H (by simp)
   rw [if_neg c7] at H
   have c7b0:decide (x10_1 < (t734.length:Int)) = false:=decide_eq_false c7
   clear c7
   obtain rfl:=Option.some.inj H
   go_wp2
   go_ret
   exact ⟨_,zr,by (with_reducible repeat (first | apply zF | apply zG | apply zH));exact kA HO_3.out (fun _ hk=>trivial),zQ HB.out⟩
def impl_WidthOf.f (k:Nat) (a0_0:Int) (l0_1:List Int) (l1:List Int):Option (Int × Int):=(impl_checkWords.f k a0_0 l0_1 (([l1]:List (List Int)))).bind fun t748=>(if t748 = 0 then ((impl_positions.f k a0_0 l0_1 l1).bind fun bt749=>((impl_concurrent.f k bt749.2).bind fun t755=>((impl_length_int64.f l1).bind fun t758=>((impl_one.f t758).bind fun t759=>((impl_mostTogether.f k t755 (wrap64 (t759 - 1))).bind fun t760=>(some (t760,0))))))) else (some (0,t748)))
set_option maxHeartbeats 8000000 in
set_option maxRecDepth 100000 in
theorem impl_WidthOf.calls (k : Nat) (a0_0 : Int) (A0_1 : Option Addr) (c0_1 : Nat) (l0_1 : List Int) (P1_ : Nat → Prop) (A1 : Option Addr) (c1 : Nat) (l1 : List Int) (r1 : Int) (r2 : Int) (w : World) (hr0_1 : Kd.C (Kd.int .i64) w A0_1 l0_1.length l0_1) (hc0_1 : l0_1.length ≤ c0_1) (hs1 : Kd.V (Kd.int .i64) 2 w w.heap.size (fun k_ => P1_ k_) (.slice A1 l1.length c1) l1) (hT : TabW w) (h : impl_WidthOf.f k a0_0 l0_1 l1 = some (r1, r2)) :
  Calls Tryd.prog 13 #[.agg #[.int .i64 a0_0,.slice A0_1 l0_1.length c0_1],.slice A1 l1.length c1] w fun e w' => e = .returned (.tuple #[.int .i64 r1,.int .i64 r2]) ∧ Below w.heap.size w w' := by
 have hu26:=Tryd.underlying26
 have HT:=zA hT
 clear hT
 have HR0_1:=zA hr0_1
 have HC0_1:=zA hc0_1
 clear hr0_1 hc0_1
 have HO1:=zA (show Kd.V (Kd.int .i64) 2 w w.heap.size (fun k_=>(P1_ k_ ∨ w.heap.size ≤ k_)) (.slice A1 l1.length c1) l1 from kN hs1 (fun k_ hk=>.inl hk))
 have HB:=zA (kW w.heap.size w)
 have H:=h
 unfold impl_WidthOf.f at H
 clear h
 obtain ⟨y745,hy745⟩:∃ y_:List (List Int),y_ = (([l1]:List (List Int))):=⟨_,rfl⟩
 replace H:((impl_checkWords.f k a0_0 l0_1 y745).bind fun t748=>(if t748 = 0 then ((impl_positions.f k a0_0 l0_1 l1).bind fun bt749=>((impl_concurrent.f k bt749.2).bind fun t755=>((impl_length_int64.f l1).bind fun t758=>((impl_one.f t758).bind fun t759=>((impl_mostTogether.f k t755 (wrap64 (t759 - 1))).bind fun t760=>(some (t760,0))))))) else (some (0,t748)))) = some (r1,r2):=zy hy745 H
 have Ny745:=zA hy745
 clear hy745
 obtain ⟨t748,A3,H⟩:=zb H
 try dsimp only at H
 by_cases c4:t748 = 0
 ·rw [if_pos c4] at H
  obtain ⟨c4b0,c4b1⟩:=zT1 c4
  clear c4
  obtain ⟨⟨t749,t752⟩,A5,H⟩:=zb H
  try dsimp only at H
  obtain ⟨t755,A6,H⟩:=zb H
  try dsimp only at H
  obtain ⟨t758,A7,H⟩:=zb H
  try dsimp only at H
  obtain ⟨t759,A8,H⟩:=zb H
  try dsimp only at H
  obtain ⟨t760,A9,H⟩:=zb H
  try dsimp only at H
  simp only [Option.some.injEq,Prod.mk.injEq] at H
  obtain ⟨rfl,rfl⟩:=H
  go_enter Tryd.func13,Tryd.ntmps13
  go_wp2_with (first | (refine zBE 2 #[.int .i64 a0_0,.slice A0_1 l0_1.length c0_1] 26 ?_;intro gb744 hg w10 hbox hb;replace HO1:=zA (kG (jD (zPV HO1.out) gb744 (Nat.le_of_eq hg.symm)) hb);have BK744:=zA (hbox);have GW744:=zA (zBH hg HB.out);have GE744:=zA (zBH hg HB.out);replace HB:=zA (kQ (zQ HB.out) hb);clear hb hbox hg;obtain ⟨hcz11_0,hcz11_1,hfz11_0,hfz11_1⟩:=zB3 BK744.out) | ((with_reducible refine kS (N:=11) rfl ?_);refine Kd.N_lit (Kd.slice 2 (Kd.int .i64)) _ 24 ?hg (N' := 11) ?hd (xs:=([l1]:List (List Int))) (inner:=[.slice A1 l1.length c1]) (ok:=(fun k_=>(P1_ k_ ∨ w.heap.size ≤ k_) ∧ k_ ≠ gb744)) (okp:=(fun k_=>(P1_ k_ ∨ w.heap.size ≤ k_) ∧ k_ ≠ gb744)) ?hr ?hp (fun _ hk=>hk) ((show ∀ k_:Nat,(_:Nat) ≤ k_ → (fun k_=>(P1_ k_ ∨ w.heap.size ≤ k_) ∧ k_ ≠ gb744) k_ from fun k_ hk=>⟨(.inr (Nat.le_trans (kP (zT HB.out GE744.out)) hk)),jE (g:=gb744) (o:=.cells #[.int .i64 a0_0,.slice A0_1 l0_1.length c0_1] 26 (0,0)) (zR BK744.out) k_ hk⟩) _ (Nat.le_refl _)) (kW _ _) (Nat.le_refl _) (by simp) ?_;(case hd=>rfl);(case hg=>rfl);(case hr=>first | (go_simp;done) | (go_simp;rfl));(case hp=>exact (Reps.one (show Kd.FK (Kd.slice 2 (Kd.int .i64)) _ _ l1 [.slice A1 l1.length c1] from (zFK (kN (ok' := (fun k_=>(P1_ k_ ∨ w.heap.size ≤ k_) ∧ k_ ≠ gb744)) (HO1.out) (fun k_ hk=>⟨hk.1,hk.2⟩)))) (Reps.none _ _)));intro v746 w12 ho13 hb hg_ hnew_;clear hg_ hnew_;(first | rw [← Ny745.out] at ho13 | (simp only [Int.reduceToNat] at ho13;rw [← Ny745.out] at ho13));replace HO1:=zA (kK (zPV HO1.out) (Kd.N_base ho13) hb);have HO747:=zA (jN ho13 (kP (zT HB.out GE744.out)));replace BK744:=zA (zB1 BK744.out hb);replace HB:=zA (kQ (zT HB.out GE744.out) hb);clear hb ho13;obtain ⟨Ao14,co14,eo14⟩:=Kd.N_slice HO747.out;subst eo14) | (refine zO (some 12) Tryd.func27 #[.agg #[.int .i64 a0_0,.slice A0_1 l0_1.length c0_1],.slice Ao14 y745.length co14] ?_;(with_reducible refine (impl_checkWords.calls k a0_0 _ _ l0_1 _ _ y745 t748 _ ?side1 ?side2 ?side3 ?side4 ?side5 A3.out).mono ?_);(case side1=>exact zS (kO HR0_1.out HB.out));(case side2=>exact HC0_1.out);(case side3=>exact zS (Kd.N_reads' HO747.out).2.2);(case side4=>exact (Kd.N_reads' HO747.out).2.1);(case side5=>exact TabW.below HT.out (zT HB.out GE744.out));rintro e w15 ⟨rfl,hb⟩;refine ⟨_,rfl,?_⟩;replace HO1:=zA (kG (zPV HO1.out) hb);replace HO747:=zA (kZ (zPN HO747.out) hb);replace BK744:=zA (zB1 BK744.out hb);replace HB:=zA (kQ (zT HB.out GE744.out) hb);(try clear hb);obtain ⟨hcz16_0,hcz16_1,hfz16_0,hfz16_1⟩:=zB3 BK744.out) | (refine zO (some 19) Tryd.func28 #[.agg #[.int .i64 a0_0,.slice A0_1 l0_1.length c0_1],.slice A1 l1.length c1] ?_;(with_reducible refine (impl_positions.calls k a0_0 _ _ l0_1 _ _ l1 t749 t752 _ ?side1 ?side2 ?side3 ?side4 ?side5 A5.out).mono ?_);(case side1=>exact zS (kO HR0_1.out HB.out));(case side2=>exact HC0_1.out);(case side3=>exact zS (kJ HO1.out).2.2);(case side4=>exact (kJ HO1.out).2.1);(case side5=>exact TabW.below HT.out (zT HB.out GE744.out));rintro e w17 ⟨v750,v753,rfl,ho0,ho1,hb⟩;refine ⟨_,rfl,?_⟩;replace HO1:=zA (kN (Kd.V_told (Kd.V_told (Kd.V_old (zPV HO1.out) hb) (kC ho0)) (kC ho1)) (fun _ h_=>h_.1));replace HO747:=zA (Kd.N_mono (Kd.N_told (Kd.N_told (Kd.N_old (zPN HO747.out) hb) (kC ho0)) (kC ho1)) (fun _ h_=>h_.1));have HO751:=zA (kI (Kd.R_newM (M:=fun k_=>(w.heap.size ≤ k_)) ho0 (kP (zT HB.out GE744.out)) (fun k_ h_=>h_)) (kP (zT HB.out GE744.out)));have HO754:=zA (kI (Kd.R_newM (M:=fun k_=>(w.heap.size ≤ k_)) ho1 (kP (zT HB.out GE744.out)) (fun k_ h_=>h_)) (kP (zT HB.out GE744.out)));replace BK744:=zA (zB1 BK744.out hb);replace HB:=zA (kQ (zT HB.out GE744.out) hb);(try clear hb);(try clear ho0);(try clear ho1);obtain ⟨Ao18,co18,eo18⟩:=kM HO754.out;subst eo18) | (refine zO (some 23) Tryd.func30 #[.slice Ao18 t752.length co18] ?_;(with_reducible refine (impl_concurrent.calls k _ _ t752 t755 _ ?side1 ?side2 ?side3 A6.out).mono ?_);(case side1=>exact zS (kB HO754.out).2.2);(case side2=>exact (kB HO754.out).2.1);(case side3=>exact TabW.below HT.out (zT HB.out GE744.out));rintro e w19 ⟨v756,rfl,ho0,hb⟩;refine ⟨_,rfl,?_⟩;replace HO1:=zA (kK (zPV HO1.out) (kC ho0) hb);replace HO747:=zA (Kd.N_elder' (zPN HO747.out) (kC ho0) hb);have HO757:=zA (kI (kF (kF (Kd.R_newM (M:=fun k_=>(w.heap.size ≤ k_)) ho0 (kP (zT HB.out GE744.out)) (fun k_ h_=>h_)) (kH (zP HO751.out))) (kH (zP HO754.out))) (kP (zT HB.out GE744.out)));replace HO751:=zA (kE (zP HO751.out) (kC ho0) hb);replace HO754:=zA (kE (zP HO754.out) (kC ho0) hb);replace BK744:=zA (zB1 BK744.out hb);replace HB:=zA (kQ (zT HB.out GE744.out) hb);(try clear hb);(try clear ho0)) | (refine zO (some 25) Tryd.func32 #[.slice A1 l1.length c1] ?_;(with_reducible refine (impl_length_int64.calls _ _ l1 t758 _ ?side1 ?side2 A7.out).mono ?_);(case side1=>exact zS (kJ HO1.out).2.2);(case side2=>exact (kJ HO1.out).2.1);rintro e w' ⟨rfl,⟨nd,rfl⟩⟩;refine ⟨_,rfl,?_⟩) | (refine zO (some 26) Tryd.func31 #[.int .i64 t758] ?_;(with_reducible refine (impl_one.calls t758 t759 _ A8.out).mono ?_);rintro e w' ⟨rfl,⟨nd,rfl⟩⟩;refine ⟨_,rfl,?_⟩;obtain ⟨Ao20,co20,eo20⟩:=kM HO757.out;subst eo20) | (refine zO (some 28) Tryd.func29 #[.slice Ao20 t755.length co20,.int .i64 (wrap64 (t759 - 1))] ?_;(with_reducible refine (impl_mostTogether.calls k _ _ t755 (wrap64 (t759 - 1)) t760 _ ?side1 ?side2 ?side3 A9.out).mono ?_);(case side1=>exact zS (kB HO757.out).2.2);(case side2=>exact (kB HO757.out).2.1);(case side3=>exact TabW.below HT.out (zT HB.out GE744.out));rintro e w21 ⟨rfl,hb⟩;refine ⟨_,rfl,?_⟩;replace HO1:=zA (kG (zPV HO1.out) hb);replace HO747:=zA (kZ (zPN HO747.out) hb);replace HO751:=zA (kL (zP HO751.out) hb);replace HO754:=zA (kL (zP HO754.out) hb);replace HO757:=zA (kL (zP HO757.out) hb);replace BK744:=zA (zB1 BK744.out hb);replace HB:=zA (kQ (zT HB.out GE744.out) hb);(try clear hb)))
  go_ret2
  exact ⟨zr,zT HB.out GE744.out⟩
 rw [if_neg c4] at H
 obtain ⟨c4b0,c4b1⟩:=zT2 c4
 simp only [Option.some.injEq,Prod.mk.injEq] at H
 obtain ⟨rfl,rfl⟩:=H
 go_enter Tryd.func13,Tryd.ntmps13
 go_wp2_with (first | (refine zBE 2 #[.int .i64 a0_0,.slice A0_1 l0_1.length c0_1] 26 ?_;intro gb744 hg w22 hbox hb;replace HO1:=zA (kG (jD (zPV HO1.out) gb744 (Nat.le_of_eq hg.symm)) hb);have BK744:=zA (hbox);have GW744:=zA (zBH hg HB.out);have GE744:=zA (zBH hg HB.out);replace HB:=zA (kQ (zQ HB.out) hb);clear hb hbox hg;obtain ⟨hcz23_0,hcz23_1,hfz23_0,hfz23_1⟩:=zB3 BK744.out) | ((with_reducible refine kS (N:=11) rfl ?_);refine Kd.N_lit (Kd.slice 2 (Kd.int .i64)) _ 24 ?hg (N' := 11) ?hd (xs:=([l1]:List (List Int))) (inner:=[.slice A1 l1.length c1]) (ok:=(fun k_=>(P1_ k_ ∨ w.heap.size ≤ k_) ∧ k_ ≠ gb744)) (okp:=(fun k_=>(P1_ k_ ∨ w.heap.size ≤ k_) ∧ k_ ≠ gb744)) ?hr ?hp (fun _ hk=>hk) ((show ∀ k_:Nat,(_:Nat) ≤ k_ → (fun k_=>(P1_ k_ ∨ w.heap.size ≤ k_) ∧ k_ ≠ gb744) k_ from fun k_ hk=>⟨(.inr (Nat.le_trans (kP (zT HB.out GE744.out)) hk)),jE (g:=gb744) (o:=.cells #[.int .i64 a0_0,.slice A0_1 l0_1.length c0_1] 26 (0,0)) (zR BK744.out) k_ hk⟩) _ (Nat.le_refl _)) (kW _ _) (Nat.le_refl _) (by simp) ?_;(case hd=>rfl);(case hg=>rfl);(case hr=>first | (go_simp;done) | (go_simp;rfl));(case hp=>exact (Reps.one (show Kd.FK (Kd.slice 2 (Kd.int .i64)) _ _ l1 [.slice A1 l1.length c1] from (zFK (kN (ok' := (fun k_=>(P1_ k_ ∨ w.heap.size ≤ k_) ∧ k_ ≠ gb744)) (HO1.out) (fun k_ hk=>⟨hk.1,hk.2⟩)))) (Reps.none _ _)));intro v746 w24 ho25 hb hg_ hnew_;clear hg_ hnew_;(first | rw [← Ny745.out] at ho25 | (simp only [Int.reduceToNat] at ho25;rw [← Ny745.out] at ho25));replace HO1:=zA (kK (zPV HO1.out) (Kd.N_base ho25) hb);have HO747:=zA (jN ho25 (kP (zT HB.out GE744.out)));replace BK744:=zA (zB1 BK744.out hb);replace HB:=zA (kQ (zT HB.out GE744.out) hb);clear hb ho25;obtain ⟨Ao26,co26,eo26⟩:=Kd.N_slice HO747.out;subst eo26) | (refine zO (some 12) Tryd.func27 #[.agg #[.int .i64 a0_0,.slice A0_1 l0_1.length c0_1],.slice Ao26 y745.length co26] ?_;(with_reducible refine (impl_checkWords.calls k a0_0 _ _ l0_1 _ _ y745 t748 _ ?side1 ?side2 ?side3 ?side4 ?side5 A3.out).mono ?_);(case side1=>exact zS (kO HR0_1.out HB.out));(case side2=>exact HC0_1.out);(case side3=>exact zS (Kd.N_reads' HO747.out).2.2);(case side4=>exact (Kd.N_reads' HO747.out).2.1);(case side5=>exact TabW.below HT.out (zT HB.out GE744.out));rintro e w27 ⟨rfl,hb⟩;refine ⟨_,rfl,?_⟩;replace HO1:=zA (kG (zPV HO1.out) hb);replace HO747:=zA (kZ (zPN HO747.out) hb);replace BK744:=zA (zB1 BK744.out hb);replace HB:=zA (kQ (zT HB.out GE744.out) hb);(try clear hb)))
 go_ret2
 exact ⟨zr,zT HB.out GE744.out⟩
def spec_l03Word.l0:Nat → Int → List Int → Int → Option (Bool)
 | 0,_,_,_=>none
 | k + 1,x0,x1,x5=>if x5 < (x1.length:Int) then (if 0 ≤ x5 then ((spec_l01In.f (rd x1 x5) 0 (wrap64 (x0 - 1))).bind fun t762=>(if t762 = true then (spec_l03Word.l0 k x0 x1 (wrap64 (x5 + 1))) else (some false))) else (none)) else (some true)
def spec_l03Word.f (k:Nat) (a0:Int) (l1:List Int):Option (Bool):=if (l1.length:Int) > 24 then (some false) else (spec_l03Word.l0 k a0 l1 0)
set_option maxHeartbeats 8000000 in
set_option maxRecDepth 100000 in
theorem spec_l03Word.calls (k : Nat) (a0 : Int) (A1 : Option Addr) (c1 : Nat) (l1 : List Int) (r : Bool) (w : World) (hr1 : Kd.C (Kd.int .i64) w A1 l1.length l1) (hc1 : l1.length ≤ c1) (h : spec_l03Word.f k a0 l1 = some r) :
  Calls Tryd.prog 81 #[.int .i64 a0,.slice A1 l1.length c1] w fun e w' => e = .returned (.bool r) ∧ Drawn0 w w' := by
 have HR1:=zA hr1
 have HC1:=zA hc1
 clear hr1 hc1
 have H:=h
 unfold spec_l03Word.f at H
 clear h
 by_cases c3:(l1.length:Int) > 24
 ·rw [if_pos c3] at H
  have c3b0:decide (24 < (l1.length:Int)) = true:=decide_eq_true c3
  have c3b1:decide (24 < l1.length) = true:=decide_eq_true (by omega)
  clear c3
  obtain rfl:=Option.some.inj H
  go_enter Tryd.func81,Tryd.ntmps81
  go_wp2
  go_ret
  exact ⟨zs,by repeat (first | exact Drawn0.refl _ | apply Drawn0.step)⟩
 rw [if_neg c3] at H
 have c3b0:decide (24 < (l1.length:Int)) = false:=decide_eq_false c3
 have c3b1:decide (24 < l1.length) = false:=decide_eq_false (by omega)
 clear c3
 have H' := zA H
 clear H
 go_enter Tryd.func81,Tryd.ntmps81
 go_wp2
 go_loopg [5] k (fun kq v5 w' => ∃ (x5_1:Int),v5 = .int .i64 x5_1 ∧ Aside0 (spec_l03Word.l0 kq a0 l1 x5_1 = some r) ∧ Aside0 (kq ≤ k) ∧ Drawn0 w w')
 case atStart=>exact ⟨(0),zs,H', ⟨Nat.le_refl _⟩,by repeat (first | exact Drawn0.refl _ | apply Drawn0.step)⟩
 case round =>
  clear H'
  try clear c1
  try clear c3
  obtain ⟨x5_1,rfl,HA,HK1,⟨m1,rfl⟩⟩:=hrel
  cases gk with
  | zero=>exact absurd HA.out (by simp [spec_l03Word.l0])
  | succ k1 =>
   have H:=HA.out
   clear HA
   simp only [spec_l03Word.l0] at H
   by_cases c4:x5_1 < (l1.length:Int)
   ·rw [if_pos c4] at H
    have c4b0:decide (x5_1 < (l1.length:Int)) = true:=decide_eq_true c4
    clear c4
    by_cases c5:0 ≤ x5_1
    ·rw [if_pos c5] at H
     have c5b0:decide (0 ≤ x5_1) = true:=decide_eq_true c5
     clear c5
     obtain ⟨t762,A6,H⟩:=zb H
     try dsimp only at H
     by_cases c7:t762 = true
     ·subst c7
      rw [if_pos rfl] at H
      have H' := zA H
      clear H
      have p761:0 ≤ (x5_1:Int):=zd
      have q761:x5_1 < (l1.length:Int):=zd
      obtain ⟨ad761,e761,hx761_0⟩:=Kd.at_int HR1.out x5_1 p761 q761
      cases e761
      replace p761:=eq_true p761
      replace q761:=eq_true q761
      go_wp2_with (first | (refine zO (some 21) Tryd.func70 #[.int .i64 (rd l1 x5_1),.int .i64 0,.int .i64 (wrap64 (a0 - 1))] ?_;(with_reducible refine (spec_l01In.calls (rd l1 x5_1) 0 (wrap64 (a0 - 1)) true _ A6.out).mono ?_);rintro e w' ⟨rfl,⟨nd,rfl⟩⟩;refine ⟨_,rfl,?_⟩))
      go_roundg k1
      case measure=>have:=HK1.out;omega
      case rel=>exact ⟨(wrap64 (x5_1 + 1)),zs,H', ⟨by have:=HK1.out;omega⟩,by repeat (first | exact Drawn0.refl _ | apply Drawn0.step)⟩
     replace c7:=Bool.eq_false_iff.mpr c7
     subst c7
     rw [if_neg (show ¬ (false = true) by decide)] at H
     obtain rfl:=Option.some.inj H
     have p761:0 ≤ (x5_1:Int):=zd
     have q761:x5_1 < (l1.length:Int):=zd
     obtain ⟨ad761,e761,hx761_0⟩:=Kd.at_int HR1.out x5_1 p761 q761
     cases e761
     replace p761:=eq_true p761
     replace q761:=eq_true q761
     go_wp2_with (first | (refine zO (some 21) Tryd.func70 #[.int .i64 (rd l1 x5_1),.int .i64 0,.int .i64 (wrap64 (a0 - 1))] ?_;(with_reducible refine (spec_l01In.calls (rd l1 x5_1) 0 (wrap64 (a0 - 1)) false _ A6.out).mono ?_);rintro e w' ⟨rfl,⟨nd,rfl⟩⟩;refine ⟨_,rfl,?_⟩))
     go_ret
     exact ⟨zs,by repeat (first | exact Drawn0.refl _ | apply Drawn0.step)⟩
    rw [if_neg c5] at H
    exact absurd H (by simp)
   rw [if_neg c4] at H
   have c4b0:decide (x5_1 < (l1.length:Int)) = false:=decide_eq_false c4
   clear c4
   obtain rfl:=Option.some.inj H
   go_wp2
   go_ret
   exact ⟨zs,by repeat (first | exact Drawn0.refl _ | apply Drawn0.step)⟩
def spec_l03Code.f (k:Nat) (a0_0:Int) (l0_1:List Int) (l1:List Int) (l2:List Int):Option (Int):=(spec_l02Is.f k a0_0 l0_1).bind fun t764=>(if t764 = true then ((spec_l03Word.f k a0_0 l1).bind fun t765=>(if t765 = true then ((spec_l03Word.f k a0_0 l2).bind fun t766=>(if t766 = true then (some 0) else (some 2))) else (some 2))) else (some 1))
set_option maxHeartbeats 8000000 in
set_option maxRecDepth 100000 in
theorem spec_l03Code.calls (k : Nat) (a0_0 : Int) (A0_1 : Option Addr) (c0_1 : Nat) (l0_1 : List Int) (A1 : Option Addr) (c1 : Nat) (l1 : List Int) (A2 : Option Addr) (c2 : Nat) (l2 : List Int) (r : Int) (w : World) (hr0_1 : Kd.C (Kd.int .i64) w A0_1 l0_1.length l0_1) (hc0_1 : l0_1.length ≤ c0_1) (hr1 : Kd.C (Kd.int .i64) w A1 l1.length l1) (hc1 : l1.length ≤ c1) (hr2 : Kd.C (Kd.int .i64) w A2 l2.length l2) (hc2 : l2.length ≤ c2) (h : spec_l03Code.f k a0_0 l0_1 l1 l2 = some r) :
  Calls Tryd.prog 62 #[.agg #[.int .i64 a0_0,.slice A0_1 l0_1.length c0_1],.slice A1 l1.length c1,.slice A2 l2.length c2] w fun e w' => e = .returned (.int .i64 r) ∧ Below w.heap.size w w' := by
 have hu26:=Tryd.underlying26
 have HR0_1:=zA hr0_1
 have HC0_1:=zA hc0_1
 clear hr0_1 hc0_1
 have HR1:=zA hr1
 have HC1:=zA hc1
 clear hr1 hc1
 have HR2:=zA hr2
 have HC2:=zA hc2
 clear hr2 hc2
 have HB:=zA (kW w.heap.size w)
 have H:=h
 unfold spec_l03Code.f at H
 clear h
 obtain ⟨t764,A4,H⟩:=zb H
 try dsimp only at H
 by_cases c5:t764 = true
 ·subst c5
  rw [if_pos rfl] at H
  obtain ⟨t765,A6,H⟩:=zb H
  try dsimp only at H
  by_cases c7:t765 = true
  ·subst c7
   rw [if_pos rfl] at H
   obtain ⟨t766,A8,H⟩:=zb H
   try dsimp only at H
   by_cases c9:t766 = true
   ·subst c9
    rw [if_pos rfl] at H
    obtain rfl:=Option.some.inj H
    go_enter Tryd.func62,Tryd.ntmps62
    go_wp2_with (first | (refine zBE 3 #[.int .i64 a0_0,.slice A0_1 l0_1.length c0_1] 26 ?_;intro gb763 hg w10 hbox hb;have BK763:=zA (hbox);have GW763:=zA (zBH hg HB.out);have GE763:=zA (zBH hg HB.out);replace HB:=zA (kQ (zQ HB.out) hb);clear hb hbox hg;obtain ⟨hcz11_0,hcz11_1,hfz11_0,hfz11_1⟩:=zB3 BK763.out) | (refine zO (some 8) Tryd.func46 #[.agg #[.int .i64 a0_0,.slice A0_1 l0_1.length c0_1]] ?_;(with_reducible refine (spec_l02Is.calls k a0_0 _ _ l0_1 true _ ?side1 ?side2 A4.out).mono ?_);(case side1=>exact zS (kO HR0_1.out HB.out));(case side2=>exact HC0_1.out);rintro e w12 ⟨rfl,hb⟩;refine ⟨_,rfl,?_⟩;replace BK763:=zA (zB1 BK763.out hb);replace HB:=zA (kQ (zT HB.out GE763.out) hb);(try clear hb);obtain ⟨hcz13_0,hcz13_1,hfz13_0,hfz13_1⟩:=zB3 BK763.out) | (refine zO (some 13) Tryd.func81 #[.int .i64 a0_0,.slice A1 l1.length c1] ?_;(with_reducible refine (spec_l03Word.calls k a0_0 _ _ l1 true _ ?side1 ?side2 A6.out).mono ?_);(case side1=>exact zS (kO HR1.out HB.out));(case side2=>exact HC1.out);rintro e w' ⟨rfl,⟨nd,rfl⟩⟩;refine ⟨_,rfl,?_⟩) | (go_at_call 81;(with_reducible refine (spec_l03Word.calls k a0_0 _ _ l2 true _ ?side1 ?side2 A8.out).mono ?_);(case side1=>exact zS (kO HR2.out (zT HB.out GE763.out)));(case side2=>exact HC2.out);rintro e w' ⟨rfl,⟨nd,rfl⟩⟩))
    go_ret
    exact ⟨zr,zT HB.out GE763.out⟩
   replace c9:=Bool.eq_false_iff.mpr c9
   subst c9
   rw [if_neg (show ¬ (false = true) by decide)] at H
   obtain rfl:=Option.some.inj H
   go_enter Tryd.func62,Tryd.ntmps62
   go_wp2_with (first | (refine zBE 3 #[.int .i64 a0_0,.slice A0_1 l0_1.length c0_1] 26 ?_;intro gb763 hg w14 hbox hb;have BK763:=zA (hbox);have GW763:=zA (zBH hg HB.out);have GE763:=zA (zBH hg HB.out);replace HB:=zA (kQ (zQ HB.out) hb);clear hb hbox hg;obtain ⟨hcz15_0,hcz15_1,hfz15_0,hfz15_1⟩:=zB3 BK763.out) | (refine zO (some 8) Tryd.func46 #[.agg #[.int .i64 a0_0,.slice A0_1 l0_1.length c0_1]] ?_;(with_reducible refine (spec_l02Is.calls k a0_0 _ _ l0_1 true _ ?side1 ?side2 A4.out).mono ?_);(case side1=>exact zS (kO HR0_1.out HB.out));(case side2=>exact HC0_1.out);rintro e w16 ⟨rfl,hb⟩;refine ⟨_,rfl,?_⟩;replace BK763:=zA (zB1 BK763.out hb);replace HB:=zA (kQ (zT HB.out GE763.out) hb);(try clear hb);obtain ⟨hcz17_0,hcz17_1,hfz17_0,hfz17_1⟩:=zB3 BK763.out) | (refine zO (some 13) Tryd.func81 #[.int .i64 a0_0,.slice A1 l1.length c1] ?_;(with_reducible refine (spec_l03Word.calls k a0_0 _ _ l1 true _ ?side1 ?side2 A6.out).mono ?_);(case side1=>exact zS (kO HR1.out HB.out));(case side2=>exact HC1.out);rintro e w' ⟨rfl,⟨nd,rfl⟩⟩;refine ⟨_,rfl,?_⟩) | (go_at_call 81;(with_reducible refine (spec_l03Word.calls k a0_0 _ _ l2 false _ ?side1 ?side2 A8.out).mono ?_);(case side1=>exact zS (kO HR2.out (zT HB.out GE763.out)));(case side2=>exact HC2.out);rintro e w' ⟨rfl,⟨nd,rfl⟩⟩))
   go_ret
   exact ⟨zr,zT HB.out GE763.out⟩
  replace c7:=Bool.eq_false_iff.mpr c7
  subst c7
  rw [if_neg (show ¬ (false = true) by decide)] at H
  obtain rfl:=Option.some.inj H
  go_enter Tryd.func62,Tryd.ntmps62
  go_wp2_with (first | (refine zBE 3 #[.int .i64 a0_0,.slice A0_1 l0_1.length c0_1] 26 ?_;intro gb763 hg w18 hbox hb;have BK763:=zA (hbox);have GW763:=zA (zBH hg HB.out);have GE763:=zA (zBH hg HB.out);replace HB:=zA (kQ (zQ HB.out) hb);clear hb hbox hg;obtain ⟨hcz19_0,hcz19_1,hfz19_0,hfz19_1⟩:=zB3 BK763.out) | (refine zO (some 8) Tryd.func46 #[.agg #[.int .i64 a0_0,.slice A0_1 l0_1.length c0_1]] ?_;(with_reducible refine (spec_l02Is.calls k a0_0 _ _ l0_1 true _ ?side1 ?side2 A4.out).mono ?_);(case side1=>exact zS (kO HR0_1.out HB.out));(case side2=>exact HC0_1.out);rintro e w20 ⟨rfl,hb⟩;refine ⟨_,rfl,?_⟩;replace BK763:=zA (zB1 BK763.out hb);replace HB:=zA (kQ (zT HB.out GE763.out) hb);(try clear hb);obtain ⟨hcz21_0,hcz21_1,hfz21_0,hfz21_1⟩:=zB3 BK763.out) | (refine zO (some 13) Tryd.func81 #[.int .i64 a0_0,.slice A1 l1.length c1] ?_;(with_reducible refine (spec_l03Word.calls k a0_0 _ _ l1 false _ ?side1 ?side2 A6.out).mono ?_);(case side1=>exact zS (kO HR1.out HB.out));(case side2=>exact HC1.out);rintro e w' ⟨rfl,⟨nd,rfl⟩⟩;refine ⟨_,rfl,?_⟩))
  go_ret
  exact ⟨zr,zT HB.out GE763.out⟩
 replace c5:=Bool.eq_false_iff.mpr c5
 subst c5
 rw [if_neg (show ¬ (false = true) by decide)] at H
 obtain rfl:=Option.some.inj H
 go_enter Tryd.func62,Tryd.ntmps62
 go_wp2_with (first | (refine zBE 3 #[.int .i64 a0_0,.slice A0_1 l0_1.length c0_1] 26 ?_;intro gb763 hg w22 hbox hb;have BK763:=zA (hbox);have GW763:=zA (zBH hg HB.out);have GE763:=zA (zBH hg HB.out);replace HB:=zA (kQ (zQ HB.out) hb);clear hb hbox hg;obtain ⟨hcz23_0,hcz23_1,hfz23_0,hfz23_1⟩:=zB3 BK763.out) | (refine zO (some 8) Tryd.func46 #[.agg #[.int .i64 a0_0,.slice A0_1 l0_1.length c0_1]] ?_;(with_reducible refine (spec_l02Is.calls k a0_0 _ _ l0_1 false _ ?side1 ?side2 A4.out).mono ?_);(case side1=>exact zS (kO HR0_1.out HB.out));(case side2=>exact HC0_1.out);rintro e w24 ⟨rfl,hb⟩;refine ⟨_,rfl,?_⟩;replace BK763:=zA (zB1 BK763.out hb);replace HB:=zA (kQ (zT HB.out GE763.out) hb);(try clear hb)))
 go_ret
 exact ⟨zr,zT HB.out GE763.out⟩
def spec_l01Own.f (l0:List Int):Option (List Int):=(some (([]:List Int):List Int)).bind fun y767=>(if y767.length + l0.length < 17592186044416 then (some (y767 ++ l0)) else (none))
set_option maxHeartbeats 8000000 in
set_option maxRecDepth 100000 in
theorem spec_l01Own.calls (A0 : Option Addr) (c0 : Nat) (l0 : List Int) (r : List Int) (w : World) (hr0 : Kd.C (Kd.int .i64) w A0 l0.length l0) (hc0 : l0.length ≤ c0) (h : spec_l01Own.f l0 = some r) :
  Calls Tryd.prog 82 #[.slice A0 l0.length c0] w fun e w' => ∃ v0_:Value,e = .returned (v0_) ∧ Kd.R (Kd.int .i64) 2 w' w.heap.size (fun _=>True) v0_ r ∧ Below w.heap.size w w' := by
 have HR0:=zA hr0
 have HC0:=zA hc0
 clear hr0 hc0
 have HB:=zA (kW w.heap.size w)
 have H:=h
 unfold spec_l01Own.f at H
 clear h
 obtain ⟨y767,hy767⟩:∃ y_:List Int,y_ = (([]:List Int)):=⟨_,rfl⟩
 replace H:(if y767.length + l0.length < 17592186044416 then (some (y767 ++ l0)) else (none)) = some r:=zy hy767 H
 have Ny767:=zA hy767
 clear hy767
 by_cases c2:y767.length + l0.length < 17592186044416
 ·rw [if_pos c2] at H
  have LMc2:=zA c2
  clear c2
  obtain ⟨y770,hy770⟩:∃ y_:List Int,y_ = (y767 ++ l0):=⟨_,rfl⟩
  replace H:(some y770) = some r:=zy hy770 H
  have Ny770:=zA hy770
  clear hy770
  obtain rfl:=Option.some.inj H
  go_enter Tryd.func82,Tryd.ntmps82
  go_wp2_with (first | ((with_reducible refine kS (N:=3) rfl ?_);refine Kd.R_lit (Kd.int .i64) _ 2 ?hg (N:=3) ?hd (xs:=([]:List Int)) (inner:=[]) (ok:=fun _=>True) (okp:=fun _=>True) ?hr ?hp (fun _ hk=>hk) trivial (kW _ _) (Nat.le_refl _) (by simp) ?_;(case hd=>rfl);(case hg=>rfl);(case hr=>first | (go_simp;done) | (go_simp;rfl));(case hp=>exact (Reps.none _ _));intro v768 w3 ho4 hb hg_ hnew_;clear hg_ hnew_;(first | rw [← Ny767.out] at ho4 | (simp only [Int.reduceToNat] at ho4;rw [← Ny767.out] at ho4));have HO769:=zA (kI ho4 (kP (zQ HB.out)));replace HB:=zA (kQ (zQ HB.out) hb);clear hb ho4) | ((with_reducible refine gate_builtin (b:=.append) (xs:=#[.tmp 3,.tmp 4]) rfl ?_);at_builtin;refine Kd.R_append_rows (Kd.int .i64) (w0:=w) w.heap.size rfl (.tmp 3) (.tmp 4) 24 2 (.int .i64 0) 8 rfl Tryd.underlying24 info2 rfl (by decide) (by omega) v768 y767 l0 _ _ _ (fun _=>True) (fun _=>False) rfl rfl ?aO ?aR (fun _ _ h=>h) (fun _ h=>h.elim) ?aF ?aB ?aS ?aL ?_;(case aR=>exact zS (kO HR0.out HB.out));(case aB=>exact (zQ HB.out));(case aF=>exact (fun _ _=>trivial));(case aO=>exact (zP HO769.out));(case aS=>exact (kP (zQ HB.out)));(case aL=>have:=LMc2.out;omega);intro v771 w5 ho hb hg hat;rw [← Ny770.out] at ho;replace HB:=zA (hb);have HO772:=zA (ho);clear HO769;clear ho hb hg hat))
  go_ret
  exact ⟨_,zr,zP HO772.out,zQ HB.out⟩
 rw [if_neg c2] at H
 exact absurd H (by simp)
end Go.Proofs.YtjdekliancabgaaDoor.PAll
