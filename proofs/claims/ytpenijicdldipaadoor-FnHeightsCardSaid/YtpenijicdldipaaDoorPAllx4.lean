import Derived.Test.YtpenijicdldipaaDoorPAllx0
import Derived.Test.YtpenijicdldipaaDoorPAllx2
import Derived.Test.YtpenijicdldipaaDoorPAllx3
namespace Go.Proofs.YtpenijicdldipaaDoor.PAll
open Go.RowKit Go.Proofs.YtpenijicdldipaaDoor.T Go.Proofs.YtpenijicdldipaaDoorW.PrintWords Go.Proofs.YtpenijicdldipaaDoorW.PrintLast Go.Proofs.YtpenijicdldipaaDoorW.PrintMore
attribute [local go_sem] max2_int min2_int max_two min_two max_three min_three max_four min_four   -- for this text's walks alone
set_option linter.unusedVariables false
set_option linter.unusedSimpArgs false
mutual
def impl_chainsFrom.l0:Nat → List Int → List Int → Int → Option (List Int)
 | 0,_,_,_=>none
 | k + 1,x0,x3,x4=>if x4 ≥ 0 then (if 0 ≤ x4 then (if x4 < (x3.length:Int) then (if x4 < (x0.length:Int) then ((impl_one.f x4).bind fun t335=>((impl_members.f k (Go.bits .andNot .i64 (rd x0 x4) t335)).bind fun t336=>(impl_chainsFrom.l1 k x0 (x3.set (x4:Int).toNat 1) x4 t336 (t336.length:Int) 0))) else (none)) else (none)) else (none)) else (some x3)
def impl_chainsFrom.l1:Nat → List Int → List Int → Int → List Int → Int → Int → Option (List Int)
 | 0,_,_,_,_,_,_=>none
 | k + 1,x0,x3,x4,x27,x28,x29=>if x29 < x28 then (if 0 ≤ x29 then (if x29 < (x27.length:Int) then (if 0 ≤ x4 then (if x4 < (x3.length:Int) then (if 0 ≤ (rd x27 x29) then (if (rd x27 x29) < (x3.length:Int) then (impl_chainsFrom.l1 k x0 (x3.set (x4:Int).toNat (mx (rd x3 x4) (wrap64 ((rd x3 (rd x27 x29)) + 1)))) x4 x27 x28 (wrap64 (x29 + 1))) else (none)) else (none)) else (none)) else (none)) else (none)) else (none)) else (impl_chainsFrom.l0 k x0 x3 (wrap64 (x4 - 1)))
end
def impl_chainsFrom.f (k:Nat) (l0:List Int):Option (List Int):=if 0 ≤ (l0.length:Int) then (if ((l0.length:Int):Int).toNat ≤ 35184372088832 then (impl_chainsFrom.l0 k l0 (List.replicate ((l0.length:Int):Int).toNat 0) (wrap64 ((l0.length:Int) - 1))) else (none)) else (none)
def impl_chainsFrom.T6:Bool × List (List Nat × List Nat):=(true,[([],[]),([],[]),([0,1],[0,1]),([2],[2]),([],[]),([4],[4]),([3,5],[3,5]),([6,5],[6]),([7],[7]),([],[])])
def impl_chainsFrom.B6:List Nat:=[0,0,3,7,0,16,63,127,255,0]
theorem impl_chainsFrom.tab6:rtab .any (opsOf Tryd.f32 6) = impl_chainsFrom.T6:=by kernel_rfl
theorem impl_chainsFrom.bits6:waitsOk impl_chainsFrom.T6.2 impl_chainsFrom.B6 = true:=by kernel_rfl
def impl_chainsFrom.T9:Bool × List (List Nat × List Nat):=(true,[([],[]),([],[]),([],[]),([],[]),([2,3],[2,3]),([4],[4]),([],[]),([],[]),([6,7],[6,7]),([8],[8]),([9],[9]),([5,10],[5,10]),([0,1,0,1,2,3,4,5,6,7,8,9,10,11],[0,1]),([12,11,0,1,2,3,4,5,6,7,8,9,10,11],[11,12])])
def impl_chainsFrom.B9:List Nat:=[0,0,0,0,12,28,0,0,192,448,960,2044,4095,8191]
theorem impl_chainsFrom.tab9:rtab .any (opsOf Tryd.f32 9) = impl_chainsFrom.T9:=by kernel_rfl
theorem impl_chainsFrom.bits9:waitsOk impl_chainsFrom.T9.2 impl_chainsFrom.B9 = true:=by kernel_rfl
set_option maxHeartbeats 8000000 in
set_option maxRecDepth 100000 in
theorem impl_chainsFrom.calls (k:Nat) (A0:Option Addr) (c0:Nat) (l0:List Int) (r:List Int) (w:World) (hr0:Kd.C (Kd.int .i64) w A0 l0.length l0) (hc0:l0.length ≤ c0) (hT:TabW w) (h:impl_chainsFrom.f k l0 = some r) :
  Calls Tryd.prog 32 #[.slice A0 l0.length c0] w fun e w' => ∃ v0_:Value,e = .returned (v0_) ∧ Kd.R (Kd.int .i64) 2 w' w.heap.size (fun _=>True) v0_ r ∧ Below w.heap.size w w' := by
 have HT:=zA hT
 clear hT
 have HR0:=zA hr0
 have HC0:=zA hc0
 clear hr0 hc0
 have HB:=zA (kW w.heap.size w)
 have H:=h
 unfold impl_chainsFrom.f at H
 clear h
 by_cases c2:0 ≤ (l0.length:Int)
 ·rw [if_pos c2] at H
  have c2b0:=eq_true c2
  have c2b1:decide (0 ≤ (l0.length:Int)) = true:=decide_eq_true c2
  clear c2
  by_cases c3:((l0.length:Int):Int).toNat ≤ 35184372088832
  ·rw [if_pos c3] at H
   have c3b0:=eq_true c3
   have c3b1:decide (((l0.length:Int):Int).toNat ≤ 35184372088832) = true:=decide_eq_true c3
   clear c3
   obtain ⟨y330,hy330⟩:∃ y_:List Int,y_ = (List.replicate ((l0.length:Int):Int).toNat 0):=⟨_,rfl⟩
   replace H:(impl_chainsFrom.l0 k l0 y330 (wrap64 ((l0.length:Int) - 1))) = some r:=zy hy330 H
   have Ny330:=zA hy330
   clear hy330
   have H' := zA H
   clear H
   go_enter Tryd.func32,Tryd.ntmps32
   go_wp2_with (first | ((with_reducible refine kS (N:=9) rfl ?_);refine Kd.R_make (Kd.int .i64) _ 2 rfl (N:=9) rfl 22 _ _ rfl (l0.length:Int) rfl rfl Tryd.underlying22 (.int .i64 0) 8 info2 rfl (by decide) (by omega) 0 (ok:=fun _=>True) (okp:=fun _=>True) rfl (fun _ hk=>hk) trivial (zd) (Nat.le_trans (Nat.mul_le_mul_right _ (zd:(l0.length:Int).toNat ≤ 35184372088832)) (by omega)) (kW _ _) (Nat.le_refl _) ?_;intro v331 w4 ho5 hb hg_ hnew_;clear hg_ hnew_;(first | rw [← Ny330.out] at ho5 | (simp only [Int.reduceToNat] at ho5;rw [← Ny330.out] at ho5));have HO332:=zA (kI ho5 (kP (zQ HB.out)));replace HB:=zA (kQ (zQ HB.out) hb);clear hb ho5))
   go_loopg [4] k (fun kq v4 w' => ∃ (x3_1:List Int) (x4_1:Int),v4 = .int .i64 x4_1 ∧ Aside0 (impl_chainsFrom.l0 kq l0 x3_1 x4_1 = some r) ∧ Aside0 (kq ≤ k) ∧ Aside0 (Kd.R (Kd.int .i64) 2 w' w.heap.size (fun _=>True) v331 x3_1) ∧ Aside0 (Below w.heap.size w w'))
   case atStart=>exact ⟨(y330),(wrap64 ((l0.length:Int) - 1)),zs,H', ⟨Nat.le_refl _⟩,⟨zP HO332.out⟩,⟨zQ HB.out⟩⟩
   case round =>
    clear H'
    try clear c2
    try clear c3
    obtain ⟨x3_1,x4_1,rfl,HA,HK1,HO_3,HB⟩:=hrel
    cases gk with
    | zero=>exact absurd HA.out (by simp [impl_chainsFrom.l0])
    | succ k1 =>
     have H:=HA.out
     clear HA
     simp only [impl_chainsFrom.l0] at H
     by_cases c6:x4_1 ≥ 0
     ·rw [if_pos c6] at H
      have c6b0:decide (0 ≤ x4_1) = true:=decide_eq_true c6
      clear c6
      by_cases c7:0 ≤ x4_1
      ·rw [if_pos c7] at H
       have c7b0:decide (0 ≤ x4_1) = true:=decide_eq_true c7
       clear c7
       by_cases c8:x4_1 < (x3_1.length:Int)
       ·rw [if_pos c8] at H
        have c8b0:decide (x4_1 < (x3_1.length:Int)) = true:=decide_eq_true c8
        clear c8
        obtain ⟨y333,hy333⟩:∃ y_:List Int,y_ = (x3_1.set (x4_1:Int).toNat 1):=⟨_,rfl⟩
        replace H:(if x4_1 < (l0.length:Int) then ((impl_one.f x4_1).bind fun t335=>((impl_members.f k1 (Go.bits .andNot .i64 (rd l0 x4_1) t335)).bind fun t336=>(impl_chainsFrom.l1 k1 l0 y333 x4_1 t336 (t336.length:Int) 0))) else (none)) = some r:=zy hy333 H
        have Ny333:=zA hy333
        clear hy333
        by_cases c10:x4_1 < (l0.length:Int)
        ·rw [if_pos c10] at H
         have c10b0:decide (x4_1 < (l0.length:Int)) = true:=decide_eq_true c10
         clear c10
         obtain ⟨t335,A11,H⟩:=zb H
         try dsimp only at H
         obtain ⟨t336,A12,H⟩:=zb H
         try dsimp only at H
         have H' := zA H
         clear H
         have p9:0 ≤ (x4_1:Int):=zd
         have q9:(x4_1:Int) < ((x3_1.length:Int):Int):=zd
         obtain ⟨go9,co9,eo9,gb9,gl9,cl9,HG9⟩:=Kd.R_form HO_3.out (by omega)
         (first | cases eo9 | (injection eo9 with ea_ en_ ec_;(first | subst ea_ | (injection ea_ with ea_;subst ea_));subst ec_;clear en_))
         have GB9:=zA gb9
         have GG9:=zA HG9
         clear gb9 gl9 HG9
         obtain ⟨hx9_0,hf9_0⟩:=Kd.R_celln 0 HO_3.out (x4_1:Int) p9 q9
         replace p9:=eq_true p9
         replace q9:=eq_true q9
         have HP13:=Kd.R_putg HO_3.out (x4_1:Int) 1
         try go_wp2_with (first | ((with_reducible refine gate_store (t:=2) (p:=19) rfl ?_);refine store_event (t:=2) (p:=19) (v:=?vo_w14) (w1:=(wr.setCell ⟨go9,(x4_1:Int).toNat,none⟩ (.int .i64 1))) ?hg ?ho ?hn ?hr ?_;(case ho=>rfl);(case hg=>rfl);(case hn=>rfl);(case hr=>first | (go_simp;done) | (go_simp;rfl));intro w14 hw;have hg:wr.grownBy w14 (some go9):=(by rw [hw];exact HP13.2);have hp_:Kd.R (Kd.int .i64) 2 w14 w.heap.size (fun _=>True) (.slice (some ⟨go9,0,none⟩) x3_1.length co9) y333:=(by rw [hw,Ny333.out];exact HP13.1);clear HP13;replace HO_3:=zA (hp_);replace HB:=zA ((by rw [hw];exact zE (HB.out) GB9.out:Below w.heap.size w w14));clear hg hw hp_))
         replace HO_3:=zA (zH HO_3.out)
         replace HB:=zA (zD HB.out)
         have p334:0 ≤ (x4_1:Int):=zd
         have q334:x4_1 < (l0.length:Int):=zd
         obtain ⟨ad334,e334,hx334_0⟩:=Kd.at_int HR0.out x4_1 p334 q334
         have hw334_0:=hx334_0
         cases e334
         replace hx334_0:=(HB.out.cell (jG w _ hx334_0)).trans hx334_0
         replace p334:=eq_true p334
         replace q334:=eq_true q334
         refine start_ (n:=10) (S:=fun w' => w'.cell? (ad334.add (x4_1).toNat) = some (.int .i64 (rd l0 x4_1))) (ds:=[]) #[false,false,false,false,false,false,false,false,false,false] (by kernel_rfl) rfl rfl ((pw_cell_below HB.out hw334_0)) (fun hHeld=>?_);refine with_tabW impl_chainsFrom.tab6 impl_chainsFrom.bits6 (fun HT_ HW_=>?_)
         generalize w14.drew = w15 at HO_3 HB hx334_0 hHeld ⊢
         refine zp 0 (some 20) #[true,false,false,false,false,false,false,false,false,false] HT_.out ?_
         refine zp 1 (some 21) #[true,true,false,false,false,false,false,false,false,false] HT_.out ?_
         refine zp 2 (some 22) #[true,true,true,false,false,false,false,false,false,false] HT_.out ?_
         refine zp 4 (some 24) #[true,true,true,false,true,false,false,false,false,false] HT_.out ?_
         refine zp 9 (some 29) #[true,true,true,false,true,false,false,false,false,true] HT_.out ?_
         refine za 3 (some 23) #[true,true,true,true,true,false,false,false,false,true] HT_.out HW_.out hHeld ?_
         refine one_ (i:=5) (N:=some 25) #[true,true,true,true,true,true,false,false,false,true] rfl rfl (one_of HT_.out (by kernel_rfl)) (by decide) (fun K hK=>?_)
         refine goes_ Tryd.func33 (by kernel_rfl) rfl #[.int .i64 x4_1] (by rfl) rfl rfl zg ?_
         with_reducible refine (impl_one.calls x4_1 t335 _ A11.out).mono ?_
         rintro e w' ⟨rfl,⟨nd,rfl⟩⟩
         refine ⟨_,rfl,?_⟩
         refine hK.out _ _ ((pw_cell_below HB.out hw334_0)) (fun hHeld=>?_)
         clear hK K
         refine norm_ (a' := ?_) ?_ ?_
         rotate_left
         ·show Act.put _ (some 25) _ = _
          simp only [Act.put,zL,zM,zN,i64_w,i32_w]
          rfl
         refine zp 6 (some 26) #[true,true,true,true,true,true,true,false,false,true] HT_.out ?_
         refine one_ (i:=7) (N:=some 27) #[true,true,true,true,true,true,true,true,false,true] rfl rfl (one_of HT_.out (by kernel_rfl)) (by decide) (fun K hK=>?_)
         refine goes_ Tryd.func36 (by kernel_rfl) rfl #[.int .i64 (Go.bits .andNot .i64 (rd l0 x4_1) t335)] (by rfl) rfl rfl zg ?_
         with_reducible refine (impl_members.calls k1 (Go.bits .andNot .i64 (rd l0 x4_1) t335) t336 _ ?side1 A12.out).mono ?_
         (case side1=>exact TabW.below HT.out (zQ HB.out))
         rintro e w16 ⟨v337,rfl,ho0,hb⟩
         refine ⟨_,rfl,?_⟩
         have HO338:=zA (kI (kF ho0 (kH (zP HO_3.out))) (kP (zQ HB.out)))
         replace HO_3:=zA (kE (zP HO_3.out) (kC ho0) hb)
         replace HB:=zA (kQ (zQ HB.out) hb)
         (try clear hb)
         (try clear hb2)
         (try clear hk)
         (try clear hi)
         (try clear hgw)
         (try clear ho0)
         obtain ⟨Ao17,co17,eo17⟩:=kM HO338.out
         (first | subst eo17 | (injection eo17 with f1_ f2_ f3_;have f4_:=f1_.symm;have f5_:=f3_.symm;clear f1_ f2_ f3_;subst f4_;subst f5_))
         refine hK.out _ _ ((pw_cell_below HB.out hw334_0)) (fun hHeld=>?_)
         clear hK K
         refine norm_ (a' := ?_) ?_ ?_
         rotate_left
         ·show Act.put _ (some 27) _ = _
          simp only [Act.put,zL,zM,zN,i64_w,i32_w]
          rfl
         refine zp 8 (some 28) #[true,true,true,true,true,true,true,true,true,true] HT_.out ?_
         refine done_ (done_of HT_.out (by kernel_rfl)) ?_
         try go_wp2
         go_loopg [29] k1 (fun kq v29 w' => ∃ (x3_2:List Int) (x29_2:Int),v29 = .int .i64 x29_2 ∧ Aside0 (impl_chainsFrom.l1 kq l0 x3_2 x4_1 t336 (t336.length:Int) x29_2 = some r) ∧ Aside0 (kq ≤ k1) ∧ Aside0 (Kd.R (Kd.int .i64) 2 w' w.heap.size (fun k_=>some k_ ≠ ((.slice Ao17 t336.length co17):Value).ownBlock) (.slice (some ⟨go9,0,none⟩) x3_1.length co9) x3_2) ∧ Aside0 (Kd.R (Kd.int .i64) 2 w' w.heap.size (fun k_=>some k_ ≠ ((.slice (some ⟨go9,0,none⟩) x3_1.length co9):Value).ownBlock) (.slice Ao17 t336.length co17) t336) ∧ Aside0 (Below w.heap.size w w'))
         case atStart=>exact ⟨(y333),(0),zs,H', ⟨Nat.le_refl _⟩,⟨zPM HO_3.out (fun _ hk=>hk.2)⟩,⟨zPM HO338.out (fun _ hk=>hk.2)⟩,⟨zQ HB.out⟩⟩
         case round =>
          clear H'
          try clear c1
          try clear c2
          try clear c3
          try clear hx3
          try clear c6
          try clear c7
          try clear c8
          try clear hx9
          try clear hf9
          try clear c10
          try clear hx334_0
          try clear hx9_0
          obtain ⟨x3_2,x29_2,rfl,HA,HK2,HO_3,HO_27,HB⟩:=hrel
          have hl3_2:=(kB HO_3.out).1
          rw [hl3_2] at HO_3
          (try simp only [hl3_2])
          (try simp only [hl3_2] at HO_27)
          cases gk with
          | zero=>exact absurd HA.out (by simp [impl_chainsFrom.l1])
          | succ k2 =>
           have H:=HA.out
           clear HA
           simp only [impl_chainsFrom.l1] at H
           by_cases c18:x29_2 < (t336.length:Int)
           ·rw [if_pos c18] at H
            have c18b0:decide (x29_2 < (t336.length:Int)) = true:=decide_eq_true c18
            (try (have c18b0h0_:=c18b0;rw [hl3_2] at c18b0h0_))
            clear c18
            by_cases c19:0 ≤ x29_2
            ·rw [if_pos c19] at H
             have c19b0:decide (0 ≤ x29_2) = true:=decide_eq_true c19
             clear c19
             by_cases c20:x29_2 < (t336.length:Int)
             ·rw [if_pos c20] at H
              have c20b0:decide (x29_2 < (t336.length:Int)) = true:=decide_eq_true c20
              (try (have c20b0h0_:=c20b0;rw [hl3_2] at c20b0h0_))
              clear c20
              by_cases c21:0 ≤ x4_1
              ·rw [if_pos c21] at H
               have c21b0:decide (0 ≤ x4_1) = true:=decide_eq_true c21
               clear c21
               by_cases c22:x4_1 < (x3_2.length:Int)
               ·rw [if_pos c22] at H
                have c22b0:decide (x4_1 < (x3_2.length:Int)) = true:=decide_eq_true c22
                (try (have c22b0h0_:=c22b0;rw [hl3_2] at c22b0h0_))
                clear c22
                by_cases c23:0 ≤ (rd t336 x29_2)
                ·rw [if_pos c23] at H
                 have c23b0:decide (0 ≤ (rd t336 x29_2)) = true:=decide_eq_true c23
                 clear c23
                 by_cases c24:(rd t336 x29_2) < (x3_2.length:Int)
                 ·rw [if_pos c24] at H
                  have c24b0:decide ((rd t336 x29_2) < (x3_2.length:Int)) = true:=decide_eq_true c24
                  (try (have c24b0h0_:=c24b0;rw [hl3_2] at c24b0h0_))
                  clear c24
                  obtain ⟨ji25,hji25⟩:∃ j_:Int,(mx (rd x3_2 x4_1) (wrap64 ((rd x3_2 (rd t336 x29_2)) + 1))) = j_:=⟨_,rfl⟩
                  replace H:(impl_chainsFrom.l1 k2 l0 (x3_2.set (x4_1:Int).toNat (ji25)) x4_1 t336 (t336.length:Int) (wrap64 (x29_2 + 1))) = some r:=by first | (rw [hji25] at H;exact H) | (simp only [hji25] at H ⊢;exact H)
                  have hji25_:(if (rd x3_2 x4_1) < (wrap64 ((rd x3_2 (rd t336 x29_2)) + 1)) then (wrap64 ((rd x3_2 (rd t336 x29_2)) + 1)) else (rd x3_2 x4_1)) = ji25:=hji25
                  obtain ⟨y342,hy342⟩:∃ y_:List Int,y_ = (x3_2.set (x4_1:Int).toNat (ji25)):=⟨_,rfl⟩
                  replace H:(impl_chainsFrom.l1 k2 l0 y342 x4_1 t336 (t336.length:Int) (wrap64 (x29_2 + 1))) = some r:=zy hy342 H
                  have Ny342:=zA hy342
                  clear hy342
                  have H' := zA H
                  clear H
                  have p339:0 ≤ (x29_2:Int):=zd
                  have q339:x29_2 < (t336.length:Int):=zd
                  obtain ⟨ad339,e339,hx339_0⟩:=Kd.at_int (kB HO_27.out).2.2 x29_2 p339 q339
                  cases e339
                  replace p339:=eq_true p339
                  replace q339:=eq_true q339
                  try go_wp2
                  replace HO_3:=zA (zH HO_3.out)
                  replace HO_27:=zA (zH HO_27.out)
                  replace HB:=zA (zD HB.out)
                  have p340:0 ≤ (x4_1:Int):=zd
                  have q340:x4_1 < (x3_2.length:Int):=zd
                  obtain ⟨ad340,e340,hx340_0⟩:=Kd.at_int (kB HO_3.out).2.2 x4_1 p340 q340
                  obtain rfl:(⟨go9,0,none⟩:Addr) = ad340:=(by injection e340)
                  (first | simp only [add_plain] at hx340_0 | simp only [add_at] at hx340_0 | simp only [Addr.add,Nat.zero_add] at hx340_0 | skip)
                  replace p340:=eq_true p340
                  replace q340:=eq_true q340
                  have p341:0 ≤ ((rd t336 x29_2):Int):=zd
                  have q341:(rd t336 x29_2) < (x3_2.length:Int):=zd
                  obtain ⟨ad341,e341,hx341_0⟩:=Kd.at_int (kB HO_3.out).2.2 (rd t336 x29_2) p341 q341
                  obtain rfl:(⟨go9,0,none⟩:Addr) = ad341:=(by injection e341)
                  (first | simp only [add_plain] at hx341_0 | simp only [add_at] at hx341_0 | simp only [Addr.add,Nat.zero_add] at hx341_0 | skip)
                  replace p341:=eq_true p341
                  replace q341:=eq_true q341
                  have p26:0 ≤ (x4_1:Int):=zd
                  have q26:(x4_1:Int) < ((x3_2.length:Int):Int):=zd
                  obtain ⟨hx26_0,hf26_0⟩:=Kd.R_celln 0 HO_3.out (x4_1:Int) p26 q26
                  replace p26:=eq_true p26
                  replace q26:=eq_true q26
                  have HP28:=Kd.R_putn HO_3.out (x4_1:Int) ji25
                  rw [← Ny342.out] at HP28
                  have HQ28:=zA HP28
                  clear HP28
                  refine start_ (n:=14) (S:=fun w' => w'.cell? ⟨go9,(x4_1).toNat,none⟩ = some (.int .i64 (rd x3_2 x4_1)) ∧ w'.cell? ⟨go9,((rd t336 x29_2)).toNat,none⟩ = some (.int .i64 (rd x3_2 (rd t336 x29_2)))) (ds:=[13]) #[false,false,false,false,false,false,false,false,false,false,false,false,false,false] (by kernel_rfl) rfl rfl ⟨hx340_0,hx341_0⟩ (fun hHeld=>?_);refine with_tabW impl_chainsFrom.tab9 impl_chainsFrom.bits9 (fun HT_ HW_=>?_)
                  generalize wr.drew = w27 at HO_3 HO_27 HB HQ28 hf26_0 hx26_0 hx340_0 hx341_0 hHeld ⊢
                  refine zp 0 (some 33) #[true,false,false,false,false,false,false,false,false,false,false,false,false,false] HT_.out ?_
                  refine zp 1 (some 34) #[true,true,false,false,false,false,false,false,false,false,false,false,false,false] HT_.out ?_
                  refine zp 2 (some 35) #[true,true,true,false,false,false,false,false,false,false,false,false,false,false] HT_.out ?_
                  refine zp 3 (some 36) #[true,true,true,true,false,false,false,false,false,false,false,false,false,false] HT_.out ?_
                  refine zp 4 (some 37) #[true,true,true,true,true,false,false,false,false,false,false,false,false,false] HT_.out ?_
                  refine zp 6 (some 39) #[true,true,true,true,true,false,true,false,false,false,false,false,false,false] HT_.out ?_
                  refine zp 7 (some 40) #[true,true,true,true,true,false,true,true,false,false,false,false,false,false] HT_.out ?_
                  refine zp 8 (some 41) #[true,true,true,true,true,false,true,true,true,false,false,false,false,false] HT_.out ?_
                  refine zc 5 (some 38) #[true,true,true,true,true,true,true,true,true,false,false,false,false,false] HT_.out HW_.out hHeld ?_
                  refine zc 9 (some 42) #[true,true,true,true,true,true,true,true,true,true,false,false,false,false] HT_.out HW_.out hHeld ?_
                  refine zp 10 (some 43) #[true,true,true,true,true,true,true,true,true,true,true,false,false,false] HT_.out ?_
                  refine zp 11 (some 44) #[true,true,true,true,true,true,true,true,true,true,true,true,false,false] HT_.out ?_
                  refine zp 12 (some 45) #[true,true,true,true,true,true,true,true,true,true,true,true,true,false] HT_.out ?_
                  refine last_ (i:=13) (N:=none) #[true,true,true,true,true,true,true,true,true,true,true,true,true,true] rfl rfl (one_of HT_.out (by kernel_rfl)) (by decide) (fun K hK=>?_)
                  refine skip_ (w1:=?_) (by rfl) rfl ?_ ?_
                  rotate_left
                  ·go_simp
                   rfl
                  refine hK.out _ _ ?_
                  clear hK K
                  refine done_ (done_of HT_.out (by kernel_rfl)) ?_
                  try go_wp2
                  (try simp only [← hl3_2])
                  go_roundg k2
                  case measure=>have:=HK1.out;have:=HK2.out;omega
                  case rel=>exact ⟨(y342),(wrap64 (x29_2 + 1)),zs,H', ⟨by have:=HK1.out;have:=HK2.out;omega⟩,⟨by (try simp only [hl3_2]);(with_reducible repeat (first | apply zF | apply zG | apply zH));exact HQ28.out⟩,⟨by (try simp only [hl3_2]);(with_reducible repeat (first | apply zF | apply zG | apply zH));exact kA (kY (p:=⟨go9,(x4_1:Int).toNat,none⟩) (kA HO_27.out (fun k_ hk=>(⟨hk,fun e_=>hk (by rw [e_];rfl)⟩:_ ∧ k_ ≠ go9))) (fun _ hk=>hk.2) (.int .i64 ji25)) (fun _ hk=>hk.1)⟩,⟨zT HB.out GB9.out⟩⟩
                 rw [if_neg c24] at H
                 exact absurd H (by simp)
                rw [if_neg c23] at H
                exact absurd H (by simp)
               rw [if_neg c22] at H
               exact absurd H (by simp)
              rw [if_neg c21] at H
              exact absurd H (by simp)
             rw [if_neg c20] at H
             exact absurd H (by simp)
            rw [if_neg c19] at H
            exact absurd H (by simp)
           rw [if_neg c18] at H
           have c18b0:decide (x29_2 < (t336.length:Int)) = false:=decide_eq_false c18
           (try (have c18b0h0_:=c18b0;rw [hl3_2] at c18b0h0_))
           clear c18
           have H' := zA H
           clear H
           go_wp2
           (try simp only [← hl3_2])
           go_roundg k2
           case measure=>have:=HK1.out;have:=HK2.out;omega
           case rel=>exact ⟨(x3_2),(wrap64 (x4_1 - 1)),zs,H', ⟨by have:=HK1.out;have:=HK2.out;omega⟩,⟨by (try simp only [hl3_2]);(with_reducible repeat (first | apply zF | apply zG | apply zH));exact kA HO_3.out (fun _ hk=>trivial)⟩,⟨zQ HB.out⟩⟩
        rw [if_neg c10] at H
        exact absurd H (by simp)
       rw [if_neg c8] at H
       exact absurd H (by simp)
      rw [if_neg c7] at H
      exact absurd H (by simp)
     rw [if_neg c6] at H
     have c6b0:decide (0 ≤ x4_1) = false:=decide_eq_false c6
     clear c6
     obtain rfl:=Option.some.inj H
     go_wp2
     go_ret
     exact ⟨_,zr,zP HO_3.out,zQ HB.out⟩
  rw [if_neg c3] at H
  exact absurd H (by simp)
 rw [if_neg c2] at H
 exact absurd H (by simp)
mutual
def impl_LongestChain.l0:Nat → List Int → List Int → List Int → Int → Option (List Int × Int)
 | 0,_,_,_,_=>none
 | k + 1,x8,x9,x10,x11=>if x11 = 0 then (some (x10,0)) else ((impl_least.f x11).bind fun t362=>((impl_members.f k x11).bind fun t363=>(impl_LongestChain.l1 k x8 x9 x10 t362 t363 (t363.length:Int) 0)))
def impl_LongestChain.l1:Nat → List Int → List Int → List Int → Int → List Int → Int → Int → Option (List Int × Int)
 | 0,_,_,_,_,_,_,_=>none
 | k + 1,x8,x9,x10,x12,x40,x41,x42=>if x42 < x41 then (if 0 ≤ x42 then (if x42 < (x40.length:Int) then (if 0 ≤ (rd x40 x42) then (if (rd x40 x42) < (x9.length:Int) then (if 0 ≤ x12 then (if x12 < (x9.length:Int) then (if (rd x9 (rd x40 x42)) > (rd x9 x12) then (impl_LongestChain.l1 k x8 x9 x10 (rd x40 x42) x40 x41 (wrap64 (x42 + 1))) else (impl_LongestChain.l1 k x8 x9 x10 x12 x40 x41 (wrap64 (x42 + 1)))) else (none)) else (none)) else (none)) else (none)) else (none)) else (none)) else (if x10.length < 17592186044416 then (if 0 ≤ x12 then (if x12 < (x8.length:Int) then ((impl_one.f x12).bind fun t373=>(impl_LongestChain.l0 k x8 x9 (x10 ++ [x12]) (Go.bits .andNot .i64 (rd x8 x12) t373))) else (none)) else (none)) else (none))
end
def impl_LongestChain.f (k:Nat) (a0_0:Int) (l0_1:List Int) (l1:List Int):Option (List Int × Int):=(impl_checkWords.f k a0_0 l0_1 (([l1]:List (List Int)))).bind fun t347=>(if t347 = 0 then ((impl_positions.f k a0_0 l0_1 l1).bind fun bt348=>((impl_chainsFrom.f k bt348.2).bind fun t354=>((impl_length_int64.f l1).bind fun t360=>((impl_one.f t360).bind fun t361=>(impl_LongestChain.l0 k bt348.2 t354 (([]:List Int)) (wrap64 (t361 - 1))))))) else (some (([]:List Int),t347)))
set_option maxHeartbeats 8000000 in
set_option maxRecDepth 100000 in
theorem impl_LongestChain.calls (k:Nat) (a0_0:Int) (A0_1:Option Addr) (c0_1:Nat) (l0_1:List Int) (P1_:Nat → Prop) (A1:Option Addr) (c1:Nat) (l1:List Int) (r1:List Int) (r2:Int) (w:World) (hr0_1:Kd.C (Kd.int .i64) w A0_1 l0_1.length l0_1) (hc0_1:l0_1.length ≤ c0_1) (hs1:Kd.V (Kd.int .i64) 2 w w.heap.size (fun k_=>P1_ k_) (.slice A1 l1.length c1) l1) (hT:TabW w) (h:impl_LongestChain.f k a0_0 l0_1 l1 = some (r1,r2)) :
  Calls Tryd.prog 9 #[.agg #[.int .i64 a0_0,.slice A0_1 l0_1.length c0_1],.slice A1 l1.length c1] w fun e w' => ∃ v0_:Value,e = .returned (.tuple #[v0_,.int .i64 r2]) ∧ Kd.R (Kd.int .i64) 2 w' w.heap.size (fun k_=>(w.heap.size ≤ k_)) v0_ r1 ∧ Below w.heap.size w w' := by
 have hu28:=Tryd.underlying28
 have HT:=zA hT
 clear hT
 have HR0_1:=zA hr0_1
 have HC0_1:=zA hc0_1
 clear hr0_1 hc0_1
 have HO1:=zA (show Kd.V (Kd.int .i64) 2 w w.heap.size (fun k_=>(P1_ k_ ∨ w.heap.size ≤ k_)) (.slice A1 l1.length c1) l1 from kN hs1 (fun k_ hk=>.inl hk))
 have HB:=zA (kW w.heap.size w)
 have H:=h
 unfold impl_LongestChain.f at H
 clear h
 obtain ⟨y344,hy344⟩:∃ y_:List (List Int),y_ = (([l1]:List (List Int))):=⟨_,rfl⟩
 replace H:((impl_checkWords.f k a0_0 l0_1 y344).bind fun t347=>(if t347 = 0 then ((impl_positions.f k a0_0 l0_1 l1).bind fun bt348=>((impl_chainsFrom.f k bt348.2).bind fun t354=>((impl_length_int64.f l1).bind fun t360=>((impl_one.f t360).bind fun t361=>(impl_LongestChain.l0 k bt348.2 t354 (([]:List Int)) (wrap64 (t361 - 1))))))) else (some (([]:List Int),t347)))) = some (r1,r2):=zy hy344 H
 have Ny344:=zA hy344
 clear hy344
 obtain ⟨t347,A3,H⟩:=zb H
 try dsimp only at H
 by_cases c4:t347 = 0
 ·rw [if_pos c4] at H
  obtain ⟨c4b0,c4b1⟩:=zT1 c4
  clear c4
  obtain ⟨⟨t348,t351⟩,A5,H⟩:=zb H
  try dsimp only at H
  obtain ⟨t354,A6,H⟩:=zb H
  try dsimp only at H
  obtain ⟨y357,hy357⟩:∃ y_:List Int,y_ = (([]:List Int)):=⟨_,rfl⟩
  replace H:((impl_length_int64.f l1).bind fun t360=>((impl_one.f t360).bind fun t361=>(impl_LongestChain.l0 k t351 t354 y357 (wrap64 (t361 - 1))))) = some (r1,r2):=zy hy357 H
  have Ny357:=zA hy357
  clear hy357
  obtain ⟨t360,A7,H⟩:=zb H
  try dsimp only at H
  obtain ⟨t361,A8,H⟩:=zb H
  try dsimp only at H
  have H' := zA H
  clear H
  go_enter Tryd.func9,Tryd.ntmps9
  go_wp2_with (first | (refine zBE 2 #[.int .i64 a0_0,.slice A0_1 l0_1.length c0_1] 28 ?_;intro gb343 hg w9 hbox hb;replace HO1:=zA (kG (jD (zPV HO1.out) gb343 (Nat.le_of_eq hg.symm)) hb);have BK343:=zA (hbox);have GW343:=zA (zBH hg HB.out);have GE343:=zA (zBH hg HB.out);replace HB:=zA (kQ (zQ HB.out) hb);clear hb hbox hg;obtain ⟨hcz10_0,hcz10_1,hfz10_0,hfz10_1⟩:=zB3 BK343.out) | ((with_reducible refine kS (N:=17) rfl ?_);refine Kd.N_lit (Kd.slice 2 (Kd.int .i64)) _ 22 ?hg (N' := 17) ?hd (xs:=([l1]:List (List Int))) (inner:=[.slice A1 l1.length c1]) (ok:=(fun k_=>(P1_ k_ ∨ w.heap.size ≤ k_) ∧ k_ ≠ gb343)) (okp:=(fun k_=>(P1_ k_ ∨ w.heap.size ≤ k_) ∧ k_ ≠ gb343)) ?hr ?hp (fun _ hk=>hk) ((show ∀ k_:Nat,(_:Nat) ≤ k_ → (fun k_=>(P1_ k_ ∨ w.heap.size ≤ k_) ∧ k_ ≠ gb343) k_ from fun k_ hk=>⟨(.inr (Nat.le_trans (kP (zT HB.out GE343.out)) hk)),jE (g:=gb343) (o:=.cells #[.int .i64 a0_0,.slice A0_1 l0_1.length c0_1] 28 (0,0)) (zR BK343.out) k_ hk⟩) _ (Nat.le_refl _)) (kW _ _) (Nat.le_refl _) (by simp) ?_;(case hd=>rfl);(case hg=>rfl);(case hr=>first | (go_simp;done) | (go_simp;rfl));(case hp=>exact (Reps.one (show Kd.FK (Kd.slice 2 (Kd.int .i64)) _ _ l1 [.slice A1 l1.length c1] from (zFK (kN (ok' := (fun k_=>(P1_ k_ ∨ w.heap.size ≤ k_) ∧ k_ ≠ gb343)) (HO1.out) (fun k_ hk=>⟨hk.1,hk.2⟩)))) (Reps.none _ _)));intro v345 w11 ho12 hb hg_ hnew_;clear hg_ hnew_;(first | rw [← Ny344.out] at ho12 | (simp only [Int.reduceToNat] at ho12;rw [← Ny344.out] at ho12));replace HO1:=zA (kK (zPV HO1.out) (Kd.N_base ho12) hb);have HO346:=zA (jN ho12 (kP (zT HB.out GE343.out)));replace BK343:=zA (zB1 BK343.out hb);replace HB:=zA (kQ (zT HB.out GE343.out) hb);clear hb ho12;obtain ⟨Ao13,co13,eo13⟩:=Kd.N_slice HO346.out;subst eo13) | (go_at_call 30;(with_reducible refine (impl_checkWords.calls k a0_0 _ _ l0_1 _ _ y344 t347 _ ?side1 ?side2 ?side3 ?side4 ?side5 A3.out).mono ?_);(case side1=>exact zS (kO HR0_1.out HB.out));(case side2=>exact HC0_1.out);(case side3=>exact zS (Kd.N_reads' HO346.out).2.2);(case side4=>exact (Kd.N_reads' HO346.out).2.1);(case side5=>exact TabW.below HT.out (zT HB.out GE343.out));rintro e w14 ⟨rfl,hb⟩;replace HO1:=zA (kG (zPV HO1.out) hb);replace HO346:=zA (kZ (zPN HO346.out) hb);replace BK343:=zA (zB1 BK343.out hb);replace HB:=zA (kQ (zT HB.out GE343.out) hb);obtain ⟨hcz15_0,hcz15_1,hfz15_0,hfz15_1⟩:=zB3 BK343.out) | (go_at_call 31;(with_reducible refine (impl_positions.calls k a0_0 _ _ l0_1 _ _ l1 t348 t351 _ ?side1 ?side2 ?side3 ?side4 ?side5 A5.out).mono ?_);(case side1=>exact zS (kO HR0_1.out HB.out));(case side2=>exact HC0_1.out);(case side3=>exact zS (kJ HO1.out).2.2);(case side4=>exact (kJ HO1.out).2.1);(case side5=>exact TabW.below HT.out (zT HB.out GE343.out));rintro e w16 ⟨v349,v352,rfl,ho0,ho1,hb⟩;replace HO1:=zA (kN (Kd.V_told (Kd.V_told (Kd.V_old (zPV HO1.out) hb) (kC ho0)) (kC ho1)) (fun _ h_=>h_.1));replace HO346:=zA (Kd.N_mono (Kd.N_told (Kd.N_told (Kd.N_old (zPN HO346.out) hb) (kC ho0)) (kC ho1)) (fun _ h_=>h_.1));have HO350:=zA (kI (Kd.R_newM (M:=fun k_=>(w.heap.size ≤ k_)) ho0 (kP (zT HB.out GE343.out)) (fun k_ h_=>h_)) (kP (zT HB.out GE343.out)));have HO353:=zA (kI (Kd.R_newM (M:=fun k_=>(w.heap.size ≤ k_)) ho1 (kP (zT HB.out GE343.out)) (fun k_ h_=>h_)) (kP (zT HB.out GE343.out)));replace BK343:=zA (zB1 BK343.out hb);replace HB:=zA (kQ (zT HB.out GE343.out) hb);(try clear ho0);(try clear ho1);obtain ⟨Ao17,co17,eo17⟩:=kM HO353.out;subst eo17) | (go_at_call 32;(with_reducible refine (impl_chainsFrom.calls k _ _ t351 t354 _ ?side1 ?side2 ?side3 A6.out).mono ?_);(case side1=>exact zS (kB HO353.out).2.2);(case side2=>exact (kB HO353.out).2.1);(case side3=>exact TabW.below HT.out (zT HB.out GE343.out));rintro e w18 ⟨v355,rfl,ho0,hb⟩;replace HO1:=zA (kK (zPV HO1.out) (kC ho0) hb);replace HO346:=zA (Kd.N_elder' (zPN HO346.out) (kC ho0) hb);have HO356:=zA (kI (kF (kF (Kd.R_newM (M:=fun k_=>(w.heap.size ≤ k_)) ho0 (kP (zT HB.out GE343.out)) (fun k_ h_=>h_)) (kH (zP HO350.out))) (kH (zP HO353.out))) (kP (zT HB.out GE343.out)));replace HO350:=zA (kE (zP HO350.out) (kC ho0) hb);replace HO353:=zA (kE (zP HO353.out) (kC ho0) hb);replace BK343:=zA (zB1 BK343.out hb);replace HB:=zA (kQ (zT HB.out GE343.out) hb);(try clear ho0)) | ((with_reducible refine kS (N:=30) rfl ?_);refine Kd.R_lit (Kd.int .i64) _ 2 ?hg (N:=30) ?hd (xs:=([]:List Int)) (inner:=[]) (ok:=fun _=>True) (okp:=fun _=>True) ?hr ?hp (fun _ hk=>hk) trivial (kW _ _) (Nat.le_refl _) (by simp) ?_;(case hd=>rfl);(case hg=>rfl);(case hr=>first | (go_simp;done) | (go_simp;rfl));(case hp=>exact (Reps.none _ _));intro v358 w19 ho20 hb hg_ hnew_;clear hg_ hnew_;(first | rw [← Ny357.out] at ho20 | (simp only [Int.reduceToNat] at ho20;rw [← Ny357.out] at ho20));replace HO1:=zA (kK (zPV HO1.out) (kC ho20) hb);replace HO346:=zA (Kd.N_elder' (zPN HO346.out) (kC ho20) hb);have HO359:=zA (kI (kF (kF (kF (Kd.R_newM (M:=fun k_=>(w.heap.size ≤ k_)) ho20 (kP (zT HB.out GE343.out)) (fun k_ h_=>h_)) (kH (zP HO350.out))) (kH (zP HO353.out))) (kH (zP HO356.out))) (kP (zT HB.out GE343.out)));replace HO350:=zA (kE (zP HO350.out) (kC ho20) hb);replace HO353:=zA (kE (zP HO353.out) (kC ho20) hb);replace HO356:=zA (kE (zP HO356.out) (kC ho20) hb);replace BK343:=zA (zB1 BK343.out hb);replace HB:=zA (kQ (zT HB.out GE343.out) hb);clear hb ho20) | (go_at_call 34;(with_reducible refine (impl_length_int64.calls _ _ l1 t360 _ ?side1 ?side2 A7.out).mono ?_);(case side1=>exact zS (kJ HO1.out).2.2);(case side2=>exact (kJ HO1.out).2.1);rintro e w' ⟨rfl,⟨nd,rfl⟩⟩;(try exact zw)) | (go_at_call 33;(with_reducible refine (impl_one.calls t360 t361 _ A8.out).mono ?_);rintro e w' ⟨rfl,⟨nd,rfl⟩⟩;(try exact zw)))
  repeat (go_quiet (first | (refine zBE 2 #[.int .i64 a0_0,.slice A0_1 l0_1.length c0_1] 28 ?_;intro gb343 hg w9 hbox hb;have n0_:=zA (kG (jD (zPV HO1.out) gb343 (Nat.le_of_eq hg.symm)) hb);have n1_:=zA (kQ (zQ HB.out) hb);have n2_:=zA (hbox);have n3_:=zA (zBH hg HB.out);have n4_:=zA (zBH hg HB.out);clear HO1;clear HB;have HO1:=n0_;have HB:=n1_;have BK343:=n2_;have GW343:=n3_;have GE343:=n4_;clear n0_ n1_ n2_ n3_ n4_;clear hb hbox hg;obtain ⟨hcz10_0,hcz10_1,hfz10_0,hfz10_1⟩:=zB3 BK343.out) | ((with_reducible refine kS (N:=17) rfl ?_);refine Kd.N_lit (Kd.slice 2 (Kd.int .i64)) _ 22 ?hg (N' := 17) ?hd (xs:=([l1]:List (List Int))) (inner:=[.slice A1 l1.length c1]) (ok:=(fun k_=>(P1_ k_ ∨ w.heap.size ≤ k_) ∧ k_ ≠ gb343)) (okp:=(fun k_=>(P1_ k_ ∨ w.heap.size ≤ k_) ∧ k_ ≠ gb343)) ?hr ?hp (fun _ hk=>hk) ((show ∀ k_:Nat,(_:Nat) ≤ k_ → (fun k_=>(P1_ k_ ∨ w.heap.size ≤ k_) ∧ k_ ≠ gb343) k_ from fun k_ hk=>⟨(.inr (Nat.le_trans (kP (zT HB.out GE343.out)) hk)),jE (g:=gb343) (o:=.cells #[.int .i64 a0_0,.slice A0_1 l0_1.length c0_1] 28 (0,0)) (zR BK343.out) k_ hk⟩) _ (Nat.le_refl _)) (kW _ _) (Nat.le_refl _) (by simp) ?_;(case hd=>rfl);(case hg=>rfl);(case hr=>first | (go_simp;done) | (go_simp;rfl));(case hp=>exact (Reps.one (show Kd.FK (Kd.slice 2 (Kd.int .i64)) _ _ l1 [.slice A1 l1.length c1] from (zFK (kN (ok' := (fun k_=>(P1_ k_ ∨ w.heap.size ≤ k_) ∧ k_ ≠ gb343)) (HO1.out) (fun k_ hk=>⟨hk.1,hk.2⟩)))) (Reps.none _ _)));intro v345 w11 ho12 hb hg_ hnew_;clear hg_ hnew_;(first | rw [← Ny344.out] at ho12 | (simp only [Int.reduceToNat] at ho12;rw [← Ny344.out] at ho12));have n0_:=zA (kK (zPV HO1.out) (Kd.N_base ho12) hb);have n1_:=zA (jN ho12 (kP (zT HB.out GE343.out)));have n2_:=zA (zB1 BK343.out hb);have n3_:=zA (kQ (zT HB.out GE343.out) hb);clear HO1;clear BK343;clear HB;have HO1:=n0_;have HO346:=n1_;have BK343:=n2_;have HB:=n3_;clear n0_ n1_ n2_ n3_;clear hb ho12;obtain ⟨Ao13,co13,eo13⟩:=Kd.N_slice HO346.out;subst eo13) | (go_at_call 30;(with_reducible refine (impl_checkWords.calls k a0_0 _ _ l0_1 _ _ y344 t347 _ ?side1 ?side2 ?side3 ?side4 ?side5 A3.out).mono ?_);(case side1=>exact zS (kO HR0_1.out HB.out));(case side2=>exact HC0_1.out);(case side3=>exact zS (Kd.N_reads' HO346.out).2.2);(case side4=>exact (Kd.N_reads' HO346.out).2.1);(case side5=>exact TabW.below HT.out (zT HB.out GE343.out));rintro e w14 ⟨rfl,hb⟩;have n0_:=zA (kG (zPV HO1.out) hb);have n1_:=zA (kZ (zPN HO346.out) hb);have n2_:=zA (zB1 BK343.out hb);have n3_:=zA (kQ (zT HB.out GE343.out) hb);clear HO1;clear HO346;clear BK343;clear HB;have HO1:=n0_;have HO346:=n1_;have BK343:=n2_;have HB:=n3_;clear n0_ n1_ n2_ n3_;obtain ⟨hcz15_0,hcz15_1,hfz15_0,hfz15_1⟩:=zB3 BK343.out) | (go_at_call 31;(with_reducible refine (impl_positions.calls k a0_0 _ _ l0_1 _ _ l1 t348 t351 _ ?side1 ?side2 ?side3 ?side4 ?side5 A5.out).mono ?_);(case side1=>exact zS (kO HR0_1.out HB.out));(case side2=>exact HC0_1.out);(case side3=>exact zS (kJ HO1.out).2.2);(case side4=>exact (kJ HO1.out).2.1);(case side5=>exact TabW.below HT.out (zT HB.out GE343.out));rintro e w16 ⟨v349,v352,rfl,ho0,ho1,hb⟩;have n0_:=zA (kN (Kd.V_told (Kd.V_told (Kd.V_old (zPV HO1.out) hb) (kC ho0)) (kC ho1)) (fun _ h_=>h_.1));have n1_:=zA (Kd.N_mono (Kd.N_told (Kd.N_told (Kd.N_old (zPN HO346.out) hb) (kC ho0)) (kC ho1)) (fun _ h_=>h_.1));have n2_:=zA (kI (Kd.R_newM (M:=fun k_=>(w.heap.size ≤ k_)) ho0 (kP (zT HB.out GE343.out)) (fun k_ h_=>h_)) (kP (zT HB.out GE343.out)));have n3_:=zA (kI (Kd.R_newM (M:=fun k_=>(w.heap.size ≤ k_)) ho1 (kP (zT HB.out GE343.out)) (fun k_ h_=>h_)) (kP (zT HB.out GE343.out)));have n4_:=zA (zB1 BK343.out hb);have n5_:=zA (kQ (zT HB.out GE343.out) hb);clear HO1;clear HO346;clear BK343;clear HB;have HO1:=n0_;have HO346:=n1_;have HO350:=n2_;have HO353:=n3_;have BK343:=n4_;have HB:=n5_;clear n0_ n1_ n2_ n3_ n4_ n5_;(try clear ho0);(try clear ho1);obtain ⟨Ao17,co17,eo17⟩:=kM HO353.out;subst eo17) | (go_at_call 32;(with_reducible refine (impl_chainsFrom.calls k _ _ t351 t354 _ ?side1 ?side2 ?side3 A6.out).mono ?_);(case side1=>exact zS (kB HO353.out).2.2);(case side2=>exact (kB HO353.out).2.1);(case side3=>exact TabW.below HT.out (zT HB.out GE343.out));rintro e w18 ⟨v355,rfl,ho0,hb⟩;have n0_:=zA (kK (zPV HO1.out) (kC ho0) hb);have n1_:=zA (Kd.N_elder' (zPN HO346.out) (kC ho0) hb);have n2_:=zA (kE (zP HO350.out) (kC ho0) hb);have n3_:=zA (kE (zP HO353.out) (kC ho0) hb);have n4_:=zA (kI (kF (kF (Kd.R_newM (M:=fun k_=>(w.heap.size ≤ k_)) ho0 (kP (zT HB.out GE343.out)) (fun k_ h_=>h_)) (kH (zP HO350.out))) (kH (zP HO353.out))) (kP (zT HB.out GE343.out)));have n5_:=zA (zB1 BK343.out hb);have n6_:=zA (kQ (zT HB.out GE343.out) hb);clear HO1;clear HO346;clear HO350;clear HO353;clear BK343;clear HB;have HO1:=n0_;have HO346:=n1_;have HO350:=n2_;have HO353:=n3_;have HO356:=n4_;have BK343:=n5_;have HB:=n6_;clear n0_ n1_ n2_ n3_ n4_ n5_ n6_;(try clear ho0)) | ((with_reducible refine kS (N:=30) rfl ?_);refine Kd.R_lit (Kd.int .i64) _ 2 ?hg (N:=30) ?hd (xs:=([]:List Int)) (inner:=[]) (ok:=fun _=>True) (okp:=fun _=>True) ?hr ?hp (fun _ hk=>hk) trivial (kW _ _) (Nat.le_refl _) (by simp) ?_;(case hd=>rfl);(case hg=>rfl);(case hr=>first | (go_simp;done) | (go_simp;rfl));(case hp=>exact (Reps.none _ _));intro v358 w19 ho20 hb hg_ hnew_;clear hg_ hnew_;(first | rw [← Ny357.out] at ho20 | (simp only [Int.reduceToNat] at ho20;rw [← Ny357.out] at ho20));have n0_:=zA (kK (zPV HO1.out) (kC ho20) hb);have n1_:=zA (Kd.N_elder' (zPN HO346.out) (kC ho20) hb);have n2_:=zA (kE (zP HO350.out) (kC ho20) hb);have n3_:=zA (kE (zP HO353.out) (kC ho20) hb);have n4_:=zA (kE (zP HO356.out) (kC ho20) hb);have n5_:=zA (kI (kF (kF (kF (Kd.R_newM (M:=fun k_=>(w.heap.size ≤ k_)) ho20 (kP (zT HB.out GE343.out)) (fun k_ h_=>h_)) (kH (zP HO350.out))) (kH (zP HO353.out))) (kH (zP HO356.out))) (kP (zT HB.out GE343.out)));have n6_:=zA (zB1 BK343.out hb);have n7_:=zA (kQ (zT HB.out GE343.out) hb);clear HO1;clear HO346;clear HO350;clear HO353;clear HO356;clear BK343;clear HB;have HO1:=n0_;have HO346:=n1_;have HO350:=n2_;have HO353:=n3_;have HO356:=n4_;have HO359:=n5_;have BK343:=n6_;have HB:=n7_;clear n0_ n1_ n2_ n3_ n4_ n5_ n6_ n7_;clear hb ho20) | (go_at_call 34;(with_reducible refine (impl_length_int64.calls _ _ l1 t360 _ ?side1 ?side2 A7.out).mono ?_);(case side1=>exact zS (kJ HO1.out).2.2);(case side2=>exact (kJ HO1.out).2.1);rintro e w' ⟨rfl,⟨nd,rfl⟩⟩;(try exact zw)) | (go_at_call 33;(with_reducible refine (impl_one.calls t360 t361 _ A8.out).mono ?_);rintro e w' ⟨rfl,⟨nd,rfl⟩⟩;(try exact zw)));try go_wp2_with (first | (refine zBE 2 #[.int .i64 a0_0,.slice A0_1 l0_1.length c0_1] 28 ?_;intro gb343 hg w9 hbox hb;replace HO1:=zA (kG (jD (zPV HO1.out) gb343 (Nat.le_of_eq hg.symm)) hb);have BK343:=zA (hbox);have GW343:=zA (zBH hg HB.out);have GE343:=zA (zBH hg HB.out);replace HB:=zA (kQ (zQ HB.out) hb);clear hb hbox hg;obtain ⟨hcz10_0,hcz10_1,hfz10_0,hfz10_1⟩:=zB3 BK343.out) | ((with_reducible refine kS (N:=17) rfl ?_);refine Kd.N_lit (Kd.slice 2 (Kd.int .i64)) _ 22 ?hg (N' := 17) ?hd (xs:=([l1]:List (List Int))) (inner:=[.slice A1 l1.length c1]) (ok:=(fun k_=>(P1_ k_ ∨ w.heap.size ≤ k_) ∧ k_ ≠ gb343)) (okp:=(fun k_=>(P1_ k_ ∨ w.heap.size ≤ k_) ∧ k_ ≠ gb343)) ?hr ?hp (fun _ hk=>hk) ((show ∀ k_:Nat,(_:Nat) ≤ k_ → (fun k_=>(P1_ k_ ∨ w.heap.size ≤ k_) ∧ k_ ≠ gb343) k_ from fun k_ hk=>⟨(.inr (Nat.le_trans (kP (zT HB.out GE343.out)) hk)),jE (g:=gb343) (o:=.cells #[.int .i64 a0_0,.slice A0_1 l0_1.length c0_1] 28 (0,0)) (zR BK343.out) k_ hk⟩) _ (Nat.le_refl _)) (kW _ _) (Nat.le_refl _) (by simp) ?_;(case hd=>rfl);(case hg=>rfl);(case hr=>first | (go_simp;done) | (go_simp;rfl));(case hp=>exact (Reps.one (show Kd.FK (Kd.slice 2 (Kd.int .i64)) _ _ l1 [.slice A1 l1.length c1] from (zFK (kN (ok' := (fun k_=>(P1_ k_ ∨ w.heap.size ≤ k_) ∧ k_ ≠ gb343)) (HO1.out) (fun k_ hk=>⟨hk.1,hk.2⟩)))) (Reps.none _ _)));intro v345 w11 ho12 hb hg_ hnew_;clear hg_ hnew_;(first | rw [← Ny344.out] at ho12 | (simp only [Int.reduceToNat] at ho12;rw [← Ny344.out] at ho12));replace HO1:=zA (kK (zPV HO1.out) (Kd.N_base ho12) hb);have HO346:=zA (jN ho12 (kP (zT HB.out GE343.out)));replace BK343:=zA (zB1 BK343.out hb);replace HB:=zA (kQ (zT HB.out GE343.out) hb);clear hb ho12;obtain ⟨Ao13,co13,eo13⟩:=Kd.N_slice HO346.out;subst eo13) | (go_at_call 30;(with_reducible refine (impl_checkWords.calls k a0_0 _ _ l0_1 _ _ y344 t347 _ ?side1 ?side2 ?side3 ?side4 ?side5 A3.out).mono ?_);(case side1=>exact zS (kO HR0_1.out HB.out));(case side2=>exact HC0_1.out);(case side3=>exact zS (Kd.N_reads' HO346.out).2.2);(case side4=>exact (Kd.N_reads' HO346.out).2.1);(case side5=>exact TabW.below HT.out (zT HB.out GE343.out));rintro e w14 ⟨rfl,hb⟩;replace HO1:=zA (kG (zPV HO1.out) hb);replace HO346:=zA (kZ (zPN HO346.out) hb);replace BK343:=zA (zB1 BK343.out hb);replace HB:=zA (kQ (zT HB.out GE343.out) hb);obtain ⟨hcz15_0,hcz15_1,hfz15_0,hfz15_1⟩:=zB3 BK343.out) | (go_at_call 31;(with_reducible refine (impl_positions.calls k a0_0 _ _ l0_1 _ _ l1 t348 t351 _ ?side1 ?side2 ?side3 ?side4 ?side5 A5.out).mono ?_);(case side1=>exact zS (kO HR0_1.out HB.out));(case side2=>exact HC0_1.out);(case side3=>exact zS (kJ HO1.out).2.2);(case side4=>exact (kJ HO1.out).2.1);(case side5=>exact TabW.below HT.out (zT HB.out GE343.out));rintro e w16 ⟨v349,v352,rfl,ho0,ho1,hb⟩;replace HO1:=zA (kN (Kd.V_told (Kd.V_told (Kd.V_old (zPV HO1.out) hb) (kC ho0)) (kC ho1)) (fun _ h_=>h_.1));replace HO346:=zA (Kd.N_mono (Kd.N_told (Kd.N_told (Kd.N_old (zPN HO346.out) hb) (kC ho0)) (kC ho1)) (fun _ h_=>h_.1));have HO350:=zA (kI (Kd.R_newM (M:=fun k_=>(w.heap.size ≤ k_)) ho0 (kP (zT HB.out GE343.out)) (fun k_ h_=>h_)) (kP (zT HB.out GE343.out)));have HO353:=zA (kI (Kd.R_newM (M:=fun k_=>(w.heap.size ≤ k_)) ho1 (kP (zT HB.out GE343.out)) (fun k_ h_=>h_)) (kP (zT HB.out GE343.out)));replace BK343:=zA (zB1 BK343.out hb);replace HB:=zA (kQ (zT HB.out GE343.out) hb);(try clear ho0);(try clear ho1);obtain ⟨Ao17,co17,eo17⟩:=kM HO353.out;subst eo17) | (go_at_call 32;(with_reducible refine (impl_chainsFrom.calls k _ _ t351 t354 _ ?side1 ?side2 ?side3 A6.out).mono ?_);(case side1=>exact zS (kB HO353.out).2.2);(case side2=>exact (kB HO353.out).2.1);(case side3=>exact TabW.below HT.out (zT HB.out GE343.out));rintro e w18 ⟨v355,rfl,ho0,hb⟩;replace HO1:=zA (kK (zPV HO1.out) (kC ho0) hb);replace HO346:=zA (Kd.N_elder' (zPN HO346.out) (kC ho0) hb);have HO356:=zA (kI (kF (kF (Kd.R_newM (M:=fun k_=>(w.heap.size ≤ k_)) ho0 (kP (zT HB.out GE343.out)) (fun k_ h_=>h_)) (kH (zP HO350.out))) (kH (zP HO353.out))) (kP (zT HB.out GE343.out)));replace HO350:=zA (kE (zP HO350.out) (kC ho0) hb);replace HO353:=zA (kE (zP HO353.out) (kC ho0) hb);replace BK343:=zA (zB1 BK343.out hb);replace HB:=zA (kQ (zT HB.out GE343.out) hb);(try clear ho0)) | ((with_reducible refine kS (N:=30) rfl ?_);refine Kd.R_lit (Kd.int .i64) _ 2 ?hg (N:=30) ?hd (xs:=([]:List Int)) (inner:=[]) (ok:=fun _=>True) (okp:=fun _=>True) ?hr ?hp (fun _ hk=>hk) trivial (kW _ _) (Nat.le_refl _) (by simp) ?_;(case hd=>rfl);(case hg=>rfl);(case hr=>first | (go_simp;done) | (go_simp;rfl));(case hp=>exact (Reps.none _ _));intro v358 w19 ho20 hb hg_ hnew_;clear hg_ hnew_;(first | rw [← Ny357.out] at ho20 | (simp only [Int.reduceToNat] at ho20;rw [← Ny357.out] at ho20));replace HO1:=zA (kK (zPV HO1.out) (kC ho20) hb);replace HO346:=zA (Kd.N_elder' (zPN HO346.out) (kC ho20) hb);have HO359:=zA (kI (kF (kF (kF (Kd.R_newM (M:=fun k_=>(w.heap.size ≤ k_)) ho20 (kP (zT HB.out GE343.out)) (fun k_ h_=>h_)) (kH (zP HO350.out))) (kH (zP HO353.out))) (kH (zP HO356.out))) (kP (zT HB.out GE343.out)));replace HO350:=zA (kE (zP HO350.out) (kC ho20) hb);replace HO353:=zA (kE (zP HO353.out) (kC ho20) hb);replace HO356:=zA (kE (zP HO356.out) (kC ho20) hb);replace BK343:=zA (zB1 BK343.out hb);replace HB:=zA (kQ (zT HB.out GE343.out) hb);clear hb ho20) | (go_at_call 34;(with_reducible refine (impl_length_int64.calls _ _ l1 t360 _ ?side1 ?side2 A7.out).mono ?_);(case side1=>exact zS (kJ HO1.out).2.2);(case side2=>exact (kJ HO1.out).2.1);rintro e w' ⟨rfl,⟨nd,rfl⟩⟩;(try exact zw)) | (go_at_call 33;(with_reducible refine (impl_one.calls t360 t361 _ A8.out).mono ?_);rintro e w' ⟨rfl,⟨nd,rfl⟩⟩;(try exact zw))))
  go_loopg [10,11] k (fun kq v10 v11 w' => ∃ (x10_1:List Int) (x11_1:Int),v11 = .int .i64 x11_1 ∧ Aside0 (impl_LongestChain.l0 kq t351 t354 x10_1 x11_1 = some (r1,r2)) ∧ Aside0 (kq ≤ k) ∧ Aside0 (Kd.R (Kd.int .i64) 2 w' w.heap.size (fun k_=>(w.heap.size ≤ k_) ∧ some k_ ≠ (v355:Value).ownBlock ∧ some k_ ≠ (v10:Value).ownBlock) (.slice Ao17 t351.length co17) t351) ∧ Aside0 (Kd.R (Kd.int .i64) 2 w' w.heap.size (fun k_=>(w.heap.size ≤ k_) ∧ some k_ ≠ ((.slice Ao17 t351.length co17):Value).ownBlock ∧ some k_ ≠ (v10:Value).ownBlock) v355 t354) ∧ Aside0 (Kd.R (Kd.int .i64) 2 w' w.heap.size (fun k_=>(w.heap.size ≤ k_) ∧ some k_ ≠ ((.slice Ao17 t351.length co17):Value).ownBlock ∧ some k_ ≠ (v355:Value).ownBlock) v10 x10_1) ∧ Aside0 (w'.heap[gb343]? = some (.cells #[.int .i64 a0_0,(.slice A0_1 l0_1.length c0_1)] 28 (0,0))) ∧ Aside0 (Below w.heap.size w w'))
  case atStart=>exact ⟨(y357),(wrap64 (t361 - 1)),zs,H', ⟨Nat.le_refl _⟩,⟨zPM HO353.out (fun _ hk=>⟨hk.1.1.1,⟨hk.1.2,hk.2⟩⟩)⟩,⟨zPM HO356.out (fun _ hk=>⟨hk.1.1.1.1,⟨hk.1.2,hk.2⟩⟩)⟩,⟨zPM HO359.out (fun _ hk=>⟨hk.1.1.1.1,⟨hk.1.2,hk.2⟩⟩)⟩,⟨zR BK343.out⟩,⟨zT HB.out GE343.out⟩⟩
  case round =>
   clear H'
   try clear c1
   try clear c4
   try clear c9
   try clear hcz10_0
   try clear hcz10_1
   try clear hcz15_0
   try clear hcz15_1
   try clear hfz10_0
   try clear hfz10_1
   try clear hfz15_0
   try clear hfz15_1
   obtain ⟨x10_1,x11_1,rfl,HA,HK1,HO_8,HO_9,HO_10,BK343,HB⟩:=hrel
   cases gk with
   | zero=>exact absurd HA.out (by simp [impl_LongestChain.l0])
   | succ k1 =>
    have H:=HA.out
    clear HA
    simp only [impl_LongestChain.l0] at H
    by_cases c21:x11_1 = 0
    ·rw [if_pos c21] at H
     obtain ⟨c21b0,c21b1⟩:=zT1 c21
     clear c21
     simp only [Option.some.injEq,Prod.mk.injEq] at H
     obtain ⟨rfl,rfl⟩:=H
     go_wp2
     repeat (go_quiet (fail);try go_wp2)
     go_ret2
     exact ⟨_,zr,by (with_reducible repeat (first | apply zF | apply zG | apply zH));exact kA HO_10.out (fun _ hk=>hk.1),zT HB.out GE343.out⟩
    rw [if_neg c21] at H
    obtain ⟨c21b0,c21b1⟩:=zT2 c21
    obtain ⟨t362,A22,H⟩:=zb H
    try dsimp only at H
    obtain ⟨t363,A23,H⟩:=zb H
    try dsimp only at H
    have H' := zA H
    clear H
    go_wp2_with (first | (go_at_call 35;(with_reducible refine (impl_least.calls x11_1 t362 _ ?side1 A22.out).mono ?_);(case side1=>exact TabW.below HT.out (zT HB.out GE343.out));rintro e w' ⟨rfl,⟨nd,rfl⟩⟩;(try exact zw)) | (go_at_call 36;(with_reducible refine (impl_members.calls k1 x11_1 t363 _ ?side1 A23.out).mono ?_);(case side1=>exact TabW.below HT.out (zT HB.out GE343.out));rintro e w24 ⟨v364,rfl,ho0,hb⟩;have HO365:=zA (kI (kF (kF (kF (Kd.R_newM (M:=fun k_=>(w.heap.size ≤ k_)) ho0 (kP (zT HB.out GE343.out)) (fun k_ h_=>h_)) (kH (zP HO_8.out))) (kH (zP HO_9.out))) (kH (zP HO_10.out))) (kP (zT HB.out GE343.out)));replace HO_8:=zA (kE (zP HO_8.out) (kC ho0) hb);replace HO_9:=zA (kE (zP HO_9.out) (kC ho0) hb);replace HO_10:=zA (kE (zP HO_10.out) (kC ho0) hb);replace BK343:=zA (zB1 BK343.out hb);replace HB:=zA (kQ (zT HB.out GE343.out) hb);(try clear ho0);obtain ⟨Ao25,co25,eo25⟩:=kM HO365.out;subst eo25))
    repeat (go_quiet (first | (go_at_call 35;(with_reducible refine (impl_least.calls x11_1 t362 _ ?side1 A22.out).mono ?_);(case side1=>exact TabW.below HT.out (zT HB.out GE343.out));rintro e w' ⟨rfl,⟨nd,rfl⟩⟩;(try exact zw)) | (go_at_call 36;(with_reducible refine (impl_members.calls k1 x11_1 t363 _ ?side1 A23.out).mono ?_);(case side1=>exact TabW.below HT.out (zT HB.out GE343.out));rintro e w24 ⟨v364,rfl,ho0,hb⟩;have n0_:=zA (kE (zP HO_8.out) (kC ho0) hb);have n1_:=zA (kE (zP HO_9.out) (kC ho0) hb);have n2_:=zA (kE (zP HO_10.out) (kC ho0) hb);have n3_:=zA (kI (kF (kF (kF (Kd.R_newM (M:=fun k_=>(w.heap.size ≤ k_)) ho0 (kP (zT HB.out GE343.out)) (fun k_ h_=>h_)) (kH (zP HO_8.out))) (kH (zP HO_9.out))) (kH (zP HO_10.out))) (kP (zT HB.out GE343.out)));have n4_:=zA (zB1 BK343.out hb);have n5_:=zA (kQ (zT HB.out GE343.out) hb);clear HO_8;clear HO_9;clear HO_10;clear BK343;clear HB;have HO_8:=n0_;have HO_9:=n1_;have HO_10:=n2_;have HO365:=n3_;have BK343:=n4_;have HB:=n5_;clear n0_ n1_ n2_ n3_ n4_ n5_;(try clear ho0);obtain ⟨Ao25,co25,eo25⟩:=kM HO365.out;subst eo25));try go_wp2_with (first | (go_at_call 35;(with_reducible refine (impl_least.calls x11_1 t362 _ ?side1 A22.out).mono ?_);(case side1=>exact TabW.below HT.out (zT HB.out GE343.out));rintro e w' ⟨rfl,⟨nd,rfl⟩⟩;(try exact zw)) | (go_at_call 36;(with_reducible refine (impl_members.calls k1 x11_1 t363 _ ?side1 A23.out).mono ?_);(case side1=>exact TabW.below HT.out (zT HB.out GE343.out));rintro e w24 ⟨v364,rfl,ho0,hb⟩;have HO365:=zA (kI (kF (kF (kF (Kd.R_newM (M:=fun k_=>(w.heap.size ≤ k_)) ho0 (kP (zT HB.out GE343.out)) (fun k_ h_=>h_)) (kH (zP HO_8.out))) (kH (zP HO_9.out))) (kH (zP HO_10.out))) (kP (zT HB.out GE343.out)));replace HO_8:=zA (kE (zP HO_8.out) (kC ho0) hb);replace HO_9:=zA (kE (zP HO_9.out) (kC ho0) hb);replace HO_10:=zA (kE (zP HO_10.out) (kC ho0) hb);replace BK343:=zA (zB1 BK343.out hb);replace HB:=zA (kQ (zT HB.out GE343.out) hb);(try clear ho0);obtain ⟨Ao25,co25,eo25⟩:=kM HO365.out;subst eo25)))
    go_loopg [12,42] k1 (fun kq v12 v42 w' => ∃ (x12_2:Int) (x42_2:Int),v12 = .int .i64 x12_2 ∧ v42 = .int .i64 x42_2 ∧ Aside0 (impl_LongestChain.l1 kq t351 t354 x10_1 x12_2 t363 (t363.length:Int) x42_2 = some (r1,r2)) ∧ Aside0 (kq ≤ k1) ∧ Aside0 (Kd.R (Kd.int .i64) 2 w' w.heap.size (fun k_=>(w.heap.size ≤ k_) ∧ some k_ ≠ (v355:Value).ownBlock ∧ some k_ ≠ (u10:Value).ownBlock ∧ some k_ ≠ ((.slice Ao25 t363.length co25):Value).ownBlock) (.slice Ao17 t351.length co17) t351) ∧ Aside0 (Kd.R (Kd.int .i64) 2 w' w.heap.size (fun k_=>(w.heap.size ≤ k_) ∧ some k_ ≠ ((.slice Ao17 t351.length co17):Value).ownBlock ∧ some k_ ≠ (u10:Value).ownBlock ∧ some k_ ≠ ((.slice Ao25 t363.length co25):Value).ownBlock) v355 t354) ∧ Aside0 (Kd.R (Kd.int .i64) 2 w' w.heap.size (fun k_=>(w.heap.size ≤ k_) ∧ some k_ ≠ ((.slice Ao17 t351.length co17):Value).ownBlock ∧ some k_ ≠ (v355:Value).ownBlock ∧ some k_ ≠ ((.slice Ao25 t363.length co25):Value).ownBlock) u10 x10_1) ∧ Aside0 (Kd.R (Kd.int .i64) 2 w' w.heap.size (fun k_=>(w.heap.size ≤ k_) ∧ some k_ ≠ ((.slice Ao17 t351.length co17):Value).ownBlock ∧ some k_ ≠ (v355:Value).ownBlock ∧ some k_ ≠ (u10:Value).ownBlock) (.slice Ao25 t363.length co25) t363) ∧ Aside0 (w'.heap[gb343]? = some (.cells #[.int .i64 a0_0,(.slice A0_1 l0_1.length c0_1)] 28 (0,0))) ∧ Aside0 (Below w.heap.size w w'))
    case atStart=>exact ⟨(t362),(0),zs,zs,H', ⟨Nat.le_refl _⟩,⟨zPM HO_8.out (fun _ hk=>⟨hk.1.1,⟨hk.1.2.1,⟨hk.1.2.2,hk.2⟩⟩⟩)⟩,⟨zPM HO_9.out (fun _ hk=>⟨hk.1.1,⟨hk.1.2.1,⟨hk.1.2.2,hk.2⟩⟩⟩)⟩,⟨zPM HO_10.out (fun _ hk=>⟨hk.1.1,⟨hk.1.2.1,⟨hk.1.2.2,hk.2⟩⟩⟩)⟩,⟨zPM HO365.out (fun _ hk=>⟨hk.1.1.1.1,⟨hk.1.1.2,⟨hk.1.2,hk.2⟩⟩⟩)⟩,⟨zR BK343.out⟩,⟨zT HB.out GE343.out⟩⟩
    case round =>
     clear H'
     try clear c1
     try clear c2
     try clear c4
     try clear c9
     try clear c21
     try clear hcz10_0
     try clear hcz10_1
     try clear hcz15_0
     try clear hcz15_1
     try clear hfz10_0
     try clear hfz10_1
     try clear hfz15_0
     try clear hfz15_1
     obtain ⟨x12_2,x42_2,rfl,rfl,HA,HK2,HO_8,HO_9,HO_10,HO_40,BK343,HB⟩:=hrel
     cases gk with
     | zero=>exact absurd HA.out (by simp [impl_LongestChain.l1])
     | succ k2 =>
      have H:=HA.out
      clear HA
      simp only [impl_LongestChain.l1] at H
      by_cases c26:x42_2 < (t363.length:Int)
      ·rw [if_pos c26] at H
       have c26b0:decide (x42_2 < (t363.length:Int)) = true:=decide_eq_true c26
       clear c26
       by_cases c27:0 ≤ x42_2
       ·rw [if_pos c27] at H
        have c27b0:decide (0 ≤ x42_2) = true:=decide_eq_true c27
        clear c27
        by_cases c28:x42_2 < (t363.length:Int)
        ·rw [if_pos c28] at H
         have c28b0:decide (x42_2 < (t363.length:Int)) = true:=decide_eq_true c28
         clear c28
         by_cases c29:0 ≤ (rd t363 x42_2)
         ·rw [if_pos c29] at H
          have c29b0:decide (0 ≤ (rd t363 x42_2)) = true:=decide_eq_true c29
          clear c29
          by_cases c30:(rd t363 x42_2) < (t354.length:Int)
          ·rw [if_pos c30] at H
           have c30b0:decide ((rd t363 x42_2) < (t354.length:Int)) = true:=decide_eq_true c30
           clear c30
           by_cases c31:0 ≤ x12_2
           ·rw [if_pos c31] at H
            have c31b0:decide (0 ≤ x12_2) = true:=decide_eq_true c31
            clear c31
            by_cases c32:x12_2 < (t354.length:Int)
            ·rw [if_pos c32] at H
             have c32b0:decide (x12_2 < (t354.length:Int)) = true:=decide_eq_true c32
             clear c32
             by_cases c33:(rd t354 (rd t363 x42_2)) > (rd t354 x12_2)
             ·rw [if_pos c33] at H
              have c33b0:decide ((rd t354 x12_2) < (rd t354 (rd t363 x42_2))) = true:=decide_eq_true c33
              clear c33
              have H' := zA H
              clear H
              have p366:0 ≤ (x42_2:Int):=zd
              have q366:x42_2 < (t363.length:Int):=zd
              obtain ⟨ad366,e366,hx366_0⟩:=Kd.at_int (kB HO_40.out).2.2 x42_2 p366 q366
              cases e366
              replace p366:=eq_true p366
              replace q366:=eq_true q366
              obtain ⟨Ao34,co34,eo34⟩:=kM HO_9.out
              subst eo34
              have p367:0 ≤ ((rd t363 x42_2):Int):=zd
              have q367:(rd t363 x42_2) < (t354.length:Int):=zd
              obtain ⟨ad367,e367,hx367_0⟩:=Kd.at_int (kB HO_9.out).2.2 (rd t363 x42_2) p367 q367
              cases e367
              replace p367:=eq_true p367
              replace q367:=eq_true q367
              have p368:0 ≤ (x12_2:Int):=zd
              have q368:x12_2 < (t354.length:Int):=zd
              obtain ⟨ad368,e368,hx368_0⟩:=Kd.at_int (kB HO_9.out).2.2 x12_2 p368 q368
              obtain rfl:ad367 = ad368:=(by injection e368)
              replace p368:=eq_true p368
              replace q368:=eq_true q368
              go_wp2
              repeat (go_quiet (fail);try go_wp2)
              go_roundg k2
              case measure=>have:=HK1.out;have:=HK2.out;omega
              case rel=>exact ⟨(rd t363 x42_2),(wrap64 (x42_2 + 1)),zs,zs,H', ⟨by have:=HK1.out;have:=HK2.out;omega⟩,⟨zP HO_8.out⟩,⟨zP HO_9.out⟩,⟨zP HO_10.out⟩,⟨zP HO_40.out⟩,⟨zR BK343.out⟩,⟨zT HB.out GE343.out⟩⟩
             rw [if_neg c33] at H
             have c33b0:decide ((rd t354 x12_2) < (rd t354 (rd t363 x42_2))) = false:=decide_eq_false c33
             clear c33
             have H' := zA H
             clear H
             have p366:0 ≤ (x42_2:Int):=zd
             have q366:x42_2 < (t363.length:Int):=zd
             obtain ⟨ad366,e366,hx366_0⟩:=Kd.at_int (kB HO_40.out).2.2 x42_2 p366 q366
             cases e366
             replace p366:=eq_true p366
             replace q366:=eq_true q366
             obtain ⟨Ao35,co35,eo35⟩:=kM HO_9.out
             subst eo35
             have p367:0 ≤ ((rd t363 x42_2):Int):=zd
             have q367:(rd t363 x42_2) < (t354.length:Int):=zd
             obtain ⟨ad367,e367,hx367_0⟩:=Kd.at_int (kB HO_9.out).2.2 (rd t363 x42_2) p367 q367
             cases e367
             replace p367:=eq_true p367
             replace q367:=eq_true q367
             have p368:0 ≤ (x12_2:Int):=zd
             have q368:x12_2 < (t354.length:Int):=zd
             obtain ⟨ad368,e368,hx368_0⟩:=Kd.at_int (kB HO_9.out).2.2 x12_2 p368 q368
             obtain rfl:ad367 = ad368:=(by injection e368)
             replace p368:=eq_true p368
             replace q368:=eq_true q368
             go_wp2
             repeat (go_quiet (fail);try go_wp2)
             go_roundg k2
             case measure=>have:=HK1.out;have:=HK2.out;omega
             case rel=>exact ⟨(x12_2),(wrap64 (x42_2 + 1)),zs,zs,H', ⟨by have:=HK1.out;have:=HK2.out;omega⟩,⟨zP HO_8.out⟩,⟨zP HO_9.out⟩,⟨zP HO_10.out⟩,⟨zP HO_40.out⟩,⟨zR BK343.out⟩,⟨zT HB.out GE343.out⟩⟩
            rw [if_neg c32] at H
            exact absurd H (by simp)
           rw [if_neg c31] at H
           exact absurd H (by simp)
          rw [if_neg c30] at H
          exact absurd H (by simp)
         rw [if_neg c29] at H
         exact absurd H (by simp)
        rw [if_neg c28] at H
        exact absurd H (by simp)
       rw [if_neg c27] at H
       exact absurd H (by simp)
      rw [if_neg c26] at H
      have c26b0:decide (x42_2 < (t363.length:Int)) = false:=decide_eq_false c26
      clear c26
      by_cases c36:x10_1.length < 17592186044416
      ·rw [if_pos c36] at H
       have LMc36:=zA c36
       clear c36
       obtain ⟨y369,hy369⟩:∃ y_:List Int,y_ = (x10_1 ++ [x12_2]):=⟨_,rfl⟩
       replace H:(if 0 ≤ x12_2 then (if x12_2 < (t351.length:Int) then ((impl_one.f x12_2).bind fun t373=>(impl_LongestChain.l0 k2 t351 t354 y369 (Go.bits .andNot .i64 (rd t351 x12_2) t373))) else (none)) else (none)) = some (r1,r2):=zy hy369 H
       have Ny369:=zA hy369
       clear hy369
       by_cases c37:0 ≤ x12_2
       ·rw [if_pos c37] at H
        have c37b0:decide (0 ≤ x12_2) = true:=decide_eq_true c37
        clear c37
        by_cases c38:x12_2 < (t351.length:Int)
        ·rw [if_pos c38] at H
         have c38b0:decide (x12_2 < (t351.length:Int)) = true:=decide_eq_true c38
         clear c38
         obtain ⟨t373,A39,H⟩:=zb H
         try dsimp only at H
         have H' := zA H
         clear H
         go_wp2_with (first | ((with_reducible refine gate_builtin (b:=.append) (xs:=#[.tmp 57,.tmp 59]) rfl ?_);at_builtin;refine Kd.R_append (Kd.int .i64) (w0:=w) w.heap.size rfl (.tmp 57) (.tmp 59) 22 2 (.int .i64 0) 8 rfl Tryd.underlying22 info2 rfl (by decide) (by omega) u10 x10_1 x12_2 [.int .i64 x12_2] (fun k_=>(w.heap.size ≤ k_) ∧ some k_ ≠ (.slice Ao17 t351.length co17:Value).ownBlock ∧ some k_ ≠ (v355:Value).ownBlock ∧ some k_ ≠ (.slice Ao25 t363.length co25:Value).ownBlock) (fun _=>False) rfl rfl ?aP (fun _ hk=>hk.elim) ?aF ?aO ?aB ?aS ?aL ?_;(case aP=>exact rfl);(case aB=>exact (zT HB.out GE343.out));(case aF=>exact (fun k_ hk=>⟨(Nat.le_trans (kP (zT HB.out GE343.out)) hk),jF (kH (zP HO_8.out)) k_ hk,jF (kH (zP HO_9.out)) k_ hk,jF (kH (zP HO_40.out)) k_ hk⟩));(case aO=>exact (zP HO_10.out));(case aS=>exact (kP (zT HB.out GE343.out)));(case aL=>have:=LMc36.out;omega);intro v370 w40 ho hb hg hat;rw [← Ny369.out] at ho;replace HO_8:=zA (Kd.R_after (ok:=(fun k_=>(w.heap.size ≤ k_) ∧ some k_ ≠ (v355:Value).ownBlock ∧ some k_ ≠ (.slice Ao25 t363.length co25:Value).ownBlock)) (by (with_reducible repeat (first | apply zF | apply zG | apply zH));exact kA HO_8.out (fun _ hk=>⟨⟨hk.1,⟨hk.2.1,hk.2.2.2⟩⟩,hk.2.2.1⟩)) hg hat);replace HO_9:=zA (Kd.R_after (ok:=(fun k_=>(w.heap.size ≤ k_) ∧ some k_ ≠ (.slice Ao17 t351.length co17:Value).ownBlock ∧ some k_ ≠ (.slice Ao25 t363.length co25:Value).ownBlock)) (by (with_reducible repeat (first | apply zF | apply zG | apply zH));exact kA HO_9.out (fun _ hk=>⟨⟨hk.1,⟨hk.2.1,hk.2.2.2⟩⟩,hk.2.2.1⟩)) hg hat);replace HO_40:=zA (Kd.R_after (ok:=(fun k_=>(w.heap.size ≤ k_) ∧ some k_ ≠ (.slice Ao17 t351.length co17:Value).ownBlock ∧ some k_ ≠ (v355:Value).ownBlock)) (by (with_reducible repeat (first | apply zF | apply zG | apply zH));exact kA HO_40.out (fun _ hk=>⟨⟨hk.1,⟨hk.2.1,hk.2.2.1⟩⟩,hk.2.2.2⟩)) hg hat);replace BK343:=zA (blk_grown (g:=gb343) (o:=.cells #[.int .i64 a0_0,.slice A0_1 l0_1.length c0_1] 28 (0,0)) (zR BK343.out) hg (Kd.R_ne HO_10.out BK343.out (by decide)));replace HB:=zA (hb);have HO371:=zA (ho);clear HO_10;clear ho hb hg hat;have p372:0 ≤ (x12_2:Int):=zd;have q372:x12_2 < (t351.length:Int):=zd;obtain ⟨ad372,e372,hx372_0⟩:=Kd.at_int (kB HO_8.out).2.2 x12_2 p372 q372;cases e372;replace p372:=eq_true p372;replace q372:=eq_true q372) | (go_at_call 33;(with_reducible refine (impl_one.calls x12_2 t373 _ A39.out).mono ?_);rintro e w' ⟨rfl,⟨nd,rfl⟩⟩;(try exact zw)))
         repeat (go_quiet (first | ((with_reducible refine gate_builtin (b:=.append) (xs:=#[.tmp 57,.tmp 59]) rfl ?_);at_builtin;refine Kd.R_append (Kd.int .i64) (w0:=w) w.heap.size rfl (.tmp 57) (.tmp 59) 22 2 (.int .i64 0) 8 rfl Tryd.underlying22 info2 rfl (by decide) (by omega) u10 x10_1 x12_2 [.int .i64 x12_2] (fun k_=>(w.heap.size ≤ k_) ∧ some k_ ≠ (.slice Ao17 t351.length co17:Value).ownBlock ∧ some k_ ≠ (v355:Value).ownBlock ∧ some k_ ≠ (.slice Ao25 t363.length co25:Value).ownBlock) (fun _=>False) rfl rfl ?aP (fun _ hk=>hk.elim) ?aF ?aO ?aB ?aS ?aL ?_;(case aP=>exact rfl);(case aB=>exact (zT HB.out GE343.out));(case aF=>exact (fun k_ hk=>⟨(Nat.le_trans (kP (zT HB.out GE343.out)) hk),jF (kH (zP HO_8.out)) k_ hk,jF (kH (zP HO_9.out)) k_ hk,jF (kH (zP HO_40.out)) k_ hk⟩));(case aO=>exact (zP HO_10.out));(case aS=>exact (kP (zT HB.out GE343.out)));(case aL=>have:=LMc36.out;omega);intro v370 w40 ho hb hg hat;rw [← Ny369.out] at ho;have n0_:=zA (Kd.R_after (ok:=(fun k_=>(w.heap.size ≤ k_) ∧ some k_ ≠ (v355:Value).ownBlock ∧ some k_ ≠ (.slice Ao25 t363.length co25:Value).ownBlock)) (by (with_reducible repeat (first | apply zF | apply zG | apply zH));exact kA HO_8.out (fun _ hk=>⟨⟨hk.1,⟨hk.2.1,hk.2.2.2⟩⟩,hk.2.2.1⟩)) hg hat);have n1_:=zA (Kd.R_after (ok:=(fun k_=>(w.heap.size ≤ k_) ∧ some k_ ≠ (.slice Ao17 t351.length co17:Value).ownBlock ∧ some k_ ≠ (.slice Ao25 t363.length co25:Value).ownBlock)) (by (with_reducible repeat (first | apply zF | apply zG | apply zH));exact kA HO_9.out (fun _ hk=>⟨⟨hk.1,⟨hk.2.1,hk.2.2.2⟩⟩,hk.2.2.1⟩)) hg hat);have n2_:=zA (Kd.R_after (ok:=(fun k_=>(w.heap.size ≤ k_) ∧ some k_ ≠ (.slice Ao17 t351.length co17:Value).ownBlock ∧ some k_ ≠ (v355:Value).ownBlock)) (by (with_reducible repeat (first | apply zF | apply zG | apply zH));exact kA HO_40.out (fun _ hk=>⟨⟨hk.1,⟨hk.2.1,hk.2.2.1⟩⟩,hk.2.2.2⟩)) hg hat);have n3_:=zA (blk_grown (g:=gb343) (o:=.cells #[.int .i64 a0_0,.slice A0_1 l0_1.length c0_1] 28 (0,0)) (zR BK343.out) hg (Kd.R_ne HO_10.out BK343.out (by decide)));have n4_:=zA (hb);have n5_:=zA (ho);clear HO_8;clear HO_9;clear HO_40;clear BK343;clear HB;clear HO_10;have HO_8:=n0_;have HO_9:=n1_;have HO_40:=n2_;have BK343:=n3_;have HB:=n4_;have HO371:=n5_;clear n0_ n1_ n2_ n3_ n4_ n5_;clear ho hb hg hat;have p372:0 ≤ (x12_2:Int):=zd;have q372:x12_2 < (t351.length:Int):=zd;obtain ⟨ad372,e372,hx372_0⟩:=Kd.at_int (kB HO_8.out).2.2 x12_2 p372 q372;cases e372;replace p372:=eq_true p372;replace q372:=eq_true q372) | (go_at_call 33;(with_reducible refine (impl_one.calls x12_2 t373 _ A39.out).mono ?_);rintro e w' ⟨rfl,⟨nd,rfl⟩⟩;(try exact zw)));try go_wp2_with (first | ((with_reducible refine gate_builtin (b:=.append) (xs:=#[.tmp 57,.tmp 59]) rfl ?_);at_builtin;refine Kd.R_append (Kd.int .i64) (w0:=w) w.heap.size rfl (.tmp 57) (.tmp 59) 22 2 (.int .i64 0) 8 rfl Tryd.underlying22 info2 rfl (by decide) (by omega) u10 x10_1 x12_2 [.int .i64 x12_2] (fun k_=>(w.heap.size ≤ k_) ∧ some k_ ≠ (.slice Ao17 t351.length co17:Value).ownBlock ∧ some k_ ≠ (v355:Value).ownBlock ∧ some k_ ≠ (.slice Ao25 t363.length co25:Value).ownBlock) (fun _=>False) rfl rfl ?aP (fun _ hk=>hk.elim) ?aF ?aO ?aB ?aS ?aL ?_;(case aP=>exact rfl);(case aB=>exact (zT HB.out GE343.out));(case aF=>exact (fun k_ hk=>⟨(Nat.le_trans (kP (zT HB.out GE343.out)) hk),jF (kH (zP HO_8.out)) k_ hk,jF (kH (zP HO_9.out)) k_ hk,jF (kH (zP HO_40.out)) k_ hk⟩));(case aO=>exact (zP HO_10.out));(case aS=>exact (kP (zT HB.out GE343.out)));(case aL=>have:=LMc36.out;omega);intro v370 w40 ho hb hg hat;rw [← Ny369.out] at ho;replace HO_8:=zA (Kd.R_after (ok:=(fun k_=>(w.heap.size ≤ k_) ∧ some k_ ≠ (v355:Value).ownBlock ∧ some k_ ≠ (.slice Ao25 t363.length co25:Value).ownBlock)) (by (with_reducible repeat (first | apply zF | apply zG | apply zH));exact kA HO_8.out (fun _ hk=>⟨⟨hk.1,⟨hk.2.1,hk.2.2.2⟩⟩,hk.2.2.1⟩)) hg hat);replace HO_9:=zA (Kd.R_after (ok:=(fun k_=>(w.heap.size ≤ k_) ∧ some k_ ≠ (.slice Ao17 t351.length co17:Value).ownBlock ∧ some k_ ≠ (.slice Ao25 t363.length co25:Value).ownBlock)) (by (with_reducible repeat (first | apply zF | apply zG | apply zH));exact kA HO_9.out (fun _ hk=>⟨⟨hk.1,⟨hk.2.1,hk.2.2.2⟩⟩,hk.2.2.1⟩)) hg hat);replace HO_40:=zA (Kd.R_after (ok:=(fun k_=>(w.heap.size ≤ k_) ∧ some k_ ≠ (.slice Ao17 t351.length co17:Value).ownBlock ∧ some k_ ≠ (v355:Value).ownBlock)) (by (with_reducible repeat (first | apply zF | apply zG | apply zH));exact kA HO_40.out (fun _ hk=>⟨⟨hk.1,⟨hk.2.1,hk.2.2.1⟩⟩,hk.2.2.2⟩)) hg hat);replace BK343:=zA (blk_grown (g:=gb343) (o:=.cells #[.int .i64 a0_0,.slice A0_1 l0_1.length c0_1] 28 (0,0)) (zR BK343.out) hg (Kd.R_ne HO_10.out BK343.out (by decide)));replace HB:=zA (hb);have HO371:=zA (ho);clear HO_10;clear ho hb hg hat;have p372:0 ≤ (x12_2:Int):=zd;have q372:x12_2 < (t351.length:Int):=zd;obtain ⟨ad372,e372,hx372_0⟩:=Kd.at_int (kB HO_8.out).2.2 x12_2 p372 q372;cases e372;replace p372:=eq_true p372;replace q372:=eq_true q372) | (go_at_call 33;(with_reducible refine (impl_one.calls x12_2 t373 _ A39.out).mono ?_);rintro e w' ⟨rfl,⟨nd,rfl⟩⟩;(try exact zw))))
         go_roundg k2
         case measure=>have:=HK1.out;have:=HK2.out;omega
         case rel=>exact ⟨(y369),(Go.bits .andNot .i64 (rd t351 x12_2) t373),zs,H', ⟨by have:=HK1.out;have:=HK2.out;omega⟩,⟨zPM HO_8.out (fun _ hk=>⟨hk.1.1,⟨hk.1.2.1,hk.2⟩⟩)⟩,⟨zPM HO_9.out (fun _ hk=>⟨hk.1.1,⟨hk.1.2.1,hk.2⟩⟩)⟩,⟨zPM HO371.out (fun _ hk=>⟨hk.1,⟨hk.2.1,hk.2.2.1⟩⟩)⟩,⟨zR BK343.out⟩,⟨zT HB.out GE343.out⟩⟩
        rw [if_neg c38] at H
        exact absurd H (by simp)
       rw [if_neg c37] at H
       exact absurd H (by simp)
      rw [if_neg c36] at H
      exact absurd H (by simp)
 rw [if_neg c4] at H
 obtain ⟨c4b0,c4b1⟩:=zT2 c4
 simp only [Option.some.injEq,Prod.mk.injEq] at H
 obtain ⟨rfl,rfl⟩:=H
 go_enter Tryd.func9,Tryd.ntmps9
 go_wp2_with (first | (refine zBE 2 #[.int .i64 a0_0,.slice A0_1 l0_1.length c0_1] 28 ?_;intro gb343 hg w41 hbox hb;replace HO1:=zA (kG (jD (zPV HO1.out) gb343 (Nat.le_of_eq hg.symm)) hb);have BK343:=zA (hbox);have GW343:=zA (zBH hg HB.out);have GE343:=zA (zBH hg HB.out);replace HB:=zA (kQ (zQ HB.out) hb);clear hb hbox hg;obtain ⟨hcz42_0,hcz42_1,hfz42_0,hfz42_1⟩:=zB3 BK343.out) | ((with_reducible refine kS (N:=17) rfl ?_);refine Kd.N_lit (Kd.slice 2 (Kd.int .i64)) _ 22 ?hg (N' := 17) ?hd (xs:=([l1]:List (List Int))) (inner:=[.slice A1 l1.length c1]) (ok:=(fun k_=>(P1_ k_ ∨ w.heap.size ≤ k_) ∧ k_ ≠ gb343)) (okp:=(fun k_=>(P1_ k_ ∨ w.heap.size ≤ k_) ∧ k_ ≠ gb343)) ?hr ?hp (fun _ hk=>hk) ((show ∀ k_:Nat,(_:Nat) ≤ k_ → (fun k_=>(P1_ k_ ∨ w.heap.size ≤ k_) ∧ k_ ≠ gb343) k_ from fun k_ hk=>⟨(.inr (Nat.le_trans (kP (zT HB.out GE343.out)) hk)),jE (g:=gb343) (o:=.cells #[.int .i64 a0_0,.slice A0_1 l0_1.length c0_1] 28 (0,0)) (zR BK343.out) k_ hk⟩) _ (Nat.le_refl _)) (kW _ _) (Nat.le_refl _) (by simp) ?_;(case hd=>rfl);(case hg=>rfl);(case hr=>first | (go_simp;done) | (go_simp;rfl));(case hp=>exact (Reps.one (show Kd.FK (Kd.slice 2 (Kd.int .i64)) _ _ l1 [.slice A1 l1.length c1] from (zFK (kN (ok' := (fun k_=>(P1_ k_ ∨ w.heap.size ≤ k_) ∧ k_ ≠ gb343)) (HO1.out) (fun k_ hk=>⟨hk.1,hk.2⟩)))) (Reps.none _ _)));intro v345 w43 ho44 hb hg_ hnew_;clear hg_ hnew_;(first | rw [← Ny344.out] at ho44 | (simp only [Int.reduceToNat] at ho44;rw [← Ny344.out] at ho44));replace HO1:=zA (kK (zPV HO1.out) (Kd.N_base ho44) hb);have HO346:=zA (jN ho44 (kP (zT HB.out GE343.out)));replace BK343:=zA (zB1 BK343.out hb);replace HB:=zA (kQ (zT HB.out GE343.out) hb);clear hb ho44;obtain ⟨Ao45,co45,eo45⟩:=Kd.N_slice HO346.out;subst eo45) | (go_at_call 30;(with_reducible refine (impl_checkWords.calls k a0_0 _ _ l0_1 _ _ y344 t347 _ ?side1 ?side2 ?side3 ?side4 ?side5 A3.out).mono ?_);(case side1=>exact zS (kO HR0_1.out HB.out));(case side2=>exact HC0_1.out);(case side3=>exact zS (Kd.N_reads' HO346.out).2.2);(case side4=>exact (Kd.N_reads' HO346.out).2.1);(case side5=>exact TabW.below HT.out (zT HB.out GE343.out));rintro e w46 ⟨rfl,hb⟩;replace HO1:=zA (kG (zPV HO1.out) hb);replace HO346:=zA (kZ (zPN HO346.out) hb);replace BK343:=zA (zB1 BK343.out hb);replace HB:=zA (kQ (zT HB.out GE343.out) hb)))
 repeat (go_quiet (first | (refine zBE 2 #[.int .i64 a0_0,.slice A0_1 l0_1.length c0_1] 28 ?_;intro gb343 hg w41 hbox hb;have n0_:=zA (kG (jD (zPV HO1.out) gb343 (Nat.le_of_eq hg.symm)) hb);have n1_:=zA (kQ (zQ HB.out) hb);have n2_:=zA (hbox);have n3_:=zA (zBH hg HB.out);have n4_:=zA (zBH hg HB.out);clear HO1;clear HB;have HO1:=n0_;have HB:=n1_;have BK343:=n2_;have GW343:=n3_;have GE343:=n4_;clear n0_ n1_ n2_ n3_ n4_;clear hb hbox hg;obtain ⟨hcz42_0,hcz42_1,hfz42_0,hfz42_1⟩:=zB3 BK343.out) | ((with_reducible refine kS (N:=17) rfl ?_);refine Kd.N_lit (Kd.slice 2 (Kd.int .i64)) _ 22 ?hg (N' := 17) ?hd (xs:=([l1]:List (List Int))) (inner:=[.slice A1 l1.length c1]) (ok:=(fun k_=>(P1_ k_ ∨ w.heap.size ≤ k_) ∧ k_ ≠ gb343)) (okp:=(fun k_=>(P1_ k_ ∨ w.heap.size ≤ k_) ∧ k_ ≠ gb343)) ?hr ?hp (fun _ hk=>hk) ((show ∀ k_:Nat,(_:Nat) ≤ k_ → (fun k_=>(P1_ k_ ∨ w.heap.size ≤ k_) ∧ k_ ≠ gb343) k_ from fun k_ hk=>⟨(.inr (Nat.le_trans (kP (zT HB.out GE343.out)) hk)),jE (g:=gb343) (o:=.cells #[.int .i64 a0_0,.slice A0_1 l0_1.length c0_1] 28 (0,0)) (zR BK343.out) k_ hk⟩) _ (Nat.le_refl _)) (kW _ _) (Nat.le_refl _) (by simp) ?_;(case hd=>rfl);(case hg=>rfl);(case hr=>first | (go_simp;done) | (go_simp;rfl));(case hp=>exact (Reps.one (show Kd.FK (Kd.slice 2 (Kd.int .i64)) _ _ l1 [.slice A1 l1.length c1] from (zFK (kN (ok' := (fun k_=>(P1_ k_ ∨ w.heap.size ≤ k_) ∧ k_ ≠ gb343)) (HO1.out) (fun k_ hk=>⟨hk.1,hk.2⟩)))) (Reps.none _ _)));intro v345 w43 ho44 hb hg_ hnew_;clear hg_ hnew_;(first | rw [← Ny344.out] at ho44 | (simp only [Int.reduceToNat] at ho44;rw [← Ny344.out] at ho44));have n0_:=zA (kK (zPV HO1.out) (Kd.N_base ho44) hb);have n1_:=zA (jN ho44 (kP (zT HB.out GE343.out)));have n2_:=zA (zB1 BK343.out hb);have n3_:=zA (kQ (zT HB.out GE343.out) hb);clear HO1;clear BK343;clear HB;have HO1:=n0_;have HO346:=n1_;have BK343:=n2_;have HB:=n3_;clear n0_ n1_ n2_ n3_;clear hb ho44;obtain ⟨Ao45,co45,eo45⟩:=Kd.N_slice HO346.out;subst eo45) | (go_at_call 30;(with_reducible refine (impl_checkWords.calls k a0_0 _ _ l0_1 _ _ y344 t347 _ ?side1 ?side2 ?side3 ?side4 ?side5 A3.out).mono ?_);(case side1=>exact zS (kO HR0_1.out HB.out));(case side2=>exact HC0_1.out);(case side3=>exact zS (Kd.N_reads' HO346.out).2.2);(case side4=>exact (Kd.N_reads' HO346.out).2.1);(case side5=>exact TabW.below HT.out (zT HB.out GE343.out));rintro e w46 ⟨rfl,hb⟩;have n0_:=zA (kG (zPV HO1.out) hb);have n1_:=zA (kZ (zPN HO346.out) hb);have n2_:=zA (zB1 BK343.out hb);have n3_:=zA (kQ (zT HB.out GE343.out) hb);clear HO1;clear HO346;clear BK343;clear HB;have HO1:=n0_;have HO346:=n1_;have BK343:=n2_;have HB:=n3_;clear n0_ n1_ n2_ n3_));try go_wp2_with (first | (refine zBE 2 #[.int .i64 a0_0,.slice A0_1 l0_1.length c0_1] 28 ?_;intro gb343 hg w41 hbox hb;replace HO1:=zA (kG (jD (zPV HO1.out) gb343 (Nat.le_of_eq hg.symm)) hb);have BK343:=zA (hbox);have GW343:=zA (zBH hg HB.out);have GE343:=zA (zBH hg HB.out);replace HB:=zA (kQ (zQ HB.out) hb);clear hb hbox hg;obtain ⟨hcz42_0,hcz42_1,hfz42_0,hfz42_1⟩:=zB3 BK343.out) | ((with_reducible refine kS (N:=17) rfl ?_);refine Kd.N_lit (Kd.slice 2 (Kd.int .i64)) _ 22 ?hg (N' := 17) ?hd (xs:=([l1]:List (List Int))) (inner:=[.slice A1 l1.length c1]) (ok:=(fun k_=>(P1_ k_ ∨ w.heap.size ≤ k_) ∧ k_ ≠ gb343)) (okp:=(fun k_=>(P1_ k_ ∨ w.heap.size ≤ k_) ∧ k_ ≠ gb343)) ?hr ?hp (fun _ hk=>hk) ((show ∀ k_:Nat,(_:Nat) ≤ k_ → (fun k_=>(P1_ k_ ∨ w.heap.size ≤ k_) ∧ k_ ≠ gb343) k_ from fun k_ hk=>⟨(.inr (Nat.le_trans (kP (zT HB.out GE343.out)) hk)),jE (g:=gb343) (o:=.cells #[.int .i64 a0_0,.slice A0_1 l0_1.length c0_1] 28 (0,0)) (zR BK343.out) k_ hk⟩) _ (Nat.le_refl _)) (kW _ _) (Nat.le_refl _) (by simp) ?_;(case hd=>rfl);(case hg=>rfl);(case hr=>first | (go_simp;done) | (go_simp;rfl));(case hp=>exact (Reps.one (show Kd.FK (Kd.slice 2 (Kd.int .i64)) _ _ l1 [.slice A1 l1.length c1] from (zFK (kN (ok' := (fun k_=>(P1_ k_ ∨ w.heap.size ≤ k_) ∧ k_ ≠ gb343)) (HO1.out) (fun k_ hk=>⟨hk.1,hk.2⟩)))) (Reps.none _ _)));intro v345 w43 ho44 hb hg_ hnew_;clear hg_ hnew_;(first | rw [← Ny344.out] at ho44 | (simp only [Int.reduceToNat] at ho44;rw [← Ny344.out] at ho44));replace HO1:=zA (kK (zPV HO1.out) (Kd.N_base ho44) hb);have HO346:=zA (jN ho44 (kP (zT HB.out GE343.out)));replace BK343:=zA (zB1 BK343.out hb);replace HB:=zA (kQ (zT HB.out GE343.out) hb);clear hb ho44;obtain ⟨Ao45,co45,eo45⟩:=Kd.N_slice HO346.out;subst eo45) | (go_at_call 30;(with_reducible refine (impl_checkWords.calls k a0_0 _ _ l0_1 _ _ y344 t347 _ ?side1 ?side2 ?side3 ?side4 ?side5 A3.out).mono ?_);(case side1=>exact zS (kO HR0_1.out HB.out));(case side2=>exact HC0_1.out);(case side3=>exact zS (Kd.N_reads' HO346.out).2.2);(case side4=>exact (Kd.N_reads' HO346.out).2.1);(case side5=>exact TabW.below HT.out (zT HB.out GE343.out));rintro e w46 ⟨rfl,hb⟩;replace HO1:=zA (kG (zPV HO1.out) hb);replace HO346:=zA (kZ (zPN HO346.out) hb);replace BK343:=zA (zB1 BK343.out hb);replace HB:=zA (kQ (zT HB.out GE343.out) hb))))
 go_ret2
 exact ⟨_,zr,zn,zT HB.out GE343.out⟩
end Go.Proofs.YtpenijicdldipaaDoor.PAll
