import Derived.Test.YtemdfjdmokbcoaaGreatDoorPAllx0
import Derived.Test.YtemdfjdmokbcoaaGreatDoorPAllx2
namespace Go.Proofs.YtemdfjdmokbcoaaGreatDoor.PAll
open Go.RowKit Go.Proofs.YtemdfjdmokbcoaaGreatDoor.T Go.Proofs.YtemdfjdmokbcoaaGreatDoorW.PrintWords Go.Proofs.YtemdfjdmokbcoaaGreatDoorW.PrintLast Go.Proofs.YtemdfjdmokbcoaaGreatDoorW.PrintMore
attribute [local go_sem] max2_int min2_int max_two min_two max_three min_three max_four min_four   -- for this text's walks alone
set_option linter.unusedVariables false
set_option linter.unusedSimpArgs false
def impl_IsRelation.f (l0:List Int):Option (Bool):=if (l0.length:Int) ≤ 24 then ((impl_length_int64.f l0).bind fun t234=>((impl_one.f t234).bind fun t235=>((impl_allIn.f l0 0 (wrap64 (t235 - 1))).bind fun t236=>(some t236)))) else (some false)
set_option maxHeartbeats 8000000 in
set_option maxRecDepth 100000 in
theorem impl_IsRelation.calls (A0 : Option Addr) (c0 : Nat) (l0 : List Int) (r : Bool) (w : World) (hr0 : Kd.C (Kd.int .i64) w A0 l0.length l0) (hc0 : l0.length ≤ c0) (h : impl_IsRelation.f l0 = some r) :
  Calls Tryz.prog 52 #[.slice A0 l0.length c0] w fun e w' => e = .returned (.bool r) ∧ Below w.heap.size w w' := by
 have HR0:=zA hr0
 have HC0:=zA hc0
 clear hr0 hc0
 have HB:=zA (kW w.heap.size w)
 have H:=h
 unfold impl_IsRelation.f at H
 clear h
 by_cases c2:(l0.length:Int) ≤ 24
 ·rw [if_pos c2] at H
  have c2b0:decide ((l0.length:Int) ≤ 24) = true:=decide_eq_true c2
  have c2b1:decide (l0.length ≤ 24) = true:=decide_eq_true (by omega)
  clear c2
  obtain ⟨t234,A3,H⟩:=zb H
  try dsimp only at H
  obtain ⟨t235,A4,H⟩:=zb H
  try dsimp only at H
  obtain ⟨t236,A5,H⟩:=zb H
  try dsimp only at H
  obtain rfl:=Option.some.inj H
  go_enter Tryz.func52,Tryz.ntmps52
  go_wp2_with (first | (go_at_call 31;(with_reducible refine (impl_length_int64.calls _ _ l0 t234 _ ?side1 ?side2 A3.out).mono ?_);(case side1=>exact zS HR0.out);(case side2=>exact HC0.out);rintro e w' ⟨rfl,⟨nd,rfl⟩⟩) | (go_at_call 55;(with_reducible refine (impl_one.calls t234 t235 _ A4.out).mono ?_);rintro e w' ⟨rfl,⟨nd,rfl⟩⟩) | (go_at_call 74;(with_reducible refine (impl_allIn.calls _ _ l0 0 (wrap64 (t235 - 1)) t236 _ ?side1 ?side2 A5.out).mono ?_);(case side1=>exact zS HR0.out);(case side2=>exact HC0.out);rintro e w6 ⟨rfl,hb⟩;replace HB:=zA (kQ (zQ HB.out) hb)))
  go_ret
  exact ⟨zr,zQ HB.out⟩
 rw [if_neg c2] at H
 have c2b0:decide ((l0.length:Int) ≤ 24) = false:=decide_eq_false c2
 have c2b1:decide (l0.length ≤ 24) = false:=decide_eq_false (by omega)
 clear c2
 obtain rfl:=Option.some.inj H
 go_enter Tryz.func52,Tryz.ntmps52
 go_wp2
 go_ret
 exact ⟨zr,zQ HB.out⟩
def bits_TrailingZeros64.f (a0:Int):Option Int:=if 0 ≤ a0 ∧ a0 < 18446744073709551616 then some (Lib.ctz 64 a0.toNat:Int) else none
set_option maxHeartbeats 1000000 in
theorem tz64_core (x k idx : Nat) (w : World) (hx0 : ((x : Int) == 0) = false)
  (key:IntKind.u64.wrap (bits BinOp.and IntKind.u64 (x:Int) (IntKind.u64.wrap (-(x:Int))) * 285870213051353865) / 288230376151711744 = (idx:Int))
  (hi:idx < 64) (hk:k < 64) (hcell:w.cell? ⟨0,idx,none⟩ = some (.int .u8 k)) :
  Calls Tryz.prog 80 #[.int .u64 x] w fun e w' => e = .returned (.int .i64 k) ∧ w = w' := by
 go_enter Tryz.func80,Tryz.ntmps80
 go_wp2_with (simp only [key])
 go_ret
 exact ⟨rfl,rfl⟩
theorem tz64_zero (w:World):Calls Tryz.prog 80 #[.int .u64 0] w fun e w' => e = .returned (.int .i64 64) ∧ w = w' := by
 go_enter Tryz.func80,Tryz.ntmps80
 go_wp2
 go_ret
 exact ⟨rfl,rfl⟩
theorem tz64_key (x a : Nat) (hx : x < 18446744073709551616) (hx0 : x ≠ 0) (hlow : x &&& (18446744073709551616 - x) = a) :
  IntKind.u64.wrap (bits BinOp.and IntKind.u64 (x:Int) (IntKind.u64.wrap (-(x:Int))) * 285870213051353865) / 288230376151711744 = ((a * 285870213051353865 % 18446744073709551616 / 288230376151711744:Nat):Int):=by
 have e1:IntKind.u64.wrap (-(x:Int)) = ((18446744073709551616 - x:Nat):Int):=by rw [IntKind.wrap_u64];omega
 rw [e1,bits_and_u64_nat x _ hx (by omega),hlow,IntKind.wrap_u64]
 omega
theorem bits_TrailingZeros64.calls (a0 : Int) (r : Int) (w : World) (hT : TabW w) (h : bits_TrailingZeros64.f a0 = some r) :
  Calls Tryz.prog 80 #[.int .u64 a0] w fun e w' => e = .returned (.int .i64 r) ∧ Drawn0 w w' := by
 unfold bits_TrailingZeros64.f at h
 split at h
 ·rename_i hr
  obtain ⟨x,rfl⟩:=Int.eq_ofNat_of_zero_le hr.1
  rw [Int.toNat_natCast] at h
  injection h with h
  subst h
  by_cases hx0:x = 0
  ·subst hx0
   exact (tz64_zero w).mono fun e w' ⟨he,hw⟩=>⟨he,⟨0,hw.symm⟩⟩
  obtain ⟨hlow,hk⟩:=Lib.lowest_bit 64 x hx0 (by omega)
  obtain ⟨hi,htab⟩:=Lib.deBruijn64_at _ hk
  have hcell:=hT _ hi
  rw [htab] at hcell
  exact (tz64_core x _ _ w (by simp;omega) (tz64_key x _ (by omega) hx0 hlow) hi hk hcell).mono fun e w' ⟨he,hw⟩=>⟨he,⟨0,hw.symm⟩⟩
 cases h
def impl_least.f (a0:Int):Option (Int):=(bits_TrailingZeros64.f (IntKind.u64.wrap (a0))).bind fun t237=>(some t237)
set_option maxHeartbeats 8000000 in
set_option maxRecDepth 100000 in
theorem impl_least.calls (a0 : Int) (r : Int) (w : World) (hT : TabW w) (h : impl_least.f a0 = some r) :
  Calls Tryz.prog 67 #[.int .i64 a0] w fun e w' => e = .returned (.int .i64 r) ∧ Drawn0 w w' := by
 have HT:=zA hT
 clear hT
 have H:=h
 unfold impl_least.f at H
 clear h
 obtain ⟨t237,A2,H⟩:=zb H
 try dsimp only at H
 obtain rfl:=Option.some.inj H
 go_enter Tryz.func67,Tryz.ntmps67
 go_wp2_with (first | (refine zO (some 5) Tryz.func80 #[.int .u64 (IntKind.u64.wrap (a0))] ?_;(with_reducible refine (bits_TrailingZeros64.calls (IntKind.u64.wrap (a0)) t237 _ ?side1 A2.out).mono ?_);(case side1=>repeat (first | (with_reducible first | exact HT.out | apply TabW.drewN | apply TabW.drew | apply TabW.alloc) | exact HT.out));rintro e w' ⟨rfl,⟨nd,rfl⟩⟩;refine ⟨_,rfl,?_⟩))
 go_ret
 exact ⟨zs,by repeat (first | exact Drawn0.refl _ | apply Drawn0.step)⟩
def impl_members.l0:Nat → Int → List Int → Option (List Int)
 | 0,_,_=>none
 | k + 1,x0,x3=>if x0 = 0 then (some x3) else ((impl_least.f x0).bind fun t241=>(if x3.length < 17592186044416 then (impl_members.l0 k (Go.bits .and .i64 x0 (wrap64 (x0 - 1))) (x3 ++ [t241])) else (none)))
def impl_members.f (k:Nat) (a0:Int):Option (List Int):=impl_members.l0 k a0 (([]:List Int))
set_option maxHeartbeats 8000000 in
set_option maxRecDepth 100000 in
theorem impl_members.calls (k : Nat) (a0 : Int) (r : List Int) (w : World) (hT : TabW w) (h : impl_members.f k a0 = some r) :
  Calls Tryz.prog 43 #[.int .i64 a0] w fun e w' => ∃ v0_:Value,e = .returned (v0_) ∧ Kd.R (Kd.int .i64) 2 w' w.heap.size (fun _=>True) v0_ r ∧ Below w.heap.size w w' := by
 have HT:=zA hT
 clear hT
 have HB:=zA (kW w.heap.size w)
 have H:=h
 unfold impl_members.f at H
 clear h
 obtain ⟨y238,hy238⟩:∃ y_:List Int,y_ = (([]:List Int)):=⟨_,rfl⟩
 replace H:(impl_members.l0 k a0 y238) = some r:=zy hy238 H
 have Ny238:=zA hy238
 clear hy238
 have H' := zA H
 clear H
 go_enter Tryz.func43,Tryz.ntmps43
 go_wp2_with (first | ((with_reducible refine kS (N:=4) rfl ?_);refine Kd.R_lit (Kd.int .i64) _ 2 ?hg (N:=4) ?hd (xs:=([]:List Int)) (inner:=[]) (ok:=fun _=>True) (okp:=fun _=>True) ?hr ?hp (fun _ hk=>hk) trivial (kW _ _) (Nat.le_refl _) (by simp) ?_;(case hd=>rfl);(case hg=>rfl);(case hr=>first | (go_simp;done) | (go_simp;rfl));(case hp=>exact (Reps.none _ _));intro v239 w2 ho3 hb hg_ hnew_;clear hg_ hnew_;(first | rw [← Ny238.out] at ho3 | (simp only [Int.reduceToNat] at ho3;rw [← Ny238.out] at ho3));have HO240:=zA (kI ho3 (kP (zQ HB.out)));replace HB:=zA (kQ (zQ HB.out) hb);clear hb ho3))
 go_loopg [0,3] k (fun kq v0 v3 w' => ∃ (x0_1:Int) (x3_1:List Int),v0 = .int .i64 x0_1 ∧ Aside0 (impl_members.l0 kq x0_1 x3_1 = some r) ∧ Aside0 (kq ≤ k) ∧ Aside0 (Kd.R (Kd.int .i64) 2 w' w.heap.size (fun _=>True) v3 x3_1) ∧ Aside0 (Below w.heap.size w w'))
 case atStart=>exact ⟨(a0),(y238),zs,H', ⟨Nat.le_refl _⟩,⟨zP HO240.out⟩,⟨zQ HB.out⟩⟩
 case round =>
  clear H'
  obtain ⟨x0_1,x3_1,rfl,HA,HK1,HO_3,HB⟩:=hrel
  cases gk with
  | zero=>exact absurd HA.out (by simp [impl_members.l0])
  | succ k1 =>
   have H:=HA.out
   clear HA
   simp only [impl_members.l0] at H
   by_cases c4:x0_1 = 0
   ·rw [if_pos c4] at H
    obtain ⟨c4b0,c4b1⟩:=zT1 c4
    clear c4
    obtain rfl:=Option.some.inj H
    go_wp2
    go_ret
    exact ⟨_,zr,zP HO_3.out,zQ HB.out⟩
   rw [if_neg c4] at H
   obtain ⟨c4b0,c4b1⟩:=zT2 c4
   obtain ⟨t241,A5,H⟩:=zb H
   try dsimp only at H
   by_cases c6:x3_1.length < 17592186044416
   ·rw [if_pos c6] at H
    have LMc6:=zA c6
    clear c6
    obtain ⟨y242,hy242⟩:∃ y_:List Int,y_ = (x3_1 ++ [t241]):=⟨_,rfl⟩
    replace H:(impl_members.l0 k1 (Go.bits .and .i64 x0_1 (wrap64 (x0_1 - 1))) y242) = some r:=zy hy242 H
    have Ny242:=zA hy242
    clear hy242
    have H' := zA H
    clear H
    go_wp2_with (first | (refine zO (some 13) Tryz.func67 #[.int .i64 x0_1] ?_;(with_reducible refine (impl_least.calls x0_1 t241 _ ?side1 A5.out).mono ?_);(case side1=>exact TabW.below HT.out (zQ HB.out));rintro e w' ⟨rfl,⟨nd,rfl⟩⟩;refine ⟨_,rfl,?_⟩) | ((with_reducible refine gate_builtin (b:=.append) (xs:=#[.tmp 11,.tmp 14]) rfl ?_);at_builtin;refine Kd.R_append (Kd.int .i64) (w0:=w) w.heap.size rfl (.tmp 11) (.tmp 14) 24 2 (.int .i64 0) 8 rfl Tryz.underlying24 info2 rfl (by decide) (by omega) u3 x3_1 t241 [.int .i64 t241] (fun _=>True) (fun _=>False) rfl rfl ?aP (fun _ hk=>hk.elim) ?aF ?aO ?aB ?aS ?aL ?_;(case aP=>exact rfl);(case aB=>exact (zQ HB.out));(case aF=>exact (fun _ _=>trivial));(case aO=>exact (zP HO_3.out));(case aS=>exact (kP (zQ HB.out)));(case aL=>have:=LMc6.out;omega);intro v243 w7 ho hb hg hat;rw [← Ny242.out] at ho;replace HB:=zA (hb);have HO244:=zA (ho);clear HO_3;clear ho hb hg hat))
    go_roundg k1
    case measure=>have:=HK1.out;omega
    case rel=>exact ⟨(Go.bits .and .i64 x0_1 (wrap64 (x0_1 - 1))),(y242),zs,H', ⟨by have:=HK1.out;omega⟩,⟨zP HO244.out⟩,⟨zQ HB.out⟩⟩
   rw [if_neg c6] at H
   exact absurd H (by simp)
mutual
def impl_converse.l0:Nat → List Int → List Int → Int → Int → Option (List Int)
 | 0,_,_,_,_=>none
 | k + 1,x3,x11,x12,x13=>if x13 < x12 then (if 0 ≤ x13 then (if x13 < (x11.length:Int) then ((impl_members.f k (rd x11 x13)).bind fun t249=>(impl_converse.l1 k x3 x13 x11 x12 x13 t249 (t249.length:Int) 0)) else (none)) else (none)) else (some x3)
def impl_converse.l1:Nat → List Int → Int → List Int → Int → Int → List Int → Int → Int → Option (List Int)
 | 0,_,_,_,_,_,_,_,_=>none
 | k + 1,x3,x4,x11,x12,x13,x19,x20,x21=>if x21 < x20 then (if 0 ≤ x21 then (if x21 < (x19.length:Int) then (if 0 ≤ (rd x19 x21) then (if (rd x19 x21) < (x3.length:Int) then ((impl_one.f x4).bind fun t254=>(impl_converse.l1 k (x3.set ((rd x19 x21):Int).toNat (Go.bits .or .i64 (rd x3 (rd x19 x21)) t254)) x4 x11 x12 x13 x19 x20 (wrap64 (x21 + 1)))) else (none)) else (none)) else (none)) else (none)) else (impl_converse.l0 k x3 x11 x12 (wrap64 (x13 + 1)))
end
def impl_converse.f (k:Nat) (l0:List Int):Option (List Int):=if 0 ≤ (l0.length:Int) then (if ((l0.length:Int):Int).toNat ≤ 35184372088832 then (impl_converse.l0 k (List.replicate ((l0.length:Int):Int).toNat 0) l0 (l0.length:Int) 0) else (none)) else (none)
def impl_converse.T8:Bool × List (List Nat × List Nat):=(true,[([],[]),([],[]),([0,1],[0,1]),([2],[2]),([],[]),([4],[4]),([3,5],[3,5]),([0,1,0,1,2,3,4,5,6],[0,1]),([7,6,5,0,1,2,3,4,5,6],[6,7])])
def impl_converse.B8:List Nat:=[0,0,3,7,0,16,63,127,255]
theorem impl_converse.tab8:rtab .any (opsOf Tryz.f53 8) = impl_converse.T8:=by kernel_rfl
theorem impl_converse.bits8:waitsOk impl_converse.T8.2 impl_converse.B8 = true:=by kernel_rfl
set_option maxHeartbeats 8000000 in
set_option maxRecDepth 100000 in
theorem impl_converse.calls (k : Nat) (A0 : Option Addr) (c0 : Nat) (l0 : List Int) (r : List Int) (w : World) (hr0 : Kd.C (Kd.int .i64) w A0 l0.length l0) (hc0 : l0.length ≤ c0) (hT : TabW w) (h : impl_converse.f k l0 = some r) :
  Calls Tryz.prog 53 #[.slice A0 l0.length c0] w fun e w' => ∃ v0_:Value,e = .returned (v0_) ∧ Kd.R (Kd.int .i64) 2 w' w.heap.size (fun _=>True) v0_ r ∧ Below w.heap.size w w' := by
 have HT:=zA hT
 clear hT
 have HR0:=zA hr0
 have HC0:=zA hc0
 clear hr0 hc0
 have HB:=zA (kW w.heap.size w)
 have H:=h
 unfold impl_converse.f at H
 clear h
 by_cases c2:0 ≤ (l0.length:Int)
 ·rw [if_pos c2] at H
  have c2b0:=eq_true c2
  have c2b1:decide (0 ≤ (l0.length:Int)) = true:=decide_eq_true c2
  clear c2
  by_cases c3:((l0.length:Int):Int).toNat ≤ 35184372088832
  ·rw [if_pos c3] at H
   have c3b0:=eq_true c3
   have c3b1:decide (((l0.length:Int):Int).toNat ≤ 35184372088832) = true:=decide_eq_true c3
   clear c3
   obtain ⟨y245,hy245⟩:∃ y_:List Int,y_ = (List.replicate ((l0.length:Int):Int).toNat 0):=⟨_,rfl⟩
   replace H:(impl_converse.l0 k y245 l0 (l0.length:Int) 0) = some r:=zy hy245 H
   have Ny245:=zA hy245
   clear hy245
   have H' := zA H
   clear H
   go_enter Tryz.func53,Tryz.ntmps53
   go_wp2_with (first | ((with_reducible refine kS (N:=10) rfl ?_);refine Kd.R_make (Kd.int .i64) _ 2 rfl (N:=10) rfl 24 _ _ rfl (l0.length:Int) rfl rfl Tryz.underlying24 (.int .i64 0) 8 info2 rfl (by decide) (by omega) 0 (ok:=fun _=>True) (okp:=fun _=>True) rfl (fun _ hk=>hk) trivial (zd) (Nat.le_trans (Nat.mul_le_mul_right _ (zd:(l0.length:Int).toNat ≤ 35184372088832)) (by omega)) (kW _ _) (Nat.le_refl _) ?_;intro v246 w4 ho5 hb hg_ hnew_;clear hg_ hnew_;(first | rw [← Ny245.out] at ho5 | (simp only [Int.reduceToNat] at ho5;rw [← Ny245.out] at ho5));have HO247:=zA (kI ho5 (kP (zQ HB.out)));replace HB:=zA (kQ (zQ HB.out) hb);clear hb ho5))
   go_loopg [13] k (fun kq v13 w' => ∃ (x3_1:List Int) (x13_1:Int),v13 = .int .i64 x13_1 ∧ Aside0 (impl_converse.l0 kq x3_1 l0 (l0.length:Int) x13_1 = some r) ∧ Aside0 (kq ≤ k) ∧ Aside0 (Kd.R (Kd.int .i64) 2 w' w.heap.size (fun _=>True) v246 x3_1) ∧ Aside0 (Below w.heap.size w w'))
   case atStart=>exact ⟨(y245),(0),zs,H', ⟨Nat.le_refl _⟩,⟨zP HO247.out⟩,⟨zQ HB.out⟩⟩
   case round =>
    clear H'
    try clear c2
    try clear c3
    try clear c5
    obtain ⟨x3_1,x13_1,rfl,HA,HK1,HO_3,HB⟩:=hrel
    cases gk with
    | zero=>exact absurd HA.out (by simp [impl_converse.l0])
    | succ k1 =>
     have H:=HA.out
     clear HA
     simp only [impl_converse.l0] at H
     by_cases c6:x13_1 < (l0.length:Int)
     ·rw [if_pos c6] at H
      have c6b0:decide (x13_1 < (l0.length:Int)) = true:=decide_eq_true c6
      clear c6
      by_cases c7:0 ≤ x13_1
      ·rw [if_pos c7] at H
       have c7b0:decide (0 ≤ x13_1) = true:=decide_eq_true c7
       clear c7
       by_cases c8:x13_1 < (l0.length:Int)
       ·rw [if_pos c8] at H
        have c8b0:decide (x13_1 < (l0.length:Int)) = true:=decide_eq_true c8
        clear c8
        obtain ⟨t249,A9,H⟩:=zb H
        try dsimp only at H
        have H' := zA H
        clear H
        have p248:0 ≤ (x13_1:Int):=zd
        have q248:x13_1 < (l0.length:Int):=zd
        obtain ⟨ad248,e248,hx248_0⟩:=Kd.at_int HR0.out x13_1 p248 q248
        cases e248
        replace hx248_0:=(HB.out.cell (jG w _ hx248_0)).trans hx248_0
        replace p248:=eq_true p248
        replace q248:=eq_true q248
        go_wp2_with (first | (refine zO (some 19) Tryz.func43 #[.int .i64 (rd l0 x13_1)] ?_;(with_reducible refine (impl_members.calls k1 (rd l0 x13_1) t249 _ ?side1 A9.out).mono ?_);(case side1=>exact TabW.below HT.out (zQ HB.out));rintro e w10 ⟨v250,rfl,ho0,hb⟩;refine ⟨_,rfl,?_⟩;have HO251:=zA (kI (kF ho0 (kH (zP HO_3.out))) (kP (zQ HB.out)));replace HO_3:=zA (kE (zP HO_3.out) (kC ho0) hb);replace HB:=zA (kQ (zQ HB.out) hb);(try clear hb);(try clear ho0);obtain ⟨Ao11,co11,eo11⟩:=kM HO251.out;subst eo11))
        go_loopg [21] k1 (fun kq v21 w' => ∃ (x3_2:List Int) (x21_2:Int),v21 = .int .i64 x21_2 ∧ Aside0 (impl_converse.l1 kq x3_2 x13_1 l0 (l0.length:Int) x13_1 t249 (t249.length:Int) x21_2 = some r) ∧ Aside0 (kq ≤ k1) ∧ Aside0 (Kd.R (Kd.int .i64) 2 w' w.heap.size (fun k_=>some k_ ≠ ((.slice Ao11 t249.length co11):Value).ownBlock) v246 x3_2) ∧ Aside0 (Kd.R (Kd.int .i64) 2 w' w.heap.size (fun k_=>some k_ ≠ (v246:Value).ownBlock) (.slice Ao11 t249.length co11) t249) ∧ Aside0 (Below w.heap.size w w'))
        case atStart=>exact ⟨(x3_1),(0),zs,H', ⟨Nat.le_refl _⟩,⟨zPM HO_3.out (fun _ hk=>hk.2)⟩,⟨zPM HO251.out (fun _ hk=>hk.2)⟩,⟨zQ HB.out⟩⟩
        case round =>
         clear H'
         try clear c2
         try clear hx2
         try clear c3
         try clear c4
         try clear c5
         try clear c6
         try clear c7
         try clear c8
         try clear hx248_0
         obtain ⟨x3_2,x21_2,rfl,HA,HK2,HO_3,HO_19,HB⟩:=hrel
         cases gk with
         | zero=>exact absurd HA.out (by simp [impl_converse.l1])
         | succ k2 =>
          have H:=HA.out
          clear HA
          simp only [impl_converse.l1] at H
          by_cases c12:x21_2 < (t249.length:Int)
          ·rw [if_pos c12] at H
           have c12b0:decide (x21_2 < (t249.length:Int)) = true:=decide_eq_true c12
           clear c12
           by_cases c13:0 ≤ x21_2
           ·rw [if_pos c13] at H
            have c13b0:decide (0 ≤ x21_2) = true:=decide_eq_true c13
            clear c13
            by_cases c14:x21_2 < (t249.length:Int)
            ·rw [if_pos c14] at H
             have c14b0:decide (x21_2 < (t249.length:Int)) = true:=decide_eq_true c14
             clear c14
             by_cases c15:0 ≤ (rd t249 x21_2)
             ·rw [if_pos c15] at H
              have c15b0:decide (0 ≤ (rd t249 x21_2)) = true:=decide_eq_true c15
              clear c15
              by_cases c16:(rd t249 x21_2) < (x3_2.length:Int)
              ·rw [if_pos c16] at H
               have c16b0:decide ((rd t249 x21_2) < (x3_2.length:Int)) = true:=decide_eq_true c16
               clear c16
               obtain ⟨t254,A17,H⟩:=zb H
               try dsimp only at H
               obtain ⟨y255,hy255⟩:∃ y_:List Int,y_ = (x3_2.set ((rd t249 x21_2):Int).toNat (Go.bits .or .i64 (rd x3_2 (rd t249 x21_2)) t254)):=⟨_,rfl⟩
               replace H:(impl_converse.l1 k2 y255 x13_1 l0 (l0.length:Int) x13_1 t249 (t249.length:Int) (wrap64 (x21_2 + 1))) = some r:=zy hy255 H
               have Ny255:=zA hy255
               clear hy255
               have H' := zA H
               clear H
               have p252:0 ≤ (x21_2:Int):=zd
               have q252:x21_2 < (t249.length:Int):=zd
               obtain ⟨ad252,e252,hx252_0⟩:=Kd.at_int (kB HO_19.out).2.2 x21_2 p252 q252
               cases e252
               replace p252:=eq_true p252
               replace q252:=eq_true q252
               try go_wp2
               replace HO_3:=zA (zH HO_3.out)
               replace HO_19:=zA (zH HO_19.out)
               replace HB:=zA (zD HB.out)
               obtain ⟨Ao20,co20,eo20⟩:=kM HO_3.out
               (first | subst eo20 | (injection eo20 with f1_ f2_ f3_;have f4_:=f1_.symm;have f5_:=f3_.symm;clear f1_ f2_ f3_;subst f4_;subst f5_))
               have p253:0 ≤ ((rd t249 x21_2):Int):=zd
               have q253:(rd t249 x21_2) < (x3_2.length:Int):=zd
               obtain ⟨ad253,e253,hx253_0⟩:=Kd.at_int (kB HO_3.out).2.2 (rd t249 x21_2) p253 q253
               cases e253
               replace p253:=eq_true p253
               replace q253:=eq_true q253
               refine start_ (n:=9) (S:=fun w' => w'.cell? (ad253.add ((rd t249 x21_2)).toNat) = some (.int .i64 (rd x3_2 (rd t249 x21_2)))) (ds:=[8]) #[false,false,false,false,false,false,false,false,false] (by kernel_rfl) rfl rfl (hx253_0) (fun hHeld=>?_);refine with_tabW impl_converse.tab8 impl_converse.bits8 (fun HT_ HW_=>?_)
               generalize wr.drew = w19 at HO_3 HO_19 HB hx253_0 hHeld ⊢
               refine zp 0 (some 25) #[true,false,false,false,false,false,false,false,false] HT_.out ?_
               refine zp 1 (some 26) #[true,true,false,false,false,false,false,false,false] HT_.out ?_
               refine zp 2 (some 27) #[true,true,true,false,false,false,false,false,false] HT_.out ?_
               refine zp 4 (some 29) #[true,true,true,false,true,false,false,false,false] HT_.out ?_
               refine za 3 (some 28) #[true,true,true,true,true,false,false,false,false] HT_.out HW_.out hHeld ?_
               refine one_ (i:=5) (N:=some 30) #[true,true,true,true,true,true,false,false,false] rfl rfl (one_of HT_.out (by kernel_rfl)) (by decide) (fun K hK=>?_)
               refine goes_ Tryz.func55 (by kernel_rfl) rfl #[.int .i64 x13_1] (by rfl) rfl rfl zg ?_
               with_reducible refine (impl_one.calls x13_1 t254 _ A17.out).mono ?_
               rintro e w' ⟨rfl,⟨nd,rfl⟩⟩
               refine ⟨_,rfl,?_⟩
               have p18:0 ≤ ((rd t249 x21_2):Int):=zd
               have q18:((rd t249 x21_2):Int) < ((x3_2.length:Int):Int):=zd
               obtain ⟨go18,co18,eo18,gb18,gl18,cl18,HG18⟩:=Kd.R_form HO_3.out (by omega)
               (first | cases eo18 | (injection eo18 with ea_ en_ ec_;(first | subst ea_ | (injection ea_ with ea_;subst ea_));subst ec_;clear en_))
               have GB18:=zA gb18
               have GG18:=zA HG18
               clear gb18 gl18 HG18
               (first | simp only [add_plain] at hx253_0 | skip)
               obtain ⟨hx18_0,hf18_0⟩:=Kd.R_celln 0 HO_3.out ((rd t249 x21_2):Int) p18 q18
               replace p18:=eq_true p18
               replace q18:=eq_true q18
               have HP21:=Kd.R_putn HO_3.out ((rd t249 x21_2):Int) (Go.bits .or .i64 (rd x3_2 (rd t249 x21_2)) t254)
               rw [← Ny255.out] at HP21
               have HQ21:=zA HP21
               clear HP21
               refine hK.out _ _ (hHeld) (fun hHeld=>?_)
               clear hK K
               refine norm_ (a' := ?_) ?_ ?_
               rotate_left
               ·show Act.put _ (some 30) _ = _
                simp only [Act.put,zL,zM,zN,i64_w,i32_w]
                rfl
               refine zp 6 (some 31) #[true,true,true,true,true,true,true,false,false] HT_.out ?_
               refine zp 7 (some 32) #[true,true,true,true,true,true,true,true,false] HT_.out ?_
               refine last_ (i:=8) (N:=none) #[true,true,true,true,true,true,true,true,true] rfl rfl (one_of HT_.out (by kernel_rfl)) (by decide) (fun K hK=>?_)
               refine skip_ (w1:=?_) (by rfl) rfl ?_ ?_
               rotate_left
               ·go_simp
                rfl
               refine hK.out _ _ ?_
               clear hK K
               refine done_ (done_of HT_.out (by kernel_rfl)) ?_
               try go_wp2
               go_roundg k2
               case measure=>have:=HK1.out;have:=HK2.out;omega
               case rel=>exact ⟨(y255),(wrap64 (x21_2 + 1)),zs,H', ⟨by have:=HK1.out;have:=HK2.out;omega⟩,⟨zP HQ21.out⟩,⟨by (with_reducible repeat (first | apply zF | apply zG | apply zH));exact kA (kY (p:=⟨go18,((rd t249 x21_2):Int).toNat,none⟩) (kA HO_19.out (fun k_ hk=>(⟨hk,fun e_=>hk (by rw [e_];rfl)⟩:_ ∧ k_ ≠ go18))) (fun _ hk=>hk.2) (.int .i64 (Go.bits .or .i64 (rd x3_2 (rd t249 x21_2)) t254))) (fun _ hk=>hk.1)⟩,⟨zT HB.out GB18.out⟩⟩
              rw [if_neg c16] at H
              exact absurd H (by simp)
             rw [if_neg c15] at H
             exact absurd H (by simp)
            rw [if_neg c14] at H
            exact absurd H (by simp)
           rw [if_neg c13] at H
           exact absurd H (by simp)
          rw [if_neg c12] at H
          have c12b0:decide (x21_2 < (t249.length:Int)) = false:=decide_eq_false c12
          clear c12
          have H' := zA H
          clear H
          go_wp2
          go_roundg k2
          case measure=>have:=HK1.out;have:=HK2.out;omega
          case rel=>exact ⟨(x3_2),(wrap64 (x13_1 + 1)),zs,H', ⟨by have:=HK1.out;have:=HK2.out;omega⟩,⟨zPM HO_3.out (fun _ hk=>trivial)⟩,⟨zQ HB.out⟩⟩
       rw [if_neg c8] at H
       exact absurd H (by simp)
      rw [if_neg c7] at H
      exact absurd H (by simp)
     rw [if_neg c6] at H
     have c6b0:decide (x13_1 < (l0.length:Int)) = false:=decide_eq_false c6
     clear c6
     obtain rfl:=Option.some.inj H
     go_wp2
     go_ret
     exact ⟨_,zr,zP HO_3.out,zQ HB.out⟩
  rw [if_neg c3] at H
  exact absurd H (by simp)
 rw [if_neg c2] at H
 exact absurd H (by simp)
def impl_has.f (a0:Int) (a1:Int):Option (Bool):=if 0 ≤ a1 then (some ((Go.bits .and .i64 (shr .i64 a0 a1) 1) == 1)) else (none)
set_option maxHeartbeats 8000000 in
set_option maxRecDepth 100000 in
theorem impl_has.calls (a0 : Int) (a1 : Int) (r : Bool) (w : World) (h : impl_has.f a0 a1 = some r) :
  Calls Tryz.prog 54 #[.int .i64 a0,.int .i64 a1] w fun e w' => e = .returned (.bool r) ∧ Drawn0 w w' := by
 have H:=h
 unfold impl_has.f at H
 clear h
 by_cases c3:0 ≤ a1
 ·rw [if_pos c3] at H
  have c3b0:=eq_true c3
  have c3b1:decide (0 ≤ a1) = true:=decide_eq_true c3
  clear c3
  obtain ⟨ji4,hji4⟩:∃ j_:Int,(shr .i64 a0 a1) = j_:=⟨_,rfl⟩
  replace H:(some ((Go.bits .and .i64 (ji4) 1) == 1)) = some r:=by first | (rw [hji4] at H;exact H) | (simp only [hji4] at H ⊢;exact H)
  have hji4_:(a0 / 2 ^ min a1.toNat 64) = ji4:=hji4
  have hji4z:a1 ≤ 64 → (a0 / 2 ^ a1.toNat) = ji4:=shr_small hji4
  obtain rfl:=Option.some.inj H
  go_enter Tryz.func54,Tryz.ntmps54
  go_wp2
  go_ret
  exact ⟨by first | rfl | (simp;done) | (simp only [← hji4] <;> (first | rfl | simp)) | (simp [*];done),by repeat (first | exact Drawn0.refl _ | apply Drawn0.step)⟩
 rw [if_neg c3] at H
 exact absurd H (by simp)
mutual
def impl_IsAlphabet.j0:Nat → Bool → Int → List Int → Option (Bool)
 | 0,_,_,_=>none
 | k + 1,x22,x257000,x257001=>if x22 = true then (some false) else ((impl_converse.f k x257001).bind fun t260=>(impl_IsAlphabet.l0 k t260 (t260.length:Int) 0 x257000 x257001))
def impl_IsAlphabet.l0:Nat → List Int → Int → Int → Int → List Int → Option (Bool)
 | 0,_,_,_,_,_=>none
 | k + 1,x25,x26,x27,x257000,x257001=>if x27 < x26 then (if 0 ≤ x27 then (if x27 < (x25.length:Int) then (if x27 < (x257001.length:Int) then (if (rd x25 x27) = (rd x257001 x27) then ((impl_has.f (rd x25 x27) x27).bind fun t265=>(if t265 = true then (impl_IsAlphabet.l0 k x25 x26 (wrap64 (x27 + 1)) x257000 x257001) else (some false))) else (some false)) else (none)) else (none)) else (none)) else (some true)
end
def impl_IsAlphabet.f (k:Nat) (a0_0:Int) (l0_1:List Int):Option (Bool):=(impl_inRange.f a0_0 0 8).bind fun t257=>(if t257 = true then ((impl_length_int64.f l0_1).bind fun t258=>(if t258 = a0_0 then ((impl_IsRelation.f l0_1).bind fun t259=>(impl_IsAlphabet.j0 k (!t259) a0_0 l0_1)) else (impl_IsAlphabet.j0 k true a0_0 l0_1))) else (impl_IsAlphabet.j0 k true a0_0 l0_1))
def impl_IsAlphabet.T1:Bool × List (List Nat × List Nat):=(true,[([],[]),([0],[0]),([1],[1]),([2],[2]),([3,2],[3]),([4],[4]),([5,4],[4,5]),([6,4,4],[4,6]),([4],[4]),([8,4],[4,8]),([7,9,4],[4,7,9]),([4,10],[4,10]),([11,7],[11]),([12],[12]),([13,12],[12,13]),([14,12,12],[12,14]),([15,12],[12,15]),([12,16],[12,16])])
def impl_IsAlphabet.B1:List Nat:=[0,1,3,7,15,31,63,127,31,287,1023,2047,4095,8191,16383,32767,65535,131071]
theorem impl_IsAlphabet.tab1:rtab .any (opsOf Tryz.f23 1) = impl_IsAlphabet.T1:=by kernel_rfl
theorem impl_IsAlphabet.bits1:waitsOk impl_IsAlphabet.T1.2 impl_IsAlphabet.B1 = true:=by kernel_rfl
set_option maxHeartbeats 8000000 in
set_option maxRecDepth 100000 in
theorem impl_IsAlphabet.calls (k : Nat) (a0_0 : Int) (A0_1 : Option Addr) (c0_1 : Nat) (l0_1 : List Int) (r : Bool) (w : World) (hr0_1 : Kd.C (Kd.int .i64) w A0_1 l0_1.length l0_1) (hc0_1 : l0_1.length ≤ c0_1) (hT : TabW w) (h : impl_IsAlphabet.f k a0_0 l0_1 = some r) :
  Calls Tryz.prog 23 #[.agg #[.int .i64 a0_0,.slice A0_1 l0_1.length c0_1]] w fun e w' => e = .returned (.bool r) ∧ Below w.heap.size w w' := by
 have hu26:=Tryz.underlying26
 have HT:=zA hT
 clear hT
 have HR0_1:=zA hr0_1
 have HC0_1:=zA hc0_1
 clear hr0_1 hc0_1
 have HB:=zA (kW w.heap.size w)
 have H:=h
 unfold impl_IsAlphabet.f at H
 clear h
 have HC2:=zA H
 clear H
 go_enter Tryz.func23,Tryz.ntmps23
 go_upto_region 1 with (first | (refine zBE 1 #[.int .i64 a0_0,.slice A0_1 l0_1.length c0_1] 26 ?_;intro gb256 hg w3 hbox hb;have BK256:=zA (hbox);have GW256:=zA (zBH hg HB.out);have GE256:=zA (zBH hg HB.out);replace HB:=zA (kQ (zQ HB.out) hb);clear hb hbox hg))
 (try simp only [Act.put,zL,zM,zN])
 go_cut [22] (fun v22 wc=>∃ (kq:Nat) (x22_1:Bool),v22 = .bool x22_1 ∧ Aside0 (impl_IsAlphabet.j0 kq x22_1 a0_0 l0_1 = some r) ∧ Aside0 (kq ≤ k) ∧ Aside0 (wc.heap[gb256]? = some (.cells #[.int .i64 a0_0,(.slice A0_1 l0_1.length c0_1)] 26 (0,0))) ∧ Aside0 (Below w.heap.size w wc))
 case first =>
  have H:=HC2.out
  clear HC2
  obtain ⟨t257,A4,H⟩:=zb H
  try dsimp only at H
  by_cases c5:t257 = true
  ·subst c5
   rw [if_pos rfl] at H
   obtain ⟨t258,A6,H⟩:=zb H
   try dsimp only at H
   by_cases c7:t258 = a0_0
   ·rw [if_pos c7] at H
    obtain ⟨c7b0,c7b1⟩:=zT1 c7
    clear c7
    (first | rw [c7b0] | (simp only [i64_w,i32_w];rw [c7b0]) | skip)
    obtain ⟨t259,A8,H⟩:=zb H
    try dsimp only at H
    have H' := zA H
    clear H
    try go_wp2
    replace BK256:=zA (zK BK256.out)
    replace HB:=zA (zD HB.out)
    refine start_ (n:=18) (S:=fun w' => w'.cell? ⟨gb256,0,none⟩ = some (.int .i64 a0_0) ∧ w'.cell? ⟨gb256,1,none⟩ = some (.slice A0_1 l0_1.length c0_1)) (ds:=[]) #[false,false,false,false,false,false,false,false,false,false,false,false,false,false,false,false,false,false] (by kernel_rfl) rfl rfl ⟨(kV BK256.out 0).trans rfl,(kV BK256.out 1).trans rfl⟩ (fun hHeld=>?_);refine with_tabW impl_IsAlphabet.tab1 impl_IsAlphabet.bits1 (fun HT_ HW_=>?_)
    generalize w3.drew = w9 at BK256 HB hHeld ⊢
    refine zp 0 (some 5) #[true,false,false,false,false,false,false,false,false,false,false,false,false,false,false,false,false,false] HT_.out ?_
    refine zc 1 (some 6) #[true,true,false,false,false,false,false,false,false,false,false,false,false,false,false,false,false,false] HT_.out HW_.out hHeld ?_
    refine one_ (i:=2) (N:=some 7) #[true,true,true,false,false,false,false,false,false,false,false,false,false,false,false,false,false,false] rfl rfl (one_of HT_.out (by kernel_rfl)) (by decide) (fun K hK=>?_)
    refine goes_ Tryz.func24 (by kernel_rfl) rfl #[.int .i64 a0_0,.int .i64 0,.int .i64 8] (by rfl) rfl rfl zg ?_
    with_reducible refine (impl_inRange.calls a0_0 0 8 true _ A4.out).mono ?_
    rintro e w' ⟨rfl,⟨nd,rfl⟩⟩
    refine ⟨_,rfl,?_⟩
    refine hK.out _ _ ⟨(kV BK256.out 0).trans rfl,(kV BK256.out 1).trans rfl⟩ (fun hHeld=>?_)
    clear hK K
    refine norm_ (a' := ?_) ?_ ?_
    rotate_left
    ·show Act.put _ (some 7) _ = _
     simp only [Act.put,zL,zM,zN,i64_w,i32_w]
     rfl
    refine zp 3 (some 8) #[true,true,true,true,false,false,false,false,false,false,false,false,false,false,false,false,false,false] HT_.out ?_
    refine zp 4 (some 9) #[true,true,true,true,true,false,false,false,false,false,false,false,false,false,false,false,false,false] HT_.out ?_
    refine zp 5 (some 10) #[true,true,true,true,true,true,false,false,false,false,false,false,false,false,false,false,false,false] HT_.out ?_
    refine zp 8 (some 13) #[true,true,true,true,true,true,false,false,true,false,false,false,false,false,false,false,false,false] HT_.out ?_
    refine zc 6 (some 11) #[true,true,true,true,true,true,true,false,true,false,false,false,false,false,false,false,false,false] HT_.out HW_.out hHeld ?_
    refine zc 9 (some 14) #[true,true,true,true,true,true,true,false,true,true,false,false,false,false,false,false,false,false] HT_.out HW_.out hHeld ?_
    refine one_ (i:=7) (N:=some 12) #[true,true,true,true,true,true,true,true,true,true,false,false,false,false,false,false,false,false] rfl rfl (one_of HT_.out (by kernel_rfl)) (by decide) (fun K hK=>?_)
    refine goes_ Tryz.func31 (by kernel_rfl) rfl #[.slice A0_1 l0_1.length c0_1] (by rfl) rfl rfl zg ?_
    with_reducible refine (impl_length_int64.calls _ _ l0_1 t258 _ ?side1 ?side2 A6.out).mono ?_
    (case side1=>exact zS (kO HR0_1.out (zT HB.out GE256.out)))
    (case side2=>exact HC0_1.out)
    rintro e w' ⟨rfl,⟨nd,rfl⟩⟩
    refine ⟨_,rfl,?_⟩
    refine hK.out _ _ ⟨(kV BK256.out 0).trans rfl,(kV BK256.out 1).trans rfl⟩ (fun hHeld=>?_)
    clear hK K
    refine norm_ (a' := ?_) ?_ ?_
    rotate_left
    ·show Act.put _ (some 12) _ = _
     simp only [Act.put,zL,zM,zN,i64_w,i32_w]
     rfl
    refine zp 10 (some 15) #[true,true,true,true,true,true,true,true,true,true,true,false,false,false,false,false,false,false] HT_.out ?_
    refine zp 11 (some 16) #[true,true,true,true,true,true,true,true,true,true,true,true,false,false,false,false,false,false] HT_.out ?_
    refine zp 12 (some 17) #[true,true,true,true,true,true,true,true,true,true,true,true,true,false,false,false,false,false] HT_.out ?_
    refine zp 13 (some 18) #[true,true,true,true,true,true,true,true,true,true,true,true,true,true,false,false,false,false] HT_.out ?_
    refine zc 14 (some 19) #[true,true,true,true,true,true,true,true,true,true,true,true,true,true,true,false,false,false] HT_.out HW_.out hHeld ?_
    refine one_ (i:=15) (N:=some 20) #[true,true,true,true,true,true,true,true,true,true,true,true,true,true,true,true,false,false] rfl rfl (one_of HT_.out (by kernel_rfl)) (by decide) (fun K hK=>?_)
    refine goes_ Tryz.func52 (by kernel_rfl) rfl #[.slice A0_1 l0_1.length c0_1] (by rfl) rfl rfl zg ?_
    with_reducible refine (impl_IsRelation.calls _ _ l0_1 t259 _ ?side1 ?side2 A8.out).mono ?_
    (case side1=>exact zS (kO HR0_1.out (zT HB.out GE256.out)))
    (case side2=>exact HC0_1.out)
    rintro e w10 ⟨rfl,hb⟩
    refine ⟨_,rfl,?_⟩
    replace BK256:=zA (zB1 BK256.out hb)
    replace HB:=zA (kQ (zT HB.out GE256.out) hb)
    (try clear hb)
    (try clear hb2)
    (try clear hk)
    (try clear hi)
    (try clear hgw)
    refine hK.out _ _ ⟨(kV BK256.out 0).trans rfl,(kV BK256.out 1).trans rfl⟩ (fun hHeld=>?_)
    clear hK K
    refine norm_ (a' := ?_) ?_ ?_
    rotate_left
    ·show Act.put _ (some 20) _ = _
     simp only [Act.put,zL,zM,zN,i64_w,i32_w]
     rfl
    refine zp 16 (some 21) #[true,true,true,true,true,true,true,true,true,true,true,true,true,true,true,true,true,false] HT_.out ?_
    refine zp 17 (some 22) #[true,true,true,true,true,true,true,true,true,true,true,true,true,true,true,true,true,true] HT_.out ?_
    refine done_ (done_of HT_.out (by kernel_rfl)) ?_
    try go_wp2
    go_meet
    case rel=>exact ⟨_,(!t259),zs,H', ⟨by first | omega | exact Nat.le_refl _⟩,⟨zR BK256.out⟩,⟨zT HB.out GE256.out⟩⟩
   rw [if_neg c7] at H
   obtain ⟨c7b0,c7b1⟩:=zT2 c7
   (first | rw [c7b0] | (simp only [i64_w,i32_w];rw [c7b0]) | skip)
   have H' := zA H
   clear H
   try go_wp2
   replace BK256:=zA (zK BK256.out)
   replace HB:=zA (zD HB.out)
   refine start_ (n:=18) (S:=fun w' => w'.cell? ⟨gb256,0,none⟩ = some (.int .i64 a0_0) ∧ w'.cell? ⟨gb256,1,none⟩ = some (.slice A0_1 l0_1.length c0_1)) (ds:=[]) #[false,false,false,false,false,false,false,false,false,false,false,false,false,false,false,false,false,false] (by kernel_rfl) rfl rfl ⟨(kV BK256.out 0).trans rfl,(kV BK256.out 1).trans rfl⟩ (fun hHeld=>?_);refine with_tabW impl_IsAlphabet.tab1 impl_IsAlphabet.bits1 (fun HT_ HW_=>?_)
   generalize w3.drew = w11 at BK256 HB hHeld ⊢
   refine zp 0 (some 5) #[true,false,false,false,false,false,false,false,false,false,false,false,false,false,false,false,false,false] HT_.out ?_
   refine zc 1 (some 6) #[true,true,false,false,false,false,false,false,false,false,false,false,false,false,false,false,false,false] HT_.out HW_.out hHeld ?_
   refine one_ (i:=2) (N:=some 7) #[true,true,true,false,false,false,false,false,false,false,false,false,false,false,false,false,false,false] rfl rfl (one_of HT_.out (by kernel_rfl)) (by decide) (fun K hK=>?_)
   refine goes_ Tryz.func24 (by kernel_rfl) rfl #[.int .i64 a0_0,.int .i64 0,.int .i64 8] (by rfl) rfl rfl zg ?_
   with_reducible refine (impl_inRange.calls a0_0 0 8 true _ A4.out).mono ?_
   rintro e w' ⟨rfl,⟨nd,rfl⟩⟩
   refine ⟨_,rfl,?_⟩
   refine hK.out _ _ ⟨(kV BK256.out 0).trans rfl,(kV BK256.out 1).trans rfl⟩ (fun hHeld=>?_)
   clear hK K
   refine norm_ (a' := ?_) ?_ ?_
   rotate_left
   ·show Act.put _ (some 7) _ = _
    simp only [Act.put,zL,zM,zN,i64_w,i32_w]
    rfl
   refine zp 3 (some 8) #[true,true,true,true,false,false,false,false,false,false,false,false,false,false,false,false,false,false] HT_.out ?_
   refine zp 4 (some 9) #[true,true,true,true,true,false,false,false,false,false,false,false,false,false,false,false,false,false] HT_.out ?_
   refine zp 5 (some 10) #[true,true,true,true,true,true,false,false,false,false,false,false,false,false,false,false,false,false] HT_.out ?_
   refine zp 8 (some 13) #[true,true,true,true,true,true,false,false,true,false,false,false,false,false,false,false,false,false] HT_.out ?_
   refine zc 6 (some 11) #[true,true,true,true,true,true,true,false,true,false,false,false,false,false,false,false,false,false] HT_.out HW_.out hHeld ?_
   refine zc 9 (some 14) #[true,true,true,true,true,true,true,false,true,true,false,false,false,false,false,false,false,false] HT_.out HW_.out hHeld ?_
   refine one_ (i:=7) (N:=some 12) #[true,true,true,true,true,true,true,true,true,true,false,false,false,false,false,false,false,false] rfl rfl (one_of HT_.out (by kernel_rfl)) (by decide) (fun K hK=>?_)
   refine goes_ Tryz.func31 (by kernel_rfl) rfl #[.slice A0_1 l0_1.length c0_1] (by rfl) rfl rfl zg ?_
   with_reducible refine (impl_length_int64.calls _ _ l0_1 t258 _ ?side1 ?side2 A6.out).mono ?_
   (case side1=>exact zS (kO HR0_1.out (zT HB.out GE256.out)))
   (case side2=>exact HC0_1.out)
   rintro e w' ⟨rfl,⟨nd,rfl⟩⟩
   refine ⟨_,rfl,?_⟩
   refine hK.out _ _ ⟨(kV BK256.out 0).trans rfl,(kV BK256.out 1).trans rfl⟩ (fun hHeld=>?_)
   clear hK K
   refine norm_ (a' := ?_) ?_ ?_
   rotate_left
   ·show Act.put _ (some 12) _ = _
    simp only [Act.put,zL,zM,zN,i64_w,i32_w]
    rfl
   refine zp 10 (some 15) #[true,true,true,true,true,true,true,true,true,true,true,false,false,false,false,false,false,false] HT_.out ?_
   refine zp 11 (some 16) #[true,true,true,true,true,true,true,true,true,true,true,true,false,false,false,false,false,false] HT_.out ?_
   refine zp 12 (some 17) #[true,true,true,true,true,true,true,true,true,true,true,true,true,false,false,false,false,false] HT_.out ?_
   refine zu 13 (some 18) #[true,true,true,true,true,true,true,true,true,true,true,true,true,true,false,false,false,false] HT_.out ?_
   refine zu 14 (some 19) #[true,true,true,true,true,true,true,true,true,true,true,true,true,true,true,false,false,false] HT_.out ?_
   refine zu 15 (some 20) #[true,true,true,true,true,true,true,true,true,true,true,true,true,true,true,true,false,false] HT_.out ?_
   refine zu 16 (some 21) #[true,true,true,true,true,true,true,true,true,true,true,true,true,true,true,true,true,false] HT_.out ?_
   refine zp 17 (some 22) #[true,true,true,true,true,true,true,true,true,true,true,true,true,true,true,true,true,true] HT_.out ?_
   refine done_ (done_of HT_.out (by kernel_rfl)) ?_
   try go_wp2
   go_meet
   case rel=>exact ⟨_,(true),zs,H', ⟨by first | omega | exact Nat.le_refl _⟩,⟨zR BK256.out⟩,⟨zT HB.out GE256.out⟩⟩
  replace c5:=Bool.eq_false_iff.mpr c5
  subst c5
  rw [if_neg (show ¬ (false = true) by decide)] at H
  have H' := zA H
  clear H
  try go_wp2
  replace BK256:=zA (zK BK256.out)
  replace HB:=zA (zD HB.out)
  refine start_ (n:=18) (S:=fun w' => w'.cell? ⟨gb256,0,none⟩ = some (.int .i64 a0_0) ∧ w'.cell? ⟨gb256,1,none⟩ = some (.slice A0_1 l0_1.length c0_1)) (ds:=[]) #[false,false,false,false,false,false,false,false,false,false,false,false,false,false,false,false,false,false] (by kernel_rfl) rfl rfl ⟨(kV BK256.out 0).trans rfl,(kV BK256.out 1).trans rfl⟩ (fun hHeld=>?_);refine with_tabW impl_IsAlphabet.tab1 impl_IsAlphabet.bits1 (fun HT_ HW_=>?_)
  generalize w3.drew = w12 at BK256 HB hHeld ⊢
  refine zp 0 (some 5) #[true,false,false,false,false,false,false,false,false,false,false,false,false,false,false,false,false,false] HT_.out ?_
  refine zc 1 (some 6) #[true,true,false,false,false,false,false,false,false,false,false,false,false,false,false,false,false,false] HT_.out HW_.out hHeld ?_
  refine one_ (i:=2) (N:=some 7) #[true,true,true,false,false,false,false,false,false,false,false,false,false,false,false,false,false,false] rfl rfl (one_of HT_.out (by kernel_rfl)) (by decide) (fun K hK=>?_)
  refine goes_ Tryz.func24 (by kernel_rfl) rfl #[.int .i64 a0_0,.int .i64 0,.int .i64 8] (by rfl) rfl rfl zg ?_
  with_reducible refine (impl_inRange.calls a0_0 0 8 false _ A4.out).mono ?_
  rintro e w' ⟨rfl,⟨nd,rfl⟩⟩
  refine ⟨_,rfl,?_⟩
  refine hK.out _ _ ⟨(kV BK256.out 0).trans rfl,(kV BK256.out 1).trans rfl⟩ (fun hHeld=>?_)
  clear hK K
  refine norm_ (a' := ?_) ?_ ?_
  rotate_left
  ·show Act.put _ (some 7) _ = _
   simp only [Act.put,zL,zM,zN,i64_w,i32_w]
   rfl
  refine zp 3 (some 8) #[true,true,true,true,false,false,false,false,false,false,false,false,false,false,false,false,false,false] HT_.out ?_
  refine zp 4 (some 9) #[true,true,true,true,true,false,false,false,false,false,false,false,false,false,false,false,false,false] HT_.out ?_
  refine zu 5 (some 10) #[true,true,true,true,true,true,false,false,false,false,false,false,false,false,false,false,false,false] HT_.out ?_
  refine zu 6 (some 11) #[true,true,true,true,true,true,true,false,false,false,false,false,false,false,false,false,false,false] HT_.out ?_
  refine zu 7 (some 12) #[true,true,true,true,true,true,true,true,false,false,false,false,false,false,false,false,false,false] HT_.out ?_
  refine zu 8 (some 13) #[true,true,true,true,true,true,true,true,true,false,false,false,false,false,false,false,false,false] HT_.out ?_
  refine zu 9 (some 14) #[true,true,true,true,true,true,true,true,true,true,false,false,false,false,false,false,false,false] HT_.out ?_
  refine zu 10 (some 15) #[true,true,true,true,true,true,true,true,true,true,true,false,false,false,false,false,false,false] HT_.out ?_
  refine zp 11 (some 16) #[true,true,true,true,true,true,true,true,true,true,true,true,false,false,false,false,false,false] HT_.out ?_
  refine zp 12 (some 17) #[true,true,true,true,true,true,true,true,true,true,true,true,true,false,false,false,false,false] HT_.out ?_
  refine zu 13 (some 18) #[true,true,true,true,true,true,true,true,true,true,true,true,true,true,false,false,false,false] HT_.out ?_
  refine zu 14 (some 19) #[true,true,true,true,true,true,true,true,true,true,true,true,true,true,true,false,false,false] HT_.out ?_
  refine zu 15 (some 20) #[true,true,true,true,true,true,true,true,true,true,true,true,true,true,true,true,false,false] HT_.out ?_
  refine zu 16 (some 21) #[true,true,true,true,true,true,true,true,true,true,true,true,true,true,true,true,true,false] HT_.out ?_
  refine zp 17 (some 22) #[true,true,true,true,true,true,true,true,true,true,true,true,true,true,true,true,true,true] HT_.out ?_
  refine done_ (done_of HT_.out (by kernel_rfl)) ?_
  try go_wp2
  go_meet
  case rel=>exact ⟨_,(true),zs,H', ⟨by first | omega | exact Nat.le_refl _⟩,⟨zR BK256.out⟩,⟨zT HB.out GE256.out⟩⟩
 case rest =>
  clear HC2
  try clear c2
  try clear c3
  try clear c5
  try clear c7
  obtain ⟨kq,x22_1,rfl,HA,HJ1,BK256,HB⟩:=hcut
  cases kq with
  | zero=>exact absurd HA.out (by simp [impl_IsAlphabet.j0])
  | succ kj1 =>
   have H:=HA.out
   clear HA
   simp only [impl_IsAlphabet.j0] at H
   by_cases c13:x22_1 = true
   ·subst c13
    rw [if_pos rfl] at H
    obtain rfl:=Option.some.inj H
    go_wp2
    go_ret
    exact ⟨zr,zT HB.out GE256.out⟩
   replace c13:=Bool.eq_false_iff.mpr c13
   subst c13
   rw [if_neg (show ¬ (false = true) by decide)] at H
   obtain ⟨t260,A14,H⟩:=zb H
   try dsimp only at H
   have H' := zA H
   clear H
   obtain ⟨hcz15_0,hcz15_1,hfz15_0,hfz15_1⟩:=zB3 BK256.out
   go_wp2_with (first | (refine zO (some 25) Tryz.func53 #[.slice A0_1 l0_1.length c0_1] ?_;(with_reducible refine (impl_converse.calls kj1 _ _ l0_1 t260 _ ?side1 ?side2 ?side3 A14.out).mono ?_);(case side1=>exact zS (kO HR0_1.out HB.out));(case side2=>exact HC0_1.out);(case side3=>exact TabW.below HT.out (zT HB.out GE256.out));rintro e w16 ⟨v261,rfl,ho0,hb⟩;refine ⟨_,rfl,?_⟩;have HO262:=zA (kI ho0 (kP (zT HB.out GE256.out)));replace BK256:=zA (zB1 BK256.out hb);replace HB:=zA (kQ (zT HB.out GE256.out) hb);(try clear hb);(try clear ho0);obtain ⟨Ao17,co17,eo17⟩:=kM HO262.out;subst eo17))
   go_loopg [27] kj1 (fun kq v27 w' => ∃ (x27_2:Int),v27 = .int .i64 x27_2 ∧ Aside0 (impl_IsAlphabet.l0 kq t260 (t260.length:Int) x27_2 a0_0 l0_1 = some r) ∧ Aside0 (kq ≤ kj1) ∧ Aside0 (Kd.R (Kd.int .i64) 2 w' w.heap.size (fun _=>True) (.slice Ao17 t260.length co17) t260) ∧ Aside0 (w'.heap[gb256]? = some (.cells #[.int .i64 a0_0,(.slice A0_1 l0_1.length c0_1)] 26 (0,0))) ∧ Aside0 (Below w.heap.size w w'))
   case atStart=>exact ⟨(0),zs,H', ⟨Nat.le_refl _⟩,⟨zP HO262.out⟩,⟨zR BK256.out⟩,⟨zT HB.out GE256.out⟩⟩
   case round =>
    clear H'
    try clear c1
    try clear c2
    try clear c3
    try clear c5
    try clear c7
    try clear c13
    try clear hcz15_0
    try clear hcz15_1
    try clear hfz15_0
    try clear hfz15_1
    obtain ⟨x27_2,rfl,HA,HK2,HO_25,BK256,HB⟩:=hrel
    cases gk with
    | zero=>exact absurd HA.out (by simp [impl_IsAlphabet.l0])
    | succ k2 =>
     have H:=HA.out
     clear HA
     simp only [impl_IsAlphabet.l0] at H
     by_cases c18:x27_2 < (t260.length:Int)
     ·rw [if_pos c18] at H
      have c18b0:decide (x27_2 < (t260.length:Int)) = true:=decide_eq_true c18
      clear c18
      by_cases c19:0 ≤ x27_2
      ·rw [if_pos c19] at H
       have c19b0:decide (0 ≤ x27_2) = true:=decide_eq_true c19
       clear c19
       by_cases c20:x27_2 < (t260.length:Int)
       ·rw [if_pos c20] at H
        have c20b0:decide (x27_2 < (t260.length:Int)) = true:=decide_eq_true c20
        clear c20
        by_cases c21:x27_2 < (l0_1.length:Int)
        ·rw [if_pos c21] at H
         have c21b0:decide (x27_2 < (l0_1.length:Int)) = true:=decide_eq_true c21
         clear c21
         by_cases c22:(rd t260 x27_2) = (rd l0_1 x27_2)
         ·rw [if_pos c22] at H
          obtain ⟨c22b0,c22b1⟩:=zT1 c22
          clear c22
          obtain ⟨t265,A23,H⟩:=zb H
          try dsimp only at H
          by_cases c24:t265 = true
          ·subst c24
           rw [if_pos rfl] at H
           have H' := zA H
           clear H
           have p263:0 ≤ (x27_2:Int):=zd
           have q263:x27_2 < (t260.length:Int):=zd
           obtain ⟨ad263,e263,hx263_0⟩:=Kd.at_int (kB HO_25.out).2.2 x27_2 p263 q263
           cases e263
           replace p263:=eq_true p263
           replace q263:=eq_true q263
           obtain ⟨hcz25_0,hcz25_1,hfz25_0,hfz25_1⟩:=zB3 BK256.out
           have p264:0 ≤ (x27_2:Int):=zd
           have q264:x27_2 < (l0_1.length:Int):=zd
           obtain ⟨ad264,e264,hx264_0⟩:=Kd.at_int HR0_1.out x27_2 p264 q264
           cases e264
           replace hx264_0:=(HB.out.cell (jG w _ hx264_0)).trans hx264_0
           replace p264:=eq_true p264
           replace q264:=eq_true q264
           go_wp2_with (first | (go_at_call 54;(with_reducible refine (impl_has.calls (rd t260 x27_2) x27_2 true _ A23.out).mono ?_);rintro e w' ⟨rfl,⟨nd,rfl⟩⟩))
           go_roundg k2
           case measure=>have:=HJ1.out;have:=HK2.out;omega
           case rel=>exact ⟨(wrap64 (x27_2 + 1)),zs,H', ⟨by have:=HJ1.out;have:=HK2.out;omega⟩,⟨zP HO_25.out⟩,⟨zR BK256.out⟩,⟨zT HB.out GE256.out⟩⟩
          replace c24:=Bool.eq_false_iff.mpr c24
          subst c24
          rw [if_neg (show ¬ (false = true) by decide)] at H
          obtain rfl:=Option.some.inj H
          have p263:0 ≤ (x27_2:Int):=zd
          have q263:x27_2 < (t260.length:Int):=zd
          obtain ⟨ad263,e263,hx263_0⟩:=Kd.at_int (kB HO_25.out).2.2 x27_2 p263 q263
          cases e263
          replace p263:=eq_true p263
          replace q263:=eq_true q263
          obtain ⟨hcz26_0,hcz26_1,hfz26_0,hfz26_1⟩:=zB3 BK256.out
          have p264:0 ≤ (x27_2:Int):=zd
          have q264:x27_2 < (l0_1.length:Int):=zd
          obtain ⟨ad264,e264,hx264_0⟩:=Kd.at_int HR0_1.out x27_2 p264 q264
          cases e264
          replace hx264_0:=(HB.out.cell (jG w _ hx264_0)).trans hx264_0
          replace p264:=eq_true p264
          replace q264:=eq_true q264
          go_wp2_with (first | (go_at_call 54;(with_reducible refine (impl_has.calls (rd t260 x27_2) x27_2 false _ A23.out).mono ?_);rintro e w' ⟨rfl,⟨nd,rfl⟩⟩))
          go_ret
          exact ⟨zr,zT HB.out GE256.out⟩
         rw [if_neg c22] at H
         obtain ⟨c22b0,c22b1⟩:=zT2 c22
         obtain rfl:=Option.some.inj H
         have p263:0 ≤ (x27_2:Int):=zd
         have q263:x27_2 < (t260.length:Int):=zd
         obtain ⟨ad263,e263,hx263_0⟩:=Kd.at_int (kB HO_25.out).2.2 x27_2 p263 q263
         cases e263
         replace p263:=eq_true p263
         replace q263:=eq_true q263
         obtain ⟨hcz27_0,hcz27_1,hfz27_0,hfz27_1⟩:=zB3 BK256.out
         have p264:0 ≤ (x27_2:Int):=zd
         have q264:x27_2 < (l0_1.length:Int):=zd
         obtain ⟨ad264,e264,hx264_0⟩:=Kd.at_int HR0_1.out x27_2 p264 q264
         cases e264
         replace hx264_0:=(HB.out.cell (jG w _ hx264_0)).trans hx264_0
         replace p264:=eq_true p264
         replace q264:=eq_true q264
         go_wp2
         go_ret
         exact ⟨zr,zT HB.out GE256.out⟩
        rw [if_neg c21] at H
        exact absurd H (by simp)
       rw [if_neg c20] at H
       exact absurd H (by simp)
      rw [if_neg c19] at H
      exact absurd H (by simp)
     rw [if_neg c18] at H
     have c18b0:decide (x27_2 < (t260.length:Int)) = false:=decide_eq_false c18
     clear c18
     obtain rfl:=Option.some.inj H
     go_wp2
     go_ret
     exact ⟨zr,zT HB.out GE256.out⟩
mutual
def impl_inverse.l0:Nat → List Int → Int → List Int → Int → Option (List Int × Int)
 | 0,_,_,_,_=>none
 | k + 1,x0,x1,x6,x7=>if x7 ≤ x1 then (impl_inverse.l1 k x0 x1 x6 x7 0 0 1) else (some (x6,0))
def impl_inverse.j2:Nat → List Int → Int → List Int → Int → Int → Int → Option (List Int × Int)
 | 0,_,_,_,_,_,_=>none
 | k + 1,x0,x1,x6,x7,x8,x9=>if (wrap64 (x8 + (wrap64 (Int.tdiv x9 1000000)))) > 2000000000 then (impl_inverse.j3 k x0 x1 x6 x7 (wrap64 (x8 + (wrap64 (Int.tdiv x9 1000000)))) (Int.tmod x9 1000000) true) else (impl_inverse.j3 k x0 x1 x6 x7 (wrap64 (x8 + (wrap64 (Int.tdiv x9 1000000)))) (Int.tmod x9 1000000) (decide ((wrap64 (x8 + (wrap64 (Int.tdiv x9 1000000)))) < (-2000000000))))
def impl_inverse.j3:Nat → List Int → Int → List Int → Int → Int → Int → Bool → Option (List Int × Int)
 | 0,_,_,_,_,_,_,_=>none
 | k + 1,x0,x1,x6,x7,x8,x9,x68=>if x68 = true then (some (([]:List Int),3)) else ((impl_inRange.f (wrap64 ((wrap64 (x8 * 1000000)) + x9)) (-1000000000000000) 1000000000000000).bind fun t274=>(if t274 = true then (if x6.length < 17592186044416 then (impl_inverse.l0 k x0 x1 (x6 ++ [wrap64 ((wrap64 (x8 * 1000000)) + x9)]) (wrap64 (x7 + 1))) else (none)) else (some (([]:List Int),3))))
def impl_inverse.l1:Nat → List Int → Int → List Int → Int → Int → Int → Int → Option (List Int × Int)
 | 0,_,_,_,_,_,_,_=>none
 | k + 1,x0,x1,x6,x7,x8,x9,x10=>if x10 ≤ x7 then ((impl_length_int64.f x0).bind fun t269=>(if x10 < t269 then (if 0 ≤ x10 then (if x10 < (x0.length:Int) then (if 0 ≤ (wrap64 (x7 - x10)) then (if (wrap64 (x7 - x10)) < (x6.length:Int) then (impl_inverse.l1 k x0 x1 x6 x7 (wrap64 (x8 - (wrap64 ((rd x0 x10) * (wrap64 (Int.tdiv (rd x6 (wrap64 (x7 - x10))) 1000000)))))) (wrap64 (x9 - (wrap64 ((rd x0 x10) * (Int.tmod (rd x6 (wrap64 (x7 - x10))) 1000000))))) (wrap64 (x10 + 1))) else (none)) else (none)) else (none)) else (none)) else (impl_inverse.j2 k x0 x1 x6 x7 x8 x9))) else (impl_inverse.j2 k x0 x1 x6 x7 x8 x9)
end
def impl_inverse.f (k:Nat) (l0:List Int) (a1:Int):Option (List Int × Int):=impl_inverse.l0 k l0 a1 (([1]:List Int)) 1
set_option maxHeartbeats 8000000 in
set_option maxRecDepth 100000 in
theorem impl_inverse.calls (k : Nat) (A0 : Option Addr) (c0 : Nat) (l0 : List Int) (a1 : Int) (r1 : List Int) (r2 : Int) (w : World) (hr0 : Kd.C (Kd.int .i64) w A0 l0.length l0) (hc0 : l0.length ≤ c0) (h : impl_inverse.f k l0 a1 = some (r1, r2)) :
  Calls Tryz.prog 37 #[.slice A0 l0.length c0,.int .i64 a1] w fun e w' => ∃ v0_:Value,e = .returned (.tuple #[v0_,.int .i64 r2]) ∧ Kd.R (Kd.int .i64) 2 w' w.heap.size (fun _=>True) v0_ r1 ∧ Below w.heap.size w w' := by
 have HR0:=zA hr0
 have HC0:=zA hc0
 clear hr0 hc0
 have HB:=zA (kW w.heap.size w)
 have H:=h
 unfold impl_inverse.f at H
 clear h
 obtain ⟨y266,hy266⟩:∃ y_:List Int,y_ = (([1]:List Int)):=⟨_,rfl⟩
 replace H:(impl_inverse.l0 k l0 a1 y266 1) = some (r1,r2):=zy hy266 H
 have Ny266:=zA hy266
 clear hy266
 have H' := zA H
 clear H
 go_enter Tryz.func37,Tryz.ntmps37
 go_wp2_with (first | ((with_reducible refine kS (N:=12) rfl ?_);refine Kd.R_lit (Kd.int .i64) _ 2 ?hg (N:=12) ?hd (xs:=([1]:List Int)) (inner:=[.int .i64 1]) (ok:=fun _=>True) (okp:=fun _=>True) ?hr ?hp (fun _ hk=>hk) trivial (kW _ _) (Nat.le_refl _) (by simp) ?_;(case hd=>rfl);(case hg=>rfl);(case hr=>first | (go_simp;done) | (go_simp;rfl));(case hp=>exact (Reps.one (show Kd.M (Kd.int .i64) _ _ _ 1 [.int .i64 1] from rfl) (Reps.none _ _)));intro v267 w3 ho4 hb hg_ hnew_;clear hg_ hnew_;(first | rw [← Ny266.out] at ho4 | (simp only [Int.reduceToNat] at ho4;rw [← Ny266.out] at ho4));have HO268:=zA (kI ho4 (kP (zQ HB.out)));replace HB:=zA (kQ (zQ HB.out) hb);clear hb ho4))
 repeat (go_quiet (first | ((with_reducible refine kS (N:=12) rfl ?_);refine Kd.R_lit (Kd.int .i64) _ 2 ?hg (N:=12) ?hd (xs:=([1]:List Int)) (inner:=[.int .i64 1]) (ok:=fun _=>True) (okp:=fun _=>True) ?hr ?hp (fun _ hk=>hk) trivial (kW _ _) (Nat.le_refl _) (by simp) ?_;(case hd=>rfl);(case hg=>rfl);(case hr=>first | (go_simp;done) | (go_simp;rfl));(case hp=>exact (Reps.one (show Kd.M (Kd.int .i64) _ _ _ 1 [.int .i64 1] from rfl) (Reps.none _ _)));intro v267 w3 ho4 hb hg_ hnew_;clear hg_ hnew_;(first | rw [← Ny266.out] at ho4 | (simp only [Int.reduceToNat] at ho4;rw [← Ny266.out] at ho4));have n0_:=zA (kI ho4 (kP (zQ HB.out)));have n1_:=zA (kQ (zQ HB.out) hb);clear HB;have HO268:=n0_;have HB:=n1_;clear n0_ n1_;clear hb ho4));try go_wp2_with (first | ((with_reducible refine kS (N:=12) rfl ?_);refine Kd.R_lit (Kd.int .i64) _ 2 ?hg (N:=12) ?hd (xs:=([1]:List Int)) (inner:=[.int .i64 1]) (ok:=fun _=>True) (okp:=fun _=>True) ?hr ?hp (fun _ hk=>hk) trivial (kW _ _) (Nat.le_refl _) (by simp) ?_;(case hd=>rfl);(case hg=>rfl);(case hr=>first | (go_simp;done) | (go_simp;rfl));(case hp=>exact (Reps.one (show Kd.M (Kd.int .i64) _ _ _ 1 [.int .i64 1] from rfl) (Reps.none _ _)));intro v267 w3 ho4 hb hg_ hnew_;clear hg_ hnew_;(first | rw [← Ny266.out] at ho4 | (simp only [Int.reduceToNat] at ho4;rw [← Ny266.out] at ho4));have HO268:=zA (kI ho4 (kP (zQ HB.out)));replace HB:=zA (kQ (zQ HB.out) hb);clear hb ho4)))
 go_loopg [6,7] k (fun kq v6 v7 w' => ∃ (x6_1:List Int) (x7_1:Int),v7 = .int .i64 x7_1 ∧ Aside0 (impl_inverse.l0 kq l0 a1 x6_1 x7_1 = some (r1,r2)) ∧ Aside0 (kq ≤ k) ∧ Aside0 (Kd.R (Kd.int .i64) 2 w' w.heap.size (fun _=>True) v6 x6_1) ∧ Aside0 (Below w.heap.size w w'))
 case atStart=>exact ⟨(y266),(1),zs,H', ⟨Nat.le_refl _⟩,⟨zP HO268.out⟩,⟨zQ HB.out⟩⟩
 case round =>
  clear H'
  try clear c3
  obtain ⟨x6_1,x7_1,rfl,HA,HK1,HO_6,HB⟩:=hrel
  cases gk with
  | zero=>exact absurd HA.out (by simp [impl_inverse.l0])
  | succ k1 =>
   have H:=HA.out
   clear HA
   simp only [impl_inverse.l0] at H
   by_cases c5:x7_1 ≤ a1
   ·rw [if_pos c5] at H
    have c5b0:decide (x7_1 ≤ a1) = true:=decide_eq_true c5
    clear c5
    have HC6:=zA H
    clear H
    go_upto_block 2 with (fail)
    repeat (go_quiet (fail);go_upto_block 2 with (fail))
    go_cut [8,9] (fun v8 v9 wc=>∃ (kq:Nat) (x8_5:Int) (x9_5:Int),v8 = .int .i64 x8_5 ∧ v9 = .int .i64 x9_5 ∧ Aside0 (impl_inverse.j2 kq l0 a1 x6_1 x7_1 x8_5 x9_5 = some (r1,r2)) ∧ Aside0 (kq ≤ k1) ∧ Aside0 (Kd.R (Kd.int .i64) 2 wc w.heap.size (fun _=>True) u6 x6_1) ∧ Aside0 (Below w.heap.size w wc))
    case first =>
     have H:=HC6.out
     clear HC6
     have H' := zA H
     clear H
     go_wp2
     repeat (go_quiet (fail);try go_wp2)
     go_loopg [8,9,10] k1 (fun kq v8 v9 v10 w' => ∃ (x8_2:Int) (x9_2:Int) (x10_2:Int),v8 = .int .i64 x8_2 ∧ v9 = .int .i64 x9_2 ∧ v10 = .int .i64 x10_2 ∧ Aside0 (impl_inverse.l1 kq l0 a1 x6_1 x7_1 x8_2 x9_2 x10_2 = some (r1,r2)) ∧ Aside0 (kq ≤ k1) ∧ Aside0 (Kd.R (Kd.int .i64) 2 w' w.heap.size (fun _=>True) u6 x6_1) ∧ Aside0 (Below w.heap.size w w'))
     case atStart=>exact ⟨(0),(0),(1),zs,zs,zs,H', ⟨Nat.le_refl _⟩,⟨zP HO_6.out⟩,⟨zQ HB.out⟩⟩
     case round =>
      clear H'
      try clear c3
      try clear c5
      obtain ⟨x8_2,x9_2,x10_2,rfl,rfl,rfl,HA,HK2,HO_6,HB⟩:=hrel
      cases gk with
      | zero=>exact absurd HA.out (by simp [impl_inverse.l1])
      | succ k2 =>
       have H:=HA.out
       clear HA
       simp only [impl_inverse.l1] at H
       by_cases c7:x10_2 ≤ x7_1
       ·rw [if_pos c7] at H
        have c7b0:decide (x10_2 ≤ x7_1) = true:=decide_eq_true c7
        clear c7
        (first | rw [c7b0] | (simp only [i64_w,i32_w];rw [c7b0]) | skip)
        obtain ⟨t269,A8,H⟩:=zb H
        try dsimp only at H
        by_cases c9:x10_2 < t269
        ·rw [if_pos c9] at H
         have c9b0:decide (x10_2 < t269) = true:=decide_eq_true c9
         clear c9
         by_cases c10:0 ≤ x10_2
         ·rw [if_pos c10] at H
          have c10b0:decide (0 ≤ x10_2) = true:=decide_eq_true c10
          clear c10
          by_cases c11:x10_2 < (l0.length:Int)
          ·rw [if_pos c11] at H
           have c11b0:decide (x10_2 < (l0.length:Int)) = true:=decide_eq_true c11
           clear c11
           obtain ⟨ji12,hji12⟩:∃ j_:Int,(wrap64 (x7_1 - x10_2)) = j_:=⟨_,rfl⟩
           replace H:(if 0 ≤ (ji12) then (if (ji12) < (x6_1.length:Int) then (impl_inverse.l1 k2 l0 a1 x6_1 x7_1 (wrap64 (x8_2 - (wrap64 ((rd l0 x10_2) * (wrap64 (Int.tdiv (rd x6_1 (ji12)) 1000000)))))) (wrap64 (x9_2 - (wrap64 ((rd l0 x10_2) * (Int.tmod (rd x6_1 (ji12)) 1000000))))) (wrap64 (x10_2 + 1))) else (none)) else (none)) = some (r1,r2):=by first | (rw [hji12] at H;exact H) | (simp only [hji12] at H ⊢;exact H)
           (try rw [hji12] at A8)
           have hji12w:(IntKind.i64.wrap (x7_1 - x10_2)) = ji12:=(i64_w _).trans hji12
           by_cases c13:0 ≤ (ji12)
           ·rw [if_pos c13] at H
            have c13b0:decide (0 ≤ (ji12)) = true:=decide_eq_true c13
            clear c13
            by_cases c14:(ji12) < (x6_1.length:Int)
            ·rw [if_pos c14] at H
             have c14b0:decide ((ji12) < (x6_1.length:Int)) = true:=decide_eq_true c14
             clear c14
             have H' := zA H
             clear H
             go_wp2_with (first | (go_at_call 31;(with_reducible refine (impl_length_int64.calls _ _ l0 t269 _ ?side1 ?side2 A8.out).mono ?_);(case side1=>exact zS (kO HR0.out HB.out));(case side2=>exact HC0.out);rintro e w' ⟨rfl,⟨nd,rfl⟩⟩;(try exact zw);have p270:0 ≤ (x10_2:Int):=zd;have q270:x10_2 < (l0.length:Int):=zd;obtain ⟨ad270,e270,hx270_0⟩:=Kd.at_int HR0.out x10_2 p270 q270;cases e270;replace hx270_0:=(HB.out.cell (jG w _ hx270_0)).trans hx270_0;replace p270:=eq_true p270;replace q270:=eq_true q270;obtain ⟨Ao15,co15,eo15⟩:=kM HO_6.out;subst eo15;have p271:0 ≤ ((ji12):Int):=zd;have q271:(ji12) < (x6_1.length:Int):=zd;obtain ⟨ad271,e271,hx271_0⟩:=Kd.at_int (kB HO_6.out).2.2 (ji12) p271 q271;cases e271;replace p271:=eq_true p271;replace q271:=eq_true q271;have p272:0 ≤ (x10_2:Int):=zd;have q272:x10_2 < (l0.length:Int):=zd;obtain ⟨ad272,e272,hx272_0⟩:=Kd.at_int HR0.out x10_2 p272 q272;obtain rfl:ad270 = ad272:=(by injection e272);replace hx272_0:=(HB.out.cell (jG w _ hx272_0)).trans hx272_0;replace p272:=eq_true p272;replace q272:=eq_true q272;have p273:0 ≤ ((ji12):Int):=zd;have q273:(ji12) < (x6_1.length:Int):=zd;obtain ⟨ad273,e273,hx273_0⟩:=Kd.at_int (kB HO_6.out).2.2 (ji12) p273 q273;obtain rfl:ad271 = ad273:=(by injection e273);replace p273:=eq_true p273;replace q273:=eq_true q273))
             repeat (go_quiet (first | (go_at_call 31;(with_reducible refine (impl_length_int64.calls _ _ l0 t269 _ ?side1 ?side2 A8.out).mono ?_);(case side1=>exact zS (kO HR0.out HB.out));(case side2=>exact HC0.out);rintro e w' ⟨rfl,⟨nd,rfl⟩⟩;(try exact zw);have p270:0 ≤ (x10_2:Int):=zd;have q270:x10_2 < (l0.length:Int):=zd;obtain ⟨ad270,e270,hx270_0⟩:=Kd.at_int HR0.out x10_2 p270 q270;cases e270;replace hx270_0:=(HB.out.cell (jG w _ hx270_0)).trans hx270_0;replace p270:=eq_true p270;replace q270:=eq_true q270;obtain ⟨Ao15,co15,eo15⟩:=kM HO_6.out;subst eo15;have p271:0 ≤ ((ji12):Int):=zd;have q271:(ji12) < (x6_1.length:Int):=zd;obtain ⟨ad271,e271,hx271_0⟩:=Kd.at_int (kB HO_6.out).2.2 (ji12) p271 q271;cases e271;replace p271:=eq_true p271;replace q271:=eq_true q271;have p272:0 ≤ (x10_2:Int):=zd;have q272:x10_2 < (l0.length:Int):=zd;obtain ⟨ad272,e272,hx272_0⟩:=Kd.at_int HR0.out x10_2 p272 q272;obtain rfl:ad270 = ad272:=(by injection e272);replace hx272_0:=(HB.out.cell (jG w _ hx272_0)).trans hx272_0;replace p272:=eq_true p272;replace q272:=eq_true q272;have p273:0 ≤ ((ji12):Int):=zd;have q273:(ji12) < (x6_1.length:Int):=zd;obtain ⟨ad273,e273,hx273_0⟩:=Kd.at_int (kB HO_6.out).2.2 (ji12) p273 q273;obtain rfl:ad271 = ad273:=(by injection e273);replace p273:=eq_true p273;replace q273:=eq_true q273));try go_wp2_with (first | (go_at_call 31;(with_reducible refine (impl_length_int64.calls _ _ l0 t269 _ ?side1 ?side2 A8.out).mono ?_);(case side1=>exact zS (kO HR0.out HB.out));(case side2=>exact HC0.out);rintro e w' ⟨rfl,⟨nd,rfl⟩⟩;(try exact zw);have p270:0 ≤ (x10_2:Int):=zd;have q270:x10_2 < (l0.length:Int):=zd;obtain ⟨ad270,e270,hx270_0⟩:=Kd.at_int HR0.out x10_2 p270 q270;cases e270;replace hx270_0:=(HB.out.cell (jG w _ hx270_0)).trans hx270_0;replace p270:=eq_true p270;replace q270:=eq_true q270;obtain ⟨Ao15,co15,eo15⟩:=kM HO_6.out;subst eo15;have p271:0 ≤ ((ji12):Int):=zd;have q271:(ji12) < (x6_1.length:Int):=zd;obtain ⟨ad271,e271,hx271_0⟩:=Kd.at_int (kB HO_6.out).2.2 (ji12) p271 q271;cases e271;replace p271:=eq_true p271;replace q271:=eq_true q271;have p272:0 ≤ (x10_2:Int):=zd;have q272:x10_2 < (l0.length:Int):=zd;obtain ⟨ad272,e272,hx272_0⟩:=Kd.at_int HR0.out x10_2 p272 q272;obtain rfl:ad270 = ad272:=(by injection e272);replace hx272_0:=(HB.out.cell (jG w _ hx272_0)).trans hx272_0;replace p272:=eq_true p272;replace q272:=eq_true q272;have p273:0 ≤ ((ji12):Int):=zd;have q273:(ji12) < (x6_1.length:Int):=zd;obtain ⟨ad273,e273,hx273_0⟩:=Kd.at_int (kB HO_6.out).2.2 (ji12) p273 q273;obtain rfl:ad271 = ad273:=(by injection e273);replace p273:=eq_true p273;replace q273:=eq_true q273)))
             go_roundg k2
             case measure=>have:=HK1.out;have:=HK2.out;omega
             case rel=>exact ⟨(wrap64 (x8_2 - (wrap64 ((rd l0 x10_2) * (wrap64 (Int.tdiv (rd x6_1 (ji12)) 1000000)))))),(wrap64 (x9_2 - (wrap64 ((rd l0 x10_2) * (Int.tmod (rd x6_1 (ji12)) 1000000))))),(wrap64 (x10_2 + 1)),(by first | rfl | (simp;done) | (simp only [← hji12] <;> (first | rfl | simp)) | (simp [*];done)),(by first | rfl | (simp;done) | (simp only [← hji12] <;> (first | rfl | simp)) | (simp [*];done)),zs,H', ⟨by have:=HK1.out;have:=HK2.out;omega⟩,⟨zP HO_6.out⟩,⟨zQ HB.out⟩⟩
            rw [if_neg c14] at H
            exact absurd H (by simp)
           rw [if_neg c13] at H
           exact absurd H (by simp)
          rw [if_neg c11] at H
          exact absurd H (by simp)
         rw [if_neg c10] at H
         exact absurd H (by simp)
        rw [if_neg c9] at H
        have c9b0:decide (x10_2 < t269) = false:=decide_eq_false c9
        clear c9
        have H' := zA H
        clear H
        go_wp2_with (first | (go_at_call 31;(with_reducible refine (impl_length_int64.calls _ _ l0 t269 _ ?side1 ?side2 A8.out).mono ?_);(case side1=>exact zS (kO HR0.out HB.out));(case side2=>exact HC0.out);rintro e w' ⟨rfl,⟨nd,rfl⟩⟩;(try exact zw)))
        repeat (go_quiet (first | (go_at_call 31;(with_reducible refine (impl_length_int64.calls _ _ l0 t269 _ ?side1 ?side2 A8.out).mono ?_);(case side1=>exact zS (kO HR0.out HB.out));(case side2=>exact HC0.out);rintro e w' ⟨rfl,⟨nd,rfl⟩⟩;(try exact zw)));try go_wp2_with (first | (go_at_call 31;(with_reducible refine (impl_length_int64.calls _ _ l0 t269 _ ?side1 ?side2 A8.out).mono ?_);(case side1=>exact zS (kO HR0.out HB.out));(case side2=>exact HC0.out);rintro e w' ⟨rfl,⟨nd,rfl⟩⟩;(try exact zw))))
        go_meet
        case rel=>exact ⟨_,(x8_2),(x9_2),zs,zs,H', ⟨by have:=HK1.out;have:=HK2.out;first | omega | exact Nat.le_refl _⟩,⟨zP HO_6.out⟩,⟨zQ HB.out⟩⟩
       rw [if_neg c7] at H
       have c7b0:decide (x10_2 ≤ x7_1) = false:=decide_eq_false c7
       clear c7
       (first | rw [c7b0] | (simp only [i64_w,i32_w];rw [c7b0]) | skip)
       have H' := zA H
       clear H
       go_wp2
       repeat (go_quiet (fail);try go_wp2)
       go_meet
       case rel=>exact ⟨_,(x8_2),(x9_2),zs,zs,H', ⟨by have:=HK1.out;have:=HK2.out;first | omega | exact Nat.le_refl _⟩,⟨zP HO_6.out⟩,⟨zQ HB.out⟩⟩
    case rest =>
     clear HC6
     try clear c1
     try clear hx2
     try clear c3
     try clear c5
     try clear c7
     try clear c9
     try clear c10
     try clear c11
     try clear c13
     try clear c14
     try clear hx270_0
     try clear hx271_0
     try clear hx272_0
     try clear hx273_0
     obtain ⟨kq,x8_5,x9_5,rfl,rfl,HA,HJ5,HO_6,HB⟩:=hcut
     cases kq with
     | zero=>exact absurd HA.out (by simp [impl_inverse.j2])
     | succ kj5 =>
      have H:=HA.out
      clear HA
      simp only [impl_inverse.j2] at H
      have HC16:=zA H
      clear H
      go_upto_region 13 with (fail)
      repeat (go_quiet (fail);go_upto_region 13 with (fail))
      go_cut [68] (fun v68 wc=>∃ (kq:Nat) (x68_15:Bool),v68 = .bool x68_15 ∧ Aside0 (impl_inverse.j3 kq l0 a1 x6_1 x7_1 (wrap64 (x8_5 + (wrap64 (Int.tdiv x9_5 1000000)))) (Int.tmod x9_5 1000000) x68_15 = some (r1,r2)) ∧ Aside0 (kq ≤ kj5) ∧ Aside0 (Kd.R (Kd.int .i64) 2 wc w.heap.size (fun _=>True) u6 x6_1) ∧ Aside0 (Below w.heap.size w wc))
      case first =>
       have H:=HC16.out
       clear HC16
       by_cases c17:(wrap64 (x8_5 + (wrap64 (Int.tdiv x9_5 1000000)))) > 2000000000
       ·rw [if_pos c17] at H
        have c17b0:decide (2000000000 < (wrap64 (x8_5 + (wrap64 (Int.tdiv x9_5 1000000))))) = true:=decide_eq_true c17
        clear c17
        (first | rw [c17b0] | (simp only [i64_w,i32_w];rw [c17b0]) | skip)
        have H' := zA H
        clear H
        go_wp2
        repeat (go_quiet (fail);try go_wp2)
        go_meet
        case rel=>exact ⟨_,(true),zs,H', ⟨by have:=HK1.out;have:=HJ5.out;first | omega | exact Nat.le_refl _⟩,⟨zP HO_6.out⟩,⟨zQ HB.out⟩⟩
       rw [if_neg c17] at H
       have c17b0:decide (2000000000 < (wrap64 (x8_5 + (wrap64 (Int.tdiv x9_5 1000000))))) = false:=decide_eq_false c17
       clear c17
       (first | rw [c17b0] | (simp only [i64_w,i32_w];rw [c17b0]) | skip)
       have H' := zA H
       clear H
       go_wp2
       repeat (go_quiet (fail);try go_wp2)
       go_meet
       case rel=>exact ⟨_,(decide ((wrap64 (x8_5 + (wrap64 (Int.tdiv x9_5 1000000)))) < (-2000000000))),zs,H', ⟨by have:=HK1.out;have:=HJ5.out;first | omega | exact Nat.le_refl _⟩,⟨zP HO_6.out⟩,⟨zQ HB.out⟩⟩
      case rest =>
       clear HC16
       try clear c1
       try clear hx2
       try clear c3
       try clear c5
       try clear c7
       try clear c9
       try clear c10
       try clear c11
       try clear c13
       try clear c14
       try clear c17
       try clear hx270_0
       try clear hx271_0
       try clear hx272_0
       try clear hx273_0
       obtain ⟨kq,x68_15,rfl,HA,HJ15,HO_6,HB⟩:=hcut
       cases kq with
       | zero=>exact absurd HA.out (by simp [impl_inverse.j3])
       | succ kj15 =>
        have H:=HA.out
        clear HA
        simp only [impl_inverse.j3] at H
        by_cases c18:x68_15 = true
        ·subst c18
         rw [if_pos rfl] at H
         simp only [Option.some.injEq,Prod.mk.injEq] at H
         obtain ⟨rfl,rfl⟩:=H
         go_wp2
         repeat (go_quiet (fail);try go_wp2)
         go_ret2
         exact ⟨_,zr,zn,zQ HB.out⟩
        replace c18:=Bool.eq_false_iff.mpr c18
        subst c18
        rw [if_neg (show ¬ (false = true) by decide)] at H
        obtain ⟨t274,A19,H⟩:=zb H
        try dsimp only at H
        by_cases c20:t274 = true
        ·subst c20
         rw [if_pos rfl] at H
         by_cases c21:x6_1.length < 17592186044416
         ·rw [if_pos c21] at H
          have LMc21:=zA c21
          clear c21
          obtain ⟨y275,hy275⟩:∃ y_:List Int,y_ = (x6_1 ++ [wrap64 ((wrap64 ((wrap64 (x8_5 + (wrap64 (Int.tdiv x9_5 1000000)))) * 1000000)) + (Int.tmod x9_5 1000000))]):=⟨_,rfl⟩
          replace H:(impl_inverse.l0 kj15 l0 a1 y275 (wrap64 (x7_1 + 1))) = some (r1,r2):=zy hy275 H
          have Ny275:=zA hy275
          clear hy275
          have H' := zA H
          clear H
          go_wp2_with (first | (go_at_call 24;(with_reducible refine (impl_inRange.calls (wrap64 ((wrap64 ((wrap64 (x8_5 + (wrap64 (Int.tdiv x9_5 1000000)))) * 1000000)) + (Int.tmod x9_5 1000000))) (-1000000000000000) 1000000000000000 true _ A19.out).mono ?_);rintro e w' ⟨rfl,⟨nd,rfl⟩⟩;(try exact zw)) | ((with_reducible refine gate_builtin (b:=.append) (xs:=#[.tmp 76,.tmp 78]) rfl ?_);at_builtin;refine Kd.R_append (Kd.int .i64) (w0:=w) w.heap.size rfl (.tmp 76) (.tmp 78) 24 2 (.int .i64 0) 8 rfl Tryz.underlying24 info2 rfl (by decide) (by omega) u6 x6_1 (wrap64 ((wrap64 ((wrap64 (x8_5 + (wrap64 (Int.tdiv x9_5 1000000)))) * 1000000)) + (Int.tmod x9_5 1000000))) [.int .i64 (wrap64 ((wrap64 ((wrap64 (x8_5 + (wrap64 (Int.tdiv x9_5 1000000)))) * 1000000)) + (Int.tmod x9_5 1000000)))] (fun _=>True) (fun _=>False) rfl rfl ?aP (fun _ hk=>hk.elim) ?aF ?aO ?aB ?aS ?aL ?_;(case aP=>exact rfl);(case aB=>exact (zQ HB.out));(case aF=>exact (fun _ _=>trivial));(case aO=>exact (zP HO_6.out));(case aS=>exact (kP (zQ HB.out)));(case aL=>have:=LMc21.out;omega);intro v276 w22 ho hb hg hat;rw [← Ny275.out] at ho;replace HB:=zA (hb);have HO277:=zA (ho);clear HO_6;clear ho hb hg hat))
          repeat (go_quiet (first | (go_at_call 24;(with_reducible refine (impl_inRange.calls (wrap64 ((wrap64 ((wrap64 (x8_5 + (wrap64 (Int.tdiv x9_5 1000000)))) * 1000000)) + (Int.tmod x9_5 1000000))) (-1000000000000000) 1000000000000000 true _ A19.out).mono ?_);rintro e w' ⟨rfl,⟨nd,rfl⟩⟩;(try exact zw)) | ((with_reducible refine gate_builtin (b:=.append) (xs:=#[.tmp 76,.tmp 78]) rfl ?_);at_builtin;refine Kd.R_append (Kd.int .i64) (w0:=w) w.heap.size rfl (.tmp 76) (.tmp 78) 24 2 (.int .i64 0) 8 rfl Tryz.underlying24 info2 rfl (by decide) (by omega) u6 x6_1 (wrap64 ((wrap64 ((wrap64 (x8_5 + (wrap64 (Int.tdiv x9_5 1000000)))) * 1000000)) + (Int.tmod x9_5 1000000))) [.int .i64 (wrap64 ((wrap64 ((wrap64 (x8_5 + (wrap64 (Int.tdiv x9_5 1000000)))) * 1000000)) + (Int.tmod x9_5 1000000)))] (fun _=>True) (fun _=>False) rfl rfl ?aP (fun _ hk=>hk.elim) ?aF ?aO ?aB ?aS ?aL ?_;(case aP=>exact rfl);(case aB=>exact (zQ HB.out));(case aF=>exact (fun _ _=>trivial));(case aO=>exact (zP HO_6.out));(case aS=>exact (kP (zQ HB.out)));(case aL=>have:=LMc21.out;omega);intro v276 w22 ho hb hg hat;rw [← Ny275.out] at ho;have n0_:=zA (hb);have n1_:=zA (ho);clear HB;clear HO_6;have HB:=n0_;have HO277:=n1_;clear n0_ n1_;clear ho hb hg hat));try go_wp2_with (first | (go_at_call 24;(with_reducible refine (impl_inRange.calls (wrap64 ((wrap64 ((wrap64 (x8_5 + (wrap64 (Int.tdiv x9_5 1000000)))) * 1000000)) + (Int.tmod x9_5 1000000))) (-1000000000000000) 1000000000000000 true _ A19.out).mono ?_);rintro e w' ⟨rfl,⟨nd,rfl⟩⟩;(try exact zw)) | ((with_reducible refine gate_builtin (b:=.append) (xs:=#[.tmp 76,.tmp 78]) rfl ?_);at_builtin;refine Kd.R_append (Kd.int .i64) (w0:=w) w.heap.size rfl (.tmp 76) (.tmp 78) 24 2 (.int .i64 0) 8 rfl Tryz.underlying24 info2 rfl (by decide) (by omega) u6 x6_1 (wrap64 ((wrap64 ((wrap64 (x8_5 + (wrap64 (Int.tdiv x9_5 1000000)))) * 1000000)) + (Int.tmod x9_5 1000000))) [.int .i64 (wrap64 ((wrap64 ((wrap64 (x8_5 + (wrap64 (Int.tdiv x9_5 1000000)))) * 1000000)) + (Int.tmod x9_5 1000000)))] (fun _=>True) (fun _=>False) rfl rfl ?aP (fun _ hk=>hk.elim) ?aF ?aO ?aB ?aS ?aL ?_;(case aP=>exact rfl);(case aB=>exact (zQ HB.out));(case aF=>exact (fun _ _=>trivial));(case aO=>exact (zP HO_6.out));(case aS=>exact (kP (zQ HB.out)));(case aL=>have:=LMc21.out;omega);intro v276 w22 ho hb hg hat;rw [← Ny275.out] at ho;replace HB:=zA (hb);have HO277:=zA (ho);clear HO_6;clear ho hb hg hat)))
          go_roundg kj15
          case measure=>have:=HK1.out;have:=HJ5.out;have:=HJ15.out;omega
          case rel=>exact ⟨(y275),(wrap64 (x7_1 + 1)),zs,H', ⟨by have:=HK1.out;have:=HJ5.out;have:=HJ15.out;omega⟩,⟨zP HO277.out⟩,⟨zQ HB.out⟩⟩
         rw [if_neg c21] at H
         exact absurd H (by simp)
        replace c20:=Bool.eq_false_iff.mpr c20
        subst c20
        rw [if_neg (show ¬ (false = true) by decide)] at H
        simp only [Option.some.injEq,Prod.mk.injEq] at H
        obtain ⟨rfl,rfl⟩:=H
        go_wp2_with (first | (go_at_call 24;(with_reducible refine (impl_inRange.calls (wrap64 ((wrap64 ((wrap64 (x8_5 + (wrap64 (Int.tdiv x9_5 1000000)))) * 1000000)) + (Int.tmod x9_5 1000000))) (-1000000000000000) 1000000000000000 false _ A19.out).mono ?_);rintro e w' ⟨rfl,⟨nd,rfl⟩⟩;(try exact zw)))
        repeat (go_quiet (first | (go_at_call 24;(with_reducible refine (impl_inRange.calls (wrap64 ((wrap64 ((wrap64 (x8_5 + (wrap64 (Int.tdiv x9_5 1000000)))) * 1000000)) + (Int.tmod x9_5 1000000))) (-1000000000000000) 1000000000000000 false _ A19.out).mono ?_);rintro e w' ⟨rfl,⟨nd,rfl⟩⟩;(try exact zw)));try go_wp2_with (first | (go_at_call 24;(with_reducible refine (impl_inRange.calls (wrap64 ((wrap64 ((wrap64 (x8_5 + (wrap64 (Int.tdiv x9_5 1000000)))) * 1000000)) + (Int.tmod x9_5 1000000))) (-1000000000000000) 1000000000000000 false _ A19.out).mono ?_);rintro e w' ⟨rfl,⟨nd,rfl⟩⟩;(try exact zw))))
        go_ret2
        exact ⟨_,zr,zn,zQ HB.out⟩
   rw [if_neg c5] at H
   have c5b0:decide (x7_1 ≤ a1) = false:=decide_eq_false c5
   clear c5
   simp only [Option.some.injEq,Prod.mk.injEq] at H
   obtain ⟨rfl,rfl⟩:=H
   go_wp2
   repeat (go_quiet (fail);try go_wp2)
   go_ret2
   exact ⟨_,zr,zP HO_6.out,zQ HB.out⟩
def impl_mutual.l0:Nat → List Int → List Int → Int → Int → Option (List Int)
 | 0,_,_,_,_=>none
 | k + 1,x0,x3,x8,x9=>if x9 < x8 then (if 0 ≤ x9 then (if x9 < (x3.length:Int) then (if x9 < (x0.length:Int) then ((impl_one.f x9).bind fun t283=>(impl_mutual.l0 k x0 (x3.set (x9:Int).toNat (Go.bits .and .i64 (rd x3 x9) (Go.bits .andNot .i64 (rd x0 x9) t283))) x8 (wrap64 (x9 + 1)))) else (none)) else (none)) else (none)) else (some x3)
def impl_mutual.f (k:Nat) (l0:List Int):Option (List Int):=(impl_converse.f k l0).bind fun t278=>(impl_mutual.l0 k l0 t278 (t278.length:Int) 0)
def impl_mutual.T5:Bool × List (List Nat × List Nat):=(true,[([],[]),([],[]),([0,1],[0,1]),([2],[2]),([],[]),([],[]),([4,5],[4,5]),([6],[6]),([],[]),([8],[8]),([7,9],[7,9]),([3,10],[3,10]),([0,1,0,1,2,3,4,5,6,7,8,9,10,11],[0,1]),([12,11,9,0,1,2,3,4,5,6,7,8,9,10,11],[11,12])])
def impl_mutual.B5:List Nat:=[0,0,3,7,0,0,48,112,0,256,1008,2047,4095,8191]
theorem impl_mutual.tab5:rtab .any (opsOf Tryz.f63 5) = impl_mutual.T5:=by kernel_rfl
theorem impl_mutual.bits5:waitsOk impl_mutual.T5.2 impl_mutual.B5 = true:=by kernel_rfl
set_option maxHeartbeats 8000000 in
set_option maxRecDepth 100000 in
theorem impl_mutual.calls (k : Nat) (A0 : Option Addr) (c0 : Nat) (l0 : List Int) (r : List Int) (w : World) (hr0 : Kd.C (Kd.int .i64) w A0 l0.length l0) (hc0 : l0.length ≤ c0) (hT : TabW w) (h : impl_mutual.f k l0 = some r) :
  Calls Tryz.prog 63 #[.slice A0 l0.length c0] w fun e w' => ∃ v0_:Value,e = .returned (v0_) ∧ Kd.R (Kd.int .i64) 2 w' w.heap.size (fun _=>True) v0_ r ∧ Below w.heap.size w w' := by
 have HT:=zA hT
 clear hT
 have HR0:=zA hr0
 have HC0:=zA hc0
 clear hr0 hc0
 have HB:=zA (kW w.heap.size w)
 have H:=h
 unfold impl_mutual.f at H
 clear h
 obtain ⟨t278,A2,H⟩:=zb H
 try dsimp only at H
 have H' := zA H
 clear H
 go_enter Tryz.func63,Tryz.ntmps63
 go_wp2_with (first | (refine zO (some 6) Tryz.func53 #[.slice A0 l0.length c0] ?_;(with_reducible refine (impl_converse.calls k _ _ l0 t278 _ ?side1 ?side2 ?side3 A2.out).mono ?_);(case side1=>exact zS HR0.out);(case side2=>exact HC0.out);(case side3=>exact TabW.below HT.out (zQ HB.out));rintro e w3 ⟨v279,rfl,ho0,hb⟩;refine ⟨_,rfl,?_⟩;have HO280:=zA (kI ho0 (kP (zQ HB.out)));replace HB:=zA (kQ (zQ HB.out) hb);(try clear hb);(try clear ho0);obtain ⟨Ao4,co4,eo4⟩:=kM HO280.out;subst eo4))
 go_loopg [9] k (fun kq v9 w' => ∃ (x3_1:List Int) (x9_1:Int),v9 = .int .i64 x9_1 ∧ Aside0 (impl_mutual.l0 kq l0 x3_1 (t278.length:Int) x9_1 = some r) ∧ Aside0 (kq ≤ k) ∧ Aside0 (Kd.R (Kd.int .i64) 2 w' w.heap.size (fun _=>True) (.slice Ao4 t278.length co4) x3_1) ∧ Aside0 (Below w.heap.size w w'))
 case atStart=>exact ⟨(t278),(0),zs,H', ⟨Nat.le_refl _⟩,⟨zP HO280.out⟩,⟨zQ HB.out⟩⟩
 case round =>
  clear H'
  obtain ⟨x3_1,x9_1,rfl,HA,HK1,HO_3,HB⟩:=hrel
  have hl3_1:=(kB HO_3.out).1
  rw [hl3_1] at HO_3
  (try simp only [hl3_1])
  cases gk with
  | zero=>exact absurd HA.out (by simp [impl_mutual.l0])
  | succ k1 =>
   have H:=HA.out
   clear HA
   simp only [impl_mutual.l0] at H
   by_cases c5:x9_1 < (t278.length:Int)
   ·rw [if_pos c5] at H
    have c5b0:decide (x9_1 < (t278.length:Int)) = true:=decide_eq_true c5
    (try (have c5b0h0_:=c5b0;rw [hl3_1] at c5b0h0_))
    clear c5
    by_cases c6:0 ≤ x9_1
    ·rw [if_pos c6] at H
     have c6b0:decide (0 ≤ x9_1) = true:=decide_eq_true c6
     clear c6
     by_cases c7:x9_1 < (x3_1.length:Int)
     ·rw [if_pos c7] at H
      have c7b0:decide (x9_1 < (x3_1.length:Int)) = true:=decide_eq_true c7
      (try (have c7b0h0_:=c7b0;rw [hl3_1] at c7b0h0_))
      clear c7
      by_cases c8:x9_1 < (l0.length:Int)
      ·rw [if_pos c8] at H
       have c8b0:decide (x9_1 < (l0.length:Int)) = true:=decide_eq_true c8
       (try (have c8b0h0_:=c8b0;rw [hl3_1] at c8b0h0_))
       clear c8
       obtain ⟨t283,A9,H⟩:=zb H
       try dsimp only at H
       obtain ⟨y284,hy284⟩:∃ y_:List Int,y_ = (x3_1.set (x9_1:Int).toNat (Go.bits .and .i64 (rd x3_1 x9_1) (Go.bits .andNot .i64 (rd l0 x9_1) t283))):=⟨_,rfl⟩
       replace H:(impl_mutual.l0 k1 l0 y284 (t278.length:Int) (wrap64 (x9_1 + 1))) = some r:=zy hy284 H
       have Ny284:=zA hy284
       clear hy284
       have H' := zA H
       clear H
       try go_wp2
       replace HO_3:=zA (zH HO_3.out)
       replace HB:=zA (zD HB.out)
       have p281:0 ≤ (x9_1:Int):=zd
       have q281:x9_1 < (x3_1.length:Int):=zd
       obtain ⟨ad281,e281,hx281_0⟩:=Kd.at_int (kB HO_3.out).2.2 x9_1 p281 q281
       cases e281
       replace p281:=eq_true p281
       replace q281:=eq_true q281
       have p282:0 ≤ (x9_1:Int):=zd
       have q282:x9_1 < (l0.length:Int):=zd
       obtain ⟨ad282,e282,hx282_0⟩:=Kd.at_int HR0.out x9_1 p282 q282
       have hw282_0:=hx282_0
       cases e282
       replace hx282_0:=(HB.out.cell (jG w _ hx282_0)).trans hx282_0
       replace p282:=eq_true p282
       replace q282:=eq_true q282
       refine start_ (n:=14) (S:=fun w' => w'.cell? (ad281.add (x9_1).toNat) = some (.int .i64 (rd x3_1 x9_1)) ∧ w'.cell? (ad282.add (x9_1).toNat) = some (.int .i64 (rd l0 x9_1))) (ds:=[13]) #[false,false,false,false,false,false,false,false,false,false,false,false,false,false] (by kernel_rfl) rfl rfl ⟨hx281_0,(pw_cell_below HB.out hw282_0)⟩ (fun hHeld=>?_);refine with_tabW impl_mutual.tab5 impl_mutual.bits5 (fun HT_ HW_=>?_)
       generalize wr.drew = w11 at HO_3 HB hx281_0 hx282_0 hHeld ⊢
       refine zp 0 (some 12) #[true,false,false,false,false,false,false,false,false,false,false,false,false,false] HT_.out ?_
       refine zp 1 (some 13) #[true,true,false,false,false,false,false,false,false,false,false,false,false,false] HT_.out ?_
       refine zp 2 (some 14) #[true,true,true,false,false,false,false,false,false,false,false,false,false,false] HT_.out ?_
       refine zp 4 (some 16) #[true,true,true,false,true,false,false,false,false,false,false,false,false,false] HT_.out ?_
       refine zp 5 (some 17) #[true,true,true,false,true,true,false,false,false,false,false,false,false,false] HT_.out ?_
       refine zp 6 (some 18) #[true,true,true,false,true,true,true,false,false,false,false,false,false,false] HT_.out ?_
       refine zp 8 (some 20) #[true,true,true,false,true,true,true,false,true,false,false,false,false,false] HT_.out ?_
       refine zc 3 (some 15) #[true,true,true,true,true,true,true,false,true,false,false,false,false,false] HT_.out HW_.out hHeld ?_
       refine zc 7 (some 19) #[true,true,true,true,true,true,true,true,true,false,false,false,false,false] HT_.out HW_.out hHeld ?_
       refine one_ (i:=9) (N:=some 21) #[true,true,true,true,true,true,true,true,true,true,false,false,false,false] rfl rfl (one_of HT_.out (by kernel_rfl)) (by decide) (fun K hK=>?_)
       refine goes_ Tryz.func55 (by kernel_rfl) rfl #[.int .i64 x9_1] (by rfl) rfl rfl zg ?_
       with_reducible refine (impl_one.calls x9_1 t283 _ A9.out).mono ?_
       rintro e w' ⟨rfl,⟨nd,rfl⟩⟩
       refine ⟨_,rfl,?_⟩
       have p10:0 ≤ (x9_1:Int):=zd
       have q10:(x9_1:Int) < ((x3_1.length:Int):Int):=zd
       obtain ⟨go10,co10,eo10,gb10,gl10,cl10,HG10⟩:=Kd.R_form HO_3.out (by omega)
       (first | cases eo10 | (injection eo10 with ea_ en_ ec_;(first | subst ea_ | (injection ea_ with ea_;subst ea_));subst ec_;clear en_))
       have GB10:=zA gb10
       have GG10:=zA HG10
       clear gb10 gl10 HG10
       (first | simp only [add_plain] at hx281_0 | skip)
       obtain ⟨hx10_0,hf10_0⟩:=Kd.R_celln 0 HO_3.out (x9_1:Int) p10 q10
       replace p10:=eq_true p10
       replace q10:=eq_true q10
       have HP12:=Kd.R_putn HO_3.out (x9_1:Int) (Go.bits .and .i64 (rd x3_1 x9_1) (Go.bits .andNot .i64 (rd l0 x9_1) t283))
       rw [← Ny284.out] at HP12
       have HQ12:=zA HP12
       clear HP12
       refine hK.out _ _ ⟨hHeld.1,(pw_cell_below HB.out hw282_0)⟩ (fun hHeld=>?_)
       clear hK K
       refine norm_ (a' := ?_) ?_ ?_
       rotate_left
       ·show Act.put _ (some 21) _ = _
        simp only [Act.put,zL,zM,zN,i64_w,i32_w]
        rfl
       refine zp 10 (some 22) #[true,true,true,true,true,true,true,true,true,true,true,false,false,false] HT_.out ?_
       refine zp 11 (some 23) #[true,true,true,true,true,true,true,true,true,true,true,true,false,false] HT_.out ?_
       refine zp 12 (some 24) #[true,true,true,true,true,true,true,true,true,true,true,true,true,false] HT_.out ?_
       refine last_ (i:=13) (N:=none) #[true,true,true,true,true,true,true,true,true,true,true,true,true,true] rfl rfl (one_of HT_.out (by kernel_rfl)) (by decide) (fun K hK=>?_)
       refine skip_ (w1:=?_) (by rfl) rfl ?_ ?_
       rotate_left
       ·go_simp
        rfl
       refine hK.out _ _ ?_
       clear hK K
       refine done_ (done_of HT_.out (by kernel_rfl)) ?_
       try go_wp2
       (try simp only [← hl3_1])
       go_roundg k1
       case measure=>have:=HK1.out;omega
       case rel=>exact ⟨(y284),(wrap64 (x9_1 + 1)),zs,H', ⟨by have:=HK1.out;omega⟩,⟨by (try simp only [hl3_1]);(with_reducible repeat (first | apply zF | apply zG | apply zH));exact HQ12.out⟩,⟨zT HB.out GB10.out⟩⟩
      rw [if_neg c8] at H
      exact absurd H (by simp)
     rw [if_neg c7] at H
     exact absurd H (by simp)
    rw [if_neg c6] at H
    exact absurd H (by simp)
   rw [if_neg c5] at H
   have c5b0:decide (x9_1 < (t278.length:Int)) = false:=decide_eq_false c5
   (try (have c5b0h0_:=c5b0;rw [hl3_1] at c5b0h0_))
   clear c5
   obtain rfl:=Option.some.inj H
   go_wp2
   go_ret
   exact ⟨_,zr,zP HO_3.out,zQ HB.out⟩
end Go.Proofs.YtemdfjdmokbcoaaGreatDoor.PAll
