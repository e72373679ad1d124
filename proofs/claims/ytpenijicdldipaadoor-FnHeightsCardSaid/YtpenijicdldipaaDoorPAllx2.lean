import Derived.Test.YtpenijicdldipaaDoorPAllx0
import Derived.Test.YtpenijicdldipaaDoorPAllx1
namespace Go.Proofs.YtpenijicdldipaaDoor.PAll
open Go.RowKit Go.Proofs.YtpenijicdldipaaDoor.T Go.Proofs.YtpenijicdldipaaDoorW.PrintWords Go.Proofs.YtpenijicdldipaaDoorW.PrintLast Go.Proofs.YtpenijicdldipaaDoorW.PrintMore
attribute [local go_sem] max2_int min2_int max_two min_two max_three min_three max_four min_four   -- for this text's walks alone
set_option linter.unusedVariables false
set_option linter.unusedSimpArgs false
mutual
def spec_LongestChain.l0:Nat → List Int → List (List Int) → List Int → Int → Option (List Int × Int)
 | 0,_,_,_,_=>none
 | k + 1,x7,x9,x10,x11=>if x11 ≥ 0 then (if 0 ≤ x11 then (if x11 < (x9.length:Int) then (spec_LongestChain.l1 k x7 (x9.set (x11:Int).toNat (([x11]:List Int))) x10 x11 (wrap64 (x11 + 1))) else (none)) else (none)) else ((spec_l01Own.f x10).bind fun t192=>(some (t192,0)))
def spec_LongestChain.l1:Nat → List Int → List (List Int) → List Int → Int → Int → Option (List Int × Int)
 | 0,_,_,_,_,_=>none
 | k + 1,x7,x9,x10,x11,x12=>if x12 < (x7.length:Int) then (if 0 ≤ x11 then (if x11 < (x7.length:Int) then ((spec_l01Bit.f (rd x7 x11) x12).bind fun t200=>(if t200 = true then (if 0 ≤ x12 then (if x12 < (x9.length:Int) then (if x11 < (x9.length:Int) then (if (wrap64 (((rd_L1 x9 x12).length:Int) + 1)) > ((rd_L1 x9 x11).length:Int) then ((some (([x11]:List Int):List Int)).bind fun y203=>(if y203.length + (rd_L1 x9 x12).length < 17592186044416 then (spec_LongestChain.l1 k x7 (x9.set (x11:Int).toNat (y203 ++ (rd_L1 x9 x12))) x10 x11 (wrap64 (x12 + 1))) else (none))) else (spec_LongestChain.l1 k x7 x9 x10 x11 (wrap64 (x12 + 1)))) else (none)) else (none)) else (none)) else (spec_LongestChain.l1 k x7 x9 x10 x11 (wrap64 (x12 + 1))))) else (none)) else (none)) else (if 0 ≤ x11 then (if x11 < (x9.length:Int) then (if ((rd_L1 x9 x11).length:Int) ≥ (x10.length:Int) then (spec_LongestChain.l0 k x7 x9 (rd_L1 x9 x11) (wrap64 (x11 - 1))) else (spec_LongestChain.l0 k x7 x9 x10 (wrap64 (x11 - 1)))) else (none)) else (none))
end
def spec_LongestChain.f (k:Nat) (a0_0:Int) (l0_1:List Int) (l1:List Int):Option (List Int × Int):=(spec_l04Code.f k a0_0 l0_1 l1).bind fun bt179=>(if bt179.2.2 = 0 then (if 0 ≤ (bt179.2.1.length:Int) then (if ((bt179.2.1.length:Int):Int).toNat ≤ 11728124029610 then (spec_LongestChain.l0 k bt179.2.1 (List.replicate ((bt179.2.1.length:Int):Int).toNat []) (([]:List Int)) (wrap64 ((bt179.2.1.length:Int) - 1))) else (none)) else (none)) else (some (([]:List Int),bt179.2.2)))
set_option maxHeartbeats 8000000 in
set_option maxRecDepth 100000 in
theorem spec_LongestChain.calls (k:Nat) (a0_0:Int) (A0_1:Option Addr) (c0_1:Nat) (l0_1:List Int) (A1:Option Addr) (c1:Nat) (l1:List Int) (r1:List Int) (r2:Int) (w:World) (hr0_1:Kd.C (Kd.int .i64) w A0_1 l0_1.length l0_1) (hc0_1:l0_1.length ≤ c0_1) (hr1:Kd.C (Kd.int .i64) w A1 l1.length l1) (hc1:l1.length ≤ c1) (h:spec_LongestChain.f k a0_0 l0_1 l1 = some (r1,r2)) :
  Calls Tryd.prog 6 #[.agg #[.int .i64 a0_0,.slice A0_1 l0_1.length c0_1],.slice A1 l1.length c1] w fun e w' => ∃ v0_:Value,e = .returned (.tuple #[v0_,.int .i64 r2]) ∧ Kd.R (Kd.int .i64) 2 w' w.heap.size (fun _=>True) v0_ r1 ∧ Below w.heap.size w w' := by
 have hu28:=Tryd.underlying28
 have HR0_1:=zA hr0_1
 have HC0_1:=zA hc0_1
 clear hr0_1 hc0_1
 have HR1:=zA hr1
 have HC1:=zA hc1
 clear hr1 hc1
 have HB:=zA (kW w.heap.size w)
 have H:=h
 unfold spec_LongestChain.f at H
 clear h
 obtain ⟨⟨t179,t182,t185⟩,A3,H⟩:=zb H
 try dsimp only at H
 by_cases c4:t185 = 0
 ·rw [if_pos c4] at H
  obtain ⟨c4b0,c4b1⟩:=zT1 c4
  clear c4
  by_cases c5:0 ≤ (t182.length:Int)
  ·rw [if_pos c5] at H
   have c5b0:=eq_true c5
   have c5b1:decide (0 ≤ (t182.length:Int)) = true:=decide_eq_true c5
   clear c5
   by_cases c6:((t182.length:Int):Int).toNat ≤ 11728124029610
   ·rw [if_pos c6] at H
    have c6b0:=eq_true c6
    have c6b1:decide (((t182.length:Int):Int).toNat ≤ 11728124029610) = true:=decide_eq_true c6
    clear c6
    obtain ⟨y186,hy186⟩:∃ y_:List (List Int),y_ = (List.replicate ((t182.length:Int):Int).toNat []):=⟨_,rfl⟩
    replace H:(spec_LongestChain.l0 k t182 y186 (([]:List Int)) (wrap64 ((t182.length:Int) - 1))) = some (r1,r2):=zy hy186 H
    have Ny186:=zA hy186
    clear hy186
    obtain ⟨y189,hy189⟩:∃ y_:List Int,y_ = (([]:List Int)):=⟨_,rfl⟩
    replace H:(spec_LongestChain.l0 k t182 y186 y189 (wrap64 ((t182.length:Int) - 1))) = some (r1,r2):=zy hy189 H
    have Ny189:=zA hy189
    clear hy189
    have H' := zA H
    clear H
    go_enter Tryd.func6,Tryd.ntmps6
    go_wp2_with (first | (refine zBE 2 #[.int .i64 a0_0,.slice A0_1 l0_1.length c0_1] 28 ?_;intro gb178 hg w7 hbox hb;have BK178:=zA (hbox);have GW178:=zA (zBH hg HB.out);have GE178:=zA (zBH hg HB.out);replace HB:=zA (kQ (zQ HB.out) hb);clear hb hbox hg;obtain ⟨hcz8_0,hcz8_1,hfz8_0,hfz8_1⟩:=zB3 BK178.out) | (go_at_call 27;(with_reducible refine (spec_l04Code.calls k a0_0 _ _ l0_1 _ _ l1 t179 t182 t185 _ ?side1 ?side2 ?side3 ?side4 A3.out).mono ?_);(case side1=>exact zS (kO HR0_1.out HB.out));(case side2=>exact HC0_1.out);(case side3=>exact zS (kO HR1.out HB.out));(case side4=>exact HC1.out);rintro e w9 ⟨v180,v183,rfl,ho0,ho1,hb⟩;have HO181:=zA (kI ho0 (kP (zT HB.out GE178.out)));have HO184:=zA (kI ho1 (kP (zT HB.out GE178.out)));replace BK178:=zA (zB1 BK178.out hb);replace HB:=zA (kQ (zT HB.out GE178.out) hb);(try clear ho0);(try clear ho1);obtain ⟨Ao10,co10,eo10⟩:=kM HO184.out;subst eo10) | ((with_reducible refine kS (N:=25) rfl ?_);refine Kd.N_make (Kd.slice 2 (Kd.int .i64)) _ 22 rfl (N' := 25) rfl 48 _ _ rfl (t182.length:Int) rfl rfl Tryd.underlying48 (.slice none 0 0) 24 info22 rfl (by decide) (by omega) [] (ok:=fun k_=>w9.heap.size ≤ k_) (okp:=fun _=>False) (Kd.FK_slice_mk (Nat.le_refl _) (Kd.F_nil _ _ _)) (fun _ hk=>hk.elim) (Nat.le_refl _) (zd) (Nat.le_trans (Nat.mul_le_mul_right _ (zd:(t182.length:Int).toNat ≤ 11728124029610)) (by omega)) (kW _ _) (Nat.le_refl _) ?_;intro v187 w11 ho12 hb hg_ hnew_;clear hg_ hnew_;(first | rw [← Ny186.out] at ho12 | (simp only [Int.reduceToNat] at ho12;rw [← Ny186.out] at ho12));have HO188:=zA (jN (Kd.N_mono (ok' := fun k_=>some k_ ≠ (v180:Value).ownBlock ∧ some k_ ≠ (.slice Ao10 t182.length co10:Value).ownBlock ∧ k_ ≠ gb178) ho12 (fun k_ hk_=>⟨(jF (kH (zP HO181.out)) k_ hk_),(jF (kH (zP HO184.out)) k_ hk_),(jE (g:=gb178) (o:=.cells #[.int .i64 a0_0,.slice A0_1 l0_1.length c0_1] 28 (0,0)) (zR BK178.out) k_ hk_)⟩)) (kP (zT HB.out GE178.out)));replace HO181:=zA (kL (zP HO181.out) hb);replace HO184:=zA (kL (zP HO184.out) hb);replace BK178:=zA (zB1 BK178.out hb);replace HB:=zA (kQ (zT HB.out GE178.out) hb);clear hb ho12) | ((with_reducible refine kS (N:=26) rfl ?_);refine Kd.R_lit (Kd.int .i64) _ 2 ?hg (N:=26) ?hd (xs:=([]:List Int)) (inner:=[]) (ok:=fun _=>True) (okp:=fun _=>True) ?hr ?hp (fun _ hk=>hk) trivial (kW _ _) (Nat.le_refl _) (by simp) ?_;(case hd=>rfl);(case hg=>rfl);(case hr=>first | (go_simp;done) | (go_simp;rfl));(case hp=>exact (Reps.none _ _));intro v190 w13 ho14 hb hg_ hnew_;clear hg_ hnew_;(first | rw [← Ny189.out] at ho14 | (simp only [Int.reduceToNat] at ho14;rw [← Ny189.out] at ho14));replace HO188:=zA (Kd.N_elder' (zPN HO188.out) (kC ho14) hb);have HO191:=zA (kI (kF (kF ho14 (kH (zP HO181.out))) (kH (zP HO184.out))) (kP (zT HB.out GE178.out)));replace HO181:=zA (kE (zP HO181.out) (kC ho14) hb);replace HO184:=zA (kE (zP HO184.out) (kC ho14) hb);replace BK178:=zA (zB1 BK178.out hb);replace HB:=zA (kQ (zT HB.out GE178.out) hb);clear hb ho14))
    repeat (go_quiet (first | (refine zBE 2 #[.int .i64 a0_0,.slice A0_1 l0_1.length c0_1] 28 ?_;intro gb178 hg w7 hbox hb;have n0_:=zA (kQ (zQ HB.out) hb);have n1_:=zA (hbox);have n2_:=zA (zBH hg HB.out);have n3_:=zA (zBH hg HB.out);clear HB;have HB:=n0_;have BK178:=n1_;have GW178:=n2_;have GE178:=n3_;clear n0_ n1_ n2_ n3_;clear hb hbox hg;obtain ⟨hcz8_0,hcz8_1,hfz8_0,hfz8_1⟩:=zB3 BK178.out) | (go_at_call 27;(with_reducible refine (spec_l04Code.calls k a0_0 _ _ l0_1 _ _ l1 t179 t182 t185 _ ?side1 ?side2 ?side3 ?side4 A3.out).mono ?_);(case side1=>exact zS (kO HR0_1.out HB.out));(case side2=>exact HC0_1.out);(case side3=>exact zS (kO HR1.out HB.out));(case side4=>exact HC1.out);rintro e w9 ⟨v180,v183,rfl,ho0,ho1,hb⟩;have n0_:=zA (kI ho0 (kP (zT HB.out GE178.out)));have n1_:=zA (kI ho1 (kP (zT HB.out GE178.out)));have n2_:=zA (zB1 BK178.out hb);have n3_:=zA (kQ (zT HB.out GE178.out) hb);clear BK178;clear HB;have HO181:=n0_;have HO184:=n1_;have BK178:=n2_;have HB:=n3_;clear n0_ n1_ n2_ n3_;(try clear ho0);(try clear ho1);obtain ⟨Ao10,co10,eo10⟩:=kM HO184.out;subst eo10) | ((with_reducible refine kS (N:=25) rfl ?_);refine Kd.N_make (Kd.slice 2 (Kd.int .i64)) _ 22 rfl (N' := 25) rfl 48 _ _ rfl (t182.length:Int) rfl rfl Tryd.underlying48 (.slice none 0 0) 24 info22 rfl (by decide) (by omega) [] (ok:=fun k_=>w9.heap.size ≤ k_) (okp:=fun _=>False) (Kd.FK_slice_mk (Nat.le_refl _) (Kd.F_nil _ _ _)) (fun _ hk=>hk.elim) (Nat.le_refl _) (zd) (Nat.le_trans (Nat.mul_le_mul_right _ (zd:(t182.length:Int).toNat ≤ 11728124029610)) (by omega)) (kW _ _) (Nat.le_refl _) ?_;intro v187 w11 ho12 hb hg_ hnew_;clear hg_ hnew_;(first | rw [← Ny186.out] at ho12 | (simp only [Int.reduceToNat] at ho12;rw [← Ny186.out] at ho12));have n0_:=zA (kL (zP HO181.out) hb);have n1_:=zA (kL (zP HO184.out) hb);have n2_:=zA (jN (Kd.N_mono (ok' := fun k_=>some k_ ≠ (v180:Value).ownBlock ∧ some k_ ≠ (.slice Ao10 t182.length co10:Value).ownBlock ∧ k_ ≠ gb178) ho12 (fun k_ hk_=>⟨(jF (kH (zP HO181.out)) k_ hk_),(jF (kH (zP HO184.out)) k_ hk_),(jE (g:=gb178) (o:=.cells #[.int .i64 a0_0,.slice A0_1 l0_1.length c0_1] 28 (0,0)) (zR BK178.out) k_ hk_)⟩)) (kP (zT HB.out GE178.out)));have n3_:=zA (zB1 BK178.out hb);have n4_:=zA (kQ (zT HB.out GE178.out) hb);clear HO181;clear HO184;clear BK178;clear HB;have HO181:=n0_;have HO184:=n1_;have HO188:=n2_;have BK178:=n3_;have HB:=n4_;clear n0_ n1_ n2_ n3_ n4_;clear hb ho12) | ((with_reducible refine kS (N:=26) rfl ?_);refine Kd.R_lit (Kd.int .i64) _ 2 ?hg (N:=26) ?hd (xs:=([]:List Int)) (inner:=[]) (ok:=fun _=>True) (okp:=fun _=>True) ?hr ?hp (fun _ hk=>hk) trivial (kW _ _) (Nat.le_refl _) (by simp) ?_;(case hd=>rfl);(case hg=>rfl);(case hr=>first | (go_simp;done) | (go_simp;rfl));(case hp=>exact (Reps.none _ _));intro v190 w13 ho14 hb hg_ hnew_;clear hg_ hnew_;(first | rw [← Ny189.out] at ho14 | (simp only [Int.reduceToNat] at ho14;rw [← Ny189.out] at ho14));have n0_:=zA (kE (zP HO181.out) (kC ho14) hb);have n1_:=zA (kE (zP HO184.out) (kC ho14) hb);have n2_:=zA (Kd.N_elder' (zPN HO188.out) (kC ho14) hb);have n3_:=zA (kI (kF (kF ho14 (kH (zP HO181.out))) (kH (zP HO184.out))) (kP (zT HB.out GE178.out)));have n4_:=zA (zB1 BK178.out hb);have n5_:=zA (kQ (zT HB.out GE178.out) hb);clear HO181;clear HO184;clear HO188;clear BK178;clear HB;have HO181:=n0_;have HO184:=n1_;have HO188:=n2_;have HO191:=n3_;have BK178:=n4_;have HB:=n5_;clear n0_ n1_ n2_ n3_ n4_ n5_;clear hb ho14));try go_wp2_with (first | (refine zBE 2 #[.int .i64 a0_0,.slice A0_1 l0_1.length c0_1] 28 ?_;intro gb178 hg w7 hbox hb;have BK178:=zA (hbox);have GW178:=zA (zBH hg HB.out);have GE178:=zA (zBH hg HB.out);replace HB:=zA (kQ (zQ HB.out) hb);clear hb hbox hg;obtain ⟨hcz8_0,hcz8_1,hfz8_0,hfz8_1⟩:=zB3 BK178.out) | (go_at_call 27;(with_reducible refine (spec_l04Code.calls k a0_0 _ _ l0_1 _ _ l1 t179 t182 t185 _ ?side1 ?side2 ?side3 ?side4 A3.out).mono ?_);(case side1=>exact zS (kO HR0_1.out HB.out));(case side2=>exact HC0_1.out);(case side3=>exact zS (kO HR1.out HB.out));(case side4=>exact HC1.out);rintro e w9 ⟨v180,v183,rfl,ho0,ho1,hb⟩;have HO181:=zA (kI ho0 (kP (zT HB.out GE178.out)));have HO184:=zA (kI ho1 (kP (zT HB.out GE178.out)));replace BK178:=zA (zB1 BK178.out hb);replace HB:=zA (kQ (zT HB.out GE178.out) hb);(try clear ho0);(try clear ho1);obtain ⟨Ao10,co10,eo10⟩:=kM HO184.out;subst eo10) | ((with_reducible refine kS (N:=25) rfl ?_);refine Kd.N_make (Kd.slice 2 (Kd.int .i64)) _ 22 rfl (N' := 25) rfl 48 _ _ rfl (t182.length:Int) rfl rfl Tryd.underlying48 (.slice none 0 0) 24 info22 rfl (by decide) (by omega) [] (ok:=fun k_=>w9.heap.size ≤ k_) (okp:=fun _=>False) (Kd.FK_slice_mk (Nat.le_refl _) (Kd.F_nil _ _ _)) (fun _ hk=>hk.elim) (Nat.le_refl _) (zd) (Nat.le_trans (Nat.mul_le_mul_right _ (zd:(t182.length:Int).toNat ≤ 11728124029610)) (by omega)) (kW _ _) (Nat.le_refl _) ?_;intro v187 w11 ho12 hb hg_ hnew_;clear hg_ hnew_;(first | rw [← Ny186.out] at ho12 | (simp only [Int.reduceToNat] at ho12;rw [← Ny186.out] at ho12));have HO188:=zA (jN (Kd.N_mono (ok' := fun k_=>some k_ ≠ (v180:Value).ownBlock ∧ some k_ ≠ (.slice Ao10 t182.length co10:Value).ownBlock ∧ k_ ≠ gb178) ho12 (fun k_ hk_=>⟨(jF (kH (zP HO181.out)) k_ hk_),(jF (kH (zP HO184.out)) k_ hk_),(jE (g:=gb178) (o:=.cells #[.int .i64 a0_0,.slice A0_1 l0_1.length c0_1] 28 (0,0)) (zR BK178.out) k_ hk_)⟩)) (kP (zT HB.out GE178.out)));replace HO181:=zA (kL (zP HO181.out) hb);replace HO184:=zA (kL (zP HO184.out) hb);replace BK178:=zA (zB1 BK178.out hb);replace HB:=zA (kQ (zT HB.out GE178.out) hb);clear hb ho12) | ((with_reducible refine kS (N:=26) rfl ?_);refine Kd.R_lit (Kd.int .i64) _ 2 ?hg (N:=26) ?hd (xs:=([]:List Int)) (inner:=[]) (ok:=fun _=>True) (okp:=fun _=>True) ?hr ?hp (fun _ hk=>hk) trivial (kW _ _) (Nat.le_refl _) (by simp) ?_;(case hd=>rfl);(case hg=>rfl);(case hr=>first | (go_simp;done) | (go_simp;rfl));(case hp=>exact (Reps.none _ _));intro v190 w13 ho14 hb hg_ hnew_;clear hg_ hnew_;(first | rw [← Ny189.out] at ho14 | (simp only [Int.reduceToNat] at ho14;rw [← Ny189.out] at ho14));replace HO188:=zA (Kd.N_elder' (zPN HO188.out) (kC ho14) hb);have HO191:=zA (kI (kF (kF ho14 (kH (zP HO181.out))) (kH (zP HO184.out))) (kP (zT HB.out GE178.out)));replace HO181:=zA (kE (zP HO181.out) (kC ho14) hb);replace HO184:=zA (kE (zP HO184.out) (kC ho14) hb);replace BK178:=zA (zB1 BK178.out hb);replace HB:=zA (kQ (zT HB.out GE178.out) hb);clear hb ho14)))
    go_loopg [10,11] k (fun kq v10 v11 w' => ∃ (x9_1:List (List Int)) (x10_1:List Int) (x11_1:Int),v11 = .int .i64 x11_1 ∧ Aside0 (spec_LongestChain.l0 kq t182 x9_1 x10_1 x11_1 = some (r1,r2)) ∧ Aside0 (kq ≤ k) ∧ Aside0 (Kd.R (Kd.int .i64) 2 w' w.heap.size (fun _=>True) (.slice Ao10 t182.length co10) t182) ∧ Aside0 (Kd.N (Kd.slice 2 (Kd.int .i64)) 22 w' w.heap.size (fun k_=>some k_ ≠ ((.slice Ao10 t182.length co10):Value).ownBlock ∧ k_ ≠ gb178) v187 x9_1) ∧ Aside0 (Kd.V (Kd.int .i64) 2 w' w.heap.size (fun k_=>some k_ ≠ ((.slice Ao10 t182.length co10):Value).ownBlock ∧ some k_ ≠ (v187:Value).ownBlock ∧ k_ ≠ gb178) v10 x10_1) ∧ Aside0 (w'.heap[gb178]? = some (.cells #[.int .i64 a0_0,(.slice A0_1 l0_1.length c0_1)] 28 (0,0))) ∧ Aside0 (Below w.heap.size w w'))
    case atStart=>exact ⟨(y186),(y189),(wrap64 ((t182.length:Int) - 1)),zs,H', ⟨Nat.le_refl _⟩,⟨zPM HO184.out (fun _ hk=>trivial)⟩,⟨by (with_reducible repeat (first | apply Kd.N_alloc | apply Kd.N_drewN | apply Kd.N_drew));exact Kd.N_mono HO188.out (fun _ hk=>⟨hk.1.2.1,hk.1.2.2⟩)⟩,⟨jL (by (with_reducible repeat (first | apply zF | apply zG | apply zH));exact kA (kD (Kd.R_apart' HO191.out (Kd.N_typed HO188.out) (by decide)) BK178.out (by decide)) (fun _ hk=>⟨hk.1.1.2,⟨hk.1.2,hk.2⟩⟩))⟩,⟨zR BK178.out⟩,⟨zT HB.out GE178.out⟩⟩
    case round =>
     clear H'
     try clear c1
     try clear c4
     try clear c5
     try clear c6
     try clear hcz8_0
     try clear hcz8_1
     try clear hfz8_0
     try clear hfz8_1
     obtain ⟨x9_1,x10_1,x11_1,rfl,HA,HK1,HO_7,HO_9,HO_10,BK178,HB⟩:=hrel
     cases gk with
     | zero=>exact absurd HA.out (by simp [spec_LongestChain.l0])
     | succ k1 =>
      have H:=HA.out
      clear HA
      simp only [spec_LongestChain.l0] at H
      by_cases c15:x11_1 ≥ 0
      ·rw [if_pos c15] at H
       have c15b0:decide (0 ≤ x11_1) = true:=decide_eq_true c15
       clear c15
       obtain ⟨y195,hy195⟩:∃ y_:List Int,y_ = (([x11_1]:List Int)):=⟨_,rfl⟩
       replace H:(if 0 ≤ x11_1 then (if x11_1 < (x9_1.length:Int) then (spec_LongestChain.l1 k1 t182 (x9_1.set (x11_1:Int).toNat y195) x10_1 x11_1 (wrap64 (x11_1 + 1))) else (none)) else (none)) = some (r1,r2):=zy hy195 H
       have Ny195:=zA hy195
       clear hy195
       by_cases c16:0 ≤ x11_1
       ·rw [if_pos c16] at H
        have c16b0:decide (0 ≤ x11_1) = true:=decide_eq_true c16
        clear c16
        by_cases c17:x11_1 < (x9_1.length:Int)
        ·rw [if_pos c17] at H
         have c17b0:decide (x11_1 < (x9_1.length:Int)) = true:=decide_eq_true c17
         clear c17
         obtain ⟨y198,hy198⟩:∃ y_:List (List Int),y_ = (x9_1.set (x11_1:Int).toNat y195):=⟨_,rfl⟩
         replace H:(spec_LongestChain.l1 k1 t182 y198 x10_1 x11_1 (wrap64 (x11_1 + 1))) = some (r1,r2):=zy hy198 H
         have Ny198:=zA hy198
         clear hy198
         have H' := zA H
         clear H
         go_wp2_with (first | ((with_reducible refine kS (N:=37) rfl ?_);refine Kd.R_lit (Kd.int .i64) _ 2 ?hg (N:=37) ?hd (xs:=([x11_1]:List Int)) (inner:=[.int .i64 x11_1]) (ok:=fun _=>True) (okp:=fun _=>True) ?hr ?hp (fun _ hk=>hk) trivial (kW _ _) (Nat.le_refl _) (by simp) ?_;(case hd=>rfl);(case hg=>rfl);(case hr=>first | (go_simp;done) | (go_simp;rfl));(case hp=>exact (Reps.one (show Kd.M (Kd.int .i64) _ _ _ x11_1 [.int .i64 x11_1] from rfl) (Reps.none _ _)));intro v196 w19 ho20 hb hg_ hnew_;clear hg_ hnew_;(first | rw [← Ny195.out] at ho20 | (simp only [Int.reduceToNat] at ho20;rw [← Ny195.out] at ho20));replace HO_9:=zA (Kd.N_elder' (zPN HO_9.out) (kC ho20) hb);replace HO_10:=zA (kK (zPV HO_10.out) (kC ho20) hb);have HO197:=zA (kI (kF ho20 (kH (zP HO_7.out))) (kP (zT HB.out GE178.out)));replace HO_7:=zA (kE (zP HO_7.out) (kC ho20) hb);replace BK178:=zA (zB1 BK178.out hb);replace HB:=zA (kQ (zT HB.out GE178.out) hb);clear hb ho20;have p18:0 ≤ (x11_1:Int):=zd;have q18:(x11_1:Int) < ((x9_1.length:Int):Int):=zd;obtain ⟨go18,co18,eo18,gb18,gl18,cl18,HG18⟩:=Kd.N_form HO_9.out (by omega);(first | cases eo18 | (injection eo18 with ea_ en_ ec_;(first | subst ea_ | (injection ea_ with ea_;subst ea_));subst ec_;clear en_));have GB18:=zA gb18;have GG18:=zA HG18;clear gb18 gl18 HG18;obtain ⟨ce18,hcl18,hM18,hcc18,hfr18⟩:=Kd.N_elem HO_9.out [] (x11_1:Int) p18 q18;obtain ⟨ua18_0,uc18_0,rfl,ul18_0,ge18_0⟩:=Kd.FK_slice_open hM18;have hx18_0:=hcc18 0 _ rfl;have hf18_0:=hfr18 0;(try simp only [show ((Kd.slice 2 (Kd.int .i64))).sz = 1 from rfl,Nat.mul_one,Nat.add_zero] at hx18_0);(try simp only [show ((Kd.slice 2 (Kd.int .i64))).sz = 1 from rfl,Nat.mul_one,Nat.add_zero] at hf18_0);clear hcl18 hcc18 hfr18 hM18;replace p18:=eq_true p18;replace q18:=eq_true q18;have n_:=zA (Kd.N_mono (ok' := (fun k_=>some k_ ≠ (.slice Ao10 t182.length co10:Value).ownBlock ∧ some k_ ≠ (v196:Value).ownBlock ∧ k_ ≠ gb178)) HO_9.out (fun k_ hk=>⟨hk.1.1,⟨hk.2,hk.1.2⟩⟩));clear HO_9;have HO_9:=n_;clear n_;have HX21:=zA (show Kd.N (Kd.slice 2 (Kd.int .i64)) 22 w19 w.heap.size (fun k_=>some k_ ≠ (.slice Ao10 t182.length co10:Value).ownBlock ∧ k_ ≠ gb178) (.slice (some ⟨go18,0,none⟩) x9_1.length co18) x9_1 from (by (with_reducible repeat (first | apply Kd.N_alloc | apply Kd.N_drewN | apply Kd.N_drew));exact Kd.N_mono HO_9.out (fun _ hk=>⟨hk.1,hk.2.2⟩)));obtain ⟨ce21,hcl21,hM21,hcc21,hfr21⟩:=Kd.N_elem HX21.out [] (x11_1:Int) (zd) (by have h_:(x11_1:Int) < ((x9_1.length:Int):Int):=zd;first | exact h_ | (have e_:=(Kd.N_reads' HO_9.out).1;omega) | simpa using h_);obtain ⟨ua21_0,uc21_0,rfl,ul21_0,ge21_0⟩:=Kd.FK_slice_open hM21;obtain ⟨Aq196,cq196,eq196⟩:=kM HO197.out;subst eq196;have HP21:=Kd.N_seg HX21.out (x11_1:Int) (zd) (by have h_:(x11_1:Int) < ((x9_1.length:Int):Int):=zd;first | exact h_ | (have e_:=(Kd.N_reads' HO_9.out).1;omega) | simpa using h_) (seg:=[(.slice Aq196 y195.length cq196)]) (j:=0) hcl21 hcc21 (show 1 ≤ 1 from by decide) (x' := y195) (Kd.FK_slice_mk (kB (kA (ok' := (fun k_=>((fun k_=>some k_ ≠ (.slice Ao10 t182.length co10:Value).ownBlock ∧ k_ ≠ gb178)) k_ ∧ k_ ≠ go18)) (kD (Kd.R_apart' (HO197.out) (Kd.N_typed HO_9.out) (by decide)) BK178.out (by decide)) (fun k_ hk=>⟨⟨hk.1.1.2,hk.2⟩,fun e_=>(hk.1.2) (by rw [e_];rfl)⟩))).2.1 (Kd.R_F (kA (ok' := (fun k_=>((fun k_=>some k_ ≠ (.slice Ao10 t182.length co10:Value).ownBlock ∧ k_ ≠ gb178)) k_ ∧ k_ ≠ go18)) (kD (Kd.R_apart' (HO197.out) (Kd.N_typed HO_9.out) (by decide)) BK178.out (by decide)) (fun k_ hk=>⟨⟨hk.1.1.2,hk.2⟩,fun e_=>(hk.1.2) (by rw [e_];rfl)⟩)))) (fun _ hk=>hk);have hx21_0:=hcc21 0 _ rfl;(try simp only [show ((Kd.slice 2 (Kd.int .i64))).sz = 1 from rfl,Nat.mul_one,Nat.add_zero] at hx21_0);have hf21_0:=hfr21 0;(try simp only [show ((Kd.slice 2 (Kd.int .i64))).sz = 1 from rfl,Nat.mul_one,Nat.add_zero] at hf21_0);clear hcl21 hcc21 hfr21 hM21;(try simp only [show ((Kd.slice 2 (Kd.int .i64))).sz = 1 from rfl,Nat.mul_one,Nat.add_zero] at HP21);(try simp only [show ((Kd.slice 2 (Kd.int .i64))).sz = 1 from rfl,Nat.mul_one,Nat.add_zero] at HP21)) | ((with_reducible refine gate_store (t:=22) (p:=38) rfl ?_);(try (rw [drewN_self w19];generalize hq_:World.drewN w19 _ = w19;have n0_:=zA (Kd.R_at hq_ HO_7.out);have n1_:=zA (Kd.N_at hq_ HO_9.out);have n2_:=zA (Kd.V_at hq_ HO_10.out);have n3_:=zA (blk_at hq_ BK178.out);have n4_:=zA (below_at hq_ HB.out);clear hq_ HO_7 HO_9 HO_10 BK178 HB;have HO_7:=n0_;have HO_9:=n1_;have HO_10:=n2_;have BK178:=n3_;have HB:=n4_;clear n0_ n1_ n2_ n3_ n4_;(try (have n_:=zA (Kd.N_mono (ok' := (fun k_=>some k_ ≠ (.slice Ao10 t182.length co10:Value).ownBlock ∧ some k_ ≠ ((.slice Aq196 y195.length cq196):Value).ownBlock ∧ k_ ≠ gb178)) HO_9.out (fun k_ hk=>⟨hk.1.1,⟨hk.2,hk.1.2⟩⟩));clear HO_9;have HO_9:=n_;clear n_));(try (have HX21:=zA (show Kd.N (Kd.slice 2 (Kd.int .i64)) 22 w19 w.heap.size (fun k_=>some k_ ≠ (.slice Ao10 t182.length co10:Value).ownBlock ∧ k_ ≠ gb178) (.slice (some ⟨go18,0,none⟩) x9_1.length co18) x9_1 from (by (with_reducible repeat (first | apply Kd.N_alloc | apply Kd.N_drewN | apply Kd.N_drew));exact Kd.N_mono HO_9.out (fun _ hk=>⟨hk.1,hk.2.2⟩)))));(try (obtain ⟨ce21,hcl21,hM21,hcc21,hfr21⟩:=Kd.N_elem HX21.out [] (x11_1:Int) (zd) (by have h_:(x11_1:Int) < ((x9_1.length:Int):Int):=zd;first | exact h_ | (have e_:=(Kd.N_reads' HO_9.out).1;omega) | simpa using h_)));(try (obtain ⟨ua21_0,uc21_0,rfl,ul21_0,ge21_0⟩:=Kd.FK_slice_open hM21));(try (have HP21:=Kd.N_seg HX21.out (x11_1:Int) (zd) (by have h_:(x11_1:Int) < ((x9_1.length:Int):Int):=zd;first | exact h_ | (have e_:=(Kd.N_reads' HO_9.out).1;omega) | simpa using h_) (seg:=[(.slice Aq196 y195.length cq196)]) (j:=0) hcl21 hcc21 (show 1 ≤ 1 from by decide) (x' := y195) (Kd.FK_slice_mk (kB (kA (ok' := (fun k_=>((fun k_=>some k_ ≠ (.slice Ao10 t182.length co10:Value).ownBlock ∧ k_ ≠ gb178)) k_ ∧ k_ ≠ go18)) (kD (Kd.R_apart' (HO197.out) (Kd.N_typed HO_9.out) (by decide)) BK178.out (by decide)) (fun k_ hk=>⟨⟨hk.1.1.2,hk.2⟩,fun e_=>(hk.1.2) (by rw [e_];rfl)⟩))).2.1 (Kd.R_F (kA (ok' := (fun k_=>((fun k_=>some k_ ≠ (.slice Ao10 t182.length co10:Value).ownBlock ∧ k_ ≠ gb178)) k_ ∧ k_ ≠ go18)) (kD (Kd.R_apart' (HO197.out) (Kd.N_typed HO_9.out) (by decide)) BK178.out (by decide)) (fun k_ hk=>⟨⟨hk.1.1.2,hk.2⟩,fun e_=>(hk.1.2) (by rw [e_];rfl)⟩)))) (fun _ hk=>hk)));(try (have hx21_0:=hcc21 0 _ rfl));(try (try simp only [show ((Kd.slice 2 (Kd.int .i64))).sz = 1 from rfl,Nat.mul_one,Nat.add_zero] at hx21_0));(try (have hf21_0:=hfr21 0));(try (try simp only [show ((Kd.slice 2 (Kd.int .i64))).sz = 1 from rfl,Nat.mul_one,Nat.add_zero] at hf21_0));(try (clear hcl21 hcc21 hfr21 hM21));(try (try simp only [show ((Kd.slice 2 (Kd.int .i64))).sz = 1 from rfl,Nat.mul_one,Nat.add_zero] at HP21));(try (try simp only [show ((Kd.slice 2 (Kd.int .i64))).sz = 1 from rfl,Nat.mul_one,Nat.add_zero] at HP21))));refine store_event (t:=22) (p:=38) (v:=?vo_w22) (w1:=(w19.setCell ⟨go18,(x11_1:Int).toNat,none⟩ ((.slice Aq196 y195.length cq196)))) ?hg ?ho ?hn ?hr ?_;(case ho=>rfl);(case hg=>rfl);(case hn=>rfl);(case hr=>first | (go_simp;done) | (go_simp;rfl));intro w22 hw;have hg:w19.grownBy w22 (some go18):=(by rw [hw];exact HP21.2);have hp_:Kd.N (Kd.slice 2 (Kd.int .i64)) 22 w22 w.heap.size (fun k_=>some k_ ≠ (.slice Ao10 t182.length co10:Value).ownBlock ∧ k_ ≠ gb178) (.slice (some ⟨go18,0,none⟩) x9_1.length co18) y198:=(by rw [hw,Ny198.out];exact HP21.1);clear HP21;replace HO_7:=zA (Kd.R_over' (v:=(.slice (some ⟨go18,0,none⟩) x9_1.length co18)) (zP HO_7.out) (Kd.N_typed HO_9.out) (by decide) hg);replace HO_10:=zA (Kd.V_afterv (v:=(.slice (some ⟨go18,0,none⟩) x9_1.length co18)) (v1:=(.slice (some ⟨go18,0,none⟩) x9_1.length co18)) (ok:=(fun k_=>some k_ ≠ (.slice Ao10 t182.length co10:Value).ownBlock ∧ some k_ ≠ ((.slice Aq196 y195.length cq196):Value).ownBlock ∧ k_ ≠ gb178)) (by (with_reducible repeat (first | apply Kd.V_alloc | apply Kd.V_drewN | apply Kd.V_drew));exact kN HO_10.out (fun _ hk=>⟨⟨hk.1.1,⟨hk.2,hk.1.2.2⟩⟩,hk.1.2.1⟩)) hg (.inl rfl));replace BK178:=zA (blk_grown (g:=gb178) (o:=.cells #[.int .i64 a0_0,.slice A0_1 l0_1.length c0_1] 28 (0,0)) (zR BK178.out) hg (Kd.N_ne HO_9.out BK178.out (by decide)));replace HO_9:=zA (hp_);replace HB:=zA ((by rw [hw];exact zE (HB.out) GB18.out:Below w.heap.size w w22));clear HO197;clear hg hw hp_))
         repeat (go_quiet (first | ((with_reducible refine kS (N:=37) rfl ?_);refine Kd.R_lit (Kd.int .i64) _ 2 ?hg (N:=37) ?hd (xs:=([x11_1]:List Int)) (inner:=[.int .i64 x11_1]) (ok:=fun _=>True) (okp:=fun _=>True) ?hr ?hp (fun _ hk=>hk) trivial (kW _ _) (Nat.le_refl _) (by simp) ?_;(case hd=>rfl);(case hg=>rfl);(case hr=>first | (go_simp;done) | (go_simp;rfl));(case hp=>exact (Reps.one (show Kd.M (Kd.int .i64) _ _ _ x11_1 [.int .i64 x11_1] from rfl) (Reps.none _ _)));intro v196 w19 ho20 hb hg_ hnew_;clear hg_ hnew_;(first | rw [← Ny195.out] at ho20 | (simp only [Int.reduceToNat] at ho20;rw [← Ny195.out] at ho20));have n0_:=zA (kE (zP HO_7.out) (kC ho20) hb);have n1_:=zA (Kd.N_elder' (zPN HO_9.out) (kC ho20) hb);have n2_:=zA (kK (zPV HO_10.out) (kC ho20) hb);have n3_:=zA (kI (kF ho20 (kH (zP HO_7.out))) (kP (zT HB.out GE178.out)));have n4_:=zA (zB1 BK178.out hb);have n5_:=zA (kQ (zT HB.out GE178.out) hb);clear HO_7;clear HO_9;clear HO_10;clear BK178;clear HB;have HO_7:=n0_;have HO_9:=n1_;have HO_10:=n2_;have HO197:=n3_;have BK178:=n4_;have HB:=n5_;clear n0_ n1_ n2_ n3_ n4_ n5_;clear hb ho20;have p18:0 ≤ (x11_1:Int):=zd;have q18:(x11_1:Int) < ((x9_1.length:Int):Int):=zd;obtain ⟨go18,co18,eo18,gb18,gl18,cl18,HG18⟩:=Kd.N_form HO_9.out (by omega);(first | cases eo18 | (injection eo18 with ea_ en_ ec_;(first | subst ea_ | (injection ea_ with ea_;subst ea_));subst ec_;clear en_));have GB18:=zA gb18;have GG18:=zA HG18;clear gb18 gl18 HG18;obtain ⟨ce18,hcl18,hM18,hcc18,hfr18⟩:=Kd.N_elem HO_9.out [] (x11_1:Int) p18 q18;obtain ⟨ua18_0,uc18_0,rfl,ul18_0,ge18_0⟩:=Kd.FK_slice_open hM18;have hx18_0:=hcc18 0 _ rfl;have hf18_0:=hfr18 0;(try simp only [show ((Kd.slice 2 (Kd.int .i64))).sz = 1 from rfl,Nat.mul_one,Nat.add_zero] at hx18_0);(try simp only [show ((Kd.slice 2 (Kd.int .i64))).sz = 1 from rfl,Nat.mul_one,Nat.add_zero] at hf18_0);clear hcl18 hcc18 hfr18 hM18;replace p18:=eq_true p18;replace q18:=eq_true q18;have n_:=zA (Kd.N_mono (ok' := (fun k_=>some k_ ≠ (.slice Ao10 t182.length co10:Value).ownBlock ∧ some k_ ≠ (v196:Value).ownBlock ∧ k_ ≠ gb178)) HO_9.out (fun k_ hk=>⟨hk.1.1,⟨hk.2,hk.1.2⟩⟩));clear HO_9;have HO_9:=n_;clear n_;have HX21:=zA (show Kd.N (Kd.slice 2 (Kd.int .i64)) 22 w19 w.heap.size (fun k_=>some k_ ≠ (.slice Ao10 t182.length co10:Value).ownBlock ∧ k_ ≠ gb178) (.slice (some ⟨go18,0,none⟩) x9_1.length co18) x9_1 from (by (with_reducible repeat (first | apply Kd.N_alloc | apply Kd.N_drewN | apply Kd.N_drew));exact Kd.N_mono HO_9.out (fun _ hk=>⟨hk.1,hk.2.2⟩)));obtain ⟨ce21,hcl21,hM21,hcc21,hfr21⟩:=Kd.N_elem HX21.out [] (x11_1:Int) (zd) (by have h_:(x11_1:Int) < ((x9_1.length:Int):Int):=zd;first | exact h_ | (have e_:=(Kd.N_reads' HO_9.out).1;omega) | simpa using h_);obtain ⟨ua21_0,uc21_0,rfl,ul21_0,ge21_0⟩:=Kd.FK_slice_open hM21;obtain ⟨Aq196,cq196,eq196⟩:=kM HO197.out;subst eq196;have HP21:=Kd.N_seg HX21.out (x11_1:Int) (zd) (by have h_:(x11_1:Int) < ((x9_1.length:Int):Int):=zd;first | exact h_ | (have e_:=(Kd.N_reads' HO_9.out).1;omega) | simpa using h_) (seg:=[(.slice Aq196 y195.length cq196)]) (j:=0) hcl21 hcc21 (show 1 ≤ 1 from by decide) (x' := y195) (Kd.FK_slice_mk (kB (kA (ok' := (fun k_=>((fun k_=>some k_ ≠ (.slice Ao10 t182.length co10:Value).ownBlock ∧ k_ ≠ gb178)) k_ ∧ k_ ≠ go18)) (kD (Kd.R_apart' (HO197.out) (Kd.N_typed HO_9.out) (by decide)) BK178.out (by decide)) (fun k_ hk=>⟨⟨hk.1.1.2,hk.2⟩,fun e_=>(hk.1.2) (by rw [e_];rfl)⟩))).2.1 (Kd.R_F (kA (ok' := (fun k_=>((fun k_=>some k_ ≠ (.slice Ao10 t182.length co10:Value).ownBlock ∧ k_ ≠ gb178)) k_ ∧ k_ ≠ go18)) (kD (Kd.R_apart' (HO197.out) (Kd.N_typed HO_9.out) (by decide)) BK178.out (by decide)) (fun k_ hk=>⟨⟨hk.1.1.2,hk.2⟩,fun e_=>(hk.1.2) (by rw [e_];rfl)⟩)))) (fun _ hk=>hk);have hx21_0:=hcc21 0 _ rfl;(try simp only [show ((Kd.slice 2 (Kd.int .i64))).sz = 1 from rfl,Nat.mul_one,Nat.add_zero] at hx21_0);have hf21_0:=hfr21 0;(try simp only [show ((Kd.slice 2 (Kd.int .i64))).sz = 1 from rfl,Nat.mul_one,Nat.add_zero] at hf21_0);clear hcl21 hcc21 hfr21 hM21;(try simp only [show ((Kd.slice 2 (Kd.int .i64))).sz = 1 from rfl,Nat.mul_one,Nat.add_zero] at HP21);(try simp only [show ((Kd.slice 2 (Kd.int .i64))).sz = 1 from rfl,Nat.mul_one,Nat.add_zero] at HP21)) | ((with_reducible refine gate_store (t:=22) (p:=38) rfl ?_);(try (rw [drewN_self w19];generalize hq_:World.drewN w19 _ = w19;have n0_:=zA (Kd.R_at hq_ HO_7.out);have n1_:=zA (Kd.N_at hq_ HO_9.out);have n2_:=zA (Kd.V_at hq_ HO_10.out);have n3_:=zA (blk_at hq_ BK178.out);have n4_:=zA (below_at hq_ HB.out);clear hq_ HO_7 HO_9 HO_10 BK178 HB;have HO_7:=n0_;have HO_9:=n1_;have HO_10:=n2_;have BK178:=n3_;have HB:=n4_;clear n0_ n1_ n2_ n3_ n4_;(try (have n_:=zA (Kd.N_mono (ok' := (fun k_=>some k_ ≠ (.slice Ao10 t182.length co10:Value).ownBlock ∧ some k_ ≠ ((.slice Aq196 y195.length cq196):Value).ownBlock ∧ k_ ≠ gb178)) HO_9.out (fun k_ hk=>⟨hk.1.1,⟨hk.2,hk.1.2⟩⟩));clear HO_9;have HO_9:=n_;clear n_));(try (have HX21:=zA (show Kd.N (Kd.slice 2 (Kd.int .i64)) 22 w19 w.heap.size (fun k_=>some k_ ≠ (.slice Ao10 t182.length co10:Value).ownBlock ∧ k_ ≠ gb178) (.slice (some ⟨go18,0,none⟩) x9_1.length co18) x9_1 from (by (with_reducible repeat (first | apply Kd.N_alloc | apply Kd.N_drewN | apply Kd.N_drew));exact Kd.N_mono HO_9.out (fun _ hk=>⟨hk.1,hk.2.2⟩)))));(try (obtain ⟨ce21,hcl21,hM21,hcc21,hfr21⟩:=Kd.N_elem HX21.out [] (x11_1:Int) (zd) (by have h_:(x11_1:Int) < ((x9_1.length:Int):Int):=zd;first | exact h_ | (have e_:=(Kd.N_reads' HO_9.out).1;omega) | simpa using h_)));(try (obtain ⟨ua21_0,uc21_0,rfl,ul21_0,ge21_0⟩:=Kd.FK_slice_open hM21));(try (have HP21:=Kd.N_seg HX21.out (x11_1:Int) (zd) (by have h_:(x11_1:Int) < ((x9_1.length:Int):Int):=zd;first | exact h_ | (have e_:=(Kd.N_reads' HO_9.out).1;omega) | simpa using h_) (seg:=[(.slice Aq196 y195.length cq196)]) (j:=0) hcl21 hcc21 (show 1 ≤ 1 from by decide) (x' := y195) (Kd.FK_slice_mk (kB (kA (ok' := (fun k_=>((fun k_=>some k_ ≠ (.slice Ao10 t182.length co10:Value).ownBlock ∧ k_ ≠ gb178)) k_ ∧ k_ ≠ go18)) (kD (Kd.R_apart' (HO197.out) (Kd.N_typed HO_9.out) (by decide)) BK178.out (by decide)) (fun k_ hk=>⟨⟨hk.1.1.2,hk.2⟩,fun e_=>(hk.1.2) (by rw [e_];rfl)⟩))).2.1 (Kd.R_F (kA (ok' := (fun k_=>((fun k_=>some k_ ≠ (.slice Ao10 t182.length co10:Value).ownBlock ∧ k_ ≠ gb178)) k_ ∧ k_ ≠ go18)) (kD (Kd.R_apart' (HO197.out) (Kd.N_typed HO_9.out) (by decide)) BK178.out (by decide)) (fun k_ hk=>⟨⟨hk.1.1.2,hk.2⟩,fun e_=>(hk.1.2) (by rw [e_];rfl)⟩)))) (fun _ hk=>hk)));(try (have hx21_0:=hcc21 0 _ rfl));(try (try simp only [show ((Kd.slice 2 (Kd.int .i64))).sz = 1 from rfl,Nat.mul_one,Nat.add_zero] at hx21_0));(try (have hf21_0:=hfr21 0));(try (try simp only [show ((Kd.slice 2 (Kd.int .i64))).sz = 1 from rfl,Nat.mul_one,Nat.add_zero] at hf21_0));(try (clear hcl21 hcc21 hfr21 hM21));(try (try simp only [show ((Kd.slice 2 (Kd.int .i64))).sz = 1 from rfl,Nat.mul_one,Nat.add_zero] at HP21));(try (try simp only [show ((Kd.slice 2 (Kd.int .i64))).sz = 1 from rfl,Nat.mul_one,Nat.add_zero] at HP21))));refine store_event (t:=22) (p:=38) (v:=?vo_w22) (w1:=(w19.setCell ⟨go18,(x11_1:Int).toNat,none⟩ ((.slice Aq196 y195.length cq196)))) ?hg ?ho ?hn ?hr ?_;(case ho=>rfl);(case hg=>rfl);(case hn=>rfl);(case hr=>first | (go_simp;done) | (go_simp;rfl));intro w22 hw;have hg:w19.grownBy w22 (some go18):=(by rw [hw];exact HP21.2);have hp_:Kd.N (Kd.slice 2 (Kd.int .i64)) 22 w22 w.heap.size (fun k_=>some k_ ≠ (.slice Ao10 t182.length co10:Value).ownBlock ∧ k_ ≠ gb178) (.slice (some ⟨go18,0,none⟩) x9_1.length co18) y198:=(by rw [hw,Ny198.out];exact HP21.1);clear HP21;have n0_:=zA (Kd.R_over' (v:=(.slice (some ⟨go18,0,none⟩) x9_1.length co18)) (zP HO_7.out) (Kd.N_typed HO_9.out) (by decide) hg);have n1_:=zA (hp_);have n2_:=zA (Kd.V_afterv (v:=(.slice (some ⟨go18,0,none⟩) x9_1.length co18)) (v1:=(.slice (some ⟨go18,0,none⟩) x9_1.length co18)) (ok:=(fun k_=>some k_ ≠ (.slice Ao10 t182.length co10:Value).ownBlock ∧ some k_ ≠ ((.slice Aq196 y195.length cq196):Value).ownBlock ∧ k_ ≠ gb178)) (by (with_reducible repeat (first | apply Kd.V_alloc | apply Kd.V_drewN | apply Kd.V_drew));exact kN HO_10.out (fun _ hk=>⟨⟨hk.1.1,⟨hk.2,hk.1.2.2⟩⟩,hk.1.2.1⟩)) hg (.inl rfl));have n3_:=zA (blk_grown (g:=gb178) (o:=.cells #[.int .i64 a0_0,.slice A0_1 l0_1.length c0_1] 28 (0,0)) (zR BK178.out) hg (Kd.N_ne HO_9.out BK178.out (by decide)));have n4_:=zA ((by rw [hw];exact zE (HB.out) GB18.out:Below w.heap.size w w22));clear HO_7;clear HO_9;clear HO_10;clear BK178;clear HB;clear HO197;have HO_7:=n0_;have HO_9:=n1_;have HO_10:=n2_;have BK178:=n3_;have HB:=n4_;clear n0_ n1_ n2_ n3_ n4_;clear hg hw hp_));try go_wp2_with (first | ((with_reducible refine kS (N:=37) rfl ?_);refine Kd.R_lit (Kd.int .i64) _ 2 ?hg (N:=37) ?hd (xs:=([x11_1]:List Int)) (inner:=[.int .i64 x11_1]) (ok:=fun _=>True) (okp:=fun _=>True) ?hr ?hp (fun _ hk=>hk) trivial (kW _ _) (Nat.le_refl _) (by simp) ?_;(case hd=>rfl);(case hg=>rfl);(case hr=>first | (go_simp;done) | (go_simp;rfl));(case hp=>exact (Reps.one (show Kd.M (Kd.int .i64) _ _ _ x11_1 [.int .i64 x11_1] from rfl) (Reps.none _ _)));intro v196 w19 ho20 hb hg_ hnew_;clear hg_ hnew_;(first | rw [← Ny195.out] at ho20 | (simp only [Int.reduceToNat] at ho20;rw [← Ny195.out] at ho20));replace HO_9:=zA (Kd.N_elder' (zPN HO_9.out) (kC ho20) hb);replace HO_10:=zA (kK (zPV HO_10.out) (kC ho20) hb);have HO197:=zA (kI (kF ho20 (kH (zP HO_7.out))) (kP (zT HB.out GE178.out)));replace HO_7:=zA (kE (zP HO_7.out) (kC ho20) hb);replace BK178:=zA (zB1 BK178.out hb);replace HB:=zA (kQ (zT HB.out GE178.out) hb);clear hb ho20;have p18:0 ≤ (x11_1:Int):=zd;have q18:(x11_1:Int) < ((x9_1.length:Int):Int):=zd;obtain ⟨go18,co18,eo18,gb18,gl18,cl18,HG18⟩:=Kd.N_form HO_9.out (by omega);(first | cases eo18 | (injection eo18 with ea_ en_ ec_;(first | subst ea_ | (injection ea_ with ea_;subst ea_));subst ec_;clear en_));have GB18:=zA gb18;have GG18:=zA HG18;clear gb18 gl18 HG18;obtain ⟨ce18,hcl18,hM18,hcc18,hfr18⟩:=Kd.N_elem HO_9.out [] (x11_1:Int) p18 q18;obtain ⟨ua18_0,uc18_0,rfl,ul18_0,ge18_0⟩:=Kd.FK_slice_open hM18;have hx18_0:=hcc18 0 _ rfl;have hf18_0:=hfr18 0;(try simp only [show ((Kd.slice 2 (Kd.int .i64))).sz = 1 from rfl,Nat.mul_one,Nat.add_zero] at hx18_0);(try simp only [show ((Kd.slice 2 (Kd.int .i64))).sz = 1 from rfl,Nat.mul_one,Nat.add_zero] at hf18_0);clear hcl18 hcc18 hfr18 hM18;replace p18:=eq_true p18;replace q18:=eq_true q18;have n_:=zA (Kd.N_mono (ok' := (fun k_=>some k_ ≠ (.slice Ao10 t182.length co10:Value).ownBlock ∧ some k_ ≠ (v196:Value).ownBlock ∧ k_ ≠ gb178)) HO_9.out (fun k_ hk=>⟨hk.1.1,⟨hk.2,hk.1.2⟩⟩));clear HO_9;have HO_9:=n_;clear n_;have HX21:=zA (show Kd.N (Kd.slice 2 (Kd.int .i64)) 22 w19 w.heap.size (fun k_=>some k_ ≠ (.slice Ao10 t182.length co10:Value).ownBlock ∧ k_ ≠ gb178) (.slice (some ⟨go18,0,none⟩) x9_1.length co18) x9_1 from (by (with_reducible repeat (first | apply Kd.N_alloc | apply Kd.N_drewN | apply Kd.N_drew));exact Kd.N_mono HO_9.out (fun _ hk=>⟨hk.1,hk.2.2⟩)));obtain ⟨ce21,hcl21,hM21,hcc21,hfr21⟩:=Kd.N_elem HX21.out [] (x11_1:Int) (zd) (by have h_:(x11_1:Int) < ((x9_1.length:Int):Int):=zd;first | exact h_ | (have e_:=(Kd.N_reads' HO_9.out).1;omega) | simpa using h_);obtain ⟨ua21_0,uc21_0,rfl,ul21_0,ge21_0⟩:=Kd.FK_slice_open hM21;obtain ⟨Aq196,cq196,eq196⟩:=kM HO197.out;subst eq196;have HP21:=Kd.N_seg HX21.out (x11_1:Int) (zd) (by have h_:(x11_1:Int) < ((x9_1.length:Int):Int):=zd;first | exact h_ | (have e_:=(Kd.N_reads' HO_9.out).1;omega) | simpa using h_) (seg:=[(.slice Aq196 y195.length cq196)]) (j:=0) hcl21 hcc21 (show 1 ≤ 1 from by decide) (x' := y195) (Kd.FK_slice_mk (kB (kA (ok' := (fun k_=>((fun k_=>some k_ ≠ (.slice Ao10 t182.length co10:Value).ownBlock ∧ k_ ≠ gb178)) k_ ∧ k_ ≠ go18)) (kD (Kd.R_apart' (HO197.out) (Kd.N_typed HO_9.out) (by decide)) BK178.out (by decide)) (fun k_ hk=>⟨⟨hk.1.1.2,hk.2⟩,fun e_=>(hk.1.2) (by rw [e_];rfl)⟩))).2.1 (Kd.R_F (kA (ok' := (fun k_=>((fun k_=>some k_ ≠ (.slice Ao10 t182.length co10:Value).ownBlock ∧ k_ ≠ gb178)) k_ ∧ k_ ≠ go18)) (kD (Kd.R_apart' (HO197.out) (Kd.N_typed HO_9.out) (by decide)) BK178.out (by decide)) (fun k_ hk=>⟨⟨hk.1.1.2,hk.2⟩,fun e_=>(hk.1.2) (by rw [e_];rfl)⟩)))) (fun _ hk=>hk);have hx21_0:=hcc21 0 _ rfl;(try simp only [show ((Kd.slice 2 (Kd.int .i64))).sz = 1 from rfl,Nat.mul_one,Nat.add_zero] at hx21_0);have hf21_0:=hfr21 0;(try simp only [show ((Kd.slice 2 (Kd.int .i64))).sz = 1 from rfl,Nat.mul_one,Nat.add_zero] at hf21_0);clear hcl21 hcc21 hfr21 hM21;(try simp only [show ((Kd.slice 2 (Kd.int .i64))).sz = 1 from rfl,Nat.mul_one,Nat.add_zero] at HP21);(try simp only [show ((Kd.slice 2 (Kd.int .i64))).sz = 1 from rfl,Nat.mul_one,Nat.add_zero] at HP21)) | ((with_reducible refine gate_store (t:=22) (p:=38) rfl ?_);(try (rw [drewN_self w19];generalize hq_:World.drewN w19 _ = w19;have n0_:=zA (Kd.R_at hq_ HO_7.out);have n1_:=zA (Kd.N_at hq_ HO_9.out);have n2_:=zA (Kd.V_at hq_ HO_10.out);have n3_:=zA (blk_at hq_ BK178.out);have n4_:=zA (below_at hq_ HB.out);clear hq_ HO_7 HO_9 HO_10 BK178 HB;have HO_7:=n0_;have HO_9:=n1_;have HO_10:=n2_;have BK178:=n3_;have HB:=n4_;clear n0_ n1_ n2_ n3_ n4_;(try (have n_:=zA (Kd.N_mono (ok' := (fun k_=>some k_ ≠ (.slice Ao10 t182.length co10:Value).ownBlock ∧ some k_ ≠ ((.slice Aq196 y195.length cq196):Value).ownBlock ∧ k_ ≠ gb178)) HO_9.out (fun k_ hk=>⟨hk.1.1,⟨hk.2,hk.1.2⟩⟩));clear HO_9;have HO_9:=n_;clear n_));(try (have HX21:=zA (show Kd.N (Kd.slice 2 (Kd.int .i64)) 22 w19 w.heap.size (fun k_=>some k_ ≠ (.slice Ao10 t182.length co10:Value).ownBlock ∧ k_ ≠ gb178) (.slice (some ⟨go18,0,none⟩) x9_1.length co18) x9_1 from (by (with_reducible repeat (first | apply Kd.N_alloc | apply Kd.N_drewN | apply Kd.N_drew));exact Kd.N_mono HO_9.out (fun _ hk=>⟨hk.1,hk.2.2⟩)))));(try (obtain ⟨ce21,hcl21,hM21,hcc21,hfr21⟩:=Kd.N_elem HX21.out [] (x11_1:Int) (zd) (by have h_:(x11_1:Int) < ((x9_1.length:Int):Int):=zd;first | exact h_ | (have e_:=(Kd.N_reads' HO_9.out).1;omega) | simpa using h_)));(try (obtain ⟨ua21_0,uc21_0,rfl,ul21_0,ge21_0⟩:=Kd.FK_slice_open hM21));(try (have HP21:=Kd.N_seg HX21.out (x11_1:Int) (zd) (by have h_:(x11_1:Int) < ((x9_1.length:Int):Int):=zd;first | exact h_ | (have e_:=(Kd.N_reads' HO_9.out).1;omega) | simpa using h_) (seg:=[(.slice Aq196 y195.length cq196)]) (j:=0) hcl21 hcc21 (show 1 ≤ 1 from by decide) (x' := y195) (Kd.FK_slice_mk (kB (kA (ok' := (fun k_=>((fun k_=>some k_ ≠ (.slice Ao10 t182.length co10:Value).ownBlock ∧ k_ ≠ gb178)) k_ ∧ k_ ≠ go18)) (kD (Kd.R_apart' (HO197.out) (Kd.N_typed HO_9.out) (by decide)) BK178.out (by decide)) (fun k_ hk=>⟨⟨hk.1.1.2,hk.2⟩,fun e_=>(hk.1.2) (by rw [e_];rfl)⟩))).2.1 (Kd.R_F (kA (ok' := (fun k_=>((fun k_=>some k_ ≠ (.slice Ao10 t182.length co10:Value).ownBlock ∧ k_ ≠ gb178)) k_ ∧ k_ ≠ go18)) (kD (Kd.R_apart' (HO197.out) (Kd.N_typed HO_9.out) (by decide)) BK178.out (by decide)) (fun k_ hk=>⟨⟨hk.1.1.2,hk.2⟩,fun e_=>(hk.1.2) (by rw [e_];rfl)⟩)))) (fun _ hk=>hk)));(try (have hx21_0:=hcc21 0 _ rfl));(try (try simp only [show ((Kd.slice 2 (Kd.int .i64))).sz = 1 from rfl,Nat.mul_one,Nat.add_zero] at hx21_0));(try (have hf21_0:=hfr21 0));(try (try simp only [show ((Kd.slice 2 (Kd.int .i64))).sz = 1 from rfl,Nat.mul_one,Nat.add_zero] at hf21_0));(try (clear hcl21 hcc21 hfr21 hM21));(try (try simp only [show ((Kd.slice 2 (Kd.int .i64))).sz = 1 from rfl,Nat.mul_one,Nat.add_zero] at HP21));(try (try simp only [show ((Kd.slice 2 (Kd.int .i64))).sz = 1 from rfl,Nat.mul_one,Nat.add_zero] at HP21))));refine store_event (t:=22) (p:=38) (v:=?vo_w22) (w1:=(w19.setCell ⟨go18,(x11_1:Int).toNat,none⟩ ((.slice Aq196 y195.length cq196)))) ?hg ?ho ?hn ?hr ?_;(case ho=>rfl);(case hg=>rfl);(case hn=>rfl);(case hr=>first | (go_simp;done) | (go_simp;rfl));intro w22 hw;have hg:w19.grownBy w22 (some go18):=(by rw [hw];exact HP21.2);have hp_:Kd.N (Kd.slice 2 (Kd.int .i64)) 22 w22 w.heap.size (fun k_=>some k_ ≠ (.slice Ao10 t182.length co10:Value).ownBlock ∧ k_ ≠ gb178) (.slice (some ⟨go18,0,none⟩) x9_1.length co18) y198:=(by rw [hw,Ny198.out];exact HP21.1);clear HP21;replace HO_7:=zA (Kd.R_over' (v:=(.slice (some ⟨go18,0,none⟩) x9_1.length co18)) (zP HO_7.out) (Kd.N_typed HO_9.out) (by decide) hg);replace HO_10:=zA (Kd.V_afterv (v:=(.slice (some ⟨go18,0,none⟩) x9_1.length co18)) (v1:=(.slice (some ⟨go18,0,none⟩) x9_1.length co18)) (ok:=(fun k_=>some k_ ≠ (.slice Ao10 t182.length co10:Value).ownBlock ∧ some k_ ≠ ((.slice Aq196 y195.length cq196):Value).ownBlock ∧ k_ ≠ gb178)) (by (with_reducible repeat (first | apply Kd.V_alloc | apply Kd.V_drewN | apply Kd.V_drew));exact kN HO_10.out (fun _ hk=>⟨⟨hk.1.1,⟨hk.2,hk.1.2.2⟩⟩,hk.1.2.1⟩)) hg (.inl rfl));replace BK178:=zA (blk_grown (g:=gb178) (o:=.cells #[.int .i64 a0_0,.slice A0_1 l0_1.length c0_1] 28 (0,0)) (zR BK178.out) hg (Kd.N_ne HO_9.out BK178.out (by decide)));replace HO_9:=zA (hp_);replace HB:=zA ((by rw [hw];exact zE (HB.out) GB18.out:Below w.heap.size w w22));clear HO197;clear hg hw hp_)))
         go_loopg [12] k1 (fun kq v12 w' => ∃ (x9_2:List (List Int)) (x12_2:Int),v12 = .int .i64 x12_2 ∧ Aside0 (spec_LongestChain.l1 kq t182 x9_2 x10_1 x11_1 x12_2 = some (r1,r2)) ∧ Aside0 (kq ≤ k1) ∧ Aside0 (Kd.R (Kd.int .i64) 2 w' w.heap.size (fun _=>True) (.slice Ao10 t182.length co10) t182) ∧ Aside0 (Kd.N (Kd.slice 2 (Kd.int .i64)) 22 w' w.heap.size (fun k_=>some k_ ≠ ((.slice Ao10 t182.length co10):Value).ownBlock ∧ k_ ≠ gb178) (.slice (some ⟨go18,0,none⟩) x9_1.length co18) x9_2) ∧ Aside0 (Kd.V (Kd.int .i64) 2 w' w.heap.size (fun k_=>some k_ ≠ ((.slice Ao10 t182.length co10):Value).ownBlock ∧ some k_ ≠ ((.slice (some ⟨go18,0,none⟩) x9_1.length co18):Value).ownBlock ∧ k_ ≠ gb178) u10 x10_1) ∧ Aside0 (w'.heap[gb178]? = some (.cells #[.int .i64 a0_0,(.slice A0_1 l0_1.length c0_1)] 28 (0,0))) ∧ Aside0 (Below w.heap.size w w'))
         case atStart=>exact ⟨(y198),(wrap64 (x11_1 + 1)),zs,H', ⟨Nat.le_refl _⟩,⟨zPM HO_7.out (fun _ hk=>trivial)⟩,⟨zPN HO_9.out⟩,⟨by (with_reducible repeat (first | apply Kd.V_alloc | apply Kd.V_drewN | apply Kd.V_drew));exact kN HO_10.out (fun _ hk=>⟨hk.1.1,⟨hk.2,hk.1.2.2⟩⟩)⟩,⟨zR BK178.out⟩,⟨zT HB.out GE178.out⟩⟩
         case round =>
          clear H'
          try clear c1
          try clear hx1
          try clear c2
          try clear hx2
          try clear hf2
          try clear c4
          try clear c5
          try clear c6
          try clear c15
          try clear c16
          try clear c17
          try clear c18
          try clear hx18
          try clear hf18
          try clear c21
          try clear hx21
          try clear hf21
          try clear hcz8_0
          try clear hcz8_1
          try clear hfz8_0
          try clear hfz8_1
          try clear hx18_0
          try clear hx21_0
          obtain ⟨x9_2,x12_2,rfl,HA,HK2,HO_7,HO_9,HO_10,BK178,HB⟩:=hrel
          have hl9_2:=(Kd.N_reads' HO_9.out).1
          rw [hl9_2] at HO_9
          (try simp only [hl9_2])
          (try simp only [hl9_2] at BK178)
          (try simp only [hl9_2] at HO_7)
          (try simp only [hl9_2] at HO_10)
          cases gk with
          | zero=>exact absurd HA.out (by simp [spec_LongestChain.l1])
          | succ k2 =>
           have H:=HA.out
           clear HA
           simp only [spec_LongestChain.l1] at H
           by_cases c23:x12_2 < (t182.length:Int)
           ·rw [if_pos c23] at H
            have c23b0:decide (x12_2 < (t182.length:Int)) = true:=decide_eq_true c23
            clear c23
            by_cases c24:0 ≤ x11_1
            ·rw [if_pos c24] at H
             have c24b0:decide (0 ≤ x11_1) = true:=decide_eq_true c24
             clear c24
             by_cases c25:x11_1 < (t182.length:Int)
             ·rw [if_pos c25] at H
              have c25b0:decide (x11_1 < (t182.length:Int)) = true:=decide_eq_true c25
              clear c25
              obtain ⟨t200,A26,H⟩:=zb H
              try dsimp only at H
              by_cases c27:t200 = true
              ·subst c27
               rw [if_pos rfl] at H
               by_cases c28:0 ≤ x12_2
               ·rw [if_pos c28] at H
                have c28b0:decide (0 ≤ x12_2) = true:=decide_eq_true c28
                clear c28
                by_cases c29:x12_2 < (x9_2.length:Int)
                ·rw [if_pos c29] at H
                 have c29b0:decide (x12_2 < (x9_2.length:Int)) = true:=decide_eq_true c29
                 clear c29
                 by_cases c30:x11_1 < (x9_2.length:Int)
                 ·rw [if_pos c30] at H
                  have c30b0:decide (x11_1 < (x9_2.length:Int)) = true:=decide_eq_true c30
                  clear c30
                  by_cases c31:(wrap64 (((rd_L1 x9_2 x12_2).length:Int) + 1)) > ((rd_L1 x9_2 x11_1).length:Int)
                  ·rw [if_pos c31] at H
                   have c31b0:decide (((rd_L1 x9_2 x11_1).length:Int) < (wrap64 (((rd_L1 x9_2 x12_2).length:Int) + 1))) = true:=decide_eq_true c31
                   have c31w0:decide (((rd_L1 x9_2 x11_1).length:Int) < (IntKind.i64.wrap (((rd_L1 x9_2 x12_2).length:Int) + 1))) = true:=by first | exact c31b0 | (simp only [i64_w];exact c31b0)
                   clear c31
                   obtain ⟨y203,hy203⟩:∃ y_:List Int,y_ = (([x11_1]:List Int)):=⟨_,rfl⟩
                   replace H:(if y203.length + (rd_L1 x9_2 x12_2).length < 17592186044416 then (spec_LongestChain.l1 k2 t182 (x9_2.set (x11_1:Int).toNat (y203 ++ (rd_L1 x9_2 x12_2))) x10_1 x11_1 (wrap64 (x12_2 + 1))) else (none)) = some (r1,r2):=zy hy203 H
                   have Ny203:=zA hy203
                   clear hy203
                   by_cases c32:y203.length + (rd_L1 x9_2 x12_2).length < 17592186044416
                   ·rw [if_pos c32] at H
                    have LMc32:=zA c32
                    clear c32
                    obtain ⟨y207,hy207⟩:∃ y_:List Int,y_ = (y203 ++ (rd_L1 x9_2 x12_2)):=⟨_,rfl⟩
                    replace H:(spec_LongestChain.l1 k2 t182 (x9_2.set (x11_1:Int).toNat y207) x10_1 x11_1 (wrap64 (x12_2 + 1))) = some (r1,r2):=zy hy207 H
                    have Ny207:=zA hy207
                    clear hy207
                    obtain ⟨y210,hy210⟩:∃ y_:List (List Int),y_ = (x9_2.set (x11_1:Int).toNat y207):=⟨_,rfl⟩
                    replace H:(spec_LongestChain.l1 k2 t182 y210 x10_1 x11_1 (wrap64 (x12_2 + 1))) = some (r1,r2):=zy hy210 H
                    have Ny210:=zA hy210
                    clear hy210
                    have H' := zA H
                    clear H
                    have p199:0 ≤ (x11_1:Int):=zd
                    have q199:x11_1 < (t182.length:Int):=zd
                    obtain ⟨ad199,e199,hx199_0⟩:=Kd.at_int (kB HO_7.out).2.2 x11_1 p199 q199
                    cases e199
                    replace p199:=eq_true p199
                    replace q199:=eq_true q199
                    go_wp2_with (first | (go_at_call 28;(with_reducible refine (spec_l01Bit.calls (rd t182 x11_1) x12_2 true _ A26.out).mono ?_);rintro e w' ⟨rfl,⟨nd,rfl⟩⟩;(try exact zw);have p201:0 ≤ (x12_2:Int):=zd;have q201:x12_2 < (x9_2.length:Int):=zd;obtain ⟨ad201,A201_0,c201_0,e201,hx201_0,hl201_0,hi201_0⟩:=at_L1 (Kd.N_reads' HO_9.out).2.2 x12_2 p201 q201;obtain rfl:(⟨go18,0,none⟩:Addr) = ad201:=(by injection e201);obtain ⟨ce201,hce201,hMe201,hcc201⟩:=Kd.N_get HO_9.out [] x12_2 p201 (by first | exact q201 | exact zd | (have e_:=(Kd.N_reads' HO_9.out).1;omega));obtain ⟨ua201_0,uc201_0,rfl,ul201_0,ge201_0⟩:=Kd.FK_slice_open hMe201;have hv201_0:=hcc201 0 _ rfl;rw [Nat.add_zero,show ((Kd.slice 2 (Kd.int .i64))).sz = 1 from rfl,Nat.mul_one] at hv201_0;replace hv201_0:=Option.some.inj (hv201_0.symm.trans hx201_0);injection hv201_0 with hva_ hvn_ hvc_;rw [hva_] at ge201_0;rw [hvc_] at ul201_0;have HL201_0:=zA (show Kd.V (Kd.int .i64) 2 _ w.heap.size _ _ (rd_L1 x9_2 x12_2) from Kd.V_mk ul201_0 ge201_0);clear hva_ hvn_ hvc_ ge201_0 ul201_0;clear hcc201 hce201;(first | simp only [add_plain] at hx201_0 | simp only [add_at] at hx201_0 | simp only [Addr.add,Nat.zero_add] at hx201_0 | skip);have HR201_0:=zA hi201_0;have HC201_0:=zA hl201_0;clear hi201_0 hl201_0;replace p201:=eq_true p201;replace q201:=eq_true q201;have p202:0 ≤ (x11_1:Int):=zd;have q202:x11_1 < (x9_2.length:Int):=zd;obtain ⟨ad202,A202_0,c202_0,e202,hx202_0,hl202_0,hi202_0⟩:=at_L1 (Kd.N_reads' HO_9.out).2.2 x11_1 p202 q202;obtain rfl:(⟨go18,0,none⟩:Addr) = ad202:=(by injection e202);obtain ⟨ce202,hce202,hMe202,hcc202⟩:=Kd.N_get HO_9.out [] x11_1 p202 (by first | exact q202 | exact zd | (have e_:=(Kd.N_reads' HO_9.out).1;omega));obtain ⟨ua202_0,uc202_0,rfl,ul202_0,ge202_0⟩:=Kd.FK_slice_open hMe202;have hv202_0:=hcc202 0 _ rfl;rw [Nat.add_zero,show ((Kd.slice 2 (Kd.int .i64))).sz = 1 from rfl,Nat.mul_one] at hv202_0;replace hv202_0:=Option.some.inj (hv202_0.symm.trans hx202_0);injection hv202_0 with hva_ hvn_ hvc_;rw [hva_] at ge202_0;rw [hvc_] at ul202_0;have HL202_0:=zA (show Kd.V (Kd.int .i64) 2 _ w.heap.size _ _ (rd_L1 x9_2 x11_1) from Kd.V_mk ul202_0 ge202_0);clear hva_ hvn_ hvc_ ge202_0 ul202_0;clear hcc202 hce202;(first | simp only [add_plain] at hx202_0 | simp only [add_at] at hx202_0 | simp only [Addr.add,Nat.zero_add] at hx202_0 | skip);have HR202_0:=zA hi202_0;have HC202_0:=zA hl202_0;clear hi202_0 hl202_0;replace p202:=eq_true p202;replace q202:=eq_true q202) | ((with_reducible refine kS (N:=70) rfl ?_);refine Kd.R_lit (Kd.int .i64) _ 2 ?hg (N:=70) ?hd (xs:=([x11_1]:List Int)) (inner:=[.int .i64 x11_1]) (ok:=fun _=>True) (okp:=fun _=>True) ?hr ?hp (fun _ hk=>hk) trivial (kW _ _) (Nat.le_refl _) (by simp) ?_;(case hd=>rfl);(case hg=>rfl);(case hr=>first | (go_simp;done) | (go_simp;rfl));(case hp=>exact (Reps.one (show Kd.M (Kd.int .i64) _ _ _ x11_1 [.int .i64 x11_1] from rfl) (Reps.none _ _)));intro v204 w34 ho35 hb hg_ hnew_;clear hg_ hnew_;(first | rw [← Ny203.out] at ho35 | (simp only [Int.reduceToNat] at ho35;rw [← Ny203.out] at ho35));replace HO_9:=zA (Kd.N_elder' (zPN HO_9.out) (kC ho35) hb);replace HO_10:=zA (kK (zPV HO_10.out) (kC ho35) hb);replace HL201_0:=zA (kK (zPV HL201_0.out) (kC ho35) hb);replace HL202_0:=zA (kK (zPV HL202_0.out) (kC ho35) hb);have HO205:=zA (kI (kF ho35 (kH (zP HO_7.out))) (kP (zT HB.out GE178.out)));replace HO_7:=zA (kE (zP HO_7.out) (kC ho35) hb);replace BK178:=zA (zB1 BK178.out hb);replace HR201_0:=zA (kO (by repeat (first | (with_reducible exact HR201_0.out) | (with_reducible refine Kd.C_alloc ?_ _) | (with_reducible refine Kd.C_drewN ?_ _) | (with_reducible refine Kd.C_drew ?_) | exact HR201_0.out)) hb);replace HR202_0:=zA (kO (by repeat (first | (with_reducible exact HR202_0.out) | (with_reducible refine Kd.C_alloc ?_ _) | (with_reducible refine Kd.C_drewN ?_ _) | (with_reducible refine Kd.C_drew ?_) | exact HR202_0.out)) hb);replace HB:=zA (kQ (zT HB.out GE178.out) hb);clear hb ho35;have p206:0 ≤ (x12_2:Int):=zd;have q206:x12_2 < (x9_2.length:Int):=zd;obtain ⟨ad206,A206_0,c206_0,e206,hx206_0,hl206_0,hi206_0⟩:=at_L1 (Kd.N_reads' HO_9.out).2.2 x12_2 p206 q206;obtain rfl:(⟨go18,0,none⟩:Addr) = ad206:=(by injection e206);obtain ⟨ce206,hce206,hMe206,hcc206⟩:=Kd.N_get HO_9.out [] x12_2 p206 (by first | exact q206 | exact zd | (have e_:=(Kd.N_reads' HO_9.out).1;omega));obtain ⟨ua206_0,uc206_0,rfl,ul206_0,ge206_0⟩:=Kd.FK_slice_open hMe206;have hv206_0:=hcc206 0 _ rfl;rw [Nat.add_zero,show ((Kd.slice 2 (Kd.int .i64))).sz = 1 from rfl,Nat.mul_one] at hv206_0;replace hv206_0:=Option.some.inj (hv206_0.symm.trans hx206_0);injection hv206_0 with hva_ hvn_ hvc_;rw [hva_] at ge206_0;rw [hvc_] at ul206_0;have HL206_0:=zA (show Kd.V (Kd.int .i64) 2 _ w.heap.size _ _ (rd_L1 x9_2 x12_2) from Kd.V_mk ul206_0 ge206_0);clear hva_ hvn_ hvc_ ge206_0 ul206_0;clear hcc206 hce206;(first | simp only [add_plain] at hx206_0 | simp only [add_at] at hx206_0 | simp only [Addr.add,Nat.zero_add] at hx206_0 | skip);have HR206_0:=zA hi206_0;have HC206_0:=zA hl206_0;clear hi206_0 hl206_0;replace p206:=eq_true p206;replace q206:=eq_true q206) | ((with_reducible refine gate_builtin (b:=.append) (xs:=#[.tmp 70,.tmp 74]) rfl ?_);at_builtin;refine Kd.R_append_rows (Kd.int .i64) (w0:=w) w.heap.size rfl (.tmp 70) (.tmp 74) 22 2 (.int .i64 0) 8 rfl Tryd.underlying22 info2 rfl (by decide) (by omega) v204 y203 (rd_L1 x9_2 x12_2) _ _ _ (fun k_=>some k_ ≠ (.slice (some ad199) t182.length co10:Value).ownBlock) (fun _=>False) rfl rfl ?aO ?aR (fun _ _ h=>h) (fun _ h=>h.elim) ?aF ?aB ?aS ?aL ?_;(case aR=>repeat (first | exact (by repeat (first | (with_reducible exact HR206_0.out) | (with_reducible refine Kd.C_alloc ?_ _) | (with_reducible refine Kd.C_drewN ?_ _) | (with_reducible refine Kd.C_drew ?_) | exact HR206_0.out)) | (with_reducible refine Kd.C_alloc ?_ _) | (with_reducible refine Kd.C_drewN ?_ _) | (with_reducible refine Kd.C_drew ?_)));(case aB=>exact (zT HB.out GE178.out));(case aF=>exact (fun k_ hk=>jF (kH (zP HO_7.out)) k_ hk));(case aO=>exact (by (with_reducible repeat (first | apply zF | apply zG | apply zH));exact kA HO205.out (fun _ hk=>hk.2)));(case aS=>exact (kP (zT HB.out GE178.out)));(case aL=>have:=LMc32.out;omega);intro v208 w36 ho hb hg hat;rw [← Ny207.out] at ho;replace HO_7:=zA (Kd.R_after (ok:=(fun _=>True)) (zP HO_7.out) hg hat);replace HO_9:=zA (Kd.N_afterv (ok:=(fun k_=>some k_ ≠ (.slice (some ad199) t182.length co10:Value).ownBlock ∧ k_ ≠ gb178)) (zPN HO_9.out) hg hat);replace HO_10:=zA (Kd.V_afterv (ok:=(fun k_=>some k_ ≠ (.slice (some ad199) t182.length co10:Value).ownBlock ∧ some k_ ≠ (.slice (some ⟨go18,0,none⟩) x9_2.length co18:Value).ownBlock ∧ k_ ≠ gb178)) (zPV HO_10.out) hg hat);replace BK178:=zA (blk_grown (g:=gb178) (o:=.cells #[.int .i64 a0_0,.slice A0_1 l0_1.length c0_1] 28 (0,0)) (zR BK178.out) hg (Kd.R_ne HO205.out BK178.out (by decide)));replace HL201_0:=zA (Kd.V_afterv (ok:=(fun k_=>some k_ ≠ (.slice (some ad199) t182.length co10:Value).ownBlock ∧ some k_ ≠ (.slice (some ⟨go18,0,none⟩) x9_2.length co18:Value).ownBlock ∧ k_ ≠ gb178)) (by (with_reducible repeat (first | apply Kd.V_alloc | apply Kd.V_drewN | apply Kd.V_drew));exact kN HL201_0.out (fun _ hk=>⟨⟨hk.1.1.1,⟨hk.1.2,hk.1.1.2⟩⟩,hk.2⟩)) hg hat);replace HL202_0:=zA (Kd.V_afterv (ok:=(fun k_=>some k_ ≠ (.slice (some ad199) t182.length co10:Value).ownBlock ∧ some k_ ≠ (.slice (some ⟨go18,0,none⟩) x9_2.length co18:Value).ownBlock ∧ k_ ≠ gb178)) (by (with_reducible repeat (first | apply Kd.V_alloc | apply Kd.V_drewN | apply Kd.V_drew));exact kN HL202_0.out (fun _ hk=>⟨⟨hk.1.1.1,⟨hk.1.2,hk.1.1.2⟩⟩,hk.2⟩)) hg hat);replace HL206_0:=zA (Kd.V_afterv (ok:=(fun k_=>some k_ ≠ (.slice (some ad199) t182.length co10:Value).ownBlock ∧ some k_ ≠ (.slice (some ⟨go18,0,none⟩) x9_2.length co18:Value).ownBlock ∧ k_ ≠ gb178)) (by (with_reducible repeat (first | apply Kd.V_alloc | apply Kd.V_drewN | apply Kd.V_drew));exact kN HL206_0.out (fun _ hk=>⟨⟨hk.1.1.1,⟨hk.2,hk.1.1.2⟩⟩,hk.1.2⟩)) hg hat);replace HB:=zA (hb);have HO209:=zA (ho);clear HO205;clear ho hb hg hat;have p33:0 ≤ (x11_1:Int):=zd;have q33:(x11_1:Int) < ((x9_2.length:Int):Int):=zd;obtain ⟨ce33,hcl33,hM33,hcc33,hfr33⟩:=Kd.N_elem HO_9.out [] (x11_1:Int) p33 q33;obtain ⟨ua33_0,uc33_0,rfl,ul33_0,ge33_0⟩:=Kd.FK_slice_open hM33;have hx33_0:=hcc33 0 _ rfl;have hf33_0:=hfr33 0;(try simp only [show ((Kd.slice 2 (Kd.int .i64))).sz = 1 from rfl,Nat.mul_one,Nat.add_zero] at hx33_0);(try simp only [show ((Kd.slice 2 (Kd.int .i64))).sz = 1 from rfl,Nat.mul_one,Nat.add_zero] at hf33_0);clear hcl33 hcc33 hfr33 hM33;replace p33:=eq_true p33;replace q33:=eq_true q33;have n_:=zA (Kd.N_mono (ok' := (fun k_=>some k_ ≠ (.slice (some ad199) t182.length co10:Value).ownBlock ∧ some k_ ≠ (v208:Value).ownBlock ∧ k_ ≠ gb178)) HO_9.out (fun k_ hk=>⟨hk.1.1,⟨hk.2,hk.1.2⟩⟩));clear HO_9;have HO_9:=n_;clear n_;have HX37:=zA (show Kd.N (Kd.slice 2 (Kd.int .i64)) 22 w36 w.heap.size (fun k_=>some k_ ≠ (.slice (some ad199) t182.length co10:Value).ownBlock ∧ k_ ≠ gb178) (.slice (some ⟨go18,0,none⟩) x9_2.length co18) x9_2 from (by (with_reducible repeat (first | apply Kd.N_alloc | apply Kd.N_drewN | apply Kd.N_drew));exact Kd.N_mono HO_9.out (fun _ hk=>⟨hk.1,hk.2.2⟩)));obtain ⟨ce37,hcl37,hM37,hcc37,hfr37⟩:=Kd.N_elem HX37.out [] (x11_1:Int) (zd) (by have h_:(x11_1:Int) < ((x9_2.length:Int):Int):=zd;first | exact h_ | (have e_:=(Kd.N_reads' HO_9.out).1;omega) | simpa using h_);obtain ⟨ua37_0,uc37_0,rfl,ul37_0,ge37_0⟩:=Kd.FK_slice_open hM37;obtain ⟨Aq208,cq208,eq208⟩:=kM HO209.out;subst eq208;have HP37:=Kd.N_seg HX37.out (x11_1:Int) (zd) (by have h_:(x11_1:Int) < ((x9_2.length:Int):Int):=zd;first | exact h_ | (have e_:=(Kd.N_reads' HO_9.out).1;omega) | simpa using h_) (seg:=[(.slice Aq208 y207.length cq208)]) (j:=0) hcl37 hcc37 (show 1 ≤ 1 from by decide) (x' := y207) (Kd.FK_slice_mk (kB (kA (ok' := (fun k_=>((fun k_=>some k_ ≠ (.slice (some ad199) t182.length co10:Value).ownBlock ∧ k_ ≠ gb178)) k_ ∧ k_ ≠ go18)) (kD (Kd.R_apart' (HO209.out) (Kd.N_typed HO_9.out) (by decide)) BK178.out (by decide)) (fun k_ hk=>⟨⟨hk.1.1,hk.2⟩,fun e_=>(hk.1.2) (by rw [e_];rfl)⟩))).2.1 (Kd.R_F (kA (ok' := (fun k_=>((fun k_=>some k_ ≠ (.slice (some ad199) t182.length co10:Value).ownBlock ∧ k_ ≠ gb178)) k_ ∧ k_ ≠ go18)) (kD (Kd.R_apart' (HO209.out) (Kd.N_typed HO_9.out) (by decide)) BK178.out (by decide)) (fun k_ hk=>⟨⟨hk.1.1,hk.2⟩,fun e_=>(hk.1.2) (by rw [e_];rfl)⟩)))) (fun _ hk=>hk);have hx37_0:=hcc37 0 _ rfl;(try simp only [show ((Kd.slice 2 (Kd.int .i64))).sz = 1 from rfl,Nat.mul_one,Nat.add_zero] at hx37_0);have hf37_0:=hfr37 0;(try simp only [show ((Kd.slice 2 (Kd.int .i64))).sz = 1 from rfl,Nat.mul_one,Nat.add_zero] at hf37_0);clear hcl37 hcc37 hfr37 hM37;(try simp only [show ((Kd.slice 2 (Kd.int .i64))).sz = 1 from rfl,Nat.mul_one,Nat.add_zero] at HP37);(try simp only [show ((Kd.slice 2 (Kd.int .i64))).sz = 1 from rfl,Nat.mul_one,Nat.add_zero] at HP37)) | ((with_reducible refine gate_store (t:=22) (p:=76) rfl ?_);(try (rw [drewN_self w36];generalize hq_:World.drewN w36 _ = w36;have n0_:=zA (Kd.R_at hq_ HO_7.out);have n1_:=zA (Kd.N_at hq_ HO_9.out);have n2_:=zA (Kd.V_at hq_ HO_10.out);have n3_:=zA (Kd.V_at hq_ HL201_0.out);have n4_:=zA (Kd.V_at hq_ HL202_0.out);have n5_:=zA (Kd.V_at hq_ HL206_0.out);have n6_:=zA (blk_at hq_ BK178.out);have n7_:=zA (below_at hq_ HB.out);clear hq_ HO_7 HO_9 HO_10 HL201_0 HL202_0 HL206_0 BK178 HB;have HO_7:=n0_;have HO_9:=n1_;have HO_10:=n2_;have HL201_0:=n3_;have HL202_0:=n4_;have HL206_0:=n5_;have BK178:=n6_;have HB:=n7_;clear n0_ n1_ n2_ n3_ n4_ n5_ n6_ n7_;(try (have n_:=zA (Kd.N_mono (ok' := (fun k_=>some k_ ≠ (.slice (some ad199) t182.length co10:Value).ownBlock ∧ some k_ ≠ ((.slice Aq208 y207.length cq208):Value).ownBlock ∧ k_ ≠ gb178)) HO_9.out (fun k_ hk=>⟨hk.1.1,⟨hk.2,hk.1.2⟩⟩));clear HO_9;have HO_9:=n_;clear n_));(try (have HX37:=zA (show Kd.N (Kd.slice 2 (Kd.int .i64)) 22 w36 w.heap.size (fun k_=>some k_ ≠ (.slice (some ad199) t182.length co10:Value).ownBlock ∧ k_ ≠ gb178) (.slice (some ⟨go18,0,none⟩) x9_2.length co18) x9_2 from (by (with_reducible repeat (first | apply Kd.N_alloc | apply Kd.N_drewN | apply Kd.N_drew));exact Kd.N_mono HO_9.out (fun _ hk=>⟨hk.1,hk.2.2⟩)))));(try (obtain ⟨ce37,hcl37,hM37,hcc37,hfr37⟩:=Kd.N_elem HX37.out [] (x11_1:Int) (zd) (by have h_:(x11_1:Int) < ((x9_2.length:Int):Int):=zd;first | exact h_ | (have e_:=(Kd.N_reads' HO_9.out).1;omega) | simpa using h_)));(try (obtain ⟨ua37_0,uc37_0,rfl,ul37_0,ge37_0⟩:=Kd.FK_slice_open hM37));(try (have HP37:=Kd.N_seg HX37.out (x11_1:Int) (zd) (by have h_:(x11_1:Int) < ((x9_2.length:Int):Int):=zd;first | exact h_ | (have e_:=(Kd.N_reads' HO_9.out).1;omega) | simpa using h_) (seg:=[(.slice Aq208 y207.length cq208)]) (j:=0) hcl37 hcc37 (show 1 ≤ 1 from by decide) (x' := y207) (Kd.FK_slice_mk (kB (kA (ok' := (fun k_=>((fun k_=>some k_ ≠ (.slice (some ad199) t182.length co10:Value).ownBlock ∧ k_ ≠ gb178)) k_ ∧ k_ ≠ go18)) (kD (Kd.R_apart' (HO209.out) (Kd.N_typed HO_9.out) (by decide)) BK178.out (by decide)) (fun k_ hk=>⟨⟨hk.1.1,hk.2⟩,fun e_=>(hk.1.2) (by rw [e_];rfl)⟩))).2.1 (Kd.R_F (kA (ok' := (fun k_=>((fun k_=>some k_ ≠ (.slice (some ad199) t182.length co10:Value).ownBlock ∧ k_ ≠ gb178)) k_ ∧ k_ ≠ go18)) (kD (Kd.R_apart' (HO209.out) (Kd.N_typed HO_9.out) (by decide)) BK178.out (by decide)) (fun k_ hk=>⟨⟨hk.1.1,hk.2⟩,fun e_=>(hk.1.2) (by rw [e_];rfl)⟩)))) (fun _ hk=>hk)));(try (have hx37_0:=hcc37 0 _ rfl));(try (try simp only [show ((Kd.slice 2 (Kd.int .i64))).sz = 1 from rfl,Nat.mul_one,Nat.add_zero] at hx37_0));(try (have hf37_0:=hfr37 0));(try (try simp only [show ((Kd.slice 2 (Kd.int .i64))).sz = 1 from rfl,Nat.mul_one,Nat.add_zero] at hf37_0));(try (clear hcl37 hcc37 hfr37 hM37));(try (try simp only [show ((Kd.slice 2 (Kd.int .i64))).sz = 1 from rfl,Nat.mul_one,Nat.add_zero] at HP37));(try (try simp only [show ((Kd.slice 2 (Kd.int .i64))).sz = 1 from rfl,Nat.mul_one,Nat.add_zero] at HP37))));refine store_event (t:=22) (p:=76) (v:=?vo_w38) (w1:=(w36.setCell ⟨go18,(x11_1:Int).toNat,none⟩ ((.slice Aq208 y207.length cq208)))) ?hg ?ho ?hn ?hr ?_;(case ho=>rfl);(case hg=>rfl);(case hn=>rfl);(case hr=>first | (go_simp;done) | (go_simp;rfl));intro w38 hw;have hg:w36.grownBy w38 (some go18):=(by rw [hw];exact HP37.2);have hp_:Kd.N (Kd.slice 2 (Kd.int .i64)) 22 w38 w.heap.size (fun k_=>some k_ ≠ (.slice (some ad199) t182.length co10:Value).ownBlock ∧ k_ ≠ gb178) (.slice (some ⟨go18,0,none⟩) x9_2.length co18) y210:=(by rw [hw,Ny210.out];exact HP37.1);clear HP37;replace HO_7:=zA (Kd.R_over' (v:=(.slice (some ⟨go18,0,none⟩) x9_2.length co18)) (zP HO_7.out) (Kd.N_typed HO_9.out) (by decide) hg);replace HO_10:=zA (Kd.V_afterv (v:=(.slice (some ⟨go18,0,none⟩) x9_2.length co18)) (v1:=(.slice (some ⟨go18,0,none⟩) x9_2.length co18)) (ok:=(fun k_=>some k_ ≠ (.slice (some ad199) t182.length co10:Value).ownBlock ∧ some k_ ≠ ((.slice Aq208 y207.length cq208):Value).ownBlock ∧ k_ ≠ gb178)) (by (with_reducible repeat (first | apply Kd.V_alloc | apply Kd.V_drewN | apply Kd.V_drew));exact kN HO_10.out (fun _ hk=>⟨⟨hk.1.1,⟨hk.2,hk.1.2.2⟩⟩,hk.1.2.1⟩)) hg (.inl rfl));replace BK178:=zA (blk_grown (g:=gb178) (o:=.cells #[.int .i64 a0_0,.slice A0_1 l0_1.length c0_1] 28 (0,0)) (zR BK178.out) hg (Kd.N_ne HO_9.out BK178.out (by decide)));replace HO_9:=zA (hp_);replace HL201_0:=zA (Kd.V_afterv (v:=(.slice (some ⟨go18,0,none⟩) x9_2.length co18)) (v1:=(.slice (some ⟨go18,0,none⟩) x9_2.length co18)) (ok:=(fun k_=>some k_ ≠ (.slice (some ad199) t182.length co10:Value).ownBlock ∧ some k_ ≠ ((.slice Aq208 y207.length cq208):Value).ownBlock ∧ k_ ≠ gb178)) (by (with_reducible repeat (first | apply Kd.V_alloc | apply Kd.V_drewN | apply Kd.V_drew));exact kN HL201_0.out (fun _ hk=>⟨⟨hk.1.1,⟨hk.2,hk.1.2.2⟩⟩,hk.1.2.1⟩)) hg (.inl rfl));replace HL202_0:=zA (Kd.V_afterv (v:=(.slice (some ⟨go18,0,none⟩) x9_2.length co18)) (v1:=(.slice (some ⟨go18,0,none⟩) x9_2.length co18)) (ok:=(fun k_=>some k_ ≠ (.slice (some ad199) t182.length co10:Value).ownBlock ∧ some k_ ≠ ((.slice Aq208 y207.length cq208):Value).ownBlock ∧ k_ ≠ gb178)) (by (with_reducible repeat (first | apply Kd.V_alloc | apply Kd.V_drewN | apply Kd.V_drew));exact kN HL202_0.out (fun _ hk=>⟨⟨hk.1.1,⟨hk.2,hk.1.2.2⟩⟩,hk.1.2.1⟩)) hg (.inl rfl));replace HL206_0:=zA (Kd.V_afterv (v:=(.slice (some ⟨go18,0,none⟩) x9_2.length co18)) (v1:=(.slice (some ⟨go18,0,none⟩) x9_2.length co18)) (ok:=(fun k_=>some k_ ≠ (.slice (some ad199) t182.length co10:Value).ownBlock ∧ some k_ ≠ ((.slice Aq208 y207.length cq208):Value).ownBlock ∧ k_ ≠ gb178)) (by (with_reducible repeat (first | apply Kd.V_alloc | apply Kd.V_drewN | apply Kd.V_drew));exact kN HL206_0.out (fun _ hk=>⟨⟨hk.1.1,⟨hk.2,hk.1.2.2⟩⟩,hk.1.2.1⟩)) hg (.inl rfl));replace HB:=zA ((by rw [hw];exact zE (HB.out) GB18.out:Below w.heap.size w w38));clear HO209;clear hg hw hp_))
                    repeat (go_quiet (first | (go_at_call 28;(with_reducible refine (spec_l01Bit.calls (rd t182 x11_1) x12_2 true _ A26.out).mono ?_);rintro e w' ⟨rfl,⟨nd,rfl⟩⟩;(try exact zw);have p201:0 ≤ (x12_2:Int):=zd;have q201:x12_2 < (x9_2.length:Int):=zd;obtain ⟨ad201,A201_0,c201_0,e201,hx201_0,hl201_0,hi201_0⟩:=at_L1 (Kd.N_reads' HO_9.out).2.2 x12_2 p201 q201;obtain rfl:(⟨go18,0,none⟩:Addr) = ad201:=(by injection e201);obtain ⟨ce201,hce201,hMe201,hcc201⟩:=Kd.N_get HO_9.out [] x12_2 p201 (by first | exact q201 | exact zd | (have e_:=(Kd.N_reads' HO_9.out).1;omega));obtain ⟨ua201_0,uc201_0,rfl,ul201_0,ge201_0⟩:=Kd.FK_slice_open hMe201;have hv201_0:=hcc201 0 _ rfl;rw [Nat.add_zero,show ((Kd.slice 2 (Kd.int .i64))).sz = 1 from rfl,Nat.mul_one] at hv201_0;replace hv201_0:=Option.some.inj (hv201_0.symm.trans hx201_0);injection hv201_0 with hva_ hvn_ hvc_;rw [hva_] at ge201_0;rw [hvc_] at ul201_0;have HL201_0:=zA (show Kd.V (Kd.int .i64) 2 _ w.heap.size _ _ (rd_L1 x9_2 x12_2) from Kd.V_mk ul201_0 ge201_0);clear hva_ hvn_ hvc_ ge201_0 ul201_0;clear hcc201 hce201;(first | simp only [add_plain] at hx201_0 | simp only [add_at] at hx201_0 | simp only [Addr.add,Nat.zero_add] at hx201_0 | skip);have HR201_0:=zA hi201_0;have HC201_0:=zA hl201_0;clear hi201_0 hl201_0;replace p201:=eq_true p201;replace q201:=eq_true q201;have p202:0 ≤ (x11_1:Int):=zd;have q202:x11_1 < (x9_2.length:Int):=zd;obtain ⟨ad202,A202_0,c202_0,e202,hx202_0,hl202_0,hi202_0⟩:=at_L1 (Kd.N_reads' HO_9.out).2.2 x11_1 p202 q202;obtain rfl:(⟨go18,0,none⟩:Addr) = ad202:=(by injection e202);obtain ⟨ce202,hce202,hMe202,hcc202⟩:=Kd.N_get HO_9.out [] x11_1 p202 (by first | exact q202 | exact zd | (have e_:=(Kd.N_reads' HO_9.out).1;omega));obtain ⟨ua202_0,uc202_0,rfl,ul202_0,ge202_0⟩:=Kd.FK_slice_open hMe202;have hv202_0:=hcc202 0 _ rfl;rw [Nat.add_zero,show ((Kd.slice 2 (Kd.int .i64))).sz = 1 from rfl,Nat.mul_one] at hv202_0;replace hv202_0:=Option.some.inj (hv202_0.symm.trans hx202_0);injection hv202_0 with hva_ hvn_ hvc_;rw [hva_] at ge202_0;rw [hvc_] at ul202_0;have HL202_0:=zA (show Kd.V (Kd.int .i64) 2 _ w.heap.size _ _ (rd_L1 x9_2 x11_1) from Kd.V_mk ul202_0 ge202_0);clear hva_ hvn_ hvc_ ge202_0 ul202_0;clear hcc202 hce202;(first | simp only [add_plain] at hx202_0 | simp only [add_at] at hx202_0 | simp only [Addr.add,Nat.zero_add] at hx202_0 | skip);have HR202_0:=zA hi202_0;have HC202_0:=zA hl202_0;clear hi202_0 hl202_0;replace p202:=eq_true p202;replace q202:=eq_true q202) | ((with_reducible refine kS (N:=70) rfl ?_);refine Kd.R_lit (Kd.int .i64) _ 2 ?hg (N:=70) ?hd (xs:=([x11_1]:List Int)) (inner:=[.int .i64 x11_1]) (ok:=fun _=>True) (okp:=fun _=>True) ?hr ?hp (fun _ hk=>hk) trivial (kW _ _) (Nat.le_refl _) (by simp) ?_;(case hd=>rfl);(case hg=>rfl);(case hr=>first | (go_simp;done) | (go_simp;rfl));(case hp=>exact (Reps.one (show Kd.M (Kd.int .i64) _ _ _ x11_1 [.int .i64 x11_1] from rfl) (Reps.none _ _)));intro v204 w34 ho35 hb hg_ hnew_;clear hg_ hnew_;(first | rw [← Ny203.out] at ho35 | (simp only [Int.reduceToNat] at ho35;rw [← Ny203.out] at ho35));have n0_:=zA (kE (zP HO_7.out) (kC ho35) hb);have n1_:=zA (Kd.N_elder' (zPN HO_9.out) (kC ho35) hb);have n2_:=zA (kK (zPV HO_10.out) (kC ho35) hb);have n3_:=zA (kK (zPV HL201_0.out) (kC ho35) hb);have n4_:=zA (kK (zPV HL202_0.out) (kC ho35) hb);have n5_:=zA (kI (kF ho35 (kH (zP HO_7.out))) (kP (zT HB.out GE178.out)));have n6_:=zA (zB1 BK178.out hb);have n7_:=zA (kO (by repeat (first | (with_reducible exact HR201_0.out) | (with_reducible refine Kd.C_alloc ?_ _) | (with_reducible refine Kd.C_drewN ?_ _) | (with_reducible refine Kd.C_drew ?_) | exact HR201_0.out)) hb);have n8_:=zA (kO (by repeat (first | (with_reducible exact HR202_0.out) | (with_reducible refine Kd.C_alloc ?_ _) | (with_reducible refine Kd.C_drewN ?_ _) | (with_reducible refine Kd.C_drew ?_) | exact HR202_0.out)) hb);have n9_:=zA (kQ (zT HB.out GE178.out) hb);clear HO_7;clear HO_9;clear HO_10;clear HL201_0;clear HL202_0;clear BK178;clear HR201_0;clear HR202_0;clear HB;have HO_7:=n0_;have HO_9:=n1_;have HO_10:=n2_;have HL201_0:=n3_;have HL202_0:=n4_;have HO205:=n5_;have BK178:=n6_;have HR201_0:=n7_;have HR202_0:=n8_;have HB:=n9_;clear n0_ n1_ n2_ n3_ n4_ n5_ n6_ n7_ n8_ n9_;clear hb ho35;have p206:0 ≤ (x12_2:Int):=zd;have q206:x12_2 < (x9_2.length:Int):=zd;obtain ⟨ad206,A206_0,c206_0,e206,hx206_0,hl206_0,hi206_0⟩:=at_L1 (Kd.N_reads' HO_9.out).2.2 x12_2 p206 q206;obtain rfl:(⟨go18,0,none⟩:Addr) = ad206:=(by injection e206);obtain ⟨ce206,hce206,hMe206,hcc206⟩:=Kd.N_get HO_9.out [] x12_2 p206 (by first | exact q206 | exact zd | (have e_:=(Kd.N_reads' HO_9.out).1;omega));obtain ⟨ua206_0,uc206_0,rfl,ul206_0,ge206_0⟩:=Kd.FK_slice_open hMe206;have hv206_0:=hcc206 0 _ rfl;rw [Nat.add_zero,show ((Kd.slice 2 (Kd.int .i64))).sz = 1 from rfl,Nat.mul_one] at hv206_0;replace hv206_0:=Option.some.inj (hv206_0.symm.trans hx206_0);injection hv206_0 with hva_ hvn_ hvc_;rw [hva_] at ge206_0;rw [hvc_] at ul206_0;have HL206_0:=zA (show Kd.V (Kd.int .i64) 2 _ w.heap.size _ _ (rd_L1 x9_2 x12_2) from Kd.V_mk ul206_0 ge206_0);clear hva_ hvn_ hvc_ ge206_0 ul206_0;clear hcc206 hce206;(first | simp only [add_plain] at hx206_0 | simp only [add_at] at hx206_0 | simp only [Addr.add,Nat.zero_add] at hx206_0 | skip);have HR206_0:=zA hi206_0;have HC206_0:=zA hl206_0;clear hi206_0 hl206_0;replace p206:=eq_true p206;replace q206:=eq_true q206) | ((with_reducible refine gate_builtin (b:=.append) (xs:=#[.tmp 70,.tmp 74]) rfl ?_);at_builtin;refine Kd.R_append_rows (Kd.int .i64) (w0:=w) w.heap.size rfl (.tmp 70) (.tmp 74) 22 2 (.int .i64 0) 8 rfl Tryd.underlying22 info2 rfl (by decide) (by omega) v204 y203 (rd_L1 x9_2 x12_2) _ _ _ (fun k_=>some k_ ≠ (.slice (some ad199) t182.length co10:Value).ownBlock) (fun _=>False) rfl rfl ?aO ?aR (fun _ _ h=>h) (fun _ h=>h.elim) ?aF ?aB ?aS ?aL ?_;(case aR=>repeat (first | exact (by repeat (first | (with_reducible exact HR206_0.out) | (with_reducible refine Kd.C_alloc ?_ _) | (with_reducible refine Kd.C_drewN ?_ _) | (with_reducible refine Kd.C_drew ?_) | exact HR206_0.out)) | (with_reducible refine Kd.C_alloc ?_ _) | (with_reducible refine Kd.C_drewN ?_ _) | (with_reducible refine Kd.C_drew ?_)));(case aB=>exact (zT HB.out GE178.out));(case aF=>exact (fun k_ hk=>jF (kH (zP HO_7.out)) k_ hk));(case aO=>exact (by (with_reducible repeat (first | apply zF | apply zG | apply zH));exact kA HO205.out (fun _ hk=>hk.2)));(case aS=>exact (kP (zT HB.out GE178.out)));(case aL=>have:=LMc32.out;omega);intro v208 w36 ho hb hg hat;rw [← Ny207.out] at ho;have n0_:=zA (Kd.R_after (ok:=(fun _=>True)) (zP HO_7.out) hg hat);have n1_:=zA (Kd.N_afterv (ok:=(fun k_=>some k_ ≠ (.slice (some ad199) t182.length co10:Value).ownBlock ∧ k_ ≠ gb178)) (zPN HO_9.out) hg hat);have n2_:=zA (Kd.V_afterv (ok:=(fun k_=>some k_ ≠ (.slice (some ad199) t182.length co10:Value).ownBlock ∧ some k_ ≠ (.slice (some ⟨go18,0,none⟩) x9_2.length co18:Value).ownBlock ∧ k_ ≠ gb178)) (zPV HO_10.out) hg hat);have n3_:=zA (blk_grown (g:=gb178) (o:=.cells #[.int .i64 a0_0,.slice A0_1 l0_1.length c0_1] 28 (0,0)) (zR BK178.out) hg (Kd.R_ne HO205.out BK178.out (by decide)));have n4_:=zA (Kd.V_afterv (ok:=(fun k_=>some k_ ≠ (.slice (some ad199) t182.length co10:Value).ownBlock ∧ some k_ ≠ (.slice (some ⟨go18,0,none⟩) x9_2.length co18:Value).ownBlock ∧ k_ ≠ gb178)) (by (with_reducible repeat (first | apply Kd.V_alloc | apply Kd.V_drewN | apply Kd.V_drew));exact kN HL201_0.out (fun _ hk=>⟨⟨hk.1.1.1,⟨hk.1.2,hk.1.1.2⟩⟩,hk.2⟩)) hg hat);have n5_:=zA (Kd.V_afterv (ok:=(fun k_=>some k_ ≠ (.slice (some ad199) t182.length co10:Value).ownBlock ∧ some k_ ≠ (.slice (some ⟨go18,0,none⟩) x9_2.length co18:Value).ownBlock ∧ k_ ≠ gb178)) (by (with_reducible repeat (first | apply Kd.V_alloc | apply Kd.V_drewN | apply Kd.V_drew));exact kN HL202_0.out (fun _ hk=>⟨⟨hk.1.1.1,⟨hk.1.2,hk.1.1.2⟩⟩,hk.2⟩)) hg hat);have n6_:=zA (Kd.V_afterv (ok:=(fun k_=>some k_ ≠ (.slice (some ad199) t182.length co10:Value).ownBlock ∧ some k_ ≠ (.slice (some ⟨go18,0,none⟩) x9_2.length co18:Value).ownBlock ∧ k_ ≠ gb178)) (by (with_reducible repeat (first | apply Kd.V_alloc | apply Kd.V_drewN | apply Kd.V_drew));exact kN HL206_0.out (fun _ hk=>⟨⟨hk.1.1.1,⟨hk.2,hk.1.1.2⟩⟩,hk.1.2⟩)) hg hat);have n7_:=zA (hb);have n8_:=zA (ho);clear HO_7;clear HO_9;clear HO_10;clear BK178;clear HL201_0;clear HL202_0;clear HL206_0;clear HB;clear HO205;have HO_7:=n0_;have HO_9:=n1_;have HO_10:=n2_;have BK178:=n3_;have HL201_0:=n4_;have HL202_0:=n5_;have HL206_0:=n6_;have HB:=n7_;have HO209:=n8_;clear n0_ n1_ n2_ n3_ n4_ n5_ n6_ n7_ n8_;clear ho hb hg hat;have p33:0 ≤ (x11_1:Int):=zd;have q33:(x11_1:Int) < ((x9_2.length:Int):Int):=zd;obtain ⟨ce33,hcl33,hM33,hcc33,hfr33⟩:=Kd.N_elem HO_9.out [] (x11_1:Int) p33 q33;obtain ⟨ua33_0,uc33_0,rfl,ul33_0,ge33_0⟩:=Kd.FK_slice_open hM33;have hx33_0:=hcc33 0 _ rfl;have hf33_0:=hfr33 0;(try simp only [show ((Kd.slice 2 (Kd.int .i64))).sz = 1 from rfl,Nat.mul_one,Nat.add_zero] at hx33_0);(try simp only [show ((Kd.slice 2 (Kd.int .i64))).sz = 1 from rfl,Nat.mul_one,Nat.add_zero] at hf33_0);clear hcl33 hcc33 hfr33 hM33;replace p33:=eq_true p33;replace q33:=eq_true q33;have n_:=zA (Kd.N_mono (ok' := (fun k_=>some k_ ≠ (.slice (some ad199) t182.length co10:Value).ownBlock ∧ some k_ ≠ (v208:Value).ownBlock ∧ k_ ≠ gb178)) HO_9.out (fun k_ hk=>⟨hk.1.1,⟨hk.2,hk.1.2⟩⟩));clear HO_9;have HO_9:=n_;clear n_;have HX37:=zA (show Kd.N (Kd.slice 2 (Kd.int .i64)) 22 w36 w.heap.size (fun k_=>some k_ ≠ (.slice (some ad199) t182.length co10:Value).ownBlock ∧ k_ ≠ gb178) (.slice (some ⟨go18,0,none⟩) x9_2.length co18) x9_2 from (by (with_reducible repeat (first | apply Kd.N_alloc | apply Kd.N_drewN | apply Kd.N_drew));exact Kd.N_mono HO_9.out (fun _ hk=>⟨hk.1,hk.2.2⟩)));obtain ⟨ce37,hcl37,hM37,hcc37,hfr37⟩:=Kd.N_elem HX37.out [] (x11_1:Int) (zd) (by have h_:(x11_1:Int) < ((x9_2.length:Int):Int):=zd;first | exact h_ | (have e_:=(Kd.N_reads' HO_9.out).1;omega) | simpa using h_);obtain ⟨ua37_0,uc37_0,rfl,ul37_0,ge37_0⟩:=Kd.FK_slice_open hM37;obtain ⟨Aq208,cq208,eq208⟩:=kM HO209.out;subst eq208;have HP37:=Kd.N_seg HX37.out (x11_1:Int) (zd) (by have h_:(x11_1:Int) < ((x9_2.length:Int):Int):=zd;first | exact h_ | (have e_:=(Kd.N_reads' HO_9.out).1;omega) | simpa using h_) (seg:=[(.slice Aq208 y207.length cq208)]) (j:=0) hcl37 hcc37 (show 1 ≤ 1 from by decide) (x' := y207) (Kd.FK_slice_mk (kB (kA (ok' := (fun k_=>((fun k_=>some k_ ≠ (.slice (some ad199) t182.length co10:Value).ownBlock ∧ k_ ≠ gb178)) k_ ∧ k_ ≠ go18)) (kD (Kd.R_apart' (HO209.out) (Kd.N_typed HO_9.out) (by decide)) BK178.out (by decide)) (fun k_ hk=>⟨⟨hk.1.1,hk.2⟩,fun e_=>(hk.1.2) (by rw [e_];rfl)⟩))).2.1 (Kd.R_F (kA (ok' := (fun k_=>((fun k_=>some k_ ≠ (.slice (some ad199) t182.length co10:Value).ownBlock ∧ k_ ≠ gb178)) k_ ∧ k_ ≠ go18)) (kD (Kd.R_apart' (HO209.out) (Kd.N_typed HO_9.out) (by decide)) BK178.out (by decide)) (fun k_ hk=>⟨⟨hk.1.1,hk.2⟩,fun e_=>(hk.1.2) (by rw [e_];rfl)⟩)))) (fun _ hk=>hk);have hx37_0:=hcc37 0 _ rfl;(try simp only [show ((Kd.slice 2 (Kd.int .i64))).sz = 1 from rfl,Nat.mul_one,Nat.add_zero] at hx37_0);have hf37_0:=hfr37 0;(try simp only [show ((Kd.slice 2 (Kd.int .i64))).sz = 1 from rfl,Nat.mul_one,Nat.add_zero] at hf37_0);clear hcl37 hcc37 hfr37 hM37;(try simp only [show ((Kd.slice 2 (Kd.int .i64))).sz = 1 from rfl,Nat.mul_one,Nat.add_zero] at HP37);(try simp only [show ((Kd.slice 2 (Kd.int .i64))).sz = 1 from rfl,Nat.mul_one,Nat.add_zero] at HP37)) | ((with_reducible refine gate_store (t:=22) (p:=76) rfl ?_);(try (rw [drewN_self w36];generalize hq_:World.drewN w36 _ = w36;have n0_:=zA (Kd.R_at hq_ HO_7.out);have n1_:=zA (Kd.N_at hq_ HO_9.out);have n2_:=zA (Kd.V_at hq_ HO_10.out);have n3_:=zA (Kd.V_at hq_ HL201_0.out);have n4_:=zA (Kd.V_at hq_ HL202_0.out);have n5_:=zA (Kd.V_at hq_ HL206_0.out);have n6_:=zA (blk_at hq_ BK178.out);have n7_:=zA (below_at hq_ HB.out);clear hq_ HO_7 HO_9 HO_10 HL201_0 HL202_0 HL206_0 BK178 HB;have HO_7:=n0_;have HO_9:=n1_;have HO_10:=n2_;have HL201_0:=n3_;have HL202_0:=n4_;have HL206_0:=n5_;have BK178:=n6_;have HB:=n7_;clear n0_ n1_ n2_ n3_ n4_ n5_ n6_ n7_;(try (have n_:=zA (Kd.N_mono (ok' := (fun k_=>some k_ ≠ (.slice (some ad199) t182.length co10:Value).ownBlock ∧ some k_ ≠ ((.slice Aq208 y207.length cq208):Value).ownBlock ∧ k_ ≠ gb178)) HO_9.out (fun k_ hk=>⟨hk.1.1,⟨hk.2,hk.1.2⟩⟩));clear HO_9;have HO_9:=n_;clear n_));(try (have HX37:=zA (show Kd.N (Kd.slice 2 (Kd.int .i64)) 22 w36 w.heap.size (fun k_=>some k_ ≠ (.slice (some ad199) t182.length co10:Value).ownBlock ∧ k_ ≠ gb178) (.slice (some ⟨go18,0,none⟩) x9_2.length co18) x9_2 from (by (with_reducible repeat (first | apply Kd.N_alloc | apply Kd.N_drewN | apply Kd.N_drew));exact Kd.N_mono HO_9.out (fun _ hk=>⟨hk.1,hk.2.2⟩)))));(try (obtain ⟨ce37,hcl37,hM37,hcc37,hfr37⟩:=Kd.N_elem HX37.out [] (x11_1:Int) (zd) (by have h_:(x11_1:Int) < ((x9_2.length:Int):Int):=zd;first | exact h_ | (have e_:=(Kd.N_reads' HO_9.out).1;omega) | simpa using h_)));(try (obtain ⟨ua37_0,uc37_0,rfl,ul37_0,ge37_0⟩:=Kd.FK_slice_open hM37));(try (have HP37:=Kd.N_seg HX37.out (x11_1:Int) (zd) (by have h_:(x11_1:Int) < ((x9_2.length:Int):Int):=zd;first | exact h_ | (have e_:=(Kd.N_reads' HO_9.out).1;omega) | simpa using h_) (seg:=[(.slice Aq208 y207.length cq208)]) (j:=0) hcl37 hcc37 (show 1 ≤ 1 from by decide) (x' := y207) (Kd.FK_slice_mk (kB (kA (ok' := (fun k_=>((fun k_=>some k_ ≠ (.slice (some ad199) t182.length co10:Value).ownBlock ∧ k_ ≠ gb178)) k_ ∧ k_ ≠ go18)) (kD (Kd.R_apart' (HO209.out) (Kd.N_typed HO_9.out) (by decide)) BK178.out (by decide)) (fun k_ hk=>⟨⟨hk.1.1,hk.2⟩,fun e_=>(hk.1.2) (by rw [e_];rfl)⟩))).2.1 (Kd.R_F (kA (ok' := (fun k_=>((fun k_=>some k_ ≠ (.slice (some ad199) t182.length co10:Value).ownBlock ∧ k_ ≠ gb178)) k_ ∧ k_ ≠ go18)) (kD (Kd.R_apart' (HO209.out) (Kd.N_typed HO_9.out) (by decide)) BK178.out (by decide)) (fun k_ hk=>⟨⟨hk.1.1,hk.2⟩,fun e_=>(hk.1.2) (by rw [e_];rfl)⟩)))) (fun _ hk=>hk)));(try (have hx37_0:=hcc37 0 _ rfl));(try (try simp only [show ((Kd.slice 2 (Kd.int .i64))).sz = 1 from rfl,Nat.mul_one,Nat.add_zero] at hx37_0));(try (have hf37_0:=hfr37 0));(try (try simp only [show ((Kd.slice 2 (Kd.int .i64))).sz = 1 from rfl,Nat.mul_one,Nat.add_zero] at hf37_0));(try (clear hcl37 hcc37 hfr37 hM37));(try (try simp only [show ((Kd.slice 2 (Kd.int .i64))).sz = 1 from rfl,Nat.mul_one,Nat.add_zero] at HP37));(try (try simp only [show ((Kd.slice 2 (Kd.int .i64))).sz = 1 from rfl,Nat.mul_one,Nat.add_zero] at HP37))));refine store_event (t:=22) (p:=76) (v:=?vo_w38) (w1:=(w36.setCell ⟨go18,(x11_1:Int).toNat,none⟩ ((.slice Aq208 y207.length cq208)))) ?hg ?ho ?hn ?hr ?_;(case ho=>rfl);(case hg=>rfl);(case hn=>rfl);(case hr=>first | (go_simp;done) | (go_simp;rfl));intro w38 hw;have hg:w36.grownBy w38 (some go18):=(by rw [hw];exact HP37.2);have hp_:Kd.N (Kd.slice 2 (Kd.int .i64)) 22 w38 w.heap.size (fun k_=>some k_ ≠ (.slice (some ad199) t182.length co10:Value).ownBlock ∧ k_ ≠ gb178) (.slice (some ⟨go18,0,none⟩) x9_2.length co18) y210:=(by rw [hw,Ny210.out];exact HP37.1);clear HP37;have n0_:=zA (Kd.R_over' (v:=(.slice (some ⟨go18,0,none⟩) x9_2.length co18)) (zP HO_7.out) (Kd.N_typed HO_9.out) (by decide) hg);have n1_:=zA (hp_);have n2_:=zA (Kd.V_afterv (v:=(.slice (some ⟨go18,0,none⟩) x9_2.length co18)) (v1:=(.slice (some ⟨go18,0,none⟩) x9_2.length co18)) (ok:=(fun k_=>some k_ ≠ (.slice (some ad199) t182.length co10:Value).ownBlock ∧ some k_ ≠ ((.slice Aq208 y207.length cq208):Value).ownBlock ∧ k_ ≠ gb178)) (by (with_reducible repeat (first | apply Kd.V_alloc | apply Kd.V_drewN | apply Kd.V_drew));exact kN HO_10.out (fun _ hk=>⟨⟨hk.1.1,⟨hk.2,hk.1.2.2⟩⟩,hk.1.2.1⟩)) hg (.inl rfl));have n3_:=zA (blk_grown (g:=gb178) (o:=.cells #[.int .i64 a0_0,.slice A0_1 l0_1.length c0_1] 28 (0,0)) (zR BK178.out) hg (Kd.N_ne HO_9.out BK178.out (by decide)));have n4_:=zA (Kd.V_afterv (v:=(.slice (some ⟨go18,0,none⟩) x9_2.length co18)) (v1:=(.slice (some ⟨go18,0,none⟩) x9_2.length co18)) (ok:=(fun k_=>some k_ ≠ (.slice (some ad199) t182.length co10:Value).ownBlock ∧ some k_ ≠ ((.slice Aq208 y207.length cq208):Value).ownBlock ∧ k_ ≠ gb178)) (by (with_reducible repeat (first | apply Kd.V_alloc | apply Kd.V_drewN | apply Kd.V_drew));exact kN HL201_0.out (fun _ hk=>⟨⟨hk.1.1,⟨hk.2,hk.1.2.2⟩⟩,hk.1.2.1⟩)) hg (.inl rfl));have n5_:=zA (Kd.V_afterv (v:=(.slice (some ⟨go18,0,none⟩) x9_2.length co18)) (v1:=(.slice (some ⟨go18,0,none⟩) x9_2.length co18)) (ok:=(fun k_=>some k_ ≠ (.slice (some ad199) t182.length co10:Value).ownBlock ∧ some k_ ≠ ((.slice Aq208 y207.length cq208):Value).ownBlock ∧ k_ ≠ gb178)) (by (with_reducible repeat (first | apply Kd.V_alloc | apply Kd.V_drewN | apply Kd.V_drew));exact kN HL202_0.out (fun _ hk=>⟨⟨hk.1.1,⟨hk.2,hk.1.2.2⟩⟩,hk.1.2.1⟩)) hg (.inl rfl));have n6_:=zA (Kd.V_afterv (v:=(.slice (some ⟨go18,0,none⟩) x9_2.length co18)) (v1:=(.slice (some ⟨go18,0,none⟩) x9_2.length co18)) (ok:=(fun k_=>some k_ ≠ (.slice (some ad199) t182.length co10:Value).ownBlock ∧ some k_ ≠ ((.slice Aq208 y207.length cq208):Value).ownBlock ∧ k_ ≠ gb178)) (by (with_reducible repeat (first | apply Kd.V_alloc | apply Kd.V_drewN | apply Kd.V_drew));exact kN HL206_0.out (fun _ hk=>⟨⟨hk.1.1,⟨hk.2,hk.1.2.2⟩⟩,hk.1.2.1⟩)) hg (.inl rfl));have n7_:=zA ((by rw [hw];exact zE (HB.out) GB18.out:Below w.heap.size w w38));clear HO_7;clear HO_9;clear HO_10;clear BK178;clear HL201_0;clear HL202_0;clear HL206_0;clear HB;clear HO209;have HO_7:=n0_;have HO_9:=n1_;have HO_10:=n2_;have BK178:=n3_;have HL201_0:=n4_;have HL202_0:=n5_;have HL206_0:=n6_;have HB:=n7_;clear n0_ n1_ n2_ n3_ n4_ n5_ n6_ n7_;clear hg hw hp_));try go_wp2_with (first | (go_at_call 28;(with_reducible refine (spec_l01Bit.calls (rd t182 x11_1) x12_2 true _ A26.out).mono ?_);rintro e w' ⟨rfl,⟨nd,rfl⟩⟩;(try exact zw);have p201:0 ≤ (x12_2:Int):=zd;have q201:x12_2 < (x9_2.length:Int):=zd;obtain ⟨ad201,A201_0,c201_0,e201,hx201_0,hl201_0,hi201_0⟩:=at_L1 (Kd.N_reads' HO_9.out).2.2 x12_2 p201 q201;obtain rfl:(⟨go18,0,none⟩:Addr) = ad201:=(by injection e201);obtain ⟨ce201,hce201,hMe201,hcc201⟩:=Kd.N_get HO_9.out [] x12_2 p201 (by first | exact q201 | exact zd | (have e_:=(Kd.N_reads' HO_9.out).1;omega));obtain ⟨ua201_0,uc201_0,rfl,ul201_0,ge201_0⟩:=Kd.FK_slice_open hMe201;have hv201_0:=hcc201 0 _ rfl;rw [Nat.add_zero,show ((Kd.slice 2 (Kd.int .i64))).sz = 1 from rfl,Nat.mul_one] at hv201_0;replace hv201_0:=Option.some.inj (hv201_0.symm.trans hx201_0);injection hv201_0 with hva_ hvn_ hvc_;rw [hva_] at ge201_0;rw [hvc_] at ul201_0;have HL201_0:=zA (show Kd.V (Kd.int .i64) 2 _ w.heap.size _ _ (rd_L1 x9_2 x12_2) from Kd.V_mk ul201_0 ge201_0);clear hva_ hvn_ hvc_ ge201_0 ul201_0;clear hcc201 hce201;(first | simp only [add_plain] at hx201_0 | simp only [add_at] at hx201_0 | simp only [Addr.add,Nat.zero_add] at hx201_0 | skip);have HR201_0:=zA hi201_0;have HC201_0:=zA hl201_0;clear hi201_0 hl201_0;replace p201:=eq_true p201;replace q201:=eq_true q201;have p202:0 ≤ (x11_1:Int):=zd;have q202:x11_1 < (x9_2.length:Int):=zd;obtain ⟨ad202,A202_0,c202_0,e202,hx202_0,hl202_0,hi202_0⟩:=at_L1 (Kd.N_reads' HO_9.out).2.2 x11_1 p202 q202;obtain rfl:(⟨go18,0,none⟩:Addr) = ad202:=(by injection e202);obtain ⟨ce202,hce202,hMe202,hcc202⟩:=Kd.N_get HO_9.out [] x11_1 p202 (by first | exact q202 | exact zd | (have e_:=(Kd.N_reads' HO_9.out).1;omega));obtain ⟨ua202_0,uc202_0,rfl,ul202_0,ge202_0⟩:=Kd.FK_slice_open hMe202;have hv202_0:=hcc202 0 _ rfl;rw [Nat.add_zero,show ((Kd.slice 2 (Kd.int .i64))).sz = 1 from rfl,Nat.mul_one] at hv202_0;replace hv202_0:=Option.some.inj (hv202_0.symm.trans hx202_0);injection hv202_0 with hva_ hvn_ hvc_;rw [hva_] at ge202_0;rw [hvc_] at ul202_0;have HL202_0:=zA (show Kd.V (Kd.int .i64) 2 _ w.heap.size _ _ (rd_L1 x9_2 x11_1) from Kd.V_mk ul202_0 ge202_0);clear hva_ hvn_ hvc_ ge202_0 ul202_0;clear hcc202 hce202;(first | simp only [add_plain] at hx202_0 | simp only [add_at] at hx202_0 | simp only [Addr.add,Nat.zero_add] at hx202_0 | skip);have HR202_0:=zA hi202_0;have HC202_0:=zA hl202_0;clear hi202_0 hl202_0;replace p202:=eq_true p202;replace q202:=eq_true q202) | ((with_reducible refine kS (N:=70) rfl ?_);refine Kd.R_lit (Kd.int .i64) _ 2 ?hg (N:=70) ?hd (xs:=([x11_1]:List Int)) (inner:=[.int .i64 x11_1]) (ok:=fun _=>True) (okp:=fun _=>True) ?hr ?hp (fun _ hk=>hk) trivial (kW _ _) (Nat.le_refl _) (by simp) ?_;(case hd=>rfl);(case hg=>rfl);(case hr=>first | (go_simp;done) | (go_simp;rfl));(case hp=>exact (Reps.one (show Kd.M (Kd.int .i64) _ _ _ x11_1 [.int .i64 x11_1] from rfl) (Reps.none _ _)));intro v204 w34 ho35 hb hg_ hnew_;clear hg_ hnew_;(first | rw [← Ny203.out] at ho35 | (simp only [Int.reduceToNat] at ho35;rw [← Ny203.out] at ho35));replace HO_9:=zA (Kd.N_elder' (zPN HO_9.out) (kC ho35) hb);replace HO_10:=zA (kK (zPV HO_10.out) (kC ho35) hb);replace HL201_0:=zA (kK (zPV HL201_0.out) (kC ho35) hb);replace HL202_0:=zA (kK (zPV HL202_0.out) (kC ho35) hb);have HO205:=zA (kI (kF ho35 (kH (zP HO_7.out))) (kP (zT HB.out GE178.out)));replace HO_7:=zA (kE (zP HO_7.out) (kC ho35) hb);replace BK178:=zA (zB1 BK178.out hb);replace HR201_0:=zA (kO (by repeat (first | (with_reducible exact HR201_0.out) | (with_reducible refine Kd.C_alloc ?_ _) | (with_reducible refine Kd.C_drewN ?_ _) | (with_reducible refine Kd.C_drew ?_) | exact HR201_0.out)) hb);replace HR202_0:=zA (kO (by repeat (first | (with_reducible exact HR202_0.out) | (with_reducible refine Kd.C_alloc ?_ _) | (with_reducible refine Kd.C_drewN ?_ _) | (with_reducible refine Kd.C_drew ?_) | exact HR202_0.out)) hb);replace HB:=zA (kQ (zT HB.out GE178.out) hb);clear hb ho35;have p206:0 ≤ (x12_2:Int):=zd;have q206:x12_2 < (x9_2.length:Int):=zd;obtain ⟨ad206,A206_0,c206_0,e206,hx206_0,hl206_0,hi206_0⟩:=at_L1 (Kd.N_reads' HO_9.out).2.2 x12_2 p206 q206;obtain rfl:(⟨go18,0,none⟩:Addr) = ad206:=(by injection e206);obtain ⟨ce206,hce206,hMe206,hcc206⟩:=Kd.N_get HO_9.out [] x12_2 p206 (by first | exact q206 | exact zd | (have e_:=(Kd.N_reads' HO_9.out).1;omega));obtain ⟨ua206_0,uc206_0,rfl,ul206_0,ge206_0⟩:=Kd.FK_slice_open hMe206;have hv206_0:=hcc206 0 _ rfl;rw [Nat.add_zero,show ((Kd.slice 2 (Kd.int .i64))).sz = 1 from rfl,Nat.mul_one] at hv206_0;replace hv206_0:=Option.some.inj (hv206_0.symm.trans hx206_0);injection hv206_0 with hva_ hvn_ hvc_;rw [hva_] at ge206_0;rw [hvc_] at ul206_0;have HL206_0:=zA (show Kd.V (Kd.int .i64) 2 _ w.heap.size _ _ (rd_L1 x9_2 x12_2) from Kd.V_mk ul206_0 ge206_0);clear hva_ hvn_ hvc_ ge206_0 ul206_0;clear hcc206 hce206;(first | simp only [add_plain] at hx206_0 | simp only [add_at] at hx206_0 | simp only [Addr.add,Nat.zero_add] at hx206_0 | skip);have HR206_0:=zA hi206_0;have HC206_0:=zA hl206_0;clear hi206_0 hl206_0;replace p206:=eq_true p206;replace q206:=eq_true q206) | ((with_reducible refine gate_builtin (b:=.append) (xs:=#[.tmp 70,.tmp 74]) rfl ?_);at_builtin;refine Kd.R_append_rows (Kd.int .i64) (w0:=w) w.heap.size rfl (.tmp 70) (.tmp 74) 22 2 (.int .i64 0) 8 rfl Tryd.underlying22 info2 rfl (by decide) (by omega) v204 y203 (rd_L1 x9_2 x12_2) _ _ _ (fun k_=>some k_ ≠ (.slice (some ad199) t182.length co10:Value).ownBlock) (fun _=>False) rfl rfl ?aO ?aR (fun _ _ h=>h) (fun _ h=>h.elim) ?aF ?aB ?aS ?aL ?_;(case aR=>repeat (first | exact (by repeat (first | (with_reducible exact HR206_0.out) | (with_reducible refine Kd.C_alloc ?_ _) | (with_reducible refine Kd.C_drewN ?_ _) | (with_reducible refine Kd.C_drew ?_) | exact HR206_0.out)) | (with_reducible refine Kd.C_alloc ?_ _) | (with_reducible refine Kd.C_drewN ?_ _) | (with_reducible refine Kd.C_drew ?_)));(case aB=>exact (zT HB.out GE178.out));(case aF=>exact (fun k_ hk=>jF (kH (zP HO_7.out)) k_ hk));(case aO=>exact (by (with_reducible repeat (first | apply zF | apply zG | apply zH));exact kA HO205.out (fun _ hk=>hk.2)));(case aS=>exact (kP (zT HB.out GE178.out)));(case aL=>have:=LMc32.out;omega);intro v208 w36 ho hb hg hat;rw [← Ny207.out] at ho;replace HO_7:=zA (Kd.R_after (ok:=(fun _=>True)) (zP HO_7.out) hg hat);replace HO_9:=zA (Kd.N_afterv (ok:=(fun k_=>some k_ ≠ (.slice (some ad199) t182.length co10:Value).ownBlock ∧ k_ ≠ gb178)) (zPN HO_9.out) hg hat);replace HO_10:=zA (Kd.V_afterv (ok:=(fun k_=>some k_ ≠ (.slice (some ad199) t182.length co10:Value).ownBlock ∧ some k_ ≠ (.slice (some ⟨go18,0,none⟩) x9_2.length co18:Value).ownBlock ∧ k_ ≠ gb178)) (zPV HO_10.out) hg hat);replace BK178:=zA (blk_grown (g:=gb178) (o:=.cells #[.int .i64 a0_0,.slice A0_1 l0_1.length c0_1] 28 (0,0)) (zR BK178.out) hg (Kd.R_ne HO205.out BK178.out (by decide)));replace HL201_0:=zA (Kd.V_afterv (ok:=(fun k_=>some k_ ≠ (.slice (some ad199) t182.length co10:Value).ownBlock ∧ some k_ ≠ (.slice (some ⟨go18,0,none⟩) x9_2.length co18:Value).ownBlock ∧ k_ ≠ gb178)) (by (with_reducible repeat (first | apply Kd.V_alloc | apply Kd.V_drewN | apply Kd.V_drew));exact kN HL201_0.out (fun _ hk=>⟨⟨hk.1.1.1,⟨hk.1.2,hk.1.1.2⟩⟩,hk.2⟩)) hg hat);replace HL202_0:=zA (Kd.V_afterv (ok:=(fun k_=>some k_ ≠ (.slice (some ad199) t182.length co10:Value).ownBlock ∧ some k_ ≠ (.slice (some ⟨go18,0,none⟩) x9_2.length co18:Value).ownBlock ∧ k_ ≠ gb178)) (by (with_reducible repeat (first | apply Kd.V_alloc | apply Kd.V_drewN | apply Kd.V_drew));exact kN HL202_0.out (fun _ hk=>⟨⟨hk.1.1.1,⟨hk.1.2,hk.1.1.2⟩⟩,hk.2⟩)) hg hat);replace HL206_0:=zA (Kd.V_afterv (ok:=(fun k_=>some k_ ≠ (.slice (some ad199) t182.length co10:Value).ownBlock ∧ some k_ ≠ (.slice (some ⟨go18,0,none⟩) x9_2.length co18:Value).ownBlock ∧ k_ ≠ gb178)) (by (with_reducible repeat (first | apply Kd.V_alloc | apply Kd.V_drewN | apply Kd.V_drew));exact kN HL206_0.out (fun _ hk=>⟨⟨hk.1.1.1,⟨hk.2,hk.1.1.2⟩⟩,hk.1.2⟩)) hg hat);replace HB:=zA (hb);have HO209:=zA (ho);clear HO205;clear ho hb hg hat;have p33:0 ≤ (x11_1:Int):=zd;have q33:(x11_1:Int) < ((x9_2.length:Int):Int):=zd;obtain ⟨ce33,hcl33,hM33,hcc33,hfr33⟩:=Kd.N_elem HO_9.out [] (x11_1:Int) p33 q33;obtain ⟨ua33_0,uc33_0,rfl,ul33_0,ge33_0⟩:=Kd.FK_slice_open hM33;have hx33_0:=hcc33 0 _ rfl;have hf33_0:=hfr33 0;(try simp only [show ((Kd.slice 2 (Kd.int .i64))).sz = 1 from rfl,Nat.mul_one,Nat.add_zero] at hx33_0);(try simp only [show ((Kd.slice 2 (Kd.int .i64))).sz = 1 from rfl,Nat.mul_one,Nat.add_zero] at hf33_0);clear hcl33 hcc33 hfr33 hM33;replace p33:=eq_true p33;replace q33:=eq_true q33;have n_:=zA (Kd.N_mono (ok' := (fun k_=>some k_ ≠ (.slice (some ad199) t182.length co10:Value).ownBlock ∧ some k_ ≠ (v208:Value).ownBlock ∧ k_ ≠ gb178)) HO_9.out (fun k_ hk=>⟨hk.1.1,⟨hk.2,hk.1.2⟩⟩));clear HO_9;have HO_9:=n_;clear n_;have HX37:=zA (show Kd.N (Kd.slice 2 (Kd.int .i64)) 22 w36 w.heap.size (fun k_=>some k_ ≠ (.slice (some ad199) t182.length co10:Value).ownBlock ∧ k_ ≠ gb178) (.slice (some ⟨go18,0,none⟩) x9_2.length co18) x9_2 from (by (with_reducible repeat (first | apply Kd.N_alloc | apply Kd.N_drewN | apply Kd.N_drew));exact Kd.N_mono HO_9.out (fun _ hk=>⟨hk.1,hk.2.2⟩)));obtain ⟨ce37,hcl37,hM37,hcc37,hfr37⟩:=Kd.N_elem HX37.out [] (x11_1:Int) (zd) (by have h_:(x11_1:Int) < ((x9_2.length:Int):Int):=zd;first | exact h_ | (have e_:=(Kd.N_reads' HO_9.out).1;omega) | simpa using h_);obtain ⟨ua37_0,uc37_0,rfl,ul37_0,ge37_0⟩:=Kd.FK_slice_open hM37;obtain ⟨Aq208,cq208,eq208⟩:=kM HO209.out;subst eq208;have HP37:=Kd.N_seg HX37.out (x11_1:Int) (zd) (by have h_:(x11_1:Int) < ((x9_2.length:Int):Int):=zd;first | exact h_ | (have e_:=(Kd.N_reads' HO_9.out).1;omega) | simpa using h_) (seg:=[(.slice Aq208 y207.length cq208)]) (j:=0) hcl37 hcc37 (show 1 ≤ 1 from by decide) (x' := y207) (Kd.FK_slice_mk (kB (kA (ok' := (fun k_=>((fun k_=>some k_ ≠ (.slice (some ad199) t182.length co10:Value).ownBlock ∧ k_ ≠ gb178)) k_ ∧ k_ ≠ go18)) (kD (Kd.R_apart' (HO209.out) (Kd.N_typed HO_9.out) (by decide)) BK178.out (by decide)) (fun k_ hk=>⟨⟨hk.1.1,hk.2⟩,fun e_=>(hk.1.2) (by rw [e_];rfl)⟩))).2.1 (Kd.R_F (kA (ok' := (fun k_=>((fun k_=>some k_ ≠ (.slice (some ad199) t182.length co10:Value).ownBlock ∧ k_ ≠ gb178)) k_ ∧ k_ ≠ go18)) (kD (Kd.R_apart' (HO209.out) (Kd.N_typed HO_9.out) (by decide)) BK178.out (by decide)) (fun k_ hk=>⟨⟨hk.1.1,hk.2⟩,fun e_=>(hk.1.2) (by rw [e_];rfl)⟩)))) (fun _ hk=>hk);have hx37_0:=hcc37 0 _ rfl;(try simp only [show ((Kd.slice 2 (Kd.int .i64))).sz = 1 from rfl,Nat.mul_one,Nat.add_zero] at hx37_0);have hf37_0:=hfr37 0;(try simp only [show ((Kd.slice 2 (Kd.int .i64))).sz = 1 from rfl,Nat.mul_one,Nat.add_zero] at hf37_0);clear hcl37 hcc37 hfr37 hM37;(try simp only [show ((Kd.slice 2 (Kd.int .i64))).sz = 1 from rfl,Nat.mul_one,Nat.add_zero] at HP37);(try simp only [show ((Kd.slice 2 (Kd.int .i64))).sz = 1 from rfl,Nat.mul_one,Nat.add_zero] at HP37)) | ((with_reducible refine gate_store (t:=22) (p:=76) rfl ?_);(try (rw [drewN_self w36];generalize hq_:World.drewN w36 _ = w36;have n0_:=zA (Kd.R_at hq_ HO_7.out);have n1_:=zA (Kd.N_at hq_ HO_9.out);have n2_:=zA (Kd.V_at hq_ HO_10.out);have n3_:=zA (Kd.V_at hq_ HL201_0.out);have n4_:=zA (Kd.V_at hq_ HL202_0.out);have n5_:=zA (Kd.V_at hq_ HL206_0.out);have n6_:=zA (blk_at hq_ BK178.out);have n7_:=zA (below_at hq_ HB.out);clear hq_ HO_7 HO_9 HO_10 HL201_0 HL202_0 HL206_0 BK178 HB;have HO_7:=n0_;have HO_9:=n1_;have HO_10:=n2_;have HL201_0:=n3_;have HL202_0:=n4_;have HL206_0:=n5_;have BK178:=n6_;have HB:=n7_;clear n0_ n1_ n2_ n3_ n4_ n5_ n6_ n7_;(try (have n_:=zA (Kd.N_mono (ok' := (fun k_=>some k_ ≠ (.slice (some ad199) t182.length co10:Value).ownBlock ∧ some k_ ≠ ((.slice Aq208 y207.length cq208):Value).ownBlock ∧ k_ ≠ gb178)) HO_9.out (fun k_ hk=>⟨hk.1.1,⟨hk.2,hk.1.2⟩⟩));clear HO_9;have HO_9:=n_;clear n_));(try (have HX37:=zA (show Kd.N (Kd.slice 2 (Kd.int .i64)) 22 w36 w.heap.size (fun k_=>some k_ ≠ (.slice (some ad199) t182.length co10:Value).ownBlock ∧ k_ ≠ gb178) (.slice (some ⟨go18,0,none⟩) x9_2.length co18) x9_2 from (by (with_reducible repeat (first | apply Kd.N_alloc | apply Kd.N_drewN | apply Kd.N_drew));exact Kd.N_mono HO_9.out (fun _ hk=>⟨hk.1,hk.2.2⟩)))));(try (obtain ⟨ce37,hcl37,hM37,hcc37,hfr37⟩:=Kd.N_elem HX37.out [] (x11_1:Int) (zd) (by have h_:(x11_1:Int) < ((x9_2.length:Int):Int):=zd;first | exact h_ | (have e_:=(Kd.N_reads' HO_9.out).1;omega) | simpa using h_)));(try (obtain ⟨ua37_0,uc37_0,rfl,ul37_0,ge37_0⟩:=Kd.FK_slice_open hM37));(try (have HP37:=Kd.N_seg HX37.out (x11_1:Int) (zd) (by have h_:(x11_1:Int) < ((x9_2.length:Int):Int):=zd;first | exact h_ | (have e_:=(Kd.N_reads' HO_9.out).1;omega) | simpa using h_) (seg:=[(.slice Aq208 y207.length cq208)]) (j:=0) hcl37 hcc37 (show 1 ≤ 1 from by decide) (x' := y207) (Kd.FK_slice_mk (kB (kA (ok' := (fun k_=>((fun k_=>some k_ ≠ (.slice (some ad199) t182.length co10:Value).ownBlock ∧ k_ ≠ gb178)) k_ ∧ k_ ≠ go18)) (kD (Kd.R_apart' (HO209.out) (Kd.N_typed HO_9.out) (by decide)) BK178.out (by decide)) (fun k_ hk=>⟨⟨hk.1.1,hk.2⟩,fun e_=>(hk.1.2) (by rw [e_];rfl)⟩))).2.1 (Kd.R_F (kA (ok' := (fun k_=>((fun k_=>some k_ ≠ (.slice (some ad199) t182.length co10:Value).ownBlock ∧ k_ ≠ gb178)) k_ ∧ k_ ≠ go18)) (kD (Kd.R_apart' (HO209.out) (Kd.N_typed HO_9.out) (by decide)) BK178.out (by decide)) (fun k_ hk=>⟨⟨hk.1.1,hk.2⟩,fun e_=>(hk.1.2) (by rw [e_];rfl)⟩)))) (fun _ hk=>hk)));(try (have hx37_0:=hcc37 0 _ rfl));(try (try simp only [show ((Kd.slice 2 (Kd.int .i64))).sz = 1 from rfl,Nat.mul_one,Nat.add_zero] at hx37_0));(try (have hf37_0:=hfr37 0));(try (try simp only [show ((Kd.slice 2 (Kd.int .i64))).sz = 1 from rfl,Nat.mul_one,Nat.add_zero] at hf37_0));(try (clear hcl37 hcc37 hfr37 hM37));(try (try simp only [show ((Kd.slice 2 (Kd.int .i64))).sz = 1 from rfl,Nat.mul_one,Nat.add_zero] at HP37));(try (try simp only [show ((Kd.slice 2 (Kd.int .i64))).sz = 1 from rfl,Nat.mul_one,Nat.add_zero] at HP37))));refine store_event (t:=22) (p:=76) (v:=?vo_w38) (w1:=(w36.setCell ⟨go18,(x11_1:Int).toNat,none⟩ ((.slice Aq208 y207.length cq208)))) ?hg ?ho ?hn ?hr ?_;(case ho=>rfl);(case hg=>rfl);(case hn=>rfl);(case hr=>first | (go_simp;done) | (go_simp;rfl));intro w38 hw;have hg:w36.grownBy w38 (some go18):=(by rw [hw];exact HP37.2);have hp_:Kd.N (Kd.slice 2 (Kd.int .i64)) 22 w38 w.heap.size (fun k_=>some k_ ≠ (.slice (some ad199) t182.length co10:Value).ownBlock ∧ k_ ≠ gb178) (.slice (some ⟨go18,0,none⟩) x9_2.length co18) y210:=(by rw [hw,Ny210.out];exact HP37.1);clear HP37;replace HO_7:=zA (Kd.R_over' (v:=(.slice (some ⟨go18,0,none⟩) x9_2.length co18)) (zP HO_7.out) (Kd.N_typed HO_9.out) (by decide) hg);replace HO_10:=zA (Kd.V_afterv (v:=(.slice (some ⟨go18,0,none⟩) x9_2.length co18)) (v1:=(.slice (some ⟨go18,0,none⟩) x9_2.length co18)) (ok:=(fun k_=>some k_ ≠ (.slice (some ad199) t182.length co10:Value).ownBlock ∧ some k_ ≠ ((.slice Aq208 y207.length cq208):Value).ownBlock ∧ k_ ≠ gb178)) (by (with_reducible repeat (first | apply Kd.V_alloc | apply Kd.V_drewN | apply Kd.V_drew));exact kN HO_10.out (fun _ hk=>⟨⟨hk.1.1,⟨hk.2,hk.1.2.2⟩⟩,hk.1.2.1⟩)) hg (.inl rfl));replace BK178:=zA (blk_grown (g:=gb178) (o:=.cells #[.int .i64 a0_0,.slice A0_1 l0_1.length c0_1] 28 (0,0)) (zR BK178.out) hg (Kd.N_ne HO_9.out BK178.out (by decide)));replace HO_9:=zA (hp_);replace HL201_0:=zA (Kd.V_afterv (v:=(.slice (some ⟨go18,0,none⟩) x9_2.length co18)) (v1:=(.slice (some ⟨go18,0,none⟩) x9_2.length co18)) (ok:=(fun k_=>some k_ ≠ (.slice (some ad199) t182.length co10:Value).ownBlock ∧ some k_ ≠ ((.slice Aq208 y207.length cq208):Value).ownBlock ∧ k_ ≠ gb178)) (by (with_reducible repeat (first | apply Kd.V_alloc | apply Kd.V_drewN | apply Kd.V_drew));exact kN HL201_0.out (fun _ hk=>⟨⟨hk.1.1,⟨hk.2,hk.1.2.2⟩⟩,hk.1.2.1⟩)) hg (.inl rfl));replace HL202_0:=zA (Kd.V_afterv (v:=(.slice (some ⟨go18,0,none⟩) x9_2.length co18)) (v1:=(.slice (some ⟨go18,0,none⟩) x9_2.length co18)) (ok:=(fun k_=>some k_ ≠ (.slice (some ad199) t182.length co10:Value).ownBlock ∧ some k_ ≠ ((.slice Aq208 y207.length cq208):Value).ownBlock ∧ k_ ≠ gb178)) (by (with_reducible repeat (first | apply Kd.V_alloc | apply Kd.V_drewN | apply Kd.V_drew));exact kN HL202_0.out (fun _ hk=>⟨⟨hk.1.1,⟨hk.2,hk.1.2.2⟩⟩,hk.1.2.1⟩)) hg (.inl rfl));replace HL206_0:=zA (Kd.V_afterv (v:=(.slice (some ⟨go18,0,none⟩) x9_2.length co18)) (v1:=(.slice (some ⟨go18,0,none⟩) x9_2.length co18)) (ok:=(fun k_=>some k_ ≠ (.slice (some ad199) t182.length co10:Value).ownBlock ∧ some k_ ≠ ((.slice Aq208 y207.length cq208):Value).ownBlock ∧ k_ ≠ gb178)) (by (with_reducible repeat (first | apply Kd.V_alloc | apply Kd.V_drewN | apply Kd.V_drew));exact kN HL206_0.out (fun _ hk=>⟨⟨hk.1.1,⟨hk.2,hk.1.2.2⟩⟩,hk.1.2.1⟩)) hg (.inl rfl));replace HB:=zA ((by rw [hw];exact zE (HB.out) GB18.out:Below w.heap.size w w38));clear HO209;clear hg hw hp_)))
                    (try simp only [← hl9_2])
                    go_roundg k2
                    case measure=>have:=HK1.out;have:=HK2.out;omega
                    case rel=>exact ⟨(y210),(wrap64 (x12_2 + 1)),zs,H', ⟨by have:=HK1.out;have:=HK2.out;omega⟩,⟨by (try simp only [hl9_2]);(with_reducible repeat (first | apply zF | apply zG | apply zH));exact kA HO_7.out (fun _ hk=>trivial)⟩,⟨by (try simp only [hl9_2]);(with_reducible repeat (first | apply Kd.N_alloc | apply Kd.N_drewN | apply Kd.N_drew));exact HO_9.out⟩,⟨by (try simp only [hl9_2]);(with_reducible repeat (first | apply Kd.V_alloc | apply Kd.V_drewN | apply Kd.V_drew));exact kN HO_10.out (fun _ hk=>⟨hk.1.1,⟨hk.2,hk.1.2.2⟩⟩)⟩,⟨by (try simp only [hl9_2]);(with_reducible repeat (first | refine zJ ?_ _ | refine zK ?_ | refine zI ?_ _));exact BK178.out⟩,⟨zT HB.out GE178.out⟩⟩
                   rw [if_neg c32] at H
                   exact absurd H (by simp)
                  rw [if_neg c31] at H
                  have c31b0:decide (((rd_L1 x9_2 x11_1).length:Int) < (wrap64 (((rd_L1 x9_2 x12_2).length:Int) + 1))) = false:=decide_eq_false c31
                  have c31w0:decide (((rd_L1 x9_2 x11_1).length:Int) < (IntKind.i64.wrap (((rd_L1 x9_2 x12_2).length:Int) + 1))) = false:=by first | exact c31b0 | (simp only [i64_w];exact c31b0)
                  clear c31
                  have H' := zA H
                  clear H
                  have p199:0 ≤ (x11_1:Int):=zd
                  have q199:x11_1 < (t182.length:Int):=zd
                  obtain ⟨ad199,e199,hx199_0⟩:=Kd.at_int (kB HO_7.out).2.2 x11_1 p199 q199
                  cases e199
                  replace p199:=eq_true p199
                  replace q199:=eq_true q199
                  go_wp2_with (first | (go_at_call 28;(with_reducible refine (spec_l01Bit.calls (rd t182 x11_1) x12_2 true _ A26.out).mono ?_);rintro e w' ⟨rfl,⟨nd,rfl⟩⟩;(try exact zw);have p201:0 ≤ (x12_2:Int):=zd;have q201:x12_2 < (x9_2.length:Int):=zd;obtain ⟨ad201,A201_0,c201_0,e201,hx201_0,hl201_0,hi201_0⟩:=at_L1 (Kd.N_reads' HO_9.out).2.2 x12_2 p201 q201;obtain rfl:(⟨go18,0,none⟩:Addr) = ad201:=(by injection e201);obtain ⟨ce201,hce201,hMe201,hcc201⟩:=Kd.N_get HO_9.out [] x12_2 p201 (by first | exact q201 | exact zd | (have e_:=(Kd.N_reads' HO_9.out).1;omega));obtain ⟨ua201_0,uc201_0,rfl,ul201_0,ge201_0⟩:=Kd.FK_slice_open hMe201;have hv201_0:=hcc201 0 _ rfl;rw [Nat.add_zero,show ((Kd.slice 2 (Kd.int .i64))).sz = 1 from rfl,Nat.mul_one] at hv201_0;replace hv201_0:=Option.some.inj (hv201_0.symm.trans hx201_0);injection hv201_0 with hva_ hvn_ hvc_;rw [hva_] at ge201_0;rw [hvc_] at ul201_0;have HL201_0:=zA (show Kd.V (Kd.int .i64) 2 _ w.heap.size _ _ (rd_L1 x9_2 x12_2) from Kd.V_mk ul201_0 ge201_0);clear hva_ hvn_ hvc_ ge201_0 ul201_0;clear hcc201 hce201;(first | simp only [add_plain] at hx201_0 | simp only [add_at] at hx201_0 | simp only [Addr.add,Nat.zero_add] at hx201_0 | skip);have HR201_0:=zA hi201_0;have HC201_0:=zA hl201_0;clear hi201_0 hl201_0;replace p201:=eq_true p201;replace q201:=eq_true q201;have p202:0 ≤ (x11_1:Int):=zd;have q202:x11_1 < (x9_2.length:Int):=zd;obtain ⟨ad202,A202_0,c202_0,e202,hx202_0,hl202_0,hi202_0⟩:=at_L1 (Kd.N_reads' HO_9.out).2.2 x11_1 p202 q202;obtain rfl:(⟨go18,0,none⟩:Addr) = ad202:=(by injection e202);obtain ⟨ce202,hce202,hMe202,hcc202⟩:=Kd.N_get HO_9.out [] x11_1 p202 (by first | exact q202 | exact zd | (have e_:=(Kd.N_reads' HO_9.out).1;omega));obtain ⟨ua202_0,uc202_0,rfl,ul202_0,ge202_0⟩:=Kd.FK_slice_open hMe202;have hv202_0:=hcc202 0 _ rfl;rw [Nat.add_zero,show ((Kd.slice 2 (Kd.int .i64))).sz = 1 from rfl,Nat.mul_one] at hv202_0;replace hv202_0:=Option.some.inj (hv202_0.symm.trans hx202_0);injection hv202_0 with hva_ hvn_ hvc_;rw [hva_] at ge202_0;rw [hvc_] at ul202_0;have HL202_0:=zA (show Kd.V (Kd.int .i64) 2 _ w.heap.size _ _ (rd_L1 x9_2 x11_1) from Kd.V_mk ul202_0 ge202_0);clear hva_ hvn_ hvc_ ge202_0 ul202_0;clear hcc202 hce202;(first | simp only [add_plain] at hx202_0 | simp only [add_at] at hx202_0 | simp only [Addr.add,Nat.zero_add] at hx202_0 | skip);have HR202_0:=zA hi202_0;have HC202_0:=zA hl202_0;clear hi202_0 hl202_0;replace p202:=eq_true p202;replace q202:=eq_true q202))
                  repeat (go_quiet (first | (go_at_call 28;(with_reducible refine (spec_l01Bit.calls (rd t182 x11_1) x12_2 true _ A26.out).mono ?_);rintro e w' ⟨rfl,⟨nd,rfl⟩⟩;(try exact zw);have p201:0 ≤ (x12_2:Int):=zd;have q201:x12_2 < (x9_2.length:Int):=zd;obtain ⟨ad201,A201_0,c201_0,e201,hx201_0,hl201_0,hi201_0⟩:=at_L1 (Kd.N_reads' HO_9.out).2.2 x12_2 p201 q201;obtain rfl:(⟨go18,0,none⟩:Addr) = ad201:=(by injection e201);obtain ⟨ce201,hce201,hMe201,hcc201⟩:=Kd.N_get HO_9.out [] x12_2 p201 (by first | exact q201 | exact zd | (have e_:=(Kd.N_reads' HO_9.out).1;omega));obtain ⟨ua201_0,uc201_0,rfl,ul201_0,ge201_0⟩:=Kd.FK_slice_open hMe201;have hv201_0:=hcc201 0 _ rfl;rw [Nat.add_zero,show ((Kd.slice 2 (Kd.int .i64))).sz = 1 from rfl,Nat.mul_one] at hv201_0;replace hv201_0:=Option.some.inj (hv201_0.symm.trans hx201_0);injection hv201_0 with hva_ hvn_ hvc_;rw [hva_] at ge201_0;rw [hvc_] at ul201_0;have HL201_0:=zA (show Kd.V (Kd.int .i64) 2 _ w.heap.size _ _ (rd_L1 x9_2 x12_2) from Kd.V_mk ul201_0 ge201_0);clear hva_ hvn_ hvc_ ge201_0 ul201_0;clear hcc201 hce201;(first | simp only [add_plain] at hx201_0 | simp only [add_at] at hx201_0 | simp only [Addr.add,Nat.zero_add] at hx201_0 | skip);have HR201_0:=zA hi201_0;have HC201_0:=zA hl201_0;clear hi201_0 hl201_0;replace p201:=eq_true p201;replace q201:=eq_true q201;have p202:0 ≤ (x11_1:Int):=zd;have q202:x11_1 < (x9_2.length:Int):=zd;obtain ⟨ad202,A202_0,c202_0,e202,hx202_0,hl202_0,hi202_0⟩:=at_L1 (Kd.N_reads' HO_9.out).2.2 x11_1 p202 q202;obtain rfl:(⟨go18,0,none⟩:Addr) = ad202:=(by injection e202);obtain ⟨ce202,hce202,hMe202,hcc202⟩:=Kd.N_get HO_9.out [] x11_1 p202 (by first | exact q202 | exact zd | (have e_:=(Kd.N_reads' HO_9.out).1;omega));obtain ⟨ua202_0,uc202_0,rfl,ul202_0,ge202_0⟩:=Kd.FK_slice_open hMe202;have hv202_0:=hcc202 0 _ rfl;rw [Nat.add_zero,show ((Kd.slice 2 (Kd.int .i64))).sz = 1 from rfl,Nat.mul_one] at hv202_0;replace hv202_0:=Option.some.inj (hv202_0.symm.trans hx202_0);injection hv202_0 with hva_ hvn_ hvc_;rw [hva_] at ge202_0;rw [hvc_] at ul202_0;have HL202_0:=zA (show Kd.V (Kd.int .i64) 2 _ w.heap.size _ _ (rd_L1 x9_2 x11_1) from Kd.V_mk ul202_0 ge202_0);clear hva_ hvn_ hvc_ ge202_0 ul202_0;clear hcc202 hce202;(first | simp only [add_plain] at hx202_0 | simp only [add_at] at hx202_0 | simp only [Addr.add,Nat.zero_add] at hx202_0 | skip);have HR202_0:=zA hi202_0;have HC202_0:=zA hl202_0;clear hi202_0 hl202_0;replace p202:=eq_true p202;replace q202:=eq_true q202));try go_wp2_with (first | (go_at_call 28;(with_reducible refine (spec_l01Bit.calls (rd t182 x11_1) x12_2 true _ A26.out).mono ?_);rintro e w' ⟨rfl,⟨nd,rfl⟩⟩;(try exact zw);have p201:0 ≤ (x12_2:Int):=zd;have q201:x12_2 < (x9_2.length:Int):=zd;obtain ⟨ad201,A201_0,c201_0,e201,hx201_0,hl201_0,hi201_0⟩:=at_L1 (Kd.N_reads' HO_9.out).2.2 x12_2 p201 q201;obtain rfl:(⟨go18,0,none⟩:Addr) = ad201:=(by injection e201);obtain ⟨ce201,hce201,hMe201,hcc201⟩:=Kd.N_get HO_9.out [] x12_2 p201 (by first | exact q201 | exact zd | (have e_:=(Kd.N_reads' HO_9.out).1;omega));obtain ⟨ua201_0,uc201_0,rfl,ul201_0,ge201_0⟩:=Kd.FK_slice_open hMe201;have hv201_0:=hcc201 0 _ rfl;rw [Nat.add_zero,show ((Kd.slice 2 (Kd.int .i64))).sz = 1 from rfl,Nat.mul_one] at hv201_0;replace hv201_0:=Option.some.inj (hv201_0.symm.trans hx201_0);injection hv201_0 with hva_ hvn_ hvc_;rw [hva_] at ge201_0;rw [hvc_] at ul201_0;have HL201_0:=zA (show Kd.V (Kd.int .i64) 2 _ w.heap.size _ _ (rd_L1 x9_2 x12_2) from Kd.V_mk ul201_0 ge201_0);clear hva_ hvn_ hvc_ ge201_0 ul201_0;clear hcc201 hce201;(first | simp only [add_plain] at hx201_0 | simp only [add_at] at hx201_0 | simp only [Addr.add,Nat.zero_add] at hx201_0 | skip);have HR201_0:=zA hi201_0;have HC201_0:=zA hl201_0;clear hi201_0 hl201_0;replace p201:=eq_true p201;replace q201:=eq_true q201;have p202:0 ≤ (x11_1:Int):=zd;have q202:x11_1 < (x9_2.length:Int):=zd;obtain ⟨ad202,A202_0,c202_0,e202,hx202_0,hl202_0,hi202_0⟩:=at_L1 (Kd.N_reads' HO_9.out).2.2 x11_1 p202 q202;obtain rfl:(⟨go18,0,none⟩:Addr) = ad202:=(by injection e202);obtain ⟨ce202,hce202,hMe202,hcc202⟩:=Kd.N_get HO_9.out [] x11_1 p202 (by first | exact q202 | exact zd | (have e_:=(Kd.N_reads' HO_9.out).1;omega));obtain ⟨ua202_0,uc202_0,rfl,ul202_0,ge202_0⟩:=Kd.FK_slice_open hMe202;have hv202_0:=hcc202 0 _ rfl;rw [Nat.add_zero,show ((Kd.slice 2 (Kd.int .i64))).sz = 1 from rfl,Nat.mul_one] at hv202_0;replace hv202_0:=Option.some.inj (hv202_0.symm.trans hx202_0);injection hv202_0 with hva_ hvn_ hvc_;rw [hva_] at ge202_0;rw [hvc_] at ul202_0;have HL202_0:=zA (show Kd.V (Kd.int .i64) 2 _ w.heap.size _ _ (rd_L1 x9_2 x11_1) from Kd.V_mk ul202_0 ge202_0);clear hva_ hvn_ hvc_ ge202_0 ul202_0;clear hcc202 hce202;(first | simp only [add_plain] at hx202_0 | simp only [add_at] at hx202_0 | simp only [Addr.add,Nat.zero_add] at hx202_0 | skip);have HR202_0:=zA hi202_0;have HC202_0:=zA hl202_0;clear hi202_0 hl202_0;replace p202:=eq_true p202;replace q202:=eq_true q202)))
                  (try simp only [← hl9_2])
                  go_roundg k2
                  case measure=>have:=HK1.out;have:=HK2.out;omega
                  case rel=>exact ⟨(x9_2),(wrap64 (x12_2 + 1)),zs,H', ⟨by have:=HK1.out;have:=HK2.out;omega⟩,⟨by (try simp only [hl9_2]);(with_reducible repeat (first | apply zF | apply zG | apply zH));exact HO_7.out⟩,⟨by (try simp only [hl9_2]);(with_reducible repeat (first | apply Kd.N_alloc | apply Kd.N_drewN | apply Kd.N_drew));exact HO_9.out⟩,⟨by (try simp only [hl9_2]);(with_reducible repeat (first | apply Kd.V_alloc | apply Kd.V_drewN | apply Kd.V_drew));exact HO_10.out⟩,⟨by (try simp only [hl9_2]);(with_reducible repeat (first | refine zJ ?_ _ | refine zK ?_ | refine zI ?_ _));exact BK178.out⟩,⟨zT HB.out GE178.out⟩⟩
                 rw [if_neg c30] at H
                 exact absurd H (by simp)
                rw [if_neg c29] at H
                exact absurd H (by simp)
               rw [if_neg c28] at H
               exact absurd H (by simp)
              replace c27:=Bool.eq_false_iff.mpr c27
              subst c27
              rw [if_neg (show ¬ (false = true) by decide)] at H
              have H' := zA H
              clear H
              have p199:0 ≤ (x11_1:Int):=zd
              have q199:x11_1 < (t182.length:Int):=zd
              obtain ⟨ad199,e199,hx199_0⟩:=Kd.at_int (kB HO_7.out).2.2 x11_1 p199 q199
              cases e199
              replace p199:=eq_true p199
              replace q199:=eq_true q199
              go_wp2_with (first | (go_at_call 28;(with_reducible refine (spec_l01Bit.calls (rd t182 x11_1) x12_2 false _ A26.out).mono ?_);rintro e w' ⟨rfl,⟨nd,rfl⟩⟩;(try exact zw)))
              repeat (go_quiet (first | (go_at_call 28;(with_reducible refine (spec_l01Bit.calls (rd t182 x11_1) x12_2 false _ A26.out).mono ?_);rintro e w' ⟨rfl,⟨nd,rfl⟩⟩;(try exact zw)));try go_wp2_with (first | (go_at_call 28;(with_reducible refine (spec_l01Bit.calls (rd t182 x11_1) x12_2 false _ A26.out).mono ?_);rintro e w' ⟨rfl,⟨nd,rfl⟩⟩;(try exact zw))))
              (try simp only [← hl9_2])
              go_roundg k2
              case measure=>have:=HK1.out;have:=HK2.out;omega
              case rel=>exact ⟨(x9_2),(wrap64 (x12_2 + 1)),zs,H', ⟨by have:=HK1.out;have:=HK2.out;omega⟩,⟨by (try simp only [hl9_2]);(with_reducible repeat (first | apply zF | apply zG | apply zH));exact HO_7.out⟩,⟨by (try simp only [hl9_2]);(with_reducible repeat (first | apply Kd.N_alloc | apply Kd.N_drewN | apply Kd.N_drew));exact HO_9.out⟩,⟨by (try simp only [hl9_2]);(with_reducible repeat (first | apply Kd.V_alloc | apply Kd.V_drewN | apply Kd.V_drew));exact HO_10.out⟩,⟨by (try simp only [hl9_2]);(with_reducible repeat (first | refine zJ ?_ _ | refine zK ?_ | refine zI ?_ _));exact BK178.out⟩,⟨zT HB.out GE178.out⟩⟩
             rw [if_neg c25] at H
             exact absurd H (by simp)
            rw [if_neg c24] at H
            exact absurd H (by simp)
           rw [if_neg c23] at H
           have c23b0:decide (x12_2 < (t182.length:Int)) = false:=decide_eq_false c23
           clear c23
           by_cases c39:0 ≤ x11_1
           ·rw [if_pos c39] at H
            have c39b0:decide (0 ≤ x11_1) = true:=decide_eq_true c39
            clear c39
            by_cases c40:x11_1 < (x9_2.length:Int)
            ·rw [if_pos c40] at H
             have c40b0:decide (x11_1 < (x9_2.length:Int)) = true:=decide_eq_true c40
             clear c40
             by_cases c41:((rd_L1 x9_2 x11_1).length:Int) ≥ (x10_1.length:Int)
             ·rw [if_pos c41] at H
              have c41b0:decide ((x10_1.length:Int) ≤ ((rd_L1 x9_2 x11_1).length:Int)) = true:=decide_eq_true c41
              have c41b1:decide (x10_1.length ≤ (rd_L1 x9_2 x11_1).length) = true:=decide_eq_true (Int.ofNat_le.mp c41)
              clear c41
              have H' := zA H
              clear H
              have p211:0 ≤ (x11_1:Int):=zd
              have q211:x11_1 < (x9_2.length:Int):=zd
              obtain ⟨ad211,A211_0,c211_0,e211,hx211_0,hl211_0,hi211_0⟩:=at_L1 (Kd.N_reads' HO_9.out).2.2 x11_1 p211 q211
              obtain rfl:(⟨go18,0,none⟩:Addr) = ad211:=(by injection e211)
              obtain ⟨ce211,hce211,hMe211,hcc211⟩:=Kd.N_get HO_9.out [] x11_1 p211 (by first | exact q211 | exact zd | (have e_:=(Kd.N_reads' HO_9.out).1;omega))
              obtain ⟨ua211_0,uc211_0,rfl,ul211_0,ge211_0⟩:=Kd.FK_slice_open hMe211
              have hv211_0:=hcc211 0 _ rfl
              rw [Nat.add_zero,show ((Kd.slice 2 (Kd.int .i64))).sz = 1 from rfl,Nat.mul_one] at hv211_0
              replace hv211_0:=Option.some.inj (hv211_0.symm.trans hx211_0)
              injection hv211_0 with hva_ hvn_ hvc_
              rw [hva_] at ge211_0
              rw [hvc_] at ul211_0
              have HL211_0:=zA (show Kd.V (Kd.int .i64) 2 _ w.heap.size _ _ (rd_L1 x9_2 x11_1) from Kd.V_mk ul211_0 ge211_0)
              clear hva_ hvn_ hvc_ ge211_0 ul211_0 hcc211 hce211
              (first | simp only [add_plain] at hx211_0 | simp only [add_at] at hx211_0 | simp only [Addr.add,Nat.zero_add] at hx211_0 | skip)
              have HR211_0:=zA hi211_0
              have HC211_0:=zA hl211_0
              clear hi211_0 hl211_0
              replace p211:=eq_true p211
              replace q211:=eq_true q211
              obtain ⟨Ao42,co42,eo42⟩:=Kd.V_slice HO_10.out
              subst eo42
              have p212:0 ≤ (x11_1:Int):=zd
              have q212:x11_1 < (x9_2.length:Int):=zd
              obtain ⟨ad212,A212_0,c212_0,e212,hx212_0,hl212_0,hi212_0⟩:=at_L1 (Kd.N_reads' HO_9.out).2.2 x11_1 p212 q212
              obtain rfl:(⟨go18,0,none⟩:Addr) = ad212:=(by injection e212)
              obtain ⟨ce212,hce212,hMe212,hcc212⟩:=Kd.N_get HO_9.out [] x11_1 p212 (by first | exact q212 | exact zd | (have e_:=(Kd.N_reads' HO_9.out).1;omega))
              obtain ⟨ua212_0,uc212_0,rfl,ul212_0,ge212_0⟩:=Kd.FK_slice_open hMe212
              have hv212_0:=hcc212 0 _ rfl
              rw [Nat.add_zero,show ((Kd.slice 2 (Kd.int .i64))).sz = 1 from rfl,Nat.mul_one] at hv212_0
              replace hv212_0:=Option.some.inj (hv212_0.symm.trans hx212_0)
              injection hv212_0 with hva_ hvn_ hvc_
              rw [hva_] at ge212_0
              rw [hvc_] at ul212_0
              have HL212_0:=zA (show Kd.V (Kd.int .i64) 2 _ w.heap.size _ _ (rd_L1 x9_2 x11_1) from Kd.V_mk ul212_0 ge212_0)
              clear hva_ hvn_ hvc_ ge212_0 ul212_0 hcc212 hce212
              (first | simp only [add_plain] at hx212_0 | simp only [add_at] at hx212_0 | simp only [Addr.add,Nat.zero_add] at hx212_0 | skip)
              have HR212_0:=zA hi212_0
              have HC212_0:=zA hl212_0
              clear hi212_0 hl212_0
              replace p212:=eq_true p212
              replace q212:=eq_true q212
              have ea_:=Option.some.inj (hx211_0.symm.trans hx212_0)
              injection ea_ with ea_ en_ ec_
              subst ea_
              subst ec_
              clear en_
              go_wp2
              repeat (go_quiet (fail);try go_wp2)
              (try simp only [← hl9_2])
              go_roundg k2
              case measure=>have:=HK1.out;have:=HK2.out;omega
              case rel=>exact ⟨(x9_2),(rd_L1 x9_2 x11_1),(wrap64 (x11_1 - 1)),zs,H', ⟨by have:=HK1.out;have:=HK2.out;omega⟩,⟨by (try simp only [hl9_2]);(with_reducible repeat (first | apply zF | apply zG | apply zH));exact HO_7.out⟩,⟨by (try simp only [hl9_2]);(with_reducible repeat (first | apply Kd.N_alloc | apply Kd.N_drewN | apply Kd.N_drew));exact HO_9.out⟩,⟨by (try simp only [hl9_2]);(with_reducible repeat (first | apply Kd.V_alloc | apply Kd.V_drewN | apply Kd.V_drew));exact kN HL212_0.out (fun _ hk=>⟨hk.1.1,⟨hk.2,hk.1.2⟩⟩)⟩,⟨by (try simp only [hl9_2]);(with_reducible repeat (first | refine zJ ?_ _ | refine zK ?_ | refine zI ?_ _));exact BK178.out⟩,⟨zT HB.out GE178.out⟩⟩
             rw [if_neg c41] at H
             have c41b0:decide ((x10_1.length:Int) ≤ ((rd_L1 x9_2 x11_1).length:Int)) = false:=decide_eq_false c41
             have c41b1:decide (x10_1.length ≤ (rd_L1 x9_2 x11_1).length) = false:=decide_eq_false (fun h=>c41 (Int.ofNat_le.mpr h))
             clear c41
             have H' := zA H
             clear H
             have p211:0 ≤ (x11_1:Int):=zd
             have q211:x11_1 < (x9_2.length:Int):=zd
             obtain ⟨ad211,A211_0,c211_0,e211,hx211_0,hl211_0,hi211_0⟩:=at_L1 (Kd.N_reads' HO_9.out).2.2 x11_1 p211 q211
             obtain rfl:(⟨go18,0,none⟩:Addr) = ad211:=(by injection e211)
             obtain ⟨ce211,hce211,hMe211,hcc211⟩:=Kd.N_get HO_9.out [] x11_1 p211 (by first | exact q211 | exact zd | (have e_:=(Kd.N_reads' HO_9.out).1;omega))
             obtain ⟨ua211_0,uc211_0,rfl,ul211_0,ge211_0⟩:=Kd.FK_slice_open hMe211
             have hv211_0:=hcc211 0 _ rfl
             rw [Nat.add_zero,show ((Kd.slice 2 (Kd.int .i64))).sz = 1 from rfl,Nat.mul_one] at hv211_0
             replace hv211_0:=Option.some.inj (hv211_0.symm.trans hx211_0)
             injection hv211_0 with hva_ hvn_ hvc_
             rw [hva_] at ge211_0
             rw [hvc_] at ul211_0
             have HL211_0:=zA (show Kd.V (Kd.int .i64) 2 _ w.heap.size _ _ (rd_L1 x9_2 x11_1) from Kd.V_mk ul211_0 ge211_0)
             clear hva_ hvn_ hvc_ ge211_0 ul211_0 hcc211 hce211
             (first | simp only [add_plain] at hx211_0 | simp only [add_at] at hx211_0 | simp only [Addr.add,Nat.zero_add] at hx211_0 | skip)
             have HR211_0:=zA hi211_0
             have HC211_0:=zA hl211_0
             clear hi211_0 hl211_0
             replace p211:=eq_true p211
             replace q211:=eq_true q211
             obtain ⟨Ao43,co43,eo43⟩:=Kd.V_slice HO_10.out
             subst eo43
             go_wp2
             repeat (go_quiet (fail);try go_wp2)
             (try simp only [← hl9_2])
             go_roundg k2
             case measure=>have:=HK1.out;have:=HK2.out;omega
             case rel=>exact ⟨(x9_2),(x10_1),(wrap64 (x11_1 - 1)),zs,H', ⟨by have:=HK1.out;have:=HK2.out;omega⟩,⟨by (try simp only [hl9_2]);(with_reducible repeat (first | apply zF | apply zG | apply zH));exact HO_7.out⟩,⟨by (try simp only [hl9_2]);(with_reducible repeat (first | apply Kd.N_alloc | apply Kd.N_drewN | apply Kd.N_drew));exact HO_9.out⟩,⟨by (try simp only [hl9_2]);(with_reducible repeat (first | apply Kd.V_alloc | apply Kd.V_drewN | apply Kd.V_drew));exact HO_10.out⟩,⟨by (try simp only [hl9_2]);(with_reducible repeat (first | refine zJ ?_ _ | refine zK ?_ | refine zI ?_ _));exact BK178.out⟩,⟨zT HB.out GE178.out⟩⟩
            rw [if_neg c40] at H
            exact absurd H (by simp)
           rw [if_neg c39] at H
           exact absurd H (by simp)
        rw [if_neg c17] at H
        exact absurd H (by simp)
       rw [if_neg c16] at H
       exact absurd H (by simp)
      rw [if_neg c15] at H
      have c15b0:decide (0 ≤ x11_1) = false:=decide_eq_false c15
      clear c15
      obtain ⟨t192,A44,H⟩:=zb H
      try dsimp only at H
      simp only [Option.some.injEq,Prod.mk.injEq] at H
      obtain ⟨rfl,rfl⟩:=H
      obtain ⟨Ao45,co45,eo45⟩:=Kd.V_slice HO_10.out
      subst eo45
      go_wp2_with (first | (go_at_call 29;(with_reducible refine (spec_l01Own.calls _ _ x10_1 t192 _ ?side1 ?side2 A44.out).mono ?_);(case side1=>exact zS (kJ HO_10.out).2.2);(case side2=>exact (kJ HO_10.out).2.1);rintro e w46 ⟨v193,rfl,ho0,hb⟩;replace HO_9:=zA (Kd.N_elder' (zPN HO_9.out) (kC ho0) hb);replace HO_10:=zA (kK (zPV HO_10.out) (kC ho0) hb);have HO194:=zA (kI (kF ho0 (kH (zP HO_7.out))) (kP (zT HB.out GE178.out)));replace HO_7:=zA (kE (zP HO_7.out) (kC ho0) hb);replace BK178:=zA (zB1 BK178.out hb);replace HB:=zA (kQ (zT HB.out GE178.out) hb);(try clear ho0)))
      repeat (go_quiet (first | (go_at_call 29;(with_reducible refine (spec_l01Own.calls _ _ x10_1 t192 _ ?side1 ?side2 A44.out).mono ?_);(case side1=>exact zS (kJ HO_10.out).2.2);(case side2=>exact (kJ HO_10.out).2.1);rintro e w46 ⟨v193,rfl,ho0,hb⟩;have n0_:=zA (kE (zP HO_7.out) (kC ho0) hb);have n1_:=zA (Kd.N_elder' (zPN HO_9.out) (kC ho0) hb);have n2_:=zA (kK (zPV HO_10.out) (kC ho0) hb);have n3_:=zA (kI (kF ho0 (kH (zP HO_7.out))) (kP (zT HB.out GE178.out)));have n4_:=zA (zB1 BK178.out hb);have n5_:=zA (kQ (zT HB.out GE178.out) hb);clear HO_7;clear HO_9;clear HO_10;clear BK178;clear HB;have HO_7:=n0_;have HO_9:=n1_;have HO_10:=n2_;have HO194:=n3_;have BK178:=n4_;have HB:=n5_;clear n0_ n1_ n2_ n3_ n4_ n5_;(try clear ho0)));try go_wp2_with (first | (go_at_call 29;(with_reducible refine (spec_l01Own.calls _ _ x10_1 t192 _ ?side1 ?side2 A44.out).mono ?_);(case side1=>exact zS (kJ HO_10.out).2.2);(case side2=>exact (kJ HO_10.out).2.1);rintro e w46 ⟨v193,rfl,ho0,hb⟩;replace HO_9:=zA (Kd.N_elder' (zPN HO_9.out) (kC ho0) hb);replace HO_10:=zA (kK (zPV HO_10.out) (kC ho0) hb);have HO194:=zA (kI (kF ho0 (kH (zP HO_7.out))) (kP (zT HB.out GE178.out)));replace HO_7:=zA (kE (zP HO_7.out) (kC ho0) hb);replace BK178:=zA (zB1 BK178.out hb);replace HB:=zA (kQ (zT HB.out GE178.out) hb);(try clear ho0))))
      go_ret2
      exact ⟨_,zr,by (with_reducible repeat (first | apply zF | apply zG | apply zH));exact kA HO194.out (fun _ hk=>trivial),zT HB.out GE178.out⟩
   rw [if_neg c6] at H
   exact absurd H (by simp)
  rw [if_neg c5] at H
  exact absurd H (by simp)
 rw [if_neg c4] at H
 obtain ⟨c4b0,c4b1⟩:=zT2 c4
 simp only [Option.some.injEq,Prod.mk.injEq] at H
 obtain ⟨rfl,rfl⟩:=H
 go_enter Tryd.func6,Tryd.ntmps6
 go_wp2_with (first | (refine zBE 2 #[.int .i64 a0_0,.slice A0_1 l0_1.length c0_1] 28 ?_;intro gb178 hg w47 hbox hb;have BK178:=zA (hbox);have GW178:=zA (zBH hg HB.out);have GE178:=zA (zBH hg HB.out);replace HB:=zA (kQ (zQ HB.out) hb);clear hb hbox hg;obtain ⟨hcz48_0,hcz48_1,hfz48_0,hfz48_1⟩:=zB3 BK178.out) | (go_at_call 27;(with_reducible refine (spec_l04Code.calls k a0_0 _ _ l0_1 _ _ l1 t179 t182 t185 _ ?side1 ?side2 ?side3 ?side4 A3.out).mono ?_);(case side1=>exact zS (kO HR0_1.out HB.out));(case side2=>exact HC0_1.out);(case side3=>exact zS (kO HR1.out HB.out));(case side4=>exact HC1.out);rintro e w49 ⟨v180,v183,rfl,ho0,ho1,hb⟩;have HO181:=zA (kI ho0 (kP (zT HB.out GE178.out)));have HO184:=zA (kI ho1 (kP (zT HB.out GE178.out)));replace BK178:=zA (zB1 BK178.out hb);replace HB:=zA (kQ (zT HB.out GE178.out) hb);(try clear ho0);(try clear ho1)))
 repeat (go_quiet (first | (refine zBE 2 #[.int .i64 a0_0,.slice A0_1 l0_1.length c0_1] 28 ?_;intro gb178 hg w47 hbox hb;have n0_:=zA (kQ (zQ HB.out) hb);have n1_:=zA (hbox);have n2_:=zA (zBH hg HB.out);have n3_:=zA (zBH hg HB.out);clear HB;have HB:=n0_;have BK178:=n1_;have GW178:=n2_;have GE178:=n3_;clear n0_ n1_ n2_ n3_;clear hb hbox hg;obtain ⟨hcz48_0,hcz48_1,hfz48_0,hfz48_1⟩:=zB3 BK178.out) | (go_at_call 27;(with_reducible refine (spec_l04Code.calls k a0_0 _ _ l0_1 _ _ l1 t179 t182 t185 _ ?side1 ?side2 ?side3 ?side4 A3.out).mono ?_);(case side1=>exact zS (kO HR0_1.out HB.out));(case side2=>exact HC0_1.out);(case side3=>exact zS (kO HR1.out HB.out));(case side4=>exact HC1.out);rintro e w49 ⟨v180,v183,rfl,ho0,ho1,hb⟩;have n0_:=zA (kI ho0 (kP (zT HB.out GE178.out)));have n1_:=zA (kI ho1 (kP (zT HB.out GE178.out)));have n2_:=zA (zB1 BK178.out hb);have n3_:=zA (kQ (zT HB.out GE178.out) hb);clear BK178;clear HB;have HO181:=n0_;have HO184:=n1_;have BK178:=n2_;have HB:=n3_;clear n0_ n1_ n2_ n3_;(try clear ho0);(try clear ho1)));try go_wp2_with (first | (refine zBE 2 #[.int .i64 a0_0,.slice A0_1 l0_1.length c0_1] 28 ?_;intro gb178 hg w47 hbox hb;have BK178:=zA (hbox);have GW178:=zA (zBH hg HB.out);have GE178:=zA (zBH hg HB.out);replace HB:=zA (kQ (zQ HB.out) hb);clear hb hbox hg;obtain ⟨hcz48_0,hcz48_1,hfz48_0,hfz48_1⟩:=zB3 BK178.out) | (go_at_call 27;(with_reducible refine (spec_l04Code.calls k a0_0 _ _ l0_1 _ _ l1 t179 t182 t185 _ ?side1 ?side2 ?side3 ?side4 A3.out).mono ?_);(case side1=>exact zS (kO HR0_1.out HB.out));(case side2=>exact HC0_1.out);(case side3=>exact zS (kO HR1.out HB.out));(case side4=>exact HC1.out);rintro e w49 ⟨v180,v183,rfl,ho0,ho1,hb⟩;have HO181:=zA (kI ho0 (kP (zT HB.out GE178.out)));have HO184:=zA (kI ho1 (kP (zT HB.out GE178.out)));replace BK178:=zA (zB1 BK178.out hb);replace HB:=zA (kQ (zT HB.out GE178.out) hb);(try clear ho0);(try clear ho1))))
 go_ret2
 exact ⟨_,zr,zn,zT HB.out GE178.out⟩
def impl_length_int64.f (l0:List Int):Option (Int):=some (l0.length:Int)
set_option maxHeartbeats 8000000 in
set_option maxRecDepth 100000 in
theorem impl_length_int64.calls (A0:Option Addr) (c0:Nat) (l0:List Int) (r:Int) (w:World) (hr0:Kd.C (Kd.int .i64) w A0 l0.length l0) (hc0:l0.length ≤ c0) (h:impl_length_int64.f l0 = some r) :
  Calls Tryd.prog 34 #[.slice A0 l0.length c0] w fun e w' => e = .returned (.int .i64 r) ∧ Drawn0 w w' := by
 have HR0:=zA hr0
 have HC0:=zA hc0
 clear hr0 hc0
 have H:=h
 unfold impl_length_int64.f at H
 clear h
 obtain rfl:=Option.some.inj H
 go_enter Tryd.func34,Tryd.ntmps34
 go_wp2
 go_ret
 exact ⟨zs,by repeat (first | exact Drawn0.refl _ | apply Drawn0.step)⟩
def impl_one.f (a0:Int):Option (Int):=if 0 ≤ a0 then (some (shl .i64 1 a0)) else (none)
set_option maxHeartbeats 8000000 in
set_option maxRecDepth 100000 in
theorem impl_one.calls (a0:Int) (r:Int) (w:World) (h:impl_one.f a0 = some r) :
  Calls Tryd.prog 33 #[.int .i64 a0] w fun e w' => e = .returned (.int .i64 r) ∧ Drawn0 w w' := by
 have H:=h
 unfold impl_one.f at H
 clear h
 by_cases c2:0 ≤ a0
 ·rw [if_pos c2] at H
  have c2b0:=eq_true c2
  have c2b1:decide (0 ≤ a0) = true:=decide_eq_true c2
  clear c2
  obtain ⟨ji3,hji3⟩:∃ j_:Int,(shl .i64 1 a0) = j_:=⟨_,rfl⟩
  replace H:(some ji3) = some r:=by first | (rw [hji3] at H;exact H) | (simp only [hji3] at H ⊢;exact H)
  have hji3_:(IntKind.i64.wrap (1 * 2 ^ min a0.toNat 64)) = ji3:=hji3
  have hji3z:a0 ≤ 64 → (IntKind.i64.wrap (1 * 2 ^ a0.toNat)) = ji3:=shl_small hji3
  have hji3u:(IntKind.i64.wrap (2 ^ min a0.toNat 64)) = ji3:=by have h_:=hji3_;rw [Int.one_mul] at h_;exact h_
  have hji3v:a0 ≤ 64 → (IntKind.i64.wrap (2 ^ a0.toNat)) = ji3:=fun hle_=>by have h_:=hji3z hle_;rw [Int.one_mul] at h_;exact h_
  have hji3y:(wrap64 (1 * 2 ^ min a0.toNat 64)) = ji3:=(i64_w _).symm.trans hji3_
  have hji3x:a0 ≤ 64 → (wrap64 (1 * 2 ^ a0.toNat)) = ji3:=fun h_=>(i64_w _).symm.trans (hji3z h_)
  obtain rfl:=Option.some.inj H
  go_enter Tryd.func33,Tryd.ntmps33
  go_wp2
  go_ret
  exact ⟨by first | rfl | (simp;done) | (simp only [← hji3] <;> (first | rfl | simp)) | (simp [*];done),by repeat (first | exact Drawn0.refl _ | apply Drawn0.step)⟩
 rw [if_neg c2] at H
 exact absurd H (by simp)
def bits_TrailingZeros64.f (a0:Int):Option Int:=if 0 ≤ a0 ∧ a0 < 18446744073709551616 then some (Lib.ctz 64 a0.toNat:Int) else none
set_option maxHeartbeats 1000000 in
theorem tz64_core (x k idx:Nat) (w:World) (hx0:((x:Int) == 0) = false)
  (key:IntKind.u64.wrap (bits BinOp.and IntKind.u64 (x:Int) (IntKind.u64.wrap (-(x:Int))) * 285870213051353865) / 288230376151711744 = (idx:Int))
  (hi:idx < 64) (hk:k < 64) (hcell:w.cell? ⟨0,idx,none⟩ = some (.int .u8 k)) :
  Calls Tryd.prog 53 #[.int .u64 x] w fun e w' => e = .returned (.int .i64 k) ∧ w = w' := by
 go_enter Tryd.func53,Tryd.ntmps53
 go_wp2_with (simp only [key])
 go_ret
 exact ⟨rfl,rfl⟩
theorem tz64_zero (w:World):Calls Tryd.prog 53 #[.int .u64 0] w fun e w' => e = .returned (.int .i64 64) ∧ w = w' := by
 go_enter Tryd.func53,Tryd.ntmps53
 go_wp2
 go_ret
 exact ⟨rfl,rfl⟩
theorem tz64_key (x a:Nat) (hx:x < 18446744073709551616) (hx0:x ≠ 0) (hlow:x &&& (18446744073709551616 - x) = a) :
  IntKind.u64.wrap (bits BinOp.and IntKind.u64 (x:Int) (IntKind.u64.wrap (-(x:Int))) * 285870213051353865) / 288230376151711744 = ((a * 285870213051353865 % 18446744073709551616 / 288230376151711744:Nat):Int):=by
 have e1:IntKind.u64.wrap (-(x:Int)) = ((18446744073709551616 - x:Nat):Int):=by rw [IntKind.wrap_u64];omega
 rw [e1,bits_and_u64_nat x _ hx (by omega),hlow,IntKind.wrap_u64]
 omega
theorem bits_TrailingZeros64.calls (a0:Int) (r:Int) (w:World) (hT:TabW w) (h:bits_TrailingZeros64.f a0 = some r) :
  Calls Tryd.prog 53 #[.int .u64 a0] w fun e w' => e = .returned (.int .i64 r) ∧ Drawn0 w w' := by
 unfold bits_TrailingZeros64.f at h
 split at h
 ·rename_i hr
  obtain ⟨x,rfl⟩:=Int.eq_ofNat_of_zero_le hr.1
  rw [Int.toNat_natCast] at h
  injection h with h
  subst h
  by_cases hx0:x = 0
  ·subst hx0
   exact (tz64_zero w).mono fun e w' ⟨he,hw⟩=>⟨he,⟨0,hw.symm⟩⟩
  obtain ⟨hlow,hk⟩:=Lib.lowest_bit 64 x hx0 (by omega)
  obtain ⟨hi,htab⟩:=Lib.deBruijn64_at _ hk
  have hcell:=hT _ hi
  rw [htab] at hcell
  exact (tz64_core x _ _ w (by simp;omega) (tz64_key x _ (by omega) hx0 hlow) hi hk hcell).mono fun e w' ⟨he,hw⟩=>⟨he,⟨0,hw.symm⟩⟩
 cases h
def impl_least.f (a0:Int):Option (Int):=(bits_TrailingZeros64.f (IntKind.u64.wrap (a0))).bind fun t224=>(some t224)
set_option maxHeartbeats 8000000 in
set_option maxRecDepth 100000 in
theorem impl_least.calls (a0:Int) (r:Int) (w:World) (hT:TabW w) (h:impl_least.f a0 = some r) :
  Calls Tryd.prog 35 #[.int .i64 a0] w fun e w' => e = .returned (.int .i64 r) ∧ Drawn0 w w' := by
 have HT:=zA hT
 clear hT
 have H:=h
 unfold impl_least.f at H
 clear h
 obtain ⟨t224,A2,H⟩:=zb H
 try dsimp only at H
 obtain rfl:=Option.some.inj H
 go_enter Tryd.func35,Tryd.ntmps35
 go_wp2_with (first | (refine zO (some 5) Tryd.func53 #[.int .u64 (IntKind.u64.wrap (a0))] ?_;(with_reducible refine (bits_TrailingZeros64.calls (IntKind.u64.wrap (a0)) t224 _ ?side1 A2.out).mono ?_);(case side1=>repeat (first | (with_reducible first | exact HT.out | apply TabW.drewN | apply TabW.drew | apply TabW.alloc) | exact HT.out));rintro e w' ⟨rfl,⟨nd,rfl⟩⟩;refine ⟨_,rfl,?_⟩))
 go_ret
 exact ⟨zs,by repeat (first | exact Drawn0.refl _ | apply Drawn0.step)⟩
def impl_members.l0:Nat → Int → List Int → Option (List Int)
 | 0,_,_=>none
 | k + 1,x0,x3=>if x0 = 0 then (some x3) else ((impl_least.f x0).bind fun t228=>(if x3.length < 17592186044416 then (impl_members.l0 k (Go.bits .and .i64 x0 (wrap64 (x0 - 1))) (x3 ++ [t228])) else (none)))
def impl_members.f (k:Nat) (a0:Int):Option (List Int):=impl_members.l0 k a0 (([]:List Int))
set_option maxHeartbeats 8000000 in
set_option maxRecDepth 100000 in
theorem impl_members.calls (k:Nat) (a0:Int) (r:List Int) (w:World) (hT:TabW w) (h:impl_members.f k a0 = some r) :
  Calls Tryd.prog 36 #[.int .i64 a0] w fun e w' => ∃ v0_:Value,e = .returned (v0_) ∧ Kd.R (Kd.int .i64) 2 w' w.heap.size (fun _=>True) v0_ r ∧ Below w.heap.size w w' := by
 have HT:=zA hT
 clear hT
 have HB:=zA (kW w.heap.size w)
 have H:=h
 unfold impl_members.f at H
 clear h
 obtain ⟨y225,hy225⟩:∃ y_:List Int,y_ = (([]:List Int)):=⟨_,rfl⟩
 replace H:(impl_members.l0 k a0 y225) = some r:=zy hy225 H
 have Ny225:=zA hy225
 clear hy225
 have H' := zA H
 clear H
 go_enter Tryd.func36,Tryd.ntmps36
 go_wp2_with (first | ((with_reducible refine kS (N:=4) rfl ?_);refine Kd.R_lit (Kd.int .i64) _ 2 ?hg (N:=4) ?hd (xs:=([]:List Int)) (inner:=[]) (ok:=fun _=>True) (okp:=fun _=>True) ?hr ?hp (fun _ hk=>hk) trivial (kW _ _) (Nat.le_refl _) (by simp) ?_;(case hd=>rfl);(case hg=>rfl);(case hr=>first | (go_simp;done) | (go_simp;rfl));(case hp=>exact (Reps.none _ _));intro v226 w2 ho3 hb hg_ hnew_;clear hg_ hnew_;(first | rw [← Ny225.out] at ho3 | (simp only [Int.reduceToNat] at ho3;rw [← Ny225.out] at ho3));have HO227:=zA (kI ho3 (kP (zQ HB.out)));replace HB:=zA (kQ (zQ HB.out) hb);clear hb ho3))
 go_loopg [0,3] k (fun kq v0 v3 w' => ∃ (x0_1:Int) (x3_1:List Int),v0 = .int .i64 x0_1 ∧ Aside0 (impl_members.l0 kq x0_1 x3_1 = some r) ∧ Aside0 (kq ≤ k) ∧ Aside0 (Kd.R (Kd.int .i64) 2 w' w.heap.size (fun _=>True) v3 x3_1) ∧ Aside0 (Below w.heap.size w w'))
 case atStart=>exact ⟨(a0),(y225),zs,H', ⟨Nat.le_refl _⟩,⟨zP HO227.out⟩,⟨zQ HB.out⟩⟩
 case round =>
  clear H'
  try clear c3
  obtain ⟨x0_1,x3_1,rfl,HA,HK1,HO_3,HB⟩:=hrel
  cases gk with
  | zero=>exact absurd HA.out (by simp [impl_members.l0])
  | succ k1 =>
   have H:=HA.out
   clear HA
   simp only [impl_members.l0] at H
   by_cases c4:x0_1 = 0
   ·rw [if_pos c4] at H
    obtain ⟨c4b0,c4b1⟩:=zT1 c4
    clear c4
    obtain rfl:=Option.some.inj H
    go_wp2
    go_ret
    exact ⟨_,zr,zP HO_3.out,zQ HB.out⟩
   rw [if_neg c4] at H
   obtain ⟨c4b0,c4b1⟩:=zT2 c4
   obtain ⟨t228,A5,H⟩:=zb H
   try dsimp only at H
   by_cases c6:x3_1.length < 17592186044416
   ·rw [if_pos c6] at H
    have LMc6:=zA c6
    clear c6
    obtain ⟨y229,hy229⟩:∃ y_:List Int,y_ = (x3_1 ++ [t228]):=⟨_,rfl⟩
    replace H:(impl_members.l0 k1 (Go.bits .and .i64 x0_1 (wrap64 (x0_1 - 1))) y229) = some r:=zy hy229 H
    have Ny229:=zA hy229
    clear hy229
    have H' := zA H
    clear H
    go_wp2_with (first | (refine zO (some 13) Tryd.func35 #[.int .i64 x0_1] ?_;(with_reducible refine (impl_least.calls x0_1 t228 _ ?side1 A5.out).mono ?_);(case side1=>exact TabW.below HT.out (zQ HB.out));rintro e w' ⟨rfl,⟨nd,rfl⟩⟩;refine ⟨_,rfl,?_⟩) | ((with_reducible refine gate_builtin (b:=.append) (xs:=#[.tmp 11,.tmp 14]) rfl ?_);at_builtin;refine Kd.R_append (Kd.int .i64) (w0:=w) w.heap.size rfl (.tmp 11) (.tmp 14) 22 2 (.int .i64 0) 8 rfl Tryd.underlying22 info2 rfl (by decide) (by omega) u3 x3_1 t228 [.int .i64 t228] (fun _=>True) (fun _=>False) rfl rfl ?aP (fun _ hk=>hk.elim) ?aF ?aO ?aB ?aS ?aL ?_;(case aP=>exact rfl);(case aB=>exact (zQ HB.out));(case aF=>exact (fun _ _=>trivial));(case aO=>exact (zP HO_3.out));(case aS=>exact (kP (zQ HB.out)));(case aL=>have:=LMc6.out;omega);intro v230 w7 ho hb hg hat;rw [← Ny229.out] at ho;replace HB:=zA (hb);have HO231:=zA (ho);clear HO_3;clear ho hb hg hat))
    go_roundg k1
    case measure=>have:=HK1.out;omega
    case rel=>exact ⟨(Go.bits .and .i64 x0_1 (wrap64 (x0_1 - 1))),(y229),zs,H', ⟨by have:=HK1.out;omega⟩,⟨zP HO231.out⟩,⟨zQ HB.out⟩⟩
   rw [if_neg c6] at H
   exact absurd H (by simp)
mutual
def impl_converse.l0:Nat → List Int → List Int → Int → Int → Option (List Int)
 | 0,_,_,_,_=>none
 | k + 1,x3,x11,x12,x13=>if x13 < x12 then (if 0 ≤ x13 then (if x13 < (x11.length:Int) then ((impl_members.f k (rd x11 x13)).bind fun t236=>(impl_converse.l1 k x3 x13 x11 x12 x13 t236 (t236.length:Int) 0)) else (none)) else (none)) else (some x3)
def impl_converse.l1:Nat → List Int → Int → List Int → Int → Int → List Int → Int → Int → Option (List Int)
 | 0,_,_,_,_,_,_,_,_=>none
 | k + 1,x3,x4,x11,x12,x13,x19,x20,x21=>if x21 < x20 then (if 0 ≤ x21 then (if x21 < (x19.length:Int) then (if 0 ≤ (rd x19 x21) then (if (rd x19 x21) < (x3.length:Int) then ((impl_one.f x4).bind fun t241=>(impl_converse.l1 k (x3.set ((rd x19 x21):Int).toNat (Go.bits .or .i64 (rd x3 (rd x19 x21)) t241)) x4 x11 x12 x13 x19 x20 (wrap64 (x21 + 1)))) else (none)) else (none)) else (none)) else (none)) else (impl_converse.l0 k x3 x11 x12 (wrap64 (x13 + 1)))
end
def impl_converse.f (k:Nat) (l0:List Int):Option (List Int):=if 0 ≤ (l0.length:Int) then (if ((l0.length:Int):Int).toNat ≤ 35184372088832 then (impl_converse.l0 k (List.replicate ((l0.length:Int):Int).toNat 0) l0 (l0.length:Int) 0) else (none)) else (none)
def impl_converse.T8:Bool × List (List Nat × List Nat):=(true,[([],[]),([],[]),([0,1],[0,1]),([2],[2]),([],[]),([4],[4]),([3,5],[3,5]),([0,1,0,1,2,3,4,5,6],[0,1]),([7,6,5,0,1,2,3,4,5,6],[6,7])])
def impl_converse.B8:List Nat:=[0,0,3,7,0,16,63,127,255]
theorem impl_converse.tab8:rtab .any (opsOf Tryd.f42 8) = impl_converse.T8:=by kernel_rfl
theorem impl_converse.bits8:waitsOk impl_converse.T8.2 impl_converse.B8 = true:=by kernel_rfl
set_option maxHeartbeats 8000000 in
set_option maxRecDepth 100000 in
theorem impl_converse.calls (k:Nat) (A0:Option Addr) (c0:Nat) (l0:List Int) (r:List Int) (w:World) (hr0:Kd.C (Kd.int .i64) w A0 l0.length l0) (hc0:l0.length ≤ c0) (hT:TabW w) (h:impl_converse.f k l0 = some r) :
  Calls Tryd.prog 42 #[.slice A0 l0.length c0] w fun e w' => ∃ v0_:Value,e = .returned (v0_) ∧ Kd.R (Kd.int .i64) 2 w' w.heap.size (fun _=>True) v0_ r ∧ Below w.heap.size w w' := by
 have HT:=zA hT
 clear hT
 have HR0:=zA hr0
 have HC0:=zA hc0
 clear hr0 hc0
 have HB:=zA (kW w.heap.size w)
 have H:=h
 unfold impl_converse.f at H
 clear h
 by_cases c2:0 ≤ (l0.length:Int)
 ·rw [if_pos c2] at H
  have c2b0:=eq_true c2
  have c2b1:decide (0 ≤ (l0.length:Int)) = true:=decide_eq_true c2
  clear c2
  by_cases c3:((l0.length:Int):Int).toNat ≤ 35184372088832
  ·rw [if_pos c3] at H
   have c3b0:=eq_true c3
   have c3b1:decide (((l0.length:Int):Int).toNat ≤ 35184372088832) = true:=decide_eq_true c3
   clear c3
   obtain ⟨y232,hy232⟩:∃ y_:List Int,y_ = (List.replicate ((l0.length:Int):Int).toNat 0):=⟨_,rfl⟩
   replace H:(impl_converse.l0 k y232 l0 (l0.length:Int) 0) = some r:=zy hy232 H
   have Ny232:=zA hy232
   clear hy232
   have H' := zA H
   clear H
   go_enter Tryd.func42,Tryd.ntmps42
   go_wp2_with (first | ((with_reducible refine kS (N:=10) rfl ?_);refine Kd.R_make (Kd.int .i64) _ 2 rfl (N:=10) rfl 22 _ _ rfl (l0.length:Int) rfl rfl Tryd.underlying22 (.int .i64 0) 8 info2 rfl (by decide) (by omega) 0 (ok:=fun _=>True) (okp:=fun _=>True) rfl (fun _ hk=>hk) trivial (zd) (Nat.le_trans (Nat.mul_le_mul_right _ (zd:(l0.length:Int).toNat ≤ 35184372088832)) (by omega)) (kW _ _) (Nat.le_refl _) ?_;intro v233 w4 ho5 hb hg_ hnew_;clear hg_ hnew_;(first | rw [← Ny232.out] at ho5 | (simp only [Int.reduceToNat] at ho5;rw [← Ny232.out] at ho5));have HO234:=zA (kI ho5 (kP (zQ HB.out)));replace HB:=zA (kQ (zQ HB.out) hb);clear hb ho5))
   go_loopg [13] k (fun kq v13 w' => ∃ (x3_1:List Int) (x13_1:Int),v13 = .int .i64 x13_1 ∧ Aside0 (impl_converse.l0 kq x3_1 l0 (l0.length:Int) x13_1 = some r) ∧ Aside0 (kq ≤ k) ∧ Aside0 (Kd.R (Kd.int .i64) 2 w' w.heap.size (fun _=>True) v233 x3_1) ∧ Aside0 (Below w.heap.size w w'))
   case atStart=>exact ⟨(y232),(0),zs,H', ⟨Nat.le_refl _⟩,⟨zP HO234.out⟩,⟨zQ HB.out⟩⟩
   case round =>
    clear H'
    try clear c2
    try clear c3
    try clear c4
    obtain ⟨x3_1,x13_1,rfl,HA,HK1,HO_3,HB⟩:=hrel
    cases gk with
    | zero=>exact absurd HA.out (by simp [impl_converse.l0])
    | succ k1 =>
     have H:=HA.out
     clear HA
     simp only [impl_converse.l0] at H
     by_cases c6:x13_1 < (l0.length:Int)
     ·rw [if_pos c6] at H
      have c6b0:decide (x13_1 < (l0.length:Int)) = true:=decide_eq_true c6
      clear c6
      by_cases c7:0 ≤ x13_1
      ·rw [if_pos c7] at H
       have c7b0:decide (0 ≤ x13_1) = true:=decide_eq_true c7
       clear c7
       by_cases c8:x13_1 < (l0.length:Int)
       ·rw [if_pos c8] at H
        have c8b0:decide (x13_1 < (l0.length:Int)) = true:=decide_eq_true c8
        clear c8
        obtain ⟨t236,A9,H⟩:=zb H
        try dsimp only at H
        have H' := zA H
        clear H
        have p235:0 ≤ (x13_1:Int):=zd
        have q235:x13_1 < (l0.length:Int):=zd
        obtain ⟨ad235,e235,hx235_0⟩:=Kd.at_int HR0.out x13_1 p235 q235
        cases e235
        replace hx235_0:=(HB.out.cell (jG w _ hx235_0)).trans hx235_0
        replace p235:=eq_true p235
        replace q235:=eq_true q235
        go_wp2_with (first | (refine zO (some 19) Tryd.func36 #[.int .i64 (rd l0 x13_1)] ?_;(with_reducible refine (impl_members.calls k1 (rd l0 x13_1) t236 _ ?side1 A9.out).mono ?_);(case side1=>exact TabW.below HT.out (zQ HB.out));rintro e w10 ⟨v237,rfl,ho0,hb⟩;refine ⟨_,rfl,?_⟩;have HO238:=zA (kI (kF ho0 (kH (zP HO_3.out))) (kP (zQ HB.out)));replace HO_3:=zA (kE (zP HO_3.out) (kC ho0) hb);replace HB:=zA (kQ (zQ HB.out) hb);(try clear hb);(try clear ho0);obtain ⟨Ao11,co11,eo11⟩:=kM HO238.out;subst eo11))
        go_loopg [21] k1 (fun kq v21 w' => ∃ (x3_2:List Int) (x21_2:Int),v21 = .int .i64 x21_2 ∧ Aside0 (impl_converse.l1 kq x3_2 x13_1 l0 (l0.length:Int) x13_1 t236 (t236.length:Int) x21_2 = some r) ∧ Aside0 (kq ≤ k1) ∧ Aside0 (Kd.R (Kd.int .i64) 2 w' w.heap.size (fun k_=>some k_ ≠ ((.slice Ao11 t236.length co11):Value).ownBlock) v233 x3_2) ∧ Aside0 (Kd.R (Kd.int .i64) 2 w' w.heap.size (fun k_=>some k_ ≠ (v233:Value).ownBlock) (.slice Ao11 t236.length co11) t236) ∧ Aside0 (Below w.heap.size w w'))
        case atStart=>exact ⟨(x3_1),(0),zs,H', ⟨Nat.le_refl _⟩,⟨zPM HO_3.out (fun _ hk=>hk.2)⟩,⟨zPM HO238.out (fun _ hk=>hk.2)⟩,⟨zQ HB.out⟩⟩
        case round =>
         clear H'
         try clear c2
         try clear hx2
         try clear c3
         try clear c4
         try clear c6
         try clear c7
         try clear c8
         try clear hx235_0
         obtain ⟨x3_2,x21_2,rfl,HA,HK2,HO_3,HO_19,HB⟩:=hrel
         cases gk with
         | zero=>exact absurd HA.out (by simp [impl_converse.l1])
         | succ k2 =>
          have H:=HA.out
          clear HA
          simp only [impl_converse.l1] at H
          by_cases c12:x21_2 < (t236.length:Int)
          ·rw [if_pos c12] at H
           have c12b0:decide (x21_2 < (t236.length:Int)) = true:=decide_eq_true c12
           clear c12
           by_cases c13:0 ≤ x21_2
           ·rw [if_pos c13] at H
            have c13b0:decide (0 ≤ x21_2) = true:=decide_eq_true c13
            clear c13
            by_cases c14:x21_2 < (t236.length:Int)
            ·rw [if_pos c14] at H
             have c14b0:decide (x21_2 < (t236.length:Int)) = true:=decide_eq_true c14
             clear c14
             by_cases c15:0 ≤ (rd t236 x21_2)
             ·rw [if_pos c15] at H
              have c15b0:decide (0 ≤ (rd t236 x21_2)) = true:=decide_eq_true c15
              clear c15
              by_cases c16:(rd t236 x21_2) < (x3_2.length:Int)
              ·rw [if_pos c16] at H
               have c16b0:decide ((rd t236 x21_2) < (x3_2.length:Int)) = true:=decide_eq_true c16
               clear c16
               obtain ⟨t241,A17,H⟩:=zb H
               try dsimp only at H
               obtain ⟨y242,hy242⟩:∃ y_:List Int,y_ = (x3_2.set ((rd t236 x21_2):Int).toNat (Go.bits .or .i64 (rd x3_2 (rd t236 x21_2)) t241)):=⟨_,rfl⟩
               replace H:(impl_converse.l1 k2 y242 x13_1 l0 (l0.length:Int) x13_1 t236 (t236.length:Int) (wrap64 (x21_2 + 1))) = some r:=zy hy242 H
               have Ny242:=zA hy242
               clear hy242
               have H' := zA H
               clear H
               have p239:0 ≤ (x21_2:Int):=zd
               have q239:x21_2 < (t236.length:Int):=zd
               obtain ⟨ad239,e239,hx239_0⟩:=Kd.at_int (kB HO_19.out).2.2 x21_2 p239 q239
               cases e239
               replace p239:=eq_true p239
               replace q239:=eq_true q239
               try go_wp2
               replace HO_3:=zA (zH HO_3.out)
               replace HO_19:=zA (zH HO_19.out)
               replace HB:=zA (zD HB.out)
               obtain ⟨Ao20,co20,eo20⟩:=kM HO_3.out
               (first | subst eo20 | (injection eo20 with f1_ f2_ f3_;have f4_:=f1_.symm;have f5_:=f3_.symm;clear f1_ f2_ f3_;subst f4_;subst f5_))
               have p240:0 ≤ ((rd t236 x21_2):Int):=zd
               have q240:(rd t236 x21_2) < (x3_2.length:Int):=zd
               obtain ⟨ad240,e240,hx240_0⟩:=Kd.at_int (kB HO_3.out).2.2 (rd t236 x21_2) p240 q240
               cases e240
               replace p240:=eq_true p240
               replace q240:=eq_true q240
               refine start_ (n:=9) (S:=fun w' => w'.cell? (ad240.add ((rd t236 x21_2)).toNat) = some (.int .i64 (rd x3_2 (rd t236 x21_2)))) (ds:=[8]) #[false,false,false,false,false,false,false,false,false] (by kernel_rfl) rfl rfl (hx240_0) (fun hHeld=>?_);refine with_tabW impl_converse.tab8 impl_converse.bits8 (fun HT_ HW_=>?_)
               generalize wr.drew = w19 at HO_3 HO_19 HB hx240_0 hHeld ⊢
               refine zp 0 (some 25) #[true,false,false,false,false,false,false,false,false] HT_.out ?_
               refine zp 1 (some 26) #[true,true,false,false,false,false,false,false,false] HT_.out ?_
               refine zp 2 (some 27) #[true,true,true,false,false,false,false,false,false] HT_.out ?_
               refine zp 4 (some 29) #[true,true,true,false,true,false,false,false,false] HT_.out ?_
               refine za 3 (some 28) #[true,true,true,true,true,false,false,false,false] HT_.out HW_.out hHeld ?_
               refine one_ (i:=5) (N:=some 30) #[true,true,true,true,true,true,false,false,false] rfl rfl (one_of HT_.out (by kernel_rfl)) (by decide) (fun K hK=>?_)
               refine goes_ Tryd.func33 (by kernel_rfl) rfl #[.int .i64 x13_1] (by rfl) rfl rfl zg ?_
               with_reducible refine (impl_one.calls x13_1 t241 _ A17.out).mono ?_
               rintro e w' ⟨rfl,⟨nd,rfl⟩⟩
               refine ⟨_,rfl,?_⟩
               have p18:0 ≤ ((rd t236 x21_2):Int):=zd
               have q18:((rd t236 x21_2):Int) < ((x3_2.length:Int):Int):=zd
               obtain ⟨go18,co18,eo18,gb18,gl18,cl18,HG18⟩:=Kd.R_form HO_3.out (by omega)
               (first | cases eo18 | (injection eo18 with ea_ en_ ec_;(first | subst ea_ | (injection ea_ with ea_;subst ea_));subst ec_;clear en_))
               have GB18:=zA gb18
               have GG18:=zA HG18
               clear gb18 gl18 HG18
               (first | simp only [add_plain] at hx240_0 | skip)
               obtain ⟨hx18_0,hf18_0⟩:=Kd.R_celln 0 HO_3.out ((rd t236 x21_2):Int) p18 q18
               replace p18:=eq_true p18
               replace q18:=eq_true q18
               have HP21:=Kd.R_putn HO_3.out ((rd t236 x21_2):Int) (Go.bits .or .i64 (rd x3_2 (rd t236 x21_2)) t241)
               rw [← Ny242.out] at HP21
               have HQ21:=zA HP21
               clear HP21
               refine hK.out _ _ (hHeld) (fun hHeld=>?_)
               clear hK K
               refine norm_ (a' := ?_) ?_ ?_
               rotate_left
               ·show Act.put _ (some 30) _ = _
                simp only [Act.put,zL,zM,zN,i64_w,i32_w]
                rfl
               refine zp 6 (some 31) #[true,true,true,true,true,true,true,false,false] HT_.out ?_
               refine zp 7 (some 32) #[true,true,true,true,true,true,true,true,false] HT_.out ?_
               refine last_ (i:=8) (N:=none) #[true,true,true,true,true,true,true,true,true] rfl rfl (one_of HT_.out (by kernel_rfl)) (by decide) (fun K hK=>?_)
               refine skip_ (w1:=?_) (by rfl) rfl ?_ ?_
               rotate_left
               ·go_simp
                rfl
               refine hK.out _ _ ?_
               clear hK K
               refine done_ (done_of HT_.out (by kernel_rfl)) ?_
               try go_wp2
               go_roundg k2
               case measure=>have:=HK1.out;have:=HK2.out;omega
               case rel=>exact ⟨(y242),(wrap64 (x21_2 + 1)),zs,H', ⟨by have:=HK1.out;have:=HK2.out;omega⟩,⟨zP HQ21.out⟩,⟨by (with_reducible repeat (first | apply zF | apply zG | apply zH));exact kA (kY (p:=⟨go18,((rd t236 x21_2):Int).toNat,none⟩) (kA HO_19.out (fun k_ hk=>(⟨hk,fun e_=>hk (by rw [e_];rfl)⟩:_ ∧ k_ ≠ go18))) (fun _ hk=>hk.2) (.int .i64 (Go.bits .or .i64 (rd x3_2 (rd t236 x21_2)) t241))) (fun _ hk=>hk.1)⟩,⟨zT HB.out GB18.out⟩⟩
              rw [if_neg c16] at H
              exact absurd H (by simp)
             rw [if_neg c15] at H
             exact absurd H (by simp)
            rw [if_neg c14] at H
            exact absurd H (by simp)
           rw [if_neg c13] at H
           exact absurd H (by simp)
          rw [if_neg c12] at H
          have c12b0:decide (x21_2 < (t236.length:Int)) = false:=decide_eq_false c12
          clear c12
          have H' := zA H
          clear H
          go_wp2
          go_roundg k2
          case measure=>have:=HK1.out;have:=HK2.out;omega
          case rel=>exact ⟨(x3_2),(wrap64 (x13_1 + 1)),zs,H', ⟨by have:=HK1.out;have:=HK2.out;omega⟩,⟨zPM HO_3.out (fun _ hk=>trivial)⟩,⟨zQ HB.out⟩⟩
       rw [if_neg c8] at H
       exact absurd H (by simp)
      rw [if_neg c7] at H
      exact absurd H (by simp)
     rw [if_neg c6] at H
     have c6b0:decide (x13_1 < (l0.length:Int)) = false:=decide_eq_false c6
     clear c6
     obtain rfl:=Option.some.inj H
     go_wp2
     go_ret
     exact ⟨_,zr,zP HO_3.out,zQ HB.out⟩
  rw [if_neg c3] at H
  exact absurd H (by simp)
 rw [if_neg c2] at H
 exact absurd H (by simp)
def impl_inRange.f (a0:Int) (a1:Int) (a2:Int):Option (Bool):=if a1 ≤ a0 then (some (decide (a0 ≤ a2))) else (some false)
set_option maxHeartbeats 8000000 in
set_option maxRecDepth 100000 in
theorem impl_inRange.calls (a0:Int) (a1:Int) (a2:Int) (r:Bool) (w:World) (h:impl_inRange.f a0 a1 a2 = some r) :
  Calls Tryd.prog 61 #[.int .i64 a0,.int .i64 a1,.int .i64 a2] w fun e w' => e = .returned (.bool r) ∧ Drawn0 w w' := by
 have H:=h
 unfold impl_inRange.f at H
 clear h
 by_cases c4:a1 ≤ a0
 ·rw [if_pos c4] at H
  have c4b0:decide (a1 ≤ a0) = true:=decide_eq_true c4
  clear c4
  obtain rfl:=Option.some.inj H
  go_enter Tryd.func61,Tryd.ntmps61
  go_wp2
  go_ret
  exact ⟨zs,by repeat (first | exact Drawn0.refl _ | apply Drawn0.step)⟩
 rw [if_neg c4] at H
 have c4b0:decide (a1 ≤ a0) = false:=decide_eq_false c4
 clear c4
 obtain rfl:=Option.some.inj H
 go_enter Tryd.func61,Tryd.ntmps61
 go_wp2
 go_ret
 exact ⟨zs,by repeat (first | exact Drawn0.refl _ | apply Drawn0.step)⟩
def impl_allIn.f (l0:List Int) (a1 a2:Int):Option Bool:=some (l0.all fun x=>decide (a1 ≤ x ∧ x ≤ a2))
theorem allIn_pred (l:List Int) (lo hi:Int) (B:Nat) (w:World) (hB:B + 1 < w.heap.size) (h1:w.cell? ⟨B,0,none⟩ = some (.int .i64 lo)) (h2:w.cell? ⟨B + 1,0,none⟩ = some (.int .i64 hi)) :
  PredOf 82 #[.pointer (some ⟨B,0,none⟩),.pointer (some ⟨B + 1,0,none⟩)] (fun x=>!decide (lo ≤ x ∧ x ≤ hi)) w l:=fun W x _ hb=>by
 have hc1:W.cell? ⟨B,0,none⟩ = some (.int .i64 lo):=(hb.cell (p:=⟨B,0,none⟩) (by simp;omega)).trans h1
 have hc2:W.cell? ⟨B + 1,0,none⟩ = some (.int .i64 hi):=(hb.cell (p:=⟨B + 1,0,none⟩) (by simpa using hB)).trans h2
 clear h1 h2 hb
 show Calls Tryd.prog 82 #[.int .i64 x,.pointer (some ⟨B,0,none⟩),.pointer (some ⟨B + 1,0,none⟩)] W _
 by_cases c1:lo ≤ x <;> by_cases c2:x ≤ hi
 all_goals
  go_enter Tryd.func82,Tryd.ntmps82
  go_wp2
  go_ret
  exact ⟨by simp [c1,c2],kW _ _⟩
theorem impl_allIn.calls (A0:Option Addr) (c0:Nat) (l0:List Int) (a1:Int) (a2:Int) (r:Bool) (w:World) (hr0:Kd.C (Kd.int .i64) w A0 l0.length l0) (hc0:l0.length ≤ c0) (h:impl_allIn.f l0 a1 a2 = some r) :
  Calls Tryd.prog 71 #[.slice A0 l0.length c0,.int .i64 a1,.int .i64 a2] w fun e w' => e = .returned (.bool r) ∧ Below w.heap.size w w' := by
 have hW:Below w.heap.size w ((w.alloc (.cells #[.int .i64 a1] 2)).alloc (.cells #[.int .i64 a2] 2)):=zB (zB (kW _ w) _) _
 have eg:∀ args w,(callFunc 82 args).run Tryd.prog w = .ok (.enter 82 args) w:=enters_fn Tryd.func82 (by kernel_rfl) rfl
 have hcon:=containsFunc_any A0 c0 l0 82 #[.pointer (some ⟨w.heap.size,0,none⟩),.pointer (some ⟨w.heap.size + 1,0,none⟩)] (fun x=>!decide (a1 ≤ x ∧ x ≤ a2)) _ eg
  (allIn_pred l0 a1 a2 w.heap.size ((w.alloc (.cells #[.int .i64 a1] 2)).alloc (.cells #[.int .i64 a2] 2)) (by simp) (by simp) (by simp)) (kO hr0 hW)
 have hr:(!(l0.any fun x=>!decide (a1 ≤ x ∧ x ≤ a2))) = r:=by
  have:=Option.some.inj h
  rw [← this,List.all_eq_not_any_not]
 clear h hr0 eg
 generalize (l0.any fun x=>!decide (a1 ≤ x ∧ x ≤ a2)) = b at hcon hr
 subst hr
 replace hW:=zA hW
 go_enter Tryd.func71,Tryd.ntmps71
 go_wp2_with fail
 refine hcon.mono ?_
 rintro e w' ⟨rfl,hb⟩
 replace hb:=zA hb
 clear hcon
 go_wp2
 go_ret
 exact ⟨rfl,kQ hW.out hb.out⟩
def impl_IsRelation.f (l0:List Int):Option (Bool):=if (l0.length:Int) ≤ 24 then ((impl_length_int64.f l0).bind fun t243=>((impl_one.f t243).bind fun t244=>((impl_allIn.f l0 0 (wrap64 (t244 - 1))).bind fun t245=>(some t245)))) else (some false)
set_option maxHeartbeats 8000000 in
set_option maxRecDepth 100000 in
theorem impl_IsRelation.calls (A0:Option Addr) (c0:Nat) (l0:List Int) (r:Bool) (w:World) (hr0:Kd.C (Kd.int .i64) w A0 l0.length l0) (hc0:l0.length ≤ c0) (h:impl_IsRelation.f l0 = some r) :
  Calls Tryd.prog 68 #[.slice A0 l0.length c0] w fun e w' => e = .returned (.bool r) ∧ Below w.heap.size w w' := by
 have HR0:=zA hr0
 have HC0:=zA hc0
 clear hr0 hc0
 have HB:=zA (kW w.heap.size w)
 have H:=h
 unfold impl_IsRelation.f at H
 clear h
 by_cases c2:(l0.length:Int) ≤ 24
 ·rw [if_pos c2] at H
  have c2b0:decide ((l0.length:Int) ≤ 24) = true:=decide_eq_true c2
  have c2b1:decide (l0.length ≤ 24) = true:=decide_eq_true (by omega)
  clear c2
  obtain ⟨t243,A3,H⟩:=zb H
  try dsimp only at H
  obtain ⟨t244,A4,H⟩:=zb H
  try dsimp only at H
  obtain ⟨t245,A5,H⟩:=zb H
  try dsimp only at H
  obtain rfl:=Option.some.inj H
  go_enter Tryd.func68,Tryd.ntmps68
  go_wp2_with (first | (go_at_call 34;(with_reducible refine (impl_length_int64.calls _ _ l0 t243 _ ?side1 ?side2 A3.out).mono ?_);(case side1=>exact zS HR0.out);(case side2=>exact HC0.out);rintro e w' ⟨rfl,⟨nd,rfl⟩⟩) | (go_at_call 33;(with_reducible refine (impl_one.calls t243 t244 _ A4.out).mono ?_);rintro e w' ⟨rfl,⟨nd,rfl⟩⟩) | (go_at_call 71;(with_reducible refine (impl_allIn.calls _ _ l0 0 (wrap64 (t244 - 1)) t245 _ ?side1 ?side2 A5.out).mono ?_);(case side1=>exact zS HR0.out);(case side2=>exact HC0.out);rintro e w6 ⟨rfl,hb⟩;replace HB:=zA (kQ (zQ HB.out) hb);(try clear hb)))
  go_ret
  exact ⟨zr,zQ HB.out⟩
 rw [if_neg c2] at H
 have c2b0:decide ((l0.length:Int) ≤ 24) = false:=decide_eq_false c2
 have c2b1:decide (l0.length ≤ 24) = false:=decide_eq_false (by omega)
 clear c2
 obtain rfl:=Option.some.inj H
 go_enter Tryd.func68,Tryd.ntmps68
 go_wp2
 go_ret
 exact ⟨zr,zQ HB.out⟩
def impl_has.f (a0:Int) (a1:Int):Option (Bool):=if 0 ≤ a1 then (some ((Go.bits .and .i64 (shr .i64 a0 a1) 1) == 1)) else (none)
set_option maxHeartbeats 8000000 in
set_option maxRecDepth 100000 in
theorem impl_has.calls (a0:Int) (a1:Int) (r:Bool) (w:World) (h:impl_has.f a0 a1 = some r) :
  Calls Tryd.prog 69 #[.int .i64 a0,.int .i64 a1] w fun e w' => e = .returned (.bool r) ∧ Drawn0 w w' := by
 have H:=h
 unfold impl_has.f at H
 clear h
 by_cases c3:0 ≤ a1
 ·rw [if_pos c3] at H
  have c3b0:=eq_true c3
  have c3b1:decide (0 ≤ a1) = true:=decide_eq_true c3
  clear c3
  obtain ⟨ji4,hji4⟩:∃ j_:Int,(shr .i64 a0 a1) = j_:=⟨_,rfl⟩
  replace H:(some ((Go.bits .and .i64 (ji4) 1) == 1)) = some r:=by first | (rw [hji4] at H;exact H) | (simp only [hji4] at H ⊢;exact H)
  have hji4_:(a0 / 2 ^ min a1.toNat 64) = ji4:=hji4
  have hji4z:a1 ≤ 64 → (a0 / 2 ^ a1.toNat) = ji4:=shr_small hji4
  obtain rfl:=Option.some.inj H
  go_enter Tryd.func69,Tryd.ntmps69
  go_wp2
  go_ret
  exact ⟨by first | rfl | (simp;done) | (simp only [← hji4] <;> (first | rfl | simp)) | (simp [*];done),by repeat (first | exact Drawn0.refl _ | apply Drawn0.step)⟩
 rw [if_neg c3] at H
 exact absurd H (by simp)
end Go.Proofs.YtpenijicdldipaaDoor.PAll
