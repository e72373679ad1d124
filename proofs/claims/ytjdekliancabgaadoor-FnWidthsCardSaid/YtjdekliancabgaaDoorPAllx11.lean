import Derived.Test.YtjdekliancabgaaDoorPAllx0
import Derived.Test.YtjdekliancabgaaDoorPAllx1
import Derived.Test.YtjdekliancabgaaDoorPAllx2
import Derived.Test.YtjdekliancabgaaDoorPAllx3
namespace Go.Proofs.YtjdekliancabgaaDoor.PAll
open Go.RowKit Go.Proofs.YtjdekliancabgaaDoor.T Go.Proofs.YtjdekliancabgaaDoorW.PrintWords Go.Proofs.YtjdekliancabgaaDoorW.PrintLast Go.Proofs.YtjdekliancabgaaDoorW.PrintMore
attribute [local go_sem] max2_int min2_int max_two min_two max_three min_three max_four min_four   -- for this text's walks alone
set_option linter.unusedVariables false
set_option linter.unusedSimpArgs false
def spec_l03Draw.l0:Nat → List Int → Int → List Int → Int → Int → Int → List Int → Option (List Int × Int × Int)
 | 0,_,_,_,_,_,_,_=>none
 | k + 1,x7,x8,x1000,x1001,x1002,x557000,x557001=>if x8 > 0 then (if (x7.length:Int) > 0 then ((spec_l01Next.f x1000 x1001 x1002 8).bind fun bt563=>(if bt563.1 = 0 then (if 0 ≤ (wrap64 ((x7.length:Int) - 1)) then (if (wrap64 ((x7.length:Int) - 1)) < (x7.length:Int) then (if x7.length < 17592186044416 then (spec_l03Draw.l0 k (x7 ++ [rd x7 (wrap64 ((x7.length:Int) - 1))]) (wrap64 (x8 - 1)) x1000 bt563.2.1 bt563.2.2 x557000 x557001) else (none)) else (none)) else (none)) else ((spec_l01Next.f x1000 bt563.2.1 bt563.2.2 x557000).bind fun bt570=>(if x7.length < 17592186044416 then (spec_l03Draw.l0 k (x7 ++ [bt570.1]) (wrap64 (x8 - 1)) x1000 bt570.2.1 bt570.2.2 x557000 x557001) else (none))))) else ((spec_l01Next.f x1000 x1001 x1002 x557000).bind fun bt576=>(if x7.length < 17592186044416 then (spec_l03Draw.l0 k (x7 ++ [bt576.1]) (wrap64 (x8 - 1)) x1000 bt576.2.1 bt576.2.2 x557000 x557001) else (none)))) else (some (x7,x1001,x1002))
def spec_l03Draw.f (k:Nat) (s0_0:List Int) (s0_1:Int) (s0_2:Int) (a1_0:Int) (l1_1:List Int) (a2:Int):Option (List Int × Int × Int):=(some (([]:List Int):List Int)).bind fun y557=>(if a1_0 = 0 then (some (y557,s0_1,s0_2)) else ((spec_l01Next.f s0_0 s0_1 s0_2 (wrap64 (a2 + 1))).bind fun bt560=>(spec_l03Draw.l0 k y557 bt560.1 s0_0 bt560.2.1 bt560.2.2 a1_0 l1_1)))
set_option maxHeartbeats 8000000 in
set_option maxRecDepth 100000 in
theorem spec_l03Draw.calls (k : Nat) (g : Nat) (s0_0 : List Int) (s0_1 : Int) (s0_2 : Int) (a1_0 : Int) (A1_1 : Option Addr) (c1_1 : Nat) (l1_1 : List Int) (a2 : Int) (r1 : List Int) (r2 : Int) (r3 : Int) (w0 w : World) (hI : Z66 w0 w g s0_0 s0_1 s0_2) (hB : Below w0.heap.size w0 w) (hr1_1 : Kd.C (Kd.int .i64) w A1_1 l1_1.length l1_1) (hc1_1 : l1_1.length ≤ c1_1) (hf1_1 : ∀ ad, A1_1 = some ad → 0 < l1_1.length → ad.block ≠ g) (h : spec_l03Draw.f k s0_0 s0_1 s0_2 a1_0 l1_1 a2 = some (r1, r2, r3)) :
  Calls Tryd.prog 75 #[.pointer (some ⟨g,0,none⟩),.agg #[.int .i64 a1_0,.slice A1_1 l1_1.length c1_1],.int .i64 a2] w fun e w' => ∃ v0_:Value,e = .returned (v0_) ∧ Kd.R (Kd.int .i64) 2 w' w.heap.size (fun _=>True) v0_ r1 ∧ Z66 w0 w' g s0_0 r2 r3 ∧ Below w0.heap.size w0 w' ∧ KeepBut w w' g none:=by
 have hu26:=Tryd.underlying26
 have HR1_1:=zA hr1_1
 have HC1_1:=zA hc1_1
 clear hr1_1 hc1_1
 have HI0:=zA hI
 have HK:=zA (KeepBut.refl w g none)
 have HL:=zA hB.size
 clear hI
 have HW0:=zA hB.size
 have HB:=zA hB
 clear hB
 have H:=h
 unfold spec_l03Draw.f at H
 clear h
 obtain ⟨y557,hy557⟩:∃ y_:List Int,y_ = (([]:List Int)):=⟨_,rfl⟩
 replace H:(if a1_0 = 0 then (some (y557,s0_1,s0_2)) else ((spec_l01Next.f s0_0 s0_1 s0_2 (wrap64 (a2 + 1))).bind fun bt560=>(spec_l03Draw.l0 k y557 bt560.1 s0_0 bt560.2.1 bt560.2.2 a1_0 l1_1))) = some (r1,r2,r3):=zy hy557 H
 have Ny557:=zA hy557
 clear hy557
 by_cases c4:a1_0 = 0
 ·rw [if_pos c4] at H
  obtain ⟨c4b0,c4b1⟩:=zT1 c4
  clear c4
  simp only [Option.some.injEq,Prod.mk.injEq] at H
  obtain ⟨rfl,rfl,rfl⟩:=H
  go_enter Tryd.func75,Tryd.ntmps75
  go_wp2_with (first | (refine zBE 4 #[.int .i64 a1_0,.slice A1_1 l1_1.length c1_1] 26 ?_;intro gb556 hg w5 hbox hb;replace HB:=zA (kQ (zT HB.out (Z66.ge HI0.out)) hb);have BK556:=zA (hbox);have GW556:=zA (zB6 hg (kX (w:=w) (g:=g) (row:=none) (yA HK.out)):w.heap.size ≤ gb556);have GE556:=zA ((Nat.le_trans HW0.out (by rw [hg];exact (kX (w:=w) (g:=g) (row:=none) (yA HK.out)):w.heap.size ≤ gb556):w0.heap.size ≤ gb556));replace HK:=zA (kT (yA HK.out) (kU hb g none) (.inl rfl));have NB0_556:=zA (zB7 hg (Z66.lt (show Z66 w0 _ g s0_0 s0_1 s0_2 from Z66.uA HI0.out)):g ≠ gb556);have NB556_0:=zA (zB8 hg (Z66.lt (show Z66 w0 _ g s0_0 s0_1 s0_2 from Z66.uA HI0.out)):gb556 ≠ g);replace HI0:=zA (Z66.below (Z66.uA HI0.out) hb);clear hb hbox hg) | ((with_reducible refine kS (N:=9) rfl ?_);refine Kd.R_lit (Kd.int .i64) _ 2 ?hg (N:=9) ?hd (xs:=([]:List Int)) (inner:=[]) (ok:=fun _=>True) (okp:=fun _=>True) ?hr ?hp (fun _ hk=>hk) trivial (kW _ _) (Nat.le_refl _) (by simp) ?_;(case hd=>rfl);(case hg=>rfl);(case hr=>first | (go_simp;done) | (go_simp;rfl));(case hp=>exact (Reps.none _ _));intro v558 w6 ho7 hb hg_ hnew_;clear hg_ hnew_;(first | rw [← Ny557.out] at ho7 | (simp only [Int.reduceToNat] at ho7;rw [← Ny557.out] at ho7));have HO559:=zA (kI ho7 (kX (w:=w) (g:=g) (row:=none) (yB HK.out GW556.out)));replace BK556:=zA (zB1 BK556.out hb);replace HK:=zA (kT (yB HK.out GW556.out) (kU hb g none) (.inl rfl));replace HB:=zA (kQ (zV HB.out (Z66.ge HI0.out) GE556.out) hb);replace HI0:=zA (Z66.below (Z66.uB HI0.out NB0_556.out) hb);clear hb ho7;have hnb8:=NB556_0.out;have hnc8:=NB0_556.out;obtain ⟨hcz9_0,hcz9_1,hfz9_0,hfz9_1⟩:=zB3 BK556.out))
  go_ret
  exact ⟨_,zr,zP HO559.out,by repeat (first | (with_reducible first | exact HI0.out | apply Z66.alloc | apply Z66.drewN | apply Z66.drew | apply Z66.set_1 | apply Z66.set_2 | refine Z66.far ?_ NB0_556.out _) | exact HI0.out),zV HB.out (Z66.ge HI0.out) GE556.out,by repeat (first | (with_reducible first | exact HK.out | apply KeepBut.set_ | apply keep_drewN | apply keep_drew | apply keep_alloc | refine keep_far ?_ GW556.out _) | exact HK.out)⟩
 rw [if_neg c4] at H
 obtain ⟨c4b0,c4b1⟩:=zT2 c4
 obtain ⟨⟨t560,t561,t562⟩,A10,H⟩:=zb H
 try dsimp only at H
 have H' := zA H
 clear H
 go_enter Tryd.func75,Tryd.ntmps75
 go_wp2_with (first | (refine zBE 4 #[.int .i64 a1_0,.slice A1_1 l1_1.length c1_1] 26 ?_;intro gb556 hg w11 hbox hb;replace HB:=zA (kQ (zT HB.out (Z66.ge HI0.out)) hb);have BK556:=zA (hbox);have GW556:=zA (zB6 hg (kX (w:=w) (g:=g) (row:=none) (yA HK.out)):w.heap.size ≤ gb556);have GE556:=zA ((Nat.le_trans HW0.out (by rw [hg];exact (kX (w:=w) (g:=g) (row:=none) (yA HK.out)):w.heap.size ≤ gb556):w0.heap.size ≤ gb556));replace HK:=zA (kT (yA HK.out) (kU hb g none) (.inl rfl));have NB0_556:=zA (zB7 hg (Z66.lt (show Z66 w0 _ g s0_0 s0_1 s0_2 from Z66.uA HI0.out)):g ≠ gb556);have NB556_0:=zA (zB8 hg (Z66.lt (show Z66 w0 _ g s0_0 s0_1 s0_2 from Z66.uA HI0.out)):gb556 ≠ g);replace HI0:=zA (Z66.below (Z66.uA HI0.out) hb);clear hb hbox hg) | ((with_reducible refine kS (N:=9) rfl ?_);refine Kd.R_lit (Kd.int .i64) _ 2 ?hg (N:=9) ?hd (xs:=([]:List Int)) (inner:=[]) (ok:=fun _=>True) (okp:=fun _=>True) ?hr ?hp (fun _ hk=>hk) trivial (kW _ _) (Nat.le_refl _) (by simp) ?_;(case hd=>rfl);(case hg=>rfl);(case hr=>first | (go_simp;done) | (go_simp;rfl));(case hp=>exact (Reps.none _ _));intro v558 w12 ho13 hb hg_ hnew_;clear hg_ hnew_;(first | rw [← Ny557.out] at ho13 | (simp only [Int.reduceToNat] at ho13;rw [← Ny557.out] at ho13));have HO559:=zA (kI ho13 (kX (w:=w) (g:=g) (row:=none) (yB HK.out GW556.out)));replace BK556:=zA (zB1 BK556.out hb);replace HK:=zA (kT (yB HK.out GW556.out) (kU hb g none) (.inl rfl));replace HB:=zA (kQ (zV HB.out (Z66.ge HI0.out) GE556.out) hb);replace HI0:=zA (Z66.below (Z66.uB HI0.out NB0_556.out) hb);clear hb ho13;have hnb14:=NB556_0.out;have hnc14:=NB0_556.out;obtain ⟨hcz15_0,hcz15_1,hfz15_0,hfz15_1⟩:=zB3 BK556.out) | (refine zO (some 17) Tryd.func41 #[.pointer (some ⟨g,0,none⟩),.int .i64 (wrap64 (a2 + 1))] ?_;(with_reducible refine (spec_l01Next.calls g s0_0 s0_1 s0_2 (wrap64 (a2 + 1)) t560 t561 t562 w0 _ ?side1 ?side2 A10.out).mono ?_);(case side1=>exact Z66.uB HI0.out NB0_556.out);(case side2=>exact zV HB.out (Z66.ge HI0.out) GE556.out);rintro e w16 ⟨rfl,hi,hb,hk⟩;refine ⟨_,rfl,?_⟩;replace BK556:=zA (zB2 hk BK556.out NB556_0.out);replace HO559:=zA (zB9 (Z66.apart (show Z66 w0 _ g s0_0 s0_1 s0_2 from Z66.uB HI0.out NB0_556.out) (zP HO559.out) (by decide)) hk);replace HK:=zA (kT (yB HK.out GW556.out) hk (.inl rfl));replace HB:=zA (hb);replace HI0:=zA (hi);(try clear hb);(try clear hk);(try clear hi)))
 go_loopg [7,8] k (fun kq v7 v8 w' => ∃ (x7_1:List Int) (x8_1:Int) (x1001_1:Int) (x1002_1:Int),v8 = .int .i64 x8_1 ∧ Aside0 (spec_l03Draw.l0 kq x7_1 x8_1 s0_0 x1001_1 x1002_1 a1_0 l1_1 = some (r1,r2,r3)) ∧ Aside0 (kq ≤ k) ∧ Aside0 (Kd.R (Kd.int .i64) 2 w' w.heap.size (fun _=>True) v7 x7_1) ∧ Aside0 (w'.heap[gb556]? = some (.cells #[.int .i64 a1_0,(.slice A1_1 l1_1.length c1_1)] 26 (0,0))) ∧ Aside0 (Z66 w0 w' g s0_0 x1001_1 x1002_1) ∧ Aside0 (KeepBut w w' g none) ∧ Aside0 (Below w0.heap.size w0 w'))
 case atStart=>exact ⟨(y557),(t560),(t561),(t562),zs,H', ⟨Nat.le_refl _⟩,⟨zP HO559.out⟩,⟨zR BK556.out⟩,⟨Z66.uB HI0.out NB0_556.out⟩,⟨yB HK.out GW556.out⟩,⟨zV HB.out (Z66.ge HI0.out) GE556.out⟩⟩
 case round =>
  clear H'
  try clear c1
  try clear c4
  try clear c7
  try clear c8
  try clear c14
  try clear hcz15_0
  try clear hcz15_1
  try clear hcz9_0
  try clear hcz9_1
  try clear hfz15_0
  try clear hfz15_1
  try clear hfz9_0
  try clear hfz9_1
  obtain ⟨x7_1,x8_1,x1001_1,x1002_1,rfl,HA,HK1,HO_7,BK556,HI0,HK,HB⟩:=hrel
  cases gk with
  | zero=>exact absurd HA.out (by simp [spec_l03Draw.l0])
  | succ k1 =>
   have H:=HA.out
   clear HA
   simp only [spec_l03Draw.l0] at H
   by_cases c17:x8_1 > 0
   ·rw [if_pos c17] at H
    have c17b0:decide (0 < x8_1) = true:=decide_eq_true c17
    clear c17
    by_cases c18:(x7_1.length:Int) > 0
    ·rw [if_pos c18] at H
     have c18b0:decide (0 < (x7_1.length:Int)) = true:=decide_eq_true c18
     have c18b1:decide (0 < x7_1.length) = true:=decide_eq_true (by omega)
     clear c18
     obtain ⟨⟨t563,t564,t565⟩,A19,H⟩:=zb H
     try dsimp only at H
     by_cases c20:t563 = 0
     ·rw [if_pos c20] at H
      obtain ⟨c20b0,c20b1⟩:=zT1 c20
      clear c20
      obtain ⟨ji21,hji21⟩:∃ j_:Int,(wrap64 ((x7_1.length:Int) - 1)) = j_:=⟨_,rfl⟩
      replace H:(if 0 ≤ (ji21) then (if (ji21) < (x7_1.length:Int) then (if x7_1.length < 17592186044416 then (spec_l03Draw.l0 k1 (x7_1 ++ [rd x7_1 (ji21)]) (wrap64 (x8_1 - 1)) s0_0 t564 t565 a1_0 l1_1) else (none)) else (none)) else (none)) = some (r1,r2,r3):=by first | (rw [hji21] at H;exact H) | (simp only [hji21] at H ⊢;exact H)
      (try rw [hji21] at A19)
      have hji21w:(IntKind.i64.wrap ((x7_1.length:Int) - 1)) = ji21:=(i64_w _).trans hji21
      by_cases c22:0 ≤ (ji21)
      ·rw [if_pos c22] at H
       have c22b0:decide (0 ≤ (ji21)) = true:=decide_eq_true c22
       clear c22
       by_cases c23:(ji21) < (x7_1.length:Int)
       ·rw [if_pos c23] at H
        have c23b0:decide ((ji21) < (x7_1.length:Int)) = true:=decide_eq_true c23
        clear c23
        by_cases c24:x7_1.length < 17592186044416
        ·rw [if_pos c24] at H
         have LMc24:=zA c24
         clear c24
         obtain ⟨y567,hy567⟩:∃ y_:List Int,y_ = (x7_1 ++ [rd x7_1 (ji21)]):=⟨_,rfl⟩
         replace H:(spec_l03Draw.l0 k1 y567 (wrap64 (x8_1 - 1)) s0_0 t564 t565 a1_0 l1_1) = some (r1,r2,r3):=zy hy567 H
         have Ny567:=zA hy567
         clear hy567
         have H' := zA H
         clear H
         obtain ⟨Ao25,co25,eo25⟩:=kM HO_7.out
         subst eo25
         go_wp2_with (first | (go_at_call 41;(with_reducible refine (spec_l01Next.calls g s0_0 x1001_1 x1002_1 8 t563 t564 t565 w0 _ ?side1 ?side2 A19.out).mono ?_);(case side1=>exact Z66.uB HI0.out NB0_556.out);(case side2=>exact zV HB.out (Z66.ge HI0.out) GE556.out);rintro e w26 ⟨rfl,hi,hb,hk⟩;replace HO_7:=zA (zB9 (Z66.apart (show Z66 w0 _ g s0_0 x1001_1 x1002_1 from Z66.uB HI0.out NB0_556.out) (zP HO_7.out) (by decide)) hk);replace BK556:=zA (zB2 hk BK556.out NB556_0.out);replace HK:=zA (kT (yB HK.out GW556.out) hk (.inl rfl));replace HB:=zA (hb);replace HI0:=zA (hi);(try clear hb);(try clear hk);(try clear hi);have p566:0 ≤ ((ji21):Int):=zd;have q566:(ji21) < (x7_1.length:Int):=zd;obtain ⟨ad566,e566,hx566_0⟩:=Kd.at_int (kB HO_7.out).2.2 (ji21) p566 q566;cases e566;replace p566:=eq_true p566;replace q566:=eq_true q566) | ((with_reducible refine gate_builtin (b:=.append) (xs:=#[.tmp 30,.tmp 37]) rfl ?_);at_builtin;refine Kd.R_append (Kd.int .i64) w.heap.size rfl (.tmp 30) (.tmp 37) 24 2 (.int .i64 0) 8 rfl Tryd.underlying24 info2 rfl (by decide) (by omega) (.slice (some ad566) x7_1.length co25) x7_1 (rd x7_1 (ji21)) [.int .i64 (rd x7_1 (ji21))] (fun _=>True) (fun _=>False) rfl rfl ?aP (fun _ hk=>hk.elim) ?aF ?aO (kW _ _) ?aS ?aL ?_;(case aP=>exact rfl);(case aF=>exact (fun _ _=>trivial));(case aO=>exact (zP HO_7.out));(case aS=>exact (kX (w:=w) (g:=g) (row:=none) (yB HK.out GW556.out)));(case aL=>have:=LMc24.out;omega);intro v568 w27 ho hb hg hat;rw [← Ny567.out] at ho;replace BK556:=zA (blk_grown (g:=gb556) (o:=.cells #[.int .i64 a1_0,.slice A1_1 l1_1.length c1_1] 26 (0,0)) (zR BK556.out) hg (Kd.R_ne HO_7.out BK556.out (by decide)));replace HB:=zA (below_weaken (zV HB.out (Z66.ge HI0.out) GE556.out) HL.out hb);replace HI0:=zA (Z66.grown (Z66.uB HI0.out NB0_556.out) hg (Z66.own_ne HI0.out HO_7.out (by decide)));replace HK:=zA (kT (yB HK.out GW556.out) (KeepBut.of_grown hg g) (Kd.R_base2 HO_7.out));have HO569:=zA (ho);clear HO_7;clear ho hb hg hat))
         go_roundg k1
         case measure=>have:=HK1.out;omega
         case rel=>exact ⟨(y567),(wrap64 (x8_1 - 1)),(t564),(t565),zs,H', ⟨by have:=HK1.out;omega⟩,⟨zP HO569.out⟩,⟨zR BK556.out⟩,⟨Z66.uB HI0.out NB0_556.out⟩,⟨yB HK.out GW556.out⟩,⟨zV HB.out (Z66.ge HI0.out) GE556.out⟩⟩
        rw [if_neg c24] at H
        exact absurd H (by simp)
       rw [if_neg c23] at H
       exact absurd H (by simp)
      rw [if_neg c22] at H
      exact absurd H (by simp)
     rw [if_neg c20] at H
     obtain ⟨c20b0,c20b1⟩:=zT2 c20
     obtain ⟨⟨t570,t571,t572⟩,A28,H⟩:=zb H
     try dsimp only at H
     by_cases c29:x7_1.length < 17592186044416
     ·rw [if_pos c29] at H
      have LMc29:=zA c29
      clear c29
      obtain ⟨y573,hy573⟩:∃ y_:List Int,y_ = (x7_1 ++ [t570]):=⟨_,rfl⟩
      replace H:(spec_l03Draw.l0 k1 y573 (wrap64 (x8_1 - 1)) s0_0 t571 t572 a1_0 l1_1) = some (r1,r2,r3):=zy hy573 H
      have Ny573:=zA hy573
      clear hy573
      have H' := zA H
      clear H
      obtain ⟨Ao30,co30,eo30⟩:=kM HO_7.out
      subst eo30
      go_wp2_with (first | (go_at_call 41;(with_reducible refine (spec_l01Next.calls g s0_0 x1001_1 x1002_1 8 t563 t564 t565 w0 _ ?side1 ?side2 A19.out).mono ?_);(case side1=>exact Z66.uB HI0.out NB0_556.out);(case side2=>exact zV HB.out (Z66.ge HI0.out) GE556.out);rintro e w31 ⟨rfl,hi,hb,hk⟩;replace HO_7:=zA (zB9 (Z66.apart (show Z66 w0 _ g s0_0 x1001_1 x1002_1 from Z66.uB HI0.out NB0_556.out) (zP HO_7.out) (by decide)) hk);replace BK556:=zA (zB2 hk BK556.out NB556_0.out);replace HK:=zA (kT (yB HK.out GW556.out) hk (.inl rfl));replace HB:=zA (hb);replace HI0:=zA (hi);(try clear hb);(try clear hb2);(try clear hk);(try clear hi);(try clear hgw);have hnb32:=NB556_0.out;have hnc32:=NB0_556.out;obtain ⟨hcz33_0,hcz33_1,hfz33_0,hfz33_1⟩:=zB3 BK556.out) | (refine zO (some 43) Tryd.func41 #[.pointer (some ⟨g,0,none⟩),.int .i64 a1_0] ?_;(with_reducible refine (spec_l01Next.calls g s0_0 t564 t565 a1_0 t570 t571 t572 w0 _ ?side1 ?side2 A28.out).mono ?_);(case side1=>exact Z66.uB HI0.out NB0_556.out);(case side2=>exact zV HB.out (Z66.ge HI0.out) GE556.out);rintro e w34 ⟨rfl,hi,hb,hk⟩;refine ⟨_,rfl,?_⟩;replace HO_7:=zA (zB9 (Z66.apart (show Z66 w0 _ g s0_0 t564 t565 from Z66.uB HI0.out NB0_556.out) (zP HO_7.out) (by decide)) hk);replace BK556:=zA (zB2 hk BK556.out NB556_0.out);replace HK:=zA (kT (yB HK.out GW556.out) hk (.inl rfl));replace HB:=zA (hb);replace HI0:=zA (hi);(try clear hb);(try clear hb2);(try clear hk);(try clear hi);(try clear hgw)) | ((with_reducible refine gate_builtin (b:=.append) (xs:=#[.tmp 39,.tmp 44]) rfl ?_);at_builtin;refine Kd.R_append (Kd.int .i64) w.heap.size rfl (.tmp 39) (.tmp 44) 24 2 (.int .i64 0) 8 rfl Tryd.underlying24 info2 rfl (by decide) (by omega) (.slice Ao30 x7_1.length co30) x7_1 t570 [.int .i64 t570] (fun _=>True) (fun _=>False) rfl rfl ?aP (fun _ hk=>hk.elim) ?aF ?aO (kW _ _) ?aS ?aL ?_;(case aP=>exact rfl);(case aF=>exact (fun _ _=>trivial));(case aO=>exact (zP HO_7.out));(case aS=>exact (kX (w:=w) (g:=g) (row:=none) (yB HK.out GW556.out)));(case aL=>have:=LMc29.out;omega);intro v574 w35 ho hb hg hat;rw [← Ny573.out] at ho;replace BK556:=zA (blk_grown (g:=gb556) (o:=.cells #[.int .i64 a1_0,.slice A1_1 l1_1.length c1_1] 26 (0,0)) (zR BK556.out) hg (Kd.R_ne HO_7.out BK556.out (by decide)));replace HB:=zA (below_weaken (zV HB.out (Z66.ge HI0.out) GE556.out) HL.out hb);replace HI0:=zA (Z66.grown (Z66.uB HI0.out NB0_556.out) hg (Z66.own_ne HI0.out HO_7.out (by decide)));replace HK:=zA (kT (yB HK.out GW556.out) (KeepBut.of_grown hg g) (Kd.R_base2 HO_7.out));have HO575:=zA (ho);clear HO_7;clear ho hb hg hat))
      go_roundg k1
      case measure=>have:=HK1.out;omega
      case rel=>exact ⟨(y573),(wrap64 (x8_1 - 1)),(t571),(t572),zs,H', ⟨by have:=HK1.out;omega⟩,⟨zP HO575.out⟩,⟨zR BK556.out⟩,⟨Z66.uB HI0.out NB0_556.out⟩,⟨yB HK.out GW556.out⟩,⟨zV HB.out (Z66.ge HI0.out) GE556.out⟩⟩
     rw [if_neg c29] at H
     exact absurd H (by simp)
    rw [if_neg c18] at H
    have c18b0:decide (0 < (x7_1.length:Int)) = false:=decide_eq_false c18
    have c18b1:decide (0 < x7_1.length) = false:=decide_eq_false (by omega)
    clear c18
    obtain ⟨⟨t576,t577,t578⟩,A36,H⟩:=zb H
    try dsimp only at H
    by_cases c37:x7_1.length < 17592186044416
    ·rw [if_pos c37] at H
     have LMc37:=zA c37
     clear c37
     obtain ⟨y579,hy579⟩:∃ y_:List Int,y_ = (x7_1 ++ [t576]):=⟨_,rfl⟩
     replace H:(spec_l03Draw.l0 k1 y579 (wrap64 (x8_1 - 1)) s0_0 t577 t578 a1_0 l1_1) = some (r1,r2,r3):=zy hy579 H
     have Ny579:=zA hy579
     clear hy579
     have H' := zA H
     clear H
     obtain ⟨Ao38,co38,eo38⟩:=kM HO_7.out
     subst eo38
     have hnb39:=NB556_0.out
     have hnc39:=NB0_556.out
     obtain ⟨hcz40_0,hcz40_1,hfz40_0,hfz40_1⟩:=zB3 BK556.out
     go_wp2_with (first | (refine zO (some 43) Tryd.func41 #[.pointer (some ⟨g,0,none⟩),.int .i64 a1_0] ?_;(with_reducible refine (spec_l01Next.calls g s0_0 x1001_1 x1002_1 a1_0 t576 t577 t578 w0 _ ?side1 ?side2 A36.out).mono ?_);(case side1=>exact Z66.uB HI0.out NB0_556.out);(case side2=>exact zV HB.out (Z66.ge HI0.out) GE556.out);rintro e w41 ⟨rfl,hi,hb,hk⟩;refine ⟨_,rfl,?_⟩;replace HO_7:=zA (zB9 (Z66.apart (show Z66 w0 _ g s0_0 x1001_1 x1002_1 from Z66.uB HI0.out NB0_556.out) (zP HO_7.out) (by decide)) hk);replace BK556:=zA (zB2 hk BK556.out NB556_0.out);replace HK:=zA (kT (yB HK.out GW556.out) hk (.inl rfl));replace HB:=zA (hb);replace HI0:=zA (hi);(try clear hb);(try clear hk);(try clear hi)) | ((with_reducible refine gate_builtin (b:=.append) (xs:=#[.tmp 39,.tmp 44]) rfl ?_);at_builtin;refine Kd.R_append (Kd.int .i64) w.heap.size rfl (.tmp 39) (.tmp 44) 24 2 (.int .i64 0) 8 rfl Tryd.underlying24 info2 rfl (by decide) (by omega) (.slice Ao38 x7_1.length co38) x7_1 t576 [.int .i64 t576] (fun _=>True) (fun _=>False) rfl rfl ?aP (fun _ hk=>hk.elim) ?aF ?aO (kW _ _) ?aS ?aL ?_;(case aP=>exact rfl);(case aF=>exact (fun _ _=>trivial));(case aO=>exact (zP HO_7.out));(case aS=>exact (kX (w:=w) (g:=g) (row:=none) (yB HK.out GW556.out)));(case aL=>have:=LMc37.out;omega);intro v580 w42 ho hb hg hat;rw [← Ny579.out] at ho;replace BK556:=zA (blk_grown (g:=gb556) (o:=.cells #[.int .i64 a1_0,.slice A1_1 l1_1.length c1_1] 26 (0,0)) (zR BK556.out) hg (Kd.R_ne HO_7.out BK556.out (by decide)));replace HB:=zA (below_weaken (zV HB.out (Z66.ge HI0.out) GE556.out) HL.out hb);replace HI0:=zA (Z66.grown (Z66.uB HI0.out NB0_556.out) hg (Z66.own_ne HI0.out HO_7.out (by decide)));replace HK:=zA (kT (yB HK.out GW556.out) (KeepBut.of_grown hg g) (Kd.R_base2 HO_7.out));have HO581:=zA (ho);clear HO_7;clear ho hb hg hat))
     go_roundg k1
     case measure=>have:=HK1.out;omega
     case rel=>exact ⟨(y579),(wrap64 (x8_1 - 1)),(t577),(t578),zs,H', ⟨by have:=HK1.out;omega⟩,⟨zP HO581.out⟩,⟨zR BK556.out⟩,⟨Z66.uB HI0.out NB0_556.out⟩,⟨yB HK.out GW556.out⟩,⟨zV HB.out (Z66.ge HI0.out) GE556.out⟩⟩
    rw [if_neg c37] at H
    exact absurd H (by simp)
   rw [if_neg c17] at H
   have c17b0:decide (0 < x8_1) = false:=decide_eq_false c17
   clear c17
   simp only [Option.some.injEq,Prod.mk.injEq] at H
   obtain ⟨rfl,rfl,rfl⟩:=H
   go_wp2
   go_ret
   exact ⟨_,zr,zP HO_7.out,by repeat (first | (with_reducible first | exact HI0.out | apply Z66.alloc | apply Z66.drewN | apply Z66.drew | apply Z66.set_1 | apply Z66.set_2 | refine Z66.far ?_ NB0_556.out _) | exact HI0.out),zV HB.out (Z66.ge HI0.out) GE556.out,by repeat (first | (with_reducible first | exact HK.out | apply KeepBut.set_ | apply keep_drewN | apply keep_drew | apply keep_alloc | refine keep_far ?_ GW556.out _) | exact HK.out)⟩
def spec_l03Spoil.l0:Nat → List Int → List Int → Int → Int → Int → List Int → Option (List Int × Int × Int)
 | 0,_,_,_,_,_,_=>none
 | k + 1,x7,x1000,x1001,x1002,x583000,x583001=>if x583000 > 0 then (if (x7.length:Int) < 25 then ((spec_l01Next.f x1000 x1001 x1002 x583000).bind fun bt604=>(if x7.length < 17592186044416 then (spec_l03Spoil.l0 k (x7 ++ [bt604.1]) x1000 bt604.2.1 bt604.2.2 x583000 x583001) else (none))) else (some (x7,x1001,x1002))) else (some (x7,x1001,x1002))
def spec_l03Spoil.f (k:Nat) (s0_0:List Int) (s0_1:Int) (s0_2:Int) (a1_0:Int) (l1_1:List Int) (a2:Int):Option (List Int × Int × Int):=(spec_l02Is.f k a1_0 l1_1).bind fun t583=>(if t583 = true then ((spec_l03Draw.f k s0_0 s0_1 s0_2 a1_0 l1_1 a2).bind fun bt587=>((spec_l01Next.f s0_0 bt587.2.1 bt587.2.2 28).bind fun bt592=>(if bt592.1 = 0 then ((spec_l01Pick.f s0_0 bt592.2.1 bt592.2.2 (([(-1),a1_0,1099511627776]:List Int))).bind fun bt598=>(if bt587.1.length < 17592186044416 then (some ((bt587.1 ++ [bt598.1]),bt598.2.1,bt598.2.2)) else (none))) else (if bt592.1 = 1 then (spec_l03Spoil.l0 k bt587.1 s0_0 bt592.2.1 bt592.2.2 a1_0 l1_1) else (some (bt587.1,bt592.2.1,bt592.2.2)))))) else (some ((([0,1,0]:List Int)),s0_1,s0_2)))
set_option maxHeartbeats 8000000 in
set_option maxRecDepth 100000 in
theorem spec_l03Spoil.calls (k : Nat) (g : Nat) (s0_0 : List Int) (s0_1 : Int) (s0_2 : Int) (a1_0 : Int) (A1_1 : Option Addr) (c1_1 : Nat) (l1_1 : List Int) (a2 : Int) (r1 : List Int) (r2 : Int) (r3 : Int) (w0 w : World) (hI : Z66 w0 w g s0_0 s0_1 s0_2) (hB : Below w0.heap.size w0 w) (hr1_1 : Kd.C (Kd.int .i64) w A1_1 l1_1.length l1_1) (hc1_1 : l1_1.length ≤ c1_1) (hf1_1 : ∀ ad, A1_1 = some ad → 0 < l1_1.length → ad.block ≠ g) (h : spec_l03Spoil.f k s0_0 s0_1 s0_2 a1_0 l1_1 a2 = some (r1, r2, r3)) :
  Calls Tryd.prog 55 #[.pointer (some ⟨g,0,none⟩),.agg #[.int .i64 a1_0,.slice A1_1 l1_1.length c1_1],.int .i64 a2] w fun e w' => ∃ v0_:Value,e = .returned (v0_) ∧ Kd.R (Kd.int .i64) 2 w' w.heap.size (fun _=>True) v0_ r1 ∧ Z66 w0 w' g s0_0 r2 r3 ∧ Below w0.heap.size w0 w' ∧ KeepBut w w' g none:=by
 have hu26:=Tryd.underlying26
 have HR1_1:=zA hr1_1
 have HC1_1:=zA hc1_1
 clear hr1_1 hc1_1
 have HI0:=zA hI
 have HK:=zA (KeepBut.refl w g none)
 have HL:=zA hB.size
 clear hI
 have HW0:=zA hB.size
 have HB:=zA hB
 clear hB
 have H:=h
 unfold spec_l03Spoil.f at H
 clear h
 obtain ⟨t583,A4,H⟩:=zb H
 try dsimp only at H
 by_cases c5:t583 = true
 ·subst c5
  rw [if_pos rfl] at H
  obtain ⟨⟨t587,t590,t591⟩,A6,H⟩:=zb H
  try dsimp only at H
  obtain ⟨⟨t592,t593,t594⟩,A7,H⟩:=zb H
  try dsimp only at H
  by_cases c8:t592 = 0
  ·rw [if_pos c8] at H
   obtain ⟨c8b0,c8b1⟩:=zT1 c8
   clear c8
   obtain ⟨y595,hy595⟩:∃ y_:List Int,y_ = (([(-1),a1_0,1099511627776]:List Int)):=⟨_,rfl⟩
   replace H:((spec_l01Pick.f s0_0 t593 t594 y595).bind fun bt598=>(if t587.length < 17592186044416 then (some ((t587 ++ [bt598.1]),bt598.2.1,bt598.2.2)) else (none))) = some (r1,r2,r3):=zy hy595 H
   have Ny595:=zA hy595
   clear hy595
   obtain ⟨⟨t598,t599,t600⟩,A9,H⟩:=zb H
   try dsimp only at H
   by_cases c10:t587.length < 17592186044416
   ·rw [if_pos c10] at H
    have LMc10:=zA c10
    clear c10
    obtain ⟨y601,hy601⟩:∃ y_:List Int,y_ = (t587 ++ [t598]):=⟨_,rfl⟩
    replace H:(some (y601,t599,t600)) = some (r1,r2,r3):=zy hy601 H
    have Ny601:=zA hy601
    clear hy601
    simp only [Option.some.injEq,Prod.mk.injEq] at H
    obtain ⟨rfl,rfl,rfl⟩:=H
    go_enter Tryd.func55,Tryd.ntmps55
    go_wp2_with (first | (refine zBE 4 #[.int .i64 a1_0,.slice A1_1 l1_1.length c1_1] 26 ?_;intro gb582 hg w11 hbox hb;replace HB:=zA (kQ (zT HB.out (Z66.ge HI0.out)) hb);have BK582:=zA (hbox);have GW582:=zA (zB6 hg (kX (w:=w) (g:=g) (row:=none) (yA HK.out)):w.heap.size ≤ gb582);have GE582:=zA ((Nat.le_trans HW0.out (by rw [hg];exact (kX (w:=w) (g:=g) (row:=none) (yA HK.out)):w.heap.size ≤ gb582):w0.heap.size ≤ gb582));replace HK:=zA (kT (yA HK.out) (kU hb g none) (.inl rfl));have NB0_582:=zA (zB7 hg (Z66.lt (show Z66 w0 _ g s0_0 s0_1 s0_2 from Z66.uA HI0.out)):g ≠ gb582);have NB582_0:=zA (zB8 hg (Z66.lt (show Z66 w0 _ g s0_0 s0_1 s0_2 from Z66.uA HI0.out)):gb582 ≠ g);replace HI0:=zA (Z66.below (Z66.uA HI0.out) hb);clear hb hbox hg;have hnb12:=NB582_0.out;have hnc12:=NB0_582.out;obtain ⟨hcz13_0,hcz13_1,hfz13_0,hfz13_1⟩:=zB3 BK582.out) | (refine zO (some 9) Tryd.func46 #[.agg #[.int .i64 a1_0,.slice A1_1 l1_1.length c1_1]] ?_;(with_reducible refine (spec_l02Is.calls k a1_0 _ _ l1_1 true _ ?side1 ?side2 A4.out).mono ?_);(case side1=>exact Kd.C_keep 0 HR1_1.out (yB HK.out GW582.out) hf1_1);(case side2=>exact HC1_1.out);rintro e w14 ⟨rfl,hb⟩;refine ⟨_,rfl,?_⟩;replace BK582:=zA (zB1 BK582.out hb);replace HK:=zA (kT (yB HK.out GW582.out) (kU hb g none) (.inl rfl));replace HB:=zA (kQ (zV HB.out (Z66.ge HI0.out) GE582.out) hb);replace HI0:=zA (Z66.below (Z66.uB HI0.out NB0_582.out) hb);(try clear hb);obtain ⟨hcz15_0,hcz15_1,hfz15_0,hfz15_1⟩:=zB3 BK582.out) | (refine zO (some 15) Tryd.func75 #[.pointer (some ⟨g,0,none⟩),.agg #[.int .i64 a1_0,.slice A1_1 l1_1.length c1_1],.int .i64 a2] ?_;(with_reducible refine (spec_l03Draw.calls k g s0_0 s0_1 s0_2 a1_0 _ _ l1_1 a2 t587 t590 t591 w0 _ ?side1 ?side2 ?side3 ?side4 ?side5 A6.out).mono ?_);(case side1=>exact Z66.uB HI0.out NB0_582.out);(case side2=>exact zV HB.out (Z66.ge HI0.out) GE582.out);(case side3=>exact Kd.C_keep 0 HR1_1.out (yB HK.out GW582.out) hf1_1);(case side4=>exact HC1_1.out);(case side5=>exact hf1_1);rintro e w16 ⟨v588,rfl,ho0,hi,hb,hk⟩;refine ⟨_,rfl,?_⟩;replace BK582:=zA (zB2 hk BK582.out NB582_0.out);have HO589:=zA (kI ho0 (kX (w:=w) (g:=g) (row:=none) (yB HK.out GW582.out)));replace HK:=zA (kT (yB HK.out GW582.out) hk (.inl rfl));replace HB:=zA (hb);replace HI0:=zA (hi);(try clear hb);(try clear hk);(try clear hi);(try clear ho0)) | (refine zO (some 17) Tryd.func41 #[.pointer (some ⟨g,0,none⟩),.int .i64 28] ?_;(with_reducible refine (spec_l01Next.calls g s0_0 t590 t591 28 t592 t593 t594 w0 _ ?side1 ?side2 A7.out).mono ?_);(case side1=>exact Z66.uB HI0.out NB0_582.out);(case side2=>exact zV HB.out (Z66.ge HI0.out) GE582.out);rintro e w17 ⟨rfl,hi,hb,hk⟩;refine ⟨_,rfl,?_⟩;replace BK582:=zA (zB2 hk BK582.out NB582_0.out);replace HO589:=zA (zB9 (Z66.apart (show Z66 w0 _ g s0_0 t590 t591 from Z66.uB HI0.out NB0_582.out) (zP HO589.out) (by decide)) hk);replace HK:=zA (kT (yB HK.out GW582.out) hk (.inl rfl));replace HB:=zA (hb);replace HI0:=zA (hi);(try clear hb);(try clear hk);(try clear hi);obtain ⟨hcz18_0,hcz18_1,hfz18_0,hfz18_1⟩:=zB3 BK582.out) | ((with_reducible refine kS (N:=24) rfl ?_);refine Kd.R_lit (Kd.int .i64) _ 2 ?hg (N:=24) ?hd (xs:=([(-1),a1_0,1099511627776]:List Int)) (inner:=[.int .i64 (-1),.int .i64 a1_0,.int .i64 1099511627776]) (ok:=fun _=>True) (okp:=fun _=>True) ?hr ?hp (fun _ hk=>hk) trivial (kW _ _) (Nat.le_refl _) (by simp) ?_;(case hd=>rfl);(case hg=>rfl);(case hr=>first | (go_simp;done) | (go_simp;rfl));(case hp=>exact (Reps.one (show Kd.M (Kd.int .i64) _ _ _ (-1) [.int .i64 (-1)] from rfl) (Reps.one (show Kd.M (Kd.int .i64) _ _ _ a1_0 [.int .i64 a1_0] from rfl) (Reps.one (show Kd.M (Kd.int .i64) _ _ _ 1099511627776 [.int .i64 1099511627776] from rfl) (Reps.none _ _)))));intro v596 w19 ho20 hb hg_ hnew_;clear hg_ hnew_;(first | rw [← Ny595.out] at ho20 | (simp only [Int.reduceToNat] at ho20;rw [← Ny595.out] at ho20));have HO597:=zA (kI (kF ho20 (kH (zP HO589.out))) (kX (w:=w) (g:=g) (row:=none) (yB HK.out GW582.out)));replace HO589:=zA (kE (zP HO589.out) (kC ho20) hb);replace BK582:=zA (zB1 BK582.out hb);replace HK:=zA (kT (yB HK.out GW582.out) (kU hb g none) (.inl rfl));replace HB:=zA (kQ (zV HB.out (Z66.ge HI0.out) GE582.out) hb);replace HI0:=zA (Z66.below (Z66.uB HI0.out NB0_582.out) hb);clear hb ho20;obtain ⟨Ao21,co21,eo21⟩:=kM HO597.out;subst eo21) | (refine zO (some 25) Tryd.func42 #[.pointer (some ⟨g,0,none⟩),.slice Ao21 y595.length co21] ?_;(with_reducible refine (spec_l01Pick.calls g s0_0 t593 t594 _ _ y595 t598 t599 t600 w0 _ ?side1 ?side2 ?side3 ?side4 ?side5 A9.out).mono ?_);(case side1=>exact Z66.uB HI0.out NB0_582.out);(case side2=>exact zV HB.out (Z66.ge HI0.out) GE582.out);(case side3=>exact zS (kB HO597.out).2.2);(case side4=>exact (kB HO597.out).2.1);(case side5=>exact jJ (Z66.own_ne HI0.out HO597.out (by decide)));rintro e w22 ⟨rfl,hi,hb,hk⟩;refine ⟨_,rfl,?_⟩;replace BK582:=zA (zB2 hk BK582.out NB582_0.out);replace HO589:=zA (zB9 (Z66.apart (show Z66 w0 _ g s0_0 t593 t594 from Z66.uB HI0.out NB0_582.out) (zP HO589.out) (by decide)) hk);replace HO597:=zA (zB9 (Z66.apart (show Z66 w0 _ g s0_0 t593 t594 from Z66.uB HI0.out NB0_582.out) (zP HO597.out) (by decide)) hk);replace HK:=zA (kT (yB HK.out GW582.out) hk (.inl rfl));replace HB:=zA (hb);replace HI0:=zA (hi);(try clear hb);(try clear hk);(try clear hi)) | ((with_reducible refine gate_builtin (b:=.append) (xs:=#[.tmp 20,.tmp 26]) rfl ?_);at_builtin;refine Kd.R_append (Kd.int .i64) w.heap.size rfl (.tmp 20) (.tmp 26) 24 2 (.int .i64 0) 8 rfl Tryd.underlying24 info2 rfl (by decide) (by omega) v588 t587 t598 [.int .i64 t598] (fun k_=>some k_ ≠ (.slice Ao21 y595.length co21:Value).ownBlock) (fun _=>False) rfl rfl ?aP (fun _ hk=>hk.elim) ?aF ?aO (kW _ _) ?aS ?aL ?_;(case aP=>exact rfl);(case aF=>exact (fun k_ hk=>jF (kH (zP HO597.out)) k_ hk));(case aO=>exact (by (with_reducible repeat (first | apply zF | apply zG | apply zH));exact kA HO589.out (fun _ hk=>hk.2)));(case aS=>exact (kX (w:=w) (g:=g) (row:=none) (yB HK.out GW582.out)));(case aL=>have:=LMc10.out;omega);intro v602 w23 ho hb hg hat;rw [← Ny601.out] at ho;replace BK582:=zA (blk_grown (g:=gb582) (o:=.cells #[.int .i64 a1_0,.slice A1_1 l1_1.length c1_1] 26 (0,0)) (zR BK582.out) hg (Kd.R_ne HO589.out BK582.out (by decide)));replace HO597:=zA (Kd.R_after (ok:=(fun _=>True)) (zP HO597.out) hg hat);replace HB:=zA (below_weaken (zV HB.out (Z66.ge HI0.out) GE582.out) HL.out hb);replace HI0:=zA (Z66.grown (Z66.uB HI0.out NB0_582.out) hg (Z66.own_ne HI0.out HO589.out (by decide)));replace HK:=zA (kT (yB HK.out GW582.out) (KeepBut.of_grown hg g) (Kd.R_base2 HO589.out));have HO603:=zA (ho);clear HO589;clear ho hb hg hat))
    go_ret
    exact ⟨_,zr,by (with_reducible repeat (first | apply zF | apply zG | apply zH));exact kA HO603.out (fun _ hk=>trivial),by repeat (first | (with_reducible first | exact HI0.out | apply Z66.alloc | apply Z66.drewN | apply Z66.drew | apply Z66.set_1 | apply Z66.set_2 | refine Z66.far ?_ NB0_582.out _) | exact HI0.out),zV HB.out (Z66.ge HI0.out) GE582.out,by repeat (first | (with_reducible first | exact HK.out | apply KeepBut.set_ | apply keep_drewN | apply keep_drew | apply keep_alloc | refine keep_far ?_ GW582.out _) | exact HK.out)⟩
   rw [if_neg c10] at H
   exact absurd H (by simp)
  rw [if_neg c8] at H
  obtain ⟨c8b0,c8b1⟩:=zT2 c8
  by_cases c24:t592 = 1
  ·rw [if_pos c24] at H
   obtain ⟨c24b0,c24b1⟩:=zT1 c24
   clear c24
   have H' := zA H
   clear H
   go_enter Tryd.func55,Tryd.ntmps55
   go_wp2_with (first | (refine zBE 4 #[.int .i64 a1_0,.slice A1_1 l1_1.length c1_1] 26 ?_;intro gb582 hg w25 hbox hb;replace HB:=zA (kQ (zT HB.out (Z66.ge HI0.out)) hb);have BK582:=zA (hbox);have GW582:=zA (zB6 hg (kX (w:=w) (g:=g) (row:=none) (yA HK.out)):w.heap.size ≤ gb582);have GE582:=zA ((Nat.le_trans HW0.out (by rw [hg];exact (kX (w:=w) (g:=g) (row:=none) (yA HK.out)):w.heap.size ≤ gb582):w0.heap.size ≤ gb582));replace HK:=zA (kT (yA HK.out) (kU hb g none) (.inl rfl));have NB0_582:=zA (zB7 hg (Z66.lt (show Z66 w0 _ g s0_0 s0_1 s0_2 from Z66.uA HI0.out)):g ≠ gb582);have NB582_0:=zA (zB8 hg (Z66.lt (show Z66 w0 _ g s0_0 s0_1 s0_2 from Z66.uA HI0.out)):gb582 ≠ g);replace HI0:=zA (Z66.below (Z66.uA HI0.out) hb);clear hb hbox hg;have hnb26:=NB582_0.out;have hnc26:=NB0_582.out;obtain ⟨hcz27_0,hcz27_1,hfz27_0,hfz27_1⟩:=zB3 BK582.out) | (refine zO (some 9) Tryd.func46 #[.agg #[.int .i64 a1_0,.slice A1_1 l1_1.length c1_1]] ?_;(with_reducible refine (spec_l02Is.calls k a1_0 _ _ l1_1 true _ ?side1 ?side2 A4.out).mono ?_);(case side1=>exact Kd.C_keep 0 HR1_1.out (yB HK.out GW582.out) hf1_1);(case side2=>exact HC1_1.out);rintro e w28 ⟨rfl,hb⟩;refine ⟨_,rfl,?_⟩;replace BK582:=zA (zB1 BK582.out hb);replace HK:=zA (kT (yB HK.out GW582.out) (kU hb g none) (.inl rfl));replace HB:=zA (kQ (zV HB.out (Z66.ge HI0.out) GE582.out) hb);replace HI0:=zA (Z66.below (Z66.uB HI0.out NB0_582.out) hb);(try clear hb);obtain ⟨hcz29_0,hcz29_1,hfz29_0,hfz29_1⟩:=zB3 BK582.out) | (refine zO (some 15) Tryd.func75 #[.pointer (some ⟨g,0,none⟩),.agg #[.int .i64 a1_0,.slice A1_1 l1_1.length c1_1],.int .i64 a2] ?_;(with_reducible refine (spec_l03Draw.calls k g s0_0 s0_1 s0_2 a1_0 _ _ l1_1 a2 t587 t590 t591 w0 _ ?side1 ?side2 ?side3 ?side4 ?side5 A6.out).mono ?_);(case side1=>exact Z66.uB HI0.out NB0_582.out);(case side2=>exact zV HB.out (Z66.ge HI0.out) GE582.out);(case side3=>exact Kd.C_keep 0 HR1_1.out (yB HK.out GW582.out) hf1_1);(case side4=>exact HC1_1.out);(case side5=>exact hf1_1);rintro e w30 ⟨v588,rfl,ho0,hi,hb,hk⟩;refine ⟨_,rfl,?_⟩;replace BK582:=zA (zB2 hk BK582.out NB582_0.out);have HO589:=zA (kI ho0 (kX (w:=w) (g:=g) (row:=none) (yB HK.out GW582.out)));replace HK:=zA (kT (yB HK.out GW582.out) hk (.inl rfl));replace HB:=zA (hb);replace HI0:=zA (hi);(try clear hb);(try clear hk);(try clear hi);(try clear ho0)) | (refine zO (some 17) Tryd.func41 #[.pointer (some ⟨g,0,none⟩),.int .i64 28] ?_;(with_reducible refine (spec_l01Next.calls g s0_0 t590 t591 28 t592 t593 t594 w0 _ ?side1 ?side2 A7.out).mono ?_);(case side1=>exact Z66.uB HI0.out NB0_582.out);(case side2=>exact zV HB.out (Z66.ge HI0.out) GE582.out);rintro e w31 ⟨rfl,hi,hb,hk⟩;refine ⟨_,rfl,?_⟩;replace BK582:=zA (zB2 hk BK582.out NB582_0.out);replace HO589:=zA (zB9 (Z66.apart (show Z66 w0 _ g s0_0 t590 t591 from Z66.uB HI0.out NB0_582.out) (zP HO589.out) (by decide)) hk);replace HK:=zA (kT (yB HK.out GW582.out) hk (.inl rfl));replace HB:=zA (hb);replace HI0:=zA (hi);(try clear hb);(try clear hk);(try clear hi)))
   go_loopg [7] k (fun kq v7 w' => ∃ (x7_1:List Int) (x1001_1:Int) (x1002_1:Int),Aside0 (spec_l03Spoil.l0 kq x7_1 s0_0 x1001_1 x1002_1 a1_0 l1_1 = some (r1,r2,r3)) ∧ Aside0 (kq ≤ k) ∧ Aside0 (Kd.R (Kd.int .i64) 2 w' w.heap.size (fun _=>True) v7 x7_1) ∧ Aside0 (w'.heap[gb582]? = some (.cells #[.int .i64 a1_0,(.slice A1_1 l1_1.length c1_1)] 26 (0,0))) ∧ Aside0 (Z66 w0 w' g s0_0 x1001_1 x1002_1) ∧ Aside0 (KeepBut w w' g none) ∧ Aside0 (Below w0.heap.size w0 w'))
   case atStart=>exact ⟨(t587),(t593),(t594),H', ⟨Nat.le_refl _⟩,⟨zP HO589.out⟩,⟨zR BK582.out⟩,⟨Z66.uB HI0.out NB0_582.out⟩,⟨yB HK.out GW582.out⟩,⟨zV HB.out (Z66.ge HI0.out) GE582.out⟩⟩
   case round =>
    clear H'
    try clear c1
    try clear c2
    try clear c4
    try clear c5
    try clear c7
    try clear c8
    try clear c10
    try clear c12
    try clear c24
    try clear c26
    try clear hcz13_0
    try clear hcz13_1
    try clear hcz15_0
    try clear hcz15_1
    try clear hcz18_0
    try clear hcz18_1
    try clear hcz27_0
    try clear hcz27_1
    try clear hcz29_0
    try clear hcz29_1
    try clear hfz13_0
    try clear hfz13_1
    try clear hfz15_0
    try clear hfz15_1
    try clear hfz18_0
    try clear hfz18_1
    try clear hfz27_0
    try clear hfz27_1
    try clear hfz29_0
    try clear hfz29_1
    obtain ⟨x7_1,x1001_1,x1002_1,HA,HK1,HO_7,BK582,HI0,HK,HB⟩:=hrel
    cases gk with
    | zero=>exact absurd HA.out (by simp [spec_l03Spoil.l0])
    | succ k1 =>
     have H:=HA.out
     clear HA
     simp only [spec_l03Spoil.l0] at H
     by_cases c32:a1_0 > 0
     ·rw [if_pos c32] at H
      have c32b0:decide (0 < a1_0) = true:=decide_eq_true c32
      clear c32
      by_cases c33:(x7_1.length:Int) < 25
      ·rw [if_pos c33] at H
       have c33b0:decide ((x7_1.length:Int) < 25) = true:=decide_eq_true c33
       have c33b1:decide (x7_1.length < 25) = true:=decide_eq_true (by omega)
       clear c33
       obtain ⟨⟨t604,t605,t606⟩,A34,H⟩:=zb H
       try dsimp only at H
       by_cases c35:x7_1.length < 17592186044416
       ·rw [if_pos c35] at H
        have LMc35:=zA c35
        clear c35
        obtain ⟨y607,hy607⟩:∃ y_:List Int,y_ = (x7_1 ++ [t604]):=⟨_,rfl⟩
        replace H:(spec_l03Spoil.l0 k1 y607 s0_0 t605 t606 a1_0 l1_1) = some (r1,r2,r3):=zy hy607 H
        have Ny607:=zA hy607
        clear hy607
        have H' := zA H
        clear H
        have hnb36:=NB582_0.out
        have hnc36:=NB0_582.out
        obtain ⟨hcz37_0,hcz37_1,hfz37_0,hfz37_1⟩:=zB3 BK582.out
        obtain ⟨Ao38,co38,eo38⟩:=kM HO_7.out
        subst eo38
        go_wp2_with (first | (refine zO (some 42) Tryd.func41 #[.pointer (some ⟨g,0,none⟩),.int .i64 a1_0] ?_;(with_reducible refine (spec_l01Next.calls g s0_0 x1001_1 x1002_1 a1_0 t604 t605 t606 w0 _ ?side1 ?side2 A34.out).mono ?_);(case side1=>exact Z66.uB HI0.out NB0_582.out);(case side2=>exact zV HB.out (Z66.ge HI0.out) GE582.out);rintro e w39 ⟨rfl,hi,hb,hk⟩;refine ⟨_,rfl,?_⟩;replace HO_7:=zA (zB9 (Z66.apart (show Z66 w0 _ g s0_0 x1001_1 x1002_1 from Z66.uB HI0.out NB0_582.out) (zP HO_7.out) (by decide)) hk);replace BK582:=zA (zB2 hk BK582.out NB582_0.out);replace HK:=zA (kT (yB HK.out GW582.out) hk (.inl rfl));replace HB:=zA (hb);replace HI0:=zA (hi);(try clear hb);(try clear hk);(try clear hi)) | ((with_reducible refine gate_builtin (b:=.append) (xs:=#[.tmp 38,.tmp 43]) rfl ?_);at_builtin;refine Kd.R_append (Kd.int .i64) w.heap.size rfl (.tmp 38) (.tmp 43) 24 2 (.int .i64 0) 8 rfl Tryd.underlying24 info2 rfl (by decide) (by omega) (.slice Ao38 x7_1.length co38) x7_1 t604 [.int .i64 t604] (fun _=>True) (fun _=>False) rfl rfl ?aP (fun _ hk=>hk.elim) ?aF ?aO (kW _ _) ?aS ?aL ?_;(case aP=>exact rfl);(case aF=>exact (fun _ _=>trivial));(case aO=>exact (zP HO_7.out));(case aS=>exact (kX (w:=w) (g:=g) (row:=none) (yB HK.out GW582.out)));(case aL=>have:=LMc35.out;omega);intro v608 w40 ho hb hg hat;rw [← Ny607.out] at ho;replace BK582:=zA (blk_grown (g:=gb582) (o:=.cells #[.int .i64 a1_0,.slice A1_1 l1_1.length c1_1] 26 (0,0)) (zR BK582.out) hg (Kd.R_ne HO_7.out BK582.out (by decide)));replace HB:=zA (below_weaken (zV HB.out (Z66.ge HI0.out) GE582.out) HL.out hb);replace HI0:=zA (Z66.grown (Z66.uB HI0.out NB0_582.out) hg (Z66.own_ne HI0.out HO_7.out (by decide)));replace HK:=zA (kT (yB HK.out GW582.out) (KeepBut.of_grown hg g) (Kd.R_base2 HO_7.out));have HO609:=zA (ho);clear HO_7;clear ho hb hg hat))
        go_roundg k1
        case measure=>have:=HK1.out;omega
        case rel=>exact ⟨(y607),(t605),(t606),H', ⟨by have:=HK1.out;omega⟩,⟨zP HO609.out⟩,⟨zR BK582.out⟩,⟨Z66.uB HI0.out NB0_582.out⟩,⟨yB HK.out GW582.out⟩,⟨zV HB.out (Z66.ge HI0.out) GE582.out⟩⟩
       rw [if_neg c35] at H
       exact absurd H (by simp)
      rw [if_neg c33] at H
      have c33b0:decide ((x7_1.length:Int) < 25) = false:=decide_eq_false c33
      have c33b1:decide (x7_1.length < 25) = false:=decide_eq_false (by omega)
      clear c33
      simp only [Option.some.injEq,Prod.mk.injEq] at H
      obtain ⟨rfl,rfl,rfl⟩:=H
      have hnb41:=NB582_0.out
      have hnc41:=NB0_582.out
      obtain ⟨hcz42_0,hcz42_1,hfz42_0,hfz42_1⟩:=zB3 BK582.out
      obtain ⟨Ao43,co43,eo43⟩:=kM HO_7.out
      subst eo43
      go_wp2
      go_ret
      exact ⟨_,zr,zP HO_7.out,by repeat (first | (with_reducible first | exact HI0.out | apply Z66.alloc | apply Z66.drewN | apply Z66.drew | apply Z66.set_1 | apply Z66.set_2 | refine Z66.far ?_ NB0_582.out _) | exact HI0.out),zV HB.out (Z66.ge HI0.out) GE582.out,by repeat (first | (with_reducible first | exact HK.out | apply KeepBut.set_ | apply keep_drewN | apply keep_drew | apply keep_alloc | refine keep_far ?_ GW582.out _) | exact HK.out)⟩
     rw [if_neg c32] at H
     have c32b0:decide (0 < a1_0) = false:=decide_eq_false c32
     clear c32
     simp only [Option.some.injEq,Prod.mk.injEq] at H
     obtain ⟨rfl,rfl,rfl⟩:=H
     have hnb44:=NB582_0.out
     have hnc44:=NB0_582.out
     obtain ⟨hcz45_0,hcz45_1,hfz45_0,hfz45_1⟩:=zB3 BK582.out
     go_wp2
     go_ret
     exact ⟨_,zr,zP HO_7.out,by repeat (first | (with_reducible first | exact HI0.out | apply Z66.alloc | apply Z66.drewN | apply Z66.drew | apply Z66.set_1 | apply Z66.set_2 | refine Z66.far ?_ NB0_582.out _) | exact HI0.out),zV HB.out (Z66.ge HI0.out) GE582.out,by repeat (first | (with_reducible first | exact HK.out | apply KeepBut.set_ | apply keep_drewN | apply keep_drew | apply keep_alloc | refine keep_far ?_ GW582.out _) | exact HK.out)⟩
  rw [if_neg c24] at H
  obtain ⟨c24b0,c24b1⟩:=zT2 c24
  simp only [Option.some.injEq,Prod.mk.injEq] at H
  obtain ⟨rfl,rfl,rfl⟩:=H
  go_enter Tryd.func55,Tryd.ntmps55
  go_wp2_with (first | (refine zBE 4 #[.int .i64 a1_0,.slice A1_1 l1_1.length c1_1] 26 ?_;intro gb582 hg w46 hbox hb;replace HB:=zA (kQ (zT HB.out (Z66.ge HI0.out)) hb);have BK582:=zA (hbox);have GW582:=zA (zB6 hg (kX (w:=w) (g:=g) (row:=none) (yA HK.out)):w.heap.size ≤ gb582);have GE582:=zA ((Nat.le_trans HW0.out (by rw [hg];exact (kX (w:=w) (g:=g) (row:=none) (yA HK.out)):w.heap.size ≤ gb582):w0.heap.size ≤ gb582));replace HK:=zA (kT (yA HK.out) (kU hb g none) (.inl rfl));have NB0_582:=zA (zB7 hg (Z66.lt (show Z66 w0 _ g s0_0 s0_1 s0_2 from Z66.uA HI0.out)):g ≠ gb582);have NB582_0:=zA (zB8 hg (Z66.lt (show Z66 w0 _ g s0_0 s0_1 s0_2 from Z66.uA HI0.out)):gb582 ≠ g);replace HI0:=zA (Z66.below (Z66.uA HI0.out) hb);clear hb hbox hg;have hnb47:=NB582_0.out;have hnc47:=NB0_582.out;obtain ⟨hcz48_0,hcz48_1,hfz48_0,hfz48_1⟩:=zB3 BK582.out) | (refine zO (some 9) Tryd.func46 #[.agg #[.int .i64 a1_0,.slice A1_1 l1_1.length c1_1]] ?_;(with_reducible refine (spec_l02Is.calls k a1_0 _ _ l1_1 true _ ?side1 ?side2 A4.out).mono ?_);(case side1=>exact Kd.C_keep 0 HR1_1.out (yB HK.out GW582.out) hf1_1);(case side2=>exact HC1_1.out);rintro e w49 ⟨rfl,hb⟩;refine ⟨_,rfl,?_⟩;replace BK582:=zA (zB1 BK582.out hb);replace HK:=zA (kT (yB HK.out GW582.out) (kU hb g none) (.inl rfl));replace HB:=zA (kQ (zV HB.out (Z66.ge HI0.out) GE582.out) hb);replace HI0:=zA (Z66.below (Z66.uB HI0.out NB0_582.out) hb);(try clear hb);obtain ⟨hcz50_0,hcz50_1,hfz50_0,hfz50_1⟩:=zB3 BK582.out) | (refine zO (some 15) Tryd.func75 #[.pointer (some ⟨g,0,none⟩),.agg #[.int .i64 a1_0,.slice A1_1 l1_1.length c1_1],.int .i64 a2] ?_;(with_reducible refine (spec_l03Draw.calls k g s0_0 s0_1 s0_2 a1_0 _ _ l1_1 a2 t587 t590 t591 w0 _ ?side1 ?side2 ?side3 ?side4 ?side5 A6.out).mono ?_);(case side1=>exact Z66.uB HI0.out NB0_582.out);(case side2=>exact zV HB.out (Z66.ge HI0.out) GE582.out);(case side3=>exact Kd.C_keep 0 HR1_1.out (yB HK.out GW582.out) hf1_1);(case side4=>exact HC1_1.out);(case side5=>exact hf1_1);rintro e w51 ⟨v588,rfl,ho0,hi,hb,hk⟩;refine ⟨_,rfl,?_⟩;replace BK582:=zA (zB2 hk BK582.out NB582_0.out);have HO589:=zA (kI ho0 (kX (w:=w) (g:=g) (row:=none) (yB HK.out GW582.out)));replace HK:=zA (kT (yB HK.out GW582.out) hk (.inl rfl));replace HB:=zA (hb);replace HI0:=zA (hi);(try clear hb);(try clear hk);(try clear hi);(try clear ho0)) | (refine zO (some 17) Tryd.func41 #[.pointer (some ⟨g,0,none⟩),.int .i64 28] ?_;(with_reducible refine (spec_l01Next.calls g s0_0 t590 t591 28 t592 t593 t594 w0 _ ?side1 ?side2 A7.out).mono ?_);(case side1=>exact Z66.uB HI0.out NB0_582.out);(case side2=>exact zV HB.out (Z66.ge HI0.out) GE582.out);rintro e w52 ⟨rfl,hi,hb,hk⟩;refine ⟨_,rfl,?_⟩;replace BK582:=zA (zB2 hk BK582.out NB582_0.out);replace HO589:=zA (zB9 (Z66.apart (show Z66 w0 _ g s0_0 t590 t591 from Z66.uB HI0.out NB0_582.out) (zP HO589.out) (by decide)) hk);replace HK:=zA (kT (yB HK.out GW582.out) hk (.inl rfl));replace HB:=zA (hb);replace HI0:=zA (hi);(try clear hb);(try clear hk);(try clear hi)))
  go_ret
  exact ⟨_,zr,zP HO589.out,by repeat (first | (with_reducible first | exact HI0.out | apply Z66.alloc | apply Z66.drewN | apply Z66.drew | apply Z66.set_1 | apply Z66.set_2 | refine Z66.far ?_ NB0_582.out _) | exact HI0.out),zV HB.out (Z66.ge HI0.out) GE582.out,by repeat (first | (with_reducible first | exact HK.out | apply KeepBut.set_ | apply keep_drewN | apply keep_drew | apply keep_alloc | refine keep_far ?_ GW582.out _) | exact HK.out)⟩
 replace c5:=Bool.eq_false_iff.mpr c5
 subst c5
 rw [if_neg (show ¬ (false = true) by decide)] at H
 obtain ⟨y584,hy584⟩:∃ y_:List Int,y_ = (([0,1,0]:List Int)):=⟨_,rfl⟩
 replace H:(some (y584,s0_1,s0_2)) = some (r1,r2,r3):=zy hy584 H
 have Ny584:=zA hy584
 clear hy584
 simp only [Option.some.injEq,Prod.mk.injEq] at H
 obtain ⟨rfl,rfl,rfl⟩:=H
 go_enter Tryd.func55,Tryd.ntmps55
 go_wp2_with (first | (refine zBE 4 #[.int .i64 a1_0,.slice A1_1 l1_1.length c1_1] 26 ?_;intro gb582 hg w53 hbox hb;replace HB:=zA (kQ (zT HB.out (Z66.ge HI0.out)) hb);have BK582:=zA (hbox);have GW582:=zA (zB6 hg (kX (w:=w) (g:=g) (row:=none) (yA HK.out)):w.heap.size ≤ gb582);have GE582:=zA ((Nat.le_trans HW0.out (by rw [hg];exact (kX (w:=w) (g:=g) (row:=none) (yA HK.out)):w.heap.size ≤ gb582):w0.heap.size ≤ gb582));replace HK:=zA (kT (yA HK.out) (kU hb g none) (.inl rfl));have NB0_582:=zA (zB7 hg (Z66.lt (show Z66 w0 _ g s0_0 s0_1 s0_2 from Z66.uA HI0.out)):g ≠ gb582);have NB582_0:=zA (zB8 hg (Z66.lt (show Z66 w0 _ g s0_0 s0_1 s0_2 from Z66.uA HI0.out)):gb582 ≠ g);replace HI0:=zA (Z66.below (Z66.uA HI0.out) hb);clear hb hbox hg;have hnb54:=NB582_0.out;have hnc54:=NB0_582.out;obtain ⟨hcz55_0,hcz55_1,hfz55_0,hfz55_1⟩:=zB3 BK582.out) | (refine zO (some 9) Tryd.func46 #[.agg #[.int .i64 a1_0,.slice A1_1 l1_1.length c1_1]] ?_;(with_reducible refine (spec_l02Is.calls k a1_0 _ _ l1_1 false _ ?side1 ?side2 A4.out).mono ?_);(case side1=>exact Kd.C_keep 0 HR1_1.out (yB HK.out GW582.out) hf1_1);(case side2=>exact HC1_1.out);rintro e w56 ⟨rfl,hb⟩;refine ⟨_,rfl,?_⟩;replace BK582:=zA (zB1 BK582.out hb);replace HK:=zA (kT (yB HK.out GW582.out) (kU hb g none) (.inl rfl));replace HB:=zA (kQ (zV HB.out (Z66.ge HI0.out) GE582.out) hb);replace HI0:=zA (Z66.below (Z66.uB HI0.out NB0_582.out) hb);(try clear hb)) | ((with_reducible refine kS (N:=11) rfl ?_);refine Kd.R_lit (Kd.int .i64) _ 2 ?hg (N:=11) ?hd (xs:=([0,1,0]:List Int)) (inner:=[.int .i64 0,.int .i64 1,.int .i64 0]) (ok:=fun _=>True) (okp:=fun _=>True) ?hr ?hp (fun _ hk=>hk) trivial (kW _ _) (Nat.le_refl _) (by simp) ?_;(case hd=>rfl);(case hg=>rfl);(case hr=>first | (go_simp;done) | (go_simp;rfl));(case hp=>exact (Reps.one (show Kd.M (Kd.int .i64) _ _ _ 0 [.int .i64 0] from rfl) (Reps.one (show Kd.M (Kd.int .i64) _ _ _ 1 [.int .i64 1] from rfl) (Reps.one (show Kd.M (Kd.int .i64) _ _ _ 0 [.int .i64 0] from rfl) (Reps.none _ _)))));intro v585 w57 ho58 hb hg_ hnew_;clear hg_ hnew_;(first | rw [← Ny584.out] at ho58 | (simp only [Int.reduceToNat] at ho58;rw [← Ny584.out] at ho58));have HO586:=zA (kI ho58 (kX (w:=w) (g:=g) (row:=none) (yB HK.out GW582.out)));replace BK582:=zA (zB1 BK582.out hb);replace HK:=zA (kT (yB HK.out GW582.out) (kU hb g none) (.inl rfl));replace HB:=zA (kQ (zV HB.out (Z66.ge HI0.out) GE582.out) hb);replace HI0:=zA (Z66.below (Z66.uB HI0.out NB0_582.out) hb);clear hb ho58))
 go_ret
 exact ⟨_,zr,zP HO586.out,by repeat (first | (with_reducible first | exact HI0.out | apply Z66.alloc | apply Z66.drewN | apply Z66.drew | apply Z66.set_1 | apply Z66.set_2 | refine Z66.far ?_ NB0_582.out _) | exact HI0.out),zV HB.out (Z66.ge HI0.out) GE582.out,by repeat (first | (with_reducible first | exact HK.out | apply KeepBut.set_ | apply keep_drewN | apply keep_drew | apply keep_alloc | refine keep_far ?_ GW582.out _) | exact HK.out)⟩
def spec_l03Pair.f (k:Nat) (l0:List Int) (a1:Int) (a2:Int):Option (List Int × Int × Int × Int × List Int × List Int):=(spec_l01From.f k l0).bind fun bt611=>((spec_l02Draw.f k bt611.1 bt611.2.1 bt611.2.2 a1).bind fun bt615=>((spec_l01Next.f bt611.1 bt615.2.2.1 bt615.2.2.2 24).bind fun bt622=>(if bt622.1 = 0 then ((spec_l02Spoil.f k bt611.1 bt622.2.1 bt622.2.2 a1).bind fun bt625=>((spec_l03Spoil.f k bt611.1 bt625.2.2.1 bt625.2.2.2 bt625.1 bt625.2.1 a2).bind fun bt631=>(some (bt611.1,bt631.2.1,bt631.2.2,bt625.1,bt625.2.1,bt631.1)))) else ((spec_l03Spoil.f k bt611.1 bt622.2.1 bt622.2.2 bt615.1 bt615.2.1 a2).bind fun bt636=>(some (bt611.1,bt636.2.1,bt636.2.2,bt615.1,bt615.2.1,bt636.1))))))
def spec_l03Pair.T5:Bool × List (List Nat × List Nat):=(true,[([],[]),([],[]),([],[]),([],[]),([],[]),([2,3,4],[2,3,4]),([0,5,0],[0]),([1,6,0,1,6],[1]),([5,7,0,1,2,3,4,5,6,7],[5])])
def spec_l03Pair.B5:List Nat:=[0,0,0,0,0,28,61,127,255]
theorem spec_l03Pair.tab5:rtab .any (opsOf Tryd.f26 5) = spec_l03Pair.T5:=by kernel_rfl
theorem spec_l03Pair.bits5:waitsOk spec_l03Pair.T5.2 spec_l03Pair.B5 = true:=by kernel_rfl
set_option maxHeartbeats 8000000 in
set_option maxRecDepth 100000 in
theorem spec_l03Pair.calls (k : Nat) (A0 : Option Addr) (c0 : Nat) (l0 : List Int) (a1 : Int) (a2 : Int) (r1 : List Int) (r2 : Int) (r3 : Int) (r4 : Int) (r5 : List Int) (r6 : List Int) (w0 w : World) (hB : Below w0.heap.size w0 w) (hr0 : Kd.C (Kd.int .u8) w0 A0 l0.length l0) (hc0 : l0.length ≤ c0) (h : spec_l03Pair.f k l0 a1 a2 = some (r1, r2, r3, r4, r5, r6)) :
  Calls Tryd.prog 26 #[.slice A0 l0.length c0,.int .i64 a1,.int .i64 a2] w fun e w' => ∃ v1_ v2_:Value,∃ g_:Nat,e = .returned (.tuple #[.pointer (some ⟨g_,0,none⟩),.agg #[.int .i64 r4,v1_],v2_]) ∧ Kd.R (Kd.int .i64) 2 w' w.heap.size (fun k_=>some k_ ≠ (v2_:Value).ownBlock) v1_ r5 ∧ Kd.R (Kd.int .i64) 2 w' w.heap.size (fun k_=>some k_ ≠ (v1_:Value).ownBlock) v2_ r6 ∧ Z66 w0 w' g_ r1 r2 r3 ∧ Below w0.heap.size w0 w' ∧ Below w.heap.size w w' ∧ w.heap.size ≤ g_:=by
 have hu26:=Tryd.underlying26
 have HR0:=zA hr0
 have HC0:=zA hc0
 clear hr0 hc0
 have HBW:=zA (kW w.heap.size w)
 have HB00:=zA hB
 have HW0:=zA hB.size
 have HB:=zA hB
 clear hB
 have H:=h
 unfold spec_l03Pair.f at H
 clear h
 obtain ⟨⟨t611,t612,t613⟩,A4,H⟩:=zb H
 try dsimp only at H
 obtain ⟨⟨t615,t616,t619,t620⟩,A5,H⟩:=zb H
 try dsimp only at H
 obtain ⟨⟨t622,t623,t624⟩,A6,H⟩:=zb H
 try dsimp only at H
 by_cases c7:t622 = 0
 ·rw [if_pos c7] at H
  obtain ⟨c7b0,c7b1⟩:=zT1 c7
  clear c7
  obtain ⟨⟨t625,t626,t629,t630⟩,A8,H⟩:=zb H
  try dsimp only at H
  obtain ⟨⟨t631,t634,t635⟩,A9,H⟩:=zb H
  try dsimp only at H
  simp only [Option.some.injEq,Prod.mk.injEq] at H
  obtain ⟨rfl,rfl,rfl,rfl,rfl,rfl⟩:=H
  go_enter Tryd.func26,Tryd.ntmps26
  try go_wp2_with (first | (refine zBE 7 #[.int .i64 0,.slice none 0 0] 26 ?_;intro gb610 hg w10 hbox hb;replace HB:=zA (kQ (zQ HB.out) hb);have BK610:=zA (hbox);have GW610:=zA (zBH hg HBW.out);have GE610:=zA ((Nat.le_trans HW0.out (by rw [hg];exact (kP (zQ HBW.out)):w.heap.size ≤ gb610):w0.heap.size ≤ gb610));replace HBW:=zA (kQ HBW.out hb);clear hb hbox hg) | (refine zO (some 12) Tryd.func19 #[.slice A0 l0.length c0] ?_;(with_reducible refine (spec_l01From.calls k _ _ l0 t611 t612 t613 w0 _ ?side1 ?side2 ?side3 A4.out).mono ?_);(case side1=>exact zT HB.out GE610.out);(case side2=>exact HR0.out);(case side3=>exact HC0.out);rintro e w11 ⟨g614,rfl,hi,hb,hb2,hgw⟩;refine ⟨_,rfl,?_⟩;have GWS614:=zA ((Nat.le_trans (kP (zT HBW.out GW610.out)) hgw:w.heap.size ≤ g614));replace HBW:=zA (kQ (zT HBW.out GW610.out) hb2);replace HB:=zA (hb);have HI614:=zA (hi);have NB614_610:=zA (Z66.ne_blk hi (blk_below (g:=gb610) (o:=.cells #[.int .i64 0,.slice none 0 0] 26 (0,0)) (zR BK610.out) hb2) (by decide));have NB610_614:=zA (Ne.symm (Z66.ne_blk hi (blk_below (g:=gb610) (o:=.cells #[.int .i64 0,.slice none 0 0] 26 (0,0)) (zR BK610.out) hb2) (by decide)));replace BK610:=zA (zB1 BK610.out hb2);(try clear hb);(try clear hb2);(try clear hi);(try clear hgw)) | (refine zO (some 15) Tryd.func40 #[.pointer (some ⟨g614,0,none⟩),.int .i64 a1] ?_;(with_reducible refine (spec_l02Draw.calls k g614 t611 t612 t613 a1 t615 t616 t619 t620 w0 _ ?side1 ?side2 A5.out).mono ?_);(case side1=>exact Z66.uB HI614.out NB614_610.out);(case side2=>exact zV HB.out (Z66.ge HI614.out) GE610.out);rintro e w12 ⟨v617,rfl,ho0,hi,hb,hk⟩;refine ⟨_,rfl,?_⟩;replace BK610:=zA (zB2 hk BK610.out NB610_614.out);have HO618:=zA (kI ho0 (kP (zV HBW.out GWS614.out GW610.out)));replace HBW:=zA (Z66.below_keepW HB00.out (zV HBW.out GWS614.out GW610.out) hk hb GWS614.out);replace HB:=zA (hb);replace HI614:=zA (hi);(try clear hb);(try clear hk);(try clear hi);(try clear ho0)) | (refine zBE 10 #[.int .i64 0,.slice none 0 0] 26 ?_;intro gb621 hg w13 hbox hb;replace HO618:=zA (kL (zP HO618.out) hb);replace HB:=zA (kQ (zV HB.out (Z66.ge HI614.out) GE610.out) hb);have BK621:=zA (hbox);have GW621:=zA (zB6 hg (kP (zV HBW.out GWS614.out GW610.out)):w.heap.size ≤ gb621);have GE621:=zA ((Nat.le_trans HW0.out (by rw [hg];exact (kP (zV HBW.out GWS614.out GW610.out)):w.heap.size ≤ gb621):w0.heap.size ≤ gb621));replace HBW:=zA (kQ HBW.out hb);have NB610_621:=zA (zB4 hg BK610.out:gb610 ≠ gb621);have NB621_610:=zA (zB5 hg BK610.out:gb621 ≠ gb610);replace BK610:=zA (zB1 BK610.out hb);have NB614_621:=zA (zB7 hg (Z66.lt (show Z66 w0 _ g614 t611 t619 t620 from Z66.uB HI614.out NB614_610.out)):g614 ≠ gb621);have NB621_614:=zA (zB8 hg (Z66.lt (show Z66 w0 _ g614 t611 t619 t620 from Z66.uB HI614.out NB614_610.out)):gb621 ≠ g614);replace HI614:=zA (Z66.below (Z66.uB HI614.out NB614_610.out) hb);clear hb hbox hg;have hnb14:=NB621_610.out;have hnc14:=NB610_621.out;have hnb15:=NB621_614.out;have hnc15:=NB614_621.out;obtain ⟨hcz16_0,hcz16_1,hfz16_0,hfz16_1⟩:=zB3 BK621.out;obtain ⟨Ao17,co17,eo17⟩:=kM HO618.out;subst eo17) | (refine zO (some 17) Tryd.func41 #[.pointer (some ⟨g614,0,none⟩),.int .i64 24] ?_;(with_reducible refine (spec_l01Next.calls g614 t611 t619 t620 24 t622 t623 t624 w0 _ ?side1 ?side2 A6.out).mono ?_);(case side1=>exact Z66.uC HI614.out NB614_610.out NB614_621.out);(case side2=>exact zW HB.out (Z66.ge HI614.out) GE610.out GE621.out);rintro e w18 ⟨rfl,hi,hb,hk⟩;refine ⟨_,rfl,?_⟩;replace BK610:=zA (KeepBut.blk hk (g' := gb610) (o:=.cells #[.int .i64 0,.slice none 0 0] 26 (0,0)) (zBG BK610.out NB610_621.out NB610_621.out) NB610_614.out (by simp));replace HO618:=zA (kA (Kd.R_keep (Z66.apart (show Z66 w0 _ g614 t611 t619 t620 from Z66.uC HI614.out NB614_610.out NB614_621.out) (zP (zFG HO618.out BK621.out (.int .i64 t615) (.slice Ao17 t616.length co17))) (by decide)) hk (fun _ h=>h.2)) (fun _ h=>h.1));replace BK621:=zA (KeepBut.blk hk (g' := gb621) (o:=.cells #[.int .i64 t615,.slice Ao17 t616.length co17] 26 (0,0)) (zRP BK621.out) NB621_614.out (by simp));replace HBW:=zA (Z66.below_keepW HB00.out (zW HBW.out GWS614.out GW610.out GW621.out) hk hb GWS614.out);replace HB:=zA (hb);replace HI614:=zA (hi);(try clear hb);(try clear hk);(try clear hi)) | (refine zO (some 21) Tryd.func20 #[.pointer (some ⟨g614,0,none⟩),.int .i64 a1] ?_;(with_reducible refine (spec_l02Spoil.calls k g614 t611 t623 t624 a1 t625 t626 t629 t630 w0 _ ?side1 ?side2 A8.out).mono ?_);(case side1=>exact Z66.uC HI614.out NB614_610.out NB614_621.out);(case side2=>exact zW HB.out (Z66.ge HI614.out) GE610.out GE621.out);rintro e w19 ⟨v627,rfl,ho0,hi,hb,hk⟩;refine ⟨_,rfl,?_⟩;replace BK610:=zA (zB2 hk BK610.out NB610_614.out);replace BK621:=zA (zB2 hk BK621.out NB621_614.out);have HO628:=zA (kI (kF ho0 (kH (zP HO618.out))) (kP (zW HBW.out GWS614.out GW610.out GW621.out)));replace HO618:=zA (kA (Kd.R_told (Kd.R_oldK (Z66.apart (show Z66 w0 _ g614 t611 t623 t624 from Z66.uC HI614.out NB614_610.out NB614_621.out) (zP HO618.out) (by decide)) hk) (kC ho0)) (fun _ h_=>h_.1));replace HBW:=zA (Z66.below_keepW HB00.out (zW HBW.out GWS614.out GW610.out GW621.out) hk hb GWS614.out);replace HB:=zA (hb);replace HI614:=zA (hi);(try clear hb);(try clear hk);(try clear hi);(try clear ho0);obtain ⟨hcz20_0,hcz20_1,hfz20_0,hfz20_1⟩:=zB3 BK621.out;obtain ⟨Ao21,co21,eo21⟩:=kM HO628.out;subst eo21))
  have n0_:Aside0 (Kd.R (Kd.int .i64) 2 ((w19.setCell ⟨gb621,0,none⟩ (.int .i64 t625)).setCell ⟨gb621,1,none⟩ (.slice Ao21 t626.length co21)) w.heap.size (fun k_=>some k_ ≠ (.slice Ao21 t626.length co21:Value).ownBlock) (.slice Ao17 t616.length co17) t616):=⟨by (with_reducible repeat (first | apply zF | apply zG | apply zH));exact kA (kY (p:=⟨gb621,1,none⟩) (kY (p:=⟨gb621,0,none⟩) (kD HO618.out BK621.out (by decide)) (fun _ hk=>hk.2) (.int .i64 t625)) (fun _ hk=>hk.2) (.slice Ao21 t626.length co21)) (fun _ hk=>hk.1.2)⟩
  have n1_:Aside0 (Kd.R (Kd.int .i64) 2 ((w19.setCell ⟨gb621,0,none⟩ (.int .i64 t625)).setCell ⟨gb621,1,none⟩ (.slice Ao21 t626.length co21)) w.heap.size (fun k_=>some k_ ≠ (.slice Ao17 t616.length co17:Value).ownBlock) (.slice Ao21 t626.length co21) t626):=⟨by (with_reducible repeat (first | apply zF | apply zG | apply zH));exact kA (kY (p:=⟨gb621,1,none⟩) (kY (p:=⟨gb621,0,none⟩) (kD HO628.out BK621.out (by decide)) (fun _ hk=>hk.2) (.int .i64 t625)) (fun _ hk=>hk.2) (.slice Ao21 t626.length co21)) (fun _ hk=>hk.1.2)⟩
  have n2_:Aside0 (((w19.setCell ⟨gb621,0,none⟩ (.int .i64 t625)).setCell ⟨gb621,1,none⟩ (.slice Ao21 t626.length co21)).heap[gb610]? = some (.cells #[.int .i64 0,.slice none 0 0] 26 (0,0))):=⟨by (with_reducible repeat (first | refine zJ ?_ _ | refine zK ?_ | refine zI ?_ _));refine blk_far ?_ NB610_621.out _;(with_reducible repeat (first | refine zJ ?_ _ | refine zK ?_ | refine zI ?_ _));refine blk_far ?_ NB610_621.out _;(with_reducible repeat (first | refine zJ ?_ _ | refine zK ?_ | refine zI ?_ _));exact BK610.out⟩
  have n3_:Aside0 (((w19.setCell ⟨gb621,0,none⟩ (.int .i64 t625)).setCell ⟨gb621,1,none⟩ (.slice Ao21 t626.length co21)).heap[gb621]? = some (.cells #[.int .i64 t625,.slice Ao21 t626.length co21] 26 (0,0))):=⟨by (with_reducible repeat (first | refine zJ ?_ _ | refine zK ?_ | refine zI ?_ _));refine blk_put (cs:=#[.int .i64 t625,.slice Ao17 t616.length co17]) ?_ 1 _ rfl;(with_reducible repeat (first | refine zJ ?_ _ | refine zK ?_ | refine zI ?_ _));refine blk_put (cs:=#[.int .i64 t615,.slice Ao17 t616.length co17]) ?_ 0 _ rfl;(with_reducible repeat (first | refine zJ ?_ _ | refine zK ?_ | refine zI ?_ _));exact BK621.out⟩
  have n4_:Aside0 (Z66 w0 ((w19.setCell ⟨gb621,0,none⟩ (.int .i64 t625)).setCell ⟨gb621,1,none⟩ (.slice Ao21 t626.length co21)) g614 t611 t629 t630):=⟨Z66.uC HI614.out NB614_610.out NB614_621.out⟩
  have n5_:Aside0 (Below w0.heap.size w0 ((w19.setCell ⟨gb621,0,none⟩ (.int .i64 t625)).setCell ⟨gb621,1,none⟩ (.slice Ao21 t626.length co21))):=⟨zW HB.out (Z66.ge HI614.out) GE610.out GE621.out⟩
  have n5w_:Aside0 (Below w.heap.size w ((w19.setCell ⟨gb621,0,none⟩ (.int .i64 t625)).setCell ⟨gb621,1,none⟩ (.slice Ao21 t626.length co21))):=⟨zW HBW.out GWS614.out GW610.out GW621.out⟩
  (try clear HO618)
  (try clear HO628)
  (try clear BK610)
  (try clear BK621)
  (try clear HI614)
  (try clear HB HBW)
  generalize ((w19.setCell ⟨gb621,0,none⟩ (.int .i64 t625)).setCell ⟨gb621,1,none⟩ (.slice Ao21 t626.length co21)) = w22 at n0_ n1_ n2_ n3_ n4_ n5_ n5w_ ⊢
  have HO618:=n0_
  have HO628:=n1_
  have BK610:=n2_
  have BK621:=n3_
  have HI614:=n4_
  have HB:=n5_
  have HBW:=n5w_
  clear n0_ n1_ n2_ n3_ n4_ n5_
  have n0_:=zA (zH HO618.out)
  have n1_:=zA (zH HO628.out)
  have n2_:=zA (zK BK610.out)
  have n3_:=zA (zK BK621.out)
  have n4_:=zA (Z66.drew HI614.out)
  have n5_:=zA (zD HB.out)
  have n5w_:=zA (zD HBW.out)
  clear HO618 HO628 BK610 BK621 HI614 HB HBW
  have HO618:=n0_
  have HO628:=n1_
  have BK610:=n2_
  have BK621:=n3_
  have HI614:=n4_
  have HB:=n5_
  have HBW:=n5w_
  clear n0_ n1_ n2_ n3_ n4_ n5_
  refine start_ (n:=9) (S:=fun w' => w'.cell? ⟨gb621,0,none⟩ = some (.int .i64 t625) ∧ w'.cell? ⟨gb621,1,none⟩ = some (.slice Ao21 t626.length co21)) (ds:=[]) #[false,false,false,false,false,false,false,false,false] (by kernel_rfl) rfl rfl ⟨(kV BK621.out 0).trans rfl,(kV BK621.out 1).trans rfl⟩ (fun hHeld=>?_);refine with_tabW spec_l03Pair.tab5 spec_l03Pair.bits5 (fun HT_ HW_=>?_)
  generalize w22.drew = w23 at HO618 HO628 BK610 BK621 HI614 HB HBW hHeld ⊢
  refine zp 0 (some 22) #[true,false,false,false,false,false,false,false,false] HT_.out ?_
  refine zp 2 (some 24) #[true,false,true,false,false,false,false,false,false] HT_.out ?_
  refine zp 4 (some 26) #[true,false,true,false,true,false,false,false,false] HT_.out ?_
  refine zc 1 (some 23) #[true,true,true,false,true,false,false,false,false] HT_.out HW_.out hHeld ?_
  refine zc 3 (some 25) #[true,true,true,true,true,false,false,false,false] HT_.out HW_.out hHeld ?_
  refine one_ (i:=5) (N:=some 27) #[true,true,true,true,true,true,false,false,false] rfl rfl (one_of HT_.out (by kernel_rfl)) (by decide) (fun K hK=>?_)
  refine goes_ Tryd.func55 (by kernel_rfl) rfl #[.pointer (some ⟨g614,0,none⟩),.agg #[.int .i64 t625,.slice Ao21 t626.length co21],.int .i64 a2] (by rfl) rfl rfl zg ?_
  with_reducible refine (spec_l03Spoil.calls k g614 t611 t629 t630 t625 _ _ t626 a2 t631 t634 t635 w0 _ ?side1 ?side2 ?side3 ?side4 ?side5 A9.out).mono ?_
  (case side1=>exact Z66.uC HI614.out NB614_610.out NB614_621.out)
  (case side2=>exact zW HB.out (Z66.ge HI614.out) GE610.out GE621.out)
  (case side3=>exact zS (kB HO628.out).2.2)
  (case side4=>exact (kB HO628.out).2.1)
  (case side5=>exact jJ (Z66.own_ne HI614.out HO628.out (by decide)))
  rintro e w24 ⟨v632,rfl,ho0,hi,hb,hk⟩
  refine ⟨_,rfl,?_⟩
  replace BK610:=zA (zB2 hk BK610.out NB610_614.out)
  replace BK621:=zA (zB2 hk BK621.out NB621_614.out)
  have HO633:=zA (kI (kF (kF ho0 (kH (zP HO618.out))) (kH (zP HO628.out))) (kP (zW HBW.out GWS614.out GW610.out GW621.out)))
  replace HO618:=zA (kA (Kd.R_told (Kd.R_oldK (Z66.apart (show Z66 w0 _ g614 t611 t629 t630 from Z66.uC HI614.out NB614_610.out NB614_621.out) (zP HO618.out) (by decide)) hk) (kC ho0)) (fun _ h_=>h_.1))
  replace HO628:=zA (kA (Kd.R_told (Kd.R_oldK (Z66.apart (show Z66 w0 _ g614 t611 t629 t630 from Z66.uC HI614.out NB614_610.out NB614_621.out) (zP HO628.out) (by decide)) hk) (kC ho0)) (fun _ h_=>h_.1))
  replace HBW:=zA (Z66.below_keepW HB00.out (zW HBW.out GWS614.out GW610.out GW621.out) hk hb GWS614.out)
  replace HB:=zA (hb)
  replace HI614:=zA (hi)
  (try clear hb)
  (try clear hb2)
  (try clear hk)
  (try clear hi)
  (try clear hgw)
  (try clear ho0)
  refine hK.out _ _ ⟨(kV BK621.out 0).trans rfl,(kV BK621.out 1).trans rfl⟩ (fun hHeld=>?_)
  clear hK K
  refine norm_ (a' := ?_) ?_ ?_
  rotate_left
  ·show Act.put _ (some 27) _ = _
   simp only [Act.put,zL,zM,zN,i64_w,i32_w]
   rfl
  refine zp 6 (some 6) #[true,true,true,true,true,true,true,false,false] HT_.out ?_
  refine one_ (i:=7) (N:=none) #[true,true,true,true,true,true,true,true,false] rfl rfl (one_of HT_.out (by kernel_rfl)) (by decide) (fun K hK=>?_)
  have hs25:w24.cell? ⟨gb610,0,none⟩ = some (.int .i64 0):=(kV BK610.out 0).trans rfl
  have hfs25:=jH BK610.out 0
  have hns25_1:=NB621_610.out
  have hms25_1:=NB610_621.out
  have hs26:w24.cell? ⟨gb610,1,none⟩ = some (.slice none 0 0):=(kV BK610.out 1).trans rfl
  have hfs26:=jH BK610.out 1
  have hns26_1:=NB621_610.out
  have hms26_1:=NB610_621.out
  refine skip_ (w1:=?_) (by rfl) rfl ?_ ?_
  rotate_left
  ·go_simp
   rfl
  refine hK.out _ _ ⟨((cell_far (p:=⟨gb610,_,none⟩) NB621_610.out _).trans (((cell_far (p:=⟨gb610,_,none⟩) NB621_610.out _).trans (hHeld.1)))),((cell_far (p:=⟨gb610,_,none⟩) NB621_610.out _).trans (((cell_far (p:=⟨gb610,_,none⟩) NB621_610.out _).trans (hHeld.2))))⟩ (fun hHeld=>?_)
  clear hK K
  refine zp 8 (some 8) #[true,true,true,true,true,true,true,true,true] HT_.out ?_
  refine done_ (done_of HT_.out (by kernel_rfl)) ?_
  try go_wp2
  refine bodyPost_ret (results_list (rs:=[.tmp 6,.cell 7 26,.tmp 8]) rfl (by simp) (.tmp (.cell gb610 26 #[.int .i64 t625,.slice Ao21 t626.length co21] (0,0) _ rfl (zRP BK610.out) Tryd.underlying26 rfl (by kernel_rfl) (.tmp .nil)))) rfl ?_
  exact ⟨_,_,_,zr,by (with_reducible repeat (first | apply zF | apply zG | apply zH));exact kA (kY (p:=⟨gb610,1,none⟩) (kY (p:=⟨gb610,0,none⟩) (kD HO628.out BK610.out (by decide)) (fun _ hk=>hk.2) (.int .i64 t625)) (fun _ hk=>hk.2) (.slice Ao21 t626.length co21)) (fun _ hk=>hk.1.2),by (with_reducible repeat (first | apply zF | apply zG | apply zH));exact kA (kY (p:=⟨gb610,1,none⟩) (kY (p:=⟨gb610,0,none⟩) (kD HO633.out BK610.out (by decide)) (fun _ hk=>hk.2) (.int .i64 t625)) (fun _ hk=>hk.2) (.slice Ao21 t626.length co21)) (fun _ hk=>hk.1.2),(show Z66 w0 _ g614 t611 t634 t635 from Z66.uC HI614.out NB614_610.out NB614_621.out),zW HB.out (Z66.ge HI614.out) GE610.out GE621.out,zW HBW.out GWS614.out GW610.out GW621.out,GWS614.out⟩
 rw [if_neg c7] at H
 obtain ⟨c7b0,c7b1⟩:=zT2 c7
 obtain ⟨⟨t636,t639,t640⟩,A27,H⟩:=zb H
 try dsimp only at H
 simp only [Option.some.injEq,Prod.mk.injEq] at H
 obtain ⟨rfl,rfl,rfl,rfl,rfl,rfl⟩:=H
 go_enter Tryd.func26,Tryd.ntmps26
 try go_wp2_with (first | (refine zBE 7 #[.int .i64 0,.slice none 0 0] 26 ?_;intro gb610 hg w28 hbox hb;replace HB:=zA (kQ (zQ HB.out) hb);have BK610:=zA (hbox);have GW610:=zA (zBH hg HBW.out);have GE610:=zA ((Nat.le_trans HW0.out (by rw [hg];exact (kP (zQ HBW.out)):w.heap.size ≤ gb610):w0.heap.size ≤ gb610));replace HBW:=zA (kQ HBW.out hb);clear hb hbox hg) | (refine zO (some 12) Tryd.func19 #[.slice A0 l0.length c0] ?_;(with_reducible refine (spec_l01From.calls k _ _ l0 t611 t612 t613 w0 _ ?side1 ?side2 ?side3 A4.out).mono ?_);(case side1=>exact zT HB.out GE610.out);(case side2=>exact HR0.out);(case side3=>exact HC0.out);rintro e w29 ⟨g614,rfl,hi,hb,hb2,hgw⟩;refine ⟨_,rfl,?_⟩;have GWS614:=zA ((Nat.le_trans (kP (zT HBW.out GW610.out)) hgw:w.heap.size ≤ g614));replace HBW:=zA (kQ (zT HBW.out GW610.out) hb2);replace HB:=zA (hb);have HI614:=zA (hi);have NB614_610:=zA (Z66.ne_blk hi (blk_below (g:=gb610) (o:=.cells #[.int .i64 0,.slice none 0 0] 26 (0,0)) (zR BK610.out) hb2) (by decide));have NB610_614:=zA (Ne.symm (Z66.ne_blk hi (blk_below (g:=gb610) (o:=.cells #[.int .i64 0,.slice none 0 0] 26 (0,0)) (zR BK610.out) hb2) (by decide)));replace BK610:=zA (zB1 BK610.out hb2);(try clear hb);(try clear hb2);(try clear hi);(try clear hgw)) | (refine zO (some 15) Tryd.func40 #[.pointer (some ⟨g614,0,none⟩),.int .i64 a1] ?_;(with_reducible refine (spec_l02Draw.calls k g614 t611 t612 t613 a1 t615 t616 t619 t620 w0 _ ?side1 ?side2 A5.out).mono ?_);(case side1=>exact Z66.uB HI614.out NB614_610.out);(case side2=>exact zV HB.out (Z66.ge HI614.out) GE610.out);rintro e w30 ⟨v617,rfl,ho0,hi,hb,hk⟩;refine ⟨_,rfl,?_⟩;replace BK610:=zA (zB2 hk BK610.out NB610_614.out);have HO618:=zA (kI ho0 (kP (zV HBW.out GWS614.out GW610.out)));replace HBW:=zA (Z66.below_keepW HB00.out (zV HBW.out GWS614.out GW610.out) hk hb GWS614.out);replace HB:=zA (hb);replace HI614:=zA (hi);(try clear hb);(try clear hk);(try clear hi);(try clear ho0)) | (refine zBE 10 #[.int .i64 0,.slice none 0 0] 26 ?_;intro gb621 hg w31 hbox hb;replace HO618:=zA (kL (zP HO618.out) hb);replace HB:=zA (kQ (zV HB.out (Z66.ge HI614.out) GE610.out) hb);have BK621:=zA (hbox);have GW621:=zA (zB6 hg (kP (zV HBW.out GWS614.out GW610.out)):w.heap.size ≤ gb621);have GE621:=zA ((Nat.le_trans HW0.out (by rw [hg];exact (kP (zV HBW.out GWS614.out GW610.out)):w.heap.size ≤ gb621):w0.heap.size ≤ gb621));replace HBW:=zA (kQ HBW.out hb);have NB610_621:=zA (zB4 hg BK610.out:gb610 ≠ gb621);have NB621_610:=zA (zB5 hg BK610.out:gb621 ≠ gb610);replace BK610:=zA (zB1 BK610.out hb);have NB614_621:=zA (zB7 hg (Z66.lt (show Z66 w0 _ g614 t611 t619 t620 from Z66.uB HI614.out NB614_610.out)):g614 ≠ gb621);have NB621_614:=zA (zB8 hg (Z66.lt (show Z66 w0 _ g614 t611 t619 t620 from Z66.uB HI614.out NB614_610.out)):gb621 ≠ g614);replace HI614:=zA (Z66.below (Z66.uB HI614.out NB614_610.out) hb);clear hb hbox hg;have hnb32:=NB621_610.out;have hnc32:=NB610_621.out;have hnb33:=NB621_614.out;have hnc33:=NB614_621.out;obtain ⟨hcz34_0,hcz34_1,hfz34_0,hfz34_1⟩:=zB3 BK621.out;obtain ⟨Ao35,co35,eo35⟩:=kM HO618.out;subst eo35) | (refine zO (some 17) Tryd.func41 #[.pointer (some ⟨g614,0,none⟩),.int .i64 24] ?_;(with_reducible refine (spec_l01Next.calls g614 t611 t619 t620 24 t622 t623 t624 w0 _ ?side1 ?side2 A6.out).mono ?_);(case side1=>exact Z66.uC HI614.out NB614_610.out NB614_621.out);(case side2=>exact zW HB.out (Z66.ge HI614.out) GE610.out GE621.out);rintro e w36 ⟨rfl,hi,hb,hk⟩;refine ⟨_,rfl,?_⟩;replace BK610:=zA (KeepBut.blk hk (g' := gb610) (o:=.cells #[.int .i64 0,.slice none 0 0] 26 (0,0)) (zBG BK610.out NB610_621.out NB610_621.out) NB610_614.out (by simp));replace HO618:=zA (kA (Kd.R_keep (Z66.apart (show Z66 w0 _ g614 t611 t619 t620 from Z66.uC HI614.out NB614_610.out NB614_621.out) (zP (zFG HO618.out BK621.out (.int .i64 t615) (.slice Ao35 t616.length co35))) (by decide)) hk (fun _ h=>h.2)) (fun _ h=>h.1));replace BK621:=zA (KeepBut.blk hk (g' := gb621) (o:=.cells #[.int .i64 t615,.slice Ao35 t616.length co35] 26 (0,0)) (zRP BK621.out) NB621_614.out (by simp));replace HBW:=zA (Z66.below_keepW HB00.out (zW HBW.out GWS614.out GW610.out GW621.out) hk hb GWS614.out);replace HB:=zA (hb);replace HI614:=zA (hi);(try clear hb);(try clear hk);(try clear hi)))
 have n0_:=zA (zH HO618.out)
 have n1_:=zA (zK BK610.out)
 have n2_:=zA (zK BK621.out)
 have n3_:=zA (Z66.drew HI614.out)
 have n4_:=zA (zD HB.out)
 have n4w_:=zA (zD HBW.out)
 clear HO618 BK610 BK621 HI614 HB HBW
 have HO618:=n0_
 have BK610:=n1_
 have BK621:=n2_
 have HI614:=n3_
 have HB:=n4_
 have HBW:=n4w_
 clear n0_ n1_ n2_ n3_ n4_
 refine start_ (n:=9) (S:=fun w' => w'.cell? ⟨gb621,0,none⟩ = some (.int .i64 t615) ∧ w'.cell? ⟨gb621,1,none⟩ = some (.slice Ao35 t616.length co35)) (ds:=[]) #[false,false,false,false,false,false,false,false,false] (by kernel_rfl) rfl rfl ⟨(kV BK621.out 0).trans rfl,(kV BK621.out 1).trans rfl⟩ (fun hHeld=>?_);refine with_tabW spec_l03Pair.tab5 spec_l03Pair.bits5 (fun HT_ HW_=>?_)
 generalize w36.drew = w37 at HO618 BK610 BK621 HI614 HB HBW hHeld ⊢
 refine zp 0 (some 22) #[true,false,false,false,false,false,false,false,false] HT_.out ?_
 refine zp 2 (some 24) #[true,false,true,false,false,false,false,false,false] HT_.out ?_
 refine zp 4 (some 26) #[true,false,true,false,true,false,false,false,false] HT_.out ?_
 refine zc 1 (some 23) #[true,true,true,false,true,false,false,false,false] HT_.out HW_.out hHeld ?_
 refine zc 3 (some 25) #[true,true,true,true,true,false,false,false,false] HT_.out HW_.out hHeld ?_
 refine one_ (i:=5) (N:=some 27) #[true,true,true,true,true,true,false,false,false] rfl rfl (one_of HT_.out (by kernel_rfl)) (by decide) (fun K hK=>?_)
 refine goes_ Tryd.func55 (by kernel_rfl) rfl #[.pointer (some ⟨g614,0,none⟩),.agg #[.int .i64 t615,.slice Ao35 t616.length co35],.int .i64 a2] (by rfl) rfl rfl zg ?_
 with_reducible refine (spec_l03Spoil.calls k g614 t611 t623 t624 t615 _ _ t616 a2 t636 t639 t640 w0 _ ?side1 ?side2 ?side3 ?side4 ?side5 A27.out).mono ?_
 (case side1=>exact Z66.uC HI614.out NB614_610.out NB614_621.out)
 (case side2=>exact zW HB.out (Z66.ge HI614.out) GE610.out GE621.out)
 (case side3=>exact zS (kB HO618.out).2.2)
 (case side4=>exact (kB HO618.out).2.1)
 (case side5=>exact jJ (Z66.own_ne HI614.out HO618.out (by decide)))
 rintro e w38 ⟨v637,rfl,ho0,hi,hb,hk⟩
 refine ⟨_,rfl,?_⟩
 replace BK610:=zA (zB2 hk BK610.out NB610_614.out)
 replace BK621:=zA (zB2 hk BK621.out NB621_614.out)
 have HO638:=zA (kI (kF ho0 (kH (zP HO618.out))) (kP (zW HBW.out GWS614.out GW610.out GW621.out)))
 replace HO618:=zA (kA (Kd.R_told (Kd.R_oldK (Z66.apart (show Z66 w0 _ g614 t611 t623 t624 from Z66.uC HI614.out NB614_610.out NB614_621.out) (zP HO618.out) (by decide)) hk) (kC ho0)) (fun _ h_=>h_.1))
 replace HBW:=zA (Z66.below_keepW HB00.out (zW HBW.out GWS614.out GW610.out GW621.out) hk hb GWS614.out)
 replace HB:=zA (hb)
 replace HI614:=zA (hi)
 (try clear hb)
 (try clear hb2)
 (try clear hk)
 (try clear hi)
 (try clear hgw)
 (try clear ho0)
 refine hK.out _ _ ⟨(kV BK621.out 0).trans rfl,(kV BK621.out 1).trans rfl⟩ (fun hHeld=>?_)
 clear hK K
 refine norm_ (a' := ?_) ?_ ?_
 rotate_left
 ·show Act.put _ (some 27) _ = _
  simp only [Act.put,zL,zM,zN,i64_w,i32_w]
  rfl
 refine zp 6 (some 6) #[true,true,true,true,true,true,true,false,false] HT_.out ?_
 refine one_ (i:=7) (N:=none) #[true,true,true,true,true,true,true,true,false] rfl rfl (one_of HT_.out (by kernel_rfl)) (by decide) (fun K hK=>?_)
 have hs39:w38.cell? ⟨gb610,0,none⟩ = some (.int .i64 0):=(kV BK610.out 0).trans rfl
 have hfs39:=jH BK610.out 0
 have hns39_1:=NB621_610.out
 have hms39_1:=NB610_621.out
 have hs40:w38.cell? ⟨gb610,1,none⟩ = some (.slice none 0 0):=(kV BK610.out 1).trans rfl
 have hfs40:=jH BK610.out 1
 have hns40_1:=NB621_610.out
 have hms40_1:=NB610_621.out
 refine skip_ (w1:=?_) (by rfl) rfl ?_ ?_
 rotate_left
 ·go_simp
  rfl
 refine hK.out _ _ ⟨((cell_far (p:=⟨gb610,_,none⟩) NB621_610.out _).trans (((cell_far (p:=⟨gb610,_,none⟩) NB621_610.out _).trans (hHeld.1)))),((cell_far (p:=⟨gb610,_,none⟩) NB621_610.out _).trans (((cell_far (p:=⟨gb610,_,none⟩) NB621_610.out _).trans (hHeld.2))))⟩ (fun hHeld=>?_)
 clear hK K
 refine zp 8 (some 8) #[true,true,true,true,true,true,true,true,true] HT_.out ?_
 refine done_ (done_of HT_.out (by kernel_rfl)) ?_
 try go_wp2
 refine bodyPost_ret (results_list (rs:=[.tmp 6,.cell 7 26,.tmp 8]) rfl (by simp) (.tmp (.cell gb610 26 #[.int .i64 t615,.slice Ao35 t616.length co35] (0,0) _ rfl (zRP BK610.out) Tryd.underlying26 rfl (by kernel_rfl) (.tmp .nil)))) rfl ?_
 exact ⟨_,_,_,zr,by (with_reducible repeat (first | apply zF | apply zG | apply zH));exact kA (kY (p:=⟨gb610,1,none⟩) (kY (p:=⟨gb610,0,none⟩) (kD HO618.out BK610.out (by decide)) (fun _ hk=>hk.2) (.int .i64 t615)) (fun _ hk=>hk.2) (.slice Ao35 t616.length co35)) (fun _ hk=>hk.1.2),by (with_reducible repeat (first | apply zF | apply zG | apply zH));exact kA (kY (p:=⟨gb610,1,none⟩) (kY (p:=⟨gb610,0,none⟩) (kD HO638.out BK610.out (by decide)) (fun _ hk=>hk.2) (.int .i64 t615)) (fun _ hk=>hk.2) (.slice Ao35 t616.length co35)) (fun _ hk=>hk.1.2),(show Z66 w0 _ g614 t611 t639 t640 from Z66.uC HI614.out NB614_610.out NB614_621.out),zW HB.out (Z66.ge HI614.out) GE610.out GE621.out,zW HBW.out GWS614.out GW610.out GW621.out,GWS614.out⟩
def spec_DrawWidthOf.f (k:Nat) (l0:List Int):Option (Int × List Int × List Int):=(spec_l03Pair.f k l0 8 14).bind fun bt642=>(some (bt642.2.2.2.1,bt642.2.2.2.2.1,bt642.2.2.2.2.2))
set_option maxHeartbeats 8000000 in
set_option maxRecDepth 100000 in
theorem spec_DrawWidthOf.calls (k : Nat) (A0 : Option Addr) (c0 : Nat) (l0 : List Int) (r1 : Int) (r2 : List Int) (r3 : List Int) (w : World) (hr0 : Kd.C (Kd.int .u8) w A0 l0.length l0) (hc0 : l0.length ≤ c0) (h : spec_DrawWidthOf.f k l0 = some (r1, r2, r3)) :
  Calls Tryd.prog 12 #[.slice A0 l0.length c0] w fun e w' => ∃ v1_ v2_:Value,e = .returned (.tuple #[.agg #[.int .i64 r1,v1_],v2_]) ∧ Kd.R (Kd.int .i64) 2 w' w.heap.size (fun k_=>some k_ ≠ (v2_:Value).ownBlock) v1_ r2 ∧ Kd.R (Kd.int .i64) 2 w' w.heap.size (fun k_=>some k_ ≠ (v1_:Value).ownBlock) v2_ r3 ∧ Below w.heap.size w w' := by
 have hu26:=Tryd.underlying26
 have HR0:=zA hr0
 have HC0:=zA hc0
 clear hr0 hc0
 have HB:=zA (kW w.heap.size w)
 have H:=h
 unfold spec_DrawWidthOf.f at H
 clear h
 obtain ⟨⟨t642,t643,t644,t646,t647,t650⟩,A2,H⟩:=zb H
 try dsimp only at H
 simp only [Option.some.injEq,Prod.mk.injEq] at H
 obtain ⟨rfl,rfl,rfl⟩:=H
 go_enter Tryd.func12,Tryd.ntmps12
 go_wp2_with (first | (refine zBE 2 #[.int .i64 0,.slice none 0 0] 26 ?_;intro gb641 hg w3 hbox hb;have BK641:=zA (hbox);have GW641:=zA (zBH hg HB.out);have GE641:=zA (zBH hg HB.out);replace HB:=zA (kQ (zQ HB.out) hb);clear hb hbox hg) | (refine zO (some 9) Tryd.func26 #[.slice A0 l0.length c0,.int .i64 8,.int .i64 14] ?_;(with_reducible refine (spec_l03Pair.calls k _ _ l0 8 14 t642 t643 t644 t646 t647 t650 w _ ?side1 ?side2 ?side3 A2.out).mono ?_);(case side1=>exact zT HB.out GE641.out);(case side2=>exact HR0.out);(case side3=>exact HC0.out);rintro e w4 ⟨v648,v651,g645,rfl,ho0,ho1,hi,hb,hb2,hgw⟩;refine ⟨_,rfl,?_⟩;have HO649:=zA (kI ho0 (kP (zT HB.out GE641.out)));have HO652:=zA (kI ho1 (kP (zT HB.out GE641.out)));replace HB:=zA (hb);have HI645:=zA (hi);have NB645_641:=zA (Z66.ne_blk hi (blk_below (g:=gb641) (o:=.cells #[.int .i64 0,.slice none 0 0] 26 (0,0)) (zR BK641.out) hb2) (by decide));have NB641_645:=zA (Ne.symm (Z66.ne_blk hi (blk_below (g:=gb641) (o:=.cells #[.int .i64 0,.slice none 0 0] 26 (0,0)) (zR BK641.out) hb2) (by decide)));replace BK641:=zA (zB1 BK641.out hb2);(try clear hb);(try clear hb2);(try clear hi);(try clear hgw);(try clear ho0);(try clear ho1)) | (refine zBE 5 #[.int .i64 0,.slice none 0 0] 26 ?_;intro gb653 hg w5 hbox hb;replace HO649:=zA (kL (zP HO649.out) hb);replace HO652:=zA (kL (zP HO652.out) hb);have BK653:=zA (hbox);have GW653:=zA (zB6 hg (kP (zV HB.out (Z66.ge HI645.out) GE641.out)):w.heap.size ≤ gb653);have GE653:=zA (zB6 hg (kP (zV HB.out (Z66.ge HI645.out) GE641.out)):w.heap.size ≤ gb653);replace HB:=zA (kQ (zV HB.out (Z66.ge HI645.out) GE641.out) hb);have NB641_653:=zA (zB4 hg BK641.out:gb641 ≠ gb653);have NB653_641:=zA (zB5 hg BK641.out:gb653 ≠ gb641);replace BK641:=zA (zB1 BK641.out hb);have NB645_653:=zA (zB7 hg (Z66.lt (show Z66 w _ g645 t642 t643 t644 from Z66.uB HI645.out NB645_641.out)):g645 ≠ gb653);have NB653_645:=zA (zB8 hg (Z66.lt (show Z66 w _ g645 t642 t643 t644 from Z66.uB HI645.out NB645_641.out)):gb653 ≠ g645);replace HI645:=zA (Z66.below (Z66.uB HI645.out NB645_641.out) hb);clear hb hbox hg;have hnb6:=NB653_641.out;have hnc6:=NB641_653.out;have hnb7:=NB653_645.out;have hnc7:=NB645_653.out;obtain ⟨hcz8_0,hcz8_1,hfz8_0,hfz8_1⟩:=zB3 BK653.out;obtain ⟨Ao9,co9,eo9⟩:=kM HO649.out;subst eo9;have hnb10:=NB641_645.out;have hnc10:=NB645_641.out;obtain ⟨hcz11_0,hcz11_1,hfz11_0,hfz11_1⟩:=zB3 BK641.out))
 refine bodyPost_ret (results_ct rfl _ _ gb641 26 #[.int .i64 t646,.slice Ao9 t647.length co9] (0,0) _ rfl (by (with_reducible repeat (first | refine zJ ?_ _ | refine zK ?_ | refine zI ?_ _));refine blk_put (cs:=#[.int .i64 t646,.slice none 0 0]) ?_ 1 _ rfl;(with_reducible repeat (first | refine zJ ?_ _ | refine zK ?_ | refine zI ?_ _));refine blk_put (cs:=#[.int .i64 0,.slice none 0 0]) ?_ 0 _ rfl;(with_reducible repeat (first | refine zJ ?_ _ | refine zK ?_ | refine zI ?_ _));refine blk_far ?_ NB641_653.out _;(with_reducible repeat (first | refine zJ ?_ _ | refine zK ?_ | refine zI ?_ _));refine blk_far ?_ NB641_653.out _;(with_reducible repeat (first | refine zJ ?_ _ | refine zK ?_ | refine zI ?_ _));exact BK641.out) Tryd.underlying26 rfl (by kernel_rfl)) rfl ?_
 exact ⟨_,_,zr,by (with_reducible repeat (first | apply zF | apply zG | apply zH));exact kA (kY (p:=⟨gb641,1,none⟩) (kY (p:=⟨gb641,0,none⟩) (kY (p:=⟨gb653,1,none⟩) (kY (p:=⟨gb653,0,none⟩) (kD (kD HO649.out BK653.out (by decide)) BK641.out (by decide)) (fun _ hk=>hk.1.2) (.int .i64 t646)) (fun _ hk=>hk.1.2) (.slice Ao9 t647.length co9)) (fun _ hk=>hk.2) (.int .i64 t646)) (fun _ hk=>hk.2) (.slice Ao9 t647.length co9)) (fun _ hk=>hk.1.1),by (with_reducible repeat (first | apply zF | apply zG | apply zH));exact kA (kY (p:=⟨gb641,1,none⟩) (kY (p:=⟨gb641,0,none⟩) (kY (p:=⟨gb653,1,none⟩) (kY (p:=⟨gb653,0,none⟩) (kD (kD HO652.out BK653.out (by decide)) BK641.out (by decide)) (fun _ hk=>hk.1.2) (.int .i64 t646)) (fun _ hk=>hk.1.2) (.slice Ao9 t647.length co9)) (fun _ hk=>hk.2) (.int .i64 t646)) (fun _ hk=>hk.2) (.slice Ao9 t647.length co9)) (fun _ hk=>hk.1.1),zW HB.out (Z66.ge HI645.out) GE641.out GE653.out⟩
def impl_isWord.f (a0_0:Int) (l0_1:List Int) (l1:List Int):Option (Bool):=if (l1.length:Int) ≤ 24 then ((impl_allIn.f l1 0 (wrap64 (a0_0 - 1))).bind fun t655=>(some t655)) else (some false)
set_option maxHeartbeats 8000000 in
set_option maxRecDepth 100000 in
theorem impl_isWord.calls (a0_0 : Int) (A0_1 : Option Addr) (c0_1 : Nat) (l0_1 : List Int) (A1 : Option Addr) (c1 : Nat) (l1 : List Int) (r : Bool) (w : World) (hr0_1 : Kd.C (Kd.int .i64) w A0_1 l0_1.length l0_1) (hc0_1 : l0_1.length ≤ c0_1) (hr1 : Kd.C (Kd.int .i64) w A1 l1.length l1) (hc1 : l1.length ≤ c1) (h : impl_isWord.f a0_0 l0_1 l1 = some r) :
  Calls Tryd.prog 58 #[.agg #[.int .i64 a0_0,.slice A0_1 l0_1.length c0_1],.slice A1 l1.length c1] w fun e w' => e = .returned (.bool r) ∧ Below w.heap.size w w' := by
 have hu26:=Tryd.underlying26
 have HR0_1:=zA hr0_1
 have HC0_1:=zA hc0_1
 clear hr0_1 hc0_1
 have HR1:=zA hr1
 have HC1:=zA hc1
 clear hr1 hc1
 have HB:=zA (kW w.heap.size w)
 have H:=h
 unfold impl_isWord.f at H
 clear h
 by_cases c3:(l1.length:Int) ≤ 24
 ·rw [if_pos c3] at H
  have c3b0:decide ((l1.length:Int) ≤ 24) = true:=decide_eq_true c3
  have c3b1:decide (l1.length ≤ 24) = true:=decide_eq_true (by omega)
  clear c3
  obtain ⟨t655,A4,H⟩:=zb H
  try dsimp only at H
  obtain rfl:=Option.some.inj H
  go_enter Tryd.func58,Tryd.ntmps58
  go_wp2_with (first | (refine zBE 2 #[.int .i64 a0_0,.slice A0_1 l0_1.length c0_1] 26 ?_;intro gb654 hg w5 hbox hb;have BK654:=zA (hbox);have GW654:=zA (zBH hg HB.out);have GE654:=zA (zBH hg HB.out);replace HB:=zA (kQ (zQ HB.out) hb);clear hb hbox hg;obtain ⟨hcz6_0,hcz6_1,hfz6_0,hfz6_1⟩:=zB3 BK654.out) | (go_at_call 66;(with_reducible refine (impl_allIn.calls _ _ l1 0 (wrap64 (a0_0 - 1)) t655 _ ?side1 ?side2 A4.out).mono ?_);(case side1=>exact zS (kO HR1.out HB.out));(case side2=>exact HC1.out);rintro e w7 ⟨rfl,hb⟩;replace BK654:=zA (zB1 BK654.out hb);replace HB:=zA (kQ (zT HB.out GE654.out) hb);(try clear hb);(try clear hb2);(try clear hi);(try clear hgw)))
  go_ret
  exact ⟨zr,zT HB.out GE654.out⟩
 rw [if_neg c3] at H
 have c3b0:decide ((l1.length:Int) ≤ 24) = false:=decide_eq_false c3
 have c3b1:decide (l1.length ≤ 24) = false:=decide_eq_false (by omega)
 clear c3
 obtain rfl:=Option.some.inj H
 go_enter Tryd.func58,Tryd.ntmps58
 go_wp2_with (first | (refine zBE 2 #[.int .i64 a0_0,.slice A0_1 l0_1.length c0_1] 26 ?_;intro gb654 hg w8 hbox hb;have BK654:=zA (hbox);have GW654:=zA (zBH hg HB.out);have GE654:=zA (zBH hg HB.out);replace HB:=zA (kQ (zQ HB.out) hb);clear hb hbox hg))
 go_ret
 exact ⟨zr,zT HB.out GE654.out⟩
def wordB (n:Int) (w:List Int):Bool:=decide (w.length ≤ 24) && w.all fun x=>decide (0 ≤ x ∧ x ≤ wrap64 (n - 1))
def impl_checkWords.f (k:Nat) (a0_0:Int) (l0_1:List Int) (l1:List (List Int)):Option Int :=
 (impl_IsAlphabet.f k a0_0 l0_1).bind fun t=>some (if t = true then (if l1.all (wordB a0_0) = true then 0 else 2) else 1)
theorem isWord_some (n:Int) (D w:List Int):impl_isWord.f n D w = some (wordB n w):=by
 unfold impl_isWord.f wordB
 by_cases h:w.length ≤ 24
 ·rw [if_pos (by omega)]
  simp [h,impl_allIn.f]
 rw [if_neg (by omega)]
 simp [h]
theorem checkWords_pred (n : Int) (A : Option Addr) (c : Nat) (D : List Int) (B : Nat) (w : World) (hB : B < w.heap.size) (hD : (Kd.int .i64).C w A D.length D) (hc : D.length ≤ c)
  (h0:w.cell? ⟨B,0,none⟩ = some (.int .i64 n)) (h1:w.cell? ⟨B,1,none⟩ = some (.slice A D.length c)) :
  PredL 57 #[.pointer (some ⟨B,0,none⟩)] (fun x=>!wordB n x) w:=fun W A2 c2 x hb hx hcx=>by
 have k0:W.cell? ⟨B,0,none⟩ = some (.int .i64 n):=(hb.cell (p:=⟨B,0,none⟩) hB).trans h0
 have k1:W.cell? ⟨B,1,none⟩ = some (.slice A D.length c):=(hb.cell (p:=⟨B,1,none⟩) hB).trans h1
 have hcall:=impl_isWord.calls n A c D A2 c2 x (wordB n x) W (kO hD hb) hc hx hcx (isWord_some n D x)
 replace hcall:=zA hcall
 clear h0 h1 hb hx hcx hD hc
 show Calls Tryd.prog 57 #[.slice A2 x.length c2,.pointer (some ⟨B,0,none⟩)] W fun e W' => e = .returned (.bool (!wordB n x)) ∧ Below W.heap.size W W'
 generalize wordB n x = b at hcall ⊢
 have hu:=Tryd.underlying26
 go_enter Tryd.func57,Tryd.ntmps57
 go_wp2_with fail
 refine hcall.out.mono ?_
 rintro e w' ⟨rfl,hb⟩
 replace hb:=zA hb
 clear hcall
 go_wp2
 go_ret
 exact ⟨rfl,hb.out⟩
theorem impl_checkWords.calls (k : Nat) (a0_0 : Int) (A0_1 : Option Addr) (c0_1 : Nat) (l0_1 : List Int) (A1 : Option Addr) (c1 : Nat) (l1 : List (List Int)) (r : Int) (w : World) (hr0_1 : Kd.C (Kd.int .i64) w A0_1 l0_1.length l0_1) (hc0_1 : l0_1.length ≤ c0_1)
  (hr1:Kd.C (Kd.slice 24 (Kd.int .i64)) w A1 l1.length l1) (hc1:l1.length ≤ c1) (hT:TabW w) (h:impl_checkWords.f k a0_0 l0_1 l1 = some r) :
  Calls Tryd.prog 27 #[.agg #[.int .i64 a0_0,.slice A0_1 l0_1.length c0_1],.slice A1 l1.length c1] w fun e w' => e = .returned (.int .i64 r) ∧ Below w.heap.size w w' := by
 obtain ⟨t,ht,hr⟩:=Option.bind_eq_some_iff.mp h
 clear h
 have hW:Below w.heap.size w (w.alloc (.cells #[.int .i64 a0_0,.slice A0_1 l0_1.length c0_1] 26)):=zB (kW _ w) _
 have hal:=zA (impl_IsAlphabet.calls k a0_0 A0_1 c0_1 l0_1 t (w.alloc (.cells #[.int .i64 a0_0,.slice A0_1 l0_1.length c0_1] 26)) (kO hr0_1 hW) hc0_1 (hT.below hW) ht)
 have eg:∀ args w,(callFunc 57 args).run Tryd.prog w = .ok (.enter 57 args) w:=enters_fn Tryd.func57 (by kernel_rfl) rfl
 have hcon:=zA (fun (W:World) (hb:Below (w.alloc (.cells #[.int .i64 a0_0,.slice A0_1 l0_1.length c0_1] 26)).heap.size (w.alloc (.cells #[.int .i64 a0_0,.slice A0_1 l0_1.length c0_1] 26)) W) =>
  containsFuncL_any A1 c1 l1 57 #[.pointer (some ⟨w.heap.size,0,none⟩)] (fun x=>!wordB a0_0 x) W eg
  (checkWords_pred a0_0 A0_1 c0_1 l0_1 w.heap.size W (Nat.lt_of_lt_of_le (by simp) hb.size) (kO (kO hr0_1 hW) hb) hc0_1 ((hb.cell (p:=⟨w.heap.size,0,none⟩) (by simp)).trans (by simp)) ((hb.cell (p:=⟨w.heap.size,1,none⟩) (by simp)).trans (by simp))) (kO (kO hr1 hW) hb))
 replace hW:=zA hW
 clear ht eg hr0_1 hr1 hc1 hc0_1 hT
 have hany:(l1.any fun x=>!wordB a0_0 x) = !(l1.all (wordB a0_0)):=by rw [List.all_eq_not_any_not];simp
 rw [hany] at hcon
 clear hany
 generalize l1.all (wordB a0_0) = b at hcon hr
 have hu:=Tryd.underlying26
 cases t with
 | false =>
  rw [if_neg (by decide)] at hr
  obtain rfl:=Option.some.inj hr
  clear hr
  go_enter Tryd.func27,Tryd.ntmps27
  go_wp2_with fail
  refine hal.out.mono ?_
  rintro e w' ⟨rfl,hb⟩
  replace hb:=zA hb
  clear hal hcon
  go_wp2
  go_ret
  exact ⟨rfl,kQ hW.out hb.out⟩
 | true =>
  rw [if_pos rfl] at hr
  cases b with
  | false =>
   rw [if_neg (by decide)] at hr
   obtain rfl:=Option.some.inj hr
   clear hr
   go_enter Tryd.func27,Tryd.ntmps27
   go_wp2_with fail
   refine hal.out.mono ?_
   rintro e w' ⟨rfl,hb⟩
   replace hb:=zA hb
   clear hal
   go_wp2_with fail
   refine (hcon.out _ hb.out).mono ?_
   rintro e w'' ⟨rfl,hb2⟩
   replace hb2:=zA hb2
   clear hcon
   go_wp2
   go_ret
   exact ⟨rfl,kQ (kQ hW.out hb.out) hb2.out⟩
  | true =>
   rw [if_pos rfl] at hr
   obtain rfl:=Option.some.inj hr
   clear hr
   go_enter Tryd.func27,Tryd.ntmps27
   go_wp2_with fail
   refine hal.out.mono ?_
   rintro e w' ⟨rfl,hb⟩
   replace hb:=zA hb
   clear hal
   go_wp2_with fail
   refine (hcon.out _ hb.out).mono ?_
   rintro e w'' ⟨rfl,hb2⟩
   replace hb2:=zA hb2
   clear hcon
   go_wp2
   go_ret
   exact ⟨rfl,kQ (kQ hW.out hb.out) hb2.out⟩
def impl_Alphabet_ties.f (a0_0:Int) (l0_1:List Int):Option (List Int):=some l0_1
set_option maxHeartbeats 8000000 in
set_option maxRecDepth 100000 in
theorem impl_Alphabet_ties.calls (a0_0 : Int) (P0_1_ : Nat → Prop) (A0_1 : Option Addr) (c0_1 : Nat) (l0_1 : List Int) (r : List Int) (w : World) (hs0_1 : Kd.V (Kd.int .i64) 2 w w.heap.size (fun k_ => P0_1_ k_) (.slice A0_1 l0_1.length c0_1) l0_1) (h : impl_Alphabet_ties.f a0_0 l0_1 = some r) :
  Calls Tryd.prog 38 #[.agg #[.int .i64 a0_0,.slice A0_1 l0_1.length c0_1]] w fun e w' => ∃ v0_:Value,e = .returned (v0_) ∧ Kd.V (Kd.int .i64) 2 w' w.heap.size (fun k_=>(P0_1_ k_ ∨ w.heap.size ≤ k_)) v0_ r ∧ Below w.heap.size w w' := by
 have hu26:=Tryd.underlying26
 have HO0_1:=zA (show Kd.V (Kd.int .i64) 2 w w.heap.size (fun k_=>(P0_1_ k_ ∨ w.heap.size ≤ k_)) (.slice A0_1 l0_1.length c0_1) l0_1 from kN hs0_1 (fun k_ hk=>.inl hk))
 have HB:=zA (kW w.heap.size w)
 have H:=h
 unfold impl_Alphabet_ties.f at H
 clear h
 obtain rfl:=Option.some.inj H
 go_enter Tryd.func38,Tryd.ntmps38
 go_wp2_with (first | (refine zBE 1 #[.int .i64 a0_0,.slice A0_1 l0_1.length c0_1] 26 ?_;intro gb656 hg w2 hbox hb;replace HO0_1:=zA (kG (jD (zPV HO0_1.out) gb656 (Nat.le_of_eq hg.symm)) hb);have BK656:=zA (hbox);have GW656:=zA (zBH hg HB.out);have GE656:=zA (zBH hg HB.out);replace HB:=zA (kQ (zQ HB.out) hb);clear hb hbox hg;obtain ⟨hcz3_0,hcz3_1,hfz3_0,hfz3_1⟩:=zB3 BK656.out))
 go_ret
 exact ⟨_,zr,by (with_reducible repeat (first | apply Kd.V_alloc | apply Kd.V_drewN | apply Kd.V_drew));exact kN HO0_1.out (fun _ hk=>hk.1),zT HB.out GE656.out⟩
def impl_ties_firsts.l0:Nat → List Int → Int → Int → List Int → Int → Int → Option (Int)
 | 0,_,_,_,_,_,_=>none
 | k + 1,x0,x5,x6,x9,x10,x11=>if x11 < x10 then (if 0 ≤ x11 then (if x11 < (x9.length:Int) then ((impl_has.f x6 (rd x9 x11)).bind fun t658=>(if t658 = true then (if 0 ≤ (rd x9 x11) then (if (rd x9 x11) < (x0.length:Int) then (impl_ties_firsts.l0 k x0 x5 (Go.bits .or .i64 x6 (rd x0 (rd x9 x11))) x9 x10 (wrap64 (x11 + 1))) else (none)) else (none)) else ((impl_one.f (rd x9 x11)).bind fun t660=>(if 0 ≤ (rd x9 x11) then (if (rd x9 x11) < (x0.length:Int) then (impl_ties_firsts.l0 k x0 (Go.bits .or .i64 x5 t660) (Go.bits .or .i64 x6 (rd x0 (rd x9 x11))) x9 x10 (wrap64 (x11 + 1))) else (none)) else (none))))) else (none)) else (none)) else (some x5)
def impl_ties_firsts.f (k:Nat) (l0:List Int) (l1:List Int):Option (Int):=impl_ties_firsts.l0 k l0 0 0 l1 (l1.length:Int) 0
set_option maxHeartbeats 8000000 in
set_option maxRecDepth 100000 in
theorem impl_ties_firsts.calls (k : Nat) (A0 : Option Addr) (c0 : Nat) (l0 : List Int) (A1 : Option Addr) (c1 : Nat) (l1 : List Int) (r : Int) (w : World) (hr0 : Kd.C (Kd.int .i64) w A0 l0.length l0) (hc0 : l0.length ≤ c0) (hr1 : Kd.C (Kd.int .i64) w A1 l1.length l1) (hc1 : l1.length ≤ c1) (h : impl_ties_firsts.f k l0 l1 = some r) :
  Calls Tryd.prog 77 #[.slice A0 l0.length c0,.slice A1 l1.length c1] w fun e w' => e = .returned (.int .i64 r) ∧ Drawn0 w w' := by
 have HR0:=zA hr0
 have HC0:=zA hc0
 clear hr0 hc0
 have HR1:=zA hr1
 have HC1:=zA hc1
 clear hr1 hc1
 have H:=h
 unfold impl_ties_firsts.f at H
 clear h
 have H' := zA H
 clear H
 go_enter Tryd.func77,Tryd.ntmps77
 go_wp2
 go_loopg [5,6,11] k (fun kq v5 v6 v11 w' => ∃ (x5_1:Int) (x6_1:Int) (x11_1:Int),v5 = .int .i64 x5_1 ∧ v6 = .int .i64 x6_1 ∧ v11 = .int .i64 x11_1 ∧ Aside0 (impl_ties_firsts.l0 kq l0 x5_1 x6_1 l1 (l1.length:Int) x11_1 = some r) ∧ Aside0 (kq ≤ k) ∧ Drawn0 w w')
 case atStart=>exact ⟨(0),(0),(0),zs,zs,zs,H', ⟨Nat.le_refl _⟩,by repeat (first | exact Drawn0.refl _ | apply Drawn0.step)⟩
 case round =>
  clear H'
  try clear c1
  obtain ⟨x5_1,x6_1,x11_1,rfl,rfl,rfl,HA,HK1,⟨m1,rfl⟩⟩:=hrel
  cases gk with
  | zero=>exact absurd HA.out (by simp [impl_ties_firsts.l0])
  | succ k1 =>
   have H:=HA.out
   clear HA
   simp only [impl_ties_firsts.l0] at H
   by_cases c3:x11_1 < (l1.length:Int)
   ·rw [if_pos c3] at H
    have c3b0:decide (x11_1 < (l1.length:Int)) = true:=decide_eq_true c3
    clear c3
    by_cases c4:0 ≤ x11_1
    ·rw [if_pos c4] at H
     have c4b0:decide (0 ≤ x11_1) = true:=decide_eq_true c4
     clear c4
     by_cases c5:x11_1 < (l1.length:Int)
     ·rw [if_pos c5] at H
      have c5b0:decide (x11_1 < (l1.length:Int)) = true:=decide_eq_true c5
      clear c5
      obtain ⟨t658,A6,H⟩:=zb H
      try dsimp only at H
      by_cases c7:t658 = true
      ·subst c7
       rw [if_pos rfl] at H
       by_cases c8:0 ≤ (rd l1 x11_1)
       ·rw [if_pos c8] at H
        have c8b0:decide (0 ≤ (rd l1 x11_1)) = true:=decide_eq_true c8
        clear c8
        by_cases c9:(rd l1 x11_1) < (l0.length:Int)
        ·rw [if_pos c9] at H
         have c9b0:decide ((rd l1 x11_1) < (l0.length:Int)) = true:=decide_eq_true c9
         clear c9
         have H' := zA H
         clear H
         have p657:0 ≤ (x11_1:Int):=zd
         have q657:x11_1 < (l1.length:Int):=zd
         obtain ⟨ad657,e657,hx657_0⟩:=Kd.at_int HR1.out x11_1 p657 q657
         cases e657
         replace p657:=eq_true p657
         replace q657:=eq_true q657
         go_wp2_with (first | (refine zO (some 17) Tryd.func52 #[.int .i64 x6_1,.int .i64 (rd l1 x11_1)] ?_;(with_reducible refine (impl_has.calls x6_1 (rd l1 x11_1) true _ A6.out).mono ?_);rintro e w' ⟨rfl,⟨nd,rfl⟩⟩;refine ⟨_,rfl,?_⟩;have p659:0 ≤ ((rd l1 x11_1):Int):=zd;have q659:(rd l1 x11_1) < (l0.length:Int):=zd;obtain ⟨ad659,e659,hx659_0⟩:=Kd.at_int HR0.out (rd l1 x11_1) p659 q659;cases e659;replace p659:=eq_true p659;replace q659:=eq_true q659))
         go_roundg k1
         case measure=>have:=HK1.out;omega
         case rel=>exact ⟨(x5_1),(Go.bits .or .i64 x6_1 (rd l0 (rd l1 x11_1))),(wrap64 (x11_1 + 1)),zs,zs,zs,H', ⟨by have:=HK1.out;omega⟩,by repeat (first | exact Drawn0.refl _ | apply Drawn0.step)⟩
        rw [if_neg c9] at H
        exact absurd H (by simp)
       rw [if_neg c8] at H
       exact absurd H (by simp)
      replace c7:=Bool.eq_false_iff.mpr c7
      subst c7
      rw [if_neg (show ¬ (false = true) by decide)] at H
      obtain ⟨t660,A10,H⟩:=zb H
      try dsimp only at H
      by_cases c11:0 ≤ (rd l1 x11_1)
      ·rw [if_pos c11] at H
       have c11b0:decide (0 ≤ (rd l1 x11_1)) = true:=decide_eq_true c11
       clear c11
       by_cases c12:(rd l1 x11_1) < (l0.length:Int)
       ·rw [if_pos c12] at H
        have c12b0:decide ((rd l1 x11_1) < (l0.length:Int)) = true:=decide_eq_true c12
        clear c12
        have H' := zA H
        clear H
        have p657:0 ≤ (x11_1:Int):=zd
        have q657:x11_1 < (l1.length:Int):=zd
        obtain ⟨ad657,e657,hx657_0⟩:=Kd.at_int HR1.out x11_1 p657 q657
        cases e657
        replace p657:=eq_true p657
        replace q657:=eq_true q657
        go_wp2_with (first | (refine zO (some 17) Tryd.func52 #[.int .i64 x6_1,.int .i64 (rd l1 x11_1)] ?_;(with_reducible refine (impl_has.calls x6_1 (rd l1 x11_1) false _ A6.out).mono ?_);rintro e w' ⟨rfl,⟨nd,rfl⟩⟩;refine ⟨_,rfl,?_⟩) | (refine zO (some 21) Tryd.func31 #[.int .i64 (rd l1 x11_1)] ?_;(with_reducible refine (impl_one.calls (rd l1 x11_1) t660 _ A10.out).mono ?_);rintro e w' ⟨rfl,⟨nd,rfl⟩⟩;refine ⟨_,rfl,?_⟩;have p661:0 ≤ ((rd l1 x11_1):Int):=zd;have q661:(rd l1 x11_1) < (l0.length:Int):=zd;obtain ⟨ad661,e661,hx661_0⟩:=Kd.at_int HR0.out (rd l1 x11_1) p661 q661;cases e661;replace p661:=eq_true p661;replace q661:=eq_true q661))
        go_roundg k1
        case measure=>have:=HK1.out;omega
        case rel=>exact ⟨(Go.bits .or .i64 x5_1 t660),(Go.bits .or .i64 x6_1 (rd l0 (rd l1 x11_1))),(wrap64 (x11_1 + 1)),zs,zs,zs,H', ⟨by have:=HK1.out;omega⟩,by repeat (first | exact Drawn0.refl _ | apply Drawn0.step)⟩
       rw [if_neg c12] at H
       exact absurd H (by simp)
      rw [if_neg c11] at H
      exact absurd H (by simp)
     rw [if_neg c5] at H
     exact absurd H (by simp)
    rw [if_neg c4] at H
    exact absurd H (by simp)
   rw [if_neg c3] at H
   have c3b0:decide (x11_1 < (l1.length:Int)) = false:=decide_eq_false c3
   clear c3
   obtain rfl:=Option.some.inj H
   go_wp2
   go_ret
   exact ⟨zs,by repeat (first | exact Drawn0.refl _ | apply Drawn0.step)⟩
def slices_Index_int64_int64.l0:Nat → List Int → Int → Int → Int → Option (Int)
 | 0,_,_,_,_=>none
 | k + 1,x0,x1,x7,x8=>if x8 < x7 then (if 0 ≤ x8 then (if x8 < (x0.length:Int) then (if x1 = (rd x0 x8) then (some x8) else (slices_Index_int64_int64.l0 k x0 x1 x7 (wrap64 (x8 + 1)))) else (none)) else (none)) else (some (-1))
def slices_Index_int64_int64.f (k:Nat) (l0:List Int) (a1:Int):Option (Int):=slices_Index_int64_int64.l0 k l0 a1 (l0.length:Int) 0
set_option maxHeartbeats 8000000 in
set_option maxRecDepth 100000 in
theorem slices_Index_int64_int64.calls (k : Nat) (A0 : Option Addr) (c0 : Nat) (l0 : List Int) (a1 : Int) (r : Int) (w : World) (hr0 : Kd.C (Kd.int .i64) w A0 l0.length l0) (hc0 : l0.length ≤ c0) (h : slices_Index_int64_int64.f k l0 a1 = some r) :
  Calls Tryd.prog 91 #[.slice A0 l0.length c0,.int .i64 a1] w fun e w' => e = .returned (.int .i64 r) ∧ Drawn0 w w' := by
 have HR0:=zA hr0
 have HC0:=zA hc0
 clear hr0 hc0
 have H:=h
 unfold slices_Index_int64_int64.f at H
 clear h
 have H' := zA H
 clear H
 go_enter Tryd.func91,Tryd.ntmps91
 go_wp2
 go_loopg [8] k (fun kq v8 w' => ∃ (x8_1:Int),v8 = .int .i64 x8_1 ∧ Aside0 (slices_Index_int64_int64.l0 kq l0 a1 (l0.length:Int) x8_1 = some r) ∧ Aside0 (kq ≤ k) ∧ Drawn0 w w')
 case atStart=>exact ⟨(0),zs,H', ⟨Nat.le_refl _⟩,by repeat (first | exact Drawn0.refl _ | apply Drawn0.step)⟩
 case round =>
  clear H'
  obtain ⟨x8_1,rfl,HA,HK1,⟨m1,rfl⟩⟩:=hrel
  cases gk with
  | zero=>exact absurd HA.out (by simp [slices_Index_int64_int64.l0])
  | succ k1 =>
   have H:=HA.out
   clear HA
   simp only [slices_Index_int64_int64.l0] at H
   by_cases c3:x8_1 < (l0.length:Int)
   ·rw [if_pos c3] at H
    have c3b0:decide (x8_1 < (l0.length:Int)) = true:=decide_eq_true c3
    clear c3
    by_cases c4:0 ≤ x8_1
    ·rw [if_pos c4] at H
     have c4b0:decide (0 ≤ x8_1) = true:=decide_eq_true c4
     clear c4
     by_cases c5:x8_1 < (l0.length:Int)
     ·rw [if_pos c5] at H
      have c5b0:decide (x8_1 < (l0.length:Int)) = true:=decide_eq_true c5
      clear c5
      by_cases c6:a1 = (rd l0 x8_1)
      ·rw [if_pos c6] at H
       obtain ⟨c6b0,c6b1⟩:=zT1 c6
       clear c6
       obtain rfl:=Option.some.inj H
       have p662:0 ≤ (x8_1:Int):=zd
       have q662:x8_1 < (l0.length:Int):=zd
       obtain ⟨ad662,e662,hx662_0⟩:=Kd.at_int HR0.out x8_1 p662 q662
       cases e662
       replace p662:=eq_true p662
       replace q662:=eq_true q662
       go_wp2
       go_ret
       exact ⟨zs,by repeat (first | exact Drawn0.refl _ | apply Drawn0.step)⟩
      rw [if_neg c6] at H
      obtain ⟨c6b0,c6b1⟩:=zT2 c6
      have H' := zA H
      clear H
      have p662:0 ≤ (x8_1:Int):=zd
      have q662:x8_1 < (l0.length:Int):=zd
      obtain ⟨ad662,e662,hx662_0⟩:=Kd.at_int HR0.out x8_1 p662 q662
      cases e662
      replace p662:=eq_true p662
      replace q662:=eq_true q662
      go_wp2
      go_roundg k1
      case measure=>have:=HK1.out;omega
      case rel=>exact ⟨(wrap64 (x8_1 + 1)),zs,H', ⟨by have:=HK1.out;omega⟩,by repeat (first | exact Drawn0.refl _ | apply Drawn0.step)⟩
     rw [if_neg c5] at H
     exact absurd H (by simp)
    rw [if_neg c4] at H
    exact absurd H (by simp)
   rw [if_neg c3] at H
   have c3b0:decide (x8_1 < (l0.length:Int)) = false:=decide_eq_false c3
   clear c3
   obtain rfl:=Option.some.inj H
   go_wp2
   go_ret
   exact ⟨zs,by repeat (first | exact Drawn0.refl _ | apply Drawn0.step)⟩
def slices_Concat_int64_int64.f (l0:List (List Int)):Option (List Int):=if (l0.map List.length).sum < 17592186044416 then some l0.flatten else none
theorem pw_wrap64_id {x:Int} (h1:-9223372036854775808 ≤ x) (h2:x ≤ 9223372036854775807):wrap64 x = x:=by
 unfold wrap64
 omega
set_option maxHeartbeats 2000000 in
set_option maxRecDepth 100000 in
theorem grow_nil (n : Int) (h0 : 0 ≤ n) (hn : n < 17592186044416) (w : World) :
  Calls Tryd.prog 96 #[.slice none 0 0,.int .i64 n] w fun e w' => ∃ v0_:Value,e = .returned (v0_) ∧ Kd.R (Kd.int .i64) 2 w' w.heap.size (fun _=>True) v0_ [] ∧ Below w.heap.size w w' := by
 have e0:(n < 0) = False:=by simp;omega
 by_cases hp:0 < n
 ·have e1:(0 < n) = True:=by simp [hp]
  go_enter Tryd.func96,Tryd.ntmps96
  go_wp2_with (first | ((with_reducible refine gate_builtin (b:=.append) (xs:=#[.tmp 20,.tmp 21]) rfl ?_);at_builtin;refine Kd.R_append_zeros (Kd.int .i64) (w0:=w) w.heap.size rfl (.tmp 20) (.tmp 21) 24 3 2 (.int .i64 0) 8 rfl Tryd.underlying24 Tryd.underlying3 info2 rfl (by decide) (by omega) (.slice none 0 0) [] 0 n (fun _=>True) rfl rfl rfl (fun _ _=>trivial) (jO _ _ _ _ _) h0 (kW _ _) (Nat.le_refl _) (by simp;omega) ?_;intro v1 w1 ho hb hg hat;have hs:=kM ho;obtain ⟨A1,c1,rfl⟩:=hs;have HO:=zA (Kd.R_take ho (Nat.zero_le _));have HB:=zA hb;clear ho hb hg hat))
  go_ret
  exact ⟨_,rfl,HO.out,HB.out⟩
 have e1:n = 0:=by omega
 subst e1
 go_enter Tryd.func96,Tryd.ntmps96
 go_wp2
 go_ret
 exact ⟨_,rfl,jO _ _ _ _ _,kW _ _⟩
theorem take_sum_step (l:List (List Int)) (k:Nat) (hk:k < l.length):((l.take (k + 1)).map List.length).sum = ((l.take k).map List.length).sum + (l.getD k []).length:=by
 rw [List.take_add_one,List.getElem?_eq_getElem hk,List.map_append,List.sum_append]
 simp [List.getD_eq_getElem?_getD,hk]
theorem take_sum_le (l:List (List Int)) (k:Nat):((l.take k).map List.length).sum ≤ (l.map List.length).sum:=by
 have h:(l.map List.length).sum = ((l.take k).map List.length).sum + ((l.drop k).map List.length).sum:=by
  rw [← List.sum_append,← List.map_append,List.take_append_drop]
 omega
theorem take_flatten_step (l:List (List Int)) (k:Nat) (hk:k < l.length):(l.take (k + 1)).flatten = (l.take k).flatten ++ l.getD k []:=by
 rw [List.take_add_one,List.getElem?_eq_getElem hk,List.flatten_append]
 simp [List.getD_eq_getElem?_getD,hk]
set_option maxHeartbeats 4000000 in
set_option maxRecDepth 100000 in
theorem slices_Concat_int64_int64.calls (A0 : Option Addr) (c0 : Nat) (l0 : List (List Int)) (r : List Int) (w : World) (hr0 : Kd.C (Kd.slice 24 (Kd.int .i64)) w A0 l0.length l0) (hc0 : l0.length ≤ c0) (h : slices_Concat_int64_int64.f l0 = some r) :
  Calls Tryd.prog 92 #[.slice A0 l0.length c0] w fun e w' => ∃ v0_:Value,e = .returned (v0_) ∧ Kd.R (Kd.int .i64) 2 w' w.heap.size (fun _=>True) v0_ r ∧ Below w.heap.size w w' := by
 unfold slices_Concat_int64_int64.f at h
 by_cases hT:(l0.map List.length).sum < 17592186044416
 ·rw [if_pos hT] at h
  obtain rfl:=Option.some.inj h
  clear h hc0
  have hl:l0.length ≤ 9223372036854775807:=hr0.2.1
  have HR0:=zA hr0
  have HT:=zA hT
  clear hr0 hT
  go_enter Tryd.func92,Tryd.ntmps92
  go_wp2
  go_loopg [3,5,11] l0.length (fun gg v3 _ v11 wr=>∃ kk:Nat,kk ≤ l0.length ∧ l0.length - kk ≤ gg ∧ v3 = .int .i64 (((l0.take kk).map List.length).sum:Nat) ∧ v11 = .int .i64 kk ∧ Aside0 (Below w.heap.size w wr))
  case atStart=>exact ⟨0,Nat.zero_le _,by omega,by simp,rfl,⟨kW _ _⟩⟩
  case round =>
   obtain ⟨kk,hkk,hg,rfl,rfl,HB⟩:=hrel
   by_cases hlt:kk < l0.length
   ·have hltz:(kk:Int) < (l0.length:Int):=by omega
    obtain ⟨ad,A1,c1,e0,hcell,hc1,hC1⟩:=at_row HR0.out kk hlt
    cases e0
    have S1:=zA (take_sum_step l0 kk hlt)
    have S2:=zA (take_sum_le l0 (kk + 1))
    replace hcell:=pw_cell_below HB.out hcell
    clear hc1 hC1
    generalize hy:l0.getD kk [] = y at hcell S1
    generalize ((l0.take kk).map List.length).sum = s at S1 ⊢
    clear hy
    have hn:¬ (wrap64 ((s:Int) + (y.length:Int)) < 0):=by
     have h1:=S1.out
     have h2:=S2.out
     have h3:=HT.out
     rw [pw_wrap64_id (by omega) (by omega)];omega
    go_wp2
    go_roundg (l0.length - (kk + 1))
    case measure=>omega
    case rel =>
     refine ⟨kk + 1,by omega,by omega,?_,by go_num,?_⟩
     ·rw [S1.out]
      have h1:=S1.out
      have h2:=S2.out
      have h3:=HT.out
      rw [pw_wrap64_id (by omega) (by omega)];simp
     exact HB
   have hltz:¬ (kk:Int) < (l0.length:Int):=by omega
   have:kk = l0.length:=by omega
   subst this
   rw [List.take_length]
   have hF:∀ kk,kk ≤ l0.length → ((l0.take kk).flatten).length ≤ (l0.map List.length).sum:=fun kk _=>by
    rw [List.length_flatten];exact take_sum_le l0 kk
   replace hF:=zA hF
   generalize (l0.map List.length).sum = s at HT hF ⊢
   have hcall:=grow_nil (s:Int) (by omega) (by have:=HT.out;omega) wr
   replace hcall:=zA hcall
   go_wp2_with fail
   refine hcall.out.mono ?_
   rintro e w1 ⟨v1,rfl,ho,hb⟩
   have HO:=zA (kI ho HB.out.size)
   have HB1:=zA (kQ HB.out hb)
   clear hcall ho hb
   go_wp2
   go_loopg [6,8,27] l0.length (fun gg v6 _ v27 wr=>∃ kk:Nat,kk ≤ l0.length ∧ l0.length - kk ≤ gg ∧ v27 = .int .i64 kk ∧ Aside0 (Kd.R (Kd.int .i64) 2 wr w.heap.size (fun _=>True) v6 (l0.take kk).flatten) ∧ Aside0 (Below w.heap.size w wr))
   case atStart=>exact ⟨0,Nat.zero_le _,by omega,rfl,⟨by simpa using HO.out⟩,HB1⟩
   case round =>
    clear HO HB1 HB
    obtain ⟨kk,hkk,hg,rfl,HO,HB⟩:=hrel
    by_cases hlt:kk < l0.length
    ·have hltz:(kk:Int) < (l0.length:Int):=by omega
     obtain ⟨ad,A1,c1,e0,hcell,hc1,hC1⟩:=at_row HR0.out kk hlt
     cases e0
     have S1:=zA (take_flatten_step l0 kk hlt)
     have S2:=zA (hF.out (kk + 1) (by omega))
     replace hcell:=pw_cell_below HB.out hcell
     replace hC1:=zA (kO hC1 HB.out)
     clear hc1
     generalize hy:l0.getD kk [] = y at hcell S1 hC1
     clear hy
     generalize hz:(l0.take kk).flatten = z at HO S1
     clear hz
     have hlen:z.length + y.length ≤ s:=by
      have h2:=S2.out
      rw [S1.out,List.length_append] at h2
      exact h2
     have HLN:=zA hlen
     clear hlen
     go_wp2_with (first | ((with_reducible refine gate_builtin (b:=.append) (xs:=#[.tmp 31,.tmp 32]) rfl ?_);at_builtin;refine Kd.R_append_rows (Kd.int .i64) (w0:=w) w.heap.size rfl (.tmp 31) (.tmp 32) 24 2 (.int .i64 0) 8 rfl Tryd.underlying24 info2 rfl (by decide) (by omega) u6 z y _ _ _ (fun _=>True) (fun _=>False) rfl rfl ?aO ?aR (fun _ _ h=>h) (fun _ h=>h.elim) (fun _ _=>trivial) ?aB ?aS (by have:=HLN.out;have:=HT.out;omega) ?_;(case aR=>exact zS hC1.out);(case aO=>(with_reducible repeat (first | apply zF | apply zG | apply zH));exact HO.out);(case aB=>exact zQ HB.out);(case aS=>exact kP (zQ HB.out));intro v6 w6 ho hb hg_ hat;have HO' := zA ho;have HB' := zA hb;clear ho hb hg_ hat))
     go_roundg (l0.length - (kk + 1))
     case measure=>omega
     case rel=>exact ⟨kk + 1,by omega,by omega,by go_num,⟨by rw [S1.out];exact HO'.out⟩,HB'⟩
    have hltz:¬ (kk:Int) < (l0.length:Int):=by omega
    have:kk = l0.length:=by omega
    subst this
    go_wp2
    go_ret
    refine ⟨_,rfl,?_,HB.out⟩
    have:=HO.out
    rw [List.take_length] at this
    exact this
 rw [if_neg hT] at h
 cases h
end Go.Proofs.YtjdekliancabgaaDoor.PAll
