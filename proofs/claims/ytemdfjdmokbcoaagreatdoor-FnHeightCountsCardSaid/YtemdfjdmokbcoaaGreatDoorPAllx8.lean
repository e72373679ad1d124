import Derived.Test.YtemdfjdmokbcoaaGreatDoorPAllx0
import Derived.Test.YtemdfjdmokbcoaaGreatDoorPAllx1
import Derived.Test.YtemdfjdmokbcoaaGreatDoorPAllx7
namespace Go.Proofs.YtemdfjdmokbcoaaGreatDoor.PAll
open Go.RowKit Go.Proofs.YtemdfjdmokbcoaaGreatDoor.T Go.Proofs.YtemdfjdmokbcoaaGreatDoorW.PrintWords Go.Proofs.YtemdfjdmokbcoaaGreatDoorW.PrintLast Go.Proofs.YtemdfjdmokbcoaaGreatDoorW.PrintMore
attribute [local go_sem] max2_int min2_int max_two min_two max_three min_three max_four min_four   -- for this text's walks alone
set_option linter.unusedVariables false
set_option linter.unusedSimpArgs false
mutual
def spec_l02Is.j0:Nat → Bool → Int → List Int → Option (Bool)
 | 0,_,_,_=>none
 | k + 1,x24,x460000,x460001=>if x24 = true then (some false) else (spec_l02Is.l0 k 0 x460000 x460001)
def spec_l02Is.l0:Nat → Int → Int → List Int → Option (Bool)
 | 0,_,_,_=>none
 | k + 1,x3,x460000,x460001=>if x3 < x460000 then (if 0 ≤ x3 then (if x3 < (x460001.length:Int) then ((spec_l01Bit.f (rd x460001 x3) x3).bind fun t463=>(if t463 = true then (spec_l02Is.l1 k x3 0 x460000 x460001) else (some false))) else (none)) else (none)) else (some true)
def spec_l02Is.l1:Nat → Int → Int → Int → List Int → Option (Bool)
 | 0,_,_,_,_=>none
 | k + 1,x3,x4,x460000,x460001=>if x4 < x460000 then (if 0 ≤ x3 then (if x3 < (x460001.length:Int) then ((spec_l01Bit.f (rd x460001 x3) x4).bind fun t465=>(if 0 ≤ x4 then (if x4 < (x460001.length:Int) then ((spec_l01Bit.f (rd x460001 x4) x3).bind fun t467=>(if (t465 != t467) = true then (some false) else (spec_l02Is.l1 k x3 (wrap64 (x4 + 1)) x460000 x460001))) else (none)) else (none))) else (none)) else (none)) else (spec_l02Is.l0 k (wrap64 (x3 + 1)) x460000 x460001)
end
def spec_l02Is.f (k:Nat) (a0_0:Int) (l0_1:List Int):Option (Bool):=(spec_l01In.f a0_0 0 8).bind fun t460=>(if t460 = true then (if (l0_1.length:Int) = a0_0 then ((spec_l01Masks.f k a0_0 l0_1).bind fun t461=>(spec_l02Is.j0 k (!t461) a0_0 l0_1)) else (spec_l02Is.j0 k true a0_0 l0_1)) else (spec_l02Is.j0 k true a0_0 l0_1))
set_option maxHeartbeats 8000000 in
set_option maxRecDepth 100000 in
theorem spec_l02Is.calls (k : Nat) (a0_0 : Int) (A0_1 : Option Addr) (c0_1 : Nat) (l0_1 : List Int) (r : Bool) (w : World) (hr0_1 : Kd.C (Kd.int .i64) w A0_1 l0_1.length l0_1) (hc0_1 : l0_1.length ≤ c0_1) (h : spec_l02Is.f k a0_0 l0_1 = some r) :
  Calls Tryz.prog 68 #[.agg #[.int .i64 a0_0,.slice A0_1 l0_1.length c0_1]] w fun e w' => e = .returned (.bool r) ∧ Below w.heap.size w w' := by
 have hu26:=Tryz.underlying26
 have HR0_1:=zA hr0_1
 have HC0_1:=zA hc0_1
 clear hr0_1 hc0_1
 have HB:=zA (kW w.heap.size w)
 have H:=h
 unfold spec_l02Is.f at H
 clear h
 have HC2:=zA H
 clear H
 go_enter Tryz.func68,Tryz.ntmps68
 go_upto_region 1 with (first | (refine zBE 1 #[.int .i64 a0_0,.slice A0_1 l0_1.length c0_1] 26 ?_;intro gb459 hg w3 hbox hb;have BK459:=zA (hbox);have GW459:=zA (zBH hg HB.out);have GE459:=zA (zBH hg HB.out);replace HB:=zA (kQ (zQ HB.out) hb);clear hb hbox hg))
 repeat (go_quiet (first | (refine zBE 1 #[.int .i64 a0_0,.slice A0_1 l0_1.length c0_1] 26 ?_;intro gb459 hg w3 hbox hb;have n0_:=zA (kQ (zQ HB.out) hb);have n1_:=zA (hbox);have n2_:=zA (zBH hg HB.out);have n3_:=zA (zBH hg HB.out);clear HB;have HB:=n0_;have BK459:=n1_;have GW459:=n2_;have GE459:=n3_;clear n0_ n1_ n2_ n3_;clear hb hbox hg));go_upto_region 1 with (first | (refine zBE 1 #[.int .i64 a0_0,.slice A0_1 l0_1.length c0_1] 26 ?_;intro gb459 hg w3 hbox hb;have BK459:=zA (hbox);have GW459:=zA (zBH hg HB.out);have GE459:=zA (zBH hg HB.out);replace HB:=zA (kQ (zQ HB.out) hb);clear hb hbox hg)))
 (try simp only [Act.put,zL,zM,zN])
 go_cut [24] (fun v24 wc=>∃ (kq:Nat) (x24_1:Bool),v24 = .bool x24_1 ∧ Aside0 (spec_l02Is.j0 kq x24_1 a0_0 l0_1 = some r) ∧ Aside0 (kq ≤ k) ∧ Aside0 (wc.heap[gb459]? = some (.cells #[.int .i64 a0_0,(.slice A0_1 l0_1.length c0_1)] 26 (0,0))) ∧ Aside0 (Below w.heap.size w wc))
 case first =>
  have H:=HC2.out
  clear HC2
  obtain ⟨t460,A4,H⟩:=zb H
  try dsimp only at H
  by_cases c5:t460 = true
  ·subst c5
   rw [if_pos rfl] at H
   by_cases c6:(l0_1.length:Int) = a0_0
   ·rw [if_pos c6] at H
    obtain ⟨c6b0,c6b1⟩:=zT1 c6
    clear c6
    (first | rw [c6b0] | (simp only [i64_w,i32_w];rw [c6b0]) | skip)
    obtain ⟨t461,A7,H⟩:=zb H
    try dsimp only at H
    have H' := zA H
    clear H
    obtain ⟨hcz8_0,hcz8_1,hfz8_0,hfz8_1⟩:=zB3 BK459.out
    go_wp2_with (first | (go_at_call 69;(with_reducible refine (spec_l01In.calls a0_0 0 8 true _ A4.out).mono ?_);rintro e w' ⟨rfl,⟨nd,rfl⟩⟩;(try exact zw)) | (go_at_call 81;(with_reducible refine (spec_l01Masks.calls k a0_0 _ _ l0_1 t461 _ ?side1 ?side2 A7.out).mono ?_);(case side1=>exact zS (kO HR0_1.out (zT HB.out GE459.out)));(case side2=>exact HC0_1.out);rintro e w' ⟨rfl,⟨nd,rfl⟩⟩;(try exact zw)))
    repeat (go_quiet (first | (go_at_call 69;(with_reducible refine (spec_l01In.calls a0_0 0 8 true _ A4.out).mono ?_);rintro e w' ⟨rfl,⟨nd,rfl⟩⟩;(try exact zw)) | (go_at_call 81;(with_reducible refine (spec_l01Masks.calls k a0_0 _ _ l0_1 t461 _ ?side1 ?side2 A7.out).mono ?_);(case side1=>exact zS (kO HR0_1.out (zT HB.out GE459.out)));(case side2=>exact HC0_1.out);rintro e w' ⟨rfl,⟨nd,rfl⟩⟩;(try exact zw)));try go_wp2_with (first | (go_at_call 69;(with_reducible refine (spec_l01In.calls a0_0 0 8 true _ A4.out).mono ?_);rintro e w' ⟨rfl,⟨nd,rfl⟩⟩;(try exact zw)) | (go_at_call 81;(with_reducible refine (spec_l01Masks.calls k a0_0 _ _ l0_1 t461 _ ?side1 ?side2 A7.out).mono ?_);(case side1=>exact zS (kO HR0_1.out (zT HB.out GE459.out)));(case side2=>exact HC0_1.out);rintro e w' ⟨rfl,⟨nd,rfl⟩⟩;(try exact zw))))
    go_meet
    case rel=>exact ⟨_,(!t461),zs,H', ⟨by first | omega | exact Nat.le_refl _⟩,⟨zR BK459.out⟩,⟨zT HB.out GE459.out⟩⟩
   rw [if_neg c6] at H
   obtain ⟨c6b0,c6b1⟩:=zT2 c6
   (first | rw [c6b0] | (simp only [i64_w,i32_w];rw [c6b0]) | skip)
   have H' := zA H
   clear H
   obtain ⟨hcz9_0,hcz9_1,hfz9_0,hfz9_1⟩:=zB3 BK459.out
   go_wp2_with (first | (go_at_call 69;(with_reducible refine (spec_l01In.calls a0_0 0 8 true _ A4.out).mono ?_);rintro e w' ⟨rfl,⟨nd,rfl⟩⟩;(try exact zw)))
   repeat (go_quiet (first | (go_at_call 69;(with_reducible refine (spec_l01In.calls a0_0 0 8 true _ A4.out).mono ?_);rintro e w' ⟨rfl,⟨nd,rfl⟩⟩;(try exact zw)));try go_wp2_with (first | (go_at_call 69;(with_reducible refine (spec_l01In.calls a0_0 0 8 true _ A4.out).mono ?_);rintro e w' ⟨rfl,⟨nd,rfl⟩⟩;(try exact zw))))
   go_meet
   case rel=>exact ⟨_,(true),zs,H', ⟨by first | omega | exact Nat.le_refl _⟩,⟨zR BK459.out⟩,⟨zT HB.out GE459.out⟩⟩
  replace c5:=Bool.eq_false_iff.mpr c5
  subst c5
  rw [if_neg (show ¬ (false = true) by decide)] at H
  have H' := zA H
  clear H
  obtain ⟨hcz10_0,hcz10_1,hfz10_0,hfz10_1⟩:=zB3 BK459.out
  go_wp2_with (first | (go_at_call 69;(with_reducible refine (spec_l01In.calls a0_0 0 8 false _ A4.out).mono ?_);rintro e w' ⟨rfl,⟨nd,rfl⟩⟩;(try exact zw)))
  repeat (go_quiet (first | (go_at_call 69;(with_reducible refine (spec_l01In.calls a0_0 0 8 false _ A4.out).mono ?_);rintro e w' ⟨rfl,⟨nd,rfl⟩⟩;(try exact zw)));try go_wp2_with (first | (go_at_call 69;(with_reducible refine (spec_l01In.calls a0_0 0 8 false _ A4.out).mono ?_);rintro e w' ⟨rfl,⟨nd,rfl⟩⟩;(try exact zw))))
  go_meet
  case rel=>exact ⟨_,(true),zs,H', ⟨by first | omega | exact Nat.le_refl _⟩,⟨zR BK459.out⟩,⟨zT HB.out GE459.out⟩⟩
 case rest =>
  clear HC2
  try clear c5
  try clear c6
  try clear hcz10_0
  try clear hcz10_1
  try clear hcz8_0
  try clear hcz8_1
  try clear hcz9_0
  try clear hcz9_1
  try clear hfz10_0
  try clear hfz10_1
  try clear hfz8_0
  try clear hfz8_1
  try clear hfz9_0
  try clear hfz9_1
  obtain ⟨kq,x24_1,rfl,HA,HJ1,BK459,HB⟩:=hcut
  cases kq with
  | zero=>exact absurd HA.out (by simp [spec_l02Is.j0])
  | succ kj1 =>
   have H:=HA.out
   clear HA
   simp only [spec_l02Is.j0] at H
   by_cases c11:x24_1 = true
   ·subst c11
    rw [if_pos rfl] at H
    obtain rfl:=Option.some.inj H
    go_wp2
    repeat (go_quiet (fail);try go_wp2)
    go_ret
    exact ⟨zr,zT HB.out GE459.out⟩
   replace c11:=Bool.eq_false_iff.mpr c11
   subst c11
   rw [if_neg (show ¬ (false = true) by decide)] at H
   have H' := zA H
   clear H
   go_wp2
   repeat (go_quiet (fail);try go_wp2)
   go_loopg [3] kj1 (fun kq v3 w' => ∃ (x3_2:Int),v3 = .int .i64 x3_2 ∧ Aside0 (spec_l02Is.l0 kq x3_2 a0_0 l0_1 = some r) ∧ Aside0 (kq ≤ kj1) ∧ Aside0 (w'.heap[gb459]? = some (.cells #[.int .i64 a0_0,(.slice A0_1 l0_1.length c0_1)] 26 (0,0))) ∧ Aside0 (Below w.heap.size w w'))
   case atStart=>exact ⟨(0),zs,H', ⟨Nat.le_refl _⟩,⟨zR BK459.out⟩,⟨zT HB.out GE459.out⟩⟩
   case round =>
    clear H'
    try clear c1
    try clear c5
    try clear c6
    try clear c11
    try clear hcz10_0
    try clear hcz10_1
    try clear hcz8_0
    try clear hcz8_1
    try clear hcz9_0
    try clear hcz9_1
    try clear hfz10_0
    try clear hfz10_1
    try clear hfz8_0
    try clear hfz8_1
    try clear hfz9_0
    try clear hfz9_1
    obtain ⟨x3_2,rfl,HA,HK2,BK459,HB⟩:=hrel
    cases gk with
    | zero=>exact absurd HA.out (by simp [spec_l02Is.l0])
    | succ k2 =>
     have H:=HA.out
     clear HA
     simp only [spec_l02Is.l0] at H
     by_cases c12:x3_2 < a0_0
     ·rw [if_pos c12] at H
      have c12b0:decide (x3_2 < a0_0) = true:=decide_eq_true c12
      clear c12
      by_cases c13:0 ≤ x3_2
      ·rw [if_pos c13] at H
       have c13b0:decide (0 ≤ x3_2) = true:=decide_eq_true c13
       clear c13
       by_cases c14:x3_2 < (l0_1.length:Int)
       ·rw [if_pos c14] at H
        have c14b0:decide (x3_2 < (l0_1.length:Int)) = true:=decide_eq_true c14
        clear c14
        obtain ⟨t463,A15,H⟩:=zb H
        try dsimp only at H
        by_cases c16:t463 = true
        ·subst c16
         rw [if_pos rfl] at H
         have H' := zA H
         clear H
         obtain ⟨hcz17_0,hcz17_1,hfz17_0,hfz17_1⟩:=zB3 BK459.out
         have p462:0 ≤ (x3_2:Int):=zd
         have q462:x3_2 < (l0_1.length:Int):=zd
         obtain ⟨ad462,e462,hx462_0⟩:=Kd.at_int HR0_1.out x3_2 p462 q462
         cases e462
         replace hx462_0:=(HB.out.cell (jG w _ hx462_0)).trans hx462_0
         replace p462:=eq_true p462
         replace q462:=eq_true q462
         go_wp2_with (first | (go_at_call 70;(with_reducible refine (spec_l01Bit.calls (rd l0_1 x3_2) x3_2 true _ A15.out).mono ?_);rintro e w' ⟨rfl,⟨nd,rfl⟩⟩;(try exact zw)))
         repeat (go_quiet (first | (go_at_call 70;(with_reducible refine (spec_l01Bit.calls (rd l0_1 x3_2) x3_2 true _ A15.out).mono ?_);rintro e w' ⟨rfl,⟨nd,rfl⟩⟩;(try exact zw)));try go_wp2_with (first | (go_at_call 70;(with_reducible refine (spec_l01Bit.calls (rd l0_1 x3_2) x3_2 true _ A15.out).mono ?_);rintro e w' ⟨rfl,⟨nd,rfl⟩⟩;(try exact zw))))
         go_loopg [4] k2 (fun kq v4 w' => ∃ (x4_3:Int),v4 = .int .i64 x4_3 ∧ Aside0 (spec_l02Is.l1 kq x3_2 x4_3 a0_0 l0_1 = some r) ∧ Aside0 (kq ≤ k2) ∧ Aside0 (w'.heap[gb459]? = some (.cells #[.int .i64 a0_0,(.slice (some ad462) l0_1.length c0_1)] 26 (0,0))) ∧ Aside0 (Below w.heap.size w w'))
         case atStart=>exact ⟨(0),zs,H', ⟨Nat.le_refl _⟩,⟨zR BK459.out⟩,⟨zT HB.out GE459.out⟩⟩
         case round =>
          clear H'
          try clear c1
          try clear hx4
          try clear c5
          try clear c6
          try clear c11
          try clear c12
          try clear c13
          try clear c14
          try clear c16
          try clear hcz10_0
          try clear hcz10_1
          try clear hcz17_0
          try clear hcz17_1
          try clear hcz8_0
          try clear hcz8_1
          try clear hcz9_0
          try clear hcz9_1
          try clear hfz10_0
          try clear hfz10_1
          try clear hfz17_0
          try clear hfz17_1
          try clear hfz8_0
          try clear hfz8_1
          try clear hfz9_0
          try clear hfz9_1
          try clear hx462_0
          obtain ⟨x4_3,rfl,HA,HK3,BK459,HB⟩:=hrel
          cases gk with
          | zero=>exact absurd HA.out (by simp [spec_l02Is.l1])
          | succ k3 =>
           have H:=HA.out
           clear HA
           simp only [spec_l02Is.l1] at H
           by_cases c18:x4_3 < a0_0
           ·rw [if_pos c18] at H
            have c18b0:decide (x4_3 < a0_0) = true:=decide_eq_true c18
            clear c18
            by_cases c19:0 ≤ x3_2
            ·rw [if_pos c19] at H
             have c19b0:decide (0 ≤ x3_2) = true:=decide_eq_true c19
             clear c19
             by_cases c20:x3_2 < (l0_1.length:Int)
             ·rw [if_pos c20] at H
              have c20b0:decide (x3_2 < (l0_1.length:Int)) = true:=decide_eq_true c20
              clear c20
              obtain ⟨t465,A21,H⟩:=zb H
              try dsimp only at H
              by_cases c22:0 ≤ x4_3
              ·rw [if_pos c22] at H
               have c22b0:decide (0 ≤ x4_3) = true:=decide_eq_true c22
               clear c22
               by_cases c23:x4_3 < (l0_1.length:Int)
               ·rw [if_pos c23] at H
                have c23b0:decide (x4_3 < (l0_1.length:Int)) = true:=decide_eq_true c23
                clear c23
                obtain ⟨t467,A24,H⟩:=zb H
                try dsimp only at H
                by_cases c25:(t465 != t467) = true
                ·rw [if_pos c25] at H
                 have c25b0:(t465 != t467) = true:=c25
                 (try (have c25b1:decide (t465 = t467) = false:=by simpa using c25))
                 (try (have c25b2:(t465 == t467) = false:=by simpa using c25))
                 (try (have c25b3:¬ (t465 = t467):=by simpa using c25))
                 clear c25
                 obtain rfl:=Option.some.inj H
                 obtain ⟨hcz26_0,hcz26_1,hfz26_0,hfz26_1⟩:=zB3 BK459.out
                 have p464:0 ≤ (x3_2:Int):=zd
                 have q464:x3_2 < (l0_1.length:Int):=zd
                 obtain ⟨ad464,e464,hx464_0⟩:=Kd.at_int HR0_1.out x3_2 p464 q464
                 obtain rfl:ad462 = ad464:=(by injection e464)
                 replace hx464_0:=(HB.out.cell (jG w _ hx464_0)).trans hx464_0
                 replace p464:=eq_true p464
                 replace q464:=eq_true q464
                 go_wp2_with (first | (go_at_call 70;(with_reducible refine (spec_l01Bit.calls (rd l0_1 x3_2) x4_3 t465 _ A21.out).mono ?_);rintro e w' ⟨rfl,⟨nd,rfl⟩⟩;(try exact zw);have p466:0 ≤ (x4_3:Int):=zd;have q466:x4_3 < (l0_1.length:Int):=zd;obtain ⟨ad466,e466,hx466_0⟩:=Kd.at_int HR0_1.out x4_3 p466 q466;obtain rfl:ad462 = ad466:=(by injection e466);replace hx466_0:=(HB.out.cell (jG w _ hx466_0)).trans hx466_0;replace p466:=eq_true p466;replace q466:=eq_true q466) | (go_at_call 70;(with_reducible refine (spec_l01Bit.calls (rd l0_1 x4_3) x3_2 t467 _ A24.out).mono ?_);rintro e w' ⟨rfl,⟨nd,rfl⟩⟩;(try exact zw)))
                 repeat (go_quiet (first | (go_at_call 70;(with_reducible refine (spec_l01Bit.calls (rd l0_1 x3_2) x4_3 t465 _ A21.out).mono ?_);rintro e w' ⟨rfl,⟨nd,rfl⟩⟩;(try exact zw);have p466:0 ≤ (x4_3:Int):=zd;have q466:x4_3 < (l0_1.length:Int):=zd;obtain ⟨ad466,e466,hx466_0⟩:=Kd.at_int HR0_1.out x4_3 p466 q466;obtain rfl:ad462 = ad466:=(by injection e466);replace hx466_0:=(HB.out.cell (jG w _ hx466_0)).trans hx466_0;replace p466:=eq_true p466;replace q466:=eq_true q466) | (go_at_call 70;(with_reducible refine (spec_l01Bit.calls (rd l0_1 x4_3) x3_2 t467 _ A24.out).mono ?_);rintro e w' ⟨rfl,⟨nd,rfl⟩⟩;(try exact zw)));try go_wp2_with (first | (go_at_call 70;(with_reducible refine (spec_l01Bit.calls (rd l0_1 x3_2) x4_3 t465 _ A21.out).mono ?_);rintro e w' ⟨rfl,⟨nd,rfl⟩⟩;(try exact zw);have p466:0 ≤ (x4_3:Int):=zd;have q466:x4_3 < (l0_1.length:Int):=zd;obtain ⟨ad466,e466,hx466_0⟩:=Kd.at_int HR0_1.out x4_3 p466 q466;obtain rfl:ad462 = ad466:=(by injection e466);replace hx466_0:=(HB.out.cell (jG w _ hx466_0)).trans hx466_0;replace p466:=eq_true p466;replace q466:=eq_true q466) | (go_at_call 70;(with_reducible refine (spec_l01Bit.calls (rd l0_1 x4_3) x3_2 t467 _ A24.out).mono ?_);rintro e w' ⟨rfl,⟨nd,rfl⟩⟩;(try exact zw))))
                 go_ret
                 exact ⟨zr,zT HB.out GE459.out⟩
                rw [if_neg c25] at H
                have c25b0:(t465 != t467) = false:=by simpa using c25
                (try (have c25b1:decide (t465 = t467) = true:=by simpa using c25))
                (try (have c25b2:(t465 == t467) = true:=by simpa using c25))
                clear c25
                have H' := zA H
                clear H
                obtain ⟨hcz27_0,hcz27_1,hfz27_0,hfz27_1⟩:=zB3 BK459.out
                have p464:0 ≤ (x3_2:Int):=zd
                have q464:x3_2 < (l0_1.length:Int):=zd
                obtain ⟨ad464,e464,hx464_0⟩:=Kd.at_int HR0_1.out x3_2 p464 q464
                obtain rfl:ad462 = ad464:=(by injection e464)
                replace hx464_0:=(HB.out.cell (jG w _ hx464_0)).trans hx464_0
                replace p464:=eq_true p464
                replace q464:=eq_true q464
                go_wp2_with (first | (go_at_call 70;(with_reducible refine (spec_l01Bit.calls (rd l0_1 x3_2) x4_3 t465 _ A21.out).mono ?_);rintro e w' ⟨rfl,⟨nd,rfl⟩⟩;(try exact zw);have p466:0 ≤ (x4_3:Int):=zd;have q466:x4_3 < (l0_1.length:Int):=zd;obtain ⟨ad466,e466,hx466_0⟩:=Kd.at_int HR0_1.out x4_3 p466 q466;obtain rfl:ad462 = ad466:=(by injection e466);replace hx466_0:=(HB.out.cell (jG w _ hx466_0)).trans hx466_0;replace p466:=eq_true p466;replace q466:=eq_true q466) | (go_at_call 70;(with_reducible refine (spec_l01Bit.calls (rd l0_1 x4_3) x3_2 t467 _ A24.out).mono ?_);rintro e w' ⟨rfl,⟨nd,rfl⟩⟩;(try exact zw)))
                repeat (go_quiet (first | (go_at_call 70;(with_reducible refine (spec_l01Bit.calls (rd l0_1 x3_2) x4_3 t465 _ A21.out).mono ?_);rintro e w' ⟨rfl,⟨nd,rfl⟩⟩;(try exact zw);have p466:0 ≤ (x4_3:Int):=zd;have q466:x4_3 < (l0_1.length:Int):=zd;obtain ⟨ad466,e466,hx466_0⟩:=Kd.at_int HR0_1.out x4_3 p466 q466;obtain rfl:ad462 = ad466:=(by injection e466);replace hx466_0:=(HB.out.cell (jG w _ hx466_0)).trans hx466_0;replace p466:=eq_true p466;replace q466:=eq_true q466) | (go_at_call 70;(with_reducible refine (spec_l01Bit.calls (rd l0_1 x4_3) x3_2 t467 _ A24.out).mono ?_);rintro e w' ⟨rfl,⟨nd,rfl⟩⟩;(try exact zw)));try go_wp2_with (first | (go_at_call 70;(with_reducible refine (spec_l01Bit.calls (rd l0_1 x3_2) x4_3 t465 _ A21.out).mono ?_);rintro e w' ⟨rfl,⟨nd,rfl⟩⟩;(try exact zw);have p466:0 ≤ (x4_3:Int):=zd;have q466:x4_3 < (l0_1.length:Int):=zd;obtain ⟨ad466,e466,hx466_0⟩:=Kd.at_int HR0_1.out x4_3 p466 q466;obtain rfl:ad462 = ad466:=(by injection e466);replace hx466_0:=(HB.out.cell (jG w _ hx466_0)).trans hx466_0;replace p466:=eq_true p466;replace q466:=eq_true q466) | (go_at_call 70;(with_reducible refine (spec_l01Bit.calls (rd l0_1 x4_3) x3_2 t467 _ A24.out).mono ?_);rintro e w' ⟨rfl,⟨nd,rfl⟩⟩;(try exact zw))))
                go_roundg k3
                case measure=>have:=HJ1.out;have:=HK2.out;have:=HK3.out;omega
                case rel=>exact ⟨(wrap64 (x4_3 + 1)),zs,H', ⟨by have:=HJ1.out;have:=HK2.out;have:=HK3.out;omega⟩,⟨zR BK459.out⟩,⟨zT HB.out GE459.out⟩⟩
               rw [if_neg c23] at H
               exact absurd H (by simp)
              rw [if_neg c22] at H
              exact absurd H (by simp)
             rw [if_neg c20] at H
             exact absurd H (by simp)
            rw [if_neg c19] at H
            exact absurd H (by simp)
           rw [if_neg c18] at H
           have c18b0:decide (x4_3 < a0_0) = false:=decide_eq_false c18
           clear c18
           have H' := zA H
           clear H
           obtain ⟨hcz28_0,hcz28_1,hfz28_0,hfz28_1⟩:=zB3 BK459.out
           go_wp2
           repeat (go_quiet (fail);try go_wp2)
           go_roundg k3
           case measure=>have:=HJ1.out;have:=HK2.out;have:=HK3.out;omega
           case rel=>exact ⟨(wrap64 (x3_2 + 1)),zs,H', ⟨by have:=HJ1.out;have:=HK2.out;have:=HK3.out;omega⟩,⟨zR BK459.out⟩,⟨zT HB.out GE459.out⟩⟩
        replace c16:=Bool.eq_false_iff.mpr c16
        subst c16
        rw [if_neg (show ¬ (false = true) by decide)] at H
        obtain rfl:=Option.some.inj H
        obtain ⟨hcz29_0,hcz29_1,hfz29_0,hfz29_1⟩:=zB3 BK459.out
        have p462:0 ≤ (x3_2:Int):=zd
        have q462:x3_2 < (l0_1.length:Int):=zd
        obtain ⟨ad462,e462,hx462_0⟩:=Kd.at_int HR0_1.out x3_2 p462 q462
        cases e462
        replace hx462_0:=(HB.out.cell (jG w _ hx462_0)).trans hx462_0
        replace p462:=eq_true p462
        replace q462:=eq_true q462
        go_wp2_with (first | (go_at_call 70;(with_reducible refine (spec_l01Bit.calls (rd l0_1 x3_2) x3_2 false _ A15.out).mono ?_);rintro e w' ⟨rfl,⟨nd,rfl⟩⟩;(try exact zw)))
        repeat (go_quiet (first | (go_at_call 70;(with_reducible refine (spec_l01Bit.calls (rd l0_1 x3_2) x3_2 false _ A15.out).mono ?_);rintro e w' ⟨rfl,⟨nd,rfl⟩⟩;(try exact zw)));try go_wp2_with (first | (go_at_call 70;(with_reducible refine (spec_l01Bit.calls (rd l0_1 x3_2) x3_2 false _ A15.out).mono ?_);rintro e w' ⟨rfl,⟨nd,rfl⟩⟩;(try exact zw))))
        go_ret
        exact ⟨zr,zT HB.out GE459.out⟩
       rw [if_neg c14] at H
       exact absurd H (by simp)
      rw [if_neg c13] at H
      exact absurd H (by simp)
     rw [if_neg c12] at H
     have c12b0:decide (x3_2 < a0_0) = false:=decide_eq_false c12
     clear c12
     obtain rfl:=Option.some.inj H
     obtain ⟨hcz30_0,hcz30_1,hfz30_0,hfz30_1⟩:=zB3 BK459.out
     go_wp2
     repeat (go_quiet (fail);try go_wp2)
     go_ret
     exact ⟨zr,zT HB.out GE459.out⟩
def spec_l06Code.f (k:Nat) (a0_0:Int) (l0_1:List Int) (a1:Int):Option (Int):=(spec_l02Is.f k a0_0 l0_1).bind fun t469=>(if t469 = true then ((spec_l01In.f a1 0 24).bind fun t470=>(if t470 = true then (some 0) else (some 2))) else (some 1))
set_option maxHeartbeats 8000000 in
set_option maxRecDepth 100000 in
theorem spec_l06Code.calls (k : Nat) (a0_0 : Int) (A0_1 : Option Addr) (c0_1 : Nat) (l0_1 : List Int) (a1 : Int) (r : Int) (w : World) (hr0_1 : Kd.C (Kd.int .i64) w A0_1 l0_1.length l0_1) (hc0_1 : l0_1.length ≤ c0_1) (h : spec_l06Code.f k a0_0 l0_1 a1 = some r) :
  Calls Tryz.prog 45 #[.agg #[.int .i64 a0_0,.slice A0_1 l0_1.length c0_1],.int .i64 a1] w fun e w' => e = .returned (.int .i64 r) ∧ Below w.heap.size w w' := by
 have hu26:=Tryz.underlying26
 have HR0_1:=zA hr0_1
 have HC0_1:=zA hc0_1
 clear hr0_1 hc0_1
 have HB:=zA (kW w.heap.size w)
 have H:=h
 unfold spec_l06Code.f at H
 clear h
 obtain ⟨t469,A3,H⟩:=zb H
 try dsimp only at H
 by_cases c4:t469 = true
 ·subst c4
  rw [if_pos rfl] at H
  obtain ⟨t470,A5,H⟩:=zb H
  try dsimp only at H
  by_cases c6:t470 = true
  ·subst c6
   rw [if_pos rfl] at H
   obtain rfl:=Option.some.inj H
   go_enter Tryz.func45,Tryz.ntmps45
   go_wp2_with (first | (refine zBE 2 #[.int .i64 a0_0,.slice A0_1 l0_1.length c0_1] 26 ?_;intro gb468 hg w7 hbox hb;have BK468:=zA (hbox);have GW468:=zA (zBH hg HB.out);have GE468:=zA (zBH hg HB.out);replace HB:=zA (kQ (zQ HB.out) hb);clear hb hbox hg;obtain ⟨hcz8_0,hcz8_1,hfz8_0,hfz8_1⟩:=zB3 BK468.out) | (refine zO (some 6) Tryz.func68 #[.agg #[.int .i64 a0_0,.slice A0_1 l0_1.length c0_1]] ?_;(with_reducible refine (spec_l02Is.calls k a0_0 _ _ l0_1 true _ ?side1 ?side2 A3.out).mono ?_);(case side1=>exact zS (kO HR0_1.out HB.out));(case side2=>exact HC0_1.out);rintro e w9 ⟨rfl,hb⟩;refine ⟨_,rfl,?_⟩;replace BK468:=zA (zB1 BK468.out hb);replace HB:=zA (kQ (zT HB.out GE468.out) hb);(try clear hb)) | (refine zO (some 9) Tryz.func69 #[.int .i64 a1,.int .i64 0,.int .i64 24] ?_;(with_reducible refine (spec_l01In.calls a1 0 24 true _ A5.out).mono ?_);rintro e w' ⟨rfl,⟨nd,rfl⟩⟩;refine ⟨_,rfl,?_⟩))
   go_ret
   exact ⟨zr,zT HB.out GE468.out⟩
  replace c6:=Bool.eq_false_iff.mpr c6
  subst c6
  rw [if_neg (show ¬ (false = true) by decide)] at H
  obtain rfl:=Option.some.inj H
  go_enter Tryz.func45,Tryz.ntmps45
  go_wp2_with (first | (refine zBE 2 #[.int .i64 a0_0,.slice A0_1 l0_1.length c0_1] 26 ?_;intro gb468 hg w10 hbox hb;have BK468:=zA (hbox);have GW468:=zA (zBH hg HB.out);have GE468:=zA (zBH hg HB.out);replace HB:=zA (kQ (zQ HB.out) hb);clear hb hbox hg;obtain ⟨hcz11_0,hcz11_1,hfz11_0,hfz11_1⟩:=zB3 BK468.out) | (refine zO (some 6) Tryz.func68 #[.agg #[.int .i64 a0_0,.slice A0_1 l0_1.length c0_1]] ?_;(with_reducible refine (spec_l02Is.calls k a0_0 _ _ l0_1 true _ ?side1 ?side2 A3.out).mono ?_);(case side1=>exact zS (kO HR0_1.out HB.out));(case side2=>exact HC0_1.out);rintro e w12 ⟨rfl,hb⟩;refine ⟨_,rfl,?_⟩;replace BK468:=zA (zB1 BK468.out hb);replace HB:=zA (kQ (zT HB.out GE468.out) hb);(try clear hb)) | (refine zO (some 9) Tryz.func69 #[.int .i64 a1,.int .i64 0,.int .i64 24] ?_;(with_reducible refine (spec_l01In.calls a1 0 24 false _ A5.out).mono ?_);rintro e w' ⟨rfl,⟨nd,rfl⟩⟩;refine ⟨_,rfl,?_⟩))
  go_ret
  exact ⟨zr,zT HB.out GE468.out⟩
 replace c4:=Bool.eq_false_iff.mpr c4
 subst c4
 rw [if_neg (show ¬ (false = true) by decide)] at H
 obtain rfl:=Option.some.inj H
 go_enter Tryz.func45,Tryz.ntmps45
 go_wp2_with (first | (refine zBE 2 #[.int .i64 a0_0,.slice A0_1 l0_1.length c0_1] 26 ?_;intro gb468 hg w13 hbox hb;have BK468:=zA (hbox);have GW468:=zA (zBH hg HB.out);have GE468:=zA (zBH hg HB.out);replace HB:=zA (kQ (zQ HB.out) hb);clear hb hbox hg;obtain ⟨hcz14_0,hcz14_1,hfz14_0,hfz14_1⟩:=zB3 BK468.out) | (refine zO (some 6) Tryz.func68 #[.agg #[.int .i64 a0_0,.slice A0_1 l0_1.length c0_1]] ?_;(with_reducible refine (spec_l02Is.calls k a0_0 _ _ l0_1 false _ ?side1 ?side2 A3.out).mono ?_);(case side1=>exact zS (kO HR0_1.out HB.out));(case side2=>exact HC0_1.out);rintro e w15 ⟨rfl,hb⟩;refine ⟨_,rfl,?_⟩;replace BK468:=zA (zB1 BK468.out hb);replace HB:=zA (kQ (zT HB.out GE468.out) hb);(try clear hb)))
 go_ret
 exact ⟨zr,zT HB.out GE468.out⟩
def spec_l01Full_Bl06After.f (a0:Int):Option (Int):=spec_l01Full.f a0
theorem spec_l01Full_Bl06After.calls (a0:Int) (r:Int) (w:World) (h:spec_l01Full_Bl06After.f a0 = some r) :
 Calls Tryz.prog 72 #[.int .i64 a0] w fun e w' => e = .returned (.int .i64 r) ∧ Below w.heap.size w w' := by
 refine (spec_l01Full.calls a0 r w h).mono ?_
 rintro e w' ⟨h1,h2⟩
 exact ⟨h1,Drawn0.below h2⟩
def spec_l06After.f (a0_0:Int) (l0_1:List Int) (a1:Int) (a2:Int):Option (Int):=(spec_l01Full_Bl06After.f a2).bind fun t472=>((spec_l01Full_Bl06After.f a2).bind fun t473=>(if 0 ≤ a2 then (if a2 < (l0_1.length:Int) then (some (wrap64 ((Go.bits .or .i64 a1 t472) - (Go.bits .and .i64 (Go.bits .or .i64 a1 t473) (rd l0_1 a2))))) else (none)) else (none)))
def spec_l06After.T1:Bool × List (List Nat × List Nat):=(true,[([],[]),([],[]),([1],[1]),([0,2],[0,2]),([],[]),([],[]),([5,2],[5]),([4,6],[4,6]),([],[]),([8],[8]),([],[]),([9,10],[9,10]),([11],[11]),([7,12],[7,12]),([3,13],[3,13]),([14,6,0,1,2,3,4,5,6,7,8,9,10,11,12,13,14],[14])])
def spec_l06After.B1:List Nat:=[0,0,2,7,0,0,38,118,0,256,0,1792,3840,8182,16383,32767]
theorem spec_l06After.tab1:rtab .any (opsOf Tryz.f71 1) = spec_l06After.T1:=by kernel_rfl
theorem spec_l06After.bits1:waitsOk spec_l06After.T1.2 spec_l06After.B1 = true:=by kernel_rfl
set_option maxHeartbeats 8000000 in
set_option maxRecDepth 100000 in
theorem spec_l06After.calls (a0_0 : Int) (A0_1 : Option Addr) (c0_1 : Nat) (l0_1 : List Int) (a1 : Int) (a2 : Int) (r : Int) (w : World) (hr0_1 : Kd.C (Kd.int .i64) w A0_1 l0_1.length l0_1) (hc0_1 : l0_1.length ≤ c0_1) (h : spec_l06After.f a0_0 l0_1 a1 a2 = some r) :
  Calls Tryz.prog 71 #[.agg #[.int .i64 a0_0,.slice A0_1 l0_1.length c0_1],.int .i64 a1,.int .i64 a2] w fun e w' => e = .returned (.int .i64 r) ∧ Below w.heap.size w w' := by
 have hu26:=Tryz.underlying26
 have HR0_1:=zA hr0_1
 have HC0_1:=zA hc0_1
 clear hr0_1 hc0_1
 have HB:=zA (kW w.heap.size w)
 have H:=h
 unfold spec_l06After.f at H
 clear h
 obtain ⟨t472,A4,H⟩:=zb H
 try dsimp only at H
 obtain ⟨t473,A5,H⟩:=zb H
 try dsimp only at H
 by_cases c6:0 ≤ a2
 ·rw [if_pos c6] at H
  have c6b0:decide (0 ≤ a2) = true:=decide_eq_true c6
  clear c6
  by_cases c7:a2 < (l0_1.length:Int)
  ·rw [if_pos c7] at H
   have c7b0:decide (a2 < (l0_1.length:Int)) = true:=decide_eq_true c7
   clear c7
   obtain rfl:=Option.some.inj H
   go_enter Tryz.func71,Tryz.ntmps71
   try go_wp2_with (first | (refine zBE 3 #[.int .i64 a0_0,.slice A0_1 l0_1.length c0_1] 26 ?_;intro gb471 hg w8 hbox hb;have BK471:=zA (hbox);have GW471:=zA (zBH hg HB.out);have GE471:=zA (zBH hg HB.out);replace HB:=zA (kQ (zQ HB.out) hb);clear hb hbox hg))
   replace BK471:=zA (zK BK471.out)
   replace HB:=zA (zD HB.out)
   have p474:0 ≤ (a2:Int):=zd
   have q474:a2 < (l0_1.length:Int):=zd
   obtain ⟨ad474,e474,hx474_0⟩:=Kd.at_int HR0_1.out a2 p474 q474
   have hw474_0:=hx474_0
   cases e474
   replace hx474_0:=(HB.out.cell (jG w _ hx474_0)).trans hx474_0
   replace p474:=eq_true p474
   replace q474:=eq_true q474
   refine start_ (n:=16) (S:=fun w' => w'.cell? ⟨gb471,0,none⟩ = some (.int .i64 a0_0) ∧ w'.cell? ⟨gb471,1,none⟩ = some (.slice (some ad474) l0_1.length c0_1) ∧ w'.cell? (ad474.add (a2).toNat) = some (.int .i64 (rd l0_1 a2))) (ds:=[]) #[false,false,false,false,false,false,false,false,false,false,false,false,false,false,false,false] (by kernel_rfl) rfl rfl ⟨(kV BK471.out 0).trans rfl,(kV BK471.out 1).trans rfl,(pw_cell_below HB.out hw474_0)⟩ (fun hHeld=>?_);refine with_tabW spec_l06After.tab1 spec_l06After.bits1 (fun HT_ HW_=>?_)
   generalize w8.drew = w9 at BK471 HB hx474_0 hHeld ⊢
   refine zp 0 (some 7) #[true,false,false,false,false,false,false,false,false,false,false,false,false,false,false,false] HT_.out ?_
   refine zp 1 (some 8) #[true,true,false,false,false,false,false,false,false,false,false,false,false,false,false,false] HT_.out ?_
   refine zp 4 (some 11) #[true,true,false,false,true,false,false,false,false,false,false,false,false,false,false,false] HT_.out ?_
   refine zp 5 (some 12) #[true,true,false,false,true,true,false,false,false,false,false,false,false,false,false,false] HT_.out ?_
   refine zp 8 (some 15) #[true,true,false,false,true,true,false,false,true,false,false,false,false,false,false,false] HT_.out ?_
   refine zp 10 (some 17) #[true,true,false,false,true,true,false,false,true,false,true,false,false,false,false,false] HT_.out ?_
   refine ze 9 (some 16) #[true,true,false,false,true,true,false,false,true,true,true,false,false,false,false,false] HT_.out HW_.out hHeld ?_
   refine zp 11 (some 18) #[true,true,false,false,true,true,false,false,true,true,true,true,false,false,false,false] HT_.out ?_
   refine ze 12 (some 19) #[true,true,false,false,true,true,false,false,true,true,true,true,true,false,false,false] HT_.out HW_.out hHeld ?_
   refine one_ (i:=2) (N:=some 9) #[true,true,true,false,true,true,false,false,true,true,true,true,true,false,false,false] rfl rfl (one_of HT_.out (by kernel_rfl)) (by decide) (fun K hK=>?_)
   refine goes_ Tryz.func72 (by kernel_rfl) rfl #[.int .i64 a2] (by rfl) rfl rfl zg ?_
   with_reducible refine (spec_l01Full_Bl06After.calls a2 t472 _ A4.out).mono ?_
   rintro e w10 ⟨rfl,hb⟩
   refine ⟨_,rfl,?_⟩
   replace BK471:=zA (zB1 BK471.out hb)
   replace HB:=zA (kQ (zT HB.out GE471.out) hb)
   (try clear hb)
   (try clear hb2)
   (try clear hk)
   (try clear hi)
   (try clear hgw)
   refine hK.out _ _ ⟨(kV BK471.out 0).trans rfl,(kV BK471.out 1).trans rfl,(pw_cell_below HB.out hw474_0)⟩ (fun hHeld=>?_)
   clear hK K
   refine norm_ (a' := ?_) ?_ ?_
   rotate_left
   ·show Act.put _ (some 9) _ = _
    simp only [Act.put,zL,zM,zN,i64_w,i32_w]
    rfl
   refine zp 3 (some 10) #[true,true,true,true,true,true,false,false,true,true,true,true,true,false,false,false] HT_.out ?_
   refine one_ (i:=6) (N:=some 13) #[true,true,true,true,true,true,true,false,true,true,true,true,true,false,false,false] rfl rfl (one_of HT_.out (by kernel_rfl)) (by decide) (fun K hK=>?_)
   refine goes_ Tryz.func72 (by kernel_rfl) rfl #[.int .i64 a2] (by rfl) rfl rfl zg ?_
   with_reducible refine (spec_l01Full_Bl06After.calls a2 t473 _ A5.out).mono ?_
   rintro e w11 ⟨rfl,hb⟩
   refine ⟨_,rfl,?_⟩
   replace BK471:=zA (zB1 BK471.out hb)
   replace HB:=zA (kQ (zT HB.out GE471.out) hb)
   (try clear hb)
   (try clear hb2)
   (try clear hk)
   (try clear hi)
   (try clear hgw)
   refine hK.out _ _ ⟨(kV BK471.out 0).trans rfl,(kV BK471.out 1).trans rfl,(pw_cell_below HB.out hw474_0)⟩ (fun hHeld=>?_)
   clear hK K
   refine norm_ (a' := ?_) ?_ ?_
   rotate_left
   ·show Act.put _ (some 13) _ = _
    simp only [Act.put,zL,zM,zN,i64_w,i32_w]
    rfl
   refine zp 7 (some 14) #[true,true,true,true,true,true,true,true,true,true,true,true,true,false,false,false] HT_.out ?_
   refine zp 13 (some 20) #[true,true,true,true,true,true,true,true,true,true,true,true,true,true,false,false] HT_.out ?_
   refine zp 14 (some 21) #[true,true,true,true,true,true,true,true,true,true,true,true,true,true,true,false] HT_.out ?_
   refine zp 15 (some 6) #[true,true,true,true,true,true,true,true,true,true,true,true,true,true,true,true] HT_.out ?_
   refine done_ (done_of HT_.out (by kernel_rfl)) ?_
   try go_wp2
   go_ret
   exact ⟨zr,zT HB.out GE471.out⟩
  rw [if_neg c7] at H
  exact absurd H (by simp)
 rw [if_neg c6] at H
 exact absurd H (by simp)
mutual
def spec_l06Tails.l0:Nat → Int → Int → List Int → Int → Int → List Int → Option ((List (List Int)))
 | 0,_,_,_,_,_,_=>none
 | k + 1,x1,x5,x6,x7,x476000,x476001=>if x7 < x5 then (if x6.length < 17592186044416 then (spec_l06Tails.l0 k x1 x5 (x6 ++ [1]) (wrap64 (x7 + 1)) x476000 x476001) else (none)) else (spec_l06Tails.l1 k x1 x5 (([x6]:List (List Int))) 1 x476000 x476001)
def spec_l06Tails.l1:Nat → Int → Int → List (List Int) → Int → Int → List Int → Option ((List (List Int)))
 | 0,_,_,_,_,_,_=>none
 | k + 1,x1,x5,x8,x9,x476000,x476001=>if x9 ≤ x1 then (spec_l06Tails.l2 k x1 x5 x8 x9 (([]:List Int)) 0 x476000 x476001) else (some x8)
def spec_l06Tails.l2:Nat → Int → Int → List (List Int) → Int → List Int → Int → Int → List Int → Option ((List (List Int)))
 | 0,_,_,_,_,_,_,_,_=>none
 | k + 1,x1,x5,x8,x9,x10,x11,x476000,x476001=>if x11 < x5 then (spec_l06Tails.l3 k x1 x5 x8 x9 x10 x11 0 0 x476000 x476001) else (if x8.length < 5864062014805 then (spec_l06Tails.l1 k x1 x5 (x8 ++ [x10]) (wrap64 (x9 + 1)) x476000 x476001) else (none))
def spec_l06Tails.l3:Nat → Int → Int → List (List Int) → Int → List Int → Int → Int → Int → Int → List Int → Option ((List (List Int)))
 | 0,_,_,_,_,_,_,_,_,_,_=>none
 | k + 1,x1,x5,x8,x9,x10,x11,x12,x13,x476000,x476001=>if x13 < x476000 then ((spec_l01Bit.f x11 x13).bind fun t498=>(if t498 = true then (spec_l06Tails.l3 k x1 x5 x8 x9 x10 x11 x12 (wrap64 (x13 + 1)) x476000 x476001) else (if 0 ≤ (wrap64 (x9 - 1)) then (if (wrap64 (x9 - 1)) < (x8.length:Int) then ((spec_l06After.f x476000 x476001 x11 x13).bind fun t500=>(if 0 ≤ t500 then (if t500 < ((rd_L2 x8 (wrap64 (x9 - 1))).length:Int) then (spec_l06Tails.l3 k x1 x5 x8 x9 x10 x11 (wrap64 (x12 + (rd (rd_L2 x8 (wrap64 (x9 - 1))) t500))) (wrap64 (x13 + 1)) x476000 x476001) else (none)) else (none))) else (none)) else (none)))) else (if x12 > 1000000000000000 then (if x10.length < 17592186044416 then (spec_l06Tails.l2 k x1 x5 x8 x9 (x10 ++ [1000000000000001]) (wrap64 (x11 + 1)) x476000 x476001) else (none)) else (if x10.length < 17592186044416 then (spec_l06Tails.l2 k x1 x5 x8 x9 (x10 ++ [x12]) (wrap64 (x11 + 1)) x476000 x476001) else (none)))
end
def spec_l06Tails.f (k:Nat) (a0_0:Int) (l0_1:List Int) (a1:Int):Option ((List (List Int))):=(spec_l01One.f a0_0).bind fun t476=>(spec_l06Tails.l0 k a1 t476 (([]:List Int)) 0 a0_0 l0_1)
def spec_l06Tails.T20:Bool × List (List Nat × List Nat):=(true,[([],[]),([],[]),([],[]),([2],[2]),([1,3],[1,3]),([4],[4]),([],[]),([],[]),([],[]),([6,7,8],[6,7,8]),([5,9],[5,9]),([10],[10]),([0,11],[0,11]),([12,9,0,1,2,3,4,5,6,7,8,9,10,11,12],[0,12])])
def spec_l06Tails.B20:List Nat:=[0,0,0,4,14,30,0,0,0,448,1022,2046,4095,8191]
theorem spec_l06Tails.tab20:rtab .any (opsOf Tryz.f47 20) = spec_l06Tails.T20:=by kernel_rfl
theorem spec_l06Tails.bits20:waitsOk spec_l06Tails.T20.2 spec_l06Tails.B20 = true:=by kernel_rfl
set_option maxHeartbeats 8000000 in
set_option maxRecDepth 100000 in
theorem spec_l06Tails.calls (k : Nat) (a0_0 : Int) (A0_1 : Option Addr) (c0_1 : Nat) (l0_1 : List Int) (a1 : Int) (r : List (List Int)) (w : World) (hr0_1 : Kd.C (Kd.int .i64) w A0_1 l0_1.length l0_1) (hc0_1 : l0_1.length ≤ c0_1) (h : spec_l06Tails.f k a0_0 l0_1 a1 = some r) :
  Calls Tryz.prog 47 #[.agg #[.int .i64 a0_0,.slice A0_1 l0_1.length c0_1],.int .i64 a1] w fun e w' => ∃ v0_:Value,e = .returned (v0_) ∧ Kd.N (Kd.slice 2 (Kd.int .i64)) 24 w' w.heap.size (fun k_=>(w.heap.size ≤ k_)) v0_ r ∧ Below w.heap.size w w' := by
 have hu26:=Tryz.underlying26
 have HR0_1:=zA hr0_1
 have HC0_1:=zA hc0_1
 clear hr0_1 hc0_1
 have HB:=zA (kW w.heap.size w)
 have H:=h
 unfold spec_l06Tails.f at H
 clear h
 obtain ⟨t476,A3,H⟩:=zb H
 try dsimp only at H
 obtain ⟨y477,hy477⟩:∃ y_:List Int,y_ = (([]:List Int)):=⟨_,rfl⟩
 replace H:(spec_l06Tails.l0 k a1 t476 y477 0 a0_0 l0_1) = some r:=zy hy477 H
 have Ny477:=zA hy477
 clear hy477
 have H' := zA H
 clear H
 go_enter Tryz.func47,Tryz.ntmps47
 go_wp2_with (first | (refine zBE 2 #[.int .i64 a0_0,.slice A0_1 l0_1.length c0_1] 26 ?_;intro gb475 hg w4 hbox hb;have BK475:=zA (hbox);have GW475:=zA (zBH hg HB.out);have GE475:=zA (zBH hg HB.out);replace HB:=zA (kQ (zQ HB.out) hb);clear hb hbox hg;obtain ⟨hcz5_0,hcz5_1,hfz5_0,hfz5_1⟩:=zB3 BK475.out) | (refine zO (some 16) Tryz.func61 #[.int .i64 a0_0] ?_;(with_reducible refine (spec_l01One.calls a0_0 t476 _ A3.out).mono ?_);rintro e w' ⟨rfl,⟨nd,rfl⟩⟩;refine ⟨_,rfl,?_⟩) | ((with_reducible refine kS (N:=17) rfl ?_);refine Kd.R_lit (Kd.int .i64) _ 2 ?hg (N:=17) ?hd (xs:=([]:List Int)) (inner:=[]) (ok:=fun _=>True) (okp:=fun _=>True) ?hr ?hp (fun _ hk=>hk) trivial (kW _ _) (Nat.le_refl _) (by simp) ?_;(case hd=>rfl);(case hg=>rfl);(case hr=>first | (go_simp;done) | (go_simp;rfl));(case hp=>exact (Reps.none _ _));intro v478 w6 ho7 hb hg_ hnew_;clear hg_ hnew_;(first | rw [← Ny477.out] at ho7 | (simp only [Int.reduceToNat] at ho7;rw [← Ny477.out] at ho7));have HO479:=zA (kI (Kd.R_newM (M:=fun k_=>(w.heap.size ≤ k_)) ho7 (kP (zT HB.out GE475.out)) (fun k_ h_=>h_)) (kP (zT HB.out GE475.out)));replace BK475:=zA (zB1 BK475.out hb);replace HB:=zA (kQ (zT HB.out GE475.out) hb);clear hb ho7))
 go_loopg [6,7] k (fun kq v6 v7 w' => ∃ (x6_1:List Int) (x7_1:Int),v7 = .int .i64 x7_1 ∧ Aside0 (spec_l06Tails.l0 kq a1 t476 x6_1 x7_1 a0_0 l0_1 = some r) ∧ Aside0 (kq ≤ k) ∧ Aside0 (Kd.R (Kd.int .i64) 2 w' w.heap.size (fun k_=>(w.heap.size ≤ k_)) v6 x6_1) ∧ Aside0 (w'.heap[gb475]? = some (.cells #[.int .i64 a0_0,(.slice A0_1 l0_1.length c0_1)] 26 (0,0))) ∧ Aside0 (Below w.heap.size w w'))
 case atStart=>exact ⟨(y477),(0),zs,H', ⟨Nat.le_refl _⟩,⟨zPM HO479.out (fun _ hk=>hk.1)⟩,⟨zR BK475.out⟩,⟨zT HB.out GE475.out⟩⟩
 case round =>
  clear H'
  try clear c4
  try clear c6
  try clear hcz5_0
  try clear hcz5_1
  try clear hfz5_0
  try clear hfz5_1
  obtain ⟨x6_1,x7_1,rfl,HA,HK1,HO_6,BK475,HB⟩:=hrel
  cases gk with
  | zero=>exact absurd HA.out (by simp [spec_l06Tails.l0])
  | succ k1 =>
   have H:=HA.out
   clear HA
   simp only [spec_l06Tails.l0] at H
   by_cases c8:x7_1 < t476
   ·rw [if_pos c8] at H
    have c8b0:decide (x7_1 < t476) = true:=decide_eq_true c8
    clear c8
    by_cases c9:x6_1.length < 17592186044416
    ·rw [if_pos c9] at H
     have LMc9:=zA c9
     clear c9
     obtain ⟨y480,hy480⟩:∃ y_:List Int,y_ = (x6_1 ++ [1]):=⟨_,rfl⟩
     replace H:(spec_l06Tails.l0 k1 a1 t476 y480 (wrap64 (x7_1 + 1)) a0_0 l0_1) = some r:=zy hy480 H
     have Ny480:=zA hy480
     clear hy480
     have H' := zA H
     clear H
     go_wp2_with (first | ((with_reducible refine gate_builtin (b:=.append) (xs:=#[.tmp 23,.tmp 24]) rfl ?_);at_builtin;refine Kd.R_append (Kd.int .i64) (w0:=w) w.heap.size rfl (.tmp 23) (.tmp 24) 24 2 (.int .i64 0) 8 rfl Tryz.underlying24 info2 rfl (by decide) (by omega) u6 x6_1 1 [.int .i64 1] (fun k_=>(w.heap.size ≤ k_)) (fun _=>False) rfl rfl ?aP (fun _ hk=>hk.elim) ?aF ?aO ?aB ?aS ?aL ?_;(case aP=>exact rfl);(case aB=>exact (zT HB.out GE475.out));(case aF=>exact (fun k_ hk=>(Nat.le_trans (kP (zT HB.out GE475.out)) hk)));(case aO=>exact (zP HO_6.out));(case aS=>exact (kP (zT HB.out GE475.out)));(case aL=>have:=LMc9.out;omega);intro v481 w10 ho hb hg hat;rw [← Ny480.out] at ho;replace BK475:=zA (blk_grown (g:=gb475) (o:=.cells #[.int .i64 a0_0,.slice A0_1 l0_1.length c0_1] 26 (0,0)) (zR BK475.out) hg (Kd.R_ne HO_6.out BK475.out (by decide)));replace HB:=zA (hb);have HO482:=zA (ho);clear HO_6;clear ho hb hg hat))
     go_roundg k1
     case measure=>have:=HK1.out;omega
     case rel=>exact ⟨(y480),(wrap64 (x7_1 + 1)),zs,H', ⟨by have:=HK1.out;omega⟩,⟨zP HO482.out⟩,⟨zR BK475.out⟩,⟨zT HB.out GE475.out⟩⟩
    rw [if_neg c9] at H
    exact absurd H (by simp)
   rw [if_neg c8] at H
   have c8b0:decide (x7_1 < t476) = false:=decide_eq_false c8
   clear c8
   obtain ⟨y483,hy483⟩:∃ y_:List (List Int),y_ = (([x6_1]:List (List Int))):=⟨_,rfl⟩
   replace H:(spec_l06Tails.l1 k1 a1 t476 y483 1 a0_0 l0_1) = some r:=zy hy483 H
   have Ny483:=zA hy483
   clear hy483
   have H' := zA H
   clear H
   obtain ⟨Ao11,co11,eo11⟩:=kM HO_6.out
   subst eo11
   go_wp2_with (first | ((with_reducible refine kS (N:=27) rfl ?_);refine Kd.N_lit (Kd.slice 2 (Kd.int .i64)) _ 24 ?hg (N' := 27) ?hd (xs:=([x6_1]:List (List Int))) (inner:=[.slice Ao11 x6_1.length co11]) (ok:=(fun k_=>(w.heap.size ≤ k_) ∧ k_ ≠ gb475)) (okp:=(fun k_=>(w.heap.size ≤ k_) ∧ k_ ≠ gb475)) ?hr ?hp (fun _ hk=>hk) ((show ∀ k_:Nat,(_:Nat) ≤ k_ → (fun k_=>(w.heap.size ≤ k_) ∧ k_ ≠ gb475) k_ from fun k_ hk=>⟨(Nat.le_trans (kP (zT HB.out GE475.out)) hk),jE (g:=gb475) (o:=.cells #[.int .i64 a0_0,.slice A0_1 l0_1.length c0_1] 26 (0,0)) (zR BK475.out) k_ hk⟩) _ (Nat.le_refl _)) (kW _ _) (Nat.le_refl _) (by simp) ?_;(case hd=>rfl);(case hg=>rfl);(case hr=>first | (go_simp;done) | (go_simp;rfl));(case hp=>exact (Reps.one (show Kd.FK (Kd.slice 2 (Kd.int .i64)) _ _ x6_1 [.slice Ao11 x6_1.length co11] from (Kd.FK_slice_mk (kB (kA (ok' := (fun k_=>(w.heap.size ≤ k_) ∧ k_ ≠ gb475)) (kD (HO_6.out) BK475.out (by decide)) (fun k_ hk=>⟨hk.1,hk.2⟩))).2.1 (Kd.R_F (kA (ok' := (fun k_=>(w.heap.size ≤ k_) ∧ k_ ≠ gb475)) (kD (HO_6.out) BK475.out (by decide)) (fun k_ hk=>⟨hk.1,hk.2⟩))))) (Reps.none _ _)));intro v484 w12 ho13 hb hg_ hnew_;clear hg_ hnew_;(first | rw [← Ny483.out] at ho13 | (simp only [Int.reduceToNat] at ho13;rw [← Ny483.out] at ho13));have HO485:=zA (jN ho13 (kP (zT HB.out GE475.out)));replace BK475:=zA (zB1 BK475.out hb);replace HB:=zA (kQ (zT HB.out GE475.out) hb);clear HO_6;clear hb ho13))
   go_loopg [8,9] k1 (fun kq v8 v9 w' => ∃ (x8_2:List (List Int)) (x9_2:Int),v9 = .int .i64 x9_2 ∧ Aside0 (spec_l06Tails.l1 kq a1 t476 x8_2 x9_2 a0_0 l0_1 = some r) ∧ Aside0 (kq ≤ k1) ∧ Aside0 (Kd.N (Kd.slice 2 (Kd.int .i64)) 24 w' w.heap.size (fun k_=>(w.heap.size ≤ k_) ∧ k_ ≠ gb475) v8 x8_2) ∧ Aside0 (w'.heap[gb475]? = some (.cells #[.int .i64 a0_0,(.slice A0_1 l0_1.length c0_1)] 26 (0,0))) ∧ Aside0 (Below w.heap.size w w'))
   case atStart=>exact ⟨(y483),(1),zs,H', ⟨Nat.le_refl _⟩,⟨zPN HO485.out⟩,⟨zR BK475.out⟩,⟨zT HB.out GE475.out⟩⟩
   case round =>
    clear H'
    try clear c4
    try clear c6
    try clear c8
    try clear c9
    try clear hcz5_0
    try clear hcz5_1
    try clear hfz5_0
    try clear hfz5_1
    obtain ⟨x8_2,x9_2,rfl,HA,HK2,HO_8,BK475,HB⟩:=hrel
    cases gk with
    | zero=>exact absurd HA.out (by simp [spec_l06Tails.l1])
    | succ k2 =>
     have H:=HA.out
     clear HA
     simp only [spec_l06Tails.l1] at H
     by_cases c14:x9_2 ≤ a1
     ·rw [if_pos c14] at H
      have c14b0:decide (x9_2 ≤ a1) = true:=decide_eq_true c14
      clear c14
      obtain ⟨y486,hy486⟩:∃ y_:List Int,y_ = (([]:List Int)):=⟨_,rfl⟩
      replace H:(spec_l06Tails.l2 k2 a1 t476 x8_2 x9_2 y486 0 a0_0 l0_1) = some r:=zy hy486 H
      have Ny486:=zA hy486
      clear hy486
      have H' := zA H
      clear H
      go_wp2_with (first | ((with_reducible refine kS (N:=33) rfl ?_);refine Kd.R_lit (Kd.int .i64) _ 2 ?hg (N:=33) ?hd (xs:=([]:List Int)) (inner:=[]) (ok:=fun _=>True) (okp:=fun _=>True) ?hr ?hp (fun _ hk=>hk) trivial (kW _ _) (Nat.le_refl _) (by simp) ?_;(case hd=>rfl);(case hg=>rfl);(case hr=>first | (go_simp;done) | (go_simp;rfl));(case hp=>exact (Reps.none _ _));intro v487 w15 ho16 hb hg_ hnew_;clear hg_ hnew_;(first | rw [← Ny486.out] at ho16 | (simp only [Int.reduceToNat] at ho16;rw [← Ny486.out] at ho16));replace HO_8:=zA (Kd.N_elder' (zPN HO_8.out) (kC ho16) hb);have HO488:=zA (kI (Kd.R_newM (M:=fun k_=>(w.heap.size ≤ k_)) ho16 (kP (zT HB.out GE475.out)) (fun k_ h_=>h_)) (kP (zT HB.out GE475.out)));replace BK475:=zA (zB1 BK475.out hb);replace HB:=zA (kQ (zT HB.out GE475.out) hb);clear hb ho16))
      go_loopg [10,11] k2 (fun kq v10 v11 w' => ∃ (x10_3:List Int) (x11_3:Int),v11 = .int .i64 x11_3 ∧ Aside0 (spec_l06Tails.l2 kq a1 t476 x8_2 x9_2 x10_3 x11_3 a0_0 l0_1 = some r) ∧ Aside0 (kq ≤ k2) ∧ Aside0 (Kd.N (Kd.slice 2 (Kd.int .i64)) 24 w' w.heap.size (fun k_=>(w.heap.size ≤ k_) ∧ some k_ ≠ (v10:Value).ownBlock ∧ k_ ≠ gb475) u8 x8_2) ∧ Aside0 (Kd.R (Kd.int .i64) 2 w' w.heap.size (fun k_=>(w.heap.size ≤ k_)) v10 x10_3) ∧ Aside0 (w'.heap[gb475]? = some (.cells #[.int .i64 a0_0,(.slice A0_1 l0_1.length c0_1)] 26 (0,0))) ∧ Aside0 (Below w.heap.size w w'))
      case atStart=>exact ⟨(y486),(0),zs,H', ⟨Nat.le_refl _⟩,⟨by (with_reducible repeat (first | apply Kd.N_alloc | apply Kd.N_drewN | apply Kd.N_drew));exact Kd.N_mono HO_8.out (fun _ hk=>⟨hk.1.1,⟨hk.2,hk.1.2⟩⟩)⟩,⟨zPM HO488.out (fun _ hk=>hk.1)⟩,⟨zR BK475.out⟩,⟨zT HB.out GE475.out⟩⟩
      case round =>
       clear H'
       try clear c1
       try clear c4
       try clear c6
       try clear c8
       try clear c9
       try clear c14
       try clear hcz5_0
       try clear hcz5_1
       try clear hfz5_0
       try clear hfz5_1
       obtain ⟨x10_3,x11_3,rfl,HA,HK3,HO_8,HO_10,BK475,HB⟩:=hrel
       cases gk with
       | zero=>exact absurd HA.out (by simp [spec_l06Tails.l2])
       | succ k3 =>
        have H:=HA.out
        clear HA
        simp only [spec_l06Tails.l2] at H
        by_cases c17:x11_3 < t476
        ·rw [if_pos c17] at H
         have c17b0:decide (x11_3 < t476) = true:=decide_eq_true c17
         clear c17
         have H' := zA H
         clear H
         go_wp2
         go_loopg [12,13] k3 (fun kq v12 v13 w' => ∃ (x12_4:Int) (x13_4:Int),v12 = .int .i64 x12_4 ∧ v13 = .int .i64 x13_4 ∧ Aside0 (spec_l06Tails.l3 kq a1 t476 x8_2 x9_2 x10_3 x11_3 x12_4 x13_4 a0_0 l0_1 = some r) ∧ Aside0 (kq ≤ k3) ∧ Aside0 (Kd.N (Kd.slice 2 (Kd.int .i64)) 24 w' w.heap.size (fun k_=>(w.heap.size ≤ k_) ∧ some k_ ≠ (u10:Value).ownBlock ∧ k_ ≠ gb475) u8 x8_2) ∧ Aside0 (Kd.R (Kd.int .i64) 2 w' w.heap.size (fun k_=>(w.heap.size ≤ k_)) u10 x10_3) ∧ Aside0 (w'.heap[gb475]? = some (.cells #[.int .i64 a0_0,(.slice A0_1 l0_1.length c0_1)] 26 (0,0))) ∧ Aside0 (Below w.heap.size w w'))
         case atStart=>exact ⟨(0),(0),zs,zs,H', ⟨Nat.le_refl _⟩,⟨zPN HO_8.out⟩,⟨zP HO_10.out⟩,⟨zR BK475.out⟩,⟨zT HB.out GE475.out⟩⟩
         case round =>
          clear H'
          try clear c1
          try clear c4
          try clear c6
          try clear c8
          try clear c9
          try clear c14
          try clear c17
          try clear hcz5_0
          try clear hcz5_1
          try clear hfz5_0
          try clear hfz5_1
          obtain ⟨x12_4,x13_4,rfl,rfl,HA,HK4,HO_8,HO_10,BK475,HB⟩:=hrel
          cases gk with
          | zero=>exact absurd HA.out (by simp [spec_l06Tails.l3])
          | succ k4 =>
           have H:=HA.out
           clear HA
           simp only [spec_l06Tails.l3] at H
           by_cases c18:x13_4 < a0_0
           ·rw [if_pos c18] at H
            have c18b0:decide (x13_4 < a0_0) = true:=decide_eq_true c18
            clear c18
            obtain ⟨t498,A19,H⟩:=zb H
            try dsimp only at H
            by_cases c20:t498 = true
            ·subst c20
             rw [if_pos rfl] at H
             have H' := zA H
             clear H
             obtain ⟨hcz21_0,hcz21_1,hfz21_0,hfz21_1⟩:=zB3 BK475.out
             go_wp2_with (first | (refine zO (some 47) Tryz.func70 #[.int .i64 x11_3,.int .i64 x13_4] ?_;(with_reducible refine (spec_l01Bit.calls x11_3 x13_4 true _ A19.out).mono ?_);rintro e w' ⟨rfl,⟨nd,rfl⟩⟩;refine ⟨_,rfl,?_⟩))
             go_roundg k4
             case measure=>have:=HK1.out;have:=HK2.out;have:=HK3.out;have:=HK4.out;omega
             case rel=>exact ⟨(x12_4),(wrap64 (x13_4 + 1)),zs,zs,H', ⟨by have:=HK1.out;have:=HK2.out;have:=HK3.out;have:=HK4.out;omega⟩,⟨zPN HO_8.out⟩,⟨zP HO_10.out⟩,⟨zR BK475.out⟩,⟨zT HB.out GE475.out⟩⟩
            replace c20:=Bool.eq_false_iff.mpr c20
            subst c20
            rw [if_neg (show ¬ (false = true) by decide)] at H
            obtain ⟨ji22,hji22⟩:∃ j_:Int,(wrap64 (x9_2 - 1)) = j_:=⟨_,rfl⟩
            replace H:(if 0 ≤ (ji22) then (if (ji22) < (x8_2.length:Int) then ((spec_l06After.f a0_0 l0_1 x11_3 x13_4).bind fun t500=>(if 0 ≤ t500 then (if t500 < ((rd_L2 x8_2 (ji22)).length:Int) then (spec_l06Tails.l3 k4 a1 t476 x8_2 x9_2 x10_3 x11_3 (wrap64 (x12_4 + (rd (rd_L2 x8_2 (ji22)) t500))) (wrap64 (x13_4 + 1)) a0_0 l0_1) else (none)) else (none))) else (none)) else (none)) = some r:=by first | (rw [hji22] at H;exact H) | (simp only [hji22] at H ⊢;exact H)
            (try rw [hji22] at A19)
            have hji22w:(IntKind.i64.wrap (x9_2 - 1)) = ji22:=(i64_w _).trans hji22
            by_cases c23:0 ≤ (ji22)
            ·rw [if_pos c23] at H
             have c23b0:decide (0 ≤ (ji22)) = true:=decide_eq_true c23
             clear c23
             by_cases c24:(ji22) < (x8_2.length:Int)
             ·rw [if_pos c24] at H
              have c24b0:decide ((ji22) < (x8_2.length:Int)) = true:=decide_eq_true c24
              clear c24
              obtain ⟨t500,A25,H⟩:=zb H
              try dsimp only at H
              by_cases c26:0 ≤ t500
              ·rw [if_pos c26] at H
               have c26b0:decide (0 ≤ t500) = true:=decide_eq_true c26
               clear c26
               by_cases c27:t500 < ((rd_L2 x8_2 (ji22)).length:Int)
               ·rw [if_pos c27] at H
                have c27b0:decide (t500 < ((rd_L2 x8_2 (ji22)).length:Int)) = true:=decide_eq_true c27
                clear c27
                have H' := zA H
                clear H
                obtain ⟨hcz28_0,hcz28_1,hfz28_0,hfz28_1⟩:=zB3 BK475.out
                try go_wp2_with (first | (refine zO (some 47) Tryz.func70 #[.int .i64 x11_3,.int .i64 x13_4] ?_;(with_reducible refine (spec_l01Bit.calls x11_3 x13_4 false _ A19.out).mono ?_);rintro e w' ⟨rfl,⟨nd,rfl⟩⟩;refine ⟨_,rfl,?_⟩))
                (try (rw [drewN_self wr];generalize hq_:World.drewN wr _ = wr;have n0_:Aside0 (Kd.R (Kd.int .i64) 2 wr w.heap.size (fun k_=>(w.heap.size ≤ k_)) u10 x10_3):=⟨by rw [← hq_];exact (zP HO_10.out)⟩;have n1_:Aside0 (Kd.N (Kd.slice 2 (Kd.int .i64)) 24 wr w.heap.size (fun k_=>(w.heap.size ≤ k_) ∧ some k_ ≠ (u10:Value).ownBlock ∧ k_ ≠ gb475) u8 x8_2):=⟨by rw [← hq_];exact (zPN HO_8.out)⟩;have n2_:Aside0 (wr.heap[gb475]? = some (.cells #[.int .i64 a0_0,.slice A0_1 l0_1.length c0_1] 26 (0,0))):=⟨by rw [← hq_];exact (zR BK475.out)⟩;have n3_:Aside0 (Below w.heap.size w wr):=⟨by rw [← hq_];exact (zT HB.out GE475.out)⟩;clear HO_10 HO_8 BK475 HB hq_;have HO_10:=n0_;have HO_8:=n1_;have BK475:=n2_;have HB:=n3_;clear n0_ n1_ n2_ n3_))
                replace HO_8:=zA (Kd.N_drew HO_8.out)
                replace HO_10:=zA (zH HO_10.out)
                replace BK475:=zA (zK BK475.out)
                replace HB:=zA (zD HB.out)
                obtain ⟨Ao30,co30,eo30⟩:=Kd.N_slice HO_8.out
                (first | subst eo30 | (injection eo30 with f1_ f2_ f3_;have f4_:=f1_.symm;have f5_:=f3_.symm;clear f1_ f2_ f3_;subst f4_;subst f5_))
                have p499:0 ≤ ((ji22):Int):=zd
                have q499:(ji22) < (x8_2.length:Int):=zd
                obtain ⟨ad499,A499_0,c499_0,e499,hx499_0,hl499_0,hi499_0⟩:=at_L2 (Kd.N_reads' HO_8.out).2.2 (ji22) p499 q499
                cases e499
                obtain ⟨ce499,hce499,hMe499,hcc499⟩:=Kd.N_get HO_8.out [] (ji22) p499 (by first | exact q499 | exact zd | (have e_:=(Kd.N_reads' HO_8.out).1;omega))
                obtain ⟨ua499_0,uc499_0,rfl,ul499_0,ge499_0⟩:=Kd.FK_slice_open hMe499
                have hv499_0:=hcc499 0 _ rfl
                rw [Nat.add_zero,show ((Kd.slice 2 (Kd.int .i64))).sz = 1 from rfl,Nat.mul_one] at hv499_0
                replace hv499_0:=Option.some.inj (hv499_0.symm.trans hx499_0)
                injection hv499_0 with hva_ hvn_ hvc_
                rw [hva_] at ge499_0
                rw [hvc_] at ul499_0
                have HL499_0:=zA (show Kd.V (Kd.int .i64) 2 _ w.heap.size _ _ (rd_L2 x8_2 (ji22)) from Kd.V_mk ul499_0 ge499_0)
                clear hva_ hvn_ hvc_ ge499_0 ul499_0 hcc499 hce499
                have HR499_0:=zA hi499_0
                have HC499_0:=zA hl499_0
                clear hi499_0 hl499_0
                replace p499:=eq_true p499
                replace q499:=eq_true q499
                have p501:0 ≤ (t500:Int):=zd
                have q501:t500 < ((rd_L2 x8_2 (ji22)).length:Int):=zd
                obtain ⟨ad501,e501,hx501_0⟩:=Kd.at_int (by repeat (first | (with_reducible exact HR499_0.out) | (with_reducible refine Kd.C_alloc ?_ _) | (with_reducible refine Kd.C_drewN ?_ _) | (with_reducible refine Kd.C_drew ?_) | exact HR499_0.out)) t500 p501 q501
                cases e501
                replace p501:=eq_true p501
                replace q501:=eq_true q501
                refine start_ (n:=14) (S:=fun w' => w'.cell? ⟨gb475,0,none⟩ = some (.int .i64 a0_0) ∧ w'.cell? ⟨gb475,1,none⟩ = some (.slice A0_1 l0_1.length c0_1) ∧ w'.cell? (ad499.add ((ji22)).toNat) = some (.slice (some ad501) (rd_L2 x8_2 (ji22)).length c499_0) ∧ w'.cell? (ad501.add (t500).toNat) = some (.int .i64 (rd (rd_L2 x8_2 (ji22)) t500))) (ds:=[]) #[false,false,false,false,false,false,false,false,false,false,false,false,false,false] (by kernel_rfl) rfl rfl ⟨(kV BK475.out 0).trans rfl,(kV BK475.out 1).trans rfl,hx499_0,hx501_0⟩ (fun hHeld=>?_);refine with_tabW spec_l06Tails.tab20 spec_l06Tails.bits20 (fun HT_ HW_=>?_)
                generalize wr.drew = w29 at HO_8 HO_10 BK475 HB HL499_0 HR499_0 hx499_0 hx501_0 hHeld ⊢
                refine zp 0 (some 49) #[true,false,false,false,false,false,false,false,false,false,false,false,false,false] HT_.out ?_
                refine zp 1 (some 50) #[true,true,false,false,false,false,false,false,false,false,false,false,false,false] HT_.out ?_
                refine zp 2 (some 51) #[true,true,true,false,false,false,false,false,false,false,false,false,false,false] HT_.out ?_
                refine zp 3 (some 52) #[true,true,true,true,false,false,false,false,false,false,false,false,false,false] HT_.out ?_
                refine zp 4 (some 53) #[true,true,true,true,true,false,false,false,false,false,false,false,false,false] HT_.out ?_
                refine zp 7 (some 56) #[true,true,true,true,true,false,false,true,false,false,false,false,false,false] HT_.out ?_
                refine zp 8 (some 57) #[true,true,true,true,true,false,false,true,true,false,false,false,false,false] HT_.out ?_
                refine zf 5 (some 54) #[true,true,true,true,true,true,false,true,true,false,false,false,false,false] HT_.out HW_.out hHeld ?_
                refine zf 6 (some 55) #[true,true,true,true,true,true,true,true,true,false,false,false,false,false] HT_.out HW_.out hHeld ?_
                refine one_ (i:=9) (N:=some 58) #[true,true,true,true,true,true,true,true,true,true,false,false,false,false] rfl rfl (one_of HT_.out (by kernel_rfl)) (by decide) (fun K hK=>?_)
                refine goes_ Tryz.func71 (by kernel_rfl) rfl #[.agg #[.int .i64 a0_0,.slice A0_1 l0_1.length c0_1],.int .i64 x11_3,.int .i64 x13_4] (by rfl) rfl rfl zg ?_
                with_reducible refine (spec_l06After.calls a0_0 _ _ l0_1 x11_3 x13_4 t500 _ ?side1 ?side2 A25.out).mono ?_
                (case side1=>exact zS (kO HR0_1.out HB.out))
                (case side2=>exact HC0_1.out)
                rintro e w31 ⟨rfl,hb⟩
                have HS2_:=(hb.cell (jG _ _ (hHeld.2.2.1))).trans (hHeld.2.2.1)
                have HS3_:=(hb.cell (jG _ _ (hHeld.2.2.2))).trans (hHeld.2.2.2)
                refine ⟨_,rfl,?_⟩
                replace HO_8:=zA (kZ (zPN HO_8.out) hb)
                replace HO_10:=zA (kL (zP HO_10.out) hb)
                replace HL499_0:=zA (kG (zPV HL499_0.out) hb)
                replace BK475:=zA (zB1 BK475.out hb)
                replace HR499_0:=zA (kO (by repeat (first | (with_reducible exact HR499_0.out) | (with_reducible refine Kd.C_alloc ?_ _) | (with_reducible refine Kd.C_drewN ?_ _) | (with_reducible refine Kd.C_drew ?_) | exact HR499_0.out)) hb)
                replace HB:=zA (kQ (zT HB.out GE475.out) hb)
                (try clear hb)
                (try clear hb2)
                (try clear hk)
                (try clear hi)
                (try clear hgw)
                refine hK.out _ _ ⟨(kV BK475.out 0).trans rfl,(kV BK475.out 1).trans rfl,HS2_,HS3_⟩ (fun hHeld=>?_)
                clear hK K
                refine norm_ (a' := ?_) ?_ ?_
                rotate_left
                ·show Act.put _ (some 58) _ = _
                 simp only [Act.put,zL,zM,zN,i64_w,i32_w]
                 rfl
                refine zp 10 (some 59) #[true,true,true,true,true,true,true,true,true,true,true,false,false,false] HT_.out ?_
                refine zf 11 (some 60) #[true,true,true,true,true,true,true,true,true,true,true,true,false,false] HT_.out HW_.out hHeld ?_
                refine zp 12 (some 61) #[true,true,true,true,true,true,true,true,true,true,true,true,true,false] HT_.out ?_
                refine zp 13 (some 12) #[true,true,true,true,true,true,true,true,true,true,true,true,true,true] HT_.out ?_
                refine done_ (done_of HT_.out (by kernel_rfl)) ?_
                try go_wp2
                go_roundg k4
                case measure=>have:=HK1.out;have:=HK2.out;have:=HK3.out;have:=HK4.out;omega
                case rel=>exact ⟨(wrap64 (x12_4 + (rd (rd_L2 x8_2 (ji22)) t500))),(wrap64 (x13_4 + 1)),(by first | rfl | (simp;done) | (simp only [← hji22] <;> (first | rfl | simp)) | (simp [*];done)),zs,H', ⟨by have:=HK1.out;have:=HK2.out;have:=HK3.out;have:=HK4.out;omega⟩,⟨zPN HO_8.out⟩,⟨zP HO_10.out⟩,⟨zR BK475.out⟩,⟨zT HB.out GE475.out⟩⟩
               rw [if_neg c27] at H
               exact absurd H (by simp)
              rw [if_neg c26] at H
              exact absurd H (by simp)
             rw [if_neg c24] at H
             exact absurd H (by simp)
            rw [if_neg c23] at H
            exact absurd H (by simp)
           rw [if_neg c18] at H
           have c18b0:decide (x13_4 < a0_0) = false:=decide_eq_false c18
           clear c18
           by_cases c32:x12_4 > 1000000000000000
           ·rw [if_pos c32] at H
            have c32b0:decide (1000000000000000 < x12_4) = true:=decide_eq_true c32
            clear c32
            by_cases c33:x10_3.length < 17592186044416
            ·rw [if_pos c33] at H
             have LMc33:=zA c33
             clear c33
             obtain ⟨y492,hy492⟩:∃ y_:List Int,y_ = (x10_3 ++ [1000000000000001]):=⟨_,rfl⟩
             replace H:(spec_l06Tails.l2 k4 a1 t476 x8_2 x9_2 y492 (wrap64 (x11_3 + 1)) a0_0 l0_1) = some r:=zy hy492 H
             have Ny492:=zA hy492
             clear hy492
             have H' := zA H
             clear H
             obtain ⟨hcz34_0,hcz34_1,hfz34_0,hfz34_1⟩:=zB3 BK475.out
             go_wp2_with (first | ((with_reducible refine gate_builtin (b:=.append) (xs:=#[.tmp 64,.tmp 66]) rfl ?_);at_builtin;refine Kd.R_append (Kd.int .i64) (w0:=w) w.heap.size rfl (.tmp 64) (.tmp 66) 24 2 (.int .i64 0) 8 rfl Tryz.underlying24 info2 rfl (by decide) (by omega) u10 x10_3 1000000000000001 [.int .i64 1000000000000001] (fun k_=>(w.heap.size ≤ k_)) (fun _=>False) rfl rfl ?aP (fun _ hk=>hk.elim) ?aF ?aO ?aB ?aS ?aL ?_;(case aP=>exact rfl);(case aB=>exact (zT HB.out GE475.out));(case aF=>exact (fun k_ hk=>(Nat.le_trans (kP (zT HB.out GE475.out)) hk)));(case aO=>exact (zP HO_10.out));(case aS=>exact (kP (zT HB.out GE475.out)));(case aL=>have:=LMc33.out;omega);intro v493 w35 ho hb hg hat;rw [← Ny492.out] at ho;replace HO_8:=zA (Kd.N_afterv (ok:=(fun k_=>(w.heap.size ≤ k_) ∧ k_ ≠ gb475)) (by (with_reducible repeat (first | apply Kd.N_alloc | apply Kd.N_drewN | apply Kd.N_drew));exact Kd.N_mono HO_8.out (fun _ hk=>⟨⟨hk.1,hk.2.2⟩,hk.2.1⟩)) hg hat);replace BK475:=zA (blk_grown (g:=gb475) (o:=.cells #[.int .i64 a0_0,.slice A0_1 l0_1.length c0_1] 26 (0,0)) (zR BK475.out) hg (Kd.R_ne HO_10.out BK475.out (by decide)));replace HB:=zA (hb);have HO494:=zA (ho);clear HO_10;clear ho hb hg hat))
             go_roundg k4
             case measure=>have:=HK1.out;have:=HK2.out;have:=HK3.out;have:=HK4.out;omega
             case rel=>exact ⟨(y492),(wrap64 (x11_3 + 1)),zs,H', ⟨by have:=HK1.out;have:=HK2.out;have:=HK3.out;have:=HK4.out;omega⟩,⟨by (with_reducible repeat (first | apply Kd.N_alloc | apply Kd.N_drewN | apply Kd.N_drew));exact Kd.N_mono HO_8.out (fun _ hk=>⟨hk.1.1,⟨hk.2,hk.1.2⟩⟩)⟩,⟨zP HO494.out⟩,⟨zR BK475.out⟩,⟨zT HB.out GE475.out⟩⟩
            rw [if_neg c33] at H
            exact absurd H (by simp)
           rw [if_neg c32] at H
           have c32b0:decide (1000000000000000 < x12_4) = false:=decide_eq_false c32
           clear c32
           by_cases c36:x10_3.length < 17592186044416
           ·rw [if_pos c36] at H
            have LMc36:=zA c36
            clear c36
            obtain ⟨y495,hy495⟩:∃ y_:List Int,y_ = (x10_3 ++ [x12_4]):=⟨_,rfl⟩
            replace H:(spec_l06Tails.l2 k4 a1 t476 x8_2 x9_2 y495 (wrap64 (x11_3 + 1)) a0_0 l0_1) = some r:=zy hy495 H
            have Ny495:=zA hy495
            clear hy495
            have H' := zA H
            clear H
            obtain ⟨hcz37_0,hcz37_1,hfz37_0,hfz37_1⟩:=zB3 BK475.out
            go_wp2_with (first | ((with_reducible refine gate_builtin (b:=.append) (xs:=#[.tmp 64,.tmp 66]) rfl ?_);at_builtin;refine Kd.R_append (Kd.int .i64) (w0:=w) w.heap.size rfl (.tmp 64) (.tmp 66) 24 2 (.int .i64 0) 8 rfl Tryz.underlying24 info2 rfl (by decide) (by omega) u10 x10_3 x12_4 [.int .i64 x12_4] (fun k_=>(w.heap.size ≤ k_)) (fun _=>False) rfl rfl ?aP (fun _ hk=>hk.elim) ?aF ?aO ?aB ?aS ?aL ?_;(case aP=>exact rfl);(case aB=>exact (zT HB.out GE475.out));(case aF=>exact (fun k_ hk=>(Nat.le_trans (kP (zT HB.out GE475.out)) hk)));(case aO=>exact (zP HO_10.out));(case aS=>exact (kP (zT HB.out GE475.out)));(case aL=>have:=LMc36.out;omega);intro v496 w38 ho hb hg hat;rw [← Ny495.out] at ho;replace HO_8:=zA (Kd.N_afterv (ok:=(fun k_=>(w.heap.size ≤ k_) ∧ k_ ≠ gb475)) (by (with_reducible repeat (first | apply Kd.N_alloc | apply Kd.N_drewN | apply Kd.N_drew));exact Kd.N_mono HO_8.out (fun _ hk=>⟨⟨hk.1,hk.2.2⟩,hk.2.1⟩)) hg hat);replace BK475:=zA (blk_grown (g:=gb475) (o:=.cells #[.int .i64 a0_0,.slice A0_1 l0_1.length c0_1] 26 (0,0)) (zR BK475.out) hg (Kd.R_ne HO_10.out BK475.out (by decide)));replace HB:=zA (hb);have HO497:=zA (ho);clear HO_10;clear ho hb hg hat))
            go_roundg k4
            case measure=>have:=HK1.out;have:=HK2.out;have:=HK3.out;have:=HK4.out;omega
            case rel=>exact ⟨(y495),(wrap64 (x11_3 + 1)),zs,H', ⟨by have:=HK1.out;have:=HK2.out;have:=HK3.out;have:=HK4.out;omega⟩,⟨by (with_reducible repeat (first | apply Kd.N_alloc | apply Kd.N_drewN | apply Kd.N_drew));exact Kd.N_mono HO_8.out (fun _ hk=>⟨hk.1.1,⟨hk.2,hk.1.2⟩⟩)⟩,⟨zP HO497.out⟩,⟨zR BK475.out⟩,⟨zT HB.out GE475.out⟩⟩
           rw [if_neg c36] at H
           exact absurd H (by simp)
        rw [if_neg c17] at H
        have c17b0:decide (x11_3 < t476) = false:=decide_eq_false c17
        clear c17
        by_cases c39:x8_2.length < 5864062014805
        ·rw [if_pos c39] at H
         have LMc39:=zA c39
         clear c39
         obtain ⟨y489,hy489⟩:∃ y_:List (List Int),y_ = (x8_2 ++ [x10_3]):=⟨_,rfl⟩
         replace H:(spec_l06Tails.l1 k3 a1 t476 y489 (wrap64 (x9_2 + 1)) a0_0 l0_1) = some r:=zy hy489 H
         have Ny489:=zA hy489
         clear hy489
         have H' := zA H
         clear H
         obtain ⟨Ao41,co41,eo41⟩:=kM HO_10.out
         subst eo41
         go_wp2_with (first | ((with_reducible refine gate_builtin (b:=.append) (xs:=#[.tmp 68,.tmp 70]) rfl ?_);at_builtin;refine Kd.N_append (Kd.slice 2 (Kd.int .i64)) (w0:=w) w.heap.size rfl (.tmp 68) (.tmp 70) 37 24 (.slice none 0 0) 24 rfl Tryz.underlying37 info24 rfl (by decide) (by omega) u8 x8_2 x10_3 [.slice Ao41 x10_3.length co41] (fun k_=>(w.heap.size ≤ k_) ∧ k_ ≠ gb475) (fun k_=>((fun k_=>(w.heap.size ≤ k_) ∧ k_ ≠ gb475)) k_ ∧ some k_ ≠ (u8:Value).ownBlock) rfl rfl ?aP (fun _ hk=>hk) ?aF ?aO ?aB ?aS ?aL ?_;(case aP=>exact (Kd.FK_slice_mk (kB (kA (ok' := (fun k_=>((fun k_=>(w.heap.size ≤ k_) ∧ k_ ≠ gb475)) k_ ∧ some k_ ≠ (u8:Value).ownBlock)) (kD (Kd.R_apart' (HO_10.out) (Kd.N_typed HO_8.out) (by decide)) BK475.out (by decide)) (fun k_ hk=>⟨⟨hk.1.1,hk.2⟩,hk.1.2⟩))).2.1 (Kd.R_F (kA (ok' := (fun k_=>((fun k_=>(w.heap.size ≤ k_) ∧ k_ ≠ gb475)) k_ ∧ some k_ ≠ (u8:Value).ownBlock)) (kD (Kd.R_apart' (HO_10.out) (Kd.N_typed HO_8.out) (by decide)) BK475.out (by decide)) (fun k_ hk=>⟨⟨hk.1.1,hk.2⟩,hk.1.2⟩)))));(case aB=>exact (zT HB.out GE475.out));(case aF=>exact (fun k_ hk=>⟨(Nat.le_trans (kP (zT HB.out GE475.out)) hk),jE (g:=gb475) (o:=.cells #[.int .i64 a0_0,.slice A0_1 l0_1.length c0_1] 26 (0,0)) (zR BK475.out) k_ hk⟩));(case aO=>exact (by (with_reducible repeat (first | apply Kd.N_alloc | apply Kd.N_drewN | apply Kd.N_drew));exact Kd.N_mono HO_8.out (fun _ hk=>⟨hk.1,hk.2.2⟩)));(case aS=>exact (kP (zT HB.out GE475.out)));(case aL=>have:=LMc39.out;omega);intro v490 w40 ho hb hg hat;rw [← Ny489.out] at ho;replace BK475:=zA (blk_grown (g:=gb475) (o:=.cells #[.int .i64 a0_0,.slice A0_1 l0_1.length c0_1] 26 (0,0)) (zR BK475.out) hg (Kd.N_ne HO_8.out BK475.out (by decide)));replace HB:=zA (hb);have HO491:=zA (ho);clear HO_8 HO_10;clear ho hb hg hat))
         go_roundg k3
         case measure=>have:=HK1.out;have:=HK2.out;have:=HK3.out;omega
         case rel=>exact ⟨(y489),(wrap64 (x9_2 + 1)),zs,H', ⟨by have:=HK1.out;have:=HK2.out;have:=HK3.out;omega⟩,⟨zPN HO491.out⟩,⟨zR BK475.out⟩,⟨zT HB.out GE475.out⟩⟩
        rw [if_neg c39] at H
        exact absurd H (by simp)
     rw [if_neg c14] at H
     have c14b0:decide (x9_2 ≤ a1) = false:=decide_eq_false c14
     clear c14
     obtain rfl:=Option.some.inj H
     go_wp2
     go_ret
     exact ⟨_,zr,by (with_reducible repeat (first | apply Kd.N_alloc | apply Kd.N_drewN | apply Kd.N_drew));exact Kd.N_mono HO_8.out (fun _ hk=>hk.1),zT HB.out GE475.out⟩
def spec_l06Many.f (k:Nat) (a0_0:Int) (l0_1:List Int) (a1:Int):Option (Int):=(spec_l06Tails.f k a0_0 l0_1 a1).bind fun t503=>(if 0 ≤ a1 then (if a1 < (t503.length:Int) then (if 0 < ((rd_L2 t503 a1).length:Int) then (if (rd (rd_L2 t503 a1) 0) > 1000000000000000 then (some 3) else (some 0)) else (none)) else (none)) else (none))
set_option maxHeartbeats 8000000 in
set_option maxRecDepth 100000 in
theorem spec_l06Many.calls (k : Nat) (a0_0 : Int) (A0_1 : Option Addr) (c0_1 : Nat) (l0_1 : List Int) (a1 : Int) (r : Int) (w : World) (hr0_1 : Kd.C (Kd.int .i64) w A0_1 l0_1.length l0_1) (hc0_1 : l0_1.length ≤ c0_1) (h : spec_l06Many.f k a0_0 l0_1 a1 = some r) :
  Calls Tryz.prog 46 #[.agg #[.int .i64 a0_0,.slice A0_1 l0_1.length c0_1],.int .i64 a1] w fun e w' => e = .returned (.int .i64 r) ∧ Below w.heap.size w w' := by
 have hu26:=Tryz.underlying26
 have HR0_1:=zA hr0_1
 have HC0_1:=zA hc0_1
 clear hr0_1 hc0_1
 have HB:=zA (kW w.heap.size w)
 have H:=h
 unfold spec_l06Many.f at H
 clear h
 obtain ⟨t503,A3,H⟩:=zb H
 try dsimp only at H
 by_cases c4:0 ≤ a1
 ·rw [if_pos c4] at H
  have c4b0:decide (0 ≤ a1) = true:=decide_eq_true c4
  clear c4
  by_cases c5:a1 < (t503.length:Int)
  ·rw [if_pos c5] at H
   have c5b0:decide (a1 < (t503.length:Int)) = true:=decide_eq_true c5
   clear c5
   by_cases c6:0 < ((rd_L2 t503 a1).length:Int)
   ·rw [if_pos c6] at H
    have c6b0:decide (0 < ((rd_L2 t503 a1).length:Int)) = true:=decide_eq_true c6
    have c6b1:decide (0 < (rd_L2 t503 a1).length) = true:=decide_eq_true (by omega)
    clear c6
    by_cases c7:(rd (rd_L2 t503 a1) 0) > 1000000000000000
    ·rw [if_pos c7] at H
     have c7b0:decide (1000000000000000 < (rd (rd_L2 t503 a1) 0)) = true:=decide_eq_true c7
     clear c7
     obtain rfl:=Option.some.inj H
     go_enter Tryz.func46,Tryz.ntmps46
     go_wp2_with (first | (refine zBE 2 #[.int .i64 a0_0,.slice A0_1 l0_1.length c0_1] 26 ?_;intro gb502 hg w8 hbox hb;have BK502:=zA (hbox);have GW502:=zA (zBH hg HB.out);have GE502:=zA (zBH hg HB.out);replace HB:=zA (kQ (zQ HB.out) hb);clear hb hbox hg;obtain ⟨hcz9_0,hcz9_1,hfz9_0,hfz9_1⟩:=zB3 BK502.out) | (refine zO (some 7) Tryz.func47 #[.agg #[.int .i64 a0_0,.slice A0_1 l0_1.length c0_1],.int .i64 a1] ?_;(with_reducible refine (spec_l06Tails.calls k a0_0 _ _ l0_1 a1 t503 _ ?side1 ?side2 A3.out).mono ?_);(case side1=>exact zS (kO HR0_1.out HB.out));(case side2=>exact HC0_1.out);rintro e w10 ⟨v504,rfl,ho0,hb⟩;refine ⟨_,rfl,?_⟩;have HO505:=zA (jN (Kd.N_mono (ok' := fun k_=>k_ ≠ gb502) ho0 (fun k_ hk_=>(jE (g:=gb502) (o:=.cells #[.int .i64 a0_0,.slice A0_1 l0_1.length c0_1] 26 (0,0)) (zR BK502.out) k_ hk_))) (kP (zT HB.out GE502.out)));replace BK502:=zA (zB1 BK502.out hb);replace HB:=zA (kQ (zT HB.out GE502.out) hb);(try clear hb);(try clear ho0);obtain ⟨Ao11,co11,eo11⟩:=Kd.N_slice HO505.out;subst eo11;have p506:0 ≤ (a1:Int):=zd;have q506:a1 < (t503.length:Int):=zd;obtain ⟨ad506,A506_0,c506_0,e506,hx506_0,hl506_0,hi506_0⟩:=at_L2 (Kd.N_reads' HO505.out).2.2 a1 p506 q506;cases e506;obtain ⟨ce506,hce506,hMe506,hcc506⟩:=Kd.N_get HO505.out [] a1 p506 (by first | exact q506 | exact zd | (have e_:=(Kd.N_reads' HO505.out).1;omega));obtain ⟨ua506_0,uc506_0,rfl,ul506_0,ge506_0⟩:=Kd.FK_slice_open hMe506;have hv506_0:=hcc506 0 _ rfl;rw [Nat.add_zero,show ((Kd.slice 2 (Kd.int .i64))).sz = 1 from rfl,Nat.mul_one] at hv506_0;replace hv506_0:=Option.some.inj (hv506_0.symm.trans hx506_0);injection hv506_0 with hva_ hvn_ hvc_;rw [hva_] at ge506_0;rw [hvc_] at ul506_0;have HL506_0:=zA (show Kd.V (Kd.int .i64) 2 _ w.heap.size _ _ (rd_L2 t503 a1) from Kd.V_mk ul506_0 ge506_0);clear hva_ hvn_ hvc_ ge506_0 ul506_0;clear hcc506 hce506;have HR506_0:=zA hi506_0;have HC506_0:=zA hl506_0;clear hi506_0 hl506_0;replace p506:=eq_true p506;replace q506:=eq_true q506;have p507:0 ≤ (0:Int):=(by omega);have q507:0 < ((rd_L2 t503 a1).length:Int):=zd;obtain ⟨ad507,e507,hx507_0⟩:=Kd.at_int (by repeat (first | (with_reducible exact HR506_0.out) | (with_reducible refine Kd.C_alloc ?_ _) | (with_reducible refine Kd.C_drewN ?_ _) | (with_reducible refine Kd.C_drew ?_) | exact HR506_0.out)) 0 p507 q507;cases e507;have qi507:(0 < (rd_L2 t503 a1).length) = True:=eq_true (by omega);(try rw [show ((0:Int)).toNat = 0 from rfl] at hx507_0);(try rw [Addr.add_zero'] at hx507_0);replace p507:=eq_true p507;replace q507:=eq_true q507))
     go_ret
     exact ⟨zr,zT HB.out GE502.out⟩
    rw [if_neg c7] at H
    have c7b0:decide (1000000000000000 < (rd (rd_L2 t503 a1) 0)) = false:=decide_eq_false c7
    clear c7
    obtain rfl:=Option.some.inj H
    go_enter Tryz.func46,Tryz.ntmps46
    go_wp2_with (first | (refine zBE 2 #[.int .i64 a0_0,.slice A0_1 l0_1.length c0_1] 26 ?_;intro gb502 hg w12 hbox hb;have BK502:=zA (hbox);have GW502:=zA (zBH hg HB.out);have GE502:=zA (zBH hg HB.out);replace HB:=zA (kQ (zQ HB.out) hb);clear hb hbox hg;obtain ⟨hcz13_0,hcz13_1,hfz13_0,hfz13_1⟩:=zB3 BK502.out) | (refine zO (some 7) Tryz.func47 #[.agg #[.int .i64 a0_0,.slice A0_1 l0_1.length c0_1],.int .i64 a1] ?_;(with_reducible refine (spec_l06Tails.calls k a0_0 _ _ l0_1 a1 t503 _ ?side1 ?side2 A3.out).mono ?_);(case side1=>exact zS (kO HR0_1.out HB.out));(case side2=>exact HC0_1.out);rintro e w14 ⟨v504,rfl,ho0,hb⟩;refine ⟨_,rfl,?_⟩;have HO505:=zA (jN (Kd.N_mono (ok' := fun k_=>k_ ≠ gb502) ho0 (fun k_ hk_=>(jE (g:=gb502) (o:=.cells #[.int .i64 a0_0,.slice A0_1 l0_1.length c0_1] 26 (0,0)) (zR BK502.out) k_ hk_))) (kP (zT HB.out GE502.out)));replace BK502:=zA (zB1 BK502.out hb);replace HB:=zA (kQ (zT HB.out GE502.out) hb);(try clear hb);(try clear ho0);obtain ⟨Ao15,co15,eo15⟩:=Kd.N_slice HO505.out;subst eo15;have p506:0 ≤ (a1:Int):=zd;have q506:a1 < (t503.length:Int):=zd;obtain ⟨ad506,A506_0,c506_0,e506,hx506_0,hl506_0,hi506_0⟩:=at_L2 (Kd.N_reads' HO505.out).2.2 a1 p506 q506;cases e506;obtain ⟨ce506,hce506,hMe506,hcc506⟩:=Kd.N_get HO505.out [] a1 p506 (by first | exact q506 | exact zd | (have e_:=(Kd.N_reads' HO505.out).1;omega));obtain ⟨ua506_0,uc506_0,rfl,ul506_0,ge506_0⟩:=Kd.FK_slice_open hMe506;have hv506_0:=hcc506 0 _ rfl;rw [Nat.add_zero,show ((Kd.slice 2 (Kd.int .i64))).sz = 1 from rfl,Nat.mul_one] at hv506_0;replace hv506_0:=Option.some.inj (hv506_0.symm.trans hx506_0);injection hv506_0 with hva_ hvn_ hvc_;rw [hva_] at ge506_0;rw [hvc_] at ul506_0;have HL506_0:=zA (show Kd.V (Kd.int .i64) 2 _ w.heap.size _ _ (rd_L2 t503 a1) from Kd.V_mk ul506_0 ge506_0);clear hva_ hvn_ hvc_ ge506_0 ul506_0;clear hcc506 hce506;have HR506_0:=zA hi506_0;have HC506_0:=zA hl506_0;clear hi506_0 hl506_0;replace p506:=eq_true p506;replace q506:=eq_true q506;have p507:0 ≤ (0:Int):=(by omega);have q507:0 < ((rd_L2 t503 a1).length:Int):=zd;obtain ⟨ad507,e507,hx507_0⟩:=Kd.at_int (by repeat (first | (with_reducible exact HR506_0.out) | (with_reducible refine Kd.C_alloc ?_ _) | (with_reducible refine Kd.C_drewN ?_ _) | (with_reducible refine Kd.C_drew ?_) | exact HR506_0.out)) 0 p507 q507;cases e507;have qi507:(0 < (rd_L2 t503 a1).length) = True:=eq_true (by omega);(try rw [show ((0:Int)).toNat = 0 from rfl] at hx507_0);(try rw [Addr.add_zero'] at hx507_0);replace p507:=eq_true p507;replace q507:=eq_true q507))
    go_ret
    exact ⟨zr,zT HB.out GE502.out⟩
   rw [if_neg c6] at H
   exact absurd H (by simp)
  rw [if_neg c5] at H
  exact absurd H (by simp)
 rw [if_neg c4] at H
 exact absurd H (by simp)
def spec_CountTraces.f (k:Nat) (a0_0:Int) (l0_1:List Int) (a1:Int):Option (Int × Int):=(spec_l06Code.f k a0_0 l0_1 a1).bind fun t509=>(if t509 = 0 then ((spec_l06Many.f k a0_0 l0_1 a1).bind fun t510=>(if t510 = 0 then ((spec_l06Tails.f k a0_0 l0_1 a1).bind fun t511=>(if 0 ≤ a1 then (if a1 < (t511.length:Int) then (if 0 < ((rd_L2 t511 a1).length:Int) then (some (rd (rd_L2 t511 a1) 0,0)) else (none)) else (none)) else (none))) else (some (0,t510)))) else (some (0,t509)))
set_option maxHeartbeats 8000000 in
set_option maxRecDepth 100000 in
theorem spec_CountTraces.calls (k : Nat) (a0_0 : Int) (A0_1 : Option Addr) (c0_1 : Nat) (l0_1 : List Int) (a1 : Int) (r1 : Int) (r2 : Int) (w : World) (hr0_1 : Kd.C (Kd.int .i64) w A0_1 l0_1.length l0_1) (hc0_1 : l0_1.length ≤ c0_1) (h : spec_CountTraces.f k a0_0 l0_1 a1 = some (r1, r2)) :
  Calls Tryz.prog 21 #[.agg #[.int .i64 a0_0,.slice A0_1 l0_1.length c0_1],.int .i64 a1] w fun e w' => e = .returned (.tuple #[.int .i64 r1,.int .i64 r2]) ∧ Below w.heap.size w w' := by
 have hu26:=Tryz.underlying26
 have HR0_1:=zA hr0_1
 have HC0_1:=zA hc0_1
 clear hr0_1 hc0_1
 have HB:=zA (kW w.heap.size w)
 have H:=h
 unfold spec_CountTraces.f at H
 clear h
 obtain ⟨t509,A3,H⟩:=zb H
 try dsimp only at H
 by_cases c4:t509 = 0
 ·rw [if_pos c4] at H
  obtain ⟨c4b0,c4b1⟩:=zT1 c4
  clear c4
  obtain ⟨t510,A5,H⟩:=zb H
  try dsimp only at H
  by_cases c6:t510 = 0
  ·rw [if_pos c6] at H
   obtain ⟨c6b0,c6b1⟩:=zT1 c6
   clear c6
   obtain ⟨t511,A7,H⟩:=zb H
   try dsimp only at H
   by_cases c8:0 ≤ a1
   ·rw [if_pos c8] at H
    have c8b0:decide (0 ≤ a1) = true:=decide_eq_true c8
    clear c8
    by_cases c9:a1 < (t511.length:Int)
    ·rw [if_pos c9] at H
     have c9b0:decide (a1 < (t511.length:Int)) = true:=decide_eq_true c9
     clear c9
     by_cases c10:0 < ((rd_L2 t511 a1).length:Int)
     ·rw [if_pos c10] at H
      have c10b0:decide (0 < ((rd_L2 t511 a1).length:Int)) = true:=decide_eq_true c10
      have c10b1:decide (0 < (rd_L2 t511 a1).length) = true:=decide_eq_true (by omega)
      clear c10
      simp only [Option.some.injEq,Prod.mk.injEq] at H
      obtain ⟨rfl,rfl⟩:=H
      go_enter Tryz.func21,Tryz.ntmps21
      go_wp2_with (first | (refine zBE 2 #[.int .i64 a0_0,.slice A0_1 l0_1.length c0_1] 26 ?_;intro gb508 hg w11 hbox hb;have BK508:=zA (hbox);have GW508:=zA (zBH hg HB.out);have GE508:=zA (zBH hg HB.out);replace HB:=zA (kQ (zQ HB.out) hb);clear hb hbox hg;obtain ⟨hcz12_0,hcz12_1,hfz12_0,hfz12_1⟩:=zB3 BK508.out) | (refine zO (some 9) Tryz.func45 #[.agg #[.int .i64 a0_0,.slice A0_1 l0_1.length c0_1],.int .i64 a1] ?_;(with_reducible refine (spec_l06Code.calls k a0_0 _ _ l0_1 a1 t509 _ ?side1 ?side2 A3.out).mono ?_);(case side1=>exact zS (kO HR0_1.out HB.out));(case side2=>exact HC0_1.out);rintro e w13 ⟨rfl,hb⟩;refine ⟨_,rfl,?_⟩;replace BK508:=zA (zB1 BK508.out hb);replace HB:=zA (kQ (zT HB.out GE508.out) hb);(try clear hb);obtain ⟨hcz14_0,hcz14_1,hfz14_0,hfz14_1⟩:=zB3 BK508.out) | (refine zO (some 14) Tryz.func46 #[.agg #[.int .i64 a0_0,.slice A0_1 l0_1.length c0_1],.int .i64 a1] ?_;(with_reducible refine (spec_l06Many.calls k a0_0 _ _ l0_1 a1 t510 _ ?side1 ?side2 A5.out).mono ?_);(case side1=>exact zS (kO HR0_1.out HB.out));(case side2=>exact HC0_1.out);rintro e w15 ⟨rfl,hb⟩;refine ⟨_,rfl,?_⟩;replace BK508:=zA (zB1 BK508.out hb);replace HB:=zA (kQ (zT HB.out GE508.out) hb);(try clear hb);obtain ⟨hcz16_0,hcz16_1,hfz16_0,hfz16_1⟩:=zB3 BK508.out) | (refine zO (some 20) Tryz.func47 #[.agg #[.int .i64 a0_0,.slice A0_1 l0_1.length c0_1],.int .i64 a1] ?_;(with_reducible refine (spec_l06Tails.calls k a0_0 _ _ l0_1 a1 t511 _ ?side1 ?side2 A7.out).mono ?_);(case side1=>exact zS (kO HR0_1.out HB.out));(case side2=>exact HC0_1.out);rintro e w17 ⟨v512,rfl,ho0,hb⟩;refine ⟨_,rfl,?_⟩;have HO513:=zA (jN (Kd.N_mono (ok' := fun k_=>k_ ≠ gb508) ho0 (fun k_ hk_=>(jE (g:=gb508) (o:=.cells #[.int .i64 a0_0,.slice A0_1 l0_1.length c0_1] 26 (0,0)) (zR BK508.out) k_ hk_))) (kP (zT HB.out GE508.out)));replace BK508:=zA (zB1 BK508.out hb);replace HB:=zA (kQ (zT HB.out GE508.out) hb);(try clear hb);(try clear ho0);obtain ⟨Ao18,co18,eo18⟩:=Kd.N_slice HO513.out;subst eo18;have p514:0 ≤ (a1:Int):=zd;have q514:a1 < (t511.length:Int):=zd;obtain ⟨ad514,A514_0,c514_0,e514,hx514_0,hl514_0,hi514_0⟩:=at_L2 (Kd.N_reads' HO513.out).2.2 a1 p514 q514;cases e514;obtain ⟨ce514,hce514,hMe514,hcc514⟩:=Kd.N_get HO513.out [] a1 p514 (by first | exact q514 | exact zd | (have e_:=(Kd.N_reads' HO513.out).1;omega));obtain ⟨ua514_0,uc514_0,rfl,ul514_0,ge514_0⟩:=Kd.FK_slice_open hMe514;have hv514_0:=hcc514 0 _ rfl;rw [Nat.add_zero,show ((Kd.slice 2 (Kd.int .i64))).sz = 1 from rfl,Nat.mul_one] at hv514_0;replace hv514_0:=Option.some.inj (hv514_0.symm.trans hx514_0);injection hv514_0 with hva_ hvn_ hvc_;rw [hva_] at ge514_0;rw [hvc_] at ul514_0;have HL514_0:=zA (show Kd.V (Kd.int .i64) 2 _ w.heap.size _ _ (rd_L2 t511 a1) from Kd.V_mk ul514_0 ge514_0);clear hva_ hvn_ hvc_ ge514_0 ul514_0;clear hcc514 hce514;have HR514_0:=zA hi514_0;have HC514_0:=zA hl514_0;clear hi514_0 hl514_0;replace p514:=eq_true p514;replace q514:=eq_true q514;have p515:0 ≤ (0:Int):=(by omega);have q515:0 < ((rd_L2 t511 a1).length:Int):=zd;obtain ⟨ad515,e515,hx515_0⟩:=Kd.at_int (by repeat (first | (with_reducible exact HR514_0.out) | (with_reducible refine Kd.C_alloc ?_ _) | (with_reducible refine Kd.C_drewN ?_ _) | (with_reducible refine Kd.C_drew ?_) | exact HR514_0.out)) 0 p515 q515;cases e515;have qi515:(0 < (rd_L2 t511 a1).length) = True:=eq_true (by omega);(try rw [show ((0:Int)).toNat = 0 from rfl] at hx515_0);(try rw [Addr.add_zero'] at hx515_0);replace p515:=eq_true p515;replace q515:=eq_true q515))
      go_ret2
      exact ⟨zr,zT HB.out GE508.out⟩
     rw [if_neg c10] at H
     exact absurd H (by simp)
    rw [if_neg c9] at H
    exact absurd H (by simp)
   rw [if_neg c8] at H
   exact absurd H (by simp)
  rw [if_neg c6] at H
  obtain ⟨c6b0,c6b1⟩:=zT2 c6
  simp only [Option.some.injEq,Prod.mk.injEq] at H
  obtain ⟨rfl,rfl⟩:=H
  go_enter Tryz.func21,Tryz.ntmps21
  go_wp2_with (first | (refine zBE 2 #[.int .i64 a0_0,.slice A0_1 l0_1.length c0_1] 26 ?_;intro gb508 hg w19 hbox hb;have BK508:=zA (hbox);have GW508:=zA (zBH hg HB.out);have GE508:=zA (zBH hg HB.out);replace HB:=zA (kQ (zQ HB.out) hb);clear hb hbox hg;obtain ⟨hcz20_0,hcz20_1,hfz20_0,hfz20_1⟩:=zB3 BK508.out) | (refine zO (some 9) Tryz.func45 #[.agg #[.int .i64 a0_0,.slice A0_1 l0_1.length c0_1],.int .i64 a1] ?_;(with_reducible refine (spec_l06Code.calls k a0_0 _ _ l0_1 a1 t509 _ ?side1 ?side2 A3.out).mono ?_);(case side1=>exact zS (kO HR0_1.out HB.out));(case side2=>exact HC0_1.out);rintro e w21 ⟨rfl,hb⟩;refine ⟨_,rfl,?_⟩;replace BK508:=zA (zB1 BK508.out hb);replace HB:=zA (kQ (zT HB.out GE508.out) hb);(try clear hb);obtain ⟨hcz22_0,hcz22_1,hfz22_0,hfz22_1⟩:=zB3 BK508.out) | (refine zO (some 14) Tryz.func46 #[.agg #[.int .i64 a0_0,.slice A0_1 l0_1.length c0_1],.int .i64 a1] ?_;(with_reducible refine (spec_l06Many.calls k a0_0 _ _ l0_1 a1 t510 _ ?side1 ?side2 A5.out).mono ?_);(case side1=>exact zS (kO HR0_1.out HB.out));(case side2=>exact HC0_1.out);rintro e w23 ⟨rfl,hb⟩;refine ⟨_,rfl,?_⟩;replace BK508:=zA (zB1 BK508.out hb);replace HB:=zA (kQ (zT HB.out GE508.out) hb);(try clear hb)))
  go_ret2
  exact ⟨zr,zT HB.out GE508.out⟩
 rw [if_neg c4] at H
 obtain ⟨c4b0,c4b1⟩:=zT2 c4
 simp only [Option.some.injEq,Prod.mk.injEq] at H
 obtain ⟨rfl,rfl⟩:=H
 go_enter Tryz.func21,Tryz.ntmps21
 go_wp2_with (first | (refine zBE 2 #[.int .i64 a0_0,.slice A0_1 l0_1.length c0_1] 26 ?_;intro gb508 hg w24 hbox hb;have BK508:=zA (hbox);have GW508:=zA (zBH hg HB.out);have GE508:=zA (zBH hg HB.out);replace HB:=zA (kQ (zQ HB.out) hb);clear hb hbox hg;obtain ⟨hcz25_0,hcz25_1,hfz25_0,hfz25_1⟩:=zB3 BK508.out) | (refine zO (some 9) Tryz.func45 #[.agg #[.int .i64 a0_0,.slice A0_1 l0_1.length c0_1],.int .i64 a1] ?_;(with_reducible refine (spec_l06Code.calls k a0_0 _ _ l0_1 a1 t509 _ ?side1 ?side2 A3.out).mono ?_);(case side1=>exact zS (kO HR0_1.out HB.out));(case side2=>exact HC0_1.out);rintro e w26 ⟨rfl,hb⟩;refine ⟨_,rfl,?_⟩;replace BK508:=zA (zB1 BK508.out hb);replace HB:=zA (kQ (zT HB.out GE508.out) hb);(try clear hb)))
 go_ret2
 exact ⟨zr,zT HB.out GE508.out⟩
def spec_l02Step.l0:Nat → Int → Int → Int → List Int → Option (Bool)
 | 0,_,_,_,_=>none
 | k + 1,x1,x5,x517000,x517001=>if x5 < x517000 then ((spec_l01Bit.f x1 x5).bind fun t517=>(if t517 = true then (if 0 ≤ x5 then (if x5 < (x517001.length:Int) then ((spec_l01One.f x5).bind fun t519=>(if (Go.bits .and .i64 (rd x517001 x5) x1) = t519 then (spec_l02Step.l0 k x1 (wrap64 (x5 + 1)) x517000 x517001) else (some false))) else (none)) else (none)) else (spec_l02Step.l0 k x1 (wrap64 (x5 + 1)) x517000 x517001))) else (some true)
def spec_l02Step.f (k:Nat) (a0_0:Int) (l0_1:List Int) (a1:Int):Option (Bool):=spec_l02Step.l0 k a1 0 a0_0 l0_1
set_option maxHeartbeats 8000000 in
set_option maxRecDepth 100000 in
theorem spec_l02Step.calls (k : Nat) (a0_0 : Int) (A0_1 : Option Addr) (c0_1 : Nat) (l0_1 : List Int) (a1 : Int) (r : Bool) (w : World) (hr0_1 : Kd.C (Kd.int .i64) w A0_1 l0_1.length l0_1) (hc0_1 : l0_1.length ≤ c0_1) (h : spec_l02Step.f k a0_0 l0_1 a1 = some r) :
  Calls Tryz.prog 73 #[.agg #[.int .i64 a0_0,.slice A0_1 l0_1.length c0_1],.int .i64 a1] w fun e w' => e = .returned (.bool r) ∧ Below w.heap.size w w' := by
 have hu26:=Tryz.underlying26
 have HR0_1:=zA hr0_1
 have HC0_1:=zA hc0_1
 clear hr0_1 hc0_1
 have HB:=zA (kW w.heap.size w)
 have H:=h
 unfold spec_l02Step.f at H
 clear h
 have H' := zA H
 clear H
 go_enter Tryz.func73,Tryz.ntmps73
 go_wp2_with (first | (refine zBE 2 #[.int .i64 a0_0,.slice A0_1 l0_1.length c0_1] 26 ?_;intro gb516 hg w3 hbox hb;have BK516:=zA (hbox);have GW516:=zA (zBH hg HB.out);have GE516:=zA (zBH hg HB.out);replace HB:=zA (kQ (zQ HB.out) hb);clear hb hbox hg))
 repeat (go_quiet (first | (refine zBE 2 #[.int .i64 a0_0,.slice A0_1 l0_1.length c0_1] 26 ?_;intro gb516 hg w3 hbox hb;have n0_:=zA (kQ (zQ HB.out) hb);have n1_:=zA (hbox);have n2_:=zA (zBH hg HB.out);have n3_:=zA (zBH hg HB.out);clear HB;have HB:=n0_;have BK516:=n1_;have GW516:=n2_;have GE516:=n3_;clear n0_ n1_ n2_ n3_;clear hb hbox hg));try go_wp2_with (first | (refine zBE 2 #[.int .i64 a0_0,.slice A0_1 l0_1.length c0_1] 26 ?_;intro gb516 hg w3 hbox hb;have BK516:=zA (hbox);have GW516:=zA (zBH hg HB.out);have GE516:=zA (zBH hg HB.out);replace HB:=zA (kQ (zQ HB.out) hb);clear hb hbox hg)))
 go_loopg [5] k (fun kq v5 w' => ∃ (x5_1:Int),v5 = .int .i64 x5_1 ∧ Aside0 (spec_l02Step.l0 kq a1 x5_1 a0_0 l0_1 = some r) ∧ Aside0 (kq ≤ k) ∧ Aside0 (w'.heap[gb516]? = some (.cells #[.int .i64 a0_0,(.slice A0_1 l0_1.length c0_1)] 26 (0,0))) ∧ Aside0 (Below w.heap.size w w'))
 case atStart=>exact ⟨(0),zs,H', ⟨Nat.le_refl _⟩,⟨zR BK516.out⟩,⟨zT HB.out GE516.out⟩⟩
 case round =>
  clear H'
  obtain ⟨x5_1,rfl,HA,HK1,BK516,HB⟩:=hrel
  cases gk with
  | zero=>exact absurd HA.out (by simp [spec_l02Step.l0])
  | succ k1 =>
   have H:=HA.out
   clear HA
   simp only [spec_l02Step.l0] at H
   by_cases c4:x5_1 < a0_0
   ·rw [if_pos c4] at H
    have c4b0:decide (x5_1 < a0_0) = true:=decide_eq_true c4
    clear c4
    obtain ⟨t517,A5,H⟩:=zb H
    try dsimp only at H
    by_cases c6:t517 = true
    ·subst c6
     rw [if_pos rfl] at H
     by_cases c7:0 ≤ x5_1
     ·rw [if_pos c7] at H
      have c7b0:decide (0 ≤ x5_1) = true:=decide_eq_true c7
      clear c7
      by_cases c8:x5_1 < (l0_1.length:Int)
      ·rw [if_pos c8] at H
       have c8b0:decide (x5_1 < (l0_1.length:Int)) = true:=decide_eq_true c8
       clear c8
       obtain ⟨t519,A9,H⟩:=zb H
       try dsimp only at H
       by_cases c10:(Go.bits .and .i64 (rd l0_1 x5_1) a1) = t519
       ·rw [if_pos c10] at H
        obtain ⟨c10b0,c10b1⟩:=zT1 c10
        clear c10
        have H' := zA H
        clear H
        obtain ⟨hcz11_0,hcz11_1,hfz11_0,hfz11_1⟩:=zB3 BK516.out
        go_wp2_with (first | (go_at_call 70;(with_reducible refine (spec_l01Bit.calls a1 x5_1 true _ A5.out).mono ?_);rintro e w' ⟨rfl,⟨nd,rfl⟩⟩;(try exact zw);have p518:0 ≤ (x5_1:Int):=zd;have q518:x5_1 < (l0_1.length:Int):=zd;obtain ⟨ad518,e518,hx518_0⟩:=Kd.at_int HR0_1.out x5_1 p518 q518;cases e518;replace hx518_0:=(HB.out.cell (jG w _ hx518_0)).trans hx518_0;replace p518:=eq_true p518;replace q518:=eq_true q518) | (go_at_call 61;(with_reducible refine (spec_l01One.calls x5_1 t519 _ A9.out).mono ?_);rintro e w' ⟨rfl,⟨nd,rfl⟩⟩;(try exact zw)))
        repeat (go_quiet (first | (go_at_call 70;(with_reducible refine (spec_l01Bit.calls a1 x5_1 true _ A5.out).mono ?_);rintro e w' ⟨rfl,⟨nd,rfl⟩⟩;(try exact zw);have p518:0 ≤ (x5_1:Int):=zd;have q518:x5_1 < (l0_1.length:Int):=zd;obtain ⟨ad518,e518,hx518_0⟩:=Kd.at_int HR0_1.out x5_1 p518 q518;cases e518;replace hx518_0:=(HB.out.cell (jG w _ hx518_0)).trans hx518_0;replace p518:=eq_true p518;replace q518:=eq_true q518) | (go_at_call 61;(with_reducible refine (spec_l01One.calls x5_1 t519 _ A9.out).mono ?_);rintro e w' ⟨rfl,⟨nd,rfl⟩⟩;(try exact zw)));try go_wp2_with (first | (go_at_call 70;(with_reducible refine (spec_l01Bit.calls a1 x5_1 true _ A5.out).mono ?_);rintro e w' ⟨rfl,⟨nd,rfl⟩⟩;(try exact zw);have p518:0 ≤ (x5_1:Int):=zd;have q518:x5_1 < (l0_1.length:Int):=zd;obtain ⟨ad518,e518,hx518_0⟩:=Kd.at_int HR0_1.out x5_1 p518 q518;cases e518;replace hx518_0:=(HB.out.cell (jG w _ hx518_0)).trans hx518_0;replace p518:=eq_true p518;replace q518:=eq_true q518) | (go_at_call 61;(with_reducible refine (spec_l01One.calls x5_1 t519 _ A9.out).mono ?_);rintro e w' ⟨rfl,⟨nd,rfl⟩⟩;(try exact zw))))
        go_roundg k1
        case measure=>have:=HK1.out;omega
        case rel=>exact ⟨(wrap64 (x5_1 + 1)),zs,H', ⟨by have:=HK1.out;omega⟩,⟨zR BK516.out⟩,⟨zT HB.out GE516.out⟩⟩
       rw [if_neg c10] at H
       obtain ⟨c10b0,c10b1⟩:=zT2 c10
       obtain rfl:=Option.some.inj H
       obtain ⟨hcz12_0,hcz12_1,hfz12_0,hfz12_1⟩:=zB3 BK516.out
       go_wp2_with (first | (go_at_call 70;(with_reducible refine (spec_l01Bit.calls a1 x5_1 true _ A5.out).mono ?_);rintro e w' ⟨rfl,⟨nd,rfl⟩⟩;(try exact zw);have p518:0 ≤ (x5_1:Int):=zd;have q518:x5_1 < (l0_1.length:Int):=zd;obtain ⟨ad518,e518,hx518_0⟩:=Kd.at_int HR0_1.out x5_1 p518 q518;cases e518;replace hx518_0:=(HB.out.cell (jG w _ hx518_0)).trans hx518_0;replace p518:=eq_true p518;replace q518:=eq_true q518) | (go_at_call 61;(with_reducible refine (spec_l01One.calls x5_1 t519 _ A9.out).mono ?_);rintro e w' ⟨rfl,⟨nd,rfl⟩⟩;(try exact zw)))
       repeat (go_quiet (first | (go_at_call 70;(with_reducible refine (spec_l01Bit.calls a1 x5_1 true _ A5.out).mono ?_);rintro e w' ⟨rfl,⟨nd,rfl⟩⟩;(try exact zw);have p518:0 ≤ (x5_1:Int):=zd;have q518:x5_1 < (l0_1.length:Int):=zd;obtain ⟨ad518,e518,hx518_0⟩:=Kd.at_int HR0_1.out x5_1 p518 q518;cases e518;replace hx518_0:=(HB.out.cell (jG w _ hx518_0)).trans hx518_0;replace p518:=eq_true p518;replace q518:=eq_true q518) | (go_at_call 61;(with_reducible refine (spec_l01One.calls x5_1 t519 _ A9.out).mono ?_);rintro e w' ⟨rfl,⟨nd,rfl⟩⟩;(try exact zw)));try go_wp2_with (first | (go_at_call 70;(with_reducible refine (spec_l01Bit.calls a1 x5_1 true _ A5.out).mono ?_);rintro e w' ⟨rfl,⟨nd,rfl⟩⟩;(try exact zw);have p518:0 ≤ (x5_1:Int):=zd;have q518:x5_1 < (l0_1.length:Int):=zd;obtain ⟨ad518,e518,hx518_0⟩:=Kd.at_int HR0_1.out x5_1 p518 q518;cases e518;replace hx518_0:=(HB.out.cell (jG w _ hx518_0)).trans hx518_0;replace p518:=eq_true p518;replace q518:=eq_true q518) | (go_at_call 61;(with_reducible refine (spec_l01One.calls x5_1 t519 _ A9.out).mono ?_);rintro e w' ⟨rfl,⟨nd,rfl⟩⟩;(try exact zw))))
       go_ret
       exact ⟨zr,zT HB.out GE516.out⟩
      rw [if_neg c8] at H
      exact absurd H (by simp)
     rw [if_neg c7] at H
     exact absurd H (by simp)
    replace c6:=Bool.eq_false_iff.mpr c6
    subst c6
    rw [if_neg (show ¬ (false = true) by decide)] at H
    have H' := zA H
    clear H
    obtain ⟨hcz13_0,hcz13_1,hfz13_0,hfz13_1⟩:=zB3 BK516.out
    go_wp2_with (first | (go_at_call 70;(with_reducible refine (spec_l01Bit.calls a1 x5_1 false _ A5.out).mono ?_);rintro e w' ⟨rfl,⟨nd,rfl⟩⟩;(try exact zw)))
    repeat (go_quiet (first | (go_at_call 70;(with_reducible refine (spec_l01Bit.calls a1 x5_1 false _ A5.out).mono ?_);rintro e w' ⟨rfl,⟨nd,rfl⟩⟩;(try exact zw)));try go_wp2_with (first | (go_at_call 70;(with_reducible refine (spec_l01Bit.calls a1 x5_1 false _ A5.out).mono ?_);rintro e w' ⟨rfl,⟨nd,rfl⟩⟩;(try exact zw))))
    go_roundg k1
    case measure=>have:=HK1.out;omega
    case rel=>exact ⟨(wrap64 (x5_1 + 1)),zs,H', ⟨by have:=HK1.out;omega⟩,⟨zR BK516.out⟩,⟨zT HB.out GE516.out⟩⟩
   rw [if_neg c4] at H
   have c4b0:decide (x5_1 < a0_0) = false:=decide_eq_false c4
   clear c4
   obtain rfl:=Option.some.inj H
   obtain ⟨hcz14_0,hcz14_1,hfz14_0,hfz14_1⟩:=zB3 BK516.out
   go_wp2
   repeat (go_quiet (fail);try go_wp2)
   go_ret
   exact ⟨zr,zT HB.out GE516.out⟩
def spec_l02Steps.l0:Nat → List Int → Int → Int → List Int → Option (List Int)
 | 0,_,_,_,_=>none
 | k + 1,x3,x4,x521000,x521001=>(spec_l01Full.f x521000).bind fun t524=>(if x4 ≤ t524 then ((spec_l02Step.f k x521000 x521001 x4).bind fun t525=>(if t525 = true then (if x3.length < 17592186044416 then (spec_l02Steps.l0 k (x3 ++ [x4]) (wrap64 (x4 + 1)) x521000 x521001) else (none)) else (spec_l02Steps.l0 k x3 (wrap64 (x4 + 1)) x521000 x521001))) else (some x3))
def spec_l02Steps.f (k:Nat) (a0_0:Int) (l0_1:List Int):Option (List Int):=spec_l02Steps.l0 k (([]:List Int)) 0 a0_0 l0_1
set_option maxHeartbeats 8000000 in
set_option maxRecDepth 100000 in
theorem spec_l02Steps.calls (k : Nat) (a0_0 : Int) (A0_1 : Option Addr) (c0_1 : Nat) (l0_1 : List Int) (r : List Int) (w : World) (hr0_1 : Kd.C (Kd.int .i64) w A0_1 l0_1.length l0_1) (hc0_1 : l0_1.length ≤ c0_1) (h : spec_l02Steps.f k a0_0 l0_1 = some r) :
  Calls Tryz.prog 48 #[.agg #[.int .i64 a0_0,.slice A0_1 l0_1.length c0_1]] w fun e w' => ∃ v0_:Value,e = .returned (v0_) ∧ Kd.R (Kd.int .i64) 2 w' w.heap.size (fun _=>True) v0_ r ∧ Below w.heap.size w w' := by
 have hu26:=Tryz.underlying26
 have HR0_1:=zA hr0_1
 have HC0_1:=zA hc0_1
 clear hr0_1 hc0_1
 have HB:=zA (kW w.heap.size w)
 have H:=h
 unfold spec_l02Steps.f at H
 clear h
 obtain ⟨y521,hy521⟩:∃ y_:List Int,y_ = (([]:List Int)):=⟨_,rfl⟩
 replace H:(spec_l02Steps.l0 k y521 0 a0_0 l0_1) = some r:=zy hy521 H
 have Ny521:=zA hy521
 clear hy521
 have H' := zA H
 clear H
 go_enter Tryz.func48,Tryz.ntmps48
 go_wp2_with (first | (refine zBE 1 #[.int .i64 a0_0,.slice A0_1 l0_1.length c0_1] 26 ?_;intro gb520 hg w2 hbox hb;have BK520:=zA (hbox);have GW520:=zA (zBH hg HB.out);have GE520:=zA (zBH hg HB.out);replace HB:=zA (kQ (zQ HB.out) hb);clear hb hbox hg) | ((with_reducible refine kS (N:=5) rfl ?_);refine Kd.R_lit (Kd.int .i64) _ 2 ?hg (N:=5) ?hd (xs:=([]:List Int)) (inner:=[]) (ok:=fun _=>True) (okp:=fun _=>True) ?hr ?hp (fun _ hk=>hk) trivial (kW _ _) (Nat.le_refl _) (by simp) ?_;(case hd=>rfl);(case hg=>rfl);(case hr=>first | (go_simp;done) | (go_simp;rfl));(case hp=>exact (Reps.none _ _));intro v522 w3 ho4 hb hg_ hnew_;clear hg_ hnew_;(first | rw [← Ny521.out] at ho4 | (simp only [Int.reduceToNat] at ho4;rw [← Ny521.out] at ho4));have HO523:=zA (kI ho4 (kP (zT HB.out GE520.out)));replace BK520:=zA (zB1 BK520.out hb);replace HB:=zA (kQ (zT HB.out GE520.out) hb);clear hb ho4))
 go_loopg [3,4] k (fun kq v3 v4 w' => ∃ (x3_1:List Int) (x4_1:Int),v4 = .int .i64 x4_1 ∧ Aside0 (spec_l02Steps.l0 kq x3_1 x4_1 a0_0 l0_1 = some r) ∧ Aside0 (kq ≤ k) ∧ Aside0 (Kd.R (Kd.int .i64) 2 w' w.heap.size (fun _=>True) v3 x3_1) ∧ Aside0 (w'.heap[gb520]? = some (.cells #[.int .i64 a0_0,(.slice A0_1 l0_1.length c0_1)] 26 (0,0))) ∧ Aside0 (Below w.heap.size w w'))
 case atStart=>exact ⟨(y521),(0),zs,H', ⟨Nat.le_refl _⟩,⟨zP HO523.out⟩,⟨zR BK520.out⟩,⟨zT HB.out GE520.out⟩⟩
 case round =>
  clear H'
  try clear c4
  obtain ⟨x3_1,x4_1,rfl,HA,HK1,HO_3,BK520,HB⟩:=hrel
  cases gk with
  | zero=>exact absurd HA.out (by simp [spec_l02Steps.l0])
  | succ k1 =>
   have H:=HA.out
   clear HA
   simp only [spec_l02Steps.l0] at H
   obtain ⟨t524,A5,H⟩:=zb H
   try dsimp only at H
   by_cases c6:x4_1 ≤ t524
   ·rw [if_pos c6] at H
    have c6b0:decide (x4_1 ≤ t524) = true:=decide_eq_true c6
    clear c6
    obtain ⟨t525,A7,H⟩:=zb H
    try dsimp only at H
    by_cases c8:t525 = true
    ·subst c8
     rw [if_pos rfl] at H
     by_cases c9:x3_1.length < 17592186044416
     ·rw [if_pos c9] at H
      have LMc9:=zA c9
      clear c9
      obtain ⟨y526,hy526⟩:∃ y_:List Int,y_ = (x3_1 ++ [x4_1]):=⟨_,rfl⟩
      replace H:(spec_l02Steps.l0 k1 y526 (wrap64 (x4_1 + 1)) a0_0 l0_1) = some r:=zy hy526 H
      have Ny526:=zA hy526
      clear hy526
      have H' := zA H
      clear H
      obtain ⟨hcz10_0,hcz10_1,hfz10_0,hfz10_1⟩:=zB3 BK520.out
      go_wp2_with (first | (refine zO (some 9) Tryz.func72 #[.int .i64 a0_0] ?_;(with_reducible refine (spec_l01Full.calls a0_0 t524 _ A5.out).mono ?_);rintro e w' ⟨rfl,⟨nd,rfl⟩⟩;refine ⟨_,rfl,?_⟩) | (refine zO (some 15) Tryz.func73 #[.agg #[.int .i64 a0_0,.slice A0_1 l0_1.length c0_1],.int .i64 x4_1] ?_;(with_reducible refine (spec_l02Step.calls k1 a0_0 _ _ l0_1 x4_1 true _ ?side1 ?side2 A7.out).mono ?_);(case side1=>exact zS (kO HR0_1.out (zT HB.out GE520.out)));(case side2=>exact HC0_1.out);rintro e w11 ⟨rfl,hb⟩;refine ⟨_,rfl,?_⟩;replace HO_3:=zA (kL (zP HO_3.out) hb);replace BK520:=zA (zB1 BK520.out hb);replace HB:=zA (kQ (zT HB.out GE520.out) hb);(try clear hb)) | ((with_reducible refine gate_builtin (b:=.append) (xs:=#[.tmp 16,.tmp 18]) rfl ?_);at_builtin;refine Kd.R_append (Kd.int .i64) (w0:=w) w.heap.size rfl (.tmp 16) (.tmp 18) 24 2 (.int .i64 0) 8 rfl Tryz.underlying24 info2 rfl (by decide) (by omega) u3 x3_1 x4_1 [.int .i64 x4_1] (fun _=>True) (fun _=>False) rfl rfl ?aP (fun _ hk=>hk.elim) ?aF ?aO ?aB ?aS ?aL ?_;(case aP=>exact rfl);(case aB=>exact (zT HB.out GE520.out));(case aF=>exact (fun _ _=>trivial));(case aO=>exact (zP HO_3.out));(case aS=>exact (kP (zT HB.out GE520.out)));(case aL=>have:=LMc9.out;omega);intro v527 w12 ho hb hg hat;rw [← Ny526.out] at ho;replace BK520:=zA (blk_grown (g:=gb520) (o:=.cells #[.int .i64 a0_0,.slice A0_1 l0_1.length c0_1] 26 (0,0)) (zR BK520.out) hg (Kd.R_ne HO_3.out BK520.out (by decide)));replace HB:=zA (hb);have HO528:=zA (ho);clear HO_3;clear ho hb hg hat))
      go_roundg k1
      case measure=>have:=HK1.out;omega
      case rel=>exact ⟨(y526),(wrap64 (x4_1 + 1)),zs,H', ⟨by have:=HK1.out;omega⟩,⟨zP HO528.out⟩,⟨zR BK520.out⟩,⟨zT HB.out GE520.out⟩⟩
     rw [if_neg c9] at H
     exact absurd H (by simp)
    replace c8:=Bool.eq_false_iff.mpr c8
    subst c8
    rw [if_neg (show ¬ (false = true) by decide)] at H
    have H' := zA H
    clear H
    obtain ⟨hcz13_0,hcz13_1,hfz13_0,hfz13_1⟩:=zB3 BK520.out
    go_wp2_with (first | (refine zO (some 9) Tryz.func72 #[.int .i64 a0_0] ?_;(with_reducible refine (spec_l01Full.calls a0_0 t524 _ A5.out).mono ?_);rintro e w' ⟨rfl,⟨nd,rfl⟩⟩;refine ⟨_,rfl,?_⟩) | (refine zO (some 15) Tryz.func73 #[.agg #[.int .i64 a0_0,.slice A0_1 l0_1.length c0_1],.int .i64 x4_1] ?_;(with_reducible refine (spec_l02Step.calls k1 a0_0 _ _ l0_1 x4_1 false _ ?side1 ?side2 A7.out).mono ?_);(case side1=>exact zS (kO HR0_1.out (zT HB.out GE520.out)));(case side2=>exact HC0_1.out);rintro e w14 ⟨rfl,hb⟩;refine ⟨_,rfl,?_⟩;replace HO_3:=zA (kL (zP HO_3.out) hb);replace BK520:=zA (zB1 BK520.out hb);replace HB:=zA (kQ (zT HB.out GE520.out) hb);(try clear hb)))
    go_roundg k1
    case measure=>have:=HK1.out;omega
    case rel=>exact ⟨(x3_1),(wrap64 (x4_1 + 1)),zs,H', ⟨by have:=HK1.out;omega⟩,⟨zP HO_3.out⟩,⟨zR BK520.out⟩,⟨zT HB.out GE520.out⟩⟩
   rw [if_neg c6] at H
   have c6b0:decide (x4_1 ≤ t524) = false:=decide_eq_false c6
   clear c6
   obtain rfl:=Option.some.inj H
   obtain ⟨hcz15_0,hcz15_1,hfz15_0,hfz15_1⟩:=zB3 BK520.out
   go_wp2_with (first | (refine zO (some 9) Tryz.func72 #[.int .i64 a0_0] ?_;(with_reducible refine (spec_l01Full.calls a0_0 t524 _ A5.out).mono ?_);rintro e w' ⟨rfl,⟨nd,rfl⟩⟩;refine ⟨_,rfl,?_⟩))
   go_ret
   exact ⟨_,zr,zP HO_3.out,zT HB.out GE520.out⟩
def spec_l01Own.f (l0:List Int):Option (List Int):=(some (([]:List Int):List Int)).bind fun y529=>(if y529.length + l0.length < 17592186044416 then (some (y529 ++ l0)) else (none))
set_option maxHeartbeats 8000000 in
set_option maxRecDepth 100000 in
theorem spec_l01Own.calls (A0 : Option Addr) (c0 : Nat) (l0 : List Int) (r : List Int) (w : World) (hr0 : Kd.C (Kd.int .i64) w A0 l0.length l0) (hc0 : l0.length ≤ c0) (h : spec_l01Own.f l0 = some r) :
  Calls Tryz.prog 49 #[.slice A0 l0.length c0] w fun e w' => ∃ v0_:Value,e = .returned (v0_) ∧ Kd.R (Kd.int .i64) 2 w' w.heap.size (fun _=>True) v0_ r ∧ Below w.heap.size w w' := by
 have HR0:=zA hr0
 have HC0:=zA hc0
 clear hr0 hc0
 have HB:=zA (kW w.heap.size w)
 have H:=h
 unfold spec_l01Own.f at H
 clear h
 obtain ⟨y529,hy529⟩:∃ y_:List Int,y_ = (([]:List Int)):=⟨_,rfl⟩
 replace H:(if y529.length + l0.length < 17592186044416 then (some (y529 ++ l0)) else (none)) = some r:=zy hy529 H
 have Ny529:=zA hy529
 clear hy529
 by_cases c2:y529.length + l0.length < 17592186044416
 ·rw [if_pos c2] at H
  have LMc2:=zA c2
  clear c2
  obtain ⟨y532,hy532⟩:∃ y_:List Int,y_ = (y529 ++ l0):=⟨_,rfl⟩
  replace H:(some y532) = some r:=zy hy532 H
  have Ny532:=zA hy532
  clear hy532
  obtain rfl:=Option.some.inj H
  go_enter Tryz.func49,Tryz.ntmps49
  go_wp2_with (first | ((with_reducible refine kS (N:=3) rfl ?_);refine Kd.R_lit (Kd.int .i64) _ 2 ?hg (N:=3) ?hd (xs:=([]:List Int)) (inner:=[]) (ok:=fun _=>True) (okp:=fun _=>True) ?hr ?hp (fun _ hk=>hk) trivial (kW _ _) (Nat.le_refl _) (by simp) ?_;(case hd=>rfl);(case hg=>rfl);(case hr=>first | (go_simp;done) | (go_simp;rfl));(case hp=>exact (Reps.none _ _));intro v530 w3 ho4 hb hg_ hnew_;clear hg_ hnew_;(first | rw [← Ny529.out] at ho4 | (simp only [Int.reduceToNat] at ho4;rw [← Ny529.out] at ho4));have HO531:=zA (kI ho4 (kP (zQ HB.out)));replace HB:=zA (kQ (zQ HB.out) hb);clear hb ho4) | ((with_reducible refine gate_builtin (b:=.append) (xs:=#[.tmp 3,.tmp 4]) rfl ?_);at_builtin;refine Kd.R_append_rows (Kd.int .i64) (w0:=w) w.heap.size rfl (.tmp 3) (.tmp 4) 24 2 (.int .i64 0) 8 rfl Tryz.underlying24 info2 rfl (by decide) (by omega) v530 y529 l0 _ _ _ (fun _=>True) (fun _=>False) rfl rfl ?aO ?aR (fun _ _ h=>h) (fun _ h=>h.elim) ?aF ?aB ?aS ?aL ?_;(case aR=>exact zS (kO HR0.out HB.out));(case aB=>exact (zQ HB.out));(case aF=>exact (fun _ _=>trivial));(case aO=>exact (zP HO531.out));(case aS=>exact (kP (zQ HB.out)));(case aL=>have:=LMc2.out;omega);intro v533 w5 ho hb hg hat;rw [← Ny532.out] at ho;replace HB:=zA (hb);have HO534:=zA (ho);clear HO531;clear ho hb hg hat))
  go_ret
  exact ⟨_,zr,zP HO534.out,zQ HB.out⟩
 rw [if_neg c2] at H
 exact absurd H (by simp)
def spec_l01Bits.l0:Nat → Int → Int → Option (Int)
 | 0,_,_=>none
 | k + 1,x0,x3=>if x0 > 0 then (spec_l01Bits.l0 k (wrap64 (Int.tdiv x0 2)) (wrap64 (x3 + (Int.tmod x0 2)))) else (some x3)
def spec_l01Bits.f (k:Nat) (a0:Int):Option (Int):=spec_l01Bits.l0 k a0 0
set_option maxHeartbeats 8000000 in
set_option maxRecDepth 100000 in
theorem spec_l01Bits.calls (k : Nat) (a0 : Int) (r : Int) (w : World) (h : spec_l01Bits.f k a0 = some r) :
  Calls Tryz.prog 50 #[.int .i64 a0] w fun e w' => e = .returned (.int .i64 r) ∧ Drawn0 w w' := by
 have H:=h
 unfold spec_l01Bits.f at H
 clear h
 have H' := zA H
 clear H
 go_enter Tryz.func50,Tryz.ntmps50
 go_wp2
 go_loopg [0,3] k (fun kq v0 v3 w' => ∃ (x0_1:Int) (x3_1:Int),v0 = .int .i64 x0_1 ∧ v3 = .int .i64 x3_1 ∧ Aside0 (spec_l01Bits.l0 kq x0_1 x3_1 = some r) ∧ Aside0 (kq ≤ k) ∧ Drawn0 w w')
 case atStart=>exact ⟨(a0),(0),zs,zs,H', ⟨Nat.le_refl _⟩,by repeat (first | exact Drawn0.refl _ | apply Drawn0.step)⟩
 case round =>
  clear H'
  obtain ⟨x0_1,x3_1,rfl,rfl,HA,HK1,⟨m1,rfl⟩⟩:=hrel
  cases gk with
  | zero=>exact absurd HA.out (by simp [spec_l01Bits.l0])
  | succ k1 =>
   have H:=HA.out
   clear HA
   simp only [spec_l01Bits.l0] at H
   by_cases c2:x0_1 > 0
   ·rw [if_pos c2] at H
    have c2b0:decide (0 < x0_1) = true:=decide_eq_true c2
    clear c2
    have H' := zA H
    clear H
    go_wp2
    go_roundg k1
    case measure=>have:=HK1.out;omega
    case rel=>exact ⟨(wrap64 (Int.tdiv x0_1 2)),(wrap64 (x3_1 + (Int.tmod x0_1 2))),zs,zs,H', ⟨by have:=HK1.out;omega⟩,by repeat (first | exact Drawn0.refl _ | apply Drawn0.step)⟩
   rw [if_neg c2] at H
   have c2b0:decide (0 < x0_1) = false:=decide_eq_false c2
   clear c2
   obtain rfl:=Option.some.inj H
   go_wp2
   go_ret
   exact ⟨zs,by repeat (first | exact Drawn0.refl _ | apply Drawn0.step)⟩
def spec_l06Reach.l0:Nat → Int → Int → Int → Int → List Int → Option (Int)
 | 0,_,_,_,_,_=>none
 | k + 1,x1,x5,x6,x536000,x536001=>if x6 < x536000 then ((spec_l01Bit.f x1 x6).bind fun t536=>(if t536 = true then (if 0 ≤ x6 then (if x6 < (x536001.length:Int) then (spec_l06Reach.l0 k x1 (Go.bits .or .i64 x5 (rd x536001 x6)) (wrap64 (x6 + 1)) x536000 x536001) else (none)) else (none)) else (spec_l06Reach.l0 k x1 x5 (wrap64 (x6 + 1)) x536000 x536001))) else (some x5)
def spec_l06Reach.f (k:Nat) (a0_0:Int) (l0_1:List Int) (a1:Int):Option (Int):=spec_l06Reach.l0 k a1 0 0 a0_0 l0_1
set_option maxHeartbeats 8000000 in
set_option maxRecDepth 100000 in
theorem spec_l06Reach.calls (k : Nat) (a0_0 : Int) (A0_1 : Option Addr) (c0_1 : Nat) (l0_1 : List Int) (a1 : Int) (r : Int) (w : World) (hr0_1 : Kd.C (Kd.int .i64) w A0_1 l0_1.length l0_1) (hc0_1 : l0_1.length ≤ c0_1) (h : spec_l06Reach.f k a0_0 l0_1 a1 = some r) :
  Calls Tryz.prog 51 #[.agg #[.int .i64 a0_0,.slice A0_1 l0_1.length c0_1],.int .i64 a1] w fun e w' => e = .returned (.int .i64 r) ∧ Below w.heap.size w w' := by
 have hu26:=Tryz.underlying26
 have HR0_1:=zA hr0_1
 have HC0_1:=zA hc0_1
 clear hr0_1 hc0_1
 have HB:=zA (kW w.heap.size w)
 have H:=h
 unfold spec_l06Reach.f at H
 clear h
 have H' := zA H
 clear H
 go_enter Tryz.func51,Tryz.ntmps51
 go_wp2_with (first | (refine zBE 2 #[.int .i64 a0_0,.slice A0_1 l0_1.length c0_1] 26 ?_;intro gb535 hg w3 hbox hb;have BK535:=zA (hbox);have GW535:=zA (zBH hg HB.out);have GE535:=zA (zBH hg HB.out);replace HB:=zA (kQ (zQ HB.out) hb);clear hb hbox hg))
 go_loopg [5,6] k (fun kq v5 v6 w' => ∃ (x5_1:Int) (x6_1:Int),v5 = .int .i64 x5_1 ∧ v6 = .int .i64 x6_1 ∧ Aside0 (spec_l06Reach.l0 kq a1 x5_1 x6_1 a0_0 l0_1 = some r) ∧ Aside0 (kq ≤ k) ∧ Aside0 (w'.heap[gb535]? = some (.cells #[.int .i64 a0_0,(.slice A0_1 l0_1.length c0_1)] 26 (0,0))) ∧ Aside0 (Below w.heap.size w w'))
 case atStart=>exact ⟨(0),(0),zs,zs,H', ⟨Nat.le_refl _⟩,⟨zR BK535.out⟩,⟨zT HB.out GE535.out⟩⟩
 case round =>
  clear H'
  obtain ⟨x5_1,x6_1,rfl,rfl,HA,HK1,BK535,HB⟩:=hrel
  cases gk with
  | zero=>exact absurd HA.out (by simp [spec_l06Reach.l0])
  | succ k1 =>
   have H:=HA.out
   clear HA
   simp only [spec_l06Reach.l0] at H
   by_cases c4:x6_1 < a0_0
   ·rw [if_pos c4] at H
    have c4b0:decide (x6_1 < a0_0) = true:=decide_eq_true c4
    clear c4
    obtain ⟨t536,A5,H⟩:=zb H
    try dsimp only at H
    by_cases c6:t536 = true
    ·subst c6
     rw [if_pos rfl] at H
     by_cases c7:0 ≤ x6_1
     ·rw [if_pos c7] at H
      have c7b0:decide (0 ≤ x6_1) = true:=decide_eq_true c7
      clear c7
      by_cases c8:x6_1 < (l0_1.length:Int)
      ·rw [if_pos c8] at H
       have c8b0:decide (x6_1 < (l0_1.length:Int)) = true:=decide_eq_true c8
       clear c8
       have H' := zA H
       clear H
       obtain ⟨hcz9_0,hcz9_1,hfz9_0,hfz9_1⟩:=zB3 BK535.out
       go_wp2_with (first | (refine zO (some 15) Tryz.func70 #[.int .i64 a1,.int .i64 x6_1] ?_;(with_reducible refine (spec_l01Bit.calls a1 x6_1 true _ A5.out).mono ?_);rintro e w' ⟨rfl,⟨nd,rfl⟩⟩;refine ⟨_,rfl,?_⟩;have p537:0 ≤ (x6_1:Int):=zd;have q537:x6_1 < (l0_1.length:Int):=zd;obtain ⟨ad537,e537,hx537_0⟩:=Kd.at_int HR0_1.out x6_1 p537 q537;cases e537;replace hx537_0:=(HB.out.cell (jG w _ hx537_0)).trans hx537_0;replace p537:=eq_true p537;replace q537:=eq_true q537))
       go_roundg k1
       case measure=>have:=HK1.out;omega
       case rel=>exact ⟨(Go.bits .or .i64 x5_1 (rd l0_1 x6_1)),(wrap64 (x6_1 + 1)),zs,zs,H', ⟨by have:=HK1.out;omega⟩,⟨zR BK535.out⟩,⟨zT HB.out GE535.out⟩⟩
      rw [if_neg c8] at H
      exact absurd H (by simp)
     rw [if_neg c7] at H
     exact absurd H (by simp)
    replace c6:=Bool.eq_false_iff.mpr c6
    subst c6
    rw [if_neg (show ¬ (false = true) by decide)] at H
    have H' := zA H
    clear H
    obtain ⟨hcz10_0,hcz10_1,hfz10_0,hfz10_1⟩:=zB3 BK535.out
    go_wp2_with (first | (refine zO (some 15) Tryz.func70 #[.int .i64 a1,.int .i64 x6_1] ?_;(with_reducible refine (spec_l01Bit.calls a1 x6_1 false _ A5.out).mono ?_);rintro e w' ⟨rfl,⟨nd,rfl⟩⟩;refine ⟨_,rfl,?_⟩))
    go_roundg k1
    case measure=>have:=HK1.out;omega
    case rel=>exact ⟨(x5_1),(wrap64 (x6_1 + 1)),zs,zs,H', ⟨by have:=HK1.out;omega⟩,⟨zR BK535.out⟩,⟨zT HB.out GE535.out⟩⟩
   rw [if_neg c4] at H
   have c4b0:decide (x6_1 < a0_0) = false:=decide_eq_false c4
   clear c4
   obtain rfl:=Option.some.inj H
   obtain ⟨hcz11_0,hcz11_1,hfz11_0,hfz11_1⟩:=zB3 BK535.out
   go_wp2
   go_ret
   exact ⟨zr,zT HB.out GE535.out⟩
end Go.Proofs.YtemdfjdmokbcoaaGreatDoor.PAll
