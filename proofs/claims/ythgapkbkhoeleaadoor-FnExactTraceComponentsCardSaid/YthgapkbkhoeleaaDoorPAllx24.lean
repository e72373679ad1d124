-- Printed by a program of the session (wip/tools/pgen.py) out of the translation. Not trusted: Lean checks it.
import Derived.Test.YthgapkbkhoeleaaDoorPAllx0
import Derived.Test.YthgapkbkhoeleaaDoorPAllx4
import Derived.Test.YthgapkbkhoeleaaDoorPAllx11
import Derived.Test.YthgapkbkhoeleaaDoorPAllx23
namespace Go.Proofs.YthgapkbkhoeleaaDoor.PAll
open Go.RowKit Go.Proofs.YthgapkbkhoeleaaDoor.T Go.Proofs.YthgapkbkhoeleaaDoorW.PrintWords Go.Proofs.YthgapkbkhoeleaaDoorW.PrintLast Go.Proofs.YthgapkbkhoeleaaDoorW.PrintMore
attribute [local go_sem] max2_int min2_int max_two min_two max_three min_three max_four min_four   -- for this text's walks alone
set_option linter.unusedVariables false
set_option linter.unusedSimpArgs false

/-! ### laws_FnExactTraceComponents: function 3 -/
def laws_eqInt64S_BFnExactTraceComponents.f (k : Nat) (l0 : List Int) (l1 : List Int) : Option (Bool) := laws_eqInt64S.f k l0 l1
theorem laws_eqInt64S_BFnExactTraceComponents.calls (k : Nat) (A0 : Option Addr) (c0 : Nat) (l0 : List Int) (A1 : Option Addr) (c1 : Nat) (l1 : List Int) (r : Bool) (w : World) (hr0 : Kd.C (Kd.int .i64) w A0 l0.length l0) (hc0 : l0.length ≤ c0) (hr1 : Kd.C (Kd.int .i64) w A1 l1.length l1) (hc1 : l1.length ≤ c1) (h : laws_eqInt64S_BFnExactTraceComponents.f k l0 l1 = some r) :
 Calls Tryd.prog 22 #[.slice A0 l0.length c0, .slice A1 l1.length c1] w fun e w' => e = .returned (.bool r) ∧ Below w.heap.size w w' := by
 refine (laws_eqInt64S.calls k A0 c0 l0 A1 c1 l1 r w hr0 hc0 hr1 hc1 h).mono ?_
 rintro e w' ⟨h1, h2⟩
 exact ⟨h1, Drawn0.below h2⟩
def laws_eqInt64SS_BFnExactTraceComponents.f (k : Nat) (l0 : List (List Int)) (l1 : List (List Int)) : Option (Bool) := laws_eqInt64SS.f k l0 l1
theorem laws_eqInt64SS_BFnExactTraceComponents.calls (k : Nat) (A0 : Option Addr) (c0 : Nat) (l0 : List (List Int)) (A1 : Option Addr) (c1 : Nat) (l1 : List (List Int)) (r : Bool) (w : World) (hr0 : Kd.C (Kd.slice 2 (Kd.int .i64)) w A0 l0.length l0) (hc0 : l0.length ≤ c0) (hr1 : Kd.C (Kd.slice 2 (Kd.int .i64)) w A1 l1.length l1) (hc1 : l1.length ≤ c1) (h : laws_eqInt64SS_BFnExactTraceComponents.f k l0 l1 = some r) :
 Calls Tryd.prog 20 #[.slice A0 l0.length c0, .slice A1 l1.length c1] w fun e w' => e = .returned (.bool r) ∧ Below w.heap.size w w' := by
 refine (laws_eqInt64SS.calls k A0 c0 l0 A1 c1 l1 r w hr0 hc0 hr1 hc1 h).mono ?_
 rintro e w' ⟨h1, h2⟩
 exact ⟨h1, Drawn0.below h2⟩
def laws_FnExactTraceComponents.f (k : Nat) (a0_0 : Int) (l0_1 : List Int) (l1 : List Int) : Option (Bool) := if (l1.length : Int) > 1048576 then (some true) else ((laws_szAlphabet.f a0_0 l0_1 1048576).bind fun t1447 => (if t1447 < 0 then (some true) else ((laws_toAlphabet.f k a0_0 l0_1).bind fun bt1448 => ((laws_toInt64S.f k l1).bind fun t1452 => ((spec_TraceComponents.f k bt1448.1 bt1448.2 t1452).bind fun bt1455 => ((laws_toAlphabet.f k a0_0 l0_1).bind fun bt1459 => ((laws_toInt64S.f k l1).bind fun t1464 => ((impl_TraceComponents.f k bt1459.1 bt1459.2 t1464).bind fun bt1467 => ((laws_eqInt64SS_BFnExactTraceComponents.f k bt1467.1 bt1455.1).bind fun t1471 => (if t1471 = true then (if bt1467.2 = bt1455.2 then ((laws_toAlphabet.f k a0_0 l0_1).bind fun bt1472 => ((laws_eqAlphabet.f k bt1459.1 bt1459.2 bt1472.1 bt1472.2).bind fun t1476 => (if t1476 = true then ((laws_toInt64S.f k l1).bind fun t1477 => ((laws_eqInt64S_BFnExactTraceComponents.f k t1464 t1477).bind fun t1480 => (if t1480 = true then ((laws_markAlphabet.f k bt1459.1 bt1459.2 1).bind fun bt1481 => ((laws_markInt64S.f k t1464 bt1481.1).bind fun bt1483 => (if bt1483.1 < 0 then (none) else ((laws_eqInt64SS_BFnExactTraceComponents.f k bt1467.1 bt1455.1).bind fun t1485 => (if t1485 = true then ((laws_markInt64SS.f k bt1467.1 1).bind fun bt1486 => ((laws_heldInt64SS.f k bt1486.2 1).bind fun t1488 => (if t1488 < 0 then (none) else (if t1488 = bt1486.1 then ((laws_toAlphabet.f k a0_0 l0_1).bind fun bt1489 => ((laws_toInt64S.f k l1).bind fun t1493 => ((impl_TraceComponents.f k bt1489.1 bt1489.2 t1493).bind fun bt1496 => ((laws_eqInt64SS_BFnExactTraceComponents.f k bt1496.1 bt1455.1).bind fun t1500 => (if t1500 = true then (if bt1496.2 = bt1455.2 then ((laws_heldInt64SS.f k bt1486.2 1).bind fun t1501 => (if t1501 < 0 then (none) else (if t1501 = bt1486.1 then (some true) else (none)))) else (none)) else (none)))))) else (none))))) else (none)))))) else (none)))) else (none)))) else (none)) else (none)))))))))))

set_option maxHeartbeats 8000000 in
set_option maxRecDepth 100000 in
theorem laws_FnExactTraceComponents.calls (k : Nat) (a0_0 : Int) (A0_1 : Option Addr) (c0_1 : Nat) (l0_1 : List Int) (A1 : Option Addr) (c1 : Nat) (l1 : List Int) (r : Bool) (w : World) (hr0_1 : Kd.C (Kd.int .i64) w A0_1 l0_1.length l0_1) (hc0_1 : l0_1.length ≤ c0_1) (hr1 : Kd.C (Kd.int .i64) w A1 l1.length l1) (hc1 : l1.length ≤ c1) (hT : TabW w) (h : laws_FnExactTraceComponents.f k a0_0 l0_1 l1 = some r) :
  Calls Tryd.prog 3 #[.agg #[.int .i64 a0_0, .slice A0_1 l0_1.length c0_1], .slice A1 l1.length c1] w fun e w' => e = .returned (.bool r) ∧ Below w.heap.size w w' := by
 have hu24 := Tryd.underlying24
 have hu29 := Tryd.underlying29
 have HT := zA hT
 clear hT
 have HR0_1 := zA hr0_1
 have HC0_1 := zA hc0_1
 clear hr0_1 hc0_1
 have HR1 := zA hr1
 have HC1 := zA hc1
 clear hr1 hc1
 have HB := zA (kW w.heap.size w)
 have H := h
 unfold laws_FnExactTraceComponents.f at H
 clear h
 by_cases c3 : (l1.length : Int) > 1048576
 ·rw [if_pos c3] at H
  have c3b0 : decide (1048576 < (l1.length : Int)) = true := decide_eq_true c3
  have c3b1 : decide (1048576 < l1.length) = true := decide_eq_true (by omega)
  clear c3
  obtain rfl := Option.some.inj H
  go_enter Tryd.func3, Tryd.ntmps3
  go_wp2_with (first | (refine zBE 2 #[.int .i64 a0_0, .slice A0_1 l0_1.length c0_1] 24 ?_; intro gb1446 hg w4 hbox hb; have BK1446 := zA (hbox); have GW1446 := zA (zBH hg HB.out); have GE1446 := zA (zBH hg HB.out); replace HB := zA (kQ (zQ HB.out) hb); clear hb hbox hg))
  go_ret
  exact ⟨zr, zT HB.out GE1446.out⟩
 rw [if_neg c3] at H
 have c3b0 : decide (1048576 < (l1.length : Int)) = false := decide_eq_false c3
 have c3b1 : decide (1048576 < l1.length) = false := decide_eq_false (by omega)
 clear c3
 obtain ⟨t1447, A5, H⟩ := zb H
 try dsimp only at H
 by_cases c6 : t1447 < 0
 ·rw [if_pos c6] at H
  have c6b0 : decide (t1447 < 0) = true := decide_eq_true c6
  clear c6
  obtain rfl := Option.some.inj H
  go_enter Tryd.func3, Tryd.ntmps3
  go_wp2_with (first | (refine zBE 2 #[.int .i64 a0_0, .slice A0_1 l0_1.length c0_1] 24 ?_; intro gb1446 hg w7 hbox hb; have BK1446 := zA (hbox); have GW1446 := zA (zBH hg HB.out); have GE1446 := zA (zBH hg HB.out); replace HB := zA (kQ (zQ HB.out) hb); clear hb hbox hg; obtain ⟨hcz8_0, hcz8_1, hfz8_0, hfz8_1⟩ := zB3 BK1446.out) | (refine zO (some 22) Tryd.func15 #[.agg #[.int .i64 a0_0, .slice A0_1 l0_1.length c0_1], .int .i64 1048576] ?_; (with_reducible refine (laws_szAlphabet.calls a0_0 _ _ l0_1 1048576 t1447 _ ?side1 ?side2 A5.out).mono ?_); (case side1 => exact zS (kO HR0_1.out HB.out)); (case side2 => exact HC0_1.out); rintro e w9 ⟨rfl, hb⟩; refine ⟨_, rfl, ?_⟩; replace BK1446 := zA (zB1 BK1446.out hb); replace HB := zA (kQ (zT HB.out GE1446.out) hb); (try clear hb)))
  go_ret
  exact ⟨zr, zT HB.out GE1446.out⟩
 rw [if_neg c6] at H
 have c6b0 : decide (t1447 < 0) = false := decide_eq_false c6
 clear c6
 obtain ⟨⟨t1448, t1449⟩, A10, H⟩ := zb H
 try dsimp only at H
 obtain ⟨t1452, A11, H⟩ := zb H
 try dsimp only at H
 obtain ⟨⟨t1455, t1458⟩, A12, H⟩ := zb H
 try dsimp only at H
 obtain ⟨⟨t1459, t1460⟩, A13, H⟩ := zb H
 try dsimp only at H
 obtain ⟨t1464, A14, H⟩ := zb H
 try dsimp only at H
 obtain ⟨⟨t1467, t1470⟩, A15, H⟩ := zb H
 try dsimp only at H
 obtain ⟨t1471, A16, H⟩ := zb H
 try dsimp only at H
 by_cases c17 : t1471 = true
 ·subst c17
  rw [if_pos rfl] at H
  by_cases c18 : t1470 = t1458
  ·rw [if_pos c18] at H
   obtain ⟨c18b0, c18b1⟩ := zT1 c18
   clear c18
   obtain ⟨⟨t1472, t1473⟩, A19, H⟩ := zb H
   try dsimp only at H
   obtain ⟨t1476, A20, H⟩ := zb H
   try dsimp only at H
   by_cases c21 : t1476 = true
   ·subst c21
    rw [if_pos rfl] at H
    obtain ⟨t1477, A22, H⟩ := zb H
    try dsimp only at H
    obtain ⟨t1480, A23, H⟩ := zb H
    try dsimp only at H
    by_cases c24 : t1480 = true
    ·subst c24
     rw [if_pos rfl] at H
     obtain ⟨⟨t1481, t1482⟩, A25, H⟩ := zb H
     try dsimp only at H
     obtain ⟨⟨t1483, t1484⟩, A26, H⟩ := zb H
     try dsimp only at H
     by_cases c27 : t1483 < 0
     ·rw [if_pos c27] at H
      exact absurd H (by simp)
     rw [if_neg c27] at H
     have c27b0 : decide (t1483 < 0) = false := decide_eq_false c27
     clear c27
     obtain ⟨t1485, A28, H⟩ := zb H
     try dsimp only at H
     by_cases c29 : t1485 = true
     ·subst c29
      rw [if_pos rfl] at H
      obtain ⟨⟨t1486, t1487⟩, A30, H⟩ := zb H
      try dsimp only at H
      obtain ⟨t1488, A31, H⟩ := zb H
      try dsimp only at H
      by_cases c32 : t1488 < 0
      ·rw [if_pos c32] at H
       exact absurd H (by simp)
      rw [if_neg c32] at H
      have c32b0 : decide (t1488 < 0) = false := decide_eq_false c32
      clear c32
      by_cases c33 : t1488 = t1486
      ·rw [if_pos c33] at H
       obtain ⟨c33b0, c33b1⟩ := zT1 c33
       clear c33
       obtain ⟨⟨t1489, t1490⟩, A34, H⟩ := zb H
       try dsimp only at H
       obtain ⟨t1493, A35, H⟩ := zb H
       try dsimp only at H
       obtain ⟨⟨t1496, t1499⟩, A36, H⟩ := zb H
       try dsimp only at H
       obtain ⟨t1500, A37, H⟩ := zb H
       try dsimp only at H
       by_cases c38 : t1500 = true
       ·subst c38
        rw [if_pos rfl] at H
        by_cases c39 : t1499 = t1458
        ·rw [if_pos c39] at H
         obtain ⟨c39b0, c39b1⟩ := zT1 c39
         clear c39
         obtain ⟨t1501, A40, H⟩ := zb H
         try dsimp only at H
         by_cases c41 : t1501 < 0
         ·rw [if_pos c41] at H
          exact absurd H (by simp)
         rw [if_neg c41] at H
         have c41b0 : decide (t1501 < 0) = false := decide_eq_false c41
         clear c41
         by_cases c42 : t1501 = t1486
         ·rw [if_pos c42] at H
          obtain ⟨c42b0, c42b1⟩ := zT1 c42
          clear c42
          obtain rfl := Option.some.inj H
          go_enter Tryd.func3, Tryd.ntmps3
          try go_wp2_with (first | (refine zBE 2 #[.int .i64 a0_0, .slice A0_1 l0_1.length c0_1] 24 ?_; intro gb1446 hg w43 hbox hb; have BK1446 := zA (hbox); have GW1446 := zA (zBH hg HB.out); have GE1446 := zA (zBH hg HB.out); replace HB := zA (kQ (zQ HB.out) hb); clear hb hbox hg; obtain ⟨hcz44_0, hcz44_1, hfz44_0, hfz44_1⟩ := zB3 BK1446.out) | (refine zO (some 22) Tryd.func15 #[.agg #[.int .i64 a0_0, .slice A0_1 l0_1.length c0_1], .int .i64 1048576] ?_; (with_reducible refine (laws_szAlphabet.calls a0_0 _ _ l0_1 1048576 t1447 _ ?side1 ?side2 A5.out).mono ?_); (case side1 => exact zS (kO HR0_1.out HB.out)); (case side2 => exact HC0_1.out); rintro e w45 ⟨rfl, hb⟩; refine ⟨_, rfl, ?_⟩; replace BK1446 := zA (zB1 BK1446.out hb); replace HB := zA (kQ (zT HB.out GE1446.out) hb); (try clear hb); obtain ⟨hcz46_0, hcz46_1, hfz46_0, hfz46_1⟩ := zB3 BK1446.out) | (refine zO (some 27) Tryd.func17 #[.agg #[.int .i64 a0_0, .slice A0_1 l0_1.length c0_1]] ?_; (with_reducible refine (laws_toAlphabet.calls k a0_0 _ _ l0_1 t1448 t1449 _ ?side1 ?side2 A10.out).mono ?_); (case side1 => exact zS (kO HR0_1.out HB.out)); (case side2 => exact HC0_1.out); rintro e w47 ⟨v1450, rfl, ho0, hb⟩; refine ⟨_, rfl, ?_⟩; have HO1451 := zA (kI ho0 (kP (zT HB.out GE1446.out))); replace BK1446 := zA (zB1 BK1446.out hb); replace HB := zA (kQ (zT HB.out GE1446.out) hb); (try clear hb); (try clear ho0)) | (refine zO (some 29) Tryd.func18 #[.slice A1 l1.length c1] ?_; (with_reducible refine (laws_toInt64S.calls k _ _ l1 t1452 _ ?side1 ?side2 A11.out).mono ?_); (case side1 => exact zS (kO HR1.out HB.out)); (case side2 => exact HC1.out); rintro e w48 ⟨v1453, rfl, ho0, hb⟩; refine ⟨_, rfl, ?_⟩; have HO1454 := zA (kI (kF ho0 (kH (zP HO1451.out))) (kP (zT HB.out GE1446.out))); replace HO1451 := zA (kE (zP HO1451.out) (kC ho0) hb); replace BK1446 := zA (zB1 BK1446.out hb); replace HB := zA (kQ (zT HB.out GE1446.out) hb); (try clear hb); (try clear ho0); obtain ⟨Ao49, co49, eo49⟩ := kM HO1451.out; subst eo49; obtain ⟨Ao50, co50, eo50⟩ := kM HO1454.out; subst eo50) | (refine zO (some 30) Tryd.func16 #[.agg #[.int .i64 t1448, .slice Ao49 t1449.length co49], .slice Ao50 t1452.length co50] ?_; (with_reducible refine (spec_TraceComponents.calls k t1448 _ _ t1449 _ _ t1452 t1455 t1458 _ ?side1 ?side2 ?side3 ?side4 A12.out).mono ?_); (case side1 => exact zS (kB HO1451.out).2.2); (case side2 => exact (kB HO1451.out).2.1); (case side3 => exact zS (kB HO1454.out).2.2); (case side4 => exact (kB HO1454.out).2.1); rintro e w51 ⟨v1456, rfl, ho0, hb⟩; refine ⟨_, rfl, ?_⟩; have HO1457 := zA (Kd.S_lower (Kd.S_new' (Kd.S_new' ho0 (kH (zP HO1451.out))) (kH (zP HO1454.out))) (kP (zT HB.out GE1446.out))); replace HO1451 := zA (kL (zP HO1451.out) hb); replace HO1454 := zA (kL (zP HO1454.out) hb); replace BK1446 := zA (zB1 BK1446.out hb); replace HB := zA (kQ (zT HB.out GE1446.out) hb); (try clear hb); (try clear ho0); obtain ⟨hcz52_0, hcz52_1, hfz52_0, hfz52_1⟩ := zB3 BK1446.out) | (refine zO (some 34) Tryd.func17 #[.agg #[.int .i64 a0_0, .slice A0_1 l0_1.length c0_1]] ?_; (with_reducible refine (laws_toAlphabet.calls k a0_0 _ _ l0_1 t1459 t1460 _ ?side1 ?side2 A13.out).mono ?_); (case side1 => exact zS (kO HR0_1.out HB.out)); (case side2 => exact HC0_1.out); rintro e w53 ⟨v1461, rfl, ho0, hb⟩; refine ⟨_, rfl, ?_⟩; replace HO1457 := zA (Kd.S_elder' (by (with_reducible repeat (first | apply Kd.S_alloc | apply Kd.S_drewN | apply Kd.S_drew)); exact HO1457.out) (kC ho0) hb); have HO1462 := zA (kI (kF (kF ho0 (kH (zP HO1451.out))) (kH (zP HO1454.out))) (kP (zT HB.out GE1446.out))); replace HO1451 := zA (kE (zP HO1451.out) (kC ho0) hb); replace HO1454 := zA (kE (zP HO1454.out) (kC ho0) hb); replace BK1446 := zA (zB1 BK1446.out hb); replace HB := zA (kQ (zT HB.out GE1446.out) hb); (try clear hb); (try clear ho0)) | (refine zBE 8 #[.int .i64 0, .slice none 0 0] 29 ?_; intro gb1463 hg w54 hbox hb; replace HO1451 := zA (kL (zP HO1451.out) hb); replace HO1454 := zA (kL (zP HO1454.out) hb); replace HO1457 := zA (Kd.S_below (by (with_reducible repeat (first | apply Kd.S_alloc | apply Kd.S_drewN | apply Kd.S_drew)); exact HO1457.out) hb); replace HO1462 := zA (kL (zP HO1462.out) hb); have BK1463 := zA (hbox); have GW1463 := zA (zB6 hg (kP (zT HB.out GE1446.out)) : w.heap.size ≤ gb1463); have GE1463 := zA (zB6 hg (kP (zT HB.out GE1446.out)) : w.heap.size ≤ gb1463); replace HB := zA (kQ (zT HB.out GE1446.out) hb); have NB1446_1463 := zA (zB4 hg BK1446.out : gb1446 ≠ gb1463); have NB1463_1446 := zA (zB5 hg BK1446.out : gb1463 ≠ gb1446); replace BK1446 := zA (zB1 BK1446.out hb); clear hb hbox hg; have hnb55 := NB1463_1446.out; have hnc55 := NB1446_1463.out; obtain ⟨hcz56_0, hcz56_1, hfz56_0, hfz56_1⟩ := zB3 BK1463.out; obtain ⟨Ao57, co57, eo57⟩ := kM HO1462.out; subst eo57) | (refine zO (some 36) Tryd.func18 #[.slice A1 l1.length c1] ?_; (with_reducible refine (laws_toInt64S.calls k _ _ l1 t1464 _ ?side1 ?side2 A14.out).mono ?_); (case side1 => exact kO HR1.out (zV HB.out GE1446.out GE1463.out)); (case side2 => exact HC1.out); rintro e w58 ⟨v1465, rfl, ho0, hb⟩; refine ⟨_, rfl, ?_⟩; replace HO1457 := zA (Kd.S_elder' (by (with_reducible repeat (first | apply Kd.S_alloc | apply Kd.S_drewN | apply Kd.S_drew)); exact (Kd.S_mono (Kd.S_far (p := ⟨gb1463, 1, none⟩) (Kd.S_far (p := ⟨gb1463, 0, none⟩) (Kd.S_types HO1457.out BK1463.out (by decide)) (fun _ hk => hk.2) (.int .i64 t1459)) (fun _ hk => hk.2) (.slice Ao57 t1460.length co57)) (fun _ h_ => h_.1))) (kC ho0) hb); have HO1466 := zA (kI (kF (kF (kF ho0 (kH (zP (zFG HO1451.out BK1463.out (.int .i64 t1459) (.slice Ao57 t1460.length co57))))) (kH (zP (zFG HO1454.out BK1463.out (.int .i64 t1459) (.slice Ao57 t1460.length co57))))) (kH (zP (zFG HO1462.out BK1463.out (.int .i64 t1459) (.slice Ao57 t1460.length co57))))) (kP (zV HB.out GE1446.out GE1463.out))); replace HO1451 := zA (kE (zP (zFG HO1451.out BK1463.out (.int .i64 t1459) (.slice Ao57 t1460.length co57))) (kC ho0) hb); replace HO1454 := zA (kE (zP (zFG HO1454.out BK1463.out (.int .i64 t1459) (.slice Ao57 t1460.length co57))) (kC ho0) hb); replace HO1462 := zA (kE (zP (zFG HO1462.out BK1463.out (.int .i64 t1459) (.slice Ao57 t1460.length co57))) (kC ho0) hb); replace BK1446 := zA (blk_below (g := gb1446) (o := .cells #[.int .i64 a0_0, .slice A0_1 l0_1.length c0_1] 24 (0, 0)) (zBG BK1446.out NB1446_1463.out NB1446_1463.out) hb); replace BK1463 := zA (blk_below (g := gb1463) (o := .cells #[.int .i64 t1459, .slice Ao57 t1460.length co57] 29 (0, 0)) (zRP BK1463.out) hb); replace HB := zA (kQ (zV HB.out GE1446.out GE1463.out) hb); (try clear hb); (try clear ho0); obtain ⟨hcz59_0, hcz59_1, hfz59_0, hfz59_1⟩ := zB3 BK1463.out; obtain ⟨Ao60, co60, eo60⟩ := kM HO1466.out; subst eo60) | (refine zO (some 40) Tryd.func19 #[.agg #[.int .i64 t1459, .slice Ao57 t1460.length co57], .slice Ao60 t1464.length co60] ?_; (with_reducible refine (impl_TraceComponents.calls k t1459 (fun k_ => some k_ = (.slice Ao57 t1460.length co57 : Value).ownBlock) _ _ t1460 (fun k_ => some k_ = (.slice Ao60 t1464.length co60 : Value).ownBlock) _ _ t1464 t1467 t1470 _ ?side1 ?side2 ?side3 A15.out).mono ?_); (case side1 => exact jL (jK rfl (kD (kD (Kd.R_apart' (HO1462.out) (Kd.S_typed HO1457.out) (by decide)) BK1446.out (by decide)) BK1463.out (by decide)))); (case side2 => exact jL (jK rfl (kD (kD (Kd.R_apart' (HO1466.out) (Kd.S_typed HO1457.out) (by decide)) BK1446.out (by decide)) BK1463.out (by decide)))); (case side3 => exact TabW.below HT.out (zV HB.out GE1446.out GE1463.out)); rintro e w61 ⟨v1468, rfl, ho0, hb⟩; refine ⟨_, rfl, ?_⟩; obtain ⟨nbZ, hz_⟩ := ZPair.mk (X := fun k_ => some k_ = (.slice Ao57 t1460.length co57 : Value).ownBlock ∨ some k_ = (.slice Ao60 t1464.length co60 : Value).ownBlock ∨ k_ = gb1446 ∨ k_ = gb1463) (Kd.S_types (Kd.S_types (by (with_reducible repeat (first | apply Kd.S_alloc | apply Kd.S_drewN | apply Kd.S_drew)); exact HO1457.out) (zR BK1446.out) (by decide)) (zR BK1463.out) (by decide)) (fun k_ hk_ hx_ => by rcases hx_ with hx_ | hx_ | hx_ | hx_ <;> repeat (first | exact hk_.2 hx_ | replace hk_ := hk_.1)) hb ho0 (fun k_ hx_ => Or.elim hx_ (fun e_ => kH (zP HO1462.out) k_ e_.symm) (fun h_ => Or.elim h_ (fun e_ => kH (zP HO1466.out) k_ e_.symm) (fun h_ => Or.elim h_ (fun e_ => by rw [e_]; exact blk_lt (zR BK1446.out)) (fun h_ => (fun e_ => by rw [e_]; exact blk_lt (zR BK1463.out)) h_)))) (kP (zV HB.out GE1446.out GE1463.out)); have HZ := zA hz_; clear hz_; have HO1469 := zA (Kd.S_lower (Kd.S_new' (Kd.S_new' (Kd.S_new' (Kd.S_new' (Kd.S_new' (Kd.S_mono (ok' := fun k_ => True) ho0 (fun _ hk_ => trivial)) (kH (zP HO1451.out))) (kH (zP HO1454.out))) (Kd.S_lt (by (with_reducible repeat (first | apply Kd.S_alloc | apply Kd.S_drewN | apply Kd.S_drew)); exact HO1457.out))) (kH (zP HO1462.out))) (kH (zP HO1466.out))) (kP (zV HB.out GE1446.out GE1463.out))); replace HO1451 := zA (kL (zP HO1451.out) hb); replace HO1454 := zA (kL (zP HO1454.out) hb); replace HO1457 := zA (Kd.S_elder' (by (with_reducible repeat (first | apply Kd.S_alloc | apply Kd.S_drewN | apply Kd.S_drew)); exact HO1457.out) (Kd.S_base ho0) hb); replace HO1462 := zA (kL (zP HO1462.out) hb); replace HO1466 := zA (kL (zP HO1466.out) hb); replace BK1446 := zA (zB1 BK1446.out hb); replace BK1463 := zA (zB1 BK1463.out hb); replace HB := zA (kQ (zV HB.out GE1446.out GE1463.out) hb); (try clear hb); (try clear ho0); obtain ⟨Ao62, co62, eo62⟩ := Kd.S_slice HO1469.out; subst eo62; obtain ⟨Ao63, co63, eo63⟩ := Kd.S_slice HO1457.out; subst eo63) | (refine zO (some 45) Tryd.func20 #[.slice Ao62 t1467.length co62, .slice Ao63 t1455.length co63] ?_; (with_reducible refine (laws_eqInt64SS_BFnExactTraceComponents.calls k _ _ t1467 _ _ t1455 true _ ?side1 ?side2 ?side3 ?side4 A16.out).mono ?_); (case side1 => exact zS (Kd.S_reads' HO1469.out).2.2); (case side2 => exact (Kd.S_reads' HO1469.out).2.1); (case side3 => exact zS (Kd.S_reads' HO1457.out).2.2); (case side4 => exact (Kd.S_reads' HO1457.out).2.1); rintro e w64 ⟨rfl, hb⟩; refine ⟨_, rfl, ?_⟩; replace HZ := zA (ZPair.below (zPZ HZ.out) hb); replace HO1451 := zA (kL (zP HO1451.out) hb); replace HO1454 := zA (kL (zP HO1454.out) hb); replace HO1457 := zA (Kd.S_below (by (with_reducible repeat (first | apply Kd.S_alloc | apply Kd.S_drewN | apply Kd.S_drew)); exact HO1457.out) hb); replace HO1462 := zA (kL (zP HO1462.out) hb); replace HO1466 := zA (kL (zP HO1466.out) hb); replace HO1469 := zA (Kd.S_below (by (with_reducible repeat (first | apply Kd.S_alloc | apply Kd.S_drewN | apply Kd.S_drew)); exact HO1469.out) hb); replace BK1446 := zA (zB1 BK1446.out hb); replace BK1463 := zA (zB1 BK1463.out hb); replace HB := zA (kQ (zV HB.out GE1446.out GE1463.out) hb); (try clear hb)))
          replace HO1451 := zA (zH HO1451.out)
          replace HO1454 := zA (zH HO1454.out)
          replace HO1457 := zA (Kd.S_drew HO1457.out)
          replace HO1462 := zA (zH HO1462.out)
          replace HO1466 := zA (zH HO1466.out)
          replace HO1469 := zA (Kd.S_drew HO1469.out)
          replace BK1446 := zA (zK BK1446.out)
          replace BK1463 := zA (zK BK1463.out)
          replace HB := zA (zD HB.out)
          replace HZ := zA (ZPair.drew HZ.out)
          refine start_ (n := 5) (S := fun w' => w'.cell? ⟨gb1463, 0, none⟩ = some (.int .i64 t1459) ∧ w'.cell? ⟨gb1463, 1, none⟩ = some (.slice Ao57 t1460.length co57) ∧ w'.cell? ⟨gb1446, 0, none⟩ = some (.int .i64 a0_0) ∧ w'.cell? ⟨gb1446, 1, none⟩ = some (.slice A0_1 l0_1.length c0_1)) (ds := []) #[false, false, false, false, false] (by kernel_rfl) rfl rfl ⟨(kV BK1463.out 0).trans rfl, (kV BK1463.out 1).trans rfl, (kV BK1446.out 0).trans rfl, (kV BK1446.out 1).trans rfl⟩ (fun hHeld => ?_)
          generalize w64.drew = w65 at HO1451 HO1454 HO1457 HO1462 HO1466 HO1469 BK1446 BK1463 HB HZ hHeld ⊢
          refine take_ (i := 0) (N := some 52) (v := ?_) (a' := ?_) #[true, false, false, false, false] rfl rfl (by kernel_rfl) (fun _ _ _ h => h) (Or.inl ⟨by rfl, ?_⟩) hHeld ?_ ?_
          rotate_left
          ·rintro w' ⟨s0, s1, s2, s3⟩
           go_simp
           with_reducible rfl
          rotate_left
          ·simp only [Act.put, zL, zM, zN, i64_w, i32_w]
           rfl
          refine take_ (i := 1) (N := some 53) (v := ?_) (a' := ?_) #[true, true, false, false, false] rfl rfl (by kernel_rfl) (fun _ _ _ h => h) (Or.inl ⟨by rfl, ?_⟩) hHeld ?_ ?_
          rotate_left
          ·rintro w' ⟨s0, s1, s2, s3⟩
           go_simp
           with_reducible rfl
          rotate_left
          ·simp only [Act.put, zL, zM, zN, i64_w, i32_w]
           rfl
          refine one_ (i := 2) (N := some 54) #[true, true, true, false, false] rfl rfl (by kernel_rfl) (by decide) (fun K hK => ?_)
          refine goes_ Tryd.func17 (by kernel_rfl) rfl #[.agg #[.int .i64 a0_0, .slice A0_1 l0_1.length c0_1]] (by rfl) rfl rfl zg ?_
          with_reducible refine (laws_toAlphabet.calls k a0_0 _ _ l0_1 t1472 t1473 _ ?side1 ?side2 A19.out).mono ?_
          (case side1 => exact zS (kO HR0_1.out HB.out))
          (case side2 => exact HC0_1.out)
          rintro e w66 ⟨v1474, rfl, ho0, hb⟩
          refine ⟨_, rfl, ?_⟩
          replace HZ := zA (ZPair.below (zPZ HZ.out) hb)
          replace HO1457 := zA (Kd.S_elder' (by (with_reducible repeat (first | apply Kd.S_alloc | apply Kd.S_drewN | apply Kd.S_drew)); exact HO1457.out) (kC ho0) hb)
          replace HO1469 := zA (Kd.S_elder' (by (with_reducible repeat (first | apply Kd.S_alloc | apply Kd.S_drewN | apply Kd.S_drew)); exact HO1469.out) (kC ho0) hb)
          have HO1475 := zA (kI (kF (kF (kF (kF ho0 (kH (zP HO1451.out))) (kH (zP HO1454.out))) (kH (zP HO1462.out))) (kH (zP HO1466.out))) (kP (zV HB.out GE1446.out GE1463.out)))
          replace HO1451 := zA (kE (zP HO1451.out) (kC ho0) hb)
          replace HO1454 := zA (kE (zP HO1454.out) (kC ho0) hb)
          replace HO1462 := zA (kE (zP HO1462.out) (kC ho0) hb)
          replace HO1466 := zA (kE (zP HO1466.out) (kC ho0) hb)
          replace BK1446 := zA (zB1 BK1446.out hb)
          replace BK1463 := zA (zB1 BK1463.out hb)
          replace HB := zA (kQ (zV HB.out GE1446.out GE1463.out) hb)
          (try clear hb)
          (try clear hb2)
          (try clear hk)
          (try clear hi)
          (try clear hgw)
          (try clear ho0)
          obtain ⟨Ao67, co67, eo67⟩ := kM HO1475.out
          (first | subst eo67 | (injection eo67 with f1_ f2_ f3_; have f4_ := f1_.symm; have f5_ := f3_.symm; clear f1_ f2_ f3_; subst f4_; subst f5_))
          refine hK.out _ _ ⟨(kV BK1463.out 0).trans rfl, (kV BK1463.out 1).trans rfl, (kV BK1446.out 0).trans rfl, (kV BK1446.out 1).trans rfl⟩ (fun hHeld => ?_)
          clear hK K
          refine norm_ (a' := ?_) ?_ ?_
          rotate_left
          ·show Act.put _ (some 54) _ = _
           simp only [Act.put, zL, zM, zN, i64_w, i32_w]
           rfl
          refine one_ (i := 3) (N := some 55) #[true, true, true, true, false] rfl rfl (by kernel_rfl) (by decide) (fun K hK => ?_)
          refine goes_ Tryd.func21 (by kernel_rfl) rfl #[.agg #[.int .i64 t1459, .slice Ao57 t1460.length co57], .agg #[.int .i64 t1472, .slice Ao67 t1473.length co67]] (by rfl) rfl rfl zg ?_
          with_reducible refine (laws_eqAlphabet.calls k t1459 _ _ t1460 t1472 _ _ t1473 true _ ?side1 ?side2 ?side3 ?side4 A20.out).mono ?_
          (case side1 => exact zS (kB HO1462.out).2.2)
          (case side2 => exact (kB HO1462.out).2.1)
          (case side3 => exact zS (kB HO1475.out).2.2)
          (case side4 => exact (kB HO1475.out).2.1)
          rintro e w68 ⟨rfl, hb⟩
          refine ⟨_, rfl, ?_⟩
          replace HZ := zA (ZPair.below (zPZ HZ.out) hb)
          replace HO1451 := zA (kL (zP HO1451.out) hb)
          replace HO1454 := zA (kL (zP HO1454.out) hb)
          replace HO1457 := zA (Kd.S_below (by (with_reducible repeat (first | apply Kd.S_alloc | apply Kd.S_drewN | apply Kd.S_drew)); exact HO1457.out) hb)
          replace HO1462 := zA (kL (zP HO1462.out) hb)
          replace HO1466 := zA (kL (zP HO1466.out) hb)
          replace HO1469 := zA (Kd.S_below (by (with_reducible repeat (first | apply Kd.S_alloc | apply Kd.S_drewN | apply Kd.S_drew)); exact HO1469.out) hb)
          replace HO1475 := zA (kL (zP HO1475.out) hb)
          replace BK1446 := zA (zB1 BK1446.out hb)
          replace BK1463 := zA (zB1 BK1463.out hb)
          replace HB := zA (kQ (zV HB.out GE1446.out GE1463.out) hb)
          (try clear hb)
          (try clear hb2)
          (try clear hk)
          (try clear hi)
          (try clear hgw)
          refine hK.out _ _ ⟨(kV BK1463.out 0).trans rfl, (kV BK1463.out 1).trans rfl, (kV BK1446.out 0).trans rfl, (kV BK1446.out 1).trans rfl⟩ (fun hHeld => ?_)
          clear hK K
          refine norm_ (a' := ?_) ?_ ?_
          rotate_left
          ·show Act.put _ (some 55) _ = _
           simp only [Act.put, zL, zM, zN, i64_w, i32_w]
           rfl
          refine pure_ (i := 4) (N := some 56) (v := ?_) (a' := ?_) #[true, true, true, true, true] rfl rfl (by kernel_rfl) (fun _ _ _ h => h) (Or.inl ⟨by rfl, ?_⟩) ?_ ?_
          rotate_left
          ·intro w'
           go_simp
           with_reducible rfl
          rotate_left
          ·simp only [Act.put, zL, zM, zN, i64_w, i32_w]
           rfl
          refine done_ (by kernel_rfl) ?_
          try go_wp2_with (first | (refine zO (some 59) Tryd.func18 #[.slice A1 l1.length c1] ?_; (with_reducible refine (laws_toInt64S.calls k _ _ l1 t1477 _ ?side1 ?side2 A22.out).mono ?_); (case side1 => exact zS (kO HR1.out HB.out)); (case side2 => exact HC1.out); rintro e w69 ⟨v1478, rfl, ho0, hb⟩; refine ⟨_, rfl, ?_⟩; replace HZ := zA (ZPair.below (zPZ HZ.out) hb); replace HO1457 := zA (Kd.S_elder' (by (with_reducible repeat (first | apply Kd.S_alloc | apply Kd.S_drewN | apply Kd.S_drew)); exact HO1457.out) (kC ho0) hb); replace HO1469 := zA (Kd.S_elder' (by (with_reducible repeat (first | apply Kd.S_alloc | apply Kd.S_drewN | apply Kd.S_drew)); exact HO1469.out) (kC ho0) hb); have HO1479 := zA (kI (kF (kF (kF (kF (kF ho0 (kH (zP HO1451.out))) (kH (zP HO1454.out))) (kH (zP HO1462.out))) (kH (zP HO1466.out))) (kH (zP HO1475.out))) (kP (zV HB.out GE1446.out GE1463.out))); replace HO1451 := zA (kE (zP HO1451.out) (kC ho0) hb); replace HO1454 := zA (kE (zP HO1454.out) (kC ho0) hb); replace HO1462 := zA (kE (zP HO1462.out) (kC ho0) hb); replace HO1466 := zA (kE (zP HO1466.out) (kC ho0) hb); replace HO1475 := zA (kE (zP HO1475.out) (kC ho0) hb); replace BK1446 := zA (zB1 BK1446.out hb); replace BK1463 := zA (zB1 BK1463.out hb); replace HB := zA (kQ (zV HB.out GE1446.out GE1463.out) hb); (try clear hb); (try clear ho0); obtain ⟨Ao70, co70, eo70⟩ := kM HO1479.out; subst eo70) | (refine zO (some 60) Tryd.func22 #[.slice Ao60 t1464.length co60, .slice Ao70 t1477.length co70] ?_; (with_reducible refine (laws_eqInt64S_BFnExactTraceComponents.calls k _ _ t1464 _ _ t1477 true _ ?side1 ?side2 ?side3 ?side4 A23.out).mono ?_); (case side1 => exact zS (kB HO1466.out).2.2); (case side2 => exact (kB HO1466.out).2.1); (case side3 => exact zS (kB HO1479.out).2.2); (case side4 => exact (kB HO1479.out).2.1); rintro e w71 ⟨rfl, hb⟩; refine ⟨_, rfl, ?_⟩; replace HZ := zA (ZPair.below (zPZ HZ.out) hb); replace HO1451 := zA (kL (zP HO1451.out) hb); replace HO1454 := zA (kL (zP HO1454.out) hb); replace HO1457 := zA (Kd.S_below (by (with_reducible repeat (first | apply Kd.S_alloc | apply Kd.S_drewN | apply Kd.S_drew)); exact HO1457.out) hb); replace HO1462 := zA (kL (zP HO1462.out) hb); replace HO1466 := zA (kL (zP HO1466.out) hb); replace HO1469 := zA (Kd.S_below (by (with_reducible repeat (first | apply Kd.S_alloc | apply Kd.S_drewN | apply Kd.S_drew)); exact HO1469.out) hb); replace HO1475 := zA (kL (zP HO1475.out) hb); replace HO1479 := zA (kL (zP HO1479.out) hb); replace BK1446 := zA (zB1 BK1446.out hb); replace BK1463 := zA (zB1 BK1463.out hb); replace HB := zA (kQ (zV HB.out GE1446.out GE1463.out) hb); (try clear hb); obtain ⟨hcz72_0, hcz72_1, hfz72_0, hfz72_1⟩ := zB3 BK1463.out) | (refine zO (some 64) Tryd.func23 #[.agg #[.int .i64 t1459, .slice Ao57 t1460.length co57], .int .i64 1] ?_; (with_reducible refine (laws_markAlphabet.calls k t1459 (fun k_ => some k_ = (.slice Ao57 t1460.length co57 : Value).ownBlock) (.slice Ao57 t1460.length co57) t1460 1 t1481 t1482 w _ ?side1 ?side2 A25.out).mono ?_); (case side1 => exact zV HB.out GE1446.out GE1463.out); (case side2 => exact jK rfl HO1462.out); rintro e w73 ⟨rfl, hy0, hb, hkp⟩; refine ⟨_, rfl, ?_⟩; replace HZ := zA (ZPair.kept (zPZ HZ.out) hkp (fun k_ h_ => Or.inl h_)); replace BK1446 := zA (blk_kept (zR BK1446.out) hkp (fun hs_ => (fun e_ => (Kd.R_ne HO1462.out BK1446.out (by decide)) e_) hs_)); replace HO1451 := zA (kA (ok' := fun k_ => some k_ ≠ (.slice Ao50 t1452.length co50 : Value).ownBlock ∧ some k_ ≠ (.slice Ao57 t1460.length co57 : Value).ownBlock ∧ some k_ ≠ (.slice Ao60 t1464.length co60 : Value).ownBlock ∧ some k_ ≠ (.slice Ao67 t1473.length co67 : Value).ownBlock ∧ some k_ ≠ (.slice Ao70 t1477.length co70 : Value).ownBlock) (Kd.R_keptB (HO1451.out) hkp (fun k_ hk_ hs_ => (hk_.1.1.1.2) hs_)) (fun k_ hk_ => ⟨hk_.1.1.1.1.1.2, hk_.1.1.1.1.2, hk_.1.1.1.2, hk_.1.1.2, hk_.1.2⟩)); replace HO1454 := zA (kA (ok' := fun k_ => some k_ ≠ (.slice Ao49 t1449.length co49 : Value).ownBlock ∧ some k_ ≠ (.slice Ao57 t1460.length co57 : Value).ownBlock ∧ some k_ ≠ (.slice Ao60 t1464.length co60 : Value).ownBlock ∧ some k_ ≠ (.slice Ao67 t1473.length co67 : Value).ownBlock ∧ some k_ ≠ (.slice Ao70 t1477.length co70 : Value).ownBlock) (Kd.R_keptB (HO1454.out) hkp (fun k_ hk_ hs_ => (hk_.1.1.1.2) hs_)) (fun k_ hk_ => ⟨hk_.1.1.1.1.1.2, hk_.1.1.1.1.2, hk_.1.1.1.2, hk_.1.1.2, hk_.1.2⟩)); replace HO1457 := zA (Kd.S_mono (ok' := fun k_ => some k_ ≠ (.slice Ao49 t1449.length co49 : Value).ownBlock ∧ some k_ ≠ (.slice Ao50 t1452.length co50 : Value).ownBlock ∧ some k_ ≠ (.slice Ao57 t1460.length co57 : Value).ownBlock ∧ some k_ ≠ (.slice Ao60 t1464.length co60 : Value).ownBlock ∧ some k_ ≠ (.slice Ao62 t1467.length co62 : Value).ownBlock ∧ some k_ ≠ (.slice Ao67 t1473.length co67 : Value).ownBlock ∧ some k_ ≠ (.slice Ao70 t1477.length co70 : Value).ownBlock) (Kd.S_keptB (HO1457.out) hkp (fun k_ hk_ hs_ => (hk_.1.1.1.1.2) hs_)) (fun k_ hk_ => ⟨hk_.1.1.1.1.1.1.1.2, hk_.1.1.1.1.1.1.2, hk_.1.1.1.1.1.2, hk_.1.1.1.1.2, hk_.1.1.1.2, hk_.1.1.2, hk_.1.2⟩)); replace BK1463 := zA (blk_kept (zR BK1463.out) hkp (fun hs_ => (fun e_ => (Kd.R_ne HO1462.out BK1463.out (by decide)) e_) hs_)); replace HO1462 := zA (Kd.R_reok rfl hy0 (fun k_ e_ => HO1462.out.1 k_ e_)); replace HO1466 := zA (kA (ok' := fun k_ => some k_ ≠ (.slice Ao49 t1449.length co49 : Value).ownBlock ∧ some k_ ≠ (.slice Ao50 t1452.length co50 : Value).ownBlock ∧ some k_ ≠ (.slice Ao57 t1460.length co57 : Value).ownBlock ∧ some k_ ≠ (.slice Ao67 t1473.length co67 : Value).ownBlock ∧ some k_ ≠ (.slice Ao70 t1477.length co70 : Value).ownBlock) (Kd.R_keptB (HO1466.out) hkp (fun k_ hk_ hs_ => (hk_.1.1.2) hs_)) (fun k_ hk_ => ⟨hk_.1.1.1.1.1.2, hk_.1.1.1.1.2, hk_.1.1.1.2, hk_.1.1.2, hk_.1.2⟩)); replace HO1469 := zA (Kd.S_mono (ok' := fun k_ => some k_ ≠ (.slice Ao49 t1449.length co49 : Value).ownBlock ∧ some k_ ≠ (.slice Ao50 t1452.length co50 : Value).ownBlock ∧ some k_ ≠ (.slice Ao63 t1455.length co63 : Value).ownBlock ∧ some k_ ≠ (.slice Ao57 t1460.length co57 : Value).ownBlock ∧ some k_ ≠ (.slice Ao60 t1464.length co60 : Value).ownBlock ∧ some k_ ≠ (.slice Ao67 t1473.length co67 : Value).ownBlock ∧ some k_ ≠ (.slice Ao70 t1477.length co70 : Value).ownBlock) (Kd.S_keptB (HO1469.out) hkp (fun k_ hk_ hs_ => (hk_.1.1.1.2) hs_)) (fun k_ hk_ => ⟨hk_.1.1.1.1.1.1.1.2, hk_.1.1.1.1.1.1.2, hk_.1.1.1.1.1.2, hk_.1.1.1.1.2, hk_.1.1.1.2, hk_.1.1.2, hk_.1.2⟩)); replace HO1475 := zA (kA (ok' := fun k_ => some k_ ≠ (.slice Ao49 t1449.length co49 : Value).ownBlock ∧ some k_ ≠ (.slice Ao50 t1452.length co50 : Value).ownBlock ∧ some k_ ≠ (.slice Ao57 t1460.length co57 : Value).ownBlock ∧ some k_ ≠ (.slice Ao60 t1464.length co60 : Value).ownBlock ∧ some k_ ≠ (.slice Ao70 t1477.length co70 : Value).ownBlock) (Kd.R_keptB (HO1475.out) hkp (fun k_ hk_ hs_ => (hk_.1.1.2) hs_)) (fun k_ hk_ => ⟨hk_.1.1.1.1.1.2, hk_.1.1.1.1.2, hk_.1.1.1.2, hk_.1.1.2, hk_.1.2⟩)); replace HO1479 := zA (kA (ok' := fun k_ => some k_ ≠ (.slice Ao49 t1449.length co49 : Value).ownBlock ∧ some k_ ≠ (.slice Ao50 t1452.length co50 : Value).ownBlock ∧ some k_ ≠ (.slice Ao57 t1460.length co57 : Value).ownBlock ∧ some k_ ≠ (.slice Ao60 t1464.length co60 : Value).ownBlock ∧ some k_ ≠ (.slice Ao67 t1473.length co67 : Value).ownBlock) (Kd.R_keptB (HO1479.out) hkp (fun k_ hk_ hs_ => (hk_.1.1.2) hs_)) (fun k_ hk_ => ⟨hk_.1.1.1.1.1.2, hk_.1.1.1.1.2, hk_.1.1.1.2, hk_.1.1.2, hk_.1.2⟩)); replace HB := zA (hb); (try clear hb); (try clear hkp); (try clear hy0)) | (refine zO (some 67) Tryd.func24 #[.slice Ao60 t1464.length co60, .int .i64 t1481] ?_; (with_reducible refine (laws_markInt64S.calls k (fun k_ => some k_ = (.slice Ao60 t1464.length co60 : Value).ownBlock) (.slice Ao60 t1464.length co60) t1464 t1481 t1483 t1484 w _ ?side1 ?side2 A26.out).mono ?_); (case side1 => exact zV HB.out GE1446.out GE1463.out); (case side2 => exact jK rfl HO1466.out); rintro e w74 ⟨rfl, hy0, hb, hkp⟩; refine ⟨_, rfl, ?_⟩; replace HZ := zA (ZPair.kept (zPZ HZ.out) hkp (fun k_ h_ => Or.inr (Or.inl h_))); replace BK1446 := zA (blk_kept (zR BK1446.out) hkp (fun hs_ => (fun e_ => (Kd.R_ne HO1466.out BK1446.out (by decide)) e_) hs_)); replace HO1451 := zA (kA (ok' := fun k_ => some k_ ≠ (.slice Ao50 t1452.length co50 : Value).ownBlock ∧ some k_ ≠ (.slice Ao57 t1460.length co57 : Value).ownBlock ∧ some k_ ≠ (.slice Ao60 t1464.length co60 : Value).ownBlock ∧ some k_ ≠ (.slice Ao67 t1473.length co67 : Value).ownBlock ∧ some k_ ≠ (.slice Ao70 t1477.length co70 : Value).ownBlock) (Kd.R_keptB (HO1451.out) hkp (fun k_ hk_ hs_ => (hk_.2.2.1) hs_)) (fun k_ hk_ => ⟨hk_.1.1, hk_.1.2.1, hk_.1.2.2.1, hk_.1.2.2.2.1, hk_.1.2.2.2.2⟩)); replace HO1454 := zA (kA (ok' := fun k_ => some k_ ≠ (.slice Ao49 t1449.length co49 : Value).ownBlock ∧ some k_ ≠ (.slice Ao57 t1460.length co57 : Value).ownBlock ∧ some k_ ≠ (.slice Ao60 t1464.length co60 : Value).ownBlock ∧ some k_ ≠ (.slice Ao67 t1473.length co67 : Value).ownBlock ∧ some k_ ≠ (.slice Ao70 t1477.length co70 : Value).ownBlock) (Kd.R_keptB (HO1454.out) hkp (fun k_ hk_ hs_ => (hk_.2.2.1) hs_)) (fun k_ hk_ => ⟨hk_.1.1, hk_.1.2.1, hk_.1.2.2.1, hk_.1.2.2.2.1, hk_.1.2.2.2.2⟩)); replace HO1457 := zA (Kd.S_mono (ok' := fun k_ => some k_ ≠ (.slice Ao49 t1449.length co49 : Value).ownBlock ∧ some k_ ≠ (.slice Ao50 t1452.length co50 : Value).ownBlock ∧ some k_ ≠ (.slice Ao57 t1460.length co57 : Value).ownBlock ∧ some k_ ≠ (.slice Ao60 t1464.length co60 : Value).ownBlock ∧ some k_ ≠ (.slice Ao62 t1467.length co62 : Value).ownBlock ∧ some k_ ≠ (.slice Ao67 t1473.length co67 : Value).ownBlock ∧ some k_ ≠ (.slice Ao70 t1477.length co70 : Value).ownBlock) (Kd.S_keptB (HO1457.out) hkp (fun k_ hk_ hs_ => (hk_.2.2.2.1) hs_)) (fun k_ hk_ => ⟨hk_.1.1, hk_.1.2.1, hk_.1.2.2.1, hk_.1.2.2.2.1, hk_.1.2.2.2.2.1, hk_.1.2.2.2.2.2.1, hk_.1.2.2.2.2.2.2⟩)); replace HO1462 := zA (kA (ok' := fun k_ => some k_ ≠ (.slice Ao49 t1449.length co49 : Value).ownBlock ∧ some k_ ≠ (.slice Ao50 t1452.length co50 : Value).ownBlock ∧ some k_ ≠ (.slice Ao60 t1464.length co60 : Value).ownBlock ∧ some k_ ≠ (.slice Ao67 t1473.length co67 : Value).ownBlock ∧ some k_ ≠ (.slice Ao70 t1477.length co70 : Value).ownBlock) (Kd.R_keptB (HO1462.out) hkp (fun k_ hk_ hs_ => (hk_.1.1.2) hs_)) (fun k_ hk_ => ⟨hk_.1.1.1.1.1.2, hk_.1.1.1.1.2, hk_.1.1.1.2, hk_.1.1.2, hk_.1.2⟩)); replace BK1463 := zA (blk_kept (zR BK1463.out) hkp (fun hs_ => (fun e_ => (Kd.R_ne HO1466.out BK1463.out (by decide)) e_) hs_)); replace HO1466 := zA (Kd.R_reok rfl hy0 (fun k_ e_ => HO1466.out.1 k_ e_)); replace HO1469 := zA (Kd.S_mono (ok' := fun k_ => some k_ ≠ (.slice Ao49 t1449.length co49 : Value).ownBlock ∧ some k_ ≠ (.slice Ao50 t1452.length co50 : Value).ownBlock ∧ some k_ ≠ (.slice Ao63 t1455.length co63 : Value).ownBlock ∧ some k_ ≠ (.slice Ao57 t1460.length co57 : Value).ownBlock ∧ some k_ ≠ (.slice Ao60 t1464.length co60 : Value).ownBlock ∧ some k_ ≠ (.slice Ao67 t1473.length co67 : Value).ownBlock ∧ some k_ ≠ (.slice Ao70 t1477.length co70 : Value).ownBlock) (Kd.S_keptB (HO1469.out) hkp (fun k_ hk_ hs_ => (hk_.2.2.2.2.1) hs_)) (fun k_ hk_ => ⟨hk_.1.1, hk_.1.2.1, hk_.1.2.2.1, hk_.1.2.2.2.1, hk_.1.2.2.2.2.1, hk_.1.2.2.2.2.2.1, hk_.1.2.2.2.2.2.2⟩)); replace HO1475 := zA (kA (ok' := fun k_ => some k_ ≠ (.slice Ao49 t1449.length co49 : Value).ownBlock ∧ some k_ ≠ (.slice Ao50 t1452.length co50 : Value).ownBlock ∧ some k_ ≠ (.slice Ao57 t1460.length co57 : Value).ownBlock ∧ some k_ ≠ (.slice Ao60 t1464.length co60 : Value).ownBlock ∧ some k_ ≠ (.slice Ao70 t1477.length co70 : Value).ownBlock) (Kd.R_keptB (HO1475.out) hkp (fun k_ hk_ hs_ => (hk_.2.2.2.1) hs_)) (fun k_ hk_ => ⟨hk_.1.1, hk_.1.2.1, hk_.1.2.2.1, hk_.1.2.2.2.1, hk_.1.2.2.2.2⟩)); replace HO1479 := zA (kA (ok' := fun k_ => some k_ ≠ (.slice Ao49 t1449.length co49 : Value).ownBlock ∧ some k_ ≠ (.slice Ao50 t1452.length co50 : Value).ownBlock ∧ some k_ ≠ (.slice Ao57 t1460.length co57 : Value).ownBlock ∧ some k_ ≠ (.slice Ao60 t1464.length co60 : Value).ownBlock ∧ some k_ ≠ (.slice Ao67 t1473.length co67 : Value).ownBlock) (Kd.R_keptB (HO1479.out) hkp (fun k_ hk_ hs_ => (hk_.2.2.2.1) hs_)) (fun k_ hk_ => ⟨hk_.1.1, hk_.1.2.1, hk_.1.2.2.1, hk_.1.2.2.2.1, hk_.1.2.2.2.2⟩)); replace HB := zA (hb); (try clear hb); (try clear hkp); (try clear hy0)) | (go_at_call 20; (with_reducible refine (laws_eqInt64SS_BFnExactTraceComponents.calls k _ _ t1467 _ _ t1455 true _ ?side1 ?side2 ?side3 ?side4 A28.out).mono ?_); (case side1 => exact zS (Kd.S_reads' HO1469.out).2.2); (case side2 => exact (Kd.S_reads' HO1469.out).2.1); (case side3 => exact zS (Kd.S_reads' HO1457.out).2.2); (case side4 => exact (Kd.S_reads' HO1457.out).2.1); rintro e w75 ⟨rfl, hb⟩; replace HZ := zA (ZPair.below (zPZ HZ.out) hb); replace HO1451 := zA (kL (zP HO1451.out) hb); replace HO1454 := zA (kL (zP HO1454.out) hb); replace HO1457 := zA (Kd.S_below (by (with_reducible repeat (first | apply Kd.S_alloc | apply Kd.S_drewN | apply Kd.S_drew)); exact HO1457.out) hb); replace HO1462 := zA (kL (zP HO1462.out) hb); replace HO1466 := zA (kL (zP HO1466.out) hb); replace HO1469 := zA (Kd.S_below (by (with_reducible repeat (first | apply Kd.S_alloc | apply Kd.S_drewN | apply Kd.S_drew)); exact HO1469.out) hb); replace HO1475 := zA (kL (zP HO1475.out) hb); replace HO1479 := zA (kL (zP HO1479.out) hb); replace BK1446 := zA (zB1 BK1446.out hb); replace BK1463 := zA (zB1 BK1463.out hb); replace HB := zA (kQ (zV HB.out GE1446.out GE1463.out) hb); (try clear hb); (try clear hb2); (try clear hk); (try clear hi); (try clear hgw)) | (refine zO (some 83) Tryd.func25 #[.slice Ao62 t1467.length co62, .int .i64 1] ?_; (with_reducible refine (laws_markInt64SS.calls k (fun k_ => nbZ ≤ k_ ∧ ¬ (some k_ = (.slice Ao57 t1460.length co57 : Value).ownBlock ∨ some k_ = (.slice Ao60 t1464.length co60 : Value).ownBlock ∨ k_ = gb1446 ∨ k_ = gb1463)) (.slice Ao62 t1467.length co62) t1467 1 t1486 t1487 w _ ?side1 ?side2 A30.out).mono ?_); (case side1 => exact zV HB.out GE1446.out GE1463.out); (case side2 => exact (show ZPair nbZ w _ (fun k_ => some k_ = (.slice Ao57 t1460.length co57 : Value).ownBlock ∨ some k_ = (.slice Ao60 t1464.length co60 : Value).ownBlock ∨ k_ = gb1446 ∨ k_ = gb1463) (.slice Ao63 t1455.length co63) t1455 (.slice Ao62 t1467.length co62) t1467 from zPZ HZ.out).2.2); rintro e w76 ⟨rfl, hy0, hb, hkp⟩; refine ⟨_, rfl, ?_⟩; replace BK1446 := zA (blk_kept (zR BK1446.out) hkp (fun hs_ => hs_.2 (Or.inr (Or.inr (Or.inl rfl))))); have hza_ := ZPair.after (show ZPair nbZ w _ (fun k_ => some k_ = (.slice Ao57 t1460.length co57 : Value).ownBlock ∨ some k_ = (.slice Ao60 t1464.length co60 : Value).ownBlock ∨ k_ = gb1446 ∨ k_ = gb1463) (.slice Ao63 t1455.length co63) t1455 (.slice Ao62 t1467.length co62) t1467 from zPZ HZ.out) hkp; replace HO1457 := zA (Kd.S_mono (ok' := fun k_ => some k_ ≠ (.slice Ao62 t1467.length co62 : Value).ownBlock) hza_ (fun k_ hk_ e_ => Nat.not_le.2 hk_.1 ((Kd.S_R hy0).1 k_ e_.symm).1)); replace BK1463 := zA (blk_kept (zR BK1463.out) hkp (fun hs_ => hs_.2 (Or.inr (Or.inr (Or.inr (rfl)))))); replace HO1469 := zA (Kd.S_mono (ok' := fun k_ => some k_ ≠ (.slice Ao63 t1455.length co63 : Value).ownBlock) hy0 (fun k_ hk_ e_ => Nat.not_le.2 ((Kd.S_R hza_).1 k_ e_.symm).1 hk_.1)); clear hza_ HZ; replace HB := zA (hb); (try clear hb); (try clear hkp); (try clear hy0)) | ((with_reducible refine kR (f := 26) rfl ?_); refine goesL_ (some 86) rfl rfl Tryd.func26 (by kernel_rfl) rfl #[.slice Ao62 t1487.length co62, .int .i64 1] rfl (by (try simp only [List.map_toArray, List.map_cons, List.map_nil]); first | done | (rw [show t1487.length = t1467.length from (Kd.S_reads' HO1469.out).1.symm] <;> rfl) | rfl | (simp only [List.length_drop, List.length_take]; rfl)) ?_; (with_reducible refine (laws_heldInt64SS.calls k _ _ t1487 1 t1488 _ ?side1 ?side2 A31.out).mono ?_); (case side1 => exact zS (Kd.S_reads' HO1469.out).2.2); (case side2 => rw [show t1487.length = t1467.length from (Kd.S_reads' HO1469.out).1.symm]; exact (Kd.S_reads' HO1469.out).2.1); rintro e w' ⟨rfl, ⟨nd, rfl⟩⟩; refine ⟨_, rfl, ?_⟩; obtain ⟨hcz77_0, hcz77_1, hfz77_0, hfz77_1⟩ := zB3 BK1446.out) | (refine zO (some 94) Tryd.func17 #[.agg #[.int .i64 a0_0, .slice A0_1 l0_1.length c0_1]] ?_; (with_reducible refine (laws_toAlphabet.calls k a0_0 _ _ l0_1 t1489 t1490 _ ?side1 ?side2 A34.out).mono ?_); (case side1 => exact zS (kO HR0_1.out (zV HB.out GE1446.out GE1463.out))); (case side2 => exact HC0_1.out); rintro e w78 ⟨v1491, rfl, ho0, hb⟩; refine ⟨_, rfl, ?_⟩; replace HO1457 := zA (Kd.S_elder' (by (with_reducible repeat (first | apply Kd.S_alloc | apply Kd.S_drewN | apply Kd.S_drew)); exact HO1457.out) (kC ho0) hb); replace HO1469 := zA (Kd.S_elder' (by (with_reducible repeat (first | apply Kd.S_alloc | apply Kd.S_drewN | apply Kd.S_drew)); exact HO1469.out) (kC ho0) hb); have HO1492 := zA (kI ho0 (kP (zV HB.out GE1446.out GE1463.out))); replace BK1446 := zA (zB1 BK1446.out hb); replace BK1463 := zA (zB1 BK1463.out hb); replace HB := zA (kQ (zV HB.out GE1446.out GE1463.out) hb); (try clear hb); (try clear ho0)) | (refine zO (some 96) Tryd.func18 #[.slice A1 l1.length c1] ?_; (with_reducible refine (laws_toInt64S.calls k _ _ l1 t1493 _ ?side1 ?side2 A35.out).mono ?_); (case side1 => exact zS (kO HR1.out HB.out)); (case side2 => exact HC1.out); rintro e w79 ⟨v1494, rfl, ho0, hb⟩; refine ⟨_, rfl, ?_⟩; replace HO1457 := zA (Kd.S_elder' (by (with_reducible repeat (first | apply Kd.S_alloc | apply Kd.S_drewN | apply Kd.S_drew)); exact HO1457.out) (kC ho0) hb); replace HO1469 := zA (Kd.S_elder' (by (with_reducible repeat (first | apply Kd.S_alloc | apply Kd.S_drewN | apply Kd.S_drew)); exact HO1469.out) (kC ho0) hb); have HO1495 := zA (kI (kF ho0 (kH (zP HO1492.out))) (kP (zV HB.out GE1446.out GE1463.out))); replace HO1492 := zA (kE (zP HO1492.out) (kC ho0) hb); replace BK1446 := zA (zB1 BK1446.out hb); replace BK1463 := zA (zB1 BK1463.out hb); replace HB := zA (kQ (zV HB.out GE1446.out GE1463.out) hb); (try clear hb); (try clear ho0); obtain ⟨Ao80, co80, eo80⟩ := kM HO1492.out; subst eo80; obtain ⟨Ao81, co81, eo81⟩ := kM HO1495.out; subst eo81) | (refine zO (some 97) Tryd.func19 #[.agg #[.int .i64 t1489, .slice Ao80 t1490.length co80], .slice Ao81 t1493.length co81] ?_; (with_reducible refine (impl_TraceComponents.calls k t1489 (fun k_ => some k_ = (.slice Ao80 t1490.length co80 : Value).ownBlock) _ _ t1490 (fun k_ => some k_ = (.slice Ao81 t1493.length co81 : Value).ownBlock) _ _ t1493 t1496 t1499 _ ?side1 ?side2 ?side3 A36.out).mono ?_); (case side1 => exact jL (jK rfl (kD (kD (Kd.R_apart' (Kd.R_apart' (HO1492.out) (Kd.S_typed HO1457.out) (by decide)) (Kd.S_typed HO1469.out) (by decide)) BK1446.out (by decide)) BK1463.out (by decide)))); (case side2 => exact jL (jK rfl (kD (kD (Kd.R_apart' (Kd.R_apart' (HO1495.out) (Kd.S_typed HO1457.out) (by decide)) (Kd.S_typed HO1469.out) (by decide)) BK1446.out (by decide)) BK1463.out (by decide)))); (case side3 => exact TabW.below HT.out (zV HB.out GE1446.out GE1463.out)); rintro e w82 ⟨v1497, rfl, ho0, hb⟩; refine ⟨_, rfl, ?_⟩; have HO1498 := zA (Kd.S_lower (Kd.S_new' (Kd.S_new' (Kd.S_new' (Kd.S_new' (Kd.S_mono (ok' := fun k_ => True) ho0 (fun _ hk_ => trivial)) (Kd.S_lt (by (with_reducible repeat (first | apply Kd.S_alloc | apply Kd.S_drewN | apply Kd.S_drew)); exact HO1457.out))) (Kd.S_lt (by (with_reducible repeat (first | apply Kd.S_alloc | apply Kd.S_drewN | apply Kd.S_drew)); exact HO1469.out))) (kH (zP HO1492.out))) (kH (zP HO1495.out))) (kP (zV HB.out GE1446.out GE1463.out))); replace HO1457 := zA (Kd.S_elder' (by (with_reducible repeat (first | apply Kd.S_alloc | apply Kd.S_drewN | apply Kd.S_drew)); exact HO1457.out) (Kd.S_base ho0) hb); replace HO1469 := zA (Kd.S_elder' (by (with_reducible repeat (first | apply Kd.S_alloc | apply Kd.S_drewN | apply Kd.S_drew)); exact HO1469.out) (Kd.S_base ho0) hb); replace HO1492 := zA (kL (zP HO1492.out) hb); replace HO1495 := zA (kL (zP HO1495.out) hb); replace BK1446 := zA (zB1 BK1446.out hb); replace BK1463 := zA (zB1 BK1463.out hb); replace HB := zA (kQ (zV HB.out GE1446.out GE1463.out) hb); (try clear hb); (try clear ho0); obtain ⟨Ao83, co83, eo83⟩ := Kd.S_slice HO1498.out; subst eo83) | (refine zO (some 102) Tryd.func20 #[.slice Ao83 t1496.length co83, .slice Ao63 t1455.length co63] ?_; (with_reducible refine (laws_eqInt64SS_BFnExactTraceComponents.calls k _ _ t1496 _ _ t1455 true _ ?side1 ?side2 ?side3 ?side4 A37.out).mono ?_); (case side1 => exact zS (Kd.S_reads' HO1498.out).2.2); (case side2 => exact (Kd.S_reads' HO1498.out).2.1); (case side3 => exact zS (Kd.S_reads' HO1457.out).2.2); (case side4 => exact (Kd.S_reads' HO1457.out).2.1); rintro e w84 ⟨rfl, hb⟩; refine ⟨_, rfl, ?_⟩; replace HO1457 := zA (Kd.S_below (by (with_reducible repeat (first | apply Kd.S_alloc | apply Kd.S_drewN | apply Kd.S_drew)); exact HO1457.out) hb); replace HO1469 := zA (Kd.S_below (by (with_reducible repeat (first | apply Kd.S_alloc | apply Kd.S_drewN | apply Kd.S_drew)); exact HO1469.out) hb); replace HO1492 := zA (kL (zP HO1492.out) hb); replace HO1495 := zA (kL (zP HO1495.out) hb); replace HO1498 := zA (Kd.S_below (by (with_reducible repeat (first | apply Kd.S_alloc | apply Kd.S_drewN | apply Kd.S_drew)); exact HO1498.out) hb); replace BK1446 := zA (zB1 BK1446.out hb); replace BK1463 := zA (zB1 BK1463.out hb); replace HB := zA (kQ (zV HB.out GE1446.out GE1463.out) hb); (try clear hb)) | ((with_reducible refine kR (f := 26) rfl ?_); refine goesL_ (some 111) rfl rfl Tryd.func26 (by kernel_rfl) rfl #[.slice Ao62 t1487.length co62, .int .i64 1] rfl (by (try simp only [List.map_toArray, List.map_cons, List.map_nil]); first | done | (rw [show t1487.length = t1467.length from (Kd.S_reads' HO1469.out).1.symm] <;> rfl) | rfl | (simp only [List.length_drop, List.length_take]; rfl)) ?_; (with_reducible refine (laws_heldInt64SS.calls k _ _ t1487 1 t1501 _ ?side1 ?side2 A40.out).mono ?_); (case side1 => exact zS (Kd.S_reads' HO1469.out).2.2); (case side2 => rw [show t1487.length = t1467.length from (Kd.S_reads' HO1469.out).1.symm]; exact (Kd.S_reads' HO1469.out).2.1); rintro e w' ⟨rfl, ⟨nd, rfl⟩⟩; refine ⟨_, rfl, ?_⟩))
          go_ret
          exact ⟨zr, zV HB.out GE1446.out GE1463.out⟩
         rw [if_neg c42] at H
         exact absurd H (by simp)
        rw [if_neg c39] at H
        exact absurd H (by simp)
       replace c38 := Bool.eq_false_iff.mpr c38
       subst c38
       rw [if_neg (show ¬ (false = true) by decide)] at H
       exact absurd H (by simp)
      rw [if_neg c33] at H
      exact absurd H (by simp)
     replace c29 := Bool.eq_false_iff.mpr c29
     subst c29
     rw [if_neg (show ¬ (false = true) by decide)] at H
     exact absurd H (by simp)
    replace c24 := Bool.eq_false_iff.mpr c24
    subst c24
    rw [if_neg (show ¬ (false = true) by decide)] at H
    exact absurd H (by simp)
   replace c21 := Bool.eq_false_iff.mpr c21
   subst c21
   rw [if_neg (show ¬ (false = true) by decide)] at H
   exact absurd H (by simp)
  rw [if_neg c18] at H
  exact absurd H (by simp)
 replace c17 := Bool.eq_false_iff.mpr c17
 subst c17
 rw [if_neg (show ¬ (false = true) by decide)] at H
 exact absurd H (by simp)

end Go.Proofs.YthgapkbkhoeleaaDoor.PAll
