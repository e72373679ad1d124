-- Printed by a program of the session (wip/tools/pgen.py) out of the translation. Not trusted: Lean checks it.
import Derived.Test.YtfnnnopbcdiibaaDoorPAllx0
import Derived.Test.YtfnnnopbcdiibaaDoorPAllx1
import Derived.Test.YtfnnnopbcdiibaaDoorPAllx5
import Derived.Test.YtfnnnopbcdiibaaDoorPAllx15
namespace Go.Proofs.YtfnnnopbcdiibaaDoor.PAll
open Go.RowKit Go.Proofs.YtfnnnopbcdiibaaDoor.T Go.Proofs.YtfnnnopbcdiibaaDoorW.PrintWords Go.Proofs.YtfnnnopbcdiibaaDoorW.PrintLast Go.Proofs.YtfnnnopbcdiibaaDoorW.PrintMore
attribute [local go_sem] max2_int min2_int max_two min_two max_three min_three max_four min_four   -- for this text's walks alone
set_option linter.unusedVariables false
set_option linter.unusedSimpArgs false

/-! ### spec_l02Step: function 154 -/
def spec_l02Step.l0 : Nat → Int → Int → Int → List Int → Option (Bool)
 | 0, _, _, _, _ => none
 | k + 1, x1, x5, x1407000, x1407001 => if x5 < x1407000 then ((spec_l01Bit.f x1 x5).bind fun t1407 => (if t1407 = true then (if 0 ≤ x5 then (if x5 < (x1407001.length : Int) then ((spec_l01One.f x5).bind fun t1409 => (if (Go.bits .and .i64 (rd x1407001 x5) x1) = t1409 then (spec_l02Step.l0 k x1 (wrap64 (x5 + 1)) x1407000 x1407001) else (some false))) else (none)) else (none)) else (spec_l02Step.l0 k x1 (wrap64 (x5 + 1)) x1407000 x1407001))) else (some true)
def spec_l02Step.f (k : Nat) (a0_0 : Int) (l0_1 : List Int) (a1 : Int) : Option (Bool) := spec_l02Step.l0 k a1 0 a0_0 l0_1

set_option maxHeartbeats 8000000 in
set_option maxRecDepth 100000 in
theorem spec_l02Step.calls (k : Nat) (a0_0 : Int) (A0_1 : Option Addr) (c0_1 : Nat) (l0_1 : List Int) (a1 : Int) (r : Bool) (w : World) (hr0_1 : Kd.C (Kd.int .i64) w A0_1 l0_1.length l0_1) (hc0_1 : l0_1.length ≤ c0_1) (h : spec_l02Step.f k a0_0 l0_1 a1 = some r) :
  Calls Tryd.prog 154 #[.agg #[.int .i64 a0_0, .slice A0_1 l0_1.length c0_1], .int .i64 a1] w fun e w' => e = .returned (.bool r) ∧ Below w.heap.size w w' := by
 have hu28 := Tryd.underlying28
 have HR0_1 := zA hr0_1
 have HC0_1 := zA hc0_1
 clear hr0_1 hc0_1
 have HB := zA (kW w.heap.size w)
 have H := h
 unfold spec_l02Step.f at H
 clear h
 have H' := zA H
 clear H
 go_enter Tryd.func154, Tryd.ntmps154
 go_wp2_with (first | (refine zBE 2 #[.int .i64 a0_0, .slice A0_1 l0_1.length c0_1] 28 ?_; intro gb1406 hg w3 hbox hb; have BK1406 := zA (hbox); have GW1406 := zA (zBH hg HB.out); have GE1406 := zA (zBH hg HB.out); replace HB := zA (kQ (zQ HB.out) hb); clear hb hbox hg))
 repeat (go_quiet (first | (refine zBE 2 #[.int .i64 a0_0, .slice A0_1 l0_1.length c0_1] 28 ?_; intro gb1406 hg w3 hbox hb; have n0_ := zA (kQ (zQ HB.out) hb); have n1_ := zA (hbox); have n2_ := zA (zBH hg HB.out); have n3_ := zA (zBH hg HB.out); clear HB; have HB := n0_; have BK1406 := n1_; have GW1406 := n2_; have GE1406 := n3_; clear n0_ n1_ n2_ n3_; clear hb hbox hg)); try go_wp2_with (first | (refine zBE 2 #[.int .i64 a0_0, .slice A0_1 l0_1.length c0_1] 28 ?_; intro gb1406 hg w3 hbox hb; have BK1406 := zA (hbox); have GW1406 := zA (zBH hg HB.out); have GE1406 := zA (zBH hg HB.out); replace HB := zA (kQ (zQ HB.out) hb); clear hb hbox hg)))
 go_loopg [5] k (fun kq v5 w' => ∃ (x5_1 : Int), v5 = .int .i64 x5_1 ∧ Aside0 (spec_l02Step.l0 kq a1 x5_1 a0_0 l0_1 = some r) ∧ Aside0 (kq ≤ k) ∧ Aside0 (w'.heap[gb1406]? = some (.cells #[.int .i64 a0_0, (.slice A0_1 l0_1.length c0_1)] 28 (0, 0))) ∧ Aside0 (Below w.heap.size w w'))
 case atStart => exact ⟨(0), zs, H', ⟨Nat.le_refl _⟩, ⟨zR BK1406.out⟩, ⟨zT HB.out GE1406.out⟩⟩
 case round =>
  clear H'
  try clear c1
  obtain ⟨x5_1, rfl, HA, HK1, BK1406, HB⟩ := hrel
  cases gk with
  | zero => exact absurd HA.out (by simp [spec_l02Step.l0])
  | succ k1 =>
   have H := HA.out
   clear HA
   simp only [spec_l02Step.l0] at H
   by_cases c4 : x5_1 < a0_0
   ·rw [if_pos c4] at H
    have c4b0 : decide (x5_1 < a0_0) = true := decide_eq_true c4
    clear c4
    obtain ⟨t1407, A5, H⟩ := zb H
    try dsimp only at H
    by_cases c6 : t1407 = true
    ·subst c6
     rw [if_pos rfl] at H
     by_cases c7 : 0 ≤ x5_1
     ·rw [if_pos c7] at H
      have c7b0 : decide (0 ≤ x5_1) = true := decide_eq_true c7
      clear c7
      by_cases c8 : x5_1 < (l0_1.length : Int)
      ·rw [if_pos c8] at H
       have c8b0 : decide (x5_1 < (l0_1.length : Int)) = true := decide_eq_true c8
       clear c8
       obtain ⟨t1409, A9, H⟩ := zb H
       try dsimp only at H
       by_cases c10 : (Go.bits .and .i64 (rd l0_1 x5_1) a1) = t1409
       ·rw [if_pos c10] at H
        obtain ⟨c10b0, c10b1⟩ := zT1 c10
        clear c10
        have H' := zA H
        clear H
        obtain ⟨hcz11_0, hcz11_1, hfz11_0, hfz11_1⟩ := zB3 BK1406.out
        go_wp2_with (first | (go_at_call 63; (with_reducible refine (spec_l01Bit.calls a1 x5_1 true _ A5.out).mono ?_); rintro e w' ⟨rfl, ⟨nd, rfl⟩⟩; (try exact zw); have p1408 : 0 ≤ (x5_1 : Int) := zd; have q1408 : x5_1 < (l0_1.length : Int) := zd; obtain ⟨ad1408, e1408, hx1408_0⟩ := Kd.at_int HR0_1.out x5_1 p1408 q1408; cases e1408; replace hx1408_0 := (HB.out.cell (jG w _ hx1408_0)).trans hx1408_0; replace p1408 := eq_true p1408; replace q1408 := eq_true q1408) | (go_at_call 120; (with_reducible refine (spec_l01One.calls x5_1 t1409 _ A9.out).mono ?_); rintro e w' ⟨rfl, ⟨nd, rfl⟩⟩; (try exact zw)))
        repeat (go_quiet (first | (go_at_call 63; (with_reducible refine (spec_l01Bit.calls a1 x5_1 true _ A5.out).mono ?_); rintro e w' ⟨rfl, ⟨nd, rfl⟩⟩; (try exact zw); have p1408 : 0 ≤ (x5_1 : Int) := zd; have q1408 : x5_1 < (l0_1.length : Int) := zd; obtain ⟨ad1408, e1408, hx1408_0⟩ := Kd.at_int HR0_1.out x5_1 p1408 q1408; cases e1408; replace hx1408_0 := (HB.out.cell (jG w _ hx1408_0)).trans hx1408_0; replace p1408 := eq_true p1408; replace q1408 := eq_true q1408) | (go_at_call 120; (with_reducible refine (spec_l01One.calls x5_1 t1409 _ A9.out).mono ?_); rintro e w' ⟨rfl, ⟨nd, rfl⟩⟩; (try exact zw))); try go_wp2_with (first | (go_at_call 63; (with_reducible refine (spec_l01Bit.calls a1 x5_1 true _ A5.out).mono ?_); rintro e w' ⟨rfl, ⟨nd, rfl⟩⟩; (try exact zw); have p1408 : 0 ≤ (x5_1 : Int) := zd; have q1408 : x5_1 < (l0_1.length : Int) := zd; obtain ⟨ad1408, e1408, hx1408_0⟩ := Kd.at_int HR0_1.out x5_1 p1408 q1408; cases e1408; replace hx1408_0 := (HB.out.cell (jG w _ hx1408_0)).trans hx1408_0; replace p1408 := eq_true p1408; replace q1408 := eq_true q1408) | (go_at_call 120; (with_reducible refine (spec_l01One.calls x5_1 t1409 _ A9.out).mono ?_); rintro e w' ⟨rfl, ⟨nd, rfl⟩⟩; (try exact zw))))
        go_roundg k1
        case measure => have := HK1.out; omega
        case rel => exact ⟨(wrap64 (x5_1 + 1)), zs, H', ⟨by have := HK1.out; omega⟩, ⟨zR BK1406.out⟩, ⟨zT HB.out GE1406.out⟩⟩
       rw [if_neg c10] at H
       obtain ⟨c10b0, c10b1⟩ := zT2 c10
       obtain rfl := Option.some.inj H
       obtain ⟨hcz12_0, hcz12_1, hfz12_0, hfz12_1⟩ := zB3 BK1406.out
       go_wp2_with (first | (go_at_call 63; (with_reducible refine (spec_l01Bit.calls a1 x5_1 true _ A5.out).mono ?_); rintro e w' ⟨rfl, ⟨nd, rfl⟩⟩; (try exact zw); have p1408 : 0 ≤ (x5_1 : Int) := zd; have q1408 : x5_1 < (l0_1.length : Int) := zd; obtain ⟨ad1408, e1408, hx1408_0⟩ := Kd.at_int HR0_1.out x5_1 p1408 q1408; cases e1408; replace hx1408_0 := (HB.out.cell (jG w _ hx1408_0)).trans hx1408_0; replace p1408 := eq_true p1408; replace q1408 := eq_true q1408) | (go_at_call 120; (with_reducible refine (spec_l01One.calls x5_1 t1409 _ A9.out).mono ?_); rintro e w' ⟨rfl, ⟨nd, rfl⟩⟩; (try exact zw)))
       repeat (go_quiet (first | (go_at_call 63; (with_reducible refine (spec_l01Bit.calls a1 x5_1 true _ A5.out).mono ?_); rintro e w' ⟨rfl, ⟨nd, rfl⟩⟩; (try exact zw); have p1408 : 0 ≤ (x5_1 : Int) := zd; have q1408 : x5_1 < (l0_1.length : Int) := zd; obtain ⟨ad1408, e1408, hx1408_0⟩ := Kd.at_int HR0_1.out x5_1 p1408 q1408; cases e1408; replace hx1408_0 := (HB.out.cell (jG w _ hx1408_0)).trans hx1408_0; replace p1408 := eq_true p1408; replace q1408 := eq_true q1408) | (go_at_call 120; (with_reducible refine (spec_l01One.calls x5_1 t1409 _ A9.out).mono ?_); rintro e w' ⟨rfl, ⟨nd, rfl⟩⟩; (try exact zw))); try go_wp2_with (first | (go_at_call 63; (with_reducible refine (spec_l01Bit.calls a1 x5_1 true _ A5.out).mono ?_); rintro e w' ⟨rfl, ⟨nd, rfl⟩⟩; (try exact zw); have p1408 : 0 ≤ (x5_1 : Int) := zd; have q1408 : x5_1 < (l0_1.length : Int) := zd; obtain ⟨ad1408, e1408, hx1408_0⟩ := Kd.at_int HR0_1.out x5_1 p1408 q1408; cases e1408; replace hx1408_0 := (HB.out.cell (jG w _ hx1408_0)).trans hx1408_0; replace p1408 := eq_true p1408; replace q1408 := eq_true q1408) | (go_at_call 120; (with_reducible refine (spec_l01One.calls x5_1 t1409 _ A9.out).mono ?_); rintro e w' ⟨rfl, ⟨nd, rfl⟩⟩; (try exact zw))))
       go_ret
       exact ⟨zr, zT HB.out GE1406.out⟩
      rw [if_neg c8] at H
      exact absurd H (by simp)
     rw [if_neg c7] at H
     exact absurd H (by simp)
    replace c6 := Bool.eq_false_iff.mpr c6
    subst c6
    rw [if_neg (show ¬ (false = true) by decide)] at H
    have H' := zA H
    clear H
    obtain ⟨hcz13_0, hcz13_1, hfz13_0, hfz13_1⟩ := zB3 BK1406.out
    go_wp2_with (first | (go_at_call 63; (with_reducible refine (spec_l01Bit.calls a1 x5_1 false _ A5.out).mono ?_); rintro e w' ⟨rfl, ⟨nd, rfl⟩⟩; (try exact zw)))
    repeat (go_quiet (first | (go_at_call 63; (with_reducible refine (spec_l01Bit.calls a1 x5_1 false _ A5.out).mono ?_); rintro e w' ⟨rfl, ⟨nd, rfl⟩⟩; (try exact zw))); try go_wp2_with (first | (go_at_call 63; (with_reducible refine (spec_l01Bit.calls a1 x5_1 false _ A5.out).mono ?_); rintro e w' ⟨rfl, ⟨nd, rfl⟩⟩; (try exact zw))))
    go_roundg k1
    case measure => have := HK1.out; omega
    case rel => exact ⟨(wrap64 (x5_1 + 1)), zs, H', ⟨by have := HK1.out; omega⟩, ⟨zR BK1406.out⟩, ⟨zT HB.out GE1406.out⟩⟩
   rw [if_neg c4] at H
   have c4b0 : decide (x5_1 < a0_0) = false := decide_eq_false c4
   clear c4
   obtain rfl := Option.some.inj H
   obtain ⟨hcz14_0, hcz14_1, hfz14_0, hfz14_1⟩ := zB3 BK1406.out
   go_wp2
   repeat (go_quiet (fail); try go_wp2)
   go_ret
   exact ⟨zr, zT HB.out GE1406.out⟩

/-! ### spec_l02Steps: function 134 -/
def spec_l02Steps.l0 : Nat → List Int → Int → Int → List Int → Option (List Int)
 | 0, _, _, _, _ => none
 | k + 1, x3, x4, x1411000, x1411001 => (spec_l01Full.f x1411000).bind fun t1414 => (if x4 ≤ t1414 then ((spec_l02Step.f k x1411000 x1411001 x4).bind fun t1415 => (if t1415 = true then (if x3.length < 17592186044416 then (spec_l02Steps.l0 k (x3 ++ [x4]) (wrap64 (x4 + 1)) x1411000 x1411001) else (none)) else (spec_l02Steps.l0 k x3 (wrap64 (x4 + 1)) x1411000 x1411001))) else (some x3))
def spec_l02Steps.f (k : Nat) (a0_0 : Int) (l0_1 : List Int) : Option (List Int) := spec_l02Steps.l0 k (([] : List Int)) 0 a0_0 l0_1

set_option maxHeartbeats 8000000 in
set_option maxRecDepth 100000 in
theorem spec_l02Steps.calls (k : Nat) (a0_0 : Int) (A0_1 : Option Addr) (c0_1 : Nat) (l0_1 : List Int) (r : List Int) (w : World) (hr0_1 : Kd.C (Kd.int .i64) w A0_1 l0_1.length l0_1) (hc0_1 : l0_1.length ≤ c0_1) (h : spec_l02Steps.f k a0_0 l0_1 = some r) :
  Calls Tryd.prog 134 #[.agg #[.int .i64 a0_0, .slice A0_1 l0_1.length c0_1]] w fun e w' => ∃ v0_ : Value, e = .returned (v0_) ∧ Kd.R (Kd.int .i64) 2 w' w.heap.size (fun _ => True) v0_ r ∧ Below w.heap.size w w' := by
 have hu28 := Tryd.underlying28
 have HR0_1 := zA hr0_1
 have HC0_1 := zA hc0_1
 clear hr0_1 hc0_1
 have HB := zA (kW w.heap.size w)
 have H := h
 unfold spec_l02Steps.f at H
 clear h
 obtain ⟨y1411, hy1411⟩ : ∃ y_ : List Int, y_ = (([] : List Int)) := ⟨_, rfl⟩
 replace H : (spec_l02Steps.l0 k y1411 0 a0_0 l0_1) = some r := zy hy1411 H
 have Ny1411 := zA hy1411
 clear hy1411
 have H' := zA H
 clear H
 go_enter Tryd.func134, Tryd.ntmps134
 go_wp2_with (first | (refine zBE 1 #[.int .i64 a0_0, .slice A0_1 l0_1.length c0_1] 28 ?_; intro gb1410 hg w2 hbox hb; have BK1410 := zA (hbox); have GW1410 := zA (zBH hg HB.out); have GE1410 := zA (zBH hg HB.out); replace HB := zA (kQ (zQ HB.out) hb); clear hb hbox hg) | ((with_reducible refine kS (N := 5) rfl ?_); refine Kd.R_lit (Kd.int .i64) _ 2 ?hg (N := 5) ?hd (xs := ([] : List Int)) (inner := []) (ok := fun _ => True) (okp := fun _ => True) ?hr ?hp (fun _ hk => hk) trivial (kW _ _) (Nat.le_refl _) (by simp) ?_; (case hd => rfl); (case hg => rfl); (case hr => first | (go_simp; done) | (go_simp; rfl)); (case hp => exact (Reps.none _ _)); intro v1412 w3 ho4 hb hg_ hnew_; clear hg_ hnew_; (first | rw [← Ny1411.out] at ho4 | (simp only [Int.reduceToNat] at ho4; rw [← Ny1411.out] at ho4)); have HO1413 := zA (kI ho4 (kP (zT HB.out GE1410.out))); replace BK1410 := zA (zB1 BK1410.out hb); replace HB := zA (kQ (zT HB.out GE1410.out) hb); clear hb ho4))
 go_loopg [3, 4] k (fun kq v3 v4 w' => ∃ (x3_1 : List Int) (x4_1 : Int), v4 = .int .i64 x4_1 ∧ Aside0 (spec_l02Steps.l0 kq x3_1 x4_1 a0_0 l0_1 = some r) ∧ Aside0 (kq ≤ k) ∧ Aside0 (Kd.R (Kd.int .i64) 2 w' w.heap.size (fun _ => True) v3 x3_1) ∧ Aside0 (w'.heap[gb1410]? = some (.cells #[.int .i64 a0_0, (.slice A0_1 l0_1.length c0_1)] 28 (0, 0))) ∧ Aside0 (Below w.heap.size w w'))
 case atStart => exact ⟨(y1411), (0), zs, H', ⟨Nat.le_refl _⟩, ⟨zP HO1413.out⟩, ⟨zR BK1410.out⟩, ⟨zT HB.out GE1410.out⟩⟩
 case round =>
  clear H'
  try clear c1
  obtain ⟨x3_1, x4_1, rfl, HA, HK1, HO_3, BK1410, HB⟩ := hrel
  cases gk with
  | zero => exact absurd HA.out (by simp [spec_l02Steps.l0])
  | succ k1 =>
   have H := HA.out
   clear HA
   simp only [spec_l02Steps.l0] at H
   obtain ⟨t1414, A5, H⟩ := zb H
   try dsimp only at H
   by_cases c6 : x4_1 ≤ t1414
   ·rw [if_pos c6] at H
    have c6b0 : decide (x4_1 ≤ t1414) = true := decide_eq_true c6
    clear c6
    obtain ⟨t1415, A7, H⟩ := zb H
    try dsimp only at H
    by_cases c8 : t1415 = true
    ·subst c8
     rw [if_pos rfl] at H
     by_cases c9 : x3_1.length < 17592186044416
     ·rw [if_pos c9] at H
      have LMc9 := zA c9
      clear c9
      obtain ⟨y1416, hy1416⟩ : ∃ y_ : List Int, y_ = (x3_1 ++ [x4_1]) := ⟨_, rfl⟩
      replace H : (spec_l02Steps.l0 k1 y1416 (wrap64 (x4_1 + 1)) a0_0 l0_1) = some r := zy hy1416 H
      have Ny1416 := zA hy1416
      clear hy1416
      have H' := zA H
      clear H
      obtain ⟨hcz10_0, hcz10_1, hfz10_0, hfz10_1⟩ := zB3 BK1410.out
      go_wp2_with (first | (refine zO (some 9) Tryd.func149 #[.int .i64 a0_0] ?_; (with_reducible refine (spec_l01Full.calls a0_0 t1414 _ A5.out).mono ?_); rintro e w' ⟨rfl, ⟨nd, rfl⟩⟩; refine ⟨_, rfl, ?_⟩) | (refine zO (some 15) Tryd.func154 #[.agg #[.int .i64 a0_0, .slice A0_1 l0_1.length c0_1], .int .i64 x4_1] ?_; (with_reducible refine (spec_l02Step.calls k1 a0_0 _ _ l0_1 x4_1 true _ ?side1 ?side2 A7.out).mono ?_); (case side1 => exact zS (kO HR0_1.out (zT HB.out GE1410.out))); (case side2 => exact HC0_1.out); rintro e w11 ⟨rfl, hb⟩; refine ⟨_, rfl, ?_⟩; replace HO_3 := zA (kL (zP HO_3.out) hb); replace BK1410 := zA (zB1 BK1410.out hb); replace HB := zA (kQ (zT HB.out GE1410.out) hb); (try clear hb)) | ((with_reducible refine gate_builtin (b := .append) (xs := #[.tmp 16, .tmp 18]) rfl ?_); at_builtin; refine Kd.R_append (Kd.int .i64) (w0 := w) w.heap.size rfl (.tmp 16) (.tmp 18) 22 2 (.int .i64 0) 8 rfl Tryd.underlying22 info2 rfl (by decide) (by omega) u3 x3_1 x4_1 [.int .i64 x4_1] (fun _ => True) (fun _ => False) rfl rfl ?aP (fun _ hk => hk.elim) ?aF ?aO ?aB ?aS ?aL ?_; (case aP => exact rfl); (case aB => exact (zT HB.out GE1410.out)); (case aF => exact (fun _ _ => trivial)); (case aO => exact (zP HO_3.out)); (case aS => exact (kP (zT HB.out GE1410.out))); (case aL => have := LMc9.out; omega); intro v1417 w12 ho hb hg hat; rw [← Ny1416.out] at ho; replace BK1410 := zA (blk_grown (g := gb1410) (o := .cells #[.int .i64 a0_0, .slice A0_1 l0_1.length c0_1] 28 (0, 0)) (zR BK1410.out) hg (Kd.R_ne HO_3.out BK1410.out (by decide))); replace HB := zA (hb); have HO1418 := zA (ho); clear HO_3; clear ho hb hg hat))
      go_roundg k1
      case measure => have := HK1.out; omega
      case rel => exact ⟨(y1416), (wrap64 (x4_1 + 1)), zs, H', ⟨by have := HK1.out; omega⟩, ⟨zP HO1418.out⟩, ⟨zR BK1410.out⟩, ⟨zT HB.out GE1410.out⟩⟩
     rw [if_neg c9] at H
     exact absurd H (by simp)
    replace c8 := Bool.eq_false_iff.mpr c8
    subst c8
    rw [if_neg (show ¬ (false = true) by decide)] at H
    have H' := zA H
    clear H
    obtain ⟨hcz13_0, hcz13_1, hfz13_0, hfz13_1⟩ := zB3 BK1410.out
    go_wp2_with (first | (refine zO (some 9) Tryd.func149 #[.int .i64 a0_0] ?_; (with_reducible refine (spec_l01Full.calls a0_0 t1414 _ A5.out).mono ?_); rintro e w' ⟨rfl, ⟨nd, rfl⟩⟩; refine ⟨_, rfl, ?_⟩) | (refine zO (some 15) Tryd.func154 #[.agg #[.int .i64 a0_0, .slice A0_1 l0_1.length c0_1], .int .i64 x4_1] ?_; (with_reducible refine (spec_l02Step.calls k1 a0_0 _ _ l0_1 x4_1 false _ ?side1 ?side2 A7.out).mono ?_); (case side1 => exact zS (kO HR0_1.out (zT HB.out GE1410.out))); (case side2 => exact HC0_1.out); rintro e w14 ⟨rfl, hb⟩; refine ⟨_, rfl, ?_⟩; replace HO_3 := zA (kL (zP HO_3.out) hb); replace BK1410 := zA (zB1 BK1410.out hb); replace HB := zA (kQ (zT HB.out GE1410.out) hb); (try clear hb)))
    go_roundg k1
    case measure => have := HK1.out; omega
    case rel => exact ⟨(x3_1), (wrap64 (x4_1 + 1)), zs, H', ⟨by have := HK1.out; omega⟩, ⟨zP HO_3.out⟩, ⟨zR BK1410.out⟩, ⟨zT HB.out GE1410.out⟩⟩
   rw [if_neg c6] at H
   have c6b0 : decide (x4_1 ≤ t1414) = false := decide_eq_false c6
   clear c6
   obtain rfl := Option.some.inj H
   obtain ⟨hcz15_0, hcz15_1, hfz15_0, hfz15_1⟩ := zB3 BK1410.out
   go_wp2_with (first | (refine zO (some 9) Tryd.func149 #[.int .i64 a0_0] ?_; (with_reducible refine (spec_l01Full.calls a0_0 t1414 _ A5.out).mono ?_); rintro e w' ⟨rfl, ⟨nd, rfl⟩⟩; refine ⟨_, rfl, ?_⟩))
   go_ret
   exact ⟨_, zr, zP HO_3.out, zT HB.out GE1410.out⟩

/-! ### spec_l01Bits: function 135 -/
def spec_l01Bits.l0 : Nat → Int → Int → Option (Int)
 | 0, _, _ => none
 | k + 1, x0, x3 => if x0 > 0 then (spec_l01Bits.l0 k (wrap64 (Int.tdiv x0 2)) (wrap64 (x3 + (Int.tmod x0 2)))) else (some x3)
def spec_l01Bits.f (k : Nat) (a0 : Int) : Option (Int) := spec_l01Bits.l0 k a0 0

set_option maxHeartbeats 8000000 in
set_option maxRecDepth 100000 in
theorem spec_l01Bits.calls (k : Nat) (a0 : Int) (r : Int) (w : World) (h : spec_l01Bits.f k a0 = some r) :
  Calls Tryd.prog 135 #[.int .i64 a0] w fun e w' => e = .returned (.int .i64 r) ∧ Drawn0 w w' := by
 have H := h
 unfold spec_l01Bits.f at H
 clear h
 have H' := zA H
 clear H
 go_enter Tryd.func135, Tryd.ntmps135
 go_wp2
 go_loopg [0, 3] k (fun kq v0 v3 w' => ∃ (x0_1 : Int) (x3_1 : Int), v0 = .int .i64 x0_1 ∧ v3 = .int .i64 x3_1 ∧ Aside0 (spec_l01Bits.l0 kq x0_1 x3_1 = some r) ∧ Aside0 (kq ≤ k) ∧ Drawn0 w w')
 case atStart => exact ⟨(a0), (0), zs, zs, H', ⟨Nat.le_refl _⟩, by repeat (first | exact Drawn0.refl _ | apply Drawn0.step)⟩
 case round =>
  clear H'
  try clear c1
  obtain ⟨x0_1, x3_1, rfl, rfl, HA, HK1, ⟨m1, rfl⟩⟩ := hrel
  cases gk with
  | zero => exact absurd HA.out (by simp [spec_l01Bits.l0])
  | succ k1 =>
   have H := HA.out
   clear HA
   simp only [spec_l01Bits.l0] at H
   by_cases c2 : x0_1 > 0
   ·rw [if_pos c2] at H
    have c2b0 : decide (0 < x0_1) = true := decide_eq_true c2
    clear c2
    have H' := zA H
    clear H
    go_wp2
    go_roundg k1
    case measure => have := HK1.out; omega
    case rel => exact ⟨(wrap64 (Int.tdiv x0_1 2)), (wrap64 (x3_1 + (Int.tmod x0_1 2))), zs, zs, H', ⟨by have := HK1.out; omega⟩, by repeat (first | exact Drawn0.refl _ | apply Drawn0.step)⟩
   rw [if_neg c2] at H
   have c2b0 : decide (0 < x0_1) = false := decide_eq_false c2
   clear c2
   obtain rfl := Option.some.inj H
   go_wp2
   go_ret
   exact ⟨zs, by repeat (first | exact Drawn0.refl _ | apply Drawn0.step)⟩

/-! ### spec_l06Clique: function 96 -/
mutual
def spec_l06Clique.l0 : Nat → List Int → List Int → Int → Option (List Int)
 | 0, _, _, _ => none
 | k + 1, x3, x4, x5 => if x5 < (x4.length : Int) then (if 0 ≤ x5 then ((spec_l01Bits.f k (rd x4 x5)).bind fun t1427 => (spec_l06Clique.l1 k x3 x4 x5 t1427)) else (none)) else (some x3)
def spec_l06Clique.l1 : Nat → List Int → List Int → Int → Int → Option (List Int)
 | 0, _, _, _, _ => none
 | k + 1, x3, x4, x5, x6 => if (x3.length : Int) ≤ x6 then (if x3.length < 17592186044416 then (spec_l06Clique.l1 k (x3 ++ [0]) x4 x5 x6) else (none)) else (if 0 ≤ x6 then (if x6 < (x3.length : Int) then (spec_l06Clique.l0 k (x3.set (x6 : Int).toNat (wrap64 ((wrap64 ((rd x3 x6) + 1)) - (wrap64 (2 * (Int.tmod x6 2)))))) x4 (wrap64 (x5 + 1))) else (none)) else (none))
end
def spec_l06Clique.f (k : Nat) (a0_0 : Int) (l0_1 : List Int) : Option (List Int) := (spec_l02Steps.f k a0_0 l0_1).bind fun t1423 => (spec_l06Clique.l0 k (([] : List Int)) t1423 0)

set_option maxHeartbeats 8000000 in
set_option maxRecDepth 100000 in
theorem spec_l06Clique.calls (k : Nat) (a0_0 : Int) (A0_1 : Option Addr) (c0_1 : Nat) (l0_1 : List Int) (r : List Int) (w : World) (hr0_1 : Kd.C (Kd.int .i64) w A0_1 l0_1.length l0_1) (hc0_1 : l0_1.length ≤ c0_1) (h : spec_l06Clique.f k a0_0 l0_1 = some r) :
  Calls Tryd.prog 96 #[.agg #[.int .i64 a0_0, .slice A0_1 l0_1.length c0_1]] w fun e w' => ∃ v0_ : Value, e = .returned (v0_) ∧ Kd.R (Kd.int .i64) 2 w' w.heap.size (fun _ => True) v0_ r ∧ Below w.heap.size w w' := by
 have hu28 := Tryd.underlying28
 have HR0_1 := zA hr0_1
 have HC0_1 := zA hc0_1
 clear hr0_1 hc0_1
 have HB := zA (kW w.heap.size w)
 have H := h
 unfold spec_l06Clique.f at H
 clear h
 obtain ⟨y1420, hy1420⟩ : ∃ y_ : List Int, y_ = (([] : List Int)) := ⟨_, rfl⟩
 replace H : ((spec_l02Steps.f k a0_0 l0_1).bind fun t1423 => (spec_l06Clique.l0 k y1420 t1423 0)) = some r := zy hy1420 H
 have Ny1420 := zA hy1420
 clear hy1420
 obtain ⟨t1423, A2, H⟩ := zb H
 try dsimp only at H
 have H' := zA H
 clear H
 go_enter Tryd.func96, Tryd.ntmps96
 go_wp2_with (first | (refine zBE 1 #[.int .i64 a0_0, .slice A0_1 l0_1.length c0_1] 28 ?_; intro gb1419 hg w3 hbox hb; have BK1419 := zA (hbox); have GW1419 := zA (zBH hg HB.out); have GE1419 := zA (zBH hg HB.out); replace HB := zA (kQ (zQ HB.out) hb); clear hb hbox hg) | ((with_reducible refine kS (N := 7) rfl ?_); refine Kd.R_lit (Kd.int .i64) _ 2 ?hg (N := 7) ?hd (xs := ([] : List Int)) (inner := []) (ok := fun _ => True) (okp := fun _ => True) ?hr ?hp (fun _ hk => hk) trivial (kW _ _) (Nat.le_refl _) (by simp) ?_; (case hd => rfl); (case hg => rfl); (case hr => first | (go_simp; done) | (go_simp; rfl)); (case hp => exact (Reps.none _ _)); intro v1421 w4 ho5 hb hg_ hnew_; clear hg_ hnew_; (first | rw [← Ny1420.out] at ho5 | (simp only [Int.reduceToNat] at ho5; rw [← Ny1420.out] at ho5)); have HO1422 := zA (kI ho5 (kP (zT HB.out GE1419.out))); replace BK1419 := zA (zB1 BK1419.out hb); replace HB := zA (kQ (zT HB.out GE1419.out) hb); clear hb ho5; obtain ⟨hcz6_0, hcz6_1, hfz6_0, hfz6_1⟩ := zB3 BK1419.out) | (refine zO (some 9) Tryd.func134 #[.agg #[.int .i64 a0_0, .slice A0_1 l0_1.length c0_1]] ?_; (with_reducible refine (spec_l02Steps.calls k a0_0 _ _ l0_1 t1423 _ ?side1 ?side2 A2.out).mono ?_); (case side1 => exact zS (kO HR0_1.out HB.out)); (case side2 => exact HC0_1.out); rintro e w7 ⟨v1424, rfl, ho0, hb⟩; refine ⟨_, rfl, ?_⟩; have HO1425 := zA (kI (kF ho0 (kH (zP HO1422.out))) (kP (zT HB.out GE1419.out))); replace HO1422 := zA (kE (zP HO1422.out) (kC ho0) hb); replace BK1419 := zA (zB1 BK1419.out hb); replace HB := zA (kQ (zT HB.out GE1419.out) hb); (try clear hb); (try clear ho0)))
 go_loopg [3, 5] k (fun kq v3 v5 w' => ∃ (x3_1 : List Int) (x4_1 : List Int) (x5_1 : Int), v5 = .int .i64 x5_1 ∧ Aside0 (spec_l06Clique.l0 kq x3_1 x4_1 x5_1 = some r) ∧ Aside0 (kq ≤ k) ∧ Aside0 (Kd.R (Kd.int .i64) 2 w' w.heap.size (fun k_ => some k_ ≠ (v1424 : Value).ownBlock) v3 x3_1) ∧ Aside0 (Kd.R (Kd.int .i64) 2 w' w.heap.size (fun k_ => some k_ ≠ (v3 : Value).ownBlock) v1424 x4_1) ∧ Aside0 (w'.heap[gb1419]? = some (.cells #[.int .i64 a0_0, (.slice A0_1 l0_1.length c0_1)] 28 (0, 0))) ∧ Aside0 (Below w.heap.size w w'))
 case atStart => exact ⟨(y1420), (t1423), (0), zs, H', ⟨Nat.le_refl _⟩, ⟨zPM HO1422.out (fun _ hk => hk.2)⟩, ⟨zPM HO1425.out (fun _ hk => hk.2)⟩, ⟨zR BK1419.out⟩, ⟨zT HB.out GE1419.out⟩⟩
 case round =>
  clear H'
  try clear c1
  try clear hcz6_0
  try clear hcz6_1
  try clear hfz6_0
  try clear hfz6_1
  obtain ⟨x3_1, x4_1, x5_1, rfl, HA, HK1, HO_3, HO_4, BK1419, HB⟩ := hrel
  cases gk with
  | zero => exact absurd HA.out (by simp [spec_l06Clique.l0])
  | succ k1 =>
   have H := HA.out
   clear HA
   simp only [spec_l06Clique.l0] at H
   by_cases c8 : x5_1 < (x4_1.length : Int)
   ·rw [if_pos c8] at H
    have c8b0 : decide (x5_1 < (x4_1.length : Int)) = true := decide_eq_true c8
    clear c8
    by_cases c9 : 0 ≤ x5_1
    ·rw [if_pos c9] at H
     have c9b0 : decide (0 ≤ x5_1) = true := decide_eq_true c9
     clear c9
     obtain ⟨t1427, A10, H⟩ := zb H
     try dsimp only at H
     have H' := zA H
     clear H
     obtain ⟨Ao11, co11, eo11⟩ := kM HO_4.out
     subst eo11
     have p1426 : 0 ≤ (x5_1 : Int) := zd
     have q1426 : x5_1 < (x4_1.length : Int) := zd
     obtain ⟨ad1426, e1426, hx1426_0⟩ := Kd.at_int (kB HO_4.out).2.2 x5_1 p1426 q1426
     cases e1426
     replace p1426 := eq_true p1426
     replace q1426 := eq_true q1426
     go_wp2_with (first | (refine zO (some 20) Tryd.func135 #[.int .i64 (rd x4_1 x5_1)] ?_; (with_reducible refine (spec_l01Bits.calls k1 (rd x4_1 x5_1) t1427 _ A10.out).mono ?_); rintro e w' ⟨rfl, ⟨nd, rfl⟩⟩; refine ⟨_, rfl, ?_⟩))
     go_loopg [3] k1 (fun kq v3 w' => ∃ (x3_2 : List Int), Aside0 (spec_l06Clique.l1 kq x3_2 x4_1 x5_1 t1427 = some r) ∧ Aside0 (kq ≤ k1) ∧ Aside0 (Kd.R (Kd.int .i64) 2 w' w.heap.size (fun k_ => some k_ ≠ ((.slice (some ad1426) x4_1.length co11) : Value).ownBlock) v3 x3_2) ∧ Aside0 (Kd.R (Kd.int .i64) 2 w' w.heap.size (fun k_ => some k_ ≠ (v3 : Value).ownBlock) (.slice (some ad1426) x4_1.length co11) x4_1) ∧ Aside0 (w'.heap[gb1419]? = some (.cells #[.int .i64 a0_0, (.slice A0_1 l0_1.length c0_1)] 28 (0, 0))) ∧ Aside0 (Below w.heap.size w w'))
     case atStart => exact ⟨(x3_1), H', ⟨Nat.le_refl _⟩, ⟨zP HO_3.out⟩, ⟨zP HO_4.out⟩, ⟨zR BK1419.out⟩, ⟨zT HB.out GE1419.out⟩⟩
     case round =>
      clear H'
      try clear c1
      try clear hx1
      try clear c8
      try clear c9
      try clear hcz6_0
      try clear hcz6_1
      try clear hfz6_0
      try clear hfz6_1
      try clear hx1426_0
      obtain ⟨x3_2, HA, HK2, HO_3, HO_4, BK1419, HB⟩ := hrel
      cases gk with
      | zero => exact absurd HA.out (by simp [spec_l06Clique.l1])
      | succ k2 =>
       have H := HA.out
       clear HA
       simp only [spec_l06Clique.l1] at H
       by_cases c12 : (x3_2.length : Int) ≤ t1427
       ·rw [if_pos c12] at H
        have c12b0 : decide ((x3_2.length : Int) ≤ t1427) = true := decide_eq_true c12
        clear c12
        by_cases c13 : x3_2.length < 17592186044416
        ·rw [if_pos c13] at H
         have LMc13 := zA c13
         clear c13
         obtain ⟨y1428, hy1428⟩ : ∃ y_ : List Int, y_ = (x3_2 ++ [0]) := ⟨_, rfl⟩
         replace H : (spec_l06Clique.l1 k2 y1428 x4_1 x5_1 t1427) = some r := zy hy1428 H
         have Ny1428 := zA hy1428
         clear hy1428
         have H' := zA H
         clear H
         obtain ⟨Ao14, co14, eo14⟩ := kM HO_3.out
         subst eo14
         go_wp2_with (first | ((with_reducible refine gate_builtin (b := .append) (xs := #[.tmp 25, .tmp 26]) rfl ?_); at_builtin; refine Kd.R_append (Kd.int .i64) (w0 := w) w.heap.size rfl (.tmp 25) (.tmp 26) 22 2 (.int .i64 0) 8 rfl Tryd.underlying22 info2 rfl (by decide) (by omega) (.slice Ao14 x3_2.length co14) x3_2 0 [.int .i64 0] (fun k_ => some k_ ≠ (.slice (some ad1426) x4_1.length co11 : Value).ownBlock) (fun _ => False) rfl rfl ?aP (fun _ hk => hk.elim) ?aF ?aO ?aB ?aS ?aL ?_; (case aP => exact rfl); (case aB => exact (zT HB.out GE1419.out)); (case aF => exact (fun k_ hk => jF (kH (zP HO_4.out)) k_ hk)); (case aO => exact (zP HO_3.out)); (case aS => exact (kP (zT HB.out GE1419.out))); (case aL => have := LMc13.out; omega); intro v1429 w15 ho hb hg hat; rw [← Ny1428.out] at ho; replace HO_4 := zA (Kd.R_after (ok := (fun _ => True)) (by (with_reducible repeat (first | apply zF | apply zG | apply zH)); exact kA HO_4.out (fun _ hk => ⟨trivial, hk⟩)) hg hat); replace BK1419 := zA (blk_grown (g := gb1419) (o := .cells #[.int .i64 a0_0, .slice A0_1 l0_1.length c0_1] 28 (0, 0)) (zR BK1419.out) hg (Kd.R_ne HO_3.out BK1419.out (by decide))); replace HB := zA (hb); have HO1430 := zA (ho); clear HO_3; clear ho hb hg hat))
         go_roundg k2
         case measure => have := HK1.out; have := HK2.out; omega
         case rel => exact ⟨(y1428), H', ⟨by have := HK1.out; have := HK2.out; omega⟩, ⟨zP HO1430.out⟩, ⟨zPM HO_4.out (fun _ hk => hk.2)⟩, ⟨zR BK1419.out⟩, ⟨zT HB.out GE1419.out⟩⟩
        rw [if_neg c13] at H
        exact absurd H (by simp)
       rw [if_neg c12] at H
       have c12b0 : decide ((x3_2.length : Int) ≤ t1427) = false := decide_eq_false c12
       clear c12
       by_cases c16 : 0 ≤ t1427
       ·rw [if_pos c16] at H
        have c16b0 : decide (0 ≤ t1427) = true := decide_eq_true c16
        clear c16
        by_cases c17 : t1427 < (x3_2.length : Int)
        ·rw [if_pos c17] at H
         have c17b0 : decide (t1427 < (x3_2.length : Int)) = true := decide_eq_true c17
         clear c17
         obtain ⟨y1432, hy1432⟩ : ∃ y_ : List Int, y_ = (x3_2.set (t1427 : Int).toNat (wrap64 ((wrap64 ((rd x3_2 t1427) + 1)) - (wrap64 (2 * (Int.tmod t1427 2)))))) := ⟨_, rfl⟩
         replace H : (spec_l06Clique.l0 k2 y1432 x4_1 (wrap64 (x5_1 + 1))) = some r := zy hy1432 H
         have Ny1432 := zA hy1432
         clear hy1432
         have H' := zA H
         clear H
         obtain ⟨Ao19, co19, eo19⟩ := kM HO_3.out
         subst eo19
         have p1431 : 0 ≤ (t1427 : Int) := zd
         have q1431 : t1427 < (x3_2.length : Int) := zd
         obtain ⟨ad1431, e1431, hx1431_0⟩ := Kd.at_int (kB HO_3.out).2.2 t1427 p1431 q1431
         cases e1431
         replace p1431 := eq_true p1431
         replace q1431 := eq_true q1431
         have p18 : 0 ≤ (t1427 : Int) := zd
         have q18 : (t1427 : Int) < ((x3_2.length : Int) : Int) := zd
         obtain ⟨go18, co18, eo18, gb18, gl18, cl18, HG18⟩ := Kd.R_form HO_3.out (by omega)
         (first | cases eo18 | (injection eo18 with ea_ en_ ec_; (first | subst ea_ | (injection ea_ with ea_; subst ea_)); subst ec_; clear en_))
         have GB18 := zA gb18
         have GG18 := zA HG18
         clear gb18 gl18 HG18
         (first | simp only [add_plain] at hx1431_0 | skip)
         obtain ⟨hx18_0, hf18_0⟩ := Kd.R_celln 0 HO_3.out (t1427 : Int) p18 q18
         replace p18 := eq_true p18
         replace q18 := eq_true q18
         have HP20 := Kd.R_putg HO_3.out (t1427 : Int) (wrap64 ((wrap64 ((rd x3_2 t1427) + 1)) - (wrap64 (2 * (Int.tmod t1427 2)))))
         go_wp2_with (first | ((with_reducible refine gate_store (t := 2) (p := 39) rfl ?_); refine store_event (t := 2) (p := 39) (v := ?vo_w21) (w1 := (wr.setCell ⟨go18, (t1427 : Int).toNat, none⟩ (.int .i64 (wrap64 ((wrap64 ((rd x3_2 t1427) + 1)) - (wrap64 (2 * (Int.tmod t1427 2)))))))) ?hg ?ho ?hn ?hr ?_; (case ho => rfl); (case hg => rfl); (case hn => rfl); (case hr => first | (go_simp; done) | (go_simp; rfl)); intro w21 hw; have hg : wr.grownBy w21 (some go18) := (by rw [hw]; exact HP20.2); have hp_ : Kd.R (Kd.int .i64) 2 w21 w.heap.size (fun k_ => some k_ ≠ (.slice (some ad1426) x4_1.length co11 : Value).ownBlock) (.slice (some ⟨go18, 0, none⟩) x3_2.length co19) y1432 := (by rw [hw, Ny1432.out]; exact HP20.1); clear HP20; replace HO_4 := zA (Kd.R_after (v := (.slice (some ⟨go18, 0, none⟩) x3_2.length co19)) (v1 := (.slice (some ⟨go18, 0, none⟩) x3_2.length co19)) (ok := (fun _ => True)) (by (with_reducible repeat (first | apply zF | apply zG | apply zH)); exact kA HO_4.out (fun _ hk => ⟨trivial, hk⟩)) hg (.inl rfl)); replace BK1419 := zA (blk_grown (g := gb1419) (o := .cells #[.int .i64 a0_0, .slice A0_1 l0_1.length c0_1] 28 (0, 0)) (zR BK1419.out) hg (Kd.R_ne HO_3.out BK1419.out (by decide))); replace HO_3 := zA (hp_); replace HB := zA ((by rw [hw]; exact zE (HB.out) GB18.out : Below w.heap.size w w21)); clear hg hw hp_))
         go_roundg k2
         case measure => have := HK1.out; have := HK2.out; omega
         case rel => exact ⟨(y1432), (x4_1), (wrap64 (x5_1 + 1)), zs, H', ⟨by have := HK1.out; have := HK2.out; omega⟩, ⟨zP HO_3.out⟩, ⟨zPM HO_4.out (fun _ hk => hk.2)⟩, ⟨zR BK1419.out⟩, ⟨zT HB.out GE1419.out⟩⟩
        rw [if_neg c17] at H
        exact absurd H (by simp)
       rw [if_neg c16] at H
       exact absurd H (by simp)
    rw [if_neg c9] at H
    exact absurd H (by simp)
   rw [if_neg c8] at H
   have c8b0 : decide (x5_1 < (x4_1.length : Int)) = false := decide_eq_false c8
   clear c8
   obtain rfl := Option.some.inj H
   obtain ⟨Ao22, co22, eo22⟩ := kM HO_4.out
   subst eo22
   go_wp2
   go_ret
   exact ⟨_, zr, by (with_reducible repeat (first | apply zF | apply zG | apply zH)); exact kA HO_3.out (fun _ hk => trivial), zT HB.out GE1419.out⟩

/-! ### spec_CliquePolynomial: function 48 -/
def spec_CliquePolynomial.f (k : Nat) (a0_0 : Int) (l0_1 : List Int) : Option (List Int × Int) := (spec_l02Is.f k a0_0 l0_1).bind fun t1434 => (if t1434 = true then ((spec_l06Clique.f k a0_0 l0_1).bind fun t1435 => (some (t1435, 0))) else (some (([] : List Int), 1)))

set_option maxHeartbeats 8000000 in
set_option maxRecDepth 100000 in
theorem spec_CliquePolynomial.calls (k : Nat) (a0_0 : Int) (A0_1 : Option Addr) (c0_1 : Nat) (l0_1 : List Int) (r1 : List Int) (r2 : Int) (w : World) (hr0_1 : Kd.C (Kd.int .i64) w A0_1 l0_1.length l0_1) (hc0_1 : l0_1.length ≤ c0_1) (h : spec_CliquePolynomial.f k a0_0 l0_1 = some (r1, r2)) :
  Calls Tryd.prog 48 #[.agg #[.int .i64 a0_0, .slice A0_1 l0_1.length c0_1]] w fun e w' => ∃ v0_ : Value, e = .returned (.tuple #[v0_, .int .i64 r2]) ∧ Kd.R (Kd.int .i64) 2 w' w.heap.size (fun _ => True) v0_ r1 ∧ Below w.heap.size w w' := by
 have hu28 := Tryd.underlying28
 have HR0_1 := zA hr0_1
 have HC0_1 := zA hc0_1
 clear hr0_1 hc0_1
 have HB := zA (kW w.heap.size w)
 have H := h
 unfold spec_CliquePolynomial.f at H
 clear h
 obtain ⟨t1434, A2, H⟩ := zb H
 try dsimp only at H
 by_cases c3 : t1434 = true
 ·subst c3
  rw [if_pos rfl] at H
  obtain ⟨t1435, A4, H⟩ := zb H
  try dsimp only at H
  simp only [Option.some.injEq, Prod.mk.injEq] at H
  obtain ⟨rfl, rfl⟩ := H
  go_enter Tryd.func48, Tryd.ntmps48
  go_wp2_with (first | (refine zBE 1 #[.int .i64 a0_0, .slice A0_1 l0_1.length c0_1] 28 ?_; intro gb1433 hg w5 hbox hb; have BK1433 := zA (hbox); have GW1433 := zA (zBH hg HB.out); have GE1433 := zA (zBH hg HB.out); replace HB := zA (kQ (zQ HB.out) hb); clear hb hbox hg; obtain ⟨hcz6_0, hcz6_1, hfz6_0, hfz6_1⟩ := zB3 BK1433.out) | (refine zO (some 5) Tryd.func83 #[.agg #[.int .i64 a0_0, .slice A0_1 l0_1.length c0_1]] ?_; (with_reducible refine (spec_l02Is.calls k a0_0 _ _ l0_1 true _ ?side1 ?side2 A2.out).mono ?_); (case side1 => exact zS (kO HR0_1.out HB.out)); (case side2 => exact HC0_1.out); rintro e w7 ⟨rfl, hb⟩; refine ⟨_, rfl, ?_⟩; replace BK1433 := zA (zB1 BK1433.out hb); replace HB := zA (kQ (zT HB.out GE1433.out) hb); (try clear hb); obtain ⟨hcz8_0, hcz8_1, hfz8_0, hfz8_1⟩ := zB3 BK1433.out) | (refine zO (some 8) Tryd.func96 #[.agg #[.int .i64 a0_0, .slice A0_1 l0_1.length c0_1]] ?_; (with_reducible refine (spec_l06Clique.calls k a0_0 _ _ l0_1 t1435 _ ?side1 ?side2 A4.out).mono ?_); (case side1 => exact zS (kO HR0_1.out HB.out)); (case side2 => exact HC0_1.out); rintro e w9 ⟨v1436, rfl, ho0, hb⟩; refine ⟨_, rfl, ?_⟩; have HO1437 := zA (kI ho0 (kP (zT HB.out GE1433.out))); replace BK1433 := zA (zB1 BK1433.out hb); replace HB := zA (kQ (zT HB.out GE1433.out) hb); (try clear hb); (try clear ho0)))
  go_ret2
  exact ⟨_, zr, zP HO1437.out, zT HB.out GE1433.out⟩
 replace c3 := Bool.eq_false_iff.mpr c3
 subst c3
 rw [if_neg (show ¬ (false = true) by decide)] at H
 simp only [Option.some.injEq, Prod.mk.injEq] at H
 obtain ⟨rfl, rfl⟩ := H
 go_enter Tryd.func48, Tryd.ntmps48
 go_wp2_with (first | (refine zBE 1 #[.int .i64 a0_0, .slice A0_1 l0_1.length c0_1] 28 ?_; intro gb1433 hg w10 hbox hb; have BK1433 := zA (hbox); have GW1433 := zA (zBH hg HB.out); have GE1433 := zA (zBH hg HB.out); replace HB := zA (kQ (zQ HB.out) hb); clear hb hbox hg; obtain ⟨hcz11_0, hcz11_1, hfz11_0, hfz11_1⟩ := zB3 BK1433.out) | (refine zO (some 5) Tryd.func83 #[.agg #[.int .i64 a0_0, .slice A0_1 l0_1.length c0_1]] ?_; (with_reducible refine (spec_l02Is.calls k a0_0 _ _ l0_1 false _ ?side1 ?side2 A2.out).mono ?_); (case side1 => exact zS (kO HR0_1.out HB.out)); (case side2 => exact HC0_1.out); rintro e w12 ⟨rfl, hb⟩; refine ⟨_, rfl, ?_⟩; replace BK1433 := zA (zB1 BK1433.out hb); replace HB := zA (kQ (zT HB.out GE1433.out) hb); (try clear hb)))
 go_ret2
 exact ⟨_, zr, zn, zT HB.out GE1433.out⟩

/-! ### impl_CliquePolynomial: function 49 -/
def impl_CliquePolynomial.f (k : Nat) (a0_0 : Int) (l0_1 : List Int) : Option (List Int × Int) := (impl_IsAlphabet.f k a0_0 l0_1).bind fun t1604 => (if t1604 = true then ((impl_cliquePolynomial.f k a0_0 l0_1).bind fun t1605 => (some (t1605, 0))) else (some (([] : List Int), 1)))

set_option maxHeartbeats 8000000 in
set_option maxRecDepth 100000 in
theorem impl_CliquePolynomial.calls (k : Nat) (a0_0 : Int) (A0_1 : Option Addr) (c0_1 : Nat) (l0_1 : List Int) (r1 : List Int) (r2 : Int) (w : World) (hr0_1 : Kd.C (Kd.int .i64) w A0_1 l0_1.length l0_1) (hc0_1 : l0_1.length ≤ c0_1) (hT : TabW w) (h : impl_CliquePolynomial.f k a0_0 l0_1 = some (r1, r2)) :
  Calls Tryd.prog 49 #[.agg #[.int .i64 a0_0, .slice A0_1 l0_1.length c0_1]] w fun e w' => ∃ v0_ : Value, e = .returned (.tuple #[v0_, .int .i64 r2]) ∧ Kd.R (Kd.int .i64) 2 w' w.heap.size (fun _ => True) v0_ r1 ∧ Below w.heap.size w w' := by
 have hu28 := Tryd.underlying28
 have HT := zA hT
 clear hT
 have HR0_1 := zA hr0_1
 have HC0_1 := zA hc0_1
 clear hr0_1 hc0_1
 have HB := zA (kW w.heap.size w)
 have H := h
 unfold impl_CliquePolynomial.f at H
 clear h
 obtain ⟨t1604, A2, H⟩ := zb H
 try dsimp only at H
 by_cases c3 : t1604 = true
 ·subst c3
  rw [if_pos rfl] at H
  obtain ⟨t1605, A4, H⟩ := zb H
  try dsimp only at H
  simp only [Option.some.injEq, Prod.mk.injEq] at H
  obtain ⟨rfl, rfl⟩ := H
  go_enter Tryd.func49, Tryd.ntmps49
  go_wp2_with (first | (refine zBE 1 #[.int .i64 a0_0, .slice A0_1 l0_1.length c0_1] 28 ?_; intro gb1603 hg w5 hbox hb; have BK1603 := zA (hbox); have GW1603 := zA (zBH hg HB.out); have GE1603 := zA (zBH hg HB.out); replace HB := zA (kQ (zQ HB.out) hb); clear hb hbox hg; obtain ⟨hcz6_0, hcz6_1, hfz6_0, hfz6_1⟩ := zB3 BK1603.out) | (refine zO (some 5) Tryd.func97 #[.agg #[.int .i64 a0_0, .slice A0_1 l0_1.length c0_1]] ?_; (with_reducible refine (impl_IsAlphabet.calls k a0_0 _ _ l0_1 true _ ?side1 ?side2 ?side3 A2.out).mono ?_); (case side1 => exact zS (kO HR0_1.out HB.out)); (case side2 => exact HC0_1.out); (case side3 => exact TabW.below HT.out (zT HB.out GE1603.out)); rintro e w7 ⟨rfl, hb⟩; refine ⟨_, rfl, ?_⟩; replace BK1603 := zA (zB1 BK1603.out hb); replace HB := zA (kQ (zT HB.out GE1603.out) hb); (try clear hb); obtain ⟨hcz8_0, hcz8_1, hfz8_0, hfz8_1⟩ := zB3 BK1603.out) | (refine zO (some 8) Tryd.func98 #[.agg #[.int .i64 a0_0, .slice A0_1 l0_1.length c0_1]] ?_; (with_reducible refine (impl_cliquePolynomial.calls k a0_0 _ _ l0_1 t1605 _ ?side1 ?side2 ?side3 A4.out).mono ?_); (case side1 => exact zS (kO HR0_1.out HB.out)); (case side2 => exact HC0_1.out); (case side3 => exact TabW.below HT.out (zT HB.out GE1603.out)); rintro e w9 ⟨v1606, rfl, ho0, hb⟩; refine ⟨_, rfl, ?_⟩; have HO1607 := zA (kI ho0 (kP (zT HB.out GE1603.out))); replace BK1603 := zA (zB1 BK1603.out hb); replace HB := zA (kQ (zT HB.out GE1603.out) hb); (try clear hb); (try clear ho0)))
  go_ret2
  exact ⟨_, zr, zP HO1607.out, zT HB.out GE1603.out⟩
 replace c3 := Bool.eq_false_iff.mpr c3
 subst c3
 rw [if_neg (show ¬ (false = true) by decide)] at H
 simp only [Option.some.injEq, Prod.mk.injEq] at H
 obtain ⟨rfl, rfl⟩ := H
 go_enter Tryd.func49, Tryd.ntmps49
 go_wp2_with (first | (refine zBE 1 #[.int .i64 a0_0, .slice A0_1 l0_1.length c0_1] 28 ?_; intro gb1603 hg w10 hbox hb; have BK1603 := zA (hbox); have GW1603 := zA (zBH hg HB.out); have GE1603 := zA (zBH hg HB.out); replace HB := zA (kQ (zQ HB.out) hb); clear hb hbox hg; obtain ⟨hcz11_0, hcz11_1, hfz11_0, hfz11_1⟩ := zB3 BK1603.out) | (refine zO (some 5) Tryd.func97 #[.agg #[.int .i64 a0_0, .slice A0_1 l0_1.length c0_1]] ?_; (with_reducible refine (impl_IsAlphabet.calls k a0_0 _ _ l0_1 false _ ?side1 ?side2 ?side3 A2.out).mono ?_); (case side1 => exact zS (kO HR0_1.out HB.out)); (case side2 => exact HC0_1.out); (case side3 => exact TabW.below HT.out (zT HB.out GE1603.out)); rintro e w12 ⟨rfl, hb⟩; refine ⟨_, rfl, ?_⟩; replace BK1603 := zA (zB1 BK1603.out hb); replace HB := zA (kQ (zT HB.out GE1603.out) hb); (try clear hb)))
 go_ret2
 exact ⟨_, zr, zn, zT HB.out GE1603.out⟩

/-! ### laws_FnExactCliquePolynomial: function 13 -/
def laws_eqInt64S_BFnExactCliquePolynomial.f (k : Nat) (l0 : List Int) (l1 : List Int) : Option (Bool) := laws_eqInt64S.f k l0 l1
theorem laws_eqInt64S_BFnExactCliquePolynomial.calls (k : Nat) (A0 : Option Addr) (c0 : Nat) (l0 : List Int) (A1 : Option Addr) (c1 : Nat) (l1 : List Int) (r : Bool) (w : World) (hr0 : Kd.C (Kd.int .i64) w A0 l0.length l0) (hc0 : l0.length ≤ c0) (hr1 : Kd.C (Kd.int .i64) w A1 l1.length l1) (hc1 : l1.length ≤ c1) (h : laws_eqInt64S_BFnExactCliquePolynomial.f k l0 l1 = some r) :
 Calls Tryd.prog 20 #[.slice A0 l0.length c0, .slice A1 l1.length c1] w fun e w' => e = .returned (.bool r) ∧ Below w.heap.size w w' := by
 refine (laws_eqInt64S.calls k A0 c0 l0 A1 c1 l1 r w hr0 hc0 hr1 hc1 h).mono ?_
 rintro e w' ⟨h1, h2⟩
 exact ⟨h1, Drawn0.below h2⟩
def laws_FnExactCliquePolynomial.f (k : Nat) (a0_0 : Int) (l0_1 : List Int) : Option (Bool) := (laws_szAlphabet.f a0_0 l0_1 1048576).bind fun t1609 => (if t1609 < 0 then (some true) else ((laws_toAlphabet.f k a0_0 l0_1).bind fun bt1610 => ((spec_CliquePolynomial.f k bt1610.1 bt1610.2).bind fun bt1614 => ((laws_toAlphabet.f k a0_0 l0_1).bind fun bt1618 => ((impl_CliquePolynomial.f k bt1618.1 bt1618.2).bind fun bt1623 => ((laws_eqInt64S_BFnExactCliquePolynomial.f k bt1623.1 bt1614.1).bind fun t1627 => (if t1627 = true then (if bt1623.2 = bt1614.2 then ((laws_toAlphabet.f k a0_0 l0_1).bind fun bt1628 => ((laws_eqAlphabet.f k bt1618.1 bt1618.2 bt1628.1 bt1628.2).bind fun t1632 => (if t1632 = true then ((laws_markAlphabet.f k bt1618.1 bt1618.2 1).bind fun bt1633 => (if bt1633.1 < 0 then (none) else ((laws_eqInt64S_BFnExactCliquePolynomial.f k bt1623.1 bt1614.1).bind fun t1635 => (if t1635 = true then ((laws_markInt64S.f k bt1623.1 1).bind fun bt1636 => ((laws_heldInt64S.f k bt1636.2 1).bind fun t1638 => (if t1638 < 0 then (none) else (if t1638 = bt1636.1 then ((laws_toAlphabet.f k a0_0 l0_1).bind fun bt1639 => ((impl_CliquePolynomial.f k bt1639.1 bt1639.2).bind fun bt1643 => ((laws_eqInt64S_BFnExactCliquePolynomial.f k bt1643.1 bt1614.1).bind fun t1647 => (if t1647 = true then (if bt1643.2 = bt1614.2 then ((laws_heldInt64S.f k bt1636.2 1).bind fun t1648 => (if t1648 < 0 then (none) else (if t1648 = bt1636.1 then (some true) else (none)))) else (none)) else (none))))) else (none))))) else (none))))) else (none)))) else (none)) else (none))))))))

set_option maxHeartbeats 8000000 in
set_option maxRecDepth 100000 in
theorem laws_FnExactCliquePolynomial.calls (k : Nat) (a0_0 : Int) (A0_1 : Option Addr) (c0_1 : Nat) (l0_1 : List Int) (r : Bool) (w : World) (hr0_1 : Kd.C (Kd.int .i64) w A0_1 l0_1.length l0_1) (hc0_1 : l0_1.length ≤ c0_1) (hT : TabW w) (h : laws_FnExactCliquePolynomial.f k a0_0 l0_1 = some r) :
  Calls Tryd.prog 13 #[.agg #[.int .i64 a0_0, .slice A0_1 l0_1.length c0_1]] w fun e w' => e = .returned (.bool r) ∧ Below w.heap.size w w' := by
 have hu24 := Tryd.underlying24
 have hu28 := Tryd.underlying28
 have HT := zA hT
 clear hT
 have HR0_1 := zA hr0_1
 have HC0_1 := zA hc0_1
 clear hr0_1 hc0_1
 have HB := zA (kW w.heap.size w)
 have H := h
 unfold laws_FnExactCliquePolynomial.f at H
 clear h
 obtain ⟨t1609, A2, H⟩ := zb H
 try dsimp only at H
 by_cases c3 : t1609 < 0
 ·rw [if_pos c3] at H
  have c3b0 : decide (t1609 < 0) = true := decide_eq_true c3
  clear c3
  obtain rfl := Option.some.inj H
  go_enter Tryd.func13, Tryd.ntmps13
  go_wp2_with (first | (refine zBE 1 #[.int .i64 a0_0, .slice A0_1 l0_1.length c0_1] 24 ?_; intro gb1608 hg w4 hbox hb; have BK1608 := zA (hbox); have GW1608 := zA (zBH hg HB.out); have GE1608 := zA (zBH hg HB.out); replace HB := zA (kQ (zQ HB.out) hb); clear hb hbox hg; obtain ⟨hcz5_0, hcz5_1, hfz5_0, hfz5_1⟩ := zB3 BK1608.out) | (refine zO (some 16) Tryd.func15 #[.agg #[.int .i64 a0_0, .slice A0_1 l0_1.length c0_1], .int .i64 1048576] ?_; (with_reducible refine (laws_szAlphabet.calls a0_0 _ _ l0_1 1048576 t1609 _ ?side1 ?side2 A2.out).mono ?_); (case side1 => exact zS (kO HR0_1.out HB.out)); (case side2 => exact HC0_1.out); rintro e w6 ⟨rfl, hb⟩; refine ⟨_, rfl, ?_⟩; replace BK1608 := zA (zB1 BK1608.out hb); replace HB := zA (kQ (zT HB.out GE1608.out) hb); (try clear hb)))
  go_ret
  exact ⟨zr, zT HB.out GE1608.out⟩
 rw [if_neg c3] at H
 have c3b0 : decide (t1609 < 0) = false := decide_eq_false c3
 clear c3
 obtain ⟨⟨t1610, t1611⟩, A7, H⟩ := zb H
 try dsimp only at H
 obtain ⟨⟨t1614, t1617⟩, A8, H⟩ := zb H
 try dsimp only at H
 obtain ⟨⟨t1618, t1619⟩, A9, H⟩ := zb H
 try dsimp only at H
 obtain ⟨⟨t1623, t1626⟩, A10, H⟩ := zb H
 try dsimp only at H
 obtain ⟨t1627, A11, H⟩ := zb H
 try dsimp only at H
 by_cases c12 : t1627 = true
 ·subst c12
  rw [if_pos rfl] at H
  by_cases c13 : t1626 = t1617
  ·rw [if_pos c13] at H
   obtain ⟨c13b0, c13b1⟩ := zT1 c13
   clear c13
   obtain ⟨⟨t1628, t1629⟩, A14, H⟩ := zb H
   try dsimp only at H
   obtain ⟨t1632, A15, H⟩ := zb H
   try dsimp only at H
   by_cases c16 : t1632 = true
   ·subst c16
    rw [if_pos rfl] at H
    obtain ⟨⟨t1633, t1634⟩, A17, H⟩ := zb H
    try dsimp only at H
    by_cases c18 : t1633 < 0
    ·rw [if_pos c18] at H
     exact absurd H (by simp)
    rw [if_neg c18] at H
    have c18b0 : decide (t1633 < 0) = false := decide_eq_false c18
    clear c18
    obtain ⟨t1635, A19, H⟩ := zb H
    try dsimp only at H
    by_cases c20 : t1635 = true
    ·subst c20
     rw [if_pos rfl] at H
     obtain ⟨⟨t1636, t1637⟩, A21, H⟩ := zb H
     try dsimp only at H
     obtain ⟨t1638, A22, H⟩ := zb H
     try dsimp only at H
     by_cases c23 : t1638 < 0
     ·rw [if_pos c23] at H
      exact absurd H (by simp)
     rw [if_neg c23] at H
     have c23b0 : decide (t1638 < 0) = false := decide_eq_false c23
     clear c23
     by_cases c24 : t1638 = t1636
     ·rw [if_pos c24] at H
      obtain ⟨c24b0, c24b1⟩ := zT1 c24
      clear c24
      obtain ⟨⟨t1639, t1640⟩, A25, H⟩ := zb H
      try dsimp only at H
      obtain ⟨⟨t1643, t1646⟩, A26, H⟩ := zb H
      try dsimp only at H
      obtain ⟨t1647, A27, H⟩ := zb H
      try dsimp only at H
      by_cases c28 : t1647 = true
      ·subst c28
       rw [if_pos rfl] at H
       by_cases c29 : t1646 = t1617
       ·rw [if_pos c29] at H
        obtain ⟨c29b0, c29b1⟩ := zT1 c29
        clear c29
        obtain ⟨t1648, A30, H⟩ := zb H
        try dsimp only at H
        by_cases c31 : t1648 < 0
        ·rw [if_pos c31] at H
         exact absurd H (by simp)
        rw [if_neg c31] at H
        have c31b0 : decide (t1648 < 0) = false := decide_eq_false c31
        clear c31
        by_cases c32 : t1648 = t1636
        ·rw [if_pos c32] at H
         obtain ⟨c32b0, c32b1⟩ := zT1 c32
         clear c32
         obtain rfl := Option.some.inj H
         go_enter Tryd.func13, Tryd.ntmps13
         try go_wp2_with (first | (refine zBE 1 #[.int .i64 a0_0, .slice A0_1 l0_1.length c0_1] 24 ?_; intro gb1608 hg w33 hbox hb; have BK1608 := zA (hbox); have GW1608 := zA (zBH hg HB.out); have GE1608 := zA (zBH hg HB.out); replace HB := zA (kQ (zQ HB.out) hb); clear hb hbox hg; obtain ⟨hcz34_0, hcz34_1, hfz34_0, hfz34_1⟩ := zB3 BK1608.out) | (refine zO (some 16) Tryd.func15 #[.agg #[.int .i64 a0_0, .slice A0_1 l0_1.length c0_1], .int .i64 1048576] ?_; (with_reducible refine (laws_szAlphabet.calls a0_0 _ _ l0_1 1048576 t1609 _ ?side1 ?side2 A2.out).mono ?_); (case side1 => exact zS (kO HR0_1.out HB.out)); (case side2 => exact HC0_1.out); rintro e w35 ⟨rfl, hb⟩; refine ⟨_, rfl, ?_⟩; replace BK1608 := zA (zB1 BK1608.out hb); replace HB := zA (kQ (zT HB.out GE1608.out) hb); (try clear hb); obtain ⟨hcz36_0, hcz36_1, hfz36_0, hfz36_1⟩ := zB3 BK1608.out) | (refine zO (some 21) Tryd.func17 #[.agg #[.int .i64 a0_0, .slice A0_1 l0_1.length c0_1]] ?_; (with_reducible refine (laws_toAlphabet.calls k a0_0 _ _ l0_1 t1610 t1611 _ ?side1 ?side2 A7.out).mono ?_); (case side1 => exact zS (kO HR0_1.out HB.out)); (case side2 => exact HC0_1.out); rintro e w37 ⟨v1612, rfl, ho0, hb⟩; refine ⟨_, rfl, ?_⟩; have HO1613 := zA (kI ho0 (kP (zT HB.out GE1608.out))); replace BK1608 := zA (zB1 BK1608.out hb); replace HB := zA (kQ (zT HB.out GE1608.out) hb); (try clear hb); (try clear ho0); obtain ⟨Ao38, co38, eo38⟩ := kM HO1613.out; subst eo38) | (refine zO (some 22) Tryd.func48 #[.agg #[.int .i64 t1610, .slice Ao38 t1611.length co38]] ?_; (with_reducible refine (spec_CliquePolynomial.calls k t1610 _ _ t1611 t1614 t1617 _ ?side1 ?side2 A8.out).mono ?_); (case side1 => exact zS (kB HO1613.out).2.2); (case side2 => exact (kB HO1613.out).2.1); rintro e w39 ⟨v1615, rfl, ho0, hb⟩; refine ⟨_, rfl, ?_⟩; have HO1616 := zA (kI (kF ho0 (kH (zP HO1613.out))) (kP (zT HB.out GE1608.out))); replace HO1613 := zA (kE (zP HO1613.out) (kC ho0) hb); replace BK1608 := zA (zB1 BK1608.out hb); replace HB := zA (kQ (zT HB.out GE1608.out) hb); (try clear hb); (try clear ho0); obtain ⟨hcz40_0, hcz40_1, hfz40_0, hfz40_1⟩ := zB3 BK1608.out) | (refine zO (some 26) Tryd.func17 #[.agg #[.int .i64 a0_0, .slice A0_1 l0_1.length c0_1]] ?_; (with_reducible refine (laws_toAlphabet.calls k a0_0 _ _ l0_1 t1618 t1619 _ ?side1 ?side2 A9.out).mono ?_); (case side1 => exact zS (kO HR0_1.out HB.out)); (case side2 => exact HC0_1.out); rintro e w41 ⟨v1620, rfl, ho0, hb⟩; refine ⟨_, rfl, ?_⟩; have HO1621 := zA (kI (kF (kF ho0 (kH (zP HO1613.out))) (kH (zP HO1616.out))) (kP (zT HB.out GE1608.out))); replace HO1613 := zA (kE (zP HO1613.out) (kC ho0) hb); replace HO1616 := zA (kE (zP HO1616.out) (kC ho0) hb); replace BK1608 := zA (zB1 BK1608.out hb); replace HB := zA (kQ (zT HB.out GE1608.out) hb); (try clear hb); (try clear ho0)) | (refine zBE 6 #[.int .i64 0, .slice none 0 0] 28 ?_; intro gb1622 hg w42 hbox hb; replace HO1613 := zA (kL (zP HO1613.out) hb); replace HO1616 := zA (kL (zP HO1616.out) hb); replace HO1621 := zA (kL (zP HO1621.out) hb); have BK1622 := zA (hbox); have GW1622 := zA (zB6 hg (kP (zT HB.out GE1608.out)) : w.heap.size ≤ gb1622); have GE1622 := zA (zB6 hg (kP (zT HB.out GE1608.out)) : w.heap.size ≤ gb1622); replace HB := zA (kQ (zT HB.out GE1608.out) hb); have NB1608_1622 := zA (zB4 hg BK1608.out : gb1608 ≠ gb1622); have NB1622_1608 := zA (zB5 hg BK1608.out : gb1622 ≠ gb1608); replace BK1608 := zA (zB1 BK1608.out hb); clear hb hbox hg; have hnb43 := NB1622_1608.out; have hnc43 := NB1608_1622.out; obtain ⟨hcz44_0, hcz44_1, hfz44_0, hfz44_1⟩ := zB3 BK1622.out; obtain ⟨Ao45, co45, eo45⟩ := kM HO1621.out; subst eo45) | (refine zO (some 29) Tryd.func49 #[.agg #[.int .i64 t1618, .slice Ao45 t1619.length co45]] ?_; (with_reducible refine (impl_CliquePolynomial.calls k t1618 _ _ t1619 t1623 t1626 _ ?side1 ?side2 ?side3 A10.out).mono ?_); (case side1 => refine (kB (e := 2) (base := w.heap.size) (ok := fun k_ => ((True ∧ some k_ ≠ (.slice Ao38 t1611.length co38 : Value).ownBlock) ∧ some k_ ≠ (v1615 : Value).ownBlock)) (n := t1619.length) (c := co45) ?_).2.2; exact (zP (zFG HO1621.out BK1622.out (.int .i64 t1618) (.slice Ao45 t1619.length co45)))); (case side2 => exact (kB HO1621.out).2.1); (case side3 => exact TabW.below HT.out (zV HB.out GE1608.out GE1622.out)); rintro e w46 ⟨v1624, rfl, ho0, hb⟩; refine ⟨_, rfl, ?_⟩; have HO1625 := zA (kI (kF (kF (kF ho0 (kH (zP (zFG HO1613.out BK1622.out (.int .i64 t1618) (.slice Ao45 t1619.length co45))))) (kH (zP (zFG HO1616.out BK1622.out (.int .i64 t1618) (.slice Ao45 t1619.length co45))))) (kH (zP (zFG HO1621.out BK1622.out (.int .i64 t1618) (.slice Ao45 t1619.length co45))))) (kP (zV HB.out GE1608.out GE1622.out))); replace HO1613 := zA (kE (zP (zFG HO1613.out BK1622.out (.int .i64 t1618) (.slice Ao45 t1619.length co45))) (kC ho0) hb); replace HO1616 := zA (kE (zP (zFG HO1616.out BK1622.out (.int .i64 t1618) (.slice Ao45 t1619.length co45))) (kC ho0) hb); replace HO1621 := zA (kE (zP (zFG HO1621.out BK1622.out (.int .i64 t1618) (.slice Ao45 t1619.length co45))) (kC ho0) hb); replace BK1608 := zA (blk_below (g := gb1608) (o := .cells #[.int .i64 a0_0, .slice A0_1 l0_1.length c0_1] 24 (0, 0)) (zBG BK1608.out NB1608_1622.out NB1608_1622.out) hb); replace BK1622 := zA (blk_below (g := gb1622) (o := .cells #[.int .i64 t1618, .slice Ao45 t1619.length co45] 28 (0, 0)) (zRP BK1622.out) hb); replace HB := zA (kQ (zV HB.out GE1608.out GE1622.out) hb); (try clear hb); (try clear ho0); obtain ⟨Ao47, co47, eo47⟩ := kM HO1625.out; subst eo47; obtain ⟨Ao48, co48, eo48⟩ := kM HO1616.out; subst eo48) | (refine zO (some 34) Tryd.func20 #[.slice Ao47 t1623.length co47, .slice Ao48 t1614.length co48] ?_; (with_reducible refine (laws_eqInt64S_BFnExactCliquePolynomial.calls k _ _ t1623 _ _ t1614 true _ ?side1 ?side2 ?side3 ?side4 A11.out).mono ?_); (case side1 => exact zS (kB HO1625.out).2.2); (case side2 => exact (kB HO1625.out).2.1); (case side3 => exact zS (kB HO1616.out).2.2); (case side4 => exact (kB HO1616.out).2.1); rintro e w49 ⟨rfl, hb⟩; refine ⟨_, rfl, ?_⟩; replace HO1613 := zA (kL (zP HO1613.out) hb); replace HO1616 := zA (kL (zP HO1616.out) hb); replace HO1621 := zA (kL (zP HO1621.out) hb); replace HO1625 := zA (kL (zP HO1625.out) hb); replace BK1608 := zA (zB1 BK1608.out hb); replace BK1622 := zA (zB1 BK1622.out hb); replace HB := zA (kQ (zV HB.out GE1608.out GE1622.out) hb); (try clear hb)))
         replace HO1613 := zA (zH HO1613.out)
         replace HO1616 := zA (zH HO1616.out)
         replace HO1621 := zA (zH HO1621.out)
         replace HO1625 := zA (zH HO1625.out)
         replace BK1608 := zA (zK BK1608.out)
         replace BK1622 := zA (zK BK1622.out)
         replace HB := zA (zD HB.out)
         refine start_ (n := 5) (S := fun w' => w'.cell? ⟨gb1622, 0, none⟩ = some (.int .i64 t1618) ∧ w'.cell? ⟨gb1622, 1, none⟩ = some (.slice Ao45 t1619.length co45) ∧ w'.cell? ⟨gb1608, 0, none⟩ = some (.int .i64 a0_0) ∧ w'.cell? ⟨gb1608, 1, none⟩ = some (.slice A0_1 l0_1.length c0_1)) (ds := []) #[false, false, false, false, false] (by kernel_rfl) rfl rfl ⟨(kV BK1622.out 0).trans rfl, (kV BK1622.out 1).trans rfl, (kV BK1608.out 0).trans rfl, (kV BK1608.out 1).trans rfl⟩ (fun hHeld => ?_)
         generalize w49.drew = w50 at HO1613 HO1616 HO1621 HO1625 BK1608 BK1622 HB hHeld ⊢
         refine take_ (i := 0) (N := some 41) (v := ?_) (a' := ?_) #[true, false, false, false, false] rfl rfl (by kernel_rfl) (fun _ _ _ h => h) (Or.inl ⟨by rfl, ?_⟩) hHeld ?_ ?_
         rotate_left
         ·rintro w' ⟨s0, s1, s2, s3⟩
          go_simp
          with_reducible rfl
         rotate_left
         ·simp only [Act.put, zL, zM, zN, i64_w, i32_w]
          rfl
         refine take_ (i := 1) (N := some 42) (v := ?_) (a' := ?_) #[true, true, false, false, false] rfl rfl (by kernel_rfl) (fun _ _ _ h => h) (Or.inl ⟨by rfl, ?_⟩) hHeld ?_ ?_
         rotate_left
         ·rintro w' ⟨s0, s1, s2, s3⟩
          go_simp
          with_reducible rfl
         rotate_left
         ·simp only [Act.put, zL, zM, zN, i64_w, i32_w]
          rfl
         refine one_ (i := 2) (N := some 43) #[true, true, true, false, false] rfl rfl (by kernel_rfl) (by decide) (fun K hK => ?_)
         refine goes_ Tryd.func17 (by kernel_rfl) rfl #[.agg #[.int .i64 a0_0, .slice A0_1 l0_1.length c0_1]] (by rfl) rfl rfl zg ?_
         with_reducible refine (laws_toAlphabet.calls k a0_0 _ _ l0_1 t1628 t1629 _ ?side1 ?side2 A14.out).mono ?_
         (case side1 => exact zS (kO HR0_1.out HB.out))
         (case side2 => exact HC0_1.out)
         rintro e w51 ⟨v1630, rfl, ho0, hb⟩
         refine ⟨_, rfl, ?_⟩
         have HO1631 := zA (kI (kF (kF (kF (kF ho0 (kH (zP HO1613.out))) (kH (zP HO1616.out))) (kH (zP HO1621.out))) (kH (zP HO1625.out))) (kP (zV HB.out GE1608.out GE1622.out)))
         replace HO1613 := zA (kE (zP HO1613.out) (kC ho0) hb)
         replace HO1616 := zA (kE (zP HO1616.out) (kC ho0) hb)
         replace HO1621 := zA (kE (zP HO1621.out) (kC ho0) hb)
         replace HO1625 := zA (kE (zP HO1625.out) (kC ho0) hb)
         replace BK1608 := zA (zB1 BK1608.out hb)
         replace BK1622 := zA (zB1 BK1622.out hb)
         replace HB := zA (kQ (zV HB.out GE1608.out GE1622.out) hb)
         (try clear hb)
         (try clear hb2)
         (try clear hk)
         (try clear hi)
         (try clear hgw)
         (try clear ho0)
         obtain ⟨Ao52, co52, eo52⟩ := kM HO1631.out
         (first | subst eo52 | (injection eo52 with f1_ f2_ f3_; have f4_ := f1_.symm; have f5_ := f3_.symm; clear f1_ f2_ f3_; subst f4_; subst f5_))
         refine hK.out _ _ ⟨(kV BK1622.out 0).trans rfl, (kV BK1622.out 1).trans rfl, (kV BK1608.out 0).trans rfl, (kV BK1608.out 1).trans rfl⟩ (fun hHeld => ?_)
         clear hK K
         refine norm_ (a' := ?_) ?_ ?_
         rotate_left
         ·show Act.put _ (some 43) _ = _
          simp only [Act.put, zL, zM, zN, i64_w, i32_w]
          rfl
         refine one_ (i := 3) (N := some 44) #[true, true, true, true, false] rfl rfl (by kernel_rfl) (by decide) (fun K hK => ?_)
         refine goes_ Tryd.func21 (by kernel_rfl) rfl #[.agg #[.int .i64 t1618, .slice Ao45 t1619.length co45], .agg #[.int .i64 t1628, .slice Ao52 t1629.length co52]] (by rfl) rfl rfl zg ?_
         with_reducible refine (laws_eqAlphabet.calls k t1618 _ _ t1619 t1628 _ _ t1629 true _ ?side1 ?side2 ?side3 ?side4 A15.out).mono ?_
         (case side1 => exact zS (kB HO1621.out).2.2)
         (case side2 => exact (kB HO1621.out).2.1)
         (case side3 => exact zS (kB HO1631.out).2.2)
         (case side4 => exact (kB HO1631.out).2.1)
         rintro e w53 ⟨rfl, hb⟩
         refine ⟨_, rfl, ?_⟩
         replace HO1613 := zA (kL (zP HO1613.out) hb)
         replace HO1616 := zA (kL (zP HO1616.out) hb)
         replace HO1621 := zA (kL (zP HO1621.out) hb)
         replace HO1625 := zA (kL (zP HO1625.out) hb)
         replace HO1631 := zA (kL (zP HO1631.out) hb)
         replace BK1608 := zA (zB1 BK1608.out hb)
         replace BK1622 := zA (zB1 BK1622.out hb)
         replace HB := zA (kQ (zV HB.out GE1608.out GE1622.out) hb)
         (try clear hb)
         (try clear hb2)
         (try clear hk)
         (try clear hi)
         (try clear hgw)
         refine hK.out _ _ ⟨(kV BK1622.out 0).trans rfl, (kV BK1622.out 1).trans rfl, (kV BK1608.out 0).trans rfl, (kV BK1608.out 1).trans rfl⟩ (fun hHeld => ?_)
         clear hK K
         refine norm_ (a' := ?_) ?_ ?_
         rotate_left
         ·show Act.put _ (some 44) _ = _
          simp only [Act.put, zL, zM, zN, i64_w, i32_w]
          rfl
         refine pure_ (i := 4) (N := some 45) (v := ?_) (a' := ?_) #[true, true, true, true, true] rfl rfl (by kernel_rfl) (fun _ _ _ h => h) (Or.inl ⟨by rfl, ?_⟩) ?_ ?_
         rotate_left
         ·intro w'
          go_simp
          with_reducible rfl
         rotate_left
         ·simp only [Act.put, zL, zM, zN, i64_w, i32_w]
          rfl
         refine done_ (by kernel_rfl) ?_
         obtain ⟨hcz54_0, hcz54_1, hfz54_0, hfz54_1⟩ := zB3 BK1622.out
         try go_wp2_with (first | (refine zO (some 48) Tryd.func22 #[.agg #[.int .i64 t1618, .slice Ao45 t1619.length co45], .int .i64 1] ?_; (with_reducible refine (laws_markAlphabet.calls k t1618 (fun k_ => some k_ = (.slice Ao45 t1619.length co45 : Value).ownBlock) (.slice Ao45 t1619.length co45) t1619 1 t1633 t1634 w _ ?side1 ?side2 A17.out).mono ?_); (case side1 => exact zV HB.out GE1608.out GE1622.out); (case side2 => exact jK rfl HO1621.out); rintro e w55 ⟨rfl, hy0, hb, hkp⟩; refine ⟨_, rfl, ?_⟩; replace BK1608 := zA (blk_kept (zR BK1608.out) hkp (fun hs_ => (fun e_ => (Kd.R_ne HO1621.out BK1608.out (by decide)) e_) hs_)); replace HO1613 := zA (kA (ok' := fun k_ => some k_ ≠ (.slice Ao48 t1614.length co48 : Value).ownBlock ∧ some k_ ≠ (.slice Ao45 t1619.length co45 : Value).ownBlock ∧ some k_ ≠ (.slice Ao47 t1623.length co47 : Value).ownBlock ∧ some k_ ≠ (.slice Ao52 t1629.length co52 : Value).ownBlock) (Kd.R_keptB (HO1613.out) hkp (fun k_ hk_ hs_ => (hk_.1.1.2) hs_)) (fun k_ hk_ => ⟨hk_.1.1.1.1.2, hk_.1.1.1.2, hk_.1.1.2, hk_.1.2⟩)); replace HO1616 := zA (kA (ok' := fun k_ => some k_ ≠ (.slice Ao38 t1611.length co38 : Value).ownBlock ∧ some k_ ≠ (.slice Ao45 t1619.length co45 : Value).ownBlock ∧ some k_ ≠ (.slice Ao47 t1623.length co47 : Value).ownBlock ∧ some k_ ≠ (.slice Ao52 t1629.length co52 : Value).ownBlock) (Kd.R_keptB (HO1616.out) hkp (fun k_ hk_ hs_ => (hk_.1.1.2) hs_)) (fun k_ hk_ => ⟨hk_.1.1.1.1.2, hk_.1.1.1.2, hk_.1.1.2, hk_.1.2⟩)); replace BK1622 := zA (blk_kept (zR BK1622.out) hkp (fun hs_ => (fun e_ => (Kd.R_ne HO1621.out BK1622.out (by decide)) e_) hs_)); replace HO1621 := zA (Kd.R_reok rfl hy0 (fun k_ e_ => HO1621.out.1 k_ e_)); replace HO1625 := zA (kA (ok' := fun k_ => some k_ ≠ (.slice Ao38 t1611.length co38 : Value).ownBlock ∧ some k_ ≠ (.slice Ao48 t1614.length co48 : Value).ownBlock ∧ some k_ ≠ (.slice Ao45 t1619.length co45 : Value).ownBlock ∧ some k_ ≠ (.slice Ao52 t1629.length co52 : Value).ownBlock) (Kd.R_keptB (HO1625.out) hkp (fun k_ hk_ hs_ => (hk_.1.2) hs_)) (fun k_ hk_ => ⟨hk_.1.1.1.1.2, hk_.1.1.1.2, hk_.1.1.2, hk_.1.2⟩)); replace HO1631 := zA (kA (ok' := fun k_ => some k_ ≠ (.slice Ao38 t1611.length co38 : Value).ownBlock ∧ some k_ ≠ (.slice Ao48 t1614.length co48 : Value).ownBlock ∧ some k_ ≠ (.slice Ao45 t1619.length co45 : Value).ownBlock ∧ some k_ ≠ (.slice Ao47 t1623.length co47 : Value).ownBlock) (Kd.R_keptB (HO1631.out) hkp (fun k_ hk_ hs_ => (hk_.1.2) hs_)) (fun k_ hk_ => ⟨hk_.1.1.1.1.2, hk_.1.1.1.2, hk_.1.1.2, hk_.1.2⟩)); replace HB := zA (hb); (try clear hb); (try clear hkp); (try clear hy0)) | (go_at_call 20; (with_reducible refine (laws_eqInt64S_BFnExactCliquePolynomial.calls k _ _ t1623 _ _ t1614 true _ ?side1 ?side2 ?side3 ?side4 A19.out).mono ?_); (case side1 => exact zS (kB HO1625.out).2.2); (case side2 => exact (kB HO1625.out).2.1); (case side3 => exact zS (kB HO1616.out).2.2); (case side4 => exact (kB HO1616.out).2.1); rintro e w56 ⟨rfl, hb⟩; replace HO1613 := zA (kL (zP HO1613.out) hb); replace HO1616 := zA (kL (zP HO1616.out) hb); replace HO1621 := zA (kL (zP HO1621.out) hb); replace HO1625 := zA (kL (zP HO1625.out) hb); replace HO1631 := zA (kL (zP HO1631.out) hb); replace BK1608 := zA (zB1 BK1608.out hb); replace BK1622 := zA (zB1 BK1622.out hb); replace HB := zA (kQ (zV HB.out GE1608.out GE1622.out) hb); (try clear hb); (try clear hb2); (try clear hk); (try clear hi); (try clear hgw)) | (refine zO (some 64) Tryd.func23 #[.slice Ao47 t1623.length co47, .int .i64 1] ?_; (with_reducible refine (laws_markInt64S.calls k (fun k_ => some k_ = (.slice Ao47 t1623.length co47 : Value).ownBlock) (.slice Ao47 t1623.length co47) t1623 1 t1636 t1637 w _ ?side1 ?side2 A21.out).mono ?_); (case side1 => exact zV HB.out GE1608.out GE1622.out); (case side2 => exact jK rfl HO1625.out); rintro e w57 ⟨rfl, hy0, hb, hkp⟩; refine ⟨_, rfl, ?_⟩; replace BK1608 := zA (blk_kept (zR BK1608.out) hkp (fun hs_ => (fun e_ => (Kd.R_ne HO1625.out BK1608.out (by decide)) e_) hs_)); replace HO1613 := zA (kA (ok' := fun k_ => some k_ ≠ (.slice Ao48 t1614.length co48 : Value).ownBlock ∧ some k_ ≠ (.slice Ao45 t1619.length co45 : Value).ownBlock ∧ some k_ ≠ (.slice Ao47 t1623.length co47 : Value).ownBlock ∧ some k_ ≠ (.slice Ao52 t1629.length co52 : Value).ownBlock) (Kd.R_keptB (HO1613.out) hkp (fun k_ hk_ hs_ => (hk_.2.2.1) hs_)) (fun k_ hk_ => ⟨hk_.1.1, hk_.1.2.1, hk_.1.2.2.1, hk_.1.2.2.2⟩)); replace HO1616 := zA (kA (ok' := fun k_ => some k_ ≠ (.slice Ao38 t1611.length co38 : Value).ownBlock ∧ some k_ ≠ (.slice Ao45 t1619.length co45 : Value).ownBlock ∧ some k_ ≠ (.slice Ao47 t1623.length co47 : Value).ownBlock ∧ some k_ ≠ (.slice Ao52 t1629.length co52 : Value).ownBlock) (Kd.R_keptB (HO1616.out) hkp (fun k_ hk_ hs_ => (hk_.2.2.1) hs_)) (fun k_ hk_ => ⟨hk_.1.1, hk_.1.2.1, hk_.1.2.2.1, hk_.1.2.2.2⟩)); replace HO1621 := zA (kA (ok' := fun k_ => some k_ ≠ (.slice Ao38 t1611.length co38 : Value).ownBlock ∧ some k_ ≠ (.slice Ao48 t1614.length co48 : Value).ownBlock ∧ some k_ ≠ (.slice Ao47 t1623.length co47 : Value).ownBlock ∧ some k_ ≠ (.slice Ao52 t1629.length co52 : Value).ownBlock) (Kd.R_keptB (HO1621.out) hkp (fun k_ hk_ hs_ => (hk_.1.2) hs_)) (fun k_ hk_ => ⟨hk_.1.1.1.1.2, hk_.1.1.1.2, hk_.1.1.2, hk_.1.2⟩)); replace BK1622 := zA (blk_kept (zR BK1622.out) hkp (fun hs_ => (fun e_ => (Kd.R_ne HO1625.out BK1622.out (by decide)) e_) hs_)); replace HO1625 := zA (Kd.R_reok rfl hy0 (fun k_ e_ => HO1625.out.1 k_ e_)); replace HO1631 := zA (kA (ok' := fun k_ => some k_ ≠ (.slice Ao38 t1611.length co38 : Value).ownBlock ∧ some k_ ≠ (.slice Ao48 t1614.length co48 : Value).ownBlock ∧ some k_ ≠ (.slice Ao45 t1619.length co45 : Value).ownBlock ∧ some k_ ≠ (.slice Ao47 t1623.length co47 : Value).ownBlock) (Kd.R_keptB (HO1631.out) hkp (fun k_ hk_ hs_ => (hk_.2.2.2) hs_)) (fun k_ hk_ => ⟨hk_.1.1, hk_.1.2.1, hk_.1.2.2.1, hk_.1.2.2.2⟩)); replace HB := zA (hb); (try clear hb); (try clear hkp); (try clear hy0)) | ((with_reducible refine kR (f := 24) rfl ?_); refine goesL_ (some 67) rfl rfl Tryd.func24 (by kernel_rfl) rfl #[.slice Ao47 t1637.length co47, .int .i64 1] rfl (by (try simp only [List.map_toArray, List.map_cons, List.map_nil]); first | done | (rw [show t1637.length = t1623.length from (kB HO1625.out).1.symm] <;> rfl) | rfl | (simp only [List.length_drop, List.length_take]; rfl)) ?_; (with_reducible refine (laws_heldInt64S.calls k _ _ t1637 1 t1638 _ ?side1 ?side2 A22.out).mono ?_); (case side1 => exact zS (kB HO1625.out).2.2); (case side2 => rw [show t1637.length = t1623.length from (kB HO1625.out).1.symm]; exact (kB HO1625.out).2.1); rintro e w' ⟨rfl, ⟨nd, rfl⟩⟩; refine ⟨_, rfl, ?_⟩; obtain ⟨hcz58_0, hcz58_1, hfz58_0, hfz58_1⟩ := zB3 BK1608.out) | (refine zO (some 75) Tryd.func17 #[.agg #[.int .i64 a0_0, .slice A0_1 l0_1.length c0_1]] ?_; (with_reducible refine (laws_toAlphabet.calls k a0_0 _ _ l0_1 t1639 t1640 _ ?side1 ?side2 A25.out).mono ?_); (case side1 => exact zS (kO HR0_1.out (zV HB.out GE1608.out GE1622.out))); (case side2 => exact HC0_1.out); rintro e w59 ⟨v1641, rfl, ho0, hb⟩; refine ⟨_, rfl, ?_⟩; have HO1642 := zA (kI (kF (kF (kF (kF (kF ho0 (kH (zP HO1613.out))) (kH (zP HO1616.out))) (kH (zP HO1621.out))) (kH (zP HO1625.out))) (kH (zP HO1631.out))) (kP (zV HB.out GE1608.out GE1622.out))); replace HO1613 := zA (kE (zP HO1613.out) (kC ho0) hb); replace HO1616 := zA (kE (zP HO1616.out) (kC ho0) hb); replace HO1621 := zA (kE (zP HO1621.out) (kC ho0) hb); replace HO1625 := zA (kE (zP HO1625.out) (kC ho0) hb); replace HO1631 := zA (kE (zP HO1631.out) (kC ho0) hb); replace BK1608 := zA (zB1 BK1608.out hb); replace BK1622 := zA (zB1 BK1622.out hb); replace HB := zA (kQ (zV HB.out GE1608.out GE1622.out) hb); (try clear hb); (try clear ho0); obtain ⟨Ao60, co60, eo60⟩ := kM HO1642.out; subst eo60) | (refine zO (some 76) Tryd.func49 #[.agg #[.int .i64 t1639, .slice Ao60 t1640.length co60]] ?_; (with_reducible refine (impl_CliquePolynomial.calls k t1639 _ _ t1640 t1643 t1646 _ ?side1 ?side2 ?side3 A26.out).mono ?_); (case side1 => exact zS (kB HO1642.out).2.2); (case side2 => exact (kB HO1642.out).2.1); (case side3 => exact TabW.below HT.out (zV HB.out GE1608.out GE1622.out)); rintro e w61 ⟨v1644, rfl, ho0, hb⟩; refine ⟨_, rfl, ?_⟩; have HO1645 := zA (kI (kF (kF (kF (kF (kF (kF ho0 (kH (zP HO1613.out))) (kH (zP HO1616.out))) (kH (zP HO1621.out))) (kH (zP HO1625.out))) (kH (zP HO1631.out))) (kH (zP HO1642.out))) (kP (zV HB.out GE1608.out GE1622.out))); replace HO1613 := zA (kE (zP HO1613.out) (kC ho0) hb); replace HO1616 := zA (kE (zP HO1616.out) (kC ho0) hb); replace HO1621 := zA (kE (zP HO1621.out) (kC ho0) hb); replace HO1625 := zA (kE (zP HO1625.out) (kC ho0) hb); replace HO1631 := zA (kE (zP HO1631.out) (kC ho0) hb); replace HO1642 := zA (kE (zP HO1642.out) (kC ho0) hb); replace BK1608 := zA (zB1 BK1608.out hb); replace BK1622 := zA (zB1 BK1622.out hb); replace HB := zA (kQ (zV HB.out GE1608.out GE1622.out) hb); (try clear hb); (try clear ho0); obtain ⟨Ao62, co62, eo62⟩ := kM HO1645.out; subst eo62) | (refine zO (some 81) Tryd.func20 #[.slice Ao62 t1643.length co62, .slice Ao48 t1614.length co48] ?_; (with_reducible refine (laws_eqInt64S_BFnExactCliquePolynomial.calls k _ _ t1643 _ _ t1614 true _ ?side1 ?side2 ?side3 ?side4 A27.out).mono ?_); (case side1 => exact zS (kB HO1645.out).2.2); (case side2 => exact (kB HO1645.out).2.1); (case side3 => exact zS (kB HO1616.out).2.2); (case side4 => exact (kB HO1616.out).2.1); rintro e w63 ⟨rfl, hb⟩; refine ⟨_, rfl, ?_⟩; replace HO1613 := zA (kL (zP HO1613.out) hb); replace HO1616 := zA (kL (zP HO1616.out) hb); replace HO1621 := zA (kL (zP HO1621.out) hb); replace HO1625 := zA (kL (zP HO1625.out) hb); replace HO1631 := zA (kL (zP HO1631.out) hb); replace HO1642 := zA (kL (zP HO1642.out) hb); replace HO1645 := zA (kL (zP HO1645.out) hb); replace BK1608 := zA (zB1 BK1608.out hb); replace BK1622 := zA (zB1 BK1622.out hb); replace HB := zA (kQ (zV HB.out GE1608.out GE1622.out) hb); (try clear hb)) | ((with_reducible refine kR (f := 24) rfl ?_); refine goesL_ (some 90) rfl rfl Tryd.func24 (by kernel_rfl) rfl #[.slice Ao47 t1637.length co47, .int .i64 1] rfl (by (try simp only [List.map_toArray, List.map_cons, List.map_nil]); first | done | (rw [show t1637.length = t1623.length from (kB HO1625.out).1.symm] <;> rfl) | rfl | (simp only [List.length_drop, List.length_take]; rfl)) ?_; (with_reducible refine (laws_heldInt64S.calls k _ _ t1637 1 t1648 _ ?side1 ?side2 A30.out).mono ?_); (case side1 => exact zS (kB HO1625.out).2.2); (case side2 => rw [show t1637.length = t1623.length from (kB HO1625.out).1.symm]; exact (kB HO1625.out).2.1); rintro e w' ⟨rfl, ⟨nd, rfl⟩⟩; refine ⟨_, rfl, ?_⟩))
         go_ret
         exact ⟨zr, zV HB.out GE1608.out GE1622.out⟩
        rw [if_neg c32] at H
        exact absurd H (by simp)
       rw [if_neg c29] at H
       exact absurd H (by simp)
      replace c28 := Bool.eq_false_iff.mpr c28
      subst c28
      rw [if_neg (show ¬ (false = true) by decide)] at H
      exact absurd H (by simp)
     rw [if_neg c24] at H
     exact absurd H (by simp)
    replace c20 := Bool.eq_false_iff.mpr c20
    subst c20
    rw [if_neg (show ¬ (false = true) by decide)] at H
    exact absurd H (by simp)
   replace c16 := Bool.eq_false_iff.mpr c16
   subst c16
   rw [if_neg (show ¬ (false = true) by decide)] at H
   exact absurd H (by simp)
  rw [if_neg c13] at H
  exact absurd H (by simp)
 replace c12 := Bool.eq_false_iff.mpr c12
 subst c12
 rw [if_neg (show ¬ (false = true) by decide)] at H
 exact absurd H (by simp)

end Go.Proofs.YtfnnnopbcdiibaaDoor.PAll
