-- Printed by a program of the session (wip/tools/pgen.py) out of the translation. Not trusted: Lean checks it.
import Derived.Test.YthgapkbkhoeleaaDoorPAllx0
import Derived.Test.YthgapkbkhoeleaaDoorPAllx1
import Derived.Test.YthgapkbkhoeleaaDoorPAllx2
import Derived.Test.YthgapkbkhoeleaaDoorPAllx3
import Derived.Test.YthgapkbkhoeleaaDoorPAllx6
import Derived.Test.YthgapkbkhoeleaaDoorPAllx14
namespace Go.Proofs.YthgapkbkhoeleaaDoor.PAll
open Go.RowKit Go.Proofs.YthgapkbkhoeleaaDoor.T Go.Proofs.YthgapkbkhoeleaaDoorW.PrintWords Go.Proofs.YthgapkbkhoeleaaDoorW.PrintLast Go.Proofs.YthgapkbkhoeleaaDoorW.PrintMore
attribute [local go_sem] max2_int min2_int max_two min_two max_three min_three max_four min_four   -- for this text's walks alone
set_option linter.unusedVariables false
set_option linter.unusedSimpArgs false

/-! ### spec_l07Letters: function 143 -/
def spec_l07Letters.l0 : Nat → List Int → Int → Int → Option (Int)
 | 0, _, _, _ => none
 | k + 1, x0, x3, x4 => if x4 < (x0.length : Int) then (if 0 ≤ x4 then ((spec_l01One.f (rd x0 x4)).bind fun t1323 => (spec_l07Letters.l0 k x0 (Go.bits .or .i64 x3 t1323) (wrap64 (x4 + 1)))) else (none)) else (some x3)
def spec_l07Letters.f (k : Nat) (l0 : List Int) : Option (Int) := spec_l07Letters.l0 k l0 0 0

set_option maxHeartbeats 8000000 in
set_option maxRecDepth 100000 in
theorem spec_l07Letters.calls (k : Nat) (A0 : Option Addr) (c0 : Nat) (l0 : List Int) (r : Int) (w : World) (hr0 : Kd.C (Kd.int .i64) w A0 l0.length l0) (hc0 : l0.length ≤ c0) (h : spec_l07Letters.f k l0 = some r) :
  Calls Tryd.prog 143 #[.slice A0 l0.length c0] w fun e w' => e = .returned (.int .i64 r) ∧ Drawn0 w w' := by
 have HR0 := zA hr0
 have HC0 := zA hc0
 clear hr0 hc0
 have H := h
 unfold spec_l07Letters.f at H
 clear h
 have H' := zA H
 clear H
 go_enter Tryd.func143, Tryd.ntmps143
 go_wp2
 go_loopg [3, 4] k (fun kq v3 v4 w' => ∃ (x3_1 : Int) (x4_1 : Int), v3 = .int .i64 x3_1 ∧ v4 = .int .i64 x4_1 ∧ Aside0 (spec_l07Letters.l0 kq l0 x3_1 x4_1 = some r) ∧ Aside0 (kq ≤ k) ∧ Drawn0 w w')
 case atStart => exact ⟨(0), (0), zs, zs, H', ⟨Nat.le_refl _⟩, by repeat (first | exact Drawn0.refl _ | apply Drawn0.step)⟩
 case round =>
  clear H'
  try clear c1
  obtain ⟨x3_1, x4_1, rfl, rfl, HA, HK1, ⟨m1, rfl⟩⟩ := hrel
  cases gk with
  | zero => exact absurd HA.out (by simp [spec_l07Letters.l0])
  | succ k1 =>
   have H := HA.out
   clear HA
   simp only [spec_l07Letters.l0] at H
   by_cases c2 : x4_1 < (l0.length : Int)
   ·rw [if_pos c2] at H
    have c2b0 : decide (x4_1 < (l0.length : Int)) = true := decide_eq_true c2
    clear c2
    by_cases c3 : 0 ≤ x4_1
    ·rw [if_pos c3] at H
     have c3b0 : decide (0 ≤ x4_1) = true := decide_eq_true c3
     clear c3
     obtain ⟨t1323, A4, H⟩ := zb H
     try dsimp only at H
     have H' := zA H
     clear H
     have p1322 : 0 ≤ (x4_1 : Int) := zd
     have q1322 : x4_1 < (l0.length : Int) := zd
     obtain ⟨ad1322, e1322, hx1322_0⟩ := Kd.at_int HR0.out x4_1 p1322 q1322
     cases e1322
     replace p1322 := eq_true p1322
     replace q1322 := eq_true q1322
     go_wp2_with (first | (refine zO (some 16) Tryd.func144 #[.int .i64 (rd l0 x4_1)] ?_; (with_reducible refine (spec_l01One.calls (rd l0 x4_1) t1323 _ A4.out).mono ?_); rintro e w' ⟨rfl, ⟨nd, rfl⟩⟩; refine ⟨_, rfl, ?_⟩))
     go_roundg k1
     case measure => have := HK1.out; omega
     case rel => exact ⟨(Go.bits .or .i64 x3_1 t1323), (wrap64 (x4_1 + 1)), zs, zs, H', ⟨by have := HK1.out; omega⟩, by repeat (first | exact Drawn0.refl _ | apply Drawn0.step)⟩
    rw [if_neg c3] at H
    exact absurd H (by simp)
   rw [if_neg c2] at H
   have c2b0 : decide (x4_1 < (l0.length : Int)) = false := decide_eq_false c2
   clear c2
   obtain rfl := Option.some.inj H
   go_wp2
   go_ret
   exact ⟨zs, by repeat (first | exact Drawn0.refl _ | apply Drawn0.step)⟩

/-! ### spec_l06Reach: function 145 -/
def spec_l06Reach.l0 : Nat → Int → Int → Int → Int → List Int → Option (Int)
 | 0, _, _, _, _, _ => none
 | k + 1, x1, x5, x6, x1325000, x1325001 => if x6 < x1325000 then ((spec_l01Bit.f x1 x6).bind fun t1325 => (if t1325 = true then (if 0 ≤ x6 then (if x6 < (x1325001.length : Int) then (spec_l06Reach.l0 k x1 (Go.bits .or .i64 x5 (rd x1325001 x6)) (wrap64 (x6 + 1)) x1325000 x1325001) else (none)) else (none)) else (spec_l06Reach.l0 k x1 x5 (wrap64 (x6 + 1)) x1325000 x1325001))) else (some x5)
def spec_l06Reach.f (k : Nat) (a0_0 : Int) (l0_1 : List Int) (a1 : Int) : Option (Int) := spec_l06Reach.l0 k a1 0 0 a0_0 l0_1

set_option maxHeartbeats 8000000 in
set_option maxRecDepth 100000 in
theorem spec_l06Reach.calls (k : Nat) (a0_0 : Int) (A0_1 : Option Addr) (c0_1 : Nat) (l0_1 : List Int) (a1 : Int) (r : Int) (w : World) (hr0_1 : Kd.C (Kd.int .i64) w A0_1 l0_1.length l0_1) (hc0_1 : l0_1.length ≤ c0_1) (h : spec_l06Reach.f k a0_0 l0_1 a1 = some r) :
  Calls Tryd.prog 145 #[.agg #[.int .i64 a0_0, .slice A0_1 l0_1.length c0_1], .int .i64 a1] w fun e w' => e = .returned (.int .i64 r) ∧ Below w.heap.size w w' := by
 have hu29 := Tryd.underlying29
 have HR0_1 := zA hr0_1
 have HC0_1 := zA hc0_1
 clear hr0_1 hc0_1
 have HB := zA (kW w.heap.size w)
 have H := h
 unfold spec_l06Reach.f at H
 clear h
 have H' := zA H
 clear H
 go_enter Tryd.func145, Tryd.ntmps145
 go_wp2_with (first | (refine zBE 2 #[.int .i64 a0_0, .slice A0_1 l0_1.length c0_1] 29 ?_; intro gb1324 hg w3 hbox hb; have BK1324 := zA (hbox); have GW1324 := zA (zBH hg HB.out); have GE1324 := zA (zBH hg HB.out); replace HB := zA (kQ (zQ HB.out) hb); clear hb hbox hg))
 go_loopg [5, 6] k (fun kq v5 v6 w' => ∃ (x5_1 : Int) (x6_1 : Int), v5 = .int .i64 x5_1 ∧ v6 = .int .i64 x6_1 ∧ Aside0 (spec_l06Reach.l0 kq a1 x5_1 x6_1 a0_0 l0_1 = some r) ∧ Aside0 (kq ≤ k) ∧ Aside0 (w'.heap[gb1324]? = some (.cells #[.int .i64 a0_0, (.slice A0_1 l0_1.length c0_1)] 29 (0, 0))) ∧ Aside0 (Below w.heap.size w w'))
 case atStart => exact ⟨(0), (0), zs, zs, H', ⟨Nat.le_refl _⟩, ⟨zR BK1324.out⟩, ⟨zT HB.out GE1324.out⟩⟩
 case round =>
  clear H'
  try clear c1
  obtain ⟨x5_1, x6_1, rfl, rfl, HA, HK1, BK1324, HB⟩ := hrel
  cases gk with
  | zero => exact absurd HA.out (by simp [spec_l06Reach.l0])
  | succ k1 =>
   have H := HA.out
   clear HA
   simp only [spec_l06Reach.l0] at H
   by_cases c4 : x6_1 < a0_0
   ·rw [if_pos c4] at H
    have c4b0 : decide (x6_1 < a0_0) = true := decide_eq_true c4
    clear c4
    obtain ⟨t1325, A5, H⟩ := zb H
    try dsimp only at H
    by_cases c6 : t1325 = true
    ·subst c6
     rw [if_pos rfl] at H
     by_cases c7 : 0 ≤ x6_1
     ·rw [if_pos c7] at H
      have c7b0 : decide (0 ≤ x6_1) = true := decide_eq_true c7
      clear c7
      by_cases c8 : x6_1 < (l0_1.length : Int)
      ·rw [if_pos c8] at H
       have c8b0 : decide (x6_1 < (l0_1.length : Int)) = true := decide_eq_true c8
       clear c8
       have H' := zA H
       clear H
       obtain ⟨hcz9_0, hcz9_1, hfz9_0, hfz9_1⟩ := zB3 BK1324.out
       go_wp2_with (first | (refine zO (some 15) Tryd.func135 #[.int .i64 a1, .int .i64 x6_1] ?_; (with_reducible refine (spec_l01Bit.calls a1 x6_1 true _ A5.out).mono ?_); rintro e w' ⟨rfl, ⟨nd, rfl⟩⟩; refine ⟨_, rfl, ?_⟩; have p1326 : 0 ≤ (x6_1 : Int) := zd; have q1326 : x6_1 < (l0_1.length : Int) := zd; obtain ⟨ad1326, e1326, hx1326_0⟩ := Kd.at_int HR0_1.out x6_1 p1326 q1326; cases e1326; replace hx1326_0 := (HB.out.cell (jG w _ hx1326_0)).trans hx1326_0; replace p1326 := eq_true p1326; replace q1326 := eq_true q1326))
       go_roundg k1
       case measure => have := HK1.out; omega
       case rel => exact ⟨(Go.bits .or .i64 x5_1 (rd l0_1 x6_1)), (wrap64 (x6_1 + 1)), zs, zs, H', ⟨by have := HK1.out; omega⟩, ⟨zR BK1324.out⟩, ⟨zT HB.out GE1324.out⟩⟩
      rw [if_neg c8] at H
      exact absurd H (by simp)
     rw [if_neg c7] at H
     exact absurd H (by simp)
    replace c6 := Bool.eq_false_iff.mpr c6
    subst c6
    rw [if_neg (show ¬ (false = true) by decide)] at H
    have H' := zA H
    clear H
    obtain ⟨hcz10_0, hcz10_1, hfz10_0, hfz10_1⟩ := zB3 BK1324.out
    go_wp2_with (first | (refine zO (some 15) Tryd.func135 #[.int .i64 a1, .int .i64 x6_1] ?_; (with_reducible refine (spec_l01Bit.calls a1 x6_1 false _ A5.out).mono ?_); rintro e w' ⟨rfl, ⟨nd, rfl⟩⟩; refine ⟨_, rfl, ?_⟩))
    go_roundg k1
    case measure => have := HK1.out; omega
    case rel => exact ⟨(x5_1), (wrap64 (x6_1 + 1)), zs, zs, H', ⟨by have := HK1.out; omega⟩, ⟨zR BK1324.out⟩, ⟨zT HB.out GE1324.out⟩⟩
   rw [if_neg c4] at H
   have c4b0 : decide (x6_1 < a0_0) = false := decide_eq_false c4
   clear c4
   obtain rfl := Option.some.inj H
   obtain ⟨hcz11_0, hcz11_1, hfz11_0, hfz11_1⟩ := zB3 BK1324.out
   go_wp2
   go_ret
   exact ⟨zr, zT HB.out GE1324.out⟩

/-! ### spec_l03Project: function 146 -/
def spec_l03Project.l0 : Nat → List Int → Int → List Int → Int → Option (List Int)
 | 0, _, _, _, _ => none
 | k + 1, x0, x1, x5, x6 => if x6 < (x0.length : Int) then (if 0 ≤ x6 then ((spec_l01Bit.f x1 (rd x0 x6)).bind fun t1331 => (if t1331 = true then (if x5.length < 17592186044416 then (spec_l03Project.l0 k x0 x1 (x5 ++ [rd x0 x6]) (wrap64 (x6 + 1))) else (none)) else (spec_l03Project.l0 k x0 x1 x5 (wrap64 (x6 + 1))))) else (none)) else (some x5)
def spec_l03Project.f (k : Nat) (l0 : List Int) (a1 : Int) : Option (List Int) := spec_l03Project.l0 k l0 a1 (([] : List Int)) 0

set_option maxHeartbeats 8000000 in
set_option maxRecDepth 100000 in
theorem spec_l03Project.calls (k : Nat) (A0 : Option Addr) (c0 : Nat) (l0 : List Int) (a1 : Int) (r : List Int) (w : World) (hr0 : Kd.C (Kd.int .i64) w A0 l0.length l0) (hc0 : l0.length ≤ c0) (h : spec_l03Project.f k l0 a1 = some r) :
  Calls Tryd.prog 146 #[.slice A0 l0.length c0, .int .i64 a1] w fun e w' => ∃ v0_ : Value, e = .returned (v0_) ∧ Kd.R (Kd.int .i64) 2 w' w.heap.size (fun _ => True) v0_ r ∧ Below w.heap.size w w' := by
 have HR0 := zA hr0
 have HC0 := zA hc0
 clear hr0 hc0
 have HB := zA (kW w.heap.size w)
 have H := h
 unfold spec_l03Project.f at H
 clear h
 obtain ⟨y1327, hy1327⟩ : ∃ y_ : List Int, y_ = (([] : List Int)) := ⟨_, rfl⟩
 replace H : (spec_l03Project.l0 k l0 a1 y1327 0) = some r := zy hy1327 H
 have Ny1327 := zA hy1327
 clear hy1327
 have H' := zA H
 clear H
 go_enter Tryd.func146, Tryd.ntmps146
 go_wp2_with (first | ((with_reducible refine kS (N := 7) rfl ?_); refine Kd.R_lit (Kd.int .i64) _ 2 ?hg (N := 7) ?hd (xs := ([] : List Int)) (inner := []) (ok := fun _ => True) (okp := fun _ => True) ?hr ?hp (fun _ hk => hk) trivial (kW _ _) (Nat.le_refl _) (by simp) ?_; (case hd => rfl); (case hg => rfl); (case hr => first | (go_simp; done) | (go_simp; rfl)); (case hp => exact (Reps.none _ _)); intro v1328 w3 ho4 hb hg_ hnew_; clear hg_ hnew_; (first | rw [← Ny1327.out] at ho4 | (simp only [Int.reduceToNat] at ho4; rw [← Ny1327.out] at ho4)); have HO1329 := zA (kI ho4 (kP (zQ HB.out))); replace HB := zA (kQ (zQ HB.out) hb); clear hb ho4))
 go_loopg [5, 6] k (fun kq v5 v6 w' => ∃ (x5_1 : List Int) (x6_1 : Int), v6 = .int .i64 x6_1 ∧ Aside0 (spec_l03Project.l0 kq l0 a1 x5_1 x6_1 = some r) ∧ Aside0 (kq ≤ k) ∧ Aside0 (Kd.R (Kd.int .i64) 2 w' w.heap.size (fun _ => True) v5 x5_1) ∧ Aside0 (Below w.heap.size w w'))
 case atStart => exact ⟨(y1327), (0), zs, H', ⟨Nat.le_refl _⟩, ⟨zP HO1329.out⟩, ⟨zQ HB.out⟩⟩
 case round =>
  clear H'
  try clear c1
  obtain ⟨x5_1, x6_1, rfl, HA, HK1, HO_5, HB⟩ := hrel
  cases gk with
  | zero => exact absurd HA.out (by simp [spec_l03Project.l0])
  | succ k1 =>
   have H := HA.out
   clear HA
   simp only [spec_l03Project.l0] at H
   by_cases c5 : x6_1 < (l0.length : Int)
   ·rw [if_pos c5] at H
    have c5b0 : decide (x6_1 < (l0.length : Int)) = true := decide_eq_true c5
    clear c5
    by_cases c6 : 0 ≤ x6_1
    ·rw [if_pos c6] at H
     have c6b0 : decide (0 ≤ x6_1) = true := decide_eq_true c6
     clear c6
     obtain ⟨t1331, A7, H⟩ := zb H
     try dsimp only at H
     by_cases c8 : t1331 = true
     ·subst c8
      rw [if_pos rfl] at H
      by_cases c9 : x5_1.length < 17592186044416
      ·rw [if_pos c9] at H
       have LMc9 := zA c9
       clear c9
       obtain ⟨y1333, hy1333⟩ : ∃ y_ : List Int, y_ = (x5_1 ++ [rd l0 x6_1]) := ⟨_, rfl⟩
       replace H : (spec_l03Project.l0 k1 l0 a1 y1333 (wrap64 (x6_1 + 1))) = some r := zy hy1333 H
       have Ny1333 := zA hy1333
       clear hy1333
       have H' := zA H
       clear H
       have p1330 : 0 ≤ (x6_1 : Int) := zd
       have q1330 : x6_1 < (l0.length : Int) := zd
       obtain ⟨ad1330, e1330, hx1330_0⟩ := Kd.at_int HR0.out x6_1 p1330 q1330
       cases e1330
       replace hx1330_0 := (HB.out.cell (jG w _ hx1330_0)).trans hx1330_0
       replace p1330 := eq_true p1330
       replace q1330 := eq_true q1330
       go_wp2_with (first | (refine zO (some 19) Tryd.func135 #[.int .i64 a1, .int .i64 (rd l0 x6_1)] ?_; (with_reducible refine (spec_l01Bit.calls a1 (rd l0 x6_1) true _ A7.out).mono ?_); rintro e w' ⟨rfl, ⟨nd, rfl⟩⟩; refine ⟨_, rfl, ?_⟩; have p1332 : 0 ≤ (x6_1 : Int) := zd; have q1332 : x6_1 < (l0.length : Int) := zd; obtain ⟨ad1332, e1332, hx1332_0⟩ := Kd.at_int HR0.out x6_1 p1332 q1332; obtain rfl : ad1330 = ad1332 := (by injection e1332); replace hx1332_0 := (HB.out.cell (jG w _ hx1332_0)).trans hx1332_0; replace p1332 := eq_true p1332; replace q1332 := eq_true q1332) | ((with_reducible refine gate_builtin (b := .append) (xs := #[.tmp 20, .tmp 25]) rfl ?_); at_builtin; refine Kd.R_append (Kd.int .i64) (w0 := w) w.heap.size rfl (.tmp 20) (.tmp 25) 22 2 (.int .i64 0) 8 rfl Tryd.underlying22 info2 rfl (by decide) (by omega) u5 x5_1 (rd l0 x6_1) [.int .i64 (rd l0 x6_1)] (fun _ => True) (fun _ => False) rfl rfl ?aP (fun _ hk => hk.elim) ?aF ?aO ?aB ?aS ?aL ?_; (case aP => exact rfl); (case aB => exact (zQ HB.out)); (case aF => exact (fun _ _ => trivial)); (case aO => exact (zP HO_5.out)); (case aS => exact (kP (zQ HB.out))); (case aL => have := LMc9.out; omega); intro v1334 w10 ho hb hg hat; rw [← Ny1333.out] at ho; replace HB := zA (hb); have HO1335 := zA (ho); clear HO_5; clear ho hb hg hat))
       go_roundg k1
       case measure => have := HK1.out; omega
       case rel => exact ⟨(y1333), (wrap64 (x6_1 + 1)), zs, H', ⟨by have := HK1.out; omega⟩, ⟨zP HO1335.out⟩, ⟨zQ HB.out⟩⟩
      rw [if_neg c9] at H
      exact absurd H (by simp)
     replace c8 := Bool.eq_false_iff.mpr c8
     subst c8
     rw [if_neg (show ¬ (false = true) by decide)] at H
     have H' := zA H
     clear H
     have p1330 : 0 ≤ (x6_1 : Int) := zd
     have q1330 : x6_1 < (l0.length : Int) := zd
     obtain ⟨ad1330, e1330, hx1330_0⟩ := Kd.at_int HR0.out x6_1 p1330 q1330
     cases e1330
     replace hx1330_0 := (HB.out.cell (jG w _ hx1330_0)).trans hx1330_0
     replace p1330 := eq_true p1330
     replace q1330 := eq_true q1330
     go_wp2_with (first | (refine zO (some 19) Tryd.func135 #[.int .i64 a1, .int .i64 (rd l0 x6_1)] ?_; (with_reducible refine (spec_l01Bit.calls a1 (rd l0 x6_1) false _ A7.out).mono ?_); rintro e w' ⟨rfl, ⟨nd, rfl⟩⟩; refine ⟨_, rfl, ?_⟩))
     go_roundg k1
     case measure => have := HK1.out; omega
     case rel => exact ⟨(x5_1), (wrap64 (x6_1 + 1)), zs, H', ⟨by have := HK1.out; omega⟩, ⟨zP HO_5.out⟩, ⟨zQ HB.out⟩⟩
    rw [if_neg c6] at H
    exact absurd H (by simp)
   rw [if_neg c5] at H
   have c5b0 : decide (x6_1 < (l0.length : Int)) = false := decide_eq_false c5
   clear c5
   obtain rfl := Option.some.inj H
   go_wp2
   go_ret
   exact ⟨_, zr, zP HO_5.out, zQ HB.out⟩

/-! ### spec_l07Parts: function 75 -/
mutual
def spec_l07Parts.l0 : Nat → List Int → List (List Int) → Int → Int → Int → List Int → Option ((List (List Int)))
 | 0, _, _, _, _, _, _ => none
 | k + 1, x1, x5, x6, x7, x1337000, x1337001 => if x7 < x1337000 then ((spec_l01Bit.f x6 x7).bind fun t1341 => (if t1341 = true then ((spec_l01One.f x7).bind fun t1342 => (spec_l07Parts.l1 k x1 x5 x6 x7 t1342 0 x1337000 x1337001)) else (spec_l07Parts.l0 k x1 x5 x6 (wrap64 (x7 + 1)) x1337000 x1337001))) else (some x5)
def spec_l07Parts.l1 : Nat → List Int → List (List Int) → Int → Int → Int → Int → Int → List Int → Option ((List (List Int)))
 | 0, _, _, _, _, _, _, _, _ => none
 | k + 1, x1, x5, x6, x7, x8, x9, x1337000, x1337001 => if x9 < x1337000 then ((spec_l06Reach.f k x1337000 x1337001 x8).bind fun t1343 => (spec_l07Parts.l1 k x1 x5 x6 x7 (Go.bits .and .i64 t1343 (Go.bits .or .i64 x6 x8)) (wrap64 (x9 + 1)) x1337000 x1337001)) else ((spec_l03Project.f k x1 x8).bind fun t1344 => ((spec_l03Normal.f k x1337000 x1337001 t1344).bind fun t1347 => (if x5.length < 5864062014805 then (spec_l07Parts.l0 k x1 (x5 ++ [t1347]) (wrap64 (x6 - x8)) (wrap64 (x7 + 1)) x1337000 x1337001) else (none))))
end
def spec_l07Parts.f (k : Nat) (a0_0 : Int) (l0_1 : List Int) (l1 : List Int) : Option ((List (List Int))) := (spec_l07Letters.f k l1).bind fun t1340 => (spec_l07Parts.l0 k l1 (([] : List (List Int))) t1340 0 a0_0 l0_1)

def spec_l07Parts.T13 : Bool × List (List Nat × List Nat) := (true, [([], []), ([], []), ([], []), ([], []), ([2, 3], [2, 3]), ([1, 4, 4], [1, 4]), ([5], [5]), ([0, 6, 5], [0, 6]), ([7, 7, 0, 1, 2, 3, 4, 5, 6, 7], [0, 7])])
def spec_l07Parts.B13 : List Nat := [0, 0, 0, 0, 12, 30, 62, 127, 255]
theorem spec_l07Parts.tab13 : rtab .any (opsOf Tryd.f75 13) = spec_l07Parts.T13 := by kernel_rfl
theorem spec_l07Parts.bits13 : waitsOk spec_l07Parts.T13.2 spec_l07Parts.B13 = true := by kernel_rfl
set_option maxHeartbeats 8000000 in
set_option maxRecDepth 100000 in
theorem spec_l07Parts.calls (k : Nat) (a0_0 : Int) (A0_1 : Option Addr) (c0_1 : Nat) (l0_1 : List Int) (A1 : Option Addr) (c1 : Nat) (l1 : List Int) (r : List (List Int)) (w : World) (hr0_1 : Kd.C (Kd.int .i64) w A0_1 l0_1.length l0_1) (hc0_1 : l0_1.length ≤ c0_1) (hr1 : Kd.C (Kd.int .i64) w A1 l1.length l1) (hc1 : l1.length ≤ c1) (h : spec_l07Parts.f k a0_0 l0_1 l1 = some r) :
  Calls Tryd.prog 75 #[.agg #[.int .i64 a0_0, .slice A0_1 l0_1.length c0_1], .slice A1 l1.length c1] w fun e w' => ∃ v0_ : Value, e = .returned (v0_) ∧ Kd.S (Kd.slice 2 (Kd.int .i64)) 22 w' w.heap.size (fun _ => True) v0_ r ∧ Below w.heap.size w w' := by
 have hu29 := Tryd.underlying29
 have HR0_1 := zA hr0_1
 have HC0_1 := zA hc0_1
 clear hr0_1 hc0_1
 have HR1 := zA hr1
 have HC1 := zA hc1
 clear hr1 hc1
 have HB := zA (kW w.heap.size w)
 have H := h
 unfold spec_l07Parts.f at H
 clear h
 obtain ⟨y1337, hy1337⟩ : ∃ y_ : List (List Int), y_ = (([] : List (List Int))) := ⟨_, rfl⟩
 replace H : ((spec_l07Letters.f k l1).bind fun t1340 => (spec_l07Parts.l0 k l1 y1337 t1340 0 a0_0 l0_1)) = some r := zy hy1337 H
 have Ny1337 := zA hy1337
 clear hy1337
 obtain ⟨t1340, A3, H⟩ := zb H
 try dsimp only at H
 have H' := zA H
 clear H
 go_enter Tryd.func75, Tryd.ntmps75
 go_wp2_with (first | (refine zBE 2 #[.int .i64 a0_0, .slice A0_1 l0_1.length c0_1] 29 ?_; intro gb1336 hg w4 hbox hb; have BK1336 := zA (hbox); have GW1336 := zA (zBH hg HB.out); have GE1336 := zA (zBH hg HB.out); replace HB := zA (kQ (zQ HB.out) hb); clear hb hbox hg) | ((with_reducible refine kS (N := 10) rfl ?_); refine Kd.S_lit (Kd.slice 2 (Kd.int .i64)) _ 22 ?hg (N := 10) ?hd (xs := ([] : List (List Int))) (inner := []) (ok := fun _ => True) (okp := fun _ => True) ?hr ?hp (fun _ hk => hk) trivial (kW _ _) (Nat.le_refl _) (by simp) ?_; (case hd => rfl); (case hg => rfl); (case hr => first | (go_simp; done) | (go_simp; rfl)); (case hp => exact (Reps.none _ _)); intro v1338 w5 ho6 hb hg_ hnew_; clear hg_ hnew_; (first | rw [← Ny1337.out] at ho6 | (simp only [Int.reduceToNat] at ho6; rw [← Ny1337.out] at ho6)); have HO1339 := zA (Kd.S_lower ho6 (kP (zT HB.out GE1336.out))); replace BK1336 := zA (zB1 BK1336.out hb); replace HB := zA (kQ (zT HB.out GE1336.out) hb); clear hb ho6) | (refine zO (some 12) Tryd.func143 #[.slice A1 l1.length c1] ?_; (with_reducible refine (spec_l07Letters.calls k _ _ l1 t1340 _ ?side1 ?side2 A3.out).mono ?_); (case side1 => exact zS (kO HR1.out HB.out)); (case side2 => exact HC1.out); rintro e w' ⟨rfl, ⟨nd, rfl⟩⟩; refine ⟨_, rfl, ?_⟩))
 go_loopg [5, 6, 7] k (fun kq v5 v6 v7 w' => ∃ (x5_1 : List (List Int)) (x6_1 : Int) (x7_1 : Int), v6 = .int .i64 x6_1 ∧ v7 = .int .i64 x7_1 ∧ Aside0 (spec_l07Parts.l0 kq l1 x5_1 x6_1 x7_1 a0_0 l0_1 = some r) ∧ Aside0 (kq ≤ k) ∧ Aside0 (Kd.S (Kd.slice 2 (Kd.int .i64)) 22 w' w.heap.size (fun _ => True) v5 x5_1) ∧ Aside0 (w'.heap[gb1336]? = some (.cells #[.int .i64 a0_0, (.slice A0_1 l0_1.length c0_1)] 29 (0, 0))) ∧ Aside0 (Below w.heap.size w w'))
 case atStart => exact ⟨(y1337), (t1340), (0), zs, zs, H', ⟨Nat.le_refl _⟩, ⟨by (with_reducible repeat (first | apply Kd.S_alloc | apply Kd.S_drewN | apply Kd.S_drew)); exact HO1339.out⟩, ⟨zR BK1336.out⟩, ⟨zT HB.out GE1336.out⟩⟩
 case round =>
  clear H'
  try clear c1
  obtain ⟨x5_1, x6_1, x7_1, rfl, rfl, HA, HK1, HO_5, BK1336, HB⟩ := hrel
  cases gk with
  | zero => exact absurd HA.out (by simp [spec_l07Parts.l0])
  | succ k1 =>
   have H := HA.out
   clear HA
   simp only [spec_l07Parts.l0] at H
   by_cases c7 : x7_1 < a0_0
   ·rw [if_pos c7] at H
    have c7b0 : decide (x7_1 < a0_0) = true := decide_eq_true c7
    clear c7
    obtain ⟨t1341, A8, H⟩ := zb H
    try dsimp only at H
    by_cases c9 : t1341 = true
    ·subst c9
     rw [if_pos rfl] at H
     obtain ⟨t1342, A10, H⟩ := zb H
     try dsimp only at H
     have H' := zA H
     clear H
     obtain ⟨hcz11_0, hcz11_1, hfz11_0, hfz11_1⟩ := zB3 BK1336.out
     go_wp2_with (first | (refine zO (some 21) Tryd.func135 #[.int .i64 x6_1, .int .i64 x7_1] ?_; (with_reducible refine (spec_l01Bit.calls x6_1 x7_1 true _ A8.out).mono ?_); rintro e w' ⟨rfl, ⟨nd, rfl⟩⟩; refine ⟨_, rfl, ?_⟩) | (refine zO (some 24) Tryd.func144 #[.int .i64 x7_1] ?_; (with_reducible refine (spec_l01One.calls x7_1 t1342 _ A10.out).mono ?_); rintro e w' ⟨rfl, ⟨nd, rfl⟩⟩; refine ⟨_, rfl, ?_⟩))
     go_loopg [8, 9] k1 (fun kq v8 v9 w' => ∃ (x8_2 : Int) (x9_2 : Int), v8 = .int .i64 x8_2 ∧ v9 = .int .i64 x9_2 ∧ Aside0 (spec_l07Parts.l1 kq l1 x5_1 x6_1 x7_1 x8_2 x9_2 a0_0 l0_1 = some r) ∧ Aside0 (kq ≤ k1) ∧ Aside0 (Kd.S (Kd.slice 2 (Kd.int .i64)) 22 w' w.heap.size (fun _ => True) u5 x5_1) ∧ Aside0 (w'.heap[gb1336]? = some (.cells #[.int .i64 a0_0, (.slice A0_1 l0_1.length c0_1)] 29 (0, 0))) ∧ Aside0 (Below w.heap.size w w'))
     case atStart => exact ⟨(t1342), (0), zs, zs, H', ⟨Nat.le_refl _⟩, ⟨by (with_reducible repeat (first | apply Kd.S_alloc | apply Kd.S_drewN | apply Kd.S_drew)); exact HO_5.out⟩, ⟨zR BK1336.out⟩, ⟨zT HB.out GE1336.out⟩⟩
     case round =>
      clear H'
      try clear c1
      try clear c7
      try clear c9
      try clear hcz11_0
      try clear hcz11_1
      try clear hfz11_0
      try clear hfz11_1
      obtain ⟨x8_2, x9_2, rfl, rfl, HA, HK2, HO_5, BK1336, HB⟩ := hrel
      cases gk with
      | zero => exact absurd HA.out (by simp [spec_l07Parts.l1])
      | succ k2 =>
       have H := HA.out
       clear HA
       simp only [spec_l07Parts.l1] at H
       by_cases c12 : x9_2 < a0_0
       ·rw [if_pos c12] at H
        have c12b0 : decide (x9_2 < a0_0) = true := decide_eq_true c12
        clear c12
        obtain ⟨t1343, A13, H⟩ := zb H
        try dsimp only at H
        have H' := zA H
        clear H
        obtain ⟨hcz14_0, hcz14_1, hfz14_0, hfz14_1⟩ := zB3 BK1336.out
        go_wp2_with (first | (refine zO (some 33) Tryd.func145 #[.agg #[.int .i64 a0_0, .slice A0_1 l0_1.length c0_1], .int .i64 x8_2] ?_; (with_reducible refine (spec_l06Reach.calls k2 a0_0 _ _ l0_1 x8_2 t1343 _ ?side1 ?side2 A13.out).mono ?_); (case side1 => exact zS (kO HR0_1.out HB.out)); (case side2 => exact HC0_1.out); rintro e w15 ⟨rfl, hb⟩; refine ⟨_, rfl, ?_⟩; replace HO_5 := zA (Kd.S_below (by (with_reducible repeat (first | apply Kd.S_alloc | apply Kd.S_drewN | apply Kd.S_drew)); exact HO_5.out) hb); replace BK1336 := zA (zB1 BK1336.out hb); replace HB := zA (kQ (zT HB.out GE1336.out) hb); (try clear hb)))
        go_roundg k2
        case measure => have := HK1.out; have := HK2.out; omega
        case rel => exact ⟨(Go.bits .and .i64 t1343 (Go.bits .or .i64 x6_1 x8_2)), (wrap64 (x9_2 + 1)), zs, zs, H', ⟨by have := HK1.out; have := HK2.out; omega⟩, ⟨by (with_reducible repeat (first | apply Kd.S_alloc | apply Kd.S_drewN | apply Kd.S_drew)); exact HO_5.out⟩, ⟨zR BK1336.out⟩, ⟨zT HB.out GE1336.out⟩⟩
       rw [if_neg c12] at H
       have c12b0 : decide (x9_2 < a0_0) = false := decide_eq_false c12
       clear c12
       obtain ⟨t1344, A16, H⟩ := zb H
       try dsimp only at H
       obtain ⟨t1347, A17, H⟩ := zb H
       try dsimp only at H
       by_cases c18 : x5_1.length < 5864062014805
       ·rw [if_pos c18] at H
        have LMc18 := zA c18
        clear c18
        obtain ⟨y1350, hy1350⟩ : ∃ y_ : List (List Int), y_ = (x5_1 ++ [t1347]) := ⟨_, rfl⟩
        replace H : (spec_l07Parts.l0 k2 l1 y1350 (wrap64 (x6_1 - x8_2)) (wrap64 (x7_1 + 1)) a0_0 l0_1) = some r := zy hy1350 H
        have Ny1350 := zA hy1350
        clear hy1350
        have H' := zA H
        clear H
        obtain ⟨hcz19_0, hcz19_1, hfz19_0, hfz19_1⟩ := zB3 BK1336.out
        try go_wp2
        replace HO_5 := zA (Kd.S_drew HO_5.out)
        replace BK1336 := zA (zK BK1336.out)
        replace HB := zA (zD HB.out)
        refine start_ (n := 9) (S := fun w' => w'.cell? ⟨gb1336, 0, none⟩ = some (.int .i64 a0_0) ∧ w'.cell? ⟨gb1336, 1, none⟩ = some (.slice A0_1 l0_1.length c0_1)) (ds := []) #[false, false, false, false, false, false, false, false, false] (by kernel_rfl) rfl rfl ⟨(kV BK1336.out 0).trans rfl, (kV BK1336.out 1).trans rfl⟩ (fun hHeld => ?_); refine with_tabW spec_l07Parts.tab13 spec_l07Parts.bits13 (fun HT_ HW_ => ?_)
        generalize wr.drew = w20 at HO_5 BK1336 HB hHeld ⊢
        refine zp 0 (some 41) #[true, false, false, false, false, false, false, false, false] HT_.out ?_
        refine zp 2 (some 43) #[true, false, true, false, false, false, false, false, false] HT_.out ?_
        refine zp 3 (some 44) #[true, false, true, true, false, false, false, false, false] HT_.out ?_
        refine zc 1 (some 42) #[true, true, true, true, false, false, false, false, false] HT_.out HW_.out hHeld ?_
        refine one_ (i := 4) (N := some 45) #[true, true, true, true, true, false, false, false, false] rfl rfl (one_of HT_.out (by kernel_rfl)) (by decide) (fun K hK => ?_)
        refine goes_ Tryd.func146 (by kernel_rfl) rfl #[.slice A1 l1.length c1, .int .i64 x8_2] (by rfl) rfl rfl zg ?_
        with_reducible refine (spec_l03Project.calls k2 _ _ l1 x8_2 t1344 _ ?side1 ?side2 A16.out).mono ?_
        (case side1 => exact zS (kO HR1.out HB.out))
        (case side2 => exact HC1.out)
        rintro e w21 ⟨v1345, rfl, ho0, hb⟩
        refine ⟨_, rfl, ?_⟩
        replace HO_5 := zA (Kd.S_elder' (by (with_reducible repeat (first | apply Kd.S_alloc | apply Kd.S_drewN | apply Kd.S_drew)); exact HO_5.out) (kC ho0) hb)
        have HO1346 := zA (kI ho0 (kP (zT HB.out GE1336.out)))
        replace BK1336 := zA (zB1 BK1336.out hb)
        replace HB := zA (kQ (zT HB.out GE1336.out) hb)
        (try clear hb)
        (try clear hb2)
        (try clear hk)
        (try clear hi)
        (try clear hgw)
        (try clear ho0)
        obtain ⟨Ao22, co22, eo22⟩ := kM HO1346.out
        (first | subst eo22 | (injection eo22 with f1_ f2_ f3_; have f4_ := f1_.symm; have f5_ := f3_.symm; clear f1_ f2_ f3_; subst f4_; subst f5_))
        refine hK.out _ _ ⟨(kV BK1336.out 0).trans rfl, (kV BK1336.out 1).trans rfl⟩ (fun hHeld => ?_)
        clear hK K
        refine norm_ (a' := ?_) ?_ ?_
        rotate_left
        ·show Act.put _ (some 45) _ = _
         simp only [Act.put, zL, zM, zN, i64_w, i32_w]
         rfl
        refine one_ (i := 5) (N := some 46) #[true, true, true, true, true, true, false, false, false] rfl rfl (one_of HT_.out (by kernel_rfl)) (by decide) (fun K hK => ?_)
        refine goes_ Tryd.func83 (by kernel_rfl) rfl #[.agg #[.int .i64 a0_0, .slice A0_1 l0_1.length c0_1], .slice Ao22 t1344.length co22] (by rfl) rfl rfl zg ?_
        with_reducible refine (spec_l03Normal.calls k2 a0_0 _ _ l0_1 _ _ t1344 t1347 _ ?side1 ?side2 ?side3 ?side4 A17.out).mono ?_
        (case side1 => exact zS (kO HR0_1.out HB.out))
        (case side2 => exact HC0_1.out)
        (case side3 => exact zS (kB HO1346.out).2.2)
        (case side4 => exact (kB HO1346.out).2.1)
        rintro e w23 ⟨v1348, rfl, ho0, hb⟩
        refine ⟨_, rfl, ?_⟩
        replace HO_5 := zA (Kd.S_elder' (by (with_reducible repeat (first | apply Kd.S_alloc | apply Kd.S_drewN | apply Kd.S_drew)); exact HO_5.out) (kC ho0) hb)
        have HO1349 := zA (kI (kF ho0 (kH (zP HO1346.out))) (kP (zT HB.out GE1336.out)))
        replace HO1346 := zA (kE (zP HO1346.out) (kC ho0) hb)
        replace BK1336 := zA (zB1 BK1336.out hb)
        replace HB := zA (kQ (zT HB.out GE1336.out) hb)
        (try clear hb)
        (try clear hb2)
        (try clear hk)
        (try clear hi)
        (try clear hgw)
        (try clear ho0)
        obtain ⟨Ao25, co25, eo25⟩ := kM HO1349.out
        (first | subst eo25 | (injection eo25 with f1_ f2_ f3_; have f4_ := f1_.symm; have f5_ := f3_.symm; clear f1_ f2_ f3_; subst f4_; subst f5_))
        refine hK.out _ _ ⟨(kV BK1336.out 0).trans rfl, (kV BK1336.out 1).trans rfl⟩ (fun hHeld => ?_)
        clear hK K
        refine norm_ (a' := ?_) ?_ ?_
        rotate_left
        ·show Act.put _ (some 46) _ = _
         simp only [Act.put, zL, zM, zN, i64_w, i32_w]
         rfl
        refine one_ (i := 6) (N := some 47) #[true, true, true, true, true, true, true, false, false] rfl rfl (one_of HT_.out (by kernel_rfl)) (by decide) (fun K hK => ?_)
        refine value_ (w1 := ?_) (v := ?_) (by rfl) rfl ?_ ?_
        rotate_left 2
        ·go_simp
         constructor
         ·rfl
         rfl
        refine hK.out _ _ ⟨(kV (zI BK1336.out _) 0).trans rfl, (kV (zI BK1336.out _) 1).trans rfl⟩ (fun hHeld => ?_)
        clear hK K
        refine norm_ (a' := ?_) ?_ ?_
        rotate_left
        ·show Act.put _ (some 47) _ = _
         simp only [Act.put, zL, zM, zN, i64_w, i32_w]
         rfl
        refine one_ (i := 7) (N := some 48) #[true, true, true, true, true, true, true, true, false] rfl rfl (one_of HT_.out (by kernel_rfl)) (by decide) (fun K hK => ?_)
        refine Kd.S_append_step (Kd.slice 2 (Kd.int .i64)) (w0 := w) w.heap.size (by rfl) (.tmp 41) (.tmp 47) 26 22 (.slice none 0 0) 24 rfl Tryd.underlying26 info22 rfl (by decide) (by omega) u5 x5_1 t1347 [.slice Ao25 t1347.length co25] (fun k_ => some k_ ≠ (.slice Ao22 t1344.length co22 : Value).ownBlock) (fun k_ => some k_ = (.slice Ao25 t1347.length co25 : Value).ownBlock) rfl rfl ?aP (fun k_ hk_ => ((kA (ok' := fun k_ => ((fun k_ => some k_ ≠ (.slice Ao22 t1344.length co22 : Value).ownBlock)) k_ ∧ some k_ ≠ (u5 : Value).ownBlock) (Kd.R_apart' (HO1349.out) (Kd.S_typed HO_5.out) (by decide)) (fun k_ hk => ⟨hk.1.2, hk.2⟩))).1 k_ hk_.symm) ?aF ?aO ?aB ?aS ?aL ?_
        (case aP => exact Kd.M_row (kA (jK rfl (kA (ok' := fun k_ => ((fun k_ => some k_ ≠ (.slice Ao22 t1344.length co22 : Value).ownBlock)) k_ ∧ some k_ ≠ (u5 : Value).ownBlock) (Kd.R_apart' (HO1349.out) (Kd.S_typed HO_5.out) (by decide)) (fun k_ hk => ⟨hk.1.2, hk.2⟩))) (fun _ h_ => h_)))
        (case aB => exact (zT HB.out GE1336.out))
        (case aF => exact (fun k_ hk => jF (kH (zP HO1346.out)) k_ hk))
        (case aO => exact (by (with_reducible repeat (first | apply Kd.S_alloc | apply Kd.S_drewN | apply Kd.S_drew)); exact Kd.S_mono HO_5.out (fun k_ hk => ⟨hk.1.2, fun e_ => hk.2 e_⟩)))
        (case aS => exact (kP (zT HB.out GE1336.out)))
        (case aL => have := LMc18.out; omega)
        intro v1351 w24 ho hb hg hat
        rw [← Ny1350.out] at ho
        replace BK1336 := zA (blk_grown (g := gb1336) (o := .cells #[.int .i64 a0_0, .slice A0_1 l0_1.length c0_1] 29 (0, 0)) (zR BK1336.out) hg (Kd.S_ne HO_5.out BK1336.out (by decide)))
        replace HO1346 := zA (Kd.R_over' (zP HO1346.out) (Kd.S_typed (by (with_reducible repeat (first | apply Kd.S_alloc | apply Kd.S_drewN | apply Kd.S_drew)); exact HO_5.out)) (by decide) hg)
        replace HB := zA (hb)
        have HO1352 := zA (ho)
        clear HO_5 HO1349 ho hb hg hat
        refine hK.out _ _ ⟨(kV BK1336.out 0).trans rfl, (kV BK1336.out 1).trans rfl⟩ (fun hHeld => ?_)
        clear hK K
        refine norm_ (a' := ?_) ?_ ?_
        rotate_left
        ·show Act.put _ (some 48) _ = _
         simp only [Act.put, zL, zM, zN, i64_w, i32_w]
         rfl
        refine zp 8 (some 5) #[true, true, true, true, true, true, true, true, true] HT_.out ?_
        refine done_ (done_of HT_.out (by kernel_rfl)) ?_
        try go_wp2
        go_roundg k2
        case measure => have := HK1.out; have := HK2.out; omega
        case rel => exact ⟨(y1350), (wrap64 (x6_1 - x8_2)), (wrap64 (x7_1 + 1)), zs, zs, H', ⟨by have := HK1.out; have := HK2.out; omega⟩, ⟨by (with_reducible repeat (first | apply Kd.S_alloc | apply Kd.S_drewN | apply Kd.S_drew)); exact Kd.S_mono HO1352.out (fun _ hk => trivial)⟩, ⟨zR BK1336.out⟩, ⟨zT HB.out GE1336.out⟩⟩
       rw [if_neg c18] at H
       exact absurd H (by simp)
    replace c9 := Bool.eq_false_iff.mpr c9
    subst c9
    rw [if_neg (show ¬ (false = true) by decide)] at H
    have H' := zA H
    clear H
    obtain ⟨hcz26_0, hcz26_1, hfz26_0, hfz26_1⟩ := zB3 BK1336.out
    go_wp2_with (first | (refine zO (some 21) Tryd.func135 #[.int .i64 x6_1, .int .i64 x7_1] ?_; (with_reducible refine (spec_l01Bit.calls x6_1 x7_1 false _ A8.out).mono ?_); rintro e w' ⟨rfl, ⟨nd, rfl⟩⟩; refine ⟨_, rfl, ?_⟩))
    go_roundg k1
    case measure => have := HK1.out; omega
    case rel => exact ⟨(x5_1), (x6_1), (wrap64 (x7_1 + 1)), zs, zs, H', ⟨by have := HK1.out; omega⟩, ⟨by (with_reducible repeat (first | apply Kd.S_alloc | apply Kd.S_drewN | apply Kd.S_drew)); exact HO_5.out⟩, ⟨zR BK1336.out⟩, ⟨zT HB.out GE1336.out⟩⟩
   rw [if_neg c7] at H
   have c7b0 : decide (x7_1 < a0_0) = false := decide_eq_false c7
   clear c7
   obtain rfl := Option.some.inj H
   obtain ⟨hcz27_0, hcz27_1, hfz27_0, hfz27_1⟩ := zB3 BK1336.out
   go_wp2
   go_ret
   exact ⟨_, zr, by (with_reducible repeat (first | apply Kd.S_alloc | apply Kd.S_drewN | apply Kd.S_drew)); exact HO_5.out, zT HB.out GE1336.out⟩

/-! ### spec_TraceComponents: function 16 -/
def spec_TraceComponents.f (k : Nat) (a0_0 : Int) (l0_1 : List Int) (l1 : List Int) : Option ((List (List Int)) × Int) := (spec_l03Code.f k a0_0 l0_1 l1 l1).bind fun t1354 => (if t1354 = 0 then ((spec_l07Parts.f k a0_0 l0_1 l1).bind fun t1355 => (some (t1355, 0))) else (some (([] : List (List Int)), t1354)))

set_option maxHeartbeats 8000000 in
set_option maxRecDepth 100000 in
theorem spec_TraceComponents.calls (k : Nat) (a0_0 : Int) (A0_1 : Option Addr) (c0_1 : Nat) (l0_1 : List Int) (A1 : Option Addr) (c1 : Nat) (l1 : List Int) (r1 : List (List Int)) (r2 : Int) (w : World) (hr0_1 : Kd.C (Kd.int .i64) w A0_1 l0_1.length l0_1) (hc0_1 : l0_1.length ≤ c0_1) (hr1 : Kd.C (Kd.int .i64) w A1 l1.length l1) (hc1 : l1.length ≤ c1) (h : spec_TraceComponents.f k a0_0 l0_1 l1 = some (r1, r2)) :
  Calls Tryd.prog 16 #[.agg #[.int .i64 a0_0, .slice A0_1 l0_1.length c0_1], .slice A1 l1.length c1] w fun e w' => ∃ v0_ : Value, e = .returned (.tuple #[v0_, .int .i64 r2]) ∧ Kd.S (Kd.slice 2 (Kd.int .i64)) 22 w' w.heap.size (fun _ => True) v0_ r1 ∧ Below w.heap.size w w' := by
 have hu29 := Tryd.underlying29
 have HR0_1 := zA hr0_1
 have HC0_1 := zA hc0_1
 clear hr0_1 hc0_1
 have HR1 := zA hr1
 have HC1 := zA hc1
 clear hr1 hc1
 have HB := zA (kW w.heap.size w)
 have H := h
 unfold spec_TraceComponents.f at H
 clear h
 obtain ⟨t1354, A3, H⟩ := zb H
 try dsimp only at H
 by_cases c4 : t1354 = 0
 ·rw [if_pos c4] at H
  obtain ⟨c4b0, c4b1⟩ := zT1 c4
  clear c4
  obtain ⟨t1355, A5, H⟩ := zb H
  try dsimp only at H
  simp only [Option.some.injEq, Prod.mk.injEq] at H
  obtain ⟨rfl, rfl⟩ := H
  go_enter Tryd.func16, Tryd.ntmps16
  go_wp2_with (first | (refine zBE 2 #[.int .i64 a0_0, .slice A0_1 l0_1.length c0_1] 29 ?_; intro gb1353 hg w6 hbox hb; have BK1353 := zA (hbox); have GW1353 := zA (zBH hg HB.out); have GE1353 := zA (zBH hg HB.out); replace HB := zA (kQ (zQ HB.out) hb); clear hb hbox hg; obtain ⟨hcz7_0, hcz7_1, hfz7_0, hfz7_1⟩ := zB3 BK1353.out) | (refine zO (some 10) Tryd.func74 #[.agg #[.int .i64 a0_0, .slice A0_1 l0_1.length c0_1], .slice A1 l1.length c1, .slice A1 l1.length c1] ?_; (with_reducible refine (spec_l03Code.calls k a0_0 _ _ l0_1 _ _ l1 _ _ l1 t1354 _ ?side1 ?side2 ?side3 ?side4 ?side5 ?side6 A3.out).mono ?_); (case side1 => exact zS (kO HR0_1.out HB.out)); (case side2 => exact HC0_1.out); (case side3 => exact zS (kO HR1.out HB.out)); (case side4 => exact HC1.out); (case side5 => exact zS (kO HR1.out HB.out)); (case side6 => exact HC1.out); rintro e w8 ⟨rfl, hb⟩; refine ⟨_, rfl, ?_⟩; replace BK1353 := zA (zB1 BK1353.out hb); replace HB := zA (kQ (zT HB.out GE1353.out) hb); (try clear hb); obtain ⟨hcz9_0, hcz9_1, hfz9_0, hfz9_1⟩ := zB3 BK1353.out) | (refine zO (some 16) Tryd.func75 #[.agg #[.int .i64 a0_0, .slice A0_1 l0_1.length c0_1], .slice A1 l1.length c1] ?_; (with_reducible refine (spec_l07Parts.calls k a0_0 _ _ l0_1 _ _ l1 t1355 _ ?side1 ?side2 ?side3 ?side4 A5.out).mono ?_); (case side1 => exact zS (kO HR0_1.out HB.out)); (case side2 => exact HC0_1.out); (case side3 => exact zS (kO HR1.out HB.out)); (case side4 => exact HC1.out); rintro e w10 ⟨v1356, rfl, ho0, hb⟩; refine ⟨_, rfl, ?_⟩; have HO1357 := zA (Kd.S_lower ho0 (kP (zT HB.out GE1353.out))); replace BK1353 := zA (zB1 BK1353.out hb); replace HB := zA (kQ (zT HB.out GE1353.out) hb); (try clear hb); (try clear ho0)))
  go_ret2
  exact ⟨_, zr, by (with_reducible repeat (first | apply Kd.S_alloc | apply Kd.S_drewN | apply Kd.S_drew)); exact HO1357.out, zT HB.out GE1353.out⟩
 rw [if_neg c4] at H
 obtain ⟨c4b0, c4b1⟩ := zT2 c4
 simp only [Option.some.injEq, Prod.mk.injEq] at H
 obtain ⟨rfl, rfl⟩ := H
 go_enter Tryd.func16, Tryd.ntmps16
 go_wp2_with (first | (refine zBE 2 #[.int .i64 a0_0, .slice A0_1 l0_1.length c0_1] 29 ?_; intro gb1353 hg w11 hbox hb; have BK1353 := zA (hbox); have GW1353 := zA (zBH hg HB.out); have GE1353 := zA (zBH hg HB.out); replace HB := zA (kQ (zQ HB.out) hb); clear hb hbox hg; obtain ⟨hcz12_0, hcz12_1, hfz12_0, hfz12_1⟩ := zB3 BK1353.out) | (refine zO (some 10) Tryd.func74 #[.agg #[.int .i64 a0_0, .slice A0_1 l0_1.length c0_1], .slice A1 l1.length c1, .slice A1 l1.length c1] ?_; (with_reducible refine (spec_l03Code.calls k a0_0 _ _ l0_1 _ _ l1 _ _ l1 t1354 _ ?side1 ?side2 ?side3 ?side4 ?side5 ?side6 A3.out).mono ?_); (case side1 => exact zS (kO HR0_1.out HB.out)); (case side2 => exact HC0_1.out); (case side3 => exact zS (kO HR1.out HB.out)); (case side4 => exact HC1.out); (case side5 => exact zS (kO HR1.out HB.out)); (case side6 => exact HC1.out); rintro e w13 ⟨rfl, hb⟩; refine ⟨_, rfl, ?_⟩; replace BK1353 := zA (zB1 BK1353.out hb); replace HB := zA (kQ (zT HB.out GE1353.out) hb); (try clear hb)))
 go_ret2
 exact ⟨_, zr, by first | exact Kd.S_nil _ _ _ _ _ | exact Kd.N_nil _ _ _ _ _ | exact Kd.V_nil _ _ _ _ _ | exact Kd.Q_nil _ _ _ _ _ | exact jO _ _ _ _ _, zT HB.out GE1353.out⟩

/-! ### impl_components: function 151 -/
mutual
def impl_components.l0 : Nat → List Int → List Int → Int → Int → Option (List Int)
 | 0, _, _, _, _ => none
 | k + 1, x3, x12, x13, x14 => if x14 < x13 then (if 0 ≤ x14 then (if x14 < (x12.length : Int) then (if x14 < (x3.length : Int) then (impl_components.l0 k (x3.set (x14 : Int).toNat (Go.bits .or .i64 (rd x3 x14) (rd x12 x14))) x12 x13 (wrap64 (x14 + 1))) else (none)) else (none)) else (none)) else ((impl_closure.f k x3).bind fun t1378 => (impl_components.l1 k (([] : List Int)) 0 t1378 (t1378.length : Int) 0))
def impl_components.l1 : Nat → List Int → Int → List Int → Int → Int → Option (List Int)
 | 0, _, _, _, _, _ => none
 | k + 1, x6, x7, x29, x30, x31 => if x31 < x30 then (if 0 ≤ x31 then (if x31 < (x29.length : Int) then ((impl_has.f x7 x31).bind fun t1382 => (if t1382 = true then (impl_components.l1 k x6 x7 x29 x30 (wrap64 (x31 + 1))) else (if x6.length < 17592186044416 then (impl_components.l1 k (x6 ++ [rd x29 x31]) (Go.bits .or .i64 x7 (rd x29 x31)) x29 x30 (wrap64 (x31 + 1))) else (none)))) else (none)) else (none)) else (some x6)
end
def impl_components.f (k : Nat) (l0 : List Int) : Option (List Int) := (impl_converse.f k l0).bind fun t1369 => (impl_components.l0 k t1369 l0 (l0.length : Int) 0)

set_option maxHeartbeats 8000000 in
set_option maxRecDepth 100000 in
theorem impl_components.calls (k : Nat) (A0 : Option Addr) (c0 : Nat) (l0 : List Int) (r : List Int) (w : World) (hr0 : Kd.C (Kd.int .i64) w A0 l0.length l0) (hc0 : l0.length ≤ c0) (hT : TabW w) (h : impl_components.f k l0 = some r) :
  Calls Tryd.prog 151 #[.slice A0 l0.length c0] w fun e w' => ∃ v0_ : Value, e = .returned (v0_) ∧ Kd.R (Kd.int .i64) 2 w' w.heap.size (fun _ => True) v0_ r ∧ Below w.heap.size w w' := by
 have HT := zA hT
 clear hT
 have HR0 := zA hr0
 have HC0 := zA hc0
 clear hr0 hc0
 have HB := zA (kW w.heap.size w)
 have H := h
 unfold impl_components.f at H
 clear h
 obtain ⟨t1369, A2, H⟩ := zb H
 try dsimp only at H
 have H' := zA H
 clear H
 go_enter Tryd.func151, Tryd.ntmps151
 go_wp2_with (first | (refine zO (some 11) Tryd.func141 #[.slice A0 l0.length c0] ?_; (with_reducible refine (impl_converse.calls k _ _ l0 t1369 _ ?side1 ?side2 ?side3 A2.out).mono ?_); (case side1 => exact zS HR0.out); (case side2 => exact HC0.out); (case side3 => exact TabW.below HT.out (zQ HB.out)); rintro e w3 ⟨v1370, rfl, ho0, hb⟩; refine ⟨_, rfl, ?_⟩; have HO1371 := zA (kI ho0 (kP (zQ HB.out))); replace HB := zA (kQ (zQ HB.out) hb); (try clear hb); (try clear ho0)))
 go_loopg [14] k (fun kq v14 w' => ∃ (x3_1 : List Int) (x14_1 : Int), v14 = .int .i64 x14_1 ∧ Aside0 (impl_components.l0 kq x3_1 l0 (l0.length : Int) x14_1 = some r) ∧ Aside0 (kq ≤ k) ∧ Aside0 (Kd.R (Kd.int .i64) 2 w' w.heap.size (fun _ => True) v1370 x3_1) ∧ Aside0 (Below w.heap.size w w'))
 case atStart => exact ⟨(t1369), (0), zs, H', ⟨Nat.le_refl _⟩, ⟨zP HO1371.out⟩, ⟨zQ HB.out⟩⟩
 case round =>
  clear H'
  try clear c1
  obtain ⟨x3_1, x14_1, rfl, HA, HK1, HO_3, HB⟩ := hrel
  cases gk with
  | zero => exact absurd HA.out (by simp [impl_components.l0])
  | succ k1 =>
   have H := HA.out
   clear HA
   simp only [impl_components.l0] at H
   by_cases c4 : x14_1 < (l0.length : Int)
   ·rw [if_pos c4] at H
    have c4b0 : decide (x14_1 < (l0.length : Int)) = true := decide_eq_true c4
    clear c4
    by_cases c5 : 0 ≤ x14_1
    ·rw [if_pos c5] at H
     have c5b0 : decide (0 ≤ x14_1) = true := decide_eq_true c5
     clear c5
     by_cases c6 : x14_1 < (l0.length : Int)
     ·rw [if_pos c6] at H
      have c6b0 : decide (x14_1 < (l0.length : Int)) = true := decide_eq_true c6
      clear c6
      by_cases c7 : x14_1 < (x3_1.length : Int)
      ·rw [if_pos c7] at H
       have c7b0 : decide (x14_1 < (x3_1.length : Int)) = true := decide_eq_true c7
       clear c7
       obtain ⟨y1374, hy1374⟩ : ∃ y_ : List Int, y_ = (x3_1.set (x14_1 : Int).toNat (Go.bits .or .i64 (rd x3_1 x14_1) (rd l0 x14_1))) := ⟨_, rfl⟩
       replace H : (impl_components.l0 k1 y1374 l0 (l0.length : Int) (wrap64 (x14_1 + 1))) = some r := zy hy1374 H
       have Ny1374 := zA hy1374
       clear hy1374
       have H' := zA H
       clear H
       have p1372 : 0 ≤ (x14_1 : Int) := zd
       have q1372 : x14_1 < (l0.length : Int) := zd
       obtain ⟨ad1372, e1372, hx1372_0⟩ := Kd.at_int HR0.out x14_1 p1372 q1372
       cases e1372
       replace hx1372_0 := (HB.out.cell (jG w _ hx1372_0)).trans hx1372_0
       replace p1372 := eq_true p1372
       replace q1372 := eq_true q1372
       obtain ⟨Ao9, co9, eo9⟩ := kM HO_3.out
       subst eo9
       have p1373 : 0 ≤ (x14_1 : Int) := zd
       have q1373 : x14_1 < (x3_1.length : Int) := zd
       obtain ⟨ad1373, e1373, hx1373_0⟩ := Kd.at_int (kB HO_3.out).2.2 x14_1 p1373 q1373
       cases e1373
       replace p1373 := eq_true p1373
       replace q1373 := eq_true q1373
       have p8 : 0 ≤ (x14_1 : Int) := zd
       have q8 : (x14_1 : Int) < ((x3_1.length : Int) : Int) := zd
       obtain ⟨go8, co8, eo8, gb8, gl8, cl8, HG8⟩ := Kd.R_form HO_3.out (by omega)
       (first | cases eo8 | (injection eo8 with ea_ en_ ec_; (first | subst ea_ | (injection ea_ with ea_; subst ea_)); subst ec_; clear en_))
       have GB8 := zA gb8
       have GG8 := zA HG8
       clear gb8 gl8 HG8
       (first | simp only [add_plain] at hx1373_0 | skip)
       obtain ⟨hx8_0, hf8_0⟩ := Kd.R_celln 0 HO_3.out (x14_1 : Int) p8 q8
       replace p8 := eq_true p8
       replace q8 := eq_true q8
       have HP10 := Kd.R_putg HO_3.out (x14_1 : Int) (Go.bits .or .i64 (rd x3_1 x14_1) (rd l0 x14_1))
       go_wp2_with (first | ((with_reducible refine gate_store (t := 2) (p := 25) rfl ?_); refine store_event (t := 2) (p := 25) (v := ?vo_w11) (w1 := (wr.setCell ⟨go8, (x14_1 : Int).toNat, none⟩ (.int .i64 (Go.bits .or .i64 (rd x3_1 x14_1) (rd l0 x14_1))))) ?hg ?ho ?hn ?hr ?_; (case ho => rfl); (case hg => rfl); (case hn => rfl); (case hr => first | (go_simp; done) | (go_simp; rfl)); intro w11 hw; have hg : wr.grownBy w11 (some go8) := (by rw [hw]; exact HP10.2); have hp_ : Kd.R (Kd.int .i64) 2 w11 w.heap.size (fun _ => True) (.slice (some ⟨go8, 0, none⟩) x3_1.length co9) y1374 := (by rw [hw, Ny1374.out]; exact HP10.1); clear HP10; replace HO_3 := zA (hp_); replace HB := zA ((by rw [hw]; exact zE (HB.out) GB8.out : Below w.heap.size w w11)); clear hg hw hp_))
       go_roundg k1
       case measure => have := HK1.out; omega
       case rel => exact ⟨(y1374), (wrap64 (x14_1 + 1)), zs, H', ⟨by have := HK1.out; omega⟩, ⟨zP HO_3.out⟩, ⟨zQ HB.out⟩⟩
      rw [if_neg c7] at H
      exact absurd H (by simp)
     rw [if_neg c6] at H
     exact absurd H (by simp)
    rw [if_neg c5] at H
    exact absurd H (by simp)
   rw [if_neg c4] at H
   have c4b0 : decide (x14_1 < (l0.length : Int)) = false := decide_eq_false c4
   clear c4
   obtain ⟨y1375, hy1375⟩ : ∃ y_ : List Int, y_ = (([] : List Int)) := ⟨_, rfl⟩
   replace H : ((impl_closure.f k1 x3_1).bind fun t1378 => (impl_components.l1 k1 y1375 0 t1378 (t1378.length : Int) 0)) = some r := zy hy1375 H
   have Ny1375 := zA hy1375
   clear hy1375
   obtain ⟨t1378, A12, H⟩ := zb H
   try dsimp only at H
   have H' := zA H
   clear H
   go_wp2_with (first | ((with_reducible refine kS (N := 27) rfl ?_); refine Kd.R_lit (Kd.int .i64) _ 2 ?hg (N := 27) ?hd (xs := ([] : List Int)) (inner := []) (ok := fun _ => True) (okp := fun _ => True) ?hr ?hp (fun _ hk => hk) trivial (kW _ _) (Nat.le_refl _) (by simp) ?_; (case hd => rfl); (case hg => rfl); (case hr => first | (go_simp; done) | (go_simp; rfl)); (case hp => exact (Reps.none _ _)); intro v1376 w13 ho14 hb hg_ hnew_; clear hg_ hnew_; (first | rw [← Ny1375.out] at ho14 | (simp only [Int.reduceToNat] at ho14; rw [← Ny1375.out] at ho14)); have HO1377 := zA (kI (kF ho14 (kH (zP HO_3.out))) (kP (zQ HB.out))); replace HO_3 := zA (kE (zP HO_3.out) (kC ho14) hb); replace HB := zA (kQ (zQ HB.out) hb); clear hb ho14; obtain ⟨Ao15, co15, eo15⟩ := kM HO_3.out; subst eo15) | (refine zO (some 29) Tryd.func190 #[.slice Ao15 x3_1.length co15] ?_; (with_reducible refine (impl_closure.calls k1 _ _ x3_1 t1378 _ ?side1 ?side2 A12.out).mono ?_); (case side1 => exact zS (kB HO_3.out).2.2); (case side2 => exact (kB HO_3.out).2.1); rintro e w16 ⟨v1379, rfl, ho0, hb⟩; refine ⟨_, rfl, ?_⟩; have HO1380 := zA (kI (kF (kF ho0 (kH (zP HO_3.out))) (kH (zP HO1377.out))) (kP (zQ HB.out))); replace HO_3 := zA (kE (zP HO_3.out) (kC ho0) hb); replace HO1377 := zA (kE (zP HO1377.out) (kC ho0) hb); replace HB := zA (kQ (zQ HB.out) hb); (try clear hb); (try clear ho0); obtain ⟨Ao17, co17, eo17⟩ := kM HO1380.out; subst eo17))
   go_loopg [6, 7, 31] k1 (fun kq v6 v7 v31 w' => ∃ (x6_2 : List Int) (x7_2 : Int) (x31_2 : Int), v7 = .int .i64 x7_2 ∧ v31 = .int .i64 x31_2 ∧ Aside0 (impl_components.l1 kq x6_2 x7_2 t1378 (t1378.length : Int) x31_2 = some r) ∧ Aside0 (kq ≤ k1) ∧ Aside0 (Kd.R (Kd.int .i64) 2 w' w.heap.size (fun k_ => some k_ ≠ ((.slice Ao17 t1378.length co17) : Value).ownBlock) v6 x6_2) ∧ Aside0 (Kd.R (Kd.int .i64) 2 w' w.heap.size (fun k_ => some k_ ≠ (v6 : Value).ownBlock) (.slice Ao17 t1378.length co17) t1378) ∧ Aside0 (Below w.heap.size w w'))
   case atStart => exact ⟨(y1375), (0), (0), zs, zs, H', ⟨Nat.le_refl _⟩, ⟨zPM HO1377.out (fun _ hk => hk.2)⟩, ⟨zPM HO1380.out (fun _ hk => hk.2)⟩, ⟨zQ HB.out⟩⟩
   case round =>
    clear H'
    try clear c1
    try clear hx1
    try clear c4
    try clear c5
    try clear c6
    try clear c7
    try clear hx8
    try clear hf8
    try clear hx13
    try clear c14
    try clear c15
    try clear hx1372_0
    try clear hx1373_0
    try clear hx8_0
    obtain ⟨x6_2, x7_2, x31_2, rfl, rfl, HA, HK2, HO_6, HO_29, HB⟩ := hrel
    cases gk with
    | zero => exact absurd HA.out (by simp [impl_components.l1])
    | succ k2 =>
     have H := HA.out
     clear HA
     simp only [impl_components.l1] at H
     by_cases c18 : x31_2 < (t1378.length : Int)
     ·rw [if_pos c18] at H
      have c18b0 : decide (x31_2 < (t1378.length : Int)) = true := decide_eq_true c18
      clear c18
      by_cases c19 : 0 ≤ x31_2
      ·rw [if_pos c19] at H
       have c19b0 : decide (0 ≤ x31_2) = true := decide_eq_true c19
       clear c19
       by_cases c20 : x31_2 < (t1378.length : Int)
       ·rw [if_pos c20] at H
        have c20b0 : decide (x31_2 < (t1378.length : Int)) = true := decide_eq_true c20
        clear c20
        obtain ⟨t1382, A21, H⟩ := zb H
        try dsimp only at H
        by_cases c22 : t1382 = true
        ·subst c22
         rw [if_pos rfl] at H
         have H' := zA H
         clear H
         have p1381 : 0 ≤ (x31_2 : Int) := zd
         have q1381 : x31_2 < (t1378.length : Int) := zd
         obtain ⟨ad1381, e1381, hx1381_0⟩ := Kd.at_int (kB HO_29.out).2.2 x31_2 p1381 q1381
         cases e1381
         replace p1381 := eq_true p1381
         replace q1381 := eq_true q1381
         go_wp2_with (first | (refine zO (some 38) Tryd.func159 #[.int .i64 x7_2, .int .i64 x31_2] ?_; (with_reducible refine (impl_has.calls x7_2 x31_2 true _ A21.out).mono ?_); rintro e w' ⟨rfl, ⟨nd, rfl⟩⟩; refine ⟨_, rfl, ?_⟩))
         go_roundg k2
         case measure => have := HK1.out; have := HK2.out; omega
         case rel => exact ⟨(x6_2), (x7_2), (wrap64 (x31_2 + 1)), zs, zs, H', ⟨by have := HK1.out; have := HK2.out; omega⟩, ⟨zP HO_6.out⟩, ⟨zP HO_29.out⟩, ⟨zQ HB.out⟩⟩
        replace c22 := Bool.eq_false_iff.mpr c22
        subst c22
        rw [if_neg (show ¬ (false = true) by decide)] at H
        by_cases c23 : x6_2.length < 17592186044416
        ·rw [if_pos c23] at H
         have LMc23 := zA c23
         clear c23
         obtain ⟨y1383, hy1383⟩ : ∃ y_ : List Int, y_ = (x6_2 ++ [rd t1378 x31_2]) := ⟨_, rfl⟩
         replace H : (impl_components.l1 k2 y1383 (Go.bits .or .i64 x7_2 (rd t1378 x31_2)) t1378 (t1378.length : Int) (wrap64 (x31_2 + 1))) = some r := zy hy1383 H
         have Ny1383 := zA hy1383
         clear hy1383
         have H' := zA H
         clear H
         have p1381 : 0 ≤ (x31_2 : Int) := zd
         have q1381 : x31_2 < (t1378.length : Int) := zd
         obtain ⟨ad1381, e1381, hx1381_0⟩ := Kd.at_int (kB HO_29.out).2.2 x31_2 p1381 q1381
         cases e1381
         replace p1381 := eq_true p1381
         replace q1381 := eq_true q1381
         go_wp2_with (first | (refine zO (some 38) Tryd.func159 #[.int .i64 x7_2, .int .i64 x31_2] ?_; (with_reducible refine (impl_has.calls x7_2 x31_2 false _ A21.out).mono ?_); rintro e w' ⟨rfl, ⟨nd, rfl⟩⟩; refine ⟨_, rfl, ?_⟩) | ((with_reducible refine gate_builtin (b := .append) (xs := #[.tmp 40, .tmp 42]) rfl ?_); at_builtin; refine Kd.R_append (Kd.int .i64) (w0 := w) w.heap.size rfl (.tmp 40) (.tmp 42) 22 2 (.int .i64 0) 8 rfl Tryd.underlying22 info2 rfl (by decide) (by omega) u6 x6_2 (rd t1378 x31_2) [.int .i64 (rd t1378 x31_2)] (fun k_ => some k_ ≠ (.slice (some ad1381) t1378.length co17 : Value).ownBlock) (fun _ => False) rfl rfl ?aP (fun _ hk => hk.elim) ?aF ?aO ?aB ?aS ?aL ?_; (case aP => exact rfl); (case aB => exact (zQ HB.out)); (case aF => exact (fun k_ hk => jF (kH (zP HO_29.out)) k_ hk)); (case aO => exact (zP HO_6.out)); (case aS => exact (kP (zQ HB.out))); (case aL => have := LMc23.out; omega); intro v1384 w24 ho hb hg hat; rw [← Ny1383.out] at ho; replace HO_29 := zA (Kd.R_after (ok := (fun _ => True)) (by (with_reducible repeat (first | apply zF | apply zG | apply zH)); exact kA HO_29.out (fun _ hk => ⟨trivial, hk⟩)) hg hat); replace HB := zA (hb); have HO1385 := zA (ho); clear HO_6; clear ho hb hg hat))
         go_roundg k2
         case measure => have := HK1.out; have := HK2.out; omega
         case rel => exact ⟨(y1383), (Go.bits .or .i64 x7_2 (rd t1378 x31_2)), (wrap64 (x31_2 + 1)), zs, zs, H', ⟨by have := HK1.out; have := HK2.out; omega⟩, ⟨zP HO1385.out⟩, ⟨zPM HO_29.out (fun _ hk => hk.2)⟩, ⟨zQ HB.out⟩⟩
        rw [if_neg c23] at H
        exact absurd H (by simp)
       rw [if_neg c20] at H
       exact absurd H (by simp)
      rw [if_neg c19] at H
      exact absurd H (by simp)
     rw [if_neg c18] at H
     have c18b0 : decide (x31_2 < (t1378.length : Int)) = false := decide_eq_false c18
     clear c18
     obtain rfl := Option.some.inj H
     go_wp2
     go_ret
     exact ⟨_, zr, by (with_reducible repeat (first | apply zF | apply zG | apply zH)); exact kA HO_6.out (fun _ hk => trivial), zQ HB.out⟩

/-! ### impl_projected: function 152 -/
def impl_projected.l0 : Nat → Int → List Int → List Int → Int → Int → Option (List Int)
 | 0, _, _, _, _, _ => none
 | k + 1, x1, x5, x9, x10, x11 => if x11 < x10 then (if 0 ≤ x11 then (if x11 < (x9.length : Int) then ((impl_has.f x1 (rd x9 x11)).bind fun t1390 => (if t1390 = true then (if x5.length < 17592186044416 then (impl_projected.l0 k x1 (x5 ++ [rd x9 x11]) x9 x10 (wrap64 (x11 + 1))) else (none)) else (impl_projected.l0 k x1 x5 x9 x10 (wrap64 (x11 + 1))))) else (none)) else (none)) else (some x5)
def impl_projected.f (k : Nat) (l0 : List Int) (a1 : Int) : Option (List Int) := impl_projected.l0 k a1 (([] : List Int)) l0 (l0.length : Int) 0

set_option maxHeartbeats 8000000 in
set_option maxRecDepth 100000 in
theorem impl_projected.calls (k : Nat) (A0 : Option Addr) (c0 : Nat) (l0 : List Int) (a1 : Int) (r : List Int) (w : World) (hr0 : Kd.C (Kd.int .i64) w A0 l0.length l0) (hc0 : l0.length ≤ c0) (h : impl_projected.f k l0 a1 = some r) :
  Calls Tryd.prog 152 #[.slice A0 l0.length c0, .int .i64 a1] w fun e w' => ∃ v0_ : Value, e = .returned (v0_) ∧ Kd.R (Kd.int .i64) 2 w' w.heap.size (fun _ => True) v0_ r ∧ Below w.heap.size w w' := by
 have HR0 := zA hr0
 have HC0 := zA hc0
 clear hr0 hc0
 have HB := zA (kW w.heap.size w)
 have H := h
 unfold impl_projected.f at H
 clear h
 obtain ⟨y1386, hy1386⟩ : ∃ y_ : List Int, y_ = (([] : List Int)) := ⟨_, rfl⟩
 replace H : (impl_projected.l0 k a1 y1386 l0 (l0.length : Int) 0) = some r := zy hy1386 H
 have Ny1386 := zA hy1386
 clear hy1386
 have H' := zA H
 clear H
 go_enter Tryd.func152, Tryd.ntmps152
 go_wp2_with (first | ((with_reducible refine kS (N := 8) rfl ?_); refine Kd.R_lit (Kd.int .i64) _ 2 ?hg (N := 8) ?hd (xs := ([] : List Int)) (inner := []) (ok := fun _ => True) (okp := fun _ => True) ?hr ?hp (fun _ hk => hk) trivial (kW _ _) (Nat.le_refl _) (by simp) ?_; (case hd => rfl); (case hg => rfl); (case hr => first | (go_simp; done) | (go_simp; rfl)); (case hp => exact (Reps.none _ _)); intro v1387 w3 ho4 hb hg_ hnew_; clear hg_ hnew_; (first | rw [← Ny1386.out] at ho4 | (simp only [Int.reduceToNat] at ho4; rw [← Ny1386.out] at ho4)); have HO1388 := zA (kI ho4 (kP (zQ HB.out))); replace HB := zA (kQ (zQ HB.out) hb); clear hb ho4))
 go_loopg [5, 11] k (fun kq v5 v11 w' => ∃ (x5_1 : List Int) (x11_1 : Int), v11 = .int .i64 x11_1 ∧ Aside0 (impl_projected.l0 kq a1 x5_1 l0 (l0.length : Int) x11_1 = some r) ∧ Aside0 (kq ≤ k) ∧ Aside0 (Kd.R (Kd.int .i64) 2 w' w.heap.size (fun _ => True) v5 x5_1) ∧ Aside0 (Below w.heap.size w w'))
 case atStart => exact ⟨(y1386), (0), zs, H', ⟨Nat.le_refl _⟩, ⟨zP HO1388.out⟩, ⟨zQ HB.out⟩⟩
 case round =>
  clear H'
  try clear c1
  obtain ⟨x5_1, x11_1, rfl, HA, HK1, HO_5, HB⟩ := hrel
  cases gk with
  | zero => exact absurd HA.out (by simp [impl_projected.l0])
  | succ k1 =>
   have H := HA.out
   clear HA
   simp only [impl_projected.l0] at H
   by_cases c5 : x11_1 < (l0.length : Int)
   ·rw [if_pos c5] at H
    have c5b0 : decide (x11_1 < (l0.length : Int)) = true := decide_eq_true c5
    clear c5
    by_cases c6 : 0 ≤ x11_1
    ·rw [if_pos c6] at H
     have c6b0 : decide (0 ≤ x11_1) = true := decide_eq_true c6
     clear c6
     by_cases c7 : x11_1 < (l0.length : Int)
     ·rw [if_pos c7] at H
      have c7b0 : decide (x11_1 < (l0.length : Int)) = true := decide_eq_true c7
      clear c7
      obtain ⟨t1390, A8, H⟩ := zb H
      try dsimp only at H
      by_cases c9 : t1390 = true
      ·subst c9
       rw [if_pos rfl] at H
       by_cases c10 : x5_1.length < 17592186044416
       ·rw [if_pos c10] at H
        have LMc10 := zA c10
        clear c10
        obtain ⟨y1391, hy1391⟩ : ∃ y_ : List Int, y_ = (x5_1 ++ [rd l0 x11_1]) := ⟨_, rfl⟩
        replace H : (impl_projected.l0 k1 a1 y1391 l0 (l0.length : Int) (wrap64 (x11_1 + 1))) = some r := zy hy1391 H
        have Ny1391 := zA hy1391
        clear hy1391
        have H' := zA H
        clear H
        have p1389 : 0 ≤ (x11_1 : Int) := zd
        have q1389 : x11_1 < (l0.length : Int) := zd
        obtain ⟨ad1389, e1389, hx1389_0⟩ := Kd.at_int HR0.out x11_1 p1389 q1389
        cases e1389
        replace hx1389_0 := (HB.out.cell (jG w _ hx1389_0)).trans hx1389_0
        replace p1389 := eq_true p1389
        replace q1389 := eq_true q1389
        go_wp2_with (first | (refine zO (some 17) Tryd.func159 #[.int .i64 a1, .int .i64 (rd l0 x11_1)] ?_; (with_reducible refine (impl_has.calls a1 (rd l0 x11_1) true _ A8.out).mono ?_); rintro e w' ⟨rfl, ⟨nd, rfl⟩⟩; refine ⟨_, rfl, ?_⟩) | ((with_reducible refine gate_builtin (b := .append) (xs := #[.tmp 18, .tmp 20]) rfl ?_); at_builtin; refine Kd.R_append (Kd.int .i64) (w0 := w) w.heap.size rfl (.tmp 18) (.tmp 20) 22 2 (.int .i64 0) 8 rfl Tryd.underlying22 info2 rfl (by decide) (by omega) u5 x5_1 (rd l0 x11_1) [.int .i64 (rd l0 x11_1)] (fun _ => True) (fun _ => False) rfl rfl ?aP (fun _ hk => hk.elim) ?aF ?aO ?aB ?aS ?aL ?_; (case aP => exact rfl); (case aB => exact (zQ HB.out)); (case aF => exact (fun _ _ => trivial)); (case aO => exact (zP HO_5.out)); (case aS => exact (kP (zQ HB.out))); (case aL => have := LMc10.out; omega); intro v1392 w11 ho hb hg hat; rw [← Ny1391.out] at ho; replace HB := zA (hb); have HO1393 := zA (ho); clear HO_5; clear ho hb hg hat))
        go_roundg k1
        case measure => have := HK1.out; omega
        case rel => exact ⟨(y1391), (wrap64 (x11_1 + 1)), zs, H', ⟨by have := HK1.out; omega⟩, ⟨zP HO1393.out⟩, ⟨zQ HB.out⟩⟩
       rw [if_neg c10] at H
       exact absurd H (by simp)
      replace c9 := Bool.eq_false_iff.mpr c9
      subst c9
      rw [if_neg (show ¬ (false = true) by decide)] at H
      have H' := zA H
      clear H
      have p1389 : 0 ≤ (x11_1 : Int) := zd
      have q1389 : x11_1 < (l0.length : Int) := zd
      obtain ⟨ad1389, e1389, hx1389_0⟩ := Kd.at_int HR0.out x11_1 p1389 q1389
      cases e1389
      replace hx1389_0 := (HB.out.cell (jG w _ hx1389_0)).trans hx1389_0
      replace p1389 := eq_true p1389
      replace q1389 := eq_true q1389
      go_wp2_with (first | (refine zO (some 17) Tryd.func159 #[.int .i64 a1, .int .i64 (rd l0 x11_1)] ?_; (with_reducible refine (impl_has.calls a1 (rd l0 x11_1) false _ A8.out).mono ?_); rintro e w' ⟨rfl, ⟨nd, rfl⟩⟩; refine ⟨_, rfl, ?_⟩))
      go_roundg k1
      case measure => have := HK1.out; omega
      case rel => exact ⟨(x5_1), (wrap64 (x11_1 + 1)), zs, H', ⟨by have := HK1.out; omega⟩, ⟨zP HO_5.out⟩, ⟨zQ HB.out⟩⟩
     rw [if_neg c7] at H
     exact absurd H (by simp)
    rw [if_neg c6] at H
    exact absurd H (by simp)
   rw [if_neg c5] at H
   have c5b0 : decide (x11_1 < (l0.length : Int)) = false := decide_eq_false c5
   clear c5
   obtain rfl := Option.some.inj H
   go_wp2
   go_ret
   exact ⟨_, zr, zP HO_5.out, zQ HB.out⟩

/-! ### impl_ties_partsOf: function 78 -/
mutual
def impl_ties_partsOf.l0 : Nat → List Int → List Int → Int → List Int → List Int → Int → Int → Option ((List (List Int)))
 | 0, _, _, _, _, _, _, _ => none
 | k + 1, x0, x1, x5, x6, x18, x19, x20 => if x20 < x19 then (if 0 ≤ x20 then (if x20 < (x18.length : Int) then (if 0 ≤ (rd x18 x20) then (if (rd x18 x20) < (x0.length : Int) then (if (rd x18 x20) < (x6.length : Int) then (impl_ties_partsOf.l0 k x0 x1 x5 (x6.set ((rd x18 x20) : Int).toNat (Go.bits .and .i64 (rd x0 (rd x18 x20)) x5)) x18 x19 (wrap64 (x20 + 1))) else (none)) else (none)) else (none)) else (none)) else (none)) else ((impl_components.f k x6).bind fun t1407 => (impl_ties_partsOf.l1 k x0 x1 x5 (([] : List (List Int))) t1407 (t1407.length : Int) 0))
def impl_ties_partsOf.l1 : Nat → List Int → List Int → Int → List (List Int) → List Int → Int → Int → Option ((List (List Int)))
 | 0, _, _, _, _, _, _, _ => none
 | k + 1, x0, x1, x5, x9, x36, x37, x38 => if x38 < x37 then (if 0 ≤ x38 then (if x38 < (x36.length : Int) then (if (Go.bits .and .i64 (rd x36 x38) x5) = 0 then (impl_ties_partsOf.l1 k x0 x1 x5 x9 x36 x37 (wrap64 (x38 + 1))) else ((impl_projected.f k x1 (rd x36 x38)).bind fun t1411 => ((impl_ties_normal.f k x0 t1411).bind fun t1414 => (if x9.length < 5864062014805 then (impl_ties_partsOf.l1 k x0 x1 x5 (x9 ++ [t1414]) x36 x37 (wrap64 (x38 + 1))) else (none))))) else (none)) else (none)) else (some x9)
end
def impl_ties_partsOf.f (k : Nat) (l0 : List Int) (l1 : List Int) : Option ((List (List Int))) := (impl_maskOf.f k l1).bind fun t1394 => (if 0 ≤ (l0.length : Int) then (if ((l0.length : Int) : Int).toNat ≤ 35184372088832 then ((impl_members.f k t1394).bind fun t1398 => (impl_ties_partsOf.l0 k l0 l1 t1394 (List.replicate ((l0.length : Int) : Int).toNat 0) t1398 (t1398.length : Int) 0)) else (none)) else (none))

set_option maxHeartbeats 8000000 in
set_option maxRecDepth 100000 in
theorem impl_ties_partsOf.calls (k : Nat) (A0 : Option Addr) (c0 : Nat) (l0 : List Int) (A1 : Option Addr) (c1 : Nat) (l1 : List Int) (r : List (List Int)) (w : World) (hr0 : Kd.C (Kd.int .i64) w A0 l0.length l0) (hc0 : l0.length ≤ c0) (hr1 : Kd.C (Kd.int .i64) w A1 l1.length l1) (hc1 : l1.length ≤ c1) (hT : TabW w) (h : impl_ties_partsOf.f k l0 l1 = some r) :
  Calls Tryd.prog 78 #[.slice A0 l0.length c0, .slice A1 l1.length c1] w fun e w' => ∃ v0_ : Value, e = .returned (v0_) ∧ Kd.S (Kd.slice 2 (Kd.int .i64)) 22 w' w.heap.size (fun _ => True) v0_ r ∧ Below w.heap.size w w' := by
 have HT := zA hT
 clear hT
 have HR0 := zA hr0
 have HC0 := zA hc0
 clear hr0 hc0
 have HR1 := zA hr1
 have HC1 := zA hc1
 clear hr1 hc1
 have HB := zA (kW w.heap.size w)
 have H := h
 unfold impl_ties_partsOf.f at H
 clear h
 obtain ⟨t1394, A3, H⟩ := zb H
 try dsimp only at H
 by_cases c4 : 0 ≤ (l0.length : Int)
 ·rw [if_pos c4] at H
  have c4b0 := eq_true c4
  have c4b1 : decide (0 ≤ (l0.length : Int)) = true := decide_eq_true c4
  clear c4
  by_cases c5 : ((l0.length : Int) : Int).toNat ≤ 35184372088832
  ·rw [if_pos c5] at H
   have c5b0 := eq_true c5
   have c5b1 : decide (((l0.length : Int) : Int).toNat ≤ 35184372088832) = true := decide_eq_true c5
   clear c5
   obtain ⟨y1395, hy1395⟩ : ∃ y_ : List Int, y_ = (List.replicate ((l0.length : Int) : Int).toNat 0) := ⟨_, rfl⟩
   replace H : ((impl_members.f k t1394).bind fun t1398 => (impl_ties_partsOf.l0 k l0 l1 t1394 y1395 t1398 (t1398.length : Int) 0)) = some r := zy hy1395 H
   have Ny1395 := zA hy1395
   clear hy1395
   obtain ⟨t1398, A6, H⟩ := zb H
   try dsimp only at H
   have H' := zA H
   clear H
   go_enter Tryd.func78, Tryd.ntmps78
   go_wp2_with (first | (refine zO (some 13) Tryd.func150 #[.slice A1 l1.length c1] ?_; (with_reducible refine (impl_maskOf.calls k _ _ l1 t1394 _ ?side1 ?side2 A3.out).mono ?_); (case side1 => exact zS HR1.out); (case side2 => exact HC1.out); rintro e w' ⟨rfl, ⟨nd, rfl⟩⟩; refine ⟨_, rfl, ?_⟩) | ((with_reducible refine kS (N := 16) rfl ?_); refine Kd.R_make (Kd.int .i64) _ 2 rfl (N := 16) rfl 22 _ _ rfl (l0.length : Int) rfl rfl Tryd.underlying22 (.int .i64 0) 8 info2 rfl (by decide) (by omega) 0 (ok := fun _ => True) (okp := fun _ => True) rfl (fun _ hk => hk) trivial (zd) (Nat.le_trans (Nat.mul_le_mul_right _ (zd : (l0.length : Int).toNat ≤ 35184372088832)) (by omega)) (kW _ _) (Nat.le_refl _) ?_; intro v1396 w7 ho8 hb hg_ hnew_; clear hg_ hnew_; (first | rw [← Ny1395.out] at ho8 | (simp only [Int.reduceToNat] at ho8; rw [← Ny1395.out] at ho8)); have HO1397 := zA (kI ho8 (kP (zQ HB.out))); replace HB := zA (kQ (zQ HB.out) hb); clear hb ho8) | (refine zO (some 18) Tryd.func138 #[.int .i64 t1394] ?_; (with_reducible refine (impl_members.calls k t1394 t1398 _ ?side1 A6.out).mono ?_); (case side1 => exact TabW.below HT.out (zQ HB.out)); rintro e w9 ⟨v1399, rfl, ho0, hb⟩; refine ⟨_, rfl, ?_⟩; have HO1400 := zA (kI (kF ho0 (kH (zP HO1397.out))) (kP (zQ HB.out))); replace HO1397 := zA (kE (zP HO1397.out) (kC ho0) hb); replace HB := zA (kQ (zQ HB.out) hb); (try clear hb); (try clear ho0); obtain ⟨Ao10, co10, eo10⟩ := kM HO1400.out; subst eo10))
   go_loopg [20] k (fun kq v20 w' => ∃ (x6_1 : List Int) (x20_1 : Int), v20 = .int .i64 x20_1 ∧ Aside0 (impl_ties_partsOf.l0 kq l0 l1 t1394 x6_1 t1398 (t1398.length : Int) x20_1 = some r) ∧ Aside0 (kq ≤ k) ∧ Aside0 (Kd.R (Kd.int .i64) 2 w' w.heap.size (fun k_ => some k_ ≠ ((.slice Ao10 t1398.length co10) : Value).ownBlock) v1396 x6_1) ∧ Aside0 (Kd.R (Kd.int .i64) 2 w' w.heap.size (fun k_ => some k_ ≠ (v1396 : Value).ownBlock) (.slice Ao10 t1398.length co10) t1398) ∧ Aside0 (Below w.heap.size w w'))
   case atStart => exact ⟨(y1395), (0), zs, H', ⟨Nat.le_refl _⟩, ⟨zPM HO1397.out (fun _ hk => hk.2)⟩, ⟨zPM HO1400.out (fun _ hk => hk.2)⟩, ⟨zQ HB.out⟩⟩
   case round =>
    clear H'
    try clear c1
    try clear c4
    try clear c5
    try clear c7
    obtain ⟨x6_1, x20_1, rfl, HA, HK1, HO_6, HO_18, HB⟩ := hrel
    cases gk with
    | zero => exact absurd HA.out (by simp [impl_ties_partsOf.l0])
    | succ k1 =>
     have H := HA.out
     clear HA
     simp only [impl_ties_partsOf.l0] at H
     by_cases c11 : x20_1 < (t1398.length : Int)
     ·rw [if_pos c11] at H
      have c11b0 : decide (x20_1 < (t1398.length : Int)) = true := decide_eq_true c11
      clear c11
      by_cases c12 : 0 ≤ x20_1
      ·rw [if_pos c12] at H
       have c12b0 : decide (0 ≤ x20_1) = true := decide_eq_true c12
       clear c12
       by_cases c13 : x20_1 < (t1398.length : Int)
       ·rw [if_pos c13] at H
        have c13b0 : decide (x20_1 < (t1398.length : Int)) = true := decide_eq_true c13
        clear c13
        by_cases c14 : 0 ≤ (rd t1398 x20_1)
        ·rw [if_pos c14] at H
         have c14b0 : decide (0 ≤ (rd t1398 x20_1)) = true := decide_eq_true c14
         clear c14
         by_cases c15 : (rd t1398 x20_1) < (l0.length : Int)
         ·rw [if_pos c15] at H
          have c15b0 : decide ((rd t1398 x20_1) < (l0.length : Int)) = true := decide_eq_true c15
          clear c15
          by_cases c16 : (rd t1398 x20_1) < (x6_1.length : Int)
          ·rw [if_pos c16] at H
           have c16b0 : decide ((rd t1398 x20_1) < (x6_1.length : Int)) = true := decide_eq_true c16
           clear c16
           obtain ⟨y1403, hy1403⟩ : ∃ y_ : List Int, y_ = (x6_1.set ((rd t1398 x20_1) : Int).toNat (Go.bits .and .i64 (rd l0 (rd t1398 x20_1)) t1394)) := ⟨_, rfl⟩
           replace H : (impl_ties_partsOf.l0 k1 l0 l1 t1394 y1403 t1398 (t1398.length : Int) (wrap64 (x20_1 + 1))) = some r := zy hy1403 H
           have Ny1403 := zA hy1403
           clear hy1403
           have H' := zA H
           clear H
           have p1401 : 0 ≤ (x20_1 : Int) := zd
           have q1401 : x20_1 < (t1398.length : Int) := zd
           obtain ⟨ad1401, e1401, hx1401_0⟩ := Kd.at_int (kB HO_18.out).2.2 x20_1 p1401 q1401
           cases e1401
           replace p1401 := eq_true p1401
           replace q1401 := eq_true q1401
           have p1402 : 0 ≤ ((rd t1398 x20_1) : Int) := zd
           have q1402 : (rd t1398 x20_1) < (l0.length : Int) := zd
           obtain ⟨ad1402, e1402, hx1402_0⟩ := Kd.at_int HR0.out (rd t1398 x20_1) p1402 q1402
           cases e1402
           replace hx1402_0 := (HB.out.cell (jG w _ hx1402_0)).trans hx1402_0
           replace p1402 := eq_true p1402
           replace q1402 := eq_true q1402
           have p17 : 0 ≤ ((rd t1398 x20_1) : Int) := zd
           have q17 : ((rd t1398 x20_1) : Int) < ((x6_1.length : Int) : Int) := zd
           obtain ⟨go17, co17, eo17, gb17, gl17, cl17, HG17⟩ := Kd.R_form HO_6.out (by omega)
           (first | cases eo17 | (injection eo17 with ea_ en_ ec_; (first | subst ea_ | (injection ea_ with ea_; subst ea_)); subst ec_; clear en_))
           have GB17 := zA gb17
           have GG17 := zA HG17
           clear gb17 gl17 HG17
           obtain ⟨hx17_0, hf17_0⟩ := Kd.R_celln 0 HO_6.out ((rd t1398 x20_1) : Int) p17 q17
           replace p17 := eq_true p17
           replace q17 := eq_true q17
           have HP18 := Kd.R_putg HO_6.out ((rd t1398 x20_1) : Int) (Go.bits .and .i64 (rd l0 (rd t1398 x20_1)) t1394)
           go_wp2_with (first | ((with_reducible refine gate_store (t := 2) (p := 32) rfl ?_); refine store_event (t := 2) (p := 32) (v := ?vo_w19) (w1 := (wr.setCell ⟨go17, ((rd t1398 x20_1) : Int).toNat, none⟩ (.int .i64 (Go.bits .and .i64 (rd l0 (rd t1398 x20_1)) t1394)))) ?hg ?ho ?hn ?hr ?_; (case ho => rfl); (case hg => rfl); (case hn => rfl); (case hr => first | (go_simp; done) | (go_simp; rfl)); intro w19 hw; have hg : wr.grownBy w19 (some go17) := (by rw [hw]; exact HP18.2); have hp_ : Kd.R (Kd.int .i64) 2 w19 w.heap.size (fun k_ => some k_ ≠ (.slice (some ad1401) t1398.length co10 : Value).ownBlock) (.slice (some ⟨go17, 0, none⟩) x6_1.length co17) y1403 := (by rw [hw, Ny1403.out]; exact HP18.1); clear HP18; replace HO_6 := zA (hp_); replace HO_18 := zA (Kd.R_after (v := (.slice (some ⟨go17, 0, none⟩) x6_1.length co17)) (v1 := (.slice (some ⟨go17, 0, none⟩) x6_1.length co17)) (ok := (fun _ => True)) (by (with_reducible repeat (first | apply zF | apply zG | apply zH)); exact kA HO_18.out (fun _ hk => ⟨trivial, hk⟩)) hg (.inl rfl)); replace HB := zA ((by rw [hw]; exact zE (HB.out) GB17.out : Below w.heap.size w w19)); clear hg hw hp_))
           go_roundg k1
           case measure => have := HK1.out; omega
           case rel => exact ⟨(y1403), (wrap64 (x20_1 + 1)), zs, H', ⟨by have := HK1.out; omega⟩, ⟨zP HO_6.out⟩, ⟨zPM HO_18.out (fun _ hk => hk.2)⟩, ⟨zQ HB.out⟩⟩
          rw [if_neg c16] at H
          exact absurd H (by simp)
         rw [if_neg c15] at H
         exact absurd H (by simp)
        rw [if_neg c14] at H
        exact absurd H (by simp)
       rw [if_neg c13] at H
       exact absurd H (by simp)
      rw [if_neg c12] at H
      exact absurd H (by simp)
     rw [if_neg c11] at H
     have c11b0 : decide (x20_1 < (t1398.length : Int)) = false := decide_eq_false c11
     clear c11
     obtain ⟨y1404, hy1404⟩ : ∃ y_ : List (List Int), y_ = (([] : List (List Int))) := ⟨_, rfl⟩
     replace H : ((impl_components.f k1 x6_1).bind fun t1407 => (impl_ties_partsOf.l1 k1 l0 l1 t1394 y1404 t1407 (t1407.length : Int) 0)) = some r := zy hy1404 H
     have Ny1404 := zA hy1404
     clear hy1404
     obtain ⟨t1407, A20, H⟩ := zb H
     try dsimp only at H
     have H' := zA H
     clear H
     go_wp2_with (first | ((with_reducible refine kS (N := 34) rfl ?_); refine Kd.S_lit (Kd.slice 2 (Kd.int .i64)) _ 22 ?hg (N := 34) ?hd (xs := ([] : List (List Int))) (inner := []) (ok := fun _ => True) (okp := fun _ => True) ?hr ?hp (fun _ hk => hk) trivial (kW _ _) (Nat.le_refl _) (by simp) ?_; (case hd => rfl); (case hg => rfl); (case hr => first | (go_simp; done) | (go_simp; rfl)); (case hp => exact (Reps.none _ _)); intro v1405 w21 ho22 hb hg_ hnew_; clear hg_ hnew_; (first | rw [← Ny1404.out] at ho22 | (simp only [Int.reduceToNat] at ho22; rw [← Ny1404.out] at ho22)); have HO1406 := zA (Kd.S_lower (Kd.S_new' (Kd.S_new' ho22 (kH (zP HO_6.out))) (kH (zP HO_18.out))) (kP (zQ HB.out))); replace HO_6 := zA (kL (zP HO_6.out) hb); replace HO_18 := zA (kL (zP HO_18.out) hb); replace HB := zA (kQ (zQ HB.out) hb); clear hb ho22; obtain ⟨Ao23, co23, eo23⟩ := kM HO_6.out; subst eo23) | (refine zO (some 36) Tryd.func151 #[.slice Ao23 x6_1.length co23] ?_; (with_reducible refine (impl_components.calls k1 _ _ x6_1 t1407 _ ?side1 ?side2 ?side3 A20.out).mono ?_); (case side1 => exact zS (kB HO_6.out).2.2); (case side2 => exact (kB HO_6.out).2.1); (case side3 => exact TabW.below HT.out (zQ HB.out)); rintro e w24 ⟨v1408, rfl, ho0, hb⟩; refine ⟨_, rfl, ?_⟩; replace HO1406 := zA (Kd.S_elder' (by (with_reducible repeat (first | apply Kd.S_alloc | apply Kd.S_drewN | apply Kd.S_drew)); exact HO1406.out) (kC ho0) hb); have HO1409 := zA (kI (kF (kF ho0 (kH (zP HO_6.out))) (kH (zP HO_18.out))) (kP (zQ HB.out))); replace HO_6 := zA (kE (zP HO_6.out) (kC ho0) hb); replace HO_18 := zA (kE (zP HO_18.out) (kC ho0) hb); replace HB := zA (kQ (zQ HB.out) hb); (try clear hb); (try clear ho0); obtain ⟨Ao25, co25, eo25⟩ := kM HO1409.out; subst eo25))
     go_loopg [9, 38] k1 (fun kq v9 v38 w' => ∃ (x9_2 : List (List Int)) (x38_2 : Int), v38 = .int .i64 x38_2 ∧ Aside0 (impl_ties_partsOf.l1 kq l0 l1 t1394 x9_2 t1407 (t1407.length : Int) x38_2 = some r) ∧ Aside0 (kq ≤ k1) ∧ Aside0 (Kd.S (Kd.slice 2 (Kd.int .i64)) 22 w' w.heap.size (fun k_ => some k_ ≠ ((.slice Ao25 t1407.length co25) : Value).ownBlock) v9 x9_2) ∧ Aside0 (Kd.R (Kd.int .i64) 2 w' w.heap.size (fun _ => True) (.slice Ao25 t1407.length co25) t1407) ∧ Aside0 (Below w.heap.size w w'))
     case atStart => exact ⟨(y1404), (0), zs, H', ⟨Nat.le_refl _⟩, ⟨by (with_reducible repeat (first | apply Kd.S_alloc | apply Kd.S_drewN | apply Kd.S_drew)); exact Kd.S_mono HO1406.out (fun _ hk => hk.2)⟩, ⟨zPM HO1409.out (fun _ hk => trivial)⟩, ⟨zQ HB.out⟩⟩
     case round =>
      clear H'
      try clear c1
      try clear hx1
      try clear c4
      try clear c5
      try clear c7
      try clear c11
      try clear c12
      try clear c13
      try clear c14
      try clear hx14
      try clear c15
      try clear c16
      try clear hx17
      try clear hf17
      try clear hx1401_0
      try clear hx1402_0
      try clear hx17_0
      obtain ⟨x9_2, x38_2, rfl, HA, HK2, HO_9, HO_36, HB⟩ := hrel
      cases gk with
      | zero => exact absurd HA.out (by simp [impl_ties_partsOf.l1])
      | succ k2 =>
       have H := HA.out
       clear HA
       simp only [impl_ties_partsOf.l1] at H
       by_cases c26 : x38_2 < (t1407.length : Int)
       ·rw [if_pos c26] at H
        have c26b0 : decide (x38_2 < (t1407.length : Int)) = true := decide_eq_true c26
        clear c26
        by_cases c27 : 0 ≤ x38_2
        ·rw [if_pos c27] at H
         have c27b0 : decide (0 ≤ x38_2) = true := decide_eq_true c27
         clear c27
         by_cases c28 : x38_2 < (t1407.length : Int)
         ·rw [if_pos c28] at H
          have c28b0 : decide (x38_2 < (t1407.length : Int)) = true := decide_eq_true c28
          clear c28
          by_cases c29 : (Go.bits .and .i64 (rd t1407 x38_2) t1394) = 0
          ·rw [if_pos c29] at H
           obtain ⟨c29b0, c29b1⟩ := zT1 c29
           clear c29
           have H' := zA H
           clear H
           have p1410 : 0 ≤ (x38_2 : Int) := zd
           have q1410 : x38_2 < (t1407.length : Int) := zd
           obtain ⟨ad1410, e1410, hx1410_0⟩ := Kd.at_int (kB HO_36.out).2.2 x38_2 p1410 q1410
           cases e1410
           replace p1410 := eq_true p1410
           replace q1410 := eq_true q1410
           go_wp2
           go_roundg k2
           case measure => have := HK1.out; have := HK2.out; omega
           case rel => exact ⟨(x9_2), (wrap64 (x38_2 + 1)), zs, H', ⟨by have := HK1.out; have := HK2.out; omega⟩, ⟨by (with_reducible repeat (first | apply Kd.S_alloc | apply Kd.S_drewN | apply Kd.S_drew)); exact HO_9.out⟩, ⟨zP HO_36.out⟩, ⟨zQ HB.out⟩⟩
          rw [if_neg c29] at H
          obtain ⟨c29b0, c29b1⟩ := zT2 c29
          obtain ⟨t1411, A30, H⟩ := zb H
          try dsimp only at H
          obtain ⟨t1414, A31, H⟩ := zb H
          try dsimp only at H
          by_cases c32 : x9_2.length < 5864062014805
          ·rw [if_pos c32] at H
           have LMc32 := zA c32
           clear c32
           obtain ⟨y1417, hy1417⟩ : ∃ y_ : List (List Int), y_ = (x9_2 ++ [t1414]) := ⟨_, rfl⟩
           replace H : (impl_ties_partsOf.l1 k2 l0 l1 t1394 y1417 t1407 (t1407.length : Int) (wrap64 (x38_2 + 1))) = some r := zy hy1417 H
           have Ny1417 := zA hy1417
           clear hy1417
           have H' := zA H
           clear H
           have p1410 : 0 ≤ (x38_2 : Int) := zd
           have q1410 : x38_2 < (t1407.length : Int) := zd
           obtain ⟨ad1410, e1410, hx1410_0⟩ := Kd.at_int (kB HO_36.out).2.2 x38_2 p1410 q1410
           cases e1410
           replace p1410 := eq_true p1410
           replace q1410 := eq_true q1410
           go_wp2_with (first | (refine zO (some 50) Tryd.func152 #[.slice A1 l1.length c1, .int .i64 (rd t1407 x38_2)] ?_; (with_reducible refine (impl_projected.calls k2 _ _ l1 (rd t1407 x38_2) t1411 _ ?side1 ?side2 A30.out).mono ?_); (case side1 => exact zS (kO HR1.out HB.out)); (case side2 => exact HC1.out); rintro e w33 ⟨v1412, rfl, ho0, hb⟩; refine ⟨_, rfl, ?_⟩; replace HO_9 := zA (Kd.S_elder' (by (with_reducible repeat (first | apply Kd.S_alloc | apply Kd.S_drewN | apply Kd.S_drew)); exact HO_9.out) (kC ho0) hb); have HO1413 := zA (kI (kF ho0 (kH (zP HO_36.out))) (kP (zQ HB.out))); replace HO_36 := zA (kE (zP HO_36.out) (kC ho0) hb); replace HB := zA (kQ (zQ HB.out) hb); (try clear hb); (try clear ho0); obtain ⟨Ao34, co34, eo34⟩ := kM HO1413.out; subst eo34) | (refine zO (some 51) Tryd.func88 #[.slice A0 l0.length c0, .slice Ao34 t1411.length co34] ?_; (with_reducible refine (impl_ties_normal.calls k2 _ _ l0 (fun k_ => some k_ = (.slice Ao34 t1411.length co34 : Value).ownBlock) _ _ t1411 t1414 _ ?side1 ?side2 ?side3 ?side4 A31.out).mono ?_); (case side1 => exact zS (kO HR0.out HB.out)); (case side2 => exact HC0.out); (case side3 => exact jL (jK rfl (Kd.R_apart' (HO1413.out) (Kd.S_typed HO_9.out) (by decide)))); (case side4 => exact TabW.below HT.out (zQ HB.out)); rintro e w35 ⟨v1415, rfl, ho0, hb⟩; refine ⟨_, rfl, ?_⟩; replace HO_9 := zA (Kd.S_elder' (by (with_reducible repeat (first | apply Kd.S_alloc | apply Kd.S_drewN | apply Kd.S_drew)); exact HO_9.out) (kC ho0) hb); have HO1416 := zA (kI (kF (kF (kA (ok' := fun k_ => True) ho0 (fun _ hk_ => trivial)) (kH (zP HO_36.out))) (kH (zP HO1413.out))) (kP (zQ HB.out))); replace HO_36 := zA (kE (zP HO_36.out) (kC ho0) hb); replace HO1413 := zA (kE (zP HO1413.out) (kC ho0) hb); replace HB := zA (kQ (zQ HB.out) hb); (try clear hb); (try clear ho0); obtain ⟨Ao37, co37, eo37⟩ := kM HO1416.out; subst eo37) | ((with_reducible refine gate_builtin (b := .append) (xs := #[.tmp 46, .tmp 52]) rfl ?_); at_builtin; refine Kd.S_append (Kd.slice 2 (Kd.int .i64)) (w0 := w) w.heap.size rfl (.tmp 46) (.tmp 52) 26 22 (.slice none 0 0) 24 rfl Tryd.underlying26 info22 rfl (by decide) (by omega) u9 x9_2 t1414 [.slice Ao37 t1414.length co37] (fun k_ => some k_ ≠ (.slice (some ad1410) t1407.length co25 : Value).ownBlock ∧ some k_ ≠ (.slice Ao34 t1411.length co34 : Value).ownBlock) (fun k_ => some k_ = (.slice Ao37 t1414.length co37 : Value).ownBlock) rfl rfl ?aP (fun k_ hk_ => ((kA (ok' := fun k_ => ((fun k_ => some k_ ≠ (.slice (some ad1410) t1407.length co25 : Value).ownBlock ∧ some k_ ≠ (.slice Ao34 t1411.length co34 : Value).ownBlock)) k_ ∧ some k_ ≠ (u9 : Value).ownBlock) (Kd.R_apart' (HO1416.out) (Kd.S_typed HO_9.out) (by decide)) (fun k_ hk => ⟨⟨hk.1.1.2, hk.1.2⟩, hk.2⟩))).1 k_ hk_.symm) ?aF ?aO ?aB ?aS ?aL ?_; (case aP => exact Kd.M_row (kA (jK rfl (kA (ok' := fun k_ => ((fun k_ => some k_ ≠ (.slice (some ad1410) t1407.length co25 : Value).ownBlock ∧ some k_ ≠ (.slice Ao34 t1411.length co34 : Value).ownBlock)) k_ ∧ some k_ ≠ (u9 : Value).ownBlock) (Kd.R_apart' (HO1416.out) (Kd.S_typed HO_9.out) (by decide)) (fun k_ hk => ⟨⟨hk.1.1.2, hk.1.2⟩, hk.2⟩))) (fun _ h_ => h_))); (case aB => exact (zQ HB.out)); (case aF => exact (fun k_ hk => ⟨jF (kH (zP HO_36.out)) k_ hk, jF (kH (zP HO1413.out)) k_ hk⟩)); (case aO => exact (by (with_reducible repeat (first | apply Kd.S_alloc | apply Kd.S_drewN | apply Kd.S_drew)); exact Kd.S_mono HO_9.out (fun k_ hk => ⟨⟨hk.1.1, hk.1.2⟩, fun e_ => hk.2 e_⟩))); (case aS => exact (kP (zQ HB.out))); (case aL => have := LMc32.out; omega); intro v1418 w36 ho hb hg hat; rw [← Ny1417.out] at ho; replace HO_36 := zA (Kd.R_over' (zP HO_36.out) (Kd.S_typed (by (with_reducible repeat (first | apply Kd.S_alloc | apply Kd.S_drewN | apply Kd.S_drew)); exact HO_9.out)) (by decide) hg); replace HO1413 := zA (Kd.R_over' (zP HO1413.out) (Kd.S_typed (by (with_reducible repeat (first | apply Kd.S_alloc | apply Kd.S_drewN | apply Kd.S_drew)); exact HO_9.out)) (by decide) hg); replace HB := zA (hb); have HO1419 := zA (ho); clear HO_9 HO1416; clear ho hb hg hat))
           go_roundg k2
           case measure => have := HK1.out; have := HK2.out; omega
           case rel => exact ⟨(y1417), (wrap64 (x38_2 + 1)), zs, H', ⟨by have := HK1.out; have := HK2.out; omega⟩, ⟨by (with_reducible repeat (first | apply Kd.S_alloc | apply Kd.S_drewN | apply Kd.S_drew)); exact Kd.S_mono HO1419.out (fun _ hk => hk.1)⟩, ⟨zPM HO_36.out (fun _ hk => trivial)⟩, ⟨zQ HB.out⟩⟩
          rw [if_neg c32] at H
          exact absurd H (by simp)
         rw [if_neg c28] at H
         exact absurd H (by simp)
        rw [if_neg c27] at H
        exact absurd H (by simp)
       rw [if_neg c26] at H
       have c26b0 : decide (x38_2 < (t1407.length : Int)) = false := decide_eq_false c26
       clear c26
       obtain rfl := Option.some.inj H
       go_wp2
       go_ret
       exact ⟨_, zr, by (with_reducible repeat (first | apply Kd.S_alloc | apply Kd.S_drewN | apply Kd.S_drew)); exact Kd.S_mono HO_9.out (fun _ hk => trivial), zQ HB.out⟩
  rw [if_neg c5] at H
  exact absurd H (by simp)
 rw [if_neg c4] at H
 exact absurd H (by simp)

/-! ### impl_TraceComponents: function 19 -/
def impl_TraceComponents.f (k : Nat) (a0_0 : Int) (l0_1 : List Int) (l1 : List Int) : Option ((List (List Int)) × Int) := (impl_checkWords.f k a0_0 l0_1 (([l1] : List (List Int)))).bind fun t1424 => (if t1424 = 0 then ((impl_Alphabet_ties.f a0_0 l0_1).bind fun t1425 => ((impl_ties_partsOf.f k t1425 l1).bind fun t1428 => (some (t1428, 0)))) else (some (([] : List (List Int)), t1424)))

set_option maxHeartbeats 8000000 in
set_option maxRecDepth 100000 in
theorem impl_TraceComponents.calls (k : Nat) (a0_0 : Int) (P0_1_ : Nat → Prop) (A0_1 : Option Addr) (c0_1 : Nat) (l0_1 : List Int) (P1_ : Nat → Prop) (A1 : Option Addr) (c1 : Nat) (l1 : List Int) (r1 : List (List Int)) (r2 : Int) (w : World) (hs0_1 : Kd.V (Kd.int .i64) 2 w w.heap.size (fun k_ => P0_1_ k_) (.slice A0_1 l0_1.length c0_1) l0_1) (hs1 : Kd.V (Kd.int .i64) 2 w w.heap.size (fun k_ => P1_ k_) (.slice A1 l1.length c1) l1) (hT : TabW w) (h : impl_TraceComponents.f k a0_0 l0_1 l1 = some (r1, r2)) :
  Calls Tryd.prog 19 #[.agg #[.int .i64 a0_0, .slice A0_1 l0_1.length c0_1], .slice A1 l1.length c1] w fun e w' => ∃ v0_ : Value, e = .returned (.tuple #[v0_, .int .i64 r2]) ∧ Kd.S (Kd.slice 2 (Kd.int .i64)) 22 w' w.heap.size (fun k_ => (w.heap.size ≤ k_)) v0_ r1 ∧ Below w.heap.size w w' := by
 have hu29 := Tryd.underlying29
 have HT := zA hT
 clear hT
 have HO0_1 := zA (show Kd.V (Kd.int .i64) 2 w w.heap.size (fun k_ => ((P0_1_ k_ ∨ P1_ k_) ∨ w.heap.size ≤ k_)) (.slice A0_1 l0_1.length c0_1) l0_1 from kN hs0_1 (fun k_ hk => .inl (.inl hk)))
 have HO1 := zA (show Kd.V (Kd.int .i64) 2 w w.heap.size (fun k_ => ((P0_1_ k_ ∨ P1_ k_) ∨ w.heap.size ≤ k_)) (.slice A1 l1.length c1) l1 from kN hs1 (fun k_ hk => .inl (.inr hk)))
 have HB := zA (kW w.heap.size w)
 have H := h
 unfold impl_TraceComponents.f at H
 clear h
 obtain ⟨y1421, hy1421⟩ : ∃ y_ : List (List Int), y_ = (([l1] : List (List Int))) := ⟨_, rfl⟩
 replace H : ((impl_checkWords.f k a0_0 l0_1 y1421).bind fun t1424 => (if t1424 = 0 then ((impl_Alphabet_ties.f a0_0 l0_1).bind fun t1425 => ((impl_ties_partsOf.f k t1425 l1).bind fun t1428 => (some (t1428, 0)))) else (some (([] : List (List Int)), t1424)))) = some (r1, r2) := zy hy1421 H
 have Ny1421 := zA hy1421
 clear hy1421
 obtain ⟨t1424, A3, H⟩ := zb H
 try dsimp only at H
 by_cases c4 : t1424 = 0
 ·rw [if_pos c4] at H
  obtain ⟨c4b0, c4b1⟩ := zT1 c4
  clear c4
  obtain ⟨t1425, A5, H⟩ := zb H
  try dsimp only at H
  obtain ⟨t1428, A6, H⟩ := zb H
  try dsimp only at H
  simp only [Option.some.injEq, Prod.mk.injEq] at H
  obtain ⟨rfl, rfl⟩ := H
  go_enter Tryd.func19, Tryd.ntmps19
  go_wp2_with (first | (refine zBE 2 #[.int .i64 a0_0, .slice A0_1 l0_1.length c0_1] 29 ?_; intro gb1420 hg w7 hbox hb; replace HO0_1 := zA (kG (jD (zPV HO0_1.out) gb1420 (Nat.le_of_eq hg.symm)) hb); replace HO1 := zA (kG (jD (zPV HO1.out) gb1420 (Nat.le_of_eq hg.symm)) hb); have BK1420 := zA (hbox); have GW1420 := zA (zBH hg HB.out); have GE1420 := zA (zBH hg HB.out); replace HB := zA (kQ (zQ HB.out) hb); clear hb hbox hg; obtain ⟨hcz8_0, hcz8_1, hfz8_0, hfz8_1⟩ := zB3 BK1420.out) | ((with_reducible refine kS (N := 9) rfl ?_); refine Kd.N_lit (Kd.slice 2 (Kd.int .i64)) _ 22 ?hg (N' := 9) ?hd (xs := ([l1] : List (List Int))) (inner := [.slice A1 l1.length c1]) (ok := (fun k_ => ((P0_1_ k_ ∨ P1_ k_) ∨ w.heap.size ≤ k_) ∧ k_ ≠ gb1420)) (okp := (fun k_ => ((P0_1_ k_ ∨ P1_ k_) ∨ w.heap.size ≤ k_) ∧ k_ ≠ gb1420)) ?hr ?hp (fun _ hk => hk) ((show ∀ k_ : Nat, (_ : Nat) ≤ k_ → (fun k_ => ((P0_1_ k_ ∨ P1_ k_) ∨ w.heap.size ≤ k_) ∧ k_ ≠ gb1420) k_ from fun k_ hk => ⟨(.inr (Nat.le_trans (kP (zT HB.out GE1420.out)) hk)), jE (g := gb1420) (o := .cells #[.int .i64 a0_0, .slice A0_1 l0_1.length c0_1] 29 (0, 0)) (zR BK1420.out) k_ hk⟩) _ (Nat.le_refl _)) (kW _ _) (Nat.le_refl _) (by simp) ?_; (case hd => rfl); (case hg => rfl); (case hr => first | (go_simp; done) | (go_simp; rfl)); (case hp => exact (Reps.one (show Kd.FK (Kd.slice 2 (Kd.int .i64)) _ _ l1 [.slice A1 l1.length c1] from (zFK (kN (ok' := (fun k_ => ((P0_1_ k_ ∨ P1_ k_) ∨ w.heap.size ≤ k_) ∧ k_ ≠ gb1420)) (HO1.out) (fun k_ hk => ⟨hk.1, hk.2⟩)))) (Reps.none _ _))); intro v1422 w9 ho10 hb hg_ hnew_; clear hg_ hnew_; (first | rw [← Ny1421.out] at ho10 | (simp only [Int.reduceToNat] at ho10; rw [← Ny1421.out] at ho10)); replace HO0_1 := zA (kK (zPV HO0_1.out) (Kd.N_base ho10) hb); replace HO1 := zA (kK (zPV HO1.out) (Kd.N_base ho10) hb); have HO1423 := zA (jN ho10 (kP (zT HB.out GE1420.out))); replace BK1420 := zA (zB1 BK1420.out hb); replace HB := zA (kQ (zT HB.out GE1420.out) hb); clear hb ho10; obtain ⟨Ao11, co11, eo11⟩ := Kd.N_slice HO1423.out; subst eo11) | (refine zO (some 10) Tryd.func76 #[.agg #[.int .i64 a0_0, .slice A0_1 l0_1.length c0_1], .slice Ao11 y1421.length co11] ?_; (with_reducible refine (impl_checkWords.calls k a0_0 _ _ l0_1 _ _ y1421 t1424 _ ?side1 ?side2 ?side3 ?side4 ?side5 A3.out).mono ?_); (case side1 => exact zS (kJ HO0_1.out).2.2); (case side2 => exact (kJ HO0_1.out).2.1); (case side3 => exact zS (Kd.N_reads' HO1423.out).2.2); (case side4 => exact (Kd.N_reads' HO1423.out).2.1); (case side5 => exact TabW.below HT.out (zT HB.out GE1420.out)); rintro e w12 ⟨rfl, hb⟩; refine ⟨_, rfl, ?_⟩; replace HO0_1 := zA (kG (zPV HO0_1.out) hb); replace HO1 := zA (kG (zPV HO1.out) hb); replace HO1423 := zA (kZ (zPN HO1423.out) hb); replace BK1420 := zA (zB1 BK1420.out hb); replace HB := zA (kQ (zT HB.out GE1420.out) hb); (try clear hb); obtain ⟨hcz13_0, hcz13_1, hfz13_0, hfz13_1⟩ := zB3 BK1420.out) | (refine zO (some 15) Tryd.func77 #[.agg #[.int .i64 a0_0, .slice A0_1 l0_1.length c0_1]] ?_; (with_reducible refine (impl_Alphabet_ties.calls a0_0 (fun k_ => ((((P0_1_ k_ ∨ P1_ k_) ∨ w.heap.size ≤ k_) ∧ k_ ≠ gb1420) ∧ some k_ ≠ (.slice Ao11 y1421.length co11 : Value).ownBlock)) _ _ l0_1 t1425 _ ?side1 A5.out).mono ?_); (case side1 => exact HO0_1.out); rintro e w14 ⟨v1426, rfl, ho0, hb⟩; refine ⟨_, rfl, ?_⟩; replace HO0_1 := zA (kG (zPV HO0_1.out) hb); replace HO1 := zA (kG (zPV HO1.out) hb); have HO1427 := zA (jM (kN (ok' := fun k_ => ((P0_1_ k_ ∨ P1_ k_) ∨ w.heap.size ≤ k_) ∧ some k_ ≠ (.slice Ao11 y1421.length co11 : Value).ownBlock ∧ k_ ≠ gb1420) ho0 (fun k_ hk_ => ⟨Or.elim hk_ (fun hs_ => hs_.1.1) (fun hn_ => (.inr (Nat.le_trans (kP (zT HB.out GE1420.out)) hn_))), Or.elim hk_ (fun hs_ => hs_.2) (fun hn_ => (jF (jA (zPN HO1423.out)) k_ hn_)), Or.elim hk_ (fun hs_ => hs_.1.2) (fun hn_ => (jE (g := gb1420) (o := .cells #[.int .i64 a0_0, .slice A0_1 l0_1.length c0_1] 29 (0, 0)) (zR BK1420.out) k_ hn_))⟩)) (kP (zT HB.out GE1420.out))); replace HO1423 := zA (kZ (zPN HO1423.out) hb); replace BK1420 := zA (zB1 BK1420.out hb); replace HB := zA (kQ (zT HB.out GE1420.out) hb); (try clear hb); (try clear ho0); obtain ⟨Ao15, co15, eo15⟩ := Kd.V_slice HO1427.out; subst eo15) | (refine zO (some 17) Tryd.func78 #[.slice Ao15 t1425.length co15, .slice A1 l1.length c1] ?_; (with_reducible refine (impl_ties_partsOf.calls k _ _ t1425 _ _ l1 t1428 _ ?side1 ?side2 ?side3 ?side4 ?side5 A6.out).mono ?_); (case side1 => exact zS (kJ HO1427.out).2.2); (case side2 => exact (kJ HO1427.out).2.1); (case side3 => exact zS (kJ HO1.out).2.2); (case side4 => exact (kJ HO1.out).2.1); (case side5 => exact TabW.below HT.out (zT HB.out GE1420.out)); rintro e w16 ⟨v1429, rfl, ho0, hb⟩; refine ⟨_, rfl, ?_⟩; replace HO0_1 := zA (kK (zPV HO0_1.out) (Kd.S_base ho0) hb); replace HO1 := zA (kK (zPV HO1.out) (Kd.S_base ho0) hb); replace HO1427 := zA (kK (zPV HO1427.out) (Kd.S_base ho0) hb); have HO1430 := zA (Kd.S_lower (Kd.S_new' (Kd.S_newM (M := fun k_ => (w.heap.size ≤ k_)) ho0 (kP (zT HB.out GE1420.out)) (fun k_ h_ => h_)) (jA (zPN HO1423.out))) (kP (zT HB.out GE1420.out))); replace HO1423 := zA (Kd.N_elder' (zPN HO1423.out) (Kd.S_base ho0) hb); replace BK1420 := zA (zB1 BK1420.out hb); replace HB := zA (kQ (zT HB.out GE1420.out) hb); (try clear hb); (try clear ho0)))
  go_ret2
  exact ⟨_, zr, by (with_reducible repeat (first | apply Kd.S_alloc | apply Kd.S_drewN | apply Kd.S_drew)); exact Kd.S_mono HO1430.out (fun _ hk => hk.1.1), zT HB.out GE1420.out⟩
 rw [if_neg c4] at H
 obtain ⟨c4b0, c4b1⟩ := zT2 c4
 simp only [Option.some.injEq, Prod.mk.injEq] at H
 obtain ⟨rfl, rfl⟩ := H
 go_enter Tryd.func19, Tryd.ntmps19
 go_wp2_with (first | (refine zBE 2 #[.int .i64 a0_0, .slice A0_1 l0_1.length c0_1] 29 ?_; intro gb1420 hg w17 hbox hb; replace HO0_1 := zA (kG (jD (zPV HO0_1.out) gb1420 (Nat.le_of_eq hg.symm)) hb); replace HO1 := zA (kG (jD (zPV HO1.out) gb1420 (Nat.le_of_eq hg.symm)) hb); have BK1420 := zA (hbox); have GW1420 := zA (zBH hg HB.out); have GE1420 := zA (zBH hg HB.out); replace HB := zA (kQ (zQ HB.out) hb); clear hb hbox hg; obtain ⟨hcz18_0, hcz18_1, hfz18_0, hfz18_1⟩ := zB3 BK1420.out) | ((with_reducible refine kS (N := 9) rfl ?_); refine Kd.N_lit (Kd.slice 2 (Kd.int .i64)) _ 22 ?hg (N' := 9) ?hd (xs := ([l1] : List (List Int))) (inner := [.slice A1 l1.length c1]) (ok := (fun k_ => ((P0_1_ k_ ∨ P1_ k_) ∨ w.heap.size ≤ k_) ∧ k_ ≠ gb1420)) (okp := (fun k_ => ((P0_1_ k_ ∨ P1_ k_) ∨ w.heap.size ≤ k_) ∧ k_ ≠ gb1420)) ?hr ?hp (fun _ hk => hk) ((show ∀ k_ : Nat, (_ : Nat) ≤ k_ → (fun k_ => ((P0_1_ k_ ∨ P1_ k_) ∨ w.heap.size ≤ k_) ∧ k_ ≠ gb1420) k_ from fun k_ hk => ⟨(.inr (Nat.le_trans (kP (zT HB.out GE1420.out)) hk)), jE (g := gb1420) (o := .cells #[.int .i64 a0_0, .slice A0_1 l0_1.length c0_1] 29 (0, 0)) (zR BK1420.out) k_ hk⟩) _ (Nat.le_refl _)) (kW _ _) (Nat.le_refl _) (by simp) ?_; (case hd => rfl); (case hg => rfl); (case hr => first | (go_simp; done) | (go_simp; rfl)); (case hp => exact (Reps.one (show Kd.FK (Kd.slice 2 (Kd.int .i64)) _ _ l1 [.slice A1 l1.length c1] from (zFK (kN (ok' := (fun k_ => ((P0_1_ k_ ∨ P1_ k_) ∨ w.heap.size ≤ k_) ∧ k_ ≠ gb1420)) (HO1.out) (fun k_ hk => ⟨hk.1, hk.2⟩)))) (Reps.none _ _))); intro v1422 w19 ho20 hb hg_ hnew_; clear hg_ hnew_; (first | rw [← Ny1421.out] at ho20 | (simp only [Int.reduceToNat] at ho20; rw [← Ny1421.out] at ho20)); replace HO0_1 := zA (kK (zPV HO0_1.out) (Kd.N_base ho20) hb); replace HO1 := zA (kK (zPV HO1.out) (Kd.N_base ho20) hb); have HO1423 := zA (jN ho20 (kP (zT HB.out GE1420.out))); replace BK1420 := zA (zB1 BK1420.out hb); replace HB := zA (kQ (zT HB.out GE1420.out) hb); clear hb ho20; obtain ⟨Ao21, co21, eo21⟩ := Kd.N_slice HO1423.out; subst eo21) | (refine zO (some 10) Tryd.func76 #[.agg #[.int .i64 a0_0, .slice A0_1 l0_1.length c0_1], .slice Ao21 y1421.length co21] ?_; (with_reducible refine (impl_checkWords.calls k a0_0 _ _ l0_1 _ _ y1421 t1424 _ ?side1 ?side2 ?side3 ?side4 ?side5 A3.out).mono ?_); (case side1 => exact zS (kJ HO0_1.out).2.2); (case side2 => exact (kJ HO0_1.out).2.1); (case side3 => exact zS (Kd.N_reads' HO1423.out).2.2); (case side4 => exact (Kd.N_reads' HO1423.out).2.1); (case side5 => exact TabW.below HT.out (zT HB.out GE1420.out)); rintro e w22 ⟨rfl, hb⟩; refine ⟨_, rfl, ?_⟩; replace HO0_1 := zA (kG (zPV HO0_1.out) hb); replace HO1 := zA (kG (zPV HO1.out) hb); replace HO1423 := zA (kZ (zPN HO1423.out) hb); replace BK1420 := zA (zB1 BK1420.out hb); replace HB := zA (kQ (zT HB.out GE1420.out) hb); (try clear hb)))
 go_ret2
 exact ⟨_, zr, by first | exact Kd.S_nil _ _ _ _ _ | exact Kd.N_nil _ _ _ _ _ | exact Kd.V_nil _ _ _ _ _ | exact Kd.Q_nil _ _ _ _ _ | exact jO _ _ _ _ _, zT HB.out GE1420.out⟩

end Go.Proofs.YthgapkbkhoeleaaDoor.PAll
