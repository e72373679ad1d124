-- Printed by a program of the session (wip/tools/pgen.py) out of the translation. Not trusted: Lean checks it.
import Derived.Test.YtfnnnopbcdiibaaDoorPAllx0
import Derived.Test.YtfnnnopbcdiibaaDoorPAllx1
import Derived.Test.YtfnnnopbcdiibaaDoorPAllx15
namespace Go.Proofs.YtfnnnopbcdiibaaDoor.PAll
open Go.RowKit Go.Proofs.YtfnnnopbcdiibaaDoor.T Go.Proofs.YtfnnnopbcdiibaaDoorW.PrintWords Go.Proofs.YtfnnnopbcdiibaaDoorW.PrintLast Go.Proofs.YtfnnnopbcdiibaaDoorW.PrintMore
attribute [local go_sem] max2_int min2_int max_two min_two max_three min_three max_four min_four   -- for this text's walks alone
set_option linter.unusedVariables false
set_option linter.unusedSimpArgs false

/-! ### spec_l06Code: function 99 -/
def spec_l06Code.f (k : Nat) (a0_0 : Int) (l0_1 : List Int) (a1 : Int) : Option (Int) := (spec_l02Is.f k a0_0 l0_1).bind fun t1650 => (if t1650 = true then ((spec_l01In.f a1 0 24).bind fun t1651 => (if t1651 = true then (some 0) else (some 2))) else (some 1))

set_option maxHeartbeats 8000000 in
set_option maxRecDepth 100000 in
theorem spec_l06Code.calls (k : Nat) (a0_0 : Int) (A0_1 : Option Addr) (c0_1 : Nat) (l0_1 : List Int) (a1 : Int) (r : Int) (w : World) (hr0_1 : Kd.C (Kd.int .i64) w A0_1 l0_1.length l0_1) (hc0_1 : l0_1.length ≤ c0_1) (h : spec_l06Code.f k a0_0 l0_1 a1 = some r) :
  Calls Tryd.prog 99 #[.agg #[.int .i64 a0_0, .slice A0_1 l0_1.length c0_1], .int .i64 a1] w fun e w' => e = .returned (.int .i64 r) ∧ Below w.heap.size w w' := by
 have hu28 := Tryd.underlying28
 have HR0_1 := zA hr0_1
 have HC0_1 := zA hc0_1
 clear hr0_1 hc0_1
 have HB := zA (kW w.heap.size w)
 have H := h
 unfold spec_l06Code.f at H
 clear h
 obtain ⟨t1650, A3, H⟩ := zb H
 try dsimp only at H
 by_cases c4 : t1650 = true
 ·subst c4
  rw [if_pos rfl] at H
  obtain ⟨t1651, A5, H⟩ := zb H
  try dsimp only at H
  by_cases c6 : t1651 = true
  ·subst c6
   rw [if_pos rfl] at H
   obtain rfl := Option.some.inj H
   go_enter Tryd.func99, Tryd.ntmps99
   go_wp2_with (first | (refine zBE 2 #[.int .i64 a0_0, .slice A0_1 l0_1.length c0_1] 28 ?_; intro gb1649 hg w7 hbox hb; have BK1649 := zA (hbox); have GW1649 := zA (zBH hg HB.out); have GE1649 := zA (zBH hg HB.out); replace HB := zA (kQ (zQ HB.out) hb); clear hb hbox hg; obtain ⟨hcz8_0, hcz8_1, hfz8_0, hfz8_1⟩ := zB3 BK1649.out) | (refine zO (some 6) Tryd.func83 #[.agg #[.int .i64 a0_0, .slice A0_1 l0_1.length c0_1]] ?_; (with_reducible refine (spec_l02Is.calls k a0_0 _ _ l0_1 true _ ?side1 ?side2 A3.out).mono ?_); (case side1 => exact zS (kO HR0_1.out HB.out)); (case side2 => exact HC0_1.out); rintro e w9 ⟨rfl, hb⟩; refine ⟨_, rfl, ?_⟩; replace BK1649 := zA (zB1 BK1649.out hb); replace HB := zA (kQ (zT HB.out GE1649.out) hb); (try clear hb)) | (refine zO (some 9) Tryd.func54 #[.int .i64 a1, .int .i64 0, .int .i64 24] ?_; (with_reducible refine (spec_l01In.calls a1 0 24 true _ A5.out).mono ?_); rintro e w' ⟨rfl, ⟨nd, rfl⟩⟩; refine ⟨_, rfl, ?_⟩))
   go_ret
   exact ⟨zr, zT HB.out GE1649.out⟩
  replace c6 := Bool.eq_false_iff.mpr c6
  subst c6
  rw [if_neg (show ¬ (false = true) by decide)] at H
  obtain rfl := Option.some.inj H
  go_enter Tryd.func99, Tryd.ntmps99
  go_wp2_with (first | (refine zBE 2 #[.int .i64 a0_0, .slice A0_1 l0_1.length c0_1] 28 ?_; intro gb1649 hg w10 hbox hb; have BK1649 := zA (hbox); have GW1649 := zA (zBH hg HB.out); have GE1649 := zA (zBH hg HB.out); replace HB := zA (kQ (zQ HB.out) hb); clear hb hbox hg; obtain ⟨hcz11_0, hcz11_1, hfz11_0, hfz11_1⟩ := zB3 BK1649.out) | (refine zO (some 6) Tryd.func83 #[.agg #[.int .i64 a0_0, .slice A0_1 l0_1.length c0_1]] ?_; (with_reducible refine (spec_l02Is.calls k a0_0 _ _ l0_1 true _ ?side1 ?side2 A3.out).mono ?_); (case side1 => exact zS (kO HR0_1.out HB.out)); (case side2 => exact HC0_1.out); rintro e w12 ⟨rfl, hb⟩; refine ⟨_, rfl, ?_⟩; replace BK1649 := zA (zB1 BK1649.out hb); replace HB := zA (kQ (zT HB.out GE1649.out) hb); (try clear hb)) | (refine zO (some 9) Tryd.func54 #[.int .i64 a1, .int .i64 0, .int .i64 24] ?_; (with_reducible refine (spec_l01In.calls a1 0 24 false _ A5.out).mono ?_); rintro e w' ⟨rfl, ⟨nd, rfl⟩⟩; refine ⟨_, rfl, ?_⟩))
  go_ret
  exact ⟨zr, zT HB.out GE1649.out⟩
 replace c4 := Bool.eq_false_iff.mpr c4
 subst c4
 rw [if_neg (show ¬ (false = true) by decide)] at H
 obtain rfl := Option.some.inj H
 go_enter Tryd.func99, Tryd.ntmps99
 go_wp2_with (first | (refine zBE 2 #[.int .i64 a0_0, .slice A0_1 l0_1.length c0_1] 28 ?_; intro gb1649 hg w13 hbox hb; have BK1649 := zA (hbox); have GW1649 := zA (zBH hg HB.out); have GE1649 := zA (zBH hg HB.out); replace HB := zA (kQ (zQ HB.out) hb); clear hb hbox hg; obtain ⟨hcz14_0, hcz14_1, hfz14_0, hfz14_1⟩ := zB3 BK1649.out) | (refine zO (some 6) Tryd.func83 #[.agg #[.int .i64 a0_0, .slice A0_1 l0_1.length c0_1]] ?_; (with_reducible refine (spec_l02Is.calls k a0_0 _ _ l0_1 false _ ?side1 ?side2 A3.out).mono ?_); (case side1 => exact zS (kO HR0_1.out HB.out)); (case side2 => exact HC0_1.out); rintro e w15 ⟨rfl, hb⟩; refine ⟨_, rfl, ?_⟩; replace BK1649 := zA (zB1 BK1649.out hb); replace HB := zA (kQ (zT HB.out GE1649.out) hb); (try clear hb)))
 go_ret
 exact ⟨zr, zT HB.out GE1649.out⟩

/-! ### spec_l06After: function 140 -/
def spec_l01Full_Bl06After.f (a0 : Int) : Option (Int) := spec_l01Full.f a0
theorem spec_l01Full_Bl06After.calls (a0 : Int) (r : Int) (w : World) (h : spec_l01Full_Bl06After.f a0 = some r) :
 Calls Tryd.prog 149 #[.int .i64 a0] w fun e w' => e = .returned (.int .i64 r) ∧ Below w.heap.size w w' := by
 refine (spec_l01Full.calls a0 r w h).mono ?_
 rintro e w' ⟨h1, h2⟩
 exact ⟨h1, Drawn0.below h2⟩
def spec_l06After.f (a0_0 : Int) (l0_1 : List Int) (a1 : Int) (a2 : Int) : Option (Int) := (spec_l01Full_Bl06After.f a2).bind fun t1653 => ((spec_l01Full_Bl06After.f a2).bind fun t1654 => (if 0 ≤ a2 then (if a2 < (l0_1.length : Int) then (some (wrap64 ((Go.bits .or .i64 a1 t1653) - (Go.bits .and .i64 (Go.bits .or .i64 a1 t1654) (rd l0_1 a2))))) else (none)) else (none)))
def spec_l06After.T1 : Bool × List (List Nat × List Nat) := (true, [([], []), ([], []), ([1], [1]), ([0, 2], [0, 2]), ([], []), ([], []), ([5, 2], [5]), ([4, 6], [4, 6]), ([], []), ([8], [8]), ([], []), ([9, 10], [9, 10]), ([11], [11]), ([7, 12], [7, 12]), ([3, 13], [3, 13]), ([14, 6, 0, 1, 2, 3, 4, 5, 6, 7, 8, 9, 10, 11, 12, 13, 14], [14])])
def spec_l06After.B1 : List Nat := [0, 0, 2, 7, 0, 0, 38, 118, 0, 256, 0, 1792, 3840, 8182, 16383, 32767]
theorem spec_l06After.tab1 : rtab .any (opsOf Tryd.f140 1) = spec_l06After.T1 := by kernel_rfl
theorem spec_l06After.bits1 : waitsOk spec_l06After.T1.2 spec_l06After.B1 = true := by kernel_rfl
set_option maxHeartbeats 8000000 in
set_option maxRecDepth 100000 in
theorem spec_l06After.calls (a0_0 : Int) (A0_1 : Option Addr) (c0_1 : Nat) (l0_1 : List Int) (a1 : Int) (a2 : Int) (r : Int) (w : World) (hr0_1 : Kd.C (Kd.int .i64) w A0_1 l0_1.length l0_1) (hc0_1 : l0_1.length ≤ c0_1) (h : spec_l06After.f a0_0 l0_1 a1 a2 = some r) :
  Calls Tryd.prog 140 #[.agg #[.int .i64 a0_0, .slice A0_1 l0_1.length c0_1], .int .i64 a1, .int .i64 a2] w fun e w' => e = .returned (.int .i64 r) ∧ Below w.heap.size w w' := by
 have hu28 := Tryd.underlying28
 have HR0_1 := zA hr0_1
 have HC0_1 := zA hc0_1
 clear hr0_1 hc0_1
 have HB := zA (kW w.heap.size w)
 have H := h
 unfold spec_l06After.f at H
 clear h
 obtain ⟨t1653, A4, H⟩ := zb H
 try dsimp only at H
 obtain ⟨t1654, A5, H⟩ := zb H
 try dsimp only at H
 by_cases c6 : 0 ≤ a2
 ·rw [if_pos c6] at H
  have c6b0 : decide (0 ≤ a2) = true := decide_eq_true c6
  clear c6
  by_cases c7 : a2 < (l0_1.length : Int)
  ·rw [if_pos c7] at H
   have c7b0 : decide (a2 < (l0_1.length : Int)) = true := decide_eq_true c7
   clear c7
   obtain rfl := Option.some.inj H
   go_enter Tryd.func140, Tryd.ntmps140
   try go_wp2_with (first | (refine zBE 3 #[.int .i64 a0_0, .slice A0_1 l0_1.length c0_1] 28 ?_; intro gb1652 hg w8 hbox hb; have BK1652 := zA (hbox); have GW1652 := zA (zBH hg HB.out); have GE1652 := zA (zBH hg HB.out); replace HB := zA (kQ (zQ HB.out) hb); clear hb hbox hg))
   replace BK1652 := zA (zK BK1652.out)
   replace HB := zA (zD HB.out)
   have p1655 : 0 ≤ (a2 : Int) := zd
   have q1655 : a2 < (l0_1.length : Int) := zd
   obtain ⟨ad1655, e1655, hx1655_0⟩ := Kd.at_int HR0_1.out a2 p1655 q1655
   have hw1655_0 := hx1655_0
   cases e1655
   replace hx1655_0 := (HB.out.cell (jG w _ hx1655_0)).trans hx1655_0
   replace p1655 := eq_true p1655
   replace q1655 := eq_true q1655
   refine start_ (n := 16) (S := fun w' => w'.cell? ⟨gb1652, 0, none⟩ = some (.int .i64 a0_0) ∧ w'.cell? ⟨gb1652, 1, none⟩ = some (.slice (some ad1655) l0_1.length c0_1) ∧ w'.cell? (ad1655.add (a2).toNat) = some (.int .i64 (rd l0_1 a2))) (ds := []) #[false, false, false, false, false, false, false, false, false, false, false, false, false, false, false, false] (by kernel_rfl) rfl rfl ⟨(kV BK1652.out 0).trans rfl, (kV BK1652.out 1).trans rfl, (pw_cell_below HB.out hw1655_0)⟩ (fun hHeld => ?_); refine with_tabW spec_l06After.tab1 spec_l06After.bits1 (fun HT_ HW_ => ?_)
   generalize w8.drew = w9 at BK1652 HB hx1655_0 hHeld ⊢
   refine zp 0 (some 7) #[true, false, false, false, false, false, false, false, false, false, false, false, false, false, false, false] HT_.out ?_
   refine zp 1 (some 8) #[true, true, false, false, false, false, false, false, false, false, false, false, false, false, false, false] HT_.out ?_
   refine zp 4 (some 11) #[true, true, false, false, true, false, false, false, false, false, false, false, false, false, false, false] HT_.out ?_
   refine zp 5 (some 12) #[true, true, false, false, true, true, false, false, false, false, false, false, false, false, false, false] HT_.out ?_
   refine zp 8 (some 15) #[true, true, false, false, true, true, false, false, true, false, false, false, false, false, false, false] HT_.out ?_
   refine zp 10 (some 17) #[true, true, false, false, true, true, false, false, true, false, true, false, false, false, false, false] HT_.out ?_
   refine ze 9 (some 16) #[true, true, false, false, true, true, false, false, true, true, true, false, false, false, false, false] HT_.out HW_.out hHeld ?_
   refine zp 11 (some 18) #[true, true, false, false, true, true, false, false, true, true, true, true, false, false, false, false] HT_.out ?_
   refine ze 12 (some 19) #[true, true, false, false, true, true, false, false, true, true, true, true, true, false, false, false] HT_.out HW_.out hHeld ?_
   refine one_ (i := 2) (N := some 9) #[true, true, true, false, true, true, false, false, true, true, true, true, true, false, false, false] rfl rfl (one_of HT_.out (by kernel_rfl)) (by decide) (fun K hK => ?_)
   refine goes_ Tryd.func149 (by kernel_rfl) rfl #[.int .i64 a2] (by rfl) rfl rfl zg ?_
   with_reducible refine (spec_l01Full_Bl06After.calls a2 t1653 _ A4.out).mono ?_
   rintro e w10 ⟨rfl, hb⟩
   refine ⟨_, rfl, ?_⟩
   replace BK1652 := zA (zB1 BK1652.out hb)
   replace HB := zA (kQ (zT HB.out GE1652.out) hb)
   (try clear hb)
   (try clear hb2)
   (try clear hk)
   (try clear hi)
   (try clear hgw)
   refine hK.out _ _ ⟨(kV BK1652.out 0).trans rfl, (kV BK1652.out 1).trans rfl, (pw_cell_below HB.out hw1655_0)⟩ (fun hHeld => ?_)
   clear hK K
   refine norm_ (a' := ?_) ?_ ?_
   rotate_left
   ·show Act.put _ (some 9) _ = _
    simp only [Act.put, zL, zM, zN, i64_w, i32_w]
    rfl
   refine zp 3 (some 10) #[true, true, true, true, true, true, false, false, true, true, true, true, true, false, false, false] HT_.out ?_
   refine one_ (i := 6) (N := some 13) #[true, true, true, true, true, true, true, false, true, true, true, true, true, false, false, false] rfl rfl (one_of HT_.out (by kernel_rfl)) (by decide) (fun K hK => ?_)
   refine goes_ Tryd.func149 (by kernel_rfl) rfl #[.int .i64 a2] (by rfl) rfl rfl zg ?_
   with_reducible refine (spec_l01Full_Bl06After.calls a2 t1654 _ A5.out).mono ?_
   rintro e w11 ⟨rfl, hb⟩
   refine ⟨_, rfl, ?_⟩
   replace BK1652 := zA (zB1 BK1652.out hb)
   replace HB := zA (kQ (zT HB.out GE1652.out) hb)
   (try clear hb)
   (try clear hb2)
   (try clear hk)
   (try clear hi)
   (try clear hgw)
   refine hK.out _ _ ⟨(kV BK1652.out 0).trans rfl, (kV BK1652.out 1).trans rfl, (pw_cell_below HB.out hw1655_0)⟩ (fun hHeld => ?_)
   clear hK K
   refine norm_ (a' := ?_) ?_ ?_
   rotate_left
   ·show Act.put _ (some 13) _ = _
    simp only [Act.put, zL, zM, zN, i64_w, i32_w]
    rfl
   refine zp 7 (some 14) #[true, true, true, true, true, true, true, true, true, true, true, true, true, false, false, false] HT_.out ?_
   refine zp 13 (some 20) #[true, true, true, true, true, true, true, true, true, true, true, true, true, true, false, false] HT_.out ?_
   refine zp 14 (some 21) #[true, true, true, true, true, true, true, true, true, true, true, true, true, true, true, false] HT_.out ?_
   refine zp 15 (some 6) #[true, true, true, true, true, true, true, true, true, true, true, true, true, true, true, true] HT_.out ?_
   refine done_ (done_of HT_.out (by kernel_rfl)) ?_
   try go_wp2
   go_ret
   exact ⟨zr, zT HB.out GE1652.out⟩
  rw [if_neg c7] at H
  exact absurd H (by simp)
 rw [if_neg c6] at H
 exact absurd H (by simp)

/-! ### spec_l06Tails: function 101 -/
mutual
def spec_l06Tails.l0 : Nat → Int → Int → List Int → Int → Int → List Int → Option ((List (List Int)))
 | 0, _, _, _, _, _, _ => none
 | k + 1, x1, x5, x6, x7, x1657000, x1657001 => if x7 < x5 then (if x6.length < 17592186044416 then (spec_l06Tails.l0 k x1 x5 (x6 ++ [1]) (wrap64 (x7 + 1)) x1657000 x1657001) else (none)) else (spec_l06Tails.l1 k x1 x5 (([x6] : List (List Int))) 1 x1657000 x1657001)
def spec_l06Tails.l1 : Nat → Int → Int → List (List Int) → Int → Int → List Int → Option ((List (List Int)))
 | 0, _, _, _, _, _, _ => none
 | k + 1, x1, x5, x8, x9, x1657000, x1657001 => if x9 ≤ x1 then (spec_l06Tails.l2 k x1 x5 x8 x9 (([] : List Int)) 0 x1657000 x1657001) else (some x8)
def spec_l06Tails.l2 : Nat → Int → Int → List (List Int) → Int → List Int → Int → Int → List Int → Option ((List (List Int)))
 | 0, _, _, _, _, _, _, _, _ => none
 | k + 1, x1, x5, x8, x9, x10, x11, x1657000, x1657001 => if x11 < x5 then (spec_l06Tails.l3 k x1 x5 x8 x9 x10 x11 0 0 x1657000 x1657001) else (if x8.length < 5864062014805 then (spec_l06Tails.l1 k x1 x5 (x8 ++ [x10]) (wrap64 (x9 + 1)) x1657000 x1657001) else (none))
def spec_l06Tails.l3 : Nat → Int → Int → List (List Int) → Int → List Int → Int → Int → Int → Int → List Int → Option ((List (List Int)))
 | 0, _, _, _, _, _, _, _, _, _, _ => none
 | k + 1, x1, x5, x8, x9, x10, x11, x12, x13, x1657000, x1657001 => if x13 < x1657000 then ((spec_l01Bit.f x11 x13).bind fun t1679 => (if t1679 = true then (spec_l06Tails.l3 k x1 x5 x8 x9 x10 x11 x12 (wrap64 (x13 + 1)) x1657000 x1657001) else (if 0 ≤ (wrap64 (x9 - 1)) then (if (wrap64 (x9 - 1)) < (x8.length : Int) then ((spec_l06After.f x1657000 x1657001 x11 x13).bind fun t1681 => (if 0 ≤ t1681 then (if t1681 < ((rd_L1 x8 (wrap64 (x9 - 1))).length : Int) then (spec_l06Tails.l3 k x1 x5 x8 x9 x10 x11 (wrap64 (x12 + (rd (rd_L1 x8 (wrap64 (x9 - 1))) t1681))) (wrap64 (x13 + 1)) x1657000 x1657001) else (none)) else (none))) else (none)) else (none)))) else (if x12 > 1000000000000000 then (if x10.length < 17592186044416 then (spec_l06Tails.l2 k x1 x5 x8 x9 (x10 ++ [1000000000000001]) (wrap64 (x11 + 1)) x1657000 x1657001) else (none)) else (if x10.length < 17592186044416 then (spec_l06Tails.l2 k x1 x5 x8 x9 (x10 ++ [x12]) (wrap64 (x11 + 1)) x1657000 x1657001) else (none)))
end
def spec_l06Tails.f (k : Nat) (a0_0 : Int) (l0_1 : List Int) (a1 : Int) : Option ((List (List Int))) := (spec_l01One.f a0_0).bind fun t1657 => (spec_l06Tails.l0 k a1 t1657 (([] : List Int)) 0 a0_0 l0_1)

def spec_l06Tails.T20 : Bool × List (List Nat × List Nat) := (true, [([], []), ([], []), ([], []), ([2], [2]), ([1, 3], [1, 3]), ([4], [4]), ([], []), ([], []), ([], []), ([6, 7, 8], [6, 7, 8]), ([5, 9], [5, 9]), ([10], [10]), ([0, 11], [0, 11]), ([12, 9, 0, 1, 2, 3, 4, 5, 6, 7, 8, 9, 10, 11, 12], [0, 12])])
def spec_l06Tails.B20 : List Nat := [0, 0, 0, 4, 14, 30, 0, 0, 0, 448, 1022, 2046, 4095, 8191]
theorem spec_l06Tails.tab20 : rtab .any (opsOf Tryd.f101 20) = spec_l06Tails.T20 := by kernel_rfl
theorem spec_l06Tails.bits20 : waitsOk spec_l06Tails.T20.2 spec_l06Tails.B20 = true := by kernel_rfl
set_option maxHeartbeats 8000000 in
set_option maxRecDepth 100000 in
theorem spec_l06Tails.calls (k : Nat) (a0_0 : Int) (A0_1 : Option Addr) (c0_1 : Nat) (l0_1 : List Int) (a1 : Int) (r : List (List Int)) (w : World) (hr0_1 : Kd.C (Kd.int .i64) w A0_1 l0_1.length l0_1) (hc0_1 : l0_1.length ≤ c0_1) (h : spec_l06Tails.f k a0_0 l0_1 a1 = some r) :
  Calls Tryd.prog 101 #[.agg #[.int .i64 a0_0, .slice A0_1 l0_1.length c0_1], .int .i64 a1] w fun e w' => ∃ v0_ : Value, e = .returned (v0_) ∧ Kd.N (Kd.slice 2 (Kd.int .i64)) 22 w' w.heap.size (fun k_ => (w.heap.size ≤ k_)) v0_ r ∧ Below w.heap.size w w' := by
 have hu28 := Tryd.underlying28
 have HR0_1 := zA hr0_1
 have HC0_1 := zA hc0_1
 clear hr0_1 hc0_1
 have HB := zA (kW w.heap.size w)
 have H := h
 unfold spec_l06Tails.f at H
 clear h
 obtain ⟨t1657, A3, H⟩ := zb H
 try dsimp only at H
 obtain ⟨y1658, hy1658⟩ : ∃ y_ : List Int, y_ = (([] : List Int)) := ⟨_, rfl⟩
 replace H : (spec_l06Tails.l0 k a1 t1657 y1658 0 a0_0 l0_1) = some r := zy hy1658 H
 have Ny1658 := zA hy1658
 clear hy1658
 have H' := zA H
 clear H
 go_enter Tryd.func101, Tryd.ntmps101
 go_wp2_with (first | (refine zBE 2 #[.int .i64 a0_0, .slice A0_1 l0_1.length c0_1] 28 ?_; intro gb1656 hg w4 hbox hb; have BK1656 := zA (hbox); have GW1656 := zA (zBH hg HB.out); have GE1656 := zA (zBH hg HB.out); replace HB := zA (kQ (zQ HB.out) hb); clear hb hbox hg; obtain ⟨hcz5_0, hcz5_1, hfz5_0, hfz5_1⟩ := zB3 BK1656.out) | (refine zO (some 16) Tryd.func120 #[.int .i64 a0_0] ?_; (with_reducible refine (spec_l01One.calls a0_0 t1657 _ A3.out).mono ?_); rintro e w' ⟨rfl, ⟨nd, rfl⟩⟩; refine ⟨_, rfl, ?_⟩) | ((with_reducible refine kS (N := 17) rfl ?_); refine Kd.R_lit (Kd.int .i64) _ 2 ?hg (N := 17) ?hd (xs := ([] : List Int)) (inner := []) (ok := fun _ => True) (okp := fun _ => True) ?hr ?hp (fun _ hk => hk) trivial (kW _ _) (Nat.le_refl _) (by simp) ?_; (case hd => rfl); (case hg => rfl); (case hr => first | (go_simp; done) | (go_simp; rfl)); (case hp => exact (Reps.none _ _)); intro v1659 w6 ho7 hb hg_ hnew_; clear hg_ hnew_; (first | rw [← Ny1658.out] at ho7 | (simp only [Int.reduceToNat] at ho7; rw [← Ny1658.out] at ho7)); have HO1660 := zA (kI (Kd.R_newM (M := fun k_ => (w.heap.size ≤ k_)) ho7 (kP (zT HB.out GE1656.out)) (fun k_ h_ => h_)) (kP (zT HB.out GE1656.out))); replace BK1656 := zA (zB1 BK1656.out hb); replace HB := zA (kQ (zT HB.out GE1656.out) hb); clear hb ho7))
 go_loopg [6, 7] k (fun kq v6 v7 w' => ∃ (x6_1 : List Int) (x7_1 : Int), v7 = .int .i64 x7_1 ∧ Aside0 (spec_l06Tails.l0 kq a1 t1657 x6_1 x7_1 a0_0 l0_1 = some r) ∧ Aside0 (kq ≤ k) ∧ Aside0 (Kd.R (Kd.int .i64) 2 w' w.heap.size (fun k_ => (w.heap.size ≤ k_)) v6 x6_1) ∧ Aside0 (w'.heap[gb1656]? = some (.cells #[.int .i64 a0_0, (.slice A0_1 l0_1.length c0_1)] 28 (0, 0))) ∧ Aside0 (Below w.heap.size w w'))
 case atStart => exact ⟨(y1658), (0), zs, H', ⟨Nat.le_refl _⟩, ⟨zPM HO1660.out (fun _ hk => hk.1)⟩, ⟨zR BK1656.out⟩, ⟨zT HB.out GE1656.out⟩⟩
 case round =>
  clear H'
  try clear c1
  try clear hcz5_0
  try clear hcz5_1
  try clear hfz5_0
  try clear hfz5_1
  obtain ⟨x6_1, x7_1, rfl, HA, HK1, HO_6, BK1656, HB⟩ := hrel
  cases gk with
  | zero => exact absurd HA.out (by simp [spec_l06Tails.l0])
  | succ k1 =>
   have H := HA.out
   clear HA
   simp only [spec_l06Tails.l0] at H
   by_cases c8 : x7_1 < t1657
   ·rw [if_pos c8] at H
    have c8b0 : decide (x7_1 < t1657) = true := decide_eq_true c8
    clear c8
    by_cases c9 : x6_1.length < 17592186044416
    ·rw [if_pos c9] at H
     have LMc9 := zA c9
     clear c9
     obtain ⟨y1661, hy1661⟩ : ∃ y_ : List Int, y_ = (x6_1 ++ [1]) := ⟨_, rfl⟩
     replace H : (spec_l06Tails.l0 k1 a1 t1657 y1661 (wrap64 (x7_1 + 1)) a0_0 l0_1) = some r := zy hy1661 H
     have Ny1661 := zA hy1661
     clear hy1661
     have H' := zA H
     clear H
     go_wp2_with (first | ((with_reducible refine gate_builtin (b := .append) (xs := #[.tmp 23, .tmp 24]) rfl ?_); at_builtin; refine Kd.R_append (Kd.int .i64) (w0 := w) w.heap.size rfl (.tmp 23) (.tmp 24) 22 2 (.int .i64 0) 8 rfl Tryd.underlying22 info2 rfl (by decide) (by omega) u6 x6_1 1 [.int .i64 1] (fun k_ => (w.heap.size ≤ k_)) (fun _ => False) rfl rfl ?aP (fun _ hk => hk.elim) ?aF ?aO ?aB ?aS ?aL ?_; (case aP => exact rfl); (case aB => exact (zT HB.out GE1656.out)); (case aF => exact (fun k_ hk => (Nat.le_trans (kP (zT HB.out GE1656.out)) hk))); (case aO => exact (zP HO_6.out)); (case aS => exact (kP (zT HB.out GE1656.out))); (case aL => have := LMc9.out; omega); intro v1662 w10 ho hb hg hat; rw [← Ny1661.out] at ho; replace BK1656 := zA (blk_grown (g := gb1656) (o := .cells #[.int .i64 a0_0, .slice A0_1 l0_1.length c0_1] 28 (0, 0)) (zR BK1656.out) hg (Kd.R_ne HO_6.out BK1656.out (by decide))); replace HB := zA (hb); have HO1663 := zA (ho); clear HO_6; clear ho hb hg hat))
     go_roundg k1
     case measure => have := HK1.out; omega
     case rel => exact ⟨(y1661), (wrap64 (x7_1 + 1)), zs, H', ⟨by have := HK1.out; omega⟩, ⟨zP HO1663.out⟩, ⟨zR BK1656.out⟩, ⟨zT HB.out GE1656.out⟩⟩
    rw [if_neg c9] at H
    exact absurd H (by simp)
   rw [if_neg c8] at H
   have c8b0 : decide (x7_1 < t1657) = false := decide_eq_false c8
   clear c8
   obtain ⟨y1664, hy1664⟩ : ∃ y_ : List (List Int), y_ = (([x6_1] : List (List Int))) := ⟨_, rfl⟩
   replace H : (spec_l06Tails.l1 k1 a1 t1657 y1664 1 a0_0 l0_1) = some r := zy hy1664 H
   have Ny1664 := zA hy1664
   clear hy1664
   have H' := zA H
   clear H
   obtain ⟨Ao11, co11, eo11⟩ := kM HO_6.out
   subst eo11
   go_wp2_with (first | ((with_reducible refine kS (N := 27) rfl ?_); refine Kd.N_lit (Kd.slice 2 (Kd.int .i64)) _ 22 ?hg (N' := 27) ?hd (xs := ([x6_1] : List (List Int))) (inner := [.slice Ao11 x6_1.length co11]) (ok := (fun k_ => (w.heap.size ≤ k_) ∧ k_ ≠ gb1656)) (okp := (fun k_ => (w.heap.size ≤ k_) ∧ k_ ≠ gb1656)) ?hr ?hp (fun _ hk => hk) ((show ∀ k_ : Nat, (_ : Nat) ≤ k_ → (fun k_ => (w.heap.size ≤ k_) ∧ k_ ≠ gb1656) k_ from fun k_ hk => ⟨(Nat.le_trans (kP (zT HB.out GE1656.out)) hk), jE (g := gb1656) (o := .cells #[.int .i64 a0_0, .slice A0_1 l0_1.length c0_1] 28 (0, 0)) (zR BK1656.out) k_ hk⟩) _ (Nat.le_refl _)) (kW _ _) (Nat.le_refl _) (by simp) ?_; (case hd => rfl); (case hg => rfl); (case hr => first | (go_simp; done) | (go_simp; rfl)); (case hp => exact (Reps.one (show Kd.FK (Kd.slice 2 (Kd.int .i64)) _ _ x6_1 [.slice Ao11 x6_1.length co11] from (Kd.FK_slice_mk (kB (kA (ok' := (fun k_ => (w.heap.size ≤ k_) ∧ k_ ≠ gb1656)) (kD (HO_6.out) BK1656.out (by decide)) (fun k_ hk => ⟨hk.1, hk.2⟩))).2.1 (Kd.R_F (kA (ok' := (fun k_ => (w.heap.size ≤ k_) ∧ k_ ≠ gb1656)) (kD (HO_6.out) BK1656.out (by decide)) (fun k_ hk => ⟨hk.1, hk.2⟩))))) (Reps.none _ _))); intro v1665 w12 ho13 hb hg_ hnew_; clear hg_ hnew_; (first | rw [← Ny1664.out] at ho13 | (simp only [Int.reduceToNat] at ho13; rw [← Ny1664.out] at ho13)); have HO1666 := zA (jN ho13 (kP (zT HB.out GE1656.out))); replace BK1656 := zA (zB1 BK1656.out hb); replace HB := zA (kQ (zT HB.out GE1656.out) hb); clear HO_6; clear hb ho13))
   go_loopg [8, 9] k1 (fun kq v8 v9 w' => ∃ (x8_2 : List (List Int)) (x9_2 : Int), v9 = .int .i64 x9_2 ∧ Aside0 (spec_l06Tails.l1 kq a1 t1657 x8_2 x9_2 a0_0 l0_1 = some r) ∧ Aside0 (kq ≤ k1) ∧ Aside0 (Kd.N (Kd.slice 2 (Kd.int .i64)) 22 w' w.heap.size (fun k_ => (w.heap.size ≤ k_) ∧ k_ ≠ gb1656) v8 x8_2) ∧ Aside0 (w'.heap[gb1656]? = some (.cells #[.int .i64 a0_0, (.slice A0_1 l0_1.length c0_1)] 28 (0, 0))) ∧ Aside0 (Below w.heap.size w w'))
   case atStart => exact ⟨(y1664), (1), zs, H', ⟨Nat.le_refl _⟩, ⟨zPN HO1666.out⟩, ⟨zR BK1656.out⟩, ⟨zT HB.out GE1656.out⟩⟩
   case round =>
    clear H'
    try clear c1
    try clear c8
    try clear c9
    try clear c10
    try clear c12
    try clear hcz5_0
    try clear hcz5_1
    try clear hfz5_0
    try clear hfz5_1
    obtain ⟨x8_2, x9_2, rfl, HA, HK2, HO_8, BK1656, HB⟩ := hrel
    cases gk with
    | zero => exact absurd HA.out (by simp [spec_l06Tails.l1])
    | succ k2 =>
     have H := HA.out
     clear HA
     simp only [spec_l06Tails.l1] at H
     by_cases c14 : x9_2 ≤ a1
     ·rw [if_pos c14] at H
      have c14b0 : decide (x9_2 ≤ a1) = true := decide_eq_true c14
      clear c14
      obtain ⟨y1667, hy1667⟩ : ∃ y_ : List Int, y_ = (([] : List Int)) := ⟨_, rfl⟩
      replace H : (spec_l06Tails.l2 k2 a1 t1657 x8_2 x9_2 y1667 0 a0_0 l0_1) = some r := zy hy1667 H
      have Ny1667 := zA hy1667
      clear hy1667
      have H' := zA H
      clear H
      go_wp2_with (first | ((with_reducible refine kS (N := 33) rfl ?_); refine Kd.R_lit (Kd.int .i64) _ 2 ?hg (N := 33) ?hd (xs := ([] : List Int)) (inner := []) (ok := fun _ => True) (okp := fun _ => True) ?hr ?hp (fun _ hk => hk) trivial (kW _ _) (Nat.le_refl _) (by simp) ?_; (case hd => rfl); (case hg => rfl); (case hr => first | (go_simp; done) | (go_simp; rfl)); (case hp => exact (Reps.none _ _)); intro v1668 w15 ho16 hb hg_ hnew_; clear hg_ hnew_; (first | rw [← Ny1667.out] at ho16 | (simp only [Int.reduceToNat] at ho16; rw [← Ny1667.out] at ho16)); replace HO_8 := zA (Kd.N_elder' (zPN HO_8.out) (kC ho16) hb); have HO1669 := zA (kI (Kd.R_newM (M := fun k_ => (w.heap.size ≤ k_)) ho16 (kP (zT HB.out GE1656.out)) (fun k_ h_ => h_)) (kP (zT HB.out GE1656.out))); replace BK1656 := zA (zB1 BK1656.out hb); replace HB := zA (kQ (zT HB.out GE1656.out) hb); clear hb ho16))
      go_loopg [10, 11] k2 (fun kq v10 v11 w' => ∃ (x10_3 : List Int) (x11_3 : Int), v11 = .int .i64 x11_3 ∧ Aside0 (spec_l06Tails.l2 kq a1 t1657 x8_2 x9_2 x10_3 x11_3 a0_0 l0_1 = some r) ∧ Aside0 (kq ≤ k2) ∧ Aside0 (Kd.N (Kd.slice 2 (Kd.int .i64)) 22 w' w.heap.size (fun k_ => (w.heap.size ≤ k_) ∧ some k_ ≠ (v10 : Value).ownBlock ∧ k_ ≠ gb1656) u8 x8_2) ∧ Aside0 (Kd.R (Kd.int .i64) 2 w' w.heap.size (fun k_ => (w.heap.size ≤ k_)) v10 x10_3) ∧ Aside0 (w'.heap[gb1656]? = some (.cells #[.int .i64 a0_0, (.slice A0_1 l0_1.length c0_1)] 28 (0, 0))) ∧ Aside0 (Below w.heap.size w w'))
      case atStart => exact ⟨(y1667), (0), zs, H', ⟨Nat.le_refl _⟩, ⟨by (with_reducible repeat (first | apply Kd.N_alloc | apply Kd.N_drewN | apply Kd.N_drew)); exact Kd.N_mono HO_8.out (fun _ hk => ⟨hk.1.1, ⟨hk.2, hk.1.2⟩⟩)⟩, ⟨zPM HO1669.out (fun _ hk => hk.1)⟩, ⟨zR BK1656.out⟩, ⟨zT HB.out GE1656.out⟩⟩
      case round =>
       clear H'
       try clear c1
       try clear c8
       try clear c9
       try clear c10
       try clear c12
       try clear c14
       try clear hcz5_0
       try clear hcz5_1
       try clear hfz5_0
       try clear hfz5_1
       obtain ⟨x10_3, x11_3, rfl, HA, HK3, HO_8, HO_10, BK1656, HB⟩ := hrel
       cases gk with
       | zero => exact absurd HA.out (by simp [spec_l06Tails.l2])
       | succ k3 =>
        have H := HA.out
        clear HA
        simp only [spec_l06Tails.l2] at H
        by_cases c17 : x11_3 < t1657
        ·rw [if_pos c17] at H
         have c17b0 : decide (x11_3 < t1657) = true := decide_eq_true c17
         clear c17
         have H' := zA H
         clear H
         go_wp2
         go_loopg [12, 13] k3 (fun kq v12 v13 w' => ∃ (x12_4 : Int) (x13_4 : Int), v12 = .int .i64 x12_4 ∧ v13 = .int .i64 x13_4 ∧ Aside0 (spec_l06Tails.l3 kq a1 t1657 x8_2 x9_2 x10_3 x11_3 x12_4 x13_4 a0_0 l0_1 = some r) ∧ Aside0 (kq ≤ k3) ∧ Aside0 (Kd.N (Kd.slice 2 (Kd.int .i64)) 22 w' w.heap.size (fun k_ => (w.heap.size ≤ k_) ∧ some k_ ≠ (u10 : Value).ownBlock ∧ k_ ≠ gb1656) u8 x8_2) ∧ Aside0 (Kd.R (Kd.int .i64) 2 w' w.heap.size (fun k_ => (w.heap.size ≤ k_)) u10 x10_3) ∧ Aside0 (w'.heap[gb1656]? = some (.cells #[.int .i64 a0_0, (.slice A0_1 l0_1.length c0_1)] 28 (0, 0))) ∧ Aside0 (Below w.heap.size w w'))
         case atStart => exact ⟨(0), (0), zs, zs, H', ⟨Nat.le_refl _⟩, ⟨zPN HO_8.out⟩, ⟨zP HO_10.out⟩, ⟨zR BK1656.out⟩, ⟨zT HB.out GE1656.out⟩⟩
         case round =>
          clear H'
          try clear c1
          try clear c8
          try clear c9
          try clear c10
          try clear c12
          try clear c14
          try clear c17
          try clear hcz5_0
          try clear hcz5_1
          try clear hfz5_0
          try clear hfz5_1
          obtain ⟨x12_4, x13_4, rfl, rfl, HA, HK4, HO_8, HO_10, BK1656, HB⟩ := hrel
          cases gk with
          | zero => exact absurd HA.out (by simp [spec_l06Tails.l3])
          | succ k4 =>
           have H := HA.out
           clear HA
           simp only [spec_l06Tails.l3] at H
           by_cases c18 : x13_4 < a0_0
           ·rw [if_pos c18] at H
            have c18b0 : decide (x13_4 < a0_0) = true := decide_eq_true c18
            clear c18
            obtain ⟨t1679, A19, H⟩ := zb H
            try dsimp only at H
            by_cases c20 : t1679 = true
            ·subst c20
             rw [if_pos rfl] at H
             have H' := zA H
             clear H
             obtain ⟨hcz21_0, hcz21_1, hfz21_0, hfz21_1⟩ := zB3 BK1656.out
             go_wp2_with (first | (refine zO (some 47) Tryd.func63 #[.int .i64 x11_3, .int .i64 x13_4] ?_; (with_reducible refine (spec_l01Bit.calls x11_3 x13_4 true _ A19.out).mono ?_); rintro e w' ⟨rfl, ⟨nd, rfl⟩⟩; refine ⟨_, rfl, ?_⟩))
             go_roundg k4
             case measure => have := HK1.out; have := HK2.out; have := HK3.out; have := HK4.out; omega
             case rel => exact ⟨(x12_4), (wrap64 (x13_4 + 1)), zs, zs, H', ⟨by have := HK1.out; have := HK2.out; have := HK3.out; have := HK4.out; omega⟩, ⟨zPN HO_8.out⟩, ⟨zP HO_10.out⟩, ⟨zR BK1656.out⟩, ⟨zT HB.out GE1656.out⟩⟩
            replace c20 := Bool.eq_false_iff.mpr c20
            subst c20
            rw [if_neg (show ¬ (false = true) by decide)] at H
            obtain ⟨ji22, hji22⟩ : ∃ j_ : Int, (wrap64 (x9_2 - 1)) = j_ := ⟨_, rfl⟩
            replace H : (if 0 ≤ (ji22) then (if (ji22) < (x8_2.length : Int) then ((spec_l06After.f a0_0 l0_1 x11_3 x13_4).bind fun t1681 => (if 0 ≤ t1681 then (if t1681 < ((rd_L1 x8_2 (ji22)).length : Int) then (spec_l06Tails.l3 k4 a1 t1657 x8_2 x9_2 x10_3 x11_3 (wrap64 (x12_4 + (rd (rd_L1 x8_2 (ji22)) t1681))) (wrap64 (x13_4 + 1)) a0_0 l0_1) else (none)) else (none))) else (none)) else (none)) = some r := by first | (rw [hji22] at H; exact H) | (simp only [hji22] at H ⊢; exact H)
            (try rw [hji22] at A19)
            have hji22w : (IntKind.i64.wrap (x9_2 - 1)) = ji22 := (i64_w _).trans hji22
            by_cases c23 : 0 ≤ (ji22)
            ·rw [if_pos c23] at H
             have c23b0 : decide (0 ≤ (ji22)) = true := decide_eq_true c23
             clear c23
             by_cases c24 : (ji22) < (x8_2.length : Int)
             ·rw [if_pos c24] at H
              have c24b0 : decide ((ji22) < (x8_2.length : Int)) = true := decide_eq_true c24
              clear c24
              obtain ⟨t1681, A25, H⟩ := zb H
              try dsimp only at H
              by_cases c26 : 0 ≤ t1681
              ·rw [if_pos c26] at H
               have c26b0 : decide (0 ≤ t1681) = true := decide_eq_true c26
               clear c26
               by_cases c27 : t1681 < ((rd_L1 x8_2 (ji22)).length : Int)
               ·rw [if_pos c27] at H
                have c27b0 : decide (t1681 < ((rd_L1 x8_2 (ji22)).length : Int)) = true := decide_eq_true c27
                clear c27
                have H' := zA H
                clear H
                obtain ⟨hcz28_0, hcz28_1, hfz28_0, hfz28_1⟩ := zB3 BK1656.out
                try go_wp2_with (first | (refine zO (some 47) Tryd.func63 #[.int .i64 x11_3, .int .i64 x13_4] ?_; (with_reducible refine (spec_l01Bit.calls x11_3 x13_4 false _ A19.out).mono ?_); rintro e w' ⟨rfl, ⟨nd, rfl⟩⟩; refine ⟨_, rfl, ?_⟩))
                (try (rw [drewN_self wr]; generalize hq_ : World.drewN wr _ = wr; have n0_ : Aside0 (Kd.R (Kd.int .i64) 2 wr w.heap.size (fun k_ => (w.heap.size ≤ k_)) u10 x10_3) := ⟨by rw [← hq_]; exact (zP HO_10.out)⟩; have n1_ : Aside0 (Kd.N (Kd.slice 2 (Kd.int .i64)) 22 wr w.heap.size (fun k_ => (w.heap.size ≤ k_) ∧ some k_ ≠ (u10 : Value).ownBlock ∧ k_ ≠ gb1656) u8 x8_2) := ⟨by rw [← hq_]; exact (zPN HO_8.out)⟩; have n2_ : Aside0 (wr.heap[gb1656]? = some (.cells #[.int .i64 a0_0, .slice A0_1 l0_1.length c0_1] 28 (0, 0))) := ⟨by rw [← hq_]; exact (zR BK1656.out)⟩; have n3_ : Aside0 (Below w.heap.size w wr) := ⟨by rw [← hq_]; exact (zT HB.out GE1656.out)⟩; clear HO_10 HO_8 BK1656 HB hq_; have HO_10 := n0_; have HO_8 := n1_; have BK1656 := n2_; have HB := n3_; clear n0_ n1_ n2_ n3_))
                replace HO_8 := zA (Kd.N_drew HO_8.out)
                replace HO_10 := zA (zH HO_10.out)
                replace BK1656 := zA (zK BK1656.out)
                replace HB := zA (zD HB.out)
                obtain ⟨Ao30, co30, eo30⟩ := Kd.N_slice HO_8.out
                (first | subst eo30 | (injection eo30 with f1_ f2_ f3_; have f4_ := f1_.symm; have f5_ := f3_.symm; clear f1_ f2_ f3_; subst f4_; subst f5_))
                have p1680 : 0 ≤ ((ji22) : Int) := zd
                have q1680 : (ji22) < (x8_2.length : Int) := zd
                obtain ⟨ad1680, A1680_0, c1680_0, e1680, hx1680_0, hl1680_0, hi1680_0⟩ := at_L1 (Kd.N_reads' HO_8.out).2.2 (ji22) p1680 q1680
                cases e1680
                obtain ⟨ce1680, hce1680, hMe1680, hcc1680⟩ := Kd.N_get HO_8.out [] (ji22) p1680 (by first | exact q1680 | exact zd | (have e_ := (Kd.N_reads' HO_8.out).1; omega))
                obtain ⟨ua1680_0, uc1680_0, rfl, ul1680_0, ge1680_0⟩ := Kd.FK_slice_open hMe1680
                have hv1680_0 := hcc1680 0 _ rfl
                rw [Nat.add_zero, show ((Kd.slice 2 (Kd.int .i64))).sz = 1 from rfl, Nat.mul_one] at hv1680_0
                replace hv1680_0 := Option.some.inj (hv1680_0.symm.trans hx1680_0)
                injection hv1680_0 with hva_ hvn_ hvc_
                rw [hva_] at ge1680_0
                rw [hvc_] at ul1680_0
                have HL1680_0 := zA (show Kd.V (Kd.int .i64) 2 _ w.heap.size _ _ (rd_L1 x8_2 (ji22)) from Kd.V_mk ul1680_0 ge1680_0)
                clear hva_ hvn_ hvc_ ge1680_0 ul1680_0 hcc1680 hce1680
                have HR1680_0 := zA hi1680_0
                have HC1680_0 := zA hl1680_0
                clear hi1680_0 hl1680_0
                replace p1680 := eq_true p1680
                replace q1680 := eq_true q1680
                have p1682 : 0 ≤ (t1681 : Int) := zd
                have q1682 : t1681 < ((rd_L1 x8_2 (ji22)).length : Int) := zd
                obtain ⟨ad1682, e1682, hx1682_0⟩ := Kd.at_int (by repeat (first | (with_reducible exact HR1680_0.out) | (with_reducible refine Kd.C_alloc ?_ _) | (with_reducible refine Kd.C_drewN ?_ _) | (with_reducible refine Kd.C_drew ?_) | exact HR1680_0.out)) t1681 p1682 q1682
                cases e1682
                replace p1682 := eq_true p1682
                replace q1682 := eq_true q1682
                refine start_ (n := 14) (S := fun w' => w'.cell? ⟨gb1656, 0, none⟩ = some (.int .i64 a0_0) ∧ w'.cell? ⟨gb1656, 1, none⟩ = some (.slice A0_1 l0_1.length c0_1) ∧ w'.cell? (ad1680.add ((ji22)).toNat) = some (.slice (some ad1682) (rd_L1 x8_2 (ji22)).length c1680_0) ∧ w'.cell? (ad1682.add (t1681).toNat) = some (.int .i64 (rd (rd_L1 x8_2 (ji22)) t1681))) (ds := []) #[false, false, false, false, false, false, false, false, false, false, false, false, false, false] (by kernel_rfl) rfl rfl ⟨(kV BK1656.out 0).trans rfl, (kV BK1656.out 1).trans rfl, hx1680_0, hx1682_0⟩ (fun hHeld => ?_); refine with_tabW spec_l06Tails.tab20 spec_l06Tails.bits20 (fun HT_ HW_ => ?_)
                generalize wr.drew = w29 at HO_8 HO_10 BK1656 HB HL1680_0 HR1680_0 hx1680_0 hx1682_0 hHeld ⊢
                refine zp 0 (some 49) #[true, false, false, false, false, false, false, false, false, false, false, false, false, false] HT_.out ?_
                refine zp 1 (some 50) #[true, true, false, false, false, false, false, false, false, false, false, false, false, false] HT_.out ?_
                refine zp 2 (some 51) #[true, true, true, false, false, false, false, false, false, false, false, false, false, false] HT_.out ?_
                refine zp 3 (some 52) #[true, true, true, true, false, false, false, false, false, false, false, false, false, false] HT_.out ?_
                refine zp 4 (some 53) #[true, true, true, true, true, false, false, false, false, false, false, false, false, false] HT_.out ?_
                refine zp 7 (some 56) #[true, true, true, true, true, false, false, true, false, false, false, false, false, false] HT_.out ?_
                refine zp 8 (some 57) #[true, true, true, true, true, false, false, true, true, false, false, false, false, false] HT_.out ?_
                refine zf 5 (some 54) #[true, true, true, true, true, true, false, true, true, false, false, false, false, false] HT_.out HW_.out hHeld ?_
                refine zf 6 (some 55) #[true, true, true, true, true, true, true, true, true, false, false, false, false, false] HT_.out HW_.out hHeld ?_
                refine one_ (i := 9) (N := some 58) #[true, true, true, true, true, true, true, true, true, true, false, false, false, false] rfl rfl (one_of HT_.out (by kernel_rfl)) (by decide) (fun K hK => ?_)
                refine goes_ Tryd.func140 (by kernel_rfl) rfl #[.agg #[.int .i64 a0_0, .slice A0_1 l0_1.length c0_1], .int .i64 x11_3, .int .i64 x13_4] (by rfl) rfl rfl zg ?_
                with_reducible refine (spec_l06After.calls a0_0 _ _ l0_1 x11_3 x13_4 t1681 _ ?side1 ?side2 A25.out).mono ?_
                (case side1 => exact zS (kO HR0_1.out HB.out))
                (case side2 => exact HC0_1.out)
                rintro e w31 ⟨rfl, hb⟩
                have HS2_ := (hb.cell (jG _ _ (hHeld.2.2.1))).trans (hHeld.2.2.1)
                have HS3_ := (hb.cell (jG _ _ (hHeld.2.2.2))).trans (hHeld.2.2.2)
                refine ⟨_, rfl, ?_⟩
                replace HO_8 := zA (kZ (zPN HO_8.out) hb)
                replace HO_10 := zA (kL (zP HO_10.out) hb)
                replace HL1680_0 := zA (kG (zPV HL1680_0.out) hb)
                replace BK1656 := zA (zB1 BK1656.out hb)
                replace HR1680_0 := zA (kO (by repeat (first | (with_reducible exact HR1680_0.out) | (with_reducible refine Kd.C_alloc ?_ _) | (with_reducible refine Kd.C_drewN ?_ _) | (with_reducible refine Kd.C_drew ?_) | exact HR1680_0.out)) hb)
                replace HB := zA (kQ (zT HB.out GE1656.out) hb)
                (try clear hb)
                (try clear hb2)
                (try clear hk)
                (try clear hi)
                (try clear hgw)
                refine hK.out _ _ ⟨(kV BK1656.out 0).trans rfl, (kV BK1656.out 1).trans rfl, HS2_, HS3_⟩ (fun hHeld => ?_)
                clear hK K
                refine norm_ (a' := ?_) ?_ ?_
                rotate_left
                ·show Act.put _ (some 58) _ = _
                 simp only [Act.put, zL, zM, zN, i64_w, i32_w]
                 rfl
                refine zp 10 (some 59) #[true, true, true, true, true, true, true, true, true, true, true, false, false, false] HT_.out ?_
                refine zf 11 (some 60) #[true, true, true, true, true, true, true, true, true, true, true, true, false, false] HT_.out HW_.out hHeld ?_
                refine zp 12 (some 61) #[true, true, true, true, true, true, true, true, true, true, true, true, true, false] HT_.out ?_
                refine zp 13 (some 12) #[true, true, true, true, true, true, true, true, true, true, true, true, true, true] HT_.out ?_
                refine done_ (done_of HT_.out (by kernel_rfl)) ?_
                try go_wp2
                go_roundg k4
                case measure => have := HK1.out; have := HK2.out; have := HK3.out; have := HK4.out; omega
                case rel => exact ⟨(wrap64 (x12_4 + (rd (rd_L1 x8_2 (ji22)) t1681))), (wrap64 (x13_4 + 1)), (by first | rfl | (simp; done) | (simp only [← hji22] <;> (first | rfl | simp)) | (simp [*]; done)), zs, H', ⟨by have := HK1.out; have := HK2.out; have := HK3.out; have := HK4.out; omega⟩, ⟨zPN HO_8.out⟩, ⟨zP HO_10.out⟩, ⟨zR BK1656.out⟩, ⟨zT HB.out GE1656.out⟩⟩
               rw [if_neg c27] at H
               exact absurd H (by simp)
              rw [if_neg c26] at H
              exact absurd H (by simp)
             rw [if_neg c24] at H
             exact absurd H (by simp)
            rw [if_neg c23] at H
            exact absurd H (by simp)
           rw [if_neg c18] at H
           have c18b0 : decide (x13_4 < a0_0) = false := decide_eq_false c18
           clear c18
           by_cases c32 : x12_4 > 1000000000000000
           ·rw [if_pos c32] at H
            have c32b0 : decide (1000000000000000 < x12_4) = true := decide_eq_true c32
            clear c32
            by_cases c33 : x10_3.length < 17592186044416
            ·rw [if_pos c33] at H
             have LMc33 := zA c33
             clear c33
             obtain ⟨y1673, hy1673⟩ : ∃ y_ : List Int, y_ = (x10_3 ++ [1000000000000001]) := ⟨_, rfl⟩
             replace H : (spec_l06Tails.l2 k4 a1 t1657 x8_2 x9_2 y1673 (wrap64 (x11_3 + 1)) a0_0 l0_1) = some r := zy hy1673 H
             have Ny1673 := zA hy1673
             clear hy1673
             have H' := zA H
             clear H
             obtain ⟨hcz34_0, hcz34_1, hfz34_0, hfz34_1⟩ := zB3 BK1656.out
             go_wp2_with (first | ((with_reducible refine gate_builtin (b := .append) (xs := #[.tmp 64, .tmp 66]) rfl ?_); at_builtin; refine Kd.R_append (Kd.int .i64) (w0 := w) w.heap.size rfl (.tmp 64) (.tmp 66) 22 2 (.int .i64 0) 8 rfl Tryd.underlying22 info2 rfl (by decide) (by omega) u10 x10_3 1000000000000001 [.int .i64 1000000000000001] (fun k_ => (w.heap.size ≤ k_)) (fun _ => False) rfl rfl ?aP (fun _ hk => hk.elim) ?aF ?aO ?aB ?aS ?aL ?_; (case aP => exact rfl); (case aB => exact (zT HB.out GE1656.out)); (case aF => exact (fun k_ hk => (Nat.le_trans (kP (zT HB.out GE1656.out)) hk))); (case aO => exact (zP HO_10.out)); (case aS => exact (kP (zT HB.out GE1656.out))); (case aL => have := LMc33.out; omega); intro v1674 w35 ho hb hg hat; rw [← Ny1673.out] at ho; replace HO_8 := zA (Kd.N_afterv (ok := (fun k_ => (w.heap.size ≤ k_) ∧ k_ ≠ gb1656)) (by (with_reducible repeat (first | apply Kd.N_alloc | apply Kd.N_drewN | apply Kd.N_drew)); exact Kd.N_mono HO_8.out (fun _ hk => ⟨⟨hk.1, hk.2.2⟩, hk.2.1⟩)) hg hat); replace BK1656 := zA (blk_grown (g := gb1656) (o := .cells #[.int .i64 a0_0, .slice A0_1 l0_1.length c0_1] 28 (0, 0)) (zR BK1656.out) hg (Kd.R_ne HO_10.out BK1656.out (by decide))); replace HB := zA (hb); have HO1675 := zA (ho); clear HO_10; clear ho hb hg hat))
             go_roundg k4
             case measure => have := HK1.out; have := HK2.out; have := HK3.out; have := HK4.out; omega
             case rel => exact ⟨(y1673), (wrap64 (x11_3 + 1)), zs, H', ⟨by have := HK1.out; have := HK2.out; have := HK3.out; have := HK4.out; omega⟩, ⟨by (with_reducible repeat (first | apply Kd.N_alloc | apply Kd.N_drewN | apply Kd.N_drew)); exact Kd.N_mono HO_8.out (fun _ hk => ⟨hk.1.1, ⟨hk.2, hk.1.2⟩⟩)⟩, ⟨zP HO1675.out⟩, ⟨zR BK1656.out⟩, ⟨zT HB.out GE1656.out⟩⟩
            rw [if_neg c33] at H
            exact absurd H (by simp)
           rw [if_neg c32] at H
           have c32b0 : decide (1000000000000000 < x12_4) = false := decide_eq_false c32
           clear c32
           by_cases c36 : x10_3.length < 17592186044416
           ·rw [if_pos c36] at H
            have LMc36 := zA c36
            clear c36
            obtain ⟨y1676, hy1676⟩ : ∃ y_ : List Int, y_ = (x10_3 ++ [x12_4]) := ⟨_, rfl⟩
            replace H : (spec_l06Tails.l2 k4 a1 t1657 x8_2 x9_2 y1676 (wrap64 (x11_3 + 1)) a0_0 l0_1) = some r := zy hy1676 H
            have Ny1676 := zA hy1676
            clear hy1676
            have H' := zA H
            clear H
            obtain ⟨hcz37_0, hcz37_1, hfz37_0, hfz37_1⟩ := zB3 BK1656.out
            go_wp2_with (first | ((with_reducible refine gate_builtin (b := .append) (xs := #[.tmp 64, .tmp 66]) rfl ?_); at_builtin; refine Kd.R_append (Kd.int .i64) (w0 := w) w.heap.size rfl (.tmp 64) (.tmp 66) 22 2 (.int .i64 0) 8 rfl Tryd.underlying22 info2 rfl (by decide) (by omega) u10 x10_3 x12_4 [.int .i64 x12_4] (fun k_ => (w.heap.size ≤ k_)) (fun _ => False) rfl rfl ?aP (fun _ hk => hk.elim) ?aF ?aO ?aB ?aS ?aL ?_; (case aP => exact rfl); (case aB => exact (zT HB.out GE1656.out)); (case aF => exact (fun k_ hk => (Nat.le_trans (kP (zT HB.out GE1656.out)) hk))); (case aO => exact (zP HO_10.out)); (case aS => exact (kP (zT HB.out GE1656.out))); (case aL => have := LMc36.out; omega); intro v1677 w38 ho hb hg hat; rw [← Ny1676.out] at ho; replace HO_8 := zA (Kd.N_afterv (ok := (fun k_ => (w.heap.size ≤ k_) ∧ k_ ≠ gb1656)) (by (with_reducible repeat (first | apply Kd.N_alloc | apply Kd.N_drewN | apply Kd.N_drew)); exact Kd.N_mono HO_8.out (fun _ hk => ⟨⟨hk.1, hk.2.2⟩, hk.2.1⟩)) hg hat); replace BK1656 := zA (blk_grown (g := gb1656) (o := .cells #[.int .i64 a0_0, .slice A0_1 l0_1.length c0_1] 28 (0, 0)) (zR BK1656.out) hg (Kd.R_ne HO_10.out BK1656.out (by decide))); replace HB := zA (hb); have HO1678 := zA (ho); clear HO_10; clear ho hb hg hat))
            go_roundg k4
            case measure => have := HK1.out; have := HK2.out; have := HK3.out; have := HK4.out; omega
            case rel => exact ⟨(y1676), (wrap64 (x11_3 + 1)), zs, H', ⟨by have := HK1.out; have := HK2.out; have := HK3.out; have := HK4.out; omega⟩, ⟨by (with_reducible repeat (first | apply Kd.N_alloc | apply Kd.N_drewN | apply Kd.N_drew)); exact Kd.N_mono HO_8.out (fun _ hk => ⟨hk.1.1, ⟨hk.2, hk.1.2⟩⟩)⟩, ⟨zP HO1678.out⟩, ⟨zR BK1656.out⟩, ⟨zT HB.out GE1656.out⟩⟩
           rw [if_neg c36] at H
           exact absurd H (by simp)
        rw [if_neg c17] at H
        have c17b0 : decide (x11_3 < t1657) = false := decide_eq_false c17
        clear c17
        by_cases c39 : x8_2.length < 5864062014805
        ·rw [if_pos c39] at H
         have LMc39 := zA c39
         clear c39
         obtain ⟨y1670, hy1670⟩ : ∃ y_ : List (List Int), y_ = (x8_2 ++ [x10_3]) := ⟨_, rfl⟩
         replace H : (spec_l06Tails.l1 k3 a1 t1657 y1670 (wrap64 (x9_2 + 1)) a0_0 l0_1) = some r := zy hy1670 H
         have Ny1670 := zA hy1670
         clear hy1670
         have H' := zA H
         clear H
         obtain ⟨Ao41, co41, eo41⟩ := kM HO_10.out
         subst eo41
         go_wp2_with (first | ((with_reducible refine gate_builtin (b := .append) (xs := #[.tmp 68, .tmp 70]) rfl ?_); at_builtin; refine Kd.N_append (Kd.slice 2 (Kd.int .i64)) (w0 := w) w.heap.size rfl (.tmp 68) (.tmp 70) 42 22 (.slice none 0 0) 24 rfl Tryd.underlying42 info22 rfl (by decide) (by omega) u8 x8_2 x10_3 [.slice Ao41 x10_3.length co41] (fun k_ => (w.heap.size ≤ k_) ∧ k_ ≠ gb1656) (fun k_ => ((fun k_ => (w.heap.size ≤ k_) ∧ k_ ≠ gb1656)) k_ ∧ some k_ ≠ (u8 : Value).ownBlock) rfl rfl ?aP (fun _ hk => hk) ?aF ?aO ?aB ?aS ?aL ?_; (case aP => exact (Kd.FK_slice_mk (kB (kA (ok' := (fun k_ => ((fun k_ => (w.heap.size ≤ k_) ∧ k_ ≠ gb1656)) k_ ∧ some k_ ≠ (u8 : Value).ownBlock)) (kD (Kd.R_apart' (HO_10.out) (Kd.N_typed HO_8.out) (by decide)) BK1656.out (by decide)) (fun k_ hk => ⟨⟨hk.1.1, hk.2⟩, hk.1.2⟩))).2.1 (Kd.R_F (kA (ok' := (fun k_ => ((fun k_ => (w.heap.size ≤ k_) ∧ k_ ≠ gb1656)) k_ ∧ some k_ ≠ (u8 : Value).ownBlock)) (kD (Kd.R_apart' (HO_10.out) (Kd.N_typed HO_8.out) (by decide)) BK1656.out (by decide)) (fun k_ hk => ⟨⟨hk.1.1, hk.2⟩, hk.1.2⟩))))); (case aB => exact (zT HB.out GE1656.out)); (case aF => exact (fun k_ hk => ⟨(Nat.le_trans (kP (zT HB.out GE1656.out)) hk), jE (g := gb1656) (o := .cells #[.int .i64 a0_0, .slice A0_1 l0_1.length c0_1] 28 (0, 0)) (zR BK1656.out) k_ hk⟩)); (case aO => exact (by (with_reducible repeat (first | apply Kd.N_alloc | apply Kd.N_drewN | apply Kd.N_drew)); exact Kd.N_mono HO_8.out (fun _ hk => ⟨hk.1, hk.2.2⟩))); (case aS => exact (kP (zT HB.out GE1656.out))); (case aL => have := LMc39.out; omega); intro v1671 w40 ho hb hg hat; rw [← Ny1670.out] at ho; replace BK1656 := zA (blk_grown (g := gb1656) (o := .cells #[.int .i64 a0_0, .slice A0_1 l0_1.length c0_1] 28 (0, 0)) (zR BK1656.out) hg (Kd.N_ne HO_8.out BK1656.out (by decide))); replace HB := zA (hb); have HO1672 := zA (ho); clear HO_8 HO_10; clear ho hb hg hat))
         go_roundg k3
         case measure => have := HK1.out; have := HK2.out; have := HK3.out; omega
         case rel => exact ⟨(y1670), (wrap64 (x9_2 + 1)), zs, H', ⟨by have := HK1.out; have := HK2.out; have := HK3.out; omega⟩, ⟨zPN HO1672.out⟩, ⟨zR BK1656.out⟩, ⟨zT HB.out GE1656.out⟩⟩
        rw [if_neg c39] at H
        exact absurd H (by simp)
     rw [if_neg c14] at H
     have c14b0 : decide (x9_2 ≤ a1) = false := decide_eq_false c14
     clear c14
     obtain rfl := Option.some.inj H
     go_wp2
     go_ret
     exact ⟨_, zr, by (with_reducible repeat (first | apply Kd.N_alloc | apply Kd.N_drewN | apply Kd.N_drew)); exact Kd.N_mono HO_8.out (fun _ hk => hk.1), zT HB.out GE1656.out⟩

/-! ### spec_l06Many: function 100 -/
def spec_l06Many.f (k : Nat) (a0_0 : Int) (l0_1 : List Int) (a1 : Int) : Option (Int) := (spec_l06Tails.f k a0_0 l0_1 a1).bind fun t1684 => (if 0 ≤ a1 then (if a1 < (t1684.length : Int) then (if 0 < ((rd_L1 t1684 a1).length : Int) then (if (rd (rd_L1 t1684 a1) 0) > 1000000000000000 then (some 3) else (some 0)) else (none)) else (none)) else (none))

set_option maxHeartbeats 8000000 in
set_option maxRecDepth 100000 in
theorem spec_l06Many.calls (k : Nat) (a0_0 : Int) (A0_1 : Option Addr) (c0_1 : Nat) (l0_1 : List Int) (a1 : Int) (r : Int) (w : World) (hr0_1 : Kd.C (Kd.int .i64) w A0_1 l0_1.length l0_1) (hc0_1 : l0_1.length ≤ c0_1) (h : spec_l06Many.f k a0_0 l0_1 a1 = some r) :
  Calls Tryd.prog 100 #[.agg #[.int .i64 a0_0, .slice A0_1 l0_1.length c0_1], .int .i64 a1] w fun e w' => e = .returned (.int .i64 r) ∧ Below w.heap.size w w' := by
 have hu28 := Tryd.underlying28
 have HR0_1 := zA hr0_1
 have HC0_1 := zA hc0_1
 clear hr0_1 hc0_1
 have HB := zA (kW w.heap.size w)
 have H := h
 unfold spec_l06Many.f at H
 clear h
 obtain ⟨t1684, A3, H⟩ := zb H
 try dsimp only at H
 by_cases c4 : 0 ≤ a1
 ·rw [if_pos c4] at H
  have c4b0 : decide (0 ≤ a1) = true := decide_eq_true c4
  clear c4
  by_cases c5 : a1 < (t1684.length : Int)
  ·rw [if_pos c5] at H
   have c5b0 : decide (a1 < (t1684.length : Int)) = true := decide_eq_true c5
   clear c5
   by_cases c6 : 0 < ((rd_L1 t1684 a1).length : Int)
   ·rw [if_pos c6] at H
    have c6b0 : decide (0 < ((rd_L1 t1684 a1).length : Int)) = true := decide_eq_true c6
    have c6b1 : decide (0 < (rd_L1 t1684 a1).length) = true := decide_eq_true (by omega)
    clear c6
    by_cases c7 : (rd (rd_L1 t1684 a1) 0) > 1000000000000000
    ·rw [if_pos c7] at H
     have c7b0 : decide (1000000000000000 < (rd (rd_L1 t1684 a1) 0)) = true := decide_eq_true c7
     clear c7
     obtain rfl := Option.some.inj H
     go_enter Tryd.func100, Tryd.ntmps100
     go_wp2_with (first | (refine zBE 2 #[.int .i64 a0_0, .slice A0_1 l0_1.length c0_1] 28 ?_; intro gb1683 hg w8 hbox hb; have BK1683 := zA (hbox); have GW1683 := zA (zBH hg HB.out); have GE1683 := zA (zBH hg HB.out); replace HB := zA (kQ (zQ HB.out) hb); clear hb hbox hg; obtain ⟨hcz9_0, hcz9_1, hfz9_0, hfz9_1⟩ := zB3 BK1683.out) | (refine zO (some 7) Tryd.func101 #[.agg #[.int .i64 a0_0, .slice A0_1 l0_1.length c0_1], .int .i64 a1] ?_; (with_reducible refine (spec_l06Tails.calls k a0_0 _ _ l0_1 a1 t1684 _ ?side1 ?side2 A3.out).mono ?_); (case side1 => exact zS (kO HR0_1.out HB.out)); (case side2 => exact HC0_1.out); rintro e w10 ⟨v1685, rfl, ho0, hb⟩; refine ⟨_, rfl, ?_⟩; have HO1686 := zA (jN (Kd.N_mono (ok' := fun k_ => k_ ≠ gb1683) ho0 (fun k_ hk_ => (jE (g := gb1683) (o := .cells #[.int .i64 a0_0, .slice A0_1 l0_1.length c0_1] 28 (0, 0)) (zR BK1683.out) k_ hk_))) (kP (zT HB.out GE1683.out))); replace BK1683 := zA (zB1 BK1683.out hb); replace HB := zA (kQ (zT HB.out GE1683.out) hb); (try clear hb); (try clear ho0); obtain ⟨Ao11, co11, eo11⟩ := Kd.N_slice HO1686.out; subst eo11; have p1687 : 0 ≤ (a1 : Int) := zd; have q1687 : a1 < (t1684.length : Int) := zd; obtain ⟨ad1687, A1687_0, c1687_0, e1687, hx1687_0, hl1687_0, hi1687_0⟩ := at_L1 (Kd.N_reads' HO1686.out).2.2 a1 p1687 q1687; cases e1687; obtain ⟨ce1687, hce1687, hMe1687, hcc1687⟩ := Kd.N_get HO1686.out [] a1 p1687 (by first | exact q1687 | exact zd | (have e_ := (Kd.N_reads' HO1686.out).1; omega)); obtain ⟨ua1687_0, uc1687_0, rfl, ul1687_0, ge1687_0⟩ := Kd.FK_slice_open hMe1687; have hv1687_0 := hcc1687 0 _ rfl; rw [Nat.add_zero, show ((Kd.slice 2 (Kd.int .i64))).sz = 1 from rfl, Nat.mul_one] at hv1687_0; replace hv1687_0 := Option.some.inj (hv1687_0.symm.trans hx1687_0); injection hv1687_0 with hva_ hvn_ hvc_; rw [hva_] at ge1687_0; rw [hvc_] at ul1687_0; have HL1687_0 := zA (show Kd.V (Kd.int .i64) 2 _ w.heap.size _ _ (rd_L1 t1684 a1) from Kd.V_mk ul1687_0 ge1687_0); clear hva_ hvn_ hvc_ ge1687_0 ul1687_0; clear hcc1687 hce1687; have HR1687_0 := zA hi1687_0; have HC1687_0 := zA hl1687_0; clear hi1687_0 hl1687_0; replace p1687 := eq_true p1687; replace q1687 := eq_true q1687; have p1688 : 0 ≤ (0 : Int) := (by omega); have q1688 : 0 < ((rd_L1 t1684 a1).length : Int) := zd; obtain ⟨ad1688, e1688, hx1688_0⟩ := Kd.at_int (by repeat (first | (with_reducible exact HR1687_0.out) | (with_reducible refine Kd.C_alloc ?_ _) | (with_reducible refine Kd.C_drewN ?_ _) | (with_reducible refine Kd.C_drew ?_) | exact HR1687_0.out)) 0 p1688 q1688; cases e1688; have qi1688 : (0 < (rd_L1 t1684 a1).length) = True := eq_true (by omega); (try rw [show ((0 : Int)).toNat = 0 from rfl] at hx1688_0); (try rw [Addr.add_zero'] at hx1688_0); replace p1688 := eq_true p1688; replace q1688 := eq_true q1688))
     go_ret
     exact ⟨zr, zT HB.out GE1683.out⟩
    rw [if_neg c7] at H
    have c7b0 : decide (1000000000000000 < (rd (rd_L1 t1684 a1) 0)) = false := decide_eq_false c7
    clear c7
    obtain rfl := Option.some.inj H
    go_enter Tryd.func100, Tryd.ntmps100
    go_wp2_with (first | (refine zBE 2 #[.int .i64 a0_0, .slice A0_1 l0_1.length c0_1] 28 ?_; intro gb1683 hg w12 hbox hb; have BK1683 := zA (hbox); have GW1683 := zA (zBH hg HB.out); have GE1683 := zA (zBH hg HB.out); replace HB := zA (kQ (zQ HB.out) hb); clear hb hbox hg; obtain ⟨hcz13_0, hcz13_1, hfz13_0, hfz13_1⟩ := zB3 BK1683.out) | (refine zO (some 7) Tryd.func101 #[.agg #[.int .i64 a0_0, .slice A0_1 l0_1.length c0_1], .int .i64 a1] ?_; (with_reducible refine (spec_l06Tails.calls k a0_0 _ _ l0_1 a1 t1684 _ ?side1 ?side2 A3.out).mono ?_); (case side1 => exact zS (kO HR0_1.out HB.out)); (case side2 => exact HC0_1.out); rintro e w14 ⟨v1685, rfl, ho0, hb⟩; refine ⟨_, rfl, ?_⟩; have HO1686 := zA (jN (Kd.N_mono (ok' := fun k_ => k_ ≠ gb1683) ho0 (fun k_ hk_ => (jE (g := gb1683) (o := .cells #[.int .i64 a0_0, .slice A0_1 l0_1.length c0_1] 28 (0, 0)) (zR BK1683.out) k_ hk_))) (kP (zT HB.out GE1683.out))); replace BK1683 := zA (zB1 BK1683.out hb); replace HB := zA (kQ (zT HB.out GE1683.out) hb); (try clear hb); (try clear ho0); obtain ⟨Ao15, co15, eo15⟩ := Kd.N_slice HO1686.out; subst eo15; have p1687 : 0 ≤ (a1 : Int) := zd; have q1687 : a1 < (t1684.length : Int) := zd; obtain ⟨ad1687, A1687_0, c1687_0, e1687, hx1687_0, hl1687_0, hi1687_0⟩ := at_L1 (Kd.N_reads' HO1686.out).2.2 a1 p1687 q1687; cases e1687; obtain ⟨ce1687, hce1687, hMe1687, hcc1687⟩ := Kd.N_get HO1686.out [] a1 p1687 (by first | exact q1687 | exact zd | (have e_ := (Kd.N_reads' HO1686.out).1; omega)); obtain ⟨ua1687_0, uc1687_0, rfl, ul1687_0, ge1687_0⟩ := Kd.FK_slice_open hMe1687; have hv1687_0 := hcc1687 0 _ rfl; rw [Nat.add_zero, show ((Kd.slice 2 (Kd.int .i64))).sz = 1 from rfl, Nat.mul_one] at hv1687_0; replace hv1687_0 := Option.some.inj (hv1687_0.symm.trans hx1687_0); injection hv1687_0 with hva_ hvn_ hvc_; rw [hva_] at ge1687_0; rw [hvc_] at ul1687_0; have HL1687_0 := zA (show Kd.V (Kd.int .i64) 2 _ w.heap.size _ _ (rd_L1 t1684 a1) from Kd.V_mk ul1687_0 ge1687_0); clear hva_ hvn_ hvc_ ge1687_0 ul1687_0; clear hcc1687 hce1687; have HR1687_0 := zA hi1687_0; have HC1687_0 := zA hl1687_0; clear hi1687_0 hl1687_0; replace p1687 := eq_true p1687; replace q1687 := eq_true q1687; have p1688 : 0 ≤ (0 : Int) := (by omega); have q1688 : 0 < ((rd_L1 t1684 a1).length : Int) := zd; obtain ⟨ad1688, e1688, hx1688_0⟩ := Kd.at_int (by repeat (first | (with_reducible exact HR1687_0.out) | (with_reducible refine Kd.C_alloc ?_ _) | (with_reducible refine Kd.C_drewN ?_ _) | (with_reducible refine Kd.C_drew ?_) | exact HR1687_0.out)) 0 p1688 q1688; cases e1688; have qi1688 : (0 < (rd_L1 t1684 a1).length) = True := eq_true (by omega); (try rw [show ((0 : Int)).toNat = 0 from rfl] at hx1688_0); (try rw [Addr.add_zero'] at hx1688_0); replace p1688 := eq_true p1688; replace q1688 := eq_true q1688))
    go_ret
    exact ⟨zr, zT HB.out GE1683.out⟩
   rw [if_neg c6] at H
   exact absurd H (by simp)
  rw [if_neg c5] at H
  exact absurd H (by simp)
 rw [if_neg c4] at H
 exact absurd H (by simp)

/-! ### spec_CountTraces: function 50 -/
def spec_CountTraces.f (k : Nat) (a0_0 : Int) (l0_1 : List Int) (a1 : Int) : Option (Int × Int) := (spec_l06Code.f k a0_0 l0_1 a1).bind fun t1690 => (if t1690 = 0 then ((spec_l06Many.f k a0_0 l0_1 a1).bind fun t1691 => (if t1691 = 0 then ((spec_l06Tails.f k a0_0 l0_1 a1).bind fun t1692 => (if 0 ≤ a1 then (if a1 < (t1692.length : Int) then (if 0 < ((rd_L1 t1692 a1).length : Int) then (some (rd (rd_L1 t1692 a1) 0, 0)) else (none)) else (none)) else (none))) else (some (0, t1691)))) else (some (0, t1690)))

set_option maxHeartbeats 8000000 in
set_option maxRecDepth 100000 in
theorem spec_CountTraces.calls (k : Nat) (a0_0 : Int) (A0_1 : Option Addr) (c0_1 : Nat) (l0_1 : List Int) (a1 : Int) (r1 : Int) (r2 : Int) (w : World) (hr0_1 : Kd.C (Kd.int .i64) w A0_1 l0_1.length l0_1) (hc0_1 : l0_1.length ≤ c0_1) (h : spec_CountTraces.f k a0_0 l0_1 a1 = some (r1, r2)) :
  Calls Tryd.prog 50 #[.agg #[.int .i64 a0_0, .slice A0_1 l0_1.length c0_1], .int .i64 a1] w fun e w' => e = .returned (.tuple #[.int .i64 r1, .int .i64 r2]) ∧ Below w.heap.size w w' := by
 have hu28 := Tryd.underlying28
 have HR0_1 := zA hr0_1
 have HC0_1 := zA hc0_1
 clear hr0_1 hc0_1
 have HB := zA (kW w.heap.size w)
 have H := h
 unfold spec_CountTraces.f at H
 clear h
 obtain ⟨t1690, A3, H⟩ := zb H
 try dsimp only at H
 by_cases c4 : t1690 = 0
 ·rw [if_pos c4] at H
  obtain ⟨c4b0, c4b1⟩ := zT1 c4
  clear c4
  obtain ⟨t1691, A5, H⟩ := zb H
  try dsimp only at H
  by_cases c6 : t1691 = 0
  ·rw [if_pos c6] at H
   obtain ⟨c6b0, c6b1⟩ := zT1 c6
   clear c6
   obtain ⟨t1692, A7, H⟩ := zb H
   try dsimp only at H
   by_cases c8 : 0 ≤ a1
   ·rw [if_pos c8] at H
    have c8b0 : decide (0 ≤ a1) = true := decide_eq_true c8
    clear c8
    by_cases c9 : a1 < (t1692.length : Int)
    ·rw [if_pos c9] at H
     have c9b0 : decide (a1 < (t1692.length : Int)) = true := decide_eq_true c9
     clear c9
     by_cases c10 : 0 < ((rd_L1 t1692 a1).length : Int)
     ·rw [if_pos c10] at H
      have c10b0 : decide (0 < ((rd_L1 t1692 a1).length : Int)) = true := decide_eq_true c10
      have c10b1 : decide (0 < (rd_L1 t1692 a1).length) = true := decide_eq_true (by omega)
      clear c10
      simp only [Option.some.injEq, Prod.mk.injEq] at H
      obtain ⟨rfl, rfl⟩ := H
      go_enter Tryd.func50, Tryd.ntmps50
      go_wp2_with (first | (refine zBE 2 #[.int .i64 a0_0, .slice A0_1 l0_1.length c0_1] 28 ?_; intro gb1689 hg w11 hbox hb; have BK1689 := zA (hbox); have GW1689 := zA (zBH hg HB.out); have GE1689 := zA (zBH hg HB.out); replace HB := zA (kQ (zQ HB.out) hb); clear hb hbox hg; obtain ⟨hcz12_0, hcz12_1, hfz12_0, hfz12_1⟩ := zB3 BK1689.out) | (refine zO (some 9) Tryd.func99 #[.agg #[.int .i64 a0_0, .slice A0_1 l0_1.length c0_1], .int .i64 a1] ?_; (with_reducible refine (spec_l06Code.calls k a0_0 _ _ l0_1 a1 t1690 _ ?side1 ?side2 A3.out).mono ?_); (case side1 => exact zS (kO HR0_1.out HB.out)); (case side2 => exact HC0_1.out); rintro e w13 ⟨rfl, hb⟩; refine ⟨_, rfl, ?_⟩; replace BK1689 := zA (zB1 BK1689.out hb); replace HB := zA (kQ (zT HB.out GE1689.out) hb); (try clear hb); obtain ⟨hcz14_0, hcz14_1, hfz14_0, hfz14_1⟩ := zB3 BK1689.out) | (refine zO (some 14) Tryd.func100 #[.agg #[.int .i64 a0_0, .slice A0_1 l0_1.length c0_1], .int .i64 a1] ?_; (with_reducible refine (spec_l06Many.calls k a0_0 _ _ l0_1 a1 t1691 _ ?side1 ?side2 A5.out).mono ?_); (case side1 => exact zS (kO HR0_1.out HB.out)); (case side2 => exact HC0_1.out); rintro e w15 ⟨rfl, hb⟩; refine ⟨_, rfl, ?_⟩; replace BK1689 := zA (zB1 BK1689.out hb); replace HB := zA (kQ (zT HB.out GE1689.out) hb); (try clear hb); obtain ⟨hcz16_0, hcz16_1, hfz16_0, hfz16_1⟩ := zB3 BK1689.out) | (refine zO (some 20) Tryd.func101 #[.agg #[.int .i64 a0_0, .slice A0_1 l0_1.length c0_1], .int .i64 a1] ?_; (with_reducible refine (spec_l06Tails.calls k a0_0 _ _ l0_1 a1 t1692 _ ?side1 ?side2 A7.out).mono ?_); (case side1 => exact zS (kO HR0_1.out HB.out)); (case side2 => exact HC0_1.out); rintro e w17 ⟨v1693, rfl, ho0, hb⟩; refine ⟨_, rfl, ?_⟩; have HO1694 := zA (jN (Kd.N_mono (ok' := fun k_ => k_ ≠ gb1689) ho0 (fun k_ hk_ => (jE (g := gb1689) (o := .cells #[.int .i64 a0_0, .slice A0_1 l0_1.length c0_1] 28 (0, 0)) (zR BK1689.out) k_ hk_))) (kP (zT HB.out GE1689.out))); replace BK1689 := zA (zB1 BK1689.out hb); replace HB := zA (kQ (zT HB.out GE1689.out) hb); (try clear hb); (try clear ho0); obtain ⟨Ao18, co18, eo18⟩ := Kd.N_slice HO1694.out; subst eo18; have p1695 : 0 ≤ (a1 : Int) := zd; have q1695 : a1 < (t1692.length : Int) := zd; obtain ⟨ad1695, A1695_0, c1695_0, e1695, hx1695_0, hl1695_0, hi1695_0⟩ := at_L1 (Kd.N_reads' HO1694.out).2.2 a1 p1695 q1695; cases e1695; obtain ⟨ce1695, hce1695, hMe1695, hcc1695⟩ := Kd.N_get HO1694.out [] a1 p1695 (by first | exact q1695 | exact zd | (have e_ := (Kd.N_reads' HO1694.out).1; omega)); obtain ⟨ua1695_0, uc1695_0, rfl, ul1695_0, ge1695_0⟩ := Kd.FK_slice_open hMe1695; have hv1695_0 := hcc1695 0 _ rfl; rw [Nat.add_zero, show ((Kd.slice 2 (Kd.int .i64))).sz = 1 from rfl, Nat.mul_one] at hv1695_0; replace hv1695_0 := Option.some.inj (hv1695_0.symm.trans hx1695_0); injection hv1695_0 with hva_ hvn_ hvc_; rw [hva_] at ge1695_0; rw [hvc_] at ul1695_0; have HL1695_0 := zA (show Kd.V (Kd.int .i64) 2 _ w.heap.size _ _ (rd_L1 t1692 a1) from Kd.V_mk ul1695_0 ge1695_0); clear hva_ hvn_ hvc_ ge1695_0 ul1695_0; clear hcc1695 hce1695; have HR1695_0 := zA hi1695_0; have HC1695_0 := zA hl1695_0; clear hi1695_0 hl1695_0; replace p1695 := eq_true p1695; replace q1695 := eq_true q1695; have p1696 : 0 ≤ (0 : Int) := (by omega); have q1696 : 0 < ((rd_L1 t1692 a1).length : Int) := zd; obtain ⟨ad1696, e1696, hx1696_0⟩ := Kd.at_int (by repeat (first | (with_reducible exact HR1695_0.out) | (with_reducible refine Kd.C_alloc ?_ _) | (with_reducible refine Kd.C_drewN ?_ _) | (with_reducible refine Kd.C_drew ?_) | exact HR1695_0.out)) 0 p1696 q1696; cases e1696; have qi1696 : (0 < (rd_L1 t1692 a1).length) = True := eq_true (by omega); (try rw [show ((0 : Int)).toNat = 0 from rfl] at hx1696_0); (try rw [Addr.add_zero'] at hx1696_0); replace p1696 := eq_true p1696; replace q1696 := eq_true q1696))
      go_ret2
      exact ⟨zr, zT HB.out GE1689.out⟩
     rw [if_neg c10] at H
     exact absurd H (by simp)
    rw [if_neg c9] at H
    exact absurd H (by simp)
   rw [if_neg c8] at H
   exact absurd H (by simp)
  rw [if_neg c6] at H
  obtain ⟨c6b0, c6b1⟩ := zT2 c6
  simp only [Option.some.injEq, Prod.mk.injEq] at H
  obtain ⟨rfl, rfl⟩ := H
  go_enter Tryd.func50, Tryd.ntmps50
  go_wp2_with (first | (refine zBE 2 #[.int .i64 a0_0, .slice A0_1 l0_1.length c0_1] 28 ?_; intro gb1689 hg w19 hbox hb; have BK1689 := zA (hbox); have GW1689 := zA (zBH hg HB.out); have GE1689 := zA (zBH hg HB.out); replace HB := zA (kQ (zQ HB.out) hb); clear hb hbox hg; obtain ⟨hcz20_0, hcz20_1, hfz20_0, hfz20_1⟩ := zB3 BK1689.out) | (refine zO (some 9) Tryd.func99 #[.agg #[.int .i64 a0_0, .slice A0_1 l0_1.length c0_1], .int .i64 a1] ?_; (with_reducible refine (spec_l06Code.calls k a0_0 _ _ l0_1 a1 t1690 _ ?side1 ?side2 A3.out).mono ?_); (case side1 => exact zS (kO HR0_1.out HB.out)); (case side2 => exact HC0_1.out); rintro e w21 ⟨rfl, hb⟩; refine ⟨_, rfl, ?_⟩; replace BK1689 := zA (zB1 BK1689.out hb); replace HB := zA (kQ (zT HB.out GE1689.out) hb); (try clear hb); obtain ⟨hcz22_0, hcz22_1, hfz22_0, hfz22_1⟩ := zB3 BK1689.out) | (refine zO (some 14) Tryd.func100 #[.agg #[.int .i64 a0_0, .slice A0_1 l0_1.length c0_1], .int .i64 a1] ?_; (with_reducible refine (spec_l06Many.calls k a0_0 _ _ l0_1 a1 t1691 _ ?side1 ?side2 A5.out).mono ?_); (case side1 => exact zS (kO HR0_1.out HB.out)); (case side2 => exact HC0_1.out); rintro e w23 ⟨rfl, hb⟩; refine ⟨_, rfl, ?_⟩; replace BK1689 := zA (zB1 BK1689.out hb); replace HB := zA (kQ (zT HB.out GE1689.out) hb); (try clear hb)))
  go_ret2
  exact ⟨zr, zT HB.out GE1689.out⟩
 rw [if_neg c4] at H
 obtain ⟨c4b0, c4b1⟩ := zT2 c4
 simp only [Option.some.injEq, Prod.mk.injEq] at H
 obtain ⟨rfl, rfl⟩ := H
 go_enter Tryd.func50, Tryd.ntmps50
 go_wp2_with (first | (refine zBE 2 #[.int .i64 a0_0, .slice A0_1 l0_1.length c0_1] 28 ?_; intro gb1689 hg w24 hbox hb; have BK1689 := zA (hbox); have GW1689 := zA (zBH hg HB.out); have GE1689 := zA (zBH hg HB.out); replace HB := zA (kQ (zQ HB.out) hb); clear hb hbox hg; obtain ⟨hcz25_0, hcz25_1, hfz25_0, hfz25_1⟩ := zB3 BK1689.out) | (refine zO (some 9) Tryd.func99 #[.agg #[.int .i64 a0_0, .slice A0_1 l0_1.length c0_1], .int .i64 a1] ?_; (with_reducible refine (spec_l06Code.calls k a0_0 _ _ l0_1 a1 t1690 _ ?side1 ?side2 A3.out).mono ?_); (case side1 => exact zS (kO HR0_1.out HB.out)); (case side2 => exact HC0_1.out); rintro e w26 ⟨rfl, hb⟩; refine ⟨_, rfl, ?_⟩; replace BK1689 := zA (zB1 BK1689.out hb); replace HB := zA (kQ (zT HB.out GE1689.out) hb); (try clear hb)))
 go_ret2
 exact ⟨zr, zT HB.out GE1689.out⟩

/-! ### impl_inverse: function 141 -/
mutual
def impl_inverse.l0 : Nat → List Int → Int → List Int → Int → Option (List Int × Int)
 | 0, _, _, _, _ => none
 | k + 1, x0, x1, x6, x7 => if x7 ≤ x1 then (impl_inverse.l1 k x0 x1 x6 x7 0 0 1) else (some (x6, 0))
def impl_inverse.j2 : Nat → List Int → Int → List Int → Int → Int → Int → Option (List Int × Int)
 | 0, _, _, _, _, _, _ => none
 | k + 1, x0, x1, x6, x7, x8, x9 => if (wrap64 (x8 + (wrap64 (Int.tdiv x9 1000000)))) > 2000000000 then (impl_inverse.j3 k x0 x1 x6 x7 (wrap64 (x8 + (wrap64 (Int.tdiv x9 1000000)))) (Int.tmod x9 1000000) true) else (impl_inverse.j3 k x0 x1 x6 x7 (wrap64 (x8 + (wrap64 (Int.tdiv x9 1000000)))) (Int.tmod x9 1000000) (decide ((wrap64 (x8 + (wrap64 (Int.tdiv x9 1000000)))) < (-2000000000))))
def impl_inverse.j3 : Nat → List Int → Int → List Int → Int → Int → Int → Bool → Option (List Int × Int)
 | 0, _, _, _, _, _, _, _ => none
 | k + 1, x0, x1, x6, x7, x8, x9, x68 => if x68 = true then (some (([] : List Int), 3)) else ((impl_inRange.f (wrap64 ((wrap64 (x8 * 1000000)) + x9)) (-1000000000000000) 1000000000000000).bind fun t1705 => (if t1705 = true then (if x6.length < 17592186044416 then (impl_inverse.l0 k x0 x1 (x6 ++ [wrap64 ((wrap64 (x8 * 1000000)) + x9)]) (wrap64 (x7 + 1))) else (none)) else (some (([] : List Int), 3))))
def impl_inverse.l1 : Nat → List Int → Int → List Int → Int → Int → Int → Int → Option (List Int × Int)
 | 0, _, _, _, _, _, _, _ => none
 | k + 1, x0, x1, x6, x7, x8, x9, x10 => if x10 ≤ x7 then ((impl_length_int64.f x0).bind fun t1700 => (if x10 < t1700 then (if 0 ≤ x10 then (if x10 < (x0.length : Int) then (if 0 ≤ (wrap64 (x7 - x10)) then (if (wrap64 (x7 - x10)) < (x6.length : Int) then (impl_inverse.l1 k x0 x1 x6 x7 (wrap64 (x8 - (wrap64 ((rd x0 x10) * (wrap64 (Int.tdiv (rd x6 (wrap64 (x7 - x10))) 1000000)))))) (wrap64 (x9 - (wrap64 ((rd x0 x10) * (Int.tmod (rd x6 (wrap64 (x7 - x10))) 1000000))))) (wrap64 (x10 + 1))) else (none)) else (none)) else (none)) else (none)) else (impl_inverse.j2 k x0 x1 x6 x7 x8 x9))) else (impl_inverse.j2 k x0 x1 x6 x7 x8 x9)
end
def impl_inverse.f (k : Nat) (l0 : List Int) (a1 : Int) : Option (List Int × Int) := impl_inverse.l0 k l0 a1 (([1] : List Int)) 1

set_option maxHeartbeats 8000000 in
set_option maxRecDepth 100000 in
theorem impl_inverse.calls (k : Nat) (A0 : Option Addr) (c0 : Nat) (l0 : List Int) (a1 : Int) (r1 : List Int) (r2 : Int) (w : World) (hr0 : Kd.C (Kd.int .i64) w A0 l0.length l0) (hc0 : l0.length ≤ c0) (h : impl_inverse.f k l0 a1 = some (r1, r2)) :
  Calls Tryd.prog 141 #[.slice A0 l0.length c0, .int .i64 a1] w fun e w' => ∃ v0_ : Value, e = .returned (.tuple #[v0_, .int .i64 r2]) ∧ Kd.R (Kd.int .i64) 2 w' w.heap.size (fun _ => True) v0_ r1 ∧ Below w.heap.size w w' := by
 have HR0 := zA hr0
 have HC0 := zA hc0
 clear hr0 hc0
 have HB := zA (kW w.heap.size w)
 have H := h
 unfold impl_inverse.f at H
 clear h
 obtain ⟨y1697, hy1697⟩ : ∃ y_ : List Int, y_ = (([1] : List Int)) := ⟨_, rfl⟩
 replace H : (impl_inverse.l0 k l0 a1 y1697 1) = some (r1, r2) := zy hy1697 H
 have Ny1697 := zA hy1697
 clear hy1697
 have H' := zA H
 clear H
 go_enter Tryd.func141, Tryd.ntmps141
 go_wp2_with (first | ((with_reducible refine kS (N := 12) rfl ?_); refine Kd.R_lit (Kd.int .i64) _ 2 ?hg (N := 12) ?hd (xs := ([1] : List Int)) (inner := [.int .i64 1]) (ok := fun _ => True) (okp := fun _ => True) ?hr ?hp (fun _ hk => hk) trivial (kW _ _) (Nat.le_refl _) (by simp) ?_; (case hd => rfl); (case hg => rfl); (case hr => first | (go_simp; done) | (go_simp; rfl)); (case hp => exact (Reps.one (show Kd.M (Kd.int .i64) _ _ _ 1 [.int .i64 1] from rfl) (Reps.none _ _))); intro v1698 w3 ho4 hb hg_ hnew_; clear hg_ hnew_; (first | rw [← Ny1697.out] at ho4 | (simp only [Int.reduceToNat] at ho4; rw [← Ny1697.out] at ho4)); have HO1699 := zA (kI ho4 (kP (zQ HB.out))); replace HB := zA (kQ (zQ HB.out) hb); clear hb ho4))
 repeat (go_quiet (first | ((with_reducible refine kS (N := 12) rfl ?_); refine Kd.R_lit (Kd.int .i64) _ 2 ?hg (N := 12) ?hd (xs := ([1] : List Int)) (inner := [.int .i64 1]) (ok := fun _ => True) (okp := fun _ => True) ?hr ?hp (fun _ hk => hk) trivial (kW _ _) (Nat.le_refl _) (by simp) ?_; (case hd => rfl); (case hg => rfl); (case hr => first | (go_simp; done) | (go_simp; rfl)); (case hp => exact (Reps.one (show Kd.M (Kd.int .i64) _ _ _ 1 [.int .i64 1] from rfl) (Reps.none _ _))); intro v1698 w3 ho4 hb hg_ hnew_; clear hg_ hnew_; (first | rw [← Ny1697.out] at ho4 | (simp only [Int.reduceToNat] at ho4; rw [← Ny1697.out] at ho4)); have n0_ := zA (kI ho4 (kP (zQ HB.out))); have n1_ := zA (kQ (zQ HB.out) hb); clear HB; have HO1699 := n0_; have HB := n1_; clear n0_ n1_; clear hb ho4)); try go_wp2_with (first | ((with_reducible refine kS (N := 12) rfl ?_); refine Kd.R_lit (Kd.int .i64) _ 2 ?hg (N := 12) ?hd (xs := ([1] : List Int)) (inner := [.int .i64 1]) (ok := fun _ => True) (okp := fun _ => True) ?hr ?hp (fun _ hk => hk) trivial (kW _ _) (Nat.le_refl _) (by simp) ?_; (case hd => rfl); (case hg => rfl); (case hr => first | (go_simp; done) | (go_simp; rfl)); (case hp => exact (Reps.one (show Kd.M (Kd.int .i64) _ _ _ 1 [.int .i64 1] from rfl) (Reps.none _ _))); intro v1698 w3 ho4 hb hg_ hnew_; clear hg_ hnew_; (first | rw [← Ny1697.out] at ho4 | (simp only [Int.reduceToNat] at ho4; rw [← Ny1697.out] at ho4)); have HO1699 := zA (kI ho4 (kP (zQ HB.out))); replace HB := zA (kQ (zQ HB.out) hb); clear hb ho4)))
 go_loopg [6, 7] k (fun kq v6 v7 w' => ∃ (x6_1 : List Int) (x7_1 : Int), v7 = .int .i64 x7_1 ∧ Aside0 (impl_inverse.l0 kq l0 a1 x6_1 x7_1 = some (r1, r2)) ∧ Aside0 (kq ≤ k) ∧ Aside0 (Kd.R (Kd.int .i64) 2 w' w.heap.size (fun _ => True) v6 x6_1) ∧ Aside0 (Below w.heap.size w w'))
 case atStart => exact ⟨(y1697), (1), zs, H', ⟨Nat.le_refl _⟩, ⟨zP HO1699.out⟩, ⟨zQ HB.out⟩⟩
 case round =>
  clear H'
  try clear c1
  obtain ⟨x6_1, x7_1, rfl, HA, HK1, HO_6, HB⟩ := hrel
  cases gk with
  | zero => exact absurd HA.out (by simp [impl_inverse.l0])
  | succ k1 =>
   have H := HA.out
   clear HA
   simp only [impl_inverse.l0] at H
   by_cases c5 : x7_1 ≤ a1
   ·rw [if_pos c5] at H
    have c5b0 : decide (x7_1 ≤ a1) = true := decide_eq_true c5
    clear c5
    have HC6 := zA H
    clear H
    go_upto_block 2 with (fail)
    repeat (go_quiet (fail); go_upto_block 2 with (fail))
    go_cut [8, 9] (fun v8 v9 wc => ∃ (kq : Nat) (x8_5 : Int) (x9_5 : Int), v8 = .int .i64 x8_5 ∧ v9 = .int .i64 x9_5 ∧ Aside0 (impl_inverse.j2 kq l0 a1 x6_1 x7_1 x8_5 x9_5 = some (r1, r2)) ∧ Aside0 (kq ≤ k1) ∧ Aside0 (Kd.R (Kd.int .i64) 2 wc w.heap.size (fun _ => True) u6 x6_1) ∧ Aside0 (Below w.heap.size w wc))
    case first =>
     have H := HC6.out
     clear HC6
     have H' := zA H
     clear H
     go_wp2
     repeat (go_quiet (fail); try go_wp2)
     go_loopg [8, 9, 10] k1 (fun kq v8 v9 v10 w' => ∃ (x8_2 : Int) (x9_2 : Int) (x10_2 : Int), v8 = .int .i64 x8_2 ∧ v9 = .int .i64 x9_2 ∧ v10 = .int .i64 x10_2 ∧ Aside0 (impl_inverse.l1 kq l0 a1 x6_1 x7_1 x8_2 x9_2 x10_2 = some (r1, r2)) ∧ Aside0 (kq ≤ k1) ∧ Aside0 (Kd.R (Kd.int .i64) 2 w' w.heap.size (fun _ => True) u6 x6_1) ∧ Aside0 (Below w.heap.size w w'))
     case atStart => exact ⟨(0), (0), (1), zs, zs, zs, H', ⟨Nat.le_refl _⟩, ⟨zP HO_6.out⟩, ⟨zQ HB.out⟩⟩
     case round =>
      clear H'
      try clear c1
      try clear c5
      obtain ⟨x8_2, x9_2, x10_2, rfl, rfl, rfl, HA, HK2, HO_6, HB⟩ := hrel
      cases gk with
      | zero => exact absurd HA.out (by simp [impl_inverse.l1])
      | succ k2 =>
       have H := HA.out
       clear HA
       simp only [impl_inverse.l1] at H
       by_cases c7 : x10_2 ≤ x7_1
       ·rw [if_pos c7] at H
        have c7b0 : decide (x10_2 ≤ x7_1) = true := decide_eq_true c7
        clear c7
        (first | rw [c7b0] | (simp only [i64_w, i32_w]; rw [c7b0]) | skip)
        obtain ⟨t1700, A8, H⟩ := zb H
        try dsimp only at H
        by_cases c9 : x10_2 < t1700
        ·rw [if_pos c9] at H
         have c9b0 : decide (x10_2 < t1700) = true := decide_eq_true c9
         clear c9
         by_cases c10 : 0 ≤ x10_2
         ·rw [if_pos c10] at H
          have c10b0 : decide (0 ≤ x10_2) = true := decide_eq_true c10
          clear c10
          by_cases c11 : x10_2 < (l0.length : Int)
          ·rw [if_pos c11] at H
           have c11b0 : decide (x10_2 < (l0.length : Int)) = true := decide_eq_true c11
           clear c11
           obtain ⟨ji12, hji12⟩ : ∃ j_ : Int, (wrap64 (x7_1 - x10_2)) = j_ := ⟨_, rfl⟩
           replace H : (if 0 ≤ (ji12) then (if (ji12) < (x6_1.length : Int) then (impl_inverse.l1 k2 l0 a1 x6_1 x7_1 (wrap64 (x8_2 - (wrap64 ((rd l0 x10_2) * (wrap64 (Int.tdiv (rd x6_1 (ji12)) 1000000)))))) (wrap64 (x9_2 - (wrap64 ((rd l0 x10_2) * (Int.tmod (rd x6_1 (ji12)) 1000000))))) (wrap64 (x10_2 + 1))) else (none)) else (none)) = some (r1, r2) := by first | (rw [hji12] at H; exact H) | (simp only [hji12] at H ⊢; exact H)
           (try rw [hji12] at A8)
           have hji12w : (IntKind.i64.wrap (x7_1 - x10_2)) = ji12 := (i64_w _).trans hji12
           by_cases c13 : 0 ≤ (ji12)
           ·rw [if_pos c13] at H
            have c13b0 : decide (0 ≤ (ji12)) = true := decide_eq_true c13
            clear c13
            by_cases c14 : (ji12) < (x6_1.length : Int)
            ·rw [if_pos c14] at H
             have c14b0 : decide ((ji12) < (x6_1.length : Int)) = true := decide_eq_true c14
             clear c14
             have H' := zA H
             clear H
             go_wp2_with (first | (go_at_call 68; (with_reducible refine (impl_length_int64.calls _ _ l0 t1700 _ ?side1 ?side2 A8.out).mono ?_); (case side1 => exact zS (kO HR0.out HB.out)); (case side2 => exact HC0.out); rintro e w' ⟨rfl, ⟨nd, rfl⟩⟩; (try exact zw); have p1701 : 0 ≤ (x10_2 : Int) := zd; have q1701 : x10_2 < (l0.length : Int) := zd; obtain ⟨ad1701, e1701, hx1701_0⟩ := Kd.at_int HR0.out x10_2 p1701 q1701; cases e1701; replace hx1701_0 := (HB.out.cell (jG w _ hx1701_0)).trans hx1701_0; replace p1701 := eq_true p1701; replace q1701 := eq_true q1701; obtain ⟨Ao15, co15, eo15⟩ := kM HO_6.out; subst eo15; have p1702 : 0 ≤ ((ji12) : Int) := zd; have q1702 : (ji12) < (x6_1.length : Int) := zd; obtain ⟨ad1702, e1702, hx1702_0⟩ := Kd.at_int (kB HO_6.out).2.2 (ji12) p1702 q1702; cases e1702; replace p1702 := eq_true p1702; replace q1702 := eq_true q1702; have p1703 : 0 ≤ (x10_2 : Int) := zd; have q1703 : x10_2 < (l0.length : Int) := zd; obtain ⟨ad1703, e1703, hx1703_0⟩ := Kd.at_int HR0.out x10_2 p1703 q1703; obtain rfl : ad1701 = ad1703 := (by injection e1703); replace hx1703_0 := (HB.out.cell (jG w _ hx1703_0)).trans hx1703_0; replace p1703 := eq_true p1703; replace q1703 := eq_true q1703; have p1704 : 0 ≤ ((ji12) : Int) := zd; have q1704 : (ji12) < (x6_1.length : Int) := zd; obtain ⟨ad1704, e1704, hx1704_0⟩ := Kd.at_int (kB HO_6.out).2.2 (ji12) p1704 q1704; obtain rfl : ad1702 = ad1704 := (by injection e1704); replace p1704 := eq_true p1704; replace q1704 := eq_true q1704))
             repeat (go_quiet (first | (go_at_call 68; (with_reducible refine (impl_length_int64.calls _ _ l0 t1700 _ ?side1 ?side2 A8.out).mono ?_); (case side1 => exact zS (kO HR0.out HB.out)); (case side2 => exact HC0.out); rintro e w' ⟨rfl, ⟨nd, rfl⟩⟩; (try exact zw); have p1701 : 0 ≤ (x10_2 : Int) := zd; have q1701 : x10_2 < (l0.length : Int) := zd; obtain ⟨ad1701, e1701, hx1701_0⟩ := Kd.at_int HR0.out x10_2 p1701 q1701; cases e1701; replace hx1701_0 := (HB.out.cell (jG w _ hx1701_0)).trans hx1701_0; replace p1701 := eq_true p1701; replace q1701 := eq_true q1701; obtain ⟨Ao15, co15, eo15⟩ := kM HO_6.out; subst eo15; have p1702 : 0 ≤ ((ji12) : Int) := zd; have q1702 : (ji12) < (x6_1.length : Int) := zd; obtain ⟨ad1702, e1702, hx1702_0⟩ := Kd.at_int (kB HO_6.out).2.2 (ji12) p1702 q1702; cases e1702; replace p1702 := eq_true p1702; replace q1702 := eq_true q1702; have p1703 : 0 ≤ (x10_2 : Int) := zd; have q1703 : x10_2 < (l0.length : Int) := zd; obtain ⟨ad1703, e1703, hx1703_0⟩ := Kd.at_int HR0.out x10_2 p1703 q1703; obtain rfl : ad1701 = ad1703 := (by injection e1703); replace hx1703_0 := (HB.out.cell (jG w _ hx1703_0)).trans hx1703_0; replace p1703 := eq_true p1703; replace q1703 := eq_true q1703; have p1704 : 0 ≤ ((ji12) : Int) := zd; have q1704 : (ji12) < (x6_1.length : Int) := zd; obtain ⟨ad1704, e1704, hx1704_0⟩ := Kd.at_int (kB HO_6.out).2.2 (ji12) p1704 q1704; obtain rfl : ad1702 = ad1704 := (by injection e1704); replace p1704 := eq_true p1704; replace q1704 := eq_true q1704)); try go_wp2_with (first | (go_at_call 68; (with_reducible refine (impl_length_int64.calls _ _ l0 t1700 _ ?side1 ?side2 A8.out).mono ?_); (case side1 => exact zS (kO HR0.out HB.out)); (case side2 => exact HC0.out); rintro e w' ⟨rfl, ⟨nd, rfl⟩⟩; (try exact zw); have p1701 : 0 ≤ (x10_2 : Int) := zd; have q1701 : x10_2 < (l0.length : Int) := zd; obtain ⟨ad1701, e1701, hx1701_0⟩ := Kd.at_int HR0.out x10_2 p1701 q1701; cases e1701; replace hx1701_0 := (HB.out.cell (jG w _ hx1701_0)).trans hx1701_0; replace p1701 := eq_true p1701; replace q1701 := eq_true q1701; obtain ⟨Ao15, co15, eo15⟩ := kM HO_6.out; subst eo15; have p1702 : 0 ≤ ((ji12) : Int) := zd; have q1702 : (ji12) < (x6_1.length : Int) := zd; obtain ⟨ad1702, e1702, hx1702_0⟩ := Kd.at_int (kB HO_6.out).2.2 (ji12) p1702 q1702; cases e1702; replace p1702 := eq_true p1702; replace q1702 := eq_true q1702; have p1703 : 0 ≤ (x10_2 : Int) := zd; have q1703 : x10_2 < (l0.length : Int) := zd; obtain ⟨ad1703, e1703, hx1703_0⟩ := Kd.at_int HR0.out x10_2 p1703 q1703; obtain rfl : ad1701 = ad1703 := (by injection e1703); replace hx1703_0 := (HB.out.cell (jG w _ hx1703_0)).trans hx1703_0; replace p1703 := eq_true p1703; replace q1703 := eq_true q1703; have p1704 : 0 ≤ ((ji12) : Int) := zd; have q1704 : (ji12) < (x6_1.length : Int) := zd; obtain ⟨ad1704, e1704, hx1704_0⟩ := Kd.at_int (kB HO_6.out).2.2 (ji12) p1704 q1704; obtain rfl : ad1702 = ad1704 := (by injection e1704); replace p1704 := eq_true p1704; replace q1704 := eq_true q1704)))
             go_roundg k2
             case measure => have := HK1.out; have := HK2.out; omega
             case rel => exact ⟨(wrap64 (x8_2 - (wrap64 ((rd l0 x10_2) * (wrap64 (Int.tdiv (rd x6_1 (ji12)) 1000000)))))), (wrap64 (x9_2 - (wrap64 ((rd l0 x10_2) * (Int.tmod (rd x6_1 (ji12)) 1000000))))), (wrap64 (x10_2 + 1)), (by first | rfl | (simp; done) | (simp only [← hji12] <;> (first | rfl | simp)) | (simp [*]; done)), (by first | rfl | (simp; done) | (simp only [← hji12] <;> (first | rfl | simp)) | (simp [*]; done)), zs, H', ⟨by have := HK1.out; have := HK2.out; omega⟩, ⟨zP HO_6.out⟩, ⟨zQ HB.out⟩⟩
            rw [if_neg c14] at H
            exact absurd H (by simp)
           rw [if_neg c13] at H
           exact absurd H (by simp)
          rw [if_neg c11] at H
          exact absurd H (by simp)
         rw [if_neg c10] at H
         exact absurd H (by simp)
        rw [if_neg c9] at H
        have c9b0 : decide (x10_2 < t1700) = false := decide_eq_false c9
        clear c9
        have H' := zA H
        clear H
        go_wp2_with (first | (go_at_call 68; (with_reducible refine (impl_length_int64.calls _ _ l0 t1700 _ ?side1 ?side2 A8.out).mono ?_); (case side1 => exact zS (kO HR0.out HB.out)); (case side2 => exact HC0.out); rintro e w' ⟨rfl, ⟨nd, rfl⟩⟩; (try exact zw)))
        repeat (go_quiet (first | (go_at_call 68; (with_reducible refine (impl_length_int64.calls _ _ l0 t1700 _ ?side1 ?side2 A8.out).mono ?_); (case side1 => exact zS (kO HR0.out HB.out)); (case side2 => exact HC0.out); rintro e w' ⟨rfl, ⟨nd, rfl⟩⟩; (try exact zw))); try go_wp2_with (first | (go_at_call 68; (with_reducible refine (impl_length_int64.calls _ _ l0 t1700 _ ?side1 ?side2 A8.out).mono ?_); (case side1 => exact zS (kO HR0.out HB.out)); (case side2 => exact HC0.out); rintro e w' ⟨rfl, ⟨nd, rfl⟩⟩; (try exact zw))))
        go_meet
        case rel => exact ⟨_, (x8_2), (x9_2), zs, zs, H', ⟨by have := HK1.out; have := HK2.out; first | omega | exact Nat.le_refl _⟩, ⟨zP HO_6.out⟩, ⟨zQ HB.out⟩⟩
       rw [if_neg c7] at H
       have c7b0 : decide (x10_2 ≤ x7_1) = false := decide_eq_false c7
       clear c7
       (first | rw [c7b0] | (simp only [i64_w, i32_w]; rw [c7b0]) | skip)
       have H' := zA H
       clear H
       go_wp2
       repeat (go_quiet (fail); try go_wp2)
       go_meet
       case rel => exact ⟨_, (x8_2), (x9_2), zs, zs, H', ⟨by have := HK1.out; have := HK2.out; first | omega | exact Nat.le_refl _⟩, ⟨zP HO_6.out⟩, ⟨zQ HB.out⟩⟩
    case rest =>
     clear HC6
     try clear c1
     try clear hx1
     try clear c5
     try clear c7
     try clear c9
     try clear c10
     try clear c11
     try clear c13
     try clear c14
     try clear hx1701_0
     try clear hx1702_0
     try clear hx1703_0
     try clear hx1704_0
     obtain ⟨kq, x8_5, x9_5, rfl, rfl, HA, HJ5, HO_6, HB⟩ := hcut
     cases kq with
     | zero => exact absurd HA.out (by simp [impl_inverse.j2])
     | succ kj5 =>
      have H := HA.out
      clear HA
      simp only [impl_inverse.j2] at H
      have HC16 := zA H
      clear H
      go_upto_region 13 with (fail)
      repeat (go_quiet (fail); go_upto_region 13 with (fail))
      go_cut [68] (fun v68 wc => ∃ (kq : Nat) (x68_15 : Bool), v68 = .bool x68_15 ∧ Aside0 (impl_inverse.j3 kq l0 a1 x6_1 x7_1 (wrap64 (x8_5 + (wrap64 (Int.tdiv x9_5 1000000)))) (Int.tmod x9_5 1000000) x68_15 = some (r1, r2)) ∧ Aside0 (kq ≤ kj5) ∧ Aside0 (Kd.R (Kd.int .i64) 2 wc w.heap.size (fun _ => True) u6 x6_1) ∧ Aside0 (Below w.heap.size w wc))
      case first =>
       have H := HC16.out
       clear HC16
       by_cases c17 : (wrap64 (x8_5 + (wrap64 (Int.tdiv x9_5 1000000)))) > 2000000000
       ·rw [if_pos c17] at H
        have c17b0 : decide (2000000000 < (wrap64 (x8_5 + (wrap64 (Int.tdiv x9_5 1000000))))) = true := decide_eq_true c17
        clear c17
        (first | rw [c17b0] | (simp only [i64_w, i32_w]; rw [c17b0]) | skip)
        have H' := zA H
        clear H
        go_wp2
        repeat (go_quiet (fail); try go_wp2)
        go_meet
        case rel => exact ⟨_, (true), zs, H', ⟨by have := HK1.out; have := HJ5.out; first | omega | exact Nat.le_refl _⟩, ⟨zP HO_6.out⟩, ⟨zQ HB.out⟩⟩
       rw [if_neg c17] at H
       have c17b0 : decide (2000000000 < (wrap64 (x8_5 + (wrap64 (Int.tdiv x9_5 1000000))))) = false := decide_eq_false c17
       clear c17
       (first | rw [c17b0] | (simp only [i64_w, i32_w]; rw [c17b0]) | skip)
       have H' := zA H
       clear H
       go_wp2
       repeat (go_quiet (fail); try go_wp2)
       go_meet
       case rel => exact ⟨_, (decide ((wrap64 (x8_5 + (wrap64 (Int.tdiv x9_5 1000000)))) < (-2000000000))), zs, H', ⟨by have := HK1.out; have := HJ5.out; first | omega | exact Nat.le_refl _⟩, ⟨zP HO_6.out⟩, ⟨zQ HB.out⟩⟩
      case rest =>
       clear HC16
       try clear c1
       try clear hx1
       try clear c5
       try clear c7
       try clear c9
       try clear c10
       try clear c11
       try clear c13
       try clear c14
       try clear c17
       try clear hx17
       try clear hx1701_0
       try clear hx1702_0
       try clear hx1703_0
       try clear hx1704_0
       obtain ⟨kq, x68_15, rfl, HA, HJ15, HO_6, HB⟩ := hcut
       cases kq with
       | zero => exact absurd HA.out (by simp [impl_inverse.j3])
       | succ kj15 =>
        have H := HA.out
        clear HA
        simp only [impl_inverse.j3] at H
        by_cases c18 : x68_15 = true
        ·subst c18
         rw [if_pos rfl] at H
         simp only [Option.some.injEq, Prod.mk.injEq] at H
         obtain ⟨rfl, rfl⟩ := H
         go_wp2
         repeat (go_quiet (fail); try go_wp2)
         go_ret2
         exact ⟨_, zr, zn, zQ HB.out⟩
        replace c18 := Bool.eq_false_iff.mpr c18
        subst c18
        rw [if_neg (show ¬ (false = true) by decide)] at H
        obtain ⟨t1705, A19, H⟩ := zb H
        try dsimp only at H
        by_cases c20 : t1705 = true
        ·subst c20
         rw [if_pos rfl] at H
         by_cases c21 : x6_1.length < 17592186044416
         ·rw [if_pos c21] at H
          have LMc21 := zA c21
          clear c21
          obtain ⟨y1706, hy1706⟩ : ∃ y_ : List Int, y_ = (x6_1 ++ [wrap64 ((wrap64 ((wrap64 (x8_5 + (wrap64 (Int.tdiv x9_5 1000000)))) * 1000000)) + (Int.tmod x9_5 1000000))]) := ⟨_, rfl⟩
          replace H : (impl_inverse.l0 kj15 l0 a1 y1706 (wrap64 (x7_1 + 1))) = some (r1, r2) := zy hy1706 H
          have Ny1706 := zA hy1706
          clear hy1706
          have H' := zA H
          clear H
          go_wp2_with (first | (go_at_call 58; (with_reducible refine (impl_inRange.calls (wrap64 ((wrap64 ((wrap64 (x8_5 + (wrap64 (Int.tdiv x9_5 1000000)))) * 1000000)) + (Int.tmod x9_5 1000000))) (-1000000000000000) 1000000000000000 true _ A19.out).mono ?_); rintro e w' ⟨rfl, ⟨nd, rfl⟩⟩; (try exact zw)) | ((with_reducible refine gate_builtin (b := .append) (xs := #[.tmp 76, .tmp 78]) rfl ?_); at_builtin; refine Kd.R_append (Kd.int .i64) (w0 := w) w.heap.size rfl (.tmp 76) (.tmp 78) 22 2 (.int .i64 0) 8 rfl Tryd.underlying22 info2 rfl (by decide) (by omega) u6 x6_1 (wrap64 ((wrap64 ((wrap64 (x8_5 + (wrap64 (Int.tdiv x9_5 1000000)))) * 1000000)) + (Int.tmod x9_5 1000000))) [.int .i64 (wrap64 ((wrap64 ((wrap64 (x8_5 + (wrap64 (Int.tdiv x9_5 1000000)))) * 1000000)) + (Int.tmod x9_5 1000000)))] (fun _ => True) (fun _ => False) rfl rfl ?aP (fun _ hk => hk.elim) ?aF ?aO ?aB ?aS ?aL ?_; (case aP => exact rfl); (case aB => exact (zQ HB.out)); (case aF => exact (fun _ _ => trivial)); (case aO => exact (zP HO_6.out)); (case aS => exact (kP (zQ HB.out))); (case aL => have := LMc21.out; omega); intro v1707 w22 ho hb hg hat; rw [← Ny1706.out] at ho; replace HB := zA (hb); have HO1708 := zA (ho); clear HO_6; clear ho hb hg hat))
          repeat (go_quiet (first | (go_at_call 58; (with_reducible refine (impl_inRange.calls (wrap64 ((wrap64 ((wrap64 (x8_5 + (wrap64 (Int.tdiv x9_5 1000000)))) * 1000000)) + (Int.tmod x9_5 1000000))) (-1000000000000000) 1000000000000000 true _ A19.out).mono ?_); rintro e w' ⟨rfl, ⟨nd, rfl⟩⟩; (try exact zw)) | ((with_reducible refine gate_builtin (b := .append) (xs := #[.tmp 76, .tmp 78]) rfl ?_); at_builtin; refine Kd.R_append (Kd.int .i64) (w0 := w) w.heap.size rfl (.tmp 76) (.tmp 78) 22 2 (.int .i64 0) 8 rfl Tryd.underlying22 info2 rfl (by decide) (by omega) u6 x6_1 (wrap64 ((wrap64 ((wrap64 (x8_5 + (wrap64 (Int.tdiv x9_5 1000000)))) * 1000000)) + (Int.tmod x9_5 1000000))) [.int .i64 (wrap64 ((wrap64 ((wrap64 (x8_5 + (wrap64 (Int.tdiv x9_5 1000000)))) * 1000000)) + (Int.tmod x9_5 1000000)))] (fun _ => True) (fun _ => False) rfl rfl ?aP (fun _ hk => hk.elim) ?aF ?aO ?aB ?aS ?aL ?_; (case aP => exact rfl); (case aB => exact (zQ HB.out)); (case aF => exact (fun _ _ => trivial)); (case aO => exact (zP HO_6.out)); (case aS => exact (kP (zQ HB.out))); (case aL => have := LMc21.out; omega); intro v1707 w22 ho hb hg hat; rw [← Ny1706.out] at ho; have n0_ := zA (hb); have n1_ := zA (ho); clear HB; clear HO_6; have HB := n0_; have HO1708 := n1_; clear n0_ n1_; clear ho hb hg hat)); try go_wp2_with (first | (go_at_call 58; (with_reducible refine (impl_inRange.calls (wrap64 ((wrap64 ((wrap64 (x8_5 + (wrap64 (Int.tdiv x9_5 1000000)))) * 1000000)) + (Int.tmod x9_5 1000000))) (-1000000000000000) 1000000000000000 true _ A19.out).mono ?_); rintro e w' ⟨rfl, ⟨nd, rfl⟩⟩; (try exact zw)) | ((with_reducible refine gate_builtin (b := .append) (xs := #[.tmp 76, .tmp 78]) rfl ?_); at_builtin; refine Kd.R_append (Kd.int .i64) (w0 := w) w.heap.size rfl (.tmp 76) (.tmp 78) 22 2 (.int .i64 0) 8 rfl Tryd.underlying22 info2 rfl (by decide) (by omega) u6 x6_1 (wrap64 ((wrap64 ((wrap64 (x8_5 + (wrap64 (Int.tdiv x9_5 1000000)))) * 1000000)) + (Int.tmod x9_5 1000000))) [.int .i64 (wrap64 ((wrap64 ((wrap64 (x8_5 + (wrap64 (Int.tdiv x9_5 1000000)))) * 1000000)) + (Int.tmod x9_5 1000000)))] (fun _ => True) (fun _ => False) rfl rfl ?aP (fun _ hk => hk.elim) ?aF ?aO ?aB ?aS ?aL ?_; (case aP => exact rfl); (case aB => exact (zQ HB.out)); (case aF => exact (fun _ _ => trivial)); (case aO => exact (zP HO_6.out)); (case aS => exact (kP (zQ HB.out))); (case aL => have := LMc21.out; omega); intro v1707 w22 ho hb hg hat; rw [← Ny1706.out] at ho; replace HB := zA (hb); have HO1708 := zA (ho); clear HO_6; clear ho hb hg hat)))
          go_roundg kj15
          case measure => have := HK1.out; have := HJ5.out; have := HJ15.out; omega
          case rel => exact ⟨(y1706), (wrap64 (x7_1 + 1)), zs, H', ⟨by have := HK1.out; have := HJ5.out; have := HJ15.out; omega⟩, ⟨zP HO1708.out⟩, ⟨zQ HB.out⟩⟩
         rw [if_neg c21] at H
         exact absurd H (by simp)
        replace c20 := Bool.eq_false_iff.mpr c20
        subst c20
        rw [if_neg (show ¬ (false = true) by decide)] at H
        simp only [Option.some.injEq, Prod.mk.injEq] at H
        obtain ⟨rfl, rfl⟩ := H
        go_wp2_with (first | (go_at_call 58; (with_reducible refine (impl_inRange.calls (wrap64 ((wrap64 ((wrap64 (x8_5 + (wrap64 (Int.tdiv x9_5 1000000)))) * 1000000)) + (Int.tmod x9_5 1000000))) (-1000000000000000) 1000000000000000 false _ A19.out).mono ?_); rintro e w' ⟨rfl, ⟨nd, rfl⟩⟩; (try exact zw)))
        repeat (go_quiet (first | (go_at_call 58; (with_reducible refine (impl_inRange.calls (wrap64 ((wrap64 ((wrap64 (x8_5 + (wrap64 (Int.tdiv x9_5 1000000)))) * 1000000)) + (Int.tmod x9_5 1000000))) (-1000000000000000) 1000000000000000 false _ A19.out).mono ?_); rintro e w' ⟨rfl, ⟨nd, rfl⟩⟩; (try exact zw))); try go_wp2_with (first | (go_at_call 58; (with_reducible refine (impl_inRange.calls (wrap64 ((wrap64 ((wrap64 (x8_5 + (wrap64 (Int.tdiv x9_5 1000000)))) * 1000000)) + (Int.tmod x9_5 1000000))) (-1000000000000000) 1000000000000000 false _ A19.out).mono ?_); rintro e w' ⟨rfl, ⟨nd, rfl⟩⟩; (try exact zw))))
        go_ret2
        exact ⟨_, zr, zn, zQ HB.out⟩
   rw [if_neg c5] at H
   have c5b0 : decide (x7_1 ≤ a1) = false := decide_eq_false c5
   clear c5
   simp only [Option.some.injEq, Prod.mk.injEq] at H
   obtain ⟨rfl, rfl⟩ := H
   go_wp2
   repeat (go_quiet (fail); try go_wp2)
   go_ret2
   exact ⟨_, zr, zP HO_6.out, zQ HB.out⟩

/-! ### impl_checkCount: function 102 -/
def impl_checkCount.f (k : Nat) (a0_0 : Int) (l0_1 : List Int) (a1 : Int) : Option (Int × Int) := (impl_IsAlphabet.f k a0_0 l0_1).bind fun t1710 => (if t1710 = true then ((impl_inRange.f a1 0 24).bind fun t1711 => (if t1711 = true then ((impl_cliquePolynomial.f k a0_0 l0_1).bind fun t1712 => ((impl_inverse.f k t1712 a1).bind fun bt1715 => (if bt1715.2 = 0 then (if 0 ≤ a1 then (if a1 < (bt1715.1.length : Int) then (some (rd bt1715.1 a1, 0)) else (none)) else (none)) else (some (0, bt1715.2))))) else (some (0, 2)))) else (some (0, 1)))

set_option maxHeartbeats 8000000 in
set_option maxRecDepth 100000 in
theorem impl_checkCount.calls (k : Nat) (a0_0 : Int) (A0_1 : Option Addr) (c0_1 : Nat) (l0_1 : List Int) (a1 : Int) (r1 : Int) (r2 : Int) (w : World) (hr0_1 : Kd.C (Kd.int .i64) w A0_1 l0_1.length l0_1) (hc0_1 : l0_1.length ≤ c0_1) (hT : TabW w) (h : impl_checkCount.f k a0_0 l0_1 a1 = some (r1, r2)) :
  Calls Tryd.prog 102 #[.agg #[.int .i64 a0_0, .slice A0_1 l0_1.length c0_1], .int .i64 a1] w fun e w' => e = .returned (.tuple #[.int .i64 r1, .int .i64 r2]) ∧ Below w.heap.size w w' := by
 have hu28 := Tryd.underlying28
 have HT := zA hT
 clear hT
 have HR0_1 := zA hr0_1
 have HC0_1 := zA hc0_1
 clear hr0_1 hc0_1
 have HB := zA (kW w.heap.size w)
 have H := h
 unfold impl_checkCount.f at H
 clear h
 obtain ⟨t1710, A3, H⟩ := zb H
 try dsimp only at H
 by_cases c4 : t1710 = true
 ·subst c4
  rw [if_pos rfl] at H
  obtain ⟨t1711, A5, H⟩ := zb H
  try dsimp only at H
  by_cases c6 : t1711 = true
  ·subst c6
   rw [if_pos rfl] at H
   obtain ⟨t1712, A7, H⟩ := zb H
   try dsimp only at H
   obtain ⟨⟨t1715, t1716⟩, A8, H⟩ := zb H
   try dsimp only at H
   by_cases c9 : t1716 = 0
   ·rw [if_pos c9] at H
    obtain ⟨c9b0, c9b1⟩ := zT1 c9
    clear c9
    by_cases c10 : 0 ≤ a1
    ·rw [if_pos c10] at H
     have c10b0 : decide (0 ≤ a1) = true := decide_eq_true c10
     clear c10
     by_cases c11 : a1 < (t1715.length : Int)
     ·rw [if_pos c11] at H
      have c11b0 : decide (a1 < (t1715.length : Int)) = true := decide_eq_true c11
      clear c11
      simp only [Option.some.injEq, Prod.mk.injEq] at H
      obtain ⟨rfl, rfl⟩ := H
      go_enter Tryd.func102, Tryd.ntmps102
      go_wp2_with (first | (refine zBE 2 #[.int .i64 a0_0, .slice A0_1 l0_1.length c0_1] 28 ?_; intro gb1709 hg w12 hbox hb; have BK1709 := zA (hbox); have GW1709 := zA (zBH hg HB.out); have GE1709 := zA (zBH hg HB.out); replace HB := zA (kQ (zQ HB.out) hb); clear hb hbox hg; obtain ⟨hcz13_0, hcz13_1, hfz13_0, hfz13_1⟩ := zB3 BK1709.out) | (refine zO (some 9) Tryd.func97 #[.agg #[.int .i64 a0_0, .slice A0_1 l0_1.length c0_1]] ?_; (with_reducible refine (impl_IsAlphabet.calls k a0_0 _ _ l0_1 true _ ?side1 ?side2 ?side3 A3.out).mono ?_); (case side1 => exact zS (kO HR0_1.out HB.out)); (case side2 => exact HC0_1.out); (case side3 => exact TabW.below HT.out (zT HB.out GE1709.out)); rintro e w14 ⟨rfl, hb⟩; refine ⟨_, rfl, ?_⟩; replace BK1709 := zA (zB1 BK1709.out hb); replace HB := zA (kQ (zT HB.out GE1709.out) hb); (try clear hb)) | (refine zO (some 12) Tryd.func58 #[.int .i64 a1, .int .i64 0, .int .i64 24] ?_; (with_reducible refine (impl_inRange.calls a1 0 24 true _ A5.out).mono ?_); rintro e w' ⟨rfl, ⟨nd, rfl⟩⟩; refine ⟨_, rfl, ?_⟩; obtain ⟨hcz15_0, hcz15_1, hfz15_0, hfz15_1⟩ := zB3 BK1709.out) | (refine zO (some 16) Tryd.func98 #[.agg #[.int .i64 a0_0, .slice A0_1 l0_1.length c0_1]] ?_; (with_reducible refine (impl_cliquePolynomial.calls k a0_0 _ _ l0_1 t1712 _ ?side1 ?side2 ?side3 A7.out).mono ?_); (case side1 => exact zS (kO HR0_1.out (zT HB.out GE1709.out))); (case side2 => exact HC0_1.out); (case side3 => exact TabW.below HT.out (zT HB.out GE1709.out)); rintro e w16 ⟨v1713, rfl, ho0, hb⟩; refine ⟨_, rfl, ?_⟩; have HO1714 := zA (kI ho0 (kP (zT HB.out GE1709.out))); replace BK1709 := zA (zB1 BK1709.out hb); replace HB := zA (kQ (zT HB.out GE1709.out) hb); (try clear hb); (try clear ho0); obtain ⟨Ao17, co17, eo17⟩ := kM HO1714.out; subst eo17) | (refine zO (some 18) Tryd.func141 #[.slice Ao17 t1712.length co17, .int .i64 a1] ?_; (with_reducible refine (impl_inverse.calls k _ _ t1712 a1 t1715 t1716 _ ?side1 ?side2 A8.out).mono ?_); (case side1 => exact zS (kB HO1714.out).2.2); (case side2 => exact (kB HO1714.out).2.1); rintro e w18 ⟨v1717, rfl, ho0, hb⟩; refine ⟨_, rfl, ?_⟩; have HO1718 := zA (kI (kF ho0 (kH (zP HO1714.out))) (kP (zT HB.out GE1709.out))); replace HO1714 := zA (kE (zP HO1714.out) (kC ho0) hb); replace BK1709 := zA (zB1 BK1709.out hb); replace HB := zA (kQ (zT HB.out GE1709.out) hb); (try clear hb); (try clear ho0); obtain ⟨Ao19, co19, eo19⟩ := kM HO1718.out; subst eo19; have p1719 : 0 ≤ (a1 : Int) := zd; have q1719 : a1 < (t1715.length : Int) := zd; obtain ⟨ad1719, e1719, hx1719_0⟩ := Kd.at_int (kB HO1718.out).2.2 a1 p1719 q1719; cases e1719; replace p1719 := eq_true p1719; replace q1719 := eq_true q1719))
      go_ret2
      exact ⟨zr, zT HB.out GE1709.out⟩
     rw [if_neg c11] at H
     exact absurd H (by simp)
    rw [if_neg c10] at H
    exact absurd H (by simp)
   rw [if_neg c9] at H
   obtain ⟨c9b0, c9b1⟩ := zT2 c9
   simp only [Option.some.injEq, Prod.mk.injEq] at H
   obtain ⟨rfl, rfl⟩ := H
   go_enter Tryd.func102, Tryd.ntmps102
   go_wp2_with (first | (refine zBE 2 #[.int .i64 a0_0, .slice A0_1 l0_1.length c0_1] 28 ?_; intro gb1709 hg w20 hbox hb; have BK1709 := zA (hbox); have GW1709 := zA (zBH hg HB.out); have GE1709 := zA (zBH hg HB.out); replace HB := zA (kQ (zQ HB.out) hb); clear hb hbox hg; obtain ⟨hcz21_0, hcz21_1, hfz21_0, hfz21_1⟩ := zB3 BK1709.out) | (refine zO (some 9) Tryd.func97 #[.agg #[.int .i64 a0_0, .slice A0_1 l0_1.length c0_1]] ?_; (with_reducible refine (impl_IsAlphabet.calls k a0_0 _ _ l0_1 true _ ?side1 ?side2 ?side3 A3.out).mono ?_); (case side1 => exact zS (kO HR0_1.out HB.out)); (case side2 => exact HC0_1.out); (case side3 => exact TabW.below HT.out (zT HB.out GE1709.out)); rintro e w22 ⟨rfl, hb⟩; refine ⟨_, rfl, ?_⟩; replace BK1709 := zA (zB1 BK1709.out hb); replace HB := zA (kQ (zT HB.out GE1709.out) hb); (try clear hb)) | (refine zO (some 12) Tryd.func58 #[.int .i64 a1, .int .i64 0, .int .i64 24] ?_; (with_reducible refine (impl_inRange.calls a1 0 24 true _ A5.out).mono ?_); rintro e w' ⟨rfl, ⟨nd, rfl⟩⟩; refine ⟨_, rfl, ?_⟩; obtain ⟨hcz23_0, hcz23_1, hfz23_0, hfz23_1⟩ := zB3 BK1709.out) | (refine zO (some 16) Tryd.func98 #[.agg #[.int .i64 a0_0, .slice A0_1 l0_1.length c0_1]] ?_; (with_reducible refine (impl_cliquePolynomial.calls k a0_0 _ _ l0_1 t1712 _ ?side1 ?side2 ?side3 A7.out).mono ?_); (case side1 => exact zS (kO HR0_1.out (zT HB.out GE1709.out))); (case side2 => exact HC0_1.out); (case side3 => exact TabW.below HT.out (zT HB.out GE1709.out)); rintro e w24 ⟨v1713, rfl, ho0, hb⟩; refine ⟨_, rfl, ?_⟩; have HO1714 := zA (kI ho0 (kP (zT HB.out GE1709.out))); replace BK1709 := zA (zB1 BK1709.out hb); replace HB := zA (kQ (zT HB.out GE1709.out) hb); (try clear hb); (try clear ho0); obtain ⟨Ao25, co25, eo25⟩ := kM HO1714.out; subst eo25) | (refine zO (some 18) Tryd.func141 #[.slice Ao25 t1712.length co25, .int .i64 a1] ?_; (with_reducible refine (impl_inverse.calls k _ _ t1712 a1 t1715 t1716 _ ?side1 ?side2 A8.out).mono ?_); (case side1 => exact zS (kB HO1714.out).2.2); (case side2 => exact (kB HO1714.out).2.1); rintro e w26 ⟨v1717, rfl, ho0, hb⟩; refine ⟨_, rfl, ?_⟩; have HO1718 := zA (kI (kF ho0 (kH (zP HO1714.out))) (kP (zT HB.out GE1709.out))); replace HO1714 := zA (kE (zP HO1714.out) (kC ho0) hb); replace BK1709 := zA (zB1 BK1709.out hb); replace HB := zA (kQ (zT HB.out GE1709.out) hb); (try clear hb); (try clear ho0)))
   go_ret2
   exact ⟨zr, zT HB.out GE1709.out⟩
  replace c6 := Bool.eq_false_iff.mpr c6
  subst c6
  rw [if_neg (show ¬ (false = true) by decide)] at H
  simp only [Option.some.injEq, Prod.mk.injEq] at H
  obtain ⟨rfl, rfl⟩ := H
  go_enter Tryd.func102, Tryd.ntmps102
  go_wp2_with (first | (refine zBE 2 #[.int .i64 a0_0, .slice A0_1 l0_1.length c0_1] 28 ?_; intro gb1709 hg w27 hbox hb; have BK1709 := zA (hbox); have GW1709 := zA (zBH hg HB.out); have GE1709 := zA (zBH hg HB.out); replace HB := zA (kQ (zQ HB.out) hb); clear hb hbox hg; obtain ⟨hcz28_0, hcz28_1, hfz28_0, hfz28_1⟩ := zB3 BK1709.out) | (refine zO (some 9) Tryd.func97 #[.agg #[.int .i64 a0_0, .slice A0_1 l0_1.length c0_1]] ?_; (with_reducible refine (impl_IsAlphabet.calls k a0_0 _ _ l0_1 true _ ?side1 ?side2 ?side3 A3.out).mono ?_); (case side1 => exact zS (kO HR0_1.out HB.out)); (case side2 => exact HC0_1.out); (case side3 => exact TabW.below HT.out (zT HB.out GE1709.out)); rintro e w29 ⟨rfl, hb⟩; refine ⟨_, rfl, ?_⟩; replace BK1709 := zA (zB1 BK1709.out hb); replace HB := zA (kQ (zT HB.out GE1709.out) hb); (try clear hb)) | (refine zO (some 12) Tryd.func58 #[.int .i64 a1, .int .i64 0, .int .i64 24] ?_; (with_reducible refine (impl_inRange.calls a1 0 24 false _ A5.out).mono ?_); rintro e w' ⟨rfl, ⟨nd, rfl⟩⟩; refine ⟨_, rfl, ?_⟩))
  go_ret2
  exact ⟨zr, zT HB.out GE1709.out⟩
 replace c4 := Bool.eq_false_iff.mpr c4
 subst c4
 rw [if_neg (show ¬ (false = true) by decide)] at H
 simp only [Option.some.injEq, Prod.mk.injEq] at H
 obtain ⟨rfl, rfl⟩ := H
 go_enter Tryd.func102, Tryd.ntmps102
 go_wp2_with (first | (refine zBE 2 #[.int .i64 a0_0, .slice A0_1 l0_1.length c0_1] 28 ?_; intro gb1709 hg w30 hbox hb; have BK1709 := zA (hbox); have GW1709 := zA (zBH hg HB.out); have GE1709 := zA (zBH hg HB.out); replace HB := zA (kQ (zQ HB.out) hb); clear hb hbox hg; obtain ⟨hcz31_0, hcz31_1, hfz31_0, hfz31_1⟩ := zB3 BK1709.out) | (refine zO (some 9) Tryd.func97 #[.agg #[.int .i64 a0_0, .slice A0_1 l0_1.length c0_1]] ?_; (with_reducible refine (impl_IsAlphabet.calls k a0_0 _ _ l0_1 false _ ?side1 ?side2 ?side3 A3.out).mono ?_); (case side1 => exact zS (kO HR0_1.out HB.out)); (case side2 => exact HC0_1.out); (case side3 => exact TabW.below HT.out (zT HB.out GE1709.out)); rintro e w32 ⟨rfl, hb⟩; refine ⟨_, rfl, ?_⟩; replace BK1709 := zA (zB1 BK1709.out hb); replace HB := zA (kQ (zT HB.out GE1709.out) hb); (try clear hb)))
 go_ret2
 exact ⟨zr, zT HB.out GE1709.out⟩

/-! ### impl_CountTraces: function 51 -/
def impl_CountTraces.f (k : Nat) (a0_0 : Int) (l0_1 : List Int) (a1 : Int) : Option (Int × Int) := (impl_checkCount.f k a0_0 l0_1 a1).bind fun bt1721 => (some (bt1721.1, bt1721.2))

set_option maxHeartbeats 8000000 in
set_option maxRecDepth 100000 in
theorem impl_CountTraces.calls (k : Nat) (a0_0 : Int) (A0_1 : Option Addr) (c0_1 : Nat) (l0_1 : List Int) (a1 : Int) (r1 : Int) (r2 : Int) (w : World) (hr0_1 : Kd.C (Kd.int .i64) w A0_1 l0_1.length l0_1) (hc0_1 : l0_1.length ≤ c0_1) (hT : TabW w) (h : impl_CountTraces.f k a0_0 l0_1 a1 = some (r1, r2)) :
  Calls Tryd.prog 51 #[.agg #[.int .i64 a0_0, .slice A0_1 l0_1.length c0_1], .int .i64 a1] w fun e w' => e = .returned (.tuple #[.int .i64 r1, .int .i64 r2]) ∧ Below w.heap.size w w' := by
 have hu28 := Tryd.underlying28
 have HT := zA hT
 clear hT
 have HR0_1 := zA hr0_1
 have HC0_1 := zA hc0_1
 clear hr0_1 hc0_1
 have HB := zA (kW w.heap.size w)
 have H := h
 unfold impl_CountTraces.f at H
 clear h
 obtain ⟨⟨t1721, t1722⟩, A3, H⟩ := zb H
 try dsimp only at H
 simp only [Option.some.injEq, Prod.mk.injEq] at H
 obtain ⟨rfl, rfl⟩ := H
 go_enter Tryd.func51, Tryd.ntmps51
 go_wp2_with (first | (refine zBE 2 #[.int .i64 a0_0, .slice A0_1 l0_1.length c0_1] 28 ?_; intro gb1720 hg w4 hbox hb; have BK1720 := zA (hbox); have GW1720 := zA (zBH hg HB.out); have GE1720 := zA (zBH hg HB.out); replace HB := zA (kQ (zQ HB.out) hb); clear hb hbox hg; obtain ⟨hcz5_0, hcz5_1, hfz5_0, hfz5_1⟩ := zB3 BK1720.out) | (refine zO (some 8) Tryd.func102 #[.agg #[.int .i64 a0_0, .slice A0_1 l0_1.length c0_1], .int .i64 a1] ?_; (with_reducible refine (impl_checkCount.calls k a0_0 _ _ l0_1 a1 t1721 t1722 _ ?side1 ?side2 ?side3 A3.out).mono ?_); (case side1 => exact zS (kO HR0_1.out HB.out)); (case side2 => exact HC0_1.out); (case side3 => exact TabW.below HT.out (zT HB.out GE1720.out)); rintro e w6 ⟨rfl, hb⟩; refine ⟨_, rfl, ?_⟩; replace BK1720 := zA (zB1 BK1720.out hb); replace HB := zA (kQ (zT HB.out GE1720.out) hb); (try clear hb)))
 go_ret2
 exact ⟨zr, zT HB.out GE1720.out⟩

/-! ### laws_FnExactCountTraces: function 14 -/
def laws_FnExactCountTraces.f (k : Nat) (a0_0 : Int) (l0_1 : List Int) (a1 : Int) : Option (Bool) := (laws_szAlphabet.f a0_0 l0_1 1048576).bind fun t1724 => (if t1724 < 0 then (some true) else ((laws_toAlphabet.f k a0_0 l0_1).bind fun bt1725 => ((spec_CountTraces.f k bt1725.1 bt1725.2 a1).bind fun bt1729 => ((laws_toAlphabet.f k a0_0 l0_1).bind fun bt1731 => ((impl_CountTraces.f k bt1731.1 bt1731.2 a1).bind fun bt1736 => (if bt1736.1 = bt1729.1 then (if bt1736.2 = bt1729.2 then ((laws_toAlphabet.f k a0_0 l0_1).bind fun bt1738 => ((laws_eqAlphabet.f k bt1731.1 bt1731.2 bt1738.1 bt1738.2).bind fun t1742 => (if t1742 = true then (some true) else (none)))) else (none)) else (none)))))))

set_option maxHeartbeats 8000000 in
set_option maxRecDepth 100000 in
theorem laws_FnExactCountTraces.calls (k : Nat) (a0_0 : Int) (A0_1 : Option Addr) (c0_1 : Nat) (l0_1 : List Int) (a1 : Int) (r : Bool) (w : World) (hr0_1 : Kd.C (Kd.int .i64) w A0_1 l0_1.length l0_1) (hc0_1 : l0_1.length ≤ c0_1) (hT : TabW w) (h : laws_FnExactCountTraces.f k a0_0 l0_1 a1 = some r) :
  Calls Tryd.prog 14 #[.agg #[.int .i64 a0_0, .slice A0_1 l0_1.length c0_1], .int .i64 a1] w fun e w' => e = .returned (.bool r) ∧ Below w.heap.size w w' := by
 have hu24 := Tryd.underlying24
 have hu28 := Tryd.underlying28
 have HT := zA hT
 clear hT
 have HR0_1 := zA hr0_1
 have HC0_1 := zA hc0_1
 clear hr0_1 hc0_1
 have HB := zA (kW w.heap.size w)
 have H := h
 unfold laws_FnExactCountTraces.f at H
 clear h
 obtain ⟨t1724, A3, H⟩ := zb H
 try dsimp only at H
 by_cases c4 : t1724 < 0
 ·rw [if_pos c4] at H
  have c4b0 : decide (t1724 < 0) = true := decide_eq_true c4
  clear c4
  obtain rfl := Option.some.inj H
  go_enter Tryd.func14, Tryd.ntmps14
  go_wp2_with (first | (refine zBE 2 #[.int .i64 a0_0, .slice A0_1 l0_1.length c0_1] 24 ?_; intro gb1723 hg w5 hbox hb; have BK1723 := zA (hbox); have GW1723 := zA (zBH hg HB.out); have GE1723 := zA (zBH hg HB.out); replace HB := zA (kQ (zQ HB.out) hb); clear hb hbox hg; obtain ⟨hcz6_0, hcz6_1, hfz6_0, hfz6_1⟩ := zB3 BK1723.out) | (refine zO (some 13) Tryd.func15 #[.agg #[.int .i64 a0_0, .slice A0_1 l0_1.length c0_1], .int .i64 1048576] ?_; (with_reducible refine (laws_szAlphabet.calls a0_0 _ _ l0_1 1048576 t1724 _ ?side1 ?side2 A3.out).mono ?_); (case side1 => exact zS (kO HR0_1.out HB.out)); (case side2 => exact HC0_1.out); rintro e w7 ⟨rfl, hb⟩; refine ⟨_, rfl, ?_⟩; replace BK1723 := zA (zB1 BK1723.out hb); replace HB := zA (kQ (zT HB.out GE1723.out) hb); (try clear hb)))
  go_ret
  exact ⟨zr, zT HB.out GE1723.out⟩
 rw [if_neg c4] at H
 have c4b0 : decide (t1724 < 0) = false := decide_eq_false c4
 clear c4
 obtain ⟨⟨t1725, t1726⟩, A8, H⟩ := zb H
 try dsimp only at H
 obtain ⟨⟨t1729, t1730⟩, A9, H⟩ := zb H
 try dsimp only at H
 obtain ⟨⟨t1731, t1732⟩, A10, H⟩ := zb H
 try dsimp only at H
 obtain ⟨⟨t1736, t1737⟩, A11, H⟩ := zb H
 try dsimp only at H
 by_cases c12 : t1736 = t1729
 ·rw [if_pos c12] at H
  obtain ⟨c12b0, c12b1⟩ := zT1 c12
  clear c12
  by_cases c13 : t1737 = t1730
  ·rw [if_pos c13] at H
   obtain ⟨c13b0, c13b1⟩ := zT1 c13
   clear c13
   obtain ⟨⟨t1738, t1739⟩, A14, H⟩ := zb H
   try dsimp only at H
   obtain ⟨t1742, A15, H⟩ := zb H
   try dsimp only at H
   by_cases c16 : t1742 = true
   ·subst c16
    rw [if_pos rfl] at H
    obtain rfl := Option.some.inj H
    go_enter Tryd.func14, Tryd.ntmps14
    try go_wp2_with (first | (refine zBE 2 #[.int .i64 a0_0, .slice A0_1 l0_1.length c0_1] 24 ?_; intro gb1723 hg w17 hbox hb; have BK1723 := zA (hbox); have GW1723 := zA (zBH hg HB.out); have GE1723 := zA (zBH hg HB.out); replace HB := zA (kQ (zQ HB.out) hb); clear hb hbox hg; obtain ⟨hcz18_0, hcz18_1, hfz18_0, hfz18_1⟩ := zB3 BK1723.out) | (refine zO (some 13) Tryd.func15 #[.agg #[.int .i64 a0_0, .slice A0_1 l0_1.length c0_1], .int .i64 1048576] ?_; (with_reducible refine (laws_szAlphabet.calls a0_0 _ _ l0_1 1048576 t1724 _ ?side1 ?side2 A3.out).mono ?_); (case side1 => exact zS (kO HR0_1.out HB.out)); (case side2 => exact HC0_1.out); rintro e w19 ⟨rfl, hb⟩; refine ⟨_, rfl, ?_⟩; replace BK1723 := zA (zB1 BK1723.out hb); replace HB := zA (kQ (zT HB.out GE1723.out) hb); (try clear hb); obtain ⟨hcz20_0, hcz20_1, hfz20_0, hfz20_1⟩ := zB3 BK1723.out) | (refine zO (some 18) Tryd.func17 #[.agg #[.int .i64 a0_0, .slice A0_1 l0_1.length c0_1]] ?_; (with_reducible refine (laws_toAlphabet.calls k a0_0 _ _ l0_1 t1725 t1726 _ ?side1 ?side2 A8.out).mono ?_); (case side1 => exact zS (kO HR0_1.out HB.out)); (case side2 => exact HC0_1.out); rintro e w21 ⟨v1727, rfl, ho0, hb⟩; refine ⟨_, rfl, ?_⟩; have HO1728 := zA (kI ho0 (kP (zT HB.out GE1723.out))); replace BK1723 := zA (zB1 BK1723.out hb); replace HB := zA (kQ (zT HB.out GE1723.out) hb); (try clear hb); (try clear ho0); obtain ⟨Ao22, co22, eo22⟩ := kM HO1728.out; subst eo22) | (refine zO (some 20) Tryd.func50 #[.agg #[.int .i64 t1725, .slice Ao22 t1726.length co22], .int .i64 a1] ?_; (with_reducible refine (spec_CountTraces.calls k t1725 _ _ t1726 a1 t1729 t1730 _ ?side1 ?side2 A9.out).mono ?_); (case side1 => exact zS (kB HO1728.out).2.2); (case side2 => exact (kB HO1728.out).2.1); rintro e w23 ⟨rfl, hb⟩; refine ⟨_, rfl, ?_⟩; replace HO1728 := zA (kL (zP HO1728.out) hb); replace BK1723 := zA (zB1 BK1723.out hb); replace HB := zA (kQ (zT HB.out GE1723.out) hb); (try clear hb); obtain ⟨hcz24_0, hcz24_1, hfz24_0, hfz24_1⟩ := zB3 BK1723.out) | (refine zO (some 24) Tryd.func17 #[.agg #[.int .i64 a0_0, .slice A0_1 l0_1.length c0_1]] ?_; (with_reducible refine (laws_toAlphabet.calls k a0_0 _ _ l0_1 t1731 t1732 _ ?side1 ?side2 A10.out).mono ?_); (case side1 => exact zS (kO HR0_1.out HB.out)); (case side2 => exact HC0_1.out); rintro e w25 ⟨v1733, rfl, ho0, hb⟩; refine ⟨_, rfl, ?_⟩; have HO1734 := zA (kI (kF ho0 (kH (zP HO1728.out))) (kP (zT HB.out GE1723.out))); replace HO1728 := zA (kE (zP HO1728.out) (kC ho0) hb); replace BK1723 := zA (zB1 BK1723.out hb); replace HB := zA (kQ (zT HB.out GE1723.out) hb); (try clear hb); (try clear ho0)) | (refine zBE 8 #[.int .i64 0, .slice none 0 0] 28 ?_; intro gb1735 hg w26 hbox hb; replace HO1728 := zA (kL (zP HO1728.out) hb); replace HO1734 := zA (kL (zP HO1734.out) hb); have BK1735 := zA (hbox); have GW1735 := zA (zB6 hg (kP (zT HB.out GE1723.out)) : w.heap.size ≤ gb1735); have GE1735 := zA (zB6 hg (kP (zT HB.out GE1723.out)) : w.heap.size ≤ gb1735); replace HB := zA (kQ (zT HB.out GE1723.out) hb); have NB1723_1735 := zA (zB4 hg BK1723.out : gb1723 ≠ gb1735); have NB1735_1723 := zA (zB5 hg BK1723.out : gb1735 ≠ gb1723); replace BK1723 := zA (zB1 BK1723.out hb); clear hb hbox hg; have hnb27 := NB1735_1723.out; have hnc27 := NB1723_1735.out; obtain ⟨hcz28_0, hcz28_1, hfz28_0, hfz28_1⟩ := zB3 BK1735.out; obtain ⟨Ao29, co29, eo29⟩ := kM HO1734.out; subst eo29) | (refine zO (some 28) Tryd.func51 #[.agg #[.int .i64 t1731, .slice Ao29 t1732.length co29], .int .i64 a1] ?_; (with_reducible refine (impl_CountTraces.calls k t1731 _ _ t1732 a1 t1736 t1737 _ ?side1 ?side2 ?side3 A11.out).mono ?_); (case side1 => refine (kB (e := 2) (base := w.heap.size) (ok := fun k_ => (True ∧ some k_ ≠ (.slice Ao22 t1726.length co22 : Value).ownBlock)) (n := t1732.length) (c := co29) ?_).2.2; exact (zP (zFG HO1734.out BK1735.out (.int .i64 t1731) (.slice Ao29 t1732.length co29)))); (case side2 => exact (kB HO1734.out).2.1); (case side3 => exact TabW.below HT.out (zV HB.out GE1723.out GE1735.out)); rintro e w30 ⟨rfl, hb⟩; refine ⟨_, rfl, ?_⟩; replace HO1728 := zA (kL (zP (zFG HO1728.out BK1735.out (.int .i64 t1731) (.slice Ao29 t1732.length co29))) hb); replace HO1734 := zA (kL (zP (zFG HO1734.out BK1735.out (.int .i64 t1731) (.slice Ao29 t1732.length co29))) hb); replace BK1723 := zA (blk_below (g := gb1723) (o := .cells #[.int .i64 a0_0, .slice A0_1 l0_1.length c0_1] 24 (0, 0)) (zBG BK1723.out NB1723_1735.out NB1723_1735.out) hb); replace BK1735 := zA (blk_below (g := gb1735) (o := .cells #[.int .i64 t1731, .slice Ao29 t1732.length co29] 28 (0, 0)) (zRP BK1735.out) hb); replace HB := zA (kQ (zV HB.out GE1723.out GE1735.out) hb); (try clear hb)))
    replace HO1728 := zA (zH HO1728.out)
    replace HO1734 := zA (zH HO1734.out)
    replace BK1723 := zA (zK BK1723.out)
    replace BK1735 := zA (zK BK1735.out)
    replace HB := zA (zD HB.out)
    refine start_ (n := 5) (S := fun w' => w'.cell? ⟨gb1735, 0, none⟩ = some (.int .i64 t1731) ∧ w'.cell? ⟨gb1735, 1, none⟩ = some (.slice Ao29 t1732.length co29) ∧ w'.cell? ⟨gb1723, 0, none⟩ = some (.int .i64 a0_0) ∧ w'.cell? ⟨gb1723, 1, none⟩ = some (.slice A0_1 l0_1.length c0_1)) (ds := []) #[false, false, false, false, false] (by kernel_rfl) rfl rfl ⟨(kV BK1735.out 0).trans rfl, (kV BK1735.out 1).trans rfl, (kV BK1723.out 0).trans rfl, (kV BK1723.out 1).trans rfl⟩ (fun hHeld => ?_)
    generalize w30.drew = w31 at HO1728 HO1734 BK1723 BK1735 HB hHeld ⊢
    refine take_ (i := 0) (N := some 39) (v := ?_) (a' := ?_) #[true, false, false, false, false] rfl rfl (by kernel_rfl) (fun _ _ _ h => h) (Or.inl ⟨by rfl, ?_⟩) hHeld ?_ ?_
    rotate_left
    ·rintro w' ⟨s0, s1, s2, s3⟩
     go_simp
     with_reducible rfl
    rotate_left
    ·simp only [Act.put, zL, zM, zN, i64_w, i32_w]
     rfl
    refine take_ (i := 1) (N := some 40) (v := ?_) (a' := ?_) #[true, true, false, false, false] rfl rfl (by kernel_rfl) (fun _ _ _ h => h) (Or.inl ⟨by rfl, ?_⟩) hHeld ?_ ?_
    rotate_left
    ·rintro w' ⟨s0, s1, s2, s3⟩
     go_simp
     with_reducible rfl
    rotate_left
    ·simp only [Act.put, zL, zM, zN, i64_w, i32_w]
     rfl
    refine one_ (i := 2) (N := some 41) #[true, true, true, false, false] rfl rfl (by kernel_rfl) (by decide) (fun K hK => ?_)
    refine goes_ Tryd.func17 (by kernel_rfl) rfl #[.agg #[.int .i64 a0_0, .slice A0_1 l0_1.length c0_1]] (by rfl) rfl rfl zg ?_
    with_reducible refine (laws_toAlphabet.calls k a0_0 _ _ l0_1 t1738 t1739 _ ?side1 ?side2 A14.out).mono ?_
    (case side1 => exact zS (kO HR0_1.out HB.out))
    (case side2 => exact HC0_1.out)
    rintro e w32 ⟨v1740, rfl, ho0, hb⟩
    refine ⟨_, rfl, ?_⟩
    have HO1741 := zA (kI (kF (kF ho0 (kH (zP HO1728.out))) (kH (zP HO1734.out))) (kP (zV HB.out GE1723.out GE1735.out)))
    replace HO1728 := zA (kE (zP HO1728.out) (kC ho0) hb)
    replace HO1734 := zA (kE (zP HO1734.out) (kC ho0) hb)
    replace BK1723 := zA (zB1 BK1723.out hb)
    replace BK1735 := zA (zB1 BK1735.out hb)
    replace HB := zA (kQ (zV HB.out GE1723.out GE1735.out) hb)
    (try clear hb)
    (try clear hb2)
    (try clear hk)
    (try clear hi)
    (try clear hgw)
    (try clear ho0)
    obtain ⟨Ao33, co33, eo33⟩ := kM HO1741.out
    (first | subst eo33 | (injection eo33 with f1_ f2_ f3_; have f4_ := f1_.symm; have f5_ := f3_.symm; clear f1_ f2_ f3_; subst f4_; subst f5_))
    refine hK.out _ _ ⟨(kV BK1735.out 0).trans rfl, (kV BK1735.out 1).trans rfl, (kV BK1723.out 0).trans rfl, (kV BK1723.out 1).trans rfl⟩ (fun hHeld => ?_)
    clear hK K
    refine norm_ (a' := ?_) ?_ ?_
    rotate_left
    ·show Act.put _ (some 41) _ = _
     simp only [Act.put, zL, zM, zN, i64_w, i32_w]
     rfl
    refine one_ (i := 3) (N := some 42) #[true, true, true, true, false] rfl rfl (by kernel_rfl) (by decide) (fun K hK => ?_)
    refine goes_ Tryd.func21 (by kernel_rfl) rfl #[.agg #[.int .i64 t1731, .slice Ao29 t1732.length co29], .agg #[.int .i64 t1738, .slice Ao33 t1739.length co33]] (by rfl) rfl rfl zg ?_
    with_reducible refine (laws_eqAlphabet.calls k t1731 _ _ t1732 t1738 _ _ t1739 true _ ?side1 ?side2 ?side3 ?side4 A15.out).mono ?_
    (case side1 => exact zS (kB HO1734.out).2.2)
    (case side2 => exact (kB HO1734.out).2.1)
    (case side3 => exact zS (kB HO1741.out).2.2)
    (case side4 => exact (kB HO1741.out).2.1)
    rintro e w34 ⟨rfl, hb⟩
    refine ⟨_, rfl, ?_⟩
    replace HO1728 := zA (kL (zP HO1728.out) hb)
    replace HO1734 := zA (kL (zP HO1734.out) hb)
    replace HO1741 := zA (kL (zP HO1741.out) hb)
    replace BK1723 := zA (zB1 BK1723.out hb)
    replace BK1735 := zA (zB1 BK1735.out hb)
    replace HB := zA (kQ (zV HB.out GE1723.out GE1735.out) hb)
    (try clear hb)
    (try clear hb2)
    (try clear hk)
    (try clear hi)
    (try clear hgw)
    refine hK.out _ _ ⟨(kV BK1735.out 0).trans rfl, (kV BK1735.out 1).trans rfl, (kV BK1723.out 0).trans rfl, (kV BK1723.out 1).trans rfl⟩ (fun hHeld => ?_)
    clear hK K
    refine norm_ (a' := ?_) ?_ ?_
    rotate_left
    ·show Act.put _ (some 42) _ = _
     simp only [Act.put, zL, zM, zN, i64_w, i32_w]
     rfl
    refine pure_ (i := 4) (N := some 43) (v := ?_) (a' := ?_) #[true, true, true, true, true] rfl rfl (by kernel_rfl) (fun _ _ _ h => h) (Or.inl ⟨by rfl, ?_⟩) ?_ ?_
    rotate_left
    ·intro w'
     go_simp
     with_reducible rfl
    rotate_left
    ·simp only [Act.put, zL, zM, zN, i64_w, i32_w]
     rfl
    refine done_ (by kernel_rfl) ?_
    try go_wp2
    go_ret
    exact ⟨zr, zV HB.out GE1723.out GE1735.out⟩
   replace c16 := Bool.eq_false_iff.mpr c16
   subst c16
   rw [if_neg (show ¬ (false = true) by decide)] at H
   exact absurd H (by simp)
  rw [if_neg c13] at H
  exact absurd H (by simp)
 rw [if_neg c12] at H
 exact absurd H (by simp)

end Go.Proofs.YtfnnnopbcdiibaaDoor.PAll
