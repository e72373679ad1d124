-- Printed by a program of the session (wip/tools/pgen.py) out of the translation. Not trusted: Lean checks it.
import Derived.Test.YtcboobfmenonhaaDoorPAllx0
import Derived.Test.YtcboobfmenonhaaDoorPAllx1
import Derived.Test.YtcboobfmenonhaaDoorPAllx2
import Derived.Test.YtcboobfmenonhaaDoorPAllx3
import Derived.Test.YtcboobfmenonhaaDoorPAllx7
namespace Go.Proofs.YtcboobfmenonhaaDoor.PAll
open Go.RowKit Go.Proofs.YtcboobfmenonhaaDoor.T Go.Proofs.YtcboobfmenonhaaDoorW.PrintWords Go.Proofs.YtcboobfmenonhaaDoorW.PrintLast Go.Proofs.YtcboobfmenonhaaDoorW.PrintMore
attribute [local go_sem] max2_int min2_int max_two min_two max_three min_three max_four min_four   -- for this text's walks alone
set_option linter.unusedVariables false
set_option linter.unusedSimpArgs false

/-! ### spec_l06After: function 73 -/
def spec_l01Full_Bl06After.f (a0 : Int) : Option (Int) := spec_l01Full.f a0
theorem spec_l01Full_Bl06After.calls (a0 : Int) (r : Int) (w : World) (h : spec_l01Full_Bl06After.f a0 = some r) :
 Calls Tryd.prog 110 #[.int .i64 a0] w fun e w' => e = .returned (.int .i64 r) ∧ Below w.heap.size w w' := by
 refine (spec_l01Full.calls a0 r w h).mono ?_
 rintro e w' ⟨h1, h2⟩
 exact ⟨h1, Drawn0.below h2⟩
def spec_l06After.f (a0_0 : Int) (l0_1 : List Int) (a1 : Int) (a2 : Int) : Option (Int) := (spec_l01Full_Bl06After.f a2).bind fun t474 => ((spec_l01Full_Bl06After.f a2).bind fun t475 => (if 0 ≤ a2 then (if a2 < (l0_1.length : Int) then (some (wrap64 ((Go.bits .or .i64 a1 t474) - (Go.bits .and .i64 (Go.bits .or .i64 a1 t475) (rd l0_1 a2))))) else (none)) else (none)))
def spec_l06After.T1 : Bool × List (List Nat × List Nat) := (true, [([], []), ([], []), ([1], [1]), ([0, 2], [0, 2]), ([], []), ([], []), ([5, 2], [5]), ([4, 6], [4, 6]), ([], []), ([8], [8]), ([], []), ([9, 10], [9, 10]), ([11], [11]), ([7, 12], [7, 12]), ([3, 13], [3, 13]), ([14, 6, 0, 1, 2, 3, 4, 5, 6, 7, 8, 9, 10, 11, 12, 13, 14], [14])])
def spec_l06After.B1 : List Nat := [0, 0, 2, 7, 0, 0, 38, 118, 0, 256, 0, 1792, 3840, 8182, 16383, 32767]
theorem spec_l06After.tab1 : rtab .any (opsOf Tryd.f73 1) = spec_l06After.T1 := by kernel_rfl
theorem spec_l06After.bits1 : waitsOk spec_l06After.T1.2 spec_l06After.B1 = true := by kernel_rfl
set_option maxHeartbeats 8000000 in
set_option maxRecDepth 100000 in
theorem spec_l06After.calls (a0_0 : Int) (A0_1 : Option Addr) (c0_1 : Nat) (l0_1 : List Int) (a1 : Int) (a2 : Int) (r : Int) (w : World) (hr0_1 : Kd.C (Kd.int .i64) w A0_1 l0_1.length l0_1) (hc0_1 : l0_1.length ≤ c0_1) (h : spec_l06After.f a0_0 l0_1 a1 a2 = some r) :
  Calls Tryd.prog 73 #[.agg #[.int .i64 a0_0, .slice A0_1 l0_1.length c0_1], .int .i64 a1, .int .i64 a2] w fun e w' => e = .returned (.int .i64 r) ∧ Below w.heap.size w w' := by
 have hu26 := Tryd.underlying26
 have HR0_1 := zA hr0_1
 have HC0_1 := zA hc0_1
 clear hr0_1 hc0_1
 have HB := zA (kW w.heap.size w)
 have H := h
 unfold spec_l06After.f at H
 clear h
 obtain ⟨t474, A4, H⟩ := zb H
 try dsimp only at H
 obtain ⟨t475, A5, H⟩ := zb H
 try dsimp only at H
 by_cases c6 : 0 ≤ a2
 ·rw [if_pos c6] at H
  have c6b0 : decide (0 ≤ a2) = true := decide_eq_true c6
  clear c6
  by_cases c7 : a2 < (l0_1.length : Int)
  ·rw [if_pos c7] at H
   have c7b0 : decide (a2 < (l0_1.length : Int)) = true := decide_eq_true c7
   clear c7
   obtain rfl := Option.some.inj H
   go_enter Tryd.func73, Tryd.ntmps73
   try go_wp2_with (first | (refine zBE 3 #[.int .i64 a0_0, .slice A0_1 l0_1.length c0_1] 26 ?_; intro gb473 hg w8 hbox hb; have BK473 := zA (hbox); have GW473 := zA (zBH hg HB.out); have GE473 := zA (zBH hg HB.out); replace HB := zA (kQ (zQ HB.out) hb); clear hb hbox hg))
   replace BK473 := zA (zK BK473.out)
   replace HB := zA (zD HB.out)
   have p476 : 0 ≤ (a2 : Int) := zd
   have q476 : a2 < (l0_1.length : Int) := zd
   obtain ⟨ad476, e476, hx476_0⟩ := Kd.at_int HR0_1.out a2 p476 q476
   have hw476_0 := hx476_0
   cases e476
   replace hx476_0 := (HB.out.cell (jG w _ hx476_0)).trans hx476_0
   replace p476 := eq_true p476
   replace q476 := eq_true q476
   refine start_ (n := 16) (S := fun w' => w'.cell? ⟨gb473, 0, none⟩ = some (.int .i64 a0_0) ∧ w'.cell? ⟨gb473, 1, none⟩ = some (.slice (some ad476) l0_1.length c0_1) ∧ w'.cell? (ad476.add (a2).toNat) = some (.int .i64 (rd l0_1 a2))) (ds := []) #[false, false, false, false, false, false, false, false, false, false, false, false, false, false, false, false] (by kernel_rfl) rfl rfl ⟨(kV BK473.out 0).trans rfl, (kV BK473.out 1).trans rfl, (pw_cell_below HB.out hw476_0)⟩ (fun hHeld => ?_); refine with_tabW spec_l06After.tab1 spec_l06After.bits1 (fun HT_ HW_ => ?_)
   generalize w8.drew = w9 at BK473 HB hx476_0 hHeld ⊢
   refine zp 0 (some 7) #[true, false, false, false, false, false, false, false, false, false, false, false, false, false, false, false] HT_.out ?_
   refine zp 1 (some 8) #[true, true, false, false, false, false, false, false, false, false, false, false, false, false, false, false] HT_.out ?_
   refine zp 4 (some 11) #[true, true, false, false, true, false, false, false, false, false, false, false, false, false, false, false] HT_.out ?_
   refine zp 5 (some 12) #[true, true, false, false, true, true, false, false, false, false, false, false, false, false, false, false] HT_.out ?_
   refine zp 8 (some 15) #[true, true, false, false, true, true, false, false, true, false, false, false, false, false, false, false] HT_.out ?_
   refine zp 10 (some 17) #[true, true, false, false, true, true, false, false, true, false, true, false, false, false, false, false] HT_.out ?_
   refine ze 9 (some 16) #[true, true, false, false, true, true, false, false, true, true, true, false, false, false, false, false] HT_.out HW_.out hHeld ?_
   refine zp 11 (some 18) #[true, true, false, false, true, true, false, false, true, true, true, true, false, false, false, false] HT_.out ?_
   refine ze 12 (some 19) #[true, true, false, false, true, true, false, false, true, true, true, true, true, false, false, false] HT_.out HW_.out hHeld ?_
   refine one_ (i := 2) (N := some 9) #[true, true, true, false, true, true, false, false, true, true, true, true, true, false, false, false] rfl rfl (one_of HT_.out (by kernel_rfl)) (by decide) (fun K hK => ?_)
   refine goes_ Tryd.func110 (by kernel_rfl) rfl #[.int .i64 a2] (by rfl) rfl rfl zg ?_
   with_reducible refine (spec_l01Full_Bl06After.calls a2 t474 _ A4.out).mono ?_
   rintro e w10 ⟨rfl, hb⟩
   refine ⟨_, rfl, ?_⟩
   replace BK473 := zA (zB1 BK473.out hb)
   replace HB := zA (kQ (zT HB.out GE473.out) hb)
   (try clear hb)
   (try clear hb2)
   (try clear hk)
   (try clear hi)
   (try clear hgw)
   refine hK.out _ _ ⟨(kV BK473.out 0).trans rfl, (kV BK473.out 1).trans rfl, (pw_cell_below HB.out hw476_0)⟩ (fun hHeld => ?_)
   clear hK K
   refine norm_ (a' := ?_) ?_ ?_
   rotate_left
   ·show Act.put _ (some 9) _ = _
    simp only [Act.put, zL, zM, zN, i64_w, i32_w]
    rfl
   refine zp 3 (some 10) #[true, true, true, true, true, true, false, false, true, true, true, true, true, false, false, false] HT_.out ?_
   refine one_ (i := 6) (N := some 13) #[true, true, true, true, true, true, true, false, true, true, true, true, true, false, false, false] rfl rfl (one_of HT_.out (by kernel_rfl)) (by decide) (fun K hK => ?_)
   refine goes_ Tryd.func110 (by kernel_rfl) rfl #[.int .i64 a2] (by rfl) rfl rfl zg ?_
   with_reducible refine (spec_l01Full_Bl06After.calls a2 t475 _ A5.out).mono ?_
   rintro e w11 ⟨rfl, hb⟩
   refine ⟨_, rfl, ?_⟩
   replace BK473 := zA (zB1 BK473.out hb)
   replace HB := zA (kQ (zT HB.out GE473.out) hb)
   (try clear hb)
   (try clear hb2)
   (try clear hk)
   (try clear hi)
   (try clear hgw)
   refine hK.out _ _ ⟨(kV BK473.out 0).trans rfl, (kV BK473.out 1).trans rfl, (pw_cell_below HB.out hw476_0)⟩ (fun hHeld => ?_)
   clear hK K
   refine norm_ (a' := ?_) ?_ ?_
   rotate_left
   ·show Act.put _ (some 13) _ = _
    simp only [Act.put, zL, zM, zN, i64_w, i32_w]
    rfl
   refine zp 7 (some 14) #[true, true, true, true, true, true, true, true, true, true, true, true, true, false, false, false] HT_.out ?_
   refine zp 13 (some 20) #[true, true, true, true, true, true, true, true, true, true, true, true, true, true, false, false] HT_.out ?_
   refine zp 14 (some 21) #[true, true, true, true, true, true, true, true, true, true, true, true, true, true, true, false] HT_.out ?_
   refine zp 15 (some 6) #[true, true, true, true, true, true, true, true, true, true, true, true, true, true, true, true] HT_.out ?_
   refine done_ (done_of HT_.out (by kernel_rfl)) ?_
   try go_wp2
   go_ret
   exact ⟨zr, zT HB.out GE473.out⟩
  rw [if_neg c7] at H
  exact absurd H (by simp)
 rw [if_neg c6] at H
 exact absurd H (by simp)

/-! ### spec_l06Tails: function 37 -/
mutual
def spec_l06Tails.l0 : Nat → Int → Int → List Int → Int → Int → List Int → Option ((List (List Int)))
 | 0, _, _, _, _, _, _ => none
 | k + 1, x1, x5, x6, x7, x478000, x478001 => if x7 < x5 then (if x6.length < 17592186044416 then (spec_l06Tails.l0 k x1 x5 (x6 ++ [1]) (wrap64 (x7 + 1)) x478000 x478001) else (none)) else (spec_l06Tails.l1 k x1 x5 (([x6] : List (List Int))) 1 x478000 x478001)
def spec_l06Tails.l1 : Nat → Int → Int → List (List Int) → Int → Int → List Int → Option ((List (List Int)))
 | 0, _, _, _, _, _, _ => none
 | k + 1, x1, x5, x8, x9, x478000, x478001 => if x9 ≤ x1 then (spec_l06Tails.l2 k x1 x5 x8 x9 (([] : List Int)) 0 x478000 x478001) else (some x8)
def spec_l06Tails.l2 : Nat → Int → Int → List (List Int) → Int → List Int → Int → Int → List Int → Option ((List (List Int)))
 | 0, _, _, _, _, _, _, _, _ => none
 | k + 1, x1, x5, x8, x9, x10, x11, x478000, x478001 => if x11 < x5 then (spec_l06Tails.l3 k x1 x5 x8 x9 x10 x11 0 0 x478000 x478001) else (if x8.length < 5864062014805 then (spec_l06Tails.l1 k x1 x5 (x8 ++ [x10]) (wrap64 (x9 + 1)) x478000 x478001) else (none))
def spec_l06Tails.l3 : Nat → Int → Int → List (List Int) → Int → List Int → Int → Int → Int → Int → List Int → Option ((List (List Int)))
 | 0, _, _, _, _, _, _, _, _, _, _ => none
 | k + 1, x1, x5, x8, x9, x10, x11, x12, x13, x478000, x478001 => if x13 < x478000 then ((spec_l01Bit.f x11 x13).bind fun t500 => (if t500 = true then (spec_l06Tails.l3 k x1 x5 x8 x9 x10 x11 x12 (wrap64 (x13 + 1)) x478000 x478001) else (if 0 ≤ (wrap64 (x9 - 1)) then (if (wrap64 (x9 - 1)) < (x8.length : Int) then ((spec_l06After.f x478000 x478001 x11 x13).bind fun t502 => (if 0 ≤ t502 then (if t502 < ((rd_L2 x8 (wrap64 (x9 - 1))).length : Int) then (spec_l06Tails.l3 k x1 x5 x8 x9 x10 x11 (wrap64 (x12 + (rd (rd_L2 x8 (wrap64 (x9 - 1))) t502))) (wrap64 (x13 + 1)) x478000 x478001) else (none)) else (none))) else (none)) else (none)))) else (if x12 > 1000000000000000 then (if x10.length < 17592186044416 then (spec_l06Tails.l2 k x1 x5 x8 x9 (x10 ++ [1000000000000001]) (wrap64 (x11 + 1)) x478000 x478001) else (none)) else (if x10.length < 17592186044416 then (spec_l06Tails.l2 k x1 x5 x8 x9 (x10 ++ [x12]) (wrap64 (x11 + 1)) x478000 x478001) else (none)))
end
def spec_l06Tails.f (k : Nat) (a0_0 : Int) (l0_1 : List Int) (a1 : Int) : Option ((List (List Int))) := (spec_l01One.f a0_0).bind fun t478 => (spec_l06Tails.l0 k a1 t478 (([] : List Int)) 0 a0_0 l0_1)

def spec_l06Tails.T20 : Bool × List (List Nat × List Nat) := (true, [([], []), ([], []), ([], []), ([2], [2]), ([1, 3], [1, 3]), ([4], [4]), ([], []), ([], []), ([], []), ([6, 7, 8], [6, 7, 8]), ([5, 9], [5, 9]), ([10], [10]), ([0, 11], [0, 11]), ([12, 9, 0, 1, 2, 3, 4, 5, 6, 7, 8, 9, 10, 11, 12], [0, 12])])
def spec_l06Tails.B20 : List Nat := [0, 0, 0, 4, 14, 30, 0, 0, 0, 448, 1022, 2046, 4095, 8191]
theorem spec_l06Tails.tab20 : rtab .any (opsOf Tryd.f37 20) = spec_l06Tails.T20 := by kernel_rfl
theorem spec_l06Tails.bits20 : waitsOk spec_l06Tails.T20.2 spec_l06Tails.B20 = true := by kernel_rfl
set_option maxHeartbeats 8000000 in
set_option maxRecDepth 100000 in
theorem spec_l06Tails.calls (k : Nat) (a0_0 : Int) (A0_1 : Option Addr) (c0_1 : Nat) (l0_1 : List Int) (a1 : Int) (r : List (List Int)) (w : World) (hr0_1 : Kd.C (Kd.int .i64) w A0_1 l0_1.length l0_1) (hc0_1 : l0_1.length ≤ c0_1) (h : spec_l06Tails.f k a0_0 l0_1 a1 = some r) :
  Calls Tryd.prog 37 #[.agg #[.int .i64 a0_0, .slice A0_1 l0_1.length c0_1], .int .i64 a1] w fun e w' => ∃ v0_ : Value, e = .returned (v0_) ∧ Kd.N (Kd.slice 2 (Kd.int .i64)) 24 w' w.heap.size (fun k_ => (w.heap.size ≤ k_)) v0_ r ∧ Below w.heap.size w w' := by
 have hu26 := Tryd.underlying26
 have HR0_1 := zA hr0_1
 have HC0_1 := zA hc0_1
 clear hr0_1 hc0_1
 have HB := zA (kW w.heap.size w)
 have H := h
 unfold spec_l06Tails.f at H
 clear h
 obtain ⟨t478, A3, H⟩ := zb H
 try dsimp only at H
 obtain ⟨y479, hy479⟩ : ∃ y_ : List Int, y_ = (([] : List Int)) := ⟨_, rfl⟩
 replace H : (spec_l06Tails.l0 k a1 t478 y479 0 a0_0 l0_1) = some r := zy hy479 H
 have Ny479 := zA hy479
 clear hy479
 have H' := zA H
 clear H
 go_enter Tryd.func37, Tryd.ntmps37
 go_wp2_with (first | (refine zBE 2 #[.int .i64 a0_0, .slice A0_1 l0_1.length c0_1] 26 ?_; intro gb477 hg w4 hbox hb; have BK477 := zA (hbox); have GW477 := zA (zBH hg HB.out); have GE477 := zA (zBH hg HB.out); replace HB := zA (kQ (zQ HB.out) hb); clear hb hbox hg; obtain ⟨hcz5_0, hcz5_1, hfz5_0, hfz5_1⟩ := zB3 BK477.out) | (refine zO (some 16) Tryd.func71 #[.int .i64 a0_0] ?_; (with_reducible refine (spec_l01One.calls a0_0 t478 _ A3.out).mono ?_); rintro e w' ⟨rfl, ⟨nd, rfl⟩⟩; refine ⟨_, rfl, ?_⟩) | ((with_reducible refine kS (N := 17) rfl ?_); refine Kd.R_lit (Kd.int .i64) _ 2 ?hg (N := 17) ?hd (xs := ([] : List Int)) (inner := []) (ok := fun _ => True) (okp := fun _ => True) ?hr ?hp (fun _ hk => hk) trivial (kW _ _) (Nat.le_refl _) (by simp) ?_; (case hd => rfl); (case hg => rfl); (case hr => first | (go_simp; done) | (go_simp; rfl)); (case hp => exact (Reps.none _ _)); intro v480 w6 ho7 hb hg_ hnew_; clear hg_ hnew_; (first | rw [← Ny479.out] at ho7 | (simp only [Int.reduceToNat] at ho7; rw [← Ny479.out] at ho7)); have HO481 := zA (kI (Kd.R_newM (M := fun k_ => (w.heap.size ≤ k_)) ho7 (kP (zT HB.out GE477.out)) (fun k_ h_ => h_)) (kP (zT HB.out GE477.out))); replace BK477 := zA (zB1 BK477.out hb); replace HB := zA (kQ (zT HB.out GE477.out) hb); clear hb ho7))
 go_loopg [6, 7] k (fun kq v6 v7 w' => ∃ (x6_1 : List Int) (x7_1 : Int), v7 = .int .i64 x7_1 ∧ Aside0 (spec_l06Tails.l0 kq a1 t478 x6_1 x7_1 a0_0 l0_1 = some r) ∧ Aside0 (kq ≤ k) ∧ Aside0 (Kd.R (Kd.int .i64) 2 w' w.heap.size (fun k_ => (w.heap.size ≤ k_)) v6 x6_1) ∧ Aside0 (w'.heap[gb477]? = some (.cells #[.int .i64 a0_0, (.slice A0_1 l0_1.length c0_1)] 26 (0, 0))) ∧ Aside0 (Below w.heap.size w w'))
 case atStart => exact ⟨(y479), (0), zs, H', ⟨Nat.le_refl _⟩, ⟨zPM HO481.out (fun _ hk => hk.1)⟩, ⟨zR BK477.out⟩, ⟨zT HB.out GE477.out⟩⟩
 case round =>
  clear H'
  try clear c3
  try clear c7
  try clear hcz5_0
  try clear hcz5_1
  try clear hfz5_0
  try clear hfz5_1
  obtain ⟨x6_1, x7_1, rfl, HA, HK1, HO_6, BK477, HB⟩ := hrel
  cases gk with
  | zero => exact absurd HA.out (by simp [spec_l06Tails.l0])
  | succ k1 =>
   have H := HA.out
   clear HA
   simp only [spec_l06Tails.l0] at H
   by_cases c8 : x7_1 < t478
   ·rw [if_pos c8] at H
    have c8b0 : decide (x7_1 < t478) = true := decide_eq_true c8
    clear c8
    by_cases c9 : x6_1.length < 17592186044416
    ·rw [if_pos c9] at H
     have LMc9 := zA c9
     clear c9
     obtain ⟨y482, hy482⟩ : ∃ y_ : List Int, y_ = (x6_1 ++ [1]) := ⟨_, rfl⟩
     replace H : (spec_l06Tails.l0 k1 a1 t478 y482 (wrap64 (x7_1 + 1)) a0_0 l0_1) = some r := zy hy482 H
     have Ny482 := zA hy482
     clear hy482
     have H' := zA H
     clear H
     go_wp2_with (first | ((with_reducible refine gate_builtin (b := .append) (xs := #[.tmp 23, .tmp 24]) rfl ?_); at_builtin; refine Kd.R_append (Kd.int .i64) (w0 := w) w.heap.size rfl (.tmp 23) (.tmp 24) 24 2 (.int .i64 0) 8 rfl Tryd.underlying24 info2 rfl (by decide) (by omega) u6 x6_1 1 [.int .i64 1] (fun k_ => (w.heap.size ≤ k_)) (fun _ => False) rfl rfl ?aP (fun _ hk => hk.elim) ?aF ?aO ?aB ?aS ?aL ?_; (case aP => exact rfl); (case aB => exact (zT HB.out GE477.out)); (case aF => exact (fun k_ hk => (Nat.le_trans (kP (zT HB.out GE477.out)) hk))); (case aO => exact (zP HO_6.out)); (case aS => exact (kP (zT HB.out GE477.out))); (case aL => have := LMc9.out; omega); intro v483 w10 ho hb hg hat; rw [← Ny482.out] at ho; replace BK477 := zA (blk_grown (g := gb477) (o := .cells #[.int .i64 a0_0, .slice A0_1 l0_1.length c0_1] 26 (0, 0)) (zR BK477.out) hg (Kd.R_ne HO_6.out BK477.out (by decide))); replace HB := zA (hb); have HO484 := zA (ho); clear HO_6; clear ho hb hg hat))
     go_roundg k1
     case measure => have := HK1.out; omega
     case rel => exact ⟨(y482), (wrap64 (x7_1 + 1)), zs, H', ⟨by have := HK1.out; omega⟩, ⟨zP HO484.out⟩, ⟨zR BK477.out⟩, ⟨zT HB.out GE477.out⟩⟩
    rw [if_neg c9] at H
    exact absurd H (by simp)
   rw [if_neg c8] at H
   have c8b0 : decide (x7_1 < t478) = false := decide_eq_false c8
   clear c8
   obtain ⟨y485, hy485⟩ : ∃ y_ : List (List Int), y_ = (([x6_1] : List (List Int))) := ⟨_, rfl⟩
   replace H : (spec_l06Tails.l1 k1 a1 t478 y485 1 a0_0 l0_1) = some r := zy hy485 H
   have Ny485 := zA hy485
   clear hy485
   have H' := zA H
   clear H
   obtain ⟨Ao11, co11, eo11⟩ := kM HO_6.out
   subst eo11
   go_wp2_with (first | ((with_reducible refine kS (N := 27) rfl ?_); refine Kd.N_lit (Kd.slice 2 (Kd.int .i64)) _ 24 ?hg (N' := 27) ?hd (xs := ([x6_1] : List (List Int))) (inner := [.slice Ao11 x6_1.length co11]) (ok := (fun k_ => (w.heap.size ≤ k_) ∧ k_ ≠ gb477)) (okp := (fun k_ => (w.heap.size ≤ k_) ∧ k_ ≠ gb477)) ?hr ?hp (fun _ hk => hk) ((show ∀ k_ : Nat, (_ : Nat) ≤ k_ → (fun k_ => (w.heap.size ≤ k_) ∧ k_ ≠ gb477) k_ from fun k_ hk => ⟨(Nat.le_trans (kP (zT HB.out GE477.out)) hk), jE (g := gb477) (o := .cells #[.int .i64 a0_0, .slice A0_1 l0_1.length c0_1] 26 (0, 0)) (zR BK477.out) k_ hk⟩) _ (Nat.le_refl _)) (kW _ _) (Nat.le_refl _) (by simp) ?_; (case hd => rfl); (case hg => rfl); (case hr => first | (go_simp; done) | (go_simp; rfl)); (case hp => exact (Reps.one (show Kd.FK (Kd.slice 2 (Kd.int .i64)) _ _ x6_1 [.slice Ao11 x6_1.length co11] from (Kd.FK_slice_mk (kB (kA (ok' := (fun k_ => (w.heap.size ≤ k_) ∧ k_ ≠ gb477)) (kD (HO_6.out) BK477.out (by decide)) (fun k_ hk => ⟨hk.1, hk.2⟩))).2.1 (Kd.R_F (kA (ok' := (fun k_ => (w.heap.size ≤ k_) ∧ k_ ≠ gb477)) (kD (HO_6.out) BK477.out (by decide)) (fun k_ hk => ⟨hk.1, hk.2⟩))))) (Reps.none _ _))); intro v486 w12 ho13 hb hg_ hnew_; clear hg_ hnew_; (first | rw [← Ny485.out] at ho13 | (simp only [Int.reduceToNat] at ho13; rw [← Ny485.out] at ho13)); have HO487 := zA (jN ho13 (kP (zT HB.out GE477.out))); replace BK477 := zA (zB1 BK477.out hb); replace HB := zA (kQ (zT HB.out GE477.out) hb); clear HO_6; clear hb ho13))
   go_loopg [8, 9] k1 (fun kq v8 v9 w' => ∃ (x8_2 : List (List Int)) (x9_2 : Int), v9 = .int .i64 x9_2 ∧ Aside0 (spec_l06Tails.l1 kq a1 t478 x8_2 x9_2 a0_0 l0_1 = some r) ∧ Aside0 (kq ≤ k1) ∧ Aside0 (Kd.N (Kd.slice 2 (Kd.int .i64)) 24 w' w.heap.size (fun k_ => (w.heap.size ≤ k_) ∧ k_ ≠ gb477) v8 x8_2) ∧ Aside0 (w'.heap[gb477]? = some (.cells #[.int .i64 a0_0, (.slice A0_1 l0_1.length c0_1)] 26 (0, 0))) ∧ Aside0 (Below w.heap.size w w'))
   case atStart => exact ⟨(y485), (1), zs, H', ⟨Nat.le_refl _⟩, ⟨zPN HO487.out⟩, ⟨zR BK477.out⟩, ⟨zT HB.out GE477.out⟩⟩
   case round =>
    clear H'
    try clear c3
    try clear c7
    try clear c8
    try clear c9
    try clear hcz5_0
    try clear hcz5_1
    try clear hfz5_0
    try clear hfz5_1
    obtain ⟨x8_2, x9_2, rfl, HA, HK2, HO_8, BK477, HB⟩ := hrel
    cases gk with
    | zero => exact absurd HA.out (by simp [spec_l06Tails.l1])
    | succ k2 =>
     have H := HA.out
     clear HA
     simp only [spec_l06Tails.l1] at H
     by_cases c14 : x9_2 ≤ a1
     ·rw [if_pos c14] at H
      have c14b0 : decide (x9_2 ≤ a1) = true := decide_eq_true c14
      clear c14
      obtain ⟨y488, hy488⟩ : ∃ y_ : List Int, y_ = (([] : List Int)) := ⟨_, rfl⟩
      replace H : (spec_l06Tails.l2 k2 a1 t478 x8_2 x9_2 y488 0 a0_0 l0_1) = some r := zy hy488 H
      have Ny488 := zA hy488
      clear hy488
      have H' := zA H
      clear H
      go_wp2_with (first | ((with_reducible refine kS (N := 33) rfl ?_); refine Kd.R_lit (Kd.int .i64) _ 2 ?hg (N := 33) ?hd (xs := ([] : List Int)) (inner := []) (ok := fun _ => True) (okp := fun _ => True) ?hr ?hp (fun _ hk => hk) trivial (kW _ _) (Nat.le_refl _) (by simp) ?_; (case hd => rfl); (case hg => rfl); (case hr => first | (go_simp; done) | (go_simp; rfl)); (case hp => exact (Reps.none _ _)); intro v489 w15 ho16 hb hg_ hnew_; clear hg_ hnew_; (first | rw [← Ny488.out] at ho16 | (simp only [Int.reduceToNat] at ho16; rw [← Ny488.out] at ho16)); replace HO_8 := zA (Kd.N_elder' (zPN HO_8.out) (kC ho16) hb); have HO490 := zA (kI (Kd.R_newM (M := fun k_ => (w.heap.size ≤ k_)) ho16 (kP (zT HB.out GE477.out)) (fun k_ h_ => h_)) (kP (zT HB.out GE477.out))); replace BK477 := zA (zB1 BK477.out hb); replace HB := zA (kQ (zT HB.out GE477.out) hb); clear hb ho16))
      go_loopg [10, 11] k2 (fun kq v10 v11 w' => ∃ (x10_3 : List Int) (x11_3 : Int), v11 = .int .i64 x11_3 ∧ Aside0 (spec_l06Tails.l2 kq a1 t478 x8_2 x9_2 x10_3 x11_3 a0_0 l0_1 = some r) ∧ Aside0 (kq ≤ k2) ∧ Aside0 (Kd.N (Kd.slice 2 (Kd.int .i64)) 24 w' w.heap.size (fun k_ => (w.heap.size ≤ k_) ∧ some k_ ≠ (v10 : Value).ownBlock ∧ k_ ≠ gb477) u8 x8_2) ∧ Aside0 (Kd.R (Kd.int .i64) 2 w' w.heap.size (fun k_ => (w.heap.size ≤ k_)) v10 x10_3) ∧ Aside0 (w'.heap[gb477]? = some (.cells #[.int .i64 a0_0, (.slice A0_1 l0_1.length c0_1)] 26 (0, 0))) ∧ Aside0 (Below w.heap.size w w'))
      case atStart => exact ⟨(y488), (0), zs, H', ⟨Nat.le_refl _⟩, ⟨by (with_reducible repeat (first | apply Kd.N_alloc | apply Kd.N_drewN | apply Kd.N_drew)); exact Kd.N_mono HO_8.out (fun _ hk => ⟨hk.1.1, ⟨hk.2, hk.1.2⟩⟩)⟩, ⟨zPM HO490.out (fun _ hk => hk.1)⟩, ⟨zR BK477.out⟩, ⟨zT HB.out GE477.out⟩⟩
      case round =>
       clear H'
       try clear c1
       try clear c3
       try clear c7
       try clear c8
       try clear c9
       try clear c14
       try clear hcz5_0
       try clear hcz5_1
       try clear hfz5_0
       try clear hfz5_1
       obtain ⟨x10_3, x11_3, rfl, HA, HK3, HO_8, HO_10, BK477, HB⟩ := hrel
       cases gk with
       | zero => exact absurd HA.out (by simp [spec_l06Tails.l2])
       | succ k3 =>
        have H := HA.out
        clear HA
        simp only [spec_l06Tails.l2] at H
        by_cases c17 : x11_3 < t478
        ·rw [if_pos c17] at H
         have c17b0 : decide (x11_3 < t478) = true := decide_eq_true c17
         clear c17
         have H' := zA H
         clear H
         go_wp2
         go_loopg [12, 13] k3 (fun kq v12 v13 w' => ∃ (x12_4 : Int) (x13_4 : Int), v12 = .int .i64 x12_4 ∧ v13 = .int .i64 x13_4 ∧ Aside0 (spec_l06Tails.l3 kq a1 t478 x8_2 x9_2 x10_3 x11_3 x12_4 x13_4 a0_0 l0_1 = some r) ∧ Aside0 (kq ≤ k3) ∧ Aside0 (Kd.N (Kd.slice 2 (Kd.int .i64)) 24 w' w.heap.size (fun k_ => (w.heap.size ≤ k_) ∧ some k_ ≠ (u10 : Value).ownBlock ∧ k_ ≠ gb477) u8 x8_2) ∧ Aside0 (Kd.R (Kd.int .i64) 2 w' w.heap.size (fun k_ => (w.heap.size ≤ k_)) u10 x10_3) ∧ Aside0 (w'.heap[gb477]? = some (.cells #[.int .i64 a0_0, (.slice A0_1 l0_1.length c0_1)] 26 (0, 0))) ∧ Aside0 (Below w.heap.size w w'))
         case atStart => exact ⟨(0), (0), zs, zs, H', ⟨Nat.le_refl _⟩, ⟨zPN HO_8.out⟩, ⟨zP HO_10.out⟩, ⟨zR BK477.out⟩, ⟨zT HB.out GE477.out⟩⟩
         case round =>
          clear H'
          try clear c1
          try clear c3
          try clear c7
          try clear c8
          try clear c9
          try clear c14
          try clear c17
          try clear hcz5_0
          try clear hcz5_1
          try clear hfz5_0
          try clear hfz5_1
          obtain ⟨x12_4, x13_4, rfl, rfl, HA, HK4, HO_8, HO_10, BK477, HB⟩ := hrel
          cases gk with
          | zero => exact absurd HA.out (by simp [spec_l06Tails.l3])
          | succ k4 =>
           have H := HA.out
           clear HA
           simp only [spec_l06Tails.l3] at H
           by_cases c18 : x13_4 < a0_0
           ·rw [if_pos c18] at H
            have c18b0 : decide (x13_4 < a0_0) = true := decide_eq_true c18
            clear c18
            obtain ⟨t500, A19, H⟩ := zb H
            try dsimp only at H
            by_cases c20 : t500 = true
            ·subst c20
             rw [if_pos rfl] at H
             have H' := zA H
             clear H
             obtain ⟨hcz21_0, hcz21_1, hfz21_0, hfz21_1⟩ := zB3 BK477.out
             go_wp2_with (first | (refine zO (some 47) Tryd.func72 #[.int .i64 x11_3, .int .i64 x13_4] ?_; (with_reducible refine (spec_l01Bit.calls x11_3 x13_4 true _ A19.out).mono ?_); rintro e w' ⟨rfl, ⟨nd, rfl⟩⟩; refine ⟨_, rfl, ?_⟩))
             go_roundg k4
             case measure => have := HK1.out; have := HK2.out; have := HK3.out; have := HK4.out; omega
             case rel => exact ⟨(x12_4), (wrap64 (x13_4 + 1)), zs, zs, H', ⟨by have := HK1.out; have := HK2.out; have := HK3.out; have := HK4.out; omega⟩, ⟨zPN HO_8.out⟩, ⟨zP HO_10.out⟩, ⟨zR BK477.out⟩, ⟨zT HB.out GE477.out⟩⟩
            replace c20 := Bool.eq_false_iff.mpr c20
            subst c20
            rw [if_neg (show ¬ (false = true) by decide)] at H
            obtain ⟨ji22, hji22⟩ : ∃ j_ : Int, (wrap64 (x9_2 - 1)) = j_ := ⟨_, rfl⟩
            replace H : (if 0 ≤ (ji22) then (if (ji22) < (x8_2.length : Int) then ((spec_l06After.f a0_0 l0_1 x11_3 x13_4).bind fun t502 => (if 0 ≤ t502 then (if t502 < ((rd_L2 x8_2 (ji22)).length : Int) then (spec_l06Tails.l3 k4 a1 t478 x8_2 x9_2 x10_3 x11_3 (wrap64 (x12_4 + (rd (rd_L2 x8_2 (ji22)) t502))) (wrap64 (x13_4 + 1)) a0_0 l0_1) else (none)) else (none))) else (none)) else (none)) = some r := by first | (rw [hji22] at H; exact H) | (simp only [hji22] at H ⊢; exact H)
            (try rw [hji22] at A19)
            have hji22w : (IntKind.i64.wrap (x9_2 - 1)) = ji22 := (i64_w _).trans hji22
            by_cases c23 : 0 ≤ (ji22)
            ·rw [if_pos c23] at H
             have c23b0 : decide (0 ≤ (ji22)) = true := decide_eq_true c23
             clear c23
             by_cases c24 : (ji22) < (x8_2.length : Int)
             ·rw [if_pos c24] at H
              have c24b0 : decide ((ji22) < (x8_2.length : Int)) = true := decide_eq_true c24
              clear c24
              obtain ⟨t502, A25, H⟩ := zb H
              try dsimp only at H
              by_cases c26 : 0 ≤ t502
              ·rw [if_pos c26] at H
               have c26b0 : decide (0 ≤ t502) = true := decide_eq_true c26
               clear c26
               by_cases c27 : t502 < ((rd_L2 x8_2 (ji22)).length : Int)
               ·rw [if_pos c27] at H
                have c27b0 : decide (t502 < ((rd_L2 x8_2 (ji22)).length : Int)) = true := decide_eq_true c27
                clear c27
                have H' := zA H
                clear H
                obtain ⟨hcz28_0, hcz28_1, hfz28_0, hfz28_1⟩ := zB3 BK477.out
                try go_wp2_with (first | (refine zO (some 47) Tryd.func72 #[.int .i64 x11_3, .int .i64 x13_4] ?_; (with_reducible refine (spec_l01Bit.calls x11_3 x13_4 false _ A19.out).mono ?_); rintro e w' ⟨rfl, ⟨nd, rfl⟩⟩; refine ⟨_, rfl, ?_⟩))
                (try (rw [drewN_self wr]; generalize hq_ : World.drewN wr _ = wr; have n0_ : Aside0 (Kd.R (Kd.int .i64) 2 wr w.heap.size (fun k_ => (w.heap.size ≤ k_)) u10 x10_3) := ⟨by rw [← hq_]; exact (zP HO_10.out)⟩; have n1_ : Aside0 (Kd.N (Kd.slice 2 (Kd.int .i64)) 24 wr w.heap.size (fun k_ => (w.heap.size ≤ k_) ∧ some k_ ≠ (u10 : Value).ownBlock ∧ k_ ≠ gb477) u8 x8_2) := ⟨by rw [← hq_]; exact (zPN HO_8.out)⟩; have n2_ : Aside0 (wr.heap[gb477]? = some (.cells #[.int .i64 a0_0, .slice A0_1 l0_1.length c0_1] 26 (0, 0))) := ⟨by rw [← hq_]; exact (zR BK477.out)⟩; have n3_ : Aside0 (Below w.heap.size w wr) := ⟨by rw [← hq_]; exact (zT HB.out GE477.out)⟩; clear HO_10 HO_8 BK477 HB hq_; have HO_10 := n0_; have HO_8 := n1_; have BK477 := n2_; have HB := n3_; clear n0_ n1_ n2_ n3_))
                replace HO_8 := zA (Kd.N_drew HO_8.out)
                replace HO_10 := zA (zH HO_10.out)
                replace BK477 := zA (zK BK477.out)
                replace HB := zA (zD HB.out)
                obtain ⟨Ao30, co30, eo30⟩ := Kd.N_slice HO_8.out
                (first | subst eo30 | (injection eo30 with f1_ f2_ f3_; have f4_ := f1_.symm; have f5_ := f3_.symm; clear f1_ f2_ f3_; subst f4_; subst f5_))
                have p501 : 0 ≤ ((ji22) : Int) := zd
                have q501 : (ji22) < (x8_2.length : Int) := zd
                obtain ⟨ad501, A501_0, c501_0, e501, hx501_0, hl501_0, hi501_0⟩ := at_L2 (Kd.N_reads' HO_8.out).2.2 (ji22) p501 q501
                cases e501
                obtain ⟨ce501, hce501, hMe501, hcc501⟩ := Kd.N_get HO_8.out [] (ji22) p501 (by first | exact q501 | exact zd | (have e_ := (Kd.N_reads' HO_8.out).1; omega))
                obtain ⟨ua501_0, uc501_0, rfl, ul501_0, ge501_0⟩ := Kd.FK_slice_open hMe501
                have hv501_0 := hcc501 0 _ rfl
                rw [Nat.add_zero, show ((Kd.slice 2 (Kd.int .i64))).sz = 1 from rfl, Nat.mul_one] at hv501_0
                replace hv501_0 := Option.some.inj (hv501_0.symm.trans hx501_0)
                injection hv501_0 with hva_ hvn_ hvc_
                rw [hva_] at ge501_0
                rw [hvc_] at ul501_0
                have HL501_0 := zA (show Kd.V (Kd.int .i64) 2 _ w.heap.size _ _ (rd_L2 x8_2 (ji22)) from Kd.V_mk ul501_0 ge501_0)
                clear hva_ hvn_ hvc_ ge501_0 ul501_0 hcc501 hce501
                have HR501_0 := zA hi501_0
                have HC501_0 := zA hl501_0
                clear hi501_0 hl501_0
                replace p501 := eq_true p501
                replace q501 := eq_true q501
                have p503 : 0 ≤ (t502 : Int) := zd
                have q503 : t502 < ((rd_L2 x8_2 (ji22)).length : Int) := zd
                obtain ⟨ad503, e503, hx503_0⟩ := Kd.at_int (by repeat (first | (with_reducible exact HR501_0.out) | (with_reducible refine Kd.C_alloc ?_ _) | (with_reducible refine Kd.C_drewN ?_ _) | (with_reducible refine Kd.C_drew ?_) | exact HR501_0.out)) t502 p503 q503
                cases e503
                replace p503 := eq_true p503
                replace q503 := eq_true q503
                refine start_ (n := 14) (S := fun w' => w'.cell? ⟨gb477, 0, none⟩ = some (.int .i64 a0_0) ∧ w'.cell? ⟨gb477, 1, none⟩ = some (.slice A0_1 l0_1.length c0_1) ∧ w'.cell? (ad501.add ((ji22)).toNat) = some (.slice (some ad503) (rd_L2 x8_2 (ji22)).length c501_0) ∧ w'.cell? (ad503.add (t502).toNat) = some (.int .i64 (rd (rd_L2 x8_2 (ji22)) t502))) (ds := []) #[false, false, false, false, false, false, false, false, false, false, false, false, false, false] (by kernel_rfl) rfl rfl ⟨(kV BK477.out 0).trans rfl, (kV BK477.out 1).trans rfl, hx501_0, hx503_0⟩ (fun hHeld => ?_); refine with_tabW spec_l06Tails.tab20 spec_l06Tails.bits20 (fun HT_ HW_ => ?_)
                generalize wr.drew = w29 at HO_8 HO_10 BK477 HB HL501_0 HR501_0 hx501_0 hx503_0 hHeld ⊢
                refine zp 0 (some 49) #[true, false, false, false, false, false, false, false, false, false, false, false, false, false] HT_.out ?_
                refine zp 1 (some 50) #[true, true, false, false, false, false, false, false, false, false, false, false, false, false] HT_.out ?_
                refine zp 2 (some 51) #[true, true, true, false, false, false, false, false, false, false, false, false, false, false] HT_.out ?_
                refine zp 3 (some 52) #[true, true, true, true, false, false, false, false, false, false, false, false, false, false] HT_.out ?_
                refine zp 4 (some 53) #[true, true, true, true, true, false, false, false, false, false, false, false, false, false] HT_.out ?_
                refine zp 7 (some 56) #[true, true, true, true, true, false, false, true, false, false, false, false, false, false] HT_.out ?_
                refine zp 8 (some 57) #[true, true, true, true, true, false, false, true, true, false, false, false, false, false] HT_.out ?_
                refine zf 5 (some 54) #[true, true, true, true, true, true, false, true, true, false, false, false, false, false] HT_.out HW_.out hHeld ?_
                refine zf 6 (some 55) #[true, true, true, true, true, true, true, true, true, false, false, false, false, false] HT_.out HW_.out hHeld ?_
                refine one_ (i := 9) (N := some 58) #[true, true, true, true, true, true, true, true, true, true, false, false, false, false] rfl rfl (one_of HT_.out (by kernel_rfl)) (by decide) (fun K hK => ?_)
                refine goes_ Tryd.func73 (by kernel_rfl) rfl #[.agg #[.int .i64 a0_0, .slice A0_1 l0_1.length c0_1], .int .i64 x11_3, .int .i64 x13_4] (by rfl) rfl rfl zg ?_
                with_reducible refine (spec_l06After.calls a0_0 _ _ l0_1 x11_3 x13_4 t502 _ ?side1 ?side2 A25.out).mono ?_
                (case side1 => exact zS (kO HR0_1.out HB.out))
                (case side2 => exact HC0_1.out)
                rintro e w31 ⟨rfl, hb⟩
                have HS2_ := (hb.cell (jG _ _ (hHeld.2.2.1))).trans (hHeld.2.2.1)
                have HS3_ := (hb.cell (jG _ _ (hHeld.2.2.2))).trans (hHeld.2.2.2)
                refine ⟨_, rfl, ?_⟩
                replace HO_8 := zA (kZ (zPN HO_8.out) hb)
                replace HO_10 := zA (kL (zP HO_10.out) hb)
                replace HL501_0 := zA (kG (zPV HL501_0.out) hb)
                replace BK477 := zA (zB1 BK477.out hb)
                replace HR501_0 := zA (kO (by repeat (first | (with_reducible exact HR501_0.out) | (with_reducible refine Kd.C_alloc ?_ _) | (with_reducible refine Kd.C_drewN ?_ _) | (with_reducible refine Kd.C_drew ?_) | exact HR501_0.out)) hb)
                replace HB := zA (kQ (zT HB.out GE477.out) hb)
                (try clear hb)
                (try clear hb2)
                (try clear hk)
                (try clear hi)
                (try clear hgw)
                refine hK.out _ _ ⟨(kV BK477.out 0).trans rfl, (kV BK477.out 1).trans rfl, HS2_, HS3_⟩ (fun hHeld => ?_)
                clear hK K
                refine norm_ (a' := ?_) ?_ ?_
                rotate_left
                ·show Act.put _ (some 58) _ = _
                 simp only [Act.put, zL, zM, zN, i64_w, i32_w]
                 rfl
                refine zp 10 (some 59) #[true, true, true, true, true, true, true, true, true, true, true, false, false, false] HT_.out ?_
                refine zf 11 (some 60) #[true, true, true, true, true, true, true, true, true, true, true, true, false, false] HT_.out HW_.out hHeld ?_
                refine zp 12 (some 61) #[true, true, true, true, true, true, true, true, true, true, true, true, true, false] HT_.out ?_
                refine zp 13 (some 12) #[true, true, true, true, true, true, true, true, true, true, true, true, true, true] HT_.out ?_
                refine done_ (done_of HT_.out (by kernel_rfl)) ?_
                try go_wp2
                go_roundg k4
                case measure => have := HK1.out; have := HK2.out; have := HK3.out; have := HK4.out; omega
                case rel => exact ⟨(wrap64 (x12_4 + (rd (rd_L2 x8_2 (ji22)) t502))), (wrap64 (x13_4 + 1)), (by first | rfl | (simp; done) | (simp only [← hji22] <;> (first | rfl | simp)) | (simp [*]; done)), zs, H', ⟨by have := HK1.out; have := HK2.out; have := HK3.out; have := HK4.out; omega⟩, ⟨zPN HO_8.out⟩, ⟨zP HO_10.out⟩, ⟨zR BK477.out⟩, ⟨zT HB.out GE477.out⟩⟩
               rw [if_neg c27] at H
               exact absurd H (by simp)
              rw [if_neg c26] at H
              exact absurd H (by simp)
             rw [if_neg c24] at H
             exact absurd H (by simp)
            rw [if_neg c23] at H
            exact absurd H (by simp)
           rw [if_neg c18] at H
           have c18b0 : decide (x13_4 < a0_0) = false := decide_eq_false c18
           clear c18
           by_cases c32 : x12_4 > 1000000000000000
           ·rw [if_pos c32] at H
            have c32b0 : decide (1000000000000000 < x12_4) = true := decide_eq_true c32
            clear c32
            by_cases c33 : x10_3.length < 17592186044416
            ·rw [if_pos c33] at H
             have LMc33 := zA c33
             clear c33
             obtain ⟨y494, hy494⟩ : ∃ y_ : List Int, y_ = (x10_3 ++ [1000000000000001]) := ⟨_, rfl⟩
             replace H : (spec_l06Tails.l2 k4 a1 t478 x8_2 x9_2 y494 (wrap64 (x11_3 + 1)) a0_0 l0_1) = some r := zy hy494 H
             have Ny494 := zA hy494
             clear hy494
             have H' := zA H
             clear H
             obtain ⟨hcz34_0, hcz34_1, hfz34_0, hfz34_1⟩ := zB3 BK477.out
             go_wp2_with (first | ((with_reducible refine gate_builtin (b := .append) (xs := #[.tmp 64, .tmp 66]) rfl ?_); at_builtin; refine Kd.R_append (Kd.int .i64) (w0 := w) w.heap.size rfl (.tmp 64) (.tmp 66) 24 2 (.int .i64 0) 8 rfl Tryd.underlying24 info2 rfl (by decide) (by omega) u10 x10_3 1000000000000001 [.int .i64 1000000000000001] (fun k_ => (w.heap.size ≤ k_)) (fun _ => False) rfl rfl ?aP (fun _ hk => hk.elim) ?aF ?aO ?aB ?aS ?aL ?_; (case aP => exact rfl); (case aB => exact (zT HB.out GE477.out)); (case aF => exact (fun k_ hk => (Nat.le_trans (kP (zT HB.out GE477.out)) hk))); (case aO => exact (zP HO_10.out)); (case aS => exact (kP (zT HB.out GE477.out))); (case aL => have := LMc33.out; omega); intro v495 w35 ho hb hg hat; rw [← Ny494.out] at ho; replace HO_8 := zA (Kd.N_afterv (ok := (fun k_ => (w.heap.size ≤ k_) ∧ k_ ≠ gb477)) (by (with_reducible repeat (first | apply Kd.N_alloc | apply Kd.N_drewN | apply Kd.N_drew)); exact Kd.N_mono HO_8.out (fun _ hk => ⟨⟨hk.1, hk.2.2⟩, hk.2.1⟩)) hg hat); replace BK477 := zA (blk_grown (g := gb477) (o := .cells #[.int .i64 a0_0, .slice A0_1 l0_1.length c0_1] 26 (0, 0)) (zR BK477.out) hg (Kd.R_ne HO_10.out BK477.out (by decide))); replace HB := zA (hb); have HO496 := zA (ho); clear HO_10; clear ho hb hg hat))
             go_roundg k4
             case measure => have := HK1.out; have := HK2.out; have := HK3.out; have := HK4.out; omega
             case rel => exact ⟨(y494), (wrap64 (x11_3 + 1)), zs, H', ⟨by have := HK1.out; have := HK2.out; have := HK3.out; have := HK4.out; omega⟩, ⟨by (with_reducible repeat (first | apply Kd.N_alloc | apply Kd.N_drewN | apply Kd.N_drew)); exact Kd.N_mono HO_8.out (fun _ hk => ⟨hk.1.1, ⟨hk.2, hk.1.2⟩⟩)⟩, ⟨zP HO496.out⟩, ⟨zR BK477.out⟩, ⟨zT HB.out GE477.out⟩⟩
            rw [if_neg c33] at H
            exact absurd H (by simp)
           rw [if_neg c32] at H
           have c32b0 : decide (1000000000000000 < x12_4) = false := decide_eq_false c32
           clear c32
           by_cases c36 : x10_3.length < 17592186044416
           ·rw [if_pos c36] at H
            have LMc36 := zA c36
            clear c36
            obtain ⟨y497, hy497⟩ : ∃ y_ : List Int, y_ = (x10_3 ++ [x12_4]) := ⟨_, rfl⟩
            replace H : (spec_l06Tails.l2 k4 a1 t478 x8_2 x9_2 y497 (wrap64 (x11_3 + 1)) a0_0 l0_1) = some r := zy hy497 H
            have Ny497 := zA hy497
            clear hy497
            have H' := zA H
            clear H
            obtain ⟨hcz37_0, hcz37_1, hfz37_0, hfz37_1⟩ := zB3 BK477.out
            go_wp2_with (first | ((with_reducible refine gate_builtin (b := .append) (xs := #[.tmp 64, .tmp 66]) rfl ?_); at_builtin; refine Kd.R_append (Kd.int .i64) (w0 := w) w.heap.size rfl (.tmp 64) (.tmp 66) 24 2 (.int .i64 0) 8 rfl Tryd.underlying24 info2 rfl (by decide) (by omega) u10 x10_3 x12_4 [.int .i64 x12_4] (fun k_ => (w.heap.size ≤ k_)) (fun _ => False) rfl rfl ?aP (fun _ hk => hk.elim) ?aF ?aO ?aB ?aS ?aL ?_; (case aP => exact rfl); (case aB => exact (zT HB.out GE477.out)); (case aF => exact (fun k_ hk => (Nat.le_trans (kP (zT HB.out GE477.out)) hk))); (case aO => exact (zP HO_10.out)); (case aS => exact (kP (zT HB.out GE477.out))); (case aL => have := LMc36.out; omega); intro v498 w38 ho hb hg hat; rw [← Ny497.out] at ho; replace HO_8 := zA (Kd.N_afterv (ok := (fun k_ => (w.heap.size ≤ k_) ∧ k_ ≠ gb477)) (by (with_reducible repeat (first | apply Kd.N_alloc | apply Kd.N_drewN | apply Kd.N_drew)); exact Kd.N_mono HO_8.out (fun _ hk => ⟨⟨hk.1, hk.2.2⟩, hk.2.1⟩)) hg hat); replace BK477 := zA (blk_grown (g := gb477) (o := .cells #[.int .i64 a0_0, .slice A0_1 l0_1.length c0_1] 26 (0, 0)) (zR BK477.out) hg (Kd.R_ne HO_10.out BK477.out (by decide))); replace HB := zA (hb); have HO499 := zA (ho); clear HO_10; clear ho hb hg hat))
            go_roundg k4
            case measure => have := HK1.out; have := HK2.out; have := HK3.out; have := HK4.out; omega
            case rel => exact ⟨(y497), (wrap64 (x11_3 + 1)), zs, H', ⟨by have := HK1.out; have := HK2.out; have := HK3.out; have := HK4.out; omega⟩, ⟨by (with_reducible repeat (first | apply Kd.N_alloc | apply Kd.N_drewN | apply Kd.N_drew)); exact Kd.N_mono HO_8.out (fun _ hk => ⟨hk.1.1, ⟨hk.2, hk.1.2⟩⟩)⟩, ⟨zP HO499.out⟩, ⟨zR BK477.out⟩, ⟨zT HB.out GE477.out⟩⟩
           rw [if_neg c36] at H
           exact absurd H (by simp)
        rw [if_neg c17] at H
        have c17b0 : decide (x11_3 < t478) = false := decide_eq_false c17
        clear c17
        by_cases c39 : x8_2.length < 5864062014805
        ·rw [if_pos c39] at H
         have LMc39 := zA c39
         clear c39
         obtain ⟨y491, hy491⟩ : ∃ y_ : List (List Int), y_ = (x8_2 ++ [x10_3]) := ⟨_, rfl⟩
         replace H : (spec_l06Tails.l1 k3 a1 t478 y491 (wrap64 (x9_2 + 1)) a0_0 l0_1) = some r := zy hy491 H
         have Ny491 := zA hy491
         clear hy491
         have H' := zA H
         clear H
         obtain ⟨Ao41, co41, eo41⟩ := kM HO_10.out
         subst eo41
         go_wp2_with (first | ((with_reducible refine gate_builtin (b := .append) (xs := #[.tmp 68, .tmp 70]) rfl ?_); at_builtin; refine Kd.N_append (Kd.slice 2 (Kd.int .i64)) (w0 := w) w.heap.size rfl (.tmp 68) (.tmp 70) 41 24 (.slice none 0 0) 24 rfl Tryd.underlying41 info24 rfl (by decide) (by omega) u8 x8_2 x10_3 [.slice Ao41 x10_3.length co41] (fun k_ => (w.heap.size ≤ k_) ∧ k_ ≠ gb477) (fun k_ => ((fun k_ => (w.heap.size ≤ k_) ∧ k_ ≠ gb477)) k_ ∧ some k_ ≠ (u8 : Value).ownBlock) rfl rfl ?aP (fun _ hk => hk) ?aF ?aO ?aB ?aS ?aL ?_; (case aP => exact (Kd.FK_slice_mk (kB (kA (ok' := (fun k_ => ((fun k_ => (w.heap.size ≤ k_) ∧ k_ ≠ gb477)) k_ ∧ some k_ ≠ (u8 : Value).ownBlock)) (kD (Kd.R_apart' (HO_10.out) (Kd.N_typed HO_8.out) (by decide)) BK477.out (by decide)) (fun k_ hk => ⟨⟨hk.1.1, hk.2⟩, hk.1.2⟩))).2.1 (Kd.R_F (kA (ok' := (fun k_ => ((fun k_ => (w.heap.size ≤ k_) ∧ k_ ≠ gb477)) k_ ∧ some k_ ≠ (u8 : Value).ownBlock)) (kD (Kd.R_apart' (HO_10.out) (Kd.N_typed HO_8.out) (by decide)) BK477.out (by decide)) (fun k_ hk => ⟨⟨hk.1.1, hk.2⟩, hk.1.2⟩))))); (case aB => exact (zT HB.out GE477.out)); (case aF => exact (fun k_ hk => ⟨(Nat.le_trans (kP (zT HB.out GE477.out)) hk), jE (g := gb477) (o := .cells #[.int .i64 a0_0, .slice A0_1 l0_1.length c0_1] 26 (0, 0)) (zR BK477.out) k_ hk⟩)); (case aO => exact (by (with_reducible repeat (first | apply Kd.N_alloc | apply Kd.N_drewN | apply Kd.N_drew)); exact Kd.N_mono HO_8.out (fun _ hk => ⟨hk.1, hk.2.2⟩))); (case aS => exact (kP (zT HB.out GE477.out))); (case aL => have := LMc39.out; omega); intro v492 w40 ho hb hg hat; rw [← Ny491.out] at ho; replace BK477 := zA (blk_grown (g := gb477) (o := .cells #[.int .i64 a0_0, .slice A0_1 l0_1.length c0_1] 26 (0, 0)) (zR BK477.out) hg (Kd.N_ne HO_8.out BK477.out (by decide))); replace HB := zA (hb); have HO493 := zA (ho); clear HO_8 HO_10; clear ho hb hg hat))
         go_roundg k3
         case measure => have := HK1.out; have := HK2.out; have := HK3.out; omega
         case rel => exact ⟨(y491), (wrap64 (x9_2 + 1)), zs, H', ⟨by have := HK1.out; have := HK2.out; have := HK3.out; omega⟩, ⟨zPN HO493.out⟩, ⟨zR BK477.out⟩, ⟨zT HB.out GE477.out⟩⟩
        rw [if_neg c39] at H
        exact absurd H (by simp)
     rw [if_neg c14] at H
     have c14b0 : decide (x9_2 ≤ a1) = false := decide_eq_false c14
     clear c14
     obtain rfl := Option.some.inj H
     go_wp2
     go_ret
     exact ⟨_, zr, by (with_reducible repeat (first | apply Kd.N_alloc | apply Kd.N_drewN | apply Kd.N_drew)); exact Kd.N_mono HO_8.out (fun _ hk => hk.1), zT HB.out GE477.out⟩

/-! ### spec_l06Many: function 36 -/
def spec_l06Many.f (k : Nat) (a0_0 : Int) (l0_1 : List Int) (a1 : Int) : Option (Int) := (spec_l06Tails.f k a0_0 l0_1 a1).bind fun t505 => (if 0 ≤ a1 then (if a1 < (t505.length : Int) then (if 0 < ((rd_L2 t505 a1).length : Int) then (if (rd (rd_L2 t505 a1) 0) > 1000000000000000 then (some 3) else (some 0)) else (none)) else (none)) else (none))

set_option maxHeartbeats 8000000 in
set_option maxRecDepth 100000 in
theorem spec_l06Many.calls (k : Nat) (a0_0 : Int) (A0_1 : Option Addr) (c0_1 : Nat) (l0_1 : List Int) (a1 : Int) (r : Int) (w : World) (hr0_1 : Kd.C (Kd.int .i64) w A0_1 l0_1.length l0_1) (hc0_1 : l0_1.length ≤ c0_1) (h : spec_l06Many.f k a0_0 l0_1 a1 = some r) :
  Calls Tryd.prog 36 #[.agg #[.int .i64 a0_0, .slice A0_1 l0_1.length c0_1], .int .i64 a1] w fun e w' => e = .returned (.int .i64 r) ∧ Below w.heap.size w w' := by
 have hu26 := Tryd.underlying26
 have HR0_1 := zA hr0_1
 have HC0_1 := zA hc0_1
 clear hr0_1 hc0_1
 have HB := zA (kW w.heap.size w)
 have H := h
 unfold spec_l06Many.f at H
 clear h
 obtain ⟨t505, A3, H⟩ := zb H
 try dsimp only at H
 by_cases c4 : 0 ≤ a1
 ·rw [if_pos c4] at H
  have c4b0 : decide (0 ≤ a1) = true := decide_eq_true c4
  clear c4
  by_cases c5 : a1 < (t505.length : Int)
  ·rw [if_pos c5] at H
   have c5b0 : decide (a1 < (t505.length : Int)) = true := decide_eq_true c5
   clear c5
   by_cases c6 : 0 < ((rd_L2 t505 a1).length : Int)
   ·rw [if_pos c6] at H
    have c6b0 : decide (0 < ((rd_L2 t505 a1).length : Int)) = true := decide_eq_true c6
    have c6b1 : decide (0 < (rd_L2 t505 a1).length) = true := decide_eq_true (by omega)
    clear c6
    by_cases c7 : (rd (rd_L2 t505 a1) 0) > 1000000000000000
    ·rw [if_pos c7] at H
     have c7b0 : decide (1000000000000000 < (rd (rd_L2 t505 a1) 0)) = true := decide_eq_true c7
     clear c7
     obtain rfl := Option.some.inj H
     go_enter Tryd.func36, Tryd.ntmps36
     go_wp2_with (first | (refine zBE 2 #[.int .i64 a0_0, .slice A0_1 l0_1.length c0_1] 26 ?_; intro gb504 hg w8 hbox hb; have BK504 := zA (hbox); have GW504 := zA (zBH hg HB.out); have GE504 := zA (zBH hg HB.out); replace HB := zA (kQ (zQ HB.out) hb); clear hb hbox hg; obtain ⟨hcz9_0, hcz9_1, hfz9_0, hfz9_1⟩ := zB3 BK504.out) | (refine zO (some 7) Tryd.func37 #[.agg #[.int .i64 a0_0, .slice A0_1 l0_1.length c0_1], .int .i64 a1] ?_; (with_reducible refine (spec_l06Tails.calls k a0_0 _ _ l0_1 a1 t505 _ ?side1 ?side2 A3.out).mono ?_); (case side1 => exact zS (kO HR0_1.out HB.out)); (case side2 => exact HC0_1.out); rintro e w10 ⟨v506, rfl, ho0, hb⟩; refine ⟨_, rfl, ?_⟩; have HO507 := zA (jN (Kd.N_mono (ok' := fun k_ => k_ ≠ gb504) ho0 (fun k_ hk_ => (jE (g := gb504) (o := .cells #[.int .i64 a0_0, .slice A0_1 l0_1.length c0_1] 26 (0, 0)) (zR BK504.out) k_ hk_))) (kP (zT HB.out GE504.out))); replace BK504 := zA (zB1 BK504.out hb); replace HB := zA (kQ (zT HB.out GE504.out) hb); (try clear hb); (try clear ho0); obtain ⟨Ao11, co11, eo11⟩ := Kd.N_slice HO507.out; subst eo11; have p508 : 0 ≤ (a1 : Int) := zd; have q508 : a1 < (t505.length : Int) := zd; obtain ⟨ad508, A508_0, c508_0, e508, hx508_0, hl508_0, hi508_0⟩ := at_L2 (Kd.N_reads' HO507.out).2.2 a1 p508 q508; cases e508; obtain ⟨ce508, hce508, hMe508, hcc508⟩ := Kd.N_get HO507.out [] a1 p508 (by first | exact q508 | exact zd | (have e_ := (Kd.N_reads' HO507.out).1; omega)); obtain ⟨ua508_0, uc508_0, rfl, ul508_0, ge508_0⟩ := Kd.FK_slice_open hMe508; have hv508_0 := hcc508 0 _ rfl; rw [Nat.add_zero, show ((Kd.slice 2 (Kd.int .i64))).sz = 1 from rfl, Nat.mul_one] at hv508_0; replace hv508_0 := Option.some.inj (hv508_0.symm.trans hx508_0); injection hv508_0 with hva_ hvn_ hvc_; rw [hva_] at ge508_0; rw [hvc_] at ul508_0; have HL508_0 := zA (show Kd.V (Kd.int .i64) 2 _ w.heap.size _ _ (rd_L2 t505 a1) from Kd.V_mk ul508_0 ge508_0); clear hva_ hvn_ hvc_ ge508_0 ul508_0; clear hcc508 hce508; have HR508_0 := zA hi508_0; have HC508_0 := zA hl508_0; clear hi508_0 hl508_0; replace p508 := eq_true p508; replace q508 := eq_true q508; have p509 : 0 ≤ (0 : Int) := (by omega); have q509 : 0 < ((rd_L2 t505 a1).length : Int) := zd; obtain ⟨ad509, e509, hx509_0⟩ := Kd.at_int (by repeat (first | (with_reducible exact HR508_0.out) | (with_reducible refine Kd.C_alloc ?_ _) | (with_reducible refine Kd.C_drewN ?_ _) | (with_reducible refine Kd.C_drew ?_) | exact HR508_0.out)) 0 p509 q509; cases e509; have qi509 : (0 < (rd_L2 t505 a1).length) = True := eq_true (by omega); (try rw [show ((0 : Int)).toNat = 0 from rfl] at hx509_0); (try rw [Addr.add_zero'] at hx509_0); replace p509 := eq_true p509; replace q509 := eq_true q509))
     go_ret
     exact ⟨zr, zT HB.out GE504.out⟩
    rw [if_neg c7] at H
    have c7b0 : decide (1000000000000000 < (rd (rd_L2 t505 a1) 0)) = false := decide_eq_false c7
    clear c7
    obtain rfl := Option.some.inj H
    go_enter Tryd.func36, Tryd.ntmps36
    go_wp2_with (first | (refine zBE 2 #[.int .i64 a0_0, .slice A0_1 l0_1.length c0_1] 26 ?_; intro gb504 hg w12 hbox hb; have BK504 := zA (hbox); have GW504 := zA (zBH hg HB.out); have GE504 := zA (zBH hg HB.out); replace HB := zA (kQ (zQ HB.out) hb); clear hb hbox hg; obtain ⟨hcz13_0, hcz13_1, hfz13_0, hfz13_1⟩ := zB3 BK504.out) | (refine zO (some 7) Tryd.func37 #[.agg #[.int .i64 a0_0, .slice A0_1 l0_1.length c0_1], .int .i64 a1] ?_; (with_reducible refine (spec_l06Tails.calls k a0_0 _ _ l0_1 a1 t505 _ ?side1 ?side2 A3.out).mono ?_); (case side1 => exact zS (kO HR0_1.out HB.out)); (case side2 => exact HC0_1.out); rintro e w14 ⟨v506, rfl, ho0, hb⟩; refine ⟨_, rfl, ?_⟩; have HO507 := zA (jN (Kd.N_mono (ok' := fun k_ => k_ ≠ gb504) ho0 (fun k_ hk_ => (jE (g := gb504) (o := .cells #[.int .i64 a0_0, .slice A0_1 l0_1.length c0_1] 26 (0, 0)) (zR BK504.out) k_ hk_))) (kP (zT HB.out GE504.out))); replace BK504 := zA (zB1 BK504.out hb); replace HB := zA (kQ (zT HB.out GE504.out) hb); (try clear hb); (try clear ho0); obtain ⟨Ao15, co15, eo15⟩ := Kd.N_slice HO507.out; subst eo15; have p508 : 0 ≤ (a1 : Int) := zd; have q508 : a1 < (t505.length : Int) := zd; obtain ⟨ad508, A508_0, c508_0, e508, hx508_0, hl508_0, hi508_0⟩ := at_L2 (Kd.N_reads' HO507.out).2.2 a1 p508 q508; cases e508; obtain ⟨ce508, hce508, hMe508, hcc508⟩ := Kd.N_get HO507.out [] a1 p508 (by first | exact q508 | exact zd | (have e_ := (Kd.N_reads' HO507.out).1; omega)); obtain ⟨ua508_0, uc508_0, rfl, ul508_0, ge508_0⟩ := Kd.FK_slice_open hMe508; have hv508_0 := hcc508 0 _ rfl; rw [Nat.add_zero, show ((Kd.slice 2 (Kd.int .i64))).sz = 1 from rfl, Nat.mul_one] at hv508_0; replace hv508_0 := Option.some.inj (hv508_0.symm.trans hx508_0); injection hv508_0 with hva_ hvn_ hvc_; rw [hva_] at ge508_0; rw [hvc_] at ul508_0; have HL508_0 := zA (show Kd.V (Kd.int .i64) 2 _ w.heap.size _ _ (rd_L2 t505 a1) from Kd.V_mk ul508_0 ge508_0); clear hva_ hvn_ hvc_ ge508_0 ul508_0; clear hcc508 hce508; have HR508_0 := zA hi508_0; have HC508_0 := zA hl508_0; clear hi508_0 hl508_0; replace p508 := eq_true p508; replace q508 := eq_true q508; have p509 : 0 ≤ (0 : Int) := (by omega); have q509 : 0 < ((rd_L2 t505 a1).length : Int) := zd; obtain ⟨ad509, e509, hx509_0⟩ := Kd.at_int (by repeat (first | (with_reducible exact HR508_0.out) | (with_reducible refine Kd.C_alloc ?_ _) | (with_reducible refine Kd.C_drewN ?_ _) | (with_reducible refine Kd.C_drew ?_) | exact HR508_0.out)) 0 p509 q509; cases e509; have qi509 : (0 < (rd_L2 t505 a1).length) = True := eq_true (by omega); (try rw [show ((0 : Int)).toNat = 0 from rfl] at hx509_0); (try rw [Addr.add_zero'] at hx509_0); replace p509 := eq_true p509; replace q509 := eq_true q509))
    go_ret
    exact ⟨zr, zT HB.out GE504.out⟩
   rw [if_neg c6] at H
   exact absurd H (by simp)
  rw [if_neg c5] at H
  exact absurd H (by simp)
 rw [if_neg c4] at H
 exact absurd H (by simp)

/-! ### spec_CountTraces: function 10 -/
def spec_CountTraces.f (k : Nat) (a0_0 : Int) (l0_1 : List Int) (a1 : Int) : Option (Int × Int) := (spec_l06Code.f k a0_0 l0_1 a1).bind fun t511 => (if t511 = 0 then ((spec_l06Many.f k a0_0 l0_1 a1).bind fun t512 => (if t512 = 0 then ((spec_l06Tails.f k a0_0 l0_1 a1).bind fun t513 => (if 0 ≤ a1 then (if a1 < (t513.length : Int) then (if 0 < ((rd_L2 t513 a1).length : Int) then (some (rd (rd_L2 t513 a1) 0, 0)) else (none)) else (none)) else (none))) else (some (0, t512)))) else (some (0, t511)))

set_option maxHeartbeats 8000000 in
set_option maxRecDepth 100000 in
theorem spec_CountTraces.calls (k : Nat) (a0_0 : Int) (A0_1 : Option Addr) (c0_1 : Nat) (l0_1 : List Int) (a1 : Int) (r1 : Int) (r2 : Int) (w : World) (hr0_1 : Kd.C (Kd.int .i64) w A0_1 l0_1.length l0_1) (hc0_1 : l0_1.length ≤ c0_1) (h : spec_CountTraces.f k a0_0 l0_1 a1 = some (r1, r2)) :
  Calls Tryd.prog 10 #[.agg #[.int .i64 a0_0, .slice A0_1 l0_1.length c0_1], .int .i64 a1] w fun e w' => e = .returned (.tuple #[.int .i64 r1, .int .i64 r2]) ∧ Below w.heap.size w w' := by
 have hu26 := Tryd.underlying26
 have HR0_1 := zA hr0_1
 have HC0_1 := zA hc0_1
 clear hr0_1 hc0_1
 have HB := zA (kW w.heap.size w)
 have H := h
 unfold spec_CountTraces.f at H
 clear h
 obtain ⟨t511, A3, H⟩ := zb H
 try dsimp only at H
 by_cases c4 : t511 = 0
 ·rw [if_pos c4] at H
  obtain ⟨c4b0, c4b1⟩ := zT1 c4
  clear c4
  obtain ⟨t512, A5, H⟩ := zb H
  try dsimp only at H
  by_cases c6 : t512 = 0
  ·rw [if_pos c6] at H
   obtain ⟨c6b0, c6b1⟩ := zT1 c6
   clear c6
   obtain ⟨t513, A7, H⟩ := zb H
   try dsimp only at H
   by_cases c8 : 0 ≤ a1
   ·rw [if_pos c8] at H
    have c8b0 : decide (0 ≤ a1) = true := decide_eq_true c8
    clear c8
    by_cases c9 : a1 < (t513.length : Int)
    ·rw [if_pos c9] at H
     have c9b0 : decide (a1 < (t513.length : Int)) = true := decide_eq_true c9
     clear c9
     by_cases c10 : 0 < ((rd_L2 t513 a1).length : Int)
     ·rw [if_pos c10] at H
      have c10b0 : decide (0 < ((rd_L2 t513 a1).length : Int)) = true := decide_eq_true c10
      have c10b1 : decide (0 < (rd_L2 t513 a1).length) = true := decide_eq_true (by omega)
      clear c10
      simp only [Option.some.injEq, Prod.mk.injEq] at H
      obtain ⟨rfl, rfl⟩ := H
      go_enter Tryd.func10, Tryd.ntmps10
      go_wp2_with (first | (refine zBE 2 #[.int .i64 a0_0, .slice A0_1 l0_1.length c0_1] 26 ?_; intro gb510 hg w11 hbox hb; have BK510 := zA (hbox); have GW510 := zA (zBH hg HB.out); have GE510 := zA (zBH hg HB.out); replace HB := zA (kQ (zQ HB.out) hb); clear hb hbox hg; obtain ⟨hcz12_0, hcz12_1, hfz12_0, hfz12_1⟩ := zB3 BK510.out) | (refine zO (some 9) Tryd.func35 #[.agg #[.int .i64 a0_0, .slice A0_1 l0_1.length c0_1], .int .i64 a1] ?_; (with_reducible refine (spec_l06Code.calls k a0_0 _ _ l0_1 a1 t511 _ ?side1 ?side2 A3.out).mono ?_); (case side1 => exact zS (kO HR0_1.out HB.out)); (case side2 => exact HC0_1.out); rintro e w13 ⟨rfl, hb⟩; refine ⟨_, rfl, ?_⟩; replace BK510 := zA (zB1 BK510.out hb); replace HB := zA (kQ (zT HB.out GE510.out) hb); (try clear hb); obtain ⟨hcz14_0, hcz14_1, hfz14_0, hfz14_1⟩ := zB3 BK510.out) | (refine zO (some 14) Tryd.func36 #[.agg #[.int .i64 a0_0, .slice A0_1 l0_1.length c0_1], .int .i64 a1] ?_; (with_reducible refine (spec_l06Many.calls k a0_0 _ _ l0_1 a1 t512 _ ?side1 ?side2 A5.out).mono ?_); (case side1 => exact zS (kO HR0_1.out HB.out)); (case side2 => exact HC0_1.out); rintro e w15 ⟨rfl, hb⟩; refine ⟨_, rfl, ?_⟩; replace BK510 := zA (zB1 BK510.out hb); replace HB := zA (kQ (zT HB.out GE510.out) hb); (try clear hb); obtain ⟨hcz16_0, hcz16_1, hfz16_0, hfz16_1⟩ := zB3 BK510.out) | (refine zO (some 20) Tryd.func37 #[.agg #[.int .i64 a0_0, .slice A0_1 l0_1.length c0_1], .int .i64 a1] ?_; (with_reducible refine (spec_l06Tails.calls k a0_0 _ _ l0_1 a1 t513 _ ?side1 ?side2 A7.out).mono ?_); (case side1 => exact zS (kO HR0_1.out HB.out)); (case side2 => exact HC0_1.out); rintro e w17 ⟨v514, rfl, ho0, hb⟩; refine ⟨_, rfl, ?_⟩; have HO515 := zA (jN (Kd.N_mono (ok' := fun k_ => k_ ≠ gb510) ho0 (fun k_ hk_ => (jE (g := gb510) (o := .cells #[.int .i64 a0_0, .slice A0_1 l0_1.length c0_1] 26 (0, 0)) (zR BK510.out) k_ hk_))) (kP (zT HB.out GE510.out))); replace BK510 := zA (zB1 BK510.out hb); replace HB := zA (kQ (zT HB.out GE510.out) hb); (try clear hb); (try clear ho0); obtain ⟨Ao18, co18, eo18⟩ := Kd.N_slice HO515.out; subst eo18; have p516 : 0 ≤ (a1 : Int) := zd; have q516 : a1 < (t513.length : Int) := zd; obtain ⟨ad516, A516_0, c516_0, e516, hx516_0, hl516_0, hi516_0⟩ := at_L2 (Kd.N_reads' HO515.out).2.2 a1 p516 q516; cases e516; obtain ⟨ce516, hce516, hMe516, hcc516⟩ := Kd.N_get HO515.out [] a1 p516 (by first | exact q516 | exact zd | (have e_ := (Kd.N_reads' HO515.out).1; omega)); obtain ⟨ua516_0, uc516_0, rfl, ul516_0, ge516_0⟩ := Kd.FK_slice_open hMe516; have hv516_0 := hcc516 0 _ rfl; rw [Nat.add_zero, show ((Kd.slice 2 (Kd.int .i64))).sz = 1 from rfl, Nat.mul_one] at hv516_0; replace hv516_0 := Option.some.inj (hv516_0.symm.trans hx516_0); injection hv516_0 with hva_ hvn_ hvc_; rw [hva_] at ge516_0; rw [hvc_] at ul516_0; have HL516_0 := zA (show Kd.V (Kd.int .i64) 2 _ w.heap.size _ _ (rd_L2 t513 a1) from Kd.V_mk ul516_0 ge516_0); clear hva_ hvn_ hvc_ ge516_0 ul516_0; clear hcc516 hce516; have HR516_0 := zA hi516_0; have HC516_0 := zA hl516_0; clear hi516_0 hl516_0; replace p516 := eq_true p516; replace q516 := eq_true q516; have p517 : 0 ≤ (0 : Int) := (by omega); have q517 : 0 < ((rd_L2 t513 a1).length : Int) := zd; obtain ⟨ad517, e517, hx517_0⟩ := Kd.at_int (by repeat (first | (with_reducible exact HR516_0.out) | (with_reducible refine Kd.C_alloc ?_ _) | (with_reducible refine Kd.C_drewN ?_ _) | (with_reducible refine Kd.C_drew ?_) | exact HR516_0.out)) 0 p517 q517; cases e517; have qi517 : (0 < (rd_L2 t513 a1).length) = True := eq_true (by omega); (try rw [show ((0 : Int)).toNat = 0 from rfl] at hx517_0); (try rw [Addr.add_zero'] at hx517_0); replace p517 := eq_true p517; replace q517 := eq_true q517))
      go_ret2
      exact ⟨zr, zT HB.out GE510.out⟩
     rw [if_neg c10] at H
     exact absurd H (by simp)
    rw [if_neg c9] at H
    exact absurd H (by simp)
   rw [if_neg c8] at H
   exact absurd H (by simp)
  rw [if_neg c6] at H
  obtain ⟨c6b0, c6b1⟩ := zT2 c6
  simp only [Option.some.injEq, Prod.mk.injEq] at H
  obtain ⟨rfl, rfl⟩ := H
  go_enter Tryd.func10, Tryd.ntmps10
  go_wp2_with (first | (refine zBE 2 #[.int .i64 a0_0, .slice A0_1 l0_1.length c0_1] 26 ?_; intro gb510 hg w19 hbox hb; have BK510 := zA (hbox); have GW510 := zA (zBH hg HB.out); have GE510 := zA (zBH hg HB.out); replace HB := zA (kQ (zQ HB.out) hb); clear hb hbox hg; obtain ⟨hcz20_0, hcz20_1, hfz20_0, hfz20_1⟩ := zB3 BK510.out) | (refine zO (some 9) Tryd.func35 #[.agg #[.int .i64 a0_0, .slice A0_1 l0_1.length c0_1], .int .i64 a1] ?_; (with_reducible refine (spec_l06Code.calls k a0_0 _ _ l0_1 a1 t511 _ ?side1 ?side2 A3.out).mono ?_); (case side1 => exact zS (kO HR0_1.out HB.out)); (case side2 => exact HC0_1.out); rintro e w21 ⟨rfl, hb⟩; refine ⟨_, rfl, ?_⟩; replace BK510 := zA (zB1 BK510.out hb); replace HB := zA (kQ (zT HB.out GE510.out) hb); (try clear hb); obtain ⟨hcz22_0, hcz22_1, hfz22_0, hfz22_1⟩ := zB3 BK510.out) | (refine zO (some 14) Tryd.func36 #[.agg #[.int .i64 a0_0, .slice A0_1 l0_1.length c0_1], .int .i64 a1] ?_; (with_reducible refine (spec_l06Many.calls k a0_0 _ _ l0_1 a1 t512 _ ?side1 ?side2 A5.out).mono ?_); (case side1 => exact zS (kO HR0_1.out HB.out)); (case side2 => exact HC0_1.out); rintro e w23 ⟨rfl, hb⟩; refine ⟨_, rfl, ?_⟩; replace BK510 := zA (zB1 BK510.out hb); replace HB := zA (kQ (zT HB.out GE510.out) hb); (try clear hb)))
  go_ret2
  exact ⟨zr, zT HB.out GE510.out⟩
 rw [if_neg c4] at H
 obtain ⟨c4b0, c4b1⟩ := zT2 c4
 simp only [Option.some.injEq, Prod.mk.injEq] at H
 obtain ⟨rfl, rfl⟩ := H
 go_enter Tryd.func10, Tryd.ntmps10
 go_wp2_with (first | (refine zBE 2 #[.int .i64 a0_0, .slice A0_1 l0_1.length c0_1] 26 ?_; intro gb510 hg w24 hbox hb; have BK510 := zA (hbox); have GW510 := zA (zBH hg HB.out); have GE510 := zA (zBH hg HB.out); replace HB := zA (kQ (zQ HB.out) hb); clear hb hbox hg; obtain ⟨hcz25_0, hcz25_1, hfz25_0, hfz25_1⟩ := zB3 BK510.out) | (refine zO (some 9) Tryd.func35 #[.agg #[.int .i64 a0_0, .slice A0_1 l0_1.length c0_1], .int .i64 a1] ?_; (with_reducible refine (spec_l06Code.calls k a0_0 _ _ l0_1 a1 t511 _ ?side1 ?side2 A3.out).mono ?_); (case side1 => exact zS (kO HR0_1.out HB.out)); (case side2 => exact HC0_1.out); rintro e w26 ⟨rfl, hb⟩; refine ⟨_, rfl, ?_⟩; replace BK510 := zA (zB1 BK510.out hb); replace HB := zA (kQ (zT HB.out GE510.out) hb); (try clear hb)))
 go_ret2
 exact ⟨zr, zT HB.out GE510.out⟩

/-! ### impl_CliquePolynomial: function 11 -/
def impl_CliquePolynomial.f (k : Nat) (a0_0 : Int) (l0_1 : List Int) : Option (List Int × Int) := (impl_IsAlphabet.f k a0_0 l0_1).bind fun t519 => (if t519 = true then ((impl_cliquePolynomial.f k a0_0 l0_1).bind fun t520 => (some (t520, 0))) else (some (([] : List Int), 1)))

set_option maxHeartbeats 8000000 in
set_option maxRecDepth 100000 in
theorem impl_CliquePolynomial.calls (k : Nat) (a0_0 : Int) (A0_1 : Option Addr) (c0_1 : Nat) (l0_1 : List Int) (r1 : List Int) (r2 : Int) (w : World) (hr0_1 : Kd.C (Kd.int .i64) w A0_1 l0_1.length l0_1) (hc0_1 : l0_1.length ≤ c0_1) (hT : TabW w) (h : impl_CliquePolynomial.f k a0_0 l0_1 = some (r1, r2)) :
  Calls Tryd.prog 11 #[.agg #[.int .i64 a0_0, .slice A0_1 l0_1.length c0_1]] w fun e w' => ∃ v0_ : Value, e = .returned (.tuple #[v0_, .int .i64 r2]) ∧ Kd.R (Kd.int .i64) 2 w' w.heap.size (fun _ => True) v0_ r1 ∧ Below w.heap.size w w' := by
 have hu26 := Tryd.underlying26
 have HT := zA hT
 clear hT
 have HR0_1 := zA hr0_1
 have HC0_1 := zA hc0_1
 clear hr0_1 hc0_1
 have HB := zA (kW w.heap.size w)
 have H := h
 unfold impl_CliquePolynomial.f at H
 clear h
 obtain ⟨t519, A2, H⟩ := zb H
 try dsimp only at H
 by_cases c3 : t519 = true
 ·subst c3
  rw [if_pos rfl] at H
  obtain ⟨t520, A4, H⟩ := zb H
  try dsimp only at H
  simp only [Option.some.injEq, Prod.mk.injEq] at H
  obtain ⟨rfl, rfl⟩ := H
  go_enter Tryd.func11, Tryd.ntmps11
  go_wp2_with (first | (refine zBE 1 #[.int .i64 a0_0, .slice A0_1 l0_1.length c0_1] 26 ?_; intro gb518 hg w5 hbox hb; have BK518 := zA (hbox); have GW518 := zA (zBH hg HB.out); have GE518 := zA (zBH hg HB.out); replace HB := zA (kQ (zQ HB.out) hb); clear hb hbox hg; obtain ⟨hcz6_0, hcz6_1, hfz6_0, hfz6_1⟩ := zB3 BK518.out) | (refine zO (some 5) Tryd.func38 #[.agg #[.int .i64 a0_0, .slice A0_1 l0_1.length c0_1]] ?_; (with_reducible refine (impl_IsAlphabet.calls k a0_0 _ _ l0_1 true _ ?side1 ?side2 ?side3 A2.out).mono ?_); (case side1 => exact zS (kO HR0_1.out HB.out)); (case side2 => exact HC0_1.out); (case side3 => exact TabW.below HT.out (zT HB.out GE518.out)); rintro e w7 ⟨rfl, hb⟩; refine ⟨_, rfl, ?_⟩; replace BK518 := zA (zB1 BK518.out hb); replace HB := zA (kQ (zT HB.out GE518.out) hb); (try clear hb); obtain ⟨hcz8_0, hcz8_1, hfz8_0, hfz8_1⟩ := zB3 BK518.out) | (refine zO (some 8) Tryd.func39 #[.agg #[.int .i64 a0_0, .slice A0_1 l0_1.length c0_1]] ?_; (with_reducible refine (impl_cliquePolynomial.calls k a0_0 _ _ l0_1 t520 _ ?side1 ?side2 ?side3 A4.out).mono ?_); (case side1 => exact zS (kO HR0_1.out HB.out)); (case side2 => exact HC0_1.out); (case side3 => exact TabW.below HT.out (zT HB.out GE518.out)); rintro e w9 ⟨v521, rfl, ho0, hb⟩; refine ⟨_, rfl, ?_⟩; have HO522 := zA (kI ho0 (kP (zT HB.out GE518.out))); replace BK518 := zA (zB1 BK518.out hb); replace HB := zA (kQ (zT HB.out GE518.out) hb); (try clear hb); (try clear ho0)))
  go_ret2
  exact ⟨_, zr, zP HO522.out, zT HB.out GE518.out⟩
 replace c3 := Bool.eq_false_iff.mpr c3
 subst c3
 rw [if_neg (show ¬ (false = true) by decide)] at H
 simp only [Option.some.injEq, Prod.mk.injEq] at H
 obtain ⟨rfl, rfl⟩ := H
 go_enter Tryd.func11, Tryd.ntmps11
 go_wp2_with (first | (refine zBE 1 #[.int .i64 a0_0, .slice A0_1 l0_1.length c0_1] 26 ?_; intro gb518 hg w10 hbox hb; have BK518 := zA (hbox); have GW518 := zA (zBH hg HB.out); have GE518 := zA (zBH hg HB.out); replace HB := zA (kQ (zQ HB.out) hb); clear hb hbox hg; obtain ⟨hcz11_0, hcz11_1, hfz11_0, hfz11_1⟩ := zB3 BK518.out) | (refine zO (some 5) Tryd.func38 #[.agg #[.int .i64 a0_0, .slice A0_1 l0_1.length c0_1]] ?_; (with_reducible refine (impl_IsAlphabet.calls k a0_0 _ _ l0_1 false _ ?side1 ?side2 ?side3 A2.out).mono ?_); (case side1 => exact zS (kO HR0_1.out HB.out)); (case side2 => exact HC0_1.out); (case side3 => exact TabW.below HT.out (zT HB.out GE518.out)); rintro e w12 ⟨rfl, hb⟩; refine ⟨_, rfl, ?_⟩; replace BK518 := zA (zB1 BK518.out hb); replace HB := zA (kQ (zT HB.out GE518.out) hb); (try clear hb)))
 go_ret2
 exact ⟨_, zr, zn, zT HB.out GE518.out⟩

/-! ### impl_StepsOf: function 12 -/
def impl_StepsOf.f (k : Nat) (a0_0 : Int) (l0_1 : List Int) : Option (List Int × Int) := (impl_IsAlphabet.f k a0_0 l0_1).bind fun t524 => (if t524 = true then ((impl_stepsOf.f k a0_0 l0_1).bind fun t525 => (some (t525, 0))) else (some (([] : List Int), 1)))

set_option maxHeartbeats 8000000 in
set_option maxRecDepth 100000 in
theorem impl_StepsOf.calls (k : Nat) (a0_0 : Int) (A0_1 : Option Addr) (c0_1 : Nat) (l0_1 : List Int) (r1 : List Int) (r2 : Int) (w : World) (hr0_1 : Kd.C (Kd.int .i64) w A0_1 l0_1.length l0_1) (hc0_1 : l0_1.length ≤ c0_1) (hT : TabW w) (h : impl_StepsOf.f k a0_0 l0_1 = some (r1, r2)) :
  Calls Tryd.prog 12 #[.agg #[.int .i64 a0_0, .slice A0_1 l0_1.length c0_1]] w fun e w' => ∃ v0_ : Value, e = .returned (.tuple #[v0_, .int .i64 r2]) ∧ Kd.R (Kd.int .i64) 2 w' w.heap.size (fun _ => True) v0_ r1 ∧ Below w.heap.size w w' := by
 have hu26 := Tryd.underlying26
 have HT := zA hT
 clear hT
 have HR0_1 := zA hr0_1
 have HC0_1 := zA hc0_1
 clear hr0_1 hc0_1
 have HB := zA (kW w.heap.size w)
 have H := h
 unfold impl_StepsOf.f at H
 clear h
 obtain ⟨t524, A2, H⟩ := zb H
 try dsimp only at H
 by_cases c3 : t524 = true
 ·subst c3
  rw [if_pos rfl] at H
  obtain ⟨t525, A4, H⟩ := zb H
  try dsimp only at H
  simp only [Option.some.injEq, Prod.mk.injEq] at H
  obtain ⟨rfl, rfl⟩ := H
  go_enter Tryd.func12, Tryd.ntmps12
  go_wp2_with (first | (refine zBE 1 #[.int .i64 a0_0, .slice A0_1 l0_1.length c0_1] 26 ?_; intro gb523 hg w5 hbox hb; have BK523 := zA (hbox); have GW523 := zA (zBH hg HB.out); have GE523 := zA (zBH hg HB.out); replace HB := zA (kQ (zQ HB.out) hb); clear hb hbox hg; obtain ⟨hcz6_0, hcz6_1, hfz6_0, hfz6_1⟩ := zB3 BK523.out) | (refine zO (some 5) Tryd.func38 #[.agg #[.int .i64 a0_0, .slice A0_1 l0_1.length c0_1]] ?_; (with_reducible refine (impl_IsAlphabet.calls k a0_0 _ _ l0_1 true _ ?side1 ?side2 ?side3 A2.out).mono ?_); (case side1 => exact zS (kO HR0_1.out HB.out)); (case side2 => exact HC0_1.out); (case side3 => exact TabW.below HT.out (zT HB.out GE523.out)); rintro e w7 ⟨rfl, hb⟩; refine ⟨_, rfl, ?_⟩; replace BK523 := zA (zB1 BK523.out hb); replace HB := zA (kQ (zT HB.out GE523.out) hb); (try clear hb); obtain ⟨hcz8_0, hcz8_1, hfz8_0, hfz8_1⟩ := zB3 BK523.out) | (refine zO (some 8) Tryd.func40 #[.agg #[.int .i64 a0_0, .slice A0_1 l0_1.length c0_1]] ?_; (with_reducible refine (impl_stepsOf.calls k a0_0 _ _ l0_1 t525 _ ?side1 ?side2 ?side3 A4.out).mono ?_); (case side1 => exact zS (kO HR0_1.out HB.out)); (case side2 => exact HC0_1.out); (case side3 => exact TabW.below HT.out (zT HB.out GE523.out)); rintro e w9 ⟨v526, rfl, ho0, hb⟩; refine ⟨_, rfl, ?_⟩; have HO527 := zA (kI ho0 (kP (zT HB.out GE523.out))); replace BK523 := zA (zB1 BK523.out hb); replace HB := zA (kQ (zT HB.out GE523.out) hb); (try clear hb); (try clear ho0)))
  go_ret2
  exact ⟨_, zr, zP HO527.out, zT HB.out GE523.out⟩
 replace c3 := Bool.eq_false_iff.mpr c3
 subst c3
 rw [if_neg (show ¬ (false = true) by decide)] at H
 simp only [Option.some.injEq, Prod.mk.injEq] at H
 obtain ⟨rfl, rfl⟩ := H
 go_enter Tryd.func12, Tryd.ntmps12
 go_wp2_with (first | (refine zBE 1 #[.int .i64 a0_0, .slice A0_1 l0_1.length c0_1] 26 ?_; intro gb523 hg w10 hbox hb; have BK523 := zA (hbox); have GW523 := zA (zBH hg HB.out); have GE523 := zA (zBH hg HB.out); replace HB := zA (kQ (zQ HB.out) hb); clear hb hbox hg; obtain ⟨hcz11_0, hcz11_1, hfz11_0, hfz11_1⟩ := zB3 BK523.out) | (refine zO (some 5) Tryd.func38 #[.agg #[.int .i64 a0_0, .slice A0_1 l0_1.length c0_1]] ?_; (with_reducible refine (impl_IsAlphabet.calls k a0_0 _ _ l0_1 false _ ?side1 ?side2 ?side3 A2.out).mono ?_); (case side1 => exact zS (kO HR0_1.out HB.out)); (case side2 => exact HC0_1.out); (case side3 => exact TabW.below HT.out (zT HB.out GE523.out)); rintro e w12 ⟨rfl, hb⟩; refine ⟨_, rfl, ?_⟩; replace BK523 := zA (zB1 BK523.out hb); replace HB := zA (kQ (zT HB.out GE523.out) hb); (try clear hb)))
 go_ret2
 exact ⟨_, zr, zn, zT HB.out GE523.out⟩

/-! ### laws_bits5: function 13 -/
def laws_bits5.l0 : Nat → Int → Int → Option (Int)
 | 0, _, _ => none
 | k + 1, x0, x3 => if x0 > 0 then (laws_bits5.l0 k (wrap64 (Int.tdiv x0 2)) (wrap64 (x3 + (Int.tmod x0 2)))) else (some x3)
def laws_bits5.f (k : Nat) (a0 : Int) : Option (Int) := laws_bits5.l0 k a0 0

set_option maxHeartbeats 8000000 in
set_option maxRecDepth 100000 in
theorem laws_bits5.calls (k : Nat) (a0 : Int) (r : Int) (w : World) (h : laws_bits5.f k a0 = some r) :
  Calls Tryd.prog 13 #[.int .i64 a0] w fun e w' => e = .returned (.int .i64 r) ∧ Drawn0 w w' := by
 have H := h
 unfold laws_bits5.f at H
 clear h
 have H' := zA H
 clear H
 go_enter Tryd.func13, Tryd.ntmps13
 go_wp2
 go_loopg [0, 3] k (fun kq v0 v3 w' => ∃ (x0_1 : Int) (x3_1 : Int), v0 = .int .i64 x0_1 ∧ v3 = .int .i64 x3_1 ∧ Aside0 (laws_bits5.l0 kq x0_1 x3_1 = some r) ∧ Aside0 (kq ≤ k) ∧ Drawn0 w w')
 case atStart => exact ⟨(a0), (0), zs, zs, H', ⟨Nat.le_refl _⟩, by repeat (first | exact Drawn0.refl _ | apply Drawn0.step)⟩
 case round =>
  clear H'
  try clear c1
  obtain ⟨x0_1, x3_1, rfl, rfl, HA, HK1, ⟨m1, rfl⟩⟩ := hrel
  cases gk with
  | zero => exact absurd HA.out (by simp [laws_bits5.l0])
  | succ k1 =>
   have H := HA.out
   clear HA
   simp only [laws_bits5.l0] at H
   by_cases c2 : x0_1 > 0
   ·rw [if_pos c2] at H
    have c2b0 : decide (0 < x0_1) = true := decide_eq_true c2
    clear c2
    have H' := zA H
    clear H
    go_wp2
    go_roundg k1
    case measure => have := HK1.out; omega
    case rel => exact ⟨(wrap64 (Int.tdiv x0_1 2)), (wrap64 (x3_1 + (Int.tmod x0_1 2))), zs, zs, H', ⟨by have := HK1.out; omega⟩, by repeat (first | exact Drawn0.refl _ | apply Drawn0.step)⟩
   rw [if_neg c2] at H
   have c2b0 : decide (0 < x0_1) = false := decide_eq_false c2
   clear c2
   obtain rfl := Option.some.inj H
   go_wp2
   go_ret
   exact ⟨zs, by repeat (first | exact Drawn0.refl _ | apply Drawn0.step)⟩

/-! ### impl_InverseSeries: function 14 -/
def impl_InverseSeries.j0 : Nat → List Int → Int → Bool → Option (List Int × Int)
 | 0, _, _, _ => none
 | k + 1, x0, x1, x13 => if x13 = true then (some (([] : List Int), 2)) else (if (x0.length : Int) = 0 then (some (([] : List Int), 5)) else (if 0 < (x0.length : Int) then (if (rd x0 0) = 1 then ((impl_inverse.f k x0 x1).bind fun bt531 => (some (bt531.1, bt531.2))) else (some (([] : List Int), 5))) else (none)))
def impl_InverseSeries.f (k : Nat) (l0 : List Int) (a1 : Int) : Option (List Int × Int) := (impl_inRange.f a1 0 24).bind fun t528 => (if t528 = true then ((impl_allIn.f l0 (-1000) 1000).bind fun t529 => (impl_InverseSeries.j0 k l0 a1 (!t529))) else (impl_InverseSeries.j0 k l0 a1 true))

set_option maxHeartbeats 8000000 in
set_option maxRecDepth 100000 in
theorem impl_InverseSeries.calls (k : Nat) (A0 : Option Addr) (c0 : Nat) (l0 : List Int) (a1 : Int) (r1 : List Int) (r2 : Int) (w : World) (hr0 : Kd.C (Kd.int .i64) w A0 l0.length l0) (hc0 : l0.length ≤ c0) (h : impl_InverseSeries.f k l0 a1 = some (r1, r2)) :
  Calls Tryd.prog 14 #[.slice A0 l0.length c0, .int .i64 a1] w fun e w' => ∃ v0_ : Value, e = .returned (.tuple #[v0_, .int .i64 r2]) ∧ Kd.R (Kd.int .i64) 2 w' w.heap.size (fun _ => True) v0_ r1 ∧ Below w.heap.size w w' := by
 have HR0 := zA hr0
 have HC0 := zA hc0
 clear hr0 hc0
 have HB := zA (kW w.heap.size w)
 have H := h
 unfold impl_InverseSeries.f at H
 clear h
 have HC3 := zA H
 clear H
 go_enter Tryd.func14, Tryd.ntmps14
 go_upto_region 1 with (fail)
 go_cut [13] (fun v13 wc => ∃ (kq : Nat) (x13_2 : Bool), v13 = .bool x13_2 ∧ Aside0 (impl_InverseSeries.j0 kq l0 a1 x13_2 = some (r1, r2)) ∧ Aside0 (kq ≤ k) ∧ Aside0 (Below w.heap.size w wc))
 case first =>
  have H := HC3.out
  clear HC3
  obtain ⟨t528, A4, H⟩ := zb H
  try dsimp only at H
  by_cases c5 : t528 = true
  ·subst c5
   rw [if_pos rfl] at H
   obtain ⟨t529, A6, H⟩ := zb H
   try dsimp only at H
   have H' := zA H
   clear H
   go_wp2_with (first | (refine zO (some 7) Tryd.func41 #[.int .i64 a1, .int .i64 0, .int .i64 24] ?_; (with_reducible refine (impl_inRange.calls a1 0 24 true _ A4.out).mono ?_); rintro e w' ⟨rfl, ⟨nd, rfl⟩⟩; refine ⟨_, rfl, ?_⟩) | (go_at_call 42; (with_reducible refine (impl_allIn.calls _ _ l0 (-1000) 1000 t529 _ ?side1 ?side2 A6.out).mono ?_); (case side1 => exact zS (kO HR0.out (zQ HB.out))); (case side2 => exact HC0.out); rintro e w7 ⟨rfl, hb⟩; replace HB := zA (kQ (zQ HB.out) hb); (try clear hb)))
   go_meet
   case rel => exact ⟨_, (!t529), zs, H', ⟨by first | omega | exact Nat.le_refl _⟩, ⟨zQ HB.out⟩⟩
  replace c5 := Bool.eq_false_iff.mpr c5
  subst c5
  rw [if_neg (show ¬ (false = true) by decide)] at H
  have H' := zA H
  clear H
  go_wp2_with (first | (refine zO (some 7) Tryd.func41 #[.int .i64 a1, .int .i64 0, .int .i64 24] ?_; (with_reducible refine (impl_inRange.calls a1 0 24 false _ A4.out).mono ?_); rintro e w' ⟨rfl, ⟨nd, rfl⟩⟩; refine ⟨_, rfl, ?_⟩))
  go_meet
  case rel => exact ⟨_, (true), zs, H', ⟨by first | omega | exact Nat.le_refl _⟩, ⟨zQ HB.out⟩⟩
 case rest =>
  clear HC3
  try clear c1
  try clear c4
  try clear c5
  obtain ⟨kq, x13_2, rfl, HA, HJ2, HB⟩ := hcut
  cases kq with
  | zero => exact absurd HA.out (by simp [impl_InverseSeries.j0])
  | succ kj2 =>
   have H := HA.out
   clear HA
   simp only [impl_InverseSeries.j0] at H
   by_cases c8 : x13_2 = true
   ·subst c8
    rw [if_pos rfl] at H
    simp only [Option.some.injEq, Prod.mk.injEq] at H
    obtain ⟨rfl, rfl⟩ := H
    go_wp2
    go_ret2
    exact ⟨_, zr, zn, zQ HB.out⟩
   replace c8 := Bool.eq_false_iff.mpr c8
   subst c8
   rw [if_neg (show ¬ (false = true) by decide)] at H
   by_cases c9 : (l0.length : Int) = 0
   ·rw [if_pos c9] at H
    obtain ⟨c9b0, c9b1⟩ := zT1 c9
    clear c9
    simp only [Option.some.injEq, Prod.mk.injEq] at H
    obtain ⟨rfl, rfl⟩ := H
    go_wp2
    go_ret2
    exact ⟨_, zr, zn, zQ HB.out⟩
   rw [if_neg c9] at H
   obtain ⟨c9b0, c9b1⟩ := zT2 c9
   have c9b2 : ¬ (l0 = []) := fun h_ => c9 (by rw [h_]; rfl)
   by_cases c10 : 0 < (l0.length : Int)
   ·rw [if_pos c10] at H
    have c10b0 : decide (0 < (l0.length : Int)) = true := decide_eq_true c10
    have c10b1 : decide (0 < l0.length) = true := decide_eq_true (by omega)
    clear c10
    by_cases c11 : (rd l0 0) = 1
    ·rw [if_pos c11] at H
     obtain ⟨c11b0, c11b1⟩ := zT1 c11
     clear c11
     obtain ⟨⟨t531, t532⟩, A12, H⟩ := zb H
     try dsimp only at H
     simp only [Option.some.injEq, Prod.mk.injEq] at H
     obtain ⟨rfl, rfl⟩ := H
     have p530 : 0 ≤ (0 : Int) := (by omega)
     have q530 : 0 < (l0.length : Int) := zd
     obtain ⟨ad530, e530, hx530_0⟩ := Kd.at_int HR0.out 0 p530 q530
     cases e530
     have qi530 : (0 < l0.length) = True := eq_true (by omega)
     (try rw [show ((0 : Int)).toNat = 0 from rfl] at hx530_0)
     (try rw [Addr.add_zero'] at hx530_0)
     replace hx530_0 := (HB.out.cell (jG w _ hx530_0)).trans hx530_0
     replace p530 := eq_true p530
     replace q530 := eq_true q530
     go_wp2_with (first | (refine zO (some 25) Tryd.func43 #[.slice (some ad530) l0.length c0, .int .i64 a1] ?_; (with_reducible refine (impl_inverse.calls kj2 _ _ l0 a1 t531 t532 _ ?side1 ?side2 A12.out).mono ?_); (case side1 => exact zS (kO HR0.out HB.out)); (case side2 => exact HC0.out); rintro e w13 ⟨v533, rfl, ho0, hb⟩; refine ⟨_, rfl, ?_⟩; have HO534 := zA (kI ho0 (kP (zQ HB.out))); replace HB := zA (kQ (zQ HB.out) hb); (try clear hb); (try clear ho0)))
     go_ret2
     exact ⟨_, zr, zP HO534.out, zQ HB.out⟩
    rw [if_neg c11] at H
    obtain ⟨c11b0, c11b1⟩ := zT2 c11
    simp only [Option.some.injEq, Prod.mk.injEq] at H
    obtain ⟨rfl, rfl⟩ := H
    have p530 : 0 ≤ (0 : Int) := (by omega)
    have q530 : 0 < (l0.length : Int) := zd
    obtain ⟨ad530, e530, hx530_0⟩ := Kd.at_int HR0.out 0 p530 q530
    cases e530
    have qi530 : (0 < l0.length) = True := eq_true (by omega)
    (try rw [show ((0 : Int)).toNat = 0 from rfl] at hx530_0)
    (try rw [Addr.add_zero'] at hx530_0)
    replace hx530_0 := (HB.out.cell (jG w _ hx530_0)).trans hx530_0
    replace p530 := eq_true p530
    replace q530 := eq_true q530
    go_wp2
    go_ret2
    exact ⟨_, zr, zn, zQ HB.out⟩
   rw [if_neg c10] at H
   exact absurd H (by simp)

/-! ### laws_FnCliqueSeries: function 3 -/
def laws_bits5_BFnCliqueSeries.f (k : Nat) (a0 : Int) : Option (Int) := laws_bits5.f k a0
theorem laws_bits5_BFnCliqueSeries.calls (k : Nat) (a0 : Int) (r : Int) (w : World) (h : laws_bits5_BFnCliqueSeries.f k a0 = some r) :
 Calls Tryd.prog 13 #[.int .i64 a0] w fun e w' => e = .returned (.int .i64 r) ∧ Below w.heap.size w w' := by
 refine (laws_bits5.calls k a0 r w h).mono ?_
 rintro e w' ⟨h1, h2⟩
 exact ⟨h1, Drawn0.below h2⟩
mutual
def laws_FnCliqueSeries.j0 : Nat → Int → Int → Int → Bool → Int → List Int → Option (Bool)
 | 0, _, _, _, _, _, _ => none
 | k + 1, x4, x5, x6, x46, x542000, x542001 => if x46 = true then (none) else (if x6 = 1 then (laws_FnCliqueSeries.j1 k x4 x5 x6 true x542000 x542001) else (laws_FnCliqueSeries.j1 k x4 x5 x6 (x6 == 2) x542000 x542001))
def laws_FnCliqueSeries.j1 : Nat → Int → Int → Int → Bool → Int → List Int → Option (Bool)
 | 0, _, _, _, _, _, _ => none
 | k + 1, x4, x5, x6, x52, x542000, x542001 => if x52 = true then (some true) else ((impl_CliquePolynomial.f k x542000 x542001).bind fun bt546 => ((impl_StepsOf.f k x542000 x542001).bind fun bt550 => (if bt546.2 = 0 then (if bt550.2 = 0 then (if (bt546.1.length : Int) = 0 then (laws_FnCliqueSeries.j2 k x4 x5 x6 bt546.1 bt550.1 true x542000 x542001) else (if 0 ≤ (wrap64 ((bt546.1.length : Int) - 1)) then (if (wrap64 ((bt546.1.length : Int) - 1)) < (bt546.1.length : Int) then (laws_FnCliqueSeries.j2 k x4 x5 x6 bt546.1 bt550.1 ((rd bt546.1 (wrap64 ((bt546.1.length : Int) - 1))) == 0) x542000 x542001) else (none)) else (none))) else (laws_FnCliqueSeries.j2 k x4 x5 x6 bt546.1 bt550.1 true x542000 x542001)) else (laws_FnCliqueSeries.j2 k x4 x5 x6 bt546.1 bt550.1 true x542000 x542001))))
def laws_FnCliqueSeries.j2 : Nat → Int → Int → Int → List Int → List Int → Bool → Int → List Int → Option (Bool)
 | 0, _, _, _, _, _, _, _, _ => none
 | k + 1, x4, x5, x6, x9, x11, x82, x542000, x542001 => if x82 = true then (none) else (laws_FnCliqueSeries.l0 k x4 x5 x6 x9 x11 0 x542000 x542001)
def laws_FnCliqueSeries.l0 : Nat → Int → Int → Int → List Int → List Int → Int → Int → List Int → Option (Bool)
 | 0, _, _, _, _, _, _, _, _ => none
 | k + 1, x4, x5, x6, x9, x11, x13, x542000, x542001 => if x13 < (x11.length : Int) then (if 0 ≤ x13 then ((laws_bits5_BFnCliqueSeries.f k (rd x11 x13)).bind fun t556 => (if t556 ≥ (x9.length : Int) then (none) else (if 0 ≤ t556 then (if t556 < (x9.length : Int) then (laws_FnCliqueSeries.l0 k x4 x5 x6 (x9.set (t556 : Int).toNat (wrap64 ((wrap64 ((rd x9 t556) - 1)) + (wrap64 (2 * (Int.tmod t556 2)))))) x11 (wrap64 (x13 + 1)) x542000 x542001) else (none)) else (none)))) else (none)) else (laws_FnCliqueSeries.l1 k x4 x5 x6 x9 0 x542000 x542001)
def laws_FnCliqueSeries.l1 : Nat → Int → Int → Int → List Int → Int → Int → List Int → Option (Bool)
 | 0, _, _, _, _, _, _, _ => none
 | k + 1, x4, x5, x6, x9, x15, x542000, x542001 => if x15 < (x9.length : Int) then (if 0 ≤ x15 then (if (rd x9 x15) = 0 then (laws_FnCliqueSeries.l1 k x4 x5 x6 x9 (wrap64 (x15 + 1)) x542000 x542001) else (none)) else (none)) else ((impl_CliquePolynomial.f k x542000 x542001).bind fun bt560 => ((impl_InverseSeries.f k bt560.1 x4).bind fun bt564 => (if bt560.2 = 0 then (if x6 = 0 then (if bt564.2 = 0 then (if (bt564.1.length : Int) = (wrap64 (x4 + 1)) then (if 0 ≤ x4 then (if x4 < (bt564.1.length : Int) then (some ((rd bt564.1 x4) == x5)) else (none)) else (none)) else (none)) else (none)) else (some (bt564.2 == 3))) else (none))))
end
def laws_FnCliqueSeries.f (k : Nat) (l0 : List Int) : Option (Bool) := (laws_big.f l0).bind fun t535 => (if t535 = true then (some true) else ((spec_DrawCountTraces.f k l0).bind fun bt536 => ((impl_CountTraces.f k bt536.1 bt536.2.1 bt536.2.2).bind fun bt542 => ((spec_CountTraces.f k bt536.1 bt536.2.1 bt536.2.2).bind fun bt544 => (if bt542.2 = bt544.2 then (laws_FnCliqueSeries.j0 k bt536.2.2 bt542.1 bt542.2 (bt542.1 != bt544.1) bt536.1 bt536.2.1) else (laws_FnCliqueSeries.j0 k bt536.2.2 bt542.1 bt542.2 true bt536.1 bt536.2.1))))))

set_option maxHeartbeats 8000000 in
set_option maxRecDepth 100000 in
theorem laws_FnCliqueSeries.calls (k : Nat) (A0 : Option Addr) (c0 : Nat) (l0 : List Int) (r : Bool) (w : World) (hr0 : Kd.C (Kd.int .u8) w A0 l0.length l0) (hc0 : l0.length ≤ c0) (hT : TabW w) (h : laws_FnCliqueSeries.f k l0 = some r) :
  Calls Tryd.prog 3 #[.slice A0 l0.length c0] w fun e w' => e = .returned (.bool r) ∧ Below w.heap.size w w' := by
 have hu26 := Tryd.underlying26
 have HT := zA hT
 clear hT
 have HR0 := zA hr0
 have HC0 := zA hc0
 clear hr0 hc0
 have HB := zA (kW w.heap.size w)
 have H := h
 unfold laws_FnCliqueSeries.f at H
 clear h
 obtain ⟨t535, A2, H⟩ := zb H
 try dsimp only at H
 by_cases c3 : t535 = true
 ·subst c3
  rw [if_pos rfl] at H
  obtain rfl := Option.some.inj H
  go_enter Tryd.func3, Tryd.ntmps3
  go_wp2_with (first | (refine zO (some 21) Tryd.func7 #[.slice A0 l0.length c0] ?_; (with_reducible refine (laws_big.calls _ _ l0 true _ ?side1 ?side2 A2.out).mono ?_); (case side1 => exact zS HR0.out); (case side2 => exact HC0.out); rintro e w' ⟨rfl, ⟨nd, rfl⟩⟩; refine ⟨_, rfl, ?_⟩))
  go_ret
  exact ⟨zr, zQ HB.out⟩
 replace c3 := Bool.eq_false_iff.mpr c3
 subst c3
 rw [if_neg (show ¬ (false = true) by decide)] at H
 obtain ⟨⟨t536, t537, t540⟩, A4, H⟩ := zb H
 try dsimp only at H
 obtain ⟨⟨t542, t543⟩, A5, H⟩ := zb H
 try dsimp only at H
 obtain ⟨⟨t544, t545⟩, A6, H⟩ := zb H
 try dsimp only at H
 have HC7 := zA H
 clear H
 go_enter Tryd.func3, Tryd.ntmps3
 go_upto_region 6 with (first | (refine zO (some 21) Tryd.func7 #[.slice A0 l0.length c0] ?_; (with_reducible refine (laws_big.calls _ _ l0 false _ ?side1 ?side2 A2.out).mono ?_); (case side1 => exact zS HR0.out); (case side2 => exact HC0.out); rintro e w' ⟨rfl, ⟨nd, rfl⟩⟩; refine ⟨_, rfl, ?_⟩) | (refine zO (some 24) Tryd.func8 #[.slice A0 l0.length c0] ?_; (with_reducible refine (spec_DrawCountTraces.calls k _ _ l0 t536 t537 t540 _ ?side1 ?side2 A4.out).mono ?_); (case side1 => exact zS HR0.out); (case side2 => exact HC0.out); rintro e w8 ⟨v538, rfl, ho0, hb⟩; refine ⟨_, rfl, ?_⟩; have HO539 := zA (kI ho0 (kP (zQ HB.out))); replace HB := zA (kQ (zQ HB.out) hb); (try clear hb); (try clear ho0)) | (refine zBE 3 #[.int .i64 0, .slice none 0 0] 26 ?_; intro gb541 hg w9 hbox hb; replace HO539 := zA (kL (zP HO539.out) hb); have BK541 := zA (hbox); have GW541 := zA (zBH hg HB.out); have GE541 := zA (zBH hg HB.out); replace HB := zA (kQ (zQ HB.out) hb); clear hb hbox hg; obtain ⟨hcz10_0, hcz10_1, hfz10_0, hfz10_1⟩ := zB3 BK541.out; obtain ⟨Ao11, co11, eo11⟩ := kM HO539.out; subst eo11) | (refine zO (some 30) Tryd.func9 #[.agg #[.int .i64 t536, .slice Ao11 t537.length co11], .int .i64 t540] ?_; (with_reducible refine (impl_CountTraces.calls k t536 _ _ t537 t540 t542 t543 _ ?side1 ?side2 ?side3 A5.out).mono ?_); (case side1 => refine (kB (e := 2) (base := w.heap.size) (ok := fun k_ => True) (n := t537.length) (c := co11) ?_).2.2; exact (zP (zFG HO539.out BK541.out (.int .i64 t536) (.slice Ao11 t537.length co11)))); (case side2 => exact (kB HO539.out).2.1); (case side3 => exact TabW.below HT.out (zT HB.out GE541.out)); rintro e w12 ⟨rfl, hb⟩; refine ⟨_, rfl, ?_⟩; replace HO539 := zA (kL (zP (zFG HO539.out BK541.out (.int .i64 t536) (.slice Ao11 t537.length co11))) hb); replace BK541 := zA (blk_below (g := gb541) (o := .cells #[.int .i64 t536, .slice Ao11 t537.length co11] 26 (0, 0)) (zRP BK541.out) hb); replace HB := zA (kQ (zT HB.out GE541.out) hb); (try clear hb); obtain ⟨hcz13_0, hcz13_1, hfz13_0, hfz13_1⟩ := zB3 BK541.out) | (refine zO (some 36) Tryd.func10 #[.agg #[.int .i64 t536, .slice Ao11 t537.length co11], .int .i64 t540] ?_; (with_reducible refine (spec_CountTraces.calls k t536 _ _ t537 t540 t544 t545 _ ?side1 ?side2 A6.out).mono ?_); (case side1 => exact zS (kB HO539.out).2.2); (case side2 => exact (kB HO539.out).2.1); rintro e w14 ⟨rfl, hb⟩; refine ⟨_, rfl, ?_⟩; replace HO539 := zA (kL (zP HO539.out) hb); replace BK541 := zA (zB1 BK541.out hb); replace HB := zA (kQ (zT HB.out GE541.out) hb); (try clear hb)))
 (try simp only [Act.put, zL, zM, zN])
 go_cut [46] (fun v46 wc => ∃ (kq : Nat) (x46_6 : Bool), v46 = .bool x46_6 ∧ Aside0 (laws_FnCliqueSeries.j0 kq t540 t542 t543 x46_6 t536 t537 = some r) ∧ Aside0 (kq ≤ k) ∧ Aside0 (Kd.R (Kd.int .i64) 2 wc w.heap.size (fun _ => True) (.slice Ao11 t537.length co11) t537) ∧ Aside0 (wc.heap[gb541]? = some (.cells #[.int .i64 t536, (.slice Ao11 t537.length co11)] 26 (0, 0))) ∧ Aside0 (Below w.heap.size w wc))
 case first => as_aux_lemma =>
  have H := HC7.out
  clear HC7
  by_cases c15 : t543 = t545
  ·rw [if_pos c15] at H
   obtain ⟨c15b0, c15b1⟩ := zT1 c15
   clear c15
   (first | rw [c15b0] | (simp only [i64_w, i32_w]; rw [c15b0]) | skip)
   have H' := zA H
   clear H
   go_wp2
   go_meet
   case rel => exact ⟨_, ((t542 != t544)), zs, H', ⟨by first | omega | exact Nat.le_refl _⟩, ⟨zP HO539.out⟩, ⟨zR BK541.out⟩, ⟨zT HB.out GE541.out⟩⟩
  rw [if_neg c15] at H
  obtain ⟨c15b0, c15b1⟩ := zT2 c15
  (first | rw [c15b0] | (simp only [i64_w, i32_w]; rw [c15b0]) | skip)
  have H' := zA H
  clear H
  go_wp2
  go_meet
  case rel => exact ⟨_, (true), zs, H', ⟨by first | omega | exact Nat.le_refl _⟩, ⟨zP HO539.out⟩, ⟨zR BK541.out⟩, ⟨zT HB.out GE541.out⟩⟩
 case rest =>
  clear HC7
  try clear c1
  try clear c3
  try clear c7
  try clear c8
  try clear c9
  try clear c10
  try clear c15
  try clear hcz10_0
  try clear hcz10_1
  try clear hcz13_0
  try clear hcz13_1
  try clear hfz10_0
  try clear hfz10_1
  try clear hfz13_0
  try clear hfz13_1
  obtain ⟨kq, x46_6, rfl, HA, HJ6, HO_542001, BK541, HB⟩ := hcut
  cases kq with
  | zero => exact absurd HA.out (by simp [laws_FnCliqueSeries.j0])
  | succ kj6 =>
   have H := HA.out
   clear HA
   simp only [laws_FnCliqueSeries.j0] at H
   by_cases c16 : x46_6 = true
   ·subst c16
    rw [if_pos rfl] at H
    exact absurd H (by simp)
   replace c16 := Bool.eq_false_iff.mpr c16
   subst c16
   rw [if_neg (show ¬ (false = true) by decide)] at H
   have HC17 := zA H
   clear H
   go_upto_region 8 with (fail)
   go_cut [52] (fun v52 wc => ∃ (kq : Nat) (x52_16 : Bool), v52 = .bool x52_16 ∧ Aside0 (laws_FnCliqueSeries.j1 kq t540 t542 t543 x52_16 t536 t537 = some r) ∧ Aside0 (kq ≤ kj6) ∧ Aside0 (Kd.R (Kd.int .i64) 2 wc w.heap.size (fun _ => True) (.slice Ao11 t537.length co11) t537) ∧ Aside0 (wc.heap[gb541]? = some (.cells #[.int .i64 t536, (.slice Ao11 t537.length co11)] 26 (0, 0))) ∧ Aside0 (Below w.heap.size w wc))
   case first => as_aux_lemma =>
    have H := HC17.out
    clear HC17
    by_cases c18 : t543 = 1
    ·rw [if_pos c18] at H
     obtain ⟨c18b0, c18b1⟩ := zT1 c18
     clear c18
     (first | rw [c18b0] | (simp only [i64_w, i32_w]; rw [c18b0]) | skip)
     have H' := zA H
     clear H
     go_wp2
     go_meet
     case rel => exact ⟨_, (true), zs, H', ⟨by have := HJ6.out; first | omega | exact Nat.le_refl _⟩, ⟨zP HO_542001.out⟩, ⟨zR BK541.out⟩, ⟨zT HB.out GE541.out⟩⟩
    rw [if_neg c18] at H
    obtain ⟨c18b0, c18b1⟩ := zT2 c18
    (first | rw [c18b0] | (simp only [i64_w, i32_w]; rw [c18b0]) | skip)
    have H' := zA H
    clear H
    go_wp2
    go_meet
    case rel => exact ⟨_, ((t543 == 2)), zs, H', ⟨by have := HJ6.out; first | omega | exact Nat.le_refl _⟩, ⟨zP HO_542001.out⟩, ⟨zR BK541.out⟩, ⟨zT HB.out GE541.out⟩⟩
   case rest =>
    clear HC17
    try clear c1
    try clear c3
    try clear c7
    try clear c8
    try clear c9
    try clear c10
    try clear c15
    try clear c16
    try clear c18
    try clear hcz10_0
    try clear hcz10_1
    try clear hcz13_0
    try clear hcz13_1
    try clear hfz10_0
    try clear hfz10_1
    try clear hfz13_0
    try clear hfz13_1
    obtain ⟨kq, x52_16, rfl, HA, HJ16, HO_542001, BK541, HB⟩ := hcut
    cases kq with
    | zero => exact absurd HA.out (by simp [laws_FnCliqueSeries.j1])
    | succ kj16 =>
     have H := HA.out
     clear HA
     simp only [laws_FnCliqueSeries.j1] at H
     by_cases c19 : x52_16 = true
     ·subst c19
      rw [if_pos rfl] at H
      obtain rfl := Option.some.inj H
      go_wp2
      go_ret
      exact ⟨zr, zT HB.out GE541.out⟩
     replace c19 := Bool.eq_false_iff.mpr c19
     subst c19
     rw [if_neg (show ¬ (false = true) by decide)] at H
     obtain ⟨⟨t546, t549⟩, A20, H⟩ := zb H
     try dsimp only at H
     obtain ⟨⟨t550, t553⟩, A21, H⟩ := zb H
     try dsimp only at H
     have HC22 := zA H
     clear H
     obtain ⟨hcz23_0, hcz23_1, hfz23_0, hfz23_1⟩ := zB3 BK541.out
     go_upto_region 12 with (first | (refine zO (some 55) Tryd.func11 #[.agg #[.int .i64 t536, .slice Ao11 t537.length co11]] ?_; (with_reducible refine (impl_CliquePolynomial.calls kj16 t536 _ _ t537 t546 t549 _ ?side1 ?side2 ?side3 A20.out).mono ?_); (case side1 => exact zS (kB HO_542001.out).2.2); (case side2 => exact (kB HO_542001.out).2.1); (case side3 => exact TabW.below HT.out (zT HB.out GE541.out)); rintro e w24 ⟨v547, rfl, ho0, hb⟩; refine ⟨_, rfl, ?_⟩; have HO548 := zA (kI (kF ho0 (kH (zP HO_542001.out))) (kP (zT HB.out GE541.out))); replace HO_542001 := zA (kE (zP HO_542001.out) (kC ho0) hb); replace BK541 := zA (zB1 BK541.out hb); replace HB := zA (kQ (zT HB.out GE541.out) hb); (try clear hb); (try clear ho0); obtain ⟨hcz25_0, hcz25_1, hfz25_0, hfz25_1⟩ := zB3 BK541.out) | (refine zO (some 60) Tryd.func12 #[.agg #[.int .i64 t536, .slice Ao11 t537.length co11]] ?_; (with_reducible refine (impl_StepsOf.calls kj16 t536 _ _ t537 t550 t553 _ ?side1 ?side2 ?side3 A21.out).mono ?_); (case side1 => exact zS (kB HO_542001.out).2.2); (case side2 => exact (kB HO_542001.out).2.1); (case side3 => exact TabW.below HT.out (zT HB.out GE541.out)); rintro e w26 ⟨v551, rfl, ho0, hb⟩; refine ⟨_, rfl, ?_⟩; have HO552 := zA (kI (kF (kF ho0 (kH (zP HO_542001.out))) (kH (zP HO548.out))) (kP (zT HB.out GE541.out))); replace HO_542001 := zA (kE (zP HO_542001.out) (kC ho0) hb); replace HO548 := zA (kE (zP HO548.out) (kC ho0) hb); replace BK541 := zA (zB1 BK541.out hb); replace HB := zA (kQ (zT HB.out GE541.out) hb); (try clear hb); (try clear ho0)))
     (try simp only [Act.put, zL, zM, zN])
     go_cut [82] (fun v82 wc => ∃ (kq : Nat) (x82_21 : Bool), v82 = .bool x82_21 ∧ Aside0 (laws_FnCliqueSeries.j2 kq t540 t542 t543 t546 t550 x82_21 t536 t537 = some r) ∧ Aside0 (kq ≤ kj16) ∧ Aside0 (Kd.R (Kd.int .i64) 2 wc w.heap.size (fun k_ => some k_ ≠ (v551 : Value).ownBlock ∧ some k_ ≠ ((.slice Ao11 t537.length co11) : Value).ownBlock) v547 t546) ∧ Aside0 (Kd.R (Kd.int .i64) 2 wc w.heap.size (fun k_ => some k_ ≠ (v547 : Value).ownBlock ∧ some k_ ≠ ((.slice Ao11 t537.length co11) : Value).ownBlock) v551 t550) ∧ Aside0 (Kd.R (Kd.int .i64) 2 wc w.heap.size (fun k_ => some k_ ≠ (v547 : Value).ownBlock ∧ some k_ ≠ (v551 : Value).ownBlock) (.slice Ao11 t537.length co11) t537) ∧ Aside0 (wc.heap[gb541]? = some (.cells #[.int .i64 t536, (.slice Ao11 t537.length co11)] 26 (0, 0))) ∧ Aside0 (Below w.heap.size w wc))
     case first => as_aux_lemma =>
      have H := HC22.out
      clear HC22
      by_cases c27 : t549 = 0
      ·rw [if_pos c27] at H
       obtain ⟨c27b0, c27b1⟩ := zT1 c27
       clear c27
       (first | rw [c27b0] | (simp only [i64_w, i32_w]; rw [c27b0]) | skip)
       by_cases c28 : t553 = 0
       ·rw [if_pos c28] at H
        obtain ⟨c28b0, c28b1⟩ := zT1 c28
        clear c28
        by_cases c29 : (t546.length : Int) = 0
        ·rw [if_pos c29] at H
         obtain ⟨c29b0, c29b1⟩ := zT1 c29
         clear c29
         have H' := zA H
         clear H
         obtain ⟨Ao30, co30, eo30⟩ := kM HO548.out
         subst eo30
         go_wp2
         go_meet
         case rel => exact ⟨_, (true), zs, H', ⟨by have := HJ6.out; have := HJ16.out; first | omega | exact Nat.le_refl _⟩, ⟨zPM HO548.out (fun _ hk => ⟨hk.2, hk.1.2⟩)⟩, ⟨zPM HO552.out (fun _ hk => ⟨hk.2, hk.1.2⟩)⟩, ⟨zPM HO_542001.out (fun _ hk => ⟨hk.1.2, hk.2⟩)⟩, ⟨zR BK541.out⟩, ⟨zT HB.out GE541.out⟩⟩
        rw [if_neg c29] at H
        obtain ⟨c29b0, c29b1⟩ := zT2 c29
        have c29b2 : ¬ (t546 = []) := fun h_ => c29 (by rw [h_]; rfl)
        obtain ⟨ji31, hji31⟩ : ∃ j_ : Int, (wrap64 ((t546.length : Int) - 1)) = j_ := ⟨_, rfl⟩
        replace H : (if 0 ≤ (ji31) then (if (ji31) < (t546.length : Int) then (laws_FnCliqueSeries.j2 kj16 t540 t542 t543 t546 t550 ((rd t546 (ji31)) == 0) t536 t537) else (none)) else (none)) = some r := by first | (rw [hji31] at H; exact H) | (simp only [hji31] at H ⊢; exact H)
        have hji31w : (IntKind.i64.wrap ((t546.length : Int) - 1)) = ji31 := (i64_w _).trans hji31
        by_cases c32 : 0 ≤ (ji31)
        ·rw [if_pos c32] at H
         have c32b0 : decide (0 ≤ (ji31)) = true := decide_eq_true c32
         clear c32
         by_cases c33 : (ji31) < (t546.length : Int)
         ·rw [if_pos c33] at H
          have c33b0 : decide ((ji31) < (t546.length : Int)) = true := decide_eq_true c33
          clear c33
          have H' := zA H
          clear H
          obtain ⟨Ao34, co34, eo34⟩ := kM HO548.out
          subst eo34
          have p554 : 0 ≤ ((ji31) : Int) := zd
          have q554 : (ji31) < (t546.length : Int) := zd
          obtain ⟨ad554, e554, hx554_0⟩ := Kd.at_int (kB HO548.out).2.2 (ji31) p554 q554
          cases e554
          replace p554 := eq_true p554
          replace q554 := eq_true q554
          go_wp2
          go_meet
          case rel => exact ⟨_, (((rd t546 (ji31)) == 0)), (by first | rfl | (simp; done) | (simp only [← hji31] <;> (first | rfl | simp)) | (simp [*]; done)), H', ⟨by have := HJ6.out; have := HJ16.out; first | omega | exact Nat.le_refl _⟩, ⟨zPM HO548.out (fun _ hk => ⟨hk.2, hk.1.2⟩)⟩, ⟨zPM HO552.out (fun _ hk => ⟨hk.2, hk.1.2⟩)⟩, ⟨zPM HO_542001.out (fun _ hk => ⟨hk.1.2, hk.2⟩)⟩, ⟨zR BK541.out⟩, ⟨zT HB.out GE541.out⟩⟩
         rw [if_neg c33] at H
         exact absurd H (by simp)
        rw [if_neg c32] at H
        exact absurd H (by simp)
       rw [if_neg c28] at H
       obtain ⟨c28b0, c28b1⟩ := zT2 c28
       have H' := zA H
       clear H
       go_wp2
       go_meet
       case rel => exact ⟨_, (true), zs, H', ⟨by have := HJ6.out; have := HJ16.out; first | omega | exact Nat.le_refl _⟩, ⟨zPM HO548.out (fun _ hk => ⟨hk.2, hk.1.2⟩)⟩, ⟨zPM HO552.out (fun _ hk => ⟨hk.2, hk.1.2⟩)⟩, ⟨zPM HO_542001.out (fun _ hk => ⟨hk.1.2, hk.2⟩)⟩, ⟨zR BK541.out⟩, ⟨zT HB.out GE541.out⟩⟩
      rw [if_neg c27] at H
      obtain ⟨c27b0, c27b1⟩ := zT2 c27
      (first | rw [c27b0] | (simp only [i64_w, i32_w]; rw [c27b0]) | skip)
      have H' := zA H
      clear H
      go_wp2
      go_meet
      case rel => exact ⟨_, (true), zs, H', ⟨by have := HJ6.out; have := HJ16.out; first | omega | exact Nat.le_refl _⟩, ⟨zPM HO548.out (fun _ hk => ⟨hk.2, hk.1.2⟩)⟩, ⟨zPM HO552.out (fun _ hk => ⟨hk.2, hk.1.2⟩)⟩, ⟨zPM HO_542001.out (fun _ hk => ⟨hk.1.2, hk.2⟩)⟩, ⟨zR BK541.out⟩, ⟨zT HB.out GE541.out⟩⟩
     case rest =>
      clear HC22
      try clear c1
      try clear c2
      try clear c3
      try clear hx5
      try clear c7
      try clear c8
      try clear c9
      try clear c10
      try clear c11
      try clear c12
      try clear c15
      try clear c16
      try clear c18
      try clear c19
      try clear c27
      try clear c28
      try clear c29
      try clear c32
      try clear c33
      try clear hcz10_0
      try clear hcz10_1
      try clear hcz13_0
      try clear hcz13_1
      try clear hcz23_0
      try clear hcz23_1
      try clear hcz25_0
      try clear hcz25_1
      try clear hfz10_0
      try clear hfz10_1
      try clear hfz13_0
      try clear hfz13_1
      try clear hfz23_0
      try clear hfz23_1
      try clear hfz25_0
      try clear hfz25_1
      try clear hx554_0
      obtain ⟨kq, x82_21, rfl, HA, HJ21, HO_9, HO_11, HO_542001, BK541, HB⟩ := hcut
      cases kq with
      | zero => exact absurd HA.out (by simp [laws_FnCliqueSeries.j2])
      | succ kj21 =>
       have H := HA.out
       clear HA
       simp only [laws_FnCliqueSeries.j2] at H
       by_cases c35 : x82_21 = true
       ·subst c35
        rw [if_pos rfl] at H
        exact absurd H (by simp)
       replace c35 := Bool.eq_false_iff.mpr c35
       subst c35
       rw [if_neg (show ¬ (false = true) by decide)] at H
       have H' := zA H
       clear H
       go_wp2
       go_loopg [13] kj21 (fun kq v13 w' => ∃ (x9_4 : List Int) (x13_4 : Int), v13 = .int .i64 x13_4 ∧ Aside0 (laws_FnCliqueSeries.l0 kq t540 t542 t543 x9_4 t550 x13_4 t536 t537 = some r) ∧ Aside0 (kq ≤ kj21) ∧ Aside0 (Kd.R (Kd.int .i64) 2 w' w.heap.size (fun k_ => some k_ ≠ (v551 : Value).ownBlock ∧ some k_ ≠ ((.slice Ao11 t537.length co11) : Value).ownBlock) v547 x9_4) ∧ Aside0 (Kd.R (Kd.int .i64) 2 w' w.heap.size (fun k_ => some k_ ≠ (v547 : Value).ownBlock ∧ some k_ ≠ ((.slice Ao11 t537.length co11) : Value).ownBlock) v551 t550) ∧ Aside0 (Kd.R (Kd.int .i64) 2 w' w.heap.size (fun k_ => some k_ ≠ (v547 : Value).ownBlock ∧ some k_ ≠ (v551 : Value).ownBlock) (.slice Ao11 t537.length co11) t537) ∧ Aside0 (w'.heap[gb541]? = some (.cells #[.int .i64 t536, (.slice Ao11 t537.length co11)] 26 (0, 0))) ∧ Aside0 (Below w.heap.size w w'))
       case atStart => exact ⟨(t546), (0), zs, H', ⟨Nat.le_refl _⟩, ⟨zP HO_9.out⟩, ⟨zP HO_11.out⟩, ⟨zP HO_542001.out⟩, ⟨zR BK541.out⟩, ⟨zT HB.out GE541.out⟩⟩
       case round =>
        clear H'
        try clear c1
        try clear c2
        try clear c3
        try clear hx5
        try clear c7
        try clear c8
        try clear c9
        try clear c10
        try clear c11
        try clear c12
        try clear c15
        try clear c16
        try clear c18
        try clear c19
        try clear c27
        try clear c28
        try clear c29
        try clear c32
        try clear c33
        try clear c35
        try clear hcz10_0
        try clear hcz10_1
        try clear hcz13_0
        try clear hcz13_1
        try clear hcz23_0
        try clear hcz23_1
        try clear hcz25_0
        try clear hcz25_1
        try clear hfz10_0
        try clear hfz10_1
        try clear hfz13_0
        try clear hfz13_1
        try clear hfz23_0
        try clear hfz23_1
        try clear hfz25_0
        try clear hfz25_1
        try clear hx554_0
        obtain ⟨x9_4, x13_4, rfl, HA, HK4, HO_9, HO_11, HO_542001, BK541, HB⟩ := hrel
        cases gk with
        | zero => exact absurd HA.out (by simp [laws_FnCliqueSeries.l0])
        | succ k4 =>
         have H := HA.out
         clear HA
         simp only [laws_FnCliqueSeries.l0] at H
         by_cases c36 : x13_4 < (t550.length : Int)
         ·rw [if_pos c36] at H
          have c36b0 : decide (x13_4 < (t550.length : Int)) = true := decide_eq_true c36
          clear c36
          by_cases c37 : 0 ≤ x13_4
          ·rw [if_pos c37] at H
           have c37b0 : decide (0 ≤ x13_4) = true := decide_eq_true c37
           clear c37
           obtain ⟨t556, A38, H⟩ := zb H
           try dsimp only at H
           by_cases c39 : t556 ≥ (x9_4.length : Int)
           ·rw [if_pos c39] at H
            exact absurd H (by simp)
           rw [if_neg c39] at H
           have c39b0 : decide ((x9_4.length : Int) ≤ t556) = false := decide_eq_false c39
           clear c39
           by_cases c40 : 0 ≤ t556
           ·rw [if_pos c40] at H
            have c40b0 : decide (0 ≤ t556) = true := decide_eq_true c40
            clear c40
            by_cases c41 : t556 < (x9_4.length : Int)
            ·rw [if_pos c41] at H
             have c41b0 : decide (t556 < (x9_4.length : Int)) = true := decide_eq_true c41
             clear c41
             obtain ⟨y558, hy558⟩ : ∃ y_ : List Int, y_ = (x9_4.set (t556 : Int).toNat (wrap64 ((wrap64 ((rd x9_4 t556) - 1)) + (wrap64 (2 * (Int.tmod t556 2)))))) := ⟨_, rfl⟩
             replace H : (laws_FnCliqueSeries.l0 k4 t540 t542 t543 y558 t550 (wrap64 (x13_4 + 1)) t536 t537) = some r := zy hy558 H
             have Ny558 := zA hy558
             clear hy558
             have H' := zA H
             clear H
             obtain ⟨Ao43, co43, eo43⟩ := kM HO_11.out
             subst eo43
             have p555 : 0 ≤ (x13_4 : Int) := zd
             have q555 : x13_4 < (t550.length : Int) := zd
             obtain ⟨ad555, e555, hx555_0⟩ := Kd.at_int (kB HO_11.out).2.2 x13_4 p555 q555
             cases e555
             replace p555 := eq_true p555
             replace q555 := eq_true q555
             go_wp2_with (first | (refine zO (some 93) Tryd.func13 #[.int .i64 (rd t550 x13_4)] ?_; (with_reducible refine (laws_bits5_BFnCliqueSeries.calls k4 (rd t550 x13_4) t556 _ A38.out).mono ?_); rintro e w44 ⟨rfl, hb⟩; refine ⟨_, rfl, ?_⟩; replace HO_9 := zA (kL (zP HO_9.out) hb); replace HO_11 := zA (kL (zP HO_11.out) hb); replace HO_542001 := zA (kL (zP HO_542001.out) hb); replace BK541 := zA (zB1 BK541.out hb); replace HB := zA (kQ (zT HB.out GE541.out) hb); (try clear hb); obtain ⟨Ao45, co45, eo45⟩ := kM HO_9.out; subst eo45; have p557 : 0 ≤ (t556 : Int) := zd; have q557 : t556 < (x9_4.length : Int) := zd; obtain ⟨ad557, e557, hx557_0⟩ := Kd.at_int (kB HO_9.out).2.2 t556 p557 q557; cases e557; replace p557 := eq_true p557; replace q557 := eq_true q557; have p42 : 0 ≤ (t556 : Int) := zd; have q42 : (t556 : Int) < ((x9_4.length : Int) : Int) := zd; obtain ⟨go42, co42, eo42, gb42, gl42, cl42, HG42⟩ := Kd.R_form HO_9.out (by omega); (first | cases eo42 | (injection eo42 with ea_ en_ ec_; (first | subst ea_ | (injection ea_ with ea_; subst ea_)); subst ec_; clear en_)); have GB42 := zA gb42; have GG42 := zA HG42; clear gb42 gl42 HG42; (first | simp only [add_plain] at hx557_0 | skip); obtain ⟨hx42_0, hf42_0⟩ := Kd.R_celln 0 HO_9.out (t556 : Int) p42 q42; replace p42 := eq_true p42; replace q42 := eq_true q42; obtain ⟨hy46_, hz46_⟩ := Kd.R_celln 0 HO_9.out (t556 : Int) (zd) (zd); have HP46 := Kd.R_putg HO_9.out (t556 : Int) (wrap64 ((wrap64 ((rd x9_4 t556) - 1)) + (wrap64 (2 * (Int.tmod t556 2)))))) | ((with_reducible refine gate_store (t := 2) (p := 109) rfl ?_); refine store_event (t := 2) (p := 109) (v := ?vo_w47) (w1 := (w44.setCell ⟨go42, (t556 : Int).toNat, none⟩ (.int .i64 (wrap64 ((wrap64 ((rd x9_4 t556) - 1)) + (wrap64 (2 * (Int.tmod t556 2)))))))) ?hg ?ho ?hn ?hr ?_; (case ho => rfl); (case hg => rfl); (case hn => rfl); (case hr => first | (go_simp; done) | (go_simp; rfl)); intro w47 hw; have hg : w44.grownBy w47 (some go42) := (by rw [hw]; exact HP46.2); have hp_ : Kd.R (Kd.int .i64) 2 w47 w.heap.size (fun k_ => some k_ ≠ (.slice (some ad555) t550.length co43 : Value).ownBlock ∧ some k_ ≠ (.slice Ao11 t537.length co11 : Value).ownBlock) (.slice (some ⟨go42, 0, none⟩) x9_4.length co45) y558 := (by rw [hw, Ny558.out]; exact HP46.1); clear HP46; replace HO_11 := zA (Kd.R_after (v := (.slice (some ⟨go42, 0, none⟩) x9_4.length co45)) (v1 := (.slice (some ⟨go42, 0, none⟩) x9_4.length co45)) (ok := (fun k_ => some k_ ≠ (.slice Ao11 t537.length co11 : Value).ownBlock)) (by (with_reducible repeat (first | apply zF | apply zG | apply zH)); exact kA HO_11.out (fun _ hk => ⟨hk.2, hk.1⟩)) hg (.inl rfl)); replace HO_542001 := zA (Kd.R_after (v := (.slice (some ⟨go42, 0, none⟩) x9_4.length co45)) (v1 := (.slice (some ⟨go42, 0, none⟩) x9_4.length co45)) (ok := (fun k_ => some k_ ≠ (.slice (some ad555) t550.length co43 : Value).ownBlock)) (by (with_reducible repeat (first | apply zF | apply zG | apply zH)); exact kA HO_542001.out (fun _ hk => ⟨hk.2, hk.1⟩)) hg (.inl rfl)); replace BK541 := zA (blk_grown (g := gb541) (o := .cells #[.int .i64 t536, .slice Ao11 t537.length co11] 26 (0, 0)) (zR BK541.out) hg (Kd.R_ne HO_9.out BK541.out (by decide))); replace HO_9 := zA (hp_); replace HB := zA ((by rw [hw]; exact zE (HB.out) GB42.out : Below w.heap.size w w47)); clear hg hw hp_))
             go_roundg k4
             case measure => have := HJ6.out; have := HJ16.out; have := HJ21.out; have := HK4.out; omega
             case rel => exact ⟨(y558), (wrap64 (x13_4 + 1)), zs, H', ⟨by have := HJ6.out; have := HJ16.out; have := HJ21.out; have := HK4.out; omega⟩, ⟨zP HO_9.out⟩, ⟨zPM HO_11.out (fun _ hk => ⟨hk.2, hk.1⟩)⟩, ⟨zPM HO_542001.out (fun _ hk => ⟨hk.2, hk.1⟩)⟩, ⟨zR BK541.out⟩, ⟨zT HB.out GE541.out⟩⟩
            rw [if_neg c41] at H
            exact absurd H (by simp)
           rw [if_neg c40] at H
           exact absurd H (by simp)
          rw [if_neg c37] at H
          exact absurd H (by simp)
         rw [if_neg c36] at H
         have c36b0 : decide (x13_4 < (t550.length : Int)) = false := decide_eq_false c36
         clear c36
         have H' := zA H
         clear H
         obtain ⟨Ao48, co48, eo48⟩ := kM HO_11.out
         subst eo48
         go_wp2
         go_loopg [15] k4 (fun kq v15 w' => ∃ (x15_5 : Int), v15 = .int .i64 x15_5 ∧ Aside0 (laws_FnCliqueSeries.l1 kq t540 t542 t543 x9_4 x15_5 t536 t537 = some r) ∧ Aside0 (kq ≤ k4) ∧ Aside0 (Kd.R (Kd.int .i64) 2 w' w.heap.size (fun k_ => some k_ ≠ ((.slice Ao11 t537.length co11) : Value).ownBlock) v547 x9_4) ∧ Aside0 (Kd.R (Kd.int .i64) 2 w' w.heap.size (fun k_ => some k_ ≠ (v547 : Value).ownBlock) (.slice Ao11 t537.length co11) t537) ∧ Aside0 (w'.heap[gb541]? = some (.cells #[.int .i64 t536, (.slice Ao11 t537.length co11)] 26 (0, 0))) ∧ Aside0 (Below w.heap.size w w'))
         case atStart => exact ⟨(0), zs, H', ⟨Nat.le_refl _⟩, ⟨zPM HO_9.out (fun _ hk => hk.2)⟩, ⟨zPM HO_542001.out (fun _ hk => hk.1)⟩, ⟨zR BK541.out⟩, ⟨zT HB.out GE541.out⟩⟩
         case round =>
          clear H'
          try clear c1
          try clear c2
          try clear c3
          try clear c4
          try clear hx4
          try clear hf4
          try clear hx5
          try clear c7
          try clear c8
          try clear c9
          try clear c10
          try clear c11
          try clear c12
          try clear c13
          try clear c15
          try clear c16
          try clear c18
          try clear c19
          try clear c27
          try clear c28
          try clear c29
          try clear c32
          try clear c33
          try clear c35
          try clear c36
          try clear c37
          try clear c39
          try clear c40
          try clear c41
          try clear hx42
          try clear hf42
          try clear hcz10_0
          try clear hcz10_1
          try clear hcz13_0
          try clear hcz13_1
          try clear hcz23_0
          try clear hcz23_1
          try clear hcz25_0
          try clear hcz25_1
          try clear hfz10_0
          try clear hfz10_1
          try clear hfz13_0
          try clear hfz13_1
          try clear hfz23_0
          try clear hfz23_1
          try clear hfz25_0
          try clear hfz25_1
          try clear hx42_0
          try clear hx554_0
          try clear hx555_0
          try clear hx557_0
          obtain ⟨x15_5, rfl, HA, HK5, HO_9, HO_542001, BK541, HB⟩ := hrel
          cases gk with
          | zero => exact absurd HA.out (by simp [laws_FnCliqueSeries.l1])
          | succ k5 =>
           have H := HA.out
           clear HA
           simp only [laws_FnCliqueSeries.l1] at H
           by_cases c49 : x15_5 < (x9_4.length : Int)
           ·rw [if_pos c49] at H
            have c49b0 : decide (x15_5 < (x9_4.length : Int)) = true := decide_eq_true c49
            clear c49
            by_cases c50 : 0 ≤ x15_5
            ·rw [if_pos c50] at H
             have c50b0 : decide (0 ≤ x15_5) = true := decide_eq_true c50
             clear c50
             by_cases c51 : (rd x9_4 x15_5) = 0
             ·rw [if_pos c51] at H
              obtain ⟨c51b0, c51b1⟩ := zT1 c51
              clear c51
              have H' := zA H
              clear H
              obtain ⟨Ao52, co52, eo52⟩ := kM HO_9.out
              subst eo52
              have p559 : 0 ≤ (x15_5 : Int) := zd
              have q559 : x15_5 < (x9_4.length : Int) := zd
              obtain ⟨ad559, e559, hx559_0⟩ := Kd.at_int (kB HO_9.out).2.2 x15_5 p559 q559
              cases e559
              replace p559 := eq_true p559
              replace q559 := eq_true q559
              go_wp2
              go_roundg k5
              case measure => have := HJ6.out; have := HJ16.out; have := HJ21.out; have := HK4.out; have := HK5.out; omega
              case rel => exact ⟨(wrap64 (x15_5 + 1)), zs, H', ⟨by have := HJ6.out; have := HJ16.out; have := HJ21.out; have := HK4.out; have := HK5.out; omega⟩, ⟨zP HO_9.out⟩, ⟨zP HO_542001.out⟩, ⟨zR BK541.out⟩, ⟨zT HB.out GE541.out⟩⟩
             rw [if_neg c51] at H
             exact absurd H (by simp)
            rw [if_neg c50] at H
            exact absurd H (by simp)
           rw [if_neg c49] at H
           have c49b0 : decide (x15_5 < (x9_4.length : Int)) = false := decide_eq_false c49
           clear c49
           obtain ⟨⟨t560, t563⟩, A53, H⟩ := zb H
           try dsimp only at H
           obtain ⟨⟨t564, t565⟩, A54, H⟩ := zb H
           try dsimp only at H
           by_cases c55 : t563 = 0
           ·rw [if_pos c55] at H
            obtain ⟨c55b0, c55b1⟩ := zT1 c55
            clear c55
            by_cases c56 : t543 = 0
            ·rw [if_pos c56] at H
             obtain ⟨c56b0, c56b1⟩ := zT1 c56
             clear c56
             by_cases c57 : t565 = 0
             ·rw [if_pos c57] at H
              obtain ⟨c57b0, c57b1⟩ := zT1 c57
              clear c57
              by_cases c58 : (t564.length : Int) = (wrap64 (t540 + 1))
              ·rw [if_pos c58] at H
               obtain ⟨c58b0, c58b1⟩ := zT1 c58
               clear c58
               by_cases c59 : 0 ≤ t540
               ·rw [if_pos c59] at H
                have c59b0 : decide (0 ≤ t540) = true := decide_eq_true c59
                clear c59
                by_cases c60 : t540 < (t564.length : Int)
                ·rw [if_pos c60] at H
                 have c60b0 : decide (t540 < (t564.length : Int)) = true := decide_eq_true c60
                 clear c60
                 obtain rfl := Option.some.inj H
                 obtain ⟨Ao61, co61, eo61⟩ := kM HO_9.out
                 subst eo61
                 obtain ⟨hcz62_0, hcz62_1, hfz62_0, hfz62_1⟩ := zB3 BK541.out
                 go_wp2_with (first | (refine zO (some 123) Tryd.func11 #[.agg #[.int .i64 t536, .slice Ao11 t537.length co11]] ?_; (with_reducible refine (impl_CliquePolynomial.calls k5 t536 _ _ t537 t560 t563 _ ?side1 ?side2 ?side3 A53.out).mono ?_); (case side1 => exact zS (kB HO_542001.out).2.2); (case side2 => exact (kB HO_542001.out).2.1); (case side3 => exact TabW.below HT.out (zT HB.out GE541.out)); rintro e w63 ⟨v561, rfl, ho0, hb⟩; refine ⟨_, rfl, ?_⟩; have HO562 := zA (kI (kF (kF ho0 (kH (zP HO_9.out))) (kH (zP HO_542001.out))) (kP (zT HB.out GE541.out))); replace HO_9 := zA (kE (zP HO_9.out) (kC ho0) hb); replace HO_542001 := zA (kE (zP HO_542001.out) (kC ho0) hb); replace BK541 := zA (zB1 BK541.out hb); replace HB := zA (kQ (zT HB.out GE541.out) hb); (try clear hb); (try clear ho0); obtain ⟨Ao64, co64, eo64⟩ := kM HO562.out; subst eo64) | (refine zO (some 129) Tryd.func14 #[.slice Ao64 t560.length co64, .int .i64 t540] ?_; (with_reducible refine (impl_InverseSeries.calls k5 _ _ t560 t540 t564 t565 _ ?side1 ?side2 A54.out).mono ?_); (case side1 => exact zS (kB HO562.out).2.2); (case side2 => exact (kB HO562.out).2.1); rintro e w65 ⟨v566, rfl, ho0, hb⟩; refine ⟨_, rfl, ?_⟩; have HO567 := zA (kI (kF (kF (kF ho0 (kH (zP HO_9.out))) (kH (zP HO_542001.out))) (kH (zP HO562.out))) (kP (zT HB.out GE541.out))); replace HO_9 := zA (kE (zP HO_9.out) (kC ho0) hb); replace HO_542001 := zA (kE (zP HO_542001.out) (kC ho0) hb); replace HO562 := zA (kE (zP HO562.out) (kC ho0) hb); replace BK541 := zA (zB1 BK541.out hb); replace HB := zA (kQ (zT HB.out GE541.out) hb); (try clear hb); (try clear ho0); obtain ⟨Ao66, co66, eo66⟩ := kM HO567.out; subst eo66; have p568 : 0 ≤ (t540 : Int) := zd; have q568 : t540 < (t564.length : Int) := zd; obtain ⟨ad568, e568, hx568_0⟩ := Kd.at_int (kB HO567.out).2.2 t540 p568 q568; cases e568; replace p568 := eq_true p568; replace q568 := eq_true q568))
                 go_ret
                 exact ⟨zr, zT HB.out GE541.out⟩
                rw [if_neg c60] at H
                exact absurd H (by simp)
               rw [if_neg c59] at H
               exact absurd H (by simp)
              rw [if_neg c58] at H
              exact absurd H (by simp)
             rw [if_neg c57] at H
             exact absurd H (by simp)
            rw [if_neg c56] at H
            obtain ⟨c56b0, c56b1⟩ := zT2 c56
            obtain rfl := Option.some.inj H
            obtain ⟨Ao67, co67, eo67⟩ := kM HO_9.out
            subst eo67
            obtain ⟨hcz68_0, hcz68_1, hfz68_0, hfz68_1⟩ := zB3 BK541.out
            go_wp2_with (first | (refine zO (some 123) Tryd.func11 #[.agg #[.int .i64 t536, .slice Ao11 t537.length co11]] ?_; (with_reducible refine (impl_CliquePolynomial.calls k5 t536 _ _ t537 t560 t563 _ ?side1 ?side2 ?side3 A53.out).mono ?_); (case side1 => exact zS (kB HO_542001.out).2.2); (case side2 => exact (kB HO_542001.out).2.1); (case side3 => exact TabW.below HT.out (zT HB.out GE541.out)); rintro e w69 ⟨v561, rfl, ho0, hb⟩; refine ⟨_, rfl, ?_⟩; have HO562 := zA (kI (kF (kF ho0 (kH (zP HO_9.out))) (kH (zP HO_542001.out))) (kP (zT HB.out GE541.out))); replace HO_9 := zA (kE (zP HO_9.out) (kC ho0) hb); replace HO_542001 := zA (kE (zP HO_542001.out) (kC ho0) hb); replace BK541 := zA (zB1 BK541.out hb); replace HB := zA (kQ (zT HB.out GE541.out) hb); (try clear hb); (try clear ho0); obtain ⟨Ao70, co70, eo70⟩ := kM HO562.out; subst eo70) | (refine zO (some 129) Tryd.func14 #[.slice Ao70 t560.length co70, .int .i64 t540] ?_; (with_reducible refine (impl_InverseSeries.calls k5 _ _ t560 t540 t564 t565 _ ?side1 ?side2 A54.out).mono ?_); (case side1 => exact zS (kB HO562.out).2.2); (case side2 => exact (kB HO562.out).2.1); rintro e w71 ⟨v566, rfl, ho0, hb⟩; refine ⟨_, rfl, ?_⟩; have HO567 := zA (kI (kF (kF (kF ho0 (kH (zP HO_9.out))) (kH (zP HO_542001.out))) (kH (zP HO562.out))) (kP (zT HB.out GE541.out))); replace HO_9 := zA (kE (zP HO_9.out) (kC ho0) hb); replace HO_542001 := zA (kE (zP HO_542001.out) (kC ho0) hb); replace HO562 := zA (kE (zP HO562.out) (kC ho0) hb); replace BK541 := zA (zB1 BK541.out hb); replace HB := zA (kQ (zT HB.out GE541.out) hb); (try clear hb); (try clear ho0)))
            go_ret
            exact ⟨zr, zT HB.out GE541.out⟩
           rw [if_neg c55] at H
           exact absurd H (by simp)


end Go.Proofs.YtcboobfmenonhaaDoor.PAll
