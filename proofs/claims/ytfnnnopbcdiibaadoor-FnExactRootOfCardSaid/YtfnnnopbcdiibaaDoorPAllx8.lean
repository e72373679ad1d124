-- Printed by a program of the session (wip/tools/pgen.py) out of the translation. Not trusted: Lean checks it.
import Derived.Test.YtfnnnopbcdiibaaDoorPAllx0
import Derived.Test.YtfnnnopbcdiibaaDoorPAllx2
import Derived.Test.YtfnnnopbcdiibaaDoorPAllx3
namespace Go.Proofs.YtfnnnopbcdiibaaDoor.PAll
open Go.RowKit Go.Proofs.YtfnnnopbcdiibaaDoor.T Go.Proofs.YtfnnnopbcdiibaaDoorW.PrintWords Go.Proofs.YtfnnnopbcdiibaaDoorW.PrintLast Go.Proofs.YtfnnnopbcdiibaaDoorW.PrintMore
attribute [local go_sem] max2_int min2_int max_two min_two max_three min_three max_four min_four   -- for this text's walks alone
set_option linter.unusedVariables false
set_option linter.unusedSimpArgs false

/-! ### spec_l03Same: function 73 -/
def spec_l03Same.l0 : Nat → List Int → List Int → Int → Int → List Int → Option (Bool)
 | 0, _, _, _, _, _ => none
 | k + 1, x1, x7, x8, x486000, x486001 => if x8 < (x1.length : Int) then (if 0 ≤ x8 then ((spec_l03First.f k x486000 x486001 x7 (rd x1 x8)).bind fun t490 => (if t490 < 0 then (some false) else ((spec_l03Without.f x7 t490).bind fun t491 => (spec_l03Same.l0 k x1 t491 (wrap64 (x8 + 1)) x486000 x486001)))) else (none)) else (some ((x7.length : Int) == 0))
def spec_l03Same.f (k : Nat) (a0_0 : Int) (l0_1 : List Int) (l1 : List Int) (l2 : List Int) : Option (Bool) := (spec_l01Own.f l2).bind fun t486 => (spec_l03Same.l0 k l1 t486 0 a0_0 l0_1)

def spec_l03Same.T5 : Bool × List (List Nat × List Nat) := (true, [([], []), ([], []), ([], []), ([], []), ([2, 3], [2, 3]), ([4], [4]), ([0, 1, 5], [0, 1, 5]), ([6, 6, 0, 1, 2, 3, 4, 5, 6], [6])])
def spec_l03Same.B5 : List Nat := [0, 0, 0, 0, 12, 28, 63, 127]
theorem spec_l03Same.tab5 : rtab .any (opsOf Tryd.f73 5) = spec_l03Same.T5 := by kernel_rfl
theorem spec_l03Same.bits5 : waitsOk spec_l03Same.T5.2 spec_l03Same.B5 = true := by kernel_rfl
set_option maxHeartbeats 8000000 in
set_option maxRecDepth 100000 in
theorem spec_l03Same.calls (k : Nat) (a0_0 : Int) (A0_1 : Option Addr) (c0_1 : Nat) (l0_1 : List Int) (A1 : Option Addr) (c1 : Nat) (l1 : List Int) (A2 : Option Addr) (c2 : Nat) (l2 : List Int) (r : Bool) (w : World) (hr0_1 : Kd.C (Kd.int .i64) w A0_1 l0_1.length l0_1) (hc0_1 : l0_1.length ≤ c0_1) (hr1 : Kd.C (Kd.int .i64) w A1 l1.length l1) (hc1 : l1.length ≤ c1) (hr2 : Kd.C (Kd.int .i64) w A2 l2.length l2) (hc2 : l2.length ≤ c2) (h : spec_l03Same.f k a0_0 l0_1 l1 l2 = some r) :
  Calls Tryd.prog 73 #[.agg #[.int .i64 a0_0, .slice A0_1 l0_1.length c0_1], .slice A1 l1.length c1, .slice A2 l2.length c2] w fun e w' => e = .returned (.bool r) ∧ Below w.heap.size w w' := by
 have hu28 := Tryd.underlying28
 have HR0_1 := zA hr0_1
 have HC0_1 := zA hc0_1
 clear hr0_1 hc0_1
 have HR1 := zA hr1
 have HC1 := zA hc1
 clear hr1 hc1
 have HR2 := zA hr2
 have HC2 := zA hc2
 clear hr2 hc2
 have HB := zA (kW w.heap.size w)
 have H := h
 unfold spec_l03Same.f at H
 clear h
 obtain ⟨t486, A4, H⟩ := zb H
 try dsimp only at H
 have H' := zA H
 clear H
 go_enter Tryd.func73, Tryd.ntmps73
 go_wp2_with (first | (refine zBE 3 #[.int .i64 a0_0, .slice A0_1 l0_1.length c0_1] 28 ?_; intro gb485 hg w5 hbox hb; have BK485 := zA (hbox); have GW485 := zA (zBH hg HB.out); have GE485 := zA (zBH hg HB.out); replace HB := zA (kQ (zQ HB.out) hb); clear hb hbox hg) | (refine zO (some 11) Tryd.func64 #[.slice A2 l2.length c2] ?_; (with_reducible refine (spec_l01Own.calls _ _ l2 t486 _ ?side1 ?side2 A4.out).mono ?_); (case side1 => exact zS (kO HR2.out HB.out)); (case side2 => exact HC2.out); rintro e w6 ⟨v487, rfl, ho0, hb⟩; refine ⟨_, rfl, ?_⟩; have HO488 := zA (kI ho0 (kP (zT HB.out GE485.out))); replace BK485 := zA (zB1 BK485.out hb); replace HB := zA (kQ (zT HB.out GE485.out) hb); (try clear hb); (try clear ho0)))
 go_loopg [7, 8] k (fun kq v7 v8 w' => ∃ (x7_1 : List Int) (x8_1 : Int), v8 = .int .i64 x8_1 ∧ Aside0 (spec_l03Same.l0 kq l1 x7_1 x8_1 a0_0 l0_1 = some r) ∧ Aside0 (kq ≤ k) ∧ Aside0 (Kd.R (Kd.int .i64) 2 w' w.heap.size (fun _ => True) v7 x7_1) ∧ Aside0 (w'.heap[gb485]? = some (.cells #[.int .i64 a0_0, (.slice A0_1 l0_1.length c0_1)] 28 (0, 0))) ∧ Aside0 (Below w.heap.size w w'))
 case atStart => exact ⟨(t486), (0), zs, H', ⟨Nat.le_refl _⟩, ⟨zP HO488.out⟩, ⟨zR BK485.out⟩, ⟨zT HB.out GE485.out⟩⟩
 case round =>
  clear H'
  try clear c1
  try clear c2
  try clear c6
  obtain ⟨x7_1, x8_1, rfl, HA, HK1, HO_7, BK485, HB⟩ := hrel
  cases gk with
  | zero => exact absurd HA.out (by simp [spec_l03Same.l0])
  | succ k1 =>
   have H := HA.out
   clear HA
   simp only [spec_l03Same.l0] at H
   by_cases c7 : x8_1 < (l1.length : Int)
   ·rw [if_pos c7] at H
    have c7b0 : decide (x8_1 < (l1.length : Int)) = true := decide_eq_true c7
    clear c7
    by_cases c8 : 0 ≤ x8_1
    ·rw [if_pos c8] at H
     have c8b0 : decide (0 ≤ x8_1) = true := decide_eq_true c8
     clear c8
     obtain ⟨t490, A9, H⟩ := zb H
     try dsimp only at H
     by_cases c10 : t490 < 0
     ·rw [if_pos c10] at H
      have c10b0 : decide (t490 < 0) = true := decide_eq_true c10
      clear c10
      obtain rfl := Option.some.inj H
      try go_wp2
      replace HO_7 := zA (zH HO_7.out)
      replace BK485 := zA (zK BK485.out)
      replace HB := zA (zD HB.out)
      have p489 : 0 ≤ (x8_1 : Int) := zd
      have q489 : x8_1 < (l1.length : Int) := zd
      obtain ⟨ad489, e489, hx489_0⟩ := Kd.at_int HR1.out x8_1 p489 q489
      have hw489_0 := hx489_0
      cases e489
      replace hx489_0 := (HB.out.cell (jG w _ hx489_0)).trans hx489_0
      replace p489 := eq_true p489
      replace q489 := eq_true q489
      obtain ⟨Ao12, co12, eo12⟩ := kM HO_7.out
      (first | subst eo12 | (injection eo12 with f1_ f2_ f3_; have f4_ := f1_.symm; have f5_ := f3_.symm; clear f1_ f2_ f3_; subst f4_; subst f5_))
      refine start_ (n := 8) (S := fun w' => w'.cell? ⟨gb485, 0, none⟩ = some (.int .i64 a0_0) ∧ w'.cell? ⟨gb485, 1, none⟩ = some (.slice A0_1 l0_1.length c0_1) ∧ w'.cell? (ad489.add (x8_1).toNat) = some (.int .i64 (rd l1 x8_1))) (ds := []) #[false, false, false, false, false, false, false, false] (by kernel_rfl) rfl rfl ⟨(kV BK485.out 0).trans rfl, (kV BK485.out 1).trans rfl, (pw_cell_below HB.out hw489_0)⟩ (fun hHeld => ?_); refine with_tabW spec_l03Same.tab5 spec_l03Same.bits5 (fun HT_ HW_ => ?_)
      generalize wr.drew = w11 at HO_7 BK485 HB hx489_0 hHeld ⊢
      refine zp 1 (some 19) #[false, true, false, false, false, false, false, false] HT_.out ?_
      refine zp 2 (some 20) #[false, true, true, false, false, false, false, false] HT_.out ?_
      refine zp 3 (some 21) #[false, true, true, true, false, false, false, false] HT_.out ?_
      refine zp 4 (some 22) #[false, true, true, true, true, false, false, false] HT_.out ?_
      refine ze 0 (some 18) #[true, true, true, true, true, false, false, false] HT_.out HW_.out hHeld ?_
      refine ze 5 (some 23) #[true, true, true, true, true, true, false, false] HT_.out HW_.out hHeld ?_
      refine one_ (i := 6) (N := some 24) #[true, true, true, true, true, true, true, false] rfl rfl (one_of HT_.out (by kernel_rfl)) (by decide) (fun K hK => ?_)
      refine goes_ Tryd.func103 (by kernel_rfl) rfl #[.agg #[.int .i64 a0_0, .slice A0_1 l0_1.length c0_1], .slice Ao12 x7_1.length co12, .int .i64 (rd l1 x8_1)] (by rfl) rfl rfl zg ?_
      with_reducible refine (spec_l03First.calls k1 a0_0 _ _ l0_1 _ _ x7_1 (rd l1 x8_1) t490 _ ?side1 ?side2 ?side3 ?side4 A9.out).mono ?_
      (case side1 => exact zS (kO HR0_1.out HB.out))
      (case side2 => exact HC0_1.out)
      (case side3 => exact zS (kB HO_7.out).2.2)
      (case side4 => exact (kB HO_7.out).2.1)
      rintro e w13 ⟨rfl, hb⟩
      refine ⟨_, rfl, ?_⟩
      replace HO_7 := zA (kL (zP HO_7.out) hb)
      replace BK485 := zA (zB1 BK485.out hb)
      replace HB := zA (kQ (zT HB.out GE485.out) hb)
      (try clear hb)
      (try clear hb2)
      (try clear hk)
      (try clear hi)
      (try clear hgw)
      refine hK.out _ _ ⟨(kV BK485.out 0).trans rfl, (kV BK485.out 1).trans rfl, (pw_cell_below HB.out hw489_0)⟩ (fun hHeld => ?_)
      clear hK K
      refine norm_ (a' := ?_) ?_ ?_
      rotate_left
      ·show Act.put _ (some 24) _ = _
       simp only [Act.put, zL, zM, zN, i64_w, i32_w]
       rfl
      refine zp 7 (some 9) #[true, true, true, true, true, true, true, true] HT_.out ?_
      refine done_ (done_of HT_.out (by kernel_rfl)) ?_
      try go_wp2
      go_ret
      exact ⟨zr, zT HB.out GE485.out⟩
     rw [if_neg c10] at H
     have c10b0 : decide (t490 < 0) = false := decide_eq_false c10
     clear c10
     obtain ⟨t491, A14, H⟩ := zb H
     try dsimp only at H
     have H' := zA H
     clear H
     try go_wp2
     replace HO_7 := zA (zH HO_7.out)
     replace BK485 := zA (zK BK485.out)
     replace HB := zA (zD HB.out)
     have p489 : 0 ≤ (x8_1 : Int) := zd
     have q489 : x8_1 < (l1.length : Int) := zd
     obtain ⟨ad489, e489, hx489_0⟩ := Kd.at_int HR1.out x8_1 p489 q489
     have hw489_0 := hx489_0
     cases e489
     replace hx489_0 := (HB.out.cell (jG w _ hx489_0)).trans hx489_0
     replace p489 := eq_true p489
     replace q489 := eq_true q489
     obtain ⟨Ao16, co16, eo16⟩ := kM HO_7.out
     (first | subst eo16 | (injection eo16 with f1_ f2_ f3_; have f4_ := f1_.symm; have f5_ := f3_.symm; clear f1_ f2_ f3_; subst f4_; subst f5_))
     refine start_ (n := 8) (S := fun w' => w'.cell? ⟨gb485, 0, none⟩ = some (.int .i64 a0_0) ∧ w'.cell? ⟨gb485, 1, none⟩ = some (.slice A0_1 l0_1.length c0_1) ∧ w'.cell? (ad489.add (x8_1).toNat) = some (.int .i64 (rd l1 x8_1))) (ds := []) #[false, false, false, false, false, false, false, false] (by kernel_rfl) rfl rfl ⟨(kV BK485.out 0).trans rfl, (kV BK485.out 1).trans rfl, (pw_cell_below HB.out hw489_0)⟩ (fun hHeld => ?_); refine with_tabW spec_l03Same.tab5 spec_l03Same.bits5 (fun HT_ HW_ => ?_)
     generalize wr.drew = w15 at HO_7 BK485 HB hx489_0 hHeld ⊢
     refine zp 1 (some 19) #[false, true, false, false, false, false, false, false] HT_.out ?_
     refine zp 2 (some 20) #[false, true, true, false, false, false, false, false] HT_.out ?_
     refine zp 3 (some 21) #[false, true, true, true, false, false, false, false] HT_.out ?_
     refine zp 4 (some 22) #[false, true, true, true, true, false, false, false] HT_.out ?_
     refine ze 0 (some 18) #[true, true, true, true, true, false, false, false] HT_.out HW_.out hHeld ?_
     refine ze 5 (some 23) #[true, true, true, true, true, true, false, false] HT_.out HW_.out hHeld ?_
     refine one_ (i := 6) (N := some 24) #[true, true, true, true, true, true, true, false] rfl rfl (one_of HT_.out (by kernel_rfl)) (by decide) (fun K hK => ?_)
     refine goes_ Tryd.func103 (by kernel_rfl) rfl #[.agg #[.int .i64 a0_0, .slice A0_1 l0_1.length c0_1], .slice Ao16 x7_1.length co16, .int .i64 (rd l1 x8_1)] (by rfl) rfl rfl zg ?_
     with_reducible refine (spec_l03First.calls k1 a0_0 _ _ l0_1 _ _ x7_1 (rd l1 x8_1) t490 _ ?side1 ?side2 ?side3 ?side4 A9.out).mono ?_
     (case side1 => exact zS (kO HR0_1.out HB.out))
     (case side2 => exact HC0_1.out)
     (case side3 => exact zS (kB HO_7.out).2.2)
     (case side4 => exact (kB HO_7.out).2.1)
     rintro e w17 ⟨rfl, hb⟩
     refine ⟨_, rfl, ?_⟩
     replace HO_7 := zA (kL (zP HO_7.out) hb)
     replace BK485 := zA (zB1 BK485.out hb)
     replace HB := zA (kQ (zT HB.out GE485.out) hb)
     (try clear hb)
     (try clear hb2)
     (try clear hk)
     (try clear hi)
     (try clear hgw)
     refine hK.out _ _ ⟨(kV BK485.out 0).trans rfl, (kV BK485.out 1).trans rfl, (pw_cell_below HB.out hw489_0)⟩ (fun hHeld => ?_)
     clear hK K
     refine norm_ (a' := ?_) ?_ ?_
     rotate_left
     ·show Act.put _ (some 24) _ = _
      simp only [Act.put, zL, zM, zN, i64_w, i32_w]
      rfl
     refine zp 7 (some 9) #[true, true, true, true, true, true, true, true] HT_.out ?_
     refine done_ (done_of HT_.out (by kernel_rfl)) ?_
     try go_wp2_with (first | (refine zO (some 29) Tryd.func104 #[.slice Ao16 x7_1.length co16, .int .i64 t490] ?_; (with_reducible refine (spec_l03Without.calls _ _ x7_1 t490 t491 _ ?side1 ?side2 A14.out).mono ?_); (case side1 => exact zS (kB HO_7.out).2.2); (case side2 => exact (kB HO_7.out).2.1); rintro e w18 ⟨v492, rfl, ho0, hb⟩; refine ⟨_, rfl, ?_⟩; have HO493 := zA (kI (kF ho0 (kH (zP HO_7.out))) (kP (zT HB.out GE485.out))); replace HO_7 := zA (kE (zP HO_7.out) (kC ho0) hb); replace BK485 := zA (zB1 BK485.out hb); replace HB := zA (kQ (zT HB.out GE485.out) hb); (try clear hb); (try clear ho0)))
     go_roundg k1
     case measure => have := HK1.out; omega
     case rel => exact ⟨(t491), (wrap64 (x8_1 + 1)), zs, H', ⟨by have := HK1.out; omega⟩, ⟨zPM HO493.out (fun _ hk => trivial)⟩, ⟨zR BK485.out⟩, ⟨zT HB.out GE485.out⟩⟩
    rw [if_neg c8] at H
    exact absurd H (by simp)
   rw [if_neg c7] at H
   have c7b0 : decide (x8_1 < (l1.length : Int)) = false := decide_eq_false c7
   clear c7
   obtain rfl := Option.some.inj H
   obtain ⟨Ao19, co19, eo19⟩ := kM HO_7.out
   subst eo19
   go_wp2
   go_ret
   exact ⟨zr, zT HB.out GE485.out⟩

/-! ### slices_Equal_int64_int64: function 114 -/
def slices_Equal_int64_int64.l0 : Nat → List Int → List Int → Int → Int → Option (Bool)
 | 0, _, _, _, _ => none
 | k + 1, x0, x1, x12, x13 => if x13 < x12 then (if 0 ≤ x13 then (if x13 < (x0.length : Int) then (if x13 < (x1.length : Int) then (if (rd x0 x13) = (rd x1 x13) then (slices_Equal_int64_int64.l0 k x0 x1 x12 (wrap64 (x13 + 1))) else (some false)) else (none)) else (none)) else (none)) else (some true)
def slices_Equal_int64_int64.f (k : Nat) (l0 : List Int) (l1 : List Int) : Option (Bool) := if (l0.length : Int) = (l1.length : Int) then (slices_Equal_int64_int64.l0 k l0 l1 (l0.length : Int) 0) else (some false)

set_option maxHeartbeats 8000000 in
set_option maxRecDepth 100000 in
theorem slices_Equal_int64_int64.calls (k : Nat) (A0 : Option Addr) (c0 : Nat) (l0 : List Int) (A1 : Option Addr) (c1 : Nat) (l1 : List Int) (r : Bool) (w : World) (hr0 : Kd.C (Kd.int .i64) w A0 l0.length l0) (hc0 : l0.length ≤ c0) (hr1 : Kd.C (Kd.int .i64) w A1 l1.length l1) (hc1 : l1.length ≤ c1) (h : slices_Equal_int64_int64.f k l0 l1 = some r) :
  Calls Tryd.prog 114 #[.slice A0 l0.length c0, .slice A1 l1.length c1] w fun e w' => e = .returned (.bool r) ∧ Drawn0 w w' := by
 have HR0 := zA hr0
 have HC0 := zA hc0
 clear hr0 hc0
 have HR1 := zA hr1
 have HC1 := zA hc1
 clear hr1 hc1
 have H := h
 unfold slices_Equal_int64_int64.f at H
 clear h
 by_cases c3 : (l0.length : Int) = (l1.length : Int)
 ·rw [if_pos c3] at H
  obtain ⟨c3b0, c3b1⟩ := zT1 c3
  have c3b2 : (l0.length == l1.length) = true := by first | simpa using c3 | (simp at c3 ⊢; omega)
  clear c3
  have H' := zA H
  clear H
  go_enter Tryd.func114, Tryd.ntmps114
  go_wp2
  repeat (go_quiet (fail); try go_wp2)
  go_loopg [13] k (fun kq v13 w' => ∃ (x13_1 : Int), v13 = .int .i64 x13_1 ∧ Aside0 (slices_Equal_int64_int64.l0 kq l0 l1 (l0.length : Int) x13_1 = some r) ∧ Aside0 (kq ≤ k) ∧ Drawn0 w w')
  case atStart => exact ⟨(0), zs, H', ⟨Nat.le_refl _⟩, by repeat (first | exact Drawn0.refl _ | apply Drawn0.step)⟩
  case round =>
   clear H'
   try clear c1
   try clear c3
   obtain ⟨x13_1, rfl, HA, HK1, ⟨m1, rfl⟩⟩ := hrel
   cases gk with
   | zero => exact absurd HA.out (by simp [slices_Equal_int64_int64.l0])
   | succ k1 =>
    have H := HA.out
    clear HA
    simp only [slices_Equal_int64_int64.l0] at H
    by_cases c4 : x13_1 < (l0.length : Int)
    ·rw [if_pos c4] at H
     have c4b0 : decide (x13_1 < (l0.length : Int)) = true := decide_eq_true c4
     clear c4
     by_cases c5 : 0 ≤ x13_1
     ·rw [if_pos c5] at H
      have c5b0 : decide (0 ≤ x13_1) = true := decide_eq_true c5
      clear c5
      by_cases c6 : x13_1 < (l0.length : Int)
      ·rw [if_pos c6] at H
       have c6b0 : decide (x13_1 < (l0.length : Int)) = true := decide_eq_true c6
       clear c6
       by_cases c7 : x13_1 < (l1.length : Int)
       ·rw [if_pos c7] at H
        have c7b0 : decide (x13_1 < (l1.length : Int)) = true := decide_eq_true c7
        clear c7
        by_cases c8 : (rd l0 x13_1) = (rd l1 x13_1)
        ·rw [if_pos c8] at H
         obtain ⟨c8b0, c8b1⟩ := zT1 c8
         clear c8
         have H' := zA H
         clear H
         have p539 : 0 ≤ (x13_1 : Int) := zd
         have q539 : x13_1 < (l0.length : Int) := zd
         obtain ⟨ad539, e539, hx539_0⟩ := Kd.at_int HR0.out x13_1 p539 q539
         cases e539
         replace p539 := eq_true p539
         replace q539 := eq_true q539
         have p540 : 0 ≤ (x13_1 : Int) := zd
         have q540 : x13_1 < (l1.length : Int) := zd
         obtain ⟨ad540, e540, hx540_0⟩ := Kd.at_int HR1.out x13_1 p540 q540
         cases e540
         replace p540 := eq_true p540
         replace q540 := eq_true q540
         go_wp2
         repeat (go_quiet (fail); try go_wp2)
         go_roundg k1
         case measure => have := HK1.out; omega
         case rel => exact ⟨(wrap64 (x13_1 + 1)), zs, H', ⟨by have := HK1.out; omega⟩, by repeat (first | exact Drawn0.refl _ | apply Drawn0.step)⟩
        rw [if_neg c8] at H
        obtain ⟨c8b0, c8b1⟩ := zT2 c8
        obtain rfl := Option.some.inj H
        have p539 : 0 ≤ (x13_1 : Int) := zd
        have q539 : x13_1 < (l0.length : Int) := zd
        obtain ⟨ad539, e539, hx539_0⟩ := Kd.at_int HR0.out x13_1 p539 q539
        cases e539
        replace p539 := eq_true p539
        replace q539 := eq_true q539
        have p540 : 0 ≤ (x13_1 : Int) := zd
        have q540 : x13_1 < (l1.length : Int) := zd
        obtain ⟨ad540, e540, hx540_0⟩ := Kd.at_int HR1.out x13_1 p540 q540
        cases e540
        replace p540 := eq_true p540
        replace q540 := eq_true q540
        go_wp2
        repeat (go_quiet (fail); try go_wp2)
        go_ret
        exact ⟨zs, by repeat (first | exact Drawn0.refl _ | apply Drawn0.step)⟩
       rw [if_neg c7] at H
       exact absurd H (by simp)
      rw [if_neg c6] at H
      exact absurd H (by simp)
     rw [if_neg c5] at H
     exact absurd H (by simp)
    rw [if_neg c4] at H
    have c4b0 : decide (x13_1 < (l0.length : Int)) = false := decide_eq_false c4
    clear c4
    obtain rfl := Option.some.inj H
    go_wp2
    repeat (go_quiet (fail); try go_wp2)
    go_ret
    exact ⟨zs, by repeat (first | exact Drawn0.refl _ | apply Drawn0.step)⟩
 rw [if_neg c3] at H
 obtain ⟨c3b0, c3b1⟩ := zT2 c3
 have c3b2 : (l0.length == l1.length) = false := by first | simpa using c3 | (simp at c3 ⊢; omega)
 obtain rfl := Option.some.inj H
 go_enter Tryd.func114, Tryd.ntmps114
 go_wp2
 repeat (go_quiet (fail); try go_wp2)
 go_ret
 exact ⟨zs, by repeat (first | exact Drawn0.refl _ | apply Drawn0.step)⟩

/-! ### impl_ties_same: function 76 -/
def impl_ties_same.f (k : Nat) (l0 : List Int) (l1 : List Int) (l2 : List Int) : Option (Bool) := (impl_ties_normal.f k l0 l1).bind fun t541 => ((impl_ties_normal.f k l0 l2).bind fun t544 => ((slices_Equal_int64_int64.f k t541 t544).bind fun t547 => (some t547)))

set_option maxHeartbeats 8000000 in
set_option maxRecDepth 100000 in
theorem impl_ties_same.calls (k : Nat) (A0 : Option Addr) (c0 : Nat) (l0 : List Int) (A1 : Option Addr) (c1 : Nat) (l1 : List Int) (A2 : Option Addr) (c2 : Nat) (l2 : List Int) (r : Bool) (w : World) (hr0 : Kd.C (Kd.int .i64) w A0 l0.length l0) (hc0 : l0.length ≤ c0) (hr1 : Kd.C (Kd.int .i64) w A1 l1.length l1) (hc1 : l1.length ≤ c1) (hr2 : Kd.C (Kd.int .i64) w A2 l2.length l2) (hc2 : l2.length ≤ c2) (hT : TabW w) (h : impl_ties_same.f k l0 l1 l2 = some r) :
  Calls Tryd.prog 76 #[.slice A0 l0.length c0, .slice A1 l1.length c1, .slice A2 l2.length c2] w fun e w' => e = .returned (.bool r) ∧ Below w.heap.size w w' := by
 have HT := zA hT
 clear hT
 have HR0 := zA hr0
 have HC0 := zA hc0
 clear hr0 hc0
 have HR1 := zA hr1
 have HC1 := zA hc1
 clear hr1 hc1
 have HR2 := zA hr2
 have HC2 := zA hc2
 clear hr2 hc2
 have HB := zA (kW w.heap.size w)
 have H := h
 unfold impl_ties_same.f at H
 clear h
 obtain ⟨t541, A4, H⟩ := zb H
 try dsimp only at H
 obtain ⟨t544, A5, H⟩ := zb H
 try dsimp only at H
 obtain ⟨t547, A6, H⟩ := zb H
 try dsimp only at H
 obtain rfl := Option.some.inj H
 go_enter Tryd.func76, Tryd.ntmps76
 go_wp2_with (first | (refine zO (some 9) Tryd.func80 #[.slice A0 l0.length c0, .slice A1 l1.length c1] ?_; (with_reducible refine (impl_ties_normal.calls k _ _ l0 (fun k_ => k_ < w.heap.size) _ _ l1 t541 _ ?side1 ?side2 ?side3 ?side4 A4.out).mono ?_); (case side1 => exact zS HR0.out); (case side2 => exact HC0.out); (case side3 => exact Kd.V_mk HC1.out (Kd.F_below (Kd.C_F (Kd.heap_int .i64) HR1.out) (zQ HB.out))); (case side4 => exact TabW.below HT.out (zQ HB.out)); rintro e w7 ⟨v542, rfl, ho0, hb⟩; refine ⟨_, rfl, ?_⟩; have HO543 := zA (kI (kA (ok' := fun k_ => True) ho0 (fun _ hk_ => trivial)) (kP (zQ HB.out))); replace HB := zA (kQ (zQ HB.out) hb); (try clear hb); (try clear ho0)) | (refine zO (some 12) Tryd.func80 #[.slice A0 l0.length c0, .slice A2 l2.length c2] ?_; (with_reducible refine (impl_ties_normal.calls k _ _ l0 (fun k_ => k_ < w.heap.size) _ _ l2 t544 _ ?side1 ?side2 ?side3 ?side4 A5.out).mono ?_); (case side1 => exact zS (kO HR0.out HB.out)); (case side2 => exact HC0.out); (case side3 => exact Kd.V_mk HC2.out (Kd.F_below (Kd.C_F (Kd.heap_int .i64) HR2.out) (zQ HB.out))); (case side4 => exact TabW.below HT.out (zQ HB.out)); rintro e w8 ⟨v545, rfl, ho0, hb⟩; refine ⟨_, rfl, ?_⟩; have HO546 := zA (kI (kF (kA (ok' := fun k_ => True) ho0 (fun _ hk_ => trivial)) (kH (zP HO543.out))) (kP (zQ HB.out))); replace HO543 := zA (kE (zP HO543.out) (kC ho0) hb); replace HB := zA (kQ (zQ HB.out) hb); (try clear hb); (try clear ho0); obtain ⟨Ao9, co9, eo9⟩ := kM HO543.out; subst eo9; obtain ⟨Ao10, co10, eo10⟩ := kM HO546.out; subst eo10) | (refine zO (some 13) Tryd.func114 #[.slice Ao9 t541.length co9, .slice Ao10 t544.length co10] ?_; (with_reducible refine (slices_Equal_int64_int64.calls k _ _ t541 _ _ t544 t547 _ ?side1 ?side2 ?side3 ?side4 A6.out).mono ?_); (case side1 => exact zS (kB HO543.out).2.2); (case side2 => exact (kB HO543.out).2.1); (case side3 => exact zS (kB HO546.out).2.2); (case side4 => exact (kB HO546.out).2.1); rintro e w' ⟨rfl, ⟨nd, rfl⟩⟩; refine ⟨_, rfl, ?_⟩))
 go_ret
 exact ⟨zr, zQ HB.out⟩

end Go.Proofs.YtfnnnopbcdiibaaDoor.PAll
