-- Printed by a program of the session (wip/tools/pgen.py) out of the translation. Not trusted: Lean checks it.
import Derived.Test.YthgapkbkhoeleaaDoorPAllx0
import Derived.Test.YthgapkbkhoeleaaDoorPAllx1
namespace Go.Proofs.YthgapkbkhoeleaaDoor.PAll
open Go.RowKit Go.Proofs.YthgapkbkhoeleaaDoor.T Go.Proofs.YthgapkbkhoeleaaDoorW.PrintWords Go.Proofs.YthgapkbkhoeleaaDoorW.PrintLast Go.Proofs.YthgapkbkhoeleaaDoorW.PrintMore
attribute [local go_sem] max2_int min2_int max_two min_two max_three min_three max_four min_four   -- for this text's walks alone
set_option linter.unusedVariables false
set_option linter.unusedSimpArgs false

/-! ### spec_l04Order: function 175 -/
mutual
def spec_l04Order.l0 : Nat → List Int → List Int → Int → Int → List Int → Option (List Int)
 | 0, _, _, _, _, _ => none
 | k + 1, x1, x5, x6, x174000, x174001 => if x6 < (x1.length : Int) then ((spec_l01One.f x6).bind fun t177 => (spec_l04Order.l1 k x1 x5 x6 t177 (wrap64 (x6 + 1)) x174000 x174001)) else (some x5)
def spec_l04Order.l1 : Nat → List Int → List Int → Int → Int → Int → Int → List Int → Option (List Int)
 | 0, _, _, _, _, _, _, _ => none
 | k + 1, x1, x5, x6, x7, x8, x174000, x174001 => if x8 < (x1.length : Int) then (spec_l04Order.l2 k x1 x5 x6 x7 x8 x6 x174000 x174001) else (if x5.length < 17592186044416 then (spec_l04Order.l0 k x1 (x5 ++ [x7]) (wrap64 (x6 + 1)) x174000 x174001) else (none))
def spec_l04Order.l2 : Nat → List Int → List Int → Int → Int → Int → Int → Int → List Int → Option (List Int)
 | 0, _, _, _, _, _, _, _, _ => none
 | k + 1, x1, x5, x6, x7, x8, x9, x174000, x174001 => if x9 < x8 then ((spec_l01Bit.f x7 x9).bind fun t181 => (if t181 = true then (if 0 ≤ x9 then (if x9 < (x1.length : Int) then (if 0 ≤ x8 then (if x8 < (x1.length : Int) then ((spec_l02Dep.f x174000 x174001 (rd x1 x9) (rd x1 x8)).bind fun t184 => (if t184 = true then ((spec_l01One.f x8).bind fun t185 => (spec_l04Order.l2 k x1 x5 x6 (Go.bits .or .i64 x7 t185) x8 (wrap64 (x9 + 1)) x174000 x174001)) else (spec_l04Order.l2 k x1 x5 x6 x7 x8 (wrap64 (x9 + 1)) x174000 x174001))) else (none)) else (none)) else (none)) else (none)) else (spec_l04Order.l2 k x1 x5 x6 x7 x8 (wrap64 (x9 + 1)) x174000 x174001))) else (spec_l04Order.l1 k x1 x5 x6 x7 (wrap64 (x8 + 1)) x174000 x174001)
end
def spec_l04Order.f (k : Nat) (a0_0 : Int) (l0_1 : List Int) (l1 : List Int) : Option (List Int) := spec_l04Order.l0 k l1 (([] : List Int)) 0 a0_0 l0_1

def spec_l04Order.T12 : Bool × List (List Nat × List Nat) := (true, [([], []), ([], []), ([0, 1], [0, 1]), ([2, 2], [2]), ([3], [3]), ([3], [3]), ([3], [3]), ([5, 6, 3], [3, 5, 6]), ([7, 3], [3, 7]), ([3], [3]), ([3], [3]), ([9, 10, 3], [3, 9, 10]), ([11, 3], [3, 11]), ([4, 8, 12, 3, 3], [3, 4, 8, 12]), ([3, 13], [3, 13])])
def spec_l04Order.B12 : List Nat := [0, 0, 3, 7, 15, 15, 15, 111, 239, 15, 15, 1551, 3599, 8191, 16383]
theorem spec_l04Order.tab12 : rtab .any (opsOf Tryd.f175 12) = spec_l04Order.T12 := by kernel_rfl
theorem spec_l04Order.bits12 : waitsOk spec_l04Order.T12.2 spec_l04Order.B12 = true := by kernel_rfl
set_option maxHeartbeats 8000000 in
set_option maxRecDepth 100000 in
theorem spec_l04Order.calls (k : Nat) (a0_0 : Int) (A0_1 : Option Addr) (c0_1 : Nat) (l0_1 : List Int) (A1 : Option Addr) (c1 : Nat) (l1 : List Int) (r : List Int) (w : World) (hr0_1 : Kd.C (Kd.int .i64) w A0_1 l0_1.length l0_1) (hc0_1 : l0_1.length ≤ c0_1) (hr1 : Kd.C (Kd.int .i64) w A1 l1.length l1) (hc1 : l1.length ≤ c1) (h : spec_l04Order.f k a0_0 l0_1 l1 = some r) :
  Calls Tryd.prog 175 #[.agg #[.int .i64 a0_0, .slice A0_1 l0_1.length c0_1], .slice A1 l1.length c1] w fun e w' => ∃ v0_ : Value, e = .returned (v0_) ∧ Kd.R (Kd.int .i64) 2 w' w.heap.size (fun _ => True) v0_ r ∧ Below w.heap.size w w' := by
 have hu29 := Tryd.underlying29
 have HR0_1 := zA hr0_1
 have HC0_1 := zA hc0_1
 clear hr0_1 hc0_1
 have HR1 := zA hr1
 have HC1 := zA hc1
 clear hr1 hc1
 have HB := zA (kW w.heap.size w)
 have H := h
 unfold spec_l04Order.f at H
 clear h
 obtain ⟨y174, hy174⟩ : ∃ y_ : List Int, y_ = (([] : List Int)) := ⟨_, rfl⟩
 replace H : (spec_l04Order.l0 k l1 y174 0 a0_0 l0_1) = some r := zy hy174 H
 have Ny174 := zA hy174
 clear hy174
 have H' := zA H
 clear H
 go_enter Tryd.func175, Tryd.ntmps175
 go_wp2_with (first | (refine zBE 2 #[.int .i64 a0_0, .slice A0_1 l0_1.length c0_1] 29 ?_; intro gb173 hg w3 hbox hb; have BK173 := zA (hbox); have GW173 := zA (zBH hg HB.out); have GE173 := zA (zBH hg HB.out); replace HB := zA (kQ (zQ HB.out) hb); clear hb hbox hg) | ((with_reducible refine kS (N := 10) rfl ?_); refine Kd.R_lit (Kd.int .i64) _ 2 ?hg (N := 10) ?hd (xs := ([] : List Int)) (inner := []) (ok := fun _ => True) (okp := fun _ => True) ?hr ?hp (fun _ hk => hk) trivial (kW _ _) (Nat.le_refl _) (by simp) ?_; (case hd => rfl); (case hg => rfl); (case hr => first | (go_simp; done) | (go_simp; rfl)); (case hp => exact (Reps.none _ _)); intro v175 w4 ho5 hb hg_ hnew_; clear hg_ hnew_; (first | rw [← Ny174.out] at ho5 | (simp only [Int.reduceToNat] at ho5; rw [← Ny174.out] at ho5)); have HO176 := zA (kI ho5 (kP (zT HB.out GE173.out))); replace BK173 := zA (zB1 BK173.out hb); replace HB := zA (kQ (zT HB.out GE173.out) hb); clear hb ho5))
 go_loopg [5, 6] k (fun kq v5 v6 w' => ∃ (x5_1 : List Int) (x6_1 : Int), v6 = .int .i64 x6_1 ∧ Aside0 (spec_l04Order.l0 kq l1 x5_1 x6_1 a0_0 l0_1 = some r) ∧ Aside0 (kq ≤ k) ∧ Aside0 (Kd.R (Kd.int .i64) 2 w' w.heap.size (fun _ => True) v5 x5_1) ∧ Aside0 (w'.heap[gb173]? = some (.cells #[.int .i64 a0_0, (.slice A0_1 l0_1.length c0_1)] 29 (0, 0))) ∧ Aside0 (Below w.heap.size w w'))
 case atStart => exact ⟨(y174), (0), zs, H', ⟨Nat.le_refl _⟩, ⟨zP HO176.out⟩, ⟨zR BK173.out⟩, ⟨zT HB.out GE173.out⟩⟩
 case round =>
  clear H'
  try clear c1
  obtain ⟨x5_1, x6_1, rfl, HA, HK1, HO_5, BK173, HB⟩ := hrel
  cases gk with
  | zero => exact absurd HA.out (by simp [spec_l04Order.l0])
  | succ k1 =>
   have H := HA.out
   clear HA
   simp only [spec_l04Order.l0] at H
   by_cases c6 : x6_1 < (l1.length : Int)
   ·rw [if_pos c6] at H
    have c6b0 : decide (x6_1 < (l1.length : Int)) = true := decide_eq_true c6
    clear c6
    obtain ⟨t177, A7, H⟩ := zb H
    try dsimp only at H
    have H' := zA H
    clear H
    go_wp2_with (first | (refine zO (some 18) Tryd.func144 #[.int .i64 x6_1] ?_; (with_reducible refine (spec_l01One.calls x6_1 t177 _ A7.out).mono ?_); rintro e w' ⟨rfl, ⟨nd, rfl⟩⟩; refine ⟨_, rfl, ?_⟩))
    go_loopg [7, 8] k1 (fun kq v7 v8 w' => ∃ (x7_2 : Int) (x8_2 : Int), v7 = .int .i64 x7_2 ∧ v8 = .int .i64 x8_2 ∧ Aside0 (spec_l04Order.l1 kq l1 x5_1 x6_1 x7_2 x8_2 a0_0 l0_1 = some r) ∧ Aside0 (kq ≤ k1) ∧ Aside0 (Kd.R (Kd.int .i64) 2 w' w.heap.size (fun _ => True) u5 x5_1) ∧ Aside0 (w'.heap[gb173]? = some (.cells #[.int .i64 a0_0, (.slice A0_1 l0_1.length c0_1)] 29 (0, 0))) ∧ Aside0 (Below w.heap.size w w'))
    case atStart => exact ⟨(t177), (wrap64 (x6_1 + 1)), zs, zs, H', ⟨Nat.le_refl _⟩, ⟨zP HO_5.out⟩, ⟨zR BK173.out⟩, ⟨zT HB.out GE173.out⟩⟩
    case round =>
     clear H'
     try clear c1
     try clear c6
     obtain ⟨x7_2, x8_2, rfl, rfl, HA, HK2, HO_5, BK173, HB⟩ := hrel
     cases gk with
     | zero => exact absurd HA.out (by simp [spec_l04Order.l1])
     | succ k2 =>
      have H := HA.out
      clear HA
      simp only [spec_l04Order.l1] at H
      by_cases c8 : x8_2 < (l1.length : Int)
      ·rw [if_pos c8] at H
       have c8b0 : decide (x8_2 < (l1.length : Int)) = true := decide_eq_true c8
       clear c8
       have H' := zA H
       clear H
       go_wp2
       go_loopg [7, 9] k2 (fun kq v7 v9 w' => ∃ (x7_3 : Int) (x9_3 : Int), v7 = .int .i64 x7_3 ∧ v9 = .int .i64 x9_3 ∧ Aside0 (spec_l04Order.l2 kq l1 x5_1 x6_1 x7_3 x8_2 x9_3 a0_0 l0_1 = some r) ∧ Aside0 (kq ≤ k2) ∧ Aside0 (Kd.R (Kd.int .i64) 2 w' w.heap.size (fun _ => True) u5 x5_1) ∧ Aside0 (w'.heap[gb173]? = some (.cells #[.int .i64 a0_0, (.slice A0_1 l0_1.length c0_1)] 29 (0, 0))) ∧ Aside0 (Below w.heap.size w w'))
       case atStart => exact ⟨(x7_2), (x6_1), zs, zs, H', ⟨Nat.le_refl _⟩, ⟨zP HO_5.out⟩, ⟨zR BK173.out⟩, ⟨zT HB.out GE173.out⟩⟩
       case round =>
        clear H'
        try clear c1
        try clear c6
        try clear c8
        obtain ⟨x7_3, x9_3, rfl, rfl, HA, HK3, HO_5, BK173, HB⟩ := hrel
        cases gk with
        | zero => exact absurd HA.out (by simp [spec_l04Order.l2])
        | succ k3 =>
         have H := HA.out
         clear HA
         simp only [spec_l04Order.l2] at H
         by_cases c9 : x9_3 < x8_2
         ·rw [if_pos c9] at H
          have c9b0 : decide (x9_3 < x8_2) = true := decide_eq_true c9
          clear c9
          obtain ⟨t181, A10, H⟩ := zb H
          try dsimp only at H
          by_cases c11 : t181 = true
          ·subst c11
           rw [if_pos rfl] at H
           by_cases c12 : 0 ≤ x9_3
           ·rw [if_pos c12] at H
            have c12b0 : decide (0 ≤ x9_3) = true := decide_eq_true c12
            clear c12
            by_cases c13 : x9_3 < (l1.length : Int)
            ·rw [if_pos c13] at H
             have c13b0 : decide (x9_3 < (l1.length : Int)) = true := decide_eq_true c13
             clear c13
             by_cases c14 : 0 ≤ x8_2
             ·rw [if_pos c14] at H
              have c14b0 : decide (0 ≤ x8_2) = true := decide_eq_true c14
              clear c14
              by_cases c15 : x8_2 < (l1.length : Int)
              ·rw [if_pos c15] at H
               have c15b0 : decide (x8_2 < (l1.length : Int)) = true := decide_eq_true c15
               clear c15
               obtain ⟨t184, A16, H⟩ := zb H
               try dsimp only at H
               by_cases c17 : t184 = true
               ·subst c17
                rw [if_pos rfl] at H
                obtain ⟨t185, A18, H⟩ := zb H
                try dsimp only at H
                have H' := zA H
                clear H
                try go_wp2
                replace HO_5 := zA (zH HO_5.out)
                replace BK173 := zA (zK BK173.out)
                replace HB := zA (zD HB.out)
                have p182 : 0 ≤ (x9_3 : Int) := zd
                have q182 : x9_3 < (l1.length : Int) := zd
                obtain ⟨ad182, e182, hx182_0⟩ := Kd.at_int HR1.out x9_3 p182 q182
                have hw182_0 := hx182_0
                cases e182
                replace hx182_0 := (HB.out.cell (jG w _ hx182_0)).trans hx182_0
                replace p182 := eq_true p182
                replace q182 := eq_true q182
                have p183 : 0 ≤ (x8_2 : Int) := zd
                have q183 : x8_2 < (l1.length : Int) := zd
                obtain ⟨ad183, e183, hx183_0⟩ := Kd.at_int HR1.out x8_2 p183 q183
                have hw183_0 := hx183_0
                obtain rfl : ad182 = ad183 := (by injection e183)
                replace hx183_0 := (HB.out.cell (jG w _ hx183_0)).trans hx183_0
                replace p183 := eq_true p183
                replace q183 := eq_true q183
                refine start_ (n := 15) (S := fun w' => w'.cell? ⟨gb173, 0, none⟩ = some (.int .i64 a0_0) ∧ w'.cell? ⟨gb173, 1, none⟩ = some (.slice A0_1 l0_1.length c0_1) ∧ w'.cell? (ad182.add (x9_3).toNat) = some (.int .i64 (rd l1 x9_3)) ∧ w'.cell? (ad182.add (x8_2).toNat) = some (.int .i64 (rd l1 x8_2))) (ds := []) #[false, false, false, false, false, false, false, false, false, false, false, false, false, false, false] (by kernel_rfl) rfl rfl ⟨(kV BK173.out 0).trans rfl, (kV BK173.out 1).trans rfl, (pw_cell_below HB.out hw182_0), (pw_cell_below HB.out hw183_0)⟩ (fun hHeld => ?_); refine with_tabW spec_l04Order.tab12 spec_l04Order.bits12 (fun HT_ HW_ => ?_)
                generalize wr.drew = w19 at HO_5 BK173 HB hx182_0 hx183_0 hHeld ⊢
                refine zp 0 (some 33) #[true, false, false, false, false, false, false, false, false, false, false, false, false, false, false] HT_.out ?_
                refine zp 1 (some 34) #[true, true, false, false, false, false, false, false, false, false, false, false, false, false, false] HT_.out ?_
                refine one_ (i := 2) (N := some 35) #[true, true, true, false, false, false, false, false, false, false, false, false, false, false, false] rfl rfl (one_of HT_.out (by kernel_rfl)) (by decide) (fun K hK => ?_)
                refine goes_ Tryd.func135 (by kernel_rfl) rfl #[.int .i64 x7_3, .int .i64 x9_3] (by rfl) rfl rfl zg ?_
                with_reducible refine (spec_l01Bit.calls x7_3 x9_3 true _ A10.out).mono ?_
                rintro e w' ⟨rfl, ⟨nd, rfl⟩⟩
                refine ⟨_, rfl, ?_⟩
                refine hK.out _ _ ⟨(kV BK173.out 0).trans rfl, (kV BK173.out 1).trans rfl, (pw_cell_below HB.out hw182_0), (pw_cell_below HB.out hw183_0)⟩ (fun hHeld => ?_)
                clear hK K
                refine norm_ (a' := ?_) ?_ ?_
                rotate_left
                ·show Act.put _ (some 35) _ = _
                 simp only [Act.put, zL, zM, zN, i64_w, i32_w]
                 rfl
                refine zp 3 (some 36) #[true, true, true, true, false, false, false, false, false, false, false, false, false, false, false] HT_.out ?_
                refine zp 5 (some 38) #[true, true, true, true, false, true, false, false, false, false, false, false, false, false, false] HT_.out ?_
                refine zp 6 (some 39) #[true, true, true, true, false, true, true, false, false, false, false, false, false, false, false] HT_.out ?_
                refine zp 7 (some 40) #[true, true, true, true, false, true, true, true, false, false, false, false, false, false, false] HT_.out ?_
                refine zp 9 (some 42) #[true, true, true, true, false, true, true, true, false, true, false, false, false, false, false] HT_.out ?_
                refine zp 10 (some 43) #[true, true, true, true, false, true, true, true, false, true, true, false, false, false, false] HT_.out ?_
                refine zp 11 (some 44) #[true, true, true, true, false, true, true, true, false, true, true, true, false, false, false] HT_.out ?_
                refine zf 4 (some 37) #[true, true, true, true, true, true, true, true, false, true, true, true, false, false, false] HT_.out HW_.out hHeld ?_
                refine zf 8 (some 41) #[true, true, true, true, true, true, true, true, true, true, true, true, false, false, false] HT_.out HW_.out hHeld ?_
                refine zf 12 (some 45) #[true, true, true, true, true, true, true, true, true, true, true, true, true, false, false] HT_.out HW_.out hHeld ?_
                refine one_ (i := 13) (N := some 46) #[true, true, true, true, true, true, true, true, true, true, true, true, true, true, false] rfl rfl (one_of HT_.out (by kernel_rfl)) (by decide) (fun K hK => ?_)
                refine goes_ Tryd.func184 (by kernel_rfl) rfl #[.agg #[.int .i64 a0_0, .slice A0_1 l0_1.length c0_1], .int .i64 (rd l1 x9_3), .int .i64 (rd l1 x8_2)] (by rfl) rfl rfl zg ?_
                with_reducible refine (spec_l02Dep.calls a0_0 _ _ l0_1 (rd l1 x9_3) (rd l1 x8_2) true _ ?side1 ?side2 A16.out).mono ?_
                (case side1 => exact zS (kO HR0_1.out (zT HB.out GE173.out)))
                (case side2 => exact HC0_1.out)
                rintro e w20 ⟨rfl, hb⟩
                refine ⟨_, rfl, ?_⟩
                replace HO_5 := zA (kL (zP HO_5.out) hb)
                replace BK173 := zA (zB1 BK173.out hb)
                replace HB := zA (kQ (zT HB.out GE173.out) hb)
                (try clear hb)
                (try clear hb2)
                (try clear hk)
                (try clear hi)
                (try clear hgw)
                refine hK.out _ _ ⟨(kV BK173.out 0).trans rfl, (kV BK173.out 1).trans rfl, (pw_cell_below HB.out hw182_0), (pw_cell_below HB.out hw183_0)⟩ (fun hHeld => ?_)
                clear hK K
                refine norm_ (a' := ?_) ?_ ?_
                rotate_left
                ·show Act.put _ (some 46) _ = _
                 simp only [Act.put, zL, zM, zN, i64_w, i32_w]
                 rfl
                refine zp 14 (some 47) #[true, true, true, true, true, true, true, true, true, true, true, true, true, true, true] HT_.out ?_
                refine done_ (done_of HT_.out (by kernel_rfl)) ?_
                try go_wp2_with (first | (refine zO (some 50) Tryd.func144 #[.int .i64 x8_2] ?_; (with_reducible refine (spec_l01One.calls x8_2 t185 _ A18.out).mono ?_); rintro e w' ⟨rfl, ⟨nd, rfl⟩⟩; refine ⟨_, rfl, ?_⟩))
                go_roundg k3
                case measure => have := HK1.out; have := HK2.out; have := HK3.out; omega
                case rel => exact ⟨(Go.bits .or .i64 x7_3 t185), (wrap64 (x9_3 + 1)), zs, zs, H', ⟨by have := HK1.out; have := HK2.out; have := HK3.out; omega⟩, ⟨zP HO_5.out⟩, ⟨zR BK173.out⟩, ⟨zT HB.out GE173.out⟩⟩
               replace c17 := Bool.eq_false_iff.mpr c17
               subst c17
               rw [if_neg (show ¬ (false = true) by decide)] at H
               have H' := zA H
               clear H
               try go_wp2
               replace HO_5 := zA (zH HO_5.out)
               replace BK173 := zA (zK BK173.out)
               replace HB := zA (zD HB.out)
               have p182 : 0 ≤ (x9_3 : Int) := zd
               have q182 : x9_3 < (l1.length : Int) := zd
               obtain ⟨ad182, e182, hx182_0⟩ := Kd.at_int HR1.out x9_3 p182 q182
               have hw182_0 := hx182_0
               cases e182
               replace hx182_0 := (HB.out.cell (jG w _ hx182_0)).trans hx182_0
               replace p182 := eq_true p182
               replace q182 := eq_true q182
               have p183 : 0 ≤ (x8_2 : Int) := zd
               have q183 : x8_2 < (l1.length : Int) := zd
               obtain ⟨ad183, e183, hx183_0⟩ := Kd.at_int HR1.out x8_2 p183 q183
               have hw183_0 := hx183_0
               obtain rfl : ad182 = ad183 := (by injection e183)
               replace hx183_0 := (HB.out.cell (jG w _ hx183_0)).trans hx183_0
               replace p183 := eq_true p183
               replace q183 := eq_true q183
               refine start_ (n := 15) (S := fun w' => w'.cell? ⟨gb173, 0, none⟩ = some (.int .i64 a0_0) ∧ w'.cell? ⟨gb173, 1, none⟩ = some (.slice A0_1 l0_1.length c0_1) ∧ w'.cell? (ad182.add (x9_3).toNat) = some (.int .i64 (rd l1 x9_3)) ∧ w'.cell? (ad182.add (x8_2).toNat) = some (.int .i64 (rd l1 x8_2))) (ds := []) #[false, false, false, false, false, false, false, false, false, false, false, false, false, false, false] (by kernel_rfl) rfl rfl ⟨(kV BK173.out 0).trans rfl, (kV BK173.out 1).trans rfl, (pw_cell_below HB.out hw182_0), (pw_cell_below HB.out hw183_0)⟩ (fun hHeld => ?_); refine with_tabW spec_l04Order.tab12 spec_l04Order.bits12 (fun HT_ HW_ => ?_)
               generalize wr.drew = w21 at HO_5 BK173 HB hx182_0 hx183_0 hHeld ⊢
               refine zp 0 (some 33) #[true, false, false, false, false, false, false, false, false, false, false, false, false, false, false] HT_.out ?_
               refine zp 1 (some 34) #[true, true, false, false, false, false, false, false, false, false, false, false, false, false, false] HT_.out ?_
               refine one_ (i := 2) (N := some 35) #[true, true, true, false, false, false, false, false, false, false, false, false, false, false, false] rfl rfl (one_of HT_.out (by kernel_rfl)) (by decide) (fun K hK => ?_)
               refine goes_ Tryd.func135 (by kernel_rfl) rfl #[.int .i64 x7_3, .int .i64 x9_3] (by rfl) rfl rfl zg ?_
               with_reducible refine (spec_l01Bit.calls x7_3 x9_3 true _ A10.out).mono ?_
               rintro e w' ⟨rfl, ⟨nd, rfl⟩⟩
               refine ⟨_, rfl, ?_⟩
               refine hK.out _ _ ⟨(kV BK173.out 0).trans rfl, (kV BK173.out 1).trans rfl, (pw_cell_below HB.out hw182_0), (pw_cell_below HB.out hw183_0)⟩ (fun hHeld => ?_)
               clear hK K
               refine norm_ (a' := ?_) ?_ ?_
               rotate_left
               ·show Act.put _ (some 35) _ = _
                simp only [Act.put, zL, zM, zN, i64_w, i32_w]
                rfl
               refine zp 3 (some 36) #[true, true, true, true, false, false, false, false, false, false, false, false, false, false, false] HT_.out ?_
               refine zp 5 (some 38) #[true, true, true, true, false, true, false, false, false, false, false, false, false, false, false] HT_.out ?_
               refine zp 6 (some 39) #[true, true, true, true, false, true, true, false, false, false, false, false, false, false, false] HT_.out ?_
               refine zp 7 (some 40) #[true, true, true, true, false, true, true, true, false, false, false, false, false, false, false] HT_.out ?_
               refine zp 9 (some 42) #[true, true, true, true, false, true, true, true, false, true, false, false, false, false, false] HT_.out ?_
               refine zp 10 (some 43) #[true, true, true, true, false, true, true, true, false, true, true, false, false, false, false] HT_.out ?_
               refine zp 11 (some 44) #[true, true, true, true, false, true, true, true, false, true, true, true, false, false, false] HT_.out ?_
               refine zf 4 (some 37) #[true, true, true, true, true, true, true, true, false, true, true, true, false, false, false] HT_.out HW_.out hHeld ?_
               refine zf 8 (some 41) #[true, true, true, true, true, true, true, true, true, true, true, true, false, false, false] HT_.out HW_.out hHeld ?_
               refine zf 12 (some 45) #[true, true, true, true, true, true, true, true, true, true, true, true, true, false, false] HT_.out HW_.out hHeld ?_
               refine one_ (i := 13) (N := some 46) #[true, true, true, true, true, true, true, true, true, true, true, true, true, true, false] rfl rfl (one_of HT_.out (by kernel_rfl)) (by decide) (fun K hK => ?_)
               refine goes_ Tryd.func184 (by kernel_rfl) rfl #[.agg #[.int .i64 a0_0, .slice A0_1 l0_1.length c0_1], .int .i64 (rd l1 x9_3), .int .i64 (rd l1 x8_2)] (by rfl) rfl rfl zg ?_
               with_reducible refine (spec_l02Dep.calls a0_0 _ _ l0_1 (rd l1 x9_3) (rd l1 x8_2) false _ ?side1 ?side2 A16.out).mono ?_
               (case side1 => exact zS (kO HR0_1.out (zT HB.out GE173.out)))
               (case side2 => exact HC0_1.out)
               rintro e w22 ⟨rfl, hb⟩
               refine ⟨_, rfl, ?_⟩
               replace HO_5 := zA (kL (zP HO_5.out) hb)
               replace BK173 := zA (zB1 BK173.out hb)
               replace HB := zA (kQ (zT HB.out GE173.out) hb)
               (try clear hb)
               (try clear hb2)
               (try clear hk)
               (try clear hi)
               (try clear hgw)
               refine hK.out _ _ ⟨(kV BK173.out 0).trans rfl, (kV BK173.out 1).trans rfl, (pw_cell_below HB.out hw182_0), (pw_cell_below HB.out hw183_0)⟩ (fun hHeld => ?_)
               clear hK K
               refine norm_ (a' := ?_) ?_ ?_
               rotate_left
               ·show Act.put _ (some 46) _ = _
                simp only [Act.put, zL, zM, zN, i64_w, i32_w]
                rfl
               refine zp 14 (some 47) #[true, true, true, true, true, true, true, true, true, true, true, true, true, true, true] HT_.out ?_
               refine done_ (done_of HT_.out (by kernel_rfl)) ?_
               try go_wp2
               go_roundg k3
               case measure => have := HK1.out; have := HK2.out; have := HK3.out; omega
               case rel => exact ⟨(x7_3), (wrap64 (x9_3 + 1)), zs, zs, H', ⟨by have := HK1.out; have := HK2.out; have := HK3.out; omega⟩, ⟨zP HO_5.out⟩, ⟨zR BK173.out⟩, ⟨zT HB.out GE173.out⟩⟩
              rw [if_neg c15] at H
              exact absurd H (by simp)
             rw [if_neg c14] at H
             exact absurd H (by simp)
            rw [if_neg c13] at H
            exact absurd H (by simp)
           rw [if_neg c12] at H
           exact absurd H (by simp)
          replace c11 := Bool.eq_false_iff.mpr c11
          subst c11
          rw [if_neg (show ¬ (false = true) by decide)] at H
          have H' := zA H
          clear H
          try go_wp2
          replace HO_5 := zA (zH HO_5.out)
          replace BK173 := zA (zK BK173.out)
          replace HB := zA (zD HB.out)
          refine start_ (n := 15) (S := fun w' => True) (ds := []) #[false, false, false, false, false, false, false, false, false, false, false, false, false, false, false] (by kernel_rfl) rfl rfl trivial (fun hHeld => ?_); refine with_tabW spec_l04Order.tab12 spec_l04Order.bits12 (fun HT_ HW_ => ?_)
          generalize wr.drew = w23 at HO_5 BK173 HB hHeld ⊢
          refine zp 0 (some 33) #[true, false, false, false, false, false, false, false, false, false, false, false, false, false, false] HT_.out ?_
          refine zp 1 (some 34) #[true, true, false, false, false, false, false, false, false, false, false, false, false, false, false] HT_.out ?_
          refine one_ (i := 2) (N := some 35) #[true, true, true, false, false, false, false, false, false, false, false, false, false, false, false] rfl rfl (one_of HT_.out (by kernel_rfl)) (by decide) (fun K hK => ?_)
          refine goes_ Tryd.func135 (by kernel_rfl) rfl #[.int .i64 x7_3, .int .i64 x9_3] (by rfl) rfl rfl zg ?_
          with_reducible refine (spec_l01Bit.calls x7_3 x9_3 false _ A10.out).mono ?_
          rintro e w' ⟨rfl, ⟨nd, rfl⟩⟩
          refine ⟨_, rfl, ?_⟩
          refine hK.out _ _ trivial (fun hHeld => ?_)
          clear hK K
          refine norm_ (a' := ?_) ?_ ?_
          rotate_left
          ·show Act.put _ (some 35) _ = _
           simp only [Act.put, zL, zM, zN, i64_w, i32_w]
           rfl
          refine zp 3 (some 36) #[true, true, true, true, false, false, false, false, false, false, false, false, false, false, false] HT_.out ?_
          refine zu 4 (some 37) #[true, true, true, true, true, false, false, false, false, false, false, false, false, false, false] HT_.out ?_
          refine zu 5 (some 38) #[true, true, true, true, true, true, false, false, false, false, false, false, false, false, false] HT_.out ?_
          refine zu 6 (some 39) #[true, true, true, true, true, true, true, false, false, false, false, false, false, false, false] HT_.out ?_
          refine zu 7 (some 40) #[true, true, true, true, true, true, true, true, false, false, false, false, false, false, false] HT_.out ?_
          refine zu 8 (some 41) #[true, true, true, true, true, true, true, true, true, false, false, false, false, false, false] HT_.out ?_
          refine zu 9 (some 42) #[true, true, true, true, true, true, true, true, true, true, false, false, false, false, false] HT_.out ?_
          refine zu 10 (some 43) #[true, true, true, true, true, true, true, true, true, true, true, false, false, false, false] HT_.out ?_
          refine zu 11 (some 44) #[true, true, true, true, true, true, true, true, true, true, true, true, false, false, false] HT_.out ?_
          refine zu 12 (some 45) #[true, true, true, true, true, true, true, true, true, true, true, true, true, false, false] HT_.out ?_
          refine zu 13 (some 46) #[true, true, true, true, true, true, true, true, true, true, true, true, true, true, false] HT_.out ?_
          refine zp 14 (some 47) #[true, true, true, true, true, true, true, true, true, true, true, true, true, true, true] HT_.out ?_
          refine done_ (done_of HT_.out (by kernel_rfl)) ?_
          try go_wp2
          go_roundg k3
          case measure => have := HK1.out; have := HK2.out; have := HK3.out; omega
          case rel => exact ⟨(x7_3), (wrap64 (x9_3 + 1)), zs, zs, H', ⟨by have := HK1.out; have := HK2.out; have := HK3.out; omega⟩, ⟨zP HO_5.out⟩, ⟨zR BK173.out⟩, ⟨zT HB.out GE173.out⟩⟩
         rw [if_neg c9] at H
         have c9b0 : decide (x9_3 < x8_2) = false := decide_eq_false c9
         clear c9
         have H' := zA H
         clear H
         go_wp2
         go_roundg k3
         case measure => have := HK1.out; have := HK2.out; have := HK3.out; omega
         case rel => exact ⟨(x7_3), (wrap64 (x8_2 + 1)), zs, zs, H', ⟨by have := HK1.out; have := HK2.out; have := HK3.out; omega⟩, ⟨zP HO_5.out⟩, ⟨zR BK173.out⟩, ⟨zT HB.out GE173.out⟩⟩
      rw [if_neg c8] at H
      have c8b0 : decide (x8_2 < (l1.length : Int)) = false := decide_eq_false c8
      clear c8
      by_cases c24 : x5_1.length < 17592186044416
      ·rw [if_pos c24] at H
       have LMc24 := zA c24
       clear c24
       obtain ⟨y178, hy178⟩ : ∃ y_ : List Int, y_ = (x5_1 ++ [x7_2]) := ⟨_, rfl⟩
       replace H : (spec_l04Order.l0 k2 l1 y178 (wrap64 (x6_1 + 1)) a0_0 l0_1) = some r := zy hy178 H
       have Ny178 := zA hy178
       clear hy178
       have H' := zA H
       clear H
       go_wp2_with (first | ((with_reducible refine gate_builtin (b := .append) (xs := #[.tmp 52, .tmp 54]) rfl ?_); at_builtin; refine Kd.R_append (Kd.int .i64) (w0 := w) w.heap.size rfl (.tmp 52) (.tmp 54) 22 2 (.int .i64 0) 8 rfl Tryd.underlying22 info2 rfl (by decide) (by omega) u5 x5_1 x7_2 [.int .i64 x7_2] (fun _ => True) (fun _ => False) rfl rfl ?aP (fun _ hk => hk.elim) ?aF ?aO ?aB ?aS ?aL ?_; (case aP => exact rfl); (case aB => exact (zT HB.out GE173.out)); (case aF => exact (fun _ _ => trivial)); (case aO => exact (zP HO_5.out)); (case aS => exact (kP (zT HB.out GE173.out))); (case aL => have := LMc24.out; omega); intro v179 w25 ho hb hg hat; rw [← Ny178.out] at ho; replace BK173 := zA (blk_grown (g := gb173) (o := .cells #[.int .i64 a0_0, .slice A0_1 l0_1.length c0_1] 29 (0, 0)) (zR BK173.out) hg (Kd.R_ne HO_5.out BK173.out (by decide))); replace HB := zA (hb); have HO180 := zA (ho); clear HO_5; clear ho hb hg hat))
       go_roundg k2
       case measure => have := HK1.out; have := HK2.out; omega
       case rel => exact ⟨(y178), (wrap64 (x6_1 + 1)), zs, H', ⟨by have := HK1.out; have := HK2.out; omega⟩, ⟨zP HO180.out⟩, ⟨zR BK173.out⟩, ⟨zT HB.out GE173.out⟩⟩
      rw [if_neg c24] at H
      exact absurd H (by simp)
   rw [if_neg c6] at H
   have c6b0 : decide (x6_1 < (l1.length : Int)) = false := decide_eq_false c6
   clear c6
   obtain rfl := Option.some.inj H
   go_wp2
   go_ret
   exact ⟨_, zr, zP HO_5.out, zT HB.out GE173.out⟩

/-! ### spec_l04Code: function 120 -/
def spec_l04Code.f (k : Nat) (a0_0 : Int) (l0_1 : List Int) (l1 : List Int) : Option (List Int × List Int × Int) := (spec_l03Code.f k a0_0 l0_1 l1 l1).bind fun t187 => (if t187 = 0 then ((spec_l03Normal.f k a0_0 l0_1 l1).bind fun t188 => ((spec_l04Order.f k a0_0 l0_1 t188).bind fun t191 => (some (t188, t191, 0)))) else (some (([] : List Int), ([] : List Int), t187)))

set_option maxHeartbeats 8000000 in
set_option maxRecDepth 100000 in
theorem spec_l04Code.calls (k : Nat) (a0_0 : Int) (A0_1 : Option Addr) (c0_1 : Nat) (l0_1 : List Int) (A1 : Option Addr) (c1 : Nat) (l1 : List Int) (r1 : List Int) (r2 : List Int) (r3 : Int) (w : World) (hr0_1 : Kd.C (Kd.int .i64) w A0_1 l0_1.length l0_1) (hc0_1 : l0_1.length ≤ c0_1) (hr1 : Kd.C (Kd.int .i64) w A1 l1.length l1) (hc1 : l1.length ≤ c1) (h : spec_l04Code.f k a0_0 l0_1 l1 = some (r1, r2, r3)) :
  Calls Tryd.prog 120 #[.agg #[.int .i64 a0_0, .slice A0_1 l0_1.length c0_1], .slice A1 l1.length c1] w fun e w' => ∃ v0_ v1_ : Value, e = .returned (.tuple #[v0_, v1_, .int .i64 r3]) ∧ Kd.R (Kd.int .i64) 2 w' w.heap.size (fun k_ => some k_ ≠ (v1_ : Value).ownBlock) v0_ r1 ∧ Kd.R (Kd.int .i64) 2 w' w.heap.size (fun k_ => some k_ ≠ (v0_ : Value).ownBlock) v1_ r2 ∧ Below w.heap.size w w' := by
 have hu29 := Tryd.underlying29
 have HR0_1 := zA hr0_1
 have HC0_1 := zA hc0_1
 clear hr0_1 hc0_1
 have HR1 := zA hr1
 have HC1 := zA hc1
 clear hr1 hc1
 have HB := zA (kW w.heap.size w)
 have H := h
 unfold spec_l04Code.f at H
 clear h
 obtain ⟨t187, A3, H⟩ := zb H
 try dsimp only at H
 by_cases c4 : t187 = 0
 ·rw [if_pos c4] at H
  obtain ⟨c4b0, c4b1⟩ := zT1 c4
  clear c4
  obtain ⟨t188, A5, H⟩ := zb H
  try dsimp only at H
  obtain ⟨t191, A6, H⟩ := zb H
  try dsimp only at H
  simp only [Option.some.injEq, Prod.mk.injEq] at H
  obtain ⟨rfl, rfl, rfl⟩ := H
  go_enter Tryd.func120, Tryd.ntmps120
  go_wp2_with (first | (refine zBE 2 #[.int .i64 a0_0, .slice A0_1 l0_1.length c0_1] 29 ?_; intro gb186 hg w7 hbox hb; have BK186 := zA (hbox); have GW186 := zA (zBH hg HB.out); have GE186 := zA (zBH hg HB.out); replace HB := zA (kQ (zQ HB.out) hb); clear hb hbox hg; obtain ⟨hcz8_0, hcz8_1, hfz8_0, hfz8_1⟩ := zB3 BK186.out) | (refine zO (some 12) Tryd.func74 #[.agg #[.int .i64 a0_0, .slice A0_1 l0_1.length c0_1], .slice A1 l1.length c1, .slice A1 l1.length c1] ?_; (with_reducible refine (spec_l03Code.calls k a0_0 _ _ l0_1 _ _ l1 _ _ l1 t187 _ ?side1 ?side2 ?side3 ?side4 ?side5 ?side6 A3.out).mono ?_); (case side1 => exact zS (kO HR0_1.out HB.out)); (case side2 => exact HC0_1.out); (case side3 => exact zS (kO HR1.out HB.out)); (case side4 => exact HC1.out); (case side5 => exact zS (kO HR1.out HB.out)); (case side6 => exact HC1.out); rintro e w9 ⟨rfl, hb⟩; refine ⟨_, rfl, ?_⟩; replace BK186 := zA (zB1 BK186.out hb); replace HB := zA (kQ (zT HB.out GE186.out) hb); (try clear hb); obtain ⟨hcz10_0, hcz10_1, hfz10_0, hfz10_1⟩ := zB3 BK186.out) | (refine zO (some 18) Tryd.func83 #[.agg #[.int .i64 a0_0, .slice A0_1 l0_1.length c0_1], .slice A1 l1.length c1] ?_; (with_reducible refine (spec_l03Normal.calls k a0_0 _ _ l0_1 _ _ l1 t188 _ ?side1 ?side2 ?side3 ?side4 A5.out).mono ?_); (case side1 => exact zS (kO HR0_1.out HB.out)); (case side2 => exact HC0_1.out); (case side3 => exact zS (kO HR1.out HB.out)); (case side4 => exact HC1.out); rintro e w11 ⟨v189, rfl, ho0, hb⟩; refine ⟨_, rfl, ?_⟩; have HO190 := zA (kI ho0 (kP (zT HB.out GE186.out))); replace BK186 := zA (zB1 BK186.out hb); replace HB := zA (kQ (zT HB.out GE186.out) hb); (try clear hb); (try clear ho0); obtain ⟨hcz12_0, hcz12_1, hfz12_0, hfz12_1⟩ := zB3 BK186.out; obtain ⟨Ao13, co13, eo13⟩ := kM HO190.out; subst eo13) | (refine zO (some 22) Tryd.func175 #[.agg #[.int .i64 a0_0, .slice A0_1 l0_1.length c0_1], .slice Ao13 t188.length co13] ?_; (with_reducible refine (spec_l04Order.calls k a0_0 _ _ l0_1 _ _ t188 t191 _ ?side1 ?side2 ?side3 ?side4 A6.out).mono ?_); (case side1 => exact zS (kO HR0_1.out HB.out)); (case side2 => exact HC0_1.out); (case side3 => exact zS (kB HO190.out).2.2); (case side4 => exact (kB HO190.out).2.1); rintro e w14 ⟨v192, rfl, ho0, hb⟩; refine ⟨_, rfl, ?_⟩; have HO193 := zA (kI (kF ho0 (kH (zP HO190.out))) (kP (zT HB.out GE186.out))); replace HO190 := zA (kE (zP HO190.out) (kC ho0) hb); replace BK186 := zA (zB1 BK186.out hb); replace HB := zA (kQ (zT HB.out GE186.out) hb); (try clear hb); (try clear ho0)))
  go_ret3
  exact ⟨_, _, zr, by (with_reducible repeat (first | apply zF | apply zG | apply zH)); exact kA HO190.out (fun _ hk => hk.2), by (with_reducible repeat (first | apply zF | apply zG | apply zH)); exact kA HO193.out (fun _ hk => hk.2), zT HB.out GE186.out⟩
 rw [if_neg c4] at H
 obtain ⟨c4b0, c4b1⟩ := zT2 c4
 simp only [Option.some.injEq, Prod.mk.injEq] at H
 obtain ⟨rfl, rfl, rfl⟩ := H
 go_enter Tryd.func120, Tryd.ntmps120
 go_wp2_with (first | (refine zBE 2 #[.int .i64 a0_0, .slice A0_1 l0_1.length c0_1] 29 ?_; intro gb186 hg w15 hbox hb; have BK186 := zA (hbox); have GW186 := zA (zBH hg HB.out); have GE186 := zA (zBH hg HB.out); replace HB := zA (kQ (zQ HB.out) hb); clear hb hbox hg; obtain ⟨hcz16_0, hcz16_1, hfz16_0, hfz16_1⟩ := zB3 BK186.out) | (refine zO (some 12) Tryd.func74 #[.agg #[.int .i64 a0_0, .slice A0_1 l0_1.length c0_1], .slice A1 l1.length c1, .slice A1 l1.length c1] ?_; (with_reducible refine (spec_l03Code.calls k a0_0 _ _ l0_1 _ _ l1 _ _ l1 t187 _ ?side1 ?side2 ?side3 ?side4 ?side5 ?side6 A3.out).mono ?_); (case side1 => exact zS (kO HR0_1.out HB.out)); (case side2 => exact HC0_1.out); (case side3 => exact zS (kO HR1.out HB.out)); (case side4 => exact HC1.out); (case side5 => exact zS (kO HR1.out HB.out)); (case side6 => exact HC1.out); rintro e w17 ⟨rfl, hb⟩; refine ⟨_, rfl, ?_⟩; replace BK186 := zA (zB1 BK186.out hb); replace HB := zA (kQ (zT HB.out GE186.out) hb); (try clear hb)))
 go_ret3
 exact ⟨_, _, zr, zn, zn, zT HB.out GE186.out⟩

/-! ### spec_l01Below: function 187 -/
def spec_l01Below.l0 : Nat → List Int → Int → Int → Int → Option (Int)
 | 0, _, _, _, _ => none
 | k + 1, x0, x1, x5, x6 => if x6 < (x0.length : Int) then (if 0 ≤ x6 then ((spec_l01Bit.f (rd x0 x6) x1).bind fun t195 => (if t195 = true then ((spec_l01One.f x6).bind fun t196 => (spec_l01Below.l0 k x0 x1 (Go.bits .or .i64 x5 t196) (wrap64 (x6 + 1)))) else (spec_l01Below.l0 k x0 x1 x5 (wrap64 (x6 + 1))))) else (none)) else (some x5)
def spec_l01Below.f (k : Nat) (l0 : List Int) (a1 : Int) : Option (Int) := spec_l01Below.l0 k l0 a1 0 0

set_option maxHeartbeats 8000000 in
set_option maxRecDepth 100000 in
theorem spec_l01Below.calls (k : Nat) (A0 : Option Addr) (c0 : Nat) (l0 : List Int) (a1 : Int) (r : Int) (w : World) (hr0 : Kd.C (Kd.int .i64) w A0 l0.length l0) (hc0 : l0.length ≤ c0) (h : spec_l01Below.f k l0 a1 = some r) :
  Calls Tryd.prog 187 #[.slice A0 l0.length c0, .int .i64 a1] w fun e w' => e = .returned (.int .i64 r) ∧ Drawn0 w w' := by
 have HR0 := zA hr0
 have HC0 := zA hc0
 clear hr0 hc0
 have H := h
 unfold spec_l01Below.f at H
 clear h
 have H' := zA H
 clear H
 go_enter Tryd.func187, Tryd.ntmps187
 go_wp2
 go_loopg [5, 6] k (fun kq v5 v6 w' => ∃ (x5_1 : Int) (x6_1 : Int), v5 = .int .i64 x5_1 ∧ v6 = .int .i64 x6_1 ∧ Aside0 (spec_l01Below.l0 kq l0 a1 x5_1 x6_1 = some r) ∧ Aside0 (kq ≤ k) ∧ Drawn0 w w')
 case atStart => exact ⟨(0), (0), zs, zs, H', ⟨Nat.le_refl _⟩, by repeat (first | exact Drawn0.refl _ | apply Drawn0.step)⟩
 case round =>
  clear H'
  try clear c1
  obtain ⟨x5_1, x6_1, rfl, rfl, HA, HK1, ⟨m1, rfl⟩⟩ := hrel
  cases gk with
  | zero => exact absurd HA.out (by simp [spec_l01Below.l0])
  | succ k1 =>
   have H := HA.out
   clear HA
   simp only [spec_l01Below.l0] at H
   by_cases c3 : x6_1 < (l0.length : Int)
   ·rw [if_pos c3] at H
    have c3b0 : decide (x6_1 < (l0.length : Int)) = true := decide_eq_true c3
    clear c3
    by_cases c4 : 0 ≤ x6_1
    ·rw [if_pos c4] at H
     have c4b0 : decide (0 ≤ x6_1) = true := decide_eq_true c4
     clear c4
     obtain ⟨t195, A5, H⟩ := zb H
     try dsimp only at H
     by_cases c6 : t195 = true
     ·subst c6
      rw [if_pos rfl] at H
      obtain ⟨t196, A7, H⟩ := zb H
      try dsimp only at H
      have H' := zA H
      clear H
      have p194 : 0 ≤ (x6_1 : Int) := zd
      have q194 : x6_1 < (l0.length : Int) := zd
      obtain ⟨ad194, e194, hx194_0⟩ := Kd.at_int HR0.out x6_1 p194 q194
      cases e194
      replace p194 := eq_true p194
      replace q194 := eq_true q194
      go_wp2_with (first | (refine zO (some 18) Tryd.func135 #[.int .i64 (rd l0 x6_1), .int .i64 a1] ?_; (with_reducible refine (spec_l01Bit.calls (rd l0 x6_1) a1 true _ A5.out).mono ?_); rintro e w' ⟨rfl, ⟨nd, rfl⟩⟩; refine ⟨_, rfl, ?_⟩) | (refine zO (some 21) Tryd.func144 #[.int .i64 x6_1] ?_; (with_reducible refine (spec_l01One.calls x6_1 t196 _ A7.out).mono ?_); rintro e w' ⟨rfl, ⟨nd, rfl⟩⟩; refine ⟨_, rfl, ?_⟩))
      go_roundg k1
      case measure => have := HK1.out; omega
      case rel => exact ⟨(Go.bits .or .i64 x5_1 t196), (wrap64 (x6_1 + 1)), zs, zs, H', ⟨by have := HK1.out; omega⟩, by repeat (first | exact Drawn0.refl _ | apply Drawn0.step)⟩
     replace c6 := Bool.eq_false_iff.mpr c6
     subst c6
     rw [if_neg (show ¬ (false = true) by decide)] at H
     have H' := zA H
     clear H
     have p194 : 0 ≤ (x6_1 : Int) := zd
     have q194 : x6_1 < (l0.length : Int) := zd
     obtain ⟨ad194, e194, hx194_0⟩ := Kd.at_int HR0.out x6_1 p194 q194
     cases e194
     replace p194 := eq_true p194
     replace q194 := eq_true q194
     go_wp2_with (first | (refine zO (some 18) Tryd.func135 #[.int .i64 (rd l0 x6_1), .int .i64 a1] ?_; (with_reducible refine (spec_l01Bit.calls (rd l0 x6_1) a1 false _ A5.out).mono ?_); rintro e w' ⟨rfl, ⟨nd, rfl⟩⟩; refine ⟨_, rfl, ?_⟩))
     go_roundg k1
     case measure => have := HK1.out; omega
     case rel => exact ⟨(x5_1), (wrap64 (x6_1 + 1)), zs, zs, H', ⟨by have := HK1.out; omega⟩, by repeat (first | exact Drawn0.refl _ | apply Drawn0.step)⟩
    rw [if_neg c4] at H
    exact absurd H (by simp)
   rw [if_neg c3] at H
   have c3b0 : decide (x6_1 < (l0.length : Int)) = false := decide_eq_false c3
   clear c3
   obtain rfl := Option.some.inj H
   go_wp2
   go_ret
   exact ⟨zs, by repeat (first | exact Drawn0.refl _ | apply Drawn0.step)⟩

/-! ### spec_l04CountDown: function 139 -/
mutual
def spec_l04CountDown.j0 : Nat → List Int → Int → Int → Int → Int → Option (Int)
 | 0, _, _, _, _, _ => none
 | k + 1, x0, x1, x2, x3, x9 => (spec_l01Below.f k x0 x1).bind fun t200 => (if (Go.bits .and .i64 t200 x3) = 0 then ((spec_l01One.f x1).bind fun t201 => ((spec_l04CountDown.f k x0 x1 (Go.bits .or .i64 x2 t201) x3).bind fun t202 => (some (wrap64 (x9 + t202))))) else (some x9))
def spec_l04CountDown.f : Nat → List Int → Int → Int → Int → Option (Int)
 | 0, _, _, _, _ => none
 | k + 1, l0, a1, a2, a3 => if a1 = 0 then (some 1) else (if 0 ≤ (wrap64 (a1 - 1)) then (if (wrap64 (a1 - 1)) < (l0.length : Int) then (if (Go.bits .and .i64 (rd l0 (wrap64 (a1 - 1))) a2) = 0 then ((spec_l01One.f (wrap64 (a1 - 1))).bind fun t198 => ((spec_l04CountDown.f k l0 (wrap64 (a1 - 1)) a2 (Go.bits .or .i64 a3 t198)).bind fun t199 => (spec_l04CountDown.j0 k l0 (wrap64 (a1 - 1)) a2 a3 (wrap64 (0 + t199))))) else (spec_l04CountDown.j0 k l0 (wrap64 (a1 - 1)) a2 a3 0)) else (none)) else (none))
end

set_option maxHeartbeats 8000000 in
set_option maxRecDepth 100000 in
theorem spec_l04CountDown.calls (k : Nat) : ∀ (A0 : Option Addr) (c0 : Nat) (l0 : List Int) (a1 : Int) (a2 : Int) (a3 : Int) (r : Int) (w : World) (hr0 : Kd.C (Kd.int .i64) w A0 l0.length l0) (hc0 : l0.length ≤ c0) (h : spec_l04CountDown.f k l0 a1 a2 a3 = some r),
  Calls Tryd.prog 139 #[.slice A0 l0.length c0, .int .i64 a1, .int .i64 a2, .int .i64 a3] w fun e w' => e = .returned (.int .i64 r) ∧ Drawn0 w w' := by
 induction k using Nat.strongRecOn with
 | _ k ih =>
 intro A0 c0 l0 a1 a2 a3 r w hr0 hc0 h
 cases k with
 | zero => exact absurd h (by simp [spec_l04CountDown.f])
 | succ k =>
 simp only [spec_l04CountDown.f] at h
 have HR0 := zA hr0
 have HC0 := zA hc0
 clear hr0 hc0
 have H := h
 clear h
 by_cases c5 : a1 = 0
 ·rw [if_pos c5] at H
  obtain ⟨c5b0, c5b1⟩ := zT1 c5
  clear c5
  obtain rfl := Option.some.inj H
  go_enter Tryd.func139, Tryd.ntmps139
  go_wp2
  go_ret
  exact ⟨zs, by repeat (first | exact Drawn0.refl _ | apply Drawn0.step)⟩
 rw [if_neg c5] at H
 obtain ⟨c5b0, c5b1⟩ := zT2 c5
 obtain ⟨ji6, hji6⟩ : ∃ j_ : Int, (wrap64 (a1 - 1)) = j_ := ⟨_, rfl⟩
 replace H : (if 0 ≤ (ji6) then (if (ji6) < (l0.length : Int) then (if (Go.bits .and .i64 (rd l0 (ji6)) a2) = 0 then ((spec_l01One.f (ji6)).bind fun t198 => ((spec_l04CountDown.f k l0 (ji6) a2 (Go.bits .or .i64 a3 t198)).bind fun t199 => (spec_l04CountDown.j0 k l0 ji6 a2 a3 (wrap64 (0 + t199))))) else (spec_l04CountDown.j0 k l0 ji6 a2 a3 0)) else (none)) else (none)) = some r := by first | (rw [hji6] at H; exact H) | (simp only [hji6] at H ⊢; exact H)
 have hji6w : (IntKind.i64.wrap (a1 - 1)) = ji6 := (i64_w _).trans hji6
 by_cases c7 : 0 ≤ (ji6)
 ·rw [if_pos c7] at H
  have c7b0 : decide (0 ≤ (ji6)) = true := decide_eq_true c7
  clear c7
  by_cases c8 : (ji6) < (l0.length : Int)
  ·rw [if_pos c8] at H
   have c8b0 : decide ((ji6) < (l0.length : Int)) = true := decide_eq_true c8
   clear c8
   have HC9 := zA H
   clear H
   have p197 : 0 ≤ ((ji6) : Int) := zd
   have q197 : (ji6) < (l0.length : Int) := zd
   obtain ⟨ad197, e197, hx197_0⟩ := Kd.at_int HR0.out (ji6) p197 q197
   cases e197
   replace p197 := eq_true p197
   replace q197 := eq_true q197
   go_enter Tryd.func139, Tryd.ntmps139
   go_upto_if 20 with (fail)
   go_cut [9] (fun v9 wc => ∃ (kq : Nat) (x9_8 : Int), v9 = .int .i64 x9_8 ∧ Aside0 (spec_l04CountDown.j0 kq l0 ji6 a2 a3 x9_8 = some r) ∧ Aside0 (kq ≤ k) ∧ Drawn0 w wc)
   case first =>
    have H := HC9.out
    clear HC9
    by_cases c10 : (Go.bits .and .i64 (rd l0 (ji6)) a2) = 0
    ·rw [if_pos c10] at H
     obtain ⟨c10b0, c10b1⟩ := zT1 c10
     clear c10
     (first | rw [c10b0] | (simp only [i64_w, i32_w]; rw [c10b0]) | skip)
     obtain ⟨t198, A11, H⟩ := zb H
     try dsimp only at H
     obtain ⟨t199, A12, H⟩ := zb H
     try dsimp only at H
     have H' := zA H
     clear H
     go_wp2_with (first | ((with_reducible refine kR (f := 144) rfl ?_); refine goesL_ (some 27) rfl rfl Tryd.func144 (by kernel_rfl) rfl #[.int .i64 ji6] rfl (by (try simp only [List.map_toArray, List.map_cons, List.map_nil]); first | done | (simp only [hji6]; rfl) | rfl | (simp only [List.length_drop, List.length_take]; rfl)) ?_; (with_reducible refine (spec_l01One.calls ji6 t198 _ A11.out).mono ?_); rintro e w' ⟨rfl, ⟨nd, rfl⟩⟩; refine ⟨_, rfl, ?_⟩) | ((with_reducible refine kR (f := 139) rfl ?_); refine goesL_ (some 29) rfl rfl Tryd.func139 (by kernel_rfl) rfl #[.slice (some ad197) l0.length c0, .int .i64 ji6, .int .i64 a2, .int .i64 (Go.bits .or .i64 a3 t198)] rfl (by (try simp only [List.map_toArray, List.map_cons, List.map_nil]); first | done | (simp only [hji6]; rfl) | rfl | (simp only [List.length_drop, List.length_take]; rfl)) ?_; (with_reducible refine (ih k (by omega) _ _ l0 ji6 a2 (Go.bits .or .i64 a3 t198) t199 _ ?side1 ?side2 A12.out).mono ?_); (case side1 => exact zS HR0.out); (case side2 => exact HC0.out); rintro e w' ⟨rfl, ⟨nd, rfl⟩⟩; refine ⟨_, rfl, ?_⟩))
     go_meet
     case rel => exact ⟨_, (wrap64 (0 + t199)), zs, H', ⟨by first | omega | exact Nat.le_refl _⟩, by repeat (first | exact Drawn0.refl _ | apply Drawn0.step)⟩
    rw [if_neg c10] at H
    obtain ⟨c10b0, c10b1⟩ := zT2 c10
    (first | rw [c10b0] | (simp only [i64_w, i32_w]; rw [c10b0]) | skip)
    have H' := zA H
    clear H
    go_wp2
    go_meet
    case rel => exact ⟨_, (0), zs, H', ⟨by first | omega | exact Nat.le_refl _⟩, by repeat (first | exact Drawn0.refl _ | apply Drawn0.step)⟩
   case rest =>
    clear HC9
    try clear c1
    try clear hx1
    try clear c5
    try clear c7
    try clear c8
    try clear c10
    try clear hx197_0
    obtain ⟨kq, x9_8, rfl, HA, HJ8, ⟨mc8, rfl⟩⟩ := hcut
    cases kq with
    | zero => exact absurd HA.out (by simp [spec_l04CountDown.j0])
    | succ kj8 =>
     have H := HA.out
     clear HA
     simp only [spec_l04CountDown.j0] at H
     obtain ⟨t200, A13, H⟩ := zb H
     try dsimp only at H
     by_cases c14 : (Go.bits .and .i64 t200 a3) = 0
     ·rw [if_pos c14] at H
      obtain ⟨c14b0, c14b1⟩ := zT1 c14
      clear c14
      obtain ⟨t201, A15, H⟩ := zb H
      try dsimp only at H
      obtain ⟨t202, A16, H⟩ := zb H
      try dsimp only at H
      obtain rfl := Option.some.inj H
      go_wp2_with (first | ((with_reducible refine kR (f := 187) rfl ?_); refine goesL_ (some 33) rfl rfl Tryd.func187 (by kernel_rfl) rfl #[.slice (some ad197) l0.length c0, .int .i64 ji6] rfl (by (try simp only [List.map_toArray, List.map_cons, List.map_nil]); first | done | (simp only [hji6]; rfl) | rfl | (simp only [List.length_drop, List.length_take]; rfl)) ?_; (with_reducible refine (spec_l01Below.calls kj8 _ _ l0 ji6 t200 _ ?side1 ?side2 A13.out).mono ?_); (case side1 => exact zS HR0.out); (case side2 => exact HC0.out); rintro e w' ⟨rfl, ⟨nd, rfl⟩⟩; refine ⟨_, rfl, ?_⟩) | ((with_reducible refine kR (f := 144) rfl ?_); refine goesL_ (some 42) rfl rfl Tryd.func144 (by kernel_rfl) rfl #[.int .i64 ji6] rfl (by (try simp only [List.map_toArray, List.map_cons, List.map_nil]); first | done | (simp only [hji6]; rfl) | rfl | (simp only [List.length_drop, List.length_take]; rfl)) ?_; (with_reducible refine (spec_l01One.calls ji6 t201 _ A15.out).mono ?_); rintro e w' ⟨rfl, ⟨nd, rfl⟩⟩; refine ⟨_, rfl, ?_⟩) | ((with_reducible refine kR (f := 139) rfl ?_); refine goesL_ (some 45) rfl rfl Tryd.func139 (by kernel_rfl) rfl #[.slice (some ad197) l0.length c0, .int .i64 ji6, .int .i64 (Go.bits .or .i64 a2 t201), .int .i64 a3] rfl (by (try simp only [List.map_toArray, List.map_cons, List.map_nil]); first | done | (simp only [hji6]; rfl) | rfl | (simp only [List.length_drop, List.length_take]; rfl)) ?_; (with_reducible refine (ih kj8 (by have := HJ8.out; omega) _ _ l0 ji6 (Go.bits .or .i64 a2 t201) a3 t202 _ ?side1 ?side2 A16.out).mono ?_); (case side1 => exact zS HR0.out); (case side2 => exact HC0.out); rintro e w' ⟨rfl, ⟨nd, rfl⟩⟩; refine ⟨_, rfl, ?_⟩))
      go_ret
      exact ⟨by first | rfl | (simp; done) | (simp only [← hji6] <;> (first | rfl | simp)) | (simp [*]; done), by repeat (first | exact Drawn0.refl _ | apply Drawn0.step)⟩
     rw [if_neg c14] at H
     obtain ⟨c14b0, c14b1⟩ := zT2 c14
     obtain rfl := Option.some.inj H
     go_wp2_with (first | ((with_reducible refine kR (f := 187) rfl ?_); refine goesL_ (some 33) rfl rfl Tryd.func187 (by kernel_rfl) rfl #[.slice (some ad197) l0.length c0, .int .i64 ji6] rfl (by (try simp only [List.map_toArray, List.map_cons, List.map_nil]); first | done | (simp only [hji6]; rfl) | rfl | (simp only [List.length_drop, List.length_take]; rfl)) ?_; (with_reducible refine (spec_l01Below.calls kj8 _ _ l0 ji6 t200 _ ?side1 ?side2 A13.out).mono ?_); (case side1 => exact zS HR0.out); (case side2 => exact HC0.out); rintro e w' ⟨rfl, ⟨nd, rfl⟩⟩; refine ⟨_, rfl, ?_⟩))
     go_ret
     exact ⟨by first | rfl | (simp; done) | (simp only [← hji6] <;> (first | rfl | simp)) | (simp [*]; done), by repeat (first | exact Drawn0.refl _ | apply Drawn0.step)⟩
  rw [if_neg c8] at H
  exact absurd H (by simp)
 rw [if_neg c7] at H
 exact absurd H (by simp)

/-! ### spec_CountPrefixes: function 63 -/
def spec_CountPrefixes.f (k : Nat) (a0_0 : Int) (l0_1 : List Int) (l1 : List Int) : Option (Int × Int) := (spec_l04Code.f k a0_0 l0_1 l1).bind fun bt204 => (if bt204.2.2 = 0 then ((spec_l04CountDown.f k bt204.2.1 (bt204.2.1.length : Int) 0 0).bind fun t211 => (some (t211, 0))) else (some (0, bt204.2.2)))

set_option maxHeartbeats 8000000 in
set_option maxRecDepth 100000 in
theorem spec_CountPrefixes.calls (k : Nat) (a0_0 : Int) (A0_1 : Option Addr) (c0_1 : Nat) (l0_1 : List Int) (A1 : Option Addr) (c1 : Nat) (l1 : List Int) (r1 : Int) (r2 : Int) (w : World) (hr0_1 : Kd.C (Kd.int .i64) w A0_1 l0_1.length l0_1) (hc0_1 : l0_1.length ≤ c0_1) (hr1 : Kd.C (Kd.int .i64) w A1 l1.length l1) (hc1 : l1.length ≤ c1) (h : spec_CountPrefixes.f k a0_0 l0_1 l1 = some (r1, r2)) :
  Calls Tryd.prog 63 #[.agg #[.int .i64 a0_0, .slice A0_1 l0_1.length c0_1], .slice A1 l1.length c1] w fun e w' => e = .returned (.tuple #[.int .i64 r1, .int .i64 r2]) ∧ Below w.heap.size w w' := by
 have hu29 := Tryd.underlying29
 have HR0_1 := zA hr0_1
 have HC0_1 := zA hc0_1
 clear hr0_1 hc0_1
 have HR1 := zA hr1
 have HC1 := zA hc1
 clear hr1 hc1
 have HB := zA (kW w.heap.size w)
 have H := h
 unfold spec_CountPrefixes.f at H
 clear h
 obtain ⟨⟨t204, t207, t210⟩, A3, H⟩ := zb H
 try dsimp only at H
 by_cases c4 : t210 = 0
 ·rw [if_pos c4] at H
  obtain ⟨c4b0, c4b1⟩ := zT1 c4
  clear c4
  obtain ⟨t211, A5, H⟩ := zb H
  try dsimp only at H
  simp only [Option.some.injEq, Prod.mk.injEq] at H
  obtain ⟨rfl, rfl⟩ := H
  go_enter Tryd.func63, Tryd.ntmps63
  go_wp2_with (first | (refine zBE 2 #[.int .i64 a0_0, .slice A0_1 l0_1.length c0_1] 29 ?_; intro gb203 hg w6 hbox hb; have BK203 := zA (hbox); have GW203 := zA (zBH hg HB.out); have GE203 := zA (zBH hg HB.out); replace HB := zA (kQ (zQ HB.out) hb); clear hb hbox hg; obtain ⟨hcz7_0, hcz7_1, hfz7_0, hfz7_1⟩ := zB3 BK203.out) | (refine zO (some 12) Tryd.func120 #[.agg #[.int .i64 a0_0, .slice A0_1 l0_1.length c0_1], .slice A1 l1.length c1] ?_; (with_reducible refine (spec_l04Code.calls k a0_0 _ _ l0_1 _ _ l1 t204 t207 t210 _ ?side1 ?side2 ?side3 ?side4 A3.out).mono ?_); (case side1 => exact zS (kO HR0_1.out HB.out)); (case side2 => exact HC0_1.out); (case side3 => exact zS (kO HR1.out HB.out)); (case side4 => exact HC1.out); rintro e w8 ⟨v205, v208, rfl, ho0, ho1, hb⟩; refine ⟨_, rfl, ?_⟩; have HO206 := zA (kI ho0 (kP (zT HB.out GE203.out))); have HO209 := zA (kI ho1 (kP (zT HB.out GE203.out))); replace BK203 := zA (zB1 BK203.out hb); replace HB := zA (kQ (zT HB.out GE203.out) hb); (try clear hb); (try clear ho0); (try clear ho1); obtain ⟨Ao9, co9, eo9⟩ := kM HO209.out; subst eo9) | (refine zO (some 22) Tryd.func139 #[.slice Ao9 t207.length co9, .int .i64 (t207.length : Int), .int .i64 0, .int .i64 0] ?_; (with_reducible refine (spec_l04CountDown.calls k _ _ t207 (t207.length : Int) 0 0 t211 _ ?side1 ?side2 A5.out).mono ?_); (case side1 => exact zS (kB HO209.out).2.2); (case side2 => exact (kB HO209.out).2.1); rintro e w' ⟨rfl, ⟨nd, rfl⟩⟩; refine ⟨_, rfl, ?_⟩))
  go_ret2
  exact ⟨zr, zT HB.out GE203.out⟩
 rw [if_neg c4] at H
 obtain ⟨c4b0, c4b1⟩ := zT2 c4
 simp only [Option.some.injEq, Prod.mk.injEq] at H
 obtain ⟨rfl, rfl⟩ := H
 go_enter Tryd.func63, Tryd.ntmps63
 go_wp2_with (first | (refine zBE 2 #[.int .i64 a0_0, .slice A0_1 l0_1.length c0_1] 29 ?_; intro gb203 hg w10 hbox hb; have BK203 := zA (hbox); have GW203 := zA (zBH hg HB.out); have GE203 := zA (zBH hg HB.out); replace HB := zA (kQ (zQ HB.out) hb); clear hb hbox hg; obtain ⟨hcz11_0, hcz11_1, hfz11_0, hfz11_1⟩ := zB3 BK203.out) | (refine zO (some 12) Tryd.func120 #[.agg #[.int .i64 a0_0, .slice A0_1 l0_1.length c0_1], .slice A1 l1.length c1] ?_; (with_reducible refine (spec_l04Code.calls k a0_0 _ _ l0_1 _ _ l1 t204 t207 t210 _ ?side1 ?side2 ?side3 ?side4 A3.out).mono ?_); (case side1 => exact zS (kO HR0_1.out HB.out)); (case side2 => exact HC0_1.out); (case side3 => exact zS (kO HR1.out HB.out)); (case side4 => exact HC1.out); rintro e w12 ⟨v205, v208, rfl, ho0, ho1, hb⟩; refine ⟨_, rfl, ?_⟩; have HO206 := zA (kI ho0 (kP (zT HB.out GE203.out))); have HO209 := zA (kI ho1 (kP (zT HB.out GE203.out))); replace BK203 := zA (zB1 BK203.out hb); replace HB := zA (kQ (zT HB.out GE203.out) hb); (try clear hb); (try clear ho0); (try clear ho1)))
 go_ret2
 exact ⟨zr, zT HB.out GE203.out⟩

/-! ### impl_inRange: function 111 -/
def impl_inRange.f (a0 : Int) (a1 : Int) (a2 : Int) : Option (Bool) := if a1 ≤ a0 then (some (decide (a0 ≤ a2))) else (some false)
set_option maxHeartbeats 8000000 in
set_option maxRecDepth 100000 in
theorem impl_inRange.calls (a0 : Int) (a1 : Int) (a2 : Int) (r : Bool) (w : World) (h : impl_inRange.f a0 a1 a2 = some r) :
  Calls Tryd.prog 111 #[.int .i64 a0, .int .i64 a1, .int .i64 a2] w fun e w' => e = .returned (.bool r) ∧ Drawn0 w w' := by
 have H := h
 unfold impl_inRange.f at H
 clear h
 by_cases c4 : a1 ≤ a0
 ·rw [if_pos c4] at H
  have c4b0 : decide (a1 ≤ a0) = true := decide_eq_true c4
  clear c4
  obtain rfl := Option.some.inj H
  go_enter Tryd.func111, Tryd.ntmps111
  go_wp2
  go_ret
  exact ⟨zs, by repeat (first | exact Drawn0.refl _ | apply Drawn0.step)⟩
 rw [if_neg c4] at H
 have c4b0 : decide (a1 ≤ a0) = false := decide_eq_false c4
 clear c4
 obtain rfl := Option.some.inj H
 go_enter Tryd.func111, Tryd.ntmps111
 go_wp2
 go_ret
 exact ⟨zs, by repeat (first | exact Drawn0.refl _ | apply Drawn0.step)⟩

/-! ### impl_length_int64: function 119 -/
def impl_length_int64.f (l0 : List Int) : Option (Int) := some (l0.length : Int)
set_option maxHeartbeats 8000000 in
set_option maxRecDepth 100000 in
theorem impl_length_int64.calls (A0 : Option Addr) (c0 : Nat) (l0 : List Int) (r : Int) (w : World) (hr0 : Kd.C (Kd.int .i64) w A0 l0.length l0) (hc0 : l0.length ≤ c0) (h : impl_length_int64.f l0 = some r) :
  Calls Tryd.prog 119 #[.slice A0 l0.length c0] w fun e w' => e = .returned (.int .i64 r) ∧ Drawn0 w w' := by
 have HR0 := zA hr0
 have HC0 := zA hc0
 clear hr0 hc0
 have H := h
 unfold impl_length_int64.f at H
 clear h
 obtain rfl := Option.some.inj H
 go_enter Tryd.func119, Tryd.ntmps119
 go_wp2
 go_ret
 exact ⟨zs, by repeat (first | exact Drawn0.refl _ | apply Drawn0.step)⟩

/-! ### impl_one: function 118 -/
def impl_one.f (a0 : Int) : Option (Int) := if 0 ≤ a0 then (some (shl .i64 1 a0)) else (none)
set_option maxHeartbeats 8000000 in
set_option maxRecDepth 100000 in
theorem impl_one.calls (a0 : Int) (r : Int) (w : World) (h : impl_one.f a0 = some r) :
  Calls Tryd.prog 118 #[.int .i64 a0] w fun e w' => e = .returned (.int .i64 r) ∧ Drawn0 w w' := by
 have H := h
 unfold impl_one.f at H
 clear h
 by_cases c2 : 0 ≤ a0
 ·rw [if_pos c2] at H
  have c2b0 := eq_true c2
  have c2b1 : decide (0 ≤ a0) = true := decide_eq_true c2
  clear c2
  obtain ⟨ji3, hji3⟩ : ∃ j_ : Int, (shl .i64 1 a0) = j_ := ⟨_, rfl⟩
  replace H : (some ji3) = some r := by first | (rw [hji3] at H; exact H) | (simp only [hji3] at H ⊢; exact H)
  have hji3_ : (IntKind.i64.wrap (1 * 2 ^ min a0.toNat 64)) = ji3 := hji3
  have hji3z : a0 ≤ 64 → (IntKind.i64.wrap (1 * 2 ^ a0.toNat)) = ji3 := shl_small hji3
  have hji3u : (IntKind.i64.wrap (2 ^ min a0.toNat 64)) = ji3 := by have h_ := hji3_; rw [Int.one_mul] at h_; exact h_
  have hji3v : a0 ≤ 64 → (IntKind.i64.wrap (2 ^ a0.toNat)) = ji3 := fun hle_ => by have h_ := hji3z hle_; rw [Int.one_mul] at h_; exact h_
  have hji3y : (wrap64 (1 * 2 ^ min a0.toNat 64)) = ji3 := (i64_w _).symm.trans hji3_
  have hji3x : a0 ≤ 64 → (wrap64 (1 * 2 ^ a0.toNat)) = ji3 := fun h_ => (i64_w _).symm.trans (hji3z h_)
  obtain rfl := Option.some.inj H
  go_enter Tryd.func118, Tryd.ntmps118
  go_wp2
  go_ret
  exact ⟨by first | rfl | (simp; done) | (simp only [← hji3] <;> (first | rfl | simp)) | (simp [*]; done), by repeat (first | exact Drawn0.refl _ | apply Drawn0.step)⟩
 rw [if_neg c2] at H
 exact absurd H (by simp)

-- NOT PRINTED: function 193 (slices_IndexFunc_int64_int64_193)

-- NOT PRINTED: function 169 (slices_ContainsFunc_int64_int64_169)

/-! ### impl_allIn: function 176: a contract of our own -/
def impl_allIn.f (l0 : List Int) (a1 a2 : Int) : Option Bool := some (l0.all fun x => decide (a1 ≤ x ∧ x ≤ a2))
theorem allIn_pred (l : List Int) (lo hi : Int) (B : Nat) (w : World) (hB : B + 1 < w.heap.size) (h1 : w.cell? ⟨B, 0, none⟩ = some (.int .i64 lo)) (h2 : w.cell? ⟨B + 1, 0, none⟩ = some (.int .i64 hi)) :
  PredOf 195 #[.pointer (some ⟨B, 0, none⟩), .pointer (some ⟨B + 1, 0, none⟩)] (fun x => !decide (lo ≤ x ∧ x ≤ hi)) w l := fun W x _ hb => by
 have hc1 : W.cell? ⟨B, 0, none⟩ = some (.int .i64 lo) := (hb.cell (p := ⟨B, 0, none⟩) (by simp; omega)).trans h1
 have hc2 : W.cell? ⟨B + 1, 0, none⟩ = some (.int .i64 hi) := (hb.cell (p := ⟨B + 1, 0, none⟩) (by simpa using hB)).trans h2
 clear h1 h2 hb
 show Calls Tryd.prog 195 #[.int .i64 x, .pointer (some ⟨B, 0, none⟩), .pointer (some ⟨B + 1, 0, none⟩)] W _
 by_cases c1 : lo ≤ x <;> by_cases c2 : x ≤ hi
 all_goals
  go_enter Tryd.func195, Tryd.ntmps195
  go_wp2
  go_ret
  exact ⟨by simp [c1, c2], kW _ _⟩
theorem impl_allIn.calls (A0 : Option Addr) (c0 : Nat) (l0 : List Int) (a1 : Int) (a2 : Int) (r : Bool) (w : World) (hr0 : Kd.C (Kd.int .i64) w A0 l0.length l0) (hc0 : l0.length ≤ c0) (h : impl_allIn.f l0 a1 a2 = some r) :
  Calls Tryd.prog 176 #[.slice A0 l0.length c0, .int .i64 a1, .int .i64 a2] w fun e w' => e = .returned (.bool r) ∧ Below w.heap.size w w' := by
 have hW : Below w.heap.size w ((w.alloc (.cells #[.int .i64 a1] 2)).alloc (.cells #[.int .i64 a2] 2)) := zB (zB (kW _ w) _) _
 have eg : ∀ args w, (callFunc 195 args).run Tryd.prog w = .ok (.enter 195 args) w := enters_fn Tryd.func195 (by kernel_rfl) rfl
 have hcon := containsFunc_any A0 c0 l0 195 #[.pointer (some ⟨w.heap.size, 0, none⟩), .pointer (some ⟨w.heap.size + 1, 0, none⟩)] (fun x => !decide (a1 ≤ x ∧ x ≤ a2)) _ eg
  (allIn_pred l0 a1 a2 w.heap.size ((w.alloc (.cells #[.int .i64 a1] 2)).alloc (.cells #[.int .i64 a2] 2)) (by simp) (by simp) (by simp)) (kO hr0 hW)
 have hr : (!(l0.any fun x => !decide (a1 ≤ x ∧ x ≤ a2))) = r := by
  have := Option.some.inj h
  rw [← this, List.all_eq_not_any_not]
 clear h hr0 eg
 generalize (l0.any fun x => !decide (a1 ≤ x ∧ x ≤ a2)) = b at hcon hr
 subst hr
 replace hW := zA hW
 go_enter Tryd.func176, Tryd.ntmps176
 go_wp2_with fail
 refine hcon.mono ?_
 rintro e w' ⟨rfl, hb⟩
 replace hb := zA hb
 clear hcon
 go_wp2
 go_ret
 exact ⟨rfl, kQ hW.out hb.out⟩

/-! ### impl_IsRelation: function 123 -/
def impl_IsRelation.f (l0 : List Int) : Option (Bool) := if (l0.length : Int) ≤ 24 then ((impl_length_int64.f l0).bind fun t212 => ((impl_one.f t212).bind fun t213 => ((impl_allIn.f l0 0 (wrap64 (t213 - 1))).bind fun t214 => (some t214)))) else (some false)
set_option maxHeartbeats 8000000 in
set_option maxRecDepth 100000 in
theorem impl_IsRelation.calls (A0 : Option Addr) (c0 : Nat) (l0 : List Int) (r : Bool) (w : World) (hr0 : Kd.C (Kd.int .i64) w A0 l0.length l0) (hc0 : l0.length ≤ c0) (h : impl_IsRelation.f l0 = some r) :
  Calls Tryd.prog 123 #[.slice A0 l0.length c0] w fun e w' => e = .returned (.bool r) ∧ Below w.heap.size w w' := by
 have HR0 := zA hr0
 have HC0 := zA hc0
 clear hr0 hc0
 have HB := zA (kW w.heap.size w)
 have H := h
 unfold impl_IsRelation.f at H
 clear h
 by_cases c2 : (l0.length : Int) ≤ 24
 ·rw [if_pos c2] at H
  have c2b0 : decide ((l0.length : Int) ≤ 24) = true := decide_eq_true c2
  have c2b1 : decide (l0.length ≤ 24) = true := decide_eq_true (by omega)
  clear c2
  obtain ⟨t212, A3, H⟩ := zb H
  try dsimp only at H
  obtain ⟨t213, A4, H⟩ := zb H
  try dsimp only at H
  obtain ⟨t214, A5, H⟩ := zb H
  try dsimp only at H
  obtain rfl := Option.some.inj H
  go_enter Tryd.func123, Tryd.ntmps123
  go_wp2_with (first | (go_at_call 119; (with_reducible refine (impl_length_int64.calls _ _ l0 t212 _ ?side1 ?side2 A3.out).mono ?_); (case side1 => exact zS HR0.out); (case side2 => exact HC0.out); rintro e w' ⟨rfl, ⟨nd, rfl⟩⟩) | (go_at_call 118; (with_reducible refine (impl_one.calls t212 t213 _ A4.out).mono ?_); rintro e w' ⟨rfl, ⟨nd, rfl⟩⟩) | (go_at_call 176; (with_reducible refine (impl_allIn.calls _ _ l0 0 (wrap64 (t213 - 1)) t214 _ ?side1 ?side2 A5.out).mono ?_); (case side1 => exact zS HR0.out); (case side2 => exact HC0.out); rintro e w6 ⟨rfl, hb⟩; replace HB := zA (kQ (zQ HB.out) hb); (try clear hb)))
  go_ret
  exact ⟨zr, zQ HB.out⟩
 rw [if_neg c2] at H
 have c2b0 : decide ((l0.length : Int) ≤ 24) = false := decide_eq_false c2
 have c2b1 : decide (l0.length ≤ 24) = false := decide_eq_false (by omega)
 clear c2
 obtain rfl := Option.some.inj H
 go_enter Tryd.func123, Tryd.ntmps123
 go_wp2
 go_ret
 exact ⟨zr, zQ HB.out⟩

/-! ### bits_TrailingZeros64: function 186: a contract of our own -/
def bits_TrailingZeros64.f (a0 : Int) : Option Int := if 0 ≤ a0 ∧ a0 < 18446744073709551616 then some (Lib.ctz 64 a0.toNat : Int) else none

set_option maxHeartbeats 1000000 in
theorem tz64_core (x k idx : Nat) (w : World) (hx0 : ((x : Int) == 0) = false)
  (key : IntKind.u64.wrap (bits BinOp.and IntKind.u64 (x : Int) (IntKind.u64.wrap (-(x : Int))) * 285870213051353865) / 288230376151711744 = (idx : Int))
  (hi : idx < 64) (hk : k < 64) (hcell : w.cell? ⟨0, idx, none⟩ = some (.int .u8 k)) :
  Calls Tryd.prog 186 #[.int .u64 x] w fun e w' => e = .returned (.int .i64 k) ∧ w = w' := by
 go_enter Tryd.func186, Tryd.ntmps186
 go_wp2_with (simp only [key])
 go_ret
 exact ⟨rfl, rfl⟩
theorem tz64_zero (w : World) : Calls Tryd.prog 186 #[.int .u64 0] w fun e w' => e = .returned (.int .i64 64) ∧ w = w' := by
 go_enter Tryd.func186, Tryd.ntmps186
 go_wp2
 go_ret
 exact ⟨rfl, rfl⟩
theorem tz64_key (x a : Nat) (hx : x < 18446744073709551616) (hx0 : x ≠ 0) (hlow : x &&& (18446744073709551616 - x) = a) :
  IntKind.u64.wrap (bits BinOp.and IntKind.u64 (x : Int) (IntKind.u64.wrap (-(x : Int))) * 285870213051353865) / 288230376151711744 = ((a * 285870213051353865 % 18446744073709551616 / 288230376151711744 : Nat) : Int) := by
 have e1 : IntKind.u64.wrap (-(x : Int)) = ((18446744073709551616 - x : Nat) : Int) := by rw [IntKind.wrap_u64]; omega
 rw [e1, bits_and_u64_nat x _ hx (by omega), hlow, IntKind.wrap_u64]
 omega
theorem bits_TrailingZeros64.calls (a0 : Int) (r : Int) (w : World) (hT : TabW w) (h : bits_TrailingZeros64.f a0 = some r) :
  Calls Tryd.prog 186 #[.int .u64 a0] w fun e w' => e = .returned (.int .i64 r) ∧ Drawn0 w w' := by
 unfold bits_TrailingZeros64.f at h
 split at h
 ·rename_i hr
  obtain ⟨x, rfl⟩ := Int.eq_ofNat_of_zero_le hr.1
  rw [Int.toNat_natCast] at h
  injection h with h
  subst h
  by_cases hx0 : x = 0
  ·subst hx0
   exact (tz64_zero w).mono fun e w' ⟨he, hw⟩ => ⟨he, ⟨0, hw.symm⟩⟩
  obtain ⟨hlow, hk⟩ := Lib.lowest_bit 64 x hx0 (by omega)
  obtain ⟨hi, htab⟩ := Lib.deBruijn64_at _ hk
  have hcell := hT _ hi
  rw [htab] at hcell
  exact (tz64_core x _ _ w (by simp; omega) (tz64_key x _ (by omega) hx0 hlow) hi hk hcell).mono fun e w' ⟨he, hw⟩ => ⟨he, ⟨0, hw.symm⟩⟩
 cases h

/-! ### impl_least: function 137 -/
def impl_least.f (a0 : Int) : Option (Int) := (bits_TrailingZeros64.f (IntKind.u64.wrap (a0))).bind fun t215 => (some t215)
set_option maxHeartbeats 8000000 in
set_option maxRecDepth 100000 in
theorem impl_least.calls (a0 : Int) (r : Int) (w : World) (hT : TabW w) (h : impl_least.f a0 = some r) :
  Calls Tryd.prog 137 #[.int .i64 a0] w fun e w' => e = .returned (.int .i64 r) ∧ Drawn0 w w' := by
 have HT := zA hT
 clear hT
 have H := h
 unfold impl_least.f at H
 clear h
 obtain ⟨t215, A2, H⟩ := zb H
 try dsimp only at H
 obtain rfl := Option.some.inj H
 go_enter Tryd.func137, Tryd.ntmps137
 go_wp2_with (first | (refine zO (some 5) Tryd.func186 #[.int .u64 (IntKind.u64.wrap (a0))] ?_; (with_reducible refine (bits_TrailingZeros64.calls (IntKind.u64.wrap (a0)) t215 _ ?side1 A2.out).mono ?_); (case side1 => repeat (first | (with_reducible first | exact HT.out | apply TabW.drewN | apply TabW.drew | apply TabW.alloc) | exact HT.out)); rintro e w' ⟨rfl, ⟨nd, rfl⟩⟩; refine ⟨_, rfl, ?_⟩))
 go_ret
 exact ⟨zs, by repeat (first | exact Drawn0.refl _ | apply Drawn0.step)⟩

/-! ### impl_members: function 138 -/
def impl_members.l0 : Nat → Int → List Int → Option (List Int)
 | 0, _, _ => none
 | k + 1, x0, x3 => if x0 = 0 then (some x3) else ((impl_least.f x0).bind fun t219 => (if x3.length < 17592186044416 then (impl_members.l0 k (Go.bits .and .i64 x0 (wrap64 (x0 - 1))) (x3 ++ [t219])) else (none)))
def impl_members.f (k : Nat) (a0 : Int) : Option (List Int) := impl_members.l0 k a0 (([] : List Int))

set_option maxHeartbeats 8000000 in
set_option maxRecDepth 100000 in
theorem impl_members.calls (k : Nat) (a0 : Int) (r : List Int) (w : World) (hT : TabW w) (h : impl_members.f k a0 = some r) :
  Calls Tryd.prog 138 #[.int .i64 a0] w fun e w' => ∃ v0_ : Value, e = .returned (v0_) ∧ Kd.R (Kd.int .i64) 2 w' w.heap.size (fun _ => True) v0_ r ∧ Below w.heap.size w w' := by
 have HT := zA hT
 clear hT
 have HB := zA (kW w.heap.size w)
 have H := h
 unfold impl_members.f at H
 clear h
 obtain ⟨y216, hy216⟩ : ∃ y_ : List Int, y_ = (([] : List Int)) := ⟨_, rfl⟩
 replace H : (impl_members.l0 k a0 y216) = some r := zy hy216 H
 have Ny216 := zA hy216
 clear hy216
 have H' := zA H
 clear H
 go_enter Tryd.func138, Tryd.ntmps138
 go_wp2_with (first | ((with_reducible refine kS (N := 4) rfl ?_); refine Kd.R_lit (Kd.int .i64) _ 2 ?hg (N := 4) ?hd (xs := ([] : List Int)) (inner := []) (ok := fun _ => True) (okp := fun _ => True) ?hr ?hp (fun _ hk => hk) trivial (kW _ _) (Nat.le_refl _) (by simp) ?_; (case hd => rfl); (case hg => rfl); (case hr => first | (go_simp; done) | (go_simp; rfl)); (case hp => exact (Reps.none _ _)); intro v217 w2 ho3 hb hg_ hnew_; clear hg_ hnew_; (first | rw [← Ny216.out] at ho3 | (simp only [Int.reduceToNat] at ho3; rw [← Ny216.out] at ho3)); have HO218 := zA (kI ho3 (kP (zQ HB.out))); replace HB := zA (kQ (zQ HB.out) hb); clear hb ho3))
 go_loopg [0, 3] k (fun kq v0 v3 w' => ∃ (x0_1 : Int) (x3_1 : List Int), v0 = .int .i64 x0_1 ∧ Aside0 (impl_members.l0 kq x0_1 x3_1 = some r) ∧ Aside0 (kq ≤ k) ∧ Aside0 (Kd.R (Kd.int .i64) 2 w' w.heap.size (fun _ => True) v3 x3_1) ∧ Aside0 (Below w.heap.size w w'))
 case atStart => exact ⟨(a0), (y216), zs, H', ⟨Nat.le_refl _⟩, ⟨zP HO218.out⟩, ⟨zQ HB.out⟩⟩
 case round =>
  clear H'
  try clear c1
  obtain ⟨x0_1, x3_1, rfl, HA, HK1, HO_3, HB⟩ := hrel
  cases gk with
  | zero => exact absurd HA.out (by simp [impl_members.l0])
  | succ k1 =>
   have H := HA.out
   clear HA
   simp only [impl_members.l0] at H
   by_cases c4 : x0_1 = 0
   ·rw [if_pos c4] at H
    obtain ⟨c4b0, c4b1⟩ := zT1 c4
    clear c4
    obtain rfl := Option.some.inj H
    go_wp2
    go_ret
    exact ⟨_, zr, zP HO_3.out, zQ HB.out⟩
   rw [if_neg c4] at H
   obtain ⟨c4b0, c4b1⟩ := zT2 c4
   obtain ⟨t219, A5, H⟩ := zb H
   try dsimp only at H
   by_cases c6 : x3_1.length < 17592186044416
   ·rw [if_pos c6] at H
    have LMc6 := zA c6
    clear c6
    obtain ⟨y220, hy220⟩ : ∃ y_ : List Int, y_ = (x3_1 ++ [t219]) := ⟨_, rfl⟩
    replace H : (impl_members.l0 k1 (Go.bits .and .i64 x0_1 (wrap64 (x0_1 - 1))) y220) = some r := zy hy220 H
    have Ny220 := zA hy220
    clear hy220
    have H' := zA H
    clear H
    go_wp2_with (first | (refine zO (some 13) Tryd.func137 #[.int .i64 x0_1] ?_; (with_reducible refine (impl_least.calls x0_1 t219 _ ?side1 A5.out).mono ?_); (case side1 => exact TabW.below HT.out (zQ HB.out)); rintro e w' ⟨rfl, ⟨nd, rfl⟩⟩; refine ⟨_, rfl, ?_⟩) | ((with_reducible refine gate_builtin (b := .append) (xs := #[.tmp 11, .tmp 14]) rfl ?_); at_builtin; refine Kd.R_append (Kd.int .i64) (w0 := w) w.heap.size rfl (.tmp 11) (.tmp 14) 22 2 (.int .i64 0) 8 rfl Tryd.underlying22 info2 rfl (by decide) (by omega) u3 x3_1 t219 [.int .i64 t219] (fun _ => True) (fun _ => False) rfl rfl ?aP (fun _ hk => hk.elim) ?aF ?aO ?aB ?aS ?aL ?_; (case aP => exact rfl); (case aB => exact (zQ HB.out)); (case aF => exact (fun _ _ => trivial)); (case aO => exact (zP HO_3.out)); (case aS => exact (kP (zQ HB.out))); (case aL => have := LMc6.out; omega); intro v221 w7 ho hb hg hat; rw [← Ny220.out] at ho; replace HB := zA (hb); have HO222 := zA (ho); clear HO_3; clear ho hb hg hat))
    go_roundg k1
    case measure => have := HK1.out; omega
    case rel => exact ⟨(Go.bits .and .i64 x0_1 (wrap64 (x0_1 - 1))), (y220), zs, H', ⟨by have := HK1.out; omega⟩, ⟨zP HO222.out⟩, ⟨zQ HB.out⟩⟩
   rw [if_neg c6] at H
   exact absurd H (by simp)

/-! ### impl_converse: function 141 -/
mutual
def impl_converse.l0 : Nat → List Int → List Int → Int → Int → Option (List Int)
 | 0, _, _, _, _ => none
 | k + 1, x3, x11, x12, x13 => if x13 < x12 then (if 0 ≤ x13 then (if x13 < (x11.length : Int) then ((impl_members.f k (rd x11 x13)).bind fun t227 => (impl_converse.l1 k x3 x13 x11 x12 x13 t227 (t227.length : Int) 0)) else (none)) else (none)) else (some x3)
def impl_converse.l1 : Nat → List Int → Int → List Int → Int → Int → List Int → Int → Int → Option (List Int)
 | 0, _, _, _, _, _, _, _, _ => none
 | k + 1, x3, x4, x11, x12, x13, x19, x20, x21 => if x21 < x20 then (if 0 ≤ x21 then (if x21 < (x19.length : Int) then (if 0 ≤ (rd x19 x21) then (if (rd x19 x21) < (x3.length : Int) then ((impl_one.f x4).bind fun t232 => (impl_converse.l1 k (x3.set ((rd x19 x21) : Int).toNat (Go.bits .or .i64 (rd x3 (rd x19 x21)) t232)) x4 x11 x12 x13 x19 x20 (wrap64 (x21 + 1)))) else (none)) else (none)) else (none)) else (none)) else (impl_converse.l0 k x3 x11 x12 (wrap64 (x13 + 1)))
end
def impl_converse.f (k : Nat) (l0 : List Int) : Option (List Int) := if 0 ≤ (l0.length : Int) then (if ((l0.length : Int) : Int).toNat ≤ 35184372088832 then (impl_converse.l0 k (List.replicate ((l0.length : Int) : Int).toNat 0) l0 (l0.length : Int) 0) else (none)) else (none)

def impl_converse.T8 : Bool × List (List Nat × List Nat) := (true, [([], []), ([], []), ([0, 1], [0, 1]), ([2], [2]), ([], []), ([4], [4]), ([3, 5], [3, 5]), ([0, 1, 0, 1, 2, 3, 4, 5, 6], [0, 1]), ([7, 6, 5, 0, 1, 2, 3, 4, 5, 6], [6, 7])])
def impl_converse.B8 : List Nat := [0, 0, 3, 7, 0, 16, 63, 127, 255]
theorem impl_converse.tab8 : rtab .any (opsOf Tryd.f141 8) = impl_converse.T8 := by kernel_rfl
theorem impl_converse.bits8 : waitsOk impl_converse.T8.2 impl_converse.B8 = true := by kernel_rfl
set_option maxHeartbeats 8000000 in
set_option maxRecDepth 100000 in
theorem impl_converse.calls (k : Nat) (A0 : Option Addr) (c0 : Nat) (l0 : List Int) (r : List Int) (w : World) (hr0 : Kd.C (Kd.int .i64) w A0 l0.length l0) (hc0 : l0.length ≤ c0) (hT : TabW w) (h : impl_converse.f k l0 = some r) :
  Calls Tryd.prog 141 #[.slice A0 l0.length c0] w fun e w' => ∃ v0_ : Value, e = .returned (v0_) ∧ Kd.R (Kd.int .i64) 2 w' w.heap.size (fun _ => True) v0_ r ∧ Below w.heap.size w w' := by
 have HT := zA hT
 clear hT
 have HR0 := zA hr0
 have HC0 := zA hc0
 clear hr0 hc0
 have HB := zA (kW w.heap.size w)
 have H := h
 unfold impl_converse.f at H
 clear h
 by_cases c2 : 0 ≤ (l0.length : Int)
 ·rw [if_pos c2] at H
  have c2b0 := eq_true c2
  have c2b1 : decide (0 ≤ (l0.length : Int)) = true := decide_eq_true c2
  clear c2
  by_cases c3 : ((l0.length : Int) : Int).toNat ≤ 35184372088832
  ·rw [if_pos c3] at H
   have c3b0 := eq_true c3
   have c3b1 : decide (((l0.length : Int) : Int).toNat ≤ 35184372088832) = true := decide_eq_true c3
   clear c3
   obtain ⟨y223, hy223⟩ : ∃ y_ : List Int, y_ = (List.replicate ((l0.length : Int) : Int).toNat 0) := ⟨_, rfl⟩
   replace H : (impl_converse.l0 k y223 l0 (l0.length : Int) 0) = some r := zy hy223 H
   have Ny223 := zA hy223
   clear hy223
   have H' := zA H
   clear H
   go_enter Tryd.func141, Tryd.ntmps141
   go_wp2_with (first | ((with_reducible refine kS (N := 10) rfl ?_); refine Kd.R_make (Kd.int .i64) _ 2 rfl (N := 10) rfl 22 _ _ rfl (l0.length : Int) rfl rfl Tryd.underlying22 (.int .i64 0) 8 info2 rfl (by decide) (by omega) 0 (ok := fun _ => True) (okp := fun _ => True) rfl (fun _ hk => hk) trivial (zd) (Nat.le_trans (Nat.mul_le_mul_right _ (zd : (l0.length : Int).toNat ≤ 35184372088832)) (by omega)) (kW _ _) (Nat.le_refl _) ?_; intro v224 w4 ho5 hb hg_ hnew_; clear hg_ hnew_; (first | rw [← Ny223.out] at ho5 | (simp only [Int.reduceToNat] at ho5; rw [← Ny223.out] at ho5)); have HO225 := zA (kI ho5 (kP (zQ HB.out))); replace HB := zA (kQ (zQ HB.out) hb); clear hb ho5))
   go_loopg [13] k (fun kq v13 w' => ∃ (x3_1 : List Int) (x13_1 : Int), v13 = .int .i64 x13_1 ∧ Aside0 (impl_converse.l0 kq x3_1 l0 (l0.length : Int) x13_1 = some r) ∧ Aside0 (kq ≤ k) ∧ Aside0 (Kd.R (Kd.int .i64) 2 w' w.heap.size (fun _ => True) v224 x3_1) ∧ Aside0 (Below w.heap.size w w'))
   case atStart => exact ⟨(y223), (0), zs, H', ⟨Nat.le_refl _⟩, ⟨zP HO225.out⟩, ⟨zQ HB.out⟩⟩
   case round =>
    clear H'
    try clear c1
    try clear c2
    try clear c3
    obtain ⟨x3_1, x13_1, rfl, HA, HK1, HO_3, HB⟩ := hrel
    cases gk with
    | zero => exact absurd HA.out (by simp [impl_converse.l0])
    | succ k1 =>
     have H := HA.out
     clear HA
     simp only [impl_converse.l0] at H
     by_cases c6 : x13_1 < (l0.length : Int)
     ·rw [if_pos c6] at H
      have c6b0 : decide (x13_1 < (l0.length : Int)) = true := decide_eq_true c6
      clear c6
      by_cases c7 : 0 ≤ x13_1
      ·rw [if_pos c7] at H
       have c7b0 : decide (0 ≤ x13_1) = true := decide_eq_true c7
       clear c7
       by_cases c8 : x13_1 < (l0.length : Int)
       ·rw [if_pos c8] at H
        have c8b0 : decide (x13_1 < (l0.length : Int)) = true := decide_eq_true c8
        clear c8
        obtain ⟨t227, A9, H⟩ := zb H
        try dsimp only at H
        have H' := zA H
        clear H
        have p226 : 0 ≤ (x13_1 : Int) := zd
        have q226 : x13_1 < (l0.length : Int) := zd
        obtain ⟨ad226, e226, hx226_0⟩ := Kd.at_int HR0.out x13_1 p226 q226
        cases e226
        replace hx226_0 := (HB.out.cell (jG w _ hx226_0)).trans hx226_0
        replace p226 := eq_true p226
        replace q226 := eq_true q226
        go_wp2_with (first | (refine zO (some 19) Tryd.func138 #[.int .i64 (rd l0 x13_1)] ?_; (with_reducible refine (impl_members.calls k1 (rd l0 x13_1) t227 _ ?side1 A9.out).mono ?_); (case side1 => exact TabW.below HT.out (zQ HB.out)); rintro e w10 ⟨v228, rfl, ho0, hb⟩; refine ⟨_, rfl, ?_⟩; have HO229 := zA (kI (kF ho0 (kH (zP HO_3.out))) (kP (zQ HB.out))); replace HO_3 := zA (kE (zP HO_3.out) (kC ho0) hb); replace HB := zA (kQ (zQ HB.out) hb); (try clear hb); (try clear ho0); obtain ⟨Ao11, co11, eo11⟩ := kM HO229.out; subst eo11))
        go_loopg [21] k1 (fun kq v21 w' => ∃ (x3_2 : List Int) (x21_2 : Int), v21 = .int .i64 x21_2 ∧ Aside0 (impl_converse.l1 kq x3_2 x13_1 l0 (l0.length : Int) x13_1 t227 (t227.length : Int) x21_2 = some r) ∧ Aside0 (kq ≤ k1) ∧ Aside0 (Kd.R (Kd.int .i64) 2 w' w.heap.size (fun k_ => some k_ ≠ ((.slice Ao11 t227.length co11) : Value).ownBlock) v224 x3_2) ∧ Aside0 (Kd.R (Kd.int .i64) 2 w' w.heap.size (fun k_ => some k_ ≠ (v224 : Value).ownBlock) (.slice Ao11 t227.length co11) t227) ∧ Aside0 (Below w.heap.size w w'))
        case atStart => exact ⟨(x3_1), (0), zs, H', ⟨Nat.le_refl _⟩, ⟨zPM HO_3.out (fun _ hk => hk.2)⟩, ⟨zPM HO229.out (fun _ hk => hk.2)⟩, ⟨zQ HB.out⟩⟩
        case round =>
         clear H'
         try clear c1
         try clear c2
         try clear hx2
         try clear c3
         try clear c6
         try clear c7
         try clear c8
         try clear hx226_0
         obtain ⟨x3_2, x21_2, rfl, HA, HK2, HO_3, HO_19, HB⟩ := hrel
         cases gk with
         | zero => exact absurd HA.out (by simp [impl_converse.l1])
         | succ k2 =>
          have H := HA.out
          clear HA
          simp only [impl_converse.l1] at H
          by_cases c12 : x21_2 < (t227.length : Int)
          ·rw [if_pos c12] at H
           have c12b0 : decide (x21_2 < (t227.length : Int)) = true := decide_eq_true c12
           clear c12
           by_cases c13 : 0 ≤ x21_2
           ·rw [if_pos c13] at H
            have c13b0 : decide (0 ≤ x21_2) = true := decide_eq_true c13
            clear c13
            by_cases c14 : x21_2 < (t227.length : Int)
            ·rw [if_pos c14] at H
             have c14b0 : decide (x21_2 < (t227.length : Int)) = true := decide_eq_true c14
             clear c14
             by_cases c15 : 0 ≤ (rd t227 x21_2)
             ·rw [if_pos c15] at H
              have c15b0 : decide (0 ≤ (rd t227 x21_2)) = true := decide_eq_true c15
              clear c15
              by_cases c16 : (rd t227 x21_2) < (x3_2.length : Int)
              ·rw [if_pos c16] at H
               have c16b0 : decide ((rd t227 x21_2) < (x3_2.length : Int)) = true := decide_eq_true c16
               clear c16
               obtain ⟨t232, A17, H⟩ := zb H
               try dsimp only at H
               obtain ⟨y233, hy233⟩ : ∃ y_ : List Int, y_ = (x3_2.set ((rd t227 x21_2) : Int).toNat (Go.bits .or .i64 (rd x3_2 (rd t227 x21_2)) t232)) := ⟨_, rfl⟩
               replace H : (impl_converse.l1 k2 y233 x13_1 l0 (l0.length : Int) x13_1 t227 (t227.length : Int) (wrap64 (x21_2 + 1))) = some r := zy hy233 H
               have Ny233 := zA hy233
               clear hy233
               have H' := zA H
               clear H
               have p230 : 0 ≤ (x21_2 : Int) := zd
               have q230 : x21_2 < (t227.length : Int) := zd
               obtain ⟨ad230, e230, hx230_0⟩ := Kd.at_int (kB HO_19.out).2.2 x21_2 p230 q230
               cases e230
               replace p230 := eq_true p230
               replace q230 := eq_true q230
               try go_wp2
               replace HO_3 := zA (zH HO_3.out)
               replace HO_19 := zA (zH HO_19.out)
               replace HB := zA (zD HB.out)
               obtain ⟨Ao20, co20, eo20⟩ := kM HO_3.out
               (first | subst eo20 | (injection eo20 with f1_ f2_ f3_; have f4_ := f1_.symm; have f5_ := f3_.symm; clear f1_ f2_ f3_; subst f4_; subst f5_))
               have p231 : 0 ≤ ((rd t227 x21_2) : Int) := zd
               have q231 : (rd t227 x21_2) < (x3_2.length : Int) := zd
               obtain ⟨ad231, e231, hx231_0⟩ := Kd.at_int (kB HO_3.out).2.2 (rd t227 x21_2) p231 q231
               cases e231
               replace p231 := eq_true p231
               replace q231 := eq_true q231
               refine start_ (n := 9) (S := fun w' => w'.cell? (ad231.add ((rd t227 x21_2)).toNat) = some (.int .i64 (rd x3_2 (rd t227 x21_2)))) (ds := [8]) #[false, false, false, false, false, false, false, false, false] (by kernel_rfl) rfl rfl (hx231_0) (fun hHeld => ?_); refine with_tabW impl_converse.tab8 impl_converse.bits8 (fun HT_ HW_ => ?_)
               generalize wr.drew = w19 at HO_3 HO_19 HB hx231_0 hHeld ⊢
               refine zp 0 (some 25) #[true, false, false, false, false, false, false, false, false] HT_.out ?_
               refine zp 1 (some 26) #[true, true, false, false, false, false, false, false, false] HT_.out ?_
               refine zp 2 (some 27) #[true, true, true, false, false, false, false, false, false] HT_.out ?_
               refine zp 4 (some 29) #[true, true, true, false, true, false, false, false, false] HT_.out ?_
               refine za 3 (some 28) #[true, true, true, true, true, false, false, false, false] HT_.out HW_.out hHeld ?_
               refine one_ (i := 5) (N := some 30) #[true, true, true, true, true, true, false, false, false] rfl rfl (one_of HT_.out (by kernel_rfl)) (by decide) (fun K hK => ?_)
               refine goes_ Tryd.func118 (by kernel_rfl) rfl #[.int .i64 x13_1] (by rfl) rfl rfl zg ?_
               with_reducible refine (impl_one.calls x13_1 t232 _ A17.out).mono ?_
               rintro e w' ⟨rfl, ⟨nd, rfl⟩⟩
               refine ⟨_, rfl, ?_⟩
               have p18 : 0 ≤ ((rd t227 x21_2) : Int) := zd
               have q18 : ((rd t227 x21_2) : Int) < ((x3_2.length : Int) : Int) := zd
               obtain ⟨go18, co18, eo18, gb18, gl18, cl18, HG18⟩ := Kd.R_form HO_3.out (by omega)
               (first | cases eo18 | (injection eo18 with ea_ en_ ec_; (first | subst ea_ | (injection ea_ with ea_; subst ea_)); subst ec_; clear en_))
               have GB18 := zA gb18
               have GG18 := zA HG18
               clear gb18 gl18 HG18
               (first | simp only [add_plain] at hx231_0 | skip)
               obtain ⟨hx18_0, hf18_0⟩ := Kd.R_celln 0 HO_3.out ((rd t227 x21_2) : Int) p18 q18
               replace p18 := eq_true p18
               replace q18 := eq_true q18
               have HP21 := Kd.R_putn HO_3.out ((rd t227 x21_2) : Int) (Go.bits .or .i64 (rd x3_2 (rd t227 x21_2)) t232)
               rw [← Ny233.out] at HP21
               have HQ21 := zA HP21
               clear HP21
               refine hK.out _ _ (hHeld) (fun hHeld => ?_)
               clear hK K
               refine norm_ (a' := ?_) ?_ ?_
               rotate_left
               ·show Act.put _ (some 30) _ = _
                simp only [Act.put, zL, zM, zN, i64_w, i32_w]
                rfl
               refine zp 6 (some 31) #[true, true, true, true, true, true, true, false, false] HT_.out ?_
               refine zp 7 (some 32) #[true, true, true, true, true, true, true, true, false] HT_.out ?_
               refine last_ (i := 8) (N := none) #[true, true, true, true, true, true, true, true, true] rfl rfl (one_of HT_.out (by kernel_rfl)) (by decide) (fun K hK => ?_)
               refine skip_ (w1 := ?_) (by rfl) rfl ?_ ?_
               rotate_left
               ·go_simp
                rfl
               refine hK.out _ _ ?_
               clear hK K
               refine done_ (done_of HT_.out (by kernel_rfl)) ?_
               try go_wp2
               go_roundg k2
               case measure => have := HK1.out; have := HK2.out; omega
               case rel => exact ⟨(y233), (wrap64 (x21_2 + 1)), zs, H', ⟨by have := HK1.out; have := HK2.out; omega⟩, ⟨zP HQ21.out⟩, ⟨by (with_reducible repeat (first | apply zF | apply zG | apply zH)); exact kA (kY (p := ⟨go18, ((rd t227 x21_2) : Int).toNat, none⟩) (kA HO_19.out (fun k_ hk => (⟨hk, fun e_ => hk (by rw [e_]; rfl)⟩ : _ ∧ k_ ≠ go18))) (fun _ hk => hk.2) (.int .i64 (Go.bits .or .i64 (rd x3_2 (rd t227 x21_2)) t232))) (fun _ hk => hk.1)⟩, ⟨zT HB.out GB18.out⟩⟩
              rw [if_neg c16] at H
              exact absurd H (by simp)
             rw [if_neg c15] at H
             exact absurd H (by simp)
            rw [if_neg c14] at H
            exact absurd H (by simp)
           rw [if_neg c13] at H
           exact absurd H (by simp)
          rw [if_neg c12] at H
          have c12b0 : decide (x21_2 < (t227.length : Int)) = false := decide_eq_false c12
          clear c12
          have H' := zA H
          clear H
          go_wp2
          go_roundg k2
          case measure => have := HK1.out; have := HK2.out; omega
          case rel => exact ⟨(x3_2), (wrap64 (x13_1 + 1)), zs, H', ⟨by have := HK1.out; have := HK2.out; omega⟩, ⟨zPM HO_3.out (fun _ hk => trivial)⟩, ⟨zQ HB.out⟩⟩
       rw [if_neg c8] at H
       exact absurd H (by simp)
      rw [if_neg c7] at H
      exact absurd H (by simp)
     rw [if_neg c6] at H
     have c6b0 : decide (x13_1 < (l0.length : Int)) = false := decide_eq_false c6
     clear c6
     obtain rfl := Option.some.inj H
     go_wp2
     go_ret
     exact ⟨_, zr, zP HO_3.out, zQ HB.out⟩
  rw [if_neg c3] at H
  exact absurd H (by simp)
 rw [if_neg c2] at H
 exact absurd H (by simp)

/-! ### impl_has: function 159 -/
def impl_has.f (a0 : Int) (a1 : Int) : Option (Bool) := if 0 ≤ a1 then (some ((Go.bits .and .i64 (shr .i64 a0 a1) 1) == 1)) else (none)
set_option maxHeartbeats 8000000 in
set_option maxRecDepth 100000 in
theorem impl_has.calls (a0 : Int) (a1 : Int) (r : Bool) (w : World) (h : impl_has.f a0 a1 = some r) :
  Calls Tryd.prog 159 #[.int .i64 a0, .int .i64 a1] w fun e w' => e = .returned (.bool r) ∧ Drawn0 w w' := by
 have H := h
 unfold impl_has.f at H
 clear h
 by_cases c3 : 0 ≤ a1
 ·rw [if_pos c3] at H
  have c3b0 := eq_true c3
  have c3b1 : decide (0 ≤ a1) = true := decide_eq_true c3
  clear c3
  obtain ⟨ji4, hji4⟩ : ∃ j_ : Int, (shr .i64 a0 a1) = j_ := ⟨_, rfl⟩
  replace H : (some ((Go.bits .and .i64 (ji4) 1) == 1)) = some r := by first | (rw [hji4] at H; exact H) | (simp only [hji4] at H ⊢; exact H)
  have hji4_ : (a0 / 2 ^ min a1.toNat 64) = ji4 := hji4
  have hji4z : a1 ≤ 64 → (a0 / 2 ^ a1.toNat) = ji4 := shr_small hji4
  obtain rfl := Option.some.inj H
  go_enter Tryd.func159, Tryd.ntmps159
  go_wp2
  go_ret
  exact ⟨by first | rfl | (simp; done) | (simp only [← hji4] <;> (first | rfl | simp)) | (simp [*]; done), by repeat (first | exact Drawn0.refl _ | apply Drawn0.step)⟩
 rw [if_neg c3] at H
 exact absurd H (by simp)

/-! ### impl_IsAlphabet: function 110 -/
mutual
def impl_IsAlphabet.j0 : Nat → Bool → Int → List Int → Option (Bool)
 | 0, _, _, _ => none
 | k + 1, x22, x235000, x235001 => if x22 = true then (some false) else ((impl_converse.f k x235001).bind fun t238 => (impl_IsAlphabet.l0 k t238 (t238.length : Int) 0 x235000 x235001))
def impl_IsAlphabet.l0 : Nat → List Int → Int → Int → Int → List Int → Option (Bool)
 | 0, _, _, _, _, _ => none
 | k + 1, x25, x26, x27, x235000, x235001 => if x27 < x26 then (if 0 ≤ x27 then (if x27 < (x25.length : Int) then (if x27 < (x235001.length : Int) then (if (rd x25 x27) = (rd x235001 x27) then ((impl_has.f (rd x25 x27) x27).bind fun t243 => (if t243 = true then (impl_IsAlphabet.l0 k x25 x26 (wrap64 (x27 + 1)) x235000 x235001) else (some false))) else (some false)) else (none)) else (none)) else (none)) else (some true)
end
def impl_IsAlphabet.f (k : Nat) (a0_0 : Int) (l0_1 : List Int) : Option (Bool) := (impl_inRange.f a0_0 0 8).bind fun t235 => (if t235 = true then ((impl_length_int64.f l0_1).bind fun t236 => (if t236 = a0_0 then ((impl_IsRelation.f l0_1).bind fun t237 => (impl_IsAlphabet.j0 k (!t237) a0_0 l0_1)) else (impl_IsAlphabet.j0 k true a0_0 l0_1))) else (impl_IsAlphabet.j0 k true a0_0 l0_1))

def impl_IsAlphabet.T1 : Bool × List (List Nat × List Nat) := (true, [([], []), ([0], [0]), ([1], [1]), ([2], [2]), ([3, 2], [3]), ([4], [4]), ([5, 4], [4, 5]), ([6, 4, 4], [4, 6]), ([4], [4]), ([8, 4], [4, 8]), ([7, 9, 4], [4, 7, 9]), ([4, 10], [4, 10]), ([11, 7], [11]), ([12], [12]), ([13, 12], [12, 13]), ([14, 12, 12], [12, 14]), ([15, 12], [12, 15]), ([12, 16], [12, 16])])
def impl_IsAlphabet.B1 : List Nat := [0, 1, 3, 7, 15, 31, 63, 127, 31, 287, 1023, 2047, 4095, 8191, 16383, 32767, 65535, 131071]
theorem impl_IsAlphabet.tab1 : rtab .any (opsOf Tryd.f110 1) = impl_IsAlphabet.T1 := by kernel_rfl
theorem impl_IsAlphabet.bits1 : waitsOk impl_IsAlphabet.T1.2 impl_IsAlphabet.B1 = true := by kernel_rfl
set_option maxHeartbeats 8000000 in
set_option maxRecDepth 100000 in
theorem impl_IsAlphabet.calls (k : Nat) (a0_0 : Int) (A0_1 : Option Addr) (c0_1 : Nat) (l0_1 : List Int) (r : Bool) (w : World) (hr0_1 : Kd.C (Kd.int .i64) w A0_1 l0_1.length l0_1) (hc0_1 : l0_1.length ≤ c0_1) (hT : TabW w) (h : impl_IsAlphabet.f k a0_0 l0_1 = some r) :
  Calls Tryd.prog 110 #[.agg #[.int .i64 a0_0, .slice A0_1 l0_1.length c0_1]] w fun e w' => e = .returned (.bool r) ∧ Below w.heap.size w w' := by
 have hu29 := Tryd.underlying29
 have HT := zA hT
 clear hT
 have HR0_1 := zA hr0_1
 have HC0_1 := zA hc0_1
 clear hr0_1 hc0_1
 have HB := zA (kW w.heap.size w)
 have H := h
 unfold impl_IsAlphabet.f at H
 clear h
 have HC2 := zA H
 clear H
 go_enter Tryd.func110, Tryd.ntmps110
 go_upto_region 1 with (first | (refine zBE 1 #[.int .i64 a0_0, .slice A0_1 l0_1.length c0_1] 29 ?_; intro gb234 hg w3 hbox hb; have BK234 := zA (hbox); have GW234 := zA (zBH hg HB.out); have GE234 := zA (zBH hg HB.out); replace HB := zA (kQ (zQ HB.out) hb); clear hb hbox hg))
 (try simp only [Act.put, zL, zM, zN])
 go_cut [22] (fun v22 wc => ∃ (kq : Nat) (x22_1 : Bool), v22 = .bool x22_1 ∧ Aside0 (impl_IsAlphabet.j0 kq x22_1 a0_0 l0_1 = some r) ∧ Aside0 (kq ≤ k) ∧ Aside0 (wc.heap[gb234]? = some (.cells #[.int .i64 a0_0, (.slice A0_1 l0_1.length c0_1)] 29 (0, 0))) ∧ Aside0 (Below w.heap.size w wc))
 case first =>
  have H := HC2.out
  clear HC2
  obtain ⟨t235, A4, H⟩ := zb H
  try dsimp only at H
  by_cases c5 : t235 = true
  ·subst c5
   rw [if_pos rfl] at H
   obtain ⟨t236, A6, H⟩ := zb H
   try dsimp only at H
   by_cases c7 : t236 = a0_0
   ·rw [if_pos c7] at H
    obtain ⟨c7b0, c7b1⟩ := zT1 c7
    clear c7
    (first | rw [c7b0] | (simp only [i64_w, i32_w]; rw [c7b0]) | skip)
    obtain ⟨t237, A8, H⟩ := zb H
    try dsimp only at H
    have H' := zA H
    clear H
    try go_wp2
    replace BK234 := zA (zK BK234.out)
    replace HB := zA (zD HB.out)
    refine start_ (n := 18) (S := fun w' => w'.cell? ⟨gb234, 0, none⟩ = some (.int .i64 a0_0) ∧ w'.cell? ⟨gb234, 1, none⟩ = some (.slice A0_1 l0_1.length c0_1)) (ds := []) #[false, false, false, false, false, false, false, false, false, false, false, false, false, false, false, false, false, false] (by kernel_rfl) rfl rfl ⟨(kV BK234.out 0).trans rfl, (kV BK234.out 1).trans rfl⟩ (fun hHeld => ?_); refine with_tabW impl_IsAlphabet.tab1 impl_IsAlphabet.bits1 (fun HT_ HW_ => ?_)
    generalize w3.drew = w9 at BK234 HB hHeld ⊢
    refine zp 0 (some 5) #[true, false, false, false, false, false, false, false, false, false, false, false, false, false, false, false, false, false] HT_.out ?_
    refine zc 1 (some 6) #[true, true, false, false, false, false, false, false, false, false, false, false, false, false, false, false, false, false] HT_.out HW_.out hHeld ?_
    refine one_ (i := 2) (N := some 7) #[true, true, true, false, false, false, false, false, false, false, false, false, false, false, false, false, false, false] rfl rfl (one_of HT_.out (by kernel_rfl)) (by decide) (fun K hK => ?_)
    refine goes_ Tryd.func111 (by kernel_rfl) rfl #[.int .i64 a0_0, .int .i64 0, .int .i64 8] (by rfl) rfl rfl zg ?_
    with_reducible refine (impl_inRange.calls a0_0 0 8 true _ A4.out).mono ?_
    rintro e w' ⟨rfl, ⟨nd, rfl⟩⟩
    refine ⟨_, rfl, ?_⟩
    refine hK.out _ _ ⟨(kV BK234.out 0).trans rfl, (kV BK234.out 1).trans rfl⟩ (fun hHeld => ?_)
    clear hK K
    refine norm_ (a' := ?_) ?_ ?_
    rotate_left
    ·show Act.put _ (some 7) _ = _
     simp only [Act.put, zL, zM, zN, i64_w, i32_w]
     rfl
    refine zp 3 (some 8) #[true, true, true, true, false, false, false, false, false, false, false, false, false, false, false, false, false, false] HT_.out ?_
    refine zp 4 (some 9) #[true, true, true, true, true, false, false, false, false, false, false, false, false, false, false, false, false, false] HT_.out ?_
    refine zp 5 (some 10) #[true, true, true, true, true, true, false, false, false, false, false, false, false, false, false, false, false, false] HT_.out ?_
    refine zp 8 (some 13) #[true, true, true, true, true, true, false, false, true, false, false, false, false, false, false, false, false, false] HT_.out ?_
    refine zc 6 (some 11) #[true, true, true, true, true, true, true, false, true, false, false, false, false, false, false, false, false, false] HT_.out HW_.out hHeld ?_
    refine zc 9 (some 14) #[true, true, true, true, true, true, true, false, true, true, false, false, false, false, false, false, false, false] HT_.out HW_.out hHeld ?_
    refine one_ (i := 7) (N := some 12) #[true, true, true, true, true, true, true, true, true, true, false, false, false, false, false, false, false, false] rfl rfl (one_of HT_.out (by kernel_rfl)) (by decide) (fun K hK => ?_)
    refine goes_ Tryd.func119 (by kernel_rfl) rfl #[.slice A0_1 l0_1.length c0_1] (by rfl) rfl rfl zg ?_
    with_reducible refine (impl_length_int64.calls _ _ l0_1 t236 _ ?side1 ?side2 A6.out).mono ?_
    (case side1 => exact zS (kO HR0_1.out (zT HB.out GE234.out)))
    (case side2 => exact HC0_1.out)
    rintro e w' ⟨rfl, ⟨nd, rfl⟩⟩
    refine ⟨_, rfl, ?_⟩
    refine hK.out _ _ ⟨(kV BK234.out 0).trans rfl, (kV BK234.out 1).trans rfl⟩ (fun hHeld => ?_)
    clear hK K
    refine norm_ (a' := ?_) ?_ ?_
    rotate_left
    ·show Act.put _ (some 12) _ = _
     simp only [Act.put, zL, zM, zN, i64_w, i32_w]
     rfl
    refine zp 10 (some 15) #[true, true, true, true, true, true, true, true, true, true, true, false, false, false, false, false, false, false] HT_.out ?_
    refine zp 11 (some 16) #[true, true, true, true, true, true, true, true, true, true, true, true, false, false, false, false, false, false] HT_.out ?_
    refine zp 12 (some 17) #[true, true, true, true, true, true, true, true, true, true, true, true, true, false, false, false, false, false] HT_.out ?_
    refine zp 13 (some 18) #[true, true, true, true, true, true, true, true, true, true, true, true, true, true, false, false, false, false] HT_.out ?_
    refine zc 14 (some 19) #[true, true, true, true, true, true, true, true, true, true, true, true, true, true, true, false, false, false] HT_.out HW_.out hHeld ?_
    refine one_ (i := 15) (N := some 20) #[true, true, true, true, true, true, true, true, true, true, true, true, true, true, true, true, false, false] rfl rfl (one_of HT_.out (by kernel_rfl)) (by decide) (fun K hK => ?_)
    refine goes_ Tryd.func123 (by kernel_rfl) rfl #[.slice A0_1 l0_1.length c0_1] (by rfl) rfl rfl zg ?_
    with_reducible refine (impl_IsRelation.calls _ _ l0_1 t237 _ ?side1 ?side2 A8.out).mono ?_
    (case side1 => exact zS (kO HR0_1.out (zT HB.out GE234.out)))
    (case side2 => exact HC0_1.out)
    rintro e w10 ⟨rfl, hb⟩
    refine ⟨_, rfl, ?_⟩
    replace BK234 := zA (zB1 BK234.out hb)
    replace HB := zA (kQ (zT HB.out GE234.out) hb)
    (try clear hb)
    (try clear hb2)
    (try clear hk)
    (try clear hi)
    (try clear hgw)
    refine hK.out _ _ ⟨(kV BK234.out 0).trans rfl, (kV BK234.out 1).trans rfl⟩ (fun hHeld => ?_)
    clear hK K
    refine norm_ (a' := ?_) ?_ ?_
    rotate_left
    ·show Act.put _ (some 20) _ = _
     simp only [Act.put, zL, zM, zN, i64_w, i32_w]
     rfl
    refine zp 16 (some 21) #[true, true, true, true, true, true, true, true, true, true, true, true, true, true, true, true, true, false] HT_.out ?_
    refine zp 17 (some 22) #[true, true, true, true, true, true, true, true, true, true, true, true, true, true, true, true, true, true] HT_.out ?_
    refine done_ (done_of HT_.out (by kernel_rfl)) ?_
    try go_wp2
    go_meet
    case rel => exact ⟨_, (!t237), zs, H', ⟨by first | omega | exact Nat.le_refl _⟩, ⟨zR BK234.out⟩, ⟨zT HB.out GE234.out⟩⟩
   rw [if_neg c7] at H
   obtain ⟨c7b0, c7b1⟩ := zT2 c7
   (first | rw [c7b0] | (simp only [i64_w, i32_w]; rw [c7b0]) | skip)
   have H' := zA H
   clear H
   try go_wp2
   replace BK234 := zA (zK BK234.out)
   replace HB := zA (zD HB.out)
   refine start_ (n := 18) (S := fun w' => w'.cell? ⟨gb234, 0, none⟩ = some (.int .i64 a0_0) ∧ w'.cell? ⟨gb234, 1, none⟩ = some (.slice A0_1 l0_1.length c0_1)) (ds := []) #[false, false, false, false, false, false, false, false, false, false, false, false, false, false, false, false, false, false] (by kernel_rfl) rfl rfl ⟨(kV BK234.out 0).trans rfl, (kV BK234.out 1).trans rfl⟩ (fun hHeld => ?_); refine with_tabW impl_IsAlphabet.tab1 impl_IsAlphabet.bits1 (fun HT_ HW_ => ?_)
   generalize w3.drew = w11 at BK234 HB hHeld ⊢
   refine zp 0 (some 5) #[true, false, false, false, false, false, false, false, false, false, false, false, false, false, false, false, false, false] HT_.out ?_
   refine zc 1 (some 6) #[true, true, false, false, false, false, false, false, false, false, false, false, false, false, false, false, false, false] HT_.out HW_.out hHeld ?_
   refine one_ (i := 2) (N := some 7) #[true, true, true, false, false, false, false, false, false, false, false, false, false, false, false, false, false, false] rfl rfl (one_of HT_.out (by kernel_rfl)) (by decide) (fun K hK => ?_)
   refine goes_ Tryd.func111 (by kernel_rfl) rfl #[.int .i64 a0_0, .int .i64 0, .int .i64 8] (by rfl) rfl rfl zg ?_
   with_reducible refine (impl_inRange.calls a0_0 0 8 true _ A4.out).mono ?_
   rintro e w' ⟨rfl, ⟨nd, rfl⟩⟩
   refine ⟨_, rfl, ?_⟩
   refine hK.out _ _ ⟨(kV BK234.out 0).trans rfl, (kV BK234.out 1).trans rfl⟩ (fun hHeld => ?_)
   clear hK K
   refine norm_ (a' := ?_) ?_ ?_
   rotate_left
   ·show Act.put _ (some 7) _ = _
    simp only [Act.put, zL, zM, zN, i64_w, i32_w]
    rfl
   refine zp 3 (some 8) #[true, true, true, true, false, false, false, false, false, false, false, false, false, false, false, false, false, false] HT_.out ?_
   refine zp 4 (some 9) #[true, true, true, true, true, false, false, false, false, false, false, false, false, false, false, false, false, false] HT_.out ?_
   refine zp 5 (some 10) #[true, true, true, true, true, true, false, false, false, false, false, false, false, false, false, false, false, false] HT_.out ?_
   refine zp 8 (some 13) #[true, true, true, true, true, true, false, false, true, false, false, false, false, false, false, false, false, false] HT_.out ?_
   refine zc 6 (some 11) #[true, true, true, true, true, true, true, false, true, false, false, false, false, false, false, false, false, false] HT_.out HW_.out hHeld ?_
   refine zc 9 (some 14) #[true, true, true, true, true, true, true, false, true, true, false, false, false, false, false, false, false, false] HT_.out HW_.out hHeld ?_
   refine one_ (i := 7) (N := some 12) #[true, true, true, true, true, true, true, true, true, true, false, false, false, false, false, false, false, false] rfl rfl (one_of HT_.out (by kernel_rfl)) (by decide) (fun K hK => ?_)
   refine goes_ Tryd.func119 (by kernel_rfl) rfl #[.slice A0_1 l0_1.length c0_1] (by rfl) rfl rfl zg ?_
   with_reducible refine (impl_length_int64.calls _ _ l0_1 t236 _ ?side1 ?side2 A6.out).mono ?_
   (case side1 => exact zS (kO HR0_1.out (zT HB.out GE234.out)))
   (case side2 => exact HC0_1.out)
   rintro e w' ⟨rfl, ⟨nd, rfl⟩⟩
   refine ⟨_, rfl, ?_⟩
   refine hK.out _ _ ⟨(kV BK234.out 0).trans rfl, (kV BK234.out 1).trans rfl⟩ (fun hHeld => ?_)
   clear hK K
   refine norm_ (a' := ?_) ?_ ?_
   rotate_left
   ·show Act.put _ (some 12) _ = _
    simp only [Act.put, zL, zM, zN, i64_w, i32_w]
    rfl
   refine zp 10 (some 15) #[true, true, true, true, true, true, true, true, true, true, true, false, false, false, false, false, false, false] HT_.out ?_
   refine zp 11 (some 16) #[true, true, true, true, true, true, true, true, true, true, true, true, false, false, false, false, false, false] HT_.out ?_
   refine zp 12 (some 17) #[true, true, true, true, true, true, true, true, true, true, true, true, true, false, false, false, false, false] HT_.out ?_
   refine zu 13 (some 18) #[true, true, true, true, true, true, true, true, true, true, true, true, true, true, false, false, false, false] HT_.out ?_
   refine zu 14 (some 19) #[true, true, true, true, true, true, true, true, true, true, true, true, true, true, true, false, false, false] HT_.out ?_
   refine zu 15 (some 20) #[true, true, true, true, true, true, true, true, true, true, true, true, true, true, true, true, false, false] HT_.out ?_
   refine zu 16 (some 21) #[true, true, true, true, true, true, true, true, true, true, true, true, true, true, true, true, true, false] HT_.out ?_
   refine zp 17 (some 22) #[true, true, true, true, true, true, true, true, true, true, true, true, true, true, true, true, true, true] HT_.out ?_
   refine done_ (done_of HT_.out (by kernel_rfl)) ?_
   try go_wp2
   go_meet
   case rel => exact ⟨_, (true), zs, H', ⟨by first | omega | exact Nat.le_refl _⟩, ⟨zR BK234.out⟩, ⟨zT HB.out GE234.out⟩⟩
  replace c5 := Bool.eq_false_iff.mpr c5
  subst c5
  rw [if_neg (show ¬ (false = true) by decide)] at H
  have H' := zA H
  clear H
  try go_wp2
  replace BK234 := zA (zK BK234.out)
  replace HB := zA (zD HB.out)
  refine start_ (n := 18) (S := fun w' => w'.cell? ⟨gb234, 0, none⟩ = some (.int .i64 a0_0) ∧ w'.cell? ⟨gb234, 1, none⟩ = some (.slice A0_1 l0_1.length c0_1)) (ds := []) #[false, false, false, false, false, false, false, false, false, false, false, false, false, false, false, false, false, false] (by kernel_rfl) rfl rfl ⟨(kV BK234.out 0).trans rfl, (kV BK234.out 1).trans rfl⟩ (fun hHeld => ?_); refine with_tabW impl_IsAlphabet.tab1 impl_IsAlphabet.bits1 (fun HT_ HW_ => ?_)
  generalize w3.drew = w12 at BK234 HB hHeld ⊢
  refine zp 0 (some 5) #[true, false, false, false, false, false, false, false, false, false, false, false, false, false, false, false, false, false] HT_.out ?_
  refine zc 1 (some 6) #[true, true, false, false, false, false, false, false, false, false, false, false, false, false, false, false, false, false] HT_.out HW_.out hHeld ?_
  refine one_ (i := 2) (N := some 7) #[true, true, true, false, false, false, false, false, false, false, false, false, false, false, false, false, false, false] rfl rfl (one_of HT_.out (by kernel_rfl)) (by decide) (fun K hK => ?_)
  refine goes_ Tryd.func111 (by kernel_rfl) rfl #[.int .i64 a0_0, .int .i64 0, .int .i64 8] (by rfl) rfl rfl zg ?_
  with_reducible refine (impl_inRange.calls a0_0 0 8 false _ A4.out).mono ?_
  rintro e w' ⟨rfl, ⟨nd, rfl⟩⟩
  refine ⟨_, rfl, ?_⟩
  refine hK.out _ _ ⟨(kV BK234.out 0).trans rfl, (kV BK234.out 1).trans rfl⟩ (fun hHeld => ?_)
  clear hK K
  refine norm_ (a' := ?_) ?_ ?_
  rotate_left
  ·show Act.put _ (some 7) _ = _
   simp only [Act.put, zL, zM, zN, i64_w, i32_w]
   rfl
  refine zp 3 (some 8) #[true, true, true, true, false, false, false, false, false, false, false, false, false, false, false, false, false, false] HT_.out ?_
  refine zp 4 (some 9) #[true, true, true, true, true, false, false, false, false, false, false, false, false, false, false, false, false, false] HT_.out ?_
  refine zu 5 (some 10) #[true, true, true, true, true, true, false, false, false, false, false, false, false, false, false, false, false, false] HT_.out ?_
  refine zu 6 (some 11) #[true, true, true, true, true, true, true, false, false, false, false, false, false, false, false, false, false, false] HT_.out ?_
  refine zu 7 (some 12) #[true, true, true, true, true, true, true, true, false, false, false, false, false, false, false, false, false, false] HT_.out ?_
  refine zu 8 (some 13) #[true, true, true, true, true, true, true, true, true, false, false, false, false, false, false, false, false, false] HT_.out ?_
  refine zu 9 (some 14) #[true, true, true, true, true, true, true, true, true, true, false, false, false, false, false, false, false, false] HT_.out ?_
  refine zu 10 (some 15) #[true, true, true, true, true, true, true, true, true, true, true, false, false, false, false, false, false, false] HT_.out ?_
  refine zp 11 (some 16) #[true, true, true, true, true, true, true, true, true, true, true, true, false, false, false, false, false, false] HT_.out ?_
  refine zp 12 (some 17) #[true, true, true, true, true, true, true, true, true, true, true, true, true, false, false, false, false, false] HT_.out ?_
  refine zu 13 (some 18) #[true, true, true, true, true, true, true, true, true, true, true, true, true, true, false, false, false, false] HT_.out ?_
  refine zu 14 (some 19) #[true, true, true, true, true, true, true, true, true, true, true, true, true, true, true, false, false, false] HT_.out ?_
  refine zu 15 (some 20) #[true, true, true, true, true, true, true, true, true, true, true, true, true, true, true, true, false, false] HT_.out ?_
  refine zu 16 (some 21) #[true, true, true, true, true, true, true, true, true, true, true, true, true, true, true, true, true, false] HT_.out ?_
  refine zp 17 (some 22) #[true, true, true, true, true, true, true, true, true, true, true, true, true, true, true, true, true, true] HT_.out ?_
  refine done_ (done_of HT_.out (by kernel_rfl)) ?_
  try go_wp2
  go_meet
  case rel => exact ⟨_, (true), zs, H', ⟨by first | omega | exact Nat.le_refl _⟩, ⟨zR BK234.out⟩, ⟨zT HB.out GE234.out⟩⟩
 case rest =>
  clear HC2
  try clear c1
  try clear c5
  try clear c7
  try clear c11
  try clear c12
  obtain ⟨kq, x22_1, rfl, HA, HJ1, BK234, HB⟩ := hcut
  cases kq with
  | zero => exact absurd HA.out (by simp [impl_IsAlphabet.j0])
  | succ kj1 =>
   have H := HA.out
   clear HA
   simp only [impl_IsAlphabet.j0] at H
   by_cases c13 : x22_1 = true
   ·subst c13
    rw [if_pos rfl] at H
    obtain rfl := Option.some.inj H
    go_wp2
    go_ret
    exact ⟨zr, zT HB.out GE234.out⟩
   replace c13 := Bool.eq_false_iff.mpr c13
   subst c13
   rw [if_neg (show ¬ (false = true) by decide)] at H
   obtain ⟨t238, A14, H⟩ := zb H
   try dsimp only at H
   have H' := zA H
   clear H
   obtain ⟨hcz15_0, hcz15_1, hfz15_0, hfz15_1⟩ := zB3 BK234.out
   go_wp2_with (first | (refine zO (some 25) Tryd.func141 #[.slice A0_1 l0_1.length c0_1] ?_; (with_reducible refine (impl_converse.calls kj1 _ _ l0_1 t238 _ ?side1 ?side2 ?side3 A14.out).mono ?_); (case side1 => exact zS (kO HR0_1.out HB.out)); (case side2 => exact HC0_1.out); (case side3 => exact TabW.below HT.out (zT HB.out GE234.out)); rintro e w16 ⟨v239, rfl, ho0, hb⟩; refine ⟨_, rfl, ?_⟩; have HO240 := zA (kI ho0 (kP (zT HB.out GE234.out))); replace BK234 := zA (zB1 BK234.out hb); replace HB := zA (kQ (zT HB.out GE234.out) hb); (try clear hb); (try clear ho0); obtain ⟨Ao17, co17, eo17⟩ := kM HO240.out; subst eo17))
   go_loopg [27] kj1 (fun kq v27 w' => ∃ (x27_2 : Int), v27 = .int .i64 x27_2 ∧ Aside0 (impl_IsAlphabet.l0 kq t238 (t238.length : Int) x27_2 a0_0 l0_1 = some r) ∧ Aside0 (kq ≤ kj1) ∧ Aside0 (Kd.R (Kd.int .i64) 2 w' w.heap.size (fun _ => True) (.slice Ao17 t238.length co17) t238) ∧ Aside0 (w'.heap[gb234]? = some (.cells #[.int .i64 a0_0, (.slice A0_1 l0_1.length c0_1)] 29 (0, 0))) ∧ Aside0 (Below w.heap.size w w'))
   case atStart => exact ⟨(0), zs, H', ⟨Nat.le_refl _⟩, ⟨zP HO240.out⟩, ⟨zR BK234.out⟩, ⟨zT HB.out GE234.out⟩⟩
   case round =>
    clear H'
    try clear c1
    try clear c5
    try clear c7
    try clear c11
    try clear c12
    try clear c13
    try clear c14
    try clear hcz15_0
    try clear hcz15_1
    try clear hfz15_0
    try clear hfz15_1
    obtain ⟨x27_2, rfl, HA, HK2, HO_25, BK234, HB⟩ := hrel
    cases gk with
    | zero => exact absurd HA.out (by simp [impl_IsAlphabet.l0])
    | succ k2 =>
     have H := HA.out
     clear HA
     simp only [impl_IsAlphabet.l0] at H
     by_cases c18 : x27_2 < (t238.length : Int)
     ·rw [if_pos c18] at H
      have c18b0 : decide (x27_2 < (t238.length : Int)) = true := decide_eq_true c18
      clear c18
      by_cases c19 : 0 ≤ x27_2
      ·rw [if_pos c19] at H
       have c19b0 : decide (0 ≤ x27_2) = true := decide_eq_true c19
       clear c19
       by_cases c20 : x27_2 < (t238.length : Int)
       ·rw [if_pos c20] at H
        have c20b0 : decide (x27_2 < (t238.length : Int)) = true := decide_eq_true c20
        clear c20
        by_cases c21 : x27_2 < (l0_1.length : Int)
        ·rw [if_pos c21] at H
         have c21b0 : decide (x27_2 < (l0_1.length : Int)) = true := decide_eq_true c21
         clear c21
         by_cases c22 : (rd t238 x27_2) = (rd l0_1 x27_2)
         ·rw [if_pos c22] at H
          obtain ⟨c22b0, c22b1⟩ := zT1 c22
          clear c22
          obtain ⟨t243, A23, H⟩ := zb H
          try dsimp only at H
          by_cases c24 : t243 = true
          ·subst c24
           rw [if_pos rfl] at H
           have H' := zA H
           clear H
           have p241 : 0 ≤ (x27_2 : Int) := zd
           have q241 : x27_2 < (t238.length : Int) := zd
           obtain ⟨ad241, e241, hx241_0⟩ := Kd.at_int (kB HO_25.out).2.2 x27_2 p241 q241
           cases e241
           replace p241 := eq_true p241
           replace q241 := eq_true q241
           obtain ⟨hcz25_0, hcz25_1, hfz25_0, hfz25_1⟩ := zB3 BK234.out
           have p242 : 0 ≤ (x27_2 : Int) := zd
           have q242 : x27_2 < (l0_1.length : Int) := zd
           obtain ⟨ad242, e242, hx242_0⟩ := Kd.at_int HR0_1.out x27_2 p242 q242
           cases e242
           replace hx242_0 := (HB.out.cell (jG w _ hx242_0)).trans hx242_0
           replace p242 := eq_true p242
           replace q242 := eq_true q242
           go_wp2_with (first | (go_at_call 159; (with_reducible refine (impl_has.calls (rd t238 x27_2) x27_2 true _ A23.out).mono ?_); rintro e w' ⟨rfl, ⟨nd, rfl⟩⟩))
           go_roundg k2
           case measure => have := HJ1.out; have := HK2.out; omega
           case rel => exact ⟨(wrap64 (x27_2 + 1)), zs, H', ⟨by have := HJ1.out; have := HK2.out; omega⟩, ⟨zP HO_25.out⟩, ⟨zR BK234.out⟩, ⟨zT HB.out GE234.out⟩⟩
          replace c24 := Bool.eq_false_iff.mpr c24
          subst c24
          rw [if_neg (show ¬ (false = true) by decide)] at H
          obtain rfl := Option.some.inj H
          have p241 : 0 ≤ (x27_2 : Int) := zd
          have q241 : x27_2 < (t238.length : Int) := zd
          obtain ⟨ad241, e241, hx241_0⟩ := Kd.at_int (kB HO_25.out).2.2 x27_2 p241 q241
          cases e241
          replace p241 := eq_true p241
          replace q241 := eq_true q241
          obtain ⟨hcz26_0, hcz26_1, hfz26_0, hfz26_1⟩ := zB3 BK234.out
          have p242 : 0 ≤ (x27_2 : Int) := zd
          have q242 : x27_2 < (l0_1.length : Int) := zd
          obtain ⟨ad242, e242, hx242_0⟩ := Kd.at_int HR0_1.out x27_2 p242 q242
          cases e242
          replace hx242_0 := (HB.out.cell (jG w _ hx242_0)).trans hx242_0
          replace p242 := eq_true p242
          replace q242 := eq_true q242
          go_wp2_with (first | (go_at_call 159; (with_reducible refine (impl_has.calls (rd t238 x27_2) x27_2 false _ A23.out).mono ?_); rintro e w' ⟨rfl, ⟨nd, rfl⟩⟩))
          go_ret
          exact ⟨zr, zT HB.out GE234.out⟩
         rw [if_neg c22] at H
         obtain ⟨c22b0, c22b1⟩ := zT2 c22
         obtain rfl := Option.some.inj H
         have p241 : 0 ≤ (x27_2 : Int) := zd
         have q241 : x27_2 < (t238.length : Int) := zd
         obtain ⟨ad241, e241, hx241_0⟩ := Kd.at_int (kB HO_25.out).2.2 x27_2 p241 q241
         cases e241
         replace p241 := eq_true p241
         replace q241 := eq_true q241
         obtain ⟨hcz27_0, hcz27_1, hfz27_0, hfz27_1⟩ := zB3 BK234.out
         have p242 : 0 ≤ (x27_2 : Int) := zd
         have q242 : x27_2 < (l0_1.length : Int) := zd
         obtain ⟨ad242, e242, hx242_0⟩ := Kd.at_int HR0_1.out x27_2 p242 q242
         cases e242
         replace hx242_0 := (HB.out.cell (jG w _ hx242_0)).trans hx242_0
         replace p242 := eq_true p242
         replace q242 := eq_true q242
         go_wp2
         go_ret
         exact ⟨zr, zT HB.out GE234.out⟩
        rw [if_neg c21] at H
        exact absurd H (by simp)
       rw [if_neg c20] at H
       exact absurd H (by simp)
      rw [if_neg c19] at H
      exact absurd H (by simp)
     rw [if_neg c18] at H
     have c18b0 : decide (x27_2 < (t238.length : Int)) = false := decide_eq_false c18
     clear c18
     obtain rfl := Option.some.inj H
     go_wp2
     go_ret
     exact ⟨zr, zT HB.out GE234.out⟩

-- NOT PRINTED: function 189 (slices_IndexFunc_int64_int64_189)

-- NOT PRINTED: function 147 (slices_ContainsFunc_int64_int64_147)

/-! ### impl_isWord: function 149 -/
def impl_isWord.f (a0_0 : Int) (l0_1 : List Int) (l1 : List Int) : Option (Bool) := if (l1.length : Int) ≤ 24 then ((impl_allIn.f l1 0 (wrap64 (a0_0 - 1))).bind fun t245 => (some t245)) else (some false)
set_option maxHeartbeats 8000000 in
set_option maxRecDepth 100000 in
theorem impl_isWord.calls (a0_0 : Int) (A0_1 : Option Addr) (c0_1 : Nat) (l0_1 : List Int) (A1 : Option Addr) (c1 : Nat) (l1 : List Int) (r : Bool) (w : World) (hr0_1 : Kd.C (Kd.int .i64) w A0_1 l0_1.length l0_1) (hc0_1 : l0_1.length ≤ c0_1) (hr1 : Kd.C (Kd.int .i64) w A1 l1.length l1) (hc1 : l1.length ≤ c1) (h : impl_isWord.f a0_0 l0_1 l1 = some r) :
  Calls Tryd.prog 149 #[.agg #[.int .i64 a0_0, .slice A0_1 l0_1.length c0_1], .slice A1 l1.length c1] w fun e w' => e = .returned (.bool r) ∧ Below w.heap.size w w' := by
 have hu29 := Tryd.underlying29
 have HR0_1 := zA hr0_1
 have HC0_1 := zA hc0_1
 clear hr0_1 hc0_1
 have HR1 := zA hr1
 have HC1 := zA hc1
 clear hr1 hc1
 have HB := zA (kW w.heap.size w)
 have H := h
 unfold impl_isWord.f at H
 clear h
 by_cases c3 : (l1.length : Int) ≤ 24
 ·rw [if_pos c3] at H
  have c3b0 : decide ((l1.length : Int) ≤ 24) = true := decide_eq_true c3
  have c3b1 : decide (l1.length ≤ 24) = true := decide_eq_true (by omega)
  clear c3
  obtain ⟨t245, A4, H⟩ := zb H
  try dsimp only at H
  obtain rfl := Option.some.inj H
  go_enter Tryd.func149, Tryd.ntmps149
  go_wp2_with (first | (refine zBE 2 #[.int .i64 a0_0, .slice A0_1 l0_1.length c0_1] 29 ?_; intro gb244 hg w5 hbox hb; have BK244 := zA (hbox); have GW244 := zA (zBH hg HB.out); have GE244 := zA (zBH hg HB.out); replace HB := zA (kQ (zQ HB.out) hb); clear hb hbox hg; obtain ⟨hcz6_0, hcz6_1, hfz6_0, hfz6_1⟩ := zB3 BK244.out) | (go_at_call 176; (with_reducible refine (impl_allIn.calls _ _ l1 0 (wrap64 (a0_0 - 1)) t245 _ ?side1 ?side2 A4.out).mono ?_); (case side1 => exact zS (kO HR1.out HB.out)); (case side2 => exact HC1.out); rintro e w7 ⟨rfl, hb⟩; replace BK244 := zA (zB1 BK244.out hb); replace HB := zA (kQ (zT HB.out GE244.out) hb); (try clear hb)))
  go_ret
  exact ⟨zr, zT HB.out GE244.out⟩
 rw [if_neg c3] at H
 have c3b0 : decide ((l1.length : Int) ≤ 24) = false := decide_eq_false c3
 have c3b1 : decide (l1.length ≤ 24) = false := decide_eq_false (by omega)
 clear c3
 obtain rfl := Option.some.inj H
 go_enter Tryd.func149, Tryd.ntmps149
 go_wp2_with (first | (refine zBE 2 #[.int .i64 a0_0, .slice A0_1 l0_1.length c0_1] 29 ?_; intro gb244 hg w8 hbox hb; have BK244 := zA (hbox); have GW244 := zA (zBH hg HB.out); have GE244 := zA (zBH hg HB.out); replace HB := zA (kQ (zQ HB.out) hb); clear hb hbox hg))
 go_ret
 exact ⟨zr, zT HB.out GE244.out⟩

/-! ### impl_checkWords: function 76: a contract of our own -/
def wordB (n : Int) (w : List Int) : Bool := decide (w.length ≤ 24) && w.all fun x => decide (0 ≤ x ∧ x ≤ wrap64 (n - 1))
def impl_checkWords.f (k : Nat) (a0_0 : Int) (l0_1 : List Int) (l1 : List (List Int)) : Option Int :=
 (impl_IsAlphabet.f k a0_0 l0_1).bind fun t => some (if t = true then (if l1.all (wordB a0_0) = true then 0 else 2) else 1)
theorem isWord_some (n : Int) (D w : List Int) : impl_isWord.f n D w = some (wordB n w) := by
 unfold impl_isWord.f wordB
 by_cases h : w.length ≤ 24
 ·rw [if_pos (by omega)]
  simp [h, impl_allIn.f]
 rw [if_neg (by omega)]
 simp [h]
theorem checkWords_pred (n : Int) (A : Option Addr) (c : Nat) (D : List Int) (B : Nat) (w : World) (hB : B < w.heap.size) (hD : (Kd.int .i64).C w A D.length D) (hc : D.length ≤ c)
  (h0 : w.cell? ⟨B, 0, none⟩ = some (.int .i64 n)) (h1 : w.cell? ⟨B, 1, none⟩ = some (.slice A D.length c)) :
  PredL 148 #[.pointer (some ⟨B, 0, none⟩)] (fun x => !wordB n x) w := fun W A2 c2 x hb hx hcx => by
 have k0 : W.cell? ⟨B, 0, none⟩ = some (.int .i64 n) := (hb.cell (p := ⟨B, 0, none⟩) hB).trans h0
 have k1 : W.cell? ⟨B, 1, none⟩ = some (.slice A D.length c) := (hb.cell (p := ⟨B, 1, none⟩) hB).trans h1
 have hcall := impl_isWord.calls n A c D A2 c2 x (wordB n x) W (kO hD hb) hc hx hcx (isWord_some n D x)
 replace hcall := zA hcall
 clear h0 h1 hb hx hcx hD hc
 show Calls Tryd.prog 148 #[.slice A2 x.length c2, .pointer (some ⟨B, 0, none⟩)] W fun e W' => e = .returned (.bool (!wordB n x)) ∧ Below W.heap.size W W'
 generalize wordB n x = b at hcall ⊢
 have hu := Tryd.underlying29
 go_enter Tryd.func148, Tryd.ntmps148
 go_wp2_with fail
 refine hcall.out.mono ?_
 rintro e w' ⟨rfl, hb⟩
 replace hb := zA hb
 clear hcall
 go_wp2
 go_ret
 exact ⟨rfl, hb.out⟩
theorem impl_checkWords.calls (k : Nat) (a0_0 : Int) (A0_1 : Option Addr) (c0_1 : Nat) (l0_1 : List Int) (A1 : Option Addr) (c1 : Nat) (l1 : List (List Int)) (r : Int) (w : World) (hr0_1 : Kd.C (Kd.int .i64) w A0_1 l0_1.length l0_1) (hc0_1 : l0_1.length ≤ c0_1)
  (hr1 : Kd.C (Kd.slice 22 (Kd.int .i64)) w A1 l1.length l1) (hc1 : l1.length ≤ c1) (hT : TabW w) (h : impl_checkWords.f k a0_0 l0_1 l1 = some r) :
  Calls Tryd.prog 76 #[.agg #[.int .i64 a0_0, .slice A0_1 l0_1.length c0_1], .slice A1 l1.length c1] w fun e w' => e = .returned (.int .i64 r) ∧ Below w.heap.size w w' := by
 obtain ⟨t, ht, hr⟩ := Option.bind_eq_some_iff.mp h
 clear h
 have hW : Below w.heap.size w (w.alloc (.cells #[.int .i64 a0_0, .slice A0_1 l0_1.length c0_1] 29)) := zB (kW _ w) _
 have hal := zA (impl_IsAlphabet.calls k a0_0 A0_1 c0_1 l0_1 t (w.alloc (.cells #[.int .i64 a0_0, .slice A0_1 l0_1.length c0_1] 29)) (kO hr0_1 hW) hc0_1 (hT.below hW) ht)
 have eg : ∀ args w, (callFunc 148 args).run Tryd.prog w = .ok (.enter 148 args) w := enters_fn Tryd.func148 (by kernel_rfl) rfl
 have hcon := zA (fun (W : World) (hb : Below (w.alloc (.cells #[.int .i64 a0_0, .slice A0_1 l0_1.length c0_1] 29)).heap.size (w.alloc (.cells #[.int .i64 a0_0, .slice A0_1 l0_1.length c0_1] 29)) W) =>
  containsFuncL_any A1 c1 l1 148 #[.pointer (some ⟨w.heap.size, 0, none⟩)] (fun x => !wordB a0_0 x) W eg
  (checkWords_pred a0_0 A0_1 c0_1 l0_1 w.heap.size W (Nat.lt_of_lt_of_le (by simp) hb.size) (kO (kO hr0_1 hW) hb) hc0_1 ((hb.cell (p := ⟨w.heap.size, 0, none⟩) (by simp)).trans (by simp)) ((hb.cell (p := ⟨w.heap.size, 1, none⟩) (by simp)).trans (by simp))) (kO (kO hr1 hW) hb))
 replace hW := zA hW
 clear ht eg hr0_1 hr1 hc1 hc0_1 hT
 have hany : (l1.any fun x => !wordB a0_0 x) = !(l1.all (wordB a0_0)) := by rw [List.all_eq_not_any_not]; simp
 rw [hany] at hcon
 clear hany
 generalize l1.all (wordB a0_0) = b at hcon hr
 have hu := Tryd.underlying29
 cases t with
 | false =>
  rw [if_neg (by decide)] at hr
  obtain rfl := Option.some.inj hr
  clear hr
  go_enter Tryd.func76, Tryd.ntmps76
  go_wp2_with fail
  refine hal.out.mono ?_
  rintro e w' ⟨rfl, hb⟩
  replace hb := zA hb
  clear hal hcon
  go_wp2
  go_ret
  exact ⟨rfl, kQ hW.out hb.out⟩
 | true =>
  rw [if_pos rfl] at hr
  cases b with
  | false =>
   rw [if_neg (by decide)] at hr
   obtain rfl := Option.some.inj hr
   clear hr
   go_enter Tryd.func76, Tryd.ntmps76
   go_wp2_with fail
   refine hal.out.mono ?_
   rintro e w' ⟨rfl, hb⟩
   replace hb := zA hb
   clear hal
   go_wp2_with fail
   refine (hcon.out _ hb.out).mono ?_
   rintro e w'' ⟨rfl, hb2⟩
   replace hb2 := zA hb2
   clear hcon
   go_wp2
   go_ret
   exact ⟨rfl, kQ (kQ hW.out hb.out) hb2.out⟩
  | true =>
   rw [if_pos rfl] at hr
   obtain rfl := Option.some.inj hr
   clear hr
   go_enter Tryd.func76, Tryd.ntmps76
   go_wp2_with fail
   refine hal.out.mono ?_
   rintro e w' ⟨rfl, hb⟩
   replace hb := zA hb
   clear hal
   go_wp2_with fail
   refine (hcon.out _ hb.out).mono ?_
   rintro e w'' ⟨rfl, hb2⟩
   replace hb2 := zA hb2
   clear hcon
   go_wp2
   go_ret
   exact ⟨rfl, kQ (kQ hW.out hb.out) hb2.out⟩

/-! ### impl_Alphabet_ties: function 77 -/
def impl_Alphabet_ties.f (a0_0 : Int) (l0_1 : List Int) : Option (List Int) := some l0_1
set_option maxHeartbeats 8000000 in
set_option maxRecDepth 100000 in
theorem impl_Alphabet_ties.calls (a0_0 : Int) (P0_1_ : Nat → Prop) (A0_1 : Option Addr) (c0_1 : Nat) (l0_1 : List Int) (r : List Int) (w : World) (hs0_1 : Kd.V (Kd.int .i64) 2 w w.heap.size (fun k_ => P0_1_ k_) (.slice A0_1 l0_1.length c0_1) l0_1) (h : impl_Alphabet_ties.f a0_0 l0_1 = some r) :
  Calls Tryd.prog 77 #[.agg #[.int .i64 a0_0, .slice A0_1 l0_1.length c0_1]] w fun e w' => ∃ v0_ : Value, e = .returned (v0_) ∧ Kd.V (Kd.int .i64) 2 w' w.heap.size (fun k_ => (P0_1_ k_ ∨ w.heap.size ≤ k_)) v0_ r ∧ Below w.heap.size w w' := by
 have hu29 := Tryd.underlying29
 have HO0_1 := zA (show Kd.V (Kd.int .i64) 2 w w.heap.size (fun k_ => (P0_1_ k_ ∨ w.heap.size ≤ k_)) (.slice A0_1 l0_1.length c0_1) l0_1 from kN hs0_1 (fun k_ hk => .inl hk))
 have HB := zA (kW w.heap.size w)
 have H := h
 unfold impl_Alphabet_ties.f at H
 clear h
 obtain rfl := Option.some.inj H
 go_enter Tryd.func77, Tryd.ntmps77
 go_wp2_with (first | (refine zBE 1 #[.int .i64 a0_0, .slice A0_1 l0_1.length c0_1] 29 ?_; intro gb246 hg w2 hbox hb; replace HO0_1 := zA (kG (jD (zPV HO0_1.out) gb246 (Nat.le_of_eq hg.symm)) hb); have BK246 := zA (hbox); have GW246 := zA (zBH hg HB.out); have GE246 := zA (zBH hg HB.out); replace HB := zA (kQ (zQ HB.out) hb); clear hb hbox hg; obtain ⟨hcz3_0, hcz3_1, hfz3_0, hfz3_1⟩ := zB3 BK246.out))
 go_ret
 exact ⟨_, zr, by (with_reducible repeat (first | apply Kd.V_alloc | apply Kd.V_drewN | apply Kd.V_drew)); exact kN HO0_1.out (fun _ hk => hk.1), zT HB.out GE246.out⟩

end Go.Proofs.YthgapkbkhoeleaaDoor.PAll
