import Derived.Test.YtkiacoilecdepaaDoorPAllx0
import Derived.Test.YtkiacoilecdepaaDoorPAllx1
import Derived.Test.YtkiacoilecdepaaDoorPAllx2
import Derived.Test.YtkiacoilecdepaaDoorPAllx4
namespace Go.Proofs.YtkiacoilecdepaaDoor.PAll
open Go.RowKit Go.Proofs.YtkiacoilecdepaaDoor.T Go.Proofs.YtkiacoilecdepaaDoorW.PrintWords Go.Proofs.YtkiacoilecdepaaDoorW.PrintLast Go.Proofs.YtkiacoilecdepaaDoorW.PrintMore
attribute [local go_sem] max2_int min2_int max_two min_two max_three min_three max_four min_four   -- for this text's walks alone
set_option linter.unusedVariables false
set_option linter.unusedSimpArgs false
mutual
def spec_l04Order.l0 : Nat → List Int → List Int → Int → Int → List Int → Option (List Int)
 | 0, _, _, _, _, _ => none
 | k + 1, x1, x5, x6, x1069000, x1069001 => if x6 < (x1.length : Int) then ((spec_l01One.f x6).bind fun t1072 => (spec_l04Order.l1 k x1 x5 x6 t1072 (wrap64 (x6 + 1)) x1069000 x1069001)) else (some x5)
def spec_l04Order.l1 : Nat → List Int → List Int → Int → Int → Int → Int → List Int → Option (List Int)
 | 0, _, _, _, _, _, _, _ => none
 | k + 1, x1, x5, x6, x7, x8, x1069000, x1069001 => if x8 < (x1.length : Int) then (spec_l04Order.l2 k x1 x5 x6 x7 x8 x6 x1069000 x1069001) else (if x5.length < 17592186044416 then (spec_l04Order.l0 k x1 (x5 ++ [x7]) (wrap64 (x6 + 1)) x1069000 x1069001) else (none))
def spec_l04Order.l2 : Nat → List Int → List Int → Int → Int → Int → Int → Int → List Int → Option (List Int)
 | 0, _, _, _, _, _, _, _, _ => none
 | k + 1, x1, x5, x6, x7, x8, x9, x1069000, x1069001 => if x9 < x8 then ((spec_l01Bit.f x7 x9).bind fun t1076 => (if t1076 = true then (if 0 ≤ x9 then (if x9 < (x1.length : Int) then (if 0 ≤ x8 then (if x8 < (x1.length : Int) then ((spec_l02Dep.f x1069000 x1069001 (rd x1 x9) (rd x1 x8)).bind fun t1079 => (if t1079 = true then ((spec_l01One.f x8).bind fun t1080 => (spec_l04Order.l2 k x1 x5 x6 (Go.bits .or .i64 x7 t1080) x8 (wrap64 (x9 + 1)) x1069000 x1069001)) else (spec_l04Order.l2 k x1 x5 x6 x7 x8 (wrap64 (x9 + 1)) x1069000 x1069001))) else (none)) else (none)) else (none)) else (none)) else (spec_l04Order.l2 k x1 x5 x6 x7 x8 (wrap64 (x9 + 1)) x1069000 x1069001))) else (spec_l04Order.l1 k x1 x5 x6 x7 (wrap64 (x8 + 1)) x1069000 x1069001)
end
def spec_l04Order.f (k : Nat) (a0_0 : Int) (l0_1 : List Int) (l1 : List Int) : Option (List Int) := spec_l04Order.l0 k l1 (([] : List Int)) 0 a0_0 l0_1
def spec_l04Order.T12 : Bool × List (List Nat × List Nat) := (true, [([], []), ([], []), ([0, 1], [0, 1]), ([2, 2], [2]), ([3], [3]), ([3], [3]), ([3], [3]), ([5, 6, 3], [3, 5, 6]), ([7, 3], [3, 7]), ([3], [3]), ([3], [3]), ([9, 10, 3], [3, 9, 10]), ([11, 3], [3, 11]), ([4, 8, 12, 3, 3], [3, 4, 8, 12]), ([3, 13], [3, 13])])
def spec_l04Order.B12 : List Nat := [0, 0, 3, 7, 15, 15, 15, 111, 239, 15, 15, 1551, 3599, 8191, 16383]
theorem spec_l04Order.tab12 : rtab .any (opsOf Tryd.f78 12) = spec_l04Order.T12 := by kernel_rfl
theorem spec_l04Order.bits12 : waitsOk spec_l04Order.T12.2 spec_l04Order.B12 = true := by kernel_rfl
set_option maxHeartbeats 8000000 in
set_option maxRecDepth 100000 in
theorem spec_l04Order.calls (k : Nat) (a0_0 : Int) (A0_1 : Option Addr) (c0_1 : Nat) (l0_1 : List Int) (A1 : Option Addr) (c1 : Nat) (l1 : List Int) (r : List Int) (w : World) (hr0_1 : Kd.C (Kd.int .i64) w A0_1 l0_1.length l0_1) (hc0_1 : l0_1.length ≤ c0_1) (hr1 : Kd.C (Kd.int .i64) w A1 l1.length l1) (hc1 : l1.length ≤ c1) (h : spec_l04Order.f k a0_0 l0_1 l1 = some r) :
  Calls Tryd.prog 78 #[.agg #[.int .i64 a0_0, .slice A0_1 l0_1.length c0_1], .slice A1 l1.length c1] w fun e w' => ∃ v0_ : Value, e = .returned (v0_) ∧ Kd.R (Kd.int .i64) 2 w' w.heap.size (fun _ => True) v0_ r ∧ Below w.heap.size w w' := by
 have hu26 := Tryd.underlying26
 have HR0_1 := zA hr0_1
 have HC0_1 := zA hc0_1
 clear hr0_1 hc0_1
 have HR1 := zA hr1
 have HC1 := zA hc1
 clear hr1 hc1
 have HB := zA (kW w.heap.size w)
 have H := h
 unfold spec_l04Order.f at H
 clear h
 obtain ⟨y1069, hy1069⟩ : ∃ y_ : List Int, y_ = (([] : List Int)) := ⟨_, rfl⟩
 replace H : (spec_l04Order.l0 k l1 y1069 0 a0_0 l0_1) = some r := zy hy1069 H
 have Ny1069 := zA hy1069
 clear hy1069
 have H' := zA H
 clear H
 go_enter Tryd.func78, Tryd.ntmps78
 go_wp2_with (first | (refine zBE 2 #[.int .i64 a0_0, .slice A0_1 l0_1.length c0_1] 26 ?_; intro gb1068 hg w3 hbox hb; have BK1068 := zA (hbox); have GW1068 := zA (zBH hg HB.out); have GE1068 := zA (zBH hg HB.out); replace HB := zA (kQ (zQ HB.out) hb); clear hb hbox hg) | ((with_reducible refine kS (N := 10) rfl ?_); refine Kd.R_lit (Kd.int .i64) _ 2 ?hg (N := 10) ?hd (xs := ([] : List Int)) (inner := []) (ok := fun _ => True) (okp := fun _ => True) ?hr ?hp (fun _ hk => hk) trivial (kW _ _) (Nat.le_refl _) (by simp) ?_; (case hd => rfl); (case hg => rfl); (case hr => first | (go_simp; done) | (go_simp; rfl)); (case hp => exact (Reps.none _ _)); intro v1070 w4 ho5 hb hg_ hnew_; clear hg_ hnew_; (first | rw [← Ny1069.out] at ho5 | (simp only [Int.reduceToNat] at ho5; rw [← Ny1069.out] at ho5)); have HO1071 := zA (kI ho5 (kP (zT HB.out GE1068.out))); replace BK1068 := zA (zB1 BK1068.out hb); replace HB := zA (kQ (zT HB.out GE1068.out) hb); clear hb ho5))
 go_loopg [5, 6] k (fun kq v5 v6 w' => ∃ (x5_1 : List Int) (x6_1 : Int), v6 = .int .i64 x6_1 ∧ Aside0 (spec_l04Order.l0 kq l1 x5_1 x6_1 a0_0 l0_1 = some r) ∧ Aside0 (kq ≤ k) ∧ Aside0 (Kd.R (Kd.int .i64) 2 w' w.heap.size (fun _ => True) v5 x5_1) ∧ Aside0 (w'.heap[gb1068]? = some (.cells #[.int .i64 a0_0, (.slice A0_1 l0_1.length c0_1)] 26 (0, 0))) ∧ Aside0 (Below w.heap.size w w'))
 case atStart => exact ⟨(y1069), (0), zs, H', ⟨Nat.le_refl _⟩, ⟨zP HO1071.out⟩, ⟨zR BK1068.out⟩, ⟨zT HB.out GE1068.out⟩⟩
 case round =>
  clear H'
  try clear c1
  obtain ⟨x5_1, x6_1, rfl, HA, HK1, HO_5, BK1068, HB⟩ := hrel
  cases gk with
  | zero => exact absurd HA.out (by simp [spec_l04Order.l0])
  | succ k1 =>
   have H := HA.out
   clear HA
   simp only [spec_l04Order.l0] at H
   by_cases c6 : x6_1 < (l1.length : Int)
   ·rw [if_pos c6] at H
    have c6b0 : decide (x6_1 < (l1.length : Int)) = true := decide_eq_true c6
    clear c6
    obtain ⟨t1072, A7, H⟩ := zb H
    try dsimp only at H
    have H' := zA H
    clear H
    go_wp2_with (first | (refine zO (some 18) Tryd.func54 #[.int .i64 x6_1] ?_; (with_reducible refine (spec_l01One.calls x6_1 t1072 _ A7.out).mono ?_); rintro e w' ⟨rfl, ⟨nd, rfl⟩⟩; refine ⟨_, rfl, ?_⟩))
    go_loopg [7, 8] k1 (fun kq v7 v8 w' => ∃ (x7_2 : Int) (x8_2 : Int), v7 = .int .i64 x7_2 ∧ v8 = .int .i64 x8_2 ∧ Aside0 (spec_l04Order.l1 kq l1 x5_1 x6_1 x7_2 x8_2 a0_0 l0_1 = some r) ∧ Aside0 (kq ≤ k1) ∧ Aside0 (Kd.R (Kd.int .i64) 2 w' w.heap.size (fun _ => True) u5 x5_1) ∧ Aside0 (w'.heap[gb1068]? = some (.cells #[.int .i64 a0_0, (.slice A0_1 l0_1.length c0_1)] 26 (0, 0))) ∧ Aside0 (Below w.heap.size w w'))
    case atStart => exact ⟨(t1072), (wrap64 (x6_1 + 1)), zs, zs, H', ⟨Nat.le_refl _⟩, ⟨zP HO_5.out⟩, ⟨zR BK1068.out⟩, ⟨zT HB.out GE1068.out⟩⟩
    case round =>
     clear H'
     try clear c1
     try clear c5
     try clear c6
     try clear c7
     obtain ⟨x7_2, x8_2, rfl, rfl, HA, HK2, HO_5, BK1068, HB⟩ := hrel
     cases gk with
     | zero => exact absurd HA.out (by simp [spec_l04Order.l1])
     | succ k2 =>
      have H := HA.out
      clear HA
      simp only [spec_l04Order.l1] at H
      by_cases c8 : x8_2 < (l1.length : Int)
      ·rw [if_pos c8] at H
       have c8b0 : decide (x8_2 < (l1.length : Int)) = true := decide_eq_true c8
       clear c8
       have H' := zA H
       clear H
       go_wp2
       go_loopg [7, 9] k2 (fun kq v7 v9 w' => ∃ (x7_3 : Int) (x9_3 : Int), v7 = .int .i64 x7_3 ∧ v9 = .int .i64 x9_3 ∧ Aside0 (spec_l04Order.l2 kq l1 x5_1 x6_1 x7_3 x8_2 x9_3 a0_0 l0_1 = some r) ∧ Aside0 (kq ≤ k2) ∧ Aside0 (Kd.R (Kd.int .i64) 2 w' w.heap.size (fun _ => True) u5 x5_1) ∧ Aside0 (w'.heap[gb1068]? = some (.cells #[.int .i64 a0_0, (.slice A0_1 l0_1.length c0_1)] 26 (0, 0))) ∧ Aside0 (Below w.heap.size w w'))
       case atStart => exact ⟨(x7_2), (x6_1), zs, zs, H', ⟨Nat.le_refl _⟩, ⟨zP HO_5.out⟩, ⟨zR BK1068.out⟩, ⟨zT HB.out GE1068.out⟩⟩
       case round =>
        clear H'
        try clear c1
        try clear c5
        try clear c6
        try clear c7
        try clear c8
        obtain ⟨x7_3, x9_3, rfl, rfl, HA, HK3, HO_5, BK1068, HB⟩ := hrel
        cases gk with
        | zero => exact absurd HA.out (by simp [spec_l04Order.l2])
        | succ k3 =>
         have H := HA.out
         clear HA
         simp only [spec_l04Order.l2] at H
         by_cases c9 : x9_3 < x8_2
         ·rw [if_pos c9] at H
          have c9b0 : decide (x9_3 < x8_2) = true := decide_eq_true c9
          clear c9
          obtain ⟨t1076, A10, H⟩ := zb H
          try dsimp only at H
          by_cases c11 : t1076 = true
          ·subst c11
           rw [if_pos rfl] at H
           by_cases c12 : 0 ≤ x9_3
           ·rw [if_pos c12] at H
            have c12b0 : decide (0 ≤ x9_3) = true := decide_eq_true c12
            clear c12
            by_cases c13 : x9_3 < (l1.length : Int)
            ·rw [if_pos c13] at H
             have c13b0 : decide (x9_3 < (l1.length : Int)) = true := decide_eq_true c13
             clear c13
             by_cases c14 : 0 ≤ x8_2
             ·rw [if_pos c14] at H
              have c14b0 : decide (0 ≤ x8_2) = true := decide_eq_true c14
              clear c14
              by_cases c15 : x8_2 < (l1.length : Int)
              ·rw [if_pos c15] at H
               have c15b0 : decide (x8_2 < (l1.length : Int)) = true := decide_eq_true c15
               clear c15
               obtain ⟨t1079, A16, H⟩ := zb H
               try dsimp only at H
               by_cases c17 : t1079 = true
               ·subst c17
                rw [if_pos rfl] at H
                obtain ⟨t1080, A18, H⟩ := zb H
                try dsimp only at H
                have H' := zA H
                clear H
                try go_wp2
                replace HO_5 := zA (zH HO_5.out)
                replace BK1068 := zA (zK BK1068.out)
                replace HB := zA (zD HB.out)
                have p1077 : 0 ≤ (x9_3 : Int) := zd
                have q1077 : x9_3 < (l1.length : Int) := zd
                obtain ⟨ad1077, e1077, hx1077_0⟩ := Kd.at_int HR1.out x9_3 p1077 q1077
                have hw1077_0 := hx1077_0
                cases e1077
                replace hx1077_0 := (HB.out.cell (jG w _ hx1077_0)).trans hx1077_0
                replace p1077 := eq_true p1077
                replace q1077 := eq_true q1077
                have p1078 : 0 ≤ (x8_2 : Int) := zd
                have q1078 : x8_2 < (l1.length : Int) := zd
                obtain ⟨ad1078, e1078, hx1078_0⟩ := Kd.at_int HR1.out x8_2 p1078 q1078
                have hw1078_0 := hx1078_0
                obtain rfl : ad1077 = ad1078 := (by injection e1078)
                replace hx1078_0 := (HB.out.cell (jG w _ hx1078_0)).trans hx1078_0
                replace p1078 := eq_true p1078
                replace q1078 := eq_true q1078
                refine start_ (n := 15) (S := fun w' => w'.cell? ⟨gb1068, 0, none⟩ = some (.int .i64 a0_0) ∧ w'.cell? ⟨gb1068, 1, none⟩ = some (.slice A0_1 l0_1.length c0_1) ∧ w'.cell? (ad1077.add (x9_3).toNat) = some (.int .i64 (rd l1 x9_3)) ∧ w'.cell? (ad1077.add (x8_2).toNat) = some (.int .i64 (rd l1 x8_2))) (ds := []) #[false, false, false, false, false, false, false, false, false, false, false, false, false, false, false] (by kernel_rfl) rfl rfl ⟨(kV BK1068.out 0).trans rfl, (kV BK1068.out 1).trans rfl, (pw_cell_below HB.out hw1077_0), (pw_cell_below HB.out hw1078_0)⟩ (fun hHeld => ?_); refine with_tabW spec_l04Order.tab12 spec_l04Order.bits12 (fun HT_ HW_ => ?_)
                generalize wr.drew = w19 at HO_5 BK1068 HB hx1077_0 hx1078_0 hHeld ⊢
                refine zp 0 (some 33) #[true, false, false, false, false, false, false, false, false, false, false, false, false, false, false] HT_.out ?_
                refine zp 1 (some 34) #[true, true, false, false, false, false, false, false, false, false, false, false, false, false, false] HT_.out ?_
                refine one_ (i := 2) (N := some 35) #[true, true, true, false, false, false, false, false, false, false, false, false, false, false, false] rfl rfl (one_of HT_.out (by kernel_rfl)) (by decide) (fun K hK => ?_)
                refine goes_ Tryd.func66 (by kernel_rfl) rfl #[.int .i64 x7_3, .int .i64 x9_3] (by rfl) rfl rfl zg ?_
                with_reducible refine (spec_l01Bit.calls x7_3 x9_3 true _ A10.out).mono ?_
                rintro e w' ⟨rfl, ⟨nd, rfl⟩⟩
                refine ⟨_, rfl, ?_⟩
                refine hK.out _ _ ⟨(kV BK1068.out 0).trans rfl, (kV BK1068.out 1).trans rfl, (pw_cell_below HB.out hw1077_0), (pw_cell_below HB.out hw1078_0)⟩ (fun hHeld => ?_)
                clear hK K
                refine norm_ (a' := ?_) ?_ ?_
                rotate_left
                ·show Act.put _ (some 35) _ = _
                 simp only [Act.put, zL, zM, zN, i64_w, i32_w]
                 rfl
                refine zp 3 (some 36) #[true, true, true, true, false, false, false, false, false, false, false, false, false, false, false] HT_.out ?_
                refine zp 5 (some 38) #[true, true, true, true, false, true, false, false, false, false, false, false, false, false, false] HT_.out ?_
                refine zp 6 (some 39) #[true, true, true, true, false, true, true, false, false, false, false, false, false, false, false] HT_.out ?_
                refine zp 7 (some 40) #[true, true, true, true, false, true, true, true, false, false, false, false, false, false, false] HT_.out ?_
                refine zp 9 (some 42) #[true, true, true, true, false, true, true, true, false, true, false, false, false, false, false] HT_.out ?_
                refine zp 10 (some 43) #[true, true, true, true, false, true, true, true, false, true, true, false, false, false, false] HT_.out ?_
                refine zp 11 (some 44) #[true, true, true, true, false, true, true, true, false, true, true, true, false, false, false] HT_.out ?_
                refine zf 4 (some 37) #[true, true, true, true, true, true, true, true, false, true, true, true, false, false, false] HT_.out HW_.out hHeld ?_
                refine zf 8 (some 41) #[true, true, true, true, true, true, true, true, true, true, true, true, false, false, false] HT_.out HW_.out hHeld ?_
                refine zf 12 (some 45) #[true, true, true, true, true, true, true, true, true, true, true, true, true, false, false] HT_.out HW_.out hHeld ?_
                refine one_ (i := 13) (N := some 46) #[true, true, true, true, true, true, true, true, true, true, true, true, true, true, false] rfl rfl (one_of HT_.out (by kernel_rfl)) (by decide) (fun K hK => ?_)
                refine goes_ Tryd.func108 (by kernel_rfl) rfl #[.agg #[.int .i64 a0_0, .slice A0_1 l0_1.length c0_1], .int .i64 (rd l1 x9_3), .int .i64 (rd l1 x8_2)] (by rfl) rfl rfl zg ?_
                with_reducible refine (spec_l02Dep.calls a0_0 _ _ l0_1 (rd l1 x9_3) (rd l1 x8_2) true _ ?side1 ?side2 A16.out).mono ?_
                (case side1 => exact zS (kO HR0_1.out (zT HB.out GE1068.out)))
                (case side2 => exact HC0_1.out)
                rintro e w20 ⟨rfl, hb⟩
                refine ⟨_, rfl, ?_⟩
                replace HO_5 := zA (kL (zP HO_5.out) hb)
                replace BK1068 := zA (zB1 BK1068.out hb)
                replace HB := zA (kQ (zT HB.out GE1068.out) hb)
                (try clear hb)
                (try clear hb2)
                (try clear hk)
                (try clear hi)
                (try clear hgw)
                refine hK.out _ _ ⟨(kV BK1068.out 0).trans rfl, (kV BK1068.out 1).trans rfl, (pw_cell_below HB.out hw1077_0), (pw_cell_below HB.out hw1078_0)⟩ (fun hHeld => ?_)
                clear hK K
                refine norm_ (a' := ?_) ?_ ?_
                rotate_left
                ·show Act.put _ (some 46) _ = _
                 simp only [Act.put, zL, zM, zN, i64_w, i32_w]
                 rfl
                refine zp 14 (some 47) #[true, true, true, true, true, true, true, true, true, true, true, true, true, true, true] HT_.out ?_
                refine done_ (done_of HT_.out (by kernel_rfl)) ?_
                try go_wp2_with (first | (refine zO (some 50) Tryd.func54 #[.int .i64 x8_2] ?_; (with_reducible refine (spec_l01One.calls x8_2 t1080 _ A18.out).mono ?_); rintro e w' ⟨rfl, ⟨nd, rfl⟩⟩; refine ⟨_, rfl, ?_⟩))
                go_roundg k3
                case measure => have := HK1.out; have := HK2.out; have := HK3.out; omega
                case rel => exact ⟨(Go.bits .or .i64 x7_3 t1080), (wrap64 (x9_3 + 1)), zs, zs, H', ⟨by have := HK1.out; have := HK2.out; have := HK3.out; omega⟩, ⟨zP HO_5.out⟩, ⟨zR BK1068.out⟩, ⟨zT HB.out GE1068.out⟩⟩
               replace c17 := Bool.eq_false_iff.mpr c17
               subst c17
               rw [if_neg (show ¬ (false = true) by decide)] at H
               have H' := zA H
               clear H
               try go_wp2
               replace HO_5 := zA (zH HO_5.out)
               replace BK1068 := zA (zK BK1068.out)
               replace HB := zA (zD HB.out)
               have p1077 : 0 ≤ (x9_3 : Int) := zd
               have q1077 : x9_3 < (l1.length : Int) := zd
               obtain ⟨ad1077, e1077, hx1077_0⟩ := Kd.at_int HR1.out x9_3 p1077 q1077
               have hw1077_0 := hx1077_0
               cases e1077
               replace hx1077_0 := (HB.out.cell (jG w _ hx1077_0)).trans hx1077_0
               replace p1077 := eq_true p1077
               replace q1077 := eq_true q1077
               have p1078 : 0 ≤ (x8_2 : Int) := zd
               have q1078 : x8_2 < (l1.length : Int) := zd
               obtain ⟨ad1078, e1078, hx1078_0⟩ := Kd.at_int HR1.out x8_2 p1078 q1078
               have hw1078_0 := hx1078_0
               obtain rfl : ad1077 = ad1078 := (by injection e1078)
               replace hx1078_0 := (HB.out.cell (jG w _ hx1078_0)).trans hx1078_0
               replace p1078 := eq_true p1078
               replace q1078 := eq_true q1078
               refine start_ (n := 15) (S := fun w' => w'.cell? ⟨gb1068, 0, none⟩ = some (.int .i64 a0_0) ∧ w'.cell? ⟨gb1068, 1, none⟩ = some (.slice A0_1 l0_1.length c0_1) ∧ w'.cell? (ad1077.add (x9_3).toNat) = some (.int .i64 (rd l1 x9_3)) ∧ w'.cell? (ad1077.add (x8_2).toNat) = some (.int .i64 (rd l1 x8_2))) (ds := []) #[false, false, false, false, false, false, false, false, false, false, false, false, false, false, false] (by kernel_rfl) rfl rfl ⟨(kV BK1068.out 0).trans rfl, (kV BK1068.out 1).trans rfl, (pw_cell_below HB.out hw1077_0), (pw_cell_below HB.out hw1078_0)⟩ (fun hHeld => ?_); refine with_tabW spec_l04Order.tab12 spec_l04Order.bits12 (fun HT_ HW_ => ?_)
               generalize wr.drew = w21 at HO_5 BK1068 HB hx1077_0 hx1078_0 hHeld ⊢
               refine zp 0 (some 33) #[true, false, false, false, false, false, false, false, false, false, false, false, false, false, false] HT_.out ?_
               refine zp 1 (some 34) #[true, true, false, false, false, false, false, false, false, false, false, false, false, false, false] HT_.out ?_
               refine one_ (i := 2) (N := some 35) #[true, true, true, false, false, false, false, false, false, false, false, false, false, false, false] rfl rfl (one_of HT_.out (by kernel_rfl)) (by decide) (fun K hK => ?_)
               refine goes_ Tryd.func66 (by kernel_rfl) rfl #[.int .i64 x7_3, .int .i64 x9_3] (by rfl) rfl rfl zg ?_
               with_reducible refine (spec_l01Bit.calls x7_3 x9_3 true _ A10.out).mono ?_
               rintro e w' ⟨rfl, ⟨nd, rfl⟩⟩
               refine ⟨_, rfl, ?_⟩
               refine hK.out _ _ ⟨(kV BK1068.out 0).trans rfl, (kV BK1068.out 1).trans rfl, (pw_cell_below HB.out hw1077_0), (pw_cell_below HB.out hw1078_0)⟩ (fun hHeld => ?_)
               clear hK K
               refine norm_ (a' := ?_) ?_ ?_
               rotate_left
               ·show Act.put _ (some 35) _ = _
                simp only [Act.put, zL, zM, zN, i64_w, i32_w]
                rfl
               refine zp 3 (some 36) #[true, true, true, true, false, false, false, false, false, false, false, false, false, false, false] HT_.out ?_
               refine zp 5 (some 38) #[true, true, true, true, false, true, false, false, false, false, false, false, false, false, false] HT_.out ?_
               refine zp 6 (some 39) #[true, true, true, true, false, true, true, false, false, false, false, false, false, false, false] HT_.out ?_
               refine zp 7 (some 40) #[true, true, true, true, false, true, true, true, false, false, false, false, false, false, false] HT_.out ?_
               refine zp 9 (some 42) #[true, true, true, true, false, true, true, true, false, true, false, false, false, false, false] HT_.out ?_
               refine zp 10 (some 43) #[true, true, true, true, false, true, true, true, false, true, true, false, false, false, false] HT_.out ?_
               refine zp 11 (some 44) #[true, true, true, true, false, true, true, true, false, true, true, true, false, false, false] HT_.out ?_
               refine zf 4 (some 37) #[true, true, true, true, true, true, true, true, false, true, true, true, false, false, false] HT_.out HW_.out hHeld ?_
               refine zf 8 (some 41) #[true, true, true, true, true, true, true, true, true, true, true, true, false, false, false] HT_.out HW_.out hHeld ?_
               refine zf 12 (some 45) #[true, true, true, true, true, true, true, true, true, true, true, true, true, false, false] HT_.out HW_.out hHeld ?_
               refine one_ (i := 13) (N := some 46) #[true, true, true, true, true, true, true, true, true, true, true, true, true, true, false] rfl rfl (one_of HT_.out (by kernel_rfl)) (by decide) (fun K hK => ?_)
               refine goes_ Tryd.func108 (by kernel_rfl) rfl #[.agg #[.int .i64 a0_0, .slice A0_1 l0_1.length c0_1], .int .i64 (rd l1 x9_3), .int .i64 (rd l1 x8_2)] (by rfl) rfl rfl zg ?_
               with_reducible refine (spec_l02Dep.calls a0_0 _ _ l0_1 (rd l1 x9_3) (rd l1 x8_2) false _ ?side1 ?side2 A16.out).mono ?_
               (case side1 => exact zS (kO HR0_1.out (zT HB.out GE1068.out)))
               (case side2 => exact HC0_1.out)
               rintro e w22 ⟨rfl, hb⟩
               refine ⟨_, rfl, ?_⟩
               replace HO_5 := zA (kL (zP HO_5.out) hb)
               replace BK1068 := zA (zB1 BK1068.out hb)
               replace HB := zA (kQ (zT HB.out GE1068.out) hb)
               (try clear hb)
               (try clear hb2)
               (try clear hk)
               (try clear hi)
               (try clear hgw)
               refine hK.out _ _ ⟨(kV BK1068.out 0).trans rfl, (kV BK1068.out 1).trans rfl, (pw_cell_below HB.out hw1077_0), (pw_cell_below HB.out hw1078_0)⟩ (fun hHeld => ?_)
               clear hK K
               refine norm_ (a' := ?_) ?_ ?_
               rotate_left
               ·show Act.put _ (some 46) _ = _
                simp only [Act.put, zL, zM, zN, i64_w, i32_w]
                rfl
               refine zp 14 (some 47) #[true, true, true, true, true, true, true, true, true, true, true, true, true, true, true] HT_.out ?_
               refine done_ (done_of HT_.out (by kernel_rfl)) ?_
               try go_wp2
               go_roundg k3
               case measure => have := HK1.out; have := HK2.out; have := HK3.out; omega
               case rel => exact ⟨(x7_3), (wrap64 (x9_3 + 1)), zs, zs, H', ⟨by have := HK1.out; have := HK2.out; have := HK3.out; omega⟩, ⟨zP HO_5.out⟩, ⟨zR BK1068.out⟩, ⟨zT HB.out GE1068.out⟩⟩
              rw [if_neg c15] at H
              exact absurd H (by simp)
             rw [if_neg c14] at H
             exact absurd H (by simp)
            rw [if_neg c13] at H
            exact absurd H (by simp)
           rw [if_neg c12] at H
           exact absurd H (by simp)
          replace c11 := Bool.eq_false_iff.mpr c11
          subst c11
          rw [if_neg (show ¬ (false = true) by decide)] at H
          have H' := zA H
          clear H
          try go_wp2
          replace HO_5 := zA (zH HO_5.out)
          replace BK1068 := zA (zK BK1068.out)
          replace HB := zA (zD HB.out)
          refine start_ (n := 15) (S := fun w' => True) (ds := []) #[false, false, false, false, false, false, false, false, false, false, false, false, false, false, false] (by kernel_rfl) rfl rfl trivial (fun hHeld => ?_); refine with_tabW spec_l04Order.tab12 spec_l04Order.bits12 (fun HT_ HW_ => ?_)
          generalize wr.drew = w23 at HO_5 BK1068 HB hHeld ⊢
          refine zp 0 (some 33) #[true, false, false, false, false, false, false, false, false, false, false, false, false, false, false] HT_.out ?_
          refine zp 1 (some 34) #[true, true, false, false, false, false, false, false, false, false, false, false, false, false, false] HT_.out ?_
          refine one_ (i := 2) (N := some 35) #[true, true, true, false, false, false, false, false, false, false, false, false, false, false, false] rfl rfl (one_of HT_.out (by kernel_rfl)) (by decide) (fun K hK => ?_)
          refine goes_ Tryd.func66 (by kernel_rfl) rfl #[.int .i64 x7_3, .int .i64 x9_3] (by rfl) rfl rfl zg ?_
          with_reducible refine (spec_l01Bit.calls x7_3 x9_3 false _ A10.out).mono ?_
          rintro e w' ⟨rfl, ⟨nd, rfl⟩⟩
          refine ⟨_, rfl, ?_⟩
          refine hK.out _ _ trivial (fun hHeld => ?_)
          clear hK K
          refine norm_ (a' := ?_) ?_ ?_
          rotate_left
          ·show Act.put _ (some 35) _ = _
           simp only [Act.put, zL, zM, zN, i64_w, i32_w]
           rfl
          refine zp 3 (some 36) #[true, true, true, true, false, false, false, false, false, false, false, false, false, false, false] HT_.out ?_
          refine zu 4 (some 37) #[true, true, true, true, true, false, false, false, false, false, false, false, false, false, false] HT_.out ?_
          refine zu 5 (some 38) #[true, true, true, true, true, true, false, false, false, false, false, false, false, false, false] HT_.out ?_
          refine zu 6 (some 39) #[true, true, true, true, true, true, true, false, false, false, false, false, false, false, false] HT_.out ?_
          refine zu 7 (some 40) #[true, true, true, true, true, true, true, true, false, false, false, false, false, false, false] HT_.out ?_
          refine zu 8 (some 41) #[true, true, true, true, true, true, true, true, true, false, false, false, false, false, false] HT_.out ?_
          refine zu 9 (some 42) #[true, true, true, true, true, true, true, true, true, true, false, false, false, false, false] HT_.out ?_
          refine zu 10 (some 43) #[true, true, true, true, true, true, true, true, true, true, true, false, false, false, false] HT_.out ?_
          refine zu 11 (some 44) #[true, true, true, true, true, true, true, true, true, true, true, true, false, false, false] HT_.out ?_
          refine zu 12 (some 45) #[true, true, true, true, true, true, true, true, true, true, true, true, true, false, false] HT_.out ?_
          refine zu 13 (some 46) #[true, true, true, true, true, true, true, true, true, true, true, true, true, true, false] HT_.out ?_
          refine zp 14 (some 47) #[true, true, true, true, true, true, true, true, true, true, true, true, true, true, true] HT_.out ?_
          refine done_ (done_of HT_.out (by kernel_rfl)) ?_
          try go_wp2
          go_roundg k3
          case measure => have := HK1.out; have := HK2.out; have := HK3.out; omega
          case rel => exact ⟨(x7_3), (wrap64 (x9_3 + 1)), zs, zs, H', ⟨by have := HK1.out; have := HK2.out; have := HK3.out; omega⟩, ⟨zP HO_5.out⟩, ⟨zR BK1068.out⟩, ⟨zT HB.out GE1068.out⟩⟩
         rw [if_neg c9] at H
         have c9b0 : decide (x9_3 < x8_2) = false := decide_eq_false c9
         clear c9
         have H' := zA H
         clear H
         go_wp2
         go_roundg k3
         case measure => have := HK1.out; have := HK2.out; have := HK3.out; omega
         case rel => exact ⟨(x7_3), (wrap64 (x8_2 + 1)), zs, zs, H', ⟨by have := HK1.out; have := HK2.out; have := HK3.out; omega⟩, ⟨zP HO_5.out⟩, ⟨zR BK1068.out⟩, ⟨zT HB.out GE1068.out⟩⟩
      rw [if_neg c8] at H
      have c8b0 : decide (x8_2 < (l1.length : Int)) = false := decide_eq_false c8
      clear c8
      by_cases c24 : x5_1.length < 17592186044416
      ·rw [if_pos c24] at H
       have LMc24 := zA c24
       clear c24
       obtain ⟨y1073, hy1073⟩ : ∃ y_ : List Int, y_ = (x5_1 ++ [x7_2]) := ⟨_, rfl⟩
       replace H : (spec_l04Order.l0 k2 l1 y1073 (wrap64 (x6_1 + 1)) a0_0 l0_1) = some r := zy hy1073 H
       have Ny1073 := zA hy1073
       clear hy1073
       have H' := zA H
       clear H
       go_wp2_with (first | ((with_reducible refine gate_builtin (b := .append) (xs := #[.tmp 52, .tmp 54]) rfl ?_); at_builtin; refine Kd.R_append (Kd.int .i64) (w0 := w) w.heap.size rfl (.tmp 52) (.tmp 54) 24 2 (.int .i64 0) 8 rfl Tryd.underlying24 info2 rfl (by decide) (by omega) u5 x5_1 x7_2 [.int .i64 x7_2] (fun _ => True) (fun _ => False) rfl rfl ?aP (fun _ hk => hk.elim) ?aF ?aO ?aB ?aS ?aL ?_; (case aP => exact rfl); (case aB => exact (zT HB.out GE1068.out)); (case aF => exact (fun _ _ => trivial)); (case aO => exact (zP HO_5.out)); (case aS => exact (kP (zT HB.out GE1068.out))); (case aL => have := LMc24.out; omega); intro v1074 w25 ho hb hg hat; rw [← Ny1073.out] at ho; replace BK1068 := zA (blk_grown (g := gb1068) (o := .cells #[.int .i64 a0_0, .slice A0_1 l0_1.length c0_1] 26 (0, 0)) (zR BK1068.out) hg (Kd.R_ne HO_5.out BK1068.out (by decide))); replace HB := zA (hb); have HO1075 := zA (ho); clear HO_5; clear ho hb hg hat))
       go_roundg k2
       case measure => have := HK1.out; have := HK2.out; omega
       case rel => exact ⟨(y1073), (wrap64 (x6_1 + 1)), zs, H', ⟨by have := HK1.out; have := HK2.out; omega⟩, ⟨zP HO1075.out⟩, ⟨zR BK1068.out⟩, ⟨zT HB.out GE1068.out⟩⟩
      rw [if_neg c24] at H
      exact absurd H (by simp)
   rw [if_neg c6] at H
   have c6b0 : decide (x6_1 < (l1.length : Int)) = false := decide_eq_false c6
   clear c6
   obtain rfl := Option.some.inj H
   go_wp2
   go_ret
   exact ⟨_, zr, zP HO_5.out, zT HB.out GE1068.out⟩
def spec_l01Below.l0 : Nat → List Int → Int → Int → Int → Option (Int)
 | 0, _, _, _, _ => none
 | k + 1, x0, x1, x5, x6 => if x6 < (x0.length : Int) then (if 0 ≤ x6 then ((spec_l01Bit.f (rd x0 x6) x1).bind fun t1082 => (if t1082 = true then ((spec_l01One.f x6).bind fun t1083 => (spec_l01Below.l0 k x0 x1 (Go.bits .or .i64 x5 t1083) (wrap64 (x6 + 1)))) else (spec_l01Below.l0 k x0 x1 x5 (wrap64 (x6 + 1))))) else (none)) else (some x5)
def spec_l01Below.f (k : Nat) (l0 : List Int) (a1 : Int) : Option (Int) := spec_l01Below.l0 k l0 a1 0 0
set_option maxHeartbeats 8000000 in
set_option maxRecDepth 100000 in
theorem spec_l01Below.calls (k : Nat) (A0 : Option Addr) (c0 : Nat) (l0 : List Int) (a1 : Int) (r : Int) (w : World) (hr0 : Kd.C (Kd.int .i64) w A0 l0.length l0) (hc0 : l0.length ≤ c0) (h : spec_l01Below.f k l0 a1 = some r) :
  Calls Tryd.prog 80 #[.slice A0 l0.length c0, .int .i64 a1] w fun e w' => e = .returned (.int .i64 r) ∧ Drawn0 w w' := by
 have HR0 := zA hr0
 have HC0 := zA hc0
 clear hr0 hc0
 have H := h
 unfold spec_l01Below.f at H
 clear h
 have H' := zA H
 clear H
 go_enter Tryd.func80, Tryd.ntmps80
 go_wp2
 go_loopg [5, 6] k (fun kq v5 v6 w' => ∃ (x5_1 : Int) (x6_1 : Int), v5 = .int .i64 x5_1 ∧ v6 = .int .i64 x6_1 ∧ Aside0 (spec_l01Below.l0 kq l0 a1 x5_1 x6_1 = some r) ∧ Aside0 (kq ≤ k) ∧ Drawn0 w w')
 case atStart => exact ⟨(0), (0), zs, zs, H', ⟨Nat.le_refl _⟩, by repeat (first | exact Drawn0.refl _ | apply Drawn0.step)⟩
 case round =>
  clear H'
  obtain ⟨x5_1, x6_1, rfl, rfl, HA, HK1, ⟨m1, rfl⟩⟩ := hrel
  cases gk with
  | zero => exact absurd HA.out (by simp [spec_l01Below.l0])
  | succ k1 =>
   have H := HA.out
   clear HA
   simp only [spec_l01Below.l0] at H
   by_cases c3 : x6_1 < (l0.length : Int)
   ·rw [if_pos c3] at H
    have c3b0 : decide (x6_1 < (l0.length : Int)) = true := decide_eq_true c3
    clear c3
    by_cases c4 : 0 ≤ x6_1
    ·rw [if_pos c4] at H
     have c4b0 : decide (0 ≤ x6_1) = true := decide_eq_true c4
     clear c4
     obtain ⟨t1082, A5, H⟩ := zb H
     try dsimp only at H
     by_cases c6 : t1082 = true
     ·subst c6
      rw [if_pos rfl] at H
      obtain ⟨t1083, A7, H⟩ := zb H
      try dsimp only at H
      have H' := zA H
      clear H
      have p1081 : 0 ≤ (x6_1 : Int) := zd
      have q1081 : x6_1 < (l0.length : Int) := zd
      obtain ⟨ad1081, e1081, hx1081_0⟩ := Kd.at_int HR0.out x6_1 p1081 q1081
      cases e1081
      replace p1081 := eq_true p1081
      replace q1081 := eq_true q1081
      go_wp2_with (first | (refine zO (some 18) Tryd.func66 #[.int .i64 (rd l0 x6_1), .int .i64 a1] ?_; (with_reducible refine (spec_l01Bit.calls (rd l0 x6_1) a1 true _ A5.out).mono ?_); rintro e w' ⟨rfl, ⟨nd, rfl⟩⟩; refine ⟨_, rfl, ?_⟩) | (refine zO (some 21) Tryd.func54 #[.int .i64 x6_1] ?_; (with_reducible refine (spec_l01One.calls x6_1 t1083 _ A7.out).mono ?_); rintro e w' ⟨rfl, ⟨nd, rfl⟩⟩; refine ⟨_, rfl, ?_⟩))
      go_roundg k1
      case measure => have := HK1.out; omega
      case rel => exact ⟨(Go.bits .or .i64 x5_1 t1083), (wrap64 (x6_1 + 1)), zs, zs, H', ⟨by have := HK1.out; omega⟩, by repeat (first | exact Drawn0.refl _ | apply Drawn0.step)⟩
     replace c6 := Bool.eq_false_iff.mpr c6
     subst c6
     rw [if_neg (show ¬ (false = true) by decide)] at H
     have H' := zA H
     clear H
     have p1081 : 0 ≤ (x6_1 : Int) := zd
     have q1081 : x6_1 < (l0.length : Int) := zd
     obtain ⟨ad1081, e1081, hx1081_0⟩ := Kd.at_int HR0.out x6_1 p1081 q1081
     cases e1081
     replace p1081 := eq_true p1081
     replace q1081 := eq_true q1081
     go_wp2_with (first | (refine zO (some 18) Tryd.func66 #[.int .i64 (rd l0 x6_1), .int .i64 a1] ?_; (with_reducible refine (spec_l01Bit.calls (rd l0 x6_1) a1 false _ A5.out).mono ?_); rintro e w' ⟨rfl, ⟨nd, rfl⟩⟩; refine ⟨_, rfl, ?_⟩))
     go_roundg k1
     case measure => have := HK1.out; omega
     case rel => exact ⟨(x5_1), (wrap64 (x6_1 + 1)), zs, zs, H', ⟨by have := HK1.out; omega⟩, by repeat (first | exact Drawn0.refl _ | apply Drawn0.step)⟩
    rw [if_neg c4] at H
    exact absurd H (by simp)
   rw [if_neg c3] at H
   have c3b0 : decide (x6_1 < (l0.length : Int)) = false := decide_eq_false c3
   clear c3
   obtain rfl := Option.some.inj H
   go_wp2
   go_ret
   exact ⟨zs, by repeat (first | exact Drawn0.refl _ | apply Drawn0.step)⟩
def spec_l04At.l0 : Nat → List Int → Int → List Int → Int → Option (List Int)
 | 0, _, _, _, _ => none
 | k + 1, x0, x1, x5, x6 => if x6 < (x0.length : Int) then ((spec_l01Bit.f x1 x6).bind fun t1212 => (if t1212 = true then (if 0 ≤ x6 then (if x5.length < 17592186044416 then (spec_l04At.l0 k x0 x1 (x5 ++ [rd x0 x6]) (wrap64 (x6 + 1))) else (none)) else (none)) else (spec_l04At.l0 k x0 x1 x5 (wrap64 (x6 + 1))))) else (some x5)
def spec_l04At.f (k : Nat) (l0 : List Int) (a1 : Int) : Option (List Int) := spec_l04At.l0 k l0 a1 (([] : List Int)) 0
set_option maxHeartbeats 8000000 in
set_option maxRecDepth 100000 in
theorem spec_l04At.calls (k : Nat) (A0 : Option Addr) (c0 : Nat) (l0 : List Int) (a1 : Int) (r : List Int) (w : World) (hr0 : Kd.C (Kd.int .i64) w A0 l0.length l0) (hc0 : l0.length ≤ c0) (h : spec_l04At.f k l0 a1 = some r) :
  Calls Tryd.prog 88 #[.slice A0 l0.length c0, .int .i64 a1] w fun e w' => ∃ v0_ : Value, e = .returned (v0_) ∧ Kd.R (Kd.int .i64) 2 w' w.heap.size (fun _ => True) v0_ r ∧ Below w.heap.size w w' := by
 have HR0 := zA hr0
 have HC0 := zA hc0
 clear hr0 hc0
 have HB := zA (kW w.heap.size w)
 have H := h
 unfold spec_l04At.f at H
 clear h
 obtain ⟨y1209, hy1209⟩ : ∃ y_ : List Int, y_ = (([] : List Int)) := ⟨_, rfl⟩
 replace H : (spec_l04At.l0 k l0 a1 y1209 0) = some r := zy hy1209 H
 have Ny1209 := zA hy1209
 clear hy1209
 have H' := zA H
 clear H
 go_enter Tryd.func88, Tryd.ntmps88
 go_wp2_with (first | ((with_reducible refine kS (N := 7) rfl ?_); refine Kd.R_lit (Kd.int .i64) _ 2 ?hg (N := 7) ?hd (xs := ([] : List Int)) (inner := []) (ok := fun _ => True) (okp := fun _ => True) ?hr ?hp (fun _ hk => hk) trivial (kW _ _) (Nat.le_refl _) (by simp) ?_; (case hd => rfl); (case hg => rfl); (case hr => first | (go_simp; done) | (go_simp; rfl)); (case hp => exact (Reps.none _ _)); intro v1210 w3 ho4 hb hg_ hnew_; clear hg_ hnew_; (first | rw [← Ny1209.out] at ho4 | (simp only [Int.reduceToNat] at ho4; rw [← Ny1209.out] at ho4)); have HO1211 := zA (kI ho4 (kP (zQ HB.out))); replace HB := zA (kQ (zQ HB.out) hb); clear hb ho4))
 go_loopg [5, 6] k (fun kq v5 v6 w' => ∃ (x5_1 : List Int) (x6_1 : Int), v6 = .int .i64 x6_1 ∧ Aside0 (spec_l04At.l0 kq l0 a1 x5_1 x6_1 = some r) ∧ Aside0 (kq ≤ k) ∧ Aside0 (Kd.R (Kd.int .i64) 2 w' w.heap.size (fun _ => True) v5 x5_1) ∧ Aside0 (Below w.heap.size w w'))
 case atStart => exact ⟨(y1209), (0), zs, H', ⟨Nat.le_refl _⟩, ⟨zP HO1211.out⟩, ⟨zQ HB.out⟩⟩
 case round =>
  clear H'
  obtain ⟨x5_1, x6_1, rfl, HA, HK1, HO_5, HB⟩ := hrel
  cases gk with
  | zero => exact absurd HA.out (by simp [spec_l04At.l0])
  | succ k1 =>
   have H := HA.out
   clear HA
   simp only [spec_l04At.l0] at H
   by_cases c5 : x6_1 < (l0.length : Int)
   ·rw [if_pos c5] at H
    have c5b0 : decide (x6_1 < (l0.length : Int)) = true := decide_eq_true c5
    clear c5
    obtain ⟨t1212, A6, H⟩ := zb H
    try dsimp only at H
    by_cases c7 : t1212 = true
    ·subst c7
     rw [if_pos rfl] at H
     by_cases c8 : 0 ≤ x6_1
     ·rw [if_pos c8] at H
      have c8b0 : decide (0 ≤ x6_1) = true := decide_eq_true c8
      clear c8
      by_cases c9 : x5_1.length < 17592186044416
      ·rw [if_pos c9] at H
       have LMc9 := zA c9
       clear c9
       obtain ⟨y1214, hy1214⟩ : ∃ y_ : List Int, y_ = (x5_1 ++ [rd l0 x6_1]) := ⟨_, rfl⟩
       replace H : (spec_l04At.l0 k1 l0 a1 y1214 (wrap64 (x6_1 + 1))) = some r := zy hy1214 H
       have Ny1214 := zA hy1214
       clear hy1214
       have H' := zA H
       clear H
       go_wp2_with (first | (refine zO (some 16) Tryd.func66 #[.int .i64 a1, .int .i64 x6_1] ?_; (with_reducible refine (spec_l01Bit.calls a1 x6_1 true _ A6.out).mono ?_); rintro e w' ⟨rfl, ⟨nd, rfl⟩⟩; refine ⟨_, rfl, ?_⟩; have p1213 : 0 ≤ (x6_1 : Int) := zd; have q1213 : x6_1 < (l0.length : Int) := zd; obtain ⟨ad1213, e1213, hx1213_0⟩ := Kd.at_int HR0.out x6_1 p1213 q1213; cases e1213; replace hx1213_0 := (HB.out.cell (jG w _ hx1213_0)).trans hx1213_0; replace p1213 := eq_true p1213; replace q1213 := eq_true q1213) | ((with_reducible refine gate_builtin (b := .append) (xs := #[.tmp 17, .tmp 22]) rfl ?_); at_builtin; refine Kd.R_append (Kd.int .i64) (w0 := w) w.heap.size rfl (.tmp 17) (.tmp 22) 24 2 (.int .i64 0) 8 rfl Tryd.underlying24 info2 rfl (by decide) (by omega) u5 x5_1 (rd l0 x6_1) [.int .i64 (rd l0 x6_1)] (fun _ => True) (fun _ => False) rfl rfl ?aP (fun _ hk => hk.elim) ?aF ?aO ?aB ?aS ?aL ?_; (case aP => exact rfl); (case aB => exact (zQ HB.out)); (case aF => exact (fun _ _ => trivial)); (case aO => exact (zP HO_5.out)); (case aS => exact (kP (zQ HB.out))); (case aL => have := LMc9.out; omega); intro v1215 w10 ho hb hg hat; rw [← Ny1214.out] at ho; replace HB := zA (hb); have HO1216 := zA (ho); clear HO_5; clear ho hb hg hat))
       go_roundg k1
       case measure => have := HK1.out; omega
       case rel => exact ⟨(y1214), (wrap64 (x6_1 + 1)), zs, H', ⟨by have := HK1.out; omega⟩, ⟨zP HO1216.out⟩, ⟨zQ HB.out⟩⟩
      rw [if_neg c9] at H
      exact absurd H (by simp)
     rw [if_neg c8] at H
     exact absurd H (by simp)
    replace c7 := Bool.eq_false_iff.mpr c7
    subst c7
    rw [if_neg (show ¬ (false = true) by decide)] at H
    have H' := zA H
    clear H
    go_wp2_with (first | (refine zO (some 16) Tryd.func66 #[.int .i64 a1, .int .i64 x6_1] ?_; (with_reducible refine (spec_l01Bit.calls a1 x6_1 false _ A6.out).mono ?_); rintro e w' ⟨rfl, ⟨nd, rfl⟩⟩; refine ⟨_, rfl, ?_⟩))
    go_roundg k1
    case measure => have := HK1.out; omega
    case rel => exact ⟨(x5_1), (wrap64 (x6_1 + 1)), zs, H', ⟨by have := HK1.out; omega⟩, ⟨zP HO_5.out⟩, ⟨zQ HB.out⟩⟩
   rw [if_neg c5] at H
   have c5b0 : decide (x6_1 < (l0.length : Int)) = false := decide_eq_false c5
   clear c5
   obtain rfl := Option.some.inj H
   go_wp2
   go_ret
   exact ⟨_, zr, zP HO_5.out, zQ HB.out⟩
end Go.Proofs.YtkiacoilecdepaaDoor.PAll
