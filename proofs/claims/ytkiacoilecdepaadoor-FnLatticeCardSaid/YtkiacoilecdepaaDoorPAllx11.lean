import Derived.Test.YtkiacoilecdepaaDoorPAllx0
import Derived.Test.YtkiacoilecdepaaDoorPAllx4
namespace Go.Proofs.YtkiacoilecdepaaDoor.PAll
open Go.RowKit Go.Proofs.YtkiacoilecdepaaDoor.T Go.Proofs.YtkiacoilecdepaaDoorW.PrintWords Go.Proofs.YtkiacoilecdepaaDoorW.PrintLast Go.Proofs.YtkiacoilecdepaaDoorW.PrintMore
attribute [local go_sem] max2_int min2_int max_two min_two max_three min_three max_four min_four   -- for this text's walks alone
set_option linter.unusedVariables false
set_option linter.unusedSimpArgs false
mutual
def spec_l05Independent.l0 : Nat → List Int → List Int → Int → Int → List Int → Option (Bool)
 | 0, _, _, _, _, _ => none
 | k + 1, x1, x2, x7, x592000, x592001 => if x7 < (x1.length : Int) then (spec_l05Independent.l1 k x1 x2 x7 0 x592000 x592001) else (some true)
def spec_l05Independent.l1 : Nat → List Int → List Int → Int → Int → Int → List Int → Option (Bool)
 | 0, _, _, _, _, _, _ => none
 | k + 1, x1, x2, x7, x8, x592000, x592001 => if x8 < (x2.length : Int) then (if 0 ≤ x7 then (if x7 < (x1.length : Int) then (if 0 ≤ x8 then ((spec_l02Dep.f x592000 x592001 (rd x1 x7) (rd x2 x8)).bind fun t594 => (if t594 = true then (some false) else (spec_l05Independent.l1 k x1 x2 x7 (wrap64 (x8 + 1)) x592000 x592001))) else (none)) else (none)) else (none)) else (spec_l05Independent.l0 k x1 x2 (wrap64 (x7 + 1)) x592000 x592001)
end
def spec_l05Independent.f (k : Nat) (a0_0 : Int) (l0_1 : List Int) (l1 : List Int) (l2 : List Int) : Option (Bool) := spec_l05Independent.l0 k l1 l2 0 a0_0 l0_1
def spec_l05Independent.T7 : Bool × List (List Nat × List Nat) := (true, [([], []), ([], []), ([], []), ([1, 2], [1, 2]), ([3], [3]), ([], []), ([], []), ([5, 6], [5, 6]), ([7], [7]), ([0, 4, 8], [0, 4, 8])])
def spec_l05Independent.B7 : List Nat := [0, 0, 0, 6, 14, 0, 0, 96, 224, 511]
theorem spec_l05Independent.tab7 : rtab .any (opsOf Tryd.f67 7) = spec_l05Independent.T7 := by kernel_rfl
theorem spec_l05Independent.bits7 : waitsOk spec_l05Independent.T7.2 spec_l05Independent.B7 = true := by kernel_rfl
set_option maxHeartbeats 8000000 in
set_option maxRecDepth 100000 in
theorem spec_l05Independent.calls (k : Nat) (a0_0 : Int) (A0_1 : Option Addr) (c0_1 : Nat) (l0_1 : List Int) (A1 : Option Addr) (c1 : Nat) (l1 : List Int) (A2 : Option Addr) (c2 : Nat) (l2 : List Int) (r : Bool) (w : World) (hr0_1 : Kd.C (Kd.int .i64) w A0_1 l0_1.length l0_1) (hc0_1 : l0_1.length ≤ c0_1) (hr1 : Kd.C (Kd.int .i64) w A1 l1.length l1) (hc1 : l1.length ≤ c1) (hr2 : Kd.C (Kd.int .i64) w A2 l2.length l2) (hc2 : l2.length ≤ c2) (h : spec_l05Independent.f k a0_0 l0_1 l1 l2 = some r) :
  Calls Tryd.prog 67 #[.agg #[.int .i64 a0_0, .slice A0_1 l0_1.length c0_1], .slice A1 l1.length c1, .slice A2 l2.length c2] w fun e w' => e = .returned (.bool r) ∧ Below w.heap.size w w' := by
 have hu26 := Tryd.underlying26
 have HR0_1 := zA hr0_1
 have HC0_1 := zA hc0_1
 clear hr0_1 hc0_1
 have HR1 := zA hr1
 have HC1 := zA hc1
 clear hr1 hc1
 have HR2 := zA hr2
 have HC2 := zA hc2
 clear hr2 hc2
 have HB := zA (kW w.heap.size w)
 have H := h
 unfold spec_l05Independent.f at H
 clear h
 have H' := zA H
 clear H
 go_enter Tryd.func67, Tryd.ntmps67
 go_wp2_with (first | (refine zBE 3 #[.int .i64 a0_0, .slice A0_1 l0_1.length c0_1] 26 ?_; intro gb591 hg w4 hbox hb; have BK591 := zA (hbox); have GW591 := zA (zBH hg HB.out); have GE591 := zA (zBH hg HB.out); replace HB := zA (kQ (zQ HB.out) hb); clear hb hbox hg))
 go_loopg [7] k (fun kq v7 w' => ∃ (x7_1 : Int), v7 = .int .i64 x7_1 ∧ Aside0 (spec_l05Independent.l0 kq l1 l2 x7_1 a0_0 l0_1 = some r) ∧ Aside0 (kq ≤ k) ∧ Aside0 (w'.heap[gb591]? = some (.cells #[.int .i64 a0_0, (.slice A0_1 l0_1.length c0_1)] 26 (0, 0))) ∧ Aside0 (Below w.heap.size w w'))
 case atStart => exact ⟨(0), zs, H', ⟨Nat.le_refl _⟩, ⟨zR BK591.out⟩, ⟨zT HB.out GE591.out⟩⟩
 case round =>
  clear H'
  try clear c1
  try clear c2
  obtain ⟨x7_1, rfl, HA, HK1, BK591, HB⟩ := hrel
  cases gk with
  | zero => exact absurd HA.out (by simp [spec_l05Independent.l0])
  | succ k1 =>
   have H := HA.out
   clear HA
   simp only [spec_l05Independent.l0] at H
   by_cases c5 : x7_1 < (l1.length : Int)
   ·rw [if_pos c5] at H
    have c5b0 : decide (x7_1 < (l1.length : Int)) = true := decide_eq_true c5
    clear c5
    have H' := zA H
    clear H
    go_wp2
    go_loopg [8] k1 (fun kq v8 w' => ∃ (x8_2 : Int), v8 = .int .i64 x8_2 ∧ Aside0 (spec_l05Independent.l1 kq l1 l2 x7_1 x8_2 a0_0 l0_1 = some r) ∧ Aside0 (kq ≤ k1) ∧ Aside0 (w'.heap[gb591]? = some (.cells #[.int .i64 a0_0, (.slice A0_1 l0_1.length c0_1)] 26 (0, 0))) ∧ Aside0 (Below w.heap.size w w'))
    case atStart => exact ⟨(0), zs, H', ⟨Nat.le_refl _⟩, ⟨zR BK591.out⟩, ⟨zT HB.out GE591.out⟩⟩
    case round =>
     clear H'
     try clear c1
     try clear c2
     try clear c5
     obtain ⟨x8_2, rfl, HA, HK2, BK591, HB⟩ := hrel
     cases gk with
     | zero => exact absurd HA.out (by simp [spec_l05Independent.l1])
     | succ k2 =>
      have H := HA.out
      clear HA
      simp only [spec_l05Independent.l1] at H
      by_cases c6 : x8_2 < (l2.length : Int)
      ·rw [if_pos c6] at H
       have c6b0 : decide (x8_2 < (l2.length : Int)) = true := decide_eq_true c6
       clear c6
       by_cases c7 : 0 ≤ x7_1
       ·rw [if_pos c7] at H
        have c7b0 : decide (0 ≤ x7_1) = true := decide_eq_true c7
        clear c7
        by_cases c8 : x7_1 < (l1.length : Int)
        ·rw [if_pos c8] at H
         have c8b0 : decide (x7_1 < (l1.length : Int)) = true := decide_eq_true c8
         clear c8
         by_cases c9 : 0 ≤ x8_2
         ·rw [if_pos c9] at H
          have c9b0 : decide (0 ≤ x8_2) = true := decide_eq_true c9
          clear c9
          obtain ⟨t594, A10, H⟩ := zb H
          try dsimp only at H
          by_cases c11 : t594 = true
          ·subst c11
           rw [if_pos rfl] at H
           obtain rfl := Option.some.inj H
           try go_wp2
           replace BK591 := zA (zK BK591.out)
           replace HB := zA (zD HB.out)
           have p592 : 0 ≤ (x7_1 : Int) := zd
           have q592 : x7_1 < (l1.length : Int) := zd
           obtain ⟨ad592, e592, hx592_0⟩ := Kd.at_int HR1.out x7_1 p592 q592
           have hw592_0 := hx592_0
           cases e592
           replace hx592_0 := (HB.out.cell (jG w _ hx592_0)).trans hx592_0
           replace p592 := eq_true p592
           replace q592 := eq_true q592
           have p593 : 0 ≤ (x8_2 : Int) := zd
           have q593 : x8_2 < (l2.length : Int) := zd
           obtain ⟨ad593, e593, hx593_0⟩ := Kd.at_int HR2.out x8_2 p593 q593
           have hw593_0 := hx593_0
           cases e593
           replace hx593_0 := (HB.out.cell (jG w _ hx593_0)).trans hx593_0
           replace p593 := eq_true p593
           replace q593 := eq_true q593
           refine start_ (n := 10) (S := fun w' => w'.cell? ⟨gb591, 0, none⟩ = some (.int .i64 a0_0) ∧ w'.cell? ⟨gb591, 1, none⟩ = some (.slice A0_1 l0_1.length c0_1) ∧ w'.cell? (ad592.add (x7_1).toNat) = some (.int .i64 (rd l1 x7_1)) ∧ w'.cell? (ad593.add (x8_2).toNat) = some (.int .i64 (rd l2 x8_2))) (ds := []) #[false, false, false, false, false, false, false, false, false, false] (by kernel_rfl) rfl rfl ⟨(kV BK591.out 0).trans rfl, (kV BK591.out 1).trans rfl, (pw_cell_below HB.out hw592_0), (pw_cell_below HB.out hw593_0)⟩ (fun hHeld => ?_); refine with_tabW spec_l05Independent.tab7 spec_l05Independent.bits7 (fun HT_ HW_ => ?_)
           generalize wr.drew = w12 at BK591 HB hx592_0 hx593_0 hHeld ⊢
           refine zp 1 (some 22) #[false, true, false, false, false, false, false, false, false, false] HT_.out ?_
           refine zp 2 (some 23) #[false, true, true, false, false, false, false, false, false, false] HT_.out ?_
           refine zp 3 (some 24) #[false, true, true, true, false, false, false, false, false, false] HT_.out ?_
           refine zp 5 (some 26) #[false, true, true, true, false, true, false, false, false, false] HT_.out ?_
           refine zp 6 (some 27) #[false, true, true, true, false, true, true, false, false, false] HT_.out ?_
           refine zp 7 (some 28) #[false, true, true, true, false, true, true, true, false, false] HT_.out ?_
           refine zf 0 (some 21) #[true, true, true, true, false, true, true, true, false, false] HT_.out HW_.out hHeld ?_
           refine zf 4 (some 25) #[true, true, true, true, true, true, true, true, false, false] HT_.out HW_.out hHeld ?_
           refine zf 8 (some 29) #[true, true, true, true, true, true, true, true, true, false] HT_.out HW_.out hHeld ?_
           refine one_ (i := 9) (N := some 30) #[true, true, true, true, true, true, true, true, true, true] rfl rfl (one_of HT_.out (by kernel_rfl)) (by decide) (fun K hK => ?_)
           refine goes_ Tryd.func108 (by kernel_rfl) rfl #[.agg #[.int .i64 a0_0, .slice A0_1 l0_1.length c0_1], .int .i64 (rd l1 x7_1), .int .i64 (rd l2 x8_2)] (by rfl) rfl rfl zg ?_
           with_reducible refine (spec_l02Dep.calls a0_0 _ _ l0_1 (rd l1 x7_1) (rd l2 x8_2) true _ ?side1 ?side2 A10.out).mono ?_
           (case side1 => exact zS (kO HR0_1.out HB.out))
           (case side2 => exact HC0_1.out)
           rintro e w13 ⟨rfl, hb⟩
           refine ⟨_, rfl, ?_⟩
           replace BK591 := zA (zB1 BK591.out hb)
           replace HB := zA (kQ (zT HB.out GE591.out) hb)
           (try clear hb)
           (try clear hb2)
           (try clear hk)
           (try clear hi)
           (try clear hgw)
           refine hK.out _ _ ⟨(kV BK591.out 0).trans rfl, (kV BK591.out 1).trans rfl, (pw_cell_below HB.out hw592_0), (pw_cell_below HB.out hw593_0)⟩ (fun hHeld => ?_)
           clear hK K
           refine norm_ (a' := ?_) ?_ ?_
           rotate_left
           ·show Act.put _ (some 30) _ = _
            simp only [Act.put, zL, zM, zN, i64_w, i32_w]
            rfl
           refine done_ (done_of HT_.out (by kernel_rfl)) ?_
           try go_wp2
           go_ret
           exact ⟨zr, zT HB.out GE591.out⟩
          replace c11 := Bool.eq_false_iff.mpr c11
          subst c11
          rw [if_neg (show ¬ (false = true) by decide)] at H
          have H' := zA H
          clear H
          try go_wp2
          replace BK591 := zA (zK BK591.out)
          replace HB := zA (zD HB.out)
          have p592 : 0 ≤ (x7_1 : Int) := zd
          have q592 : x7_1 < (l1.length : Int) := zd
          obtain ⟨ad592, e592, hx592_0⟩ := Kd.at_int HR1.out x7_1 p592 q592
          have hw592_0 := hx592_0
          cases e592
          replace hx592_0 := (HB.out.cell (jG w _ hx592_0)).trans hx592_0
          replace p592 := eq_true p592
          replace q592 := eq_true q592
          have p593 : 0 ≤ (x8_2 : Int) := zd
          have q593 : x8_2 < (l2.length : Int) := zd
          obtain ⟨ad593, e593, hx593_0⟩ := Kd.at_int HR2.out x8_2 p593 q593
          have hw593_0 := hx593_0
          cases e593
          replace hx593_0 := (HB.out.cell (jG w _ hx593_0)).trans hx593_0
          replace p593 := eq_true p593
          replace q593 := eq_true q593
          refine start_ (n := 10) (S := fun w' => w'.cell? ⟨gb591, 0, none⟩ = some (.int .i64 a0_0) ∧ w'.cell? ⟨gb591, 1, none⟩ = some (.slice A0_1 l0_1.length c0_1) ∧ w'.cell? (ad592.add (x7_1).toNat) = some (.int .i64 (rd l1 x7_1)) ∧ w'.cell? (ad593.add (x8_2).toNat) = some (.int .i64 (rd l2 x8_2))) (ds := []) #[false, false, false, false, false, false, false, false, false, false] (by kernel_rfl) rfl rfl ⟨(kV BK591.out 0).trans rfl, (kV BK591.out 1).trans rfl, (pw_cell_below HB.out hw592_0), (pw_cell_below HB.out hw593_0)⟩ (fun hHeld => ?_); refine with_tabW spec_l05Independent.tab7 spec_l05Independent.bits7 (fun HT_ HW_ => ?_)
          generalize wr.drew = w14 at BK591 HB hx592_0 hx593_0 hHeld ⊢
          refine zp 1 (some 22) #[false, true, false, false, false, false, false, false, false, false] HT_.out ?_
          refine zp 2 (some 23) #[false, true, true, false, false, false, false, false, false, false] HT_.out ?_
          refine zp 3 (some 24) #[false, true, true, true, false, false, false, false, false, false] HT_.out ?_
          refine zp 5 (some 26) #[false, true, true, true, false, true, false, false, false, false] HT_.out ?_
          refine zp 6 (some 27) #[false, true, true, true, false, true, true, false, false, false] HT_.out ?_
          refine zp 7 (some 28) #[false, true, true, true, false, true, true, true, false, false] HT_.out ?_
          refine zf 0 (some 21) #[true, true, true, true, false, true, true, true, false, false] HT_.out HW_.out hHeld ?_
          refine zf 4 (some 25) #[true, true, true, true, true, true, true, true, false, false] HT_.out HW_.out hHeld ?_
          refine zf 8 (some 29) #[true, true, true, true, true, true, true, true, true, false] HT_.out HW_.out hHeld ?_
          refine one_ (i := 9) (N := some 30) #[true, true, true, true, true, true, true, true, true, true] rfl rfl (one_of HT_.out (by kernel_rfl)) (by decide) (fun K hK => ?_)
          refine goes_ Tryd.func108 (by kernel_rfl) rfl #[.agg #[.int .i64 a0_0, .slice A0_1 l0_1.length c0_1], .int .i64 (rd l1 x7_1), .int .i64 (rd l2 x8_2)] (by rfl) rfl rfl zg ?_
          with_reducible refine (spec_l02Dep.calls a0_0 _ _ l0_1 (rd l1 x7_1) (rd l2 x8_2) false _ ?side1 ?side2 A10.out).mono ?_
          (case side1 => exact zS (kO HR0_1.out HB.out))
          (case side2 => exact HC0_1.out)
          rintro e w15 ⟨rfl, hb⟩
          refine ⟨_, rfl, ?_⟩
          replace BK591 := zA (zB1 BK591.out hb)
          replace HB := zA (kQ (zT HB.out GE591.out) hb)
          (try clear hb)
          (try clear hb2)
          (try clear hk)
          (try clear hi)
          (try clear hgw)
          refine hK.out _ _ ⟨(kV BK591.out 0).trans rfl, (kV BK591.out 1).trans rfl, (pw_cell_below HB.out hw592_0), (pw_cell_below HB.out hw593_0)⟩ (fun hHeld => ?_)
          clear hK K
          refine norm_ (a' := ?_) ?_ ?_
          rotate_left
          ·show Act.put _ (some 30) _ = _
           simp only [Act.put, zL, zM, zN, i64_w, i32_w]
           rfl
          refine done_ (done_of HT_.out (by kernel_rfl)) ?_
          try go_wp2
          go_roundg k2
          case measure => have := HK1.out; have := HK2.out; omega
          case rel => exact ⟨(wrap64 (x8_2 + 1)), zs, H', ⟨by have := HK1.out; have := HK2.out; omega⟩, ⟨zR BK591.out⟩, ⟨zT HB.out GE591.out⟩⟩
         rw [if_neg c9] at H
         exact absurd H (by simp)
        rw [if_neg c8] at H
        exact absurd H (by simp)
       rw [if_neg c7] at H
       exact absurd H (by simp)
      rw [if_neg c6] at H
      have c6b0 : decide (x8_2 < (l2.length : Int)) = false := decide_eq_false c6
      clear c6
      have H' := zA H
      clear H
      go_wp2
      go_roundg k2
      case measure => have := HK1.out; have := HK2.out; omega
      case rel => exact ⟨(wrap64 (x7_1 + 1)), zs, H', ⟨by have := HK1.out; have := HK2.out; omega⟩, ⟨zR BK591.out⟩, ⟨zT HB.out GE591.out⟩⟩
   rw [if_neg c5] at H
   have c5b0 : decide (x7_1 < (l1.length : Int)) = false := decide_eq_false c5
   clear c5
   obtain rfl := Option.some.inj H
   go_wp2
   go_ret
   exact ⟨zr, zT HB.out GE591.out⟩
end Go.Proofs.YtkiacoilecdepaaDoor.PAll
