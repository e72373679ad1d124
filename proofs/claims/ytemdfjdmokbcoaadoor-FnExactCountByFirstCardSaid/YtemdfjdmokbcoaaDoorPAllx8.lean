-- Printed by a program of the session (wip/tools/pgen.py) out of the translation. Not trusted: Lean checks it.
import Derived.Test.YtemdfjdmokbcoaaDoorPAllx0
import Derived.Test.YtemdfjdmokbcoaaDoorPAllx1
import Derived.Test.YtemdfjdmokbcoaaDoorPAllx3
import Derived.Test.YtemdfjdmokbcoaaDoorPAllx4
import Derived.Test.YtemdfjdmokbcoaaDoorPAllx7
namespace Go.Proofs.YtemdfjdmokbcoaaDoor.PAll
open Go.RowKit Go.Proofs.YtemdfjdmokbcoaaDoor.T Go.Proofs.YtemdfjdmokbcoaaDoorW.PrintWords Go.Proofs.YtemdfjdmokbcoaaDoorW.PrintLast Go.Proofs.YtemdfjdmokbcoaaDoorW.PrintMore
attribute [local go_sem] max2_int min2_int max_two min_two max_three min_three max_four min_four   -- for this text's walks alone
set_option linter.unusedVariables false
set_option linter.unusedSimpArgs false

/-! ### impl_complement: function 63 -/
def impl_complement.l0 : Nat → List Int → Int → Int → Int → List Int → Int → List Int → Option (Int × List Int)
 | 0, _, _, _, _, _, _, _ => none
 | k + 1, x10, x11, x12, x436000, x436001, x438000, x438001 => if x12 < x11 then (if 0 ≤ x12 then (if x12 < (x10.length : Int) then ((impl_allLetters.f x436000 x436001).bind fun t439 => ((impl_one.f x12).bind fun t440 => (if x438001.length < 17592186044416 then (impl_complement.l0 k x10 x11 (wrap64 (x12 + 1)) x436000 x436001 x438000 (x438001 ++ [Go.bits .or .i64 (Go.bits .andNot .i64 t439 (rd x10 x12)) t440])) else (none)))) else (none)) else (none)) else (some (x438000, x438001))
def impl_complement.f (k : Nat) (a0_0 : Int) (l0_1 : List Int) : Option (Int × List Int) := impl_complement.l0 k l0_1 (l0_1.length : Int) 0 a0_0 l0_1 a0_0 ([] : List Int)

def impl_complement.T5 : Bool × List (List Nat × List Nat) := (true, [([], []), ([0], [0]), ([], []), ([2], [2]), ([], []), ([3, 4], [3, 4]), ([], []), ([6, 3], [6]), ([5, 7], [5, 7]), ([8], [8]), ([1, 9, 7], [1, 9]), ([0, 1, 2, 3, 4, 5, 6, 7, 8, 9, 10], []), ([11, 10, 10, 0, 1, 2, 3, 4, 5, 6, 7, 8, 9, 10], [10, 11])])
def impl_complement.B5 : List Nat := [0, 1, 0, 4, 0, 28, 0, 76, 252, 508, 1023, 2047, 4095]
theorem impl_complement.tab5 : rtab .any (opsOf Tryd.f63 5) = impl_complement.T5 := by kernel_rfl
theorem impl_complement.bits5 : waitsOk impl_complement.T5.2 impl_complement.B5 = true := by kernel_rfl
set_option maxHeartbeats 8000000 in
set_option maxRecDepth 100000 in
theorem impl_complement.calls (k : Nat) (a0_0 : Int) (A0_1 : Option Addr) (c0_1 : Nat) (l0_1 : List Int) (r1 : Int) (r2 : List Int) (w : World) (hr0_1 : Kd.C (Kd.int .i64) w A0_1 l0_1.length l0_1) (hc0_1 : l0_1.length ≤ c0_1) (h : impl_complement.f k a0_0 l0_1 = some (r1, r2)) :
  Calls Tryd.prog 63 #[.agg #[.int .i64 a0_0, .slice A0_1 l0_1.length c0_1]] w fun e w' => ∃ v1_ : Value, e = .returned (.agg #[.int .i64 r1, v1_]) ∧ Kd.R (Kd.int .i64) 2 w' w.heap.size (fun _ => True) v1_ r2 ∧ Below w.heap.size w w' := by
 have hu29 := Tryd.underlying29
 have HR0_1 := zA hr0_1
 have HC0_1 := zA hc0_1
 clear hr0_1 hc0_1
 have HB := zA (kW w.heap.size w)
 have H := h
 unfold impl_complement.f at H
 clear h
 have H' := zA H
 clear H
 go_enter Tryd.func63, Tryd.ntmps63
 go_wp2_with (first | (refine zBE 1 #[.int .i64 a0_0, .slice A0_1 l0_1.length c0_1] 29 ?_; intro gb435 hg w2 hbox hb; have BK435 := zA (hbox); have GW435 := zA (zBH hg HB.out); have GE435 := zA (zBH hg HB.out); replace HB := zA (kQ (zQ HB.out) hb); clear hb hbox hg) | (refine zBE 2 #[.int .i64 0, .slice none 0 0] 29 ?_; intro gb436 hg w3 hbox hb; have BK436 := zA (hbox); have GW436 := zA (zB6 hg (kP (zT HB.out GE435.out)) : w.heap.size ≤ gb436); have GE436 := zA (zB6 hg (kP (zT HB.out GE435.out)) : w.heap.size ≤ gb436); replace HB := zA (kQ (zT HB.out GE435.out) hb); have NB435_436 := zA (zB4 hg BK435.out : gb435 ≠ gb436); have NB436_435 := zA (zB5 hg BK435.out : gb436 ≠ gb435); replace BK435 := zA (zB1 BK435.out hb); clear hb hbox hg; have hnb4 := NB435_436.out; have hnc4 := NB436_435.out; obtain ⟨hcz5_0, hcz5_1, hfz5_0, hfz5_1⟩ := zB3 BK435.out) | (refine zBE 3 #[.int .i64 0, .slice none 0 0] 29 ?_; intro gb437 hg w6 hbox hb; have BK437 := zA (hbox); have GW437 := zA (zB6 hg (kP (zV HB.out GE435.out GE436.out)) : w.heap.size ≤ gb437); have GE437 := zA (zB6 hg (kP (zV HB.out GE435.out GE436.out)) : w.heap.size ≤ gb437); replace HB := zA (kQ (zV HB.out GE435.out GE436.out) hb); have NB435_437 := zA (zB4 hg BK435.out : gb435 ≠ gb437); have NB437_435 := zA (zB5 hg BK435.out : gb437 ≠ gb435); replace BK435 := zA (zB1 BK435.out hb); have NB436_437 := zA (zB4 hg BK436.out : gb436 ≠ gb437); have NB437_436 := zA (zB5 hg BK436.out : gb437 ≠ gb436); replace BK436 := zA (zB1 BK436.out hb); clear hb hbox hg; have hnb7 := NB437_435.out; have hnc7 := NB435_437.out; have hnb8 := NB437_436.out; have hnc8 := NB436_437.out; obtain ⟨hcz9_0, hcz9_1, hfz9_0, hfz9_1⟩ := zB3 BK437.out; obtain ⟨hcz10_0, hcz10_1, hfz10_0, hfz10_1⟩ := zB3 BK435.out))
 go_loopg [12] k (fun kq v12 w' => ∃ (x12_1 : Int) (x438001_1 : List Int) (u438001 : Value), v12 = .int .i64 x12_1 ∧ Aside0 (impl_complement.l0 kq l0_1 (l0_1.length : Int) x12_1 a0_0 l0_1 a0_0 x438001_1 = some (r1, r2)) ∧ Aside0 (kq ≤ k) ∧ Aside0 (Kd.R (Kd.int .i64) 2 w' w.heap.size (fun _ => True) u438001 x438001_1) ∧ Aside0 (w'.heap[gb435]? = some (.cells #[.int .i64 a0_0, (.slice A0_1 l0_1.length c0_1)] 29 (0, 0))) ∧ Aside0 (w'.heap[gb436]? = some (.cells #[.int .i64 0, (.slice none 0 0)] 29 (0, 0))) ∧ Aside0 (w'.heap[gb437]? = some (.cells #[.int .i64 a0_0, u438001] 29 (0, 0))) ∧ Aside0 (Below w.heap.size w w'))
 case atStart => exact ⟨(0), (([] : List Int)), (.slice none 0 0), zs, H', ⟨Nat.le_refl _⟩, ⟨zn⟩, ⟨by (with_reducible repeat (first | refine zJ ?_ _ | refine zK ?_ | refine zI ?_ _)); refine blk_far ?_ NB435_437.out _; (with_reducible repeat (first | refine zJ ?_ _ | refine zK ?_ | refine zI ?_ _)); refine blk_far ?_ NB435_437.out _; (with_reducible repeat (first | refine zJ ?_ _ | refine zK ?_ | refine zI ?_ _)); exact BK435.out⟩, ⟨by (with_reducible repeat (first | refine zJ ?_ _ | refine zK ?_ | refine zI ?_ _)); refine blk_far ?_ NB436_437.out _; (with_reducible repeat (first | refine zJ ?_ _ | refine zK ?_ | refine zI ?_ _)); refine blk_far ?_ NB436_437.out _; (with_reducible repeat (first | refine zJ ?_ _ | refine zK ?_ | refine zI ?_ _)); exact BK436.out⟩, ⟨by (with_reducible repeat (first | refine zJ ?_ _ | refine zK ?_ | refine zI ?_ _)); refine blk_put (cs := #[.int .i64 a0_0, .slice none 0 0]) ?_ 1 _ rfl; (with_reducible repeat (first | refine zJ ?_ _ | refine zK ?_ | refine zI ?_ _)); refine blk_put (cs := #[.int .i64 0, .slice none 0 0]) ?_ 0 _ rfl; (with_reducible repeat (first | refine zJ ?_ _ | refine zK ?_ | refine zI ?_ _)); exact BK437.out⟩, ⟨zW HB.out GE435.out GE436.out GE437.out⟩⟩
 case round =>
  clear H'
  try clear c4
  try clear c6
  try clear c7
  try clear c8
  try clear hcz10_0
  try clear hcz10_1
  try clear hcz5_0
  try clear hcz5_1
  try clear hcz9_0
  try clear hcz9_1
  try clear hfz10_0
  try clear hfz10_1
  try clear hfz5_0
  try clear hfz5_1
  try clear hfz9_0
  try clear hfz9_1
  obtain ⟨x12_1, x438001_1, u438001, rfl, HA, HK1, HO_438001, BK435, BK436, BK437, HB⟩ := hrel
  cases gk with
  | zero => exact absurd HA.out (by simp [impl_complement.l0])
  | succ k1 =>
   have H := HA.out
   clear HA
   simp only [impl_complement.l0] at H
   by_cases c11 : x12_1 < (l0_1.length : Int)
   ·rw [if_pos c11] at H
    have c11b0 : decide (x12_1 < (l0_1.length : Int)) = true := decide_eq_true c11
    clear c11
    by_cases c12 : 0 ≤ x12_1
    ·rw [if_pos c12] at H
     have c12b0 : decide (0 ≤ x12_1) = true := decide_eq_true c12
     clear c12
     by_cases c13 : x12_1 < (l0_1.length : Int)
     ·rw [if_pos c13] at H
      have c13b0 : decide (x12_1 < (l0_1.length : Int)) = true := decide_eq_true c13
      clear c13
      obtain ⟨t439, A14, H⟩ := zb H
      try dsimp only at H
      obtain ⟨t440, A15, H⟩ := zb H
      try dsimp only at H
      by_cases c16 : x438001_1.length < 17592186044416
      ·rw [if_pos c16] at H
       have LMc16 := zA c16
       clear c16
       obtain ⟨y441, hy441⟩ : ∃ y_ : List Int, y_ = (x438001_1 ++ [Go.bits .or .i64 (Go.bits .andNot .i64 t439 (rd l0_1 x12_1)) t440]) := ⟨_, rfl⟩
       replace H : (impl_complement.l0 k1 l0_1 (l0_1.length : Int) (wrap64 (x12_1 + 1)) a0_0 l0_1 a0_0 y441) = some (r1, r2) := zy hy441 H
       have Ny441 := zA hy441
       clear hy441
       have H' := zA H
       clear H
       have p438 : 0 ≤ (x12_1 : Int) := zd
       have q438 : x12_1 < (l0_1.length : Int) := zd
       obtain ⟨ad438, e438, hx438_0⟩ := Kd.at_int HR0_1.out x12_1 p438 q438
       cases e438
       replace hx438_0 := (HB.out.cell (jG w _ hx438_0)).trans hx438_0
       replace p438 := eq_true p438
       replace q438 := eq_true q438
       try go_wp2
       replace HO_438001 := zA (zH HO_438001.out)
       replace BK435 := zA (zK BK435.out)
       replace BK436 := zA (zK BK436.out)
       replace BK437 := zA (zK BK437.out)
       replace HB := zA (zD HB.out)
       refine start_ (n := 13) (S := fun w' => w'.cell? ⟨gb437, 0, none⟩ = some (.int .i64 a0_0) ∧ w'.cell? ⟨gb437, 1, none⟩ = some (u438001) ∧ w'.cell? ⟨gb435, 0, none⟩ = some (.int .i64 a0_0) ∧ w'.cell? ⟨gb435, 1, none⟩ = some (.slice (some ad438) l0_1.length c0_1)) (ds := [12]) #[false, false, false, false, false, false, false, false, false, false, false, false, false] (by kernel_rfl) rfl rfl ⟨(kV BK437.out 0).trans rfl, (kV BK437.out 1).trans rfl, (kV BK435.out 0).trans rfl, (kV BK435.out 1).trans rfl⟩ (fun hHeld => ?_); refine with_tabW impl_complement.tab5 impl_complement.bits5 (fun HT_ HW_ => ?_)
       generalize wr.drew = w17 at HO_438001 BK435 BK436 BK437 HB hHeld ⊢
       refine zp 0 (some 17) #[true, false, false, false, false, false, false, false, false, false, false, false, false] HT_.out ?_
       refine zp 4 (some 21) #[true, false, false, false, true, false, false, false, false, false, false, false, false] HT_.out ?_
       refine zp 6 (some 23) #[true, false, false, false, true, false, true, false, false, false, false, false, false] HT_.out ?_
       refine zf 1 (some 18) #[true, true, false, false, true, false, true, false, false, false, false, false, false] HT_.out HW_.out hHeld ?_
       refine zf 2 (some 19) #[true, true, true, false, true, false, true, false, false, false, false, false, false] HT_.out HW_.out hHeld ?_
       refine one_ (i := 3) (N := some 20) #[true, true, true, true, true, false, true, false, false, false, false, false, false] rfl rfl (one_of HT_.out (by kernel_rfl)) (by decide) (fun K hK => ?_)
       refine goes_ Tryd.func73 (by kernel_rfl) rfl #[.agg #[.int .i64 a0_0, .slice (some ad438) l0_1.length c0_1]] (by rfl) rfl rfl zg ?_
       with_reducible refine (impl_allLetters.calls a0_0 _ _ l0_1 t439 _ ?side1 ?side2 A14.out).mono ?_
       (case side1 => exact zS (kO HR0_1.out HB.out))
       (case side2 => exact HC0_1.out)
       rintro e w18 ⟨rfl, hb⟩
       refine ⟨_, rfl, ?_⟩
       replace HO_438001 := zA (kL (zP HO_438001.out) hb)
       replace BK435 := zA (zB1 BK435.out hb)
       replace BK436 := zA (zB1 BK436.out hb)
       replace BK437 := zA (zB1 BK437.out hb)
       replace HB := zA (kQ (zW HB.out GE435.out GE436.out GE437.out) hb)
       (try clear hb)
       (try clear hb2)
       (try clear hk)
       (try clear hi)
       (try clear hgw)
       refine hK.out _ _ ⟨(kV BK437.out 0).trans rfl, (kV BK437.out 1).trans rfl, (kV BK435.out 0).trans rfl, (kV BK435.out 1).trans rfl⟩ (fun hHeld => ?_)
       clear hK K
       refine norm_ (a' := ?_) ?_ ?_
       rotate_left
       ·show Act.put _ (some 20) _ = _
        simp only [Act.put, zL, zM, zN, i64_w, i32_w]
        rfl
       refine zp 5 (some 22) #[true, true, true, true, true, true, true, false, false, false, false, false, false] HT_.out ?_
       refine one_ (i := 7) (N := some 24) #[true, true, true, true, true, true, true, true, false, false, false, false, false] rfl rfl (one_of HT_.out (by kernel_rfl)) (by decide) (fun K hK => ?_)
       refine goes_ Tryd.func61 (by kernel_rfl) rfl #[.int .i64 x12_1] (by rfl) rfl rfl zg ?_
       with_reducible refine (impl_one.calls x12_1 t440 _ A15.out).mono ?_
       rintro e w' ⟨rfl, ⟨nd, rfl⟩⟩
       refine ⟨_, rfl, ?_⟩
       refine hK.out _ _ ⟨(kV BK437.out 0).trans rfl, (kV BK437.out 1).trans rfl, (kV BK435.out 0).trans rfl, (kV BK435.out 1).trans rfl⟩ (fun hHeld => ?_)
       clear hK K
       refine norm_ (a' := ?_) ?_ ?_
       rotate_left
       ·show Act.put _ (some 24) _ = _
        simp only [Act.put, zL, zM, zN, i64_w, i32_w]
        rfl
       refine zp 8 (some 25) #[true, true, true, true, true, true, true, true, true, false, false, false, false] HT_.out ?_
       refine one_ (i := 9) (N := some 26) #[true, true, true, true, true, true, true, true, true, true, false, false, false] rfl rfl (one_of HT_.out (by kernel_rfl)) (by decide) (fun K hK => ?_)
       refine value_ (w1 := ?_) (v := ?_) (by rfl) rfl ?_ ?_
       rotate_left 2
       ·go_simp
        constructor
        ·rfl
        rfl
       refine hK.out _ _ ⟨(kV (zI BK437.out _) 0).trans rfl, (kV (zI BK437.out _) 1).trans rfl, (kV (zI BK435.out _) 0).trans rfl, (kV (zI BK435.out _) 1).trans rfl⟩ (fun hHeld => ?_)
       clear hK K
       refine norm_ (a' := ?_) ?_ ?_
       rotate_left
       ·show Act.put _ (some 26) _ = _
        simp only [Act.put, zL, zM, zN, i64_w, i32_w]
        rfl
       refine one_ (i := 10) (N := some 27) #[true, true, true, true, true, true, true, true, true, true, true, false, false] rfl rfl (one_of HT_.out (by kernel_rfl)) (by decide) (fun K hK => ?_)
       refine Kd.R_append_step (Kd.int .i64) (w0 := w) w.heap.size (by rfl) (.tmp 18) (.tmp 26) 22 2 (.int .i64 0) 8 rfl Tryd.underlying22 info2 rfl (by decide) (by omega) u438001 x438001_1 (Go.bits .or .i64 (Go.bits .andNot .i64 t439 (rd l0_1 x12_1)) t440) [.int .i64 (Go.bits .or .i64 (Go.bits .andNot .i64 t439 (rd l0_1 x12_1)) t440)] (fun _ => True) (fun _ => False) rfl rfl ?aP (fun _ hk => hk.elim) ?aF ?aO ?aB ?aS ?aL ?_
       (case aP => exact rfl)
       (case aB => exact (zW HB.out GE435.out GE436.out GE437.out))
       (case aF => exact (fun _ _ => trivial))
       (case aO => exact (zP HO_438001.out))
       (case aS => exact (kP (zW HB.out GE435.out GE436.out GE437.out)))
       (case aL => have := LMc16.out; omega)
       intro v442 w19 ho hb hg hat
       rw [← Ny441.out] at ho
       replace BK435 := zA (blk_grown (g := gb435) (o := .cells #[.int .i64 a0_0, .slice (some ad438) l0_1.length c0_1] 29 (0, 0)) (zR BK435.out) hg (Kd.R_ne HO_438001.out BK435.out (by decide)))
       replace BK436 := zA (blk_grown (g := gb436) (o := .cells #[.int .i64 0, .slice none 0 0] 29 (0, 0)) (zR BK436.out) hg (Kd.R_ne HO_438001.out BK436.out (by decide)))
       replace BK437 := zA (blk_grown (g := gb437) (o := .cells #[.int .i64 a0_0, u438001] 29 (0, 0)) (zR BK437.out) hg (Kd.R_ne HO_438001.out BK437.out (by decide)))
       replace HB := zA (hb)
       have HO443 := zA (ho)
       clear HO_438001 ho hb hg hat
       obtain ⟨Ao20, co20, eo20⟩ := kM HO443.out
       (first | subst eo20 | (injection eo20 with f1_ f2_ f3_; have f4_ := f1_.symm; have f5_ := f3_.symm; clear f1_ f2_ f3_; subst f4_; subst f5_))
       refine hK.out _ _ ⟨(kV BK437.out 0).trans rfl, (kV BK437.out 1).trans rfl, (kV BK435.out 0).trans rfl, (kV BK435.out 1).trans rfl⟩ (fun hHeld => ?_)
       clear hK K
       refine norm_ (a' := ?_) ?_ ?_
       rotate_left
       ·show Act.put _ (some 27) _ = _
        simp only [Act.put, zL, zM, zN, i64_w, i32_w]
        rfl
       refine zp 11 (some 28) #[true, true, true, true, true, true, true, true, true, true, true, true, false] HT_.out ?_
       refine last_ (i := 12) (N := none) #[true, true, true, true, true, true, true, true, true, true, true, true, true] rfl rfl (one_of HT_.out (by kernel_rfl)) (by decide) (fun K hK => ?_)
       have hs21 : w19.cell? ⟨gb437, 1, none⟩ = some (u438001) := (kV BK437.out 1).trans rfl
       have hfs21 := jH BK437.out 1
       have hns21_0 := NB435_437.out
       have hns21_1 := NB436_437.out
       have hms21_0 := NB437_435.out
       have hms21_1 := NB437_436.out
       refine skip_ (w1 := ?_) (by rfl) rfl ?_ ?_
       rotate_left
       ·go_simp
        rfl
       refine hK.out _ _ ?_
       clear hK K
       refine done_ (done_of HT_.out (by kernel_rfl)) ?_
       try go_wp2
       go_roundg k1
       case measure => have := HK1.out; omega
       case rel => exact ⟨(wrap64 (x12_1 + 1)), (y441), (.slice Ao20 y441.length co20), zs, H', ⟨by have := HK1.out; omega⟩, ⟨by (with_reducible repeat (first | apply zF | apply zG | apply zH)); exact kA (kY (p := ⟨gb437, 1, none⟩) (kD HO443.out BK437.out (by decide)) (fun _ hk => hk.2) (.slice Ao20 y441.length co20)) (fun _ hk => trivial)⟩, ⟨by (with_reducible repeat (first | refine zJ ?_ _ | refine zK ?_ | refine zI ?_ _)); refine blk_far ?_ NB435_437.out _; (with_reducible repeat (first | refine zJ ?_ _ | refine zK ?_ | refine zI ?_ _)); exact BK435.out⟩, ⟨by (with_reducible repeat (first | refine zJ ?_ _ | refine zK ?_ | refine zI ?_ _)); refine blk_far ?_ NB436_437.out _; (with_reducible repeat (first | refine zJ ?_ _ | refine zK ?_ | refine zI ?_ _)); exact BK436.out⟩, ⟨by (with_reducible repeat (first | refine zJ ?_ _ | refine zK ?_ | refine zI ?_ _)); refine blk_put (cs := #[.int .i64 a0_0, u438001]) ?_ 1 _ rfl; (with_reducible repeat (first | refine zJ ?_ _ | refine zK ?_ | refine zI ?_ _)); exact BK437.out⟩, ⟨zW HB.out GE435.out GE436.out GE437.out⟩⟩
      rw [if_neg c16] at H
      exact absurd H (by simp)
     rw [if_neg c13] at H
     exact absurd H (by simp)
    rw [if_neg c12] at H
    exact absurd H (by simp)
   rw [if_neg c11] at H
   have c11b0 : decide (x12_1 < (l0_1.length : Int)) = false := decide_eq_false c11
   clear c11
   simp only [Option.some.injEq, Prod.mk.injEq] at H
   obtain ⟨rfl, rfl⟩ := H
   have hnb22 := NB437_435.out
   have hnc22 := NB435_437.out
   have hnb23 := NB437_436.out
   have hnc23 := NB436_437.out
   obtain ⟨hcz24_0, hcz24_1, hfz24_0, hfz24_1⟩ := zB3 BK437.out
   have hnb25 := NB436_435.out
   have hnc25 := NB435_436.out
   obtain ⟨hcz26_0, hcz26_1, hfz26_0, hfz26_1⟩ := zB3 BK436.out
   obtain ⟨Ao27, co27, eo27⟩ := kM HO_438001.out
   subst eo27
   go_wp2
   refine bodyPost_ret (results_cell_row rfl _ _ gb436 29 #[.int .i64 a0_0, .slice Ao27 x438001_1.length co27] (0, 0) _ rfl (zRP BK436.out) Tryd.underlying29 rfl (by kernel_rfl)) rfl ?_
   exact ⟨_, zr, by (with_reducible repeat (first | apply zF | apply zG | apply zH)); exact kA (kY (p := ⟨gb436, 1, none⟩) (kY (p := ⟨gb436, 0, none⟩) (kD HO_438001.out BK436.out (by decide)) (fun _ hk => hk.2) (.int .i64 a0_0)) (fun _ hk => hk.2) (.slice Ao27 x438001_1.length co27)) (fun _ hk => trivial), zW HB.out GE435.out GE436.out GE437.out⟩

/-! ### impl_stepsOf: function 42 -/
def impl_stepsOf.f (k : Nat) (a0_0 : Int) (l0_1 : List Int) : Option (List Int) := (impl_complement.f k a0_0 l0_1).bind fun bt445 => ((impl_cliques.f k bt445.2).bind fun bt449 => (some bt449.1))

set_option maxHeartbeats 8000000 in
set_option maxRecDepth 100000 in
theorem impl_stepsOf.calls (k : Nat) (a0_0 : Int) (A0_1 : Option Addr) (c0_1 : Nat) (l0_1 : List Int) (r : List Int) (w : World) (hr0_1 : Kd.C (Kd.int .i64) w A0_1 l0_1.length l0_1) (hc0_1 : l0_1.length ≤ c0_1) (hT : TabW w) (h : impl_stepsOf.f k a0_0 l0_1 = some r) :
  Calls Tryd.prog 42 #[.agg #[.int .i64 a0_0, .slice A0_1 l0_1.length c0_1]] w fun e w' => ∃ v0_ : Value, e = .returned (v0_) ∧ Kd.R (Kd.int .i64) 2 w' w.heap.size (fun _ => True) v0_ r ∧ Below w.heap.size w w' := by
 have hu29 := Tryd.underlying29
 have HT := zA hT
 clear hT
 have HR0_1 := zA hr0_1
 have HC0_1 := zA hc0_1
 clear hr0_1 hc0_1
 have HB := zA (kW w.heap.size w)
 have H := h
 unfold impl_stepsOf.f at H
 clear h
 obtain ⟨⟨t445, t446⟩, A2, H⟩ := zb H
 try dsimp only at H
 obtain ⟨⟨t449, t450⟩, A3, H⟩ := zb H
 try dsimp only at H
 obtain rfl := Option.some.inj H
 go_enter Tryd.func42, Tryd.ntmps42
 go_wp2_with (first | (refine zBE 1 #[.int .i64 a0_0, .slice A0_1 l0_1.length c0_1] 29 ?_; intro gb444 hg w4 hbox hb; have BK444 := zA (hbox); have GW444 := zA (zBH hg HB.out); have GE444 := zA (zBH hg HB.out); replace HB := zA (kQ (zQ HB.out) hb); clear hb hbox hg; obtain ⟨hcz5_0, hcz5_1, hfz5_0, hfz5_1⟩ := zB3 BK444.out) | (refine zO (some 7) Tryd.func63 #[.agg #[.int .i64 a0_0, .slice A0_1 l0_1.length c0_1]] ?_; (with_reducible refine (impl_complement.calls k a0_0 _ _ l0_1 t445 t446 _ ?side1 ?side2 A2.out).mono ?_); (case side1 => exact zS (kO HR0_1.out HB.out)); (case side2 => exact HC0_1.out); rintro e w6 ⟨v447, rfl, ho0, hb⟩; refine ⟨_, rfl, ?_⟩; have HO448 := zA (kI ho0 (kP (zT HB.out GE444.out))); replace BK444 := zA (zB1 BK444.out hb); replace HB := zA (kQ (zT HB.out GE444.out) hb); (try clear hb); (try clear ho0); obtain ⟨Ao7, co7, eo7⟩ := kM HO448.out; subst eo7) | (refine zO (some 9) Tryd.func62 #[.slice Ao7 t446.length co7] ?_; (with_reducible refine (impl_cliques.calls k _ _ t446 t449 t450 _ ?side1 ?side2 ?side3 A3.out).mono ?_); (case side1 => exact zS (kB HO448.out).2.2); (case side2 => exact (kB HO448.out).2.1); (case side3 => exact TabW.below HT.out (zT HB.out GE444.out)); rintro e w8 ⟨v451, rfl, ho0, hb⟩; refine ⟨_, rfl, ?_⟩; have HO452 := zA (kI (kF ho0 (kH (zP HO448.out))) (kP (zT HB.out GE444.out))); replace HO448 := zA (kE (zP HO448.out) (kC ho0) hb); replace BK444 := zA (zB1 BK444.out hb); replace HB := zA (kQ (zT HB.out GE444.out) hb); (try clear hb); (try clear ho0)))
 go_ret
 exact ⟨_, zr, by (with_reducible repeat (first | apply zF | apply zG | apply zH)); exact kA HO452.out (fun _ hk => trivial), zT HB.out GE444.out⟩

/-! ### bits_OnesCount64: function 64 -/
def bits_OnesCount64.f (a0 : Int) : Option (Int) := some (Go.bits .and .i64 (wrap64 (IntKind.u64.wrap ((IntKind.u64.wrap ((IntKind.u64.wrap ((Go.bits .and .u64 (IntKind.u64.wrap (((IntKind.u64.wrap ((Go.bits .and .u64 ((IntKind.u64.wrap ((Go.bits .and .u64 (a0 / 2) 6148914691236517205) + (Go.bits .and .u64 a0 6148914691236517205))) / 4) 3689348814741910323) + (Go.bits .and .u64 (IntKind.u64.wrap ((Go.bits .and .u64 (a0 / 2) 6148914691236517205) + (Go.bits .and .u64 a0 6148914691236517205))) 3689348814741910323))) / 16) + (IntKind.u64.wrap ((Go.bits .and .u64 ((IntKind.u64.wrap ((Go.bits .and .u64 (a0 / 2) 6148914691236517205) + (Go.bits .and .u64 a0 6148914691236517205))) / 4) 3689348814741910323) + (Go.bits .and .u64 (IntKind.u64.wrap ((Go.bits .and .u64 (a0 / 2) 6148914691236517205) + (Go.bits .and .u64 a0 6148914691236517205))) 3689348814741910323))))) 1085102592571150095) + ((Go.bits .and .u64 (IntKind.u64.wrap (((IntKind.u64.wrap ((Go.bits .and .u64 ((IntKind.u64.wrap ((Go.bits .and .u64 (a0 / 2) 6148914691236517205) + (Go.bits .and .u64 a0 6148914691236517205))) / 4) 3689348814741910323) + (Go.bits .and .u64 (IntKind.u64.wrap ((Go.bits .and .u64 (a0 / 2) 6148914691236517205) + (Go.bits .and .u64 a0 6148914691236517205))) 3689348814741910323))) / 16) + (IntKind.u64.wrap ((Go.bits .and .u64 ((IntKind.u64.wrap ((Go.bits .and .u64 (a0 / 2) 6148914691236517205) + (Go.bits .and .u64 a0 6148914691236517205))) / 4) 3689348814741910323) + (Go.bits .and .u64 (IntKind.u64.wrap ((Go.bits .and .u64 (a0 / 2) 6148914691236517205) + (Go.bits .and .u64 a0 6148914691236517205))) 3689348814741910323))))) 1085102592571150095) / 256))) + ((IntKind.u64.wrap ((Go.bits .and .u64 (IntKind.u64.wrap (((IntKind.u64.wrap ((Go.bits .and .u64 ((IntKind.u64.wrap ((Go.bits .and .u64 (a0 / 2) 6148914691236517205) + (Go.bits .and .u64 a0 6148914691236517205))) / 4) 3689348814741910323) + (Go.bits .and .u64 (IntKind.u64.wrap ((Go.bits .and .u64 (a0 / 2) 6148914691236517205) + (Go.bits .and .u64 a0 6148914691236517205))) 3689348814741910323))) / 16) + (IntKind.u64.wrap ((Go.bits .and .u64 ((IntKind.u64.wrap ((Go.bits .and .u64 (a0 / 2) 6148914691236517205) + (Go.bits .and .u64 a0 6148914691236517205))) / 4) 3689348814741910323) + (Go.bits .and .u64 (IntKind.u64.wrap ((Go.bits .and .u64 (a0 / 2) 6148914691236517205) + (Go.bits .and .u64 a0 6148914691236517205))) 3689348814741910323))))) 1085102592571150095) + ((Go.bits .and .u64 (IntKind.u64.wrap (((IntKind.u64.wrap ((Go.bits .and .u64 ((IntKind.u64.wrap ((Go.bits .and .u64 (a0 / 2) 6148914691236517205) + (Go.bits .and .u64 a0 6148914691236517205))) / 4) 3689348814741910323) + (Go.bits .and .u64 (IntKind.u64.wrap ((Go.bits .and .u64 (a0 / 2) 6148914691236517205) + (Go.bits .and .u64 a0 6148914691236517205))) 3689348814741910323))) / 16) + (IntKind.u64.wrap ((Go.bits .and .u64 ((IntKind.u64.wrap ((Go.bits .and .u64 (a0 / 2) 6148914691236517205) + (Go.bits .and .u64 a0 6148914691236517205))) / 4) 3689348814741910323) + (Go.bits .and .u64 (IntKind.u64.wrap ((Go.bits .and .u64 (a0 / 2) 6148914691236517205) + (Go.bits .and .u64 a0 6148914691236517205))) 3689348814741910323))))) 1085102592571150095) / 256))) / 65536))) + ((IntKind.u64.wrap ((IntKind.u64.wrap ((Go.bits .and .u64 (IntKind.u64.wrap (((IntKind.u64.wrap ((Go.bits .and .u64 ((IntKind.u64.wrap ((Go.bits .and .u64 (a0 / 2) 6148914691236517205) + (Go.bits .and .u64 a0 6148914691236517205))) / 4) 3689348814741910323) + (Go.bits .and .u64 (IntKind.u64.wrap ((Go.bits .and .u64 (a0 / 2) 6148914691236517205) + (Go.bits .and .u64 a0 6148914691236517205))) 3689348814741910323))) / 16) + (IntKind.u64.wrap ((Go.bits .and .u64 ((IntKind.u64.wrap ((Go.bits .and .u64 (a0 / 2) 6148914691236517205) + (Go.bits .and .u64 a0 6148914691236517205))) / 4) 3689348814741910323) + (Go.bits .and .u64 (IntKind.u64.wrap ((Go.bits .and .u64 (a0 / 2) 6148914691236517205) + (Go.bits .and .u64 a0 6148914691236517205))) 3689348814741910323))))) 1085102592571150095) + ((Go.bits .and .u64 (IntKind.u64.wrap (((IntKind.u64.wrap ((Go.bits .and .u64 ((IntKind.u64.wrap ((Go.bits .and .u64 (a0 / 2) 6148914691236517205) + (Go.bits .and .u64 a0 6148914691236517205))) / 4) 3689348814741910323) + (Go.bits .and .u64 (IntKind.u64.wrap ((Go.bits .and .u64 (a0 / 2) 6148914691236517205) + (Go.bits .and .u64 a0 6148914691236517205))) 3689348814741910323))) / 16) + (IntKind.u64.wrap ((Go.bits .and .u64 ((IntKind.u64.wrap ((Go.bits .and .u64 (a0 / 2) 6148914691236517205) + (Go.bits .and .u64 a0 6148914691236517205))) / 4) 3689348814741910323) + (Go.bits .and .u64 (IntKind.u64.wrap ((Go.bits .and .u64 (a0 / 2) 6148914691236517205) + (Go.bits .and .u64 a0 6148914691236517205))) 3689348814741910323))))) 1085102592571150095) / 256))) + ((IntKind.u64.wrap ((Go.bits .and .u64 (IntKind.u64.wrap (((IntKind.u64.wrap ((Go.bits .and .u64 ((IntKind.u64.wrap ((Go.bits .and .u64 (a0 / 2) 6148914691236517205) + (Go.bits .and .u64 a0 6148914691236517205))) / 4) 3689348814741910323) + (Go.bits .and .u64 (IntKind.u64.wrap ((Go.bits .and .u64 (a0 / 2) 6148914691236517205) + (Go.bits .and .u64 a0 6148914691236517205))) 3689348814741910323))) / 16) + (IntKind.u64.wrap ((Go.bits .and .u64 ((IntKind.u64.wrap ((Go.bits .and .u64 (a0 / 2) 6148914691236517205) + (Go.bits .and .u64 a0 6148914691236517205))) / 4) 3689348814741910323) + (Go.bits .and .u64 (IntKind.u64.wrap ((Go.bits .and .u64 (a0 / 2) 6148914691236517205) + (Go.bits .and .u64 a0 6148914691236517205))) 3689348814741910323))))) 1085102592571150095) + ((Go.bits .and .u64 (IntKind.u64.wrap (((IntKind.u64.wrap ((Go.bits .and .u64 ((IntKind.u64.wrap ((Go.bits .and .u64 (a0 / 2) 6148914691236517205) + (Go.bits .and .u64 a0 6148914691236517205))) / 4) 3689348814741910323) + (Go.bits .and .u64 (IntKind.u64.wrap ((Go.bits .and .u64 (a0 / 2) 6148914691236517205) + (Go.bits .and .u64 a0 6148914691236517205))) 3689348814741910323))) / 16) + (IntKind.u64.wrap ((Go.bits .and .u64 ((IntKind.u64.wrap ((Go.bits .and .u64 (a0 / 2) 6148914691236517205) + (Go.bits .and .u64 a0 6148914691236517205))) / 4) 3689348814741910323) + (Go.bits .and .u64 (IntKind.u64.wrap ((Go.bits .and .u64 (a0 / 2) 6148914691236517205) + (Go.bits .and .u64 a0 6148914691236517205))) 3689348814741910323))))) 1085102592571150095) / 256))) / 65536))) / 4294967296)))) 127)
set_option maxHeartbeats 8000000 in
set_option maxRecDepth 100000 in
theorem bits_OnesCount64.calls (a0 : Int) (r : Int) (w : World) (h : bits_OnesCount64.f a0 = some r) :
  Calls Tryd.prog 64 #[.int .u64 a0] w fun e w' => e = .returned (.int .i64 r) ∧ Drawn0 w w' := by
 have H := h
 unfold bits_OnesCount64.f at H
 clear h
 obtain rfl := Option.some.inj H
 go_enter Tryd.func64, Tryd.ntmps64
 go_wp2
 go_ret
 exact ⟨zs, by repeat (first | exact Drawn0.refl _ | apply Drawn0.step)⟩

/-! ### impl_size: function 43 -/
def impl_size.f (a0 : Int) : Option (Int) := (bits_OnesCount64.f (IntKind.u64.wrap (a0))).bind fun t453 => (some t453)
set_option maxHeartbeats 8000000 in
set_option maxRecDepth 100000 in
theorem impl_size.calls (a0 : Int) (r : Int) (w : World) (h : impl_size.f a0 = some r) :
  Calls Tryd.prog 43 #[.int .i64 a0] w fun e w' => e = .returned (.int .i64 r) ∧ Drawn0 w w' := by
 have H := h
 unfold impl_size.f at H
 clear h
 obtain ⟨t453, A2, H⟩ := zb H
 try dsimp only at H
 obtain rfl := Option.some.inj H
 go_enter Tryd.func43, Tryd.ntmps43
 go_wp2_with (first | (refine zO (some 5) Tryd.func64 #[.int .u64 (IntKind.u64.wrap (a0))] ?_; (with_reducible refine (bits_OnesCount64.calls (IntKind.u64.wrap (a0)) t453 _ A2.out).mono ?_); rintro e w' ⟨rfl, ⟨nd, rfl⟩⟩; refine ⟨_, rfl, ?_⟩))
 go_ret
 exact ⟨zs, by repeat (first | exact Drawn0.refl _ | apply Drawn0.step)⟩

/-! ### impl_cliquePolynomial: function 50 -/
mutual
def impl_cliquePolynomial.l0 : Nat → List Int → List Int → Int → Int → Option (List Int)
 | 0, _, _, _, _ => none
 | k + 1, x3, x8, x9, x10 => if x10 < x9 then (if 0 ≤ x10 then (if x10 < (x8.length : Int) then (impl_cliquePolynomial.l1 k x3 (rd x8 x10) x8 x9 x10) else (none)) else (none)) else (some x3)
def impl_cliquePolynomial.l1 : Nat → List Int → Int → List Int → Int → Int → Option (List Int)
 | 0, _, _, _, _, _ => none
 | k + 1, x3, x5, x8, x9, x10 => (impl_length_int64.f x3).bind fun t462 => ((impl_size.f x5).bind fun t463 => (if t462 ≤ t463 then (if x3.length < 17592186044416 then (impl_cliquePolynomial.l1 k (x3 ++ [0]) x5 x8 x9 x10) else (none)) else ((impl_size.f x5).bind fun t467 => (if 0 ≤ t467 then (if t467 < (x3.length : Int) then ((impl_size.f x5).bind fun t469 => (impl_cliquePolynomial.l0 k (x3.set (t467 : Int).toNat (wrap64 ((rd x3 t467) + (wrap64 (1 - (wrap64 (2 * (Int.tmod t469 2)))))))) x8 x9 (wrap64 (x10 + 1)))) else (none)) else (none)))))
end
def impl_cliquePolynomial.f (k : Nat) (a0_0 : Int) (l0_1 : List Int) : Option (List Int) := (impl_stepsOf.f k a0_0 l0_1).bind fun t458 => (impl_cliquePolynomial.l0 k (([] : List Int)) t458 (t458.length : Int) 0)

def impl_cliquePolynomial.T7 : Bool × List (List Nat × List Nat) := (true, [([], []), ([], []), ([1], [1]), ([0, 2], [0, 2]), ([3], [3]), ([], []), ([5, 2], [5]), ([6], [6]), ([7], [7]), ([8], [8]), ([4, 9], [4, 9]), ([0, 2, 0, 1, 2, 3, 4, 5, 6, 7, 8, 9, 10], [0, 2]), ([11, 10, 6, 0, 1, 2, 3, 4, 5, 6, 7, 8, 9, 10], [10, 11])])
def impl_cliquePolynomial.B7 : List Nat := [0, 0, 2, 7, 15, 0, 38, 102, 230, 486, 1023, 2047, 4095]
theorem impl_cliquePolynomial.tab7 : rtab .any (opsOf Tryd.f50 7) = impl_cliquePolynomial.T7 := by kernel_rfl
theorem impl_cliquePolynomial.bits7 : waitsOk impl_cliquePolynomial.T7.2 impl_cliquePolynomial.B7 = true := by kernel_rfl
set_option maxHeartbeats 8000000 in
set_option maxRecDepth 100000 in
theorem impl_cliquePolynomial.calls (k : Nat) (a0_0 : Int) (A0_1 : Option Addr) (c0_1 : Nat) (l0_1 : List Int) (r : List Int) (w : World) (hr0_1 : Kd.C (Kd.int .i64) w A0_1 l0_1.length l0_1) (hc0_1 : l0_1.length ≤ c0_1) (hT : TabW w) (h : impl_cliquePolynomial.f k a0_0 l0_1 = some r) :
  Calls Tryd.prog 50 #[.agg #[.int .i64 a0_0, .slice A0_1 l0_1.length c0_1]] w fun e w' => ∃ v0_ : Value, e = .returned (v0_) ∧ Kd.R (Kd.int .i64) 2 w' w.heap.size (fun _ => True) v0_ r ∧ Below w.heap.size w w' := by
 have hu29 := Tryd.underlying29
 have HT := zA hT
 clear hT
 have HR0_1 := zA hr0_1
 have HC0_1 := zA hc0_1
 clear hr0_1 hc0_1
 have HB := zA (kW w.heap.size w)
 have H := h
 unfold impl_cliquePolynomial.f at H
 clear h
 obtain ⟨y455, hy455⟩ : ∃ y_ : List Int, y_ = (([] : List Int)) := ⟨_, rfl⟩
 replace H : ((impl_stepsOf.f k a0_0 l0_1).bind fun t458 => (impl_cliquePolynomial.l0 k y455 t458 (t458.length : Int) 0)) = some r := zy hy455 H
 have Ny455 := zA hy455
 clear hy455
 obtain ⟨t458, A2, H⟩ := zb H
 try dsimp only at H
 have H' := zA H
 clear H
 go_enter Tryd.func50, Tryd.ntmps50
 go_wp2_with (first | (refine zBE 1 #[.int .i64 a0_0, .slice A0_1 l0_1.length c0_1] 29 ?_; intro gb454 hg w3 hbox hb; have BK454 := zA (hbox); have GW454 := zA (zBH hg HB.out); have GE454 := zA (zBH hg HB.out); replace HB := zA (kQ (zQ HB.out) hb); clear hb hbox hg) | ((with_reducible refine kS (N := 6) rfl ?_); refine Kd.R_lit (Kd.int .i64) _ 2 ?hg (N := 6) ?hd (xs := ([] : List Int)) (inner := []) (ok := fun _ => True) (okp := fun _ => True) ?hr ?hp (fun _ hk => hk) trivial (kW _ _) (Nat.le_refl _) (by simp) ?_; (case hd => rfl); (case hg => rfl); (case hr => first | (go_simp; done) | (go_simp; rfl)); (case hp => exact (Reps.none _ _)); intro v456 w4 ho5 hb hg_ hnew_; clear hg_ hnew_; (first | rw [← Ny455.out] at ho5 | (simp only [Int.reduceToNat] at ho5; rw [← Ny455.out] at ho5)); have HO457 := zA (kI ho5 (kP (zT HB.out GE454.out))); replace BK454 := zA (zB1 BK454.out hb); replace HB := zA (kQ (zT HB.out GE454.out) hb); clear hb ho5; obtain ⟨hcz6_0, hcz6_1, hfz6_0, hfz6_1⟩ := zB3 BK454.out) | (refine zO (some 8) Tryd.func42 #[.agg #[.int .i64 a0_0, .slice A0_1 l0_1.length c0_1]] ?_; (with_reducible refine (impl_stepsOf.calls k a0_0 _ _ l0_1 t458 _ ?side1 ?side2 ?side3 A2.out).mono ?_); (case side1 => exact zS (kO HR0_1.out HB.out)); (case side2 => exact HC0_1.out); (case side3 => exact TabW.below HT.out (zT HB.out GE454.out)); rintro e w7 ⟨v459, rfl, ho0, hb⟩; refine ⟨_, rfl, ?_⟩; have HO460 := zA (kI (kF ho0 (kH (zP HO457.out))) (kP (zT HB.out GE454.out))); replace HO457 := zA (kE (zP HO457.out) (kC ho0) hb); replace BK454 := zA (zB1 BK454.out hb); replace HB := zA (kQ (zT HB.out GE454.out) hb); (try clear hb); (try clear ho0); obtain ⟨Ao8, co8, eo8⟩ := kM HO460.out; subst eo8))
 go_loopg [3, 10] k (fun kq v3 v10 w' => ∃ (x3_1 : List Int) (x8_1 : List Int) (x10_1 : Int), v10 = .int .i64 x10_1 ∧ Aside0 (impl_cliquePolynomial.l0 kq x3_1 x8_1 (t458.length : Int) x10_1 = some r) ∧ Aside0 (kq ≤ k) ∧ Aside0 (Kd.R (Kd.int .i64) 2 w' w.heap.size (fun k_ => some k_ ≠ ((.slice Ao8 t458.length co8) : Value).ownBlock) v3 x3_1) ∧ Aside0 (Kd.R (Kd.int .i64) 2 w' w.heap.size (fun k_ => some k_ ≠ (v3 : Value).ownBlock) (.slice Ao8 t458.length co8) x8_1) ∧ Aside0 (w'.heap[gb454]? = some (.cells #[.int .i64 a0_0, (.slice A0_1 l0_1.length c0_1)] 29 (0, 0))) ∧ Aside0 (Below w.heap.size w w'))
 case atStart => exact ⟨(y455), (t458), (0), zs, H', ⟨Nat.le_refl _⟩, ⟨zPM HO457.out (fun _ hk => hk.2)⟩, ⟨zPM HO460.out (fun _ hk => hk.2)⟩, ⟨zR BK454.out⟩, ⟨zT HB.out GE454.out⟩⟩
 case round =>
  clear H'
  try clear c4
  try clear c5
  try clear hcz6_0
  try clear hcz6_1
  try clear hfz6_0
  try clear hfz6_1
  obtain ⟨x3_1, x8_1, x10_1, rfl, HA, HK1, HO_3, HO_8, BK454, HB⟩ := hrel
  have hl8_1 := (kB HO_8.out).1
  rw [hl8_1] at HO_8
  (try simp only [hl8_1])
  (try simp only [hl8_1] at BK454)
  (try simp only [hl8_1] at HO_3)
  cases gk with
  | zero => exact absurd HA.out (by simp [impl_cliquePolynomial.l0])
  | succ k1 =>
   have H := HA.out
   clear HA
   simp only [impl_cliquePolynomial.l0] at H
   by_cases c9 : x10_1 < (t458.length : Int)
   ·rw [if_pos c9] at H
    have c9b0 : decide (x10_1 < (t458.length : Int)) = true := decide_eq_true c9
    (try (have c9b0h0_ := c9b0; rw [hl8_1] at c9b0h0_))
    clear c9
    by_cases c10 : 0 ≤ x10_1
    ·rw [if_pos c10] at H
     have c10b0 : decide (0 ≤ x10_1) = true := decide_eq_true c10
     clear c10
     by_cases c11 : x10_1 < (x8_1.length : Int)
     ·rw [if_pos c11] at H
      have c11b0 : decide (x10_1 < (x8_1.length : Int)) = true := decide_eq_true c11
      (try (have c11b0h0_ := c11b0; rw [hl8_1] at c11b0h0_))
      clear c11
      have H' := zA H
      clear H
      have p461 : 0 ≤ (x10_1 : Int) := zd
      have q461 : x10_1 < (x8_1.length : Int) := zd
      obtain ⟨ad461, e461, hx461_0⟩ := Kd.at_int (kB HO_8.out).2.2 x10_1 p461 q461
      cases e461
      replace p461 := eq_true p461
      replace q461 := eq_true q461
      go_wp2
      go_loopg [3] k1 (fun kq v3 w' => ∃ (x3_2 : List Int), Aside0 (impl_cliquePolynomial.l1 kq x3_2 (rd x8_1 x10_1) x8_1 (t458.length : Int) x10_1 = some r) ∧ Aside0 (kq ≤ k1) ∧ Aside0 (Kd.R (Kd.int .i64) 2 w' w.heap.size (fun k_ => some k_ ≠ ((.slice (some ad461) x8_1.length co8) : Value).ownBlock) v3 x3_2) ∧ Aside0 (Kd.R (Kd.int .i64) 2 w' w.heap.size (fun k_ => some k_ ≠ (v3 : Value).ownBlock) (.slice (some ad461) x8_1.length co8) x8_1) ∧ Aside0 (w'.heap[gb454]? = some (.cells #[.int .i64 a0_0, (.slice A0_1 l0_1.length c0_1)] 29 (0, 0))) ∧ Aside0 (Below w.heap.size w w'))
      case atStart => exact ⟨(x3_1), H', ⟨Nat.le_refl _⟩, ⟨by (try simp only [hl8_1]); (with_reducible repeat (first | apply zF | apply zG | apply zH)); exact HO_3.out⟩, ⟨by (try simp only [hl8_1]); (with_reducible repeat (first | apply zF | apply zG | apply zH)); exact HO_8.out⟩, ⟨by (try simp only [hl8_1]); (with_reducible repeat (first | refine zJ ?_ _ | refine zK ?_ | refine zI ?_ _)); exact BK454.out⟩, ⟨zT HB.out GE454.out⟩⟩
      case round =>
       clear H'
       try clear c1
       try clear c4
       try clear hx4
       try clear c5
       try clear c9
       try clear c10
       try clear c11
       try clear hcz6_0
       try clear hcz6_1
       try clear hfz6_0
       try clear hfz6_1
       try clear hx461_0
       obtain ⟨x3_2, HA, HK2, HO_3, HO_8, BK454, HB⟩ := hrel
       cases gk with
       | zero => exact absurd HA.out (by simp [impl_cliquePolynomial.l1])
       | succ k2 =>
        have H := HA.out
        clear HA
        simp only [impl_cliquePolynomial.l1] at H
        obtain ⟨t462, A12, H⟩ := zb H
        try dsimp only at H
        obtain ⟨t463, A13, H⟩ := zb H
        try dsimp only at H
        by_cases c14 : t462 ≤ t463
        ·rw [if_pos c14] at H
         have c14b0 : decide (t462 ≤ t463) = true := decide_eq_true c14
         clear c14
         by_cases c15 : x3_2.length < 17592186044416
         ·rw [if_pos c15] at H
          have LMc15 := zA c15
          clear c15
          obtain ⟨y464, hy464⟩ : ∃ y_ : List Int, y_ = (x3_2 ++ [0]) := ⟨_, rfl⟩
          replace H : (impl_cliquePolynomial.l1 k2 y464 (rd x8_1 x10_1) x8_1 (t458.length : Int) x10_1) = some r := zy hy464 H
          have Ny464 := zA hy464
          clear hy464
          have H' := zA H
          clear H
          obtain ⟨Ao16, co16, eo16⟩ := kM HO_3.out
          subst eo16
          go_wp2_with (first | (refine zO (some 15) Tryd.func51 #[.slice Ao16 x3_2.length co16] ?_; (with_reducible refine (impl_length_int64.calls _ _ x3_2 t462 _ ?side1 ?side2 A12.out).mono ?_); (case side1 => exact zS (kB HO_3.out).2.2); (case side2 => exact (kB HO_3.out).2.1); rintro e w' ⟨rfl, ⟨nd, rfl⟩⟩; refine ⟨_, rfl, ?_⟩) | (refine zO (some 17) Tryd.func43 #[.int .i64 (rd x8_1 x10_1)] ?_; (with_reducible refine (impl_size.calls (rd x8_1 x10_1) t463 _ A13.out).mono ?_); rintro e w' ⟨rfl, ⟨nd, rfl⟩⟩; refine ⟨_, rfl, ?_⟩) | ((with_reducible refine gate_builtin (b := .append) (xs := #[.tmp 19, .tmp 20]) rfl ?_); at_builtin; refine Kd.R_append (Kd.int .i64) (w0 := w) w.heap.size rfl (.tmp 19) (.tmp 20) 22 2 (.int .i64 0) 8 rfl Tryd.underlying22 info2 rfl (by decide) (by omega) (.slice Ao16 x3_2.length co16) x3_2 0 [.int .i64 0] (fun k_ => some k_ ≠ (.slice (some ad461) x8_1.length co8 : Value).ownBlock) (fun _ => False) rfl rfl ?aP (fun _ hk => hk.elim) ?aF ?aO ?aB ?aS ?aL ?_; (case aP => exact rfl); (case aB => exact (zT HB.out GE454.out)); (case aF => exact (fun k_ hk => jF (kH (zP HO_8.out)) k_ hk)); (case aO => exact (zP HO_3.out)); (case aS => exact (kP (zT HB.out GE454.out))); (case aL => have := LMc15.out; omega); intro v465 w17 ho hb hg hat; rw [← Ny464.out] at ho; replace HO_8 := zA (Kd.R_after (ok := (fun _ => True)) (by (with_reducible repeat (first | apply zF | apply zG | apply zH)); exact kA HO_8.out (fun _ hk => ⟨trivial, hk⟩)) hg hat); replace BK454 := zA (blk_grown (g := gb454) (o := .cells #[.int .i64 a0_0, .slice A0_1 l0_1.length c0_1] 29 (0, 0)) (zR BK454.out) hg (Kd.R_ne HO_3.out BK454.out (by decide))); replace HB := zA (hb); have HO466 := zA (ho); clear HO_3; clear ho hb hg hat))
          go_roundg k2
          case measure => have := HK1.out; have := HK2.out; omega
          case rel => exact ⟨(y464), H', ⟨by have := HK1.out; have := HK2.out; omega⟩, ⟨by (try simp only [hl8_1]); (with_reducible repeat (first | apply zF | apply zG | apply zH)); exact HO466.out⟩, ⟨by (try simp only [hl8_1]); (with_reducible repeat (first | apply zF | apply zG | apply zH)); exact kA HO_8.out (fun _ hk => hk.2)⟩, ⟨by (try simp only [hl8_1]); (with_reducible repeat (first | refine zJ ?_ _ | refine zK ?_ | refine zI ?_ _)); exact BK454.out⟩, ⟨zT HB.out GE454.out⟩⟩
         rw [if_neg c15] at H
         exact absurd H (by simp)
        rw [if_neg c14] at H
        have c14b0 : decide (t462 ≤ t463) = false := decide_eq_false c14
        clear c14
        obtain ⟨t467, A18, H⟩ := zb H
        try dsimp only at H
        by_cases c19 : 0 ≤ t467
        ·rw [if_pos c19] at H
         have c19b0 : decide (0 ≤ t467) = true := decide_eq_true c19
         clear c19
         by_cases c20 : t467 < (x3_2.length : Int)
         ·rw [if_pos c20] at H
          have c20b0 : decide (t467 < (x3_2.length : Int)) = true := decide_eq_true c20
          (try (have c20b0h0_ := c20b0; rw [hl8_1] at c20b0h0_))
          clear c20
          obtain ⟨t469, A21, H⟩ := zb H
          try dsimp only at H
          obtain ⟨y470, hy470⟩ : ∃ y_ : List Int, y_ = (x3_2.set (t467 : Int).toNat (wrap64 ((rd x3_2 t467) + (wrap64 (1 - (wrap64 (2 * (Int.tmod t469 2)))))))) := ⟨_, rfl⟩
          replace H : (impl_cliquePolynomial.l0 k2 y470 x8_1 (t458.length : Int) (wrap64 (x10_1 + 1))) = some r := zy hy470 H
          have Ny470 := zA hy470
          clear hy470
          have H' := zA H
          clear H
          obtain ⟨Ao23, co23, eo23⟩ := kM HO_3.out
          subst eo23
          try go_wp2_with (first | (refine zO (some 15) Tryd.func51 #[.slice Ao23 x3_2.length co23] ?_; (with_reducible refine (impl_length_int64.calls _ _ x3_2 t462 _ ?side1 ?side2 A12.out).mono ?_); (case side1 => exact zS (kB HO_3.out).2.2); (case side2 => exact (kB HO_3.out).2.1); rintro e w' ⟨rfl, ⟨nd, rfl⟩⟩; refine ⟨_, rfl, ?_⟩; (try (rw [drewN_self wr]; generalize hq_ : World.drewN wr _ = wr; have n0_ : Aside0 (Kd.R (Kd.int .i64) 2 wr w.heap.size (fun k_ => some k_ ≠ (.slice (some ad461) x8_1.length co8 : Value).ownBlock) (.slice Ao23 x3_2.length co23) x3_2) := ⟨by rw [← hq_]; exact (zP HO_3.out)⟩; have n1_ : Aside0 (Kd.R (Kd.int .i64) 2 wr w.heap.size (fun k_ => some k_ ≠ (.slice Ao23 x3_2.length co23 : Value).ownBlock) (.slice (some ad461) x8_1.length co8) x8_1) := ⟨by rw [← hq_]; exact (zP HO_8.out)⟩; have n2_ : Aside0 (wr.heap[gb454]? = some (.cells #[.int .i64 a0_0, .slice A0_1 l0_1.length c0_1] 29 (0, 0))) := ⟨by rw [← hq_]; exact (zR BK454.out)⟩; have n3_ : Aside0 (Below w.heap.size w wr) := ⟨by rw [← hq_]; exact (zT HB.out GE454.out)⟩; clear HO_3 HO_8 BK454 HB hq_; have HO_3 := n0_; have HO_8 := n1_; have BK454 := n2_; have HB := n3_; clear n0_ n1_ n2_ n3_))) | (refine zO (some 17) Tryd.func43 #[.int .i64 (rd x8_1 x10_1)] ?_; (with_reducible refine (impl_size.calls (rd x8_1 x10_1) t463 _ A13.out).mono ?_); rintro e w' ⟨rfl, ⟨nd, rfl⟩⟩; refine ⟨_, rfl, ?_⟩; (try (rw [drewN_self wr]; generalize hq_ : World.drewN wr _ = wr; have n0_ : Aside0 (Kd.R (Kd.int .i64) 2 wr w.heap.size (fun k_ => some k_ ≠ (.slice (some ad461) x8_1.length co8 : Value).ownBlock) (.slice Ao23 x3_2.length co23) x3_2) := ⟨by rw [← hq_]; exact (zP HO_3.out)⟩; have n1_ : Aside0 (Kd.R (Kd.int .i64) 2 wr w.heap.size (fun k_ => some k_ ≠ (.slice Ao23 x3_2.length co23 : Value).ownBlock) (.slice (some ad461) x8_1.length co8) x8_1) := ⟨by rw [← hq_]; exact (zP HO_8.out)⟩; have n2_ : Aside0 (wr.heap[gb454]? = some (.cells #[.int .i64 a0_0, .slice A0_1 l0_1.length c0_1] 29 (0, 0))) := ⟨by rw [← hq_]; exact (zR BK454.out)⟩; have n3_ : Aside0 (Below w.heap.size w wr) := ⟨by rw [← hq_]; exact (zT HB.out GE454.out)⟩; clear HO_3 HO_8 BK454 HB hq_; have HO_3 := n0_; have HO_8 := n1_; have BK454 := n2_; have HB := n3_; clear n0_ n1_ n2_ n3_))))
          replace HO_3 := zA (zH HO_3.out)
          replace HO_8 := zA (zH HO_8.out)
          replace BK454 := zA (zK BK454.out)
          replace HB := zA (zD HB.out)
          have p468 : 0 ≤ (t467 : Int) := zd
          have q468 : t467 < (x3_2.length : Int) := zd
          obtain ⟨ad468, e468, hx468_0⟩ := Kd.at_int (kB HO_3.out).2.2 t467 p468 q468
          cases e468
          replace p468 := eq_true p468
          replace q468 := eq_true q468
          refine start_ (n := 13) (S := fun w' => w'.cell? (ad468.add (t467).toNat) = some (.int .i64 (rd x3_2 t467))) (ds := [12]) #[false, false, false, false, false, false, false, false, false, false, false, false, false] (by kernel_rfl) rfl rfl (hx468_0) (fun hHeld => ?_); refine with_tabW impl_cliquePolynomial.tab7 impl_cliquePolynomial.bits7 (fun HT_ HW_ => ?_)
          generalize wr.drew = w24 at HO_3 HO_8 BK454 HB hx468_0 hHeld ⊢
          refine zp 0 (some 22) #[true, false, false, false, false, false, false, false, false, false, false, false, false] HT_.out ?_
          refine zp 1 (some 23) #[true, true, false, false, false, false, false, false, false, false, false, false, false] HT_.out ?_
          refine zp 5 (some 27) #[true, true, false, false, false, true, false, false, false, false, false, false, false] HT_.out ?_
          refine one_ (i := 2) (N := some 24) #[true, true, true, false, false, true, false, false, false, false, false, false, false] rfl rfl (one_of HT_.out (by kernel_rfl)) (by decide) (fun K hK => ?_)
          refine goes_ Tryd.func43 (by kernel_rfl) rfl #[.int .i64 (rd x8_1 x10_1)] (by rfl) rfl rfl zg ?_
          with_reducible refine (impl_size.calls (rd x8_1 x10_1) t467 _ A18.out).mono ?_
          rintro e w' ⟨rfl, ⟨nd, rfl⟩⟩
          refine ⟨_, rfl, ?_⟩
          refine hK.out _ _ (hHeld) (fun hHeld => ?_)
          clear hK K
          refine norm_ (a' := ?_) ?_ ?_
          rotate_left
          ·show Act.put _ (some 24) _ = _
           simp only [Act.put, zL, zM, zN, i64_w, i32_w]
           rfl
          refine zp 3 (some 25) #[true, true, true, true, false, true, false, false, false, false, false, false, false] HT_.out ?_
          refine za 4 (some 26) #[true, true, true, true, true, true, false, false, false, false, false, false, false] HT_.out HW_.out hHeld ?_
          refine one_ (i := 6) (N := some 28) #[true, true, true, true, true, true, true, false, false, false, false, false, false] rfl rfl (one_of HT_.out (by kernel_rfl)) (by decide) (fun K hK => ?_)
          refine goes_ Tryd.func43 (by kernel_rfl) rfl #[.int .i64 (rd x8_1 x10_1)] (by rfl) rfl rfl zg ?_
          with_reducible refine (impl_size.calls (rd x8_1 x10_1) t469 _ A21.out).mono ?_
          rintro e w' ⟨rfl, ⟨nd, rfl⟩⟩
          refine ⟨_, rfl, ?_⟩
          have p22 : 0 ≤ (t467 : Int) := zd
          have q22 : (t467 : Int) < ((x3_2.length : Int) : Int) := zd
          obtain ⟨go22, co22, eo22, gb22, gl22, cl22, HG22⟩ := Kd.R_form HO_3.out (by omega)
          (first | cases eo22 | (injection eo22 with ea_ en_ ec_; (first | subst ea_ | (injection ea_ with ea_; subst ea_)); subst ec_; clear en_))
          have GB22 := zA gb22
          have GG22 := zA HG22
          clear gb22 gl22 HG22
          (first | simp only [add_plain] at hx468_0 | skip)
          obtain ⟨hx22_0, hf22_0⟩ := Kd.R_celln 0 HO_3.out (t467 : Int) p22 q22
          replace p22 := eq_true p22
          replace q22 := eq_true q22
          have HP25 := Kd.R_putn HO_3.out (t467 : Int) (wrap64 ((rd x3_2 t467) + (wrap64 (1 - (wrap64 (2 * (Int.tmod t469 2)))))))
          rw [← Ny470.out] at HP25
          have HQ25 := zA HP25
          clear HP25
          refine hK.out _ _ (hHeld) (fun hHeld => ?_)
          clear hK K
          refine norm_ (a' := ?_) ?_ ?_
          rotate_left
          ·show Act.put _ (some 28) _ = _
           simp only [Act.put, zL, zM, zN, i64_w, i32_w]
           rfl
          refine zp 7 (some 29) #[true, true, true, true, true, true, true, true, false, false, false, false, false] HT_.out ?_
          refine zp 8 (some 30) #[true, true, true, true, true, true, true, true, true, false, false, false, false] HT_.out ?_
          refine zp 9 (some 31) #[true, true, true, true, true, true, true, true, true, true, false, false, false] HT_.out ?_
          refine zp 10 (some 32) #[true, true, true, true, true, true, true, true, true, true, true, false, false] HT_.out ?_
          refine zp 11 (some 33) #[true, true, true, true, true, true, true, true, true, true, true, true, false] HT_.out ?_
          refine last_ (i := 12) (N := none) #[true, true, true, true, true, true, true, true, true, true, true, true, true] rfl rfl (one_of HT_.out (by kernel_rfl)) (by decide) (fun K hK => ?_)
          refine skip_ (w1 := ?_) (by rfl) rfl ?_ ?_
          rotate_left
          ·go_simp
           rfl
          refine hK.out _ _ ?_
          clear hK K
          refine done_ (done_of HT_.out (by kernel_rfl)) ?_
          try go_wp2
          (try simp only [← hl8_1])
          go_roundg k2
          case measure => have := HK1.out; have := HK2.out; omega
          case rel => exact ⟨(y470), (x8_1), (wrap64 (x10_1 + 1)), zs, H', ⟨by have := HK1.out; have := HK2.out; omega⟩, ⟨by (try simp only [hl8_1]); (with_reducible repeat (first | apply zF | apply zG | apply zH)); exact HQ25.out⟩, ⟨by (try simp only [hl8_1]); (with_reducible repeat (first | apply zF | apply zG | apply zH)); exact kA (kY (p := ⟨go22, (t467 : Int).toNat, none⟩) (kA HO_8.out (fun k_ hk => (⟨hk, fun e_ => hk (by rw [e_]; rfl)⟩ : _ ∧ k_ ≠ go22))) (fun _ hk => hk.2) (.int .i64 (wrap64 ((rd x3_2 t467) + (wrap64 (1 - (wrap64 (2 * (Int.tmod t469 2))))))))) (fun _ hk => hk.1)⟩, ⟨by (try simp only [hl8_1]); (with_reducible repeat (first | refine zJ ?_ _ | refine zK ?_ | refine zI ?_ _)); refine blk_far ?_ (by have h_ := Kd.R_ne HO_3.out BK454.out (by decide); intro e_; exact h_ (by rw [e_]; rfl)) _; (with_reducible repeat (first | refine zJ ?_ _ | refine zK ?_ | refine zI ?_ _)); exact BK454.out⟩, ⟨zV HB.out GB22.out GE454.out⟩⟩
         rw [if_neg c20] at H
         exact absurd H (by simp)
        rw [if_neg c19] at H
        exact absurd H (by simp)
     rw [if_neg c11] at H
     exact absurd H (by simp)
    rw [if_neg c10] at H
    exact absurd H (by simp)
   rw [if_neg c9] at H
   have c9b0 : decide (x10_1 < (t458.length : Int)) = false := decide_eq_false c9
   (try (have c9b0h0_ := c9b0; rw [hl8_1] at c9b0h0_))
   clear c9
   obtain rfl := Option.some.inj H
   go_wp2
   go_ret
   exact ⟨_, zr, by (with_reducible repeat (first | apply zF | apply zG | apply zH)); exact kA HO_3.out (fun _ hk => trivial), zT HB.out GE454.out⟩

/-! ### impl_checkCount: function 26 -/
def impl_checkCount.f (k : Nat) (a0_0 : Int) (l0_1 : List Int) (a1 : Int) : Option (Int × Int) := (impl_IsAlphabet.f k a0_0 l0_1).bind fun t472 => (if t472 = true then ((impl_inRange.f a1 0 24).bind fun t473 => (if t473 = true then ((impl_cliquePolynomial.f k a0_0 l0_1).bind fun t474 => ((impl_inverse.f k t474 a1).bind fun bt477 => (if bt477.2 = 0 then (if 0 ≤ a1 then (if a1 < (bt477.1.length : Int) then (some (rd bt477.1 a1, 0)) else (none)) else (none)) else (some (0, bt477.2))))) else (some (0, 2)))) else (some (0, 1)))

set_option maxHeartbeats 8000000 in
set_option maxRecDepth 100000 in
theorem impl_checkCount.calls (k : Nat) (a0_0 : Int) (A0_1 : Option Addr) (c0_1 : Nat) (l0_1 : List Int) (a1 : Int) (r1 : Int) (r2 : Int) (w : World) (hr0_1 : Kd.C (Kd.int .i64) w A0_1 l0_1.length l0_1) (hc0_1 : l0_1.length ≤ c0_1) (hT : TabW w) (h : impl_checkCount.f k a0_0 l0_1 a1 = some (r1, r2)) :
  Calls Tryd.prog 26 #[.agg #[.int .i64 a0_0, .slice A0_1 l0_1.length c0_1], .int .i64 a1] w fun e w' => e = .returned (.tuple #[.int .i64 r1, .int .i64 r2]) ∧ Below w.heap.size w w' := by
 have hu29 := Tryd.underlying29
 have HT := zA hT
 clear hT
 have HR0_1 := zA hr0_1
 have HC0_1 := zA hc0_1
 clear hr0_1 hc0_1
 have HB := zA (kW w.heap.size w)
 have H := h
 unfold impl_checkCount.f at H
 clear h
 obtain ⟨t472, A3, H⟩ := zb H
 try dsimp only at H
 by_cases c4 : t472 = true
 ·subst c4
  rw [if_pos rfl] at H
  obtain ⟨t473, A5, H⟩ := zb H
  try dsimp only at H
  by_cases c6 : t473 = true
  ·subst c6
   rw [if_pos rfl] at H
   obtain ⟨t474, A7, H⟩ := zb H
   try dsimp only at H
   obtain ⟨⟨t477, t478⟩, A8, H⟩ := zb H
   try dsimp only at H
   by_cases c9 : t478 = 0
   ·rw [if_pos c9] at H
    obtain ⟨c9b0, c9b1⟩ := zT1 c9
    clear c9
    by_cases c10 : 0 ≤ a1
    ·rw [if_pos c10] at H
     have c10b0 : decide (0 ≤ a1) = true := decide_eq_true c10
     clear c10
     by_cases c11 : a1 < (t477.length : Int)
     ·rw [if_pos c11] at H
      have c11b0 : decide (a1 < (t477.length : Int)) = true := decide_eq_true c11
      clear c11
      simp only [Option.some.injEq, Prod.mk.injEq] at H
      obtain ⟨rfl, rfl⟩ := H
      go_enter Tryd.func26, Tryd.ntmps26
      go_wp2_with (first | (refine zBE 2 #[.int .i64 a0_0, .slice A0_1 l0_1.length c0_1] 29 ?_; intro gb471 hg w12 hbox hb; have BK471 := zA (hbox); have GW471 := zA (zBH hg HB.out); have GE471 := zA (zBH hg HB.out); replace HB := zA (kQ (zQ HB.out) hb); clear hb hbox hg; obtain ⟨hcz13_0, hcz13_1, hfz13_0, hfz13_1⟩ := zB3 BK471.out) | (refine zO (some 9) Tryd.func38 #[.agg #[.int .i64 a0_0, .slice A0_1 l0_1.length c0_1]] ?_; (with_reducible refine (impl_IsAlphabet.calls k a0_0 _ _ l0_1 true _ ?side1 ?side2 ?side3 A3.out).mono ?_); (case side1 => exact zS (kO HR0_1.out HB.out)); (case side2 => exact HC0_1.out); (case side3 => exact TabW.below HT.out (zT HB.out GE471.out)); rintro e w14 ⟨rfl, hb⟩; refine ⟨_, rfl, ?_⟩; replace BK471 := zA (zB1 BK471.out hb); replace HB := zA (kQ (zT HB.out GE471.out) hb); (try clear hb)) | (refine zO (some 12) Tryd.func39 #[.int .i64 a1, .int .i64 0, .int .i64 24] ?_; (with_reducible refine (impl_inRange.calls a1 0 24 true _ A5.out).mono ?_); rintro e w' ⟨rfl, ⟨nd, rfl⟩⟩; refine ⟨_, rfl, ?_⟩; obtain ⟨hcz15_0, hcz15_1, hfz15_0, hfz15_1⟩ := zB3 BK471.out) | (refine zO (some 16) Tryd.func50 #[.agg #[.int .i64 a0_0, .slice A0_1 l0_1.length c0_1]] ?_; (with_reducible refine (impl_cliquePolynomial.calls k a0_0 _ _ l0_1 t474 _ ?side1 ?side2 ?side3 A7.out).mono ?_); (case side1 => exact zS (kO HR0_1.out (zT HB.out GE471.out))); (case side2 => exact HC0_1.out); (case side3 => exact TabW.below HT.out (zT HB.out GE471.out)); rintro e w16 ⟨v475, rfl, ho0, hb⟩; refine ⟨_, rfl, ?_⟩; have HO476 := zA (kI ho0 (kP (zT HB.out GE471.out))); replace BK471 := zA (zB1 BK471.out hb); replace HB := zA (kQ (zT HB.out GE471.out) hb); (try clear hb); (try clear ho0); obtain ⟨Ao17, co17, eo17⟩ := kM HO476.out; subst eo17) | (refine zO (some 18) Tryd.func49 #[.slice Ao17 t474.length co17, .int .i64 a1] ?_; (with_reducible refine (impl_inverse.calls k _ _ t474 a1 t477 t478 _ ?side1 ?side2 A8.out).mono ?_); (case side1 => exact zS (kB HO476.out).2.2); (case side2 => exact (kB HO476.out).2.1); rintro e w18 ⟨v479, rfl, ho0, hb⟩; refine ⟨_, rfl, ?_⟩; have HO480 := zA (kI (kF ho0 (kH (zP HO476.out))) (kP (zT HB.out GE471.out))); replace HO476 := zA (kE (zP HO476.out) (kC ho0) hb); replace BK471 := zA (zB1 BK471.out hb); replace HB := zA (kQ (zT HB.out GE471.out) hb); (try clear hb); (try clear ho0); obtain ⟨Ao19, co19, eo19⟩ := kM HO480.out; subst eo19; have p481 : 0 ≤ (a1 : Int) := zd; have q481 : a1 < (t477.length : Int) := zd; obtain ⟨ad481, e481, hx481_0⟩ := Kd.at_int (kB HO480.out).2.2 a1 p481 q481; cases e481; replace p481 := eq_true p481; replace q481 := eq_true q481))
      go_ret2
      exact ⟨zr, zT HB.out GE471.out⟩
     rw [if_neg c11] at H
     exact absurd H (by simp)
    rw [if_neg c10] at H
    exact absurd H (by simp)
   rw [if_neg c9] at H
   obtain ⟨c9b0, c9b1⟩ := zT2 c9
   simp only [Option.some.injEq, Prod.mk.injEq] at H
   obtain ⟨rfl, rfl⟩ := H
   go_enter Tryd.func26, Tryd.ntmps26
   go_wp2_with (first | (refine zBE 2 #[.int .i64 a0_0, .slice A0_1 l0_1.length c0_1] 29 ?_; intro gb471 hg w20 hbox hb; have BK471 := zA (hbox); have GW471 := zA (zBH hg HB.out); have GE471 := zA (zBH hg HB.out); replace HB := zA (kQ (zQ HB.out) hb); clear hb hbox hg; obtain ⟨hcz21_0, hcz21_1, hfz21_0, hfz21_1⟩ := zB3 BK471.out) | (refine zO (some 9) Tryd.func38 #[.agg #[.int .i64 a0_0, .slice A0_1 l0_1.length c0_1]] ?_; (with_reducible refine (impl_IsAlphabet.calls k a0_0 _ _ l0_1 true _ ?side1 ?side2 ?side3 A3.out).mono ?_); (case side1 => exact zS (kO HR0_1.out HB.out)); (case side2 => exact HC0_1.out); (case side3 => exact TabW.below HT.out (zT HB.out GE471.out)); rintro e w22 ⟨rfl, hb⟩; refine ⟨_, rfl, ?_⟩; replace BK471 := zA (zB1 BK471.out hb); replace HB := zA (kQ (zT HB.out GE471.out) hb); (try clear hb)) | (refine zO (some 12) Tryd.func39 #[.int .i64 a1, .int .i64 0, .int .i64 24] ?_; (with_reducible refine (impl_inRange.calls a1 0 24 true _ A5.out).mono ?_); rintro e w' ⟨rfl, ⟨nd, rfl⟩⟩; refine ⟨_, rfl, ?_⟩; obtain ⟨hcz23_0, hcz23_1, hfz23_0, hfz23_1⟩ := zB3 BK471.out) | (refine zO (some 16) Tryd.func50 #[.agg #[.int .i64 a0_0, .slice A0_1 l0_1.length c0_1]] ?_; (with_reducible refine (impl_cliquePolynomial.calls k a0_0 _ _ l0_1 t474 _ ?side1 ?side2 ?side3 A7.out).mono ?_); (case side1 => exact zS (kO HR0_1.out (zT HB.out GE471.out))); (case side2 => exact HC0_1.out); (case side3 => exact TabW.below HT.out (zT HB.out GE471.out)); rintro e w24 ⟨v475, rfl, ho0, hb⟩; refine ⟨_, rfl, ?_⟩; have HO476 := zA (kI ho0 (kP (zT HB.out GE471.out))); replace BK471 := zA (zB1 BK471.out hb); replace HB := zA (kQ (zT HB.out GE471.out) hb); (try clear hb); (try clear ho0); obtain ⟨Ao25, co25, eo25⟩ := kM HO476.out; subst eo25) | (refine zO (some 18) Tryd.func49 #[.slice Ao25 t474.length co25, .int .i64 a1] ?_; (with_reducible refine (impl_inverse.calls k _ _ t474 a1 t477 t478 _ ?side1 ?side2 A8.out).mono ?_); (case side1 => exact zS (kB HO476.out).2.2); (case side2 => exact (kB HO476.out).2.1); rintro e w26 ⟨v479, rfl, ho0, hb⟩; refine ⟨_, rfl, ?_⟩; have HO480 := zA (kI (kF ho0 (kH (zP HO476.out))) (kP (zT HB.out GE471.out))); replace HO476 := zA (kE (zP HO476.out) (kC ho0) hb); replace BK471 := zA (zB1 BK471.out hb); replace HB := zA (kQ (zT HB.out GE471.out) hb); (try clear hb); (try clear ho0)))
   go_ret2
   exact ⟨zr, zT HB.out GE471.out⟩
  replace c6 := Bool.eq_false_iff.mpr c6
  subst c6
  rw [if_neg (show ¬ (false = true) by decide)] at H
  simp only [Option.some.injEq, Prod.mk.injEq] at H
  obtain ⟨rfl, rfl⟩ := H
  go_enter Tryd.func26, Tryd.ntmps26
  go_wp2_with (first | (refine zBE 2 #[.int .i64 a0_0, .slice A0_1 l0_1.length c0_1] 29 ?_; intro gb471 hg w27 hbox hb; have BK471 := zA (hbox); have GW471 := zA (zBH hg HB.out); have GE471 := zA (zBH hg HB.out); replace HB := zA (kQ (zQ HB.out) hb); clear hb hbox hg; obtain ⟨hcz28_0, hcz28_1, hfz28_0, hfz28_1⟩ := zB3 BK471.out) | (refine zO (some 9) Tryd.func38 #[.agg #[.int .i64 a0_0, .slice A0_1 l0_1.length c0_1]] ?_; (with_reducible refine (impl_IsAlphabet.calls k a0_0 _ _ l0_1 true _ ?side1 ?side2 ?side3 A3.out).mono ?_); (case side1 => exact zS (kO HR0_1.out HB.out)); (case side2 => exact HC0_1.out); (case side3 => exact TabW.below HT.out (zT HB.out GE471.out)); rintro e w29 ⟨rfl, hb⟩; refine ⟨_, rfl, ?_⟩; replace BK471 := zA (zB1 BK471.out hb); replace HB := zA (kQ (zT HB.out GE471.out) hb); (try clear hb)) | (refine zO (some 12) Tryd.func39 #[.int .i64 a1, .int .i64 0, .int .i64 24] ?_; (with_reducible refine (impl_inRange.calls a1 0 24 false _ A5.out).mono ?_); rintro e w' ⟨rfl, ⟨nd, rfl⟩⟩; refine ⟨_, rfl, ?_⟩))
  go_ret2
  exact ⟨zr, zT HB.out GE471.out⟩
 replace c4 := Bool.eq_false_iff.mpr c4
 subst c4
 rw [if_neg (show ¬ (false = true) by decide)] at H
 simp only [Option.some.injEq, Prod.mk.injEq] at H
 obtain ⟨rfl, rfl⟩ := H
 go_enter Tryd.func26, Tryd.ntmps26
 go_wp2_with (first | (refine zBE 2 #[.int .i64 a0_0, .slice A0_1 l0_1.length c0_1] 29 ?_; intro gb471 hg w30 hbox hb; have BK471 := zA (hbox); have GW471 := zA (zBH hg HB.out); have GE471 := zA (zBH hg HB.out); replace HB := zA (kQ (zQ HB.out) hb); clear hb hbox hg; obtain ⟨hcz31_0, hcz31_1, hfz31_0, hfz31_1⟩ := zB3 BK471.out) | (refine zO (some 9) Tryd.func38 #[.agg #[.int .i64 a0_0, .slice A0_1 l0_1.length c0_1]] ?_; (with_reducible refine (impl_IsAlphabet.calls k a0_0 _ _ l0_1 false _ ?side1 ?side2 ?side3 A3.out).mono ?_); (case side1 => exact zS (kO HR0_1.out HB.out)); (case side2 => exact HC0_1.out); (case side3 => exact TabW.below HT.out (zT HB.out GE471.out)); rintro e w32 ⟨rfl, hb⟩; refine ⟨_, rfl, ?_⟩; replace BK471 := zA (zB1 BK471.out hb); replace HB := zA (kQ (zT HB.out GE471.out) hb); (try clear hb)))
 go_ret2
 exact ⟨zr, zT HB.out GE471.out⟩

/-! ### impl_Alphabet_ties: function 27 -/
def impl_Alphabet_ties.f (a0_0 : Int) (l0_1 : List Int) : Option (List Int) := some l0_1
set_option maxHeartbeats 8000000 in
set_option maxRecDepth 100000 in
theorem impl_Alphabet_ties.calls (a0_0 : Int) (P0_1_ : Nat → Prop) (A0_1 : Option Addr) (c0_1 : Nat) (l0_1 : List Int) (r : List Int) (w : World) (hs0_1 : Kd.V (Kd.int .i64) 2 w w.heap.size (fun k_ => P0_1_ k_) (.slice A0_1 l0_1.length c0_1) l0_1) (h : impl_Alphabet_ties.f a0_0 l0_1 = some r) :
  Calls Tryd.prog 27 #[.agg #[.int .i64 a0_0, .slice A0_1 l0_1.length c0_1]] w fun e w' => ∃ v0_ : Value, e = .returned (v0_) ∧ Kd.V (Kd.int .i64) 2 w' w.heap.size (fun k_ => (P0_1_ k_ ∨ w.heap.size ≤ k_)) v0_ r ∧ Below w.heap.size w w' := by
 have hu29 := Tryd.underlying29
 have HO0_1 := zA (show Kd.V (Kd.int .i64) 2 w w.heap.size (fun k_ => (P0_1_ k_ ∨ w.heap.size ≤ k_)) (.slice A0_1 l0_1.length c0_1) l0_1 from kN hs0_1 (fun k_ hk => .inl hk))
 have HB := zA (kW w.heap.size w)
 have H := h
 unfold impl_Alphabet_ties.f at H
 clear h
 obtain rfl := Option.some.inj H
 go_enter Tryd.func27, Tryd.ntmps27
 go_wp2_with (first | (refine zBE 1 #[.int .i64 a0_0, .slice A0_1 l0_1.length c0_1] 29 ?_; intro gb482 hg w2 hbox hb; replace HO0_1 := zA (kG (jD (zPV HO0_1.out) gb482 (Nat.le_of_eq hg.symm)) hb); have BK482 := zA (hbox); have GW482 := zA (zBH hg HB.out); have GE482 := zA (zBH hg HB.out); replace HB := zA (kQ (zQ HB.out) hb); clear hb hbox hg; obtain ⟨hcz3_0, hcz3_1, hfz3_0, hfz3_1⟩ := zB3 BK482.out))
 go_ret
 exact ⟨_, zr, by (with_reducible repeat (first | apply Kd.V_alloc | apply Kd.V_drewN | apply Kd.V_drew)); exact kN HO0_1.out (fun _ hk => hk.1), zT HB.out GE482.out⟩

/-! ### impl_IsMask: function 40 -/
def impl_IsMask.f (a0 : Int) (a1 : Int) : Option (Bool) := (impl_inRange.f a1 0 24).bind fun t483 => (if t483 = true then ((impl_one.f a1).bind fun t484 => ((impl_inRange.f a0 0 (wrap64 (t484 - 1))).bind fun t485 => (some t485))) else (some false))
set_option maxHeartbeats 8000000 in
set_option maxRecDepth 100000 in
theorem impl_IsMask.calls (a0 : Int) (a1 : Int) (r : Bool) (w : World) (h : impl_IsMask.f a0 a1 = some r) :
  Calls Tryd.prog 40 #[.int .i64 a0, .int .i64 a1] w fun e w' => e = .returned (.bool r) ∧ Drawn0 w w' := by
 have H := h
 unfold impl_IsMask.f at H
 clear h
 obtain ⟨t483, A3, H⟩ := zb H
 try dsimp only at H
 by_cases c4 : t483 = true
 ·subst c4
  rw [if_pos rfl] at H
  obtain ⟨t484, A5, H⟩ := zb H
  try dsimp only at H
  obtain ⟨t485, A6, H⟩ := zb H
  try dsimp only at H
  obtain rfl := Option.some.inj H
  go_enter Tryd.func40, Tryd.ntmps40
  go_wp2_with (first | (refine zO (some 6) Tryd.func39 #[.int .i64 a1, .int .i64 0, .int .i64 24] ?_; (with_reducible refine (impl_inRange.calls a1 0 24 true _ A3.out).mono ?_); rintro e w' ⟨rfl, ⟨nd, rfl⟩⟩; refine ⟨_, rfl, ?_⟩) | (go_at_call 61; (with_reducible refine (impl_one.calls a1 t484 _ A5.out).mono ?_); rintro e w' ⟨rfl, ⟨nd, rfl⟩⟩) | (go_at_call 39; (with_reducible refine (impl_inRange.calls a0 0 (wrap64 (t484 - 1)) t485 _ A6.out).mono ?_); rintro e w' ⟨rfl, ⟨nd, rfl⟩⟩))
  go_ret
  exact ⟨zs, by repeat (first | exact Drawn0.refl _ | apply Drawn0.step)⟩
 replace c4 := Bool.eq_false_iff.mpr c4
 subst c4
 rw [if_neg (show ¬ (false = true) by decide)] at H
 obtain rfl := Option.some.inj H
 go_enter Tryd.func40, Tryd.ntmps40
 go_wp2_with (first | (refine zO (some 6) Tryd.func39 #[.int .i64 a1, .int .i64 0, .int .i64 24] ?_; (with_reducible refine (impl_inRange.calls a1 0 24 false _ A3.out).mono ?_); rintro e w' ⟨rfl, ⟨nd, rfl⟩⟩; refine ⟨_, rfl, ?_⟩))
 go_ret
 exact ⟨zs, by repeat (first | exact Drawn0.refl _ | apply Drawn0.step)⟩

/-! ### impl_ties_follows: function 44: a contract of our own -/
def impl_ties_follows.f (k : Nat) (l0 : List Int) (a1 a2 : Int) : Option Bool :=
 (impl_members.f k a2).bind fun ms => if ms.all (fun a => decide (0 ≤ a ∧ a < (l0.length : Int))) = true then some (ms.all fun a => !decide (Go.bits .and .i64 (rd l0 a) a1 = 0)) else none
set_option maxHeartbeats 2000000 in
set_option maxRecDepth 100000 in
theorem follows_pred (A0 : Option Addr) (ct : Nat) (T : List Int) (m : Int) (B : Nat) (w : World) (hB : B + 1 < w.heap.size)
  (hD : (Kd.int .i64).C w A0 T.length T) (h0 : w.cell? ⟨B, 0, none⟩ = some (.slice A0 T.length ct)) (h1 : w.cell? ⟨B + 1, 0, none⟩ = some (.int .i64 m))
  (l : List Int) (hl : ∀ x ∈ l, 0 ≤ x ∧ x < (T.length : Int)) :
  PredOf 67 #[.pointer (some ⟨B, 0, none⟩), .pointer (some ⟨B + 1, 0, none⟩)] (fun x => decide (Go.bits .and .i64 (rd T x) m = 0)) w l := fun W x hx hb => by
 obtain ⟨hx0, hx1⟩ := hl x hx
 clear hl hx
 have HD := zA (kO hD hb)
 have K0 := zA ((hb.cell (p := ⟨B, 0, none⟩) (by simp; omega)).trans h0)
 have K1 := zA ((hb.cell (p := ⟨B + 1, 0, none⟩) (by simpa using hB)).trans h1)
 clear h0 h1 hb hD
 obtain ⟨ad, e0, hcell⟩ := Kd.at_int HD.out x hx0 hx1
 cases e0
 have K2 := zA hcell
 clear hcell HD
 have hk0 := K0.out
 have hk1 := K1.out
 have hk2 := K2.out
 replace hx0 := eq_true hx0
 replace hx1 := eq_true hx1
 show Calls Tryd.prog 67 #[.int .i64 x, .pointer (some ⟨B, 0, none⟩), .pointer (some ⟨B + 1, 0, none⟩)] W _
 go_enter Tryd.func67, Tryd.ntmps67
 go_wp2
 have HDW := zA (zD (kW W.heap.size W))
 clear hk0 hk1 hk2
 refine start_ (n := 8) (S := fun w' => w'.cell? ⟨B, 0, none⟩ = some (.slice (some ad) T.length ct) ∧ w'.cell? ⟨B + 1, 0, none⟩ = some (.int .i64 m) ∧ w'.cell? (ad.add x.toNat) = some (.int .i64 (rd T x))) (ds := []) #[false, false, false, false, false, false, false, false] (by kernel_rfl) rfl rfl ⟨pw_cell_below HDW.out K0.out, pw_cell_below HDW.out K1.out, pw_cell_below HDW.out K2.out⟩ (fun hHeld => ?_)
 refine take_ (i := 0) (N := some 5) (v := ?_) (a' := ?_) #[true, false, false, false, false, false, false, false] rfl rfl (by kernel_rfl) (fun _ _ _ h => h) (Or.inl ⟨by rfl, ?_⟩) hHeld ?_ ?_
 rotate_left
 ·rintro w' ⟨s0, s1, s2⟩
  go_simp
  with_reducible rfl
 rotate_left
 ·simp only [Act.put, zL, zM, zN, i64_w, i32_w]
  rfl
 refine pure_ (i := 1) (N := some 6) (v := ?_) (a' := ?_) #[true, true, false, false, false, false, false, false] rfl rfl (by kernel_rfl) (fun _ _ _ h => h) (Or.inl ⟨by rfl, ?_⟩) ?_ ?_
 rotate_left
 ·intro w'
  go_simp
  with_reducible rfl
 rotate_left
 ·simp only [Act.put, zL, zM, zN, i64_w, i32_w]
  rfl
 refine pure_ (i := 2) (N := some 7) (v := ?_) (a' := ?_) #[true, true, true, false, false, false, false, false] rfl rfl (by kernel_rfl) (fun _ _ _ h => h) (Or.inl ⟨by rfl, ?_⟩) ?_ ?_
 rotate_left
 ·intro w'
  go_simp
  with_reducible rfl
 rotate_left
 ·simp only [Act.put, zL, zM, zN, i64_w, i32_w]
  rfl
 refine take_ (i := 3) (N := some 8) (v := ?_) (a' := ?_) #[true, true, true, true, false, false, false, false] rfl rfl (by kernel_rfl) (fun _ _ _ h => h) (Or.inl ⟨by rfl, ?_⟩) hHeld ?_ ?_
 rotate_left
 ·rintro w' ⟨s0, s1, s2⟩
  go_simp
  with_reducible rfl
 rotate_left
 ·simp only [Act.put, zL, zM, zN, i64_w, i32_w]
  rfl
 refine take_ (i := 4) (N := some 9) (v := ?_) (a' := ?_) #[true, true, true, true, true, false, false, false] rfl rfl (by kernel_rfl) (fun _ _ _ h => h) (Or.inl ⟨by rfl, ?_⟩) hHeld ?_ ?_
 rotate_left
 ·rintro w' ⟨s0, s1, s2⟩
  go_simp
  with_reducible rfl
 rotate_left
 ·simp only [Act.put, zL, zM, zN, i64_w, i32_w]
  rfl
 refine pure_ (i := 5) (N := some 10) (v := ?_) (a' := ?_) #[true, true, true, true, true, true, false, false] rfl rfl (by kernel_rfl) (fun _ _ _ h => h) (Or.inl ⟨by rfl, ?_⟩) ?_ ?_
 rotate_left
 ·intro w'
  go_simp
  with_reducible rfl
 rotate_left
 ·simp only [Act.put, zL, zM, zN, i64_w, i32_w]
  rfl
 refine pure_ (i := 6) (N := some 11) (v := ?_) (a' := ?_) #[true, true, true, true, true, true, true, false] rfl rfl (by kernel_rfl) (fun _ _ _ h => h) (Or.inl ⟨by rfl, ?_⟩) ?_ ?_
 rotate_left
 ·intro w'
  go_simp
  with_reducible rfl
 rotate_left
 ·simp only [Act.put, zL, zM, zN, i64_w, i32_w]
  rfl
 refine pure_ (i := 7) (N := some 4) (v := ?_) (a' := ?_) #[true, true, true, true, true, true, true, true] rfl rfl (by kernel_rfl) (fun _ _ _ h => h) (Or.inl ⟨by rfl, ?_⟩) ?_ ?_
 rotate_left
 ·intro w'
  go_simp
  with_reducible rfl
 rotate_left
 ·simp only [Act.put, zL, zM, zN, i64_w, i32_w]
  rfl
 refine done_ (by kernel_rfl) ?_
 go_wp2
 go_ret
 exact ⟨rfl, HDW.out⟩
set_option maxHeartbeats 2000000 in
set_option maxRecDepth 100000 in
theorem impl_ties_follows.calls (k : Nat) (A0 : Option Addr) (c0 : Nat) (l0 : List Int) (a1 a2 : Int) (r : Bool) (w : World) (hr0 : Kd.C (Kd.int .i64) w A0 l0.length l0) (hc0 : l0.length ≤ c0) (hT : TabW w) (h : impl_ties_follows.f k l0 a1 a2 = some r) :
  Calls Tryd.prog 44 #[.slice A0 l0.length c0, .int .i64 a1, .int .i64 a2] w fun e w' => e = .returned (.bool r) ∧ Below w.heap.size w w' := by
 obtain ⟨ms, hm, hr⟩ := Option.bind_eq_some_iff.mp h
 clear h
 by_cases hall : ms.all (fun a => decide (0 ≤ a ∧ a < (l0.length : Int))) = true
 ·rw [if_pos hall] at hr
  have hW : Below w.heap.size w ((w.alloc (.cells #[.slice A0 l0.length c0] 46)).alloc (.cells #[.int .i64 a1] 2)) := zB (zB (kW _ w) _) _
  have eg : ∀ args w, (callFunc 67 args).run Tryd.prog w = .ok (.enter 67 args) w := enters_fn Tryd.func67 (by kernel_rfl) rfl
  have hmem := zA (impl_members.calls k a2 ms ((w.alloc (.cells #[.slice A0 l0.length c0] 46)).alloc (.cells #[.int .i64 a1] 2)) (hT.below hW) hm)
  have hcon := zA (fun (W : World) (A : Option Addr) (c : Nat) (hb : Below ((w.alloc (.cells #[.slice A0 l0.length c0] 46)).alloc (.cells #[.int .i64 a1] 2)).heap.size ((w.alloc (.cells #[.slice A0 l0.length c0] 46)).alloc (.cells #[.int .i64 a1] 2)) W) (hC : Kd.C (Kd.int .i64) W A ms.length ms) =>
   containsFunc_any A c ms 67 #[.pointer (some ⟨w.heap.size, 0, none⟩), .pointer (some ⟨w.heap.size + 1, 0, none⟩)] (fun x => decide (Go.bits .and .i64 (rd l0 x) a1 = 0)) W eg
    (follows_pred A0 c0 l0 a1 w.heap.size W (Nat.lt_of_lt_of_le (by simp) hb.size) (kO (kO hr0 hW) hb) ((hb.cell (p := ⟨w.heap.size, 0, none⟩) (by simp; omega)).trans (by simp)) ((hb.cell (p := ⟨w.heap.size + 1, 0, none⟩) (by simp)).trans (by simp)) ms (fun x hx => by simpa using List.all_eq_true.1 hall x hx)) hC)
  have hr' : (!(ms.any fun x => decide (Go.bits .and .i64 (rd l0 x) a1 = 0))) = r := by
   rw [← Option.some.inj hr, List.all_eq_not_any_not]
   simp
  clear hr hr0 hc0 hm hall hT
  replace hW := zA hW
  generalize (ms.any fun x => decide (Go.bits .and .i64 (rd l0 x) a1 = 0)) = b at hcon hr'
  subst hr'
  go_enter Tryd.func44, Tryd.ntmps44
  go_wp2_with fail
  refine hmem.out.mono ?_
  rintro e w3 ⟨v8, rfl, ho0, hb⟩
  obtain ⟨A8, c8, e8⟩ := kM ho0
  subst e8
  have HC := zA (hcon.out w3 A8 c8 hb (kB ho0).2.2)
  have HB3 := zA (kQ hW.out hb)
  clear hmem hcon ho0 hb
  go_wp2_with fail
  refine HC.out.mono ?_
  rintro e w4 ⟨rfl, hb⟩
  have HB4 := zA (kQ HB3.out hb)
  clear HC hb
  go_wp2
  go_ret
  exact ⟨rfl, HB4.out⟩
 rw [if_neg hall] at hr
 cases hr

-- NOT PRINTED: function 41 (impl_stepCounts)

/-! ### impl_CountByFirst: function 16: a contract of our own -/
def impl_stepCounts.l3 : Nat → List Int → List Int → Int → Int → Int → (Int → List Int) → Int → Option (Int → List Int)
 | 0, _, _, _, _, _, _, _ => none
 | f + 1, D, st, s, k, rest, R, i => if i < (st.length : Int) then (if 0 ≤ i then ((impl_ties_follows.f f D s (rd st i)).bind fun b => (if b = true then (if 0 ≤ rest ∧ rest ≤ k then impl_stepCounts.l3 f D st s k rest (updR R s k (wrap64 (rd (R s) k + rd (R (rd st i)) rest))) (wrap64 (i + 1)) else none) else impl_stepCounts.l3 f D st s k rest R (wrap64 (i + 1)))) else none) else some R
def impl_stepCounts.l2 : Nat → List Int → List Int → Int → (Int → List Int) → Int → Option (Int → List Int)
 | 0, _, _, _, _, _ => none
 | f + 1, D, st, k, R, j => if j < (st.length : Int) then (if 0 ≤ j then ((impl_size.f (rd st j)).bind fun z => (if wrap64 (k - z) = 0 then impl_stepCounts.l2 f D st k (updR R (rd st j) k 1) (wrap64 (j + 1)) else (if wrap64 (k - z) ≤ 0 then impl_stepCounts.l2 f D st k R (wrap64 (j + 1)) else ((impl_stepCounts.l3 f D st (rd st j) k (wrap64 (k - z)) R 0).bind fun R2 => impl_stepCounts.l2 f D st k R2 (wrap64 (j + 1)))))) else none) else some R
def impl_stepCounts.l1 : Nat → List Int → List Int → Int → (Int → List Int) → Int → Option (Int → List Int)
 | 0, _, _, _, _, _ => none
 | f + 1, D, st, n, R, k => if k ≤ n then (if 0 ≤ k then ((impl_stepCounts.l2 f D st k R 0).bind fun R2 => impl_stepCounts.l1 f D st n R2 (wrap64 (k + 1))) else none) else some R
def impl_stepCounts.f (k : Nat) (a0_0 : Int) (l0_1 : List Int) (n : Int) : Option (List Int × (Int → List Int)) := (impl_stepsOf.f k a0_0 l0_1).bind fun st => if 1 ≤ st.length ∧ st.length < 1000000000 ∧ (st.drop 1).Nodup ∧ ((st.drop 1).all fun s => (Lit.int .i64 s).wf) = true ∧ 0 ≤ n ∧ n < 1000000000 then (impl_stepCounts.l1 k l0_1 (st.drop 1) n (fun _ => List.replicate (n + 1).toNat 0) 1).bind fun R => some (st.drop 1, R) else none
/-- a map whose rows are told -/
def MapOut (N : Nat) (st : List Int) (W : World) (R : Int → List Int) (v : Value) : Prop := ∃ (b : Nat) (G : Int → Nat) (w2 : World), v = .map (some b) ∧ GrI w2 N b G st W R
theorem zero_sliceD (w : World) : (zeroValue 22).run Tryd.prog w = .ok (.slice none 0 0) w := by kernel_rfl
theorem ties_same2 (n : Int) (A : Option Addr) (m c : Nat) (w : World) : Calls Tryd.prog 27 #[.agg #[.int .i64 n, .slice A m c]] w fun e w' => e = .returned (.slice A m c) ∧ Below w.heap.size w w' := by
 have hu := Tryd.underlying29
 have HB := zA (zB (kW w.heap.size w) (.cells #[.int .i64 n, .slice A m c] 29))
 go_enter Tryd.func27, Tryd.ntmps27
 go_wp2
 go_ret
 exact ⟨rfl, HB.out⟩
set_option maxHeartbeats 8000000 in
set_option maxRecDepth 100000 in
theorem stepCounts_calls (k : Nat) (a0_0 : Int) (A0_1 : Option Addr) (c0_1 : Nat) (l0_1 : List Int) (n : Int) (st : List Int) (R : Int → List Int) (w : World) (hr0_1 : Kd.C (Kd.int .i64) w A0_1 l0_1.length l0_1) (hc0_1 : l0_1.length ≤ c0_1) (hT : TabW w) (h : impl_stepCounts.f k a0_0 l0_1 n = some (st, R)) :
  Calls Tryd.prog 41 #[.agg #[.int .i64 a0_0, .slice A0_1 l0_1.length c0_1], .int .i64 n] w fun e w' => ∃ v0_ : Value, e = .returned v0_ ∧ MapOut (n + 1).toNat st w' R v0_ ∧ Below w.heap.size w w' := by
 have law : Go.Maps.Keyed Tryd.prog 2 := Go.Maps.int_keyed Tryd.underlying2
 have hmm := @run_makeMap Tryd.prog
 have HR := zA hr0_1
 have HC := zA hc0_1
 have HT := zA hT
 have hu := Tryd.underlying29
 clear hr0_1 hc0_1 hT
 obtain ⟨st0, h1, h⟩ := Option.bind_eq_some_iff.1 h
 by_cases q1 : 1 ≤ st0.length ∧ st0.length < 1000000000 ∧ (st0.drop 1).Nodup ∧ ((st0.drop 1).all fun s => (Lit.int .i64 s).wf) = true ∧ 0 ≤ n ∧ n < 1000000000
 ·rw [if_pos q1] at h
  obtain ⟨R9, h2, h⟩ := Option.bind_eq_some_iff.1 h
  simp only [Option.some.injEq, Prod.mk.injEq] at h
  obtain ⟨hst, rfl⟩ := h
  rw [hst] at h2 q1
  have HDR := zA hst
  clear hst
  have H1 := zA h1
  have H2 := zA h2
  have HX := zA q1
  clear h1 h2 q1
  go_enter Tryd.func41, Tryd.ntmps41
  go_wp2_with (first | (refine zBE 2 #[.int .i64 a0_0, .slice A0_1 l0_1.length c0_1] 29 ?_; intro gb hg w1 hbox hb; have BK := zA hbox; have HB := zA hb; clear hb hbox hg; obtain ⟨hcz0, hcz1, _, _⟩ := zB3 BK.out))
  have HDW := zA (zD (kW w1.heap.size w1))
  have BK1 := zA ((HDW.out.block gb (jI BK.out)).trans BK.out)
  have HB1 := zA (Below.grown HB.out (grown_of_below HDW.out none) HB.out.size (fun j hj => by cases hj))
  refine start_ (n := 7) (S := fun w' => w'.cell? ⟨gb, 0, none⟩ = some (.int .i64 a0_0) ∧ w'.cell? ⟨gb, 1, none⟩ = some (.slice A0_1 l0_1.length c0_1)) (ds := []) #[false, false, false, false, false, false, false] (by kernel_rfl) rfl rfl ⟨(zB3 BK1.out).1, (zB3 BK1.out).2.1⟩ (fun hHeld => ?_)
  clear hcz0 hcz1 HB BK HDW
  generalize w1.drew = w5 at BK1 HB1 hHeld ⊢
  refine take_ (i := 0) (N := some 16) (v := ?_) (a' := ?_) #[true, false, false, false, false, false, false] rfl rfl (by kernel_rfl) (fun _ _ _ h => h) (Or.inl ⟨by rfl, ?_⟩) hHeld ?_ ?_
  rotate_left
  ·rintro w' ⟨s0, s1⟩
   go_simp
   with_reducible rfl
  rotate_left
  ·simp only [Act.put, zL, zM, zN, i64_w, i32_w]
   rfl
  refine take_ (i := 3) (N := some 19) (v := ?_) (a' := ?_) #[true, false, false, true, false, false, false] rfl rfl (by kernel_rfl) (fun _ _ _ h => h) (Or.inl ⟨by rfl, ?_⟩) hHeld ?_ ?_
  rotate_left
  ·rintro w' ⟨s0, s1⟩
   go_simp
   with_reducible rfl
  rotate_left
  ·simp only [Act.put, zL, zM, zN, i64_w, i32_w]
   rfl
  refine one_ (i := 1) (N := some 17) #[true, true, false, true, false, false, false] rfl rfl (by kernel_rfl) (by decide) (fun K hK => ?_)
  refine goes_ Tryd.func42 (by kernel_rfl) rfl #[.agg #[.int .i64 a0_0, .slice A0_1 l0_1.length c0_1]] (by rfl) rfl rfl (by simp only [List.map_toArray, List.map_cons, List.map_nil]; rfl) ?_
  with_reducible refine (impl_stepsOf.calls k a0_0 _ _ l0_1 st0 _ ?side1 ?side2 ?side3 H1.out).mono ?_
  case side1 => exact kO HR.out HB1.out
  case side2 => exact HC.out
  case side3 => exact TabW.below HT.out HB1.out
  rintro e w6 ⟨v17, rfl, ho0, hb⟩
  refine ⟨_, rfl, ?_⟩
  obtain ⟨A17, c17, e17⟩ := kM ho0
  subst e17
  obtain ⟨ad17, ea17, _⟩ := (kB ho0).2.2.2.2 (by have := HX.out.1; omega)
  subst ea17
  have hx := (hb.block gb (jI BK1.out)).trans BK1.out
  have HB6 := zA (Below.grown HB1.out (grown_of_below hb none) HB1.out.size (fun j hj => by cases hj))
  have HS6 := zA ho0
  have hcap := (kB ho0).2.1
  refine hK.out _ _ ⟨(zB3 hx).1, (zB3 hx).2.1⟩ (fun hHeld => ?_)
  have BK6 := zA hx
  clear hK K ho0 hb hx
  refine norm_ (a' := ?_) ?_ ?_
  rotate_left
  ·show Act.put _ (some 17) _ = _
   simp only [Act.put, zL, zM, zN, i64_w, i32_w]
   rfl
  have hone := HX.out.1
  have s1 : (1 : Int) ≤ (st0.length : Int) := by omega
  have s2 : (st0.length : Int) ≤ (c17 : Int) := by omega
  refine pure_ (i := 2) (N := some 18) (v := ?_) (a' := ?_) #[true, true, true, true, false, false, false] rfl rfl (by kernel_rfl) (fun _ _ _ h => h) (Or.inl ⟨by rfl, ?_⟩) ?_ ?_
  rotate_left
  ·intro w'
   go_simp
   with_reducible rfl
  rotate_left
  ·simp only [Act.put, zL, zM, zN, i64_w, i32_w]
   rfl
  have HST := zA (show Kd.C (Kd.int .i64) w6 (if c17 = 1 then some ad17 else some ⟨ad17.block, ad17.off + 1, none⟩) st.length st from HDR.out ▸ Kd.C_drop (m := 1) (c := c17) (kB HS6.out).2.2 hone hcap)
  have HLN := zA (show st.length = st0.length - 1 from HDR.out ▸ List.length_drop)
  have HLC := zA (show st.length ≤ c17 - 1 by have := HLN.out; omega)
  have HD := zA HX.out.2.2.1
  have HWF := zA HX.out.2.2.2.1
  have HNN := zA HX.out.2.2.2.2
  have HBD := zA (show st.length < 1000000000 by have := HLN.out; have := HX.out.2.1; omega)
  generalize (if c17 = 1 then some ad17 else some (⟨ad17.block, ad17.off + 1, none⟩ : Addr)) = A18 at HST ⊢
  rw [← HLN.out]
  refine one_ (i := 4) (N := some 20) #[true, true, true, true, true, false, false] rfl rfl (by kernel_rfl) (by decide) (fun K hK => ?_)
  refine goes_ Tryd.func27 (by kernel_rfl) rfl #[.agg #[.int .i64 a0_0, .slice A0_1 l0_1.length c0_1]] (by rfl) rfl rfl (by simp only [List.map_toArray, List.map_cons, List.map_nil]; rfl) ?_
  refine (ties_same2 a0_0 A0_1 l0_1.length c0_1 _).mono ?_
  rintro e w7 ⟨rfl, hb⟩
  refine ⟨_, rfl, ?_⟩
  have hx := (hb.block gb (jI BK6.out)).trans BK6.out
  have HB7 := zA (Below.grown HB6.out (grown_of_below hb none) HB6.out.size (fun j hj => by cases hj))
  have HS7 := zA (kO HST.out hb)
  refine hK.out _ _ ⟨(zB3 hx).1, (zB3 hx).2.1⟩ (fun hHeld => ?_)
  clear hK K hb hx HST HS6 HB6 BK6 BK1 HB1 hcap s1 s2 hone
  refine norm_ (a' := ?_) ?_ ?_
  rotate_left
  ·show Act.put _ (some 20) _ = _
   simp only [Act.put, zL, zM, zN, i64_w, i32_w]
   rfl
  refine pure_ (i := 5) (N := some 5) (v := ?_) (a' := ?_) #[true, true, true, true, true, true, false] rfl rfl (by kernel_rfl) (fun _ _ _ h => h) (Or.inl ⟨by rfl, ?_⟩) ?_ ?_
  rotate_left
  ·intro w'
   go_simp
   with_reducible rfl
  rotate_left
  ·simp only [Act.put, zL, zM, zN, i64_w, i32_w]
   rfl
  refine pure_ (i := 6) (N := some 6) (v := ?_) (a' := ?_) #[true, true, true, true, true, true, true] rfl rfl (by kernel_rfl) (fun _ _ _ h => h) (Or.inl ⟨by rfl, ?_⟩) ?_ ?_
  rotate_left
  ·intro w'
   go_simp
   with_reducible rfl
  rotate_left
  ·simp only [Act.put, zL, zM, zN, i64_w, i32_w]
   rfl
  refine done_ (by kernel_rfl) ?_
  clear hHeld HLN HX H1
  have HDL := zA (kO HR.out HB7.out)
  go_wp2
  obtain ⟨Nn, hNn⟩ : ∃ Nn : Nat, (n + 1).toNat = Nn := ⟨_, rfl⟩
  have HNe := zA (show (Nn : Int) = n + 1 by have := HNN.out; omega)
  have HNq := zA hNn
  replace H2 := zA (show impl_stepCounts.l1 k l0_1 st n (fun _ => List.replicate Nn 0) 1 = some R9 from hNn ▸ H2.out)
  clear hNn
  have HW1 := zA (show wrap64 (n + 1) = n + 1 by have := HNN.out; unfold wrap64; omega)
  have HG0 := zA (grI_nil w7 Nn (fun _ => 0) (fun _ => List.replicate Nn 0))
  generalize c17 - 1 = cs at HLC ⊢
  go_loopg [24] st.length (fun gg v24 wr => ∃ (i : Nat) (G : Int → Nat), i ≤ st.length ∧ st.length - i ≤ gg ∧ v24 = .int .i64 i ∧ Aside0 (GrI w7 Nn w7.heap.size G (st.take i) wr (fun _ => List.replicate Nn 0)))
  case atStart => exact ⟨0, fun _ => 0, Nat.zero_le _, by omega, rfl, HG0⟩
  case round =>
   clear HG0
   obtain ⟨i, G, hile, hgi, rfl, HG⟩ := hrel
   by_cases q2 : i < st.length
   ·have q2i : (i : Int) < (st.length : Int) := by omega
    obtain ⟨adS, eS, hcS⟩ := Kd.at_int (kO HS7.out HG.out.2.2.2.1) (i : Int) (by omega) q2i
    subst eS
    have HKW := zA (rd_wf HWF.out (show (0 : Int) ≤ (i : Int) by omega) q2i)
    have HNI := zA (nodup_take HD.out q2)
    have HTK := zA (take_snocI q2)
    rw [Int.toNat_natCast] at hcS
    go_wp2_with (first | ((with_reducible refine kS (N := 32) rfl ?_); refine make_row (Nt := 32) rfl rfl 22 2 (.tmp 31) (.tmp 31) rfl (wrap64 (n + 1)) rfl rfl Tryd.underlying22 info2 (by rw [HW1.out]; have := HNN.out; omega) (by rw [HW1.out]; have := HNN.out; omega) ?_; rw [HW1.out, HNq.out]; have HRW := zA (made_row wr Nn); have HMG := zA (mapG_below HG.out.1 (zB (kW wr.heap.size wr) (.cells (madeCells #[.int .i64 0] Nn) 2)))) | (at_mapUpdate; refine wpList_mg_put rfl (.tmp 28) (.tmp 29) (.tmp 32) 59 rfl law Tryd.underlying59 HMG.out (by have := HBD.out; rw [List.length_take]; unfold maxLen; omega) rfl (rd st (i : Int)) wr.heap.size HKW.out _ rfl rfl (Go.Maps.keyOf_int_mk Tryd.underlying2 HKW.out) ?_; intro w9 hm9 hg9; have HG9 := zA (grI_snoc HG.out HNI.out HRW.out hm9 hg9); clear hm9 hg9))
    go_roundg (st.length - (i + 1))
    case measure => omega
    case rel => exact ⟨i + 1, _, by omega, by omega, by rw [show wrap64 ((i : Int) + 1) = ((i + 1 : Nat) : Int) by have := HBD.out; unfold wrap64; omega], ⟨by rw [HTK.out]; exact HG9.out⟩⟩
   have q2i : ¬ (i : Int) < (st.length : Int) := by omega
   obtain rfl : i = st.length := by omega
   rw [List.take_length] at HG
   have HGA := zA HG.out
   clear HG
   go_wp2
   clear HNN HD
   go_loopg [10] k (fun gg v10 wr => ∃ (R : Int → List Int) (kk : Int), v10 = .int .i64 kk ∧ Aside0 (impl_stepCounts.l1 gg l0_1 st n R kk = some R9) ∧ Aside0 (gg ≤ k) ∧ Aside0 (GrI w7 Nn w7.heap.size G st wr R))
   case atStart => exact ⟨_, 1, rfl, H2, ⟨Nat.le_refl _⟩, HGA⟩
   case round =>
    clear H2 HGA
    obtain ⟨R, kk, rfl, HA, HK, HG⟩ := hrel
    cases gk with
    | zero => exact absurd HA.out (by simp [impl_stepCounts.l1])
    | succ k1 =>
     have H := HA.out
     clear HA
     simp only [impl_stepCounts.l1] at H
     by_cases q3 : kk ≤ n
     ·rw [if_pos q3] at H
      have q3b : decide (kk ≤ n) = true := decide_eq_true q3
      by_cases q4 : 0 ≤ kk
      ·rw [if_pos q4] at H
       obtain ⟨R2, h3, H⟩ := Option.bind_eq_some_iff.1 H
       have H3 := zA h3
       have HRR := zA H
       have HK0 := zA q4
       have HKN := zA (show kk < (Nn : Int) by have := HNe.out; omega)
       clear h3 H
       go_wp2
       go_loopg [41] k1 (fun gg v41 wr => ∃ (R' : Int → List Int) (j : Int), v41 = .int .i64 j ∧ Aside0 (impl_stepCounts.l2 gg l0_1 st kk R' j = some R2) ∧ Aside0 (gg ≤ k1) ∧ Aside0 (GrI w7 Nn w7.heap.size G st wr R'))
       case atStart => exact ⟨R, 0, rfl, H3, ⟨Nat.le_refl _⟩, HG⟩
       case round =>
        clear H3 HG
        obtain ⟨R', j, rfl, HA, HK2, HG⟩ := hrel
        cases gk with
        | zero => exact absurd HA.out (by simp [impl_stepCounts.l2])
        | succ k2 =>
         have H := HA.out
         clear HA
         simp only [impl_stepCounts.l2] at H
         by_cases q5 : j < (st.length : Int)
         ·rw [if_pos q5] at H
          have q5b : decide (j < (st.length : Int)) = true := decide_eq_true q5
          by_cases q6 : 0 ≤ j
          ·rw [if_pos q6] at H
           obtain ⟨z, h1, H⟩ := Option.bind_eq_some_iff.1 H
           have H1 := zA h1
           clear h1
           obtain ⟨adS, eS, hcS⟩ := Kd.at_int (kO HS7.out HG.out.2.2.2.1) j q6 q5
           subst eS
           have HKW := zA (rd_wf HWF.out q6 q5)
           have HMS := zA (rd_mem q6 q5)
           have p4 := eq_true q4
           have pkn := eq_true HKN.out
           have p6 := eq_true q6
           have p5 := eq_true q5
           by_cases q7 : wrap64 (kk - z) = 0
           ·rw [if_pos q7] at H
            have q7b : decide (wrap64 (kk - z) = 0) = true := decide_eq_true q7
            have q7c : decide (wrap64 (kk - z) ≤ 0) = true := decide_eq_true (by omega)
            have HN := zA H
            clear H
            go_wp2_with (first | (refine zO (some 47) Tryd.func43 #[.int .i64 (rd st j)] ?_; (with_reducible refine (impl_size.calls (rd st j) z _ H1.out).mono ?_); rintro e w8 ⟨rfl, hd⟩; refine ⟨_, rfl, ?_⟩; replace HG := zA (grI_drawn HG.out hd); have HRW := zA (grI_row HG.out HMS.out); have hcR := rowAt_cell HRW.out HK0.out HKN.out; have hfR := rowAt_frozen HRW.out kk.toNat; clear hd) | (at_lookup; refine wpList_mg_look rfl (.tmp 51) (.tmp 52) 59 rfl law Tryd.underlying59 zero_sliceD HG.out.1 rfl (rd st j) (G (rd st j)) HKW.out (if_pos HMS.out) _ rfl (Go.Maps.keyOf_int_mk Tryd.underlying2 HKW.out) ?_))
            go_roundg k2
            case measure => have := HK2.out; omega
            case rel => exact ⟨updR R' (rd st j) kk 1, wrap64 (j + 1), rfl, HN, ⟨by have := HK2.out; omega⟩, ⟨grI_set HG.out HMS.out HK0.out HKN.out 1⟩⟩
           rw [if_neg q7] at H
           have q7b : decide (wrap64 (kk - z) = 0) = false := decide_eq_false q7
           by_cases q8 : wrap64 (kk - z) ≤ 0
           ·rw [if_pos q8] at H
            have q8b : decide (wrap64 (kk - z) ≤ 0) = true := decide_eq_true q8
            have HN := zA H
            clear H
            go_wp2_with (first | (refine zO (some 47) Tryd.func43 #[.int .i64 (rd st j)] ?_; (with_reducible refine (impl_size.calls (rd st j) z _ H1.out).mono ?_); rintro e w8 ⟨rfl, hd⟩; refine ⟨_, rfl, ?_⟩; replace HG := zA (grI_drawn HG.out hd); have HRW := zA (grI_row HG.out HMS.out); have hcR := rowAt_cell HRW.out HK0.out HKN.out; have hfR := rowAt_frozen HRW.out kk.toNat; clear hd))
            go_roundg k2
            case measure => have := HK2.out; omega
            case rel => exact ⟨R', wrap64 (j + 1), rfl, HN, ⟨by have := HK2.out; omega⟩, HG⟩
           rw [if_neg q8] at H
           have q8b : decide (wrap64 (kk - z) ≤ 0) = false := decide_eq_false q8
           obtain ⟨R3, h4, H⟩ := Option.bind_eq_some_iff.1 H
           have HN := zA H
           have HD3 := zA h4
           clear H h4
           go_wp2_with (first | (refine zO (some 47) Tryd.func43 #[.int .i64 (rd st j)] ?_; (with_reducible refine (impl_size.calls (rd st j) z _ H1.out).mono ?_); rintro e w8 ⟨rfl, hd⟩; refine ⟨_, rfl, ?_⟩; replace HG := zA (grI_drawn HG.out hd); have HRW := zA (grI_row HG.out HMS.out); have hcR := rowAt_cell HRW.out HK0.out HKN.out; have hfR := rowAt_frozen HRW.out kk.toNat; clear hd))
           clear hcR hfR HRW
           go_loopg [60] k2 (fun gg v60 wr => ∃ (R4 : Int → List Int) (i : Int), v60 = .int .i64 i ∧ Aside0 (impl_stepCounts.l3 gg l0_1 st (rd st j) kk (wrap64 (kk - z)) R4 i = some R3) ∧ Aside0 (gg ≤ k2) ∧ Aside0 (GrI w7 Nn w7.heap.size G st wr R4))
           case atStart => exact ⟨R', 0, rfl, HD3, ⟨Nat.le_refl _⟩, HG⟩
           case round =>
            clear HD3 HG hcS
            obtain ⟨R4, i, rfl, HA, HK3, HG⟩ := hrel
            cases gk with
            | zero => exact absurd HA.out (by simp [impl_stepCounts.l3])
            | succ k3 =>
             have H := HA.out
             clear HA
             simp only [impl_stepCounts.l3] at H
             by_cases q9 : i < (st.length : Int)
             ·rw [if_pos q9] at H
              have q9b : decide (i < (st.length : Int)) = true := decide_eq_true q9
              by_cases q10 : 0 ≤ i
              ·rw [if_pos q10] at H
               obtain ⟨b, h4, H⟩ := Option.bind_eq_some_iff.1 H
               have H4 := zA h4
               clear h4
               obtain ⟨adT, eT, hcT⟩ := Kd.at_int (kO HS7.out HG.out.2.2.2.1) i q10 q9
               have eT2 := Option.some.inj eT
               subst eT2
               have HKI := zA (rd_wf HWF.out q10 q9)
               have HMI := zA (rd_mem q10 q9)
               have p9 := eq_true q9
               have p10 := eq_true q10
               cases b with
               | false =>
                rw [if_neg (by decide)] at H
                have HN4 := zA H
                clear H
                go_wp2_with (first | (refine zO (some 67) Tryd.func44 #[.slice A0_1 l0_1.length c0_1, .int .i64 (rd st j), .int .i64 (rd st i)] ?_; (with_reducible refine (impl_ties_follows.calls k3 _ _ l0_1 (rd st j) (rd st i) _ _ ?side1 ?side2 ?side3 H4.out).mono ?_); (case side1 => exact kO HDL.out HG.out.2.2.2.1); (case side2 => exact HC.out); (case side3 => exact TabW.below (TabW.below HT.out HB7.out) HG.out.2.2.2.1); rintro e w9 ⟨rfl, hb⟩; refine ⟨_, rfl, ?_⟩; replace HG := zA (grI_below HG.out hb); clear hb))
                go_roundg k3
                case measure => have := HK3.out; omega
                case rel => exact ⟨R4, wrap64 (i + 1), rfl, HN4, ⟨by have := HK3.out; omega⟩, HG⟩
               | true =>
                rw [if_pos rfl] at H
                by_cases q11 : 0 ≤ wrap64 (kk - z) ∧ wrap64 (kk - z) ≤ kk
                ·rw [if_pos q11] at H
                 have HN4 := zA H
                 have HR0 := zA q11.1
                 have HRN := zA (show wrap64 (kk - z) < (Nn : Int) by have := HKN.out; omega)
                 have p11 := eq_true q11.1
                 have p12 := eq_true HRN.out
                 clear H
                 go_wp2_with (first | (refine zO (some 67) Tryd.func44 #[.slice A0_1 l0_1.length c0_1, .int .i64 (rd st j), .int .i64 (rd st i)] ?_; (with_reducible refine (impl_ties_follows.calls k3 _ _ l0_1 (rd st j) (rd st i) _ _ ?side1 ?side2 ?side3 H4.out).mono ?_); (case side1 => exact kO HDL.out HG.out.2.2.2.1); (case side2 => exact HC.out); (case side3 => exact TabW.below (TabW.below HT.out HB7.out) HG.out.2.2.2.1); rintro e w9 ⟨rfl, hb⟩; refine ⟨_, rfl, ?_⟩; replace HG := zA (grI_below HG.out hb); have HRJ := zA (grI_row HG.out HMS.out); have hcJ := rowAt_cell HRJ.out HK0.out HKN.out; have hfJ := rowAt_frozen HRJ.out kk.toNat; have HRI := zA (grI_row HG.out HMI.out); have hcI := rowAt_cell HRI.out HR0.out HRN.out; clear hb) | (at_lookup; refine wpList_mg_look rfl (.tmp 68) (.tmp 69) 59 rfl law Tryd.underlying59 zero_sliceD HG.out.1 rfl (rd st j) (G (rd st j)) HKW.out (if_pos HMS.out) _ rfl (Go.Maps.keyOf_int_mk Tryd.underlying2 HKW.out) ?_) | (at_lookup; refine wpList_mg_look rfl (.tmp 74) (.tmp 75) 59 rfl law Tryd.underlying59 zero_sliceD HG.out.1 rfl (rd st i) (G (rd st i)) HKI.out (if_pos HMI.out) _ rfl (Go.Maps.keyOf_int_mk Tryd.underlying2 HKI.out) ?_))
                 clear hcJ hfJ hcI HRJ HRI
                 replace HG := zA (grI_below HG.out (zD (kW w9.heap.size w9)))
                 refine start_ (n := 15) (S := fun w' => MapG Tryd.prog 2 Nn w' w7.heap.size st.length (fun a => decide (a ∈ st)) (fun a => if a ∈ st then (G a : Int) else -1) ∧ w'.cell? ⟨G (rd st j), kk.toNat, none⟩ = some (.int .i64 (rd (R4 (rd st j)) kk)) ∧ w'.cell? ⟨G (rd st i), (wrap64 (kk - z)).toNat, none⟩ = some (.int .i64 (rd (R4 (rd st i)) (wrap64 (kk - z))))) (ds := [14]) #[false, false, false, false, false, false, false, false, false, false, false, false, false, false, false] (by kernel_rfl) rfl rfl ⟨HG.out.1, rowAt_cell (grI_row HG.out HMS.out) HK0.out HKN.out, rowAt_cell (grI_row HG.out HMI.out) HR0.out HRN.out⟩ (fun hHeld => ?_)
                 generalize w9.drew = w10 at HG hHeld ⊢
                 refine pure_ (i := 0) (N := some 68) (v := ?_) (a' := ?_) #[true, false, false, false, false, false, false, false, false, false, false, false, false, false, false] rfl rfl (by kernel_rfl) (fun _ _ _ h => h) (Or.inl ⟨by rfl, ?_⟩) ?_ ?_
                 rotate_left
                 ·intro w'
                  go_simp
                  with_reducible rfl
                 rotate_left
                 ·simp only [Act.put, zL, zM, zN, i64_w, i32_w]
                  rfl
                 refine pure_ (i := 1) (N := some 69) (v := ?_) (a' := ?_) #[true, true, false, false, false, false, false, false, false, false, false, false, false, false, false] rfl rfl (by kernel_rfl) (fun _ _ _ h => h) (Or.inl ⟨by rfl, ?_⟩) ?_ ?_
                 rotate_left
                 ·intro w'
                  go_simp
                  with_reducible rfl
                 rotate_left
                 ·simp only [Act.put, zL, zM, zN, i64_w, i32_w]
                  rfl
                 refine take_ (i := 2) (N := some 70) (v := .slice (some ⟨G (rd st j), 0, none⟩) Nn Nn) (a' := ?_) #[true, true, true, false, false, false, false, false, false, false, false, false, false, false, false] rfl rfl (by kernel_rfl) (fun _ _ _ h => h) (Or.inl ⟨by rfl, ?_⟩) hHeld ?_ ?_
                 ·rintro w' ⟨s0, s1, s2⟩
                  have hr_ := mapG_look law Tryd.underlying59 zero_sliceD s0 (rd st j) (G (rd st j)) HKW.out (if_pos HMS.out) (Go.Maps.keyOf_int_mk Tryd.underlying2 HKW.out)
                  go_simp
                 rotate_left
                 ·simp only [Act.put, zL, zM, zN, i64_w, i32_w]
                  rfl
                 refine pure_ (i := 3) (N := some 71) (v := ?_) (a' := ?_) #[true, true, true, true, false, false, false, false, false, false, false, false, false, false, false] rfl rfl (by kernel_rfl) (fun _ _ _ h => h) (Or.inl ⟨by rfl, ?_⟩) ?_ ?_
                 rotate_left
                 ·intro w'
                  go_simp
                  with_reducible rfl
                 rotate_left
                 ·simp only [Act.put, zL, zM, zN, i64_w, i32_w]
                  rfl
                 refine pure_ (i := 4) (N := some 72) (v := ?_) (a' := ?_) #[true, true, true, true, true, false, false, false, false, false, false, false, false, false, false] rfl rfl (by kernel_rfl) (fun _ _ _ h => h) (Or.inl ⟨by rfl, ?_⟩) ?_ ?_
                 rotate_left
                 ·intro w'
                  go_simp
                  with_reducible rfl
                 rotate_left
                 ·simp only [Act.put, zL, zM, zN, i64_w, i32_w]
                  rfl
                 refine take_ (i := 5) (N := some 73) (v := ?_) (a' := ?_) #[true, true, true, true, true, true, false, false, false, false, false, false, false, false, false] rfl rfl (by kernel_rfl) (fun _ _ _ h => h) (Or.inl ⟨by rfl, ?_⟩) hHeld ?_ ?_
                 rotate_left
                 ·rintro w' ⟨s0, s1, s2⟩
                  go_simp
                  with_reducible rfl
                 rotate_left
                 ·simp only [Act.put, zL, zM, zN, i64_w, i32_w]
                  rfl
                 refine pure_ (i := 6) (N := some 74) (v := ?_) (a' := ?_) #[true, true, true, true, true, true, true, false, false, false, false, false, false, false, false] rfl rfl (by kernel_rfl) (fun _ _ _ h => h) (Or.inl ⟨by rfl, ?_⟩) ?_ ?_
                 rotate_left
                 ·intro w'
                  go_simp
                  with_reducible rfl
                 rotate_left
                 ·simp only [Act.put, zL, zM, zN, i64_w, i32_w]
                  rfl
                 refine pure_ (i := 7) (N := some 75) (v := ?_) (a' := ?_) #[true, true, true, true, true, true, true, true, false, false, false, false, false, false, false] rfl rfl (by kernel_rfl) (fun _ _ _ h => h) (Or.inl ⟨by rfl, ?_⟩) ?_ ?_
                 rotate_left
                 ·intro w'
                  go_simp
                  with_reducible rfl
                 rotate_left
                 ·simp only [Act.put, zL, zM, zN, i64_w, i32_w]
                  rfl
                 refine take_ (i := 8) (N := some 76) (v := .slice (some ⟨G (rd st i), 0, none⟩) Nn Nn) (a' := ?_) #[true, true, true, true, true, true, true, true, true, false, false, false, false, false, false] rfl rfl (by kernel_rfl) (fun _ _ _ h => h) (Or.inl ⟨by rfl, ?_⟩) hHeld ?_ ?_
                 ·rintro w' ⟨s0, s1, s2⟩
                  have hr_ := mapG_look law Tryd.underlying59 zero_sliceD s0 (rd st i) (G (rd st i)) HKI.out (if_pos HMI.out) (Go.Maps.keyOf_int_mk Tryd.underlying2 HKI.out)
                  go_simp
                 rotate_left
                 ·simp only [Act.put, zL, zM, zN, i64_w, i32_w]
                  rfl
                 refine pure_ (i := 9) (N := some 77) (v := ?_) (a' := ?_) #[true, true, true, true, true, true, true, true, true, true, false, false, false, false, false] rfl rfl (by kernel_rfl) (fun _ _ _ h => h) (Or.inl ⟨by rfl, ?_⟩) ?_ ?_
                 rotate_left
                 ·intro w'
                  go_simp
                  with_reducible rfl
                 rotate_left
                 ·simp only [Act.put, zL, zM, zN, i64_w, i32_w]
                  rfl
                 refine pure_ (i := 10) (N := some 78) (v := ?_) (a' := ?_) #[true, true, true, true, true, true, true, true, true, true, true, false, false, false, false] rfl rfl (by kernel_rfl) (fun _ _ _ h => h) (Or.inl ⟨by rfl, ?_⟩) ?_ ?_
                 rotate_left
                 ·intro w'
                  go_simp
                  with_reducible rfl
                 rotate_left
                 ·simp only [Act.put, zL, zM, zN, i64_w, i32_w]
                  rfl
                 refine take_ (i := 11) (N := some 79) (v := ?_) (a' := ?_) #[true, true, true, true, true, true, true, true, true, true, true, true, false, false, false] rfl rfl (by kernel_rfl) (fun _ _ _ h => h) (Or.inl ⟨by rfl, ?_⟩) hHeld ?_ ?_
                 rotate_left
                 ·rintro w' ⟨s0, s1, s2⟩
                  go_simp
                  with_reducible rfl
                 rotate_left
                 ·simp only [Act.put, zL, zM, zN, i64_w, i32_w]
                  rfl
                 refine pure_ (i := 12) (N := some 80) (v := ?_) (a' := ?_) #[true, true, true, true, true, true, true, true, true, true, true, true, true, false, false] rfl rfl (by kernel_rfl) (fun _ _ _ h => h) (Or.inl ⟨by rfl, ?_⟩) ?_ ?_
                 rotate_left
                 ·intro w'
                  go_simp
                  with_reducible rfl
                 rotate_left
                 ·simp only [Act.put, zL, zM, zN, i64_w, i32_w]
                  rfl
                 refine pure_ (i := 13) (N := some 81) (v := ?_) (a' := ?_) #[true, true, true, true, true, true, true, true, true, true, true, true, true, true, false] rfl rfl (by kernel_rfl) (fun _ _ _ h => h) (Or.inl ⟨by rfl, ?_⟩) ?_ ?_
                 rotate_left
                 ·intro w'
                  go_simp
                  with_reducible rfl
                 rotate_left
                 ·simp only [Act.put, zL, zM, zN, i64_w, i32_w]
                  rfl
                 have HRJ := zA (grI_row HG.out HMS.out)
                 have hcJ := rowAt_cell HRJ.out HK0.out HKN.out
                 have hfJ := rowAt_frozen HRJ.out kk.toNat
                 refine last_ (i := 14) (N := none) #[true, true, true, true, true, true, true, true, true, true, true, true, true, true, true] rfl rfl (by kernel_rfl) (by decide) (fun K hK => ?_)
                 refine skip_ (w1 := w10.setCell ⟨G (rd st j), kk.toNat, none⟩ (.int .i64 (wrap64 (rd (R4 (rd st j)) kk + rd (R4 (rd st i)) (wrap64 (kk - z)))))) (by rfl) rfl (by first | (go_simp; done) | (go_simp; rfl)) ?_
                 refine hK.out _ _ ?_
                 clear hK K hcJ hfJ HRJ hHeld
                 refine done_ (by kernel_rfl) ?_
                 go_wp2
                 go_roundg k3
                 case measure => have := HK3.out; omega
                 case rel => exact ⟨_, wrap64 (i + 1), rfl, HN4, ⟨by have := HK3.out; omega⟩, ⟨grI_set HG.out HMS.out HK0.out HKN.out _⟩⟩
                rw [if_neg q11] at H
                cases H
              rw [if_neg q10] at H
              cases H
             rw [if_neg q9] at H
             have q9b : decide (i < (st.length : Int)) = false := decide_eq_false q9
             obtain rfl := Option.some.inj H
             go_wp2
             go_roundg k2
             case measure => have := HK2.out; omega
             case rel => exact ⟨R4, wrap64 (j + 1), rfl, HN, ⟨by have := HK2.out; omega⟩, HG⟩
          rw [if_neg q6] at H
          cases H
         rw [if_neg q5] at H
         have q5b : decide (j < (st.length : Int)) = false := decide_eq_false q5
         obtain rfl := Option.some.inj H
         go_wp2
         go_roundg k1
         case measure => have := HK.out; omega
         case rel => exact ⟨R', wrap64 (kk + 1), rfl, HRR, ⟨by have := HK.out; omega⟩, HG⟩
      rw [if_neg q4] at H
      cases H
     rw [if_neg q3] at H
     have q3b : decide (kk ≤ n) = false := decide_eq_false q3
     obtain rfl := Option.some.inj H
     go_wp2
     go_ret
     exact ⟨_, rfl, HNq.out.symm ▸ ⟨_, G, w7, rfl, HG.out⟩, Below.grown HB7.out (grown_of_below HG.out.2.2.2.1 none) HB7.out.size (fun j hj => by cases hj)⟩
 rw [if_neg q1] at h
 cases h
def impl_CountByFirst.f (k : Nat) (a0_0 : Int) (l0_1 : List Int) (a1 : Int) (a2 : Int) : Option (Int × Int) := (impl_IsAlphabet.f k a0_0 l0_1).bind fun t => if t = true then ((impl_inRange.f a1 0 24).bind fun t1 => if t1 = true then ((impl_IsMask.f a2 a0_0).bind fun t2 => if t2 = true then ((impl_checkCount.f k a0_0 l0_1 a1).bind fun bt => if bt.2 = 0 then (if a2 = 0 ∧ a1 = 0 then some (1, 0) else ((impl_stepCounts.f k a0_0 l0_1 a1).bind fun sR => if (Lit.int .i64 a2).wf = true then (if a2 ∈ sR.1 then (if 0 ≤ a1 then some (rd (sR.2 a2) a1, 0) else none) else some (0, 0)) else none)) else some (0, bt.2)) else some (0, 2)) else some (0, 2)) else some (0, 1)
set_option maxHeartbeats 8000000 in
set_option maxRecDepth 100000 in
theorem impl_CountByFirst.calls (k : Nat) (a0_0 : Int) (A0_1 : Option Addr) (c0_1 : Nat) (l0_1 : List Int) (a1 : Int) (a2 : Int) (r1 : Int) (r2 : Int) (w : World) (hr0_1 : Kd.C (Kd.int .i64) w A0_1 l0_1.length l0_1) (hc0_1 : l0_1.length ≤ c0_1) (hT : TabW w) (h : impl_CountByFirst.f k a0_0 l0_1 a1 a2 = some (r1, r2)) :
  Calls Tryd.prog 16 #[.agg #[.int .i64 a0_0, .slice A0_1 l0_1.length c0_1], .int .i64 a1, .int .i64 a2] w fun e w' => e = .returned (.tuple #[.int .i64 r1, .int .i64 r2]) ∧ Below w.heap.size w w' := by
 have law : Go.Maps.Keyed Tryd.prog 2 := Go.Maps.int_keyed Tryd.underlying2
 have hu := Tryd.underlying29
 have HR := zA hr0_1
 have HC := zA hc0_1
 have HT := zA hT
 clear hr0_1 hc0_1 hT
 have HB := zA (kW w.heap.size w)
 have H := h
 unfold impl_CountByFirst.f at H
 clear h
 obtain ⟨t, A1, H⟩ := zb H
 by_cases c1 : t = true
 ·subst c1
  rw [if_pos rfl] at H
  obtain ⟨t1, A2, H⟩ := zb H
  by_cases c2 : t1 = true
  ·subst c2
   rw [if_pos rfl] at H
   obtain ⟨t2, A3, H⟩ := zb H
   by_cases c3 : t2 = true
   ·subst c3
    rw [if_pos rfl] at H
    obtain ⟨⟨m, cd⟩, A4, H⟩ := zb H
    dsimp only at H
    by_cases c4 : cd = 0
    ·subst c4
     rw [if_pos rfl] at H
     by_cases c5 : a2 = 0 ∧ a1 = 0
     ·rw [if_pos c5] at H
      simp only [Option.some.injEq, Prod.mk.injEq] at H
      obtain ⟨rfl, rfl⟩ := H
      obtain ⟨c51, c51b⟩ := zT1 c5.1
      obtain ⟨c52, c52b⟩ := zT1 c5.2
      clear c5
      go_enter Tryd.func16, Tryd.ntmps16
      go_wp2_with (first | (refine zBE 3 #[.int .i64 a0_0, .slice A0_1 l0_1.length c0_1] 29 ?_; intro gb hg w12 hbox hb; have BK := zA hbox; have GE := zA (zBH hg HB.out); replace HB := zA (kQ (zQ HB.out) hb); clear hb hbox hg; obtain ⟨hcz0, hcz1, hfz0, hfz1⟩ := zB3 BK.out) | (refine zO (some 13) Tryd.func38 #[.agg #[.int .i64 a0_0, .slice A0_1 l0_1.length c0_1]] ?_; (with_reducible refine (impl_IsAlphabet.calls k a0_0 _ _ l0_1 _ _ ?side1 ?side2 ?side3 A1.out).mono ?_); (case side1 => exact zS (kO HR.out HB.out)); (case side2 => exact HC.out); (case side3 => exact TabW.below HT.out (zT HB.out GE.out)); rintro e w14 ⟨rfl, hb⟩; refine ⟨_, rfl, ?_⟩; replace BK := zA (zB1 BK.out hb); replace HB := zA (kQ (zT HB.out GE.out) hb); (try clear hb); obtain ⟨hcx0, hcx1, hfx0, hfx1⟩ := zB3 BK.out) | (refine zO (some 16) Tryd.func39 #[.int .i64 a1, .int .i64 0, .int .i64 24] ?_; (with_reducible refine (impl_inRange.calls a1 0 24 _ _ A2.out).mono ?_); rintro e w' ⟨rfl, ⟨nd, rfl⟩⟩; refine ⟨_, rfl, ?_⟩; obtain ⟨hcy0, hcy1, hfy0, hfy1⟩ := zB3 BK.out) | (go_at_call 40; (with_reducible refine (impl_IsMask.calls a2 a0_0 _ _ A3.out).mono ?_); rintro e w' ⟨rfl, ⟨nd2, rfl⟩⟩; obtain ⟨hcu0, hcu1, hfu0, hfu1⟩ := zB3 BK.out) | (refine zO (some 28) Tryd.func26 #[.agg #[.int .i64 a0_0, .slice A0_1 l0_1.length c0_1], .int .i64 a1] ?_; (with_reducible refine (impl_checkCount.calls k a0_0 _ _ l0_1 _ _ _ _ ?side1 ?side2 ?side3 A4.out).mono ?_); (case side1 => exact zS (kO HR.out (zT HB.out GE.out))); (case side2 => exact HC.out); (case side3 => exact TabW.below HT.out (zT HB.out GE.out)); rintro e w18 ⟨rfl, hb⟩; refine ⟨_, rfl, ?_⟩; replace BK := zA (zB1 BK.out hb); replace HB := zA (kQ (zT HB.out GE.out) hb); (try clear hb); obtain ⟨hcv0, hcv1, hfv0, hfv1⟩ := zB3 BK.out))
      go_ret2
      exact ⟨zr, zT HB.out GE.out⟩
     rw [if_neg c5] at H
     obtain ⟨⟨st, R⟩, A5, H⟩ := zb H
     dsimp only at H
     by_cases c6 : (Lit.int .i64 a2).wf = true
     ·rw [if_pos c6] at H
      by_cases c7 : a2 ∈ st
      ·rw [if_pos c7] at H
       by_cases c8 : 0 ≤ a1
       ·rw [if_pos c8] at H
        have c5b : (a2 = 0 → a1 ≠ 0) := fun x y => c5 ⟨x, y⟩
        by_cases c9 : a2 = 0
        ·obtain ⟨c9b, c9bb⟩ := zT1 c9
         obtain ⟨c10b, c10bb⟩ := zT2 (c5b c9)
         clear c9 c5b c5
         simp only [Option.some.injEq, Prod.mk.injEq] at H
         obtain ⟨rfl, rfl⟩ := H
         go_enter Tryd.func16, Tryd.ntmps16
         go_wp2_with (first | (refine zBE 3 #[.int .i64 a0_0, .slice A0_1 l0_1.length c0_1] 29 ?_; intro gb hg w12 hbox hb; have BK := zA hbox; have GE := zA (zBH hg HB.out); replace HB := zA (kQ (zQ HB.out) hb); clear hb hbox hg; obtain ⟨hcz0, hcz1, hfz0, hfz1⟩ := zB3 BK.out) | (refine zO (some 13) Tryd.func38 #[.agg #[.int .i64 a0_0, .slice A0_1 l0_1.length c0_1]] ?_; (with_reducible refine (impl_IsAlphabet.calls k a0_0 _ _ l0_1 _ _ ?side1 ?side2 ?side3 A1.out).mono ?_); (case side1 => exact zS (kO HR.out HB.out)); (case side2 => exact HC.out); (case side3 => exact TabW.below HT.out (zT HB.out GE.out)); rintro e w14 ⟨rfl, hb⟩; refine ⟨_, rfl, ?_⟩; replace BK := zA (zB1 BK.out hb); replace HB := zA (kQ (zT HB.out GE.out) hb); (try clear hb); obtain ⟨hcx0, hcx1, hfx0, hfx1⟩ := zB3 BK.out) | (refine zO (some 16) Tryd.func39 #[.int .i64 a1, .int .i64 0, .int .i64 24] ?_; (with_reducible refine (impl_inRange.calls a1 0 24 _ _ A2.out).mono ?_); rintro e w' ⟨rfl, ⟨nd, rfl⟩⟩; refine ⟨_, rfl, ?_⟩; obtain ⟨hcy0, hcy1, hfy0, hfy1⟩ := zB3 BK.out) | (go_at_call 40; (with_reducible refine (impl_IsMask.calls a2 a0_0 _ _ A3.out).mono ?_); rintro e w' ⟨rfl, ⟨nd2, rfl⟩⟩; obtain ⟨hcu0, hcu1, hfu0, hfu1⟩ := zB3 BK.out) | (refine zO (some 28) Tryd.func26 #[.agg #[.int .i64 a0_0, .slice A0_1 l0_1.length c0_1], .int .i64 a1] ?_; (with_reducible refine (impl_checkCount.calls k a0_0 _ _ l0_1 _ _ _ _ ?side1 ?side2 ?side3 A4.out).mono ?_); (case side1 => exact zS (kO HR.out (zT HB.out GE.out))); (case side2 => exact HC.out); (case side3 => exact TabW.below HT.out (zT HB.out GE.out)); rintro e w18 ⟨rfl, hb⟩; refine ⟨_, rfl, ?_⟩; replace BK := zA (zB1 BK.out hb); replace HB := zA (kQ (zT HB.out GE.out) hb); (try clear hb); obtain ⟨hcv0, hcv1, hfv0, hfv1⟩ := zB3 BK.out) | (refine zO (some 43) Tryd.func41 #[.agg #[.int .i64 a0_0, .slice A0_1 l0_1.length c0_1], .int .i64 a1] ?_; (with_reducible refine (stepCounts_calls k a0_0 _ _ l0_1 _ st R _ ?side1 ?side2 ?side3 A5.out).mono ?_); (case side1 => exact zS (kO HR.out (zT HB.out GE.out))); (case side2 => exact HC.out); (case side3 => exact TabW.below HT.out (zT HB.out GE.out)); rintro e w19 ⟨v43, rfl, ⟨gm, GG, w20, hv43, hgr⟩, hb⟩; subst hv43; refine ⟨_, rfl, ?_⟩; have HG := zA hgr; clear hgr; replace BK := zA (zB1 BK.out hb); replace HB := zA (kQ (zT HB.out GE.out) hb); (try clear hb)) | (at_lookup; refine wpList_mg_in rfl (.tmp 43) (.tmp 44) 59 rfl law Tryd.underlying59 zero_sliceD HG.out.1 rfl a2 (GG a2) c6 (decide_eq_true c7) (if_pos c7) _ rfl (Go.Maps.keyOf_int_mk Tryd.underlying2 c6) ?_; have hcR := rowAt_cell (grI_row HG.out c7) c8 (show a1 < (((a1 + 1).toNat : Nat) : Int) by omega); have hfR := rowAt_frozen (grI_row HG.out c7) a1.toNat; have c8t := eq_true c8; have c81t := eq_true (show a1 < (((a1 + 1).toNat : Nat) : Int) by omega)))
         go_ret2
         exact ⟨zr, zT HB.out GE.out⟩
        obtain ⟨c9b, c9bb⟩ := zT2 c9
        clear c9 c5b c5
        simp only [Option.some.injEq, Prod.mk.injEq] at H
        obtain ⟨rfl, rfl⟩ := H
        go_enter Tryd.func16, Tryd.ntmps16
        go_wp2_with (first | (refine zBE 3 #[.int .i64 a0_0, .slice A0_1 l0_1.length c0_1] 29 ?_; intro gb hg w12 hbox hb; have BK := zA hbox; have GE := zA (zBH hg HB.out); replace HB := zA (kQ (zQ HB.out) hb); clear hb hbox hg; obtain ⟨hcz0, hcz1, hfz0, hfz1⟩ := zB3 BK.out) | (refine zO (some 13) Tryd.func38 #[.agg #[.int .i64 a0_0, .slice A0_1 l0_1.length c0_1]] ?_; (with_reducible refine (impl_IsAlphabet.calls k a0_0 _ _ l0_1 _ _ ?side1 ?side2 ?side3 A1.out).mono ?_); (case side1 => exact zS (kO HR.out HB.out)); (case side2 => exact HC.out); (case side3 => exact TabW.below HT.out (zT HB.out GE.out)); rintro e w14 ⟨rfl, hb⟩; refine ⟨_, rfl, ?_⟩; replace BK := zA (zB1 BK.out hb); replace HB := zA (kQ (zT HB.out GE.out) hb); (try clear hb); obtain ⟨hcx0, hcx1, hfx0, hfx1⟩ := zB3 BK.out) | (refine zO (some 16) Tryd.func39 #[.int .i64 a1, .int .i64 0, .int .i64 24] ?_; (with_reducible refine (impl_inRange.calls a1 0 24 _ _ A2.out).mono ?_); rintro e w' ⟨rfl, ⟨nd, rfl⟩⟩; refine ⟨_, rfl, ?_⟩; obtain ⟨hcy0, hcy1, hfy0, hfy1⟩ := zB3 BK.out) | (go_at_call 40; (with_reducible refine (impl_IsMask.calls a2 a0_0 _ _ A3.out).mono ?_); rintro e w' ⟨rfl, ⟨nd2, rfl⟩⟩; obtain ⟨hcu0, hcu1, hfu0, hfu1⟩ := zB3 BK.out) | (refine zO (some 28) Tryd.func26 #[.agg #[.int .i64 a0_0, .slice A0_1 l0_1.length c0_1], .int .i64 a1] ?_; (with_reducible refine (impl_checkCount.calls k a0_0 _ _ l0_1 _ _ _ _ ?side1 ?side2 ?side3 A4.out).mono ?_); (case side1 => exact zS (kO HR.out (zT HB.out GE.out))); (case side2 => exact HC.out); (case side3 => exact TabW.below HT.out (zT HB.out GE.out)); rintro e w18 ⟨rfl, hb⟩; refine ⟨_, rfl, ?_⟩; replace BK := zA (zB1 BK.out hb); replace HB := zA (kQ (zT HB.out GE.out) hb); (try clear hb); obtain ⟨hcv0, hcv1, hfv0, hfv1⟩ := zB3 BK.out) | (refine zO (some 43) Tryd.func41 #[.agg #[.int .i64 a0_0, .slice A0_1 l0_1.length c0_1], .int .i64 a1] ?_; (with_reducible refine (stepCounts_calls k a0_0 _ _ l0_1 _ st R _ ?side1 ?side2 ?side3 A5.out).mono ?_); (case side1 => exact zS (kO HR.out (zT HB.out GE.out))); (case side2 => exact HC.out); (case side3 => exact TabW.below HT.out (zT HB.out GE.out)); rintro e w19 ⟨v43, rfl, ⟨gm, GG, w20, hv43, hgr⟩, hb⟩; subst hv43; refine ⟨_, rfl, ?_⟩; have HG := zA hgr; clear hgr; replace BK := zA (zB1 BK.out hb); replace HB := zA (kQ (zT HB.out GE.out) hb); (try clear hb)) | (at_lookup; refine wpList_mg_in rfl (.tmp 43) (.tmp 44) 59 rfl law Tryd.underlying59 zero_sliceD HG.out.1 rfl a2 (GG a2) c6 (decide_eq_true c7) (if_pos c7) _ rfl (Go.Maps.keyOf_int_mk Tryd.underlying2 c6) ?_; have hcR := rowAt_cell (grI_row HG.out c7) c8 (show a1 < (((a1 + 1).toNat : Nat) : Int) by omega); have hfR := rowAt_frozen (grI_row HG.out c7) a1.toNat; have c8t := eq_true c8; have c81t := eq_true (show a1 < (((a1 + 1).toNat : Nat) : Int) by omega)))
        go_ret2
        exact ⟨zr, zT HB.out GE.out⟩
       rw [if_neg c8] at H
       exact absurd H (by simp)
      rw [if_neg c7] at H
      have c5b : (a2 = 0 → a1 ≠ 0) := fun x y => c5 ⟨x, y⟩
      by_cases c9 : a2 = 0
      ·obtain ⟨c9b, c9bb⟩ := zT1 c9
       obtain ⟨c10b, c10bb⟩ := zT2 (c5b c9)
       clear c9 c5b c5
       simp only [Option.some.injEq, Prod.mk.injEq] at H
       obtain ⟨rfl, rfl⟩ := H
       go_enter Tryd.func16, Tryd.ntmps16
       go_wp2_with (first | (refine zBE 3 #[.int .i64 a0_0, .slice A0_1 l0_1.length c0_1] 29 ?_; intro gb hg w12 hbox hb; have BK := zA hbox; have GE := zA (zBH hg HB.out); replace HB := zA (kQ (zQ HB.out) hb); clear hb hbox hg; obtain ⟨hcz0, hcz1, hfz0, hfz1⟩ := zB3 BK.out) | (refine zO (some 13) Tryd.func38 #[.agg #[.int .i64 a0_0, .slice A0_1 l0_1.length c0_1]] ?_; (with_reducible refine (impl_IsAlphabet.calls k a0_0 _ _ l0_1 _ _ ?side1 ?side2 ?side3 A1.out).mono ?_); (case side1 => exact zS (kO HR.out HB.out)); (case side2 => exact HC.out); (case side3 => exact TabW.below HT.out (zT HB.out GE.out)); rintro e w14 ⟨rfl, hb⟩; refine ⟨_, rfl, ?_⟩; replace BK := zA (zB1 BK.out hb); replace HB := zA (kQ (zT HB.out GE.out) hb); (try clear hb); obtain ⟨hcx0, hcx1, hfx0, hfx1⟩ := zB3 BK.out) | (refine zO (some 16) Tryd.func39 #[.int .i64 a1, .int .i64 0, .int .i64 24] ?_; (with_reducible refine (impl_inRange.calls a1 0 24 _ _ A2.out).mono ?_); rintro e w' ⟨rfl, ⟨nd, rfl⟩⟩; refine ⟨_, rfl, ?_⟩; obtain ⟨hcy0, hcy1, hfy0, hfy1⟩ := zB3 BK.out) | (go_at_call 40; (with_reducible refine (impl_IsMask.calls a2 a0_0 _ _ A3.out).mono ?_); rintro e w' ⟨rfl, ⟨nd2, rfl⟩⟩; obtain ⟨hcu0, hcu1, hfu0, hfu1⟩ := zB3 BK.out) | (refine zO (some 28) Tryd.func26 #[.agg #[.int .i64 a0_0, .slice A0_1 l0_1.length c0_1], .int .i64 a1] ?_; (with_reducible refine (impl_checkCount.calls k a0_0 _ _ l0_1 _ _ _ _ ?side1 ?side2 ?side3 A4.out).mono ?_); (case side1 => exact zS (kO HR.out (zT HB.out GE.out))); (case side2 => exact HC.out); (case side3 => exact TabW.below HT.out (zT HB.out GE.out)); rintro e w18 ⟨rfl, hb⟩; refine ⟨_, rfl, ?_⟩; replace BK := zA (zB1 BK.out hb); replace HB := zA (kQ (zT HB.out GE.out) hb); (try clear hb); obtain ⟨hcv0, hcv1, hfv0, hfv1⟩ := zB3 BK.out) | (refine zO (some 43) Tryd.func41 #[.agg #[.int .i64 a0_0, .slice A0_1 l0_1.length c0_1], .int .i64 a1] ?_; (with_reducible refine (stepCounts_calls k a0_0 _ _ l0_1 _ st R _ ?side1 ?side2 ?side3 A5.out).mono ?_); (case side1 => exact zS (kO HR.out (zT HB.out GE.out))); (case side2 => exact HC.out); (case side3 => exact TabW.below HT.out (zT HB.out GE.out)); rintro e w19 ⟨v43, rfl, ⟨gm, GG, w20, hv43, hgr⟩, hb⟩; subst hv43; refine ⟨_, rfl, ?_⟩; have HG := zA hgr; clear hgr; replace BK := zA (zB1 BK.out hb); replace HB := zA (kQ (zT HB.out GE.out) hb); (try clear hb)) | (at_lookup; refine wpList_mg_out rfl (.tmp 43) (.tmp 44) 59 rfl law Tryd.underlying59 zero_sliceD HG.out.1 rfl a2 c6 (decide_eq_false c7) (if_neg c7) _ rfl (Go.Maps.keyOf_int_mk Tryd.underlying2 c6) ?_))
       go_ret2
       exact ⟨zr, zT HB.out GE.out⟩
      obtain ⟨c9b, c9bb⟩ := zT2 c9
      clear c9 c5b c5
      simp only [Option.some.injEq, Prod.mk.injEq] at H
      obtain ⟨rfl, rfl⟩ := H
      go_enter Tryd.func16, Tryd.ntmps16
      go_wp2_with (first | (refine zBE 3 #[.int .i64 a0_0, .slice A0_1 l0_1.length c0_1] 29 ?_; intro gb hg w12 hbox hb; have BK := zA hbox; have GE := zA (zBH hg HB.out); replace HB := zA (kQ (zQ HB.out) hb); clear hb hbox hg; obtain ⟨hcz0, hcz1, hfz0, hfz1⟩ := zB3 BK.out) | (refine zO (some 13) Tryd.func38 #[.agg #[.int .i64 a0_0, .slice A0_1 l0_1.length c0_1]] ?_; (with_reducible refine (impl_IsAlphabet.calls k a0_0 _ _ l0_1 _ _ ?side1 ?side2 ?side3 A1.out).mono ?_); (case side1 => exact zS (kO HR.out HB.out)); (case side2 => exact HC.out); (case side3 => exact TabW.below HT.out (zT HB.out GE.out)); rintro e w14 ⟨rfl, hb⟩; refine ⟨_, rfl, ?_⟩; replace BK := zA (zB1 BK.out hb); replace HB := zA (kQ (zT HB.out GE.out) hb); (try clear hb); obtain ⟨hcx0, hcx1, hfx0, hfx1⟩ := zB3 BK.out) | (refine zO (some 16) Tryd.func39 #[.int .i64 a1, .int .i64 0, .int .i64 24] ?_; (with_reducible refine (impl_inRange.calls a1 0 24 _ _ A2.out).mono ?_); rintro e w' ⟨rfl, ⟨nd, rfl⟩⟩; refine ⟨_, rfl, ?_⟩; obtain ⟨hcy0, hcy1, hfy0, hfy1⟩ := zB3 BK.out) | (go_at_call 40; (with_reducible refine (impl_IsMask.calls a2 a0_0 _ _ A3.out).mono ?_); rintro e w' ⟨rfl, ⟨nd2, rfl⟩⟩; obtain ⟨hcu0, hcu1, hfu0, hfu1⟩ := zB3 BK.out) | (refine zO (some 28) Tryd.func26 #[.agg #[.int .i64 a0_0, .slice A0_1 l0_1.length c0_1], .int .i64 a1] ?_; (with_reducible refine (impl_checkCount.calls k a0_0 _ _ l0_1 _ _ _ _ ?side1 ?side2 ?side3 A4.out).mono ?_); (case side1 => exact zS (kO HR.out (zT HB.out GE.out))); (case side2 => exact HC.out); (case side3 => exact TabW.below HT.out (zT HB.out GE.out)); rintro e w18 ⟨rfl, hb⟩; refine ⟨_, rfl, ?_⟩; replace BK := zA (zB1 BK.out hb); replace HB := zA (kQ (zT HB.out GE.out) hb); (try clear hb); obtain ⟨hcv0, hcv1, hfv0, hfv1⟩ := zB3 BK.out) | (refine zO (some 43) Tryd.func41 #[.agg #[.int .i64 a0_0, .slice A0_1 l0_1.length c0_1], .int .i64 a1] ?_; (with_reducible refine (stepCounts_calls k a0_0 _ _ l0_1 _ st R _ ?side1 ?side2 ?side3 A5.out).mono ?_); (case side1 => exact zS (kO HR.out (zT HB.out GE.out))); (case side2 => exact HC.out); (case side3 => exact TabW.below HT.out (zT HB.out GE.out)); rintro e w19 ⟨v43, rfl, ⟨gm, GG, w20, hv43, hgr⟩, hb⟩; subst hv43; refine ⟨_, rfl, ?_⟩; have HG := zA hgr; clear hgr; replace BK := zA (zB1 BK.out hb); replace HB := zA (kQ (zT HB.out GE.out) hb); (try clear hb)) | (at_lookup; refine wpList_mg_out rfl (.tmp 43) (.tmp 44) 59 rfl law Tryd.underlying59 zero_sliceD HG.out.1 rfl a2 c6 (decide_eq_false c7) (if_neg c7) _ rfl (Go.Maps.keyOf_int_mk Tryd.underlying2 c6) ?_))
      go_ret2
      exact ⟨zr, zT HB.out GE.out⟩
     rw [if_neg c6] at H
     exact absurd H (by simp)
    rw [if_neg c4] at H
    have c4b : decide (cd = 0) = false := decide_eq_false c4
    have c4c : decide (cd ≠ 0) = true := decide_eq_true c4
    simp only [Option.some.injEq, Prod.mk.injEq] at H
    obtain ⟨rfl, rfl⟩ := H
    go_enter Tryd.func16, Tryd.ntmps16
    go_wp2_with (first | (refine zBE 3 #[.int .i64 a0_0, .slice A0_1 l0_1.length c0_1] 29 ?_; intro gb hg w12 hbox hb; have BK := zA hbox; have GE := zA (zBH hg HB.out); replace HB := zA (kQ (zQ HB.out) hb); clear hb hbox hg; obtain ⟨hcz0, hcz1, hfz0, hfz1⟩ := zB3 BK.out) | (refine zO (some 13) Tryd.func38 #[.agg #[.int .i64 a0_0, .slice A0_1 l0_1.length c0_1]] ?_; (with_reducible refine (impl_IsAlphabet.calls k a0_0 _ _ l0_1 _ _ ?side1 ?side2 ?side3 A1.out).mono ?_); (case side1 => exact zS (kO HR.out HB.out)); (case side2 => exact HC.out); (case side3 => exact TabW.below HT.out (zT HB.out GE.out)); rintro e w14 ⟨rfl, hb⟩; refine ⟨_, rfl, ?_⟩; replace BK := zA (zB1 BK.out hb); replace HB := zA (kQ (zT HB.out GE.out) hb); (try clear hb); obtain ⟨hcx0, hcx1, hfx0, hfx1⟩ := zB3 BK.out) | (refine zO (some 16) Tryd.func39 #[.int .i64 a1, .int .i64 0, .int .i64 24] ?_; (with_reducible refine (impl_inRange.calls a1 0 24 _ _ A2.out).mono ?_); rintro e w' ⟨rfl, ⟨nd, rfl⟩⟩; refine ⟨_, rfl, ?_⟩; obtain ⟨hcy0, hcy1, hfy0, hfy1⟩ := zB3 BK.out) | (go_at_call 40; (with_reducible refine (impl_IsMask.calls a2 a0_0 _ _ A3.out).mono ?_); rintro e w' ⟨rfl, ⟨nd2, rfl⟩⟩; obtain ⟨hcu0, hcu1, hfu0, hfu1⟩ := zB3 BK.out) | (refine zO (some 28) Tryd.func26 #[.agg #[.int .i64 a0_0, .slice A0_1 l0_1.length c0_1], .int .i64 a1] ?_; (with_reducible refine (impl_checkCount.calls k a0_0 _ _ l0_1 _ _ _ _ ?side1 ?side2 ?side3 A4.out).mono ?_); (case side1 => exact zS (kO HR.out (zT HB.out GE.out))); (case side2 => exact HC.out); (case side3 => exact TabW.below HT.out (zT HB.out GE.out)); rintro e w18 ⟨rfl, hb⟩; refine ⟨_, rfl, ?_⟩; replace BK := zA (zB1 BK.out hb); replace HB := zA (kQ (zT HB.out GE.out) hb); (try clear hb); obtain ⟨hcv0, hcv1, hfv0, hfv1⟩ := zB3 BK.out))
    go_ret2
    exact ⟨zr, zT HB.out GE.out⟩
   rw [if_neg c3] at H
   obtain rfl : t2 = false := by cases t2 <;> simp_all
   simp only [Option.some.injEq, Prod.mk.injEq] at H
   obtain ⟨rfl, rfl⟩ := H
   go_enter Tryd.func16, Tryd.ntmps16
   go_wp2_with (first | (refine zBE 3 #[.int .i64 a0_0, .slice A0_1 l0_1.length c0_1] 29 ?_; intro gb hg w12 hbox hb; have BK := zA hbox; have GE := zA (zBH hg HB.out); replace HB := zA (kQ (zQ HB.out) hb); clear hb hbox hg; obtain ⟨hcz0, hcz1, hfz0, hfz1⟩ := zB3 BK.out) | (refine zO (some 13) Tryd.func38 #[.agg #[.int .i64 a0_0, .slice A0_1 l0_1.length c0_1]] ?_; (with_reducible refine (impl_IsAlphabet.calls k a0_0 _ _ l0_1 _ _ ?side1 ?side2 ?side3 A1.out).mono ?_); (case side1 => exact zS (kO HR.out HB.out)); (case side2 => exact HC.out); (case side3 => exact TabW.below HT.out (zT HB.out GE.out)); rintro e w14 ⟨rfl, hb⟩; refine ⟨_, rfl, ?_⟩; replace BK := zA (zB1 BK.out hb); replace HB := zA (kQ (zT HB.out GE.out) hb); (try clear hb); obtain ⟨hcx0, hcx1, hfx0, hfx1⟩ := zB3 BK.out) | (refine zO (some 16) Tryd.func39 #[.int .i64 a1, .int .i64 0, .int .i64 24] ?_; (with_reducible refine (impl_inRange.calls a1 0 24 _ _ A2.out).mono ?_); rintro e w' ⟨rfl, ⟨nd, rfl⟩⟩; refine ⟨_, rfl, ?_⟩; obtain ⟨hcy0, hcy1, hfy0, hfy1⟩ := zB3 BK.out) | (go_at_call 40; (with_reducible refine (impl_IsMask.calls a2 a0_0 _ _ A3.out).mono ?_); rintro e w' ⟨rfl, ⟨nd2, rfl⟩⟩; obtain ⟨hcu0, hcu1, hfu0, hfu1⟩ := zB3 BK.out))
   go_ret2
   exact ⟨zr, zT HB.out GE.out⟩
  rw [if_neg c2] at H
  obtain rfl : t1 = false := by cases t1 <;> simp_all
  simp only [Option.some.injEq, Prod.mk.injEq] at H
  obtain ⟨rfl, rfl⟩ := H
  go_enter Tryd.func16, Tryd.ntmps16
  go_wp2_with (first | (refine zBE 3 #[.int .i64 a0_0, .slice A0_1 l0_1.length c0_1] 29 ?_; intro gb hg w12 hbox hb; have BK := zA hbox; have GE := zA (zBH hg HB.out); replace HB := zA (kQ (zQ HB.out) hb); clear hb hbox hg; obtain ⟨hcz0, hcz1, hfz0, hfz1⟩ := zB3 BK.out) | (refine zO (some 13) Tryd.func38 #[.agg #[.int .i64 a0_0, .slice A0_1 l0_1.length c0_1]] ?_; (with_reducible refine (impl_IsAlphabet.calls k a0_0 _ _ l0_1 _ _ ?side1 ?side2 ?side3 A1.out).mono ?_); (case side1 => exact zS (kO HR.out HB.out)); (case side2 => exact HC.out); (case side3 => exact TabW.below HT.out (zT HB.out GE.out)); rintro e w14 ⟨rfl, hb⟩; refine ⟨_, rfl, ?_⟩; replace BK := zA (zB1 BK.out hb); replace HB := zA (kQ (zT HB.out GE.out) hb); (try clear hb); obtain ⟨hcx0, hcx1, hfx0, hfx1⟩ := zB3 BK.out) | (refine zO (some 16) Tryd.func39 #[.int .i64 a1, .int .i64 0, .int .i64 24] ?_; (with_reducible refine (impl_inRange.calls a1 0 24 _ _ A2.out).mono ?_); rintro e w' ⟨rfl, ⟨nd, rfl⟩⟩; refine ⟨_, rfl, ?_⟩; obtain ⟨hcy0, hcy1, hfy0, hfy1⟩ := zB3 BK.out))
  go_ret2
  exact ⟨zr, zT HB.out GE.out⟩
 rw [if_neg c1] at H
 obtain rfl : t = false := by cases t <;> simp_all
 simp only [Option.some.injEq, Prod.mk.injEq] at H
 obtain ⟨rfl, rfl⟩ := H
 go_enter Tryd.func16, Tryd.ntmps16
 go_wp2_with (first | (refine zBE 3 #[.int .i64 a0_0, .slice A0_1 l0_1.length c0_1] 29 ?_; intro gb hg w12 hbox hb; have BK := zA hbox; have GE := zA (zBH hg HB.out); replace HB := zA (kQ (zQ HB.out) hb); clear hb hbox hg; obtain ⟨hcz0, hcz1, hfz0, hfz1⟩ := zB3 BK.out) | (refine zO (some 13) Tryd.func38 #[.agg #[.int .i64 a0_0, .slice A0_1 l0_1.length c0_1]] ?_; (with_reducible refine (impl_IsAlphabet.calls k a0_0 _ _ l0_1 _ _ ?side1 ?side2 ?side3 A1.out).mono ?_); (case side1 => exact zS (kO HR.out HB.out)); (case side2 => exact HC.out); (case side3 => exact TabW.below HT.out (zT HB.out GE.out)); rintro e w14 ⟨rfl, hb⟩; refine ⟨_, rfl, ?_⟩; replace BK := zA (zB1 BK.out hb); replace HB := zA (kQ (zT HB.out GE.out) hb); (try clear hb); obtain ⟨hcx0, hcx1, hfx0, hfx1⟩ := zB3 BK.out))
 go_ret2
 exact ⟨zr, zT HB.out GE.out⟩

/-! ### laws_FnExactCountByFirst: function 4 -/
def laws_FnExactCountByFirst.f (k : Nat) (a0_0 : Int) (l0_1 : List Int) (a1 : Int) (a2 : Int) : Option (Bool) := (laws_szAlphabet.f a0_0 l0_1 1048576).bind fun t487 => (if t487 < 0 then (some true) else ((laws_toAlphabet.f k a0_0 l0_1).bind fun bt488 => ((spec_CountByFirst.f k bt488.1 bt488.2 a1 a2).bind fun bt492 => ((laws_toAlphabet.f k a0_0 l0_1).bind fun bt494 => ((impl_CountByFirst.f k bt494.1 bt494.2 a1 a2).bind fun bt499 => (if bt499.1 = bt492.1 then (if bt499.2 = bt492.2 then ((laws_toAlphabet.f k a0_0 l0_1).bind fun bt501 => ((laws_eqAlphabet.f k bt494.1 bt494.2 bt501.1 bt501.2).bind fun t505 => (if t505 = true then (some true) else (none)))) else (none)) else (none)))))))

set_option maxHeartbeats 8000000 in
set_option maxRecDepth 100000 in
theorem laws_FnExactCountByFirst.calls (k : Nat) (a0_0 : Int) (A0_1 : Option Addr) (c0_1 : Nat) (l0_1 : List Int) (a1 : Int) (a2 : Int) (r : Bool) (w : World) (hr0_1 : Kd.C (Kd.int .i64) w A0_1 l0_1.length l0_1) (hc0_1 : l0_1.length ≤ c0_1) (hT : TabW w) (h : laws_FnExactCountByFirst.f k a0_0 l0_1 a1 a2 = some r) :
  Calls Tryd.prog 4 #[.agg #[.int .i64 a0_0, .slice A0_1 l0_1.length c0_1], .int .i64 a1, .int .i64 a2] w fun e w' => e = .returned (.bool r) ∧ Below w.heap.size w w' := by
 have hu24 := Tryd.underlying24
 have hu29 := Tryd.underlying29
 have HT := zA hT
 clear hT
 have HR0_1 := zA hr0_1
 have HC0_1 := zA hc0_1
 clear hr0_1 hc0_1
 have HB := zA (kW w.heap.size w)
 have H := h
 unfold laws_FnExactCountByFirst.f at H
 clear h
 obtain ⟨t487, A4, H⟩ := zb H
 try dsimp only at H
 by_cases c5 : t487 < 0
 ·rw [if_pos c5] at H
  have c5b0 : decide (t487 < 0) = true := decide_eq_true c5
  clear c5
  obtain rfl := Option.some.inj H
  go_enter Tryd.func4, Tryd.ntmps4
  go_wp2_with (first | (refine zBE 3 #[.int .i64 a0_0, .slice A0_1 l0_1.length c0_1] 24 ?_; intro gb486 hg w6 hbox hb; have BK486 := zA (hbox); have GW486 := zA (zBH hg HB.out); have GE486 := zA (zBH hg HB.out); replace HB := zA (kQ (zQ HB.out) hb); clear hb hbox hg; obtain ⟨hcz7_0, hcz7_1, hfz7_0, hfz7_1⟩ := zB3 BK486.out) | (refine zO (some 15) Tryd.func6 #[.agg #[.int .i64 a0_0, .slice A0_1 l0_1.length c0_1], .int .i64 1048576] ?_; (with_reducible refine (laws_szAlphabet.calls a0_0 _ _ l0_1 1048576 t487 _ ?side1 ?side2 A4.out).mono ?_); (case side1 => exact zS (kO HR0_1.out HB.out)); (case side2 => exact HC0_1.out); rintro e w8 ⟨rfl, hb⟩; refine ⟨_, rfl, ?_⟩; replace BK486 := zA (zB1 BK486.out hb); replace HB := zA (kQ (zT HB.out GE486.out) hb); (try clear hb)))
  go_ret
  exact ⟨zr, zT HB.out GE486.out⟩
 rw [if_neg c5] at H
 have c5b0 : decide (t487 < 0) = false := decide_eq_false c5
 clear c5
 obtain ⟨⟨t488, t489⟩, A9, H⟩ := zb H
 try dsimp only at H
 obtain ⟨⟨t492, t493⟩, A10, H⟩ := zb H
 try dsimp only at H
 obtain ⟨⟨t494, t495⟩, A11, H⟩ := zb H
 try dsimp only at H
 obtain ⟨⟨t499, t500⟩, A12, H⟩ := zb H
 try dsimp only at H
 by_cases c13 : t499 = t492
 ·rw [if_pos c13] at H
  obtain ⟨c13b0, c13b1⟩ := zT1 c13
  clear c13
  by_cases c14 : t500 = t493
  ·rw [if_pos c14] at H
   obtain ⟨c14b0, c14b1⟩ := zT1 c14
   clear c14
   obtain ⟨⟨t501, t502⟩, A15, H⟩ := zb H
   try dsimp only at H
   obtain ⟨t505, A16, H⟩ := zb H
   try dsimp only at H
   by_cases c17 : t505 = true
   ·subst c17
    rw [if_pos rfl] at H
    obtain rfl := Option.some.inj H
    go_enter Tryd.func4, Tryd.ntmps4
    try go_wp2_with (first | (refine zBE 3 #[.int .i64 a0_0, .slice A0_1 l0_1.length c0_1] 24 ?_; intro gb486 hg w18 hbox hb; have BK486 := zA (hbox); have GW486 := zA (zBH hg HB.out); have GE486 := zA (zBH hg HB.out); replace HB := zA (kQ (zQ HB.out) hb); clear hb hbox hg; obtain ⟨hcz19_0, hcz19_1, hfz19_0, hfz19_1⟩ := zB3 BK486.out) | (refine zO (some 15) Tryd.func6 #[.agg #[.int .i64 a0_0, .slice A0_1 l0_1.length c0_1], .int .i64 1048576] ?_; (with_reducible refine (laws_szAlphabet.calls a0_0 _ _ l0_1 1048576 t487 _ ?side1 ?side2 A4.out).mono ?_); (case side1 => exact zS (kO HR0_1.out HB.out)); (case side2 => exact HC0_1.out); rintro e w20 ⟨rfl, hb⟩; refine ⟨_, rfl, ?_⟩; replace BK486 := zA (zB1 BK486.out hb); replace HB := zA (kQ (zT HB.out GE486.out) hb); (try clear hb); obtain ⟨hcz21_0, hcz21_1, hfz21_0, hfz21_1⟩ := zB3 BK486.out) | (refine zO (some 20) Tryd.func8 #[.agg #[.int .i64 a0_0, .slice A0_1 l0_1.length c0_1]] ?_; (with_reducible refine (laws_toAlphabet.calls k a0_0 _ _ l0_1 t488 t489 _ ?side1 ?side2 A9.out).mono ?_); (case side1 => exact zS (kO HR0_1.out HB.out)); (case side2 => exact HC0_1.out); rintro e w22 ⟨v490, rfl, ho0, hb⟩; refine ⟨_, rfl, ?_⟩; have HO491 := zA (kI ho0 (kP (zT HB.out GE486.out))); replace BK486 := zA (zB1 BK486.out hb); replace HB := zA (kQ (zT HB.out GE486.out) hb); (try clear hb); (try clear ho0); obtain ⟨Ao23, co23, eo23⟩ := kM HO491.out; subst eo23) | (refine zO (some 23) Tryd.func15 #[.agg #[.int .i64 t488, .slice Ao23 t489.length co23], .int .i64 a1, .int .i64 a2] ?_; (with_reducible refine (spec_CountByFirst.calls k t488 _ _ t489 a1 a2 t492 t493 _ ?side1 ?side2 A10.out).mono ?_); (case side1 => exact zS (kB HO491.out).2.2); (case side2 => exact (kB HO491.out).2.1); rintro e w24 ⟨rfl, hb⟩; refine ⟨_, rfl, ?_⟩; replace HO491 := zA (kL (zP HO491.out) hb); replace BK486 := zA (zB1 BK486.out hb); replace HB := zA (kQ (zT HB.out GE486.out) hb); (try clear hb); obtain ⟨hcz25_0, hcz25_1, hfz25_0, hfz25_1⟩ := zB3 BK486.out) | (refine zO (some 27) Tryd.func8 #[.agg #[.int .i64 a0_0, .slice A0_1 l0_1.length c0_1]] ?_; (with_reducible refine (laws_toAlphabet.calls k a0_0 _ _ l0_1 t494 t495 _ ?side1 ?side2 A11.out).mono ?_); (case side1 => exact zS (kO HR0_1.out HB.out)); (case side2 => exact HC0_1.out); rintro e w26 ⟨v496, rfl, ho0, hb⟩; refine ⟨_, rfl, ?_⟩; have HO497 := zA (kI (kF ho0 (kH (zP HO491.out))) (kP (zT HB.out GE486.out))); replace HO491 := zA (kE (zP HO491.out) (kC ho0) hb); replace BK486 := zA (zB1 BK486.out hb); replace HB := zA (kQ (zT HB.out GE486.out) hb); (try clear hb); (try clear ho0)) | (refine zBE 10 #[.int .i64 0, .slice none 0 0] 29 ?_; intro gb498 hg w27 hbox hb; replace HO491 := zA (kL (zP HO491.out) hb); replace HO497 := zA (kL (zP HO497.out) hb); have BK498 := zA (hbox); have GW498 := zA (zB6 hg (kP (zT HB.out GE486.out)) : w.heap.size ≤ gb498); have GE498 := zA (zB6 hg (kP (zT HB.out GE486.out)) : w.heap.size ≤ gb498); replace HB := zA (kQ (zT HB.out GE486.out) hb); have NB486_498 := zA (zB4 hg BK486.out : gb486 ≠ gb498); have NB498_486 := zA (zB5 hg BK486.out : gb498 ≠ gb486); replace BK486 := zA (zB1 BK486.out hb); clear hb hbox hg; have hnb28 := NB498_486.out; have hnc28 := NB486_498.out; obtain ⟨hcz29_0, hcz29_1, hfz29_0, hfz29_1⟩ := zB3 BK498.out; obtain ⟨Ao30, co30, eo30⟩ := kM HO497.out; subst eo30) | (refine zO (some 32) Tryd.func16 #[.agg #[.int .i64 t494, .slice Ao30 t495.length co30], .int .i64 a1, .int .i64 a2] ?_; (with_reducible refine (impl_CountByFirst.calls k t494 _ _ t495 a1 a2 t499 t500 _ ?side1 ?side2 ?side3 A12.out).mono ?_); (case side1 => refine (kB (e := 2) (base := w.heap.size) (ok := fun k_ => (True ∧ some k_ ≠ (.slice Ao23 t489.length co23 : Value).ownBlock)) (n := t495.length) (c := co30) ?_).2.2; exact (zP (zFG HO497.out BK498.out (.int .i64 t494) (.slice Ao30 t495.length co30)))); (case side2 => exact (kB HO497.out).2.1); (case side3 => exact TabW.below HT.out (zV HB.out GE486.out GE498.out)); rintro e w31 ⟨rfl, hb⟩; refine ⟨_, rfl, ?_⟩; replace HO491 := zA (kL (zP (zFG HO491.out BK498.out (.int .i64 t494) (.slice Ao30 t495.length co30))) hb); replace HO497 := zA (kL (zP (zFG HO497.out BK498.out (.int .i64 t494) (.slice Ao30 t495.length co30))) hb); replace BK486 := zA (blk_below (g := gb486) (o := .cells #[.int .i64 a0_0, .slice A0_1 l0_1.length c0_1] 24 (0, 0)) (zBG BK486.out NB486_498.out NB486_498.out) hb); replace BK498 := zA (blk_below (g := gb498) (o := .cells #[.int .i64 t494, .slice Ao30 t495.length co30] 29 (0, 0)) (zRP BK498.out) hb); replace HB := zA (kQ (zV HB.out GE486.out GE498.out) hb); (try clear hb)))
    replace HO491 := zA (zH HO491.out)
    replace HO497 := zA (zH HO497.out)
    replace BK486 := zA (zK BK486.out)
    replace BK498 := zA (zK BK498.out)
    replace HB := zA (zD HB.out)
    refine start_ (n := 5) (S := fun w' => w'.cell? ⟨gb498, 0, none⟩ = some (.int .i64 t494) ∧ w'.cell? ⟨gb498, 1, none⟩ = some (.slice Ao30 t495.length co30) ∧ w'.cell? ⟨gb486, 0, none⟩ = some (.int .i64 a0_0) ∧ w'.cell? ⟨gb486, 1, none⟩ = some (.slice A0_1 l0_1.length c0_1)) (ds := []) #[false, false, false, false, false] (by kernel_rfl) rfl rfl ⟨(kV BK498.out 0).trans rfl, (kV BK498.out 1).trans rfl, (kV BK486.out 0).trans rfl, (kV BK486.out 1).trans rfl⟩ (fun hHeld => ?_)
    generalize w31.drew = w32 at HO491 HO497 BK486 BK498 HB hHeld ⊢
    refine take_ (i := 0) (N := some 43) (v := ?_) (a' := ?_) #[true, false, false, false, false] rfl rfl (by kernel_rfl) (fun _ _ _ h => h) (Or.inl ⟨by rfl, ?_⟩) hHeld ?_ ?_
    rotate_left
    ·rintro w' ⟨s0, s1, s2, s3⟩
     go_simp
     with_reducible rfl
    rotate_left
    ·simp only [Act.put, zL, zM, zN, i64_w, i32_w]
     rfl
    refine take_ (i := 1) (N := some 44) (v := ?_) (a' := ?_) #[true, true, false, false, false] rfl rfl (by kernel_rfl) (fun _ _ _ h => h) (Or.inl ⟨by rfl, ?_⟩) hHeld ?_ ?_
    rotate_left
    ·rintro w' ⟨s0, s1, s2, s3⟩
     go_simp
     with_reducible rfl
    rotate_left
    ·simp only [Act.put, zL, zM, zN, i64_w, i32_w]
     rfl
    refine one_ (i := 2) (N := some 45) #[true, true, true, false, false] rfl rfl (by kernel_rfl) (by decide) (fun K hK => ?_)
    refine goes_ Tryd.func8 (by kernel_rfl) rfl #[.agg #[.int .i64 a0_0, .slice A0_1 l0_1.length c0_1]] (by rfl) rfl rfl zg ?_
    with_reducible refine (laws_toAlphabet.calls k a0_0 _ _ l0_1 t501 t502 _ ?side1 ?side2 A15.out).mono ?_
    (case side1 => exact zS (kO HR0_1.out HB.out))
    (case side2 => exact HC0_1.out)
    rintro e w33 ⟨v503, rfl, ho0, hb⟩
    refine ⟨_, rfl, ?_⟩
    have HO504 := zA (kI (kF (kF ho0 (kH (zP HO491.out))) (kH (zP HO497.out))) (kP (zV HB.out GE486.out GE498.out)))
    replace HO491 := zA (kE (zP HO491.out) (kC ho0) hb)
    replace HO497 := zA (kE (zP HO497.out) (kC ho0) hb)
    replace BK486 := zA (zB1 BK486.out hb)
    replace BK498 := zA (zB1 BK498.out hb)
    replace HB := zA (kQ (zV HB.out GE486.out GE498.out) hb)
    (try clear hb)
    (try clear hb2)
    (try clear hk)
    (try clear hi)
    (try clear hgw)
    (try clear ho0)
    obtain ⟨Ao34, co34, eo34⟩ := kM HO504.out
    (first | subst eo34 | (injection eo34 with f1_ f2_ f3_; have f4_ := f1_.symm; have f5_ := f3_.symm; clear f1_ f2_ f3_; subst f4_; subst f5_))
    refine hK.out _ _ ⟨(kV BK498.out 0).trans rfl, (kV BK498.out 1).trans rfl, (kV BK486.out 0).trans rfl, (kV BK486.out 1).trans rfl⟩ (fun hHeld => ?_)
    clear hK K
    refine norm_ (a' := ?_) ?_ ?_
    rotate_left
    ·show Act.put _ (some 45) _ = _
     simp only [Act.put, zL, zM, zN, i64_w, i32_w]
     rfl
    refine one_ (i := 3) (N := some 46) #[true, true, true, true, false] rfl rfl (by kernel_rfl) (by decide) (fun K hK => ?_)
    refine goes_ Tryd.func11 (by kernel_rfl) rfl #[.agg #[.int .i64 t494, .slice Ao30 t495.length co30], .agg #[.int .i64 t501, .slice Ao34 t502.length co34]] (by rfl) rfl rfl zg ?_
    with_reducible refine (laws_eqAlphabet.calls k t494 _ _ t495 t501 _ _ t502 true _ ?side1 ?side2 ?side3 ?side4 A16.out).mono ?_
    (case side1 => exact zS (kB HO497.out).2.2)
    (case side2 => exact (kB HO497.out).2.1)
    (case side3 => exact zS (kB HO504.out).2.2)
    (case side4 => exact (kB HO504.out).2.1)
    rintro e w35 ⟨rfl, hb⟩
    refine ⟨_, rfl, ?_⟩
    replace HO491 := zA (kL (zP HO491.out) hb)
    replace HO497 := zA (kL (zP HO497.out) hb)
    replace HO504 := zA (kL (zP HO504.out) hb)
    replace BK486 := zA (zB1 BK486.out hb)
    replace BK498 := zA (zB1 BK498.out hb)
    replace HB := zA (kQ (zV HB.out GE486.out GE498.out) hb)
    (try clear hb)
    (try clear hb2)
    (try clear hk)
    (try clear hi)
    (try clear hgw)
    refine hK.out _ _ ⟨(kV BK498.out 0).trans rfl, (kV BK498.out 1).trans rfl, (kV BK486.out 0).trans rfl, (kV BK486.out 1).trans rfl⟩ (fun hHeld => ?_)
    clear hK K
    refine norm_ (a' := ?_) ?_ ?_
    rotate_left
    ·show Act.put _ (some 46) _ = _
     simp only [Act.put, zL, zM, zN, i64_w, i32_w]
     rfl
    refine pure_ (i := 4) (N := some 47) (v := ?_) (a' := ?_) #[true, true, true, true, true] rfl rfl (by kernel_rfl) (fun _ _ _ h => h) (Or.inl ⟨by rfl, ?_⟩) ?_ ?_
    rotate_left
    ·intro w'
     go_simp
     with_reducible rfl
    rotate_left
    ·simp only [Act.put, zL, zM, zN, i64_w, i32_w]
     rfl
    refine done_ (by kernel_rfl) ?_
    try go_wp2
    go_ret
    exact ⟨zr, zV HB.out GE486.out GE498.out⟩
   replace c17 := Bool.eq_false_iff.mpr c17
   subst c17
   rw [if_neg (show ¬ (false = true) by decide)] at H
   exact absurd H (by simp)
  rw [if_neg c14] at H
  exact absurd H (by simp)
 rw [if_neg c13] at H
 exact absurd H (by simp)

end Go.Proofs.YtemdfjdmokbcoaaDoor.PAll
