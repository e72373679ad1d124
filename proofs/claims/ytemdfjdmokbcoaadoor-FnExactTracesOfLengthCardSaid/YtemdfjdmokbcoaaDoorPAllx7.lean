-- Printed by a program of the session (wip/tools/pgen.py) out of the translation. Not trusted: Lean checks it.
import Derived.Test.YtemdfjdmokbcoaaDoorPAllx0
import Derived.Test.YtemdfjdmokbcoaaDoorPAllx2
import Derived.Test.YtemdfjdmokbcoaaDoorPAllx6
namespace Go.Proofs.YtemdfjdmokbcoaaDoor.PAll
open Go.RowKit Go.Proofs.YtemdfjdmokbcoaaDoor.T Go.Proofs.YtemdfjdmokbcoaaDoorW.PrintWords Go.Proofs.YtemdfjdmokbcoaaDoorW.PrintLast Go.Proofs.YtemdfjdmokbcoaaDoorW.PrintMore
attribute [local go_sem] max2_int min2_int max_two min_two max_three min_three max_four min_four   -- for this text's walks alone
set_option linter.unusedVariables false
set_option linter.unusedSimpArgs false

/-! ### impl_complement: function 63 -/
def impl_complement.l0 : Nat → List Int → Int → Int → Int → List Int → Int → List Int → Option (Int × List Int)
 | 0, _, _, _, _, _, _, _ => none
 | k + 1, x10, x11, x12, x359000, x359001, x361000, x361001 => if x12 < x11 then (if 0 ≤ x12 then (if x12 < (x10.length : Int) then ((impl_allLetters.f x359000 x359001).bind fun t362 => ((impl_one.f x12).bind fun t363 => (if x361001.length < 17592186044416 then (impl_complement.l0 k x10 x11 (wrap64 (x12 + 1)) x359000 x359001 x361000 (x361001 ++ [Go.bits .or .i64 (Go.bits .andNot .i64 t362 (rd x10 x12)) t363])) else (none)))) else (none)) else (none)) else (some (x361000, x361001))
def impl_complement.f (k : Nat) (a0_0 : Int) (l0_1 : List Int) : Option (Int × List Int) := impl_complement.l0 k l0_1 (l0_1.length : Int) 0 a0_0 l0_1 a0_0 ([] : List Int)

def impl_complement.T5 : Bool × List (List Nat × List Nat) := (true, [([], []), ([0], [0]), ([], []), ([2], [2]), ([], []), ([3, 4], [3, 4]), ([], []), ([6, 3], [6]), ([5, 7], [5, 7]), ([8], [8]), ([1, 9, 7], [1, 9]), ([0, 1, 2, 3, 4, 5, 6, 7, 8, 9, 10], []), ([11, 10, 10, 0, 1, 2, 3, 4, 5, 6, 7, 8, 9, 10], [10, 11])])
def impl_complement.B5 : List Nat := [0, 1, 0, 4, 0, 28, 0, 76, 252, 508, 1023, 2047, 4095]
theorem impl_complement.tab5 : rtab .any (opsOf Tryd.f63 5) = impl_complement.T5 := by kernel_rfl
theorem impl_complement.bits5 : waitsOk impl_complement.T5.2 impl_complement.B5 = true := by kernel_rfl
set_option maxHeartbeats 8000000 in
set_option maxRecDepth 100000 in
theorem impl_complement.calls (k : Nat) (a0_0 : Int) (A0_1 : Option Addr) (c0_1 : Nat) (l0_1 : List Int) (r1 : Int) (r2 : List Int) (w : World) (hr0_1 : Kd.C (Kd.int .i64) w A0_1 l0_1.length l0_1) (hc0_1 : l0_1.length ≤ c0_1) (h : impl_complement.f k a0_0 l0_1 = some (r1, r2)) :
  Calls Tryd.prog 63 #[.agg #[.int .i64 a0_0, .slice A0_1 l0_1.length c0_1]] w fun e w' => ∃ v1_ : Value, e = .returned (.agg #[.int .i64 r1, v1_]) ∧ Kd.R (Kd.int .i64) 2 w' w.heap.size (fun _ => True) v1_ r2 ∧ Below w.heap.size w w' := by
 have hu29 := Tryd.underlying29
 have HR0_1 := zA hr0_1
 have HC0_1 := zA hc0_1
 clear hr0_1 hc0_1
 have HB := zA (kW w.heap.size w)
 have H := h
 unfold impl_complement.f at H
 clear h
 have H' := zA H
 clear H
 go_enter Tryd.func63, Tryd.ntmps63
 go_wp2_with (first | (refine zBE 1 #[.int .i64 a0_0, .slice A0_1 l0_1.length c0_1] 29 ?_; intro gb358 hg w2 hbox hb; have BK358 := zA (hbox); have GW358 := zA (zBH hg HB.out); have GE358 := zA (zBH hg HB.out); replace HB := zA (kQ (zQ HB.out) hb); clear hb hbox hg) | (refine zBE 2 #[.int .i64 0, .slice none 0 0] 29 ?_; intro gb359 hg w3 hbox hb; have BK359 := zA (hbox); have GW359 := zA (zB6 hg (kP (zT HB.out GE358.out)) : w.heap.size ≤ gb359); have GE359 := zA (zB6 hg (kP (zT HB.out GE358.out)) : w.heap.size ≤ gb359); replace HB := zA (kQ (zT HB.out GE358.out) hb); have NB358_359 := zA (zB4 hg BK358.out : gb358 ≠ gb359); have NB359_358 := zA (zB5 hg BK358.out : gb359 ≠ gb358); replace BK358 := zA (zB1 BK358.out hb); clear hb hbox hg; have hnb4 := NB358_359.out; have hnc4 := NB359_358.out; obtain ⟨hcz5_0, hcz5_1, hfz5_0, hfz5_1⟩ := zB3 BK358.out) | (refine zBE 3 #[.int .i64 0, .slice none 0 0] 29 ?_; intro gb360 hg w6 hbox hb; have BK360 := zA (hbox); have GW360 := zA (zB6 hg (kP (zV HB.out GE358.out GE359.out)) : w.heap.size ≤ gb360); have GE360 := zA (zB6 hg (kP (zV HB.out GE358.out GE359.out)) : w.heap.size ≤ gb360); replace HB := zA (kQ (zV HB.out GE358.out GE359.out) hb); have NB358_360 := zA (zB4 hg BK358.out : gb358 ≠ gb360); have NB360_358 := zA (zB5 hg BK358.out : gb360 ≠ gb358); replace BK358 := zA (zB1 BK358.out hb); have NB359_360 := zA (zB4 hg BK359.out : gb359 ≠ gb360); have NB360_359 := zA (zB5 hg BK359.out : gb360 ≠ gb359); replace BK359 := zA (zB1 BK359.out hb); clear hb hbox hg; have hnb7 := NB360_358.out; have hnc7 := NB358_360.out; have hnb8 := NB360_359.out; have hnc8 := NB359_360.out; obtain ⟨hcz9_0, hcz9_1, hfz9_0, hfz9_1⟩ := zB3 BK360.out; obtain ⟨hcz10_0, hcz10_1, hfz10_0, hfz10_1⟩ := zB3 BK358.out))
 go_loopg [12] k (fun kq v12 w' => ∃ (x12_1 : Int) (x361001_1 : List Int) (u361001 : Value), v12 = .int .i64 x12_1 ∧ Aside0 (impl_complement.l0 kq l0_1 (l0_1.length : Int) x12_1 a0_0 l0_1 a0_0 x361001_1 = some (r1, r2)) ∧ Aside0 (kq ≤ k) ∧ Aside0 (Kd.R (Kd.int .i64) 2 w' w.heap.size (fun _ => True) u361001 x361001_1) ∧ Aside0 (w'.heap[gb358]? = some (.cells #[.int .i64 a0_0, (.slice A0_1 l0_1.length c0_1)] 29 (0, 0))) ∧ Aside0 (w'.heap[gb359]? = some (.cells #[.int .i64 0, (.slice none 0 0)] 29 (0, 0))) ∧ Aside0 (w'.heap[gb360]? = some (.cells #[.int .i64 a0_0, u361001] 29 (0, 0))) ∧ Aside0 (Below w.heap.size w w'))
 case atStart => exact ⟨(0), (([] : List Int)), (.slice none 0 0), zs, H', ⟨Nat.le_refl _⟩, ⟨zn⟩, ⟨by (with_reducible repeat (first | refine zJ ?_ _ | refine zK ?_ | refine zI ?_ _)); refine blk_far ?_ NB358_360.out _; (with_reducible repeat (first | refine zJ ?_ _ | refine zK ?_ | refine zI ?_ _)); refine blk_far ?_ NB358_360.out _; (with_reducible repeat (first | refine zJ ?_ _ | refine zK ?_ | refine zI ?_ _)); exact BK358.out⟩, ⟨by (with_reducible repeat (first | refine zJ ?_ _ | refine zK ?_ | refine zI ?_ _)); refine blk_far ?_ NB359_360.out _; (with_reducible repeat (first | refine zJ ?_ _ | refine zK ?_ | refine zI ?_ _)); refine blk_far ?_ NB359_360.out _; (with_reducible repeat (first | refine zJ ?_ _ | refine zK ?_ | refine zI ?_ _)); exact BK359.out⟩, ⟨by (with_reducible repeat (first | refine zJ ?_ _ | refine zK ?_ | refine zI ?_ _)); refine blk_put (cs := #[.int .i64 a0_0, .slice none 0 0]) ?_ 1 _ rfl; (with_reducible repeat (first | refine zJ ?_ _ | refine zK ?_ | refine zI ?_ _)); refine blk_put (cs := #[.int .i64 0, .slice none 0 0]) ?_ 0 _ rfl; (with_reducible repeat (first | refine zJ ?_ _ | refine zK ?_ | refine zI ?_ _)); exact BK360.out⟩, ⟨zW HB.out GE358.out GE359.out GE360.out⟩⟩
 case round =>
  clear H'
  try clear c4
  try clear c6
  try clear c7
  try clear c8
  try clear hcz10_0
  try clear hcz10_1
  try clear hcz5_0
  try clear hcz5_1
  try clear hcz9_0
  try clear hcz9_1
  try clear hfz10_0
  try clear hfz10_1
  try clear hfz5_0
  try clear hfz5_1
  try clear hfz9_0
  try clear hfz9_1
  obtain ⟨x12_1, x361001_1, u361001, rfl, HA, HK1, HO_361001, BK358, BK359, BK360, HB⟩ := hrel
  cases gk with
  | zero => exact absurd HA.out (by simp [impl_complement.l0])
  | succ k1 =>
   have H := HA.out
   clear HA
   simp only [impl_complement.l0] at H
   by_cases c11 : x12_1 < (l0_1.length : Int)
   ·rw [if_pos c11] at H
    have c11b0 : decide (x12_1 < (l0_1.length : Int)) = true := decide_eq_true c11
    clear c11
    by_cases c12 : 0 ≤ x12_1
    ·rw [if_pos c12] at H
     have c12b0 : decide (0 ≤ x12_1) = true := decide_eq_true c12
     clear c12
     by_cases c13 : x12_1 < (l0_1.length : Int)
     ·rw [if_pos c13] at H
      have c13b0 : decide (x12_1 < (l0_1.length : Int)) = true := decide_eq_true c13
      clear c13
      obtain ⟨t362, A14, H⟩ := zb H
      try dsimp only at H
      obtain ⟨t363, A15, H⟩ := zb H
      try dsimp only at H
      by_cases c16 : x361001_1.length < 17592186044416
      ·rw [if_pos c16] at H
       have LMc16 := zA c16
       clear c16
       obtain ⟨y364, hy364⟩ : ∃ y_ : List Int, y_ = (x361001_1 ++ [Go.bits .or .i64 (Go.bits .andNot .i64 t362 (rd l0_1 x12_1)) t363]) := ⟨_, rfl⟩
       replace H : (impl_complement.l0 k1 l0_1 (l0_1.length : Int) (wrap64 (x12_1 + 1)) a0_0 l0_1 a0_0 y364) = some (r1, r2) := zy hy364 H
       have Ny364 := zA hy364
       clear hy364
       have H' := zA H
       clear H
       have p361 : 0 ≤ (x12_1 : Int) := zd
       have q361 : x12_1 < (l0_1.length : Int) := zd
       obtain ⟨ad361, e361, hx361_0⟩ := Kd.at_int HR0_1.out x12_1 p361 q361
       cases e361
       replace hx361_0 := (HB.out.cell (jG w _ hx361_0)).trans hx361_0
       replace p361 := eq_true p361
       replace q361 := eq_true q361
       try go_wp2
       replace HO_361001 := zA (zH HO_361001.out)
       replace BK358 := zA (zK BK358.out)
       replace BK359 := zA (zK BK359.out)
       replace BK360 := zA (zK BK360.out)
       replace HB := zA (zD HB.out)
       refine start_ (n := 13) (S := fun w' => w'.cell? ⟨gb360, 0, none⟩ = some (.int .i64 a0_0) ∧ w'.cell? ⟨gb360, 1, none⟩ = some (u361001) ∧ w'.cell? ⟨gb358, 0, none⟩ = some (.int .i64 a0_0) ∧ w'.cell? ⟨gb358, 1, none⟩ = some (.slice (some ad361) l0_1.length c0_1)) (ds := [12]) #[false, false, false, false, false, false, false, false, false, false, false, false, false] (by kernel_rfl) rfl rfl ⟨(kV BK360.out 0).trans rfl, (kV BK360.out 1).trans rfl, (kV BK358.out 0).trans rfl, (kV BK358.out 1).trans rfl⟩ (fun hHeld => ?_); refine with_tabW impl_complement.tab5 impl_complement.bits5 (fun HT_ HW_ => ?_)
       generalize wr.drew = w17 at HO_361001 BK358 BK359 BK360 HB hHeld ⊢
       refine zp 0 (some 17) #[true, false, false, false, false, false, false, false, false, false, false, false, false] HT_.out ?_
       refine zp 4 (some 21) #[true, false, false, false, true, false, false, false, false, false, false, false, false] HT_.out ?_
       refine zp 6 (some 23) #[true, false, false, false, true, false, true, false, false, false, false, false, false] HT_.out ?_
       refine zf 1 (some 18) #[true, true, false, false, true, false, true, false, false, false, false, false, false] HT_.out HW_.out hHeld ?_
       refine zf 2 (some 19) #[true, true, true, false, true, false, true, false, false, false, false, false, false] HT_.out HW_.out hHeld ?_
       refine one_ (i := 3) (N := some 20) #[true, true, true, true, true, false, true, false, false, false, false, false, false] rfl rfl (one_of HT_.out (by kernel_rfl)) (by decide) (fun K hK => ?_)
       refine goes_ Tryd.func73 (by kernel_rfl) rfl #[.agg #[.int .i64 a0_0, .slice (some ad361) l0_1.length c0_1]] (by rfl) rfl rfl zg ?_
       with_reducible refine (impl_allLetters.calls a0_0 _ _ l0_1 t362 _ ?side1 ?side2 A14.out).mono ?_
       (case side1 => exact zS (kO HR0_1.out HB.out))
       (case side2 => exact HC0_1.out)
       rintro e w18 ⟨rfl, hb⟩
       refine ⟨_, rfl, ?_⟩
       replace HO_361001 := zA (kL (zP HO_361001.out) hb)
       replace BK358 := zA (zB1 BK358.out hb)
       replace BK359 := zA (zB1 BK359.out hb)
       replace BK360 := zA (zB1 BK360.out hb)
       replace HB := zA (kQ (zW HB.out GE358.out GE359.out GE360.out) hb)
       (try clear hb)
       (try clear hb2)
       (try clear hk)
       (try clear hi)
       (try clear hgw)
       refine hK.out _ _ ⟨(kV BK360.out 0).trans rfl, (kV BK360.out 1).trans rfl, (kV BK358.out 0).trans rfl, (kV BK358.out 1).trans rfl⟩ (fun hHeld => ?_)
       clear hK K
       refine norm_ (a' := ?_) ?_ ?_
       rotate_left
       ·show Act.put _ (some 20) _ = _
        simp only [Act.put, zL, zM, zN, i64_w, i32_w]
        rfl
       refine zp 5 (some 22) #[true, true, true, true, true, true, true, false, false, false, false, false, false] HT_.out ?_
       refine one_ (i := 7) (N := some 24) #[true, true, true, true, true, true, true, true, false, false, false, false, false] rfl rfl (one_of HT_.out (by kernel_rfl)) (by decide) (fun K hK => ?_)
       refine goes_ Tryd.func61 (by kernel_rfl) rfl #[.int .i64 x12_1] (by rfl) rfl rfl zg ?_
       with_reducible refine (impl_one.calls x12_1 t363 _ A15.out).mono ?_
       rintro e w' ⟨rfl, ⟨nd, rfl⟩⟩
       refine ⟨_, rfl, ?_⟩
       refine hK.out _ _ ⟨(kV BK360.out 0).trans rfl, (kV BK360.out 1).trans rfl, (kV BK358.out 0).trans rfl, (kV BK358.out 1).trans rfl⟩ (fun hHeld => ?_)
       clear hK K
       refine norm_ (a' := ?_) ?_ ?_
       rotate_left
       ·show Act.put _ (some 24) _ = _
        simp only [Act.put, zL, zM, zN, i64_w, i32_w]
        rfl
       refine zp 8 (some 25) #[true, true, true, true, true, true, true, true, true, false, false, false, false] HT_.out ?_
       refine one_ (i := 9) (N := some 26) #[true, true, true, true, true, true, true, true, true, true, false, false, false] rfl rfl (one_of HT_.out (by kernel_rfl)) (by decide) (fun K hK => ?_)
       refine value_ (w1 := ?_) (v := ?_) (by rfl) rfl ?_ ?_
       rotate_left 2
       ·go_simp
        constructor
        ·rfl
        rfl
       refine hK.out _ _ ⟨(kV (zI BK360.out _) 0).trans rfl, (kV (zI BK360.out _) 1).trans rfl, (kV (zI BK358.out _) 0).trans rfl, (kV (zI BK358.out _) 1).trans rfl⟩ (fun hHeld => ?_)
       clear hK K
       refine norm_ (a' := ?_) ?_ ?_
       rotate_left
       ·show Act.put _ (some 26) _ = _
        simp only [Act.put, zL, zM, zN, i64_w, i32_w]
        rfl
       refine one_ (i := 10) (N := some 27) #[true, true, true, true, true, true, true, true, true, true, true, false, false] rfl rfl (one_of HT_.out (by kernel_rfl)) (by decide) (fun K hK => ?_)
       refine Kd.R_append_step (Kd.int .i64) (w0 := w) w.heap.size (by rfl) (.tmp 18) (.tmp 26) 22 2 (.int .i64 0) 8 rfl Tryd.underlying22 info2 rfl (by decide) (by omega) u361001 x361001_1 (Go.bits .or .i64 (Go.bits .andNot .i64 t362 (rd l0_1 x12_1)) t363) [.int .i64 (Go.bits .or .i64 (Go.bits .andNot .i64 t362 (rd l0_1 x12_1)) t363)] (fun _ => True) (fun _ => False) rfl rfl ?aP (fun _ hk => hk.elim) ?aF ?aO ?aB ?aS ?aL ?_
       (case aP => exact rfl)
       (case aB => exact (zW HB.out GE358.out GE359.out GE360.out))
       (case aF => exact (fun _ _ => trivial))
       (case aO => exact (zP HO_361001.out))
       (case aS => exact (kP (zW HB.out GE358.out GE359.out GE360.out)))
       (case aL => have := LMc16.out; omega)
       intro v365 w19 ho hb hg hat
       rw [← Ny364.out] at ho
       replace BK358 := zA (blk_grown (g := gb358) (o := .cells #[.int .i64 a0_0, .slice (some ad361) l0_1.length c0_1] 29 (0, 0)) (zR BK358.out) hg (Kd.R_ne HO_361001.out BK358.out (by decide)))
       replace BK359 := zA (blk_grown (g := gb359) (o := .cells #[.int .i64 0, .slice none 0 0] 29 (0, 0)) (zR BK359.out) hg (Kd.R_ne HO_361001.out BK359.out (by decide)))
       replace BK360 := zA (blk_grown (g := gb360) (o := .cells #[.int .i64 a0_0, u361001] 29 (0, 0)) (zR BK360.out) hg (Kd.R_ne HO_361001.out BK360.out (by decide)))
       replace HB := zA (hb)
       have HO366 := zA (ho)
       clear HO_361001 ho hb hg hat
       obtain ⟨Ao20, co20, eo20⟩ := kM HO366.out
       (first | subst eo20 | (injection eo20 with f1_ f2_ f3_; have f4_ := f1_.symm; have f5_ := f3_.symm; clear f1_ f2_ f3_; subst f4_; subst f5_))
       refine hK.out _ _ ⟨(kV BK360.out 0).trans rfl, (kV BK360.out 1).trans rfl, (kV BK358.out 0).trans rfl, (kV BK358.out 1).trans rfl⟩ (fun hHeld => ?_)
       clear hK K
       refine norm_ (a' := ?_) ?_ ?_
       rotate_left
       ·show Act.put _ (some 27) _ = _
        simp only [Act.put, zL, zM, zN, i64_w, i32_w]
        rfl
       refine zp 11 (some 28) #[true, true, true, true, true, true, true, true, true, true, true, true, false] HT_.out ?_
       refine last_ (i := 12) (N := none) #[true, true, true, true, true, true, true, true, true, true, true, true, true] rfl rfl (one_of HT_.out (by kernel_rfl)) (by decide) (fun K hK => ?_)
       have hs21 : w19.cell? ⟨gb360, 1, none⟩ = some (u361001) := (kV BK360.out 1).trans rfl
       have hfs21 := jH BK360.out 1
       have hns21_0 := NB358_360.out
       have hns21_1 := NB359_360.out
       have hms21_0 := NB360_358.out
       have hms21_1 := NB360_359.out
       refine skip_ (w1 := ?_) (by rfl) rfl ?_ ?_
       rotate_left
       ·go_simp
        rfl
       refine hK.out _ _ ?_
       clear hK K
       refine done_ (done_of HT_.out (by kernel_rfl)) ?_
       try go_wp2
       go_roundg k1
       case measure => have := HK1.out; omega
       case rel => exact ⟨(wrap64 (x12_1 + 1)), (y364), (.slice Ao20 y364.length co20), zs, H', ⟨by have := HK1.out; omega⟩, ⟨by (with_reducible repeat (first | apply zF | apply zG | apply zH)); exact kA (kY (p := ⟨gb360, 1, none⟩) (kD HO366.out BK360.out (by decide)) (fun _ hk => hk.2) (.slice Ao20 y364.length co20)) (fun _ hk => trivial)⟩, ⟨by (with_reducible repeat (first | refine zJ ?_ _ | refine zK ?_ | refine zI ?_ _)); refine blk_far ?_ NB358_360.out _; (with_reducible repeat (first | refine zJ ?_ _ | refine zK ?_ | refine zI ?_ _)); exact BK358.out⟩, ⟨by (with_reducible repeat (first | refine zJ ?_ _ | refine zK ?_ | refine zI ?_ _)); refine blk_far ?_ NB359_360.out _; (with_reducible repeat (first | refine zJ ?_ _ | refine zK ?_ | refine zI ?_ _)); exact BK359.out⟩, ⟨by (with_reducible repeat (first | refine zJ ?_ _ | refine zK ?_ | refine zI ?_ _)); refine blk_put (cs := #[.int .i64 a0_0, u361001]) ?_ 1 _ rfl; (with_reducible repeat (first | refine zJ ?_ _ | refine zK ?_ | refine zI ?_ _)); exact BK360.out⟩, ⟨zW HB.out GE358.out GE359.out GE360.out⟩⟩
      rw [if_neg c16] at H
      exact absurd H (by simp)
     rw [if_neg c13] at H
     exact absurd H (by simp)
    rw [if_neg c12] at H
    exact absurd H (by simp)
   rw [if_neg c11] at H
   have c11b0 : decide (x12_1 < (l0_1.length : Int)) = false := decide_eq_false c11
   clear c11
   simp only [Option.some.injEq, Prod.mk.injEq] at H
   obtain ⟨rfl, rfl⟩ := H
   have hnb22 := NB360_358.out
   have hnc22 := NB358_360.out
   have hnb23 := NB360_359.out
   have hnc23 := NB359_360.out
   obtain ⟨hcz24_0, hcz24_1, hfz24_0, hfz24_1⟩ := zB3 BK360.out
   have hnb25 := NB359_358.out
   have hnc25 := NB358_359.out
   obtain ⟨hcz26_0, hcz26_1, hfz26_0, hfz26_1⟩ := zB3 BK359.out
   obtain ⟨Ao27, co27, eo27⟩ := kM HO_361001.out
   subst eo27
   go_wp2
   refine bodyPost_ret (results_cell_row rfl _ _ gb359 29 #[.int .i64 a0_0, .slice Ao27 x361001_1.length co27] (0, 0) _ rfl (zRP BK359.out) Tryd.underlying29 rfl (by kernel_rfl)) rfl ?_
   exact ⟨_, zr, by (with_reducible repeat (first | apply zF | apply zG | apply zH)); exact kA (kY (p := ⟨gb359, 1, none⟩) (kY (p := ⟨gb359, 0, none⟩) (kD HO_361001.out BK359.out (by decide)) (fun _ hk => hk.2) (.int .i64 a0_0)) (fun _ hk => hk.2) (.slice Ao27 x361001_1.length co27)) (fun _ hk => trivial), zW HB.out GE358.out GE359.out GE360.out⟩

/-! ### impl_stepsOf: function 42 -/
def impl_stepsOf.f (k : Nat) (a0_0 : Int) (l0_1 : List Int) : Option (List Int) := (impl_complement.f k a0_0 l0_1).bind fun bt368 => ((impl_cliques.f k bt368.2).bind fun bt372 => (some bt372.1))

set_option maxHeartbeats 8000000 in
set_option maxRecDepth 100000 in
theorem impl_stepsOf.calls (k : Nat) (a0_0 : Int) (A0_1 : Option Addr) (c0_1 : Nat) (l0_1 : List Int) (r : List Int) (w : World) (hr0_1 : Kd.C (Kd.int .i64) w A0_1 l0_1.length l0_1) (hc0_1 : l0_1.length ≤ c0_1) (hT : TabW w) (h : impl_stepsOf.f k a0_0 l0_1 = some r) :
  Calls Tryd.prog 42 #[.agg #[.int .i64 a0_0, .slice A0_1 l0_1.length c0_1]] w fun e w' => ∃ v0_ : Value, e = .returned (v0_) ∧ Kd.R (Kd.int .i64) 2 w' w.heap.size (fun _ => True) v0_ r ∧ Below w.heap.size w w' := by
 have hu29 := Tryd.underlying29
 have HT := zA hT
 clear hT
 have HR0_1 := zA hr0_1
 have HC0_1 := zA hc0_1
 clear hr0_1 hc0_1
 have HB := zA (kW w.heap.size w)
 have H := h
 unfold impl_stepsOf.f at H
 clear h
 obtain ⟨⟨t368, t369⟩, A2, H⟩ := zb H
 try dsimp only at H
 obtain ⟨⟨t372, t373⟩, A3, H⟩ := zb H
 try dsimp only at H
 obtain rfl := Option.some.inj H
 go_enter Tryd.func42, Tryd.ntmps42
 go_wp2_with (first | (refine zBE 1 #[.int .i64 a0_0, .slice A0_1 l0_1.length c0_1] 29 ?_; intro gb367 hg w4 hbox hb; have BK367 := zA (hbox); have GW367 := zA (zBH hg HB.out); have GE367 := zA (zBH hg HB.out); replace HB := zA (kQ (zQ HB.out) hb); clear hb hbox hg; obtain ⟨hcz5_0, hcz5_1, hfz5_0, hfz5_1⟩ := zB3 BK367.out) | (refine zO (some 7) Tryd.func63 #[.agg #[.int .i64 a0_0, .slice A0_1 l0_1.length c0_1]] ?_; (with_reducible refine (impl_complement.calls k a0_0 _ _ l0_1 t368 t369 _ ?side1 ?side2 A2.out).mono ?_); (case side1 => exact zS (kO HR0_1.out HB.out)); (case side2 => exact HC0_1.out); rintro e w6 ⟨v370, rfl, ho0, hb⟩; refine ⟨_, rfl, ?_⟩; have HO371 := zA (kI ho0 (kP (zT HB.out GE367.out))); replace BK367 := zA (zB1 BK367.out hb); replace HB := zA (kQ (zT HB.out GE367.out) hb); (try clear hb); (try clear ho0); obtain ⟨Ao7, co7, eo7⟩ := kM HO371.out; subst eo7) | (refine zO (some 9) Tryd.func62 #[.slice Ao7 t369.length co7] ?_; (with_reducible refine (impl_cliques.calls k _ _ t369 t372 t373 _ ?side1 ?side2 ?side3 A3.out).mono ?_); (case side1 => exact zS (kB HO371.out).2.2); (case side2 => exact (kB HO371.out).2.1); (case side3 => exact TabW.below HT.out (zT HB.out GE367.out)); rintro e w8 ⟨v374, rfl, ho0, hb⟩; refine ⟨_, rfl, ?_⟩; have HO375 := zA (kI (kF ho0 (kH (zP HO371.out))) (kP (zT HB.out GE367.out))); replace HO371 := zA (kE (zP HO371.out) (kC ho0) hb); replace BK367 := zA (zB1 BK367.out hb); replace HB := zA (kQ (zT HB.out GE367.out) hb); (try clear hb); (try clear ho0)))
 go_ret
 exact ⟨_, zr, by (with_reducible repeat (first | apply zF | apply zG | apply zH)); exact kA HO375.out (fun _ hk => trivial), zT HB.out GE367.out⟩

/-! ### bits_OnesCount64: function 64 -/
def bits_OnesCount64.f (a0 : Int) : Option (Int) := some (Go.bits .and .i64 (wrap64 (IntKind.u64.wrap ((IntKind.u64.wrap ((IntKind.u64.wrap ((Go.bits .and .u64 (IntKind.u64.wrap (((IntKind.u64.wrap ((Go.bits .and .u64 ((IntKind.u64.wrap ((Go.bits .and .u64 (a0 / 2) 6148914691236517205) + (Go.bits .and .u64 a0 6148914691236517205))) / 4) 3689348814741910323) + (Go.bits .and .u64 (IntKind.u64.wrap ((Go.bits .and .u64 (a0 / 2) 6148914691236517205) + (Go.bits .and .u64 a0 6148914691236517205))) 3689348814741910323))) / 16) + (IntKind.u64.wrap ((Go.bits .and .u64 ((IntKind.u64.wrap ((Go.bits .and .u64 (a0 / 2) 6148914691236517205) + (Go.bits .and .u64 a0 6148914691236517205))) / 4) 3689348814741910323) + (Go.bits .and .u64 (IntKind.u64.wrap ((Go.bits .and .u64 (a0 / 2) 6148914691236517205) + (Go.bits .and .u64 a0 6148914691236517205))) 3689348814741910323))))) 1085102592571150095) + ((Go.bits .and .u64 (IntKind.u64.wrap (((IntKind.u64.wrap ((Go.bits .and .u64 ((IntKind.u64.wrap ((Go.bits .and .u64 (a0 / 2) 6148914691236517205) + (Go.bits .and .u64 a0 6148914691236517205))) / 4) 3689348814741910323) + (Go.bits .and .u64 (IntKind.u64.wrap ((Go.bits .and .u64 (a0 / 2) 6148914691236517205) + (Go.bits .and .u64 a0 6148914691236517205))) 3689348814741910323))) / 16) + (IntKind.u64.wrap ((Go.bits .and .u64 ((IntKind.u64.wrap ((Go.bits .and .u64 (a0 / 2) 6148914691236517205) + (Go.bits .and .u64 a0 6148914691236517205))) / 4) 3689348814741910323) + (Go.bits .and .u64 (IntKind.u64.wrap ((Go.bits .and .u64 (a0 / 2) 6148914691236517205) + (Go.bits .and .u64 a0 6148914691236517205))) 3689348814741910323))))) 1085102592571150095) / 256))) + ((IntKind.u64.wrap ((Go.bits .and .u64 (IntKind.u64.wrap (((IntKind.u64.wrap ((Go.bits .and .u64 ((IntKind.u64.wrap ((Go.bits .and .u64 (a0 / 2) 6148914691236517205) + (Go.bits .and .u64 a0 6148914691236517205))) / 4) 3689348814741910323) + (Go.bits .and .u64 (IntKind.u64.wrap ((Go.bits .and .u64 (a0 / 2) 6148914691236517205) + (Go.bits .and .u64 a0 6148914691236517205))) 3689348814741910323))) / 16) + (IntKind.u64.wrap ((Go.bits .and .u64 ((IntKind.u64.wrap ((Go.bits .and .u64 (a0 / 2) 6148914691236517205) + (Go.bits .and .u64 a0 6148914691236517205))) / 4) 3689348814741910323) + (Go.bits .and .u64 (IntKind.u64.wrap ((Go.bits .and .u64 (a0 / 2) 6148914691236517205) + (Go.bits .and .u64 a0 6148914691236517205))) 3689348814741910323))))) 1085102592571150095) + ((Go.bits .and .u64 (IntKind.u64.wrap (((IntKind.u64.wrap ((Go.bits .and .u64 ((IntKind.u64.wrap ((Go.bits .and .u64 (a0 / 2) 6148914691236517205) + (Go.bits .and .u64 a0 6148914691236517205))) / 4) 3689348814741910323) + (Go.bits .and .u64 (IntKind.u64.wrap ((Go.bits .and .u64 (a0 / 2) 6148914691236517205) + (Go.bits .and .u64 a0 6148914691236517205))) 3689348814741910323))) / 16) + (IntKind.u64.wrap ((Go.bits .and .u64 ((IntKind.u64.wrap ((Go.bits .and .u64 (a0 / 2) 6148914691236517205) + (Go.bits .and .u64 a0 6148914691236517205))) / 4) 3689348814741910323) + (Go.bits .and .u64 (IntKind.u64.wrap ((Go.bits .and .u64 (a0 / 2) 6148914691236517205) + (Go.bits .and .u64 a0 6148914691236517205))) 3689348814741910323))))) 1085102592571150095) / 256))) / 65536))) + ((IntKind.u64.wrap ((IntKind.u64.wrap ((Go.bits .and .u64 (IntKind.u64.wrap (((IntKind.u64.wrap ((Go.bits .and .u64 ((IntKind.u64.wrap ((Go.bits .and .u64 (a0 / 2) 6148914691236517205) + (Go.bits .and .u64 a0 6148914691236517205))) / 4) 3689348814741910323) + (Go.bits .and .u64 (IntKind.u64.wrap ((Go.bits .and .u64 (a0 / 2) 6148914691236517205) + (Go.bits .and .u64 a0 6148914691236517205))) 3689348814741910323))) / 16) + (IntKind.u64.wrap ((Go.bits .and .u64 ((IntKind.u64.wrap ((Go.bits .and .u64 (a0 / 2) 6148914691236517205) + (Go.bits .and .u64 a0 6148914691236517205))) / 4) 3689348814741910323) + (Go.bits .and .u64 (IntKind.u64.wrap ((Go.bits .and .u64 (a0 / 2) 6148914691236517205) + (Go.bits .and .u64 a0 6148914691236517205))) 3689348814741910323))))) 1085102592571150095) + ((Go.bits .and .u64 (IntKind.u64.wrap (((IntKind.u64.wrap ((Go.bits .and .u64 ((IntKind.u64.wrap ((Go.bits .and .u64 (a0 / 2) 6148914691236517205) + (Go.bits .and .u64 a0 6148914691236517205))) / 4) 3689348814741910323) + (Go.bits .and .u64 (IntKind.u64.wrap ((Go.bits .and .u64 (a0 / 2) 6148914691236517205) + (Go.bits .and .u64 a0 6148914691236517205))) 3689348814741910323))) / 16) + (IntKind.u64.wrap ((Go.bits .and .u64 ((IntKind.u64.wrap ((Go.bits .and .u64 (a0 / 2) 6148914691236517205) + (Go.bits .and .u64 a0 6148914691236517205))) / 4) 3689348814741910323) + (Go.bits .and .u64 (IntKind.u64.wrap ((Go.bits .and .u64 (a0 / 2) 6148914691236517205) + (Go.bits .and .u64 a0 6148914691236517205))) 3689348814741910323))))) 1085102592571150095) / 256))) + ((IntKind.u64.wrap ((Go.bits .and .u64 (IntKind.u64.wrap (((IntKind.u64.wrap ((Go.bits .and .u64 ((IntKind.u64.wrap ((Go.bits .and .u64 (a0 / 2) 6148914691236517205) + (Go.bits .and .u64 a0 6148914691236517205))) / 4) 3689348814741910323) + (Go.bits .and .u64 (IntKind.u64.wrap ((Go.bits .and .u64 (a0 / 2) 6148914691236517205) + (Go.bits .and .u64 a0 6148914691236517205))) 3689348814741910323))) / 16) + (IntKind.u64.wrap ((Go.bits .and .u64 ((IntKind.u64.wrap ((Go.bits .and .u64 (a0 / 2) 6148914691236517205) + (Go.bits .and .u64 a0 6148914691236517205))) / 4) 3689348814741910323) + (Go.bits .and .u64 (IntKind.u64.wrap ((Go.bits .and .u64 (a0 / 2) 6148914691236517205) + (Go.bits .and .u64 a0 6148914691236517205))) 3689348814741910323))))) 1085102592571150095) + ((Go.bits .and .u64 (IntKind.u64.wrap (((IntKind.u64.wrap ((Go.bits .and .u64 ((IntKind.u64.wrap ((Go.bits .and .u64 (a0 / 2) 6148914691236517205) + (Go.bits .and .u64 a0 6148914691236517205))) / 4) 3689348814741910323) + (Go.bits .and .u64 (IntKind.u64.wrap ((Go.bits .and .u64 (a0 / 2) 6148914691236517205) + (Go.bits .and .u64 a0 6148914691236517205))) 3689348814741910323))) / 16) + (IntKind.u64.wrap ((Go.bits .and .u64 ((IntKind.u64.wrap ((Go.bits .and .u64 (a0 / 2) 6148914691236517205) + (Go.bits .and .u64 a0 6148914691236517205))) / 4) 3689348814741910323) + (Go.bits .and .u64 (IntKind.u64.wrap ((Go.bits .and .u64 (a0 / 2) 6148914691236517205) + (Go.bits .and .u64 a0 6148914691236517205))) 3689348814741910323))))) 1085102592571150095) / 256))) / 65536))) / 4294967296)))) 127)
set_option maxHeartbeats 8000000 in
set_option maxRecDepth 100000 in
theorem bits_OnesCount64.calls (a0 : Int) (r : Int) (w : World) (h : bits_OnesCount64.f a0 = some r) :
  Calls Tryd.prog 64 #[.int .u64 a0] w fun e w' => e = .returned (.int .i64 r) ∧ Drawn0 w w' := by
 have H := h
 unfold bits_OnesCount64.f at H
 clear h
 obtain rfl := Option.some.inj H
 go_enter Tryd.func64, Tryd.ntmps64
 go_wp2
 go_ret
 exact ⟨zs, by repeat (first | exact Drawn0.refl _ | apply Drawn0.step)⟩

/-! ### impl_size: function 43 -/
def impl_size.f (a0 : Int) : Option (Int) := (bits_OnesCount64.f (IntKind.u64.wrap (a0))).bind fun t376 => (some t376)
set_option maxHeartbeats 8000000 in
set_option maxRecDepth 100000 in
theorem impl_size.calls (a0 : Int) (r : Int) (w : World) (h : impl_size.f a0 = some r) :
  Calls Tryd.prog 43 #[.int .i64 a0] w fun e w' => e = .returned (.int .i64 r) ∧ Drawn0 w w' := by
 have H := h
 unfold impl_size.f at H
 clear h
 obtain ⟨t376, A2, H⟩ := zb H
 try dsimp only at H
 obtain rfl := Option.some.inj H
 go_enter Tryd.func43, Tryd.ntmps43
 go_wp2_with (first | (refine zO (some 5) Tryd.func64 #[.int .u64 (IntKind.u64.wrap (a0))] ?_; (with_reducible refine (bits_OnesCount64.calls (IntKind.u64.wrap (a0)) t376 _ A2.out).mono ?_); rintro e w' ⟨rfl, ⟨nd, rfl⟩⟩; refine ⟨_, rfl, ?_⟩))
 go_ret
 exact ⟨zs, by repeat (first | exact Drawn0.refl _ | apply Drawn0.step)⟩

/-! ### impl_cliquePolynomial: function 50 -/
mutual
def impl_cliquePolynomial.l0 : Nat → List Int → List Int → Int → Int → Option (List Int)
 | 0, _, _, _, _ => none
 | k + 1, x3, x8, x9, x10 => if x10 < x9 then (if 0 ≤ x10 then (if x10 < (x8.length : Int) then (impl_cliquePolynomial.l1 k x3 (rd x8 x10) x8 x9 x10) else (none)) else (none)) else (some x3)
def impl_cliquePolynomial.l1 : Nat → List Int → Int → List Int → Int → Int → Option (List Int)
 | 0, _, _, _, _, _ => none
 | k + 1, x3, x5, x8, x9, x10 => (impl_length_int64.f x3).bind fun t385 => ((impl_size.f x5).bind fun t386 => (if t385 ≤ t386 then (if x3.length < 17592186044416 then (impl_cliquePolynomial.l1 k (x3 ++ [0]) x5 x8 x9 x10) else (none)) else ((impl_size.f x5).bind fun t390 => (if 0 ≤ t390 then (if t390 < (x3.length : Int) then ((impl_size.f x5).bind fun t392 => (impl_cliquePolynomial.l0 k (x3.set (t390 : Int).toNat (wrap64 ((rd x3 t390) + (wrap64 (1 - (wrap64 (2 * (Int.tmod t392 2)))))))) x8 x9 (wrap64 (x10 + 1)))) else (none)) else (none)))))
end
def impl_cliquePolynomial.f (k : Nat) (a0_0 : Int) (l0_1 : List Int) : Option (List Int) := (impl_stepsOf.f k a0_0 l0_1).bind fun t381 => (impl_cliquePolynomial.l0 k (([] : List Int)) t381 (t381.length : Int) 0)

def impl_cliquePolynomial.T7 : Bool × List (List Nat × List Nat) := (true, [([], []), ([], []), ([1], [1]), ([0, 2], [0, 2]), ([3], [3]), ([], []), ([5, 2], [5]), ([6], [6]), ([7], [7]), ([8], [8]), ([4, 9], [4, 9]), ([0, 2, 0, 1, 2, 3, 4, 5, 6, 7, 8, 9, 10], [0, 2]), ([11, 10, 6, 0, 1, 2, 3, 4, 5, 6, 7, 8, 9, 10], [10, 11])])
def impl_cliquePolynomial.B7 : List Nat := [0, 0, 2, 7, 15, 0, 38, 102, 230, 486, 1023, 2047, 4095]
theorem impl_cliquePolynomial.tab7 : rtab .any (opsOf Tryd.f50 7) = impl_cliquePolynomial.T7 := by kernel_rfl
theorem impl_cliquePolynomial.bits7 : waitsOk impl_cliquePolynomial.T7.2 impl_cliquePolynomial.B7 = true := by kernel_rfl
set_option maxHeartbeats 8000000 in
set_option maxRecDepth 100000 in
theorem impl_cliquePolynomial.calls (k : Nat) (a0_0 : Int) (A0_1 : Option Addr) (c0_1 : Nat) (l0_1 : List Int) (r : List Int) (w : World) (hr0_1 : Kd.C (Kd.int .i64) w A0_1 l0_1.length l0_1) (hc0_1 : l0_1.length ≤ c0_1) (hT : TabW w) (h : impl_cliquePolynomial.f k a0_0 l0_1 = some r) :
  Calls Tryd.prog 50 #[.agg #[.int .i64 a0_0, .slice A0_1 l0_1.length c0_1]] w fun e w' => ∃ v0_ : Value, e = .returned (v0_) ∧ Kd.R (Kd.int .i64) 2 w' w.heap.size (fun _ => True) v0_ r ∧ Below w.heap.size w w' := by
 have hu29 := Tryd.underlying29
 have HT := zA hT
 clear hT
 have HR0_1 := zA hr0_1
 have HC0_1 := zA hc0_1
 clear hr0_1 hc0_1
 have HB := zA (kW w.heap.size w)
 have H := h
 unfold impl_cliquePolynomial.f at H
 clear h
 obtain ⟨y378, hy378⟩ : ∃ y_ : List Int, y_ = (([] : List Int)) := ⟨_, rfl⟩
 replace H : ((impl_stepsOf.f k a0_0 l0_1).bind fun t381 => (impl_cliquePolynomial.l0 k y378 t381 (t381.length : Int) 0)) = some r := zy hy378 H
 have Ny378 := zA hy378
 clear hy378
 obtain ⟨t381, A2, H⟩ := zb H
 try dsimp only at H
 have H' := zA H
 clear H
 go_enter Tryd.func50, Tryd.ntmps50
 go_wp2_with (first | (refine zBE 1 #[.int .i64 a0_0, .slice A0_1 l0_1.length c0_1] 29 ?_; intro gb377 hg w3 hbox hb; have BK377 := zA (hbox); have GW377 := zA (zBH hg HB.out); have GE377 := zA (zBH hg HB.out); replace HB := zA (kQ (zQ HB.out) hb); clear hb hbox hg) | ((with_reducible refine kS (N := 6) rfl ?_); refine Kd.R_lit (Kd.int .i64) _ 2 ?hg (N := 6) ?hd (xs := ([] : List Int)) (inner := []) (ok := fun _ => True) (okp := fun _ => True) ?hr ?hp (fun _ hk => hk) trivial (kW _ _) (Nat.le_refl _) (by simp) ?_; (case hd => rfl); (case hg => rfl); (case hr => first | (go_simp; done) | (go_simp; rfl)); (case hp => exact (Reps.none _ _)); intro v379 w4 ho5 hb hg_ hnew_; clear hg_ hnew_; (first | rw [← Ny378.out] at ho5 | (simp only [Int.reduceToNat] at ho5; rw [← Ny378.out] at ho5)); have HO380 := zA (kI ho5 (kP (zT HB.out GE377.out))); replace BK377 := zA (zB1 BK377.out hb); replace HB := zA (kQ (zT HB.out GE377.out) hb); clear hb ho5; obtain ⟨hcz6_0, hcz6_1, hfz6_0, hfz6_1⟩ := zB3 BK377.out) | (refine zO (some 8) Tryd.func42 #[.agg #[.int .i64 a0_0, .slice A0_1 l0_1.length c0_1]] ?_; (with_reducible refine (impl_stepsOf.calls k a0_0 _ _ l0_1 t381 _ ?side1 ?side2 ?side3 A2.out).mono ?_); (case side1 => exact zS (kO HR0_1.out HB.out)); (case side2 => exact HC0_1.out); (case side3 => exact TabW.below HT.out (zT HB.out GE377.out)); rintro e w7 ⟨v382, rfl, ho0, hb⟩; refine ⟨_, rfl, ?_⟩; have HO383 := zA (kI (kF ho0 (kH (zP HO380.out))) (kP (zT HB.out GE377.out))); replace HO380 := zA (kE (zP HO380.out) (kC ho0) hb); replace BK377 := zA (zB1 BK377.out hb); replace HB := zA (kQ (zT HB.out GE377.out) hb); (try clear hb); (try clear ho0); obtain ⟨Ao8, co8, eo8⟩ := kM HO383.out; subst eo8))
 go_loopg [3, 10] k (fun kq v3 v10 w' => ∃ (x3_1 : List Int) (x8_1 : List Int) (x10_1 : Int), v10 = .int .i64 x10_1 ∧ Aside0 (impl_cliquePolynomial.l0 kq x3_1 x8_1 (t381.length : Int) x10_1 = some r) ∧ Aside0 (kq ≤ k) ∧ Aside0 (Kd.R (Kd.int .i64) 2 w' w.heap.size (fun k_ => some k_ ≠ ((.slice Ao8 t381.length co8) : Value).ownBlock) v3 x3_1) ∧ Aside0 (Kd.R (Kd.int .i64) 2 w' w.heap.size (fun k_ => some k_ ≠ (v3 : Value).ownBlock) (.slice Ao8 t381.length co8) x8_1) ∧ Aside0 (w'.heap[gb377]? = some (.cells #[.int .i64 a0_0, (.slice A0_1 l0_1.length c0_1)] 29 (0, 0))) ∧ Aside0 (Below w.heap.size w w'))
 case atStart => exact ⟨(y378), (t381), (0), zs, H', ⟨Nat.le_refl _⟩, ⟨zPM HO380.out (fun _ hk => hk.2)⟩, ⟨zPM HO383.out (fun _ hk => hk.2)⟩, ⟨zR BK377.out⟩, ⟨zT HB.out GE377.out⟩⟩
 case round =>
  clear H'
  try clear c4
  try clear c5
  try clear hcz6_0
  try clear hcz6_1
  try clear hfz6_0
  try clear hfz6_1
  obtain ⟨x3_1, x8_1, x10_1, rfl, HA, HK1, HO_3, HO_8, BK377, HB⟩ := hrel
  have hl8_1 := (kB HO_8.out).1
  rw [hl8_1] at HO_8
  (try simp only [hl8_1])
  (try simp only [hl8_1] at BK377)
  (try simp only [hl8_1] at HO_3)
  cases gk with
  | zero => exact absurd HA.out (by simp [impl_cliquePolynomial.l0])
  | succ k1 =>
   have H := HA.out
   clear HA
   simp only [impl_cliquePolynomial.l0] at H
   by_cases c9 : x10_1 < (t381.length : Int)
   ·rw [if_pos c9] at H
    have c9b0 : decide (x10_1 < (t381.length : Int)) = true := decide_eq_true c9
    (try (have c9b0h0_ := c9b0; rw [hl8_1] at c9b0h0_))
    clear c9
    by_cases c10 : 0 ≤ x10_1
    ·rw [if_pos c10] at H
     have c10b0 : decide (0 ≤ x10_1) = true := decide_eq_true c10
     clear c10
     by_cases c11 : x10_1 < (x8_1.length : Int)
     ·rw [if_pos c11] at H
      have c11b0 : decide (x10_1 < (x8_1.length : Int)) = true := decide_eq_true c11
      (try (have c11b0h0_ := c11b0; rw [hl8_1] at c11b0h0_))
      clear c11
      have H' := zA H
      clear H
      have p384 : 0 ≤ (x10_1 : Int) := zd
      have q384 : x10_1 < (x8_1.length : Int) := zd
      obtain ⟨ad384, e384, hx384_0⟩ := Kd.at_int (kB HO_8.out).2.2 x10_1 p384 q384
      cases e384
      replace p384 := eq_true p384
      replace q384 := eq_true q384
      go_wp2
      go_loopg [3] k1 (fun kq v3 w' => ∃ (x3_2 : List Int), Aside0 (impl_cliquePolynomial.l1 kq x3_2 (rd x8_1 x10_1) x8_1 (t381.length : Int) x10_1 = some r) ∧ Aside0 (kq ≤ k1) ∧ Aside0 (Kd.R (Kd.int .i64) 2 w' w.heap.size (fun k_ => some k_ ≠ ((.slice (some ad384) x8_1.length co8) : Value).ownBlock) v3 x3_2) ∧ Aside0 (Kd.R (Kd.int .i64) 2 w' w.heap.size (fun k_ => some k_ ≠ (v3 : Value).ownBlock) (.slice (some ad384) x8_1.length co8) x8_1) ∧ Aside0 (w'.heap[gb377]? = some (.cells #[.int .i64 a0_0, (.slice A0_1 l0_1.length c0_1)] 29 (0, 0))) ∧ Aside0 (Below w.heap.size w w'))
      case atStart => exact ⟨(x3_1), H', ⟨Nat.le_refl _⟩, ⟨by (try simp only [hl8_1]); (with_reducible repeat (first | apply zF | apply zG | apply zH)); exact HO_3.out⟩, ⟨by (try simp only [hl8_1]); (with_reducible repeat (first | apply zF | apply zG | apply zH)); exact HO_8.out⟩, ⟨by (try simp only [hl8_1]); (with_reducible repeat (first | refine zJ ?_ _ | refine zK ?_ | refine zI ?_ _)); exact BK377.out⟩, ⟨zT HB.out GE377.out⟩⟩
      case round =>
       clear H'
       try clear c1
       try clear hx3
       try clear c4
       try clear c5
       try clear c9
       try clear c10
       try clear c11
       try clear hcz6_0
       try clear hcz6_1
       try clear hfz6_0
       try clear hfz6_1
       try clear hx384_0
       obtain ⟨x3_2, HA, HK2, HO_3, HO_8, BK377, HB⟩ := hrel
       cases gk with
       | zero => exact absurd HA.out (by simp [impl_cliquePolynomial.l1])
       | succ k2 =>
        have H := HA.out
        clear HA
        simp only [impl_cliquePolynomial.l1] at H
        obtain ⟨t385, A12, H⟩ := zb H
        try dsimp only at H
        obtain ⟨t386, A13, H⟩ := zb H
        try dsimp only at H
        by_cases c14 : t385 ≤ t386
        ·rw [if_pos c14] at H
         have c14b0 : decide (t385 ≤ t386) = true := decide_eq_true c14
         clear c14
         by_cases c15 : x3_2.length < 17592186044416
         ·rw [if_pos c15] at H
          have LMc15 := zA c15
          clear c15
          obtain ⟨y387, hy387⟩ : ∃ y_ : List Int, y_ = (x3_2 ++ [0]) := ⟨_, rfl⟩
          replace H : (impl_cliquePolynomial.l1 k2 y387 (rd x8_1 x10_1) x8_1 (t381.length : Int) x10_1) = some r := zy hy387 H
          have Ny387 := zA hy387
          clear hy387
          have H' := zA H
          clear H
          obtain ⟨Ao16, co16, eo16⟩ := kM HO_3.out
          subst eo16
          go_wp2_with (first | (refine zO (some 15) Tryd.func51 #[.slice Ao16 x3_2.length co16] ?_; (with_reducible refine (impl_length_int64.calls _ _ x3_2 t385 _ ?side1 ?side2 A12.out).mono ?_); (case side1 => exact zS (kB HO_3.out).2.2); (case side2 => exact (kB HO_3.out).2.1); rintro e w' ⟨rfl, ⟨nd, rfl⟩⟩; refine ⟨_, rfl, ?_⟩) | (refine zO (some 17) Tryd.func43 #[.int .i64 (rd x8_1 x10_1)] ?_; (with_reducible refine (impl_size.calls (rd x8_1 x10_1) t386 _ A13.out).mono ?_); rintro e w' ⟨rfl, ⟨nd, rfl⟩⟩; refine ⟨_, rfl, ?_⟩) | ((with_reducible refine gate_builtin (b := .append) (xs := #[.tmp 19, .tmp 20]) rfl ?_); at_builtin; refine Kd.R_append (Kd.int .i64) (w0 := w) w.heap.size rfl (.tmp 19) (.tmp 20) 22 2 (.int .i64 0) 8 rfl Tryd.underlying22 info2 rfl (by decide) (by omega) (.slice Ao16 x3_2.length co16) x3_2 0 [.int .i64 0] (fun k_ => some k_ ≠ (.slice (some ad384) x8_1.length co8 : Value).ownBlock) (fun _ => False) rfl rfl ?aP (fun _ hk => hk.elim) ?aF ?aO ?aB ?aS ?aL ?_; (case aP => exact rfl); (case aB => exact (zT HB.out GE377.out)); (case aF => exact (fun k_ hk => jF (kH (zP HO_8.out)) k_ hk)); (case aO => exact (zP HO_3.out)); (case aS => exact (kP (zT HB.out GE377.out))); (case aL => have := LMc15.out; omega); intro v388 w17 ho hb hg hat; rw [← Ny387.out] at ho; replace HO_8 := zA (Kd.R_after (ok := (fun _ => True)) (by (with_reducible repeat (first | apply zF | apply zG | apply zH)); exact kA HO_8.out (fun _ hk => ⟨trivial, hk⟩)) hg hat); replace BK377 := zA (blk_grown (g := gb377) (o := .cells #[.int .i64 a0_0, .slice A0_1 l0_1.length c0_1] 29 (0, 0)) (zR BK377.out) hg (Kd.R_ne HO_3.out BK377.out (by decide))); replace HB := zA (hb); have HO389 := zA (ho); clear HO_3; clear ho hb hg hat))
          go_roundg k2
          case measure => have := HK1.out; have := HK2.out; omega
          case rel => exact ⟨(y387), H', ⟨by have := HK1.out; have := HK2.out; omega⟩, ⟨by (try simp only [hl8_1]); (with_reducible repeat (first | apply zF | apply zG | apply zH)); exact HO389.out⟩, ⟨by (try simp only [hl8_1]); (with_reducible repeat (first | apply zF | apply zG | apply zH)); exact kA HO_8.out (fun _ hk => hk.2)⟩, ⟨by (try simp only [hl8_1]); (with_reducible repeat (first | refine zJ ?_ _ | refine zK ?_ | refine zI ?_ _)); exact BK377.out⟩, ⟨zT HB.out GE377.out⟩⟩
         rw [if_neg c15] at H
         exact absurd H (by simp)
        rw [if_neg c14] at H
        have c14b0 : decide (t385 ≤ t386) = false := decide_eq_false c14
        clear c14
        obtain ⟨t390, A18, H⟩ := zb H
        try dsimp only at H
        by_cases c19 : 0 ≤ t390
        ·rw [if_pos c19] at H
         have c19b0 : decide (0 ≤ t390) = true := decide_eq_true c19
         clear c19
         by_cases c20 : t390 < (x3_2.length : Int)
         ·rw [if_pos c20] at H
          have c20b0 : decide (t390 < (x3_2.length : Int)) = true := decide_eq_true c20
          (try (have c20b0h0_ := c20b0; rw [hl8_1] at c20b0h0_))
          clear c20
          obtain ⟨t392, A21, H⟩ := zb H
          try dsimp only at H
          obtain ⟨y393, hy393⟩ : ∃ y_ : List Int, y_ = (x3_2.set (t390 : Int).toNat (wrap64 ((rd x3_2 t390) + (wrap64 (1 - (wrap64 (2 * (Int.tmod t392 2)))))))) := ⟨_, rfl⟩
          replace H : (impl_cliquePolynomial.l0 k2 y393 x8_1 (t381.length : Int) (wrap64 (x10_1 + 1))) = some r := zy hy393 H
          have Ny393 := zA hy393
          clear hy393
          have H' := zA H
          clear H
          obtain ⟨Ao23, co23, eo23⟩ := kM HO_3.out
          subst eo23
          try go_wp2_with (first | (refine zO (some 15) Tryd.func51 #[.slice Ao23 x3_2.length co23] ?_; (with_reducible refine (impl_length_int64.calls _ _ x3_2 t385 _ ?side1 ?side2 A12.out).mono ?_); (case side1 => exact zS (kB HO_3.out).2.2); (case side2 => exact (kB HO_3.out).2.1); rintro e w' ⟨rfl, ⟨nd, rfl⟩⟩; refine ⟨_, rfl, ?_⟩; (try (rw [drewN_self wr]; generalize hq_ : World.drewN wr _ = wr; have n0_ : Aside0 (Kd.R (Kd.int .i64) 2 wr w.heap.size (fun k_ => some k_ ≠ (.slice (some ad384) x8_1.length co8 : Value).ownBlock) (.slice Ao23 x3_2.length co23) x3_2) := ⟨by rw [← hq_]; exact (zP HO_3.out)⟩; have n1_ : Aside0 (Kd.R (Kd.int .i64) 2 wr w.heap.size (fun k_ => some k_ ≠ (.slice Ao23 x3_2.length co23 : Value).ownBlock) (.slice (some ad384) x8_1.length co8) x8_1) := ⟨by rw [← hq_]; exact (zP HO_8.out)⟩; have n2_ : Aside0 (wr.heap[gb377]? = some (.cells #[.int .i64 a0_0, .slice A0_1 l0_1.length c0_1] 29 (0, 0))) := ⟨by rw [← hq_]; exact (zR BK377.out)⟩; have n3_ : Aside0 (Below w.heap.size w wr) := ⟨by rw [← hq_]; exact (zT HB.out GE377.out)⟩; clear HO_3 HO_8 BK377 HB hq_; have HO_3 := n0_; have HO_8 := n1_; have BK377 := n2_; have HB := n3_; clear n0_ n1_ n2_ n3_))) | (refine zO (some 17) Tryd.func43 #[.int .i64 (rd x8_1 x10_1)] ?_; (with_reducible refine (impl_size.calls (rd x8_1 x10_1) t386 _ A13.out).mono ?_); rintro e w' ⟨rfl, ⟨nd, rfl⟩⟩; refine ⟨_, rfl, ?_⟩; (try (rw [drewN_self wr]; generalize hq_ : World.drewN wr _ = wr; have n0_ : Aside0 (Kd.R (Kd.int .i64) 2 wr w.heap.size (fun k_ => some k_ ≠ (.slice (some ad384) x8_1.length co8 : Value).ownBlock) (.slice Ao23 x3_2.length co23) x3_2) := ⟨by rw [← hq_]; exact (zP HO_3.out)⟩; have n1_ : Aside0 (Kd.R (Kd.int .i64) 2 wr w.heap.size (fun k_ => some k_ ≠ (.slice Ao23 x3_2.length co23 : Value).ownBlock) (.slice (some ad384) x8_1.length co8) x8_1) := ⟨by rw [← hq_]; exact (zP HO_8.out)⟩; have n2_ : Aside0 (wr.heap[gb377]? = some (.cells #[.int .i64 a0_0, .slice A0_1 l0_1.length c0_1] 29 (0, 0))) := ⟨by rw [← hq_]; exact (zR BK377.out)⟩; have n3_ : Aside0 (Below w.heap.size w wr) := ⟨by rw [← hq_]; exact (zT HB.out GE377.out)⟩; clear HO_3 HO_8 BK377 HB hq_; have HO_3 := n0_; have HO_8 := n1_; have BK377 := n2_; have HB := n3_; clear n0_ n1_ n2_ n3_))))
          replace HO_3 := zA (zH HO_3.out)
          replace HO_8 := zA (zH HO_8.out)
          replace BK377 := zA (zK BK377.out)
          replace HB := zA (zD HB.out)
          have p391 : 0 ≤ (t390 : Int) := zd
          have q391 : t390 < (x3_2.length : Int) := zd
          obtain ⟨ad391, e391, hx391_0⟩ := Kd.at_int (kB HO_3.out).2.2 t390 p391 q391
          cases e391
          replace p391 := eq_true p391
          replace q391 := eq_true q391
          refine start_ (n := 13) (S := fun w' => w'.cell? (ad391.add (t390).toNat) = some (.int .i64 (rd x3_2 t390))) (ds := [12]) #[false, false, false, false, false, false, false, false, false, false, false, false, false] (by kernel_rfl) rfl rfl (hx391_0) (fun hHeld => ?_); refine with_tabW impl_cliquePolynomial.tab7 impl_cliquePolynomial.bits7 (fun HT_ HW_ => ?_)
          generalize wr.drew = w24 at HO_3 HO_8 BK377 HB hx391_0 hHeld ⊢
          refine zp 0 (some 22) #[true, false, false, false, false, false, false, false, false, false, false, false, false] HT_.out ?_
          refine zp 1 (some 23) #[true, true, false, false, false, false, false, false, false, false, false, false, false] HT_.out ?_
          refine zp 5 (some 27) #[true, true, false, false, false, true, false, false, false, false, false, false, false] HT_.out ?_
          refine one_ (i := 2) (N := some 24) #[true, true, true, false, false, true, false, false, false, false, false, false, false] rfl rfl (one_of HT_.out (by kernel_rfl)) (by decide) (fun K hK => ?_)
          refine goes_ Tryd.func43 (by kernel_rfl) rfl #[.int .i64 (rd x8_1 x10_1)] (by rfl) rfl rfl zg ?_
          with_reducible refine (impl_size.calls (rd x8_1 x10_1) t390 _ A18.out).mono ?_
          rintro e w' ⟨rfl, ⟨nd, rfl⟩⟩
          refine ⟨_, rfl, ?_⟩
          refine hK.out _ _ (hHeld) (fun hHeld => ?_)
          clear hK K
          refine norm_ (a' := ?_) ?_ ?_
          rotate_left
          ·show Act.put _ (some 24) _ = _
           simp only [Act.put, zL, zM, zN, i64_w, i32_w]
           rfl
          refine zp 3 (some 25) #[true, true, true, true, false, true, false, false, false, false, false, false, false] HT_.out ?_
          refine za 4 (some 26) #[true, true, true, true, true, true, false, false, false, false, false, false, false] HT_.out HW_.out hHeld ?_
          refine one_ (i := 6) (N := some 28) #[true, true, true, true, true, true, true, false, false, false, false, false, false] rfl rfl (one_of HT_.out (by kernel_rfl)) (by decide) (fun K hK => ?_)
          refine goes_ Tryd.func43 (by kernel_rfl) rfl #[.int .i64 (rd x8_1 x10_1)] (by rfl) rfl rfl zg ?_
          with_reducible refine (impl_size.calls (rd x8_1 x10_1) t392 _ A21.out).mono ?_
          rintro e w' ⟨rfl, ⟨nd, rfl⟩⟩
          refine ⟨_, rfl, ?_⟩
          have p22 : 0 ≤ (t390 : Int) := zd
          have q22 : (t390 : Int) < ((x3_2.length : Int) : Int) := zd
          obtain ⟨go22, co22, eo22, gb22, gl22, cl22, HG22⟩ := Kd.R_form HO_3.out (by omega)
          (first | cases eo22 | (injection eo22 with ea_ en_ ec_; (first | subst ea_ | (injection ea_ with ea_; subst ea_)); subst ec_; clear en_))
          have GB22 := zA gb22
          have GG22 := zA HG22
          clear gb22 gl22 HG22
          (first | simp only [add_plain] at hx391_0 | skip)
          obtain ⟨hx22_0, hf22_0⟩ := Kd.R_celln 0 HO_3.out (t390 : Int) p22 q22
          replace p22 := eq_true p22
          replace q22 := eq_true q22
          have HP25 := Kd.R_putn HO_3.out (t390 : Int) (wrap64 ((rd x3_2 t390) + (wrap64 (1 - (wrap64 (2 * (Int.tmod t392 2)))))))
          rw [← Ny393.out] at HP25
          have HQ25 := zA HP25
          clear HP25
          refine hK.out _ _ (hHeld) (fun hHeld => ?_)
          clear hK K
          refine norm_ (a' := ?_) ?_ ?_
          rotate_left
          ·show Act.put _ (some 28) _ = _
           simp only [Act.put, zL, zM, zN, i64_w, i32_w]
           rfl
          refine zp 7 (some 29) #[true, true, true, true, true, true, true, true, false, false, false, false, false] HT_.out ?_
          refine zp 8 (some 30) #[true, true, true, true, true, true, true, true, true, false, false, false, false] HT_.out ?_
          refine zp 9 (some 31) #[true, true, true, true, true, true, true, true, true, true, false, false, false] HT_.out ?_
          refine zp 10 (some 32) #[true, true, true, true, true, true, true, true, true, true, true, false, false] HT_.out ?_
          refine zp 11 (some 33) #[true, true, true, true, true, true, true, true, true, true, true, true, false] HT_.out ?_
          refine last_ (i := 12) (N := none) #[true, true, true, true, true, true, true, true, true, true, true, true, true] rfl rfl (one_of HT_.out (by kernel_rfl)) (by decide) (fun K hK => ?_)
          refine skip_ (w1 := ?_) (by rfl) rfl ?_ ?_
          rotate_left
          ·go_simp
           rfl
          refine hK.out _ _ ?_
          clear hK K
          refine done_ (done_of HT_.out (by kernel_rfl)) ?_
          try go_wp2
          (try simp only [← hl8_1])
          go_roundg k2
          case measure => have := HK1.out; have := HK2.out; omega
          case rel => exact ⟨(y393), (x8_1), (wrap64 (x10_1 + 1)), zs, H', ⟨by have := HK1.out; have := HK2.out; omega⟩, ⟨by (try simp only [hl8_1]); (with_reducible repeat (first | apply zF | apply zG | apply zH)); exact HQ25.out⟩, ⟨by (try simp only [hl8_1]); (with_reducible repeat (first | apply zF | apply zG | apply zH)); exact kA (kY (p := ⟨go22, (t390 : Int).toNat, none⟩) (kA HO_8.out (fun k_ hk => (⟨hk, fun e_ => hk (by rw [e_]; rfl)⟩ : _ ∧ k_ ≠ go22))) (fun _ hk => hk.2) (.int .i64 (wrap64 ((rd x3_2 t390) + (wrap64 (1 - (wrap64 (2 * (Int.tmod t392 2))))))))) (fun _ hk => hk.1)⟩, ⟨by (try simp only [hl8_1]); (with_reducible repeat (first | refine zJ ?_ _ | refine zK ?_ | refine zI ?_ _)); refine blk_far ?_ (by have h_ := Kd.R_ne HO_3.out BK377.out (by decide); intro e_; exact h_ (by rw [e_]; rfl)) _; (with_reducible repeat (first | refine zJ ?_ _ | refine zK ?_ | refine zI ?_ _)); exact BK377.out⟩, ⟨zV HB.out GB22.out GE377.out⟩⟩
         rw [if_neg c20] at H
         exact absurd H (by simp)
        rw [if_neg c19] at H
        exact absurd H (by simp)
     rw [if_neg c11] at H
     exact absurd H (by simp)
    rw [if_neg c10] at H
    exact absurd H (by simp)
   rw [if_neg c9] at H
   have c9b0 : decide (x10_1 < (t381.length : Int)) = false := decide_eq_false c9
   (try (have c9b0h0_ := c9b0; rw [hl8_1] at c9b0h0_))
   clear c9
   obtain rfl := Option.some.inj H
   go_wp2
   go_ret
   exact ⟨_, zr, by (with_reducible repeat (first | apply zF | apply zG | apply zH)); exact kA HO_3.out (fun _ hk => trivial), zT HB.out GE377.out⟩

/-! ### impl_checkCount: function 26 -/
def impl_checkCount.f (k : Nat) (a0_0 : Int) (l0_1 : List Int) (a1 : Int) : Option (Int × Int) := (impl_IsAlphabet.f k a0_0 l0_1).bind fun t395 => (if t395 = true then ((impl_inRange.f a1 0 24).bind fun t396 => (if t396 = true then ((impl_cliquePolynomial.f k a0_0 l0_1).bind fun t397 => ((impl_inverse.f k t397 a1).bind fun bt400 => (if bt400.2 = 0 then (if 0 ≤ a1 then (if a1 < (bt400.1.length : Int) then (some (rd bt400.1 a1, 0)) else (none)) else (none)) else (some (0, bt400.2))))) else (some (0, 2)))) else (some (0, 1)))

set_option maxHeartbeats 8000000 in
set_option maxRecDepth 100000 in
theorem impl_checkCount.calls (k : Nat) (a0_0 : Int) (A0_1 : Option Addr) (c0_1 : Nat) (l0_1 : List Int) (a1 : Int) (r1 : Int) (r2 : Int) (w : World) (hr0_1 : Kd.C (Kd.int .i64) w A0_1 l0_1.length l0_1) (hc0_1 : l0_1.length ≤ c0_1) (hT : TabW w) (h : impl_checkCount.f k a0_0 l0_1 a1 = some (r1, r2)) :
  Calls Tryd.prog 26 #[.agg #[.int .i64 a0_0, .slice A0_1 l0_1.length c0_1], .int .i64 a1] w fun e w' => e = .returned (.tuple #[.int .i64 r1, .int .i64 r2]) ∧ Below w.heap.size w w' := by
 have hu29 := Tryd.underlying29
 have HT := zA hT
 clear hT
 have HR0_1 := zA hr0_1
 have HC0_1 := zA hc0_1
 clear hr0_1 hc0_1
 have HB := zA (kW w.heap.size w)
 have H := h
 unfold impl_checkCount.f at H
 clear h
 obtain ⟨t395, A3, H⟩ := zb H
 try dsimp only at H
 by_cases c4 : t395 = true
 ·subst c4
  rw [if_pos rfl] at H
  obtain ⟨t396, A5, H⟩ := zb H
  try dsimp only at H
  by_cases c6 : t396 = true
  ·subst c6
   rw [if_pos rfl] at H
   obtain ⟨t397, A7, H⟩ := zb H
   try dsimp only at H
   obtain ⟨⟨t400, t401⟩, A8, H⟩ := zb H
   try dsimp only at H
   by_cases c9 : t401 = 0
   ·rw [if_pos c9] at H
    obtain ⟨c9b0, c9b1⟩ := zT1 c9
    clear c9
    by_cases c10 : 0 ≤ a1
    ·rw [if_pos c10] at H
     have c10b0 : decide (0 ≤ a1) = true := decide_eq_true c10
     clear c10
     by_cases c11 : a1 < (t400.length : Int)
     ·rw [if_pos c11] at H
      have c11b0 : decide (a1 < (t400.length : Int)) = true := decide_eq_true c11
      clear c11
      simp only [Option.some.injEq, Prod.mk.injEq] at H
      obtain ⟨rfl, rfl⟩ := H
      go_enter Tryd.func26, Tryd.ntmps26
      go_wp2_with (first | (refine zBE 2 #[.int .i64 a0_0, .slice A0_1 l0_1.length c0_1] 29 ?_; intro gb394 hg w12 hbox hb; have BK394 := zA (hbox); have GW394 := zA (zBH hg HB.out); have GE394 := zA (zBH hg HB.out); replace HB := zA (kQ (zQ HB.out) hb); clear hb hbox hg; obtain ⟨hcz13_0, hcz13_1, hfz13_0, hfz13_1⟩ := zB3 BK394.out) | (refine zO (some 9) Tryd.func38 #[.agg #[.int .i64 a0_0, .slice A0_1 l0_1.length c0_1]] ?_; (with_reducible refine (impl_IsAlphabet.calls k a0_0 _ _ l0_1 true _ ?side1 ?side2 ?side3 A3.out).mono ?_); (case side1 => exact zS (kO HR0_1.out HB.out)); (case side2 => exact HC0_1.out); (case side3 => exact TabW.below HT.out (zT HB.out GE394.out)); rintro e w14 ⟨rfl, hb⟩; refine ⟨_, rfl, ?_⟩; replace BK394 := zA (zB1 BK394.out hb); replace HB := zA (kQ (zT HB.out GE394.out) hb); (try clear hb)) | (refine zO (some 12) Tryd.func39 #[.int .i64 a1, .int .i64 0, .int .i64 24] ?_; (with_reducible refine (impl_inRange.calls a1 0 24 true _ A5.out).mono ?_); rintro e w' ⟨rfl, ⟨nd, rfl⟩⟩; refine ⟨_, rfl, ?_⟩; obtain ⟨hcz15_0, hcz15_1, hfz15_0, hfz15_1⟩ := zB3 BK394.out) | (refine zO (some 16) Tryd.func50 #[.agg #[.int .i64 a0_0, .slice A0_1 l0_1.length c0_1]] ?_; (with_reducible refine (impl_cliquePolynomial.calls k a0_0 _ _ l0_1 t397 _ ?side1 ?side2 ?side3 A7.out).mono ?_); (case side1 => exact zS (kO HR0_1.out (zT HB.out GE394.out))); (case side2 => exact HC0_1.out); (case side3 => exact TabW.below HT.out (zT HB.out GE394.out)); rintro e w16 ⟨v398, rfl, ho0, hb⟩; refine ⟨_, rfl, ?_⟩; have HO399 := zA (kI ho0 (kP (zT HB.out GE394.out))); replace BK394 := zA (zB1 BK394.out hb); replace HB := zA (kQ (zT HB.out GE394.out) hb); (try clear hb); (try clear ho0); obtain ⟨Ao17, co17, eo17⟩ := kM HO399.out; subst eo17) | (refine zO (some 18) Tryd.func49 #[.slice Ao17 t397.length co17, .int .i64 a1] ?_; (with_reducible refine (impl_inverse.calls k _ _ t397 a1 t400 t401 _ ?side1 ?side2 A8.out).mono ?_); (case side1 => exact zS (kB HO399.out).2.2); (case side2 => exact (kB HO399.out).2.1); rintro e w18 ⟨v402, rfl, ho0, hb⟩; refine ⟨_, rfl, ?_⟩; have HO403 := zA (kI (kF ho0 (kH (zP HO399.out))) (kP (zT HB.out GE394.out))); replace HO399 := zA (kE (zP HO399.out) (kC ho0) hb); replace BK394 := zA (zB1 BK394.out hb); replace HB := zA (kQ (zT HB.out GE394.out) hb); (try clear hb); (try clear ho0); obtain ⟨Ao19, co19, eo19⟩ := kM HO403.out; subst eo19; have p404 : 0 ≤ (a1 : Int) := zd; have q404 : a1 < (t400.length : Int) := zd; obtain ⟨ad404, e404, hx404_0⟩ := Kd.at_int (kB HO403.out).2.2 a1 p404 q404; cases e404; replace p404 := eq_true p404; replace q404 := eq_true q404))
      go_ret2
      exact ⟨zr, zT HB.out GE394.out⟩
     rw [if_neg c11] at H
     exact absurd H (by simp)
    rw [if_neg c10] at H
    exact absurd H (by simp)
   rw [if_neg c9] at H
   obtain ⟨c9b0, c9b1⟩ := zT2 c9
   simp only [Option.some.injEq, Prod.mk.injEq] at H
   obtain ⟨rfl, rfl⟩ := H
   go_enter Tryd.func26, Tryd.ntmps26
   go_wp2_with (first | (refine zBE 2 #[.int .i64 a0_0, .slice A0_1 l0_1.length c0_1] 29 ?_; intro gb394 hg w20 hbox hb; have BK394 := zA (hbox); have GW394 := zA (zBH hg HB.out); have GE394 := zA (zBH hg HB.out); replace HB := zA (kQ (zQ HB.out) hb); clear hb hbox hg; obtain ⟨hcz21_0, hcz21_1, hfz21_0, hfz21_1⟩ := zB3 BK394.out) | (refine zO (some 9) Tryd.func38 #[.agg #[.int .i64 a0_0, .slice A0_1 l0_1.length c0_1]] ?_; (with_reducible refine (impl_IsAlphabet.calls k a0_0 _ _ l0_1 true _ ?side1 ?side2 ?side3 A3.out).mono ?_); (case side1 => exact zS (kO HR0_1.out HB.out)); (case side2 => exact HC0_1.out); (case side3 => exact TabW.below HT.out (zT HB.out GE394.out)); rintro e w22 ⟨rfl, hb⟩; refine ⟨_, rfl, ?_⟩; replace BK394 := zA (zB1 BK394.out hb); replace HB := zA (kQ (zT HB.out GE394.out) hb); (try clear hb)) | (refine zO (some 12) Tryd.func39 #[.int .i64 a1, .int .i64 0, .int .i64 24] ?_; (with_reducible refine (impl_inRange.calls a1 0 24 true _ A5.out).mono ?_); rintro e w' ⟨rfl, ⟨nd, rfl⟩⟩; refine ⟨_, rfl, ?_⟩; obtain ⟨hcz23_0, hcz23_1, hfz23_0, hfz23_1⟩ := zB3 BK394.out) | (refine zO (some 16) Tryd.func50 #[.agg #[.int .i64 a0_0, .slice A0_1 l0_1.length c0_1]] ?_; (with_reducible refine (impl_cliquePolynomial.calls k a0_0 _ _ l0_1 t397 _ ?side1 ?side2 ?side3 A7.out).mono ?_); (case side1 => exact zS (kO HR0_1.out (zT HB.out GE394.out))); (case side2 => exact HC0_1.out); (case side3 => exact TabW.below HT.out (zT HB.out GE394.out)); rintro e w24 ⟨v398, rfl, ho0, hb⟩; refine ⟨_, rfl, ?_⟩; have HO399 := zA (kI ho0 (kP (zT HB.out GE394.out))); replace BK394 := zA (zB1 BK394.out hb); replace HB := zA (kQ (zT HB.out GE394.out) hb); (try clear hb); (try clear ho0); obtain ⟨Ao25, co25, eo25⟩ := kM HO399.out; subst eo25) | (refine zO (some 18) Tryd.func49 #[.slice Ao25 t397.length co25, .int .i64 a1] ?_; (with_reducible refine (impl_inverse.calls k _ _ t397 a1 t400 t401 _ ?side1 ?side2 A8.out).mono ?_); (case side1 => exact zS (kB HO399.out).2.2); (case side2 => exact (kB HO399.out).2.1); rintro e w26 ⟨v402, rfl, ho0, hb⟩; refine ⟨_, rfl, ?_⟩; have HO403 := zA (kI (kF ho0 (kH (zP HO399.out))) (kP (zT HB.out GE394.out))); replace HO399 := zA (kE (zP HO399.out) (kC ho0) hb); replace BK394 := zA (zB1 BK394.out hb); replace HB := zA (kQ (zT HB.out GE394.out) hb); (try clear hb); (try clear ho0)))
   go_ret2
   exact ⟨zr, zT HB.out GE394.out⟩
  replace c6 := Bool.eq_false_iff.mpr c6
  subst c6
  rw [if_neg (show ¬ (false = true) by decide)] at H
  simp only [Option.some.injEq, Prod.mk.injEq] at H
  obtain ⟨rfl, rfl⟩ := H
  go_enter Tryd.func26, Tryd.ntmps26
  go_wp2_with (first | (refine zBE 2 #[.int .i64 a0_0, .slice A0_1 l0_1.length c0_1] 29 ?_; intro gb394 hg w27 hbox hb; have BK394 := zA (hbox); have GW394 := zA (zBH hg HB.out); have GE394 := zA (zBH hg HB.out); replace HB := zA (kQ (zQ HB.out) hb); clear hb hbox hg; obtain ⟨hcz28_0, hcz28_1, hfz28_0, hfz28_1⟩ := zB3 BK394.out) | (refine zO (some 9) Tryd.func38 #[.agg #[.int .i64 a0_0, .slice A0_1 l0_1.length c0_1]] ?_; (with_reducible refine (impl_IsAlphabet.calls k a0_0 _ _ l0_1 true _ ?side1 ?side2 ?side3 A3.out).mono ?_); (case side1 => exact zS (kO HR0_1.out HB.out)); (case side2 => exact HC0_1.out); (case side3 => exact TabW.below HT.out (zT HB.out GE394.out)); rintro e w29 ⟨rfl, hb⟩; refine ⟨_, rfl, ?_⟩; replace BK394 := zA (zB1 BK394.out hb); replace HB := zA (kQ (zT HB.out GE394.out) hb); (try clear hb)) | (refine zO (some 12) Tryd.func39 #[.int .i64 a1, .int .i64 0, .int .i64 24] ?_; (with_reducible refine (impl_inRange.calls a1 0 24 false _ A5.out).mono ?_); rintro e w' ⟨rfl, ⟨nd, rfl⟩⟩; refine ⟨_, rfl, ?_⟩))
  go_ret2
  exact ⟨zr, zT HB.out GE394.out⟩
 replace c4 := Bool.eq_false_iff.mpr c4
 subst c4
 rw [if_neg (show ¬ (false = true) by decide)] at H
 simp only [Option.some.injEq, Prod.mk.injEq] at H
 obtain ⟨rfl, rfl⟩ := H
 go_enter Tryd.func26, Tryd.ntmps26
 go_wp2_with (first | (refine zBE 2 #[.int .i64 a0_0, .slice A0_1 l0_1.length c0_1] 29 ?_; intro gb394 hg w30 hbox hb; have BK394 := zA (hbox); have GW394 := zA (zBH hg HB.out); have GE394 := zA (zBH hg HB.out); replace HB := zA (kQ (zQ HB.out) hb); clear hb hbox hg; obtain ⟨hcz31_0, hcz31_1, hfz31_0, hfz31_1⟩ := zB3 BK394.out) | (refine zO (some 9) Tryd.func38 #[.agg #[.int .i64 a0_0, .slice A0_1 l0_1.length c0_1]] ?_; (with_reducible refine (impl_IsAlphabet.calls k a0_0 _ _ l0_1 false _ ?side1 ?side2 ?side3 A3.out).mono ?_); (case side1 => exact zS (kO HR0_1.out HB.out)); (case side2 => exact HC0_1.out); (case side3 => exact TabW.below HT.out (zT HB.out GE394.out)); rintro e w32 ⟨rfl, hb⟩; refine ⟨_, rfl, ?_⟩; replace BK394 := zA (zB1 BK394.out hb); replace HB := zA (kQ (zT HB.out GE394.out) hb); (try clear hb)))
 go_ret2
 exact ⟨zr, zT HB.out GE394.out⟩

/-! ### impl_Alphabet_ties: function 27 -/
def impl_Alphabet_ties.f (a0_0 : Int) (l0_1 : List Int) : Option (List Int) := some l0_1
set_option maxHeartbeats 8000000 in
set_option maxRecDepth 100000 in
theorem impl_Alphabet_ties.calls (a0_0 : Int) (P0_1_ : Nat → Prop) (A0_1 : Option Addr) (c0_1 : Nat) (l0_1 : List Int) (r : List Int) (w : World) (hs0_1 : Kd.V (Kd.int .i64) 2 w w.heap.size (fun k_ => P0_1_ k_) (.slice A0_1 l0_1.length c0_1) l0_1) (h : impl_Alphabet_ties.f a0_0 l0_1 = some r) :
  Calls Tryd.prog 27 #[.agg #[.int .i64 a0_0, .slice A0_1 l0_1.length c0_1]] w fun e w' => ∃ v0_ : Value, e = .returned (v0_) ∧ Kd.V (Kd.int .i64) 2 w' w.heap.size (fun k_ => (P0_1_ k_ ∨ w.heap.size ≤ k_)) v0_ r ∧ Below w.heap.size w w' := by
 have hu29 := Tryd.underlying29
 have HO0_1 := zA (show Kd.V (Kd.int .i64) 2 w w.heap.size (fun k_ => (P0_1_ k_ ∨ w.heap.size ≤ k_)) (.slice A0_1 l0_1.length c0_1) l0_1 from kN hs0_1 (fun k_ hk => .inl hk))
 have HB := zA (kW w.heap.size w)
 have H := h
 unfold impl_Alphabet_ties.f at H
 clear h
 obtain rfl := Option.some.inj H
 go_enter Tryd.func27, Tryd.ntmps27
 go_wp2_with (first | (refine zBE 1 #[.int .i64 a0_0, .slice A0_1 l0_1.length c0_1] 29 ?_; intro gb405 hg w2 hbox hb; replace HO0_1 := zA (kG (jD (zPV HO0_1.out) gb405 (Nat.le_of_eq hg.symm)) hb); have BK405 := zA (hbox); have GW405 := zA (zBH hg HB.out); have GE405 := zA (zBH hg HB.out); replace HB := zA (kQ (zQ HB.out) hb); clear hb hbox hg; obtain ⟨hcz3_0, hcz3_1, hfz3_0, hfz3_1⟩ := zB3 BK405.out))
 go_ret
 exact ⟨_, zr, by (with_reducible repeat (first | apply Kd.V_alloc | apply Kd.V_drewN | apply Kd.V_drew)); exact kN HO0_1.out (fun _ hk => hk.1), zT HB.out GE405.out⟩

/-! ### slices_Clone_int64_int64: function 30: a contract of our own -/
def slices_Clone_int64_int64.f (l0 : List Int) : Option (List Int) := if l0.length < 17592186044416 then some l0 else none
set_option maxHeartbeats 2000000 in
set_option maxRecDepth 100000 in
theorem slices_Clone_int64_int64.calls (A0 : Option Addr) (c0 : Nat) (l0 : List Int) (r : List Int) (w : World) (hr0 : Kd.C (Kd.int .i64) w A0 l0.length l0) (hc0 : l0.length ≤ c0) (h : slices_Clone_int64_int64.f l0 = some r) :
  Calls Tryd.prog 30 #[.slice A0 l0.length c0] w fun e w' => ∃ v0_ : Value, e = .returned (v0_) ∧ Kd.R (Kd.int .i64) 2 w' w.heap.size (fun _ => True) v0_ r ∧ Below w.heap.size w w' := by
 unfold slices_Clone_int64_int64.f at h
 by_cases hl : l0.length < 17592186044416
 ·rw [if_pos hl] at h
  obtain rfl := Option.some.inj h
  clear h
  have HR0 := zA hr0
  have HL := zA hl
  have qnil : ∀ (w : World) (a : Option Addr) (n c n' c' : Nat), (binOp .eql 22 (.slice a n c) (.slice none n' c')).run Tryd.prog w = .ok (.bool a.isNone) w := fun w a n c n' c' => Lib.run_eql_slice_nil w _ _ a n c n' c' Tryd.underlying22
  cases A0 with
  | none =>
   have hz : l0 = [] := by
    rcases Nat.eq_zero_or_pos l0.length with e | e
    ·exact List.eq_nil_of_length_eq_zero e
    obtain ⟨ad, e1, _⟩ := hr0.2.2 e
    cases e1
   subst hz
   clear hr0 hl hc0
   go_enter Tryd.func30, Tryd.ntmps30
   go_wp2
   go_ret
   exact ⟨_, rfl, jO _ _ _ _ _, kW _ _⟩
  | some ad =>
   clear hr0 hl hc0
   go_enter Tryd.func30, Tryd.ntmps30
   go_wp2_with (first | ((with_reducible refine kS (N := 5) rfl ?_); refine Kd.R_lit (Kd.int .i64) _ 2 ?hg (N := 5) ?hd (xs := ([] : List Int)) (inner := []) (ok := fun _ => True) (okp := fun _ => True) ?hr ?hp (fun _ hk => hk) trivial (kW _ _) (Nat.le_refl _) (by simp) ?_; (case hd => rfl); (case hg => rfl); (case hr => first | (go_simp; done) | (go_simp; rfl)); (case hp => exact (Reps.none _ _)); intro v5 w5 ho hb hg_ hnew_; clear hg_ hnew_; have HO := zA ho; have HB := zA hb; clear ho hb) | ((with_reducible refine gate_builtin (b := .append) (xs := #[.tmp 5, .tmp 6]) rfl ?_); at_builtin; refine Kd.R_append_rows (Kd.int .i64) (w0 := w) w.heap.size rfl (.tmp 5) (.tmp 6) 22 2 (.int .i64 0) 8 rfl Tryd.underlying22 info2 rfl (by decide) (by omega) v5 [] l0 _ _ _ (fun _ => True) (fun _ => False) rfl rfl HO.out (kO HR0.out HB.out) (fun _ _ h => h) (fun _ h => h.elim) (fun _ _ => trivial) HB.out HB.out.size (by have := HL.out; simp; omega) ?_; intro v6 w6 ho hb hg hat; have HO' := zA ho; have HB' := zA hb; clear ho hb hg hat HO HB))
   go_ret
   exact ⟨_, rfl, HO'.out, HB'.out⟩
 rw [if_neg hl] at h
 cases h

/-! ### impl_ties_forbidden: function 53 -/
def impl_ties_forbidden.f (l0 : List Int) (a1 : Int) (a2 : Int) : Option (Int) := (impl_one.f a2).bind fun t406 => (if 0 ≤ a2 then (if a2 < (l0.length : Int) then (some (Go.bits .andNot .i64 (Go.bits .or .i64 a1 (wrap64 (t406 - 1))) (rd l0 a2))) else (none)) else (none))
set_option maxHeartbeats 8000000 in
set_option maxRecDepth 100000 in
theorem impl_ties_forbidden.calls (A0 : Option Addr) (c0 : Nat) (l0 : List Int) (a1 : Int) (a2 : Int) (r : Int) (w : World) (hr0 : Kd.C (Kd.int .i64) w A0 l0.length l0) (hc0 : l0.length ≤ c0) (h : impl_ties_forbidden.f l0 a1 a2 = some r) :
  Calls Tryd.prog 53 #[.slice A0 l0.length c0, .int .i64 a1, .int .i64 a2] w fun e w' => e = .returned (.int .i64 r) ∧ Drawn0 w w' := by
 have HR0 := zA hr0
 have HC0 := zA hc0
 clear hr0 hc0
 have H := h
 unfold impl_ties_forbidden.f at H
 clear h
 obtain ⟨t406, A4, H⟩ := zb H
 try dsimp only at H
 by_cases c5 : 0 ≤ a2
 ·rw [if_pos c5] at H
  have c5b0 : decide (0 ≤ a2) = true := decide_eq_true c5
  clear c5
  by_cases c6 : a2 < (l0.length : Int)
  ·rw [if_pos c6] at H
   have c6b0 : decide (a2 < (l0.length : Int)) = true := decide_eq_true c6
   clear c6
   obtain rfl := Option.some.inj H
   go_enter Tryd.func53, Tryd.ntmps53
   go_wp2_with (first | (go_at_call 61; (with_reducible refine (impl_one.calls a2 t406 _ A4.out).mono ?_); rintro e w' ⟨rfl, ⟨nd, rfl⟩⟩; (try exact zw); have p407 : 0 ≤ (a2 : Int) := zd; have q407 : a2 < (l0.length : Int) := zd; obtain ⟨ad407, e407, hx407_0⟩ := Kd.at_int HR0.out a2 p407 q407; cases e407; replace p407 := eq_true p407; replace q407 := eq_true q407))
   repeat (go_quiet (first | (go_at_call 61; (with_reducible refine (impl_one.calls a2 t406 _ A4.out).mono ?_); rintro e w' ⟨rfl, ⟨nd, rfl⟩⟩; (try exact zw); have p407 : 0 ≤ (a2 : Int) := zd; have q407 : a2 < (l0.length : Int) := zd; obtain ⟨ad407, e407, hx407_0⟩ := Kd.at_int HR0.out a2 p407 q407; cases e407; replace p407 := eq_true p407; replace q407 := eq_true q407)); try go_wp2_with (first | (go_at_call 61; (with_reducible refine (impl_one.calls a2 t406 _ A4.out).mono ?_); rintro e w' ⟨rfl, ⟨nd, rfl⟩⟩; (try exact zw); have p407 : 0 ≤ (a2 : Int) := zd; have q407 : a2 < (l0.length : Int) := zd; obtain ⟨ad407, e407, hx407_0⟩ := Kd.at_int HR0.out a2 p407 q407; cases e407; replace p407 := eq_true p407; replace q407 := eq_true q407)))
   go_ret
   exact ⟨by first | rfl | (simp only [i64_w] <;> rfl) | (simp; done) | (simp [*]; done), by repeat (first | exact Drawn0.refl _ | apply Drawn0.step)⟩
  rw [if_neg c6] at H
  exact absurd H (by simp)
 rw [if_neg c5] at H
 exact absurd H (by simp)

-- NOT PRINTED: function 28 (impl_ties_forms)

/-! ### impl_TracesOfLength: function 9: a contract of our own -/
mutual
def impl_ties_forms.r : Nat → List Int → List Int → Int → Int → List (List Int) → Option (List (List Int))
 | 0, _, _, _, _, _ => none
 | k + 1, D, s, M, m, L => if m = 0 then (if s.length < 1000000000 ∧ L.length < 1000000000 then some (L ++ [s]) else none) else impl_ties_forms.l0 k D s M m L 0
def impl_ties_forms.l0 : Nat → List Int → List Int → Int → Int → List (List Int) → Int → Option (List (List Int))
 | 0, _, _, _, _, _, _ => none
 | k + 1, D, s, M, m, L, a => if a < (D.length : Int) then ((impl_has.f M a).bind fun b => (if b = true then impl_ties_forms.l0 k D s M m L (wrap64 (a + 1)) else (if s.length < 1000000000 then ((impl_ties_forbidden.f D M a).bind fun M2 => ((impl_ties_forms.r k D (s ++ [a]) M2 (wrap64 (m - 1)) L).bind fun L2 => impl_ties_forms.l0 k D s M m L2 (wrap64 (a + 1)))) else none))) else some L
end
def impl_TracesOfLength.f (k : Nat) (a0_0 : Int) (l0_1 : List Int) (a1 : Int) : Option ((List (List Int)) × Int) := (impl_checkCount.f k a0_0 l0_1 a1).bind fun bt => if bt.2 = 0 then (if bt.1 > 1000 then some ([], 3) else (impl_ties_forms.r k l0_1 [] 0 a1 []).bind fun L => some (L, 0)) else some ([], bt.2)
/-- what holds while the program's list grows: the box of the list at B, the rows, the word -/
def FmI (W0 w : World) (B : Nat) (vs : Value) (s : List Int) (W : World) (L : List (List Int)) : Prop :=
 ∃ A c, W.heap[B]? = some (.cells #[.slice A L.length c] 26 (0, 0)) ∧ Kd.S (Kd.slice 2 (Kd.int .i64)) 22 W W0.heap.size (fun _ => True) (.slice A L.length c) L ∧ Below W0.heap.size W0 W ∧ Kd.R (Kd.int .i64) 2 W W0.heap.size (fun _ => True) vs s ∧ IntsKeep 2 w W ∧ W0.heap.size ≤ B
section
variable {W0 w : World} {B : Nat} {vs : Value} {s : List Int} {W w1 : World} {L : List (List Int)}
theorem FmI_below (h : FmI W0 w B vs s W L) (hb : Below W.heap.size W w1) : FmI W0 w B vs s w1 L := by
 obtain ⟨A, c, h1, h2, h3, h4, h5, h6⟩ := h
 exact ⟨A, c, (hb.block B (jI h1)).trans h1, Kd.S_below h2 hb, Below.grown h3 (grown_of_below hb none) h3.size (fun j hj => by cases hj), kL h4 hb, keep_ints_trans h5 (keep_ints_below hb), h6⟩
theorem FmI_drawn (h : FmI W0 w B vs s W L) (hd : Drawn0 W w1) : FmI W0 w B vs s w1 L := by
 obtain ⟨m, rfl⟩ := hd
 exact FmI_below h (zC (kW _ _) m)
end
/-- a row at the end of the list: rows of other types stay -/
theorem list_app_keep2 {e : Nat} {base : Nat} {W w1 : World} {v : Value} {L : List (List Int)} (he : e ≠ 22) (hs : Kd.S (Kd.slice 2 (Kd.int .i64)) 22 W base (fun _ => True) v L) (hg : W.grownBy w1 v.ownBlock) : IntsKeep e W w1 :=
 keep_ints_grown hg (fun k hk => by
  obtain ⟨c, hc⟩ := Kd.S_typed hs k hk
  exact ⟨c, _, hc, fun h => he h.symm⟩)
set_option maxHeartbeats 8000000 in
set_option maxRecDepth 100000 in
theorem forms_each (W0 : World) (B : Nat) (hB : W0.heap.size ≤ B) (A1 : Option Addr) (c1 : Nat) (s : List Int) (L : List (List Int)) (w : World) (hs1 : s.length < 1000000000) (hl1 : L.length < 1000000000) (h : FmI W0 w B (.slice A1 s.length c1) s w L) :
  Calls Tryd.prog 29 #[.slice A1 s.length c1, .pointer (some ⟨B, 0, none⟩)] w fun e w' => e = .returned (.bool false) ∧ FmI W0 w B (.slice A1 s.length c1) s w' (L ++ [s]) := by
 have HI := zA h
 have H1 := zA hs1
 have H2 := zA hl1
 obtain ⟨A, c, h1, h2, h3, h4, h5, h6⟩ := h
 have HK1 := zA h1
 have HL := zA h2
 have HB := zA h3
 have HS := zA h4
 have HS0 := zA h4
 clear h1 h2 h3 h4 h5 h6 hs1 hl1
 have hcz := kV HK1.out 0
 have hfz := jH HK1.out 0
 go_enter Tryd.func29, Tryd.ntmps29
 go_wp2
 have HD := zA (zD (kW w.heap.size w))
 have HK2 := zA ((HD.out.block B (jI HK1.out)).trans HK1.out)
 replace hcz := kV HK2.out 0
 clear hfz
 refine start_ (n := 6) (S := fun w' => w'.cell? ⟨B, 0, none⟩ = some (.slice A L.length c)) (ds := [5]) #[false, false, false, false, false, false] (by kernel_rfl) rfl rfl (hcz.trans rfl) (fun hHeld => ?_)
 clear hcz
 replace HI := zA (FmI_below HI.out HD.out)
 replace HL := zA (Kd.S_below HL.out HD.out)
 replace HB := zA (Below.grown HB.out (grown_of_below HD.out none) HB.out.size (fun j hj => by cases hj))
 replace HS := zA (kL HS.out HD.out)
 have HKW := zA (keep_ints_below (e := 2) HD.out)
 generalize w.drew = w5 at HI HL HB HS HK2 HKW hHeld ⊢
 refine take_ (i := 0) (N := some 4) (v := ?_) (a' := ?_) #[true, false, false, false, false, false] rfl rfl (by kernel_rfl) (fun _ _ _ h => h) (Or.inl ⟨by rfl, ?_⟩) hHeld ?_ ?_
 rotate_left
 ·rintro w' s0
  go_simp
  with_reducible rfl
 rotate_left
 ·simp only [Act.put, zL, zM, zN, i64_w, i32_w]
  rfl
 refine pure_ (i := 1) (N := some 5) (v := ?_) (a' := ?_) #[true, true, false, false, false, false] rfl rfl (by kernel_rfl) (fun _ _ _ h => h) (Or.inl ⟨by rfl, ?_⟩) ?_ ?_
 rotate_left
 ·intro w'
  go_simp
  with_reducible rfl
 rotate_left
 ·simp only [Act.put, zL, zM, zN, i64_w, i32_w]
  rfl
 refine one_ (i := 2) (N := some 6) #[true, true, true, false, false, false] rfl rfl (by kernel_rfl) (by decide) (fun K hK => ?_)
 refine goes_ Tryd.func30 (by kernel_rfl) rfl #[.slice A1 s.length c1] (by rfl) rfl rfl (by simp only [List.map_toArray, List.map_cons, List.map_nil]; rfl) ?_
 with_reducible refine (slices_Clone_int64_int64.calls _ _ s s _ ?side1 ?side2 (by unfold slices_Clone_int64_int64.f; rw [if_pos (by have := H1.out; omega)])).mono ?_
 case side1 => exact (kB HS.out).2.2
 case side2 => exact (kB HS.out).2.1
 rintro e w6 ⟨v6, rfl, ho0, hb⟩
 refine ⟨_, rfl, ?_⟩
 obtain ⟨Ao, co, eo⟩ := kM ho0
 subst eo
 have HK6 := zA ((hb.block B (jI HK2.out)).trans HK2.out)
 have HB6 := zA (Below.grown HB.out (grown_of_below hb none) HB.out.size (fun j hj => by cases hj))
 have HZ := zA (Kd.S_below (Kd.S_mono (Kd.S_bound HL.out) (ok' := fun k_ => k_ < w5.heap.size) (fun k_ hk_ => hk_.2.2.1)) hb)
 have HL6 := zA (Kd.S_below HL.out hb)
 have HV := zA (Kd.S_lt HL.out)
 have HKW6 := zA (keep_ints_trans HKW.out (keep_ints_below hb))
 have HO := zA ho0
 have HZ6 := zA hb.size
 refine hK.out _ _ ((kV HK6.out 0).trans rfl) (fun hHeld => ?_)
 clear hK K ho0 hb
 refine norm_ (a' := ?_) ?_ ?_
 rotate_left
 ·show Act.put _ (some 6) _ = _
  simp only [Act.put, zL, zM, zN, i64_w, i32_w]
  rfl
 refine one_ (i := 3) (N := some 7) #[true, true, true, true, false, false] rfl rfl (by kernel_rfl) (by decide) (fun K hK => ?_)
 refine value_ (v := .slice (some ⟨w6.heap.size, 0, none⟩) 1 1) (w1 := w6.alloc (.cells #[.slice Ao s.length co] 22)) (by rfl) rfl (by first | (go_simp; done) | (go_simp; rfl)) ?_
 refine hK.out _ _ ((kV (zI HK6.out _) 0).trans rfl) (fun hHeld => ?_)
 clear hK K
 refine norm_ (a' := ?_) ?_ ?_
 rotate_left
 ·show Act.put _ (some 7) _ = _
  simp only [Act.put, zL, zM, zN, i64_w, i32_w]
  rfl
 refine one_ (i := 4) (N := some 8) #[true, true, true, true, true, false] rfl rfl (by kernel_rfl) (by decide) (fun K hK => ?_)
 refine Kd.S_append_step (Kd.slice 2 (Kd.int .i64)) (w0 := W0) (W := w6) W0.heap.size (by rfl) (.tmp 4) (.tmp 7) 26 22 (.slice none 0 0) 24 rfl Tryd.underlying26 info22 rfl (by decide) (by omega) (.slice A L.length c) L s [.slice Ao s.length co] (fun _ => True) (fun k_ => w5.heap.size ≤ k_) rfl rfl ?aP ?aH (fun _ _ => trivial) ?aO ?aB ?aS ?aL ?_
 case aP => exact Kd.M_row (kI (kA (Kd.R_bound HO.out) (fun _ hk_ => hk_.2.1)) HB.out.size)
 case aH => exact fun k_ hk_ => ⟨trivial, fun e_ => by have := HV.out k_ e_.symm; omega⟩
 case aO => exact Kd.S_mono HZ.out (fun k_ hk_ => ⟨trivial, Nat.not_le.2 hk_⟩)
 case aB => exact HB6.out
 case aS => exact HB6.out.size
 case aL => have := H2.out; omega
 intro v8 w7 ho hb hg hat
 have hne : some B ≠ (Value.slice A L.length c).ownBlock := fun e_ => by
  obtain ⟨c2_, hc2⟩ := Kd.S_typed HL6.out B e_.symm
  rw [HK6.out] at hc2
  simp at hc2
 have HK7 := zA ((hg.block B (jI HK6.out) hne).trans HK6.out)
 have HKW7 := zA (keep_ints_trans HKW6.out (list_app_keep2 (by decide) HL6.out hg))
 refine hK.out _ _ ((kV HK7.out 0).trans rfl) (fun hHeld => ?_)
 obtain ⟨A8, c8, e8⟩ := Kd.S_slice ho
 subst e8
 have HL7 := zA ho
 have HB7 := zA hb
 clear hK K ho hb hg hat hne
 refine norm_ (a' := ?_) ?_ ?_
 rotate_left
 ·show Act.put _ (some 8) _ = _
  simp only [Act.put, zL, zM, zN, i64_w, i32_w]
  rfl
 have hfz7 := jH HK7.out 0
 have hcz7 := kV HK7.out 0
 refine last_ (i := 5) (N := none) #[true, true, true, true, true, true] rfl rfl (by kernel_rfl) (by decide) (fun K hK => ?_)
 refine skip_ (w1 := w7.setCell ⟨B, 0, none⟩ (.slice A8 (L ++ [s]).length c8)) (by rfl) rfl (by first | (go_simp; done) | (go_simp; rfl)) ?_
 refine hK.out _ _ ?_
 clear hK K hfz7 hcz7
 refine done_ (by kernel_rfl) ?_
 have HF := zA (show FmI W0 w B (.slice A1 s.length c1) s (w7.setCell ⟨B, 0, none⟩ (.slice A8 (L ++ [s]).length c8)) (L ++ [s]) from ?_)
 ·go_wp2
  go_ret
  exact ⟨rfl, HF.out⟩
 refine ⟨A8, c8, ?_, Kd.S_set HL7.out HK7.out (by decide) 0 _, zE HB7.out hB, R_ints HS0.out (keep_ints_trans HKW7.out (keep_ints_set HK7.out (by decide))), keep_ints_trans HKW7.out (keep_ints_set HK7.out (by decide)), hB⟩
 have := blk_set HK7.out 0 (.slice A8 (L ++ [s]).length c8)
 simpa using this
theorem FmI_C {W0 w : World} {B : Nat} {vs : Value} {s : List Int} {W : World} {L : List (List Int)} {A0 : Option Addr} {D : List Int} (h : Kd.C (Kd.int .i64) W0 A0 D.length D) (hI : FmI W0 w B vs s W L) : Kd.C (Kd.int .i64) W A0 D.length D := by
 obtain ⟨A, c, _, _, h3, _⟩ := hI
 exact kO h h3
theorem FmI_S {W0 w : World} {B : Nat} {A1 : Option Addr} {c1 : Nat} {s : List Int} {W : World} {L : List (List Int)} (hI : FmI W0 w B (.slice A1 s.length c1) s W L) : Kd.C (Kd.int .i64) W A1 s.length s := by
 obtain ⟨A, c, _, _, _, h4, _⟩ := hI
 exact (kB h4).2.2
theorem FmI_le {W0 w : World} {B : Nat} {A1 : Option Addr} {c1 : Nat} {s : List Int} {W : World} {L : List (List Int)} (hI : FmI W0 w B (.slice A1 s.length c1) s W L) : s.length ≤ c1 := by
 obtain ⟨A, c, _, _, _, h4, _⟩ := hI
 exact (kB h4).2.1
theorem FmI_size {W0 w : World} {B : Nat} {vs : Value} {s : List Int} {W : World} {L : List (List Int)} (hI : FmI W0 w B vs s W L) : W0.heap.size ≤ W.heap.size := by
 obtain ⟨A, c, _, _, h3, _⟩ := hI
 exact h3.size
theorem FmI_word {W0 w : World} {B : Nat} {vs vs2 : Value} {s s2 : List Int} {W : World} {L : List (List Int)} (hI : FmI W0 w B vs s W L) (hr : Kd.R (Kd.int .i64) 2 W W0.heap.size (fun _ => True) vs2 s2) : FmI W0 W B vs2 s2 W L := by
 obtain ⟨A, c, h1, h2, h3, _, _, h6⟩ := hI
 exact ⟨A, c, h1, h2, h3, hr, keep_ints_refl _ _, h6⟩
theorem FmI_ext {W0 w : World} {B : Nat} {vs vs2 : Value} {s s2 : List Int} {W W2 : World} {L L2 : List (List Int)} (hI : FmI W0 w B vs s W L) (h2 : FmI W0 W B vs2 s2 W2 L2) : FmI W0 w B vs s W2 L2 := by
 obtain ⟨_, _, _, _, _, a4, a5, a6⟩ := hI
 obtain ⟨A, c, h1, h2, h3, _, h5, h6⟩ := h2
 exact ⟨A, c, h1, h2, h3, R_ints a4 h5, keep_ints_trans a5 h5, h6⟩
theorem R_drawn5 {e base : Nat} {ok : Nat → Prop} {w w1 : World} {v : Value} {xs : List Int} (h : Kd.R (Kd.int .i64) e w base ok v xs) (hd : Drawn0 w w1) : Kd.R (Kd.int .i64) e w1 base ok v xs := by
 obtain ⟨n, rfl⟩ := hd
 exact kL h (zC (kW _ _) n)
set_option maxHeartbeats 8000000 in
set_option maxRecDepth 100000 in
theorem forms_calls (W0 : World) (B : Nat) (hB : W0.heap.size ≤ B) (A0 : Option Addr) (c0 : Nat) (D : List Int) (hD : Kd.C (Kd.int .i64) W0 A0 D.length D) (hc0 : D.length ≤ c0) : ∀ (k : Nat) (s : List Int) (M m : Int) (L r : List (List Int)) (A1 : Option Addr) (c1 : Nat) (w : World), impl_ties_forms.r k D s M m L = some r → FmI W0 w B (.slice A1 s.length c1) s w L →
  Calls Tryd.prog 28 #[.slice A0 D.length c0, .slice A1 s.length c1, .int .i64 M, .int .i64 m, .func (.func 29) #[] #[.pointer (some ⟨B, 0, none⟩)]] w fun e w' => e = .returned (.bool false) ∧ FmI W0 w B (.slice A1 s.length c1) s w' r := by
 have HD := zA hD
 have HC0 := zA hc0
 clear hD hc0
 have eg : ∀ args w, (callFunc 29 args).run Tryd.prog w = .ok (.enter 29 args) w := enters_fn Tryd.func29 (by kernel_rfl) rfl
 intro k
 induction k using Nat.strongRecOn with
 | ind k IH =>
 intro s M m L r A1 c1 w hf hI
 cases k with
 | zero => exact absurd hf (by simp [impl_ties_forms.r])
 | succ k0 =>
 have HI := zA hI
 clear hI
 simp only [impl_ties_forms.r] at hf
 by_cases q1 : m = 0
 ·rw [if_pos q1] at hf
  subst q1
  by_cases q2 : s.length < 1000000000 ∧ L.length < 1000000000
  ·rw [if_pos q2] at hf
   obtain rfl := Option.some.inj hf
   have HE := zA (forms_each W0 B hB A1 c1 s L w q2.1 q2.2 HI.out)
   clear hf q2
   go_enter Tryd.func28, Tryd.ntmps28
   go_wp2_with fail
   refine HE.out.mono ?_
   rintro e w' ⟨rfl, hb⟩
   have HR := zA hb
   clear HE hb
   go_wp2
   go_ret
   exact ⟨rfl, HR.out⟩
  rw [if_neg q2] at hf
  cases hf
 rw [if_neg q1] at hf
 have H' := zA hf
 have q1b : decide (m = 0) = false := decide_eq_false q1
 clear hf
 go_enter Tryd.func28, Tryd.ntmps28
 go_wp2_with (first | (refine zO (some 18) Tryd.func51 #[.slice A0 D.length c0] ?_; (with_reducible refine (impl_length_int64.calls _ _ D (D.length : Int) _ ?side1 ?side2 rfl).mono ?_); (case side1 => exact FmI_C HD.out HI.out); (case side2 => exact HC0.out); rintro e w1 ⟨rfl, hd⟩; refine ⟨_, rfl, ?_⟩; have HI1 := zA (FmI_drawn HI.out hd); clear hd))
 clear HI
 go_loopg [19] k0 (fun gg v19 wr => ∃ (L2 : List (List Int)) (a : Int), v19 = .int .i64 a ∧ Aside0 (impl_ties_forms.l0 gg D s M m L2 a = some r) ∧ Aside0 (gg ≤ k0) ∧ Aside0 (FmI W0 w B (.slice A1 s.length c1) s wr L2))
 case atStart => exact ⟨L, 0, rfl, H', ⟨Nat.le_refl _⟩, HI1⟩
 case round =>
  clear H' HI1
  obtain ⟨L2, a, rfl, HA, HK, HI⟩ := hrel
  cases gk with
  | zero => exact absurd HA.out (by simp [impl_ties_forms.l0])
  | succ k1 =>
   have H := HA.out
   clear HA
   simp only [impl_ties_forms.l0] at H
   by_cases q3 : a < (D.length : Int)
   ·rw [if_pos q3] at H
    have q3b : decide (a < (D.length : Int)) = true := decide_eq_true q3
    obtain ⟨b, h1, H⟩ := Option.bind_eq_some_iff.1 H
    have H1 := zA h1
    clear h1
    cases b with
    | true =>
     rw [if_pos rfl] at H
     have HN := zA H
     clear H
     go_wp2_with (first | (refine zO (some 24) Tryd.func52 #[.int .i64 M, .int .i64 a] ?_; (with_reducible refine (impl_has.calls M a _ _ H1.out).mono ?_); rintro e w2 ⟨rfl, hd⟩; refine ⟨_, rfl, ?_⟩; replace HI := zA (FmI_drawn HI.out hd); clear hd))
     go_roundg k1
     case measure => have := HK.out; omega
     case rel => exact ⟨L2, wrap64 (a + 1), rfl, HN, ⟨by have := HK.out; omega⟩, HI⟩
    | false =>
     rw [if_neg (by decide)] at H
     by_cases q4 : s.length < 1000000000
     ·rw [if_pos q4] at H
      obtain ⟨M2, h3, H⟩ := Option.bind_eq_some_iff.1 H
      obtain ⟨L3, h4, H⟩ := Option.bind_eq_some_iff.1 H
      obtain ⟨yo, hyo⟩ : ∃ y_ : List Int, y_ = s ++ [a] := ⟨_, rfl⟩
      rw [← hyo] at h4
      have NY := zA hyo
      clear hyo
      have H2 := zA q4
      have H3 := zA h3
      have H4 := zA h4
      have HN := zA H
      clear H h3 h4 q4
      go_wp2_with (first | (refine zO (some 24) Tryd.func52 #[.int .i64 M, .int .i64 a] ?_; (with_reducible refine (impl_has.calls M a _ _ H1.out).mono ?_); rintro e w2 ⟨rfl, hd⟩; refine ⟨_, rfl, ?_⟩; replace HI := zA (FmI_drawn HI.out hd); clear hd) | (go_at_call 30; (with_reducible refine (slices_Clone_int64_int64.calls _ _ s s _ ?side1 ?side2 (by unfold slices_Clone_int64_int64.f; rw [if_pos (by have := H2.out; omega)])).mono ?_); (case side1 => exact FmI_S HI.out); (case side2 => exact FmI_le HI.out); rintro e w3 ⟨v29, rfl, ho0, hb⟩; have HV := zA ho0; have HB3 := zA hb; clear ho0 hb) | ((with_reducible refine gate_builtin (b := .append) (xs := #[.tmp 29, .tmp 31]) rfl ?_); (try (refine gate_guard (by rfl) ?_; dsimp only)); at_builtin; refine Kd.R_append (Kd.int .i64) (w0 := w2) w2.heap.size rfl (.tmp 29) (.tmp 31) 22 2 (.int .i64 0) 8 rfl Tryd.underlying22 info2 rfl (by decide) (by omega) v29 s a [.int .i64 a] (fun _ => True) (fun _ => False) rfl rfl ?aP (fun _ hk => hk.elim) ?aF ?aO ?aB ?aS ?aL ?_; (case aP => exact rfl); (case aF => exact (fun _ _ => trivial)); (case aO => exact HV.out); (case aB => exact HB3.out); (case aS => exact HB3.out.size); (case aL => have := H2.out; omega); intro v32 w4 ho hb hg hat; rw [← NY.out] at ho; obtain ⟨Ay, cy, ey⟩ := kM ho; subst ey; have HY := zA ho; have HI4 := zA (FmI_below HI.out hb); have HZ4 := zA hb.size; clear ho hb hg hat) | (go_at_call 53; (with_reducible refine (impl_ties_forbidden.calls _ _ D M a M2 _ ?side1 ?side2 H3.out).mono ?_); (case side1 => exact FmI_C HD.out HI4.out); (case side2 => exact HC0.out); rintro e w5 ⟨rfl, hd⟩; have HI5 := zA (FmI_drawn HI4.out hd); have HY5 := zA (R_drawn5 HY.out hd); clear hd) | (go_at_call 28; refine (IH k1 (by have := HK.out; omega) yo M2 (wrap64 (m - 1)) L2 L3 Ay cy w5 H4.out (FmI_word HI5.out (kI HY5.out (FmI_size HI.out)))).mono ?_; rintro e w6 ⟨rfl, hf6⟩; have HI6 := zA (FmI_ext HI5.out hf6); clear hf6))
      go_roundg k1
      case measure => have := HK.out; omega
      case rel => exact ⟨L3, wrap64 (a + 1), rfl, HN, ⟨by have := HK.out; omega⟩, HI6⟩
     rw [if_neg q4] at H
     cases H
   rw [if_neg q3] at H
   have q3b : decide (a < (D.length : Int)) = false := decide_eq_false q3
   obtain rfl := Option.some.inj H
   go_wp2
   go_ret
   exact ⟨rfl, HI.out⟩
theorem ties_same (n : Int) (A : Option Addr) (m c : Nat) (w : World) : Calls Tryd.prog 27 #[.agg #[.int .i64 n, .slice A m c]] w fun e w' => e = .returned (.slice A m c) ∧ Below w.heap.size w w' := by
 have hu := Tryd.underlying29
 have HB := zA (zB (kW w.heap.size w) (.cells #[.int .i64 n, .slice A m c] 29))
 go_enter Tryd.func27, Tryd.ntmps27
 go_wp2
 go_ret
 exact ⟨rfl, HB.out⟩
set_option maxHeartbeats 8000000 in
set_option maxRecDepth 100000 in
theorem impl_TracesOfLength.calls (k : Nat) (a0_0 : Int) (A0_1 : Option Addr) (c0_1 : Nat) (l0_1 : List Int) (a1 : Int) (r1 : List (List Int)) (r2 : Int) (w : World) (hr0_1 : Kd.C (Kd.int .i64) w A0_1 l0_1.length l0_1) (hc0_1 : l0_1.length ≤ c0_1) (hT : TabW w) (h : impl_TracesOfLength.f k a0_0 l0_1 a1 = some (r1, r2)) :
  Calls Tryd.prog 9 #[.agg #[.int .i64 a0_0, .slice A0_1 l0_1.length c0_1], .int .i64 a1] w fun e w' => ∃ v0_ : Value, e = .returned (.tuple #[v0_, .int .i64 r2]) ∧ Kd.S (Kd.slice 2 (Kd.int .i64)) 22 w' w.heap.size (fun _ => True) v0_ r1 ∧ Below w.heap.size w w' := by
 obtain ⟨⟨m, code⟩, h1, h⟩ := Option.bind_eq_some_iff.1 h
 have H1 := zA h1
 have HR := zA hr0_1
 have HC := zA hc0_1
 have HT := zA hT
 clear h1 hr0_1 hc0_1 hT
 have hu := Tryd.underlying29
 simp only [] at h
 by_cases q1 : code = 0
 ·rw [if_pos q1] at h
  subst q1
  by_cases q2 : m > 1000
  ·rw [if_pos q2] at h
   have q2b : decide (m > 1000) = true := decide_eq_true q2
   have q2c : decide (1000 < m) = true := decide_eq_true q2
   simp only [Option.some.injEq, Prod.mk.injEq] at h
   obtain ⟨rfl, rfl⟩ := h
   go_enter Tryd.func9, Tryd.ntmps9
   go_wp2_with (first | (refine zBE 2 #[.int .i64 a0_0, .slice A0_1 l0_1.length c0_1] 29 ?_; intro gb hg w1 hbox hb; have BK := zA hbox; have HB := zA hb; clear hb hbox hg; obtain ⟨hcz0, hcz1, _, _⟩ := zB3 BK.out) | (refine zO (some 12) Tryd.func26 #[.agg #[.int .i64 a0_0, .slice A0_1 l0_1.length c0_1], .int .i64 a1] ?_; (with_reducible refine (impl_checkCount.calls k a0_0 _ _ l0_1 a1 _ _ _ ?side1 ?side2 ?side3 H1.out).mono ?_); (case side1 => exact kO HR.out HB.out); (case side2 => exact HC.out); (case side3 => exact TabW.below HT.out HB.out); rintro e w2 ⟨rfl, hb⟩; refine ⟨_, rfl, ?_⟩; have HB2 := zA (Below.grown HB.out (grown_of_below hb none) HB.out.size (fun j hj => by cases hj)); have BK2 := zA ((hb.block gb (jI BK.out)).trans BK.out); clear hb; replace hcz0 := (zB3 BK2.out).1; replace hcz1 := (zB3 BK2.out).2.1))
   go_ret2
   exact ⟨_, rfl, Kd.S_nil _ _ _ _ _, HB2.out⟩
  rw [if_neg q2] at h
  have q2b : decide (m > 1000) = false := decide_eq_false q2
  have q2c : decide (1000 < m) = false := decide_eq_false q2
  obtain ⟨L, h2, h⟩ := Option.bind_eq_some_iff.1 h
  simp only [Option.some.injEq, Prod.mk.injEq] at h
  obtain ⟨rfl, rfl⟩ := h
  have H2 := zA h2
  clear h2
  go_enter Tryd.func9, Tryd.ntmps9
  go_wp2_with (first | (refine zBE 2 #[.int .i64 a0_0, .slice A0_1 l0_1.length c0_1] 29 ?_; intro gb hg w1 hbox hb; have BK := zA hbox; have HB := zA hb; clear hb hbox hg; obtain ⟨hcz0, hcz1, _, _⟩ := zB3 BK.out) | (refine zO (some 12) Tryd.func26 #[.agg #[.int .i64 a0_0, .slice A0_1 l0_1.length c0_1], .int .i64 a1] ?_; (with_reducible refine (impl_checkCount.calls k a0_0 _ _ l0_1 a1 _ _ _ ?side1 ?side2 ?side3 H1.out).mono ?_); (case side1 => exact kO HR.out HB.out); (case side2 => exact HC.out); (case side3 => exact TabW.below HT.out HB.out); rintro e w2 ⟨rfl, hb⟩; refine ⟨_, rfl, ?_⟩; have HB2 := zA (Below.grown HB.out (grown_of_below hb none) HB.out.size (fun j hj => by cases hj)); have BK2 := zA ((hb.block gb (jI BK.out)).trans BK.out); clear hb; replace hcz0 := (zB3 BK2.out).1; replace hcz1 := (zB3 BK2.out).2.1) | ((with_reducible refine kS (N := 20) rfl ?_); refine Kd.S_lits (Kd.slice 2 (Kd.int .i64)) _ 22 ?hg (N := 20) ?hd (xs := ([] : List (List Int))) (inner := []) (ok := fun _ => True) (fun _ _ => False) ?hr (by rfl) ?hp (fun _ _ _ h_ => h_.elim) (fun _ _ h_ => h_.elim) trivial (kW _ _) (Nat.le_refl _) (by simp) ?_; (case hd => rfl); (case hg => rfl); (case hr => first | (go_simp; done) | (go_simp; rfl)); (case hp => exact fun j_ x_ hx_ => by simp at hx_); intro v20 w3 ho hb hg_ hnew_; obtain ⟨A20, c20, e20⟩ := Kd.S_slice ho; simp only [List.length_nil] at e20; subst e20; have HS3 := zA (Kd.S_lower ho HB2.out.size); have HB3 := zA (Below.grown HB2.out (grown_of_below hb none) HB2.out.size (fun j hj => by cases hj)); have BK3 := zA ((hb.block gb (jI BK2.out)).trans BK2.out); clear hg_ hnew_ ho hb) | (refine zBE 8 #[.slice none 0 0] 26 ?_; intro g8 hg w4 hbox hb; have HGE := zA (show w.heap.size ≤ g8 from hg ▸ HB3.out.size); have HNE := zA (show gb ≠ g8 from hg ▸ Nat.ne_of_lt (jI BK3.out)); have HX := zA hbox; have HS4 := zA (Kd.S_below HS3.out hb); have HB4 := zA (Below.grown HB3.out (grown_of_below hb none) HB3.out.size (fun j hj => by cases hj)); have BK4 := zA ((hb.block gb (jI BK3.out)).trans BK3.out); clear hb hbox hg; have hcz8 := kV HX.out 0; have hfz8 := jH HX.out 0) | (refine store_event (t := 26) (p := 8) (v := ?vo_w5) (w1 := w4.setCell ⟨g8, 0, none⟩ (.slice A20 0 c20)) ?hg ?ho ?hn ?hr ?_; (case ho => rfl); (case hg => rfl); (case hn => rfl); (case hr => first | (go_simp; done) | (go_simp; rfl)); intro w5 hw; have HI := zA (show FmI w w5 g8 (.slice none 0 0) [] w5 [] from ⟨A20, c20, by rw [hw]; have := blk_set HX.out 0 (.slice A20 0 c20); simpa using this, by rw [hw]; exact Kd.S_set HS4.out HX.out (by decide) 0 _, by rw [hw]; exact zE HB4.out HGE.out, jO _ _ _ _ _, keep_ints_refl _ _, HGE.out⟩); have BK5 := zA (show w5.heap[gb]? = some (.cells #[.int .i64 a0_0, .slice A0_1 l0_1.length c0_1] 29 (0, 0)) from by rw [hw]; exact (Below.heap_setCell w4 ⟨g8, 0, none⟩ _ gb HNE.out).trans BK4.out); clear hw hcz8 hfz8; replace hcz0 := (zB3 BK5.out).1; replace hcz1 := (zB3 BK5.out).2.1) | (refine zO (some 22) Tryd.func27 #[.agg #[.int .i64 a0_0, .slice A0_1 l0_1.length c0_1]] ?_; refine (ties_same a0_0 A0_1 l0_1.length c0_1 _).mono ?_; rintro e w6 ⟨rfl, hb⟩; refine ⟨_, rfl, ?_⟩; have HI5 := zA (FmI_below HI.out hb); clear hb) | (refine zO (some 25) Tryd.func28 #[.slice A0_1 l0_1.length c0_1, .slice none 0 0, .int .i64 0, .int .i64 a1, .func (.func 29) #[] #[.pointer (some ⟨g8, 0, none⟩)]] ?_; refine (forms_calls w g8 HGE.out A0_1 c0_1 l0_1 HR.out HC.out k [] 0 a1 [] L none 0 _ H2.out (FmI_word HI5.out (jO _ _ _ _ _))).mono ?_; rintro e w7 ⟨rfl, hf6⟩; refine ⟨_, rfl, ?_⟩; obtain ⟨A6, c6, hbx, hs6, hb6, _, _, _⟩ := hf6; have HF := zA (show Kd.S (Kd.slice 2 (Kd.int .i64)) 22 w7 w.heap.size (fun _ => True) (.slice A6 L.length c6) L ∧ Below w.heap.size w w7 from ⟨hs6, hb6⟩); have hcz8 : w7.cell? ⟨g8, 0, none⟩ = some (.slice A6 L.length c6) := (kV hbx 0).trans rfl; clear hbx hs6 hb6 hcz0 hcz1))
  go_ret2
  exact ⟨_, rfl, HF.out.1, HF.out.2⟩
 rw [if_neg q1] at h
 have q1b : decide (code = 0) = false := decide_eq_false q1
 have q1c : decide (code ≠ 0) = true := decide_eq_true q1
 simp only [Option.some.injEq, Prod.mk.injEq] at h
 obtain ⟨rfl, rfl⟩ := h
 go_enter Tryd.func9, Tryd.ntmps9
 go_wp2_with (first | (refine zBE 2 #[.int .i64 a0_0, .slice A0_1 l0_1.length c0_1] 29 ?_; intro gb hg w1 hbox hb; have BK := zA hbox; have HB := zA hb; clear hb hbox hg; obtain ⟨hcz0, hcz1, _, _⟩ := zB3 BK.out) | (refine zO (some 12) Tryd.func26 #[.agg #[.int .i64 a0_0, .slice A0_1 l0_1.length c0_1], .int .i64 a1] ?_; (with_reducible refine (impl_checkCount.calls k a0_0 _ _ l0_1 a1 _ _ _ ?side1 ?side2 ?side3 H1.out).mono ?_); (case side1 => exact kO HR.out HB.out); (case side2 => exact HC.out); (case side3 => exact TabW.below HT.out HB.out); rintro e w2 ⟨rfl, hb⟩; refine ⟨_, rfl, ?_⟩; have HB2 := zA (Below.grown HB.out (grown_of_below hb none) HB.out.size (fun j hj => by cases hj)); have BK2 := zA ((hb.block gb (jI BK.out)).trans BK.out); clear hb; replace hcz0 := (zB3 BK2.out).1; replace hcz1 := (zB3 BK2.out).2.1))
 go_ret2
 exact ⟨_, rfl, Kd.S_nil _ _ _ _ _, HB2.out⟩

/-! ### laws_eqInt64S: function 19 -/
def laws_eqInt64S.l0 : Nat → List Int → List Int → Int → Option (Bool)
 | 0, _, _, _ => none
 | k + 1, x0, x1, x5 => if x5 < (x0.length : Int) then (if 0 ≤ x5 then (if x5 < (x1.length : Int) then (if (rd x0 x5) = (rd x1 x5) then (laws_eqInt64S.l0 k x0 x1 (wrap64 (x5 + 1))) else (some false)) else (none)) else (none)) else (some true)
def laws_eqInt64S.f (k : Nat) (l0 : List Int) (l1 : List Int) : Option (Bool) := if (l0.length : Int) = (l1.length : Int) then (laws_eqInt64S.l0 k l0 l1 0) else (some false)

set_option maxHeartbeats 8000000 in
set_option maxRecDepth 100000 in
theorem laws_eqInt64S.calls (k : Nat) (A0 : Option Addr) (c0 : Nat) (l0 : List Int) (A1 : Option Addr) (c1 : Nat) (l1 : List Int) (r : Bool) (w : World) (hr0 : Kd.C (Kd.int .i64) w A0 l0.length l0) (hc0 : l0.length ≤ c0) (hr1 : Kd.C (Kd.int .i64) w A1 l1.length l1) (hc1 : l1.length ≤ c1) (h : laws_eqInt64S.f k l0 l1 = some r) :
  Calls Tryd.prog 19 #[.slice A0 l0.length c0, .slice A1 l1.length c1] w fun e w' => e = .returned (.bool r) ∧ Drawn0 w w' := by
 have HR0 := zA hr0
 have HC0 := zA hc0
 clear hr0 hc0
 have HR1 := zA hr1
 have HC1 := zA hc1
 clear hr1 hc1
 have H := h
 unfold laws_eqInt64S.f at H
 clear h
 by_cases c3 : (l0.length : Int) = (l1.length : Int)
 ·rw [if_pos c3] at H
  obtain ⟨c3b0, c3b1⟩ := zT1 c3
  have c3b2 : (l0.length == l1.length) = true := by first | simpa using c3 | (simp at c3 ⊢; omega)
  clear c3
  have H' := zA H
  clear H
  go_enter Tryd.func19, Tryd.ntmps19
  go_wp2
  repeat (go_quiet (fail); try go_wp2)
  go_loopg [5] k (fun kq v5 w' => ∃ (x5_1 : Int), v5 = .int .i64 x5_1 ∧ Aside0 (laws_eqInt64S.l0 kq l0 l1 x5_1 = some r) ∧ Aside0 (kq ≤ k) ∧ Drawn0 w w')
  case atStart => exact ⟨(0), zs, H', ⟨Nat.le_refl _⟩, by repeat (first | exact Drawn0.refl _ | apply Drawn0.step)⟩
  case round =>
   clear H'
   try clear c1
   try clear c3
   obtain ⟨x5_1, rfl, HA, HK1, ⟨m1, rfl⟩⟩ := hrel
   cases gk with
   | zero => exact absurd HA.out (by simp [laws_eqInt64S.l0])
   | succ k1 =>
    have H := HA.out
    clear HA
    simp only [laws_eqInt64S.l0] at H
    by_cases c4 : x5_1 < (l0.length : Int)
    ·rw [if_pos c4] at H
     have c4b0 : decide (x5_1 < (l0.length : Int)) = true := decide_eq_true c4
     clear c4
     by_cases c5 : 0 ≤ x5_1
     ·rw [if_pos c5] at H
      have c5b0 : decide (0 ≤ x5_1) = true := decide_eq_true c5
      clear c5
      by_cases c6 : x5_1 < (l1.length : Int)
      ·rw [if_pos c6] at H
       have c6b0 : decide (x5_1 < (l1.length : Int)) = true := decide_eq_true c6
       clear c6
       by_cases c7 : (rd l0 x5_1) = (rd l1 x5_1)
       ·rw [if_pos c7] at H
        obtain ⟨c7b0, c7b1⟩ := zT1 c7
        clear c7
        have H' := zA H
        clear H
        have p408 : 0 ≤ (x5_1 : Int) := zd
        have q408 : x5_1 < (l0.length : Int) := zd
        obtain ⟨ad408, e408, hx408_0⟩ := Kd.at_int HR0.out x5_1 p408 q408
        cases e408
        replace p408 := eq_true p408
        replace q408 := eq_true q408
        have p409 : 0 ≤ (x5_1 : Int) := zd
        have q409 : x5_1 < (l1.length : Int) := zd
        obtain ⟨ad409, e409, hx409_0⟩ := Kd.at_int HR1.out x5_1 p409 q409
        cases e409
        replace p409 := eq_true p409
        replace q409 := eq_true q409
        go_wp2
        repeat (go_quiet (fail); try go_wp2)
        go_roundg k1
        case measure => have := HK1.out; omega
        case rel => exact ⟨(wrap64 (x5_1 + 1)), zs, H', ⟨by have := HK1.out; omega⟩, by repeat (first | exact Drawn0.refl _ | apply Drawn0.step)⟩
       rw [if_neg c7] at H
       obtain ⟨c7b0, c7b1⟩ := zT2 c7
       obtain rfl := Option.some.inj H
       have p408 : 0 ≤ (x5_1 : Int) := zd
       have q408 : x5_1 < (l0.length : Int) := zd
       obtain ⟨ad408, e408, hx408_0⟩ := Kd.at_int HR0.out x5_1 p408 q408
       cases e408
       replace p408 := eq_true p408
       replace q408 := eq_true q408
       have p409 : 0 ≤ (x5_1 : Int) := zd
       have q409 : x5_1 < (l1.length : Int) := zd
       obtain ⟨ad409, e409, hx409_0⟩ := Kd.at_int HR1.out x5_1 p409 q409
       cases e409
       replace p409 := eq_true p409
       replace q409 := eq_true q409
       go_wp2
       repeat (go_quiet (fail); try go_wp2)
       go_ret
       exact ⟨zs, by repeat (first | exact Drawn0.refl _ | apply Drawn0.step)⟩
      rw [if_neg c6] at H
      exact absurd H (by simp)
     rw [if_neg c5] at H
     exact absurd H (by simp)
    rw [if_neg c4] at H
    have c4b0 : decide (x5_1 < (l0.length : Int)) = false := decide_eq_false c4
    clear c4
    obtain rfl := Option.some.inj H
    go_wp2
    repeat (go_quiet (fail); try go_wp2)
    go_ret
    exact ⟨zs, by repeat (first | exact Drawn0.refl _ | apply Drawn0.step)⟩
 rw [if_neg c3] at H
 obtain ⟨c3b0, c3b1⟩ := zT2 c3
 have c3b2 : (l0.length == l1.length) = false := by first | simpa using c3 | (simp at c3 ⊢; omega)
 obtain rfl := Option.some.inj H
 go_enter Tryd.func19, Tryd.ntmps19
 go_wp2
 repeat (go_quiet (fail); try go_wp2)
 go_ret
 exact ⟨zs, by repeat (first | exact Drawn0.refl _ | apply Drawn0.step)⟩

/-! ### laws_eqInt64SS: function 10 -/
def laws_eqInt64SS.l0 : Nat → List (List Int) → List (List Int) → Int → Option (Bool)
 | 0, _, _, _ => none
 | k + 1, x0, x1, x5 => if x5 < (x0.length : Int) then (if 0 ≤ x5 then (if x5 < (x1.length : Int) then ((laws_eqInt64S.f k (rd_L1 x0 x5) (rd_L1 x1 x5)).bind fun t412 => (if t412 = true then (laws_eqInt64SS.l0 k x0 x1 (wrap64 (x5 + 1))) else (some false))) else (none)) else (none)) else (some true)
def laws_eqInt64SS.f (k : Nat) (l0 : List (List Int)) (l1 : List (List Int)) : Option (Bool) := if (l0.length : Int) = (l1.length : Int) then (laws_eqInt64SS.l0 k l0 l1 0) else (some false)

set_option maxHeartbeats 8000000 in
set_option maxRecDepth 100000 in
theorem laws_eqInt64SS.calls (k : Nat) (A0 : Option Addr) (c0 : Nat) (l0 : List (List Int)) (A1 : Option Addr) (c1 : Nat) (l1 : List (List Int)) (r : Bool) (w : World) (hr0 : Kd.C (Kd.slice 2 (Kd.int .i64)) w A0 l0.length l0) (hc0 : l0.length ≤ c0) (hr1 : Kd.C (Kd.slice 2 (Kd.int .i64)) w A1 l1.length l1) (hc1 : l1.length ≤ c1) (h : laws_eqInt64SS.f k l0 l1 = some r) :
  Calls Tryd.prog 10 #[.slice A0 l0.length c0, .slice A1 l1.length c1] w fun e w' => e = .returned (.bool r) ∧ Drawn0 w w' := by
 have HR0 := zA hr0
 have HC0 := zA hc0
 clear hr0 hc0
 have HR1 := zA hr1
 have HC1 := zA hc1
 clear hr1 hc1
 have H := h
 unfold laws_eqInt64SS.f at H
 clear h
 by_cases c3 : (l0.length : Int) = (l1.length : Int)
 ·rw [if_pos c3] at H
  obtain ⟨c3b0, c3b1⟩ := zT1 c3
  have c3b2 : (l0.length == l1.length) = true := by first | simpa using c3 | (simp at c3 ⊢; omega)
  clear c3
  have H' := zA H
  clear H
  go_enter Tryd.func10, Tryd.ntmps10
  go_wp2
  repeat (go_quiet (fail); try go_wp2)
  go_loopg [5] k (fun kq v5 w' => ∃ (x5_1 : Int), v5 = .int .i64 x5_1 ∧ Aside0 (laws_eqInt64SS.l0 kq l0 l1 x5_1 = some r) ∧ Aside0 (kq ≤ k) ∧ Drawn0 w w')
  case atStart => exact ⟨(0), zs, H', ⟨Nat.le_refl _⟩, by repeat (first | exact Drawn0.refl _ | apply Drawn0.step)⟩
  case round =>
   clear H'
   try clear c1
   try clear c3
   obtain ⟨x5_1, rfl, HA, HK1, ⟨m1, rfl⟩⟩ := hrel
   cases gk with
   | zero => exact absurd HA.out (by simp [laws_eqInt64SS.l0])
   | succ k1 =>
    have H := HA.out
    clear HA
    simp only [laws_eqInt64SS.l0] at H
    by_cases c4 : x5_1 < (l0.length : Int)
    ·rw [if_pos c4] at H
     have c4b0 : decide (x5_1 < (l0.length : Int)) = true := decide_eq_true c4
     clear c4
     by_cases c5 : 0 ≤ x5_1
     ·rw [if_pos c5] at H
      have c5b0 : decide (0 ≤ x5_1) = true := decide_eq_true c5
      clear c5
      by_cases c6 : x5_1 < (l1.length : Int)
      ·rw [if_pos c6] at H
       have c6b0 : decide (x5_1 < (l1.length : Int)) = true := decide_eq_true c6
       clear c6
       obtain ⟨t412, A7, H⟩ := zb H
       try dsimp only at H
       by_cases c8 : t412 = true
       ·subst c8
        rw [if_pos rfl] at H
        have H' := zA H
        clear H
        have p410 : 0 ≤ (x5_1 : Int) := zd
        have q410 : x5_1 < (l0.length : Int) := zd
        obtain ⟨ad410, A410_0, c410_0, e410, hx410_0, hl410_0, hi410_0⟩ := at_L1 HR0.out x5_1 p410 q410
        cases e410
        have HR410_0 := zA hi410_0
        have HC410_0 := zA hl410_0
        clear hi410_0 hl410_0
        replace p410 := eq_true p410
        replace q410 := eq_true q410
        have p411 : 0 ≤ (x5_1 : Int) := zd
        have q411 : x5_1 < (l1.length : Int) := zd
        obtain ⟨ad411, A411_0, c411_0, e411, hx411_0, hl411_0, hi411_0⟩ := at_L1 HR1.out x5_1 p411 q411
        cases e411
        have HR411_0 := zA hi411_0
        have HC411_0 := zA hl411_0
        clear hi411_0 hl411_0
        replace p411 := eq_true p411
        replace q411 := eq_true q411
        go_wp2_with (first | (go_at_call 19; (with_reducible refine (laws_eqInt64S.calls k1 _ _ (rd_L1 l0 x5_1) _ _ (rd_L1 l1 x5_1) true _ ?side1 ?side2 ?side3 ?side4 A7.out).mono ?_); (case side1 => exact zS HR410_0.out); (case side2 => exact HC410_0.out); (case side3 => exact zS HR411_0.out); (case side4 => exact HC411_0.out); rintro e w' ⟨rfl, ⟨nd, rfl⟩⟩; (try exact zw)))
        repeat (go_quiet (first | (go_at_call 19; (with_reducible refine (laws_eqInt64S.calls k1 _ _ (rd_L1 l0 x5_1) _ _ (rd_L1 l1 x5_1) true _ ?side1 ?side2 ?side3 ?side4 A7.out).mono ?_); (case side1 => exact zS HR410_0.out); (case side2 => exact HC410_0.out); (case side3 => exact zS HR411_0.out); (case side4 => exact HC411_0.out); rintro e w' ⟨rfl, ⟨nd, rfl⟩⟩; (try exact zw))); try go_wp2_with (first | (go_at_call 19; (with_reducible refine (laws_eqInt64S.calls k1 _ _ (rd_L1 l0 x5_1) _ _ (rd_L1 l1 x5_1) true _ ?side1 ?side2 ?side3 ?side4 A7.out).mono ?_); (case side1 => exact zS HR410_0.out); (case side2 => exact HC410_0.out); (case side3 => exact zS HR411_0.out); (case side4 => exact HC411_0.out); rintro e w' ⟨rfl, ⟨nd, rfl⟩⟩; (try exact zw))))
        go_roundg k1
        case measure => have := HK1.out; omega
        case rel => exact ⟨(wrap64 (x5_1 + 1)), zs, H', ⟨by have := HK1.out; omega⟩, by repeat (first | exact Drawn0.refl _ | apply Drawn0.step)⟩
       replace c8 := Bool.eq_false_iff.mpr c8
       subst c8
       rw [if_neg (show ¬ (false = true) by decide)] at H
       obtain rfl := Option.some.inj H
       have p410 : 0 ≤ (x5_1 : Int) := zd
       have q410 : x5_1 < (l0.length : Int) := zd
       obtain ⟨ad410, A410_0, c410_0, e410, hx410_0, hl410_0, hi410_0⟩ := at_L1 HR0.out x5_1 p410 q410
       cases e410
       have HR410_0 := zA hi410_0
       have HC410_0 := zA hl410_0
       clear hi410_0 hl410_0
       replace p410 := eq_true p410
       replace q410 := eq_true q410
       have p411 : 0 ≤ (x5_1 : Int) := zd
       have q411 : x5_1 < (l1.length : Int) := zd
       obtain ⟨ad411, A411_0, c411_0, e411, hx411_0, hl411_0, hi411_0⟩ := at_L1 HR1.out x5_1 p411 q411
       cases e411
       have HR411_0 := zA hi411_0
       have HC411_0 := zA hl411_0
       clear hi411_0 hl411_0
       replace p411 := eq_true p411
       replace q411 := eq_true q411
       go_wp2_with (first | (go_at_call 19; (with_reducible refine (laws_eqInt64S.calls k1 _ _ (rd_L1 l0 x5_1) _ _ (rd_L1 l1 x5_1) false _ ?side1 ?side2 ?side3 ?side4 A7.out).mono ?_); (case side1 => exact zS HR410_0.out); (case side2 => exact HC410_0.out); (case side3 => exact zS HR411_0.out); (case side4 => exact HC411_0.out); rintro e w' ⟨rfl, ⟨nd, rfl⟩⟩; (try exact zw)))
       repeat (go_quiet (first | (go_at_call 19; (with_reducible refine (laws_eqInt64S.calls k1 _ _ (rd_L1 l0 x5_1) _ _ (rd_L1 l1 x5_1) false _ ?side1 ?side2 ?side3 ?side4 A7.out).mono ?_); (case side1 => exact zS HR410_0.out); (case side2 => exact HC410_0.out); (case side3 => exact zS HR411_0.out); (case side4 => exact HC411_0.out); rintro e w' ⟨rfl, ⟨nd, rfl⟩⟩; (try exact zw))); try go_wp2_with (first | (go_at_call 19; (with_reducible refine (laws_eqInt64S.calls k1 _ _ (rd_L1 l0 x5_1) _ _ (rd_L1 l1 x5_1) false _ ?side1 ?side2 ?side3 ?side4 A7.out).mono ?_); (case side1 => exact zS HR410_0.out); (case side2 => exact HC410_0.out); (case side3 => exact zS HR411_0.out); (case side4 => exact HC411_0.out); rintro e w' ⟨rfl, ⟨nd, rfl⟩⟩; (try exact zw))))
       go_ret
       exact ⟨zs, by repeat (first | exact Drawn0.refl _ | apply Drawn0.step)⟩
      rw [if_neg c6] at H
      exact absurd H (by simp)
     rw [if_neg c5] at H
     exact absurd H (by simp)
    rw [if_neg c4] at H
    have c4b0 : decide (x5_1 < (l0.length : Int)) = false := decide_eq_false c4
    clear c4
    obtain rfl := Option.some.inj H
    go_wp2
    repeat (go_quiet (fail); try go_wp2)
    go_ret
    exact ⟨zs, by repeat (first | exact Drawn0.refl _ | apply Drawn0.step)⟩
 rw [if_neg c3] at H
 obtain ⟨c3b0, c3b1⟩ := zT2 c3
 have c3b2 : (l0.length == l1.length) = false := by first | simpa using c3 | (simp at c3 ⊢; omega)
 obtain rfl := Option.some.inj H
 go_enter Tryd.func10, Tryd.ntmps10
 go_wp2
 repeat (go_quiet (fail); try go_wp2)
 go_ret
 exact ⟨zs, by repeat (first | exact Drawn0.refl _ | apply Drawn0.step)⟩

/-! ### laws_eqAlphabet: function 11 -/
def laws_eqAlphabet.f (k : Nat) (a0_0 : Int) (l0_1 : List Int) (a1_0 : Int) (l1_1 : List Int) : Option (Bool) := if a0_0 = a1_0 then ((laws_eqInt64S.f k l0_1 l1_1).bind fun t415 => (if t415 = true then (some true) else (some false))) else (some false)

set_option maxHeartbeats 8000000 in
set_option maxRecDepth 100000 in
theorem laws_eqAlphabet.calls (k : Nat) (a0_0 : Int) (A0_1 : Option Addr) (c0_1 : Nat) (l0_1 : List Int) (a1_0 : Int) (A1_1 : Option Addr) (c1_1 : Nat) (l1_1 : List Int) (r : Bool) (w : World) (hr0_1 : Kd.C (Kd.int .i64) w A0_1 l0_1.length l0_1) (hc0_1 : l0_1.length ≤ c0_1) (hr1_1 : Kd.C (Kd.int .i64) w A1_1 l1_1.length l1_1) (hc1_1 : l1_1.length ≤ c1_1) (h : laws_eqAlphabet.f k a0_0 l0_1 a1_0 l1_1 = some r) :
  Calls Tryd.prog 11 #[.agg #[.int .i64 a0_0, .slice A0_1 l0_1.length c0_1], .agg #[.int .i64 a1_0, .slice A1_1 l1_1.length c1_1]] w fun e w' => e = .returned (.bool r) ∧ Below w.heap.size w w' := by
 have hu29 := Tryd.underlying29
 have HR0_1 := zA hr0_1
 have HC0_1 := zA hc0_1
 clear hr0_1 hc0_1
 have HR1_1 := zA hr1_1
 have HC1_1 := zA hc1_1
 clear hr1_1 hc1_1
 have HB := zA (kW w.heap.size w)
 have H := h
 unfold laws_eqAlphabet.f at H
 clear h
 by_cases c3 : a0_0 = a1_0
 ·rw [if_pos c3] at H
  obtain ⟨c3b0, c3b1⟩ := zT1 c3
  clear c3
  obtain ⟨t415, A4, H⟩ := zb H
  try dsimp only at H
  by_cases c5 : t415 = true
  ·subst c5
   rw [if_pos rfl] at H
   obtain rfl := Option.some.inj H
   go_enter Tryd.func11, Tryd.ntmps11
   go_wp2_with (first | (refine zBE 2 #[.int .i64 a0_0, .slice A0_1 l0_1.length c0_1] 29 ?_; intro gb413 hg w6 hbox hb; have BK413 := zA (hbox); have GW413 := zA (zBH hg HB.out); have GE413 := zA (zBH hg HB.out); replace HB := zA (kQ (zQ HB.out) hb); clear hb hbox hg) | (refine zBE 3 #[.int .i64 a1_0, .slice A1_1 l1_1.length c1_1] 29 ?_; intro gb414 hg w7 hbox hb; have BK414 := zA (hbox); have GW414 := zA (zB6 hg (kP (zT HB.out GE413.out)) : w.heap.size ≤ gb414); have GE414 := zA (zB6 hg (kP (zT HB.out GE413.out)) : w.heap.size ≤ gb414); replace HB := zA (kQ (zT HB.out GE413.out) hb); have NB413_414 := zA (zB4 hg BK413.out : gb413 ≠ gb414); have NB414_413 := zA (zB5 hg BK413.out : gb414 ≠ gb413); replace BK413 := zA (zB1 BK413.out hb); clear hb hbox hg; have hnb8 := NB413_414.out; have hnc8 := NB414_413.out; obtain ⟨hcz9_0, hcz9_1, hfz9_0, hfz9_1⟩ := zB3 BK413.out; obtain ⟨hcz10_0, hcz10_1, hfz10_0, hfz10_1⟩ := zB3 BK414.out) | (refine zO (some 14) Tryd.func19 #[.slice A0_1 l0_1.length c0_1, .slice A1_1 l1_1.length c1_1] ?_; (with_reducible refine (laws_eqInt64S.calls k _ _ l0_1 _ _ l1_1 true _ ?side1 ?side2 ?side3 ?side4 A4.out).mono ?_); (case side1 => exact zS (kO HR0_1.out HB.out)); (case side2 => exact HC0_1.out); (case side3 => exact zS (kO HR1_1.out HB.out)); (case side4 => exact HC1_1.out); rintro e w' ⟨rfl, ⟨nd, rfl⟩⟩; refine ⟨_, rfl, ?_⟩))
   go_ret
   exact ⟨zr, zV HB.out GE413.out GE414.out⟩
  replace c5 := Bool.eq_false_iff.mpr c5
  subst c5
  rw [if_neg (show ¬ (false = true) by decide)] at H
  obtain rfl := Option.some.inj H
  go_enter Tryd.func11, Tryd.ntmps11
  go_wp2_with (first | (refine zBE 2 #[.int .i64 a0_0, .slice A0_1 l0_1.length c0_1] 29 ?_; intro gb413 hg w11 hbox hb; have BK413 := zA (hbox); have GW413 := zA (zBH hg HB.out); have GE413 := zA (zBH hg HB.out); replace HB := zA (kQ (zQ HB.out) hb); clear hb hbox hg) | (refine zBE 3 #[.int .i64 a1_0, .slice A1_1 l1_1.length c1_1] 29 ?_; intro gb414 hg w12 hbox hb; have BK414 := zA (hbox); have GW414 := zA (zB6 hg (kP (zT HB.out GE413.out)) : w.heap.size ≤ gb414); have GE414 := zA (zB6 hg (kP (zT HB.out GE413.out)) : w.heap.size ≤ gb414); replace HB := zA (kQ (zT HB.out GE413.out) hb); have NB413_414 := zA (zB4 hg BK413.out : gb413 ≠ gb414); have NB414_413 := zA (zB5 hg BK413.out : gb414 ≠ gb413); replace BK413 := zA (zB1 BK413.out hb); clear hb hbox hg; have hnb13 := NB413_414.out; have hnc13 := NB414_413.out; obtain ⟨hcz14_0, hcz14_1, hfz14_0, hfz14_1⟩ := zB3 BK413.out; obtain ⟨hcz15_0, hcz15_1, hfz15_0, hfz15_1⟩ := zB3 BK414.out) | (refine zO (some 14) Tryd.func19 #[.slice A0_1 l0_1.length c0_1, .slice A1_1 l1_1.length c1_1] ?_; (with_reducible refine (laws_eqInt64S.calls k _ _ l0_1 _ _ l1_1 false _ ?side1 ?side2 ?side3 ?side4 A4.out).mono ?_); (case side1 => exact zS (kO HR0_1.out HB.out)); (case side2 => exact HC0_1.out); (case side3 => exact zS (kO HR1_1.out HB.out)); (case side4 => exact HC1_1.out); rintro e w' ⟨rfl, ⟨nd, rfl⟩⟩; refine ⟨_, rfl, ?_⟩))
  go_ret
  exact ⟨zr, zV HB.out GE413.out GE414.out⟩
 rw [if_neg c3] at H
 obtain ⟨c3b0, c3b1⟩ := zT2 c3
 obtain rfl := Option.some.inj H
 go_enter Tryd.func11, Tryd.ntmps11
 go_wp2_with (first | (refine zBE 2 #[.int .i64 a0_0, .slice A0_1 l0_1.length c0_1] 29 ?_; intro gb413 hg w16 hbox hb; have BK413 := zA (hbox); have GW413 := zA (zBH hg HB.out); have GE413 := zA (zBH hg HB.out); replace HB := zA (kQ (zQ HB.out) hb); clear hb hbox hg) | (refine zBE 3 #[.int .i64 a1_0, .slice A1_1 l1_1.length c1_1] 29 ?_; intro gb414 hg w17 hbox hb; have BK414 := zA (hbox); have GW414 := zA (zB6 hg (kP (zT HB.out GE413.out)) : w.heap.size ≤ gb414); have GE414 := zA (zB6 hg (kP (zT HB.out GE413.out)) : w.heap.size ≤ gb414); replace HB := zA (kQ (zT HB.out GE413.out) hb); have NB413_414 := zA (zB4 hg BK413.out : gb413 ≠ gb414); have NB414_413 := zA (zB5 hg BK413.out : gb414 ≠ gb413); replace BK413 := zA (zB1 BK413.out hb); clear hb hbox hg; have hnb18 := NB413_414.out; have hnc18 := NB414_413.out; obtain ⟨hcz19_0, hcz19_1, hfz19_0, hfz19_1⟩ := zB3 BK413.out; obtain ⟨hcz20_0, hcz20_1, hfz20_0, hfz20_1⟩ := zB3 BK414.out))
 go_ret
 exact ⟨zr, zV HB.out GE413.out GE414.out⟩

/-! ### laws_markInt64S: function 20 -/
def laws_markInt64S.l0 : Nat → List Int → Int → Int → Option (Int × List Int)
 | 0, _, _, _ => none
 | k + 1, x0, x1, x5 => if x5 < (x0.length : Int) then (if 0 ≤ x5 then (laws_markInt64S.l0 k (x0.set (x5 : Int).toNat x1) (wrap64 (x1 + 1)) (wrap64 (x5 + 1))) else (none)) else (some (x1, x0))
def laws_markInt64S.f (k : Nat) (l0 : List Int) (a1 : Int) : Option (Int × List Int) := laws_markInt64S.l0 k l0 a1 0

set_option maxHeartbeats 8000000 in
set_option maxRecDepth 100000 in
theorem laws_markInt64S.calls (k : Nat) (P0_ : Nat → Prop) (u9000_ : Value) (l0 : List Int) (a1 : Int) (r1 : Int) (r2 : List Int) (w0 w : World) (hB : Below w0.heap.size w0 w) (ho0 : Kd.R (Kd.int .i64) 2 w w0.heap.size P0_ u9000_ l0) (h : laws_markInt64S.f k l0 a1 = some (r1, r2)) :
  Calls Tryd.prog 20 #[u9000_, .int .i64 a1] w fun e w' => e = .returned (.int .i64 r1) ∧ Kd.R (Kd.int .i64) 2 w' w0.heap.size (fun k_ => (P0_ k_ ∨ w.heap.size ≤ k_)) u9000_ r2 ∧ Below w0.heap.size w0 w' ∧ Kept w w' (fun k_ => P0_ k_) := by
 have HO0 := zA (show Kd.R (Kd.int .i64) 2 w w0.heap.size (fun k_ => (P0_ k_ ∨ w.heap.size ≤ k_)) u9000_ l0 from kA ho0 (fun k_ hk => (.inl hk)))
 have HK := zA (Kept.refl w (fun k_ => P0_ k_))
 have HW0 := zA hB.size
 have HB := zA hB
 clear hB
 have H := h
 unfold laws_markInt64S.f at H
 clear h
 have H' := zA H
 clear H
 go_enter Tryd.func20, Tryd.ntmps20
 go_wp2
 go_loopg [1, 5] k (fun kq v1 v5 w' => ∃ (x0_1 : List Int) (x1_1 : Int) (x5_1 : Int), v1 = .int .i64 x1_1 ∧ v5 = .int .i64 x5_1 ∧ Aside0 (laws_markInt64S.l0 kq x0_1 x1_1 x5_1 = some (r1, r2)) ∧ Aside0 (kq ≤ k) ∧ Aside0 (Kd.R (Kd.int .i64) 2 w' w0.heap.size (fun k_ => (P0_ k_ ∨ w.heap.size ≤ k_)) u9000_ x0_1) ∧ Aside0 (Kept w w' (fun k_ => P0_ k_)) ∧ Aside0 (Below w0.heap.size w0 w'))
 case atStart => exact ⟨(l0), (a1), (0), zs, zs, H', ⟨Nat.le_refl _⟩, ⟨zP HO0.out⟩, ⟨by repeat (first | (with_reducible first | exact HK.out | apply Kept.alloc | apply Kept.drewN | apply Kept.drew) | exact HK.out)⟩, ⟨zQ HB.out⟩⟩
 case round =>
  clear H'
  try clear c2
  obtain ⟨x0_1, x1_1, x5_1, rfl, rfl, HA, HK1, HO_0, HK, HB⟩ := hrel
  cases gk with
  | zero => exact absurd HA.out (by simp [laws_markInt64S.l0])
  | succ k1 =>
   have H := HA.out
   clear HA
   simp only [laws_markInt64S.l0] at H
   by_cases c3 : x5_1 < (x0_1.length : Int)
   ·rw [if_pos c3] at H
    have c3b0 : decide (x5_1 < (x0_1.length : Int)) = true := decide_eq_true c3
    clear c3
    by_cases c4 : 0 ≤ x5_1
    ·rw [if_pos c4] at H
     have c4b0 : decide (0 ≤ x5_1) = true := decide_eq_true c4
     clear c4
     obtain ⟨y416, hy416⟩ : ∃ y_ : List Int, y_ = (x0_1.set (x5_1 : Int).toNat x1_1) := ⟨_, rfl⟩
     replace H : (laws_markInt64S.l0 k1 y416 (wrap64 (x1_1 + 1)) (wrap64 (x5_1 + 1))) = some (r1, r2) := zy hy416 H
     have Ny416 := zA hy416
     clear hy416
     have H' := zA H
     clear H
     obtain ⟨Ao6, co6, eo6⟩ := kM HO_0.out
     subst eo6
     have p5 : 0 ≤ (x5_1 : Int) := zd
     have q5 : (x5_1 : Int) < ((x0_1.length : Int) : Int) := zd
     obtain ⟨go5, co5, eo5, gb5, gl5, cl5, HG5⟩ := Kd.R_form HO_0.out (by omega)
     (first | cases eo5 | (injection eo5 with ea_ en_ ec_; (first | subst ea_ | (injection ea_ with ea_; subst ea_)); subst ec_; clear en_))
     have GB5 := zA gb5
     have GG5 := zA HG5
     clear gb5 gl5 HG5
     have HMgo5 := zA (show (P0_ go5 ∨ w.heap.size ≤ go5) from (HO_0.out.1 _ rfl))
     obtain ⟨hx5_0, hf5_0⟩ := Kd.R_celln 0 HO_0.out (x5_1 : Int) p5 q5
     replace p5 := eq_true p5
     replace q5 := eq_true q5
     have HP7 := Kd.R_putg HO_0.out (x5_1 : Int) x1_1
     go_wp2_with (first | ((with_reducible refine gate_store (t := 2) (p := 15) rfl ?_); refine store_event (t := 2) (p := 15) (v := ?vo_w8) (w1 := (wr.setCell ⟨go5, (x5_1 : Int).toNat, none⟩ (.int .i64 x1_1))) ?hg ?ho ?hn ?hr ?_; (case ho => rfl); (case hg => rfl); (case hn => rfl); (case hr => first | (go_simp; done) | (go_simp; rfl)); intro w8 hw; have hg : wr.grownBy w8 (some go5) := (by rw [hw]; exact HP7.2); have hp_ : Kd.R (Kd.int .i64) 2 w8 w0.heap.size (fun k_ => (P0_ k_ ∨ w.heap.size ≤ k_)) (.slice (some ⟨go5, 0, none⟩) x0_1.length co6) y416 := (by rw [hw, Ny416.out]; exact HP7.1); clear HP7; replace HB := zA ((by rw [hw]; exact zE (HB.out) GB5.out : Below w0.heap.size w0 w8)); replace HK := zA (Kept.of_grown (S := (fun k_ => P0_ k_)) hg (by repeat (first | (with_reducible first | exact HK.out | apply Kept.alloc | apply Kept.drewN | apply Kept.drew) | exact HK.out)) (fun k_ e_ => (HO_0.out.1 k_ e_))); replace HO_0 := zA (hp_); clear hg hw hp_))
     go_roundg k1
     case measure => have := HK1.out; omega
     case rel => exact ⟨(y416), (wrap64 (x1_1 + 1)), (wrap64 (x5_1 + 1)), zs, zs, H', ⟨by have := HK1.out; omega⟩, ⟨zP HO_0.out⟩, ⟨by repeat (first | (with_reducible first | exact HK.out | apply Kept.alloc | apply Kept.drewN | apply Kept.drew) | exact HK.out)⟩, ⟨zQ HB.out⟩⟩
    rw [if_neg c4] at H
    exact absurd H (by simp)
   rw [if_neg c3] at H
   have c3b0 : decide (x5_1 < (x0_1.length : Int)) = false := decide_eq_false c3
   clear c3
   simp only [Option.some.injEq, Prod.mk.injEq] at H
   obtain ⟨rfl, rfl⟩ := H
   obtain ⟨Ao9, co9, eo9⟩ := kM HO_0.out
   subst eo9
   go_wp2
   go_ret
   exact ⟨zr, zP HO_0.out, zQ HB.out, by repeat (first | (with_reducible first | exact HK.out | apply Kept.alloc | apply Kept.drewN | apply Kept.drew) | exact HK.out)⟩

/-! ### laws_markAlphabet: function 12 -/
def laws_markAlphabet.f (k : Nat) (a0_0 : Int) (l0_1 : List Int) (a1 : Int) : Option (Int × List Int) := (laws_markInt64S.f k l0_1 a1).bind fun bt418 => (some (bt418.1, bt418.2))

set_option maxHeartbeats 8000000 in
set_option maxRecDepth 100000 in
theorem laws_markAlphabet.calls (k : Nat) (a0_0 : Int) (P0_1_ : Nat → Prop) (u9000_ : Value) (l0_1 : List Int) (a1 : Int) (r1 : Int) (r2 : List Int) (w0 w : World) (hB : Below w0.heap.size w0 w) (ho0_1 : Kd.R (Kd.int .i64) 2 w w0.heap.size P0_1_ u9000_ l0_1) (h : laws_markAlphabet.f k a0_0 l0_1 a1 = some (r1, r2)) :
  Calls Tryd.prog 12 #[.agg #[.int .i64 a0_0, u9000_], .int .i64 a1] w fun e w' => e = .returned (.int .i64 r1) ∧ Kd.R (Kd.int .i64) 2 w' w0.heap.size (fun k_ => (P0_1_ k_ ∨ w.heap.size ≤ k_)) u9000_ r2 ∧ Below w0.heap.size w0 w' ∧ Kept w w' (fun k_ => P0_1_ k_) := by
 have hu29 := Tryd.underlying29
 have HO0_1 := zA (show Kd.R (Kd.int .i64) 2 w w0.heap.size (fun k_ => (P0_1_ k_ ∨ w.heap.size ≤ k_)) u9000_ l0_1 from kA ho0_1 (fun k_ hk => (.inl hk)))
 have HK := zA (Kept.refl w (fun k_ => P0_1_ k_))
 have HW0 := zA hB.size
 have HB := zA hB
 clear hB
 have H := h
 unfold laws_markAlphabet.f at H
 clear h
 obtain ⟨⟨t418, t419⟩, A3, H⟩ := zb H
 try dsimp only at H
 simp only [Option.some.injEq, Prod.mk.injEq] at H
 obtain ⟨rfl, rfl⟩ := H
 obtain ⟨Ao4, co4, eo4⟩ := kM HO0_1.out
 subst eo4
 go_enter Tryd.func12, Tryd.ntmps12
 go_wp2_with (first | (refine zBE 2 #[.int .i64 a0_0, .slice Ao4 l0_1.length co4] 29 ?_; intro gb417 hg w5 hbox hb; replace HO0_1 := zA (kL (zP HO0_1.out) hb); have BK417 := zA (hbox); have GW417 := zA (zB6 hg (by first | exact HK.out.1 | exact (show Kept w _ (fun k_ => P0_1_ k_) from by repeat (first | (with_reducible first | exact HK.out | apply Kept.alloc | apply Kept.drewN | apply Kept.drew) | exact HK.out)).1) : w.heap.size ≤ gb417); replace HK := zA (Kept.below (S := (fun k_ => P0_1_ k_)) (by repeat (first | (with_reducible first | exact HK.out | apply Kept.alloc | apply Kept.drewN | apply Kept.drew) | exact HK.out)) hb); have GE417 := zA (zBH hg HB.out); replace HB := zA (kQ (zQ HB.out) hb); clear hb hbox hg; obtain ⟨hcz6_0, hcz6_1, hfz6_0, hfz6_1⟩ := zB3 BK417.out) | (refine zO (some 8) Tryd.func20 #[.slice Ao4 l0_1.length co4, .int .i64 a1] ?_; (with_reducible refine (laws_markInt64S.calls k (fun k_ => some k_ = (.slice Ao4 l0_1.length co4 : Value).ownBlock) (.slice Ao4 l0_1.length co4) l0_1 a1 t418 t419 w0 _ ?side1 ?side2 A3.out).mono ?_); (case side1 => exact zT HB.out GE417.out); (case side2 => exact jK rfl HO0_1.out); rintro e w7 ⟨rfl, hy0, hb, hkp⟩; refine ⟨_, rfl, ?_⟩; replace BK417 := zA (blk_kept (zR BK417.out) hkp (fun hs_ => (fun e_ => (Kd.R_ne HO0_1.out BK417.out (by decide)) e_) hs_)); replace HK := zA (Kept.then_ (S := (fun k_ => P0_1_ k_)) (by repeat (first | (with_reducible first | exact HK.out | apply Kept.alloc | apply Kept.drewN | apply Kept.drew | refine Kept.setCell ?_ (.inr GW417.out) _) | exact HK.out)) hkp (fun k_ hs_ => (fun e_ => (HO0_1.out.1 k_ e_.symm)) hs_)); replace HO0_1 := zA (Kd.R_reok rfl hy0 (fun k_ e_ => HO0_1.out.1 k_ e_)); replace HB := zA (hb); (try clear hb); (try clear hkp); (try clear hy0)))
 go_ret
 exact ⟨zr, zP HO0_1.out, zT HB.out GE417.out, by repeat (first | (with_reducible first | exact HK.out | apply Kept.alloc | apply Kept.drewN | apply Kept.drew | refine Kept.setCell ?_ (.inr GW417.out) _) | exact HK.out)⟩

/-! ### laws_markInt64SS: function 13: a contract of our own -/
def laws_markInt64SS.l0 : Nat → List (List Int) → Int → Int → Option (Int × List (List Int))
 | 0, _, _, _ => none
 | k + 1, x0, x1, x5 => if x5 < (x0.length : Int) then (if 0 ≤ x5 then ((laws_markInt64S.f k (x0.getD (x5 : Int).toNat ([] : List Int)) x1).bind fun bt => laws_markInt64SS.l0 k (x0.set (x5 : Int).toNat bt.2) bt.1 (wrap64 (x5 + 1))) else none) else some (x1, x0)
def laws_markInt64SS.f (k : Nat) (l0 : List (List Int)) (a1 : Int) : Option (Int × List (List Int)) := laws_markInt64SS.l0 k l0 a1 0
/-- rows vw that were there when the rows vg were born (nb: the heap's size then); X: what both are apart from -/
def ZPair (nb : Nat) (w W : World) (X : Nat → Prop) (vw : Value) (lw : List (List Int)) (vg : Value) (lg : List (List Int)) : Prop :=
 w.heap.size ≤ nb ∧ Kd.S (Kd.slice 2 (Kd.int .i64)) 22 W w.heap.size (fun k => k < nb ∧ ¬ X k) vw lw ∧ Kd.S (Kd.slice 2 (Kd.int .i64)) 22 W w.heap.size (fun k => nb ≤ k ∧ ¬ X k) vg lg
theorem ZPair.mk {w W W1 : World} {X okw okg : Nat → Prop} {vw vg : Value} {lw lg : List (List Int)} (hw : Kd.S (Kd.slice 2 (Kd.int .i64)) 22 W w.heap.size okw vw lw) (hx : ∀ k, okw k → ¬ X k) (hb : Below W.heap.size W W1)
  (hg : Kd.S (Kd.slice 2 (Kd.int .i64)) 22 W1 W.heap.size okg vg lg) (hX : ∀ k, X k → k < W.heap.size) (hle : w.heap.size ≤ W.heap.size) : ∃ nb, ZPair nb w W1 X vw lw vg lg :=
 ⟨W.heap.size, hle, Kd.S_mono (Kd.S_old hw hb) (fun k hk => ⟨hk.2, hx k hk.1⟩), Kd.S_lower (Kd.S_mono (Kd.S_bound hg) (fun k hk => ⟨hk.2.1, fun h => by have := hX k h; have := hk.2.1; omega⟩)) hle⟩
theorem ZPair.below {nb : Nat} {w W W1 : World} {X : Nat → Prop} {vw vg : Value} {lw lg : List (List Int)} (h : ZPair nb w W X vw lw vg lg) (hb : Below W.heap.size W W1) : ZPair nb w W1 X vw lw vg lg := ⟨h.1, Kd.S_below h.2.1 hb, Kd.S_below h.2.2 hb⟩
theorem ZPair.alloc {nb : Nat} {w W : World} {X : Nat → Prop} {vw vg : Value} {lw lg : List (List Int)} (h : ZPair nb w W X vw lw vg lg) (o : Obj) : ZPair nb w (W.alloc o) X vw lw vg lg := ⟨h.1, Kd.S_alloc h.2.1 o, Kd.S_alloc h.2.2 o⟩
theorem ZPair.drew {nb : Nat} {w W : World} {X : Nat → Prop} {vw vg : Value} {lw lg : List (List Int)} (h : ZPair nb w W X vw lw vg lg) : ZPair nb w W.drew X vw lw vg lg := ⟨h.1, Kd.S_drew h.2.1, Kd.S_drew h.2.2⟩
theorem ZPair.drewN {nb : Nat} {w W : World} {X : Nat → Prop} {vw vg : Value} {lw lg : List (List Int)} (h : ZPair nb w W X vw lw vg lg) (m : Nat) : ZPair nb w (W.drewN m) X vw lw vg lg := ⟨h.1, Kd.S_drewN h.2.1 m, Kd.S_drewN h.2.2 m⟩
theorem zPZ {p q : Prop} (h : p) (hh : p → q := by intro h; (with_reducible repeat (first | apply ZPair.alloc | apply ZPair.drewN | apply ZPair.drew)); exact h) : q := hh h
theorem ZPair.kept {nb : Nat} {w W W1 : World} {X S : Nat → Prop} {vw vg : Value} {lw lg : List (List Int)} (h : ZPair nb w W X vw lw vg lg) (hk : Kept W W1 S) (hs : ∀ k, S k → X k) : ZPair nb w W1 X vw lw vg lg :=
 ⟨h.1, Kd.S_step h.2.1 (fun k ho hlt => hk.2 k hlt (fun e => ho.2 (hs k e))), Kd.S_step h.2.2 (fun k ho hlt => hk.2 k hlt (fun e => ho.2 (hs k e)))⟩
theorem ZPair.after {nb : Nat} {w W W1 : World} {X : Nat → Prop} {vw vg : Value} {lw lg : List (List Int)} (h : ZPair nb w W X vw lw vg lg) (hk : Kept W W1 (fun k => nb ≤ k ∧ ¬ X k)) : Kd.S (Kd.slice 2 (Kd.int .i64)) 22 W1 w.heap.size (fun k => k < nb ∧ ¬ X k) vw lw :=
 Kd.S_step h.2.1 (fun k ho hlt => hk.2 k hlt (fun e => Nat.not_le.2 ho.1 e.1))
set_option maxHeartbeats 8000000 in
set_option maxRecDepth 100000 in
theorem laws_markInt64SS.calls (k : Nat) (P0_ : Nat → Prop) (u9000_ : Value) (l0 : List (List Int)) (a1 : Int) (r1 : Int) (r2 : List (List Int)) (w0 w : World) (hB : Below w0.heap.size w0 w) (ho0 : Kd.S (Kd.slice 2 (Kd.int .i64)) 22 w w0.heap.size P0_ u9000_ l0) (h : laws_markInt64SS.f k l0 a1 = some (r1, r2)) :
  Calls Tryd.prog 13 #[u9000_, .int .i64 a1] w fun e w' => e = .returned (.int .i64 r1) ∧ Kd.S (Kd.slice 2 (Kd.int .i64)) 22 w' w0.heap.size P0_ u9000_ r2 ∧ Below w0.heap.size w0 w' ∧ Kept w w' P0_ := by
 have HO0 := zA ho0
 have HK := zA (Kept.refl w P0_)
 have HB := zA hB
 clear hB ho0
 have H' := zA h
 unfold laws_markInt64SS.f at H'
 clear h
 obtain ⟨Ao, co, eo⟩ := Kd.S_slice HO0.out
 have LE : Aside0 (u9000_ = .slice Ao l0.length co) := ⟨eo⟩
 subst eo
 generalize hn : l0.length = n at *
 have HN := zA hn
 clear hn
 go_enter Tryd.func13, Tryd.ntmps13
 go_wp2
 go_loopg [1, 5] k (fun kq v1 v5 w' => ∃ (x0_1 : List (List Int)) (x1_1 : Int) (x5_1 : Int), v1 = .int .i64 x1_1 ∧ v5 = .int .i64 x5_1 ∧ Aside0 (laws_markInt64SS.l0 kq x0_1 x1_1 x5_1 = some (r1, r2)) ∧ Aside0 (kq ≤ k) ∧ Aside0 (x0_1.length = n) ∧ Aside0 (Kd.S (Kd.slice 2 (Kd.int .i64)) 22 w' w0.heap.size P0_ (.slice Ao n co) x0_1) ∧ Aside0 (Kept w w' P0_) ∧ Aside0 (Below w0.heap.size w0 w'))
 case atStart => exact ⟨l0, a1, 0, rfl, rfl, H', ⟨Nat.le_refl _⟩, HN, ⟨by (with_reducible repeat (first | apply Kd.S_alloc | apply Kd.S_drewN | apply Kd.S_drew)); exact HO0.out⟩, ⟨by repeat (first | (with_reducible first | exact HK.out | apply Kept.alloc | apply Kept.drewN | apply Kept.drew) | exact HK.out)⟩, ⟨zQ HB.out⟩⟩
 case round =>
  clear H' HO0 HK HB HN
  try clear c2
  obtain ⟨x0_1, x1_1, x5_1, rfl, rfl, HA, HK1, HL, HO_0, HK, HB⟩ := hrel
  cases gk with
  | zero => exact absurd HA.out (by simp [laws_markInt64SS.l0])
  | succ k1 =>
   have H := HA.out
   clear HA
   simp only [laws_markInt64SS.l0] at H
   by_cases c3 : x5_1 < (x0_1.length : Int)
   ·rw [if_pos c3] at H
    rw [HL.out] at c3
    have c3b0 : decide (x5_1 < (n : Int)) = true := decide_eq_true c3
    by_cases c4 : 0 ≤ x5_1
    ·rw [if_pos c4] at H
     have c4b0 : decide (0 ≤ x5_1) = true := decide_eq_true c4
     obtain ⟨⟨bt1, bt2⟩, A5, H⟩ := zb H
     dsimp only at H
     have H' := zA H
     clear H
     obtain ⟨go5, cap5, ef5, gb5, gl5, HG5⟩ := Kd.S_form HO_0.out (by rw [HL.out]; omega)
     rw [HL.out] at ef5
     injection ef5 with ea_ en_ ec_
     subst ea_ ec_
     clear en_ gb5 gl5 HG5
     obtain ⟨oki, cs, hcl, hM, hcc, hoki, hH⟩ := Kd.S_lend HO_0.out ([] : List Int) x5_1 c4 c3
     obtain ⟨vi, ecs, hR⟩ := hM
     subst ecs
     obtain ⟨Ai, ci, evi, hlci, _⟩ := Kd.R_reads hR
     subst evi
     have hx : wr.cell? ⟨go5, x5_1.toNat, none⟩ = some (.slice Ai (x0_1.getD x5_1.toNat []).length ci) := by
      have := hcc 0 _ rfl
      rwa [show x5_1.toNat * (Kd.slice 2 (Kd.int .i64)).sz + 0 = x5_1.toNat by show x5_1.toNat * 1 + 0 = _; omega] at this
     replace c3 := eq_true c3
     replace c4 := eq_true c4
     have HR := zA hR
     have HH := zA hH
     have HI := zA hoki
     clear hR hH hoki hcc hcl
     go_wp2_with (first | (refine zO (some 17) Tryd.func20 #[.slice Ai (x0_1.getD x5_1.toNat []).length ci, .int .i64 x1_1] ?_; (with_reducible refine (laws_markInt64S.calls k1 oki (.slice Ai (x0_1.getD x5_1.toNat []).length ci) (x0_1.getD x5_1.toNat []) x1_1 bt1 bt2 w0 _ ?side1 ?side2 A5.out).mono ?_); (case side1 => exact zQ HB.out); (case side2 => exact zP HR.out); rintro e w55 ⟨rfl, hy0, hb, hkp⟩; refine ⟨_, rfl, ?_⟩; have HY := zA hy0; have HP := zA hkp; replace HB := zA hb; clear hy0 hb hkp))
     go_roundg k1
     case measure => have := HK1.out; omega
     case rel =>
      refine ⟨x0_1.set x5_1.toNat bt2, bt1, wrap64 (x5_1 + 1), rfl, rfl, H', ⟨by have := HK1.out; omega⟩, ⟨by rw [List.length_set]; exact HL.out⟩, ⟨?_⟩, ⟨Kept.then_ HK.out HP.out (fun k_ hk => .inl (HI.out k_ hk).1)⟩, HB⟩
      exact Kd.H_back (okp := fun k_ => some k_ = (Value.slice Ai (x0_1.getD x5_1.toNat []).length ci).ownBlock) (Kd.H_step HH.out (fun k_ _ hn hlt => HP.out.2 k_ hlt hn)) (Kd.M_row (jK rfl HY.out)) (fun k_ e => HR.out.1 k_ e.symm)
    rw [if_neg c4] at H
    exact absurd H (by simp)
   rw [if_neg c3] at H
   rw [HL.out] at c3
   have c3b0 : decide (x5_1 < (n : Int)) = false := decide_eq_false c3
   clear c3
   simp only [Option.some.injEq, Prod.mk.injEq] at H
   obtain ⟨rfl, rfl⟩ := H
   go_wp2
   go_ret
   exact ⟨rfl, by (with_reducible repeat (first | apply Kd.S_alloc | apply Kd.S_drewN | apply Kd.S_drew)); exact HO_0.out, zQ HB.out, by repeat (first | (with_reducible first | exact HK.out | apply Kept.alloc | apply Kept.drewN | apply Kept.drew) | exact HK.out)⟩

/-! ### laws_heldInt64S: function 21 -/
def laws_heldInt64S.l0 : Nat → List Int → Int → Int → Option (Int)
 | 0, _, _, _ => none
 | k + 1, x0, x1, x5 => if x5 < (x0.length : Int) then (if 0 ≤ x5 then (if (rd x0 x5) = x1 then (laws_heldInt64S.l0 k x0 (wrap64 (x1 + 1)) (wrap64 (x5 + 1))) else (some (-1))) else (none)) else (some x1)
def laws_heldInt64S.f (k : Nat) (l0 : List Int) (a1 : Int) : Option (Int) := laws_heldInt64S.l0 k l0 a1 0

set_option maxHeartbeats 8000000 in
set_option maxRecDepth 100000 in
theorem laws_heldInt64S.calls (k : Nat) (A0 : Option Addr) (c0 : Nat) (l0 : List Int) (a1 : Int) (r : Int) (w : World) (hr0 : Kd.C (Kd.int .i64) w A0 l0.length l0) (hc0 : l0.length ≤ c0) (h : laws_heldInt64S.f k l0 a1 = some r) :
  Calls Tryd.prog 21 #[.slice A0 l0.length c0, .int .i64 a1] w fun e w' => e = .returned (.int .i64 r) ∧ Drawn0 w w' := by
 have HR0 := zA hr0
 have HC0 := zA hc0
 clear hr0 hc0
 have H := h
 unfold laws_heldInt64S.f at H
 clear h
 have H' := zA H
 clear H
 go_enter Tryd.func21, Tryd.ntmps21
 go_wp2
 go_loopg [1, 5] k (fun kq v1 v5 w' => ∃ (x1_1 : Int) (x5_1 : Int), v1 = .int .i64 x1_1 ∧ v5 = .int .i64 x5_1 ∧ Aside0 (laws_heldInt64S.l0 kq l0 x1_1 x5_1 = some r) ∧ Aside0 (kq ≤ k) ∧ Drawn0 w w')
 case atStart => exact ⟨(a1), (0), zs, zs, H', ⟨Nat.le_refl _⟩, by repeat (first | exact Drawn0.refl _ | apply Drawn0.step)⟩
 case round =>
  clear H'
  try clear c2
  obtain ⟨x1_1, x5_1, rfl, rfl, HA, HK1, ⟨m1, rfl⟩⟩ := hrel
  cases gk with
  | zero => exact absurd HA.out (by simp [laws_heldInt64S.l0])
  | succ k1 =>
   have H := HA.out
   clear HA
   simp only [laws_heldInt64S.l0] at H
   by_cases c3 : x5_1 < (l0.length : Int)
   ·rw [if_pos c3] at H
    have c3b0 : decide (x5_1 < (l0.length : Int)) = true := decide_eq_true c3
    clear c3
    by_cases c4 : 0 ≤ x5_1
    ·rw [if_pos c4] at H
     have c4b0 : decide (0 ≤ x5_1) = true := decide_eq_true c4
     clear c4
     by_cases c5 : (rd l0 x5_1) = x1_1
     ·rw [if_pos c5] at H
      obtain ⟨c5b0, c5b1⟩ := zT1 c5
      clear c5
      have H' := zA H
      clear H
      have p420 : 0 ≤ (x5_1 : Int) := zd
      have q420 : x5_1 < (l0.length : Int) := zd
      obtain ⟨ad420, e420, hx420_0⟩ := Kd.at_int HR0.out x5_1 p420 q420
      cases e420
      replace p420 := eq_true p420
      replace q420 := eq_true q420
      go_wp2
      go_roundg k1
      case measure => have := HK1.out; omega
      case rel => exact ⟨(wrap64 (x1_1 + 1)), (wrap64 (x5_1 + 1)), zs, zs, H', ⟨by have := HK1.out; omega⟩, by repeat (first | exact Drawn0.refl _ | apply Drawn0.step)⟩
     rw [if_neg c5] at H
     obtain ⟨c5b0, c5b1⟩ := zT2 c5
     obtain rfl := Option.some.inj H
     have p420 : 0 ≤ (x5_1 : Int) := zd
     have q420 : x5_1 < (l0.length : Int) := zd
     obtain ⟨ad420, e420, hx420_0⟩ := Kd.at_int HR0.out x5_1 p420 q420
     cases e420
     replace p420 := eq_true p420
     replace q420 := eq_true q420
     go_wp2
     go_ret
     exact ⟨zs, by repeat (first | exact Drawn0.refl _ | apply Drawn0.step)⟩
    rw [if_neg c4] at H
    exact absurd H (by simp)
   rw [if_neg c3] at H
   have c3b0 : decide (x5_1 < (l0.length : Int)) = false := decide_eq_false c3
   clear c3
   obtain rfl := Option.some.inj H
   go_wp2
   go_ret
   exact ⟨zs, by repeat (first | exact Drawn0.refl _ | apply Drawn0.step)⟩

/-! ### laws_heldInt64SS: function 14 -/
def laws_heldInt64SS.l0 : Nat → List (List Int) → Int → Int → Option (Int)
 | 0, _, _, _ => none
 | k + 1, x0, x1, x5 => if x5 < (x0.length : Int) then (if 0 ≤ x5 then ((laws_heldInt64S.f k (rd_L1 x0 x5) x1).bind fun t422 => (if t422 < 0 then (some (-1)) else (laws_heldInt64SS.l0 k x0 t422 (wrap64 (x5 + 1))))) else (none)) else (some x1)
def laws_heldInt64SS.f (k : Nat) (l0 : List (List Int)) (a1 : Int) : Option (Int) := laws_heldInt64SS.l0 k l0 a1 0

set_option maxHeartbeats 8000000 in
set_option maxRecDepth 100000 in
theorem laws_heldInt64SS.calls (k : Nat) (A0 : Option Addr) (c0 : Nat) (l0 : List (List Int)) (a1 : Int) (r : Int) (w : World) (hr0 : Kd.C (Kd.slice 2 (Kd.int .i64)) w A0 l0.length l0) (hc0 : l0.length ≤ c0) (h : laws_heldInt64SS.f k l0 a1 = some r) :
  Calls Tryd.prog 14 #[.slice A0 l0.length c0, .int .i64 a1] w fun e w' => e = .returned (.int .i64 r) ∧ Drawn0 w w' := by
 have HR0 := zA hr0
 have HC0 := zA hc0
 clear hr0 hc0
 have H := h
 unfold laws_heldInt64SS.f at H
 clear h
 have H' := zA H
 clear H
 go_enter Tryd.func14, Tryd.ntmps14
 go_wp2
 go_loopg [1, 5] k (fun kq v1 v5 w' => ∃ (x1_1 : Int) (x5_1 : Int), v1 = .int .i64 x1_1 ∧ v5 = .int .i64 x5_1 ∧ Aside0 (laws_heldInt64SS.l0 kq l0 x1_1 x5_1 = some r) ∧ Aside0 (kq ≤ k) ∧ Drawn0 w w')
 case atStart => exact ⟨(a1), (0), zs, zs, H', ⟨Nat.le_refl _⟩, by repeat (first | exact Drawn0.refl _ | apply Drawn0.step)⟩
 case round =>
  clear H'
  try clear c1
  obtain ⟨x1_1, x5_1, rfl, rfl, HA, HK1, ⟨m1, rfl⟩⟩ := hrel
  cases gk with
  | zero => exact absurd HA.out (by simp [laws_heldInt64SS.l0])
  | succ k1 =>
   have H := HA.out
   clear HA
   simp only [laws_heldInt64SS.l0] at H
   by_cases c3 : x5_1 < (l0.length : Int)
   ·rw [if_pos c3] at H
    have c3b0 : decide (x5_1 < (l0.length : Int)) = true := decide_eq_true c3
    clear c3
    by_cases c4 : 0 ≤ x5_1
    ·rw [if_pos c4] at H
     have c4b0 : decide (0 ≤ x5_1) = true := decide_eq_true c4
     clear c4
     obtain ⟨t422, A5, H⟩ := zb H
     try dsimp only at H
     by_cases c6 : t422 < 0
     ·rw [if_pos c6] at H
      have c6b0 : decide (t422 < 0) = true := decide_eq_true c6
      clear c6
      obtain rfl := Option.some.inj H
      have p421 : 0 ≤ (x5_1 : Int) := zd
      have q421 : x5_1 < (l0.length : Int) := zd
      obtain ⟨ad421, A421_0, c421_0, e421, hx421_0, hl421_0, hi421_0⟩ := at_L1 HR0.out x5_1 p421 q421
      cases e421
      have HR421_0 := zA hi421_0
      have HC421_0 := zA hl421_0
      clear hi421_0 hl421_0
      replace p421 := eq_true p421
      replace q421 := eq_true q421
      go_wp2_with (first | (refine zO (some 17) Tryd.func21 #[.slice A421_0 (rd_L1 l0 x5_1).length c421_0, .int .i64 x1_1] ?_; (with_reducible refine (laws_heldInt64S.calls k1 _ _ (rd_L1 l0 x5_1) x1_1 t422 _ ?side1 ?side2 A5.out).mono ?_); (case side1 => exact zS HR421_0.out); (case side2 => exact HC421_0.out); rintro e w' ⟨rfl, ⟨nd, rfl⟩⟩; refine ⟨_, rfl, ?_⟩))
      go_ret
      exact ⟨zs, by repeat (first | exact Drawn0.refl _ | apply Drawn0.step)⟩
     rw [if_neg c6] at H
     have c6b0 : decide (t422 < 0) = false := decide_eq_false c6
     clear c6
     have H' := zA H
     clear H
     have p421 : 0 ≤ (x5_1 : Int) := zd
     have q421 : x5_1 < (l0.length : Int) := zd
     obtain ⟨ad421, A421_0, c421_0, e421, hx421_0, hl421_0, hi421_0⟩ := at_L1 HR0.out x5_1 p421 q421
     cases e421
     have HR421_0 := zA hi421_0
     have HC421_0 := zA hl421_0
     clear hi421_0 hl421_0
     replace p421 := eq_true p421
     replace q421 := eq_true q421
     go_wp2_with (first | (refine zO (some 17) Tryd.func21 #[.slice A421_0 (rd_L1 l0 x5_1).length c421_0, .int .i64 x1_1] ?_; (with_reducible refine (laws_heldInt64S.calls k1 _ _ (rd_L1 l0 x5_1) x1_1 t422 _ ?side1 ?side2 A5.out).mono ?_); (case side1 => exact zS HR421_0.out); (case side2 => exact HC421_0.out); rintro e w' ⟨rfl, ⟨nd, rfl⟩⟩; refine ⟨_, rfl, ?_⟩))
     go_roundg k1
     case measure => have := HK1.out; omega
     case rel => exact ⟨(t422), (wrap64 (x5_1 + 1)), zs, zs, H', ⟨by have := HK1.out; omega⟩, by repeat (first | exact Drawn0.refl _ | apply Drawn0.step)⟩
    rw [if_neg c4] at H
    exact absurd H (by simp)
   rw [if_neg c3] at H
   have c3b0 : decide (x5_1 < (l0.length : Int)) = false := decide_eq_false c3
   clear c3
   obtain rfl := Option.some.inj H
   go_wp2
   go_ret
   exact ⟨zs, by repeat (first | exact Drawn0.refl _ | apply Drawn0.step)⟩

end Go.Proofs.YtemdfjdmokbcoaaDoor.PAll
