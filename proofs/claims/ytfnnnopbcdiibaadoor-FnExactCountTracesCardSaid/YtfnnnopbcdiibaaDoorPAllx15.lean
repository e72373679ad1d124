-- Printed by a program of the session (wip/tools/pgen.py) out of the translation. Not trusted: Lean checks it.
import Derived.Test.YtfnnnopbcdiibaaDoorPAllx0
import Derived.Test.YtfnnnopbcdiibaaDoorPAllx1
import Derived.Test.YtfnnnopbcdiibaaDoorPAllx14
namespace Go.Proofs.YtfnnnopbcdiibaaDoor.PAll
open Go.RowKit Go.Proofs.YtfnnnopbcdiibaaDoor.T Go.Proofs.YtfnnnopbcdiibaaDoorW.PrintWords Go.Proofs.YtfnnnopbcdiibaaDoorW.PrintLast Go.Proofs.YtfnnnopbcdiibaaDoorW.PrintMore
attribute [local go_sem] max2_int min2_int max_two min_two max_three min_three max_four min_four   -- for this text's walks alone
set_option linter.unusedVariables false
set_option linter.unusedSimpArgs false

/-! ### impl_complement: function 156 -/
def impl_complement.l0 : Nat → List Int → Int → Int → Int → List Int → Int → List Int → Option (Int × List Int)
 | 0, _, _, _, _, _, _, _ => none
 | k + 1, x10, x11, x12, x1568000, x1568001, x1570000, x1570001 => if x12 < x11 then (if 0 ≤ x12 then (if x12 < (x10.length : Int) then ((impl_allLetters.f x1568000 x1568001).bind fun t1571 => ((impl_one.f x12).bind fun t1572 => (if x1570001.length < 17592186044416 then (impl_complement.l0 k x10 x11 (wrap64 (x12 + 1)) x1568000 x1568001 x1570000 (x1570001 ++ [Go.bits .or .i64 (Go.bits .andNot .i64 t1571 (rd x10 x12)) t1572])) else (none)))) else (none)) else (none)) else (some (x1570000, x1570001))
def impl_complement.f (k : Nat) (a0_0 : Int) (l0_1 : List Int) : Option (Int × List Int) := impl_complement.l0 k l0_1 (l0_1.length : Int) 0 a0_0 l0_1 a0_0 ([] : List Int)

def impl_complement.T5 : Bool × List (List Nat × List Nat) := (true, [([], []), ([0], [0]), ([], []), ([2], [2]), ([], []), ([3, 4], [3, 4]), ([], []), ([6, 3], [6]), ([5, 7], [5, 7]), ([8], [8]), ([1, 9, 7], [1, 9]), ([0, 1, 2, 3, 4, 5, 6, 7, 8, 9, 10], []), ([11, 10, 10, 0, 1, 2, 3, 4, 5, 6, 7, 8, 9, 10], [10, 11])])
def impl_complement.B5 : List Nat := [0, 1, 0, 4, 0, 28, 0, 76, 252, 508, 1023, 2047, 4095]
theorem impl_complement.tab5 : rtab .any (opsOf Tryd.f156 5) = impl_complement.T5 := by kernel_rfl
theorem impl_complement.bits5 : waitsOk impl_complement.T5.2 impl_complement.B5 = true := by kernel_rfl
set_option maxHeartbeats 8000000 in
set_option maxRecDepth 100000 in
theorem impl_complement.calls (k : Nat) (a0_0 : Int) (A0_1 : Option Addr) (c0_1 : Nat) (l0_1 : List Int) (r1 : Int) (r2 : List Int) (w : World) (hr0_1 : Kd.C (Kd.int .i64) w A0_1 l0_1.length l0_1) (hc0_1 : l0_1.length ≤ c0_1) (h : impl_complement.f k a0_0 l0_1 = some (r1, r2)) :
  Calls Tryd.prog 156 #[.agg #[.int .i64 a0_0, .slice A0_1 l0_1.length c0_1]] w fun e w' => ∃ v1_ : Value, e = .returned (.agg #[.int .i64 r1, v1_]) ∧ Kd.R (Kd.int .i64) 2 w' w.heap.size (fun _ => True) v1_ r2 ∧ Below w.heap.size w w' := by
 have hu28 := Tryd.underlying28
 have HR0_1 := zA hr0_1
 have HC0_1 := zA hc0_1
 clear hr0_1 hc0_1
 have HB := zA (kW w.heap.size w)
 have H := h
 unfold impl_complement.f at H
 clear h
 have H' := zA H
 clear H
 go_enter Tryd.func156, Tryd.ntmps156
 go_wp2_with (first | (refine zBE 1 #[.int .i64 a0_0, .slice A0_1 l0_1.length c0_1] 28 ?_; intro gb1567 hg w2 hbox hb; have BK1567 := zA (hbox); have GW1567 := zA (zBH hg HB.out); have GE1567 := zA (zBH hg HB.out); replace HB := zA (kQ (zQ HB.out) hb); clear hb hbox hg) | (refine zBE 2 #[.int .i64 0, .slice none 0 0] 28 ?_; intro gb1568 hg w3 hbox hb; have BK1568 := zA (hbox); have GW1568 := zA (zB6 hg (kP (zT HB.out GE1567.out)) : w.heap.size ≤ gb1568); have GE1568 := zA (zB6 hg (kP (zT HB.out GE1567.out)) : w.heap.size ≤ gb1568); replace HB := zA (kQ (zT HB.out GE1567.out) hb); have NB1567_1568 := zA (zB4 hg BK1567.out : gb1567 ≠ gb1568); have NB1568_1567 := zA (zB5 hg BK1567.out : gb1568 ≠ gb1567); replace BK1567 := zA (zB1 BK1567.out hb); clear hb hbox hg; have hnb4 := NB1567_1568.out; have hnc4 := NB1568_1567.out; obtain ⟨hcz5_0, hcz5_1, hfz5_0, hfz5_1⟩ := zB3 BK1567.out) | (refine zBE 3 #[.int .i64 0, .slice none 0 0] 28 ?_; intro gb1569 hg w6 hbox hb; have BK1569 := zA (hbox); have GW1569 := zA (zB6 hg (kP (zV HB.out GE1567.out GE1568.out)) : w.heap.size ≤ gb1569); have GE1569 := zA (zB6 hg (kP (zV HB.out GE1567.out GE1568.out)) : w.heap.size ≤ gb1569); replace HB := zA (kQ (zV HB.out GE1567.out GE1568.out) hb); have NB1567_1569 := zA (zB4 hg BK1567.out : gb1567 ≠ gb1569); have NB1569_1567 := zA (zB5 hg BK1567.out : gb1569 ≠ gb1567); replace BK1567 := zA (zB1 BK1567.out hb); have NB1568_1569 := zA (zB4 hg BK1568.out : gb1568 ≠ gb1569); have NB1569_1568 := zA (zB5 hg BK1568.out : gb1569 ≠ gb1568); replace BK1568 := zA (zB1 BK1568.out hb); clear hb hbox hg; have hnb7 := NB1569_1567.out; have hnc7 := NB1567_1569.out; have hnb8 := NB1569_1568.out; have hnc8 := NB1568_1569.out; obtain ⟨hcz9_0, hcz9_1, hfz9_0, hfz9_1⟩ := zB3 BK1569.out; obtain ⟨hcz10_0, hcz10_1, hfz10_0, hfz10_1⟩ := zB3 BK1567.out))
 go_loopg [12] k (fun kq v12 w' => ∃ (x12_1 : Int) (x1570001_1 : List Int) (u1570001 : Value), v12 = .int .i64 x12_1 ∧ Aside0 (impl_complement.l0 kq l0_1 (l0_1.length : Int) x12_1 a0_0 l0_1 a0_0 x1570001_1 = some (r1, r2)) ∧ Aside0 (kq ≤ k) ∧ Aside0 (Kd.R (Kd.int .i64) 2 w' w.heap.size (fun _ => True) u1570001 x1570001_1) ∧ Aside0 (w'.heap[gb1567]? = some (.cells #[.int .i64 a0_0, (.slice A0_1 l0_1.length c0_1)] 28 (0, 0))) ∧ Aside0 (w'.heap[gb1568]? = some (.cells #[.int .i64 0, (.slice none 0 0)] 28 (0, 0))) ∧ Aside0 (w'.heap[gb1569]? = some (.cells #[.int .i64 a0_0, u1570001] 28 (0, 0))) ∧ Aside0 (Below w.heap.size w w'))
 case atStart => exact ⟨(0), (([] : List Int)), (.slice none 0 0), zs, H', ⟨Nat.le_refl _⟩, ⟨zn⟩, ⟨by (with_reducible repeat (first | refine zJ ?_ _ | refine zK ?_ | refine zI ?_ _)); refine blk_far ?_ NB1567_1569.out _; (with_reducible repeat (first | refine zJ ?_ _ | refine zK ?_ | refine zI ?_ _)); refine blk_far ?_ NB1567_1569.out _; (with_reducible repeat (first | refine zJ ?_ _ | refine zK ?_ | refine zI ?_ _)); exact BK1567.out⟩, ⟨by (with_reducible repeat (first | refine zJ ?_ _ | refine zK ?_ | refine zI ?_ _)); refine blk_far ?_ NB1568_1569.out _; (with_reducible repeat (first | refine zJ ?_ _ | refine zK ?_ | refine zI ?_ _)); refine blk_far ?_ NB1568_1569.out _; (with_reducible repeat (first | refine zJ ?_ _ | refine zK ?_ | refine zI ?_ _)); exact BK1568.out⟩, ⟨by (with_reducible repeat (first | refine zJ ?_ _ | refine zK ?_ | refine zI ?_ _)); refine blk_put (cs := #[.int .i64 a0_0, .slice none 0 0]) ?_ 1 _ rfl; (with_reducible repeat (first | refine zJ ?_ _ | refine zK ?_ | refine zI ?_ _)); refine blk_put (cs := #[.int .i64 0, .slice none 0 0]) ?_ 0 _ rfl; (with_reducible repeat (first | refine zJ ?_ _ | refine zK ?_ | refine zI ?_ _)); exact BK1569.out⟩, ⟨zW HB.out GE1567.out GE1568.out GE1569.out⟩⟩
 case round =>
  clear H'
  try clear c1
  try clear c4
  try clear c7
  try clear c8
  try clear hcz10_0
  try clear hcz10_1
  try clear hcz5_0
  try clear hcz5_1
  try clear hcz9_0
  try clear hcz9_1
  try clear hfz10_0
  try clear hfz10_1
  try clear hfz5_0
  try clear hfz5_1
  try clear hfz9_0
  try clear hfz9_1
  obtain ⟨x12_1, x1570001_1, u1570001, rfl, HA, HK1, HO_1570001, BK1567, BK1568, BK1569, HB⟩ := hrel
  cases gk with
  | zero => exact absurd HA.out (by simp [impl_complement.l0])
  | succ k1 =>
   have H := HA.out
   clear HA
   simp only [impl_complement.l0] at H
   by_cases c11 : x12_1 < (l0_1.length : Int)
   ·rw [if_pos c11] at H
    have c11b0 : decide (x12_1 < (l0_1.length : Int)) = true := decide_eq_true c11
    clear c11
    by_cases c12 : 0 ≤ x12_1
    ·rw [if_pos c12] at H
     have c12b0 : decide (0 ≤ x12_1) = true := decide_eq_true c12
     clear c12
     by_cases c13 : x12_1 < (l0_1.length : Int)
     ·rw [if_pos c13] at H
      have c13b0 : decide (x12_1 < (l0_1.length : Int)) = true := decide_eq_true c13
      clear c13
      obtain ⟨t1571, A14, H⟩ := zb H
      try dsimp only at H
      obtain ⟨t1572, A15, H⟩ := zb H
      try dsimp only at H
      by_cases c16 : x1570001_1.length < 17592186044416
      ·rw [if_pos c16] at H
       have LMc16 := zA c16
       clear c16
       obtain ⟨y1573, hy1573⟩ : ∃ y_ : List Int, y_ = (x1570001_1 ++ [Go.bits .or .i64 (Go.bits .andNot .i64 t1571 (rd l0_1 x12_1)) t1572]) := ⟨_, rfl⟩
       replace H : (impl_complement.l0 k1 l0_1 (l0_1.length : Int) (wrap64 (x12_1 + 1)) a0_0 l0_1 a0_0 y1573) = some (r1, r2) := zy hy1573 H
       have Ny1573 := zA hy1573
       clear hy1573
       have H' := zA H
       clear H
       have p1570 : 0 ≤ (x12_1 : Int) := zd
       have q1570 : x12_1 < (l0_1.length : Int) := zd
       obtain ⟨ad1570, e1570, hx1570_0⟩ := Kd.at_int HR0_1.out x12_1 p1570 q1570
       cases e1570
       replace hx1570_0 := (HB.out.cell (jG w _ hx1570_0)).trans hx1570_0
       replace p1570 := eq_true p1570
       replace q1570 := eq_true q1570
       try go_wp2
       replace HO_1570001 := zA (zH HO_1570001.out)
       replace BK1567 := zA (zK BK1567.out)
       replace BK1568 := zA (zK BK1568.out)
       replace BK1569 := zA (zK BK1569.out)
       replace HB := zA (zD HB.out)
       refine start_ (n := 13) (S := fun w' => w'.cell? ⟨gb1569, 0, none⟩ = some (.int .i64 a0_0) ∧ w'.cell? ⟨gb1569, 1, none⟩ = some (u1570001) ∧ w'.cell? ⟨gb1567, 0, none⟩ = some (.int .i64 a0_0) ∧ w'.cell? ⟨gb1567, 1, none⟩ = some (.slice (some ad1570) l0_1.length c0_1)) (ds := [12]) #[false, false, false, false, false, false, false, false, false, false, false, false, false] (by kernel_rfl) rfl rfl ⟨(kV BK1569.out 0).trans rfl, (kV BK1569.out 1).trans rfl, (kV BK1567.out 0).trans rfl, (kV BK1567.out 1).trans rfl⟩ (fun hHeld => ?_); refine with_tabW impl_complement.tab5 impl_complement.bits5 (fun HT_ HW_ => ?_)
       generalize wr.drew = w17 at HO_1570001 BK1567 BK1568 BK1569 HB hHeld ⊢
       refine zp 0 (some 17) #[true, false, false, false, false, false, false, false, false, false, false, false, false] HT_.out ?_
       refine zp 4 (some 21) #[true, false, false, false, true, false, false, false, false, false, false, false, false] HT_.out ?_
       refine zp 6 (some 23) #[true, false, false, false, true, false, true, false, false, false, false, false, false] HT_.out ?_
       refine zf 1 (some 18) #[true, true, false, false, true, false, true, false, false, false, false, false, false] HT_.out HW_.out hHeld ?_
       refine zf 2 (some 19) #[true, true, true, false, true, false, true, false, false, false, false, false, false] HT_.out HW_.out hHeld ?_
       refine one_ (i := 3) (N := some 20) #[true, true, true, true, true, false, true, false, false, false, false, false, false] rfl rfl (one_of HT_.out (by kernel_rfl)) (by decide) (fun K hK => ?_)
       refine goes_ Tryd.func163 (by kernel_rfl) rfl #[.agg #[.int .i64 a0_0, .slice (some ad1570) l0_1.length c0_1]] (by rfl) rfl rfl zg ?_
       with_reducible refine (impl_allLetters.calls a0_0 _ _ l0_1 t1571 _ ?side1 ?side2 A14.out).mono ?_
       (case side1 => exact zS (kO HR0_1.out HB.out))
       (case side2 => exact HC0_1.out)
       rintro e w18 ⟨rfl, hb⟩
       refine ⟨_, rfl, ?_⟩
       replace HO_1570001 := zA (kL (zP HO_1570001.out) hb)
       replace BK1567 := zA (zB1 BK1567.out hb)
       replace BK1568 := zA (zB1 BK1568.out hb)
       replace BK1569 := zA (zB1 BK1569.out hb)
       replace HB := zA (kQ (zW HB.out GE1567.out GE1568.out GE1569.out) hb)
       (try clear hb)
       (try clear hb2)
       (try clear hk)
       (try clear hi)
       (try clear hgw)
       refine hK.out _ _ ⟨(kV BK1569.out 0).trans rfl, (kV BK1569.out 1).trans rfl, (kV BK1567.out 0).trans rfl, (kV BK1567.out 1).trans rfl⟩ (fun hHeld => ?_)
       clear hK K
       refine norm_ (a' := ?_) ?_ ?_
       rotate_left
       ·show Act.put _ (some 20) _ = _
        simp only [Act.put, zL, zM, zN, i64_w, i32_w]
        rfl
       refine zp 5 (some 22) #[true, true, true, true, true, true, true, false, false, false, false, false, false] HT_.out ?_
       refine one_ (i := 7) (N := some 24) #[true, true, true, true, true, true, true, true, false, false, false, false, false] rfl rfl (one_of HT_.out (by kernel_rfl)) (by decide) (fun K hK => ?_)
       refine goes_ Tryd.func67 (by kernel_rfl) rfl #[.int .i64 x12_1] (by rfl) rfl rfl zg ?_
       with_reducible refine (impl_one.calls x12_1 t1572 _ A15.out).mono ?_
       rintro e w' ⟨rfl, ⟨nd, rfl⟩⟩
       refine ⟨_, rfl, ?_⟩
       refine hK.out _ _ ⟨(kV BK1569.out 0).trans rfl, (kV BK1569.out 1).trans rfl, (kV BK1567.out 0).trans rfl, (kV BK1567.out 1).trans rfl⟩ (fun hHeld => ?_)
       clear hK K
       refine norm_ (a' := ?_) ?_ ?_
       rotate_left
       ·show Act.put _ (some 24) _ = _
        simp only [Act.put, zL, zM, zN, i64_w, i32_w]
        rfl
       refine zp 8 (some 25) #[true, true, true, true, true, true, true, true, true, false, false, false, false] HT_.out ?_
       refine one_ (i := 9) (N := some 26) #[true, true, true, true, true, true, true, true, true, true, false, false, false] rfl rfl (one_of HT_.out (by kernel_rfl)) (by decide) (fun K hK => ?_)
       refine value_ (w1 := ?_) (v := ?_) (by rfl) rfl ?_ ?_
       rotate_left 2
       ·go_simp
        constructor
        ·rfl
        rfl
       refine hK.out _ _ ⟨(kV (zI BK1569.out _) 0).trans rfl, (kV (zI BK1569.out _) 1).trans rfl, (kV (zI BK1567.out _) 0).trans rfl, (kV (zI BK1567.out _) 1).trans rfl⟩ (fun hHeld => ?_)
       clear hK K
       refine norm_ (a' := ?_) ?_ ?_
       rotate_left
       ·show Act.put _ (some 26) _ = _
        simp only [Act.put, zL, zM, zN, i64_w, i32_w]
        rfl
       refine one_ (i := 10) (N := some 27) #[true, true, true, true, true, true, true, true, true, true, true, false, false] rfl rfl (one_of HT_.out (by kernel_rfl)) (by decide) (fun K hK => ?_)
       refine Kd.R_append_step (Kd.int .i64) (w0 := w) w.heap.size (by rfl) (.tmp 18) (.tmp 26) 22 2 (.int .i64 0) 8 rfl Tryd.underlying22 info2 rfl (by decide) (by omega) u1570001 x1570001_1 (Go.bits .or .i64 (Go.bits .andNot .i64 t1571 (rd l0_1 x12_1)) t1572) [.int .i64 (Go.bits .or .i64 (Go.bits .andNot .i64 t1571 (rd l0_1 x12_1)) t1572)] (fun _ => True) (fun _ => False) rfl rfl ?aP (fun _ hk => hk.elim) ?aF ?aO ?aB ?aS ?aL ?_
       (case aP => exact rfl)
       (case aB => exact (zW HB.out GE1567.out GE1568.out GE1569.out))
       (case aF => exact (fun _ _ => trivial))
       (case aO => exact (zP HO_1570001.out))
       (case aS => exact (kP (zW HB.out GE1567.out GE1568.out GE1569.out)))
       (case aL => have := LMc16.out; omega)
       intro v1574 w19 ho hb hg hat
       rw [← Ny1573.out] at ho
       replace BK1567 := zA (blk_grown (g := gb1567) (o := .cells #[.int .i64 a0_0, .slice (some ad1570) l0_1.length c0_1] 28 (0, 0)) (zR BK1567.out) hg (Kd.R_ne HO_1570001.out BK1567.out (by decide)))
       replace BK1568 := zA (blk_grown (g := gb1568) (o := .cells #[.int .i64 0, .slice none 0 0] 28 (0, 0)) (zR BK1568.out) hg (Kd.R_ne HO_1570001.out BK1568.out (by decide)))
       replace BK1569 := zA (blk_grown (g := gb1569) (o := .cells #[.int .i64 a0_0, u1570001] 28 (0, 0)) (zR BK1569.out) hg (Kd.R_ne HO_1570001.out BK1569.out (by decide)))
       replace HB := zA (hb)
       have HO1575 := zA (ho)
       clear HO_1570001 ho hb hg hat
       obtain ⟨Ao20, co20, eo20⟩ := kM HO1575.out
       (first | subst eo20 | (injection eo20 with f1_ f2_ f3_; have f4_ := f1_.symm; have f5_ := f3_.symm; clear f1_ f2_ f3_; subst f4_; subst f5_))
       refine hK.out _ _ ⟨(kV BK1569.out 0).trans rfl, (kV BK1569.out 1).trans rfl, (kV BK1567.out 0).trans rfl, (kV BK1567.out 1).trans rfl⟩ (fun hHeld => ?_)
       clear hK K
       refine norm_ (a' := ?_) ?_ ?_
       rotate_left
       ·show Act.put _ (some 27) _ = _
        simp only [Act.put, zL, zM, zN, i64_w, i32_w]
        rfl
       refine zp 11 (some 28) #[true, true, true, true, true, true, true, true, true, true, true, true, false] HT_.out ?_
       refine last_ (i := 12) (N := none) #[true, true, true, true, true, true, true, true, true, true, true, true, true] rfl rfl (one_of HT_.out (by kernel_rfl)) (by decide) (fun K hK => ?_)
       have hs21 : w19.cell? ⟨gb1569, 1, none⟩ = some (u1570001) := (kV BK1569.out 1).trans rfl
       have hfs21 := jH BK1569.out 1
       have hns21_0 := NB1567_1569.out
       have hns21_1 := NB1568_1569.out
       have hms21_0 := NB1569_1567.out
       have hms21_1 := NB1569_1568.out
       refine skip_ (w1 := ?_) (by rfl) rfl ?_ ?_
       rotate_left
       ·go_simp
        rfl
       refine hK.out _ _ ?_
       clear hK K
       refine done_ (done_of HT_.out (by kernel_rfl)) ?_
       try go_wp2
       go_roundg k1
       case measure => have := HK1.out; omega
       case rel => exact ⟨(wrap64 (x12_1 + 1)), (y1573), (.slice Ao20 y1573.length co20), zs, H', ⟨by have := HK1.out; omega⟩, ⟨by (with_reducible repeat (first | apply zF | apply zG | apply zH)); exact kA (kY (p := ⟨gb1569, 1, none⟩) (kD HO1575.out BK1569.out (by decide)) (fun _ hk => hk.2) (.slice Ao20 y1573.length co20)) (fun _ hk => trivial)⟩, ⟨by (with_reducible repeat (first | refine zJ ?_ _ | refine zK ?_ | refine zI ?_ _)); refine blk_far ?_ NB1567_1569.out _; (with_reducible repeat (first | refine zJ ?_ _ | refine zK ?_ | refine zI ?_ _)); exact BK1567.out⟩, ⟨by (with_reducible repeat (first | refine zJ ?_ _ | refine zK ?_ | refine zI ?_ _)); refine blk_far ?_ NB1568_1569.out _; (with_reducible repeat (first | refine zJ ?_ _ | refine zK ?_ | refine zI ?_ _)); exact BK1568.out⟩, ⟨by (with_reducible repeat (first | refine zJ ?_ _ | refine zK ?_ | refine zI ?_ _)); refine blk_put (cs := #[.int .i64 a0_0, u1570001]) ?_ 1 _ rfl; (with_reducible repeat (first | refine zJ ?_ _ | refine zK ?_ | refine zI ?_ _)); exact BK1569.out⟩, ⟨zW HB.out GE1567.out GE1568.out GE1569.out⟩⟩
      rw [if_neg c16] at H
      exact absurd H (by simp)
     rw [if_neg c13] at H
     exact absurd H (by simp)
    rw [if_neg c12] at H
    exact absurd H (by simp)
   rw [if_neg c11] at H
   have c11b0 : decide (x12_1 < (l0_1.length : Int)) = false := decide_eq_false c11
   clear c11
   simp only [Option.some.injEq, Prod.mk.injEq] at H
   obtain ⟨rfl, rfl⟩ := H
   have hnb22 := NB1569_1567.out
   have hnc22 := NB1567_1569.out
   have hnb23 := NB1569_1568.out
   have hnc23 := NB1568_1569.out
   obtain ⟨hcz24_0, hcz24_1, hfz24_0, hfz24_1⟩ := zB3 BK1569.out
   have hnb25 := NB1568_1567.out
   have hnc25 := NB1567_1568.out
   obtain ⟨hcz26_0, hcz26_1, hfz26_0, hfz26_1⟩ := zB3 BK1568.out
   obtain ⟨Ao27, co27, eo27⟩ := kM HO_1570001.out
   subst eo27
   go_wp2
   refine bodyPost_ret (results_cell_row rfl _ _ gb1568 28 #[.int .i64 a0_0, .slice Ao27 x1570001_1.length co27] (0, 0) _ rfl (zRP BK1568.out) Tryd.underlying28 rfl (by kernel_rfl)) rfl ?_
   exact ⟨_, zr, by (with_reducible repeat (first | apply zF | apply zG | apply zH)); exact kA (kY (p := ⟨gb1568, 1, none⟩) (kY (p := ⟨gb1568, 0, none⟩) (kD HO_1570001.out BK1568.out (by decide)) (fun _ hk => hk.2) (.int .i64 a0_0)) (fun _ hk => hk.2) (.slice Ao27 x1570001_1.length co27)) (fun _ hk => trivial), zW HB.out GE1567.out GE1568.out GE1569.out⟩

/-! ### impl_stepsOf: function 138 -/
def impl_stepsOf.f (k : Nat) (a0_0 : Int) (l0_1 : List Int) : Option (List Int) := (impl_complement.f k a0_0 l0_1).bind fun bt1577 => ((impl_cliques.f k bt1577.2).bind fun bt1581 => (some bt1581.1))

set_option maxHeartbeats 8000000 in
set_option maxRecDepth 100000 in
theorem impl_stepsOf.calls (k : Nat) (a0_0 : Int) (A0_1 : Option Addr) (c0_1 : Nat) (l0_1 : List Int) (r : List Int) (w : World) (hr0_1 : Kd.C (Kd.int .i64) w A0_1 l0_1.length l0_1) (hc0_1 : l0_1.length ≤ c0_1) (hT : TabW w) (h : impl_stepsOf.f k a0_0 l0_1 = some r) :
  Calls Tryd.prog 138 #[.agg #[.int .i64 a0_0, .slice A0_1 l0_1.length c0_1]] w fun e w' => ∃ v0_ : Value, e = .returned (v0_) ∧ Kd.R (Kd.int .i64) 2 w' w.heap.size (fun _ => True) v0_ r ∧ Below w.heap.size w w' := by
 have hu28 := Tryd.underlying28
 have HT := zA hT
 clear hT
 have HR0_1 := zA hr0_1
 have HC0_1 := zA hc0_1
 clear hr0_1 hc0_1
 have HB := zA (kW w.heap.size w)
 have H := h
 unfold impl_stepsOf.f at H
 clear h
 obtain ⟨⟨t1577, t1578⟩, A2, H⟩ := zb H
 try dsimp only at H
 obtain ⟨⟨t1581, t1582⟩, A3, H⟩ := zb H
 try dsimp only at H
 obtain rfl := Option.some.inj H
 go_enter Tryd.func138, Tryd.ntmps138
 go_wp2_with (first | (refine zBE 1 #[.int .i64 a0_0, .slice A0_1 l0_1.length c0_1] 28 ?_; intro gb1576 hg w4 hbox hb; have BK1576 := zA (hbox); have GW1576 := zA (zBH hg HB.out); have GE1576 := zA (zBH hg HB.out); replace HB := zA (kQ (zQ HB.out) hb); clear hb hbox hg; obtain ⟨hcz5_0, hcz5_1, hfz5_0, hfz5_1⟩ := zB3 BK1576.out) | (refine zO (some 7) Tryd.func156 #[.agg #[.int .i64 a0_0, .slice A0_1 l0_1.length c0_1]] ?_; (with_reducible refine (impl_complement.calls k a0_0 _ _ l0_1 t1577 t1578 _ ?side1 ?side2 A2.out).mono ?_); (case side1 => exact zS (kO HR0_1.out HB.out)); (case side2 => exact HC0_1.out); rintro e w6 ⟨v1579, rfl, ho0, hb⟩; refine ⟨_, rfl, ?_⟩; have HO1580 := zA (kI ho0 (kP (zT HB.out GE1576.out))); replace BK1576 := zA (zB1 BK1576.out hb); replace HB := zA (kQ (zT HB.out GE1576.out) hb); (try clear hb); (try clear ho0); obtain ⟨Ao7, co7, eo7⟩ := kM HO1580.out; subst eo7) | (refine zO (some 9) Tryd.func155 #[.slice Ao7 t1578.length co7] ?_; (with_reducible refine (impl_cliques.calls k _ _ t1578 t1581 t1582 _ ?side1 ?side2 ?side3 A3.out).mono ?_); (case side1 => exact zS (kB HO1580.out).2.2); (case side2 => exact (kB HO1580.out).2.1); (case side3 => exact TabW.below HT.out (zT HB.out GE1576.out)); rintro e w8 ⟨v1583, rfl, ho0, hb⟩; refine ⟨_, rfl, ?_⟩; have HO1584 := zA (kI (kF ho0 (kH (zP HO1580.out))) (kP (zT HB.out GE1576.out))); replace HO1580 := zA (kE (zP HO1580.out) (kC ho0) hb); replace BK1576 := zA (zB1 BK1576.out hb); replace HB := zA (kQ (zT HB.out GE1576.out) hb); (try clear hb); (try clear ho0)))
 go_ret
 exact ⟨_, zr, by (with_reducible repeat (first | apply zF | apply zG | apply zH)); exact kA HO1584.out (fun _ hk => trivial), zT HB.out GE1576.out⟩

/-! ### bits_OnesCount64: function 157 -/
def bits_OnesCount64.f (a0 : Int) : Option (Int) := some (Go.bits .and .i64 (wrap64 (IntKind.u64.wrap ((IntKind.u64.wrap ((IntKind.u64.wrap ((Go.bits .and .u64 (IntKind.u64.wrap (((IntKind.u64.wrap ((Go.bits .and .u64 ((IntKind.u64.wrap ((Go.bits .and .u64 (a0 / 2) 6148914691236517205) + (Go.bits .and .u64 a0 6148914691236517205))) / 4) 3689348814741910323) + (Go.bits .and .u64 (IntKind.u64.wrap ((Go.bits .and .u64 (a0 / 2) 6148914691236517205) + (Go.bits .and .u64 a0 6148914691236517205))) 3689348814741910323))) / 16) + (IntKind.u64.wrap ((Go.bits .and .u64 ((IntKind.u64.wrap ((Go.bits .and .u64 (a0 / 2) 6148914691236517205) + (Go.bits .and .u64 a0 6148914691236517205))) / 4) 3689348814741910323) + (Go.bits .and .u64 (IntKind.u64.wrap ((Go.bits .and .u64 (a0 / 2) 6148914691236517205) + (Go.bits .and .u64 a0 6148914691236517205))) 3689348814741910323))))) 1085102592571150095) + ((Go.bits .and .u64 (IntKind.u64.wrap (((IntKind.u64.wrap ((Go.bits .and .u64 ((IntKind.u64.wrap ((Go.bits .and .u64 (a0 / 2) 6148914691236517205) + (Go.bits .and .u64 a0 6148914691236517205))) / 4) 3689348814741910323) + (Go.bits .and .u64 (IntKind.u64.wrap ((Go.bits .and .u64 (a0 / 2) 6148914691236517205) + (Go.bits .and .u64 a0 6148914691236517205))) 3689348814741910323))) / 16) + (IntKind.u64.wrap ((Go.bits .and .u64 ((IntKind.u64.wrap ((Go.bits .and .u64 (a0 / 2) 6148914691236517205) + (Go.bits .and .u64 a0 6148914691236517205))) / 4) 3689348814741910323) + (Go.bits .and .u64 (IntKind.u64.wrap ((Go.bits .and .u64 (a0 / 2) 6148914691236517205) + (Go.bits .and .u64 a0 6148914691236517205))) 3689348814741910323))))) 1085102592571150095) / 256))) + ((IntKind.u64.wrap ((Go.bits .and .u64 (IntKind.u64.wrap (((IntKind.u64.wrap ((Go.bits .and .u64 ((IntKind.u64.wrap ((Go.bits .and .u64 (a0 / 2) 6148914691236517205) + (Go.bits .and .u64 a0 6148914691236517205))) / 4) 3689348814741910323) + (Go.bits .and .u64 (IntKind.u64.wrap ((Go.bits .and .u64 (a0 / 2) 6148914691236517205) + (Go.bits .and .u64 a0 6148914691236517205))) 3689348814741910323))) / 16) + (IntKind.u64.wrap ((Go.bits .and .u64 ((IntKind.u64.wrap ((Go.bits .and .u64 (a0 / 2) 6148914691236517205) + (Go.bits .and .u64 a0 6148914691236517205))) / 4) 3689348814741910323) + (Go.bits .and .u64 (IntKind.u64.wrap ((Go.bits .and .u64 (a0 / 2) 6148914691236517205) + (Go.bits .and .u64 a0 6148914691236517205))) 3689348814741910323))))) 1085102592571150095) + ((Go.bits .and .u64 (IntKind.u64.wrap (((IntKind.u64.wrap ((Go.bits .and .u64 ((IntKind.u64.wrap ((Go.bits .and .u64 (a0 / 2) 6148914691236517205) + (Go.bits .and .u64 a0 6148914691236517205))) / 4) 3689348814741910323) + (Go.bits .and .u64 (IntKind.u64.wrap ((Go.bits .and .u64 (a0 / 2) 6148914691236517205) + (Go.bits .and .u64 a0 6148914691236517205))) 3689348814741910323))) / 16) + (IntKind.u64.wrap ((Go.bits .and .u64 ((IntKind.u64.wrap ((Go.bits .and .u64 (a0 / 2) 6148914691236517205) + (Go.bits .and .u64 a0 6148914691236517205))) / 4) 3689348814741910323) + (Go.bits .and .u64 (IntKind.u64.wrap ((Go.bits .and .u64 (a0 / 2) 6148914691236517205) + (Go.bits .and .u64 a0 6148914691236517205))) 3689348814741910323))))) 1085102592571150095) / 256))) / 65536))) + ((IntKind.u64.wrap ((IntKind.u64.wrap ((Go.bits .and .u64 (IntKind.u64.wrap (((IntKind.u64.wrap ((Go.bits .and .u64 ((IntKind.u64.wrap ((Go.bits .and .u64 (a0 / 2) 6148914691236517205) + (Go.bits .and .u64 a0 6148914691236517205))) / 4) 3689348814741910323) + (Go.bits .and .u64 (IntKind.u64.wrap ((Go.bits .and .u64 (a0 / 2) 6148914691236517205) + (Go.bits .and .u64 a0 6148914691236517205))) 3689348814741910323))) / 16) + (IntKind.u64.wrap ((Go.bits .and .u64 ((IntKind.u64.wrap ((Go.bits .and .u64 (a0 / 2) 6148914691236517205) + (Go.bits .and .u64 a0 6148914691236517205))) / 4) 3689348814741910323) + (Go.bits .and .u64 (IntKind.u64.wrap ((Go.bits .and .u64 (a0 / 2) 6148914691236517205) + (Go.bits .and .u64 a0 6148914691236517205))) 3689348814741910323))))) 1085102592571150095) + ((Go.bits .and .u64 (IntKind.u64.wrap (((IntKind.u64.wrap ((Go.bits .and .u64 ((IntKind.u64.wrap ((Go.bits .and .u64 (a0 / 2) 6148914691236517205) + (Go.bits .and .u64 a0 6148914691236517205))) / 4) 3689348814741910323) + (Go.bits .and .u64 (IntKind.u64.wrap ((Go.bits .and .u64 (a0 / 2) 6148914691236517205) + (Go.bits .and .u64 a0 6148914691236517205))) 3689348814741910323))) / 16) + (IntKind.u64.wrap ((Go.bits .and .u64 ((IntKind.u64.wrap ((Go.bits .and .u64 (a0 / 2) 6148914691236517205) + (Go.bits .and .u64 a0 6148914691236517205))) / 4) 3689348814741910323) + (Go.bits .and .u64 (IntKind.u64.wrap ((Go.bits .and .u64 (a0 / 2) 6148914691236517205) + (Go.bits .and .u64 a0 6148914691236517205))) 3689348814741910323))))) 1085102592571150095) / 256))) + ((IntKind.u64.wrap ((Go.bits .and .u64 (IntKind.u64.wrap (((IntKind.u64.wrap ((Go.bits .and .u64 ((IntKind.u64.wrap ((Go.bits .and .u64 (a0 / 2) 6148914691236517205) + (Go.bits .and .u64 a0 6148914691236517205))) / 4) 3689348814741910323) + (Go.bits .and .u64 (IntKind.u64.wrap ((Go.bits .and .u64 (a0 / 2) 6148914691236517205) + (Go.bits .and .u64 a0 6148914691236517205))) 3689348814741910323))) / 16) + (IntKind.u64.wrap ((Go.bits .and .u64 ((IntKind.u64.wrap ((Go.bits .and .u64 (a0 / 2) 6148914691236517205) + (Go.bits .and .u64 a0 6148914691236517205))) / 4) 3689348814741910323) + (Go.bits .and .u64 (IntKind.u64.wrap ((Go.bits .and .u64 (a0 / 2) 6148914691236517205) + (Go.bits .and .u64 a0 6148914691236517205))) 3689348814741910323))))) 1085102592571150095) + ((Go.bits .and .u64 (IntKind.u64.wrap (((IntKind.u64.wrap ((Go.bits .and .u64 ((IntKind.u64.wrap ((Go.bits .and .u64 (a0 / 2) 6148914691236517205) + (Go.bits .and .u64 a0 6148914691236517205))) / 4) 3689348814741910323) + (Go.bits .and .u64 (IntKind.u64.wrap ((Go.bits .and .u64 (a0 / 2) 6148914691236517205) + (Go.bits .and .u64 a0 6148914691236517205))) 3689348814741910323))) / 16) + (IntKind.u64.wrap ((Go.bits .and .u64 ((IntKind.u64.wrap ((Go.bits .and .u64 (a0 / 2) 6148914691236517205) + (Go.bits .and .u64 a0 6148914691236517205))) / 4) 3689348814741910323) + (Go.bits .and .u64 (IntKind.u64.wrap ((Go.bits .and .u64 (a0 / 2) 6148914691236517205) + (Go.bits .and .u64 a0 6148914691236517205))) 3689348814741910323))))) 1085102592571150095) / 256))) / 65536))) / 4294967296)))) 127)
set_option maxHeartbeats 8000000 in
set_option maxRecDepth 100000 in
theorem bits_OnesCount64.calls (a0 : Int) (r : Int) (w : World) (h : bits_OnesCount64.f a0 = some r) :
  Calls Tryd.prog 157 #[.int .u64 a0] w fun e w' => e = .returned (.int .i64 r) ∧ Drawn0 w w' := by
 have H := h
 unfold bits_OnesCount64.f at H
 clear h
 obtain rfl := Option.some.inj H
 go_enter Tryd.func157, Tryd.ntmps157
 go_wp2
 go_ret
 exact ⟨zs, by repeat (first | exact Drawn0.refl _ | apply Drawn0.step)⟩

/-! ### impl_size: function 139 -/
def impl_size.f (a0 : Int) : Option (Int) := (bits_OnesCount64.f (IntKind.u64.wrap (a0))).bind fun t1585 => (some t1585)
set_option maxHeartbeats 8000000 in
set_option maxRecDepth 100000 in
theorem impl_size.calls (a0 : Int) (r : Int) (w : World) (h : impl_size.f a0 = some r) :
  Calls Tryd.prog 139 #[.int .i64 a0] w fun e w' => e = .returned (.int .i64 r) ∧ Drawn0 w w' := by
 have H := h
 unfold impl_size.f at H
 clear h
 obtain ⟨t1585, A2, H⟩ := zb H
 try dsimp only at H
 obtain rfl := Option.some.inj H
 go_enter Tryd.func139, Tryd.ntmps139
 go_wp2_with (first | (refine zO (some 5) Tryd.func157 #[.int .u64 (IntKind.u64.wrap (a0))] ?_; (with_reducible refine (bits_OnesCount64.calls (IntKind.u64.wrap (a0)) t1585 _ A2.out).mono ?_); rintro e w' ⟨rfl, ⟨nd, rfl⟩⟩; refine ⟨_, rfl, ?_⟩))
 go_ret
 exact ⟨zs, by repeat (first | exact Drawn0.refl _ | apply Drawn0.step)⟩

/-! ### impl_cliquePolynomial: function 98 -/
mutual
def impl_cliquePolynomial.l0 : Nat → List Int → List Int → Int → Int → Option (List Int)
 | 0, _, _, _, _ => none
 | k + 1, x3, x8, x9, x10 => if x10 < x9 then (if 0 ≤ x10 then (if x10 < (x8.length : Int) then (impl_cliquePolynomial.l1 k x3 (rd x8 x10) x8 x9 x10) else (none)) else (none)) else (some x3)
def impl_cliquePolynomial.l1 : Nat → List Int → Int → List Int → Int → Int → Option (List Int)
 | 0, _, _, _, _, _ => none
 | k + 1, x3, x5, x8, x9, x10 => (impl_length_int64.f x3).bind fun t1594 => ((impl_size.f x5).bind fun t1595 => (if t1594 ≤ t1595 then (if x3.length < 17592186044416 then (impl_cliquePolynomial.l1 k (x3 ++ [0]) x5 x8 x9 x10) else (none)) else ((impl_size.f x5).bind fun t1599 => (if 0 ≤ t1599 then (if t1599 < (x3.length : Int) then ((impl_size.f x5).bind fun t1601 => (impl_cliquePolynomial.l0 k (x3.set (t1599 : Int).toNat (wrap64 ((rd x3 t1599) + (wrap64 (1 - (wrap64 (2 * (Int.tmod t1601 2)))))))) x8 x9 (wrap64 (x10 + 1)))) else (none)) else (none)))))
end
def impl_cliquePolynomial.f (k : Nat) (a0_0 : Int) (l0_1 : List Int) : Option (List Int) := (impl_stepsOf.f k a0_0 l0_1).bind fun t1590 => (impl_cliquePolynomial.l0 k (([] : List Int)) t1590 (t1590.length : Int) 0)

def impl_cliquePolynomial.T7 : Bool × List (List Nat × List Nat) := (true, [([], []), ([], []), ([1], [1]), ([0, 2], [0, 2]), ([3], [3]), ([], []), ([5, 2], [5]), ([6], [6]), ([7], [7]), ([8], [8]), ([4, 9], [4, 9]), ([0, 2, 0, 1, 2, 3, 4, 5, 6, 7, 8, 9, 10], [0, 2]), ([11, 10, 6, 0, 1, 2, 3, 4, 5, 6, 7, 8, 9, 10], [10, 11])])
def impl_cliquePolynomial.B7 : List Nat := [0, 0, 2, 7, 15, 0, 38, 102, 230, 486, 1023, 2047, 4095]
theorem impl_cliquePolynomial.tab7 : rtab .any (opsOf Tryd.f98 7) = impl_cliquePolynomial.T7 := by kernel_rfl
theorem impl_cliquePolynomial.bits7 : waitsOk impl_cliquePolynomial.T7.2 impl_cliquePolynomial.B7 = true := by kernel_rfl
set_option maxHeartbeats 8000000 in
set_option maxRecDepth 100000 in
theorem impl_cliquePolynomial.calls (k : Nat) (a0_0 : Int) (A0_1 : Option Addr) (c0_1 : Nat) (l0_1 : List Int) (r : List Int) (w : World) (hr0_1 : Kd.C (Kd.int .i64) w A0_1 l0_1.length l0_1) (hc0_1 : l0_1.length ≤ c0_1) (hT : TabW w) (h : impl_cliquePolynomial.f k a0_0 l0_1 = some r) :
  Calls Tryd.prog 98 #[.agg #[.int .i64 a0_0, .slice A0_1 l0_1.length c0_1]] w fun e w' => ∃ v0_ : Value, e = .returned (v0_) ∧ Kd.R (Kd.int .i64) 2 w' w.heap.size (fun _ => True) v0_ r ∧ Below w.heap.size w w' := by
 have hu28 := Tryd.underlying28
 have HT := zA hT
 clear hT
 have HR0_1 := zA hr0_1
 have HC0_1 := zA hc0_1
 clear hr0_1 hc0_1
 have HB := zA (kW w.heap.size w)
 have H := h
 unfold impl_cliquePolynomial.f at H
 clear h
 obtain ⟨y1587, hy1587⟩ : ∃ y_ : List Int, y_ = (([] : List Int)) := ⟨_, rfl⟩
 replace H : ((impl_stepsOf.f k a0_0 l0_1).bind fun t1590 => (impl_cliquePolynomial.l0 k y1587 t1590 (t1590.length : Int) 0)) = some r := zy hy1587 H
 have Ny1587 := zA hy1587
 clear hy1587
 obtain ⟨t1590, A2, H⟩ := zb H
 try dsimp only at H
 have H' := zA H
 clear H
 go_enter Tryd.func98, Tryd.ntmps98
 go_wp2_with (first | (refine zBE 1 #[.int .i64 a0_0, .slice A0_1 l0_1.length c0_1] 28 ?_; intro gb1586 hg w3 hbox hb; have BK1586 := zA (hbox); have GW1586 := zA (zBH hg HB.out); have GE1586 := zA (zBH hg HB.out); replace HB := zA (kQ (zQ HB.out) hb); clear hb hbox hg) | ((with_reducible refine kS (N := 6) rfl ?_); refine Kd.R_lit (Kd.int .i64) _ 2 ?hg (N := 6) ?hd (xs := ([] : List Int)) (inner := []) (ok := fun _ => True) (okp := fun _ => True) ?hr ?hp (fun _ hk => hk) trivial (kW _ _) (Nat.le_refl _) (by simp) ?_; (case hd => rfl); (case hg => rfl); (case hr => first | (go_simp; done) | (go_simp; rfl)); (case hp => exact (Reps.none _ _)); intro v1588 w4 ho5 hb hg_ hnew_; clear hg_ hnew_; (first | rw [← Ny1587.out] at ho5 | (simp only [Int.reduceToNat] at ho5; rw [← Ny1587.out] at ho5)); have HO1589 := zA (kI ho5 (kP (zT HB.out GE1586.out))); replace BK1586 := zA (zB1 BK1586.out hb); replace HB := zA (kQ (zT HB.out GE1586.out) hb); clear hb ho5; obtain ⟨hcz6_0, hcz6_1, hfz6_0, hfz6_1⟩ := zB3 BK1586.out) | (refine zO (some 8) Tryd.func138 #[.agg #[.int .i64 a0_0, .slice A0_1 l0_1.length c0_1]] ?_; (with_reducible refine (impl_stepsOf.calls k a0_0 _ _ l0_1 t1590 _ ?side1 ?side2 ?side3 A2.out).mono ?_); (case side1 => exact zS (kO HR0_1.out HB.out)); (case side2 => exact HC0_1.out); (case side3 => exact TabW.below HT.out (zT HB.out GE1586.out)); rintro e w7 ⟨v1591, rfl, ho0, hb⟩; refine ⟨_, rfl, ?_⟩; have HO1592 := zA (kI (kF ho0 (kH (zP HO1589.out))) (kP (zT HB.out GE1586.out))); replace HO1589 := zA (kE (zP HO1589.out) (kC ho0) hb); replace BK1586 := zA (zB1 BK1586.out hb); replace HB := zA (kQ (zT HB.out GE1586.out) hb); (try clear hb); (try clear ho0); obtain ⟨Ao8, co8, eo8⟩ := kM HO1592.out; subst eo8))
 go_loopg [3, 10] k (fun kq v3 v10 w' => ∃ (x3_1 : List Int) (x8_1 : List Int) (x10_1 : Int), v10 = .int .i64 x10_1 ∧ Aside0 (impl_cliquePolynomial.l0 kq x3_1 x8_1 (t1590.length : Int) x10_1 = some r) ∧ Aside0 (kq ≤ k) ∧ Aside0 (Kd.R (Kd.int .i64) 2 w' w.heap.size (fun k_ => some k_ ≠ ((.slice Ao8 t1590.length co8) : Value).ownBlock) v3 x3_1) ∧ Aside0 (Kd.R (Kd.int .i64) 2 w' w.heap.size (fun k_ => some k_ ≠ (v3 : Value).ownBlock) (.slice Ao8 t1590.length co8) x8_1) ∧ Aside0 (w'.heap[gb1586]? = some (.cells #[.int .i64 a0_0, (.slice A0_1 l0_1.length c0_1)] 28 (0, 0))) ∧ Aside0 (Below w.heap.size w w'))
 case atStart => exact ⟨(y1587), (t1590), (0), zs, H', ⟨Nat.le_refl _⟩, ⟨zPM HO1589.out (fun _ hk => hk.2)⟩, ⟨zPM HO1592.out (fun _ hk => hk.2)⟩, ⟨zR BK1586.out⟩, ⟨zT HB.out GE1586.out⟩⟩
 case round =>
  clear H'
  try clear c1
  try clear hcz6_0
  try clear hcz6_1
  try clear hfz6_0
  try clear hfz6_1
  obtain ⟨x3_1, x8_1, x10_1, rfl, HA, HK1, HO_3, HO_8, BK1586, HB⟩ := hrel
  have hl8_1 := (kB HO_8.out).1
  rw [hl8_1] at HO_8
  (try simp only [hl8_1])
  (try simp only [hl8_1] at BK1586)
  (try simp only [hl8_1] at HO_3)
  cases gk with
  | zero => exact absurd HA.out (by simp [impl_cliquePolynomial.l0])
  | succ k1 =>
   have H := HA.out
   clear HA
   simp only [impl_cliquePolynomial.l0] at H
   by_cases c9 : x10_1 < (t1590.length : Int)
   ·rw [if_pos c9] at H
    have c9b0 : decide (x10_1 < (t1590.length : Int)) = true := decide_eq_true c9
    (try (have c9b0h0_ := c9b0; rw [hl8_1] at c9b0h0_))
    clear c9
    by_cases c10 : 0 ≤ x10_1
    ·rw [if_pos c10] at H
     have c10b0 : decide (0 ≤ x10_1) = true := decide_eq_true c10
     clear c10
     by_cases c11 : x10_1 < (x8_1.length : Int)
     ·rw [if_pos c11] at H
      have c11b0 : decide (x10_1 < (x8_1.length : Int)) = true := decide_eq_true c11
      (try (have c11b0h0_ := c11b0; rw [hl8_1] at c11b0h0_))
      clear c11
      have H' := zA H
      clear H
      have p1593 : 0 ≤ (x10_1 : Int) := zd
      have q1593 : x10_1 < (x8_1.length : Int) := zd
      obtain ⟨ad1593, e1593, hx1593_0⟩ := Kd.at_int (kB HO_8.out).2.2 x10_1 p1593 q1593
      cases e1593
      replace p1593 := eq_true p1593
      replace q1593 := eq_true q1593
      go_wp2
      go_loopg [3] k1 (fun kq v3 w' => ∃ (x3_2 : List Int), Aside0 (impl_cliquePolynomial.l1 kq x3_2 (rd x8_1 x10_1) x8_1 (t1590.length : Int) x10_1 = some r) ∧ Aside0 (kq ≤ k1) ∧ Aside0 (Kd.R (Kd.int .i64) 2 w' w.heap.size (fun k_ => some k_ ≠ ((.slice (some ad1593) x8_1.length co8) : Value).ownBlock) v3 x3_2) ∧ Aside0 (Kd.R (Kd.int .i64) 2 w' w.heap.size (fun k_ => some k_ ≠ (v3 : Value).ownBlock) (.slice (some ad1593) x8_1.length co8) x8_1) ∧ Aside0 (w'.heap[gb1586]? = some (.cells #[.int .i64 a0_0, (.slice A0_1 l0_1.length c0_1)] 28 (0, 0))) ∧ Aside0 (Below w.heap.size w w'))
      case atStart => exact ⟨(x3_1), H', ⟨Nat.le_refl _⟩, ⟨by (try simp only [hl8_1]); (with_reducible repeat (first | apply zF | apply zG | apply zH)); exact HO_3.out⟩, ⟨by (try simp only [hl8_1]); (with_reducible repeat (first | apply zF | apply zG | apply zH)); exact HO_8.out⟩, ⟨by (try simp only [hl8_1]); (with_reducible repeat (first | refine zJ ?_ _ | refine zK ?_ | refine zI ?_ _)); exact BK1586.out⟩, ⟨zT HB.out GE1586.out⟩⟩
      case round =>
       clear H'
       try clear c1
       try clear hx1
       try clear c9
       try clear c10
       try clear c11
       try clear hcz6_0
       try clear hcz6_1
       try clear hfz6_0
       try clear hfz6_1
       try clear hx1593_0
       obtain ⟨x3_2, HA, HK2, HO_3, HO_8, BK1586, HB⟩ := hrel
       cases gk with
       | zero => exact absurd HA.out (by simp [impl_cliquePolynomial.l1])
       | succ k2 =>
        have H := HA.out
        clear HA
        simp only [impl_cliquePolynomial.l1] at H
        obtain ⟨t1594, A12, H⟩ := zb H
        try dsimp only at H
        obtain ⟨t1595, A13, H⟩ := zb H
        try dsimp only at H
        by_cases c14 : t1594 ≤ t1595
        ·rw [if_pos c14] at H
         have c14b0 : decide (t1594 ≤ t1595) = true := decide_eq_true c14
         clear c14
         by_cases c15 : x3_2.length < 17592186044416
         ·rw [if_pos c15] at H
          have LMc15 := zA c15
          clear c15
          obtain ⟨y1596, hy1596⟩ : ∃ y_ : List Int, y_ = (x3_2 ++ [0]) := ⟨_, rfl⟩
          replace H : (impl_cliquePolynomial.l1 k2 y1596 (rd x8_1 x10_1) x8_1 (t1590.length : Int) x10_1) = some r := zy hy1596 H
          have Ny1596 := zA hy1596
          clear hy1596
          have H' := zA H
          clear H
          obtain ⟨Ao16, co16, eo16⟩ := kM HO_3.out
          subst eo16
          go_wp2_with (first | (refine zO (some 15) Tryd.func68 #[.slice Ao16 x3_2.length co16] ?_; (with_reducible refine (impl_length_int64.calls _ _ x3_2 t1594 _ ?side1 ?side2 A12.out).mono ?_); (case side1 => exact zS (kB HO_3.out).2.2); (case side2 => exact (kB HO_3.out).2.1); rintro e w' ⟨rfl, ⟨nd, rfl⟩⟩; refine ⟨_, rfl, ?_⟩) | (refine zO (some 17) Tryd.func139 #[.int .i64 (rd x8_1 x10_1)] ?_; (with_reducible refine (impl_size.calls (rd x8_1 x10_1) t1595 _ A13.out).mono ?_); rintro e w' ⟨rfl, ⟨nd, rfl⟩⟩; refine ⟨_, rfl, ?_⟩) | ((with_reducible refine gate_builtin (b := .append) (xs := #[.tmp 19, .tmp 20]) rfl ?_); at_builtin; refine Kd.R_append (Kd.int .i64) (w0 := w) w.heap.size rfl (.tmp 19) (.tmp 20) 22 2 (.int .i64 0) 8 rfl Tryd.underlying22 info2 rfl (by decide) (by omega) (.slice Ao16 x3_2.length co16) x3_2 0 [.int .i64 0] (fun k_ => some k_ ≠ (.slice (some ad1593) x8_1.length co8 : Value).ownBlock) (fun _ => False) rfl rfl ?aP (fun _ hk => hk.elim) ?aF ?aO ?aB ?aS ?aL ?_; (case aP => exact rfl); (case aB => exact (zT HB.out GE1586.out)); (case aF => exact (fun k_ hk => jF (kH (zP HO_8.out)) k_ hk)); (case aO => exact (zP HO_3.out)); (case aS => exact (kP (zT HB.out GE1586.out))); (case aL => have := LMc15.out; omega); intro v1597 w17 ho hb hg hat; rw [← Ny1596.out] at ho; replace HO_8 := zA (Kd.R_after (ok := (fun _ => True)) (by (with_reducible repeat (first | apply zF | apply zG | apply zH)); exact kA HO_8.out (fun _ hk => ⟨trivial, hk⟩)) hg hat); replace BK1586 := zA (blk_grown (g := gb1586) (o := .cells #[.int .i64 a0_0, .slice A0_1 l0_1.length c0_1] 28 (0, 0)) (zR BK1586.out) hg (Kd.R_ne HO_3.out BK1586.out (by decide))); replace HB := zA (hb); have HO1598 := zA (ho); clear HO_3; clear ho hb hg hat))
          go_roundg k2
          case measure => have := HK1.out; have := HK2.out; omega
          case rel => exact ⟨(y1596), H', ⟨by have := HK1.out; have := HK2.out; omega⟩, ⟨by (try simp only [hl8_1]); (with_reducible repeat (first | apply zF | apply zG | apply zH)); exact HO1598.out⟩, ⟨by (try simp only [hl8_1]); (with_reducible repeat (first | apply zF | apply zG | apply zH)); exact kA HO_8.out (fun _ hk => hk.2)⟩, ⟨by (try simp only [hl8_1]); (with_reducible repeat (first | refine zJ ?_ _ | refine zK ?_ | refine zI ?_ _)); exact BK1586.out⟩, ⟨zT HB.out GE1586.out⟩⟩
         rw [if_neg c15] at H
         exact absurd H (by simp)
        rw [if_neg c14] at H
        have c14b0 : decide (t1594 ≤ t1595) = false := decide_eq_false c14
        clear c14
        obtain ⟨t1599, A18, H⟩ := zb H
        try dsimp only at H
        by_cases c19 : 0 ≤ t1599
        ·rw [if_pos c19] at H
         have c19b0 : decide (0 ≤ t1599) = true := decide_eq_true c19
         clear c19
         by_cases c20 : t1599 < (x3_2.length : Int)
         ·rw [if_pos c20] at H
          have c20b0 : decide (t1599 < (x3_2.length : Int)) = true := decide_eq_true c20
          (try (have c20b0h0_ := c20b0; rw [hl8_1] at c20b0h0_))
          clear c20
          obtain ⟨t1601, A21, H⟩ := zb H
          try dsimp only at H
          obtain ⟨y1602, hy1602⟩ : ∃ y_ : List Int, y_ = (x3_2.set (t1599 : Int).toNat (wrap64 ((rd x3_2 t1599) + (wrap64 (1 - (wrap64 (2 * (Int.tmod t1601 2)))))))) := ⟨_, rfl⟩
          replace H : (impl_cliquePolynomial.l0 k2 y1602 x8_1 (t1590.length : Int) (wrap64 (x10_1 + 1))) = some r := zy hy1602 H
          have Ny1602 := zA hy1602
          clear hy1602
          have H' := zA H
          clear H
          obtain ⟨Ao23, co23, eo23⟩ := kM HO_3.out
          subst eo23
          try go_wp2_with (first | (refine zO (some 15) Tryd.func68 #[.slice Ao23 x3_2.length co23] ?_; (with_reducible refine (impl_length_int64.calls _ _ x3_2 t1594 _ ?side1 ?side2 A12.out).mono ?_); (case side1 => exact zS (kB HO_3.out).2.2); (case side2 => exact (kB HO_3.out).2.1); rintro e w' ⟨rfl, ⟨nd, rfl⟩⟩; refine ⟨_, rfl, ?_⟩; (try (rw [drewN_self wr]; generalize hq_ : World.drewN wr _ = wr; have n0_ : Aside0 (Kd.R (Kd.int .i64) 2 wr w.heap.size (fun k_ => some k_ ≠ (.slice (some ad1593) x8_1.length co8 : Value).ownBlock) (.slice Ao23 x3_2.length co23) x3_2) := ⟨by rw [← hq_]; exact (zP HO_3.out)⟩; have n1_ : Aside0 (Kd.R (Kd.int .i64) 2 wr w.heap.size (fun k_ => some k_ ≠ (.slice Ao23 x3_2.length co23 : Value).ownBlock) (.slice (some ad1593) x8_1.length co8) x8_1) := ⟨by rw [← hq_]; exact (zP HO_8.out)⟩; have n2_ : Aside0 (wr.heap[gb1586]? = some (.cells #[.int .i64 a0_0, .slice A0_1 l0_1.length c0_1] 28 (0, 0))) := ⟨by rw [← hq_]; exact (zR BK1586.out)⟩; have n3_ : Aside0 (Below w.heap.size w wr) := ⟨by rw [← hq_]; exact (zT HB.out GE1586.out)⟩; clear HO_3 HO_8 BK1586 HB hq_; have HO_3 := n0_; have HO_8 := n1_; have BK1586 := n2_; have HB := n3_; clear n0_ n1_ n2_ n3_))) | (refine zO (some 17) Tryd.func139 #[.int .i64 (rd x8_1 x10_1)] ?_; (with_reducible refine (impl_size.calls (rd x8_1 x10_1) t1595 _ A13.out).mono ?_); rintro e w' ⟨rfl, ⟨nd, rfl⟩⟩; refine ⟨_, rfl, ?_⟩; (try (rw [drewN_self wr]; generalize hq_ : World.drewN wr _ = wr; have n0_ : Aside0 (Kd.R (Kd.int .i64) 2 wr w.heap.size (fun k_ => some k_ ≠ (.slice (some ad1593) x8_1.length co8 : Value).ownBlock) (.slice Ao23 x3_2.length co23) x3_2) := ⟨by rw [← hq_]; exact (zP HO_3.out)⟩; have n1_ : Aside0 (Kd.R (Kd.int .i64) 2 wr w.heap.size (fun k_ => some k_ ≠ (.slice Ao23 x3_2.length co23 : Value).ownBlock) (.slice (some ad1593) x8_1.length co8) x8_1) := ⟨by rw [← hq_]; exact (zP HO_8.out)⟩; have n2_ : Aside0 (wr.heap[gb1586]? = some (.cells #[.int .i64 a0_0, .slice A0_1 l0_1.length c0_1] 28 (0, 0))) := ⟨by rw [← hq_]; exact (zR BK1586.out)⟩; have n3_ : Aside0 (Below w.heap.size w wr) := ⟨by rw [← hq_]; exact (zT HB.out GE1586.out)⟩; clear HO_3 HO_8 BK1586 HB hq_; have HO_3 := n0_; have HO_8 := n1_; have BK1586 := n2_; have HB := n3_; clear n0_ n1_ n2_ n3_))))
          replace HO_3 := zA (zH HO_3.out)
          replace HO_8 := zA (zH HO_8.out)
          replace BK1586 := zA (zK BK1586.out)
          replace HB := zA (zD HB.out)
          have p1600 : 0 ≤ (t1599 : Int) := zd
          have q1600 : t1599 < (x3_2.length : Int) := zd
          obtain ⟨ad1600, e1600, hx1600_0⟩ := Kd.at_int (kB HO_3.out).2.2 t1599 p1600 q1600
          cases e1600
          replace p1600 := eq_true p1600
          replace q1600 := eq_true q1600
          refine start_ (n := 13) (S := fun w' => w'.cell? (ad1600.add (t1599).toNat) = some (.int .i64 (rd x3_2 t1599))) (ds := [12]) #[false, false, false, false, false, false, false, false, false, false, false, false, false] (by kernel_rfl) rfl rfl (hx1600_0) (fun hHeld => ?_); refine with_tabW impl_cliquePolynomial.tab7 impl_cliquePolynomial.bits7 (fun HT_ HW_ => ?_)
          generalize wr.drew = w24 at HO_3 HO_8 BK1586 HB hx1600_0 hHeld ⊢
          refine zp 0 (some 22) #[true, false, false, false, false, false, false, false, false, false, false, false, false] HT_.out ?_
          refine zp 1 (some 23) #[true, true, false, false, false, false, false, false, false, false, false, false, false] HT_.out ?_
          refine zp 5 (some 27) #[true, true, false, false, false, true, false, false, false, false, false, false, false] HT_.out ?_
          refine one_ (i := 2) (N := some 24) #[true, true, true, false, false, true, false, false, false, false, false, false, false] rfl rfl (one_of HT_.out (by kernel_rfl)) (by decide) (fun K hK => ?_)
          refine goes_ Tryd.func139 (by kernel_rfl) rfl #[.int .i64 (rd x8_1 x10_1)] (by rfl) rfl rfl zg ?_
          with_reducible refine (impl_size.calls (rd x8_1 x10_1) t1599 _ A18.out).mono ?_
          rintro e w' ⟨rfl, ⟨nd, rfl⟩⟩
          refine ⟨_, rfl, ?_⟩
          refine hK.out _ _ (hHeld) (fun hHeld => ?_)
          clear hK K
          refine norm_ (a' := ?_) ?_ ?_
          rotate_left
          ·show Act.put _ (some 24) _ = _
           simp only [Act.put, zL, zM, zN, i64_w, i32_w]
           rfl
          refine zp 3 (some 25) #[true, true, true, true, false, true, false, false, false, false, false, false, false] HT_.out ?_
          refine za 4 (some 26) #[true, true, true, true, true, true, false, false, false, false, false, false, false] HT_.out HW_.out hHeld ?_
          refine one_ (i := 6) (N := some 28) #[true, true, true, true, true, true, true, false, false, false, false, false, false] rfl rfl (one_of HT_.out (by kernel_rfl)) (by decide) (fun K hK => ?_)
          refine goes_ Tryd.func139 (by kernel_rfl) rfl #[.int .i64 (rd x8_1 x10_1)] (by rfl) rfl rfl zg ?_
          with_reducible refine (impl_size.calls (rd x8_1 x10_1) t1601 _ A21.out).mono ?_
          rintro e w' ⟨rfl, ⟨nd, rfl⟩⟩
          refine ⟨_, rfl, ?_⟩
          have p22 : 0 ≤ (t1599 : Int) := zd
          have q22 : (t1599 : Int) < ((x3_2.length : Int) : Int) := zd
          obtain ⟨go22, co22, eo22, gb22, gl22, cl22, HG22⟩ := Kd.R_form HO_3.out (by omega)
          (first | cases eo22 | (injection eo22 with ea_ en_ ec_; (first | subst ea_ | (injection ea_ with ea_; subst ea_)); subst ec_; clear en_))
          have GB22 := zA gb22
          have GG22 := zA HG22
          clear gb22 gl22 HG22
          (first | simp only [add_plain] at hx1600_0 | skip)
          obtain ⟨hx22_0, hf22_0⟩ := Kd.R_celln 0 HO_3.out (t1599 : Int) p22 q22
          replace p22 := eq_true p22
          replace q22 := eq_true q22
          have HP25 := Kd.R_putn HO_3.out (t1599 : Int) (wrap64 ((rd x3_2 t1599) + (wrap64 (1 - (wrap64 (2 * (Int.tmod t1601 2)))))))
          rw [← Ny1602.out] at HP25
          have HQ25 := zA HP25
          clear HP25
          refine hK.out _ _ (hHeld) (fun hHeld => ?_)
          clear hK K
          refine norm_ (a' := ?_) ?_ ?_
          rotate_left
          ·show Act.put _ (some 28) _ = _
           simp only [Act.put, zL, zM, zN, i64_w, i32_w]
           rfl
          refine zp 7 (some 29) #[true, true, true, true, true, true, true, true, false, false, false, false, false] HT_.out ?_
          refine zp 8 (some 30) #[true, true, true, true, true, true, true, true, true, false, false, false, false] HT_.out ?_
          refine zp 9 (some 31) #[true, true, true, true, true, true, true, true, true, true, false, false, false] HT_.out ?_
          refine zp 10 (some 32) #[true, true, true, true, true, true, true, true, true, true, true, false, false] HT_.out ?_
          refine zp 11 (some 33) #[true, true, true, true, true, true, true, true, true, true, true, true, false] HT_.out ?_
          refine last_ (i := 12) (N := none) #[true, true, true, true, true, true, true, true, true, true, true, true, true] rfl rfl (one_of HT_.out (by kernel_rfl)) (by decide) (fun K hK => ?_)
          refine skip_ (w1 := ?_) (by rfl) rfl ?_ ?_
          rotate_left
          ·go_simp
           rfl
          refine hK.out _ _ ?_
          clear hK K
          refine done_ (done_of HT_.out (by kernel_rfl)) ?_
          try go_wp2
          (try simp only [← hl8_1])
          go_roundg k2
          case measure => have := HK1.out; have := HK2.out; omega
          case rel => exact ⟨(y1602), (x8_1), (wrap64 (x10_1 + 1)), zs, H', ⟨by have := HK1.out; have := HK2.out; omega⟩, ⟨by (try simp only [hl8_1]); (with_reducible repeat (first | apply zF | apply zG | apply zH)); exact HQ25.out⟩, ⟨by (try simp only [hl8_1]); (with_reducible repeat (first | apply zF | apply zG | apply zH)); exact kA (kY (p := ⟨go22, (t1599 : Int).toNat, none⟩) (kA HO_8.out (fun k_ hk => (⟨hk, fun e_ => hk (by rw [e_]; rfl)⟩ : _ ∧ k_ ≠ go22))) (fun _ hk => hk.2) (.int .i64 (wrap64 ((rd x3_2 t1599) + (wrap64 (1 - (wrap64 (2 * (Int.tmod t1601 2))))))))) (fun _ hk => hk.1)⟩, ⟨by (try simp only [hl8_1]); (with_reducible repeat (first | refine zJ ?_ _ | refine zK ?_ | refine zI ?_ _)); refine blk_far ?_ (by have h_ := Kd.R_ne HO_3.out BK1586.out (by decide); intro e_; exact h_ (by rw [e_]; rfl)) _; (with_reducible repeat (first | refine zJ ?_ _ | refine zK ?_ | refine zI ?_ _)); exact BK1586.out⟩, ⟨zV HB.out GB22.out GE1586.out⟩⟩
         rw [if_neg c20] at H
         exact absurd H (by simp)
        rw [if_neg c19] at H
        exact absurd H (by simp)
     rw [if_neg c11] at H
     exact absurd H (by simp)
    rw [if_neg c10] at H
    exact absurd H (by simp)
   rw [if_neg c9] at H
   have c9b0 : decide (x10_1 < (t1590.length : Int)) = false := decide_eq_false c9
   (try (have c9b0h0_ := c9b0; rw [hl8_1] at c9b0h0_))
   clear c9
   obtain rfl := Option.some.inj H
   go_wp2
   go_ret
   exact ⟨_, zr, by (with_reducible repeat (first | apply zF | apply zG | apply zH)); exact kA HO_3.out (fun _ hk => trivial), zT HB.out GE1586.out⟩

end Go.Proofs.YtfnnnopbcdiibaaDoor.PAll
