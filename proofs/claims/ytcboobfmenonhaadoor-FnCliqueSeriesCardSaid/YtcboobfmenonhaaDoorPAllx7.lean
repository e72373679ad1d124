-- Printed by a program of the session (wip/tools/pgen.py) out of the translation. Not trusted: Lean checks it.
import Derived.Test.YtcboobfmenonhaaDoorPAllx0
import Derived.Test.YtcboobfmenonhaaDoorPAllx1
import Derived.Test.YtcboobfmenonhaaDoorPAllx2
import Derived.Test.YtcboobfmenonhaaDoorPAllx3
import Derived.Test.YtcboobfmenonhaaDoorPAllx6
namespace Go.Proofs.YtcboobfmenonhaaDoor.PAll
open Go.RowKit Go.Proofs.YtcboobfmenonhaaDoor.T Go.Proofs.YtcboobfmenonhaaDoorW.PrintWords Go.Proofs.YtcboobfmenonhaaDoorW.PrintLast Go.Proofs.YtcboobfmenonhaaDoorW.PrintMore
attribute [local go_sem] max2_int min2_int max_two min_two max_three min_three max_four min_four   -- for this text's walks alone
set_option linter.unusedVariables false
set_option linter.unusedSimpArgs false

/-! ### impl_complement: function 80 -/
def impl_complement.l0 : Nat → List Int → Int → Int → Int → List Int → Int → List Int → Option (Int × List Int)
 | 0, _, _, _, _, _, _, _ => none
 | k + 1, x10, x11, x12, x396000, x396001, x398000, x398001 => if x12 < x11 then (if 0 ≤ x12 then (if x12 < (x10.length : Int) then ((impl_allLetters.f x396000 x396001).bind fun t399 => ((impl_one.f x12).bind fun t400 => (if x398001.length < 17592186044416 then (impl_complement.l0 k x10 x11 (wrap64 (x12 + 1)) x396000 x396001 x398000 (x398001 ++ [Go.bits .or .i64 (Go.bits .andNot .i64 t399 (rd x10 x12)) t400])) else (none)))) else (none)) else (none)) else (some (x398000, x398001))
def impl_complement.f (k : Nat) (a0_0 : Int) (l0_1 : List Int) : Option (Int × List Int) := impl_complement.l0 k l0_1 (l0_1.length : Int) 0 a0_0 l0_1 a0_0 ([] : List Int)

def impl_complement.T5 : Bool × List (List Nat × List Nat) := (true, [([], []), ([0], [0]), ([], []), ([2], [2]), ([], []), ([3, 4], [3, 4]), ([], []), ([6, 3], [6]), ([5, 7], [5, 7]), ([8], [8]), ([1, 9, 7], [1, 9]), ([0, 1, 2, 3, 4, 5, 6, 7, 8, 9, 10], []), ([11, 10, 10, 0, 1, 2, 3, 4, 5, 6, 7, 8, 9, 10], [10, 11])])
def impl_complement.B5 : List Nat := [0, 1, 0, 4, 0, 28, 0, 76, 252, 508, 1023, 2047, 4095]
theorem impl_complement.tab5 : rtab .any (opsOf Tryd.f80 5) = impl_complement.T5 := by kernel_rfl
theorem impl_complement.bits5 : waitsOk impl_complement.T5.2 impl_complement.B5 = true := by kernel_rfl
set_option maxHeartbeats 8000000 in
set_option maxRecDepth 100000 in
theorem impl_complement.calls (k : Nat) (a0_0 : Int) (A0_1 : Option Addr) (c0_1 : Nat) (l0_1 : List Int) (r1 : Int) (r2 : List Int) (w : World) (hr0_1 : Kd.C (Kd.int .i64) w A0_1 l0_1.length l0_1) (hc0_1 : l0_1.length ≤ c0_1) (h : impl_complement.f k a0_0 l0_1 = some (r1, r2)) :
  Calls Tryd.prog 80 #[.agg #[.int .i64 a0_0, .slice A0_1 l0_1.length c0_1]] w fun e w' => ∃ v1_ : Value, e = .returned (.agg #[.int .i64 r1, v1_]) ∧ Kd.R (Kd.int .i64) 2 w' w.heap.size (fun _ => True) v1_ r2 ∧ Below w.heap.size w w' := by
 have hu26 := Tryd.underlying26
 have HR0_1 := zA hr0_1
 have HC0_1 := zA hc0_1
 clear hr0_1 hc0_1
 have HB := zA (kW w.heap.size w)
 have H := h
 unfold impl_complement.f at H
 clear h
 have H' := zA H
 clear H
 go_enter Tryd.func80, Tryd.ntmps80
 go_wp2_with (first | (refine zBE 1 #[.int .i64 a0_0, .slice A0_1 l0_1.length c0_1] 26 ?_; intro gb395 hg w2 hbox hb; have BK395 := zA (hbox); have GW395 := zA (zBH hg HB.out); have GE395 := zA (zBH hg HB.out); replace HB := zA (kQ (zQ HB.out) hb); clear hb hbox hg) | (refine zBE 2 #[.int .i64 0, .slice none 0 0] 26 ?_; intro gb396 hg w3 hbox hb; have BK396 := zA (hbox); have GW396 := zA (zB6 hg (kP (zT HB.out GE395.out)) : w.heap.size ≤ gb396); have GE396 := zA (zB6 hg (kP (zT HB.out GE395.out)) : w.heap.size ≤ gb396); replace HB := zA (kQ (zT HB.out GE395.out) hb); have NB395_396 := zA (zB4 hg BK395.out : gb395 ≠ gb396); have NB396_395 := zA (zB5 hg BK395.out : gb396 ≠ gb395); replace BK395 := zA (zB1 BK395.out hb); clear hb hbox hg; have hnb4 := NB395_396.out; have hnc4 := NB396_395.out; obtain ⟨hcz5_0, hcz5_1, hfz5_0, hfz5_1⟩ := zB3 BK395.out) | (refine zBE 3 #[.int .i64 0, .slice none 0 0] 26 ?_; intro gb397 hg w6 hbox hb; have BK397 := zA (hbox); have GW397 := zA (zB6 hg (kP (zV HB.out GE395.out GE396.out)) : w.heap.size ≤ gb397); have GE397 := zA (zB6 hg (kP (zV HB.out GE395.out GE396.out)) : w.heap.size ≤ gb397); replace HB := zA (kQ (zV HB.out GE395.out GE396.out) hb); have NB395_397 := zA (zB4 hg BK395.out : gb395 ≠ gb397); have NB397_395 := zA (zB5 hg BK395.out : gb397 ≠ gb395); replace BK395 := zA (zB1 BK395.out hb); have NB396_397 := zA (zB4 hg BK396.out : gb396 ≠ gb397); have NB397_396 := zA (zB5 hg BK396.out : gb397 ≠ gb396); replace BK396 := zA (zB1 BK396.out hb); clear hb hbox hg; have hnb7 := NB397_395.out; have hnc7 := NB395_397.out; have hnb8 := NB397_396.out; have hnc8 := NB396_397.out; obtain ⟨hcz9_0, hcz9_1, hfz9_0, hfz9_1⟩ := zB3 BK397.out; obtain ⟨hcz10_0, hcz10_1, hfz10_0, hfz10_1⟩ := zB3 BK395.out))
 go_loopg [12] k (fun kq v12 w' => ∃ (x12_1 : Int) (x398001_1 : List Int) (u398001 : Value), v12 = .int .i64 x12_1 ∧ Aside0 (impl_complement.l0 kq l0_1 (l0_1.length : Int) x12_1 a0_0 l0_1 a0_0 x398001_1 = some (r1, r2)) ∧ Aside0 (kq ≤ k) ∧ Aside0 (Kd.R (Kd.int .i64) 2 w' w.heap.size (fun _ => True) u398001 x398001_1) ∧ Aside0 (w'.heap[gb395]? = some (.cells #[.int .i64 a0_0, (.slice A0_1 l0_1.length c0_1)] 26 (0, 0))) ∧ Aside0 (w'.heap[gb396]? = some (.cells #[.int .i64 0, (.slice none 0 0)] 26 (0, 0))) ∧ Aside0 (w'.heap[gb397]? = some (.cells #[.int .i64 a0_0, u398001] 26 (0, 0))) ∧ Aside0 (Below w.heap.size w w'))
 case atStart => exact ⟨(0), (([] : List Int)), (.slice none 0 0), zs, H', ⟨Nat.le_refl _⟩, ⟨zn⟩, ⟨by (with_reducible repeat (first | refine zJ ?_ _ | refine zK ?_ | refine zI ?_ _)); refine blk_far ?_ NB395_397.out _; (with_reducible repeat (first | refine zJ ?_ _ | refine zK ?_ | refine zI ?_ _)); refine blk_far ?_ NB395_397.out _; (with_reducible repeat (first | refine zJ ?_ _ | refine zK ?_ | refine zI ?_ _)); exact BK395.out⟩, ⟨by (with_reducible repeat (first | refine zJ ?_ _ | refine zK ?_ | refine zI ?_ _)); refine blk_far ?_ NB396_397.out _; (with_reducible repeat (first | refine zJ ?_ _ | refine zK ?_ | refine zI ?_ _)); refine blk_far ?_ NB396_397.out _; (with_reducible repeat (first | refine zJ ?_ _ | refine zK ?_ | refine zI ?_ _)); exact BK396.out⟩, ⟨by (with_reducible repeat (first | refine zJ ?_ _ | refine zK ?_ | refine zI ?_ _)); refine blk_put (cs := #[.int .i64 a0_0, .slice none 0 0]) ?_ 1 _ rfl; (with_reducible repeat (first | refine zJ ?_ _ | refine zK ?_ | refine zI ?_ _)); refine blk_put (cs := #[.int .i64 0, .slice none 0 0]) ?_ 0 _ rfl; (with_reducible repeat (first | refine zJ ?_ _ | refine zK ?_ | refine zI ?_ _)); exact BK397.out⟩, ⟨zW HB.out GE395.out GE396.out GE397.out⟩⟩
 case round =>
  clear H'
  try clear c4
  try clear c7
  try clear c8
  try clear hcz10_0
  try clear hcz10_1
  try clear hcz5_0
  try clear hcz5_1
  try clear hcz9_0
  try clear hcz9_1
  try clear hfz10_0
  try clear hfz10_1
  try clear hfz5_0
  try clear hfz5_1
  try clear hfz9_0
  try clear hfz9_1
  obtain ⟨x12_1, x398001_1, u398001, rfl, HA, HK1, HO_398001, BK395, BK396, BK397, HB⟩ := hrel
  cases gk with
  | zero => exact absurd HA.out (by simp [impl_complement.l0])
  | succ k1 =>
   have H := HA.out
   clear HA
   simp only [impl_complement.l0] at H
   by_cases c11 : x12_1 < (l0_1.length : Int)
   ·rw [if_pos c11] at H
    have c11b0 : decide (x12_1 < (l0_1.length : Int)) = true := decide_eq_true c11
    clear c11
    by_cases c12 : 0 ≤ x12_1
    ·rw [if_pos c12] at H
     have c12b0 : decide (0 ≤ x12_1) = true := decide_eq_true c12
     clear c12
     by_cases c13 : x12_1 < (l0_1.length : Int)
     ·rw [if_pos c13] at H
      have c13b0 : decide (x12_1 < (l0_1.length : Int)) = true := decide_eq_true c13
      clear c13
      obtain ⟨t399, A14, H⟩ := zb H
      try dsimp only at H
      obtain ⟨t400, A15, H⟩ := zb H
      try dsimp only at H
      by_cases c16 : x398001_1.length < 17592186044416
      ·rw [if_pos c16] at H
       have LMc16 := zA c16
       clear c16
       obtain ⟨y401, hy401⟩ : ∃ y_ : List Int, y_ = (x398001_1 ++ [Go.bits .or .i64 (Go.bits .andNot .i64 t399 (rd l0_1 x12_1)) t400]) := ⟨_, rfl⟩
       replace H : (impl_complement.l0 k1 l0_1 (l0_1.length : Int) (wrap64 (x12_1 + 1)) a0_0 l0_1 a0_0 y401) = some (r1, r2) := zy hy401 H
       have Ny401 := zA hy401
       clear hy401
       have H' := zA H
       clear H
       have p398 : 0 ≤ (x12_1 : Int) := zd
       have q398 : x12_1 < (l0_1.length : Int) := zd
       obtain ⟨ad398, e398, hx398_0⟩ := Kd.at_int HR0_1.out x12_1 p398 q398
       cases e398
       replace hx398_0 := (HB.out.cell (jG w _ hx398_0)).trans hx398_0
       replace p398 := eq_true p398
       replace q398 := eq_true q398
       try go_wp2
       replace HO_398001 := zA (zH HO_398001.out)
       replace BK395 := zA (zK BK395.out)
       replace BK396 := zA (zK BK396.out)
       replace BK397 := zA (zK BK397.out)
       replace HB := zA (zD HB.out)
       refine start_ (n := 13) (S := fun w' => w'.cell? ⟨gb397, 0, none⟩ = some (.int .i64 a0_0) ∧ w'.cell? ⟨gb397, 1, none⟩ = some (u398001) ∧ w'.cell? ⟨gb395, 0, none⟩ = some (.int .i64 a0_0) ∧ w'.cell? ⟨gb395, 1, none⟩ = some (.slice (some ad398) l0_1.length c0_1)) (ds := [12]) #[false, false, false, false, false, false, false, false, false, false, false, false, false] (by kernel_rfl) rfl rfl ⟨(kV BK397.out 0).trans rfl, (kV BK397.out 1).trans rfl, (kV BK395.out 0).trans rfl, (kV BK395.out 1).trans rfl⟩ (fun hHeld => ?_); refine with_tabW impl_complement.tab5 impl_complement.bits5 (fun HT_ HW_ => ?_)
       generalize wr.drew = w17 at HO_398001 BK395 BK396 BK397 HB hHeld ⊢
       refine zp 0 (some 17) #[true, false, false, false, false, false, false, false, false, false, false, false, false] HT_.out ?_
       refine zp 4 (some 21) #[true, false, false, false, true, false, false, false, false, false, false, false, false] HT_.out ?_
       refine zp 6 (some 23) #[true, false, false, false, true, false, true, false, false, false, false, false, false] HT_.out ?_
       refine zf 1 (some 18) #[true, true, false, false, true, false, true, false, false, false, false, false, false] HT_.out HW_.out hHeld ?_
       refine zf 2 (some 19) #[true, true, true, false, true, false, true, false, false, false, false, false, false] HT_.out HW_.out hHeld ?_
       refine one_ (i := 3) (N := some 20) #[true, true, true, true, true, false, true, false, false, false, false, false, false] rfl rfl (one_of HT_.out (by kernel_rfl)) (by decide) (fun K hK => ?_)
       refine goes_ Tryd.func116 (by kernel_rfl) rfl #[.agg #[.int .i64 a0_0, .slice (some ad398) l0_1.length c0_1]] (by rfl) rfl rfl zg ?_
       with_reducible refine (impl_allLetters.calls a0_0 _ _ l0_1 t399 _ ?side1 ?side2 A14.out).mono ?_
       (case side1 => exact zS (kO HR0_1.out HB.out))
       (case side2 => exact HC0_1.out)
       rintro e w18 ⟨rfl, hb⟩
       refine ⟨_, rfl, ?_⟩
       replace HO_398001 := zA (kL (zP HO_398001.out) hb)
       replace BK395 := zA (zB1 BK395.out hb)
       replace BK396 := zA (zB1 BK396.out hb)
       replace BK397 := zA (zB1 BK397.out hb)
       replace HB := zA (kQ (zW HB.out GE395.out GE396.out GE397.out) hb)
       (try clear hb)
       (try clear hb2)
       (try clear hk)
       (try clear hi)
       (try clear hgw)
       refine hK.out _ _ ⟨(kV BK397.out 0).trans rfl, (kV BK397.out 1).trans rfl, (kV BK395.out 0).trans rfl, (kV BK395.out 1).trans rfl⟩ (fun hHeld => ?_)
       clear hK K
       refine norm_ (a' := ?_) ?_ ?_
       rotate_left
       ·show Act.put _ (some 20) _ = _
        simp only [Act.put, zL, zM, zN, i64_w, i32_w]
        rfl
       refine zp 5 (some 22) #[true, true, true, true, true, true, true, false, false, false, false, false, false] HT_.out ?_
       refine one_ (i := 7) (N := some 24) #[true, true, true, true, true, true, true, true, false, false, false, false, false] rfl rfl (one_of HT_.out (by kernel_rfl)) (by decide) (fun K hK => ?_)
       refine goes_ Tryd.func111 (by kernel_rfl) rfl #[.int .i64 x12_1] (by rfl) rfl rfl zg ?_
       with_reducible refine (impl_one.calls x12_1 t400 _ A15.out).mono ?_
       rintro e w' ⟨rfl, ⟨nd, rfl⟩⟩
       refine ⟨_, rfl, ?_⟩
       refine hK.out _ _ ⟨(kV BK397.out 0).trans rfl, (kV BK397.out 1).trans rfl, (kV BK395.out 0).trans rfl, (kV BK395.out 1).trans rfl⟩ (fun hHeld => ?_)
       clear hK K
       refine norm_ (a' := ?_) ?_ ?_
       rotate_left
       ·show Act.put _ (some 24) _ = _
        simp only [Act.put, zL, zM, zN, i64_w, i32_w]
        rfl
       refine zp 8 (some 25) #[true, true, true, true, true, true, true, true, true, false, false, false, false] HT_.out ?_
       refine one_ (i := 9) (N := some 26) #[true, true, true, true, true, true, true, true, true, true, false, false, false] rfl rfl (one_of HT_.out (by kernel_rfl)) (by decide) (fun K hK => ?_)
       refine value_ (w1 := ?_) (v := ?_) (by rfl) rfl ?_ ?_
       rotate_left 2
       ·go_simp
        constructor
        ·rfl
        rfl
       refine hK.out _ _ ⟨(kV (zI BK397.out _) 0).trans rfl, (kV (zI BK397.out _) 1).trans rfl, (kV (zI BK395.out _) 0).trans rfl, (kV (zI BK395.out _) 1).trans rfl⟩ (fun hHeld => ?_)
       clear hK K
       refine norm_ (a' := ?_) ?_ ?_
       rotate_left
       ·show Act.put _ (some 26) _ = _
        simp only [Act.put, zL, zM, zN, i64_w, i32_w]
        rfl
       refine one_ (i := 10) (N := some 27) #[true, true, true, true, true, true, true, true, true, true, true, false, false] rfl rfl (one_of HT_.out (by kernel_rfl)) (by decide) (fun K hK => ?_)
       refine Kd.R_append_step (Kd.int .i64) (w0 := w) w.heap.size (by rfl) (.tmp 18) (.tmp 26) 24 2 (.int .i64 0) 8 rfl Tryd.underlying24 info2 rfl (by decide) (by omega) u398001 x398001_1 (Go.bits .or .i64 (Go.bits .andNot .i64 t399 (rd l0_1 x12_1)) t400) [.int .i64 (Go.bits .or .i64 (Go.bits .andNot .i64 t399 (rd l0_1 x12_1)) t400)] (fun _ => True) (fun _ => False) rfl rfl ?aP (fun _ hk => hk.elim) ?aF ?aO ?aB ?aS ?aL ?_
       (case aP => exact rfl)
       (case aB => exact (zW HB.out GE395.out GE396.out GE397.out))
       (case aF => exact (fun _ _ => trivial))
       (case aO => exact (zP HO_398001.out))
       (case aS => exact (kP (zW HB.out GE395.out GE396.out GE397.out)))
       (case aL => have := LMc16.out; omega)
       intro v402 w19 ho hb hg hat
       rw [← Ny401.out] at ho
       replace BK395 := zA (blk_grown (g := gb395) (o := .cells #[.int .i64 a0_0, .slice (some ad398) l0_1.length c0_1] 26 (0, 0)) (zR BK395.out) hg (Kd.R_ne HO_398001.out BK395.out (by decide)))
       replace BK396 := zA (blk_grown (g := gb396) (o := .cells #[.int .i64 0, .slice none 0 0] 26 (0, 0)) (zR BK396.out) hg (Kd.R_ne HO_398001.out BK396.out (by decide)))
       replace BK397 := zA (blk_grown (g := gb397) (o := .cells #[.int .i64 a0_0, u398001] 26 (0, 0)) (zR BK397.out) hg (Kd.R_ne HO_398001.out BK397.out (by decide)))
       replace HB := zA (hb)
       have HO403 := zA (ho)
       clear HO_398001 ho hb hg hat
       obtain ⟨Ao20, co20, eo20⟩ := kM HO403.out
       (first | subst eo20 | (injection eo20 with f1_ f2_ f3_; have f4_ := f1_.symm; have f5_ := f3_.symm; clear f1_ f2_ f3_; subst f4_; subst f5_))
       refine hK.out _ _ ⟨(kV BK397.out 0).trans rfl, (kV BK397.out 1).trans rfl, (kV BK395.out 0).trans rfl, (kV BK395.out 1).trans rfl⟩ (fun hHeld => ?_)
       clear hK K
       refine norm_ (a' := ?_) ?_ ?_
       rotate_left
       ·show Act.put _ (some 27) _ = _
        simp only [Act.put, zL, zM, zN, i64_w, i32_w]
        rfl
       refine zp 11 (some 28) #[true, true, true, true, true, true, true, true, true, true, true, true, false] HT_.out ?_
       refine last_ (i := 12) (N := none) #[true, true, true, true, true, true, true, true, true, true, true, true, true] rfl rfl (one_of HT_.out (by kernel_rfl)) (by decide) (fun K hK => ?_)
       have hs21 : w19.cell? ⟨gb397, 1, none⟩ = some (u398001) := (kV BK397.out 1).trans rfl
       have hfs21 := jH BK397.out 1
       have hns21_0 := NB395_397.out
       have hns21_1 := NB396_397.out
       have hms21_0 := NB397_395.out
       have hms21_1 := NB397_396.out
       refine skip_ (w1 := ?_) (by rfl) rfl ?_ ?_
       rotate_left
       ·go_simp
        rfl
       refine hK.out _ _ ?_
       clear hK K
       refine done_ (done_of HT_.out (by kernel_rfl)) ?_
       try go_wp2
       go_roundg k1
       case measure => have := HK1.out; omega
       case rel => exact ⟨(wrap64 (x12_1 + 1)), (y401), (.slice Ao20 y401.length co20), zs, H', ⟨by have := HK1.out; omega⟩, ⟨by (with_reducible repeat (first | apply zF | apply zG | apply zH)); exact kA (kY (p := ⟨gb397, 1, none⟩) (kD HO403.out BK397.out (by decide)) (fun _ hk => hk.2) (.slice Ao20 y401.length co20)) (fun _ hk => trivial)⟩, ⟨by (with_reducible repeat (first | refine zJ ?_ _ | refine zK ?_ | refine zI ?_ _)); refine blk_far ?_ NB395_397.out _; (with_reducible repeat (first | refine zJ ?_ _ | refine zK ?_ | refine zI ?_ _)); exact BK395.out⟩, ⟨by (with_reducible repeat (first | refine zJ ?_ _ | refine zK ?_ | refine zI ?_ _)); refine blk_far ?_ NB396_397.out _; (with_reducible repeat (first | refine zJ ?_ _ | refine zK ?_ | refine zI ?_ _)); exact BK396.out⟩, ⟨by (with_reducible repeat (first | refine zJ ?_ _ | refine zK ?_ | refine zI ?_ _)); refine blk_put (cs := #[.int .i64 a0_0, u398001]) ?_ 1 _ rfl; (with_reducible repeat (first | refine zJ ?_ _ | refine zK ?_ | refine zI ?_ _)); exact BK397.out⟩, ⟨zW HB.out GE395.out GE396.out GE397.out⟩⟩
      rw [if_neg c16] at H
      exact absurd H (by simp)
     rw [if_neg c13] at H
     exact absurd H (by simp)
    rw [if_neg c12] at H
    exact absurd H (by simp)
   rw [if_neg c11] at H
   have c11b0 : decide (x12_1 < (l0_1.length : Int)) = false := decide_eq_false c11
   clear c11
   simp only [Option.some.injEq, Prod.mk.injEq] at H
   obtain ⟨rfl, rfl⟩ := H
   have hnb22 := NB397_395.out
   have hnc22 := NB395_397.out
   have hnb23 := NB397_396.out
   have hnc23 := NB396_397.out
   obtain ⟨hcz24_0, hcz24_1, hfz24_0, hfz24_1⟩ := zB3 BK397.out
   have hnb25 := NB396_395.out
   have hnc25 := NB395_396.out
   obtain ⟨hcz26_0, hcz26_1, hfz26_0, hfz26_1⟩ := zB3 BK396.out
   obtain ⟨Ao27, co27, eo27⟩ := kM HO_398001.out
   subst eo27
   go_wp2
   refine bodyPost_ret (results_cell_row rfl _ _ gb396 26 #[.int .i64 a0_0, .slice Ao27 x398001_1.length co27] (0, 0) _ rfl (zRP BK396.out) Tryd.underlying26 rfl (by kernel_rfl)) rfl ?_
   exact ⟨_, zr, by (with_reducible repeat (first | apply zF | apply zG | apply zH)); exact kA (kY (p := ⟨gb396, 1, none⟩) (kY (p := ⟨gb396, 0, none⟩) (kD HO_398001.out BK396.out (by decide)) (fun _ hk => hk.2) (.int .i64 a0_0)) (fun _ hk => hk.2) (.slice Ao27 x398001_1.length co27)) (fun _ hk => trivial), zW HB.out GE395.out GE396.out GE397.out⟩

/-! ### impl_stepsOf: function 40 -/
def impl_stepsOf.f (k : Nat) (a0_0 : Int) (l0_1 : List Int) : Option (List Int) := (impl_complement.f k a0_0 l0_1).bind fun bt405 => ((impl_cliques.f k bt405.2).bind fun bt409 => (some bt409.1))

set_option maxHeartbeats 8000000 in
set_option maxRecDepth 100000 in
theorem impl_stepsOf.calls (k : Nat) (a0_0 : Int) (A0_1 : Option Addr) (c0_1 : Nat) (l0_1 : List Int) (r : List Int) (w : World) (hr0_1 : Kd.C (Kd.int .i64) w A0_1 l0_1.length l0_1) (hc0_1 : l0_1.length ≤ c0_1) (hT : TabW w) (h : impl_stepsOf.f k a0_0 l0_1 = some r) :
  Calls Tryd.prog 40 #[.agg #[.int .i64 a0_0, .slice A0_1 l0_1.length c0_1]] w fun e w' => ∃ v0_ : Value, e = .returned (v0_) ∧ Kd.R (Kd.int .i64) 2 w' w.heap.size (fun _ => True) v0_ r ∧ Below w.heap.size w w' := by
 have hu26 := Tryd.underlying26
 have HT := zA hT
 clear hT
 have HR0_1 := zA hr0_1
 have HC0_1 := zA hc0_1
 clear hr0_1 hc0_1
 have HB := zA (kW w.heap.size w)
 have H := h
 unfold impl_stepsOf.f at H
 clear h
 obtain ⟨⟨t405, t406⟩, A2, H⟩ := zb H
 try dsimp only at H
 obtain ⟨⟨t409, t410⟩, A3, H⟩ := zb H
 try dsimp only at H
 obtain rfl := Option.some.inj H
 go_enter Tryd.func40, Tryd.ntmps40
 go_wp2_with (first | (refine zBE 1 #[.int .i64 a0_0, .slice A0_1 l0_1.length c0_1] 26 ?_; intro gb404 hg w4 hbox hb; have BK404 := zA (hbox); have GW404 := zA (zBH hg HB.out); have GE404 := zA (zBH hg HB.out); replace HB := zA (kQ (zQ HB.out) hb); clear hb hbox hg; obtain ⟨hcz5_0, hcz5_1, hfz5_0, hfz5_1⟩ := zB3 BK404.out) | (refine zO (some 7) Tryd.func80 #[.agg #[.int .i64 a0_0, .slice A0_1 l0_1.length c0_1]] ?_; (with_reducible refine (impl_complement.calls k a0_0 _ _ l0_1 t405 t406 _ ?side1 ?side2 A2.out).mono ?_); (case side1 => exact zS (kO HR0_1.out HB.out)); (case side2 => exact HC0_1.out); rintro e w6 ⟨v407, rfl, ho0, hb⟩; refine ⟨_, rfl, ?_⟩; have HO408 := zA (kI ho0 (kP (zT HB.out GE404.out))); replace BK404 := zA (zB1 BK404.out hb); replace HB := zA (kQ (zT HB.out GE404.out) hb); (try clear hb); (try clear ho0); obtain ⟨Ao7, co7, eo7⟩ := kM HO408.out; subst eo7) | (refine zO (some 9) Tryd.func79 #[.slice Ao7 t406.length co7] ?_; (with_reducible refine (impl_cliques.calls k _ _ t406 t409 t410 _ ?side1 ?side2 ?side3 A3.out).mono ?_); (case side1 => exact zS (kB HO408.out).2.2); (case side2 => exact (kB HO408.out).2.1); (case side3 => exact TabW.below HT.out (zT HB.out GE404.out)); rintro e w8 ⟨v411, rfl, ho0, hb⟩; refine ⟨_, rfl, ?_⟩; have HO412 := zA (kI (kF ho0 (kH (zP HO408.out))) (kP (zT HB.out GE404.out))); replace HO408 := zA (kE (zP HO408.out) (kC ho0) hb); replace BK404 := zA (zB1 BK404.out hb); replace HB := zA (kQ (zT HB.out GE404.out) hb); (try clear hb); (try clear ho0)))
 go_ret
 exact ⟨_, zr, by (with_reducible repeat (first | apply zF | apply zG | apply zH)); exact kA HO412.out (fun _ hk => trivial), zT HB.out GE404.out⟩

/-! ### bits_OnesCount64: function 112 -/
def bits_OnesCount64.f (a0 : Int) : Option (Int) := some (Go.bits .and .i64 (wrap64 (IntKind.u64.wrap ((IntKind.u64.wrap ((IntKind.u64.wrap ((Go.bits .and .u64 (IntKind.u64.wrap (((IntKind.u64.wrap ((Go.bits .and .u64 ((IntKind.u64.wrap ((Go.bits .and .u64 (a0 / 2) 6148914691236517205) + (Go.bits .and .u64 a0 6148914691236517205))) / 4) 3689348814741910323) + (Go.bits .and .u64 (IntKind.u64.wrap ((Go.bits .and .u64 (a0 / 2) 6148914691236517205) + (Go.bits .and .u64 a0 6148914691236517205))) 3689348814741910323))) / 16) + (IntKind.u64.wrap ((Go.bits .and .u64 ((IntKind.u64.wrap ((Go.bits .and .u64 (a0 / 2) 6148914691236517205) + (Go.bits .and .u64 a0 6148914691236517205))) / 4) 3689348814741910323) + (Go.bits .and .u64 (IntKind.u64.wrap ((Go.bits .and .u64 (a0 / 2) 6148914691236517205) + (Go.bits .and .u64 a0 6148914691236517205))) 3689348814741910323))))) 1085102592571150095) + ((Go.bits .and .u64 (IntKind.u64.wrap (((IntKind.u64.wrap ((Go.bits .and .u64 ((IntKind.u64.wrap ((Go.bits .and .u64 (a0 / 2) 6148914691236517205) + (Go.bits .and .u64 a0 6148914691236517205))) / 4) 3689348814741910323) + (Go.bits .and .u64 (IntKind.u64.wrap ((Go.bits .and .u64 (a0 / 2) 6148914691236517205) + (Go.bits .and .u64 a0 6148914691236517205))) 3689348814741910323))) / 16) + (IntKind.u64.wrap ((Go.bits .and .u64 ((IntKind.u64.wrap ((Go.bits .and .u64 (a0 / 2) 6148914691236517205) + (Go.bits .and .u64 a0 6148914691236517205))) / 4) 3689348814741910323) + (Go.bits .and .u64 (IntKind.u64.wrap ((Go.bits .and .u64 (a0 / 2) 6148914691236517205) + (Go.bits .and .u64 a0 6148914691236517205))) 3689348814741910323))))) 1085102592571150095) / 256))) + ((IntKind.u64.wrap ((Go.bits .and .u64 (IntKind.u64.wrap (((IntKind.u64.wrap ((Go.bits .and .u64 ((IntKind.u64.wrap ((Go.bits .and .u64 (a0 / 2) 6148914691236517205) + (Go.bits .and .u64 a0 6148914691236517205))) / 4) 3689348814741910323) + (Go.bits .and .u64 (IntKind.u64.wrap ((Go.bits .and .u64 (a0 / 2) 6148914691236517205) + (Go.bits .and .u64 a0 6148914691236517205))) 3689348814741910323))) / 16) + (IntKind.u64.wrap ((Go.bits .and .u64 ((IntKind.u64.wrap ((Go.bits .and .u64 (a0 / 2) 6148914691236517205) + (Go.bits .and .u64 a0 6148914691236517205))) / 4) 3689348814741910323) + (Go.bits .and .u64 (IntKind.u64.wrap ((Go.bits .and .u64 (a0 / 2) 6148914691236517205) + (Go.bits .and .u64 a0 6148914691236517205))) 3689348814741910323))))) 1085102592571150095) + ((Go.bits .and .u64 (IntKind.u64.wrap (((IntKind.u64.wrap ((Go.bits .and .u64 ((IntKind.u64.wrap ((Go.bits .and .u64 (a0 / 2) 6148914691236517205) + (Go.bits .and .u64 a0 6148914691236517205))) / 4) 3689348814741910323) + (Go.bits .and .u64 (IntKind.u64.wrap ((Go.bits .and .u64 (a0 / 2) 6148914691236517205) + (Go.bits .and .u64 a0 6148914691236517205))) 3689348814741910323))) / 16) + (IntKind.u64.wrap ((Go.bits .and .u64 ((IntKind.u64.wrap ((Go.bits .and .u64 (a0 / 2) 6148914691236517205) + (Go.bits .and .u64 a0 6148914691236517205))) / 4) 3689348814741910323) + (Go.bits .and .u64 (IntKind.u64.wrap ((Go.bits .and .u64 (a0 / 2) 6148914691236517205) + (Go.bits .and .u64 a0 6148914691236517205))) 3689348814741910323))))) 1085102592571150095) / 256))) / 65536))) + ((IntKind.u64.wrap ((IntKind.u64.wrap ((Go.bits .and .u64 (IntKind.u64.wrap (((IntKind.u64.wrap ((Go.bits .and .u64 ((IntKind.u64.wrap ((Go.bits .and .u64 (a0 / 2) 6148914691236517205) + (Go.bits .and .u64 a0 6148914691236517205))) / 4) 3689348814741910323) + (Go.bits .and .u64 (IntKind.u64.wrap ((Go.bits .and .u64 (a0 / 2) 6148914691236517205) + (Go.bits .and .u64 a0 6148914691236517205))) 3689348814741910323))) / 16) + (IntKind.u64.wrap ((Go.bits .and .u64 ((IntKind.u64.wrap ((Go.bits .and .u64 (a0 / 2) 6148914691236517205) + (Go.bits .and .u64 a0 6148914691236517205))) / 4) 3689348814741910323) + (Go.bits .and .u64 (IntKind.u64.wrap ((Go.bits .and .u64 (a0 / 2) 6148914691236517205) + (Go.bits .and .u64 a0 6148914691236517205))) 3689348814741910323))))) 1085102592571150095) + ((Go.bits .and .u64 (IntKind.u64.wrap (((IntKind.u64.wrap ((Go.bits .and .u64 ((IntKind.u64.wrap ((Go.bits .and .u64 (a0 / 2) 6148914691236517205) + (Go.bits .and .u64 a0 6148914691236517205))) / 4) 3689348814741910323) + (Go.bits .and .u64 (IntKind.u64.wrap ((Go.bits .and .u64 (a0 / 2) 6148914691236517205) + (Go.bits .and .u64 a0 6148914691236517205))) 3689348814741910323))) / 16) + (IntKind.u64.wrap ((Go.bits .and .u64 ((IntKind.u64.wrap ((Go.bits .and .u64 (a0 / 2) 6148914691236517205) + (Go.bits .and .u64 a0 6148914691236517205))) / 4) 3689348814741910323) + (Go.bits .and .u64 (IntKind.u64.wrap ((Go.bits .and .u64 (a0 / 2) 6148914691236517205) + (Go.bits .and .u64 a0 6148914691236517205))) 3689348814741910323))))) 1085102592571150095) / 256))) + ((IntKind.u64.wrap ((Go.bits .and .u64 (IntKind.u64.wrap (((IntKind.u64.wrap ((Go.bits .and .u64 ((IntKind.u64.wrap ((Go.bits .and .u64 (a0 / 2) 6148914691236517205) + (Go.bits .and .u64 a0 6148914691236517205))) / 4) 3689348814741910323) + (Go.bits .and .u64 (IntKind.u64.wrap ((Go.bits .and .u64 (a0 / 2) 6148914691236517205) + (Go.bits .and .u64 a0 6148914691236517205))) 3689348814741910323))) / 16) + (IntKind.u64.wrap ((Go.bits .and .u64 ((IntKind.u64.wrap ((Go.bits .and .u64 (a0 / 2) 6148914691236517205) + (Go.bits .and .u64 a0 6148914691236517205))) / 4) 3689348814741910323) + (Go.bits .and .u64 (IntKind.u64.wrap ((Go.bits .and .u64 (a0 / 2) 6148914691236517205) + (Go.bits .and .u64 a0 6148914691236517205))) 3689348814741910323))))) 1085102592571150095) + ((Go.bits .and .u64 (IntKind.u64.wrap (((IntKind.u64.wrap ((Go.bits .and .u64 ((IntKind.u64.wrap ((Go.bits .and .u64 (a0 / 2) 6148914691236517205) + (Go.bits .and .u64 a0 6148914691236517205))) / 4) 3689348814741910323) + (Go.bits .and .u64 (IntKind.u64.wrap ((Go.bits .and .u64 (a0 / 2) 6148914691236517205) + (Go.bits .and .u64 a0 6148914691236517205))) 3689348814741910323))) / 16) + (IntKind.u64.wrap ((Go.bits .and .u64 ((IntKind.u64.wrap ((Go.bits .and .u64 (a0 / 2) 6148914691236517205) + (Go.bits .and .u64 a0 6148914691236517205))) / 4) 3689348814741910323) + (Go.bits .and .u64 (IntKind.u64.wrap ((Go.bits .and .u64 (a0 / 2) 6148914691236517205) + (Go.bits .and .u64 a0 6148914691236517205))) 3689348814741910323))))) 1085102592571150095) / 256))) / 65536))) / 4294967296)))) 127)
set_option maxHeartbeats 8000000 in
set_option maxRecDepth 100000 in
theorem bits_OnesCount64.calls (a0 : Int) (r : Int) (w : World) (h : bits_OnesCount64.f a0 = some r) :
  Calls Tryd.prog 112 #[.int .u64 a0] w fun e w' => e = .returned (.int .i64 r) ∧ Drawn0 w w' := by
 have H := h
 unfold bits_OnesCount64.f at H
 clear h
 obtain rfl := Option.some.inj H
 go_enter Tryd.func112, Tryd.ntmps112
 go_wp2
 go_ret
 exact ⟨zs, by repeat (first | exact Drawn0.refl _ | apply Drawn0.step)⟩

/-! ### impl_size: function 78 -/
def impl_size.f (a0 : Int) : Option (Int) := (bits_OnesCount64.f (IntKind.u64.wrap (a0))).bind fun t413 => (some t413)
set_option maxHeartbeats 8000000 in
set_option maxRecDepth 100000 in
theorem impl_size.calls (a0 : Int) (r : Int) (w : World) (h : impl_size.f a0 = some r) :
  Calls Tryd.prog 78 #[.int .i64 a0] w fun e w' => e = .returned (.int .i64 r) ∧ Drawn0 w w' := by
 have H := h
 unfold impl_size.f at H
 clear h
 obtain ⟨t413, A2, H⟩ := zb H
 try dsimp only at H
 obtain rfl := Option.some.inj H
 go_enter Tryd.func78, Tryd.ntmps78
 go_wp2_with (first | (refine zO (some 5) Tryd.func112 #[.int .u64 (IntKind.u64.wrap (a0))] ?_; (with_reducible refine (bits_OnesCount64.calls (IntKind.u64.wrap (a0)) t413 _ A2.out).mono ?_); rintro e w' ⟨rfl, ⟨nd, rfl⟩⟩; refine ⟨_, rfl, ?_⟩))
 go_ret
 exact ⟨zs, by repeat (first | exact Drawn0.refl _ | apply Drawn0.step)⟩

/-! ### impl_cliquePolynomial: function 39 -/
mutual
def impl_cliquePolynomial.l0 : Nat → List Int → List Int → Int → Int → Option (List Int)
 | 0, _, _, _, _ => none
 | k + 1, x3, x8, x9, x10 => if x10 < x9 then (if 0 ≤ x10 then (if x10 < (x8.length : Int) then (impl_cliquePolynomial.l1 k x3 (rd x8 x10) x8 x9 x10) else (none)) else (none)) else (some x3)
def impl_cliquePolynomial.l1 : Nat → List Int → Int → List Int → Int → Int → Option (List Int)
 | 0, _, _, _, _, _ => none
 | k + 1, x3, x5, x8, x9, x10 => (impl_length_int64.f x3).bind fun t422 => ((impl_size.f x5).bind fun t423 => (if t422 ≤ t423 then (if x3.length < 17592186044416 then (impl_cliquePolynomial.l1 k (x3 ++ [0]) x5 x8 x9 x10) else (none)) else ((impl_size.f x5).bind fun t427 => (if 0 ≤ t427 then (if t427 < (x3.length : Int) then ((impl_size.f x5).bind fun t429 => (impl_cliquePolynomial.l0 k (x3.set (t427 : Int).toNat (wrap64 ((rd x3 t427) + (wrap64 (1 - (wrap64 (2 * (Int.tmod t429 2)))))))) x8 x9 (wrap64 (x10 + 1)))) else (none)) else (none)))))
end
def impl_cliquePolynomial.f (k : Nat) (a0_0 : Int) (l0_1 : List Int) : Option (List Int) := (impl_stepsOf.f k a0_0 l0_1).bind fun t418 => (impl_cliquePolynomial.l0 k (([] : List Int)) t418 (t418.length : Int) 0)

def impl_cliquePolynomial.T7 : Bool × List (List Nat × List Nat) := (true, [([], []), ([], []), ([1], [1]), ([0, 2], [0, 2]), ([3], [3]), ([], []), ([5, 2], [5]), ([6], [6]), ([7], [7]), ([8], [8]), ([4, 9], [4, 9]), ([0, 2, 0, 1, 2, 3, 4, 5, 6, 7, 8, 9, 10], [0, 2]), ([11, 10, 6, 0, 1, 2, 3, 4, 5, 6, 7, 8, 9, 10], [10, 11])])
def impl_cliquePolynomial.B7 : List Nat := [0, 0, 2, 7, 15, 0, 38, 102, 230, 486, 1023, 2047, 4095]
theorem impl_cliquePolynomial.tab7 : rtab .any (opsOf Tryd.f39 7) = impl_cliquePolynomial.T7 := by kernel_rfl
theorem impl_cliquePolynomial.bits7 : waitsOk impl_cliquePolynomial.T7.2 impl_cliquePolynomial.B7 = true := by kernel_rfl
set_option maxHeartbeats 8000000 in
set_option maxRecDepth 100000 in
theorem impl_cliquePolynomial.calls (k : Nat) (a0_0 : Int) (A0_1 : Option Addr) (c0_1 : Nat) (l0_1 : List Int) (r : List Int) (w : World) (hr0_1 : Kd.C (Kd.int .i64) w A0_1 l0_1.length l0_1) (hc0_1 : l0_1.length ≤ c0_1) (hT : TabW w) (h : impl_cliquePolynomial.f k a0_0 l0_1 = some r) :
  Calls Tryd.prog 39 #[.agg #[.int .i64 a0_0, .slice A0_1 l0_1.length c0_1]] w fun e w' => ∃ v0_ : Value, e = .returned (v0_) ∧ Kd.R (Kd.int .i64) 2 w' w.heap.size (fun _ => True) v0_ r ∧ Below w.heap.size w w' := by
 have hu26 := Tryd.underlying26
 have HT := zA hT
 clear hT
 have HR0_1 := zA hr0_1
 have HC0_1 := zA hc0_1
 clear hr0_1 hc0_1
 have HB := zA (kW w.heap.size w)
 have H := h
 unfold impl_cliquePolynomial.f at H
 clear h
 obtain ⟨y415, hy415⟩ : ∃ y_ : List Int, y_ = (([] : List Int)) := ⟨_, rfl⟩
 replace H : ((impl_stepsOf.f k a0_0 l0_1).bind fun t418 => (impl_cliquePolynomial.l0 k y415 t418 (t418.length : Int) 0)) = some r := zy hy415 H
 have Ny415 := zA hy415
 clear hy415
 obtain ⟨t418, A2, H⟩ := zb H
 try dsimp only at H
 have H' := zA H
 clear H
 go_enter Tryd.func39, Tryd.ntmps39
 go_wp2_with (first | (refine zBE 1 #[.int .i64 a0_0, .slice A0_1 l0_1.length c0_1] 26 ?_; intro gb414 hg w3 hbox hb; have BK414 := zA (hbox); have GW414 := zA (zBH hg HB.out); have GE414 := zA (zBH hg HB.out); replace HB := zA (kQ (zQ HB.out) hb); clear hb hbox hg) | ((with_reducible refine kS (N := 6) rfl ?_); refine Kd.R_lit (Kd.int .i64) _ 2 ?hg (N := 6) ?hd (xs := ([] : List Int)) (inner := []) (ok := fun _ => True) (okp := fun _ => True) ?hr ?hp (fun _ hk => hk) trivial (kW _ _) (Nat.le_refl _) (by simp) ?_; (case hd => rfl); (case hg => rfl); (case hr => first | (go_simp; done) | (go_simp; rfl)); (case hp => exact (Reps.none _ _)); intro v416 w4 ho5 hb hg_ hnew_; clear hg_ hnew_; (first | rw [← Ny415.out] at ho5 | (simp only [Int.reduceToNat] at ho5; rw [← Ny415.out] at ho5)); have HO417 := zA (kI ho5 (kP (zT HB.out GE414.out))); replace BK414 := zA (zB1 BK414.out hb); replace HB := zA (kQ (zT HB.out GE414.out) hb); clear hb ho5; obtain ⟨hcz6_0, hcz6_1, hfz6_0, hfz6_1⟩ := zB3 BK414.out) | (refine zO (some 8) Tryd.func40 #[.agg #[.int .i64 a0_0, .slice A0_1 l0_1.length c0_1]] ?_; (with_reducible refine (impl_stepsOf.calls k a0_0 _ _ l0_1 t418 _ ?side1 ?side2 ?side3 A2.out).mono ?_); (case side1 => exact zS (kO HR0_1.out HB.out)); (case side2 => exact HC0_1.out); (case side3 => exact TabW.below HT.out (zT HB.out GE414.out)); rintro e w7 ⟨v419, rfl, ho0, hb⟩; refine ⟨_, rfl, ?_⟩; have HO420 := zA (kI (kF ho0 (kH (zP HO417.out))) (kP (zT HB.out GE414.out))); replace HO417 := zA (kE (zP HO417.out) (kC ho0) hb); replace BK414 := zA (zB1 BK414.out hb); replace HB := zA (kQ (zT HB.out GE414.out) hb); (try clear hb); (try clear ho0); obtain ⟨Ao8, co8, eo8⟩ := kM HO420.out; subst eo8))
 go_loopg [3, 10] k (fun kq v3 v10 w' => ∃ (x3_1 : List Int) (x8_1 : List Int) (x10_1 : Int), v10 = .int .i64 x10_1 ∧ Aside0 (impl_cliquePolynomial.l0 kq x3_1 x8_1 (t418.length : Int) x10_1 = some r) ∧ Aside0 (kq ≤ k) ∧ Aside0 (Kd.R (Kd.int .i64) 2 w' w.heap.size (fun k_ => some k_ ≠ ((.slice Ao8 t418.length co8) : Value).ownBlock) v3 x3_1) ∧ Aside0 (Kd.R (Kd.int .i64) 2 w' w.heap.size (fun k_ => some k_ ≠ (v3 : Value).ownBlock) (.slice Ao8 t418.length co8) x8_1) ∧ Aside0 (w'.heap[gb414]? = some (.cells #[.int .i64 a0_0, (.slice A0_1 l0_1.length c0_1)] 26 (0, 0))) ∧ Aside0 (Below w.heap.size w w'))
 case atStart => exact ⟨(y415), (t418), (0), zs, H', ⟨Nat.le_refl _⟩, ⟨zPM HO417.out (fun _ hk => hk.2)⟩, ⟨zPM HO420.out (fun _ hk => hk.2)⟩, ⟨zR BK414.out⟩, ⟨zT HB.out GE414.out⟩⟩
 case round =>
  clear H'
  try clear c3
  try clear c4
  try clear hcz6_0
  try clear hcz6_1
  try clear hfz6_0
  try clear hfz6_1
  obtain ⟨x3_1, x8_1, x10_1, rfl, HA, HK1, HO_3, HO_8, BK414, HB⟩ := hrel
  have hl8_1 := (kB HO_8.out).1
  rw [hl8_1] at HO_8
  (try simp only [hl8_1])
  (try simp only [hl8_1] at BK414)
  (try simp only [hl8_1] at HO_3)
  cases gk with
  | zero => exact absurd HA.out (by simp [impl_cliquePolynomial.l0])
  | succ k1 =>
   have H := HA.out
   clear HA
   simp only [impl_cliquePolynomial.l0] at H
   by_cases c9 : x10_1 < (t418.length : Int)
   ·rw [if_pos c9] at H
    have c9b0 : decide (x10_1 < (t418.length : Int)) = true := decide_eq_true c9
    (try (have c9b0h0_ := c9b0; rw [hl8_1] at c9b0h0_))
    clear c9
    by_cases c10 : 0 ≤ x10_1
    ·rw [if_pos c10] at H
     have c10b0 : decide (0 ≤ x10_1) = true := decide_eq_true c10
     clear c10
     by_cases c11 : x10_1 < (x8_1.length : Int)
     ·rw [if_pos c11] at H
      have c11b0 : decide (x10_1 < (x8_1.length : Int)) = true := decide_eq_true c11
      (try (have c11b0h0_ := c11b0; rw [hl8_1] at c11b0h0_))
      clear c11
      have H' := zA H
      clear H
      have p421 : 0 ≤ (x10_1 : Int) := zd
      have q421 : x10_1 < (x8_1.length : Int) := zd
      obtain ⟨ad421, e421, hx421_0⟩ := Kd.at_int (kB HO_8.out).2.2 x10_1 p421 q421
      cases e421
      replace p421 := eq_true p421
      replace q421 := eq_true q421
      go_wp2
      go_loopg [3] k1 (fun kq v3 w' => ∃ (x3_2 : List Int), Aside0 (impl_cliquePolynomial.l1 kq x3_2 (rd x8_1 x10_1) x8_1 (t418.length : Int) x10_1 = some r) ∧ Aside0 (kq ≤ k1) ∧ Aside0 (Kd.R (Kd.int .i64) 2 w' w.heap.size (fun k_ => some k_ ≠ ((.slice (some ad421) x8_1.length co8) : Value).ownBlock) v3 x3_2) ∧ Aside0 (Kd.R (Kd.int .i64) 2 w' w.heap.size (fun k_ => some k_ ≠ (v3 : Value).ownBlock) (.slice (some ad421) x8_1.length co8) x8_1) ∧ Aside0 (w'.heap[gb414]? = some (.cells #[.int .i64 a0_0, (.slice A0_1 l0_1.length c0_1)] 26 (0, 0))) ∧ Aside0 (Below w.heap.size w w'))
      case atStart => exact ⟨(x3_1), H', ⟨Nat.le_refl _⟩, ⟨by (try simp only [hl8_1]); (with_reducible repeat (first | apply zF | apply zG | apply zH)); exact HO_3.out⟩, ⟨by (try simp only [hl8_1]); (with_reducible repeat (first | apply zF | apply zG | apply zH)); exact HO_8.out⟩, ⟨by (try simp only [hl8_1]); (with_reducible repeat (first | refine zJ ?_ _ | refine zK ?_ | refine zI ?_ _)); exact BK414.out⟩, ⟨zT HB.out GE414.out⟩⟩
      case round =>
       clear H'
       try clear c1
       try clear c3
       try clear c4
       try clear hx4
       try clear c9
       try clear c10
       try clear c11
       try clear hcz6_0
       try clear hcz6_1
       try clear hfz6_0
       try clear hfz6_1
       try clear hx421_0
       obtain ⟨x3_2, HA, HK2, HO_3, HO_8, BK414, HB⟩ := hrel
       cases gk with
       | zero => exact absurd HA.out (by simp [impl_cliquePolynomial.l1])
       | succ k2 =>
        have H := HA.out
        clear HA
        simp only [impl_cliquePolynomial.l1] at H
        obtain ⟨t422, A12, H⟩ := zb H
        try dsimp only at H
        obtain ⟨t423, A13, H⟩ := zb H
        try dsimp only at H
        by_cases c14 : t422 ≤ t423
        ·rw [if_pos c14] at H
         have c14b0 : decide (t422 ≤ t423) = true := decide_eq_true c14
         clear c14
         by_cases c15 : x3_2.length < 17592186044416
         ·rw [if_pos c15] at H
          have LMc15 := zA c15
          clear c15
          obtain ⟨y424, hy424⟩ : ∃ y_ : List Int, y_ = (x3_2 ++ [0]) := ⟨_, rfl⟩
          replace H : (impl_cliquePolynomial.l1 k2 y424 (rd x8_1 x10_1) x8_1 (t418.length : Int) x10_1) = some r := zy hy424 H
          have Ny424 := zA hy424
          clear hy424
          have H' := zA H
          clear H
          obtain ⟨Ao16, co16, eo16⟩ := kM HO_3.out
          subst eo16
          go_wp2_with (first | (refine zO (some 15) Tryd.func74 #[.slice Ao16 x3_2.length co16] ?_; (with_reducible refine (impl_length_int64.calls _ _ x3_2 t422 _ ?side1 ?side2 A12.out).mono ?_); (case side1 => exact zS (kB HO_3.out).2.2); (case side2 => exact (kB HO_3.out).2.1); rintro e w' ⟨rfl, ⟨nd, rfl⟩⟩; refine ⟨_, rfl, ?_⟩) | (refine zO (some 17) Tryd.func78 #[.int .i64 (rd x8_1 x10_1)] ?_; (with_reducible refine (impl_size.calls (rd x8_1 x10_1) t423 _ A13.out).mono ?_); rintro e w' ⟨rfl, ⟨nd, rfl⟩⟩; refine ⟨_, rfl, ?_⟩) | ((with_reducible refine gate_builtin (b := .append) (xs := #[.tmp 19, .tmp 20]) rfl ?_); at_builtin; refine Kd.R_append (Kd.int .i64) (w0 := w) w.heap.size rfl (.tmp 19) (.tmp 20) 24 2 (.int .i64 0) 8 rfl Tryd.underlying24 info2 rfl (by decide) (by omega) (.slice Ao16 x3_2.length co16) x3_2 0 [.int .i64 0] (fun k_ => some k_ ≠ (.slice (some ad421) x8_1.length co8 : Value).ownBlock) (fun _ => False) rfl rfl ?aP (fun _ hk => hk.elim) ?aF ?aO ?aB ?aS ?aL ?_; (case aP => exact rfl); (case aB => exact (zT HB.out GE414.out)); (case aF => exact (fun k_ hk => jF (kH (zP HO_8.out)) k_ hk)); (case aO => exact (zP HO_3.out)); (case aS => exact (kP (zT HB.out GE414.out))); (case aL => have := LMc15.out; omega); intro v425 w17 ho hb hg hat; rw [← Ny424.out] at ho; replace HO_8 := zA (Kd.R_after (ok := (fun _ => True)) (by (with_reducible repeat (first | apply zF | apply zG | apply zH)); exact kA HO_8.out (fun _ hk => ⟨trivial, hk⟩)) hg hat); replace BK414 := zA (blk_grown (g := gb414) (o := .cells #[.int .i64 a0_0, .slice A0_1 l0_1.length c0_1] 26 (0, 0)) (zR BK414.out) hg (Kd.R_ne HO_3.out BK414.out (by decide))); replace HB := zA (hb); have HO426 := zA (ho); clear HO_3; clear ho hb hg hat))
          go_roundg k2
          case measure => have := HK1.out; have := HK2.out; omega
          case rel => exact ⟨(y424), H', ⟨by have := HK1.out; have := HK2.out; omega⟩, ⟨by (try simp only [hl8_1]); (with_reducible repeat (first | apply zF | apply zG | apply zH)); exact HO426.out⟩, ⟨by (try simp only [hl8_1]); (with_reducible repeat (first | apply zF | apply zG | apply zH)); exact kA HO_8.out (fun _ hk => hk.2)⟩, ⟨by (try simp only [hl8_1]); (with_reducible repeat (first | refine zJ ?_ _ | refine zK ?_ | refine zI ?_ _)); exact BK414.out⟩, ⟨zT HB.out GE414.out⟩⟩
         rw [if_neg c15] at H
         exact absurd H (by simp)
        rw [if_neg c14] at H
        have c14b0 : decide (t422 ≤ t423) = false := decide_eq_false c14
        clear c14
        obtain ⟨t427, A18, H⟩ := zb H
        try dsimp only at H
        by_cases c19 : 0 ≤ t427
        ·rw [if_pos c19] at H
         have c19b0 : decide (0 ≤ t427) = true := decide_eq_true c19
         clear c19
         by_cases c20 : t427 < (x3_2.length : Int)
         ·rw [if_pos c20] at H
          have c20b0 : decide (t427 < (x3_2.length : Int)) = true := decide_eq_true c20
          (try (have c20b0h0_ := c20b0; rw [hl8_1] at c20b0h0_))
          clear c20
          obtain ⟨t429, A21, H⟩ := zb H
          try dsimp only at H
          obtain ⟨y430, hy430⟩ : ∃ y_ : List Int, y_ = (x3_2.set (t427 : Int).toNat (wrap64 ((rd x3_2 t427) + (wrap64 (1 - (wrap64 (2 * (Int.tmod t429 2)))))))) := ⟨_, rfl⟩
          replace H : (impl_cliquePolynomial.l0 k2 y430 x8_1 (t418.length : Int) (wrap64 (x10_1 + 1))) = some r := zy hy430 H
          have Ny430 := zA hy430
          clear hy430
          have H' := zA H
          clear H
          obtain ⟨Ao23, co23, eo23⟩ := kM HO_3.out
          subst eo23
          try go_wp2_with (first | (refine zO (some 15) Tryd.func74 #[.slice Ao23 x3_2.length co23] ?_; (with_reducible refine (impl_length_int64.calls _ _ x3_2 t422 _ ?side1 ?side2 A12.out).mono ?_); (case side1 => exact zS (kB HO_3.out).2.2); (case side2 => exact (kB HO_3.out).2.1); rintro e w' ⟨rfl, ⟨nd, rfl⟩⟩; refine ⟨_, rfl, ?_⟩; (try (rw [drewN_self wr]; generalize hq_ : World.drewN wr _ = wr; have n0_ : Aside0 (Kd.R (Kd.int .i64) 2 wr w.heap.size (fun k_ => some k_ ≠ (.slice (some ad421) x8_1.length co8 : Value).ownBlock) (.slice Ao23 x3_2.length co23) x3_2) := ⟨by rw [← hq_]; exact (zP HO_3.out)⟩; have n1_ : Aside0 (Kd.R (Kd.int .i64) 2 wr w.heap.size (fun k_ => some k_ ≠ (.slice Ao23 x3_2.length co23 : Value).ownBlock) (.slice (some ad421) x8_1.length co8) x8_1) := ⟨by rw [← hq_]; exact (zP HO_8.out)⟩; have n2_ : Aside0 (wr.heap[gb414]? = some (.cells #[.int .i64 a0_0, .slice A0_1 l0_1.length c0_1] 26 (0, 0))) := ⟨by rw [← hq_]; exact (zR BK414.out)⟩; have n3_ : Aside0 (Below w.heap.size w wr) := ⟨by rw [← hq_]; exact (zT HB.out GE414.out)⟩; clear HO_3 HO_8 BK414 HB hq_; have HO_3 := n0_; have HO_8 := n1_; have BK414 := n2_; have HB := n3_; clear n0_ n1_ n2_ n3_))) | (refine zO (some 17) Tryd.func78 #[.int .i64 (rd x8_1 x10_1)] ?_; (with_reducible refine (impl_size.calls (rd x8_1 x10_1) t423 _ A13.out).mono ?_); rintro e w' ⟨rfl, ⟨nd, rfl⟩⟩; refine ⟨_, rfl, ?_⟩; (try (rw [drewN_self wr]; generalize hq_ : World.drewN wr _ = wr; have n0_ : Aside0 (Kd.R (Kd.int .i64) 2 wr w.heap.size (fun k_ => some k_ ≠ (.slice (some ad421) x8_1.length co8 : Value).ownBlock) (.slice Ao23 x3_2.length co23) x3_2) := ⟨by rw [← hq_]; exact (zP HO_3.out)⟩; have n1_ : Aside0 (Kd.R (Kd.int .i64) 2 wr w.heap.size (fun k_ => some k_ ≠ (.slice Ao23 x3_2.length co23 : Value).ownBlock) (.slice (some ad421) x8_1.length co8) x8_1) := ⟨by rw [← hq_]; exact (zP HO_8.out)⟩; have n2_ : Aside0 (wr.heap[gb414]? = some (.cells #[.int .i64 a0_0, .slice A0_1 l0_1.length c0_1] 26 (0, 0))) := ⟨by rw [← hq_]; exact (zR BK414.out)⟩; have n3_ : Aside0 (Below w.heap.size w wr) := ⟨by rw [← hq_]; exact (zT HB.out GE414.out)⟩; clear HO_3 HO_8 BK414 HB hq_; have HO_3 := n0_; have HO_8 := n1_; have BK414 := n2_; have HB := n3_; clear n0_ n1_ n2_ n3_))))
          replace HO_3 := zA (zH HO_3.out)
          replace HO_8 := zA (zH HO_8.out)
          replace BK414 := zA (zK BK414.out)
          replace HB := zA (zD HB.out)
          have p428 : 0 ≤ (t427 : Int) := zd
          have q428 : t427 < (x3_2.length : Int) := zd
          obtain ⟨ad428, e428, hx428_0⟩ := Kd.at_int (kB HO_3.out).2.2 t427 p428 q428
          cases e428
          replace p428 := eq_true p428
          replace q428 := eq_true q428
          refine start_ (n := 13) (S := fun w' => w'.cell? (ad428.add (t427).toNat) = some (.int .i64 (rd x3_2 t427))) (ds := [12]) #[false, false, false, false, false, false, false, false, false, false, false, false, false] (by kernel_rfl) rfl rfl (hx428_0) (fun hHeld => ?_); refine with_tabW impl_cliquePolynomial.tab7 impl_cliquePolynomial.bits7 (fun HT_ HW_ => ?_)
          generalize wr.drew = w24 at HO_3 HO_8 BK414 HB hx428_0 hHeld ⊢
          refine zp 0 (some 22) #[true, false, false, false, false, false, false, false, false, false, false, false, false] HT_.out ?_
          refine zp 1 (some 23) #[true, true, false, false, false, false, false, false, false, false, false, false, false] HT_.out ?_
          refine zp 5 (some 27) #[true, true, false, false, false, true, false, false, false, false, false, false, false] HT_.out ?_
          refine one_ (i := 2) (N := some 24) #[true, true, true, false, false, true, false, false, false, false, false, false, false] rfl rfl (one_of HT_.out (by kernel_rfl)) (by decide) (fun K hK => ?_)
          refine goes_ Tryd.func78 (by kernel_rfl) rfl #[.int .i64 (rd x8_1 x10_1)] (by rfl) rfl rfl zg ?_
          with_reducible refine (impl_size.calls (rd x8_1 x10_1) t427 _ A18.out).mono ?_
          rintro e w' ⟨rfl, ⟨nd, rfl⟩⟩
          refine ⟨_, rfl, ?_⟩
          refine hK.out _ _ (hHeld) (fun hHeld => ?_)
          clear hK K
          refine norm_ (a' := ?_) ?_ ?_
          rotate_left
          ·show Act.put _ (some 24) _ = _
           simp only [Act.put, zL, zM, zN, i64_w, i32_w]
           rfl
          refine zp 3 (some 25) #[true, true, true, true, false, true, false, false, false, false, false, false, false] HT_.out ?_
          refine za 4 (some 26) #[true, true, true, true, true, true, false, false, false, false, false, false, false] HT_.out HW_.out hHeld ?_
          refine one_ (i := 6) (N := some 28) #[true, true, true, true, true, true, true, false, false, false, false, false, false] rfl rfl (one_of HT_.out (by kernel_rfl)) (by decide) (fun K hK => ?_)
          refine goes_ Tryd.func78 (by kernel_rfl) rfl #[.int .i64 (rd x8_1 x10_1)] (by rfl) rfl rfl zg ?_
          with_reducible refine (impl_size.calls (rd x8_1 x10_1) t429 _ A21.out).mono ?_
          rintro e w' ⟨rfl, ⟨nd, rfl⟩⟩
          refine ⟨_, rfl, ?_⟩
          have p22 : 0 ≤ (t427 : Int) := zd
          have q22 : (t427 : Int) < ((x3_2.length : Int) : Int) := zd
          obtain ⟨go22, co22, eo22, gb22, gl22, cl22, HG22⟩ := Kd.R_form HO_3.out (by omega)
          (first | cases eo22 | (injection eo22 with ea_ en_ ec_; (first | subst ea_ | (injection ea_ with ea_; subst ea_)); subst ec_; clear en_))
          have GB22 := zA gb22
          have GG22 := zA HG22
          clear gb22 gl22 HG22
          (first | simp only [add_plain] at hx428_0 | skip)
          obtain ⟨hx22_0, hf22_0⟩ := Kd.R_celln 0 HO_3.out (t427 : Int) p22 q22
          replace p22 := eq_true p22
          replace q22 := eq_true q22
          have HP25 := Kd.R_putn HO_3.out (t427 : Int) (wrap64 ((rd x3_2 t427) + (wrap64 (1 - (wrap64 (2 * (Int.tmod t429 2)))))))
          rw [← Ny430.out] at HP25
          have HQ25 := zA HP25
          clear HP25
          refine hK.out _ _ (hHeld) (fun hHeld => ?_)
          clear hK K
          refine norm_ (a' := ?_) ?_ ?_
          rotate_left
          ·show Act.put _ (some 28) _ = _
           simp only [Act.put, zL, zM, zN, i64_w, i32_w]
           rfl
          refine zp 7 (some 29) #[true, true, true, true, true, true, true, true, false, false, false, false, false] HT_.out ?_
          refine zp 8 (some 30) #[true, true, true, true, true, true, true, true, true, false, false, false, false] HT_.out ?_
          refine zp 9 (some 31) #[true, true, true, true, true, true, true, true, true, true, false, false, false] HT_.out ?_
          refine zp 10 (some 32) #[true, true, true, true, true, true, true, true, true, true, true, false, false] HT_.out ?_
          refine zp 11 (some 33) #[true, true, true, true, true, true, true, true, true, true, true, true, false] HT_.out ?_
          refine last_ (i := 12) (N := none) #[true, true, true, true, true, true, true, true, true, true, true, true, true] rfl rfl (one_of HT_.out (by kernel_rfl)) (by decide) (fun K hK => ?_)
          refine skip_ (w1 := ?_) (by rfl) rfl ?_ ?_
          rotate_left
          ·go_simp
           rfl
          refine hK.out _ _ ?_
          clear hK K
          refine done_ (done_of HT_.out (by kernel_rfl)) ?_
          try go_wp2
          (try simp only [← hl8_1])
          go_roundg k2
          case measure => have := HK1.out; have := HK2.out; omega
          case rel => exact ⟨(y430), (x8_1), (wrap64 (x10_1 + 1)), zs, H', ⟨by have := HK1.out; have := HK2.out; omega⟩, ⟨by (try simp only [hl8_1]); (with_reducible repeat (first | apply zF | apply zG | apply zH)); exact HQ25.out⟩, ⟨by (try simp only [hl8_1]); (with_reducible repeat (first | apply zF | apply zG | apply zH)); exact kA (kY (p := ⟨go22, (t427 : Int).toNat, none⟩) (kA HO_8.out (fun k_ hk => (⟨hk, fun e_ => hk (by rw [e_]; rfl)⟩ : _ ∧ k_ ≠ go22))) (fun _ hk => hk.2) (.int .i64 (wrap64 ((rd x3_2 t427) + (wrap64 (1 - (wrap64 (2 * (Int.tmod t429 2))))))))) (fun _ hk => hk.1)⟩, ⟨by (try simp only [hl8_1]); (with_reducible repeat (first | refine zJ ?_ _ | refine zK ?_ | refine zI ?_ _)); refine blk_far ?_ (by have h_ := Kd.R_ne HO_3.out BK414.out (by decide); intro e_; exact h_ (by rw [e_]; rfl)) _; (with_reducible repeat (first | refine zJ ?_ _ | refine zK ?_ | refine zI ?_ _)); exact BK414.out⟩, ⟨zV HB.out GB22.out GE414.out⟩⟩
         rw [if_neg c20] at H
         exact absurd H (by simp)
        rw [if_neg c19] at H
        exact absurd H (by simp)
     rw [if_neg c11] at H
     exact absurd H (by simp)
    rw [if_neg c10] at H
    exact absurd H (by simp)
   rw [if_neg c9] at H
   have c9b0 : decide (x10_1 < (t418.length : Int)) = false := decide_eq_false c9
   (try (have c9b0h0_ := c9b0; rw [hl8_1] at c9b0h0_))
   clear c9
   obtain rfl := Option.some.inj H
   go_wp2
   go_ret
   exact ⟨_, zr, by (with_reducible repeat (first | apply zF | apply zG | apply zH)); exact kA HO_3.out (fun _ hk => trivial), zT HB.out GE414.out⟩

/-! ### impl_inverse: function 43 -/
mutual
def impl_inverse.l0 : Nat → List Int → Int → List Int → Int → Option (List Int × Int)
 | 0, _, _, _, _ => none
 | k + 1, x0, x1, x6, x7 => if x7 ≤ x1 then (impl_inverse.l1 k x0 x1 x6 x7 0 0 1) else (some (x6, 0))
def impl_inverse.j2 : Nat → List Int → Int → List Int → Int → Int → Int → Option (List Int × Int)
 | 0, _, _, _, _, _, _ => none
 | k + 1, x0, x1, x6, x7, x8, x9 => if (wrap64 (x8 + (wrap64 (Int.tdiv x9 1000000)))) > 2000000000 then (impl_inverse.j3 k x0 x1 x6 x7 (wrap64 (x8 + (wrap64 (Int.tdiv x9 1000000)))) (Int.tmod x9 1000000) true) else (impl_inverse.j3 k x0 x1 x6 x7 (wrap64 (x8 + (wrap64 (Int.tdiv x9 1000000)))) (Int.tmod x9 1000000) (decide ((wrap64 (x8 + (wrap64 (Int.tdiv x9 1000000)))) < (-2000000000))))
def impl_inverse.j3 : Nat → List Int → Int → List Int → Int → Int → Int → Bool → Option (List Int × Int)
 | 0, _, _, _, _, _, _, _ => none
 | k + 1, x0, x1, x6, x7, x8, x9, x68 => if x68 = true then (some (([] : List Int), 3)) else ((impl_inRange.f (wrap64 ((wrap64 (x8 * 1000000)) + x9)) (-1000000000000000) 1000000000000000).bind fun t439 => (if t439 = true then (if x6.length < 17592186044416 then (impl_inverse.l0 k x0 x1 (x6 ++ [wrap64 ((wrap64 (x8 * 1000000)) + x9)]) (wrap64 (x7 + 1))) else (none)) else (some (([] : List Int), 3))))
def impl_inverse.l1 : Nat → List Int → Int → List Int → Int → Int → Int → Int → Option (List Int × Int)
 | 0, _, _, _, _, _, _, _ => none
 | k + 1, x0, x1, x6, x7, x8, x9, x10 => if x10 ≤ x7 then ((impl_length_int64.f x0).bind fun t434 => (if x10 < t434 then (if 0 ≤ x10 then (if x10 < (x0.length : Int) then (if 0 ≤ (wrap64 (x7 - x10)) then (if (wrap64 (x7 - x10)) < (x6.length : Int) then (impl_inverse.l1 k x0 x1 x6 x7 (wrap64 (x8 - (wrap64 ((rd x0 x10) * (wrap64 (Int.tdiv (rd x6 (wrap64 (x7 - x10))) 1000000)))))) (wrap64 (x9 - (wrap64 ((rd x0 x10) * (Int.tmod (rd x6 (wrap64 (x7 - x10))) 1000000))))) (wrap64 (x10 + 1))) else (none)) else (none)) else (none)) else (none)) else (impl_inverse.j2 k x0 x1 x6 x7 x8 x9))) else (impl_inverse.j2 k x0 x1 x6 x7 x8 x9)
end
def impl_inverse.f (k : Nat) (l0 : List Int) (a1 : Int) : Option (List Int × Int) := impl_inverse.l0 k l0 a1 (([1] : List Int)) 1

set_option maxHeartbeats 8000000 in
set_option maxRecDepth 100000 in
theorem impl_inverse.calls (k : Nat) (A0 : Option Addr) (c0 : Nat) (l0 : List Int) (a1 : Int) (r1 : List Int) (r2 : Int) (w : World) (hr0 : Kd.C (Kd.int .i64) w A0 l0.length l0) (hc0 : l0.length ≤ c0) (h : impl_inverse.f k l0 a1 = some (r1, r2)) :
  Calls Tryd.prog 43 #[.slice A0 l0.length c0, .int .i64 a1] w fun e w' => ∃ v0_ : Value, e = .returned (.tuple #[v0_, .int .i64 r2]) ∧ Kd.R (Kd.int .i64) 2 w' w.heap.size (fun _ => True) v0_ r1 ∧ Below w.heap.size w w' := by
 have HR0 := zA hr0
 have HC0 := zA hc0
 clear hr0 hc0
 have HB := zA (kW w.heap.size w)
 have H := h
 unfold impl_inverse.f at H
 clear h
 obtain ⟨y431, hy431⟩ : ∃ y_ : List Int, y_ = (([1] : List Int)) := ⟨_, rfl⟩
 replace H : (impl_inverse.l0 k l0 a1 y431 1) = some (r1, r2) := zy hy431 H
 have Ny431 := zA hy431
 clear hy431
 have H' := zA H
 clear H
 go_enter Tryd.func43, Tryd.ntmps43
 go_wp2_with (first | ((with_reducible refine kS (N := 12) rfl ?_); refine Kd.R_lit (Kd.int .i64) _ 2 ?hg (N := 12) ?hd (xs := ([1] : List Int)) (inner := [.int .i64 1]) (ok := fun _ => True) (okp := fun _ => True) ?hr ?hp (fun _ hk => hk) trivial (kW _ _) (Nat.le_refl _) (by simp) ?_; (case hd => rfl); (case hg => rfl); (case hr => first | (go_simp; done) | (go_simp; rfl)); (case hp => exact (Reps.one (show Kd.M (Kd.int .i64) _ _ _ 1 [.int .i64 1] from rfl) (Reps.none _ _))); intro v432 w3 ho4 hb hg_ hnew_; clear hg_ hnew_; (first | rw [← Ny431.out] at ho4 | (simp only [Int.reduceToNat] at ho4; rw [← Ny431.out] at ho4)); have HO433 := zA (kI ho4 (kP (zQ HB.out))); replace HB := zA (kQ (zQ HB.out) hb); clear hb ho4))
 repeat (go_quiet (first | ((with_reducible refine kS (N := 12) rfl ?_); refine Kd.R_lit (Kd.int .i64) _ 2 ?hg (N := 12) ?hd (xs := ([1] : List Int)) (inner := [.int .i64 1]) (ok := fun _ => True) (okp := fun _ => True) ?hr ?hp (fun _ hk => hk) trivial (kW _ _) (Nat.le_refl _) (by simp) ?_; (case hd => rfl); (case hg => rfl); (case hr => first | (go_simp; done) | (go_simp; rfl)); (case hp => exact (Reps.one (show Kd.M (Kd.int .i64) _ _ _ 1 [.int .i64 1] from rfl) (Reps.none _ _))); intro v432 w3 ho4 hb hg_ hnew_; clear hg_ hnew_; (first | rw [← Ny431.out] at ho4 | (simp only [Int.reduceToNat] at ho4; rw [← Ny431.out] at ho4)); have n0_ := zA (kI ho4 (kP (zQ HB.out))); have n1_ := zA (kQ (zQ HB.out) hb); clear HB; have HO433 := n0_; have HB := n1_; clear n0_ n1_; clear hb ho4)); try go_wp2_with (first | ((with_reducible refine kS (N := 12) rfl ?_); refine Kd.R_lit (Kd.int .i64) _ 2 ?hg (N := 12) ?hd (xs := ([1] : List Int)) (inner := [.int .i64 1]) (ok := fun _ => True) (okp := fun _ => True) ?hr ?hp (fun _ hk => hk) trivial (kW _ _) (Nat.le_refl _) (by simp) ?_; (case hd => rfl); (case hg => rfl); (case hr => first | (go_simp; done) | (go_simp; rfl)); (case hp => exact (Reps.one (show Kd.M (Kd.int .i64) _ _ _ 1 [.int .i64 1] from rfl) (Reps.none _ _))); intro v432 w3 ho4 hb hg_ hnew_; clear hg_ hnew_; (first | rw [← Ny431.out] at ho4 | (simp only [Int.reduceToNat] at ho4; rw [← Ny431.out] at ho4)); have HO433 := zA (kI ho4 (kP (zQ HB.out))); replace HB := zA (kQ (zQ HB.out) hb); clear hb ho4)))
 go_loopg [6, 7] k (fun kq v6 v7 w' => ∃ (x6_1 : List Int) (x7_1 : Int), v7 = .int .i64 x7_1 ∧ Aside0 (impl_inverse.l0 kq l0 a1 x6_1 x7_1 = some (r1, r2)) ∧ Aside0 (kq ≤ k) ∧ Aside0 (Kd.R (Kd.int .i64) 2 w' w.heap.size (fun _ => True) v6 x6_1) ∧ Aside0 (Below w.heap.size w w'))
 case atStart => exact ⟨(y431), (1), zs, H', ⟨Nat.le_refl _⟩, ⟨zP HO433.out⟩, ⟨zQ HB.out⟩⟩
 case round =>
  clear H'
  try clear c4
  obtain ⟨x6_1, x7_1, rfl, HA, HK1, HO_6, HB⟩ := hrel
  cases gk with
  | zero => exact absurd HA.out (by simp [impl_inverse.l0])
  | succ k1 =>
   have H := HA.out
   clear HA
   simp only [impl_inverse.l0] at H
   by_cases c5 : x7_1 ≤ a1
   ·rw [if_pos c5] at H
    have c5b0 : decide (x7_1 ≤ a1) = true := decide_eq_true c5
    clear c5
    have HC6 := zA H
    clear H
    go_upto_block 2 with (fail)
    repeat (go_quiet (fail); go_upto_block 2 with (fail))
    go_cut [8, 9] (fun v8 v9 wc => ∃ (kq : Nat) (x8_5 : Int) (x9_5 : Int), v8 = .int .i64 x8_5 ∧ v9 = .int .i64 x9_5 ∧ Aside0 (impl_inverse.j2 kq l0 a1 x6_1 x7_1 x8_5 x9_5 = some (r1, r2)) ∧ Aside0 (kq ≤ k1) ∧ Aside0 (Kd.R (Kd.int .i64) 2 wc w.heap.size (fun _ => True) u6 x6_1) ∧ Aside0 (Below w.heap.size w wc))
    case first =>
     have H := HC6.out
     clear HC6
     have H' := zA H
     clear H
     go_wp2
     repeat (go_quiet (fail); try go_wp2)
     go_loopg [8, 9, 10] k1 (fun kq v8 v9 v10 w' => ∃ (x8_2 : Int) (x9_2 : Int) (x10_2 : Int), v8 = .int .i64 x8_2 ∧ v9 = .int .i64 x9_2 ∧ v10 = .int .i64 x10_2 ∧ Aside0 (impl_inverse.l1 kq l0 a1 x6_1 x7_1 x8_2 x9_2 x10_2 = some (r1, r2)) ∧ Aside0 (kq ≤ k1) ∧ Aside0 (Kd.R (Kd.int .i64) 2 w' w.heap.size (fun _ => True) u6 x6_1) ∧ Aside0 (Below w.heap.size w w'))
     case atStart => exact ⟨(0), (0), (1), zs, zs, zs, H', ⟨Nat.le_refl _⟩, ⟨zP HO_6.out⟩, ⟨zQ HB.out⟩⟩
     case round =>
      clear H'
      try clear c4
      try clear c5
      obtain ⟨x8_2, x9_2, x10_2, rfl, rfl, rfl, HA, HK2, HO_6, HB⟩ := hrel
      cases gk with
      | zero => exact absurd HA.out (by simp [impl_inverse.l1])
      | succ k2 =>
       have H := HA.out
       clear HA
       simp only [impl_inverse.l1] at H
       by_cases c7 : x10_2 ≤ x7_1
       ·rw [if_pos c7] at H
        have c7b0 : decide (x10_2 ≤ x7_1) = true := decide_eq_true c7
        clear c7
        (first | rw [c7b0] | (simp only [i64_w, i32_w]; rw [c7b0]) | skip)
        obtain ⟨t434, A8, H⟩ := zb H
        try dsimp only at H
        by_cases c9 : x10_2 < t434
        ·rw [if_pos c9] at H
         have c9b0 : decide (x10_2 < t434) = true := decide_eq_true c9
         clear c9
         by_cases c10 : 0 ≤ x10_2
         ·rw [if_pos c10] at H
          have c10b0 : decide (0 ≤ x10_2) = true := decide_eq_true c10
          clear c10
          by_cases c11 : x10_2 < (l0.length : Int)
          ·rw [if_pos c11] at H
           have c11b0 : decide (x10_2 < (l0.length : Int)) = true := decide_eq_true c11
           clear c11
           obtain ⟨ji12, hji12⟩ : ∃ j_ : Int, (wrap64 (x7_1 - x10_2)) = j_ := ⟨_, rfl⟩
           replace H : (if 0 ≤ (ji12) then (if (ji12) < (x6_1.length : Int) then (impl_inverse.l1 k2 l0 a1 x6_1 x7_1 (wrap64 (x8_2 - (wrap64 ((rd l0 x10_2) * (wrap64 (Int.tdiv (rd x6_1 (ji12)) 1000000)))))) (wrap64 (x9_2 - (wrap64 ((rd l0 x10_2) * (Int.tmod (rd x6_1 (ji12)) 1000000))))) (wrap64 (x10_2 + 1))) else (none)) else (none)) = some (r1, r2) := by first | (rw [hji12] at H; exact H) | (simp only [hji12] at H ⊢; exact H)
           (try rw [hji12] at A8)
           have hji12w : (IntKind.i64.wrap (x7_1 - x10_2)) = ji12 := (i64_w _).trans hji12
           by_cases c13 : 0 ≤ (ji12)
           ·rw [if_pos c13] at H
            have c13b0 : decide (0 ≤ (ji12)) = true := decide_eq_true c13
            clear c13
            by_cases c14 : (ji12) < (x6_1.length : Int)
            ·rw [if_pos c14] at H
             have c14b0 : decide ((ji12) < (x6_1.length : Int)) = true := decide_eq_true c14
             clear c14
             have H' := zA H
             clear H
             go_wp2_with (first | (go_at_call 74; (with_reducible refine (impl_length_int64.calls _ _ l0 t434 _ ?side1 ?side2 A8.out).mono ?_); (case side1 => exact zS (kO HR0.out HB.out)); (case side2 => exact HC0.out); rintro e w' ⟨rfl, ⟨nd, rfl⟩⟩; (try exact zw); have p435 : 0 ≤ (x10_2 : Int) := zd; have q435 : x10_2 < (l0.length : Int) := zd; obtain ⟨ad435, e435, hx435_0⟩ := Kd.at_int HR0.out x10_2 p435 q435; cases e435; replace hx435_0 := (HB.out.cell (jG w _ hx435_0)).trans hx435_0; replace p435 := eq_true p435; replace q435 := eq_true q435; obtain ⟨Ao15, co15, eo15⟩ := kM HO_6.out; subst eo15; have p436 : 0 ≤ ((ji12) : Int) := zd; have q436 : (ji12) < (x6_1.length : Int) := zd; obtain ⟨ad436, e436, hx436_0⟩ := Kd.at_int (kB HO_6.out).2.2 (ji12) p436 q436; cases e436; replace p436 := eq_true p436; replace q436 := eq_true q436; have p437 : 0 ≤ (x10_2 : Int) := zd; have q437 : x10_2 < (l0.length : Int) := zd; obtain ⟨ad437, e437, hx437_0⟩ := Kd.at_int HR0.out x10_2 p437 q437; obtain rfl : ad435 = ad437 := (by injection e437); replace hx437_0 := (HB.out.cell (jG w _ hx437_0)).trans hx437_0; replace p437 := eq_true p437; replace q437 := eq_true q437; have p438 : 0 ≤ ((ji12) : Int) := zd; have q438 : (ji12) < (x6_1.length : Int) := zd; obtain ⟨ad438, e438, hx438_0⟩ := Kd.at_int (kB HO_6.out).2.2 (ji12) p438 q438; obtain rfl : ad436 = ad438 := (by injection e438); replace p438 := eq_true p438; replace q438 := eq_true q438))
             repeat (go_quiet (first | (go_at_call 74; (with_reducible refine (impl_length_int64.calls _ _ l0 t434 _ ?side1 ?side2 A8.out).mono ?_); (case side1 => exact zS (kO HR0.out HB.out)); (case side2 => exact HC0.out); rintro e w' ⟨rfl, ⟨nd, rfl⟩⟩; (try exact zw); have p435 : 0 ≤ (x10_2 : Int) := zd; have q435 : x10_2 < (l0.length : Int) := zd; obtain ⟨ad435, e435, hx435_0⟩ := Kd.at_int HR0.out x10_2 p435 q435; cases e435; replace hx435_0 := (HB.out.cell (jG w _ hx435_0)).trans hx435_0; replace p435 := eq_true p435; replace q435 := eq_true q435; obtain ⟨Ao15, co15, eo15⟩ := kM HO_6.out; subst eo15; have p436 : 0 ≤ ((ji12) : Int) := zd; have q436 : (ji12) < (x6_1.length : Int) := zd; obtain ⟨ad436, e436, hx436_0⟩ := Kd.at_int (kB HO_6.out).2.2 (ji12) p436 q436; cases e436; replace p436 := eq_true p436; replace q436 := eq_true q436; have p437 : 0 ≤ (x10_2 : Int) := zd; have q437 : x10_2 < (l0.length : Int) := zd; obtain ⟨ad437, e437, hx437_0⟩ := Kd.at_int HR0.out x10_2 p437 q437; obtain rfl : ad435 = ad437 := (by injection e437); replace hx437_0 := (HB.out.cell (jG w _ hx437_0)).trans hx437_0; replace p437 := eq_true p437; replace q437 := eq_true q437; have p438 : 0 ≤ ((ji12) : Int) := zd; have q438 : (ji12) < (x6_1.length : Int) := zd; obtain ⟨ad438, e438, hx438_0⟩ := Kd.at_int (kB HO_6.out).2.2 (ji12) p438 q438; obtain rfl : ad436 = ad438 := (by injection e438); replace p438 := eq_true p438; replace q438 := eq_true q438)); try go_wp2_with (first | (go_at_call 74; (with_reducible refine (impl_length_int64.calls _ _ l0 t434 _ ?side1 ?side2 A8.out).mono ?_); (case side1 => exact zS (kO HR0.out HB.out)); (case side2 => exact HC0.out); rintro e w' ⟨rfl, ⟨nd, rfl⟩⟩; (try exact zw); have p435 : 0 ≤ (x10_2 : Int) := zd; have q435 : x10_2 < (l0.length : Int) := zd; obtain ⟨ad435, e435, hx435_0⟩ := Kd.at_int HR0.out x10_2 p435 q435; cases e435; replace hx435_0 := (HB.out.cell (jG w _ hx435_0)).trans hx435_0; replace p435 := eq_true p435; replace q435 := eq_true q435; obtain ⟨Ao15, co15, eo15⟩ := kM HO_6.out; subst eo15; have p436 : 0 ≤ ((ji12) : Int) := zd; have q436 : (ji12) < (x6_1.length : Int) := zd; obtain ⟨ad436, e436, hx436_0⟩ := Kd.at_int (kB HO_6.out).2.2 (ji12) p436 q436; cases e436; replace p436 := eq_true p436; replace q436 := eq_true q436; have p437 : 0 ≤ (x10_2 : Int) := zd; have q437 : x10_2 < (l0.length : Int) := zd; obtain ⟨ad437, e437, hx437_0⟩ := Kd.at_int HR0.out x10_2 p437 q437; obtain rfl : ad435 = ad437 := (by injection e437); replace hx437_0 := (HB.out.cell (jG w _ hx437_0)).trans hx437_0; replace p437 := eq_true p437; replace q437 := eq_true q437; have p438 : 0 ≤ ((ji12) : Int) := zd; have q438 : (ji12) < (x6_1.length : Int) := zd; obtain ⟨ad438, e438, hx438_0⟩ := Kd.at_int (kB HO_6.out).2.2 (ji12) p438 q438; obtain rfl : ad436 = ad438 := (by injection e438); replace p438 := eq_true p438; replace q438 := eq_true q438)))
             go_roundg k2
             case measure => have := HK1.out; have := HK2.out; omega
             case rel => exact ⟨(wrap64 (x8_2 - (wrap64 ((rd l0 x10_2) * (wrap64 (Int.tdiv (rd x6_1 (ji12)) 1000000)))))), (wrap64 (x9_2 - (wrap64 ((rd l0 x10_2) * (Int.tmod (rd x6_1 (ji12)) 1000000))))), (wrap64 (x10_2 + 1)), (by first | rfl | (simp; done) | (simp only [← hji12] <;> (first | rfl | simp)) | (simp [*]; done)), (by first | rfl | (simp; done) | (simp only [← hji12] <;> (first | rfl | simp)) | (simp [*]; done)), zs, H', ⟨by have := HK1.out; have := HK2.out; omega⟩, ⟨zP HO_6.out⟩, ⟨zQ HB.out⟩⟩
            rw [if_neg c14] at H
            exact absurd H (by simp)
           rw [if_neg c13] at H
           exact absurd H (by simp)
          rw [if_neg c11] at H
          exact absurd H (by simp)
         rw [if_neg c10] at H
         exact absurd H (by simp)
        rw [if_neg c9] at H
        have c9b0 : decide (x10_2 < t434) = false := decide_eq_false c9
        clear c9
        have H' := zA H
        clear H
        go_wp2_with (first | (go_at_call 74; (with_reducible refine (impl_length_int64.calls _ _ l0 t434 _ ?side1 ?side2 A8.out).mono ?_); (case side1 => exact zS (kO HR0.out HB.out)); (case side2 => exact HC0.out); rintro e w' ⟨rfl, ⟨nd, rfl⟩⟩; (try exact zw)))
        repeat (go_quiet (first | (go_at_call 74; (with_reducible refine (impl_length_int64.calls _ _ l0 t434 _ ?side1 ?side2 A8.out).mono ?_); (case side1 => exact zS (kO HR0.out HB.out)); (case side2 => exact HC0.out); rintro e w' ⟨rfl, ⟨nd, rfl⟩⟩; (try exact zw))); try go_wp2_with (first | (go_at_call 74; (with_reducible refine (impl_length_int64.calls _ _ l0 t434 _ ?side1 ?side2 A8.out).mono ?_); (case side1 => exact zS (kO HR0.out HB.out)); (case side2 => exact HC0.out); rintro e w' ⟨rfl, ⟨nd, rfl⟩⟩; (try exact zw))))
        go_meet
        case rel => exact ⟨_, (x8_2), (x9_2), zs, zs, H', ⟨by have := HK1.out; have := HK2.out; first | omega | exact Nat.le_refl _⟩, ⟨zP HO_6.out⟩, ⟨zQ HB.out⟩⟩
       rw [if_neg c7] at H
       have c7b0 : decide (x10_2 ≤ x7_1) = false := decide_eq_false c7
       clear c7
       (first | rw [c7b0] | (simp only [i64_w, i32_w]; rw [c7b0]) | skip)
       have H' := zA H
       clear H
       go_wp2
       repeat (go_quiet (fail); try go_wp2)
       go_meet
       case rel => exact ⟨_, (x8_2), (x9_2), zs, zs, H', ⟨by have := HK1.out; have := HK2.out; first | omega | exact Nat.le_refl _⟩, ⟨zP HO_6.out⟩, ⟨zQ HB.out⟩⟩
    case rest =>
     clear HC6
     try clear c1
     try clear c4
     try clear hx4
     try clear c5
     try clear c7
     try clear c9
     try clear c10
     try clear c11
     try clear c13
     try clear c14
     try clear hx435_0
     try clear hx436_0
     try clear hx437_0
     try clear hx438_0
     obtain ⟨kq, x8_5, x9_5, rfl, rfl, HA, HJ5, HO_6, HB⟩ := hcut
     cases kq with
     | zero => exact absurd HA.out (by simp [impl_inverse.j2])
     | succ kj5 =>
      have H := HA.out
      clear HA
      simp only [impl_inverse.j2] at H
      have HC16 := zA H
      clear H
      go_upto_region 13 with (fail)
      repeat (go_quiet (fail); go_upto_region 13 with (fail))
      go_cut [68] (fun v68 wc => ∃ (kq : Nat) (x68_15 : Bool), v68 = .bool x68_15 ∧ Aside0 (impl_inverse.j3 kq l0 a1 x6_1 x7_1 (wrap64 (x8_5 + (wrap64 (Int.tdiv x9_5 1000000)))) (Int.tmod x9_5 1000000) x68_15 = some (r1, r2)) ∧ Aside0 (kq ≤ kj5) ∧ Aside0 (Kd.R (Kd.int .i64) 2 wc w.heap.size (fun _ => True) u6 x6_1) ∧ Aside0 (Below w.heap.size w wc))
      case first =>
       have H := HC16.out
       clear HC16
       by_cases c17 : (wrap64 (x8_5 + (wrap64 (Int.tdiv x9_5 1000000)))) > 2000000000
       ·rw [if_pos c17] at H
        have c17b0 : decide (2000000000 < (wrap64 (x8_5 + (wrap64 (Int.tdiv x9_5 1000000))))) = true := decide_eq_true c17
        clear c17
        (first | rw [c17b0] | (simp only [i64_w, i32_w]; rw [c17b0]) | skip)
        have H' := zA H
        clear H
        go_wp2
        repeat (go_quiet (fail); try go_wp2)
        go_meet
        case rel => exact ⟨_, (true), zs, H', ⟨by have := HK1.out; have := HJ5.out; first | omega | exact Nat.le_refl _⟩, ⟨zP HO_6.out⟩, ⟨zQ HB.out⟩⟩
       rw [if_neg c17] at H
       have c17b0 : decide (2000000000 < (wrap64 (x8_5 + (wrap64 (Int.tdiv x9_5 1000000))))) = false := decide_eq_false c17
       clear c17
       (first | rw [c17b0] | (simp only [i64_w, i32_w]; rw [c17b0]) | skip)
       have H' := zA H
       clear H
       go_wp2
       repeat (go_quiet (fail); try go_wp2)
       go_meet
       case rel => exact ⟨_, (decide ((wrap64 (x8_5 + (wrap64 (Int.tdiv x9_5 1000000)))) < (-2000000000))), zs, H', ⟨by have := HK1.out; have := HJ5.out; first | omega | exact Nat.le_refl _⟩, ⟨zP HO_6.out⟩, ⟨zQ HB.out⟩⟩
      case rest =>
       clear HC16
       try clear c1
       try clear c4
       try clear hx4
       try clear c5
       try clear c7
       try clear c9
       try clear c10
       try clear c11
       try clear c13
       try clear c14
       try clear c17
       try clear hx435_0
       try clear hx436_0
       try clear hx437_0
       try clear hx438_0
       obtain ⟨kq, x68_15, rfl, HA, HJ15, HO_6, HB⟩ := hcut
       cases kq with
       | zero => exact absurd HA.out (by simp [impl_inverse.j3])
       | succ kj15 =>
        have H := HA.out
        clear HA
        simp only [impl_inverse.j3] at H
        by_cases c18 : x68_15 = true
        ·subst c18
         rw [if_pos rfl] at H
         simp only [Option.some.injEq, Prod.mk.injEq] at H
         obtain ⟨rfl, rfl⟩ := H
         go_wp2
         repeat (go_quiet (fail); try go_wp2)
         go_ret2
         exact ⟨_, zr, zn, zQ HB.out⟩
        replace c18 := Bool.eq_false_iff.mpr c18
        subst c18
        rw [if_neg (show ¬ (false = true) by decide)] at H
        obtain ⟨t439, A19, H⟩ := zb H
        try dsimp only at H
        by_cases c20 : t439 = true
        ·subst c20
         rw [if_pos rfl] at H
         by_cases c21 : x6_1.length < 17592186044416
         ·rw [if_pos c21] at H
          have LMc21 := zA c21
          clear c21
          obtain ⟨y440, hy440⟩ : ∃ y_ : List Int, y_ = (x6_1 ++ [wrap64 ((wrap64 ((wrap64 (x8_5 + (wrap64 (Int.tdiv x9_5 1000000)))) * 1000000)) + (Int.tmod x9_5 1000000))]) := ⟨_, rfl⟩
          replace H : (impl_inverse.l0 kj15 l0 a1 y440 (wrap64 (x7_1 + 1))) = some (r1, r2) := zy hy440 H
          have Ny440 := zA hy440
          clear hy440
          have H' := zA H
          clear H
          go_wp2_with (first | (go_at_call 41; (with_reducible refine (impl_inRange.calls (wrap64 ((wrap64 ((wrap64 (x8_5 + (wrap64 (Int.tdiv x9_5 1000000)))) * 1000000)) + (Int.tmod x9_5 1000000))) (-1000000000000000) 1000000000000000 true _ A19.out).mono ?_); rintro e w' ⟨rfl, ⟨nd, rfl⟩⟩; (try exact zw)) | ((with_reducible refine gate_builtin (b := .append) (xs := #[.tmp 76, .tmp 78]) rfl ?_); at_builtin; refine Kd.R_append (Kd.int .i64) (w0 := w) w.heap.size rfl (.tmp 76) (.tmp 78) 24 2 (.int .i64 0) 8 rfl Tryd.underlying24 info2 rfl (by decide) (by omega) u6 x6_1 (wrap64 ((wrap64 ((wrap64 (x8_5 + (wrap64 (Int.tdiv x9_5 1000000)))) * 1000000)) + (Int.tmod x9_5 1000000))) [.int .i64 (wrap64 ((wrap64 ((wrap64 (x8_5 + (wrap64 (Int.tdiv x9_5 1000000)))) * 1000000)) + (Int.tmod x9_5 1000000)))] (fun _ => True) (fun _ => False) rfl rfl ?aP (fun _ hk => hk.elim) ?aF ?aO ?aB ?aS ?aL ?_; (case aP => exact rfl); (case aB => exact (zQ HB.out)); (case aF => exact (fun _ _ => trivial)); (case aO => exact (zP HO_6.out)); (case aS => exact (kP (zQ HB.out))); (case aL => have := LMc21.out; omega); intro v441 w22 ho hb hg hat; rw [← Ny440.out] at ho; replace HB := zA (hb); have HO442 := zA (ho); clear HO_6; clear ho hb hg hat))
          repeat (go_quiet (first | (go_at_call 41; (with_reducible refine (impl_inRange.calls (wrap64 ((wrap64 ((wrap64 (x8_5 + (wrap64 (Int.tdiv x9_5 1000000)))) * 1000000)) + (Int.tmod x9_5 1000000))) (-1000000000000000) 1000000000000000 true _ A19.out).mono ?_); rintro e w' ⟨rfl, ⟨nd, rfl⟩⟩; (try exact zw)) | ((with_reducible refine gate_builtin (b := .append) (xs := #[.tmp 76, .tmp 78]) rfl ?_); at_builtin; refine Kd.R_append (Kd.int .i64) (w0 := w) w.heap.size rfl (.tmp 76) (.tmp 78) 24 2 (.int .i64 0) 8 rfl Tryd.underlying24 info2 rfl (by decide) (by omega) u6 x6_1 (wrap64 ((wrap64 ((wrap64 (x8_5 + (wrap64 (Int.tdiv x9_5 1000000)))) * 1000000)) + (Int.tmod x9_5 1000000))) [.int .i64 (wrap64 ((wrap64 ((wrap64 (x8_5 + (wrap64 (Int.tdiv x9_5 1000000)))) * 1000000)) + (Int.tmod x9_5 1000000)))] (fun _ => True) (fun _ => False) rfl rfl ?aP (fun _ hk => hk.elim) ?aF ?aO ?aB ?aS ?aL ?_; (case aP => exact rfl); (case aB => exact (zQ HB.out)); (case aF => exact (fun _ _ => trivial)); (case aO => exact (zP HO_6.out)); (case aS => exact (kP (zQ HB.out))); (case aL => have := LMc21.out; omega); intro v441 w22 ho hb hg hat; rw [← Ny440.out] at ho; have n0_ := zA (hb); have n1_ := zA (ho); clear HB; clear HO_6; have HB := n0_; have HO442 := n1_; clear n0_ n1_; clear ho hb hg hat)); try go_wp2_with (first | (go_at_call 41; (with_reducible refine (impl_inRange.calls (wrap64 ((wrap64 ((wrap64 (x8_5 + (wrap64 (Int.tdiv x9_5 1000000)))) * 1000000)) + (Int.tmod x9_5 1000000))) (-1000000000000000) 1000000000000000 true _ A19.out).mono ?_); rintro e w' ⟨rfl, ⟨nd, rfl⟩⟩; (try exact zw)) | ((with_reducible refine gate_builtin (b := .append) (xs := #[.tmp 76, .tmp 78]) rfl ?_); at_builtin; refine Kd.R_append (Kd.int .i64) (w0 := w) w.heap.size rfl (.tmp 76) (.tmp 78) 24 2 (.int .i64 0) 8 rfl Tryd.underlying24 info2 rfl (by decide) (by omega) u6 x6_1 (wrap64 ((wrap64 ((wrap64 (x8_5 + (wrap64 (Int.tdiv x9_5 1000000)))) * 1000000)) + (Int.tmod x9_5 1000000))) [.int .i64 (wrap64 ((wrap64 ((wrap64 (x8_5 + (wrap64 (Int.tdiv x9_5 1000000)))) * 1000000)) + (Int.tmod x9_5 1000000)))] (fun _ => True) (fun _ => False) rfl rfl ?aP (fun _ hk => hk.elim) ?aF ?aO ?aB ?aS ?aL ?_; (case aP => exact rfl); (case aB => exact (zQ HB.out)); (case aF => exact (fun _ _ => trivial)); (case aO => exact (zP HO_6.out)); (case aS => exact (kP (zQ HB.out))); (case aL => have := LMc21.out; omega); intro v441 w22 ho hb hg hat; rw [← Ny440.out] at ho; replace HB := zA (hb); have HO442 := zA (ho); clear HO_6; clear ho hb hg hat)))
          go_roundg kj15
          case measure => have := HK1.out; have := HJ5.out; have := HJ15.out; omega
          case rel => exact ⟨(y440), (wrap64 (x7_1 + 1)), zs, H', ⟨by have := HK1.out; have := HJ5.out; have := HJ15.out; omega⟩, ⟨zP HO442.out⟩, ⟨zQ HB.out⟩⟩
         rw [if_neg c21] at H
         exact absurd H (by simp)
        replace c20 := Bool.eq_false_iff.mpr c20
        subst c20
        rw [if_neg (show ¬ (false = true) by decide)] at H
        simp only [Option.some.injEq, Prod.mk.injEq] at H
        obtain ⟨rfl, rfl⟩ := H
        go_wp2_with (first | (go_at_call 41; (with_reducible refine (impl_inRange.calls (wrap64 ((wrap64 ((wrap64 (x8_5 + (wrap64 (Int.tdiv x9_5 1000000)))) * 1000000)) + (Int.tmod x9_5 1000000))) (-1000000000000000) 1000000000000000 false _ A19.out).mono ?_); rintro e w' ⟨rfl, ⟨nd, rfl⟩⟩; (try exact zw)))
        repeat (go_quiet (first | (go_at_call 41; (with_reducible refine (impl_inRange.calls (wrap64 ((wrap64 ((wrap64 (x8_5 + (wrap64 (Int.tdiv x9_5 1000000)))) * 1000000)) + (Int.tmod x9_5 1000000))) (-1000000000000000) 1000000000000000 false _ A19.out).mono ?_); rintro e w' ⟨rfl, ⟨nd, rfl⟩⟩; (try exact zw))); try go_wp2_with (first | (go_at_call 41; (with_reducible refine (impl_inRange.calls (wrap64 ((wrap64 ((wrap64 (x8_5 + (wrap64 (Int.tdiv x9_5 1000000)))) * 1000000)) + (Int.tmod x9_5 1000000))) (-1000000000000000) 1000000000000000 false _ A19.out).mono ?_); rintro e w' ⟨rfl, ⟨nd, rfl⟩⟩; (try exact zw))))
        go_ret2
        exact ⟨_, zr, zn, zQ HB.out⟩
   rw [if_neg c5] at H
   have c5b0 : decide (x7_1 ≤ a1) = false := decide_eq_false c5
   clear c5
   simp only [Option.some.injEq, Prod.mk.injEq] at H
   obtain ⟨rfl, rfl⟩ := H
   go_wp2
   repeat (go_quiet (fail); try go_wp2)
   go_ret2
   exact ⟨_, zr, zP HO_6.out, zQ HB.out⟩

/-! ### impl_checkCount: function 34 -/
def impl_checkCount.f (k : Nat) (a0_0 : Int) (l0_1 : List Int) (a1 : Int) : Option (Int × Int) := (impl_IsAlphabet.f k a0_0 l0_1).bind fun t444 => (if t444 = true then ((impl_inRange.f a1 0 24).bind fun t445 => (if t445 = true then ((impl_cliquePolynomial.f k a0_0 l0_1).bind fun t446 => ((impl_inverse.f k t446 a1).bind fun bt449 => (if bt449.2 = 0 then (if 0 ≤ a1 then (if a1 < (bt449.1.length : Int) then (some (rd bt449.1 a1, 0)) else (none)) else (none)) else (some (0, bt449.2))))) else (some (0, 2)))) else (some (0, 1)))

set_option maxHeartbeats 8000000 in
set_option maxRecDepth 100000 in
theorem impl_checkCount.calls (k : Nat) (a0_0 : Int) (A0_1 : Option Addr) (c0_1 : Nat) (l0_1 : List Int) (a1 : Int) (r1 : Int) (r2 : Int) (w : World) (hr0_1 : Kd.C (Kd.int .i64) w A0_1 l0_1.length l0_1) (hc0_1 : l0_1.length ≤ c0_1) (hT : TabW w) (h : impl_checkCount.f k a0_0 l0_1 a1 = some (r1, r2)) :
  Calls Tryd.prog 34 #[.agg #[.int .i64 a0_0, .slice A0_1 l0_1.length c0_1], .int .i64 a1] w fun e w' => e = .returned (.tuple #[.int .i64 r1, .int .i64 r2]) ∧ Below w.heap.size w w' := by
 have hu26 := Tryd.underlying26
 have HT := zA hT
 clear hT
 have HR0_1 := zA hr0_1
 have HC0_1 := zA hc0_1
 clear hr0_1 hc0_1
 have HB := zA (kW w.heap.size w)
 have H := h
 unfold impl_checkCount.f at H
 clear h
 obtain ⟨t444, A3, H⟩ := zb H
 try dsimp only at H
 by_cases c4 : t444 = true
 ·subst c4
  rw [if_pos rfl] at H
  obtain ⟨t445, A5, H⟩ := zb H
  try dsimp only at H
  by_cases c6 : t445 = true
  ·subst c6
   rw [if_pos rfl] at H
   obtain ⟨t446, A7, H⟩ := zb H
   try dsimp only at H
   obtain ⟨⟨t449, t450⟩, A8, H⟩ := zb H
   try dsimp only at H
   by_cases c9 : t450 = 0
   ·rw [if_pos c9] at H
    obtain ⟨c9b0, c9b1⟩ := zT1 c9
    clear c9
    by_cases c10 : 0 ≤ a1
    ·rw [if_pos c10] at H
     have c10b0 : decide (0 ≤ a1) = true := decide_eq_true c10
     clear c10
     by_cases c11 : a1 < (t449.length : Int)
     ·rw [if_pos c11] at H
      have c11b0 : decide (a1 < (t449.length : Int)) = true := decide_eq_true c11
      clear c11
      simp only [Option.some.injEq, Prod.mk.injEq] at H
      obtain ⟨rfl, rfl⟩ := H
      go_enter Tryd.func34, Tryd.ntmps34
      go_wp2_with (first | (refine zBE 2 #[.int .i64 a0_0, .slice A0_1 l0_1.length c0_1] 26 ?_; intro gb443 hg w12 hbox hb; have BK443 := zA (hbox); have GW443 := zA (zBH hg HB.out); have GE443 := zA (zBH hg HB.out); replace HB := zA (kQ (zQ HB.out) hb); clear hb hbox hg; obtain ⟨hcz13_0, hcz13_1, hfz13_0, hfz13_1⟩ := zB3 BK443.out) | (refine zO (some 9) Tryd.func38 #[.agg #[.int .i64 a0_0, .slice A0_1 l0_1.length c0_1]] ?_; (with_reducible refine (impl_IsAlphabet.calls k a0_0 _ _ l0_1 true _ ?side1 ?side2 ?side3 A3.out).mono ?_); (case side1 => exact zS (kO HR0_1.out HB.out)); (case side2 => exact HC0_1.out); (case side3 => exact TabW.below HT.out (zT HB.out GE443.out)); rintro e w14 ⟨rfl, hb⟩; refine ⟨_, rfl, ?_⟩; replace BK443 := zA (zB1 BK443.out hb); replace HB := zA (kQ (zT HB.out GE443.out) hb); (try clear hb)) | (refine zO (some 12) Tryd.func41 #[.int .i64 a1, .int .i64 0, .int .i64 24] ?_; (with_reducible refine (impl_inRange.calls a1 0 24 true _ A5.out).mono ?_); rintro e w' ⟨rfl, ⟨nd, rfl⟩⟩; refine ⟨_, rfl, ?_⟩; obtain ⟨hcz15_0, hcz15_1, hfz15_0, hfz15_1⟩ := zB3 BK443.out) | (refine zO (some 16) Tryd.func39 #[.agg #[.int .i64 a0_0, .slice A0_1 l0_1.length c0_1]] ?_; (with_reducible refine (impl_cliquePolynomial.calls k a0_0 _ _ l0_1 t446 _ ?side1 ?side2 ?side3 A7.out).mono ?_); (case side1 => exact zS (kO HR0_1.out (zT HB.out GE443.out))); (case side2 => exact HC0_1.out); (case side3 => exact TabW.below HT.out (zT HB.out GE443.out)); rintro e w16 ⟨v447, rfl, ho0, hb⟩; refine ⟨_, rfl, ?_⟩; have HO448 := zA (kI ho0 (kP (zT HB.out GE443.out))); replace BK443 := zA (zB1 BK443.out hb); replace HB := zA (kQ (zT HB.out GE443.out) hb); (try clear hb); (try clear ho0); obtain ⟨Ao17, co17, eo17⟩ := kM HO448.out; subst eo17) | (refine zO (some 18) Tryd.func43 #[.slice Ao17 t446.length co17, .int .i64 a1] ?_; (with_reducible refine (impl_inverse.calls k _ _ t446 a1 t449 t450 _ ?side1 ?side2 A8.out).mono ?_); (case side1 => exact zS (kB HO448.out).2.2); (case side2 => exact (kB HO448.out).2.1); rintro e w18 ⟨v451, rfl, ho0, hb⟩; refine ⟨_, rfl, ?_⟩; have HO452 := zA (kI (kF ho0 (kH (zP HO448.out))) (kP (zT HB.out GE443.out))); replace HO448 := zA (kE (zP HO448.out) (kC ho0) hb); replace BK443 := zA (zB1 BK443.out hb); replace HB := zA (kQ (zT HB.out GE443.out) hb); (try clear hb); (try clear ho0); obtain ⟨Ao19, co19, eo19⟩ := kM HO452.out; subst eo19; have p453 : 0 ≤ (a1 : Int) := zd; have q453 : a1 < (t449.length : Int) := zd; obtain ⟨ad453, e453, hx453_0⟩ := Kd.at_int (kB HO452.out).2.2 a1 p453 q453; cases e453; replace p453 := eq_true p453; replace q453 := eq_true q453))
      go_ret2
      exact ⟨zr, zT HB.out GE443.out⟩
     rw [if_neg c11] at H
     exact absurd H (by simp)
    rw [if_neg c10] at H
    exact absurd H (by simp)
   rw [if_neg c9] at H
   obtain ⟨c9b0, c9b1⟩ := zT2 c9
   simp only [Option.some.injEq, Prod.mk.injEq] at H
   obtain ⟨rfl, rfl⟩ := H
   go_enter Tryd.func34, Tryd.ntmps34
   go_wp2_with (first | (refine zBE 2 #[.int .i64 a0_0, .slice A0_1 l0_1.length c0_1] 26 ?_; intro gb443 hg w20 hbox hb; have BK443 := zA (hbox); have GW443 := zA (zBH hg HB.out); have GE443 := zA (zBH hg HB.out); replace HB := zA (kQ (zQ HB.out) hb); clear hb hbox hg; obtain ⟨hcz21_0, hcz21_1, hfz21_0, hfz21_1⟩ := zB3 BK443.out) | (refine zO (some 9) Tryd.func38 #[.agg #[.int .i64 a0_0, .slice A0_1 l0_1.length c0_1]] ?_; (with_reducible refine (impl_IsAlphabet.calls k a0_0 _ _ l0_1 true _ ?side1 ?side2 ?side3 A3.out).mono ?_); (case side1 => exact zS (kO HR0_1.out HB.out)); (case side2 => exact HC0_1.out); (case side3 => exact TabW.below HT.out (zT HB.out GE443.out)); rintro e w22 ⟨rfl, hb⟩; refine ⟨_, rfl, ?_⟩; replace BK443 := zA (zB1 BK443.out hb); replace HB := zA (kQ (zT HB.out GE443.out) hb); (try clear hb)) | (refine zO (some 12) Tryd.func41 #[.int .i64 a1, .int .i64 0, .int .i64 24] ?_; (with_reducible refine (impl_inRange.calls a1 0 24 true _ A5.out).mono ?_); rintro e w' ⟨rfl, ⟨nd, rfl⟩⟩; refine ⟨_, rfl, ?_⟩; obtain ⟨hcz23_0, hcz23_1, hfz23_0, hfz23_1⟩ := zB3 BK443.out) | (refine zO (some 16) Tryd.func39 #[.agg #[.int .i64 a0_0, .slice A0_1 l0_1.length c0_1]] ?_; (with_reducible refine (impl_cliquePolynomial.calls k a0_0 _ _ l0_1 t446 _ ?side1 ?side2 ?side3 A7.out).mono ?_); (case side1 => exact zS (kO HR0_1.out (zT HB.out GE443.out))); (case side2 => exact HC0_1.out); (case side3 => exact TabW.below HT.out (zT HB.out GE443.out)); rintro e w24 ⟨v447, rfl, ho0, hb⟩; refine ⟨_, rfl, ?_⟩; have HO448 := zA (kI ho0 (kP (zT HB.out GE443.out))); replace BK443 := zA (zB1 BK443.out hb); replace HB := zA (kQ (zT HB.out GE443.out) hb); (try clear hb); (try clear ho0); obtain ⟨Ao25, co25, eo25⟩ := kM HO448.out; subst eo25) | (refine zO (some 18) Tryd.func43 #[.slice Ao25 t446.length co25, .int .i64 a1] ?_; (with_reducible refine (impl_inverse.calls k _ _ t446 a1 t449 t450 _ ?side1 ?side2 A8.out).mono ?_); (case side1 => exact zS (kB HO448.out).2.2); (case side2 => exact (kB HO448.out).2.1); rintro e w26 ⟨v451, rfl, ho0, hb⟩; refine ⟨_, rfl, ?_⟩; have HO452 := zA (kI (kF ho0 (kH (zP HO448.out))) (kP (zT HB.out GE443.out))); replace HO448 := zA (kE (zP HO448.out) (kC ho0) hb); replace BK443 := zA (zB1 BK443.out hb); replace HB := zA (kQ (zT HB.out GE443.out) hb); (try clear hb); (try clear ho0)))
   go_ret2
   exact ⟨zr, zT HB.out GE443.out⟩
  replace c6 := Bool.eq_false_iff.mpr c6
  subst c6
  rw [if_neg (show ¬ (false = true) by decide)] at H
  simp only [Option.some.injEq, Prod.mk.injEq] at H
  obtain ⟨rfl, rfl⟩ := H
  go_enter Tryd.func34, Tryd.ntmps34
  go_wp2_with (first | (refine zBE 2 #[.int .i64 a0_0, .slice A0_1 l0_1.length c0_1] 26 ?_; intro gb443 hg w27 hbox hb; have BK443 := zA (hbox); have GW443 := zA (zBH hg HB.out); have GE443 := zA (zBH hg HB.out); replace HB := zA (kQ (zQ HB.out) hb); clear hb hbox hg; obtain ⟨hcz28_0, hcz28_1, hfz28_0, hfz28_1⟩ := zB3 BK443.out) | (refine zO (some 9) Tryd.func38 #[.agg #[.int .i64 a0_0, .slice A0_1 l0_1.length c0_1]] ?_; (with_reducible refine (impl_IsAlphabet.calls k a0_0 _ _ l0_1 true _ ?side1 ?side2 ?side3 A3.out).mono ?_); (case side1 => exact zS (kO HR0_1.out HB.out)); (case side2 => exact HC0_1.out); (case side3 => exact TabW.below HT.out (zT HB.out GE443.out)); rintro e w29 ⟨rfl, hb⟩; refine ⟨_, rfl, ?_⟩; replace BK443 := zA (zB1 BK443.out hb); replace HB := zA (kQ (zT HB.out GE443.out) hb); (try clear hb)) | (refine zO (some 12) Tryd.func41 #[.int .i64 a1, .int .i64 0, .int .i64 24] ?_; (with_reducible refine (impl_inRange.calls a1 0 24 false _ A5.out).mono ?_); rintro e w' ⟨rfl, ⟨nd, rfl⟩⟩; refine ⟨_, rfl, ?_⟩))
  go_ret2
  exact ⟨zr, zT HB.out GE443.out⟩
 replace c4 := Bool.eq_false_iff.mpr c4
 subst c4
 rw [if_neg (show ¬ (false = true) by decide)] at H
 simp only [Option.some.injEq, Prod.mk.injEq] at H
 obtain ⟨rfl, rfl⟩ := H
 go_enter Tryd.func34, Tryd.ntmps34
 go_wp2_with (first | (refine zBE 2 #[.int .i64 a0_0, .slice A0_1 l0_1.length c0_1] 26 ?_; intro gb443 hg w30 hbox hb; have BK443 := zA (hbox); have GW443 := zA (zBH hg HB.out); have GE443 := zA (zBH hg HB.out); replace HB := zA (kQ (zQ HB.out) hb); clear hb hbox hg; obtain ⟨hcz31_0, hcz31_1, hfz31_0, hfz31_1⟩ := zB3 BK443.out) | (refine zO (some 9) Tryd.func38 #[.agg #[.int .i64 a0_0, .slice A0_1 l0_1.length c0_1]] ?_; (with_reducible refine (impl_IsAlphabet.calls k a0_0 _ _ l0_1 false _ ?side1 ?side2 ?side3 A3.out).mono ?_); (case side1 => exact zS (kO HR0_1.out HB.out)); (case side2 => exact HC0_1.out); (case side3 => exact TabW.below HT.out (zT HB.out GE443.out)); rintro e w32 ⟨rfl, hb⟩; refine ⟨_, rfl, ?_⟩; replace BK443 := zA (zB1 BK443.out hb); replace HB := zA (kQ (zT HB.out GE443.out) hb); (try clear hb)))
 go_ret2
 exact ⟨zr, zT HB.out GE443.out⟩

/-! ### impl_CountTraces: function 9 -/
def impl_CountTraces.f (k : Nat) (a0_0 : Int) (l0_1 : List Int) (a1 : Int) : Option (Int × Int) := (impl_checkCount.f k a0_0 l0_1 a1).bind fun bt455 => (some (bt455.1, bt455.2))

set_option maxHeartbeats 8000000 in
set_option maxRecDepth 100000 in
theorem impl_CountTraces.calls (k : Nat) (a0_0 : Int) (A0_1 : Option Addr) (c0_1 : Nat) (l0_1 : List Int) (a1 : Int) (r1 : Int) (r2 : Int) (w : World) (hr0_1 : Kd.C (Kd.int .i64) w A0_1 l0_1.length l0_1) (hc0_1 : l0_1.length ≤ c0_1) (hT : TabW w) (h : impl_CountTraces.f k a0_0 l0_1 a1 = some (r1, r2)) :
  Calls Tryd.prog 9 #[.agg #[.int .i64 a0_0, .slice A0_1 l0_1.length c0_1], .int .i64 a1] w fun e w' => e = .returned (.tuple #[.int .i64 r1, .int .i64 r2]) ∧ Below w.heap.size w w' := by
 have hu26 := Tryd.underlying26
 have HT := zA hT
 clear hT
 have HR0_1 := zA hr0_1
 have HC0_1 := zA hc0_1
 clear hr0_1 hc0_1
 have HB := zA (kW w.heap.size w)
 have H := h
 unfold impl_CountTraces.f at H
 clear h
 obtain ⟨⟨t455, t456⟩, A3, H⟩ := zb H
 try dsimp only at H
 simp only [Option.some.injEq, Prod.mk.injEq] at H
 obtain ⟨rfl, rfl⟩ := H
 go_enter Tryd.func9, Tryd.ntmps9
 go_wp2_with (first | (refine zBE 2 #[.int .i64 a0_0, .slice A0_1 l0_1.length c0_1] 26 ?_; intro gb454 hg w4 hbox hb; have BK454 := zA (hbox); have GW454 := zA (zBH hg HB.out); have GE454 := zA (zBH hg HB.out); replace HB := zA (kQ (zQ HB.out) hb); clear hb hbox hg; obtain ⟨hcz5_0, hcz5_1, hfz5_0, hfz5_1⟩ := zB3 BK454.out) | (refine zO (some 8) Tryd.func34 #[.agg #[.int .i64 a0_0, .slice A0_1 l0_1.length c0_1], .int .i64 a1] ?_; (with_reducible refine (impl_checkCount.calls k a0_0 _ _ l0_1 a1 t455 t456 _ ?side1 ?side2 ?side3 A3.out).mono ?_); (case side1 => exact zS (kO HR0_1.out HB.out)); (case side2 => exact HC0_1.out); (case side3 => exact TabW.below HT.out (zT HB.out GE454.out)); rintro e w6 ⟨rfl, hb⟩; refine ⟨_, rfl, ?_⟩; replace BK454 := zA (zB1 BK454.out hb); replace HB := zA (kQ (zT HB.out GE454.out) hb); (try clear hb)))
 go_ret2
 exact ⟨zr, zT HB.out GE454.out⟩

/-! ### spec_l01In: function 70 -/
def spec_l01In.f (a0 : Int) (a1 : Int) (a2 : Int) : Option (Bool) := if a0 ≥ a1 then (some (decide (a0 ≤ a2))) else (some false)
set_option maxHeartbeats 8000000 in
set_option maxRecDepth 100000 in
theorem spec_l01In.calls (a0 : Int) (a1 : Int) (a2 : Int) (r : Bool) (w : World) (h : spec_l01In.f a0 a1 a2 = some r) :
  Calls Tryd.prog 70 #[.int .i64 a0, .int .i64 a1, .int .i64 a2] w fun e w' => e = .returned (.bool r) ∧ Drawn0 w w' := by
 have H := h
 unfold spec_l01In.f at H
 clear h
 by_cases c4 : a0 ≥ a1
 ·rw [if_pos c4] at H
  have c4b0 : decide (a1 ≤ a0) = true := decide_eq_true c4
  clear c4
  obtain rfl := Option.some.inj H
  go_enter Tryd.func70, Tryd.ntmps70
  go_wp2
  go_ret
  exact ⟨zs, by repeat (first | exact Drawn0.refl _ | apply Drawn0.step)⟩
 rw [if_neg c4] at H
 have c4b0 : decide (a1 ≤ a0) = false := decide_eq_false c4
 clear c4
 obtain rfl := Option.some.inj H
 go_enter Tryd.func70, Tryd.ntmps70
 go_wp2
 go_ret
 exact ⟨zs, by repeat (first | exact Drawn0.refl _ | apply Drawn0.step)⟩

/-! ### spec_l01Bit: function 72 -/
def spec_l01Bit.f (a0 : Int) (a1 : Int) : Option (Bool) := if 0 ≤ (IntKind.u64.wrap (a1)) then (some ((Go.bits .and .i64 (shr .i64 a0 (IntKind.u64.wrap (a1))) 1) == 1)) else (none)
set_option maxHeartbeats 8000000 in
set_option maxRecDepth 100000 in
theorem spec_l01Bit.calls (a0 : Int) (a1 : Int) (r : Bool) (w : World) (h : spec_l01Bit.f a0 a1 = some r) :
  Calls Tryd.prog 72 #[.int .i64 a0, .int .i64 a1] w fun e w' => e = .returned (.bool r) ∧ Drawn0 w w' := by
 have H := h
 unfold spec_l01Bit.f at H
 clear h
 obtain ⟨ji3, hji3⟩ : ∃ j_ : Int, (IntKind.u64.wrap (a1)) = j_ := ⟨_, rfl⟩
 replace H : (if 0 ≤ (ji3) then (some ((Go.bits .and .i64 (shr .i64 a0 (ji3)) 1) == 1)) else (none)) = some r := by first | (rw [hji3] at H; exact H) | (simp only [hji3] at H ⊢; exact H)
 by_cases c4 : 0 ≤ (ji3)
 ·rw [if_pos c4] at H
  have c4b0 := eq_true c4
  have c4b1 : decide (0 ≤ (ji3)) = true := decide_eq_true c4
  clear c4
  obtain ⟨ji5, hji5⟩ : ∃ j_ : Int, (shr .i64 a0 (ji3)) = j_ := ⟨_, rfl⟩
  replace H : (some ((Go.bits .and .i64 (ji5) 1) == 1)) = some r := by first | (rw [hji5] at H; exact H) | (simp only [hji5] at H ⊢; exact H)
  have hji5_ : (a0 / 2 ^ min (ji3).toNat 64) = ji5 := hji5
  have hji5z : (ji3) ≤ 64 → (a0 / 2 ^ (ji3).toNat) = ji5 := shr_small hji5
  obtain rfl := Option.some.inj H
  go_enter Tryd.func72, Tryd.ntmps72
  go_wp2
  go_ret
  exact ⟨by first | rfl | (simp; done) | (simp only [← hji3, ← hji5] <;> (first | rfl | simp)) | (simp [*]; done), by repeat (first | exact Drawn0.refl _ | apply Drawn0.step)⟩
 rw [if_neg c4] at H
 exact absurd H (by simp)

/-! ### spec_l01Full: function 110 -/
def spec_l01Full.f (a0 : Int) : Option (Int) := (spec_l01One.f a0).bind fun t457 => (some (wrap64 (t457 - 1)))
set_option maxHeartbeats 8000000 in
set_option maxRecDepth 100000 in
theorem spec_l01Full.calls (a0 : Int) (r : Int) (w : World) (h : spec_l01Full.f a0 = some r) :
  Calls Tryd.prog 110 #[.int .i64 a0] w fun e w' => e = .returned (.int .i64 r) ∧ Drawn0 w w' := by
 have H := h
 unfold spec_l01Full.f at H
 clear h
 obtain ⟨t457, A2, H⟩ := zb H
 try dsimp only at H
 obtain rfl := Option.some.inj H
 go_enter Tryd.func110, Tryd.ntmps110
 go_wp2_with (first | (refine zO (some 4) Tryd.func71 #[.int .i64 a0] ?_; (with_reducible refine (spec_l01One.calls a0 t457 _ A2.out).mono ?_); rintro e w' ⟨rfl, ⟨nd, rfl⟩⟩; refine ⟨_, rfl, ?_⟩))
 go_ret
 exact ⟨zs, by repeat (first | exact Drawn0.refl _ | apply Drawn0.step)⟩

/-! ### spec_l01Masks: function 109 -/
def spec_l01Masks.l0 : Nat → Int → List Int → Int → Option (Bool)
 | 0, _, _, _ => none
 | k + 1, x0, x1, x5 => if x5 < (x1.length : Int) then (if 0 ≤ x5 then ((spec_l01Full.f x0).bind fun t459 => ((spec_l01In.f (rd x1 x5) 0 t459).bind fun t460 => (if t460 = true then (spec_l01Masks.l0 k x0 x1 (wrap64 (x5 + 1))) else (some false)))) else (none)) else (some true)
def spec_l01Masks.f (k : Nat) (a0 : Int) (l1 : List Int) : Option (Bool) := spec_l01Masks.l0 k a0 l1 0

set_option maxHeartbeats 8000000 in
set_option maxRecDepth 100000 in
theorem spec_l01Masks.calls (k : Nat) (a0 : Int) (A1 : Option Addr) (c1 : Nat) (l1 : List Int) (r : Bool) (w : World) (hr1 : Kd.C (Kd.int .i64) w A1 l1.length l1) (hc1 : l1.length ≤ c1) (h : spec_l01Masks.f k a0 l1 = some r) :
  Calls Tryd.prog 109 #[.int .i64 a0, .slice A1 l1.length c1] w fun e w' => e = .returned (.bool r) ∧ Drawn0 w w' := by
 have HR1 := zA hr1
 have HC1 := zA hc1
 clear hr1 hc1
 have H := h
 unfold spec_l01Masks.f at H
 clear h
 have H' := zA H
 clear H
 go_enter Tryd.func109, Tryd.ntmps109
 go_wp2
 repeat (go_quiet (fail); try go_wp2)
 go_loopg [5] k (fun kq v5 w' => ∃ (x5_1 : Int), v5 = .int .i64 x5_1 ∧ Aside0 (spec_l01Masks.l0 kq a0 l1 x5_1 = some r) ∧ Aside0 (kq ≤ k) ∧ Drawn0 w w')
 case atStart => exact ⟨(0), zs, H', ⟨Nat.le_refl _⟩, by repeat (first | exact Drawn0.refl _ | apply Drawn0.step)⟩
 case round =>
  clear H'
  try clear c1
  obtain ⟨x5_1, rfl, HA, HK1, ⟨m1, rfl⟩⟩ := hrel
  cases gk with
  | zero => exact absurd HA.out (by simp [spec_l01Masks.l0])
  | succ k1 =>
   have H := HA.out
   clear HA
   simp only [spec_l01Masks.l0] at H
   by_cases c3 : x5_1 < (l1.length : Int)
   ·rw [if_pos c3] at H
    have c3b0 : decide (x5_1 < (l1.length : Int)) = true := decide_eq_true c3
    clear c3
    by_cases c4 : 0 ≤ x5_1
    ·rw [if_pos c4] at H
     have c4b0 : decide (0 ≤ x5_1) = true := decide_eq_true c4
     clear c4
     obtain ⟨t459, A5, H⟩ := zb H
     try dsimp only at H
     obtain ⟨t460, A6, H⟩ := zb H
     try dsimp only at H
     by_cases c7 : t460 = true
     ·subst c7
      rw [if_pos rfl] at H
      have H' := zA H
      clear H
      have p458 : 0 ≤ (x5_1 : Int) := zd
      have q458 : x5_1 < (l1.length : Int) := zd
      obtain ⟨ad458, e458, hx458_0⟩ := Kd.at_int HR1.out x5_1 p458 q458
      cases e458
      replace p458 := eq_true p458
      replace q458 := eq_true q458
      go_wp2_with (first | (go_at_call 110; (with_reducible refine (spec_l01Full.calls a0 t459 _ A5.out).mono ?_); rintro e w' ⟨rfl, ⟨nd, rfl⟩⟩; (try exact zw)) | (go_at_call 70; (with_reducible refine (spec_l01In.calls (rd l1 x5_1) 0 t459 true _ A6.out).mono ?_); rintro e w' ⟨rfl, ⟨nd, rfl⟩⟩; (try exact zw)))
      repeat (go_quiet (first | (go_at_call 110; (with_reducible refine (spec_l01Full.calls a0 t459 _ A5.out).mono ?_); rintro e w' ⟨rfl, ⟨nd, rfl⟩⟩; (try exact zw)) | (go_at_call 70; (with_reducible refine (spec_l01In.calls (rd l1 x5_1) 0 t459 true _ A6.out).mono ?_); rintro e w' ⟨rfl, ⟨nd, rfl⟩⟩; (try exact zw))); try go_wp2_with (first | (go_at_call 110; (with_reducible refine (spec_l01Full.calls a0 t459 _ A5.out).mono ?_); rintro e w' ⟨rfl, ⟨nd, rfl⟩⟩; (try exact zw)) | (go_at_call 70; (with_reducible refine (spec_l01In.calls (rd l1 x5_1) 0 t459 true _ A6.out).mono ?_); rintro e w' ⟨rfl, ⟨nd, rfl⟩⟩; (try exact zw))))
      go_roundg k1
      case measure => have := HK1.out; omega
      case rel => exact ⟨(wrap64 (x5_1 + 1)), zs, H', ⟨by have := HK1.out; omega⟩, by repeat (first | exact Drawn0.refl _ | apply Drawn0.step)⟩
     replace c7 := Bool.eq_false_iff.mpr c7
     subst c7
     rw [if_neg (show ¬ (false = true) by decide)] at H
     obtain rfl := Option.some.inj H
     have p458 : 0 ≤ (x5_1 : Int) := zd
     have q458 : x5_1 < (l1.length : Int) := zd
     obtain ⟨ad458, e458, hx458_0⟩ := Kd.at_int HR1.out x5_1 p458 q458
     cases e458
     replace p458 := eq_true p458
     replace q458 := eq_true q458
     go_wp2_with (first | (go_at_call 110; (with_reducible refine (spec_l01Full.calls a0 t459 _ A5.out).mono ?_); rintro e w' ⟨rfl, ⟨nd, rfl⟩⟩; (try exact zw)) | (go_at_call 70; (with_reducible refine (spec_l01In.calls (rd l1 x5_1) 0 t459 false _ A6.out).mono ?_); rintro e w' ⟨rfl, ⟨nd, rfl⟩⟩; (try exact zw)))
     repeat (go_quiet (first | (go_at_call 110; (with_reducible refine (spec_l01Full.calls a0 t459 _ A5.out).mono ?_); rintro e w' ⟨rfl, ⟨nd, rfl⟩⟩; (try exact zw)) | (go_at_call 70; (with_reducible refine (spec_l01In.calls (rd l1 x5_1) 0 t459 false _ A6.out).mono ?_); rintro e w' ⟨rfl, ⟨nd, rfl⟩⟩; (try exact zw))); try go_wp2_with (first | (go_at_call 110; (with_reducible refine (spec_l01Full.calls a0 t459 _ A5.out).mono ?_); rintro e w' ⟨rfl, ⟨nd, rfl⟩⟩; (try exact zw)) | (go_at_call 70; (with_reducible refine (spec_l01In.calls (rd l1 x5_1) 0 t459 false _ A6.out).mono ?_); rintro e w' ⟨rfl, ⟨nd, rfl⟩⟩; (try exact zw))))
     go_ret
     exact ⟨zs, by repeat (first | exact Drawn0.refl _ | apply Drawn0.step)⟩
    rw [if_neg c4] at H
    exact absurd H (by simp)
   rw [if_neg c3] at H
   have c3b0 : decide (x5_1 < (l1.length : Int)) = false := decide_eq_false c3
   clear c3
   obtain rfl := Option.some.inj H
   go_wp2
   repeat (go_quiet (fail); try go_wp2)
   go_ret
   exact ⟨zs, by repeat (first | exact Drawn0.refl _ | apply Drawn0.step)⟩

/-! ### spec_l02Is: function 69 -/
mutual
def spec_l02Is.j0 : Nat → Bool → Int → List Int → Option (Bool)
 | 0, _, _, _ => none
 | k + 1, x24, x462000, x462001 => if x24 = true then (some false) else (spec_l02Is.l0 k 0 x462000 x462001)
def spec_l02Is.l0 : Nat → Int → Int → List Int → Option (Bool)
 | 0, _, _, _ => none
 | k + 1, x3, x462000, x462001 => if x3 < x462000 then (if 0 ≤ x3 then (if x3 < (x462001.length : Int) then ((spec_l01Bit.f (rd x462001 x3) x3).bind fun t465 => (if t465 = true then (spec_l02Is.l1 k x3 0 x462000 x462001) else (some false))) else (none)) else (none)) else (some true)
def spec_l02Is.l1 : Nat → Int → Int → Int → List Int → Option (Bool)
 | 0, _, _, _, _ => none
 | k + 1, x3, x4, x462000, x462001 => if x4 < x462000 then (if 0 ≤ x3 then (if x3 < (x462001.length : Int) then ((spec_l01Bit.f (rd x462001 x3) x4).bind fun t467 => (if 0 ≤ x4 then (if x4 < (x462001.length : Int) then ((spec_l01Bit.f (rd x462001 x4) x3).bind fun t469 => (if (t467 != t469) = true then (some false) else (spec_l02Is.l1 k x3 (wrap64 (x4 + 1)) x462000 x462001))) else (none)) else (none))) else (none)) else (none)) else (spec_l02Is.l0 k (wrap64 (x3 + 1)) x462000 x462001)
end
def spec_l02Is.f (k : Nat) (a0_0 : Int) (l0_1 : List Int) : Option (Bool) := (spec_l01In.f a0_0 0 8).bind fun t462 => (if t462 = true then (if (l0_1.length : Int) = a0_0 then ((spec_l01Masks.f k a0_0 l0_1).bind fun t463 => (spec_l02Is.j0 k (!t463) a0_0 l0_1)) else (spec_l02Is.j0 k true a0_0 l0_1)) else (spec_l02Is.j0 k true a0_0 l0_1))

set_option maxHeartbeats 8000000 in
set_option maxRecDepth 100000 in
theorem spec_l02Is.calls (k : Nat) (a0_0 : Int) (A0_1 : Option Addr) (c0_1 : Nat) (l0_1 : List Int) (r : Bool) (w : World) (hr0_1 : Kd.C (Kd.int .i64) w A0_1 l0_1.length l0_1) (hc0_1 : l0_1.length ≤ c0_1) (h : spec_l02Is.f k a0_0 l0_1 = some r) :
  Calls Tryd.prog 69 #[.agg #[.int .i64 a0_0, .slice A0_1 l0_1.length c0_1]] w fun e w' => e = .returned (.bool r) ∧ Below w.heap.size w w' := by
 have hu26 := Tryd.underlying26
 have HR0_1 := zA hr0_1
 have HC0_1 := zA hc0_1
 clear hr0_1 hc0_1
 have HB := zA (kW w.heap.size w)
 have H := h
 unfold spec_l02Is.f at H
 clear h
 have HC2 := zA H
 clear H
 go_enter Tryd.func69, Tryd.ntmps69
 go_upto_region 1 with (first | (refine zBE 1 #[.int .i64 a0_0, .slice A0_1 l0_1.length c0_1] 26 ?_; intro gb461 hg w3 hbox hb; have BK461 := zA (hbox); have GW461 := zA (zBH hg HB.out); have GE461 := zA (zBH hg HB.out); replace HB := zA (kQ (zQ HB.out) hb); clear hb hbox hg))
 repeat (go_quiet (first | (refine zBE 1 #[.int .i64 a0_0, .slice A0_1 l0_1.length c0_1] 26 ?_; intro gb461 hg w3 hbox hb; have n0_ := zA (kQ (zQ HB.out) hb); have n1_ := zA (hbox); have n2_ := zA (zBH hg HB.out); have n3_ := zA (zBH hg HB.out); clear HB; have HB := n0_; have BK461 := n1_; have GW461 := n2_; have GE461 := n3_; clear n0_ n1_ n2_ n3_; clear hb hbox hg)); go_upto_region 1 with (first | (refine zBE 1 #[.int .i64 a0_0, .slice A0_1 l0_1.length c0_1] 26 ?_; intro gb461 hg w3 hbox hb; have BK461 := zA (hbox); have GW461 := zA (zBH hg HB.out); have GE461 := zA (zBH hg HB.out); replace HB := zA (kQ (zQ HB.out) hb); clear hb hbox hg)))
 (try simp only [Act.put, zL, zM, zN])
 go_cut [24] (fun v24 wc => ∃ (kq : Nat) (x24_1 : Bool), v24 = .bool x24_1 ∧ Aside0 (spec_l02Is.j0 kq x24_1 a0_0 l0_1 = some r) ∧ Aside0 (kq ≤ k) ∧ Aside0 (wc.heap[gb461]? = some (.cells #[.int .i64 a0_0, (.slice A0_1 l0_1.length c0_1)] 26 (0, 0))) ∧ Aside0 (Below w.heap.size w wc))
 case first =>
  have H := HC2.out
  clear HC2
  obtain ⟨t462, A4, H⟩ := zb H
  try dsimp only at H
  by_cases c5 : t462 = true
  ·subst c5
   rw [if_pos rfl] at H
   by_cases c6 : (l0_1.length : Int) = a0_0
   ·rw [if_pos c6] at H
    obtain ⟨c6b0, c6b1⟩ := zT1 c6
    clear c6
    (first | rw [c6b0] | (simp only [i64_w, i32_w]; rw [c6b0]) | skip)
    obtain ⟨t463, A7, H⟩ := zb H
    try dsimp only at H
    have H' := zA H
    clear H
    obtain ⟨hcz8_0, hcz8_1, hfz8_0, hfz8_1⟩ := zB3 BK461.out
    go_wp2_with (first | (go_at_call 70; (with_reducible refine (spec_l01In.calls a0_0 0 8 true _ A4.out).mono ?_); rintro e w' ⟨rfl, ⟨nd, rfl⟩⟩; (try exact zw)) | (go_at_call 109; (with_reducible refine (spec_l01Masks.calls k a0_0 _ _ l0_1 t463 _ ?side1 ?side2 A7.out).mono ?_); (case side1 => exact zS (kO HR0_1.out (zT HB.out GE461.out))); (case side2 => exact HC0_1.out); rintro e w' ⟨rfl, ⟨nd, rfl⟩⟩; (try exact zw)))
    repeat (go_quiet (first | (go_at_call 70; (with_reducible refine (spec_l01In.calls a0_0 0 8 true _ A4.out).mono ?_); rintro e w' ⟨rfl, ⟨nd, rfl⟩⟩; (try exact zw)) | (go_at_call 109; (with_reducible refine (spec_l01Masks.calls k a0_0 _ _ l0_1 t463 _ ?side1 ?side2 A7.out).mono ?_); (case side1 => exact zS (kO HR0_1.out (zT HB.out GE461.out))); (case side2 => exact HC0_1.out); rintro e w' ⟨rfl, ⟨nd, rfl⟩⟩; (try exact zw))); try go_wp2_with (first | (go_at_call 70; (with_reducible refine (spec_l01In.calls a0_0 0 8 true _ A4.out).mono ?_); rintro e w' ⟨rfl, ⟨nd, rfl⟩⟩; (try exact zw)) | (go_at_call 109; (with_reducible refine (spec_l01Masks.calls k a0_0 _ _ l0_1 t463 _ ?side1 ?side2 A7.out).mono ?_); (case side1 => exact zS (kO HR0_1.out (zT HB.out GE461.out))); (case side2 => exact HC0_1.out); rintro e w' ⟨rfl, ⟨nd, rfl⟩⟩; (try exact zw))))
    go_meet
    case rel => exact ⟨_, (!t463), zs, H', ⟨by first | omega | exact Nat.le_refl _⟩, ⟨zR BK461.out⟩, ⟨zT HB.out GE461.out⟩⟩
   rw [if_neg c6] at H
   obtain ⟨c6b0, c6b1⟩ := zT2 c6
   (first | rw [c6b0] | (simp only [i64_w, i32_w]; rw [c6b0]) | skip)
   have H' := zA H
   clear H
   obtain ⟨hcz9_0, hcz9_1, hfz9_0, hfz9_1⟩ := zB3 BK461.out
   go_wp2_with (first | (go_at_call 70; (with_reducible refine (spec_l01In.calls a0_0 0 8 true _ A4.out).mono ?_); rintro e w' ⟨rfl, ⟨nd, rfl⟩⟩; (try exact zw)))
   repeat (go_quiet (first | (go_at_call 70; (with_reducible refine (spec_l01In.calls a0_0 0 8 true _ A4.out).mono ?_); rintro e w' ⟨rfl, ⟨nd, rfl⟩⟩; (try exact zw))); try go_wp2_with (first | (go_at_call 70; (with_reducible refine (spec_l01In.calls a0_0 0 8 true _ A4.out).mono ?_); rintro e w' ⟨rfl, ⟨nd, rfl⟩⟩; (try exact zw))))
   go_meet
   case rel => exact ⟨_, (true), zs, H', ⟨by first | omega | exact Nat.le_refl _⟩, ⟨zR BK461.out⟩, ⟨zT HB.out GE461.out⟩⟩
  replace c5 := Bool.eq_false_iff.mpr c5
  subst c5
  rw [if_neg (show ¬ (false = true) by decide)] at H
  have H' := zA H
  clear H
  obtain ⟨hcz10_0, hcz10_1, hfz10_0, hfz10_1⟩ := zB3 BK461.out
  go_wp2_with (first | (go_at_call 70; (with_reducible refine (spec_l01In.calls a0_0 0 8 false _ A4.out).mono ?_); rintro e w' ⟨rfl, ⟨nd, rfl⟩⟩; (try exact zw)))
  repeat (go_quiet (first | (go_at_call 70; (with_reducible refine (spec_l01In.calls a0_0 0 8 false _ A4.out).mono ?_); rintro e w' ⟨rfl, ⟨nd, rfl⟩⟩; (try exact zw))); try go_wp2_with (first | (go_at_call 70; (with_reducible refine (spec_l01In.calls a0_0 0 8 false _ A4.out).mono ?_); rintro e w' ⟨rfl, ⟨nd, rfl⟩⟩; (try exact zw))))
  go_meet
  case rel => exact ⟨_, (true), zs, H', ⟨by first | omega | exact Nat.le_refl _⟩, ⟨zR BK461.out⟩, ⟨zT HB.out GE461.out⟩⟩
 case rest =>
  clear HC2
  try clear c5
  try clear c6
  try clear hcz10_0
  try clear hcz10_1
  try clear hcz8_0
  try clear hcz8_1
  try clear hcz9_0
  try clear hcz9_1
  try clear hfz10_0
  try clear hfz10_1
  try clear hfz8_0
  try clear hfz8_1
  try clear hfz9_0
  try clear hfz9_1
  obtain ⟨kq, x24_1, rfl, HA, HJ1, BK461, HB⟩ := hcut
  cases kq with
  | zero => exact absurd HA.out (by simp [spec_l02Is.j0])
  | succ kj1 =>
   have H := HA.out
   clear HA
   simp only [spec_l02Is.j0] at H
   by_cases c11 : x24_1 = true
   ·subst c11
    rw [if_pos rfl] at H
    obtain rfl := Option.some.inj H
    go_wp2
    repeat (go_quiet (fail); try go_wp2)
    go_ret
    exact ⟨zr, zT HB.out GE461.out⟩
   replace c11 := Bool.eq_false_iff.mpr c11
   subst c11
   rw [if_neg (show ¬ (false = true) by decide)] at H
   have H' := zA H
   clear H
   go_wp2
   repeat (go_quiet (fail); try go_wp2)
   go_loopg [3] kj1 (fun kq v3 w' => ∃ (x3_2 : Int), v3 = .int .i64 x3_2 ∧ Aside0 (spec_l02Is.l0 kq x3_2 a0_0 l0_1 = some r) ∧ Aside0 (kq ≤ kj1) ∧ Aside0 (w'.heap[gb461]? = some (.cells #[.int .i64 a0_0, (.slice A0_1 l0_1.length c0_1)] 26 (0, 0))) ∧ Aside0 (Below w.heap.size w w'))
   case atStart => exact ⟨(0), zs, H', ⟨Nat.le_refl _⟩, ⟨zR BK461.out⟩, ⟨zT HB.out GE461.out⟩⟩
   case round =>
    clear H'
    try clear c1
    try clear c5
    try clear c6
    try clear c11
    try clear hcz10_0
    try clear hcz10_1
    try clear hcz8_0
    try clear hcz8_1
    try clear hcz9_0
    try clear hcz9_1
    try clear hfz10_0
    try clear hfz10_1
    try clear hfz8_0
    try clear hfz8_1
    try clear hfz9_0
    try clear hfz9_1
    obtain ⟨x3_2, rfl, HA, HK2, BK461, HB⟩ := hrel
    cases gk with
    | zero => exact absurd HA.out (by simp [spec_l02Is.l0])
    | succ k2 =>
     have H := HA.out
     clear HA
     simp only [spec_l02Is.l0] at H
     by_cases c12 : x3_2 < a0_0
     ·rw [if_pos c12] at H
      have c12b0 : decide (x3_2 < a0_0) = true := decide_eq_true c12
      clear c12
      by_cases c13 : 0 ≤ x3_2
      ·rw [if_pos c13] at H
       have c13b0 : decide (0 ≤ x3_2) = true := decide_eq_true c13
       clear c13
       by_cases c14 : x3_2 < (l0_1.length : Int)
       ·rw [if_pos c14] at H
        have c14b0 : decide (x3_2 < (l0_1.length : Int)) = true := decide_eq_true c14
        clear c14
        obtain ⟨t465, A15, H⟩ := zb H
        try dsimp only at H
        by_cases c16 : t465 = true
        ·subst c16
         rw [if_pos rfl] at H
         have H' := zA H
         clear H
         obtain ⟨hcz17_0, hcz17_1, hfz17_0, hfz17_1⟩ := zB3 BK461.out
         have p464 : 0 ≤ (x3_2 : Int) := zd
         have q464 : x3_2 < (l0_1.length : Int) := zd
         obtain ⟨ad464, e464, hx464_0⟩ := Kd.at_int HR0_1.out x3_2 p464 q464
         cases e464
         replace hx464_0 := (HB.out.cell (jG w _ hx464_0)).trans hx464_0
         replace p464 := eq_true p464
         replace q464 := eq_true q464
         go_wp2_with (first | (go_at_call 72; (with_reducible refine (spec_l01Bit.calls (rd l0_1 x3_2) x3_2 true _ A15.out).mono ?_); rintro e w' ⟨rfl, ⟨nd, rfl⟩⟩; (try exact zw)))
         repeat (go_quiet (first | (go_at_call 72; (with_reducible refine (spec_l01Bit.calls (rd l0_1 x3_2) x3_2 true _ A15.out).mono ?_); rintro e w' ⟨rfl, ⟨nd, rfl⟩⟩; (try exact zw))); try go_wp2_with (first | (go_at_call 72; (with_reducible refine (spec_l01Bit.calls (rd l0_1 x3_2) x3_2 true _ A15.out).mono ?_); rintro e w' ⟨rfl, ⟨nd, rfl⟩⟩; (try exact zw))))
         go_loopg [4] k2 (fun kq v4 w' => ∃ (x4_3 : Int), v4 = .int .i64 x4_3 ∧ Aside0 (spec_l02Is.l1 kq x3_2 x4_3 a0_0 l0_1 = some r) ∧ Aside0 (kq ≤ k2) ∧ Aside0 (w'.heap[gb461]? = some (.cells #[.int .i64 a0_0, (.slice (some ad464) l0_1.length c0_1)] 26 (0, 0))) ∧ Aside0 (Below w.heap.size w w'))
         case atStart => exact ⟨(0), zs, H', ⟨Nat.le_refl _⟩, ⟨zR BK461.out⟩, ⟨zT HB.out GE461.out⟩⟩
         case round =>
          clear H'
          try clear c1
          try clear hx4
          try clear c5
          try clear c6
          try clear c11
          try clear c12
          try clear c13
          try clear c14
          try clear c16
          try clear hcz10_0
          try clear hcz10_1
          try clear hcz17_0
          try clear hcz17_1
          try clear hcz8_0
          try clear hcz8_1
          try clear hcz9_0
          try clear hcz9_1
          try clear hfz10_0
          try clear hfz10_1
          try clear hfz17_0
          try clear hfz17_1
          try clear hfz8_0
          try clear hfz8_1
          try clear hfz9_0
          try clear hfz9_1
          try clear hx464_0
          obtain ⟨x4_3, rfl, HA, HK3, BK461, HB⟩ := hrel
          cases gk with
          | zero => exact absurd HA.out (by simp [spec_l02Is.l1])
          | succ k3 =>
           have H := HA.out
           clear HA
           simp only [spec_l02Is.l1] at H
           by_cases c18 : x4_3 < a0_0
           ·rw [if_pos c18] at H
            have c18b0 : decide (x4_3 < a0_0) = true := decide_eq_true c18
            clear c18
            by_cases c19 : 0 ≤ x3_2
            ·rw [if_pos c19] at H
             have c19b0 : decide (0 ≤ x3_2) = true := decide_eq_true c19
             clear c19
             by_cases c20 : x3_2 < (l0_1.length : Int)
             ·rw [if_pos c20] at H
              have c20b0 : decide (x3_2 < (l0_1.length : Int)) = true := decide_eq_true c20
              clear c20
              obtain ⟨t467, A21, H⟩ := zb H
              try dsimp only at H
              by_cases c22 : 0 ≤ x4_3
              ·rw [if_pos c22] at H
               have c22b0 : decide (0 ≤ x4_3) = true := decide_eq_true c22
               clear c22
               by_cases c23 : x4_3 < (l0_1.length : Int)
               ·rw [if_pos c23] at H
                have c23b0 : decide (x4_3 < (l0_1.length : Int)) = true := decide_eq_true c23
                clear c23
                obtain ⟨t469, A24, H⟩ := zb H
                try dsimp only at H
                by_cases c25 : (t467 != t469) = true
                ·rw [if_pos c25] at H
                 have c25b0 : (t467 != t469) = true := c25
                 (try (have c25b1 : decide (t467 = t469) = false := by simpa using c25))
                 (try (have c25b2 : (t467 == t469) = false := by simpa using c25))
                 (try (have c25b3 : ¬ (t467 = t469) := by simpa using c25))
                 clear c25
                 obtain rfl := Option.some.inj H
                 obtain ⟨hcz26_0, hcz26_1, hfz26_0, hfz26_1⟩ := zB3 BK461.out
                 have p466 : 0 ≤ (x3_2 : Int) := zd
                 have q466 : x3_2 < (l0_1.length : Int) := zd
                 obtain ⟨ad466, e466, hx466_0⟩ := Kd.at_int HR0_1.out x3_2 p466 q466
                 obtain rfl : ad464 = ad466 := (by injection e466)
                 replace hx466_0 := (HB.out.cell (jG w _ hx466_0)).trans hx466_0
                 replace p466 := eq_true p466
                 replace q466 := eq_true q466
                 go_wp2_with (first | (go_at_call 72; (with_reducible refine (spec_l01Bit.calls (rd l0_1 x3_2) x4_3 t467 _ A21.out).mono ?_); rintro e w' ⟨rfl, ⟨nd, rfl⟩⟩; (try exact zw); have p468 : 0 ≤ (x4_3 : Int) := zd; have q468 : x4_3 < (l0_1.length : Int) := zd; obtain ⟨ad468, e468, hx468_0⟩ := Kd.at_int HR0_1.out x4_3 p468 q468; obtain rfl : ad464 = ad468 := (by injection e468); replace hx468_0 := (HB.out.cell (jG w _ hx468_0)).trans hx468_0; replace p468 := eq_true p468; replace q468 := eq_true q468) | (go_at_call 72; (with_reducible refine (spec_l01Bit.calls (rd l0_1 x4_3) x3_2 t469 _ A24.out).mono ?_); rintro e w' ⟨rfl, ⟨nd, rfl⟩⟩; (try exact zw)))
                 repeat (go_quiet (first | (go_at_call 72; (with_reducible refine (spec_l01Bit.calls (rd l0_1 x3_2) x4_3 t467 _ A21.out).mono ?_); rintro e w' ⟨rfl, ⟨nd, rfl⟩⟩; (try exact zw); have p468 : 0 ≤ (x4_3 : Int) := zd; have q468 : x4_3 < (l0_1.length : Int) := zd; obtain ⟨ad468, e468, hx468_0⟩ := Kd.at_int HR0_1.out x4_3 p468 q468; obtain rfl : ad464 = ad468 := (by injection e468); replace hx468_0 := (HB.out.cell (jG w _ hx468_0)).trans hx468_0; replace p468 := eq_true p468; replace q468 := eq_true q468) | (go_at_call 72; (with_reducible refine (spec_l01Bit.calls (rd l0_1 x4_3) x3_2 t469 _ A24.out).mono ?_); rintro e w' ⟨rfl, ⟨nd, rfl⟩⟩; (try exact zw))); try go_wp2_with (first | (go_at_call 72; (with_reducible refine (spec_l01Bit.calls (rd l0_1 x3_2) x4_3 t467 _ A21.out).mono ?_); rintro e w' ⟨rfl, ⟨nd, rfl⟩⟩; (try exact zw); have p468 : 0 ≤ (x4_3 : Int) := zd; have q468 : x4_3 < (l0_1.length : Int) := zd; obtain ⟨ad468, e468, hx468_0⟩ := Kd.at_int HR0_1.out x4_3 p468 q468; obtain rfl : ad464 = ad468 := (by injection e468); replace hx468_0 := (HB.out.cell (jG w _ hx468_0)).trans hx468_0; replace p468 := eq_true p468; replace q468 := eq_true q468) | (go_at_call 72; (with_reducible refine (spec_l01Bit.calls (rd l0_1 x4_3) x3_2 t469 _ A24.out).mono ?_); rintro e w' ⟨rfl, ⟨nd, rfl⟩⟩; (try exact zw))))
                 go_ret
                 exact ⟨zr, zT HB.out GE461.out⟩
                rw [if_neg c25] at H
                have c25b0 : (t467 != t469) = false := by simpa using c25
                (try (have c25b1 : decide (t467 = t469) = true := by simpa using c25))
                (try (have c25b2 : (t467 == t469) = true := by simpa using c25))
                clear c25
                have H' := zA H
                clear H
                obtain ⟨hcz27_0, hcz27_1, hfz27_0, hfz27_1⟩ := zB3 BK461.out
                have p466 : 0 ≤ (x3_2 : Int) := zd
                have q466 : x3_2 < (l0_1.length : Int) := zd
                obtain ⟨ad466, e466, hx466_0⟩ := Kd.at_int HR0_1.out x3_2 p466 q466
                obtain rfl : ad464 = ad466 := (by injection e466)
                replace hx466_0 := (HB.out.cell (jG w _ hx466_0)).trans hx466_0
                replace p466 := eq_true p466
                replace q466 := eq_true q466
                go_wp2_with (first | (go_at_call 72; (with_reducible refine (spec_l01Bit.calls (rd l0_1 x3_2) x4_3 t467 _ A21.out).mono ?_); rintro e w' ⟨rfl, ⟨nd, rfl⟩⟩; (try exact zw); have p468 : 0 ≤ (x4_3 : Int) := zd; have q468 : x4_3 < (l0_1.length : Int) := zd; obtain ⟨ad468, e468, hx468_0⟩ := Kd.at_int HR0_1.out x4_3 p468 q468; obtain rfl : ad464 = ad468 := (by injection e468); replace hx468_0 := (HB.out.cell (jG w _ hx468_0)).trans hx468_0; replace p468 := eq_true p468; replace q468 := eq_true q468) | (go_at_call 72; (with_reducible refine (spec_l01Bit.calls (rd l0_1 x4_3) x3_2 t469 _ A24.out).mono ?_); rintro e w' ⟨rfl, ⟨nd, rfl⟩⟩; (try exact zw)))
                repeat (go_quiet (first | (go_at_call 72; (with_reducible refine (spec_l01Bit.calls (rd l0_1 x3_2) x4_3 t467 _ A21.out).mono ?_); rintro e w' ⟨rfl, ⟨nd, rfl⟩⟩; (try exact zw); have p468 : 0 ≤ (x4_3 : Int) := zd; have q468 : x4_3 < (l0_1.length : Int) := zd; obtain ⟨ad468, e468, hx468_0⟩ := Kd.at_int HR0_1.out x4_3 p468 q468; obtain rfl : ad464 = ad468 := (by injection e468); replace hx468_0 := (HB.out.cell (jG w _ hx468_0)).trans hx468_0; replace p468 := eq_true p468; replace q468 := eq_true q468) | (go_at_call 72; (with_reducible refine (spec_l01Bit.calls (rd l0_1 x4_3) x3_2 t469 _ A24.out).mono ?_); rintro e w' ⟨rfl, ⟨nd, rfl⟩⟩; (try exact zw))); try go_wp2_with (first | (go_at_call 72; (with_reducible refine (spec_l01Bit.calls (rd l0_1 x3_2) x4_3 t467 _ A21.out).mono ?_); rintro e w' ⟨rfl, ⟨nd, rfl⟩⟩; (try exact zw); have p468 : 0 ≤ (x4_3 : Int) := zd; have q468 : x4_3 < (l0_1.length : Int) := zd; obtain ⟨ad468, e468, hx468_0⟩ := Kd.at_int HR0_1.out x4_3 p468 q468; obtain rfl : ad464 = ad468 := (by injection e468); replace hx468_0 := (HB.out.cell (jG w _ hx468_0)).trans hx468_0; replace p468 := eq_true p468; replace q468 := eq_true q468) | (go_at_call 72; (with_reducible refine (spec_l01Bit.calls (rd l0_1 x4_3) x3_2 t469 _ A24.out).mono ?_); rintro e w' ⟨rfl, ⟨nd, rfl⟩⟩; (try exact zw))))
                go_roundg k3
                case measure => have := HJ1.out; have := HK2.out; have := HK3.out; omega
                case rel => exact ⟨(wrap64 (x4_3 + 1)), zs, H', ⟨by have := HJ1.out; have := HK2.out; have := HK3.out; omega⟩, ⟨zR BK461.out⟩, ⟨zT HB.out GE461.out⟩⟩
               rw [if_neg c23] at H
               exact absurd H (by simp)
              rw [if_neg c22] at H
              exact absurd H (by simp)
             rw [if_neg c20] at H
             exact absurd H (by simp)
            rw [if_neg c19] at H
            exact absurd H (by simp)
           rw [if_neg c18] at H
           have c18b0 : decide (x4_3 < a0_0) = false := decide_eq_false c18
           clear c18
           have H' := zA H
           clear H
           obtain ⟨hcz28_0, hcz28_1, hfz28_0, hfz28_1⟩ := zB3 BK461.out
           go_wp2
           repeat (go_quiet (fail); try go_wp2)
           go_roundg k3
           case measure => have := HJ1.out; have := HK2.out; have := HK3.out; omega
           case rel => exact ⟨(wrap64 (x3_2 + 1)), zs, H', ⟨by have := HJ1.out; have := HK2.out; have := HK3.out; omega⟩, ⟨zR BK461.out⟩, ⟨zT HB.out GE461.out⟩⟩
        replace c16 := Bool.eq_false_iff.mpr c16
        subst c16
        rw [if_neg (show ¬ (false = true) by decide)] at H
        obtain rfl := Option.some.inj H
        obtain ⟨hcz29_0, hcz29_1, hfz29_0, hfz29_1⟩ := zB3 BK461.out
        have p464 : 0 ≤ (x3_2 : Int) := zd
        have q464 : x3_2 < (l0_1.length : Int) := zd
        obtain ⟨ad464, e464, hx464_0⟩ := Kd.at_int HR0_1.out x3_2 p464 q464
        cases e464
        replace hx464_0 := (HB.out.cell (jG w _ hx464_0)).trans hx464_0
        replace p464 := eq_true p464
        replace q464 := eq_true q464
        go_wp2_with (first | (go_at_call 72; (with_reducible refine (spec_l01Bit.calls (rd l0_1 x3_2) x3_2 false _ A15.out).mono ?_); rintro e w' ⟨rfl, ⟨nd, rfl⟩⟩; (try exact zw)))
        repeat (go_quiet (first | (go_at_call 72; (with_reducible refine (spec_l01Bit.calls (rd l0_1 x3_2) x3_2 false _ A15.out).mono ?_); rintro e w' ⟨rfl, ⟨nd, rfl⟩⟩; (try exact zw))); try go_wp2_with (first | (go_at_call 72; (with_reducible refine (spec_l01Bit.calls (rd l0_1 x3_2) x3_2 false _ A15.out).mono ?_); rintro e w' ⟨rfl, ⟨nd, rfl⟩⟩; (try exact zw))))
        go_ret
        exact ⟨zr, zT HB.out GE461.out⟩
       rw [if_neg c14] at H
       exact absurd H (by simp)
      rw [if_neg c13] at H
      exact absurd H (by simp)
     rw [if_neg c12] at H
     have c12b0 : decide (x3_2 < a0_0) = false := decide_eq_false c12
     clear c12
     obtain rfl := Option.some.inj H
     obtain ⟨hcz30_0, hcz30_1, hfz30_0, hfz30_1⟩ := zB3 BK461.out
     go_wp2
     repeat (go_quiet (fail); try go_wp2)
     go_ret
     exact ⟨zr, zT HB.out GE461.out⟩

/-! ### spec_l06Code: function 35 -/
def spec_l06Code.f (k : Nat) (a0_0 : Int) (l0_1 : List Int) (a1 : Int) : Option (Int) := (spec_l02Is.f k a0_0 l0_1).bind fun t471 => (if t471 = true then ((spec_l01In.f a1 0 24).bind fun t472 => (if t472 = true then (some 0) else (some 2))) else (some 1))

set_option maxHeartbeats 8000000 in
set_option maxRecDepth 100000 in
theorem spec_l06Code.calls (k : Nat) (a0_0 : Int) (A0_1 : Option Addr) (c0_1 : Nat) (l0_1 : List Int) (a1 : Int) (r : Int) (w : World) (hr0_1 : Kd.C (Kd.int .i64) w A0_1 l0_1.length l0_1) (hc0_1 : l0_1.length ≤ c0_1) (h : spec_l06Code.f k a0_0 l0_1 a1 = some r) :
  Calls Tryd.prog 35 #[.agg #[.int .i64 a0_0, .slice A0_1 l0_1.length c0_1], .int .i64 a1] w fun e w' => e = .returned (.int .i64 r) ∧ Below w.heap.size w w' := by
 have hu26 := Tryd.underlying26
 have HR0_1 := zA hr0_1
 have HC0_1 := zA hc0_1
 clear hr0_1 hc0_1
 have HB := zA (kW w.heap.size w)
 have H := h
 unfold spec_l06Code.f at H
 clear h
 obtain ⟨t471, A3, H⟩ := zb H
 try dsimp only at H
 by_cases c4 : t471 = true
 ·subst c4
  rw [if_pos rfl] at H
  obtain ⟨t472, A5, H⟩ := zb H
  try dsimp only at H
  by_cases c6 : t472 = true
  ·subst c6
   rw [if_pos rfl] at H
   obtain rfl := Option.some.inj H
   go_enter Tryd.func35, Tryd.ntmps35
   go_wp2_with (first | (refine zBE 2 #[.int .i64 a0_0, .slice A0_1 l0_1.length c0_1] 26 ?_; intro gb470 hg w7 hbox hb; have BK470 := zA (hbox); have GW470 := zA (zBH hg HB.out); have GE470 := zA (zBH hg HB.out); replace HB := zA (kQ (zQ HB.out) hb); clear hb hbox hg; obtain ⟨hcz8_0, hcz8_1, hfz8_0, hfz8_1⟩ := zB3 BK470.out) | (refine zO (some 6) Tryd.func69 #[.agg #[.int .i64 a0_0, .slice A0_1 l0_1.length c0_1]] ?_; (with_reducible refine (spec_l02Is.calls k a0_0 _ _ l0_1 true _ ?side1 ?side2 A3.out).mono ?_); (case side1 => exact zS (kO HR0_1.out HB.out)); (case side2 => exact HC0_1.out); rintro e w9 ⟨rfl, hb⟩; refine ⟨_, rfl, ?_⟩; replace BK470 := zA (zB1 BK470.out hb); replace HB := zA (kQ (zT HB.out GE470.out) hb); (try clear hb)) | (refine zO (some 9) Tryd.func70 #[.int .i64 a1, .int .i64 0, .int .i64 24] ?_; (with_reducible refine (spec_l01In.calls a1 0 24 true _ A5.out).mono ?_); rintro e w' ⟨rfl, ⟨nd, rfl⟩⟩; refine ⟨_, rfl, ?_⟩))
   go_ret
   exact ⟨zr, zT HB.out GE470.out⟩
  replace c6 := Bool.eq_false_iff.mpr c6
  subst c6
  rw [if_neg (show ¬ (false = true) by decide)] at H
  obtain rfl := Option.some.inj H
  go_enter Tryd.func35, Tryd.ntmps35
  go_wp2_with (first | (refine zBE 2 #[.int .i64 a0_0, .slice A0_1 l0_1.length c0_1] 26 ?_; intro gb470 hg w10 hbox hb; have BK470 := zA (hbox); have GW470 := zA (zBH hg HB.out); have GE470 := zA (zBH hg HB.out); replace HB := zA (kQ (zQ HB.out) hb); clear hb hbox hg; obtain ⟨hcz11_0, hcz11_1, hfz11_0, hfz11_1⟩ := zB3 BK470.out) | (refine zO (some 6) Tryd.func69 #[.agg #[.int .i64 a0_0, .slice A0_1 l0_1.length c0_1]] ?_; (with_reducible refine (spec_l02Is.calls k a0_0 _ _ l0_1 true _ ?side1 ?side2 A3.out).mono ?_); (case side1 => exact zS (kO HR0_1.out HB.out)); (case side2 => exact HC0_1.out); rintro e w12 ⟨rfl, hb⟩; refine ⟨_, rfl, ?_⟩; replace BK470 := zA (zB1 BK470.out hb); replace HB := zA (kQ (zT HB.out GE470.out) hb); (try clear hb)) | (refine zO (some 9) Tryd.func70 #[.int .i64 a1, .int .i64 0, .int .i64 24] ?_; (with_reducible refine (spec_l01In.calls a1 0 24 false _ A5.out).mono ?_); rintro e w' ⟨rfl, ⟨nd, rfl⟩⟩; refine ⟨_, rfl, ?_⟩))
  go_ret
  exact ⟨zr, zT HB.out GE470.out⟩
 replace c4 := Bool.eq_false_iff.mpr c4
 subst c4
 rw [if_neg (show ¬ (false = true) by decide)] at H
 obtain rfl := Option.some.inj H
 go_enter Tryd.func35, Tryd.ntmps35
 go_wp2_with (first | (refine zBE 2 #[.int .i64 a0_0, .slice A0_1 l0_1.length c0_1] 26 ?_; intro gb470 hg w13 hbox hb; have BK470 := zA (hbox); have GW470 := zA (zBH hg HB.out); have GE470 := zA (zBH hg HB.out); replace HB := zA (kQ (zQ HB.out) hb); clear hb hbox hg; obtain ⟨hcz14_0, hcz14_1, hfz14_0, hfz14_1⟩ := zB3 BK470.out) | (refine zO (some 6) Tryd.func69 #[.agg #[.int .i64 a0_0, .slice A0_1 l0_1.length c0_1]] ?_; (with_reducible refine (spec_l02Is.calls k a0_0 _ _ l0_1 false _ ?side1 ?side2 A3.out).mono ?_); (case side1 => exact zS (kO HR0_1.out HB.out)); (case side2 => exact HC0_1.out); rintro e w15 ⟨rfl, hb⟩; refine ⟨_, rfl, ?_⟩; replace BK470 := zA (zB1 BK470.out hb); replace HB := zA (kQ (zT HB.out GE470.out) hb); (try clear hb)))
 go_ret
 exact ⟨zr, zT HB.out GE470.out⟩

end Go.Proofs.YtcboobfmenonhaaDoor.PAll
