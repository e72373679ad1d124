-- Printed by a program of the session (wip/tools/pgen.py) out of the translation. Not trusted: Lean checks it.
import Derived.Test.YtkiacoilecdepaaDoorPAllx0
import Derived.Test.YtkiacoilecdepaaDoorPAllx1
import Derived.Test.YtkiacoilecdepaaDoorPAllx2
import Derived.Test.YtkiacoilecdepaaDoorPAllx3
import Derived.Test.YtkiacoilecdepaaDoorPAllx4
import Derived.Test.YtkiacoilecdepaaDoorPAllx6
import Derived.Test.YtkiacoilecdepaaDoorPAllx7
import Derived.Test.YtkiacoilecdepaaDoorPAllx13
namespace Go.Proofs.YtkiacoilecdepaaDoor.PAll
open Go.RowKit Go.Proofs.YtkiacoilecdepaaDoor.T Go.Proofs.YtkiacoilecdepaaDoorW.PrintWords Go.Proofs.YtkiacoilecdepaaDoorW.PrintLast Go.Proofs.YtkiacoilecdepaaDoorW.PrintMore
attribute [local go_sem] max2_int min2_int max_two min_two max_three min_three max_four min_four   -- for this text's walks alone
set_option linter.unusedVariables false
set_option linter.unusedSimpArgs false

/-! ### spec_PrefixIn: function 19 -/
mutual
def spec_PrefixIn.j0 : Nat → List Int → Int → Int → Bool → Int → List Int → Option (List Int × Int)
 | 0, _, _, _, _, _, _ => none
 | k + 1, x1, x2, x8, x25, x624000, x624001 => if x25 = true then (spec_PrefixIn.j1 k x1 x2 2 x624000 x624001) else (spec_PrefixIn.j1 k x1 x2 x8 x624000 x624001)
def spec_PrefixIn.j1 : Nat → List Int → Int → Int → Int → List Int → Option (List Int × Int)
 | 0, _, _, _, _, _ => none
 | k + 1, x1, x2, x8, x624000, x624001 => if x8 = 0 then (spec_PrefixIn.l0 k x1 x2 (([] : List Int)) (([] : List Int)) 0 x624000 x624001) else (some (([] : List Int), x8))
def spec_PrefixIn.l0 : Nat → List Int → Int → List Int → List Int → Int → Int → List Int → Option (List Int × Int)
 | 0, _, _, _, _, _, _, _ => none
 | k + 1, x1, x2, x9, x10, x11, x624000, x624001 => if x11 < (x1.length : Int) then (if 0 ≤ x11 then ((spec_l01Bit.f x2 (rd x1 x11)).bind fun t637 => (if t637 = true then ((spec_l05Independent.f k x624000 x624001 (([rd x1 x11] : List Int)) x10).bind fun t642 => (if t642 = true then (if x9.length < 17592186044416 then (spec_PrefixIn.l0 k x1 x2 (x9 ++ [rd x1 x11]) x10 (wrap64 (x11 + 1)) x624000 x624001) else (none)) else (if x10.length < 17592186044416 then (spec_PrefixIn.l0 k x1 x2 x9 (x10 ++ [rd x1 x11]) (wrap64 (x11 + 1)) x624000 x624001) else (none)))) else (if x10.length < 17592186044416 then (spec_PrefixIn.l0 k x1 x2 x9 (x10 ++ [rd x1 x11]) (wrap64 (x11 + 1)) x624000 x624001) else (none)))) else (none)) else ((spec_l03Normal.f k x624000 x624001 x9).bind fun t633 => (some (t633, 0)))
end
def spec_PrefixIn.f (k : Nat) (a0_0 : Int) (l0_1 : List Int) (l1 : List Int) (a2 : Int) : Option (List Int × Int) := (spec_l03Code.f k a0_0 l0_1 l1 l1).bind fun t624 => (if t624 = 0 then ((spec_l01Full.f a0_0).bind fun t625 => ((spec_l01In.f a2 0 t625).bind fun t626 => (spec_PrefixIn.j0 k l1 a2 t624 (!t626) a0_0 l0_1))) else (spec_PrefixIn.j0 k l1 a2 t624 false a0_0 l0_1))

def spec_PrefixIn.T10 : Bool × List (List Nat × List Nat) := (true, [([], []), ([], []), ([], []), ([1, 2], [1, 2]), ([3], [3]), ([0, 4], [0, 4]), ([5, 5], [5]), ([6], [6]), ([6], [6]), ([6], [6]), ([8, 9, 6], [6, 8, 9]), ([10, 6], [6, 10]), ([11, 6], [6, 11]), ([6], [6]), ([7, 12, 13, 6, 6], [6, 7, 12, 13]), ([6, 14], [6, 14])])
def spec_PrefixIn.B10 : List Nat := [0, 0, 0, 6, 14, 31, 63, 127, 127, 127, 895, 1919, 3967, 127, 16383, 32767]
theorem spec_PrefixIn.tab10 : rtab .any (opsOf Tryd.f19 10) = spec_PrefixIn.T10 := by kernel_rfl
theorem spec_PrefixIn.bits10 : waitsOk spec_PrefixIn.T10.2 spec_PrefixIn.B10 = true := by kernel_rfl
set_option maxHeartbeats 8000000 in
set_option maxRecDepth 100000 in
theorem spec_PrefixIn.calls (k : Nat) (a0_0 : Int) (A0_1 : Option Addr) (c0_1 : Nat) (l0_1 : List Int) (A1 : Option Addr) (c1 : Nat) (l1 : List Int) (a2 : Int) (r1 : List Int) (r2 : Int) (w : World) (hr0_1 : Kd.C (Kd.int .i64) w A0_1 l0_1.length l0_1) (hc0_1 : l0_1.length ≤ c0_1) (hr1 : Kd.C (Kd.int .i64) w A1 l1.length l1) (hc1 : l1.length ≤ c1) (h : spec_PrefixIn.f k a0_0 l0_1 l1 a2 = some (r1, r2)) :
  Calls Tryd.prog 19 #[.agg #[.int .i64 a0_0, .slice A0_1 l0_1.length c0_1], .slice A1 l1.length c1, .int .i64 a2] w fun e w' => ∃ v0_ : Value, e = .returned (.tuple #[v0_, .int .i64 r2]) ∧ Kd.R (Kd.int .i64) 2 w' w.heap.size (fun _ => True) v0_ r1 ∧ Below w.heap.size w w' := by
 have hu26 := Tryd.underlying26
 have HR0_1 := zA hr0_1
 have HC0_1 := zA hc0_1
 clear hr0_1 hc0_1
 have HR1 := zA hr1
 have HC1 := zA hc1
 clear hr1 hc1
 have HB := zA (Below.refl w.heap.size w)
 have H : ((spec_l03Code.f k a0_0 l0_1 l1 l1).bind fun t624 => (if t624 = 0 then ((spec_l01Full.f a0_0).bind fun t625 => ((spec_l01In.f a2 0 t625).bind fun t626 => (spec_PrefixIn.j0 k l1 a2 t624 (!t626) a0_0 l0_1))) else (spec_PrefixIn.j0 k l1 a2 t624 false a0_0 l0_1))) = some (r1, r2) := h
 clear h
 replace H := Option.bind_eq_some_iff.mp H
 obtain ⟨t624, A40, H⟩ := H
 replace H : (if t624 = 0 then ((spec_l01Full.f a0_0).bind fun t625 => ((spec_l01In.f a2 0 t625).bind fun t626 => (spec_PrefixIn.j0 k l1 a2 t624 (!t626) a0_0 l0_1))) else (spec_PrefixIn.j0 k l1 a2 t624 false a0_0 l0_1)) = some (r1, r2) := H
 have A4 := zA A40
 clear A40
 have HC5 := zA H
 clear H
 go_enter Tryd.func19, Tryd.ntmps19
 go_upto_region 2 with (first | ((with_reducible refine gate_dst (N := 3) rfl ?_); refine box_event ?hg (N := 3) ?hd (cs := #[.int .i64 a0_0, .slice A0_1 l0_1.length c0_1]) (t := 26) ?hr ?_; (case hd => rfl); (case hg => rfl); (case hr => first | (go_simp; done) | (go_simp; rfl)); intro gb623 hg w6 hbox hb; have n0_ := zA (below_step (zQ HB.out) hb); have n1_ := zA (hbox); have n2_ := zA ((by rw [hg]; exact (below_size (zQ HB.out)) : w.heap.size ≤ gb623)); have n3_ := zA ((by rw [hg]; exact (below_size (zQ HB.out)) : w.heap.size ≤ gb623)); clear HB; have HB := n0_; have BK623 := n1_; have GW623 := n2_; have GE623 := n3_; clear n0_ n1_ n2_ n3_; clear hb hbox hg; have hcz7_0 : w6.cell? ⟨gb623, 0, none⟩ = some (.int .i64 a0_0) := (blk_cell BK623.out 0).trans rfl; have hcz7_1 : w6.cell? ⟨gb623, 1, none⟩ = some (.slice A0_1 l0_1.length c0_1) := (blk_cell BK623.out 1).trans rfl; have hfz7_0 := blk_frozen BK623.out 0; have hfz7_1 := blk_frozen BK623.out 1) | ((with_reducible refine gate_callee (f := 52) rfl ?_); refine zO (some 15) Tryd.func52 #[.agg #[.int .i64 a0_0, .slice A0_1 l0_1.length c0_1], .slice A1 l1.length c1, .slice A1 l1.length c1] ?_; (with_reducible refine (spec_l03Code.calls k a0_0 _ _ l0_1 _ _ l1 _ _ l1 t624 _ ?side1 ?side2 ?side3 ?side4 ?side5 ?side6 A4.out).mono ?_); (case side1 => repeat (first | exact (Kd.C_below HR0_1.out HB.out) | (with_reducible refine Kd.C_alloc ?_ _) | (with_reducible refine Kd.C_drewN ?_ _) | (with_reducible refine Kd.C_drew ?_))); (case side2 => exact HC0_1.out); (case side3 => repeat (first | exact (Kd.C_below HR1.out HB.out) | (with_reducible refine Kd.C_alloc ?_ _) | (with_reducible refine Kd.C_drewN ?_ _) | (with_reducible refine Kd.C_drew ?_))); (case side4 => exact HC1.out); (case side5 => repeat (first | exact (Kd.C_below HR1.out HB.out) | (with_reducible refine Kd.C_alloc ?_ _) | (with_reducible refine Kd.C_drewN ?_ _) | (with_reducible refine Kd.C_drew ?_))); (case side6 => exact HC1.out); rintro e w8 ⟨rfl, hb⟩; refine ⟨_, rfl, ?_⟩; have n0_ := zA (blk_below (g := gb623) (o := .cells #[.int .i64 a0_0, .slice A0_1 l0_1.length c0_1] 26 (0, 0)) (zR BK623.out) hb); have n1_ := zA (below_step (zT HB.out GE623.out) hb); clear BK623; clear HB; have BK623 := n0_; have HB := n1_; clear n0_ n1_; (try clear hb)))
 (try simp only [Act.put, zL, zM, zN])
 go_cut [25] (fun v25 wc => ∃ (kq : Nat) (x25_4 : Bool), v25 = .bool x25_4 ∧ Aside0 (spec_PrefixIn.j0 kq l1 a2 t624 x25_4 a0_0 l0_1 = some (r1, r2)) ∧ Aside0 (kq ≤ k) ∧ Aside0 (wc.heap[gb623]? = some (.cells #[.int .i64 a0_0, (.slice A0_1 l0_1.length c0_1)] 26 (0, 0))) ∧ Aside0 (Below w.heap.size w wc))
 case first =>
  have H := HC5.out
  clear HC5
  by_cases c9 : t624 = 0
  ·rw [if_pos c9] at H
   have c9b0 : (t624 == 0) = true := beq_iff_eq.mpr c9
   have c9b1 : (t624 != 0) = false := bne_eq_false_iff_eq.mpr c9
   clear c9
   (first | rw [c9b0] | (simp only [i64_w, i32_w]; rw [c9b0]) | skip)
   replace H := Option.bind_eq_some_iff.mp H
   obtain ⟨t625, A100, H⟩ := H
   replace H : ((spec_l01In.f a2 0 t625).bind fun t626 => (spec_PrefixIn.j0 k l1 a2 t624 (!t626) a0_0 l0_1)) = some (r1, r2) := H
   have A10 := zA A100
   clear A100
   replace H := Option.bind_eq_some_iff.mp H
   obtain ⟨t626, A110, H⟩ := H
   replace H : (spec_PrefixIn.j0 k l1 a2 t624 (!t626) a0_0 l0_1) = some (r1, r2) := H
   have A11 := zA A110
   clear A110
   have H' := zA H
   clear H
   have hcz12_0 : w8.cell? ⟨gb623, 0, none⟩ = some (.int .i64 a0_0) := (blk_cell BK623.out 0).trans rfl
   have hcz12_1 : w8.cell? ⟨gb623, 1, none⟩ = some (.slice A0_1 l0_1.length c0_1) := (blk_cell BK623.out 1).trans rfl
   have hfz12_0 := blk_frozen BK623.out 0
   have hfz12_1 := blk_frozen BK623.out 1
   go_wp2_with (first | (go_at_call 65; (with_reducible refine (spec_l01Full.calls a0_0 t625 _ A10.out).mono ?_); rintro e w' ⟨rfl, ⟨nd, rfl⟩⟩) | (go_at_call 64; (with_reducible refine (spec_l01In.calls a2 0 t625 t626 _ A11.out).mono ?_); rintro e w' ⟨rfl, ⟨nd, rfl⟩⟩))
   go_meet
   case rel => exact ⟨_, (!t626), (by first | rfl | (simp; done) | (simp [*]; done)), H', ⟨by first | omega | exact Nat.le_refl _⟩, ⟨by (with_reducible repeat (first | refine zJ ?_ _ | refine zK ?_ | refine zI ?_ _)); exact BK623.out⟩, ⟨zT HB.out GE623.out⟩⟩
  rw [if_neg c9] at H
  have c9b0 : (t624 == 0) = false := beq_eq_false_iff_ne.mpr c9
  have c9b1 : (t624 != 0) = true := bne_iff_ne.mpr c9
  (first | rw [c9b0] | (simp only [i64_w, i32_w]; rw [c9b0]) | skip)
  have H' := zA H
  clear H
  go_wp2
  go_meet
  case rel => exact ⟨_, (false), (by first | rfl | (simp; done) | (simp [*]; done)), H', ⟨by first | omega | exact Nat.le_refl _⟩, ⟨by (with_reducible repeat (first | refine zJ ?_ _ | refine zK ?_ | refine zI ?_ _)); exact BK623.out⟩, ⟨zT HB.out GE623.out⟩⟩
 case rest =>
  clear HC5
  try clear c1
  try clear p2
  try clear c5
  try clear c9
  try clear c9b0
  try clear c9b1
  try clear hcz12_0
  try clear hcz12_1
  try clear hcz7_0
  try clear hcz7_1
  try clear hfz12_0
  try clear hfz12_1
  try clear hfz7_0
  try clear hfz7_1
  obtain ⟨kq, x25_4, rfl, HA, HJ4, BK623, HB⟩ := hcut
  cases kq with
  | zero => exact absurd HA.out (by simp [spec_PrefixIn.j0])
  | succ kj4 =>
   have H := HA.out
   clear HA
   simp only [spec_PrefixIn.j0] at H
   have HC13 := zA H
   clear H
   go_upto_if 25 with (fail)
   go_cut [8] (fun v8 wc => ∃ (kq : Nat) (x8_12 : Int), v8 = .int .i64 x8_12 ∧ Aside0 (spec_PrefixIn.j1 kq l1 a2 x8_12 a0_0 l0_1 = some (r1, r2)) ∧ Aside0 (kq ≤ kj4) ∧ Aside0 (wc.heap[gb623]? = some (.cells #[.int .i64 a0_0, (.slice A0_1 l0_1.length c0_1)] 26 (0, 0))) ∧ Aside0 (Below w.heap.size w wc))
   case first =>
    have H := HC13.out
    clear HC13
    by_cases c14 : x25_4 = true
    ·subst c14
     have H1 : (spec_PrefixIn.j1 kj4 l1 a2 2 a0_0 l0_1) = some (r1, r2) := by rw [if_pos rfl] at H; exact H
     clear H
     have H := H1
     clear H1
     have H' := zA H
     clear H
     go_wp2
     go_meet
     case rel => exact ⟨_, (2), (by first | rfl | (simp; done) | (simp [*]; done)), H', ⟨by have := HJ4.out; first | omega | exact Nat.le_refl _⟩, ⟨by (with_reducible repeat (first | refine zJ ?_ _ | refine zK ?_ | refine zI ?_ _)); exact BK623.out⟩, ⟨zT HB.out GE623.out⟩⟩
    replace c14 := Bool.eq_false_iff.mpr c14
    subst c14
    have H1 : (spec_PrefixIn.j1 kj4 l1 a2 t624 a0_0 l0_1) = some (r1, r2) := by rw [if_neg (show ¬ (false = true) by decide)] at H; exact H
    clear H
    have H := H1
    clear H1
    have H' := zA H
    clear H
    go_wp2
    go_meet
    case rel => exact ⟨_, (t624), (by first | rfl | (simp; done) | (simp [*]; done)), H', ⟨by have := HJ4.out; first | omega | exact Nat.le_refl _⟩, ⟨by (with_reducible repeat (first | refine zJ ?_ _ | refine zK ?_ | refine zI ?_ _)); exact BK623.out⟩, ⟨zT HB.out GE623.out⟩⟩
   case rest =>
    clear HC13
    try clear c1
    try clear p2
    try clear c5
    try clear c9
    try clear c9b0
    try clear c9b1
    try clear c14
    try clear hcz12_0
    try clear hcz12_1
    try clear hcz7_0
    try clear hcz7_1
    try clear hfz12_0
    try clear hfz12_1
    try clear hfz7_0
    try clear hfz7_1
    try clear p2
    obtain ⟨kq, x8_12, rfl, HA, HJ12, BK623, HB⟩ := hcut
    cases kq with
    | zero => exact absurd HA.out (by simp [spec_PrefixIn.j1])
    | succ kj12 =>
     have H := HA.out
     clear HA
     simp only [spec_PrefixIn.j1] at H
     by_cases c15 : x8_12 = 0
     ·rw [if_pos c15] at H
      have c15b0 : (x8_12 == 0) = true := beq_iff_eq.mpr c15
      have c15b1 : (x8_12 != 0) = false := bne_eq_false_iff_eq.mpr c15
      clear c15
      obtain ⟨y627, hy627⟩ : ∃ y_ : List Int, y_ = (([] : List Int)) := ⟨_, rfl⟩
      replace H : (spec_PrefixIn.l0 kj12 l1 a2 y627 (([] : List Int)) 0 a0_0 l0_1) = some (r1, r2) := by first | (rw [hy627]; with_reducible exact H) | (have H2_ := (Option.bind_some _ _).symm.trans H; rw [hy627]; with_reducible exact H2_) | (have H2_ := (Option.bind_some _ _).symm.trans H; with_reducible exact H2_) | with_reducible exact H | (rw [hy627]; exact H) | exact H
      have Ny627 := zA hy627
      clear hy627
      obtain ⟨y630, hy630⟩ : ∃ y_ : List Int, y_ = (([] : List Int)) := ⟨_, rfl⟩
      replace H : (spec_PrefixIn.l0 kj12 l1 a2 y627 y630 0 a0_0 l0_1) = some (r1, r2) := by first | (rw [hy630]; with_reducible exact H) | (have H2_ := (Option.bind_some _ _).symm.trans H; rw [hy630]; with_reducible exact H2_) | (have H2_ := (Option.bind_some _ _).symm.trans H; with_reducible exact H2_) | with_reducible exact H | (rw [hy630]; exact H) | exact H
      have Ny630 := zA hy630
      clear hy630
      have H' := zA H
      clear H
      go_wp2_with (first | ((with_reducible refine gate_dst (N := 29) rfl ?_); refine Kd.R_lit (Kd.int .i64) _ 2 ?hg (N := 29) ?hd (xs := ([] : List Int)) (inner := []) (ok := fun _ => True) (okp := fun _ => True) ?hr ?hp (fun _ hk => hk) trivial (Below.refl _ _) (Nat.le_refl _) (by simp) ?_; (case hd => rfl); (case hg => rfl); (case hr => first | (go_simp; done) | (go_simp; rfl)); (case hp => exact (Reps.none _ _)); intro v628 w16 ho17 hb hg_ hnew_; clear hg_ hnew_; (first | rw [← Ny627.out] at ho17 | (simp only [Int.reduceToNat] at ho17; rw [← Ny627.out] at ho17)); have n0_ := zA (Kd.R_lower ho17 (below_size (zT HB.out GE623.out))); have n1_ := zA (blk_below (g := gb623) (o := .cells #[.int .i64 a0_0, .slice A0_1 l0_1.length c0_1] 26 (0, 0)) (zR BK623.out) hb); have n2_ := zA (below_step (zT HB.out GE623.out) hb); clear BK623; clear HB; have HO629 := n0_; have BK623 := n1_; have HB := n2_; clear n0_ n1_ n2_; clear hb ho17) | ((with_reducible refine gate_dst (N := 30) rfl ?_); refine Kd.R_lit (Kd.int .i64) _ 2 ?hg (N := 30) ?hd (xs := ([] : List Int)) (inner := []) (ok := fun _ => True) (okp := fun _ => True) ?hr ?hp (fun _ hk => hk) trivial (Below.refl _ _) (Nat.le_refl _) (by simp) ?_; (case hd => rfl); (case hg => rfl); (case hr => first | (go_simp; done) | (go_simp; rfl)); (case hp => exact (Reps.none _ _)); intro v631 w18 ho19 hb hg_ hnew_; clear hg_ hnew_; (first | rw [← Ny630.out] at ho19 | (simp only [Int.reduceToNat] at ho19; rw [← Ny630.out] at ho19)); have n0_ := zA (Kd.R_elder' (zP HO629.out) (Kd.R_base ho19) hb); have n1_ := zA (Kd.R_lower (Kd.R_new' ho19 (Kd.R_lt (zP HO629.out))) (below_size (zT HB.out GE623.out))); have n2_ := zA (blk_below (g := gb623) (o := .cells #[.int .i64 a0_0, .slice A0_1 l0_1.length c0_1] 26 (0, 0)) (zR BK623.out) hb); have n3_ := zA (below_step (zT HB.out GE623.out) hb); clear HO629; clear BK623; clear HB; have HO629 := n0_; have HO632 := n1_; have BK623 := n2_; have HB := n3_; clear n0_ n1_ n2_ n3_; clear hb ho19))
      go_loopg [9, 10, 11] kj12 (fun kq v9 v10 v11 w' => ∃ (x9_3 : List Int) (x10_3 : List Int) (x11_3 : Int), v11 = .int .i64 x11_3 ∧ Aside0 (spec_PrefixIn.l0 kq l1 a2 x9_3 x10_3 x11_3 a0_0 l0_1 = some (r1, r2)) ∧ Aside0 (kq ≤ kj12) ∧ Aside0 (Kd.R (Kd.int .i64) 2 w' w.heap.size (fun k_ => some k_ ≠ (v10 : Value).ownBlock) v9 x9_3) ∧ Aside0 (Kd.R (Kd.int .i64) 2 w' w.heap.size (fun k_ => some k_ ≠ (v9 : Value).ownBlock) v10 x10_3) ∧ Aside0 (w'.heap[gb623]? = some (.cells #[.int .i64 a0_0, (.slice A0_1 l0_1.length c0_1)] 26 (0, 0))) ∧ Aside0 (Below w.heap.size w w'))
      case atStart => exact ⟨(y627), (y630), (0), (by first | rfl | (simp; done) | (simp [*]; done)), H', ⟨Nat.le_refl _⟩, ⟨by (with_reducible repeat (first | apply zF | apply zG | apply zH)); exact Kd.R_mono HO629.out (fun _ hk => hk.2)⟩, ⟨by (with_reducible repeat (first | apply zF | apply zG | apply zH)); exact Kd.R_mono HO632.out (fun _ hk => hk.2)⟩, ⟨by (with_reducible repeat (first | refine zJ ?_ _ | refine zK ?_ | refine zI ?_ _)); exact BK623.out⟩, ⟨zT HB.out GE623.out⟩⟩
      case round =>
       clear H'
       try clear c1
       try clear p2
       try clear c5
       try clear c9
       try clear c9b0
       try clear c9b1
       try clear c14
       try clear c15
       try clear c15b0
       try clear c15b1
       try clear c19
       try clear hcz12_0
       try clear hcz12_1
       try clear hcz7_0
       try clear hcz7_1
       try clear hfz12_0
       try clear hfz12_1
       try clear hfz7_0
       try clear hfz7_1
       try clear p2
       obtain ⟨x9_3, x10_3, x11_3, rfl, HA, HK3, HO_9, HO_10, BK623, HB⟩ := hrel
       cases gk with
       | zero => exact absurd HA.out (by simp [spec_PrefixIn.l0])
       | succ k3 =>
        have H := HA.out
        clear HA
        simp only [spec_PrefixIn.l0] at H
        by_cases c20 : x11_3 < (l1.length : Int)
        ·rw [if_pos c20] at H
         have c20b0 : decide (x11_3 < (l1.length : Int)) = true := decide_eq_true c20
         clear c20
         by_cases c21 : 0 ≤ x11_3
         ·rw [if_pos c21] at H
          have c21b0 : decide (0 ≤ x11_3) = true := decide_eq_true c21
          clear c21
          replace H := Option.bind_eq_some_iff.mp H
          obtain ⟨t637, A220, H⟩ := H
          replace H : (if t637 = true then ((spec_l05Independent.f k3 a0_0 l0_1 (([rd l1 x11_3] : List Int)) x10_3).bind fun t642 => (if t642 = true then (if x9_3.length < 17592186044416 then (spec_PrefixIn.l0 k3 l1 a2 (x9_3 ++ [rd l1 x11_3]) x10_3 (wrap64 (x11_3 + 1)) a0_0 l0_1) else (none)) else (if x10_3.length < 17592186044416 then (spec_PrefixIn.l0 k3 l1 a2 x9_3 (x10_3 ++ [rd l1 x11_3]) (wrap64 (x11_3 + 1)) a0_0 l0_1) else (none)))) else (if x10_3.length < 17592186044416 then (spec_PrefixIn.l0 k3 l1 a2 x9_3 (x10_3 ++ [rd l1 x11_3]) (wrap64 (x11_3 + 1)) a0_0 l0_1) else (none))) = some (r1, r2) := H
          have A22 := zA A220
          clear A220
          by_cases c23 : t637 = true
          ·subst c23
           have H1 : ((spec_l05Independent.f k3 a0_0 l0_1 (([rd l1 x11_3] : List Int)) x10_3).bind fun t642 => (if t642 = true then (if x9_3.length < 17592186044416 then (spec_PrefixIn.l0 k3 l1 a2 (x9_3 ++ [rd l1 x11_3]) x10_3 (wrap64 (x11_3 + 1)) a0_0 l0_1) else (none)) else (if x10_3.length < 17592186044416 then (spec_PrefixIn.l0 k3 l1 a2 x9_3 (x10_3 ++ [rd l1 x11_3]) (wrap64 (x11_3 + 1)) a0_0 l0_1) else (none)))) = some (r1, r2) := by rw [if_pos rfl] at H; exact H
           clear H
           have H := H1
           clear H1
           obtain ⟨y639, hy639⟩ : ∃ y_ : List Int, y_ = (([rd l1 x11_3] : List Int)) := ⟨_, rfl⟩
           replace H : ((spec_l05Independent.f k3 a0_0 l0_1 y639 x10_3).bind fun t642 => (if t642 = true then (if x9_3.length < 17592186044416 then (spec_PrefixIn.l0 k3 l1 a2 (x9_3 ++ [rd l1 x11_3]) x10_3 (wrap64 (x11_3 + 1)) a0_0 l0_1) else (none)) else (if x10_3.length < 17592186044416 then (spec_PrefixIn.l0 k3 l1 a2 x9_3 (x10_3 ++ [rd l1 x11_3]) (wrap64 (x11_3 + 1)) a0_0 l0_1) else (none)))) = some (r1, r2) := by first | (rw [hy639]; with_reducible exact H) | (have H2_ := (Option.bind_some _ _).symm.trans H; rw [hy639]; with_reducible exact H2_) | (have H2_ := (Option.bind_some _ _).symm.trans H; with_reducible exact H2_) | with_reducible exact H | (rw [hy639]; exact H) | exact H
           have Ny639 := zA hy639
           clear hy639
           replace H := Option.bind_eq_some_iff.mp H
           obtain ⟨t642, A240, H⟩ := H
           replace H : (if t642 = true then (if x9_3.length < 17592186044416 then (spec_PrefixIn.l0 k3 l1 a2 (x9_3 ++ [rd l1 x11_3]) x10_3 (wrap64 (x11_3 + 1)) a0_0 l0_1) else (none)) else (if x10_3.length < 17592186044416 then (spec_PrefixIn.l0 k3 l1 a2 x9_3 (x10_3 ++ [rd l1 x11_3]) (wrap64 (x11_3 + 1)) a0_0 l0_1) else (none))) = some (r1, r2) := H
           have A24 := zA A240
           clear A240
           by_cases c25 : t642 = true
           ·subst c25
            have H1 : (if x9_3.length < 17592186044416 then (spec_PrefixIn.l0 k3 l1 a2 (x9_3 ++ [rd l1 x11_3]) x10_3 (wrap64 (x11_3 + 1)) a0_0 l0_1) else (none)) = some (r1, r2) := by rw [if_pos rfl] at H; exact H
            clear H
            have H := H1
            clear H1
            by_cases c26 : x9_3.length < 17592186044416
            ·rw [if_pos c26] at H
             have LMc26 := zA c26
             clear c26
             obtain ⟨y644, hy644⟩ : ∃ y_ : List Int, y_ = (x9_3 ++ [rd l1 x11_3]) := ⟨_, rfl⟩
             replace H : (spec_PrefixIn.l0 k3 l1 a2 y644 x10_3 (wrap64 (x11_3 + 1)) a0_0 l0_1) = some (r1, r2) := by first | (rw [hy644]; with_reducible exact H) | (have H2_ := (Option.bind_some _ _).symm.trans H; rw [hy644]; with_reducible exact H2_) | (have H2_ := (Option.bind_some _ _).symm.trans H; with_reducible exact H2_) | with_reducible exact H | (rw [hy644]; exact H) | exact H
             have Ny644 := zA hy644
             clear hy644
             have H' := zA H
             clear H
             try go_wp2
             have n0_ := zA (zH HO_9.out)
             have n1_ := zA (zH HO_10.out)
             have n2_ := zA (zK BK623.out)
             have n3_ := zA (zD HB.out)
             clear HO_9
             clear HO_10
             clear BK623
             clear HB
             have HO_9 := n0_
             have HO_10 := n1_
             have BK623 := n2_
             have HB := n3_
             clear n0_ n1_ n2_ n3_
             have p636 : 0 ≤ (x11_3 : Int) := of_decide_eq_true (by first | (with_reducible assumption) | assumption)
             have q636 : x11_3 < (l1.length : Int) := of_decide_eq_true (by first | (with_reducible assumption) | assumption)
             obtain ⟨ad636, e636, hx636_0⟩ := Kd.at_int HR1.out x11_3 p636 q636
             have hw636_0 := hx636_0
             cases e636
             replace hx636_0 := (HB.out.cell (World.block_lt_of_cell? w _ hx636_0)).trans hx636_0
             replace p636 := eq_true p636
             replace q636 := eq_true q636
             have p638 : 0 ≤ (x11_3 : Int) := of_decide_eq_true (by first | (with_reducible assumption) | assumption)
             have q638 : x11_3 < (l1.length : Int) := of_decide_eq_true (by first | (with_reducible assumption) | assumption)
             obtain ⟨ad638, e638, hx638_0⟩ := Kd.at_int HR1.out x11_3 p638 q638
             have hw638_0 := hx638_0
             obtain rfl : ad636 = ad638 := (by injection e638)
             replace hx638_0 := (HB.out.cell (World.block_lt_of_cell? w _ hx638_0)).trans hx638_0
             replace p638 := eq_true p638
             replace q638 := eq_true q638
             refine start_ (n := 16) (S := fun w' => w'.cell? ⟨gb623, 0, none⟩ = some (.int .i64 a0_0) ∧ w'.cell? ⟨gb623, 1, none⟩ = some (.slice A0_1 l0_1.length c0_1) ∧ w'.cell? (ad636.add (x11_3).toNat) = some (.int .i64 (rd l1 x11_3)) ∧ w'.cell? (ad636.add (x11_3).toNat) = some (.int .i64 (rd l1 x11_3))) (ds := []) #[false, false, false, false, false, false, false, false, false, false, false, false, false, false, false, false] (by kernel_rfl) rfl rfl ⟨(blk_cell BK623.out 0).trans rfl, (blk_cell BK623.out 1).trans rfl, (pw_cell_below HB.out hw636_0), (pw_cell_below HB.out hw638_0)⟩ (fun hHeld => ?_); refine with_tabW spec_PrefixIn.tab10 spec_PrefixIn.bits10 (fun HT_ HW_ => ?_)
             generalize wr.drew = w27 at HO_9 HO_10 BK623 HB hx636_0 hx638_0 hHeld ⊢
             refine pure_ (i := 0) (N := some 37) (v := ?_) (a' := ?_) #[true, false, false, false, false, false, false, false, false, false, false, false, false, false, false, false] rfl rfl (any_of HT_.out (by kernel_rfl)) (fun _ _ _ h => h) (Or.inl ⟨by rfl, ?_⟩) ?_ ?_
             rotate_left
             ·intro w'
              go_simp
              with_reducible rfl
             rotate_left
             ·simp only [Act.put, zL, zM, zN, i64_w, i32_w]
              rfl
             refine pure_ (i := 1) (N := some 38) (v := ?_) (a' := ?_) #[true, true, false, false, false, false, false, false, false, false, false, false, false, false, false, false] rfl rfl (any_of HT_.out (by kernel_rfl)) (fun _ _ _ h => h) (Or.inl ⟨by rfl, ?_⟩) ?_ ?_
             rotate_left
             ·intro w'
              go_simp
              with_reducible rfl
             rotate_left
             ·simp only [Act.put, zL, zM, zN, i64_w, i32_w]
              rfl
             refine pure_ (i := 2) (N := some 39) (v := ?_) (a' := ?_) #[true, true, true, false, false, false, false, false, false, false, false, false, false, false, false, false] rfl rfl (any_of HT_.out (by kernel_rfl)) (fun _ _ _ h => h) (Or.inl ⟨by rfl, ?_⟩) ?_ ?_
             rotate_left
             ·intro w'
              go_simp
              with_reducible rfl
             rotate_left
             ·simp only [Act.put, zL, zM, zN, i64_w, i32_w]
              rfl
             refine pure_ (i := 3) (N := some 40) (v := ?_) (a' := ?_) #[true, true, true, true, false, false, false, false, false, false, false, false, false, false, false, false] rfl rfl (any_of HT_.out (by kernel_rfl)) (fun _ _ _ h => h) (Or.inl ⟨by rfl, ?_⟩) ?_ ?_
             rotate_left
             ·intro w'
              go_simp
              with_reducible rfl
             rotate_left
             ·simp only [Act.put, zL, zM, zN, i64_w, i32_w]
              rfl
             refine take_ (i := 4) (N := some 41) (v := ?_) (a' := ?_) #[true, true, true, true, true, false, false, false, false, false, false, false, false, false, false, false] rfl rfl (take_ofW HT_.out HW_.out (by kernel_rfl)) (fun _ _ _ h => h) (Or.inl ⟨by rfl, ?_⟩) hHeld ?_ ?_
             rotate_left
             ·rintro w' ⟨s0, s1, s2, s3⟩
              go_simp
              with_reducible rfl
             rotate_left
             ·simp only [Act.put, zL, zM, zN, i64_w, i32_w]
              rfl
             refine one_ (i := 5) (N := some 42) #[true, true, true, true, true, true, false, false, false, false, false, false, false, false, false, false] rfl rfl (one_of HT_.out (by kernel_rfl)) (by decide) (fun K hK => ?_)
             refine goes_ Tryd.func66 (by kernel_rfl) rfl #[.int .i64 a2, .int .i64 (rd l1 x11_3)] (by rfl) rfl rfl (by (try simp only [List.map_toArray, List.map_cons, List.map_nil]); first | done | rfl | (simp only [List.length_drop, List.length_take]; rfl)) ?_
             with_reducible refine (spec_l01Bit.calls a2 (rd l1 x11_3) true _ A22.out).mono ?_
             rintro e w' ⟨rfl, ⟨nd, rfl⟩⟩
             refine ⟨_, rfl, ?_⟩
             refine hK.out _ _ ⟨(blk_cell BK623.out 0).trans rfl, (blk_cell BK623.out 1).trans rfl, (pw_cell_below HB.out hw636_0), (pw_cell_below HB.out hw638_0)⟩ (fun hHeld => ?_)
             clear hK K
             refine norm_ (a' := ?_) ?_ ?_
             rotate_left
             ·show Act.put _ (some 42) _ = _
              simp only [Act.put, zL, zM, zN, i64_w, i32_w]
              rfl
             refine pure_ (i := 6) (N := some 43) (v := ?_) (a' := ?_) #[true, true, true, true, true, true, true, false, false, false, false, false, false, false, false, false] rfl rfl (any_of HT_.out (by kernel_rfl)) (fun _ _ _ h => h) (Or.inl ⟨by rfl, ?_⟩) ?_ ?_
             rotate_left
             ·intro w'
              go_simp
              with_reducible rfl
             rotate_left
             ·simp only [Act.put, zL, zM, zN, i64_w, i32_w]
              rfl
             refine pure_ (i := 8) (N := some 45) (v := ?_) (a' := ?_) #[true, true, true, true, true, true, true, false, true, false, false, false, false, false, false, false] rfl rfl (any_of HT_.out (by kernel_rfl)) (fun _ _ _ h => h) (Or.inl ⟨by rfl, ?_⟩) ?_ ?_
             rotate_left
             ·intro w'
              go_simp
              with_reducible rfl
             rotate_left
             ·simp only [Act.put, zL, zM, zN, i64_w, i32_w]
              rfl
             refine pure_ (i := 9) (N := some 46) (v := ?_) (a' := ?_) #[true, true, true, true, true, true, true, false, true, true, false, false, false, false, false, false] rfl rfl (any_of HT_.out (by kernel_rfl)) (fun _ _ _ h => h) (Or.inl ⟨by rfl, ?_⟩) ?_ ?_
             rotate_left
             ·intro w'
              go_simp
              with_reducible rfl
             rotate_left
             ·simp only [Act.put, zL, zM, zN, i64_w, i32_w]
              rfl
             refine pure_ (i := 10) (N := some 47) (v := ?_) (a' := ?_) #[true, true, true, true, true, true, true, false, true, true, true, false, false, false, false, false] rfl rfl (any_of HT_.out (by kernel_rfl)) (fun _ _ _ h => h) (Or.inl ⟨by rfl, ?_⟩) ?_ ?_
             rotate_left
             ·intro w'
              go_simp
              with_reducible rfl
             rotate_left
             ·simp only [Act.put, zL, zM, zN, i64_w, i32_w]
              rfl
             refine pure_ (i := 13) (N := some 50) (v := ?_) (a' := ?_) #[true, true, true, true, true, true, true, false, true, true, true, false, false, true, false, false] rfl rfl (any_of HT_.out (by kernel_rfl)) (fun _ _ _ h => h) (Or.inl ⟨by rfl, ?_⟩) ?_ ?_
             rotate_left
             ·intro w'
              go_simp
              with_reducible rfl
             rotate_left
             ·simp only [Act.put, zL, zM, zN, i64_w, i32_w]
              rfl
             refine take_ (i := 7) (N := some 44) (v := ?_) (a' := ?_) #[true, true, true, true, true, true, true, true, true, true, true, false, false, true, false, false] rfl rfl (take_ofW HT_.out HW_.out (by kernel_rfl)) (fun _ _ _ h => h) (Or.inl ⟨by rfl, ?_⟩) hHeld ?_ ?_
             rotate_left
             ·rintro w' ⟨s0, s1, s2, s3⟩
              go_simp
              with_reducible rfl
             rotate_left
             ·simp only [Act.put, zL, zM, zN, i64_w, i32_w]
              rfl
             refine take_ (i := 11) (N := some 48) (v := ?_) (a' := ?_) #[true, true, true, true, true, true, true, true, true, true, true, true, false, true, false, false] rfl rfl (take_ofW HT_.out HW_.out (by kernel_rfl)) (fun _ _ _ h => h) (Or.inl ⟨by rfl, ?_⟩) hHeld ?_ ?_
             rotate_left
             ·rintro w' ⟨s0, s1, s2, s3⟩
              go_simp
              with_reducible rfl
             rotate_left
             ·simp only [Act.put, zL, zM, zN, i64_w, i32_w]
              rfl
             refine one_ (i := 12) (N := some 49) #[true, true, true, true, true, true, true, true, true, true, true, true, true, true, false, false] rfl rfl (one_of HT_.out (by kernel_rfl)) (by decide) (fun K hK => ?_)
             refine Kd.R_lit_step (Kd.int .i64) _ 2 ?hg (N := 49) ?hd (xs := ([rd l1 x11_3] : List Int)) (inner := [.int .i64 (rd l1 x11_3)]) (ok := fun _ => True) (okp := fun _ => True) ?hr ?hp (fun _ hk => hk) trivial (Below.refl _ _) (Nat.le_refl _) (by simp) ?_; (case hd => rfl); (case hg => rfl); (case hr => first | (go_simp; done) | (go_simp; rfl)); (case hp => exact (Reps.one (show Kd.M (Kd.int .i64) _ _ _ (rd l1 x11_3) [.int .i64 (rd l1 x11_3)] from rfl) (Reps.none _ _)))
             intro v640 w28 ho29 hb hg_ hnew_
             clear hg_ hnew_
             (first | rw [← Ny639.out] at ho29 | (simp only [Int.reduceToNat] at ho29; rw [← Ny639.out] at ho29))
             have n0_ := zA (Kd.R_elder' (zP HO_9.out) (Kd.R_base ho29) hb)
             have n1_ := zA (Kd.R_elder' (zP HO_10.out) (Kd.R_base ho29) hb)
             have n2_ := zA (Kd.R_lower (Kd.R_new' (Kd.R_new' ho29 (Kd.R_lt (zP HO_9.out))) (Kd.R_lt (zP HO_10.out))) (below_size (zT HB.out GE623.out)))
             have n3_ := zA (blk_below (g := gb623) (o := .cells #[.int .i64 a0_0, .slice A0_1 l0_1.length c0_1] 26 (0, 0)) (zR BK623.out) hb)
             have n4_ := zA (below_step (zT HB.out GE623.out) hb)
             clear HO_9
             clear HO_10
             clear BK623
             clear HB
             have HO_9 := n0_
             have HO_10 := n1_
             have HO641 := n2_
             have BK623 := n3_
             have HB := n4_
             clear n0_ n1_ n2_ n3_ n4_
             clear hb ho29
             obtain ⟨Ao30, co30, eo30⟩ := Kd.R_slice HO641.out
             (first | subst eo30 | (injection eo30 with f1_ f2_ f3_; have f4_ := f1_.symm; have f5_ := f3_.symm; clear f1_ f2_ f3_; subst f4_; subst f5_))
             obtain ⟨Ao31, co31, eo31⟩ := Kd.R_slice HO_10.out
             (first | subst eo31 | (injection eo31 with f1_ f2_ f3_; have f4_ := f1_.symm; have f5_ := f3_.symm; clear f1_ f2_ f3_; subst f4_; subst f5_))
             refine hK.out _ _ ⟨(blk_cell BK623.out 0).trans rfl, (blk_cell BK623.out 1).trans rfl, (pw_cell_below HB.out hw636_0), (pw_cell_below HB.out hw638_0)⟩ (fun hHeld => ?_)
             clear hK K
             refine norm_ (a' := ?_) ?_ ?_
             rotate_left
             ·show Act.put _ (some 49) _ = _
              simp only [Act.put, zL, zM, zN, i64_w, i32_w]
              rfl
             refine one_ (i := 14) (N := some 51) #[true, true, true, true, true, true, true, true, true, true, true, true, true, true, true, false] rfl rfl (one_of HT_.out (by kernel_rfl)) (by decide) (fun K hK => ?_)
             refine goes_ Tryd.func67 (by kernel_rfl) rfl #[.agg #[.int .i64 a0_0, .slice A0_1 l0_1.length c0_1], .slice Ao30 y639.length co30, .slice Ao31 x10_3.length co31] (by rfl) rfl rfl (by (try simp only [List.map_toArray, List.map_cons, List.map_nil]); first | done | rfl | (simp only [List.length_drop, List.length_take]; rfl)) ?_
             with_reducible refine (spec_l05Independent.calls k3 a0_0 _ _ l0_1 _ _ y639 _ _ x10_3 true _ ?side1 ?side2 ?side3 ?side4 ?side5 ?side6 A24.out).mono ?_
             (case side1 => repeat (first | exact (Kd.C_below HR0_1.out HB.out) | (with_reducible refine Kd.C_alloc ?_ _) | (with_reducible refine Kd.C_drewN ?_ _) | (with_reducible refine Kd.C_drew ?_)))
             (case side2 => exact HC0_1.out)
             (case side3 => exact zS (Kd.R_reads' HO641.out).2.2)
             (case side4 => exact (Kd.R_reads' HO641.out).2.1)
             (case side5 => exact zS (Kd.R_reads' HO_10.out).2.2)
             (case side6 => exact (Kd.R_reads' HO_10.out).2.1)
             rintro e w32 ⟨rfl, hb⟩
             refine ⟨_, rfl, ?_⟩
             have n0_ := zA (Kd.R_below (zP HO_9.out) hb)
             have n1_ := zA (Kd.R_below (zP HO_10.out) hb)
             have n2_ := zA (Kd.R_below (zP HO641.out) hb)
             have n3_ := zA (blk_below (g := gb623) (o := .cells #[.int .i64 a0_0, .slice A0_1 l0_1.length c0_1] 26 (0, 0)) (zR BK623.out) hb)
             have n4_ := zA (below_step (zT HB.out GE623.out) hb)
             clear HO_9
             clear HO_10
             clear HO641
             clear BK623
             clear HB
             have HO_9 := n0_
             have HO_10 := n1_
             have HO641 := n2_
             have BK623 := n3_
             have HB := n4_
             clear n0_ n1_ n2_ n3_ n4_
             (try clear hb)
             (try clear hb2)
             (try clear hk)
             (try clear hi)
             (try clear hgw)
             refine hK.out _ _ ⟨(blk_cell BK623.out 0).trans rfl, (blk_cell BK623.out 1).trans rfl, (pw_cell_below HB.out hw636_0), (pw_cell_below HB.out hw638_0)⟩ (fun hHeld => ?_)
             clear hK K
             refine norm_ (a' := ?_) ?_ ?_
             rotate_left
             ·show Act.put _ (some 51) _ = _
              simp only [Act.put, zL, zM, zN, i64_w, i32_w]
              rfl
             refine pure_ (i := 15) (N := some 52) (v := ?_) (a' := ?_) #[true, true, true, true, true, true, true, true, true, true, true, true, true, true, true, true] rfl rfl (any_of HT_.out (by kernel_rfl)) (fun _ _ _ h => h) (Or.inl ⟨by rfl, ?_⟩) ?_ ?_
             rotate_left
             ·intro w'
              go_simp
              with_reducible rfl
             rotate_left
             ·simp only [Act.put, zL, zM, zN, i64_w, i32_w]
              rfl
             refine done_ (done_of HT_.out (by kernel_rfl)) ?_
             have p643 : 0 ≤ (x11_3 : Int) := of_decide_eq_true (by first | (with_reducible assumption) | assumption)
             have q643 : x11_3 < (l1.length : Int) := of_decide_eq_true (by first | (with_reducible assumption) | assumption)
             obtain ⟨ad643, e643, hx643_0⟩ := Kd.at_int HR1.out x11_3 p643 q643
             obtain rfl : ad636 = ad643 := (by injection e643)
             replace hx643_0 := (HB.out.cell (World.block_lt_of_cell? w _ hx643_0)).trans hx643_0
             replace p643 := eq_true p643
             replace q643 := eq_true q643
             try go_wp2_with (first | ((with_reducible refine gate_builtin (b := .append) (xs := #[.tmp 53, .tmp 58]) rfl ?_); at_builtin; refine Kd.R_append (Kd.int .i64) (w0 := w) w.heap.size rfl (.tmp 53) (.tmp 58) 24 2 (.int .i64 0) 8 rfl Tryd.underlying24 info2 rfl (by decide) (by omega) u9 x9_3 (rd l1 x11_3) [.int .i64 (rd l1 x11_3)] (fun k_ => some k_ ≠ (.slice Ao31 x10_3.length co31 : Value).ownBlock ∧ some k_ ≠ (.slice Ao30 y639.length co30 : Value).ownBlock) (fun _ => False) rfl rfl ?aP (fun _ hk => hk.elim) ?aF ?aO ?aB ?aS ?aL ?_; (case aP => exact rfl); (case aB => exact (zT HB.out GE623.out)); (case aF => exact (fun k_ hk => ⟨Kd.fresh' (Kd.R_lt (zP HO_10.out)) k_ hk, Kd.fresh' (Kd.R_lt (zP HO641.out)) k_ hk⟩)); (case aO => exact (zP HO_9.out)); (case aS => exact (below_size (zT HB.out GE623.out))); (case aL => have := LMc26.out; omega); intro v645 w33 ho hb hg hat; rw [← Ny644.out] at ho; have n0_ := zA (Kd.R_after (ok := (fun k_ => some k_ ≠ (.slice Ao30 y639.length co30 : Value).ownBlock)) (by (with_reducible repeat (first | apply zF | apply zG | apply zH)); exact Kd.R_mono HO_10.out (fun _ hk => ⟨hk.2, hk.1⟩)) hg hat); have n1_ := zA (blk_grown (g := gb623) (o := .cells #[.int .i64 a0_0, .slice A0_1 l0_1.length c0_1] 26 (0, 0)) (zR BK623.out) hg (Kd.R_ne HO_9.out BK623.out (by decide))); have n2_ := zA (Kd.R_after (ok := (fun k_ => some k_ ≠ (.slice Ao31 x10_3.length co31 : Value).ownBlock)) (by (with_reducible repeat (first | apply zF | apply zG | apply zH)); exact Kd.R_mono HO641.out (fun _ hk => ⟨hk.2, hk.1.2⟩)) hg hat); have n3_ := zA (hb); have n4_ := zA (ho); clear HO_10; clear BK623; clear HO641; clear HB; clear HO_9; have HO_10 := n0_; have BK623 := n1_; have HO641 := n2_; have HB := n3_; have HO646 := n4_; clear n0_ n1_ n2_ n3_ n4_; clear ho hb hg hat))
             go_roundg k3
             case measure => have := HJ4.out; have := HJ12.out; have := HK3.out; omega
             case rel => exact ⟨(y644), (x10_3), (wrap64 (x11_3 + 1)), (by first | rfl | (simp; done) | (simp [*]; done)), H', ⟨by have := HJ4.out; have := HJ12.out; have := HK3.out; omega⟩, ⟨by (with_reducible repeat (first | apply zF | apply zG | apply zH)); exact Kd.R_mono HO646.out (fun _ hk => hk.1)⟩, ⟨by (with_reducible repeat (first | apply zF | apply zG | apply zH)); exact Kd.R_mono HO_10.out (fun _ hk => hk.2)⟩, ⟨by (with_reducible repeat (first | refine zJ ?_ _ | refine zK ?_ | refine zI ?_ _)); exact BK623.out⟩, ⟨zT HB.out GE623.out⟩⟩
            rw [if_neg c26] at H
            exact absurd H (by simp)
           replace c25 := Bool.eq_false_iff.mpr c25
           subst c25
           have H1 : (if x10_3.length < 17592186044416 then (spec_PrefixIn.l0 k3 l1 a2 x9_3 (x10_3 ++ [rd l1 x11_3]) (wrap64 (x11_3 + 1)) a0_0 l0_1) else (none)) = some (r1, r2) := by rw [if_neg (show ¬ (false = true) by decide)] at H; exact H
           clear H
           have H := H1
           clear H1
           by_cases c34 : x10_3.length < 17592186044416
           ·rw [if_pos c34] at H
            have LMc34 := zA c34
            clear c34
            obtain ⟨y648, hy648⟩ : ∃ y_ : List Int, y_ = (x10_3 ++ [rd l1 x11_3]) := ⟨_, rfl⟩
            replace H : (spec_PrefixIn.l0 k3 l1 a2 x9_3 y648 (wrap64 (x11_3 + 1)) a0_0 l0_1) = some (r1, r2) := by first | (rw [hy648]; with_reducible exact H) | (have H2_ := (Option.bind_some _ _).symm.trans H; rw [hy648]; with_reducible exact H2_) | (have H2_ := (Option.bind_some _ _).symm.trans H; with_reducible exact H2_) | with_reducible exact H | (rw [hy648]; exact H) | exact H
            have Ny648 := zA hy648
            clear hy648
            have H' := zA H
            clear H
            try go_wp2
            have n0_ := zA (zH HO_9.out)
            have n1_ := zA (zH HO_10.out)
            have n2_ := zA (zK BK623.out)
            have n3_ := zA (zD HB.out)
            clear HO_9
            clear HO_10
            clear BK623
            clear HB
            have HO_9 := n0_
            have HO_10 := n1_
            have BK623 := n2_
            have HB := n3_
            clear n0_ n1_ n2_ n3_
            have p636 : 0 ≤ (x11_3 : Int) := of_decide_eq_true (by first | (with_reducible assumption) | assumption)
            have q636 : x11_3 < (l1.length : Int) := of_decide_eq_true (by first | (with_reducible assumption) | assumption)
            obtain ⟨ad636, e636, hx636_0⟩ := Kd.at_int HR1.out x11_3 p636 q636
            have hw636_0 := hx636_0
            cases e636
            replace hx636_0 := (HB.out.cell (World.block_lt_of_cell? w _ hx636_0)).trans hx636_0
            replace p636 := eq_true p636
            replace q636 := eq_true q636
            have p638 : 0 ≤ (x11_3 : Int) := of_decide_eq_true (by first | (with_reducible assumption) | assumption)
            have q638 : x11_3 < (l1.length : Int) := of_decide_eq_true (by first | (with_reducible assumption) | assumption)
            obtain ⟨ad638, e638, hx638_0⟩ := Kd.at_int HR1.out x11_3 p638 q638
            have hw638_0 := hx638_0
            obtain rfl : ad636 = ad638 := (by injection e638)
            replace hx638_0 := (HB.out.cell (World.block_lt_of_cell? w _ hx638_0)).trans hx638_0
            replace p638 := eq_true p638
            replace q638 := eq_true q638
            refine start_ (n := 16) (S := fun w' => w'.cell? ⟨gb623, 0, none⟩ = some (.int .i64 a0_0) ∧ w'.cell? ⟨gb623, 1, none⟩ = some (.slice A0_1 l0_1.length c0_1) ∧ w'.cell? (ad636.add (x11_3).toNat) = some (.int .i64 (rd l1 x11_3)) ∧ w'.cell? (ad636.add (x11_3).toNat) = some (.int .i64 (rd l1 x11_3))) (ds := []) #[false, false, false, false, false, false, false, false, false, false, false, false, false, false, false, false] (by kernel_rfl) rfl rfl ⟨(blk_cell BK623.out 0).trans rfl, (blk_cell BK623.out 1).trans rfl, (pw_cell_below HB.out hw636_0), (pw_cell_below HB.out hw638_0)⟩ (fun hHeld => ?_); refine with_tabW spec_PrefixIn.tab10 spec_PrefixIn.bits10 (fun HT_ HW_ => ?_)
            generalize wr.drew = w35 at HO_9 HO_10 BK623 HB hx636_0 hx638_0 hHeld ⊢
            refine pure_ (i := 0) (N := some 37) (v := ?_) (a' := ?_) #[true, false, false, false, false, false, false, false, false, false, false, false, false, false, false, false] rfl rfl (any_of HT_.out (by kernel_rfl)) (fun _ _ _ h => h) (Or.inl ⟨by rfl, ?_⟩) ?_ ?_
            rotate_left
            ·intro w'
             go_simp
             with_reducible rfl
            rotate_left
            ·simp only [Act.put, zL, zM, zN, i64_w, i32_w]
             rfl
            refine pure_ (i := 1) (N := some 38) (v := ?_) (a' := ?_) #[true, true, false, false, false, false, false, false, false, false, false, false, false, false, false, false] rfl rfl (any_of HT_.out (by kernel_rfl)) (fun _ _ _ h => h) (Or.inl ⟨by rfl, ?_⟩) ?_ ?_
            rotate_left
            ·intro w'
             go_simp
             with_reducible rfl
            rotate_left
            ·simp only [Act.put, zL, zM, zN, i64_w, i32_w]
             rfl
            refine pure_ (i := 2) (N := some 39) (v := ?_) (a' := ?_) #[true, true, true, false, false, false, false, false, false, false, false, false, false, false, false, false] rfl rfl (any_of HT_.out (by kernel_rfl)) (fun _ _ _ h => h) (Or.inl ⟨by rfl, ?_⟩) ?_ ?_
            rotate_left
            ·intro w'
             go_simp
             with_reducible rfl
            rotate_left
            ·simp only [Act.put, zL, zM, zN, i64_w, i32_w]
             rfl
            refine pure_ (i := 3) (N := some 40) (v := ?_) (a' := ?_) #[true, true, true, true, false, false, false, false, false, false, false, false, false, false, false, false] rfl rfl (any_of HT_.out (by kernel_rfl)) (fun _ _ _ h => h) (Or.inl ⟨by rfl, ?_⟩) ?_ ?_
            rotate_left
            ·intro w'
             go_simp
             with_reducible rfl
            rotate_left
            ·simp only [Act.put, zL, zM, zN, i64_w, i32_w]
             rfl
            refine take_ (i := 4) (N := some 41) (v := ?_) (a' := ?_) #[true, true, true, true, true, false, false, false, false, false, false, false, false, false, false, false] rfl rfl (take_ofW HT_.out HW_.out (by kernel_rfl)) (fun _ _ _ h => h) (Or.inl ⟨by rfl, ?_⟩) hHeld ?_ ?_
            rotate_left
            ·rintro w' ⟨s0, s1, s2, s3⟩
             go_simp
             with_reducible rfl
            rotate_left
            ·simp only [Act.put, zL, zM, zN, i64_w, i32_w]
             rfl
            refine one_ (i := 5) (N := some 42) #[true, true, true, true, true, true, false, false, false, false, false, false, false, false, false, false] rfl rfl (one_of HT_.out (by kernel_rfl)) (by decide) (fun K hK => ?_)
            refine goes_ Tryd.func66 (by kernel_rfl) rfl #[.int .i64 a2, .int .i64 (rd l1 x11_3)] (by rfl) rfl rfl (by (try simp only [List.map_toArray, List.map_cons, List.map_nil]); first | done | rfl | (simp only [List.length_drop, List.length_take]; rfl)) ?_
            with_reducible refine (spec_l01Bit.calls a2 (rd l1 x11_3) true _ A22.out).mono ?_
            rintro e w' ⟨rfl, ⟨nd, rfl⟩⟩
            refine ⟨_, rfl, ?_⟩
            refine hK.out _ _ ⟨(blk_cell BK623.out 0).trans rfl, (blk_cell BK623.out 1).trans rfl, (pw_cell_below HB.out hw636_0), (pw_cell_below HB.out hw638_0)⟩ (fun hHeld => ?_)
            clear hK K
            refine norm_ (a' := ?_) ?_ ?_
            rotate_left
            ·show Act.put _ (some 42) _ = _
             simp only [Act.put, zL, zM, zN, i64_w, i32_w]
             rfl
            refine pure_ (i := 6) (N := some 43) (v := ?_) (a' := ?_) #[true, true, true, true, true, true, true, false, false, false, false, false, false, false, false, false] rfl rfl (any_of HT_.out (by kernel_rfl)) (fun _ _ _ h => h) (Or.inl ⟨by rfl, ?_⟩) ?_ ?_
            rotate_left
            ·intro w'
             go_simp
             with_reducible rfl
            rotate_left
            ·simp only [Act.put, zL, zM, zN, i64_w, i32_w]
             rfl
            refine pure_ (i := 8) (N := some 45) (v := ?_) (a' := ?_) #[true, true, true, true, true, true, true, false, true, false, false, false, false, false, false, false] rfl rfl (any_of HT_.out (by kernel_rfl)) (fun _ _ _ h => h) (Or.inl ⟨by rfl, ?_⟩) ?_ ?_
            rotate_left
            ·intro w'
             go_simp
             with_reducible rfl
            rotate_left
            ·simp only [Act.put, zL, zM, zN, i64_w, i32_w]
             rfl
            refine pure_ (i := 9) (N := some 46) (v := ?_) (a' := ?_) #[true, true, true, true, true, true, true, false, true, true, false, false, false, false, false, false] rfl rfl (any_of HT_.out (by kernel_rfl)) (fun _ _ _ h => h) (Or.inl ⟨by rfl, ?_⟩) ?_ ?_
            rotate_left
            ·intro w'
             go_simp
             with_reducible rfl
            rotate_left
            ·simp only [Act.put, zL, zM, zN, i64_w, i32_w]
             rfl
            refine pure_ (i := 10) (N := some 47) (v := ?_) (a' := ?_) #[true, true, true, true, true, true, true, false, true, true, true, false, false, false, false, false] rfl rfl (any_of HT_.out (by kernel_rfl)) (fun _ _ _ h => h) (Or.inl ⟨by rfl, ?_⟩) ?_ ?_
            rotate_left
            ·intro w'
             go_simp
             with_reducible rfl
            rotate_left
            ·simp only [Act.put, zL, zM, zN, i64_w, i32_w]
             rfl
            refine pure_ (i := 13) (N := some 50) (v := ?_) (a' := ?_) #[true, true, true, true, true, true, true, false, true, true, true, false, false, true, false, false] rfl rfl (any_of HT_.out (by kernel_rfl)) (fun _ _ _ h => h) (Or.inl ⟨by rfl, ?_⟩) ?_ ?_
            rotate_left
            ·intro w'
             go_simp
             with_reducible rfl
            rotate_left
            ·simp only [Act.put, zL, zM, zN, i64_w, i32_w]
             rfl
            refine take_ (i := 7) (N := some 44) (v := ?_) (a' := ?_) #[true, true, true, true, true, true, true, true, true, true, true, false, false, true, false, false] rfl rfl (take_ofW HT_.out HW_.out (by kernel_rfl)) (fun _ _ _ h => h) (Or.inl ⟨by rfl, ?_⟩) hHeld ?_ ?_
            rotate_left
            ·rintro w' ⟨s0, s1, s2, s3⟩
             go_simp
             with_reducible rfl
            rotate_left
            ·simp only [Act.put, zL, zM, zN, i64_w, i32_w]
             rfl
            refine take_ (i := 11) (N := some 48) (v := ?_) (a' := ?_) #[true, true, true, true, true, true, true, true, true, true, true, true, false, true, false, false] rfl rfl (take_ofW HT_.out HW_.out (by kernel_rfl)) (fun _ _ _ h => h) (Or.inl ⟨by rfl, ?_⟩) hHeld ?_ ?_
            rotate_left
            ·rintro w' ⟨s0, s1, s2, s3⟩
             go_simp
             with_reducible rfl
            rotate_left
            ·simp only [Act.put, zL, zM, zN, i64_w, i32_w]
             rfl
            refine one_ (i := 12) (N := some 49) #[true, true, true, true, true, true, true, true, true, true, true, true, true, true, false, false] rfl rfl (one_of HT_.out (by kernel_rfl)) (by decide) (fun K hK => ?_)
            refine Kd.R_lit_step (Kd.int .i64) _ 2 ?hg (N := 49) ?hd (xs := ([rd l1 x11_3] : List Int)) (inner := [.int .i64 (rd l1 x11_3)]) (ok := fun _ => True) (okp := fun _ => True) ?hr ?hp (fun _ hk => hk) trivial (Below.refl _ _) (Nat.le_refl _) (by simp) ?_; (case hd => rfl); (case hg => rfl); (case hr => first | (go_simp; done) | (go_simp; rfl)); (case hp => exact (Reps.one (show Kd.M (Kd.int .i64) _ _ _ (rd l1 x11_3) [.int .i64 (rd l1 x11_3)] from rfl) (Reps.none _ _)))
            intro v640 w36 ho37 hb hg_ hnew_
            clear hg_ hnew_
            (first | rw [← Ny639.out] at ho37 | (simp only [Int.reduceToNat] at ho37; rw [← Ny639.out] at ho37))
            have n0_ := zA (Kd.R_elder' (zP HO_9.out) (Kd.R_base ho37) hb)
            have n1_ := zA (Kd.R_elder' (zP HO_10.out) (Kd.R_base ho37) hb)
            have n2_ := zA (Kd.R_lower (Kd.R_new' (Kd.R_new' ho37 (Kd.R_lt (zP HO_9.out))) (Kd.R_lt (zP HO_10.out))) (below_size (zT HB.out GE623.out)))
            have n3_ := zA (blk_below (g := gb623) (o := .cells #[.int .i64 a0_0, .slice A0_1 l0_1.length c0_1] 26 (0, 0)) (zR BK623.out) hb)
            have n4_ := zA (below_step (zT HB.out GE623.out) hb)
            clear HO_9
            clear HO_10
            clear BK623
            clear HB
            have HO_9 := n0_
            have HO_10 := n1_
            have HO641 := n2_
            have BK623 := n3_
            have HB := n4_
            clear n0_ n1_ n2_ n3_ n4_
            clear hb ho37
            obtain ⟨Ao38, co38, eo38⟩ := Kd.R_slice HO641.out
            (first | subst eo38 | (injection eo38 with f1_ f2_ f3_; have f4_ := f1_.symm; have f5_ := f3_.symm; clear f1_ f2_ f3_; subst f4_; subst f5_))
            obtain ⟨Ao39, co39, eo39⟩ := Kd.R_slice HO_10.out
            (first | subst eo39 | (injection eo39 with f1_ f2_ f3_; have f4_ := f1_.symm; have f5_ := f3_.symm; clear f1_ f2_ f3_; subst f4_; subst f5_))
            refine hK.out _ _ ⟨(blk_cell BK623.out 0).trans rfl, (blk_cell BK623.out 1).trans rfl, (pw_cell_below HB.out hw636_0), (pw_cell_below HB.out hw638_0)⟩ (fun hHeld => ?_)
            clear hK K
            refine norm_ (a' := ?_) ?_ ?_
            rotate_left
            ·show Act.put _ (some 49) _ = _
             simp only [Act.put, zL, zM, zN, i64_w, i32_w]
             rfl
            refine one_ (i := 14) (N := some 51) #[true, true, true, true, true, true, true, true, true, true, true, true, true, true, true, false] rfl rfl (one_of HT_.out (by kernel_rfl)) (by decide) (fun K hK => ?_)
            refine goes_ Tryd.func67 (by kernel_rfl) rfl #[.agg #[.int .i64 a0_0, .slice A0_1 l0_1.length c0_1], .slice Ao38 y639.length co38, .slice Ao39 x10_3.length co39] (by rfl) rfl rfl (by (try simp only [List.map_toArray, List.map_cons, List.map_nil]); first | done | rfl | (simp only [List.length_drop, List.length_take]; rfl)) ?_
            with_reducible refine (spec_l05Independent.calls k3 a0_0 _ _ l0_1 _ _ y639 _ _ x10_3 false _ ?side1 ?side2 ?side3 ?side4 ?side5 ?side6 A24.out).mono ?_
            (case side1 => repeat (first | exact (Kd.C_below HR0_1.out HB.out) | (with_reducible refine Kd.C_alloc ?_ _) | (with_reducible refine Kd.C_drewN ?_ _) | (with_reducible refine Kd.C_drew ?_)))
            (case side2 => exact HC0_1.out)
            (case side3 => exact zS (Kd.R_reads' HO641.out).2.2)
            (case side4 => exact (Kd.R_reads' HO641.out).2.1)
            (case side5 => exact zS (Kd.R_reads' HO_10.out).2.2)
            (case side6 => exact (Kd.R_reads' HO_10.out).2.1)
            rintro e w40 ⟨rfl, hb⟩
            refine ⟨_, rfl, ?_⟩
            have n0_ := zA (Kd.R_below (zP HO_9.out) hb)
            have n1_ := zA (Kd.R_below (zP HO_10.out) hb)
            have n2_ := zA (Kd.R_below (zP HO641.out) hb)
            have n3_ := zA (blk_below (g := gb623) (o := .cells #[.int .i64 a0_0, .slice A0_1 l0_1.length c0_1] 26 (0, 0)) (zR BK623.out) hb)
            have n4_ := zA (below_step (zT HB.out GE623.out) hb)
            clear HO_9
            clear HO_10
            clear HO641
            clear BK623
            clear HB
            have HO_9 := n0_
            have HO_10 := n1_
            have HO641 := n2_
            have BK623 := n3_
            have HB := n4_
            clear n0_ n1_ n2_ n3_ n4_
            (try clear hb)
            (try clear hb2)
            (try clear hk)
            (try clear hi)
            (try clear hgw)
            refine hK.out _ _ ⟨(blk_cell BK623.out 0).trans rfl, (blk_cell BK623.out 1).trans rfl, (pw_cell_below HB.out hw636_0), (pw_cell_below HB.out hw638_0)⟩ (fun hHeld => ?_)
            clear hK K
            refine norm_ (a' := ?_) ?_ ?_
            rotate_left
            ·show Act.put _ (some 51) _ = _
             simp only [Act.put, zL, zM, zN, i64_w, i32_w]
             rfl
            refine pure_ (i := 15) (N := some 52) (v := ?_) (a' := ?_) #[true, true, true, true, true, true, true, true, true, true, true, true, true, true, true, true] rfl rfl (any_of HT_.out (by kernel_rfl)) (fun _ _ _ h => h) (Or.inl ⟨by rfl, ?_⟩) ?_ ?_
            rotate_left
            ·intro w'
             go_simp
             with_reducible rfl
            rotate_left
            ·simp only [Act.put, zL, zM, zN, i64_w, i32_w]
             rfl
            refine done_ (done_of HT_.out (by kernel_rfl)) ?_
            have p647 : 0 ≤ (x11_3 : Int) := of_decide_eq_true (by first | (with_reducible assumption) | assumption)
            have q647 : x11_3 < (l1.length : Int) := of_decide_eq_true (by first | (with_reducible assumption) | assumption)
            obtain ⟨ad647, e647, hx647_0⟩ := Kd.at_int HR1.out x11_3 p647 q647
            obtain rfl : ad636 = ad647 := (by injection e647)
            replace hx647_0 := (HB.out.cell (World.block_lt_of_cell? w _ hx647_0)).trans hx647_0
            replace p647 := eq_true p647
            replace q647 := eq_true q647
            try go_wp2_with (first | ((with_reducible refine gate_builtin (b := .append) (xs := #[.tmp 60, .tmp 65]) rfl ?_); at_builtin; refine Kd.R_append (Kd.int .i64) (w0 := w) w.heap.size rfl (.tmp 60) (.tmp 65) 24 2 (.int .i64 0) 8 rfl Tryd.underlying24 info2 rfl (by decide) (by omega) (.slice Ao39 x10_3.length co39) x10_3 (rd l1 x11_3) [.int .i64 (rd l1 x11_3)] (fun k_ => some k_ ≠ (u9 : Value).ownBlock ∧ some k_ ≠ (.slice Ao38 y639.length co38 : Value).ownBlock) (fun _ => False) rfl rfl ?aP (fun _ hk => hk.elim) ?aF ?aO ?aB ?aS ?aL ?_; (case aP => exact rfl); (case aB => exact (zT HB.out GE623.out)); (case aF => exact (fun k_ hk => ⟨Kd.fresh' (Kd.R_lt (zP HO_9.out)) k_ hk, Kd.fresh' (Kd.R_lt (zP HO641.out)) k_ hk⟩)); (case aO => exact (zP HO_10.out)); (case aS => exact (below_size (zT HB.out GE623.out))); (case aL => have := LMc34.out; omega); intro v649 w41 ho hb hg hat; rw [← Ny648.out] at ho; have n0_ := zA (Kd.R_after (ok := (fun k_ => some k_ ≠ (.slice Ao38 y639.length co38 : Value).ownBlock)) (by (with_reducible repeat (first | apply zF | apply zG | apply zH)); exact Kd.R_mono HO_9.out (fun _ hk => ⟨hk.2, hk.1⟩)) hg hat); have n1_ := zA (blk_grown (g := gb623) (o := .cells #[.int .i64 a0_0, .slice A0_1 l0_1.length c0_1] 26 (0, 0)) (zR BK623.out) hg (Kd.R_ne HO_10.out BK623.out (by decide))); have n2_ := zA (Kd.R_after (ok := (fun k_ => some k_ ≠ (u9 : Value).ownBlock)) (by (with_reducible repeat (first | apply zF | apply zG | apply zH)); exact Kd.R_mono HO641.out (fun _ hk => ⟨hk.1.2, hk.2⟩)) hg hat); have n3_ := zA (hb); have n4_ := zA (ho); clear HO_9; clear BK623; clear HO641; clear HB; clear HO_10; have HO_9 := n0_; have BK623 := n1_; have HO641 := n2_; have HB := n3_; have HO650 := n4_; clear n0_ n1_ n2_ n3_ n4_; clear ho hb hg hat))
            go_roundg k3
            case measure => have := HJ4.out; have := HJ12.out; have := HK3.out; omega
            case rel => exact ⟨(x9_3), (y648), (wrap64 (x11_3 + 1)), (by first | rfl | (simp; done) | (simp [*]; done)), H', ⟨by have := HJ4.out; have := HJ12.out; have := HK3.out; omega⟩, ⟨by (with_reducible repeat (first | apply zF | apply zG | apply zH)); exact Kd.R_mono HO_9.out (fun _ hk => hk.2)⟩, ⟨by (with_reducible repeat (first | apply zF | apply zG | apply zH)); exact Kd.R_mono HO650.out (fun _ hk => hk.1)⟩, ⟨by (with_reducible repeat (first | refine zJ ?_ _ | refine zK ?_ | refine zI ?_ _)); exact BK623.out⟩, ⟨zT HB.out GE623.out⟩⟩
           rw [if_neg c34] at H
           exact absurd H (by simp)
          replace c23 := Bool.eq_false_iff.mpr c23
          subst c23
          have H1 : (if x10_3.length < 17592186044416 then (spec_PrefixIn.l0 k3 l1 a2 x9_3 (x10_3 ++ [rd l1 x11_3]) (wrap64 (x11_3 + 1)) a0_0 l0_1) else (none)) = some (r1, r2) := by rw [if_neg (show ¬ (false = true) by decide)] at H; exact H
          clear H
          have H := H1
          clear H1
          by_cases c42 : x10_3.length < 17592186044416
          ·rw [if_pos c42] at H
           have LMc42 := zA c42
           clear c42
           obtain ⟨y652, hy652⟩ : ∃ y_ : List Int, y_ = (x10_3 ++ [rd l1 x11_3]) := ⟨_, rfl⟩
           replace H : (spec_PrefixIn.l0 k3 l1 a2 x9_3 y652 (wrap64 (x11_3 + 1)) a0_0 l0_1) = some (r1, r2) := by first | (rw [hy652]; with_reducible exact H) | (have H2_ := (Option.bind_some _ _).symm.trans H; rw [hy652]; with_reducible exact H2_) | (have H2_ := (Option.bind_some _ _).symm.trans H; with_reducible exact H2_) | with_reducible exact H | (rw [hy652]; exact H) | exact H
           have Ny652 := zA hy652
           clear hy652
           have H' := zA H
           clear H
           try go_wp2
           have n0_ := zA (zH HO_9.out)
           have n1_ := zA (zH HO_10.out)
           have n2_ := zA (zK BK623.out)
           have n3_ := zA (zD HB.out)
           clear HO_9
           clear HO_10
           clear BK623
           clear HB
           have HO_9 := n0_
           have HO_10 := n1_
           have BK623 := n2_
           have HB := n3_
           clear n0_ n1_ n2_ n3_
           have p636 : 0 ≤ (x11_3 : Int) := of_decide_eq_true (by first | (with_reducible assumption) | assumption)
           have q636 : x11_3 < (l1.length : Int) := of_decide_eq_true (by first | (with_reducible assumption) | assumption)
           obtain ⟨ad636, e636, hx636_0⟩ := Kd.at_int HR1.out x11_3 p636 q636
           have hw636_0 := hx636_0
           cases e636
           replace hx636_0 := (HB.out.cell (World.block_lt_of_cell? w _ hx636_0)).trans hx636_0
           replace p636 := eq_true p636
           replace q636 := eq_true q636
           refine start_ (n := 16) (S := fun w' => w'.cell? (ad636.add (x11_3).toNat) = some (.int .i64 (rd l1 x11_3))) (ds := []) #[false, false, false, false, false, false, false, false, false, false, false, false, false, false, false, false] (by kernel_rfl) rfl rfl ((pw_cell_below HB.out hw636_0)) (fun hHeld => ?_); refine with_tabW spec_PrefixIn.tab10 spec_PrefixIn.bits10 (fun HT_ HW_ => ?_)
           generalize wr.drew = w43 at HO_9 HO_10 BK623 HB hx636_0 hHeld ⊢
           refine pure_ (i := 0) (N := some 37) (v := ?_) (a' := ?_) #[true, false, false, false, false, false, false, false, false, false, false, false, false, false, false, false] rfl rfl (any_of HT_.out (by kernel_rfl)) (fun _ _ _ h => h) (Or.inl ⟨by rfl, ?_⟩) ?_ ?_
           rotate_left
           ·intro w'
            go_simp
            with_reducible rfl
           rotate_left
           ·simp only [Act.put, zL, zM, zN, i64_w, i32_w]
            rfl
           refine pure_ (i := 1) (N := some 38) (v := ?_) (a' := ?_) #[true, true, false, false, false, false, false, false, false, false, false, false, false, false, false, false] rfl rfl (any_of HT_.out (by kernel_rfl)) (fun _ _ _ h => h) (Or.inl ⟨by rfl, ?_⟩) ?_ ?_
           rotate_left
           ·intro w'
            go_simp
            with_reducible rfl
           rotate_left
           ·simp only [Act.put, zL, zM, zN, i64_w, i32_w]
            rfl
           refine pure_ (i := 2) (N := some 39) (v := ?_) (a' := ?_) #[true, true, true, false, false, false, false, false, false, false, false, false, false, false, false, false] rfl rfl (any_of HT_.out (by kernel_rfl)) (fun _ _ _ h => h) (Or.inl ⟨by rfl, ?_⟩) ?_ ?_
           rotate_left
           ·intro w'
            go_simp
            with_reducible rfl
           rotate_left
           ·simp only [Act.put, zL, zM, zN, i64_w, i32_w]
            rfl
           refine pure_ (i := 3) (N := some 40) (v := ?_) (a' := ?_) #[true, true, true, true, false, false, false, false, false, false, false, false, false, false, false, false] rfl rfl (any_of HT_.out (by kernel_rfl)) (fun _ _ _ h => h) (Or.inl ⟨by rfl, ?_⟩) ?_ ?_
           rotate_left
           ·intro w'
            go_simp
            with_reducible rfl
           rotate_left
           ·simp only [Act.put, zL, zM, zN, i64_w, i32_w]
            rfl
           refine take_ (i := 4) (N := some 41) (v := ?_) (a' := ?_) #[true, true, true, true, true, false, false, false, false, false, false, false, false, false, false, false] rfl rfl (take_ofW HT_.out HW_.out (by kernel_rfl)) (fun _ _ _ h => h) (Or.inl ⟨by rfl, ?_⟩) hHeld ?_ ?_
           rotate_left
           ·intro w' s0
            go_simp
            with_reducible rfl
           rotate_left
           ·simp only [Act.put, zL, zM, zN, i64_w, i32_w]
            rfl
           refine one_ (i := 5) (N := some 42) #[true, true, true, true, true, true, false, false, false, false, false, false, false, false, false, false] rfl rfl (one_of HT_.out (by kernel_rfl)) (by decide) (fun K hK => ?_)
           refine goes_ Tryd.func66 (by kernel_rfl) rfl #[.int .i64 a2, .int .i64 (rd l1 x11_3)] (by rfl) rfl rfl (by (try simp only [List.map_toArray, List.map_cons, List.map_nil]); first | done | rfl | (simp only [List.length_drop, List.length_take]; rfl)) ?_
           with_reducible refine (spec_l01Bit.calls a2 (rd l1 x11_3) false _ A22.out).mono ?_
           rintro e w' ⟨rfl, ⟨nd, rfl⟩⟩
           refine ⟨_, rfl, ?_⟩
           refine hK.out _ _ ((pw_cell_below HB.out hw636_0)) (fun hHeld => ?_)
           clear hK K
           refine norm_ (a' := ?_) ?_ ?_
           rotate_left
           ·show Act.put _ (some 42) _ = _
            simp only [Act.put, zL, zM, zN, i64_w, i32_w]
            rfl
           refine pure_ (i := 6) (N := some 43) (v := ?_) (a' := ?_) #[true, true, true, true, true, true, true, false, false, false, false, false, false, false, false, false] rfl rfl (any_of HT_.out (by kernel_rfl)) (fun _ _ _ h => h) (Or.inl ⟨by rfl, ?_⟩) ?_ ?_
           rotate_left
           ·intro w'
            go_simp
            with_reducible rfl
           rotate_left
           ·simp only [Act.put, zL, zM, zN, i64_w, i32_w]
            rfl
           refine pure_ (i := 7) (N := some 44) (v := undef) (a' := ?_) #[true, true, true, true, true, true, true, true, false, false, false, false, false, false, false, false] rfl rfl (any_of HT_.out (by kernel_rfl)) (fun _ _ _ h => h) (Or.inr ⟨by rfl, rfl⟩) ?_ ?_
           rotate_left
           ·simp only [Act.put, zL, zM, zN, i64_w, i32_w]
            rfl
           refine pure_ (i := 8) (N := some 45) (v := undef) (a' := ?_) #[true, true, true, true, true, true, true, true, true, false, false, false, false, false, false, false] rfl rfl (any_of HT_.out (by kernel_rfl)) (fun _ _ _ h => h) (Or.inr ⟨by rfl, rfl⟩) ?_ ?_
           rotate_left
           ·simp only [Act.put, zL, zM, zN, i64_w, i32_w]
            rfl
           refine pure_ (i := 9) (N := some 46) (v := undef) (a' := ?_) #[true, true, true, true, true, true, true, true, true, true, false, false, false, false, false, false] rfl rfl (any_of HT_.out (by kernel_rfl)) (fun _ _ _ h => h) (Or.inr ⟨by rfl, rfl⟩) ?_ ?_
           rotate_left
           ·simp only [Act.put, zL, zM, zN, i64_w, i32_w]
            rfl
           refine pure_ (i := 10) (N := some 47) (v := undef) (a' := ?_) #[true, true, true, true, true, true, true, true, true, true, true, false, false, false, false, false] rfl rfl (any_of HT_.out (by kernel_rfl)) (fun _ _ _ h => h) (Or.inr ⟨by rfl, rfl⟩) ?_ ?_
           rotate_left
           ·simp only [Act.put, zL, zM, zN, i64_w, i32_w]
            rfl
           refine pure_ (i := 11) (N := some 48) (v := undef) (a' := ?_) #[true, true, true, true, true, true, true, true, true, true, true, true, false, false, false, false] rfl rfl (any_of HT_.out (by kernel_rfl)) (fun _ _ _ h => h) (Or.inr ⟨by rfl, rfl⟩) ?_ ?_
           rotate_left
           ·simp only [Act.put, zL, zM, zN, i64_w, i32_w]
            rfl
           refine pure_ (i := 12) (N := some 49) (v := undef) (a' := ?_) #[true, true, true, true, true, true, true, true, true, true, true, true, true, false, false, false] rfl rfl (any_of HT_.out (by kernel_rfl)) (fun _ _ _ h => h) (Or.inr ⟨by rfl, rfl⟩) ?_ ?_
           rotate_left
           ·simp only [Act.put, zL, zM, zN, i64_w, i32_w]
            rfl
           refine pure_ (i := 13) (N := some 50) (v := undef) (a' := ?_) #[true, true, true, true, true, true, true, true, true, true, true, true, true, true, false, false] rfl rfl (any_of HT_.out (by kernel_rfl)) (fun _ _ _ h => h) (Or.inr ⟨by rfl, rfl⟩) ?_ ?_
           rotate_left
           ·simp only [Act.put, zL, zM, zN, i64_w, i32_w]
            rfl
           refine pure_ (i := 14) (N := some 51) (v := undef) (a' := ?_) #[true, true, true, true, true, true, true, true, true, true, true, true, true, true, true, false] rfl rfl (any_of HT_.out (by kernel_rfl)) (fun _ _ _ h => h) (Or.inr ⟨by rfl, rfl⟩) ?_ ?_
           rotate_left
           ·simp only [Act.put, zL, zM, zN, i64_w, i32_w]
            rfl
           refine pure_ (i := 15) (N := some 52) (v := ?_) (a' := ?_) #[true, true, true, true, true, true, true, true, true, true, true, true, true, true, true, true] rfl rfl (any_of HT_.out (by kernel_rfl)) (fun _ _ _ h => h) (Or.inl ⟨by rfl, ?_⟩) ?_ ?_
           rotate_left
           ·intro w'
            go_simp
            with_reducible rfl
           rotate_left
           ·simp only [Act.put, zL, zM, zN, i64_w, i32_w]
            rfl
           refine done_ (done_of HT_.out (by kernel_rfl)) ?_
           have p651 : 0 ≤ (x11_3 : Int) := of_decide_eq_true (by first | (with_reducible assumption) | assumption)
           have q651 : x11_3 < (l1.length : Int) := of_decide_eq_true (by first | (with_reducible assumption) | assumption)
           obtain ⟨ad651, e651, hx651_0⟩ := Kd.at_int HR1.out x11_3 p651 q651
           obtain rfl : ad636 = ad651 := (by injection e651)
           replace hx651_0 := (HB.out.cell (World.block_lt_of_cell? w _ hx651_0)).trans hx651_0
           replace p651 := eq_true p651
           replace q651 := eq_true q651
           try go_wp2_with (first | ((with_reducible refine gate_builtin (b := .append) (xs := #[.tmp 60, .tmp 65]) rfl ?_); at_builtin; refine Kd.R_append (Kd.int .i64) (w0 := w) w.heap.size rfl (.tmp 60) (.tmp 65) 24 2 (.int .i64 0) 8 rfl Tryd.underlying24 info2 rfl (by decide) (by omega) u10 x10_3 (rd l1 x11_3) [.int .i64 (rd l1 x11_3)] (fun k_ => some k_ ≠ (u9 : Value).ownBlock) (fun _ => False) rfl rfl ?aP (fun _ hk => hk.elim) ?aF ?aO ?aB ?aS ?aL ?_; (case aP => exact rfl); (case aB => exact (zT HB.out GE623.out)); (case aF => exact (fun k_ hk => Kd.fresh' (Kd.R_lt (zP HO_9.out)) k_ hk)); (case aO => exact (zP HO_10.out)); (case aS => exact (below_size (zT HB.out GE623.out))); (case aL => have := LMc42.out; omega); intro v653 w44 ho hb hg hat; rw [← Ny652.out] at ho; have n0_ := zA (Kd.R_after (ok := (fun _ => True)) (by (with_reducible repeat (first | apply zF | apply zG | apply zH)); exact Kd.R_mono HO_9.out (fun _ hk => ⟨trivial, hk⟩)) hg hat); have n1_ := zA (blk_grown (g := gb623) (o := .cells #[.int .i64 a0_0, .slice A0_1 l0_1.length c0_1] 26 (0, 0)) (zR BK623.out) hg (Kd.R_ne HO_10.out BK623.out (by decide))); have n2_ := zA (hb); have n3_ := zA (ho); clear HO_9; clear BK623; clear HB; clear HO_10; have HO_9 := n0_; have BK623 := n1_; have HB := n2_; have HO654 := n3_; clear n0_ n1_ n2_ n3_; clear ho hb hg hat))
           go_roundg k3
           case measure => have := HJ4.out; have := HJ12.out; have := HK3.out; omega
           case rel => exact ⟨(x9_3), (y652), (wrap64 (x11_3 + 1)), (by first | rfl | (simp; done) | (simp [*]; done)), H', ⟨by have := HJ4.out; have := HJ12.out; have := HK3.out; omega⟩, ⟨by (with_reducible repeat (first | apply zF | apply zG | apply zH)); exact Kd.R_mono HO_9.out (fun _ hk => hk.2)⟩, ⟨by (with_reducible repeat (first | apply zF | apply zG | apply zH)); exact HO654.out⟩, ⟨by (with_reducible repeat (first | refine zJ ?_ _ | refine zK ?_ | refine zI ?_ _)); exact BK623.out⟩, ⟨zT HB.out GE623.out⟩⟩
          rw [if_neg c42] at H
          exact absurd H (by simp)
         rw [if_neg c21] at H
         exact absurd H (by simp)
        rw [if_neg c20] at H
        have c20b0 : decide (x11_3 < (l1.length : Int)) = false := decide_eq_false c20
        clear c20
        replace H := Option.bind_eq_some_iff.mp H
        obtain ⟨t633, A450, H⟩ := H
        replace H : (some (t633, 0)) = some (r1, r2) := H
        have A45 := zA A450
        clear A450
        simp only [Option.some.injEq, Prod.mk.injEq] at H
        obtain ⟨rfl, rfl⟩ := H
        have hcz46_0 : wr.cell? ⟨gb623, 0, none⟩ = some (.int .i64 a0_0) := (blk_cell BK623.out 0).trans rfl
        have hcz46_1 : wr.cell? ⟨gb623, 1, none⟩ = some (.slice A0_1 l0_1.length c0_1) := (blk_cell BK623.out 1).trans rfl
        have hfz46_0 := blk_frozen BK623.out 0
        have hfz46_1 := blk_frozen BK623.out 1
        obtain ⟨Ao47, co47, eo47⟩ := Kd.R_slice HO_9.out
        subst eo47
        go_wp2_with (first | ((with_reducible refine gate_callee (f := 68) rfl ?_); refine zO (some 69) Tryd.func68 #[.agg #[.int .i64 a0_0, .slice A0_1 l0_1.length c0_1], .slice Ao47 x9_3.length co47] ?_; (with_reducible refine (spec_l03Normal.calls k3 a0_0 _ _ l0_1 _ _ x9_3 t633 _ ?side1 ?side2 ?side3 ?side4 A45.out).mono ?_); (case side1 => repeat (first | exact (Kd.C_below HR0_1.out HB.out) | (with_reducible refine Kd.C_alloc ?_ _) | (with_reducible refine Kd.C_drewN ?_ _) | (with_reducible refine Kd.C_drew ?_))); (case side2 => exact HC0_1.out); (case side3 => exact zS (Kd.R_reads' HO_9.out).2.2); (case side4 => exact (Kd.R_reads' HO_9.out).2.1); rintro e w48 ⟨v634, rfl, ho0, hb⟩; refine ⟨_, rfl, ?_⟩; have n0_ := zA (Kd.R_elder' (zP HO_9.out) (Kd.R_base ho0) hb); have n1_ := zA (Kd.R_elder' (zP HO_10.out) (Kd.R_base ho0) hb); have n2_ := zA (Kd.R_lower (Kd.R_new' (Kd.R_new' ho0 (Kd.R_lt (zP HO_9.out))) (Kd.R_lt (zP HO_10.out))) (below_size (zT HB.out GE623.out))); have n3_ := zA (blk_below (g := gb623) (o := .cells #[.int .i64 a0_0, .slice A0_1 l0_1.length c0_1] 26 (0, 0)) (zR BK623.out) hb); have n4_ := zA (below_step (zT HB.out GE623.out) hb); clear HO_9; clear HO_10; clear BK623; clear HB; have HO_9 := n0_; have HO_10 := n1_; have HO635 := n2_; have BK623 := n3_; have HB := n4_; clear n0_ n1_ n2_ n3_ n4_; (try clear hb); (try clear ho0)))
        go_ret2
        exact ⟨_, by first | rfl | (simp [errW_none, errW_some] <;> rfl) | (simp [*, errW_none, errW_some] <;> rfl), by (with_reducible repeat (first | apply zF | apply zG | apply zH)); exact Kd.R_mono HO635.out (fun _ hk => trivial), by repeat (first | (with_reducible first | exact HB.out | apply zB | apply zC | apply zD | refine zE ?_ GE623.out) | exact HB.out)⟩
     rw [if_neg c15] at H
     have c15b0 : (x8_12 == 0) = false := beq_eq_false_iff_ne.mpr c15
     have c15b1 : (x8_12 != 0) = true := bne_iff_ne.mpr c15
     simp only [Option.some.injEq, Prod.mk.injEq] at H
     obtain ⟨rfl, rfl⟩ := H
     go_wp2
     go_ret2
     exact ⟨_, by first | rfl | (simp [errW_none, errW_some] <;> rfl) | (simp [*, errW_none, errW_some] <;> rfl), by first | exact Kd.R_nil _ _ _ _ _ | exact Kd.N_nil _ _ _ _ _ | exact Kd.V_nil _ _ _ _ _ | exact Kd.Q_nil _ _ _ _ _ | exact Kd.S_nil _ _ _ _ _, by repeat (first | (with_reducible first | exact HB.out | apply zB | apply zC | apply zD | refine zE ?_ GE623.out) | exact HB.out)⟩

/-! ### impl_LeftQuotient: function 21 -/
def impl_LeftQuotient.f (k : Nat) (a0_0 : Int) (l0_1 : List Int) (l1 : List Int) (l2 : List Int) : Option (List Int × Int) := (impl_checkWords.f k a0_0 l0_1 (([l1, l2] : List (List Int)))).bind fun t661 => (if t661 = 0 then ((impl_Alphabet_ties.f a0_0 l0_1).bind fun t662 => ((impl_ties_quotient.f k t662 l1 l2).bind fun bt665 => (if bt665.2 = true then ((impl_Alphabet_ties.f a0_0 l0_1).bind fun t669 => ((impl_ties_normal.f k t669 bt665.1).bind fun t672 => (some (t672, 0)))) else (some (([] : List Int), 4))))) else (some (([] : List Int), t661)))

set_option maxHeartbeats 8000000 in
set_option maxRecDepth 100000 in
theorem impl_LeftQuotient.calls (k : Nat) (a0_0 : Int) (P0_1_ : Nat → Prop) (A0_1 : Option Addr) (c0_1 : Nat) (l0_1 : List Int) (P1_ : Nat → Prop) (A1 : Option Addr) (c1 : Nat) (l1 : List Int) (P2_ : Nat → Prop) (A2 : Option Addr) (c2 : Nat) (l2 : List Int) (r1 : List Int) (r2 : Int) (w : World) (hs0_1 : Kd.V (Kd.int .i64) 2 w w.heap.size (fun k_ => P0_1_ k_) (.slice A0_1 l0_1.length c0_1) l0_1) (hs1 : Kd.V (Kd.int .i64) 2 w w.heap.size (fun k_ => P1_ k_) (.slice A1 l1.length c1) l1) (hs2 : Kd.V (Kd.int .i64) 2 w w.heap.size (fun k_ => P2_ k_) (.slice A2 l2.length c2) l2) (hT : TabW w) (h : impl_LeftQuotient.f k a0_0 l0_1 l1 l2 = some (r1, r2)) :
  Calls Tryd.prog 21 #[.agg #[.int .i64 a0_0, .slice A0_1 l0_1.length c0_1], .slice A1 l1.length c1, .slice A2 l2.length c2] w fun e w' => ∃ v0_ : Value, e = .returned (.tuple #[v0_, .int .i64 r2]) ∧ Kd.R (Kd.int .i64) 2 w' w.heap.size (fun k_ => (w.heap.size ≤ k_)) v0_ r1 ∧ Below w.heap.size w w' := by
 have hu26 := Tryd.underlying26
 have HT := zA hT
 clear hT
 have HO0_1 := zA (show Kd.V (Kd.int .i64) 2 w w.heap.size (fun k_ => ((P0_1_ k_ ∨ P1_ k_ ∨ P2_ k_) ∨ w.heap.size ≤ k_)) (.slice A0_1 l0_1.length c0_1) l0_1 from Kd.V_mono hs0_1 (fun k_ hk => .inl (.inl hk)))
 have HO1 := zA (show Kd.V (Kd.int .i64) 2 w w.heap.size (fun k_ => ((P0_1_ k_ ∨ P1_ k_ ∨ P2_ k_) ∨ w.heap.size ≤ k_)) (.slice A1 l1.length c1) l1 from Kd.V_mono hs1 (fun k_ hk => .inl (.inr (.inl hk))))
 have HO2 := zA (show Kd.V (Kd.int .i64) 2 w w.heap.size (fun k_ => ((P0_1_ k_ ∨ P1_ k_ ∨ P2_ k_) ∨ w.heap.size ≤ k_)) (.slice A2 l2.length c2) l2 from Kd.V_mono hs2 (fun k_ hk => .inl (.inr (.inr hk))))
 have HB := zA (Below.refl w.heap.size w)
 have H : ((impl_checkWords.f k a0_0 l0_1 (([l1, l2] : List (List Int)))).bind fun t661 => (if t661 = 0 then ((impl_Alphabet_ties.f a0_0 l0_1).bind fun t662 => ((impl_ties_quotient.f k t662 l1 l2).bind fun bt665 => (if bt665.2 = true then ((impl_Alphabet_ties.f a0_0 l0_1).bind fun t669 => ((impl_ties_normal.f k t669 bt665.1).bind fun t672 => (some (t672, 0)))) else (some (([] : List Int), 4))))) else (some (([] : List Int), t661)))) = some (r1, r2) := h
 clear h
 obtain ⟨y658, hy658⟩ : ∃ y_ : List (List Int), y_ = (([l1, l2] : List (List Int))) := ⟨_, rfl⟩
 replace H : ((impl_checkWords.f k a0_0 l0_1 y658).bind fun t661 => (if t661 = 0 then ((impl_Alphabet_ties.f a0_0 l0_1).bind fun t662 => ((impl_ties_quotient.f k t662 l1 l2).bind fun bt665 => (if bt665.2 = true then ((impl_Alphabet_ties.f a0_0 l0_1).bind fun t669 => ((impl_ties_normal.f k t669 bt665.1).bind fun t672 => (some (t672, 0)))) else (some (([] : List Int), 4))))) else (some (([] : List Int), t661)))) = some (r1, r2) := by first | (rw [hy658]; with_reducible exact H) | (have H2_ := (Option.bind_some _ _).symm.trans H; rw [hy658]; with_reducible exact H2_) | (have H2_ := (Option.bind_some _ _).symm.trans H; with_reducible exact H2_) | with_reducible exact H | (rw [hy658]; exact H) | exact H
 have Ny658 := zA hy658
 clear hy658
 replace H := Option.bind_eq_some_iff.mp H
 obtain ⟨t661, A40, H⟩ := H
 replace H : (if t661 = 0 then ((impl_Alphabet_ties.f a0_0 l0_1).bind fun t662 => ((impl_ties_quotient.f k t662 l1 l2).bind fun bt665 => (if bt665.2 = true then ((impl_Alphabet_ties.f a0_0 l0_1).bind fun t669 => ((impl_ties_normal.f k t669 bt665.1).bind fun t672 => (some (t672, 0)))) else (some (([] : List Int), 4))))) else (some (([] : List Int), t661))) = some (r1, r2) := H
 have A4 := zA A40
 clear A40
 by_cases c5 : t661 = 0
 ·rw [if_pos c5] at H
  have c5b0 : (t661 == 0) = true := beq_iff_eq.mpr c5
  have c5b1 : (t661 != 0) = false := bne_eq_false_iff_eq.mpr c5
  clear c5
  replace H := Option.bind_eq_some_iff.mp H
  obtain ⟨t662, A60, H⟩ := H
  replace H : ((impl_ties_quotient.f k t662 l1 l2).bind fun bt665 => (if bt665.2 = true then ((impl_Alphabet_ties.f a0_0 l0_1).bind fun t669 => ((impl_ties_normal.f k t669 bt665.1).bind fun t672 => (some (t672, 0)))) else (some (([] : List Int), 4)))) = some (r1, r2) := H
  have A6 := zA A60
  clear A60
  replace H := Option.bind_eq_some_iff.mp H
  obtain ⟨⟨t665, t668⟩, A70, H⟩ := H
  replace H : (if t668 = true then ((impl_Alphabet_ties.f a0_0 l0_1).bind fun t669 => ((impl_ties_normal.f k t669 t665).bind fun t672 => (some (t672, 0)))) else (some (([] : List Int), 4))) = some (r1, r2) := H
  have A7 := zA A70
  clear A70
  by_cases c8 : t668 = true
  ·subst c8
   have H1 : ((impl_Alphabet_ties.f a0_0 l0_1).bind fun t669 => ((impl_ties_normal.f k t669 t665).bind fun t672 => (some (t672, 0)))) = some (r1, r2) := by rw [if_pos rfl] at H; exact H
   clear H
   have H := H1
   clear H1
   replace H := Option.bind_eq_some_iff.mp H
   obtain ⟨t669, A90, H⟩ := H
   replace H : ((impl_ties_normal.f k t669 t665).bind fun t672 => (some (t672, 0))) = some (r1, r2) := H
   have A9 := zA A90
   clear A90
   replace H := Option.bind_eq_some_iff.mp H
   obtain ⟨t672, A100, H⟩ := H
   replace H : (some (t672, 0)) = some (r1, r2) := H
   have A10 := zA A100
   clear A100
   simp only [Option.some.injEq, Prod.mk.injEq] at H
   obtain ⟨rfl, rfl⟩ := H
   go_enter Tryd.func21, Tryd.ntmps21
   go_wp2_with (first | ((with_reducible refine gate_dst (N := 3) rfl ?_); refine box_event ?hg (N := 3) ?hd (cs := #[.int .i64 a0_0, .slice A0_1 l0_1.length c0_1]) (t := 26) ?hr ?_; (case hd => rfl); (case hg => rfl); (case hr => first | (go_simp; done) | (go_simp; rfl)); intro gb657 hg w11 hbox hb; have n0_ := zA (Kd.V_below (Kd.V_elderB (by (with_reducible repeat (first | apply Kd.V_alloc | apply Kd.V_drewN | apply Kd.V_drew)); exact HO0_1.out) gb657 (Nat.le_of_eq hg.symm)) hb); have n1_ := zA (Kd.V_below (Kd.V_elderB (by (with_reducible repeat (first | apply Kd.V_alloc | apply Kd.V_drewN | apply Kd.V_drew)); exact HO1.out) gb657 (Nat.le_of_eq hg.symm)) hb); have n2_ := zA (Kd.V_below (Kd.V_elderB (by (with_reducible repeat (first | apply Kd.V_alloc | apply Kd.V_drewN | apply Kd.V_drew)); exact HO2.out) gb657 (Nat.le_of_eq hg.symm)) hb); have n3_ := zA (below_step (zQ HB.out) hb); have n4_ := zA (hbox); have n5_ := zA ((by rw [hg]; exact (below_size (zQ HB.out)) : w.heap.size ≤ gb657)); have n6_ := zA ((by rw [hg]; exact (below_size (zQ HB.out)) : w.heap.size ≤ gb657)); clear HO0_1; clear HO1; clear HO2; clear HB; have HO0_1 := n0_; have HO1 := n1_; have HO2 := n2_; have HB := n3_; have BK657 := n4_; have GW657 := n5_; have GE657 := n6_; clear n0_ n1_ n2_ n3_ n4_ n5_ n6_; clear hb hbox hg; have hcz12_0 : w11.cell? ⟨gb657, 0, none⟩ = some (.int .i64 a0_0) := (blk_cell BK657.out 0).trans rfl; have hcz12_1 : w11.cell? ⟨gb657, 1, none⟩ = some (.slice A0_1 l0_1.length c0_1) := (blk_cell BK657.out 1).trans rfl; have hfz12_0 := blk_frozen BK657.out 0; have hfz12_1 := blk_frozen BK657.out 1) | ((with_reducible refine gate_dst (N := 14) rfl ?_); refine Kd.N_lit (Kd.slice 2 (Kd.int .i64)) _ 24 ?hg (N' := 14) ?hd (xs := ([l1, l2] : List (List Int))) (inner := [.slice A1 l1.length c1, .slice A2 l2.length c2]) (ok := (fun k_ => ((P0_1_ k_ ∨ P1_ k_ ∨ P2_ k_) ∨ w.heap.size ≤ k_) ∧ k_ ≠ gb657)) (okp := (fun k_ => ((P0_1_ k_ ∨ P1_ k_ ∨ P2_ k_) ∨ w.heap.size ≤ k_) ∧ k_ ≠ gb657)) ?hr ?hp (fun _ hk => hk) ((show ∀ k_ : Nat, (_ : Nat) ≤ k_ → (fun k_ => ((P0_1_ k_ ∨ P1_ k_ ∨ P2_ k_) ∨ w.heap.size ≤ k_) ∧ k_ ≠ gb657) k_ from fun k_ hk => ⟨(.inr (Nat.le_trans (below_size (zT HB.out GE657.out)) hk)), Kd.freshB (g := gb657) (o := .cells #[.int .i64 a0_0, .slice A0_1 l0_1.length c0_1] 26 (0, 0)) (zR BK657.out) k_ hk⟩) _ (Nat.le_refl _)) (Below.refl _ _) (Nat.le_refl _) (by simp) ?_; (case hd => rfl); (case hg => rfl); (case hr => first | (go_simp; done) | (go_simp; rfl)); (case hp => exact (Reps.one (show Kd.FK (Kd.slice 2 (Kd.int .i64)) _ _ l1 [.slice A1 l1.length c1] from (Kd.FK_slice_mk (Kd.V_reads' (Kd.V_mono (ok' := (fun k_ => ((P0_1_ k_ ∨ P1_ k_ ∨ P2_ k_) ∨ w.heap.size ≤ k_) ∧ k_ ≠ gb657)) (HO1.out) (fun k_ hk => ⟨hk.1, hk.2⟩))).2.1 (Kd.V_F (Kd.V_mono (ok' := (fun k_ => ((P0_1_ k_ ∨ P1_ k_ ∨ P2_ k_) ∨ w.heap.size ≤ k_) ∧ k_ ≠ gb657)) (HO1.out) (fun k_ hk => ⟨hk.1, hk.2⟩))))) (Reps.one (show Kd.FK (Kd.slice 2 (Kd.int .i64)) _ _ l2 [.slice A2 l2.length c2] from (Kd.FK_slice_mk (Kd.V_reads' (Kd.V_mono (ok' := (fun k_ => ((P0_1_ k_ ∨ P1_ k_ ∨ P2_ k_) ∨ w.heap.size ≤ k_) ∧ k_ ≠ gb657)) (HO2.out) (fun k_ hk => ⟨hk.1, hk.2⟩))).2.1 (Kd.V_F (Kd.V_mono (ok' := (fun k_ => ((P0_1_ k_ ∨ P1_ k_ ∨ P2_ k_) ∨ w.heap.size ≤ k_) ∧ k_ ≠ gb657)) (HO2.out) (fun k_ hk => ⟨hk.1, hk.2⟩))))) (Reps.none _ _)))); intro v659 w13 ho14 hb hg_ hnew_; clear hg_ hnew_; (first | rw [← Ny658.out] at ho14 | (simp only [Int.reduceToNat] at ho14; rw [← Ny658.out] at ho14)); have n0_ := zA (Kd.V_elder' (by (with_reducible repeat (first | apply Kd.V_alloc | apply Kd.V_drewN | apply Kd.V_drew)); exact HO0_1.out) (Kd.N_base ho14) hb); have n1_ := zA (Kd.V_elder' (by (with_reducible repeat (first | apply Kd.V_alloc | apply Kd.V_drewN | apply Kd.V_drew)); exact HO1.out) (Kd.N_base ho14) hb); have n2_ := zA (Kd.V_elder' (by (with_reducible repeat (first | apply Kd.V_alloc | apply Kd.V_drewN | apply Kd.V_drew)); exact HO2.out) (Kd.N_base ho14) hb); have n3_ := zA (Kd.N_lower ho14 (below_size (zT HB.out GE657.out))); have n4_ := zA (blk_below (g := gb657) (o := .cells #[.int .i64 a0_0, .slice A0_1 l0_1.length c0_1] 26 (0, 0)) (zR BK657.out) hb); have n5_ := zA (below_step (zT HB.out GE657.out) hb); clear HO0_1; clear HO1; clear HO2; clear BK657; clear HB; have HO0_1 := n0_; have HO1 := n1_; have HO2 := n2_; have HO660 := n3_; have BK657 := n4_; have HB := n5_; clear n0_ n1_ n2_ n3_ n4_ n5_; clear hb ho14; obtain ⟨Ao15, co15, eo15⟩ := Kd.N_slice HO660.out; subst eo15) | ((with_reducible refine gate_callee (f := 49) rfl ?_); refine zO (some 15) Tryd.func49 #[.agg #[.int .i64 a0_0, .slice A0_1 l0_1.length c0_1], .slice Ao15 y658.length co15] ?_; (with_reducible refine (impl_checkWords.calls k a0_0 _ _ l0_1 _ _ y658 t661 _ ?side1 ?side2 ?side3 ?side4 ?side5 A4.out).mono ?_); (case side1 => exact zS (Kd.V_reads' HO0_1.out).2.2); (case side2 => exact (Kd.V_reads' HO0_1.out).2.1); (case side3 => exact zS (Kd.N_reads' HO660.out).2.2); (case side4 => exact (Kd.N_reads' HO660.out).2.1); (case side5 => exact TabW.below HT.out (zT HB.out GE657.out)); rintro e w16 ⟨rfl, hb⟩; refine ⟨_, rfl, ?_⟩; have n0_ := zA (Kd.V_below (by (with_reducible repeat (first | apply Kd.V_alloc | apply Kd.V_drewN | apply Kd.V_drew)); exact HO0_1.out) hb); have n1_ := zA (Kd.V_below (by (with_reducible repeat (first | apply Kd.V_alloc | apply Kd.V_drewN | apply Kd.V_drew)); exact HO1.out) hb); have n2_ := zA (Kd.V_below (by (with_reducible repeat (first | apply Kd.V_alloc | apply Kd.V_drewN | apply Kd.V_drew)); exact HO2.out) hb); have n3_ := zA (Kd.N_below (by (with_reducible repeat (first | apply Kd.N_alloc | apply Kd.N_drewN | apply Kd.N_drew)); exact HO660.out) hb); have n4_ := zA (blk_below (g := gb657) (o := .cells #[.int .i64 a0_0, .slice A0_1 l0_1.length c0_1] 26 (0, 0)) (zR BK657.out) hb); have n5_ := zA (below_step (zT HB.out GE657.out) hb); clear HO0_1; clear HO1; clear HO2; clear HO660; clear BK657; clear HB; have HO0_1 := n0_; have HO1 := n1_; have HO2 := n2_; have HO660 := n3_; have BK657 := n4_; have HB := n5_; clear n0_ n1_ n2_ n3_ n4_ n5_; (try clear hb); have hcz17_0 : w16.cell? ⟨gb657, 0, none⟩ = some (.int .i64 a0_0) := (blk_cell BK657.out 0).trans rfl; have hcz17_1 : w16.cell? ⟨gb657, 1, none⟩ = some (.slice A0_1 l0_1.length c0_1) := (blk_cell BK657.out 1).trans rfl; have hfz17_0 := blk_frozen BK657.out 0; have hfz17_1 := blk_frozen BK657.out 1) | ((with_reducible refine gate_callee (f := 50) rfl ?_); refine zO (some 21) Tryd.func50 #[.agg #[.int .i64 a0_0, .slice A0_1 l0_1.length c0_1]] ?_; (with_reducible refine (impl_Alphabet_ties.calls a0_0 (fun k_ => ((((P0_1_ k_ ∨ P1_ k_ ∨ P2_ k_) ∨ w.heap.size ≤ k_) ∧ k_ ≠ gb657) ∧ some k_ ≠ (.slice Ao15 y658.length co15 : Value).ownBlock)) _ _ l0_1 t662 _ ?side1 A6.out).mono ?_); (case side1 => exact HO0_1.out); rintro e w18 ⟨v663, rfl, ho0, hb⟩; refine ⟨_, rfl, ?_⟩; have n0_ := zA (Kd.V_below (by (with_reducible repeat (first | apply Kd.V_alloc | apply Kd.V_drewN | apply Kd.V_drew)); exact HO0_1.out) hb); have n1_ := zA (Kd.V_below (by (with_reducible repeat (first | apply Kd.V_alloc | apply Kd.V_drewN | apply Kd.V_drew)); exact HO1.out) hb); have n2_ := zA (Kd.V_below (by (with_reducible repeat (first | apply Kd.V_alloc | apply Kd.V_drewN | apply Kd.V_drew)); exact HO2.out) hb); have n3_ := zA (Kd.N_below (by (with_reducible repeat (first | apply Kd.N_alloc | apply Kd.N_drewN | apply Kd.N_drew)); exact HO660.out) hb); have n4_ := zA (Kd.V_lower (Kd.V_mono (ok' := fun k_ => ((P0_1_ k_ ∨ P1_ k_ ∨ P2_ k_) ∨ w.heap.size ≤ k_) ∧ some k_ ≠ (.slice Ao15 y658.length co15 : Value).ownBlock ∧ k_ ≠ gb657) ho0 (fun k_ hk_ => ⟨Or.elim hk_ (fun hs_ => hs_.1.1) (fun hn_ => (.inr (Nat.le_trans (below_size (zT HB.out GE657.out)) hn_))), Or.elim hk_ (fun hs_ => hs_.2) (fun hn_ => (Kd.fresh' (Kd.N_lt (by (with_reducible repeat (first | apply Kd.N_alloc | apply Kd.N_drewN | apply Kd.N_drew)); exact HO660.out)) k_ hn_)), Or.elim hk_ (fun hs_ => hs_.1.2) (fun hn_ => (Kd.freshB (g := gb657) (o := .cells #[.int .i64 a0_0, .slice A0_1 l0_1.length c0_1] 26 (0, 0)) (zR BK657.out) k_ hn_))⟩)) (below_size (zT HB.out GE657.out))); have n5_ := zA (blk_below (g := gb657) (o := .cells #[.int .i64 a0_0, .slice A0_1 l0_1.length c0_1] 26 (0, 0)) (zR BK657.out) hb); have n6_ := zA (below_step (zT HB.out GE657.out) hb); clear HO0_1; clear HO1; clear HO2; clear HO660; clear BK657; clear HB; have HO0_1 := n0_; have HO1 := n1_; have HO2 := n2_; have HO660 := n3_; have HO664 := n4_; have BK657 := n5_; have HB := n6_; clear n0_ n1_ n2_ n3_ n4_ n5_ n6_; (try clear hb); (try clear ho0); obtain ⟨Ao19, co19, eo19⟩ := Kd.V_slice HO664.out; subst eo19) | ((with_reducible refine gate_callee (f := 59) rfl ?_); refine zO (some 24) Tryd.func59 #[.slice Ao19 t662.length co19, .slice A1 l1.length c1, .slice A2 l2.length c2] ?_; (with_reducible refine (impl_ties_quotient.calls k _ _ t662 _ _ l1 (fun k_ => ((((P0_1_ k_ ∨ P1_ k_ ∨ P2_ k_) ∨ w.heap.size ≤ k_) ∧ k_ ≠ gb657) ∧ some k_ ≠ (.slice Ao15 y658.length co15 : Value).ownBlock)) _ _ l2 t665 true _ ?side1 ?side2 ?side3 ?side4 ?side5 A7.out).mono ?_); (case side1 => exact zS (Kd.V_reads' HO664.out).2.2); (case side2 => exact (Kd.V_reads' HO664.out).2.1); (case side3 => exact zS (Kd.V_reads' HO1.out).2.2); (case side4 => exact (Kd.V_reads' HO1.out).2.1); (case side5 => exact HO2.out); rintro e w20 ⟨v666, rfl, ho0, hb⟩; refine ⟨_, rfl, ?_⟩; have n0_ := zA (Kd.V_below (by (with_reducible repeat (first | apply Kd.V_alloc | apply Kd.V_drewN | apply Kd.V_drew)); exact HO0_1.out) hb); have n1_ := zA (Kd.V_below (by (with_reducible repeat (first | apply Kd.V_alloc | apply Kd.V_drewN | apply Kd.V_drew)); exact HO1.out) hb); have n2_ := zA (Kd.V_below (by (with_reducible repeat (first | apply Kd.V_alloc | apply Kd.V_drewN | apply Kd.V_drew)); exact HO2.out) hb); have n3_ := zA (Kd.N_below (by (with_reducible repeat (first | apply Kd.N_alloc | apply Kd.N_drewN | apply Kd.N_drew)); exact HO660.out) hb); have n4_ := zA (Kd.V_below (by (with_reducible repeat (first | apply Kd.V_alloc | apply Kd.V_drewN | apply Kd.V_drew)); exact HO664.out) hb); have n5_ := zA (Kd.V_lower (Kd.V_mono (ok' := fun k_ => ((P0_1_ k_ ∨ P1_ k_ ∨ P2_ k_) ∨ w.heap.size ≤ k_) ∧ some k_ ≠ (.slice Ao15 y658.length co15 : Value).ownBlock ∧ k_ ≠ gb657) ho0 (fun k_ hk_ => ⟨Or.elim hk_ (fun hs_ => hs_.1.1) (fun hn_ => (.inr (Nat.le_trans (below_size (zT HB.out GE657.out)) hn_))), Or.elim hk_ (fun hs_ => hs_.2) (fun hn_ => (Kd.fresh' (Kd.N_lt (by (with_reducible repeat (first | apply Kd.N_alloc | apply Kd.N_drewN | apply Kd.N_drew)); exact HO660.out)) k_ hn_)), Or.elim hk_ (fun hs_ => hs_.1.2) (fun hn_ => (Kd.freshB (g := gb657) (o := .cells #[.int .i64 a0_0, .slice A0_1 l0_1.length c0_1] 26 (0, 0)) (zR BK657.out) k_ hn_))⟩)) (below_size (zT HB.out GE657.out))); have n6_ := zA (blk_below (g := gb657) (o := .cells #[.int .i64 a0_0, .slice A0_1 l0_1.length c0_1] 26 (0, 0)) (zR BK657.out) hb); have n7_ := zA (below_step (zT HB.out GE657.out) hb); clear HO0_1; clear HO1; clear HO2; clear HO660; clear HO664; clear BK657; clear HB; have HO0_1 := n0_; have HO1 := n1_; have HO2 := n2_; have HO660 := n3_; have HO664 := n4_; have HO667 := n5_; have BK657 := n6_; have HB := n7_; clear n0_ n1_ n2_ n3_ n4_ n5_ n6_ n7_; (try clear hb); (try clear ho0); have hcz21_0 : w20.cell? ⟨gb657, 0, none⟩ = some (.int .i64 a0_0) := (blk_cell BK657.out 0).trans rfl; have hcz21_1 : w20.cell? ⟨gb657, 1, none⟩ = some (.slice A0_1 l0_1.length c0_1) := (blk_cell BK657.out 1).trans rfl; have hfz21_0 := blk_frozen BK657.out 0; have hfz21_1 := blk_frozen BK657.out 1) | ((with_reducible refine gate_callee (f := 50) rfl ?_); refine zO (some 30) Tryd.func50 #[.agg #[.int .i64 a0_0, .slice A0_1 l0_1.length c0_1]] ?_; (with_reducible refine (impl_Alphabet_ties.calls a0_0 (fun k_ => ((((P0_1_ k_ ∨ P1_ k_ ∨ P2_ k_) ∨ w.heap.size ≤ k_) ∧ k_ ≠ gb657) ∧ some k_ ≠ (.slice Ao15 y658.length co15 : Value).ownBlock)) _ _ l0_1 t669 _ ?side1 A9.out).mono ?_); (case side1 => exact HO0_1.out); rintro e w22 ⟨v670, rfl, ho0, hb⟩; refine ⟨_, rfl, ?_⟩; have n0_ := zA (Kd.V_below (by (with_reducible repeat (first | apply Kd.V_alloc | apply Kd.V_drewN | apply Kd.V_drew)); exact HO0_1.out) hb); have n1_ := zA (Kd.V_below (by (with_reducible repeat (first | apply Kd.V_alloc | apply Kd.V_drewN | apply Kd.V_drew)); exact HO1.out) hb); have n2_ := zA (Kd.V_below (by (with_reducible repeat (first | apply Kd.V_alloc | apply Kd.V_drewN | apply Kd.V_drew)); exact HO2.out) hb); have n3_ := zA (Kd.N_below (by (with_reducible repeat (first | apply Kd.N_alloc | apply Kd.N_drewN | apply Kd.N_drew)); exact HO660.out) hb); have n4_ := zA (Kd.V_below (by (with_reducible repeat (first | apply Kd.V_alloc | apply Kd.V_drewN | apply Kd.V_drew)); exact HO664.out) hb); have n5_ := zA (Kd.V_below (by (with_reducible repeat (first | apply Kd.V_alloc | apply Kd.V_drewN | apply Kd.V_drew)); exact HO667.out) hb); have n6_ := zA (Kd.V_lower (Kd.V_mono (ok' := fun k_ => ((P0_1_ k_ ∨ P1_ k_ ∨ P2_ k_) ∨ w.heap.size ≤ k_) ∧ some k_ ≠ (.slice Ao15 y658.length co15 : Value).ownBlock ∧ k_ ≠ gb657) ho0 (fun k_ hk_ => ⟨Or.elim hk_ (fun hs_ => hs_.1.1) (fun hn_ => (.inr (Nat.le_trans (below_size (zT HB.out GE657.out)) hn_))), Or.elim hk_ (fun hs_ => hs_.2) (fun hn_ => (Kd.fresh' (Kd.N_lt (by (with_reducible repeat (first | apply Kd.N_alloc | apply Kd.N_drewN | apply Kd.N_drew)); exact HO660.out)) k_ hn_)), Or.elim hk_ (fun hs_ => hs_.1.2) (fun hn_ => (Kd.freshB (g := gb657) (o := .cells #[.int .i64 a0_0, .slice A0_1 l0_1.length c0_1] 26 (0, 0)) (zR BK657.out) k_ hn_))⟩)) (below_size (zT HB.out GE657.out))); have n7_ := zA (blk_below (g := gb657) (o := .cells #[.int .i64 a0_0, .slice A0_1 l0_1.length c0_1] 26 (0, 0)) (zR BK657.out) hb); have n8_ := zA (below_step (zT HB.out GE657.out) hb); clear HO0_1; clear HO1; clear HO2; clear HO660; clear HO664; clear HO667; clear BK657; clear HB; have HO0_1 := n0_; have HO1 := n1_; have HO2 := n2_; have HO660 := n3_; have HO664 := n4_; have HO667 := n5_; have HO671 := n6_; have BK657 := n7_; have HB := n8_; clear n0_ n1_ n2_ n3_ n4_ n5_ n6_ n7_ n8_; (try clear hb); (try clear ho0); obtain ⟨Ao23, co23, eo23⟩ := Kd.V_slice HO671.out; subst eo23; obtain ⟨Ao24, co24, eo24⟩ := Kd.V_slice HO667.out; subst eo24) | ((with_reducible refine gate_callee (f := 56) rfl ?_); refine zO (some 32) Tryd.func56 #[.slice Ao23 t669.length co23, .slice Ao24 t665.length co24] ?_; (with_reducible refine (impl_ties_normal.calls k _ _ t669 (fun k_ => (((P0_1_ k_ ∨ P1_ k_ ∨ P2_ k_) ∨ w.heap.size ≤ k_) ∧ (some k_ ≠ (.slice Ao15 y658.length co15 : Value).ownBlock ∧ k_ ≠ gb657))) _ _ t665 t672 _ ?side1 ?side2 ?side3 ?side4 A10.out).mono ?_); (case side1 => exact zS (Kd.V_reads' HO671.out).2.2); (case side2 => exact (Kd.V_reads' HO671.out).2.1); (case side3 => exact HO667.out); (case side4 => exact TabW.below HT.out (zT HB.out GE657.out)); rintro e w25 ⟨v673, rfl, ho0, hb⟩; refine ⟨_, rfl, ?_⟩; have n0_ := zA (Kd.V_elder' (by (with_reducible repeat (first | apply Kd.V_alloc | apply Kd.V_drewN | apply Kd.V_drew)); exact HO0_1.out) (Kd.R_base ho0) hb); have n1_ := zA (Kd.V_elder' (by (with_reducible repeat (first | apply Kd.V_alloc | apply Kd.V_drewN | apply Kd.V_drew)); exact HO1.out) (Kd.R_base ho0) hb); have n2_ := zA (Kd.V_elder' (by (with_reducible repeat (first | apply Kd.V_alloc | apply Kd.V_drewN | apply Kd.V_drew)); exact HO2.out) (Kd.R_base ho0) hb); have n3_ := zA (Kd.N_elder' (by (with_reducible repeat (first | apply Kd.N_alloc | apply Kd.N_drewN | apply Kd.N_drew)); exact HO660.out) (Kd.R_base ho0) hb); have n4_ := zA (Kd.V_elder' (by (with_reducible repeat (first | apply Kd.V_alloc | apply Kd.V_drewN | apply Kd.V_drew)); exact HO664.out) (Kd.R_base ho0) hb); have n5_ := zA (Kd.V_elder' (by (with_reducible repeat (first | apply Kd.V_alloc | apply Kd.V_drewN | apply Kd.V_drew)); exact HO667.out) (Kd.R_base ho0) hb); have n6_ := zA (Kd.V_elder' (by (with_reducible repeat (first | apply Kd.V_alloc | apply Kd.V_drewN | apply Kd.V_drew)); exact HO671.out) (Kd.R_base ho0) hb); have n7_ := zA (Kd.R_lower (Kd.R_newM (M := fun k_ => (w.heap.size ≤ k_)) (Kd.R_mono (ok' := fun k_ => True) ho0 (fun _ hk_ => trivial)) (below_size (zT HB.out GE657.out)) (fun k_ h_ => h_)) (below_size (zT HB.out GE657.out))); have n8_ := zA (blk_below (g := gb657) (o := .cells #[.int .i64 a0_0, .slice A0_1 l0_1.length c0_1] 26 (0, 0)) (zR BK657.out) hb); have n9_ := zA (below_step (zT HB.out GE657.out) hb); clear HO0_1; clear HO1; clear HO2; clear HO660; clear HO664; clear HO667; clear HO671; clear BK657; clear HB; have HO0_1 := n0_; have HO1 := n1_; have HO2 := n2_; have HO660 := n3_; have HO664 := n4_; have HO667 := n5_; have HO671 := n6_; have HO674 := n7_; have BK657 := n8_; have HB := n9_; clear n0_ n1_ n2_ n3_ n4_ n5_ n6_ n7_ n8_ n9_; (try clear hb); (try clear ho0)))
   go_ret2
   exact ⟨_, by first | rfl | (simp [errW_none, errW_some] <;> rfl) | (simp [*, errW_none, errW_some] <;> rfl), by (with_reducible repeat (first | apply zF | apply zG | apply zH)); exact Kd.R_mono HO674.out (fun _ hk => hk.1), by repeat (first | (with_reducible first | exact HB.out | apply zB | apply zC | apply zD | refine zE ?_ GE657.out) | exact HB.out)⟩
  replace c8 := Bool.eq_false_iff.mpr c8
  subst c8
  have H1 : (some (([] : List Int), 4)) = some (r1, r2) := by rw [if_neg (show ¬ (false = true) by decide)] at H; exact H
  clear H
  have H := H1
  clear H1
  simp only [Option.some.injEq, Prod.mk.injEq] at H
  obtain ⟨rfl, rfl⟩ := H
  go_enter Tryd.func21, Tryd.ntmps21
  go_wp2_with (first | ((with_reducible refine gate_dst (N := 3) rfl ?_); refine box_event ?hg (N := 3) ?hd (cs := #[.int .i64 a0_0, .slice A0_1 l0_1.length c0_1]) (t := 26) ?hr ?_; (case hd => rfl); (case hg => rfl); (case hr => first | (go_simp; done) | (go_simp; rfl)); intro gb657 hg w26 hbox hb; have n0_ := zA (Kd.V_below (Kd.V_elderB (by (with_reducible repeat (first | apply Kd.V_alloc | apply Kd.V_drewN | apply Kd.V_drew)); exact HO0_1.out) gb657 (Nat.le_of_eq hg.symm)) hb); have n1_ := zA (Kd.V_below (Kd.V_elderB (by (with_reducible repeat (first | apply Kd.V_alloc | apply Kd.V_drewN | apply Kd.V_drew)); exact HO1.out) gb657 (Nat.le_of_eq hg.symm)) hb); have n2_ := zA (Kd.V_below (Kd.V_elderB (by (with_reducible repeat (first | apply Kd.V_alloc | apply Kd.V_drewN | apply Kd.V_drew)); exact HO2.out) gb657 (Nat.le_of_eq hg.symm)) hb); have n3_ := zA (below_step (zQ HB.out) hb); have n4_ := zA (hbox); have n5_ := zA ((by rw [hg]; exact (below_size (zQ HB.out)) : w.heap.size ≤ gb657)); have n6_ := zA ((by rw [hg]; exact (below_size (zQ HB.out)) : w.heap.size ≤ gb657)); clear HO0_1; clear HO1; clear HO2; clear HB; have HO0_1 := n0_; have HO1 := n1_; have HO2 := n2_; have HB := n3_; have BK657 := n4_; have GW657 := n5_; have GE657 := n6_; clear n0_ n1_ n2_ n3_ n4_ n5_ n6_; clear hb hbox hg; have hcz27_0 : w26.cell? ⟨gb657, 0, none⟩ = some (.int .i64 a0_0) := (blk_cell BK657.out 0).trans rfl; have hcz27_1 : w26.cell? ⟨gb657, 1, none⟩ = some (.slice A0_1 l0_1.length c0_1) := (blk_cell BK657.out 1).trans rfl; have hfz27_0 := blk_frozen BK657.out 0; have hfz27_1 := blk_frozen BK657.out 1) | ((with_reducible refine gate_dst (N := 14) rfl ?_); refine Kd.N_lit (Kd.slice 2 (Kd.int .i64)) _ 24 ?hg (N' := 14) ?hd (xs := ([l1, l2] : List (List Int))) (inner := [.slice A1 l1.length c1, .slice A2 l2.length c2]) (ok := (fun k_ => ((P0_1_ k_ ∨ P1_ k_ ∨ P2_ k_) ∨ w.heap.size ≤ k_) ∧ k_ ≠ gb657)) (okp := (fun k_ => ((P0_1_ k_ ∨ P1_ k_ ∨ P2_ k_) ∨ w.heap.size ≤ k_) ∧ k_ ≠ gb657)) ?hr ?hp (fun _ hk => hk) ((show ∀ k_ : Nat, (_ : Nat) ≤ k_ → (fun k_ => ((P0_1_ k_ ∨ P1_ k_ ∨ P2_ k_) ∨ w.heap.size ≤ k_) ∧ k_ ≠ gb657) k_ from fun k_ hk => ⟨(.inr (Nat.le_trans (below_size (zT HB.out GE657.out)) hk)), Kd.freshB (g := gb657) (o := .cells #[.int .i64 a0_0, .slice A0_1 l0_1.length c0_1] 26 (0, 0)) (zR BK657.out) k_ hk⟩) _ (Nat.le_refl _)) (Below.refl _ _) (Nat.le_refl _) (by simp) ?_; (case hd => rfl); (case hg => rfl); (case hr => first | (go_simp; done) | (go_simp; rfl)); (case hp => exact (Reps.one (show Kd.FK (Kd.slice 2 (Kd.int .i64)) _ _ l1 [.slice A1 l1.length c1] from (Kd.FK_slice_mk (Kd.V_reads' (Kd.V_mono (ok' := (fun k_ => ((P0_1_ k_ ∨ P1_ k_ ∨ P2_ k_) ∨ w.heap.size ≤ k_) ∧ k_ ≠ gb657)) (HO1.out) (fun k_ hk => ⟨hk.1, hk.2⟩))).2.1 (Kd.V_F (Kd.V_mono (ok' := (fun k_ => ((P0_1_ k_ ∨ P1_ k_ ∨ P2_ k_) ∨ w.heap.size ≤ k_) ∧ k_ ≠ gb657)) (HO1.out) (fun k_ hk => ⟨hk.1, hk.2⟩))))) (Reps.one (show Kd.FK (Kd.slice 2 (Kd.int .i64)) _ _ l2 [.slice A2 l2.length c2] from (Kd.FK_slice_mk (Kd.V_reads' (Kd.V_mono (ok' := (fun k_ => ((P0_1_ k_ ∨ P1_ k_ ∨ P2_ k_) ∨ w.heap.size ≤ k_) ∧ k_ ≠ gb657)) (HO2.out) (fun k_ hk => ⟨hk.1, hk.2⟩))).2.1 (Kd.V_F (Kd.V_mono (ok' := (fun k_ => ((P0_1_ k_ ∨ P1_ k_ ∨ P2_ k_) ∨ w.heap.size ≤ k_) ∧ k_ ≠ gb657)) (HO2.out) (fun k_ hk => ⟨hk.1, hk.2⟩))))) (Reps.none _ _)))); intro v659 w28 ho29 hb hg_ hnew_; clear hg_ hnew_; (first | rw [← Ny658.out] at ho29 | (simp only [Int.reduceToNat] at ho29; rw [← Ny658.out] at ho29)); have n0_ := zA (Kd.V_elder' (by (with_reducible repeat (first | apply Kd.V_alloc | apply Kd.V_drewN | apply Kd.V_drew)); exact HO0_1.out) (Kd.N_base ho29) hb); have n1_ := zA (Kd.V_elder' (by (with_reducible repeat (first | apply Kd.V_alloc | apply Kd.V_drewN | apply Kd.V_drew)); exact HO1.out) (Kd.N_base ho29) hb); have n2_ := zA (Kd.V_elder' (by (with_reducible repeat (first | apply Kd.V_alloc | apply Kd.V_drewN | apply Kd.V_drew)); exact HO2.out) (Kd.N_base ho29) hb); have n3_ := zA (Kd.N_lower ho29 (below_size (zT HB.out GE657.out))); have n4_ := zA (blk_below (g := gb657) (o := .cells #[.int .i64 a0_0, .slice A0_1 l0_1.length c0_1] 26 (0, 0)) (zR BK657.out) hb); have n5_ := zA (below_step (zT HB.out GE657.out) hb); clear HO0_1; clear HO1; clear HO2; clear BK657; clear HB; have HO0_1 := n0_; have HO1 := n1_; have HO2 := n2_; have HO660 := n3_; have BK657 := n4_; have HB := n5_; clear n0_ n1_ n2_ n3_ n4_ n5_; clear hb ho29; obtain ⟨Ao30, co30, eo30⟩ := Kd.N_slice HO660.out; subst eo30) | ((with_reducible refine gate_callee (f := 49) rfl ?_); refine zO (some 15) Tryd.func49 #[.agg #[.int .i64 a0_0, .slice A0_1 l0_1.length c0_1], .slice Ao30 y658.length co30] ?_; (with_reducible refine (impl_checkWords.calls k a0_0 _ _ l0_1 _ _ y658 t661 _ ?side1 ?side2 ?side3 ?side4 ?side5 A4.out).mono ?_); (case side1 => exact zS (Kd.V_reads' HO0_1.out).2.2); (case side2 => exact (Kd.V_reads' HO0_1.out).2.1); (case side3 => exact zS (Kd.N_reads' HO660.out).2.2); (case side4 => exact (Kd.N_reads' HO660.out).2.1); (case side5 => exact TabW.below HT.out (zT HB.out GE657.out)); rintro e w31 ⟨rfl, hb⟩; refine ⟨_, rfl, ?_⟩; have n0_ := zA (Kd.V_below (by (with_reducible repeat (first | apply Kd.V_alloc | apply Kd.V_drewN | apply Kd.V_drew)); exact HO0_1.out) hb); have n1_ := zA (Kd.V_below (by (with_reducible repeat (first | apply Kd.V_alloc | apply Kd.V_drewN | apply Kd.V_drew)); exact HO1.out) hb); have n2_ := zA (Kd.V_below (by (with_reducible repeat (first | apply Kd.V_alloc | apply Kd.V_drewN | apply Kd.V_drew)); exact HO2.out) hb); have n3_ := zA (Kd.N_below (by (with_reducible repeat (first | apply Kd.N_alloc | apply Kd.N_drewN | apply Kd.N_drew)); exact HO660.out) hb); have n4_ := zA (blk_below (g := gb657) (o := .cells #[.int .i64 a0_0, .slice A0_1 l0_1.length c0_1] 26 (0, 0)) (zR BK657.out) hb); have n5_ := zA (below_step (zT HB.out GE657.out) hb); clear HO0_1; clear HO1; clear HO2; clear HO660; clear BK657; clear HB; have HO0_1 := n0_; have HO1 := n1_; have HO2 := n2_; have HO660 := n3_; have BK657 := n4_; have HB := n5_; clear n0_ n1_ n2_ n3_ n4_ n5_; (try clear hb); have hcz32_0 : w31.cell? ⟨gb657, 0, none⟩ = some (.int .i64 a0_0) := (blk_cell BK657.out 0).trans rfl; have hcz32_1 : w31.cell? ⟨gb657, 1, none⟩ = some (.slice A0_1 l0_1.length c0_1) := (blk_cell BK657.out 1).trans rfl; have hfz32_0 := blk_frozen BK657.out 0; have hfz32_1 := blk_frozen BK657.out 1) | ((with_reducible refine gate_callee (f := 50) rfl ?_); refine zO (some 21) Tryd.func50 #[.agg #[.int .i64 a0_0, .slice A0_1 l0_1.length c0_1]] ?_; (with_reducible refine (impl_Alphabet_ties.calls a0_0 (fun k_ => ((((P0_1_ k_ ∨ P1_ k_ ∨ P2_ k_) ∨ w.heap.size ≤ k_) ∧ k_ ≠ gb657) ∧ some k_ ≠ (.slice Ao30 y658.length co30 : Value).ownBlock)) _ _ l0_1 t662 _ ?side1 A6.out).mono ?_); (case side1 => exact HO0_1.out); rintro e w33 ⟨v663, rfl, ho0, hb⟩; refine ⟨_, rfl, ?_⟩; have n0_ := zA (Kd.V_below (by (with_reducible repeat (first | apply Kd.V_alloc | apply Kd.V_drewN | apply Kd.V_drew)); exact HO0_1.out) hb); have n1_ := zA (Kd.V_below (by (with_reducible repeat (first | apply Kd.V_alloc | apply Kd.V_drewN | apply Kd.V_drew)); exact HO1.out) hb); have n2_ := zA (Kd.V_below (by (with_reducible repeat (first | apply Kd.V_alloc | apply Kd.V_drewN | apply Kd.V_drew)); exact HO2.out) hb); have n3_ := zA (Kd.N_below (by (with_reducible repeat (first | apply Kd.N_alloc | apply Kd.N_drewN | apply Kd.N_drew)); exact HO660.out) hb); have n4_ := zA (Kd.V_lower (Kd.V_mono (ok' := fun k_ => ((P0_1_ k_ ∨ P1_ k_ ∨ P2_ k_) ∨ w.heap.size ≤ k_) ∧ some k_ ≠ (.slice Ao30 y658.length co30 : Value).ownBlock ∧ k_ ≠ gb657) ho0 (fun k_ hk_ => ⟨Or.elim hk_ (fun hs_ => hs_.1.1) (fun hn_ => (.inr (Nat.le_trans (below_size (zT HB.out GE657.out)) hn_))), Or.elim hk_ (fun hs_ => hs_.2) (fun hn_ => (Kd.fresh' (Kd.N_lt (by (with_reducible repeat (first | apply Kd.N_alloc | apply Kd.N_drewN | apply Kd.N_drew)); exact HO660.out)) k_ hn_)), Or.elim hk_ (fun hs_ => hs_.1.2) (fun hn_ => (Kd.freshB (g := gb657) (o := .cells #[.int .i64 a0_0, .slice A0_1 l0_1.length c0_1] 26 (0, 0)) (zR BK657.out) k_ hn_))⟩)) (below_size (zT HB.out GE657.out))); have n5_ := zA (blk_below (g := gb657) (o := .cells #[.int .i64 a0_0, .slice A0_1 l0_1.length c0_1] 26 (0, 0)) (zR BK657.out) hb); have n6_ := zA (below_step (zT HB.out GE657.out) hb); clear HO0_1; clear HO1; clear HO2; clear HO660; clear BK657; clear HB; have HO0_1 := n0_; have HO1 := n1_; have HO2 := n2_; have HO660 := n3_; have HO664 := n4_; have BK657 := n5_; have HB := n6_; clear n0_ n1_ n2_ n3_ n4_ n5_ n6_; (try clear hb); (try clear ho0); obtain ⟨Ao34, co34, eo34⟩ := Kd.V_slice HO664.out; subst eo34) | ((with_reducible refine gate_callee (f := 59) rfl ?_); refine zO (some 24) Tryd.func59 #[.slice Ao34 t662.length co34, .slice A1 l1.length c1, .slice A2 l2.length c2] ?_; (with_reducible refine (impl_ties_quotient.calls k _ _ t662 _ _ l1 (fun k_ => ((((P0_1_ k_ ∨ P1_ k_ ∨ P2_ k_) ∨ w.heap.size ≤ k_) ∧ k_ ≠ gb657) ∧ some k_ ≠ (.slice Ao30 y658.length co30 : Value).ownBlock)) _ _ l2 t665 false _ ?side1 ?side2 ?side3 ?side4 ?side5 A7.out).mono ?_); (case side1 => exact zS (Kd.V_reads' HO664.out).2.2); (case side2 => exact (Kd.V_reads' HO664.out).2.1); (case side3 => exact zS (Kd.V_reads' HO1.out).2.2); (case side4 => exact (Kd.V_reads' HO1.out).2.1); (case side5 => exact HO2.out); rintro e w35 ⟨v666, rfl, ho0, hb⟩; refine ⟨_, rfl, ?_⟩; have n0_ := zA (Kd.V_below (by (with_reducible repeat (first | apply Kd.V_alloc | apply Kd.V_drewN | apply Kd.V_drew)); exact HO0_1.out) hb); have n1_ := zA (Kd.V_below (by (with_reducible repeat (first | apply Kd.V_alloc | apply Kd.V_drewN | apply Kd.V_drew)); exact HO1.out) hb); have n2_ := zA (Kd.V_below (by (with_reducible repeat (first | apply Kd.V_alloc | apply Kd.V_drewN | apply Kd.V_drew)); exact HO2.out) hb); have n3_ := zA (Kd.N_below (by (with_reducible repeat (first | apply Kd.N_alloc | apply Kd.N_drewN | apply Kd.N_drew)); exact HO660.out) hb); have n4_ := zA (Kd.V_below (by (with_reducible repeat (first | apply Kd.V_alloc | apply Kd.V_drewN | apply Kd.V_drew)); exact HO664.out) hb); have n5_ := zA (Kd.V_lower (Kd.V_mono (ok' := fun k_ => ((P0_1_ k_ ∨ P1_ k_ ∨ P2_ k_) ∨ w.heap.size ≤ k_) ∧ some k_ ≠ (.slice Ao30 y658.length co30 : Value).ownBlock ∧ k_ ≠ gb657) ho0 (fun k_ hk_ => ⟨Or.elim hk_ (fun hs_ => hs_.1.1) (fun hn_ => (.inr (Nat.le_trans (below_size (zT HB.out GE657.out)) hn_))), Or.elim hk_ (fun hs_ => hs_.2) (fun hn_ => (Kd.fresh' (Kd.N_lt (by (with_reducible repeat (first | apply Kd.N_alloc | apply Kd.N_drewN | apply Kd.N_drew)); exact HO660.out)) k_ hn_)), Or.elim hk_ (fun hs_ => hs_.1.2) (fun hn_ => (Kd.freshB (g := gb657) (o := .cells #[.int .i64 a0_0, .slice A0_1 l0_1.length c0_1] 26 (0, 0)) (zR BK657.out) k_ hn_))⟩)) (below_size (zT HB.out GE657.out))); have n6_ := zA (blk_below (g := gb657) (o := .cells #[.int .i64 a0_0, .slice A0_1 l0_1.length c0_1] 26 (0, 0)) (zR BK657.out) hb); have n7_ := zA (below_step (zT HB.out GE657.out) hb); clear HO0_1; clear HO1; clear HO2; clear HO660; clear HO664; clear BK657; clear HB; have HO0_1 := n0_; have HO1 := n1_; have HO2 := n2_; have HO660 := n3_; have HO664 := n4_; have HO667 := n5_; have BK657 := n6_; have HB := n7_; clear n0_ n1_ n2_ n3_ n4_ n5_ n6_ n7_; (try clear hb); (try clear ho0)))
  go_ret2
  exact ⟨_, by first | rfl | (simp [errW_none, errW_some] <;> rfl) | (simp [*, errW_none, errW_some] <;> rfl), by first | exact Kd.R_nil _ _ _ _ _ | exact Kd.N_nil _ _ _ _ _ | exact Kd.V_nil _ _ _ _ _ | exact Kd.Q_nil _ _ _ _ _ | exact Kd.S_nil _ _ _ _ _, by repeat (first | (with_reducible first | exact HB.out | apply zB | apply zC | apply zD | refine zE ?_ GE657.out) | exact HB.out)⟩
 rw [if_neg c5] at H
 have c5b0 : (t661 == 0) = false := beq_eq_false_iff_ne.mpr c5
 have c5b1 : (t661 != 0) = true := bne_iff_ne.mpr c5
 simp only [Option.some.injEq, Prod.mk.injEq] at H
 obtain ⟨rfl, rfl⟩ := H
 go_enter Tryd.func21, Tryd.ntmps21
 go_wp2_with (first | ((with_reducible refine gate_dst (N := 3) rfl ?_); refine box_event ?hg (N := 3) ?hd (cs := #[.int .i64 a0_0, .slice A0_1 l0_1.length c0_1]) (t := 26) ?hr ?_; (case hd => rfl); (case hg => rfl); (case hr => first | (go_simp; done) | (go_simp; rfl)); intro gb657 hg w36 hbox hb; have n0_ := zA (Kd.V_below (Kd.V_elderB (by (with_reducible repeat (first | apply Kd.V_alloc | apply Kd.V_drewN | apply Kd.V_drew)); exact HO0_1.out) gb657 (Nat.le_of_eq hg.symm)) hb); have n1_ := zA (Kd.V_below (Kd.V_elderB (by (with_reducible repeat (first | apply Kd.V_alloc | apply Kd.V_drewN | apply Kd.V_drew)); exact HO1.out) gb657 (Nat.le_of_eq hg.symm)) hb); have n2_ := zA (Kd.V_below (Kd.V_elderB (by (with_reducible repeat (first | apply Kd.V_alloc | apply Kd.V_drewN | apply Kd.V_drew)); exact HO2.out) gb657 (Nat.le_of_eq hg.symm)) hb); have n3_ := zA (below_step (zQ HB.out) hb); have n4_ := zA (hbox); have n5_ := zA ((by rw [hg]; exact (below_size (zQ HB.out)) : w.heap.size ≤ gb657)); have n6_ := zA ((by rw [hg]; exact (below_size (zQ HB.out)) : w.heap.size ≤ gb657)); clear HO0_1; clear HO1; clear HO2; clear HB; have HO0_1 := n0_; have HO1 := n1_; have HO2 := n2_; have HB := n3_; have BK657 := n4_; have GW657 := n5_; have GE657 := n6_; clear n0_ n1_ n2_ n3_ n4_ n5_ n6_; clear hb hbox hg; have hcz37_0 : w36.cell? ⟨gb657, 0, none⟩ = some (.int .i64 a0_0) := (blk_cell BK657.out 0).trans rfl; have hcz37_1 : w36.cell? ⟨gb657, 1, none⟩ = some (.slice A0_1 l0_1.length c0_1) := (blk_cell BK657.out 1).trans rfl; have hfz37_0 := blk_frozen BK657.out 0; have hfz37_1 := blk_frozen BK657.out 1) | ((with_reducible refine gate_dst (N := 14) rfl ?_); refine Kd.N_lit (Kd.slice 2 (Kd.int .i64)) _ 24 ?hg (N' := 14) ?hd (xs := ([l1, l2] : List (List Int))) (inner := [.slice A1 l1.length c1, .slice A2 l2.length c2]) (ok := (fun k_ => ((P0_1_ k_ ∨ P1_ k_ ∨ P2_ k_) ∨ w.heap.size ≤ k_) ∧ k_ ≠ gb657)) (okp := (fun k_ => ((P0_1_ k_ ∨ P1_ k_ ∨ P2_ k_) ∨ w.heap.size ≤ k_) ∧ k_ ≠ gb657)) ?hr ?hp (fun _ hk => hk) ((show ∀ k_ : Nat, (_ : Nat) ≤ k_ → (fun k_ => ((P0_1_ k_ ∨ P1_ k_ ∨ P2_ k_) ∨ w.heap.size ≤ k_) ∧ k_ ≠ gb657) k_ from fun k_ hk => ⟨(.inr (Nat.le_trans (below_size (zT HB.out GE657.out)) hk)), Kd.freshB (g := gb657) (o := .cells #[.int .i64 a0_0, .slice A0_1 l0_1.length c0_1] 26 (0, 0)) (zR BK657.out) k_ hk⟩) _ (Nat.le_refl _)) (Below.refl _ _) (Nat.le_refl _) (by simp) ?_; (case hd => rfl); (case hg => rfl); (case hr => first | (go_simp; done) | (go_simp; rfl)); (case hp => exact (Reps.one (show Kd.FK (Kd.slice 2 (Kd.int .i64)) _ _ l1 [.slice A1 l1.length c1] from (Kd.FK_slice_mk (Kd.V_reads' (Kd.V_mono (ok' := (fun k_ => ((P0_1_ k_ ∨ P1_ k_ ∨ P2_ k_) ∨ w.heap.size ≤ k_) ∧ k_ ≠ gb657)) (HO1.out) (fun k_ hk => ⟨hk.1, hk.2⟩))).2.1 (Kd.V_F (Kd.V_mono (ok' := (fun k_ => ((P0_1_ k_ ∨ P1_ k_ ∨ P2_ k_) ∨ w.heap.size ≤ k_) ∧ k_ ≠ gb657)) (HO1.out) (fun k_ hk => ⟨hk.1, hk.2⟩))))) (Reps.one (show Kd.FK (Kd.slice 2 (Kd.int .i64)) _ _ l2 [.slice A2 l2.length c2] from (Kd.FK_slice_mk (Kd.V_reads' (Kd.V_mono (ok' := (fun k_ => ((P0_1_ k_ ∨ P1_ k_ ∨ P2_ k_) ∨ w.heap.size ≤ k_) ∧ k_ ≠ gb657)) (HO2.out) (fun k_ hk => ⟨hk.1, hk.2⟩))).2.1 (Kd.V_F (Kd.V_mono (ok' := (fun k_ => ((P0_1_ k_ ∨ P1_ k_ ∨ P2_ k_) ∨ w.heap.size ≤ k_) ∧ k_ ≠ gb657)) (HO2.out) (fun k_ hk => ⟨hk.1, hk.2⟩))))) (Reps.none _ _)))); intro v659 w38 ho39 hb hg_ hnew_; clear hg_ hnew_; (first | rw [← Ny658.out] at ho39 | (simp only [Int.reduceToNat] at ho39; rw [← Ny658.out] at ho39)); have n0_ := zA (Kd.V_elder' (by (with_reducible repeat (first | apply Kd.V_alloc | apply Kd.V_drewN | apply Kd.V_drew)); exact HO0_1.out) (Kd.N_base ho39) hb); have n1_ := zA (Kd.V_elder' (by (with_reducible repeat (first | apply Kd.V_alloc | apply Kd.V_drewN | apply Kd.V_drew)); exact HO1.out) (Kd.N_base ho39) hb); have n2_ := zA (Kd.V_elder' (by (with_reducible repeat (first | apply Kd.V_alloc | apply Kd.V_drewN | apply Kd.V_drew)); exact HO2.out) (Kd.N_base ho39) hb); have n3_ := zA (Kd.N_lower ho39 (below_size (zT HB.out GE657.out))); have n4_ := zA (blk_below (g := gb657) (o := .cells #[.int .i64 a0_0, .slice A0_1 l0_1.length c0_1] 26 (0, 0)) (zR BK657.out) hb); have n5_ := zA (below_step (zT HB.out GE657.out) hb); clear HO0_1; clear HO1; clear HO2; clear BK657; clear HB; have HO0_1 := n0_; have HO1 := n1_; have HO2 := n2_; have HO660 := n3_; have BK657 := n4_; have HB := n5_; clear n0_ n1_ n2_ n3_ n4_ n5_; clear hb ho39; obtain ⟨Ao40, co40, eo40⟩ := Kd.N_slice HO660.out; subst eo40) | ((with_reducible refine gate_callee (f := 49) rfl ?_); refine zO (some 15) Tryd.func49 #[.agg #[.int .i64 a0_0, .slice A0_1 l0_1.length c0_1], .slice Ao40 y658.length co40] ?_; (with_reducible refine (impl_checkWords.calls k a0_0 _ _ l0_1 _ _ y658 t661 _ ?side1 ?side2 ?side3 ?side4 ?side5 A4.out).mono ?_); (case side1 => exact zS (Kd.V_reads' HO0_1.out).2.2); (case side2 => exact (Kd.V_reads' HO0_1.out).2.1); (case side3 => exact zS (Kd.N_reads' HO660.out).2.2); (case side4 => exact (Kd.N_reads' HO660.out).2.1); (case side5 => exact TabW.below HT.out (zT HB.out GE657.out)); rintro e w41 ⟨rfl, hb⟩; refine ⟨_, rfl, ?_⟩; have n0_ := zA (Kd.V_below (by (with_reducible repeat (first | apply Kd.V_alloc | apply Kd.V_drewN | apply Kd.V_drew)); exact HO0_1.out) hb); have n1_ := zA (Kd.V_below (by (with_reducible repeat (first | apply Kd.V_alloc | apply Kd.V_drewN | apply Kd.V_drew)); exact HO1.out) hb); have n2_ := zA (Kd.V_below (by (with_reducible repeat (first | apply Kd.V_alloc | apply Kd.V_drewN | apply Kd.V_drew)); exact HO2.out) hb); have n3_ := zA (Kd.N_below (by (with_reducible repeat (first | apply Kd.N_alloc | apply Kd.N_drewN | apply Kd.N_drew)); exact HO660.out) hb); have n4_ := zA (blk_below (g := gb657) (o := .cells #[.int .i64 a0_0, .slice A0_1 l0_1.length c0_1] 26 (0, 0)) (zR BK657.out) hb); have n5_ := zA (below_step (zT HB.out GE657.out) hb); clear HO0_1; clear HO1; clear HO2; clear HO660; clear BK657; clear HB; have HO0_1 := n0_; have HO1 := n1_; have HO2 := n2_; have HO660 := n3_; have BK657 := n4_; have HB := n5_; clear n0_ n1_ n2_ n3_ n4_ n5_; (try clear hb)))
 go_ret2
 exact ⟨_, by first | rfl | (simp [errW_none, errW_some] <;> rfl) | (simp [*, errW_none, errW_some] <;> rfl), by first | exact Kd.R_nil _ _ _ _ _ | exact Kd.N_nil _ _ _ _ _ | exact Kd.V_nil _ _ _ _ _ | exact Kd.Q_nil _ _ _ _ _ | exact Kd.S_nil _ _ _ _ _, by repeat (first | (with_reducible first | exact HB.out | apply zB | apply zC | apply zD | refine zE ?_ GE657.out) | exact HB.out)⟩

/-! ### impl_projected: function 69 -/
def impl_projected.l0 : Nat → Int → List Int → List Int → Int → Int → Option (List Int)
 | 0, _, _, _, _, _ => none
 | k + 1, x1, x5, x9, x10, x11 => if x11 < x10 then (if 0 ≤ x11 then (if x11 < (x9.length : Int) then ((impl_has.f x1 (rd x9 x11)).bind fun t679 => (if t679 = true then (if x5.length < 17592186044416 then (impl_projected.l0 k x1 (x5 ++ [rd x9 x11]) x9 x10 (wrap64 (x11 + 1))) else (none)) else (impl_projected.l0 k x1 x5 x9 x10 (wrap64 (x11 + 1))))) else (none)) else (none)) else (some x5)
def impl_projected.f (k : Nat) (l0 : List Int) (a1 : Int) : Option (List Int) := impl_projected.l0 k a1 (([] : List Int)) l0 (l0.length : Int) 0

set_option maxHeartbeats 8000000 in
set_option maxRecDepth 100000 in
theorem impl_projected.calls (k : Nat) (A0 : Option Addr) (c0 : Nat) (l0 : List Int) (a1 : Int) (r : List Int) (w : World) (hr0 : Kd.C (Kd.int .i64) w A0 l0.length l0) (hc0 : l0.length ≤ c0) (h : impl_projected.f k l0 a1 = some r) :
  Calls Tryd.prog 69 #[.slice A0 l0.length c0, .int .i64 a1] w fun e w' => ∃ v0_ : Value, e = .returned (v0_) ∧ Kd.R (Kd.int .i64) 2 w' w.heap.size (fun _ => True) v0_ r ∧ Below w.heap.size w w' := by
 have HR0 := zA hr0
 have HC0 := zA hc0
 clear hr0 hc0
 have HB := zA (Below.refl w.heap.size w)
 have H : (impl_projected.l0 k a1 (([] : List Int)) l0 (l0.length : Int) 0) = some r := h
 clear h
 obtain ⟨y675, hy675⟩ : ∃ y_ : List Int, y_ = (([] : List Int)) := ⟨_, rfl⟩
 replace H : (impl_projected.l0 k a1 y675 l0 (l0.length : Int) 0) = some r := by first | (rw [hy675]; with_reducible exact H) | (have H2_ := (Option.bind_some _ _).symm.trans H; rw [hy675]; with_reducible exact H2_) | (have H2_ := (Option.bind_some _ _).symm.trans H; with_reducible exact H2_) | with_reducible exact H | (rw [hy675]; exact H) | exact H
 have Ny675 := zA hy675
 clear hy675
 have H' := zA H
 clear H
 go_enter Tryd.func69, Tryd.ntmps69
 go_wp2_with (first | ((with_reducible refine gate_dst (N := 8) rfl ?_); refine Kd.R_lit (Kd.int .i64) _ 2 ?hg (N := 8) ?hd (xs := ([] : List Int)) (inner := []) (ok := fun _ => True) (okp := fun _ => True) ?hr ?hp (fun _ hk => hk) trivial (Below.refl _ _) (Nat.le_refl _) (by simp) ?_; (case hd => rfl); (case hg => rfl); (case hr => first | (go_simp; done) | (go_simp; rfl)); (case hp => exact (Reps.none _ _)); intro v676 w3 ho4 hb hg_ hnew_; clear hg_ hnew_; (first | rw [← Ny675.out] at ho4 | (simp only [Int.reduceToNat] at ho4; rw [← Ny675.out] at ho4)); have n0_ := zA (Kd.R_lower ho4 (below_size (zQ HB.out))); have n1_ := zA (below_step (zQ HB.out) hb); clear HB; have HO677 := n0_; have HB := n1_; clear n0_ n1_; clear hb ho4))
 go_loopg [5, 11] k (fun kq v5 v11 w' => ∃ (x5_1 : List Int) (x11_1 : Int), v11 = .int .i64 x11_1 ∧ Aside0 (impl_projected.l0 kq a1 x5_1 l0 (l0.length : Int) x11_1 = some r) ∧ Aside0 (kq ≤ k) ∧ Aside0 (Kd.R (Kd.int .i64) 2 w' w.heap.size (fun _ => True) v5 x5_1) ∧ Aside0 (Below w.heap.size w w'))
 case atStart => exact ⟨(y675), (0), (by first | rfl | (simp; done) | (simp [*]; done)), H', ⟨Nat.le_refl _⟩, ⟨by (with_reducible repeat (first | apply zF | apply zG | apply zH)); exact HO677.out⟩, ⟨zQ HB.out⟩⟩
 case round =>
  clear H'
  try clear p2
  obtain ⟨x5_1, x11_1, rfl, HA, HK1, HO_5, HB⟩ := hrel
  cases gk with
  | zero => exact absurd HA.out (by simp [impl_projected.l0])
  | succ k1 =>
   have H := HA.out
   clear HA
   simp only [impl_projected.l0] at H
   by_cases c5 : x11_1 < (l0.length : Int)
   ·rw [if_pos c5] at H
    have c5b0 : decide (x11_1 < (l0.length : Int)) = true := decide_eq_true c5
    clear c5
    by_cases c6 : 0 ≤ x11_1
    ·rw [if_pos c6] at H
     have c6b0 : decide (0 ≤ x11_1) = true := decide_eq_true c6
     clear c6
     by_cases c7 : x11_1 < (l0.length : Int)
     ·rw [if_pos c7] at H
      have c7b0 : decide (x11_1 < (l0.length : Int)) = true := decide_eq_true c7
      clear c7
      replace H := Option.bind_eq_some_iff.mp H
      obtain ⟨t679, A80, H⟩ := H
      replace H : (if t679 = true then (if x5_1.length < 17592186044416 then (impl_projected.l0 k1 a1 (x5_1 ++ [rd l0 x11_1]) l0 (l0.length : Int) (wrap64 (x11_1 + 1))) else (none)) else (impl_projected.l0 k1 a1 x5_1 l0 (l0.length : Int) (wrap64 (x11_1 + 1)))) = some r := H
      have A8 := zA A80
      clear A80
      by_cases c9 : t679 = true
      ·subst c9
       have H1 : (if x5_1.length < 17592186044416 then (impl_projected.l0 k1 a1 (x5_1 ++ [rd l0 x11_1]) l0 (l0.length : Int) (wrap64 (x11_1 + 1))) else (none)) = some r := by rw [if_pos rfl] at H; exact H
       clear H
       have H := H1
       clear H1
       by_cases c10 : x5_1.length < 17592186044416
       ·rw [if_pos c10] at H
        have LMc10 := zA c10
        clear c10
        obtain ⟨y680, hy680⟩ : ∃ y_ : List Int, y_ = (x5_1 ++ [rd l0 x11_1]) := ⟨_, rfl⟩
        replace H : (impl_projected.l0 k1 a1 y680 l0 (l0.length : Int) (wrap64 (x11_1 + 1))) = some r := by first | (rw [hy680]; with_reducible exact H) | (have H2_ := (Option.bind_some _ _).symm.trans H; rw [hy680]; with_reducible exact H2_) | (have H2_ := (Option.bind_some _ _).symm.trans H; with_reducible exact H2_) | with_reducible exact H | (rw [hy680]; exact H) | exact H
        have Ny680 := zA hy680
        clear hy680
        have H' := zA H
        clear H
        have p678 : 0 ≤ (x11_1 : Int) := of_decide_eq_true (by first | (with_reducible assumption) | assumption)
        have q678 : x11_1 < (l0.length : Int) := of_decide_eq_true (by first | (with_reducible assumption) | assumption)
        obtain ⟨ad678, e678, hx678_0⟩ := Kd.at_int HR0.out x11_1 p678 q678
        cases e678
        replace hx678_0 := (HB.out.cell (World.block_lt_of_cell? w _ hx678_0)).trans hx678_0
        replace p678 := eq_true p678
        replace q678 := eq_true q678
        go_wp2_with (first | ((with_reducible refine gate_callee (f := 104) rfl ?_); refine zO (some 17) Tryd.func104 #[.int .i64 a1, .int .i64 (rd l0 x11_1)] ?_; (with_reducible refine (impl_has.calls a1 (rd l0 x11_1) true _ A8.out).mono ?_); rintro e w' ⟨rfl, ⟨nd, rfl⟩⟩; refine ⟨_, rfl, ?_⟩) | ((with_reducible refine gate_builtin (b := .append) (xs := #[.tmp 18, .tmp 20]) rfl ?_); at_builtin; refine Kd.R_append (Kd.int .i64) (w0 := w) w.heap.size rfl (.tmp 18) (.tmp 20) 24 2 (.int .i64 0) 8 rfl Tryd.underlying24 info2 rfl (by decide) (by omega) u5 x5_1 (rd l0 x11_1) [.int .i64 (rd l0 x11_1)] (fun _ => True) (fun _ => False) rfl rfl ?aP (fun _ hk => hk.elim) ?aF ?aO ?aB ?aS ?aL ?_; (case aP => exact rfl); (case aB => exact (zQ HB.out)); (case aF => exact (fun _ _ => trivial)); (case aO => exact (zP HO_5.out)); (case aS => exact (below_size (zQ HB.out))); (case aL => have := LMc10.out; omega); intro v681 w11 ho hb hg hat; rw [← Ny680.out] at ho; have n0_ := zA (hb); have n1_ := zA (ho); clear HB; clear HO_5; have HB := n0_; have HO682 := n1_; clear n0_ n1_; clear ho hb hg hat))
        go_roundg k1
        case measure => have := HK1.out; omega
        case rel => exact ⟨(y680), (wrap64 (x11_1 + 1)), (by first | rfl | (simp; done) | (simp [*]; done)), H', ⟨by have := HK1.out; omega⟩, ⟨by (with_reducible repeat (first | apply zF | apply zG | apply zH)); exact HO682.out⟩, ⟨zQ HB.out⟩⟩
       rw [if_neg c10] at H
       exact absurd H (by simp)
      replace c9 := Bool.eq_false_iff.mpr c9
      subst c9
      have H1 : (impl_projected.l0 k1 a1 x5_1 l0 (l0.length : Int) (wrap64 (x11_1 + 1))) = some r := by rw [if_neg (show ¬ (false = true) by decide)] at H; exact H
      clear H
      have H := H1
      clear H1
      have H' := zA H
      clear H
      have p678 : 0 ≤ (x11_1 : Int) := of_decide_eq_true (by first | (with_reducible assumption) | assumption)
      have q678 : x11_1 < (l0.length : Int) := of_decide_eq_true (by first | (with_reducible assumption) | assumption)
      obtain ⟨ad678, e678, hx678_0⟩ := Kd.at_int HR0.out x11_1 p678 q678
      cases e678
      replace hx678_0 := (HB.out.cell (World.block_lt_of_cell? w _ hx678_0)).trans hx678_0
      replace p678 := eq_true p678
      replace q678 := eq_true q678
      go_wp2_with (first | ((with_reducible refine gate_callee (f := 104) rfl ?_); refine zO (some 17) Tryd.func104 #[.int .i64 a1, .int .i64 (rd l0 x11_1)] ?_; (with_reducible refine (impl_has.calls a1 (rd l0 x11_1) false _ A8.out).mono ?_); rintro e w' ⟨rfl, ⟨nd, rfl⟩⟩; refine ⟨_, rfl, ?_⟩))
      go_roundg k1
      case measure => have := HK1.out; omega
      case rel => exact ⟨(x5_1), (wrap64 (x11_1 + 1)), (by first | rfl | (simp; done) | (simp [*]; done)), H', ⟨by have := HK1.out; omega⟩, ⟨by (with_reducible repeat (first | apply zF | apply zG | apply zH)); exact HO_5.out⟩, ⟨zQ HB.out⟩⟩
     rw [if_neg c7] at H
     exact absurd H (by simp)
    rw [if_neg c6] at H
    exact absurd H (by simp)
   rw [if_neg c5] at H
   have c5b0 : decide (x11_1 < (l0.length : Int)) = false := decide_eq_false c5
   clear c5
   obtain rfl := Option.some.inj H
   go_wp2
   go_ret
   exact ⟨_, by first | rfl | (simp [errW_none, errW_some] <;> rfl) | (simp [*, errW_none, errW_some] <;> rfl), by (with_reducible repeat (first | apply zF | apply zG | apply zH)); exact HO_5.out, by repeat (first | (with_reducible first | exact HB.out | apply zB | apply zC | apply zD) | exact HB.out)⟩

/-! ### impl_ProjectionOf: function 22 -/
def impl_ProjectionOf.f (k : Nat) (a0_0 : Int) (l0_1 : List Int) (l1 : List Int) (a2 : Int) : Option (List Int × Int) := (impl_checkWords.f k a0_0 l0_1 (([l1] : List (List Int)))).bind fun t687 => (if t687 = 0 then ((impl_IsMask.f a2 a0_0).bind fun t688 => (if t688 = true then ((impl_Alphabet_ties.f a0_0 l0_1).bind fun t689 => ((impl_projected.f k l1 a2).bind fun t692 => ((impl_ties_normal.f k t689 t692).bind fun t695 => (some (t695, 0))))) else (some (([] : List Int), 2)))) else (some (([] : List Int), t687)))

set_option maxHeartbeats 8000000 in
set_option maxRecDepth 100000 in
theorem impl_ProjectionOf.calls (k : Nat) (a0_0 : Int) (P0_1_ : Nat → Prop) (A0_1 : Option Addr) (c0_1 : Nat) (l0_1 : List Int) (P1_ : Nat → Prop) (A1 : Option Addr) (c1 : Nat) (l1 : List Int) (a2 : Int) (r1 : List Int) (r2 : Int) (w : World) (hs0_1 : Kd.V (Kd.int .i64) 2 w w.heap.size (fun k_ => P0_1_ k_) (.slice A0_1 l0_1.length c0_1) l0_1) (hs1 : Kd.V (Kd.int .i64) 2 w w.heap.size (fun k_ => P1_ k_) (.slice A1 l1.length c1) l1) (hT : TabW w) (h : impl_ProjectionOf.f k a0_0 l0_1 l1 a2 = some (r1, r2)) :
  Calls Tryd.prog 22 #[.agg #[.int .i64 a0_0, .slice A0_1 l0_1.length c0_1], .slice A1 l1.length c1, .int .i64 a2] w fun e w' => ∃ v0_ : Value, e = .returned (.tuple #[v0_, .int .i64 r2]) ∧ Kd.R (Kd.int .i64) 2 w' w.heap.size (fun k_ => (w.heap.size ≤ k_)) v0_ r1 ∧ Below w.heap.size w w' := by
 have hu26 := Tryd.underlying26
 have HT := zA hT
 clear hT
 have HO0_1 := zA (show Kd.V (Kd.int .i64) 2 w w.heap.size (fun k_ => ((P0_1_ k_ ∨ P1_ k_) ∨ w.heap.size ≤ k_)) (.slice A0_1 l0_1.length c0_1) l0_1 from Kd.V_mono hs0_1 (fun k_ hk => .inl (.inl hk)))
 have HO1 := zA (show Kd.V (Kd.int .i64) 2 w w.heap.size (fun k_ => ((P0_1_ k_ ∨ P1_ k_) ∨ w.heap.size ≤ k_)) (.slice A1 l1.length c1) l1 from Kd.V_mono hs1 (fun k_ hk => .inl (.inr hk)))
 have HB := zA (Below.refl w.heap.size w)
 have H : ((impl_checkWords.f k a0_0 l0_1 (([l1] : List (List Int)))).bind fun t687 => (if t687 = 0 then ((impl_IsMask.f a2 a0_0).bind fun t688 => (if t688 = true then ((impl_Alphabet_ties.f a0_0 l0_1).bind fun t689 => ((impl_projected.f k l1 a2).bind fun t692 => ((impl_ties_normal.f k t689 t692).bind fun t695 => (some (t695, 0))))) else (some (([] : List Int), 2)))) else (some (([] : List Int), t687)))) = some (r1, r2) := h
 clear h
 obtain ⟨y684, hy684⟩ : ∃ y_ : List (List Int), y_ = (([l1] : List (List Int))) := ⟨_, rfl⟩
 replace H : ((impl_checkWords.f k a0_0 l0_1 y684).bind fun t687 => (if t687 = 0 then ((impl_IsMask.f a2 a0_0).bind fun t688 => (if t688 = true then ((impl_Alphabet_ties.f a0_0 l0_1).bind fun t689 => ((impl_projected.f k l1 a2).bind fun t692 => ((impl_ties_normal.f k t689 t692).bind fun t695 => (some (t695, 0))))) else (some (([] : List Int), 2)))) else (some (([] : List Int), t687)))) = some (r1, r2) := by first | (rw [hy684]; with_reducible exact H) | (have H2_ := (Option.bind_some _ _).symm.trans H; rw [hy684]; with_reducible exact H2_) | (have H2_ := (Option.bind_some _ _).symm.trans H; with_reducible exact H2_) | with_reducible exact H | (rw [hy684]; exact H) | exact H
 have Ny684 := zA hy684
 clear hy684
 replace H := Option.bind_eq_some_iff.mp H
 obtain ⟨t687, A40, H⟩ := H
 replace H : (if t687 = 0 then ((impl_IsMask.f a2 a0_0).bind fun t688 => (if t688 = true then ((impl_Alphabet_ties.f a0_0 l0_1).bind fun t689 => ((impl_projected.f k l1 a2).bind fun t692 => ((impl_ties_normal.f k t689 t692).bind fun t695 => (some (t695, 0))))) else (some (([] : List Int), 2)))) else (some (([] : List Int), t687))) = some (r1, r2) := H
 have A4 := zA A40
 clear A40
 by_cases c5 : t687 = 0
 ·rw [if_pos c5] at H
  have c5b0 : (t687 == 0) = true := beq_iff_eq.mpr c5
  have c5b1 : (t687 != 0) = false := bne_eq_false_iff_eq.mpr c5
  clear c5
  replace H := Option.bind_eq_some_iff.mp H
  obtain ⟨t688, A60, H⟩ := H
  replace H : (if t688 = true then ((impl_Alphabet_ties.f a0_0 l0_1).bind fun t689 => ((impl_projected.f k l1 a2).bind fun t692 => ((impl_ties_normal.f k t689 t692).bind fun t695 => (some (t695, 0))))) else (some (([] : List Int), 2))) = some (r1, r2) := H
  have A6 := zA A60
  clear A60
  by_cases c7 : t688 = true
  ·subst c7
   have H1 : ((impl_Alphabet_ties.f a0_0 l0_1).bind fun t689 => ((impl_projected.f k l1 a2).bind fun t692 => ((impl_ties_normal.f k t689 t692).bind fun t695 => (some (t695, 0))))) = some (r1, r2) := by rw [if_pos rfl] at H; exact H
   clear H
   have H := H1
   clear H1
   replace H := Option.bind_eq_some_iff.mp H
   obtain ⟨t689, A80, H⟩ := H
   replace H : ((impl_projected.f k l1 a2).bind fun t692 => ((impl_ties_normal.f k t689 t692).bind fun t695 => (some (t695, 0)))) = some (r1, r2) := H
   have A8 := zA A80
   clear A80
   replace H := Option.bind_eq_some_iff.mp H
   obtain ⟨t692, A90, H⟩ := H
   replace H : ((impl_ties_normal.f k t689 t692).bind fun t695 => (some (t695, 0))) = some (r1, r2) := H
   have A9 := zA A90
   clear A90
   replace H := Option.bind_eq_some_iff.mp H
   obtain ⟨t695, A100, H⟩ := H
   replace H : (some (t695, 0)) = some (r1, r2) := H
   have A10 := zA A100
   clear A100
   simp only [Option.some.injEq, Prod.mk.injEq] at H
   obtain ⟨rfl, rfl⟩ := H
   go_enter Tryd.func22, Tryd.ntmps22
   go_wp2_with (first | ((with_reducible refine gate_dst (N := 3) rfl ?_); refine box_event ?hg (N := 3) ?hd (cs := #[.int .i64 a0_0, .slice A0_1 l0_1.length c0_1]) (t := 26) ?hr ?_; (case hd => rfl); (case hg => rfl); (case hr => first | (go_simp; done) | (go_simp; rfl)); intro gb683 hg w11 hbox hb; have n0_ := zA (Kd.V_below (Kd.V_elderB (by (with_reducible repeat (first | apply Kd.V_alloc | apply Kd.V_drewN | apply Kd.V_drew)); exact HO0_1.out) gb683 (Nat.le_of_eq hg.symm)) hb); have n1_ := zA (Kd.V_below (Kd.V_elderB (by (with_reducible repeat (first | apply Kd.V_alloc | apply Kd.V_drewN | apply Kd.V_drew)); exact HO1.out) gb683 (Nat.le_of_eq hg.symm)) hb); have n2_ := zA (below_step (zQ HB.out) hb); have n3_ := zA (hbox); have n4_ := zA ((by rw [hg]; exact (below_size (zQ HB.out)) : w.heap.size ≤ gb683)); have n5_ := zA ((by rw [hg]; exact (below_size (zQ HB.out)) : w.heap.size ≤ gb683)); clear HO0_1; clear HO1; clear HB; have HO0_1 := n0_; have HO1 := n1_; have HB := n2_; have BK683 := n3_; have GW683 := n4_; have GE683 := n5_; clear n0_ n1_ n2_ n3_ n4_ n5_; clear hb hbox hg; have hcz12_0 : w11.cell? ⟨gb683, 0, none⟩ = some (.int .i64 a0_0) := (blk_cell BK683.out 0).trans rfl; have hcz12_1 : w11.cell? ⟨gb683, 1, none⟩ = some (.slice A0_1 l0_1.length c0_1) := (blk_cell BK683.out 1).trans rfl; have hfz12_0 := blk_frozen BK683.out 0; have hfz12_1 := blk_frozen BK683.out 1) | ((with_reducible refine gate_dst (N := 11) rfl ?_); refine Kd.N_lit (Kd.slice 2 (Kd.int .i64)) _ 24 ?hg (N' := 11) ?hd (xs := ([l1] : List (List Int))) (inner := [.slice A1 l1.length c1]) (ok := (fun k_ => ((P0_1_ k_ ∨ P1_ k_) ∨ w.heap.size ≤ k_) ∧ k_ ≠ gb683)) (okp := (fun k_ => ((P0_1_ k_ ∨ P1_ k_) ∨ w.heap.size ≤ k_) ∧ k_ ≠ gb683)) ?hr ?hp (fun _ hk => hk) ((show ∀ k_ : Nat, (_ : Nat) ≤ k_ → (fun k_ => ((P0_1_ k_ ∨ P1_ k_) ∨ w.heap.size ≤ k_) ∧ k_ ≠ gb683) k_ from fun k_ hk => ⟨(.inr (Nat.le_trans (below_size (zT HB.out GE683.out)) hk)), Kd.freshB (g := gb683) (o := .cells #[.int .i64 a0_0, .slice A0_1 l0_1.length c0_1] 26 (0, 0)) (zR BK683.out) k_ hk⟩) _ (Nat.le_refl _)) (Below.refl _ _) (Nat.le_refl _) (by simp) ?_; (case hd => rfl); (case hg => rfl); (case hr => first | (go_simp; done) | (go_simp; rfl)); (case hp => exact (Reps.one (show Kd.FK (Kd.slice 2 (Kd.int .i64)) _ _ l1 [.slice A1 l1.length c1] from (Kd.FK_slice_mk (Kd.V_reads' (Kd.V_mono (ok' := (fun k_ => ((P0_1_ k_ ∨ P1_ k_) ∨ w.heap.size ≤ k_) ∧ k_ ≠ gb683)) (HO1.out) (fun k_ hk => ⟨hk.1, hk.2⟩))).2.1 (Kd.V_F (Kd.V_mono (ok' := (fun k_ => ((P0_1_ k_ ∨ P1_ k_) ∨ w.heap.size ≤ k_) ∧ k_ ≠ gb683)) (HO1.out) (fun k_ hk => ⟨hk.1, hk.2⟩))))) (Reps.none _ _))); intro v685 w13 ho14 hb hg_ hnew_; clear hg_ hnew_; (first | rw [← Ny684.out] at ho14 | (simp only [Int.reduceToNat] at ho14; rw [← Ny684.out] at ho14)); have n0_ := zA (Kd.V_elder' (by (with_reducible repeat (first | apply Kd.V_alloc | apply Kd.V_drewN | apply Kd.V_drew)); exact HO0_1.out) (Kd.N_base ho14) hb); have n1_ := zA (Kd.V_elder' (by (with_reducible repeat (first | apply Kd.V_alloc | apply Kd.V_drewN | apply Kd.V_drew)); exact HO1.out) (Kd.N_base ho14) hb); have n2_ := zA (Kd.N_lower ho14 (below_size (zT HB.out GE683.out))); have n3_ := zA (blk_below (g := gb683) (o := .cells #[.int .i64 a0_0, .slice A0_1 l0_1.length c0_1] 26 (0, 0)) (zR BK683.out) hb); have n4_ := zA (below_step (zT HB.out GE683.out) hb); clear HO0_1; clear HO1; clear BK683; clear HB; have HO0_1 := n0_; have HO1 := n1_; have HO686 := n2_; have BK683 := n3_; have HB := n4_; clear n0_ n1_ n2_ n3_ n4_; clear hb ho14; obtain ⟨Ao15, co15, eo15⟩ := Kd.N_slice HO686.out; subst eo15) | ((with_reducible refine gate_callee (f := 49) rfl ?_); refine zO (some 12) Tryd.func49 #[.agg #[.int .i64 a0_0, .slice A0_1 l0_1.length c0_1], .slice Ao15 y684.length co15] ?_; (with_reducible refine (impl_checkWords.calls k a0_0 _ _ l0_1 _ _ y684 t687 _ ?side1 ?side2 ?side3 ?side4 ?side5 A4.out).mono ?_); (case side1 => exact zS (Kd.V_reads' HO0_1.out).2.2); (case side2 => exact (Kd.V_reads' HO0_1.out).2.1); (case side3 => exact zS (Kd.N_reads' HO686.out).2.2); (case side4 => exact (Kd.N_reads' HO686.out).2.1); (case side5 => exact TabW.below HT.out (zT HB.out GE683.out)); rintro e w16 ⟨rfl, hb⟩; refine ⟨_, rfl, ?_⟩; have n0_ := zA (Kd.V_below (by (with_reducible repeat (first | apply Kd.V_alloc | apply Kd.V_drewN | apply Kd.V_drew)); exact HO0_1.out) hb); have n1_ := zA (Kd.V_below (by (with_reducible repeat (first | apply Kd.V_alloc | apply Kd.V_drewN | apply Kd.V_drew)); exact HO1.out) hb); have n2_ := zA (Kd.N_below (by (with_reducible repeat (first | apply Kd.N_alloc | apply Kd.N_drewN | apply Kd.N_drew)); exact HO686.out) hb); have n3_ := zA (blk_below (g := gb683) (o := .cells #[.int .i64 a0_0, .slice A0_1 l0_1.length c0_1] 26 (0, 0)) (zR BK683.out) hb); have n4_ := zA (below_step (zT HB.out GE683.out) hb); clear HO0_1; clear HO1; clear HO686; clear BK683; clear HB; have HO0_1 := n0_; have HO1 := n1_; have HO686 := n2_; have BK683 := n3_; have HB := n4_; clear n0_ n1_ n2_ n3_ n4_; (try clear hb); have hcz17_0 : w16.cell? ⟨gb683, 0, none⟩ = some (.int .i64 a0_0) := (blk_cell BK683.out 0).trans rfl; have hcz17_1 : w16.cell? ⟨gb683, 1, none⟩ = some (.slice A0_1 l0_1.length c0_1) := (blk_cell BK683.out 1).trans rfl; have hfz17_0 := blk_frozen BK683.out 0; have hfz17_1 := blk_frozen BK683.out 1) | ((with_reducible refine gate_callee (f := 61) rfl ?_); refine zO (some 19) Tryd.func61 #[.int .i64 a2, .int .i64 a0_0] ?_; (with_reducible refine (impl_IsMask.calls a2 a0_0 true _ A6.out).mono ?_); rintro e w' ⟨rfl, ⟨nd, rfl⟩⟩; refine ⟨_, rfl, ?_⟩) | ((with_reducible refine gate_callee (f := 50) rfl ?_); refine zO (some 22) Tryd.func50 #[.agg #[.int .i64 a0_0, .slice A0_1 l0_1.length c0_1]] ?_; (with_reducible refine (impl_Alphabet_ties.calls a0_0 (fun k_ => ((((P0_1_ k_ ∨ P1_ k_) ∨ w.heap.size ≤ k_) ∧ k_ ≠ gb683) ∧ some k_ ≠ (.slice Ao15 y684.length co15 : Value).ownBlock)) _ _ l0_1 t689 _ ?side1 A8.out).mono ?_); (case side1 => exact HO0_1.out); rintro e w18 ⟨v690, rfl, ho0, hb⟩; refine ⟨_, rfl, ?_⟩; have n0_ := zA (Kd.V_below (by (with_reducible repeat (first | apply Kd.V_alloc | apply Kd.V_drewN | apply Kd.V_drew)); exact HO0_1.out) hb); have n1_ := zA (Kd.V_below (by (with_reducible repeat (first | apply Kd.V_alloc | apply Kd.V_drewN | apply Kd.V_drew)); exact HO1.out) hb); have n2_ := zA (Kd.N_below (by (with_reducible repeat (first | apply Kd.N_alloc | apply Kd.N_drewN | apply Kd.N_drew)); exact HO686.out) hb); have n3_ := zA (Kd.V_lower (Kd.V_mono (ok' := fun k_ => ((P0_1_ k_ ∨ P1_ k_) ∨ w.heap.size ≤ k_) ∧ some k_ ≠ (.slice Ao15 y684.length co15 : Value).ownBlock ∧ k_ ≠ gb683) ho0 (fun k_ hk_ => ⟨Or.elim hk_ (fun hs_ => hs_.1.1) (fun hn_ => (.inr (Nat.le_trans (below_size (zT HB.out GE683.out)) hn_))), Or.elim hk_ (fun hs_ => hs_.2) (fun hn_ => (Kd.fresh' (Kd.N_lt (by (with_reducible repeat (first | apply Kd.N_alloc | apply Kd.N_drewN | apply Kd.N_drew)); exact HO686.out)) k_ hn_)), Or.elim hk_ (fun hs_ => hs_.1.2) (fun hn_ => (Kd.freshB (g := gb683) (o := .cells #[.int .i64 a0_0, .slice A0_1 l0_1.length c0_1] 26 (0, 0)) (zR BK683.out) k_ hn_))⟩)) (below_size (zT HB.out GE683.out))); have n4_ := zA (blk_below (g := gb683) (o := .cells #[.int .i64 a0_0, .slice A0_1 l0_1.length c0_1] 26 (0, 0)) (zR BK683.out) hb); have n5_ := zA (below_step (zT HB.out GE683.out) hb); clear HO0_1; clear HO1; clear HO686; clear BK683; clear HB; have HO0_1 := n0_; have HO1 := n1_; have HO686 := n2_; have HO691 := n3_; have BK683 := n4_; have HB := n5_; clear n0_ n1_ n2_ n3_ n4_ n5_; (try clear hb); (try clear ho0)) | ((with_reducible refine gate_callee (f := 69) rfl ?_); refine zO (some 25) Tryd.func69 #[.slice A1 l1.length c1, .int .i64 a2] ?_; (with_reducible refine (impl_projected.calls k _ _ l1 a2 t692 _ ?side1 ?side2 A9.out).mono ?_); (case side1 => exact zS (Kd.V_reads' HO1.out).2.2); (case side2 => exact (Kd.V_reads' HO1.out).2.1); rintro e w19 ⟨v693, rfl, ho0, hb⟩; refine ⟨_, rfl, ?_⟩; have n0_ := zA (Kd.V_elder' (by (with_reducible repeat (first | apply Kd.V_alloc | apply Kd.V_drewN | apply Kd.V_drew)); exact HO0_1.out) (Kd.R_base ho0) hb); have n1_ := zA (Kd.V_elder' (by (with_reducible repeat (first | apply Kd.V_alloc | apply Kd.V_drewN | apply Kd.V_drew)); exact HO1.out) (Kd.R_base ho0) hb); have n2_ := zA (Kd.N_elder' (by (with_reducible repeat (first | apply Kd.N_alloc | apply Kd.N_drewN | apply Kd.N_drew)); exact HO686.out) (Kd.R_base ho0) hb); have n3_ := zA (Kd.V_elder' (by (with_reducible repeat (first | apply Kd.V_alloc | apply Kd.V_drewN | apply Kd.V_drew)); exact HO691.out) (Kd.R_base ho0) hb); have n4_ := zA (Kd.R_lower (Kd.R_newM (M := fun k_ => (w.heap.size ≤ k_)) ho0 (below_size (zT HB.out GE683.out)) (fun k_ h_ => h_)) (below_size (zT HB.out GE683.out))); have n5_ := zA (blk_below (g := gb683) (o := .cells #[.int .i64 a0_0, .slice A0_1 l0_1.length c0_1] 26 (0, 0)) (zR BK683.out) hb); have n6_ := zA (below_step (zT HB.out GE683.out) hb); clear HO0_1; clear HO1; clear HO686; clear HO691; clear BK683; clear HB; have HO0_1 := n0_; have HO1 := n1_; have HO686 := n2_; have HO691 := n3_; have HO694 := n4_; have BK683 := n5_; have HB := n6_; clear n0_ n1_ n2_ n3_ n4_ n5_ n6_; (try clear hb); (try clear ho0); obtain ⟨Ao20, co20, eo20⟩ := Kd.V_slice HO691.out; subst eo20; obtain ⟨Ao21, co21, eo21⟩ := Kd.R_slice HO694.out; subst eo21) | ((with_reducible refine gate_callee (f := 56) rfl ?_); refine zO (some 26) Tryd.func56 #[.slice Ao20 t689.length co20, .slice Ao21 t692.length co21] ?_; (with_reducible refine (impl_ties_normal.calls k _ _ t689 (fun k_ => some k_ = (.slice Ao21 t692.length co21 : Value).ownBlock) _ _ t692 t695 _ ?side1 ?side2 ?side3 ?side4 A10.out).mono ?_); (case side1 => exact zS (Kd.V_reads' HO691.out).2.2); (case side2 => exact (Kd.V_reads' HO691.out).2.1); (case side3 => exact Kd.R_V (Kd.R_tight rfl (Kd.R_types (Kd.R_apart' (HO694.out) (Kd.N_typed HO686.out) (by decide)) BK683.out (by decide)))); (case side4 => exact TabW.below HT.out (zT HB.out GE683.out)); rintro e w22 ⟨v696, rfl, ho0, hb⟩; refine ⟨_, rfl, ?_⟩; have n0_ := zA (Kd.V_elder' (by (with_reducible repeat (first | apply Kd.V_alloc | apply Kd.V_drewN | apply Kd.V_drew)); exact HO0_1.out) (Kd.R_base ho0) hb); have n1_ := zA (Kd.V_elder' (by (with_reducible repeat (first | apply Kd.V_alloc | apply Kd.V_drewN | apply Kd.V_drew)); exact HO1.out) (Kd.R_base ho0) hb); have n2_ := zA (Kd.N_elder' (by (with_reducible repeat (first | apply Kd.N_alloc | apply Kd.N_drewN | apply Kd.N_drew)); exact HO686.out) (Kd.R_base ho0) hb); have n3_ := zA (Kd.V_elder' (by (with_reducible repeat (first | apply Kd.V_alloc | apply Kd.V_drewN | apply Kd.V_drew)); exact HO691.out) (Kd.R_base ho0) hb); have n4_ := zA (Kd.R_elder' (zP HO694.out) (Kd.R_base ho0) hb); have n5_ := zA (Kd.R_lower (Kd.R_new' (Kd.R_newM (M := fun k_ => (w.heap.size ≤ k_)) (Kd.R_mono (ok' := fun k_ => True) ho0 (fun _ hk_ => trivial)) (below_size (zT HB.out GE683.out)) (fun k_ h_ => h_)) (Kd.R_lt (zP HO694.out))) (below_size (zT HB.out GE683.out))); have n6_ := zA (blk_below (g := gb683) (o := .cells #[.int .i64 a0_0, .slice A0_1 l0_1.length c0_1] 26 (0, 0)) (zR BK683.out) hb); have n7_ := zA (below_step (zT HB.out GE683.out) hb); clear HO0_1; clear HO1; clear HO686; clear HO691; clear HO694; clear BK683; clear HB; have HO0_1 := n0_; have HO1 := n1_; have HO686 := n2_; have HO691 := n3_; have HO694 := n4_; have HO697 := n5_; have BK683 := n6_; have HB := n7_; clear n0_ n1_ n2_ n3_ n4_ n5_ n6_ n7_; (try clear hb); (try clear ho0)))
   go_ret2
   exact ⟨_, by first | rfl | (simp [errW_none, errW_some] <;> rfl) | (simp [*, errW_none, errW_some] <;> rfl), by (with_reducible repeat (first | apply zF | apply zG | apply zH)); exact Kd.R_mono HO697.out (fun _ hk => hk.1.1), by repeat (first | (with_reducible first | exact HB.out | apply zB | apply zC | apply zD | refine zE ?_ GE683.out) | exact HB.out)⟩
  replace c7 := Bool.eq_false_iff.mpr c7
  subst c7
  have H1 : (some (([] : List Int), 2)) = some (r1, r2) := by rw [if_neg (show ¬ (false = true) by decide)] at H; exact H
  clear H
  have H := H1
  clear H1
  simp only [Option.some.injEq, Prod.mk.injEq] at H
  obtain ⟨rfl, rfl⟩ := H
  go_enter Tryd.func22, Tryd.ntmps22
  go_wp2_with (first | ((with_reducible refine gate_dst (N := 3) rfl ?_); refine box_event ?hg (N := 3) ?hd (cs := #[.int .i64 a0_0, .slice A0_1 l0_1.length c0_1]) (t := 26) ?hr ?_; (case hd => rfl); (case hg => rfl); (case hr => first | (go_simp; done) | (go_simp; rfl)); intro gb683 hg w23 hbox hb; have n0_ := zA (Kd.V_below (Kd.V_elderB (by (with_reducible repeat (first | apply Kd.V_alloc | apply Kd.V_drewN | apply Kd.V_drew)); exact HO0_1.out) gb683 (Nat.le_of_eq hg.symm)) hb); have n1_ := zA (Kd.V_below (Kd.V_elderB (by (with_reducible repeat (first | apply Kd.V_alloc | apply Kd.V_drewN | apply Kd.V_drew)); exact HO1.out) gb683 (Nat.le_of_eq hg.symm)) hb); have n2_ := zA (below_step (zQ HB.out) hb); have n3_ := zA (hbox); have n4_ := zA ((by rw [hg]; exact (below_size (zQ HB.out)) : w.heap.size ≤ gb683)); have n5_ := zA ((by rw [hg]; exact (below_size (zQ HB.out)) : w.heap.size ≤ gb683)); clear HO0_1; clear HO1; clear HB; have HO0_1 := n0_; have HO1 := n1_; have HB := n2_; have BK683 := n3_; have GW683 := n4_; have GE683 := n5_; clear n0_ n1_ n2_ n3_ n4_ n5_; clear hb hbox hg; have hcz24_0 : w23.cell? ⟨gb683, 0, none⟩ = some (.int .i64 a0_0) := (blk_cell BK683.out 0).trans rfl; have hcz24_1 : w23.cell? ⟨gb683, 1, none⟩ = some (.slice A0_1 l0_1.length c0_1) := (blk_cell BK683.out 1).trans rfl; have hfz24_0 := blk_frozen BK683.out 0; have hfz24_1 := blk_frozen BK683.out 1) | ((with_reducible refine gate_dst (N := 11) rfl ?_); refine Kd.N_lit (Kd.slice 2 (Kd.int .i64)) _ 24 ?hg (N' := 11) ?hd (xs := ([l1] : List (List Int))) (inner := [.slice A1 l1.length c1]) (ok := (fun k_ => ((P0_1_ k_ ∨ P1_ k_) ∨ w.heap.size ≤ k_) ∧ k_ ≠ gb683)) (okp := (fun k_ => ((P0_1_ k_ ∨ P1_ k_) ∨ w.heap.size ≤ k_) ∧ k_ ≠ gb683)) ?hr ?hp (fun _ hk => hk) ((show ∀ k_ : Nat, (_ : Nat) ≤ k_ → (fun k_ => ((P0_1_ k_ ∨ P1_ k_) ∨ w.heap.size ≤ k_) ∧ k_ ≠ gb683) k_ from fun k_ hk => ⟨(.inr (Nat.le_trans (below_size (zT HB.out GE683.out)) hk)), Kd.freshB (g := gb683) (o := .cells #[.int .i64 a0_0, .slice A0_1 l0_1.length c0_1] 26 (0, 0)) (zR BK683.out) k_ hk⟩) _ (Nat.le_refl _)) (Below.refl _ _) (Nat.le_refl _) (by simp) ?_; (case hd => rfl); (case hg => rfl); (case hr => first | (go_simp; done) | (go_simp; rfl)); (case hp => exact (Reps.one (show Kd.FK (Kd.slice 2 (Kd.int .i64)) _ _ l1 [.slice A1 l1.length c1] from (Kd.FK_slice_mk (Kd.V_reads' (Kd.V_mono (ok' := (fun k_ => ((P0_1_ k_ ∨ P1_ k_) ∨ w.heap.size ≤ k_) ∧ k_ ≠ gb683)) (HO1.out) (fun k_ hk => ⟨hk.1, hk.2⟩))).2.1 (Kd.V_F (Kd.V_mono (ok' := (fun k_ => ((P0_1_ k_ ∨ P1_ k_) ∨ w.heap.size ≤ k_) ∧ k_ ≠ gb683)) (HO1.out) (fun k_ hk => ⟨hk.1, hk.2⟩))))) (Reps.none _ _))); intro v685 w25 ho26 hb hg_ hnew_; clear hg_ hnew_; (first | rw [← Ny684.out] at ho26 | (simp only [Int.reduceToNat] at ho26; rw [← Ny684.out] at ho26)); have n0_ := zA (Kd.V_elder' (by (with_reducible repeat (first | apply Kd.V_alloc | apply Kd.V_drewN | apply Kd.V_drew)); exact HO0_1.out) (Kd.N_base ho26) hb); have n1_ := zA (Kd.V_elder' (by (with_reducible repeat (first | apply Kd.V_alloc | apply Kd.V_drewN | apply Kd.V_drew)); exact HO1.out) (Kd.N_base ho26) hb); have n2_ := zA (Kd.N_lower ho26 (below_size (zT HB.out GE683.out))); have n3_ := zA (blk_below (g := gb683) (o := .cells #[.int .i64 a0_0, .slice A0_1 l0_1.length c0_1] 26 (0, 0)) (zR BK683.out) hb); have n4_ := zA (below_step (zT HB.out GE683.out) hb); clear HO0_1; clear HO1; clear BK683; clear HB; have HO0_1 := n0_; have HO1 := n1_; have HO686 := n2_; have BK683 := n3_; have HB := n4_; clear n0_ n1_ n2_ n3_ n4_; clear hb ho26; obtain ⟨Ao27, co27, eo27⟩ := Kd.N_slice HO686.out; subst eo27) | ((with_reducible refine gate_callee (f := 49) rfl ?_); refine zO (some 12) Tryd.func49 #[.agg #[.int .i64 a0_0, .slice A0_1 l0_1.length c0_1], .slice Ao27 y684.length co27] ?_; (with_reducible refine (impl_checkWords.calls k a0_0 _ _ l0_1 _ _ y684 t687 _ ?side1 ?side2 ?side3 ?side4 ?side5 A4.out).mono ?_); (case side1 => exact zS (Kd.V_reads' HO0_1.out).2.2); (case side2 => exact (Kd.V_reads' HO0_1.out).2.1); (case side3 => exact zS (Kd.N_reads' HO686.out).2.2); (case side4 => exact (Kd.N_reads' HO686.out).2.1); (case side5 => exact TabW.below HT.out (zT HB.out GE683.out)); rintro e w28 ⟨rfl, hb⟩; refine ⟨_, rfl, ?_⟩; have n0_ := zA (Kd.V_below (by (with_reducible repeat (first | apply Kd.V_alloc | apply Kd.V_drewN | apply Kd.V_drew)); exact HO0_1.out) hb); have n1_ := zA (Kd.V_below (by (with_reducible repeat (first | apply Kd.V_alloc | apply Kd.V_drewN | apply Kd.V_drew)); exact HO1.out) hb); have n2_ := zA (Kd.N_below (by (with_reducible repeat (first | apply Kd.N_alloc | apply Kd.N_drewN | apply Kd.N_drew)); exact HO686.out) hb); have n3_ := zA (blk_below (g := gb683) (o := .cells #[.int .i64 a0_0, .slice A0_1 l0_1.length c0_1] 26 (0, 0)) (zR BK683.out) hb); have n4_ := zA (below_step (zT HB.out GE683.out) hb); clear HO0_1; clear HO1; clear HO686; clear BK683; clear HB; have HO0_1 := n0_; have HO1 := n1_; have HO686 := n2_; have BK683 := n3_; have HB := n4_; clear n0_ n1_ n2_ n3_ n4_; (try clear hb); have hcz29_0 : w28.cell? ⟨gb683, 0, none⟩ = some (.int .i64 a0_0) := (blk_cell BK683.out 0).trans rfl; have hcz29_1 : w28.cell? ⟨gb683, 1, none⟩ = some (.slice A0_1 l0_1.length c0_1) := (blk_cell BK683.out 1).trans rfl; have hfz29_0 := blk_frozen BK683.out 0; have hfz29_1 := blk_frozen BK683.out 1) | ((with_reducible refine gate_callee (f := 61) rfl ?_); refine zO (some 19) Tryd.func61 #[.int .i64 a2, .int .i64 a0_0] ?_; (with_reducible refine (impl_IsMask.calls a2 a0_0 false _ A6.out).mono ?_); rintro e w' ⟨rfl, ⟨nd, rfl⟩⟩; refine ⟨_, rfl, ?_⟩))
  go_ret2
  exact ⟨_, by first | rfl | (simp [errW_none, errW_some] <;> rfl) | (simp [*, errW_none, errW_some] <;> rfl), by first | exact Kd.R_nil _ _ _ _ _ | exact Kd.N_nil _ _ _ _ _ | exact Kd.V_nil _ _ _ _ _ | exact Kd.Q_nil _ _ _ _ _ | exact Kd.S_nil _ _ _ _ _, by repeat (first | (with_reducible first | exact HB.out | apply zB | apply zC | apply zD | refine zE ?_ GE683.out) | exact HB.out)⟩
 rw [if_neg c5] at H
 have c5b0 : (t687 == 0) = false := beq_eq_false_iff_ne.mpr c5
 have c5b1 : (t687 != 0) = true := bne_iff_ne.mpr c5
 simp only [Option.some.injEq, Prod.mk.injEq] at H
 obtain ⟨rfl, rfl⟩ := H
 go_enter Tryd.func22, Tryd.ntmps22
 go_wp2_with (first | ((with_reducible refine gate_dst (N := 3) rfl ?_); refine box_event ?hg (N := 3) ?hd (cs := #[.int .i64 a0_0, .slice A0_1 l0_1.length c0_1]) (t := 26) ?hr ?_; (case hd => rfl); (case hg => rfl); (case hr => first | (go_simp; done) | (go_simp; rfl)); intro gb683 hg w30 hbox hb; have n0_ := zA (Kd.V_below (Kd.V_elderB (by (with_reducible repeat (first | apply Kd.V_alloc | apply Kd.V_drewN | apply Kd.V_drew)); exact HO0_1.out) gb683 (Nat.le_of_eq hg.symm)) hb); have n1_ := zA (Kd.V_below (Kd.V_elderB (by (with_reducible repeat (first | apply Kd.V_alloc | apply Kd.V_drewN | apply Kd.V_drew)); exact HO1.out) gb683 (Nat.le_of_eq hg.symm)) hb); have n2_ := zA (below_step (zQ HB.out) hb); have n3_ := zA (hbox); have n4_ := zA ((by rw [hg]; exact (below_size (zQ HB.out)) : w.heap.size ≤ gb683)); have n5_ := zA ((by rw [hg]; exact (below_size (zQ HB.out)) : w.heap.size ≤ gb683)); clear HO0_1; clear HO1; clear HB; have HO0_1 := n0_; have HO1 := n1_; have HB := n2_; have BK683 := n3_; have GW683 := n4_; have GE683 := n5_; clear n0_ n1_ n2_ n3_ n4_ n5_; clear hb hbox hg; have hcz31_0 : w30.cell? ⟨gb683, 0, none⟩ = some (.int .i64 a0_0) := (blk_cell BK683.out 0).trans rfl; have hcz31_1 : w30.cell? ⟨gb683, 1, none⟩ = some (.slice A0_1 l0_1.length c0_1) := (blk_cell BK683.out 1).trans rfl; have hfz31_0 := blk_frozen BK683.out 0; have hfz31_1 := blk_frozen BK683.out 1) | ((with_reducible refine gate_dst (N := 11) rfl ?_); refine Kd.N_lit (Kd.slice 2 (Kd.int .i64)) _ 24 ?hg (N' := 11) ?hd (xs := ([l1] : List (List Int))) (inner := [.slice A1 l1.length c1]) (ok := (fun k_ => ((P0_1_ k_ ∨ P1_ k_) ∨ w.heap.size ≤ k_) ∧ k_ ≠ gb683)) (okp := (fun k_ => ((P0_1_ k_ ∨ P1_ k_) ∨ w.heap.size ≤ k_) ∧ k_ ≠ gb683)) ?hr ?hp (fun _ hk => hk) ((show ∀ k_ : Nat, (_ : Nat) ≤ k_ → (fun k_ => ((P0_1_ k_ ∨ P1_ k_) ∨ w.heap.size ≤ k_) ∧ k_ ≠ gb683) k_ from fun k_ hk => ⟨(.inr (Nat.le_trans (below_size (zT HB.out GE683.out)) hk)), Kd.freshB (g := gb683) (o := .cells #[.int .i64 a0_0, .slice A0_1 l0_1.length c0_1] 26 (0, 0)) (zR BK683.out) k_ hk⟩) _ (Nat.le_refl _)) (Below.refl _ _) (Nat.le_refl _) (by simp) ?_; (case hd => rfl); (case hg => rfl); (case hr => first | (go_simp; done) | (go_simp; rfl)); (case hp => exact (Reps.one (show Kd.FK (Kd.slice 2 (Kd.int .i64)) _ _ l1 [.slice A1 l1.length c1] from (Kd.FK_slice_mk (Kd.V_reads' (Kd.V_mono (ok' := (fun k_ => ((P0_1_ k_ ∨ P1_ k_) ∨ w.heap.size ≤ k_) ∧ k_ ≠ gb683)) (HO1.out) (fun k_ hk => ⟨hk.1, hk.2⟩))).2.1 (Kd.V_F (Kd.V_mono (ok' := (fun k_ => ((P0_1_ k_ ∨ P1_ k_) ∨ w.heap.size ≤ k_) ∧ k_ ≠ gb683)) (HO1.out) (fun k_ hk => ⟨hk.1, hk.2⟩))))) (Reps.none _ _))); intro v685 w32 ho33 hb hg_ hnew_; clear hg_ hnew_; (first | rw [← Ny684.out] at ho33 | (simp only [Int.reduceToNat] at ho33; rw [← Ny684.out] at ho33)); have n0_ := zA (Kd.V_elder' (by (with_reducible repeat (first | apply Kd.V_alloc | apply Kd.V_drewN | apply Kd.V_drew)); exact HO0_1.out) (Kd.N_base ho33) hb); have n1_ := zA (Kd.V_elder' (by (with_reducible repeat (first | apply Kd.V_alloc | apply Kd.V_drewN | apply Kd.V_drew)); exact HO1.out) (Kd.N_base ho33) hb); have n2_ := zA (Kd.N_lower ho33 (below_size (zT HB.out GE683.out))); have n3_ := zA (blk_below (g := gb683) (o := .cells #[.int .i64 a0_0, .slice A0_1 l0_1.length c0_1] 26 (0, 0)) (zR BK683.out) hb); have n4_ := zA (below_step (zT HB.out GE683.out) hb); clear HO0_1; clear HO1; clear BK683; clear HB; have HO0_1 := n0_; have HO1 := n1_; have HO686 := n2_; have BK683 := n3_; have HB := n4_; clear n0_ n1_ n2_ n3_ n4_; clear hb ho33; obtain ⟨Ao34, co34, eo34⟩ := Kd.N_slice HO686.out; subst eo34) | ((with_reducible refine gate_callee (f := 49) rfl ?_); refine zO (some 12) Tryd.func49 #[.agg #[.int .i64 a0_0, .slice A0_1 l0_1.length c0_1], .slice Ao34 y684.length co34] ?_; (with_reducible refine (impl_checkWords.calls k a0_0 _ _ l0_1 _ _ y684 t687 _ ?side1 ?side2 ?side3 ?side4 ?side5 A4.out).mono ?_); (case side1 => exact zS (Kd.V_reads' HO0_1.out).2.2); (case side2 => exact (Kd.V_reads' HO0_1.out).2.1); (case side3 => exact zS (Kd.N_reads' HO686.out).2.2); (case side4 => exact (Kd.N_reads' HO686.out).2.1); (case side5 => exact TabW.below HT.out (zT HB.out GE683.out)); rintro e w35 ⟨rfl, hb⟩; refine ⟨_, rfl, ?_⟩; have n0_ := zA (Kd.V_below (by (with_reducible repeat (first | apply Kd.V_alloc | apply Kd.V_drewN | apply Kd.V_drew)); exact HO0_1.out) hb); have n1_ := zA (Kd.V_below (by (with_reducible repeat (first | apply Kd.V_alloc | apply Kd.V_drewN | apply Kd.V_drew)); exact HO1.out) hb); have n2_ := zA (Kd.N_below (by (with_reducible repeat (first | apply Kd.N_alloc | apply Kd.N_drewN | apply Kd.N_drew)); exact HO686.out) hb); have n3_ := zA (blk_below (g := gb683) (o := .cells #[.int .i64 a0_0, .slice A0_1 l0_1.length c0_1] 26 (0, 0)) (zR BK683.out) hb); have n4_ := zA (below_step (zT HB.out GE683.out) hb); clear HO0_1; clear HO1; clear HO686; clear BK683; clear HB; have HO0_1 := n0_; have HO1 := n1_; have HO686 := n2_; have BK683 := n3_; have HB := n4_; clear n0_ n1_ n2_ n3_ n4_; (try clear hb)))
 go_ret2
 exact ⟨_, by first | rfl | (simp [errW_none, errW_some] <;> rfl) | (simp [*, errW_none, errW_some] <;> rfl), by first | exact Kd.R_nil _ _ _ _ _ | exact Kd.N_nil _ _ _ _ _ | exact Kd.V_nil _ _ _ _ _ | exact Kd.Q_nil _ _ _ _ _ | exact Kd.S_nil _ _ _ _ _, by repeat (first | (with_reducible first | exact HB.out | apply zB | apply zC | apply zD | refine zE ?_ GE683.out) | exact HB.out)⟩

/-! ### laws_FnPrefixesIn: function 4 -/
def laws_FnPrefixesIn.j0 : Nat → List Int → Int → List Int → Int → Bool → Int → List Int → Option (Bool)
 | 0, _, _, _, _, _, _, _ => none
 | k + 1, x4, x5, x6, x7, x46, x708000, x708001 => if x46 = true then (none) else (if x7 = 0 then ((impl_LeftQuotient.f k x708000 x708001 x6 x4).bind fun bt717 => ((impl_FirstLetters.f k x708000 x708001 bt717.1).bind fun bt721 => ((impl_ProjectionOf.f k x708000 x708001 x6 x5).bind fun bt723 => (if bt717.2 = 0 then (if bt721.2 = 0 then (if bt723.2 = 0 then (if (Go.bits .and .i64 bt721.1 x5) = 0 then ((laws_likeInts.f k x6 bt723.1).bind fun t727 => (some t727)) else (none)) else (none)) else (none)) else (none))))) else (some true))
def laws_FnPrefixesIn.f (k : Nat) (l0 : List Int) : Option (Bool) := (laws_big.f l0).bind fun t698 => (if t698 = true then (some true) else ((spec_DrawPrefixIn.f k l0).bind fun bt699 => ((impl_PrefixIn.f k bt699.1 bt699.2.1 bt699.2.2.1 bt699.2.2.2).bind fun bt708 => ((spec_PrefixIn.f k bt699.1 bt699.2.1 bt699.2.2.1 bt699.2.2.2).bind fun bt712 => (if bt708.2 = bt712.2 then ((laws_likeInts.f k bt708.1 bt712.1).bind fun t716 => (laws_FnPrefixesIn.j0 k bt699.2.2.1 bt699.2.2.2 bt708.1 bt708.2 (!t716) bt699.1 bt699.2.1)) else (laws_FnPrefixesIn.j0 k bt699.2.2.1 bt699.2.2.2 bt708.1 bt708.2 true bt699.1 bt699.2.1))))))

set_option maxHeartbeats 8000000 in
set_option maxRecDepth 100000 in
theorem laws_FnPrefixesIn.calls (k : Nat) (A0 : Option Addr) (c0 : Nat) (l0 : List Int) (r : Bool) (w : World) (hr0 : Kd.C (Kd.int .u8) w A0 l0.length l0) (hc0 : l0.length ≤ c0) (hT : TabW w) (h : laws_FnPrefixesIn.f k l0 = some r) :
  Calls Tryd.prog 4 #[.slice A0 l0.length c0] w fun e w' => e = .returned (.bool r) ∧ Below w.heap.size w w' := by
 have hu26 := Tryd.underlying26
 have HT := zA hT
 clear hT
 have HR0 := zA hr0
 have HC0 := zA hc0
 clear hr0 hc0
 have HB := zA (Below.refl w.heap.size w)
 have H : ((laws_big.f l0).bind fun t698 => (if t698 = true then (some true) else ((spec_DrawPrefixIn.f k l0).bind fun bt699 => ((impl_PrefixIn.f k bt699.1 bt699.2.1 bt699.2.2.1 bt699.2.2.2).bind fun bt708 => ((spec_PrefixIn.f k bt699.1 bt699.2.1 bt699.2.2.1 bt699.2.2.2).bind fun bt712 => (if bt708.2 = bt712.2 then ((laws_likeInts.f k bt708.1 bt712.1).bind fun t716 => (laws_FnPrefixesIn.j0 k bt699.2.2.1 bt699.2.2.2 bt708.1 bt708.2 (!t716) bt699.1 bt699.2.1)) else (laws_FnPrefixesIn.j0 k bt699.2.2.1 bt699.2.2.2 bt708.1 bt708.2 true bt699.1 bt699.2.1))))))) = some r := h
 clear h
 replace H := Option.bind_eq_some_iff.mp H
 obtain ⟨t698, A20, H⟩ := H
 replace H : (if t698 = true then (some true) else ((spec_DrawPrefixIn.f k l0).bind fun bt699 => ((impl_PrefixIn.f k bt699.1 bt699.2.1 bt699.2.2.1 bt699.2.2.2).bind fun bt708 => ((spec_PrefixIn.f k bt699.1 bt699.2.1 bt699.2.2.1 bt699.2.2.2).bind fun bt712 => (if bt708.2 = bt712.2 then ((laws_likeInts.f k bt708.1 bt712.1).bind fun t716 => (laws_FnPrefixesIn.j0 k bt699.2.2.1 bt699.2.2.2 bt708.1 bt708.2 (!t716) bt699.1 bt699.2.1)) else (laws_FnPrefixesIn.j0 k bt699.2.2.1 bt699.2.2.2 bt708.1 bt708.2 true bt699.1 bt699.2.1)))))) = some r := H
 have A2 := zA A20
 clear A20
 by_cases c3 : t698 = true
 ·subst c3
  have H1 : (some true) = some r := by rw [if_pos rfl] at H; exact H
  clear H
  have H := H1
  clear H1
  obtain rfl := Option.some.inj H
  go_enter Tryd.func4, Tryd.ntmps4
  go_wp2_with (first | ((with_reducible refine gate_callee (f := 9) rfl ?_); refine zO (some 17) Tryd.func9 #[.slice A0 l0.length c0] ?_; (with_reducible refine (laws_big.calls _ _ l0 true _ ?side1 ?side2 A2.out).mono ?_); (case side1 => exact zS HR0.out); (case side2 => exact HC0.out); rintro e w' ⟨rfl, ⟨nd, rfl⟩⟩; refine ⟨_, rfl, ?_⟩))
  go_ret
  exact ⟨by first | rfl | (simp [errW_none, errW_some] <;> rfl) | (simp [*, errW_none, errW_some] <;> rfl), by repeat (first | (with_reducible first | exact HB.out | apply zB | apply zC | apply zD) | exact HB.out)⟩
 replace c3 := Bool.eq_false_iff.mpr c3
 subst c3
 have H1 : ((spec_DrawPrefixIn.f k l0).bind fun bt699 => ((impl_PrefixIn.f k bt699.1 bt699.2.1 bt699.2.2.1 bt699.2.2.2).bind fun bt708 => ((spec_PrefixIn.f k bt699.1 bt699.2.1 bt699.2.2.1 bt699.2.2.2).bind fun bt712 => (if bt708.2 = bt712.2 then ((laws_likeInts.f k bt708.1 bt712.1).bind fun t716 => (laws_FnPrefixesIn.j0 k bt699.2.2.1 bt699.2.2.2 bt708.1 bt708.2 (!t716) bt699.1 bt699.2.1)) else (laws_FnPrefixesIn.j0 k bt699.2.2.1 bt699.2.2.2 bt708.1 bt708.2 true bt699.1 bt699.2.1))))) = some r := by rw [if_neg (show ¬ (false = true) by decide)] at H; exact H
 clear H
 have H := H1
 clear H1
 replace H := Option.bind_eq_some_iff.mp H
 obtain ⟨⟨t699, t700, t703, t706⟩, A40, H⟩ := H
 replace H : ((impl_PrefixIn.f k t699 t700 t703 t706).bind fun bt708 => ((spec_PrefixIn.f k t699 t700 t703 t706).bind fun bt712 => (if bt708.2 = bt712.2 then ((laws_likeInts.f k bt708.1 bt712.1).bind fun t716 => (laws_FnPrefixesIn.j0 k t703 t706 bt708.1 bt708.2 (!t716) t699 t700)) else (laws_FnPrefixesIn.j0 k t703 t706 bt708.1 bt708.2 true t699 t700)))) = some r := H
 have A4 := zA A40
 clear A40
 replace H := Option.bind_eq_some_iff.mp H
 obtain ⟨⟨t708, t711⟩, A50, H⟩ := H
 replace H : ((spec_PrefixIn.f k t699 t700 t703 t706).bind fun bt712 => (if t711 = bt712.2 then ((laws_likeInts.f k t708 bt712.1).bind fun t716 => (laws_FnPrefixesIn.j0 k t703 t706 t708 t711 (!t716) t699 t700)) else (laws_FnPrefixesIn.j0 k t703 t706 t708 t711 true t699 t700))) = some r := H
 have A5 := zA A50
 clear A50
 replace H := Option.bind_eq_some_iff.mp H
 obtain ⟨⟨t712, t715⟩, A60, H⟩ := H
 replace H : (if t711 = t715 then ((laws_likeInts.f k t708 t712).bind fun t716 => (laws_FnPrefixesIn.j0 k t703 t706 t708 t711 (!t716) t699 t700)) else (laws_FnPrefixesIn.j0 k t703 t706 t708 t711 true t699 t700)) = some r := H
 have A6 := zA A60
 clear A60
 have HC7 := zA H
 clear H
 go_enter Tryd.func4, Tryd.ntmps4
 go_upto_region 6 with (first | ((with_reducible refine gate_callee (f := 9) rfl ?_); refine zO (some 17) Tryd.func9 #[.slice A0 l0.length c0] ?_; (with_reducible refine (laws_big.calls _ _ l0 false _ ?side1 ?side2 A2.out).mono ?_); (case side1 => exact zS HR0.out); (case side2 => exact HC0.out); rintro e w' ⟨rfl, ⟨nd, rfl⟩⟩; refine ⟨_, rfl, ?_⟩) | ((with_reducible refine gate_callee (f := 17) rfl ?_); refine zO (some 20) Tryd.func17 #[.slice A0 l0.length c0] ?_; (with_reducible refine (spec_DrawPrefixIn.calls k _ _ l0 t699 t700 t703 t706 _ ?side1 ?side2 A4.out).mono ?_); (case side1 => exact zS HR0.out); (case side2 => exact HC0.out); rintro e w8 ⟨v701, v704, rfl, ho0, ho1, hb⟩; refine ⟨_, rfl, ?_⟩; have n0_ := zA (Kd.R_lower ho0 (below_size (zQ HB.out))); have n1_ := zA (Kd.R_lower ho1 (below_size (zQ HB.out))); have n2_ := zA (below_step (zQ HB.out) hb); clear HB; have HO702 := n0_; have HO705 := n1_; have HB := n2_; clear n0_ n1_ n2_; (try clear hb); (try clear ho0); (try clear ho1)) | ((with_reducible refine gate_dst (N := 3) rfl ?_); refine box_event ?hg (N := 3) ?hd (cs := #[.int .i64 0, .slice none 0 0]) (t := 26) ?hr ?_; (case hd => rfl); (case hg => rfl); (case hr => first | (go_simp; done) | (go_simp; rfl)); intro gb707 hg w9 hbox hb; have n0_ := zA (Kd.R_below (zP HO702.out) hb); have n1_ := zA (Kd.R_below (zP HO705.out) hb); have n2_ := zA (below_step (zQ HB.out) hb); have n3_ := zA (hbox); have n4_ := zA ((by rw [hg]; exact (below_size (zQ HB.out)) : w.heap.size ≤ gb707)); have n5_ := zA ((by rw [hg]; exact (below_size (zQ HB.out)) : w.heap.size ≤ gb707)); clear HO702; clear HO705; clear HB; have HO702 := n0_; have HO705 := n1_; have HB := n2_; have BK707 := n3_; have GW707 := n4_; have GE707 := n5_; clear n0_ n1_ n2_ n3_ n4_ n5_; clear hb hbox hg; have hcz10_0 : w9.cell? ⟨gb707, 0, none⟩ = some (.int .i64 0) := (blk_cell BK707.out 0).trans rfl; have hcz10_1 : w9.cell? ⟨gb707, 1, none⟩ = some (.slice none 0 0) := (blk_cell BK707.out 1).trans rfl; have hfz10_0 := blk_frozen BK707.out 0; have hfz10_1 := blk_frozen BK707.out 1; obtain ⟨Ao11, co11, eo11⟩ := Kd.R_slice HO702.out; subst eo11) | ((with_reducible refine gate_store (t := 26) (p := 3) rfl ?_); refine store_event (t := 26) (p := 3) (v := ?vo_w12) (w1 := ((w9.setCell ⟨gb707, 0, none⟩ (.int .i64 t699)).setCell ⟨gb707, 1, none⟩ (.slice Ao11 t700.length co11))) ?hg ?ho ?hn ?hr ?_; (case ho => rfl); (case hg => rfl); (case hn => rfl); (case hr => first | (go_simp; done) | (go_simp; rfl)); intro w12 hw; have n0_ : Aside0 (Kd.R (Kd.int .i64) 2 w12 w.heap.size (fun k_ => some k_ ≠ (v704 : Value).ownBlock) (.slice Ao11 t700.length co11) t700) := ⟨(by rw [hw]; exact (by (with_reducible repeat (first | apply zF | apply zG | apply zH)); exact Kd.R_mono (Kd.R_far (p := ⟨gb707, 1, none⟩) (Kd.R_far (p := ⟨gb707, 0, none⟩) (Kd.R_types HO702.out BK707.out (by decide)) (fun _ hk => hk.2) (.int .i64 t699)) (fun _ hk => hk.2) (.slice Ao11 t700.length co11)) (fun _ hk => hk.1)))⟩; have n1_ : Aside0 (Kd.R (Kd.int .i64) 2 w12 w.heap.size (fun k_ => some k_ ≠ (.slice Ao11 t700.length co11 : Value).ownBlock) v704 t703) := ⟨(by rw [hw]; exact (by (with_reducible repeat (first | apply zF | apply zG | apply zH)); exact Kd.R_mono (Kd.R_far (p := ⟨gb707, 1, none⟩) (Kd.R_far (p := ⟨gb707, 0, none⟩) (Kd.R_types HO705.out BK707.out (by decide)) (fun _ hk => hk.2) (.int .i64 t699)) (fun _ hk => hk.2) (.slice Ao11 t700.length co11)) (fun _ hk => hk.1)))⟩; have n2_ : Aside0 (w12.heap[gb707]? = some (.cells #[.int .i64 t699, .slice Ao11 t700.length co11] 26 (0, 0))) := ⟨(by rw [hw]; exact (by (with_reducible repeat (first | refine zJ ?_ _ | refine zK ?_ | refine zI ?_ _)); refine blk_put (cs := #[.int .i64 t699, .slice none 0 0]) ?_ 1 _ rfl; (with_reducible repeat (first | refine zJ ?_ _ | refine zK ?_ | refine zI ?_ _)); refine blk_put (cs := #[.int .i64 0, .slice none 0 0]) ?_ 0 _ rfl; (with_reducible repeat (first | refine zJ ?_ _ | refine zK ?_ | refine zI ?_ _)); exact BK707.out))⟩; have n3_ : Aside0 (Below w.heap.size w w12) := ⟨(by rw [hw]; exact (zT HB.out GE707.out))⟩; clear hw; clear HO702; clear HO705; clear BK707; clear HB; have HO702 := n0_; have HO705 := n1_; have BK707 := n2_; have HB := n3_; clear n0_ n1_ n2_ n3_; have hcz13_0 : w12.cell? ⟨gb707, 0, none⟩ = some (.int .i64 t699) := (blk_cell BK707.out 0).trans rfl; have hcz13_1 : w12.cell? ⟨gb707, 1, none⟩ = some (.slice Ao11 t700.length co11) := (blk_cell BK707.out 1).trans rfl; have hfz13_0 := blk_frozen BK707.out 0; have hfz13_1 := blk_frozen BK707.out 1; obtain ⟨Ao14, co14, eo14⟩ := Kd.R_slice HO705.out; subst eo14) | ((with_reducible refine gate_callee (f := 18) rfl ?_); refine zO (some 28) Tryd.func18 #[.agg #[.int .i64 t699, .slice Ao11 t700.length co11], .slice Ao14 t703.length co14, .int .i64 t706] ?_; (with_reducible refine (impl_PrefixIn.calls k t699 (fun k_ => some k_ = (.slice Ao11 t700.length co11 : Value).ownBlock) _ _ t700 (fun k_ => some k_ = (.slice Ao14 t703.length co14 : Value).ownBlock) _ _ t703 t706 t708 t711 _ ?side1 ?side2 ?side3 A5.out).mono ?_); (case side1 => exact Kd.R_V (Kd.R_tight rfl (Kd.R_types (HO702.out) BK707.out (by decide)))); (case side2 => exact Kd.R_V (Kd.R_tight rfl (Kd.R_types (HO705.out) BK707.out (by decide)))); (case side3 => exact TabW.below HT.out (zT HB.out GE707.out)); rintro e w15 ⟨v709, rfl, ho0, hb⟩; refine ⟨_, rfl, ?_⟩; have n0_ := zA (Kd.R_elder' (zP HO702.out) (Kd.R_base ho0) hb); have n1_ := zA (Kd.R_elder' (zP HO705.out) (Kd.R_base ho0) hb); have n2_ := zA (Kd.R_lower (Kd.R_new' (Kd.R_new' (Kd.R_mono (ok' := fun k_ => True) ho0 (fun _ hk_ => trivial)) (Kd.R_lt (zP HO702.out))) (Kd.R_lt (zP HO705.out))) (below_size (zT HB.out GE707.out))); have n3_ := zA (blk_below (g := gb707) (o := .cells #[.int .i64 t699, .slice Ao11 t700.length co11] 26 (0, 0)) (zR BK707.out) hb); have n4_ := zA (below_step (zT HB.out GE707.out) hb); clear HO702; clear HO705; clear BK707; clear HB; have HO702 := n0_; have HO705 := n1_; have HO710 := n2_; have BK707 := n3_; have HB := n4_; clear n0_ n1_ n2_ n3_ n4_; (try clear hb); (try clear ho0); have hcz16_0 : w15.cell? ⟨gb707, 0, none⟩ = some (.int .i64 t699) := (blk_cell BK707.out 0).trans rfl; have hcz16_1 : w15.cell? ⟨gb707, 1, none⟩ = some (.slice Ao11 t700.length co11) := (blk_cell BK707.out 1).trans rfl; have hfz16_0 := blk_frozen BK707.out 0; have hfz16_1 := blk_frozen BK707.out 1) | ((with_reducible refine gate_callee (f := 19) rfl ?_); refine zO (some 35) Tryd.func19 #[.agg #[.int .i64 t699, .slice Ao11 t700.length co11], .slice Ao14 t703.length co14, .int .i64 t706] ?_; (with_reducible refine (spec_PrefixIn.calls k t699 _ _ t700 _ _ t703 t706 t712 t715 _ ?side1 ?side2 ?side3 ?side4 A6.out).mono ?_); (case side1 => exact zS (Kd.R_reads' HO702.out).2.2); (case side2 => exact (Kd.R_reads' HO702.out).2.1); (case side3 => exact zS (Kd.R_reads' HO705.out).2.2); (case side4 => exact (Kd.R_reads' HO705.out).2.1); rintro e w17 ⟨v713, rfl, ho0, hb⟩; refine ⟨_, rfl, ?_⟩; have n0_ := zA (Kd.R_elder' (zP HO702.out) (Kd.R_base ho0) hb); have n1_ := zA (Kd.R_elder' (zP HO705.out) (Kd.R_base ho0) hb); have n2_ := zA (Kd.R_elder' (zP HO710.out) (Kd.R_base ho0) hb); have n3_ := zA (Kd.R_lower (Kd.R_new' (Kd.R_new' (Kd.R_new' ho0 (Kd.R_lt (zP HO702.out))) (Kd.R_lt (zP HO705.out))) (Kd.R_lt (zP HO710.out))) (below_size (zT HB.out GE707.out))); have n4_ := zA (blk_below (g := gb707) (o := .cells #[.int .i64 t699, .slice Ao11 t700.length co11] 26 (0, 0)) (zR BK707.out) hb); have n5_ := zA (below_step (zT HB.out GE707.out) hb); clear HO702; clear HO705; clear HO710; clear BK707; clear HB; have HO702 := n0_; have HO705 := n1_; have HO710 := n2_; have HO714 := n3_; have BK707 := n4_; have HB := n5_; clear n0_ n1_ n2_ n3_ n4_ n5_; (try clear hb); (try clear ho0)))
 (try simp only [Act.put, zL, zM, zN])
 go_cut [46] (fun v46 wc => ∃ (kq : Nat) (x46_6 : Bool), v46 = .bool x46_6 ∧ Aside0 (laws_FnPrefixesIn.j0 kq t703 t706 t708 t711 x46_6 t699 t700 = some r) ∧ Aside0 (kq ≤ k) ∧ Aside0 (Kd.R (Kd.int .i64) 2 wc w.heap.size (fun k_ => some k_ ≠ (v709 : Value).ownBlock ∧ some k_ ≠ ((.slice Ao11 t700.length co11) : Value).ownBlock) (.slice Ao14 t703.length co14) t703) ∧ Aside0 (Kd.R (Kd.int .i64) 2 wc w.heap.size (fun k_ => some k_ ≠ ((.slice Ao14 t703.length co14) : Value).ownBlock ∧ some k_ ≠ ((.slice Ao11 t700.length co11) : Value).ownBlock) v709 t708) ∧ Aside0 (Kd.R (Kd.int .i64) 2 wc w.heap.size (fun k_ => some k_ ≠ ((.slice Ao14 t703.length co14) : Value).ownBlock ∧ some k_ ≠ (v709 : Value).ownBlock) (.slice Ao11 t700.length co11) t700) ∧ Aside0 (wc.heap[gb707]? = some (.cells #[.int .i64 t699, (.slice Ao11 t700.length co11)] 26 (0, 0))) ∧ Aside0 (Below w.heap.size w wc))
 case first =>
  have H := HC7.out
  clear HC7
  by_cases c18 : t711 = t715
  ·rw [if_pos c18] at H
   have c18b0 : (t711 == t715) = true := beq_iff_eq.mpr c18
   have c18b1 : (t711 != t715) = false := bne_eq_false_iff_eq.mpr c18
   clear c18
   (first | rw [c18b0] | (simp only [i64_w, i32_w]; rw [c18b0]) | skip)
   replace H := Option.bind_eq_some_iff.mp H
   obtain ⟨t716, A190, H⟩ := H
   replace H : (laws_FnPrefixesIn.j0 k t703 t706 t708 t711 (!t716) t699 t700) = some r := H
   have A19 := zA A190
   clear A190
   have H' := zA H
   clear H
   obtain ⟨Ao20, co20, eo20⟩ := Kd.R_slice HO710.out
   subst eo20
   obtain ⟨Ao21, co21, eo21⟩ := Kd.R_slice HO714.out
   subst eo21
   go_wp2_with (first | (go_at_call 20; (with_reducible refine (laws_likeInts.calls k _ _ t708 _ _ t712 t716 _ ?side1 ?side2 ?side3 ?side4 A19.out).mono ?_); (case side1 => exact zS (Kd.R_reads' HO710.out).2.2); (case side2 => exact (Kd.R_reads' HO710.out).2.1); (case side3 => exact zS (Kd.R_reads' HO714.out).2.2); (case side4 => exact (Kd.R_reads' HO714.out).2.1); rintro e w' ⟨rfl, ⟨nd, rfl⟩⟩))
   go_meet
   case rel => exact ⟨_, (!t716), (by first | rfl | (simp; done) | (simp [*]; done)), H', ⟨by first | omega | exact Nat.le_refl _⟩, ⟨by (with_reducible repeat (first | apply zF | apply zG | apply zH)); exact Kd.R_mono HO705.out (fun _ hk => ⟨hk.1.2, hk.1.1⟩)⟩, ⟨by (with_reducible repeat (first | apply zF | apply zG | apply zH)); exact Kd.R_mono HO710.out (fun _ hk => ⟨hk.1.2, hk.1.1.2⟩)⟩, ⟨by (with_reducible repeat (first | apply zF | apply zG | apply zH)); exact Kd.R_mono HO702.out (fun _ hk => ⟨hk.1.1, hk.1.2⟩)⟩, ⟨by (with_reducible repeat (first | refine zJ ?_ _ | refine zK ?_ | refine zI ?_ _)); exact BK707.out⟩, ⟨zT HB.out GE707.out⟩⟩
  rw [if_neg c18] at H
  have c18b0 : (t711 == t715) = false := beq_eq_false_iff_ne.mpr c18
  have c18b1 : (t711 != t715) = true := bne_iff_ne.mpr c18
  (first | rw [c18b0] | (simp only [i64_w, i32_w]; rw [c18b0]) | skip)
  have H' := zA H
  clear H
  go_wp2
  go_meet
  case rel => exact ⟨_, (true), (by first | rfl | (simp; done) | (simp [*]; done)), H', ⟨by first | omega | exact Nat.le_refl _⟩, ⟨by (with_reducible repeat (first | apply zF | apply zG | apply zH)); exact Kd.R_mono HO705.out (fun _ hk => ⟨hk.1.2, hk.1.1⟩)⟩, ⟨by (with_reducible repeat (first | apply zF | apply zG | apply zH)); exact Kd.R_mono HO710.out (fun _ hk => ⟨hk.1.2, hk.1.1.2⟩)⟩, ⟨by (with_reducible repeat (first | apply zF | apply zG | apply zH)); exact Kd.R_mono HO702.out (fun _ hk => ⟨hk.1.1, hk.1.2⟩)⟩, ⟨by (with_reducible repeat (first | refine zJ ?_ _ | refine zK ?_ | refine zI ?_ _)); exact BK707.out⟩, ⟨zT HB.out GE707.out⟩⟩
 case rest =>
  clear HC7
  try clear c1
  try clear p2
  try clear c3
  try clear c4
  try clear c9
  try clear c17
  try clear c18
  try clear c18b0
  try clear c18b1
  try clear c19
  try clear hcz10_0
  try clear hcz10_1
  try clear hcz13_0
  try clear hcz13_1
  try clear hcz16_0
  try clear hcz16_1
  try clear hfz10_0
  try clear hfz10_1
  try clear hfz13_0
  try clear hfz13_1
  try clear hfz16_0
  try clear hfz16_1
  obtain ⟨kq, x46_6, rfl, HA, HJ6, HO_4, HO_6, HO_708001, BK707, HB⟩ := hcut
  cases kq with
  | zero => exact absurd HA.out (by simp [laws_FnPrefixesIn.j0])
  | succ kj6 =>
   have H := HA.out
   clear HA
   simp only [laws_FnPrefixesIn.j0] at H
   by_cases c22 : x46_6 = true
   ·subst c22
    have H1 : (none) = some r := by rw [if_pos rfl] at H; exact H
    clear H
    have H := H1
    clear H1
    exact absurd H (by simp)
   replace c22 := Bool.eq_false_iff.mpr c22
   subst c22
   have H1 : (if t711 = 0 then ((impl_LeftQuotient.f kj6 t699 t700 t708 t703).bind fun bt717 => ((impl_FirstLetters.f kj6 t699 t700 bt717.1).bind fun bt721 => ((impl_ProjectionOf.f kj6 t699 t700 t708 t706).bind fun bt723 => (if bt717.2 = 0 then (if bt721.2 = 0 then (if bt723.2 = 0 then (if (Go.bits .and .i64 bt721.1 t706) = 0 then ((laws_likeInts.f kj6 t708 bt723.1).bind fun t727 => (some t727)) else (none)) else (none)) else (none)) else (none))))) else (some true)) = some r := by rw [if_neg (show ¬ (false = true) by decide)] at H; exact H
   clear H
   have H := H1
   clear H1
   by_cases c23 : t711 = 0
   ·rw [if_pos c23] at H
    have c23b0 : (t711 == 0) = true := beq_iff_eq.mpr c23
    have c23b1 : (t711 != 0) = false := bne_eq_false_iff_eq.mpr c23
    clear c23
    replace H := Option.bind_eq_some_iff.mp H
    obtain ⟨⟨t717, t720⟩, A240, H⟩ := H
    replace H : ((impl_FirstLetters.f kj6 t699 t700 t717).bind fun bt721 => ((impl_ProjectionOf.f kj6 t699 t700 t708 t706).bind fun bt723 => (if t720 = 0 then (if bt721.2 = 0 then (if bt723.2 = 0 then (if (Go.bits .and .i64 bt721.1 t706) = 0 then ((laws_likeInts.f kj6 t708 bt723.1).bind fun t727 => (some t727)) else (none)) else (none)) else (none)) else (none)))) = some r := H
    have A24 := zA A240
    clear A240
    replace H := Option.bind_eq_some_iff.mp H
    obtain ⟨⟨t721, t722⟩, A250, H⟩ := H
    replace H : ((impl_ProjectionOf.f kj6 t699 t700 t708 t706).bind fun bt723 => (if t720 = 0 then (if t722 = 0 then (if bt723.2 = 0 then (if (Go.bits .and .i64 t721 t706) = 0 then ((laws_likeInts.f kj6 t708 bt723.1).bind fun t727 => (some t727)) else (none)) else (none)) else (none)) else (none))) = some r := H
    have A25 := zA A250
    clear A250
    replace H := Option.bind_eq_some_iff.mp H
    obtain ⟨⟨t723, t726⟩, A260, H⟩ := H
    replace H : (if t720 = 0 then (if t722 = 0 then (if t726 = 0 then (if (Go.bits .and .i64 t721 t706) = 0 then ((laws_likeInts.f kj6 t708 t723).bind fun t727 => (some t727)) else (none)) else (none)) else (none)) else (none)) = some r := H
    have A26 := zA A260
    clear A260
    by_cases c27 : t720 = 0
    ·rw [if_pos c27] at H
     have c27b0 : (t720 == 0) = true := beq_iff_eq.mpr c27
     have c27b1 : (t720 != 0) = false := bne_eq_false_iff_eq.mpr c27
     clear c27
     by_cases c28 : t722 = 0
     ·rw [if_pos c28] at H
      have c28b0 : (t722 == 0) = true := beq_iff_eq.mpr c28
      have c28b1 : (t722 != 0) = false := bne_eq_false_iff_eq.mpr c28
      clear c28
      by_cases c29 : t726 = 0
      ·rw [if_pos c29] at H
       have c29b0 : (t726 == 0) = true := beq_iff_eq.mpr c29
       have c29b1 : (t726 != 0) = false := bne_eq_false_iff_eq.mpr c29
       clear c29
       by_cases c30 : (Go.bits .and .i64 t721 t706) = 0
       ·rw [if_pos c30] at H
        have c30b0 : ((Go.bits .and .i64 t721 t706) == 0) = true := beq_iff_eq.mpr c30
        have c30b1 : ((Go.bits .and .i64 t721 t706) != 0) = false := bne_eq_false_iff_eq.mpr c30
        clear c30
        replace H := Option.bind_eq_some_iff.mp H
        obtain ⟨t727, A310, H⟩ := H
        replace H : (some t727) = some r := H
        have A31 := zA A310
        clear A310
        obtain rfl := Option.some.inj H
        have hcz32_0 : wc.cell? ⟨gb707, 0, none⟩ = some (.int .i64 t699) := (blk_cell BK707.out 0).trans rfl
        have hcz32_1 : wc.cell? ⟨gb707, 1, none⟩ = some (.slice Ao11 t700.length co11) := (blk_cell BK707.out 1).trans rfl
        have hfz32_0 := blk_frozen BK707.out 0
        have hfz32_1 := blk_frozen BK707.out 1
        obtain ⟨Ao33, co33, eo33⟩ := Kd.R_slice HO_6.out
        subst eo33
        go_wp2_with (first | ((with_reducible refine gate_callee (f := 21) rfl ?_); refine zO (some 53) Tryd.func21 #[.agg #[.int .i64 t699, .slice Ao11 t700.length co11], .slice Ao33 t708.length co33, .slice Ao14 t703.length co14] ?_; (with_reducible refine (impl_LeftQuotient.calls kj6 t699 (fun k_ => some k_ = (.slice Ao11 t700.length co11 : Value).ownBlock) _ _ t700 (fun k_ => some k_ = (.slice Ao33 t708.length co33 : Value).ownBlock) _ _ t708 (fun k_ => some k_ = (.slice Ao14 t703.length co14 : Value).ownBlock) _ _ t703 t717 t720 _ ?side1 ?side2 ?side3 ?side4 A24.out).mono ?_); (case side1 => exact Kd.R_V (Kd.R_tight rfl (Kd.R_types (HO_708001.out) BK707.out (by decide)))); (case side2 => exact Kd.R_V (Kd.R_tight rfl (Kd.R_types (HO_6.out) BK707.out (by decide)))); (case side3 => exact Kd.R_V (Kd.R_tight rfl (Kd.R_types (HO_4.out) BK707.out (by decide)))); (case side4 => exact TabW.below HT.out (zT HB.out GE707.out)); rintro e w34 ⟨v718, rfl, ho0, hb⟩; refine ⟨_, rfl, ?_⟩; have n0_ := zA (Kd.R_elder' (zP HO_4.out) (Kd.R_base ho0) hb); have n1_ := zA (Kd.R_elder' (zP HO_6.out) (Kd.R_base ho0) hb); have n2_ := zA (Kd.R_elder' (zP HO_708001.out) (Kd.R_base ho0) hb); have n3_ := zA (Kd.R_lower (Kd.R_new' (Kd.R_new' (Kd.R_new' (Kd.R_mono (ok' := fun k_ => True) ho0 (fun _ hk_ => trivial)) (Kd.R_lt (zP HO_4.out))) (Kd.R_lt (zP HO_6.out))) (Kd.R_lt (zP HO_708001.out))) (below_size (zT HB.out GE707.out))); have n4_ := zA (blk_below (g := gb707) (o := .cells #[.int .i64 t699, .slice Ao11 t700.length co11] 26 (0, 0)) (zR BK707.out) hb); have n5_ := zA (below_step (zT HB.out GE707.out) hb); clear HO_4; clear HO_6; clear HO_708001; clear BK707; clear HB; have HO_4 := n0_; have HO_6 := n1_; have HO_708001 := n2_; have HO719 := n3_; have BK707 := n4_; have HB := n5_; clear n0_ n1_ n2_ n3_ n4_ n5_; (try clear hb); (try clear ho0); have hcz35_0 : w34.cell? ⟨gb707, 0, none⟩ = some (.int .i64 t699) := (blk_cell BK707.out 0).trans rfl; have hcz35_1 : w34.cell? ⟨gb707, 1, none⟩ = some (.slice Ao11 t700.length co11) := (blk_cell BK707.out 1).trans rfl; have hfz35_0 := blk_frozen BK707.out 0; have hfz35_1 := blk_frozen BK707.out 1; obtain ⟨Ao36, co36, eo36⟩ := Kd.R_slice HO719.out; subst eo36) | ((with_reducible refine gate_callee (f := 11) rfl ?_); refine zO (some 59) Tryd.func11 #[.agg #[.int .i64 t699, .slice Ao11 t700.length co11], .slice Ao36 t717.length co36] ?_; (with_reducible refine (impl_FirstLetters.calls kj6 t699 (fun k_ => some k_ = (.slice Ao11 t700.length co11 : Value).ownBlock) _ _ t700 (fun k_ => some k_ = (.slice Ao36 t717.length co36 : Value).ownBlock) _ _ t717 t721 t722 _ ?side1 ?side2 ?side3 A25.out).mono ?_); (case side1 => exact Kd.R_V (Kd.R_tight rfl (Kd.R_types (HO_708001.out) BK707.out (by decide)))); (case side2 => exact Kd.R_V (Kd.R_tight rfl (Kd.R_types (HO719.out) BK707.out (by decide)))); (case side3 => exact TabW.below HT.out (zT HB.out GE707.out)); rintro e w37 ⟨rfl, hb⟩; refine ⟨_, rfl, ?_⟩; have n0_ := zA (Kd.R_below (zP HO_4.out) hb); have n1_ := zA (Kd.R_below (zP HO_6.out) hb); have n2_ := zA (Kd.R_below (zP HO_708001.out) hb); have n3_ := zA (Kd.R_below (zP HO719.out) hb); have n4_ := zA (blk_below (g := gb707) (o := .cells #[.int .i64 t699, .slice Ao11 t700.length co11] 26 (0, 0)) (zR BK707.out) hb); have n5_ := zA (below_step (zT HB.out GE707.out) hb); clear HO_4; clear HO_6; clear HO_708001; clear HO719; clear BK707; clear HB; have HO_4 := n0_; have HO_6 := n1_; have HO_708001 := n2_; have HO719 := n3_; have BK707 := n4_; have HB := n5_; clear n0_ n1_ n2_ n3_ n4_ n5_; (try clear hb); have hcz38_0 : w37.cell? ⟨gb707, 0, none⟩ = some (.int .i64 t699) := (blk_cell BK707.out 0).trans rfl; have hcz38_1 : w37.cell? ⟨gb707, 1, none⟩ = some (.slice Ao11 t700.length co11) := (blk_cell BK707.out 1).trans rfl; have hfz38_0 := blk_frozen BK707.out 0; have hfz38_1 := blk_frozen BK707.out 1) | ((with_reducible refine gate_callee (f := 22) rfl ?_); refine zO (some 66) Tryd.func22 #[.agg #[.int .i64 t699, .slice Ao11 t700.length co11], .slice Ao33 t708.length co33, .int .i64 t706] ?_; (with_reducible refine (impl_ProjectionOf.calls kj6 t699 (fun k_ => some k_ = (.slice Ao11 t700.length co11 : Value).ownBlock) _ _ t700 (fun k_ => some k_ = (.slice Ao33 t708.length co33 : Value).ownBlock) _ _ t708 t706 t723 t726 _ ?side1 ?side2 ?side3 A26.out).mono ?_); (case side1 => exact Kd.R_V (Kd.R_tight rfl (Kd.R_types (HO_708001.out) BK707.out (by decide)))); (case side2 => exact Kd.R_V (Kd.R_tight rfl (Kd.R_types (HO_6.out) BK707.out (by decide)))); (case side3 => exact TabW.below HT.out (zT HB.out GE707.out)); rintro e w39 ⟨v724, rfl, ho0, hb⟩; refine ⟨_, rfl, ?_⟩; have n0_ := zA (Kd.R_elder' (zP HO_4.out) (Kd.R_base ho0) hb); have n1_ := zA (Kd.R_elder' (zP HO_6.out) (Kd.R_base ho0) hb); have n2_ := zA (Kd.R_elder' (zP HO_708001.out) (Kd.R_base ho0) hb); have n3_ := zA (Kd.R_elder' (zP HO719.out) (Kd.R_base ho0) hb); have n4_ := zA (Kd.R_lower (Kd.R_new' (Kd.R_new' (Kd.R_new' (Kd.R_new' (Kd.R_mono (ok' := fun k_ => True) ho0 (fun _ hk_ => trivial)) (Kd.R_lt (zP HO_4.out))) (Kd.R_lt (zP HO_6.out))) (Kd.R_lt (zP HO_708001.out))) (Kd.R_lt (zP HO719.out))) (below_size (zT HB.out GE707.out))); have n5_ := zA (blk_below (g := gb707) (o := .cells #[.int .i64 t699, .slice Ao11 t700.length co11] 26 (0, 0)) (zR BK707.out) hb); have n6_ := zA (below_step (zT HB.out GE707.out) hb); clear HO_4; clear HO_6; clear HO_708001; clear HO719; clear BK707; clear HB; have HO_4 := n0_; have HO_6 := n1_; have HO_708001 := n2_; have HO719 := n3_; have HO725 := n4_; have BK707 := n5_; have HB := n6_; clear n0_ n1_ n2_ n3_ n4_ n5_ n6_; (try clear hb); (try clear ho0); obtain ⟨Ao40, co40, eo40⟩ := Kd.R_slice HO725.out; subst eo40) | (go_at_call 20; (with_reducible refine (laws_likeInts.calls kj6 _ _ t708 _ _ t723 t727 _ ?side1 ?side2 ?side3 ?side4 A31.out).mono ?_); (case side1 => exact zS (Kd.R_reads' HO_6.out).2.2); (case side2 => exact (Kd.R_reads' HO_6.out).2.1); (case side3 => exact zS (Kd.R_reads' HO725.out).2.2); (case side4 => exact (Kd.R_reads' HO725.out).2.1); rintro e w' ⟨rfl, ⟨nd, rfl⟩⟩))
        go_ret
        exact ⟨by first | rfl | (simp [errW_none, errW_some] <;> rfl) | (simp [*, errW_none, errW_some] <;> rfl), by repeat (first | (with_reducible first | exact HB.out | apply zB | apply zC | apply zD | refine zE ?_ GE707.out) | exact HB.out)⟩
       rw [if_neg c30] at H
       exact absurd H (by simp)
      rw [if_neg c29] at H
      exact absurd H (by simp)
     rw [if_neg c28] at H
     exact absurd H (by simp)
    rw [if_neg c27] at H
    exact absurd H (by simp)
   rw [if_neg c23] at H
   have c23b0 : (t711 == 0) = false := beq_eq_false_iff_ne.mpr c23
   have c23b1 : (t711 != 0) = true := bne_iff_ne.mpr c23
   obtain rfl := Option.some.inj H
   go_wp2
   go_ret
   exact ⟨by first | rfl | (simp [errW_none, errW_some] <;> rfl) | (simp [*, errW_none, errW_some] <;> rfl), by repeat (first | (with_reducible first | exact HB.out | apply zB | apply zC | apply zD | refine zE ?_ GE707.out) | exact HB.out)⟩


end Go.Proofs.YtkiacoilecdepaaDoor.PAll
