-- Printed by a program of the session (wip/tools/pgen.py) out of the translation. Not trusted: Lean checks it.
import Derived.Test.YtfnnnopbcdiibaaDoorPAllx0
import Derived.Test.YtfnnnopbcdiibaaDoorPAllx1
import Derived.Test.YtfnnnopbcdiibaaDoorPAllx2
import Derived.Test.YtfnnnopbcdiibaaDoorPAllx4
import Derived.Test.YtfnnnopbcdiibaaDoorPAllx5
import Derived.Test.YtfnnnopbcdiibaaDoorPAllx19
namespace Go.Proofs.YtfnnnopbcdiibaaDoor.PAll
open Go.RowKit Go.Proofs.YtfnnnopbcdiibaaDoor.T Go.Proofs.YtfnnnopbcdiibaaDoorW.PrintWords Go.Proofs.YtfnnnopbcdiibaaDoorW.PrintLast Go.Proofs.YtfnnnopbcdiibaaDoorW.PrintMore
attribute [local go_sem] max2_int min2_int max_two min_two max_three min_three max_four min_four   -- for this text's walks alone
set_option linter.unusedVariables false
set_option linter.unusedSimpArgs false

/-! ### spec_RootOf: function 29 -/
def spec_RootOf.j0 : Nat → List Int → Int → Bool → Int → List Int → Option (List Int × Int × Int)
 | 0, _, _, _, _, _ => none
 | k + 1, x1, x7, x20, x607000, x607001 => if x20 = true then (some (([] : List Int), 0, 5)) else (if x7 = 0 then ((spec_l07Root.f k x607000 x607001 x1).bind fun bt608 => (some (bt608.1, bt608.2, 0))) else (some (([] : List Int), 0, x7)))
def spec_RootOf.f (k : Nat) (a0_0 : Int) (l0_1 : List Int) (l1 : List Int) : Option (List Int × Int × Int) := (spec_l03Code.f k a0_0 l0_1 l1 l1).bind fun t607 => (if t607 = 0 then (spec_RootOf.j0 k l1 t607 ((l1.length : Int) == 0) a0_0 l0_1) else (spec_RootOf.j0 k l1 t607 false a0_0 l0_1))

set_option maxHeartbeats 8000000 in
set_option maxRecDepth 100000 in
theorem spec_RootOf.calls (k : Nat) (a0_0 : Int) (A0_1 : Option Addr) (c0_1 : Nat) (l0_1 : List Int) (A1 : Option Addr) (c1 : Nat) (l1 : List Int) (r1 : List Int) (r2 : Int) (r3 : Int) (w : World) (hr0_1 : Kd.C (Kd.int .i64) w A0_1 l0_1.length l0_1) (hc0_1 : l0_1.length ≤ c0_1) (hr1 : Kd.C (Kd.int .i64) w A1 l1.length l1) (hc1 : l1.length ≤ c1) (h : spec_RootOf.f k a0_0 l0_1 l1 = some (r1, r2, r3)) :
  Calls Tryd.prog 29 #[.agg #[.int .i64 a0_0, .slice A0_1 l0_1.length c0_1], .slice A1 l1.length c1] w fun e w' => ∃ v0_ : Value, e = .returned (.tuple #[v0_, .int .i64 r2, .int .i64 r3]) ∧ Kd.R (Kd.int .i64) 2 w' w.heap.size (fun _ => True) v0_ r1 ∧ Below w.heap.size w w' := by
 have hu28 := Tryd.underlying28
 have HR0_1 := zA hr0_1
 have HC0_1 := zA hc0_1
 clear hr0_1 hc0_1
 have HR1 := zA hr1
 have HC1 := zA hc1
 clear hr1 hc1
 have HB := zA (kW w.heap.size w)
 have H := h
 unfold spec_RootOf.f at H
 clear h
 obtain ⟨t607, A3, H⟩ := zb H
 try dsimp only at H
 have HC4 := zA H
 clear H
 go_enter Tryd.func29, Tryd.ntmps29
 go_upto_region 2 with (first | (refine zBE 2 #[.int .i64 a0_0, .slice A0_1 l0_1.length c0_1] 28 ?_; intro gb606 hg w5 hbox hb; have BK606 := zA (hbox); have GW606 := zA (zBH hg HB.out); have GE606 := zA (zBH hg HB.out); replace HB := zA (kQ (zQ HB.out) hb); clear hb hbox hg; obtain ⟨hcz6_0, hcz6_1, hfz6_0, hfz6_1⟩ := zB3 BK606.out) | (refine zO (some 13) Tryd.func53 #[.agg #[.int .i64 a0_0, .slice A0_1 l0_1.length c0_1], .slice A1 l1.length c1, .slice A1 l1.length c1] ?_; (with_reducible refine (spec_l03Code.calls k a0_0 _ _ l0_1 _ _ l1 _ _ l1 t607 _ ?side1 ?side2 ?side3 ?side4 ?side5 ?side6 A3.out).mono ?_); (case side1 => exact zS (kO HR0_1.out HB.out)); (case side2 => exact HC0_1.out); (case side3 => exact zS (kO HR1.out HB.out)); (case side4 => exact HC1.out); (case side5 => exact zS (kO HR1.out HB.out)); (case side6 => exact HC1.out); rintro e w7 ⟨rfl, hb⟩; refine ⟨_, rfl, ?_⟩; replace BK606 := zA (zB1 BK606.out hb); replace HB := zA (kQ (zT HB.out GE606.out) hb); (try clear hb)))
 (try simp only [Act.put, zL, zM, zN])
 go_cut [20] (fun v20 wc => ∃ (kq : Nat) (x20_3 : Bool), v20 = .bool x20_3 ∧ Aside0 (spec_RootOf.j0 kq l1 t607 x20_3 a0_0 l0_1 = some (r1, r2, r3)) ∧ Aside0 (kq ≤ k) ∧ Aside0 (wc.heap[gb606]? = some (.cells #[.int .i64 a0_0, (.slice A0_1 l0_1.length c0_1)] 28 (0, 0))) ∧ Aside0 (Below w.heap.size w wc))
 case first =>
  have H := HC4.out
  clear HC4
  by_cases c8 : t607 = 0
  ·rw [if_pos c8] at H
   obtain ⟨c8b0, c8b1⟩ := zT1 c8
   clear c8
   (first | rw [c8b0] | (simp only [i64_w, i32_w]; rw [c8b0]) | skip)
   have H' := zA H
   clear H
   go_wp2
   go_meet
   case rel => exact ⟨_, (((l1.length : Int) == 0)), zs, H', ⟨by first | omega | exact Nat.le_refl _⟩, ⟨zR BK606.out⟩, ⟨zT HB.out GE606.out⟩⟩
  rw [if_neg c8] at H
  obtain ⟨c8b0, c8b1⟩ := zT2 c8
  (first | rw [c8b0] | (simp only [i64_w, i32_w]; rw [c8b0]) | skip)
  have H' := zA H
  clear H
  go_wp2
  go_meet
  case rel => exact ⟨_, (false), zs, H', ⟨by first | omega | exact Nat.le_refl _⟩, ⟨zR BK606.out⟩, ⟨zT HB.out GE606.out⟩⟩
 case rest =>
  clear HC4
  try clear c1
  try clear c2
  try clear c5
  try clear c8
  try clear hcz6_0
  try clear hcz6_1
  try clear hfz6_0
  try clear hfz6_1
  obtain ⟨kq, x20_3, rfl, HA, HJ3, BK606, HB⟩ := hcut
  cases kq with
  | zero => exact absurd HA.out (by simp [spec_RootOf.j0])
  | succ kj3 =>
   have H := HA.out
   clear HA
   simp only [spec_RootOf.j0] at H
   by_cases c9 : x20_3 = true
   ·subst c9
    rw [if_pos rfl] at H
    simp only [Option.some.injEq, Prod.mk.injEq] at H
    obtain ⟨rfl, rfl, rfl⟩ := H
    go_wp2
    go_ret3
    exact ⟨_, zr, zn, zT HB.out GE606.out⟩
   replace c9 := Bool.eq_false_iff.mpr c9
   subst c9
   rw [if_neg (show ¬ (false = true) by decide)] at H
   by_cases c10 : t607 = 0
   ·rw [if_pos c10] at H
    obtain ⟨c10b0, c10b1⟩ := zT1 c10
    clear c10
    obtain ⟨⟨t608, t611⟩, A11, H⟩ := zb H
    try dsimp only at H
    simp only [Option.some.injEq, Prod.mk.injEq] at H
    obtain ⟨rfl, rfl, rfl⟩ := H
    obtain ⟨hcz12_0, hcz12_1, hfz12_0, hfz12_1⟩ := zB3 BK606.out
    go_wp2_with (first | (refine zO (some 27) Tryd.func71 #[.agg #[.int .i64 a0_0, .slice A0_1 l0_1.length c0_1], .slice A1 l1.length c1] ?_; (with_reducible refine (spec_l07Root.calls kj3 a0_0 _ _ l0_1 _ _ l1 t608 t611 _ ?side1 ?side2 ?side3 ?side4 A11.out).mono ?_); (case side1 => exact zS (kO HR0_1.out HB.out)); (case side2 => exact HC0_1.out); (case side3 => exact zS (kO HR1.out HB.out)); (case side4 => exact HC1.out); rintro e w13 ⟨v609, rfl, ho0, hb⟩; refine ⟨_, rfl, ?_⟩; have HO610 := zA (kI ho0 (kP (zT HB.out GE606.out))); replace BK606 := zA (zB1 BK606.out hb); replace HB := zA (kQ (zT HB.out GE606.out) hb); (try clear hb); (try clear ho0)))
    go_ret3
    exact ⟨_, zr, zP HO610.out, zT HB.out GE606.out⟩
   rw [if_neg c10] at H
   obtain ⟨c10b0, c10b1⟩ := zT2 c10
   simp only [Option.some.injEq, Prod.mk.injEq] at H
   obtain ⟨rfl, rfl, rfl⟩ := H
   go_wp2
   go_ret3
   exact ⟨_, zr, zn, zT HB.out GE606.out⟩

/-! ### impl_RootOf: function 30 -/
def impl_RootOf.f (k : Nat) (a0_0 : Int) (l0_1 : List Int) (l1 : List Int) : Option (List Int × Int × Int) := (impl_checkWords.f k a0_0 l0_1 (([l1] : List (List Int)))).bind fun t616 => (if t616 = 0 then (if (l1.length : Int) = 0 then (some (([] : List Int), 0, 5)) else ((impl_Alphabet_ties.f a0_0 l0_1).bind fun t617 => ((impl_ties_root.f k t617 l1).bind fun bt620 => (some (bt620.1, bt620.2, 0))))) else (some (([] : List Int), 0, t616)))

set_option maxHeartbeats 8000000 in
set_option maxRecDepth 100000 in
theorem impl_RootOf.calls (k : Nat) (a0_0 : Int) (P0_1_ : Nat → Prop) (A0_1 : Option Addr) (c0_1 : Nat) (l0_1 : List Int) (P1_ : Nat → Prop) (A1 : Option Addr) (c1 : Nat) (l1 : List Int) (r1 : List Int) (r2 : Int) (r3 : Int) (w : World) (hs0_1 : Kd.V (Kd.int .i64) 2 w w.heap.size (fun k_ => P0_1_ k_) (.slice A0_1 l0_1.length c0_1) l0_1) (hs1 : Kd.V (Kd.int .i64) 2 w w.heap.size (fun k_ => P1_ k_) (.slice A1 l1.length c1) l1) (hT : TabW w) (h : impl_RootOf.f k a0_0 l0_1 l1 = some (r1, r2, r3)) :
  Calls Tryd.prog 30 #[.agg #[.int .i64 a0_0, .slice A0_1 l0_1.length c0_1], .slice A1 l1.length c1] w fun e w' => ∃ v0_ : Value, e = .returned (.tuple #[v0_, .int .i64 r2, .int .i64 r3]) ∧ Kd.R (Kd.int .i64) 2 w' w.heap.size (fun k_ => (w.heap.size ≤ k_)) v0_ r1 ∧ Below w.heap.size w w' := by
 have hu28 := Tryd.underlying28
 have HT := zA hT
 clear hT
 have HO0_1 := zA (show Kd.V (Kd.int .i64) 2 w w.heap.size (fun k_ => ((P0_1_ k_ ∨ P1_ k_) ∨ w.heap.size ≤ k_)) (.slice A0_1 l0_1.length c0_1) l0_1 from kN hs0_1 (fun k_ hk => .inl (.inl hk)))
 have HO1 := zA (show Kd.V (Kd.int .i64) 2 w w.heap.size (fun k_ => ((P0_1_ k_ ∨ P1_ k_) ∨ w.heap.size ≤ k_)) (.slice A1 l1.length c1) l1 from kN hs1 (fun k_ hk => .inl (.inr hk)))
 have HB := zA (kW w.heap.size w)
 have H := h
 unfold impl_RootOf.f at H
 clear h
 obtain ⟨y613, hy613⟩ : ∃ y_ : List (List Int), y_ = (([l1] : List (List Int))) := ⟨_, rfl⟩
 replace H : ((impl_checkWords.f k a0_0 l0_1 y613).bind fun t616 => (if t616 = 0 then (if (l1.length : Int) = 0 then (some (([] : List Int), 0, 5)) else ((impl_Alphabet_ties.f a0_0 l0_1).bind fun t617 => ((impl_ties_root.f k t617 l1).bind fun bt620 => (some (bt620.1, bt620.2, 0))))) else (some (([] : List Int), 0, t616)))) = some (r1, r2, r3) := zy hy613 H
 have Ny613 := zA hy613
 clear hy613
 obtain ⟨t616, A3, H⟩ := zb H
 try dsimp only at H
 by_cases c4 : t616 = 0
 ·rw [if_pos c4] at H
  obtain ⟨c4b0, c4b1⟩ := zT1 c4
  clear c4
  by_cases c5 : (l1.length : Int) = 0
  ·rw [if_pos c5] at H
   obtain ⟨c5b0, c5b1⟩ := zT1 c5
   clear c5
   simp only [Option.some.injEq, Prod.mk.injEq] at H
   obtain ⟨rfl, rfl, rfl⟩ := H
   go_enter Tryd.func30, Tryd.ntmps30
   go_wp2_with (first | (refine zBE 2 #[.int .i64 a0_0, .slice A0_1 l0_1.length c0_1] 28 ?_; intro gb612 hg w6 hbox hb; replace HO0_1 := zA (kG (jD (zPV HO0_1.out) gb612 (Nat.le_of_eq hg.symm)) hb); replace HO1 := zA (kG (jD (zPV HO1.out) gb612 (Nat.le_of_eq hg.symm)) hb); have BK612 := zA (hbox); have GW612 := zA (zBH hg HB.out); have GE612 := zA (zBH hg HB.out); replace HB := zA (kQ (zQ HB.out) hb); clear hb hbox hg; obtain ⟨hcz7_0, hcz7_1, hfz7_0, hfz7_1⟩ := zB3 BK612.out) | ((with_reducible refine kS (N := 12) rfl ?_); refine Kd.N_lit (Kd.slice 2 (Kd.int .i64)) _ 22 ?hg (N' := 12) ?hd (xs := ([l1] : List (List Int))) (inner := [.slice A1 l1.length c1]) (ok := (fun k_ => ((P0_1_ k_ ∨ P1_ k_) ∨ w.heap.size ≤ k_) ∧ k_ ≠ gb612)) (okp := (fun k_ => ((P0_1_ k_ ∨ P1_ k_) ∨ w.heap.size ≤ k_) ∧ k_ ≠ gb612)) ?hr ?hp (fun _ hk => hk) ((show ∀ k_ : Nat, (_ : Nat) ≤ k_ → (fun k_ => ((P0_1_ k_ ∨ P1_ k_) ∨ w.heap.size ≤ k_) ∧ k_ ≠ gb612) k_ from fun k_ hk => ⟨(.inr (Nat.le_trans (kP (zT HB.out GE612.out)) hk)), jE (g := gb612) (o := .cells #[.int .i64 a0_0, .slice A0_1 l0_1.length c0_1] 28 (0, 0)) (zR BK612.out) k_ hk⟩) _ (Nat.le_refl _)) (kW _ _) (Nat.le_refl _) (by simp) ?_; (case hd => rfl); (case hg => rfl); (case hr => first | (go_simp; done) | (go_simp; rfl)); (case hp => exact (Reps.one (show Kd.FK (Kd.slice 2 (Kd.int .i64)) _ _ l1 [.slice A1 l1.length c1] from (zFK (kN (ok' := (fun k_ => ((P0_1_ k_ ∨ P1_ k_) ∨ w.heap.size ≤ k_) ∧ k_ ≠ gb612)) (HO1.out) (fun k_ hk => ⟨hk.1, hk.2⟩)))) (Reps.none _ _))); intro v614 w8 ho9 hb hg_ hnew_; clear hg_ hnew_; (first | rw [← Ny613.out] at ho9 | (simp only [Int.reduceToNat] at ho9; rw [← Ny613.out] at ho9)); replace HO0_1 := zA (kK (zPV HO0_1.out) (Kd.N_base ho9) hb); replace HO1 := zA (kK (zPV HO1.out) (Kd.N_base ho9) hb); have HO615 := zA (jN ho9 (kP (zT HB.out GE612.out))); replace BK612 := zA (zB1 BK612.out hb); replace HB := zA (kQ (zT HB.out GE612.out) hb); clear hb ho9; obtain ⟨Ao10, co10, eo10⟩ := Kd.N_slice HO615.out; subst eo10) | (refine zO (some 13) Tryd.func57 #[.agg #[.int .i64 a0_0, .slice A0_1 l0_1.length c0_1], .slice Ao10 y613.length co10] ?_; (with_reducible refine (impl_checkWords.calls k a0_0 _ _ l0_1 _ _ y613 t616 _ ?side1 ?side2 ?side3 ?side4 ?side5 A3.out).mono ?_); (case side1 => exact zS (kJ HO0_1.out).2.2); (case side2 => exact (kJ HO0_1.out).2.1); (case side3 => exact zS (Kd.N_reads' HO615.out).2.2); (case side4 => exact (Kd.N_reads' HO615.out).2.1); (case side5 => exact TabW.below HT.out (zT HB.out GE612.out)); rintro e w11 ⟨rfl, hb⟩; refine ⟨_, rfl, ?_⟩; replace HO0_1 := zA (kG (zPV HO0_1.out) hb); replace HO1 := zA (kG (zPV HO1.out) hb); replace HO615 := zA (kZ (zPN HO615.out) hb); replace BK612 := zA (zB1 BK612.out hb); replace HB := zA (kQ (zT HB.out GE612.out) hb); (try clear hb)))
   go_ret3
   exact ⟨_, zr, zn, zT HB.out GE612.out⟩
  rw [if_neg c5] at H
  obtain ⟨c5b0, c5b1⟩ := zT2 c5
  have c5b2 : ¬ (l1 = []) := fun h_ => c5 (by rw [h_]; rfl)
  obtain ⟨t617, A12, H⟩ := zb H
  try dsimp only at H
  obtain ⟨⟨t620, t621⟩, A13, H⟩ := zb H
  try dsimp only at H
  simp only [Option.some.injEq, Prod.mk.injEq] at H
  obtain ⟨rfl, rfl, rfl⟩ := H
  go_enter Tryd.func30, Tryd.ntmps30
  go_wp2_with (first | (refine zBE 2 #[.int .i64 a0_0, .slice A0_1 l0_1.length c0_1] 28 ?_; intro gb612 hg w14 hbox hb; replace HO0_1 := zA (kG (jD (zPV HO0_1.out) gb612 (Nat.le_of_eq hg.symm)) hb); replace HO1 := zA (kG (jD (zPV HO1.out) gb612 (Nat.le_of_eq hg.symm)) hb); have BK612 := zA (hbox); have GW612 := zA (zBH hg HB.out); have GE612 := zA (zBH hg HB.out); replace HB := zA (kQ (zQ HB.out) hb); clear hb hbox hg; obtain ⟨hcz15_0, hcz15_1, hfz15_0, hfz15_1⟩ := zB3 BK612.out) | ((with_reducible refine kS (N := 12) rfl ?_); refine Kd.N_lit (Kd.slice 2 (Kd.int .i64)) _ 22 ?hg (N' := 12) ?hd (xs := ([l1] : List (List Int))) (inner := [.slice A1 l1.length c1]) (ok := (fun k_ => ((P0_1_ k_ ∨ P1_ k_) ∨ w.heap.size ≤ k_) ∧ k_ ≠ gb612)) (okp := (fun k_ => ((P0_1_ k_ ∨ P1_ k_) ∨ w.heap.size ≤ k_) ∧ k_ ≠ gb612)) ?hr ?hp (fun _ hk => hk) ((show ∀ k_ : Nat, (_ : Nat) ≤ k_ → (fun k_ => ((P0_1_ k_ ∨ P1_ k_) ∨ w.heap.size ≤ k_) ∧ k_ ≠ gb612) k_ from fun k_ hk => ⟨(.inr (Nat.le_trans (kP (zT HB.out GE612.out)) hk)), jE (g := gb612) (o := .cells #[.int .i64 a0_0, .slice A0_1 l0_1.length c0_1] 28 (0, 0)) (zR BK612.out) k_ hk⟩) _ (Nat.le_refl _)) (kW _ _) (Nat.le_refl _) (by simp) ?_; (case hd => rfl); (case hg => rfl); (case hr => first | (go_simp; done) | (go_simp; rfl)); (case hp => exact (Reps.one (show Kd.FK (Kd.slice 2 (Kd.int .i64)) _ _ l1 [.slice A1 l1.length c1] from (zFK (kN (ok' := (fun k_ => ((P0_1_ k_ ∨ P1_ k_) ∨ w.heap.size ≤ k_) ∧ k_ ≠ gb612)) (HO1.out) (fun k_ hk => ⟨hk.1, hk.2⟩)))) (Reps.none _ _))); intro v614 w16 ho17 hb hg_ hnew_; clear hg_ hnew_; (first | rw [← Ny613.out] at ho17 | (simp only [Int.reduceToNat] at ho17; rw [← Ny613.out] at ho17)); replace HO0_1 := zA (kK (zPV HO0_1.out) (Kd.N_base ho17) hb); replace HO1 := zA (kK (zPV HO1.out) (Kd.N_base ho17) hb); have HO615 := zA (jN ho17 (kP (zT HB.out GE612.out))); replace BK612 := zA (zB1 BK612.out hb); replace HB := zA (kQ (zT HB.out GE612.out) hb); clear hb ho17; obtain ⟨Ao18, co18, eo18⟩ := Kd.N_slice HO615.out; subst eo18) | (refine zO (some 13) Tryd.func57 #[.agg #[.int .i64 a0_0, .slice A0_1 l0_1.length c0_1], .slice Ao18 y613.length co18] ?_; (with_reducible refine (impl_checkWords.calls k a0_0 _ _ l0_1 _ _ y613 t616 _ ?side1 ?side2 ?side3 ?side4 ?side5 A3.out).mono ?_); (case side1 => exact zS (kJ HO0_1.out).2.2); (case side2 => exact (kJ HO0_1.out).2.1); (case side3 => exact zS (Kd.N_reads' HO615.out).2.2); (case side4 => exact (Kd.N_reads' HO615.out).2.1); (case side5 => exact TabW.below HT.out (zT HB.out GE612.out)); rintro e w19 ⟨rfl, hb⟩; refine ⟨_, rfl, ?_⟩; replace HO0_1 := zA (kG (zPV HO0_1.out) hb); replace HO1 := zA (kG (zPV HO1.out) hb); replace HO615 := zA (kZ (zPN HO615.out) hb); replace BK612 := zA (zB1 BK612.out hb); replace HB := zA (kQ (zT HB.out GE612.out) hb); (try clear hb); obtain ⟨hcz20_0, hcz20_1, hfz20_0, hfz20_1⟩ := zB3 BK612.out) | (refine zO (some 22) Tryd.func59 #[.agg #[.int .i64 a0_0, .slice A0_1 l0_1.length c0_1]] ?_; (with_reducible refine (impl_Alphabet_ties.calls a0_0 (fun k_ => ((((P0_1_ k_ ∨ P1_ k_) ∨ w.heap.size ≤ k_) ∧ k_ ≠ gb612) ∧ some k_ ≠ (.slice Ao18 y613.length co18 : Value).ownBlock)) _ _ l0_1 t617 _ ?side1 A12.out).mono ?_); (case side1 => exact HO0_1.out); rintro e w21 ⟨v618, rfl, ho0, hb⟩; refine ⟨_, rfl, ?_⟩; replace HO0_1 := zA (kG (zPV HO0_1.out) hb); replace HO1 := zA (kG (zPV HO1.out) hb); have HO619 := zA (jM (kN (ok' := fun k_ => ((P0_1_ k_ ∨ P1_ k_) ∨ w.heap.size ≤ k_) ∧ some k_ ≠ (.slice Ao18 y613.length co18 : Value).ownBlock ∧ k_ ≠ gb612) ho0 (fun k_ hk_ => ⟨Or.elim hk_ (fun hs_ => hs_.1.1) (fun hn_ => (.inr (Nat.le_trans (kP (zT HB.out GE612.out)) hn_))), Or.elim hk_ (fun hs_ => hs_.2) (fun hn_ => (jF (jA (zPN HO615.out)) k_ hn_)), Or.elim hk_ (fun hs_ => hs_.1.2) (fun hn_ => (jE (g := gb612) (o := .cells #[.int .i64 a0_0, .slice A0_1 l0_1.length c0_1] 28 (0, 0)) (zR BK612.out) k_ hn_))⟩)) (kP (zT HB.out GE612.out))); replace HO615 := zA (kZ (zPN HO615.out) hb); replace BK612 := zA (zB1 BK612.out hb); replace HB := zA (kQ (zT HB.out GE612.out) hb); (try clear hb); (try clear ho0); obtain ⟨Ao22, co22, eo22⟩ := Kd.V_slice HO619.out; subst eo22) | (refine zO (some 24) Tryd.func72 #[.slice Ao22 t617.length co22, .slice A1 l1.length c1] ?_; (with_reducible refine (impl_ties_root.calls k _ _ t617 _ _ l1 t620 t621 _ ?side1 ?side2 ?side3 ?side4 ?side5 A13.out).mono ?_); (case side1 => exact zS (kJ HO619.out).2.2); (case side2 => exact (kJ HO619.out).2.1); (case side3 => exact zS (kJ HO1.out).2.2); (case side4 => exact (kJ HO1.out).2.1); (case side5 => exact TabW.below HT.out (zT HB.out GE612.out)); rintro e w23 ⟨v622, rfl, ho0, hb⟩; refine ⟨_, rfl, ?_⟩; replace HO0_1 := zA (kK (zPV HO0_1.out) (kC ho0) hb); replace HO1 := zA (kK (zPV HO1.out) (kC ho0) hb); replace HO615 := zA (Kd.N_elder' (zPN HO615.out) (kC ho0) hb); replace HO619 := zA (kK (zPV HO619.out) (kC ho0) hb); have HO623 := zA (kI (Kd.R_newM (M := fun k_ => (w.heap.size ≤ k_)) ho0 (kP (zT HB.out GE612.out)) (fun k_ h_ => h_)) (kP (zT HB.out GE612.out))); replace BK612 := zA (zB1 BK612.out hb); replace HB := zA (kQ (zT HB.out GE612.out) hb); (try clear hb); (try clear ho0)))
  go_ret3
  exact ⟨_, zr, by (with_reducible repeat (first | apply zF | apply zG | apply zH)); exact kA HO623.out (fun _ hk => hk.1), zT HB.out GE612.out⟩
 rw [if_neg c4] at H
 obtain ⟨c4b0, c4b1⟩ := zT2 c4
 simp only [Option.some.injEq, Prod.mk.injEq] at H
 obtain ⟨rfl, rfl, rfl⟩ := H
 go_enter Tryd.func30, Tryd.ntmps30
 go_wp2_with (first | (refine zBE 2 #[.int .i64 a0_0, .slice A0_1 l0_1.length c0_1] 28 ?_; intro gb612 hg w24 hbox hb; replace HO0_1 := zA (kG (jD (zPV HO0_1.out) gb612 (Nat.le_of_eq hg.symm)) hb); replace HO1 := zA (kG (jD (zPV HO1.out) gb612 (Nat.le_of_eq hg.symm)) hb); have BK612 := zA (hbox); have GW612 := zA (zBH hg HB.out); have GE612 := zA (zBH hg HB.out); replace HB := zA (kQ (zQ HB.out) hb); clear hb hbox hg; obtain ⟨hcz25_0, hcz25_1, hfz25_0, hfz25_1⟩ := zB3 BK612.out) | ((with_reducible refine kS (N := 12) rfl ?_); refine Kd.N_lit (Kd.slice 2 (Kd.int .i64)) _ 22 ?hg (N' := 12) ?hd (xs := ([l1] : List (List Int))) (inner := [.slice A1 l1.length c1]) (ok := (fun k_ => ((P0_1_ k_ ∨ P1_ k_) ∨ w.heap.size ≤ k_) ∧ k_ ≠ gb612)) (okp := (fun k_ => ((P0_1_ k_ ∨ P1_ k_) ∨ w.heap.size ≤ k_) ∧ k_ ≠ gb612)) ?hr ?hp (fun _ hk => hk) ((show ∀ k_ : Nat, (_ : Nat) ≤ k_ → (fun k_ => ((P0_1_ k_ ∨ P1_ k_) ∨ w.heap.size ≤ k_) ∧ k_ ≠ gb612) k_ from fun k_ hk => ⟨(.inr (Nat.le_trans (kP (zT HB.out GE612.out)) hk)), jE (g := gb612) (o := .cells #[.int .i64 a0_0, .slice A0_1 l0_1.length c0_1] 28 (0, 0)) (zR BK612.out) k_ hk⟩) _ (Nat.le_refl _)) (kW _ _) (Nat.le_refl _) (by simp) ?_; (case hd => rfl); (case hg => rfl); (case hr => first | (go_simp; done) | (go_simp; rfl)); (case hp => exact (Reps.one (show Kd.FK (Kd.slice 2 (Kd.int .i64)) _ _ l1 [.slice A1 l1.length c1] from (zFK (kN (ok' := (fun k_ => ((P0_1_ k_ ∨ P1_ k_) ∨ w.heap.size ≤ k_) ∧ k_ ≠ gb612)) (HO1.out) (fun k_ hk => ⟨hk.1, hk.2⟩)))) (Reps.none _ _))); intro v614 w26 ho27 hb hg_ hnew_; clear hg_ hnew_; (first | rw [← Ny613.out] at ho27 | (simp only [Int.reduceToNat] at ho27; rw [← Ny613.out] at ho27)); replace HO0_1 := zA (kK (zPV HO0_1.out) (Kd.N_base ho27) hb); replace HO1 := zA (kK (zPV HO1.out) (Kd.N_base ho27) hb); have HO615 := zA (jN ho27 (kP (zT HB.out GE612.out))); replace BK612 := zA (zB1 BK612.out hb); replace HB := zA (kQ (zT HB.out GE612.out) hb); clear hb ho27; obtain ⟨Ao28, co28, eo28⟩ := Kd.N_slice HO615.out; subst eo28) | (refine zO (some 13) Tryd.func57 #[.agg #[.int .i64 a0_0, .slice A0_1 l0_1.length c0_1], .slice Ao28 y613.length co28] ?_; (with_reducible refine (impl_checkWords.calls k a0_0 _ _ l0_1 _ _ y613 t616 _ ?side1 ?side2 ?side3 ?side4 ?side5 A3.out).mono ?_); (case side1 => exact zS (kJ HO0_1.out).2.2); (case side2 => exact (kJ HO0_1.out).2.1); (case side3 => exact zS (Kd.N_reads' HO615.out).2.2); (case side4 => exact (Kd.N_reads' HO615.out).2.1); (case side5 => exact TabW.below HT.out (zT HB.out GE612.out)); rintro e w29 ⟨rfl, hb⟩; refine ⟨_, rfl, ?_⟩; replace HO0_1 := zA (kG (zPV HO0_1.out) hb); replace HO1 := zA (kG (zPV HO1.out) hb); replace HO615 := zA (kZ (zPN HO615.out) hb); replace BK612 := zA (zB1 BK612.out hb); replace HB := zA (kQ (zT HB.out GE612.out) hb); (try clear hb)))
 go_ret3
 exact ⟨_, zr, zn, zT HB.out GE612.out⟩

/-! ### laws_FnExactRootOf: function 6 -/
def laws_eqInt64S_BFnExactRootOf.f (k : Nat) (l0 : List Int) (l1 : List Int) : Option (Bool) := laws_eqInt64S.f k l0 l1
theorem laws_eqInt64S_BFnExactRootOf.calls (k : Nat) (A0 : Option Addr) (c0 : Nat) (l0 : List Int) (A1 : Option Addr) (c1 : Nat) (l1 : List Int) (r : Bool) (w : World) (hr0 : Kd.C (Kd.int .i64) w A0 l0.length l0) (hc0 : l0.length ≤ c0) (hr1 : Kd.C (Kd.int .i64) w A1 l1.length l1) (hc1 : l1.length ≤ c1) (h : laws_eqInt64S_BFnExactRootOf.f k l0 l1 = some r) :
 Calls Tryd.prog 20 #[.slice A0 l0.length c0, .slice A1 l1.length c1] w fun e w' => e = .returned (.bool r) ∧ Below w.heap.size w w' := by
 refine (laws_eqInt64S.calls k A0 c0 l0 A1 c1 l1 r w hr0 hc0 hr1 hc1 h).mono ?_
 rintro e w' ⟨h1, h2⟩
 exact ⟨h1, Drawn0.below h2⟩
def laws_FnExactRootOf.f (k : Nat) (a0_0 : Int) (l0_1 : List Int) (l1 : List Int) : Option (Bool) := if (l1.length : Int) > 1048576 then (some true) else ((laws_szAlphabet.f a0_0 l0_1 1048576).bind fun t625 => (if t625 < 0 then (some true) else ((laws_toAlphabet.f k a0_0 l0_1).bind fun bt626 => ((laws_toInt64S.f k l1).bind fun t630 => ((spec_RootOf.f k bt626.1 bt626.2 t630).bind fun bt633 => ((laws_toAlphabet.f k a0_0 l0_1).bind fun bt638 => ((laws_toInt64S.f k l1).bind fun t643 => ((impl_RootOf.f k bt638.1 bt638.2 t643).bind fun bt646 => ((laws_eqInt64S_BFnExactRootOf.f k bt646.1 bt633.1).bind fun t651 => (if t651 = true then (if bt646.2.1 = bt633.2.1 then (if bt646.2.2 = bt633.2.2 then ((laws_toAlphabet.f k a0_0 l0_1).bind fun bt652 => ((laws_eqAlphabet.f k bt638.1 bt638.2 bt652.1 bt652.2).bind fun t656 => (if t656 = true then ((laws_toInt64S.f k l1).bind fun t657 => ((laws_eqInt64S_BFnExactRootOf.f k t643 t657).bind fun t660 => (if t660 = true then ((laws_markAlphabet.f k bt638.1 bt638.2 1).bind fun bt661 => ((laws_markInt64S.f k t643 bt661.1).bind fun bt663 => (if bt663.1 < 0 then (none) else ((laws_eqInt64S_BFnExactRootOf.f k bt646.1 bt633.1).bind fun t665 => (if t665 = true then ((laws_markInt64S.f k bt646.1 1).bind fun bt666 => ((laws_heldInt64S.f k bt666.2 1).bind fun t668 => (if t668 < 0 then (none) else (if t668 = bt666.1 then ((laws_toAlphabet.f k a0_0 l0_1).bind fun bt669 => ((laws_toInt64S.f k l1).bind fun t673 => ((impl_RootOf.f k bt669.1 bt669.2 t673).bind fun bt676 => ((laws_eqInt64S_BFnExactRootOf.f k bt676.1 bt633.1).bind fun t681 => (if t681 = true then (if bt676.2.1 = bt633.2.1 then (if bt676.2.2 = bt633.2.2 then ((laws_heldInt64S.f k bt666.2 1).bind fun t682 => (if t682 < 0 then (none) else (if t682 = bt666.1 then (some true) else (none)))) else (none)) else (none)) else (none)))))) else (none))))) else (none)))))) else (none)))) else (none)))) else (none)) else (none)) else (none)))))))))))

set_option maxHeartbeats 8000000 in
set_option maxRecDepth 100000 in
theorem laws_FnExactRootOf.calls (k : Nat) (a0_0 : Int) (A0_1 : Option Addr) (c0_1 : Nat) (l0_1 : List Int) (A1 : Option Addr) (c1 : Nat) (l1 : List Int) (r : Bool) (w : World) (hr0_1 : Kd.C (Kd.int .i64) w A0_1 l0_1.length l0_1) (hc0_1 : l0_1.length ≤ c0_1) (hr1 : Kd.C (Kd.int .i64) w A1 l1.length l1) (hc1 : l1.length ≤ c1) (hT : TabW w) (h : laws_FnExactRootOf.f k a0_0 l0_1 l1 = some r) :
  Calls Tryd.prog 6 #[.agg #[.int .i64 a0_0, .slice A0_1 l0_1.length c0_1], .slice A1 l1.length c1] w fun e w' => e = .returned (.bool r) ∧ Below w.heap.size w w' := by
 have hu24 := Tryd.underlying24
 have hu28 := Tryd.underlying28
 have HT := zA hT
 clear hT
 have HR0_1 := zA hr0_1
 have HC0_1 := zA hc0_1
 clear hr0_1 hc0_1
 have HR1 := zA hr1
 have HC1 := zA hc1
 clear hr1 hc1
 have HB := zA (kW w.heap.size w)
 have H := h
 unfold laws_FnExactRootOf.f at H
 clear h
 by_cases c3 : (l1.length : Int) > 1048576
 ·rw [if_pos c3] at H
  have c3b0 : decide (1048576 < (l1.length : Int)) = true := decide_eq_true c3
  have c3b1 : decide (1048576 < l1.length) = true := decide_eq_true (by omega)
  clear c3
  obtain rfl := Option.some.inj H
  go_enter Tryd.func6, Tryd.ntmps6
  go_wp2_with (first | (refine zBE 2 #[.int .i64 a0_0, .slice A0_1 l0_1.length c0_1] 24 ?_; intro gb624 hg w4 hbox hb; have BK624 := zA (hbox); have GW624 := zA (zBH hg HB.out); have GE624 := zA (zBH hg HB.out); replace HB := zA (kQ (zQ HB.out) hb); clear hb hbox hg))
  go_ret
  exact ⟨zr, zT HB.out GE624.out⟩
 rw [if_neg c3] at H
 have c3b0 : decide (1048576 < (l1.length : Int)) = false := decide_eq_false c3
 have c3b1 : decide (1048576 < l1.length) = false := decide_eq_false (by omega)
 clear c3
 obtain ⟨t625, A5, H⟩ := zb H
 try dsimp only at H
 by_cases c6 : t625 < 0
 ·rw [if_pos c6] at H
  have c6b0 : decide (t625 < 0) = true := decide_eq_true c6
  clear c6
  obtain rfl := Option.some.inj H
  go_enter Tryd.func6, Tryd.ntmps6
  go_wp2_with (first | (refine zBE 2 #[.int .i64 a0_0, .slice A0_1 l0_1.length c0_1] 24 ?_; intro gb624 hg w7 hbox hb; have BK624 := zA (hbox); have GW624 := zA (zBH hg HB.out); have GE624 := zA (zBH hg HB.out); replace HB := zA (kQ (zQ HB.out) hb); clear hb hbox hg; obtain ⟨hcz8_0, hcz8_1, hfz8_0, hfz8_1⟩ := zB3 BK624.out) | (refine zO (some 25) Tryd.func15 #[.agg #[.int .i64 a0_0, .slice A0_1 l0_1.length c0_1], .int .i64 1048576] ?_; (with_reducible refine (laws_szAlphabet.calls a0_0 _ _ l0_1 1048576 t625 _ ?side1 ?side2 A5.out).mono ?_); (case side1 => exact zS (kO HR0_1.out HB.out)); (case side2 => exact HC0_1.out); rintro e w9 ⟨rfl, hb⟩; refine ⟨_, rfl, ?_⟩; replace BK624 := zA (zB1 BK624.out hb); replace HB := zA (kQ (zT HB.out GE624.out) hb); (try clear hb)))
  go_ret
  exact ⟨zr, zT HB.out GE624.out⟩
 rw [if_neg c6] at H
 have c6b0 : decide (t625 < 0) = false := decide_eq_false c6
 clear c6
 obtain ⟨⟨t626, t627⟩, A10, H⟩ := zb H
 try dsimp only at H
 obtain ⟨t630, A11, H⟩ := zb H
 try dsimp only at H
 obtain ⟨⟨t633, t636, t637⟩, A12, H⟩ := zb H
 try dsimp only at H
 obtain ⟨⟨t638, t639⟩, A13, H⟩ := zb H
 try dsimp only at H
 obtain ⟨t643, A14, H⟩ := zb H
 try dsimp only at H
 obtain ⟨⟨t646, t649, t650⟩, A15, H⟩ := zb H
 try dsimp only at H
 obtain ⟨t651, A16, H⟩ := zb H
 try dsimp only at H
 by_cases c17 : t651 = true
 ·subst c17
  rw [if_pos rfl] at H
  by_cases c18 : t649 = t636
  ·rw [if_pos c18] at H
   obtain ⟨c18b0, c18b1⟩ := zT1 c18
   clear c18
   by_cases c19 : t650 = t637
   ·rw [if_pos c19] at H
    obtain ⟨c19b0, c19b1⟩ := zT1 c19
    clear c19
    obtain ⟨⟨t652, t653⟩, A20, H⟩ := zb H
    try dsimp only at H
    obtain ⟨t656, A21, H⟩ := zb H
    try dsimp only at H
    by_cases c22 : t656 = true
    ·subst c22
     rw [if_pos rfl] at H
     obtain ⟨t657, A23, H⟩ := zb H
     try dsimp only at H
     obtain ⟨t660, A24, H⟩ := zb H
     try dsimp only at H
     by_cases c25 : t660 = true
     ·subst c25
      rw [if_pos rfl] at H
      obtain ⟨⟨t661, t662⟩, A26, H⟩ := zb H
      try dsimp only at H
      obtain ⟨⟨t663, t664⟩, A27, H⟩ := zb H
      try dsimp only at H
      by_cases c28 : t663 < 0
      ·rw [if_pos c28] at H
       exact absurd H (by simp)
      rw [if_neg c28] at H
      have c28b0 : decide (t663 < 0) = false := decide_eq_false c28
      clear c28
      obtain ⟨t665, A29, H⟩ := zb H
      try dsimp only at H
      by_cases c30 : t665 = true
      ·subst c30
       rw [if_pos rfl] at H
       obtain ⟨⟨t666, t667⟩, A31, H⟩ := zb H
       try dsimp only at H
       obtain ⟨t668, A32, H⟩ := zb H
       try dsimp only at H
       by_cases c33 : t668 < 0
       ·rw [if_pos c33] at H
        exact absurd H (by simp)
       rw [if_neg c33] at H
       have c33b0 : decide (t668 < 0) = false := decide_eq_false c33
       clear c33
       by_cases c34 : t668 = t666
       ·rw [if_pos c34] at H
        obtain ⟨c34b0, c34b1⟩ := zT1 c34
        clear c34
        obtain ⟨⟨t669, t670⟩, A35, H⟩ := zb H
        try dsimp only at H
        obtain ⟨t673, A36, H⟩ := zb H
        try dsimp only at H
        obtain ⟨⟨t676, t679, t680⟩, A37, H⟩ := zb H
        try dsimp only at H
        obtain ⟨t681, A38, H⟩ := zb H
        try dsimp only at H
        by_cases c39 : t681 = true
        ·subst c39
         rw [if_pos rfl] at H
         by_cases c40 : t679 = t636
         ·rw [if_pos c40] at H
          obtain ⟨c40b0, c40b1⟩ := zT1 c40
          clear c40
          by_cases c41 : t680 = t637
          ·rw [if_pos c41] at H
           obtain ⟨c41b0, c41b1⟩ := zT1 c41
           clear c41
           obtain ⟨t682, A42, H⟩ := zb H
           try dsimp only at H
           by_cases c43 : t682 < 0
           ·rw [if_pos c43] at H
            exact absurd H (by simp)
           rw [if_neg c43] at H
           have c43b0 : decide (t682 < 0) = false := decide_eq_false c43
           clear c43
           by_cases c44 : t682 = t666
           ·rw [if_pos c44] at H
            obtain ⟨c44b0, c44b1⟩ := zT1 c44
            clear c44
            obtain rfl := Option.some.inj H
            go_enter Tryd.func6, Tryd.ntmps6
            try go_wp2_with (first | (refine zBE 2 #[.int .i64 a0_0, .slice A0_1 l0_1.length c0_1] 24 ?_; intro gb624 hg w45 hbox hb; have BK624 := zA (hbox); have GW624 := zA (zBH hg HB.out); have GE624 := zA (zBH hg HB.out); replace HB := zA (kQ (zQ HB.out) hb); clear hb hbox hg; obtain ⟨hcz46_0, hcz46_1, hfz46_0, hfz46_1⟩ := zB3 BK624.out) | (refine zO (some 25) Tryd.func15 #[.agg #[.int .i64 a0_0, .slice A0_1 l0_1.length c0_1], .int .i64 1048576] ?_; (with_reducible refine (laws_szAlphabet.calls a0_0 _ _ l0_1 1048576 t625 _ ?side1 ?side2 A5.out).mono ?_); (case side1 => exact zS (kO HR0_1.out HB.out)); (case side2 => exact HC0_1.out); rintro e w47 ⟨rfl, hb⟩; refine ⟨_, rfl, ?_⟩; replace BK624 := zA (zB1 BK624.out hb); replace HB := zA (kQ (zT HB.out GE624.out) hb); (try clear hb); obtain ⟨hcz48_0, hcz48_1, hfz48_0, hfz48_1⟩ := zB3 BK624.out) | (refine zO (some 30) Tryd.func17 #[.agg #[.int .i64 a0_0, .slice A0_1 l0_1.length c0_1]] ?_; (with_reducible refine (laws_toAlphabet.calls k a0_0 _ _ l0_1 t626 t627 _ ?side1 ?side2 A10.out).mono ?_); (case side1 => exact zS (kO HR0_1.out HB.out)); (case side2 => exact HC0_1.out); rintro e w49 ⟨v628, rfl, ho0, hb⟩; refine ⟨_, rfl, ?_⟩; have HO629 := zA (kI ho0 (kP (zT HB.out GE624.out))); replace BK624 := zA (zB1 BK624.out hb); replace HB := zA (kQ (zT HB.out GE624.out) hb); (try clear hb); (try clear ho0)) | (refine zO (some 32) Tryd.func18 #[.slice A1 l1.length c1] ?_; (with_reducible refine (laws_toInt64S.calls k _ _ l1 t630 _ ?side1 ?side2 A11.out).mono ?_); (case side1 => exact zS (kO HR1.out HB.out)); (case side2 => exact HC1.out); rintro e w50 ⟨v631, rfl, ho0, hb⟩; refine ⟨_, rfl, ?_⟩; have HO632 := zA (kI (kF ho0 (kH (zP HO629.out))) (kP (zT HB.out GE624.out))); replace HO629 := zA (kE (zP HO629.out) (kC ho0) hb); replace BK624 := zA (zB1 BK624.out hb); replace HB := zA (kQ (zT HB.out GE624.out) hb); (try clear hb); (try clear ho0); obtain ⟨Ao51, co51, eo51⟩ := kM HO629.out; subst eo51; obtain ⟨Ao52, co52, eo52⟩ := kM HO632.out; subst eo52) | (refine zO (some 33) Tryd.func29 #[.agg #[.int .i64 t626, .slice Ao51 t627.length co51], .slice Ao52 t630.length co52] ?_; (with_reducible refine (spec_RootOf.calls k t626 _ _ t627 _ _ t630 t633 t636 t637 _ ?side1 ?side2 ?side3 ?side4 A12.out).mono ?_); (case side1 => exact zS (kB HO629.out).2.2); (case side2 => exact (kB HO629.out).2.1); (case side3 => exact zS (kB HO632.out).2.2); (case side4 => exact (kB HO632.out).2.1); rintro e w53 ⟨v634, rfl, ho0, hb⟩; refine ⟨_, rfl, ?_⟩; have HO635 := zA (kI (kF (kF ho0 (kH (zP HO629.out))) (kH (zP HO632.out))) (kP (zT HB.out GE624.out))); replace HO629 := zA (kE (zP HO629.out) (kC ho0) hb); replace HO632 := zA (kE (zP HO632.out) (kC ho0) hb); replace BK624 := zA (zB1 BK624.out hb); replace HB := zA (kQ (zT HB.out GE624.out) hb); (try clear hb); (try clear ho0); obtain ⟨hcz54_0, hcz54_1, hfz54_0, hfz54_1⟩ := zB3 BK624.out) | (refine zO (some 38) Tryd.func17 #[.agg #[.int .i64 a0_0, .slice A0_1 l0_1.length c0_1]] ?_; (with_reducible refine (laws_toAlphabet.calls k a0_0 _ _ l0_1 t638 t639 _ ?side1 ?side2 A13.out).mono ?_); (case side1 => exact zS (kO HR0_1.out HB.out)); (case side2 => exact HC0_1.out); rintro e w55 ⟨v640, rfl, ho0, hb⟩; refine ⟨_, rfl, ?_⟩; have HO641 := zA (kI (kF (kF (kF ho0 (kH (zP HO629.out))) (kH (zP HO632.out))) (kH (zP HO635.out))) (kP (zT HB.out GE624.out))); replace HO629 := zA (kE (zP HO629.out) (kC ho0) hb); replace HO632 := zA (kE (zP HO632.out) (kC ho0) hb); replace HO635 := zA (kE (zP HO635.out) (kC ho0) hb); replace BK624 := zA (zB1 BK624.out hb); replace HB := zA (kQ (zT HB.out GE624.out) hb); (try clear hb); (try clear ho0)) | (refine zBE 9 #[.int .i64 0, .slice none 0 0] 28 ?_; intro gb642 hg w56 hbox hb; replace HO629 := zA (kL (zP HO629.out) hb); replace HO632 := zA (kL (zP HO632.out) hb); replace HO635 := zA (kL (zP HO635.out) hb); replace HO641 := zA (kL (zP HO641.out) hb); have BK642 := zA (hbox); have GW642 := zA (zB6 hg (kP (zT HB.out GE624.out)) : w.heap.size ≤ gb642); have GE642 := zA (zB6 hg (kP (zT HB.out GE624.out)) : w.heap.size ≤ gb642); replace HB := zA (kQ (zT HB.out GE624.out) hb); have NB624_642 := zA (zB4 hg BK624.out : gb624 ≠ gb642); have NB642_624 := zA (zB5 hg BK624.out : gb642 ≠ gb624); replace BK624 := zA (zB1 BK624.out hb); clear hb hbox hg; have hnb57 := NB642_624.out; have hnc57 := NB624_642.out; obtain ⟨hcz58_0, hcz58_1, hfz58_0, hfz58_1⟩ := zB3 BK642.out; obtain ⟨Ao59, co59, eo59⟩ := kM HO641.out; subst eo59) | (refine zO (some 40) Tryd.func18 #[.slice A1 l1.length c1] ?_; (with_reducible refine (laws_toInt64S.calls k _ _ l1 t643 _ ?side1 ?side2 A14.out).mono ?_); (case side1 => exact kO HR1.out (zV HB.out GE624.out GE642.out)); (case side2 => exact HC1.out); rintro e w60 ⟨v644, rfl, ho0, hb⟩; refine ⟨_, rfl, ?_⟩; have HO645 := zA (kI (kF (kF (kF (kF ho0 (kH (zP (zFG HO629.out BK642.out (.int .i64 t638) (.slice Ao59 t639.length co59))))) (kH (zP (zFG HO632.out BK642.out (.int .i64 t638) (.slice Ao59 t639.length co59))))) (kH (zP (zFG HO635.out BK642.out (.int .i64 t638) (.slice Ao59 t639.length co59))))) (kH (zP (zFG HO641.out BK642.out (.int .i64 t638) (.slice Ao59 t639.length co59))))) (kP (zV HB.out GE624.out GE642.out))); replace HO629 := zA (kE (zP (zFG HO629.out BK642.out (.int .i64 t638) (.slice Ao59 t639.length co59))) (kC ho0) hb); replace HO632 := zA (kE (zP (zFG HO632.out BK642.out (.int .i64 t638) (.slice Ao59 t639.length co59))) (kC ho0) hb); replace HO635 := zA (kE (zP (zFG HO635.out BK642.out (.int .i64 t638) (.slice Ao59 t639.length co59))) (kC ho0) hb); replace HO641 := zA (kE (zP (zFG HO641.out BK642.out (.int .i64 t638) (.slice Ao59 t639.length co59))) (kC ho0) hb); replace BK624 := zA (blk_below (g := gb624) (o := .cells #[.int .i64 a0_0, .slice A0_1 l0_1.length c0_1] 24 (0, 0)) (zBG BK624.out NB624_642.out NB624_642.out) hb); replace BK642 := zA (blk_below (g := gb642) (o := .cells #[.int .i64 t638, .slice Ao59 t639.length co59] 28 (0, 0)) (zRP BK642.out) hb); replace HB := zA (kQ (zV HB.out GE624.out GE642.out) hb); (try clear hb); (try clear ho0); obtain ⟨hcz61_0, hcz61_1, hfz61_0, hfz61_1⟩ := zB3 BK642.out; obtain ⟨Ao62, co62, eo62⟩ := kM HO645.out; subst eo62) | (refine zO (some 44) Tryd.func30 #[.agg #[.int .i64 t638, .slice Ao59 t639.length co59], .slice Ao62 t643.length co62] ?_; (with_reducible refine (impl_RootOf.calls k t638 (fun k_ => some k_ = (.slice Ao59 t639.length co59 : Value).ownBlock) _ _ t639 (fun k_ => some k_ = (.slice Ao62 t643.length co62 : Value).ownBlock) _ _ t643 t646 t649 t650 _ ?side1 ?side2 ?side3 A15.out).mono ?_); (case side1 => exact jL (jK rfl (kD (kD (HO641.out) BK624.out (by decide)) BK642.out (by decide)))); (case side2 => exact jL (jK rfl (kD (kD (HO645.out) BK624.out (by decide)) BK642.out (by decide)))); (case side3 => exact TabW.below HT.out (zV HB.out GE624.out GE642.out)); rintro e w63 ⟨v647, rfl, ho0, hb⟩; refine ⟨_, rfl, ?_⟩; have HO648 := zA (kI (kF (kF (kF (kF (kF (kA (ok' := fun k_ => True) ho0 (fun _ hk_ => trivial)) (kH (zP HO629.out))) (kH (zP HO632.out))) (kH (zP HO635.out))) (kH (zP HO641.out))) (kH (zP HO645.out))) (kP (zV HB.out GE624.out GE642.out))); replace HO629 := zA (kE (zP HO629.out) (kC ho0) hb); replace HO632 := zA (kE (zP HO632.out) (kC ho0) hb); replace HO635 := zA (kE (zP HO635.out) (kC ho0) hb); replace HO641 := zA (kE (zP HO641.out) (kC ho0) hb); replace HO645 := zA (kE (zP HO645.out) (kC ho0) hb); replace BK624 := zA (zB1 BK624.out hb); replace BK642 := zA (zB1 BK642.out hb); replace HB := zA (kQ (zV HB.out GE624.out GE642.out) hb); (try clear hb); (try clear ho0); obtain ⟨Ao64, co64, eo64⟩ := kM HO648.out; subst eo64; obtain ⟨Ao65, co65, eo65⟩ := kM HO635.out; subst eo65) | (refine zO (some 50) Tryd.func20 #[.slice Ao64 t646.length co64, .slice Ao65 t633.length co65] ?_; (with_reducible refine (laws_eqInt64S_BFnExactRootOf.calls k _ _ t646 _ _ t633 true _ ?side1 ?side2 ?side3 ?side4 A16.out).mono ?_); (case side1 => exact zS (kB HO648.out).2.2); (case side2 => exact (kB HO648.out).2.1); (case side3 => exact zS (kB HO635.out).2.2); (case side4 => exact (kB HO635.out).2.1); rintro e w66 ⟨rfl, hb⟩; refine ⟨_, rfl, ?_⟩; replace HO629 := zA (kL (zP HO629.out) hb); replace HO632 := zA (kL (zP HO632.out) hb); replace HO635 := zA (kL (zP HO635.out) hb); replace HO641 := zA (kL (zP HO641.out) hb); replace HO645 := zA (kL (zP HO645.out) hb); replace HO648 := zA (kL (zP HO648.out) hb); replace BK624 := zA (zB1 BK624.out hb); replace BK642 := zA (zB1 BK642.out hb); replace HB := zA (kQ (zV HB.out GE624.out GE642.out) hb); (try clear hb)))
            replace HO629 := zA (zH HO629.out)
            replace HO632 := zA (zH HO632.out)
            replace HO635 := zA (zH HO635.out)
            replace HO641 := zA (zH HO641.out)
            replace HO645 := zA (zH HO645.out)
            replace HO648 := zA (zH HO648.out)
            replace BK624 := zA (zK BK624.out)
            replace BK642 := zA (zK BK642.out)
            replace HB := zA (zD HB.out)
            refine start_ (n := 5) (S := fun w' => w'.cell? ⟨gb642, 0, none⟩ = some (.int .i64 t638) ∧ w'.cell? ⟨gb642, 1, none⟩ = some (.slice Ao59 t639.length co59) ∧ w'.cell? ⟨gb624, 0, none⟩ = some (.int .i64 a0_0) ∧ w'.cell? ⟨gb624, 1, none⟩ = some (.slice A0_1 l0_1.length c0_1)) (ds := []) #[false, false, false, false, false] (by kernel_rfl) rfl rfl ⟨(kV BK642.out 0).trans rfl, (kV BK642.out 1).trans rfl, (kV BK624.out 0).trans rfl, (kV BK624.out 1).trans rfl⟩ (fun hHeld => ?_)
            generalize w66.drew = w67 at HO629 HO632 HO635 HO641 HO645 HO648 BK624 BK642 HB hHeld ⊢
            refine take_ (i := 0) (N := some 62) (v := ?_) (a' := ?_) #[true, false, false, false, false] rfl rfl (by kernel_rfl) (fun _ _ _ h => h) (Or.inl ⟨by rfl, ?_⟩) hHeld ?_ ?_
            rotate_left
            ·rintro w' ⟨s0, s1, s2, s3⟩
             go_simp
             with_reducible rfl
            rotate_left
            ·simp only [Act.put, zL, zM, zN, i64_w, i32_w]
             rfl
            refine take_ (i := 1) (N := some 63) (v := ?_) (a' := ?_) #[true, true, false, false, false] rfl rfl (by kernel_rfl) (fun _ _ _ h => h) (Or.inl ⟨by rfl, ?_⟩) hHeld ?_ ?_
            rotate_left
            ·rintro w' ⟨s0, s1, s2, s3⟩
             go_simp
             with_reducible rfl
            rotate_left
            ·simp only [Act.put, zL, zM, zN, i64_w, i32_w]
             rfl
            refine one_ (i := 2) (N := some 64) #[true, true, true, false, false] rfl rfl (by kernel_rfl) (by decide) (fun K hK => ?_)
            refine goes_ Tryd.func17 (by kernel_rfl) rfl #[.agg #[.int .i64 a0_0, .slice A0_1 l0_1.length c0_1]] (by rfl) rfl rfl zg ?_
            with_reducible refine (laws_toAlphabet.calls k a0_0 _ _ l0_1 t652 t653 _ ?side1 ?side2 A20.out).mono ?_
            (case side1 => exact zS (kO HR0_1.out HB.out))
            (case side2 => exact HC0_1.out)
            rintro e w68 ⟨v654, rfl, ho0, hb⟩
            refine ⟨_, rfl, ?_⟩
            have HO655 := zA (kI (kF (kF (kF (kF (kF (kF ho0 (kH (zP HO629.out))) (kH (zP HO632.out))) (kH (zP HO635.out))) (kH (zP HO641.out))) (kH (zP HO645.out))) (kH (zP HO648.out))) (kP (zV HB.out GE624.out GE642.out)))
            replace HO629 := zA (kE (zP HO629.out) (kC ho0) hb)
            replace HO632 := zA (kE (zP HO632.out) (kC ho0) hb)
            replace HO635 := zA (kE (zP HO635.out) (kC ho0) hb)
            replace HO641 := zA (kE (zP HO641.out) (kC ho0) hb)
            replace HO645 := zA (kE (zP HO645.out) (kC ho0) hb)
            replace HO648 := zA (kE (zP HO648.out) (kC ho0) hb)
            replace BK624 := zA (zB1 BK624.out hb)
            replace BK642 := zA (zB1 BK642.out hb)
            replace HB := zA (kQ (zV HB.out GE624.out GE642.out) hb)
            (try clear hb)
            (try clear hb2)
            (try clear hk)
            (try clear hi)
            (try clear hgw)
            (try clear ho0)
            obtain ⟨Ao69, co69, eo69⟩ := kM HO655.out
            (first | subst eo69 | (injection eo69 with f1_ f2_ f3_; have f4_ := f1_.symm; have f5_ := f3_.symm; clear f1_ f2_ f3_; subst f4_; subst f5_))
            refine hK.out _ _ ⟨(kV BK642.out 0).trans rfl, (kV BK642.out 1).trans rfl, (kV BK624.out 0).trans rfl, (kV BK624.out 1).trans rfl⟩ (fun hHeld => ?_)
            clear hK K
            refine norm_ (a' := ?_) ?_ ?_
            rotate_left
            ·show Act.put _ (some 64) _ = _
             simp only [Act.put, zL, zM, zN, i64_w, i32_w]
             rfl
            refine one_ (i := 3) (N := some 65) #[true, true, true, true, false] rfl rfl (by kernel_rfl) (by decide) (fun K hK => ?_)
            refine goes_ Tryd.func21 (by kernel_rfl) rfl #[.agg #[.int .i64 t638, .slice Ao59 t639.length co59], .agg #[.int .i64 t652, .slice Ao69 t653.length co69]] (by rfl) rfl rfl zg ?_
            with_reducible refine (laws_eqAlphabet.calls k t638 _ _ t639 t652 _ _ t653 true _ ?side1 ?side2 ?side3 ?side4 A21.out).mono ?_
            (case side1 => exact zS (kB HO641.out).2.2)
            (case side2 => exact (kB HO641.out).2.1)
            (case side3 => exact zS (kB HO655.out).2.2)
            (case side4 => exact (kB HO655.out).2.1)
            rintro e w70 ⟨rfl, hb⟩
            refine ⟨_, rfl, ?_⟩
            replace HO629 := zA (kL (zP HO629.out) hb)
            replace HO632 := zA (kL (zP HO632.out) hb)
            replace HO635 := zA (kL (zP HO635.out) hb)
            replace HO641 := zA (kL (zP HO641.out) hb)
            replace HO645 := zA (kL (zP HO645.out) hb)
            replace HO648 := zA (kL (zP HO648.out) hb)
            replace HO655 := zA (kL (zP HO655.out) hb)
            replace BK624 := zA (zB1 BK624.out hb)
            replace BK642 := zA (zB1 BK642.out hb)
            replace HB := zA (kQ (zV HB.out GE624.out GE642.out) hb)
            (try clear hb)
            (try clear hb2)
            (try clear hk)
            (try clear hi)
            (try clear hgw)
            refine hK.out _ _ ⟨(kV BK642.out 0).trans rfl, (kV BK642.out 1).trans rfl, (kV BK624.out 0).trans rfl, (kV BK624.out 1).trans rfl⟩ (fun hHeld => ?_)
            clear hK K
            refine norm_ (a' := ?_) ?_ ?_
            rotate_left
            ·show Act.put _ (some 65) _ = _
             simp only [Act.put, zL, zM, zN, i64_w, i32_w]
             rfl
            refine pure_ (i := 4) (N := some 66) (v := ?_) (a' := ?_) #[true, true, true, true, true] rfl rfl (by kernel_rfl) (fun _ _ _ h => h) (Or.inl ⟨by rfl, ?_⟩) ?_ ?_
            rotate_left
            ·intro w'
             go_simp
             with_reducible rfl
            rotate_left
            ·simp only [Act.put, zL, zM, zN, i64_w, i32_w]
             rfl
            refine done_ (by kernel_rfl) ?_
            try go_wp2_with (first | (refine zO (some 69) Tryd.func18 #[.slice A1 l1.length c1] ?_; (with_reducible refine (laws_toInt64S.calls k _ _ l1 t657 _ ?side1 ?side2 A23.out).mono ?_); (case side1 => exact zS (kO HR1.out HB.out)); (case side2 => exact HC1.out); rintro e w71 ⟨v658, rfl, ho0, hb⟩; refine ⟨_, rfl, ?_⟩; have HO659 := zA (kI (kF (kF (kF (kF (kF (kF (kF ho0 (kH (zP HO629.out))) (kH (zP HO632.out))) (kH (zP HO635.out))) (kH (zP HO641.out))) (kH (zP HO645.out))) (kH (zP HO648.out))) (kH (zP HO655.out))) (kP (zV HB.out GE624.out GE642.out))); replace HO629 := zA (kE (zP HO629.out) (kC ho0) hb); replace HO632 := zA (kE (zP HO632.out) (kC ho0) hb); replace HO635 := zA (kE (zP HO635.out) (kC ho0) hb); replace HO641 := zA (kE (zP HO641.out) (kC ho0) hb); replace HO645 := zA (kE (zP HO645.out) (kC ho0) hb); replace HO648 := zA (kE (zP HO648.out) (kC ho0) hb); replace HO655 := zA (kE (zP HO655.out) (kC ho0) hb); replace BK624 := zA (zB1 BK624.out hb); replace BK642 := zA (zB1 BK642.out hb); replace HB := zA (kQ (zV HB.out GE624.out GE642.out) hb); (try clear hb); (try clear ho0); obtain ⟨Ao72, co72, eo72⟩ := kM HO659.out; subst eo72) | (refine zO (some 70) Tryd.func20 #[.slice Ao62 t643.length co62, .slice Ao72 t657.length co72] ?_; (with_reducible refine (laws_eqInt64S_BFnExactRootOf.calls k _ _ t643 _ _ t657 true _ ?side1 ?side2 ?side3 ?side4 A24.out).mono ?_); (case side1 => exact zS (kB HO645.out).2.2); (case side2 => exact (kB HO645.out).2.1); (case side3 => exact zS (kB HO659.out).2.2); (case side4 => exact (kB HO659.out).2.1); rintro e w73 ⟨rfl, hb⟩; refine ⟨_, rfl, ?_⟩; replace HO629 := zA (kL (zP HO629.out) hb); replace HO632 := zA (kL (zP HO632.out) hb); replace HO635 := zA (kL (zP HO635.out) hb); replace HO641 := zA (kL (zP HO641.out) hb); replace HO645 := zA (kL (zP HO645.out) hb); replace HO648 := zA (kL (zP HO648.out) hb); replace HO655 := zA (kL (zP HO655.out) hb); replace HO659 := zA (kL (zP HO659.out) hb); replace BK624 := zA (zB1 BK624.out hb); replace BK642 := zA (zB1 BK642.out hb); replace HB := zA (kQ (zV HB.out GE624.out GE642.out) hb); (try clear hb); obtain ⟨hcz74_0, hcz74_1, hfz74_0, hfz74_1⟩ := zB3 BK642.out) | (refine zO (some 74) Tryd.func22 #[.agg #[.int .i64 t638, .slice Ao59 t639.length co59], .int .i64 1] ?_; (with_reducible refine (laws_markAlphabet.calls k t638 (fun k_ => some k_ = (.slice Ao59 t639.length co59 : Value).ownBlock) (.slice Ao59 t639.length co59) t639 1 t661 t662 w _ ?side1 ?side2 A26.out).mono ?_); (case side1 => exact zV HB.out GE624.out GE642.out); (case side2 => exact jK rfl HO641.out); rintro e w75 ⟨rfl, hy0, hb, hkp⟩; refine ⟨_, rfl, ?_⟩; replace BK624 := zA (blk_kept (zR BK624.out) hkp (fun hs_ => (fun e_ => (Kd.R_ne HO641.out BK624.out (by decide)) e_) hs_)); replace HO629 := zA (kA (ok' := fun k_ => some k_ ≠ (.slice Ao52 t630.length co52 : Value).ownBlock ∧ some k_ ≠ (.slice Ao65 t633.length co65 : Value).ownBlock ∧ some k_ ≠ (.slice Ao59 t639.length co59 : Value).ownBlock ∧ some k_ ≠ (.slice Ao62 t643.length co62 : Value).ownBlock ∧ some k_ ≠ (.slice Ao64 t646.length co64 : Value).ownBlock ∧ some k_ ≠ (.slice Ao69 t653.length co69 : Value).ownBlock ∧ some k_ ≠ (.slice Ao72 t657.length co72 : Value).ownBlock) (Kd.R_keptB (HO629.out) hkp (fun k_ hk_ hs_ => (hk_.1.1.1.1.2) hs_)) (fun k_ hk_ => ⟨hk_.1.1.1.1.1.1.1.2, hk_.1.1.1.1.1.1.2, hk_.1.1.1.1.1.2, hk_.1.1.1.1.2, hk_.1.1.1.2, hk_.1.1.2, hk_.1.2⟩)); replace HO632 := zA (kA (ok' := fun k_ => some k_ ≠ (.slice Ao51 t627.length co51 : Value).ownBlock ∧ some k_ ≠ (.slice Ao65 t633.length co65 : Value).ownBlock ∧ some k_ ≠ (.slice Ao59 t639.length co59 : Value).ownBlock ∧ some k_ ≠ (.slice Ao62 t643.length co62 : Value).ownBlock ∧ some k_ ≠ (.slice Ao64 t646.length co64 : Value).ownBlock ∧ some k_ ≠ (.slice Ao69 t653.length co69 : Value).ownBlock ∧ some k_ ≠ (.slice Ao72 t657.length co72 : Value).ownBlock) (Kd.R_keptB (HO632.out) hkp (fun k_ hk_ hs_ => (hk_.1.1.1.1.2) hs_)) (fun k_ hk_ => ⟨hk_.1.1.1.1.1.1.1.2, hk_.1.1.1.1.1.1.2, hk_.1.1.1.1.1.2, hk_.1.1.1.1.2, hk_.1.1.1.2, hk_.1.1.2, hk_.1.2⟩)); replace HO635 := zA (kA (ok' := fun k_ => some k_ ≠ (.slice Ao51 t627.length co51 : Value).ownBlock ∧ some k_ ≠ (.slice Ao52 t630.length co52 : Value).ownBlock ∧ some k_ ≠ (.slice Ao59 t639.length co59 : Value).ownBlock ∧ some k_ ≠ (.slice Ao62 t643.length co62 : Value).ownBlock ∧ some k_ ≠ (.slice Ao64 t646.length co64 : Value).ownBlock ∧ some k_ ≠ (.slice Ao69 t653.length co69 : Value).ownBlock ∧ some k_ ≠ (.slice Ao72 t657.length co72 : Value).ownBlock) (Kd.R_keptB (HO635.out) hkp (fun k_ hk_ hs_ => (hk_.1.1.1.1.2) hs_)) (fun k_ hk_ => ⟨hk_.1.1.1.1.1.1.1.2, hk_.1.1.1.1.1.1.2, hk_.1.1.1.1.1.2, hk_.1.1.1.1.2, hk_.1.1.1.2, hk_.1.1.2, hk_.1.2⟩)); replace BK642 := zA (blk_kept (zR BK642.out) hkp (fun hs_ => (fun e_ => (Kd.R_ne HO641.out BK642.out (by decide)) e_) hs_)); replace HO641 := zA (Kd.R_reok rfl hy0 (fun k_ e_ => HO641.out.1 k_ e_)); replace HO645 := zA (kA (ok' := fun k_ => some k_ ≠ (.slice Ao51 t627.length co51 : Value).ownBlock ∧ some k_ ≠ (.slice Ao52 t630.length co52 : Value).ownBlock ∧ some k_ ≠ (.slice Ao65 t633.length co65 : Value).ownBlock ∧ some k_ ≠ (.slice Ao59 t639.length co59 : Value).ownBlock ∧ some k_ ≠ (.slice Ao64 t646.length co64 : Value).ownBlock ∧ some k_ ≠ (.slice Ao69 t653.length co69 : Value).ownBlock ∧ some k_ ≠ (.slice Ao72 t657.length co72 : Value).ownBlock) (Kd.R_keptB (HO645.out) hkp (fun k_ hk_ hs_ => (hk_.1.1.1.2) hs_)) (fun k_ hk_ => ⟨hk_.1.1.1.1.1.1.1.2, hk_.1.1.1.1.1.1.2, hk_.1.1.1.1.1.2, hk_.1.1.1.1.2, hk_.1.1.1.2, hk_.1.1.2, hk_.1.2⟩)); replace HO648 := zA (kA (ok' := fun k_ => some k_ ≠ (.slice Ao51 t627.length co51 : Value).ownBlock ∧ some k_ ≠ (.slice Ao52 t630.length co52 : Value).ownBlock ∧ some k_ ≠ (.slice Ao65 t633.length co65 : Value).ownBlock ∧ some k_ ≠ (.slice Ao59 t639.length co59 : Value).ownBlock ∧ some k_ ≠ (.slice Ao62 t643.length co62 : Value).ownBlock ∧ some k_ ≠ (.slice Ao69 t653.length co69 : Value).ownBlock ∧ some k_ ≠ (.slice Ao72 t657.length co72 : Value).ownBlock) (Kd.R_keptB (HO648.out) hkp (fun k_ hk_ hs_ => (hk_.1.1.1.2) hs_)) (fun k_ hk_ => ⟨hk_.1.1.1.1.1.1.1.2, hk_.1.1.1.1.1.1.2, hk_.1.1.1.1.1.2, hk_.1.1.1.1.2, hk_.1.1.1.2, hk_.1.1.2, hk_.1.2⟩)); replace HO655 := zA (kA (ok' := fun k_ => some k_ ≠ (.slice Ao51 t627.length co51 : Value).ownBlock ∧ some k_ ≠ (.slice Ao52 t630.length co52 : Value).ownBlock ∧ some k_ ≠ (.slice Ao65 t633.length co65 : Value).ownBlock ∧ some k_ ≠ (.slice Ao59 t639.length co59 : Value).ownBlock ∧ some k_ ≠ (.slice Ao62 t643.length co62 : Value).ownBlock ∧ some k_ ≠ (.slice Ao64 t646.length co64 : Value).ownBlock ∧ some k_ ≠ (.slice Ao72 t657.length co72 : Value).ownBlock) (Kd.R_keptB (HO655.out) hkp (fun k_ hk_ hs_ => (hk_.1.1.1.2) hs_)) (fun k_ hk_ => ⟨hk_.1.1.1.1.1.1.1.2, hk_.1.1.1.1.1.1.2, hk_.1.1.1.1.1.2, hk_.1.1.1.1.2, hk_.1.1.1.2, hk_.1.1.2, hk_.1.2⟩)); replace HO659 := zA (kA (ok' := fun k_ => some k_ ≠ (.slice Ao51 t627.length co51 : Value).ownBlock ∧ some k_ ≠ (.slice Ao52 t630.length co52 : Value).ownBlock ∧ some k_ ≠ (.slice Ao65 t633.length co65 : Value).ownBlock ∧ some k_ ≠ (.slice Ao59 t639.length co59 : Value).ownBlock ∧ some k_ ≠ (.slice Ao62 t643.length co62 : Value).ownBlock ∧ some k_ ≠ (.slice Ao64 t646.length co64 : Value).ownBlock ∧ some k_ ≠ (.slice Ao69 t653.length co69 : Value).ownBlock) (Kd.R_keptB (HO659.out) hkp (fun k_ hk_ hs_ => (hk_.1.1.1.2) hs_)) (fun k_ hk_ => ⟨hk_.1.1.1.1.1.1.1.2, hk_.1.1.1.1.1.1.2, hk_.1.1.1.1.1.2, hk_.1.1.1.1.2, hk_.1.1.1.2, hk_.1.1.2, hk_.1.2⟩)); replace HB := zA (hb); (try clear hb); (try clear hkp); (try clear hy0)) | (refine zO (some 77) Tryd.func23 #[.slice Ao62 t643.length co62, .int .i64 t661] ?_; (with_reducible refine (laws_markInt64S.calls k (fun k_ => some k_ = (.slice Ao62 t643.length co62 : Value).ownBlock) (.slice Ao62 t643.length co62) t643 t661 t663 t664 w _ ?side1 ?side2 A27.out).mono ?_); (case side1 => exact zV HB.out GE624.out GE642.out); (case side2 => exact jK rfl HO645.out); rintro e w76 ⟨rfl, hy0, hb, hkp⟩; refine ⟨_, rfl, ?_⟩; replace BK624 := zA (blk_kept (zR BK624.out) hkp (fun hs_ => (fun e_ => (Kd.R_ne HO645.out BK624.out (by decide)) e_) hs_)); replace HO629 := zA (kA (ok' := fun k_ => some k_ ≠ (.slice Ao52 t630.length co52 : Value).ownBlock ∧ some k_ ≠ (.slice Ao65 t633.length co65 : Value).ownBlock ∧ some k_ ≠ (.slice Ao59 t639.length co59 : Value).ownBlock ∧ some k_ ≠ (.slice Ao62 t643.length co62 : Value).ownBlock ∧ some k_ ≠ (.slice Ao64 t646.length co64 : Value).ownBlock ∧ some k_ ≠ (.slice Ao69 t653.length co69 : Value).ownBlock ∧ some k_ ≠ (.slice Ao72 t657.length co72 : Value).ownBlock) (Kd.R_keptB (HO629.out) hkp (fun k_ hk_ hs_ => (hk_.2.2.2.1) hs_)) (fun k_ hk_ => ⟨hk_.1.1, hk_.1.2.1, hk_.1.2.2.1, hk_.1.2.2.2.1, hk_.1.2.2.2.2.1, hk_.1.2.2.2.2.2.1, hk_.1.2.2.2.2.2.2⟩)); replace HO632 := zA (kA (ok' := fun k_ => some k_ ≠ (.slice Ao51 t627.length co51 : Value).ownBlock ∧ some k_ ≠ (.slice Ao65 t633.length co65 : Value).ownBlock ∧ some k_ ≠ (.slice Ao59 t639.length co59 : Value).ownBlock ∧ some k_ ≠ (.slice Ao62 t643.length co62 : Value).ownBlock ∧ some k_ ≠ (.slice Ao64 t646.length co64 : Value).ownBlock ∧ some k_ ≠ (.slice Ao69 t653.length co69 : Value).ownBlock ∧ some k_ ≠ (.slice Ao72 t657.length co72 : Value).ownBlock) (Kd.R_keptB (HO632.out) hkp (fun k_ hk_ hs_ => (hk_.2.2.2.1) hs_)) (fun k_ hk_ => ⟨hk_.1.1, hk_.1.2.1, hk_.1.2.2.1, hk_.1.2.2.2.1, hk_.1.2.2.2.2.1, hk_.1.2.2.2.2.2.1, hk_.1.2.2.2.2.2.2⟩)); replace HO635 := zA (kA (ok' := fun k_ => some k_ ≠ (.slice Ao51 t627.length co51 : Value).ownBlock ∧ some k_ ≠ (.slice Ao52 t630.length co52 : Value).ownBlock ∧ some k_ ≠ (.slice Ao59 t639.length co59 : Value).ownBlock ∧ some k_ ≠ (.slice Ao62 t643.length co62 : Value).ownBlock ∧ some k_ ≠ (.slice Ao64 t646.length co64 : Value).ownBlock ∧ some k_ ≠ (.slice Ao69 t653.length co69 : Value).ownBlock ∧ some k_ ≠ (.slice Ao72 t657.length co72 : Value).ownBlock) (Kd.R_keptB (HO635.out) hkp (fun k_ hk_ hs_ => (hk_.2.2.2.1) hs_)) (fun k_ hk_ => ⟨hk_.1.1, hk_.1.2.1, hk_.1.2.2.1, hk_.1.2.2.2.1, hk_.1.2.2.2.2.1, hk_.1.2.2.2.2.2.1, hk_.1.2.2.2.2.2.2⟩)); replace HO641 := zA (kA (ok' := fun k_ => some k_ ≠ (.slice Ao51 t627.length co51 : Value).ownBlock ∧ some k_ ≠ (.slice Ao52 t630.length co52 : Value).ownBlock ∧ some k_ ≠ (.slice Ao65 t633.length co65 : Value).ownBlock ∧ some k_ ≠ (.slice Ao62 t643.length co62 : Value).ownBlock ∧ some k_ ≠ (.slice Ao64 t646.length co64 : Value).ownBlock ∧ some k_ ≠ (.slice Ao69 t653.length co69 : Value).ownBlock ∧ some k_ ≠ (.slice Ao72 t657.length co72 : Value).ownBlock) (Kd.R_keptB (HO641.out) hkp (fun k_ hk_ hs_ => (hk_.1.1.1.2) hs_)) (fun k_ hk_ => ⟨hk_.1.1.1.1.1.1.1.2, hk_.1.1.1.1.1.1.2, hk_.1.1.1.1.1.2, hk_.1.1.1.1.2, hk_.1.1.1.2, hk_.1.1.2, hk_.1.2⟩)); replace BK642 := zA (blk_kept (zR BK642.out) hkp (fun hs_ => (fun e_ => (Kd.R_ne HO645.out BK642.out (by decide)) e_) hs_)); replace HO645 := zA (Kd.R_reok rfl hy0 (fun k_ e_ => HO645.out.1 k_ e_)); replace HO648 := zA (kA (ok' := fun k_ => some k_ ≠ (.slice Ao51 t627.length co51 : Value).ownBlock ∧ some k_ ≠ (.slice Ao52 t630.length co52 : Value).ownBlock ∧ some k_ ≠ (.slice Ao65 t633.length co65 : Value).ownBlock ∧ some k_ ≠ (.slice Ao59 t639.length co59 : Value).ownBlock ∧ some k_ ≠ (.slice Ao62 t643.length co62 : Value).ownBlock ∧ some k_ ≠ (.slice Ao69 t653.length co69 : Value).ownBlock ∧ some k_ ≠ (.slice Ao72 t657.length co72 : Value).ownBlock) (Kd.R_keptB (HO648.out) hkp (fun k_ hk_ hs_ => (hk_.2.2.2.2.1) hs_)) (fun k_ hk_ => ⟨hk_.1.1, hk_.1.2.1, hk_.1.2.2.1, hk_.1.2.2.2.1, hk_.1.2.2.2.2.1, hk_.1.2.2.2.2.2.1, hk_.1.2.2.2.2.2.2⟩)); replace HO655 := zA (kA (ok' := fun k_ => some k_ ≠ (.slice Ao51 t627.length co51 : Value).ownBlock ∧ some k_ ≠ (.slice Ao52 t630.length co52 : Value).ownBlock ∧ some k_ ≠ (.slice Ao65 t633.length co65 : Value).ownBlock ∧ some k_ ≠ (.slice Ao59 t639.length co59 : Value).ownBlock ∧ some k_ ≠ (.slice Ao62 t643.length co62 : Value).ownBlock ∧ some k_ ≠ (.slice Ao64 t646.length co64 : Value).ownBlock ∧ some k_ ≠ (.slice Ao72 t657.length co72 : Value).ownBlock) (Kd.R_keptB (HO655.out) hkp (fun k_ hk_ hs_ => (hk_.2.2.2.2.1) hs_)) (fun k_ hk_ => ⟨hk_.1.1, hk_.1.2.1, hk_.1.2.2.1, hk_.1.2.2.2.1, hk_.1.2.2.2.2.1, hk_.1.2.2.2.2.2.1, hk_.1.2.2.2.2.2.2⟩)); replace HO659 := zA (kA (ok' := fun k_ => some k_ ≠ (.slice Ao51 t627.length co51 : Value).ownBlock ∧ some k_ ≠ (.slice Ao52 t630.length co52 : Value).ownBlock ∧ some k_ ≠ (.slice Ao65 t633.length co65 : Value).ownBlock ∧ some k_ ≠ (.slice Ao59 t639.length co59 : Value).ownBlock ∧ some k_ ≠ (.slice Ao62 t643.length co62 : Value).ownBlock ∧ some k_ ≠ (.slice Ao64 t646.length co64 : Value).ownBlock ∧ some k_ ≠ (.slice Ao69 t653.length co69 : Value).ownBlock) (Kd.R_keptB (HO659.out) hkp (fun k_ hk_ hs_ => (hk_.2.2.2.2.1) hs_)) (fun k_ hk_ => ⟨hk_.1.1, hk_.1.2.1, hk_.1.2.2.1, hk_.1.2.2.2.1, hk_.1.2.2.2.2.1, hk_.1.2.2.2.2.2.1, hk_.1.2.2.2.2.2.2⟩)); replace HB := zA (hb); (try clear hb); (try clear hkp); (try clear hy0)) | (go_at_call 20; (with_reducible refine (laws_eqInt64S_BFnExactRootOf.calls k _ _ t646 _ _ t633 true _ ?side1 ?side2 ?side3 ?side4 A29.out).mono ?_); (case side1 => exact zS (kB HO648.out).2.2); (case side2 => exact (kB HO648.out).2.1); (case side3 => exact zS (kB HO635.out).2.2); (case side4 => exact (kB HO635.out).2.1); rintro e w77 ⟨rfl, hb⟩; replace HO629 := zA (kL (zP HO629.out) hb); replace HO632 := zA (kL (zP HO632.out) hb); replace HO635 := zA (kL (zP HO635.out) hb); replace HO641 := zA (kL (zP HO641.out) hb); replace HO645 := zA (kL (zP HO645.out) hb); replace HO648 := zA (kL (zP HO648.out) hb); replace HO655 := zA (kL (zP HO655.out) hb); replace HO659 := zA (kL (zP HO659.out) hb); replace BK624 := zA (zB1 BK624.out hb); replace BK642 := zA (zB1 BK642.out hb); replace HB := zA (kQ (zV HB.out GE624.out GE642.out) hb); (try clear hb); (try clear hb2); (try clear hk); (try clear hi); (try clear hgw)) | (refine zO (some 98) Tryd.func23 #[.slice Ao64 t646.length co64, .int .i64 1] ?_; (with_reducible refine (laws_markInt64S.calls k (fun k_ => some k_ = (.slice Ao64 t646.length co64 : Value).ownBlock) (.slice Ao64 t646.length co64) t646 1 t666 t667 w _ ?side1 ?side2 A31.out).mono ?_); (case side1 => exact zV HB.out GE624.out GE642.out); (case side2 => exact jK rfl HO648.out); rintro e w78 ⟨rfl, hy0, hb, hkp⟩; refine ⟨_, rfl, ?_⟩; replace BK624 := zA (blk_kept (zR BK624.out) hkp (fun hs_ => (fun e_ => (Kd.R_ne HO648.out BK624.out (by decide)) e_) hs_)); replace HO629 := zA (kA (ok' := fun k_ => some k_ ≠ (.slice Ao52 t630.length co52 : Value).ownBlock ∧ some k_ ≠ (.slice Ao65 t633.length co65 : Value).ownBlock ∧ some k_ ≠ (.slice Ao59 t639.length co59 : Value).ownBlock ∧ some k_ ≠ (.slice Ao62 t643.length co62 : Value).ownBlock ∧ some k_ ≠ (.slice Ao64 t646.length co64 : Value).ownBlock ∧ some k_ ≠ (.slice Ao69 t653.length co69 : Value).ownBlock ∧ some k_ ≠ (.slice Ao72 t657.length co72 : Value).ownBlock) (Kd.R_keptB (HO629.out) hkp (fun k_ hk_ hs_ => (hk_.2.2.2.2.1) hs_)) (fun k_ hk_ => ⟨hk_.1.1, hk_.1.2.1, hk_.1.2.2.1, hk_.1.2.2.2.1, hk_.1.2.2.2.2.1, hk_.1.2.2.2.2.2.1, hk_.1.2.2.2.2.2.2⟩)); replace HO632 := zA (kA (ok' := fun k_ => some k_ ≠ (.slice Ao51 t627.length co51 : Value).ownBlock ∧ some k_ ≠ (.slice Ao65 t633.length co65 : Value).ownBlock ∧ some k_ ≠ (.slice Ao59 t639.length co59 : Value).ownBlock ∧ some k_ ≠ (.slice Ao62 t643.length co62 : Value).ownBlock ∧ some k_ ≠ (.slice Ao64 t646.length co64 : Value).ownBlock ∧ some k_ ≠ (.slice Ao69 t653.length co69 : Value).ownBlock ∧ some k_ ≠ (.slice Ao72 t657.length co72 : Value).ownBlock) (Kd.R_keptB (HO632.out) hkp (fun k_ hk_ hs_ => (hk_.2.2.2.2.1) hs_)) (fun k_ hk_ => ⟨hk_.1.1, hk_.1.2.1, hk_.1.2.2.1, hk_.1.2.2.2.1, hk_.1.2.2.2.2.1, hk_.1.2.2.2.2.2.1, hk_.1.2.2.2.2.2.2⟩)); replace HO635 := zA (kA (ok' := fun k_ => some k_ ≠ (.slice Ao51 t627.length co51 : Value).ownBlock ∧ some k_ ≠ (.slice Ao52 t630.length co52 : Value).ownBlock ∧ some k_ ≠ (.slice Ao59 t639.length co59 : Value).ownBlock ∧ some k_ ≠ (.slice Ao62 t643.length co62 : Value).ownBlock ∧ some k_ ≠ (.slice Ao64 t646.length co64 : Value).ownBlock ∧ some k_ ≠ (.slice Ao69 t653.length co69 : Value).ownBlock ∧ some k_ ≠ (.slice Ao72 t657.length co72 : Value).ownBlock) (Kd.R_keptB (HO635.out) hkp (fun k_ hk_ hs_ => (hk_.2.2.2.2.1) hs_)) (fun k_ hk_ => ⟨hk_.1.1, hk_.1.2.1, hk_.1.2.2.1, hk_.1.2.2.2.1, hk_.1.2.2.2.2.1, hk_.1.2.2.2.2.2.1, hk_.1.2.2.2.2.2.2⟩)); replace HO641 := zA (kA (ok' := fun k_ => some k_ ≠ (.slice Ao51 t627.length co51 : Value).ownBlock ∧ some k_ ≠ (.slice Ao52 t630.length co52 : Value).ownBlock ∧ some k_ ≠ (.slice Ao65 t633.length co65 : Value).ownBlock ∧ some k_ ≠ (.slice Ao62 t643.length co62 : Value).ownBlock ∧ some k_ ≠ (.slice Ao64 t646.length co64 : Value).ownBlock ∧ some k_ ≠ (.slice Ao69 t653.length co69 : Value).ownBlock ∧ some k_ ≠ (.slice Ao72 t657.length co72 : Value).ownBlock) (Kd.R_keptB (HO641.out) hkp (fun k_ hk_ hs_ => (hk_.2.2.2.2.1) hs_)) (fun k_ hk_ => ⟨hk_.1.1, hk_.1.2.1, hk_.1.2.2.1, hk_.1.2.2.2.1, hk_.1.2.2.2.2.1, hk_.1.2.2.2.2.2.1, hk_.1.2.2.2.2.2.2⟩)); replace BK642 := zA (blk_kept (zR BK642.out) hkp (fun hs_ => (fun e_ => (Kd.R_ne HO648.out BK642.out (by decide)) e_) hs_)); replace HO645 := zA (kA (ok' := fun k_ => some k_ ≠ (.slice Ao51 t627.length co51 : Value).ownBlock ∧ some k_ ≠ (.slice Ao52 t630.length co52 : Value).ownBlock ∧ some k_ ≠ (.slice Ao65 t633.length co65 : Value).ownBlock ∧ some k_ ≠ (.slice Ao59 t639.length co59 : Value).ownBlock ∧ some k_ ≠ (.slice Ao64 t646.length co64 : Value).ownBlock ∧ some k_ ≠ (.slice Ao69 t653.length co69 : Value).ownBlock ∧ some k_ ≠ (.slice Ao72 t657.length co72 : Value).ownBlock) (Kd.R_keptB (HO645.out) hkp (fun k_ hk_ hs_ => (hk_.2.2.2.2.1) hs_)) (fun k_ hk_ => ⟨hk_.1.1, hk_.1.2.1, hk_.1.2.2.1, hk_.1.2.2.2.1, hk_.1.2.2.2.2.1, hk_.1.2.2.2.2.2.1, hk_.1.2.2.2.2.2.2⟩)); replace HO648 := zA (Kd.R_reok rfl hy0 (fun k_ e_ => HO648.out.1 k_ e_)); replace HO655 := zA (kA (ok' := fun k_ => some k_ ≠ (.slice Ao51 t627.length co51 : Value).ownBlock ∧ some k_ ≠ (.slice Ao52 t630.length co52 : Value).ownBlock ∧ some k_ ≠ (.slice Ao65 t633.length co65 : Value).ownBlock ∧ some k_ ≠ (.slice Ao59 t639.length co59 : Value).ownBlock ∧ some k_ ≠ (.slice Ao62 t643.length co62 : Value).ownBlock ∧ some k_ ≠ (.slice Ao64 t646.length co64 : Value).ownBlock ∧ some k_ ≠ (.slice Ao72 t657.length co72 : Value).ownBlock) (Kd.R_keptB (HO655.out) hkp (fun k_ hk_ hs_ => (hk_.2.2.2.2.2.1) hs_)) (fun k_ hk_ => ⟨hk_.1.1, hk_.1.2.1, hk_.1.2.2.1, hk_.1.2.2.2.1, hk_.1.2.2.2.2.1, hk_.1.2.2.2.2.2.1, hk_.1.2.2.2.2.2.2⟩)); replace HO659 := zA (kA (ok' := fun k_ => some k_ ≠ (.slice Ao51 t627.length co51 : Value).ownBlock ∧ some k_ ≠ (.slice Ao52 t630.length co52 : Value).ownBlock ∧ some k_ ≠ (.slice Ao65 t633.length co65 : Value).ownBlock ∧ some k_ ≠ (.slice Ao59 t639.length co59 : Value).ownBlock ∧ some k_ ≠ (.slice Ao62 t643.length co62 : Value).ownBlock ∧ some k_ ≠ (.slice Ao64 t646.length co64 : Value).ownBlock ∧ some k_ ≠ (.slice Ao69 t653.length co69 : Value).ownBlock) (Kd.R_keptB (HO659.out) hkp (fun k_ hk_ hs_ => (hk_.2.2.2.2.2.1) hs_)) (fun k_ hk_ => ⟨hk_.1.1, hk_.1.2.1, hk_.1.2.2.1, hk_.1.2.2.2.1, hk_.1.2.2.2.2.1, hk_.1.2.2.2.2.2.1, hk_.1.2.2.2.2.2.2⟩)); replace HB := zA (hb); (try clear hb); (try clear hkp); (try clear hy0)) | ((with_reducible refine kR (f := 24) rfl ?_); refine goesL_ (some 101) rfl rfl Tryd.func24 (by kernel_rfl) rfl #[.slice Ao64 t667.length co64, .int .i64 1] rfl (by (try simp only [List.map_toArray, List.map_cons, List.map_nil]); first | done | (rw [show t667.length = t646.length from (kB HO648.out).1.symm] <;> rfl) | rfl | (simp only [List.length_drop, List.length_take]; rfl)) ?_; (with_reducible refine (laws_heldInt64S.calls k _ _ t667 1 t668 _ ?side1 ?side2 A32.out).mono ?_); (case side1 => exact zS (kB HO648.out).2.2); (case side2 => rw [show t667.length = t646.length from (kB HO648.out).1.symm]; exact (kB HO648.out).2.1); rintro e w' ⟨rfl, ⟨nd, rfl⟩⟩; refine ⟨_, rfl, ?_⟩; obtain ⟨hcz79_0, hcz79_1, hfz79_0, hfz79_1⟩ := zB3 BK624.out) | (refine zO (some 109) Tryd.func17 #[.agg #[.int .i64 a0_0, .slice A0_1 l0_1.length c0_1]] ?_; (with_reducible refine (laws_toAlphabet.calls k a0_0 _ _ l0_1 t669 t670 _ ?side1 ?side2 A35.out).mono ?_); (case side1 => exact zS (kO HR0_1.out (zV HB.out GE624.out GE642.out))); (case side2 => exact HC0_1.out); rintro e w80 ⟨v671, rfl, ho0, hb⟩; refine ⟨_, rfl, ?_⟩; have HO672 := zA (kI (kF (kF (kF (kF (kF (kF (kF (kF ho0 (kH (zP HO629.out))) (kH (zP HO632.out))) (kH (zP HO635.out))) (kH (zP HO641.out))) (kH (zP HO645.out))) (kH (zP HO648.out))) (kH (zP HO655.out))) (kH (zP HO659.out))) (kP (zV HB.out GE624.out GE642.out))); replace HO629 := zA (kE (zP HO629.out) (kC ho0) hb); replace HO632 := zA (kE (zP HO632.out) (kC ho0) hb); replace HO635 := zA (kE (zP HO635.out) (kC ho0) hb); replace HO641 := zA (kE (zP HO641.out) (kC ho0) hb); replace HO645 := zA (kE (zP HO645.out) (kC ho0) hb); replace HO648 := zA (kE (zP HO648.out) (kC ho0) hb); replace HO655 := zA (kE (zP HO655.out) (kC ho0) hb); replace HO659 := zA (kE (zP HO659.out) (kC ho0) hb); replace BK624 := zA (zB1 BK624.out hb); replace BK642 := zA (zB1 BK642.out hb); replace HB := zA (kQ (zV HB.out GE624.out GE642.out) hb); (try clear hb); (try clear ho0)) | (refine zO (some 111) Tryd.func18 #[.slice A1 l1.length c1] ?_; (with_reducible refine (laws_toInt64S.calls k _ _ l1 t673 _ ?side1 ?side2 A36.out).mono ?_); (case side1 => exact zS (kO HR1.out HB.out)); (case side2 => exact HC1.out); rintro e w81 ⟨v674, rfl, ho0, hb⟩; refine ⟨_, rfl, ?_⟩; have HO675 := zA (kI (kF (kF (kF (kF (kF (kF (kF (kF (kF ho0 (kH (zP HO629.out))) (kH (zP HO632.out))) (kH (zP HO635.out))) (kH (zP HO641.out))) (kH (zP HO645.out))) (kH (zP HO648.out))) (kH (zP HO655.out))) (kH (zP HO659.out))) (kH (zP HO672.out))) (kP (zV HB.out GE624.out GE642.out))); replace HO629 := zA (kE (zP HO629.out) (kC ho0) hb); replace HO632 := zA (kE (zP HO632.out) (kC ho0) hb); replace HO635 := zA (kE (zP HO635.out) (kC ho0) hb); replace HO641 := zA (kE (zP HO641.out) (kC ho0) hb); replace HO645 := zA (kE (zP HO645.out) (kC ho0) hb); replace HO648 := zA (kE (zP HO648.out) (kC ho0) hb); replace HO655 := zA (kE (zP HO655.out) (kC ho0) hb); replace HO659 := zA (kE (zP HO659.out) (kC ho0) hb); replace HO672 := zA (kE (zP HO672.out) (kC ho0) hb); replace BK624 := zA (zB1 BK624.out hb); replace BK642 := zA (zB1 BK642.out hb); replace HB := zA (kQ (zV HB.out GE624.out GE642.out) hb); (try clear hb); (try clear ho0); obtain ⟨Ao82, co82, eo82⟩ := kM HO672.out; subst eo82; obtain ⟨Ao83, co83, eo83⟩ := kM HO675.out; subst eo83) | (refine zO (some 112) Tryd.func30 #[.agg #[.int .i64 t669, .slice Ao82 t670.length co82], .slice Ao83 t673.length co83] ?_; (with_reducible refine (impl_RootOf.calls k t669 (fun k_ => some k_ = (.slice Ao82 t670.length co82 : Value).ownBlock) _ _ t670 (fun k_ => some k_ = (.slice Ao83 t673.length co83 : Value).ownBlock) _ _ t673 t676 t679 t680 _ ?side1 ?side2 ?side3 A37.out).mono ?_); (case side1 => exact jL (jK rfl (kD (kD (HO672.out) BK624.out (by decide)) BK642.out (by decide)))); (case side2 => exact jL (jK rfl (kD (kD (HO675.out) BK624.out (by decide)) BK642.out (by decide)))); (case side3 => exact TabW.below HT.out (zV HB.out GE624.out GE642.out)); rintro e w84 ⟨v677, rfl, ho0, hb⟩; refine ⟨_, rfl, ?_⟩; have HO678 := zA (kI (kF (kF (kF (kF (kF (kF (kF (kF (kF (kF (kA (ok' := fun k_ => True) ho0 (fun _ hk_ => trivial)) (kH (zP HO629.out))) (kH (zP HO632.out))) (kH (zP HO635.out))) (kH (zP HO641.out))) (kH (zP HO645.out))) (kH (zP HO648.out))) (kH (zP HO655.out))) (kH (zP HO659.out))) (kH (zP HO672.out))) (kH (zP HO675.out))) (kP (zV HB.out GE624.out GE642.out))); replace HO629 := zA (kE (zP HO629.out) (kC ho0) hb); replace HO632 := zA (kE (zP HO632.out) (kC ho0) hb); replace HO635 := zA (kE (zP HO635.out) (kC ho0) hb); replace HO641 := zA (kE (zP HO641.out) (kC ho0) hb); replace HO645 := zA (kE (zP HO645.out) (kC ho0) hb); replace HO648 := zA (kE (zP HO648.out) (kC ho0) hb); replace HO655 := zA (kE (zP HO655.out) (kC ho0) hb); replace HO659 := zA (kE (zP HO659.out) (kC ho0) hb); replace HO672 := zA (kE (zP HO672.out) (kC ho0) hb); replace HO675 := zA (kE (zP HO675.out) (kC ho0) hb); replace BK624 := zA (zB1 BK624.out hb); replace BK642 := zA (zB1 BK642.out hb); replace HB := zA (kQ (zV HB.out GE624.out GE642.out) hb); (try clear hb); (try clear ho0); obtain ⟨Ao85, co85, eo85⟩ := kM HO678.out; subst eo85) | (refine zO (some 118) Tryd.func20 #[.slice Ao85 t676.length co85, .slice Ao65 t633.length co65] ?_; (with_reducible refine (laws_eqInt64S_BFnExactRootOf.calls k _ _ t676 _ _ t633 true _ ?side1 ?side2 ?side3 ?side4 A38.out).mono ?_); (case side1 => exact zS (kB HO678.out).2.2); (case side2 => exact (kB HO678.out).2.1); (case side3 => exact zS (kB HO635.out).2.2); (case side4 => exact (kB HO635.out).2.1); rintro e w86 ⟨rfl, hb⟩; refine ⟨_, rfl, ?_⟩; replace HO629 := zA (kL (zP HO629.out) hb); replace HO632 := zA (kL (zP HO632.out) hb); replace HO635 := zA (kL (zP HO635.out) hb); replace HO641 := zA (kL (zP HO641.out) hb); replace HO645 := zA (kL (zP HO645.out) hb); replace HO648 := zA (kL (zP HO648.out) hb); replace HO655 := zA (kL (zP HO655.out) hb); replace HO659 := zA (kL (zP HO659.out) hb); replace HO672 := zA (kL (zP HO672.out) hb); replace HO675 := zA (kL (zP HO675.out) hb); replace HO678 := zA (kL (zP HO678.out) hb); replace BK624 := zA (zB1 BK624.out hb); replace BK642 := zA (zB1 BK642.out hb); replace HB := zA (kQ (zV HB.out GE624.out GE642.out) hb); (try clear hb)) | ((with_reducible refine kR (f := 24) rfl ?_); refine goesL_ (some 132) rfl rfl Tryd.func24 (by kernel_rfl) rfl #[.slice Ao64 t667.length co64, .int .i64 1] rfl (by (try simp only [List.map_toArray, List.map_cons, List.map_nil]); first | done | (rw [show t667.length = t646.length from (kB HO648.out).1.symm] <;> rfl) | rfl | (simp only [List.length_drop, List.length_take]; rfl)) ?_; (with_reducible refine (laws_heldInt64S.calls k _ _ t667 1 t682 _ ?side1 ?side2 A42.out).mono ?_); (case side1 => exact zS (kB HO648.out).2.2); (case side2 => rw [show t667.length = t646.length from (kB HO648.out).1.symm]; exact (kB HO648.out).2.1); rintro e w' ⟨rfl, ⟨nd, rfl⟩⟩; refine ⟨_, rfl, ?_⟩))
            go_ret
            exact ⟨zr, zV HB.out GE624.out GE642.out⟩
           rw [if_neg c44] at H
           exact absurd H (by simp)
          rw [if_neg c41] at H
          exact absurd H (by simp)
         rw [if_neg c40] at H
         exact absurd H (by simp)
        replace c39 := Bool.eq_false_iff.mpr c39
        subst c39
        rw [if_neg (show ¬ (false = true) by decide)] at H
        exact absurd H (by simp)
       rw [if_neg c34] at H
       exact absurd H (by simp)
      replace c30 := Bool.eq_false_iff.mpr c30
      subst c30
      rw [if_neg (show ¬ (false = true) by decide)] at H
      exact absurd H (by simp)
     replace c25 := Bool.eq_false_iff.mpr c25
     subst c25
     rw [if_neg (show ¬ (false = true) by decide)] at H
     exact absurd H (by simp)
    replace c22 := Bool.eq_false_iff.mpr c22
    subst c22
    rw [if_neg (show ¬ (false = true) by decide)] at H
    exact absurd H (by simp)
   rw [if_neg c19] at H
   exact absurd H (by simp)
  rw [if_neg c18] at H
  exact absurd H (by simp)
 replace c17 := Bool.eq_false_iff.mpr c17
 subst c17
 rw [if_neg (show ¬ (false = true) by decide)] at H
 exact absurd H (by simp)

end Go.Proofs.YtfnnnopbcdiibaaDoor.PAll
