-- Printed by a program of the session (wip/tools/pgen.py) out of the translation. Not trusted: Lean checks it.
import Derived.Test.YtfnnnopbcdiibaaDoorPAllx0
import Derived.Test.YtfnnnopbcdiibaaDoorPAllx1
import Derived.Test.YtfnnnopbcdiibaaDoorPAllx2
import Derived.Test.YtfnnnopbcdiibaaDoorPAllx4
import Derived.Test.YtfnnnopbcdiibaaDoorPAllx19
namespace Go.Proofs.YtfnnnopbcdiibaaDoor.PAll
open Go.RowKit Go.Proofs.YtfnnnopbcdiibaaDoor.T Go.Proofs.YtfnnnopbcdiibaaDoorW.PrintWords Go.Proofs.YtfnnnopbcdiibaaDoorW.PrintLast Go.Proofs.YtfnnnopbcdiibaaDoorW.PrintMore
attribute [local go_sem] max2_int min2_int max_two min_two max_three min_three max_four min_four   -- for this text's walks alone
set_option linter.unusedVariables false
set_option linter.unusedSimpArgs false

/-! ### spec_IsPrimitive: function 27 -/
def spec_IsPrimitive.f (k : Nat) (a0_0 : Int) (l0_1 : List Int) (l1 : List Int) : Option (Bool × Int) := (spec_l03Code.f k a0_0 l0_1 l1 l1).bind fun t534 => (if t534 = 0 then (if (l1.length : Int) = 0 then (some (false, 0)) else ((spec_l07Root.f k a0_0 l0_1 l1).bind fun bt535 => (some ((bt535.2 == 1), 0)))) else (some (false, t534)))

set_option maxHeartbeats 8000000 in
set_option maxRecDepth 100000 in
theorem spec_IsPrimitive.calls (k : Nat) (a0_0 : Int) (A0_1 : Option Addr) (c0_1 : Nat) (l0_1 : List Int) (A1 : Option Addr) (c1 : Nat) (l1 : List Int) (r1 : Bool) (r2 : Int) (w : World) (hr0_1 : Kd.C (Kd.int .i64) w A0_1 l0_1.length l0_1) (hc0_1 : l0_1.length ≤ c0_1) (hr1 : Kd.C (Kd.int .i64) w A1 l1.length l1) (hc1 : l1.length ≤ c1) (h : spec_IsPrimitive.f k a0_0 l0_1 l1 = some (r1, r2)) :
  Calls Tryd.prog 27 #[.agg #[.int .i64 a0_0, .slice A0_1 l0_1.length c0_1], .slice A1 l1.length c1] w fun e w' => e = .returned (.tuple #[.bool r1, .int .i64 r2]) ∧ Below w.heap.size w w' := by
 have hu28 := Tryd.underlying28
 have HR0_1 := zA hr0_1
 have HC0_1 := zA hc0_1
 clear hr0_1 hc0_1
 have HR1 := zA hr1
 have HC1 := zA hc1
 clear hr1 hc1
 have HB := zA (kW w.heap.size w)
 have H := h
 unfold spec_IsPrimitive.f at H
 clear h
 obtain ⟨t534, A3, H⟩ := zb H
 try dsimp only at H
 by_cases c4 : t534 = 0
 ·rw [if_pos c4] at H
  obtain ⟨c4b0, c4b1⟩ := zT1 c4
  clear c4
  by_cases c5 : (l1.length : Int) = 0
  ·rw [if_pos c5] at H
   obtain ⟨c5b0, c5b1⟩ := zT1 c5
   clear c5
   simp only [Option.some.injEq, Prod.mk.injEq] at H
   obtain ⟨rfl, rfl⟩ := H
   go_enter Tryd.func27, Tryd.ntmps27
   go_wp2_with (first | (refine zBE 2 #[.int .i64 a0_0, .slice A0_1 l0_1.length c0_1] 28 ?_; intro gb533 hg w6 hbox hb; have BK533 := zA (hbox); have GW533 := zA (zBH hg HB.out); have GE533 := zA (zBH hg HB.out); replace HB := zA (kQ (zQ HB.out) hb); clear hb hbox hg; obtain ⟨hcz7_0, hcz7_1, hfz7_0, hfz7_1⟩ := zB3 BK533.out) | (refine zO (some 12) Tryd.func53 #[.agg #[.int .i64 a0_0, .slice A0_1 l0_1.length c0_1], .slice A1 l1.length c1, .slice A1 l1.length c1] ?_; (with_reducible refine (spec_l03Code.calls k a0_0 _ _ l0_1 _ _ l1 _ _ l1 t534 _ ?side1 ?side2 ?side3 ?side4 ?side5 ?side6 A3.out).mono ?_); (case side1 => exact zS (kO HR0_1.out HB.out)); (case side2 => exact HC0_1.out); (case side3 => exact zS (kO HR1.out HB.out)); (case side4 => exact HC1.out); (case side5 => exact zS (kO HR1.out HB.out)); (case side6 => exact HC1.out); rintro e w8 ⟨rfl, hb⟩; refine ⟨_, rfl, ?_⟩; replace BK533 := zA (zB1 BK533.out hb); replace HB := zA (kQ (zT HB.out GE533.out) hb); (try clear hb)))
   go_ret2
   exact ⟨zr, zT HB.out GE533.out⟩
  rw [if_neg c5] at H
  obtain ⟨c5b0, c5b1⟩ := zT2 c5
  have c5b2 : ¬ (l1 = []) := fun h_ => c5 (by rw [h_]; rfl)
  obtain ⟨⟨t535, t538⟩, A9, H⟩ := zb H
  try dsimp only at H
  simp only [Option.some.injEq, Prod.mk.injEq] at H
  obtain ⟨rfl, rfl⟩ := H
  go_enter Tryd.func27, Tryd.ntmps27
  go_wp2_with (first | (refine zBE 2 #[.int .i64 a0_0, .slice A0_1 l0_1.length c0_1] 28 ?_; intro gb533 hg w10 hbox hb; have BK533 := zA (hbox); have GW533 := zA (zBH hg HB.out); have GE533 := zA (zBH hg HB.out); replace HB := zA (kQ (zQ HB.out) hb); clear hb hbox hg; obtain ⟨hcz11_0, hcz11_1, hfz11_0, hfz11_1⟩ := zB3 BK533.out) | (refine zO (some 12) Tryd.func53 #[.agg #[.int .i64 a0_0, .slice A0_1 l0_1.length c0_1], .slice A1 l1.length c1, .slice A1 l1.length c1] ?_; (with_reducible refine (spec_l03Code.calls k a0_0 _ _ l0_1 _ _ l1 _ _ l1 t534 _ ?side1 ?side2 ?side3 ?side4 ?side5 ?side6 A3.out).mono ?_); (case side1 => exact zS (kO HR0_1.out HB.out)); (case side2 => exact HC0_1.out); (case side3 => exact zS (kO HR1.out HB.out)); (case side4 => exact HC1.out); (case side5 => exact zS (kO HR1.out HB.out)); (case side6 => exact HC1.out); rintro e w12 ⟨rfl, hb⟩; refine ⟨_, rfl, ?_⟩; replace BK533 := zA (zB1 BK533.out hb); replace HB := zA (kQ (zT HB.out GE533.out) hb); (try clear hb); obtain ⟨hcz13_0, hcz13_1, hfz13_0, hfz13_1⟩ := zB3 BK533.out) | (refine zO (some 22) Tryd.func71 #[.agg #[.int .i64 a0_0, .slice A0_1 l0_1.length c0_1], .slice A1 l1.length c1] ?_; (with_reducible refine (spec_l07Root.calls k a0_0 _ _ l0_1 _ _ l1 t535 t538 _ ?side1 ?side2 ?side3 ?side4 A9.out).mono ?_); (case side1 => exact zS (kO HR0_1.out HB.out)); (case side2 => exact HC0_1.out); (case side3 => exact zS (kO HR1.out HB.out)); (case side4 => exact HC1.out); rintro e w14 ⟨v536, rfl, ho0, hb⟩; refine ⟨_, rfl, ?_⟩; have HO537 := zA (kI ho0 (kP (zT HB.out GE533.out))); replace BK533 := zA (zB1 BK533.out hb); replace HB := zA (kQ (zT HB.out GE533.out) hb); (try clear hb); (try clear ho0)))
  go_ret2
  exact ⟨zr, zT HB.out GE533.out⟩
 rw [if_neg c4] at H
 obtain ⟨c4b0, c4b1⟩ := zT2 c4
 simp only [Option.some.injEq, Prod.mk.injEq] at H
 obtain ⟨rfl, rfl⟩ := H
 go_enter Tryd.func27, Tryd.ntmps27
 go_wp2_with (first | (refine zBE 2 #[.int .i64 a0_0, .slice A0_1 l0_1.length c0_1] 28 ?_; intro gb533 hg w15 hbox hb; have BK533 := zA (hbox); have GW533 := zA (zBH hg HB.out); have GE533 := zA (zBH hg HB.out); replace HB := zA (kQ (zQ HB.out) hb); clear hb hbox hg; obtain ⟨hcz16_0, hcz16_1, hfz16_0, hfz16_1⟩ := zB3 BK533.out) | (refine zO (some 12) Tryd.func53 #[.agg #[.int .i64 a0_0, .slice A0_1 l0_1.length c0_1], .slice A1 l1.length c1, .slice A1 l1.length c1] ?_; (with_reducible refine (spec_l03Code.calls k a0_0 _ _ l0_1 _ _ l1 _ _ l1 t534 _ ?side1 ?side2 ?side3 ?side4 ?side5 ?side6 A3.out).mono ?_); (case side1 => exact zS (kO HR0_1.out HB.out)); (case side2 => exact HC0_1.out); (case side3 => exact zS (kO HR1.out HB.out)); (case side4 => exact HC1.out); (case side5 => exact zS (kO HR1.out HB.out)); (case side6 => exact HC1.out); rintro e w17 ⟨rfl, hb⟩; refine ⟨_, rfl, ?_⟩; replace BK533 := zA (zB1 BK533.out hb); replace HB := zA (kQ (zT HB.out GE533.out) hb); (try clear hb)))
 go_ret2
 exact ⟨zr, zT HB.out GE533.out⟩

/-! ### impl_IsPrimitive: function 28 -/
def impl_IsPrimitive.f (k : Nat) (a0_0 : Int) (l0_1 : List Int) (l1 : List Int) : Option (Bool × Int) := (impl_checkWords.f k a0_0 l0_1 (([l1] : List (List Int)))).bind fun t568 => (if t568 = 0 then (if (l1.length : Int) = 0 then (some (false, 0)) else ((impl_Alphabet_ties.f a0_0 l0_1).bind fun t569 => ((impl_ties_root.f k t569 l1).bind fun bt572 => (some ((bt572.2 == 1), 0))))) else (some (false, t568)))

set_option maxHeartbeats 8000000 in
set_option maxRecDepth 100000 in
theorem impl_IsPrimitive.calls (k : Nat) (a0_0 : Int) (P0_1_ : Nat → Prop) (A0_1 : Option Addr) (c0_1 : Nat) (l0_1 : List Int) (P1_ : Nat → Prop) (A1 : Option Addr) (c1 : Nat) (l1 : List Int) (r1 : Bool) (r2 : Int) (w : World) (hs0_1 : Kd.V (Kd.int .i64) 2 w w.heap.size (fun k_ => P0_1_ k_) (.slice A0_1 l0_1.length c0_1) l0_1) (hs1 : Kd.V (Kd.int .i64) 2 w w.heap.size (fun k_ => P1_ k_) (.slice A1 l1.length c1) l1) (hT : TabW w) (h : impl_IsPrimitive.f k a0_0 l0_1 l1 = some (r1, r2)) :
  Calls Tryd.prog 28 #[.agg #[.int .i64 a0_0, .slice A0_1 l0_1.length c0_1], .slice A1 l1.length c1] w fun e w' => e = .returned (.tuple #[.bool r1, .int .i64 r2]) ∧ Below w.heap.size w w' := by
 have hu28 := Tryd.underlying28
 have HT := zA hT
 clear hT
 have HO0_1 := zA (show Kd.V (Kd.int .i64) 2 w w.heap.size (fun k_ => ((P0_1_ k_ ∨ P1_ k_) ∨ w.heap.size ≤ k_)) (.slice A0_1 l0_1.length c0_1) l0_1 from kN hs0_1 (fun k_ hk => .inl (.inl hk)))
 have HO1 := zA (show Kd.V (Kd.int .i64) 2 w w.heap.size (fun k_ => ((P0_1_ k_ ∨ P1_ k_) ∨ w.heap.size ≤ k_)) (.slice A1 l1.length c1) l1 from kN hs1 (fun k_ hk => .inl (.inr hk)))
 have HB := zA (kW w.heap.size w)
 have H := h
 unfold impl_IsPrimitive.f at H
 clear h
 obtain ⟨y565, hy565⟩ : ∃ y_ : List (List Int), y_ = (([l1] : List (List Int))) := ⟨_, rfl⟩
 replace H : ((impl_checkWords.f k a0_0 l0_1 y565).bind fun t568 => (if t568 = 0 then (if (l1.length : Int) = 0 then (some (false, 0)) else ((impl_Alphabet_ties.f a0_0 l0_1).bind fun t569 => ((impl_ties_root.f k t569 l1).bind fun bt572 => (some ((bt572.2 == 1), 0))))) else (some (false, t568)))) = some (r1, r2) := zy hy565 H
 have Ny565 := zA hy565
 clear hy565
 obtain ⟨t568, A3, H⟩ := zb H
 try dsimp only at H
 by_cases c4 : t568 = 0
 ·rw [if_pos c4] at H
  obtain ⟨c4b0, c4b1⟩ := zT1 c4
  clear c4
  by_cases c5 : (l1.length : Int) = 0
  ·rw [if_pos c5] at H
   obtain ⟨c5b0, c5b1⟩ := zT1 c5
   clear c5
   simp only [Option.some.injEq, Prod.mk.injEq] at H
   obtain ⟨rfl, rfl⟩ := H
   go_enter Tryd.func28, Tryd.ntmps28
   go_wp2_with (first | (refine zBE 2 #[.int .i64 a0_0, .slice A0_1 l0_1.length c0_1] 28 ?_; intro gb564 hg w6 hbox hb; replace HO0_1 := zA (kG (jD (zPV HO0_1.out) gb564 (Nat.le_of_eq hg.symm)) hb); replace HO1 := zA (kG (jD (zPV HO1.out) gb564 (Nat.le_of_eq hg.symm)) hb); have BK564 := zA (hbox); have GW564 := zA (zBH hg HB.out); have GE564 := zA (zBH hg HB.out); replace HB := zA (kQ (zQ HB.out) hb); clear hb hbox hg; obtain ⟨hcz7_0, hcz7_1, hfz7_0, hfz7_1⟩ := zB3 BK564.out) | ((with_reducible refine kS (N := 11) rfl ?_); refine Kd.N_lit (Kd.slice 2 (Kd.int .i64)) _ 22 ?hg (N' := 11) ?hd (xs := ([l1] : List (List Int))) (inner := [.slice A1 l1.length c1]) (ok := (fun k_ => ((P0_1_ k_ ∨ P1_ k_) ∨ w.heap.size ≤ k_) ∧ k_ ≠ gb564)) (okp := (fun k_ => ((P0_1_ k_ ∨ P1_ k_) ∨ w.heap.size ≤ k_) ∧ k_ ≠ gb564)) ?hr ?hp (fun _ hk => hk) ((show ∀ k_ : Nat, (_ : Nat) ≤ k_ → (fun k_ => ((P0_1_ k_ ∨ P1_ k_) ∨ w.heap.size ≤ k_) ∧ k_ ≠ gb564) k_ from fun k_ hk => ⟨(.inr (Nat.le_trans (kP (zT HB.out GE564.out)) hk)), jE (g := gb564) (o := .cells #[.int .i64 a0_0, .slice A0_1 l0_1.length c0_1] 28 (0, 0)) (zR BK564.out) k_ hk⟩) _ (Nat.le_refl _)) (kW _ _) (Nat.le_refl _) (by simp) ?_; (case hd => rfl); (case hg => rfl); (case hr => first | (go_simp; done) | (go_simp; rfl)); (case hp => exact (Reps.one (show Kd.FK (Kd.slice 2 (Kd.int .i64)) _ _ l1 [.slice A1 l1.length c1] from (zFK (kN (ok' := (fun k_ => ((P0_1_ k_ ∨ P1_ k_) ∨ w.heap.size ≤ k_) ∧ k_ ≠ gb564)) (HO1.out) (fun k_ hk => ⟨hk.1, hk.2⟩)))) (Reps.none _ _))); intro v566 w8 ho9 hb hg_ hnew_; clear hg_ hnew_; (first | rw [← Ny565.out] at ho9 | (simp only [Int.reduceToNat] at ho9; rw [← Ny565.out] at ho9)); replace HO0_1 := zA (kK (zPV HO0_1.out) (Kd.N_base ho9) hb); replace HO1 := zA (kK (zPV HO1.out) (Kd.N_base ho9) hb); have HO567 := zA (jN ho9 (kP (zT HB.out GE564.out))); replace BK564 := zA (zB1 BK564.out hb); replace HB := zA (kQ (zT HB.out GE564.out) hb); clear hb ho9; obtain ⟨Ao10, co10, eo10⟩ := Kd.N_slice HO567.out; subst eo10) | (refine zO (some 12) Tryd.func57 #[.agg #[.int .i64 a0_0, .slice A0_1 l0_1.length c0_1], .slice Ao10 y565.length co10] ?_; (with_reducible refine (impl_checkWords.calls k a0_0 _ _ l0_1 _ _ y565 t568 _ ?side1 ?side2 ?side3 ?side4 ?side5 A3.out).mono ?_); (case side1 => exact zS (kJ HO0_1.out).2.2); (case side2 => exact (kJ HO0_1.out).2.1); (case side3 => exact zS (Kd.N_reads' HO567.out).2.2); (case side4 => exact (Kd.N_reads' HO567.out).2.1); (case side5 => exact TabW.below HT.out (zT HB.out GE564.out)); rintro e w11 ⟨rfl, hb⟩; refine ⟨_, rfl, ?_⟩; replace HO0_1 := zA (kG (zPV HO0_1.out) hb); replace HO1 := zA (kG (zPV HO1.out) hb); replace HO567 := zA (kZ (zPN HO567.out) hb); replace BK564 := zA (zB1 BK564.out hb); replace HB := zA (kQ (zT HB.out GE564.out) hb); (try clear hb)))
   go_ret2
   exact ⟨zr, zT HB.out GE564.out⟩
  rw [if_neg c5] at H
  obtain ⟨c5b0, c5b1⟩ := zT2 c5
  have c5b2 : ¬ (l1 = []) := fun h_ => c5 (by rw [h_]; rfl)
  obtain ⟨t569, A12, H⟩ := zb H
  try dsimp only at H
  obtain ⟨⟨t572, t573⟩, A13, H⟩ := zb H
  try dsimp only at H
  simp only [Option.some.injEq, Prod.mk.injEq] at H
  obtain ⟨rfl, rfl⟩ := H
  go_enter Tryd.func28, Tryd.ntmps28
  go_wp2_with (first | (refine zBE 2 #[.int .i64 a0_0, .slice A0_1 l0_1.length c0_1] 28 ?_; intro gb564 hg w14 hbox hb; replace HO0_1 := zA (kG (jD (zPV HO0_1.out) gb564 (Nat.le_of_eq hg.symm)) hb); replace HO1 := zA (kG (jD (zPV HO1.out) gb564 (Nat.le_of_eq hg.symm)) hb); have BK564 := zA (hbox); have GW564 := zA (zBH hg HB.out); have GE564 := zA (zBH hg HB.out); replace HB := zA (kQ (zQ HB.out) hb); clear hb hbox hg; obtain ⟨hcz15_0, hcz15_1, hfz15_0, hfz15_1⟩ := zB3 BK564.out) | ((with_reducible refine kS (N := 11) rfl ?_); refine Kd.N_lit (Kd.slice 2 (Kd.int .i64)) _ 22 ?hg (N' := 11) ?hd (xs := ([l1] : List (List Int))) (inner := [.slice A1 l1.length c1]) (ok := (fun k_ => ((P0_1_ k_ ∨ P1_ k_) ∨ w.heap.size ≤ k_) ∧ k_ ≠ gb564)) (okp := (fun k_ => ((P0_1_ k_ ∨ P1_ k_) ∨ w.heap.size ≤ k_) ∧ k_ ≠ gb564)) ?hr ?hp (fun _ hk => hk) ((show ∀ k_ : Nat, (_ : Nat) ≤ k_ → (fun k_ => ((P0_1_ k_ ∨ P1_ k_) ∨ w.heap.size ≤ k_) ∧ k_ ≠ gb564) k_ from fun k_ hk => ⟨(.inr (Nat.le_trans (kP (zT HB.out GE564.out)) hk)), jE (g := gb564) (o := .cells #[.int .i64 a0_0, .slice A0_1 l0_1.length c0_1] 28 (0, 0)) (zR BK564.out) k_ hk⟩) _ (Nat.le_refl _)) (kW _ _) (Nat.le_refl _) (by simp) ?_; (case hd => rfl); (case hg => rfl); (case hr => first | (go_simp; done) | (go_simp; rfl)); (case hp => exact (Reps.one (show Kd.FK (Kd.slice 2 (Kd.int .i64)) _ _ l1 [.slice A1 l1.length c1] from (zFK (kN (ok' := (fun k_ => ((P0_1_ k_ ∨ P1_ k_) ∨ w.heap.size ≤ k_) ∧ k_ ≠ gb564)) (HO1.out) (fun k_ hk => ⟨hk.1, hk.2⟩)))) (Reps.none _ _))); intro v566 w16 ho17 hb hg_ hnew_; clear hg_ hnew_; (first | rw [← Ny565.out] at ho17 | (simp only [Int.reduceToNat] at ho17; rw [← Ny565.out] at ho17)); replace HO0_1 := zA (kK (zPV HO0_1.out) (Kd.N_base ho17) hb); replace HO1 := zA (kK (zPV HO1.out) (Kd.N_base ho17) hb); have HO567 := zA (jN ho17 (kP (zT HB.out GE564.out))); replace BK564 := zA (zB1 BK564.out hb); replace HB := zA (kQ (zT HB.out GE564.out) hb); clear hb ho17; obtain ⟨Ao18, co18, eo18⟩ := Kd.N_slice HO567.out; subst eo18) | (refine zO (some 12) Tryd.func57 #[.agg #[.int .i64 a0_0, .slice A0_1 l0_1.length c0_1], .slice Ao18 y565.length co18] ?_; (with_reducible refine (impl_checkWords.calls k a0_0 _ _ l0_1 _ _ y565 t568 _ ?side1 ?side2 ?side3 ?side4 ?side5 A3.out).mono ?_); (case side1 => exact zS (kJ HO0_1.out).2.2); (case side2 => exact (kJ HO0_1.out).2.1); (case side3 => exact zS (Kd.N_reads' HO567.out).2.2); (case side4 => exact (Kd.N_reads' HO567.out).2.1); (case side5 => exact TabW.below HT.out (zT HB.out GE564.out)); rintro e w19 ⟨rfl, hb⟩; refine ⟨_, rfl, ?_⟩; replace HO0_1 := zA (kG (zPV HO0_1.out) hb); replace HO1 := zA (kG (zPV HO1.out) hb); replace HO567 := zA (kZ (zPN HO567.out) hb); replace BK564 := zA (zB1 BK564.out hb); replace HB := zA (kQ (zT HB.out GE564.out) hb); (try clear hb); obtain ⟨hcz20_0, hcz20_1, hfz20_0, hfz20_1⟩ := zB3 BK564.out) | (refine zO (some 21) Tryd.func59 #[.agg #[.int .i64 a0_0, .slice A0_1 l0_1.length c0_1]] ?_; (with_reducible refine (impl_Alphabet_ties.calls a0_0 (fun k_ => ((((P0_1_ k_ ∨ P1_ k_) ∨ w.heap.size ≤ k_) ∧ k_ ≠ gb564) ∧ some k_ ≠ (.slice Ao18 y565.length co18 : Value).ownBlock)) _ _ l0_1 t569 _ ?side1 A12.out).mono ?_); (case side1 => exact HO0_1.out); rintro e w21 ⟨v570, rfl, ho0, hb⟩; refine ⟨_, rfl, ?_⟩; replace HO0_1 := zA (kG (zPV HO0_1.out) hb); replace HO1 := zA (kG (zPV HO1.out) hb); have HO571 := zA (jM (kN (ok' := fun k_ => ((P0_1_ k_ ∨ P1_ k_) ∨ w.heap.size ≤ k_) ∧ some k_ ≠ (.slice Ao18 y565.length co18 : Value).ownBlock ∧ k_ ≠ gb564) ho0 (fun k_ hk_ => ⟨Or.elim hk_ (fun hs_ => hs_.1.1) (fun hn_ => (.inr (Nat.le_trans (kP (zT HB.out GE564.out)) hn_))), Or.elim hk_ (fun hs_ => hs_.2) (fun hn_ => (jF (jA (zPN HO567.out)) k_ hn_)), Or.elim hk_ (fun hs_ => hs_.1.2) (fun hn_ => (jE (g := gb564) (o := .cells #[.int .i64 a0_0, .slice A0_1 l0_1.length c0_1] 28 (0, 0)) (zR BK564.out) k_ hn_))⟩)) (kP (zT HB.out GE564.out))); replace HO567 := zA (kZ (zPN HO567.out) hb); replace BK564 := zA (zB1 BK564.out hb); replace HB := zA (kQ (zT HB.out GE564.out) hb); (try clear hb); (try clear ho0); obtain ⟨Ao22, co22, eo22⟩ := Kd.V_slice HO571.out; subst eo22) | (refine zO (some 23) Tryd.func72 #[.slice Ao22 t569.length co22, .slice A1 l1.length c1] ?_; (with_reducible refine (impl_ties_root.calls k _ _ t569 _ _ l1 t572 t573 _ ?side1 ?side2 ?side3 ?side4 ?side5 A13.out).mono ?_); (case side1 => exact zS (kJ HO571.out).2.2); (case side2 => exact (kJ HO571.out).2.1); (case side3 => exact zS (kJ HO1.out).2.2); (case side4 => exact (kJ HO1.out).2.1); (case side5 => exact TabW.below HT.out (zT HB.out GE564.out)); rintro e w23 ⟨v574, rfl, ho0, hb⟩; refine ⟨_, rfl, ?_⟩; replace HO0_1 := zA (kK (zPV HO0_1.out) (kC ho0) hb); replace HO1 := zA (kK (zPV HO1.out) (kC ho0) hb); replace HO567 := zA (Kd.N_elder' (zPN HO567.out) (kC ho0) hb); replace HO571 := zA (kK (zPV HO571.out) (kC ho0) hb); have HO575 := zA (kI (Kd.R_newM (M := fun k_ => (w.heap.size ≤ k_)) ho0 (kP (zT HB.out GE564.out)) (fun k_ h_ => h_)) (kP (zT HB.out GE564.out))); replace BK564 := zA (zB1 BK564.out hb); replace HB := zA (kQ (zT HB.out GE564.out) hb); (try clear hb); (try clear ho0)))
  go_ret2
  exact ⟨zr, zT HB.out GE564.out⟩
 rw [if_neg c4] at H
 obtain ⟨c4b0, c4b1⟩ := zT2 c4
 simp only [Option.some.injEq, Prod.mk.injEq] at H
 obtain ⟨rfl, rfl⟩ := H
 go_enter Tryd.func28, Tryd.ntmps28
 go_wp2_with (first | (refine zBE 2 #[.int .i64 a0_0, .slice A0_1 l0_1.length c0_1] 28 ?_; intro gb564 hg w24 hbox hb; replace HO0_1 := zA (kG (jD (zPV HO0_1.out) gb564 (Nat.le_of_eq hg.symm)) hb); replace HO1 := zA (kG (jD (zPV HO1.out) gb564 (Nat.le_of_eq hg.symm)) hb); have BK564 := zA (hbox); have GW564 := zA (zBH hg HB.out); have GE564 := zA (zBH hg HB.out); replace HB := zA (kQ (zQ HB.out) hb); clear hb hbox hg; obtain ⟨hcz25_0, hcz25_1, hfz25_0, hfz25_1⟩ := zB3 BK564.out) | ((with_reducible refine kS (N := 11) rfl ?_); refine Kd.N_lit (Kd.slice 2 (Kd.int .i64)) _ 22 ?hg (N' := 11) ?hd (xs := ([l1] : List (List Int))) (inner := [.slice A1 l1.length c1]) (ok := (fun k_ => ((P0_1_ k_ ∨ P1_ k_) ∨ w.heap.size ≤ k_) ∧ k_ ≠ gb564)) (okp := (fun k_ => ((P0_1_ k_ ∨ P1_ k_) ∨ w.heap.size ≤ k_) ∧ k_ ≠ gb564)) ?hr ?hp (fun _ hk => hk) ((show ∀ k_ : Nat, (_ : Nat) ≤ k_ → (fun k_ => ((P0_1_ k_ ∨ P1_ k_) ∨ w.heap.size ≤ k_) ∧ k_ ≠ gb564) k_ from fun k_ hk => ⟨(.inr (Nat.le_trans (kP (zT HB.out GE564.out)) hk)), jE (g := gb564) (o := .cells #[.int .i64 a0_0, .slice A0_1 l0_1.length c0_1] 28 (0, 0)) (zR BK564.out) k_ hk⟩) _ (Nat.le_refl _)) (kW _ _) (Nat.le_refl _) (by simp) ?_; (case hd => rfl); (case hg => rfl); (case hr => first | (go_simp; done) | (go_simp; rfl)); (case hp => exact (Reps.one (show Kd.FK (Kd.slice 2 (Kd.int .i64)) _ _ l1 [.slice A1 l1.length c1] from (zFK (kN (ok' := (fun k_ => ((P0_1_ k_ ∨ P1_ k_) ∨ w.heap.size ≤ k_) ∧ k_ ≠ gb564)) (HO1.out) (fun k_ hk => ⟨hk.1, hk.2⟩)))) (Reps.none _ _))); intro v566 w26 ho27 hb hg_ hnew_; clear hg_ hnew_; (first | rw [← Ny565.out] at ho27 | (simp only [Int.reduceToNat] at ho27; rw [← Ny565.out] at ho27)); replace HO0_1 := zA (kK (zPV HO0_1.out) (Kd.N_base ho27) hb); replace HO1 := zA (kK (zPV HO1.out) (Kd.N_base ho27) hb); have HO567 := zA (jN ho27 (kP (zT HB.out GE564.out))); replace BK564 := zA (zB1 BK564.out hb); replace HB := zA (kQ (zT HB.out GE564.out) hb); clear hb ho27; obtain ⟨Ao28, co28, eo28⟩ := Kd.N_slice HO567.out; subst eo28) | (refine zO (some 12) Tryd.func57 #[.agg #[.int .i64 a0_0, .slice A0_1 l0_1.length c0_1], .slice Ao28 y565.length co28] ?_; (with_reducible refine (impl_checkWords.calls k a0_0 _ _ l0_1 _ _ y565 t568 _ ?side1 ?side2 ?side3 ?side4 ?side5 A3.out).mono ?_); (case side1 => exact zS (kJ HO0_1.out).2.2); (case side2 => exact (kJ HO0_1.out).2.1); (case side3 => exact zS (Kd.N_reads' HO567.out).2.2); (case side4 => exact (Kd.N_reads' HO567.out).2.1); (case side5 => exact TabW.below HT.out (zT HB.out GE564.out)); rintro e w29 ⟨rfl, hb⟩; refine ⟨_, rfl, ?_⟩; replace HO0_1 := zA (kG (zPV HO0_1.out) hb); replace HO1 := zA (kG (zPV HO1.out) hb); replace HO567 := zA (kZ (zPN HO567.out) hb); replace BK564 := zA (zB1 BK564.out hb); replace HB := zA (kQ (zT HB.out GE564.out) hb); (try clear hb)))
 go_ret2
 exact ⟨zr, zT HB.out GE564.out⟩

/-! ### laws_FnExactIsPrimitive: function 5 -/
def laws_FnExactIsPrimitive.f (k : Nat) (a0_0 : Int) (l0_1 : List Int) (l1 : List Int) : Option (Bool) := if (l1.length : Int) > 1048576 then (some true) else ((laws_szAlphabet.f a0_0 l0_1 1048576).bind fun t577 => (if t577 < 0 then (some true) else ((laws_toAlphabet.f k a0_0 l0_1).bind fun bt578 => ((laws_toInt64S.f k l1).bind fun t582 => ((spec_IsPrimitive.f k bt578.1 bt578.2 t582).bind fun bt585 => ((laws_toAlphabet.f k a0_0 l0_1).bind fun bt587 => ((laws_toInt64S.f k l1).bind fun t592 => ((impl_IsPrimitive.f k bt587.1 bt587.2 t592).bind fun bt595 => (if (bt595.1 != bt585.1) = true then (none) else (if bt595.2 = bt585.2 then ((laws_toAlphabet.f k a0_0 l0_1).bind fun bt597 => ((laws_eqAlphabet.f k bt587.1 bt587.2 bt597.1 bt597.2).bind fun t601 => (if t601 = true then ((laws_toInt64S.f k l1).bind fun t602 => ((laws_eqInt64S.f k t592 t602).bind fun t605 => (if t605 = true then (some true) else (none)))) else (none)))) else (none)))))))))))

set_option maxHeartbeats 8000000 in
set_option maxRecDepth 100000 in
theorem laws_FnExactIsPrimitive.calls (k : Nat) (a0_0 : Int) (A0_1 : Option Addr) (c0_1 : Nat) (l0_1 : List Int) (A1 : Option Addr) (c1 : Nat) (l1 : List Int) (r : Bool) (w : World) (hr0_1 : Kd.C (Kd.int .i64) w A0_1 l0_1.length l0_1) (hc0_1 : l0_1.length ≤ c0_1) (hr1 : Kd.C (Kd.int .i64) w A1 l1.length l1) (hc1 : l1.length ≤ c1) (hT : TabW w) (h : laws_FnExactIsPrimitive.f k a0_0 l0_1 l1 = some r) :
  Calls Tryd.prog 5 #[.agg #[.int .i64 a0_0, .slice A0_1 l0_1.length c0_1], .slice A1 l1.length c1] w fun e w' => e = .returned (.bool r) ∧ Below w.heap.size w w' := by
 have hu24 := Tryd.underlying24
 have hu28 := Tryd.underlying28
 have HT := zA hT
 clear hT
 have HR0_1 := zA hr0_1
 have HC0_1 := zA hc0_1
 clear hr0_1 hc0_1
 have HR1 := zA hr1
 have HC1 := zA hc1
 clear hr1 hc1
 have HB := zA (kW w.heap.size w)
 have H := h
 unfold laws_FnExactIsPrimitive.f at H
 clear h
 by_cases c3 : (l1.length : Int) > 1048576
 ·rw [if_pos c3] at H
  have c3b0 : decide (1048576 < (l1.length : Int)) = true := decide_eq_true c3
  have c3b1 : decide (1048576 < l1.length) = true := decide_eq_true (by omega)
  clear c3
  obtain rfl := Option.some.inj H
  go_enter Tryd.func5, Tryd.ntmps5
  go_wp2_with (first | (refine zBE 2 #[.int .i64 a0_0, .slice A0_1 l0_1.length c0_1] 24 ?_; intro gb576 hg w4 hbox hb; have BK576 := zA (hbox); have GW576 := zA (zBH hg HB.out); have GE576 := zA (zBH hg HB.out); replace HB := zA (kQ (zQ HB.out) hb); clear hb hbox hg))
  go_ret
  exact ⟨zr, zT HB.out GE576.out⟩
 rw [if_neg c3] at H
 have c3b0 : decide (1048576 < (l1.length : Int)) = false := decide_eq_false c3
 have c3b1 : decide (1048576 < l1.length) = false := decide_eq_false (by omega)
 clear c3
 obtain ⟨t577, A5, H⟩ := zb H
 try dsimp only at H
 by_cases c6 : t577 < 0
 ·rw [if_pos c6] at H
  have c6b0 : decide (t577 < 0) = true := decide_eq_true c6
  clear c6
  obtain rfl := Option.some.inj H
  go_enter Tryd.func5, Tryd.ntmps5
  go_wp2_with (first | (refine zBE 2 #[.int .i64 a0_0, .slice A0_1 l0_1.length c0_1] 24 ?_; intro gb576 hg w7 hbox hb; have BK576 := zA (hbox); have GW576 := zA (zBH hg HB.out); have GE576 := zA (zBH hg HB.out); replace HB := zA (kQ (zQ HB.out) hb); clear hb hbox hg; obtain ⟨hcz8_0, hcz8_1, hfz8_0, hfz8_1⟩ := zB3 BK576.out) | (refine zO (some 17) Tryd.func15 #[.agg #[.int .i64 a0_0, .slice A0_1 l0_1.length c0_1], .int .i64 1048576] ?_; (with_reducible refine (laws_szAlphabet.calls a0_0 _ _ l0_1 1048576 t577 _ ?side1 ?side2 A5.out).mono ?_); (case side1 => exact zS (kO HR0_1.out HB.out)); (case side2 => exact HC0_1.out); rintro e w9 ⟨rfl, hb⟩; refine ⟨_, rfl, ?_⟩; replace BK576 := zA (zB1 BK576.out hb); replace HB := zA (kQ (zT HB.out GE576.out) hb); (try clear hb)))
  go_ret
  exact ⟨zr, zT HB.out GE576.out⟩
 rw [if_neg c6] at H
 have c6b0 : decide (t577 < 0) = false := decide_eq_false c6
 clear c6
 obtain ⟨⟨t578, t579⟩, A10, H⟩ := zb H
 try dsimp only at H
 obtain ⟨t582, A11, H⟩ := zb H
 try dsimp only at H
 obtain ⟨⟨t585, t586⟩, A12, H⟩ := zb H
 try dsimp only at H
 obtain ⟨⟨t587, t588⟩, A13, H⟩ := zb H
 try dsimp only at H
 obtain ⟨t592, A14, H⟩ := zb H
 try dsimp only at H
 obtain ⟨⟨t595, t596⟩, A15, H⟩ := zb H
 try dsimp only at H
 by_cases c16 : (t595 != t585) = true
 ·rw [if_pos c16] at H
  exact absurd H (by simp)
 rw [if_neg c16] at H
 have c16b0 : (t595 != t585) = false := by simpa using c16
 (try (have c16b1 : decide (t595 = t585) = true := by simpa using c16))
 (try (have c16b2 : (t595 == t585) = true := by simpa using c16))
 clear c16
 by_cases c17 : t596 = t586
 ·rw [if_pos c17] at H
  obtain ⟨c17b0, c17b1⟩ := zT1 c17
  clear c17
  obtain ⟨⟨t597, t598⟩, A18, H⟩ := zb H
  try dsimp only at H
  obtain ⟨t601, A19, H⟩ := zb H
  try dsimp only at H
  by_cases c20 : t601 = true
  ·subst c20
   rw [if_pos rfl] at H
   obtain ⟨t602, A21, H⟩ := zb H
   try dsimp only at H
   obtain ⟨t605, A22, H⟩ := zb H
   try dsimp only at H
   by_cases c23 : t605 = true
   ·subst c23
    rw [if_pos rfl] at H
    obtain rfl := Option.some.inj H
    go_enter Tryd.func5, Tryd.ntmps5
    try go_wp2_with (first | (refine zBE 2 #[.int .i64 a0_0, .slice A0_1 l0_1.length c0_1] 24 ?_; intro gb576 hg w24 hbox hb; have BK576 := zA (hbox); have GW576 := zA (zBH hg HB.out); have GE576 := zA (zBH hg HB.out); replace HB := zA (kQ (zQ HB.out) hb); clear hb hbox hg; obtain ⟨hcz25_0, hcz25_1, hfz25_0, hfz25_1⟩ := zB3 BK576.out) | (refine zO (some 17) Tryd.func15 #[.agg #[.int .i64 a0_0, .slice A0_1 l0_1.length c0_1], .int .i64 1048576] ?_; (with_reducible refine (laws_szAlphabet.calls a0_0 _ _ l0_1 1048576 t577 _ ?side1 ?side2 A5.out).mono ?_); (case side1 => exact zS (kO HR0_1.out HB.out)); (case side2 => exact HC0_1.out); rintro e w26 ⟨rfl, hb⟩; refine ⟨_, rfl, ?_⟩; replace BK576 := zA (zB1 BK576.out hb); replace HB := zA (kQ (zT HB.out GE576.out) hb); (try clear hb); obtain ⟨hcz27_0, hcz27_1, hfz27_0, hfz27_1⟩ := zB3 BK576.out) | (refine zO (some 22) Tryd.func17 #[.agg #[.int .i64 a0_0, .slice A0_1 l0_1.length c0_1]] ?_; (with_reducible refine (laws_toAlphabet.calls k a0_0 _ _ l0_1 t578 t579 _ ?side1 ?side2 A10.out).mono ?_); (case side1 => exact zS (kO HR0_1.out HB.out)); (case side2 => exact HC0_1.out); rintro e w28 ⟨v580, rfl, ho0, hb⟩; refine ⟨_, rfl, ?_⟩; have HO581 := zA (kI ho0 (kP (zT HB.out GE576.out))); replace BK576 := zA (zB1 BK576.out hb); replace HB := zA (kQ (zT HB.out GE576.out) hb); (try clear hb); (try clear ho0)) | (refine zO (some 24) Tryd.func18 #[.slice A1 l1.length c1] ?_; (with_reducible refine (laws_toInt64S.calls k _ _ l1 t582 _ ?side1 ?side2 A11.out).mono ?_); (case side1 => exact zS (kO HR1.out HB.out)); (case side2 => exact HC1.out); rintro e w29 ⟨v583, rfl, ho0, hb⟩; refine ⟨_, rfl, ?_⟩; have HO584 := zA (kI (kF ho0 (kH (zP HO581.out))) (kP (zT HB.out GE576.out))); replace HO581 := zA (kE (zP HO581.out) (kC ho0) hb); replace BK576 := zA (zB1 BK576.out hb); replace HB := zA (kQ (zT HB.out GE576.out) hb); (try clear hb); (try clear ho0); obtain ⟨Ao30, co30, eo30⟩ := kM HO581.out; subst eo30; obtain ⟨Ao31, co31, eo31⟩ := kM HO584.out; subst eo31) | (refine zO (some 25) Tryd.func27 #[.agg #[.int .i64 t578, .slice Ao30 t579.length co30], .slice Ao31 t582.length co31] ?_; (with_reducible refine (spec_IsPrimitive.calls k t578 _ _ t579 _ _ t582 t585 t586 _ ?side1 ?side2 ?side3 ?side4 A12.out).mono ?_); (case side1 => exact zS (kB HO581.out).2.2); (case side2 => exact (kB HO581.out).2.1); (case side3 => exact zS (kB HO584.out).2.2); (case side4 => exact (kB HO584.out).2.1); rintro e w32 ⟨rfl, hb⟩; refine ⟨_, rfl, ?_⟩; replace HO581 := zA (kL (zP HO581.out) hb); replace HO584 := zA (kL (zP HO584.out) hb); replace BK576 := zA (zB1 BK576.out hb); replace HB := zA (kQ (zT HB.out GE576.out) hb); (try clear hb); obtain ⟨hcz33_0, hcz33_1, hfz33_0, hfz33_1⟩ := zB3 BK576.out) | (refine zO (some 29) Tryd.func17 #[.agg #[.int .i64 a0_0, .slice A0_1 l0_1.length c0_1]] ?_; (with_reducible refine (laws_toAlphabet.calls k a0_0 _ _ l0_1 t587 t588 _ ?side1 ?side2 A13.out).mono ?_); (case side1 => exact zS (kO HR0_1.out HB.out)); (case side2 => exact HC0_1.out); rintro e w34 ⟨v589, rfl, ho0, hb⟩; refine ⟨_, rfl, ?_⟩; have HO590 := zA (kI (kF (kF ho0 (kH (zP HO581.out))) (kH (zP HO584.out))) (kP (zT HB.out GE576.out))); replace HO581 := zA (kE (zP HO581.out) (kC ho0) hb); replace HO584 := zA (kE (zP HO584.out) (kC ho0) hb); replace BK576 := zA (zB1 BK576.out hb); replace HB := zA (kQ (zT HB.out GE576.out) hb); (try clear hb); (try clear ho0)) | (refine zBE 8 #[.int .i64 0, .slice none 0 0] 28 ?_; intro gb591 hg w35 hbox hb; replace HO581 := zA (kL (zP HO581.out) hb); replace HO584 := zA (kL (zP HO584.out) hb); replace HO590 := zA (kL (zP HO590.out) hb); have BK591 := zA (hbox); have GW591 := zA (zB6 hg (kP (zT HB.out GE576.out)) : w.heap.size ≤ gb591); have GE591 := zA (zB6 hg (kP (zT HB.out GE576.out)) : w.heap.size ≤ gb591); replace HB := zA (kQ (zT HB.out GE576.out) hb); have NB576_591 := zA (zB4 hg BK576.out : gb576 ≠ gb591); have NB591_576 := zA (zB5 hg BK576.out : gb591 ≠ gb576); replace BK576 := zA (zB1 BK576.out hb); clear hb hbox hg; have hnb36 := NB591_576.out; have hnc36 := NB576_591.out; obtain ⟨hcz37_0, hcz37_1, hfz37_0, hfz37_1⟩ := zB3 BK591.out; obtain ⟨Ao38, co38, eo38⟩ := kM HO590.out; subst eo38) | (refine zO (some 31) Tryd.func18 #[.slice A1 l1.length c1] ?_; (with_reducible refine (laws_toInt64S.calls k _ _ l1 t592 _ ?side1 ?side2 A14.out).mono ?_); (case side1 => exact kO HR1.out (zV HB.out GE576.out GE591.out)); (case side2 => exact HC1.out); rintro e w39 ⟨v593, rfl, ho0, hb⟩; refine ⟨_, rfl, ?_⟩; have HO594 := zA (kI (kF (kF (kF ho0 (kH (zP (zFG HO581.out BK591.out (.int .i64 t587) (.slice Ao38 t588.length co38))))) (kH (zP (zFG HO584.out BK591.out (.int .i64 t587) (.slice Ao38 t588.length co38))))) (kH (zP (zFG HO590.out BK591.out (.int .i64 t587) (.slice Ao38 t588.length co38))))) (kP (zV HB.out GE576.out GE591.out))); replace HO581 := zA (kE (zP (zFG HO581.out BK591.out (.int .i64 t587) (.slice Ao38 t588.length co38))) (kC ho0) hb); replace HO584 := zA (kE (zP (zFG HO584.out BK591.out (.int .i64 t587) (.slice Ao38 t588.length co38))) (kC ho0) hb); replace HO590 := zA (kE (zP (zFG HO590.out BK591.out (.int .i64 t587) (.slice Ao38 t588.length co38))) (kC ho0) hb); replace BK576 := zA (blk_below (g := gb576) (o := .cells #[.int .i64 a0_0, .slice A0_1 l0_1.length c0_1] 24 (0, 0)) (zBG BK576.out NB576_591.out NB576_591.out) hb); replace BK591 := zA (blk_below (g := gb591) (o := .cells #[.int .i64 t587, .slice Ao38 t588.length co38] 28 (0, 0)) (zRP BK591.out) hb); replace HB := zA (kQ (zV HB.out GE576.out GE591.out) hb); (try clear hb); (try clear ho0); obtain ⟨hcz40_0, hcz40_1, hfz40_0, hfz40_1⟩ := zB3 BK591.out; obtain ⟨Ao41, co41, eo41⟩ := kM HO594.out; subst eo41) | (refine zO (some 35) Tryd.func28 #[.agg #[.int .i64 t587, .slice Ao38 t588.length co38], .slice Ao41 t592.length co41] ?_; (with_reducible refine (impl_IsPrimitive.calls k t587 (fun k_ => some k_ = (.slice Ao38 t588.length co38 : Value).ownBlock) _ _ t588 (fun k_ => some k_ = (.slice Ao41 t592.length co41 : Value).ownBlock) _ _ t592 t595 t596 _ ?side1 ?side2 ?side3 A15.out).mono ?_); (case side1 => exact jL (jK rfl (kD (kD (HO590.out) BK576.out (by decide)) BK591.out (by decide)))); (case side2 => exact jL (jK rfl (kD (kD (HO594.out) BK576.out (by decide)) BK591.out (by decide)))); (case side3 => exact TabW.below HT.out (zV HB.out GE576.out GE591.out)); rintro e w42 ⟨rfl, hb⟩; refine ⟨_, rfl, ?_⟩; replace HO581 := zA (kL (zP HO581.out) hb); replace HO584 := zA (kL (zP HO584.out) hb); replace HO590 := zA (kL (zP HO590.out) hb); replace HO594 := zA (kL (zP HO594.out) hb); replace BK576 := zA (zB1 BK576.out hb); replace BK591 := zA (zB1 BK591.out hb); replace HB := zA (kQ (zV HB.out GE576.out GE591.out) hb); (try clear hb)))
    replace HO581 := zA (zH HO581.out)
    replace HO584 := zA (zH HO584.out)
    replace HO590 := zA (zH HO590.out)
    replace HO594 := zA (zH HO594.out)
    replace BK576 := zA (zK BK576.out)
    replace BK591 := zA (zK BK591.out)
    replace HB := zA (zD HB.out)
    refine start_ (n := 5) (S := fun w' => w'.cell? ⟨gb591, 0, none⟩ = some (.int .i64 t587) ∧ w'.cell? ⟨gb591, 1, none⟩ = some (.slice Ao38 t588.length co38) ∧ w'.cell? ⟨gb576, 0, none⟩ = some (.int .i64 a0_0) ∧ w'.cell? ⟨gb576, 1, none⟩ = some (.slice A0_1 l0_1.length c0_1)) (ds := []) #[false, false, false, false, false] (by kernel_rfl) rfl rfl ⟨(kV BK591.out 0).trans rfl, (kV BK591.out 1).trans rfl, (kV BK576.out 0).trans rfl, (kV BK576.out 1).trans rfl⟩ (fun hHeld => ?_)
    generalize w42.drew = w43 at HO581 HO584 HO590 HO594 BK576 BK591 HB hHeld ⊢
    refine take_ (i := 0) (N := some 46) (v := ?_) (a' := ?_) #[true, false, false, false, false] rfl rfl (by kernel_rfl) (fun _ _ _ h => h) (Or.inl ⟨by rfl, ?_⟩) hHeld ?_ ?_
    rotate_left
    ·rintro w' ⟨s0, s1, s2, s3⟩
     go_simp
     with_reducible rfl
    rotate_left
    ·simp only [Act.put, zL, zM, zN, i64_w, i32_w]
     rfl
    refine take_ (i := 1) (N := some 47) (v := ?_) (a' := ?_) #[true, true, false, false, false] rfl rfl (by kernel_rfl) (fun _ _ _ h => h) (Or.inl ⟨by rfl, ?_⟩) hHeld ?_ ?_
    rotate_left
    ·rintro w' ⟨s0, s1, s2, s3⟩
     go_simp
     with_reducible rfl
    rotate_left
    ·simp only [Act.put, zL, zM, zN, i64_w, i32_w]
     rfl
    refine one_ (i := 2) (N := some 48) #[true, true, true, false, false] rfl rfl (by kernel_rfl) (by decide) (fun K hK => ?_)
    refine goes_ Tryd.func17 (by kernel_rfl) rfl #[.agg #[.int .i64 a0_0, .slice A0_1 l0_1.length c0_1]] (by rfl) rfl rfl zg ?_
    with_reducible refine (laws_toAlphabet.calls k a0_0 _ _ l0_1 t597 t598 _ ?side1 ?side2 A18.out).mono ?_
    (case side1 => exact zS (kO HR0_1.out HB.out))
    (case side2 => exact HC0_1.out)
    rintro e w44 ⟨v599, rfl, ho0, hb⟩
    refine ⟨_, rfl, ?_⟩
    have HO600 := zA (kI (kF (kF (kF (kF ho0 (kH (zP HO581.out))) (kH (zP HO584.out))) (kH (zP HO590.out))) (kH (zP HO594.out))) (kP (zV HB.out GE576.out GE591.out)))
    replace HO581 := zA (kE (zP HO581.out) (kC ho0) hb)
    replace HO584 := zA (kE (zP HO584.out) (kC ho0) hb)
    replace HO590 := zA (kE (zP HO590.out) (kC ho0) hb)
    replace HO594 := zA (kE (zP HO594.out) (kC ho0) hb)
    replace BK576 := zA (zB1 BK576.out hb)
    replace BK591 := zA (zB1 BK591.out hb)
    replace HB := zA (kQ (zV HB.out GE576.out GE591.out) hb)
    (try clear hb)
    (try clear hb2)
    (try clear hk)
    (try clear hi)
    (try clear hgw)
    (try clear ho0)
    obtain ⟨Ao45, co45, eo45⟩ := kM HO600.out
    (first | subst eo45 | (injection eo45 with f1_ f2_ f3_; have f4_ := f1_.symm; have f5_ := f3_.symm; clear f1_ f2_ f3_; subst f4_; subst f5_))
    refine hK.out _ _ ⟨(kV BK591.out 0).trans rfl, (kV BK591.out 1).trans rfl, (kV BK576.out 0).trans rfl, (kV BK576.out 1).trans rfl⟩ (fun hHeld => ?_)
    clear hK K
    refine norm_ (a' := ?_) ?_ ?_
    rotate_left
    ·show Act.put _ (some 48) _ = _
     simp only [Act.put, zL, zM, zN, i64_w, i32_w]
     rfl
    refine one_ (i := 3) (N := some 49) #[true, true, true, true, false] rfl rfl (by kernel_rfl) (by decide) (fun K hK => ?_)
    refine goes_ Tryd.func21 (by kernel_rfl) rfl #[.agg #[.int .i64 t587, .slice Ao38 t588.length co38], .agg #[.int .i64 t597, .slice Ao45 t598.length co45]] (by rfl) rfl rfl zg ?_
    with_reducible refine (laws_eqAlphabet.calls k t587 _ _ t588 t597 _ _ t598 true _ ?side1 ?side2 ?side3 ?side4 A19.out).mono ?_
    (case side1 => exact zS (kB HO590.out).2.2)
    (case side2 => exact (kB HO590.out).2.1)
    (case side3 => exact zS (kB HO600.out).2.2)
    (case side4 => exact (kB HO600.out).2.1)
    rintro e w46 ⟨rfl, hb⟩
    refine ⟨_, rfl, ?_⟩
    replace HO581 := zA (kL (zP HO581.out) hb)
    replace HO584 := zA (kL (zP HO584.out) hb)
    replace HO590 := zA (kL (zP HO590.out) hb)
    replace HO594 := zA (kL (zP HO594.out) hb)
    replace HO600 := zA (kL (zP HO600.out) hb)
    replace BK576 := zA (zB1 BK576.out hb)
    replace BK591 := zA (zB1 BK591.out hb)
    replace HB := zA (kQ (zV HB.out GE576.out GE591.out) hb)
    (try clear hb)
    (try clear hb2)
    (try clear hk)
    (try clear hi)
    (try clear hgw)
    refine hK.out _ _ ⟨(kV BK591.out 0).trans rfl, (kV BK591.out 1).trans rfl, (kV BK576.out 0).trans rfl, (kV BK576.out 1).trans rfl⟩ (fun hHeld => ?_)
    clear hK K
    refine norm_ (a' := ?_) ?_ ?_
    rotate_left
    ·show Act.put _ (some 49) _ = _
     simp only [Act.put, zL, zM, zN, i64_w, i32_w]
     rfl
    refine pure_ (i := 4) (N := some 50) (v := ?_) (a' := ?_) #[true, true, true, true, true] rfl rfl (by kernel_rfl) (fun _ _ _ h => h) (Or.inl ⟨by rfl, ?_⟩) ?_ ?_
    rotate_left
    ·intro w'
     go_simp
     with_reducible rfl
    rotate_left
    ·simp only [Act.put, zL, zM, zN, i64_w, i32_w]
     rfl
    refine done_ (by kernel_rfl) ?_
    try go_wp2_with (first | (refine zO (some 53) Tryd.func18 #[.slice A1 l1.length c1] ?_; (with_reducible refine (laws_toInt64S.calls k _ _ l1 t602 _ ?side1 ?side2 A21.out).mono ?_); (case side1 => exact zS (kO HR1.out HB.out)); (case side2 => exact HC1.out); rintro e w47 ⟨v603, rfl, ho0, hb⟩; refine ⟨_, rfl, ?_⟩; have HO604 := zA (kI (kF (kF (kF (kF (kF ho0 (kH (zP HO581.out))) (kH (zP HO584.out))) (kH (zP HO590.out))) (kH (zP HO594.out))) (kH (zP HO600.out))) (kP (zV HB.out GE576.out GE591.out))); replace HO581 := zA (kE (zP HO581.out) (kC ho0) hb); replace HO584 := zA (kE (zP HO584.out) (kC ho0) hb); replace HO590 := zA (kE (zP HO590.out) (kC ho0) hb); replace HO594 := zA (kE (zP HO594.out) (kC ho0) hb); replace HO600 := zA (kE (zP HO600.out) (kC ho0) hb); replace BK576 := zA (zB1 BK576.out hb); replace BK591 := zA (zB1 BK591.out hb); replace HB := zA (kQ (zV HB.out GE576.out GE591.out) hb); (try clear hb); (try clear ho0); obtain ⟨Ao48, co48, eo48⟩ := kM HO604.out; subst eo48) | (refine zO (some 54) Tryd.func20 #[.slice Ao41 t592.length co41, .slice Ao48 t602.length co48] ?_; (with_reducible refine (laws_eqInt64S.calls k _ _ t592 _ _ t602 true _ ?side1 ?side2 ?side3 ?side4 A22.out).mono ?_); (case side1 => exact zS (kB HO594.out).2.2); (case side2 => exact (kB HO594.out).2.1); (case side3 => exact zS (kB HO604.out).2.2); (case side4 => exact (kB HO604.out).2.1); rintro e w' ⟨rfl, ⟨nd, rfl⟩⟩; refine ⟨_, rfl, ?_⟩))
    go_ret
    exact ⟨zr, zV HB.out GE576.out GE591.out⟩
   replace c23 := Bool.eq_false_iff.mpr c23
   subst c23
   rw [if_neg (show ¬ (false = true) by decide)] at H
   exact absurd H (by simp)
  replace c20 := Bool.eq_false_iff.mpr c20
  subst c20
  rw [if_neg (show ¬ (false = true) by decide)] at H
  exact absurd H (by simp)
 rw [if_neg c17] at H
 exact absurd H (by simp)

end Go.Proofs.YtfnnnopbcdiibaaDoor.PAll
