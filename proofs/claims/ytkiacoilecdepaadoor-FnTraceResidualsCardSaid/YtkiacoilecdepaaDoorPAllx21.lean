-- Printed by a program of the session (wip/tools/pgen.py) out of the translation. Not trusted: Lean checks it.
import Derived.Test.YtkiacoilecdepaaDoorPAllx0
import Derived.Test.YtkiacoilecdepaaDoorPAllx4
namespace Go.Proofs.YtkiacoilecdepaaDoor.PAll
open Go.RowKit Go.Proofs.YtkiacoilecdepaaDoor.T Go.Proofs.YtkiacoilecdepaaDoorW.PrintWords Go.Proofs.YtkiacoilecdepaaDoorW.PrintLast Go.Proofs.YtkiacoilecdepaaDoorW.PrintMore
attribute [local go_sem] max2_int min2_int max_two min_two max_three min_three max_four min_four   -- for this text's walks alone
set_option linter.unusedVariables false
set_option linter.unusedSimpArgs false

/-! ### impl_ties_limited: function 72 -/
def impl_ties_limited.f (k : Nat) (l0 : List Int) (l1 : List Int) : Option (List Int × Int) := if (l1.length : Int) > 24 then (some (([] : List Int), 3)) else ((impl_ties_normal.f k l0 l1).bind fun t844 => (some (t844, 0)))

set_option maxHeartbeats 8000000 in
set_option maxRecDepth 100000 in
theorem impl_ties_limited.calls (k : Nat) (A0 : Option Addr) (c0 : Nat) (l0 : List Int) (A1 : Option Addr) (c1 : Nat) (l1 : List Int) (r1 : List Int) (r2 : Int) (w : World) (hr0 : Kd.C (Kd.int .i64) w A0 l0.length l0) (hc0 : l0.length ≤ c0) (hr1 : Kd.C (Kd.int .i64) w A1 l1.length l1) (hc1 : l1.length ≤ c1) (hT : TabW w) (h : impl_ties_limited.f k l0 l1 = some (r1, r2)) :
  Calls Tryd.prog 72 #[.slice A0 l0.length c0, .slice A1 l1.length c1] w fun e w' => ∃ v0_ : Value, e = .returned (.tuple #[v0_, .int .i64 r2]) ∧ Kd.R (Kd.int .i64) 2 w' w.heap.size (fun _ => True) v0_ r1 ∧ Below w.heap.size w w' := by
 have HT := zA hT
 clear hT
 have HR0 := zA hr0
 have HC0 := zA hc0
 clear hr0 hc0
 have HR1 := zA hr1
 have HC1 := zA hc1
 clear hr1 hc1
 have HB := zA (kW w.heap.size w)
 have H := h
 unfold impl_ties_limited.f at H
 clear h
 by_cases c3 : (l1.length : Int) > 24
 ·rw [if_pos c3] at H
  have c3b0 : decide (24 < (l1.length : Int)) = true := decide_eq_true c3
  have c3b1 : decide (24 < l1.length) = true := decide_eq_true (by omega)
  clear c3
  simp only [Option.some.injEq, Prod.mk.injEq] at H
  obtain ⟨rfl, rfl⟩ := H
  go_enter Tryd.func72, Tryd.ntmps72
  go_wp2
  go_ret2
  exact ⟨_, zr, zn, zQ HB.out⟩
 rw [if_neg c3] at H
 have c3b0 : decide (24 < (l1.length : Int)) = false := decide_eq_false c3
 have c3b1 : decide (24 < l1.length) = false := decide_eq_false (by omega)
 clear c3
 obtain ⟨t844, A4, H⟩ := zb H
 try dsimp only at H
 simp only [Option.some.injEq, Prod.mk.injEq] at H
 obtain ⟨rfl, rfl⟩ := H
 go_enter Tryd.func72, Tryd.ntmps72
 go_wp2_with (first | (refine zO (some 11) Tryd.func56 #[.slice A0 l0.length c0, .slice A1 l1.length c1] ?_; (with_reducible refine (impl_ties_normal.calls k _ _ l0 (fun k_ => k_ < w.heap.size) _ _ l1 t844 _ ?side1 ?side2 ?side3 ?side4 A4.out).mono ?_); (case side1 => exact zS HR0.out); (case side2 => exact HC0.out); (case side3 => exact Kd.V_mk HC1.out (Kd.F_below (Kd.C_F (Kd.heap_int .i64) HR1.out) (zQ HB.out))); (case side4 => exact TabW.below HT.out (zQ HB.out)); rintro e w5 ⟨v845, rfl, ho0, hb⟩; refine ⟨_, rfl, ?_⟩; have HO846 := zA (kI (kA (ok' := fun k_ => True) ho0 (fun _ hk_ => trivial)) (kP (zQ HB.out))); replace HB := zA (kQ (zQ HB.out) hb); (try clear hb); (try clear ho0)))
 go_ret2
 exact ⟨_, zr, zP HO846.out, zQ HB.out⟩

/-! ### impl_Concatenate: function 25 -/
def impl_Concatenate.f (k : Nat) (a0_0 : Int) (l0_1 : List Int) (l1 : List Int) (l2 : List Int) : Option (List Int × Int) := (impl_checkWords.f k a0_0 l0_1 (([l1, l2] : List (List Int)))).bind fun t851 => (if t851 = 0 then ((impl_Alphabet_ties.f a0_0 l0_1).bind fun t852 => ((slices_Concat_int64_int64.f (([l1, l2] : List (List Int)))).bind fun t858 => ((impl_ties_limited.f k t852 t858).bind fun bt861 => (some (bt861.1, bt861.2))))) else (some (([] : List Int), t851)))

set_option maxHeartbeats 8000000 in
set_option maxRecDepth 100000 in
theorem impl_Concatenate.calls (k : Nat) (a0_0 : Int) (P0_1_ : Nat → Prop) (A0_1 : Option Addr) (c0_1 : Nat) (l0_1 : List Int) (P1_ : Nat → Prop) (A1 : Option Addr) (c1 : Nat) (l1 : List Int) (P2_ : Nat → Prop) (A2 : Option Addr) (c2 : Nat) (l2 : List Int) (r1 : List Int) (r2 : Int) (w : World) (hs0_1 : Kd.V (Kd.int .i64) 2 w w.heap.size (fun k_ => P0_1_ k_) (.slice A0_1 l0_1.length c0_1) l0_1) (hs1 : Kd.V (Kd.int .i64) 2 w w.heap.size (fun k_ => P1_ k_) (.slice A1 l1.length c1) l1) (hs2 : Kd.V (Kd.int .i64) 2 w w.heap.size (fun k_ => P2_ k_) (.slice A2 l2.length c2) l2) (hT : TabW w) (h : impl_Concatenate.f k a0_0 l0_1 l1 l2 = some (r1, r2)) :
  Calls Tryd.prog 25 #[.agg #[.int .i64 a0_0, .slice A0_1 l0_1.length c0_1], .slice A1 l1.length c1, .slice A2 l2.length c2] w fun e w' => ∃ v0_ : Value, e = .returned (.tuple #[v0_, .int .i64 r2]) ∧ Kd.R (Kd.int .i64) 2 w' w.heap.size (fun k_ => (w.heap.size ≤ k_)) v0_ r1 ∧ Below w.heap.size w w' := by
 have hu26 := Tryd.underlying26
 have HT := zA hT
 clear hT
 have HO0_1 := zA (show Kd.V (Kd.int .i64) 2 w w.heap.size (fun k_ => ((P0_1_ k_ ∨ P1_ k_ ∨ P2_ k_) ∨ w.heap.size ≤ k_)) (.slice A0_1 l0_1.length c0_1) l0_1 from kN hs0_1 (fun k_ hk => .inl (.inl hk)))
 have HO1 := zA (show Kd.V (Kd.int .i64) 2 w w.heap.size (fun k_ => ((P0_1_ k_ ∨ P1_ k_ ∨ P2_ k_) ∨ w.heap.size ≤ k_)) (.slice A1 l1.length c1) l1 from kN hs1 (fun k_ hk => .inl (.inr (.inl hk))))
 have HO2 := zA (show Kd.V (Kd.int .i64) 2 w w.heap.size (fun k_ => ((P0_1_ k_ ∨ P1_ k_ ∨ P2_ k_) ∨ w.heap.size ≤ k_)) (.slice A2 l2.length c2) l2 from kN hs2 (fun k_ hk => .inl (.inr (.inr hk))))
 have HB := zA (kW w.heap.size w)
 have H := h
 unfold impl_Concatenate.f at H
 clear h
 obtain ⟨y848, hy848⟩ : ∃ y_ : List (List Int), y_ = (([l1, l2] : List (List Int))) := ⟨_, rfl⟩
 replace H : ((impl_checkWords.f k a0_0 l0_1 y848).bind fun t851 => (if t851 = 0 then ((impl_Alphabet_ties.f a0_0 l0_1).bind fun t852 => ((slices_Concat_int64_int64.f (([l1, l2] : List (List Int)))).bind fun t858 => ((impl_ties_limited.f k t852 t858).bind fun bt861 => (some (bt861.1, bt861.2))))) else (some (([] : List Int), t851)))) = some (r1, r2) := zy hy848 H
 have Ny848 := zA hy848
 clear hy848
 obtain ⟨t851, A4, H⟩ := zb H
 try dsimp only at H
 by_cases c5 : t851 = 0
 ·rw [if_pos c5] at H
  obtain ⟨c5b0, c5b1⟩ := zT1 c5
  clear c5
  obtain ⟨t852, A6, H⟩ := zb H
  try dsimp only at H
  obtain ⟨y855, hy855⟩ : ∃ y_ : List (List Int), y_ = (([l1, l2] : List (List Int))) := ⟨_, rfl⟩
  replace H : ((slices_Concat_int64_int64.f y855).bind fun t858 => ((impl_ties_limited.f k t852 t858).bind fun bt861 => (some (bt861.1, bt861.2)))) = some (r1, r2) := zy hy855 H
  have Ny855 := zA hy855
  clear hy855
  obtain ⟨t858, A7, H⟩ := zb H
  try dsimp only at H
  obtain ⟨⟨t861, t862⟩, A8, H⟩ := zb H
  try dsimp only at H
  simp only [Option.some.injEq, Prod.mk.injEq] at H
  obtain ⟨rfl, rfl⟩ := H
  go_enter Tryd.func25, Tryd.ntmps25
  go_wp2_with (first | (refine zBE 3 #[.int .i64 a0_0, .slice A0_1 l0_1.length c0_1] 26 ?_; intro gb847 hg w9 hbox hb; replace HO0_1 := zA (kG (jD (zPV HO0_1.out) gb847 (Nat.le_of_eq hg.symm)) hb); replace HO1 := zA (kG (jD (zPV HO1.out) gb847 (Nat.le_of_eq hg.symm)) hb); replace HO2 := zA (kG (jD (zPV HO2.out) gb847 (Nat.le_of_eq hg.symm)) hb); have BK847 := zA (hbox); have GW847 := zA (zBH hg HB.out); have GE847 := zA (zBH hg HB.out); replace HB := zA (kQ (zQ HB.out) hb); clear hb hbox hg; obtain ⟨hcz10_0, hcz10_1, hfz10_0, hfz10_1⟩ := zB3 BK847.out) | ((with_reducible refine kS (N := 12) rfl ?_); refine Kd.N_lit (Kd.slice 2 (Kd.int .i64)) _ 24 ?hg (N' := 12) ?hd (xs := ([l1, l2] : List (List Int))) (inner := [.slice A1 l1.length c1, .slice A2 l2.length c2]) (ok := (fun k_ => ((P0_1_ k_ ∨ P1_ k_ ∨ P2_ k_) ∨ w.heap.size ≤ k_) ∧ k_ ≠ gb847)) (okp := (fun k_ => ((P0_1_ k_ ∨ P1_ k_ ∨ P2_ k_) ∨ w.heap.size ≤ k_) ∧ k_ ≠ gb847)) ?hr ?hp (fun _ hk => hk) ((show ∀ k_ : Nat, (_ : Nat) ≤ k_ → (fun k_ => ((P0_1_ k_ ∨ P1_ k_ ∨ P2_ k_) ∨ w.heap.size ≤ k_) ∧ k_ ≠ gb847) k_ from fun k_ hk => ⟨(.inr (Nat.le_trans (kP (zT HB.out GE847.out)) hk)), jE (g := gb847) (o := .cells #[.int .i64 a0_0, .slice A0_1 l0_1.length c0_1] 26 (0, 0)) (zR BK847.out) k_ hk⟩) _ (Nat.le_refl _)) (kW _ _) (Nat.le_refl _) (by simp) ?_; (case hd => rfl); (case hg => rfl); (case hr => first | (go_simp; done) | (go_simp; rfl)); (case hp => exact (Reps.one (show Kd.FK (Kd.slice 2 (Kd.int .i64)) _ _ l1 [.slice A1 l1.length c1] from (zFK (kN (ok' := (fun k_ => ((P0_1_ k_ ∨ P1_ k_ ∨ P2_ k_) ∨ w.heap.size ≤ k_) ∧ k_ ≠ gb847)) (HO1.out) (fun k_ hk => ⟨hk.1, hk.2⟩)))) (Reps.one (show Kd.FK (Kd.slice 2 (Kd.int .i64)) _ _ l2 [.slice A2 l2.length c2] from (zFK (kN (ok' := (fun k_ => ((P0_1_ k_ ∨ P1_ k_ ∨ P2_ k_) ∨ w.heap.size ≤ k_) ∧ k_ ≠ gb847)) (HO2.out) (fun k_ hk => ⟨hk.1, hk.2⟩)))) (Reps.none _ _)))); intro v849 w11 ho12 hb hg_ hnew_; clear hg_ hnew_; (first | rw [← Ny848.out] at ho12 | (simp only [Int.reduceToNat] at ho12; rw [← Ny848.out] at ho12)); replace HO0_1 := zA (kK (zPV HO0_1.out) (Kd.N_base ho12) hb); replace HO1 := zA (kK (zPV HO1.out) (Kd.N_base ho12) hb); replace HO2 := zA (kK (zPV HO2.out) (Kd.N_base ho12) hb); have HO850 := zA (jN ho12 (kP (zT HB.out GE847.out))); replace BK847 := zA (zB1 BK847.out hb); replace HB := zA (kQ (zT HB.out GE847.out) hb); clear hb ho12; obtain ⟨Ao13, co13, eo13⟩ := Kd.N_slice HO850.out; subst eo13) | (refine zO (some 13) Tryd.func49 #[.agg #[.int .i64 a0_0, .slice A0_1 l0_1.length c0_1], .slice Ao13 y848.length co13] ?_; (with_reducible refine (impl_checkWords.calls k a0_0 _ _ l0_1 _ _ y848 t851 _ ?side1 ?side2 ?side3 ?side4 ?side5 A4.out).mono ?_); (case side1 => exact zS (kJ HO0_1.out).2.2); (case side2 => exact (kJ HO0_1.out).2.1); (case side3 => exact zS (Kd.N_reads' HO850.out).2.2); (case side4 => exact (Kd.N_reads' HO850.out).2.1); (case side5 => exact TabW.below HT.out (zT HB.out GE847.out)); rintro e w14 ⟨rfl, hb⟩; refine ⟨_, rfl, ?_⟩; replace HO0_1 := zA (kG (zPV HO0_1.out) hb); replace HO1 := zA (kG (zPV HO1.out) hb); replace HO2 := zA (kG (zPV HO2.out) hb); replace HO850 := zA (kZ (zPN HO850.out) hb); replace BK847 := zA (zB1 BK847.out hb); replace HB := zA (kQ (zT HB.out GE847.out) hb); (try clear hb); obtain ⟨hcz15_0, hcz15_1, hfz15_0, hfz15_1⟩ := zB3 BK847.out) | (refine zO (some 18) Tryd.func50 #[.agg #[.int .i64 a0_0, .slice A0_1 l0_1.length c0_1]] ?_; (with_reducible refine (impl_Alphabet_ties.calls a0_0 (fun k_ => ((((P0_1_ k_ ∨ P1_ k_ ∨ P2_ k_) ∨ w.heap.size ≤ k_) ∧ k_ ≠ gb847) ∧ some k_ ≠ (.slice Ao13 y848.length co13 : Value).ownBlock)) _ _ l0_1 t852 _ ?side1 A6.out).mono ?_); (case side1 => exact HO0_1.out); rintro e w16 ⟨v853, rfl, ho0, hb⟩; refine ⟨_, rfl, ?_⟩; replace HO0_1 := zA (kG (zPV HO0_1.out) hb); replace HO1 := zA (kG (zPV HO1.out) hb); replace HO2 := zA (kG (zPV HO2.out) hb); have HO854 := zA (jM (kN (ok' := fun k_ => ((P0_1_ k_ ∨ P1_ k_ ∨ P2_ k_) ∨ w.heap.size ≤ k_) ∧ some k_ ≠ (.slice Ao13 y848.length co13 : Value).ownBlock ∧ k_ ≠ gb847) ho0 (fun k_ hk_ => ⟨Or.elim hk_ (fun hs_ => hs_.1.1) (fun hn_ => (.inr (Nat.le_trans (kP (zT HB.out GE847.out)) hn_))), Or.elim hk_ (fun hs_ => hs_.2) (fun hn_ => (jF (jA (zPN HO850.out)) k_ hn_)), Or.elim hk_ (fun hs_ => hs_.1.2) (fun hn_ => (jE (g := gb847) (o := .cells #[.int .i64 a0_0, .slice A0_1 l0_1.length c0_1] 26 (0, 0)) (zR BK847.out) k_ hn_))⟩)) (kP (zT HB.out GE847.out))); replace HO850 := zA (kZ (zPN HO850.out) hb); replace BK847 := zA (zB1 BK847.out hb); replace HB := zA (kQ (zT HB.out GE847.out) hb); (try clear hb); (try clear ho0)) | ((with_reducible refine kS (N := 21) rfl ?_); refine Kd.N_lit (Kd.slice 2 (Kd.int .i64)) _ 24 ?hg (N' := 21) ?hd (xs := ([l1, l2] : List (List Int))) (inner := [.slice A1 l1.length c1, .slice A2 l2.length c2]) (ok := (fun k_ => ((P0_1_ k_ ∨ P1_ k_ ∨ P2_ k_) ∨ w.heap.size ≤ k_) ∧ some k_ ≠ (.slice Ao13 y848.length co13 : Value).ownBlock ∧ k_ ≠ gb847)) (okp := (fun k_ => ((P0_1_ k_ ∨ P1_ k_ ∨ P2_ k_) ∨ w.heap.size ≤ k_) ∧ some k_ ≠ (.slice Ao13 y848.length co13 : Value).ownBlock ∧ k_ ≠ gb847)) ?hr ?hp (fun _ hk => hk) ((show ∀ k_ : Nat, (_ : Nat) ≤ k_ → (fun k_ => ((P0_1_ k_ ∨ P1_ k_ ∨ P2_ k_) ∨ w.heap.size ≤ k_) ∧ some k_ ≠ (.slice Ao13 y848.length co13 : Value).ownBlock ∧ k_ ≠ gb847) k_ from fun k_ hk => ⟨(.inr (Nat.le_trans (kP (zT HB.out GE847.out)) hk)), jF (jA (zPN HO850.out)) k_ hk, jE (g := gb847) (o := .cells #[.int .i64 a0_0, .slice A0_1 l0_1.length c0_1] 26 (0, 0)) (zR BK847.out) k_ hk⟩) _ (Nat.le_refl _)) (kW _ _) (Nat.le_refl _) (by simp) ?_; (case hd => rfl); (case hg => rfl); (case hr => first | (go_simp; done) | (go_simp; rfl)); (case hp => exact (Reps.one (show Kd.FK (Kd.slice 2 (Kd.int .i64)) _ _ l1 [.slice A1 l1.length c1] from (zFK (kN (ok' := (fun k_ => ((P0_1_ k_ ∨ P1_ k_ ∨ P2_ k_) ∨ w.heap.size ≤ k_) ∧ some k_ ≠ (.slice Ao13 y848.length co13 : Value).ownBlock ∧ k_ ≠ gb847)) (HO1.out) (fun k_ hk => ⟨hk.1.1, ⟨hk.2, hk.1.2⟩⟩)))) (Reps.one (show Kd.FK (Kd.slice 2 (Kd.int .i64)) _ _ l2 [.slice A2 l2.length c2] from (zFK (kN (ok' := (fun k_ => ((P0_1_ k_ ∨ P1_ k_ ∨ P2_ k_) ∨ w.heap.size ≤ k_) ∧ some k_ ≠ (.slice Ao13 y848.length co13 : Value).ownBlock ∧ k_ ≠ gb847)) (HO2.out) (fun k_ hk => ⟨hk.1.1, ⟨hk.2, hk.1.2⟩⟩)))) (Reps.none _ _)))); intro v856 w17 ho18 hb hg_ hnew_; clear hg_ hnew_; (first | rw [← Ny855.out] at ho18 | (simp only [Int.reduceToNat] at ho18; rw [← Ny855.out] at ho18)); replace HO0_1 := zA (kK (zPV HO0_1.out) (Kd.N_base ho18) hb); replace HO1 := zA (kK (zPV HO1.out) (Kd.N_base ho18) hb); replace HO2 := zA (kK (zPV HO2.out) (Kd.N_base ho18) hb); replace HO850 := zA (Kd.N_elder' (zPN HO850.out) (Kd.N_base ho18) hb); replace HO854 := zA (kK (zPV HO854.out) (Kd.N_base ho18) hb); have HO857 := zA (jN ho18 (kP (zT HB.out GE847.out))); replace BK847 := zA (zB1 BK847.out hb); replace HB := zA (kQ (zT HB.out GE847.out) hb); clear hb ho18; obtain ⟨Ao19, co19, eo19⟩ := Kd.N_slice HO857.out; subst eo19) | (refine zO (some 22) Tryd.func73 #[.slice Ao19 y855.length co19] ?_; (with_reducible refine (slices_Concat_int64_int64.calls _ _ y855 t858 _ ?side1 ?side2 A7.out).mono ?_); (case side1 => exact zS (Kd.N_reads' HO857.out).2.2); (case side2 => exact (Kd.N_reads' HO857.out).2.1); rintro e w20 ⟨v859, rfl, ho0, hb⟩; refine ⟨_, rfl, ?_⟩; replace HO0_1 := zA (kK (zPV HO0_1.out) (kC ho0) hb); replace HO1 := zA (kK (zPV HO1.out) (kC ho0) hb); replace HO2 := zA (kK (zPV HO2.out) (kC ho0) hb); replace HO850 := zA (Kd.N_elder' (zPN HO850.out) (kC ho0) hb); replace HO854 := zA (kK (zPV HO854.out) (kC ho0) hb); replace HO857 := zA (Kd.N_elder' (zPN HO857.out) (kC ho0) hb); have HO860 := zA (kI (Kd.R_newM (M := fun k_ => (w.heap.size ≤ k_)) ho0 (kP (zT HB.out GE847.out)) (fun k_ h_ => h_)) (kP (zT HB.out GE847.out))); replace BK847 := zA (zB1 BK847.out hb); replace HB := zA (kQ (zT HB.out GE847.out) hb); (try clear hb); (try clear ho0); obtain ⟨Ao21, co21, eo21⟩ := Kd.V_slice HO854.out; subst eo21; obtain ⟨Ao22, co22, eo22⟩ := kM HO860.out; subst eo22) | (refine zO (some 23) Tryd.func72 #[.slice Ao21 t852.length co21, .slice Ao22 t858.length co22] ?_; (with_reducible refine (impl_ties_limited.calls k _ _ t852 _ _ t858 t861 t862 _ ?side1 ?side2 ?side3 ?side4 ?side5 A8.out).mono ?_); (case side1 => exact zS (kJ HO854.out).2.2); (case side2 => exact (kJ HO854.out).2.1); (case side3 => exact zS (kB HO860.out).2.2); (case side4 => exact (kB HO860.out).2.1); (case side5 => exact TabW.below HT.out (zT HB.out GE847.out)); rintro e w23 ⟨v863, rfl, ho0, hb⟩; refine ⟨_, rfl, ?_⟩; replace HO0_1 := zA (kK (zPV HO0_1.out) (kC ho0) hb); replace HO1 := zA (kK (zPV HO1.out) (kC ho0) hb); replace HO2 := zA (kK (zPV HO2.out) (kC ho0) hb); replace HO850 := zA (Kd.N_elder' (zPN HO850.out) (kC ho0) hb); replace HO854 := zA (kK (zPV HO854.out) (kC ho0) hb); replace HO857 := zA (Kd.N_elder' (zPN HO857.out) (kC ho0) hb); have HO864 := zA (kI (kF (Kd.R_newM (M := fun k_ => (w.heap.size ≤ k_)) ho0 (kP (zT HB.out GE847.out)) (fun k_ h_ => h_)) (kH (zP HO860.out))) (kP (zT HB.out GE847.out))); replace HO860 := zA (kE (zP HO860.out) (kC ho0) hb); replace BK847 := zA (zB1 BK847.out hb); replace HB := zA (kQ (zT HB.out GE847.out) hb); (try clear hb); (try clear ho0)))
  go_ret2
  exact ⟨_, zr, by (with_reducible repeat (first | apply zF | apply zG | apply zH)); exact kA HO864.out (fun _ hk => hk.1.1), zT HB.out GE847.out⟩
 rw [if_neg c5] at H
 obtain ⟨c5b0, c5b1⟩ := zT2 c5
 simp only [Option.some.injEq, Prod.mk.injEq] at H
 obtain ⟨rfl, rfl⟩ := H
 go_enter Tryd.func25, Tryd.ntmps25
 go_wp2_with (first | (refine zBE 3 #[.int .i64 a0_0, .slice A0_1 l0_1.length c0_1] 26 ?_; intro gb847 hg w24 hbox hb; replace HO0_1 := zA (kG (jD (zPV HO0_1.out) gb847 (Nat.le_of_eq hg.symm)) hb); replace HO1 := zA (kG (jD (zPV HO1.out) gb847 (Nat.le_of_eq hg.symm)) hb); replace HO2 := zA (kG (jD (zPV HO2.out) gb847 (Nat.le_of_eq hg.symm)) hb); have BK847 := zA (hbox); have GW847 := zA (zBH hg HB.out); have GE847 := zA (zBH hg HB.out); replace HB := zA (kQ (zQ HB.out) hb); clear hb hbox hg; obtain ⟨hcz25_0, hcz25_1, hfz25_0, hfz25_1⟩ := zB3 BK847.out) | ((with_reducible refine kS (N := 12) rfl ?_); refine Kd.N_lit (Kd.slice 2 (Kd.int .i64)) _ 24 ?hg (N' := 12) ?hd (xs := ([l1, l2] : List (List Int))) (inner := [.slice A1 l1.length c1, .slice A2 l2.length c2]) (ok := (fun k_ => ((P0_1_ k_ ∨ P1_ k_ ∨ P2_ k_) ∨ w.heap.size ≤ k_) ∧ k_ ≠ gb847)) (okp := (fun k_ => ((P0_1_ k_ ∨ P1_ k_ ∨ P2_ k_) ∨ w.heap.size ≤ k_) ∧ k_ ≠ gb847)) ?hr ?hp (fun _ hk => hk) ((show ∀ k_ : Nat, (_ : Nat) ≤ k_ → (fun k_ => ((P0_1_ k_ ∨ P1_ k_ ∨ P2_ k_) ∨ w.heap.size ≤ k_) ∧ k_ ≠ gb847) k_ from fun k_ hk => ⟨(.inr (Nat.le_trans (kP (zT HB.out GE847.out)) hk)), jE (g := gb847) (o := .cells #[.int .i64 a0_0, .slice A0_1 l0_1.length c0_1] 26 (0, 0)) (zR BK847.out) k_ hk⟩) _ (Nat.le_refl _)) (kW _ _) (Nat.le_refl _) (by simp) ?_; (case hd => rfl); (case hg => rfl); (case hr => first | (go_simp; done) | (go_simp; rfl)); (case hp => exact (Reps.one (show Kd.FK (Kd.slice 2 (Kd.int .i64)) _ _ l1 [.slice A1 l1.length c1] from (zFK (kN (ok' := (fun k_ => ((P0_1_ k_ ∨ P1_ k_ ∨ P2_ k_) ∨ w.heap.size ≤ k_) ∧ k_ ≠ gb847)) (HO1.out) (fun k_ hk => ⟨hk.1, hk.2⟩)))) (Reps.one (show Kd.FK (Kd.slice 2 (Kd.int .i64)) _ _ l2 [.slice A2 l2.length c2] from (zFK (kN (ok' := (fun k_ => ((P0_1_ k_ ∨ P1_ k_ ∨ P2_ k_) ∨ w.heap.size ≤ k_) ∧ k_ ≠ gb847)) (HO2.out) (fun k_ hk => ⟨hk.1, hk.2⟩)))) (Reps.none _ _)))); intro v849 w26 ho27 hb hg_ hnew_; clear hg_ hnew_; (first | rw [← Ny848.out] at ho27 | (simp only [Int.reduceToNat] at ho27; rw [← Ny848.out] at ho27)); replace HO0_1 := zA (kK (zPV HO0_1.out) (Kd.N_base ho27) hb); replace HO1 := zA (kK (zPV HO1.out) (Kd.N_base ho27) hb); replace HO2 := zA (kK (zPV HO2.out) (Kd.N_base ho27) hb); have HO850 := zA (jN ho27 (kP (zT HB.out GE847.out))); replace BK847 := zA (zB1 BK847.out hb); replace HB := zA (kQ (zT HB.out GE847.out) hb); clear hb ho27; obtain ⟨Ao28, co28, eo28⟩ := Kd.N_slice HO850.out; subst eo28) | (refine zO (some 13) Tryd.func49 #[.agg #[.int .i64 a0_0, .slice A0_1 l0_1.length c0_1], .slice Ao28 y848.length co28] ?_; (with_reducible refine (impl_checkWords.calls k a0_0 _ _ l0_1 _ _ y848 t851 _ ?side1 ?side2 ?side3 ?side4 ?side5 A4.out).mono ?_); (case side1 => exact zS (kJ HO0_1.out).2.2); (case side2 => exact (kJ HO0_1.out).2.1); (case side3 => exact zS (Kd.N_reads' HO850.out).2.2); (case side4 => exact (Kd.N_reads' HO850.out).2.1); (case side5 => exact TabW.below HT.out (zT HB.out GE847.out)); rintro e w29 ⟨rfl, hb⟩; refine ⟨_, rfl, ?_⟩; replace HO0_1 := zA (kG (zPV HO0_1.out) hb); replace HO1 := zA (kG (zPV HO1.out) hb); replace HO2 := zA (kG (zPV HO2.out) hb); replace HO850 := zA (kZ (zPN HO850.out) hb); replace BK847 := zA (zB1 BK847.out hb); replace HB := zA (kQ (zT HB.out GE847.out) hb); (try clear hb)))
 go_ret2
 exact ⟨_, zr, zn, zT HB.out GE847.out⟩

end Go.Proofs.YtkiacoilecdepaaDoor.PAll
