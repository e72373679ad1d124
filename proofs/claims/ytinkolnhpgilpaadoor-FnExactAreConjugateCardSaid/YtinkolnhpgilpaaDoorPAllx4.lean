-- Printed by a program of the session (wip/tools/pgen.py) out of the translation. Not trusted: Lean checks it.
import Derived.Test.YtinkolnhpgilpaaDoorPAllx0
import Derived.Test.YtinkolnhpgilpaaDoorPAllx1
import Derived.Test.YtinkolnhpgilpaaDoorPAllx2
import Derived.Test.YtinkolnhpgilpaaDoorPAllx3
namespace Go.Proofs.YtinkolnhpgilpaaDoor.PAll
open Go.RowKit Go.Proofs.YtinkolnhpgilpaaDoor.T Go.Proofs.YtinkolnhpgilpaaDoorW.PrintWords Go.Proofs.YtinkolnhpgilpaaDoorW.PrintLast Go.Proofs.YtinkolnhpgilpaaDoorW.PrintMore
attribute [local go_sem] max2_int min2_int max_two min_two max_three min_three max_four min_four   -- for this text's walks alone
set_option linter.unusedVariables false
set_option linter.unusedSimpArgs false

/-! ### impl_AreConjugate: function 9 -/
def impl_AreConjugate.f (k : Nat) (a0_0 : Int) (l0_1 : List Int) (l1 : List Int) (l2 : List Int) : Option (Bool × Int) := (impl_checkConjugates.f k a0_0 l0_1 l1 (([l2] : List (List Int)))).bind fun bt325 => (if bt325.2 = 0 then ((impl_Alphabet_ties.f a0_0 l0_1).bind fun t329 => ((impl_ties_normal.f k t329 l2).bind fun t332 => ((impl_conjugator.f bt325.1 t332).bind fun bt335 => (some (bt335.2, 0))))) else (some (false, bt325.2)))

set_option maxHeartbeats 8000000 in
set_option maxRecDepth 100000 in
theorem impl_AreConjugate.calls (k : Nat) (a0_0 : Int) (P0_1_ : Nat → Prop) (A0_1 : Option Addr) (c0_1 : Nat) (l0_1 : List Int) (P1_ : Nat → Prop) (A1 : Option Addr) (c1 : Nat) (l1 : List Int) (P2_ : Nat → Prop) (A2 : Option Addr) (c2 : Nat) (l2 : List Int) (r1 : Bool) (r2 : Int) (w : World) (hs0_1 : Kd.V (Kd.int .i64) 2 w w.heap.size (fun k_ => P0_1_ k_) (.slice A0_1 l0_1.length c0_1) l0_1) (hs1 : Kd.V (Kd.int .i64) 2 w w.heap.size (fun k_ => P1_ k_) (.slice A1 l1.length c1) l1) (hs2 : Kd.V (Kd.int .i64) 2 w w.heap.size (fun k_ => P2_ k_) (.slice A2 l2.length c2) l2) (hT : TabW w) (h : impl_AreConjugate.f k a0_0 l0_1 l1 l2 = some (r1, r2)) :
  Calls Tryd.prog 9 #[.agg #[.int .i64 a0_0, .slice A0_1 l0_1.length c0_1], .slice A1 l1.length c1, .slice A2 l2.length c2] w fun e w' => e = .returned (.tuple #[.bool r1, .int .i64 r2]) ∧ Below w.heap.size w w' := by
 have hu28 := Tryd.underlying28
 have HT := zA hT
 clear hT
 have HO0_1 := zA (show Kd.V (Kd.int .i64) 2 w w.heap.size (fun k_ => ((P0_1_ k_ ∨ P1_ k_ ∨ P2_ k_) ∨ w.heap.size ≤ k_)) (.slice A0_1 l0_1.length c0_1) l0_1 from kN hs0_1 (fun k_ hk => .inl (.inl hk)))
 have HO1 := zA (show Kd.V (Kd.int .i64) 2 w w.heap.size (fun k_ => ((P0_1_ k_ ∨ P1_ k_ ∨ P2_ k_) ∨ w.heap.size ≤ k_)) (.slice A1 l1.length c1) l1 from kN hs1 (fun k_ hk => .inl (.inr (.inl hk))))
 have HO2 := zA (show Kd.V (Kd.int .i64) 2 w w.heap.size (fun k_ => ((P0_1_ k_ ∨ P1_ k_ ∨ P2_ k_) ∨ w.heap.size ≤ k_)) (.slice A2 l2.length c2) l2 from kN hs2 (fun k_ hk => .inl (.inr (.inr hk))))
 have HB := zA (kW w.heap.size w)
 have H := h
 unfold impl_AreConjugate.f at H
 clear h
 obtain ⟨y322, hy322⟩ : ∃ y_ : List (List Int), y_ = (([l2] : List (List Int))) := ⟨_, rfl⟩
 replace H : ((impl_checkConjugates.f k a0_0 l0_1 l1 y322).bind fun bt325 => (if bt325.2 = 0 then ((impl_Alphabet_ties.f a0_0 l0_1).bind fun t329 => ((impl_ties_normal.f k t329 l2).bind fun t332 => ((impl_conjugator.f bt325.1 t332).bind fun bt335 => (some (bt335.2, 0))))) else (some (false, bt325.2)))) = some (r1, r2) := zy hy322 H
 have Ny322 := zA hy322
 clear hy322
 obtain ⟨⟨t325, t328⟩, A4, H⟩ := zb H
 try dsimp only at H
 by_cases c5 : t328 = 0
 ·rw [if_pos c5] at H
  obtain ⟨c5b0, c5b1⟩ := zT1 c5
  clear c5
  obtain ⟨t329, A6, H⟩ := zb H
  try dsimp only at H
  obtain ⟨t332, A7, H⟩ := zb H
  try dsimp only at H
  obtain ⟨⟨t335, t338⟩, A8, H⟩ := zb H
  try dsimp only at H
  simp only [Option.some.injEq, Prod.mk.injEq] at H
  obtain ⟨rfl, rfl⟩ := H
  go_enter Tryd.func9, Tryd.ntmps9
  go_wp2_with (first | (refine zBE 3 #[.int .i64 a0_0, .slice A0_1 l0_1.length c0_1] 28 ?_; intro gb321 hg w9 hbox hb; replace HO0_1 := zA (kG (jD (zPV HO0_1.out) gb321 (Nat.le_of_eq hg.symm)) hb); replace HO1 := zA (kG (jD (zPV HO1.out) gb321 (Nat.le_of_eq hg.symm)) hb); replace HO2 := zA (kG (jD (zPV HO2.out) gb321 (Nat.le_of_eq hg.symm)) hb); have BK321 := zA (hbox); have GW321 := zA (zBH hg HB.out); have GE321 := zA (zBH hg HB.out); replace HB := zA (kQ (zQ HB.out) hb); clear hb hbox hg; obtain ⟨hcz10_0, hcz10_1, hfz10_0, hfz10_1⟩ := zB3 BK321.out) | ((with_reducible refine kS (N := 16) rfl ?_); refine Kd.N_lit (Kd.slice 2 (Kd.int .i64)) _ 22 ?hg (N' := 16) ?hd (xs := ([l2] : List (List Int))) (inner := [.slice A2 l2.length c2]) (ok := (fun k_ => ((P0_1_ k_ ∨ P1_ k_ ∨ P2_ k_) ∨ w.heap.size ≤ k_) ∧ k_ ≠ gb321)) (okp := (fun k_ => ((P0_1_ k_ ∨ P1_ k_ ∨ P2_ k_) ∨ w.heap.size ≤ k_) ∧ k_ ≠ gb321)) ?hr ?hp (fun _ hk => hk) ((show ∀ k_ : Nat, (_ : Nat) ≤ k_ → (fun k_ => ((P0_1_ k_ ∨ P1_ k_ ∨ P2_ k_) ∨ w.heap.size ≤ k_) ∧ k_ ≠ gb321) k_ from fun k_ hk => ⟨(.inr (Nat.le_trans (kP (zT HB.out GE321.out)) hk)), jE (g := gb321) (o := .cells #[.int .i64 a0_0, .slice A0_1 l0_1.length c0_1] 28 (0, 0)) (zR BK321.out) k_ hk⟩) _ (Nat.le_refl _)) (kW _ _) (Nat.le_refl _) (by simp) ?_; (case hd => rfl); (case hg => rfl); (case hr => first | (go_simp; done) | (go_simp; rfl)); (case hp => exact (Reps.one (show Kd.FK (Kd.slice 2 (Kd.int .i64)) _ _ l2 [.slice A2 l2.length c2] from (zFK (kN (ok' := (fun k_ => ((P0_1_ k_ ∨ P1_ k_ ∨ P2_ k_) ∨ w.heap.size ≤ k_) ∧ k_ ≠ gb321)) (HO2.out) (fun k_ hk => ⟨hk.1, hk.2⟩)))) (Reps.none _ _))); intro v323 w11 ho12 hb hg_ hnew_; clear hg_ hnew_; (first | rw [← Ny322.out] at ho12 | (simp only [Int.reduceToNat] at ho12; rw [← Ny322.out] at ho12)); replace HO0_1 := zA (kK (zPV HO0_1.out) (Kd.N_base ho12) hb); replace HO1 := zA (kK (zPV HO1.out) (Kd.N_base ho12) hb); replace HO2 := zA (kK (zPV HO2.out) (Kd.N_base ho12) hb); have HO324 := zA (jN ho12 (kP (zT HB.out GE321.out))); replace BK321 := zA (zB1 BK321.out hb); replace HB := zA (kQ (zT HB.out GE321.out) hb); clear hb ho12; obtain ⟨Ao13, co13, eo13⟩ := Kd.N_slice HO324.out; subst eo13) | (refine zO (some 17) Tryd.func22 #[.agg #[.int .i64 a0_0, .slice A0_1 l0_1.length c0_1], .slice A1 l1.length c1, .slice Ao13 y322.length co13] ?_; (with_reducible refine (impl_checkConjugates.calls k a0_0 (fun k_ => ((((P0_1_ k_ ∨ P1_ k_ ∨ P2_ k_) ∨ w.heap.size ≤ k_) ∧ k_ ≠ gb321) ∧ some k_ ≠ (.slice Ao13 y322.length co13 : Value).ownBlock)) _ _ l0_1 (fun k_ => ((((P0_1_ k_ ∨ P1_ k_ ∨ P2_ k_) ∨ w.heap.size ≤ k_) ∧ k_ ≠ gb321) ∧ some k_ ≠ (.slice Ao13 y322.length co13 : Value).ownBlock)) _ _ l1 (fun k_ => (((P0_1_ k_ ∨ P1_ k_ ∨ P2_ k_) ∨ w.heap.size ≤ k_) ∧ k_ ≠ gb321)) _ _ y322 t325 t328 _ ?side1 ?side2 ?side3 ?side4 A4.out).mono ?_); (case side1 => exact HO0_1.out); (case side2 => exact HO1.out); (case side3 => exact Kd.N_V (HO324.out)); (case side4 => exact TabW.below HT.out (zT HB.out GE321.out)); rintro e w14 ⟨v326, rfl, ho0, hb⟩; refine ⟨_, rfl, ?_⟩; replace HO0_1 := zA (kK (zPV HO0_1.out) (Kd.N_base ho0) hb); replace HO1 := zA (kK (zPV HO1.out) (Kd.N_base ho0) hb); replace HO2 := zA (kK (zPV HO2.out) (Kd.N_base ho0) hb); replace HO324 := zA (Kd.N_elder' (zPN HO324.out) (Kd.N_base ho0) hb); have HO327 := zA (jN (Kd.N_mono (ok' := fun k_ => ((P0_1_ k_ ∨ P1_ k_ ∨ P2_ k_) ∨ w.heap.size ≤ k_) ∧ k_ ≠ gb321) ho0 (fun k_ hk_ => ⟨Or.elim hk_ (fun hs_ => Or.elim hs_ (fun hs_ => hs_.1.1) (fun hs_ => Or.elim hs_ (fun hs_ => hs_.1.1) (fun hs_ => hs_.1))) (fun hn_ => (.inr (Nat.le_trans (kP (zT HB.out GE321.out)) hn_))), Or.elim hk_ (fun hs_ => Or.elim hs_ (fun hs_ => hs_.1.2) (fun hs_ => Or.elim hs_ (fun hs_ => hs_.1.2) (fun hs_ => hs_.2))) (fun hn_ => (jE (g := gb321) (o := .cells #[.int .i64 a0_0, .slice A0_1 l0_1.length c0_1] 28 (0, 0)) (zR BK321.out) k_ hn_))⟩)) (kP (zT HB.out GE321.out))); replace BK321 := zA (zB1 BK321.out hb); replace HB := zA (kQ (zT HB.out GE321.out) hb); (try clear hb); (try clear ho0); obtain ⟨hcz15_0, hcz15_1, hfz15_0, hfz15_1⟩ := zB3 BK321.out) | (refine zO (some 26) Tryd.func24 #[.agg #[.int .i64 a0_0, .slice A0_1 l0_1.length c0_1]] ?_; (with_reducible refine (impl_Alphabet_ties.calls a0_0 (fun k_ => (((((P0_1_ k_ ∨ P1_ k_ ∨ P2_ k_) ∨ w.heap.size ≤ k_) ∧ k_ ≠ gb321) ∧ some k_ ≠ (.slice Ao13 y322.length co13 : Value).ownBlock) ∧ some k_ ≠ (v326 : Value).ownBlock)) _ _ l0_1 t329 _ ?side1 A6.out).mono ?_); (case side1 => exact HO0_1.out); rintro e w16 ⟨v330, rfl, ho0, hb⟩; refine ⟨_, rfl, ?_⟩; replace HO0_1 := zA (kG (zPV HO0_1.out) hb); replace HO1 := zA (kG (zPV HO1.out) hb); replace HO2 := zA (kG (zPV HO2.out) hb); have HO331 := zA (jM (kN (ok' := fun k_ => ((P0_1_ k_ ∨ P1_ k_ ∨ P2_ k_) ∨ w.heap.size ≤ k_) ∧ some k_ ≠ (.slice Ao13 y322.length co13 : Value).ownBlock ∧ some k_ ≠ (v326 : Value).ownBlock ∧ k_ ≠ gb321) ho0 (fun k_ hk_ => ⟨Or.elim hk_ (fun hs_ => hs_.1.1.1) (fun hn_ => (.inr (Nat.le_trans (kP (zT HB.out GE321.out)) hn_))), Or.elim hk_ (fun hs_ => hs_.1.2) (fun hn_ => (jF (jA (zPN HO324.out)) k_ hn_)), Or.elim hk_ (fun hs_ => hs_.2) (fun hn_ => (jF (jA (zPN HO327.out)) k_ hn_)), Or.elim hk_ (fun hs_ => hs_.1.1.2) (fun hn_ => (jE (g := gb321) (o := .cells #[.int .i64 a0_0, .slice A0_1 l0_1.length c0_1] 28 (0, 0)) (zR BK321.out) k_ hn_))⟩)) (kP (zT HB.out GE321.out))); replace HO324 := zA (kZ (zPN HO324.out) hb); replace HO327 := zA (kZ (zPN HO327.out) hb); replace BK321 := zA (zB1 BK321.out hb); replace HB := zA (kQ (zT HB.out GE321.out) hb); (try clear hb); (try clear ho0); obtain ⟨Ao17, co17, eo17⟩ := Kd.V_slice HO331.out; subst eo17) | (refine zO (some 28) Tryd.func25 #[.slice Ao17 t329.length co17, .slice A2 l2.length c2] ?_; (with_reducible refine (impl_ties_normal.calls k _ _ t329 (fun k_ => (((((P0_1_ k_ ∨ P1_ k_ ∨ P2_ k_) ∨ w.heap.size ≤ k_) ∧ k_ ≠ gb321) ∧ some k_ ≠ (.slice Ao13 y322.length co13 : Value).ownBlock) ∧ some k_ ≠ (v326 : Value).ownBlock)) _ _ l2 t332 _ ?side1 ?side2 ?side3 ?side4 A7.out).mono ?_); (case side1 => exact zS (kJ HO331.out).2.2); (case side2 => exact (kJ HO331.out).2.1); (case side3 => exact HO2.out); (case side4 => exact TabW.below HT.out (zT HB.out GE321.out)); rintro e w18 ⟨v333, rfl, ho0, hb⟩; refine ⟨_, rfl, ?_⟩; replace HO0_1 := zA (kK (zPV HO0_1.out) (kC ho0) hb); replace HO1 := zA (kK (zPV HO1.out) (kC ho0) hb); replace HO2 := zA (kK (zPV HO2.out) (kC ho0) hb); replace HO324 := zA (Kd.N_elder' (zPN HO324.out) (kC ho0) hb); replace HO327 := zA (Kd.N_elder' (zPN HO327.out) (kC ho0) hb); replace HO331 := zA (kK (zPV HO331.out) (kC ho0) hb); have HO334 := zA (kI (Kd.R_newM (M := fun k_ => (w.heap.size ≤ k_)) (kA (ok' := fun k_ => True) ho0 (fun _ hk_ => trivial)) (kP (zT HB.out GE321.out)) (fun k_ h_ => h_)) (kP (zT HB.out GE321.out))); replace BK321 := zA (zB1 BK321.out hb); replace HB := zA (kQ (zT HB.out GE321.out) hb); (try clear hb); (try clear ho0); obtain ⟨Ao19, co19, eo19⟩ := Kd.N_slice HO327.out; subst eo19; obtain ⟨Ao20, co20, eo20⟩ := kM HO334.out; subst eo20) | (refine zO (some 29) Tryd.func23 #[.slice Ao19 t325.length co19, .slice Ao20 t332.length co20] ?_; (with_reducible refine (impl_conjugator.calls (fun k_ => ((((P0_1_ k_ ∨ P1_ k_ ∨ P2_ k_) ∨ w.heap.size ≤ k_) ∧ k_ ≠ gb321) ∧ some k_ ≠ (.slice Ao20 t332.length co20 : Value).ownBlock)) _ _ t325 _ _ t332 t335 t338 _ ?side1 ?side2 ?side3 A8.out).mono ?_); (case side1 => exact Kd.N_V (HO327.out)); (case side2 => exact zS (kB HO334.out).2.2); (case side3 => exact (kB HO334.out).2.1); rintro e w21 ⟨v336, rfl, ho0, hb⟩; refine ⟨_, rfl, ?_⟩; replace HO0_1 := zA (kG (zPV HO0_1.out) hb); replace HO1 := zA (kG (zPV HO1.out) hb); replace HO2 := zA (kG (zPV HO2.out) hb); replace HO324 := zA (kZ (zPN HO324.out) hb); replace HO327 := zA (kZ (zPN HO327.out) hb); replace HO331 := zA (kG (zPV HO331.out) hb); have HO337 := zA (jM (kN (ok' := fun k_ => ((P0_1_ k_ ∨ P1_ k_ ∨ P2_ k_) ∨ w.heap.size ≤ k_) ∧ some k_ ≠ (.slice Ao20 t332.length co20 : Value).ownBlock ∧ k_ ≠ gb321) ho0 (fun k_ hk_ => ⟨Or.elim hk_ (fun hs_ => hs_.1.1) (fun hn_ => (.inr (Nat.le_trans (kP (zT HB.out GE321.out)) hn_))), Or.elim hk_ (fun hs_ => hs_.2) (fun hn_ => (jF (kH (zP HO334.out)) k_ hn_)), Or.elim hk_ (fun hs_ => hs_.1.2) (fun hn_ => (jE (g := gb321) (o := .cells #[.int .i64 a0_0, .slice A0_1 l0_1.length c0_1] 28 (0, 0)) (zR BK321.out) k_ hn_))⟩)) (kP (zT HB.out GE321.out))); replace HO334 := zA (kL (zP HO334.out) hb); replace BK321 := zA (zB1 BK321.out hb); replace HB := zA (kQ (zT HB.out GE321.out) hb); (try clear hb); (try clear ho0)))
  go_ret2
  exact ⟨zr, zT HB.out GE321.out⟩
 rw [if_neg c5] at H
 obtain ⟨c5b0, c5b1⟩ := zT2 c5
 simp only [Option.some.injEq, Prod.mk.injEq] at H
 obtain ⟨rfl, rfl⟩ := H
 go_enter Tryd.func9, Tryd.ntmps9
 go_wp2_with (first | (refine zBE 3 #[.int .i64 a0_0, .slice A0_1 l0_1.length c0_1] 28 ?_; intro gb321 hg w22 hbox hb; replace HO0_1 := zA (kG (jD (zPV HO0_1.out) gb321 (Nat.le_of_eq hg.symm)) hb); replace HO1 := zA (kG (jD (zPV HO1.out) gb321 (Nat.le_of_eq hg.symm)) hb); replace HO2 := zA (kG (jD (zPV HO2.out) gb321 (Nat.le_of_eq hg.symm)) hb); have BK321 := zA (hbox); have GW321 := zA (zBH hg HB.out); have GE321 := zA (zBH hg HB.out); replace HB := zA (kQ (zQ HB.out) hb); clear hb hbox hg; obtain ⟨hcz23_0, hcz23_1, hfz23_0, hfz23_1⟩ := zB3 BK321.out) | ((with_reducible refine kS (N := 16) rfl ?_); refine Kd.N_lit (Kd.slice 2 (Kd.int .i64)) _ 22 ?hg (N' := 16) ?hd (xs := ([l2] : List (List Int))) (inner := [.slice A2 l2.length c2]) (ok := (fun k_ => ((P0_1_ k_ ∨ P1_ k_ ∨ P2_ k_) ∨ w.heap.size ≤ k_) ∧ k_ ≠ gb321)) (okp := (fun k_ => ((P0_1_ k_ ∨ P1_ k_ ∨ P2_ k_) ∨ w.heap.size ≤ k_) ∧ k_ ≠ gb321)) ?hr ?hp (fun _ hk => hk) ((show ∀ k_ : Nat, (_ : Nat) ≤ k_ → (fun k_ => ((P0_1_ k_ ∨ P1_ k_ ∨ P2_ k_) ∨ w.heap.size ≤ k_) ∧ k_ ≠ gb321) k_ from fun k_ hk => ⟨(.inr (Nat.le_trans (kP (zT HB.out GE321.out)) hk)), jE (g := gb321) (o := .cells #[.int .i64 a0_0, .slice A0_1 l0_1.length c0_1] 28 (0, 0)) (zR BK321.out) k_ hk⟩) _ (Nat.le_refl _)) (kW _ _) (Nat.le_refl _) (by simp) ?_; (case hd => rfl); (case hg => rfl); (case hr => first | (go_simp; done) | (go_simp; rfl)); (case hp => exact (Reps.one (show Kd.FK (Kd.slice 2 (Kd.int .i64)) _ _ l2 [.slice A2 l2.length c2] from (zFK (kN (ok' := (fun k_ => ((P0_1_ k_ ∨ P1_ k_ ∨ P2_ k_) ∨ w.heap.size ≤ k_) ∧ k_ ≠ gb321)) (HO2.out) (fun k_ hk => ⟨hk.1, hk.2⟩)))) (Reps.none _ _))); intro v323 w24 ho25 hb hg_ hnew_; clear hg_ hnew_; (first | rw [← Ny322.out] at ho25 | (simp only [Int.reduceToNat] at ho25; rw [← Ny322.out] at ho25)); replace HO0_1 := zA (kK (zPV HO0_1.out) (Kd.N_base ho25) hb); replace HO1 := zA (kK (zPV HO1.out) (Kd.N_base ho25) hb); replace HO2 := zA (kK (zPV HO2.out) (Kd.N_base ho25) hb); have HO324 := zA (jN ho25 (kP (zT HB.out GE321.out))); replace BK321 := zA (zB1 BK321.out hb); replace HB := zA (kQ (zT HB.out GE321.out) hb); clear hb ho25; obtain ⟨Ao26, co26, eo26⟩ := Kd.N_slice HO324.out; subst eo26) | (refine zO (some 17) Tryd.func22 #[.agg #[.int .i64 a0_0, .slice A0_1 l0_1.length c0_1], .slice A1 l1.length c1, .slice Ao26 y322.length co26] ?_; (with_reducible refine (impl_checkConjugates.calls k a0_0 (fun k_ => ((((P0_1_ k_ ∨ P1_ k_ ∨ P2_ k_) ∨ w.heap.size ≤ k_) ∧ k_ ≠ gb321) ∧ some k_ ≠ (.slice Ao26 y322.length co26 : Value).ownBlock)) _ _ l0_1 (fun k_ => ((((P0_1_ k_ ∨ P1_ k_ ∨ P2_ k_) ∨ w.heap.size ≤ k_) ∧ k_ ≠ gb321) ∧ some k_ ≠ (.slice Ao26 y322.length co26 : Value).ownBlock)) _ _ l1 (fun k_ => (((P0_1_ k_ ∨ P1_ k_ ∨ P2_ k_) ∨ w.heap.size ≤ k_) ∧ k_ ≠ gb321)) _ _ y322 t325 t328 _ ?side1 ?side2 ?side3 ?side4 A4.out).mono ?_); (case side1 => exact HO0_1.out); (case side2 => exact HO1.out); (case side3 => exact Kd.N_V (HO324.out)); (case side4 => exact TabW.below HT.out (zT HB.out GE321.out)); rintro e w27 ⟨v326, rfl, ho0, hb⟩; refine ⟨_, rfl, ?_⟩; replace HO0_1 := zA (kK (zPV HO0_1.out) (Kd.N_base ho0) hb); replace HO1 := zA (kK (zPV HO1.out) (Kd.N_base ho0) hb); replace HO2 := zA (kK (zPV HO2.out) (Kd.N_base ho0) hb); replace HO324 := zA (Kd.N_elder' (zPN HO324.out) (Kd.N_base ho0) hb); have HO327 := zA (jN (Kd.N_mono (ok' := fun k_ => ((P0_1_ k_ ∨ P1_ k_ ∨ P2_ k_) ∨ w.heap.size ≤ k_) ∧ k_ ≠ gb321) ho0 (fun k_ hk_ => ⟨Or.elim hk_ (fun hs_ => Or.elim hs_ (fun hs_ => hs_.1.1) (fun hs_ => Or.elim hs_ (fun hs_ => hs_.1.1) (fun hs_ => hs_.1))) (fun hn_ => (.inr (Nat.le_trans (kP (zT HB.out GE321.out)) hn_))), Or.elim hk_ (fun hs_ => Or.elim hs_ (fun hs_ => hs_.1.2) (fun hs_ => Or.elim hs_ (fun hs_ => hs_.1.2) (fun hs_ => hs_.2))) (fun hn_ => (jE (g := gb321) (o := .cells #[.int .i64 a0_0, .slice A0_1 l0_1.length c0_1] 28 (0, 0)) (zR BK321.out) k_ hn_))⟩)) (kP (zT HB.out GE321.out))); replace BK321 := zA (zB1 BK321.out hb); replace HB := zA (kQ (zT HB.out GE321.out) hb); (try clear hb); (try clear ho0)))
 go_ret2
 exact ⟨zr, zT HB.out GE321.out⟩

/-! ### laws_FnExactAreConjugate: function 3 -/
def laws_FnExactAreConjugate.f (k : Nat) (a0_0 : Int) (l0_1 : List Int) (l1 : List Int) (l2 : List Int) : Option (Bool) := if (l1.length : Int) > 1048576 then (some true) else (if (l2.length : Int) > 1048576 then (some true) else ((laws_szAlphabet.f a0_0 l0_1 1048576).bind fun t345 => (if t345 < 0 then (some true) else ((laws_toAlphabet.f k a0_0 l0_1).bind fun bt346 => ((laws_toInt64S.f k l1).bind fun t350 => ((laws_toInt64S.f k l2).bind fun t353 => ((spec_AreConjugate.f k bt346.1 bt346.2 t350 t353).bind fun bt356 => ((laws_toAlphabet.f k a0_0 l0_1).bind fun bt358 => ((laws_toInt64S.f k l1).bind fun t363 => ((laws_toInt64S.f k l2).bind fun t366 => ((impl_AreConjugate.f k bt358.1 bt358.2 t363 t366).bind fun bt369 => (if (bt369.1 != bt356.1) = true then (none) else (if bt369.2 = bt356.2 then ((laws_toAlphabet.f k a0_0 l0_1).bind fun bt371 => ((laws_eqAlphabet.f k bt358.1 bt358.2 bt371.1 bt371.2).bind fun t375 => (if t375 = true then ((laws_toInt64S.f k l1).bind fun t376 => ((laws_eqInt64S.f k t363 t376).bind fun t379 => (if t379 = true then ((laws_toInt64S.f k l2).bind fun t380 => ((laws_eqInt64S.f k t366 t380).bind fun t383 => (if t383 = true then (some true) else (none)))) else (none)))) else (none)))) else (none))))))))))))))

set_option maxHeartbeats 8000000 in
set_option maxRecDepth 100000 in
theorem laws_FnExactAreConjugate.calls (k : Nat) (a0_0 : Int) (A0_1 : Option Addr) (c0_1 : Nat) (l0_1 : List Int) (A1 : Option Addr) (c1 : Nat) (l1 : List Int) (A2 : Option Addr) (c2 : Nat) (l2 : List Int) (r : Bool) (w : World) (hr0_1 : Kd.C (Kd.int .i64) w A0_1 l0_1.length l0_1) (hc0_1 : l0_1.length ≤ c0_1) (hr1 : Kd.C (Kd.int .i64) w A1 l1.length l1) (hc1 : l1.length ≤ c1) (hr2 : Kd.C (Kd.int .i64) w A2 l2.length l2) (hc2 : l2.length ≤ c2) (hT : TabW w) (h : laws_FnExactAreConjugate.f k a0_0 l0_1 l1 l2 = some r) :
  Calls Tryd.prog 3 #[.agg #[.int .i64 a0_0, .slice A0_1 l0_1.length c0_1], .slice A1 l1.length c1, .slice A2 l2.length c2] w fun e w' => e = .returned (.bool r) ∧ Below w.heap.size w w' := by
 have hu24 := Tryd.underlying24
 have hu28 := Tryd.underlying28
 have HT := zA hT
 clear hT
 have HR0_1 := zA hr0_1
 have HC0_1 := zA hc0_1
 clear hr0_1 hc0_1
 have HR1 := zA hr1
 have HC1 := zA hc1
 clear hr1 hc1
 have HR2 := zA hr2
 have HC2 := zA hc2
 clear hr2 hc2
 have HB := zA (kW w.heap.size w)
 have H := h
 unfold laws_FnExactAreConjugate.f at H
 clear h
 by_cases c4 : (l1.length : Int) > 1048576
 ·rw [if_pos c4] at H
  have c4b0 : decide (1048576 < (l1.length : Int)) = true := decide_eq_true c4
  have c4b1 : decide (1048576 < l1.length) = true := decide_eq_true (by omega)
  clear c4
  obtain rfl := Option.some.inj H
  go_enter Tryd.func3, Tryd.ntmps3
  go_wp2_with (first | (refine zBE 3 #[.int .i64 a0_0, .slice A0_1 l0_1.length c0_1] 24 ?_; intro gb344 hg w5 hbox hb; have BK344 := zA (hbox); have GW344 := zA (zBH hg HB.out); have GE344 := zA (zBH hg HB.out); replace HB := zA (kQ (zQ HB.out) hb); clear hb hbox hg))
  go_ret
  exact ⟨zr, zT HB.out GE344.out⟩
 rw [if_neg c4] at H
 have c4b0 : decide (1048576 < (l1.length : Int)) = false := decide_eq_false c4
 have c4b1 : decide (1048576 < l1.length) = false := decide_eq_false (by omega)
 clear c4
 by_cases c6 : (l2.length : Int) > 1048576
 ·rw [if_pos c6] at H
  have c6b0 : decide (1048576 < (l2.length : Int)) = true := decide_eq_true c6
  have c6b1 : decide (1048576 < l2.length) = true := decide_eq_true (by omega)
  clear c6
  obtain rfl := Option.some.inj H
  go_enter Tryd.func3, Tryd.ntmps3
  go_wp2_with (first | (refine zBE 3 #[.int .i64 a0_0, .slice A0_1 l0_1.length c0_1] 24 ?_; intro gb344 hg w7 hbox hb; have BK344 := zA (hbox); have GW344 := zA (zBH hg HB.out); have GE344 := zA (zBH hg HB.out); replace HB := zA (kQ (zQ HB.out) hb); clear hb hbox hg))
  go_ret
  exact ⟨zr, zT HB.out GE344.out⟩
 rw [if_neg c6] at H
 have c6b0 : decide (1048576 < (l2.length : Int)) = false := decide_eq_false c6
 have c6b1 : decide (1048576 < l2.length) = false := decide_eq_false (by omega)
 clear c6
 obtain ⟨t345, A8, H⟩ := zb H
 try dsimp only at H
 by_cases c9 : t345 < 0
 ·rw [if_pos c9] at H
  have c9b0 : decide (t345 < 0) = true := decide_eq_true c9
  clear c9
  obtain rfl := Option.some.inj H
  go_enter Tryd.func3, Tryd.ntmps3
  go_wp2_with (first | (refine zBE 3 #[.int .i64 a0_0, .slice A0_1 l0_1.length c0_1] 24 ?_; intro gb344 hg w10 hbox hb; have BK344 := zA (hbox); have GW344 := zA (zBH hg HB.out); have GE344 := zA (zBH hg HB.out); replace HB := zA (kQ (zQ HB.out) hb); clear hb hbox hg; obtain ⟨hcz11_0, hcz11_1, hfz11_0, hfz11_1⟩ := zB3 BK344.out) | (refine zO (some 23) Tryd.func5 #[.agg #[.int .i64 a0_0, .slice A0_1 l0_1.length c0_1], .int .i64 1048576] ?_; (with_reducible refine (laws_szAlphabet.calls a0_0 _ _ l0_1 1048576 t345 _ ?side1 ?side2 A8.out).mono ?_); (case side1 => exact zS (kO HR0_1.out HB.out)); (case side2 => exact HC0_1.out); rintro e w12 ⟨rfl, hb⟩; refine ⟨_, rfl, ?_⟩; replace BK344 := zA (zB1 BK344.out hb); replace HB := zA (kQ (zT HB.out GE344.out) hb); (try clear hb)))
  go_ret
  exact ⟨zr, zT HB.out GE344.out⟩
 rw [if_neg c9] at H
 have c9b0 : decide (t345 < 0) = false := decide_eq_false c9
 clear c9
 obtain ⟨⟨t346, t347⟩, A13, H⟩ := zb H
 try dsimp only at H
 obtain ⟨t350, A14, H⟩ := zb H
 try dsimp only at H
 obtain ⟨t353, A15, H⟩ := zb H
 try dsimp only at H
 obtain ⟨⟨t356, t357⟩, A16, H⟩ := zb H
 try dsimp only at H
 obtain ⟨⟨t358, t359⟩, A17, H⟩ := zb H
 try dsimp only at H
 obtain ⟨t363, A18, H⟩ := zb H
 try dsimp only at H
 obtain ⟨t366, A19, H⟩ := zb H
 try dsimp only at H
 obtain ⟨⟨t369, t370⟩, A20, H⟩ := zb H
 try dsimp only at H
 by_cases c21 : (t369 != t356) = true
 ·rw [if_pos c21] at H
  exact absurd H (by simp)
 rw [if_neg c21] at H
 have c21b0 : (t369 != t356) = false := by simpa using c21
 (try (have c21b1 : decide (t369 = t356) = true := by simpa using c21))
 (try (have c21b2 : (t369 == t356) = true := by simpa using c21))
 clear c21
 by_cases c22 : t370 = t357
 ·rw [if_pos c22] at H
  obtain ⟨c22b0, c22b1⟩ := zT1 c22
  clear c22
  obtain ⟨⟨t371, t372⟩, A23, H⟩ := zb H
  try dsimp only at H
  obtain ⟨t375, A24, H⟩ := zb H
  try dsimp only at H
  by_cases c25 : t375 = true
  ·subst c25
   rw [if_pos rfl] at H
   obtain ⟨t376, A26, H⟩ := zb H
   try dsimp only at H
   obtain ⟨t379, A27, H⟩ := zb H
   try dsimp only at H
   by_cases c28 : t379 = true
   ·subst c28
    rw [if_pos rfl] at H
    obtain ⟨t380, A29, H⟩ := zb H
    try dsimp only at H
    obtain ⟨t383, A30, H⟩ := zb H
    try dsimp only at H
    by_cases c31 : t383 = true
    ·subst c31
     rw [if_pos rfl] at H
     obtain rfl := Option.some.inj H
     go_enter Tryd.func3, Tryd.ntmps3
     try go_wp2_with (first | (refine zBE 3 #[.int .i64 a0_0, .slice A0_1 l0_1.length c0_1] 24 ?_; intro gb344 hg w32 hbox hb; have BK344 := zA (hbox); have GW344 := zA (zBH hg HB.out); have GE344 := zA (zBH hg HB.out); replace HB := zA (kQ (zQ HB.out) hb); clear hb hbox hg; obtain ⟨hcz33_0, hcz33_1, hfz33_0, hfz33_1⟩ := zB3 BK344.out) | (refine zO (some 23) Tryd.func5 #[.agg #[.int .i64 a0_0, .slice A0_1 l0_1.length c0_1], .int .i64 1048576] ?_; (with_reducible refine (laws_szAlphabet.calls a0_0 _ _ l0_1 1048576 t345 _ ?side1 ?side2 A8.out).mono ?_); (case side1 => exact zS (kO HR0_1.out HB.out)); (case side2 => exact HC0_1.out); rintro e w34 ⟨rfl, hb⟩; refine ⟨_, rfl, ?_⟩; replace BK344 := zA (zB1 BK344.out hb); replace HB := zA (kQ (zT HB.out GE344.out) hb); (try clear hb); obtain ⟨hcz35_0, hcz35_1, hfz35_0, hfz35_1⟩ := zB3 BK344.out) | (refine zO (some 28) Tryd.func7 #[.agg #[.int .i64 a0_0, .slice A0_1 l0_1.length c0_1]] ?_; (with_reducible refine (laws_toAlphabet.calls k a0_0 _ _ l0_1 t346 t347 _ ?side1 ?side2 A13.out).mono ?_); (case side1 => exact zS (kO HR0_1.out HB.out)); (case side2 => exact HC0_1.out); rintro e w36 ⟨v348, rfl, ho0, hb⟩; refine ⟨_, rfl, ?_⟩; have HO349 := zA (kI ho0 (kP (zT HB.out GE344.out))); replace BK344 := zA (zB1 BK344.out hb); replace HB := zA (kQ (zT HB.out GE344.out) hb); (try clear hb); (try clear ho0)) | (refine zO (some 30) Tryd.func8 #[.slice A1 l1.length c1] ?_; (with_reducible refine (laws_toInt64S.calls k _ _ l1 t350 _ ?side1 ?side2 A14.out).mono ?_); (case side1 => exact zS (kO HR1.out HB.out)); (case side2 => exact HC1.out); rintro e w37 ⟨v351, rfl, ho0, hb⟩; refine ⟨_, rfl, ?_⟩; have HO352 := zA (kI (kF ho0 (kH (zP HO349.out))) (kP (zT HB.out GE344.out))); replace HO349 := zA (kE (zP HO349.out) (kC ho0) hb); replace BK344 := zA (zB1 BK344.out hb); replace HB := zA (kQ (zT HB.out GE344.out) hb); (try clear hb); (try clear ho0)) | (refine zO (some 32) Tryd.func8 #[.slice A2 l2.length c2] ?_; (with_reducible refine (laws_toInt64S.calls k _ _ l2 t353 _ ?side1 ?side2 A15.out).mono ?_); (case side1 => exact zS (kO HR2.out HB.out)); (case side2 => exact HC2.out); rintro e w38 ⟨v354, rfl, ho0, hb⟩; refine ⟨_, rfl, ?_⟩; have HO355 := zA (kI (kF (kF ho0 (kH (zP HO349.out))) (kH (zP HO352.out))) (kP (zT HB.out GE344.out))); replace HO349 := zA (kE (zP HO349.out) (kC ho0) hb); replace HO352 := zA (kE (zP HO352.out) (kC ho0) hb); replace BK344 := zA (zB1 BK344.out hb); replace HB := zA (kQ (zT HB.out GE344.out) hb); (try clear hb); (try clear ho0); obtain ⟨Ao39, co39, eo39⟩ := kM HO349.out; subst eo39; obtain ⟨Ao40, co40, eo40⟩ := kM HO352.out; subst eo40; obtain ⟨Ao41, co41, eo41⟩ := kM HO355.out; subst eo41) | (refine zO (some 33) Tryd.func6 #[.agg #[.int .i64 t346, .slice Ao39 t347.length co39], .slice Ao40 t350.length co40, .slice Ao41 t353.length co41] ?_; (with_reducible refine (spec_AreConjugate.calls k t346 _ _ t347 _ _ t350 _ _ t353 t356 t357 _ ?side1 ?side2 ?side3 ?side4 ?side5 ?side6 A16.out).mono ?_); (case side1 => exact zS (kB HO349.out).2.2); (case side2 => exact (kB HO349.out).2.1); (case side3 => exact zS (kB HO352.out).2.2); (case side4 => exact (kB HO352.out).2.1); (case side5 => exact zS (kB HO355.out).2.2); (case side6 => exact (kB HO355.out).2.1); rintro e w42 ⟨rfl, hb⟩; refine ⟨_, rfl, ?_⟩; replace HO349 := zA (kL (zP HO349.out) hb); replace HO352 := zA (kL (zP HO352.out) hb); replace HO355 := zA (kL (zP HO355.out) hb); replace BK344 := zA (zB1 BK344.out hb); replace HB := zA (kQ (zT HB.out GE344.out) hb); (try clear hb); obtain ⟨hcz43_0, hcz43_1, hfz43_0, hfz43_1⟩ := zB3 BK344.out) | (refine zO (some 37) Tryd.func7 #[.agg #[.int .i64 a0_0, .slice A0_1 l0_1.length c0_1]] ?_; (with_reducible refine (laws_toAlphabet.calls k a0_0 _ _ l0_1 t358 t359 _ ?side1 ?side2 A17.out).mono ?_); (case side1 => exact zS (kO HR0_1.out HB.out)); (case side2 => exact HC0_1.out); rintro e w44 ⟨v360, rfl, ho0, hb⟩; refine ⟨_, rfl, ?_⟩; have HO361 := zA (kI (kF (kF (kF ho0 (kH (zP HO349.out))) (kH (zP HO352.out))) (kH (zP HO355.out))) (kP (zT HB.out GE344.out))); replace HO349 := zA (kE (zP HO349.out) (kC ho0) hb); replace HO352 := zA (kE (zP HO352.out) (kC ho0) hb); replace HO355 := zA (kE (zP HO355.out) (kC ho0) hb); replace BK344 := zA (zB1 BK344.out hb); replace HB := zA (kQ (zT HB.out GE344.out) hb); (try clear hb); (try clear ho0)) | (refine zBE 10 #[.int .i64 0, .slice none 0 0] 28 ?_; intro gb362 hg w45 hbox hb; replace HO349 := zA (kL (zP HO349.out) hb); replace HO352 := zA (kL (zP HO352.out) hb); replace HO355 := zA (kL (zP HO355.out) hb); replace HO361 := zA (kL (zP HO361.out) hb); have BK362 := zA (hbox); have GW362 := zA (zB6 hg (kP (zT HB.out GE344.out)) : w.heap.size ≤ gb362); have GE362 := zA (zB6 hg (kP (zT HB.out GE344.out)) : w.heap.size ≤ gb362); replace HB := zA (kQ (zT HB.out GE344.out) hb); have NB344_362 := zA (zB4 hg BK344.out : gb344 ≠ gb362); have NB362_344 := zA (zB5 hg BK344.out : gb362 ≠ gb344); replace BK344 := zA (zB1 BK344.out hb); clear hb hbox hg; have hnb46 := NB362_344.out; have hnc46 := NB344_362.out; obtain ⟨hcz47_0, hcz47_1, hfz47_0, hfz47_1⟩ := zB3 BK362.out; obtain ⟨Ao48, co48, eo48⟩ := kM HO361.out; subst eo48) | (refine zO (some 39) Tryd.func8 #[.slice A1 l1.length c1] ?_; (with_reducible refine (laws_toInt64S.calls k _ _ l1 t363 _ ?side1 ?side2 A18.out).mono ?_); (case side1 => exact kO HR1.out (zV HB.out GE344.out GE362.out)); (case side2 => exact HC1.out); rintro e w49 ⟨v364, rfl, ho0, hb⟩; refine ⟨_, rfl, ?_⟩; have HO365 := zA (kI (kF (kF (kF (kF ho0 (kH (zP (zFG HO349.out BK362.out (.int .i64 t358) (.slice Ao48 t359.length co48))))) (kH (zP (zFG HO352.out BK362.out (.int .i64 t358) (.slice Ao48 t359.length co48))))) (kH (zP (zFG HO355.out BK362.out (.int .i64 t358) (.slice Ao48 t359.length co48))))) (kH (zP (zFG HO361.out BK362.out (.int .i64 t358) (.slice Ao48 t359.length co48))))) (kP (zV HB.out GE344.out GE362.out))); replace HO349 := zA (kE (zP (zFG HO349.out BK362.out (.int .i64 t358) (.slice Ao48 t359.length co48))) (kC ho0) hb); replace HO352 := zA (kE (zP (zFG HO352.out BK362.out (.int .i64 t358) (.slice Ao48 t359.length co48))) (kC ho0) hb); replace HO355 := zA (kE (zP (zFG HO355.out BK362.out (.int .i64 t358) (.slice Ao48 t359.length co48))) (kC ho0) hb); replace HO361 := zA (kE (zP (zFG HO361.out BK362.out (.int .i64 t358) (.slice Ao48 t359.length co48))) (kC ho0) hb); replace BK344 := zA (blk_below (g := gb344) (o := .cells #[.int .i64 a0_0, .slice A0_1 l0_1.length c0_1] 24 (0, 0)) (zBG BK344.out NB344_362.out NB344_362.out) hb); replace BK362 := zA (blk_below (g := gb362) (o := .cells #[.int .i64 t358, .slice Ao48 t359.length co48] 28 (0, 0)) (zRP BK362.out) hb); replace HB := zA (kQ (zV HB.out GE344.out GE362.out) hb); (try clear hb); (try clear ho0)) | (refine zO (some 41) Tryd.func8 #[.slice A2 l2.length c2] ?_; (with_reducible refine (laws_toInt64S.calls k _ _ l2 t366 _ ?side1 ?side2 A19.out).mono ?_); (case side1 => exact zS (kO HR2.out HB.out)); (case side2 => exact HC2.out); rintro e w50 ⟨v367, rfl, ho0, hb⟩; refine ⟨_, rfl, ?_⟩; have HO368 := zA (kI (kF (kF (kF (kF (kF ho0 (kH (zP HO349.out))) (kH (zP HO352.out))) (kH (zP HO355.out))) (kH (zP HO361.out))) (kH (zP HO365.out))) (kP (zV HB.out GE344.out GE362.out))); replace HO349 := zA (kE (zP HO349.out) (kC ho0) hb); replace HO352 := zA (kE (zP HO352.out) (kC ho0) hb); replace HO355 := zA (kE (zP HO355.out) (kC ho0) hb); replace HO361 := zA (kE (zP HO361.out) (kC ho0) hb); replace HO365 := zA (kE (zP HO365.out) (kC ho0) hb); replace BK344 := zA (zB1 BK344.out hb); replace BK362 := zA (zB1 BK362.out hb); replace HB := zA (kQ (zV HB.out GE344.out GE362.out) hb); (try clear hb); (try clear ho0); obtain ⟨hcz51_0, hcz51_1, hfz51_0, hfz51_1⟩ := zB3 BK362.out; obtain ⟨Ao52, co52, eo52⟩ := kM HO365.out; subst eo52; obtain ⟨Ao53, co53, eo53⟩ := kM HO368.out; subst eo53) | (refine zO (some 46) Tryd.func9 #[.agg #[.int .i64 t358, .slice Ao48 t359.length co48], .slice Ao52 t363.length co52, .slice Ao53 t366.length co53] ?_; (with_reducible refine (impl_AreConjugate.calls k t358 (fun k_ => some k_ = (.slice Ao48 t359.length co48 : Value).ownBlock) _ _ t359 (fun k_ => some k_ = (.slice Ao52 t363.length co52 : Value).ownBlock) _ _ t363 (fun k_ => some k_ = (.slice Ao53 t366.length co53 : Value).ownBlock) _ _ t366 t369 t370 _ ?side1 ?side2 ?side3 ?side4 A20.out).mono ?_); (case side1 => exact jL (jK rfl (kD (kD (HO361.out) BK344.out (by decide)) BK362.out (by decide)))); (case side2 => exact jL (jK rfl (kD (kD (HO365.out) BK344.out (by decide)) BK362.out (by decide)))); (case side3 => exact jL (jK rfl (kD (kD (HO368.out) BK344.out (by decide)) BK362.out (by decide)))); (case side4 => exact TabW.below HT.out (zV HB.out GE344.out GE362.out)); rintro e w54 ⟨rfl, hb⟩; refine ⟨_, rfl, ?_⟩; replace HO349 := zA (kL (zP HO349.out) hb); replace HO352 := zA (kL (zP HO352.out) hb); replace HO355 := zA (kL (zP HO355.out) hb); replace HO361 := zA (kL (zP HO361.out) hb); replace HO365 := zA (kL (zP HO365.out) hb); replace HO368 := zA (kL (zP HO368.out) hb); replace BK344 := zA (zB1 BK344.out hb); replace BK362 := zA (zB1 BK362.out hb); replace HB := zA (kQ (zV HB.out GE344.out GE362.out) hb); (try clear hb)))
     replace HO349 := zA (zH HO349.out)
     replace HO352 := zA (zH HO352.out)
     replace HO355 := zA (zH HO355.out)
     replace HO361 := zA (zH HO361.out)
     replace HO365 := zA (zH HO365.out)
     replace HO368 := zA (zH HO368.out)
     replace BK344 := zA (zK BK344.out)
     replace BK362 := zA (zK BK362.out)
     replace HB := zA (zD HB.out)
     refine start_ (n := 5) (S := fun w' => w'.cell? ⟨gb362, 0, none⟩ = some (.int .i64 t358) ∧ w'.cell? ⟨gb362, 1, none⟩ = some (.slice Ao48 t359.length co48) ∧ w'.cell? ⟨gb344, 0, none⟩ = some (.int .i64 a0_0) ∧ w'.cell? ⟨gb344, 1, none⟩ = some (.slice A0_1 l0_1.length c0_1)) (ds := []) #[false, false, false, false, false] (by kernel_rfl) rfl rfl ⟨(kV BK362.out 0).trans rfl, (kV BK362.out 1).trans rfl, (kV BK344.out 0).trans rfl, (kV BK344.out 1).trans rfl⟩ (fun hHeld => ?_)
     generalize w54.drew = w55 at HO349 HO352 HO355 HO361 HO365 HO368 BK344 BK362 HB hHeld ⊢
     refine take_ (i := 0) (N := some 57) (v := ?_) (a' := ?_) #[true, false, false, false, false] rfl rfl (by kernel_rfl) (fun _ _ _ h => h) (Or.inl ⟨by rfl, ?_⟩) hHeld ?_ ?_
     rotate_left
     ·rintro w' ⟨s0, s1, s2, s3⟩
      go_simp
      with_reducible rfl
     rotate_left
     ·simp only [Act.put, zL, zM, zN, i64_w, i32_w]
      rfl
     refine take_ (i := 1) (N := some 58) (v := ?_) (a' := ?_) #[true, true, false, false, false] rfl rfl (by kernel_rfl) (fun _ _ _ h => h) (Or.inl ⟨by rfl, ?_⟩) hHeld ?_ ?_
     rotate_left
     ·rintro w' ⟨s0, s1, s2, s3⟩
      go_simp
      with_reducible rfl
     rotate_left
     ·simp only [Act.put, zL, zM, zN, i64_w, i32_w]
      rfl
     refine one_ (i := 2) (N := some 59) #[true, true, true, false, false] rfl rfl (by kernel_rfl) (by decide) (fun K hK => ?_)
     refine goes_ Tryd.func7 (by kernel_rfl) rfl #[.agg #[.int .i64 a0_0, .slice A0_1 l0_1.length c0_1]] (by rfl) rfl rfl zg ?_
     with_reducible refine (laws_toAlphabet.calls k a0_0 _ _ l0_1 t371 t372 _ ?side1 ?side2 A23.out).mono ?_
     (case side1 => exact zS (kO HR0_1.out HB.out))
     (case side2 => exact HC0_1.out)
     rintro e w56 ⟨v373, rfl, ho0, hb⟩
     refine ⟨_, rfl, ?_⟩
     have HO374 := zA (kI (kF (kF (kF (kF (kF (kF ho0 (kH (zP HO349.out))) (kH (zP HO352.out))) (kH (zP HO355.out))) (kH (zP HO361.out))) (kH (zP HO365.out))) (kH (zP HO368.out))) (kP (zV HB.out GE344.out GE362.out)))
     replace HO349 := zA (kE (zP HO349.out) (kC ho0) hb)
     replace HO352 := zA (kE (zP HO352.out) (kC ho0) hb)
     replace HO355 := zA (kE (zP HO355.out) (kC ho0) hb)
     replace HO361 := zA (kE (zP HO361.out) (kC ho0) hb)
     replace HO365 := zA (kE (zP HO365.out) (kC ho0) hb)
     replace HO368 := zA (kE (zP HO368.out) (kC ho0) hb)
     replace BK344 := zA (zB1 BK344.out hb)
     replace BK362 := zA (zB1 BK362.out hb)
     replace HB := zA (kQ (zV HB.out GE344.out GE362.out) hb)
     (try clear hb)
     (try clear hb2)
     (try clear hk)
     (try clear hi)
     (try clear hgw)
     (try clear ho0)
     obtain ⟨Ao57, co57, eo57⟩ := kM HO374.out
     (first | subst eo57 | (injection eo57 with f1_ f2_ f3_; have f4_ := f1_.symm; have f5_ := f3_.symm; clear f1_ f2_ f3_; subst f4_; subst f5_))
     refine hK.out _ _ ⟨(kV BK362.out 0).trans rfl, (kV BK362.out 1).trans rfl, (kV BK344.out 0).trans rfl, (kV BK344.out 1).trans rfl⟩ (fun hHeld => ?_)
     clear hK K
     refine norm_ (a' := ?_) ?_ ?_
     rotate_left
     ·show Act.put _ (some 59) _ = _
      simp only [Act.put, zL, zM, zN, i64_w, i32_w]
      rfl
     refine one_ (i := 3) (N := some 60) #[true, true, true, true, false] rfl rfl (by kernel_rfl) (by decide) (fun K hK => ?_)
     refine goes_ Tryd.func10 (by kernel_rfl) rfl #[.agg #[.int .i64 t358, .slice Ao48 t359.length co48], .agg #[.int .i64 t371, .slice Ao57 t372.length co57]] (by rfl) rfl rfl zg ?_
     with_reducible refine (laws_eqAlphabet.calls k t358 _ _ t359 t371 _ _ t372 true _ ?side1 ?side2 ?side3 ?side4 A24.out).mono ?_
     (case side1 => exact zS (kB HO361.out).2.2)
     (case side2 => exact (kB HO361.out).2.1)
     (case side3 => exact zS (kB HO374.out).2.2)
     (case side4 => exact (kB HO374.out).2.1)
     rintro e w58 ⟨rfl, hb⟩
     refine ⟨_, rfl, ?_⟩
     replace HO349 := zA (kL (zP HO349.out) hb)
     replace HO352 := zA (kL (zP HO352.out) hb)
     replace HO355 := zA (kL (zP HO355.out) hb)
     replace HO361 := zA (kL (zP HO361.out) hb)
     replace HO365 := zA (kL (zP HO365.out) hb)
     replace HO368 := zA (kL (zP HO368.out) hb)
     replace HO374 := zA (kL (zP HO374.out) hb)
     replace BK344 := zA (zB1 BK344.out hb)
     replace BK362 := zA (zB1 BK362.out hb)
     replace HB := zA (kQ (zV HB.out GE344.out GE362.out) hb)
     (try clear hb)
     (try clear hb2)
     (try clear hk)
     (try clear hi)
     (try clear hgw)
     refine hK.out _ _ ⟨(kV BK362.out 0).trans rfl, (kV BK362.out 1).trans rfl, (kV BK344.out 0).trans rfl, (kV BK344.out 1).trans rfl⟩ (fun hHeld => ?_)
     clear hK K
     refine norm_ (a' := ?_) ?_ ?_
     rotate_left
     ·show Act.put _ (some 60) _ = _
      simp only [Act.put, zL, zM, zN, i64_w, i32_w]
      rfl
     refine pure_ (i := 4) (N := some 61) (v := ?_) (a' := ?_) #[true, true, true, true, true] rfl rfl (by kernel_rfl) (fun _ _ _ h => h) (Or.inl ⟨by rfl, ?_⟩) ?_ ?_
     rotate_left
     ·intro w'
      go_simp
      with_reducible rfl
     rotate_left
     ·simp only [Act.put, zL, zM, zN, i64_w, i32_w]
      rfl
     refine done_ (by kernel_rfl) ?_
     try go_wp2_with (first | (refine zO (some 64) Tryd.func8 #[.slice A1 l1.length c1] ?_; (with_reducible refine (laws_toInt64S.calls k _ _ l1 t376 _ ?side1 ?side2 A26.out).mono ?_); (case side1 => exact zS (kO HR1.out HB.out)); (case side2 => exact HC1.out); rintro e w59 ⟨v377, rfl, ho0, hb⟩; refine ⟨_, rfl, ?_⟩; have HO378 := zA (kI (kF (kF (kF (kF (kF (kF (kF ho0 (kH (zP HO349.out))) (kH (zP HO352.out))) (kH (zP HO355.out))) (kH (zP HO361.out))) (kH (zP HO365.out))) (kH (zP HO368.out))) (kH (zP HO374.out))) (kP (zV HB.out GE344.out GE362.out))); replace HO349 := zA (kE (zP HO349.out) (kC ho0) hb); replace HO352 := zA (kE (zP HO352.out) (kC ho0) hb); replace HO355 := zA (kE (zP HO355.out) (kC ho0) hb); replace HO361 := zA (kE (zP HO361.out) (kC ho0) hb); replace HO365 := zA (kE (zP HO365.out) (kC ho0) hb); replace HO368 := zA (kE (zP HO368.out) (kC ho0) hb); replace HO374 := zA (kE (zP HO374.out) (kC ho0) hb); replace BK344 := zA (zB1 BK344.out hb); replace BK362 := zA (zB1 BK362.out hb); replace HB := zA (kQ (zV HB.out GE344.out GE362.out) hb); (try clear hb); (try clear ho0); obtain ⟨Ao60, co60, eo60⟩ := kM HO378.out; subst eo60) | (refine zO (some 65) Tryd.func11 #[.slice Ao52 t363.length co52, .slice Ao60 t376.length co60] ?_; (with_reducible refine (laws_eqInt64S.calls k _ _ t363 _ _ t376 true _ ?side1 ?side2 ?side3 ?side4 A27.out).mono ?_); (case side1 => exact zS (kB HO365.out).2.2); (case side2 => exact (kB HO365.out).2.1); (case side3 => exact zS (kB HO378.out).2.2); (case side4 => exact (kB HO378.out).2.1); rintro e w' ⟨rfl, ⟨nd, rfl⟩⟩; refine ⟨_, rfl, ?_⟩) | (refine zO (some 69) Tryd.func8 #[.slice A2 l2.length c2] ?_; (with_reducible refine (laws_toInt64S.calls k _ _ l2 t380 _ ?side1 ?side2 A29.out).mono ?_); (case side1 => exact zS (kO HR2.out (zV HB.out GE344.out GE362.out))); (case side2 => exact HC2.out); rintro e w61 ⟨v381, rfl, ho0, hb⟩; refine ⟨_, rfl, ?_⟩; have HO382 := zA (kI (kF (kF (kF (kF (kF (kF (kF (kF ho0 (kH (zP HO349.out))) (kH (zP HO352.out))) (kH (zP HO355.out))) (kH (zP HO361.out))) (kH (zP HO365.out))) (kH (zP HO368.out))) (kH (zP HO374.out))) (kH (zP HO378.out))) (kP (zV HB.out GE344.out GE362.out))); replace HO349 := zA (kE (zP HO349.out) (kC ho0) hb); replace HO352 := zA (kE (zP HO352.out) (kC ho0) hb); replace HO355 := zA (kE (zP HO355.out) (kC ho0) hb); replace HO361 := zA (kE (zP HO361.out) (kC ho0) hb); replace HO365 := zA (kE (zP HO365.out) (kC ho0) hb); replace HO368 := zA (kE (zP HO368.out) (kC ho0) hb); replace HO374 := zA (kE (zP HO374.out) (kC ho0) hb); replace HO378 := zA (kE (zP HO378.out) (kC ho0) hb); replace BK344 := zA (zB1 BK344.out hb); replace BK362 := zA (zB1 BK362.out hb); replace HB := zA (kQ (zV HB.out GE344.out GE362.out) hb); (try clear hb); (try clear ho0); obtain ⟨Ao62, co62, eo62⟩ := kM HO382.out; subst eo62) | (refine zO (some 70) Tryd.func11 #[.slice Ao53 t366.length co53, .slice Ao62 t380.length co62] ?_; (with_reducible refine (laws_eqInt64S.calls k _ _ t366 _ _ t380 true _ ?side1 ?side2 ?side3 ?side4 A30.out).mono ?_); (case side1 => exact zS (kB HO368.out).2.2); (case side2 => exact (kB HO368.out).2.1); (case side3 => exact zS (kB HO382.out).2.2); (case side4 => exact (kB HO382.out).2.1); rintro e w' ⟨rfl, ⟨nd, rfl⟩⟩; refine ⟨_, rfl, ?_⟩))
     go_ret
     exact ⟨zr, zV HB.out GE344.out GE362.out⟩
    replace c31 := Bool.eq_false_iff.mpr c31
    subst c31
    rw [if_neg (show ¬ (false = true) by decide)] at H
    exact absurd H (by simp)
   replace c28 := Bool.eq_false_iff.mpr c28
   subst c28
   rw [if_neg (show ¬ (false = true) by decide)] at H
   exact absurd H (by simp)
  replace c25 := Bool.eq_false_iff.mpr c25
  subst c25
  rw [if_neg (show ¬ (false = true) by decide)] at H
  exact absurd H (by simp)
 rw [if_neg c22] at H
 exact absurd H (by simp)

end Go.Proofs.YtinkolnhpgilpaaDoor.PAll
