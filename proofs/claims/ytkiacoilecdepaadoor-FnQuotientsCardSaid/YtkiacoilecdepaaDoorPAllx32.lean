-- Printed by a program of the session (wip/tools/pgen.py) out of the translation. Not trusted: Lean checks it.
import Derived.Test.YtkiacoilecdepaaDoorPAllx0
import Derived.Test.YtkiacoilecdepaaDoorPAllx1
import Derived.Test.YtkiacoilecdepaaDoorPAllx4
import Derived.Test.YtkiacoilecdepaaDoorPAllx5
import Derived.Test.YtkiacoilecdepaaDoorPAllx6
import Derived.Test.YtkiacoilecdepaaDoorPAllx13
import Derived.Test.YtkiacoilecdepaaDoorPAllx15
import Derived.Test.YtkiacoilecdepaaDoorPAllx20
import Derived.Test.YtkiacoilecdepaaDoorPAllx21
import Derived.Test.YtkiacoilecdepaaDoorPAllx31
namespace Go.Proofs.YtkiacoilecdepaaDoor.PAll
open Go.RowKit Go.Proofs.YtkiacoilecdepaaDoor.T Go.Proofs.YtkiacoilecdepaaDoorW.PrintWords Go.Proofs.YtkiacoilecdepaaDoorW.PrintLast Go.Proofs.YtkiacoilecdepaaDoorW.PrintMore
attribute [local go_sem] max2_int min2_int max_two min_two max_three min_three max_four min_four   -- for this text's walks alone
set_option linter.unusedVariables false
set_option linter.unusedSimpArgs false

/-! ### impl_RightQuotient: function 27 -/
def impl_RightQuotient.f (k : Nat) (a0_0 : Int) (l0_1 : List Int) (l1 : List Int) (l2 : List Int) : Option (List Int × Int) := (impl_checkWords.f k a0_0 l0_1 (([l1, l2] : List (List Int)))).bind fun t887 => (if t887 = 0 then ((impl_Alphabet_ties.f a0_0 l0_1).bind fun t888 => ((impl_reversed.f k l1).bind fun t891 => ((impl_reversed.f k l2).bind fun t894 => ((impl_ties_quotient.f k t888 t891 t894).bind fun bt897 => (if bt897.2 = true then ((impl_Alphabet_ties.f a0_0 l0_1).bind fun t901 => ((impl_reversed.f k bt897.1).bind fun t904 => ((impl_ties_normal.f k t901 t904).bind fun t907 => (some (t907, 0))))) else (some (([] : List Int), 4))))))) else (some (([] : List Int), t887)))

set_option maxHeartbeats 8000000 in
set_option maxRecDepth 100000 in
theorem impl_RightQuotient.calls (k : Nat) (a0_0 : Int) (P0_1_ : Nat → Prop) (A0_1 : Option Addr) (c0_1 : Nat) (l0_1 : List Int) (P1_ : Nat → Prop) (A1 : Option Addr) (c1 : Nat) (l1 : List Int) (P2_ : Nat → Prop) (A2 : Option Addr) (c2 : Nat) (l2 : List Int) (r1 : List Int) (r2 : Int) (w : World) (hs0_1 : Kd.V (Kd.int .i64) 2 w w.heap.size (fun k_ => P0_1_ k_) (.slice A0_1 l0_1.length c0_1) l0_1) (hs1 : Kd.V (Kd.int .i64) 2 w w.heap.size (fun k_ => P1_ k_) (.slice A1 l1.length c1) l1) (hs2 : Kd.V (Kd.int .i64) 2 w w.heap.size (fun k_ => P2_ k_) (.slice A2 l2.length c2) l2) (hT : TabW w) (h : impl_RightQuotient.f k a0_0 l0_1 l1 l2 = some (r1, r2)) :
  Calls Tryd.prog 27 #[.agg #[.int .i64 a0_0, .slice A0_1 l0_1.length c0_1], .slice A1 l1.length c1, .slice A2 l2.length c2] w fun e w' => ∃ v0_ : Value, e = .returned (.tuple #[v0_, .int .i64 r2]) ∧ Kd.R (Kd.int .i64) 2 w' w.heap.size (fun k_ => (w.heap.size ≤ k_)) v0_ r1 ∧ Below w.heap.size w w' := by
 have hu26 := Tryd.underlying26
 have HT := zA hT
 clear hT
 have HO0_1 := zA (show Kd.V (Kd.int .i64) 2 w w.heap.size (fun k_ => ((P0_1_ k_ ∨ P1_ k_ ∨ P2_ k_) ∨ w.heap.size ≤ k_)) (.slice A0_1 l0_1.length c0_1) l0_1 from kN hs0_1 (fun k_ hk => .inl (.inl hk)))
 have HO1 := zA (show Kd.V (Kd.int .i64) 2 w w.heap.size (fun k_ => ((P0_1_ k_ ∨ P1_ k_ ∨ P2_ k_) ∨ w.heap.size ≤ k_)) (.slice A1 l1.length c1) l1 from kN hs1 (fun k_ hk => .inl (.inr (.inl hk))))
 have HO2 := zA (show Kd.V (Kd.int .i64) 2 w w.heap.size (fun k_ => ((P0_1_ k_ ∨ P1_ k_ ∨ P2_ k_) ∨ w.heap.size ≤ k_)) (.slice A2 l2.length c2) l2 from kN hs2 (fun k_ hk => .inl (.inr (.inr hk))))
 have HB := zA (kW w.heap.size w)
 have H := h
 unfold impl_RightQuotient.f at H
 clear h
 obtain ⟨y884, hy884⟩ : ∃ y_ : List (List Int), y_ = (([l1, l2] : List (List Int))) := ⟨_, rfl⟩
 replace H : ((impl_checkWords.f k a0_0 l0_1 y884).bind fun t887 => (if t887 = 0 then ((impl_Alphabet_ties.f a0_0 l0_1).bind fun t888 => ((impl_reversed.f k l1).bind fun t891 => ((impl_reversed.f k l2).bind fun t894 => ((impl_ties_quotient.f k t888 t891 t894).bind fun bt897 => (if bt897.2 = true then ((impl_Alphabet_ties.f a0_0 l0_1).bind fun t901 => ((impl_reversed.f k bt897.1).bind fun t904 => ((impl_ties_normal.f k t901 t904).bind fun t907 => (some (t907, 0))))) else (some (([] : List Int), 4))))))) else (some (([] : List Int), t887)))) = some (r1, r2) := zy hy884 H
 have Ny884 := zA hy884
 clear hy884
 obtain ⟨t887, A4, H⟩ := zb H
 try dsimp only at H
 by_cases c5 : t887 = 0
 ·rw [if_pos c5] at H
  obtain ⟨c5b0, c5b1⟩ := zT1 c5
  clear c5
  obtain ⟨t888, A6, H⟩ := zb H
  try dsimp only at H
  obtain ⟨t891, A7, H⟩ := zb H
  try dsimp only at H
  obtain ⟨t894, A8, H⟩ := zb H
  try dsimp only at H
  obtain ⟨⟨t897, t900⟩, A9, H⟩ := zb H
  try dsimp only at H
  by_cases c10 : t900 = true
  ·subst c10
   rw [if_pos rfl] at H
   obtain ⟨t901, A11, H⟩ := zb H
   try dsimp only at H
   obtain ⟨t904, A12, H⟩ := zb H
   try dsimp only at H
   obtain ⟨t907, A13, H⟩ := zb H
   try dsimp only at H
   simp only [Option.some.injEq, Prod.mk.injEq] at H
   obtain ⟨rfl, rfl⟩ := H
   go_enter Tryd.func27, Tryd.ntmps27
   go_wp2_with (first | (refine zBE 3 #[.int .i64 a0_0, .slice A0_1 l0_1.length c0_1] 26 ?_; intro gb883 hg w14 hbox hb; replace HO0_1 := zA (kG (jD (zPV HO0_1.out) gb883 (Nat.le_of_eq hg.symm)) hb); replace HO1 := zA (kG (jD (zPV HO1.out) gb883 (Nat.le_of_eq hg.symm)) hb); replace HO2 := zA (kG (jD (zPV HO2.out) gb883 (Nat.le_of_eq hg.symm)) hb); have BK883 := zA (hbox); have GW883 := zA (zBH hg HB.out); have GE883 := zA (zBH hg HB.out); replace HB := zA (kQ (zQ HB.out) hb); clear hb hbox hg; obtain ⟨hcz15_0, hcz15_1, hfz15_0, hfz15_1⟩ := zB3 BK883.out) | ((with_reducible refine kS (N := 14) rfl ?_); refine Kd.N_lit (Kd.slice 2 (Kd.int .i64)) _ 24 ?hg (N' := 14) ?hd (xs := ([l1, l2] : List (List Int))) (inner := [.slice A1 l1.length c1, .slice A2 l2.length c2]) (ok := (fun k_ => ((P0_1_ k_ ∨ P1_ k_ ∨ P2_ k_) ∨ w.heap.size ≤ k_) ∧ k_ ≠ gb883)) (okp := (fun k_ => ((P0_1_ k_ ∨ P1_ k_ ∨ P2_ k_) ∨ w.heap.size ≤ k_) ∧ k_ ≠ gb883)) ?hr ?hp (fun _ hk => hk) ((show ∀ k_ : Nat, (_ : Nat) ≤ k_ → (fun k_ => ((P0_1_ k_ ∨ P1_ k_ ∨ P2_ k_) ∨ w.heap.size ≤ k_) ∧ k_ ≠ gb883) k_ from fun k_ hk => ⟨(.inr (Nat.le_trans (kP (zT HB.out GE883.out)) hk)), jE (g := gb883) (o := .cells #[.int .i64 a0_0, .slice A0_1 l0_1.length c0_1] 26 (0, 0)) (zR BK883.out) k_ hk⟩) _ (Nat.le_refl _)) (kW _ _) (Nat.le_refl _) (by simp) ?_; (case hd => rfl); (case hg => rfl); (case hr => first | (go_simp; done) | (go_simp; rfl)); (case hp => exact (Reps.one (show Kd.FK (Kd.slice 2 (Kd.int .i64)) _ _ l1 [.slice A1 l1.length c1] from (zFK (kN (ok' := (fun k_ => ((P0_1_ k_ ∨ P1_ k_ ∨ P2_ k_) ∨ w.heap.size ≤ k_) ∧ k_ ≠ gb883)) (HO1.out) (fun k_ hk => ⟨hk.1, hk.2⟩)))) (Reps.one (show Kd.FK (Kd.slice 2 (Kd.int .i64)) _ _ l2 [.slice A2 l2.length c2] from (zFK (kN (ok' := (fun k_ => ((P0_1_ k_ ∨ P1_ k_ ∨ P2_ k_) ∨ w.heap.size ≤ k_) ∧ k_ ≠ gb883)) (HO2.out) (fun k_ hk => ⟨hk.1, hk.2⟩)))) (Reps.none _ _)))); intro v885 w16 ho17 hb hg_ hnew_; clear hg_ hnew_; (first | rw [← Ny884.out] at ho17 | (simp only [Int.reduceToNat] at ho17; rw [← Ny884.out] at ho17)); replace HO0_1 := zA (kK (zPV HO0_1.out) (Kd.N_base ho17) hb); replace HO1 := zA (kK (zPV HO1.out) (Kd.N_base ho17) hb); replace HO2 := zA (kK (zPV HO2.out) (Kd.N_base ho17) hb); have HO886 := zA (jN ho17 (kP (zT HB.out GE883.out))); replace BK883 := zA (zB1 BK883.out hb); replace HB := zA (kQ (zT HB.out GE883.out) hb); clear hb ho17; obtain ⟨Ao18, co18, eo18⟩ := Kd.N_slice HO886.out; subst eo18) | (refine zO (some 15) Tryd.func49 #[.agg #[.int .i64 a0_0, .slice A0_1 l0_1.length c0_1], .slice Ao18 y884.length co18] ?_; (with_reducible refine (impl_checkWords.calls k a0_0 _ _ l0_1 _ _ y884 t887 _ ?side1 ?side2 ?side3 ?side4 ?side5 A4.out).mono ?_); (case side1 => exact zS (kJ HO0_1.out).2.2); (case side2 => exact (kJ HO0_1.out).2.1); (case side3 => exact zS (Kd.N_reads' HO886.out).2.2); (case side4 => exact (Kd.N_reads' HO886.out).2.1); (case side5 => exact TabW.below HT.out (zT HB.out GE883.out)); rintro e w19 ⟨rfl, hb⟩; refine ⟨_, rfl, ?_⟩; replace HO0_1 := zA (kG (zPV HO0_1.out) hb); replace HO1 := zA (kG (zPV HO1.out) hb); replace HO2 := zA (kG (zPV HO2.out) hb); replace HO886 := zA (kZ (zPN HO886.out) hb); replace BK883 := zA (zB1 BK883.out hb); replace HB := zA (kQ (zT HB.out GE883.out) hb); (try clear hb); obtain ⟨hcz20_0, hcz20_1, hfz20_0, hfz20_1⟩ := zB3 BK883.out) | (refine zO (some 21) Tryd.func50 #[.agg #[.int .i64 a0_0, .slice A0_1 l0_1.length c0_1]] ?_; (with_reducible refine (impl_Alphabet_ties.calls a0_0 (fun k_ => ((((P0_1_ k_ ∨ P1_ k_ ∨ P2_ k_) ∨ w.heap.size ≤ k_) ∧ k_ ≠ gb883) ∧ some k_ ≠ (.slice Ao18 y884.length co18 : Value).ownBlock)) _ _ l0_1 t888 _ ?side1 A6.out).mono ?_); (case side1 => exact HO0_1.out); rintro e w21 ⟨v889, rfl, ho0, hb⟩; refine ⟨_, rfl, ?_⟩; replace HO0_1 := zA (kG (zPV HO0_1.out) hb); replace HO1 := zA (kG (zPV HO1.out) hb); replace HO2 := zA (kG (zPV HO2.out) hb); have HO890 := zA (jM (kN (ok' := fun k_ => ((P0_1_ k_ ∨ P1_ k_ ∨ P2_ k_) ∨ w.heap.size ≤ k_) ∧ some k_ ≠ (.slice Ao18 y884.length co18 : Value).ownBlock ∧ k_ ≠ gb883) ho0 (fun k_ hk_ => ⟨Or.elim hk_ (fun hs_ => hs_.1.1) (fun hn_ => (.inr (Nat.le_trans (kP (zT HB.out GE883.out)) hn_))), Or.elim hk_ (fun hs_ => hs_.2) (fun hn_ => (jF (jA (zPN HO886.out)) k_ hn_)), Or.elim hk_ (fun hs_ => hs_.1.2) (fun hn_ => (jE (g := gb883) (o := .cells #[.int .i64 a0_0, .slice A0_1 l0_1.length c0_1] 26 (0, 0)) (zR BK883.out) k_ hn_))⟩)) (kP (zT HB.out GE883.out))); replace HO886 := zA (kZ (zPN HO886.out) hb); replace BK883 := zA (zB1 BK883.out hb); replace HB := zA (kQ (zT HB.out GE883.out) hb); (try clear hb); (try clear ho0)) | (refine zO (some 23) Tryd.func57 #[.slice A1 l1.length c1] ?_; (with_reducible refine (impl_reversed.calls k _ _ l1 t891 _ ?side1 ?side2 A7.out).mono ?_); (case side1 => exact zS (kJ HO1.out).2.2); (case side2 => exact (kJ HO1.out).2.1); rintro e w22 ⟨v892, rfl, ho0, hb⟩; refine ⟨_, rfl, ?_⟩; replace HO0_1 := zA (kK (zPV HO0_1.out) (kC ho0) hb); replace HO1 := zA (kK (zPV HO1.out) (kC ho0) hb); replace HO2 := zA (kK (zPV HO2.out) (kC ho0) hb); replace HO886 := zA (Kd.N_elder' (zPN HO886.out) (kC ho0) hb); replace HO890 := zA (kK (zPV HO890.out) (kC ho0) hb); have HO893 := zA (kI (Kd.R_newM (M := fun k_ => (w.heap.size ≤ k_)) ho0 (kP (zT HB.out GE883.out)) (fun k_ h_ => h_)) (kP (zT HB.out GE883.out))); replace BK883 := zA (zB1 BK883.out hb); replace HB := zA (kQ (zT HB.out GE883.out) hb); (try clear hb); (try clear ho0)) | (refine zO (some 25) Tryd.func57 #[.slice A2 l2.length c2] ?_; (with_reducible refine (impl_reversed.calls k _ _ l2 t894 _ ?side1 ?side2 A8.out).mono ?_); (case side1 => exact zS (kJ HO2.out).2.2); (case side2 => exact (kJ HO2.out).2.1); rintro e w23 ⟨v895, rfl, ho0, hb⟩; refine ⟨_, rfl, ?_⟩; replace HO0_1 := zA (kK (zPV HO0_1.out) (kC ho0) hb); replace HO1 := zA (kK (zPV HO1.out) (kC ho0) hb); replace HO2 := zA (kK (zPV HO2.out) (kC ho0) hb); replace HO886 := zA (Kd.N_elder' (zPN HO886.out) (kC ho0) hb); replace HO890 := zA (kK (zPV HO890.out) (kC ho0) hb); have HO896 := zA (kI (kF (Kd.R_newM (M := fun k_ => (w.heap.size ≤ k_)) ho0 (kP (zT HB.out GE883.out)) (fun k_ h_ => h_)) (kH (zP HO893.out))) (kP (zT HB.out GE883.out))); replace HO893 := zA (kE (zP HO893.out) (kC ho0) hb); replace BK883 := zA (zB1 BK883.out hb); replace HB := zA (kQ (zT HB.out GE883.out) hb); (try clear hb); (try clear ho0); obtain ⟨Ao24, co24, eo24⟩ := Kd.V_slice HO890.out; subst eo24; obtain ⟨Ao25, co25, eo25⟩ := kM HO893.out; subst eo25; obtain ⟨Ao26, co26, eo26⟩ := kM HO896.out; subst eo26) | (refine zO (some 26) Tryd.func59 #[.slice Ao24 t888.length co24, .slice Ao25 t891.length co25, .slice Ao26 t894.length co26] ?_; (with_reducible refine (impl_ties_quotient.calls k _ _ t888 _ _ t891 (fun k_ => some k_ = (.slice Ao26 t894.length co26 : Value).ownBlock) _ _ t894 t897 true _ ?side1 ?side2 ?side3 ?side4 ?side5 A9.out).mono ?_); (case side1 => exact zS (kJ HO890.out).2.2); (case side2 => exact (kJ HO890.out).2.1); (case side3 => exact zS (kB HO893.out).2.2); (case side4 => exact (kB HO893.out).2.1); (case side5 => exact jL (jK rfl (kD (Kd.R_apart' (HO896.out) (Kd.N_typed HO886.out) (by decide)) BK883.out (by decide)))); rintro e w27 ⟨v898, rfl, ho0, hb⟩; refine ⟨_, rfl, ?_⟩; replace HO0_1 := zA (kG (zPV HO0_1.out) hb); replace HO1 := zA (kG (zPV HO1.out) hb); replace HO2 := zA (kG (zPV HO2.out) hb); replace HO890 := zA (kG (zPV HO890.out) hb); have HO899 := zA (jM (kN (ok' := fun k_ => ((P0_1_ k_ ∨ P1_ k_ ∨ P2_ k_) ∨ w.heap.size ≤ k_) ∧ some k_ ≠ (.slice Ao18 y884.length co18 : Value).ownBlock ∧ some k_ ≠ (.slice Ao25 t891.length co25 : Value).ownBlock ∧ k_ ≠ gb883) ho0 (fun k_ hk_ => ⟨Or.elim hk_ (fun hs_ => (.inr (((kD (Kd.R_apart' (HO896.out) (Kd.N_typed HO886.out) (by decide)) BK883.out (by decide)).1 k_ hs_.symm).1.1.1.1))) (fun hn_ => (.inr (Nat.le_trans (kP (zT HB.out GE883.out)) hn_))), Or.elim hk_ (fun hs_ => ((kD (Kd.R_apart' (HO896.out) (Kd.N_typed HO886.out) (by decide)) BK883.out (by decide)).1 k_ hs_.symm).1.2) (fun hn_ => (jF (jA (zPN HO886.out)) k_ hn_)), Or.elim hk_ (fun hs_ => ((kD (Kd.R_apart' (HO896.out) (Kd.N_typed HO886.out) (by decide)) BK883.out (by decide)).1 k_ hs_.symm).1.1.2) (fun hn_ => (jF (kH (zP HO893.out)) k_ hn_)), Or.elim hk_ (fun hs_ => ((kD (Kd.R_apart' (HO896.out) (Kd.N_typed HO886.out) (by decide)) BK883.out (by decide)).1 k_ hs_.symm).2) (fun hn_ => (jE (g := gb883) (o := .cells #[.int .i64 a0_0, .slice A0_1 l0_1.length c0_1] 26 (0, 0)) (zR BK883.out) k_ hn_))⟩)) (kP (zT HB.out GE883.out))); replace HO886 := zA (kZ (zPN HO886.out) hb); replace HO893 := zA (kL (zP HO893.out) hb); replace HO896 := zA (kL (zP HO896.out) hb); replace BK883 := zA (zB1 BK883.out hb); replace HB := zA (kQ (zT HB.out GE883.out) hb); (try clear hb); (try clear ho0); obtain ⟨hcz28_0, hcz28_1, hfz28_0, hfz28_1⟩ := zB3 BK883.out) | (refine zO (some 32) Tryd.func50 #[.agg #[.int .i64 a0_0, .slice A0_1 l0_1.length c0_1]] ?_; (with_reducible refine (impl_Alphabet_ties.calls a0_0 (fun k_ => ((((((P0_1_ k_ ∨ P1_ k_ ∨ P2_ k_) ∨ w.heap.size ≤ k_) ∧ k_ ≠ gb883) ∧ some k_ ≠ (.slice Ao18 y884.length co18 : Value).ownBlock) ∧ some k_ ≠ (.slice Ao25 t891.length co25 : Value).ownBlock) ∧ some k_ ≠ (.slice Ao26 t894.length co26 : Value).ownBlock)) _ _ l0_1 t901 _ ?side1 A11.out).mono ?_); (case side1 => exact HO0_1.out); rintro e w29 ⟨v902, rfl, ho0, hb⟩; refine ⟨_, rfl, ?_⟩; replace HO0_1 := zA (kG (zPV HO0_1.out) hb); replace HO1 := zA (kG (zPV HO1.out) hb); replace HO2 := zA (kG (zPV HO2.out) hb); replace HO890 := zA (kG (zPV HO890.out) hb); replace HO899 := zA (kG (zPV HO899.out) hb); have HO903 := zA (jM (kN (ok' := fun k_ => ((P0_1_ k_ ∨ P1_ k_ ∨ P2_ k_) ∨ w.heap.size ≤ k_) ∧ some k_ ≠ (.slice Ao18 y884.length co18 : Value).ownBlock ∧ some k_ ≠ (.slice Ao25 t891.length co25 : Value).ownBlock ∧ some k_ ≠ (.slice Ao26 t894.length co26 : Value).ownBlock ∧ k_ ≠ gb883) ho0 (fun k_ hk_ => ⟨Or.elim hk_ (fun hs_ => hs_.1.1.1.1) (fun hn_ => (.inr (Nat.le_trans (kP (zT HB.out GE883.out)) hn_))), Or.elim hk_ (fun hs_ => hs_.1.1.2) (fun hn_ => (jF (jA (zPN HO886.out)) k_ hn_)), Or.elim hk_ (fun hs_ => hs_.1.2) (fun hn_ => (jF (kH (zP HO893.out)) k_ hn_)), Or.elim hk_ (fun hs_ => hs_.2) (fun hn_ => (jF (kH (zP HO896.out)) k_ hn_)), Or.elim hk_ (fun hs_ => hs_.1.1.1.2) (fun hn_ => (jE (g := gb883) (o := .cells #[.int .i64 a0_0, .slice A0_1 l0_1.length c0_1] 26 (0, 0)) (zR BK883.out) k_ hn_))⟩)) (kP (zT HB.out GE883.out))); replace HO886 := zA (kZ (zPN HO886.out) hb); replace HO893 := zA (kL (zP HO893.out) hb); replace HO896 := zA (kL (zP HO896.out) hb); replace BK883 := zA (zB1 BK883.out hb); replace HB := zA (kQ (zT HB.out GE883.out) hb); (try clear hb); (try clear ho0); obtain ⟨Ao30, co30, eo30⟩ := Kd.V_slice HO899.out; subst eo30) | (refine zO (some 34) Tryd.func57 #[.slice Ao30 t897.length co30] ?_; (with_reducible refine (impl_reversed.calls k _ _ t897 t904 _ ?side1 ?side2 A12.out).mono ?_); (case side1 => exact zS (kJ HO899.out).2.2); (case side2 => exact (kJ HO899.out).2.1); rintro e w31 ⟨v905, rfl, ho0, hb⟩; refine ⟨_, rfl, ?_⟩; replace HO0_1 := zA (kK (zPV HO0_1.out) (kC ho0) hb); replace HO1 := zA (kK (zPV HO1.out) (kC ho0) hb); replace HO2 := zA (kK (zPV HO2.out) (kC ho0) hb); replace HO886 := zA (Kd.N_elder' (zPN HO886.out) (kC ho0) hb); replace HO890 := zA (kK (zPV HO890.out) (kC ho0) hb); replace HO899 := zA (kK (zPV HO899.out) (kC ho0) hb); replace HO903 := zA (kK (zPV HO903.out) (kC ho0) hb); have HO906 := zA (kI (kF (kF (Kd.R_newM (M := fun k_ => (w.heap.size ≤ k_)) ho0 (kP (zT HB.out GE883.out)) (fun k_ h_ => h_)) (kH (zP HO893.out))) (kH (zP HO896.out))) (kP (zT HB.out GE883.out))); replace HO893 := zA (kE (zP HO893.out) (kC ho0) hb); replace HO896 := zA (kE (zP HO896.out) (kC ho0) hb); replace BK883 := zA (zB1 BK883.out hb); replace HB := zA (kQ (zT HB.out GE883.out) hb); (try clear hb); (try clear ho0); obtain ⟨Ao32, co32, eo32⟩ := Kd.V_slice HO903.out; subst eo32; obtain ⟨Ao33, co33, eo33⟩ := kM HO906.out; subst eo33) | (refine zO (some 35) Tryd.func56 #[.slice Ao32 t901.length co32, .slice Ao33 t904.length co33] ?_; (with_reducible refine (impl_ties_normal.calls k _ _ t901 (fun k_ => some k_ = (.slice Ao33 t904.length co33 : Value).ownBlock) _ _ t904 t907 _ ?side1 ?side2 ?side3 ?side4 A13.out).mono ?_); (case side1 => exact zS (kJ HO903.out).2.2); (case side2 => exact (kJ HO903.out).2.1); (case side3 => exact jL (jK rfl (kD (Kd.R_apart' (HO906.out) (Kd.N_typed HO886.out) (by decide)) BK883.out (by decide)))); (case side4 => exact TabW.below HT.out (zT HB.out GE883.out)); rintro e w34 ⟨v908, rfl, ho0, hb⟩; refine ⟨_, rfl, ?_⟩; replace HO0_1 := zA (kK (zPV HO0_1.out) (kC ho0) hb); replace HO1 := zA (kK (zPV HO1.out) (kC ho0) hb); replace HO2 := zA (kK (zPV HO2.out) (kC ho0) hb); replace HO886 := zA (Kd.N_elder' (zPN HO886.out) (kC ho0) hb); replace HO890 := zA (kK (zPV HO890.out) (kC ho0) hb); replace HO899 := zA (kK (zPV HO899.out) (kC ho0) hb); replace HO903 := zA (kK (zPV HO903.out) (kC ho0) hb); have HO909 := zA (kI (kF (kF (kF (Kd.R_newM (M := fun k_ => (w.heap.size ≤ k_)) (kA (ok' := fun k_ => True) ho0 (fun _ hk_ => trivial)) (kP (zT HB.out GE883.out)) (fun k_ h_ => h_)) (kH (zP HO893.out))) (kH (zP HO896.out))) (kH (zP HO906.out))) (kP (zT HB.out GE883.out))); replace HO893 := zA (kE (zP HO893.out) (kC ho0) hb); replace HO896 := zA (kE (zP HO896.out) (kC ho0) hb); replace HO906 := zA (kE (zP HO906.out) (kC ho0) hb); replace BK883 := zA (zB1 BK883.out hb); replace HB := zA (kQ (zT HB.out GE883.out) hb); (try clear hb); (try clear ho0)))
   go_ret2
   exact ⟨_, zr, by (with_reducible repeat (first | apply zF | apply zG | apply zH)); exact kA HO909.out (fun _ hk => hk.1.1.1.1), zT HB.out GE883.out⟩
  replace c10 := Bool.eq_false_iff.mpr c10
  subst c10
  rw [if_neg (show ¬ (false = true) by decide)] at H
  simp only [Option.some.injEq, Prod.mk.injEq] at H
  obtain ⟨rfl, rfl⟩ := H
  go_enter Tryd.func27, Tryd.ntmps27
  go_wp2_with (first | (refine zBE 3 #[.int .i64 a0_0, .slice A0_1 l0_1.length c0_1] 26 ?_; intro gb883 hg w35 hbox hb; replace HO0_1 := zA (kG (jD (zPV HO0_1.out) gb883 (Nat.le_of_eq hg.symm)) hb); replace HO1 := zA (kG (jD (zPV HO1.out) gb883 (Nat.le_of_eq hg.symm)) hb); replace HO2 := zA (kG (jD (zPV HO2.out) gb883 (Nat.le_of_eq hg.symm)) hb); have BK883 := zA (hbox); have GW883 := zA (zBH hg HB.out); have GE883 := zA (zBH hg HB.out); replace HB := zA (kQ (zQ HB.out) hb); clear hb hbox hg; obtain ⟨hcz36_0, hcz36_1, hfz36_0, hfz36_1⟩ := zB3 BK883.out) | ((with_reducible refine kS (N := 14) rfl ?_); refine Kd.N_lit (Kd.slice 2 (Kd.int .i64)) _ 24 ?hg (N' := 14) ?hd (xs := ([l1, l2] : List (List Int))) (inner := [.slice A1 l1.length c1, .slice A2 l2.length c2]) (ok := (fun k_ => ((P0_1_ k_ ∨ P1_ k_ ∨ P2_ k_) ∨ w.heap.size ≤ k_) ∧ k_ ≠ gb883)) (okp := (fun k_ => ((P0_1_ k_ ∨ P1_ k_ ∨ P2_ k_) ∨ w.heap.size ≤ k_) ∧ k_ ≠ gb883)) ?hr ?hp (fun _ hk => hk) ((show ∀ k_ : Nat, (_ : Nat) ≤ k_ → (fun k_ => ((P0_1_ k_ ∨ P1_ k_ ∨ P2_ k_) ∨ w.heap.size ≤ k_) ∧ k_ ≠ gb883) k_ from fun k_ hk => ⟨(.inr (Nat.le_trans (kP (zT HB.out GE883.out)) hk)), jE (g := gb883) (o := .cells #[.int .i64 a0_0, .slice A0_1 l0_1.length c0_1] 26 (0, 0)) (zR BK883.out) k_ hk⟩) _ (Nat.le_refl _)) (kW _ _) (Nat.le_refl _) (by simp) ?_; (case hd => rfl); (case hg => rfl); (case hr => first | (go_simp; done) | (go_simp; rfl)); (case hp => exact (Reps.one (show Kd.FK (Kd.slice 2 (Kd.int .i64)) _ _ l1 [.slice A1 l1.length c1] from (zFK (kN (ok' := (fun k_ => ((P0_1_ k_ ∨ P1_ k_ ∨ P2_ k_) ∨ w.heap.size ≤ k_) ∧ k_ ≠ gb883)) (HO1.out) (fun k_ hk => ⟨hk.1, hk.2⟩)))) (Reps.one (show Kd.FK (Kd.slice 2 (Kd.int .i64)) _ _ l2 [.slice A2 l2.length c2] from (zFK (kN (ok' := (fun k_ => ((P0_1_ k_ ∨ P1_ k_ ∨ P2_ k_) ∨ w.heap.size ≤ k_) ∧ k_ ≠ gb883)) (HO2.out) (fun k_ hk => ⟨hk.1, hk.2⟩)))) (Reps.none _ _)))); intro v885 w37 ho38 hb hg_ hnew_; clear hg_ hnew_; (first | rw [← Ny884.out] at ho38 | (simp only [Int.reduceToNat] at ho38; rw [← Ny884.out] at ho38)); replace HO0_1 := zA (kK (zPV HO0_1.out) (Kd.N_base ho38) hb); replace HO1 := zA (kK (zPV HO1.out) (Kd.N_base ho38) hb); replace HO2 := zA (kK (zPV HO2.out) (Kd.N_base ho38) hb); have HO886 := zA (jN ho38 (kP (zT HB.out GE883.out))); replace BK883 := zA (zB1 BK883.out hb); replace HB := zA (kQ (zT HB.out GE883.out) hb); clear hb ho38; obtain ⟨Ao39, co39, eo39⟩ := Kd.N_slice HO886.out; subst eo39) | (refine zO (some 15) Tryd.func49 #[.agg #[.int .i64 a0_0, .slice A0_1 l0_1.length c0_1], .slice Ao39 y884.length co39] ?_; (with_reducible refine (impl_checkWords.calls k a0_0 _ _ l0_1 _ _ y884 t887 _ ?side1 ?side2 ?side3 ?side4 ?side5 A4.out).mono ?_); (case side1 => exact zS (kJ HO0_1.out).2.2); (case side2 => exact (kJ HO0_1.out).2.1); (case side3 => exact zS (Kd.N_reads' HO886.out).2.2); (case side4 => exact (Kd.N_reads' HO886.out).2.1); (case side5 => exact TabW.below HT.out (zT HB.out GE883.out)); rintro e w40 ⟨rfl, hb⟩; refine ⟨_, rfl, ?_⟩; replace HO0_1 := zA (kG (zPV HO0_1.out) hb); replace HO1 := zA (kG (zPV HO1.out) hb); replace HO2 := zA (kG (zPV HO2.out) hb); replace HO886 := zA (kZ (zPN HO886.out) hb); replace BK883 := zA (zB1 BK883.out hb); replace HB := zA (kQ (zT HB.out GE883.out) hb); (try clear hb); obtain ⟨hcz41_0, hcz41_1, hfz41_0, hfz41_1⟩ := zB3 BK883.out) | (refine zO (some 21) Tryd.func50 #[.agg #[.int .i64 a0_0, .slice A0_1 l0_1.length c0_1]] ?_; (with_reducible refine (impl_Alphabet_ties.calls a0_0 (fun k_ => ((((P0_1_ k_ ∨ P1_ k_ ∨ P2_ k_) ∨ w.heap.size ≤ k_) ∧ k_ ≠ gb883) ∧ some k_ ≠ (.slice Ao39 y884.length co39 : Value).ownBlock)) _ _ l0_1 t888 _ ?side1 A6.out).mono ?_); (case side1 => exact HO0_1.out); rintro e w42 ⟨v889, rfl, ho0, hb⟩; refine ⟨_, rfl, ?_⟩; replace HO0_1 := zA (kG (zPV HO0_1.out) hb); replace HO1 := zA (kG (zPV HO1.out) hb); replace HO2 := zA (kG (zPV HO2.out) hb); have HO890 := zA (jM (kN (ok' := fun k_ => ((P0_1_ k_ ∨ P1_ k_ ∨ P2_ k_) ∨ w.heap.size ≤ k_) ∧ some k_ ≠ (.slice Ao39 y884.length co39 : Value).ownBlock ∧ k_ ≠ gb883) ho0 (fun k_ hk_ => ⟨Or.elim hk_ (fun hs_ => hs_.1.1) (fun hn_ => (.inr (Nat.le_trans (kP (zT HB.out GE883.out)) hn_))), Or.elim hk_ (fun hs_ => hs_.2) (fun hn_ => (jF (jA (zPN HO886.out)) k_ hn_)), Or.elim hk_ (fun hs_ => hs_.1.2) (fun hn_ => (jE (g := gb883) (o := .cells #[.int .i64 a0_0, .slice A0_1 l0_1.length c0_1] 26 (0, 0)) (zR BK883.out) k_ hn_))⟩)) (kP (zT HB.out GE883.out))); replace HO886 := zA (kZ (zPN HO886.out) hb); replace BK883 := zA (zB1 BK883.out hb); replace HB := zA (kQ (zT HB.out GE883.out) hb); (try clear hb); (try clear ho0)) | (refine zO (some 23) Tryd.func57 #[.slice A1 l1.length c1] ?_; (with_reducible refine (impl_reversed.calls k _ _ l1 t891 _ ?side1 ?side2 A7.out).mono ?_); (case side1 => exact zS (kJ HO1.out).2.2); (case side2 => exact (kJ HO1.out).2.1); rintro e w43 ⟨v892, rfl, ho0, hb⟩; refine ⟨_, rfl, ?_⟩; replace HO0_1 := zA (kK (zPV HO0_1.out) (kC ho0) hb); replace HO1 := zA (kK (zPV HO1.out) (kC ho0) hb); replace HO2 := zA (kK (zPV HO2.out) (kC ho0) hb); replace HO886 := zA (Kd.N_elder' (zPN HO886.out) (kC ho0) hb); replace HO890 := zA (kK (zPV HO890.out) (kC ho0) hb); have HO893 := zA (kI (Kd.R_newM (M := fun k_ => (w.heap.size ≤ k_)) ho0 (kP (zT HB.out GE883.out)) (fun k_ h_ => h_)) (kP (zT HB.out GE883.out))); replace BK883 := zA (zB1 BK883.out hb); replace HB := zA (kQ (zT HB.out GE883.out) hb); (try clear hb); (try clear ho0)) | (refine zO (some 25) Tryd.func57 #[.slice A2 l2.length c2] ?_; (with_reducible refine (impl_reversed.calls k _ _ l2 t894 _ ?side1 ?side2 A8.out).mono ?_); (case side1 => exact zS (kJ HO2.out).2.2); (case side2 => exact (kJ HO2.out).2.1); rintro e w44 ⟨v895, rfl, ho0, hb⟩; refine ⟨_, rfl, ?_⟩; replace HO0_1 := zA (kK (zPV HO0_1.out) (kC ho0) hb); replace HO1 := zA (kK (zPV HO1.out) (kC ho0) hb); replace HO2 := zA (kK (zPV HO2.out) (kC ho0) hb); replace HO886 := zA (Kd.N_elder' (zPN HO886.out) (kC ho0) hb); replace HO890 := zA (kK (zPV HO890.out) (kC ho0) hb); have HO896 := zA (kI (kF (Kd.R_newM (M := fun k_ => (w.heap.size ≤ k_)) ho0 (kP (zT HB.out GE883.out)) (fun k_ h_ => h_)) (kH (zP HO893.out))) (kP (zT HB.out GE883.out))); replace HO893 := zA (kE (zP HO893.out) (kC ho0) hb); replace BK883 := zA (zB1 BK883.out hb); replace HB := zA (kQ (zT HB.out GE883.out) hb); (try clear hb); (try clear ho0); obtain ⟨Ao45, co45, eo45⟩ := Kd.V_slice HO890.out; subst eo45; obtain ⟨Ao46, co46, eo46⟩ := kM HO893.out; subst eo46; obtain ⟨Ao47, co47, eo47⟩ := kM HO896.out; subst eo47) | (refine zO (some 26) Tryd.func59 #[.slice Ao45 t888.length co45, .slice Ao46 t891.length co46, .slice Ao47 t894.length co47] ?_; (with_reducible refine (impl_ties_quotient.calls k _ _ t888 _ _ t891 (fun k_ => some k_ = (.slice Ao47 t894.length co47 : Value).ownBlock) _ _ t894 t897 false _ ?side1 ?side2 ?side3 ?side4 ?side5 A9.out).mono ?_); (case side1 => exact zS (kJ HO890.out).2.2); (case side2 => exact (kJ HO890.out).2.1); (case side3 => exact zS (kB HO893.out).2.2); (case side4 => exact (kB HO893.out).2.1); (case side5 => exact jL (jK rfl (kD (Kd.R_apart' (HO896.out) (Kd.N_typed HO886.out) (by decide)) BK883.out (by decide)))); rintro e w48 ⟨v898, rfl, ho0, hb⟩; refine ⟨_, rfl, ?_⟩; replace HO0_1 := zA (kG (zPV HO0_1.out) hb); replace HO1 := zA (kG (zPV HO1.out) hb); replace HO2 := zA (kG (zPV HO2.out) hb); replace HO890 := zA (kG (zPV HO890.out) hb); have HO899 := zA (jM (kN (ok' := fun k_ => ((P0_1_ k_ ∨ P1_ k_ ∨ P2_ k_) ∨ w.heap.size ≤ k_) ∧ some k_ ≠ (.slice Ao39 y884.length co39 : Value).ownBlock ∧ some k_ ≠ (.slice Ao46 t891.length co46 : Value).ownBlock ∧ k_ ≠ gb883) ho0 (fun k_ hk_ => ⟨Or.elim hk_ (fun hs_ => (.inr (((kD (Kd.R_apart' (HO896.out) (Kd.N_typed HO886.out) (by decide)) BK883.out (by decide)).1 k_ hs_.symm).1.1.1.1))) (fun hn_ => (.inr (Nat.le_trans (kP (zT HB.out GE883.out)) hn_))), Or.elim hk_ (fun hs_ => ((kD (Kd.R_apart' (HO896.out) (Kd.N_typed HO886.out) (by decide)) BK883.out (by decide)).1 k_ hs_.symm).1.2) (fun hn_ => (jF (jA (zPN HO886.out)) k_ hn_)), Or.elim hk_ (fun hs_ => ((kD (Kd.R_apart' (HO896.out) (Kd.N_typed HO886.out) (by decide)) BK883.out (by decide)).1 k_ hs_.symm).1.1.2) (fun hn_ => (jF (kH (zP HO893.out)) k_ hn_)), Or.elim hk_ (fun hs_ => ((kD (Kd.R_apart' (HO896.out) (Kd.N_typed HO886.out) (by decide)) BK883.out (by decide)).1 k_ hs_.symm).2) (fun hn_ => (jE (g := gb883) (o := .cells #[.int .i64 a0_0, .slice A0_1 l0_1.length c0_1] 26 (0, 0)) (zR BK883.out) k_ hn_))⟩)) (kP (zT HB.out GE883.out))); replace HO886 := zA (kZ (zPN HO886.out) hb); replace HO893 := zA (kL (zP HO893.out) hb); replace HO896 := zA (kL (zP HO896.out) hb); replace BK883 := zA (zB1 BK883.out hb); replace HB := zA (kQ (zT HB.out GE883.out) hb); (try clear hb); (try clear ho0)))
  go_ret2
  exact ⟨_, zr, zn, zT HB.out GE883.out⟩
 rw [if_neg c5] at H
 obtain ⟨c5b0, c5b1⟩ := zT2 c5
 simp only [Option.some.injEq, Prod.mk.injEq] at H
 obtain ⟨rfl, rfl⟩ := H
 go_enter Tryd.func27, Tryd.ntmps27
 go_wp2_with (first | (refine zBE 3 #[.int .i64 a0_0, .slice A0_1 l0_1.length c0_1] 26 ?_; intro gb883 hg w49 hbox hb; replace HO0_1 := zA (kG (jD (zPV HO0_1.out) gb883 (Nat.le_of_eq hg.symm)) hb); replace HO1 := zA (kG (jD (zPV HO1.out) gb883 (Nat.le_of_eq hg.symm)) hb); replace HO2 := zA (kG (jD (zPV HO2.out) gb883 (Nat.le_of_eq hg.symm)) hb); have BK883 := zA (hbox); have GW883 := zA (zBH hg HB.out); have GE883 := zA (zBH hg HB.out); replace HB := zA (kQ (zQ HB.out) hb); clear hb hbox hg; obtain ⟨hcz50_0, hcz50_1, hfz50_0, hfz50_1⟩ := zB3 BK883.out) | ((with_reducible refine kS (N := 14) rfl ?_); refine Kd.N_lit (Kd.slice 2 (Kd.int .i64)) _ 24 ?hg (N' := 14) ?hd (xs := ([l1, l2] : List (List Int))) (inner := [.slice A1 l1.length c1, .slice A2 l2.length c2]) (ok := (fun k_ => ((P0_1_ k_ ∨ P1_ k_ ∨ P2_ k_) ∨ w.heap.size ≤ k_) ∧ k_ ≠ gb883)) (okp := (fun k_ => ((P0_1_ k_ ∨ P1_ k_ ∨ P2_ k_) ∨ w.heap.size ≤ k_) ∧ k_ ≠ gb883)) ?hr ?hp (fun _ hk => hk) ((show ∀ k_ : Nat, (_ : Nat) ≤ k_ → (fun k_ => ((P0_1_ k_ ∨ P1_ k_ ∨ P2_ k_) ∨ w.heap.size ≤ k_) ∧ k_ ≠ gb883) k_ from fun k_ hk => ⟨(.inr (Nat.le_trans (kP (zT HB.out GE883.out)) hk)), jE (g := gb883) (o := .cells #[.int .i64 a0_0, .slice A0_1 l0_1.length c0_1] 26 (0, 0)) (zR BK883.out) k_ hk⟩) _ (Nat.le_refl _)) (kW _ _) (Nat.le_refl _) (by simp) ?_; (case hd => rfl); (case hg => rfl); (case hr => first | (go_simp; done) | (go_simp; rfl)); (case hp => exact (Reps.one (show Kd.FK (Kd.slice 2 (Kd.int .i64)) _ _ l1 [.slice A1 l1.length c1] from (zFK (kN (ok' := (fun k_ => ((P0_1_ k_ ∨ P1_ k_ ∨ P2_ k_) ∨ w.heap.size ≤ k_) ∧ k_ ≠ gb883)) (HO1.out) (fun k_ hk => ⟨hk.1, hk.2⟩)))) (Reps.one (show Kd.FK (Kd.slice 2 (Kd.int .i64)) _ _ l2 [.slice A2 l2.length c2] from (zFK (kN (ok' := (fun k_ => ((P0_1_ k_ ∨ P1_ k_ ∨ P2_ k_) ∨ w.heap.size ≤ k_) ∧ k_ ≠ gb883)) (HO2.out) (fun k_ hk => ⟨hk.1, hk.2⟩)))) (Reps.none _ _)))); intro v885 w51 ho52 hb hg_ hnew_; clear hg_ hnew_; (first | rw [← Ny884.out] at ho52 | (simp only [Int.reduceToNat] at ho52; rw [← Ny884.out] at ho52)); replace HO0_1 := zA (kK (zPV HO0_1.out) (Kd.N_base ho52) hb); replace HO1 := zA (kK (zPV HO1.out) (Kd.N_base ho52) hb); replace HO2 := zA (kK (zPV HO2.out) (Kd.N_base ho52) hb); have HO886 := zA (jN ho52 (kP (zT HB.out GE883.out))); replace BK883 := zA (zB1 BK883.out hb); replace HB := zA (kQ (zT HB.out GE883.out) hb); clear hb ho52; obtain ⟨Ao53, co53, eo53⟩ := Kd.N_slice HO886.out; subst eo53) | (refine zO (some 15) Tryd.func49 #[.agg #[.int .i64 a0_0, .slice A0_1 l0_1.length c0_1], .slice Ao53 y884.length co53] ?_; (with_reducible refine (impl_checkWords.calls k a0_0 _ _ l0_1 _ _ y884 t887 _ ?side1 ?side2 ?side3 ?side4 ?side5 A4.out).mono ?_); (case side1 => exact zS (kJ HO0_1.out).2.2); (case side2 => exact (kJ HO0_1.out).2.1); (case side3 => exact zS (Kd.N_reads' HO886.out).2.2); (case side4 => exact (Kd.N_reads' HO886.out).2.1); (case side5 => exact TabW.below HT.out (zT HB.out GE883.out)); rintro e w54 ⟨rfl, hb⟩; refine ⟨_, rfl, ?_⟩; replace HO0_1 := zA (kG (zPV HO0_1.out) hb); replace HO1 := zA (kG (zPV HO1.out) hb); replace HO2 := zA (kG (zPV HO2.out) hb); replace HO886 := zA (kZ (zPN HO886.out) hb); replace BK883 := zA (zB1 BK883.out hb); replace HB := zA (kQ (zT HB.out GE883.out) hb); (try clear hb)))
 go_ret2
 exact ⟨_, zr, zn, zT HB.out GE883.out⟩

/-! ### spec_DrawConcatenate: function 28 -/
def spec_DrawConcatenate.f (k : Nat) (l0 : List Int) : Option (Int × List Int × List Int × List Int) := (spec_l05Two.f k l0 6 14).bind fun bt977 => (some (bt977.2.2.2.1, bt977.2.2.2.2.1, bt977.2.2.2.2.2.1, bt977.2.2.2.2.2.2))

set_option maxHeartbeats 8000000 in
set_option maxRecDepth 100000 in
theorem spec_DrawConcatenate.calls (k : Nat) (A0 : Option Addr) (c0 : Nat) (l0 : List Int) (r1 : Int) (r2 : List Int) (r3 : List Int) (r4 : List Int) (w : World) (hr0 : Kd.C (Kd.int .u8) w A0 l0.length l0) (hc0 : l0.length ≤ c0) (h : spec_DrawConcatenate.f k l0 = some (r1, r2, r3, r4)) :
  Calls Tryd.prog 28 #[.slice A0 l0.length c0] w fun e w' => ∃ v1_ v2_ v3_ : Value, e = .returned (.tuple #[.agg #[.int .i64 r1, v1_], v2_, v3_]) ∧ Kd.R (Kd.int .i64) 2 w' w.heap.size (fun k_ => some k_ ≠ (v2_ : Value).ownBlock ∧ some k_ ≠ (v3_ : Value).ownBlock) v1_ r2 ∧ Kd.R (Kd.int .i64) 2 w' w.heap.size (fun k_ => some k_ ≠ (v1_ : Value).ownBlock ∧ some k_ ≠ (v3_ : Value).ownBlock) v2_ r3 ∧ Kd.R (Kd.int .i64) 2 w' w.heap.size (fun k_ => some k_ ≠ (v1_ : Value).ownBlock ∧ some k_ ≠ (v2_ : Value).ownBlock) v3_ r4 ∧ Below w.heap.size w w' := by
 have hu26 := Tryd.underlying26
 have HR0 := zA hr0
 have HC0 := zA hc0
 clear hr0 hc0
 have HB := zA (kW w.heap.size w)
 have H := h
 unfold spec_DrawConcatenate.f at H
 clear h
 obtain ⟨⟨t977, t978, t979, t981, t982, t985, t988⟩, A2, H⟩ := zb H
 try dsimp only at H
 simp only [Option.some.injEq, Prod.mk.injEq] at H
 obtain ⟨rfl, rfl, rfl, rfl⟩ := H
 go_enter Tryd.func28, Tryd.ntmps28
 go_wp2_with (first | (refine zBE 2 #[.int .i64 0, .slice none 0 0] 26 ?_; intro gb976 hg w3 hbox hb; have BK976 := zA (hbox); have GW976 := zA (zBH hg HB.out); have GE976 := zA (zBH hg HB.out); replace HB := zA (kQ (zQ HB.out) hb); clear hb hbox hg) | (refine zO (some 11) Tryd.func75 #[.slice A0 l0.length c0, .int .i64 6, .int .i64 14] ?_; (with_reducible refine (spec_l05Two.calls k _ _ l0 6 14 t977 t978 t979 t981 t982 t985 t988 w _ ?side1 ?side2 ?side3 A2.out).mono ?_); (case side1 => exact zT HB.out GE976.out); (case side2 => exact HR0.out); (case side3 => exact HC0.out); rintro e w4 ⟨v983, v986, v989, g980, rfl, ho0, ho1, ho2, hi, hb, hb2, hgw⟩; refine ⟨_, rfl, ?_⟩; have HO984 := zA (kI ho0 (kP (zT HB.out GE976.out))); have HO987 := zA (kI ho1 (kP (zT HB.out GE976.out))); have HO990 := zA (kI ho2 (kP (zT HB.out GE976.out))); replace HB := zA (hb); have HI980 := zA (hi); have NB980_976 := zA (Z101.ne_blk hi (blk_below (g := gb976) (o := .cells #[.int .i64 0, .slice none 0 0] 26 (0, 0)) (zR BK976.out) hb2) (by decide)); have NB976_980 := zA (Ne.symm (Z101.ne_blk hi (blk_below (g := gb976) (o := .cells #[.int .i64 0, .slice none 0 0] 26 (0, 0)) (zR BK976.out) hb2) (by decide))); replace BK976 := zA (zB1 BK976.out hb2); (try clear hb); (try clear hb2); (try clear hi); (try clear hgw); (try clear ho0); (try clear ho1); (try clear ho2)) | (refine zBE 6 #[.int .i64 0, .slice none 0 0] 26 ?_; intro gb991 hg w5 hbox hb; replace HO984 := zA (kL (zP HO984.out) hb); replace HO987 := zA (kL (zP HO987.out) hb); replace HO990 := zA (kL (zP HO990.out) hb); have BK991 := zA (hbox); have GW991 := zA (zB6 hg (kP (zV HB.out (Z101.ge HI980.out) GE976.out)) : w.heap.size ≤ gb991); have GE991 := zA (zB6 hg (kP (zV HB.out (Z101.ge HI980.out) GE976.out)) : w.heap.size ≤ gb991); replace HB := zA (kQ (zV HB.out (Z101.ge HI980.out) GE976.out) hb); have NB976_991 := zA (zB4 hg BK976.out : gb976 ≠ gb991); have NB991_976 := zA (zB5 hg BK976.out : gb991 ≠ gb976); replace BK976 := zA (zB1 BK976.out hb); have NB980_991 := zA (zB7 hg (Z101.lt (show Z101 w _ g980 t977 t978 t979 from Z101.uB HI980.out NB980_976.out)) : g980 ≠ gb991); have NB991_980 := zA (zB8 hg (Z101.lt (show Z101 w _ g980 t977 t978 t979 from Z101.uB HI980.out NB980_976.out)) : gb991 ≠ g980); replace HI980 := zA (Z101.below (Z101.uB HI980.out NB980_976.out) hb); clear hb hbox hg; have hnb6 := NB991_976.out; have hnc6 := NB976_991.out; have hnb7 := NB991_980.out; have hnc7 := NB980_991.out; obtain ⟨hcz8_0, hcz8_1, hfz8_0, hfz8_1⟩ := zB3 BK991.out; obtain ⟨Ao9, co9, eo9⟩ := kM HO984.out; subst eo9; have hnb10 := NB976_980.out; have hnc10 := NB980_976.out; obtain ⟨hcz11_0, hcz11_1, hfz11_0, hfz11_1⟩ := zB3 BK976.out))
 refine bodyPost_ret (results_ctt rfl _ _ gb976 26 #[.int .i64 t981, .slice Ao9 t982.length co9] (0, 0) _ rfl (by (with_reducible repeat (first | refine zJ ?_ _ | refine zK ?_ | refine zI ?_ _)); refine blk_put (cs := #[.int .i64 t981, .slice none 0 0]) ?_ 1 _ rfl; (with_reducible repeat (first | refine zJ ?_ _ | refine zK ?_ | refine zI ?_ _)); refine blk_put (cs := #[.int .i64 0, .slice none 0 0]) ?_ 0 _ rfl; (with_reducible repeat (first | refine zJ ?_ _ | refine zK ?_ | refine zI ?_ _)); refine blk_far ?_ NB976_991.out _; (with_reducible repeat (first | refine zJ ?_ _ | refine zK ?_ | refine zI ?_ _)); refine blk_far ?_ NB976_991.out _; (with_reducible repeat (first | refine zJ ?_ _ | refine zK ?_ | refine zI ?_ _)); exact BK976.out) Tryd.underlying26 rfl (by kernel_rfl)) rfl ?_
 exact ⟨_, _, _, zr, by (with_reducible repeat (first | apply zF | apply zG | apply zH)); exact kA (kY (p := ⟨gb976, 1, none⟩) (kY (p := ⟨gb976, 0, none⟩) (kY (p := ⟨gb991, 1, none⟩) (kY (p := ⟨gb991, 0, none⟩) (kD (kD HO984.out BK991.out (by decide)) BK976.out (by decide)) (fun _ hk => hk.1.2) (.int .i64 t981)) (fun _ hk => hk.1.2) (.slice Ao9 t982.length co9)) (fun _ hk => hk.2) (.int .i64 t981)) (fun _ hk => hk.2) (.slice Ao9 t982.length co9)) (fun _ hk => ⟨hk.1.1.1, hk.1.1.2⟩), by (with_reducible repeat (first | apply zF | apply zG | apply zH)); exact kA (kY (p := ⟨gb976, 1, none⟩) (kY (p := ⟨gb976, 0, none⟩) (kY (p := ⟨gb991, 1, none⟩) (kY (p := ⟨gb991, 0, none⟩) (kD (kD HO987.out BK991.out (by decide)) BK976.out (by decide)) (fun _ hk => hk.1.2) (.int .i64 t981)) (fun _ hk => hk.1.2) (.slice Ao9 t982.length co9)) (fun _ hk => hk.2) (.int .i64 t981)) (fun _ hk => hk.2) (.slice Ao9 t982.length co9)) (fun _ hk => ⟨hk.1.1.1, hk.1.1.2⟩), by (with_reducible repeat (first | apply zF | apply zG | apply zH)); exact kA (kY (p := ⟨gb976, 1, none⟩) (kY (p := ⟨gb976, 0, none⟩) (kY (p := ⟨gb991, 1, none⟩) (kY (p := ⟨gb991, 0, none⟩) (kD (kD HO990.out BK991.out (by decide)) BK976.out (by decide)) (fun _ hk => hk.1.2) (.int .i64 t981)) (fun _ hk => hk.1.2) (.slice Ao9 t982.length co9)) (fun _ hk => hk.2) (.int .i64 t981)) (fun _ hk => hk.2) (.slice Ao9 t982.length co9)) (fun _ hk => ⟨hk.1.1.1, hk.1.1.2⟩), zW HB.out (Z101.ge HI980.out) GE976.out GE991.out⟩

/-! ### spec_Concatenate: function 29 -/
mutual
def spec_Concatenate.j0 : Nat → List Int → List Int → Int → Bool → Int → List Int → Option (List Int × Int)
 | 0, _, _, _, _, _, _ => none
 | k + 1, x1, x2, x8, x22, x993000, x993001 => if x22 = true then (spec_Concatenate.j1 k x1 x2 3 x993000 x993001) else (spec_Concatenate.j1 k x1 x2 x8 x993000 x993001)
def spec_Concatenate.j1 : Nat → List Int → List Int → Int → Int → List Int → Option (List Int × Int)
 | 0, _, _, _, _, _ => none
 | k + 1, x1, x2, x8, x993000, x993001 => if x8 = 0 then ((spec_l01Own.f x1).bind fun t994 => (if t994.length + x2.length < 17592186044416 then ((spec_l03Normal.f k x993000 x993001 (t994 ++ x2)).bind fun t1000 => (some (t1000, 0))) else (none))) else (some (([] : List Int), x8))
end
def spec_Concatenate.f (k : Nat) (a0_0 : Int) (l0_1 : List Int) (l1 : List Int) (l2 : List Int) : Option (List Int × Int) := (spec_l03Code.f k a0_0 l0_1 l1 l2).bind fun t993 => (if t993 = 0 then (spec_Concatenate.j0 k l1 l2 t993 (decide ((wrap64 ((l1.length : Int) + (l2.length : Int))) > 24)) a0_0 l0_1) else (spec_Concatenate.j0 k l1 l2 t993 false a0_0 l0_1))

def spec_Concatenate.T6 : Bool × List (List Nat × List Nat) := (true, [([], []), ([], []), ([1], [1]), ([], []), ([2, 3, 2], [2, 3]), ([0, 4, 4], [0, 4]), ([5, 5, 0, 1, 2, 3, 4, 5], [5]), ([6, 0, 1, 2, 3, 4, 5, 6], [])])
def spec_Concatenate.B6 : List Nat := [0, 0, 2, 0, 14, 31, 63, 127]
theorem spec_Concatenate.tab6 : rtab .any (opsOf Tryd.f29 6) = spec_Concatenate.T6 := by kernel_rfl
theorem spec_Concatenate.bits6 : waitsOk spec_Concatenate.T6.2 spec_Concatenate.B6 = true := by kernel_rfl
set_option maxHeartbeats 8000000 in
set_option maxRecDepth 100000 in
theorem spec_Concatenate.calls (k : Nat) (a0_0 : Int) (A0_1 : Option Addr) (c0_1 : Nat) (l0_1 : List Int) (A1 : Option Addr) (c1 : Nat) (l1 : List Int) (A2 : Option Addr) (c2 : Nat) (l2 : List Int) (r1 : List Int) (r2 : Int) (w : World) (hr0_1 : Kd.C (Kd.int .i64) w A0_1 l0_1.length l0_1) (hc0_1 : l0_1.length ≤ c0_1) (hr1 : Kd.C (Kd.int .i64) w A1 l1.length l1) (hc1 : l1.length ≤ c1) (hr2 : Kd.C (Kd.int .i64) w A2 l2.length l2) (hc2 : l2.length ≤ c2) (h : spec_Concatenate.f k a0_0 l0_1 l1 l2 = some (r1, r2)) :
  Calls Tryd.prog 29 #[.agg #[.int .i64 a0_0, .slice A0_1 l0_1.length c0_1], .slice A1 l1.length c1, .slice A2 l2.length c2] w fun e w' => ∃ v0_ : Value, e = .returned (.tuple #[v0_, .int .i64 r2]) ∧ Kd.R (Kd.int .i64) 2 w' w.heap.size (fun _ => True) v0_ r1 ∧ Below w.heap.size w w' := by
 have hu26 := Tryd.underlying26
 have HR0_1 := zA hr0_1
 have HC0_1 := zA hc0_1
 clear hr0_1 hc0_1
 have HR1 := zA hr1
 have HC1 := zA hc1
 clear hr1 hc1
 have HR2 := zA hr2
 have HC2 := zA hc2
 clear hr2 hc2
 have HB := zA (kW w.heap.size w)
 have H := h
 unfold spec_Concatenate.f at H
 clear h
 obtain ⟨t993, A4, H⟩ := zb H
 try dsimp only at H
 have HC5 := zA H
 clear H
 go_enter Tryd.func29, Tryd.ntmps29
 go_upto_region 2 with (first | (refine zBE 3 #[.int .i64 a0_0, .slice A0_1 l0_1.length c0_1] 26 ?_; intro gb992 hg w6 hbox hb; have BK992 := zA (hbox); have GW992 := zA (zBH hg HB.out); have GE992 := zA (zBH hg HB.out); replace HB := zA (kQ (zQ HB.out) hb); clear hb hbox hg; obtain ⟨hcz7_0, hcz7_1, hfz7_0, hfz7_1⟩ := zB3 BK992.out) | (refine zO (some 12) Tryd.func52 #[.agg #[.int .i64 a0_0, .slice A0_1 l0_1.length c0_1], .slice A1 l1.length c1, .slice A2 l2.length c2] ?_; (with_reducible refine (spec_l03Code.calls k a0_0 _ _ l0_1 _ _ l1 _ _ l2 t993 _ ?side1 ?side2 ?side3 ?side4 ?side5 ?side6 A4.out).mono ?_); (case side1 => exact zS (kO HR0_1.out HB.out)); (case side2 => exact HC0_1.out); (case side3 => exact zS (kO HR1.out HB.out)); (case side4 => exact HC1.out); (case side5 => exact zS (kO HR2.out HB.out)); (case side6 => exact HC2.out); rintro e w8 ⟨rfl, hb⟩; refine ⟨_, rfl, ?_⟩; replace BK992 := zA (zB1 BK992.out hb); replace HB := zA (kQ (zT HB.out GE992.out) hb); (try clear hb)))
 (try simp only [Act.put, zL, zM, zN])
 go_cut [22] (fun v22 wc => ∃ (kq : Nat) (x22_4 : Bool), v22 = .bool x22_4 ∧ Aside0 (spec_Concatenate.j0 kq l1 l2 t993 x22_4 a0_0 l0_1 = some (r1, r2)) ∧ Aside0 (kq ≤ k) ∧ Aside0 (wc.heap[gb992]? = some (.cells #[.int .i64 a0_0, (.slice A0_1 l0_1.length c0_1)] 26 (0, 0))) ∧ Aside0 (Below w.heap.size w wc))
 case first =>
  have H := HC5.out
  clear HC5
  by_cases c9 : t993 = 0
  ·rw [if_pos c9] at H
   obtain ⟨c9b0, c9b1⟩ := zT1 c9
   clear c9
   (first | rw [c9b0] | (simp only [i64_w, i32_w]; rw [c9b0]) | skip)
   have H' := zA H
   clear H
   go_wp2
   go_meet
   case rel => exact ⟨_, (decide ((wrap64 ((l1.length : Int) + (l2.length : Int))) > 24)), zs, H', ⟨by first | omega | exact Nat.le_refl _⟩, ⟨zR BK992.out⟩, ⟨zT HB.out GE992.out⟩⟩
  rw [if_neg c9] at H
  obtain ⟨c9b0, c9b1⟩ := zT2 c9
  (first | rw [c9b0] | (simp only [i64_w, i32_w]; rw [c9b0]) | skip)
  have H' := zA H
  clear H
  go_wp2
  go_meet
  case rel => exact ⟨_, (false), zs, H', ⟨by first | omega | exact Nat.le_refl _⟩, ⟨zR BK992.out⟩, ⟨zT HB.out GE992.out⟩⟩
 case rest =>
  clear HC5
  try clear c1
  try clear c2
  try clear c5
  try clear c9
  try clear hcz7_0
  try clear hcz7_1
  try clear hfz7_0
  try clear hfz7_1
  obtain ⟨kq, x22_4, rfl, HA, HJ4, BK992, HB⟩ := hcut
  cases kq with
  | zero => exact absurd HA.out (by simp [spec_Concatenate.j0])
  | succ kj4 =>
   have H := HA.out
   clear HA
   simp only [spec_Concatenate.j0] at H
   have HC10 := zA H
   clear H
   go_upto_if 22 with (fail)
   go_cut [8] (fun v8 wc => ∃ (kq : Nat) (x8_9 : Int), v8 = .int .i64 x8_9 ∧ Aside0 (spec_Concatenate.j1 kq l1 l2 x8_9 a0_0 l0_1 = some (r1, r2)) ∧ Aside0 (kq ≤ kj4) ∧ Aside0 (wc.heap[gb992]? = some (.cells #[.int .i64 a0_0, (.slice A0_1 l0_1.length c0_1)] 26 (0, 0))) ∧ Aside0 (Below w.heap.size w wc))
   case first =>
    have H := HC10.out
    clear HC10
    by_cases c11 : x22_4 = true
    ·subst c11
     rw [if_pos rfl] at H
     have H' := zA H
     clear H
     go_wp2
     go_meet
     case rel => exact ⟨_, (3), zs, H', ⟨by have := HJ4.out; first | omega | exact Nat.le_refl _⟩, ⟨zR BK992.out⟩, ⟨zT HB.out GE992.out⟩⟩
    replace c11 := Bool.eq_false_iff.mpr c11
    subst c11
    rw [if_neg (show ¬ (false = true) by decide)] at H
    have H' := zA H
    clear H
    go_wp2
    go_meet
    case rel => exact ⟨_, (t993), zs, H', ⟨by have := HJ4.out; first | omega | exact Nat.le_refl _⟩, ⟨zR BK992.out⟩, ⟨zT HB.out GE992.out⟩⟩
   case rest =>
    clear HC10
    try clear c1
    try clear c2
    try clear c5
    try clear c9
    try clear c11
    try clear hcz7_0
    try clear hcz7_1
    try clear hfz7_0
    try clear hfz7_1
    obtain ⟨kq, x8_9, rfl, HA, HJ9, BK992, HB⟩ := hcut
    cases kq with
    | zero => exact absurd HA.out (by simp [spec_Concatenate.j1])
    | succ kj9 =>
     have H := HA.out
     clear HA
     simp only [spec_Concatenate.j1] at H
     by_cases c12 : x8_9 = 0
     ·rw [if_pos c12] at H
      obtain ⟨c12b0, c12b1⟩ := zT1 c12
      clear c12
      obtain ⟨t994, A13, H⟩ := zb H
      try dsimp only at H
      by_cases c14 : t994.length + l2.length < 17592186044416
      ·rw [if_pos c14] at H
       have LMc14 := zA c14
       clear c14
       obtain ⟨y997, hy997⟩ : ∃ y_ : List Int, y_ = (t994 ++ l2) := ⟨_, rfl⟩
       replace H : ((spec_l03Normal.f kj9 a0_0 l0_1 y997).bind fun t1000 => (some (t1000, 0))) = some (r1, r2) := zy hy997 H
       have Ny997 := zA hy997
       clear hy997
       obtain ⟨t1000, A15, H⟩ := zb H
       try dsimp only at H
       simp only [Option.some.injEq, Prod.mk.injEq] at H
       obtain ⟨rfl, rfl⟩ := H
       try go_wp2
       replace BK992 := zA (zK BK992.out)
       replace HB := zA (zD HB.out)
       refine start_ (n := 8) (S := fun w' => w'.cell? ⟨gb992, 0, none⟩ = some (.int .i64 a0_0) ∧ w'.cell? ⟨gb992, 1, none⟩ = some (.slice A0_1 l0_1.length c0_1)) (ds := []) #[false, false, false, false, false, false, false, false] (by kernel_rfl) rfl rfl ⟨(kV BK992.out 0).trans rfl, (kV BK992.out 1).trans rfl⟩ (fun hHeld => ?_); refine with_tabW spec_Concatenate.tab6 spec_Concatenate.bits6 (fun HT_ HW_ => ?_)
       generalize wc.drew = w16 at BK992 HB hHeld ⊢
       refine zp 1 (some 27) #[false, true, false, false, false, false, false, false] HT_.out ?_
       refine zp 3 (some 29) #[false, true, false, true, false, false, false, false] HT_.out ?_
       refine zc 0 (some 26) #[true, true, false, true, false, false, false, false] HT_.out HW_.out hHeld ?_
       refine one_ (i := 2) (N := some 28) #[true, true, true, true, false, false, false, false] rfl rfl (one_of HT_.out (by kernel_rfl)) (by decide) (fun K hK => ?_)
       refine goes_ Tryd.func76 (by kernel_rfl) rfl #[.slice A1 l1.length c1] (by rfl) rfl rfl zg ?_
       with_reducible refine (spec_l01Own.calls _ _ l1 t994 _ ?side1 ?side2 A13.out).mono ?_
       (case side1 => exact zS (kO HR1.out HB.out))
       (case side2 => exact HC1.out)
       rintro e w17 ⟨v995, rfl, ho0, hb⟩
       refine ⟨_, rfl, ?_⟩
       have HO996 := zA (kI ho0 (kP (zT HB.out GE992.out)))
       replace BK992 := zA (zB1 BK992.out hb)
       replace HB := zA (kQ (zT HB.out GE992.out) hb)
       (try clear hb)
       (try clear hb2)
       (try clear hk)
       (try clear hi)
       (try clear hgw)
       (try clear ho0)
       refine hK.out _ _ ⟨(kV BK992.out 0).trans rfl, (kV BK992.out 1).trans rfl⟩ (fun hHeld => ?_)
       clear hK K
       refine norm_ (a' := ?_) ?_ ?_
       rotate_left
       ·show Act.put _ (some 28) _ = _
        simp only [Act.put, zL, zM, zN, i64_w, i32_w]
        rfl
       refine one_ (i := 4) (N := some 30) #[true, true, true, true, true, false, false, false] rfl rfl (one_of HT_.out (by kernel_rfl)) (by decide) (fun K hK => ?_)
       refine Kd.R_append_rows_step (Kd.int .i64) (w0 := w) w.heap.size (by rfl) (.tmp 28) (.tmp 29) 24 2 (.int .i64 0) 8 rfl Tryd.underlying24 info2 rfl (by decide) (by omega) v995 t994 l2 _ _ _ (fun _ => True) (fun _ => False) rfl rfl ?aO ?aR (fun _ _ h => h) (fun _ h => h.elim) ?aF ?aB ?aS ?aL ?_
       (case aR => exact zS (kO HR2.out HB.out))
       (case aB => exact (zT HB.out GE992.out))
       (case aF => exact (fun _ _ => trivial))
       (case aO => exact (zP HO996.out))
       (case aS => exact (kP (zT HB.out GE992.out)))
       (case aL => have := LMc14.out; omega)
       intro v998 w18 ho hb hg hat
       rw [← Ny997.out] at ho
       replace BK992 := zA (blk_grown (g := gb992) (o := .cells #[.int .i64 a0_0, .slice A0_1 l0_1.length c0_1] 26 (0, 0)) (zR BK992.out) hg (Kd.R_ne HO996.out BK992.out (by decide)))
       replace HB := zA (hb)
       have HO999 := zA (ho)
       clear HO996 ho hb hg hat
       obtain ⟨Ao19, co19, eo19⟩ := kM HO999.out
       (first | subst eo19 | (injection eo19 with f1_ f2_ f3_; have f4_ := f1_.symm; have f5_ := f3_.symm; clear f1_ f2_ f3_; subst f4_; subst f5_))
       refine hK.out _ _ ⟨(kV BK992.out 0).trans rfl, (kV BK992.out 1).trans rfl⟩ (fun hHeld => ?_)
       clear hK K
       refine norm_ (a' := ?_) ?_ ?_
       rotate_left
       ·show Act.put _ (some 30) _ = _
        simp only [Act.put, zL, zM, zN, i64_w, i32_w]
        rfl
       refine one_ (i := 5) (N := some 31) #[true, true, true, true, true, true, false, false] rfl rfl (one_of HT_.out (by kernel_rfl)) (by decide) (fun K hK => ?_)
       refine goes_ Tryd.func68 (by kernel_rfl) rfl #[.agg #[.int .i64 a0_0, .slice A0_1 l0_1.length c0_1], .slice Ao19 y997.length co19] (by rfl) rfl rfl zg ?_
       with_reducible refine (spec_l03Normal.calls kj9 a0_0 _ _ l0_1 _ _ y997 t1000 _ ?side1 ?side2 ?side3 ?side4 A15.out).mono ?_
       (case side1 => exact zS (kO HR0_1.out HB.out))
       (case side2 => exact HC0_1.out)
       (case side3 => exact zS (kB HO999.out).2.2)
       (case side4 => exact (kB HO999.out).2.1)
       rintro e w20 ⟨v1001, rfl, ho0, hb⟩
       refine ⟨_, rfl, ?_⟩
       have HO1002 := zA (kI (kF ho0 (kH (zP HO999.out))) (kP (zT HB.out GE992.out)))
       replace HO999 := zA (kE (zP HO999.out) (kC ho0) hb)
       replace BK992 := zA (zB1 BK992.out hb)
       replace HB := zA (kQ (zT HB.out GE992.out) hb)
       (try clear hb)
       (try clear hb2)
       (try clear hk)
       (try clear hi)
       (try clear hgw)
       (try clear ho0)
       refine hK.out _ _ ⟨(kV BK992.out 0).trans rfl, (kV BK992.out 1).trans rfl⟩ (fun hHeld => ?_)
       clear hK K
       refine norm_ (a' := ?_) ?_ ?_
       rotate_left
       ·show Act.put _ (some 31) _ = _
        simp only [Act.put, zL, zM, zN, i64_w, i32_w]
        rfl
       refine zp 6 (some 6) #[true, true, true, true, true, true, true, false] HT_.out ?_
       refine zp 7 (some 7) #[true, true, true, true, true, true, true, true] HT_.out ?_
       refine done_ (done_of HT_.out (by kernel_rfl)) ?_
       try go_wp2
       go_ret2
       exact ⟨_, zr, by (with_reducible repeat (first | apply zF | apply zG | apply zH)); exact kA HO1002.out (fun _ hk => trivial), zT HB.out GE992.out⟩
      rw [if_neg c14] at H
      exact absurd H (by simp)
     rw [if_neg c12] at H
     obtain ⟨c12b0, c12b1⟩ := zT2 c12
     simp only [Option.some.injEq, Prod.mk.injEq] at H
     obtain ⟨rfl, rfl⟩ := H
     go_wp2
     go_ret2
     exact ⟨_, zr, zn, zT HB.out GE992.out⟩

/-! ### laws_FnQuotients: function 5 -/
mutual
def laws_FnQuotients.j0 : Nat → List Int → List Int → List Int → List Int → Int → Bool → Int → List Int → Option (Bool)
 | 0, _, _, _, _, _, _, _, _ => none
 | k + 1, x0, x4, x5, x6, x7, x63, x1015000, x1015001 => if x63 = true then (none) else (if x7 = 0 then ((impl_Concatenate.f k x1015000 x1015001 x4 x6).bind fun bt1024 => ((impl_AreSameTrace.f k x1015000 x1015001 bt1024.1 x5).bind fun bt1028 => ((impl_RightQuotient.f k x1015000 x1015001 x6 x5).bind fun bt1030 => ((impl_AreSameTrace.f k x1015000 x1015001 bt1030.1 x4).bind fun bt1034 => (if bt1024.2 = 0 then (if bt1028.2 = 0 then (if bt1030.2 = 0 then (if bt1034.2 = 0 then (if bt1028.1 = true then (if bt1034.1 = true then (laws_FnQuotients.j1 k x0) else (none)) else (none)) else (none)) else (none)) else (none)) else (none)))))) else (laws_FnQuotients.j1 k x0))
def laws_FnQuotients.j1 : Nat → List Int → Option (Bool)
 | 0, _ => none
 | k + 1, x0 => (spec_DrawConcatenate.f k x0).bind fun bt1036 => ((impl_Concatenate.f k bt1036.1 bt1036.2.1 bt1036.2.2.1 bt1036.2.2.2).bind fun bt1047 => ((spec_Concatenate.f k bt1036.1 bt1036.2.1 bt1036.2.2.1 bt1036.2.2.2).bind fun bt1051 => (if bt1047.2 = bt1051.2 then ((laws_likeInts.f k bt1047.1 bt1051.1).bind fun t1055 => (laws_FnQuotients.j2 k bt1036.2.2.1 bt1036.2.2.2 bt1047.1 bt1047.2 (!t1055) bt1036.1 bt1036.2.1)) else (laws_FnQuotients.j2 k bt1036.2.2.1 bt1036.2.2.2 bt1047.1 bt1047.2 true bt1036.1 bt1036.2.1))))
def laws_FnQuotients.j2 : Nat → List Int → List Int → List Int → Int → Bool → Int → List Int → Option (Bool)
 | 0, _, _, _, _, _, _, _ => none
 | k + 1, x19, x20, x21, x22, x144, x1047000, x1047001 => if x144 = true then (none) else (if x22 = 0 then ((impl_LeftQuotient.f k x1047000 x1047001 x19 x21).bind fun bt1056 => ((impl_RightQuotient.f k x1047000 x1047001 x20 x21).bind fun bt1060 => ((impl_AreSameTrace.f k x1047000 x1047001 bt1056.1 x20).bind fun bt1064 => ((impl_AreSameTrace.f k x1047000 x1047001 bt1060.1 x19).bind fun bt1066 => (if bt1056.2 = 0 then (if bt1060.2 = 0 then (if bt1064.2 = 0 then (if bt1066.2 = 0 then (if bt1064.1 = true then (some bt1066.1) else (none)) else (none)) else (none)) else (none)) else (none)))))) else (some true))
end
def laws_FnQuotients.f (k : Nat) (l0 : List Int) : Option (Bool) := (laws_big.f l0).bind fun t1003 => (if t1003 = true then (some true) else ((spec_DrawLeftQuotient.f k l0).bind fun bt1004 => ((impl_LeftQuotient.f k bt1004.1 bt1004.2.1 bt1004.2.2.1 bt1004.2.2.2).bind fun bt1015 => ((spec_LeftQuotient.f k bt1004.1 bt1004.2.1 bt1004.2.2.1 bt1004.2.2.2).bind fun bt1019 => (if bt1015.2 = bt1019.2 then ((laws_likeInts.f k bt1015.1 bt1019.1).bind fun t1023 => (laws_FnQuotients.j0 k l0 bt1004.2.2.1 bt1004.2.2.2 bt1015.1 bt1015.2 (!t1023) bt1004.1 bt1004.2.1)) else (laws_FnQuotients.j0 k l0 bt1004.2.2.1 bt1004.2.2.2 bt1015.1 bt1015.2 true bt1004.1 bt1004.2.1))))))

set_option maxHeartbeats 8000000 in
set_option maxRecDepth 100000 in
theorem laws_FnQuotients.calls (k : Nat) (A0 : Option Addr) (c0 : Nat) (l0 : List Int) (r : Bool) (w : World) (hr0 : Kd.C (Kd.int .u8) w A0 l0.length l0) (hc0 : l0.length ≤ c0) (hT : TabW w) (h : laws_FnQuotients.f k l0 = some r) :
  Calls Tryd.prog 5 #[.slice A0 l0.length c0] w fun e w' => e = .returned (.bool r) ∧ Below w.heap.size w w' := by
 have hu26 := Tryd.underlying26
 have HT := zA hT
 clear hT
 have HR0 := zA hr0
 have HC0 := zA hc0
 clear hr0 hc0
 have HB := zA (kW w.heap.size w)
 have H := h
 unfold laws_FnQuotients.f at H
 clear h
 obtain ⟨t1003, A2, H⟩ := zb H
 try dsimp only at H
 by_cases c3 : t1003 = true
 ·subst c3
  rw [if_pos rfl] at H
  obtain rfl := Option.some.inj H
  go_enter Tryd.func5, Tryd.ntmps5
  go_wp2_with (first | (refine zO (some 34) Tryd.func9 #[.slice A0 l0.length c0] ?_; (with_reducible refine (laws_big.calls _ _ l0 true _ ?side1 ?side2 A2.out).mono ?_); (case side1 => exact zS HR0.out); (case side2 => exact HC0.out); rintro e w' ⟨rfl, ⟨nd, rfl⟩⟩; refine ⟨_, rfl, ?_⟩))
  go_ret
  exact ⟨zr, zQ HB.out⟩
 replace c3 := Bool.eq_false_iff.mpr c3
 subst c3
 rw [if_neg (show ¬ (false = true) by decide)] at H
 obtain ⟨⟨t1004, t1005, t1008, t1011⟩, A4, H⟩ := zb H
 try dsimp only at H
 obtain ⟨⟨t1015, t1018⟩, A5, H⟩ := zb H
 try dsimp only at H
 obtain ⟨⟨t1019, t1022⟩, A6, H⟩ := zb H
 try dsimp only at H
 have HC7 := zA H
 clear H
 go_enter Tryd.func5, Tryd.ntmps5
 go_upto_region 6 with (first | (refine zO (some 34) Tryd.func9 #[.slice A0 l0.length c0] ?_; (with_reducible refine (laws_big.calls _ _ l0 false _ ?side1 ?side2 A2.out).mono ?_); (case side1 => exact zS HR0.out); (case side2 => exact HC0.out); rintro e w' ⟨rfl, ⟨nd, rfl⟩⟩; refine ⟨_, rfl, ?_⟩) | (refine zO (some 37) Tryd.func23 #[.slice A0 l0.length c0] ?_; (with_reducible refine (spec_DrawLeftQuotient.calls k _ _ l0 t1004 t1005 t1008 t1011 _ ?side1 ?side2 A4.out).mono ?_); (case side1 => exact zS HR0.out); (case side2 => exact HC0.out); rintro e w8 ⟨v1006, v1009, v1012, rfl, ho0, ho1, ho2, hb⟩; refine ⟨_, rfl, ?_⟩; have HO1007 := zA (kI ho0 (kP (zQ HB.out))); have HO1010 := zA (kI ho1 (kP (zQ HB.out))); have HO1013 := zA (kI ho2 (kP (zQ HB.out))); replace HB := zA (kQ (zQ HB.out) hb); (try clear hb); (try clear ho0); (try clear ho1); (try clear ho2)) | (refine zBE 3 #[.int .i64 0, .slice none 0 0] 26 ?_; intro gb1014 hg w9 hbox hb; replace HO1007 := zA (kL (zP HO1007.out) hb); replace HO1010 := zA (kL (zP HO1010.out) hb); replace HO1013 := zA (kL (zP HO1013.out) hb); have BK1014 := zA (hbox); have GW1014 := zA (zBH hg HB.out); have GE1014 := zA (zBH hg HB.out); replace HB := zA (kQ (zQ HB.out) hb); clear hb hbox hg; obtain ⟨hcz10_0, hcz10_1, hfz10_0, hfz10_1⟩ := zB3 BK1014.out; obtain ⟨Ao11, co11, eo11⟩ := kM HO1007.out; subst eo11) | ((with_reducible refine gate_store (t := 26) (p := 3) rfl ?_); refine store_event (t := 26) (p := 3) (v := ?vo_w12) (w1 := ((w9.setCell ⟨gb1014, 0, none⟩ (.int .i64 t1004)).setCell ⟨gb1014, 1, none⟩ (.slice Ao11 t1005.length co11))) ?hg ?ho ?hn ?hr ?_; (case ho => rfl); (case hg => rfl); (case hn => rfl); (case hr => first | (go_simp; done) | (go_simp; rfl)); intro w12 hw; replace HO1007 : Aside0 (Kd.R (Kd.int .i64) 2 w12 w.heap.size (fun k_ => some k_ ≠ (v1009 : Value).ownBlock ∧ some k_ ≠ (v1012 : Value).ownBlock) (.slice Ao11 t1005.length co11) t1005) := ⟨(by rw [hw]; exact (by (with_reducible repeat (first | apply zF | apply zG | apply zH)); exact kA (kY (p := ⟨gb1014, 1, none⟩) (kY (p := ⟨gb1014, 0, none⟩) (kD HO1007.out BK1014.out (by decide)) (fun _ hk => hk.2) (.int .i64 t1004)) (fun _ hk => hk.2) (.slice Ao11 t1005.length co11)) (fun _ hk => ⟨hk.1.1, hk.1.2⟩)))⟩; replace HO1010 : Aside0 (Kd.R (Kd.int .i64) 2 w12 w.heap.size (fun k_ => some k_ ≠ (.slice Ao11 t1005.length co11 : Value).ownBlock ∧ some k_ ≠ (v1012 : Value).ownBlock) v1009 t1008) := ⟨(by rw [hw]; exact (by (with_reducible repeat (first | apply zF | apply zG | apply zH)); exact kA (kY (p := ⟨gb1014, 1, none⟩) (kY (p := ⟨gb1014, 0, none⟩) (kD HO1010.out BK1014.out (by decide)) (fun _ hk => hk.2) (.int .i64 t1004)) (fun _ hk => hk.2) (.slice Ao11 t1005.length co11)) (fun _ hk => ⟨hk.1.1, hk.1.2⟩)))⟩; replace HO1013 : Aside0 (Kd.R (Kd.int .i64) 2 w12 w.heap.size (fun k_ => some k_ ≠ (.slice Ao11 t1005.length co11 : Value).ownBlock ∧ some k_ ≠ (v1009 : Value).ownBlock) v1012 t1011) := ⟨(by rw [hw]; exact (by (with_reducible repeat (first | apply zF | apply zG | apply zH)); exact kA (kY (p := ⟨gb1014, 1, none⟩) (kY (p := ⟨gb1014, 0, none⟩) (kD HO1013.out BK1014.out (by decide)) (fun _ hk => hk.2) (.int .i64 t1004)) (fun _ hk => hk.2) (.slice Ao11 t1005.length co11)) (fun _ hk => ⟨hk.1.1, hk.1.2⟩)))⟩; replace BK1014 : Aside0 (w12.heap[gb1014]? = some (.cells #[.int .i64 t1004, .slice Ao11 t1005.length co11] 26 (0, 0))) := ⟨(by rw [hw]; exact (zRP BK1014.out))⟩; replace HB : Aside0 (Below w.heap.size w w12) := ⟨(by rw [hw]; exact (zT HB.out GE1014.out))⟩; clear hw; obtain ⟨hcz13_0, hcz13_1, hfz13_0, hfz13_1⟩ := zB3 BK1014.out; obtain ⟨Ao14, co14, eo14⟩ := kM HO1010.out; subst eo14; obtain ⟨Ao15, co15, eo15⟩ := kM HO1013.out; subst eo15) | (refine zO (some 45) Tryd.func21 #[.agg #[.int .i64 t1004, .slice Ao11 t1005.length co11], .slice Ao14 t1008.length co14, .slice Ao15 t1011.length co15] ?_; (with_reducible refine (impl_LeftQuotient.calls k t1004 (fun k_ => some k_ = (.slice Ao11 t1005.length co11 : Value).ownBlock) _ _ t1005 (fun k_ => some k_ = (.slice Ao14 t1008.length co14 : Value).ownBlock) _ _ t1008 (fun k_ => some k_ = (.slice Ao15 t1011.length co15 : Value).ownBlock) _ _ t1011 t1015 t1018 _ ?side1 ?side2 ?side3 ?side4 A5.out).mono ?_); (case side1 => exact jL (jK rfl (kD (HO1007.out) BK1014.out (by decide)))); (case side2 => exact jL (jK rfl (kD (HO1010.out) BK1014.out (by decide)))); (case side3 => exact jL (jK rfl (kD (HO1013.out) BK1014.out (by decide)))); (case side4 => exact TabW.below HT.out (zT HB.out GE1014.out)); rintro e w16 ⟨v1016, rfl, ho0, hb⟩; refine ⟨_, rfl, ?_⟩; have HO1017 := zA (kI (kF (kF (kF (kA (ok' := fun k_ => True) ho0 (fun _ hk_ => trivial)) (kH (zP HO1007.out))) (kH (zP HO1010.out))) (kH (zP HO1013.out))) (kP (zT HB.out GE1014.out))); replace HO1007 := zA (kE (zP HO1007.out) (kC ho0) hb); replace HO1010 := zA (kE (zP HO1010.out) (kC ho0) hb); replace HO1013 := zA (kE (zP HO1013.out) (kC ho0) hb); replace BK1014 := zA (zB1 BK1014.out hb); replace HB := zA (kQ (zT HB.out GE1014.out) hb); (try clear hb); (try clear ho0); obtain ⟨hcz17_0, hcz17_1, hfz17_0, hfz17_1⟩ := zB3 BK1014.out) | (refine zO (some 52) Tryd.func24 #[.agg #[.int .i64 t1004, .slice Ao11 t1005.length co11], .slice Ao14 t1008.length co14, .slice Ao15 t1011.length co15] ?_; (with_reducible refine (spec_LeftQuotient.calls k t1004 _ _ t1005 _ _ t1008 _ _ t1011 t1019 t1022 _ ?side1 ?side2 ?side3 ?side4 ?side5 ?side6 A6.out).mono ?_); (case side1 => exact zS (kB HO1007.out).2.2); (case side2 => exact (kB HO1007.out).2.1); (case side3 => exact zS (kB HO1010.out).2.2); (case side4 => exact (kB HO1010.out).2.1); (case side5 => exact zS (kB HO1013.out).2.2); (case side6 => exact (kB HO1013.out).2.1); rintro e w18 ⟨v1020, rfl, ho0, hb⟩; refine ⟨_, rfl, ?_⟩; have HO1021 := zA (kI (kF (kF (kF (kF ho0 (kH (zP HO1007.out))) (kH (zP HO1010.out))) (kH (zP HO1013.out))) (kH (zP HO1017.out))) (kP (zT HB.out GE1014.out))); replace HO1007 := zA (kE (zP HO1007.out) (kC ho0) hb); replace HO1010 := zA (kE (zP HO1010.out) (kC ho0) hb); replace HO1013 := zA (kE (zP HO1013.out) (kC ho0) hb); replace HO1017 := zA (kE (zP HO1017.out) (kC ho0) hb); replace BK1014 := zA (zB1 BK1014.out hb); replace HB := zA (kQ (zT HB.out GE1014.out) hb); (try clear hb); (try clear ho0)))
 (try simp only [Act.put, zL, zM, zN])
 go_cut [63] (fun v63 wc => ∃ (kq : Nat) (x63_6 : Bool), v63 = .bool x63_6 ∧ Aside0 (laws_FnQuotients.j0 kq l0 t1008 t1011 t1015 t1018 x63_6 t1004 t1005 = some r) ∧ Aside0 (kq ≤ k) ∧ Aside0 (Kd.R (Kd.int .i64) 2 wc w.heap.size (fun k_ => some k_ ≠ ((.slice Ao15 t1011.length co15) : Value).ownBlock ∧ some k_ ≠ (v1016 : Value).ownBlock ∧ some k_ ≠ ((.slice Ao11 t1005.length co11) : Value).ownBlock) (.slice Ao14 t1008.length co14) t1008) ∧ Aside0 (Kd.R (Kd.int .i64) 2 wc w.heap.size (fun k_ => some k_ ≠ ((.slice Ao14 t1008.length co14) : Value).ownBlock ∧ some k_ ≠ (v1016 : Value).ownBlock ∧ some k_ ≠ ((.slice Ao11 t1005.length co11) : Value).ownBlock) (.slice Ao15 t1011.length co15) t1011) ∧ Aside0 (Kd.R (Kd.int .i64) 2 wc w.heap.size (fun k_ => some k_ ≠ ((.slice Ao14 t1008.length co14) : Value).ownBlock ∧ some k_ ≠ ((.slice Ao15 t1011.length co15) : Value).ownBlock ∧ some k_ ≠ ((.slice Ao11 t1005.length co11) : Value).ownBlock) v1016 t1015) ∧ Aside0 (Kd.R (Kd.int .i64) 2 wc w.heap.size (fun k_ => some k_ ≠ ((.slice Ao14 t1008.length co14) : Value).ownBlock ∧ some k_ ≠ ((.slice Ao15 t1011.length co15) : Value).ownBlock ∧ some k_ ≠ (v1016 : Value).ownBlock) (.slice Ao11 t1005.length co11) t1005) ∧ Aside0 (wc.heap[gb1014]? = some (.cells #[.int .i64 t1004, (.slice Ao11 t1005.length co11)] 26 (0, 0))) ∧ Aside0 (Below w.heap.size w wc))
 case first => as_aux_lemma =>
  have H := HC7.out
  clear HC7
  by_cases c19 : t1018 = t1022
  ·rw [if_pos c19] at H
   obtain ⟨c19b0, c19b1⟩ := zT1 c19
   clear c19
   (first | rw [c19b0] | (simp only [i64_w, i32_w]; rw [c19b0]) | skip)
   obtain ⟨t1023, A20, H⟩ := zb H
   try dsimp only at H
   have H' := zA H
   clear H
   obtain ⟨Ao21, co21, eo21⟩ := kM HO1017.out
   subst eo21
   obtain ⟨Ao22, co22, eo22⟩ := kM HO1021.out
   subst eo22
   go_wp2_with (first | (go_at_call 20; (with_reducible refine (laws_likeInts.calls k _ _ t1015 _ _ t1019 t1023 _ ?side1 ?side2 ?side3 ?side4 A20.out).mono ?_); (case side1 => exact zS (kB HO1017.out).2.2); (case side2 => exact (kB HO1017.out).2.1); (case side3 => exact zS (kB HO1021.out).2.2); (case side4 => exact (kB HO1021.out).2.1); rintro e w' ⟨rfl, ⟨nd, rfl⟩⟩))
   go_meet
   case rel => exact ⟨_, (!t1023), zs, H', ⟨by first | omega | exact Nat.le_refl _⟩, ⟨zPM HO1010.out (fun _ hk => ⟨hk.1.1.2, ⟨hk.1.2, hk.1.1.1⟩⟩)⟩, ⟨zPM HO1013.out (fun _ hk => ⟨hk.1.1.2, ⟨hk.1.2, hk.1.1.1⟩⟩)⟩, ⟨zPM HO1017.out (fun _ hk => ⟨hk.1.1.2, ⟨hk.1.2, hk.1.1.1.2⟩⟩)⟩, ⟨zPM HO1007.out (fun _ hk => ⟨hk.1.1.1, ⟨hk.1.1.2, hk.1.2⟩⟩)⟩, ⟨zR BK1014.out⟩, ⟨zT HB.out GE1014.out⟩⟩
  rw [if_neg c19] at H
  obtain ⟨c19b0, c19b1⟩ := zT2 c19
  (first | rw [c19b0] | (simp only [i64_w, i32_w]; rw [c19b0]) | skip)
  have H' := zA H
  clear H
  go_wp2
  go_meet
  case rel => exact ⟨_, (true), zs, H', ⟨by first | omega | exact Nat.le_refl _⟩, ⟨zPM HO1010.out (fun _ hk => ⟨hk.1.1.2, ⟨hk.1.2, hk.1.1.1⟩⟩)⟩, ⟨zPM HO1013.out (fun _ hk => ⟨hk.1.1.2, ⟨hk.1.2, hk.1.1.1⟩⟩)⟩, ⟨zPM HO1017.out (fun _ hk => ⟨hk.1.1.2, ⟨hk.1.2, hk.1.1.1.2⟩⟩)⟩, ⟨zPM HO1007.out (fun _ hk => ⟨hk.1.1.1, ⟨hk.1.1.2, hk.1.2⟩⟩)⟩, ⟨zR BK1014.out⟩, ⟨zT HB.out GE1014.out⟩⟩
 case rest =>
  clear HC7
  try clear c1
  try clear c2
  try clear c3
  try clear c5
  try clear c9
  try clear c19
  try clear c21
  try clear hcz10_0
  try clear hcz10_1
  try clear hcz13_0
  try clear hcz13_1
  try clear hcz17_0
  try clear hcz17_1
  try clear hfz10_0
  try clear hfz10_1
  try clear hfz13_0
  try clear hfz13_1
  try clear hfz17_0
  try clear hfz17_1
  obtain ⟨kq, x63_6, rfl, HA, HJ6, HO_4, HO_5, HO_6, HO_1015001, BK1014, HB⟩ := hcut
  cases kq with
  | zero => exact absurd HA.out (by simp [laws_FnQuotients.j0])
  | succ kj6 =>
   have H := HA.out
   clear HA
   simp only [laws_FnQuotients.j0] at H
   by_cases c23 : x63_6 = true
   ·subst c23
    rw [if_pos rfl] at H
    exact absurd H (by simp)
   replace c23 := Bool.eq_false_iff.mpr c23
   subst c23
   rw [if_neg (show ¬ (false = true) by decide)] at H
   have HC24 := zA H
   clear H
   go_upto_if 65 with (fail)
   go_cut [] (fun wc => ∃ (kq : Nat), Aside0 (laws_FnQuotients.j1 kq l0 = some r) ∧ Aside0 (kq ≤ kj6) ∧ Aside0 (Kd.R (Kd.int .i64) 2 wc w.heap.size (fun _ => True) (.slice Ao11 t1005.length co11) t1005) ∧ Aside0 (wc.heap[gb1014]? = some (.cells #[.int .i64 t1004, (.slice Ao11 t1005.length co11)] 26 (0, 0))) ∧ Aside0 (Below w.heap.size w wc))
   case first => as_aux_lemma =>
    have H := HC24.out
    clear HC24
    by_cases c25 : t1018 = 0
    ·rw [if_pos c25] at H
     obtain ⟨c25b0, c25b1⟩ := zT1 c25
     clear c25
     (first | rw [c25b0] | (simp only [i64_w, i32_w]; rw [c25b0]) | skip)
     obtain ⟨⟨t1024, t1027⟩, A26, H⟩ := zb H
     try dsimp only at H
     obtain ⟨⟨t1028, t1029⟩, A27, H⟩ := zb H
     try dsimp only at H
     obtain ⟨⟨t1030, t1033⟩, A28, H⟩ := zb H
     try dsimp only at H
     obtain ⟨⟨t1034, t1035⟩, A29, H⟩ := zb H
     try dsimp only at H
     by_cases c30 : t1027 = 0
     ·rw [if_pos c30] at H
      obtain ⟨c30b0, c30b1⟩ := zT1 c30
      clear c30
      by_cases c31 : t1029 = 0
      ·rw [if_pos c31] at H
       obtain ⟨c31b0, c31b1⟩ := zT1 c31
       clear c31
       by_cases c32 : t1033 = 0
       ·rw [if_pos c32] at H
        obtain ⟨c32b0, c32b1⟩ := zT1 c32
        clear c32
        by_cases c33 : t1035 = 0
        ·rw [if_pos c33] at H
         obtain ⟨c33b0, c33b1⟩ := zT1 c33
         clear c33
         by_cases c34 : t1028 = true
         ·subst c34
          rw [if_pos rfl] at H
          by_cases c35 : t1034 = true
          ·subst c35
           rw [if_pos rfl] at H
           have H' := zA H
           clear H
           obtain ⟨hcz36_0, hcz36_1, hfz36_0, hfz36_1⟩ := zB3 BK1014.out
           obtain ⟨Ao37, co37, eo37⟩ := kM HO_6.out
           subst eo37
           go_wp2_with (first | (refine zO (some 70) Tryd.func25 #[.agg #[.int .i64 t1004, .slice Ao11 t1005.length co11], .slice Ao14 t1008.length co14, .slice Ao37 t1015.length co37] ?_; (with_reducible refine (impl_Concatenate.calls kj6 t1004 (fun k_ => some k_ = (.slice Ao11 t1005.length co11 : Value).ownBlock) _ _ t1005 (fun k_ => some k_ = (.slice Ao14 t1008.length co14 : Value).ownBlock) _ _ t1008 (fun k_ => some k_ = (.slice Ao37 t1015.length co37 : Value).ownBlock) _ _ t1015 t1024 t1027 _ ?side1 ?side2 ?side3 ?side4 A26.out).mono ?_); (case side1 => exact jL (jK rfl (kD (HO_1015001.out) BK1014.out (by decide)))); (case side2 => exact jL (jK rfl (kD (HO_4.out) BK1014.out (by decide)))); (case side3 => exact jL (jK rfl (kD (HO_6.out) BK1014.out (by decide)))); (case side4 => exact TabW.below HT.out (zT HB.out GE1014.out)); rintro e w38 ⟨v1025, rfl, ho0, hb⟩; refine ⟨_, rfl, ?_⟩; have HO1026 := zA (kI (kF (kF (kF (kF (kA (ok' := fun k_ => True) ho0 (fun _ hk_ => trivial)) (kH (zP HO_4.out))) (kH (zP HO_5.out))) (kH (zP HO_6.out))) (kH (zP HO_1015001.out))) (kP (zT HB.out GE1014.out))); replace HO_4 := zA (kE (zP HO_4.out) (kC ho0) hb); replace HO_5 := zA (kE (zP HO_5.out) (kC ho0) hb); replace HO_6 := zA (kE (zP HO_6.out) (kC ho0) hb); replace HO_1015001 := zA (kE (zP HO_1015001.out) (kC ho0) hb); replace BK1014 := zA (zB1 BK1014.out hb); replace HB := zA (kQ (zT HB.out GE1014.out) hb); (try clear hb); (try clear ho0); obtain ⟨hcz39_0, hcz39_1, hfz39_0, hfz39_1⟩ := zB3 BK1014.out; obtain ⟨Ao40, co40, eo40⟩ := kM HO1026.out; subst eo40) | (refine zO (some 77) Tryd.func26 #[.agg #[.int .i64 t1004, .slice Ao11 t1005.length co11], .slice Ao40 t1024.length co40, .slice Ao15 t1011.length co15] ?_; (with_reducible refine (impl_AreSameTrace.calls kj6 t1004 (fun k_ => some k_ = (.slice Ao11 t1005.length co11 : Value).ownBlock) _ _ t1005 (fun k_ => some k_ = (.slice Ao40 t1024.length co40 : Value).ownBlock) _ _ t1024 (fun k_ => some k_ = (.slice Ao15 t1011.length co15 : Value).ownBlock) _ _ t1011 true t1029 _ ?side1 ?side2 ?side3 ?side4 A27.out).mono ?_); (case side1 => exact jL (jK rfl (kD (HO_1015001.out) BK1014.out (by decide)))); (case side2 => exact jL (jK rfl (kD (HO1026.out) BK1014.out (by decide)))); (case side3 => exact jL (jK rfl (kD (HO_5.out) BK1014.out (by decide)))); (case side4 => exact TabW.below HT.out (zT HB.out GE1014.out)); rintro e w41 ⟨rfl, hb⟩; refine ⟨_, rfl, ?_⟩; replace HO_4 := zA (kL (zP HO_4.out) hb); replace HO_5 := zA (kL (zP HO_5.out) hb); replace HO_6 := zA (kL (zP HO_6.out) hb); replace HO_1015001 := zA (kL (zP HO_1015001.out) hb); replace HO1026 := zA (kL (zP HO1026.out) hb); replace BK1014 := zA (zB1 BK1014.out hb); replace HB := zA (kQ (zT HB.out GE1014.out) hb); (try clear hb); obtain ⟨hcz42_0, hcz42_1, hfz42_0, hfz42_1⟩ := zB3 BK1014.out) | (refine zO (some 84) Tryd.func27 #[.agg #[.int .i64 t1004, .slice Ao11 t1005.length co11], .slice Ao37 t1015.length co37, .slice Ao15 t1011.length co15] ?_; (with_reducible refine (impl_RightQuotient.calls kj6 t1004 (fun k_ => some k_ = (.slice Ao11 t1005.length co11 : Value).ownBlock) _ _ t1005 (fun k_ => some k_ = (.slice Ao37 t1015.length co37 : Value).ownBlock) _ _ t1015 (fun k_ => some k_ = (.slice Ao15 t1011.length co15 : Value).ownBlock) _ _ t1011 t1030 t1033 _ ?side1 ?side2 ?side3 ?side4 A28.out).mono ?_); (case side1 => exact jL (jK rfl (kD (HO_1015001.out) BK1014.out (by decide)))); (case side2 => exact jL (jK rfl (kD (HO_6.out) BK1014.out (by decide)))); (case side3 => exact jL (jK rfl (kD (HO_5.out) BK1014.out (by decide)))); (case side4 => exact TabW.below HT.out (zT HB.out GE1014.out)); rintro e w43 ⟨v1031, rfl, ho0, hb⟩; refine ⟨_, rfl, ?_⟩; have HO1032 := zA (kI (kF (kF (kF (kF (kF (kA (ok' := fun k_ => True) ho0 (fun _ hk_ => trivial)) (kH (zP HO_4.out))) (kH (zP HO_5.out))) (kH (zP HO_6.out))) (kH (zP HO_1015001.out))) (kH (zP HO1026.out))) (kP (zT HB.out GE1014.out))); replace HO_4 := zA (kE (zP HO_4.out) (kC ho0) hb); replace HO_5 := zA (kE (zP HO_5.out) (kC ho0) hb); replace HO_6 := zA (kE (zP HO_6.out) (kC ho0) hb); replace HO_1015001 := zA (kE (zP HO_1015001.out) (kC ho0) hb); replace HO1026 := zA (kE (zP HO1026.out) (kC ho0) hb); replace BK1014 := zA (zB1 BK1014.out hb); replace HB := zA (kQ (zT HB.out GE1014.out) hb); (try clear hb); (try clear ho0); obtain ⟨hcz44_0, hcz44_1, hfz44_0, hfz44_1⟩ := zB3 BK1014.out; obtain ⟨Ao45, co45, eo45⟩ := kM HO1032.out; subst eo45) | (refine zO (some 91) Tryd.func26 #[.agg #[.int .i64 t1004, .slice Ao11 t1005.length co11], .slice Ao45 t1030.length co45, .slice Ao14 t1008.length co14] ?_; (with_reducible refine (impl_AreSameTrace.calls kj6 t1004 (fun k_ => some k_ = (.slice Ao11 t1005.length co11 : Value).ownBlock) _ _ t1005 (fun k_ => some k_ = (.slice Ao45 t1030.length co45 : Value).ownBlock) _ _ t1030 (fun k_ => some k_ = (.slice Ao14 t1008.length co14 : Value).ownBlock) _ _ t1008 true t1035 _ ?side1 ?side2 ?side3 ?side4 A29.out).mono ?_); (case side1 => exact jL (jK rfl (kD (HO_1015001.out) BK1014.out (by decide)))); (case side2 => exact jL (jK rfl (kD (HO1032.out) BK1014.out (by decide)))); (case side3 => exact jL (jK rfl (kD (HO_4.out) BK1014.out (by decide)))); (case side4 => exact TabW.below HT.out (zT HB.out GE1014.out)); rintro e w46 ⟨rfl, hb⟩; refine ⟨_, rfl, ?_⟩; replace HO_4 := zA (kL (zP HO_4.out) hb); replace HO_5 := zA (kL (zP HO_5.out) hb); replace HO_6 := zA (kL (zP HO_6.out) hb); replace HO_1015001 := zA (kL (zP HO_1015001.out) hb); replace HO1026 := zA (kL (zP HO1026.out) hb); replace HO1032 := zA (kL (zP HO1032.out) hb); replace BK1014 := zA (zB1 BK1014.out hb); replace HB := zA (kQ (zT HB.out GE1014.out) hb); (try clear hb)))
           go_meet
           case rel => exact ⟨_, H', ⟨by have := HJ6.out; first | omega | exact Nat.le_refl _⟩, ⟨zPM HO_1015001.out (fun _ hk => trivial)⟩, ⟨zR BK1014.out⟩, ⟨zT HB.out GE1014.out⟩⟩
          replace c35 := Bool.eq_false_iff.mpr c35
          subst c35
          rw [if_neg (show ¬ (false = true) by decide)] at H
          exact absurd H (by simp)
         replace c34 := Bool.eq_false_iff.mpr c34
         subst c34
         rw [if_neg (show ¬ (false = true) by decide)] at H
         exact absurd H (by simp)
        rw [if_neg c33] at H
        exact absurd H (by simp)
       rw [if_neg c32] at H
       exact absurd H (by simp)
      rw [if_neg c31] at H
      exact absurd H (by simp)
     rw [if_neg c30] at H
     exact absurd H (by simp)
    rw [if_neg c25] at H
    obtain ⟨c25b0, c25b1⟩ := zT2 c25
    (first | rw [c25b0] | (simp only [i64_w, i32_w]; rw [c25b0]) | skip)
    have H' := zA H
    clear H
    go_wp2
    go_meet
    case rel => exact ⟨_, H', ⟨by have := HJ6.out; first | omega | exact Nat.le_refl _⟩, ⟨zPM HO_1015001.out (fun _ hk => trivial)⟩, ⟨zR BK1014.out⟩, ⟨zT HB.out GE1014.out⟩⟩
   case rest =>
    clear HC24
    try clear c1
    try clear c2
    try clear c3
    try clear c5
    try clear c9
    try clear c19
    try clear c21
    try clear c23
    try clear c24
    try clear c25
    try clear c26
    try clear c27
    try clear c30
    try clear c31
    try clear c32
    try clear c33
    try clear c34
    try clear c35
    try clear hcz10_0
    try clear hcz10_1
    try clear hcz13_0
    try clear hcz13_1
    try clear hcz17_0
    try clear hcz17_1
    try clear hcz36_0
    try clear hcz36_1
    try clear hcz39_0
    try clear hcz39_1
    try clear hcz42_0
    try clear hcz42_1
    try clear hcz44_0
    try clear hcz44_1
    try clear hfz10_0
    try clear hfz10_1
    try clear hfz13_0
    try clear hfz13_1
    try clear hfz17_0
    try clear hfz17_1
    try clear hfz36_0
    try clear hfz36_1
    try clear hfz39_0
    try clear hfz39_1
    try clear hfz42_0
    try clear hfz42_1
    try clear hfz44_0
    try clear hfz44_1
    obtain ⟨kq, HA, HJ23, HO_1015001, BK1014, HB⟩ := hcut
    cases kq with
    | zero => exact absurd HA.out (by simp [laws_FnQuotients.j1])
    | succ kj23 =>
     have H := HA.out
     clear HA
     simp only [laws_FnQuotients.j1] at H
     obtain ⟨⟨t1036, t1037, t1040, t1043⟩, A47, H⟩ := zb H
     try dsimp only at H
     obtain ⟨⟨t1047, t1050⟩, A48, H⟩ := zb H
     try dsimp only at H
     obtain ⟨⟨t1051, t1054⟩, A49, H⟩ := zb H
     try dsimp only at H
     have HC50 := zA H
     clear H
     go_upto_region 18 with (first | (refine zO (some 118) Tryd.func28 #[.slice A0 l0.length c0] ?_; (with_reducible refine (spec_DrawConcatenate.calls kj23 _ _ l0 t1036 t1037 t1040 t1043 _ ?side1 ?side2 A47.out).mono ?_); (case side1 => exact zS (kO HR0.out HB.out)); (case side2 => exact HC0.out); rintro e w51 ⟨v1038, v1041, v1044, rfl, ho0, ho1, ho2, hb⟩; refine ⟨_, rfl, ?_⟩; have HO1039 := zA (kI (kF ho0 (kH (zP HO_1015001.out))) (kP (zT HB.out GE1014.out))); have HO1042 := zA (kI (kF ho1 (kH (zP HO_1015001.out))) (kP (zT HB.out GE1014.out))); have HO1045 := zA (kI (kF ho2 (kH (zP HO_1015001.out))) (kP (zT HB.out GE1014.out))); replace HO_1015001 := zA (kA (Kd.R_told (Kd.R_told (Kd.R_told (Kd.R_old (zP HO_1015001.out) hb) (kC ho0)) (kC ho1)) (kC ho2)) (fun _ h_ => h_.1)); replace BK1014 := zA (zB1 BK1014.out hb); replace HB := zA (kQ (zT HB.out GE1014.out) hb); (try clear hb); (try clear ho0); (try clear ho1); (try clear ho2)) | (refine zBE 18 #[.int .i64 0, .slice none 0 0] 26 ?_; intro gb1046 hg w52 hbox hb; replace HO_1015001 := zA (kL (zP HO_1015001.out) hb); replace HO1039 := zA (kL (zP HO1039.out) hb); replace HO1042 := zA (kL (zP HO1042.out) hb); replace HO1045 := zA (kL (zP HO1045.out) hb); have BK1046 := zA (hbox); have GW1046 := zA (zB6 hg (kP (zT HB.out GE1014.out)) : w.heap.size ≤ gb1046); have GE1046 := zA (zB6 hg (kP (zT HB.out GE1014.out)) : w.heap.size ≤ gb1046); replace HB := zA (kQ (zT HB.out GE1014.out) hb); have NB1014_1046 := zA (zB4 hg BK1014.out : gb1014 ≠ gb1046); have NB1046_1014 := zA (zB5 hg BK1014.out : gb1046 ≠ gb1014); replace BK1014 := zA (zB1 BK1014.out hb); clear hb hbox hg; have hnb53 := NB1046_1014.out; have hnc53 := NB1014_1046.out; obtain ⟨hcz54_0, hcz54_1, hfz54_0, hfz54_1⟩ := zB3 BK1046.out; obtain ⟨Ao55, co55, eo55⟩ := kM HO1039.out; subst eo55) | ((with_reducible refine gate_store (t := 26) (p := 18) rfl ?_); refine store_event (t := 26) (p := 18) (v := ?vo_w56) (w1 := ((w52.setCell ⟨gb1046, 0, none⟩ (.int .i64 t1036)).setCell ⟨gb1046, 1, none⟩ (.slice Ao55 t1037.length co55))) ?hg ?ho ?hn ?hr ?_; (case ho => rfl); (case hg => rfl); (case hn => rfl); (case hr => first | (go_simp; done) | (go_simp; rfl)); intro w56 hw; replace HO_1015001 : Aside0 (Kd.R (Kd.int .i64) 2 w56 w.heap.size (fun k_ => some k_ ≠ (.slice Ao55 t1037.length co55 : Value).ownBlock ∧ some k_ ≠ (v1041 : Value).ownBlock ∧ some k_ ≠ (v1044 : Value).ownBlock) (.slice Ao11 t1005.length co11) t1005) := ⟨(by rw [hw]; exact (by (with_reducible repeat (first | apply zF | apply zG | apply zH)); exact kA (kY (p := ⟨gb1046, 1, none⟩) (kY (p := ⟨gb1046, 0, none⟩) (kD HO_1015001.out BK1046.out (by decide)) (fun _ hk => hk.2) (.int .i64 t1036)) (fun _ hk => hk.2) (.slice Ao55 t1037.length co55)) (fun _ hk => ⟨hk.1.1.1.2, ⟨hk.1.1.2, hk.1.2⟩⟩)))⟩; replace HO1039 : Aside0 (Kd.R (Kd.int .i64) 2 w56 w.heap.size (fun k_ => some k_ ≠ (.slice Ao11 t1005.length co11 : Value).ownBlock ∧ some k_ ≠ (v1041 : Value).ownBlock ∧ some k_ ≠ (v1044 : Value).ownBlock) (.slice Ao55 t1037.length co55) t1037) := ⟨(by rw [hw]; exact (by (with_reducible repeat (first | apply zF | apply zG | apply zH)); exact kA (kY (p := ⟨gb1046, 1, none⟩) (kY (p := ⟨gb1046, 0, none⟩) (kD HO1039.out BK1046.out (by decide)) (fun _ hk => hk.2) (.int .i64 t1036)) (fun _ hk => hk.2) (.slice Ao55 t1037.length co55)) (fun _ hk => ⟨hk.1.2, ⟨hk.1.1.1, hk.1.1.2⟩⟩)))⟩; replace HO1042 : Aside0 (Kd.R (Kd.int .i64) 2 w56 w.heap.size (fun k_ => some k_ ≠ (.slice Ao11 t1005.length co11 : Value).ownBlock ∧ some k_ ≠ (.slice Ao55 t1037.length co55 : Value).ownBlock ∧ some k_ ≠ (v1044 : Value).ownBlock) v1041 t1040) := ⟨(by rw [hw]; exact (by (with_reducible repeat (first | apply zF | apply zG | apply zH)); exact kA (kY (p := ⟨gb1046, 1, none⟩) (kY (p := ⟨gb1046, 0, none⟩) (kD HO1042.out BK1046.out (by decide)) (fun _ hk => hk.2) (.int .i64 t1036)) (fun _ hk => hk.2) (.slice Ao55 t1037.length co55)) (fun _ hk => ⟨hk.1.2, ⟨hk.1.1.1, hk.1.1.2⟩⟩)))⟩; replace HO1045 : Aside0 (Kd.R (Kd.int .i64) 2 w56 w.heap.size (fun k_ => some k_ ≠ (.slice Ao11 t1005.length co11 : Value).ownBlock ∧ some k_ ≠ (.slice Ao55 t1037.length co55 : Value).ownBlock ∧ some k_ ≠ (v1041 : Value).ownBlock) v1044 t1043) := ⟨(by rw [hw]; exact (by (with_reducible repeat (first | apply zF | apply zG | apply zH)); exact kA (kY (p := ⟨gb1046, 1, none⟩) (kY (p := ⟨gb1046, 0, none⟩) (kD HO1045.out BK1046.out (by decide)) (fun _ hk => hk.2) (.int .i64 t1036)) (fun _ hk => hk.2) (.slice Ao55 t1037.length co55)) (fun _ hk => ⟨hk.1.2, ⟨hk.1.1.1, hk.1.1.2⟩⟩)))⟩; replace BK1014 : Aside0 (w56.heap[gb1014]? = some (.cells #[.int .i64 t1004, .slice Ao11 t1005.length co11] 26 (0, 0))) := ⟨(by rw [hw]; exact (zBG BK1014.out NB1014_1046.out NB1014_1046.out))⟩; replace BK1046 : Aside0 (w56.heap[gb1046]? = some (.cells #[.int .i64 t1036, .slice Ao55 t1037.length co55] 26 (0, 0))) := ⟨(by rw [hw]; exact (zRP BK1046.out))⟩; replace HB : Aside0 (Below w.heap.size w w56) := ⟨(by rw [hw]; exact (zV HB.out GE1014.out GE1046.out))⟩; clear hw; obtain ⟨hcz57_0, hcz57_1, hfz57_0, hfz57_1⟩ := zB3 BK1046.out; obtain ⟨Ao58, co58, eo58⟩ := kM HO1042.out; subst eo58; obtain ⟨Ao59, co59, eo59⟩ := kM HO1045.out; subst eo59) | (refine zO (some 126) Tryd.func25 #[.agg #[.int .i64 t1036, .slice Ao55 t1037.length co55], .slice Ao58 t1040.length co58, .slice Ao59 t1043.length co59] ?_; (with_reducible refine (impl_Concatenate.calls kj23 t1036 (fun k_ => some k_ = (.slice Ao55 t1037.length co55 : Value).ownBlock) _ _ t1037 (fun k_ => some k_ = (.slice Ao58 t1040.length co58 : Value).ownBlock) _ _ t1040 (fun k_ => some k_ = (.slice Ao59 t1043.length co59 : Value).ownBlock) _ _ t1043 t1047 t1050 _ ?side1 ?side2 ?side3 ?side4 A48.out).mono ?_); (case side1 => exact jL (jK rfl (kD (kD (HO1039.out) BK1014.out (by decide)) BK1046.out (by decide)))); (case side2 => exact jL (jK rfl (kD (kD (HO1042.out) BK1014.out (by decide)) BK1046.out (by decide)))); (case side3 => exact jL (jK rfl (kD (kD (HO1045.out) BK1014.out (by decide)) BK1046.out (by decide)))); (case side4 => exact TabW.below HT.out (zV HB.out GE1014.out GE1046.out)); rintro e w60 ⟨v1048, rfl, ho0, hb⟩; refine ⟨_, rfl, ?_⟩; have HO1049 := zA (kI (kF (kF (kF (kF (kA (ok' := fun k_ => True) ho0 (fun _ hk_ => trivial)) (kH (zP HO_1015001.out))) (kH (zP HO1039.out))) (kH (zP HO1042.out))) (kH (zP HO1045.out))) (kP (zV HB.out GE1014.out GE1046.out))); replace HO_1015001 := zA (kE (zP HO_1015001.out) (kC ho0) hb); replace HO1039 := zA (kE (zP HO1039.out) (kC ho0) hb); replace HO1042 := zA (kE (zP HO1042.out) (kC ho0) hb); replace HO1045 := zA (kE (zP HO1045.out) (kC ho0) hb); replace BK1014 := zA (zB1 BK1014.out hb); replace BK1046 := zA (zB1 BK1046.out hb); replace HB := zA (kQ (zV HB.out GE1014.out GE1046.out) hb); (try clear hb); (try clear ho0); obtain ⟨hcz61_0, hcz61_1, hfz61_0, hfz61_1⟩ := zB3 BK1046.out) | (refine zO (some 133) Tryd.func29 #[.agg #[.int .i64 t1036, .slice Ao55 t1037.length co55], .slice Ao58 t1040.length co58, .slice Ao59 t1043.length co59] ?_; (with_reducible refine (spec_Concatenate.calls kj23 t1036 _ _ t1037 _ _ t1040 _ _ t1043 t1051 t1054 _ ?side1 ?side2 ?side3 ?side4 ?side5 ?side6 A49.out).mono ?_); (case side1 => exact zS (kB HO1039.out).2.2); (case side2 => exact (kB HO1039.out).2.1); (case side3 => exact zS (kB HO1042.out).2.2); (case side4 => exact (kB HO1042.out).2.1); (case side5 => exact zS (kB HO1045.out).2.2); (case side6 => exact (kB HO1045.out).2.1); rintro e w62 ⟨v1052, rfl, ho0, hb⟩; refine ⟨_, rfl, ?_⟩; have HO1053 := zA (kI (kF (kF (kF (kF (kF ho0 (kH (zP HO_1015001.out))) (kH (zP HO1039.out))) (kH (zP HO1042.out))) (kH (zP HO1045.out))) (kH (zP HO1049.out))) (kP (zV HB.out GE1014.out GE1046.out))); replace HO_1015001 := zA (kE (zP HO_1015001.out) (kC ho0) hb); replace HO1039 := zA (kE (zP HO1039.out) (kC ho0) hb); replace HO1042 := zA (kE (zP HO1042.out) (kC ho0) hb); replace HO1045 := zA (kE (zP HO1045.out) (kC ho0) hb); replace HO1049 := zA (kE (zP HO1049.out) (kC ho0) hb); replace BK1014 := zA (zB1 BK1014.out hb); replace BK1046 := zA (zB1 BK1046.out hb); replace HB := zA (kQ (zV HB.out GE1014.out GE1046.out) hb); (try clear hb); (try clear ho0)))
     (try simp only [Act.put, zL, zM, zN])
     go_cut [144] (fun v144 wc => ∃ (kq : Nat) (x144_49 : Bool), v144 = .bool x144_49 ∧ Aside0 (laws_FnQuotients.j2 kq t1040 t1043 t1047 t1050 x144_49 t1036 t1037 = some r) ∧ Aside0 (kq ≤ kj23) ∧ Aside0 (Kd.R (Kd.int .i64) 2 wc w.heap.size (fun k_ => some k_ ≠ ((.slice Ao59 t1043.length co59) : Value).ownBlock ∧ some k_ ≠ (v1048 : Value).ownBlock ∧ some k_ ≠ ((.slice Ao11 t1005.length co11) : Value).ownBlock ∧ some k_ ≠ ((.slice Ao55 t1037.length co55) : Value).ownBlock) (.slice Ao58 t1040.length co58) t1040) ∧ Aside0 (Kd.R (Kd.int .i64) 2 wc w.heap.size (fun k_ => some k_ ≠ ((.slice Ao58 t1040.length co58) : Value).ownBlock ∧ some k_ ≠ (v1048 : Value).ownBlock ∧ some k_ ≠ ((.slice Ao11 t1005.length co11) : Value).ownBlock ∧ some k_ ≠ ((.slice Ao55 t1037.length co55) : Value).ownBlock) (.slice Ao59 t1043.length co59) t1043) ∧ Aside0 (Kd.R (Kd.int .i64) 2 wc w.heap.size (fun k_ => some k_ ≠ ((.slice Ao58 t1040.length co58) : Value).ownBlock ∧ some k_ ≠ ((.slice Ao59 t1043.length co59) : Value).ownBlock ∧ some k_ ≠ ((.slice Ao11 t1005.length co11) : Value).ownBlock ∧ some k_ ≠ ((.slice Ao55 t1037.length co55) : Value).ownBlock) v1048 t1047) ∧ Aside0 (Kd.R (Kd.int .i64) 2 wc w.heap.size (fun k_ => some k_ ≠ ((.slice Ao58 t1040.length co58) : Value).ownBlock ∧ some k_ ≠ ((.slice Ao59 t1043.length co59) : Value).ownBlock ∧ some k_ ≠ (v1048 : Value).ownBlock ∧ some k_ ≠ ((.slice Ao55 t1037.length co55) : Value).ownBlock) (.slice Ao11 t1005.length co11) t1005) ∧ Aside0 (Kd.R (Kd.int .i64) 2 wc w.heap.size (fun k_ => some k_ ≠ ((.slice Ao58 t1040.length co58) : Value).ownBlock ∧ some k_ ≠ ((.slice Ao59 t1043.length co59) : Value).ownBlock ∧ some k_ ≠ (v1048 : Value).ownBlock ∧ some k_ ≠ ((.slice Ao11 t1005.length co11) : Value).ownBlock) (.slice Ao55 t1037.length co55) t1037) ∧ Aside0 (wc.heap[gb1014]? = some (.cells #[.int .i64 t1004, (.slice Ao11 t1005.length co11)] 26 (0, 0))) ∧ Aside0 (wc.heap[gb1046]? = some (.cells #[.int .i64 t1036, (.slice Ao55 t1037.length co55)] 26 (0, 0))) ∧ Aside0 (Below w.heap.size w wc))
     case first => as_aux_lemma =>
      have H := HC50.out
      clear HC50
      by_cases c63 : t1050 = t1054
      ·rw [if_pos c63] at H
       obtain ⟨c63b0, c63b1⟩ := zT1 c63
       clear c63
       (first | rw [c63b0] | (simp only [i64_w, i32_w]; rw [c63b0]) | skip)
       obtain ⟨t1055, A64, H⟩ := zb H
       try dsimp only at H
       have H' := zA H
       clear H
       obtain ⟨Ao65, co65, eo65⟩ := kM HO1049.out
       subst eo65
       obtain ⟨Ao66, co66, eo66⟩ := kM HO1053.out
       subst eo66
       go_wp2_with (first | (go_at_call 20; (with_reducible refine (laws_likeInts.calls kj23 _ _ t1047 _ _ t1051 t1055 _ ?side1 ?side2 ?side3 ?side4 A64.out).mono ?_); (case side1 => exact zS (kB HO1049.out).2.2); (case side2 => exact (kB HO1049.out).2.1); (case side3 => exact zS (kB HO1053.out).2.2); (case side4 => exact (kB HO1053.out).2.1); rintro e w' ⟨rfl, ⟨nd, rfl⟩⟩))
       go_meet
       case rel => exact ⟨_, (!t1055), zs, H', ⟨by have := HJ6.out; have := HJ23.out; first | omega | exact Nat.le_refl _⟩, ⟨zPM HO1042.out (fun _ hk => ⟨hk.1.1.2.2, ⟨hk.1.2, ⟨hk.1.1.1, hk.1.1.2.1⟩⟩⟩)⟩, ⟨zPM HO1045.out (fun _ hk => ⟨hk.1.1.2.2, ⟨hk.1.2, ⟨hk.1.1.1, hk.1.1.2.1⟩⟩⟩)⟩, ⟨zPM HO1049.out (fun _ hk => ⟨hk.1.1.2, ⟨hk.1.2, ⟨hk.1.1.1.1.2, hk.1.1.1.2⟩⟩⟩)⟩, ⟨zPM HO_1015001.out (fun _ hk => ⟨hk.1.1.2.1, ⟨hk.1.1.2.2, ⟨hk.1.2, hk.1.1.1⟩⟩⟩)⟩, ⟨zPM HO1039.out (fun _ hk => ⟨hk.1.1.2.1, ⟨hk.1.1.2.2, ⟨hk.1.2, hk.1.1.1⟩⟩⟩)⟩, ⟨zR BK1014.out⟩, ⟨zR BK1046.out⟩, ⟨zV HB.out GE1014.out GE1046.out⟩⟩
      rw [if_neg c63] at H
      obtain ⟨c63b0, c63b1⟩ := zT2 c63
      (first | rw [c63b0] | (simp only [i64_w, i32_w]; rw [c63b0]) | skip)
      have H' := zA H
      clear H
      go_wp2
      go_meet
      case rel => exact ⟨_, (true), zs, H', ⟨by have := HJ6.out; have := HJ23.out; first | omega | exact Nat.le_refl _⟩, ⟨zPM HO1042.out (fun _ hk => ⟨hk.1.1.2.2, ⟨hk.1.2, ⟨hk.1.1.1, hk.1.1.2.1⟩⟩⟩)⟩, ⟨zPM HO1045.out (fun _ hk => ⟨hk.1.1.2.2, ⟨hk.1.2, ⟨hk.1.1.1, hk.1.1.2.1⟩⟩⟩)⟩, ⟨zPM HO1049.out (fun _ hk => ⟨hk.1.1.2, ⟨hk.1.2, ⟨hk.1.1.1.1.2, hk.1.1.1.2⟩⟩⟩)⟩, ⟨zPM HO_1015001.out (fun _ hk => ⟨hk.1.1.2.1, ⟨hk.1.1.2.2, ⟨hk.1.2, hk.1.1.1⟩⟩⟩)⟩, ⟨zPM HO1039.out (fun _ hk => ⟨hk.1.1.2.1, ⟨hk.1.1.2.2, ⟨hk.1.2, hk.1.1.1⟩⟩⟩)⟩, ⟨zR BK1014.out⟩, ⟨zR BK1046.out⟩, ⟨zV HB.out GE1014.out GE1046.out⟩⟩
     case rest =>
      clear HC50
      try clear c1
      try clear c2
      try clear c3
      try clear c5
      try clear c6
      try clear c9
      try clear c19
      try clear c21
      try clear c23
      try clear c24
      try clear c25
      try clear c26
      try clear c27
      try clear c28
      try clear c29
      try clear c30
      try clear c31
      try clear c32
      try clear c33
      try clear c34
      try clear c35
      try clear c53
      try clear c63
      try clear hcz10_0
      try clear hcz10_1
      try clear hcz13_0
      try clear hcz13_1
      try clear hcz17_0
      try clear hcz17_1
      try clear hcz36_0
      try clear hcz36_1
      try clear hcz39_0
      try clear hcz39_1
      try clear hcz42_0
      try clear hcz42_1
      try clear hcz44_0
      try clear hcz44_1
      try clear hcz54_0
      try clear hcz54_1
      try clear hcz57_0
      try clear hcz57_1
      try clear hcz61_0
      try clear hcz61_1
      try clear hfz10_0
      try clear hfz10_1
      try clear hfz13_0
      try clear hfz13_1
      try clear hfz17_0
      try clear hfz17_1
      try clear hfz36_0
      try clear hfz36_1
      try clear hfz39_0
      try clear hfz39_1
      try clear hfz42_0
      try clear hfz42_1
      try clear hfz44_0
      try clear hfz44_1
      try clear hfz54_0
      try clear hfz54_1
      try clear hfz57_0
      try clear hfz57_1
      try clear hfz61_0
      try clear hfz61_1
      obtain ⟨kq, x144_49, rfl, HA, HJ49, HO_19, HO_20, HO_21, HO_1015001, HO_1047001, BK1014, BK1046, HB⟩ := hcut
      cases kq with
      | zero => exact absurd HA.out (by simp [laws_FnQuotients.j2])
      | succ kj49 =>
       have H := HA.out
       clear HA
       simp only [laws_FnQuotients.j2] at H
       by_cases c67 : x144_49 = true
       ·subst c67
        rw [if_pos rfl] at H
        exact absurd H (by simp)
       replace c67 := Bool.eq_false_iff.mpr c67
       subst c67
       rw [if_neg (show ¬ (false = true) by decide)] at H
       by_cases c68 : t1050 = 0
       ·rw [if_pos c68] at H
        obtain ⟨c68b0, c68b1⟩ := zT1 c68
        clear c68
        obtain ⟨⟨t1056, t1059⟩, A69, H⟩ := zb H
        try dsimp only at H
        obtain ⟨⟨t1060, t1063⟩, A70, H⟩ := zb H
        try dsimp only at H
        obtain ⟨⟨t1064, t1065⟩, A71, H⟩ := zb H
        try dsimp only at H
        obtain ⟨⟨t1066, t1067⟩, A72, H⟩ := zb H
        try dsimp only at H
        by_cases c73 : t1059 = 0
        ·rw [if_pos c73] at H
         obtain ⟨c73b0, c73b1⟩ := zT1 c73
         clear c73
         by_cases c74 : t1063 = 0
         ·rw [if_pos c74] at H
          obtain ⟨c74b0, c74b1⟩ := zT1 c74
          clear c74
          by_cases c75 : t1065 = 0
          ·rw [if_pos c75] at H
           obtain ⟨c75b0, c75b1⟩ := zT1 c75
           clear c75
           by_cases c76 : t1067 = 0
           ·rw [if_pos c76] at H
            obtain ⟨c76b0, c76b1⟩ := zT1 c76
            clear c76
            by_cases c77 : t1064 = true
            ·subst c77
             rw [if_pos rfl] at H
             obtain rfl := Option.some.inj H
             have hnb78 := NB1046_1014.out
             have hnc78 := NB1014_1046.out
             obtain ⟨hcz79_0, hcz79_1, hfz79_0, hfz79_1⟩ := zB3 BK1046.out
             obtain ⟨Ao80, co80, eo80⟩ := kM HO_21.out
             subst eo80
             go_wp2_with (first | (refine zO (some 151) Tryd.func21 #[.agg #[.int .i64 t1036, .slice Ao55 t1037.length co55], .slice Ao58 t1040.length co58, .slice Ao80 t1047.length co80] ?_; (with_reducible refine (impl_LeftQuotient.calls kj49 t1036 (fun k_ => some k_ = (.slice Ao55 t1037.length co55 : Value).ownBlock) _ _ t1037 (fun k_ => some k_ = (.slice Ao58 t1040.length co58 : Value).ownBlock) _ _ t1040 (fun k_ => some k_ = (.slice Ao80 t1047.length co80 : Value).ownBlock) _ _ t1047 t1056 t1059 _ ?side1 ?side2 ?side3 ?side4 A69.out).mono ?_); (case side1 => exact jL (jK rfl (kD (kD (HO_1047001.out) BK1014.out (by decide)) BK1046.out (by decide)))); (case side2 => exact jL (jK rfl (kD (kD (HO_19.out) BK1014.out (by decide)) BK1046.out (by decide)))); (case side3 => exact jL (jK rfl (kD (kD (HO_21.out) BK1014.out (by decide)) BK1046.out (by decide)))); (case side4 => exact TabW.below HT.out (zV HB.out GE1014.out GE1046.out)); rintro e w81 ⟨v1057, rfl, ho0, hb⟩; refine ⟨_, rfl, ?_⟩; have HO1058 := zA (kI (kF (kF (kF (kF (kF (kA (ok' := fun k_ => True) ho0 (fun _ hk_ => trivial)) (kH (zP HO_19.out))) (kH (zP HO_20.out))) (kH (zP HO_21.out))) (kH (zP HO_1015001.out))) (kH (zP HO_1047001.out))) (kP (zV HB.out GE1014.out GE1046.out))); replace HO_19 := zA (kE (zP HO_19.out) (kC ho0) hb); replace HO_20 := zA (kE (zP HO_20.out) (kC ho0) hb); replace HO_21 := zA (kE (zP HO_21.out) (kC ho0) hb); replace HO_1015001 := zA (kE (zP HO_1015001.out) (kC ho0) hb); replace HO_1047001 := zA (kE (zP HO_1047001.out) (kC ho0) hb); replace BK1014 := zA (zB1 BK1014.out hb); replace BK1046 := zA (zB1 BK1046.out hb); replace HB := zA (kQ (zV HB.out GE1014.out GE1046.out) hb); (try clear hb); (try clear ho0); obtain ⟨hcz82_0, hcz82_1, hfz82_0, hfz82_1⟩ := zB3 BK1046.out) | (refine zO (some 158) Tryd.func27 #[.agg #[.int .i64 t1036, .slice Ao55 t1037.length co55], .slice Ao59 t1043.length co59, .slice Ao80 t1047.length co80] ?_; (with_reducible refine (impl_RightQuotient.calls kj49 t1036 (fun k_ => some k_ = (.slice Ao55 t1037.length co55 : Value).ownBlock) _ _ t1037 (fun k_ => some k_ = (.slice Ao59 t1043.length co59 : Value).ownBlock) _ _ t1043 (fun k_ => some k_ = (.slice Ao80 t1047.length co80 : Value).ownBlock) _ _ t1047 t1060 t1063 _ ?side1 ?side2 ?side3 ?side4 A70.out).mono ?_); (case side1 => exact jL (jK rfl (kD (kD (HO_1047001.out) BK1014.out (by decide)) BK1046.out (by decide)))); (case side2 => exact jL (jK rfl (kD (kD (HO_20.out) BK1014.out (by decide)) BK1046.out (by decide)))); (case side3 => exact jL (jK rfl (kD (kD (HO_21.out) BK1014.out (by decide)) BK1046.out (by decide)))); (case side4 => exact TabW.below HT.out (zV HB.out GE1014.out GE1046.out)); rintro e w83 ⟨v1061, rfl, ho0, hb⟩; refine ⟨_, rfl, ?_⟩; have HO1062 := zA (kI (kF (kF (kF (kF (kF (kF (kA (ok' := fun k_ => True) ho0 (fun _ hk_ => trivial)) (kH (zP HO_19.out))) (kH (zP HO_20.out))) (kH (zP HO_21.out))) (kH (zP HO_1015001.out))) (kH (zP HO_1047001.out))) (kH (zP HO1058.out))) (kP (zV HB.out GE1014.out GE1046.out))); replace HO_19 := zA (kE (zP HO_19.out) (kC ho0) hb); replace HO_20 := zA (kE (zP HO_20.out) (kC ho0) hb); replace HO_21 := zA (kE (zP HO_21.out) (kC ho0) hb); replace HO_1015001 := zA (kE (zP HO_1015001.out) (kC ho0) hb); replace HO_1047001 := zA (kE (zP HO_1047001.out) (kC ho0) hb); replace HO1058 := zA (kE (zP HO1058.out) (kC ho0) hb); replace BK1014 := zA (zB1 BK1014.out hb); replace BK1046 := zA (zB1 BK1046.out hb); replace HB := zA (kQ (zV HB.out GE1014.out GE1046.out) hb); (try clear hb); (try clear ho0); obtain ⟨hcz84_0, hcz84_1, hfz84_0, hfz84_1⟩ := zB3 BK1046.out; obtain ⟨Ao85, co85, eo85⟩ := kM HO1058.out; subst eo85) | (refine zO (some 165) Tryd.func26 #[.agg #[.int .i64 t1036, .slice Ao55 t1037.length co55], .slice Ao85 t1056.length co85, .slice Ao59 t1043.length co59] ?_; (with_reducible refine (impl_AreSameTrace.calls kj49 t1036 (fun k_ => some k_ = (.slice Ao55 t1037.length co55 : Value).ownBlock) _ _ t1037 (fun k_ => some k_ = (.slice Ao85 t1056.length co85 : Value).ownBlock) _ _ t1056 (fun k_ => some k_ = (.slice Ao59 t1043.length co59 : Value).ownBlock) _ _ t1043 true t1065 _ ?side1 ?side2 ?side3 ?side4 A71.out).mono ?_); (case side1 => exact jL (jK rfl (kD (kD (HO_1047001.out) BK1014.out (by decide)) BK1046.out (by decide)))); (case side2 => exact jL (jK rfl (kD (kD (HO1058.out) BK1014.out (by decide)) BK1046.out (by decide)))); (case side3 => exact jL (jK rfl (kD (kD (HO_20.out) BK1014.out (by decide)) BK1046.out (by decide)))); (case side4 => exact TabW.below HT.out (zV HB.out GE1014.out GE1046.out)); rintro e w86 ⟨rfl, hb⟩; refine ⟨_, rfl, ?_⟩; replace HO_19 := zA (kL (zP HO_19.out) hb); replace HO_20 := zA (kL (zP HO_20.out) hb); replace HO_21 := zA (kL (zP HO_21.out) hb); replace HO_1015001 := zA (kL (zP HO_1015001.out) hb); replace HO_1047001 := zA (kL (zP HO_1047001.out) hb); replace HO1058 := zA (kL (zP HO1058.out) hb); replace HO1062 := zA (kL (zP HO1062.out) hb); replace BK1014 := zA (zB1 BK1014.out hb); replace BK1046 := zA (zB1 BK1046.out hb); replace HB := zA (kQ (zV HB.out GE1014.out GE1046.out) hb); (try clear hb); obtain ⟨hcz87_0, hcz87_1, hfz87_0, hfz87_1⟩ := zB3 BK1046.out; obtain ⟨Ao88, co88, eo88⟩ := kM HO1062.out; subst eo88) | (refine zO (some 172) Tryd.func26 #[.agg #[.int .i64 t1036, .slice Ao55 t1037.length co55], .slice Ao88 t1060.length co88, .slice Ao58 t1040.length co58] ?_; (with_reducible refine (impl_AreSameTrace.calls kj49 t1036 (fun k_ => some k_ = (.slice Ao55 t1037.length co55 : Value).ownBlock) _ _ t1037 (fun k_ => some k_ = (.slice Ao88 t1060.length co88 : Value).ownBlock) _ _ t1060 (fun k_ => some k_ = (.slice Ao58 t1040.length co58 : Value).ownBlock) _ _ t1040 t1066 t1067 _ ?side1 ?side2 ?side3 ?side4 A72.out).mono ?_); (case side1 => exact jL (jK rfl (kD (kD (HO_1047001.out) BK1014.out (by decide)) BK1046.out (by decide)))); (case side2 => exact jL (jK rfl (kD (kD (HO1062.out) BK1014.out (by decide)) BK1046.out (by decide)))); (case side3 => exact jL (jK rfl (kD (kD (HO_19.out) BK1014.out (by decide)) BK1046.out (by decide)))); (case side4 => exact TabW.below HT.out (zV HB.out GE1014.out GE1046.out)); rintro e w89 ⟨rfl, hb⟩; refine ⟨_, rfl, ?_⟩; replace HO_19 := zA (kL (zP HO_19.out) hb); replace HO_20 := zA (kL (zP HO_20.out) hb); replace HO_21 := zA (kL (zP HO_21.out) hb); replace HO_1015001 := zA (kL (zP HO_1015001.out) hb); replace HO_1047001 := zA (kL (zP HO_1047001.out) hb); replace HO1058 := zA (kL (zP HO1058.out) hb); replace HO1062 := zA (kL (zP HO1062.out) hb); replace BK1014 := zA (zB1 BK1014.out hb); replace BK1046 := zA (zB1 BK1046.out hb); replace HB := zA (kQ (zV HB.out GE1014.out GE1046.out) hb); (try clear hb)))
             go_ret
             exact ⟨zr, zV HB.out GE1014.out GE1046.out⟩
            replace c77 := Bool.eq_false_iff.mpr c77
            subst c77
            rw [if_neg (show ¬ (false = true) by decide)] at H
            exact absurd H (by simp)
           rw [if_neg c76] at H
           exact absurd H (by simp)
          rw [if_neg c75] at H
          exact absurd H (by simp)
         rw [if_neg c74] at H
         exact absurd H (by simp)
        rw [if_neg c73] at H
        exact absurd H (by simp)
       rw [if_neg c68] at H
       obtain ⟨c68b0, c68b1⟩ := zT2 c68
       obtain rfl := Option.some.inj H
       go_wp2
       go_ret
       exact ⟨zr, zV HB.out GE1014.out GE1046.out⟩


end Go.Proofs.YtkiacoilecdepaaDoor.PAll
