import Derived.Test.YtkiacoilecdepaaDoorPAllx0
import Derived.Test.YtkiacoilecdepaaDoorPAllx4
import Derived.Test.YtkiacoilecdepaaDoorPAllx6
import Derived.Test.YtkiacoilecdepaaDoorPAllx11
import Derived.Test.YtkiacoilecdepaaDoorPAllx12
import Derived.Test.YtkiacoilecdepaaDoorPAllx16
namespace Go.Proofs.YtkiacoilecdepaaDoor.PAll
open Go.RowKit Go.Proofs.YtkiacoilecdepaaDoor.T Go.Proofs.YtkiacoilecdepaaDoorW.PrintWords Go.Proofs.YtkiacoilecdepaaDoorW.PrintLast Go.Proofs.YtkiacoilecdepaaDoorW.PrintMore
attribute [local go_sem] max2_int min2_int max_two min_two max_three min_three max_four min_four   -- for this text's walks alone
set_option linter.unusedVariables false
set_option linter.unusedSimpArgs false
def impl_checkJoin.f (k : Nat) (a0_0 : Int) (l0_1 : List Int) (l1 : List Int) (l2 : List Int) : Option (List Int × Int) := (impl_checkWords.f k a0_0 l0_1 (([l1, l2] : List (List Int)))).bind fun t1433 => (if t1433 = 0 then ((impl_Alphabet_ties.f a0_0 l0_1).bind fun t1434 => ((impl_ties_residual.f k t1434 l1 l2).bind fun bt1437 => (if bt1437.2 = true then (if (wrap64 ((l1.length : Int) + (bt1437.1.length : Int))) > 24 then (some (([] : List Int), 3)) else (some (bt1437.1, 0))) else (some (([] : List Int), 4))))) else (some (([] : List Int), t1433)))
set_option maxHeartbeats 8000000 in
set_option maxRecDepth 100000 in
theorem impl_checkJoin.calls (k : Nat) (a0_0 : Int) (P0_1_ : Nat → Prop) (A0_1 : Option Addr) (c0_1 : Nat) (l0_1 : List Int) (P1_ : Nat → Prop) (A1 : Option Addr) (c1 : Nat) (l1 : List Int) (P2_ : Nat → Prop) (A2 : Option Addr) (c2 : Nat) (l2 : List Int) (r1 : List Int) (r2 : Int) (w : World) (hs0_1 : Kd.V (Kd.int .i64) 2 w w.heap.size (fun k_ => P0_1_ k_) (.slice A0_1 l0_1.length c0_1) l0_1) (hs1 : Kd.V (Kd.int .i64) 2 w w.heap.size (fun k_ => P1_ k_) (.slice A1 l1.length c1) l1) (hs2 : Kd.V (Kd.int .i64) 2 w w.heap.size (fun k_ => P2_ k_) (.slice A2 l2.length c2) l2) (hT : TabW w) (h : impl_checkJoin.f k a0_0 l0_1 l1 l2 = some (r1, r2)) :
  Calls Tryd.prog 92 #[.agg #[.int .i64 a0_0, .slice A0_1 l0_1.length c0_1], .slice A1 l1.length c1, .slice A2 l2.length c2] w fun e w' => ∃ v0_ : Value, e = .returned (.tuple #[v0_, .int .i64 r2]) ∧ Kd.V (Kd.int .i64) 2 w' w.heap.size (fun k_ => ((P0_1_ k_ ∨ P1_ k_ ∨ P2_ k_) ∨ w.heap.size ≤ k_)) v0_ r1 ∧ Below w.heap.size w w' := by
 have hu26 := Tryd.underlying26
 have HT := zA hT
 clear hT
 have HO0_1 := zA (show Kd.V (Kd.int .i64) 2 w w.heap.size (fun k_ => ((P0_1_ k_ ∨ P1_ k_ ∨ P2_ k_) ∨ w.heap.size ≤ k_)) (.slice A0_1 l0_1.length c0_1) l0_1 from kN hs0_1 (fun k_ hk => .inl (.inl hk)))
 have HO1 := zA (show Kd.V (Kd.int .i64) 2 w w.heap.size (fun k_ => ((P0_1_ k_ ∨ P1_ k_ ∨ P2_ k_) ∨ w.heap.size ≤ k_)) (.slice A1 l1.length c1) l1 from kN hs1 (fun k_ hk => .inl (.inr (.inl hk))))
 have HO2 := zA (show Kd.V (Kd.int .i64) 2 w w.heap.size (fun k_ => ((P0_1_ k_ ∨ P1_ k_ ∨ P2_ k_) ∨ w.heap.size ≤ k_)) (.slice A2 l2.length c2) l2 from kN hs2 (fun k_ hk => .inl (.inr (.inr hk))))
 have HB := zA (kW w.heap.size w)
 have H := h
 unfold impl_checkJoin.f at H
 clear h
 obtain ⟨y1430, hy1430⟩ : ∃ y_ : List (List Int), y_ = (([l1, l2] : List (List Int))) := ⟨_, rfl⟩
 replace H : ((impl_checkWords.f k a0_0 l0_1 y1430).bind fun t1433 => (if t1433 = 0 then ((impl_Alphabet_ties.f a0_0 l0_1).bind fun t1434 => ((impl_ties_residual.f k t1434 l1 l2).bind fun bt1437 => (if bt1437.2 = true then (if (wrap64 ((l1.length : Int) + (bt1437.1.length : Int))) > 24 then (some (([] : List Int), 3)) else (some (bt1437.1, 0))) else (some (([] : List Int), 4))))) else (some (([] : List Int), t1433)))) = some (r1, r2) := zy hy1430 H
 have Ny1430 := zA hy1430
 clear hy1430
 obtain ⟨t1433, A4, H⟩ := zb H
 try dsimp only at H
 by_cases c5 : t1433 = 0
 ·rw [if_pos c5] at H
  obtain ⟨c5b0, c5b1⟩ := zT1 c5
  clear c5
  obtain ⟨t1434, A6, H⟩ := zb H
  try dsimp only at H
  obtain ⟨⟨t1437, t1440⟩, A7, H⟩ := zb H
  try dsimp only at H
  by_cases c8 : t1440 = true
  ·subst c8
   rw [if_pos rfl] at H
   by_cases c9 : (wrap64 ((l1.length : Int) + (t1437.length : Int))) > 24
   ·rw [if_pos c9] at H
    have c9b0 : decide (24 < (wrap64 ((l1.length : Int) + (t1437.length : Int)))) = true := decide_eq_true c9
    clear c9
    simp only [Option.some.injEq, Prod.mk.injEq] at H
    obtain ⟨rfl, rfl⟩ := H
    go_enter Tryd.func92, Tryd.ntmps92
    go_wp2_with (first | (refine zBE 3 #[.int .i64 a0_0, .slice A0_1 l0_1.length c0_1] 26 ?_; intro gb1429 hg w10 hbox hb; replace HO0_1 := zA (kG (jD (zPV HO0_1.out) gb1429 (Nat.le_of_eq hg.symm)) hb); replace HO1 := zA (kG (jD (zPV HO1.out) gb1429 (Nat.le_of_eq hg.symm)) hb); replace HO2 := zA (kG (jD (zPV HO2.out) gb1429 (Nat.le_of_eq hg.symm)) hb); have BK1429 := zA (hbox); have GW1429 := zA (zBH hg HB.out); have GE1429 := zA (zBH hg HB.out); replace HB := zA (kQ (zQ HB.out) hb); clear hb hbox hg; obtain ⟨hcz11_0, hcz11_1, hfz11_0, hfz11_1⟩ := zB3 BK1429.out) | ((with_reducible refine kS (N := 14) rfl ?_); refine Kd.N_lit (Kd.slice 2 (Kd.int .i64)) _ 24 ?hg (N' := 14) ?hd (xs := ([l1, l2] : List (List Int))) (inner := [.slice A1 l1.length c1, .slice A2 l2.length c2]) (ok := (fun k_ => ((P0_1_ k_ ∨ P1_ k_ ∨ P2_ k_) ∨ w.heap.size ≤ k_) ∧ k_ ≠ gb1429)) (okp := (fun k_ => ((P0_1_ k_ ∨ P1_ k_ ∨ P2_ k_) ∨ w.heap.size ≤ k_) ∧ k_ ≠ gb1429)) ?hr ?hp (fun _ hk => hk) ((show ∀ k_ : Nat, (_ : Nat) ≤ k_ → (fun k_ => ((P0_1_ k_ ∨ P1_ k_ ∨ P2_ k_) ∨ w.heap.size ≤ k_) ∧ k_ ≠ gb1429) k_ from fun k_ hk => ⟨(.inr (Nat.le_trans (kP (zT HB.out GE1429.out)) hk)), jE (g := gb1429) (o := .cells #[.int .i64 a0_0, .slice A0_1 l0_1.length c0_1] 26 (0, 0)) (zR BK1429.out) k_ hk⟩) _ (Nat.le_refl _)) (kW _ _) (Nat.le_refl _) (by simp) ?_; (case hd => rfl); (case hg => rfl); (case hr => first | (go_simp; done) | (go_simp; rfl)); (case hp => exact (Reps.one (show Kd.FK (Kd.slice 2 (Kd.int .i64)) _ _ l1 [.slice A1 l1.length c1] from (zFK (kN (ok' := (fun k_ => ((P0_1_ k_ ∨ P1_ k_ ∨ P2_ k_) ∨ w.heap.size ≤ k_) ∧ k_ ≠ gb1429)) (HO1.out) (fun k_ hk => ⟨hk.1, hk.2⟩)))) (Reps.one (show Kd.FK (Kd.slice 2 (Kd.int .i64)) _ _ l2 [.slice A2 l2.length c2] from (zFK (kN (ok' := (fun k_ => ((P0_1_ k_ ∨ P1_ k_ ∨ P2_ k_) ∨ w.heap.size ≤ k_) ∧ k_ ≠ gb1429)) (HO2.out) (fun k_ hk => ⟨hk.1, hk.2⟩)))) (Reps.none _ _)))); intro v1431 w12 ho13 hb hg_ hnew_; clear hg_ hnew_; (first | rw [← Ny1430.out] at ho13 | (simp only [Int.reduceToNat] at ho13; rw [← Ny1430.out] at ho13)); replace HO0_1 := zA (kK (zPV HO0_1.out) (Kd.N_base ho13) hb); replace HO1 := zA (kK (zPV HO1.out) (Kd.N_base ho13) hb); replace HO2 := zA (kK (zPV HO2.out) (Kd.N_base ho13) hb); have HO1432 := zA (jN ho13 (kP (zT HB.out GE1429.out))); replace BK1429 := zA (zB1 BK1429.out hb); replace HB := zA (kQ (zT HB.out GE1429.out) hb); clear hb ho13; obtain ⟨Ao14, co14, eo14⟩ := Kd.N_slice HO1432.out; subst eo14) | (refine zO (some 15) Tryd.func49 #[.agg #[.int .i64 a0_0, .slice A0_1 l0_1.length c0_1], .slice Ao14 y1430.length co14] ?_; (with_reducible refine (impl_checkWords.calls k a0_0 _ _ l0_1 _ _ y1430 t1433 _ ?side1 ?side2 ?side3 ?side4 ?side5 A4.out).mono ?_); (case side1 => exact zS (kJ HO0_1.out).2.2); (case side2 => exact (kJ HO0_1.out).2.1); (case side3 => exact zS (Kd.N_reads' HO1432.out).2.2); (case side4 => exact (Kd.N_reads' HO1432.out).2.1); (case side5 => exact TabW.below HT.out (zT HB.out GE1429.out)); rintro e w15 ⟨rfl, hb⟩; refine ⟨_, rfl, ?_⟩; replace HO0_1 := zA (kG (zPV HO0_1.out) hb); replace HO1 := zA (kG (zPV HO1.out) hb); replace HO2 := zA (kG (zPV HO2.out) hb); replace HO1432 := zA (kZ (zPN HO1432.out) hb); replace BK1429 := zA (zB1 BK1429.out hb); replace HB := zA (kQ (zT HB.out GE1429.out) hb); (try clear hb); obtain ⟨hcz16_0, hcz16_1, hfz16_0, hfz16_1⟩ := zB3 BK1429.out) | (refine zO (some 21) Tryd.func50 #[.agg #[.int .i64 a0_0, .slice A0_1 l0_1.length c0_1]] ?_; (with_reducible refine (impl_Alphabet_ties.calls a0_0 (fun k_ => ((((P0_1_ k_ ∨ P1_ k_ ∨ P2_ k_) ∨ w.heap.size ≤ k_) ∧ k_ ≠ gb1429) ∧ some k_ ≠ (.slice Ao14 y1430.length co14 : Value).ownBlock)) _ _ l0_1 t1434 _ ?side1 A6.out).mono ?_); (case side1 => exact HO0_1.out); rintro e w17 ⟨v1435, rfl, ho0, hb⟩; refine ⟨_, rfl, ?_⟩; replace HO0_1 := zA (kG (zPV HO0_1.out) hb); replace HO1 := zA (kG (zPV HO1.out) hb); replace HO2 := zA (kG (zPV HO2.out) hb); have HO1436 := zA (jM (kN (ok' := fun k_ => ((P0_1_ k_ ∨ P1_ k_ ∨ P2_ k_) ∨ w.heap.size ≤ k_) ∧ some k_ ≠ (.slice Ao14 y1430.length co14 : Value).ownBlock ∧ k_ ≠ gb1429) ho0 (fun k_ hk_ => ⟨Or.elim hk_ (fun hs_ => hs_.1.1) (fun hn_ => (.inr (Nat.le_trans (kP (zT HB.out GE1429.out)) hn_))), Or.elim hk_ (fun hs_ => hs_.2) (fun hn_ => (jF (jA (zPN HO1432.out)) k_ hn_)), Or.elim hk_ (fun hs_ => hs_.1.2) (fun hn_ => (jE (g := gb1429) (o := .cells #[.int .i64 a0_0, .slice A0_1 l0_1.length c0_1] 26 (0, 0)) (zR BK1429.out) k_ hn_))⟩)) (kP (zT HB.out GE1429.out))); replace HO1432 := zA (kZ (zPN HO1432.out) hb); replace BK1429 := zA (zB1 BK1429.out hb); replace HB := zA (kQ (zT HB.out GE1429.out) hb); (try clear hb); (try clear ho0); obtain ⟨Ao18, co18, eo18⟩ := Kd.V_slice HO1436.out; subst eo18) | (refine zO (some 24) Tryd.func120 #[.slice Ao18 t1434.length co18, .slice A1 l1.length c1, .slice A2 l2.length c2] ?_; (with_reducible refine (impl_ties_residual.calls k _ _ t1434 (fun k_ => ((((P0_1_ k_ ∨ P1_ k_ ∨ P2_ k_) ∨ w.heap.size ≤ k_) ∧ k_ ≠ gb1429) ∧ some k_ ≠ (.slice Ao14 y1430.length co14 : Value).ownBlock)) _ _ l1 (fun k_ => ((((P0_1_ k_ ∨ P1_ k_ ∨ P2_ k_) ∨ w.heap.size ≤ k_) ∧ k_ ≠ gb1429) ∧ some k_ ≠ (.slice Ao14 y1430.length co14 : Value).ownBlock)) _ _ l2 t1437 true _ ?side1 ?side2 ?side3 ?side4 ?side5 A7.out).mono ?_); (case side1 => exact zS (kJ HO1436.out).2.2); (case side2 => exact (kJ HO1436.out).2.1); (case side3 => exact HO1.out); (case side4 => exact HO2.out); (case side5 => exact TabW.below HT.out (zT HB.out GE1429.out)); rintro e w19 ⟨v1438, rfl, ho0, hb⟩; refine ⟨_, rfl, ?_⟩; replace HO0_1 := zA (kG (zPV HO0_1.out) hb); replace HO1 := zA (kG (zPV HO1.out) hb); replace HO2 := zA (kG (zPV HO2.out) hb); replace HO1436 := zA (kG (zPV HO1436.out) hb); have HO1439 := zA (jM (kN (ok' := fun k_ => ((P0_1_ k_ ∨ P1_ k_ ∨ P2_ k_) ∨ w.heap.size ≤ k_) ∧ some k_ ≠ (.slice Ao14 y1430.length co14 : Value).ownBlock ∧ k_ ≠ gb1429) ho0 (fun k_ hk_ => ⟨Or.elim hk_ (fun hs_ => Or.elim hs_ (fun hs_ => hs_.1.1) (fun hs_ => hs_.1.1)) (fun hn_ => (.inr (Nat.le_trans (kP (zT HB.out GE1429.out)) hn_))), Or.elim hk_ (fun hs_ => Or.elim hs_ (fun hs_ => hs_.2) (fun hs_ => hs_.2)) (fun hn_ => (jF (jA (zPN HO1432.out)) k_ hn_)), Or.elim hk_ (fun hs_ => Or.elim hs_ (fun hs_ => hs_.1.2) (fun hs_ => hs_.1.2)) (fun hn_ => (jE (g := gb1429) (o := .cells #[.int .i64 a0_0, .slice A0_1 l0_1.length c0_1] 26 (0, 0)) (zR BK1429.out) k_ hn_))⟩)) (kP (zT HB.out GE1429.out))); replace HO1432 := zA (kZ (zPN HO1432.out) hb); replace BK1429 := zA (zB1 BK1429.out hb); replace HB := zA (kQ (zT HB.out GE1429.out) hb); (try clear hb); (try clear ho0); obtain ⟨Ao20, co20, eo20⟩ := Kd.V_slice HO1439.out; subst eo20))
    go_ret2
    exact ⟨_, zr, zn, zT HB.out GE1429.out⟩
   rw [if_neg c9] at H
   have c9b0 : decide (24 < (wrap64 ((l1.length : Int) + (t1437.length : Int)))) = false := decide_eq_false c9
   clear c9
   simp only [Option.some.injEq, Prod.mk.injEq] at H
   obtain ⟨rfl, rfl⟩ := H
   go_enter Tryd.func92, Tryd.ntmps92
   go_wp2_with (first | (refine zBE 3 #[.int .i64 a0_0, .slice A0_1 l0_1.length c0_1] 26 ?_; intro gb1429 hg w21 hbox hb; replace HO0_1 := zA (kG (jD (zPV HO0_1.out) gb1429 (Nat.le_of_eq hg.symm)) hb); replace HO1 := zA (kG (jD (zPV HO1.out) gb1429 (Nat.le_of_eq hg.symm)) hb); replace HO2 := zA (kG (jD (zPV HO2.out) gb1429 (Nat.le_of_eq hg.symm)) hb); have BK1429 := zA (hbox); have GW1429 := zA (zBH hg HB.out); have GE1429 := zA (zBH hg HB.out); replace HB := zA (kQ (zQ HB.out) hb); clear hb hbox hg; obtain ⟨hcz22_0, hcz22_1, hfz22_0, hfz22_1⟩ := zB3 BK1429.out) | ((with_reducible refine kS (N := 14) rfl ?_); refine Kd.N_lit (Kd.slice 2 (Kd.int .i64)) _ 24 ?hg (N' := 14) ?hd (xs := ([l1, l2] : List (List Int))) (inner := [.slice A1 l1.length c1, .slice A2 l2.length c2]) (ok := (fun k_ => ((P0_1_ k_ ∨ P1_ k_ ∨ P2_ k_) ∨ w.heap.size ≤ k_) ∧ k_ ≠ gb1429)) (okp := (fun k_ => ((P0_1_ k_ ∨ P1_ k_ ∨ P2_ k_) ∨ w.heap.size ≤ k_) ∧ k_ ≠ gb1429)) ?hr ?hp (fun _ hk => hk) ((show ∀ k_ : Nat, (_ : Nat) ≤ k_ → (fun k_ => ((P0_1_ k_ ∨ P1_ k_ ∨ P2_ k_) ∨ w.heap.size ≤ k_) ∧ k_ ≠ gb1429) k_ from fun k_ hk => ⟨(.inr (Nat.le_trans (kP (zT HB.out GE1429.out)) hk)), jE (g := gb1429) (o := .cells #[.int .i64 a0_0, .slice A0_1 l0_1.length c0_1] 26 (0, 0)) (zR BK1429.out) k_ hk⟩) _ (Nat.le_refl _)) (kW _ _) (Nat.le_refl _) (by simp) ?_; (case hd => rfl); (case hg => rfl); (case hr => first | (go_simp; done) | (go_simp; rfl)); (case hp => exact (Reps.one (show Kd.FK (Kd.slice 2 (Kd.int .i64)) _ _ l1 [.slice A1 l1.length c1] from (zFK (kN (ok' := (fun k_ => ((P0_1_ k_ ∨ P1_ k_ ∨ P2_ k_) ∨ w.heap.size ≤ k_) ∧ k_ ≠ gb1429)) (HO1.out) (fun k_ hk => ⟨hk.1, hk.2⟩)))) (Reps.one (show Kd.FK (Kd.slice 2 (Kd.int .i64)) _ _ l2 [.slice A2 l2.length c2] from (zFK (kN (ok' := (fun k_ => ((P0_1_ k_ ∨ P1_ k_ ∨ P2_ k_) ∨ w.heap.size ≤ k_) ∧ k_ ≠ gb1429)) (HO2.out) (fun k_ hk => ⟨hk.1, hk.2⟩)))) (Reps.none _ _)))); intro v1431 w23 ho24 hb hg_ hnew_; clear hg_ hnew_; (first | rw [← Ny1430.out] at ho24 | (simp only [Int.reduceToNat] at ho24; rw [← Ny1430.out] at ho24)); replace HO0_1 := zA (kK (zPV HO0_1.out) (Kd.N_base ho24) hb); replace HO1 := zA (kK (zPV HO1.out) (Kd.N_base ho24) hb); replace HO2 := zA (kK (zPV HO2.out) (Kd.N_base ho24) hb); have HO1432 := zA (jN ho24 (kP (zT HB.out GE1429.out))); replace BK1429 := zA (zB1 BK1429.out hb); replace HB := zA (kQ (zT HB.out GE1429.out) hb); clear hb ho24; obtain ⟨Ao25, co25, eo25⟩ := Kd.N_slice HO1432.out; subst eo25) | (refine zO (some 15) Tryd.func49 #[.agg #[.int .i64 a0_0, .slice A0_1 l0_1.length c0_1], .slice Ao25 y1430.length co25] ?_; (with_reducible refine (impl_checkWords.calls k a0_0 _ _ l0_1 _ _ y1430 t1433 _ ?side1 ?side2 ?side3 ?side4 ?side5 A4.out).mono ?_); (case side1 => exact zS (kJ HO0_1.out).2.2); (case side2 => exact (kJ HO0_1.out).2.1); (case side3 => exact zS (Kd.N_reads' HO1432.out).2.2); (case side4 => exact (Kd.N_reads' HO1432.out).2.1); (case side5 => exact TabW.below HT.out (zT HB.out GE1429.out)); rintro e w26 ⟨rfl, hb⟩; refine ⟨_, rfl, ?_⟩; replace HO0_1 := zA (kG (zPV HO0_1.out) hb); replace HO1 := zA (kG (zPV HO1.out) hb); replace HO2 := zA (kG (zPV HO2.out) hb); replace HO1432 := zA (kZ (zPN HO1432.out) hb); replace BK1429 := zA (zB1 BK1429.out hb); replace HB := zA (kQ (zT HB.out GE1429.out) hb); (try clear hb); obtain ⟨hcz27_0, hcz27_1, hfz27_0, hfz27_1⟩ := zB3 BK1429.out) | (refine zO (some 21) Tryd.func50 #[.agg #[.int .i64 a0_0, .slice A0_1 l0_1.length c0_1]] ?_; (with_reducible refine (impl_Alphabet_ties.calls a0_0 (fun k_ => ((((P0_1_ k_ ∨ P1_ k_ ∨ P2_ k_) ∨ w.heap.size ≤ k_) ∧ k_ ≠ gb1429) ∧ some k_ ≠ (.slice Ao25 y1430.length co25 : Value).ownBlock)) _ _ l0_1 t1434 _ ?side1 A6.out).mono ?_); (case side1 => exact HO0_1.out); rintro e w28 ⟨v1435, rfl, ho0, hb⟩; refine ⟨_, rfl, ?_⟩; replace HO0_1 := zA (kG (zPV HO0_1.out) hb); replace HO1 := zA (kG (zPV HO1.out) hb); replace HO2 := zA (kG (zPV HO2.out) hb); have HO1436 := zA (jM (kN (ok' := fun k_ => ((P0_1_ k_ ∨ P1_ k_ ∨ P2_ k_) ∨ w.heap.size ≤ k_) ∧ some k_ ≠ (.slice Ao25 y1430.length co25 : Value).ownBlock ∧ k_ ≠ gb1429) ho0 (fun k_ hk_ => ⟨Or.elim hk_ (fun hs_ => hs_.1.1) (fun hn_ => (.inr (Nat.le_trans (kP (zT HB.out GE1429.out)) hn_))), Or.elim hk_ (fun hs_ => hs_.2) (fun hn_ => (jF (jA (zPN HO1432.out)) k_ hn_)), Or.elim hk_ (fun hs_ => hs_.1.2) (fun hn_ => (jE (g := gb1429) (o := .cells #[.int .i64 a0_0, .slice A0_1 l0_1.length c0_1] 26 (0, 0)) (zR BK1429.out) k_ hn_))⟩)) (kP (zT HB.out GE1429.out))); replace HO1432 := zA (kZ (zPN HO1432.out) hb); replace BK1429 := zA (zB1 BK1429.out hb); replace HB := zA (kQ (zT HB.out GE1429.out) hb); (try clear hb); (try clear ho0); obtain ⟨Ao29, co29, eo29⟩ := Kd.V_slice HO1436.out; subst eo29) | (refine zO (some 24) Tryd.func120 #[.slice Ao29 t1434.length co29, .slice A1 l1.length c1, .slice A2 l2.length c2] ?_; (with_reducible refine (impl_ties_residual.calls k _ _ t1434 (fun k_ => ((((P0_1_ k_ ∨ P1_ k_ ∨ P2_ k_) ∨ w.heap.size ≤ k_) ∧ k_ ≠ gb1429) ∧ some k_ ≠ (.slice Ao25 y1430.length co25 : Value).ownBlock)) _ _ l1 (fun k_ => ((((P0_1_ k_ ∨ P1_ k_ ∨ P2_ k_) ∨ w.heap.size ≤ k_) ∧ k_ ≠ gb1429) ∧ some k_ ≠ (.slice Ao25 y1430.length co25 : Value).ownBlock)) _ _ l2 t1437 true _ ?side1 ?side2 ?side3 ?side4 ?side5 A7.out).mono ?_); (case side1 => exact zS (kJ HO1436.out).2.2); (case side2 => exact (kJ HO1436.out).2.1); (case side3 => exact HO1.out); (case side4 => exact HO2.out); (case side5 => exact TabW.below HT.out (zT HB.out GE1429.out)); rintro e w30 ⟨v1438, rfl, ho0, hb⟩; refine ⟨_, rfl, ?_⟩; replace HO0_1 := zA (kG (zPV HO0_1.out) hb); replace HO1 := zA (kG (zPV HO1.out) hb); replace HO2 := zA (kG (zPV HO2.out) hb); replace HO1436 := zA (kG (zPV HO1436.out) hb); have HO1439 := zA (jM (kN (ok' := fun k_ => ((P0_1_ k_ ∨ P1_ k_ ∨ P2_ k_) ∨ w.heap.size ≤ k_) ∧ some k_ ≠ (.slice Ao25 y1430.length co25 : Value).ownBlock ∧ k_ ≠ gb1429) ho0 (fun k_ hk_ => ⟨Or.elim hk_ (fun hs_ => Or.elim hs_ (fun hs_ => hs_.1.1) (fun hs_ => hs_.1.1)) (fun hn_ => (.inr (Nat.le_trans (kP (zT HB.out GE1429.out)) hn_))), Or.elim hk_ (fun hs_ => Or.elim hs_ (fun hs_ => hs_.2) (fun hs_ => hs_.2)) (fun hn_ => (jF (jA (zPN HO1432.out)) k_ hn_)), Or.elim hk_ (fun hs_ => Or.elim hs_ (fun hs_ => hs_.1.2) (fun hs_ => hs_.1.2)) (fun hn_ => (jE (g := gb1429) (o := .cells #[.int .i64 a0_0, .slice A0_1 l0_1.length c0_1] 26 (0, 0)) (zR BK1429.out) k_ hn_))⟩)) (kP (zT HB.out GE1429.out))); replace HO1432 := zA (kZ (zPN HO1432.out) hb); replace BK1429 := zA (zB1 BK1429.out hb); replace HB := zA (kQ (zT HB.out GE1429.out) hb); (try clear hb); (try clear ho0); obtain ⟨Ao31, co31, eo31⟩ := Kd.V_slice HO1439.out; subst eo31))
   go_ret2
   exact ⟨_, zr, by (with_reducible repeat (first | apply Kd.V_alloc | apply Kd.V_drewN | apply Kd.V_drew)); exact kN HO1439.out (fun _ hk => hk.1), zT HB.out GE1429.out⟩
  replace c8 := Bool.eq_false_iff.mpr c8
  subst c8
  rw [if_neg (show ¬ (false = true) by decide)] at H
  simp only [Option.some.injEq, Prod.mk.injEq] at H
  obtain ⟨rfl, rfl⟩ := H
  go_enter Tryd.func92, Tryd.ntmps92
  go_wp2_with (first | (refine zBE 3 #[.int .i64 a0_0, .slice A0_1 l0_1.length c0_1] 26 ?_; intro gb1429 hg w32 hbox hb; replace HO0_1 := zA (kG (jD (zPV HO0_1.out) gb1429 (Nat.le_of_eq hg.symm)) hb); replace HO1 := zA (kG (jD (zPV HO1.out) gb1429 (Nat.le_of_eq hg.symm)) hb); replace HO2 := zA (kG (jD (zPV HO2.out) gb1429 (Nat.le_of_eq hg.symm)) hb); have BK1429 := zA (hbox); have GW1429 := zA (zBH hg HB.out); have GE1429 := zA (zBH hg HB.out); replace HB := zA (kQ (zQ HB.out) hb); clear hb hbox hg; obtain ⟨hcz33_0, hcz33_1, hfz33_0, hfz33_1⟩ := zB3 BK1429.out) | ((with_reducible refine kS (N := 14) rfl ?_); refine Kd.N_lit (Kd.slice 2 (Kd.int .i64)) _ 24 ?hg (N' := 14) ?hd (xs := ([l1, l2] : List (List Int))) (inner := [.slice A1 l1.length c1, .slice A2 l2.length c2]) (ok := (fun k_ => ((P0_1_ k_ ∨ P1_ k_ ∨ P2_ k_) ∨ w.heap.size ≤ k_) ∧ k_ ≠ gb1429)) (okp := (fun k_ => ((P0_1_ k_ ∨ P1_ k_ ∨ P2_ k_) ∨ w.heap.size ≤ k_) ∧ k_ ≠ gb1429)) ?hr ?hp (fun _ hk => hk) ((show ∀ k_ : Nat, (_ : Nat) ≤ k_ → (fun k_ => ((P0_1_ k_ ∨ P1_ k_ ∨ P2_ k_) ∨ w.heap.size ≤ k_) ∧ k_ ≠ gb1429) k_ from fun k_ hk => ⟨(.inr (Nat.le_trans (kP (zT HB.out GE1429.out)) hk)), jE (g := gb1429) (o := .cells #[.int .i64 a0_0, .slice A0_1 l0_1.length c0_1] 26 (0, 0)) (zR BK1429.out) k_ hk⟩) _ (Nat.le_refl _)) (kW _ _) (Nat.le_refl _) (by simp) ?_; (case hd => rfl); (case hg => rfl); (case hr => first | (go_simp; done) | (go_simp; rfl)); (case hp => exact (Reps.one (show Kd.FK (Kd.slice 2 (Kd.int .i64)) _ _ l1 [.slice A1 l1.length c1] from (zFK (kN (ok' := (fun k_ => ((P0_1_ k_ ∨ P1_ k_ ∨ P2_ k_) ∨ w.heap.size ≤ k_) ∧ k_ ≠ gb1429)) (HO1.out) (fun k_ hk => ⟨hk.1, hk.2⟩)))) (Reps.one (show Kd.FK (Kd.slice 2 (Kd.int .i64)) _ _ l2 [.slice A2 l2.length c2] from (zFK (kN (ok' := (fun k_ => ((P0_1_ k_ ∨ P1_ k_ ∨ P2_ k_) ∨ w.heap.size ≤ k_) ∧ k_ ≠ gb1429)) (HO2.out) (fun k_ hk => ⟨hk.1, hk.2⟩)))) (Reps.none _ _)))); intro v1431 w34 ho35 hb hg_ hnew_; clear hg_ hnew_; (first | rw [← Ny1430.out] at ho35 | (simp only [Int.reduceToNat] at ho35; rw [← Ny1430.out] at ho35)); replace HO0_1 := zA (kK (zPV HO0_1.out) (Kd.N_base ho35) hb); replace HO1 := zA (kK (zPV HO1.out) (Kd.N_base ho35) hb); replace HO2 := zA (kK (zPV HO2.out) (Kd.N_base ho35) hb); have HO1432 := zA (jN ho35 (kP (zT HB.out GE1429.out))); replace BK1429 := zA (zB1 BK1429.out hb); replace HB := zA (kQ (zT HB.out GE1429.out) hb); clear hb ho35; obtain ⟨Ao36, co36, eo36⟩ := Kd.N_slice HO1432.out; subst eo36) | (refine zO (some 15) Tryd.func49 #[.agg #[.int .i64 a0_0, .slice A0_1 l0_1.length c0_1], .slice Ao36 y1430.length co36] ?_; (with_reducible refine (impl_checkWords.calls k a0_0 _ _ l0_1 _ _ y1430 t1433 _ ?side1 ?side2 ?side3 ?side4 ?side5 A4.out).mono ?_); (case side1 => exact zS (kJ HO0_1.out).2.2); (case side2 => exact (kJ HO0_1.out).2.1); (case side3 => exact zS (Kd.N_reads' HO1432.out).2.2); (case side4 => exact (Kd.N_reads' HO1432.out).2.1); (case side5 => exact TabW.below HT.out (zT HB.out GE1429.out)); rintro e w37 ⟨rfl, hb⟩; refine ⟨_, rfl, ?_⟩; replace HO0_1 := zA (kG (zPV HO0_1.out) hb); replace HO1 := zA (kG (zPV HO1.out) hb); replace HO2 := zA (kG (zPV HO2.out) hb); replace HO1432 := zA (kZ (zPN HO1432.out) hb); replace BK1429 := zA (zB1 BK1429.out hb); replace HB := zA (kQ (zT HB.out GE1429.out) hb); (try clear hb); obtain ⟨hcz38_0, hcz38_1, hfz38_0, hfz38_1⟩ := zB3 BK1429.out) | (refine zO (some 21) Tryd.func50 #[.agg #[.int .i64 a0_0, .slice A0_1 l0_1.length c0_1]] ?_; (with_reducible refine (impl_Alphabet_ties.calls a0_0 (fun k_ => ((((P0_1_ k_ ∨ P1_ k_ ∨ P2_ k_) ∨ w.heap.size ≤ k_) ∧ k_ ≠ gb1429) ∧ some k_ ≠ (.slice Ao36 y1430.length co36 : Value).ownBlock)) _ _ l0_1 t1434 _ ?side1 A6.out).mono ?_); (case side1 => exact HO0_1.out); rintro e w39 ⟨v1435, rfl, ho0, hb⟩; refine ⟨_, rfl, ?_⟩; replace HO0_1 := zA (kG (zPV HO0_1.out) hb); replace HO1 := zA (kG (zPV HO1.out) hb); replace HO2 := zA (kG (zPV HO2.out) hb); have HO1436 := zA (jM (kN (ok' := fun k_ => ((P0_1_ k_ ∨ P1_ k_ ∨ P2_ k_) ∨ w.heap.size ≤ k_) ∧ some k_ ≠ (.slice Ao36 y1430.length co36 : Value).ownBlock ∧ k_ ≠ gb1429) ho0 (fun k_ hk_ => ⟨Or.elim hk_ (fun hs_ => hs_.1.1) (fun hn_ => (.inr (Nat.le_trans (kP (zT HB.out GE1429.out)) hn_))), Or.elim hk_ (fun hs_ => hs_.2) (fun hn_ => (jF (jA (zPN HO1432.out)) k_ hn_)), Or.elim hk_ (fun hs_ => hs_.1.2) (fun hn_ => (jE (g := gb1429) (o := .cells #[.int .i64 a0_0, .slice A0_1 l0_1.length c0_1] 26 (0, 0)) (zR BK1429.out) k_ hn_))⟩)) (kP (zT HB.out GE1429.out))); replace HO1432 := zA (kZ (zPN HO1432.out) hb); replace BK1429 := zA (zB1 BK1429.out hb); replace HB := zA (kQ (zT HB.out GE1429.out) hb); (try clear hb); (try clear ho0); obtain ⟨Ao40, co40, eo40⟩ := Kd.V_slice HO1436.out; subst eo40) | (refine zO (some 24) Tryd.func120 #[.slice Ao40 t1434.length co40, .slice A1 l1.length c1, .slice A2 l2.length c2] ?_; (with_reducible refine (impl_ties_residual.calls k _ _ t1434 (fun k_ => ((((P0_1_ k_ ∨ P1_ k_ ∨ P2_ k_) ∨ w.heap.size ≤ k_) ∧ k_ ≠ gb1429) ∧ some k_ ≠ (.slice Ao36 y1430.length co36 : Value).ownBlock)) _ _ l1 (fun k_ => ((((P0_1_ k_ ∨ P1_ k_ ∨ P2_ k_) ∨ w.heap.size ≤ k_) ∧ k_ ≠ gb1429) ∧ some k_ ≠ (.slice Ao36 y1430.length co36 : Value).ownBlock)) _ _ l2 t1437 false _ ?side1 ?side2 ?side3 ?side4 ?side5 A7.out).mono ?_); (case side1 => exact zS (kJ HO1436.out).2.2); (case side2 => exact (kJ HO1436.out).2.1); (case side3 => exact HO1.out); (case side4 => exact HO2.out); (case side5 => exact TabW.below HT.out (zT HB.out GE1429.out)); rintro e w41 ⟨v1438, rfl, ho0, hb⟩; refine ⟨_, rfl, ?_⟩; replace HO0_1 := zA (kG (zPV HO0_1.out) hb); replace HO1 := zA (kG (zPV HO1.out) hb); replace HO2 := zA (kG (zPV HO2.out) hb); replace HO1436 := zA (kG (zPV HO1436.out) hb); have HO1439 := zA (jM (kN (ok' := fun k_ => ((P0_1_ k_ ∨ P1_ k_ ∨ P2_ k_) ∨ w.heap.size ≤ k_) ∧ some k_ ≠ (.slice Ao36 y1430.length co36 : Value).ownBlock ∧ k_ ≠ gb1429) ho0 (fun k_ hk_ => ⟨Or.elim hk_ (fun hs_ => Or.elim hs_ (fun hs_ => hs_.1.1) (fun hs_ => hs_.1.1)) (fun hn_ => (.inr (Nat.le_trans (kP (zT HB.out GE1429.out)) hn_))), Or.elim hk_ (fun hs_ => Or.elim hs_ (fun hs_ => hs_.2) (fun hs_ => hs_.2)) (fun hn_ => (jF (jA (zPN HO1432.out)) k_ hn_)), Or.elim hk_ (fun hs_ => Or.elim hs_ (fun hs_ => hs_.1.2) (fun hs_ => hs_.1.2)) (fun hn_ => (jE (g := gb1429) (o := .cells #[.int .i64 a0_0, .slice A0_1 l0_1.length c0_1] 26 (0, 0)) (zR BK1429.out) k_ hn_))⟩)) (kP (zT HB.out GE1429.out))); replace HO1432 := zA (kZ (zPN HO1432.out) hb); replace BK1429 := zA (zB1 BK1429.out hb); replace HB := zA (kQ (zT HB.out GE1429.out) hb); (try clear hb); (try clear ho0)))
  go_ret2
  exact ⟨_, zr, zn, zT HB.out GE1429.out⟩
 rw [if_neg c5] at H
 obtain ⟨c5b0, c5b1⟩ := zT2 c5
 simp only [Option.some.injEq, Prod.mk.injEq] at H
 obtain ⟨rfl, rfl⟩ := H
 go_enter Tryd.func92, Tryd.ntmps92
 go_wp2_with (first | (refine zBE 3 #[.int .i64 a0_0, .slice A0_1 l0_1.length c0_1] 26 ?_; intro gb1429 hg w42 hbox hb; replace HO0_1 := zA (kG (jD (zPV HO0_1.out) gb1429 (Nat.le_of_eq hg.symm)) hb); replace HO1 := zA (kG (jD (zPV HO1.out) gb1429 (Nat.le_of_eq hg.symm)) hb); replace HO2 := zA (kG (jD (zPV HO2.out) gb1429 (Nat.le_of_eq hg.symm)) hb); have BK1429 := zA (hbox); have GW1429 := zA (zBH hg HB.out); have GE1429 := zA (zBH hg HB.out); replace HB := zA (kQ (zQ HB.out) hb); clear hb hbox hg; obtain ⟨hcz43_0, hcz43_1, hfz43_0, hfz43_1⟩ := zB3 BK1429.out) | ((with_reducible refine kS (N := 14) rfl ?_); refine Kd.N_lit (Kd.slice 2 (Kd.int .i64)) _ 24 ?hg (N' := 14) ?hd (xs := ([l1, l2] : List (List Int))) (inner := [.slice A1 l1.length c1, .slice A2 l2.length c2]) (ok := (fun k_ => ((P0_1_ k_ ∨ P1_ k_ ∨ P2_ k_) ∨ w.heap.size ≤ k_) ∧ k_ ≠ gb1429)) (okp := (fun k_ => ((P0_1_ k_ ∨ P1_ k_ ∨ P2_ k_) ∨ w.heap.size ≤ k_) ∧ k_ ≠ gb1429)) ?hr ?hp (fun _ hk => hk) ((show ∀ k_ : Nat, (_ : Nat) ≤ k_ → (fun k_ => ((P0_1_ k_ ∨ P1_ k_ ∨ P2_ k_) ∨ w.heap.size ≤ k_) ∧ k_ ≠ gb1429) k_ from fun k_ hk => ⟨(.inr (Nat.le_trans (kP (zT HB.out GE1429.out)) hk)), jE (g := gb1429) (o := .cells #[.int .i64 a0_0, .slice A0_1 l0_1.length c0_1] 26 (0, 0)) (zR BK1429.out) k_ hk⟩) _ (Nat.le_refl _)) (kW _ _) (Nat.le_refl _) (by simp) ?_; (case hd => rfl); (case hg => rfl); (case hr => first | (go_simp; done) | (go_simp; rfl)); (case hp => exact (Reps.one (show Kd.FK (Kd.slice 2 (Kd.int .i64)) _ _ l1 [.slice A1 l1.length c1] from (zFK (kN (ok' := (fun k_ => ((P0_1_ k_ ∨ P1_ k_ ∨ P2_ k_) ∨ w.heap.size ≤ k_) ∧ k_ ≠ gb1429)) (HO1.out) (fun k_ hk => ⟨hk.1, hk.2⟩)))) (Reps.one (show Kd.FK (Kd.slice 2 (Kd.int .i64)) _ _ l2 [.slice A2 l2.length c2] from (zFK (kN (ok' := (fun k_ => ((P0_1_ k_ ∨ P1_ k_ ∨ P2_ k_) ∨ w.heap.size ≤ k_) ∧ k_ ≠ gb1429)) (HO2.out) (fun k_ hk => ⟨hk.1, hk.2⟩)))) (Reps.none _ _)))); intro v1431 w44 ho45 hb hg_ hnew_; clear hg_ hnew_; (first | rw [← Ny1430.out] at ho45 | (simp only [Int.reduceToNat] at ho45; rw [← Ny1430.out] at ho45)); replace HO0_1 := zA (kK (zPV HO0_1.out) (Kd.N_base ho45) hb); replace HO1 := zA (kK (zPV HO1.out) (Kd.N_base ho45) hb); replace HO2 := zA (kK (zPV HO2.out) (Kd.N_base ho45) hb); have HO1432 := zA (jN ho45 (kP (zT HB.out GE1429.out))); replace BK1429 := zA (zB1 BK1429.out hb); replace HB := zA (kQ (zT HB.out GE1429.out) hb); clear hb ho45; obtain ⟨Ao46, co46, eo46⟩ := Kd.N_slice HO1432.out; subst eo46) | (refine zO (some 15) Tryd.func49 #[.agg #[.int .i64 a0_0, .slice A0_1 l0_1.length c0_1], .slice Ao46 y1430.length co46] ?_; (with_reducible refine (impl_checkWords.calls k a0_0 _ _ l0_1 _ _ y1430 t1433 _ ?side1 ?side2 ?side3 ?side4 ?side5 A4.out).mono ?_); (case side1 => exact zS (kJ HO0_1.out).2.2); (case side2 => exact (kJ HO0_1.out).2.1); (case side3 => exact zS (Kd.N_reads' HO1432.out).2.2); (case side4 => exact (Kd.N_reads' HO1432.out).2.1); (case side5 => exact TabW.below HT.out (zT HB.out GE1429.out)); rintro e w47 ⟨rfl, hb⟩; refine ⟨_, rfl, ?_⟩; replace HO0_1 := zA (kG (zPV HO0_1.out) hb); replace HO1 := zA (kG (zPV HO1.out) hb); replace HO2 := zA (kG (zPV HO2.out) hb); replace HO1432 := zA (kZ (zPN HO1432.out) hb); replace BK1429 := zA (zB1 BK1429.out hb); replace HB := zA (kQ (zT HB.out GE1429.out) hb); (try clear hb)))
 go_ret2
 exact ⟨_, zr, zn, zT HB.out GE1429.out⟩
mutual
def spec_l05Meet.l0 : Nat → List Int → List Int → List Int → Bool → Int → List Int → Option (List Int)
 | 0, _, _, _, _, _, _ => none
 | k + 1, x7, x8, x9, x10, x1453000, x1453001 => if x10 = true then (spec_l05Meet.l1 k x7 x8 x9 false 0 x1453000 x1453001) else (some x7)
def spec_l05Meet.l1 : Nat → List Int → List Int → List Int → Bool → Int → Int → List Int → Option (List Int)
 | 0, _, _, _, _, _, _, _ => none
 | k + 1, x7, x8, x9, x10, x11, x1453000, x1453001 => if x11 < x1453000 then ((spec_l03First.f k x1453000 x1453001 x8 x11).bind fun t1462 => ((spec_l03First.f k x1453000 x1453001 x9 x11).bind fun t1463 => (if t1462 ≥ 0 then (spec_l05Meet.j2 k x7 x8 x9 x10 x11 t1462 t1463 (decide (t1463 ≥ 0)) x1453000 x1453001) else (spec_l05Meet.j2 k x7 x8 x9 x10 x11 t1462 t1463 false x1453000 x1453001)))) else (spec_l05Meet.l0 k x7 x8 x9 x10 x1453000 x1453001)
def spec_l05Meet.j2 : Nat → List Int → List Int → List Int → Bool → Int → Int → Int → Bool → Int → List Int → Option (List Int)
 | 0, _, _, _, _, _, _, _, _, _, _ => none
 | k + 1, x7, x8, x9, x10, x11, x12, x13, x39, x1453000, x1453001 => if x39 = true then (if x7.length < 17592186044416 then ((spec_l03Without.f x8 x12).bind fun t1467 => ((spec_l03Without.f x9 x13).bind fun t1470 => (spec_l05Meet.l1 k (x7 ++ [x11]) t1467 t1470 true (wrap64 (x11 + 1)) x1453000 x1453001))) else (none)) else (spec_l05Meet.l1 k x7 x8 x9 x10 (wrap64 (x11 + 1)) x1453000 x1453001)
end
def spec_l05Meet.f (k : Nat) (a0_0 : Int) (l0_1 : List Int) (l1 : List Int) (l2 : List Int) : Option (List Int) := (spec_l01Own.f l1).bind fun t1456 => ((spec_l01Own.f l2).bind fun t1459 => (spec_l05Meet.l0 k (([] : List Int)) t1456 t1459 true a0_0 l0_1))
def spec_l05Meet.T8 : Bool × List (List Nat × List Nat) := (true, [([], []), ([], []), ([], []), ([0, 1, 2], [0, 1, 2]), ([], []), ([], []), ([], []), ([4, 5, 6, 3], [4, 5, 6]), ([3, 7, 0, 1, 2, 3], [3]), ([7, 8, 0, 1, 2, 3, 4, 5, 6, 7, 8], [7])])
def spec_l05Meet.B8 : List Nat := [0, 0, 0, 7, 0, 0, 0, 127, 255, 511]
theorem spec_l05Meet.tab8 : rtab .any (opsOf Tryd.f121 8) = spec_l05Meet.T8 := by kernel_rfl
theorem spec_l05Meet.bits8 : waitsOk spec_l05Meet.T8.2 spec_l05Meet.B8 = true := by kernel_rfl
set_option maxHeartbeats 8000000 in
set_option maxRecDepth 100000 in
theorem spec_l05Meet.calls (k : Nat) (a0_0 : Int) (A0_1 : Option Addr) (c0_1 : Nat) (l0_1 : List Int) (A1 : Option Addr) (c1 : Nat) (l1 : List Int) (A2 : Option Addr) (c2 : Nat) (l2 : List Int) (r : List Int) (w : World) (hr0_1 : Kd.C (Kd.int .i64) w A0_1 l0_1.length l0_1) (hc0_1 : l0_1.length ≤ c0_1) (hr1 : Kd.C (Kd.int .i64) w A1 l1.length l1) (hc1 : l1.length ≤ c1) (hr2 : Kd.C (Kd.int .i64) w A2 l2.length l2) (hc2 : l2.length ≤ c2) (h : spec_l05Meet.f k a0_0 l0_1 l1 l2 = some r) :
  Calls Tryd.prog 121 #[.agg #[.int .i64 a0_0, .slice A0_1 l0_1.length c0_1], .slice A1 l1.length c1, .slice A2 l2.length c2] w fun e w' => ∃ v0_ : Value, e = .returned (v0_) ∧ Kd.R (Kd.int .i64) 2 w' w.heap.size (fun _ => True) v0_ r ∧ Below w.heap.size w w' := by
 have hu26 := Tryd.underlying26
 have HR0_1 := zA hr0_1
 have HC0_1 := zA hc0_1
 clear hr0_1 hc0_1
 have HR1 := zA hr1
 have HC1 := zA hc1
 clear hr1 hc1
 have HR2 := zA hr2
 have HC2 := zA hc2
 clear hr2 hc2
 have HB := zA (kW w.heap.size w)
 have H := h
 unfold spec_l05Meet.f at H
 clear h
 obtain ⟨y1453, hy1453⟩ : ∃ y_ : List Int, y_ = (([] : List Int)) := ⟨_, rfl⟩
 replace H : ((spec_l01Own.f l1).bind fun t1456 => ((spec_l01Own.f l2).bind fun t1459 => (spec_l05Meet.l0 k y1453 t1456 t1459 true a0_0 l0_1))) = some r := zy hy1453 H
 have Ny1453 := zA hy1453
 clear hy1453
 obtain ⟨t1456, A4, H⟩ := zb H
 try dsimp only at H
 obtain ⟨t1459, A5, H⟩ := zb H
 try dsimp only at H
 have H' := zA H
 clear H
 go_enter Tryd.func121, Tryd.ntmps121
 go_wp2_with (first | (refine zBE 3 #[.int .i64 a0_0, .slice A0_1 l0_1.length c0_1] 26 ?_; intro gb1452 hg w6 hbox hb; have BK1452 := zA (hbox); have GW1452 := zA (zBH hg HB.out); have GE1452 := zA (zBH hg HB.out); replace HB := zA (kQ (zQ HB.out) hb); clear hb hbox hg) | ((with_reducible refine kS (N := 14) rfl ?_); refine Kd.R_lit (Kd.int .i64) _ 2 ?hg (N := 14) ?hd (xs := ([] : List Int)) (inner := []) (ok := fun _ => True) (okp := fun _ => True) ?hr ?hp (fun _ hk => hk) trivial (kW _ _) (Nat.le_refl _) (by simp) ?_; (case hd => rfl); (case hg => rfl); (case hr => first | (go_simp; done) | (go_simp; rfl)); (case hp => exact (Reps.none _ _)); intro v1454 w7 ho8 hb hg_ hnew_; clear hg_ hnew_; (first | rw [← Ny1453.out] at ho8 | (simp only [Int.reduceToNat] at ho8; rw [← Ny1453.out] at ho8)); have HO1455 := zA (kI ho8 (kP (zT HB.out GE1452.out))); replace BK1452 := zA (zB1 BK1452.out hb); replace HB := zA (kQ (zT HB.out GE1452.out) hb); clear hb ho8) | (refine zO (some 16) Tryd.func76 #[.slice A1 l1.length c1] ?_; (with_reducible refine (spec_l01Own.calls _ _ l1 t1456 _ ?side1 ?side2 A4.out).mono ?_); (case side1 => exact zS (kO HR1.out HB.out)); (case side2 => exact HC1.out); rintro e w9 ⟨v1457, rfl, ho0, hb⟩; refine ⟨_, rfl, ?_⟩; have HO1458 := zA (kI (kF ho0 (kH (zP HO1455.out))) (kP (zT HB.out GE1452.out))); replace HO1455 := zA (kE (zP HO1455.out) (kC ho0) hb); replace BK1452 := zA (zB1 BK1452.out hb); replace HB := zA (kQ (zT HB.out GE1452.out) hb); (try clear hb); (try clear ho0)) | (refine zO (some 18) Tryd.func76 #[.slice A2 l2.length c2] ?_; (with_reducible refine (spec_l01Own.calls _ _ l2 t1459 _ ?side1 ?side2 A5.out).mono ?_); (case side1 => exact zS (kO HR2.out HB.out)); (case side2 => exact HC2.out); rintro e w10 ⟨v1460, rfl, ho0, hb⟩; refine ⟨_, rfl, ?_⟩; have HO1461 := zA (kI (kF (kF ho0 (kH (zP HO1455.out))) (kH (zP HO1458.out))) (kP (zT HB.out GE1452.out))); replace HO1455 := zA (kE (zP HO1455.out) (kC ho0) hb); replace HO1458 := zA (kE (zP HO1458.out) (kC ho0) hb); replace BK1452 := zA (zB1 BK1452.out hb); replace HB := zA (kQ (zT HB.out GE1452.out) hb); (try clear hb); (try clear ho0)))
 go_loopg [7, 8, 9, 10] k (fun kq v7 v8 v9 v10 w' => ∃ (x7_1 : List Int) (x8_1 : List Int) (x9_1 : List Int) (x10_1 : Bool), v10 = .bool x10_1 ∧ Aside0 (spec_l05Meet.l0 kq x7_1 x8_1 x9_1 x10_1 a0_0 l0_1 = some r) ∧ Aside0 (kq ≤ k) ∧ Aside0 (Kd.R (Kd.int .i64) 2 w' w.heap.size (fun k_ => some k_ ≠ (v8 : Value).ownBlock ∧ some k_ ≠ (v9 : Value).ownBlock) v7 x7_1) ∧ Aside0 (Kd.R (Kd.int .i64) 2 w' w.heap.size (fun k_ => some k_ ≠ (v7 : Value).ownBlock ∧ some k_ ≠ (v9 : Value).ownBlock) v8 x8_1) ∧ Aside0 (Kd.R (Kd.int .i64) 2 w' w.heap.size (fun k_ => some k_ ≠ (v7 : Value).ownBlock ∧ some k_ ≠ (v8 : Value).ownBlock) v9 x9_1) ∧ Aside0 (w'.heap[gb1452]? = some (.cells #[.int .i64 a0_0, (.slice A0_1 l0_1.length c0_1)] 26 (0, 0))) ∧ Aside0 (Below w.heap.size w w'))
 case atStart => exact ⟨(y1453), (t1456), (t1459), (true), zs, H', ⟨Nat.le_refl _⟩, ⟨zPM HO1455.out (fun _ hk => ⟨hk.1.2, hk.2⟩)⟩, ⟨zPM HO1458.out (fun _ hk => ⟨hk.1.2, hk.2⟩)⟩, ⟨zPM HO1461.out (fun _ hk => ⟨hk.1.2, hk.2⟩)⟩, ⟨zR BK1452.out⟩, ⟨zT HB.out GE1452.out⟩⟩
 case round =>
  clear H'
  try clear c1
  try clear c2
  try clear c7
  obtain ⟨x7_1, x8_1, x9_1, x10_1, rfl, HA, HK1, HO_7, HO_8, HO_9, BK1452, HB⟩ := hrel
  cases gk with
  | zero => exact absurd HA.out (by simp [spec_l05Meet.l0])
  | succ k1 =>
   have H := HA.out
   clear HA
   simp only [spec_l05Meet.l0] at H
   by_cases c11 : x10_1 = true
   ·subst c11
    rw [if_pos rfl] at H
    have H' := zA H
    clear H
    go_wp2
    go_loopg [7, 8, 9, 10, 11] k1 (fun kq v7 v8 v9 v10 v11 w' => ∃ (x7_2 : List Int) (x8_2 : List Int) (x9_2 : List Int) (x10_2 : Bool) (x11_2 : Int), v10 = .bool x10_2 ∧ v11 = .int .i64 x11_2 ∧ Aside0 (spec_l05Meet.l1 kq x7_2 x8_2 x9_2 x10_2 x11_2 a0_0 l0_1 = some r) ∧ Aside0 (kq ≤ k1) ∧ Aside0 (Kd.R (Kd.int .i64) 2 w' w.heap.size (fun k_ => some k_ ≠ (v8 : Value).ownBlock ∧ some k_ ≠ (v9 : Value).ownBlock) v7 x7_2) ∧ Aside0 (Kd.R (Kd.int .i64) 2 w' w.heap.size (fun k_ => some k_ ≠ (v7 : Value).ownBlock ∧ some k_ ≠ (v9 : Value).ownBlock) v8 x8_2) ∧ Aside0 (Kd.R (Kd.int .i64) 2 w' w.heap.size (fun k_ => some k_ ≠ (v7 : Value).ownBlock ∧ some k_ ≠ (v8 : Value).ownBlock) v9 x9_2) ∧ Aside0 (w'.heap[gb1452]? = some (.cells #[.int .i64 a0_0, (.slice A0_1 l0_1.length c0_1)] 26 (0, 0))) ∧ Aside0 (Below w.heap.size w w'))
    case atStart => exact ⟨(x7_1), (x8_1), (x9_1), (false), (0), zs, zs, H', ⟨Nat.le_refl _⟩, ⟨zP HO_7.out⟩, ⟨zP HO_8.out⟩, ⟨zP HO_9.out⟩, ⟨zR BK1452.out⟩, ⟨zT HB.out GE1452.out⟩⟩
    case round =>
     clear H'
     try clear c1
     try clear c2
     try clear c7
     try clear c11
     obtain ⟨x7_2, x8_2, x9_2, x10_2, x11_2, rfl, rfl, HA, HK2, HO_7, HO_8, HO_9, BK1452, HB⟩ := hrel
     cases gk with
     | zero => exact absurd HA.out (by simp [spec_l05Meet.l1])
     | succ k2 =>
      have H := HA.out
      clear HA
      simp only [spec_l05Meet.l1] at H
      by_cases c12 : x11_2 < a0_0
      ·rw [if_pos c12] at H
       have c12b0 : decide (x11_2 < a0_0) = true := decide_eq_true c12
       clear c12
       obtain ⟨t1462, A13, H⟩ := zb H
       try dsimp only at H
       obtain ⟨t1463, A14, H⟩ := zb H
       try dsimp only at H
       have HC15 := zA H
       clear H
       obtain ⟨hcz16_0, hcz16_1, hfz16_0, hfz16_1⟩ := zB3 BK1452.out
       try go_wp2
       replace HO_7 := zA (zH HO_7.out)
       replace HO_8 := zA (zH HO_8.out)
       replace HO_9 := zA (zH HO_9.out)
       replace BK1452 := zA (zK BK1452.out)
       replace HB := zA (zD HB.out)
       obtain ⟨Ao18, co18, eo18⟩ := kM HO_8.out
       (first | subst eo18 | (injection eo18 with f1_ f2_ f3_; have f4_ := f1_.symm; have f5_ := f3_.symm; clear f1_ f2_ f3_; subst f4_; subst f5_))
       refine start_ (n := 10) (S := fun w' => w'.cell? ⟨gb1452, 0, none⟩ = some (.int .i64 a0_0) ∧ w'.cell? ⟨gb1452, 1, none⟩ = some (.slice A0_1 l0_1.length c0_1)) (ds := []) #[false, false, false, false, false, false, false, false, false, false] (by kernel_rfl) rfl rfl ⟨(kV BK1452.out 0).trans rfl, (kV BK1452.out 1).trans rfl⟩ (fun hHeld => ?_); refine with_tabW spec_l05Meet.tab8 spec_l05Meet.bits8 (fun HT_ HW_ => ?_)
       generalize wr.drew = w17 at HO_7 HO_8 HO_9 BK1452 HB hHeld ⊢
       refine zp 1 (some 27) #[false, true, false, false, false, false, false, false, false, false] HT_.out ?_
       refine zp 2 (some 28) #[false, true, true, false, false, false, false, false, false, false] HT_.out ?_
       refine zp 5 (some 31) #[false, true, true, false, false, true, false, false, false, false] HT_.out ?_
       refine zp 6 (some 32) #[false, true, true, false, false, true, true, false, false, false] HT_.out ?_
       refine zc 0 (some 26) #[true, true, true, false, false, true, true, false, false, false] HT_.out HW_.out hHeld ?_
       refine zc 4 (some 30) #[true, true, true, false, true, true, true, false, false, false] HT_.out HW_.out hHeld ?_
       refine one_ (i := 3) (N := some 29) #[true, true, true, true, true, true, true, false, false, false] rfl rfl (one_of HT_.out (by kernel_rfl)) (by decide) (fun K hK => ?_)
       refine goes_ Tryd.func53 (by kernel_rfl) rfl #[.agg #[.int .i64 a0_0, .slice A0_1 l0_1.length c0_1], .slice Ao18 x8_2.length co18, .int .i64 x11_2] (by rfl) rfl rfl zg ?_
       with_reducible refine (spec_l03First.calls k2 a0_0 _ _ l0_1 _ _ x8_2 x11_2 t1462 _ ?side1 ?side2 ?side3 ?side4 A13.out).mono ?_
       (case side1 => exact zS (kO HR0_1.out HB.out))
       (case side2 => exact HC0_1.out)
       (case side3 => exact zS (kB HO_8.out).2.2)
       (case side4 => exact (kB HO_8.out).2.1)
       rintro e w19 ⟨rfl, hb⟩
       refine ⟨_, rfl, ?_⟩
       replace HO_7 := zA (kL (zP HO_7.out) hb)
       replace HO_8 := zA (kL (zP HO_8.out) hb)
       replace HO_9 := zA (kL (zP HO_9.out) hb)
       replace BK1452 := zA (zB1 BK1452.out hb)
       replace HB := zA (kQ (zT HB.out GE1452.out) hb)
       (try clear hb)
       (try clear hb2)
       (try clear hk)
       (try clear hi)
       (try clear hgw)
       obtain ⟨Ao20, co20, eo20⟩ := kM HO_9.out
       (first | subst eo20 | (injection eo20 with f1_ f2_ f3_; have f4_ := f1_.symm; have f5_ := f3_.symm; clear f1_ f2_ f3_; subst f4_; subst f5_))
       refine hK.out _ _ ⟨(kV BK1452.out 0).trans rfl, (kV BK1452.out 1).trans rfl⟩ (fun hHeld => ?_)
       clear hK K
       refine norm_ (a' := ?_) ?_ ?_
       rotate_left
       ·show Act.put _ (some 29) _ = _
        simp only [Act.put, zL, zM, zN, i64_w, i32_w]
        rfl
       refine one_ (i := 7) (N := some 33) #[true, true, true, true, true, true, true, true, false, false] rfl rfl (one_of HT_.out (by kernel_rfl)) (by decide) (fun K hK => ?_)
       refine goes_ Tryd.func53 (by kernel_rfl) rfl #[.agg #[.int .i64 a0_0, .slice A0_1 l0_1.length c0_1], .slice Ao20 x9_2.length co20, .int .i64 x11_2] (by rfl) rfl rfl zg ?_
       with_reducible refine (spec_l03First.calls k2 a0_0 _ _ l0_1 _ _ x9_2 x11_2 t1463 _ ?side1 ?side2 ?side3 ?side4 A14.out).mono ?_
       (case side1 => exact zS (kO HR0_1.out HB.out))
       (case side2 => exact HC0_1.out)
       (case side3 => exact zS (kB HO_9.out).2.2)
       (case side4 => exact (kB HO_9.out).2.1)
       rintro e w21 ⟨rfl, hb⟩
       refine ⟨_, rfl, ?_⟩
       replace HO_7 := zA (kL (zP HO_7.out) hb)
       replace HO_8 := zA (kL (zP HO_8.out) hb)
       replace HO_9 := zA (kL (zP HO_9.out) hb)
       replace BK1452 := zA (zB1 BK1452.out hb)
       replace HB := zA (kQ (zT HB.out GE1452.out) hb)
       (try clear hb)
       (try clear hb2)
       (try clear hk)
       (try clear hi)
       (try clear hgw)
       refine hK.out _ _ ⟨(kV BK1452.out 0).trans rfl, (kV BK1452.out 1).trans rfl⟩ (fun hHeld => ?_)
       clear hK K
       refine norm_ (a' := ?_) ?_ ?_
       rotate_left
       ·show Act.put _ (some 33) _ = _
        simp only [Act.put, zL, zM, zN, i64_w, i32_w]
        rfl
       refine zp 8 (some 12) #[true, true, true, true, true, true, true, true, true, false] HT_.out ?_
       refine zp 9 (some 13) #[true, true, true, true, true, true, true, true, true, true] HT_.out ?_
       refine done_ (done_of HT_.out (by kernel_rfl)) ?_
       go_upto_region 9 with (fail)
       go_cut [39] (fun v39 wc => ∃ (kq : Nat) (x39_14 : Bool), v39 = .bool x39_14 ∧ Aside0 (spec_l05Meet.j2 kq x7_2 x8_2 x9_2 x10_2 x11_2 t1462 t1463 x39_14 a0_0 l0_1 = some r) ∧ Aside0 (kq ≤ k2) ∧ Aside0 (Kd.R (Kd.int .i64) 2 wc w.heap.size (fun k_ => some k_ ≠ ((.slice Ao18 x8_2.length co18) : Value).ownBlock ∧ some k_ ≠ ((.slice Ao20 x9_2.length co20) : Value).ownBlock) u7 x7_2) ∧ Aside0 (Kd.R (Kd.int .i64) 2 wc w.heap.size (fun k_ => some k_ ≠ (u7 : Value).ownBlock ∧ some k_ ≠ ((.slice Ao20 x9_2.length co20) : Value).ownBlock) (.slice Ao18 x8_2.length co18) x8_2) ∧ Aside0 (Kd.R (Kd.int .i64) 2 wc w.heap.size (fun k_ => some k_ ≠ (u7 : Value).ownBlock ∧ some k_ ≠ ((.slice Ao18 x8_2.length co18) : Value).ownBlock) (.slice Ao20 x9_2.length co20) x9_2) ∧ Aside0 (wc.heap[gb1452]? = some (.cells #[.int .i64 a0_0, (.slice A0_1 l0_1.length c0_1)] 26 (0, 0))) ∧ Aside0 (Below w.heap.size w wc))
       case first =>
        have H := HC15.out
        clear HC15
        by_cases c22 : t1462 ≥ 0
        ·rw [if_pos c22] at H
         have c22b0 : decide (0 ≤ t1462) = true := decide_eq_true c22
         clear c22
         (first | rw [c22b0] | (simp only [i64_w, i32_w]; rw [c22b0]) | skip)
         have H' := zA H
         clear H
         go_wp2
         go_meet
         case rel => exact ⟨_, (decide (t1463 ≥ 0)), zs, H', ⟨by have := HK1.out; have := HK2.out; first | omega | exact Nat.le_refl _⟩, ⟨zP HO_7.out⟩, ⟨zP HO_8.out⟩, ⟨zP HO_9.out⟩, ⟨zR BK1452.out⟩, ⟨zT HB.out GE1452.out⟩⟩
        rw [if_neg c22] at H
        have c22b0 : decide (0 ≤ t1462) = false := decide_eq_false c22
        clear c22
        (first | rw [c22b0] | (simp only [i64_w, i32_w]; rw [c22b0]) | skip)
        have H' := zA H
        clear H
        go_wp2
        go_meet
        case rel => exact ⟨_, (false), zs, H', ⟨by have := HK1.out; have := HK2.out; first | omega | exact Nat.le_refl _⟩, ⟨zP HO_7.out⟩, ⟨zP HO_8.out⟩, ⟨zP HO_9.out⟩, ⟨zR BK1452.out⟩, ⟨zT HB.out GE1452.out⟩⟩
       case rest =>
        clear HC15
        try clear c1
        try clear c2
        try clear c5
        try clear c7
        try clear c11
        try clear c12
        try clear c22
        try clear hcz16_0
        try clear hcz16_1
        try clear hfz16_0
        try clear hfz16_1
        obtain ⟨kq, x39_14, rfl, HA, HJ14, HO_7, HO_8, HO_9, BK1452, HB⟩ := hcut
        cases kq with
        | zero => exact absurd HA.out (by simp [spec_l05Meet.j2])
        | succ kj14 =>
         have H := HA.out
         clear HA
         simp only [spec_l05Meet.j2] at H
         by_cases c23 : x39_14 = true
         ·subst c23
          rw [if_pos rfl] at H
          by_cases c24 : x7_2.length < 17592186044416
          ·rw [if_pos c24] at H
           have LMc24 := zA c24
           clear c24
           obtain ⟨y1464, hy1464⟩ : ∃ y_ : List Int, y_ = (x7_2 ++ [x11_2]) := ⟨_, rfl⟩
           replace H : ((spec_l03Without.f x8_2 t1462).bind fun t1467 => ((spec_l03Without.f x9_2 t1463).bind fun t1470 => (spec_l05Meet.l1 kj14 y1464 t1467 t1470 true (wrap64 (x11_2 + 1)) a0_0 l0_1))) = some r := zy hy1464 H
           have Ny1464 := zA hy1464
           clear hy1464
           obtain ⟨t1467, A25, H⟩ := zb H
           try dsimp only at H
           obtain ⟨t1470, A26, H⟩ := zb H
           try dsimp only at H
           have H' := zA H
           clear H
           go_wp2_with (first | ((with_reducible refine gate_builtin (b := .append) (xs := #[.tmp 40, .tmp 42]) rfl ?_); at_builtin; refine Kd.R_append (Kd.int .i64) (w0 := w) w.heap.size rfl (.tmp 40) (.tmp 42) 24 2 (.int .i64 0) 8 rfl Tryd.underlying24 info2 rfl (by decide) (by omega) u7 x7_2 x11_2 [.int .i64 x11_2] (fun k_ => some k_ ≠ (.slice Ao18 x8_2.length co18 : Value).ownBlock ∧ some k_ ≠ (.slice Ao20 x9_2.length co20 : Value).ownBlock) (fun _ => False) rfl rfl ?aP (fun _ hk => hk.elim) ?aF ?aO ?aB ?aS ?aL ?_; (case aP => exact rfl); (case aB => exact (zT HB.out GE1452.out)); (case aF => exact (fun k_ hk => ⟨jF (kH (zP HO_8.out)) k_ hk, jF (kH (zP HO_9.out)) k_ hk⟩)); (case aO => exact (zP HO_7.out)); (case aS => exact (kP (zT HB.out GE1452.out))); (case aL => have := LMc24.out; omega); intro v1465 w27 ho hb hg hat; rw [← Ny1464.out] at ho; replace HO_8 := zA (Kd.R_after (ok := (fun k_ => some k_ ≠ (.slice Ao20 x9_2.length co20 : Value).ownBlock)) (by (with_reducible repeat (first | apply zF | apply zG | apply zH)); exact kA HO_8.out (fun _ hk => ⟨hk.2, hk.1⟩)) hg hat); replace HO_9 := zA (Kd.R_after (ok := (fun k_ => some k_ ≠ (.slice Ao18 x8_2.length co18 : Value).ownBlock)) (by (with_reducible repeat (first | apply zF | apply zG | apply zH)); exact kA HO_9.out (fun _ hk => ⟨hk.2, hk.1⟩)) hg hat); replace BK1452 := zA (blk_grown (g := gb1452) (o := .cells #[.int .i64 a0_0, .slice A0_1 l0_1.length c0_1] 26 (0, 0)) (zR BK1452.out) hg (Kd.R_ne HO_7.out BK1452.out (by decide))); replace HB := zA (hb); have HO1466 := zA (ho); clear HO_7; clear ho hb hg hat) | (refine zO (some 46) Tryd.func114 #[.slice Ao18 x8_2.length co18, .int .i64 t1462] ?_; (with_reducible refine (spec_l03Without.calls _ _ x8_2 t1462 t1467 _ ?side1 ?side2 A25.out).mono ?_); (case side1 => exact zS (kB HO_8.out).2.2); (case side2 => exact (kB HO_8.out).2.1); rintro e w28 ⟨v1468, rfl, ho0, hb⟩; refine ⟨_, rfl, ?_⟩; have HO1469 := zA (kI (kF (kF (kF ho0 (kH (zP HO_8.out))) (kH (zP HO_9.out))) (kH (zP HO1466.out))) (kP (zT HB.out GE1452.out))); replace HO_8 := zA (kE (zP HO_8.out) (kC ho0) hb); replace HO_9 := zA (kE (zP HO_9.out) (kC ho0) hb); replace HO1466 := zA (kE (zP HO1466.out) (kC ho0) hb); replace BK1452 := zA (zB1 BK1452.out hb); replace HB := zA (kQ (zT HB.out GE1452.out) hb); (try clear hb); (try clear ho0)) | (refine zO (some 49) Tryd.func114 #[.slice Ao20 x9_2.length co20, .int .i64 t1463] ?_; (with_reducible refine (spec_l03Without.calls _ _ x9_2 t1463 t1470 _ ?side1 ?side2 A26.out).mono ?_); (case side1 => exact zS (kB HO_9.out).2.2); (case side2 => exact (kB HO_9.out).2.1); rintro e w29 ⟨v1471, rfl, ho0, hb⟩; refine ⟨_, rfl, ?_⟩; have HO1472 := zA (kI (kF (kF (kF (kF ho0 (kH (zP HO_8.out))) (kH (zP HO_9.out))) (kH (zP HO1466.out))) (kH (zP HO1469.out))) (kP (zT HB.out GE1452.out))); replace HO_8 := zA (kE (zP HO_8.out) (kC ho0) hb); replace HO_9 := zA (kE (zP HO_9.out) (kC ho0) hb); replace HO1466 := zA (kE (zP HO1466.out) (kC ho0) hb); replace HO1469 := zA (kE (zP HO1469.out) (kC ho0) hb); replace BK1452 := zA (zB1 BK1452.out hb); replace HB := zA (kQ (zT HB.out GE1452.out) hb); (try clear hb); (try clear ho0)))
           go_roundg kj14
           case measure => have := HK1.out; have := HK2.out; have := HJ14.out; omega
           case rel => exact ⟨(y1464), (t1467), (t1470), (true), (wrap64 (x11_2 + 1)), zs, zs, H', ⟨by have := HK1.out; have := HK2.out; have := HJ14.out; omega⟩, ⟨zPM HO1466.out (fun _ hk => ⟨hk.1.2, hk.2⟩)⟩, ⟨zPM HO1469.out (fun _ hk => ⟨hk.1.2, hk.2⟩)⟩, ⟨zPM HO1472.out (fun _ hk => ⟨hk.1.2, hk.2⟩)⟩, ⟨zR BK1452.out⟩, ⟨zT HB.out GE1452.out⟩⟩
          rw [if_neg c24] at H
          exact absurd H (by simp)
         replace c23 := Bool.eq_false_iff.mpr c23
         subst c23
         rw [if_neg (show ¬ (false = true) by decide)] at H
         have H' := zA H
         clear H
         go_wp2
         go_roundg kj14
         case measure => have := HK1.out; have := HK2.out; have := HJ14.out; omega
         case rel => exact ⟨(x7_2), (x8_2), (x9_2), (x10_2), (wrap64 (x11_2 + 1)), zs, zs, H', ⟨by have := HK1.out; have := HK2.out; have := HJ14.out; omega⟩, ⟨zP HO_7.out⟩, ⟨zP HO_8.out⟩, ⟨zP HO_9.out⟩, ⟨zR BK1452.out⟩, ⟨zT HB.out GE1452.out⟩⟩
      rw [if_neg c12] at H
      have c12b0 : decide (x11_2 < a0_0) = false := decide_eq_false c12
      clear c12
      have H' := zA H
      clear H
      obtain ⟨hcz30_0, hcz30_1, hfz30_0, hfz30_1⟩ := zB3 BK1452.out
      go_wp2
      go_roundg k2
      case measure => have := HK1.out; have := HK2.out; omega
      case rel => exact ⟨(x7_2), (x8_2), (x9_2), (x10_2), zs, H', ⟨by have := HK1.out; have := HK2.out; omega⟩, ⟨zP HO_7.out⟩, ⟨zP HO_8.out⟩, ⟨zP HO_9.out⟩, ⟨zR BK1452.out⟩, ⟨zT HB.out GE1452.out⟩⟩
   replace c11 := Bool.eq_false_iff.mpr c11
   subst c11
   rw [if_neg (show ¬ (false = true) by decide)] at H
   obtain rfl := Option.some.inj H
   go_wp2
   go_ret
   exact ⟨_, zr, by (with_reducible repeat (first | apply zF | apply zG | apply zH)); exact kA HO_7.out (fun _ hk => trivial), zT HB.out GE1452.out⟩
def spec_l05Join.f (k : Nat) (a0_0 : Int) (l0_1 : List Int) (l1 : List Int) (l2 : List Int) : Option (List Int × Bool) := (spec_l05Meet.f k a0_0 l0_1 l1 l2).bind fun t1474 => ((spec_l05Cut.f k a0_0 l0_1 t1474 l1).bind fun bt1477 => ((spec_l05Cut.f k a0_0 l0_1 t1474 l2).bind fun bt1481 => ((spec_l05Independent.f k a0_0 l0_1 bt1477.1 bt1481.1).bind fun t1485 => (if t1485 = true then (if t1474.length + bt1477.1.length < 17592186044416 then ((some (t1474 ++ bt1477.1 : List Int)).bind fun y1486 => (if y1486.length + bt1481.1.length < 17592186044416 then (some ((y1486 ++ bt1481.1), true)) else (none))) else (none)) else (some (([] : List Int), false))))))
set_option maxHeartbeats 8000000 in
set_option maxRecDepth 100000 in
theorem spec_l05Join.calls (k : Nat) (a0_0 : Int) (A0_1 : Option Addr) (c0_1 : Nat) (l0_1 : List Int) (A1 : Option Addr) (c1 : Nat) (l1 : List Int) (A2 : Option Addr) (c2 : Nat) (l2 : List Int) (r1 : List Int) (r2 : Bool) (w : World) (hr0_1 : Kd.C (Kd.int .i64) w A0_1 l0_1.length l0_1) (hc0_1 : l0_1.length ≤ c0_1) (hr1 : Kd.C (Kd.int .i64) w A1 l1.length l1) (hc1 : l1.length ≤ c1) (hr2 : Kd.C (Kd.int .i64) w A2 l2.length l2) (hc2 : l2.length ≤ c2) (h : spec_l05Join.f k a0_0 l0_1 l1 l2 = some (r1, r2)) :
  Calls Tryd.prog 95 #[.agg #[.int .i64 a0_0, .slice A0_1 l0_1.length c0_1], .slice A1 l1.length c1, .slice A2 l2.length c2] w fun e w' => ∃ v0_ : Value, e = .returned (.tuple #[v0_, .bool r2]) ∧ Kd.R (Kd.int .i64) 2 w' w.heap.size (fun _ => True) v0_ r1 ∧ Below w.heap.size w w' := by
 have hu26 := Tryd.underlying26
 have HR0_1 := zA hr0_1
 have HC0_1 := zA hc0_1
 clear hr0_1 hc0_1
 have HR1 := zA hr1
 have HC1 := zA hc1
 clear hr1 hc1
 have HR2 := zA hr2
 have HC2 := zA hc2
 clear hr2 hc2
 have HB := zA (kW w.heap.size w)
 have H := h
 unfold spec_l05Join.f at H
 clear h
 obtain ⟨t1474, A4, H⟩ := zb H
 try dsimp only at H
 obtain ⟨⟨t1477, t1480⟩, A5, H⟩ := zb H
 try dsimp only at H
 obtain ⟨⟨t1481, t1484⟩, A6, H⟩ := zb H
 try dsimp only at H
 obtain ⟨t1485, A7, H⟩ := zb H
 try dsimp only at H
 by_cases c8 : t1485 = true
 ·subst c8
  rw [if_pos rfl] at H
  by_cases c9 : t1474.length + t1477.length < 17592186044416
  ·rw [if_pos c9] at H
   have LMc9 := zA c9
   clear c9
   obtain ⟨y1486, hy1486⟩ : ∃ y_ : List Int, y_ = (t1474 ++ t1477) := ⟨_, rfl⟩
   replace H : (if y1486.length + t1481.length < 17592186044416 then (some ((y1486 ++ t1481), true)) else (none)) = some (r1, r2) := zy hy1486 H
   have Ny1486 := zA hy1486
   clear hy1486
   by_cases c10 : y1486.length + t1481.length < 17592186044416
   ·rw [if_pos c10] at H
    have LMc10 := zA c10
    clear c10
    obtain ⟨y1489, hy1489⟩ : ∃ y_ : List Int, y_ = (y1486 ++ t1481) := ⟨_, rfl⟩
    replace H : (some (y1489, true)) = some (r1, r2) := zy hy1489 H
    have Ny1489 := zA hy1489
    clear hy1489
    simp only [Option.some.injEq, Prod.mk.injEq] at H
    obtain ⟨rfl, rfl⟩ := H
    go_enter Tryd.func95, Tryd.ntmps95
    go_wp2_with (first | (refine zBE 3 #[.int .i64 a0_0, .slice A0_1 l0_1.length c0_1] 26 ?_; intro gb1473 hg w11 hbox hb; have BK1473 := zA (hbox); have GW1473 := zA (zBH hg HB.out); have GE1473 := zA (zBH hg HB.out); replace HB := zA (kQ (zQ HB.out) hb); clear hb hbox hg; obtain ⟨hcz12_0, hcz12_1, hfz12_0, hfz12_1⟩ := zB3 BK1473.out) | (refine zO (some 16) Tryd.func121 #[.agg #[.int .i64 a0_0, .slice A0_1 l0_1.length c0_1], .slice A1 l1.length c1, .slice A2 l2.length c2] ?_; (with_reducible refine (spec_l05Meet.calls k a0_0 _ _ l0_1 _ _ l1 _ _ l2 t1474 _ ?side1 ?side2 ?side3 ?side4 ?side5 ?side6 A4.out).mono ?_); (case side1 => exact zS (kO HR0_1.out HB.out)); (case side2 => exact HC0_1.out); (case side3 => exact zS (kO HR1.out HB.out)); (case side4 => exact HC1.out); (case side5 => exact zS (kO HR2.out HB.out)); (case side6 => exact HC2.out); rintro e w13 ⟨v1475, rfl, ho0, hb⟩; refine ⟨_, rfl, ?_⟩; have HO1476 := zA (kI ho0 (kP (zT HB.out GE1473.out))); replace BK1473 := zA (zB1 BK1473.out hb); replace HB := zA (kQ (zT HB.out GE1473.out) hb); (try clear hb); (try clear ho0); obtain ⟨hcz14_0, hcz14_1, hfz14_0, hfz14_1⟩ := zB3 BK1473.out; obtain ⟨Ao15, co15, eo15⟩ := kM HO1476.out; subst eo15) | (refine zO (some 21) Tryd.func71 #[.agg #[.int .i64 a0_0, .slice A0_1 l0_1.length c0_1], .slice Ao15 t1474.length co15, .slice A1 l1.length c1] ?_; (with_reducible refine (spec_l05Cut.calls k a0_0 _ _ l0_1 _ _ t1474 _ _ l1 t1477 t1480 _ ?side1 ?side2 ?side3 ?side4 ?side5 ?side6 A5.out).mono ?_); (case side1 => exact zS (kO HR0_1.out HB.out)); (case side2 => exact HC0_1.out); (case side3 => exact zS (kB HO1476.out).2.2); (case side4 => exact (kB HO1476.out).2.1); (case side5 => exact zS (kO HR1.out HB.out)); (case side6 => exact HC1.out); rintro e w16 ⟨v1478, rfl, ho0, hb⟩; refine ⟨_, rfl, ?_⟩; have HO1479 := zA (kI (kF ho0 (kH (zP HO1476.out))) (kP (zT HB.out GE1473.out))); replace HO1476 := zA (kE (zP HO1476.out) (kC ho0) hb); replace BK1473 := zA (zB1 BK1473.out hb); replace HB := zA (kQ (zT HB.out GE1473.out) hb); (try clear hb); (try clear ho0); obtain ⟨hcz17_0, hcz17_1, hfz17_0, hfz17_1⟩ := zB3 BK1473.out) | (refine zO (some 28) Tryd.func71 #[.agg #[.int .i64 a0_0, .slice A0_1 l0_1.length c0_1], .slice Ao15 t1474.length co15, .slice A2 l2.length c2] ?_; (with_reducible refine (spec_l05Cut.calls k a0_0 _ _ l0_1 _ _ t1474 _ _ l2 t1481 t1484 _ ?side1 ?side2 ?side3 ?side4 ?side5 ?side6 A6.out).mono ?_); (case side1 => exact zS (kO HR0_1.out HB.out)); (case side2 => exact HC0_1.out); (case side3 => exact zS (kB HO1476.out).2.2); (case side4 => exact (kB HO1476.out).2.1); (case side5 => exact zS (kO HR2.out HB.out)); (case side6 => exact HC2.out); rintro e w18 ⟨v1482, rfl, ho0, hb⟩; refine ⟨_, rfl, ?_⟩; have HO1483 := zA (kI (kF (kF ho0 (kH (zP HO1476.out))) (kH (zP HO1479.out))) (kP (zT HB.out GE1473.out))); replace HO1476 := zA (kE (zP HO1476.out) (kC ho0) hb); replace HO1479 := zA (kE (zP HO1479.out) (kC ho0) hb); replace BK1473 := zA (zB1 BK1473.out hb); replace HB := zA (kQ (zT HB.out GE1473.out) hb); (try clear hb); (try clear ho0); obtain ⟨hcz19_0, hcz19_1, hfz19_0, hfz19_1⟩ := zB3 BK1473.out; obtain ⟨Ao20, co20, eo20⟩ := kM HO1479.out; subst eo20; obtain ⟨Ao21, co21, eo21⟩ := kM HO1483.out; subst eo21) | (refine zO (some 34) Tryd.func67 #[.agg #[.int .i64 a0_0, .slice A0_1 l0_1.length c0_1], .slice Ao20 t1477.length co20, .slice Ao21 t1481.length co21] ?_; (with_reducible refine (spec_l05Independent.calls k a0_0 _ _ l0_1 _ _ t1477 _ _ t1481 true _ ?side1 ?side2 ?side3 ?side4 ?side5 ?side6 A7.out).mono ?_); (case side1 => exact zS (kO HR0_1.out HB.out)); (case side2 => exact HC0_1.out); (case side3 => exact zS (kB HO1479.out).2.2); (case side4 => exact (kB HO1479.out).2.1); (case side5 => exact zS (kB HO1483.out).2.2); (case side6 => exact (kB HO1483.out).2.1); rintro e w22 ⟨rfl, hb⟩; refine ⟨_, rfl, ?_⟩; replace HO1476 := zA (kL (zP HO1476.out) hb); replace HO1479 := zA (kL (zP HO1479.out) hb); replace HO1483 := zA (kL (zP HO1483.out) hb); replace BK1473 := zA (zB1 BK1473.out hb); replace HB := zA (kQ (zT HB.out GE1473.out) hb); (try clear hb)) | ((with_reducible refine gate_builtin (b := .append) (xs := #[.tmp 36, .tmp 37]) rfl ?_); at_builtin; refine Kd.R_append_rows (Kd.int .i64) (w0 := w) w.heap.size rfl (.tmp 36) (.tmp 37) 24 2 (.int .i64 0) 8 rfl Tryd.underlying24 info2 rfl (by decide) (by omega) (.slice Ao15 t1474.length co15) t1474 t1477 _ _ _ (fun k_ => some k_ ≠ (.slice Ao20 t1477.length co20 : Value).ownBlock ∧ some k_ ≠ (.slice Ao21 t1481.length co21 : Value).ownBlock) (fun _ => False) rfl rfl ?aO ?aR (fun _ _ h => h) (fun _ h => h.elim) ?aF ?aB ?aS ?aL ?_; (case aR => exact zS (kB HO1479.out).2.2); (case aB => exact (zT HB.out GE1473.out)); (case aF => exact (fun k_ hk => ⟨jF (kH (zP HO1479.out)) k_ hk, jF (kH (zP HO1483.out)) k_ hk⟩)); (case aO => exact (by (with_reducible repeat (first | apply zF | apply zG | apply zH)); exact kA HO1476.out (fun _ hk => ⟨hk.1.2, hk.2⟩))); (case aS => exact (kP (zT HB.out GE1473.out))); (case aL => have := LMc9.out; omega); intro v1487 w23 ho hb hg hat; rw [← Ny1486.out] at ho; replace BK1473 := zA (blk_grown (g := gb1473) (o := .cells #[.int .i64 a0_0, .slice A0_1 l0_1.length c0_1] 26 (0, 0)) (zR BK1473.out) hg (Kd.R_ne HO1476.out BK1473.out (by decide))); replace HO1479 := zA (Kd.R_after (ok := (fun k_ => some k_ ≠ (.slice Ao21 t1481.length co21 : Value).ownBlock)) (by (with_reducible repeat (first | apply zF | apply zG | apply zH)); exact kA HO1479.out (fun _ hk => ⟨hk.2, hk.1.2⟩)) hg hat); replace HO1483 := zA (Kd.R_after (ok := (fun k_ => some k_ ≠ (.slice Ao20 t1477.length co20 : Value).ownBlock)) (by (with_reducible repeat (first | apply zF | apply zG | apply zH)); exact kA HO1483.out (fun _ hk => ⟨hk.2, hk.1.2⟩)) hg hat); replace HB := zA (hb); have HO1488 := zA (ho); clear HO1476; clear ho hb hg hat) | ((with_reducible refine gate_builtin (b := .append) (xs := #[.tmp 38, .tmp 39]) rfl ?_); at_builtin; refine Kd.R_append_rows (Kd.int .i64) (w0 := w) w.heap.size rfl (.tmp 38) (.tmp 39) 24 2 (.int .i64 0) 8 rfl Tryd.underlying24 info2 rfl (by decide) (by omega) v1487 y1486 t1481 _ _ _ (fun k_ => some k_ ≠ (.slice Ao20 t1477.length co20 : Value).ownBlock ∧ some k_ ≠ (.slice Ao21 t1481.length co21 : Value).ownBlock) (fun _ => False) rfl rfl ?aO ?aR (fun _ _ h => h) (fun _ h => h.elim) ?aF ?aB ?aS ?aL ?_; (case aR => exact zS (kB HO1483.out).2.2); (case aB => exact (zT HB.out GE1473.out)); (case aF => exact (fun k_ hk => ⟨jF (kH (zP HO1479.out)) k_ hk, jF (kH (zP HO1483.out)) k_ hk⟩)); (case aO => exact (zP HO1488.out)); (case aS => exact (kP (zT HB.out GE1473.out))); (case aL => have := LMc10.out; omega); intro v1490 w24 ho hb hg hat; rw [← Ny1489.out] at ho; replace BK1473 := zA (blk_grown (g := gb1473) (o := .cells #[.int .i64 a0_0, .slice A0_1 l0_1.length c0_1] 26 (0, 0)) (zR BK1473.out) hg (Kd.R_ne HO1488.out BK1473.out (by decide))); replace HO1479 := zA (Kd.R_after (ok := (fun k_ => some k_ ≠ (.slice Ao21 t1481.length co21 : Value).ownBlock)) (zP HO1479.out) hg hat); replace HO1483 := zA (Kd.R_after (ok := (fun k_ => some k_ ≠ (.slice Ao20 t1477.length co20 : Value).ownBlock)) (zP HO1483.out) hg hat); replace HB := zA (hb); have HO1491 := zA (ho); clear HO1488; clear ho hb hg hat))
    go_ret2
    exact ⟨_, zr, by (with_reducible repeat (first | apply zF | apply zG | apply zH)); exact kA HO1491.out (fun _ hk => trivial), zT HB.out GE1473.out⟩
   rw [if_neg c10] at H
   exact absurd H (by simp)
  rw [if_neg c9] at H
  exact absurd H (by simp)
 replace c8 := Bool.eq_false_iff.mpr c8
 subst c8
 rw [if_neg (show ¬ (false = true) by decide)] at H
 simp only [Option.some.injEq, Prod.mk.injEq] at H
 obtain ⟨rfl, rfl⟩ := H
 go_enter Tryd.func95, Tryd.ntmps95
 go_wp2_with (first | (refine zBE 3 #[.int .i64 a0_0, .slice A0_1 l0_1.length c0_1] 26 ?_; intro gb1473 hg w25 hbox hb; have BK1473 := zA (hbox); have GW1473 := zA (zBH hg HB.out); have GE1473 := zA (zBH hg HB.out); replace HB := zA (kQ (zQ HB.out) hb); clear hb hbox hg; obtain ⟨hcz26_0, hcz26_1, hfz26_0, hfz26_1⟩ := zB3 BK1473.out) | (refine zO (some 16) Tryd.func121 #[.agg #[.int .i64 a0_0, .slice A0_1 l0_1.length c0_1], .slice A1 l1.length c1, .slice A2 l2.length c2] ?_; (with_reducible refine (spec_l05Meet.calls k a0_0 _ _ l0_1 _ _ l1 _ _ l2 t1474 _ ?side1 ?side2 ?side3 ?side4 ?side5 ?side6 A4.out).mono ?_); (case side1 => exact zS (kO HR0_1.out HB.out)); (case side2 => exact HC0_1.out); (case side3 => exact zS (kO HR1.out HB.out)); (case side4 => exact HC1.out); (case side5 => exact zS (kO HR2.out HB.out)); (case side6 => exact HC2.out); rintro e w27 ⟨v1475, rfl, ho0, hb⟩; refine ⟨_, rfl, ?_⟩; have HO1476 := zA (kI ho0 (kP (zT HB.out GE1473.out))); replace BK1473 := zA (zB1 BK1473.out hb); replace HB := zA (kQ (zT HB.out GE1473.out) hb); (try clear hb); (try clear ho0); obtain ⟨hcz28_0, hcz28_1, hfz28_0, hfz28_1⟩ := zB3 BK1473.out; obtain ⟨Ao29, co29, eo29⟩ := kM HO1476.out; subst eo29) | (refine zO (some 21) Tryd.func71 #[.agg #[.int .i64 a0_0, .slice A0_1 l0_1.length c0_1], .slice Ao29 t1474.length co29, .slice A1 l1.length c1] ?_; (with_reducible refine (spec_l05Cut.calls k a0_0 _ _ l0_1 _ _ t1474 _ _ l1 t1477 t1480 _ ?side1 ?side2 ?side3 ?side4 ?side5 ?side6 A5.out).mono ?_); (case side1 => exact zS (kO HR0_1.out HB.out)); (case side2 => exact HC0_1.out); (case side3 => exact zS (kB HO1476.out).2.2); (case side4 => exact (kB HO1476.out).2.1); (case side5 => exact zS (kO HR1.out HB.out)); (case side6 => exact HC1.out); rintro e w30 ⟨v1478, rfl, ho0, hb⟩; refine ⟨_, rfl, ?_⟩; have HO1479 := zA (kI (kF ho0 (kH (zP HO1476.out))) (kP (zT HB.out GE1473.out))); replace HO1476 := zA (kE (zP HO1476.out) (kC ho0) hb); replace BK1473 := zA (zB1 BK1473.out hb); replace HB := zA (kQ (zT HB.out GE1473.out) hb); (try clear hb); (try clear ho0); obtain ⟨hcz31_0, hcz31_1, hfz31_0, hfz31_1⟩ := zB3 BK1473.out) | (refine zO (some 28) Tryd.func71 #[.agg #[.int .i64 a0_0, .slice A0_1 l0_1.length c0_1], .slice Ao29 t1474.length co29, .slice A2 l2.length c2] ?_; (with_reducible refine (spec_l05Cut.calls k a0_0 _ _ l0_1 _ _ t1474 _ _ l2 t1481 t1484 _ ?side1 ?side2 ?side3 ?side4 ?side5 ?side6 A6.out).mono ?_); (case side1 => exact zS (kO HR0_1.out HB.out)); (case side2 => exact HC0_1.out); (case side3 => exact zS (kB HO1476.out).2.2); (case side4 => exact (kB HO1476.out).2.1); (case side5 => exact zS (kO HR2.out HB.out)); (case side6 => exact HC2.out); rintro e w32 ⟨v1482, rfl, ho0, hb⟩; refine ⟨_, rfl, ?_⟩; have HO1483 := zA (kI (kF (kF ho0 (kH (zP HO1476.out))) (kH (zP HO1479.out))) (kP (zT HB.out GE1473.out))); replace HO1476 := zA (kE (zP HO1476.out) (kC ho0) hb); replace HO1479 := zA (kE (zP HO1479.out) (kC ho0) hb); replace BK1473 := zA (zB1 BK1473.out hb); replace HB := zA (kQ (zT HB.out GE1473.out) hb); (try clear hb); (try clear ho0); obtain ⟨hcz33_0, hcz33_1, hfz33_0, hfz33_1⟩ := zB3 BK1473.out; obtain ⟨Ao34, co34, eo34⟩ := kM HO1479.out; subst eo34; obtain ⟨Ao35, co35, eo35⟩ := kM HO1483.out; subst eo35) | (refine zO (some 34) Tryd.func67 #[.agg #[.int .i64 a0_0, .slice A0_1 l0_1.length c0_1], .slice Ao34 t1477.length co34, .slice Ao35 t1481.length co35] ?_; (with_reducible refine (spec_l05Independent.calls k a0_0 _ _ l0_1 _ _ t1477 _ _ t1481 false _ ?side1 ?side2 ?side3 ?side4 ?side5 ?side6 A7.out).mono ?_); (case side1 => exact zS (kO HR0_1.out HB.out)); (case side2 => exact HC0_1.out); (case side3 => exact zS (kB HO1479.out).2.2); (case side4 => exact (kB HO1479.out).2.1); (case side5 => exact zS (kB HO1483.out).2.2); (case side6 => exact (kB HO1483.out).2.1); rintro e w36 ⟨rfl, hb⟩; refine ⟨_, rfl, ?_⟩; replace HO1476 := zA (kL (zP HO1476.out) hb); replace HO1479 := zA (kL (zP HO1479.out) hb); replace HO1483 := zA (kL (zP HO1483.out) hb); replace BK1473 := zA (zB1 BK1473.out hb); replace HB := zA (kQ (zT HB.out GE1473.out) hb); (try clear hb)))
 go_ret2
 exact ⟨_, zr, zn, zT HB.out GE1473.out⟩
def spec_JoinOf.f (k : Nat) (a0_0 : Int) (l0_1 : List Int) (l1 : List Int) (l2 : List Int) : Option (List Int × Int) := (spec_l03Code.f k a0_0 l0_1 l1 l2).bind fun t1493 => (if t1493 = 0 then ((spec_l05Join.f k a0_0 l0_1 l1 l2).bind fun bt1494 => (if bt1494.2 = true then (if (bt1494.1.length : Int) > 24 then (some (([] : List Int), 3)) else ((spec_l03Normal.f k a0_0 l0_1 bt1494.1).bind fun t1498 => (some (t1498, 0)))) else (some (([] : List Int), 4)))) else (some (([] : List Int), t1493)))
set_option maxHeartbeats 8000000 in
set_option maxRecDepth 100000 in
theorem spec_JoinOf.calls (k : Nat) (a0_0 : Int) (A0_1 : Option Addr) (c0_1 : Nat) (l0_1 : List Int) (A1 : Option Addr) (c1 : Nat) (l1 : List Int) (A2 : Option Addr) (c2 : Nat) (l2 : List Int) (r1 : List Int) (r2 : Int) (w : World) (hr0_1 : Kd.C (Kd.int .i64) w A0_1 l0_1.length l0_1) (hc0_1 : l0_1.length ≤ c0_1) (hr1 : Kd.C (Kd.int .i64) w A1 l1.length l1) (hc1 : l1.length ≤ c1) (hr2 : Kd.C (Kd.int .i64) w A2 l2.length l2) (hc2 : l2.length ≤ c2) (h : spec_JoinOf.f k a0_0 l0_1 l1 l2 = some (r1, r2)) :
  Calls Tryd.prog 45 #[.agg #[.int .i64 a0_0, .slice A0_1 l0_1.length c0_1], .slice A1 l1.length c1, .slice A2 l2.length c2] w fun e w' => ∃ v0_ : Value, e = .returned (.tuple #[v0_, .int .i64 r2]) ∧ Kd.R (Kd.int .i64) 2 w' w.heap.size (fun _ => True) v0_ r1 ∧ Below w.heap.size w w' := by
 have hu26 := Tryd.underlying26
 have HR0_1 := zA hr0_1
 have HC0_1 := zA hc0_1
 clear hr0_1 hc0_1
 have HR1 := zA hr1
 have HC1 := zA hc1
 clear hr1 hc1
 have HR2 := zA hr2
 have HC2 := zA hc2
 clear hr2 hc2
 have HB := zA (kW w.heap.size w)
 have H := h
 unfold spec_JoinOf.f at H
 clear h
 obtain ⟨t1493, A4, H⟩ := zb H
 try dsimp only at H
 by_cases c5 : t1493 = 0
 ·rw [if_pos c5] at H
  obtain ⟨c5b0, c5b1⟩ := zT1 c5
  clear c5
  obtain ⟨⟨t1494, t1497⟩, A6, H⟩ := zb H
  try dsimp only at H
  by_cases c7 : t1497 = true
  ·subst c7
   rw [if_pos rfl] at H
   by_cases c8 : (t1494.length : Int) > 24
   ·rw [if_pos c8] at H
    have c8b0 : decide (24 < (t1494.length : Int)) = true := decide_eq_true c8
    have c8b1 : decide (24 < t1494.length) = true := decide_eq_true (by omega)
    clear c8
    simp only [Option.some.injEq, Prod.mk.injEq] at H
    obtain ⟨rfl, rfl⟩ := H
    go_enter Tryd.func45, Tryd.ntmps45
    go_wp2_with (first | (refine zBE 3 #[.int .i64 a0_0, .slice A0_1 l0_1.length c0_1] 26 ?_; intro gb1492 hg w9 hbox hb; have BK1492 := zA (hbox); have GW1492 := zA (zBH hg HB.out); have GE1492 := zA (zBH hg HB.out); replace HB := zA (kQ (zQ HB.out) hb); clear hb hbox hg; obtain ⟨hcz10_0, hcz10_1, hfz10_0, hfz10_1⟩ := zB3 BK1492.out) | (refine zO (some 14) Tryd.func52 #[.agg #[.int .i64 a0_0, .slice A0_1 l0_1.length c0_1], .slice A1 l1.length c1, .slice A2 l2.length c2] ?_; (with_reducible refine (spec_l03Code.calls k a0_0 _ _ l0_1 _ _ l1 _ _ l2 t1493 _ ?side1 ?side2 ?side3 ?side4 ?side5 ?side6 A4.out).mono ?_); (case side1 => exact zS (kO HR0_1.out HB.out)); (case side2 => exact HC0_1.out); (case side3 => exact zS (kO HR1.out HB.out)); (case side4 => exact HC1.out); (case side5 => exact zS (kO HR2.out HB.out)); (case side6 => exact HC2.out); rintro e w11 ⟨rfl, hb⟩; refine ⟨_, rfl, ?_⟩; replace BK1492 := zA (zB1 BK1492.out hb); replace HB := zA (kQ (zT HB.out GE1492.out) hb); (try clear hb); obtain ⟨hcz12_0, hcz12_1, hfz12_0, hfz12_1⟩ := zB3 BK1492.out) | (refine zO (some 22) Tryd.func95 #[.agg #[.int .i64 a0_0, .slice A0_1 l0_1.length c0_1], .slice A1 l1.length c1, .slice A2 l2.length c2] ?_; (with_reducible refine (spec_l05Join.calls k a0_0 _ _ l0_1 _ _ l1 _ _ l2 t1494 true _ ?side1 ?side2 ?side3 ?side4 ?side5 ?side6 A6.out).mono ?_); (case side1 => exact zS (kO HR0_1.out HB.out)); (case side2 => exact HC0_1.out); (case side3 => exact zS (kO HR1.out HB.out)); (case side4 => exact HC1.out); (case side5 => exact zS (kO HR2.out HB.out)); (case side6 => exact HC2.out); rintro e w13 ⟨v1495, rfl, ho0, hb⟩; refine ⟨_, rfl, ?_⟩; have HO1496 := zA (kI ho0 (kP (zT HB.out GE1492.out))); replace BK1492 := zA (zB1 BK1492.out hb); replace HB := zA (kQ (zT HB.out GE1492.out) hb); (try clear hb); (try clear ho0); obtain ⟨Ao14, co14, eo14⟩ := kM HO1496.out; subst eo14))
    go_ret2
    exact ⟨_, zr, zn, zT HB.out GE1492.out⟩
   rw [if_neg c8] at H
   have c8b0 : decide (24 < (t1494.length : Int)) = false := decide_eq_false c8
   have c8b1 : decide (24 < t1494.length) = false := decide_eq_false (by omega)
   clear c8
   obtain ⟨t1498, A15, H⟩ := zb H
   try dsimp only at H
   simp only [Option.some.injEq, Prod.mk.injEq] at H
   obtain ⟨rfl, rfl⟩ := H
   go_enter Tryd.func45, Tryd.ntmps45
   go_wp2_with (first | (refine zBE 3 #[.int .i64 a0_0, .slice A0_1 l0_1.length c0_1] 26 ?_; intro gb1492 hg w16 hbox hb; have BK1492 := zA (hbox); have GW1492 := zA (zBH hg HB.out); have GE1492 := zA (zBH hg HB.out); replace HB := zA (kQ (zQ HB.out) hb); clear hb hbox hg; obtain ⟨hcz17_0, hcz17_1, hfz17_0, hfz17_1⟩ := zB3 BK1492.out) | (refine zO (some 14) Tryd.func52 #[.agg #[.int .i64 a0_0, .slice A0_1 l0_1.length c0_1], .slice A1 l1.length c1, .slice A2 l2.length c2] ?_; (with_reducible refine (spec_l03Code.calls k a0_0 _ _ l0_1 _ _ l1 _ _ l2 t1493 _ ?side1 ?side2 ?side3 ?side4 ?side5 ?side6 A4.out).mono ?_); (case side1 => exact zS (kO HR0_1.out HB.out)); (case side2 => exact HC0_1.out); (case side3 => exact zS (kO HR1.out HB.out)); (case side4 => exact HC1.out); (case side5 => exact zS (kO HR2.out HB.out)); (case side6 => exact HC2.out); rintro e w18 ⟨rfl, hb⟩; refine ⟨_, rfl, ?_⟩; replace BK1492 := zA (zB1 BK1492.out hb); replace HB := zA (kQ (zT HB.out GE1492.out) hb); (try clear hb); obtain ⟨hcz19_0, hcz19_1, hfz19_0, hfz19_1⟩ := zB3 BK1492.out) | (refine zO (some 22) Tryd.func95 #[.agg #[.int .i64 a0_0, .slice A0_1 l0_1.length c0_1], .slice A1 l1.length c1, .slice A2 l2.length c2] ?_; (with_reducible refine (spec_l05Join.calls k a0_0 _ _ l0_1 _ _ l1 _ _ l2 t1494 true _ ?side1 ?side2 ?side3 ?side4 ?side5 ?side6 A6.out).mono ?_); (case side1 => exact zS (kO HR0_1.out HB.out)); (case side2 => exact HC0_1.out); (case side3 => exact zS (kO HR1.out HB.out)); (case side4 => exact HC1.out); (case side5 => exact zS (kO HR2.out HB.out)); (case side6 => exact HC2.out); rintro e w20 ⟨v1495, rfl, ho0, hb⟩; refine ⟨_, rfl, ?_⟩; have HO1496 := zA (kI ho0 (kP (zT HB.out GE1492.out))); replace BK1492 := zA (zB1 BK1492.out hb); replace HB := zA (kQ (zT HB.out GE1492.out) hb); (try clear hb); (try clear ho0); obtain ⟨Ao21, co21, eo21⟩ := kM HO1496.out; subst eo21; obtain ⟨hcz22_0, hcz22_1, hfz22_0, hfz22_1⟩ := zB3 BK1492.out) | (refine zO (some 32) Tryd.func68 #[.agg #[.int .i64 a0_0, .slice A0_1 l0_1.length c0_1], .slice Ao21 t1494.length co21] ?_; (with_reducible refine (spec_l03Normal.calls k a0_0 _ _ l0_1 _ _ t1494 t1498 _ ?side1 ?side2 ?side3 ?side4 A15.out).mono ?_); (case side1 => exact zS (kO HR0_1.out HB.out)); (case side2 => exact HC0_1.out); (case side3 => exact zS (kB HO1496.out).2.2); (case side4 => exact (kB HO1496.out).2.1); rintro e w23 ⟨v1499, rfl, ho0, hb⟩; refine ⟨_, rfl, ?_⟩; have HO1500 := zA (kI (kF ho0 (kH (zP HO1496.out))) (kP (zT HB.out GE1492.out))); replace HO1496 := zA (kE (zP HO1496.out) (kC ho0) hb); replace BK1492 := zA (zB1 BK1492.out hb); replace HB := zA (kQ (zT HB.out GE1492.out) hb); (try clear hb); (try clear ho0)))
   go_ret2
   exact ⟨_, zr, by (with_reducible repeat (first | apply zF | apply zG | apply zH)); exact kA HO1500.out (fun _ hk => trivial), zT HB.out GE1492.out⟩
  replace c7 := Bool.eq_false_iff.mpr c7
  subst c7
  rw [if_neg (show ¬ (false = true) by decide)] at H
  simp only [Option.some.injEq, Prod.mk.injEq] at H
  obtain ⟨rfl, rfl⟩ := H
  go_enter Tryd.func45, Tryd.ntmps45
  go_wp2_with (first | (refine zBE 3 #[.int .i64 a0_0, .slice A0_1 l0_1.length c0_1] 26 ?_; intro gb1492 hg w24 hbox hb; have BK1492 := zA (hbox); have GW1492 := zA (zBH hg HB.out); have GE1492 := zA (zBH hg HB.out); replace HB := zA (kQ (zQ HB.out) hb); clear hb hbox hg; obtain ⟨hcz25_0, hcz25_1, hfz25_0, hfz25_1⟩ := zB3 BK1492.out) | (refine zO (some 14) Tryd.func52 #[.agg #[.int .i64 a0_0, .slice A0_1 l0_1.length c0_1], .slice A1 l1.length c1, .slice A2 l2.length c2] ?_; (with_reducible refine (spec_l03Code.calls k a0_0 _ _ l0_1 _ _ l1 _ _ l2 t1493 _ ?side1 ?side2 ?side3 ?side4 ?side5 ?side6 A4.out).mono ?_); (case side1 => exact zS (kO HR0_1.out HB.out)); (case side2 => exact HC0_1.out); (case side3 => exact zS (kO HR1.out HB.out)); (case side4 => exact HC1.out); (case side5 => exact zS (kO HR2.out HB.out)); (case side6 => exact HC2.out); rintro e w26 ⟨rfl, hb⟩; refine ⟨_, rfl, ?_⟩; replace BK1492 := zA (zB1 BK1492.out hb); replace HB := zA (kQ (zT HB.out GE1492.out) hb); (try clear hb); obtain ⟨hcz27_0, hcz27_1, hfz27_0, hfz27_1⟩ := zB3 BK1492.out) | (refine zO (some 22) Tryd.func95 #[.agg #[.int .i64 a0_0, .slice A0_1 l0_1.length c0_1], .slice A1 l1.length c1, .slice A2 l2.length c2] ?_; (with_reducible refine (spec_l05Join.calls k a0_0 _ _ l0_1 _ _ l1 _ _ l2 t1494 false _ ?side1 ?side2 ?side3 ?side4 ?side5 ?side6 A6.out).mono ?_); (case side1 => exact zS (kO HR0_1.out HB.out)); (case side2 => exact HC0_1.out); (case side3 => exact zS (kO HR1.out HB.out)); (case side4 => exact HC1.out); (case side5 => exact zS (kO HR2.out HB.out)); (case side6 => exact HC2.out); rintro e w28 ⟨v1495, rfl, ho0, hb⟩; refine ⟨_, rfl, ?_⟩; have HO1496 := zA (kI ho0 (kP (zT HB.out GE1492.out))); replace BK1492 := zA (zB1 BK1492.out hb); replace HB := zA (kQ (zT HB.out GE1492.out) hb); (try clear hb); (try clear ho0)))
  go_ret2
  exact ⟨_, zr, zn, zT HB.out GE1492.out⟩
 rw [if_neg c5] at H
 obtain ⟨c5b0, c5b1⟩ := zT2 c5
 simp only [Option.some.injEq, Prod.mk.injEq] at H
 obtain ⟨rfl, rfl⟩ := H
 go_enter Tryd.func45, Tryd.ntmps45
 go_wp2_with (first | (refine zBE 3 #[.int .i64 a0_0, .slice A0_1 l0_1.length c0_1] 26 ?_; intro gb1492 hg w29 hbox hb; have BK1492 := zA (hbox); have GW1492 := zA (zBH hg HB.out); have GE1492 := zA (zBH hg HB.out); replace HB := zA (kQ (zQ HB.out) hb); clear hb hbox hg; obtain ⟨hcz30_0, hcz30_1, hfz30_0, hfz30_1⟩ := zB3 BK1492.out) | (refine zO (some 14) Tryd.func52 #[.agg #[.int .i64 a0_0, .slice A0_1 l0_1.length c0_1], .slice A1 l1.length c1, .slice A2 l2.length c2] ?_; (with_reducible refine (spec_l03Code.calls k a0_0 _ _ l0_1 _ _ l1 _ _ l2 t1493 _ ?side1 ?side2 ?side3 ?side4 ?side5 ?side6 A4.out).mono ?_); (case side1 => exact zS (kO HR0_1.out HB.out)); (case side2 => exact HC0_1.out); (case side3 => exact zS (kO HR1.out HB.out)); (case side4 => exact HC1.out); (case side5 => exact zS (kO HR2.out HB.out)); (case side6 => exact HC2.out); rintro e w31 ⟨rfl, hb⟩; refine ⟨_, rfl, ?_⟩; replace BK1492 := zA (zB1 BK1492.out hb); replace HB := zA (kQ (zT HB.out GE1492.out) hb); (try clear hb)))
 go_ret2
 exact ⟨_, zr, zn, zT HB.out GE1492.out⟩
def impl_JoinOf.f (k : Nat) (a0_0 : Int) (l0_1 : List Int) (l1 : List Int) (l2 : List Int) : Option (List Int × Int) := (impl_checkJoin.f k a0_0 l0_1 l1 l2).bind fun bt1514 => (if bt1514.2 = 0 then ((impl_Alphabet_ties.f a0_0 l0_1).bind fun t1518 => ((slices_Concat_int64_int64.f (([l1, bt1514.1] : List (List Int)))).bind fun t1524 => ((impl_ties_normal.f k t1518 t1524).bind fun t1527 => (some (t1527, 0))))) else (some (([] : List Int), bt1514.2)))
set_option maxHeartbeats 8000000 in
set_option maxRecDepth 100000 in
theorem impl_JoinOf.calls (k : Nat) (a0_0 : Int) (P0_1_ : Nat → Prop) (A0_1 : Option Addr) (c0_1 : Nat) (l0_1 : List Int) (P1_ : Nat → Prop) (A1 : Option Addr) (c1 : Nat) (l1 : List Int) (P2_ : Nat → Prop) (A2 : Option Addr) (c2 : Nat) (l2 : List Int) (r1 : List Int) (r2 : Int) (w : World) (hs0_1 : Kd.V (Kd.int .i64) 2 w w.heap.size (fun k_ => P0_1_ k_) (.slice A0_1 l0_1.length c0_1) l0_1) (hs1 : Kd.V (Kd.int .i64) 2 w w.heap.size (fun k_ => P1_ k_) (.slice A1 l1.length c1) l1) (hs2 : Kd.V (Kd.int .i64) 2 w w.heap.size (fun k_ => P2_ k_) (.slice A2 l2.length c2) l2) (hT : TabW w) (h : impl_JoinOf.f k a0_0 l0_1 l1 l2 = some (r1, r2)) :
  Calls Tryd.prog 40 #[.agg #[.int .i64 a0_0, .slice A0_1 l0_1.length c0_1], .slice A1 l1.length c1, .slice A2 l2.length c2] w fun e w' => ∃ v0_ : Value, e = .returned (.tuple #[v0_, .int .i64 r2]) ∧ Kd.R (Kd.int .i64) 2 w' w.heap.size (fun k_ => (w.heap.size ≤ k_)) v0_ r1 ∧ Below w.heap.size w w' := by
 have hu26 := Tryd.underlying26
 have HT := zA hT
 clear hT
 have HO0_1 := zA (show Kd.V (Kd.int .i64) 2 w w.heap.size (fun k_ => ((P0_1_ k_ ∨ P1_ k_ ∨ P2_ k_) ∨ w.heap.size ≤ k_)) (.slice A0_1 l0_1.length c0_1) l0_1 from kN hs0_1 (fun k_ hk => .inl (.inl hk)))
 have HO1 := zA (show Kd.V (Kd.int .i64) 2 w w.heap.size (fun k_ => ((P0_1_ k_ ∨ P1_ k_ ∨ P2_ k_) ∨ w.heap.size ≤ k_)) (.slice A1 l1.length c1) l1 from kN hs1 (fun k_ hk => .inl (.inr (.inl hk))))
 have HO2 := zA (show Kd.V (Kd.int .i64) 2 w w.heap.size (fun k_ => ((P0_1_ k_ ∨ P1_ k_ ∨ P2_ k_) ∨ w.heap.size ≤ k_)) (.slice A2 l2.length c2) l2 from kN hs2 (fun k_ hk => .inl (.inr (.inr hk))))
 have HB := zA (kW w.heap.size w)
 have H := h
 unfold impl_JoinOf.f at H
 clear h
 obtain ⟨⟨t1514, t1517⟩, A4, H⟩ := zb H
 try dsimp only at H
 by_cases c5 : t1517 = 0
 ·rw [if_pos c5] at H
  obtain ⟨c5b0, c5b1⟩ := zT1 c5
  clear c5
  obtain ⟨t1518, A6, H⟩ := zb H
  try dsimp only at H
  obtain ⟨y1521, hy1521⟩ : ∃ y_ : List (List Int), y_ = (([l1, t1514] : List (List Int))) := ⟨_, rfl⟩
  replace H : ((slices_Concat_int64_int64.f y1521).bind fun t1524 => ((impl_ties_normal.f k t1518 t1524).bind fun t1527 => (some (t1527, 0)))) = some (r1, r2) := zy hy1521 H
  have Ny1521 := zA hy1521
  clear hy1521
  obtain ⟨t1524, A7, H⟩ := zb H
  try dsimp only at H
  obtain ⟨t1527, A8, H⟩ := zb H
  try dsimp only at H
  simp only [Option.some.injEq, Prod.mk.injEq] at H
  obtain ⟨rfl, rfl⟩ := H
  go_enter Tryd.func40, Tryd.ntmps40
  go_wp2_with (first | (refine zBE 3 #[.int .i64 a0_0, .slice A0_1 l0_1.length c0_1] 26 ?_; intro gb1513 hg w9 hbox hb; replace HO0_1 := zA (kG (jD (zPV HO0_1.out) gb1513 (Nat.le_of_eq hg.symm)) hb); replace HO1 := zA (kG (jD (zPV HO1.out) gb1513 (Nat.le_of_eq hg.symm)) hb); replace HO2 := zA (kG (jD (zPV HO2.out) gb1513 (Nat.le_of_eq hg.symm)) hb); have BK1513 := zA (hbox); have GW1513 := zA (zBH hg HB.out); have GE1513 := zA (zBH hg HB.out); replace HB := zA (kQ (zQ HB.out) hb); clear hb hbox hg; obtain ⟨hcz10_0, hcz10_1, hfz10_0, hfz10_1⟩ := zB3 BK1513.out) | (refine zO (some 14) Tryd.func92 #[.agg #[.int .i64 a0_0, .slice A0_1 l0_1.length c0_1], .slice A1 l1.length c1, .slice A2 l2.length c2] ?_; (with_reducible refine (impl_checkJoin.calls k a0_0 (fun k_ => (((P0_1_ k_ ∨ P1_ k_ ∨ P2_ k_) ∨ w.heap.size ≤ k_) ∧ k_ ≠ gb1513)) _ _ l0_1 (fun k_ => (((P0_1_ k_ ∨ P1_ k_ ∨ P2_ k_) ∨ w.heap.size ≤ k_) ∧ k_ ≠ gb1513)) _ _ l1 (fun k_ => (((P0_1_ k_ ∨ P1_ k_ ∨ P2_ k_) ∨ w.heap.size ≤ k_) ∧ k_ ≠ gb1513)) _ _ l2 t1514 t1517 _ ?side1 ?side2 ?side3 ?side4 A4.out).mono ?_); (case side1 => exact HO0_1.out); (case side2 => exact HO1.out); (case side3 => exact HO2.out); (case side4 => exact TabW.below HT.out (zT HB.out GE1513.out)); rintro e w11 ⟨v1515, rfl, ho0, hb⟩; refine ⟨_, rfl, ?_⟩; replace HO0_1 := zA (kG (zPV HO0_1.out) hb); replace HO1 := zA (kG (zPV HO1.out) hb); replace HO2 := zA (kG (zPV HO2.out) hb); have HO1516 := zA (jM (kN (ok' := fun k_ => ((P0_1_ k_ ∨ P1_ k_ ∨ P2_ k_) ∨ w.heap.size ≤ k_) ∧ k_ ≠ gb1513) ho0 (fun k_ hk_ => ⟨Or.elim hk_ (fun hs_ => Or.elim hs_ (fun hs_ => hs_.1) (fun hs_ => Or.elim hs_ (fun hs_ => hs_.1) (fun hs_ => hs_.1))) (fun hn_ => (.inr (Nat.le_trans (kP (zT HB.out GE1513.out)) hn_))), Or.elim hk_ (fun hs_ => Or.elim hs_ (fun hs_ => hs_.2) (fun hs_ => Or.elim hs_ (fun hs_ => hs_.2) (fun hs_ => hs_.2))) (fun hn_ => (jE (g := gb1513) (o := .cells #[.int .i64 a0_0, .slice A0_1 l0_1.length c0_1] 26 (0, 0)) (zR BK1513.out) k_ hn_))⟩)) (kP (zT HB.out GE1513.out))); replace BK1513 := zA (zB1 BK1513.out hb); replace HB := zA (kQ (zT HB.out GE1513.out) hb); (try clear hb); (try clear ho0); obtain ⟨hcz12_0, hcz12_1, hfz12_0, hfz12_1⟩ := zB3 BK1513.out) | (refine zO (some 21) Tryd.func50 #[.agg #[.int .i64 a0_0, .slice A0_1 l0_1.length c0_1]] ?_; (with_reducible refine (impl_Alphabet_ties.calls a0_0 (fun k_ => (((P0_1_ k_ ∨ P1_ k_ ∨ P2_ k_) ∨ w.heap.size ≤ k_) ∧ k_ ≠ gb1513)) _ _ l0_1 t1518 _ ?side1 A6.out).mono ?_); (case side1 => exact HO0_1.out); rintro e w13 ⟨v1519, rfl, ho0, hb⟩; refine ⟨_, rfl, ?_⟩; replace HO0_1 := zA (kG (zPV HO0_1.out) hb); replace HO1 := zA (kG (zPV HO1.out) hb); replace HO2 := zA (kG (zPV HO2.out) hb); replace HO1516 := zA (kG (zPV HO1516.out) hb); have HO1520 := zA (jM (kN (ok' := fun k_ => ((P0_1_ k_ ∨ P1_ k_ ∨ P2_ k_) ∨ w.heap.size ≤ k_) ∧ k_ ≠ gb1513) ho0 (fun k_ hk_ => ⟨Or.elim hk_ (fun hs_ => hs_.1) (fun hn_ => (.inr (Nat.le_trans (kP (zT HB.out GE1513.out)) hn_))), Or.elim hk_ (fun hs_ => hs_.2) (fun hn_ => (jE (g := gb1513) (o := .cells #[.int .i64 a0_0, .slice A0_1 l0_1.length c0_1] 26 (0, 0)) (zR BK1513.out) k_ hn_))⟩)) (kP (zT HB.out GE1513.out))); replace BK1513 := zA (zB1 BK1513.out hb); replace HB := zA (kQ (zT HB.out GE1513.out) hb); (try clear hb); (try clear ho0); obtain ⟨Ao14, co14, eo14⟩ := Kd.V_slice HO1516.out; subst eo14) | ((with_reducible refine kS (N := 24) rfl ?_); refine Kd.N_lit (Kd.slice 2 (Kd.int .i64)) _ 24 ?hg (N' := 24) ?hd (xs := ([l1, t1514] : List (List Int))) (inner := [.slice A1 l1.length c1, .slice Ao14 t1514.length co14]) (ok := (fun k_ => ((P0_1_ k_ ∨ P1_ k_ ∨ P2_ k_) ∨ w.heap.size ≤ k_) ∧ k_ ≠ gb1513)) (okp := (fun k_ => ((P0_1_ k_ ∨ P1_ k_ ∨ P2_ k_) ∨ w.heap.size ≤ k_) ∧ k_ ≠ gb1513)) ?hr ?hp (fun _ hk => hk) ((show ∀ k_ : Nat, (_ : Nat) ≤ k_ → (fun k_ => ((P0_1_ k_ ∨ P1_ k_ ∨ P2_ k_) ∨ w.heap.size ≤ k_) ∧ k_ ≠ gb1513) k_ from fun k_ hk => ⟨(.inr (Nat.le_trans (kP (zT HB.out GE1513.out)) hk)), jE (g := gb1513) (o := .cells #[.int .i64 a0_0, .slice A0_1 l0_1.length c0_1] 26 (0, 0)) (zR BK1513.out) k_ hk⟩) _ (Nat.le_refl _)) (kW _ _) (Nat.le_refl _) (by simp) ?_; (case hd => rfl); (case hg => rfl); (case hr => first | (go_simp; done) | (go_simp; rfl)); (case hp => exact (Reps.one (show Kd.FK (Kd.slice 2 (Kd.int .i64)) _ _ l1 [.slice A1 l1.length c1] from (zFK (kN (ok' := (fun k_ => ((P0_1_ k_ ∨ P1_ k_ ∨ P2_ k_) ∨ w.heap.size ≤ k_) ∧ k_ ≠ gb1513)) (HO1.out) (fun k_ hk => ⟨hk.1, hk.2⟩)))) (Reps.one (show Kd.FK (Kd.slice 2 (Kd.int .i64)) _ _ t1514 [.slice Ao14 t1514.length co14] from (zFK (kN (ok' := (fun k_ => ((P0_1_ k_ ∨ P1_ k_ ∨ P2_ k_) ∨ w.heap.size ≤ k_) ∧ k_ ≠ gb1513)) (HO1516.out) (fun k_ hk => ⟨hk.1, hk.2⟩)))) (Reps.none _ _)))); intro v1522 w15 ho16 hb hg_ hnew_; clear hg_ hnew_; (first | rw [← Ny1521.out] at ho16 | (simp only [Int.reduceToNat] at ho16; rw [← Ny1521.out] at ho16)); replace HO0_1 := zA (kK (zPV HO0_1.out) (Kd.N_base ho16) hb); replace HO1 := zA (kK (zPV HO1.out) (Kd.N_base ho16) hb); replace HO2 := zA (kK (zPV HO2.out) (Kd.N_base ho16) hb); replace HO1516 := zA (kK (zPV HO1516.out) (Kd.N_base ho16) hb); replace HO1520 := zA (kK (zPV HO1520.out) (Kd.N_base ho16) hb); have HO1523 := zA (jN ho16 (kP (zT HB.out GE1513.out))); replace BK1513 := zA (zB1 BK1513.out hb); replace HB := zA (kQ (zT HB.out GE1513.out) hb); clear hb ho16; obtain ⟨Ao17, co17, eo17⟩ := Kd.N_slice HO1523.out; subst eo17) | (refine zO (some 25) Tryd.func73 #[.slice Ao17 y1521.length co17] ?_; (with_reducible refine (slices_Concat_int64_int64.calls _ _ y1521 t1524 _ ?side1 ?side2 A7.out).mono ?_); (case side1 => exact zS (Kd.N_reads' HO1523.out).2.2); (case side2 => exact (Kd.N_reads' HO1523.out).2.1); rintro e w18 ⟨v1525, rfl, ho0, hb⟩; refine ⟨_, rfl, ?_⟩; replace HO0_1 := zA (kK (zPV HO0_1.out) (kC ho0) hb); replace HO1 := zA (kK (zPV HO1.out) (kC ho0) hb); replace HO2 := zA (kK (zPV HO2.out) (kC ho0) hb); replace HO1516 := zA (kK (zPV HO1516.out) (kC ho0) hb); replace HO1520 := zA (kK (zPV HO1520.out) (kC ho0) hb); replace HO1523 := zA (Kd.N_elder' (zPN HO1523.out) (kC ho0) hb); have HO1526 := zA (kI (Kd.R_newM (M := fun k_ => (w.heap.size ≤ k_)) ho0 (kP (zT HB.out GE1513.out)) (fun k_ h_ => h_)) (kP (zT HB.out GE1513.out))); replace BK1513 := zA (zB1 BK1513.out hb); replace HB := zA (kQ (zT HB.out GE1513.out) hb); (try clear hb); (try clear ho0); obtain ⟨Ao19, co19, eo19⟩ := Kd.V_slice HO1520.out; subst eo19; obtain ⟨Ao20, co20, eo20⟩ := kM HO1526.out; subst eo20) | (refine zO (some 26) Tryd.func56 #[.slice Ao19 t1518.length co19, .slice Ao20 t1524.length co20] ?_; (with_reducible refine (impl_ties_normal.calls k _ _ t1518 (fun k_ => some k_ = (.slice Ao20 t1524.length co20 : Value).ownBlock) _ _ t1524 t1527 _ ?side1 ?side2 ?side3 ?side4 A8.out).mono ?_); (case side1 => exact zS (kJ HO1520.out).2.2); (case side2 => exact (kJ HO1520.out).2.1); (case side3 => exact jL (jK rfl (kD (Kd.R_apart' (HO1526.out) (Kd.N_typed HO1523.out) (by decide)) BK1513.out (by decide)))); (case side4 => exact TabW.below HT.out (zT HB.out GE1513.out)); rintro e w21 ⟨v1528, rfl, ho0, hb⟩; refine ⟨_, rfl, ?_⟩; replace HO0_1 := zA (kK (zPV HO0_1.out) (kC ho0) hb); replace HO1 := zA (kK (zPV HO1.out) (kC ho0) hb); replace HO2 := zA (kK (zPV HO2.out) (kC ho0) hb); replace HO1516 := zA (kK (zPV HO1516.out) (kC ho0) hb); replace HO1520 := zA (kK (zPV HO1520.out) (kC ho0) hb); replace HO1523 := zA (Kd.N_elder' (zPN HO1523.out) (kC ho0) hb); have HO1529 := zA (kI (kF (Kd.R_newM (M := fun k_ => (w.heap.size ≤ k_)) (kA (ok' := fun k_ => True) ho0 (fun _ hk_ => trivial)) (kP (zT HB.out GE1513.out)) (fun k_ h_ => h_)) (kH (zP HO1526.out))) (kP (zT HB.out GE1513.out))); replace HO1526 := zA (kE (zP HO1526.out) (kC ho0) hb); replace BK1513 := zA (zB1 BK1513.out hb); replace HB := zA (kQ (zT HB.out GE1513.out) hb); (try clear hb); (try clear ho0)))
  go_ret2
  exact ⟨_, zr, by (with_reducible repeat (first | apply zF | apply zG | apply zH)); exact kA HO1529.out (fun _ hk => hk.1.1), zT HB.out GE1513.out⟩
 rw [if_neg c5] at H
 obtain ⟨c5b0, c5b1⟩ := zT2 c5
 simp only [Option.some.injEq, Prod.mk.injEq] at H
 obtain ⟨rfl, rfl⟩ := H
 go_enter Tryd.func40, Tryd.ntmps40
 go_wp2_with (first | (refine zBE 3 #[.int .i64 a0_0, .slice A0_1 l0_1.length c0_1] 26 ?_; intro gb1513 hg w22 hbox hb; replace HO0_1 := zA (kG (jD (zPV HO0_1.out) gb1513 (Nat.le_of_eq hg.symm)) hb); replace HO1 := zA (kG (jD (zPV HO1.out) gb1513 (Nat.le_of_eq hg.symm)) hb); replace HO2 := zA (kG (jD (zPV HO2.out) gb1513 (Nat.le_of_eq hg.symm)) hb); have BK1513 := zA (hbox); have GW1513 := zA (zBH hg HB.out); have GE1513 := zA (zBH hg HB.out); replace HB := zA (kQ (zQ HB.out) hb); clear hb hbox hg; obtain ⟨hcz23_0, hcz23_1, hfz23_0, hfz23_1⟩ := zB3 BK1513.out) | (refine zO (some 14) Tryd.func92 #[.agg #[.int .i64 a0_0, .slice A0_1 l0_1.length c0_1], .slice A1 l1.length c1, .slice A2 l2.length c2] ?_; (with_reducible refine (impl_checkJoin.calls k a0_0 (fun k_ => (((P0_1_ k_ ∨ P1_ k_ ∨ P2_ k_) ∨ w.heap.size ≤ k_) ∧ k_ ≠ gb1513)) _ _ l0_1 (fun k_ => (((P0_1_ k_ ∨ P1_ k_ ∨ P2_ k_) ∨ w.heap.size ≤ k_) ∧ k_ ≠ gb1513)) _ _ l1 (fun k_ => (((P0_1_ k_ ∨ P1_ k_ ∨ P2_ k_) ∨ w.heap.size ≤ k_) ∧ k_ ≠ gb1513)) _ _ l2 t1514 t1517 _ ?side1 ?side2 ?side3 ?side4 A4.out).mono ?_); (case side1 => exact HO0_1.out); (case side2 => exact HO1.out); (case side3 => exact HO2.out); (case side4 => exact TabW.below HT.out (zT HB.out GE1513.out)); rintro e w24 ⟨v1515, rfl, ho0, hb⟩; refine ⟨_, rfl, ?_⟩; replace HO0_1 := zA (kG (zPV HO0_1.out) hb); replace HO1 := zA (kG (zPV HO1.out) hb); replace HO2 := zA (kG (zPV HO2.out) hb); have HO1516 := zA (jM (kN (ok' := fun k_ => ((P0_1_ k_ ∨ P1_ k_ ∨ P2_ k_) ∨ w.heap.size ≤ k_) ∧ k_ ≠ gb1513) ho0 (fun k_ hk_ => ⟨Or.elim hk_ (fun hs_ => Or.elim hs_ (fun hs_ => hs_.1) (fun hs_ => Or.elim hs_ (fun hs_ => hs_.1) (fun hs_ => hs_.1))) (fun hn_ => (.inr (Nat.le_trans (kP (zT HB.out GE1513.out)) hn_))), Or.elim hk_ (fun hs_ => Or.elim hs_ (fun hs_ => hs_.2) (fun hs_ => Or.elim hs_ (fun hs_ => hs_.2) (fun hs_ => hs_.2))) (fun hn_ => (jE (g := gb1513) (o := .cells #[.int .i64 a0_0, .slice A0_1 l0_1.length c0_1] 26 (0, 0)) (zR BK1513.out) k_ hn_))⟩)) (kP (zT HB.out GE1513.out))); replace BK1513 := zA (zB1 BK1513.out hb); replace HB := zA (kQ (zT HB.out GE1513.out) hb); (try clear hb); (try clear ho0)))
 go_ret2
 exact ⟨_, zr, zn, zT HB.out GE1513.out⟩
def Z81 (w0 W : World) (g : Nat) (f0 : List Int) (f1 : Int) (f2 : Int) : Prop := ∃ A0 c0, W.heap[g]? = some (.cells #[.slice A0 f0.length c0, .int .i64 f1, .int .u64 f2] 81 (0, 0)) ∧ w0.heap.size ≤ g ∧ Kd.C (Kd.int .u8) w0 A0 f0.length f0
theorem Z81.grown {w0 W : World} {g : Nat} {f0 : List Int} {f1 : Int} {f2 : Int} {W1 : World} {row : Option Nat} (h : Z81 w0 W g f0 f1 f2) (hw : W.grownBy W1 row) (hne : some g ≠ row) : Z81 w0 W1 g f0 f1 f2 := by
 obtain ⟨A0, c0, hb, hg, hr0⟩ := h
 exact ⟨A0, c0, blk_grown hb hw hne, hg, hr0⟩
theorem Z81.own_neN {w0 W : World} {g : Nat} {f0 : List Int} {f1 : Int} {f2 : Int} {α : Type} {d : Kd α} {e : Nat} {base : Nat} {ok : Nat → Prop} {v : Value} {xs : List α} (h : Z81 w0 W g f0 f1 f2) (ho : Kd.N d e W base ok v xs) (ht : e ≠ 81) : some g ≠ v.ownBlock := by
 obtain ⟨A0, c0, hb, hg, hr0⟩ := h
 exact Kd.N_ne ho hb ht
theorem Z81.fresh {w0 W : World} {g : Nat} {f0 : List Int} {f1 : Int} {f2 : Int} (h : Z81 w0 W g f0 f1 f2) : ∀ k, W.heap.size ≤ k → k ≠ g := by
 obtain ⟨A0, c0, hb, hg, hr0⟩ := h
 exact jE hb
theorem Z81.kept {w0 W : World} {g : Nat} {f0 : List Int} {f1 : Int} {f2 : Int} {W1 : World} {S : Nat → Prop} (h : Z81 w0 W g f0 f1 f2) (hk : Kept W W1 S) (hne : ¬ S g) : Z81 w0 W1 g f0 f1 f2 := by
 obtain ⟨A0, c0, hb, hg, hr0⟩ := h
 exact ⟨A0, c0, blk_kept hb hk hne, hg, hr0⟩
theorem Z81.below {w0 W : World} {g : Nat} {f0 : List Int} {f1 : Int} {f2 : Int} {W1 : World} (h : Z81 w0 W g f0 f1 f2) (hw : Below W.heap.size W W1) : Z81 w0 W1 g f0 f1 f2 := h.grown (grown_of_below hw none) (by simp)
theorem Z81.alloc {w0 W : World} {g : Nat} {f0 : List Int} {f1 : Int} {f2 : Int} (h : Z81 w0 W g f0 f1 f2) (o : Obj) : Z81 w0 (W.alloc o) g f0 f1 f2 := h.below (zB (kW _ _) o)
theorem Z81.drewN {w0 W : World} {g : Nat} {f0 : List Int} {f1 : Int} {f2 : Int} (h : Z81 w0 W g f0 f1 f2) (m : Nat) : Z81 w0 (W.drewN m) g f0 f1 f2 := h
theorem Z81.drew {w0 W : World} {g : Nat} {f0 : List Int} {f1 : Int} {f2 : Int} (h : Z81 w0 W g f0 f1 f2) : Z81 w0 W.drew g f0 f1 f2 := h
theorem Z81.at_ {w0 W : World} {g : Nat} {f0 : List Int} {f1 : Int} {f2 : Int} {w' : World} {m : Nat} (hq : W.drewN m = w') (h : Z81 w0 W g f0 f1 f2) : Z81 w0 w' g f0 f1 f2 := by subst hq; exact Z81.drewN h m
theorem Z81.apart {w0 W : World} {g : Nat} {f0 : List Int} {f1 : Int} {f2 : Int} {α : Type} {d : Kd α} {e : Nat} {base : Nat} {ok : Nat → Prop} {v : Value} {xs : List α} (h : Z81 w0 W g f0 f1 f2) (ho : d.R e W base ok v xs) (ht : ∀ q, q ∈ e :: d.E → q ≠ 81) : d.R e W base (fun k => ok k ∧ k ≠ g) v xs := by
 obtain ⟨A0, c0, hb, hg, hr0⟩ := h
 exact kD ho hb ht
theorem Z81.own_ne {w0 W : World} {g : Nat} {f0 : List Int} {f1 : Int} {f2 : Int} {α : Type} {d : Kd α} {e : Nat} {base : Nat} {ok : Nat → Prop} {v : Value} {xs : List α} (h : Z81 w0 W g f0 f1 f2) (ho : d.R e W base ok v xs) (ht : e ≠ 81) : some g ≠ v.ownBlock := by
 obtain ⟨A0, c0, hb, hg, hr0⟩ := h
 exact Kd.R_ne ho hb ht
theorem Z81.apartQ {w0 W : World} {g : Nat} {f0 : List Int} {f1 : Int} {f2 : Int} {α : Type} {d : Kd α} {e : Nat} {base : Nat} {ok : Nat → Prop} {v : Value} {xs : List α} (h : Z81 w0 W g f0 f1 f2) (ho : d.Q e W base ok v xs) (ht : ∀ q, q ∈ e :: d.E → q ≠ 81) : d.Q e W base (fun k => ok k ∧ k ≠ g) v xs := by
 obtain ⟨A0, c0, hb, hg, hr0⟩ := h
 exact Kd.Q_types ho hb ht
theorem Z81.own_neQ {w0 W : World} {g : Nat} {f0 : List Int} {f1 : Int} {f2 : Int} {α : Type} {d : Kd α} {e : Nat} {base : Nat} {ok : Nat → Prop} {v : Value} {xs : List α} (h : Z81 w0 W g f0 f1 f2) (ho : d.Q e W base ok v xs) (ht : e ≠ 81) : some g ≠ v.ownBlock := by
 obtain ⟨A0, c0, hb, hg, hr0⟩ := h
 exact Kd.Q_ne ho hb ht
theorem Z81.apartS {w0 W : World} {g : Nat} {f0 : List Int} {f1 : Int} {f2 : Int} {α : Type} {d : Kd α} {e : Nat} {base : Nat} {ok : Nat → Prop} {v : Value} {xs : List α} (h : Z81 w0 W g f0 f1 f2) (ho : d.S e W base ok v xs) (ht : ∀ q, q ∈ e :: d.E → q ≠ 81) : d.S e W base (fun k => ok k ∧ k ≠ g) v xs := by
 obtain ⟨A0, c0, hb, hg, hr0⟩ := h
 exact Kd.S_types ho hb ht
theorem Z81.own_neS {w0 W : World} {g : Nat} {f0 : List Int} {f1 : Int} {f2 : Int} {α : Type} {d : Kd α} {e : Nat} {base : Nat} {ok : Nat → Prop} {v : Value} {xs : List α} (h : Z81 w0 W g f0 f1 f2) (ho : d.S e W base ok v xs) (ht : e ≠ 81) : some g ≠ v.ownBlock := by
 obtain ⟨A0, c0, hb, hg, hr0⟩ := h
 exact Kd.S_ne ho hb ht
theorem Z81.lt {w0 W : World} {g : Nat} {f0 : List Int} {f1 : Int} {f2 : Int} (h : Z81 w0 W g f0 f1 f2) : g < W.heap.size := by
 obtain ⟨A0, c0, hb, hg, hr0⟩ := h
 exact jI hb
theorem Z81.ge {w0 W : World} {g : Nat} {f0 : List Int} {f1 : Int} {f2 : Int} (h : Z81 w0 W g f0 f1 f2) : w0.heap.size ≤ g := by
 obtain ⟨A0, c0, hb, hg, hr0⟩ := h
 exact hg
theorem Z81.ne_blk {w0 W : World} {g : Nat} {f0 : List Int} {f1 : Int} {f2 : Int} {a : Nat} {cs : Array Value} {t : TypeId} {fr : Nat × Nat} (h : Z81 w0 W g f0 f1 f2) (hb2 : W.heap[a]? = some (.cells cs t fr)) (ht : t ≠ 81) : g ≠ a := by
 obtain ⟨A0, c0, hb, hg, hr0⟩ := h
 rintro rfl
 rw [hb] at hb2
 injection hb2 with hb2
 injection hb2 with _ ht2
 exact ht ht2.symm
theorem Z81.far {w0 W : World} {g : Nat} {f0 : List Int} {f1 : Int} {f2 : Int} {p : Addr} (h : Z81 w0 W g f0 f1 f2) (hne : g ≠ p.block) (u : Value) : Z81 w0 (W.setCell p u) g f0 f1 f2 := by
 obtain ⟨A0, c0, hb, hg, hr0⟩ := h
 exact ⟨A0, c0, blk_far hb hne u, hg, hr0⟩
theorem cellS81_0 {W : World} {g : Nat} {A0 : Option Addr} {c0 : Nat} {f0 : List Int} {f1 : Int} {f2 : Int} (h : W.heap[g]? = some (.cells #[.slice A0 f0.length c0, .int .i64 f1, .int .u64 f2] 81 (0, 0))) : W.cell? ⟨g, 0, none⟩ = some (.slice A0 f0.length c0) := (kV h 0).trans rfl
theorem cellS81_1 {W : World} {g : Nat} {A0 : Option Addr} {c0 : Nat} {f0 : List Int} {f1 : Int} {f2 : Int} (h : W.heap[g]? = some (.cells #[.slice A0 f0.length c0, .int .i64 f1, .int .u64 f2] 81 (0, 0))) : W.cell? ⟨g, 1, none⟩ = some (.int .i64 f1) := (kV h 1).trans rfl
theorem Z81.set_1 {w0 W : World} {g : Nat} {f0 : List Int} {f1 : Int} {f2 : Int} (h : Z81 w0 W g f0 f1 f2) (x : Int) : Z81 w0 (W.setCell ⟨g, 1, none⟩ (.int .i64 x)) g f0 x f2 := by
 obtain ⟨A0, c0, hb, hg, hr0⟩ := h
 exact ⟨A0, c0, by simpa using blk_set hb 1 (.int .i64 x), hg, hr0⟩
theorem cellS81_2 {W : World} {g : Nat} {A0 : Option Addr} {c0 : Nat} {f0 : List Int} {f1 : Int} {f2 : Int} (h : W.heap[g]? = some (.cells #[.slice A0 f0.length c0, .int .i64 f1, .int .u64 f2] 81 (0, 0))) : W.cell? ⟨g, 2, none⟩ = some (.int .u64 f2) := (kV h 2).trans rfl
theorem Z81.set_2 {w0 W : World} {g : Nat} {f0 : List Int} {f1 : Int} {f2 : Int} (h : Z81 w0 W g f0 f1 f2) (x : Int) : Z81 w0 (W.setCell ⟨g, 2, none⟩ (.int .u64 x)) g f0 f1 x := by
 obtain ⟨A0, c0, hb, hg, hr0⟩ := h
 exact ⟨A0, c0, by simpa using blk_set hb 2 (.int .u64 x), hg, hr0⟩
theorem Z81.new (w0 W : World) (A0 : Option Addr) (c0 : Nat) (f0 : List Int) (f1 : Int) (f2 : Int) (hB : Below w0.heap.size w0 W) (hr0 : Kd.C (Kd.int .u8) w0 A0 f0.length f0) : Z81 w0 (W.alloc (.cells #[.slice A0 f0.length c0, .int .i64 f1, .int .u64 f2] 81)) W.heap.size f0 f1 f2 := ⟨A0, c0, by simpa using heap_alloc_new W _, hB.size, hr0⟩
theorem Z81.uA {p q : Prop} (h : p) (hh : p → q := by intro h; repeat (first | (with_reducible first | exact h | apply Z81.alloc | apply Z81.drewN | apply Z81.drew | apply Z81.set_1 | apply Z81.set_2) | exact h)) : q := hh h
theorem Z81.uB {p q a : Prop} (h : p) (g : a) (hh : p → a → q := by intro h g; repeat (first | (with_reducible first | exact h | apply Z81.alloc | apply Z81.drewN | apply Z81.drew | apply Z81.set_1 | apply Z81.set_2 | refine Z81.far ?_ g _) | exact h)) : q := hh h g
theorem Z81.uC {p q a b : Prop} (h : p) (g : a) (k : b) (hh : p → a → b → q := by intro h g k; repeat (first | (with_reducible first | exact h | apply Z81.alloc | apply Z81.drewN | apply Z81.drew | apply Z81.set_1 | apply Z81.set_2 | refine Z81.far ?_ g _ | refine Z81.far ?_ k _) | exact h)) : q := hh h g k
theorem Z81.below_keepW {w0 w w1 w2 : World} {g : Nat} (h0 : Below w0.heap.size w0 w) (h1 : Below w.heap.size w w1) (hk : KeepBut w1 w2 g none) (hb : Below w0.heap.size w0 w2) (hg : w.heap.size ≤ g) : Below w.heap.size w w2 := ⟨hb.os.trans h0.os.symm, hb.tape.trans h0.tape.symm, hb.output.trans h0.output.symm, Nat.le_trans h1.size hk.1, fun k hk2 => (hk.2 k (Nat.lt_of_lt_of_le hk2 h1.size) (by omega) (by simp)).trans (h1.block k hk2)⟩
def laws_roll.l0 : Nat → List Int → Int → List Int → Int → Int → Option (List Int × Int × Int)
 | 0, _, _, _, _, _ => none
 | k + 1, x0, x6, x1531000, x1531001, x1531002 => if x6 < (x0.length : Int) then (if 0 ≤ x6 then (laws_roll.l0 k x0 (wrap64 (x6 + 1)) x1531000 x1531001 (IntKind.u64.wrap ((IntKind.u64.wrap ((IntKind.u64.wrap (x1531002 * 1099511628211)) + (IntKind.u64.wrap (rd x0 x6)))) + 5))) else (none)) else (some (x1531000, x1531001, x1531002))
def laws_roll.f (k : Nat) (l0 : List Int) (a1 : Int) : Option (List Int × Int × Int) := laws_roll.l0 k l0 0 l0 0 (IntKind.u64.wrap ((IntKind.u64.wrap (a1 * 7681)) + (IntKind.u64.wrap ((l0.length : Int)))))
def laws_roll.T5 : Bool × List (List Nat × List Nat) := (true, [([], []), ([], []), ([1], [1]), ([2], [2]), ([3], [3]), ([4], [4]), ([], []), ([], []), ([6, 7], [6, 7]), ([8], [8]), ([9], [9]), ([5, 10], [5, 10]), ([11], [11]), ([0, 0, 1, 2, 3, 4, 5, 6, 7, 8, 9, 10, 11, 12], [0]), ([13, 0, 1, 2, 3, 4, 5, 6, 7, 8, 9, 10, 11, 12], [13]), ([14, 12, 0, 1, 2, 3, 4, 5, 6, 7, 8, 9, 10, 11, 12], [12, 14])])
def laws_roll.B5 : List Nat := [0, 0, 2, 6, 14, 30, 0, 0, 192, 448, 960, 2046, 4094, 8191, 16383, 32767]
theorem laws_roll.tab5 : rtab .any (opsOf Tryd.f41 5) = laws_roll.T5 := by kernel_rfl
theorem laws_roll.bits5 : waitsOk laws_roll.T5.2 laws_roll.B5 = true := by kernel_rfl
set_option maxHeartbeats 8000000 in
set_option maxRecDepth 100000 in
theorem laws_roll.calls (k : Nat) (A0 : Option Addr) (c0 : Nat) (l0 : List Int) (a1 : Int) (r1 : List Int) (r2 : Int) (r3 : Int) (w0 w : World) (hB : Below w0.heap.size w0 w) (hr0 : Kd.C (Kd.int .u8) w0 A0 l0.length l0) (hc0 : l0.length ≤ c0) (h : laws_roll.f k l0 a1 = some (r1, r2, r3)) :
  Calls Tryd.prog 41 #[.slice A0 l0.length c0, .int .u64 a1] w fun e w' => ∃ g_ : Nat, e = .returned (.pointer (some ⟨g_, 0, none⟩)) ∧ Z81 w0 w' g_ r1 r2 r3 ∧ Below w0.heap.size w0 w' ∧ Below w.heap.size w w' ∧ w.heap.size ≤ g_ := by
 have hu81 := Tryd.underlying81
 have HR0 := zA hr0
 have HC0 := zA hc0
 clear hr0 hc0
 have HBW := zA (kW w.heap.size w)
 have HB00 := zA hB
 have HW0 := zA hB.size
 have HB := zA hB
 clear hB
 have H := h
 unfold laws_roll.f at H
 clear h
 have H' := zA H
 clear H
 go_enter Tryd.func41, Tryd.ntmps41
 go_wp2_with (first | (refine zBE 15 #[.slice A0 l0.length c0, .int .i64 0, .int .u64 (IntKind.u64.wrap ((IntKind.u64.wrap (a1 * 7681)) + (IntKind.u64.wrap ((l0.length : Int)))))] 81 ?_; intro gb1530 hg w3 hbox hb; replace HB := zA (kQ (zQ HB.out) hb); have BK1530 := zA (hbox); have GW1530 := zA (zBH hg HBW.out); have GE1530 := zA ((Nat.le_trans HW0.out (by rw [hg]; exact (kP (zQ HBW.out)) : w.heap.size ≤ gb1530) : w0.heap.size ≤ gb1530)); replace HBW := zA (kQ HBW.out hb); clear hb hbox hg))
 go_loopg [6] k (fun kq v6 w' => ∃ (x6_1 : Int) (x1531002_1 : Int), v6 = .int .i64 x6_1 ∧ Aside0 (laws_roll.l0 kq l0 x6_1 l0 0 x1531002_1 = some (r1, r2, r3)) ∧ Aside0 (kq ≤ k) ∧ Aside0 (w'.heap[gb1530]? = some (.cells #[(.slice A0 l0.length c0), .int .i64 0, .int .u64 x1531002_1] 81 (0, 0))) ∧ Aside0 (Below w0.heap.size w0 w') ∧ Aside0 (Below w.heap.size w w'))
 case atStart => exact ⟨(0), (IntKind.u64.wrap ((IntKind.u64.wrap (a1 * 7681)) + (IntKind.u64.wrap ((l0.length : Int))))), zs, H', ⟨Nat.le_refl _⟩, ⟨zR BK1530.out⟩, ⟨zT HB.out GE1530.out⟩, ⟨zT HBW.out GW1530.out⟩⟩
 case round =>
  clear H'
  obtain ⟨x6_1, x1531002_1, rfl, HA, HK1, BK1530, HB, HBW⟩ := hrel
  cases gk with
  | zero => exact absurd HA.out (by simp [laws_roll.l0])
  | succ k1 =>
   have H := HA.out
   clear HA
   simp only [laws_roll.l0] at H
   by_cases c4 : x6_1 < (l0.length : Int)
   ·rw [if_pos c4] at H
    have c4b0 : decide (x6_1 < (l0.length : Int)) = true := decide_eq_true c4
    clear c4
    by_cases c5 : 0 ≤ x6_1
    ·rw [if_pos c5] at H
     have c5b0 : decide (0 ≤ x6_1) = true := decide_eq_true c5
     clear c5
     have H' := zA H
     clear H
     try go_wp2
     have n0_ := zA (zK BK1530.out)
     have n1_ := zA (zD HB.out)
     have n1w_ := zA (zD HBW.out)
     clear BK1530 HB HBW
     have BK1530 := n0_
     have HB := n1_
     have HBW := n1w_
     clear n0_ n1_
     have p1531 : 0 ≤ (x6_1 : Int) := zd
     have q1531 : x6_1 < (l0.length : Int) := zd
     obtain ⟨ad1531, e1531, hx1531_0⟩ := Kd.at_int HR0.out x6_1 p1531 q1531
     have hw1531_0 := hx1531_0
     cases e1531
     replace hx1531_0 := pw_cell_below HB.out hx1531_0
     replace p1531 := eq_true p1531
     replace q1531 := eq_true q1531
     refine start_ (n := 16) (S := fun w' => w'.cell? ⟨gb1530, 0, none⟩ = some (.slice (some ad1531) l0.length c0) ∧ w'.cell? ⟨gb1530, 1, none⟩ = some (.int .i64 0) ∧ w'.cell? ⟨gb1530, 2, none⟩ = some (.int .u64 x1531002_1) ∧ w'.cell? (ad1531.add (x6_1).toNat) = some (.int .u8 (rd l0 x6_1))) (ds := [15]) #[false, false, false, false, false, false, false, false, false, false, false, false, false, false, false, false] (by kernel_rfl) rfl rfl ⟨(kV BK1530.out 0).trans rfl, (kV BK1530.out 1).trans rfl, (kV BK1530.out 2).trans rfl, (pw_cell_below HB.out hw1531_0)⟩ (fun hHeld => ?_); refine with_tabW laws_roll.tab5 laws_roll.bits5 (fun HT_ HW_ => ?_)
     generalize wr.drew = w6 at BK1530 HB HBW hx1531_0 hHeld ⊢
     refine zp 0 (some 22) #[true, false, false, false, false, false, false, false, false, false, false, false, false, false, false, false] HT_.out ?_
     refine zp 1 (some 23) #[true, true, false, false, false, false, false, false, false, false, false, false, false, false, false, false] HT_.out ?_
     refine zp 2 (some 24) #[true, true, true, false, false, false, false, false, false, false, false, false, false, false, false, false] HT_.out ?_
     refine zp 3 (some 25) #[true, true, true, true, false, false, false, false, false, false, false, false, false, false, false, false] HT_.out ?_
     refine zp 6 (some 28) #[true, true, true, true, false, false, true, false, false, false, false, false, false, false, false, false] HT_.out ?_
     refine zp 7 (some 29) #[true, true, true, true, false, false, true, true, false, false, false, false, false, false, false, false] HT_.out ?_
     refine zp 8 (some 30) #[true, true, true, true, false, false, true, true, true, false, false, false, false, false, false, false] HT_.out ?_
     refine zf 4 (some 26) #[true, true, true, true, true, false, true, true, true, false, false, false, false, false, false, false] HT_.out HW_.out hHeld ?_
     refine zp 5 (some 27) #[true, true, true, true, true, true, true, true, true, false, false, false, false, false, false, false] HT_.out ?_
     refine zf 9 (some 31) #[true, true, true, true, true, true, true, true, true, true, false, false, false, false, false, false] HT_.out HW_.out hHeld ?_
     refine zp 10 (some 32) #[true, true, true, true, true, true, true, true, true, true, true, false, false, false, false, false] HT_.out ?_
     refine zp 11 (some 33) #[true, true, true, true, true, true, true, true, true, true, true, true, false, false, false, false] HT_.out ?_
     refine zp 12 (some 34) #[true, true, true, true, true, true, true, true, true, true, true, true, true, false, false, false] HT_.out ?_
     refine zp 13 (some 35) #[true, true, true, true, true, true, true, true, true, true, true, true, true, true, false, false] HT_.out ?_
     refine zp 14 (some 36) #[true, true, true, true, true, true, true, true, true, true, true, true, true, true, true, false] HT_.out ?_
     refine last_ (i := 15) (N := none) #[true, true, true, true, true, true, true, true, true, true, true, true, true, true, true, true] rfl rfl (one_of HT_.out (by kernel_rfl)) (by decide) (fun K hK => ?_)
     have hs7 : w6.cell? ⟨gb1530, 2, none⟩ = some (.int .u64 x1531002_1) := (kV BK1530.out 2).trans rfl
     have hfs7 := jH BK1530.out 2
     refine skip_ (w1 := ?_) (by rfl) rfl ?_ ?_
     rotate_left
     ·go_simp
      rfl
     refine hK.out _ _ ?_
     clear hK K
     refine done_ (done_of HT_.out (by kernel_rfl)) ?_
     try go_wp2
     go_roundg k1
     case measure => have := HK1.out; omega
     case rel => exact ⟨(wrap64 (x6_1 + 1)), (IntKind.u64.wrap ((IntKind.u64.wrap ((IntKind.u64.wrap (x1531002_1 * 1099511628211)) + (IntKind.u64.wrap (rd l0 x6_1)))) + 5)), zs, H', ⟨by have := HK1.out; omega⟩, ⟨by (with_reducible repeat (first | refine zJ ?_ _ | refine zK ?_ | refine zI ?_ _)); refine blk_put (cs := #[.slice (some ad1531) l0.length c0, .int .i64 0, .int .u64 x1531002_1]) ?_ 2 _ rfl; (with_reducible repeat (first | refine zJ ?_ _ | refine zK ?_ | refine zI ?_ _)); exact BK1530.out⟩, ⟨zT HB.out GE1530.out⟩, ⟨zT HBW.out GW1530.out⟩⟩
    rw [if_neg c5] at H
    exact absurd H (by simp)
   rw [if_neg c4] at H
   have c4b0 : decide (x6_1 < (l0.length : Int)) = false := decide_eq_false c4
   clear c4
   simp only [Option.some.injEq, Prod.mk.injEq] at H
   obtain ⟨rfl, rfl, rfl⟩ := H
   go_wp2
   go_ret
   exact ⟨_, rfl, (show Z81 w0 _ gb1530 l0 0 x1531002_1 from ⟨_, _, by (with_reducible repeat (first | refine zJ ?_ _ | refine zK ?_ | refine zI ?_ _)); exact BK1530.out, GE1530.out, HR0.out⟩), zT HB.out GE1530.out, zT HBW.out GW1530.out, GW1530.out⟩
end Go.Proofs.YtkiacoilecdepaaDoor.PAll
