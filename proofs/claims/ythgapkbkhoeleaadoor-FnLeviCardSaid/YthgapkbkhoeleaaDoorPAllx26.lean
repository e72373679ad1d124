-- Printed by a program of the session (wip/tools/pgen.py) out of the translation. Not trusted: Lean checks it.
import Derived.Test.YthgapkbkhoeleaaDoorPAllx0
import Derived.Test.YthgapkbkhoeleaaDoorPAllx2
import Derived.Test.YthgapkbkhoeleaaDoorPAllx5
import Derived.Test.YthgapkbkhoeleaaDoorPAllx10
import Derived.Test.YthgapkbkhoeleaaDoorPAllx12
import Derived.Test.YthgapkbkhoeleaaDoorPAllx15
namespace Go.Proofs.YthgapkbkhoeleaaDoor.PAll
open Go.RowKit Go.Proofs.YthgapkbkhoeleaaDoor.T Go.Proofs.YthgapkbkhoeleaaDoorW.PrintWords Go.Proofs.YthgapkbkhoeleaaDoorW.PrintLast Go.Proofs.YthgapkbkhoeleaaDoorW.PrintMore
attribute [local go_sem] max2_int min2_int max_two min_two max_three min_three max_four min_four   -- for this text's walks alone
set_option linter.unusedVariables false
set_option linter.unusedSimpArgs false

/-! ### laws_likeRows5: function 49 -/
def laws_likeRows5.l0 : Nat → List (List Int) → List (List Int) → Int → Option (Bool)
 | 0, _, _, _ => none
 | k + 1, x0, x1, x5 => if x5 < (x0.length : Int) then (if 0 ≤ x5 then (if x5 < (x1.length : Int) then ((laws_likeInts.f k (rd_L1 x0 x5) (rd_L1 x1 x5)).bind fun t681 => (if t681 = true then (laws_likeRows5.l0 k x0 x1 (wrap64 (x5 + 1))) else (some false))) else (none)) else (none)) else (some true)
def laws_likeRows5.f (k : Nat) (l0 : List (List Int)) (l1 : List (List Int)) : Option (Bool) := if (l0.length : Int) = (l1.length : Int) then (laws_likeRows5.l0 k l0 l1 0) else (some false)

set_option maxHeartbeats 8000000 in
set_option maxRecDepth 100000 in
theorem laws_likeRows5.calls (k : Nat) (A0 : Option Addr) (c0 : Nat) (l0 : List (List Int)) (A1 : Option Addr) (c1 : Nat) (l1 : List (List Int)) (r : Bool) (w : World) (hr0 : Kd.C (Kd.slice 2 (Kd.int .i64)) w A0 l0.length l0) (hc0 : l0.length ≤ c0) (hr1 : Kd.C (Kd.slice 2 (Kd.int .i64)) w A1 l1.length l1) (hc1 : l1.length ≤ c1) (h : laws_likeRows5.f k l0 l1 = some r) :
  Calls Tryd.prog 49 #[.slice A0 l0.length c0, .slice A1 l1.length c1] w fun e w' => e = .returned (.bool r) ∧ Drawn0 w w' := by
 have HR0 := zA hr0
 have HC0 := zA hc0
 clear hr0 hc0
 have HR1 := zA hr1
 have HC1 := zA hc1
 clear hr1 hc1
 have H := h
 unfold laws_likeRows5.f at H
 clear h
 by_cases c3 : (l0.length : Int) = (l1.length : Int)
 ·rw [if_pos c3] at H
  obtain ⟨c3b0, c3b1⟩ := zT1 c3
  have c3b2 : (l0.length == l1.length) = true := by first | simpa using c3 | (simp at c3 ⊢; omega)
  clear c3
  have H' := zA H
  clear H
  go_enter Tryd.func49, Tryd.ntmps49
  go_wp2
  repeat (go_quiet (fail); try go_wp2)
  go_loopg [5] k (fun kq v5 w' => ∃ (x5_1 : Int), v5 = .int .i64 x5_1 ∧ Aside0 (laws_likeRows5.l0 kq l0 l1 x5_1 = some r) ∧ Aside0 (kq ≤ k) ∧ Drawn0 w w')
  case atStart => exact ⟨(0), zs, H', ⟨Nat.le_refl _⟩, by repeat (first | exact Drawn0.refl _ | apply Drawn0.step)⟩
  case round =>
   clear H'
   try clear c1
   try clear c3
   obtain ⟨x5_1, rfl, HA, HK1, ⟨m1, rfl⟩⟩ := hrel
   cases gk with
   | zero => exact absurd HA.out (by simp [laws_likeRows5.l0])
   | succ k1 =>
    have H := HA.out
    clear HA
    simp only [laws_likeRows5.l0] at H
    by_cases c4 : x5_1 < (l0.length : Int)
    ·rw [if_pos c4] at H
     have c4b0 : decide (x5_1 < (l0.length : Int)) = true := decide_eq_true c4
     clear c4
     by_cases c5 : 0 ≤ x5_1
     ·rw [if_pos c5] at H
      have c5b0 : decide (0 ≤ x5_1) = true := decide_eq_true c5
      clear c5
      by_cases c6 : x5_1 < (l1.length : Int)
      ·rw [if_pos c6] at H
       have c6b0 : decide (x5_1 < (l1.length : Int)) = true := decide_eq_true c6
       clear c6
       obtain ⟨t681, A7, H⟩ := zb H
       try dsimp only at H
       by_cases c8 : t681 = true
       ·subst c8
        rw [if_pos rfl] at H
        have H' := zA H
        clear H
        have p679 : 0 ≤ (x5_1 : Int) := zd
        have q679 : x5_1 < (l0.length : Int) := zd
        obtain ⟨ad679, A679_0, c679_0, e679, hx679_0, hl679_0, hi679_0⟩ := at_L1 HR0.out x5_1 p679 q679
        cases e679
        have HR679_0 := zA hi679_0
        have HC679_0 := zA hl679_0
        clear hi679_0 hl679_0
        replace p679 := eq_true p679
        replace q679 := eq_true q679
        have p680 : 0 ≤ (x5_1 : Int) := zd
        have q680 : x5_1 < (l1.length : Int) := zd
        obtain ⟨ad680, A680_0, c680_0, e680, hx680_0, hl680_0, hi680_0⟩ := at_L1 HR1.out x5_1 p680 q680
        cases e680
        have HR680_0 := zA hi680_0
        have HC680_0 := zA hl680_0
        clear hi680_0 hl680_0
        replace p680 := eq_true p680
        replace q680 := eq_true q680
        go_wp2_with (first | (go_at_call 54; (with_reducible refine (laws_likeInts.calls k1 _ _ (rd_L1 l0 x5_1) _ _ (rd_L1 l1 x5_1) true _ ?side1 ?side2 ?side3 ?side4 A7.out).mono ?_); (case side1 => exact zS HR679_0.out); (case side2 => exact HC679_0.out); (case side3 => exact zS HR680_0.out); (case side4 => exact HC680_0.out); rintro e w' ⟨rfl, ⟨nd, rfl⟩⟩; (try exact zw)))
        repeat (go_quiet (first | (go_at_call 54; (with_reducible refine (laws_likeInts.calls k1 _ _ (rd_L1 l0 x5_1) _ _ (rd_L1 l1 x5_1) true _ ?side1 ?side2 ?side3 ?side4 A7.out).mono ?_); (case side1 => exact zS HR679_0.out); (case side2 => exact HC679_0.out); (case side3 => exact zS HR680_0.out); (case side4 => exact HC680_0.out); rintro e w' ⟨rfl, ⟨nd, rfl⟩⟩; (try exact zw))); try go_wp2_with (first | (go_at_call 54; (with_reducible refine (laws_likeInts.calls k1 _ _ (rd_L1 l0 x5_1) _ _ (rd_L1 l1 x5_1) true _ ?side1 ?side2 ?side3 ?side4 A7.out).mono ?_); (case side1 => exact zS HR679_0.out); (case side2 => exact HC679_0.out); (case side3 => exact zS HR680_0.out); (case side4 => exact HC680_0.out); rintro e w' ⟨rfl, ⟨nd, rfl⟩⟩; (try exact zw))))
        go_roundg k1
        case measure => have := HK1.out; omega
        case rel => exact ⟨(wrap64 (x5_1 + 1)), zs, H', ⟨by have := HK1.out; omega⟩, by repeat (first | exact Drawn0.refl _ | apply Drawn0.step)⟩
       replace c8 := Bool.eq_false_iff.mpr c8
       subst c8
       rw [if_neg (show ¬ (false = true) by decide)] at H
       obtain rfl := Option.some.inj H
       have p679 : 0 ≤ (x5_1 : Int) := zd
       have q679 : x5_1 < (l0.length : Int) := zd
       obtain ⟨ad679, A679_0, c679_0, e679, hx679_0, hl679_0, hi679_0⟩ := at_L1 HR0.out x5_1 p679 q679
       cases e679
       have HR679_0 := zA hi679_0
       have HC679_0 := zA hl679_0
       clear hi679_0 hl679_0
       replace p679 := eq_true p679
       replace q679 := eq_true q679
       have p680 : 0 ≤ (x5_1 : Int) := zd
       have q680 : x5_1 < (l1.length : Int) := zd
       obtain ⟨ad680, A680_0, c680_0, e680, hx680_0, hl680_0, hi680_0⟩ := at_L1 HR1.out x5_1 p680 q680
       cases e680
       have HR680_0 := zA hi680_0
       have HC680_0 := zA hl680_0
       clear hi680_0 hl680_0
       replace p680 := eq_true p680
       replace q680 := eq_true q680
       go_wp2_with (first | (go_at_call 54; (with_reducible refine (laws_likeInts.calls k1 _ _ (rd_L1 l0 x5_1) _ _ (rd_L1 l1 x5_1) false _ ?side1 ?side2 ?side3 ?side4 A7.out).mono ?_); (case side1 => exact zS HR679_0.out); (case side2 => exact HC679_0.out); (case side3 => exact zS HR680_0.out); (case side4 => exact HC680_0.out); rintro e w' ⟨rfl, ⟨nd, rfl⟩⟩; (try exact zw)))
       repeat (go_quiet (first | (go_at_call 54; (with_reducible refine (laws_likeInts.calls k1 _ _ (rd_L1 l0 x5_1) _ _ (rd_L1 l1 x5_1) false _ ?side1 ?side2 ?side3 ?side4 A7.out).mono ?_); (case side1 => exact zS HR679_0.out); (case side2 => exact HC679_0.out); (case side3 => exact zS HR680_0.out); (case side4 => exact HC680_0.out); rintro e w' ⟨rfl, ⟨nd, rfl⟩⟩; (try exact zw))); try go_wp2_with (first | (go_at_call 54; (with_reducible refine (laws_likeInts.calls k1 _ _ (rd_L1 l0 x5_1) _ _ (rd_L1 l1 x5_1) false _ ?side1 ?side2 ?side3 ?side4 A7.out).mono ?_); (case side1 => exact zS HR679_0.out); (case side2 => exact HC679_0.out); (case side3 => exact zS HR680_0.out); (case side4 => exact HC680_0.out); rintro e w' ⟨rfl, ⟨nd, rfl⟩⟩; (try exact zw))))
       go_ret
       exact ⟨zs, by repeat (first | exact Drawn0.refl _ | apply Drawn0.step)⟩
      rw [if_neg c6] at H
      exact absurd H (by simp)
     rw [if_neg c5] at H
     exact absurd H (by simp)
    rw [if_neg c4] at H
    have c4b0 : decide (x5_1 < (l0.length : Int)) = false := decide_eq_false c4
    clear c4
    obtain rfl := Option.some.inj H
    go_wp2
    repeat (go_quiet (fail); try go_wp2)
    go_ret
    exact ⟨zs, by repeat (first | exact Drawn0.refl _ | apply Drawn0.step)⟩
 rw [if_neg c3] at H
 obtain ⟨c3b0, c3b1⟩ := zT2 c3
 have c3b2 : (l0.length == l1.length) = false := by first | simpa using c3 | (simp at c3 ⊢; omega)
 obtain rfl := Option.some.inj H
 go_enter Tryd.func49, Tryd.ntmps49
 go_wp2
 repeat (go_quiet (fail); try go_wp2)
 go_ret
 exact ⟨zs, by repeat (first | exact Drawn0.refl _ | apply Drawn0.step)⟩

/-! ### impl_AreIndependent: function 50 -/
def impl_AreIndependent.f (k : Nat) (a0_0 : Int) (l0_1 : List Int) (l1 : List Int) (l2 : List Int) : Option (Bool × Int) := (impl_checkWords.f k a0_0 l0_1 (([l1, l2] : List (List Int)))).bind fun t688 => (if t688 = 0 then ((impl_Alphabet_ties.f a0_0 l0_1).bind fun t689 => ((impl_ties_apart.f k t689 l1 l2).bind fun t692 => (some (t692, 0)))) else (some (false, t688)))

set_option maxHeartbeats 8000000 in
set_option maxRecDepth 100000 in
theorem impl_AreIndependent.calls (k : Nat) (a0_0 : Int) (P0_1_ : Nat → Prop) (A0_1 : Option Addr) (c0_1 : Nat) (l0_1 : List Int) (P1_ : Nat → Prop) (A1 : Option Addr) (c1 : Nat) (l1 : List Int) (P2_ : Nat → Prop) (A2 : Option Addr) (c2 : Nat) (l2 : List Int) (r1 : Bool) (r2 : Int) (w : World) (hs0_1 : Kd.V (Kd.int .i64) 2 w w.heap.size (fun k_ => P0_1_ k_) (.slice A0_1 l0_1.length c0_1) l0_1) (hs1 : Kd.V (Kd.int .i64) 2 w w.heap.size (fun k_ => P1_ k_) (.slice A1 l1.length c1) l1) (hs2 : Kd.V (Kd.int .i64) 2 w w.heap.size (fun k_ => P2_ k_) (.slice A2 l2.length c2) l2) (hT : TabW w) (h : impl_AreIndependent.f k a0_0 l0_1 l1 l2 = some (r1, r2)) :
  Calls Tryd.prog 50 #[.agg #[.int .i64 a0_0, .slice A0_1 l0_1.length c0_1], .slice A1 l1.length c1, .slice A2 l2.length c2] w fun e w' => e = .returned (.tuple #[.bool r1, .int .i64 r2]) ∧ Below w.heap.size w w' := by
 have hu29 := Tryd.underlying29
 have HT := zA hT
 clear hT
 have HO0_1 := zA (show Kd.V (Kd.int .i64) 2 w w.heap.size (fun k_ => ((P0_1_ k_ ∨ P1_ k_ ∨ P2_ k_) ∨ w.heap.size ≤ k_)) (.slice A0_1 l0_1.length c0_1) l0_1 from kN hs0_1 (fun k_ hk => .inl (.inl hk)))
 have HO1 := zA (show Kd.V (Kd.int .i64) 2 w w.heap.size (fun k_ => ((P0_1_ k_ ∨ P1_ k_ ∨ P2_ k_) ∨ w.heap.size ≤ k_)) (.slice A1 l1.length c1) l1 from kN hs1 (fun k_ hk => .inl (.inr (.inl hk))))
 have HO2 := zA (show Kd.V (Kd.int .i64) 2 w w.heap.size (fun k_ => ((P0_1_ k_ ∨ P1_ k_ ∨ P2_ k_) ∨ w.heap.size ≤ k_)) (.slice A2 l2.length c2) l2 from kN hs2 (fun k_ hk => .inl (.inr (.inr hk))))
 have HB := zA (kW w.heap.size w)
 have H := h
 unfold impl_AreIndependent.f at H
 clear h
 obtain ⟨y685, hy685⟩ : ∃ y_ : List (List Int), y_ = (([l1, l2] : List (List Int))) := ⟨_, rfl⟩
 replace H : ((impl_checkWords.f k a0_0 l0_1 y685).bind fun t688 => (if t688 = 0 then ((impl_Alphabet_ties.f a0_0 l0_1).bind fun t689 => ((impl_ties_apart.f k t689 l1 l2).bind fun t692 => (some (t692, 0)))) else (some (false, t688)))) = some (r1, r2) := zy hy685 H
 have Ny685 := zA hy685
 clear hy685
 obtain ⟨t688, A4, H⟩ := zb H
 try dsimp only at H
 by_cases c5 : t688 = 0
 ·rw [if_pos c5] at H
  obtain ⟨c5b0, c5b1⟩ := zT1 c5
  clear c5
  obtain ⟨t689, A6, H⟩ := zb H
  try dsimp only at H
  obtain ⟨t692, A7, H⟩ := zb H
  try dsimp only at H
  simp only [Option.some.injEq, Prod.mk.injEq] at H
  obtain ⟨rfl, rfl⟩ := H
  go_enter Tryd.func50, Tryd.ntmps50
  go_wp2_with (first | (refine zBE 3 #[.int .i64 a0_0, .slice A0_1 l0_1.length c0_1] 29 ?_; intro gb684 hg w8 hbox hb; replace HO0_1 := zA (kG (jD (zPV HO0_1.out) gb684 (Nat.le_of_eq hg.symm)) hb); replace HO1 := zA (kG (jD (zPV HO1.out) gb684 (Nat.le_of_eq hg.symm)) hb); replace HO2 := zA (kG (jD (zPV HO2.out) gb684 (Nat.le_of_eq hg.symm)) hb); have BK684 := zA (hbox); have GW684 := zA (zBH hg HB.out); have GE684 := zA (zBH hg HB.out); replace HB := zA (kQ (zQ HB.out) hb); clear hb hbox hg; obtain ⟨hcz9_0, hcz9_1, hfz9_0, hfz9_1⟩ := zB3 BK684.out) | ((with_reducible refine kS (N := 12) rfl ?_); refine Kd.N_lit (Kd.slice 2 (Kd.int .i64)) _ 22 ?hg (N' := 12) ?hd (xs := ([l1, l2] : List (List Int))) (inner := [.slice A1 l1.length c1, .slice A2 l2.length c2]) (ok := (fun k_ => ((P0_1_ k_ ∨ P1_ k_ ∨ P2_ k_) ∨ w.heap.size ≤ k_) ∧ k_ ≠ gb684)) (okp := (fun k_ => ((P0_1_ k_ ∨ P1_ k_ ∨ P2_ k_) ∨ w.heap.size ≤ k_) ∧ k_ ≠ gb684)) ?hr ?hp (fun _ hk => hk) ((show ∀ k_ : Nat, (_ : Nat) ≤ k_ → (fun k_ => ((P0_1_ k_ ∨ P1_ k_ ∨ P2_ k_) ∨ w.heap.size ≤ k_) ∧ k_ ≠ gb684) k_ from fun k_ hk => ⟨(.inr (Nat.le_trans (kP (zT HB.out GE684.out)) hk)), jE (g := gb684) (o := .cells #[.int .i64 a0_0, .slice A0_1 l0_1.length c0_1] 29 (0, 0)) (zR BK684.out) k_ hk⟩) _ (Nat.le_refl _)) (kW _ _) (Nat.le_refl _) (by simp) ?_; (case hd => rfl); (case hg => rfl); (case hr => first | (go_simp; done) | (go_simp; rfl)); (case hp => exact (Reps.one (show Kd.FK (Kd.slice 2 (Kd.int .i64)) _ _ l1 [.slice A1 l1.length c1] from (zFK (kN (ok' := (fun k_ => ((P0_1_ k_ ∨ P1_ k_ ∨ P2_ k_) ∨ w.heap.size ≤ k_) ∧ k_ ≠ gb684)) (HO1.out) (fun k_ hk => ⟨hk.1, hk.2⟩)))) (Reps.one (show Kd.FK (Kd.slice 2 (Kd.int .i64)) _ _ l2 [.slice A2 l2.length c2] from (zFK (kN (ok' := (fun k_ => ((P0_1_ k_ ∨ P1_ k_ ∨ P2_ k_) ∨ w.heap.size ≤ k_) ∧ k_ ≠ gb684)) (HO2.out) (fun k_ hk => ⟨hk.1, hk.2⟩)))) (Reps.none _ _)))); intro v686 w10 ho11 hb hg_ hnew_; clear hg_ hnew_; (first | rw [← Ny685.out] at ho11 | (simp only [Int.reduceToNat] at ho11; rw [← Ny685.out] at ho11)); replace HO0_1 := zA (kK (zPV HO0_1.out) (Kd.N_base ho11) hb); replace HO1 := zA (kK (zPV HO1.out) (Kd.N_base ho11) hb); replace HO2 := zA (kK (zPV HO2.out) (Kd.N_base ho11) hb); have HO687 := zA (jN ho11 (kP (zT HB.out GE684.out))); replace BK684 := zA (zB1 BK684.out hb); replace HB := zA (kQ (zT HB.out GE684.out) hb); clear hb ho11; obtain ⟨Ao12, co12, eo12⟩ := Kd.N_slice HO687.out; subst eo12) | (refine zO (some 13) Tryd.func76 #[.agg #[.int .i64 a0_0, .slice A0_1 l0_1.length c0_1], .slice Ao12 y685.length co12] ?_; (with_reducible refine (impl_checkWords.calls k a0_0 _ _ l0_1 _ _ y685 t688 _ ?side1 ?side2 ?side3 ?side4 ?side5 A4.out).mono ?_); (case side1 => exact zS (kJ HO0_1.out).2.2); (case side2 => exact (kJ HO0_1.out).2.1); (case side3 => exact zS (Kd.N_reads' HO687.out).2.2); (case side4 => exact (Kd.N_reads' HO687.out).2.1); (case side5 => exact TabW.below HT.out (zT HB.out GE684.out)); rintro e w13 ⟨rfl, hb⟩; refine ⟨_, rfl, ?_⟩; replace HO0_1 := zA (kG (zPV HO0_1.out) hb); replace HO1 := zA (kG (zPV HO1.out) hb); replace HO2 := zA (kG (zPV HO2.out) hb); replace HO687 := zA (kZ (zPN HO687.out) hb); replace BK684 := zA (zB1 BK684.out hb); replace HB := zA (kQ (zT HB.out GE684.out) hb); (try clear hb); obtain ⟨hcz14_0, hcz14_1, hfz14_0, hfz14_1⟩ := zB3 BK684.out) | (refine zO (some 18) Tryd.func77 #[.agg #[.int .i64 a0_0, .slice A0_1 l0_1.length c0_1]] ?_; (with_reducible refine (impl_Alphabet_ties.calls a0_0 (fun k_ => ((((P0_1_ k_ ∨ P1_ k_ ∨ P2_ k_) ∨ w.heap.size ≤ k_) ∧ k_ ≠ gb684) ∧ some k_ ≠ (.slice Ao12 y685.length co12 : Value).ownBlock)) _ _ l0_1 t689 _ ?side1 A6.out).mono ?_); (case side1 => exact HO0_1.out); rintro e w15 ⟨v690, rfl, ho0, hb⟩; refine ⟨_, rfl, ?_⟩; replace HO0_1 := zA (kG (zPV HO0_1.out) hb); replace HO1 := zA (kG (zPV HO1.out) hb); replace HO2 := zA (kG (zPV HO2.out) hb); have HO691 := zA (jM (kN (ok' := fun k_ => ((P0_1_ k_ ∨ P1_ k_ ∨ P2_ k_) ∨ w.heap.size ≤ k_) ∧ some k_ ≠ (.slice Ao12 y685.length co12 : Value).ownBlock ∧ k_ ≠ gb684) ho0 (fun k_ hk_ => ⟨Or.elim hk_ (fun hs_ => hs_.1.1) (fun hn_ => (.inr (Nat.le_trans (kP (zT HB.out GE684.out)) hn_))), Or.elim hk_ (fun hs_ => hs_.2) (fun hn_ => (jF (jA (zPN HO687.out)) k_ hn_)), Or.elim hk_ (fun hs_ => hs_.1.2) (fun hn_ => (jE (g := gb684) (o := .cells #[.int .i64 a0_0, .slice A0_1 l0_1.length c0_1] 29 (0, 0)) (zR BK684.out) k_ hn_))⟩)) (kP (zT HB.out GE684.out))); replace HO687 := zA (kZ (zPN HO687.out) hb); replace BK684 := zA (zB1 BK684.out hb); replace HB := zA (kQ (zT HB.out GE684.out) hb); (try clear hb); (try clear ho0); obtain ⟨Ao16, co16, eo16⟩ := Kd.V_slice HO691.out; subst eo16) | (refine zO (some 21) Tryd.func129 #[.slice Ao16 t689.length co16, .slice A1 l1.length c1, .slice A2 l2.length c2] ?_; (with_reducible refine (impl_ties_apart.calls k _ _ t689 _ _ l1 _ _ l2 t692 _ ?side1 ?side2 ?side3 ?side4 ?side5 ?side6 A7.out).mono ?_); (case side1 => exact zS (kJ HO691.out).2.2); (case side2 => exact (kJ HO691.out).2.1); (case side3 => exact zS (kJ HO1.out).2.2); (case side4 => exact (kJ HO1.out).2.1); (case side5 => exact zS (kJ HO2.out).2.2); (case side6 => exact (kJ HO2.out).2.1); rintro e w17 ⟨rfl, hb⟩; refine ⟨_, rfl, ?_⟩; replace HO0_1 := zA (kG (zPV HO0_1.out) hb); replace HO1 := zA (kG (zPV HO1.out) hb); replace HO2 := zA (kG (zPV HO2.out) hb); replace HO687 := zA (kZ (zPN HO687.out) hb); replace HO691 := zA (kG (zPV HO691.out) hb); replace BK684 := zA (zB1 BK684.out hb); replace HB := zA (kQ (zT HB.out GE684.out) hb); (try clear hb)))
  go_ret2
  exact ⟨zr, zT HB.out GE684.out⟩
 rw [if_neg c5] at H
 obtain ⟨c5b0, c5b1⟩ := zT2 c5
 simp only [Option.some.injEq, Prod.mk.injEq] at H
 obtain ⟨rfl, rfl⟩ := H
 go_enter Tryd.func50, Tryd.ntmps50
 go_wp2_with (first | (refine zBE 3 #[.int .i64 a0_0, .slice A0_1 l0_1.length c0_1] 29 ?_; intro gb684 hg w18 hbox hb; replace HO0_1 := zA (kG (jD (zPV HO0_1.out) gb684 (Nat.le_of_eq hg.symm)) hb); replace HO1 := zA (kG (jD (zPV HO1.out) gb684 (Nat.le_of_eq hg.symm)) hb); replace HO2 := zA (kG (jD (zPV HO2.out) gb684 (Nat.le_of_eq hg.symm)) hb); have BK684 := zA (hbox); have GW684 := zA (zBH hg HB.out); have GE684 := zA (zBH hg HB.out); replace HB := zA (kQ (zQ HB.out) hb); clear hb hbox hg; obtain ⟨hcz19_0, hcz19_1, hfz19_0, hfz19_1⟩ := zB3 BK684.out) | ((with_reducible refine kS (N := 12) rfl ?_); refine Kd.N_lit (Kd.slice 2 (Kd.int .i64)) _ 22 ?hg (N' := 12) ?hd (xs := ([l1, l2] : List (List Int))) (inner := [.slice A1 l1.length c1, .slice A2 l2.length c2]) (ok := (fun k_ => ((P0_1_ k_ ∨ P1_ k_ ∨ P2_ k_) ∨ w.heap.size ≤ k_) ∧ k_ ≠ gb684)) (okp := (fun k_ => ((P0_1_ k_ ∨ P1_ k_ ∨ P2_ k_) ∨ w.heap.size ≤ k_) ∧ k_ ≠ gb684)) ?hr ?hp (fun _ hk => hk) ((show ∀ k_ : Nat, (_ : Nat) ≤ k_ → (fun k_ => ((P0_1_ k_ ∨ P1_ k_ ∨ P2_ k_) ∨ w.heap.size ≤ k_) ∧ k_ ≠ gb684) k_ from fun k_ hk => ⟨(.inr (Nat.le_trans (kP (zT HB.out GE684.out)) hk)), jE (g := gb684) (o := .cells #[.int .i64 a0_0, .slice A0_1 l0_1.length c0_1] 29 (0, 0)) (zR BK684.out) k_ hk⟩) _ (Nat.le_refl _)) (kW _ _) (Nat.le_refl _) (by simp) ?_; (case hd => rfl); (case hg => rfl); (case hr => first | (go_simp; done) | (go_simp; rfl)); (case hp => exact (Reps.one (show Kd.FK (Kd.slice 2 (Kd.int .i64)) _ _ l1 [.slice A1 l1.length c1] from (zFK (kN (ok' := (fun k_ => ((P0_1_ k_ ∨ P1_ k_ ∨ P2_ k_) ∨ w.heap.size ≤ k_) ∧ k_ ≠ gb684)) (HO1.out) (fun k_ hk => ⟨hk.1, hk.2⟩)))) (Reps.one (show Kd.FK (Kd.slice 2 (Kd.int .i64)) _ _ l2 [.slice A2 l2.length c2] from (zFK (kN (ok' := (fun k_ => ((P0_1_ k_ ∨ P1_ k_ ∨ P2_ k_) ∨ w.heap.size ≤ k_) ∧ k_ ≠ gb684)) (HO2.out) (fun k_ hk => ⟨hk.1, hk.2⟩)))) (Reps.none _ _)))); intro v686 w20 ho21 hb hg_ hnew_; clear hg_ hnew_; (first | rw [← Ny685.out] at ho21 | (simp only [Int.reduceToNat] at ho21; rw [← Ny685.out] at ho21)); replace HO0_1 := zA (kK (zPV HO0_1.out) (Kd.N_base ho21) hb); replace HO1 := zA (kK (zPV HO1.out) (Kd.N_base ho21) hb); replace HO2 := zA (kK (zPV HO2.out) (Kd.N_base ho21) hb); have HO687 := zA (jN ho21 (kP (zT HB.out GE684.out))); replace BK684 := zA (zB1 BK684.out hb); replace HB := zA (kQ (zT HB.out GE684.out) hb); clear hb ho21; obtain ⟨Ao22, co22, eo22⟩ := Kd.N_slice HO687.out; subst eo22) | (refine zO (some 13) Tryd.func76 #[.agg #[.int .i64 a0_0, .slice A0_1 l0_1.length c0_1], .slice Ao22 y685.length co22] ?_; (with_reducible refine (impl_checkWords.calls k a0_0 _ _ l0_1 _ _ y685 t688 _ ?side1 ?side2 ?side3 ?side4 ?side5 A4.out).mono ?_); (case side1 => exact zS (kJ HO0_1.out).2.2); (case side2 => exact (kJ HO0_1.out).2.1); (case side3 => exact zS (Kd.N_reads' HO687.out).2.2); (case side4 => exact (Kd.N_reads' HO687.out).2.1); (case side5 => exact TabW.below HT.out (zT HB.out GE684.out)); rintro e w23 ⟨rfl, hb⟩; refine ⟨_, rfl, ?_⟩; replace HO0_1 := zA (kG (zPV HO0_1.out) hb); replace HO1 := zA (kG (zPV HO1.out) hb); replace HO2 := zA (kG (zPV HO2.out) hb); replace HO687 := zA (kZ (zPN HO687.out) hb); replace BK684 := zA (zB1 BK684.out hb); replace HB := zA (kQ (zT HB.out GE684.out) hb); (try clear hb)))
 go_ret2
 exact ⟨zr, zT HB.out GE684.out⟩

/-! ### impl_AreSameTrace: function 51 -/
def impl_AreSameTrace.f (k : Nat) (a0_0 : Int) (l0_1 : List Int) (l1 : List Int) (l2 : List Int) : Option (Bool × Int) := (impl_checkWords.f k a0_0 l0_1 (([l1, l2] : List (List Int)))).bind fun t697 => (if t697 = 0 then ((impl_Alphabet_ties.f a0_0 l0_1).bind fun t698 => ((impl_ties_same.f k t698 l1 l2).bind fun t701 => (some (t701, 0)))) else (some (false, t697)))

set_option maxHeartbeats 8000000 in
set_option maxRecDepth 100000 in
theorem impl_AreSameTrace.calls (k : Nat) (a0_0 : Int) (P0_1_ : Nat → Prop) (A0_1 : Option Addr) (c0_1 : Nat) (l0_1 : List Int) (P1_ : Nat → Prop) (A1 : Option Addr) (c1 : Nat) (l1 : List Int) (P2_ : Nat → Prop) (A2 : Option Addr) (c2 : Nat) (l2 : List Int) (r1 : Bool) (r2 : Int) (w : World) (hs0_1 : Kd.V (Kd.int .i64) 2 w w.heap.size (fun k_ => P0_1_ k_) (.slice A0_1 l0_1.length c0_1) l0_1) (hs1 : Kd.V (Kd.int .i64) 2 w w.heap.size (fun k_ => P1_ k_) (.slice A1 l1.length c1) l1) (hs2 : Kd.V (Kd.int .i64) 2 w w.heap.size (fun k_ => P2_ k_) (.slice A2 l2.length c2) l2) (hT : TabW w) (h : impl_AreSameTrace.f k a0_0 l0_1 l1 l2 = some (r1, r2)) :
  Calls Tryd.prog 51 #[.agg #[.int .i64 a0_0, .slice A0_1 l0_1.length c0_1], .slice A1 l1.length c1, .slice A2 l2.length c2] w fun e w' => e = .returned (.tuple #[.bool r1, .int .i64 r2]) ∧ Below w.heap.size w w' := by
 have hu29 := Tryd.underlying29
 have HT := zA hT
 clear hT
 have HO0_1 := zA (show Kd.V (Kd.int .i64) 2 w w.heap.size (fun k_ => ((P0_1_ k_ ∨ P1_ k_ ∨ P2_ k_) ∨ w.heap.size ≤ k_)) (.slice A0_1 l0_1.length c0_1) l0_1 from kN hs0_1 (fun k_ hk => .inl (.inl hk)))
 have HO1 := zA (show Kd.V (Kd.int .i64) 2 w w.heap.size (fun k_ => ((P0_1_ k_ ∨ P1_ k_ ∨ P2_ k_) ∨ w.heap.size ≤ k_)) (.slice A1 l1.length c1) l1 from kN hs1 (fun k_ hk => .inl (.inr (.inl hk))))
 have HO2 := zA (show Kd.V (Kd.int .i64) 2 w w.heap.size (fun k_ => ((P0_1_ k_ ∨ P1_ k_ ∨ P2_ k_) ∨ w.heap.size ≤ k_)) (.slice A2 l2.length c2) l2 from kN hs2 (fun k_ hk => .inl (.inr (.inr hk))))
 have HB := zA (kW w.heap.size w)
 have H := h
 unfold impl_AreSameTrace.f at H
 clear h
 obtain ⟨y694, hy694⟩ : ∃ y_ : List (List Int), y_ = (([l1, l2] : List (List Int))) := ⟨_, rfl⟩
 replace H : ((impl_checkWords.f k a0_0 l0_1 y694).bind fun t697 => (if t697 = 0 then ((impl_Alphabet_ties.f a0_0 l0_1).bind fun t698 => ((impl_ties_same.f k t698 l1 l2).bind fun t701 => (some (t701, 0)))) else (some (false, t697)))) = some (r1, r2) := zy hy694 H
 have Ny694 := zA hy694
 clear hy694
 obtain ⟨t697, A4, H⟩ := zb H
 try dsimp only at H
 by_cases c5 : t697 = 0
 ·rw [if_pos c5] at H
  obtain ⟨c5b0, c5b1⟩ := zT1 c5
  clear c5
  obtain ⟨t698, A6, H⟩ := zb H
  try dsimp only at H
  obtain ⟨t701, A7, H⟩ := zb H
  try dsimp only at H
  simp only [Option.some.injEq, Prod.mk.injEq] at H
  obtain ⟨rfl, rfl⟩ := H
  go_enter Tryd.func51, Tryd.ntmps51
  go_wp2_with (first | (refine zBE 3 #[.int .i64 a0_0, .slice A0_1 l0_1.length c0_1] 29 ?_; intro gb693 hg w8 hbox hb; replace HO0_1 := zA (kG (jD (zPV HO0_1.out) gb693 (Nat.le_of_eq hg.symm)) hb); replace HO1 := zA (kG (jD (zPV HO1.out) gb693 (Nat.le_of_eq hg.symm)) hb); replace HO2 := zA (kG (jD (zPV HO2.out) gb693 (Nat.le_of_eq hg.symm)) hb); have BK693 := zA (hbox); have GW693 := zA (zBH hg HB.out); have GE693 := zA (zBH hg HB.out); replace HB := zA (kQ (zQ HB.out) hb); clear hb hbox hg; obtain ⟨hcz9_0, hcz9_1, hfz9_0, hfz9_1⟩ := zB3 BK693.out) | ((with_reducible refine kS (N := 12) rfl ?_); refine Kd.N_lit (Kd.slice 2 (Kd.int .i64)) _ 22 ?hg (N' := 12) ?hd (xs := ([l1, l2] : List (List Int))) (inner := [.slice A1 l1.length c1, .slice A2 l2.length c2]) (ok := (fun k_ => ((P0_1_ k_ ∨ P1_ k_ ∨ P2_ k_) ∨ w.heap.size ≤ k_) ∧ k_ ≠ gb693)) (okp := (fun k_ => ((P0_1_ k_ ∨ P1_ k_ ∨ P2_ k_) ∨ w.heap.size ≤ k_) ∧ k_ ≠ gb693)) ?hr ?hp (fun _ hk => hk) ((show ∀ k_ : Nat, (_ : Nat) ≤ k_ → (fun k_ => ((P0_1_ k_ ∨ P1_ k_ ∨ P2_ k_) ∨ w.heap.size ≤ k_) ∧ k_ ≠ gb693) k_ from fun k_ hk => ⟨(.inr (Nat.le_trans (kP (zT HB.out GE693.out)) hk)), jE (g := gb693) (o := .cells #[.int .i64 a0_0, .slice A0_1 l0_1.length c0_1] 29 (0, 0)) (zR BK693.out) k_ hk⟩) _ (Nat.le_refl _)) (kW _ _) (Nat.le_refl _) (by simp) ?_; (case hd => rfl); (case hg => rfl); (case hr => first | (go_simp; done) | (go_simp; rfl)); (case hp => exact (Reps.one (show Kd.FK (Kd.slice 2 (Kd.int .i64)) _ _ l1 [.slice A1 l1.length c1] from (zFK (kN (ok' := (fun k_ => ((P0_1_ k_ ∨ P1_ k_ ∨ P2_ k_) ∨ w.heap.size ≤ k_) ∧ k_ ≠ gb693)) (HO1.out) (fun k_ hk => ⟨hk.1, hk.2⟩)))) (Reps.one (show Kd.FK (Kd.slice 2 (Kd.int .i64)) _ _ l2 [.slice A2 l2.length c2] from (zFK (kN (ok' := (fun k_ => ((P0_1_ k_ ∨ P1_ k_ ∨ P2_ k_) ∨ w.heap.size ≤ k_) ∧ k_ ≠ gb693)) (HO2.out) (fun k_ hk => ⟨hk.1, hk.2⟩)))) (Reps.none _ _)))); intro v695 w10 ho11 hb hg_ hnew_; clear hg_ hnew_; (first | rw [← Ny694.out] at ho11 | (simp only [Int.reduceToNat] at ho11; rw [← Ny694.out] at ho11)); replace HO0_1 := zA (kK (zPV HO0_1.out) (Kd.N_base ho11) hb); replace HO1 := zA (kK (zPV HO1.out) (Kd.N_base ho11) hb); replace HO2 := zA (kK (zPV HO2.out) (Kd.N_base ho11) hb); have HO696 := zA (jN ho11 (kP (zT HB.out GE693.out))); replace BK693 := zA (zB1 BK693.out hb); replace HB := zA (kQ (zT HB.out GE693.out) hb); clear hb ho11; obtain ⟨Ao12, co12, eo12⟩ := Kd.N_slice HO696.out; subst eo12) | (refine zO (some 13) Tryd.func76 #[.agg #[.int .i64 a0_0, .slice A0_1 l0_1.length c0_1], .slice Ao12 y694.length co12] ?_; (with_reducible refine (impl_checkWords.calls k a0_0 _ _ l0_1 _ _ y694 t697 _ ?side1 ?side2 ?side3 ?side4 ?side5 A4.out).mono ?_); (case side1 => exact zS (kJ HO0_1.out).2.2); (case side2 => exact (kJ HO0_1.out).2.1); (case side3 => exact zS (Kd.N_reads' HO696.out).2.2); (case side4 => exact (Kd.N_reads' HO696.out).2.1); (case side5 => exact TabW.below HT.out (zT HB.out GE693.out)); rintro e w13 ⟨rfl, hb⟩; refine ⟨_, rfl, ?_⟩; replace HO0_1 := zA (kG (zPV HO0_1.out) hb); replace HO1 := zA (kG (zPV HO1.out) hb); replace HO2 := zA (kG (zPV HO2.out) hb); replace HO696 := zA (kZ (zPN HO696.out) hb); replace BK693 := zA (zB1 BK693.out hb); replace HB := zA (kQ (zT HB.out GE693.out) hb); (try clear hb); obtain ⟨hcz14_0, hcz14_1, hfz14_0, hfz14_1⟩ := zB3 BK693.out) | (refine zO (some 18) Tryd.func77 #[.agg #[.int .i64 a0_0, .slice A0_1 l0_1.length c0_1]] ?_; (with_reducible refine (impl_Alphabet_ties.calls a0_0 (fun k_ => ((((P0_1_ k_ ∨ P1_ k_ ∨ P2_ k_) ∨ w.heap.size ≤ k_) ∧ k_ ≠ gb693) ∧ some k_ ≠ (.slice Ao12 y694.length co12 : Value).ownBlock)) _ _ l0_1 t698 _ ?side1 A6.out).mono ?_); (case side1 => exact HO0_1.out); rintro e w15 ⟨v699, rfl, ho0, hb⟩; refine ⟨_, rfl, ?_⟩; replace HO0_1 := zA (kG (zPV HO0_1.out) hb); replace HO1 := zA (kG (zPV HO1.out) hb); replace HO2 := zA (kG (zPV HO2.out) hb); have HO700 := zA (jM (kN (ok' := fun k_ => ((P0_1_ k_ ∨ P1_ k_ ∨ P2_ k_) ∨ w.heap.size ≤ k_) ∧ some k_ ≠ (.slice Ao12 y694.length co12 : Value).ownBlock ∧ k_ ≠ gb693) ho0 (fun k_ hk_ => ⟨Or.elim hk_ (fun hs_ => hs_.1.1) (fun hn_ => (.inr (Nat.le_trans (kP (zT HB.out GE693.out)) hn_))), Or.elim hk_ (fun hs_ => hs_.2) (fun hn_ => (jF (jA (zPN HO696.out)) k_ hn_)), Or.elim hk_ (fun hs_ => hs_.1.2) (fun hn_ => (jE (g := gb693) (o := .cells #[.int .i64 a0_0, .slice A0_1 l0_1.length c0_1] 29 (0, 0)) (zR BK693.out) k_ hn_))⟩)) (kP (zT HB.out GE693.out))); replace HO696 := zA (kZ (zPN HO696.out) hb); replace BK693 := zA (zB1 BK693.out hb); replace HB := zA (kQ (zT HB.out GE693.out) hb); (try clear hb); (try clear ho0); obtain ⟨Ao16, co16, eo16⟩ := Kd.V_slice HO700.out; subst eo16) | (refine zO (some 21) Tryd.func84 #[.slice Ao16 t698.length co16, .slice A1 l1.length c1, .slice A2 l2.length c2] ?_; (with_reducible refine (impl_ties_same.calls k _ _ t698 _ _ l1 _ _ l2 t701 _ ?side1 ?side2 ?side3 ?side4 ?side5 ?side6 ?side7 A7.out).mono ?_); (case side1 => exact zS (kJ HO700.out).2.2); (case side2 => exact (kJ HO700.out).2.1); (case side3 => exact zS (kJ HO1.out).2.2); (case side4 => exact (kJ HO1.out).2.1); (case side5 => exact zS (kJ HO2.out).2.2); (case side6 => exact (kJ HO2.out).2.1); (case side7 => exact TabW.below HT.out (zT HB.out GE693.out)); rintro e w17 ⟨rfl, hb⟩; refine ⟨_, rfl, ?_⟩; replace HO0_1 := zA (kG (zPV HO0_1.out) hb); replace HO1 := zA (kG (zPV HO1.out) hb); replace HO2 := zA (kG (zPV HO2.out) hb); replace HO696 := zA (kZ (zPN HO696.out) hb); replace HO700 := zA (kG (zPV HO700.out) hb); replace BK693 := zA (zB1 BK693.out hb); replace HB := zA (kQ (zT HB.out GE693.out) hb); (try clear hb)))
  go_ret2
  exact ⟨zr, zT HB.out GE693.out⟩
 rw [if_neg c5] at H
 obtain ⟨c5b0, c5b1⟩ := zT2 c5
 simp only [Option.some.injEq, Prod.mk.injEq] at H
 obtain ⟨rfl, rfl⟩ := H
 go_enter Tryd.func51, Tryd.ntmps51
 go_wp2_with (first | (refine zBE 3 #[.int .i64 a0_0, .slice A0_1 l0_1.length c0_1] 29 ?_; intro gb693 hg w18 hbox hb; replace HO0_1 := zA (kG (jD (zPV HO0_1.out) gb693 (Nat.le_of_eq hg.symm)) hb); replace HO1 := zA (kG (jD (zPV HO1.out) gb693 (Nat.le_of_eq hg.symm)) hb); replace HO2 := zA (kG (jD (zPV HO2.out) gb693 (Nat.le_of_eq hg.symm)) hb); have BK693 := zA (hbox); have GW693 := zA (zBH hg HB.out); have GE693 := zA (zBH hg HB.out); replace HB := zA (kQ (zQ HB.out) hb); clear hb hbox hg; obtain ⟨hcz19_0, hcz19_1, hfz19_0, hfz19_1⟩ := zB3 BK693.out) | ((with_reducible refine kS (N := 12) rfl ?_); refine Kd.N_lit (Kd.slice 2 (Kd.int .i64)) _ 22 ?hg (N' := 12) ?hd (xs := ([l1, l2] : List (List Int))) (inner := [.slice A1 l1.length c1, .slice A2 l2.length c2]) (ok := (fun k_ => ((P0_1_ k_ ∨ P1_ k_ ∨ P2_ k_) ∨ w.heap.size ≤ k_) ∧ k_ ≠ gb693)) (okp := (fun k_ => ((P0_1_ k_ ∨ P1_ k_ ∨ P2_ k_) ∨ w.heap.size ≤ k_) ∧ k_ ≠ gb693)) ?hr ?hp (fun _ hk => hk) ((show ∀ k_ : Nat, (_ : Nat) ≤ k_ → (fun k_ => ((P0_1_ k_ ∨ P1_ k_ ∨ P2_ k_) ∨ w.heap.size ≤ k_) ∧ k_ ≠ gb693) k_ from fun k_ hk => ⟨(.inr (Nat.le_trans (kP (zT HB.out GE693.out)) hk)), jE (g := gb693) (o := .cells #[.int .i64 a0_0, .slice A0_1 l0_1.length c0_1] 29 (0, 0)) (zR BK693.out) k_ hk⟩) _ (Nat.le_refl _)) (kW _ _) (Nat.le_refl _) (by simp) ?_; (case hd => rfl); (case hg => rfl); (case hr => first | (go_simp; done) | (go_simp; rfl)); (case hp => exact (Reps.one (show Kd.FK (Kd.slice 2 (Kd.int .i64)) _ _ l1 [.slice A1 l1.length c1] from (zFK (kN (ok' := (fun k_ => ((P0_1_ k_ ∨ P1_ k_ ∨ P2_ k_) ∨ w.heap.size ≤ k_) ∧ k_ ≠ gb693)) (HO1.out) (fun k_ hk => ⟨hk.1, hk.2⟩)))) (Reps.one (show Kd.FK (Kd.slice 2 (Kd.int .i64)) _ _ l2 [.slice A2 l2.length c2] from (zFK (kN (ok' := (fun k_ => ((P0_1_ k_ ∨ P1_ k_ ∨ P2_ k_) ∨ w.heap.size ≤ k_) ∧ k_ ≠ gb693)) (HO2.out) (fun k_ hk => ⟨hk.1, hk.2⟩)))) (Reps.none _ _)))); intro v695 w20 ho21 hb hg_ hnew_; clear hg_ hnew_; (first | rw [← Ny694.out] at ho21 | (simp only [Int.reduceToNat] at ho21; rw [← Ny694.out] at ho21)); replace HO0_1 := zA (kK (zPV HO0_1.out) (Kd.N_base ho21) hb); replace HO1 := zA (kK (zPV HO1.out) (Kd.N_base ho21) hb); replace HO2 := zA (kK (zPV HO2.out) (Kd.N_base ho21) hb); have HO696 := zA (jN ho21 (kP (zT HB.out GE693.out))); replace BK693 := zA (zB1 BK693.out hb); replace HB := zA (kQ (zT HB.out GE693.out) hb); clear hb ho21; obtain ⟨Ao22, co22, eo22⟩ := Kd.N_slice HO696.out; subst eo22) | (refine zO (some 13) Tryd.func76 #[.agg #[.int .i64 a0_0, .slice A0_1 l0_1.length c0_1], .slice Ao22 y694.length co22] ?_; (with_reducible refine (impl_checkWords.calls k a0_0 _ _ l0_1 _ _ y694 t697 _ ?side1 ?side2 ?side3 ?side4 ?side5 A4.out).mono ?_); (case side1 => exact zS (kJ HO0_1.out).2.2); (case side2 => exact (kJ HO0_1.out).2.1); (case side3 => exact zS (Kd.N_reads' HO696.out).2.2); (case side4 => exact (Kd.N_reads' HO696.out).2.1); (case side5 => exact TabW.below HT.out (zT HB.out GE693.out)); rintro e w23 ⟨rfl, hb⟩; refine ⟨_, rfl, ?_⟩; replace HO0_1 := zA (kG (zPV HO0_1.out) hb); replace HO1 := zA (kG (zPV HO1.out) hb); replace HO2 := zA (kG (zPV HO2.out) hb); replace HO696 := zA (kZ (zPN HO696.out) hb); replace BK693 := zA (zB1 BK693.out hb); replace HB := zA (kQ (zT HB.out GE693.out) hb); (try clear hb)))
 go_ret2
 exact ⟨zr, zT HB.out GE693.out⟩

/-! ### laws_join5: function 52 -/
def laws_join5.f (l0 : List Int) (l1 : List Int) : Option (List Int) := (some (([] : List Int) : List Int)).bind fun y702 => (if y702.length + l0.length < 17592186044416 then ((some (y702 ++ l0 : List Int)).bind fun y705 => (if y705.length + l1.length < 17592186044416 then (some (y705 ++ l1)) else (none))) else (none))
set_option maxHeartbeats 8000000 in
set_option maxRecDepth 100000 in
theorem laws_join5.calls (A0 : Option Addr) (c0 : Nat) (l0 : List Int) (A1 : Option Addr) (c1 : Nat) (l1 : List Int) (r : List Int) (w : World) (hr0 : Kd.C (Kd.int .i64) w A0 l0.length l0) (hc0 : l0.length ≤ c0) (hr1 : Kd.C (Kd.int .i64) w A1 l1.length l1) (hc1 : l1.length ≤ c1) (h : laws_join5.f l0 l1 = some r) :
  Calls Tryd.prog 52 #[.slice A0 l0.length c0, .slice A1 l1.length c1] w fun e w' => ∃ v0_ : Value, e = .returned (v0_) ∧ Kd.R (Kd.int .i64) 2 w' w.heap.size (fun _ => True) v0_ r ∧ Below w.heap.size w w' := by
 have HR0 := zA hr0
 have HC0 := zA hc0
 clear hr0 hc0
 have HR1 := zA hr1
 have HC1 := zA hc1
 clear hr1 hc1
 have HB := zA (kW w.heap.size w)
 have H := h
 unfold laws_join5.f at H
 clear h
 obtain ⟨y702, hy702⟩ : ∃ y_ : List Int, y_ = (([] : List Int)) := ⟨_, rfl⟩
 replace H : (if y702.length + l0.length < 17592186044416 then ((some (y702 ++ l0 : List Int)).bind fun y705 => (if y705.length + l1.length < 17592186044416 then (some (y705 ++ l1)) else (none))) else (none)) = some r := zy hy702 H
 have Ny702 := zA hy702
 clear hy702
 by_cases c3 : y702.length + l0.length < 17592186044416
 ·rw [if_pos c3] at H
  have LMc3 := zA c3
  clear c3
  obtain ⟨y705, hy705⟩ : ∃ y_ : List Int, y_ = (y702 ++ l0) := ⟨_, rfl⟩
  replace H : (if y705.length + l1.length < 17592186044416 then (some (y705 ++ l1)) else (none)) = some r := zy hy705 H
  have Ny705 := zA hy705
  clear hy705
  by_cases c4 : y705.length + l1.length < 17592186044416
  ·rw [if_pos c4] at H
   have LMc4 := zA c4
   clear c4
   obtain ⟨y708, hy708⟩ : ∃ y_ : List Int, y_ = (y705 ++ l1) := ⟨_, rfl⟩
   replace H : (some y708) = some r := zy hy708 H
   have Ny708 := zA hy708
   clear hy708
   obtain rfl := Option.some.inj H
   go_enter Tryd.func52, Tryd.ntmps52
   go_wp2_with (first | ((with_reducible refine kS (N := 5) rfl ?_); refine Kd.R_lit (Kd.int .i64) _ 2 ?hg (N := 5) ?hd (xs := ([] : List Int)) (inner := []) (ok := fun _ => True) (okp := fun _ => True) ?hr ?hp (fun _ hk => hk) trivial (kW _ _) (Nat.le_refl _) (by simp) ?_; (case hd => rfl); (case hg => rfl); (case hr => first | (go_simp; done) | (go_simp; rfl)); (case hp => exact (Reps.none _ _)); intro v703 w5 ho6 hb hg_ hnew_; clear hg_ hnew_; (first | rw [← Ny702.out] at ho6 | (simp only [Int.reduceToNat] at ho6; rw [← Ny702.out] at ho6)); have HO704 := zA (kI ho6 (kP (zQ HB.out))); replace HB := zA (kQ (zQ HB.out) hb); clear hb ho6) | ((with_reducible refine gate_builtin (b := .append) (xs := #[.tmp 5, .tmp 6]) rfl ?_); at_builtin; refine Kd.R_append_rows (Kd.int .i64) (w0 := w) w.heap.size rfl (.tmp 5) (.tmp 6) 22 2 (.int .i64 0) 8 rfl Tryd.underlying22 info2 rfl (by decide) (by omega) v703 y702 l0 _ _ _ (fun _ => True) (fun _ => False) rfl rfl ?aO ?aR (fun _ _ h => h) (fun _ h => h.elim) ?aF ?aB ?aS ?aL ?_; (case aR => exact zS (kO HR0.out HB.out)); (case aB => exact (zQ HB.out)); (case aF => exact (fun _ _ => trivial)); (case aO => exact (zP HO704.out)); (case aS => exact (kP (zQ HB.out))); (case aL => have := LMc3.out; omega); intro v706 w7 ho hb hg hat; rw [← Ny705.out] at ho; replace HB := zA (hb); have HO707 := zA (ho); clear HO704; clear ho hb hg hat) | ((with_reducible refine gate_builtin (b := .append) (xs := #[.tmp 7, .tmp 8]) rfl ?_); at_builtin; refine Kd.R_append_rows (Kd.int .i64) (w0 := w) w.heap.size rfl (.tmp 7) (.tmp 8) 22 2 (.int .i64 0) 8 rfl Tryd.underlying22 info2 rfl (by decide) (by omega) v706 y705 l1 _ _ _ (fun _ => True) (fun _ => False) rfl rfl ?aO ?aR (fun _ _ h => h) (fun _ h => h.elim) ?aF ?aB ?aS ?aL ?_; (case aR => exact zS (kO HR1.out HB.out)); (case aB => exact (zQ HB.out)); (case aF => exact (fun _ _ => trivial)); (case aO => exact (zP HO707.out)); (case aS => exact (kP (zQ HB.out))); (case aL => have := LMc4.out; omega); intro v709 w8 ho hb hg hat; rw [← Ny708.out] at ho; replace HB := zA (hb); have HO710 := zA (ho); clear HO707; clear ho hb hg hat))
   go_ret
   exact ⟨_, zr, zP HO710.out, zQ HB.out⟩
  rw [if_neg c4] at H
  exact absurd H (by simp)
 rw [if_neg c3] at H
 exact absurd H (by simp)

/-! ### impl_MeetOf: function 53 -/
def impl_MeetOf.f (k : Nat) (a0_0 : Int) (l0_1 : List Int) (l1 : List Int) (l2 : List Int) : Option (List Int × Int) := (impl_checkWords.f k a0_0 l0_1 (([l1, l2] : List (List Int)))).bind fun t715 => (if t715 = 0 then ((impl_Alphabet_ties.f a0_0 l0_1).bind fun t716 => ((impl_ties_meet.f k t716 l1 l2).bind fun bt719 => ((impl_Alphabet_ties.f a0_0 l0_1).bind fun t728 => ((impl_ties_normal.f k t728 bt719.1).bind fun t731 => (some (t731, 0)))))) else (some (([] : List Int), t715)))

set_option maxHeartbeats 8000000 in
set_option maxRecDepth 100000 in
theorem impl_MeetOf.calls (k : Nat) (a0_0 : Int) (P0_1_ : Nat → Prop) (A0_1 : Option Addr) (c0_1 : Nat) (l0_1 : List Int) (P1_ : Nat → Prop) (A1 : Option Addr) (c1 : Nat) (l1 : List Int) (P2_ : Nat → Prop) (A2 : Option Addr) (c2 : Nat) (l2 : List Int) (r1 : List Int) (r2 : Int) (w : World) (hs0_1 : Kd.V (Kd.int .i64) 2 w w.heap.size (fun k_ => P0_1_ k_) (.slice A0_1 l0_1.length c0_1) l0_1) (hs1 : Kd.V (Kd.int .i64) 2 w w.heap.size (fun k_ => P1_ k_) (.slice A1 l1.length c1) l1) (hs2 : Kd.V (Kd.int .i64) 2 w w.heap.size (fun k_ => P2_ k_) (.slice A2 l2.length c2) l2) (hT : TabW w) (h : impl_MeetOf.f k a0_0 l0_1 l1 l2 = some (r1, r2)) :
  Calls Tryd.prog 53 #[.agg #[.int .i64 a0_0, .slice A0_1 l0_1.length c0_1], .slice A1 l1.length c1, .slice A2 l2.length c2] w fun e w' => ∃ v0_ : Value, e = .returned (.tuple #[v0_, .int .i64 r2]) ∧ Kd.R (Kd.int .i64) 2 w' w.heap.size (fun k_ => (w.heap.size ≤ k_)) v0_ r1 ∧ Below w.heap.size w w' := by
 have hu29 := Tryd.underlying29
 have HT := zA hT
 clear hT
 have HO0_1 := zA (show Kd.V (Kd.int .i64) 2 w w.heap.size (fun k_ => ((P0_1_ k_ ∨ P1_ k_ ∨ P2_ k_) ∨ w.heap.size ≤ k_)) (.slice A0_1 l0_1.length c0_1) l0_1 from kN hs0_1 (fun k_ hk => .inl (.inl hk)))
 have HO1 := zA (show Kd.V (Kd.int .i64) 2 w w.heap.size (fun k_ => ((P0_1_ k_ ∨ P1_ k_ ∨ P2_ k_) ∨ w.heap.size ≤ k_)) (.slice A1 l1.length c1) l1 from kN hs1 (fun k_ hk => .inl (.inr (.inl hk))))
 have HO2 := zA (show Kd.V (Kd.int .i64) 2 w w.heap.size (fun k_ => ((P0_1_ k_ ∨ P1_ k_ ∨ P2_ k_) ∨ w.heap.size ≤ k_)) (.slice A2 l2.length c2) l2 from kN hs2 (fun k_ hk => .inl (.inr (.inr hk))))
 have HB := zA (kW w.heap.size w)
 have H := h
 unfold impl_MeetOf.f at H
 clear h
 obtain ⟨y712, hy712⟩ : ∃ y_ : List (List Int), y_ = (([l1, l2] : List (List Int))) := ⟨_, rfl⟩
 replace H : ((impl_checkWords.f k a0_0 l0_1 y712).bind fun t715 => (if t715 = 0 then ((impl_Alphabet_ties.f a0_0 l0_1).bind fun t716 => ((impl_ties_meet.f k t716 l1 l2).bind fun bt719 => ((impl_Alphabet_ties.f a0_0 l0_1).bind fun t728 => ((impl_ties_normal.f k t728 bt719.1).bind fun t731 => (some (t731, 0)))))) else (some (([] : List Int), t715)))) = some (r1, r2) := zy hy712 H
 have Ny712 := zA hy712
 clear hy712
 obtain ⟨t715, A4, H⟩ := zb H
 try dsimp only at H
 by_cases c5 : t715 = 0
 ·rw [if_pos c5] at H
  obtain ⟨c5b0, c5b1⟩ := zT1 c5
  clear c5
  obtain ⟨t716, A6, H⟩ := zb H
  try dsimp only at H
  obtain ⟨⟨t719, t722, t725⟩, A7, H⟩ := zb H
  try dsimp only at H
  obtain ⟨t728, A8, H⟩ := zb H
  try dsimp only at H
  obtain ⟨t731, A9, H⟩ := zb H
  try dsimp only at H
  simp only [Option.some.injEq, Prod.mk.injEq] at H
  obtain ⟨rfl, rfl⟩ := H
  go_enter Tryd.func53, Tryd.ntmps53
  go_wp2_with (first | (refine zBE 3 #[.int .i64 a0_0, .slice A0_1 l0_1.length c0_1] 29 ?_; intro gb711 hg w10 hbox hb; replace HO0_1 := zA (kG (jD (zPV HO0_1.out) gb711 (Nat.le_of_eq hg.symm)) hb); replace HO1 := zA (kG (jD (zPV HO1.out) gb711 (Nat.le_of_eq hg.symm)) hb); replace HO2 := zA (kG (jD (zPV HO2.out) gb711 (Nat.le_of_eq hg.symm)) hb); have BK711 := zA (hbox); have GW711 := zA (zBH hg HB.out); have GE711 := zA (zBH hg HB.out); replace HB := zA (kQ (zQ HB.out) hb); clear hb hbox hg; obtain ⟨hcz11_0, hcz11_1, hfz11_0, hfz11_1⟩ := zB3 BK711.out) | ((with_reducible refine kS (N := 15) rfl ?_); refine Kd.N_lit (Kd.slice 2 (Kd.int .i64)) _ 22 ?hg (N' := 15) ?hd (xs := ([l1, l2] : List (List Int))) (inner := [.slice A1 l1.length c1, .slice A2 l2.length c2]) (ok := (fun k_ => ((P0_1_ k_ ∨ P1_ k_ ∨ P2_ k_) ∨ w.heap.size ≤ k_) ∧ k_ ≠ gb711)) (okp := (fun k_ => ((P0_1_ k_ ∨ P1_ k_ ∨ P2_ k_) ∨ w.heap.size ≤ k_) ∧ k_ ≠ gb711)) ?hr ?hp (fun _ hk => hk) ((show ∀ k_ : Nat, (_ : Nat) ≤ k_ → (fun k_ => ((P0_1_ k_ ∨ P1_ k_ ∨ P2_ k_) ∨ w.heap.size ≤ k_) ∧ k_ ≠ gb711) k_ from fun k_ hk => ⟨(.inr (Nat.le_trans (kP (zT HB.out GE711.out)) hk)), jE (g := gb711) (o := .cells #[.int .i64 a0_0, .slice A0_1 l0_1.length c0_1] 29 (0, 0)) (zR BK711.out) k_ hk⟩) _ (Nat.le_refl _)) (kW _ _) (Nat.le_refl _) (by simp) ?_; (case hd => rfl); (case hg => rfl); (case hr => first | (go_simp; done) | (go_simp; rfl)); (case hp => exact (Reps.one (show Kd.FK (Kd.slice 2 (Kd.int .i64)) _ _ l1 [.slice A1 l1.length c1] from (zFK (kN (ok' := (fun k_ => ((P0_1_ k_ ∨ P1_ k_ ∨ P2_ k_) ∨ w.heap.size ≤ k_) ∧ k_ ≠ gb711)) (HO1.out) (fun k_ hk => ⟨hk.1, hk.2⟩)))) (Reps.one (show Kd.FK (Kd.slice 2 (Kd.int .i64)) _ _ l2 [.slice A2 l2.length c2] from (zFK (kN (ok' := (fun k_ => ((P0_1_ k_ ∨ P1_ k_ ∨ P2_ k_) ∨ w.heap.size ≤ k_) ∧ k_ ≠ gb711)) (HO2.out) (fun k_ hk => ⟨hk.1, hk.2⟩)))) (Reps.none _ _)))); intro v713 w12 ho13 hb hg_ hnew_; clear hg_ hnew_; (first | rw [← Ny712.out] at ho13 | (simp only [Int.reduceToNat] at ho13; rw [← Ny712.out] at ho13)); replace HO0_1 := zA (kK (zPV HO0_1.out) (Kd.N_base ho13) hb); replace HO1 := zA (kK (zPV HO1.out) (Kd.N_base ho13) hb); replace HO2 := zA (kK (zPV HO2.out) (Kd.N_base ho13) hb); have HO714 := zA (jN ho13 (kP (zT HB.out GE711.out))); replace BK711 := zA (zB1 BK711.out hb); replace HB := zA (kQ (zT HB.out GE711.out) hb); clear hb ho13; obtain ⟨Ao14, co14, eo14⟩ := Kd.N_slice HO714.out; subst eo14) | (refine zO (some 16) Tryd.func76 #[.agg #[.int .i64 a0_0, .slice A0_1 l0_1.length c0_1], .slice Ao14 y712.length co14] ?_; (with_reducible refine (impl_checkWords.calls k a0_0 _ _ l0_1 _ _ y712 t715 _ ?side1 ?side2 ?side3 ?side4 ?side5 A4.out).mono ?_); (case side1 => exact zS (kJ HO0_1.out).2.2); (case side2 => exact (kJ HO0_1.out).2.1); (case side3 => exact zS (Kd.N_reads' HO714.out).2.2); (case side4 => exact (Kd.N_reads' HO714.out).2.1); (case side5 => exact TabW.below HT.out (zT HB.out GE711.out)); rintro e w15 ⟨rfl, hb⟩; refine ⟨_, rfl, ?_⟩; replace HO0_1 := zA (kG (zPV HO0_1.out) hb); replace HO1 := zA (kG (zPV HO1.out) hb); replace HO2 := zA (kG (zPV HO2.out) hb); replace HO714 := zA (kZ (zPN HO714.out) hb); replace BK711 := zA (zB1 BK711.out hb); replace HB := zA (kQ (zT HB.out GE711.out) hb); (try clear hb); obtain ⟨hcz16_0, hcz16_1, hfz16_0, hfz16_1⟩ := zB3 BK711.out) | (refine zO (some 22) Tryd.func77 #[.agg #[.int .i64 a0_0, .slice A0_1 l0_1.length c0_1]] ?_; (with_reducible refine (impl_Alphabet_ties.calls a0_0 (fun k_ => ((((P0_1_ k_ ∨ P1_ k_ ∨ P2_ k_) ∨ w.heap.size ≤ k_) ∧ k_ ≠ gb711) ∧ some k_ ≠ (.slice Ao14 y712.length co14 : Value).ownBlock)) _ _ l0_1 t716 _ ?side1 A6.out).mono ?_); (case side1 => exact HO0_1.out); rintro e w17 ⟨v717, rfl, ho0, hb⟩; refine ⟨_, rfl, ?_⟩; replace HO0_1 := zA (kG (zPV HO0_1.out) hb); replace HO1 := zA (kG (zPV HO1.out) hb); replace HO2 := zA (kG (zPV HO2.out) hb); have HO718 := zA (jM (kN (ok' := fun k_ => ((P0_1_ k_ ∨ P1_ k_ ∨ P2_ k_) ∨ w.heap.size ≤ k_) ∧ some k_ ≠ (.slice Ao14 y712.length co14 : Value).ownBlock ∧ k_ ≠ gb711) ho0 (fun k_ hk_ => ⟨Or.elim hk_ (fun hs_ => hs_.1.1) (fun hn_ => (.inr (Nat.le_trans (kP (zT HB.out GE711.out)) hn_))), Or.elim hk_ (fun hs_ => hs_.2) (fun hn_ => (jF (jA (zPN HO714.out)) k_ hn_)), Or.elim hk_ (fun hs_ => hs_.1.2) (fun hn_ => (jE (g := gb711) (o := .cells #[.int .i64 a0_0, .slice A0_1 l0_1.length c0_1] 29 (0, 0)) (zR BK711.out) k_ hn_))⟩)) (kP (zT HB.out GE711.out))); replace HO714 := zA (kZ (zPN HO714.out) hb); replace BK711 := zA (zB1 BK711.out hb); replace HB := zA (kQ (zT HB.out GE711.out) hb); (try clear hb); (try clear ho0); obtain ⟨Ao18, co18, eo18⟩ := Kd.V_slice HO718.out; subst eo18) | (refine zO (some 25) Tryd.func86 #[.slice Ao18 t716.length co18, .slice A1 l1.length c1, .slice A2 l2.length c2] ?_; (with_reducible refine (impl_ties_meet.calls k _ _ t716 (fun k_ => ((((P0_1_ k_ ∨ P1_ k_ ∨ P2_ k_) ∨ w.heap.size ≤ k_) ∧ k_ ≠ gb711) ∧ some k_ ≠ (.slice Ao14 y712.length co14 : Value).ownBlock)) _ _ l1 (fun k_ => ((((P0_1_ k_ ∨ P1_ k_ ∨ P2_ k_) ∨ w.heap.size ≤ k_) ∧ k_ ≠ gb711) ∧ some k_ ≠ (.slice Ao14 y712.length co14 : Value).ownBlock)) _ _ l2 t719 t722 t725 _ ?side1 ?side2 ?side3 ?side4 ?side5 A7.out).mono ?_); (case side1 => exact zS (kJ HO718.out).2.2); (case side2 => exact (kJ HO718.out).2.1); (case side3 => exact HO1.out); (case side4 => exact HO2.out); (case side5 => exact TabW.below HT.out (zT HB.out GE711.out)); rintro e w19 ⟨v720, v723, v726, rfl, ho0, ho1, ho2, hb⟩; refine ⟨_, rfl, ?_⟩; replace HO0_1 := zA (kK (zPV HO0_1.out) (kC ho0) hb); replace HO1 := zA (kK (zPV HO1.out) (kC ho0) hb); replace HO2 := zA (kK (zPV HO2.out) (kC ho0) hb); replace HO718 := zA (kK (zPV HO718.out) (kC ho0) hb); have HO721 := zA (kI (Kd.R_newM (M := fun k_ => (w.heap.size ≤ k_)) (kA (ok' := fun k_ => True) ho0 (fun _ hk_ => trivial)) (kP (zT HB.out GE711.out)) (fun k_ h_ => h_)) (kP (zT HB.out GE711.out))); have HO724 := zA (jM (kN (ok' := fun k_ => ((P0_1_ k_ ∨ P1_ k_ ∨ P2_ k_) ∨ w.heap.size ≤ k_) ∧ some k_ ≠ (v720 : Value).ownBlock ∧ some k_ ≠ (.slice Ao14 y712.length co14 : Value).ownBlock ∧ k_ ≠ gb711) ho1 (fun k_ hk_ => ⟨Or.elim hk_.1 (fun hs_ => Or.elim hs_ (fun hs_ => hs_.1.1) (fun hs_ => hs_.1.1)) (fun hn_ => (.inr (Nat.le_trans (kP (zT HB.out GE711.out)) hn_))), hk_.2, Or.elim hk_.1 (fun hs_ => Or.elim hs_ (fun hs_ => hs_.2) (fun hs_ => hs_.2)) (fun hn_ => (jF (jA (zPN HO714.out)) k_ hn_)), Or.elim hk_.1 (fun hs_ => Or.elim hs_ (fun hs_ => hs_.1.2) (fun hs_ => hs_.1.2)) (fun hn_ => (jE (g := gb711) (o := .cells #[.int .i64 a0_0, .slice A0_1 l0_1.length c0_1] 29 (0, 0)) (zR BK711.out) k_ hn_))⟩)) (kP (zT HB.out GE711.out))); have HO727 := zA (jM (kN (ok' := fun k_ => ((P0_1_ k_ ∨ P1_ k_ ∨ P2_ k_) ∨ w.heap.size ≤ k_) ∧ some k_ ≠ (v720 : Value).ownBlock ∧ some k_ ≠ (.slice Ao14 y712.length co14 : Value).ownBlock ∧ k_ ≠ gb711) ho2 (fun k_ hk_ => ⟨Or.elim hk_.1 (fun hs_ => Or.elim hs_ (fun hs_ => hs_.1.1) (fun hs_ => hs_.1.1)) (fun hn_ => (.inr (Nat.le_trans (kP (zT HB.out GE711.out)) hn_))), hk_.2, Or.elim hk_.1 (fun hs_ => Or.elim hs_ (fun hs_ => hs_.2) (fun hs_ => hs_.2)) (fun hn_ => (jF (jA (zPN HO714.out)) k_ hn_)), Or.elim hk_.1 (fun hs_ => Or.elim hs_ (fun hs_ => hs_.1.2) (fun hs_ => hs_.1.2)) (fun hn_ => (jE (g := gb711) (o := .cells #[.int .i64 a0_0, .slice A0_1 l0_1.length c0_1] 29 (0, 0)) (zR BK711.out) k_ hn_))⟩)) (kP (zT HB.out GE711.out))); replace HO714 := zA (Kd.N_elder' (zPN HO714.out) (kC ho0) hb); replace BK711 := zA (zB1 BK711.out hb); replace HB := zA (kQ (zT HB.out GE711.out) hb); (try clear hb); (try clear ho0); (try clear ho1); (try clear ho2); obtain ⟨hcz20_0, hcz20_1, hfz20_0, hfz20_1⟩ := zB3 BK711.out) | (refine zO (some 30) Tryd.func77 #[.agg #[.int .i64 a0_0, .slice A0_1 l0_1.length c0_1]] ?_; (with_reducible refine (impl_Alphabet_ties.calls a0_0 (fun k_ => (((((P0_1_ k_ ∨ P1_ k_ ∨ P2_ k_) ∨ w.heap.size ≤ k_) ∧ k_ ≠ gb711) ∧ some k_ ≠ (.slice Ao14 y712.length co14 : Value).ownBlock) ∧ some k_ ≠ (v720 : Value).ownBlock)) _ _ l0_1 t728 _ ?side1 A8.out).mono ?_); (case side1 => exact HO0_1.out); rintro e w21 ⟨v729, rfl, ho0, hb⟩; refine ⟨_, rfl, ?_⟩; replace HO0_1 := zA (kG (zPV HO0_1.out) hb); replace HO1 := zA (kG (zPV HO1.out) hb); replace HO2 := zA (kG (zPV HO2.out) hb); replace HO718 := zA (kG (zPV HO718.out) hb); replace HO724 := zA (kG (zPV HO724.out) hb); replace HO727 := zA (kG (zPV HO727.out) hb); have HO730 := zA (jM (kN (ok' := fun k_ => ((P0_1_ k_ ∨ P1_ k_ ∨ P2_ k_) ∨ w.heap.size ≤ k_) ∧ some k_ ≠ (.slice Ao14 y712.length co14 : Value).ownBlock ∧ some k_ ≠ (v720 : Value).ownBlock ∧ k_ ≠ gb711) ho0 (fun k_ hk_ => ⟨Or.elim hk_ (fun hs_ => hs_.1.1.1) (fun hn_ => (.inr (Nat.le_trans (kP (zT HB.out GE711.out)) hn_))), Or.elim hk_ (fun hs_ => hs_.1.2) (fun hn_ => (jF (jA (zPN HO714.out)) k_ hn_)), Or.elim hk_ (fun hs_ => hs_.2) (fun hn_ => (jF (kH (zP HO721.out)) k_ hn_)), Or.elim hk_ (fun hs_ => hs_.1.1.2) (fun hn_ => (jE (g := gb711) (o := .cells #[.int .i64 a0_0, .slice A0_1 l0_1.length c0_1] 29 (0, 0)) (zR BK711.out) k_ hn_))⟩)) (kP (zT HB.out GE711.out))); replace HO714 := zA (kZ (zPN HO714.out) hb); replace HO721 := zA (kL (zP HO721.out) hb); replace BK711 := zA (zB1 BK711.out hb); replace HB := zA (kQ (zT HB.out GE711.out) hb); (try clear hb); (try clear ho0); obtain ⟨Ao22, co22, eo22⟩ := Kd.V_slice HO730.out; subst eo22; obtain ⟨Ao23, co23, eo23⟩ := kM HO721.out; subst eo23) | (refine zO (some 32) Tryd.func88 #[.slice Ao22 t728.length co22, .slice Ao23 t719.length co23] ?_; (with_reducible refine (impl_ties_normal.calls k _ _ t728 (fun k_ => some k_ = (.slice Ao23 t719.length co23 : Value).ownBlock) _ _ t719 t731 _ ?side1 ?side2 ?side3 ?side4 A9.out).mono ?_); (case side1 => exact zS (kJ HO730.out).2.2); (case side2 => exact (kJ HO730.out).2.1); (case side3 => exact jL (jK rfl (kD (Kd.R_apart' (HO721.out) (Kd.N_typed HO714.out) (by decide)) BK711.out (by decide)))); (case side4 => exact TabW.below HT.out (zT HB.out GE711.out)); rintro e w24 ⟨v732, rfl, ho0, hb⟩; refine ⟨_, rfl, ?_⟩; replace HO0_1 := zA (kK (zPV HO0_1.out) (kC ho0) hb); replace HO1 := zA (kK (zPV HO1.out) (kC ho0) hb); replace HO2 := zA (kK (zPV HO2.out) (kC ho0) hb); replace HO714 := zA (Kd.N_elder' (zPN HO714.out) (kC ho0) hb); replace HO718 := zA (kK (zPV HO718.out) (kC ho0) hb); replace HO724 := zA (kK (zPV HO724.out) (kC ho0) hb); replace HO727 := zA (kK (zPV HO727.out) (kC ho0) hb); replace HO730 := zA (kK (zPV HO730.out) (kC ho0) hb); have HO733 := zA (kI (kF (Kd.R_newM (M := fun k_ => (w.heap.size ≤ k_)) (kA (ok' := fun k_ => True) ho0 (fun _ hk_ => trivial)) (kP (zT HB.out GE711.out)) (fun k_ h_ => h_)) (kH (zP HO721.out))) (kP (zT HB.out GE711.out))); replace HO721 := zA (kE (zP HO721.out) (kC ho0) hb); replace BK711 := zA (zB1 BK711.out hb); replace HB := zA (kQ (zT HB.out GE711.out) hb); (try clear hb); (try clear ho0)))
  go_ret2
  exact ⟨_, zr, by (with_reducible repeat (first | apply zF | apply zG | apply zH)); exact kA HO733.out (fun _ hk => hk.1.1), zT HB.out GE711.out⟩
 rw [if_neg c5] at H
 obtain ⟨c5b0, c5b1⟩ := zT2 c5
 simp only [Option.some.injEq, Prod.mk.injEq] at H
 obtain ⟨rfl, rfl⟩ := H
 go_enter Tryd.func53, Tryd.ntmps53
 go_wp2_with (first | (refine zBE 3 #[.int .i64 a0_0, .slice A0_1 l0_1.length c0_1] 29 ?_; intro gb711 hg w25 hbox hb; replace HO0_1 := zA (kG (jD (zPV HO0_1.out) gb711 (Nat.le_of_eq hg.symm)) hb); replace HO1 := zA (kG (jD (zPV HO1.out) gb711 (Nat.le_of_eq hg.symm)) hb); replace HO2 := zA (kG (jD (zPV HO2.out) gb711 (Nat.le_of_eq hg.symm)) hb); have BK711 := zA (hbox); have GW711 := zA (zBH hg HB.out); have GE711 := zA (zBH hg HB.out); replace HB := zA (kQ (zQ HB.out) hb); clear hb hbox hg; obtain ⟨hcz26_0, hcz26_1, hfz26_0, hfz26_1⟩ := zB3 BK711.out) | ((with_reducible refine kS (N := 15) rfl ?_); refine Kd.N_lit (Kd.slice 2 (Kd.int .i64)) _ 22 ?hg (N' := 15) ?hd (xs := ([l1, l2] : List (List Int))) (inner := [.slice A1 l1.length c1, .slice A2 l2.length c2]) (ok := (fun k_ => ((P0_1_ k_ ∨ P1_ k_ ∨ P2_ k_) ∨ w.heap.size ≤ k_) ∧ k_ ≠ gb711)) (okp := (fun k_ => ((P0_1_ k_ ∨ P1_ k_ ∨ P2_ k_) ∨ w.heap.size ≤ k_) ∧ k_ ≠ gb711)) ?hr ?hp (fun _ hk => hk) ((show ∀ k_ : Nat, (_ : Nat) ≤ k_ → (fun k_ => ((P0_1_ k_ ∨ P1_ k_ ∨ P2_ k_) ∨ w.heap.size ≤ k_) ∧ k_ ≠ gb711) k_ from fun k_ hk => ⟨(.inr (Nat.le_trans (kP (zT HB.out GE711.out)) hk)), jE (g := gb711) (o := .cells #[.int .i64 a0_0, .slice A0_1 l0_1.length c0_1] 29 (0, 0)) (zR BK711.out) k_ hk⟩) _ (Nat.le_refl _)) (kW _ _) (Nat.le_refl _) (by simp) ?_; (case hd => rfl); (case hg => rfl); (case hr => first | (go_simp; done) | (go_simp; rfl)); (case hp => exact (Reps.one (show Kd.FK (Kd.slice 2 (Kd.int .i64)) _ _ l1 [.slice A1 l1.length c1] from (zFK (kN (ok' := (fun k_ => ((P0_1_ k_ ∨ P1_ k_ ∨ P2_ k_) ∨ w.heap.size ≤ k_) ∧ k_ ≠ gb711)) (HO1.out) (fun k_ hk => ⟨hk.1, hk.2⟩)))) (Reps.one (show Kd.FK (Kd.slice 2 (Kd.int .i64)) _ _ l2 [.slice A2 l2.length c2] from (zFK (kN (ok' := (fun k_ => ((P0_1_ k_ ∨ P1_ k_ ∨ P2_ k_) ∨ w.heap.size ≤ k_) ∧ k_ ≠ gb711)) (HO2.out) (fun k_ hk => ⟨hk.1, hk.2⟩)))) (Reps.none _ _)))); intro v713 w27 ho28 hb hg_ hnew_; clear hg_ hnew_; (first | rw [← Ny712.out] at ho28 | (simp only [Int.reduceToNat] at ho28; rw [← Ny712.out] at ho28)); replace HO0_1 := zA (kK (zPV HO0_1.out) (Kd.N_base ho28) hb); replace HO1 := zA (kK (zPV HO1.out) (Kd.N_base ho28) hb); replace HO2 := zA (kK (zPV HO2.out) (Kd.N_base ho28) hb); have HO714 := zA (jN ho28 (kP (zT HB.out GE711.out))); replace BK711 := zA (zB1 BK711.out hb); replace HB := zA (kQ (zT HB.out GE711.out) hb); clear hb ho28; obtain ⟨Ao29, co29, eo29⟩ := Kd.N_slice HO714.out; subst eo29) | (refine zO (some 16) Tryd.func76 #[.agg #[.int .i64 a0_0, .slice A0_1 l0_1.length c0_1], .slice Ao29 y712.length co29] ?_; (with_reducible refine (impl_checkWords.calls k a0_0 _ _ l0_1 _ _ y712 t715 _ ?side1 ?side2 ?side3 ?side4 ?side5 A4.out).mono ?_); (case side1 => exact zS (kJ HO0_1.out).2.2); (case side2 => exact (kJ HO0_1.out).2.1); (case side3 => exact zS (Kd.N_reads' HO714.out).2.2); (case side4 => exact (Kd.N_reads' HO714.out).2.1); (case side5 => exact TabW.below HT.out (zT HB.out GE711.out)); rintro e w30 ⟨rfl, hb⟩; refine ⟨_, rfl, ?_⟩; replace HO0_1 := zA (kG (zPV HO0_1.out) hb); replace HO1 := zA (kG (zPV HO1.out) hb); replace HO2 := zA (kG (zPV HO2.out) hb); replace HO714 := zA (kZ (zPN HO714.out) hb); replace BK711 := zA (zB1 BK711.out hb); replace HB := zA (kQ (zT HB.out GE711.out) hb); (try clear hb)))
 go_ret2
 exact ⟨_, zr, zn, zT HB.out GE711.out⟩

end Go.Proofs.YthgapkbkhoeleaaDoor.PAll
