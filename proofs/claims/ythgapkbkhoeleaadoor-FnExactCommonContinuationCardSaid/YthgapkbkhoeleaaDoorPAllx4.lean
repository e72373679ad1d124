-- Printed by a program of the session (wip/tools/pgen.py) out of the translation. Not trusted: Lean checks it.
import Derived.Test.YthgapkbkhoeleaaDoorPAllx0
import Derived.Test.YthgapkbkhoeleaaDoorPAllx1
import Derived.Test.YthgapkbkhoeleaaDoorPAllx2
import Derived.Test.YthgapkbkhoeleaaDoorPAllx3
namespace Go.Proofs.YthgapkbkhoeleaaDoor.PAll
open Go.RowKit Go.Proofs.YthgapkbkhoeleaaDoor.T Go.Proofs.YthgapkbkhoeleaaDoorW.PrintWords Go.Proofs.YthgapkbkhoeleaaDoorW.PrintLast Go.Proofs.YthgapkbkhoeleaaDoorW.PrintMore
attribute [local go_sem] max2_int min2_int max_two min_two max_three min_three max_four min_four   -- for this text's walks alone
set_option linter.unusedVariables false
set_option linter.unusedSimpArgs false

/-! ### impl_CommonContinuation: function 32 -/
def impl_CommonContinuation.l0 : Nat → List Int → List (List Int) → Int → Int → Int → List Int → Option (List Int × Int)
 | 0, _, _, _, _, _, _ => none
 | k + 1, x7, x22, x23, x24, x354000, x354001 => if x24 < x23 then (if 0 ≤ x24 then (if x24 < (x22.length : Int) then ((impl_Alphabet_ties.f x354000 x354001).bind fun t366 => ((impl_ties_residual.f k t366 x7 (rd_L1 x22 x24)).bind fun bt369 => (if bt369.2 = true then ((slices_Concat_int64_int64.f (([x7, bt369.1] : List (List Int)))).bind fun t376 => (impl_CommonContinuation.l0 k t376 x22 x23 (wrap64 (x24 + 1)) x354000 x354001)) else (some (([] : List Int), 4))))) else (none)) else (none)) else ((impl_Alphabet_ties.f x354000 x354001).bind fun t358 => ((impl_ties_limited.f k t358 x7).bind fun bt361 => (some (bt361.1, bt361.2))))
def impl_CommonContinuation.f (k : Nat) (a0_0 : Int) (l0_1 : List Int) (l1 : List (List Int)) : Option (List Int × Int) := (impl_checkWords.f k a0_0 l0_1 l1).bind fun t354 => (if t354 = 0 then (if (l1.length : Int) > 24 then (some (([] : List Int), 2)) else (impl_CommonContinuation.l0 k (([] : List Int)) l1 (l1.length : Int) 0 a0_0 l0_1)) else (some (([] : List Int), t354)))

set_option maxHeartbeats 8000000 in
set_option maxRecDepth 100000 in
theorem impl_CommonContinuation.calls (k : Nat) (a0_0 : Int) (A0_1 : Option Addr) (c0_1 : Nat) (l0_1 : List Int) (A1 : Option Addr) (c1 : Nat) (l1 : List (List Int)) (r1 : List Int) (r2 : Int) (w : World) (hr0_1 : Kd.C (Kd.int .i64) w A0_1 l0_1.length l0_1) (hc0_1 : l0_1.length ≤ c0_1) (hr1 : Kd.C (Kd.slice 2 (Kd.int .i64)) w A1 l1.length l1) (hc1 : l1.length ≤ c1) (hT : TabW w) (h : impl_CommonContinuation.f k a0_0 l0_1 l1 = some (r1, r2)) :
  Calls Tryd.prog 32 #[.agg #[.int .i64 a0_0, .slice A0_1 l0_1.length c0_1], .slice A1 l1.length c1] w fun e w' => ∃ v0_ : Value, e = .returned (.tuple #[v0_, .int .i64 r2]) ∧ Kd.R (Kd.int .i64) 2 w' w.heap.size (fun _ => True) v0_ r1 ∧ Below w.heap.size w w' := by
 have hu29 := Tryd.underlying29
 have HT := zA hT
 clear hT
 have HR0_1 := zA hr0_1
 have HC0_1 := zA hc0_1
 clear hr0_1 hc0_1
 have HR1 := zA hr1
 have HC1 := zA hc1
 clear hr1 hc1
 have HB := zA (kW w.heap.size w)
 have H := h
 unfold impl_CommonContinuation.f at H
 clear h
 obtain ⟨t354, A3, H⟩ := zb H
 try dsimp only at H
 by_cases c4 : t354 = 0
 ·rw [if_pos c4] at H
  obtain ⟨c4b0, c4b1⟩ := zT1 c4
  clear c4
  by_cases c5 : (l1.length : Int) > 24
  ·rw [if_pos c5] at H
   have c5b0 : decide (24 < (l1.length : Int)) = true := decide_eq_true c5
   have c5b1 : decide (24 < l1.length) = true := decide_eq_true (by omega)
   clear c5
   simp only [Option.some.injEq, Prod.mk.injEq] at H
   obtain ⟨rfl, rfl⟩ := H
   go_enter Tryd.func32, Tryd.ntmps32
   go_wp2_with (first | (refine zBE 2 #[.int .i64 a0_0, .slice A0_1 l0_1.length c0_1] 29 ?_; intro gb353 hg w6 hbox hb; have BK353 := zA (hbox); have GW353 := zA (zBH hg HB.out); have GE353 := zA (zBH hg HB.out); replace HB := zA (kQ (zQ HB.out) hb); clear hb hbox hg; obtain ⟨hcz7_0, hcz7_1, hfz7_0, hfz7_1⟩ := zB3 BK353.out) | (refine zO (some 14) Tryd.func76 #[.agg #[.int .i64 a0_0, .slice A0_1 l0_1.length c0_1], .slice A1 l1.length c1] ?_; (with_reducible refine (impl_checkWords.calls k a0_0 _ _ l0_1 _ _ l1 t354 _ ?side1 ?side2 ?side3 ?side4 ?side5 A3.out).mono ?_); (case side1 => exact zS (kO HR0_1.out HB.out)); (case side2 => exact HC0_1.out); (case side3 => exact zS (kO HR1.out HB.out)); (case side4 => exact HC1.out); (case side5 => exact TabW.below HT.out (zT HB.out GE353.out)); rintro e w8 ⟨rfl, hb⟩; refine ⟨_, rfl, ?_⟩; replace BK353 := zA (zB1 BK353.out hb); replace HB := zA (kQ (zT HB.out GE353.out) hb); (try clear hb)))
   go_ret2
   exact ⟨_, zr, zn, zT HB.out GE353.out⟩
  rw [if_neg c5] at H
  have c5b0 : decide (24 < (l1.length : Int)) = false := decide_eq_false c5
  have c5b1 : decide (24 < l1.length) = false := decide_eq_false (by omega)
  clear c5
  obtain ⟨y355, hy355⟩ : ∃ y_ : List Int, y_ = (([] : List Int)) := ⟨_, rfl⟩
  replace H : (impl_CommonContinuation.l0 k y355 l1 (l1.length : Int) 0 a0_0 l0_1) = some (r1, r2) := zy hy355 H
  have Ny355 := zA hy355
  clear hy355
  have H' := zA H
  clear H
  go_enter Tryd.func32, Tryd.ntmps32
  go_wp2_with (first | (refine zBE 2 #[.int .i64 a0_0, .slice A0_1 l0_1.length c0_1] 29 ?_; intro gb353 hg w9 hbox hb; have BK353 := zA (hbox); have GW353 := zA (zBH hg HB.out); have GE353 := zA (zBH hg HB.out); replace HB := zA (kQ (zQ HB.out) hb); clear hb hbox hg; obtain ⟨hcz10_0, hcz10_1, hfz10_0, hfz10_1⟩ := zB3 BK353.out) | (refine zO (some 14) Tryd.func76 #[.agg #[.int .i64 a0_0, .slice A0_1 l0_1.length c0_1], .slice A1 l1.length c1] ?_; (with_reducible refine (impl_checkWords.calls k a0_0 _ _ l0_1 _ _ l1 t354 _ ?side1 ?side2 ?side3 ?side4 ?side5 A3.out).mono ?_); (case side1 => exact zS (kO HR0_1.out HB.out)); (case side2 => exact HC0_1.out); (case side3 => exact zS (kO HR1.out HB.out)); (case side4 => exact HC1.out); (case side5 => exact TabW.below HT.out (zT HB.out GE353.out)); rintro e w11 ⟨rfl, hb⟩; refine ⟨_, rfl, ?_⟩; replace BK353 := zA (zB1 BK353.out hb); replace HB := zA (kQ (zT HB.out GE353.out) hb); (try clear hb)) | ((with_reducible refine kS (N := 21) rfl ?_); refine Kd.R_lit (Kd.int .i64) _ 2 ?hg (N := 21) ?hd (xs := ([] : List Int)) (inner := []) (ok := fun _ => True) (okp := fun _ => True) ?hr ?hp (fun _ hk => hk) trivial (kW _ _) (Nat.le_refl _) (by simp) ?_; (case hd => rfl); (case hg => rfl); (case hr => first | (go_simp; done) | (go_simp; rfl)); (case hp => exact (Reps.none _ _)); intro v356 w12 ho13 hb hg_ hnew_; clear hg_ hnew_; (first | rw [← Ny355.out] at ho13 | (simp only [Int.reduceToNat] at ho13; rw [← Ny355.out] at ho13)); have HO357 := zA (kI ho13 (kP (zT HB.out GE353.out))); replace BK353 := zA (zB1 BK353.out hb); replace HB := zA (kQ (zT HB.out GE353.out) hb); clear hb ho13))
  go_loopg [7, 24] k (fun kq v7 v24 w' => ∃ (x7_1 : List Int) (x24_1 : Int), v24 = .int .i64 x24_1 ∧ Aside0 (impl_CommonContinuation.l0 kq x7_1 l1 (l1.length : Int) x24_1 a0_0 l0_1 = some (r1, r2)) ∧ Aside0 (kq ≤ k) ∧ Aside0 (Kd.R (Kd.int .i64) 2 w' w.heap.size (fun _ => True) v7 x7_1) ∧ Aside0 (w'.heap[gb353]? = some (.cells #[.int .i64 a0_0, (.slice A0_1 l0_1.length c0_1)] 29 (0, 0))) ∧ Aside0 (Below w.heap.size w w'))
  case atStart => exact ⟨(y355), (0), zs, H', ⟨Nat.le_refl _⟩, ⟨zP HO357.out⟩, ⟨zR BK353.out⟩, ⟨zT HB.out GE353.out⟩⟩
  case round =>
   clear H'
   try clear c1
   try clear c3
   try clear c4
   try clear c5
   try clear c7
   try clear hcz10_0
   try clear hcz10_1
   try clear hcz7_0
   try clear hcz7_1
   try clear hfz10_0
   try clear hfz10_1
   try clear hfz7_0
   try clear hfz7_1
   obtain ⟨x7_1, x24_1, rfl, HA, HK1, HO_7, BK353, HB⟩ := hrel
   cases gk with
   | zero => exact absurd HA.out (by simp [impl_CommonContinuation.l0])
   | succ k1 =>
    have H := HA.out
    clear HA
    simp only [impl_CommonContinuation.l0] at H
    by_cases c14 : x24_1 < (l1.length : Int)
    ·rw [if_pos c14] at H
     have c14b0 : decide (x24_1 < (l1.length : Int)) = true := decide_eq_true c14
     clear c14
     by_cases c15 : 0 ≤ x24_1
     ·rw [if_pos c15] at H
      have c15b0 : decide (0 ≤ x24_1) = true := decide_eq_true c15
      clear c15
      by_cases c16 : x24_1 < (l1.length : Int)
      ·rw [if_pos c16] at H
       have c16b0 : decide (x24_1 < (l1.length : Int)) = true := decide_eq_true c16
       clear c16
       obtain ⟨t366, A17, H⟩ := zb H
       try dsimp only at H
       obtain ⟨⟨t369, t372⟩, A18, H⟩ := zb H
       try dsimp only at H
       by_cases c19 : t372 = true
       ·subst c19
        rw [if_pos rfl] at H
        obtain ⟨y373, hy373⟩ : ∃ y_ : List (List Int), y_ = (([x7_1, t369] : List (List Int))) := ⟨_, rfl⟩
        replace H : ((slices_Concat_int64_int64.f y373).bind fun t376 => (impl_CommonContinuation.l0 k1 t376 l1 (l1.length : Int) (wrap64 (x24_1 + 1)) a0_0 l0_1)) = some (r1, r2) := zy hy373 H
        have Ny373 := zA hy373
        clear hy373
        obtain ⟨t376, A20, H⟩ := zb H
        try dsimp only at H
        have H' := zA H
        clear H
        have p365 : 0 ≤ (x24_1 : Int) := zd
        have q365 : x24_1 < (l1.length : Int) := zd
        obtain ⟨ad365, A365_0, c365_0, e365, hx365_0, hl365_0, hi365_0⟩ := at_L1 HR1.out x24_1 p365 q365
        cases e365
        replace hx365_0 := (HB.out.cell (jG w _ hx365_0)).trans hx365_0
        have HR365_0 := zA hi365_0
        have HC365_0 := zA hl365_0
        clear hi365_0 hl365_0
        replace p365 := eq_true p365
        replace q365 := eq_true q365
        obtain ⟨hcz21_0, hcz21_1, hfz21_0, hfz21_1⟩ := zB3 BK353.out
        go_wp2_with (first | (refine zO (some 30) Tryd.func77 #[.agg #[.int .i64 a0_0, .slice A0_1 l0_1.length c0_1]] ?_; (with_reducible refine (impl_Alphabet_ties.calls a0_0 (fun k_ => k_ < w.heap.size) _ _ l0_1 t366 _ ?side1 A17.out).mono ?_); (case side1 => exact Kd.V_mk HC0_1.out (Kd.F_below (Kd.C_F (Kd.heap_int .i64) HR0_1.out) (zT HB.out GE353.out))); rintro e w22 ⟨v367, rfl, ho0, hb⟩; refine ⟨_, rfl, ?_⟩; have HO368 := zA (jM (kN (ok' := fun k_ => some k_ ≠ (u7 : Value).ownBlock ∧ k_ ≠ gb353) ho0 (fun k_ hk_ => ⟨Or.elim hk_ (fun hs_ => fun e_ => Nat.not_le.2 hs_ (kC HO_7.out k_ e_.symm)) (fun hn_ => (jF (kH (zP HO_7.out)) k_ hn_)), Or.elim hk_ (fun hs_ => fun e_ => Nat.not_le.2 hs_ (by rw [e_]; exact GW353.out)) (fun hn_ => (jE (g := gb353) (o := .cells #[.int .i64 a0_0, .slice A0_1 l0_1.length c0_1] 29 (0, 0)) (zR BK353.out) k_ hn_))⟩)) (kP (zT HB.out GE353.out))); replace HO_7 := zA (kL (zP HO_7.out) hb); replace BK353 := zA (zB1 BK353.out hb); replace HB := zA (kQ (zT HB.out GE353.out) hb); (try clear hb); (try clear ho0); obtain ⟨Ao23, co23, eo23⟩ := Kd.V_slice HO368.out; subst eo23; obtain ⟨Ao24, co24, eo24⟩ := kM HO_7.out; subst eo24) | (refine zO (some 33) Tryd.func92 #[.slice Ao23 t366.length co23, .slice Ao24 x7_1.length co24, .slice A365_0 (rd_L1 l1 x24_1).length c365_0] ?_; (with_reducible refine (impl_ties_residual.calls k1 _ _ t366 (fun k_ => some k_ = (.slice Ao24 x7_1.length co24 : Value).ownBlock) _ _ x7_1 (fun k_ => k_ < w.heap.size) _ _ (rd_L1 l1 x24_1) t369 true _ ?side1 ?side2 ?side3 ?side4 ?side5 A18.out).mono ?_); (case side1 => exact zS (kJ HO368.out).2.2); (case side2 => exact (kJ HO368.out).2.1); (case side3 => exact jL (jK rfl (kD (HO_7.out) BK353.out (by decide)))); (case side4 => exact Kd.V_mk HC365_0.out (Kd.F_below (Kd.C_F (Kd.heap_int .i64) HR365_0.out) (zT HB.out GE353.out))); (case side5 => exact TabW.below HT.out (zT HB.out GE353.out)); rintro e w25 ⟨v370, rfl, ho0, hb⟩; refine ⟨_, rfl, ?_⟩; replace HO368 := zA (kG (zPV HO368.out) hb); have HO371 := zA (jM (kN (ok' := fun k_ => k_ ≠ gb353) ho0 (fun k_ hk_ => Or.elim hk_ (fun hs_ => Or.elim hs_ (fun hs_ => ((kD (HO_7.out) BK353.out (by decide)).1 k_ hs_.symm).2) (fun hs_ => fun e_ => Nat.not_le.2 hs_ (by rw [e_]; exact GW353.out))) (fun hn_ => (jE (g := gb353) (o := .cells #[.int .i64 a0_0, .slice A0_1 l0_1.length c0_1] 29 (0, 0)) (zR BK353.out) k_ hn_)))) (kP (zT HB.out GE353.out))); replace HO_7 := zA (kL (zP HO_7.out) hb); replace BK353 := zA (zB1 BK353.out hb); replace HB := zA (kQ (zT HB.out GE353.out) hb); (try clear hb); (try clear ho0); obtain ⟨Ao26, co26, eo26⟩ := Kd.V_slice HO371.out; subst eo26) | ((with_reducible refine kS (N := 40) rfl ?_); refine Kd.N_lit (Kd.slice 2 (Kd.int .i64)) _ 22 ?hg (N' := 40) ?hd (xs := ([x7_1, t369] : List (List Int))) (inner := [.slice Ao24 x7_1.length co24, .slice Ao26 t369.length co26]) (ok := (fun k_ => k_ ≠ gb353)) (okp := (fun k_ => k_ ≠ gb353)) ?hr ?hp (fun _ hk => hk) ((show ∀ k_ : Nat, (_ : Nat) ≤ k_ → (fun k_ => k_ ≠ gb353) k_ from fun k_ hk => jE (g := gb353) (o := .cells #[.int .i64 a0_0, .slice A0_1 l0_1.length c0_1] 29 (0, 0)) (zR BK353.out) k_ hk) _ (Nat.le_refl _)) (kW _ _) (Nat.le_refl _) (by simp) ?_; (case hd => rfl); (case hg => rfl); (case hr => first | (go_simp; done) | (go_simp; rfl)); (case hp => exact (Reps.one (show Kd.FK (Kd.slice 2 (Kd.int .i64)) _ _ x7_1 [.slice Ao24 x7_1.length co24] from (Kd.FK_slice_mk (kB (kA (ok' := (fun k_ => k_ ≠ gb353)) (kD (HO_7.out) BK353.out (by decide)) (fun k_ hk => hk.2))).2.1 (Kd.R_F (kA (ok' := (fun k_ => k_ ≠ gb353)) (kD (HO_7.out) BK353.out (by decide)) (fun k_ hk => hk.2))))) (Reps.one (show Kd.FK (Kd.slice 2 (Kd.int .i64)) _ _ t369 [.slice Ao26 t369.length co26] from (zFK (kN (ok' := (fun k_ => k_ ≠ gb353)) (HO371.out) (fun k_ hk => hk)))) (Reps.none _ _)))); intro v374 w27 ho28 hb hg_ hnew_; clear hg_ hnew_; (first | rw [← Ny373.out] at ho28 | (simp only [Int.reduceToNat] at ho28; rw [← Ny373.out] at ho28)); replace HO368 := zA (kK (zPV HO368.out) (Kd.N_base ho28) hb); replace HO371 := zA (kK (zPV HO371.out) (Kd.N_base ho28) hb); have HO375 := zA (jN ho28 (kP (zT HB.out GE353.out))); replace BK353 := zA (zB1 BK353.out hb); replace HB := zA (kQ (zT HB.out GE353.out) hb); clear HO_7; clear hb ho28; obtain ⟨Ao29, co29, eo29⟩ := Kd.N_slice HO375.out; subst eo29) | (refine zO (some 41) Tryd.func85 #[.slice Ao29 y373.length co29] ?_; (with_reducible refine (slices_Concat_int64_int64.calls _ _ y373 t376 _ ?side1 ?side2 A20.out).mono ?_); (case side1 => exact zS (Kd.N_reads' HO375.out).2.2); (case side2 => exact (Kd.N_reads' HO375.out).2.1); rintro e w30 ⟨v377, rfl, ho0, hb⟩; refine ⟨_, rfl, ?_⟩; replace HO368 := zA (kK (zPV HO368.out) (kC ho0) hb); replace HO371 := zA (kK (zPV HO371.out) (kC ho0) hb); replace HO375 := zA (Kd.N_elder' (zPN HO375.out) (kC ho0) hb); have HO378 := zA (kI ho0 (kP (zT HB.out GE353.out))); replace BK353 := zA (zB1 BK353.out hb); replace HB := zA (kQ (zT HB.out GE353.out) hb); (try clear hb); (try clear ho0)))
        go_roundg k1
        case measure => have := HK1.out; omega
        case rel => exact ⟨(t376), (wrap64 (x24_1 + 1)), zs, H', ⟨by have := HK1.out; omega⟩, ⟨zP HO378.out⟩, ⟨zR BK353.out⟩, ⟨zT HB.out GE353.out⟩⟩
       replace c19 := Bool.eq_false_iff.mpr c19
       subst c19
       rw [if_neg (show ¬ (false = true) by decide)] at H
       simp only [Option.some.injEq, Prod.mk.injEq] at H
       obtain ⟨rfl, rfl⟩ := H
       have p365 : 0 ≤ (x24_1 : Int) := zd
       have q365 : x24_1 < (l1.length : Int) := zd
       obtain ⟨ad365, A365_0, c365_0, e365, hx365_0, hl365_0, hi365_0⟩ := at_L1 HR1.out x24_1 p365 q365
       cases e365
       replace hx365_0 := (HB.out.cell (jG w _ hx365_0)).trans hx365_0
       have HR365_0 := zA hi365_0
       have HC365_0 := zA hl365_0
       clear hi365_0 hl365_0
       replace p365 := eq_true p365
       replace q365 := eq_true q365
       obtain ⟨hcz31_0, hcz31_1, hfz31_0, hfz31_1⟩ := zB3 BK353.out
       go_wp2_with (first | (refine zO (some 30) Tryd.func77 #[.agg #[.int .i64 a0_0, .slice A0_1 l0_1.length c0_1]] ?_; (with_reducible refine (impl_Alphabet_ties.calls a0_0 (fun k_ => k_ < w.heap.size) _ _ l0_1 t366 _ ?side1 A17.out).mono ?_); (case side1 => exact Kd.V_mk HC0_1.out (Kd.F_below (Kd.C_F (Kd.heap_int .i64) HR0_1.out) (zT HB.out GE353.out))); rintro e w32 ⟨v367, rfl, ho0, hb⟩; refine ⟨_, rfl, ?_⟩; have HO368 := zA (jM (kN (ok' := fun k_ => some k_ ≠ (u7 : Value).ownBlock ∧ k_ ≠ gb353) ho0 (fun k_ hk_ => ⟨Or.elim hk_ (fun hs_ => fun e_ => Nat.not_le.2 hs_ (kC HO_7.out k_ e_.symm)) (fun hn_ => (jF (kH (zP HO_7.out)) k_ hn_)), Or.elim hk_ (fun hs_ => fun e_ => Nat.not_le.2 hs_ (by rw [e_]; exact GW353.out)) (fun hn_ => (jE (g := gb353) (o := .cells #[.int .i64 a0_0, .slice A0_1 l0_1.length c0_1] 29 (0, 0)) (zR BK353.out) k_ hn_))⟩)) (kP (zT HB.out GE353.out))); replace HO_7 := zA (kL (zP HO_7.out) hb); replace BK353 := zA (zB1 BK353.out hb); replace HB := zA (kQ (zT HB.out GE353.out) hb); (try clear hb); (try clear ho0); obtain ⟨Ao33, co33, eo33⟩ := Kd.V_slice HO368.out; subst eo33; obtain ⟨Ao34, co34, eo34⟩ := kM HO_7.out; subst eo34) | (refine zO (some 33) Tryd.func92 #[.slice Ao33 t366.length co33, .slice Ao34 x7_1.length co34, .slice A365_0 (rd_L1 l1 x24_1).length c365_0] ?_; (with_reducible refine (impl_ties_residual.calls k1 _ _ t366 (fun k_ => some k_ = (.slice Ao34 x7_1.length co34 : Value).ownBlock) _ _ x7_1 (fun k_ => k_ < w.heap.size) _ _ (rd_L1 l1 x24_1) t369 false _ ?side1 ?side2 ?side3 ?side4 ?side5 A18.out).mono ?_); (case side1 => exact zS (kJ HO368.out).2.2); (case side2 => exact (kJ HO368.out).2.1); (case side3 => exact jL (jK rfl (kD (HO_7.out) BK353.out (by decide)))); (case side4 => exact Kd.V_mk HC365_0.out (Kd.F_below (Kd.C_F (Kd.heap_int .i64) HR365_0.out) (zT HB.out GE353.out))); (case side5 => exact TabW.below HT.out (zT HB.out GE353.out)); rintro e w35 ⟨v370, rfl, ho0, hb⟩; refine ⟨_, rfl, ?_⟩; replace HO368 := zA (kG (zPV HO368.out) hb); have HO371 := zA (jM (kN (ok' := fun k_ => k_ ≠ gb353) ho0 (fun k_ hk_ => Or.elim hk_ (fun hs_ => Or.elim hs_ (fun hs_ => ((kD (HO_7.out) BK353.out (by decide)).1 k_ hs_.symm).2) (fun hs_ => fun e_ => Nat.not_le.2 hs_ (by rw [e_]; exact GW353.out))) (fun hn_ => (jE (g := gb353) (o := .cells #[.int .i64 a0_0, .slice A0_1 l0_1.length c0_1] 29 (0, 0)) (zR BK353.out) k_ hn_)))) (kP (zT HB.out GE353.out))); replace HO_7 := zA (kL (zP HO_7.out) hb); replace BK353 := zA (zB1 BK353.out hb); replace HB := zA (kQ (zT HB.out GE353.out) hb); (try clear hb); (try clear ho0)))
       go_ret2
       exact ⟨_, zr, zn, zT HB.out GE353.out⟩
      rw [if_neg c16] at H
      exact absurd H (by simp)
     rw [if_neg c15] at H
     exact absurd H (by simp)
    rw [if_neg c14] at H
    have c14b0 : decide (x24_1 < (l1.length : Int)) = false := decide_eq_false c14
    clear c14
    obtain ⟨t358, A36, H⟩ := zb H
    try dsimp only at H
    obtain ⟨⟨t361, t362⟩, A37, H⟩ := zb H
    try dsimp only at H
    simp only [Option.some.injEq, Prod.mk.injEq] at H
    obtain ⟨rfl, rfl⟩ := H
    obtain ⟨hcz38_0, hcz38_1, hfz38_0, hfz38_1⟩ := zB3 BK353.out
    go_wp2_with (first | (refine zO (some 44) Tryd.func77 #[.agg #[.int .i64 a0_0, .slice A0_1 l0_1.length c0_1]] ?_; (with_reducible refine (impl_Alphabet_ties.calls a0_0 (fun k_ => k_ < w.heap.size) _ _ l0_1 t358 _ ?side1 A36.out).mono ?_); (case side1 => exact Kd.V_mk HC0_1.out (Kd.F_below (Kd.C_F (Kd.heap_int .i64) HR0_1.out) (zT HB.out GE353.out))); rintro e w39 ⟨v359, rfl, ho0, hb⟩; refine ⟨_, rfl, ?_⟩; have HO360 := zA (jM (kN (ok' := fun k_ => some k_ ≠ (u7 : Value).ownBlock ∧ k_ ≠ gb353) ho0 (fun k_ hk_ => ⟨Or.elim hk_ (fun hs_ => fun e_ => Nat.not_le.2 hs_ (kC HO_7.out k_ e_.symm)) (fun hn_ => (jF (kH (zP HO_7.out)) k_ hn_)), Or.elim hk_ (fun hs_ => fun e_ => Nat.not_le.2 hs_ (by rw [e_]; exact GW353.out)) (fun hn_ => (jE (g := gb353) (o := .cells #[.int .i64 a0_0, .slice A0_1 l0_1.length c0_1] 29 (0, 0)) (zR BK353.out) k_ hn_))⟩)) (kP (zT HB.out GE353.out))); replace HO_7 := zA (kL (zP HO_7.out) hb); replace BK353 := zA (zB1 BK353.out hb); replace HB := zA (kQ (zT HB.out GE353.out) hb); (try clear hb); (try clear ho0); obtain ⟨Ao40, co40, eo40⟩ := Kd.V_slice HO360.out; subst eo40; obtain ⟨Ao41, co41, eo41⟩ := kM HO_7.out; subst eo41) | (refine zO (some 46) Tryd.func93 #[.slice Ao40 t358.length co40, .slice Ao41 x7_1.length co41] ?_; (with_reducible refine (impl_ties_limited.calls k1 _ _ t358 _ _ x7_1 t361 t362 _ ?side1 ?side2 ?side3 ?side4 ?side5 A37.out).mono ?_); (case side1 => exact zS (kJ HO360.out).2.2); (case side2 => exact (kJ HO360.out).2.1); (case side3 => exact zS (kB HO_7.out).2.2); (case side4 => exact (kB HO_7.out).2.1); (case side5 => exact TabW.below HT.out (zT HB.out GE353.out)); rintro e w42 ⟨v363, rfl, ho0, hb⟩; refine ⟨_, rfl, ?_⟩; replace HO360 := zA (kK (zPV HO360.out) (kC ho0) hb); have HO364 := zA (kI (kF ho0 (kH (zP HO_7.out))) (kP (zT HB.out GE353.out))); replace HO_7 := zA (kE (zP HO_7.out) (kC ho0) hb); replace BK353 := zA (zB1 BK353.out hb); replace HB := zA (kQ (zT HB.out GE353.out) hb); (try clear hb); (try clear ho0)))
    go_ret2
    exact ⟨_, zr, by (with_reducible repeat (first | apply zF | apply zG | apply zH)); exact kA HO364.out (fun _ hk => trivial), zT HB.out GE353.out⟩
 rw [if_neg c4] at H
 obtain ⟨c4b0, c4b1⟩ := zT2 c4
 simp only [Option.some.injEq, Prod.mk.injEq] at H
 obtain ⟨rfl, rfl⟩ := H
 go_enter Tryd.func32, Tryd.ntmps32
 go_wp2_with (first | (refine zBE 2 #[.int .i64 a0_0, .slice A0_1 l0_1.length c0_1] 29 ?_; intro gb353 hg w43 hbox hb; have BK353 := zA (hbox); have GW353 := zA (zBH hg HB.out); have GE353 := zA (zBH hg HB.out); replace HB := zA (kQ (zQ HB.out) hb); clear hb hbox hg; obtain ⟨hcz44_0, hcz44_1, hfz44_0, hfz44_1⟩ := zB3 BK353.out) | (refine zO (some 14) Tryd.func76 #[.agg #[.int .i64 a0_0, .slice A0_1 l0_1.length c0_1], .slice A1 l1.length c1] ?_; (with_reducible refine (impl_checkWords.calls k a0_0 _ _ l0_1 _ _ l1 t354 _ ?side1 ?side2 ?side3 ?side4 ?side5 A3.out).mono ?_); (case side1 => exact zS (kO HR0_1.out HB.out)); (case side2 => exact HC0_1.out); (case side3 => exact zS (kO HR1.out HB.out)); (case side4 => exact HC1.out); (case side5 => exact TabW.below HT.out (zT HB.out GE353.out)); rintro e w45 ⟨rfl, hb⟩; refine ⟨_, rfl, ?_⟩; replace BK353 := zA (zB1 BK353.out hb); replace HB := zA (kQ (zT HB.out GE353.out) hb); (try clear hb)))
 go_ret2
 exact ⟨_, zr, zn, zT HB.out GE353.out⟩

/-! ### laws_heldInt64S: function 33 -/
def laws_heldInt64S.l0 : Nat → List Int → Int → Int → Option (Int)
 | 0, _, _, _ => none
 | k + 1, x0, x1, x5 => if x5 < (x0.length : Int) then (if 0 ≤ x5 then (if (rd x0 x5) = x1 then (laws_heldInt64S.l0 k x0 (wrap64 (x1 + 1)) (wrap64 (x5 + 1))) else (some (-1))) else (none)) else (some x1)
def laws_heldInt64S.f (k : Nat) (l0 : List Int) (a1 : Int) : Option (Int) := laws_heldInt64S.l0 k l0 a1 0

set_option maxHeartbeats 8000000 in
set_option maxRecDepth 100000 in
theorem laws_heldInt64S.calls (k : Nat) (A0 : Option Addr) (c0 : Nat) (l0 : List Int) (a1 : Int) (r : Int) (w : World) (hr0 : Kd.C (Kd.int .i64) w A0 l0.length l0) (hc0 : l0.length ≤ c0) (h : laws_heldInt64S.f k l0 a1 = some r) :
  Calls Tryd.prog 33 #[.slice A0 l0.length c0, .int .i64 a1] w fun e w' => e = .returned (.int .i64 r) ∧ Drawn0 w w' := by
 have HR0 := zA hr0
 have HC0 := zA hc0
 clear hr0 hc0
 have H := h
 unfold laws_heldInt64S.f at H
 clear h
 have H' := zA H
 clear H
 go_enter Tryd.func33, Tryd.ntmps33
 go_wp2
 go_loopg [1, 5] k (fun kq v1 v5 w' => ∃ (x1_1 : Int) (x5_1 : Int), v1 = .int .i64 x1_1 ∧ v5 = .int .i64 x5_1 ∧ Aside0 (laws_heldInt64S.l0 kq l0 x1_1 x5_1 = some r) ∧ Aside0 (kq ≤ k) ∧ Drawn0 w w')
 case atStart => exact ⟨(a1), (0), zs, zs, H', ⟨Nat.le_refl _⟩, by repeat (first | exact Drawn0.refl _ | apply Drawn0.step)⟩
 case round =>
  clear H'
  obtain ⟨x1_1, x5_1, rfl, rfl, HA, HK1, ⟨m1, rfl⟩⟩ := hrel
  cases gk with
  | zero => exact absurd HA.out (by simp [laws_heldInt64S.l0])
  | succ k1 =>
   have H := HA.out
   clear HA
   simp only [laws_heldInt64S.l0] at H
   by_cases c3 : x5_1 < (l0.length : Int)
   ·rw [if_pos c3] at H
    have c3b0 : decide (x5_1 < (l0.length : Int)) = true := decide_eq_true c3
    clear c3
    by_cases c4 : 0 ≤ x5_1
    ·rw [if_pos c4] at H
     have c4b0 : decide (0 ≤ x5_1) = true := decide_eq_true c4
     clear c4
     by_cases c5 : (rd l0 x5_1) = x1_1
     ·rw [if_pos c5] at H
      obtain ⟨c5b0, c5b1⟩ := zT1 c5
      clear c5
      have H' := zA H
      clear H
      have p379 : 0 ≤ (x5_1 : Int) := zd
      have q379 : x5_1 < (l0.length : Int) := zd
      obtain ⟨ad379, e379, hx379_0⟩ := Kd.at_int HR0.out x5_1 p379 q379
      cases e379
      replace p379 := eq_true p379
      replace q379 := eq_true q379
      go_wp2
      go_roundg k1
      case measure => have := HK1.out; omega
      case rel => exact ⟨(wrap64 (x1_1 + 1)), (wrap64 (x5_1 + 1)), zs, zs, H', ⟨by have := HK1.out; omega⟩, by repeat (first | exact Drawn0.refl _ | apply Drawn0.step)⟩
     rw [if_neg c5] at H
     obtain ⟨c5b0, c5b1⟩ := zT2 c5
     obtain rfl := Option.some.inj H
     have p379 : 0 ≤ (x5_1 : Int) := zd
     have q379 : x5_1 < (l0.length : Int) := zd
     obtain ⟨ad379, e379, hx379_0⟩ := Kd.at_int HR0.out x5_1 p379 q379
     cases e379
     replace p379 := eq_true p379
     replace q379 := eq_true q379
     go_wp2
     go_ret
     exact ⟨zs, by repeat (first | exact Drawn0.refl _ | apply Drawn0.step)⟩
    rw [if_neg c4] at H
    exact absurd H (by simp)
   rw [if_neg c3] at H
   have c3b0 : decide (x5_1 < (l0.length : Int)) = false := decide_eq_false c3
   clear c3
   obtain rfl := Option.some.inj H
   go_wp2
   go_ret
   exact ⟨zs, by repeat (first | exact Drawn0.refl _ | apply Drawn0.step)⟩

/-! ### laws_FnExactCommonContinuation: function 5 -/
def laws_eqInt64S_BFnExactCommonContinuation.f (k : Nat) (l0 : List Int) (l1 : List Int) : Option (Bool) := laws_eqInt64S.f k l0 l1
theorem laws_eqInt64S_BFnExactCommonContinuation.calls (k : Nat) (A0 : Option Addr) (c0 : Nat) (l0 : List Int) (A1 : Option Addr) (c1 : Nat) (l1 : List Int) (r : Bool) (w : World) (hr0 : Kd.C (Kd.int .i64) w A0 l0.length l0) (hc0 : l0.length ≤ c0) (hr1 : Kd.C (Kd.int .i64) w A1 l1.length l1) (hc1 : l1.length ≤ c1) (h : laws_eqInt64S_BFnExactCommonContinuation.f k l0 l1 = some r) :
 Calls Tryd.prog 22 #[.slice A0 l0.length c0, .slice A1 l1.length c1] w fun e w' => e = .returned (.bool r) ∧ Below w.heap.size w w' := by
 refine (laws_eqInt64S.calls k A0 c0 l0 A1 c1 l1 r w hr0 hc0 hr1 hc1 h).mono ?_
 rintro e w' ⟨h1, h2⟩
 exact ⟨h1, Drawn0.below h2⟩
def laws_eqInt64SS_BFnExactCommonContinuation.f (k : Nat) (l0 : List (List Int)) (l1 : List (List Int)) : Option (Bool) := laws_eqInt64SS.f k l0 l1
theorem laws_eqInt64SS_BFnExactCommonContinuation.calls (k : Nat) (A0 : Option Addr) (c0 : Nat) (l0 : List (List Int)) (A1 : Option Addr) (c1 : Nat) (l1 : List (List Int)) (r : Bool) (w : World) (hr0 : Kd.C (Kd.slice 2 (Kd.int .i64)) w A0 l0.length l0) (hc0 : l0.length ≤ c0) (hr1 : Kd.C (Kd.slice 2 (Kd.int .i64)) w A1 l1.length l1) (hc1 : l1.length ≤ c1) (h : laws_eqInt64SS_BFnExactCommonContinuation.f k l0 l1 = some r) :
 Calls Tryd.prog 20 #[.slice A0 l0.length c0, .slice A1 l1.length c1] w fun e w' => e = .returned (.bool r) ∧ Below w.heap.size w w' := by
 refine (laws_eqInt64SS.calls k A0 c0 l0 A1 c1 l1 r w hr0 hc0 hr1 hc1 h).mono ?_
 rintro e w' ⟨h1, h2⟩
 exact ⟨h1, Drawn0.below h2⟩
def laws_FnExactCommonContinuation.f (k : Nat) (a0_0 : Int) (l0_1 : List Int) (l1 : List (List Int)) : Option (Bool) := (laws_szAlphabet.f a0_0 l0_1 1048576).bind fun t381 => (if t381 < 0 then (some true) else ((laws_szInt64SS.f k l1 t381).bind fun t382 => (if t382 < 0 then (some true) else ((laws_toAlphabet.f k a0_0 l0_1).bind fun bt383 => ((laws_toInt64SS.f k l1).bind fun t387 => ((spec_CommonContinuation.f k bt383.1 bt383.2 t387).bind fun bt390 => ((laws_toAlphabet.f k a0_0 l0_1).bind fun bt394 => ((laws_toInt64SS.f k l1).bind fun t399 => ((impl_CommonContinuation.f k bt394.1 bt394.2 t399).bind fun bt402 => ((laws_eqInt64S_BFnExactCommonContinuation.f k bt402.1 bt390.1).bind fun t406 => (if t406 = true then (if bt402.2 = bt390.2 then ((laws_toAlphabet.f k a0_0 l0_1).bind fun bt407 => ((laws_eqAlphabet.f k bt394.1 bt394.2 bt407.1 bt407.2).bind fun t411 => (if t411 = true then ((laws_toInt64SS.f k l1).bind fun t412 => ((laws_eqInt64SS_BFnExactCommonContinuation.f k t399 t412).bind fun t415 => (if t415 = true then ((laws_markAlphabet.f k bt394.1 bt394.2 1).bind fun bt416 => ((laws_markInt64SS.f k t399 bt416.1).bind fun bt418 => (if bt418.1 < 0 then (none) else ((laws_eqInt64S_BFnExactCommonContinuation.f k bt402.1 bt390.1).bind fun t420 => (if t420 = true then ((laws_markInt64S.f k bt402.1 1).bind fun bt421 => ((laws_heldInt64S.f k bt421.2 1).bind fun t423 => (if t423 < 0 then (none) else (if t423 = bt421.1 then ((laws_toAlphabet.f k a0_0 l0_1).bind fun bt424 => ((laws_toInt64SS.f k l1).bind fun t428 => ((impl_CommonContinuation.f k bt424.1 bt424.2 t428).bind fun bt431 => ((laws_eqInt64S_BFnExactCommonContinuation.f k bt431.1 bt390.1).bind fun t435 => (if t435 = true then (if bt431.2 = bt390.2 then ((laws_heldInt64S.f k bt421.2 1).bind fun t436 => (if t436 < 0 then (none) else (if t436 = bt421.1 then (some true) else (none)))) else (none)) else (none)))))) else (none))))) else (none)))))) else (none)))) else (none)))) else (none)) else (none))))))))))))

set_option maxHeartbeats 8000000 in
set_option maxRecDepth 100000 in
theorem laws_FnExactCommonContinuation.calls (k : Nat) (a0_0 : Int) (A0_1 : Option Addr) (c0_1 : Nat) (l0_1 : List Int) (A1 : Option Addr) (c1 : Nat) (l1 : List (List Int)) (r : Bool) (w : World) (hr0_1 : Kd.C (Kd.int .i64) w A0_1 l0_1.length l0_1) (hc0_1 : l0_1.length ≤ c0_1) (hr1 : Kd.C (Kd.slice 2 (Kd.int .i64)) w A1 l1.length l1) (hc1 : l1.length ≤ c1) (hT : TabW w) (h : laws_FnExactCommonContinuation.f k a0_0 l0_1 l1 = some r) :
  Calls Tryd.prog 5 #[.agg #[.int .i64 a0_0, .slice A0_1 l0_1.length c0_1], .slice A1 l1.length c1] w fun e w' => e = .returned (.bool r) ∧ Below w.heap.size w w' := by
 have hu24 := Tryd.underlying24
 have hu29 := Tryd.underlying29
 have HT := zA hT
 clear hT
 have HR0_1 := zA hr0_1
 have HC0_1 := zA hc0_1
 clear hr0_1 hc0_1
 have HR1 := zA hr1
 have HC1 := zA hc1
 clear hr1 hc1
 have HB := zA (kW w.heap.size w)
 have H := h
 unfold laws_FnExactCommonContinuation.f at H
 clear h
 obtain ⟨t381, A3, H⟩ := zb H
 try dsimp only at H
 by_cases c4 : t381 < 0
 ·rw [if_pos c4] at H
  have c4b0 : decide (t381 < 0) = true := decide_eq_true c4
  clear c4
  obtain rfl := Option.some.inj H
  go_enter Tryd.func5, Tryd.ntmps5
  go_wp2_with (first | (refine zBE 2 #[.int .i64 a0_0, .slice A0_1 l0_1.length c0_1] 24 ?_; intro gb380 hg w5 hbox hb; have BK380 := zA (hbox); have GW380 := zA (zBH hg HB.out); have GE380 := zA (zBH hg HB.out); replace HB := zA (kQ (zQ HB.out) hb); clear hb hbox hg; obtain ⟨hcz6_0, hcz6_1, hfz6_0, hfz6_1⟩ := zB3 BK380.out) | (refine zO (some 19) Tryd.func15 #[.agg #[.int .i64 a0_0, .slice A0_1 l0_1.length c0_1], .int .i64 1048576] ?_; (with_reducible refine (laws_szAlphabet.calls a0_0 _ _ l0_1 1048576 t381 _ ?side1 ?side2 A3.out).mono ?_); (case side1 => exact zS (kO HR0_1.out HB.out)); (case side2 => exact HC0_1.out); rintro e w7 ⟨rfl, hb⟩; refine ⟨_, rfl, ?_⟩; replace BK380 := zA (zB1 BK380.out hb); replace HB := zA (kQ (zT HB.out GE380.out) hb); (try clear hb)))
  go_ret
  exact ⟨zr, zT HB.out GE380.out⟩
 rw [if_neg c4] at H
 have c4b0 : decide (t381 < 0) = false := decide_eq_false c4
 clear c4
 obtain ⟨t382, A8, H⟩ := zb H
 try dsimp only at H
 by_cases c9 : t382 < 0
 ·rw [if_pos c9] at H
  have c9b0 : decide (t382 < 0) = true := decide_eq_true c9
  clear c9
  obtain rfl := Option.some.inj H
  go_enter Tryd.func5, Tryd.ntmps5
  go_wp2_with (first | (refine zBE 2 #[.int .i64 a0_0, .slice A0_1 l0_1.length c0_1] 24 ?_; intro gb380 hg w10 hbox hb; have BK380 := zA (hbox); have GW380 := zA (zBH hg HB.out); have GE380 := zA (zBH hg HB.out); replace HB := zA (kQ (zQ HB.out) hb); clear hb hbox hg; obtain ⟨hcz11_0, hcz11_1, hfz11_0, hfz11_1⟩ := zB3 BK380.out) | (refine zO (some 19) Tryd.func15 #[.agg #[.int .i64 a0_0, .slice A0_1 l0_1.length c0_1], .int .i64 1048576] ?_; (with_reducible refine (laws_szAlphabet.calls a0_0 _ _ l0_1 1048576 t381 _ ?side1 ?side2 A3.out).mono ?_); (case side1 => exact zS (kO HR0_1.out HB.out)); (case side2 => exact HC0_1.out); rintro e w12 ⟨rfl, hb⟩; refine ⟨_, rfl, ?_⟩; replace BK380 := zA (zB1 BK380.out hb); replace HB := zA (kQ (zT HB.out GE380.out) hb); (try clear hb)) | (refine zO (some 24) Tryd.func29 #[.slice A1 l1.length c1, .int .i64 t381] ?_; (with_reducible refine (laws_szInt64SS.calls k _ _ l1 t381 t382 _ ?side1 ?side2 A8.out).mono ?_); (case side1 => exact zS (kO HR1.out HB.out)); (case side2 => exact HC1.out); rintro e w' ⟨rfl, ⟨nd, rfl⟩⟩; refine ⟨_, rfl, ?_⟩))
  go_ret
  exact ⟨zr, zT HB.out GE380.out⟩
 rw [if_neg c9] at H
 have c9b0 : decide (t382 < 0) = false := decide_eq_false c9
 clear c9
 obtain ⟨⟨t383, t384⟩, A13, H⟩ := zb H
 try dsimp only at H
 obtain ⟨t387, A14, H⟩ := zb H
 try dsimp only at H
 obtain ⟨⟨t390, t393⟩, A15, H⟩ := zb H
 try dsimp only at H
 obtain ⟨⟨t394, t395⟩, A16, H⟩ := zb H
 try dsimp only at H
 obtain ⟨t399, A17, H⟩ := zb H
 try dsimp only at H
 obtain ⟨⟨t402, t405⟩, A18, H⟩ := zb H
 try dsimp only at H
 obtain ⟨t406, A19, H⟩ := zb H
 try dsimp only at H
 by_cases c20 : t406 = true
 ·subst c20
  rw [if_pos rfl] at H
  by_cases c21 : t405 = t393
  ·rw [if_pos c21] at H
   obtain ⟨c21b0, c21b1⟩ := zT1 c21
   clear c21
   obtain ⟨⟨t407, t408⟩, A22, H⟩ := zb H
   try dsimp only at H
   obtain ⟨t411, A23, H⟩ := zb H
   try dsimp only at H
   by_cases c24 : t411 = true
   ·subst c24
    rw [if_pos rfl] at H
    obtain ⟨t412, A25, H⟩ := zb H
    try dsimp only at H
    obtain ⟨t415, A26, H⟩ := zb H
    try dsimp only at H
    by_cases c27 : t415 = true
    ·subst c27
     rw [if_pos rfl] at H
     obtain ⟨⟨t416, t417⟩, A28, H⟩ := zb H
     try dsimp only at H
     obtain ⟨⟨t418, t419⟩, A29, H⟩ := zb H
     try dsimp only at H
     by_cases c30 : t418 < 0
     ·rw [if_pos c30] at H
      exact absurd H (by simp)
     rw [if_neg c30] at H
     have c30b0 : decide (t418 < 0) = false := decide_eq_false c30
     clear c30
     obtain ⟨t420, A31, H⟩ := zb H
     try dsimp only at H
     by_cases c32 : t420 = true
     ·subst c32
      rw [if_pos rfl] at H
      obtain ⟨⟨t421, t422⟩, A33, H⟩ := zb H
      try dsimp only at H
      obtain ⟨t423, A34, H⟩ := zb H
      try dsimp only at H
      by_cases c35 : t423 < 0
      ·rw [if_pos c35] at H
       exact absurd H (by simp)
      rw [if_neg c35] at H
      have c35b0 : decide (t423 < 0) = false := decide_eq_false c35
      clear c35
      by_cases c36 : t423 = t421
      ·rw [if_pos c36] at H
       obtain ⟨c36b0, c36b1⟩ := zT1 c36
       clear c36
       obtain ⟨⟨t424, t425⟩, A37, H⟩ := zb H
       try dsimp only at H
       obtain ⟨t428, A38, H⟩ := zb H
       try dsimp only at H
       obtain ⟨⟨t431, t434⟩, A39, H⟩ := zb H
       try dsimp only at H
       obtain ⟨t435, A40, H⟩ := zb H
       try dsimp only at H
       by_cases c41 : t435 = true
       ·subst c41
        rw [if_pos rfl] at H
        by_cases c42 : t434 = t393
        ·rw [if_pos c42] at H
         obtain ⟨c42b0, c42b1⟩ := zT1 c42
         clear c42
         obtain ⟨t436, A43, H⟩ := zb H
         try dsimp only at H
         by_cases c44 : t436 < 0
         ·rw [if_pos c44] at H
          exact absurd H (by simp)
         rw [if_neg c44] at H
         have c44b0 : decide (t436 < 0) = false := decide_eq_false c44
         clear c44
         by_cases c45 : t436 = t421
         ·rw [if_pos c45] at H
          obtain ⟨c45b0, c45b1⟩ := zT1 c45
          clear c45
          obtain rfl := Option.some.inj H
          go_enter Tryd.func5, Tryd.ntmps5
          try go_wp2_with (first | (refine zBE 2 #[.int .i64 a0_0, .slice A0_1 l0_1.length c0_1] 24 ?_; intro gb380 hg w46 hbox hb; have BK380 := zA (hbox); have GW380 := zA (zBH hg HB.out); have GE380 := zA (zBH hg HB.out); replace HB := zA (kQ (zQ HB.out) hb); clear hb hbox hg; obtain ⟨hcz47_0, hcz47_1, hfz47_0, hfz47_1⟩ := zB3 BK380.out) | (refine zO (some 19) Tryd.func15 #[.agg #[.int .i64 a0_0, .slice A0_1 l0_1.length c0_1], .int .i64 1048576] ?_; (with_reducible refine (laws_szAlphabet.calls a0_0 _ _ l0_1 1048576 t381 _ ?side1 ?side2 A3.out).mono ?_); (case side1 => exact zS (kO HR0_1.out HB.out)); (case side2 => exact HC0_1.out); rintro e w48 ⟨rfl, hb⟩; refine ⟨_, rfl, ?_⟩; replace BK380 := zA (zB1 BK380.out hb); replace HB := zA (kQ (zT HB.out GE380.out) hb); (try clear hb)) | (refine zO (some 24) Tryd.func29 #[.slice A1 l1.length c1, .int .i64 t381] ?_; (with_reducible refine (laws_szInt64SS.calls k _ _ l1 t381 t382 _ ?side1 ?side2 A8.out).mono ?_); (case side1 => exact zS (kO HR1.out HB.out)); (case side2 => exact HC1.out); rintro e w' ⟨rfl, ⟨nd, rfl⟩⟩; refine ⟨_, rfl, ?_⟩; (try (rw [drewN_self w48]; generalize hq_ : World.drewN w48 _ = w48; have n0_ : Aside0 (w48.heap[gb380]? = some (.cells #[.int .i64 a0_0, .slice A0_1 l0_1.length c0_1] 24 (0, 0))) := ⟨by rw [← hq_]; exact (zR BK380.out)⟩; have n1_ : Aside0 (Below w.heap.size w w48) := ⟨by rw [← hq_]; exact (zT HB.out GE380.out)⟩; clear BK380 HB hq_; have BK380 := n0_; have HB := n1_; clear n0_ n1_)); obtain ⟨hcz49_0, hcz49_1, hfz49_0, hfz49_1⟩ := zB3 BK380.out) | (refine zO (some 29) Tryd.func17 #[.agg #[.int .i64 a0_0, .slice A0_1 l0_1.length c0_1]] ?_; (with_reducible refine (laws_toAlphabet.calls k a0_0 _ _ l0_1 t383 t384 _ ?side1 ?side2 A13.out).mono ?_); (case side1 => exact zS (kO HR0_1.out HB.out)); (case side2 => exact HC0_1.out); rintro e w50 ⟨v385, rfl, ho0, hb⟩; refine ⟨_, rfl, ?_⟩; have HO386 := zA (kI ho0 (kP (zT HB.out GE380.out))); replace BK380 := zA (zB1 BK380.out hb); replace HB := zA (kQ (zT HB.out GE380.out) hb); (try clear hb); (try clear ho0)) | (refine zO (some 31) Tryd.func31 #[.slice A1 l1.length c1] ?_; (with_reducible refine (laws_toInt64SS.calls k _ _ l1 t387 _ ?side1 ?side2 A14.out).mono ?_); (case side1 => exact zS (kO HR1.out HB.out)); (case side2 => exact HC1.out); rintro e w51 ⟨v388, rfl, ho0, hb⟩; refine ⟨_, rfl, ?_⟩; have HO389 := zA (Kd.S_lower (Kd.S_new' ho0 (kH (zP HO386.out))) (kP (zT HB.out GE380.out))); replace HO386 := zA (kL (zP HO386.out) hb); replace BK380 := zA (zB1 BK380.out hb); replace HB := zA (kQ (zT HB.out GE380.out) hb); (try clear hb); (try clear ho0); obtain ⟨Ao52, co52, eo52⟩ := kM HO386.out; subst eo52; obtain ⟨Ao53, co53, eo53⟩ := Kd.S_slice HO389.out; subst eo53) | (refine zO (some 32) Tryd.func30 #[.agg #[.int .i64 t383, .slice Ao52 t384.length co52], .slice Ao53 t387.length co53] ?_; (with_reducible refine (spec_CommonContinuation.calls k t383 _ _ t384 _ _ t387 t390 t393 _ ?side1 ?side2 ?side3 ?side4 A15.out).mono ?_); (case side1 => exact zS (kB HO386.out).2.2); (case side2 => exact (kB HO386.out).2.1); (case side3 => exact zS (Kd.S_reads' HO389.out).2.2); (case side4 => exact (Kd.S_reads' HO389.out).2.1); rintro e w54 ⟨v391, rfl, ho0, hb⟩; refine ⟨_, rfl, ?_⟩; replace HO389 := zA (Kd.S_elder' (by (with_reducible repeat (first | apply Kd.S_alloc | apply Kd.S_drewN | apply Kd.S_drew)); exact HO389.out) (kC ho0) hb); have HO392 := zA (kI (kF ho0 (kH (zP HO386.out))) (kP (zT HB.out GE380.out))); replace HO386 := zA (kE (zP HO386.out) (kC ho0) hb); replace BK380 := zA (zB1 BK380.out hb); replace HB := zA (kQ (zT HB.out GE380.out) hb); (try clear hb); (try clear ho0); obtain ⟨hcz55_0, hcz55_1, hfz55_0, hfz55_1⟩ := zB3 BK380.out) | (refine zO (some 36) Tryd.func17 #[.agg #[.int .i64 a0_0, .slice A0_1 l0_1.length c0_1]] ?_; (with_reducible refine (laws_toAlphabet.calls k a0_0 _ _ l0_1 t394 t395 _ ?side1 ?side2 A16.out).mono ?_); (case side1 => exact zS (kO HR0_1.out HB.out)); (case side2 => exact HC0_1.out); rintro e w56 ⟨v396, rfl, ho0, hb⟩; refine ⟨_, rfl, ?_⟩; replace HO389 := zA (Kd.S_elder' (by (with_reducible repeat (first | apply Kd.S_alloc | apply Kd.S_drewN | apply Kd.S_drew)); exact HO389.out) (kC ho0) hb); have HO397 := zA (kI (kF (kF ho0 (kH (zP HO386.out))) (kH (zP HO392.out))) (kP (zT HB.out GE380.out))); replace HO386 := zA (kE (zP HO386.out) (kC ho0) hb); replace HO392 := zA (kE (zP HO392.out) (kC ho0) hb); replace BK380 := zA (zB1 BK380.out hb); replace HB := zA (kQ (zT HB.out GE380.out) hb); (try clear hb); (try clear ho0)) | (refine zBE 8 #[.int .i64 0, .slice none 0 0] 29 ?_; intro gb398 hg w57 hbox hb; replace HO386 := zA (kL (zP HO386.out) hb); replace HO389 := zA (Kd.S_below (by (with_reducible repeat (first | apply Kd.S_alloc | apply Kd.S_drewN | apply Kd.S_drew)); exact HO389.out) hb); replace HO392 := zA (kL (zP HO392.out) hb); replace HO397 := zA (kL (zP HO397.out) hb); have BK398 := zA (hbox); have GW398 := zA (zB6 hg (kP (zT HB.out GE380.out)) : w.heap.size ≤ gb398); have GE398 := zA (zB6 hg (kP (zT HB.out GE380.out)) : w.heap.size ≤ gb398); replace HB := zA (kQ (zT HB.out GE380.out) hb); have NB380_398 := zA (zB4 hg BK380.out : gb380 ≠ gb398); have NB398_380 := zA (zB5 hg BK380.out : gb398 ≠ gb380); replace BK380 := zA (zB1 BK380.out hb); clear hb hbox hg; have hnb58 := NB398_380.out; have hnc58 := NB380_398.out; obtain ⟨hcz59_0, hcz59_1, hfz59_0, hfz59_1⟩ := zB3 BK398.out; obtain ⟨Ao60, co60, eo60⟩ := kM HO397.out; subst eo60) | (refine zO (some 38) Tryd.func31 #[.slice A1 l1.length c1] ?_; (with_reducible refine (laws_toInt64SS.calls k _ _ l1 t399 _ ?side1 ?side2 A17.out).mono ?_); (case side1 => exact kO HR1.out (zV HB.out GE380.out GE398.out)); (case side2 => exact HC1.out); rintro e w61 ⟨v400, rfl, ho0, hb⟩; refine ⟨_, rfl, ?_⟩; have HO401 := zA (Kd.S_lower (Kd.S_new' (Kd.S_new' (Kd.S_new' (Kd.S_new' ho0 (kH (zP (zFG HO386.out BK398.out (.int .i64 t394) (.slice Ao60 t395.length co60))))) (Kd.S_lt (by (with_reducible repeat (first | apply Kd.S_alloc | apply Kd.S_drewN | apply Kd.S_drew)); exact (Kd.S_mono (Kd.S_far (p := ⟨gb398, 1, none⟩) (Kd.S_far (p := ⟨gb398, 0, none⟩) (Kd.S_types HO389.out BK398.out (by decide)) (fun _ hk => hk.2) (.int .i64 t394)) (fun _ hk => hk.2) (.slice Ao60 t395.length co60)) (fun _ h_ => h_.1))))) (kH (zP (zFG HO392.out BK398.out (.int .i64 t394) (.slice Ao60 t395.length co60))))) (kH (zP (zFG HO397.out BK398.out (.int .i64 t394) (.slice Ao60 t395.length co60))))) (kP (zV HB.out GE380.out GE398.out))); replace HO386 := zA (kL (zP (zFG HO386.out BK398.out (.int .i64 t394) (.slice Ao60 t395.length co60))) hb); replace HO389 := zA (Kd.S_elder' (by (with_reducible repeat (first | apply Kd.S_alloc | apply Kd.S_drewN | apply Kd.S_drew)); exact (Kd.S_mono (Kd.S_far (p := ⟨gb398, 1, none⟩) (Kd.S_far (p := ⟨gb398, 0, none⟩) (Kd.S_types HO389.out BK398.out (by decide)) (fun _ hk => hk.2) (.int .i64 t394)) (fun _ hk => hk.2) (.slice Ao60 t395.length co60)) (fun _ h_ => h_.1))) (Kd.S_base ho0) hb); replace HO392 := zA (kL (zP (zFG HO392.out BK398.out (.int .i64 t394) (.slice Ao60 t395.length co60))) hb); replace HO397 := zA (kL (zP (zFG HO397.out BK398.out (.int .i64 t394) (.slice Ao60 t395.length co60))) hb); replace BK380 := zA (blk_below (g := gb380) (o := .cells #[.int .i64 a0_0, .slice A0_1 l0_1.length c0_1] 24 (0, 0)) (zBG BK380.out NB380_398.out NB380_398.out) hb); replace BK398 := zA (blk_below (g := gb398) (o := .cells #[.int .i64 t394, .slice Ao60 t395.length co60] 29 (0, 0)) (zRP BK398.out) hb); replace HB := zA (kQ (zV HB.out GE380.out GE398.out) hb); (try clear hb); (try clear ho0); obtain ⟨hcz62_0, hcz62_1, hfz62_0, hfz62_1⟩ := zB3 BK398.out; obtain ⟨Ao63, co63, eo63⟩ := Kd.S_slice HO401.out; subst eo63) | (refine zO (some 42) Tryd.func32 #[.agg #[.int .i64 t394, .slice Ao60 t395.length co60], .slice Ao63 t399.length co63] ?_; (with_reducible refine (impl_CommonContinuation.calls k t394 _ _ t395 _ _ t399 t402 t405 _ ?side1 ?side2 ?side3 ?side4 ?side5 A18.out).mono ?_); (case side1 => exact zS (kB HO397.out).2.2); (case side2 => exact (kB HO397.out).2.1); (case side3 => exact zS (Kd.S_reads' HO401.out).2.2); (case side4 => exact (Kd.S_reads' HO401.out).2.1); (case side5 => exact TabW.below HT.out (zV HB.out GE380.out GE398.out)); rintro e w64 ⟨v403, rfl, ho0, hb⟩; refine ⟨_, rfl, ?_⟩; replace HO389 := zA (Kd.S_elder' (by (with_reducible repeat (first | apply Kd.S_alloc | apply Kd.S_drewN | apply Kd.S_drew)); exact HO389.out) (kC ho0) hb); replace HO401 := zA (Kd.S_elder' (by (with_reducible repeat (first | apply Kd.S_alloc | apply Kd.S_drewN | apply Kd.S_drew)); exact HO401.out) (kC ho0) hb); have HO404 := zA (kI (kF (kF (kF ho0 (kH (zP HO386.out))) (kH (zP HO392.out))) (kH (zP HO397.out))) (kP (zV HB.out GE380.out GE398.out))); replace HO386 := zA (kE (zP HO386.out) (kC ho0) hb); replace HO392 := zA (kE (zP HO392.out) (kC ho0) hb); replace HO397 := zA (kE (zP HO397.out) (kC ho0) hb); replace BK380 := zA (zB1 BK380.out hb); replace BK398 := zA (zB1 BK398.out hb); replace HB := zA (kQ (zV HB.out GE380.out GE398.out) hb); (try clear hb); (try clear ho0); obtain ⟨Ao65, co65, eo65⟩ := kM HO404.out; subst eo65; obtain ⟨Ao66, co66, eo66⟩ := kM HO392.out; subst eo66) | (refine zO (some 47) Tryd.func22 #[.slice Ao65 t402.length co65, .slice Ao66 t390.length co66] ?_; (with_reducible refine (laws_eqInt64S_BFnExactCommonContinuation.calls k _ _ t402 _ _ t390 true _ ?side1 ?side2 ?side3 ?side4 A19.out).mono ?_); (case side1 => exact zS (kB HO404.out).2.2); (case side2 => exact (kB HO404.out).2.1); (case side3 => exact zS (kB HO392.out).2.2); (case side4 => exact (kB HO392.out).2.1); rintro e w67 ⟨rfl, hb⟩; refine ⟨_, rfl, ?_⟩; replace HO386 := zA (kL (zP HO386.out) hb); replace HO389 := zA (Kd.S_below (by (with_reducible repeat (first | apply Kd.S_alloc | apply Kd.S_drewN | apply Kd.S_drew)); exact HO389.out) hb); replace HO392 := zA (kL (zP HO392.out) hb); replace HO397 := zA (kL (zP HO397.out) hb); replace HO401 := zA (Kd.S_below (by (with_reducible repeat (first | apply Kd.S_alloc | apply Kd.S_drewN | apply Kd.S_drew)); exact HO401.out) hb); replace HO404 := zA (kL (zP HO404.out) hb); replace BK380 := zA (zB1 BK380.out hb); replace BK398 := zA (zB1 BK398.out hb); replace HB := zA (kQ (zV HB.out GE380.out GE398.out) hb); (try clear hb)))
          replace HO386 := zA (zH HO386.out)
          replace HO389 := zA (Kd.S_drew HO389.out)
          replace HO392 := zA (zH HO392.out)
          replace HO397 := zA (zH HO397.out)
          replace HO401 := zA (Kd.S_drew HO401.out)
          replace HO404 := zA (zH HO404.out)
          replace BK380 := zA (zK BK380.out)
          replace BK398 := zA (zK BK398.out)
          replace HB := zA (zD HB.out)
          refine start_ (n := 5) (S := fun w' => w'.cell? ⟨gb398, 0, none⟩ = some (.int .i64 t394) ∧ w'.cell? ⟨gb398, 1, none⟩ = some (.slice Ao60 t395.length co60) ∧ w'.cell? ⟨gb380, 0, none⟩ = some (.int .i64 a0_0) ∧ w'.cell? ⟨gb380, 1, none⟩ = some (.slice A0_1 l0_1.length c0_1)) (ds := []) #[false, false, false, false, false] (by kernel_rfl) rfl rfl ⟨(kV BK398.out 0).trans rfl, (kV BK398.out 1).trans rfl, (kV BK380.out 0).trans rfl, (kV BK380.out 1).trans rfl⟩ (fun hHeld => ?_)
          generalize w67.drew = w68 at HO386 HO389 HO392 HO397 HO401 HO404 BK380 BK398 HB hHeld ⊢
          refine take_ (i := 0) (N := some 54) (v := ?_) (a' := ?_) #[true, false, false, false, false] rfl rfl (by kernel_rfl) (fun _ _ _ h => h) (Or.inl ⟨by rfl, ?_⟩) hHeld ?_ ?_
          rotate_left
          ·rintro w' ⟨s0, s1, s2, s3⟩
           go_simp
           with_reducible rfl
          rotate_left
          ·simp only [Act.put, zL, zM, zN, i64_w, i32_w]
           rfl
          refine take_ (i := 1) (N := some 55) (v := ?_) (a' := ?_) #[true, true, false, false, false] rfl rfl (by kernel_rfl) (fun _ _ _ h => h) (Or.inl ⟨by rfl, ?_⟩) hHeld ?_ ?_
          rotate_left
          ·rintro w' ⟨s0, s1, s2, s3⟩
           go_simp
           with_reducible rfl
          rotate_left
          ·simp only [Act.put, zL, zM, zN, i64_w, i32_w]
           rfl
          refine one_ (i := 2) (N := some 56) #[true, true, true, false, false] rfl rfl (by kernel_rfl) (by decide) (fun K hK => ?_)
          refine goes_ Tryd.func17 (by kernel_rfl) rfl #[.agg #[.int .i64 a0_0, .slice A0_1 l0_1.length c0_1]] (by rfl) rfl rfl zg ?_
          with_reducible refine (laws_toAlphabet.calls k a0_0 _ _ l0_1 t407 t408 _ ?side1 ?side2 A22.out).mono ?_
          (case side1 => exact zS (kO HR0_1.out HB.out))
          (case side2 => exact HC0_1.out)
          rintro e w69 ⟨v409, rfl, ho0, hb⟩
          refine ⟨_, rfl, ?_⟩
          replace HO389 := zA (Kd.S_elder' (by (with_reducible repeat (first | apply Kd.S_alloc | apply Kd.S_drewN | apply Kd.S_drew)); exact HO389.out) (kC ho0) hb)
          replace HO401 := zA (Kd.S_elder' (by (with_reducible repeat (first | apply Kd.S_alloc | apply Kd.S_drewN | apply Kd.S_drew)); exact HO401.out) (kC ho0) hb)
          have HO410 := zA (kI (kF (kF (kF (kF ho0 (kH (zP HO386.out))) (kH (zP HO392.out))) (kH (zP HO397.out))) (kH (zP HO404.out))) (kP (zV HB.out GE380.out GE398.out)))
          replace HO386 := zA (kE (zP HO386.out) (kC ho0) hb)
          replace HO392 := zA (kE (zP HO392.out) (kC ho0) hb)
          replace HO397 := zA (kE (zP HO397.out) (kC ho0) hb)
          replace HO404 := zA (kE (zP HO404.out) (kC ho0) hb)
          replace BK380 := zA (zB1 BK380.out hb)
          replace BK398 := zA (zB1 BK398.out hb)
          replace HB := zA (kQ (zV HB.out GE380.out GE398.out) hb)
          (try clear hb)
          (try clear hb2)
          (try clear hk)
          (try clear hi)
          (try clear hgw)
          (try clear ho0)
          obtain ⟨Ao70, co70, eo70⟩ := kM HO410.out
          (first | subst eo70 | (injection eo70 with f1_ f2_ f3_; have f4_ := f1_.symm; have f5_ := f3_.symm; clear f1_ f2_ f3_; subst f4_; subst f5_))
          refine hK.out _ _ ⟨(kV BK398.out 0).trans rfl, (kV BK398.out 1).trans rfl, (kV BK380.out 0).trans rfl, (kV BK380.out 1).trans rfl⟩ (fun hHeld => ?_)
          clear hK K
          refine norm_ (a' := ?_) ?_ ?_
          rotate_left
          ·show Act.put _ (some 56) _ = _
           simp only [Act.put, zL, zM, zN, i64_w, i32_w]
           rfl
          refine one_ (i := 3) (N := some 57) #[true, true, true, true, false] rfl rfl (by kernel_rfl) (by decide) (fun K hK => ?_)
          refine goes_ Tryd.func21 (by kernel_rfl) rfl #[.agg #[.int .i64 t394, .slice Ao60 t395.length co60], .agg #[.int .i64 t407, .slice Ao70 t408.length co70]] (by rfl) rfl rfl zg ?_
          with_reducible refine (laws_eqAlphabet.calls k t394 _ _ t395 t407 _ _ t408 true _ ?side1 ?side2 ?side3 ?side4 A23.out).mono ?_
          (case side1 => exact zS (kB HO397.out).2.2)
          (case side2 => exact (kB HO397.out).2.1)
          (case side3 => exact zS (kB HO410.out).2.2)
          (case side4 => exact (kB HO410.out).2.1)
          rintro e w71 ⟨rfl, hb⟩
          refine ⟨_, rfl, ?_⟩
          replace HO386 := zA (kL (zP HO386.out) hb)
          replace HO389 := zA (Kd.S_below (by (with_reducible repeat (first | apply Kd.S_alloc | apply Kd.S_drewN | apply Kd.S_drew)); exact HO389.out) hb)
          replace HO392 := zA (kL (zP HO392.out) hb)
          replace HO397 := zA (kL (zP HO397.out) hb)
          replace HO401 := zA (Kd.S_below (by (with_reducible repeat (first | apply Kd.S_alloc | apply Kd.S_drewN | apply Kd.S_drew)); exact HO401.out) hb)
          replace HO404 := zA (kL (zP HO404.out) hb)
          replace HO410 := zA (kL (zP HO410.out) hb)
          replace BK380 := zA (zB1 BK380.out hb)
          replace BK398 := zA (zB1 BK398.out hb)
          replace HB := zA (kQ (zV HB.out GE380.out GE398.out) hb)
          (try clear hb)
          (try clear hb2)
          (try clear hk)
          (try clear hi)
          (try clear hgw)
          refine hK.out _ _ ⟨(kV BK398.out 0).trans rfl, (kV BK398.out 1).trans rfl, (kV BK380.out 0).trans rfl, (kV BK380.out 1).trans rfl⟩ (fun hHeld => ?_)
          clear hK K
          refine norm_ (a' := ?_) ?_ ?_
          rotate_left
          ·show Act.put _ (some 57) _ = _
           simp only [Act.put, zL, zM, zN, i64_w, i32_w]
           rfl
          refine pure_ (i := 4) (N := some 58) (v := ?_) (a' := ?_) #[true, true, true, true, true] rfl rfl (by kernel_rfl) (fun _ _ _ h => h) (Or.inl ⟨by rfl, ?_⟩) ?_ ?_
          rotate_left
          ·intro w'
           go_simp
           with_reducible rfl
          rotate_left
          ·simp only [Act.put, zL, zM, zN, i64_w, i32_w]
           rfl
          refine done_ (by kernel_rfl) ?_
          try go_wp2_with (first | (refine zO (some 61) Tryd.func31 #[.slice A1 l1.length c1] ?_; (with_reducible refine (laws_toInt64SS.calls k _ _ l1 t412 _ ?side1 ?side2 A25.out).mono ?_); (case side1 => exact zS (kO HR1.out HB.out)); (case side2 => exact HC1.out); rintro e w72 ⟨v413, rfl, ho0, hb⟩; refine ⟨_, rfl, ?_⟩; have HO414 := zA (Kd.S_lower (Kd.S_new' (Kd.S_new' (Kd.S_new' (Kd.S_new' (Kd.S_new' (Kd.S_new' (Kd.S_new' ho0 (kH (zP HO386.out))) (Kd.S_lt (by (with_reducible repeat (first | apply Kd.S_alloc | apply Kd.S_drewN | apply Kd.S_drew)); exact HO389.out))) (kH (zP HO392.out))) (kH (zP HO397.out))) (Kd.S_lt (by (with_reducible repeat (first | apply Kd.S_alloc | apply Kd.S_drewN | apply Kd.S_drew)); exact HO401.out))) (kH (zP HO404.out))) (kH (zP HO410.out))) (kP (zV HB.out GE380.out GE398.out))); replace HO386 := zA (kL (zP HO386.out) hb); replace HO389 := zA (Kd.S_elder' (by (with_reducible repeat (first | apply Kd.S_alloc | apply Kd.S_drewN | apply Kd.S_drew)); exact HO389.out) (Kd.S_base ho0) hb); replace HO392 := zA (kL (zP HO392.out) hb); replace HO397 := zA (kL (zP HO397.out) hb); replace HO401 := zA (Kd.S_elder' (by (with_reducible repeat (first | apply Kd.S_alloc | apply Kd.S_drewN | apply Kd.S_drew)); exact HO401.out) (Kd.S_base ho0) hb); replace HO404 := zA (kL (zP HO404.out) hb); replace HO410 := zA (kL (zP HO410.out) hb); replace BK380 := zA (zB1 BK380.out hb); replace BK398 := zA (zB1 BK398.out hb); replace HB := zA (kQ (zV HB.out GE380.out GE398.out) hb); (try clear hb); (try clear ho0); obtain ⟨Ao73, co73, eo73⟩ := Kd.S_slice HO414.out; subst eo73) | (refine zO (some 62) Tryd.func20 #[.slice Ao63 t399.length co63, .slice Ao73 t412.length co73] ?_; (with_reducible refine (laws_eqInt64SS_BFnExactCommonContinuation.calls k _ _ t399 _ _ t412 true _ ?side1 ?side2 ?side3 ?side4 A26.out).mono ?_); (case side1 => exact zS (Kd.S_reads' HO401.out).2.2); (case side2 => exact (Kd.S_reads' HO401.out).2.1); (case side3 => exact zS (Kd.S_reads' HO414.out).2.2); (case side4 => exact (Kd.S_reads' HO414.out).2.1); rintro e w74 ⟨rfl, hb⟩; refine ⟨_, rfl, ?_⟩; replace HO386 := zA (kL (zP HO386.out) hb); replace HO389 := zA (Kd.S_below (by (with_reducible repeat (first | apply Kd.S_alloc | apply Kd.S_drewN | apply Kd.S_drew)); exact HO389.out) hb); replace HO392 := zA (kL (zP HO392.out) hb); replace HO397 := zA (kL (zP HO397.out) hb); replace HO401 := zA (Kd.S_below (by (with_reducible repeat (first | apply Kd.S_alloc | apply Kd.S_drewN | apply Kd.S_drew)); exact HO401.out) hb); replace HO404 := zA (kL (zP HO404.out) hb); replace HO410 := zA (kL (zP HO410.out) hb); replace HO414 := zA (Kd.S_below (by (with_reducible repeat (first | apply Kd.S_alloc | apply Kd.S_drewN | apply Kd.S_drew)); exact HO414.out) hb); replace BK380 := zA (zB1 BK380.out hb); replace BK398 := zA (zB1 BK398.out hb); replace HB := zA (kQ (zV HB.out GE380.out GE398.out) hb); (try clear hb); obtain ⟨hcz75_0, hcz75_1, hfz75_0, hfz75_1⟩ := zB3 BK398.out) | (refine zO (some 66) Tryd.func23 #[.agg #[.int .i64 t394, .slice Ao60 t395.length co60], .int .i64 1] ?_; (with_reducible refine (laws_markAlphabet.calls k t394 (fun k_ => some k_ = (.slice Ao60 t395.length co60 : Value).ownBlock) (.slice Ao60 t395.length co60) t395 1 t416 t417 w _ ?side1 ?side2 A28.out).mono ?_); (case side1 => exact zV HB.out GE380.out GE398.out); (case side2 => exact jK rfl HO397.out); rintro e w76 ⟨rfl, hy0, hb, hkp⟩; refine ⟨_, rfl, ?_⟩; replace BK380 := zA (blk_kept (zR BK380.out) hkp (fun hs_ => (fun e_ => (Kd.R_ne HO397.out BK380.out (by decide)) e_) hs_)); replace HO386 := zA (kA (ok' := fun k_ => some k_ ≠ (.slice Ao66 t390.length co66 : Value).ownBlock ∧ some k_ ≠ (.slice Ao60 t395.length co60 : Value).ownBlock ∧ some k_ ≠ (.slice Ao65 t402.length co65 : Value).ownBlock ∧ some k_ ≠ (.slice Ao70 t408.length co70 : Value).ownBlock) (Kd.R_keptB (HO386.out) hkp (fun k_ hk_ hs_ => (hk_.1.1.2) hs_)) (fun k_ hk_ => ⟨hk_.1.1.1.1.2, hk_.1.1.1.2, hk_.1.1.2, hk_.1.2⟩)); replace HO389 := zA (Kd.S_mono (ok' := fun k_ => some k_ ≠ (.slice Ao52 t384.length co52 : Value).ownBlock ∧ some k_ ≠ (.slice Ao66 t390.length co66 : Value).ownBlock ∧ some k_ ≠ (.slice Ao60 t395.length co60 : Value).ownBlock ∧ some k_ ≠ (.slice Ao63 t399.length co63 : Value).ownBlock ∧ some k_ ≠ (.slice Ao65 t402.length co65 : Value).ownBlock ∧ some k_ ≠ (.slice Ao70 t408.length co70 : Value).ownBlock ∧ some k_ ≠ (.slice Ao73 t412.length co73 : Value).ownBlock) (Kd.S_keptB (HO389.out) hkp (fun k_ hk_ hs_ => (hk_.1.1.1.1.2) hs_)) (fun k_ hk_ => ⟨hk_.1.1.1.1.1.1.1.2, hk_.1.1.1.1.1.1.2, hk_.1.1.1.1.1.2, hk_.1.1.1.1.2, hk_.1.1.1.2, hk_.1.1.2, hk_.1.2⟩)); replace HO392 := zA (kA (ok' := fun k_ => some k_ ≠ (.slice Ao52 t384.length co52 : Value).ownBlock ∧ some k_ ≠ (.slice Ao60 t395.length co60 : Value).ownBlock ∧ some k_ ≠ (.slice Ao65 t402.length co65 : Value).ownBlock ∧ some k_ ≠ (.slice Ao70 t408.length co70 : Value).ownBlock) (Kd.R_keptB (HO392.out) hkp (fun k_ hk_ hs_ => (hk_.1.1.2) hs_)) (fun k_ hk_ => ⟨hk_.1.1.1.1.2, hk_.1.1.1.2, hk_.1.1.2, hk_.1.2⟩)); replace BK398 := zA (blk_kept (zR BK398.out) hkp (fun hs_ => (fun e_ => (Kd.R_ne HO397.out BK398.out (by decide)) e_) hs_)); replace HO397 := zA (Kd.R_reok rfl hy0 (fun k_ e_ => HO397.out.1 k_ e_)); replace HO401 := zA (Kd.S_mono (ok' := fun k_ => some k_ ≠ (.slice Ao52 t384.length co52 : Value).ownBlock ∧ some k_ ≠ (.slice Ao53 t387.length co53 : Value).ownBlock ∧ some k_ ≠ (.slice Ao66 t390.length co66 : Value).ownBlock ∧ some k_ ≠ (.slice Ao60 t395.length co60 : Value).ownBlock ∧ some k_ ≠ (.slice Ao65 t402.length co65 : Value).ownBlock ∧ some k_ ≠ (.slice Ao70 t408.length co70 : Value).ownBlock ∧ some k_ ≠ (.slice Ao73 t412.length co73 : Value).ownBlock) (Kd.S_keptB (HO401.out) hkp (fun k_ hk_ hs_ => (hk_.1.1.1.2) hs_)) (fun k_ hk_ => ⟨hk_.1.1.1.1.1.1.1.2, hk_.1.1.1.1.1.1.2, hk_.1.1.1.1.1.2, hk_.1.1.1.1.2, hk_.1.1.1.2, hk_.1.1.2, hk_.1.2⟩)); replace HO404 := zA (kA (ok' := fun k_ => some k_ ≠ (.slice Ao52 t384.length co52 : Value).ownBlock ∧ some k_ ≠ (.slice Ao66 t390.length co66 : Value).ownBlock ∧ some k_ ≠ (.slice Ao60 t395.length co60 : Value).ownBlock ∧ some k_ ≠ (.slice Ao70 t408.length co70 : Value).ownBlock) (Kd.R_keptB (HO404.out) hkp (fun k_ hk_ hs_ => (hk_.1.2) hs_)) (fun k_ hk_ => ⟨hk_.1.1.1.1.2, hk_.1.1.1.2, hk_.1.1.2, hk_.1.2⟩)); replace HO410 := zA (kA (ok' := fun k_ => some k_ ≠ (.slice Ao52 t384.length co52 : Value).ownBlock ∧ some k_ ≠ (.slice Ao66 t390.length co66 : Value).ownBlock ∧ some k_ ≠ (.slice Ao60 t395.length co60 : Value).ownBlock ∧ some k_ ≠ (.slice Ao65 t402.length co65 : Value).ownBlock) (Kd.R_keptB (HO410.out) hkp (fun k_ hk_ hs_ => (hk_.1.2) hs_)) (fun k_ hk_ => ⟨hk_.1.1.1.1.2, hk_.1.1.1.2, hk_.1.1.2, hk_.1.2⟩)); replace HO414 := zA (Kd.S_mono (ok' := fun k_ => some k_ ≠ (.slice Ao52 t384.length co52 : Value).ownBlock ∧ some k_ ≠ (.slice Ao53 t387.length co53 : Value).ownBlock ∧ some k_ ≠ (.slice Ao66 t390.length co66 : Value).ownBlock ∧ some k_ ≠ (.slice Ao60 t395.length co60 : Value).ownBlock ∧ some k_ ≠ (.slice Ao63 t399.length co63 : Value).ownBlock ∧ some k_ ≠ (.slice Ao65 t402.length co65 : Value).ownBlock ∧ some k_ ≠ (.slice Ao70 t408.length co70 : Value).ownBlock) (Kd.S_keptB (HO414.out) hkp (fun k_ hk_ hs_ => (hk_.1.1.1.2) hs_)) (fun k_ hk_ => ⟨hk_.1.1.1.1.1.1.1.2, hk_.1.1.1.1.1.1.2, hk_.1.1.1.1.1.2, hk_.1.1.1.1.2, hk_.1.1.1.2, hk_.1.1.2, hk_.1.2⟩)); replace HB := zA (hb); (try clear hb); (try clear hkp); (try clear hy0)) | (refine zO (some 69) Tryd.func25 #[.slice Ao63 t399.length co63, .int .i64 t416] ?_; (with_reducible refine (laws_markInt64SS.calls k (fun k_ => some k_ ≠ (.slice Ao52 t384.length co52 : Value).ownBlock ∧ some k_ ≠ (.slice Ao66 t390.length co66 : Value).ownBlock ∧ some k_ ≠ (.slice Ao60 t395.length co60 : Value).ownBlock ∧ some k_ ≠ (.slice Ao65 t402.length co65 : Value).ownBlock ∧ some k_ ≠ (.slice Ao70 t408.length co70 : Value).ownBlock ∧ k_ ≠ gb380 ∧ k_ ≠ gb398) (.slice Ao63 t399.length co63) t399 t416 t418 t419 w _ ?side1 ?side2 A29.out).mono ?_); (case side1 => exact zV HB.out GE380.out GE398.out); (case side2 => exact Kd.S_mono (ok' := fun k_ => some k_ ≠ (.slice Ao52 t384.length co52 : Value).ownBlock ∧ some k_ ≠ (.slice Ao66 t390.length co66 : Value).ownBlock ∧ some k_ ≠ (.slice Ao60 t395.length co60 : Value).ownBlock ∧ some k_ ≠ (.slice Ao65 t402.length co65 : Value).ownBlock ∧ some k_ ≠ (.slice Ao70 t408.length co70 : Value).ownBlock ∧ k_ ≠ gb380 ∧ k_ ≠ gb398) (Kd.S_types (Kd.S_types HO401.out (zR BK380.out) (by decide)) (zR BK398.out) (by decide)) (fun k_ hk_ => ⟨hk_.1.1.1, hk_.1.1.2.2.1, hk_.1.1.2.2.2.1, hk_.1.1.2.2.2.2.1, hk_.1.1.2.2.2.2.2.1, hk_.1.2, hk_.2⟩)); rintro e w77 ⟨rfl, hy0, hb, hkp⟩; refine ⟨_, rfl, ?_⟩; replace BK380 := zA (blk_kept (zR BK380.out) hkp (fun hs_ => hs_.2.2.2.2.2.1 rfl)); replace HO386 := zA (Kd.R_reok (ok := fun k_ => some k_ ≠ (.slice Ao66 t390.length co66 : Value).ownBlock ∧ some k_ ≠ (.slice Ao60 t395.length co60 : Value).ownBlock ∧ some k_ ≠ (.slice Ao65 t402.length co65 : Value).ownBlock ∧ some k_ ≠ (.slice Ao70 t408.length co70 : Value).ownBlock) rfl (Kd.R_keptB (jK rfl HO386.out) hkp (fun k_ hk_ hs_ => hs_.1 hk_)) (fun k_ e_ => ⟨(HO386.out.1 k_ e_).1, (HO386.out.1 k_ e_).2.1, (HO386.out.1 k_ e_).2.2.1, (HO386.out.1 k_ e_).2.2.2⟩)); replace HO392 := zA (Kd.R_reok (ok := fun k_ => some k_ ≠ (.slice Ao52 t384.length co52 : Value).ownBlock ∧ some k_ ≠ (.slice Ao60 t395.length co60 : Value).ownBlock ∧ some k_ ≠ (.slice Ao65 t402.length co65 : Value).ownBlock ∧ some k_ ≠ (.slice Ao70 t408.length co70 : Value).ownBlock) rfl (Kd.R_keptB (jK rfl HO392.out) hkp (fun k_ hk_ hs_ => hs_.2.1 hk_)) (fun k_ e_ => ⟨(HO392.out.1 k_ e_).1, (HO392.out.1 k_ e_).2.1, (HO392.out.1 k_ e_).2.2.1, (HO392.out.1 k_ e_).2.2.2⟩)); replace HO397 := zA (Kd.R_reok (ok := fun k_ => some k_ ≠ (.slice Ao52 t384.length co52 : Value).ownBlock ∧ some k_ ≠ (.slice Ao66 t390.length co66 : Value).ownBlock ∧ some k_ ≠ (.slice Ao65 t402.length co65 : Value).ownBlock ∧ some k_ ≠ (.slice Ao70 t408.length co70 : Value).ownBlock) rfl (Kd.R_keptB (jK rfl HO397.out) hkp (fun k_ hk_ hs_ => hs_.2.2.1 hk_)) (fun k_ e_ => ⟨(HO397.out.1 k_ e_).1.1.1.2, (HO397.out.1 k_ e_).1.1.2, (HO397.out.1 k_ e_).1.2, (HO397.out.1 k_ e_).2⟩)); replace BK398 := zA (blk_kept (zR BK398.out) hkp (fun hs_ => hs_.2.2.2.2.2.2 rfl)); replace HO404 := zA (Kd.R_reok (ok := fun k_ => some k_ ≠ (.slice Ao52 t384.length co52 : Value).ownBlock ∧ some k_ ≠ (.slice Ao66 t390.length co66 : Value).ownBlock ∧ some k_ ≠ (.slice Ao60 t395.length co60 : Value).ownBlock ∧ some k_ ≠ (.slice Ao70 t408.length co70 : Value).ownBlock) rfl (Kd.R_keptB (jK rfl HO404.out) hkp (fun k_ hk_ hs_ => hs_.2.2.2.1 hk_)) (fun k_ e_ => ⟨(HO404.out.1 k_ e_).1, (HO404.out.1 k_ e_).2.1, (HO404.out.1 k_ e_).2.2.1, (HO404.out.1 k_ e_).2.2.2⟩)); replace HO410 := zA (Kd.R_reok (ok := fun k_ => some k_ ≠ (.slice Ao52 t384.length co52 : Value).ownBlock ∧ some k_ ≠ (.slice Ao66 t390.length co66 : Value).ownBlock ∧ some k_ ≠ (.slice Ao60 t395.length co60 : Value).ownBlock ∧ some k_ ≠ (.slice Ao65 t402.length co65 : Value).ownBlock) rfl (Kd.R_keptB (jK rfl HO410.out) hkp (fun k_ hk_ hs_ => hs_.2.2.2.2.1 hk_)) (fun k_ e_ => ⟨(HO410.out.1 k_ e_).1, (HO410.out.1 k_ e_).2.1, (HO410.out.1 k_ e_).2.2.1, (HO410.out.1 k_ e_).2.2.2⟩)); replace HB := zA (hb); clear HO389 HO401 HO414; (try clear hb); (try clear hkp); (try clear hy0)) | (go_at_call 22; (with_reducible refine (laws_eqInt64S_BFnExactCommonContinuation.calls k _ _ t402 _ _ t390 true _ ?side1 ?side2 ?side3 ?side4 A31.out).mono ?_); (case side1 => exact zS (kB HO404.out).2.2); (case side2 => exact (kB HO404.out).2.1); (case side3 => exact zS (kB HO392.out).2.2); (case side4 => exact (kB HO392.out).2.1); rintro e w78 ⟨rfl, hb⟩; replace HO386 := zA (kL (zP HO386.out) hb); replace HO392 := zA (kL (zP HO392.out) hb); replace HO397 := zA (kL (zP HO397.out) hb); replace HO404 := zA (kL (zP HO404.out) hb); replace HO410 := zA (kL (zP HO410.out) hb); replace BK380 := zA (zB1 BK380.out hb); replace BK398 := zA (zB1 BK398.out hb); replace HB := zA (kQ (zV HB.out GE380.out GE398.out) hb); (try clear hb); (try clear hb2); (try clear hk); (try clear hi); (try clear hgw)) | (refine zO (some 85) Tryd.func24 #[.slice Ao65 t402.length co65, .int .i64 1] ?_; (with_reducible refine (laws_markInt64S.calls k (fun k_ => some k_ = (.slice Ao65 t402.length co65 : Value).ownBlock) (.slice Ao65 t402.length co65) t402 1 t421 t422 w _ ?side1 ?side2 A33.out).mono ?_); (case side1 => exact zV HB.out GE380.out GE398.out); (case side2 => exact jK rfl HO404.out); rintro e w79 ⟨rfl, hy0, hb, hkp⟩; refine ⟨_, rfl, ?_⟩; replace BK380 := zA (blk_kept (zR BK380.out) hkp (fun hs_ => (fun e_ => (Kd.R_ne HO404.out BK380.out (by decide)) e_) hs_)); replace HO386 := zA (kA (ok' := fun k_ => some k_ ≠ (.slice Ao66 t390.length co66 : Value).ownBlock ∧ some k_ ≠ (.slice Ao60 t395.length co60 : Value).ownBlock ∧ some k_ ≠ (.slice Ao65 t402.length co65 : Value).ownBlock ∧ some k_ ≠ (.slice Ao70 t408.length co70 : Value).ownBlock) (Kd.R_keptB (HO386.out) hkp (fun k_ hk_ hs_ => (hk_.2.2.1) hs_)) (fun k_ hk_ => ⟨hk_.1.1, hk_.1.2.1, hk_.1.2.2.1, hk_.1.2.2.2⟩)); replace HO392 := zA (kA (ok' := fun k_ => some k_ ≠ (.slice Ao52 t384.length co52 : Value).ownBlock ∧ some k_ ≠ (.slice Ao60 t395.length co60 : Value).ownBlock ∧ some k_ ≠ (.slice Ao65 t402.length co65 : Value).ownBlock ∧ some k_ ≠ (.slice Ao70 t408.length co70 : Value).ownBlock) (Kd.R_keptB (HO392.out) hkp (fun k_ hk_ hs_ => (hk_.2.2.1) hs_)) (fun k_ hk_ => ⟨hk_.1.1, hk_.1.2.1, hk_.1.2.2.1, hk_.1.2.2.2⟩)); replace HO397 := zA (kA (ok' := fun k_ => some k_ ≠ (.slice Ao52 t384.length co52 : Value).ownBlock ∧ some k_ ≠ (.slice Ao66 t390.length co66 : Value).ownBlock ∧ some k_ ≠ (.slice Ao65 t402.length co65 : Value).ownBlock ∧ some k_ ≠ (.slice Ao70 t408.length co70 : Value).ownBlock) (Kd.R_keptB (HO397.out) hkp (fun k_ hk_ hs_ => (hk_.2.2.1) hs_)) (fun k_ hk_ => ⟨hk_.1.1, hk_.1.2.1, hk_.1.2.2.1, hk_.1.2.2.2⟩)); replace BK398 := zA (blk_kept (zR BK398.out) hkp (fun hs_ => (fun e_ => (Kd.R_ne HO404.out BK398.out (by decide)) e_) hs_)); replace HO404 := zA (Kd.R_reok rfl hy0 (fun k_ e_ => HO404.out.1 k_ e_)); replace HO410 := zA (kA (ok' := fun k_ => some k_ ≠ (.slice Ao52 t384.length co52 : Value).ownBlock ∧ some k_ ≠ (.slice Ao66 t390.length co66 : Value).ownBlock ∧ some k_ ≠ (.slice Ao60 t395.length co60 : Value).ownBlock ∧ some k_ ≠ (.slice Ao65 t402.length co65 : Value).ownBlock) (Kd.R_keptB (HO410.out) hkp (fun k_ hk_ hs_ => (hk_.2.2.2) hs_)) (fun k_ hk_ => ⟨hk_.1.1, hk_.1.2.1, hk_.1.2.2.1, hk_.1.2.2.2⟩)); replace HB := zA (hb); (try clear hb); (try clear hkp); (try clear hy0)) | ((with_reducible refine kR (f := 33) rfl ?_); refine goesL_ (some 88) rfl rfl Tryd.func33 (by kernel_rfl) rfl #[.slice Ao65 t422.length co65, .int .i64 1] rfl (by (try simp only [List.map_toArray, List.map_cons, List.map_nil]); first | done | (rw [show t422.length = t402.length from (kB HO404.out).1.symm] <;> rfl) | rfl | (simp only [List.length_drop, List.length_take]; rfl)) ?_; (with_reducible refine (laws_heldInt64S.calls k _ _ t422 1 t423 _ ?side1 ?side2 A34.out).mono ?_); (case side1 => exact zS (kB HO404.out).2.2); (case side2 => rw [show t422.length = t402.length from (kB HO404.out).1.symm]; exact (kB HO404.out).2.1); rintro e w' ⟨rfl, ⟨nd, rfl⟩⟩; refine ⟨_, rfl, ?_⟩; obtain ⟨hcz80_0, hcz80_1, hfz80_0, hfz80_1⟩ := zB3 BK380.out) | (refine zO (some 96) Tryd.func17 #[.agg #[.int .i64 a0_0, .slice A0_1 l0_1.length c0_1]] ?_; (with_reducible refine (laws_toAlphabet.calls k a0_0 _ _ l0_1 t424 t425 _ ?side1 ?side2 A37.out).mono ?_); (case side1 => exact zS (kO HR0_1.out (zV HB.out GE380.out GE398.out))); (case side2 => exact HC0_1.out); rintro e w81 ⟨v426, rfl, ho0, hb⟩; refine ⟨_, rfl, ?_⟩; have HO427 := zA (kI (kF (kF (kF (kF (kF ho0 (kH (zP HO386.out))) (kH (zP HO392.out))) (kH (zP HO397.out))) (kH (zP HO404.out))) (kH (zP HO410.out))) (kP (zV HB.out GE380.out GE398.out))); replace HO386 := zA (kE (zP HO386.out) (kC ho0) hb); replace HO392 := zA (kE (zP HO392.out) (kC ho0) hb); replace HO397 := zA (kE (zP HO397.out) (kC ho0) hb); replace HO404 := zA (kE (zP HO404.out) (kC ho0) hb); replace HO410 := zA (kE (zP HO410.out) (kC ho0) hb); replace BK380 := zA (zB1 BK380.out hb); replace BK398 := zA (zB1 BK398.out hb); replace HB := zA (kQ (zV HB.out GE380.out GE398.out) hb); (try clear hb); (try clear ho0)) | (refine zO (some 98) Tryd.func31 #[.slice A1 l1.length c1] ?_; (with_reducible refine (laws_toInt64SS.calls k _ _ l1 t428 _ ?side1 ?side2 A38.out).mono ?_); (case side1 => exact zS (kO HR1.out HB.out)); (case side2 => exact HC1.out); rintro e w82 ⟨v429, rfl, ho0, hb⟩; refine ⟨_, rfl, ?_⟩; have HO430 := zA (Kd.S_lower (Kd.S_new' (Kd.S_new' (Kd.S_new' (Kd.S_new' (Kd.S_new' (Kd.S_new' ho0 (kH (zP HO386.out))) (kH (zP HO392.out))) (kH (zP HO397.out))) (kH (zP HO404.out))) (kH (zP HO410.out))) (kH (zP HO427.out))) (kP (zV HB.out GE380.out GE398.out))); replace HO386 := zA (kL (zP HO386.out) hb); replace HO392 := zA (kL (zP HO392.out) hb); replace HO397 := zA (kL (zP HO397.out) hb); replace HO404 := zA (kL (zP HO404.out) hb); replace HO410 := zA (kL (zP HO410.out) hb); replace HO427 := zA (kL (zP HO427.out) hb); replace BK380 := zA (zB1 BK380.out hb); replace BK398 := zA (zB1 BK398.out hb); replace HB := zA (kQ (zV HB.out GE380.out GE398.out) hb); (try clear hb); (try clear ho0); obtain ⟨Ao83, co83, eo83⟩ := kM HO427.out; subst eo83; obtain ⟨Ao84, co84, eo84⟩ := Kd.S_slice HO430.out; subst eo84) | (refine zO (some 99) Tryd.func32 #[.agg #[.int .i64 t424, .slice Ao83 t425.length co83], .slice Ao84 t428.length co84] ?_; (with_reducible refine (impl_CommonContinuation.calls k t424 _ _ t425 _ _ t428 t431 t434 _ ?side1 ?side2 ?side3 ?side4 ?side5 A39.out).mono ?_); (case side1 => exact zS (kB HO427.out).2.2); (case side2 => exact (kB HO427.out).2.1); (case side3 => exact zS (Kd.S_reads' HO430.out).2.2); (case side4 => exact (Kd.S_reads' HO430.out).2.1); (case side5 => exact TabW.below HT.out (zV HB.out GE380.out GE398.out)); rintro e w85 ⟨v432, rfl, ho0, hb⟩; refine ⟨_, rfl, ?_⟩; replace HO430 := zA (Kd.S_elder' (by (with_reducible repeat (first | apply Kd.S_alloc | apply Kd.S_drewN | apply Kd.S_drew)); exact HO430.out) (kC ho0) hb); have HO433 := zA (kI (kF (kF (kF (kF (kF (kF ho0 (kH (zP HO386.out))) (kH (zP HO392.out))) (kH (zP HO397.out))) (kH (zP HO404.out))) (kH (zP HO410.out))) (kH (zP HO427.out))) (kP (zV HB.out GE380.out GE398.out))); replace HO386 := zA (kE (zP HO386.out) (kC ho0) hb); replace HO392 := zA (kE (zP HO392.out) (kC ho0) hb); replace HO397 := zA (kE (zP HO397.out) (kC ho0) hb); replace HO404 := zA (kE (zP HO404.out) (kC ho0) hb); replace HO410 := zA (kE (zP HO410.out) (kC ho0) hb); replace HO427 := zA (kE (zP HO427.out) (kC ho0) hb); replace BK380 := zA (zB1 BK380.out hb); replace BK398 := zA (zB1 BK398.out hb); replace HB := zA (kQ (zV HB.out GE380.out GE398.out) hb); (try clear hb); (try clear ho0); obtain ⟨Ao86, co86, eo86⟩ := kM HO433.out; subst eo86) | (refine zO (some 104) Tryd.func22 #[.slice Ao86 t431.length co86, .slice Ao66 t390.length co66] ?_; (with_reducible refine (laws_eqInt64S_BFnExactCommonContinuation.calls k _ _ t431 _ _ t390 true _ ?side1 ?side2 ?side3 ?side4 A40.out).mono ?_); (case side1 => exact zS (kB HO433.out).2.2); (case side2 => exact (kB HO433.out).2.1); (case side3 => exact zS (kB HO392.out).2.2); (case side4 => exact (kB HO392.out).2.1); rintro e w87 ⟨rfl, hb⟩; refine ⟨_, rfl, ?_⟩; replace HO386 := zA (kL (zP HO386.out) hb); replace HO392 := zA (kL (zP HO392.out) hb); replace HO397 := zA (kL (zP HO397.out) hb); replace HO404 := zA (kL (zP HO404.out) hb); replace HO410 := zA (kL (zP HO410.out) hb); replace HO427 := zA (kL (zP HO427.out) hb); replace HO430 := zA (Kd.S_below (by (with_reducible repeat (first | apply Kd.S_alloc | apply Kd.S_drewN | apply Kd.S_drew)); exact HO430.out) hb); replace HO433 := zA (kL (zP HO433.out) hb); replace BK380 := zA (zB1 BK380.out hb); replace BK398 := zA (zB1 BK398.out hb); replace HB := zA (kQ (zV HB.out GE380.out GE398.out) hb); (try clear hb)) | ((with_reducible refine kR (f := 33) rfl ?_); refine goesL_ (some 113) rfl rfl Tryd.func33 (by kernel_rfl) rfl #[.slice Ao65 t422.length co65, .int .i64 1] rfl (by (try simp only [List.map_toArray, List.map_cons, List.map_nil]); first | done | (rw [show t422.length = t402.length from (kB HO404.out).1.symm] <;> rfl) | rfl | (simp only [List.length_drop, List.length_take]; rfl)) ?_; (with_reducible refine (laws_heldInt64S.calls k _ _ t422 1 t436 _ ?side1 ?side2 A43.out).mono ?_); (case side1 => exact zS (kB HO404.out).2.2); (case side2 => rw [show t422.length = t402.length from (kB HO404.out).1.symm]; exact (kB HO404.out).2.1); rintro e w' ⟨rfl, ⟨nd, rfl⟩⟩; refine ⟨_, rfl, ?_⟩))
          go_ret
          exact ⟨zr, zV HB.out GE380.out GE398.out⟩
         rw [if_neg c45] at H
         exact absurd H (by simp)
        rw [if_neg c42] at H
        exact absurd H (by simp)
       replace c41 := Bool.eq_false_iff.mpr c41
       subst c41
       rw [if_neg (show ¬ (false = true) by decide)] at H
       exact absurd H (by simp)
      rw [if_neg c36] at H
      exact absurd H (by simp)
     replace c32 := Bool.eq_false_iff.mpr c32
     subst c32
     rw [if_neg (show ¬ (false = true) by decide)] at H
     exact absurd H (by simp)
    replace c27 := Bool.eq_false_iff.mpr c27
    subst c27
    rw [if_neg (show ¬ (false = true) by decide)] at H
    exact absurd H (by simp)
   replace c24 := Bool.eq_false_iff.mpr c24
   subst c24
   rw [if_neg (show ¬ (false = true) by decide)] at H
   exact absurd H (by simp)
  rw [if_neg c21] at H
  exact absurd H (by simp)
 replace c20 := Bool.eq_false_iff.mpr c20
 subst c20
 rw [if_neg (show ¬ (false = true) by decide)] at H
 exact absurd H (by simp)

end Go.Proofs.YthgapkbkhoeleaaDoor.PAll
