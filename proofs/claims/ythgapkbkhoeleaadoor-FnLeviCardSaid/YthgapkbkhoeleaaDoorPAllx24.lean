-- Printed by a program of the session (wip/tools/pgen.py) out of the translation. Not trusted: Lean checks it.
import Derived.Test.YthgapkbkhoeleaaDoorPAllx0
import Derived.Test.YthgapkbkhoeleaaDoorPAllx1
import Derived.Test.YthgapkbkhoeleaaDoorPAllx2
import Derived.Test.YthgapkbkhoeleaaDoorPAllx8
namespace Go.Proofs.YthgapkbkhoeleaaDoor.PAll
open Go.RowKit Go.Proofs.YthgapkbkhoeleaaDoor.T Go.Proofs.YthgapkbkhoeleaaDoorW.PrintWords Go.Proofs.YthgapkbkhoeleaaDoorW.PrintLast Go.Proofs.YthgapkbkhoeleaaDoorW.PrintMore
attribute [local go_sem] max2_int min2_int max_two min_two max_three min_three max_four min_four   -- for this text's walks alone
set_option linter.unusedVariables false
set_option linter.unusedSimpArgs false

/-! ### spec_l03Is: function 126 -/
def spec_l03Is.f (k : Nat) (a0_0 : Int) (l0_1 : List Int) (l1 : List Int) : Option (Bool) := (spec_l02Is.f k a0_0 l0_1).bind fun t572 => (if t572 = true then ((spec_l03Word.f k a0_0 l1).bind fun t573 => (some t573)) else (some false))

set_option maxHeartbeats 8000000 in
set_option maxRecDepth 100000 in
theorem spec_l03Is.calls (k : Nat) (a0_0 : Int) (A0_1 : Option Addr) (c0_1 : Nat) (l0_1 : List Int) (A1 : Option Addr) (c1 : Nat) (l1 : List Int) (r : Bool) (w : World) (hr0_1 : Kd.C (Kd.int .i64) w A0_1 l0_1.length l0_1) (hc0_1 : l0_1.length ≤ c0_1) (hr1 : Kd.C (Kd.int .i64) w A1 l1.length l1) (hc1 : l1.length ≤ c1) (h : spec_l03Is.f k a0_0 l0_1 l1 = some r) :
  Calls Tryd.prog 126 #[.agg #[.int .i64 a0_0, .slice A0_1 l0_1.length c0_1], .slice A1 l1.length c1] w fun e w' => e = .returned (.bool r) ∧ Below w.heap.size w w' := by
 have hu29 := Tryd.underlying29
 have HR0_1 := zA hr0_1
 have HC0_1 := zA hc0_1
 clear hr0_1 hc0_1
 have HR1 := zA hr1
 have HC1 := zA hc1
 clear hr1 hc1
 have HB := zA (kW w.heap.size w)
 have H := h
 unfold spec_l03Is.f at H
 clear h
 obtain ⟨t572, A3, H⟩ := zb H
 try dsimp only at H
 by_cases c4 : t572 = true
 ·subst c4
  rw [if_pos rfl] at H
  obtain ⟨t573, A5, H⟩ := zb H
  try dsimp only at H
  obtain rfl := Option.some.inj H
  go_enter Tryd.func126, Tryd.ntmps126
  go_wp2_with (first | (refine zBE 2 #[.int .i64 a0_0, .slice A0_1 l0_1.length c0_1] 29 ?_; intro gb571 hg w6 hbox hb; have BK571 := zA (hbox); have GW571 := zA (zBH hg HB.out); have GE571 := zA (zBH hg HB.out); replace HB := zA (kQ (zQ HB.out) hb); clear hb hbox hg; obtain ⟨hcz7_0, hcz7_1, hfz7_0, hfz7_1⟩ := zB3 BK571.out) | (refine zO (some 6) Tryd.func89 #[.agg #[.int .i64 a0_0, .slice A0_1 l0_1.length c0_1]] ?_; (with_reducible refine (spec_l02Is.calls k a0_0 _ _ l0_1 true _ ?side1 ?side2 A3.out).mono ?_); (case side1 => exact zS (kO HR0_1.out HB.out)); (case side2 => exact HC0_1.out); rintro e w8 ⟨rfl, hb⟩; refine ⟨_, rfl, ?_⟩; replace BK571 := zA (zB1 BK571.out hb); replace HB := zA (kQ (zT HB.out GE571.out) hb); (try clear hb); obtain ⟨hcz9_0, hcz9_1, hfz9_0, hfz9_1⟩ := zB3 BK571.out) | (go_at_call 90; (with_reducible refine (spec_l03Word.calls k a0_0 _ _ l1 t573 _ ?side1 ?side2 A5.out).mono ?_); (case side1 => exact zS (kO HR1.out HB.out)); (case side2 => exact HC1.out); rintro e w' ⟨rfl, ⟨nd, rfl⟩⟩))
  go_ret
  exact ⟨zr, zT HB.out GE571.out⟩
 replace c4 := Bool.eq_false_iff.mpr c4
 subst c4
 rw [if_neg (show ¬ (false = true) by decide)] at H
 obtain rfl := Option.some.inj H
 go_enter Tryd.func126, Tryd.ntmps126
 go_wp2_with (first | (refine zBE 2 #[.int .i64 a0_0, .slice A0_1 l0_1.length c0_1] 29 ?_; intro gb571 hg w10 hbox hb; have BK571 := zA (hbox); have GW571 := zA (zBH hg HB.out); have GE571 := zA (zBH hg HB.out); replace HB := zA (kQ (zQ HB.out) hb); clear hb hbox hg; obtain ⟨hcz11_0, hcz11_1, hfz11_0, hfz11_1⟩ := zB3 BK571.out) | (refine zO (some 6) Tryd.func89 #[.agg #[.int .i64 a0_0, .slice A0_1 l0_1.length c0_1]] ?_; (with_reducible refine (spec_l02Is.calls k a0_0 _ _ l0_1 false _ ?side1 ?side2 A3.out).mono ?_); (case side1 => exact zS (kO HR0_1.out HB.out)); (case side2 => exact HC0_1.out); rintro e w12 ⟨rfl, hb⟩; refine ⟨_, rfl, ?_⟩; replace BK571 := zA (zB1 BK571.out hb); replace HB := zA (kQ (zT HB.out GE571.out) hb); (try clear hb)))
 go_ret
 exact ⟨zr, zT HB.out GE571.out⟩

/-! ### spec_l03Shuffle: function 127 -/
mutual
def spec_l03Shuffle.l0 : Nat → List Int → List Int → List Int → Int → Int → Int → List Int → Option (List Int × Int × Int)
 | 0, _, _, _, _, _, _, _ => none
 | k + 1, x7, x8, x1000, x1001, x1002, x575000, x575001 => if (x8.length : Int) > 0 then ((spec_l01Next.f x1000 x1001 x1002 x575000).bind fun bt581 => (spec_l03Shuffle.l1 k x7 x8 bt581.1 0 x1000 bt581.2.1 bt581.2.2 x575000 x575001)) else (some (x7, x1001, x1002))
def spec_l03Shuffle.l1 : Nat → List Int → List Int → Int → Int → List Int → Int → Int → Int → List Int → Option (List Int × Int × Int)
 | 0, _, _, _, _, _, _, _, _, _ => none
 | k + 1, x7, x8, x9, x10, x1000, x1001, x1002, x575000, x575001 => if x10 < x575000 then (if x575000 = 0 then (none) else ((spec_l03First.f k x575000 x575001 x8 (Int.tmod (wrap64 (x9 + x10)) x575000)).bind fun t584 => (if t584 ≥ 0 then (if x7.length < 17592186044416 then ((spec_l03Without.f x8 t584).bind fun t588 => (spec_l03Shuffle.l0 k (x7 ++ [Int.tmod (wrap64 (x9 + x10)) x575000]) t588 x1000 x1001 x1002 x575000 x575001)) else (none)) else (spec_l03Shuffle.l1 k x7 x8 x9 (wrap64 (x10 + 1)) x1000 x1001 x1002 x575000 x575001)))) else (spec_l03Shuffle.l0 k x7 x8 x1000 x1001 x1002 x575000 x575001)
end
def spec_l03Shuffle.f (k : Nat) (s0_0 : List Int) (s0_1 : Int) (s0_2 : Int) (a1_0 : Int) (l1_1 : List Int) (l2 : List Int) : Option (List Int × Int × Int) := (spec_l01Own.f l2).bind fun t578 => (spec_l03Shuffle.l0 k (([] : List Int)) t578 s0_0 s0_1 s0_2 a1_0 l1_1)

set_option maxHeartbeats 8000000 in
set_option maxRecDepth 100000 in
theorem spec_l03Shuffle.calls (k : Nat) (g : Nat) (s0_0 : List Int) (s0_1 : Int) (s0_2 : Int) (a1_0 : Int) (A1_1 : Option Addr) (c1_1 : Nat) (l1_1 : List Int) (A2 : Option Addr) (c2 : Nat) (l2 : List Int) (r1 : List Int) (r2 : Int) (r3 : Int) (w0 w : World) (hI : Z140 w0 w g s0_0 s0_1 s0_2) (hB : Below w0.heap.size w0 w) (hr1_1 : Kd.C (Kd.int .i64) w A1_1 l1_1.length l1_1) (hc1_1 : l1_1.length ≤ c1_1) (hf1_1 : ∀ ad, A1_1 = some ad → 0 < l1_1.length → ad.block ≠ g) (hr2 : Kd.C (Kd.int .i64) w A2 l2.length l2) (hc2 : l2.length ≤ c2) (hf2 : ∀ ad, A2 = some ad → 0 < l2.length → ad.block ≠ g) (h : spec_l03Shuffle.f k s0_0 s0_1 s0_2 a1_0 l1_1 l2 = some (r1, r2, r3)) :
  Calls Tryd.prog 127 #[.pointer (some ⟨g, 0, none⟩), .agg #[.int .i64 a1_0, .slice A1_1 l1_1.length c1_1], .slice A2 l2.length c2] w fun e w' => ∃ v0_ : Value, e = .returned (v0_) ∧ Kd.R (Kd.int .i64) 2 w' w.heap.size (fun _ => True) v0_ r1 ∧ Z140 w0 w' g s0_0 r2 r3 ∧ Below w0.heap.size w0 w' ∧ KeepBut w w' g none := by
 have hu29 := Tryd.underlying29
 have HR1_1 := zA hr1_1
 have HC1_1 := zA hc1_1
 clear hr1_1 hc1_1
 have HR2 := zA hr2
 have HC2 := zA hc2
 clear hr2 hc2
 have HI0 := zA hI
 have HK := zA (KeepBut.refl w g none)
 have HL := zA hB.size
 clear hI
 have HW0 := zA hB.size
 have HB := zA hB
 clear hB
 have H := h
 unfold spec_l03Shuffle.f at H
 clear h
 obtain ⟨y575, hy575⟩ : ∃ y_ : List Int, y_ = (([] : List Int)) := ⟨_, rfl⟩
 replace H : ((spec_l01Own.f l2).bind fun t578 => (spec_l03Shuffle.l0 k y575 t578 s0_0 s0_1 s0_2 a1_0 l1_1)) = some (r1, r2, r3) := zy hy575 H
 have Ny575 := zA hy575
 clear hy575
 obtain ⟨t578, A4, H⟩ := zb H
 try dsimp only at H
 have H' := zA H
 clear H
 go_enter Tryd.func127, Tryd.ntmps127
 go_wp2_with (first | (refine zBE 4 #[.int .i64 a1_0, .slice A1_1 l1_1.length c1_1] 29 ?_; intro gb574 hg w5 hbox hb; replace HB := zA (kQ (zT HB.out (Z140.ge HI0.out)) hb); have BK574 := zA (hbox); have GW574 := zA (zB6 hg (kX (w := w) (g := g) (row := none) (yA HK.out)) : w.heap.size ≤ gb574); have GE574 := zA ((Nat.le_trans HW0.out (by rw [hg]; exact (kX (w := w) (g := g) (row := none) (yA HK.out)) : w.heap.size ≤ gb574) : w0.heap.size ≤ gb574)); replace HK := zA (kT (yA HK.out) (kU hb g none) (.inl rfl)); have NB0_574 := zA (zB7 hg (Z140.lt (show Z140 w0 _ g s0_0 s0_1 s0_2 from Z140.uA HI0.out)) : g ≠ gb574); have NB574_0 := zA (zB8 hg (Z140.lt (show Z140 w0 _ g s0_0 s0_1 s0_2 from Z140.uA HI0.out)) : gb574 ≠ g); replace HI0 := zA (Z140.below (Z140.uA HI0.out) hb); clear hb hbox hg) | ((with_reducible refine kS (N := 13) rfl ?_); refine Kd.R_lit (Kd.int .i64) _ 2 ?hg (N := 13) ?hd (xs := ([] : List Int)) (inner := []) (ok := fun _ => True) (okp := fun _ => True) ?hr ?hp (fun _ hk => hk) trivial (kW _ _) (Nat.le_refl _) (by simp) ?_; (case hd => rfl); (case hg => rfl); (case hr => first | (go_simp; done) | (go_simp; rfl)); (case hp => exact (Reps.none _ _)); intro v576 w6 ho7 hb hg_ hnew_; clear hg_ hnew_; (first | rw [← Ny575.out] at ho7 | (simp only [Int.reduceToNat] at ho7; rw [← Ny575.out] at ho7)); have HO577 := zA (kI ho7 (kX (w := w) (g := g) (row := none) (yB HK.out GW574.out))); replace BK574 := zA (zB1 BK574.out hb); replace HK := zA (kT (yB HK.out GW574.out) (kU hb g none) (.inl rfl)); replace HB := zA (kQ (zV HB.out (Z140.ge HI0.out) GE574.out) hb); replace HI0 := zA (Z140.below (Z140.uB HI0.out NB0_574.out) hb); clear hb ho7) | (refine zO (some 15) Tryd.func80 #[.slice A2 l2.length c2] ?_; (with_reducible refine (spec_l01Own.calls _ _ l2 t578 _ ?side1 ?side2 A4.out).mono ?_); (case side1 => exact Kd.C_keep 0 HR2.out (yB HK.out GW574.out) hf2); (case side2 => exact HC2.out); rintro e w8 ⟨v579, rfl, ho0, hb⟩; refine ⟨_, rfl, ?_⟩; have HO580 := zA (kI (kF ho0 (kH (zP HO577.out))) (kX (w := w) (g := g) (row := none) (yB HK.out GW574.out))); replace HO577 := zA (kE (zP HO577.out) (kC ho0) hb); replace BK574 := zA (zB1 BK574.out hb); replace HK := zA (kT (yB HK.out GW574.out) (kU hb g none) (.inl rfl)); replace HB := zA (kQ (zV HB.out (Z140.ge HI0.out) GE574.out) hb); replace HI0 := zA (Z140.below (Z140.uB HI0.out NB0_574.out) hb); (try clear hb); (try clear ho0)))
 go_loopg [7, 8] k (fun kq v7 v8 w' => ∃ (x7_1 : List Int) (x8_1 : List Int) (x1001_1 : Int) (x1002_1 : Int), Aside0 (spec_l03Shuffle.l0 kq x7_1 x8_1 s0_0 x1001_1 x1002_1 a1_0 l1_1 = some (r1, r2, r3)) ∧ Aside0 (kq ≤ k) ∧ Aside0 (Kd.R (Kd.int .i64) 2 w' w.heap.size (fun k_ => some k_ ≠ (v8 : Value).ownBlock) v7 x7_1) ∧ Aside0 (Kd.R (Kd.int .i64) 2 w' w.heap.size (fun k_ => some k_ ≠ (v7 : Value).ownBlock) v8 x8_1) ∧ Aside0 (w'.heap[gb574]? = some (.cells #[.int .i64 a1_0, (.slice A1_1 l1_1.length c1_1)] 29 (0, 0))) ∧ Aside0 (Z140 w0 w' g s0_0 x1001_1 x1002_1) ∧ Aside0 (KeepBut w w' g none) ∧ Aside0 (Below w0.heap.size w0 w'))
 case atStart => exact ⟨(y575), (t578), (s0_1), (s0_2), H', ⟨Nat.le_refl _⟩, ⟨zPM HO577.out (fun _ hk => hk.2)⟩, ⟨zPM HO580.out (fun _ hk => hk.2)⟩, ⟨zR BK574.out⟩, ⟨Z140.uB HI0.out NB0_574.out⟩, ⟨yB HK.out GW574.out⟩, ⟨zV HB.out (Z140.ge HI0.out) GE574.out⟩⟩
 case round =>
  clear H'
  try clear c1
  try clear c2
  try clear c8
  obtain ⟨x7_1, x8_1, x1001_1, x1002_1, HA, HK1, HO_7, HO_8, BK574, HI0, HK, HB⟩ := hrel
  cases gk with
  | zero => exact absurd HA.out (by simp [spec_l03Shuffle.l0])
  | succ k1 =>
   have H := HA.out
   clear HA
   simp only [spec_l03Shuffle.l0] at H
   by_cases c9 : (x8_1.length : Int) > 0
   ·rw [if_pos c9] at H
    have c9b0 : decide (0 < (x8_1.length : Int)) = true := decide_eq_true c9
    have c9b1 : decide (0 < x8_1.length) = true := decide_eq_true (by omega)
    clear c9
    obtain ⟨⟨t581, t582, t583⟩, A10, H⟩ := zb H
    try dsimp only at H
    have H' := zA H
    clear H
    obtain ⟨Ao11, co11, eo11⟩ := kM HO_8.out
    subst eo11
    have hnb12 := NB574_0.out
    have hnc12 := NB0_574.out
    obtain ⟨hcz13_0, hcz13_1, hfz13_0, hfz13_1⟩ := zB3 BK574.out
    go_wp2_with (first | (refine zO (some 22) Tryd.func128 #[.pointer (some ⟨g, 0, none⟩), .int .i64 a1_0] ?_; (with_reducible refine (spec_l01Next.calls g s0_0 x1001_1 x1002_1 a1_0 t581 t582 t583 w0 _ ?side1 ?side2 A10.out).mono ?_); (case side1 => exact Z140.uB HI0.out NB0_574.out); (case side2 => exact zV HB.out (Z140.ge HI0.out) GE574.out); rintro e w14 ⟨rfl, hi, hb, hk⟩; refine ⟨_, rfl, ?_⟩; replace HO_7 := zA (zB9 (Z140.apart (show Z140 w0 _ g s0_0 x1001_1 x1002_1 from Z140.uB HI0.out NB0_574.out) (zP HO_7.out) (by decide)) hk); replace HO_8 := zA (zB9 (Z140.apart (show Z140 w0 _ g s0_0 x1001_1 x1002_1 from Z140.uB HI0.out NB0_574.out) (zP HO_8.out) (by decide)) hk); replace BK574 := zA (zB2 hk BK574.out NB574_0.out); replace HK := zA (kT (yB HK.out GW574.out) hk (.inl rfl)); replace HB := zA (hb); replace HI0 := zA (hi); (try clear hb); (try clear hk); (try clear hi)))
    go_loopg [7, 8, 10] k1 (fun kq v7 v8 v10 w' => ∃ (x7_2 : List Int) (x8_2 : List Int) (x10_2 : Int), v10 = .int .i64 x10_2 ∧ Aside0 (spec_l03Shuffle.l1 kq x7_2 x8_2 t581 x10_2 s0_0 t582 t583 a1_0 l1_1 = some (r1, r2, r3)) ∧ Aside0 (kq ≤ k1) ∧ Aside0 (Kd.R (Kd.int .i64) 2 w' w.heap.size (fun k_ => some k_ ≠ (v8 : Value).ownBlock) v7 x7_2) ∧ Aside0 (Kd.R (Kd.int .i64) 2 w' w.heap.size (fun k_ => some k_ ≠ (v7 : Value).ownBlock) v8 x8_2) ∧ Aside0 (w'.heap[gb574]? = some (.cells #[.int .i64 a1_0, (.slice A1_1 l1_1.length c1_1)] 29 (0, 0))) ∧ Aside0 (Z140 w0 w' g s0_0 t582 t583) ∧ Aside0 (KeepBut w w' g none) ∧ Aside0 (Below w0.heap.size w0 w'))
    case atStart => exact ⟨(x7_1), (x8_1), (0), zs, H', ⟨Nat.le_refl _⟩, ⟨zP HO_7.out⟩, ⟨zP HO_8.out⟩, ⟨zR BK574.out⟩, ⟨Z140.uB HI0.out NB0_574.out⟩, ⟨yB HK.out GW574.out⟩, ⟨zV HB.out (Z140.ge HI0.out) GE574.out⟩⟩
    case round =>
     clear H'
     try clear c1
     try clear c2
     try clear c8
     try clear c9
     try clear c12
     try clear hcz13_0
     try clear hcz13_1
     try clear hfz13_0
     try clear hfz13_1
     obtain ⟨x7_2, x8_2, x10_2, rfl, HA, HK2, HO_7, HO_8, BK574, HI0, HK, HB⟩ := hrel
     cases gk with
     | zero => exact absurd HA.out (by simp [spec_l03Shuffle.l1])
     | succ k2 =>
      have H := HA.out
      clear HA
      simp only [spec_l03Shuffle.l1] at H
      by_cases c15 : x10_2 < a1_0
      ·rw [if_pos c15] at H
       have c15b0 : decide (x10_2 < a1_0) = true := decide_eq_true c15
       clear c15
       by_cases c16 : a1_0 = 0
       ·rw [if_pos c16] at H
        exact absurd H (by simp)
       rw [if_neg c16] at H
       obtain ⟨c16b0, c16b1⟩ := zT2 c16
       obtain ⟨t584, A17, H⟩ := zb H
       try dsimp only at H
       by_cases c18 : t584 ≥ 0
       ·rw [if_pos c18] at H
        have c18b0 : decide (0 ≤ t584) = true := decide_eq_true c18
        clear c18
        by_cases c19 : x7_2.length < 17592186044416
        ·rw [if_pos c19] at H
         have LMc19 := zA c19
         clear c19
         obtain ⟨y585, hy585⟩ : ∃ y_ : List Int, y_ = (x7_2 ++ [Int.tmod (wrap64 (t581 + x10_2)) a1_0]) := ⟨_, rfl⟩
         replace H : ((spec_l03Without.f x8_2 t584).bind fun t588 => (spec_l03Shuffle.l0 k2 y585 t588 s0_0 t582 t583 a1_0 l1_1)) = some (r1, r2, r3) := zy hy585 H
         have Ny585 := zA hy585
         clear hy585
         obtain ⟨t588, A20, H⟩ := zb H
         try dsimp only at H
         have H' := zA H
         clear H
         have hnb21 := NB574_0.out
         have hnc21 := NB0_574.out
         obtain ⟨hcz22_0, hcz22_1, hfz22_0, hfz22_1⟩ := zB3 BK574.out
         obtain ⟨Ao23, co23, eo23⟩ := kM HO_8.out
         subst eo23
         go_wp2_with (first | (refine zO (some 38) Tryd.func153 #[.agg #[.int .i64 a1_0, .slice A1_1 l1_1.length c1_1], .slice Ao23 x8_2.length co23, .int .i64 (Int.tmod (wrap64 (t581 + x10_2)) a1_0)] ?_; (with_reducible refine (spec_l03First.calls k2 a1_0 _ _ l1_1 _ _ x8_2 (Int.tmod (wrap64 (t581 + x10_2)) a1_0) t584 _ ?side1 ?side2 ?side3 ?side4 A17.out).mono ?_); (case side1 => exact Kd.C_keep 0 HR1_1.out (yB HK.out GW574.out) hf1_1); (case side2 => exact HC1_1.out); (case side3 => exact zS (kB HO_8.out).2.2); (case side4 => exact (kB HO_8.out).2.1); rintro e w24 ⟨rfl, hb⟩; refine ⟨_, rfl, ?_⟩; replace HO_7 := zA (kL (zP HO_7.out) hb); replace HO_8 := zA (kL (zP HO_8.out) hb); replace BK574 := zA (zB1 BK574.out hb); replace HK := zA (kT (yB HK.out GW574.out) (kU hb g none) (.inl rfl)); replace HB := zA (kQ (zV HB.out (Z140.ge HI0.out) GE574.out) hb); replace HI0 := zA (Z140.below (Z140.uB HI0.out NB0_574.out) hb); (try clear hb)) | ((with_reducible refine gate_builtin (b := .append) (xs := #[.tmp 41, .tmp 43]) rfl ?_); at_builtin; refine Kd.R_append (Kd.int .i64) w.heap.size rfl (.tmp 41) (.tmp 43) 22 2 (.int .i64 0) 8 rfl Tryd.underlying22 info2 rfl (by decide) (by omega) u7 x7_2 (Int.tmod (wrap64 (t581 + x10_2)) a1_0) [.int .i64 (Int.tmod (wrap64 (t581 + x10_2)) a1_0)] (fun k_ => some k_ ≠ (.slice Ao23 x8_2.length co23 : Value).ownBlock) (fun _ => False) rfl rfl ?aP (fun _ hk => hk.elim) ?aF ?aO (kW _ _) ?aS ?aL ?_; (case aP => exact rfl); (case aF => exact (fun k_ hk => jF (kH (zP HO_8.out)) k_ hk)); (case aO => exact (zP HO_7.out)); (case aS => exact (kX (w := w) (g := g) (row := none) (yB HK.out GW574.out))); (case aL => have := LMc19.out; omega); intro v586 w25 ho hb hg hat; rw [← Ny585.out] at ho; replace HO_8 := zA (Kd.R_after (ok := (fun _ => True)) (by (with_reducible repeat (first | apply zF | apply zG | apply zH)); exact kA HO_8.out (fun _ hk => ⟨trivial, hk⟩)) hg hat); replace BK574 := zA (blk_grown (g := gb574) (o := .cells #[.int .i64 a1_0, .slice A1_1 l1_1.length c1_1] 29 (0, 0)) (zR BK574.out) hg (Kd.R_ne HO_7.out BK574.out (by decide))); replace HB := zA (below_weaken (zV HB.out (Z140.ge HI0.out) GE574.out) HL.out hb); replace HI0 := zA (Z140.grown (Z140.uB HI0.out NB0_574.out) hg (Z140.own_ne HI0.out HO_7.out (by decide))); replace HK := zA (kT (yB HK.out GW574.out) (KeepBut.of_grown hg g) (Kd.R_base2 HO_7.out)); have HO587 := zA (ho); clear HO_7; clear ho hb hg hat) | (refine zO (some 47) Tryd.func154 #[.slice Ao23 x8_2.length co23, .int .i64 t584] ?_; (with_reducible refine (spec_l03Without.calls _ _ x8_2 t584 t588 _ ?side1 ?side2 A20.out).mono ?_); (case side1 => exact zS (kB HO_8.out).2.2); (case side2 => exact (kB HO_8.out).2.1); rintro e w26 ⟨v589, rfl, ho0, hb⟩; refine ⟨_, rfl, ?_⟩; have HO590 := zA (kI (kF (kF ho0 (kH (zP HO_8.out))) (kH (zP HO587.out))) (kX (w := w) (g := g) (row := none) (yB HK.out GW574.out))); replace HO_8 := zA (kE (zP HO_8.out) (kC ho0) hb); replace HO587 := zA (kE (zP HO587.out) (kC ho0) hb); replace BK574 := zA (zB1 BK574.out hb); replace HK := zA (kT (yB HK.out GW574.out) (kU hb g none) (.inl rfl)); replace HB := zA (kQ (zV HB.out (Z140.ge HI0.out) GE574.out) hb); replace HI0 := zA (Z140.below (Z140.uB HI0.out NB0_574.out) hb); (try clear hb); (try clear ho0)))
         go_roundg k2
         case measure => have := HK1.out; have := HK2.out; omega
         case rel => exact ⟨(y585), (t588), (t582), (t583), H', ⟨by have := HK1.out; have := HK2.out; omega⟩, ⟨zPM HO587.out (fun _ hk => hk.2)⟩, ⟨zPM HO590.out (fun _ hk => hk.2)⟩, ⟨zR BK574.out⟩, ⟨Z140.uB HI0.out NB0_574.out⟩, ⟨yB HK.out GW574.out⟩, ⟨zV HB.out (Z140.ge HI0.out) GE574.out⟩⟩
        rw [if_neg c19] at H
        exact absurd H (by simp)
       rw [if_neg c18] at H
       have c18b0 : decide (0 ≤ t584) = false := decide_eq_false c18
       clear c18
       have H' := zA H
       clear H
       have hnb27 := NB574_0.out
       have hnc27 := NB0_574.out
       obtain ⟨hcz28_0, hcz28_1, hfz28_0, hfz28_1⟩ := zB3 BK574.out
       obtain ⟨Ao29, co29, eo29⟩ := kM HO_8.out
       subst eo29
       go_wp2_with (first | (refine zO (some 38) Tryd.func153 #[.agg #[.int .i64 a1_0, .slice A1_1 l1_1.length c1_1], .slice Ao29 x8_2.length co29, .int .i64 (Int.tmod (wrap64 (t581 + x10_2)) a1_0)] ?_; (with_reducible refine (spec_l03First.calls k2 a1_0 _ _ l1_1 _ _ x8_2 (Int.tmod (wrap64 (t581 + x10_2)) a1_0) t584 _ ?side1 ?side2 ?side3 ?side4 A17.out).mono ?_); (case side1 => exact Kd.C_keep 0 HR1_1.out (yB HK.out GW574.out) hf1_1); (case side2 => exact HC1_1.out); (case side3 => exact zS (kB HO_8.out).2.2); (case side4 => exact (kB HO_8.out).2.1); rintro e w30 ⟨rfl, hb⟩; refine ⟨_, rfl, ?_⟩; replace HO_7 := zA (kL (zP HO_7.out) hb); replace HO_8 := zA (kL (zP HO_8.out) hb); replace BK574 := zA (zB1 BK574.out hb); replace HK := zA (kT (yB HK.out GW574.out) (kU hb g none) (.inl rfl)); replace HB := zA (kQ (zV HB.out (Z140.ge HI0.out) GE574.out) hb); replace HI0 := zA (Z140.below (Z140.uB HI0.out NB0_574.out) hb); (try clear hb)))
       go_roundg k2
       case measure => have := HK1.out; have := HK2.out; omega
       case rel => exact ⟨(x7_2), (x8_2), (wrap64 (x10_2 + 1)), zs, H', ⟨by have := HK1.out; have := HK2.out; omega⟩, ⟨zP HO_7.out⟩, ⟨zP HO_8.out⟩, ⟨zR BK574.out⟩, ⟨Z140.uB HI0.out NB0_574.out⟩, ⟨yB HK.out GW574.out⟩, ⟨zV HB.out (Z140.ge HI0.out) GE574.out⟩⟩
      rw [if_neg c15] at H
      have c15b0 : decide (x10_2 < a1_0) = false := decide_eq_false c15
      clear c15
      have H' := zA H
      clear H
      have hnb31 := NB574_0.out
      have hnc31 := NB0_574.out
      obtain ⟨hcz32_0, hcz32_1, hfz32_0, hfz32_1⟩ := zB3 BK574.out
      go_wp2
      go_roundg k2
      case measure => have := HK1.out; have := HK2.out; omega
      case rel => exact ⟨(x7_2), (x8_2), (t582), (t583), H', ⟨by have := HK1.out; have := HK2.out; omega⟩, ⟨zP HO_7.out⟩, ⟨zP HO_8.out⟩, ⟨zR BK574.out⟩, ⟨Z140.uB HI0.out NB0_574.out⟩, ⟨yB HK.out GW574.out⟩, ⟨zV HB.out (Z140.ge HI0.out) GE574.out⟩⟩
   rw [if_neg c9] at H
   have c9b0 : decide (0 < (x8_1.length : Int)) = false := decide_eq_false c9
   have c9b1 : decide (0 < x8_1.length) = false := decide_eq_false (by omega)
   clear c9
   simp only [Option.some.injEq, Prod.mk.injEq] at H
   obtain ⟨rfl, rfl, rfl⟩ := H
   obtain ⟨Ao33, co33, eo33⟩ := kM HO_8.out
   subst eo33
   go_wp2
   go_ret
   exact ⟨_, zr, by (with_reducible repeat (first | apply zF | apply zG | apply zH)); exact kA HO_7.out (fun _ hk => trivial), by repeat (first | (with_reducible first | exact HI0.out | apply Z140.alloc | apply Z140.drewN | apply Z140.drew | apply Z140.set_1 | apply Z140.set_2 | refine Z140.far ?_ NB0_574.out _) | exact HI0.out), zV HB.out (Z140.ge HI0.out) GE574.out, by repeat (first | (with_reducible first | exact HK.out | apply KeepBut.set_ | apply keep_drewN | apply keep_drew | apply keep_alloc | refine keep_far ?_ GW574.out _) | exact HK.out)⟩

end Go.Proofs.YthgapkbkhoeleaaDoor.PAll
