import Derived.Test.YtkiacoilecdepaaDoorPAllx0
import Derived.Test.YtkiacoilecdepaaDoorPAllx1
import Derived.Test.YtkiacoilecdepaaDoorPAllx4
import Derived.Test.YtkiacoilecdepaaDoorPAllx6
namespace Go.Proofs.YtkiacoilecdepaaDoor.PAll
open Go.RowKit Go.Proofs.YtkiacoilecdepaaDoor.T Go.Proofs.YtkiacoilecdepaaDoorW.PrintWords Go.Proofs.YtkiacoilecdepaaDoorW.PrintLast Go.Proofs.YtkiacoilecdepaaDoorW.PrintMore
attribute [local go_sem] max2_int min2_int max_two min_two max_three min_three max_four min_four   -- for this text's walks alone
set_option linter.unusedVariables false
set_option linter.unusedSimpArgs false
mutual
def spec_l03Shuffle.l0 : Nat → List Int → List Int → List Int → Int → Int → Int → List Int → Option (List Int × Int × Int)
 | 0, _, _, _, _, _, _, _ => none
 | k + 1, x7, x8, x1000, x1001, x1002, x732000, x732001 => if (x8.length : Int) > 0 then ((spec_l01Next.f x1000 x1001 x1002 x732000).bind fun bt738 => (spec_l03Shuffle.l1 k x7 x8 bt738.1 0 x1000 bt738.2.1 bt738.2.2 x732000 x732001)) else (some (x7, x1001, x1002))
def spec_l03Shuffle.l1 : Nat → List Int → List Int → Int → Int → List Int → Int → Int → Int → List Int → Option (List Int × Int × Int)
 | 0, _, _, _, _, _, _, _, _, _ => none
 | k + 1, x7, x8, x9, x10, x1000, x1001, x1002, x732000, x732001 => if x10 < x732000 then (if x732000 = 0 then (none) else ((spec_l03First.f k x732000 x732001 x8 (Int.tmod (wrap64 (x9 + x10)) x732000)).bind fun t741 => (if t741 ≥ 0 then (if x7.length < 17592186044416 then ((spec_l03Without.f x8 t741).bind fun t745 => (spec_l03Shuffle.l0 k (x7 ++ [Int.tmod (wrap64 (x9 + x10)) x732000]) t745 x1000 x1001 x1002 x732000 x732001)) else (none)) else (spec_l03Shuffle.l1 k x7 x8 x9 (wrap64 (x10 + 1)) x1000 x1001 x1002 x732000 x732001)))) else (spec_l03Shuffle.l0 k x7 x8 x1000 x1001 x1002 x732000 x732001)
end
def spec_l03Shuffle.f (k : Nat) (s0_0 : List Int) (s0_1 : Int) (s0_2 : Int) (a1_0 : Int) (l1_1 : List Int) (l2 : List Int) : Option (List Int × Int × Int) := (spec_l01Own.f l2).bind fun t735 => (spec_l03Shuffle.l0 k (([] : List Int)) t735 s0_0 s0_1 s0_2 a1_0 l1_1)
set_option maxHeartbeats 8000000 in
set_option maxRecDepth 100000 in
theorem spec_l03Shuffle.calls (k : Nat) (g : Nat) (s0_0 : List Int) (s0_1 : Int) (s0_2 : Int) (a1_0 : Int) (A1_1 : Option Addr) (c1_1 : Nat) (l1_1 : List Int) (A2 : Option Addr) (c2 : Nat) (l2 : List Int) (r1 : List Int) (r2 : Int) (r3 : Int) (w0 w : World) (hI : Z101 w0 w g s0_0 s0_1 s0_2) (hB : Below w0.heap.size w0 w) (hr1_1 : Kd.C (Kd.int .i64) w A1_1 l1_1.length l1_1) (hc1_1 : l1_1.length ≤ c1_1) (hf1_1 : ∀ ad, A1_1 = some ad → 0 < l1_1.length → ad.block ≠ g) (hr2 : Kd.C (Kd.int .i64) w A2 l2.length l2) (hc2 : l2.length ≤ c2) (hf2 : ∀ ad, A2 = some ad → 0 < l2.length → ad.block ≠ g) (h : spec_l03Shuffle.f k s0_0 s0_1 s0_2 a1_0 l1_1 l2 = some (r1, r2, r3)) :
  Calls Tryd.prog 115 #[.pointer (some ⟨g, 0, none⟩), .agg #[.int .i64 a1_0, .slice A1_1 l1_1.length c1_1], .slice A2 l2.length c2] w fun e w' => ∃ v0_ : Value, e = .returned (v0_) ∧ Kd.R (Kd.int .i64) 2 w' w.heap.size (fun _ => True) v0_ r1 ∧ Z101 w0 w' g s0_0 r2 r3 ∧ Below w0.heap.size w0 w' ∧ KeepBut w w' g none := by
 have hu26 := Tryd.underlying26
 have HR1_1 := zA hr1_1
 have HC1_1 := zA hc1_1
 clear hr1_1 hc1_1
 have HR2 := zA hr2
 have HC2 := zA hc2
 clear hr2 hc2
 have HI0 := zA hI
 have HK := zA (KeepBut.refl w g none)
 have HL := zA hB.size
 clear hI
 have HW0 := zA hB.size
 have HB := zA hB
 clear hB
 have H := h
 unfold spec_l03Shuffle.f at H
 clear h
 obtain ⟨y732, hy732⟩ : ∃ y_ : List Int, y_ = (([] : List Int)) := ⟨_, rfl⟩
 replace H : ((spec_l01Own.f l2).bind fun t735 => (spec_l03Shuffle.l0 k y732 t735 s0_0 s0_1 s0_2 a1_0 l1_1)) = some (r1, r2, r3) := zy hy732 H
 have Ny732 := zA hy732
 clear hy732
 obtain ⟨t735, A4, H⟩ := zb H
 try dsimp only at H
 have H' := zA H
 clear H
 go_enter Tryd.func115, Tryd.ntmps115
 go_wp2_with (first | (refine zBE 4 #[.int .i64 a1_0, .slice A1_1 l1_1.length c1_1] 26 ?_; intro gb731 hg w5 hbox hb; replace HB := zA (kQ (zT HB.out (Z101.ge HI0.out)) hb); have BK731 := zA (hbox); have GW731 := zA (zB6 hg (kX (w := w) (g := g) (row := none) (yA HK.out)) : w.heap.size ≤ gb731); have GE731 := zA ((Nat.le_trans HW0.out (by rw [hg]; exact (kX (w := w) (g := g) (row := none) (yA HK.out)) : w.heap.size ≤ gb731) : w0.heap.size ≤ gb731)); replace HK := zA (kT (yA HK.out) (kU hb g none) (.inl rfl)); have NB0_731 := zA (zB7 hg (Z101.lt (show Z101 w0 _ g s0_0 s0_1 s0_2 from Z101.uA HI0.out)) : g ≠ gb731); have NB731_0 := zA (zB8 hg (Z101.lt (show Z101 w0 _ g s0_0 s0_1 s0_2 from Z101.uA HI0.out)) : gb731 ≠ g); replace HI0 := zA (Z101.below (Z101.uA HI0.out) hb); clear hb hbox hg) | ((with_reducible refine kS (N := 13) rfl ?_); refine Kd.R_lit (Kd.int .i64) _ 2 ?hg (N := 13) ?hd (xs := ([] : List Int)) (inner := []) (ok := fun _ => True) (okp := fun _ => True) ?hr ?hp (fun _ hk => hk) trivial (kW _ _) (Nat.le_refl _) (by simp) ?_; (case hd => rfl); (case hg => rfl); (case hr => first | (go_simp; done) | (go_simp; rfl)); (case hp => exact (Reps.none _ _)); intro v733 w6 ho7 hb hg_ hnew_; clear hg_ hnew_; (first | rw [← Ny732.out] at ho7 | (simp only [Int.reduceToNat] at ho7; rw [← Ny732.out] at ho7)); have HO734 := zA (kI ho7 (kX (w := w) (g := g) (row := none) (yB HK.out GW731.out))); replace BK731 := zA (zB1 BK731.out hb); replace HK := zA (kT (yB HK.out GW731.out) (kU hb g none) (.inl rfl)); replace HB := zA (kQ (zV HB.out (Z101.ge HI0.out) GE731.out) hb); replace HI0 := zA (Z101.below (Z101.uB HI0.out NB0_731.out) hb); clear hb ho7) | (refine zO (some 15) Tryd.func76 #[.slice A2 l2.length c2] ?_; (with_reducible refine (spec_l01Own.calls _ _ l2 t735 _ ?side1 ?side2 A4.out).mono ?_); (case side1 => exact Kd.C_keep 0 HR2.out (yB HK.out GW731.out) hf2); (case side2 => exact HC2.out); rintro e w8 ⟨v736, rfl, ho0, hb⟩; refine ⟨_, rfl, ?_⟩; have HO737 := zA (kI (kF ho0 (kH (zP HO734.out))) (kX (w := w) (g := g) (row := none) (yB HK.out GW731.out))); replace HO734 := zA (kE (zP HO734.out) (kC ho0) hb); replace BK731 := zA (zB1 BK731.out hb); replace HK := zA (kT (yB HK.out GW731.out) (kU hb g none) (.inl rfl)); replace HB := zA (kQ (zV HB.out (Z101.ge HI0.out) GE731.out) hb); replace HI0 := zA (Z101.below (Z101.uB HI0.out NB0_731.out) hb); (try clear hb); (try clear ho0)))
 go_loopg [7, 8] k (fun kq v7 v8 w' => ∃ (x7_1 : List Int) (x8_1 : List Int) (x1001_1 : Int) (x1002_1 : Int), Aside0 (spec_l03Shuffle.l0 kq x7_1 x8_1 s0_0 x1001_1 x1002_1 a1_0 l1_1 = some (r1, r2, r3)) ∧ Aside0 (kq ≤ k) ∧ Aside0 (Kd.R (Kd.int .i64) 2 w' w.heap.size (fun k_ => some k_ ≠ (v8 : Value).ownBlock) v7 x7_1) ∧ Aside0 (Kd.R (Kd.int .i64) 2 w' w.heap.size (fun k_ => some k_ ≠ (v7 : Value).ownBlock) v8 x8_1) ∧ Aside0 (w'.heap[gb731]? = some (.cells #[.int .i64 a1_0, (.slice A1_1 l1_1.length c1_1)] 26 (0, 0))) ∧ Aside0 (Z101 w0 w' g s0_0 x1001_1 x1002_1) ∧ Aside0 (KeepBut w w' g none) ∧ Aside0 (Below w0.heap.size w0 w'))
 case atStart => exact ⟨(y732), (t735), (s0_1), (s0_2), H', ⟨Nat.le_refl _⟩, ⟨zPM HO734.out (fun _ hk => hk.2)⟩, ⟨zPM HO737.out (fun _ hk => hk.2)⟩, ⟨zR BK731.out⟩, ⟨Z101.uB HI0.out NB0_731.out⟩, ⟨yB HK.out GW731.out⟩, ⟨zV HB.out (Z101.ge HI0.out) GE731.out⟩⟩
 case round =>
  clear H'
  try clear c1
  try clear c2
  try clear c7
  obtain ⟨x7_1, x8_1, x1001_1, x1002_1, HA, HK1, HO_7, HO_8, BK731, HI0, HK, HB⟩ := hrel
  cases gk with
  | zero => exact absurd HA.out (by simp [spec_l03Shuffle.l0])
  | succ k1 =>
   have H := HA.out
   clear HA
   simp only [spec_l03Shuffle.l0] at H
   by_cases c9 : (x8_1.length : Int) > 0
   ·rw [if_pos c9] at H
    have c9b0 : decide (0 < (x8_1.length : Int)) = true := decide_eq_true c9
    have c9b1 : decide (0 < x8_1.length) = true := decide_eq_true (by omega)
    clear c9
    obtain ⟨⟨t738, t739, t740⟩, A10, H⟩ := zb H
    try dsimp only at H
    have H' := zA H
    clear H
    obtain ⟨Ao11, co11, eo11⟩ := kM HO_8.out
    subst eo11
    have hnb12 := NB731_0.out
    have hnc12 := NB0_731.out
    obtain ⟨hcz13_0, hcz13_1, hfz13_0, hfz13_1⟩ := zB3 BK731.out
    go_wp2_with (first | (refine zO (some 22) Tryd.func79 #[.pointer (some ⟨g, 0, none⟩), .int .i64 a1_0] ?_; (with_reducible refine (spec_l01Next.calls g s0_0 x1001_1 x1002_1 a1_0 t738 t739 t740 w0 _ ?side1 ?side2 A10.out).mono ?_); (case side1 => exact Z101.uB HI0.out NB0_731.out); (case side2 => exact zV HB.out (Z101.ge HI0.out) GE731.out); rintro e w14 ⟨rfl, hi, hb, hk⟩; refine ⟨_, rfl, ?_⟩; replace HO_7 := zA (zB9 (Z101.apart (show Z101 w0 _ g s0_0 x1001_1 x1002_1 from Z101.uB HI0.out NB0_731.out) (zP HO_7.out) (by decide)) hk); replace HO_8 := zA (zB9 (Z101.apart (show Z101 w0 _ g s0_0 x1001_1 x1002_1 from Z101.uB HI0.out NB0_731.out) (zP HO_8.out) (by decide)) hk); replace BK731 := zA (zB2 hk BK731.out NB731_0.out); replace HK := zA (kT (yB HK.out GW731.out) hk (.inl rfl)); replace HB := zA (hb); replace HI0 := zA (hi); (try clear hb); (try clear hk); (try clear hi)))
    go_loopg [7, 8, 10] k1 (fun kq v7 v8 v10 w' => ∃ (x7_2 : List Int) (x8_2 : List Int) (x10_2 : Int), v10 = .int .i64 x10_2 ∧ Aside0 (spec_l03Shuffle.l1 kq x7_2 x8_2 t738 x10_2 s0_0 t739 t740 a1_0 l1_1 = some (r1, r2, r3)) ∧ Aside0 (kq ≤ k1) ∧ Aside0 (Kd.R (Kd.int .i64) 2 w' w.heap.size (fun k_ => some k_ ≠ (v8 : Value).ownBlock) v7 x7_2) ∧ Aside0 (Kd.R (Kd.int .i64) 2 w' w.heap.size (fun k_ => some k_ ≠ (v7 : Value).ownBlock) v8 x8_2) ∧ Aside0 (w'.heap[gb731]? = some (.cells #[.int .i64 a1_0, (.slice A1_1 l1_1.length c1_1)] 26 (0, 0))) ∧ Aside0 (Z101 w0 w' g s0_0 t739 t740) ∧ Aside0 (KeepBut w w' g none) ∧ Aside0 (Below w0.heap.size w0 w'))
    case atStart => exact ⟨(x7_1), (x8_1), (0), zs, H', ⟨Nat.le_refl _⟩, ⟨zP HO_7.out⟩, ⟨zP HO_8.out⟩, ⟨zR BK731.out⟩, ⟨Z101.uB HI0.out NB0_731.out⟩, ⟨yB HK.out GW731.out⟩, ⟨zV HB.out (Z101.ge HI0.out) GE731.out⟩⟩
    case round =>
     clear H'
     try clear c1
     try clear c2
     try clear c7
     try clear c9
     try clear c11
     try clear c12
     try clear hcz13_0
     try clear hcz13_1
     try clear hfz13_0
     try clear hfz13_1
     obtain ⟨x7_2, x8_2, x10_2, rfl, HA, HK2, HO_7, HO_8, BK731, HI0, HK, HB⟩ := hrel
     cases gk with
     | zero => exact absurd HA.out (by simp [spec_l03Shuffle.l1])
     | succ k2 =>
      have H := HA.out
      clear HA
      simp only [spec_l03Shuffle.l1] at H
      by_cases c15 : x10_2 < a1_0
      ·rw [if_pos c15] at H
       have c15b0 : decide (x10_2 < a1_0) = true := decide_eq_true c15
       clear c15
       by_cases c16 : a1_0 = 0
       ·rw [if_pos c16] at H
        exact absurd H (by simp)
       rw [if_neg c16] at H
       obtain ⟨c16b0, c16b1⟩ := zT2 c16
       obtain ⟨t741, A17, H⟩ := zb H
       try dsimp only at H
       by_cases c18 : t741 ≥ 0
       ·rw [if_pos c18] at H
        have c18b0 : decide (0 ≤ t741) = true := decide_eq_true c18
        clear c18
        by_cases c19 : x7_2.length < 17592186044416
        ·rw [if_pos c19] at H
         have LMc19 := zA c19
         clear c19
         obtain ⟨y742, hy742⟩ : ∃ y_ : List Int, y_ = (x7_2 ++ [Int.tmod (wrap64 (t738 + x10_2)) a1_0]) := ⟨_, rfl⟩
         replace H : ((spec_l03Without.f x8_2 t741).bind fun t745 => (spec_l03Shuffle.l0 k2 y742 t745 s0_0 t739 t740 a1_0 l1_1)) = some (r1, r2, r3) := zy hy742 H
         have Ny742 := zA hy742
         clear hy742
         obtain ⟨t745, A20, H⟩ := zb H
         try dsimp only at H
         have H' := zA H
         clear H
         have hnb21 := NB731_0.out
         have hnc21 := NB0_731.out
         obtain ⟨hcz22_0, hcz22_1, hfz22_0, hfz22_1⟩ := zB3 BK731.out
         obtain ⟨Ao23, co23, eo23⟩ := kM HO_8.out
         subst eo23
         go_wp2_with (first | (refine zO (some 38) Tryd.func53 #[.agg #[.int .i64 a1_0, .slice A1_1 l1_1.length c1_1], .slice Ao23 x8_2.length co23, .int .i64 (Int.tmod (wrap64 (t738 + x10_2)) a1_0)] ?_; (with_reducible refine (spec_l03First.calls k2 a1_0 _ _ l1_1 _ _ x8_2 (Int.tmod (wrap64 (t738 + x10_2)) a1_0) t741 _ ?side1 ?side2 ?side3 ?side4 A17.out).mono ?_); (case side1 => exact Kd.C_keep 0 HR1_1.out (yB HK.out GW731.out) hf1_1); (case side2 => exact HC1_1.out); (case side3 => exact zS (kB HO_8.out).2.2); (case side4 => exact (kB HO_8.out).2.1); rintro e w24 ⟨rfl, hb⟩; refine ⟨_, rfl, ?_⟩; replace HO_7 := zA (kL (zP HO_7.out) hb); replace HO_8 := zA (kL (zP HO_8.out) hb); replace BK731 := zA (zB1 BK731.out hb); replace HK := zA (kT (yB HK.out GW731.out) (kU hb g none) (.inl rfl)); replace HB := zA (kQ (zV HB.out (Z101.ge HI0.out) GE731.out) hb); replace HI0 := zA (Z101.below (Z101.uB HI0.out NB0_731.out) hb); (try clear hb)) | ((with_reducible refine gate_builtin (b := .append) (xs := #[.tmp 41, .tmp 43]) rfl ?_); at_builtin; refine Kd.R_append (Kd.int .i64) w.heap.size rfl (.tmp 41) (.tmp 43) 24 2 (.int .i64 0) 8 rfl Tryd.underlying24 info2 rfl (by decide) (by omega) u7 x7_2 (Int.tmod (wrap64 (t738 + x10_2)) a1_0) [.int .i64 (Int.tmod (wrap64 (t738 + x10_2)) a1_0)] (fun k_ => some k_ ≠ (.slice Ao23 x8_2.length co23 : Value).ownBlock) (fun _ => False) rfl rfl ?aP (fun _ hk => hk.elim) ?aF ?aO (kW _ _) ?aS ?aL ?_; (case aP => exact rfl); (case aF => exact (fun k_ hk => jF (kH (zP HO_8.out)) k_ hk)); (case aO => exact (zP HO_7.out)); (case aS => exact (kX (w := w) (g := g) (row := none) (yB HK.out GW731.out))); (case aL => have := LMc19.out; omega); intro v743 w25 ho hb hg hat; rw [← Ny742.out] at ho; replace HO_8 := zA (Kd.R_after (ok := (fun _ => True)) (by (with_reducible repeat (first | apply zF | apply zG | apply zH)); exact kA HO_8.out (fun _ hk => ⟨trivial, hk⟩)) hg hat); replace BK731 := zA (blk_grown (g := gb731) (o := .cells #[.int .i64 a1_0, .slice A1_1 l1_1.length c1_1] 26 (0, 0)) (zR BK731.out) hg (Kd.R_ne HO_7.out BK731.out (by decide))); replace HB := zA (below_weaken (zV HB.out (Z101.ge HI0.out) GE731.out) HL.out hb); replace HI0 := zA (Z101.grown (Z101.uB HI0.out NB0_731.out) hg (Z101.own_ne HI0.out HO_7.out (by decide))); replace HK := zA (kT (yB HK.out GW731.out) (KeepBut.of_grown hg g) (Kd.R_base2 HO_7.out)); have HO744 := zA (ho); clear HO_7; clear ho hb hg hat) | (refine zO (some 47) Tryd.func114 #[.slice Ao23 x8_2.length co23, .int .i64 t741] ?_; (with_reducible refine (spec_l03Without.calls _ _ x8_2 t741 t745 _ ?side1 ?side2 A20.out).mono ?_); (case side1 => exact zS (kB HO_8.out).2.2); (case side2 => exact (kB HO_8.out).2.1); rintro e w26 ⟨v746, rfl, ho0, hb⟩; refine ⟨_, rfl, ?_⟩; have HO747 := zA (kI (kF (kF ho0 (kH (zP HO_8.out))) (kH (zP HO744.out))) (kX (w := w) (g := g) (row := none) (yB HK.out GW731.out))); replace HO_8 := zA (kE (zP HO_8.out) (kC ho0) hb); replace HO744 := zA (kE (zP HO744.out) (kC ho0) hb); replace BK731 := zA (zB1 BK731.out hb); replace HK := zA (kT (yB HK.out GW731.out) (kU hb g none) (.inl rfl)); replace HB := zA (kQ (zV HB.out (Z101.ge HI0.out) GE731.out) hb); replace HI0 := zA (Z101.below (Z101.uB HI0.out NB0_731.out) hb); (try clear hb); (try clear ho0)))
         go_roundg k2
         case measure => have := HK1.out; have := HK2.out; omega
         case rel => exact ⟨(y742), (t745), (t739), (t740), H', ⟨by have := HK1.out; have := HK2.out; omega⟩, ⟨zPM HO744.out (fun _ hk => hk.2)⟩, ⟨zPM HO747.out (fun _ hk => hk.2)⟩, ⟨zR BK731.out⟩, ⟨Z101.uB HI0.out NB0_731.out⟩, ⟨yB HK.out GW731.out⟩, ⟨zV HB.out (Z101.ge HI0.out) GE731.out⟩⟩
        rw [if_neg c19] at H
        exact absurd H (by simp)
       rw [if_neg c18] at H
       have c18b0 : decide (0 ≤ t741) = false := decide_eq_false c18
       clear c18
       have H' := zA H
       clear H
       have hnb27 := NB731_0.out
       have hnc27 := NB0_731.out
       obtain ⟨hcz28_0, hcz28_1, hfz28_0, hfz28_1⟩ := zB3 BK731.out
       obtain ⟨Ao29, co29, eo29⟩ := kM HO_8.out
       subst eo29
       go_wp2_with (first | (refine zO (some 38) Tryd.func53 #[.agg #[.int .i64 a1_0, .slice A1_1 l1_1.length c1_1], .slice Ao29 x8_2.length co29, .int .i64 (Int.tmod (wrap64 (t738 + x10_2)) a1_0)] ?_; (with_reducible refine (spec_l03First.calls k2 a1_0 _ _ l1_1 _ _ x8_2 (Int.tmod (wrap64 (t738 + x10_2)) a1_0) t741 _ ?side1 ?side2 ?side3 ?side4 A17.out).mono ?_); (case side1 => exact Kd.C_keep 0 HR1_1.out (yB HK.out GW731.out) hf1_1); (case side2 => exact HC1_1.out); (case side3 => exact zS (kB HO_8.out).2.2); (case side4 => exact (kB HO_8.out).2.1); rintro e w30 ⟨rfl, hb⟩; refine ⟨_, rfl, ?_⟩; replace HO_7 := zA (kL (zP HO_7.out) hb); replace HO_8 := zA (kL (zP HO_8.out) hb); replace BK731 := zA (zB1 BK731.out hb); replace HK := zA (kT (yB HK.out GW731.out) (kU hb g none) (.inl rfl)); replace HB := zA (kQ (zV HB.out (Z101.ge HI0.out) GE731.out) hb); replace HI0 := zA (Z101.below (Z101.uB HI0.out NB0_731.out) hb); (try clear hb)))
       go_roundg k2
       case measure => have := HK1.out; have := HK2.out; omega
       case rel => exact ⟨(x7_2), (x8_2), (wrap64 (x10_2 + 1)), zs, H', ⟨by have := HK1.out; have := HK2.out; omega⟩, ⟨zP HO_7.out⟩, ⟨zP HO_8.out⟩, ⟨zR BK731.out⟩, ⟨Z101.uB HI0.out NB0_731.out⟩, ⟨yB HK.out GW731.out⟩, ⟨zV HB.out (Z101.ge HI0.out) GE731.out⟩⟩
      rw [if_neg c15] at H
      have c15b0 : decide (x10_2 < a1_0) = false := decide_eq_false c15
      clear c15
      have H' := zA H
      clear H
      have hnb31 := NB731_0.out
      have hnc31 := NB0_731.out
      obtain ⟨hcz32_0, hcz32_1, hfz32_0, hfz32_1⟩ := zB3 BK731.out
      go_wp2
      go_roundg k2
      case measure => have := HK1.out; have := HK2.out; omega
      case rel => exact ⟨(x7_2), (x8_2), (t739), (t740), H', ⟨by have := HK1.out; have := HK2.out; omega⟩, ⟨zP HO_7.out⟩, ⟨zP HO_8.out⟩, ⟨zR BK731.out⟩, ⟨Z101.uB HI0.out NB0_731.out⟩, ⟨yB HK.out GW731.out⟩, ⟨zV HB.out (Z101.ge HI0.out) GE731.out⟩⟩
   rw [if_neg c9] at H
   have c9b0 : decide (0 < (x8_1.length : Int)) = false := decide_eq_false c9
   have c9b1 : decide (0 < x8_1.length) = false := decide_eq_false (by omega)
   clear c9
   simp only [Option.some.injEq, Prod.mk.injEq] at H
   obtain ⟨rfl, rfl, rfl⟩ := H
   obtain ⟨Ao33, co33, eo33⟩ := kM HO_8.out
   subst eo33
   go_wp2
   go_ret
   exact ⟨_, zr, by (with_reducible repeat (first | apply zF | apply zG | apply zH)); exact kA HO_7.out (fun _ hk => trivial), by repeat (first | (with_reducible first | exact HI0.out | apply Z101.alloc | apply Z101.drewN | apply Z101.drew | apply Z101.set_1 | apply Z101.set_2 | refine Z101.far ?_ NB0_731.out _) | exact HI0.out), zV HB.out (Z101.ge HI0.out) GE731.out, by repeat (first | (with_reducible first | exact HK.out | apply KeepBut.set_ | apply keep_drewN | apply keep_drew | apply keep_alloc | refine keep_far ?_ GW731.out _) | exact HK.out)⟩
def spec_l05Cut.l0 : Nat → List Int → List Int → Int → Int → List Int → Option (List Int × Bool)
 | 0, _, _, _, _, _ => none
 | k + 1, x1, x8, x9, x827000, x827001 => if x9 < (x1.length : Int) then (if 0 ≤ x9 then ((spec_l03First.f k x827000 x827001 x8 (rd x1 x9)).bind fun t831 => (if t831 < 0 then (some (([] : List Int), false)) else ((spec_l03Without.f x8 t831).bind fun t832 => (spec_l05Cut.l0 k x1 t832 (wrap64 (x9 + 1)) x827000 x827001)))) else (none)) else (some (x8, true))
def spec_l05Cut.f (k : Nat) (a0_0 : Int) (l0_1 : List Int) (l1 : List Int) (l2 : List Int) : Option (List Int × Bool) := (spec_l01Own.f l2).bind fun t827 => (spec_l05Cut.l0 k l1 t827 0 a0_0 l0_1)
def spec_l05Cut.T5 : Bool × List (List Nat × List Nat) := (true, [([], []), ([], []), ([], []), ([], []), ([2, 3], [2, 3]), ([4], [4]), ([0, 1, 5], [0, 1, 5]), ([6, 6, 0, 1, 2, 3, 4, 5, 6], [6])])
def spec_l05Cut.B5 : List Nat := [0, 0, 0, 0, 12, 28, 63, 127]
theorem spec_l05Cut.tab5 : rtab .any (opsOf Tryd.f71 5) = spec_l05Cut.T5 := by kernel_rfl
theorem spec_l05Cut.bits5 : waitsOk spec_l05Cut.T5.2 spec_l05Cut.B5 = true := by kernel_rfl
set_option maxHeartbeats 8000000 in
set_option maxRecDepth 100000 in
theorem spec_l05Cut.calls (k : Nat) (a0_0 : Int) (A0_1 : Option Addr) (c0_1 : Nat) (l0_1 : List Int) (A1 : Option Addr) (c1 : Nat) (l1 : List Int) (A2 : Option Addr) (c2 : Nat) (l2 : List Int) (r1 : List Int) (r2 : Bool) (w : World) (hr0_1 : Kd.C (Kd.int .i64) w A0_1 l0_1.length l0_1) (hc0_1 : l0_1.length ≤ c0_1) (hr1 : Kd.C (Kd.int .i64) w A1 l1.length l1) (hc1 : l1.length ≤ c1) (hr2 : Kd.C (Kd.int .i64) w A2 l2.length l2) (hc2 : l2.length ≤ c2) (h : spec_l05Cut.f k a0_0 l0_1 l1 l2 = some (r1, r2)) :
  Calls Tryd.prog 71 #[.agg #[.int .i64 a0_0, .slice A0_1 l0_1.length c0_1], .slice A1 l1.length c1, .slice A2 l2.length c2] w fun e w' => ∃ v0_ : Value, e = .returned (.tuple #[v0_, .bool r2]) ∧ Kd.R (Kd.int .i64) 2 w' w.heap.size (fun _ => True) v0_ r1 ∧ Below w.heap.size w w' := by
 have hu26 := Tryd.underlying26
 have HR0_1 := zA hr0_1
 have HC0_1 := zA hc0_1
 clear hr0_1 hc0_1
 have HR1 := zA hr1
 have HC1 := zA hc1
 clear hr1 hc1
 have HR2 := zA hr2
 have HC2 := zA hc2
 clear hr2 hc2
 have HB := zA (kW w.heap.size w)
 have H := h
 unfold spec_l05Cut.f at H
 clear h
 obtain ⟨t827, A4, H⟩ := zb H
 try dsimp only at H
 have H' := zA H
 clear H
 go_enter Tryd.func71, Tryd.ntmps71
 go_wp2_with (first | (refine zBE 3 #[.int .i64 a0_0, .slice A0_1 l0_1.length c0_1] 26 ?_; intro gb826 hg w5 hbox hb; have BK826 := zA (hbox); have GW826 := zA (zBH hg HB.out); have GE826 := zA (zBH hg HB.out); replace HB := zA (kQ (zQ HB.out) hb); clear hb hbox hg) | (refine zO (some 12) Tryd.func76 #[.slice A2 l2.length c2] ?_; (with_reducible refine (spec_l01Own.calls _ _ l2 t827 _ ?side1 ?side2 A4.out).mono ?_); (case side1 => exact zS (kO HR2.out HB.out)); (case side2 => exact HC2.out); rintro e w6 ⟨v828, rfl, ho0, hb⟩; refine ⟨_, rfl, ?_⟩; have HO829 := zA (kI ho0 (kP (zT HB.out GE826.out))); replace BK826 := zA (zB1 BK826.out hb); replace HB := zA (kQ (zT HB.out GE826.out) hb); (try clear hb); (try clear ho0)))
 go_loopg [8, 9] k (fun kq v8 v9 w' => ∃ (x8_1 : List Int) (x9_1 : Int), v9 = .int .i64 x9_1 ∧ Aside0 (spec_l05Cut.l0 kq l1 x8_1 x9_1 a0_0 l0_1 = some (r1, r2)) ∧ Aside0 (kq ≤ k) ∧ Aside0 (Kd.R (Kd.int .i64) 2 w' w.heap.size (fun _ => True) v8 x8_1) ∧ Aside0 (w'.heap[gb826]? = some (.cells #[.int .i64 a0_0, (.slice A0_1 l0_1.length c0_1)] 26 (0, 0))) ∧ Aside0 (Below w.heap.size w w'))
 case atStart => exact ⟨(t827), (0), zs, H', ⟨Nat.le_refl _⟩, ⟨zP HO829.out⟩, ⟨zR BK826.out⟩, ⟨zT HB.out GE826.out⟩⟩
 case round =>
  clear H'
  try clear c1
  try clear c2
  obtain ⟨x8_1, x9_1, rfl, HA, HK1, HO_8, BK826, HB⟩ := hrel
  cases gk with
  | zero => exact absurd HA.out (by simp [spec_l05Cut.l0])
  | succ k1 =>
   have H := HA.out
   clear HA
   simp only [spec_l05Cut.l0] at H
   by_cases c7 : x9_1 < (l1.length : Int)
   ·rw [if_pos c7] at H
    have c7b0 : decide (x9_1 < (l1.length : Int)) = true := decide_eq_true c7
    clear c7
    by_cases c8 : 0 ≤ x9_1
    ·rw [if_pos c8] at H
     have c8b0 : decide (0 ≤ x9_1) = true := decide_eq_true c8
     clear c8
     obtain ⟨t831, A9, H⟩ := zb H
     try dsimp only at H
     by_cases c10 : t831 < 0
     ·rw [if_pos c10] at H
      have c10b0 : decide (t831 < 0) = true := decide_eq_true c10
      clear c10
      simp only [Option.some.injEq, Prod.mk.injEq] at H
      obtain ⟨rfl, rfl⟩ := H
      try go_wp2
      replace HO_8 := zA (zH HO_8.out)
      replace BK826 := zA (zK BK826.out)
      replace HB := zA (zD HB.out)
      have p830 : 0 ≤ (x9_1 : Int) := zd
      have q830 : x9_1 < (l1.length : Int) := zd
      obtain ⟨ad830, e830, hx830_0⟩ := Kd.at_int HR1.out x9_1 p830 q830
      have hw830_0 := hx830_0
      cases e830
      replace hx830_0 := (HB.out.cell (jG w _ hx830_0)).trans hx830_0
      replace p830 := eq_true p830
      replace q830 := eq_true q830
      obtain ⟨Ao12, co12, eo12⟩ := kM HO_8.out
      (first | subst eo12 | (injection eo12 with f1_ f2_ f3_; have f4_ := f1_.symm; have f5_ := f3_.symm; clear f1_ f2_ f3_; subst f4_; subst f5_))
      refine start_ (n := 8) (S := fun w' => w'.cell? ⟨gb826, 0, none⟩ = some (.int .i64 a0_0) ∧ w'.cell? ⟨gb826, 1, none⟩ = some (.slice A0_1 l0_1.length c0_1) ∧ w'.cell? (ad830.add (x9_1).toNat) = some (.int .i64 (rd l1 x9_1))) (ds := []) #[false, false, false, false, false, false, false, false] (by kernel_rfl) rfl rfl ⟨(kV BK826.out 0).trans rfl, (kV BK826.out 1).trans rfl, (pw_cell_below HB.out hw830_0)⟩ (fun hHeld => ?_); refine with_tabW spec_l05Cut.tab5 spec_l05Cut.bits5 (fun HT_ HW_ => ?_)
      generalize wr.drew = w11 at HO_8 BK826 HB hx830_0 hHeld ⊢
      refine zp 1 (some 20) #[false, true, false, false, false, false, false, false] HT_.out ?_
      refine zp 2 (some 21) #[false, true, true, false, false, false, false, false] HT_.out ?_
      refine zp 3 (some 22) #[false, true, true, true, false, false, false, false] HT_.out ?_
      refine zp 4 (some 23) #[false, true, true, true, true, false, false, false] HT_.out ?_
      refine ze 0 (some 19) #[true, true, true, true, true, false, false, false] HT_.out HW_.out hHeld ?_
      refine ze 5 (some 24) #[true, true, true, true, true, true, false, false] HT_.out HW_.out hHeld ?_
      refine one_ (i := 6) (N := some 25) #[true, true, true, true, true, true, true, false] rfl rfl (one_of HT_.out (by kernel_rfl)) (by decide) (fun K hK => ?_)
      refine goes_ Tryd.func53 (by kernel_rfl) rfl #[.agg #[.int .i64 a0_0, .slice A0_1 l0_1.length c0_1], .slice Ao12 x8_1.length co12, .int .i64 (rd l1 x9_1)] (by rfl) rfl rfl zg ?_
      with_reducible refine (spec_l03First.calls k1 a0_0 _ _ l0_1 _ _ x8_1 (rd l1 x9_1) t831 _ ?side1 ?side2 ?side3 ?side4 A9.out).mono ?_
      (case side1 => exact zS (kO HR0_1.out HB.out))
      (case side2 => exact HC0_1.out)
      (case side3 => exact zS (kB HO_8.out).2.2)
      (case side4 => exact (kB HO_8.out).2.1)
      rintro e w13 ⟨rfl, hb⟩
      refine ⟨_, rfl, ?_⟩
      replace HO_8 := zA (kL (zP HO_8.out) hb)
      replace BK826 := zA (zB1 BK826.out hb)
      replace HB := zA (kQ (zT HB.out GE826.out) hb)
      (try clear hb)
      (try clear hb2)
      (try clear hk)
      (try clear hi)
      (try clear hgw)
      refine hK.out _ _ ⟨(kV BK826.out 0).trans rfl, (kV BK826.out 1).trans rfl, (pw_cell_below HB.out hw830_0)⟩ (fun hHeld => ?_)
      clear hK K
      refine norm_ (a' := ?_) ?_ ?_
      rotate_left
      ·show Act.put _ (some 25) _ = _
       simp only [Act.put, zL, zM, zN, i64_w, i32_w]
       rfl
      refine zp 7 (some 10) #[true, true, true, true, true, true, true, true] HT_.out ?_
      refine done_ (done_of HT_.out (by kernel_rfl)) ?_
      try go_wp2
      go_ret2
      exact ⟨_, zr, zn, zT HB.out GE826.out⟩
     rw [if_neg c10] at H
     have c10b0 : decide (t831 < 0) = false := decide_eq_false c10
     clear c10
     obtain ⟨t832, A14, H⟩ := zb H
     try dsimp only at H
     have H' := zA H
     clear H
     try go_wp2
     replace HO_8 := zA (zH HO_8.out)
     replace BK826 := zA (zK BK826.out)
     replace HB := zA (zD HB.out)
     have p830 : 0 ≤ (x9_1 : Int) := zd
     have q830 : x9_1 < (l1.length : Int) := zd
     obtain ⟨ad830, e830, hx830_0⟩ := Kd.at_int HR1.out x9_1 p830 q830
     have hw830_0 := hx830_0
     cases e830
     replace hx830_0 := (HB.out.cell (jG w _ hx830_0)).trans hx830_0
     replace p830 := eq_true p830
     replace q830 := eq_true q830
     obtain ⟨Ao16, co16, eo16⟩ := kM HO_8.out
     (first | subst eo16 | (injection eo16 with f1_ f2_ f3_; have f4_ := f1_.symm; have f5_ := f3_.symm; clear f1_ f2_ f3_; subst f4_; subst f5_))
     refine start_ (n := 8) (S := fun w' => w'.cell? ⟨gb826, 0, none⟩ = some (.int .i64 a0_0) ∧ w'.cell? ⟨gb826, 1, none⟩ = some (.slice A0_1 l0_1.length c0_1) ∧ w'.cell? (ad830.add (x9_1).toNat) = some (.int .i64 (rd l1 x9_1))) (ds := []) #[false, false, false, false, false, false, false, false] (by kernel_rfl) rfl rfl ⟨(kV BK826.out 0).trans rfl, (kV BK826.out 1).trans rfl, (pw_cell_below HB.out hw830_0)⟩ (fun hHeld => ?_); refine with_tabW spec_l05Cut.tab5 spec_l05Cut.bits5 (fun HT_ HW_ => ?_)
     generalize wr.drew = w15 at HO_8 BK826 HB hx830_0 hHeld ⊢
     refine zp 1 (some 20) #[false, true, false, false, false, false, false, false] HT_.out ?_
     refine zp 2 (some 21) #[false, true, true, false, false, false, false, false] HT_.out ?_
     refine zp 3 (some 22) #[false, true, true, true, false, false, false, false] HT_.out ?_
     refine zp 4 (some 23) #[false, true, true, true, true, false, false, false] HT_.out ?_
     refine ze 0 (some 19) #[true, true, true, true, true, false, false, false] HT_.out HW_.out hHeld ?_
     refine ze 5 (some 24) #[true, true, true, true, true, true, false, false] HT_.out HW_.out hHeld ?_
     refine one_ (i := 6) (N := some 25) #[true, true, true, true, true, true, true, false] rfl rfl (one_of HT_.out (by kernel_rfl)) (by decide) (fun K hK => ?_)
     refine goes_ Tryd.func53 (by kernel_rfl) rfl #[.agg #[.int .i64 a0_0, .slice A0_1 l0_1.length c0_1], .slice Ao16 x8_1.length co16, .int .i64 (rd l1 x9_1)] (by rfl) rfl rfl zg ?_
     with_reducible refine (spec_l03First.calls k1 a0_0 _ _ l0_1 _ _ x8_1 (rd l1 x9_1) t831 _ ?side1 ?side2 ?side3 ?side4 A9.out).mono ?_
     (case side1 => exact zS (kO HR0_1.out HB.out))
     (case side2 => exact HC0_1.out)
     (case side3 => exact zS (kB HO_8.out).2.2)
     (case side4 => exact (kB HO_8.out).2.1)
     rintro e w17 ⟨rfl, hb⟩
     refine ⟨_, rfl, ?_⟩
     replace HO_8 := zA (kL (zP HO_8.out) hb)
     replace BK826 := zA (zB1 BK826.out hb)
     replace HB := zA (kQ (zT HB.out GE826.out) hb)
     (try clear hb)
     (try clear hb2)
     (try clear hk)
     (try clear hi)
     (try clear hgw)
     refine hK.out _ _ ⟨(kV BK826.out 0).trans rfl, (kV BK826.out 1).trans rfl, (pw_cell_below HB.out hw830_0)⟩ (fun hHeld => ?_)
     clear hK K
     refine norm_ (a' := ?_) ?_ ?_
     rotate_left
     ·show Act.put _ (some 25) _ = _
      simp only [Act.put, zL, zM, zN, i64_w, i32_w]
      rfl
     refine zp 7 (some 10) #[true, true, true, true, true, true, true, true] HT_.out ?_
     refine done_ (done_of HT_.out (by kernel_rfl)) ?_
     try go_wp2_with (first | (refine zO (some 30) Tryd.func114 #[.slice Ao16 x8_1.length co16, .int .i64 t831] ?_; (with_reducible refine (spec_l03Without.calls _ _ x8_1 t831 t832 _ ?side1 ?side2 A14.out).mono ?_); (case side1 => exact zS (kB HO_8.out).2.2); (case side2 => exact (kB HO_8.out).2.1); rintro e w18 ⟨v833, rfl, ho0, hb⟩; refine ⟨_, rfl, ?_⟩; have HO834 := zA (kI (kF ho0 (kH (zP HO_8.out))) (kP (zT HB.out GE826.out))); replace HO_8 := zA (kE (zP HO_8.out) (kC ho0) hb); replace BK826 := zA (zB1 BK826.out hb); replace HB := zA (kQ (zT HB.out GE826.out) hb); (try clear hb); (try clear ho0)))
     go_roundg k1
     case measure => have := HK1.out; omega
     case rel => exact ⟨(t832), (wrap64 (x9_1 + 1)), zs, H', ⟨by have := HK1.out; omega⟩, ⟨zPM HO834.out (fun _ hk => trivial)⟩, ⟨zR BK826.out⟩, ⟨zT HB.out GE826.out⟩⟩
    rw [if_neg c8] at H
    exact absurd H (by simp)
   rw [if_neg c7] at H
   have c7b0 : decide (x9_1 < (l1.length : Int)) = false := decide_eq_false c7
   clear c7
   simp only [Option.some.injEq, Prod.mk.injEq] at H
   obtain ⟨rfl, rfl⟩ := H
   go_wp2
   go_ret2
   exact ⟨_, zr, zP HO_8.out, zT HB.out GE826.out⟩
end Go.Proofs.YtkiacoilecdepaaDoor.PAll
