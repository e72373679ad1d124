-- Printed by a program of the session (wip/tools/pgen.py) out of the translation. Not trusted: Lean checks it.
import Derived.Test.YtkiacoilecdepaaDoorPAllx0
import Derived.Test.YtkiacoilecdepaaDoorPAllx1
import Derived.Test.YtkiacoilecdepaaDoorPAllx2
import Derived.Test.YtkiacoilecdepaaDoorPAllx3
namespace Go.Proofs.YtkiacoilecdepaaDoor.PAll
open Go.RowKit Go.Proofs.YtkiacoilecdepaaDoor.T Go.Proofs.YtkiacoilecdepaaDoorW.PrintWords Go.Proofs.YtkiacoilecdepaaDoorW.PrintLast Go.Proofs.YtkiacoilecdepaaDoorW.PrintMore
attribute [local go_sem] max2_int min2_int max_two min_two max_three min_three max_four min_four   -- for this text's walks alone
set_option linter.unusedVariables false
set_option linter.unusedSimpArgs false

/-! ### spec_l03Draw: function 123 -/
def spec_l03Draw.l0 : Nat → List Int → Int → List Int → Int → Int → Int → List Int → Option (List Int × Int × Int)
 | 0, _, _, _, _, _, _, _ => none
 | k + 1, x7, x8, x1000, x1001, x1002, x291000, x291001 => if x8 > 0 then (if (x7.length : Int) > 0 then ((spec_l01Next.f x1000 x1001 x1002 8).bind fun bt297 => (if bt297.1 = 0 then (if 0 ≤ (wrap64 ((x7.length : Int) - 1)) then (if (wrap64 ((x7.length : Int) - 1)) < (x7.length : Int) then (if x7.length < 17592186044416 then (spec_l03Draw.l0 k (x7 ++ [rd x7 (wrap64 ((x7.length : Int) - 1))]) (wrap64 (x8 - 1)) x1000 bt297.2.1 bt297.2.2 x291000 x291001) else (none)) else (none)) else (none)) else ((spec_l01Next.f x1000 bt297.2.1 bt297.2.2 x291000).bind fun bt304 => (if x7.length < 17592186044416 then (spec_l03Draw.l0 k (x7 ++ [bt304.1]) (wrap64 (x8 - 1)) x1000 bt304.2.1 bt304.2.2 x291000 x291001) else (none))))) else ((spec_l01Next.f x1000 x1001 x1002 x291000).bind fun bt310 => (if x7.length < 17592186044416 then (spec_l03Draw.l0 k (x7 ++ [bt310.1]) (wrap64 (x8 - 1)) x1000 bt310.2.1 bt310.2.2 x291000 x291001) else (none)))) else (some (x7, x1001, x1002))
def spec_l03Draw.f (k : Nat) (s0_0 : List Int) (s0_1 : Int) (s0_2 : Int) (a1_0 : Int) (l1_1 : List Int) (a2 : Int) : Option (List Int × Int × Int) := (some (([] : List Int) : List Int)).bind fun y291 => (if a1_0 = 0 then (some (y291, s0_1, s0_2)) else ((spec_l01Next.f s0_0 s0_1 s0_2 (wrap64 (a2 + 1))).bind fun bt294 => (spec_l03Draw.l0 k y291 bt294.1 s0_0 bt294.2.1 bt294.2.2 a1_0 l1_1)))

set_option maxHeartbeats 8000000 in
set_option maxRecDepth 100000 in
theorem spec_l03Draw.calls (k : Nat) (g : Nat) (s0_0 : List Int) (s0_1 : Int) (s0_2 : Int) (a1_0 : Int) (A1_1 : Option Addr) (c1_1 : Nat) (l1_1 : List Int) (a2 : Int) (r1 : List Int) (r2 : Int) (r3 : Int) (w0 w : World) (hI : Z101 w0 w g s0_0 s0_1 s0_2) (hB : Below w0.heap.size w0 w) (hr1_1 : Kd.C (Kd.int .i64) w A1_1 l1_1.length l1_1) (hc1_1 : l1_1.length ≤ c1_1) (hf1_1 : ∀ ad, A1_1 = some ad → 0 < l1_1.length → ad.block ≠ g) (h : spec_l03Draw.f k s0_0 s0_1 s0_2 a1_0 l1_1 a2 = some (r1, r2, r3)) :
  Calls Tryd.prog 123 #[.pointer (some ⟨g, 0, none⟩), .agg #[.int .i64 a1_0, .slice A1_1 l1_1.length c1_1], .int .i64 a2] w fun e w' => ∃ v0_ : Value, e = .returned (v0_) ∧ Kd.R (Kd.int .i64) 2 w' w.heap.size (fun _ => True) v0_ r1 ∧ Z101 w0 w' g s0_0 r2 r3 ∧ Below w0.heap.size w0 w' ∧ KeepBut w w' g none := by
 have hu26 := Tryd.underlying26
 have HR1_1 := zA hr1_1
 have HC1_1 := zA hc1_1
 clear hr1_1 hc1_1
 have HI0 := zA hI
 have HK := zA (KeepBut.refl w g none)
 have HL := zA hB.size
 clear hI
 have HW0 := zA hB.size
 have HB := zA hB
 clear hB
 have H : ((some (([] : List Int) : List Int)).bind fun y291 => (if a1_0 = 0 then (some (y291, s0_1, s0_2)) else ((spec_l01Next.f s0_0 s0_1 s0_2 (wrap64 (a2 + 1))).bind fun bt294 => (spec_l03Draw.l0 k y291 bt294.1 s0_0 bt294.2.1 bt294.2.2 a1_0 l1_1)))) = some (r1, r2, r3) := h
 clear h
 obtain ⟨y291, hy291⟩ : ∃ y_ : List Int, y_ = (([] : List Int)) := ⟨_, rfl⟩
 replace H : (if a1_0 = 0 then (some (y291, s0_1, s0_2)) else ((spec_l01Next.f s0_0 s0_1 s0_2 (wrap64 (a2 + 1))).bind fun bt294 => (spec_l03Draw.l0 k y291 bt294.1 s0_0 bt294.2.1 bt294.2.2 a1_0 l1_1))) = some (r1, r2, r3) := zy hy291 H
 have Ny291 := zA hy291
 clear hy291
 by_cases c4 : a1_0 = 0
 ·rw [if_pos c4] at H
  have c4b0 : (a1_0 == 0) = true := beq_iff_eq.mpr c4
  have c4b1 : (a1_0 != 0) = false := bne_eq_false_iff_eq.mpr c4
  clear c4
  simp only [Option.some.injEq, Prod.mk.injEq] at H
  obtain ⟨rfl, rfl, rfl⟩ := H
  go_enter Tryd.func123, Tryd.ntmps123
  go_wp2_with (first | ((with_reducible refine gate_dst (N := 4) rfl ?_); refine box_event ?hg (N := 4) ?hd (cs := #[.int .i64 a1_0, .slice A1_1 l1_1.length c1_1]) (t := 26) ?hr ?_; (case hd => rfl); (case hg => rfl); (case hr => first | (go_simp; done) | (go_simp; rfl)); intro gb290 hg w5 hbox hb; replace HB := zA (below_step (zT HB.out (Z101.ge HI0.out)) hb); have BK290 := zA (hbox); have GW290 := zA ((by rw [hg]; exact (keep_size (w := w) (g := g) (row := none) (yA HK.out)) : w.heap.size ≤ gb290)); have GE290 := zA ((Nat.le_trans HW0.out (by rw [hg]; exact (keep_size (w := w) (g := g) (row := none) (yA HK.out)) : w.heap.size ≤ gb290) : w0.heap.size ≤ gb290)); replace HK := zA (KeepBut.trans (yA HK.out) (KeepBut.of_below hb g none) (.inl rfl)); have NB0_290 := zA ((by rw [hg]; exact Nat.ne_of_lt (Z101.lt (show Z101 w0 _ g s0_0 s0_1 s0_2 from Z101.uA HI0.out)) : g ≠ gb290)); have NB290_0 := zA ((by rw [hg]; exact Nat.ne_of_gt (Z101.lt (show Z101 w0 _ g s0_0 s0_1 s0_2 from Z101.uA HI0.out)) : gb290 ≠ g)); replace HI0 := zA (Z101.below (Z101.uA HI0.out) hb); clear hb hbox hg) | ((with_reducible refine gate_dst (N := 9) rfl ?_); refine Kd.R_lit (Kd.int .i64) _ 2 ?hg (N := 9) ?hd (xs := ([] : List Int)) (inner := []) (ok := fun _ => True) (okp := fun _ => True) ?hr ?hp (fun _ hk => hk) trivial (Below.refl _ _) (Nat.le_refl _) (by simp) ?_; (case hd => rfl); (case hg => rfl); (case hr => first | (go_simp; done) | (go_simp; rfl)); (case hp => exact (Reps.none _ _)); intro v292 w6 ho7 hb hg_ hnew_; clear hg_ hnew_; (first | rw [← Ny291.out] at ho7 | (simp only [Int.reduceToNat] at ho7; rw [← Ny291.out] at ho7)); have HO293 := zA (Kd.R_lower ho7 (keep_size (w := w) (g := g) (row := none) (yB HK.out GW290.out))); replace BK290 := zA (blk_below (g := gb290) (o := .cells #[.int .i64 a1_0, .slice A1_1 l1_1.length c1_1] 26 (0, 0)) (zR BK290.out) hb); replace HK := zA (KeepBut.trans (yB HK.out GW290.out) (KeepBut.of_below hb g none) (.inl rfl)); replace HB := zA (below_step (zV HB.out (Z101.ge HI0.out) GE290.out) hb); replace HI0 := zA (Z101.below (Z101.uB HI0.out NB0_290.out) hb); clear hb ho7; have hnb8 := NB290_0.out; have hnc8 := NB0_290.out; have hcz9_0 : w6.cell? ⟨gb290, 0, none⟩ = some (.int .i64 a1_0) := (blk_cell BK290.out 0).trans rfl; have hcz9_1 : w6.cell? ⟨gb290, 1, none⟩ = some (.slice A1_1 l1_1.length c1_1) := (blk_cell BK290.out 1).trans rfl; have hfz9_0 := blk_frozen BK290.out 0; have hfz9_1 := blk_frozen BK290.out 1))
  go_ret
  exact ⟨_, zr, zP HO293.out, by repeat (first | (with_reducible first | exact HI0.out | apply Z101.alloc | apply Z101.drewN | apply Z101.drew | apply Z101.set_1 | apply Z101.set_2 | refine Z101.far ?_ NB0_290.out _) | exact HI0.out), zV HB.out (Z101.ge HI0.out) GE290.out, by repeat (first | (with_reducible first | exact HK.out | apply KeepBut.set_ | apply keep_drewN | apply keep_drew | apply keep_alloc | refine keep_far ?_ GW290.out _) | exact HK.out)⟩
 rw [if_neg c4] at H
 have c4b0 : (a1_0 == 0) = false := beq_eq_false_iff_ne.mpr c4
 have c4b1 : (a1_0 != 0) = true := bne_iff_ne.mpr c4
 obtain ⟨⟨t294, t295, t296⟩, A10, H⟩ := zb H
 try dsimp only at H
 have H' := zA H
 clear H
 go_enter Tryd.func123, Tryd.ntmps123
 go_wp2_with (first | ((with_reducible refine gate_dst (N := 4) rfl ?_); refine box_event ?hg (N := 4) ?hd (cs := #[.int .i64 a1_0, .slice A1_1 l1_1.length c1_1]) (t := 26) ?hr ?_; (case hd => rfl); (case hg => rfl); (case hr => first | (go_simp; done) | (go_simp; rfl)); intro gb290 hg w11 hbox hb; replace HB := zA (below_step (zT HB.out (Z101.ge HI0.out)) hb); have BK290 := zA (hbox); have GW290 := zA ((by rw [hg]; exact (keep_size (w := w) (g := g) (row := none) (yA HK.out)) : w.heap.size ≤ gb290)); have GE290 := zA ((Nat.le_trans HW0.out (by rw [hg]; exact (keep_size (w := w) (g := g) (row := none) (yA HK.out)) : w.heap.size ≤ gb290) : w0.heap.size ≤ gb290)); replace HK := zA (KeepBut.trans (yA HK.out) (KeepBut.of_below hb g none) (.inl rfl)); have NB0_290 := zA ((by rw [hg]; exact Nat.ne_of_lt (Z101.lt (show Z101 w0 _ g s0_0 s0_1 s0_2 from Z101.uA HI0.out)) : g ≠ gb290)); have NB290_0 := zA ((by rw [hg]; exact Nat.ne_of_gt (Z101.lt (show Z101 w0 _ g s0_0 s0_1 s0_2 from Z101.uA HI0.out)) : gb290 ≠ g)); replace HI0 := zA (Z101.below (Z101.uA HI0.out) hb); clear hb hbox hg) | ((with_reducible refine gate_dst (N := 9) rfl ?_); refine Kd.R_lit (Kd.int .i64) _ 2 ?hg (N := 9) ?hd (xs := ([] : List Int)) (inner := []) (ok := fun _ => True) (okp := fun _ => True) ?hr ?hp (fun _ hk => hk) trivial (Below.refl _ _) (Nat.le_refl _) (by simp) ?_; (case hd => rfl); (case hg => rfl); (case hr => first | (go_simp; done) | (go_simp; rfl)); (case hp => exact (Reps.none _ _)); intro v292 w12 ho13 hb hg_ hnew_; clear hg_ hnew_; (first | rw [← Ny291.out] at ho13 | (simp only [Int.reduceToNat] at ho13; rw [← Ny291.out] at ho13)); have HO293 := zA (Kd.R_lower ho13 (keep_size (w := w) (g := g) (row := none) (yB HK.out GW290.out))); replace BK290 := zA (blk_below (g := gb290) (o := .cells #[.int .i64 a1_0, .slice A1_1 l1_1.length c1_1] 26 (0, 0)) (zR BK290.out) hb); replace HK := zA (KeepBut.trans (yB HK.out GW290.out) (KeepBut.of_below hb g none) (.inl rfl)); replace HB := zA (below_step (zV HB.out (Z101.ge HI0.out) GE290.out) hb); replace HI0 := zA (Z101.below (Z101.uB HI0.out NB0_290.out) hb); clear hb ho13; have hnb14 := NB290_0.out; have hnc14 := NB0_290.out; have hcz15_0 : w12.cell? ⟨gb290, 0, none⟩ = some (.int .i64 a1_0) := (blk_cell BK290.out 0).trans rfl; have hcz15_1 : w12.cell? ⟨gb290, 1, none⟩ = some (.slice A1_1 l1_1.length c1_1) := (blk_cell BK290.out 1).trans rfl; have hfz15_0 := blk_frozen BK290.out 0; have hfz15_1 := blk_frozen BK290.out 1) | ((with_reducible refine gate_callee (f := 79) rfl ?_); refine zO (some 17) Tryd.func79 #[.pointer (some ⟨g, 0, none⟩), .int .i64 (wrap64 (a2 + 1))] ?_; (with_reducible refine (spec_l01Next.calls g s0_0 s0_1 s0_2 (wrap64 (a2 + 1)) t294 t295 t296 w0 _ ?side1 ?side2 A10.out).mono ?_); (case side1 => exact Z101.uB HI0.out NB0_290.out); (case side2 => exact zV HB.out (Z101.ge HI0.out) GE290.out); rintro e w16 ⟨rfl, hi, hb, hk⟩; refine ⟨_, rfl, ?_⟩; replace BK290 := zA (KeepBut.blk hk (g' := gb290) (o := .cells #[.int .i64 a1_0, .slice A1_1 l1_1.length c1_1] 26 (0, 0)) (zR BK290.out) NB290_0.out (by simp)); replace HO293 := zA (Kd.R_mono (Kd.R_keep (Z101.apart (show Z101 w0 _ g s0_0 s0_1 s0_2 from Z101.uB HI0.out NB0_290.out) (zP HO293.out) (by decide)) hk (fun _ h => h.2)) (fun _ h => h.1)); replace HK := zA (KeepBut.trans (yB HK.out GW290.out) hk (.inl rfl)); replace HB := zA (hb); replace HI0 := zA (hi); (try clear hb); (try clear hk); (try clear hi)))
 go_loopg [7, 8] k (fun kq v7 v8 w' => ∃ (x7_1 : List Int) (x8_1 : Int) (x1001_1 : Int) (x1002_1 : Int), v8 = .int .i64 x8_1 ∧ Aside0 (spec_l03Draw.l0 kq x7_1 x8_1 s0_0 x1001_1 x1002_1 a1_0 l1_1 = some (r1, r2, r3)) ∧ Aside0 (kq ≤ k) ∧ Aside0 (Kd.R (Kd.int .i64) 2 w' w.heap.size (fun _ => True) v7 x7_1) ∧ Aside0 (w'.heap[gb290]? = some (.cells #[.int .i64 a1_0, (.slice A1_1 l1_1.length c1_1)] 26 (0, 0))) ∧ Aside0 (Z101 w0 w' g s0_0 x1001_1 x1002_1) ∧ Aside0 (KeepBut w w' g none) ∧ Aside0 (Below w0.heap.size w0 w'))
 case atStart => exact ⟨(y291), (t294), (t295), (t296), (by first | rfl | (simp; done) | (simp [*]; done)), H', ⟨Nat.le_refl _⟩, ⟨by (with_reducible repeat (first | apply zF | apply zG | apply zH)); exact HO293.out⟩, ⟨by (with_reducible repeat (first | refine zJ ?_ _ | refine zK ?_ | refine zI ?_ _)); exact BK290.out⟩, ⟨Z101.uB HI0.out NB0_290.out⟩, ⟨yB HK.out GW290.out⟩, ⟨zV HB.out (Z101.ge HI0.out) GE290.out⟩⟩
 case round =>
  clear H'
  try clear c1
  try clear p2
  try clear c4
  try clear c4b0
  try clear c4b1
  try clear p6
  try clear c7
  try clear c8
  try clear c12
  try clear c14
  try clear hcz15_0
  try clear hcz15_1
  try clear hcz9_0
  try clear hcz9_1
  try clear hfz15_0
  try clear hfz15_1
  try clear hfz9_0
  try clear hfz9_1
  obtain ⟨x7_1, x8_1, x1001_1, x1002_1, rfl, HA, HK1, HO_7, BK290, HI0, HK, HB⟩ := hrel
  cases gk with
  | zero => exact absurd HA.out (by simp [spec_l03Draw.l0])
  | succ k1 =>
   have H := HA.out
   clear HA
   simp only [spec_l03Draw.l0] at H
   by_cases c17 : x8_1 > 0
   ·rw [if_pos c17] at H
    have c17b0 : decide (0 < x8_1) = true := decide_eq_true c17
    clear c17
    by_cases c18 : (x7_1.length : Int) > 0
    ·rw [if_pos c18] at H
     have c18b0 : decide (0 < (x7_1.length : Int)) = true := decide_eq_true c18
     have c18b1 : decide (0 < x7_1.length) = true := decide_eq_true (by omega)
     clear c18
     obtain ⟨⟨t297, t298, t299⟩, A19, H⟩ := zb H
     try dsimp only at H
     by_cases c20 : t297 = 0
     ·rw [if_pos c20] at H
      have c20b0 : (t297 == 0) = true := beq_iff_eq.mpr c20
      have c20b1 : (t297 != 0) = false := bne_eq_false_iff_eq.mpr c20
      clear c20
      obtain ⟨ji21, hji21⟩ : ∃ j_ : Int, (wrap64 ((x7_1.length : Int) - 1)) = j_ := ⟨_, rfl⟩
      replace H : (if 0 ≤ (ji21) then (if (ji21) < (x7_1.length : Int) then (if x7_1.length < 17592186044416 then (spec_l03Draw.l0 k1 (x7_1 ++ [rd x7_1 (ji21)]) (wrap64 (x8_1 - 1)) s0_0 t298 t299 a1_0 l1_1) else (none)) else (none)) else (none)) = some (r1, r2, r3) := by first | (rw [hji21] at H; exact H) | (simp only [hji21] at H ⊢; exact H)
      (try rw [hji21] at A19)
      have hji21w : (IntKind.i64.wrap ((x7_1.length : Int) - 1)) = ji21 := (i64_w _).trans hji21
      by_cases c22 : 0 ≤ (ji21)
      ·rw [if_pos c22] at H
       have c22b0 : decide (0 ≤ (ji21)) = true := decide_eq_true c22
       clear c22
       by_cases c23 : (ji21) < (x7_1.length : Int)
       ·rw [if_pos c23] at H
        have c23b0 : decide ((ji21) < (x7_1.length : Int)) = true := decide_eq_true c23
        clear c23
        by_cases c24 : x7_1.length < 17592186044416
        ·rw [if_pos c24] at H
         have LMc24 := zA c24
         clear c24
         obtain ⟨y301, hy301⟩ : ∃ y_ : List Int, y_ = (x7_1 ++ [rd x7_1 (ji21)]) := ⟨_, rfl⟩
         replace H : (spec_l03Draw.l0 k1 y301 (wrap64 (x8_1 - 1)) s0_0 t298 t299 a1_0 l1_1) = some (r1, r2, r3) := zy hy301 H
         have Ny301 := zA hy301
         clear hy301
         have H' := zA H
         clear H
         obtain ⟨Ao25, co25, eo25⟩ := Kd.R_slice HO_7.out
         subst eo25
         go_wp2_with (first | (go_at_call 79; (with_reducible refine (spec_l01Next.calls g s0_0 x1001_1 x1002_1 8 t297 t298 t299 w0 _ ?side1 ?side2 A19.out).mono ?_); (case side1 => exact Z101.uB HI0.out NB0_290.out); (case side2 => exact zV HB.out (Z101.ge HI0.out) GE290.out); rintro e w26 ⟨rfl, hi, hb, hk⟩; replace HO_7 := zA (Kd.R_mono (Kd.R_keep (Z101.apart (show Z101 w0 _ g s0_0 x1001_1 x1002_1 from Z101.uB HI0.out NB0_290.out) (zP HO_7.out) (by decide)) hk (fun _ h => h.2)) (fun _ h => h.1)); replace BK290 := zA (KeepBut.blk hk (g' := gb290) (o := .cells #[.int .i64 a1_0, .slice A1_1 l1_1.length c1_1] 26 (0, 0)) (zR BK290.out) NB290_0.out (by simp)); replace HK := zA (KeepBut.trans (yB HK.out GW290.out) hk (.inl rfl)); replace HB := zA (hb); replace HI0 := zA (hi); (try clear hb); (try clear hk); (try clear hi); have p300 : 0 ≤ ((ji21) : Int) := zd; have q300 : (ji21) < (x7_1.length : Int) := zd; obtain ⟨ad300, e300, hx300_0⟩ := Kd.at_int (Kd.R_reads' HO_7.out).2.2 (ji21) p300 q300; cases e300; replace p300 := eq_true p300; replace q300 := eq_true q300) | ((with_reducible refine gate_builtin (b := .append) (xs := #[.tmp 30, .tmp 37]) rfl ?_); at_builtin; refine Kd.R_append (Kd.int .i64) w.heap.size rfl (.tmp 30) (.tmp 37) 24 2 (.int .i64 0) 8 rfl Tryd.underlying24 info2 rfl (by decide) (by omega) (.slice (some ad300) x7_1.length co25) x7_1 (rd x7_1 (ji21)) [.int .i64 (rd x7_1 (ji21))] (fun _ => True) (fun _ => False) rfl rfl ?aP (fun _ hk => hk.elim) ?aF ?aO (Below.refl _ _) ?aS ?aL ?_; (case aP => exact rfl); (case aF => exact (fun _ _ => trivial)); (case aO => exact (zP HO_7.out)); (case aS => exact (keep_size (w := w) (g := g) (row := none) (yB HK.out GW290.out))); (case aL => have := LMc24.out; omega); intro v302 w27 ho hb hg hat; rw [← Ny301.out] at ho; replace BK290 := zA (blk_grown (g := gb290) (o := .cells #[.int .i64 a1_0, .slice A1_1 l1_1.length c1_1] 26 (0, 0)) (zR BK290.out) hg (Kd.R_ne HO_7.out BK290.out (by decide))); replace HB := zA (below_weaken (zV HB.out (Z101.ge HI0.out) GE290.out) HL.out hb); replace HI0 := zA (Z101.grown (Z101.uB HI0.out NB0_290.out) hg (Z101.own_ne HI0.out HO_7.out (by decide))); replace HK := zA (KeepBut.trans (yB HK.out GW290.out) (KeepBut.of_grown hg g) (Kd.R_base2 HO_7.out)); have HO303 := zA (ho); clear HO_7; clear ho hb hg hat))
         go_roundg k1
         case measure => have := HK1.out; omega
         case rel => exact ⟨(y301), (wrap64 (x8_1 - 1)), (t298), (t299), (by first | rfl | (simp; done) | (simp [*]; done)), H', ⟨by have := HK1.out; omega⟩, ⟨by (with_reducible repeat (first | apply zF | apply zG | apply zH)); exact HO303.out⟩, ⟨by (with_reducible repeat (first | refine zJ ?_ _ | refine zK ?_ | refine zI ?_ _)); exact BK290.out⟩, ⟨Z101.uB HI0.out NB0_290.out⟩, ⟨yB HK.out GW290.out⟩, ⟨zV HB.out (Z101.ge HI0.out) GE290.out⟩⟩
        rw [if_neg c24] at H
        exact absurd H (by simp)
       rw [if_neg c23] at H
       exact absurd H (by simp)
      rw [if_neg c22] at H
      exact absurd H (by simp)
     rw [if_neg c20] at H
     have c20b0 : (t297 == 0) = false := beq_eq_false_iff_ne.mpr c20
     have c20b1 : (t297 != 0) = true := bne_iff_ne.mpr c20
     obtain ⟨⟨t304, t305, t306⟩, A28, H⟩ := zb H
     try dsimp only at H
     by_cases c29 : x7_1.length < 17592186044416
     ·rw [if_pos c29] at H
      have LMc29 := zA c29
      clear c29
      obtain ⟨y307, hy307⟩ : ∃ y_ : List Int, y_ = (x7_1 ++ [t304]) := ⟨_, rfl⟩
      replace H : (spec_l03Draw.l0 k1 y307 (wrap64 (x8_1 - 1)) s0_0 t305 t306 a1_0 l1_1) = some (r1, r2, r3) := zy hy307 H
      have Ny307 := zA hy307
      clear hy307
      have H' := zA H
      clear H
      obtain ⟨Ao30, co30, eo30⟩ := Kd.R_slice HO_7.out
      subst eo30
      go_wp2_with (first | (go_at_call 79; (with_reducible refine (spec_l01Next.calls g s0_0 x1001_1 x1002_1 8 t297 t298 t299 w0 _ ?side1 ?side2 A19.out).mono ?_); (case side1 => exact Z101.uB HI0.out NB0_290.out); (case side2 => exact zV HB.out (Z101.ge HI0.out) GE290.out); rintro e w31 ⟨rfl, hi, hb, hk⟩; replace HO_7 := zA (Kd.R_mono (Kd.R_keep (Z101.apart (show Z101 w0 _ g s0_0 x1001_1 x1002_1 from Z101.uB HI0.out NB0_290.out) (zP HO_7.out) (by decide)) hk (fun _ h => h.2)) (fun _ h => h.1)); replace BK290 := zA (KeepBut.blk hk (g' := gb290) (o := .cells #[.int .i64 a1_0, .slice A1_1 l1_1.length c1_1] 26 (0, 0)) (zR BK290.out) NB290_0.out (by simp)); replace HK := zA (KeepBut.trans (yB HK.out GW290.out) hk (.inl rfl)); replace HB := zA (hb); replace HI0 := zA (hi); (try clear hb); (try clear hb2); (try clear hk); (try clear hi); (try clear hgw); have hnb32 := NB290_0.out; have hnc32 := NB0_290.out; have hcz33_0 : w31.cell? ⟨gb290, 0, none⟩ = some (.int .i64 a1_0) := (blk_cell BK290.out 0).trans rfl; have hcz33_1 : w31.cell? ⟨gb290, 1, none⟩ = some (.slice A1_1 l1_1.length c1_1) := (blk_cell BK290.out 1).trans rfl; have hfz33_0 := blk_frozen BK290.out 0; have hfz33_1 := blk_frozen BK290.out 1) | ((with_reducible refine gate_callee (f := 79) rfl ?_); refine zO (some 43) Tryd.func79 #[.pointer (some ⟨g, 0, none⟩), .int .i64 a1_0] ?_; (with_reducible refine (spec_l01Next.calls g s0_0 t298 t299 a1_0 t304 t305 t306 w0 _ ?side1 ?side2 A28.out).mono ?_); (case side1 => exact Z101.uB HI0.out NB0_290.out); (case side2 => exact zV HB.out (Z101.ge HI0.out) GE290.out); rintro e w34 ⟨rfl, hi, hb, hk⟩; refine ⟨_, rfl, ?_⟩; replace HO_7 := zA (Kd.R_mono (Kd.R_keep (Z101.apart (show Z101 w0 _ g s0_0 t298 t299 from Z101.uB HI0.out NB0_290.out) (zP HO_7.out) (by decide)) hk (fun _ h => h.2)) (fun _ h => h.1)); replace BK290 := zA (KeepBut.blk hk (g' := gb290) (o := .cells #[.int .i64 a1_0, .slice A1_1 l1_1.length c1_1] 26 (0, 0)) (zR BK290.out) NB290_0.out (by simp)); replace HK := zA (KeepBut.trans (yB HK.out GW290.out) hk (.inl rfl)); replace HB := zA (hb); replace HI0 := zA (hi); (try clear hb); (try clear hb2); (try clear hk); (try clear hi); (try clear hgw)) | ((with_reducible refine gate_builtin (b := .append) (xs := #[.tmp 39, .tmp 44]) rfl ?_); at_builtin; refine Kd.R_append (Kd.int .i64) w.heap.size rfl (.tmp 39) (.tmp 44) 24 2 (.int .i64 0) 8 rfl Tryd.underlying24 info2 rfl (by decide) (by omega) (.slice Ao30 x7_1.length co30) x7_1 t304 [.int .i64 t304] (fun _ => True) (fun _ => False) rfl rfl ?aP (fun _ hk => hk.elim) ?aF ?aO (Below.refl _ _) ?aS ?aL ?_; (case aP => exact rfl); (case aF => exact (fun _ _ => trivial)); (case aO => exact (zP HO_7.out)); (case aS => exact (keep_size (w := w) (g := g) (row := none) (yB HK.out GW290.out))); (case aL => have := LMc29.out; omega); intro v308 w35 ho hb hg hat; rw [← Ny307.out] at ho; replace BK290 := zA (blk_grown (g := gb290) (o := .cells #[.int .i64 a1_0, .slice A1_1 l1_1.length c1_1] 26 (0, 0)) (zR BK290.out) hg (Kd.R_ne HO_7.out BK290.out (by decide))); replace HB := zA (below_weaken (zV HB.out (Z101.ge HI0.out) GE290.out) HL.out hb); replace HI0 := zA (Z101.grown (Z101.uB HI0.out NB0_290.out) hg (Z101.own_ne HI0.out HO_7.out (by decide))); replace HK := zA (KeepBut.trans (yB HK.out GW290.out) (KeepBut.of_grown hg g) (Kd.R_base2 HO_7.out)); have HO309 := zA (ho); clear HO_7; clear ho hb hg hat))
      go_roundg k1
      case measure => have := HK1.out; omega
      case rel => exact ⟨(y307), (wrap64 (x8_1 - 1)), (t305), (t306), (by first | rfl | (simp; done) | (simp [*]; done)), H', ⟨by have := HK1.out; omega⟩, ⟨by (with_reducible repeat (first | apply zF | apply zG | apply zH)); exact HO309.out⟩, ⟨by (with_reducible repeat (first | refine zJ ?_ _ | refine zK ?_ | refine zI ?_ _)); exact BK290.out⟩, ⟨Z101.uB HI0.out NB0_290.out⟩, ⟨yB HK.out GW290.out⟩, ⟨zV HB.out (Z101.ge HI0.out) GE290.out⟩⟩
     rw [if_neg c29] at H
     exact absurd H (by simp)
    rw [if_neg c18] at H
    have c18b0 : decide (0 < (x7_1.length : Int)) = false := decide_eq_false c18
    have c18b1 : decide (0 < x7_1.length) = false := decide_eq_false (by omega)
    clear c18
    obtain ⟨⟨t310, t311, t312⟩, A36, H⟩ := zb H
    try dsimp only at H
    by_cases c37 : x7_1.length < 17592186044416
    ·rw [if_pos c37] at H
     have LMc37 := zA c37
     clear c37
     obtain ⟨y313, hy313⟩ : ∃ y_ : List Int, y_ = (x7_1 ++ [t310]) := ⟨_, rfl⟩
     replace H : (spec_l03Draw.l0 k1 y313 (wrap64 (x8_1 - 1)) s0_0 t311 t312 a1_0 l1_1) = some (r1, r2, r3) := zy hy313 H
     have Ny313 := zA hy313
     clear hy313
     have H' := zA H
     clear H
     obtain ⟨Ao38, co38, eo38⟩ := Kd.R_slice HO_7.out
     subst eo38
     have hnb39 := NB290_0.out
     have hnc39 := NB0_290.out
     have hcz40_0 : wr.cell? ⟨gb290, 0, none⟩ = some (.int .i64 a1_0) := (blk_cell BK290.out 0).trans rfl
     have hcz40_1 : wr.cell? ⟨gb290, 1, none⟩ = some (.slice A1_1 l1_1.length c1_1) := (blk_cell BK290.out 1).trans rfl
     have hfz40_0 := blk_frozen BK290.out 0
     have hfz40_1 := blk_frozen BK290.out 1
     go_wp2_with (first | ((with_reducible refine gate_callee (f := 79) rfl ?_); refine zO (some 43) Tryd.func79 #[.pointer (some ⟨g, 0, none⟩), .int .i64 a1_0] ?_; (with_reducible refine (spec_l01Next.calls g s0_0 x1001_1 x1002_1 a1_0 t310 t311 t312 w0 _ ?side1 ?side2 A36.out).mono ?_); (case side1 => exact Z101.uB HI0.out NB0_290.out); (case side2 => exact zV HB.out (Z101.ge HI0.out) GE290.out); rintro e w41 ⟨rfl, hi, hb, hk⟩; refine ⟨_, rfl, ?_⟩; replace HO_7 := zA (Kd.R_mono (Kd.R_keep (Z101.apart (show Z101 w0 _ g s0_0 x1001_1 x1002_1 from Z101.uB HI0.out NB0_290.out) (zP HO_7.out) (by decide)) hk (fun _ h => h.2)) (fun _ h => h.1)); replace BK290 := zA (KeepBut.blk hk (g' := gb290) (o := .cells #[.int .i64 a1_0, .slice A1_1 l1_1.length c1_1] 26 (0, 0)) (zR BK290.out) NB290_0.out (by simp)); replace HK := zA (KeepBut.trans (yB HK.out GW290.out) hk (.inl rfl)); replace HB := zA (hb); replace HI0 := zA (hi); (try clear hb); (try clear hk); (try clear hi)) | ((with_reducible refine gate_builtin (b := .append) (xs := #[.tmp 39, .tmp 44]) rfl ?_); at_builtin; refine Kd.R_append (Kd.int .i64) w.heap.size rfl (.tmp 39) (.tmp 44) 24 2 (.int .i64 0) 8 rfl Tryd.underlying24 info2 rfl (by decide) (by omega) (.slice Ao38 x7_1.length co38) x7_1 t310 [.int .i64 t310] (fun _ => True) (fun _ => False) rfl rfl ?aP (fun _ hk => hk.elim) ?aF ?aO (Below.refl _ _) ?aS ?aL ?_; (case aP => exact rfl); (case aF => exact (fun _ _ => trivial)); (case aO => exact (zP HO_7.out)); (case aS => exact (keep_size (w := w) (g := g) (row := none) (yB HK.out GW290.out))); (case aL => have := LMc37.out; omega); intro v314 w42 ho hb hg hat; rw [← Ny313.out] at ho; replace BK290 := zA (blk_grown (g := gb290) (o := .cells #[.int .i64 a1_0, .slice A1_1 l1_1.length c1_1] 26 (0, 0)) (zR BK290.out) hg (Kd.R_ne HO_7.out BK290.out (by decide))); replace HB := zA (below_weaken (zV HB.out (Z101.ge HI0.out) GE290.out) HL.out hb); replace HI0 := zA (Z101.grown (Z101.uB HI0.out NB0_290.out) hg (Z101.own_ne HI0.out HO_7.out (by decide))); replace HK := zA (KeepBut.trans (yB HK.out GW290.out) (KeepBut.of_grown hg g) (Kd.R_base2 HO_7.out)); have HO315 := zA (ho); clear HO_7; clear ho hb hg hat))
     go_roundg k1
     case measure => have := HK1.out; omega
     case rel => exact ⟨(y313), (wrap64 (x8_1 - 1)), (t311), (t312), (by first | rfl | (simp; done) | (simp [*]; done)), H', ⟨by have := HK1.out; omega⟩, ⟨by (with_reducible repeat (first | apply zF | apply zG | apply zH)); exact HO315.out⟩, ⟨by (with_reducible repeat (first | refine zJ ?_ _ | refine zK ?_ | refine zI ?_ _)); exact BK290.out⟩, ⟨Z101.uB HI0.out NB0_290.out⟩, ⟨yB HK.out GW290.out⟩, ⟨zV HB.out (Z101.ge HI0.out) GE290.out⟩⟩
    rw [if_neg c37] at H
    exact absurd H (by simp)
   rw [if_neg c17] at H
   have c17b0 : decide (0 < x8_1) = false := decide_eq_false c17
   clear c17
   simp only [Option.some.injEq, Prod.mk.injEq] at H
   obtain ⟨rfl, rfl, rfl⟩ := H
   go_wp2
   go_ret
   exact ⟨_, zr, zP HO_7.out, by repeat (first | (with_reducible first | exact HI0.out | apply Z101.alloc | apply Z101.drewN | apply Z101.drew | apply Z101.set_1 | apply Z101.set_2 | refine Z101.far ?_ NB0_290.out _) | exact HI0.out), zV HB.out (Z101.ge HI0.out) GE290.out, by repeat (first | (with_reducible first | exact HK.out | apply KeepBut.set_ | apply keep_drewN | apply keep_drew | apply keep_alloc | refine keep_far ?_ GW290.out _) | exact HK.out)⟩

/-! ### spec_l03Spoil: function 99 -/
def spec_l03Spoil.l0 : Nat → List Int → List Int → Int → Int → Int → List Int → Option (List Int × Int × Int)
 | 0, _, _, _, _, _, _ => none
 | k + 1, x7, x1000, x1001, x1002, x317000, x317001 => if x317000 > 0 then (if (x7.length : Int) < 25 then ((spec_l01Next.f x1000 x1001 x1002 x317000).bind fun bt338 => (if x7.length < 17592186044416 then (spec_l03Spoil.l0 k (x7 ++ [bt338.1]) x1000 bt338.2.1 bt338.2.2 x317000 x317001) else (none))) else (some (x7, x1001, x1002))) else (some (x7, x1001, x1002))
def spec_l03Spoil.f (k : Nat) (s0_0 : List Int) (s0_1 : Int) (s0_2 : Int) (a1_0 : Int) (l1_1 : List Int) (a2 : Int) : Option (List Int × Int × Int) := (spec_l02Is.f k a1_0 l1_1).bind fun t317 => (if t317 = true then ((spec_l03Draw.f k s0_0 s0_1 s0_2 a1_0 l1_1 a2).bind fun bt321 => ((spec_l01Next.f s0_0 bt321.2.1 bt321.2.2 28).bind fun bt326 => (if bt326.1 = 0 then ((spec_l01Pick.f s0_0 bt326.2.1 bt326.2.2 (([(-1), a1_0, 1099511627776] : List Int))).bind fun bt332 => (if bt321.1.length < 17592186044416 then (some ((bt321.1 ++ [bt332.1]), bt332.2.1, bt332.2.2)) else (none))) else (if bt326.1 = 1 then (spec_l03Spoil.l0 k bt321.1 s0_0 bt326.2.1 bt326.2.2 a1_0 l1_1) else (some (bt321.1, bt326.2.1, bt326.2.2)))))) else (some ((([0, 1, 0] : List Int)), s0_1, s0_2)))

set_option maxHeartbeats 8000000 in
set_option maxRecDepth 100000 in
theorem spec_l03Spoil.calls (k : Nat) (g : Nat) (s0_0 : List Int) (s0_1 : Int) (s0_2 : Int) (a1_0 : Int) (A1_1 : Option Addr) (c1_1 : Nat) (l1_1 : List Int) (a2 : Int) (r1 : List Int) (r2 : Int) (r3 : Int) (w0 w : World) (hI : Z101 w0 w g s0_0 s0_1 s0_2) (hB : Below w0.heap.size w0 w) (hr1_1 : Kd.C (Kd.int .i64) w A1_1 l1_1.length l1_1) (hc1_1 : l1_1.length ≤ c1_1) (hf1_1 : ∀ ad, A1_1 = some ad → 0 < l1_1.length → ad.block ≠ g) (h : spec_l03Spoil.f k s0_0 s0_1 s0_2 a1_0 l1_1 a2 = some (r1, r2, r3)) :
  Calls Tryd.prog 99 #[.pointer (some ⟨g, 0, none⟩), .agg #[.int .i64 a1_0, .slice A1_1 l1_1.length c1_1], .int .i64 a2] w fun e w' => ∃ v0_ : Value, e = .returned (v0_) ∧ Kd.R (Kd.int .i64) 2 w' w.heap.size (fun _ => True) v0_ r1 ∧ Z101 w0 w' g s0_0 r2 r3 ∧ Below w0.heap.size w0 w' ∧ KeepBut w w' g none := by
 have hu26 := Tryd.underlying26
 have HR1_1 := zA hr1_1
 have HC1_1 := zA hc1_1
 clear hr1_1 hc1_1
 have HI0 := zA hI
 have HK := zA (KeepBut.refl w g none)
 have HL := zA hB.size
 clear hI
 have HW0 := zA hB.size
 have HB := zA hB
 clear hB
 have H : ((spec_l02Is.f k a1_0 l1_1).bind fun t317 => (if t317 = true then ((spec_l03Draw.f k s0_0 s0_1 s0_2 a1_0 l1_1 a2).bind fun bt321 => ((spec_l01Next.f s0_0 bt321.2.1 bt321.2.2 28).bind fun bt326 => (if bt326.1 = 0 then ((spec_l01Pick.f s0_0 bt326.2.1 bt326.2.2 (([(-1), a1_0, 1099511627776] : List Int))).bind fun bt332 => (if bt321.1.length < 17592186044416 then (some ((bt321.1 ++ [bt332.1]), bt332.2.1, bt332.2.2)) else (none))) else (if bt326.1 = 1 then (spec_l03Spoil.l0 k bt321.1 s0_0 bt326.2.1 bt326.2.2 a1_0 l1_1) else (some (bt321.1, bt326.2.1, bt326.2.2)))))) else (some ((([0, 1, 0] : List Int)), s0_1, s0_2)))) = some (r1, r2, r3) := h
 clear h
 obtain ⟨t317, A4, H⟩ := zb H
 try dsimp only at H
 by_cases c5 : t317 = true
 ·subst c5
  have H1 : ((spec_l03Draw.f k s0_0 s0_1 s0_2 a1_0 l1_1 a2).bind fun bt321 => ((spec_l01Next.f s0_0 bt321.2.1 bt321.2.2 28).bind fun bt326 => (if bt326.1 = 0 then ((spec_l01Pick.f s0_0 bt326.2.1 bt326.2.2 (([(-1), a1_0, 1099511627776] : List Int))).bind fun bt332 => (if bt321.1.length < 17592186044416 then (some ((bt321.1 ++ [bt332.1]), bt332.2.1, bt332.2.2)) else (none))) else (if bt326.1 = 1 then (spec_l03Spoil.l0 k bt321.1 s0_0 bt326.2.1 bt326.2.2 a1_0 l1_1) else (some (bt321.1, bt326.2.1, bt326.2.2)))))) = some (r1, r2, r3) := by rw [if_pos rfl] at H; exact H
  clear H
  have H := H1
  clear H1
  obtain ⟨⟨t321, t324, t325⟩, A6, H⟩ := zb H
  try dsimp only at H
  obtain ⟨⟨t326, t327, t328⟩, A7, H⟩ := zb H
  try dsimp only at H
  by_cases c8 : t326 = 0
  ·rw [if_pos c8] at H
   have c8b0 : (t326 == 0) = true := beq_iff_eq.mpr c8
   have c8b1 : (t326 != 0) = false := bne_eq_false_iff_eq.mpr c8
   clear c8
   obtain ⟨y329, hy329⟩ : ∃ y_ : List Int, y_ = (([(-1), a1_0, 1099511627776] : List Int)) := ⟨_, rfl⟩
   replace H : ((spec_l01Pick.f s0_0 t327 t328 y329).bind fun bt332 => (if t321.length < 17592186044416 then (some ((t321 ++ [bt332.1]), bt332.2.1, bt332.2.2)) else (none))) = some (r1, r2, r3) := zy hy329 H
   have Ny329 := zA hy329
   clear hy329
   obtain ⟨⟨t332, t333, t334⟩, A9, H⟩ := zb H
   try dsimp only at H
   by_cases c10 : t321.length < 17592186044416
   ·rw [if_pos c10] at H
    have LMc10 := zA c10
    clear c10
    obtain ⟨y335, hy335⟩ : ∃ y_ : List Int, y_ = (t321 ++ [t332]) := ⟨_, rfl⟩
    replace H : (some (y335, t333, t334)) = some (r1, r2, r3) := zy hy335 H
    have Ny335 := zA hy335
    clear hy335
    simp only [Option.some.injEq, Prod.mk.injEq] at H
    obtain ⟨rfl, rfl, rfl⟩ := H
    go_enter Tryd.func99, Tryd.ntmps99
    go_wp2_with (first | ((with_reducible refine gate_dst (N := 4) rfl ?_); refine box_event ?hg (N := 4) ?hd (cs := #[.int .i64 a1_0, .slice A1_1 l1_1.length c1_1]) (t := 26) ?hr ?_; (case hd => rfl); (case hg => rfl); (case hr => first | (go_simp; done) | (go_simp; rfl)); intro gb316 hg w11 hbox hb; replace HB := zA (below_step (zT HB.out (Z101.ge HI0.out)) hb); have BK316 := zA (hbox); have GW316 := zA ((by rw [hg]; exact (keep_size (w := w) (g := g) (row := none) (yA HK.out)) : w.heap.size ≤ gb316)); have GE316 := zA ((Nat.le_trans HW0.out (by rw [hg]; exact (keep_size (w := w) (g := g) (row := none) (yA HK.out)) : w.heap.size ≤ gb316) : w0.heap.size ≤ gb316)); replace HK := zA (KeepBut.trans (yA HK.out) (KeepBut.of_below hb g none) (.inl rfl)); have NB0_316 := zA ((by rw [hg]; exact Nat.ne_of_lt (Z101.lt (show Z101 w0 _ g s0_0 s0_1 s0_2 from Z101.uA HI0.out)) : g ≠ gb316)); have NB316_0 := zA ((by rw [hg]; exact Nat.ne_of_gt (Z101.lt (show Z101 w0 _ g s0_0 s0_1 s0_2 from Z101.uA HI0.out)) : gb316 ≠ g)); replace HI0 := zA (Z101.below (Z101.uA HI0.out) hb); clear hb hbox hg; have hnb12 := NB316_0.out; have hnc12 := NB0_316.out; have hcz13_0 : w11.cell? ⟨gb316, 0, none⟩ = some (.int .i64 a1_0) := (blk_cell BK316.out 0).trans rfl; have hcz13_1 : w11.cell? ⟨gb316, 1, none⟩ = some (.slice A1_1 l1_1.length c1_1) := (blk_cell BK316.out 1).trans rfl; have hfz13_0 := blk_frozen BK316.out 0; have hfz13_1 := blk_frozen BK316.out 1) | ((with_reducible refine gate_callee (f := 106) rfl ?_); refine zO (some 9) Tryd.func106 #[.agg #[.int .i64 a1_0, .slice A1_1 l1_1.length c1_1]] ?_; (with_reducible refine (spec_l02Is.calls k a1_0 _ _ l1_1 true _ ?side1 ?side2 A4.out).mono ?_); (case side1 => exact Kd.C_keep 0 HR1_1.out (yB HK.out GW316.out) hf1_1); (case side2 => exact HC1_1.out); rintro e w14 ⟨rfl, hb⟩; refine ⟨_, rfl, ?_⟩; replace BK316 := zA (blk_below (g := gb316) (o := .cells #[.int .i64 a1_0, .slice A1_1 l1_1.length c1_1] 26 (0, 0)) (zR BK316.out) hb); replace HK := zA (KeepBut.trans (yB HK.out GW316.out) (KeepBut.of_below hb g none) (.inl rfl)); replace HB := zA (below_step (zV HB.out (Z101.ge HI0.out) GE316.out) hb); replace HI0 := zA (Z101.below (Z101.uB HI0.out NB0_316.out) hb); (try clear hb); have hcz15_0 : w14.cell? ⟨gb316, 0, none⟩ = some (.int .i64 a1_0) := (blk_cell BK316.out 0).trans rfl; have hcz15_1 : w14.cell? ⟨gb316, 1, none⟩ = some (.slice A1_1 l1_1.length c1_1) := (blk_cell BK316.out 1).trans rfl; have hfz15_0 := blk_frozen BK316.out 0; have hfz15_1 := blk_frozen BK316.out 1) | ((with_reducible refine gate_callee (f := 123) rfl ?_); refine zO (some 15) Tryd.func123 #[.pointer (some ⟨g, 0, none⟩), .agg #[.int .i64 a1_0, .slice A1_1 l1_1.length c1_1], .int .i64 a2] ?_; (with_reducible refine (spec_l03Draw.calls k g s0_0 s0_1 s0_2 a1_0 _ _ l1_1 a2 t321 t324 t325 w0 _ ?side1 ?side2 ?side3 ?side4 ?side5 A6.out).mono ?_); (case side1 => exact Z101.uB HI0.out NB0_316.out); (case side2 => exact zV HB.out (Z101.ge HI0.out) GE316.out); (case side3 => exact Kd.C_keep 0 HR1_1.out (yB HK.out GW316.out) hf1_1); (case side4 => exact HC1_1.out); (case side5 => exact hf1_1); rintro e w16 ⟨v322, rfl, ho0, hi, hb, hk⟩; refine ⟨_, rfl, ?_⟩; replace BK316 := zA (KeepBut.blk hk (g' := gb316) (o := .cells #[.int .i64 a1_0, .slice A1_1 l1_1.length c1_1] 26 (0, 0)) (zR BK316.out) NB316_0.out (by simp)); have HO323 := zA (Kd.R_lower ho0 (keep_size (w := w) (g := g) (row := none) (yB HK.out GW316.out))); replace HK := zA (KeepBut.trans (yB HK.out GW316.out) hk (.inl rfl)); replace HB := zA (hb); replace HI0 := zA (hi); (try clear hb); (try clear hk); (try clear hi); (try clear ho0)) | ((with_reducible refine gate_callee (f := 79) rfl ?_); refine zO (some 17) Tryd.func79 #[.pointer (some ⟨g, 0, none⟩), .int .i64 28] ?_; (with_reducible refine (spec_l01Next.calls g s0_0 t324 t325 28 t326 t327 t328 w0 _ ?side1 ?side2 A7.out).mono ?_); (case side1 => exact Z101.uB HI0.out NB0_316.out); (case side2 => exact zV HB.out (Z101.ge HI0.out) GE316.out); rintro e w17 ⟨rfl, hi, hb, hk⟩; refine ⟨_, rfl, ?_⟩; replace BK316 := zA (KeepBut.blk hk (g' := gb316) (o := .cells #[.int .i64 a1_0, .slice A1_1 l1_1.length c1_1] 26 (0, 0)) (zR BK316.out) NB316_0.out (by simp)); replace HO323 := zA (Kd.R_mono (Kd.R_keep (Z101.apart (show Z101 w0 _ g s0_0 t324 t325 from Z101.uB HI0.out NB0_316.out) (zP HO323.out) (by decide)) hk (fun _ h => h.2)) (fun _ h => h.1)); replace HK := zA (KeepBut.trans (yB HK.out GW316.out) hk (.inl rfl)); replace HB := zA (hb); replace HI0 := zA (hi); (try clear hb); (try clear hk); (try clear hi); have hcz18_0 : w17.cell? ⟨gb316, 0, none⟩ = some (.int .i64 a1_0) := (blk_cell BK316.out 0).trans rfl; have hcz18_1 : w17.cell? ⟨gb316, 1, none⟩ = some (.slice A1_1 l1_1.length c1_1) := (blk_cell BK316.out 1).trans rfl; have hfz18_0 := blk_frozen BK316.out 0; have hfz18_1 := blk_frozen BK316.out 1) | ((with_reducible refine gate_dst (N := 24) rfl ?_); refine Kd.R_lit (Kd.int .i64) _ 2 ?hg (N := 24) ?hd (xs := ([(-1), a1_0, 1099511627776] : List Int)) (inner := [.int .i64 (-1), .int .i64 a1_0, .int .i64 1099511627776]) (ok := fun _ => True) (okp := fun _ => True) ?hr ?hp (fun _ hk => hk) trivial (Below.refl _ _) (Nat.le_refl _) (by simp) ?_; (case hd => rfl); (case hg => rfl); (case hr => first | (go_simp; done) | (go_simp; rfl)); (case hp => exact (Reps.one (show Kd.M (Kd.int .i64) _ _ _ (-1) [.int .i64 (-1)] from rfl) (Reps.one (show Kd.M (Kd.int .i64) _ _ _ a1_0 [.int .i64 a1_0] from rfl) (Reps.one (show Kd.M (Kd.int .i64) _ _ _ 1099511627776 [.int .i64 1099511627776] from rfl) (Reps.none _ _))))); intro v330 w19 ho20 hb hg_ hnew_; clear hg_ hnew_; (first | rw [← Ny329.out] at ho20 | (simp only [Int.reduceToNat] at ho20; rw [← Ny329.out] at ho20)); have HO331 := zA (Kd.R_lower (Kd.R_new' ho20 (Kd.R_lt (zP HO323.out))) (keep_size (w := w) (g := g) (row := none) (yB HK.out GW316.out))); replace HO323 := zA (Kd.R_elder' (zP HO323.out) (Kd.R_base ho20) hb); replace BK316 := zA (blk_below (g := gb316) (o := .cells #[.int .i64 a1_0, .slice A1_1 l1_1.length c1_1] 26 (0, 0)) (zR BK316.out) hb); replace HK := zA (KeepBut.trans (yB HK.out GW316.out) (KeepBut.of_below hb g none) (.inl rfl)); replace HB := zA (below_step (zV HB.out (Z101.ge HI0.out) GE316.out) hb); replace HI0 := zA (Z101.below (Z101.uB HI0.out NB0_316.out) hb); clear hb ho20; obtain ⟨Ao21, co21, eo21⟩ := Kd.R_slice HO331.out; subst eo21) | ((with_reducible refine gate_callee (f := 81) rfl ?_); refine zO (some 25) Tryd.func81 #[.pointer (some ⟨g, 0, none⟩), .slice Ao21 y329.length co21] ?_; (with_reducible refine (spec_l01Pick.calls g s0_0 t327 t328 _ _ y329 t332 t333 t334 w0 _ ?side1 ?side2 ?side3 ?side4 ?side5 A9.out).mono ?_); (case side1 => exact Z101.uB HI0.out NB0_316.out); (case side2 => exact zV HB.out (Z101.ge HI0.out) GE316.out); (case side3 => exact zS (Kd.R_reads' HO331.out).2.2); (case side4 => exact (Kd.R_reads' HO331.out).2.1); (case side5 => exact far_slice (Z101.own_ne HI0.out HO331.out (by decide))); rintro e w22 ⟨rfl, hi, hb, hk⟩; refine ⟨_, rfl, ?_⟩; replace BK316 := zA (KeepBut.blk hk (g' := gb316) (o := .cells #[.int .i64 a1_0, .slice A1_1 l1_1.length c1_1] 26 (0, 0)) (zR BK316.out) NB316_0.out (by simp)); replace HO323 := zA (Kd.R_mono (Kd.R_keep (Z101.apart (show Z101 w0 _ g s0_0 t327 t328 from Z101.uB HI0.out NB0_316.out) (zP HO323.out) (by decide)) hk (fun _ h => h.2)) (fun _ h => h.1)); replace HO331 := zA (Kd.R_mono (Kd.R_keep (Z101.apart (show Z101 w0 _ g s0_0 t327 t328 from Z101.uB HI0.out NB0_316.out) (zP HO331.out) (by decide)) hk (fun _ h => h.2)) (fun _ h => h.1)); replace HK := zA (KeepBut.trans (yB HK.out GW316.out) hk (.inl rfl)); replace HB := zA (hb); replace HI0 := zA (hi); (try clear hb); (try clear hk); (try clear hi)) | ((with_reducible refine gate_builtin (b := .append) (xs := #[.tmp 20, .tmp 26]) rfl ?_); at_builtin; refine Kd.R_append (Kd.int .i64) w.heap.size rfl (.tmp 20) (.tmp 26) 24 2 (.int .i64 0) 8 rfl Tryd.underlying24 info2 rfl (by decide) (by omega) v322 t321 t332 [.int .i64 t332] (fun k_ => some k_ ≠ (.slice Ao21 y329.length co21 : Value).ownBlock) (fun _ => False) rfl rfl ?aP (fun _ hk => hk.elim) ?aF ?aO (Below.refl _ _) ?aS ?aL ?_; (case aP => exact rfl); (case aF => exact (fun k_ hk => Kd.fresh' (Kd.R_lt (zP HO331.out)) k_ hk)); (case aO => exact (by (with_reducible repeat (first | apply zF | apply zG | apply zH)); exact Kd.R_mono HO323.out (fun _ hk => hk.2))); (case aS => exact (keep_size (w := w) (g := g) (row := none) (yB HK.out GW316.out))); (case aL => have := LMc10.out; omega); intro v336 w23 ho hb hg hat; rw [← Ny335.out] at ho; replace BK316 := zA (blk_grown (g := gb316) (o := .cells #[.int .i64 a1_0, .slice A1_1 l1_1.length c1_1] 26 (0, 0)) (zR BK316.out) hg (Kd.R_ne HO323.out BK316.out (by decide))); replace HO331 := zA (Kd.R_after (ok := (fun _ => True)) (zP HO331.out) hg hat); replace HB := zA (below_weaken (zV HB.out (Z101.ge HI0.out) GE316.out) HL.out hb); replace HI0 := zA (Z101.grown (Z101.uB HI0.out NB0_316.out) hg (Z101.own_ne HI0.out HO323.out (by decide))); replace HK := zA (KeepBut.trans (yB HK.out GW316.out) (KeepBut.of_grown hg g) (Kd.R_base2 HO323.out)); have HO337 := zA (ho); clear HO323; clear ho hb hg hat))
    go_ret
    exact ⟨_, zr, by (with_reducible repeat (first | apply zF | apply zG | apply zH)); exact Kd.R_mono HO337.out (fun _ hk => trivial), by repeat (first | (with_reducible first | exact HI0.out | apply Z101.alloc | apply Z101.drewN | apply Z101.drew | apply Z101.set_1 | apply Z101.set_2 | refine Z101.far ?_ NB0_316.out _) | exact HI0.out), zV HB.out (Z101.ge HI0.out) GE316.out, by repeat (first | (with_reducible first | exact HK.out | apply KeepBut.set_ | apply keep_drewN | apply keep_drew | apply keep_alloc | refine keep_far ?_ GW316.out _) | exact HK.out)⟩
   rw [if_neg c10] at H
   exact absurd H (by simp)
  rw [if_neg c8] at H
  have c8b0 : (t326 == 0) = false := beq_eq_false_iff_ne.mpr c8
  have c8b1 : (t326 != 0) = true := bne_iff_ne.mpr c8
  by_cases c24 : t326 = 1
  ·rw [if_pos c24] at H
   have c24b0 : (t326 == 1) = true := beq_iff_eq.mpr c24
   have c24b1 : (t326 != 1) = false := bne_eq_false_iff_eq.mpr c24
   clear c24
   have H' := zA H
   clear H
   go_enter Tryd.func99, Tryd.ntmps99
   go_wp2_with (first | ((with_reducible refine gate_dst (N := 4) rfl ?_); refine box_event ?hg (N := 4) ?hd (cs := #[.int .i64 a1_0, .slice A1_1 l1_1.length c1_1]) (t := 26) ?hr ?_; (case hd => rfl); (case hg => rfl); (case hr => first | (go_simp; done) | (go_simp; rfl)); intro gb316 hg w25 hbox hb; replace HB := zA (below_step (zT HB.out (Z101.ge HI0.out)) hb); have BK316 := zA (hbox); have GW316 := zA ((by rw [hg]; exact (keep_size (w := w) (g := g) (row := none) (yA HK.out)) : w.heap.size ≤ gb316)); have GE316 := zA ((Nat.le_trans HW0.out (by rw [hg]; exact (keep_size (w := w) (g := g) (row := none) (yA HK.out)) : w.heap.size ≤ gb316) : w0.heap.size ≤ gb316)); replace HK := zA (KeepBut.trans (yA HK.out) (KeepBut.of_below hb g none) (.inl rfl)); have NB0_316 := zA ((by rw [hg]; exact Nat.ne_of_lt (Z101.lt (show Z101 w0 _ g s0_0 s0_1 s0_2 from Z101.uA HI0.out)) : g ≠ gb316)); have NB316_0 := zA ((by rw [hg]; exact Nat.ne_of_gt (Z101.lt (show Z101 w0 _ g s0_0 s0_1 s0_2 from Z101.uA HI0.out)) : gb316 ≠ g)); replace HI0 := zA (Z101.below (Z101.uA HI0.out) hb); clear hb hbox hg; have hnb26 := NB316_0.out; have hnc26 := NB0_316.out; have hcz27_0 : w25.cell? ⟨gb316, 0, none⟩ = some (.int .i64 a1_0) := (blk_cell BK316.out 0).trans rfl; have hcz27_1 : w25.cell? ⟨gb316, 1, none⟩ = some (.slice A1_1 l1_1.length c1_1) := (blk_cell BK316.out 1).trans rfl; have hfz27_0 := blk_frozen BK316.out 0; have hfz27_1 := blk_frozen BK316.out 1) | ((with_reducible refine gate_callee (f := 106) rfl ?_); refine zO (some 9) Tryd.func106 #[.agg #[.int .i64 a1_0, .slice A1_1 l1_1.length c1_1]] ?_; (with_reducible refine (spec_l02Is.calls k a1_0 _ _ l1_1 true _ ?side1 ?side2 A4.out).mono ?_); (case side1 => exact Kd.C_keep 0 HR1_1.out (yB HK.out GW316.out) hf1_1); (case side2 => exact HC1_1.out); rintro e w28 ⟨rfl, hb⟩; refine ⟨_, rfl, ?_⟩; replace BK316 := zA (blk_below (g := gb316) (o := .cells #[.int .i64 a1_0, .slice A1_1 l1_1.length c1_1] 26 (0, 0)) (zR BK316.out) hb); replace HK := zA (KeepBut.trans (yB HK.out GW316.out) (KeepBut.of_below hb g none) (.inl rfl)); replace HB := zA (below_step (zV HB.out (Z101.ge HI0.out) GE316.out) hb); replace HI0 := zA (Z101.below (Z101.uB HI0.out NB0_316.out) hb); (try clear hb); have hcz29_0 : w28.cell? ⟨gb316, 0, none⟩ = some (.int .i64 a1_0) := (blk_cell BK316.out 0).trans rfl; have hcz29_1 : w28.cell? ⟨gb316, 1, none⟩ = some (.slice A1_1 l1_1.length c1_1) := (blk_cell BK316.out 1).trans rfl; have hfz29_0 := blk_frozen BK316.out 0; have hfz29_1 := blk_frozen BK316.out 1) | ((with_reducible refine gate_callee (f := 123) rfl ?_); refine zO (some 15) Tryd.func123 #[.pointer (some ⟨g, 0, none⟩), .agg #[.int .i64 a1_0, .slice A1_1 l1_1.length c1_1], .int .i64 a2] ?_; (with_reducible refine (spec_l03Draw.calls k g s0_0 s0_1 s0_2 a1_0 _ _ l1_1 a2 t321 t324 t325 w0 _ ?side1 ?side2 ?side3 ?side4 ?side5 A6.out).mono ?_); (case side1 => exact Z101.uB HI0.out NB0_316.out); (case side2 => exact zV HB.out (Z101.ge HI0.out) GE316.out); (case side3 => exact Kd.C_keep 0 HR1_1.out (yB HK.out GW316.out) hf1_1); (case side4 => exact HC1_1.out); (case side5 => exact hf1_1); rintro e w30 ⟨v322, rfl, ho0, hi, hb, hk⟩; refine ⟨_, rfl, ?_⟩; replace BK316 := zA (KeepBut.blk hk (g' := gb316) (o := .cells #[.int .i64 a1_0, .slice A1_1 l1_1.length c1_1] 26 (0, 0)) (zR BK316.out) NB316_0.out (by simp)); have HO323 := zA (Kd.R_lower ho0 (keep_size (w := w) (g := g) (row := none) (yB HK.out GW316.out))); replace HK := zA (KeepBut.trans (yB HK.out GW316.out) hk (.inl rfl)); replace HB := zA (hb); replace HI0 := zA (hi); (try clear hb); (try clear hk); (try clear hi); (try clear ho0)) | ((with_reducible refine gate_callee (f := 79) rfl ?_); refine zO (some 17) Tryd.func79 #[.pointer (some ⟨g, 0, none⟩), .int .i64 28] ?_; (with_reducible refine (spec_l01Next.calls g s0_0 t324 t325 28 t326 t327 t328 w0 _ ?side1 ?side2 A7.out).mono ?_); (case side1 => exact Z101.uB HI0.out NB0_316.out); (case side2 => exact zV HB.out (Z101.ge HI0.out) GE316.out); rintro e w31 ⟨rfl, hi, hb, hk⟩; refine ⟨_, rfl, ?_⟩; replace BK316 := zA (KeepBut.blk hk (g' := gb316) (o := .cells #[.int .i64 a1_0, .slice A1_1 l1_1.length c1_1] 26 (0, 0)) (zR BK316.out) NB316_0.out (by simp)); replace HO323 := zA (Kd.R_mono (Kd.R_keep (Z101.apart (show Z101 w0 _ g s0_0 t324 t325 from Z101.uB HI0.out NB0_316.out) (zP HO323.out) (by decide)) hk (fun _ h => h.2)) (fun _ h => h.1)); replace HK := zA (KeepBut.trans (yB HK.out GW316.out) hk (.inl rfl)); replace HB := zA (hb); replace HI0 := zA (hi); (try clear hb); (try clear hk); (try clear hi)))
   go_loopg [7] k (fun kq v7 w' => ∃ (x7_1 : List Int) (x1001_1 : Int) (x1002_1 : Int), Aside0 (spec_l03Spoil.l0 kq x7_1 s0_0 x1001_1 x1002_1 a1_0 l1_1 = some (r1, r2, r3)) ∧ Aside0 (kq ≤ k) ∧ Aside0 (Kd.R (Kd.int .i64) 2 w' w.heap.size (fun _ => True) v7 x7_1) ∧ Aside0 (w'.heap[gb316]? = some (.cells #[.int .i64 a1_0, (.slice A1_1 l1_1.length c1_1)] 26 (0, 0))) ∧ Aside0 (Z101 w0 w' g s0_0 x1001_1 x1002_1) ∧ Aside0 (KeepBut w w' g none) ∧ Aside0 (Below w0.heap.size w0 w'))
   case atStart => exact ⟨(t321), (t327), (t328), H', ⟨Nat.le_refl _⟩, ⟨by (with_reducible repeat (first | apply zF | apply zG | apply zH)); exact HO323.out⟩, ⟨by (with_reducible repeat (first | refine zJ ?_ _ | refine zK ?_ | refine zI ?_ _)); exact BK316.out⟩, ⟨Z101.uB HI0.out NB0_316.out⟩, ⟨yB HK.out GW316.out⟩, ⟨zV HB.out (Z101.ge HI0.out) GE316.out⟩⟩
   case round =>
    clear H'
    try clear c1
    try clear c2
    try clear p2
    try clear c5
    try clear c7
    try clear c8
    try clear c8b0
    try clear c8b1
    try clear c9
    try clear c10
    try clear c12
    try clear c24
    try clear c24b0
    try clear c24b1
    try clear c26
    try clear hcz13_0
    try clear hcz13_1
    try clear hcz15_0
    try clear hcz15_1
    try clear hcz18_0
    try clear hcz18_1
    try clear hcz27_0
    try clear hcz27_1
    try clear hcz29_0
    try clear hcz29_1
    try clear hfz13_0
    try clear hfz13_1
    try clear hfz15_0
    try clear hfz15_1
    try clear hfz18_0
    try clear hfz18_1
    try clear hfz27_0
    try clear hfz27_1
    try clear hfz29_0
    try clear hfz29_1
    obtain ⟨x7_1, x1001_1, x1002_1, HA, HK1, HO_7, BK316, HI0, HK, HB⟩ := hrel
    cases gk with
    | zero => exact absurd HA.out (by simp [spec_l03Spoil.l0])
    | succ k1 =>
     have H := HA.out
     clear HA
     simp only [spec_l03Spoil.l0] at H
     by_cases c32 : a1_0 > 0
     ·rw [if_pos c32] at H
      have c32b0 : decide (0 < a1_0) = true := decide_eq_true c32
      clear c32
      by_cases c33 : (x7_1.length : Int) < 25
      ·rw [if_pos c33] at H
       have c33b0 : decide ((x7_1.length : Int) < 25) = true := decide_eq_true c33
       have c33b1 : decide (x7_1.length < 25) = true := decide_eq_true (by omega)
       clear c33
       obtain ⟨⟨t338, t339, t340⟩, A34, H⟩ := zb H
       try dsimp only at H
       by_cases c35 : x7_1.length < 17592186044416
       ·rw [if_pos c35] at H
        have LMc35 := zA c35
        clear c35
        obtain ⟨y341, hy341⟩ : ∃ y_ : List Int, y_ = (x7_1 ++ [t338]) := ⟨_, rfl⟩
        replace H : (spec_l03Spoil.l0 k1 y341 s0_0 t339 t340 a1_0 l1_1) = some (r1, r2, r3) := zy hy341 H
        have Ny341 := zA hy341
        clear hy341
        have H' := zA H
        clear H
        have hnb36 := NB316_0.out
        have hnc36 := NB0_316.out
        have hcz37_0 : wr.cell? ⟨gb316, 0, none⟩ = some (.int .i64 a1_0) := (blk_cell BK316.out 0).trans rfl
        have hcz37_1 : wr.cell? ⟨gb316, 1, none⟩ = some (.slice A1_1 l1_1.length c1_1) := (blk_cell BK316.out 1).trans rfl
        have hfz37_0 := blk_frozen BK316.out 0
        have hfz37_1 := blk_frozen BK316.out 1
        obtain ⟨Ao38, co38, eo38⟩ := Kd.R_slice HO_7.out
        subst eo38
        go_wp2_with (first | ((with_reducible refine gate_callee (f := 79) rfl ?_); refine zO (some 42) Tryd.func79 #[.pointer (some ⟨g, 0, none⟩), .int .i64 a1_0] ?_; (with_reducible refine (spec_l01Next.calls g s0_0 x1001_1 x1002_1 a1_0 t338 t339 t340 w0 _ ?side1 ?side2 A34.out).mono ?_); (case side1 => exact Z101.uB HI0.out NB0_316.out); (case side2 => exact zV HB.out (Z101.ge HI0.out) GE316.out); rintro e w39 ⟨rfl, hi, hb, hk⟩; refine ⟨_, rfl, ?_⟩; replace HO_7 := zA (Kd.R_mono (Kd.R_keep (Z101.apart (show Z101 w0 _ g s0_0 x1001_1 x1002_1 from Z101.uB HI0.out NB0_316.out) (zP HO_7.out) (by decide)) hk (fun _ h => h.2)) (fun _ h => h.1)); replace BK316 := zA (KeepBut.blk hk (g' := gb316) (o := .cells #[.int .i64 a1_0, .slice A1_1 l1_1.length c1_1] 26 (0, 0)) (zR BK316.out) NB316_0.out (by simp)); replace HK := zA (KeepBut.trans (yB HK.out GW316.out) hk (.inl rfl)); replace HB := zA (hb); replace HI0 := zA (hi); (try clear hb); (try clear hk); (try clear hi)) | ((with_reducible refine gate_builtin (b := .append) (xs := #[.tmp 38, .tmp 43]) rfl ?_); at_builtin; refine Kd.R_append (Kd.int .i64) w.heap.size rfl (.tmp 38) (.tmp 43) 24 2 (.int .i64 0) 8 rfl Tryd.underlying24 info2 rfl (by decide) (by omega) (.slice Ao38 x7_1.length co38) x7_1 t338 [.int .i64 t338] (fun _ => True) (fun _ => False) rfl rfl ?aP (fun _ hk => hk.elim) ?aF ?aO (Below.refl _ _) ?aS ?aL ?_; (case aP => exact rfl); (case aF => exact (fun _ _ => trivial)); (case aO => exact (zP HO_7.out)); (case aS => exact (keep_size (w := w) (g := g) (row := none) (yB HK.out GW316.out))); (case aL => have := LMc35.out; omega); intro v342 w40 ho hb hg hat; rw [← Ny341.out] at ho; replace BK316 := zA (blk_grown (g := gb316) (o := .cells #[.int .i64 a1_0, .slice A1_1 l1_1.length c1_1] 26 (0, 0)) (zR BK316.out) hg (Kd.R_ne HO_7.out BK316.out (by decide))); replace HB := zA (below_weaken (zV HB.out (Z101.ge HI0.out) GE316.out) HL.out hb); replace HI0 := zA (Z101.grown (Z101.uB HI0.out NB0_316.out) hg (Z101.own_ne HI0.out HO_7.out (by decide))); replace HK := zA (KeepBut.trans (yB HK.out GW316.out) (KeepBut.of_grown hg g) (Kd.R_base2 HO_7.out)); have HO343 := zA (ho); clear HO_7; clear ho hb hg hat))
        go_roundg k1
        case measure => have := HK1.out; omega
        case rel => exact ⟨(y341), (t339), (t340), H', ⟨by have := HK1.out; omega⟩, ⟨by (with_reducible repeat (first | apply zF | apply zG | apply zH)); exact HO343.out⟩, ⟨by (with_reducible repeat (first | refine zJ ?_ _ | refine zK ?_ | refine zI ?_ _)); exact BK316.out⟩, ⟨Z101.uB HI0.out NB0_316.out⟩, ⟨yB HK.out GW316.out⟩, ⟨zV HB.out (Z101.ge HI0.out) GE316.out⟩⟩
       rw [if_neg c35] at H
       exact absurd H (by simp)
      rw [if_neg c33] at H
      have c33b0 : decide ((x7_1.length : Int) < 25) = false := decide_eq_false c33
      have c33b1 : decide (x7_1.length < 25) = false := decide_eq_false (by omega)
      clear c33
      simp only [Option.some.injEq, Prod.mk.injEq] at H
      obtain ⟨rfl, rfl, rfl⟩ := H
      have hnb41 := NB316_0.out
      have hnc41 := NB0_316.out
      have hcz42_0 : wr.cell? ⟨gb316, 0, none⟩ = some (.int .i64 a1_0) := (blk_cell BK316.out 0).trans rfl
      have hcz42_1 : wr.cell? ⟨gb316, 1, none⟩ = some (.slice A1_1 l1_1.length c1_1) := (blk_cell BK316.out 1).trans rfl
      have hfz42_0 := blk_frozen BK316.out 0
      have hfz42_1 := blk_frozen BK316.out 1
      obtain ⟨Ao43, co43, eo43⟩ := Kd.R_slice HO_7.out
      subst eo43
      go_wp2
      go_ret
      exact ⟨_, zr, zP HO_7.out, by repeat (first | (with_reducible first | exact HI0.out | apply Z101.alloc | apply Z101.drewN | apply Z101.drew | apply Z101.set_1 | apply Z101.set_2 | refine Z101.far ?_ NB0_316.out _) | exact HI0.out), zV HB.out (Z101.ge HI0.out) GE316.out, by repeat (first | (with_reducible first | exact HK.out | apply KeepBut.set_ | apply keep_drewN | apply keep_drew | apply keep_alloc | refine keep_far ?_ GW316.out _) | exact HK.out)⟩
     rw [if_neg c32] at H
     have c32b0 : decide (0 < a1_0) = false := decide_eq_false c32
     clear c32
     simp only [Option.some.injEq, Prod.mk.injEq] at H
     obtain ⟨rfl, rfl, rfl⟩ := H
     have hnb44 := NB316_0.out
     have hnc44 := NB0_316.out
     have hcz45_0 : wr.cell? ⟨gb316, 0, none⟩ = some (.int .i64 a1_0) := (blk_cell BK316.out 0).trans rfl
     have hcz45_1 : wr.cell? ⟨gb316, 1, none⟩ = some (.slice A1_1 l1_1.length c1_1) := (blk_cell BK316.out 1).trans rfl
     have hfz45_0 := blk_frozen BK316.out 0
     have hfz45_1 := blk_frozen BK316.out 1
     go_wp2
     go_ret
     exact ⟨_, zr, zP HO_7.out, by repeat (first | (with_reducible first | exact HI0.out | apply Z101.alloc | apply Z101.drewN | apply Z101.drew | apply Z101.set_1 | apply Z101.set_2 | refine Z101.far ?_ NB0_316.out _) | exact HI0.out), zV HB.out (Z101.ge HI0.out) GE316.out, by repeat (first | (with_reducible first | exact HK.out | apply KeepBut.set_ | apply keep_drewN | apply keep_drew | apply keep_alloc | refine keep_far ?_ GW316.out _) | exact HK.out)⟩
  rw [if_neg c24] at H
  have c24b0 : (t326 == 1) = false := beq_eq_false_iff_ne.mpr c24
  have c24b1 : (t326 != 1) = true := bne_iff_ne.mpr c24
  simp only [Option.some.injEq, Prod.mk.injEq] at H
  obtain ⟨rfl, rfl, rfl⟩ := H
  go_enter Tryd.func99, Tryd.ntmps99
  go_wp2_with (first | ((with_reducible refine gate_dst (N := 4) rfl ?_); refine box_event ?hg (N := 4) ?hd (cs := #[.int .i64 a1_0, .slice A1_1 l1_1.length c1_1]) (t := 26) ?hr ?_; (case hd => rfl); (case hg => rfl); (case hr => first | (go_simp; done) | (go_simp; rfl)); intro gb316 hg w46 hbox hb; replace HB := zA (below_step (zT HB.out (Z101.ge HI0.out)) hb); have BK316 := zA (hbox); have GW316 := zA ((by rw [hg]; exact (keep_size (w := w) (g := g) (row := none) (yA HK.out)) : w.heap.size ≤ gb316)); have GE316 := zA ((Nat.le_trans HW0.out (by rw [hg]; exact (keep_size (w := w) (g := g) (row := none) (yA HK.out)) : w.heap.size ≤ gb316) : w0.heap.size ≤ gb316)); replace HK := zA (KeepBut.trans (yA HK.out) (KeepBut.of_below hb g none) (.inl rfl)); have NB0_316 := zA ((by rw [hg]; exact Nat.ne_of_lt (Z101.lt (show Z101 w0 _ g s0_0 s0_1 s0_2 from Z101.uA HI0.out)) : g ≠ gb316)); have NB316_0 := zA ((by rw [hg]; exact Nat.ne_of_gt (Z101.lt (show Z101 w0 _ g s0_0 s0_1 s0_2 from Z101.uA HI0.out)) : gb316 ≠ g)); replace HI0 := zA (Z101.below (Z101.uA HI0.out) hb); clear hb hbox hg; have hnb47 := NB316_0.out; have hnc47 := NB0_316.out; have hcz48_0 : w46.cell? ⟨gb316, 0, none⟩ = some (.int .i64 a1_0) := (blk_cell BK316.out 0).trans rfl; have hcz48_1 : w46.cell? ⟨gb316, 1, none⟩ = some (.slice A1_1 l1_1.length c1_1) := (blk_cell BK316.out 1).trans rfl; have hfz48_0 := blk_frozen BK316.out 0; have hfz48_1 := blk_frozen BK316.out 1) | ((with_reducible refine gate_callee (f := 106) rfl ?_); refine zO (some 9) Tryd.func106 #[.agg #[.int .i64 a1_0, .slice A1_1 l1_1.length c1_1]] ?_; (with_reducible refine (spec_l02Is.calls k a1_0 _ _ l1_1 true _ ?side1 ?side2 A4.out).mono ?_); (case side1 => exact Kd.C_keep 0 HR1_1.out (yB HK.out GW316.out) hf1_1); (case side2 => exact HC1_1.out); rintro e w49 ⟨rfl, hb⟩; refine ⟨_, rfl, ?_⟩; replace BK316 := zA (blk_below (g := gb316) (o := .cells #[.int .i64 a1_0, .slice A1_1 l1_1.length c1_1] 26 (0, 0)) (zR BK316.out) hb); replace HK := zA (KeepBut.trans (yB HK.out GW316.out) (KeepBut.of_below hb g none) (.inl rfl)); replace HB := zA (below_step (zV HB.out (Z101.ge HI0.out) GE316.out) hb); replace HI0 := zA (Z101.below (Z101.uB HI0.out NB0_316.out) hb); (try clear hb); have hcz50_0 : w49.cell? ⟨gb316, 0, none⟩ = some (.int .i64 a1_0) := (blk_cell BK316.out 0).trans rfl; have hcz50_1 : w49.cell? ⟨gb316, 1, none⟩ = some (.slice A1_1 l1_1.length c1_1) := (blk_cell BK316.out 1).trans rfl; have hfz50_0 := blk_frozen BK316.out 0; have hfz50_1 := blk_frozen BK316.out 1) | ((with_reducible refine gate_callee (f := 123) rfl ?_); refine zO (some 15) Tryd.func123 #[.pointer (some ⟨g, 0, none⟩), .agg #[.int .i64 a1_0, .slice A1_1 l1_1.length c1_1], .int .i64 a2] ?_; (with_reducible refine (spec_l03Draw.calls k g s0_0 s0_1 s0_2 a1_0 _ _ l1_1 a2 t321 t324 t325 w0 _ ?side1 ?side2 ?side3 ?side4 ?side5 A6.out).mono ?_); (case side1 => exact Z101.uB HI0.out NB0_316.out); (case side2 => exact zV HB.out (Z101.ge HI0.out) GE316.out); (case side3 => exact Kd.C_keep 0 HR1_1.out (yB HK.out GW316.out) hf1_1); (case side4 => exact HC1_1.out); (case side5 => exact hf1_1); rintro e w51 ⟨v322, rfl, ho0, hi, hb, hk⟩; refine ⟨_, rfl, ?_⟩; replace BK316 := zA (KeepBut.blk hk (g' := gb316) (o := .cells #[.int .i64 a1_0, .slice A1_1 l1_1.length c1_1] 26 (0, 0)) (zR BK316.out) NB316_0.out (by simp)); have HO323 := zA (Kd.R_lower ho0 (keep_size (w := w) (g := g) (row := none) (yB HK.out GW316.out))); replace HK := zA (KeepBut.trans (yB HK.out GW316.out) hk (.inl rfl)); replace HB := zA (hb); replace HI0 := zA (hi); (try clear hb); (try clear hk); (try clear hi); (try clear ho0)) | ((with_reducible refine gate_callee (f := 79) rfl ?_); refine zO (some 17) Tryd.func79 #[.pointer (some ⟨g, 0, none⟩), .int .i64 28] ?_; (with_reducible refine (spec_l01Next.calls g s0_0 t324 t325 28 t326 t327 t328 w0 _ ?side1 ?side2 A7.out).mono ?_); (case side1 => exact Z101.uB HI0.out NB0_316.out); (case side2 => exact zV HB.out (Z101.ge HI0.out) GE316.out); rintro e w52 ⟨rfl, hi, hb, hk⟩; refine ⟨_, rfl, ?_⟩; replace BK316 := zA (KeepBut.blk hk (g' := gb316) (o := .cells #[.int .i64 a1_0, .slice A1_1 l1_1.length c1_1] 26 (0, 0)) (zR BK316.out) NB316_0.out (by simp)); replace HO323 := zA (Kd.R_mono (Kd.R_keep (Z101.apart (show Z101 w0 _ g s0_0 t324 t325 from Z101.uB HI0.out NB0_316.out) (zP HO323.out) (by decide)) hk (fun _ h => h.2)) (fun _ h => h.1)); replace HK := zA (KeepBut.trans (yB HK.out GW316.out) hk (.inl rfl)); replace HB := zA (hb); replace HI0 := zA (hi); (try clear hb); (try clear hk); (try clear hi)))
  go_ret
  exact ⟨_, zr, zP HO323.out, by repeat (first | (with_reducible first | exact HI0.out | apply Z101.alloc | apply Z101.drewN | apply Z101.drew | apply Z101.set_1 | apply Z101.set_2 | refine Z101.far ?_ NB0_316.out _) | exact HI0.out), zV HB.out (Z101.ge HI0.out) GE316.out, by repeat (first | (with_reducible first | exact HK.out | apply KeepBut.set_ | apply keep_drewN | apply keep_drew | apply keep_alloc | refine keep_far ?_ GW316.out _) | exact HK.out)⟩
 replace c5 := Bool.eq_false_iff.mpr c5
 subst c5
 have H1 : (some ((([0, 1, 0] : List Int)), s0_1, s0_2)) = some (r1, r2, r3) := by rw [if_neg (show ¬ (false = true) by decide)] at H; exact H
 clear H
 have H := H1
 clear H1
 obtain ⟨y318, hy318⟩ : ∃ y_ : List Int, y_ = (([0, 1, 0] : List Int)) := ⟨_, rfl⟩
 replace H : (some (y318, s0_1, s0_2)) = some (r1, r2, r3) := zy hy318 H
 have Ny318 := zA hy318
 clear hy318
 simp only [Option.some.injEq, Prod.mk.injEq] at H
 obtain ⟨rfl, rfl, rfl⟩ := H
 go_enter Tryd.func99, Tryd.ntmps99
 go_wp2_with (first | ((with_reducible refine gate_dst (N := 4) rfl ?_); refine box_event ?hg (N := 4) ?hd (cs := #[.int .i64 a1_0, .slice A1_1 l1_1.length c1_1]) (t := 26) ?hr ?_; (case hd => rfl); (case hg => rfl); (case hr => first | (go_simp; done) | (go_simp; rfl)); intro gb316 hg w53 hbox hb; replace HB := zA (below_step (zT HB.out (Z101.ge HI0.out)) hb); have BK316 := zA (hbox); have GW316 := zA ((by rw [hg]; exact (keep_size (w := w) (g := g) (row := none) (yA HK.out)) : w.heap.size ≤ gb316)); have GE316 := zA ((Nat.le_trans HW0.out (by rw [hg]; exact (keep_size (w := w) (g := g) (row := none) (yA HK.out)) : w.heap.size ≤ gb316) : w0.heap.size ≤ gb316)); replace HK := zA (KeepBut.trans (yA HK.out) (KeepBut.of_below hb g none) (.inl rfl)); have NB0_316 := zA ((by rw [hg]; exact Nat.ne_of_lt (Z101.lt (show Z101 w0 _ g s0_0 s0_1 s0_2 from Z101.uA HI0.out)) : g ≠ gb316)); have NB316_0 := zA ((by rw [hg]; exact Nat.ne_of_gt (Z101.lt (show Z101 w0 _ g s0_0 s0_1 s0_2 from Z101.uA HI0.out)) : gb316 ≠ g)); replace HI0 := zA (Z101.below (Z101.uA HI0.out) hb); clear hb hbox hg; have hnb54 := NB316_0.out; have hnc54 := NB0_316.out; have hcz55_0 : w53.cell? ⟨gb316, 0, none⟩ = some (.int .i64 a1_0) := (blk_cell BK316.out 0).trans rfl; have hcz55_1 : w53.cell? ⟨gb316, 1, none⟩ = some (.slice A1_1 l1_1.length c1_1) := (blk_cell BK316.out 1).trans rfl; have hfz55_0 := blk_frozen BK316.out 0; have hfz55_1 := blk_frozen BK316.out 1) | ((with_reducible refine gate_callee (f := 106) rfl ?_); refine zO (some 9) Tryd.func106 #[.agg #[.int .i64 a1_0, .slice A1_1 l1_1.length c1_1]] ?_; (with_reducible refine (spec_l02Is.calls k a1_0 _ _ l1_1 false _ ?side1 ?side2 A4.out).mono ?_); (case side1 => exact Kd.C_keep 0 HR1_1.out (yB HK.out GW316.out) hf1_1); (case side2 => exact HC1_1.out); rintro e w56 ⟨rfl, hb⟩; refine ⟨_, rfl, ?_⟩; replace BK316 := zA (blk_below (g := gb316) (o := .cells #[.int .i64 a1_0, .slice A1_1 l1_1.length c1_1] 26 (0, 0)) (zR BK316.out) hb); replace HK := zA (KeepBut.trans (yB HK.out GW316.out) (KeepBut.of_below hb g none) (.inl rfl)); replace HB := zA (below_step (zV HB.out (Z101.ge HI0.out) GE316.out) hb); replace HI0 := zA (Z101.below (Z101.uB HI0.out NB0_316.out) hb); (try clear hb)) | ((with_reducible refine gate_dst (N := 11) rfl ?_); refine Kd.R_lit (Kd.int .i64) _ 2 ?hg (N := 11) ?hd (xs := ([0, 1, 0] : List Int)) (inner := [.int .i64 0, .int .i64 1, .int .i64 0]) (ok := fun _ => True) (okp := fun _ => True) ?hr ?hp (fun _ hk => hk) trivial (Below.refl _ _) (Nat.le_refl _) (by simp) ?_; (case hd => rfl); (case hg => rfl); (case hr => first | (go_simp; done) | (go_simp; rfl)); (case hp => exact (Reps.one (show Kd.M (Kd.int .i64) _ _ _ 0 [.int .i64 0] from rfl) (Reps.one (show Kd.M (Kd.int .i64) _ _ _ 1 [.int .i64 1] from rfl) (Reps.one (show Kd.M (Kd.int .i64) _ _ _ 0 [.int .i64 0] from rfl) (Reps.none _ _))))); intro v319 w57 ho58 hb hg_ hnew_; clear hg_ hnew_; (first | rw [← Ny318.out] at ho58 | (simp only [Int.reduceToNat] at ho58; rw [← Ny318.out] at ho58)); have HO320 := zA (Kd.R_lower ho58 (keep_size (w := w) (g := g) (row := none) (yB HK.out GW316.out))); replace BK316 := zA (blk_below (g := gb316) (o := .cells #[.int .i64 a1_0, .slice A1_1 l1_1.length c1_1] 26 (0, 0)) (zR BK316.out) hb); replace HK := zA (KeepBut.trans (yB HK.out GW316.out) (KeepBut.of_below hb g none) (.inl rfl)); replace HB := zA (below_step (zV HB.out (Z101.ge HI0.out) GE316.out) hb); replace HI0 := zA (Z101.below (Z101.uB HI0.out NB0_316.out) hb); clear hb ho58))
 go_ret
 exact ⟨_, zr, zP HO320.out, by repeat (first | (with_reducible first | exact HI0.out | apply Z101.alloc | apply Z101.drewN | apply Z101.drew | apply Z101.set_1 | apply Z101.set_2 | refine Z101.far ?_ NB0_316.out _) | exact HI0.out), zV HB.out (Z101.ge HI0.out) GE316.out, by repeat (first | (with_reducible first | exact HK.out | apply KeepBut.set_ | apply keep_drewN | apply keep_drew | apply keep_alloc | refine keep_far ?_ GW316.out _) | exact HK.out)⟩

/-! ### spec_l03Pair: function 48 -/
def spec_l03Pair.f (k : Nat) (l0 : List Int) (a1 : Int) (a2 : Int) : Option (List Int × Int × Int × Int × List Int × List Int) := (spec_l01From.f k l0).bind fun bt345 => ((spec_l02Draw.f k bt345.1 bt345.2.1 bt345.2.2 a1).bind fun bt349 => ((spec_l01Next.f bt345.1 bt349.2.2.1 bt349.2.2.2 24).bind fun bt356 => (if bt356.1 = 0 then ((spec_l02Spoil.f k bt345.1 bt356.2.1 bt356.2.2 a1).bind fun bt359 => ((spec_l03Spoil.f k bt345.1 bt359.2.2.1 bt359.2.2.2 bt359.1 bt359.2.1 a2).bind fun bt365 => (some (bt345.1, bt365.2.1, bt365.2.2, bt359.1, bt359.2.1, bt365.1)))) else ((spec_l03Spoil.f k bt345.1 bt356.2.1 bt356.2.2 bt349.1 bt349.2.1 a2).bind fun bt370 => (some (bt345.1, bt370.2.1, bt370.2.2, bt349.1, bt349.2.1, bt370.1))))))

def spec_l03Pair.T5 : Bool × List (List Nat × List Nat) := (true, [([], []), ([], []), ([], []), ([], []), ([], []), ([2, 3, 4], [2, 3, 4]), ([0, 5, 0], [0]), ([1, 6, 0, 1, 6], [1]), ([5, 7, 0, 1, 2, 3, 4, 5, 6, 7], [5])])
def spec_l03Pair.B5 : List Nat := [0, 0, 0, 0, 0, 28, 61, 127, 255]
theorem spec_l03Pair.tab5 : rtab .any (opsOf Tryd.f48 5) = spec_l03Pair.T5 := by kernel_rfl
theorem spec_l03Pair.bits5 : waitsOk spec_l03Pair.T5.2 spec_l03Pair.B5 = true := by kernel_rfl
set_option maxHeartbeats 8000000 in
set_option maxRecDepth 100000 in
theorem spec_l03Pair.calls (k : Nat) (A0 : Option Addr) (c0 : Nat) (l0 : List Int) (a1 : Int) (a2 : Int) (r1 : List Int) (r2 : Int) (r3 : Int) (r4 : Int) (r5 : List Int) (r6 : List Int) (w0 w : World) (hB : Below w0.heap.size w0 w) (hr0 : Kd.C (Kd.int .u8) w0 A0 l0.length l0) (hc0 : l0.length ≤ c0) (h : spec_l03Pair.f k l0 a1 a2 = some (r1, r2, r3, r4, r5, r6)) :
  Calls Tryd.prog 48 #[.slice A0 l0.length c0, .int .i64 a1, .int .i64 a2] w fun e w' => ∃ v1_ v2_ : Value, ∃ g_ : Nat, e = .returned (.tuple #[.pointer (some ⟨g_, 0, none⟩), .agg #[.int .i64 r4, v1_], v2_]) ∧ Kd.R (Kd.int .i64) 2 w' w.heap.size (fun k_ => some k_ ≠ (v2_ : Value).ownBlock) v1_ r5 ∧ Kd.R (Kd.int .i64) 2 w' w.heap.size (fun k_ => some k_ ≠ (v1_ : Value).ownBlock) v2_ r6 ∧ Z101 w0 w' g_ r1 r2 r3 ∧ Below w0.heap.size w0 w' ∧ Below w.heap.size w w' ∧ w.heap.size ≤ g_ := by
 have hu26 := Tryd.underlying26
 have HR0 := zA hr0
 have HC0 := zA hc0
 clear hr0 hc0
 have HBW := zA (Below.refl w.heap.size w)
 have HB00 := zA hB
 have HW0 := zA hB.size
 have HB := zA hB
 clear hB
 have H : ((spec_l01From.f k l0).bind fun bt345 => ((spec_l02Draw.f k bt345.1 bt345.2.1 bt345.2.2 a1).bind fun bt349 => ((spec_l01Next.f bt345.1 bt349.2.2.1 bt349.2.2.2 24).bind fun bt356 => (if bt356.1 = 0 then ((spec_l02Spoil.f k bt345.1 bt356.2.1 bt356.2.2 a1).bind fun bt359 => ((spec_l03Spoil.f k bt345.1 bt359.2.2.1 bt359.2.2.2 bt359.1 bt359.2.1 a2).bind fun bt365 => (some (bt345.1, bt365.2.1, bt365.2.2, bt359.1, bt359.2.1, bt365.1)))) else ((spec_l03Spoil.f k bt345.1 bt356.2.1 bt356.2.2 bt349.1 bt349.2.1 a2).bind fun bt370 => (some (bt345.1, bt370.2.1, bt370.2.2, bt349.1, bt349.2.1, bt370.1))))))) = some (r1, r2, r3, r4, r5, r6) := h
 clear h
 obtain ⟨⟨t345, t346, t347⟩, A4, H⟩ := zb H
 try dsimp only at H
 obtain ⟨⟨t349, t350, t353, t354⟩, A5, H⟩ := zb H
 try dsimp only at H
 obtain ⟨⟨t356, t357, t358⟩, A6, H⟩ := zb H
 try dsimp only at H
 by_cases c7 : t356 = 0
 ·rw [if_pos c7] at H
  have c7b0 : (t356 == 0) = true := beq_iff_eq.mpr c7
  have c7b1 : (t356 != 0) = false := bne_eq_false_iff_eq.mpr c7
  clear c7
  obtain ⟨⟨t359, t360, t363, t364⟩, A8, H⟩ := zb H
  try dsimp only at H
  obtain ⟨⟨t365, t368, t369⟩, A9, H⟩ := zb H
  try dsimp only at H
  simp only [Option.some.injEq, Prod.mk.injEq] at H
  obtain ⟨rfl, rfl, rfl, rfl, rfl, rfl⟩ := H
  go_enter Tryd.func48, Tryd.ntmps48
  try go_wp2_with (first | ((with_reducible refine gate_dst (N := 7) rfl ?_); refine box_event ?hg (N := 7) ?hd (cs := #[.int .i64 0, .slice none 0 0]) (t := 26) ?hr ?_; (case hd => rfl); (case hg => rfl); (case hr => first | (go_simp; done) | (go_simp; rfl)); intro gb344 hg w10 hbox hb; replace HB := zA (below_step (zQ HB.out) hb); have BK344 := zA (hbox); have GW344 := zA ((by rw [hg]; exact (below_size (zQ HBW.out)) : w.heap.size ≤ gb344)); have GE344 := zA ((Nat.le_trans HW0.out (by rw [hg]; exact (below_size (zQ HBW.out)) : w.heap.size ≤ gb344) : w0.heap.size ≤ gb344)); replace HBW := zA (below_step HBW.out hb); clear hb hbox hg) | ((with_reducible refine gate_callee (f := 93) rfl ?_); refine zO (some 12) Tryd.func93 #[.slice A0 l0.length c0] ?_; (with_reducible refine (spec_l01From.calls k _ _ l0 t345 t346 t347 w0 _ ?side1 ?side2 ?side3 A4.out).mono ?_); (case side1 => exact zT HB.out GE344.out); (case side2 => exact HR0.out); (case side3 => exact HC0.out); rintro e w11 ⟨g348, rfl, hi, hb, hb2, hgw⟩; refine ⟨_, rfl, ?_⟩; have GWS348 := zA ((Nat.le_trans (below_size (zT HBW.out GW344.out)) hgw : w.heap.size ≤ g348)); replace HBW := zA (below_step (zT HBW.out GW344.out) hb2); replace HB := zA (hb); have HI348 := zA (hi); have NB348_344 := zA (Z101.ne_blk hi (blk_below (g := gb344) (o := .cells #[.int .i64 0, .slice none 0 0] 26 (0, 0)) (zR BK344.out) hb2) (by decide)); have NB344_348 := zA (Ne.symm (Z101.ne_blk hi (blk_below (g := gb344) (o := .cells #[.int .i64 0, .slice none 0 0] 26 (0, 0)) (zR BK344.out) hb2) (by decide))); replace BK344 := zA (blk_below (g := gb344) (o := .cells #[.int .i64 0, .slice none 0 0] 26 (0, 0)) (zR BK344.out) hb2); (try clear hb); (try clear hb2); (try clear hi); (try clear hgw)) | ((with_reducible refine gate_callee (f := 97) rfl ?_); refine zO (some 15) Tryd.func97 #[.pointer (some ⟨g348, 0, none⟩), .int .i64 a1] ?_; (with_reducible refine (spec_l02Draw.calls k g348 t345 t346 t347 a1 t349 t350 t353 t354 w0 _ ?side1 ?side2 A5.out).mono ?_); (case side1 => exact Z101.uB HI348.out NB348_344.out); (case side2 => exact zV HB.out (Z101.ge HI348.out) GE344.out); rintro e w12 ⟨v351, rfl, ho0, hi, hb, hk⟩; refine ⟨_, rfl, ?_⟩; replace BK344 := zA (KeepBut.blk hk (g' := gb344) (o := .cells #[.int .i64 0, .slice none 0 0] 26 (0, 0)) (zR BK344.out) NB344_348.out (by simp)); have HO352 := zA (Kd.R_lower ho0 (below_size (zV HBW.out GWS348.out GW344.out))); replace HBW := zA (Z101.below_keepW HB00.out (zV HBW.out GWS348.out GW344.out) hk hb GWS348.out); replace HB := zA (hb); replace HI348 := zA (hi); (try clear hb); (try clear hk); (try clear hi); (try clear ho0)) | ((with_reducible refine gate_dst (N := 10) rfl ?_); refine box_event ?hg (N := 10) ?hd (cs := #[.int .i64 0, .slice none 0 0]) (t := 26) ?hr ?_; (case hd => rfl); (case hg => rfl); (case hr => first | (go_simp; done) | (go_simp; rfl)); intro gb355 hg w13 hbox hb; replace HO352 := zA (Kd.R_below (zP HO352.out) hb); replace HB := zA (below_step (zV HB.out (Z101.ge HI348.out) GE344.out) hb); have BK355 := zA (hbox); have GW355 := zA ((by rw [hg]; exact (below_size (zV HBW.out GWS348.out GW344.out)) : w.heap.size ≤ gb355)); have GE355 := zA ((Nat.le_trans HW0.out (by rw [hg]; exact (below_size (zV HBW.out GWS348.out GW344.out)) : w.heap.size ≤ gb355) : w0.heap.size ≤ gb355)); replace HBW := zA (below_step HBW.out hb); have NB344_355 := zA ((by rw [hg]; exact Nat.ne_of_lt (blk_lt (g := gb344) (o := .cells #[.int .i64 0, .slice none 0 0] 26 (0, 0)) (zR BK344.out)) : gb344 ≠ gb355)); have NB355_344 := zA ((by rw [hg]; exact Nat.ne_of_gt (blk_lt (g := gb344) (o := .cells #[.int .i64 0, .slice none 0 0] 26 (0, 0)) (zR BK344.out)) : gb355 ≠ gb344)); replace BK344 := zA (blk_below (g := gb344) (o := .cells #[.int .i64 0, .slice none 0 0] 26 (0, 0)) (zR BK344.out) hb); have NB348_355 := zA ((by rw [hg]; exact Nat.ne_of_lt (Z101.lt (show Z101 w0 _ g348 t345 t353 t354 from Z101.uB HI348.out NB348_344.out)) : g348 ≠ gb355)); have NB355_348 := zA ((by rw [hg]; exact Nat.ne_of_gt (Z101.lt (show Z101 w0 _ g348 t345 t353 t354 from Z101.uB HI348.out NB348_344.out)) : gb355 ≠ g348)); replace HI348 := zA (Z101.below (Z101.uB HI348.out NB348_344.out) hb); clear hb hbox hg; have hnb14 := NB355_344.out; have hnc14 := NB344_355.out; have hnb15 := NB355_348.out; have hnc15 := NB348_355.out; have hcz16_0 : w13.cell? ⟨gb355, 0, none⟩ = some (.int .i64 0) := (blk_cell BK355.out 0).trans rfl; have hcz16_1 : w13.cell? ⟨gb355, 1, none⟩ = some (.slice none 0 0) := (blk_cell BK355.out 1).trans rfl; have hfz16_0 := blk_frozen BK355.out 0; have hfz16_1 := blk_frozen BK355.out 1; obtain ⟨Ao17, co17, eo17⟩ := Kd.R_slice HO352.out; subst eo17) | ((with_reducible refine gate_callee (f := 79) rfl ?_); refine zO (some 17) Tryd.func79 #[.pointer (some ⟨g348, 0, none⟩), .int .i64 24] ?_; (with_reducible refine (spec_l01Next.calls g348 t345 t353 t354 24 t356 t357 t358 w0 _ ?side1 ?side2 A6.out).mono ?_); (case side1 => exact Z101.uC HI348.out NB348_344.out NB348_355.out); (case side2 => exact zW HB.out (Z101.ge HI348.out) GE344.out GE355.out); rintro e w18 ⟨rfl, hi, hb, hk⟩; refine ⟨_, rfl, ?_⟩; replace BK344 := zA (KeepBut.blk hk (g' := gb344) (o := .cells #[.int .i64 0, .slice none 0 0] 26 (0, 0)) (by (with_reducible repeat (first | refine zJ ?_ _ | refine zK ?_ | refine zI ?_ _)); refine blk_far ?_ NB344_355.out _; (with_reducible repeat (first | refine zJ ?_ _ | refine zK ?_ | refine zI ?_ _)); refine blk_far ?_ NB344_355.out _; (with_reducible repeat (first | refine zJ ?_ _ | refine zK ?_ | refine zI ?_ _)); exact BK344.out) NB344_348.out (by simp)); replace HO352 := zA (Kd.R_mono (Kd.R_keep (Z101.apart (show Z101 w0 _ g348 t345 t353 t354 from Z101.uC HI348.out NB348_344.out NB348_355.out) (by (with_reducible repeat (first | apply zF | apply zG | apply zH)); exact (Kd.R_mono (Kd.R_far (p := ⟨gb355, 1, none⟩) (Kd.R_far (p := ⟨gb355, 0, none⟩) (Kd.R_types HO352.out BK355.out (by decide)) (fun _ hk => hk.2) (.int .i64 t349)) (fun _ hk => hk.2) (.slice Ao17 t350.length co17)) (fun _ h_ => h_.1))) (by decide)) hk (fun _ h => h.2)) (fun _ h => h.1)); replace BK355 := zA (KeepBut.blk hk (g' := gb355) (o := .cells #[.int .i64 t349, .slice Ao17 t350.length co17] 26 (0, 0)) (by (with_reducible repeat (first | refine zJ ?_ _ | refine zK ?_ | refine zI ?_ _)); refine blk_put (cs := #[.int .i64 t349, .slice none 0 0]) ?_ 1 _ rfl; (with_reducible repeat (first | refine zJ ?_ _ | refine zK ?_ | refine zI ?_ _)); refine blk_put (cs := #[.int .i64 0, .slice none 0 0]) ?_ 0 _ rfl; (with_reducible repeat (first | refine zJ ?_ _ | refine zK ?_ | refine zI ?_ _)); exact BK355.out) NB355_348.out (by simp)); replace HBW := zA (Z101.below_keepW HB00.out (zW HBW.out GWS348.out GW344.out GW355.out) hk hb GWS348.out); replace HB := zA (hb); replace HI348 := zA (hi); (try clear hb); (try clear hk); (try clear hi)) | ((with_reducible refine gate_callee (f := 98) rfl ?_); refine zO (some 21) Tryd.func98 #[.pointer (some ⟨g348, 0, none⟩), .int .i64 a1] ?_; (with_reducible refine (spec_l02Spoil.calls k g348 t345 t357 t358 a1 t359 t360 t363 t364 w0 _ ?side1 ?side2 A8.out).mono ?_); (case side1 => exact Z101.uC HI348.out NB348_344.out NB348_355.out); (case side2 => exact zW HB.out (Z101.ge HI348.out) GE344.out GE355.out); rintro e w19 ⟨v361, rfl, ho0, hi, hb, hk⟩; refine ⟨_, rfl, ?_⟩; replace BK344 := zA (KeepBut.blk hk (g' := gb344) (o := .cells #[.int .i64 0, .slice none 0 0] 26 (0, 0)) (zR BK344.out) NB344_348.out (by simp)); replace BK355 := zA (KeepBut.blk hk (g' := gb355) (o := .cells #[.int .i64 t349, .slice Ao17 t350.length co17] 26 (0, 0)) (zR BK355.out) NB355_348.out (by simp)); have HO362 := zA (Kd.R_lower (Kd.R_new' ho0 (Kd.R_lt (zP HO352.out))) (below_size (zW HBW.out GWS348.out GW344.out GW355.out))); replace HO352 := zA (Kd.R_mono (Kd.R_told (Kd.R_oldK (Z101.apart (show Z101 w0 _ g348 t345 t357 t358 from Z101.uC HI348.out NB348_344.out NB348_355.out) (zP HO352.out) (by decide)) hk) (Kd.R_base ho0)) (fun _ h_ => h_.1)); replace HBW := zA (Z101.below_keepW HB00.out (zW HBW.out GWS348.out GW344.out GW355.out) hk hb GWS348.out); replace HB := zA (hb); replace HI348 := zA (hi); (try clear hb); (try clear hk); (try clear hi); (try clear ho0); have hcz20_0 : w19.cell? ⟨gb355, 0, none⟩ = some (.int .i64 t349) := (blk_cell BK355.out 0).trans rfl; have hcz20_1 : w19.cell? ⟨gb355, 1, none⟩ = some (.slice Ao17 t350.length co17) := (blk_cell BK355.out 1).trans rfl; have hfz20_0 := blk_frozen BK355.out 0; have hfz20_1 := blk_frozen BK355.out 1; obtain ⟨Ao21, co21, eo21⟩ := Kd.R_slice HO362.out; subst eo21))
  have n0_ : Aside0 (Kd.R (Kd.int .i64) 2 ((w19.setCell ⟨gb355, 0, none⟩ (.int .i64 t359)).setCell ⟨gb355, 1, none⟩ (.slice Ao21 t360.length co21)) w.heap.size (fun k_ => some k_ ≠ (.slice Ao21 t360.length co21 : Value).ownBlock) (.slice Ao17 t350.length co17) t350) := ⟨by (with_reducible repeat (first | apply zF | apply zG | apply zH)); exact Kd.R_mono (Kd.R_far (p := ⟨gb355, 1, none⟩) (Kd.R_far (p := ⟨gb355, 0, none⟩) (Kd.R_types HO352.out BK355.out (by decide)) (fun _ hk => hk.2) (.int .i64 t359)) (fun _ hk => hk.2) (.slice Ao21 t360.length co21)) (fun _ hk => hk.1.2)⟩
  have n1_ : Aside0 (Kd.R (Kd.int .i64) 2 ((w19.setCell ⟨gb355, 0, none⟩ (.int .i64 t359)).setCell ⟨gb355, 1, none⟩ (.slice Ao21 t360.length co21)) w.heap.size (fun k_ => some k_ ≠ (.slice Ao17 t350.length co17 : Value).ownBlock) (.slice Ao21 t360.length co21) t360) := ⟨by (with_reducible repeat (first | apply zF | apply zG | apply zH)); exact Kd.R_mono (Kd.R_far (p := ⟨gb355, 1, none⟩) (Kd.R_far (p := ⟨gb355, 0, none⟩) (Kd.R_types HO362.out BK355.out (by decide)) (fun _ hk => hk.2) (.int .i64 t359)) (fun _ hk => hk.2) (.slice Ao21 t360.length co21)) (fun _ hk => hk.1.2)⟩
  have n2_ : Aside0 (((w19.setCell ⟨gb355, 0, none⟩ (.int .i64 t359)).setCell ⟨gb355, 1, none⟩ (.slice Ao21 t360.length co21)).heap[gb344]? = some (.cells #[.int .i64 0, .slice none 0 0] 26 (0, 0))) := ⟨by (with_reducible repeat (first | refine zJ ?_ _ | refine zK ?_ | refine zI ?_ _)); refine blk_far ?_ NB344_355.out _; (with_reducible repeat (first | refine zJ ?_ _ | refine zK ?_ | refine zI ?_ _)); refine blk_far ?_ NB344_355.out _; (with_reducible repeat (first | refine zJ ?_ _ | refine zK ?_ | refine zI ?_ _)); exact BK344.out⟩
  have n3_ : Aside0 (((w19.setCell ⟨gb355, 0, none⟩ (.int .i64 t359)).setCell ⟨gb355, 1, none⟩ (.slice Ao21 t360.length co21)).heap[gb355]? = some (.cells #[.int .i64 t359, .slice Ao21 t360.length co21] 26 (0, 0))) := ⟨by (with_reducible repeat (first | refine zJ ?_ _ | refine zK ?_ | refine zI ?_ _)); refine blk_put (cs := #[.int .i64 t359, .slice Ao17 t350.length co17]) ?_ 1 _ rfl; (with_reducible repeat (first | refine zJ ?_ _ | refine zK ?_ | refine zI ?_ _)); refine blk_put (cs := #[.int .i64 t349, .slice Ao17 t350.length co17]) ?_ 0 _ rfl; (with_reducible repeat (first | refine zJ ?_ _ | refine zK ?_ | refine zI ?_ _)); exact BK355.out⟩
  have n4_ : Aside0 (Z101 w0 ((w19.setCell ⟨gb355, 0, none⟩ (.int .i64 t359)).setCell ⟨gb355, 1, none⟩ (.slice Ao21 t360.length co21)) g348 t345 t363 t364) := ⟨Z101.uC HI348.out NB348_344.out NB348_355.out⟩
  have n5_ : Aside0 (Below w0.heap.size w0 ((w19.setCell ⟨gb355, 0, none⟩ (.int .i64 t359)).setCell ⟨gb355, 1, none⟩ (.slice Ao21 t360.length co21))) := ⟨zW HB.out (Z101.ge HI348.out) GE344.out GE355.out⟩
  have n5w_ : Aside0 (Below w.heap.size w ((w19.setCell ⟨gb355, 0, none⟩ (.int .i64 t359)).setCell ⟨gb355, 1, none⟩ (.slice Ao21 t360.length co21))) := ⟨zW HBW.out GWS348.out GW344.out GW355.out⟩
  (try clear HO352)
  (try clear HO362)
  (try clear BK344)
  (try clear BK355)
  (try clear HI348)
  (try clear HB HBW)
  generalize ((w19.setCell ⟨gb355, 0, none⟩ (.int .i64 t359)).setCell ⟨gb355, 1, none⟩ (.slice Ao21 t360.length co21)) = w22 at n0_ n1_ n2_ n3_ n4_ n5_ n5w_ ⊢
  have HO352 := n0_
  have HO362 := n1_
  have BK344 := n2_
  have BK355 := n3_
  have HI348 := n4_
  have HB := n5_
  have HBW := n5w_
  clear n0_ n1_ n2_ n3_ n4_ n5_
  have n0_ := zA (zH HO352.out)
  have n1_ := zA (zH HO362.out)
  have n2_ := zA (zK BK344.out)
  have n3_ := zA (zK BK355.out)
  have n4_ := zA (Z101.drew HI348.out)
  have n5_ := zA (zD HB.out)
  have n5w_ := zA (zD HBW.out)
  clear HO352 HO362 BK344 BK355 HI348 HB HBW
  have HO352 := n0_
  have HO362 := n1_
  have BK344 := n2_
  have BK355 := n3_
  have HI348 := n4_
  have HB := n5_
  have HBW := n5w_
  clear n0_ n1_ n2_ n3_ n4_ n5_
  refine start_ (n := 9) (S := fun w' => w'.cell? ⟨gb355, 0, none⟩ = some (.int .i64 t359) ∧ w'.cell? ⟨gb355, 1, none⟩ = some (.slice Ao21 t360.length co21)) (ds := []) #[false, false, false, false, false, false, false, false, false] (by kernel_rfl) rfl rfl ⟨(blk_cell BK355.out 0).trans rfl, (blk_cell BK355.out 1).trans rfl⟩ (fun hHeld => ?_); refine with_tabW spec_l03Pair.tab5 spec_l03Pair.bits5 (fun HT_ HW_ => ?_)
  generalize w22.drew = w23 at HO352 HO362 BK344 BK355 HI348 HB HBW hHeld ⊢
  refine zp 0 (some 22) #[true, false, false, false, false, false, false, false, false] HT_.out ?_
  refine zp 2 (some 24) #[true, false, true, false, false, false, false, false, false] HT_.out ?_
  refine zp 4 (some 26) #[true, false, true, false, true, false, false, false, false] HT_.out ?_
  refine zc 1 (some 23) #[true, true, true, false, true, false, false, false, false] HT_.out HW_.out hHeld ?_
  refine zc 3 (some 25) #[true, true, true, true, true, false, false, false, false] HT_.out HW_.out hHeld ?_
  refine one_ (i := 5) (N := some 27) #[true, true, true, true, true, true, false, false, false] rfl rfl (one_of HT_.out (by kernel_rfl)) (by decide) (fun K hK => ?_)
  refine goes_ Tryd.func99 (by kernel_rfl) rfl #[.pointer (some ⟨g348, 0, none⟩), .agg #[.int .i64 t359, .slice Ao21 t360.length co21], .int .i64 a2] (by rfl) rfl rfl (by (try simp only [List.map_toArray, List.map_cons, List.map_nil]); first | done | rfl | (simp only [List.length_drop, List.length_take]; rfl)) ?_
  with_reducible refine (spec_l03Spoil.calls k g348 t345 t363 t364 t359 _ _ t360 a2 t365 t368 t369 w0 _ ?side1 ?side2 ?side3 ?side4 ?side5 A9.out).mono ?_
  (case side1 => exact Z101.uC HI348.out NB348_344.out NB348_355.out)
  (case side2 => exact zW HB.out (Z101.ge HI348.out) GE344.out GE355.out)
  (case side3 => exact zS (Kd.R_reads' HO362.out).2.2)
  (case side4 => exact (Kd.R_reads' HO362.out).2.1)
  (case side5 => exact far_slice (Z101.own_ne HI348.out HO362.out (by decide)))
  rintro e w24 ⟨v366, rfl, ho0, hi, hb, hk⟩
  refine ⟨_, rfl, ?_⟩
  replace BK344 := zA (KeepBut.blk hk (g' := gb344) (o := .cells #[.int .i64 0, .slice none 0 0] 26 (0, 0)) (zR BK344.out) NB344_348.out (by simp))
  replace BK355 := zA (KeepBut.blk hk (g' := gb355) (o := .cells #[.int .i64 t359, .slice Ao21 t360.length co21] 26 (0, 0)) (zR BK355.out) NB355_348.out (by simp))
  have HO367 := zA (Kd.R_lower (Kd.R_new' (Kd.R_new' ho0 (Kd.R_lt (zP HO352.out))) (Kd.R_lt (zP HO362.out))) (below_size (zW HBW.out GWS348.out GW344.out GW355.out)))
  replace HO352 := zA (Kd.R_mono (Kd.R_told (Kd.R_oldK (Z101.apart (show Z101 w0 _ g348 t345 t363 t364 from Z101.uC HI348.out NB348_344.out NB348_355.out) (zP HO352.out) (by decide)) hk) (Kd.R_base ho0)) (fun _ h_ => h_.1))
  replace HO362 := zA (Kd.R_mono (Kd.R_told (Kd.R_oldK (Z101.apart (show Z101 w0 _ g348 t345 t363 t364 from Z101.uC HI348.out NB348_344.out NB348_355.out) (zP HO362.out) (by decide)) hk) (Kd.R_base ho0)) (fun _ h_ => h_.1))
  replace HBW := zA (Z101.below_keepW HB00.out (zW HBW.out GWS348.out GW344.out GW355.out) hk hb GWS348.out)
  replace HB := zA (hb)
  replace HI348 := zA (hi)
  (try clear hb)
  (try clear hb2)
  (try clear hk)
  (try clear hi)
  (try clear hgw)
  (try clear ho0)
  refine hK.out _ _ ⟨(blk_cell BK355.out 0).trans rfl, (blk_cell BK355.out 1).trans rfl⟩ (fun hHeld => ?_)
  clear hK K
  refine norm_ (a' := ?_) ?_ ?_
  rotate_left
  ·show Act.put _ (some 27) _ = _
   simp only [Act.put, zL, zM, zN, i64_w, i32_w]
   rfl
  refine zp 6 (some 6) #[true, true, true, true, true, true, true, false, false] HT_.out ?_
  refine one_ (i := 7) (N := none) #[true, true, true, true, true, true, true, true, false] rfl rfl (one_of HT_.out (by kernel_rfl)) (by decide) (fun K hK => ?_)
  have hs25 : w24.cell? ⟨gb344, 0, none⟩ = some (.int .i64 0) := (blk_cell BK344.out 0).trans rfl
  have hfs25 := blk_frozen BK344.out 0
  have hns25_1 := NB355_344.out
  have hms25_1 := NB344_355.out
  have hs26 : w24.cell? ⟨gb344, 1, none⟩ = some (.slice none 0 0) := (blk_cell BK344.out 1).trans rfl
  have hfs26 := blk_frozen BK344.out 1
  have hns26_1 := NB355_344.out
  have hms26_1 := NB344_355.out
  refine skip_ (w1 := ?_) (by rfl) rfl ?_ ?_
  rotate_left
  ·go_simp
   rfl
  refine hK.out _ _ ⟨((cell_far (p := ⟨gb344, _, none⟩) NB355_344.out _).trans (((cell_far (p := ⟨gb344, _, none⟩) NB355_344.out _).trans (hHeld.1)))), ((cell_far (p := ⟨gb344, _, none⟩) NB355_344.out _).trans (((cell_far (p := ⟨gb344, _, none⟩) NB355_344.out _).trans (hHeld.2))))⟩ (fun hHeld => ?_)
  clear hK K
  refine zp 8 (some 8) #[true, true, true, true, true, true, true, true, true] HT_.out ?_
  refine done_ (done_of HT_.out (by kernel_rfl)) ?_
  try go_wp2
  refine bodyPost_ret (results_list (rs := [.tmp 6, .cell 7 26, .tmp 8]) rfl (by simp) (.tmp (.cell gb344 26 #[.int .i64 t359, .slice Ao21 t360.length co21] (0, 0) _ rfl (by (with_reducible repeat (first | refine zJ ?_ _ | refine zK ?_ | refine zI ?_ _)); refine blk_put (cs := #[.int .i64 t359, .slice none 0 0]) ?_ 1 _ rfl; (with_reducible repeat (first | refine zJ ?_ _ | refine zK ?_ | refine zI ?_ _)); refine blk_put (cs := #[.int .i64 0, .slice none 0 0]) ?_ 0 _ rfl; (with_reducible repeat (first | refine zJ ?_ _ | refine zK ?_ | refine zI ?_ _)); exact BK344.out) Tryd.underlying26 rfl (by kernel_rfl) (.tmp .nil)))) rfl ?_
  exact ⟨_, _, _, zr, by (with_reducible repeat (first | apply zF | apply zG | apply zH)); exact Kd.R_mono (Kd.R_far (p := ⟨gb344, 1, none⟩) (Kd.R_far (p := ⟨gb344, 0, none⟩) (Kd.R_types HO362.out BK344.out (by decide)) (fun _ hk => hk.2) (.int .i64 t359)) (fun _ hk => hk.2) (.slice Ao21 t360.length co21)) (fun _ hk => hk.1.2), by (with_reducible repeat (first | apply zF | apply zG | apply zH)); exact Kd.R_mono (Kd.R_far (p := ⟨gb344, 1, none⟩) (Kd.R_far (p := ⟨gb344, 0, none⟩) (Kd.R_types HO367.out BK344.out (by decide)) (fun _ hk => hk.2) (.int .i64 t359)) (fun _ hk => hk.2) (.slice Ao21 t360.length co21)) (fun _ hk => hk.1.2), (show Z101 w0 _ g348 t345 t368 t369 from Z101.uC HI348.out NB348_344.out NB348_355.out), zW HB.out (Z101.ge HI348.out) GE344.out GE355.out, zW HBW.out GWS348.out GW344.out GW355.out, GWS348.out⟩
 rw [if_neg c7] at H
 have c7b0 : (t356 == 0) = false := beq_eq_false_iff_ne.mpr c7
 have c7b1 : (t356 != 0) = true := bne_iff_ne.mpr c7
 obtain ⟨⟨t370, t373, t374⟩, A27, H⟩ := zb H
 try dsimp only at H
 simp only [Option.some.injEq, Prod.mk.injEq] at H
 obtain ⟨rfl, rfl, rfl, rfl, rfl, rfl⟩ := H
 go_enter Tryd.func48, Tryd.ntmps48
 try go_wp2_with (first | ((with_reducible refine gate_dst (N := 7) rfl ?_); refine box_event ?hg (N := 7) ?hd (cs := #[.int .i64 0, .slice none 0 0]) (t := 26) ?hr ?_; (case hd => rfl); (case hg => rfl); (case hr => first | (go_simp; done) | (go_simp; rfl)); intro gb344 hg w28 hbox hb; replace HB := zA (below_step (zQ HB.out) hb); have BK344 := zA (hbox); have GW344 := zA ((by rw [hg]; exact (below_size (zQ HBW.out)) : w.heap.size ≤ gb344)); have GE344 := zA ((Nat.le_trans HW0.out (by rw [hg]; exact (below_size (zQ HBW.out)) : w.heap.size ≤ gb344) : w0.heap.size ≤ gb344)); replace HBW := zA (below_step HBW.out hb); clear hb hbox hg) | ((with_reducible refine gate_callee (f := 93) rfl ?_); refine zO (some 12) Tryd.func93 #[.slice A0 l0.length c0] ?_; (with_reducible refine (spec_l01From.calls k _ _ l0 t345 t346 t347 w0 _ ?side1 ?side2 ?side3 A4.out).mono ?_); (case side1 => exact zT HB.out GE344.out); (case side2 => exact HR0.out); (case side3 => exact HC0.out); rintro e w29 ⟨g348, rfl, hi, hb, hb2, hgw⟩; refine ⟨_, rfl, ?_⟩; have GWS348 := zA ((Nat.le_trans (below_size (zT HBW.out GW344.out)) hgw : w.heap.size ≤ g348)); replace HBW := zA (below_step (zT HBW.out GW344.out) hb2); replace HB := zA (hb); have HI348 := zA (hi); have NB348_344 := zA (Z101.ne_blk hi (blk_below (g := gb344) (o := .cells #[.int .i64 0, .slice none 0 0] 26 (0, 0)) (zR BK344.out) hb2) (by decide)); have NB344_348 := zA (Ne.symm (Z101.ne_blk hi (blk_below (g := gb344) (o := .cells #[.int .i64 0, .slice none 0 0] 26 (0, 0)) (zR BK344.out) hb2) (by decide))); replace BK344 := zA (blk_below (g := gb344) (o := .cells #[.int .i64 0, .slice none 0 0] 26 (0, 0)) (zR BK344.out) hb2); (try clear hb); (try clear hb2); (try clear hi); (try clear hgw)) | ((with_reducible refine gate_callee (f := 97) rfl ?_); refine zO (some 15) Tryd.func97 #[.pointer (some ⟨g348, 0, none⟩), .int .i64 a1] ?_; (with_reducible refine (spec_l02Draw.calls k g348 t345 t346 t347 a1 t349 t350 t353 t354 w0 _ ?side1 ?side2 A5.out).mono ?_); (case side1 => exact Z101.uB HI348.out NB348_344.out); (case side2 => exact zV HB.out (Z101.ge HI348.out) GE344.out); rintro e w30 ⟨v351, rfl, ho0, hi, hb, hk⟩; refine ⟨_, rfl, ?_⟩; replace BK344 := zA (KeepBut.blk hk (g' := gb344) (o := .cells #[.int .i64 0, .slice none 0 0] 26 (0, 0)) (zR BK344.out) NB344_348.out (by simp)); have HO352 := zA (Kd.R_lower ho0 (below_size (zV HBW.out GWS348.out GW344.out))); replace HBW := zA (Z101.below_keepW HB00.out (zV HBW.out GWS348.out GW344.out) hk hb GWS348.out); replace HB := zA (hb); replace HI348 := zA (hi); (try clear hb); (try clear hk); (try clear hi); (try clear ho0)) | ((with_reducible refine gate_dst (N := 10) rfl ?_); refine box_event ?hg (N := 10) ?hd (cs := #[.int .i64 0, .slice none 0 0]) (t := 26) ?hr ?_; (case hd => rfl); (case hg => rfl); (case hr => first | (go_simp; done) | (go_simp; rfl)); intro gb355 hg w31 hbox hb; replace HO352 := zA (Kd.R_below (zP HO352.out) hb); replace HB := zA (below_step (zV HB.out (Z101.ge HI348.out) GE344.out) hb); have BK355 := zA (hbox); have GW355 := zA ((by rw [hg]; exact (below_size (zV HBW.out GWS348.out GW344.out)) : w.heap.size ≤ gb355)); have GE355 := zA ((Nat.le_trans HW0.out (by rw [hg]; exact (below_size (zV HBW.out GWS348.out GW344.out)) : w.heap.size ≤ gb355) : w0.heap.size ≤ gb355)); replace HBW := zA (below_step HBW.out hb); have NB344_355 := zA ((by rw [hg]; exact Nat.ne_of_lt (blk_lt (g := gb344) (o := .cells #[.int .i64 0, .slice none 0 0] 26 (0, 0)) (zR BK344.out)) : gb344 ≠ gb355)); have NB355_344 := zA ((by rw [hg]; exact Nat.ne_of_gt (blk_lt (g := gb344) (o := .cells #[.int .i64 0, .slice none 0 0] 26 (0, 0)) (zR BK344.out)) : gb355 ≠ gb344)); replace BK344 := zA (blk_below (g := gb344) (o := .cells #[.int .i64 0, .slice none 0 0] 26 (0, 0)) (zR BK344.out) hb); have NB348_355 := zA ((by rw [hg]; exact Nat.ne_of_lt (Z101.lt (show Z101 w0 _ g348 t345 t353 t354 from Z101.uB HI348.out NB348_344.out)) : g348 ≠ gb355)); have NB355_348 := zA ((by rw [hg]; exact Nat.ne_of_gt (Z101.lt (show Z101 w0 _ g348 t345 t353 t354 from Z101.uB HI348.out NB348_344.out)) : gb355 ≠ g348)); replace HI348 := zA (Z101.below (Z101.uB HI348.out NB348_344.out) hb); clear hb hbox hg; have hnb32 := NB355_344.out; have hnc32 := NB344_355.out; have hnb33 := NB355_348.out; have hnc33 := NB348_355.out; have hcz34_0 : w31.cell? ⟨gb355, 0, none⟩ = some (.int .i64 0) := (blk_cell BK355.out 0).trans rfl; have hcz34_1 : w31.cell? ⟨gb355, 1, none⟩ = some (.slice none 0 0) := (blk_cell BK355.out 1).trans rfl; have hfz34_0 := blk_frozen BK355.out 0; have hfz34_1 := blk_frozen BK355.out 1; obtain ⟨Ao35, co35, eo35⟩ := Kd.R_slice HO352.out; subst eo35) | ((with_reducible refine gate_callee (f := 79) rfl ?_); refine zO (some 17) Tryd.func79 #[.pointer (some ⟨g348, 0, none⟩), .int .i64 24] ?_; (with_reducible refine (spec_l01Next.calls g348 t345 t353 t354 24 t356 t357 t358 w0 _ ?side1 ?side2 A6.out).mono ?_); (case side1 => exact Z101.uC HI348.out NB348_344.out NB348_355.out); (case side2 => exact zW HB.out (Z101.ge HI348.out) GE344.out GE355.out); rintro e w36 ⟨rfl, hi, hb, hk⟩; refine ⟨_, rfl, ?_⟩; replace BK344 := zA (KeepBut.blk hk (g' := gb344) (o := .cells #[.int .i64 0, .slice none 0 0] 26 (0, 0)) (by (with_reducible repeat (first | refine zJ ?_ _ | refine zK ?_ | refine zI ?_ _)); refine blk_far ?_ NB344_355.out _; (with_reducible repeat (first | refine zJ ?_ _ | refine zK ?_ | refine zI ?_ _)); refine blk_far ?_ NB344_355.out _; (with_reducible repeat (first | refine zJ ?_ _ | refine zK ?_ | refine zI ?_ _)); exact BK344.out) NB344_348.out (by simp)); replace HO352 := zA (Kd.R_mono (Kd.R_keep (Z101.apart (show Z101 w0 _ g348 t345 t353 t354 from Z101.uC HI348.out NB348_344.out NB348_355.out) (by (with_reducible repeat (first | apply zF | apply zG | apply zH)); exact (Kd.R_mono (Kd.R_far (p := ⟨gb355, 1, none⟩) (Kd.R_far (p := ⟨gb355, 0, none⟩) (Kd.R_types HO352.out BK355.out (by decide)) (fun _ hk => hk.2) (.int .i64 t349)) (fun _ hk => hk.2) (.slice Ao35 t350.length co35)) (fun _ h_ => h_.1))) (by decide)) hk (fun _ h => h.2)) (fun _ h => h.1)); replace BK355 := zA (KeepBut.blk hk (g' := gb355) (o := .cells #[.int .i64 t349, .slice Ao35 t350.length co35] 26 (0, 0)) (by (with_reducible repeat (first | refine zJ ?_ _ | refine zK ?_ | refine zI ?_ _)); refine blk_put (cs := #[.int .i64 t349, .slice none 0 0]) ?_ 1 _ rfl; (with_reducible repeat (first | refine zJ ?_ _ | refine zK ?_ | refine zI ?_ _)); refine blk_put (cs := #[.int .i64 0, .slice none 0 0]) ?_ 0 _ rfl; (with_reducible repeat (first | refine zJ ?_ _ | refine zK ?_ | refine zI ?_ _)); exact BK355.out) NB355_348.out (by simp)); replace HBW := zA (Z101.below_keepW HB00.out (zW HBW.out GWS348.out GW344.out GW355.out) hk hb GWS348.out); replace HB := zA (hb); replace HI348 := zA (hi); (try clear hb); (try clear hk); (try clear hi)))
 have n0_ := zA (zH HO352.out)
 have n1_ := zA (zK BK344.out)
 have n2_ := zA (zK BK355.out)
 have n3_ := zA (Z101.drew HI348.out)
 have n4_ := zA (zD HB.out)
 have n4w_ := zA (zD HBW.out)
 clear HO352 BK344 BK355 HI348 HB HBW
 have HO352 := n0_
 have BK344 := n1_
 have BK355 := n2_
 have HI348 := n3_
 have HB := n4_
 have HBW := n4w_
 clear n0_ n1_ n2_ n3_ n4_
 refine start_ (n := 9) (S := fun w' => w'.cell? ⟨gb355, 0, none⟩ = some (.int .i64 t349) ∧ w'.cell? ⟨gb355, 1, none⟩ = some (.slice Ao35 t350.length co35)) (ds := []) #[false, false, false, false, false, false, false, false, false] (by kernel_rfl) rfl rfl ⟨(blk_cell BK355.out 0).trans rfl, (blk_cell BK355.out 1).trans rfl⟩ (fun hHeld => ?_); refine with_tabW spec_l03Pair.tab5 spec_l03Pair.bits5 (fun HT_ HW_ => ?_)
 generalize w36.drew = w37 at HO352 BK344 BK355 HI348 HB HBW hHeld ⊢
 refine zp 0 (some 22) #[true, false, false, false, false, false, false, false, false] HT_.out ?_
 refine zp 2 (some 24) #[true, false, true, false, false, false, false, false, false] HT_.out ?_
 refine zp 4 (some 26) #[true, false, true, false, true, false, false, false, false] HT_.out ?_
 refine zc 1 (some 23) #[true, true, true, false, true, false, false, false, false] HT_.out HW_.out hHeld ?_
 refine zc 3 (some 25) #[true, true, true, true, true, false, false, false, false] HT_.out HW_.out hHeld ?_
 refine one_ (i := 5) (N := some 27) #[true, true, true, true, true, true, false, false, false] rfl rfl (one_of HT_.out (by kernel_rfl)) (by decide) (fun K hK => ?_)
 refine goes_ Tryd.func99 (by kernel_rfl) rfl #[.pointer (some ⟨g348, 0, none⟩), .agg #[.int .i64 t349, .slice Ao35 t350.length co35], .int .i64 a2] (by rfl) rfl rfl (by (try simp only [List.map_toArray, List.map_cons, List.map_nil]); first | done | rfl | (simp only [List.length_drop, List.length_take]; rfl)) ?_
 with_reducible refine (spec_l03Spoil.calls k g348 t345 t357 t358 t349 _ _ t350 a2 t370 t373 t374 w0 _ ?side1 ?side2 ?side3 ?side4 ?side5 A27.out).mono ?_
 (case side1 => exact Z101.uC HI348.out NB348_344.out NB348_355.out)
 (case side2 => exact zW HB.out (Z101.ge HI348.out) GE344.out GE355.out)
 (case side3 => exact zS (Kd.R_reads' HO352.out).2.2)
 (case side4 => exact (Kd.R_reads' HO352.out).2.1)
 (case side5 => exact far_slice (Z101.own_ne HI348.out HO352.out (by decide)))
 rintro e w38 ⟨v371, rfl, ho0, hi, hb, hk⟩
 refine ⟨_, rfl, ?_⟩
 replace BK344 := zA (KeepBut.blk hk (g' := gb344) (o := .cells #[.int .i64 0, .slice none 0 0] 26 (0, 0)) (zR BK344.out) NB344_348.out (by simp))
 replace BK355 := zA (KeepBut.blk hk (g' := gb355) (o := .cells #[.int .i64 t349, .slice Ao35 t350.length co35] 26 (0, 0)) (zR BK355.out) NB355_348.out (by simp))
 have HO372 := zA (Kd.R_lower (Kd.R_new' ho0 (Kd.R_lt (zP HO352.out))) (below_size (zW HBW.out GWS348.out GW344.out GW355.out)))
 replace HO352 := zA (Kd.R_mono (Kd.R_told (Kd.R_oldK (Z101.apart (show Z101 w0 _ g348 t345 t357 t358 from Z101.uC HI348.out NB348_344.out NB348_355.out) (zP HO352.out) (by decide)) hk) (Kd.R_base ho0)) (fun _ h_ => h_.1))
 replace HBW := zA (Z101.below_keepW HB00.out (zW HBW.out GWS348.out GW344.out GW355.out) hk hb GWS348.out)
 replace HB := zA (hb)
 replace HI348 := zA (hi)
 (try clear hb)
 (try clear hb2)
 (try clear hk)
 (try clear hi)
 (try clear hgw)
 (try clear ho0)
 refine hK.out _ _ ⟨(blk_cell BK355.out 0).trans rfl, (blk_cell BK355.out 1).trans rfl⟩ (fun hHeld => ?_)
 clear hK K
 refine norm_ (a' := ?_) ?_ ?_
 rotate_left
 ·show Act.put _ (some 27) _ = _
  simp only [Act.put, zL, zM, zN, i64_w, i32_w]
  rfl
 refine zp 6 (some 6) #[true, true, true, true, true, true, true, false, false] HT_.out ?_
 refine one_ (i := 7) (N := none) #[true, true, true, true, true, true, true, true, false] rfl rfl (one_of HT_.out (by kernel_rfl)) (by decide) (fun K hK => ?_)
 have hs39 : w38.cell? ⟨gb344, 0, none⟩ = some (.int .i64 0) := (blk_cell BK344.out 0).trans rfl
 have hfs39 := blk_frozen BK344.out 0
 have hns39_1 := NB355_344.out
 have hms39_1 := NB344_355.out
 have hs40 : w38.cell? ⟨gb344, 1, none⟩ = some (.slice none 0 0) := (blk_cell BK344.out 1).trans rfl
 have hfs40 := blk_frozen BK344.out 1
 have hns40_1 := NB355_344.out
 have hms40_1 := NB344_355.out
 refine skip_ (w1 := ?_) (by rfl) rfl ?_ ?_
 rotate_left
 ·go_simp
  rfl
 refine hK.out _ _ ⟨((cell_far (p := ⟨gb344, _, none⟩) NB355_344.out _).trans (((cell_far (p := ⟨gb344, _, none⟩) NB355_344.out _).trans (hHeld.1)))), ((cell_far (p := ⟨gb344, _, none⟩) NB355_344.out _).trans (((cell_far (p := ⟨gb344, _, none⟩) NB355_344.out _).trans (hHeld.2))))⟩ (fun hHeld => ?_)
 clear hK K
 refine zp 8 (some 8) #[true, true, true, true, true, true, true, true, true] HT_.out ?_
 refine done_ (done_of HT_.out (by kernel_rfl)) ?_
 try go_wp2
 refine bodyPost_ret (results_list (rs := [.tmp 6, .cell 7 26, .tmp 8]) rfl (by simp) (.tmp (.cell gb344 26 #[.int .i64 t349, .slice Ao35 t350.length co35] (0, 0) _ rfl (by (with_reducible repeat (first | refine zJ ?_ _ | refine zK ?_ | refine zI ?_ _)); refine blk_put (cs := #[.int .i64 t349, .slice none 0 0]) ?_ 1 _ rfl; (with_reducible repeat (first | refine zJ ?_ _ | refine zK ?_ | refine zI ?_ _)); refine blk_put (cs := #[.int .i64 0, .slice none 0 0]) ?_ 0 _ rfl; (with_reducible repeat (first | refine zJ ?_ _ | refine zK ?_ | refine zI ?_ _)); exact BK344.out) Tryd.underlying26 rfl (by kernel_rfl) (.tmp .nil)))) rfl ?_
 exact ⟨_, _, _, zr, by (with_reducible repeat (first | apply zF | apply zG | apply zH)); exact Kd.R_mono (Kd.R_far (p := ⟨gb344, 1, none⟩) (Kd.R_far (p := ⟨gb344, 0, none⟩) (Kd.R_types HO352.out BK344.out (by decide)) (fun _ hk => hk.2) (.int .i64 t349)) (fun _ hk => hk.2) (.slice Ao35 t350.length co35)) (fun _ hk => hk.1.2), by (with_reducible repeat (first | apply zF | apply zG | apply zH)); exact Kd.R_mono (Kd.R_far (p := ⟨gb344, 1, none⟩) (Kd.R_far (p := ⟨gb344, 0, none⟩) (Kd.R_types HO372.out BK344.out (by decide)) (fun _ hk => hk.2) (.int .i64 t349)) (fun _ hk => hk.2) (.slice Ao35 t350.length co35)) (fun _ hk => hk.1.2), (show Z101 w0 _ g348 t345 t373 t374 from Z101.uC HI348.out NB348_344.out NB348_355.out), zW HB.out (Z101.ge HI348.out) GE344.out GE355.out, zW HBW.out GWS348.out GW344.out GW355.out, GWS348.out⟩

/-! ### spec_l02Dep: function 108 -/
def spec_l02Dep.f (a0_0 : Int) (l0_1 : List Int) (a1 : Int) (a2 : Int) : Option (Bool) := if 0 ≤ a1 then (if a1 < (l0_1.length : Int) then ((spec_l01Bit.f (rd l0_1 a1) a2).bind fun t377 => (some t377)) else (none)) else (none)
set_option maxHeartbeats 8000000 in
set_option maxRecDepth 100000 in
theorem spec_l02Dep.calls (a0_0 : Int) (A0_1 : Option Addr) (c0_1 : Nat) (l0_1 : List Int) (a1 : Int) (a2 : Int) (r : Bool) (w : World) (hr0_1 : Kd.C (Kd.int .i64) w A0_1 l0_1.length l0_1) (hc0_1 : l0_1.length ≤ c0_1) (h : spec_l02Dep.f a0_0 l0_1 a1 a2 = some r) :
  Calls Tryd.prog 108 #[.agg #[.int .i64 a0_0, .slice A0_1 l0_1.length c0_1], .int .i64 a1, .int .i64 a2] w fun e w' => e = .returned (.bool r) ∧ Below w.heap.size w w' := by
 have hu26 := Tryd.underlying26
 have HR0_1 := zA hr0_1
 have HC0_1 := zA hc0_1
 clear hr0_1 hc0_1
 have HB := zA (Below.refl w.heap.size w)
 have H : (if 0 ≤ a1 then (if a1 < (l0_1.length : Int) then ((spec_l01Bit.f (rd l0_1 a1) a2).bind fun t377 => (some t377)) else (none)) else (none)) = some r := h
 clear h
 by_cases c4 : 0 ≤ a1
 ·rw [if_pos c4] at H
  have c4b0 : decide (0 ≤ a1) = true := decide_eq_true c4
  clear c4
  by_cases c5 : a1 < (l0_1.length : Int)
  ·rw [if_pos c5] at H
   have c5b0 : decide (a1 < (l0_1.length : Int)) = true := decide_eq_true c5
   clear c5
   obtain ⟨t377, A6, H⟩ := zb H
   try dsimp only at H
   obtain rfl := Option.some.inj H
   go_enter Tryd.func108, Tryd.ntmps108
   go_wp2_with (first | ((with_reducible refine gate_dst (N := 3) rfl ?_); refine box_event ?hg (N := 3) ?hd (cs := #[.int .i64 a0_0, .slice A0_1 l0_1.length c0_1]) (t := 26) ?hr ?_; (case hd => rfl); (case hg => rfl); (case hr => first | (go_simp; done) | (go_simp; rfl)); intro gb375 hg w7 hbox hb; have BK375 := zA (hbox); have GW375 := zA ((by rw [hg]; exact (below_size (zQ HB.out)) : w.heap.size ≤ gb375)); have GE375 := zA ((by rw [hg]; exact (below_size (zQ HB.out)) : w.heap.size ≤ gb375)); replace HB := zA (below_step (zQ HB.out) hb); clear hb hbox hg; have hcz8_0 : w7.cell? ⟨gb375, 0, none⟩ = some (.int .i64 a0_0) := (blk_cell BK375.out 0).trans rfl; have hcz8_1 : w7.cell? ⟨gb375, 1, none⟩ = some (.slice A0_1 l0_1.length c0_1) := (blk_cell BK375.out 1).trans rfl; have hfz8_0 := blk_frozen BK375.out 0; have hfz8_1 := blk_frozen BK375.out 1; have p376 : 0 ≤ (a1 : Int) := zd; have q376 : a1 < (l0_1.length : Int) := zd; obtain ⟨ad376, e376, hx376_0⟩ := Kd.at_int HR0_1.out a1 p376 q376; cases e376; replace hx376_0 := (HB.out.cell (World.block_lt_of_cell? w _ hx376_0)).trans hx376_0; replace p376 := eq_true p376; replace q376 := eq_true q376) | ((with_reducible refine gate_callee (f := 66) rfl ?_); refine zO (some 13) Tryd.func66 #[.int .i64 (rd l0_1 a1), .int .i64 a2] ?_; (with_reducible refine (spec_l01Bit.calls (rd l0_1 a1) a2 t377 _ A6.out).mono ?_); rintro e w' ⟨rfl, ⟨nd, rfl⟩⟩; refine ⟨_, rfl, ?_⟩))
   go_ret
   exact ⟨zr, zT HB.out GE375.out⟩
  rw [if_neg c5] at H
  exact absurd H (by simp)
 rw [if_neg c4] at H
 exact absurd H (by simp)

/-! ### spec_l03First: function 53 -/
def spec_l03First.l0 : Nat → List Int → Int → Int → Int → List Int → Option (Int)
 | 0, _, _, _, _, _ => none
 | k + 1, x1, x2, x7, x379000, x379001 => if x7 < (x1.length : Int) then (if 0 ≤ x7 then (if (rd x1 x7) = x2 then (some x7) else ((spec_l02Dep.f x379000 x379001 (rd x1 x7) x2).bind fun t381 => (if t381 = true then (some (-1)) else (spec_l03First.l0 k x1 x2 (wrap64 (x7 + 1)) x379000 x379001)))) else (none)) else (some (-1))
def spec_l03First.f (k : Nat) (a0_0 : Int) (l0_1 : List Int) (l1 : List Int) (a2 : Int) : Option (Int) := spec_l03First.l0 k l1 a2 0 a0_0 l0_1

set_option maxHeartbeats 8000000 in
set_option maxRecDepth 100000 in
theorem spec_l03First.calls (k : Nat) (a0_0 : Int) (A0_1 : Option Addr) (c0_1 : Nat) (l0_1 : List Int) (A1 : Option Addr) (c1 : Nat) (l1 : List Int) (a2 : Int) (r : Int) (w : World) (hr0_1 : Kd.C (Kd.int .i64) w A0_1 l0_1.length l0_1) (hc0_1 : l0_1.length ≤ c0_1) (hr1 : Kd.C (Kd.int .i64) w A1 l1.length l1) (hc1 : l1.length ≤ c1) (h : spec_l03First.f k a0_0 l0_1 l1 a2 = some r) :
  Calls Tryd.prog 53 #[.agg #[.int .i64 a0_0, .slice A0_1 l0_1.length c0_1], .slice A1 l1.length c1, .int .i64 a2] w fun e w' => e = .returned (.int .i64 r) ∧ Below w.heap.size w w' := by
 have hu26 := Tryd.underlying26
 have HR0_1 := zA hr0_1
 have HC0_1 := zA hc0_1
 clear hr0_1 hc0_1
 have HR1 := zA hr1
 have HC1 := zA hc1
 clear hr1 hc1
 have HB := zA (Below.refl w.heap.size w)
 have H : (spec_l03First.l0 k l1 a2 0 a0_0 l0_1) = some r := h
 clear h
 have H' := zA H
 clear H
 go_enter Tryd.func53, Tryd.ntmps53
 go_wp2_with (first | ((with_reducible refine gate_dst (N := 3) rfl ?_); refine box_event ?hg (N := 3) ?hd (cs := #[.int .i64 a0_0, .slice A0_1 l0_1.length c0_1]) (t := 26) ?hr ?_; (case hd => rfl); (case hg => rfl); (case hr => first | (go_simp; done) | (go_simp; rfl)); intro gb378 hg w4 hbox hb; have BK378 := zA (hbox); have GW378 := zA ((by rw [hg]; exact (below_size (zQ HB.out)) : w.heap.size ≤ gb378)); have GE378 := zA ((by rw [hg]; exact (below_size (zQ HB.out)) : w.heap.size ≤ gb378)); replace HB := zA (below_step (zQ HB.out) hb); clear hb hbox hg))
 go_loopg [7] k (fun kq v7 w' => ∃ (x7_1 : Int), v7 = .int .i64 x7_1 ∧ Aside0 (spec_l03First.l0 kq l1 a2 x7_1 a0_0 l0_1 = some r) ∧ Aside0 (kq ≤ k) ∧ Aside0 (w'.heap[gb378]? = some (.cells #[.int .i64 a0_0, (.slice A0_1 l0_1.length c0_1)] 26 (0, 0))) ∧ Aside0 (Below w.heap.size w w'))
 case atStart => exact ⟨(0), (by first | rfl | (simp; done) | (simp [*]; done)), H', ⟨Nat.le_refl _⟩, ⟨by (with_reducible repeat (first | refine zJ ?_ _ | refine zK ?_ | refine zI ?_ _)); exact BK378.out⟩, ⟨zT HB.out GE378.out⟩⟩
 case round =>
  clear H'
  try clear c1
  try clear p2
  obtain ⟨x7_1, rfl, HA, HK1, BK378, HB⟩ := hrel
  cases gk with
  | zero => exact absurd HA.out (by simp [spec_l03First.l0])
  | succ k1 =>
   have H := HA.out
   clear HA
   simp only [spec_l03First.l0] at H
   by_cases c5 : x7_1 < (l1.length : Int)
   ·rw [if_pos c5] at H
    have c5b0 : decide (x7_1 < (l1.length : Int)) = true := decide_eq_true c5
    clear c5
    by_cases c6 : 0 ≤ x7_1
    ·rw [if_pos c6] at H
     have c6b0 : decide (0 ≤ x7_1) = true := decide_eq_true c6
     clear c6
     by_cases c7 : (rd l1 x7_1) = a2
     ·rw [if_pos c7] at H
      have c7b0 : ((rd l1 x7_1) == a2) = true := beq_iff_eq.mpr c7
      have c7b1 : ((rd l1 x7_1) != a2) = false := bne_eq_false_iff_eq.mpr c7
      clear c7
      obtain rfl := Option.some.inj H
      have p379 : 0 ≤ (x7_1 : Int) := zd
      have q379 : x7_1 < (l1.length : Int) := zd
      obtain ⟨ad379, e379, hx379_0⟩ := Kd.at_int HR1.out x7_1 p379 q379
      cases e379
      replace hx379_0 := (HB.out.cell (World.block_lt_of_cell? w _ hx379_0)).trans hx379_0
      replace p379 := eq_true p379
      replace q379 := eq_true q379
      go_wp2
      go_ret
      exact ⟨zr, zT HB.out GE378.out⟩
     rw [if_neg c7] at H
     have c7b0 : ((rd l1 x7_1) == a2) = false := beq_eq_false_iff_ne.mpr c7
     have c7b1 : ((rd l1 x7_1) != a2) = true := bne_iff_ne.mpr c7
     obtain ⟨t381, A8, H⟩ := zb H
     try dsimp only at H
     by_cases c9 : t381 = true
     ·subst c9
      have H1 : (some (-1)) = some r := by rw [if_pos rfl] at H; exact H
      clear H
      have H := H1
      clear H1
      obtain rfl := Option.some.inj H
      have p379 : 0 ≤ (x7_1 : Int) := zd
      have q379 : x7_1 < (l1.length : Int) := zd
      obtain ⟨ad379, e379, hx379_0⟩ := Kd.at_int HR1.out x7_1 p379 q379
      cases e379
      replace hx379_0 := (HB.out.cell (World.block_lt_of_cell? w _ hx379_0)).trans hx379_0
      replace p379 := eq_true p379
      replace q379 := eq_true q379
      try go_wp2
      replace BK378 := zA (zK BK378.out)
      replace HB := zA (zD HB.out)
      have p380 : 0 ≤ (x7_1 : Int) := zd
      have q380 : x7_1 < (l1.length : Int) := zd
      obtain ⟨ad380, e380, hx380_0⟩ := Kd.at_int HR1.out x7_1 p380 q380
      have hw380_0 := hx380_0
      obtain rfl : ad379 = ad380 := (by injection e380)
      replace hx380_0 := (HB.out.cell (World.block_lt_of_cell? w _ hx380_0)).trans hx380_0
      replace p380 := eq_true p380
      replace q380 := eq_true q380
      refine start_ (n := 7) (S := fun w' => w'.cell? ⟨gb378, 0, none⟩ = some (.int .i64 a0_0) ∧ w'.cell? ⟨gb378, 1, none⟩ = some (.slice A0_1 l0_1.length c0_1) ∧ w'.cell? (ad379.add (x7_1).toNat) = some (.int .i64 (rd l1 x7_1))) (ds := []) #[false, false, false, false, false, false, false] (by kernel_rfl) rfl rfl ⟨(blk_cell BK378.out 0).trans rfl, (blk_cell BK378.out 1).trans rfl, (pw_cell_below HB.out hw380_0)⟩ (fun hHeld => ?_)
      generalize wr.drew = w10 at BK378 HB hx380_0 hHeld ⊢
      refine pure_ (i := 1) (N := some 22) (v := ?_) (a' := ?_) #[false, true, false, false, false, false, false] rfl rfl (by kernel_rfl) (fun _ _ _ h => h) (Or.inl ⟨by rfl, ?_⟩) ?_ ?_
      rotate_left
      ·intro w'
       go_simp
       with_reducible rfl
      rotate_left
      ·simp only [Act.put, zL, zM, zN, i64_w, i32_w]
       rfl
      refine pure_ (i := 2) (N := some 23) (v := ?_) (a' := ?_) #[false, true, true, false, false, false, false] rfl rfl (by kernel_rfl) (fun _ _ _ h => h) (Or.inl ⟨by rfl, ?_⟩) ?_ ?_
      rotate_left
      ·intro w'
       go_simp
       with_reducible rfl
      rotate_left
      ·simp only [Act.put, zL, zM, zN, i64_w, i32_w]
       rfl
      refine pure_ (i := 3) (N := some 24) (v := ?_) (a' := ?_) #[false, true, true, true, false, false, false] rfl rfl (by kernel_rfl) (fun _ _ _ h => h) (Or.inl ⟨by rfl, ?_⟩) ?_ ?_
      rotate_left
      ·intro w'
       go_simp
       with_reducible rfl
      rotate_left
      ·simp only [Act.put, zL, zM, zN, i64_w, i32_w]
       rfl
      refine pure_ (i := 5) (N := some 26) (v := ?_) (a' := ?_) #[false, true, true, true, false, true, false] rfl rfl (by kernel_rfl) (fun _ _ _ h => h) (Or.inl ⟨by rfl, ?_⟩) ?_ ?_
      rotate_left
      ·intro w'
       go_simp
       with_reducible rfl
      rotate_left
      ·simp only [Act.put, zL, zM, zN, i64_w, i32_w]
       rfl
      refine take_ (i := 0) (N := some 21) (v := ?_) (a' := ?_) #[true, true, true, true, false, true, false] rfl rfl (by kernel_rfl) (fun _ _ _ h => h) (Or.inl ⟨by rfl, ?_⟩) hHeld ?_ ?_
      rotate_left
      ·rintro w' ⟨s0, s1, s2⟩
       go_simp
       with_reducible rfl
      rotate_left
      ·simp only [Act.put, zL, zM, zN, i64_w, i32_w]
       rfl
      refine take_ (i := 4) (N := some 25) (v := ?_) (a' := ?_) #[true, true, true, true, true, true, false] rfl rfl (by kernel_rfl) (fun _ _ _ h => h) (Or.inl ⟨by rfl, ?_⟩) hHeld ?_ ?_
      rotate_left
      ·rintro w' ⟨s0, s1, s2⟩
       go_simp
       with_reducible rfl
      rotate_left
      ·simp only [Act.put, zL, zM, zN, i64_w, i32_w]
       rfl
      refine one_ (i := 6) (N := some 27) #[true, true, true, true, true, true, true] rfl rfl (by kernel_rfl) (by decide) (fun K hK => ?_)
      refine goes_ Tryd.func108 (by kernel_rfl) rfl #[.agg #[.int .i64 a0_0, .slice A0_1 l0_1.length c0_1], .int .i64 (rd l1 x7_1), .int .i64 a2] (by rfl) rfl rfl (by (try simp only [List.map_toArray, List.map_cons, List.map_nil]); first | done | rfl | (simp only [List.length_drop, List.length_take]; rfl)) ?_
      with_reducible refine (spec_l02Dep.calls a0_0 _ _ l0_1 (rd l1 x7_1) a2 true _ ?side1 ?side2 A8.out).mono ?_
      (case side1 => exact zS (Kd.C_below HR0_1.out HB.out))
      (case side2 => exact HC0_1.out)
      rintro e w11 ⟨rfl, hb⟩
      refine ⟨_, rfl, ?_⟩
      replace BK378 := zA (blk_below (g := gb378) (o := .cells #[.int .i64 a0_0, .slice A0_1 l0_1.length c0_1] 26 (0, 0)) (zR BK378.out) hb)
      replace HB := zA (below_step (zT HB.out GE378.out) hb)
      (try clear hb)
      (try clear hb2)
      (try clear hk)
      (try clear hi)
      (try clear hgw)
      refine hK.out _ _ ⟨(blk_cell BK378.out 0).trans rfl, (blk_cell BK378.out 1).trans rfl, (pw_cell_below HB.out hw380_0)⟩ (fun hHeld => ?_)
      clear hK K
      refine norm_ (a' := ?_) ?_ ?_
      rotate_left
      ·show Act.put _ (some 27) _ = _
       simp only [Act.put, zL, zM, zN, i64_w, i32_w]
       rfl
      refine done_ (by kernel_rfl) ?_
      try go_wp2
      go_ret
      exact ⟨zr, zT HB.out GE378.out⟩
     replace c9 := Bool.eq_false_iff.mpr c9
     subst c9
     have H1 : (spec_l03First.l0 k1 l1 a2 (wrap64 (x7_1 + 1)) a0_0 l0_1) = some r := by rw [if_neg (show ¬ (false = true) by decide)] at H; exact H
     clear H
     have H := H1
     clear H1
     have H' := zA H
     clear H
     have p379 : 0 ≤ (x7_1 : Int) := zd
     have q379 : x7_1 < (l1.length : Int) := zd
     obtain ⟨ad379, e379, hx379_0⟩ := Kd.at_int HR1.out x7_1 p379 q379
     cases e379
     replace hx379_0 := (HB.out.cell (World.block_lt_of_cell? w _ hx379_0)).trans hx379_0
     replace p379 := eq_true p379
     replace q379 := eq_true q379
     try go_wp2
     replace BK378 := zA (zK BK378.out)
     replace HB := zA (zD HB.out)
     have p380 : 0 ≤ (x7_1 : Int) := zd
     have q380 : x7_1 < (l1.length : Int) := zd
     obtain ⟨ad380, e380, hx380_0⟩ := Kd.at_int HR1.out x7_1 p380 q380
     have hw380_0 := hx380_0
     obtain rfl : ad379 = ad380 := (by injection e380)
     replace hx380_0 := (HB.out.cell (World.block_lt_of_cell? w _ hx380_0)).trans hx380_0
     replace p380 := eq_true p380
     replace q380 := eq_true q380
     refine start_ (n := 7) (S := fun w' => w'.cell? ⟨gb378, 0, none⟩ = some (.int .i64 a0_0) ∧ w'.cell? ⟨gb378, 1, none⟩ = some (.slice A0_1 l0_1.length c0_1) ∧ w'.cell? (ad379.add (x7_1).toNat) = some (.int .i64 (rd l1 x7_1))) (ds := []) #[false, false, false, false, false, false, false] (by kernel_rfl) rfl rfl ⟨(blk_cell BK378.out 0).trans rfl, (blk_cell BK378.out 1).trans rfl, (pw_cell_below HB.out hw380_0)⟩ (fun hHeld => ?_)
     generalize wr.drew = w12 at BK378 HB hx380_0 hHeld ⊢
     refine pure_ (i := 1) (N := some 22) (v := ?_) (a' := ?_) #[false, true, false, false, false, false, false] rfl rfl (by kernel_rfl) (fun _ _ _ h => h) (Or.inl ⟨by rfl, ?_⟩) ?_ ?_
     rotate_left
     ·intro w'
      go_simp
      with_reducible rfl
     rotate_left
     ·simp only [Act.put, zL, zM, zN, i64_w, i32_w]
      rfl
     refine pure_ (i := 2) (N := some 23) (v := ?_) (a' := ?_) #[false, true, true, false, false, false, false] rfl rfl (by kernel_rfl) (fun _ _ _ h => h) (Or.inl ⟨by rfl, ?_⟩) ?_ ?_
     rotate_left
     ·intro w'
      go_simp
      with_reducible rfl
     rotate_left
     ·simp only [Act.put, zL, zM, zN, i64_w, i32_w]
      rfl
     refine pure_ (i := 3) (N := some 24) (v := ?_) (a' := ?_) #[false, true, true, true, false, false, false] rfl rfl (by kernel_rfl) (fun _ _ _ h => h) (Or.inl ⟨by rfl, ?_⟩) ?_ ?_
     rotate_left
     ·intro w'
      go_simp
      with_reducible rfl
     rotate_left
     ·simp only [Act.put, zL, zM, zN, i64_w, i32_w]
      rfl
     refine pure_ (i := 5) (N := some 26) (v := ?_) (a' := ?_) #[false, true, true, true, false, true, false] rfl rfl (by kernel_rfl) (fun _ _ _ h => h) (Or.inl ⟨by rfl, ?_⟩) ?_ ?_
     rotate_left
     ·intro w'
      go_simp
      with_reducible rfl
     rotate_left
     ·simp only [Act.put, zL, zM, zN, i64_w, i32_w]
      rfl
     refine take_ (i := 0) (N := some 21) (v := ?_) (a' := ?_) #[true, true, true, true, false, true, false] rfl rfl (by kernel_rfl) (fun _ _ _ h => h) (Or.inl ⟨by rfl, ?_⟩) hHeld ?_ ?_
     rotate_left
     ·rintro w' ⟨s0, s1, s2⟩
      go_simp
      with_reducible rfl
     rotate_left
     ·simp only [Act.put, zL, zM, zN, i64_w, i32_w]
      rfl
     refine take_ (i := 4) (N := some 25) (v := ?_) (a' := ?_) #[true, true, true, true, true, true, false] rfl rfl (by kernel_rfl) (fun _ _ _ h => h) (Or.inl ⟨by rfl, ?_⟩) hHeld ?_ ?_
     rotate_left
     ·rintro w' ⟨s0, s1, s2⟩
      go_simp
      with_reducible rfl
     rotate_left
     ·simp only [Act.put, zL, zM, zN, i64_w, i32_w]
      rfl
     refine one_ (i := 6) (N := some 27) #[true, true, true, true, true, true, true] rfl rfl (by kernel_rfl) (by decide) (fun K hK => ?_)
     refine goes_ Tryd.func108 (by kernel_rfl) rfl #[.agg #[.int .i64 a0_0, .slice A0_1 l0_1.length c0_1], .int .i64 (rd l1 x7_1), .int .i64 a2] (by rfl) rfl rfl (by (try simp only [List.map_toArray, List.map_cons, List.map_nil]); first | done | rfl | (simp only [List.length_drop, List.length_take]; rfl)) ?_
     with_reducible refine (spec_l02Dep.calls a0_0 _ _ l0_1 (rd l1 x7_1) a2 false _ ?side1 ?side2 A8.out).mono ?_
     (case side1 => exact zS (Kd.C_below HR0_1.out HB.out))
     (case side2 => exact HC0_1.out)
     rintro e w13 ⟨rfl, hb⟩
     refine ⟨_, rfl, ?_⟩
     replace BK378 := zA (blk_below (g := gb378) (o := .cells #[.int .i64 a0_0, .slice A0_1 l0_1.length c0_1] 26 (0, 0)) (zR BK378.out) hb)
     replace HB := zA (below_step (zT HB.out GE378.out) hb)
     (try clear hb)
     (try clear hb2)
     (try clear hk)
     (try clear hi)
     (try clear hgw)
     refine hK.out _ _ ⟨(blk_cell BK378.out 0).trans rfl, (blk_cell BK378.out 1).trans rfl, (pw_cell_below HB.out hw380_0)⟩ (fun hHeld => ?_)
     clear hK K
     refine norm_ (a' := ?_) ?_ ?_
     rotate_left
     ·show Act.put _ (some 27) _ = _
      simp only [Act.put, zL, zM, zN, i64_w, i32_w]
      rfl
     refine done_ (by kernel_rfl) ?_
     try go_wp2
     go_roundg k1
     case measure => have := HK1.out; omega
     case rel => exact ⟨(wrap64 (x7_1 + 1)), (by first | rfl | (simp; done) | (simp [*]; done)), H', ⟨by have := HK1.out; omega⟩, ⟨by (with_reducible repeat (first | refine zJ ?_ _ | refine zK ?_ | refine zI ?_ _)); exact BK378.out⟩, ⟨zT HB.out GE378.out⟩⟩
    rw [if_neg c6] at H
    exact absurd H (by simp)
   rw [if_neg c5] at H
   have c5b0 : decide (x7_1 < (l1.length : Int)) = false := decide_eq_false c5
   clear c5
   obtain rfl := Option.some.inj H
   go_wp2
   go_ret
   exact ⟨zr, zT HB.out GE378.out⟩

/-! ### spec_l01Own: function 76 -/
def spec_l01Own.f (l0 : List Int) : Option (List Int) := (some (([] : List Int) : List Int)).bind fun y382 => (if y382.length + l0.length < 17592186044416 then (some (y382 ++ l0)) else (none))
set_option maxHeartbeats 8000000 in
set_option maxRecDepth 100000 in
theorem spec_l01Own.calls (A0 : Option Addr) (c0 : Nat) (l0 : List Int) (r : List Int) (w : World) (hr0 : Kd.C (Kd.int .i64) w A0 l0.length l0) (hc0 : l0.length ≤ c0) (h : spec_l01Own.f l0 = some r) :
  Calls Tryd.prog 76 #[.slice A0 l0.length c0] w fun e w' => ∃ v0_ : Value, e = .returned (v0_) ∧ Kd.R (Kd.int .i64) 2 w' w.heap.size (fun _ => True) v0_ r ∧ Below w.heap.size w w' := by
 have HR0 := zA hr0
 have HC0 := zA hc0
 clear hr0 hc0
 have HB := zA (Below.refl w.heap.size w)
 have H : ((some (([] : List Int) : List Int)).bind fun y382 => (if y382.length + l0.length < 17592186044416 then (some (y382 ++ l0)) else (none))) = some r := h
 clear h
 obtain ⟨y382, hy382⟩ : ∃ y_ : List Int, y_ = (([] : List Int)) := ⟨_, rfl⟩
 replace H : (if y382.length + l0.length < 17592186044416 then (some (y382 ++ l0)) else (none)) = some r := zy hy382 H
 have Ny382 := zA hy382
 clear hy382
 by_cases c2 : y382.length + l0.length < 17592186044416
 ·rw [if_pos c2] at H
  have LMc2 := zA c2
  clear c2
  obtain ⟨y385, hy385⟩ : ∃ y_ : List Int, y_ = (y382 ++ l0) := ⟨_, rfl⟩
  replace H : (some y385) = some r := zy hy385 H
  have Ny385 := zA hy385
  clear hy385
  obtain rfl := Option.some.inj H
  go_enter Tryd.func76, Tryd.ntmps76
  go_wp2_with (first | ((with_reducible refine gate_dst (N := 3) rfl ?_); refine Kd.R_lit (Kd.int .i64) _ 2 ?hg (N := 3) ?hd (xs := ([] : List Int)) (inner := []) (ok := fun _ => True) (okp := fun _ => True) ?hr ?hp (fun _ hk => hk) trivial (Below.refl _ _) (Nat.le_refl _) (by simp) ?_; (case hd => rfl); (case hg => rfl); (case hr => first | (go_simp; done) | (go_simp; rfl)); (case hp => exact (Reps.none _ _)); intro v383 w3 ho4 hb hg_ hnew_; clear hg_ hnew_; (first | rw [← Ny382.out] at ho4 | (simp only [Int.reduceToNat] at ho4; rw [← Ny382.out] at ho4)); have HO384 := zA (Kd.R_lower ho4 (below_size (zQ HB.out))); replace HB := zA (below_step (zQ HB.out) hb); clear hb ho4) | ((with_reducible refine gate_builtin (b := .append) (xs := #[.tmp 3, .tmp 4]) rfl ?_); at_builtin; refine Kd.R_append_rows (Kd.int .i64) (w0 := w) w.heap.size rfl (.tmp 3) (.tmp 4) 24 2 (.int .i64 0) 8 rfl Tryd.underlying24 info2 rfl (by decide) (by omega) v383 y382 l0 _ _ _ (fun _ => True) (fun _ => False) rfl rfl ?aO ?aR (fun _ _ h => h) (fun _ h => h.elim) ?aF ?aB ?aS ?aL ?_; (case aR => exact zS (Kd.C_below HR0.out HB.out)); (case aB => exact (zQ HB.out)); (case aF => exact (fun _ _ => trivial)); (case aO => exact (zP HO384.out)); (case aS => exact (below_size (zQ HB.out))); (case aL => have := LMc2.out; omega); intro v386 w5 ho hb hg hat; rw [← Ny385.out] at ho; replace HB := zA (hb); have HO387 := zA (ho); clear HO384; clear ho hb hg hat))
  go_ret
  exact ⟨_, zr, zP HO387.out, zQ HB.out⟩
 rw [if_neg c2] at H
 exact absurd H (by simp)

/-! ### spec_l03Without: function 114 -/
def spec_l03Without.f (l0 : List Int) (a1 : Int) : Option (List Int) := if 0 ≤ a1 then (if a1 ≤ (l0.length : Int) then ((spec_l01Own.f (l0.take (a1 : Int).toNat)).bind fun t389 => (if 0 ≤ (wrap64 (a1 + 1)) then (if (wrap64 (a1 + 1)) ≤ (l0.length : Int) then (if t389.length + (l0.drop ((wrap64 (a1 + 1)) : Int).toNat).length < 17592186044416 then (some (t389 ++ (l0.drop ((wrap64 (a1 + 1)) : Int).toNat))) else (none)) else (none)) else (none))) else (none)) else (none)
def spec_l03Without.T1 : Bool × List (List Nat × List Nat) := (true, [([], []), ([], []), ([0, 1], [0, 1]), ([2], [2]), ([], []), ([], []), ([5], [5]), ([4, 6], [4, 6]), ([3, 7, 3], [3, 7]), ([8, 8, 0, 1, 2, 3, 4, 5, 6, 7, 8], [8])])
def spec_l03Without.B1 : List Nat := [0, 0, 3, 7, 0, 0, 32, 112, 255, 511]
theorem spec_l03Without.tab1 : rtab .any (opsOf Tryd.f114 1) = spec_l03Without.T1 := by kernel_rfl
theorem spec_l03Without.bits1 : waitsOk spec_l03Without.T1.2 spec_l03Without.B1 = true := by kernel_rfl
set_option maxHeartbeats 8000000 in
set_option maxRecDepth 100000 in
theorem spec_l03Without.calls (A0 : Option Addr) (c0 : Nat) (l0 : List Int) (a1 : Int) (r : List Int) (w : World) (hr0 : Kd.C (Kd.int .i64) w A0 l0.length l0) (hc0 : l0.length ≤ c0) (h : spec_l03Without.f l0 a1 = some r) :
  Calls Tryd.prog 114 #[.slice A0 l0.length c0, .int .i64 a1] w fun e w' => ∃ v0_ : Value, e = .returned (v0_) ∧ Kd.R (Kd.int .i64) 2 w' w.heap.size (fun _ => True) v0_ r ∧ Below w.heap.size w w' := by
 have HR0 := zA hr0
 have HC0 := zA hc0
 clear hr0 hc0
 have HB := zA (Below.refl w.heap.size w)
 have H : (if 0 ≤ a1 then (if a1 ≤ (l0.length : Int) then ((spec_l01Own.f (l0.take (a1 : Int).toNat)).bind fun t389 => (if 0 ≤ (wrap64 (a1 + 1)) then (if (wrap64 (a1 + 1)) ≤ (l0.length : Int) then (if t389.length + (l0.drop ((wrap64 (a1 + 1)) : Int).toNat).length < 17592186044416 then (some (t389 ++ (l0.drop ((wrap64 (a1 + 1)) : Int).toNat))) else (none)) else (none)) else (none))) else (none)) else (none)) = some r := h
 clear h
 by_cases c3 : 0 ≤ a1
 ·rw [if_pos c3] at H
  have c3b0 := eq_true c3
  have c3b1 : decide (0 ≤ a1) = true := decide_eq_true c3
  clear c3
  by_cases c4 : a1 ≤ (l0.length : Int)
  ·rw [if_pos c4] at H
   have c4b0 := eq_true c4
   have c4b1 : decide (a1 ≤ (l0.length : Int)) = true := decide_eq_true c4
   clear c4
   obtain ⟨t389, A5, H⟩ := zb H
   try dsimp only at H
   obtain ⟨ji6, hji6⟩ : ∃ j_ : Int, (wrap64 (a1 + 1)) = j_ := ⟨_, rfl⟩
   replace H : (if 0 ≤ (ji6) then (if (ji6) ≤ (l0.length : Int) then (if t389.length + (l0.drop ((ji6) : Int).toNat).length < 17592186044416 then (some (t389 ++ (l0.drop ((ji6) : Int).toNat))) else (none)) else (none)) else (none)) = some r := by first | (rw [hji6] at H; exact H) | (simp only [hji6] at H ⊢; exact H)
   (try rw [hji6] at A5)
   have hji6w : (IntKind.i64.wrap (a1 + 1)) = ji6 := (i64_w _).trans hji6
   by_cases c7 : 0 ≤ (ji6)
   ·rw [if_pos c7] at H
    have c7b0 := eq_true c7
    have c7b1 : decide (0 ≤ (ji6)) = true := decide_eq_true c7
    clear c7
    by_cases c8 : (ji6) ≤ (l0.length : Int)
    ·rw [if_pos c8] at H
     have c8b0 := eq_true c8
     have c8b1 : decide ((ji6) ≤ (l0.length : Int)) = true := decide_eq_true c8
     clear c8
     by_cases c9 : t389.length + (l0.drop ((ji6) : Int).toNat).length < 17592186044416
     ·rw [if_pos c9] at H
      have LMc9 := zA c9
      clear c9
      obtain ⟨y393, hy393⟩ : ∃ y_ : List Int, y_ = (t389 ++ (l0.drop ((ji6) : Int).toNat)) := ⟨_, rfl⟩
      replace H : (some y393) = some r := zy hy393 H
      have Ny393 := zA hy393
      clear hy393
      obtain rfl := Option.some.inj H
      go_enter Tryd.func114, Tryd.ntmps114
      try go_wp2
      replace HB := zA (zD HB.out)
      obtain ⟨i011, hi011, _, hsz11, _⟩ := info_parts info2
      obtain ⟨hcut11, hA11, hC11⟩ := print_take_of (P := Tryd.prog) (Value.int .i64) 0 24 2 .i64 Tryd.underlying24 hi011 hsz11 A0 c0 l0 a1 (zd) (zd) HC0.out
      have HR388 := zA (Kd.C_of_reads (h1 := fun _ => rfl) (hA11 _ (Kd.reads_of_C HR0.out)))
      have HC388 := zA hC11
      clear hA11 hC11 hi011 hsz11
      obtain ⟨i012, hi012, _, hsz12, _⟩ := info_parts info2
      obtain ⟨A12, hcut12, hA12, hC12⟩ := print_drop_of (P := Tryd.prog) (Value.int .i64) 0 24 2 .i64 Tryd.underlying24 hi012 hsz12 A0 c0 l0 (ji6) (zd) (zd) HC0.out
      have HR392 := zA (Kd.C_of_reads (h1 := fun _ => rfl) (hA12 _ (Kd.reads_of_C HR0.out)))
      have HC392 := zA hC12
      clear hA12 hC12 hi012 hsz12
      refine start_ (n := 10) (S := fun w' => True) (ds := []) #[false, false, false, false, false, false, false, false, false, false] (by kernel_rfl) rfl rfl trivial (fun hHeld => ?_); refine with_tabW spec_l03Without.tab1 spec_l03Without.bits1 (fun HT_ HW_ => ?_)
      generalize w.drew = w10 at HB HR388 HR392 hHeld ⊢
      refine zp 0 (some 5) #[true, false, false, false, false, false, false, false, false, false] HT_.out ?_
      refine zp 1 (some 6) #[true, true, false, false, false, false, false, false, false, false] HT_.out ?_
      refine zp 2 (some 7) #[true, true, true, false, false, false, false, false, false, false] HT_.out ?_
      refine zp 4 (some 9) #[true, true, true, false, true, false, false, false, false, false] HT_.out ?_
      refine zp 5 (some 10) #[true, true, true, false, true, true, false, false, false, false] HT_.out ?_
      refine zp 6 (some 11) #[true, true, true, false, true, true, true, false, false, false] HT_.out ?_
      refine zp 7 (some 12) #[true, true, true, false, true, true, true, true, false, false] HT_.out ?_
      refine one_ (i := 3) (N := some 8) #[true, true, true, true, true, true, true, true, false, false] rfl rfl (one_of HT_.out (by kernel_rfl)) (by decide) (fun K hK => ?_)
      refine goes_ Tryd.func76 (by kernel_rfl) rfl #[.slice A0 (l0.take (a1 : Int).toNat).length c0] (by rfl) rfl rfl (by (try simp only [List.map_toArray, List.map_cons, List.map_nil]); first | done | (rw [show (l0.take (a1 : Int).toNat).length = a1.toNat from (by rw [List.length_take]; have h_ : (a1 : Int) ≤ (l0.length : Int) := zd; omega)] <;> rfl) | rfl | (simp only [List.length_drop, List.length_take]; rfl)) ?_
      with_reducible refine (spec_l01Own.calls _ _ (l0.take (a1 : Int).toNat) t389 _ ?side1 ?side2 A5.out).mono ?_
      (case side1 => exact zS (Kd.C_below HR388.out HB.out))
      (case side2 => exact HC388.out)
      rintro e w13 ⟨v390, rfl, ho0, hb⟩
      refine ⟨_, rfl, ?_⟩
      have HO391 := zA (Kd.R_lower ho0 (below_size (zQ HB.out)))
      replace HB := zA (below_step (zQ HB.out) hb)
      (try clear hb)
      (try clear hb2)
      (try clear hk)
      (try clear hi)
      (try clear hgw)
      (try clear ho0)
      refine hK.out _ _ trivial (fun hHeld => ?_)
      clear hK K
      refine norm_ (a' := ?_) ?_ ?_
      rotate_left
      ·show Act.put _ (some 8) _ = _
       simp only [Act.put, zL, zM, zN, i64_w, i32_w]
       rfl
      refine one_ (i := 8) (N := some 13) #[true, true, true, true, true, true, true, true, true, false] rfl rfl (one_of HT_.out (by kernel_rfl)) (by decide) (fun K hK => ?_)
      refine Kd.R_append_rows_step (Kd.int .i64) (w0 := w) w.heap.size (by rfl) (.tmp 8) (.tmp 12) 24 2 (.int .i64 0) 8 rfl Tryd.underlying24 info2 rfl (by decide) (by omega) v390 t389 (l0.drop ((ji6) : Int).toNat) _ _ _ (fun _ => True) (fun _ => False) rfl rfl ?aO ?aR (fun _ _ h => h) (fun _ h => h.elim) ?aF ?aB ?aS ?aL ?_
      (case aR => first | (rw [← show (l0.drop ((ji6) : Int).toNat).length = (l0.length - (ji6).toNat) from List.length_drop]; repeat (first | exact (Kd.C_below HR392.out HB.out) | (with_reducible refine Kd.C_alloc ?_ _) | (with_reducible refine Kd.C_drewN ?_ _) | (with_reducible refine Kd.C_drew ?_))) | (repeat (first | exact (Kd.C_below HR392.out HB.out) | (with_reducible refine Kd.C_alloc ?_ _) | (with_reducible refine Kd.C_drewN ?_ _) | (with_reducible refine Kd.C_drew ?_))))
      (case aB => exact (zQ HB.out))
      (case aF => exact (fun _ _ => trivial))
      (case aO => exact (zP HO391.out))
      (case aS => exact (below_size (zQ HB.out)))
      (case aL => have := LMc9.out; have hlx_ := (show (l0.drop ((ji6) : Int).toNat).length = (l0.length - (ji6).toNat) from List.length_drop); omega)
      intro v394 w14 ho hb hg hat
      rw [← Ny393.out] at ho
      replace HB := zA (hb)
      have HO395 := zA (ho)
      clear HO391 ho hb hg hat
      refine hK.out _ _ trivial (fun hHeld => ?_)
      clear hK K
      refine norm_ (a' := ?_) ?_ ?_
      rotate_left
      ·show Act.put _ (some 13) _ = _
       simp only [Act.put, zL, zM, zN, i64_w, i32_w]
       rfl
      refine zp 9 (some 4) #[true, true, true, true, true, true, true, true, true, true] HT_.out ?_
      refine done_ (done_of HT_.out (by kernel_rfl)) ?_
      try go_wp2
      go_ret
      exact ⟨_, by first | rfl | (simp [errW_none, errW_some] <;> rfl) | (simp only [← hji6]; first | rfl | (simp [errW_none, errW_some] <;> rfl)) | (simp [*, errW_none, errW_some] <;> rfl), zP HO395.out, zQ HB.out⟩
     rw [if_neg c9] at H
     exact absurd H (by simp)
    rw [if_neg c8] at H
    exact absurd H (by simp)
   rw [if_neg c7] at H
   exact absurd H (by simp)
  rw [if_neg c4] at H
  exact absurd H (by simp)
 rw [if_neg c3] at H
 exact absurd H (by simp)

end Go.Proofs.YtkiacoilecdepaaDoor.PAll
