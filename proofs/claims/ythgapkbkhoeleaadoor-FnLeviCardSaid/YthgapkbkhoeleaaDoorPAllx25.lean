-- Printed by a program of the session (wip/tools/pgen.py) out of the translation. Not trusted: Lean checks it.
import Derived.Test.YthgapkbkhoeleaaDoorPAllx0
import Derived.Test.YthgapkbkhoeleaaDoorPAllx2
import Derived.Test.YthgapkbkhoeleaaDoorPAllx8
import Derived.Test.YthgapkbkhoeleaaDoorPAllx16
import Derived.Test.YthgapkbkhoeleaaDoorPAllx24
namespace Go.Proofs.YthgapkbkhoeleaaDoor.PAll
open Go.RowKit Go.Proofs.YthgapkbkhoeleaaDoor.T Go.Proofs.YthgapkbkhoeleaaDoorW.PrintWords Go.Proofs.YthgapkbkhoeleaaDoorW.PrintLast Go.Proofs.YthgapkbkhoeleaaDoorW.PrintMore
attribute [local go_sem] max2_int min2_int max_two min_two max_three min_three max_four min_four   -- for this text's walks alone
set_option linter.unusedVariables false
set_option linter.unusedSimpArgs false

/-! ### spec_DrawLeviOf: function 48 -/
mutual
def spec_DrawLeviOf.j0 : Nat → List Int → List Int → List Int → List Int → Bool → List Int → Int → Int → Int → List Int → Option (Int × List Int × List Int × List Int × List Int × List Int)
 | 0, _, _, _, _, _, _, _, _, _, _ => none
 | k + 1, x14, x15, x16, x17, x67, x596000, x596001, x596002, x604000, x604001 => if x67 = true then ((spec_l01Next.f x596000 x596001 x596002 (x14.length : Int)).bind fun bt658 => ((spec_l01Next.f x596000 bt658.2.1 bt658.2.2 x604000).bind fun bt661 => (if 0 ≤ bt658.1 then (if bt658.1 < (x14.length : Int) then (some (x604000, x604001, (x14.set (bt658.1 : Int).toNat bt661.1), x15, x16, x17)) else (none)) else (none)))) else (if x604000 > 0 then ((spec_l01Next.f x596000 x596001 x596002 16).bind fun bt665 => (spec_DrawLeviOf.j1 k x14 x15 x16 x17 (bt665.1 == 0) x596000 bt665.2.1 bt665.2.2 x604000 x604001)) else (spec_DrawLeviOf.j1 k x14 x15 x16 x17 false x596000 x596001 x596002 x604000 x604001))
def spec_DrawLeviOf.j1 : Nat → List Int → List Int → List Int → List Int → Bool → List Int → Int → Int → Int → List Int → Option (Int × List Int × List Int × List Int × List Int × List Int)
 | 0, _, _, _, _, _, _, _, _, _, _ => none
 | k + 1, x14, x15, x16, x17, x86, x596000, x596001, x596002, x604000, x604001 => if x86 = true then (spec_DrawLeviOf.l0 k x14 x15 x16 x17 x604000 x604001) else ((spec_l01Next.f x596000 x596001 x596002 20).bind fun bt671 => (if bt671.1 = 0 then (if x15.length < 17592186044416 then (some (x604000, x604001, x14, (x15 ++ [x604000]), x16, x17)) else (none)) else (some (x604000, x604001, x14, x15, x16, x17))))
def spec_DrawLeviOf.l0 : Nat → List Int → List Int → List Int → List Int → Int → List Int → Option (Int × List Int × List Int × List Int × List Int × List Int)
 | 0, _, _, _, _, _, _ => none
 | k + 1, x14, x15, x16, x17, x604000, x604001 => if (x17.length : Int) < 24 then (if x17.length < 17592186044416 then (spec_DrawLeviOf.l0 k x14 x15 x16 (x17 ++ [0]) x604000 x604001) else (none)) else (some (x604000, x604001, x14, x15, x16, x17))
end
def spec_DrawLeviOf.f (k : Nat) (l0 : List Int) : Option (Int × List Int × List Int × List Int × List Int × List Int) := (spec_l03Pair.f k l0 6 22).bind fun bt592 => ((spec_l03Is.f k bt592.2.2.2.1 bt592.2.2.2.2.1 bt592.2.2.2.2.2).bind fun t604 => (if t604 = true then ((spec_l03Shuffle.f k bt592.1 bt592.2.1 bt592.2.2.1 bt592.2.2.2.1 bt592.2.2.2.2.1 bt592.2.2.2.2.2).bind fun bt611 => ((spec_l03Shuffle.f k bt592.1 bt611.2.1 bt611.2.2 bt592.2.2.2.1 bt592.2.2.2.2.1 bt592.2.2.2.2.2).bind fun bt616 => ((spec_l01Next.f bt592.1 bt616.2.1 bt616.2.2 (wrap64 ((bt611.1.length : Int) + 1))).bind fun bt621 => ((spec_l01Next.f bt592.1 bt621.2.1 bt621.2.2 (wrap64 ((bt616.1.length : Int) + 1))).bind fun bt624 => (if 0 ≤ bt621.1 then (if bt621.1 ≤ (bt611.1.length : Int) then ((spec_l01Own.f (bt611.1.take (bt621.1 : Int).toNat)).bind fun t631 => ((spec_l01Own.f (bt611.1.drop (bt621.1 : Int).toNat)).bind fun t638 => (if 0 ≤ bt624.1 then (if bt624.1 ≤ (bt616.1.length : Int) then ((spec_l01Own.f (bt616.1.take (bt624.1 : Int).toNat)).bind fun t645 => ((spec_l01Own.f (bt616.1.drop (bt624.1 : Int).toNat)).bind fun t652 => (if (t631.length : Int) > 0 then ((spec_l01Next.f bt592.1 bt624.2.1 bt624.2.2 8).bind fun bt655 => (spec_DrawLeviOf.j0 k t631 t638 t645 t652 (bt655.1 == 0) bt592.1 bt655.2.1 bt655.2.2 bt592.2.2.2.1 bt592.2.2.2.2.1)) else (spec_DrawLeviOf.j0 k t631 t638 t645 t652 false bt592.1 bt624.2.1 bt624.2.2 bt592.2.2.2.1 bt592.2.2.2.2.1)))) else (none)) else (none)))) else (none)) else (none)))))) else (some (bt592.2.2.2.1, bt592.2.2.2.2.1, bt592.2.2.2.2.2, (([0] : List Int)), bt592.2.2.2.2.2, (([0] : List Int))))))

def spec_DrawLeviOf.T4 : Bool × List (List Nat × List Nat) := (true, [([], []), ([], []), ([], []), ([0, 1, 2], [0, 1, 2]), ([], []), ([], []), ([], []), ([4, 5, 6, 3], [4, 5, 6]), ([3, 7, 0, 1, 2, 3], [3]), ([7, 8, 0, 1, 2, 3, 4, 5, 6, 7, 8], [7])])
def spec_DrawLeviOf.B4 : List Nat := [0, 0, 0, 7, 0, 0, 0, 127, 255, 511]
theorem spec_DrawLeviOf.tab4 : rtab .any (opsOf Tryd.f48 4) = spec_DrawLeviOf.T4 := by kernel_rfl
theorem spec_DrawLeviOf.bits4 : waitsOk spec_DrawLeviOf.T4.2 spec_DrawLeviOf.B4 = true := by kernel_rfl
def spec_DrawLeviOf.T6 : Bool × List (List Nat × List Nat) := (true, [([], []), ([], []), ([0, 1], [0, 1]), ([2], [2]), ([], []), ([], []), ([4, 5], [4, 5]), ([6, 3], [6]), ([], []), ([], []), ([8, 9], [8, 9]), ([10, 7], [10]), ([], []), ([], []), ([12, 13], [12, 13]), ([14, 11], [14]), ([3, 15, 0, 1, 2, 3], [3]), ([7, 16, 0, 1, 2, 3, 4, 5, 6, 7, 16], [7]), ([11, 17, 0, 1, 2, 3, 4, 5, 6, 7, 8, 9, 10, 11, 16, 17], [11]), ([15, 18, 0, 1, 2, 3, 4, 5, 6, 7, 8, 9, 10, 11, 12, 13, 14, 15, 16, 17, 18], [15])])
def spec_DrawLeviOf.B6 : List Nat := [0, 0, 3, 7, 0, 0, 48, 127, 0, 0, 768, 2047, 0, 0, 12288, 32767, 65535, 131071, 262143, 524287]
theorem spec_DrawLeviOf.tab6 : rtab .any (opsOf Tryd.f48 6) = spec_DrawLeviOf.T6 := by kernel_rfl
theorem spec_DrawLeviOf.bits6 : waitsOk spec_DrawLeviOf.T6.2 spec_DrawLeviOf.B6 = true := by kernel_rfl
def spec_DrawLeviOf.T8 : Bool × List (List Nat × List Nat) := (true, [([], []), ([], []), ([], []), ([2], [2]), ([1, 3], [1, 3]), ([], []), ([], []), ([6], [6]), ([5, 7, 4], [5, 7]), ([0, 4, 0, 1, 2, 3, 4, 5, 6, 7, 8], [0, 4]), ([9, 8, 8, 0, 1, 2, 3, 4, 5, 6, 7, 8], [8, 9])])
def spec_DrawLeviOf.B8 : List Nat := [0, 0, 0, 4, 14, 0, 0, 64, 254, 511, 1023]
theorem spec_DrawLeviOf.tab8 : rtab .any (opsOf Tryd.f48 8) = spec_DrawLeviOf.T8 := by kernel_rfl
theorem spec_DrawLeviOf.bits8 : waitsOk spec_DrawLeviOf.T8.2 spec_DrawLeviOf.B8 = true := by kernel_rfl
set_option maxHeartbeats 8000000 in
set_option maxRecDepth 100000 in
theorem spec_DrawLeviOf.calls (k : Nat) (A0 : Option Addr) (c0 : Nat) (l0 : List Int) (r1 : Int) (r2 : List Int) (r3 : List Int) (r4 : List Int) (r5 : List Int) (r6 : List Int) (w : World) (hr0 : Kd.C (Kd.int .u8) w A0 l0.length l0) (hc0 : l0.length ≤ c0) (h : spec_DrawLeviOf.f k l0 = some (r1, r2, r3, r4, r5, r6)) :
  Calls Tryd.prog 48 #[.slice A0 l0.length c0] w fun e w' => ∃ v1_ v2_ v3_ v4_ v5_ : Value, e = .returned (.tuple #[.agg #[.int .i64 r1, v1_], v2_, v3_, v4_, v5_]) ∧ Kd.R (Kd.int .i64) 2 w' w.heap.size (fun k_ => (w.heap.size ≤ k_) ∧ some k_ ≠ (v3_ : Value).ownBlock ∧ some k_ ≠ (v5_ : Value).ownBlock) v1_ r2 ∧ Kd.V (Kd.int .i64) 2 w' w.heap.size (fun k_ => (w.heap.size ≤ k_) ∧ some k_ ≠ (v1_ : Value).ownBlock ∧ some k_ ≠ (v3_ : Value).ownBlock ∧ some k_ ≠ (v5_ : Value).ownBlock) v2_ r3 ∧ Kd.R (Kd.int .i64) 2 w' w.heap.size (fun k_ => (w.heap.size ≤ k_) ∧ some k_ ≠ (v1_ : Value).ownBlock ∧ some k_ ≠ (v5_ : Value).ownBlock) v3_ r4 ∧ Kd.V (Kd.int .i64) 2 w' w.heap.size (fun k_ => (w.heap.size ≤ k_) ∧ some k_ ≠ (v1_ : Value).ownBlock ∧ some k_ ≠ (v3_ : Value).ownBlock ∧ some k_ ≠ (v5_ : Value).ownBlock) v4_ r5 ∧ Kd.R (Kd.int .i64) 2 w' w.heap.size (fun k_ => (w.heap.size ≤ k_) ∧ some k_ ≠ (v1_ : Value).ownBlock ∧ some k_ ≠ (v3_ : Value).ownBlock) v5_ r6 ∧ Below w.heap.size w w' := by
 have hu29 := Tryd.underlying29
 have HR0 := zA hr0
 have HC0 := zA hc0
 clear hr0 hc0
 have HB := zA (kW w.heap.size w)
 have H := h
 unfold spec_DrawLeviOf.f at H
 clear h
 obtain ⟨⟨t592, t593, t594, t596, t597, t600⟩, A2, H⟩ := zb H
 try dsimp only at H
 obtain ⟨t604, A3, H⟩ := zb H
 try dsimp only at H
 by_cases c4 : t604 = true
 ·subst c4
  rw [if_pos rfl] at H
  obtain ⟨⟨t611, t614, t615⟩, A5, H⟩ := zb H
  try dsimp only at H
  obtain ⟨⟨t616, t619, t620⟩, A6, H⟩ := zb H
  try dsimp only at H
  obtain ⟨⟨t621, t622, t623⟩, A7, H⟩ := zb H
  try dsimp only at H
  obtain ⟨⟨t624, t625, t626⟩, A8, H⟩ := zb H
  try dsimp only at H
  by_cases c9 : 0 ≤ t621
  ·rw [if_pos c9] at H
   have c9b0 := eq_true c9
   have c9b1 : decide (0 ≤ t621) = true := decide_eq_true c9
   clear c9
   by_cases c10 : t621 ≤ (t611.length : Int)
   ·rw [if_pos c10] at H
    have c10b0 := eq_true c10
    have c10b1 : decide (t621 ≤ (t611.length : Int)) = true := decide_eq_true c10
    clear c10
    obtain ⟨y627, hy627⟩ : ∃ y_ : List Int, y_ = (t611.take (t621 : Int).toNat) := ⟨_, rfl⟩
    replace H : ((spec_l01Own.f y627).bind fun t631 => ((spec_l01Own.f (t611.drop (t621 : Int).toNat)).bind fun t638 => (if 0 ≤ t624 then (if t624 ≤ (t616.length : Int) then ((spec_l01Own.f (t616.take (t624 : Int).toNat)).bind fun t645 => ((spec_l01Own.f (t616.drop (t624 : Int).toNat)).bind fun t652 => (if (t631.length : Int) > 0 then ((spec_l01Next.f t592 t625 t626 8).bind fun bt655 => (spec_DrawLeviOf.j0 k t631 t638 t645 t652 (bt655.1 == 0) t592 bt655.2.1 bt655.2.2 t596 t597)) else (spec_DrawLeviOf.j0 k t631 t638 t645 t652 false t592 t625 t626 t596 t597)))) else (none)) else (none)))) = some (r1, r2, r3, r4, r5, r6) := zy hy627 H
    have Ny627 := zA hy627
    clear hy627
    obtain ⟨t631, A11, H⟩ := zb H
    try dsimp only at H
    have c12b0 := eq_true (zd : 0 ≤ t621)
    have c13b0 := eq_true (zd : t621 ≤ (t611.length : Int))
    obtain ⟨y634, hy634⟩ : ∃ y_ : List Int, y_ = (t611.drop (t621 : Int).toNat) := ⟨_, rfl⟩
    replace H : ((spec_l01Own.f y634).bind fun t638 => (if 0 ≤ t624 then (if t624 ≤ (t616.length : Int) then ((spec_l01Own.f (t616.take (t624 : Int).toNat)).bind fun t645 => ((spec_l01Own.f (t616.drop (t624 : Int).toNat)).bind fun t652 => (if (t631.length : Int) > 0 then ((spec_l01Next.f t592 t625 t626 8).bind fun bt655 => (spec_DrawLeviOf.j0 k t631 t638 t645 t652 (bt655.1 == 0) t592 bt655.2.1 bt655.2.2 t596 t597)) else (spec_DrawLeviOf.j0 k t631 t638 t645 t652 false t592 t625 t626 t596 t597)))) else (none)) else (none))) = some (r1, r2, r3, r4, r5, r6) := zy hy634 H
    have Ny634 := zA hy634
    clear hy634
    obtain ⟨t638, A14, H⟩ := zb H
    try dsimp only at H
    by_cases c15 : 0 ≤ t624
    ·rw [if_pos c15] at H
     have c15b0 := eq_true c15
     have c15b1 : decide (0 ≤ t624) = true := decide_eq_true c15
     clear c15
     by_cases c16 : t624 ≤ (t616.length : Int)
     ·rw [if_pos c16] at H
      have c16b0 := eq_true c16
      have c16b1 : decide (t624 ≤ (t616.length : Int)) = true := decide_eq_true c16
      clear c16
      obtain ⟨y641, hy641⟩ : ∃ y_ : List Int, y_ = (t616.take (t624 : Int).toNat) := ⟨_, rfl⟩
      replace H : ((spec_l01Own.f y641).bind fun t645 => ((spec_l01Own.f (t616.drop (t624 : Int).toNat)).bind fun t652 => (if (t631.length : Int) > 0 then ((spec_l01Next.f t592 t625 t626 8).bind fun bt655 => (spec_DrawLeviOf.j0 k t631 t638 t645 t652 (bt655.1 == 0) t592 bt655.2.1 bt655.2.2 t596 t597)) else (spec_DrawLeviOf.j0 k t631 t638 t645 t652 false t592 t625 t626 t596 t597)))) = some (r1, r2, r3, r4, r5, r6) := zy hy641 H
      have Ny641 := zA hy641
      clear hy641
      obtain ⟨t645, A17, H⟩ := zb H
      try dsimp only at H
      have c18b0 := eq_true (zd : 0 ≤ t624)
      have c19b0 := eq_true (zd : t624 ≤ (t616.length : Int))
      obtain ⟨y648, hy648⟩ : ∃ y_ : List Int, y_ = (t616.drop (t624 : Int).toNat) := ⟨_, rfl⟩
      replace H : ((spec_l01Own.f y648).bind fun t652 => (if (t631.length : Int) > 0 then ((spec_l01Next.f t592 t625 t626 8).bind fun bt655 => (spec_DrawLeviOf.j0 k t631 t638 t645 t652 (bt655.1 == 0) t592 bt655.2.1 bt655.2.2 t596 t597)) else (spec_DrawLeviOf.j0 k t631 t638 t645 t652 false t592 t625 t626 t596 t597))) = some (r1, r2, r3, r4, r5, r6) := zy hy648 H
      have Ny648 := zA hy648
      clear hy648
      obtain ⟨t652, A20, H⟩ := zb H
      try dsimp only at H
      have HC21 := zA H
      clear H
      go_enter Tryd.func48, Tryd.ntmps48
      try go_wp2_with (first | (refine zBE 2 #[.int .i64 0, .slice none 0 0] 29 ?_; intro gb591 hg w22 hbox hb; have BK591 := zA (hbox); have GW591 := zA (zBH hg HB.out); have GE591 := zA (zBH hg HB.out); replace HB := zA (kQ (zQ HB.out) hb); clear hb hbox hg) | (refine zO (some 20) Tryd.func114 #[.slice A0 l0.length c0, .int .i64 6, .int .i64 22] ?_; (with_reducible refine (spec_l03Pair.calls k _ _ l0 6 22 t592 t593 t594 t596 t597 t600 w _ ?side1 ?side2 ?side3 A2.out).mono ?_); (case side1 => exact zT HB.out GE591.out); (case side2 => exact HR0.out); (case side3 => exact HC0.out); rintro e w23 ⟨v598, v601, g595, rfl, ho0, ho1, hi, hb, hb2, hgw⟩; refine ⟨_, rfl, ?_⟩; have HO599 := zA (kI (Kd.R_newM (M := fun k_ => (w.heap.size ≤ k_)) ho0 (kP (zT HB.out GE591.out)) (fun k_ h_ => h_)) (kP (zT HB.out GE591.out))); have HO602 := zA (kI (Kd.R_newM (M := fun k_ => (w.heap.size ≤ k_)) ho1 (kP (zT HB.out GE591.out)) (fun k_ h_ => h_)) (kP (zT HB.out GE591.out))); replace HB := zA (hb); have HI595 := zA (hi); have NB595_591 := zA (Z140.ne_blk hi (blk_below (g := gb591) (o := .cells #[.int .i64 0, .slice none 0 0] 29 (0, 0)) (zR BK591.out) hb2) (by decide)); have NB591_595 := zA (Ne.symm (Z140.ne_blk hi (blk_below (g := gb591) (o := .cells #[.int .i64 0, .slice none 0 0] 29 (0, 0)) (zR BK591.out) hb2) (by decide))); replace BK591 := zA (zB1 BK591.out hb2); (try clear hb); (try clear hb2); (try clear hi); (try clear hgw); (try clear ho0); (try clear ho1)) | (refine zBE 8 #[.int .i64 0, .slice none 0 0] 29 ?_; intro gb603 hg w24 hbox hb; replace HO599 := zA (kL (zP HO599.out) hb); replace HO602 := zA (kL (zP HO602.out) hb); have BK603 := zA (hbox); have GW603 := zA (zB6 hg (kP (zV HB.out (Z140.ge HI595.out) GE591.out)) : w.heap.size ≤ gb603); have GE603 := zA (zB6 hg (kP (zV HB.out (Z140.ge HI595.out) GE591.out)) : w.heap.size ≤ gb603); replace HB := zA (kQ (zV HB.out (Z140.ge HI595.out) GE591.out) hb); have NB591_603 := zA (zB4 hg BK591.out : gb591 ≠ gb603); have NB603_591 := zA (zB5 hg BK591.out : gb603 ≠ gb591); replace BK591 := zA (zB1 BK591.out hb); have NB595_603 := zA (zB7 hg (Z140.lt (show Z140 w _ g595 t592 t593 t594 from Z140.uB HI595.out NB595_591.out)) : g595 ≠ gb603); have NB603_595 := zA (zB8 hg (Z140.lt (show Z140 w _ g595 t592 t593 t594 from Z140.uB HI595.out NB595_591.out)) : gb603 ≠ g595); replace HI595 := zA (Z140.below (Z140.uB HI595.out NB595_591.out) hb); clear hb hbox hg; have hnb25 := NB603_591.out; have hnc25 := NB591_603.out; have hnb26 := NB603_595.out; have hnc26 := NB595_603.out; obtain ⟨hcz27_0, hcz27_1, hfz27_0, hfz27_1⟩ := zB3 BK603.out; obtain ⟨Ao28, co28, eo28⟩ := kM HO599.out; subst eo28; obtain ⟨Ao29, co29, eo29⟩ := kM HO602.out; subst eo29) | (refine zO (some 26) Tryd.func126 #[.agg #[.int .i64 t596, .slice Ao28 t597.length co28], .slice Ao29 t600.length co29] ?_; (with_reducible refine (spec_l03Is.calls k t596 _ _ t597 _ _ t600 true _ ?side1 ?side2 ?side3 ?side4 A3.out).mono ?_); (case side1 => refine (kB (e := 2) (base := w.heap.size) (ok := fun k_ => ((w.heap.size ≤ k_) ∧ some k_ ≠ (.slice Ao29 t600.length co29 : Value).ownBlock)) (n := t597.length) (c := co28) ?_).2.2; exact (zP (zFG HO599.out BK603.out (.int .i64 t596) (.slice Ao28 t597.length co28)))); (case side2 => exact (kB HO599.out).2.1); (case side3 => refine (kB (e := 2) (base := w.heap.size) (ok := fun k_ => ((w.heap.size ≤ k_) ∧ some k_ ≠ (.slice Ao28 t597.length co28 : Value).ownBlock)) (n := t600.length) (c := co29) ?_).2.2; exact (zP (zFG HO602.out BK603.out (.int .i64 t596) (.slice Ao28 t597.length co28)))); (case side4 => exact (kB HO602.out).2.1); rintro e w30 ⟨rfl, hb⟩; refine ⟨_, rfl, ?_⟩; replace HO599 := zA (kL (zP (zFG HO599.out BK603.out (.int .i64 t596) (.slice Ao28 t597.length co28))) hb); replace HO602 := zA (kL (zP (zFG HO602.out BK603.out (.int .i64 t596) (.slice Ao28 t597.length co28))) hb); replace BK591 := zA (blk_below (g := gb591) (o := .cells #[.int .i64 0, .slice none 0 0] 29 (0, 0)) (zBG BK591.out NB591_603.out NB591_603.out) hb); replace BK603 := zA (blk_below (g := gb603) (o := .cells #[.int .i64 t596, .slice Ao28 t597.length co28] 29 (0, 0)) (zRP BK603.out) hb); replace HB := zA (kQ (zW HB.out (Z140.ge HI595.out) GE591.out GE603.out) hb); replace HI595 := zA (Z140.below (show Z140 w ((w24.setCell ⟨gb603, 0, none⟩ (.int .i64 t596)).setCell ⟨gb603, 1, none⟩ (.slice Ao28 t597.length co28)) g595 t592 t593 t594 from Z140.uC HI595.out NB595_591.out NB595_603.out) hb); (try clear hb)))
      replace HO599 := zA (zH HO599.out)
      replace HO602 := zA (zH HO602.out)
      replace BK591 := zA (zK BK591.out)
      replace BK603 := zA (zK BK603.out)
      replace HI595 := zA (Z140.drew HI595.out)
      replace HB := zA (zD HB.out)
      refine start_ (n := 10) (S := fun w' => w'.cell? ⟨gb603, 0, none⟩ = some (.int .i64 t596) ∧ w'.cell? ⟨gb603, 1, none⟩ = some (.slice Ao28 t597.length co28)) (ds := []) #[false, false, false, false, false, false, false, false, false, false] (by kernel_rfl) rfl rfl ⟨(kV BK603.out 0).trans rfl, (kV BK603.out 1).trans rfl⟩ (fun hHeld => ?_); refine with_tabW spec_DrawLeviOf.tab4 spec_DrawLeviOf.bits4 (fun HT_ HW_ => ?_)
      generalize w30.drew = w31 at HO599 HO602 BK591 BK603 HI595 HB hHeld ⊢
      refine zp 0 (some 33) #[true, false, false, false, false, false, false, false, false, false] HT_.out ?_
      refine zp 2 (some 35) #[true, false, true, false, false, false, false, false, false, false] HT_.out ?_
      refine zp 4 (some 37) #[true, false, true, false, true, false, false, false, false, false] HT_.out ?_
      refine zp 6 (some 39) #[true, false, true, false, true, false, true, false, false, false] HT_.out ?_
      refine zc 1 (some 34) #[true, true, true, false, true, false, true, false, false, false] HT_.out HW_.out hHeld ?_
      refine zc 5 (some 38) #[true, true, true, false, true, true, true, false, false, false] HT_.out HW_.out hHeld ?_
      refine one_ (i := 3) (N := some 36) #[true, true, true, true, true, true, true, false, false, false] rfl rfl (one_of HT_.out (by kernel_rfl)) (by decide) (fun K hK => ?_)
      refine goes_ Tryd.func127 (by kernel_rfl) rfl #[.pointer (some ⟨g595, 0, none⟩), .agg #[.int .i64 t596, .slice Ao28 t597.length co28], .slice Ao29 t600.length co29] (by rfl) rfl rfl zg ?_
      with_reducible refine (spec_l03Shuffle.calls k g595 t592 t593 t594 t596 _ _ t597 _ _ t600 t611 t614 t615 w _ ?side1 ?side2 ?side3 ?side4 ?side5 ?side6 ?side7 ?side8 A5.out).mono ?_
      (case side1 => exact Z140.uC HI595.out NB595_591.out NB595_603.out)
      (case side2 => exact zW HB.out (Z140.ge HI595.out) GE591.out GE603.out)
      (case side3 => exact zS (kB HO599.out).2.2)
      (case side4 => exact (kB HO599.out).2.1)
      (case side5 => exact jJ (Z140.own_ne HI595.out HO599.out (by decide)))
      (case side6 => exact zS (kB HO602.out).2.2)
      (case side7 => exact (kB HO602.out).2.1)
      (case side8 => exact jJ (Z140.own_ne HI595.out HO602.out (by decide)))
      rintro e w32 ⟨v612, rfl, ho0, hi, hb, hk⟩
      refine ⟨_, rfl, ?_⟩
      replace BK591 := zA (zB2 hk BK591.out NB591_595.out)
      replace BK603 := zA (zB2 hk BK603.out NB603_595.out)
      have HO613 := zA (kI (kF (kF (Kd.R_newM (M := fun k_ => (w.heap.size ≤ k_)) ho0 (kP (zW HB.out (Z140.ge HI595.out) GE591.out GE603.out)) (fun k_ h_ => h_)) (kH (zP HO599.out))) (kH (zP HO602.out))) (kP (zW HB.out (Z140.ge HI595.out) GE591.out GE603.out)))
      replace HO599 := zA (kA (Kd.R_told (Kd.R_oldK (Z140.apart (show Z140 w _ g595 t592 t593 t594 from Z140.uC HI595.out NB595_591.out NB595_603.out) (zP HO599.out) (by decide)) hk) (kC ho0)) (fun _ h_ => h_.1))
      replace HO602 := zA (kA (Kd.R_told (Kd.R_oldK (Z140.apart (show Z140 w _ g595 t592 t593 t594 from Z140.uC HI595.out NB595_591.out NB595_603.out) (zP HO602.out) (by decide)) hk) (kC ho0)) (fun _ h_ => h_.1))
      replace HB := zA (hb)
      replace HI595 := zA (hi)
      (try clear hb)
      (try clear hb2)
      (try clear hk)
      (try clear hi)
      (try clear hgw)
      (try clear ho0)
      refine hK.out _ _ ⟨(kV BK603.out 0).trans rfl, (kV BK603.out 1).trans rfl⟩ (fun hHeld => ?_)
      clear hK K
      refine norm_ (a' := ?_) ?_ ?_
      rotate_left
      ·show Act.put _ (some 36) _ = _
       simp only [Act.put, zL, zM, zN, i64_w, i32_w]
       rfl
      refine one_ (i := 7) (N := some 40) #[true, true, true, true, true, true, true, true, false, false] rfl rfl (one_of HT_.out (by kernel_rfl)) (by decide) (fun K hK => ?_)
      refine goes_ Tryd.func127 (by kernel_rfl) rfl #[.pointer (some ⟨g595, 0, none⟩), .agg #[.int .i64 t596, .slice Ao28 t597.length co28], .slice Ao29 t600.length co29] (by rfl) rfl rfl zg ?_
      with_reducible refine (spec_l03Shuffle.calls k g595 t592 t614 t615 t596 _ _ t597 _ _ t600 t616 t619 t620 w _ ?side1 ?side2 ?side3 ?side4 ?side5 ?side6 ?side7 ?side8 A6.out).mono ?_
      (case side1 => exact Z140.uC HI595.out NB595_591.out NB595_603.out)
      (case side2 => exact zW HB.out (Z140.ge HI595.out) GE591.out GE603.out)
      (case side3 => exact zS (kB HO599.out).2.2)
      (case side4 => exact (kB HO599.out).2.1)
      (case side5 => exact jJ (Z140.own_ne HI595.out HO599.out (by decide)))
      (case side6 => exact zS (kB HO602.out).2.2)
      (case side7 => exact (kB HO602.out).2.1)
      (case side8 => exact jJ (Z140.own_ne HI595.out HO602.out (by decide)))
      rintro e w33 ⟨v617, rfl, ho0, hi, hb, hk⟩
      refine ⟨_, rfl, ?_⟩
      replace BK591 := zA (zB2 hk BK591.out NB591_595.out)
      replace BK603 := zA (zB2 hk BK603.out NB603_595.out)
      have HO618 := zA (kI (kF (kF (kF (Kd.R_newM (M := fun k_ => (w.heap.size ≤ k_)) ho0 (kP (zW HB.out (Z140.ge HI595.out) GE591.out GE603.out)) (fun k_ h_ => h_)) (kH (zP HO599.out))) (kH (zP HO602.out))) (kH (zP HO613.out))) (kP (zW HB.out (Z140.ge HI595.out) GE591.out GE603.out)))
      replace HO599 := zA (kA (Kd.R_told (Kd.R_oldK (Z140.apart (show Z140 w _ g595 t592 t614 t615 from Z140.uC HI595.out NB595_591.out NB595_603.out) (zP HO599.out) (by decide)) hk) (kC ho0)) (fun _ h_ => h_.1))
      replace HO602 := zA (kA (Kd.R_told (Kd.R_oldK (Z140.apart (show Z140 w _ g595 t592 t614 t615 from Z140.uC HI595.out NB595_591.out NB595_603.out) (zP HO602.out) (by decide)) hk) (kC ho0)) (fun _ h_ => h_.1))
      replace HO613 := zA (kA (Kd.R_told (Kd.R_oldK (Z140.apart (show Z140 w _ g595 t592 t614 t615 from Z140.uC HI595.out NB595_591.out NB595_603.out) (zP HO613.out) (by decide)) hk) (kC ho0)) (fun _ h_ => h_.1))
      replace HB := zA (hb)
      replace HI595 := zA (hi)
      (try clear hb)
      (try clear hb2)
      (try clear hk)
      (try clear hi)
      (try clear hgw)
      (try clear ho0)
      refine hK.out _ _ ⟨(kV BK603.out 0).trans rfl, (kV BK603.out 1).trans rfl⟩ (fun hHeld => ?_)
      clear hK K
      refine norm_ (a' := ?_) ?_ ?_
      rotate_left
      ·show Act.put _ (some 40) _ = _
       simp only [Act.put, zL, zM, zN, i64_w, i32_w]
       rfl
      refine zp 8 (some 10) #[true, true, true, true, true, true, true, true, true, false] HT_.out ?_
      refine zp 9 (some 11) #[true, true, true, true, true, true, true, true, true, true] HT_.out ?_
      refine done_ (done_of HT_.out (by kernel_rfl)) ?_
      obtain ⟨Ao34, co34, eo34⟩ := kM HO613.out
      subst eo34
      try go_wp2_with (first | (refine zO (some 45) Tryd.func128 #[.pointer (some ⟨g595, 0, none⟩), .int .i64 (wrap64 ((t611.length : Int) + 1))] ?_; (with_reducible refine (spec_l01Next.calls g595 t592 t619 t620 (wrap64 ((t611.length : Int) + 1)) t621 t622 t623 w _ ?side1 ?side2 A7.out).mono ?_); (case side1 => exact Z140.uC HI595.out NB595_591.out NB595_603.out); (case side2 => exact zW HB.out (Z140.ge HI595.out) GE591.out GE603.out); rintro e w35 ⟨rfl, hi, hb, hk⟩; refine ⟨_, rfl, ?_⟩; replace BK591 := zA (zB2 hk BK591.out NB591_595.out); replace HO599 := zA (zB9 (Z140.apart (show Z140 w _ g595 t592 t619 t620 from Z140.uC HI595.out NB595_591.out NB595_603.out) (zP HO599.out) (by decide)) hk); replace HO602 := zA (zB9 (Z140.apart (show Z140 w _ g595 t592 t619 t620 from Z140.uC HI595.out NB595_591.out NB595_603.out) (zP HO602.out) (by decide)) hk); replace BK603 := zA (zB2 hk BK603.out NB603_595.out); replace HO613 := zA (zB9 (Z140.apart (show Z140 w _ g595 t592 t619 t620 from Z140.uC HI595.out NB595_591.out NB595_603.out) (zP HO613.out) (by decide)) hk); replace HO618 := zA (zB9 (Z140.apart (show Z140 w _ g595 t592 t619 t620 from Z140.uC HI595.out NB595_591.out NB595_603.out) (zP HO618.out) (by decide)) hk); replace HB := zA (hb); replace HI595 := zA (hi); (try clear hb); (try clear hk); (try clear hi); obtain ⟨Ao36, co36, eo36⟩ := kM HO618.out; subst eo36) | (refine zO (some 50) Tryd.func128 #[.pointer (some ⟨g595, 0, none⟩), .int .i64 (wrap64 ((t616.length : Int) + 1))] ?_; (with_reducible refine (spec_l01Next.calls g595 t592 t622 t623 (wrap64 ((t616.length : Int) + 1)) t624 t625 t626 w _ ?side1 ?side2 A8.out).mono ?_); (case side1 => exact Z140.uC HI595.out NB595_591.out NB595_603.out); (case side2 => exact zW HB.out (Z140.ge HI595.out) GE591.out GE603.out); rintro e w37 ⟨rfl, hi, hb, hk⟩; refine ⟨_, rfl, ?_⟩; replace BK591 := zA (zB2 hk BK591.out NB591_595.out); replace HO599 := zA (zB9 (Z140.apart (show Z140 w _ g595 t592 t622 t623 from Z140.uC HI595.out NB595_591.out NB595_603.out) (zP HO599.out) (by decide)) hk); replace HO602 := zA (zB9 (Z140.apart (show Z140 w _ g595 t592 t622 t623 from Z140.uC HI595.out NB595_591.out NB595_603.out) (zP HO602.out) (by decide)) hk); replace BK603 := zA (zB2 hk BK603.out NB603_595.out); replace HO613 := zA (zB9 (Z140.apart (show Z140 w _ g595 t592 t622 t623 from Z140.uC HI595.out NB595_591.out NB595_603.out) (zP HO613.out) (by decide)) hk); replace HO618 := zA (zB9 (Z140.apart (show Z140 w _ g595 t592 t622 t623 from Z140.uC HI595.out NB595_591.out NB595_603.out) (zP HO618.out) (by decide)) hk); replace HB := zA (hb); replace HI595 := zA (hi); (try clear hb); (try clear hk); (try clear hi)))
      replace HO599 := zA (zH HO599.out)
      replace HO602 := zA (zH HO602.out)
      replace HO613 := zA (zH HO613.out)
      replace HO618 := zA (zH HO618.out)
      replace BK591 := zA (zK BK591.out)
      replace BK603 := zA (zK BK603.out)
      replace HI595 := zA (Z140.drew HI595.out)
      replace HB := zA (zD HB.out)
      have q39 : (t621 : Int) ≤ ((t611.length : Int) : Int) := zd
      obtain ⟨i039, hi039, _, hsz39, _⟩ := info_parts info2
      have hroom39 : t611.length ≤ co34 := (kB HO613.out).2.1
      have hC39 : Kd.C (Kd.int .i64) _ Ao34 t611.length t611 := (kB HO613.out).2.2
      have hcut39 := cut_to (P := Tryd.prog) 22 2 .i64 Tryd.underlying22 hi039 Ao34 t611.length co34 t621 (zd) q39 hroom39
      have hr39 := Kd.C_take (m := (t621 : Int).toNat) hC39 (by omega)
      have hy39 : y627.length = (t621 : Int).toNat := (by rw [Ny627.out, List.length_take]; omega)
      rw [← Ny627.out] at hr39
      rw [← hy39] at hcut39
      have HR630 := zA hr39
      have HC630 := zA (show y627.length ≤ co34 from by omega)
      clear hr39 hC39 hroom39 hi039 hsz39
      have KY39 := zA hy39
      clear hy39
      have KL39 := zA (show (t621 : Int).toNat ≤ t611.length from by omega)
      replace q39 := eq_true q39
      have q40 : (t621 : Int) ≤ ((t611.length : Int) : Int) := zd
      obtain ⟨i040, hi040, _, hsz40, _⟩ := info_parts info2
      have hroom40 : t611.length ≤ co34 := (kB HO613.out).2.1
      have hC40 : Kd.C (Kd.int .i64) _ Ao34 t611.length t611 := (kB HO613.out).2.2
      have q040 : (0 : Int) ≤ (t621 : Int) := zd
      have hcut40 := cut_from (P := Tryd.prog) 22 2 .i64 Tryd.underlying22 hi040 1 hsz40 Ao34 t611.length co34 t621 q040 q40
      have hr40 := Kd.C_drop (m := (t621 : Int).toNat) (c := co34) hC40 (by omega) hroom40
      obtain ⟨A40, hA40⟩ : ∃ A1, A1 = (if co34 = (t621 : Int).toNat then Ao34 else (Ao34 : Option Addr).map (·.add ((t621 : Int).toNat * 1))) := ⟨_, rfl⟩
      obtain ⟨c40, hc40⟩ : ∃ c1, c1 = co34 - (t621 : Int).toNat := ⟨_, rfl⟩
      have hy40 : y634.length = t611.length - (t621 : Int).toNat := (by rw [Ny634.out, List.length_drop] <;> omega)
      rw [show (t611).drop (t621 : Int).toNat = y634 from Ny634.out.symm] at hr40
      replace hr40 : Kd.C (Kd.int .i64) _ A40 y634.length y634 := (by rw [hA40]; exact hr40)
      rw [← hy40, ← hA40, ← hc40] at hcut40
      have HR637 := zA hr40
      have HC637 := zA (show y634.length ≤ c40 from by rw [hy40, hc40]; exact Nat.sub_le_sub_right hroom40 _)
      clear hr40 hC40 hroom40 hi040 hsz40 hc40
      have KY40 := zA hy40
      have KA40 := zA hA40
      clear hy40 hA40
      have KL40 := zA (show (t621 : Int).toNat ≤ t611.length from by omega)
      replace q40 := eq_true q40
      have q41 : (t624 : Int) ≤ ((t616.length : Int) : Int) := zd
      obtain ⟨i041, hi041, _, hsz41, _⟩ := info_parts info2
      have hroom41 : t616.length ≤ co36 := (kB HO618.out).2.1
      have hC41 : Kd.C (Kd.int .i64) _ Ao36 t616.length t616 := (kB HO618.out).2.2
      have hcut41 := cut_to (P := Tryd.prog) 22 2 .i64 Tryd.underlying22 hi041 Ao36 t616.length co36 t624 (zd) q41 hroom41
      have hr41 := Kd.C_take (m := (t624 : Int).toNat) hC41 (by omega)
      have hy41 : y641.length = (t624 : Int).toNat := (by rw [Ny641.out, List.length_take]; omega)
      rw [← Ny641.out] at hr41
      rw [← hy41] at hcut41
      have HR644 := zA hr41
      have HC644 := zA (show y641.length ≤ co36 from by omega)
      clear hr41 hC41 hroom41 hi041 hsz41
      have KY41 := zA hy41
      clear hy41
      have KL41 := zA (show (t624 : Int).toNat ≤ t616.length from by omega)
      replace q41 := eq_true q41
      have q42 : (t624 : Int) ≤ ((t616.length : Int) : Int) := zd
      obtain ⟨i042, hi042, _, hsz42, _⟩ := info_parts info2
      have hroom42 : t616.length ≤ co36 := (kB HO618.out).2.1
      have hC42 : Kd.C (Kd.int .i64) _ Ao36 t616.length t616 := (kB HO618.out).2.2
      have q042 : (0 : Int) ≤ (t624 : Int) := zd
      have hcut42 := cut_from (P := Tryd.prog) 22 2 .i64 Tryd.underlying22 hi042 1 hsz42 Ao36 t616.length co36 t624 q042 q42
      have hr42 := Kd.C_drop (m := (t624 : Int).toNat) (c := co36) hC42 (by omega) hroom42
      obtain ⟨A42, hA42⟩ : ∃ A1, A1 = (if co36 = (t624 : Int).toNat then Ao36 else (Ao36 : Option Addr).map (·.add ((t624 : Int).toNat * 1))) := ⟨_, rfl⟩
      obtain ⟨c42, hc42⟩ : ∃ c1, c1 = co36 - (t624 : Int).toNat := ⟨_, rfl⟩
      have hy42 : y648.length = t616.length - (t624 : Int).toNat := (by rw [Ny648.out, List.length_drop] <;> omega)
      rw [show (t616).drop (t624 : Int).toNat = y648 from Ny648.out.symm] at hr42
      replace hr42 : Kd.C (Kd.int .i64) _ A42 y648.length y648 := (by rw [hA42]; exact hr42)
      rw [← hy42, ← hA42, ← hc42] at hcut42
      have HR651 := zA hr42
      have HC651 := zA (show y648.length ≤ c42 from by rw [hy42, hc42]; exact Nat.sub_le_sub_right hroom42 _)
      clear hr42 hC42 hroom42 hi042 hsz42 hc42
      have KY42 := zA hy42
      have KA42 := zA hA42
      clear hy42 hA42
      have KL42 := zA (show (t624 : Int).toNat ≤ t616.length from by omega)
      replace q42 := eq_true q42
      refine start_ (n := 20) (S := fun w' => True) (ds := []) #[false, false, false, false, false, false, false, false, false, false, false, false, false, false, false, false, false, false, false, false] (by kernel_rfl) rfl rfl trivial (fun hHeld => ?_); refine with_tabW spec_DrawLeviOf.tab6 spec_DrawLeviOf.bits6 (fun HT_ HW_ => ?_)
      generalize w37.drew = w38 at HO599 HO602 HO613 HO618 BK591 BK603 HI595 HB HR630 HR637 HR644 HR651 hHeld ⊢
      refine zp 0 (some 51) #[true, false, false, false, false, false, false, false, false, false, false, false, false, false, false, false, false, false, false, false] HT_.out ?_
      refine zp 1 (some 52) #[true, true, false, false, false, false, false, false, false, false, false, false, false, false, false, false, false, false, false, false] HT_.out ?_
      refine zp 2 (some 53) #[true, true, true, false, false, false, false, false, false, false, false, false, false, false, false, false, false, false, false, false] HT_.out ?_
      refine zp 4 (some 55) #[true, true, true, false, true, false, false, false, false, false, false, false, false, false, false, false, false, false, false, false] HT_.out ?_
      refine zp 5 (some 56) #[true, true, true, false, true, true, false, false, false, false, false, false, false, false, false, false, false, false, false, false] HT_.out ?_
      refine zp 6 (some 57) #[true, true, true, false, true, true, true, false, false, false, false, false, false, false, false, false, false, false, false, false] HT_.out ?_
      refine zp 8 (some 59) #[true, true, true, false, true, true, true, false, true, false, false, false, false, false, false, false, false, false, false, false] HT_.out ?_
      refine zp 9 (some 60) #[true, true, true, false, true, true, true, false, true, true, false, false, false, false, false, false, false, false, false, false] HT_.out ?_
      refine zp 10 (some 61) #[true, true, true, false, true, true, true, false, true, true, true, false, false, false, false, false, false, false, false, false] HT_.out ?_
      refine zp 12 (some 63) #[true, true, true, false, true, true, true, false, true, true, true, false, true, false, false, false, false, false, false, false] HT_.out ?_
      refine zp 13 (some 64) #[true, true, true, false, true, true, true, false, true, true, true, false, true, true, false, false, false, false, false, false] HT_.out ?_
      refine zp 14 (some 65) #[true, true, true, false, true, true, true, false, true, true, true, false, true, true, true, false, false, false, false, false] HT_.out ?_
      refine one_ (i := 3) (N := some 54) #[true, true, true, true, true, true, true, false, true, true, true, false, true, true, true, false, false, false, false, false] rfl rfl (one_of HT_.out (by kernel_rfl)) (by decide) (fun K hK => ?_)
      refine goes_ Tryd.func80 (by kernel_rfl) rfl #[.slice Ao34 y627.length co34] (by rfl) rfl rfl zg ?_
      with_reducible refine (spec_l01Own.calls _ _ y627 t631 _ ?side1 ?side2 A11.out).mono ?_
      (case side1 => repeat (first | exact (by repeat (first | (with_reducible exact HR630.out) | (with_reducible refine Kd.C_alloc ?_ _) | (with_reducible refine Kd.C_drewN ?_ _) | (with_reducible refine Kd.C_drew ?_) | exact HR630.out)) | (with_reducible refine Kd.C_alloc ?_ _) | (with_reducible refine Kd.C_drewN ?_ _) | (with_reducible refine Kd.C_drew ?_)))
      (case side2 => exact HC630.out)
      rintro e w43 ⟨v632, rfl, ho0, hb⟩
      refine ⟨_, rfl, ?_⟩
      have HO633 := zA (kI (kF (kF (kF (kF (Kd.R_newM (M := fun k_ => (w.heap.size ≤ k_)) ho0 (kP (zW HB.out (Z140.ge HI595.out) GE591.out GE603.out)) (fun k_ h_ => h_)) (kH (zP HO599.out))) (kH (zP HO602.out))) (kH (zP HO613.out))) (kH (zP HO618.out))) (kP (zW HB.out (Z140.ge HI595.out) GE591.out GE603.out)))
      replace HO599 := zA (kE (zP HO599.out) (kC ho0) hb)
      replace HO602 := zA (kE (zP HO602.out) (kC ho0) hb)
      replace HO613 := zA (kE (zP HO613.out) (kC ho0) hb)
      replace HO618 := zA (kE (zP HO618.out) (kC ho0) hb)
      replace BK591 := zA (zB1 BK591.out hb)
      replace BK603 := zA (zB1 BK603.out hb)
      replace HR630 := zA (kO (by repeat (first | (with_reducible exact HR630.out) | (with_reducible refine Kd.C_alloc ?_ _) | (with_reducible refine Kd.C_drewN ?_ _) | (with_reducible refine Kd.C_drew ?_) | exact HR630.out)) hb)
      replace HR637 := zA (kO (by repeat (first | (with_reducible exact HR637.out) | (with_reducible refine Kd.C_alloc ?_ _) | (with_reducible refine Kd.C_drewN ?_ _) | (with_reducible refine Kd.C_drew ?_) | exact HR637.out)) hb)
      replace HR644 := zA (kO (by repeat (first | (with_reducible exact HR644.out) | (with_reducible refine Kd.C_alloc ?_ _) | (with_reducible refine Kd.C_drewN ?_ _) | (with_reducible refine Kd.C_drew ?_) | exact HR644.out)) hb)
      replace HR651 := zA (kO (by repeat (first | (with_reducible exact HR651.out) | (with_reducible refine Kd.C_alloc ?_ _) | (with_reducible refine Kd.C_drewN ?_ _) | (with_reducible refine Kd.C_drew ?_) | exact HR651.out)) hb)
      replace HB := zA (kQ (zW HB.out (Z140.ge HI595.out) GE591.out GE603.out) hb)
      replace HI595 := zA (Z140.below (Z140.uC HI595.out NB595_591.out NB595_603.out) hb)
      (try clear hb)
      (try clear hb2)
      (try clear hk)
      (try clear hi)
      (try clear hgw)
      (try clear ho0)
      refine hK.out _ _ trivial (fun hHeld => ?_)
      clear hK K
      refine norm_ (a' := ?_) ?_ ?_
      rotate_left
      ·show Act.put _ (some 54) _ = _
       simp only [Act.put, zL, zM, zN, i64_w, i32_w]
       rfl
      refine one_ (i := 7) (N := some 58) #[true, true, true, true, true, true, true, true, true, true, true, false, true, true, true, false, false, false, false, false] rfl rfl (one_of HT_.out (by kernel_rfl)) (by decide) (fun K hK => ?_)
      refine goes_ Tryd.func80 (by kernel_rfl) rfl #[.slice A40 y634.length c40] (by rfl) rfl rfl zg ?_
      with_reducible refine (spec_l01Own.calls _ _ y634 t638 _ ?side1 ?side2 A14.out).mono ?_
      (case side1 => repeat (first | exact (by repeat (first | (with_reducible exact HR637.out) | (with_reducible refine Kd.C_alloc ?_ _) | (with_reducible refine Kd.C_drewN ?_ _) | (with_reducible refine Kd.C_drew ?_) | exact HR637.out)) | (with_reducible refine Kd.C_alloc ?_ _) | (with_reducible refine Kd.C_drewN ?_ _) | (with_reducible refine Kd.C_drew ?_)))
      (case side2 => exact HC637.out)
      rintro e w44 ⟨v639, rfl, ho0, hb⟩
      refine ⟨_, rfl, ?_⟩
      have HO640 := zA (kI (kF (kF (kF (kF (kF (Kd.R_newM (M := fun k_ => (w.heap.size ≤ k_)) ho0 (kP (zW HB.out (Z140.ge HI595.out) GE591.out GE603.out)) (fun k_ h_ => h_)) (kH (zP HO599.out))) (kH (zP HO602.out))) (kH (zP HO613.out))) (kH (zP HO618.out))) (kH (zP HO633.out))) (kP (zW HB.out (Z140.ge HI595.out) GE591.out GE603.out)))
      replace HO599 := zA (kE (zP HO599.out) (kC ho0) hb)
      replace HO602 := zA (kE (zP HO602.out) (kC ho0) hb)
      replace HO613 := zA (kE (zP HO613.out) (kC ho0) hb)
      replace HO618 := zA (kE (zP HO618.out) (kC ho0) hb)
      replace HO633 := zA (kE (zP HO633.out) (kC ho0) hb)
      replace BK591 := zA (zB1 BK591.out hb)
      replace BK603 := zA (zB1 BK603.out hb)
      replace HR630 := zA (kO (by repeat (first | (with_reducible exact HR630.out) | (with_reducible refine Kd.C_alloc ?_ _) | (with_reducible refine Kd.C_drewN ?_ _) | (with_reducible refine Kd.C_drew ?_) | exact HR630.out)) hb)
      replace HR637 := zA (kO (by repeat (first | (with_reducible exact HR637.out) | (with_reducible refine Kd.C_alloc ?_ _) | (with_reducible refine Kd.C_drewN ?_ _) | (with_reducible refine Kd.C_drew ?_) | exact HR637.out)) hb)
      replace HR644 := zA (kO (by repeat (first | (with_reducible exact HR644.out) | (with_reducible refine Kd.C_alloc ?_ _) | (with_reducible refine Kd.C_drewN ?_ _) | (with_reducible refine Kd.C_drew ?_) | exact HR644.out)) hb)
      replace HR651 := zA (kO (by repeat (first | (with_reducible exact HR651.out) | (with_reducible refine Kd.C_alloc ?_ _) | (with_reducible refine Kd.C_drewN ?_ _) | (with_reducible refine Kd.C_drew ?_) | exact HR651.out)) hb)
      replace HB := zA (kQ (zW HB.out (Z140.ge HI595.out) GE591.out GE603.out) hb)
      replace HI595 := zA (Z140.below (Z140.uC HI595.out NB595_591.out NB595_603.out) hb)
      (try clear hb)
      (try clear hb2)
      (try clear hk)
      (try clear hi)
      (try clear hgw)
      (try clear ho0)
      refine hK.out _ _ trivial (fun hHeld => ?_)
      clear hK K
      refine norm_ (a' := ?_) ?_ ?_
      rotate_left
      ·show Act.put _ (some 58) _ = _
       simp only [Act.put, zL, zM, zN, i64_w, i32_w]
       rfl
      refine one_ (i := 11) (N := some 62) #[true, true, true, true, true, true, true, true, true, true, true, true, true, true, true, false, false, false, false, false] rfl rfl (one_of HT_.out (by kernel_rfl)) (by decide) (fun K hK => ?_)
      refine goes_ Tryd.func80 (by kernel_rfl) rfl #[.slice Ao36 y641.length co36] (by rfl) rfl rfl zg ?_
      with_reducible refine (spec_l01Own.calls _ _ y641 t645 _ ?side1 ?side2 A17.out).mono ?_
      (case side1 => repeat (first | exact (by repeat (first | (with_reducible exact HR644.out) | (with_reducible refine Kd.C_alloc ?_ _) | (with_reducible refine Kd.C_drewN ?_ _) | (with_reducible refine Kd.C_drew ?_) | exact HR644.out)) | (with_reducible refine Kd.C_alloc ?_ _) | (with_reducible refine Kd.C_drewN ?_ _) | (with_reducible refine Kd.C_drew ?_)))
      (case side2 => exact HC644.out)
      rintro e w45 ⟨v646, rfl, ho0, hb⟩
      refine ⟨_, rfl, ?_⟩
      have HO647 := zA (kI (kF (kF (kF (kF (kF (kF (Kd.R_newM (M := fun k_ => (w.heap.size ≤ k_)) ho0 (kP (zW HB.out (Z140.ge HI595.out) GE591.out GE603.out)) (fun k_ h_ => h_)) (kH (zP HO599.out))) (kH (zP HO602.out))) (kH (zP HO613.out))) (kH (zP HO618.out))) (kH (zP HO633.out))) (kH (zP HO640.out))) (kP (zW HB.out (Z140.ge HI595.out) GE591.out GE603.out)))
      replace HO599 := zA (kE (zP HO599.out) (kC ho0) hb)
      replace HO602 := zA (kE (zP HO602.out) (kC ho0) hb)
      replace HO613 := zA (kE (zP HO613.out) (kC ho0) hb)
      replace HO618 := zA (kE (zP HO618.out) (kC ho0) hb)
      replace HO633 := zA (kE (zP HO633.out) (kC ho0) hb)
      replace HO640 := zA (kE (zP HO640.out) (kC ho0) hb)
      replace BK591 := zA (zB1 BK591.out hb)
      replace BK603 := zA (zB1 BK603.out hb)
      replace HR630 := zA (kO (by repeat (first | (with_reducible exact HR630.out) | (with_reducible refine Kd.C_alloc ?_ _) | (with_reducible refine Kd.C_drewN ?_ _) | (with_reducible refine Kd.C_drew ?_) | exact HR630.out)) hb)
      replace HR637 := zA (kO (by repeat (first | (with_reducible exact HR637.out) | (with_reducible refine Kd.C_alloc ?_ _) | (with_reducible refine Kd.C_drewN ?_ _) | (with_reducible refine Kd.C_drew ?_) | exact HR637.out)) hb)
      replace HR644 := zA (kO (by repeat (first | (with_reducible exact HR644.out) | (with_reducible refine Kd.C_alloc ?_ _) | (with_reducible refine Kd.C_drewN ?_ _) | (with_reducible refine Kd.C_drew ?_) | exact HR644.out)) hb)
      replace HR651 := zA (kO (by repeat (first | (with_reducible exact HR651.out) | (with_reducible refine Kd.C_alloc ?_ _) | (with_reducible refine Kd.C_drewN ?_ _) | (with_reducible refine Kd.C_drew ?_) | exact HR651.out)) hb)
      replace HB := zA (kQ (zW HB.out (Z140.ge HI595.out) GE591.out GE603.out) hb)
      replace HI595 := zA (Z140.below (Z140.uC HI595.out NB595_591.out NB595_603.out) hb)
      (try clear hb)
      (try clear hb2)
      (try clear hk)
      (try clear hi)
      (try clear hgw)
      (try clear ho0)
      refine hK.out _ _ trivial (fun hHeld => ?_)
      clear hK K
      refine norm_ (a' := ?_) ?_ ?_
      rotate_left
      ·show Act.put _ (some 62) _ = _
       simp only [Act.put, zL, zM, zN, i64_w, i32_w]
       rfl
      refine one_ (i := 15) (N := some 66) #[true, true, true, true, true, true, true, true, true, true, true, true, true, true, true, true, false, false, false, false] rfl rfl (one_of HT_.out (by kernel_rfl)) (by decide) (fun K hK => ?_)
      refine goes_ Tryd.func80 (by kernel_rfl) rfl #[.slice A42 y648.length c42] (by rfl) rfl rfl zg ?_
      with_reducible refine (spec_l01Own.calls _ _ y648 t652 _ ?side1 ?side2 A20.out).mono ?_
      (case side1 => repeat (first | exact (by repeat (first | (with_reducible exact HR651.out) | (with_reducible refine Kd.C_alloc ?_ _) | (with_reducible refine Kd.C_drewN ?_ _) | (with_reducible refine Kd.C_drew ?_) | exact HR651.out)) | (with_reducible refine Kd.C_alloc ?_ _) | (with_reducible refine Kd.C_drewN ?_ _) | (with_reducible refine Kd.C_drew ?_)))
      (case side2 => exact HC651.out)
      rintro e w46 ⟨v653, rfl, ho0, hb⟩
      refine ⟨_, rfl, ?_⟩
      have HO654 := zA (kI (kF (kF (kF (kF (kF (kF (kF (Kd.R_newM (M := fun k_ => (w.heap.size ≤ k_)) ho0 (kP (zW HB.out (Z140.ge HI595.out) GE591.out GE603.out)) (fun k_ h_ => h_)) (kH (zP HO599.out))) (kH (zP HO602.out))) (kH (zP HO613.out))) (kH (zP HO618.out))) (kH (zP HO633.out))) (kH (zP HO640.out))) (kH (zP HO647.out))) (kP (zW HB.out (Z140.ge HI595.out) GE591.out GE603.out)))
      replace HO599 := zA (kE (zP HO599.out) (kC ho0) hb)
      replace HO602 := zA (kE (zP HO602.out) (kC ho0) hb)
      replace HO613 := zA (kE (zP HO613.out) (kC ho0) hb)
      replace HO618 := zA (kE (zP HO618.out) (kC ho0) hb)
      replace HO633 := zA (kE (zP HO633.out) (kC ho0) hb)
      replace HO640 := zA (kE (zP HO640.out) (kC ho0) hb)
      replace HO647 := zA (kE (zP HO647.out) (kC ho0) hb)
      replace BK591 := zA (zB1 BK591.out hb)
      replace BK603 := zA (zB1 BK603.out hb)
      replace HR630 := zA (kO (by repeat (first | (with_reducible exact HR630.out) | (with_reducible refine Kd.C_alloc ?_ _) | (with_reducible refine Kd.C_drewN ?_ _) | (with_reducible refine Kd.C_drew ?_) | exact HR630.out)) hb)
      replace HR637 := zA (kO (by repeat (first | (with_reducible exact HR637.out) | (with_reducible refine Kd.C_alloc ?_ _) | (with_reducible refine Kd.C_drewN ?_ _) | (with_reducible refine Kd.C_drew ?_) | exact HR637.out)) hb)
      replace HR644 := zA (kO (by repeat (first | (with_reducible exact HR644.out) | (with_reducible refine Kd.C_alloc ?_ _) | (with_reducible refine Kd.C_drewN ?_ _) | (with_reducible refine Kd.C_drew ?_) | exact HR644.out)) hb)
      replace HR651 := zA (kO (by repeat (first | (with_reducible exact HR651.out) | (with_reducible refine Kd.C_alloc ?_ _) | (with_reducible refine Kd.C_drewN ?_ _) | (with_reducible refine Kd.C_drew ?_) | exact HR651.out)) hb)
      replace HB := zA (kQ (zW HB.out (Z140.ge HI595.out) GE591.out GE603.out) hb)
      replace HI595 := zA (Z140.below (Z140.uC HI595.out NB595_591.out NB595_603.out) hb)
      (try clear hb)
      (try clear hb2)
      (try clear hk)
      (try clear hi)
      (try clear hgw)
      (try clear ho0)
      refine hK.out _ _ trivial (fun hHeld => ?_)
      clear hK K
      refine norm_ (a' := ?_) ?_ ?_
      rotate_left
      ·show Act.put _ (some 66) _ = _
       simp only [Act.put, zL, zM, zN, i64_w, i32_w]
       rfl
      refine zp 16 (some 14) #[true, true, true, true, true, true, true, true, true, true, true, true, true, true, true, true, true, false, false, false] HT_.out ?_
      refine zp 17 (some 15) #[true, true, true, true, true, true, true, true, true, true, true, true, true, true, true, true, true, true, false, false] HT_.out ?_
      refine zp 18 (some 16) #[true, true, true, true, true, true, true, true, true, true, true, true, true, true, true, true, true, true, true, false] HT_.out ?_
      refine zp 19 (some 17) #[true, true, true, true, true, true, true, true, true, true, true, true, true, true, true, true, true, true, true, true] HT_.out ?_
      refine done_ (done_of HT_.out (by kernel_rfl)) ?_
      go_upto_region 7 with (fail)
      go_cut [67] (fun v67 wc => ∃ (kq : Nat) (x67_20 : Bool) (x596001_20 : Int) (x596002_20 : Int), v67 = .bool x67_20 ∧ Aside0 (spec_DrawLeviOf.j0 kq t631 t638 t645 t652 x67_20 t592 x596001_20 x596002_20 t596 t597 = some (r1, r2, r3, r4, r5, r6)) ∧ Aside0 (kq ≤ k) ∧ Aside0 (Kd.R (Kd.int .i64) 2 wc w.heap.size (fun k_ => (w.heap.size ≤ k_) ∧ some k_ ≠ (v639 : Value).ownBlock ∧ some k_ ≠ (v646 : Value).ownBlock ∧ some k_ ≠ (v653 : Value).ownBlock ∧ some k_ ≠ ((.slice Ao28 t597.length co28) : Value).ownBlock) v632 t631) ∧ Aside0 (Kd.R (Kd.int .i64) 2 wc w.heap.size (fun k_ => (w.heap.size ≤ k_) ∧ some k_ ≠ (v632 : Value).ownBlock ∧ some k_ ≠ (v646 : Value).ownBlock ∧ some k_ ≠ (v653 : Value).ownBlock ∧ some k_ ≠ ((.slice Ao28 t597.length co28) : Value).ownBlock) v639 t638) ∧ Aside0 (Kd.R (Kd.int .i64) 2 wc w.heap.size (fun k_ => (w.heap.size ≤ k_) ∧ some k_ ≠ (v632 : Value).ownBlock ∧ some k_ ≠ (v639 : Value).ownBlock ∧ some k_ ≠ (v653 : Value).ownBlock ∧ some k_ ≠ ((.slice Ao28 t597.length co28) : Value).ownBlock) v646 t645) ∧ Aside0 (Kd.R (Kd.int .i64) 2 wc w.heap.size (fun k_ => (w.heap.size ≤ k_) ∧ some k_ ≠ (v632 : Value).ownBlock ∧ some k_ ≠ (v639 : Value).ownBlock ∧ some k_ ≠ (v646 : Value).ownBlock ∧ some k_ ≠ ((.slice Ao28 t597.length co28) : Value).ownBlock) v653 t652) ∧ Aside0 (Kd.R (Kd.int .i64) 2 wc w.heap.size (fun k_ => (w.heap.size ≤ k_) ∧ some k_ ≠ (v632 : Value).ownBlock ∧ some k_ ≠ (v639 : Value).ownBlock ∧ some k_ ≠ (v646 : Value).ownBlock ∧ some k_ ≠ (v653 : Value).ownBlock) (.slice Ao28 t597.length co28) t597) ∧ Aside0 (wc.heap[gb591]? = some (.cells #[.int .i64 0, (.slice none 0 0)] 29 (0, 0))) ∧ Aside0 (wc.heap[gb603]? = some (.cells #[.int .i64 t596, (.slice Ao28 t597.length co28)] 29 (0, 0))) ∧ Aside0 (Z140 w wc g595 t592 x596001_20 x596002_20) ∧ Aside0 (Below w.heap.size w wc))
      case first =>
       have H := HC21.out
       clear HC21
       by_cases c47 : (t631.length : Int) > 0
       ·rw [if_pos c47] at H
        have c47b0 : decide (0 < (t631.length : Int)) = true := decide_eq_true c47
        have c47b1 : decide (0 < t631.length) = true := decide_eq_true (by omega)
        clear c47
        (first | rw [c47b0] | (simp only [i64_w, i32_w]; rw [c47b0]) | skip)
        obtain ⟨⟨t655, t656, t657⟩, A48, H⟩ := zb H
        try dsimp only at H
        have H' := zA H
        clear H
        obtain ⟨Ao49, co49, eo49⟩ := kM HO633.out
        subst eo49
        go_wp2_with (first | (go_at_call 128; (with_reducible refine (spec_l01Next.calls g595 t592 t625 t626 8 t655 t656 t657 w _ ?side1 ?side2 A48.out).mono ?_); (case side1 => exact Z140.uC HI595.out NB595_591.out NB595_603.out); (case side2 => exact zW HB.out (Z140.ge HI595.out) GE591.out GE603.out); rintro e w50 ⟨rfl, hi, hb, hk⟩; replace BK591 := zA (zB2 hk BK591.out NB591_595.out); replace HO599 := zA (zB9 (Z140.apart (show Z140 w _ g595 t592 t625 t626 from Z140.uC HI595.out NB595_591.out NB595_603.out) (zP HO599.out) (by decide)) hk); replace HO602 := zA (zB9 (Z140.apart (show Z140 w _ g595 t592 t625 t626 from Z140.uC HI595.out NB595_591.out NB595_603.out) (zP HO602.out) (by decide)) hk); replace BK603 := zA (zB2 hk BK603.out NB603_595.out); replace HO613 := zA (zB9 (Z140.apart (show Z140 w _ g595 t592 t625 t626 from Z140.uC HI595.out NB595_591.out NB595_603.out) (zP HO613.out) (by decide)) hk); replace HO618 := zA (zB9 (Z140.apart (show Z140 w _ g595 t592 t625 t626 from Z140.uC HI595.out NB595_591.out NB595_603.out) (zP HO618.out) (by decide)) hk); replace HO633 := zA (zB9 (Z140.apart (show Z140 w _ g595 t592 t625 t626 from Z140.uC HI595.out NB595_591.out NB595_603.out) (zP HO633.out) (by decide)) hk); replace HO640 := zA (zB9 (Z140.apart (show Z140 w _ g595 t592 t625 t626 from Z140.uC HI595.out NB595_591.out NB595_603.out) (zP HO640.out) (by decide)) hk); replace HO647 := zA (zB9 (Z140.apart (show Z140 w _ g595 t592 t625 t626 from Z140.uC HI595.out NB595_591.out NB595_603.out) (zP HO647.out) (by decide)) hk); replace HO654 := zA (zB9 (Z140.apart (show Z140 w _ g595 t592 t625 t626 from Z140.uC HI595.out NB595_591.out NB595_603.out) (zP HO654.out) (by decide)) hk); replace HB := zA (hb); replace HI595 := zA (hi); (try clear hb); (try clear hk); (try clear hi)))
        go_meet
        case rel => exact ⟨_, ((t655 == 0)), (t656), (t657), zs, H', ⟨by first | omega | exact Nat.le_refl _⟩, ⟨zPM HO633.out (fun _ hk => ⟨hk.1.1.1.1.1.1.1.1, ⟨hk.1.1.2, ⟨hk.1.2, ⟨hk.2, hk.1.1.1.1.1.1.2⟩⟩⟩⟩)⟩, ⟨zPM HO640.out (fun _ hk => ⟨hk.1.1.1.1.1.1.1.1, ⟨hk.1.1.2, ⟨hk.1.2, ⟨hk.2, hk.1.1.1.1.1.1.2⟩⟩⟩⟩)⟩, ⟨zPM HO647.out (fun _ hk => ⟨hk.1.1.1.1.1.1.1.1, ⟨hk.1.1.2, ⟨hk.1.2, ⟨hk.2, hk.1.1.1.1.1.1.2⟩⟩⟩⟩)⟩, ⟨zPM HO654.out (fun _ hk => ⟨hk.1.1.1.1.1.1.1.1, ⟨hk.1.1.2, ⟨hk.1.2, ⟨hk.2, hk.1.1.1.1.1.1.2⟩⟩⟩⟩)⟩, ⟨zPM HO599.out (fun _ hk => ⟨hk.1.1.1.1.1.1.1, ⟨hk.1.1.1.2, ⟨hk.1.1.2, ⟨hk.1.2, hk.2⟩⟩⟩⟩)⟩, ⟨zR BK591.out⟩, ⟨zR BK603.out⟩, ⟨Z140.uC HI595.out NB595_591.out NB595_603.out⟩, ⟨zW HB.out (Z140.ge HI595.out) GE591.out GE603.out⟩⟩
       rw [if_neg c47] at H
       have c47b0 : decide (0 < (t631.length : Int)) = false := decide_eq_false c47
       have c47b1 : decide (0 < t631.length) = false := decide_eq_false (by omega)
       clear c47
       (first | rw [c47b0] | (simp only [i64_w, i32_w]; rw [c47b0]) | skip)
       have H' := zA H
       clear H
       obtain ⟨Ao51, co51, eo51⟩ := kM HO633.out
       subst eo51
       go_wp2
       go_meet
       case rel => exact ⟨_, (false), (t625), (t626), zs, H', ⟨by first | omega | exact Nat.le_refl _⟩, ⟨zPM HO633.out (fun _ hk => ⟨hk.1.1.1.1.1.1.1.1, ⟨hk.1.1.2, ⟨hk.1.2, ⟨hk.2, hk.1.1.1.1.1.1.2⟩⟩⟩⟩)⟩, ⟨zPM HO640.out (fun _ hk => ⟨hk.1.1.1.1.1.1.1.1, ⟨hk.1.1.2, ⟨hk.1.2, ⟨hk.2, hk.1.1.1.1.1.1.2⟩⟩⟩⟩)⟩, ⟨zPM HO647.out (fun _ hk => ⟨hk.1.1.1.1.1.1.1.1, ⟨hk.1.1.2, ⟨hk.1.2, ⟨hk.2, hk.1.1.1.1.1.1.2⟩⟩⟩⟩)⟩, ⟨zPM HO654.out (fun _ hk => ⟨hk.1.1.1.1.1.1.1.1, ⟨hk.1.1.2, ⟨hk.1.2, ⟨hk.2, hk.1.1.1.1.1.1.2⟩⟩⟩⟩)⟩, ⟨zPM HO599.out (fun _ hk => ⟨hk.1.1.1.1.1.1.1, ⟨hk.1.1.1.2, ⟨hk.1.1.2, ⟨hk.1.2, hk.2⟩⟩⟩⟩)⟩, ⟨zR BK591.out⟩, ⟨zR BK603.out⟩, ⟨Z140.uC HI595.out NB595_591.out NB595_603.out⟩, ⟨zW HB.out (Z140.ge HI595.out) GE591.out GE603.out⟩⟩
      case rest =>
       clear HC21
       try clear c1
       try clear c4
       try clear c8
       try clear c12
       try clear c40
       try clear c42
       try clear c47
       obtain ⟨kq, x67_20, x596001_20, x596002_20, rfl, HA, HJ20, HO_14, HO_15, HO_16, HO_17, HO_604001, BK591, BK603, HI595, HB⟩ := hcut
       cases kq with
       | zero => exact absurd HA.out (by simp [spec_DrawLeviOf.j0])
       | succ kj20 =>
        have H := HA.out
        clear HA
        simp only [spec_DrawLeviOf.j0] at H
        by_cases c52 : x67_20 = true
        ·subst c52
         rw [if_pos rfl] at H
         obtain ⟨⟨t658, t659, t660⟩, A53, H⟩ := zb H
         try dsimp only at H
         obtain ⟨⟨t661, t662, t663⟩, A54, H⟩ := zb H
         try dsimp only at H
         by_cases c55 : 0 ≤ t658
         ·rw [if_pos c55] at H
          have c55b0 : decide (0 ≤ t658) = true := decide_eq_true c55
          clear c55
          by_cases c56 : t658 < (t631.length : Int)
          ·rw [if_pos c56] at H
           have c56b0 : decide (t658 < (t631.length : Int)) = true := decide_eq_true c56
           clear c56
           obtain ⟨y664, hy664⟩ : ∃ y_ : List Int, y_ = (t631.set (t658 : Int).toNat t661) := ⟨_, rfl⟩
           replace H : (some (t596, t597, y664, t638, t645, t652)) = some (r1, r2, r3, r4, r5, r6) := zy hy664 H
           have Ny664 := zA hy664
           clear hy664
           simp only [Option.some.injEq, Prod.mk.injEq] at H
           obtain ⟨rfl, rfl, rfl, rfl, rfl, rfl⟩ := H
           try go_wp2
           replace HO_14 := zA (zH HO_14.out)
           replace HO_15 := zA (zH HO_15.out)
           replace HO_16 := zA (zH HO_16.out)
           replace HO_17 := zA (zH HO_17.out)
           replace HO_604001 := zA (zH HO_604001.out)
           replace BK591 := zA (zK BK591.out)
           replace BK603 := zA (zK BK603.out)
           replace HI595 := zA (Z140.drew HI595.out)
           replace HB := zA (zD HB.out)
           obtain ⟨Ao59, co59, eo59⟩ := kM HO_14.out
           (first | subst eo59 | (injection eo59 with f1_ f2_ f3_; have f4_ := f1_.symm; have f5_ := f3_.symm; clear f1_ f2_ f3_; subst f4_; subst f5_))
           refine start_ (n := 11) (S := fun w' => w'.cell? ⟨gb603, 0, none⟩ = some (.int .i64 t596) ∧ w'.cell? ⟨gb603, 1, none⟩ = some (.slice Ao28 t597.length co28)) (ds := [10]) #[false, false, false, false, false, false, false, false, false, false, false] (by kernel_rfl) rfl rfl ⟨(kV BK603.out 0).trans rfl, (kV BK603.out 1).trans rfl⟩ (fun hHeld => ?_); refine with_tabW spec_DrawLeviOf.tab8 spec_DrawLeviOf.bits8 (fun HT_ HW_ => ?_)
           generalize wc.drew = w58 at HO_14 HO_15 HO_16 HO_17 HO_604001 BK591 BK603 HI595 HB hHeld ⊢
           refine zp 0 (some 76) #[true, false, false, false, false, false, false, false, false, false, false] HT_.out ?_
           refine zp 1 (some 77) #[true, true, false, false, false, false, false, false, false, false, false] HT_.out ?_
           refine zp 2 (some 78) #[true, true, true, false, false, false, false, false, false, false, false] HT_.out ?_
           refine zp 3 (some 79) #[true, true, true, true, false, false, false, false, false, false, false] HT_.out ?_
           refine zp 5 (some 81) #[true, true, true, true, false, true, false, false, false, false, false] HT_.out ?_
           refine zp 6 (some 82) #[true, true, true, true, false, true, true, false, false, false, false] HT_.out ?_
           refine zc 7 (some 83) #[true, true, true, true, false, true, true, true, false, false, false] HT_.out HW_.out hHeld ?_
           refine one_ (i := 4) (N := some 80) #[true, true, true, true, true, true, true, true, false, false, false] rfl rfl (one_of HT_.out (by kernel_rfl)) (by decide) (fun K hK => ?_)
           refine goes_ Tryd.func128 (by kernel_rfl) rfl #[.pointer (some ⟨g595, 0, none⟩), .int .i64 (t631.length : Int)] (by rfl) rfl rfl zg ?_
           with_reducible refine (spec_l01Next.calls g595 t592 x596001_20 x596002_20 (t631.length : Int) t658 t659 t660 w _ ?side1 ?side2 A53.out).mono ?_
           (case side1 => exact Z140.uC HI595.out NB595_591.out NB595_603.out)
           (case side2 => exact zW HB.out (Z140.ge HI595.out) GE591.out GE603.out)
           rintro e w60 ⟨rfl, hi, hb, hk⟩
           refine ⟨_, rfl, ?_⟩
           replace HO_14 := zA (zB9 (Z140.apart (show Z140 w _ g595 t592 x596001_20 x596002_20 from Z140.uC HI595.out NB595_591.out NB595_603.out) (zP HO_14.out) (by decide)) hk)
           replace HO_15 := zA (zB9 (Z140.apart (show Z140 w _ g595 t592 x596001_20 x596002_20 from Z140.uC HI595.out NB595_591.out NB595_603.out) (zP HO_15.out) (by decide)) hk)
           replace HO_16 := zA (zB9 (Z140.apart (show Z140 w _ g595 t592 x596001_20 x596002_20 from Z140.uC HI595.out NB595_591.out NB595_603.out) (zP HO_16.out) (by decide)) hk)
           replace HO_17 := zA (zB9 (Z140.apart (show Z140 w _ g595 t592 x596001_20 x596002_20 from Z140.uC HI595.out NB595_591.out NB595_603.out) (zP HO_17.out) (by decide)) hk)
           replace HO_604001 := zA (zB9 (Z140.apart (show Z140 w _ g595 t592 x596001_20 x596002_20 from Z140.uC HI595.out NB595_591.out NB595_603.out) (zP HO_604001.out) (by decide)) hk)
           replace BK591 := zA (zB2 hk BK591.out NB591_595.out)
           replace BK603 := zA (zB2 hk BK603.out NB603_595.out)
           replace HB := zA (hb)
           replace HI595 := zA (hi)
           (try clear hb)
           (try clear hb2)
           (try clear hk)
           (try clear hi)
           (try clear hgw)
           refine hK.out _ _ ⟨(kV BK603.out 0).trans rfl, (kV BK603.out 1).trans rfl⟩ (fun hHeld => ?_)
           clear hK K
           refine norm_ (a' := ?_) ?_ ?_
           rotate_left
           ·show Act.put _ (some 80) _ = _
            simp only [Act.put, zL, zM, zN, i64_w, i32_w]
            rfl
           refine one_ (i := 8) (N := some 84) #[true, true, true, true, true, true, true, true, true, false, false] rfl rfl (one_of HT_.out (by kernel_rfl)) (by decide) (fun K hK => ?_)
           refine goes_ Tryd.func128 (by kernel_rfl) rfl #[.pointer (some ⟨g595, 0, none⟩), .int .i64 t596] (by rfl) rfl rfl zg ?_
           with_reducible refine (spec_l01Next.calls g595 t592 t659 t660 t596 t661 t662 t663 w _ ?side1 ?side2 A54.out).mono ?_
           (case side1 => exact Z140.uC HI595.out NB595_591.out NB595_603.out)
           (case side2 => exact zW HB.out (Z140.ge HI595.out) GE591.out GE603.out)
           rintro e w61 ⟨rfl, hi, hb, hk⟩
           refine ⟨_, rfl, ?_⟩
           replace HO_14 := zA (zB9 (Z140.apart (show Z140 w _ g595 t592 t659 t660 from Z140.uC HI595.out NB595_591.out NB595_603.out) (zP HO_14.out) (by decide)) hk)
           replace HO_15 := zA (zB9 (Z140.apart (show Z140 w _ g595 t592 t659 t660 from Z140.uC HI595.out NB595_591.out NB595_603.out) (zP HO_15.out) (by decide)) hk)
           replace HO_16 := zA (zB9 (Z140.apart (show Z140 w _ g595 t592 t659 t660 from Z140.uC HI595.out NB595_591.out NB595_603.out) (zP HO_16.out) (by decide)) hk)
           replace HO_17 := zA (zB9 (Z140.apart (show Z140 w _ g595 t592 t659 t660 from Z140.uC HI595.out NB595_591.out NB595_603.out) (zP HO_17.out) (by decide)) hk)
           replace HO_604001 := zA (zB9 (Z140.apart (show Z140 w _ g595 t592 t659 t660 from Z140.uC HI595.out NB595_591.out NB595_603.out) (zP HO_604001.out) (by decide)) hk)
           replace BK591 := zA (zB2 hk BK591.out NB591_595.out)
           replace BK603 := zA (zB2 hk BK603.out NB603_595.out)
           replace HB := zA (hb)
           replace HI595 := zA (hi)
           (try clear hb)
           (try clear hb2)
           (try clear hk)
           (try clear hi)
           (try clear hgw)
           have p57 : 0 ≤ (t658 : Int) := zd
           have q57 : (t658 : Int) < ((t631.length : Int) : Int) := zd
           obtain ⟨go57, co57, eo57, gb57, gl57, cl57, HG57⟩ := Kd.R_form HO_14.out (by omega)
           (first | cases eo57 | (injection eo57 with ea_ en_ ec_; (first | subst ea_ | (injection ea_ with ea_; subst ea_)); subst ec_; clear en_))
           have GB57 := zA gb57
           have GG57 := zA HG57
           clear gb57 gl57 HG57
           obtain ⟨hx57_0, hf57_0⟩ := Kd.R_celln 0 HO_14.out (t658 : Int) p57 q57
           replace p57 := eq_true p57
           replace q57 := eq_true q57
           have HN595_go57 := zA (show g595 ≠ go57 from by have h_ := Z140.own_ne HI595.out HO_14.out (by decide); intro e_; exact h_ (by rw [e_]; rfl))
           have HP62 := Kd.R_putn HO_14.out (t658 : Int) t661
           rw [← Ny664.out] at HP62
           have HQ62 := zA HP62
           clear HP62
           refine hK.out _ _ ⟨(kV BK603.out 0).trans rfl, (kV BK603.out 1).trans rfl⟩ (fun hHeld => ?_)
           clear hK K
           refine norm_ (a' := ?_) ?_ ?_
           rotate_left
           ·show Act.put _ (some 84) _ = _
            simp only [Act.put, zL, zM, zN, i64_w, i32_w]
            rfl
           refine zp 9 (some 85) #[true, true, true, true, true, true, true, true, true, true, false] HT_.out ?_
           refine last_ (i := 10) (N := none) #[true, true, true, true, true, true, true, true, true, true, true] rfl rfl (one_of HT_.out (by kernel_rfl)) (by decide) (fun K hK => ?_)
           refine skip_ (w1 := ?_) (by rfl) rfl ?_ ?_
           rotate_left
           ·go_simp
            rfl
           refine hK.out _ _ ?_
           clear hK K
           refine done_ (done_of HT_.out (by kernel_rfl)) ?_
           have n0_ : Aside0 (Kd.R (Kd.int .i64) 2 (w61.setCell ⟨go57, (t658 : Int).toNat, none⟩ (.int .i64 t661)) w.heap.size (fun k_ => (w.heap.size ≤ k_) ∧ some k_ ≠ (v639 : Value).ownBlock ∧ some k_ ≠ (v646 : Value).ownBlock ∧ some k_ ≠ (v653 : Value).ownBlock ∧ some k_ ≠ (.slice Ao28 t597.length co28 : Value).ownBlock) (.slice (some ⟨go57, 0, none⟩) t631.length co59) y664) := ⟨zP HQ62.out⟩
           have n1_ : Aside0 (Kd.R (Kd.int .i64) 2 (w61.setCell ⟨go57, (t658 : Int).toNat, none⟩ (.int .i64 t661)) w.heap.size (fun k_ => (w.heap.size ≤ k_) ∧ some k_ ≠ (.slice (some ⟨go57, 0, none⟩) t631.length co59 : Value).ownBlock ∧ some k_ ≠ (v646 : Value).ownBlock ∧ some k_ ≠ (v653 : Value).ownBlock ∧ some k_ ≠ (.slice Ao28 t597.length co28 : Value).ownBlock) v639 t638) := ⟨by (with_reducible repeat (first | apply zF | apply zG | apply zH)); exact kA (kY (p := ⟨go57, (t658 : Int).toNat, none⟩) (kA HO_15.out (fun k_ hk => (⟨hk, fun e_ => hk.2.1 (by rw [e_]; rfl)⟩ : _ ∧ k_ ≠ go57))) (fun _ hk => hk.2) (.int .i64 t661)) (fun _ hk => ⟨hk.1.1, ⟨hk.1.2.1, ⟨hk.1.2.2.1, ⟨hk.1.2.2.2.1, hk.1.2.2.2.2⟩⟩⟩⟩)⟩
           have n2_ : Aside0 (Kd.R (Kd.int .i64) 2 (w61.setCell ⟨go57, (t658 : Int).toNat, none⟩ (.int .i64 t661)) w.heap.size (fun k_ => (w.heap.size ≤ k_) ∧ some k_ ≠ (.slice (some ⟨go57, 0, none⟩) t631.length co59 : Value).ownBlock ∧ some k_ ≠ (v639 : Value).ownBlock ∧ some k_ ≠ (v653 : Value).ownBlock ∧ some k_ ≠ (.slice Ao28 t597.length co28 : Value).ownBlock) v646 t645) := ⟨by (with_reducible repeat (first | apply zF | apply zG | apply zH)); exact kA (kY (p := ⟨go57, (t658 : Int).toNat, none⟩) (kA HO_16.out (fun k_ hk => (⟨hk, fun e_ => hk.2.1 (by rw [e_]; rfl)⟩ : _ ∧ k_ ≠ go57))) (fun _ hk => hk.2) (.int .i64 t661)) (fun _ hk => ⟨hk.1.1, ⟨hk.1.2.1, ⟨hk.1.2.2.1, ⟨hk.1.2.2.2.1, hk.1.2.2.2.2⟩⟩⟩⟩)⟩
           have n3_ : Aside0 (Kd.R (Kd.int .i64) 2 (w61.setCell ⟨go57, (t658 : Int).toNat, none⟩ (.int .i64 t661)) w.heap.size (fun k_ => (w.heap.size ≤ k_) ∧ some k_ ≠ (.slice (some ⟨go57, 0, none⟩) t631.length co59 : Value).ownBlock ∧ some k_ ≠ (v639 : Value).ownBlock ∧ some k_ ≠ (v646 : Value).ownBlock ∧ some k_ ≠ (.slice Ao28 t597.length co28 : Value).ownBlock) v653 t652) := ⟨by (with_reducible repeat (first | apply zF | apply zG | apply zH)); exact kA (kY (p := ⟨go57, (t658 : Int).toNat, none⟩) (kA HO_17.out (fun k_ hk => (⟨hk, fun e_ => hk.2.1 (by rw [e_]; rfl)⟩ : _ ∧ k_ ≠ go57))) (fun _ hk => hk.2) (.int .i64 t661)) (fun _ hk => ⟨hk.1.1, ⟨hk.1.2.1, ⟨hk.1.2.2.1, ⟨hk.1.2.2.2.1, hk.1.2.2.2.2⟩⟩⟩⟩)⟩
           have n4_ : Aside0 (Kd.R (Kd.int .i64) 2 (w61.setCell ⟨go57, (t658 : Int).toNat, none⟩ (.int .i64 t661)) w.heap.size (fun k_ => (w.heap.size ≤ k_) ∧ some k_ ≠ (.slice (some ⟨go57, 0, none⟩) t631.length co59 : Value).ownBlock ∧ some k_ ≠ (v639 : Value).ownBlock ∧ some k_ ≠ (v646 : Value).ownBlock ∧ some k_ ≠ (v653 : Value).ownBlock) (.slice Ao28 t597.length co28) t597) := ⟨by (with_reducible repeat (first | apply zF | apply zG | apply zH)); exact kA (kY (p := ⟨go57, (t658 : Int).toNat, none⟩) (kA HO_604001.out (fun k_ hk => (⟨hk, fun e_ => hk.2.1 (by rw [e_]; rfl)⟩ : _ ∧ k_ ≠ go57))) (fun _ hk => hk.2) (.int .i64 t661)) (fun _ hk => ⟨hk.1.1, ⟨hk.1.2.1, ⟨hk.1.2.2.1, ⟨hk.1.2.2.2.1, hk.1.2.2.2.2⟩⟩⟩⟩)⟩
           have n5_ : Aside0 ((w61.setCell ⟨go57, (t658 : Int).toNat, none⟩ (.int .i64 t661)).heap[gb591]? = some (.cells #[.int .i64 0, .slice none 0 0] 29 (0, 0))) := ⟨by (with_reducible repeat (first | refine zJ ?_ _ | refine zK ?_ | refine zI ?_ _)); refine blk_far ?_ (by have h_ := Kd.R_ne HO_14.out BK591.out (by decide); intro e_; exact h_ (by rw [e_]; rfl)) _; (with_reducible repeat (first | refine zJ ?_ _ | refine zK ?_ | refine zI ?_ _)); exact BK591.out⟩
           have n6_ : Aside0 ((w61.setCell ⟨go57, (t658 : Int).toNat, none⟩ (.int .i64 t661)).heap[gb603]? = some (.cells #[.int .i64 t596, .slice Ao28 t597.length co28] 29 (0, 0))) := ⟨by (with_reducible repeat (first | refine zJ ?_ _ | refine zK ?_ | refine zI ?_ _)); refine blk_far ?_ (by have h_ := Kd.R_ne HO_14.out BK603.out (by decide); intro e_; exact h_ (by rw [e_]; rfl)) _; (with_reducible repeat (first | refine zJ ?_ _ | refine zK ?_ | refine zI ?_ _)); exact BK603.out⟩
           have n7_ : Aside0 (Z140 w (w61.setCell ⟨go57, (t658 : Int).toNat, none⟩ (.int .i64 t661)) g595 t592 t662 t663) := ⟨by repeat (first | (with_reducible first | exact HI595.out | apply Z140.alloc | apply Z140.drewN | apply Z140.drew | apply Z140.set_1 | apply Z140.set_2 | refine Z140.far ?_ HN595_go57.out _ | refine Z140.far ?_ NB595_591.out _ | refine Z140.far ?_ NB595_603.out _) | exact HI595.out)⟩
           have n8_ : Aside0 (Below w.heap.size w (w61.setCell ⟨go57, (t658 : Int).toNat, none⟩ (.int .i64 t661))) := ⟨by repeat (first | (with_reducible first | exact HB.out | apply zB | apply zC | apply zD | refine zE ?_ GB57.out | refine zE ?_ (Z140.ge HI595.out) | refine zE ?_ GE591.out | refine zE ?_ GE603.out) | exact HB.out)⟩
           (try clear HO_14)
           (try clear HO_15)
           (try clear HO_16)
           (try clear HO_17)
           (try clear HO_604001)
           (try clear BK591)
           (try clear BK603)
           (try clear HI595)
           (try clear HB)
           generalize (w61.setCell ⟨go57, (t658 : Int).toNat, none⟩ (.int .i64 t661)) = w63 at n0_ n1_ n2_ n3_ n4_ n5_ n6_ n7_ n8_ ⊢
           have HO_14 := n0_
           have HO_15 := n1_
           have HO_16 := n2_
           have HO_17 := n3_
           have HO_604001 := n4_
           have BK591 := n5_
           have BK603 := n6_
           have HI595 := n7_
           have HB := n8_
           clear n0_ n1_ n2_ n3_ n4_ n5_ n6_ n7_ n8_
           have hnb64 := NB603_591.out
           have hnc64 := NB591_603.out
           have hnb65 := NB603_595.out
           have hnc65 := NB595_603.out
           obtain ⟨hcz66_0, hcz66_1, hfz66_0, hfz66_1⟩ := zB3 BK603.out
           have hnb67 := NB591_595.out
           have hnc67 := NB595_591.out
           obtain ⟨hcz68_0, hcz68_1, hfz68_0, hfz68_1⟩ := zB3 BK591.out
           try go_wp2
           refine bodyPost_ret (results_list (rs := [.cell 2 29, .tmp 3, .tmp 4, .tmp 5, .tmp 6]) rfl (by simp) (.cell gb591 29 #[.int .i64 t596, .slice Ao28 t597.length co28] (0, 0) _ rfl (zRP BK591.out) Tryd.underlying29 rfl (by kernel_rfl) (.tmp (.tmp (.tmp (.tmp .nil)))))) rfl ?_
           exact ⟨_, _, _, _, _, zr, by (with_reducible repeat (first | apply zF | apply zG | apply zH)); exact kA (kY (p := ⟨gb591, 1, none⟩) (kY (p := ⟨gb591, 0, none⟩) (kD HO_604001.out BK591.out (by decide)) (fun _ hk => hk.2) (.int .i64 t596)) (fun _ hk => hk.2) (.slice Ao28 t597.length co28)) (fun _ hk => ⟨hk.1.1, ⟨hk.1.2.2.1, hk.1.2.2.2.2⟩⟩), jL (by (with_reducible repeat (first | apply zF | apply zG | apply zH)); exact kA (kY (p := ⟨gb591, 1, none⟩) (kY (p := ⟨gb591, 0, none⟩) (kD HO_14.out BK591.out (by decide)) (fun _ hk => hk.2) (.int .i64 t596)) (fun _ hk => hk.2) (.slice Ao28 t597.length co28)) (fun _ hk => ⟨hk.1.1, ⟨hk.1.2.2.2.2, ⟨hk.1.2.1, hk.1.2.2.2.1⟩⟩⟩)), by (with_reducible repeat (first | apply zF | apply zG | apply zH)); exact kA (kY (p := ⟨gb591, 1, none⟩) (kY (p := ⟨gb591, 0, none⟩) (kD HO_15.out BK591.out (by decide)) (fun _ hk => hk.2) (.int .i64 t596)) (fun _ hk => hk.2) (.slice Ao28 t597.length co28)) (fun _ hk => ⟨hk.1.1, ⟨hk.1.2.2.2.2, hk.1.2.2.2.1⟩⟩), jL (by (with_reducible repeat (first | apply zF | apply zG | apply zH)); exact kA (kY (p := ⟨gb591, 1, none⟩) (kY (p := ⟨gb591, 0, none⟩) (kD HO_16.out BK591.out (by decide)) (fun _ hk => hk.2) (.int .i64 t596)) (fun _ hk => hk.2) (.slice Ao28 t597.length co28)) (fun _ hk => ⟨hk.1.1, ⟨hk.1.2.2.2.2, ⟨hk.1.2.2.1, hk.1.2.2.2.1⟩⟩⟩)), by (with_reducible repeat (first | apply zF | apply zG | apply zH)); exact kA (kY (p := ⟨gb591, 1, none⟩) (kY (p := ⟨gb591, 0, none⟩) (kD HO_17.out BK591.out (by decide)) (fun _ hk => hk.2) (.int .i64 t596)) (fun _ hk => hk.2) (.slice Ao28 t597.length co28)) (fun _ hk => ⟨hk.1.1, ⟨hk.1.2.2.2.2, hk.1.2.2.1⟩⟩), zW HB.out (Z140.ge HI595.out) GE591.out GE603.out⟩
          rw [if_neg c56] at H
          exact absurd H (by simp)
         rw [if_neg c55] at H
         exact absurd H (by simp)
        replace c52 := Bool.eq_false_iff.mpr c52
        subst c52
        rw [if_neg (show ¬ (false = true) by decide)] at H
        have HC69 := zA H
        clear H
        go_upto_region 9 with (fail)
        go_cut [86] (fun v86 wc => ∃ (kq : Nat) (x86_68 : Bool) (x596001_68 : Int) (x596002_68 : Int), v86 = .bool x86_68 ∧ Aside0 (spec_DrawLeviOf.j1 kq t631 t638 t645 t652 x86_68 t592 x596001_68 x596002_68 t596 t597 = some (r1, r2, r3, r4, r5, r6)) ∧ Aside0 (kq ≤ kj20) ∧ Aside0 (Kd.R (Kd.int .i64) 2 wc w.heap.size (fun k_ => (w.heap.size ≤ k_) ∧ some k_ ≠ (v639 : Value).ownBlock ∧ some k_ ≠ (v646 : Value).ownBlock ∧ some k_ ≠ (v653 : Value).ownBlock ∧ some k_ ≠ ((.slice Ao28 t597.length co28) : Value).ownBlock) v632 t631) ∧ Aside0 (Kd.R (Kd.int .i64) 2 wc w.heap.size (fun k_ => (w.heap.size ≤ k_) ∧ some k_ ≠ (v632 : Value).ownBlock ∧ some k_ ≠ (v646 : Value).ownBlock ∧ some k_ ≠ (v653 : Value).ownBlock ∧ some k_ ≠ ((.slice Ao28 t597.length co28) : Value).ownBlock) v639 t638) ∧ Aside0 (Kd.R (Kd.int .i64) 2 wc w.heap.size (fun k_ => (w.heap.size ≤ k_) ∧ some k_ ≠ (v632 : Value).ownBlock ∧ some k_ ≠ (v639 : Value).ownBlock ∧ some k_ ≠ (v653 : Value).ownBlock ∧ some k_ ≠ ((.slice Ao28 t597.length co28) : Value).ownBlock) v646 t645) ∧ Aside0 (Kd.R (Kd.int .i64) 2 wc w.heap.size (fun k_ => (w.heap.size ≤ k_) ∧ some k_ ≠ (v632 : Value).ownBlock ∧ some k_ ≠ (v639 : Value).ownBlock ∧ some k_ ≠ (v646 : Value).ownBlock ∧ some k_ ≠ ((.slice Ao28 t597.length co28) : Value).ownBlock) v653 t652) ∧ Aside0 (Kd.R (Kd.int .i64) 2 wc w.heap.size (fun k_ => (w.heap.size ≤ k_) ∧ some k_ ≠ (v632 : Value).ownBlock ∧ some k_ ≠ (v639 : Value).ownBlock ∧ some k_ ≠ (v646 : Value).ownBlock ∧ some k_ ≠ (v653 : Value).ownBlock) (.slice Ao28 t597.length co28) t597) ∧ Aside0 (wc.heap[gb591]? = some (.cells #[.int .i64 0, (.slice none 0 0)] 29 (0, 0))) ∧ Aside0 (wc.heap[gb603]? = some (.cells #[.int .i64 t596, (.slice Ao28 t597.length co28)] 29 (0, 0))) ∧ Aside0 (Z140 w wc g595 t592 x596001_68 x596002_68) ∧ Aside0 (Below w.heap.size w wc))
        case first =>
         have H := HC69.out
         clear HC69
         by_cases c70 : t596 > 0
         ·rw [if_pos c70] at H
          have c70b0 : decide (0 < t596) = true := decide_eq_true c70
          clear c70
          (first | rw [c70b0] | (simp only [i64_w, i32_w]; rw [c70b0]) | skip)
          obtain ⟨⟨t665, t666, t667⟩, A71, H⟩ := zb H
          try dsimp only at H
          have H' := zA H
          clear H
          have hnb72 := NB603_591.out
          have hnc72 := NB591_603.out
          have hnb73 := NB603_595.out
          have hnc73 := NB595_603.out
          obtain ⟨hcz74_0, hcz74_1, hfz74_0, hfz74_1⟩ := zB3 BK603.out
          go_wp2_with (first | (go_at_call 128; (with_reducible refine (spec_l01Next.calls g595 t592 x596001_20 x596002_20 16 t665 t666 t667 w _ ?side1 ?side2 A71.out).mono ?_); (case side1 => exact Z140.uC HI595.out NB595_591.out NB595_603.out); (case side2 => exact zW HB.out (Z140.ge HI595.out) GE591.out GE603.out); rintro e w75 ⟨rfl, hi, hb, hk⟩; replace HO_14 := zA (zB9 (Z140.apart (show Z140 w _ g595 t592 x596001_20 x596002_20 from Z140.uC HI595.out NB595_591.out NB595_603.out) (zP HO_14.out) (by decide)) hk); replace HO_15 := zA (zB9 (Z140.apart (show Z140 w _ g595 t592 x596001_20 x596002_20 from Z140.uC HI595.out NB595_591.out NB595_603.out) (zP HO_15.out) (by decide)) hk); replace HO_16 := zA (zB9 (Z140.apart (show Z140 w _ g595 t592 x596001_20 x596002_20 from Z140.uC HI595.out NB595_591.out NB595_603.out) (zP HO_16.out) (by decide)) hk); replace HO_17 := zA (zB9 (Z140.apart (show Z140 w _ g595 t592 x596001_20 x596002_20 from Z140.uC HI595.out NB595_591.out NB595_603.out) (zP HO_17.out) (by decide)) hk); replace HO_604001 := zA (zB9 (Z140.apart (show Z140 w _ g595 t592 x596001_20 x596002_20 from Z140.uC HI595.out NB595_591.out NB595_603.out) (zP HO_604001.out) (by decide)) hk); replace BK591 := zA (zB2 hk BK591.out NB591_595.out); replace BK603 := zA (zB2 hk BK603.out NB603_595.out); replace HB := zA (hb); replace HI595 := zA (hi); (try clear hb); (try clear hk); (try clear hi)))
          go_meet
          case rel => exact ⟨_, ((t665 == 0)), (t666), (t667), zs, H', ⟨by have := HJ20.out; first | omega | exact Nat.le_refl _⟩, ⟨zP HO_14.out⟩, ⟨zP HO_15.out⟩, ⟨zP HO_16.out⟩, ⟨zP HO_17.out⟩, ⟨zP HO_604001.out⟩, ⟨zR BK591.out⟩, ⟨zR BK603.out⟩, ⟨Z140.uC HI595.out NB595_591.out NB595_603.out⟩, ⟨zW HB.out (Z140.ge HI595.out) GE591.out GE603.out⟩⟩
         rw [if_neg c70] at H
         have c70b0 : decide (0 < t596) = false := decide_eq_false c70
         clear c70
         (first | rw [c70b0] | (simp only [i64_w, i32_w]; rw [c70b0]) | skip)
         have H' := zA H
         clear H
         have hnb76 := NB603_591.out
         have hnc76 := NB591_603.out
         have hnb77 := NB603_595.out
         have hnc77 := NB595_603.out
         obtain ⟨hcz78_0, hcz78_1, hfz78_0, hfz78_1⟩ := zB3 BK603.out
         go_wp2
         go_meet
         case rel => exact ⟨_, (false), (x596001_20), (x596002_20), zs, H', ⟨by have := HJ20.out; first | omega | exact Nat.le_refl _⟩, ⟨zP HO_14.out⟩, ⟨zP HO_15.out⟩, ⟨zP HO_16.out⟩, ⟨zP HO_17.out⟩, ⟨zP HO_604001.out⟩, ⟨zR BK591.out⟩, ⟨zR BK603.out⟩, ⟨Z140.uC HI595.out NB595_591.out NB595_603.out⟩, ⟨zW HB.out (Z140.ge HI595.out) GE591.out GE603.out⟩⟩
        case rest =>
         clear HC69
         try clear c1
         try clear c4
         try clear c5
         try clear hx5
         try clear hf5
         try clear c6
         try clear c7
         try clear c8
         try clear c12
         try clear c40
         try clear c42
         try clear c47
         try clear c52
         try clear c55
         try clear c56
         try clear hx57
         try clear hf57
         try clear c64
         try clear c65
         try clear c67
         try clear c70
         try clear c72
         try clear c73
         try clear c76
         try clear c77
         try clear hcz66_0
         try clear hcz66_1
         try clear hcz68_0
         try clear hcz68_1
         try clear hcz74_0
         try clear hcz74_1
         try clear hcz78_0
         try clear hcz78_1
         try clear hfz66_0
         try clear hfz66_1
         try clear hfz68_0
         try clear hfz68_1
         try clear hfz74_0
         try clear hfz74_1
         try clear hfz78_0
         try clear hfz78_1
         try clear hx57_0
         obtain ⟨kq, x86_68, x596001_68, x596002_68, rfl, HA, HJ68, HO_14, HO_15, HO_16, HO_17, HO_604001, BK591, BK603, HI595, HB⟩ := hcut
         cases kq with
         | zero => exact absurd HA.out (by simp [spec_DrawLeviOf.j1])
         | succ kj68 =>
          have H := HA.out
          clear HA
          simp only [spec_DrawLeviOf.j1] at H
          by_cases c79 : x86_68 = true
          ·subst c79
           rw [if_pos rfl] at H
           have H' := zA H
           clear H
           go_wp2
           go_loopg [17] kj68 (fun kq v17 w' => ∃ (x17_3 : List Int), Aside0 (spec_DrawLeviOf.l0 kq t631 t638 t645 x17_3 t596 t597 = some (r1, r2, r3, r4, r5, r6)) ∧ Aside0 (kq ≤ kj68) ∧ Aside0 (Kd.R (Kd.int .i64) 2 w' w.heap.size (fun k_ => (w.heap.size ≤ k_) ∧ some k_ ≠ (v639 : Value).ownBlock ∧ some k_ ≠ (v646 : Value).ownBlock ∧ some k_ ≠ (v17 : Value).ownBlock ∧ some k_ ≠ ((.slice Ao28 t597.length co28) : Value).ownBlock) v632 t631) ∧ Aside0 (Kd.R (Kd.int .i64) 2 w' w.heap.size (fun k_ => (w.heap.size ≤ k_) ∧ some k_ ≠ (v632 : Value).ownBlock ∧ some k_ ≠ (v646 : Value).ownBlock ∧ some k_ ≠ (v17 : Value).ownBlock ∧ some k_ ≠ ((.slice Ao28 t597.length co28) : Value).ownBlock) v639 t638) ∧ Aside0 (Kd.R (Kd.int .i64) 2 w' w.heap.size (fun k_ => (w.heap.size ≤ k_) ∧ some k_ ≠ (v632 : Value).ownBlock ∧ some k_ ≠ (v639 : Value).ownBlock ∧ some k_ ≠ (v17 : Value).ownBlock ∧ some k_ ≠ ((.slice Ao28 t597.length co28) : Value).ownBlock) v646 t645) ∧ Aside0 (Kd.R (Kd.int .i64) 2 w' w.heap.size (fun k_ => (w.heap.size ≤ k_) ∧ some k_ ≠ (v632 : Value).ownBlock ∧ some k_ ≠ (v639 : Value).ownBlock ∧ some k_ ≠ (v646 : Value).ownBlock ∧ some k_ ≠ ((.slice Ao28 t597.length co28) : Value).ownBlock) v17 x17_3) ∧ Aside0 (Kd.R (Kd.int .i64) 2 w' w.heap.size (fun k_ => (w.heap.size ≤ k_) ∧ some k_ ≠ (v632 : Value).ownBlock ∧ some k_ ≠ (v639 : Value).ownBlock ∧ some k_ ≠ (v646 : Value).ownBlock ∧ some k_ ≠ (v17 : Value).ownBlock) (.slice Ao28 t597.length co28) t597) ∧ Aside0 (w'.heap[gb591]? = some (.cells #[.int .i64 0, (.slice none 0 0)] 29 (0, 0))) ∧ Aside0 (w'.heap[gb603]? = some (.cells #[.int .i64 t596, (.slice Ao28 t597.length co28)] 29 (0, 0))) ∧ Aside0 (Below w.heap.size w w'))
           case atStart => exact ⟨(t652), H', ⟨Nat.le_refl _⟩, ⟨zP HO_14.out⟩, ⟨zP HO_15.out⟩, ⟨zP HO_16.out⟩, ⟨zP HO_17.out⟩, ⟨zP HO_604001.out⟩, ⟨zR BK591.out⟩, ⟨zR BK603.out⟩, ⟨zW HB.out (Z140.ge HI595.out) GE591.out GE603.out⟩⟩
           case round =>
            clear H'
            try clear c1
            try clear c4
            try clear c5
            try clear hx5
            try clear hf5
            try clear c6
            try clear c7
            try clear c8
            try clear c12
            try clear c40
            try clear c42
            try clear c47
            try clear c52
            try clear c55
            try clear c56
            try clear hx57
            try clear hf57
            try clear c64
            try clear c65
            try clear c67
            try clear c70
            try clear c72
            try clear c73
            try clear c76
            try clear c77
            try clear c79
            try clear hcz66_0
            try clear hcz66_1
            try clear hcz68_0
            try clear hcz68_1
            try clear hcz74_0
            try clear hcz74_1
            try clear hcz78_0
            try clear hcz78_1
            try clear hfz66_0
            try clear hfz66_1
            try clear hfz68_0
            try clear hfz68_1
            try clear hfz74_0
            try clear hfz74_1
            try clear hfz78_0
            try clear hfz78_1
            try clear hx57_0
            obtain ⟨x17_3, HA, HK3, HO_14, HO_15, HO_16, HO_17, HO_604001, BK591, BK603, HB⟩ := hrel
            cases gk with
            | zero => exact absurd HA.out (by simp [spec_DrawLeviOf.l0])
            | succ k3 =>
             have H := HA.out
             clear HA
             simp only [spec_DrawLeviOf.l0] at H
             by_cases c80 : (x17_3.length : Int) < 24
             ·rw [if_pos c80] at H
              have c80b0 : decide ((x17_3.length : Int) < 24) = true := decide_eq_true c80
              have c80b1 : decide (x17_3.length < 24) = true := decide_eq_true (by omega)
              clear c80
              by_cases c81 : x17_3.length < 17592186044416
              ·rw [if_pos c81] at H
               have LMc81 := zA c81
               clear c81
               obtain ⟨y668, hy668⟩ : ∃ y_ : List Int, y_ = (x17_3 ++ [0]) := ⟨_, rfl⟩
               replace H : (spec_DrawLeviOf.l0 k3 t631 t638 t645 y668 t596 t597) = some (r1, r2, r3, r4, r5, r6) := zy hy668 H
               have Ny668 := zA hy668
               clear hy668
               have H' := zA H
               clear H
               obtain ⟨Ao82, co82, eo82⟩ := kM HO_17.out
               subst eo82
               go_wp2_with (first | ((with_reducible refine gate_builtin (b := .append) (xs := #[.tmp 98, .tmp 99]) rfl ?_); at_builtin; refine Kd.R_append (Kd.int .i64) (w0 := w) w.heap.size rfl (.tmp 98) (.tmp 99) 22 2 (.int .i64 0) 8 rfl Tryd.underlying22 info2 rfl (by decide) (by omega) (.slice Ao82 x17_3.length co82) x17_3 0 [.int .i64 0] (fun k_ => (w.heap.size ≤ k_) ∧ some k_ ≠ (v632 : Value).ownBlock ∧ some k_ ≠ (v639 : Value).ownBlock ∧ some k_ ≠ (v646 : Value).ownBlock ∧ some k_ ≠ (.slice Ao28 t597.length co28 : Value).ownBlock) (fun _ => False) rfl rfl ?aP (fun _ hk => hk.elim) ?aF ?aO ?aB ?aS ?aL ?_; (case aP => exact rfl); (case aB => exact (zV HB.out GE591.out GE603.out)); (case aF => exact (fun k_ hk => ⟨(Nat.le_trans (kP (zV HB.out GE591.out GE603.out)) hk), jF (kH (zP HO_14.out)) k_ hk, jF (kH (zP HO_15.out)) k_ hk, jF (kH (zP HO_16.out)) k_ hk, jF (kH (zP HO_604001.out)) k_ hk⟩)); (case aO => exact (zP HO_17.out)); (case aS => exact (kP (zV HB.out GE591.out GE603.out))); (case aL => have := LMc81.out; omega); intro v669 w83 ho hb hg hat; rw [← Ny668.out] at ho; replace HO_14 := zA (Kd.R_after (ok := (fun k_ => (w.heap.size ≤ k_) ∧ some k_ ≠ (v639 : Value).ownBlock ∧ some k_ ≠ (v646 : Value).ownBlock ∧ some k_ ≠ (.slice Ao28 t597.length co28 : Value).ownBlock)) (by (with_reducible repeat (first | apply zF | apply zG | apply zH)); exact kA HO_14.out (fun _ hk => ⟨⟨hk.1, ⟨hk.2.1, ⟨hk.2.2.1, hk.2.2.2.2⟩⟩⟩, hk.2.2.2.1⟩)) hg hat); replace HO_15 := zA (Kd.R_after (ok := (fun k_ => (w.heap.size ≤ k_) ∧ some k_ ≠ (v632 : Value).ownBlock ∧ some k_ ≠ (v646 : Value).ownBlock ∧ some k_ ≠ (.slice Ao28 t597.length co28 : Value).ownBlock)) (by (with_reducible repeat (first | apply zF | apply zG | apply zH)); exact kA HO_15.out (fun _ hk => ⟨⟨hk.1, ⟨hk.2.1, ⟨hk.2.2.1, hk.2.2.2.2⟩⟩⟩, hk.2.2.2.1⟩)) hg hat); replace HO_16 := zA (Kd.R_after (ok := (fun k_ => (w.heap.size ≤ k_) ∧ some k_ ≠ (v632 : Value).ownBlock ∧ some k_ ≠ (v639 : Value).ownBlock ∧ some k_ ≠ (.slice Ao28 t597.length co28 : Value).ownBlock)) (by (with_reducible repeat (first | apply zF | apply zG | apply zH)); exact kA HO_16.out (fun _ hk => ⟨⟨hk.1, ⟨hk.2.1, ⟨hk.2.2.1, hk.2.2.2.2⟩⟩⟩, hk.2.2.2.1⟩)) hg hat); replace HO_604001 := zA (Kd.R_after (ok := (fun k_ => (w.heap.size ≤ k_) ∧ some k_ ≠ (v632 : Value).ownBlock ∧ some k_ ≠ (v639 : Value).ownBlock ∧ some k_ ≠ (v646 : Value).ownBlock)) (by (with_reducible repeat (first | apply zF | apply zG | apply zH)); exact kA HO_604001.out (fun _ hk => ⟨⟨hk.1, ⟨hk.2.1, ⟨hk.2.2.1, hk.2.2.2.1⟩⟩⟩, hk.2.2.2.2⟩)) hg hat); replace BK591 := zA (blk_grown (g := gb591) (o := .cells #[.int .i64 0, .slice none 0 0] 29 (0, 0)) (zR BK591.out) hg (Kd.R_ne HO_17.out BK591.out (by decide))); replace BK603 := zA (blk_grown (g := gb603) (o := .cells #[.int .i64 t596, .slice Ao28 t597.length co28] 29 (0, 0)) (zR BK603.out) hg (Kd.R_ne HO_17.out BK603.out (by decide))); replace HB := zA (hb); have HO670 := zA (ho); clear HO_17; clear ho hb hg hat))
               go_roundg k3
               case measure => have := HJ20.out; have := HJ68.out; have := HK3.out; omega
               case rel => exact ⟨(y668), H', ⟨by have := HJ20.out; have := HJ68.out; have := HK3.out; omega⟩, ⟨zPM HO_14.out (fun _ hk => ⟨hk.1.1, ⟨hk.1.2.1, ⟨hk.1.2.2.1, ⟨hk.2, hk.1.2.2.2⟩⟩⟩⟩)⟩, ⟨zPM HO_15.out (fun _ hk => ⟨hk.1.1, ⟨hk.1.2.1, ⟨hk.1.2.2.1, ⟨hk.2, hk.1.2.2.2⟩⟩⟩⟩)⟩, ⟨zPM HO_16.out (fun _ hk => ⟨hk.1.1, ⟨hk.1.2.1, ⟨hk.1.2.2.1, ⟨hk.2, hk.1.2.2.2⟩⟩⟩⟩)⟩, ⟨zP HO670.out⟩, ⟨zPM HO_604001.out (fun _ hk => ⟨hk.1.1, ⟨hk.1.2.1, ⟨hk.1.2.2.1, ⟨hk.1.2.2.2, hk.2⟩⟩⟩⟩)⟩, ⟨zR BK591.out⟩, ⟨zR BK603.out⟩, ⟨zV HB.out GE591.out GE603.out⟩⟩
              rw [if_neg c81] at H
              exact absurd H (by simp)
             rw [if_neg c80] at H
             have c80b0 : decide ((x17_3.length : Int) < 24) = false := decide_eq_false c80
             have c80b1 : decide (x17_3.length < 24) = false := decide_eq_false (by omega)
             clear c80
             simp only [Option.some.injEq, Prod.mk.injEq] at H
             obtain ⟨rfl, rfl, rfl, rfl, rfl, rfl⟩ := H
             obtain ⟨Ao84, co84, eo84⟩ := kM HO_17.out
             subst eo84
             have hnb85 := NB603_591.out
             have hnc85 := NB591_603.out
             obtain ⟨hcz86_0, hcz86_1, hfz86_0, hfz86_1⟩ := zB3 BK603.out
             obtain ⟨hcz87_0, hcz87_1, hfz87_0, hfz87_1⟩ := zB3 BK591.out
             go_wp2
             refine bodyPost_ret (results_list (rs := [.cell 2 29, .tmp 3, .tmp 4, .tmp 5, .tmp 6]) rfl (by simp) (.cell gb591 29 #[.int .i64 t596, .slice Ao28 t597.length co28] (0, 0) _ rfl (zRP BK591.out) Tryd.underlying29 rfl (by kernel_rfl) (.tmp (.tmp (.tmp (.tmp .nil)))))) rfl ?_
             exact ⟨_, _, _, _, _, zr, by (with_reducible repeat (first | apply zF | apply zG | apply zH)); exact kA (kY (p := ⟨gb591, 1, none⟩) (kY (p := ⟨gb591, 0, none⟩) (kD HO_604001.out BK591.out (by decide)) (fun _ hk => hk.2) (.int .i64 t596)) (fun _ hk => hk.2) (.slice Ao28 t597.length co28)) (fun _ hk => ⟨hk.1.1, ⟨hk.1.2.2.1, hk.1.2.2.2.2⟩⟩), jL (by (with_reducible repeat (first | apply zF | apply zG | apply zH)); exact kA (kY (p := ⟨gb591, 1, none⟩) (kY (p := ⟨gb591, 0, none⟩) (kD HO_14.out BK591.out (by decide)) (fun _ hk => hk.2) (.int .i64 t596)) (fun _ hk => hk.2) (.slice Ao28 t597.length co28)) (fun _ hk => ⟨hk.1.1, ⟨hk.1.2.2.2.2, ⟨hk.1.2.1, hk.1.2.2.2.1⟩⟩⟩)), by (with_reducible repeat (first | apply zF | apply zG | apply zH)); exact kA (kY (p := ⟨gb591, 1, none⟩) (kY (p := ⟨gb591, 0, none⟩) (kD HO_15.out BK591.out (by decide)) (fun _ hk => hk.2) (.int .i64 t596)) (fun _ hk => hk.2) (.slice Ao28 t597.length co28)) (fun _ hk => ⟨hk.1.1, ⟨hk.1.2.2.2.2, hk.1.2.2.2.1⟩⟩), jL (by (with_reducible repeat (first | apply zF | apply zG | apply zH)); exact kA (kY (p := ⟨gb591, 1, none⟩) (kY (p := ⟨gb591, 0, none⟩) (kD HO_16.out BK591.out (by decide)) (fun _ hk => hk.2) (.int .i64 t596)) (fun _ hk => hk.2) (.slice Ao28 t597.length co28)) (fun _ hk => ⟨hk.1.1, ⟨hk.1.2.2.2.2, ⟨hk.1.2.2.1, hk.1.2.2.2.1⟩⟩⟩)), by (with_reducible repeat (first | apply zF | apply zG | apply zH)); exact kA (kY (p := ⟨gb591, 1, none⟩) (kY (p := ⟨gb591, 0, none⟩) (kD HO_17.out BK591.out (by decide)) (fun _ hk => hk.2) (.int .i64 t596)) (fun _ hk => hk.2) (.slice Ao28 t597.length co28)) (fun _ hk => ⟨hk.1.1, ⟨hk.1.2.2.2.2, hk.1.2.2.1⟩⟩), zV HB.out GE591.out GE603.out⟩
          replace c79 := Bool.eq_false_iff.mpr c79
          subst c79
          rw [if_neg (show ¬ (false = true) by decide)] at H
          obtain ⟨⟨t671, t672, t673⟩, A88, H⟩ := zb H
          try dsimp only at H
          by_cases c89 : t671 = 0
          ·rw [if_pos c89] at H
           obtain ⟨c89b0, c89b1⟩ := zT1 c89
           clear c89
           by_cases c90 : t638.length < 17592186044416
           ·rw [if_pos c90] at H
            have LMc90 := zA c90
            clear c90
            obtain ⟨y674, hy674⟩ : ∃ y_ : List Int, y_ = (t638 ++ [t596]) := ⟨_, rfl⟩
            replace H : (some (t596, t597, t631, y674, t645, t652)) = some (r1, r2, r3, r4, r5, r6) := zy hy674 H
            have Ny674 := zA hy674
            clear hy674
            simp only [Option.some.injEq, Prod.mk.injEq] at H
            obtain ⟨rfl, rfl, rfl, rfl, rfl, rfl⟩ := H
            go_wp2_with (first | (refine zO (some 103) Tryd.func128 #[.pointer (some ⟨g595, 0, none⟩), .int .i64 20] ?_; (with_reducible refine (spec_l01Next.calls g595 t592 x596001_68 x596002_68 20 t671 t672 t673 w _ ?side1 ?side2 A88.out).mono ?_); (case side1 => exact Z140.uC HI595.out NB595_591.out NB595_603.out); (case side2 => exact zW HB.out (Z140.ge HI595.out) GE591.out GE603.out); rintro e w91 ⟨rfl, hi, hb, hk⟩; refine ⟨_, rfl, ?_⟩; replace HO_14 := zA (zB9 (Z140.apart (show Z140 w _ g595 t592 x596001_68 x596002_68 from Z140.uC HI595.out NB595_591.out NB595_603.out) (zP HO_14.out) (by decide)) hk); replace HO_15 := zA (zB9 (Z140.apart (show Z140 w _ g595 t592 x596001_68 x596002_68 from Z140.uC HI595.out NB595_591.out NB595_603.out) (zP HO_15.out) (by decide)) hk); replace HO_16 := zA (zB9 (Z140.apart (show Z140 w _ g595 t592 x596001_68 x596002_68 from Z140.uC HI595.out NB595_591.out NB595_603.out) (zP HO_16.out) (by decide)) hk); replace HO_17 := zA (zB9 (Z140.apart (show Z140 w _ g595 t592 x596001_68 x596002_68 from Z140.uC HI595.out NB595_591.out NB595_603.out) (zP HO_17.out) (by decide)) hk); replace HO_604001 := zA (zB9 (Z140.apart (show Z140 w _ g595 t592 x596001_68 x596002_68 from Z140.uC HI595.out NB595_591.out NB595_603.out) (zP HO_604001.out) (by decide)) hk); replace BK591 := zA (zB2 hk BK591.out NB591_595.out); replace BK603 := zA (zB2 hk BK603.out NB603_595.out); replace HB := zA (hb); replace HI595 := zA (hi); (try clear hb); (try clear hk); (try clear hi); have hnb92 := NB603_591.out; have hnc92 := NB591_603.out; have hnb93 := NB603_595.out; have hnc93 := NB595_603.out; obtain ⟨hcz94_0, hcz94_1, hfz94_0, hfz94_1⟩ := zB3 BK603.out) | ((with_reducible refine gate_builtin (b := .append) (xs := #[.tmp 105, .tmp 108]) rfl ?_); at_builtin; refine Kd.R_append (Kd.int .i64) (w0 := w) w.heap.size rfl (.tmp 105) (.tmp 108) 22 2 (.int .i64 0) 8 rfl Tryd.underlying22 info2 rfl (by decide) (by omega) v639 t638 t596 [.int .i64 t596] (fun k_ => (w.heap.size ≤ k_) ∧ some k_ ≠ (v632 : Value).ownBlock ∧ some k_ ≠ (v646 : Value).ownBlock ∧ some k_ ≠ (v653 : Value).ownBlock ∧ some k_ ≠ (.slice Ao28 t597.length co28 : Value).ownBlock) (fun _ => False) rfl rfl ?aP (fun _ hk => hk.elim) ?aF ?aO ?aB ?aS ?aL ?_; (case aP => exact rfl); (case aB => exact (zW HB.out (Z140.ge HI595.out) GE591.out GE603.out)); (case aF => exact (fun k_ hk => ⟨(Nat.le_trans (kP (zW HB.out (Z140.ge HI595.out) GE591.out GE603.out)) hk), jF (kH (zP HO_14.out)) k_ hk, jF (kH (zP HO_16.out)) k_ hk, jF (kH (zP HO_17.out)) k_ hk, jF (kH (zP HO_604001.out)) k_ hk⟩)); (case aO => exact (zP HO_15.out)); (case aS => exact (kP (zW HB.out (Z140.ge HI595.out) GE591.out GE603.out))); (case aL => have := LMc90.out; omega); intro v675 w95 ho hb hg hat; rw [← Ny674.out] at ho; replace HO_14 := zA (Kd.R_after (ok := (fun k_ => (w.heap.size ≤ k_) ∧ some k_ ≠ (v646 : Value).ownBlock ∧ some k_ ≠ (v653 : Value).ownBlock ∧ some k_ ≠ (.slice Ao28 t597.length co28 : Value).ownBlock)) (by (with_reducible repeat (first | apply zF | apply zG | apply zH)); exact kA HO_14.out (fun _ hk => ⟨⟨hk.1, ⟨hk.2.2.1, ⟨hk.2.2.2.1, hk.2.2.2.2⟩⟩⟩, hk.2.1⟩)) hg hat); replace HO_16 := zA (Kd.R_after (ok := (fun k_ => (w.heap.size ≤ k_) ∧ some k_ ≠ (v632 : Value).ownBlock ∧ some k_ ≠ (v653 : Value).ownBlock ∧ some k_ ≠ (.slice Ao28 t597.length co28 : Value).ownBlock)) (by (with_reducible repeat (first | apply zF | apply zG | apply zH)); exact kA HO_16.out (fun _ hk => ⟨⟨hk.1, ⟨hk.2.1, ⟨hk.2.2.2.1, hk.2.2.2.2⟩⟩⟩, hk.2.2.1⟩)) hg hat); replace HO_17 := zA (Kd.R_after (ok := (fun k_ => (w.heap.size ≤ k_) ∧ some k_ ≠ (v632 : Value).ownBlock ∧ some k_ ≠ (v646 : Value).ownBlock ∧ some k_ ≠ (.slice Ao28 t597.length co28 : Value).ownBlock)) (by (with_reducible repeat (first | apply zF | apply zG | apply zH)); exact kA HO_17.out (fun _ hk => ⟨⟨hk.1, ⟨hk.2.1, ⟨hk.2.2.2.1, hk.2.2.2.2⟩⟩⟩, hk.2.2.1⟩)) hg hat); replace HO_604001 := zA (Kd.R_after (ok := (fun k_ => (w.heap.size ≤ k_) ∧ some k_ ≠ (v632 : Value).ownBlock ∧ some k_ ≠ (v646 : Value).ownBlock ∧ some k_ ≠ (v653 : Value).ownBlock)) (by (with_reducible repeat (first | apply zF | apply zG | apply zH)); exact kA HO_604001.out (fun _ hk => ⟨⟨hk.1, ⟨hk.2.1, ⟨hk.2.2.2.1, hk.2.2.2.2⟩⟩⟩, hk.2.2.1⟩)) hg hat); replace BK591 := zA (blk_grown (g := gb591) (o := .cells #[.int .i64 0, .slice none 0 0] 29 (0, 0)) (zR BK591.out) hg (Kd.R_ne HO_15.out BK591.out (by decide))); replace BK603 := zA (blk_grown (g := gb603) (o := .cells #[.int .i64 t596, .slice Ao28 t597.length co28] 29 (0, 0)) (zR BK603.out) hg (Kd.R_ne HO_15.out BK603.out (by decide))); replace HI595 := zA (Z140.grown (Z140.uC HI595.out NB595_591.out NB595_603.out) hg (Z140.own_ne HI595.out HO_15.out (by decide))); replace HB := zA (hb); have HO676 := zA (ho); clear HO_15; clear ho hb hg hat; obtain ⟨hcz96_0, hcz96_1, hfz96_0, hfz96_1⟩ := zB3 BK603.out; have hnb97 := NB591_595.out; have hnc97 := NB595_591.out; obtain ⟨hcz98_0, hcz98_1, hfz98_0, hfz98_1⟩ := zB3 BK591.out))
            refine bodyPost_ret (results_list (rs := [.cell 2 29, .tmp 3, .tmp 4, .tmp 5, .tmp 6]) rfl (by simp) (.cell gb591 29 #[.int .i64 t596, .slice Ao28 t597.length co28] (0, 0) _ rfl (zRP BK591.out) Tryd.underlying29 rfl (by kernel_rfl) (.tmp (.tmp (.tmp (.tmp .nil)))))) rfl ?_
            exact ⟨_, _, _, _, _, zr, by (with_reducible repeat (first | apply zF | apply zG | apply zH)); exact kA (kY (p := ⟨gb591, 1, none⟩) (kY (p := ⟨gb591, 0, none⟩) (kD HO_604001.out BK591.out (by decide)) (fun _ hk => hk.2) (.int .i64 t596)) (fun _ hk => hk.2) (.slice Ao28 t597.length co28)) (fun _ hk => ⟨hk.1.1.1, ⟨hk.1.2, hk.1.1.2.2.2⟩⟩), jL (by (with_reducible repeat (first | apply zF | apply zG | apply zH)); exact kA (kY (p := ⟨gb591, 1, none⟩) (kY (p := ⟨gb591, 0, none⟩) (kD HO_14.out BK591.out (by decide)) (fun _ hk => hk.2) (.int .i64 t596)) (fun _ hk => hk.2) (.slice Ao28 t597.length co28)) (fun _ hk => ⟨hk.1.1.1, ⟨hk.1.1.2.2.2, ⟨hk.1.2, hk.1.1.2.2.1⟩⟩⟩)), by (with_reducible repeat (first | apply zF | apply zG | apply zH)); exact kA (kY (p := ⟨gb591, 1, none⟩) (kY (p := ⟨gb591, 0, none⟩) (kD HO676.out BK591.out (by decide)) (fun _ hk => hk.2) (.int .i64 t596)) (fun _ hk => hk.2) (.slice Ao28 t597.length co28)) (fun _ hk => ⟨hk.1.1, ⟨hk.1.2.2.2.2, hk.1.2.2.2.1⟩⟩), jL (by (with_reducible repeat (first | apply zF | apply zG | apply zH)); exact kA (kY (p := ⟨gb591, 1, none⟩) (kY (p := ⟨gb591, 0, none⟩) (kD HO_16.out BK591.out (by decide)) (fun _ hk => hk.2) (.int .i64 t596)) (fun _ hk => hk.2) (.slice Ao28 t597.length co28)) (fun _ hk => ⟨hk.1.1.1, ⟨hk.1.1.2.2.2, ⟨hk.1.2, hk.1.1.2.2.1⟩⟩⟩)), by (with_reducible repeat (first | apply zF | apply zG | apply zH)); exact kA (kY (p := ⟨gb591, 1, none⟩) (kY (p := ⟨gb591, 0, none⟩) (kD HO_17.out BK591.out (by decide)) (fun _ hk => hk.2) (.int .i64 t596)) (fun _ hk => hk.2) (.slice Ao28 t597.length co28)) (fun _ hk => ⟨hk.1.1.1, ⟨hk.1.1.2.2.2, hk.1.2⟩⟩), zW HB.out (Z140.ge HI595.out) GE591.out GE603.out⟩
           rw [if_neg c90] at H
           exact absurd H (by simp)
          rw [if_neg c89] at H
          obtain ⟨c89b0, c89b1⟩ := zT2 c89
          simp only [Option.some.injEq, Prod.mk.injEq] at H
          obtain ⟨rfl, rfl, rfl, rfl, rfl, rfl⟩ := H
          go_wp2_with (first | (refine zO (some 103) Tryd.func128 #[.pointer (some ⟨g595, 0, none⟩), .int .i64 20] ?_; (with_reducible refine (spec_l01Next.calls g595 t592 x596001_68 x596002_68 20 t671 t672 t673 w _ ?side1 ?side2 A88.out).mono ?_); (case side1 => exact Z140.uC HI595.out NB595_591.out NB595_603.out); (case side2 => exact zW HB.out (Z140.ge HI595.out) GE591.out GE603.out); rintro e w99 ⟨rfl, hi, hb, hk⟩; refine ⟨_, rfl, ?_⟩; replace HO_14 := zA (zB9 (Z140.apart (show Z140 w _ g595 t592 x596001_68 x596002_68 from Z140.uC HI595.out NB595_591.out NB595_603.out) (zP HO_14.out) (by decide)) hk); replace HO_15 := zA (zB9 (Z140.apart (show Z140 w _ g595 t592 x596001_68 x596002_68 from Z140.uC HI595.out NB595_591.out NB595_603.out) (zP HO_15.out) (by decide)) hk); replace HO_16 := zA (zB9 (Z140.apart (show Z140 w _ g595 t592 x596001_68 x596002_68 from Z140.uC HI595.out NB595_591.out NB595_603.out) (zP HO_16.out) (by decide)) hk); replace HO_17 := zA (zB9 (Z140.apart (show Z140 w _ g595 t592 x596001_68 x596002_68 from Z140.uC HI595.out NB595_591.out NB595_603.out) (zP HO_17.out) (by decide)) hk); replace HO_604001 := zA (zB9 (Z140.apart (show Z140 w _ g595 t592 x596001_68 x596002_68 from Z140.uC HI595.out NB595_591.out NB595_603.out) (zP HO_604001.out) (by decide)) hk); replace BK591 := zA (zB2 hk BK591.out NB591_595.out); replace BK603 := zA (zB2 hk BK603.out NB603_595.out); replace HB := zA (hb); replace HI595 := zA (hi); (try clear hb); (try clear hk); (try clear hi); have hnb100 := NB603_591.out; have hnc100 := NB591_603.out; have hnb101 := NB603_595.out; have hnc101 := NB595_603.out; obtain ⟨hcz102_0, hcz102_1, hfz102_0, hfz102_1⟩ := zB3 BK603.out; have hnb103 := NB591_595.out; have hnc103 := NB595_591.out; obtain ⟨hcz104_0, hcz104_1, hfz104_0, hfz104_1⟩ := zB3 BK591.out))
          refine bodyPost_ret (results_list (rs := [.cell 2 29, .tmp 3, .tmp 4, .tmp 5, .tmp 6]) rfl (by simp) (.cell gb591 29 #[.int .i64 t596, .slice Ao28 t597.length co28] (0, 0) _ rfl (zRP BK591.out) Tryd.underlying29 rfl (by kernel_rfl) (.tmp (.tmp (.tmp (.tmp .nil)))))) rfl ?_
          exact ⟨_, _, _, _, _, zr, by (with_reducible repeat (first | apply zF | apply zG | apply zH)); exact kA (kY (p := ⟨gb591, 1, none⟩) (kY (p := ⟨gb591, 0, none⟩) (kD HO_604001.out BK591.out (by decide)) (fun _ hk => hk.2) (.int .i64 t596)) (fun _ hk => hk.2) (.slice Ao28 t597.length co28)) (fun _ hk => ⟨hk.1.1, ⟨hk.1.2.2.1, hk.1.2.2.2.2⟩⟩), jL (by (with_reducible repeat (first | apply zF | apply zG | apply zH)); exact kA (kY (p := ⟨gb591, 1, none⟩) (kY (p := ⟨gb591, 0, none⟩) (kD HO_14.out BK591.out (by decide)) (fun _ hk => hk.2) (.int .i64 t596)) (fun _ hk => hk.2) (.slice Ao28 t597.length co28)) (fun _ hk => ⟨hk.1.1, ⟨hk.1.2.2.2.2, ⟨hk.1.2.1, hk.1.2.2.2.1⟩⟩⟩)), by (with_reducible repeat (first | apply zF | apply zG | apply zH)); exact kA (kY (p := ⟨gb591, 1, none⟩) (kY (p := ⟨gb591, 0, none⟩) (kD HO_15.out BK591.out (by decide)) (fun _ hk => hk.2) (.int .i64 t596)) (fun _ hk => hk.2) (.slice Ao28 t597.length co28)) (fun _ hk => ⟨hk.1.1, ⟨hk.1.2.2.2.2, hk.1.2.2.2.1⟩⟩), jL (by (with_reducible repeat (first | apply zF | apply zG | apply zH)); exact kA (kY (p := ⟨gb591, 1, none⟩) (kY (p := ⟨gb591, 0, none⟩) (kD HO_16.out BK591.out (by decide)) (fun _ hk => hk.2) (.int .i64 t596)) (fun _ hk => hk.2) (.slice Ao28 t597.length co28)) (fun _ hk => ⟨hk.1.1, ⟨hk.1.2.2.2.2, ⟨hk.1.2.2.1, hk.1.2.2.2.1⟩⟩⟩)), by (with_reducible repeat (first | apply zF | apply zG | apply zH)); exact kA (kY (p := ⟨gb591, 1, none⟩) (kY (p := ⟨gb591, 0, none⟩) (kD HO_17.out BK591.out (by decide)) (fun _ hk => hk.2) (.int .i64 t596)) (fun _ hk => hk.2) (.slice Ao28 t597.length co28)) (fun _ hk => ⟨hk.1.1, ⟨hk.1.2.2.2.2, hk.1.2.2.1⟩⟩), zW HB.out (Z140.ge HI595.out) GE591.out GE603.out⟩
     rw [if_neg c16] at H
     exact absurd H (by simp)
    rw [if_neg c15] at H
    exact absurd H (by simp)
   rw [if_neg c10] at H
   exact absurd H (by simp)
  rw [if_neg c9] at H
  exact absurd H (by simp)
 replace c4 := Bool.eq_false_iff.mpr c4
 subst c4
 rw [if_neg (show ¬ (false = true) by decide)] at H
 obtain ⟨y605, hy605⟩ : ∃ y_ : List Int, y_ = (([0] : List Int)) := ⟨_, rfl⟩
 replace H : (some (t596, t597, t600, y605, t600, (([0] : List Int)))) = some (r1, r2, r3, r4, r5, r6) := zy hy605 H
 have Ny605 := zA hy605
 clear hy605
 obtain ⟨y608, hy608⟩ : ∃ y_ : List Int, y_ = (([0] : List Int)) := ⟨_, rfl⟩
 replace H : (some (t596, t597, t600, y605, t600, y608)) = some (r1, r2, r3, r4, r5, r6) := zy hy608 H
 have Ny608 := zA hy608
 clear hy608
 simp only [Option.some.injEq, Prod.mk.injEq] at H
 obtain ⟨rfl, rfl, rfl, rfl, rfl, rfl⟩ := H
 go_enter Tryd.func48, Tryd.ntmps48
 go_wp2_with (first | (refine zBE 2 #[.int .i64 0, .slice none 0 0] 29 ?_; intro gb591 hg w105 hbox hb; have BK591 := zA (hbox); have GW591 := zA (zBH hg HB.out); have GE591 := zA (zBH hg HB.out); replace HB := zA (kQ (zQ HB.out) hb); clear hb hbox hg) | (refine zO (some 20) Tryd.func114 #[.slice A0 l0.length c0, .int .i64 6, .int .i64 22] ?_; (with_reducible refine (spec_l03Pair.calls k _ _ l0 6 22 t592 t593 t594 t596 t597 t600 w _ ?side1 ?side2 ?side3 A2.out).mono ?_); (case side1 => exact zT HB.out GE591.out); (case side2 => exact HR0.out); (case side3 => exact HC0.out); rintro e w106 ⟨v598, v601, g595, rfl, ho0, ho1, hi, hb, hb2, hgw⟩; refine ⟨_, rfl, ?_⟩; have HO599 := zA (kI (Kd.R_newM (M := fun k_ => (w.heap.size ≤ k_)) ho0 (kP (zT HB.out GE591.out)) (fun k_ h_ => h_)) (kP (zT HB.out GE591.out))); have HO602 := zA (kI (Kd.R_newM (M := fun k_ => (w.heap.size ≤ k_)) ho1 (kP (zT HB.out GE591.out)) (fun k_ h_ => h_)) (kP (zT HB.out GE591.out))); replace HB := zA (hb); have HI595 := zA (hi); have NB595_591 := zA (Z140.ne_blk hi (blk_below (g := gb591) (o := .cells #[.int .i64 0, .slice none 0 0] 29 (0, 0)) (zR BK591.out) hb2) (by decide)); have NB591_595 := zA (Ne.symm (Z140.ne_blk hi (blk_below (g := gb591) (o := .cells #[.int .i64 0, .slice none 0 0] 29 (0, 0)) (zR BK591.out) hb2) (by decide))); replace BK591 := zA (zB1 BK591.out hb2); (try clear hb); (try clear hb2); (try clear hi); (try clear hgw); (try clear ho0); (try clear ho1)) | (refine zBE 8 #[.int .i64 0, .slice none 0 0] 29 ?_; intro gb603 hg w107 hbox hb; replace HO599 := zA (kL (zP HO599.out) hb); replace HO602 := zA (kL (zP HO602.out) hb); have BK603 := zA (hbox); have GW603 := zA (zB6 hg (kP (zV HB.out (Z140.ge HI595.out) GE591.out)) : w.heap.size ≤ gb603); have GE603 := zA (zB6 hg (kP (zV HB.out (Z140.ge HI595.out) GE591.out)) : w.heap.size ≤ gb603); replace HB := zA (kQ (zV HB.out (Z140.ge HI595.out) GE591.out) hb); have NB591_603 := zA (zB4 hg BK591.out : gb591 ≠ gb603); have NB603_591 := zA (zB5 hg BK591.out : gb603 ≠ gb591); replace BK591 := zA (zB1 BK591.out hb); have NB595_603 := zA (zB7 hg (Z140.lt (show Z140 w _ g595 t592 t593 t594 from Z140.uB HI595.out NB595_591.out)) : g595 ≠ gb603); have NB603_595 := zA (zB8 hg (Z140.lt (show Z140 w _ g595 t592 t593 t594 from Z140.uB HI595.out NB595_591.out)) : gb603 ≠ g595); replace HI595 := zA (Z140.below (Z140.uB HI595.out NB595_591.out) hb); clear hb hbox hg; have hnb108 := NB603_591.out; have hnc108 := NB591_603.out; have hnb109 := NB603_595.out; have hnc109 := NB595_603.out; obtain ⟨hcz110_0, hcz110_1, hfz110_0, hfz110_1⟩ := zB3 BK603.out; obtain ⟨Ao111, co111, eo111⟩ := kM HO599.out; subst eo111; obtain ⟨Ao112, co112, eo112⟩ := kM HO602.out; subst eo112) | (refine zO (some 26) Tryd.func126 #[.agg #[.int .i64 t596, .slice Ao111 t597.length co111], .slice Ao112 t600.length co112] ?_; (with_reducible refine (spec_l03Is.calls k t596 _ _ t597 _ _ t600 false _ ?side1 ?side2 ?side3 ?side4 A3.out).mono ?_); (case side1 => refine (kB (e := 2) (base := w.heap.size) (ok := fun k_ => ((w.heap.size ≤ k_) ∧ some k_ ≠ (.slice Ao112 t600.length co112 : Value).ownBlock)) (n := t597.length) (c := co111) ?_).2.2; exact (zP (zFG HO599.out BK603.out (.int .i64 t596) (.slice Ao111 t597.length co111)))); (case side2 => exact (kB HO599.out).2.1); (case side3 => refine (kB (e := 2) (base := w.heap.size) (ok := fun k_ => ((w.heap.size ≤ k_) ∧ some k_ ≠ (.slice Ao111 t597.length co111 : Value).ownBlock)) (n := t600.length) (c := co112) ?_).2.2; exact (zP (zFG HO602.out BK603.out (.int .i64 t596) (.slice Ao111 t597.length co111)))); (case side4 => exact (kB HO602.out).2.1); rintro e w113 ⟨rfl, hb⟩; refine ⟨_, rfl, ?_⟩; replace HO599 := zA (kL (zP (zFG HO599.out BK603.out (.int .i64 t596) (.slice Ao111 t597.length co111))) hb); replace HO602 := zA (kL (zP (zFG HO602.out BK603.out (.int .i64 t596) (.slice Ao111 t597.length co111))) hb); replace BK591 := zA (blk_below (g := gb591) (o := .cells #[.int .i64 0, .slice none 0 0] 29 (0, 0)) (zBG BK591.out NB591_603.out NB591_603.out) hb); replace BK603 := zA (blk_below (g := gb603) (o := .cells #[.int .i64 t596, .slice Ao111 t597.length co111] 29 (0, 0)) (zRP BK603.out) hb); replace HB := zA (kQ (zW HB.out (Z140.ge HI595.out) GE591.out GE603.out) hb); replace HI595 := zA (Z140.below (show Z140 w ((w107.setCell ⟨gb603, 0, none⟩ (.int .i64 t596)).setCell ⟨gb603, 1, none⟩ (.slice Ao111 t597.length co111)) g595 t592 t593 t594 from Z140.uC HI595.out NB595_591.out NB595_603.out) hb); (try clear hb); obtain ⟨hcz114_0, hcz114_1, hfz114_0, hfz114_1⟩ := zB3 BK603.out) | ((with_reducible refine kS (N := 30) rfl ?_); refine Kd.R_lit (Kd.int .i64) _ 2 ?hg (N := 30) ?hd (xs := ([0] : List Int)) (inner := [.int .i64 0]) (ok := fun _ => True) (okp := fun _ => True) ?hr ?hp (fun _ hk => hk) trivial (kW _ _) (Nat.le_refl _) (by simp) ?_; (case hd => rfl); (case hg => rfl); (case hr => first | (go_simp; done) | (go_simp; rfl)); (case hp => exact (Reps.one (show Kd.M (Kd.int .i64) _ _ _ 0 [.int .i64 0] from rfl) (Reps.none _ _))); intro v606 w115 ho116 hb hg_ hnew_; clear hg_ hnew_; (first | rw [← Ny605.out] at ho116 | (simp only [Int.reduceToNat] at ho116; rw [← Ny605.out] at ho116)); have HO607 := zA (kI (kF (kF (Kd.R_newM (M := fun k_ => (w.heap.size ≤ k_)) ho116 (kP (zW HB.out (Z140.ge HI595.out) GE591.out GE603.out)) (fun k_ h_ => h_)) (kH (zP HO599.out))) (kH (zP HO602.out))) (kP (zW HB.out (Z140.ge HI595.out) GE591.out GE603.out))); replace HO599 := zA (kE (zP HO599.out) (kC ho116) hb); replace HO602 := zA (kE (zP HO602.out) (kC ho116) hb); replace BK591 := zA (zB1 BK591.out hb); replace BK603 := zA (zB1 BK603.out hb); replace HB := zA (kQ (zW HB.out (Z140.ge HI595.out) GE591.out GE603.out) hb); replace HI595 := zA (Z140.below (Z140.uC HI595.out NB595_591.out NB595_603.out) hb); clear hb ho116) | ((with_reducible refine kS (N := 32) rfl ?_); refine Kd.R_lit (Kd.int .i64) _ 2 ?hg (N := 32) ?hd (xs := ([0] : List Int)) (inner := [.int .i64 0]) (ok := fun _ => True) (okp := fun _ => True) ?hr ?hp (fun _ hk => hk) trivial (kW _ _) (Nat.le_refl _) (by simp) ?_; (case hd => rfl); (case hg => rfl); (case hr => first | (go_simp; done) | (go_simp; rfl)); (case hp => exact (Reps.one (show Kd.M (Kd.int .i64) _ _ _ 0 [.int .i64 0] from rfl) (Reps.none _ _))); intro v609 w117 ho118 hb hg_ hnew_; clear hg_ hnew_; (first | rw [← Ny608.out] at ho118 | (simp only [Int.reduceToNat] at ho118; rw [← Ny608.out] at ho118)); have HO610 := zA (kI (kF (kF (kF (Kd.R_newM (M := fun k_ => (w.heap.size ≤ k_)) ho118 (kP (zW HB.out (Z140.ge HI595.out) GE591.out GE603.out)) (fun k_ h_ => h_)) (kH (zP HO599.out))) (kH (zP HO602.out))) (kH (zP HO607.out))) (kP (zW HB.out (Z140.ge HI595.out) GE591.out GE603.out))); replace HO599 := zA (kE (zP HO599.out) (kC ho118) hb); replace HO602 := zA (kE (zP HO602.out) (kC ho118) hb); replace HO607 := zA (kE (zP HO607.out) (kC ho118) hb); replace BK591 := zA (zB1 BK591.out hb); replace BK603 := zA (zB1 BK603.out hb); replace HB := zA (kQ (zW HB.out (Z140.ge HI595.out) GE591.out GE603.out) hb); replace HI595 := zA (Z140.below (Z140.uC HI595.out NB595_591.out NB595_603.out) hb); clear hb ho118; have hnb119 := NB591_595.out; have hnc119 := NB595_591.out; obtain ⟨hcz120_0, hcz120_1, hfz120_0, hfz120_1⟩ := zB3 BK591.out))
 refine bodyPost_ret (results_list (rs := [.cell 2 29, .tmp 3, .tmp 4, .tmp 5, .tmp 6]) rfl (by simp) (.cell gb591 29 #[.int .i64 t596, .slice Ao111 t597.length co111] (0, 0) _ rfl (zRP BK591.out) Tryd.underlying29 rfl (by kernel_rfl) (.tmp (.tmp (.tmp (.tmp .nil)))))) rfl ?_
 exact ⟨_, _, _, _, _, zr, by (with_reducible repeat (first | apply zF | apply zG | apply zH)); exact kA (kY (p := ⟨gb591, 1, none⟩) (kY (p := ⟨gb591, 0, none⟩) (kD HO599.out BK591.out (by decide)) (fun _ hk => hk.2) (.int .i64 t596)) (fun _ hk => hk.2) (.slice Ao111 t597.length co111)) (fun _ hk => ⟨hk.1.1.1.1, ⟨hk.1.1.2, hk.1.2⟩⟩), jL (by (with_reducible repeat (first | apply zF | apply zG | apply zH)); exact kA (kY (p := ⟨gb591, 1, none⟩) (kY (p := ⟨gb591, 0, none⟩) (kD HO602.out BK591.out (by decide)) (fun _ hk => hk.2) (.int .i64 t596)) (fun _ hk => hk.2) (.slice Ao111 t597.length co111)) (fun _ hk => ⟨hk.1.1.1.1, ⟨hk.1.1.1.2, ⟨hk.1.1.2, hk.1.2⟩⟩⟩)), by (with_reducible repeat (first | apply zF | apply zG | apply zH)); exact kA (kY (p := ⟨gb591, 1, none⟩) (kY (p := ⟨gb591, 0, none⟩) (kD HO607.out BK591.out (by decide)) (fun _ hk => hk.2) (.int .i64 t596)) (fun _ hk => hk.2) (.slice Ao111 t597.length co111)) (fun _ hk => ⟨hk.1.1.1.1.1, ⟨hk.1.1.1.2, hk.1.2⟩⟩), jL (by (with_reducible repeat (first | apply zF | apply zG | apply zH)); exact kA (kY (p := ⟨gb591, 1, none⟩) (kY (p := ⟨gb591, 0, none⟩) (kD HO602.out BK591.out (by decide)) (fun _ hk => hk.2) (.int .i64 t596)) (fun _ hk => hk.2) (.slice Ao111 t597.length co111)) (fun _ hk => ⟨hk.1.1.1.1, ⟨hk.1.1.1.2, ⟨hk.1.1.2, hk.1.2⟩⟩⟩)), by (with_reducible repeat (first | apply zF | apply zG | apply zH)); exact kA (kY (p := ⟨gb591, 1, none⟩) (kY (p := ⟨gb591, 0, none⟩) (kD HO610.out BK591.out (by decide)) (fun _ hk => hk.2) (.int .i64 t596)) (fun _ hk => hk.2) (.slice Ao111 t597.length co111)) (fun _ hk => ⟨hk.1.1.1.1.1, ⟨hk.1.1.1.2, hk.1.2⟩⟩), zW HB.out (Z140.ge HI595.out) GE591.out GE603.out⟩

end Go.Proofs.YthgapkbkhoeleaaDoor.PAll
