import Derived.Test.YtkiacoilecdepaaDoorPAllx0
import Derived.Test.YtkiacoilecdepaaDoorPAllx1
import Derived.Test.YtkiacoilecdepaaDoorPAllx3
import Derived.Test.YtkiacoilecdepaaDoorPAllx4
import Derived.Test.YtkiacoilecdepaaDoorPAllx6
import Derived.Test.YtkiacoilecdepaaDoorPAllx7
import Derived.Test.YtkiacoilecdepaaDoorPAllx10
import Derived.Test.YtkiacoilecdepaaDoorPAllx12
import Derived.Test.YtkiacoilecdepaaDoorPAllx13
namespace Go.Proofs.YtkiacoilecdepaaDoor.PAll
open Go.RowKit Go.Proofs.YtkiacoilecdepaaDoor.T Go.Proofs.YtkiacoilecdepaaDoorW.PrintWords Go.Proofs.YtkiacoilecdepaaDoorW.PrintLast Go.Proofs.YtkiacoilecdepaaDoorW.PrintMore
attribute [local go_sem] max2_int min2_int max_two min_two max_three min_three max_four min_four   -- for this text's walks alone
set_option linter.unusedVariables false
set_option linter.unusedSimpArgs false
mutual
def spec_l05Friends.j0 : Nat → List Int → List Int → Bool → List Int → Int → Int → Int → List Int → Option (Int × List Int × List Int × List Int)
 | 0, _, _, _, _, _, _, _, _ => none
 | k + 1, x0, x7, x33, x1327000, x1327001, x1327002, x1335000, x1335001 => if x33 = true then ((spec_l05Two.f k x0 6 20).bind fun bt1339 => (some (bt1339.2.2.2.1, bt1339.2.2.2.2.1, bt1339.2.2.2.2.2.1, bt1339.2.2.2.2.2.2))) else ((spec_l03Normal.f k x1335000 x1335001 x7).bind fun t1354 => ((spec_l04Order.f k x1335000 x1335001 t1354).bind fun t1357 => (spec_l05Friends.l0 k t1354 t1357 0 0 0 x1327000 x1327001 x1327002 x1335000 x1335001)))
def spec_l05Friends.l0 : Nat → List Int → List Int → Int → Int → Int → List Int → Int → Int → Int → List Int → Option (Int × List Int × List Int × List Int)
 | 0, _, _, _, _, _, _, _, _, _, _ => none
 | k + 1, x12, x13, x14, x15, x16, x1327000, x1327001, x1327002, x1335000, x1335001 => if x16 < (x12.length : Int) then ((spec_l01Next.f x1327000 x1327001 x1327002 5).bind fun bt1360 => (if bt1360.1 = 0 then ((spec_l01Below.f k x13 x16).bind fun t1363 => (spec_l05Friends.l0 k x12 x13 (Go.bits .or .i64 x14 t1363) x15 (wrap64 (x16 + 1)) x1327000 bt1360.2.1 bt1360.2.2 x1335000 x1335001)) else (if bt1360.1 = 1 then ((spec_l01Below.f k x13 x16).bind fun t1364 => (spec_l05Friends.l0 k x12 x13 x14 (Go.bits .or .i64 x15 t1364) (wrap64 (x16 + 1)) x1327000 bt1360.2.1 bt1360.2.2 x1335000 x1335001)) else (spec_l05Friends.l0 k x12 x13 x14 x15 (wrap64 (x16 + 1)) x1327000 bt1360.2.1 bt1360.2.2 x1335000 x1335001)))) else ((spec_l04At.f k x12 x14).bind fun t1365 => ((spec_l03Shuffle.f k x1327000 x1327001 x1327002 x1335000 x1335001 t1365).bind fun bt1368 => ((spec_l04At.f k x12 x15).bind fun t1373 => ((spec_l03Shuffle.f k x1327000 bt1368.2.1 bt1368.2.2 x1335000 x1335001 t1373).bind fun bt1376 => (if x1335000 > 0 then (if (bt1368.1.length : Int) < 24 then ((spec_l01Next.f x1327000 bt1376.2.1 bt1376.2.2 6).bind fun bt1381 => (spec_l05Friends.j2 k bt1368.1 bt1376.1 (bt1381.1 == 0) x1327000 bt1381.2.1 bt1381.2.2 x1335000 x1335001)) else (spec_l05Friends.j2 k bt1368.1 bt1376.1 false x1327000 bt1376.2.1 bt1376.2.2 x1335000 x1335001)) else (spec_l05Friends.j2 k bt1368.1 bt1376.1 false x1327000 bt1376.2.1 bt1376.2.2 x1335000 x1335001))))))
def spec_l05Friends.j2 : Nat → List Int → List Int → Bool → List Int → Int → Int → Int → List Int → Option (Int × List Int × List Int × List Int)
 | 0, _, _, _, _, _, _, _, _ => none
 | k + 1, x17, x18, x96, x1327000, x1327001, x1327002, x1335000, x1335001 => if x96 = true then ((spec_l01Next.f x1327000 x1327001 x1327002 x1335000).bind fun bt1384 => (if x17.length < 17592186044416 then (some (x1335000, x1335001, (x17 ++ [bt1384.1]), x18)) else (none))) else (some (x1335000, x1335001, x17, x18))
end
def spec_l05Friends.f (k : Nat) (l0 : List Int) : Option (Int × List Int × List Int × List Int) := (spec_l03Pair.f k l0 8 24).bind fun bt1323 => ((spec_l03Is.f k bt1323.2.2.2.1 bt1323.2.2.2.2.1 bt1323.2.2.2.2.2).bind fun t1335 => (if t1335 = true then ((spec_l01Next.f bt1323.1 bt1323.2.1 bt1323.2.2.1 6).bind fun bt1336 => (spec_l05Friends.j0 k l0 bt1323.2.2.2.2.2 (bt1336.1 == 0) bt1323.1 bt1336.2.1 bt1336.2.2 bt1323.2.2.2.1 bt1323.2.2.2.2.1)) else (spec_l05Friends.j0 k l0 bt1323.2.2.2.2.2 true bt1323.1 bt1323.2.1 bt1323.2.2.1 bt1323.2.2.2.1 bt1323.2.2.2.2.1)))
def spec_l05Friends.T15 : Bool × List (List Nat × List Nat) := (true, [([], []), ([], []), ([], []), ([], []), ([2, 3], [2, 3]), ([0, 1, 4, 4], [0, 1, 4]), ([], []), ([], []), ([], []), ([], []), ([8, 9, 5], [8, 9]), ([6, 7, 10, 10], [6, 7, 10]), ([5, 11, 0, 1, 2, 3, 4, 5], [5]), ([11, 12, 0, 1, 2, 3, 4, 5, 6, 7, 8, 9, 10, 11, 12], [11])])
def spec_l05Friends.B15 : List Nat := [0, 0, 0, 0, 12, 31, 0, 0, 0, 0, 831, 2047, 4095, 8191]
theorem spec_l05Friends.tab15 : rtab .any (opsOf Tryd.f91 15) = spec_l05Friends.T15 := by kernel_rfl
theorem spec_l05Friends.bits15 : waitsOk spec_l05Friends.T15.2 spec_l05Friends.B15 = true := by kernel_rfl
set_option maxHeartbeats 8000000 in
set_option maxRecDepth 100000 in
theorem spec_l05Friends.calls (k : Nat) (A0 : Option Addr) (c0 : Nat) (l0 : List Int) (r1 : Int) (r2 : List Int) (r3 : List Int) (r4 : List Int) (w : World) (hr0 : Kd.C (Kd.int .u8) w A0 l0.length l0) (hc0 : l0.length ≤ c0) (h : spec_l05Friends.f k l0 = some (r1, r2, r3, r4)) :
  Calls Tryd.prog 91 #[.slice A0 l0.length c0] w fun e w' => ∃ v1_ v2_ v3_ : Value, e = .returned (.tuple #[.agg #[.int .i64 r1, v1_], v2_, v3_]) ∧ Kd.R (Kd.int .i64) 2 w' w.heap.size (fun k_ => some k_ ≠ (v2_ : Value).ownBlock ∧ some k_ ≠ (v3_ : Value).ownBlock) v1_ r2 ∧ Kd.R (Kd.int .i64) 2 w' w.heap.size (fun k_ => some k_ ≠ (v1_ : Value).ownBlock ∧ some k_ ≠ (v3_ : Value).ownBlock) v2_ r3 ∧ Kd.R (Kd.int .i64) 2 w' w.heap.size (fun k_ => some k_ ≠ (v1_ : Value).ownBlock ∧ some k_ ≠ (v2_ : Value).ownBlock) v3_ r4 ∧ Below w.heap.size w w' := by
 have hu26 := Tryd.underlying26
 have HR0 := zA hr0
 have HC0 := zA hc0
 clear hr0 hc0
 have HB := zA (kW w.heap.size w)
 have H := h
 unfold spec_l05Friends.f at H
 clear h
 obtain ⟨⟨t1323, t1324, t1325, t1327, t1328, t1331⟩, A2, H⟩ := zb H
 try dsimp only at H
 have HC3 := zA H
 clear H
 go_enter Tryd.func91, Tryd.ntmps91
 go_upto_region 2 with (first | (refine zBE 2 #[.int .i64 0, .slice none 0 0] 26 ?_; intro gb1322 hg w4 hbox hb; have BK1322 := zA (hbox); have GW1322 := zA (zBH hg HB.out); have GE1322 := zA (zBH hg HB.out); replace HB := zA (kQ (zQ HB.out) hb); clear hb hbox hg) | (refine zO (some 21) Tryd.func48 #[.slice A0 l0.length c0, .int .i64 8, .int .i64 24] ?_; (with_reducible refine (spec_l03Pair.calls k _ _ l0 8 24 t1323 t1324 t1325 t1327 t1328 t1331 w _ ?side1 ?side2 ?side3 A2.out).mono ?_); (case side1 => exact zT HB.out GE1322.out); (case side2 => exact HR0.out); (case side3 => exact HC0.out); rintro e w5 ⟨v1329, v1332, g1326, rfl, ho0, ho1, hi, hb, hb2, hgw⟩; refine ⟨_, rfl, ?_⟩; have HO1330 := zA (kI ho0 (kP (zT HB.out GE1322.out))); have HO1333 := zA (kI ho1 (kP (zT HB.out GE1322.out))); replace HB := zA (hb); have HI1326 := zA (hi); have NB1326_1322 := zA (Z101.ne_blk hi (blk_below (g := gb1322) (o := .cells #[.int .i64 0, .slice none 0 0] 26 (0, 0)) (zR BK1322.out) hb2) (by decide)); have NB1322_1326 := zA (Ne.symm (Z101.ne_blk hi (blk_below (g := gb1322) (o := .cells #[.int .i64 0, .slice none 0 0] 26 (0, 0)) (zR BK1322.out) hb2) (by decide))); replace BK1322 := zA (zB1 BK1322.out hb2); (try clear hb); (try clear hb2); (try clear hi); (try clear hgw); (try clear ho0); (try clear ho1)) | (refine zBE 6 #[.int .i64 0, .slice none 0 0] 26 ?_; intro gb1334 hg w6 hbox hb; replace HO1330 := zA (kL (zP HO1330.out) hb); replace HO1333 := zA (kL (zP HO1333.out) hb); have BK1334 := zA (hbox); have GW1334 := zA (zB6 hg (kP (zV HB.out (Z101.ge HI1326.out) GE1322.out)) : w.heap.size ≤ gb1334); have GE1334 := zA (zB6 hg (kP (zV HB.out (Z101.ge HI1326.out) GE1322.out)) : w.heap.size ≤ gb1334); replace HB := zA (kQ (zV HB.out (Z101.ge HI1326.out) GE1322.out) hb); have NB1322_1334 := zA (zB4 hg BK1322.out : gb1322 ≠ gb1334); have NB1334_1322 := zA (zB5 hg BK1322.out : gb1334 ≠ gb1322); replace BK1322 := zA (zB1 BK1322.out hb); have NB1326_1334 := zA (zB7 hg (Z101.lt (show Z101 w _ g1326 t1323 t1324 t1325 from Z101.uB HI1326.out NB1326_1322.out)) : g1326 ≠ gb1334); have NB1334_1326 := zA (zB8 hg (Z101.lt (show Z101 w _ g1326 t1323 t1324 t1325 from Z101.uB HI1326.out NB1326_1322.out)) : gb1334 ≠ g1326); replace HI1326 := zA (Z101.below (Z101.uB HI1326.out NB1326_1322.out) hb); clear hb hbox hg; have hnb7 := NB1334_1322.out; have hnc7 := NB1322_1334.out; have hnb8 := NB1334_1326.out; have hnc8 := NB1326_1334.out; obtain ⟨hcz9_0, hcz9_1, hfz9_0, hfz9_1⟩ := zB3 BK1334.out; obtain ⟨Ao10, co10, eo10⟩ := kM HO1330.out; subst eo10))
 (try simp only [Act.put, zL, zM, zN])
 go_cut [33] (fun v33 wc => ∃ (kq : Nat) (x33_2 : Bool) (x1327001_2 : Int) (x1327002_2 : Int), v33 = .bool x33_2 ∧ Aside0 (spec_l05Friends.j0 kq l0 t1331 x33_2 t1323 x1327001_2 x1327002_2 t1327 t1328 = some (r1, r2, r3, r4)) ∧ Aside0 (kq ≤ k) ∧ Aside0 (Kd.R (Kd.int .i64) 2 wc w.heap.size (fun k_ => some k_ ≠ ((.slice Ao10 t1328.length co10) : Value).ownBlock) v1332 t1331) ∧ Aside0 (Kd.R (Kd.int .i64) 2 wc w.heap.size (fun k_ => some k_ ≠ (v1332 : Value).ownBlock) (.slice Ao10 t1328.length co10) t1328) ∧ Aside0 (wc.heap[gb1322]? = some (.cells #[.int .i64 0, (.slice none 0 0)] 26 (0, 0))) ∧ Aside0 (wc.heap[gb1334]? = some (.cells #[.int .i64 t1327, (.slice Ao10 t1328.length co10)] 26 (0, 0))) ∧ Aside0 (Z101 w wc g1326 t1323 x1327001_2 x1327002_2) ∧ Aside0 (Below w.heap.size w wc))
 case first =>
  have H := HC3.out
  clear HC3
  obtain ⟨t1335, A11, H⟩ := zb H
  try dsimp only at H
  by_cases c12 : t1335 = true
  ·subst c12
   rw [if_pos rfl] at H
   obtain ⟨⟨t1336, t1337, t1338⟩, A13, H⟩ := zb H
   try dsimp only at H
   have H' := zA H
   clear H
   have hnb14 := NB1334_1322.out
   have hnc14 := NB1322_1334.out
   have hnb15 := NB1334_1326.out
   have hnc15 := NB1326_1334.out
   obtain ⟨hcz16_0, hcz16_1, hfz16_0, hfz16_1⟩ := zB3 BK1334.out
   obtain ⟨Ao17, co17, eo17⟩ := kM HO1333.out
   subst eo17
   go_wp2_with (first | (refine zO (some 27) Tryd.func77 #[.agg #[.int .i64 t1327, .slice Ao10 t1328.length co10], .slice Ao17 t1331.length co17] ?_; (with_reducible refine (spec_l03Is.calls k t1327 _ _ t1328 _ _ t1331 true _ ?side1 ?side2 ?side3 ?side4 A11.out).mono ?_); (case side1 => refine (kB (e := 2) (base := w.heap.size) (ok := fun k_ => some k_ ≠ (.slice Ao17 t1331.length co17 : Value).ownBlock) (n := t1328.length) (c := co10) ?_).2.2; exact (zP (zFG HO1330.out BK1334.out (.int .i64 t1327) (.slice Ao10 t1328.length co10)))); (case side2 => exact (kB HO1330.out).2.1); (case side3 => refine (kB (e := 2) (base := w.heap.size) (ok := fun k_ => some k_ ≠ (.slice Ao10 t1328.length co10 : Value).ownBlock) (n := t1331.length) (c := co17) ?_).2.2; exact (zP (zFG HO1333.out BK1334.out (.int .i64 t1327) (.slice Ao10 t1328.length co10)))); (case side4 => exact (kB HO1333.out).2.1); rintro e w18 ⟨rfl, hb⟩; refine ⟨_, rfl, ?_⟩; replace HO1330 := zA (kL (zP (zFG HO1330.out BK1334.out (.int .i64 t1327) (.slice Ao10 t1328.length co10))) hb); replace HO1333 := zA (kL (zP (zFG HO1333.out BK1334.out (.int .i64 t1327) (.slice Ao10 t1328.length co10))) hb); replace BK1322 := zA (blk_below (g := gb1322) (o := .cells #[.int .i64 0, .slice none 0 0] 26 (0, 0)) (zBG BK1322.out NB1322_1334.out NB1322_1334.out) hb); replace BK1334 := zA (blk_below (g := gb1334) (o := .cells #[.int .i64 t1327, .slice Ao10 t1328.length co10] 26 (0, 0)) (zRP BK1334.out) hb); replace HB := zA (kQ (zW HB.out (Z101.ge HI1326.out) GE1322.out GE1334.out) hb); replace HI1326 := zA (Z101.below (show Z101 w ((w6.setCell ⟨gb1334, 0, none⟩ (.int .i64 t1327)).setCell ⟨gb1334, 1, none⟩ (.slice Ao10 t1328.length co10)) g1326 t1323 t1324 t1325 from Z101.uC HI1326.out NB1326_1322.out NB1326_1334.out) hb); (try clear hb)) | (go_at_call 79; (with_reducible refine (spec_l01Next.calls g1326 t1323 t1324 t1325 6 t1336 t1337 t1338 w _ ?side1 ?side2 A13.out).mono ?_); (case side1 => exact Z101.uC HI1326.out NB1326_1322.out NB1326_1334.out); (case side2 => exact zW HB.out (Z101.ge HI1326.out) GE1322.out GE1334.out); rintro e w19 ⟨rfl, hi, hb, hk⟩; replace BK1322 := zA (zB2 hk BK1322.out NB1322_1326.out); replace HO1330 := zA (zB9 (Z101.apart (show Z101 w _ g1326 t1323 t1324 t1325 from Z101.uC HI1326.out NB1326_1322.out NB1326_1334.out) (zP HO1330.out) (by decide)) hk); replace HO1333 := zA (zB9 (Z101.apart (show Z101 w _ g1326 t1323 t1324 t1325 from Z101.uC HI1326.out NB1326_1322.out NB1326_1334.out) (zP HO1333.out) (by decide)) hk); replace BK1334 := zA (zB2 hk BK1334.out NB1334_1326.out); replace HB := zA (hb); replace HI1326 := zA (hi); (try clear hb)))
   go_meet
   case rel => exact ⟨_, ((t1336 == 0)), (t1337), (t1338), zs, H', ⟨by first | omega | exact Nat.le_refl _⟩, ⟨zP HO1333.out⟩, ⟨zP HO1330.out⟩, ⟨zR BK1322.out⟩, ⟨zR BK1334.out⟩, ⟨Z101.uC HI1326.out NB1326_1322.out NB1326_1334.out⟩, ⟨zW HB.out (Z101.ge HI1326.out) GE1322.out GE1334.out⟩⟩
  replace c12 := Bool.eq_false_iff.mpr c12
  subst c12
  rw [if_neg (show ¬ (false = true) by decide)] at H
  have H' := zA H
  clear H
  have hnb20 := NB1334_1322.out
  have hnc20 := NB1322_1334.out
  have hnb21 := NB1334_1326.out
  have hnc21 := NB1326_1334.out
  obtain ⟨hcz22_0, hcz22_1, hfz22_0, hfz22_1⟩ := zB3 BK1334.out
  obtain ⟨Ao23, co23, eo23⟩ := kM HO1333.out
  subst eo23
  go_wp2_with (first | (refine zO (some 27) Tryd.func77 #[.agg #[.int .i64 t1327, .slice Ao10 t1328.length co10], .slice Ao23 t1331.length co23] ?_; (with_reducible refine (spec_l03Is.calls k t1327 _ _ t1328 _ _ t1331 false _ ?side1 ?side2 ?side3 ?side4 A11.out).mono ?_); (case side1 => refine (kB (e := 2) (base := w.heap.size) (ok := fun k_ => some k_ ≠ (.slice Ao23 t1331.length co23 : Value).ownBlock) (n := t1328.length) (c := co10) ?_).2.2; exact (zP (zFG HO1330.out BK1334.out (.int .i64 t1327) (.slice Ao10 t1328.length co10)))); (case side2 => exact (kB HO1330.out).2.1); (case side3 => refine (kB (e := 2) (base := w.heap.size) (ok := fun k_ => some k_ ≠ (.slice Ao10 t1328.length co10 : Value).ownBlock) (n := t1331.length) (c := co23) ?_).2.2; exact (zP (zFG HO1333.out BK1334.out (.int .i64 t1327) (.slice Ao10 t1328.length co10)))); (case side4 => exact (kB HO1333.out).2.1); rintro e w24 ⟨rfl, hb⟩; refine ⟨_, rfl, ?_⟩; replace HO1330 := zA (kL (zP (zFG HO1330.out BK1334.out (.int .i64 t1327) (.slice Ao10 t1328.length co10))) hb); replace HO1333 := zA (kL (zP (zFG HO1333.out BK1334.out (.int .i64 t1327) (.slice Ao10 t1328.length co10))) hb); replace BK1322 := zA (blk_below (g := gb1322) (o := .cells #[.int .i64 0, .slice none 0 0] 26 (0, 0)) (zBG BK1322.out NB1322_1334.out NB1322_1334.out) hb); replace BK1334 := zA (blk_below (g := gb1334) (o := .cells #[.int .i64 t1327, .slice Ao10 t1328.length co10] 26 (0, 0)) (zRP BK1334.out) hb); replace HB := zA (kQ (zW HB.out (Z101.ge HI1326.out) GE1322.out GE1334.out) hb); replace HI1326 := zA (Z101.below (show Z101 w ((w6.setCell ⟨gb1334, 0, none⟩ (.int .i64 t1327)).setCell ⟨gb1334, 1, none⟩ (.slice Ao10 t1328.length co10)) g1326 t1323 t1324 t1325 from Z101.uC HI1326.out NB1326_1322.out NB1326_1334.out) hb); (try clear hb)))
  go_meet
  case rel => exact ⟨_, (true), (t1324), (t1325), zs, H', ⟨by first | omega | exact Nat.le_refl _⟩, ⟨zP HO1333.out⟩, ⟨zP HO1330.out⟩, ⟨zR BK1322.out⟩, ⟨zR BK1334.out⟩, ⟨Z101.uC HI1326.out NB1326_1322.out NB1326_1334.out⟩, ⟨zW HB.out (Z101.ge HI1326.out) GE1322.out GE1334.out⟩⟩
 case rest =>
  clear HC3
  try clear c1
  try clear c2
  try clear c4
  try clear c7
  try clear c8
  try clear c9
  try clear c12
  try clear c14
  try clear c15
  try clear c20
  try clear c21
  try clear hcz16_0
  try clear hcz16_1
  try clear hcz22_0
  try clear hcz22_1
  try clear hcz9_0
  try clear hcz9_1
  try clear hfz16_0
  try clear hfz16_1
  try clear hfz22_0
  try clear hfz22_1
  try clear hfz9_0
  try clear hfz9_1
  obtain ⟨kq, x33_2, x1327001_2, x1327002_2, rfl, HA, HJ2, HO_7, HO_1335001, BK1322, BK1334, HI1326, HB⟩ := hcut
  cases kq with
  | zero => exact absurd HA.out (by simp [spec_l05Friends.j0])
  | succ kj2 =>
   have H := HA.out
   clear HA
   simp only [spec_l05Friends.j0] at H
   by_cases c25 : x33_2 = true
   ·subst c25
    rw [if_pos rfl] at H
    obtain ⟨⟨t1339, t1340, t1341, t1343, t1344, t1347, t1350⟩, A26, H⟩ := zb H
    try dsimp only at H
    simp only [Option.some.injEq, Prod.mk.injEq] at H
    obtain ⟨rfl, rfl, rfl, rfl⟩ := H
    go_wp2_with (first | (refine zO (some 36) Tryd.func75 #[.slice A0 l0.length c0, .int .i64 6, .int .i64 20] ?_; (with_reducible refine (spec_l05Two.calls kj2 _ _ l0 6 20 t1339 t1340 t1341 t1343 t1344 t1347 t1350 w _ ?side1 ?side2 ?side3 A26.out).mono ?_); (case side1 => exact zW HB.out (Z101.ge HI1326.out) GE1322.out GE1334.out); (case side2 => exact HR0.out); (case side3 => exact HC0.out); rintro e w27 ⟨v1345, v1348, v1351, g1342, rfl, ho0, ho1, ho2, hi, hb, hb2, hgw⟩; refine ⟨_, rfl, ?_⟩; have HO1346 := zA (kI (kF (kF ho0 (kH (zP HO_7.out))) (kH (zP HO_1335001.out))) (kP (zV HB.out GE1322.out GE1334.out))); have HO1349 := zA (kI (kF (kF ho1 (kH (zP HO_7.out))) (kH (zP HO_1335001.out))) (kP (zV HB.out GE1322.out GE1334.out))); have HO1352 := zA (kI (kF (kF ho2 (kH (zP HO_7.out))) (kH (zP HO_1335001.out))) (kP (zV HB.out GE1322.out GE1334.out))); replace HO_7 := zA (kA (Kd.R_told (Kd.R_told (Kd.R_told (Kd.R_old (zP HO_7.out) hb2) (kC ho0)) (kC ho1)) (kC ho2)) (fun _ h_ => h_.1)); replace HO_1335001 := zA (kA (Kd.R_told (Kd.R_told (Kd.R_told (Kd.R_old (zP HO_1335001.out) hb2) (kC ho0)) (kC ho1)) (kC ho2)) (fun _ h_ => h_.1)); replace HB := zA (hb); have HI1342 := zA (hi); have NB1342_1322 := zA (Z101.ne_blk hi (blk_below (g := gb1322) (o := .cells #[.int .i64 0, .slice none 0 0] 26 (0, 0)) (zR BK1322.out) hb2) (by decide)); have NB1322_1342 := zA (Ne.symm (Z101.ne_blk hi (blk_below (g := gb1322) (o := .cells #[.int .i64 0, .slice none 0 0] 26 (0, 0)) (zR BK1322.out) hb2) (by decide))); replace BK1322 := zA (zB1 BK1322.out hb2); have NB1342_1334 := zA (Z101.ne_blk hi (blk_below (g := gb1334) (o := .cells #[.int .i64 t1327, .slice Ao10 t1328.length co10] 26 (0, 0)) (zR BK1334.out) hb2) (by decide)); have NB1334_1342 := zA (Ne.symm (Z101.ne_blk hi (blk_below (g := gb1334) (o := .cells #[.int .i64 t1327, .slice Ao10 t1328.length co10] 26 (0, 0)) (zR BK1334.out) hb2) (by decide))); replace BK1334 := zA (zB1 BK1334.out hb2); (try clear hb); (try clear hb2); (try clear hi); (try clear hgw); (try clear ho0); (try clear ho1); (try clear ho2)) | (refine zBE 9 #[.int .i64 0, .slice none 0 0] 26 ?_; intro gb1353 hg w28 hbox hb; replace HO_7 := zA (kL (zP HO_7.out) hb); replace HO_1335001 := zA (kL (zP HO_1335001.out) hb); replace HO1346 := zA (kL (zP HO1346.out) hb); replace HO1349 := zA (kL (zP HO1349.out) hb); replace HO1352 := zA (kL (zP HO1352.out) hb); have BK1353 := zA (hbox); have GW1353 := zA (zB6 hg (kP (zW HB.out (Z101.ge HI1342.out) GE1322.out GE1334.out)) : w.heap.size ≤ gb1353); have GE1353 := zA (zB6 hg (kP (zW HB.out (Z101.ge HI1342.out) GE1322.out GE1334.out)) : w.heap.size ≤ gb1353); replace HB := zA (kQ (zW HB.out (Z101.ge HI1342.out) GE1322.out GE1334.out) hb); have NB1322_1353 := zA (zB4 hg BK1322.out : gb1322 ≠ gb1353); have NB1353_1322 := zA (zB5 hg BK1322.out : gb1353 ≠ gb1322); replace BK1322 := zA (zB1 BK1322.out hb); have NB1334_1353 := zA (zB4 hg BK1334.out : gb1334 ≠ gb1353); have NB1353_1334 := zA (zB5 hg BK1334.out : gb1353 ≠ gb1334); replace BK1334 := zA (zB1 BK1334.out hb); have NB1342_1353 := zA (zB7 hg (Z101.lt (show Z101 w _ g1342 t1339 t1340 t1341 from Z101.uC HI1342.out NB1342_1322.out NB1342_1334.out)) : g1342 ≠ gb1353); have NB1353_1342 := zA (zB8 hg (Z101.lt (show Z101 w _ g1342 t1339 t1340 t1341 from Z101.uC HI1342.out NB1342_1322.out NB1342_1334.out)) : gb1353 ≠ g1342); replace HI1342 := zA (Z101.below (Z101.uC HI1342.out NB1342_1322.out NB1342_1334.out) hb); clear hb hbox hg; have hnb29 := NB1353_1322.out; have hnc29 := NB1322_1353.out; have hnb30 := NB1353_1334.out; have hnc30 := NB1334_1353.out; have hnb31 := NB1353_1342.out; have hnc31 := NB1342_1353.out; obtain ⟨hcz32_0, hcz32_1, hfz32_0, hfz32_1⟩ := zB3 BK1353.out; obtain ⟨Ao33, co33, eo33⟩ := kM HO1346.out; subst eo33; have hnb34 := NB1322_1334.out; have hnc34 := NB1334_1322.out; have hnb35 := NB1322_1342.out; have hnc35 := NB1342_1322.out; obtain ⟨hcz36_0, hcz36_1, hfz36_0, hfz36_1⟩ := zB3 BK1322.out))
    refine bodyPost_ret (results_ctt rfl _ _ gb1322 26 #[.int .i64 t1343, .slice Ao33 t1344.length co33] (0, 0) _ rfl (by (with_reducible repeat (first | refine zJ ?_ _ | refine zK ?_ | refine zI ?_ _)); refine blk_put (cs := #[.int .i64 t1343, .slice none 0 0]) ?_ 1 _ rfl; (with_reducible repeat (first | refine zJ ?_ _ | refine zK ?_ | refine zI ?_ _)); refine blk_put (cs := #[.int .i64 0, .slice none 0 0]) ?_ 0 _ rfl; (with_reducible repeat (first | refine zJ ?_ _ | refine zK ?_ | refine zI ?_ _)); refine blk_far ?_ NB1322_1353.out _; (with_reducible repeat (first | refine zJ ?_ _ | refine zK ?_ | refine zI ?_ _)); refine blk_far ?_ NB1322_1353.out _; (with_reducible repeat (first | refine zJ ?_ _ | refine zK ?_ | refine zI ?_ _)); exact BK1322.out) Tryd.underlying26 rfl (by kernel_rfl)) rfl ?_
    exact ⟨_, _, _, zr, by (with_reducible repeat (first | apply zF | apply zG | apply zH)); exact kA (kY (p := ⟨gb1322, 1, none⟩) (kY (p := ⟨gb1322, 0, none⟩) (kY (p := ⟨gb1353, 1, none⟩) (kY (p := ⟨gb1353, 0, none⟩) (kD (kD HO1346.out BK1353.out (by decide)) BK1322.out (by decide)) (fun _ hk => hk.1.2) (.int .i64 t1343)) (fun _ hk => hk.1.2) (.slice Ao33 t1344.length co33)) (fun _ hk => hk.2) (.int .i64 t1343)) (fun _ hk => hk.2) (.slice Ao33 t1344.length co33)) (fun _ hk => ⟨hk.1.1.1.1.1, hk.1.1.1.1.2⟩), by (with_reducible repeat (first | apply zF | apply zG | apply zH)); exact kA (kY (p := ⟨gb1322, 1, none⟩) (kY (p := ⟨gb1322, 0, none⟩) (kY (p := ⟨gb1353, 1, none⟩) (kY (p := ⟨gb1353, 0, none⟩) (kD (kD HO1349.out BK1353.out (by decide)) BK1322.out (by decide)) (fun _ hk => hk.1.2) (.int .i64 t1343)) (fun _ hk => hk.1.2) (.slice Ao33 t1344.length co33)) (fun _ hk => hk.2) (.int .i64 t1343)) (fun _ hk => hk.2) (.slice Ao33 t1344.length co33)) (fun _ hk => ⟨hk.1.1.1.1.1, hk.1.1.1.1.2⟩), by (with_reducible repeat (first | apply zF | apply zG | apply zH)); exact kA (kY (p := ⟨gb1322, 1, none⟩) (kY (p := ⟨gb1322, 0, none⟩) (kY (p := ⟨gb1353, 1, none⟩) (kY (p := ⟨gb1353, 0, none⟩) (kD (kD HO1352.out BK1353.out (by decide)) BK1322.out (by decide)) (fun _ hk => hk.1.2) (.int .i64 t1343)) (fun _ hk => hk.1.2) (.slice Ao33 t1344.length co33)) (fun _ hk => hk.2) (.int .i64 t1343)) (fun _ hk => hk.2) (.slice Ao33 t1344.length co33)) (fun _ hk => ⟨hk.1.1.1.1.1, hk.1.1.1.1.2⟩), by repeat (first | (with_reducible first | exact HB.out | apply zB | apply zC | apply zD | refine zE ?_ (Z101.ge HI1342.out) | refine zE ?_ GE1322.out | refine zE ?_ GE1334.out | refine zE ?_ GE1353.out) | exact HB.out)⟩
   replace c25 := Bool.eq_false_iff.mpr c25
   subst c25
   rw [if_neg (show ¬ (false = true) by decide)] at H
   obtain ⟨t1354, A37, H⟩ := zb H
   try dsimp only at H
   obtain ⟨t1357, A38, H⟩ := zb H
   try dsimp only at H
   have H' := zA H
   clear H
   have hnb39 := NB1334_1322.out
   have hnc39 := NB1322_1334.out
   have hnb40 := NB1334_1326.out
   have hnc40 := NB1326_1334.out
   obtain ⟨hcz41_0, hcz41_1, hfz41_0, hfz41_1⟩ := zB3 BK1334.out
   obtain ⟨Ao42, co42, eo42⟩ := kM HO_7.out
   subst eo42
   go_wp2_with (first | (refine zO (some 46) Tryd.func68 #[.agg #[.int .i64 t1327, .slice Ao10 t1328.length co10], .slice Ao42 t1331.length co42] ?_; (with_reducible refine (spec_l03Normal.calls kj2 t1327 _ _ t1328 _ _ t1331 t1354 _ ?side1 ?side2 ?side3 ?side4 A37.out).mono ?_); (case side1 => exact zS (kB HO_1335001.out).2.2); (case side2 => exact (kB HO_1335001.out).2.1); (case side3 => exact zS (kB HO_7.out).2.2); (case side4 => exact (kB HO_7.out).2.1); rintro e w43 ⟨v1355, rfl, ho0, hb⟩; refine ⟨_, rfl, ?_⟩; have HO1356 := zA (kI (kF (kF ho0 (kH (zP HO_7.out))) (kH (zP HO_1335001.out))) (kP (zW HB.out (Z101.ge HI1326.out) GE1322.out GE1334.out))); replace HO_7 := zA (kE (zP HO_7.out) (kC ho0) hb); replace HO_1335001 := zA (kE (zP HO_1335001.out) (kC ho0) hb); replace BK1322 := zA (zB1 BK1322.out hb); replace BK1334 := zA (zB1 BK1334.out hb); replace HB := zA (kQ (zW HB.out (Z101.ge HI1326.out) GE1322.out GE1334.out) hb); replace HI1326 := zA (Z101.below (Z101.uC HI1326.out NB1326_1322.out NB1326_1334.out) hb); (try clear hb); (try clear ho0); obtain ⟨hcz44_0, hcz44_1, hfz44_0, hfz44_1⟩ := zB3 BK1334.out; obtain ⟨Ao45, co45, eo45⟩ := kM HO1356.out; subst eo45) | (refine zO (some 49) Tryd.func78 #[.agg #[.int .i64 t1327, .slice Ao10 t1328.length co10], .slice Ao45 t1354.length co45] ?_; (with_reducible refine (spec_l04Order.calls kj2 t1327 _ _ t1328 _ _ t1354 t1357 _ ?side1 ?side2 ?side3 ?side4 A38.out).mono ?_); (case side1 => exact zS (kB HO_1335001.out).2.2); (case side2 => exact (kB HO_1335001.out).2.1); (case side3 => exact zS (kB HO1356.out).2.2); (case side4 => exact (kB HO1356.out).2.1); rintro e w46 ⟨v1358, rfl, ho0, hb⟩; refine ⟨_, rfl, ?_⟩; have HO1359 := zA (kI (kF (kF (kF ho0 (kH (zP HO_7.out))) (kH (zP HO_1335001.out))) (kH (zP HO1356.out))) (kP (zW HB.out (Z101.ge HI1326.out) GE1322.out GE1334.out))); replace HO_7 := zA (kE (zP HO_7.out) (kC ho0) hb); replace HO_1335001 := zA (kE (zP HO_1335001.out) (kC ho0) hb); replace HO1356 := zA (kE (zP HO1356.out) (kC ho0) hb); replace BK1322 := zA (zB1 BK1322.out hb); replace BK1334 := zA (zB1 BK1334.out hb); replace HB := zA (kQ (zW HB.out (Z101.ge HI1326.out) GE1322.out GE1334.out) hb); replace HI1326 := zA (Z101.below (Z101.uC HI1326.out NB1326_1322.out NB1326_1334.out) hb); (try clear hb); (try clear ho0)))
   go_loopg [14, 15, 16] kj2 (fun kq v14 v15 v16 w' => ∃ (x14_2 : Int) (x15_2 : Int) (x16_2 : Int) (x1327001_2 : Int) (x1327002_2 : Int), v14 = .int .i64 x14_2 ∧ v15 = .int .i64 x15_2 ∧ v16 = .int .i64 x16_2 ∧ Aside0 (spec_l05Friends.l0 kq t1354 t1357 x14_2 x15_2 x16_2 t1323 x1327001_2 x1327002_2 t1327 t1328 = some (r1, r2, r3, r4)) ∧ Aside0 (kq ≤ kj2) ∧ Aside0 (Kd.R (Kd.int .i64) 2 w' w.heap.size (fun k_ => some k_ ≠ (v1358 : Value).ownBlock ∧ some k_ ≠ ((.slice Ao10 t1328.length co10) : Value).ownBlock) (.slice Ao45 t1354.length co45) t1354) ∧ Aside0 (Kd.R (Kd.int .i64) 2 w' w.heap.size (fun k_ => some k_ ≠ ((.slice Ao45 t1354.length co45) : Value).ownBlock ∧ some k_ ≠ ((.slice Ao10 t1328.length co10) : Value).ownBlock) v1358 t1357) ∧ Aside0 (Kd.R (Kd.int .i64) 2 w' w.heap.size (fun k_ => some k_ ≠ ((.slice Ao45 t1354.length co45) : Value).ownBlock ∧ some k_ ≠ (v1358 : Value).ownBlock) (.slice Ao10 t1328.length co10) t1328) ∧ Aside0 (w'.heap[gb1322]? = some (.cells #[.int .i64 0, (.slice none 0 0)] 26 (0, 0))) ∧ Aside0 (w'.heap[gb1334]? = some (.cells #[.int .i64 t1327, (.slice Ao10 t1328.length co10)] 26 (0, 0))) ∧ Aside0 (Z101 w w' g1326 t1323 x1327001_2 x1327002_2) ∧ Aside0 (Below w.heap.size w w'))
   case atStart => exact ⟨(0), (0), (0), (x1327001_2), (x1327002_2), zs, zs, zs, H', ⟨Nat.le_refl _⟩, ⟨zPM HO1356.out (fun _ hk => ⟨hk.2, hk.1.2⟩)⟩, ⟨zPM HO1359.out (fun _ hk => ⟨hk.2, hk.1.2⟩)⟩, ⟨zPM HO_1335001.out (fun _ hk => ⟨hk.1.2, hk.2⟩)⟩, ⟨zR BK1322.out⟩, ⟨zR BK1334.out⟩, ⟨Z101.uC HI1326.out NB1326_1322.out NB1326_1334.out⟩, ⟨zW HB.out (Z101.ge HI1326.out) GE1322.out GE1334.out⟩⟩
   case round =>
    clear H'
    try clear c1
    try clear c2
    try clear c3
    try clear c4
    try clear c6
    try clear c7
    try clear c8
    try clear c9
    try clear c12
    try clear c14
    try clear c15
    try clear c20
    try clear c21
    try clear c25
    try clear c29
    try clear c30
    try clear c31
    try clear c34
    try clear c35
    try clear c39
    try clear c40
    try clear hcz16_0
    try clear hcz16_1
    try clear hcz22_0
    try clear hcz22_1
    try clear hcz32_0
    try clear hcz32_1
    try clear hcz36_0
    try clear hcz36_1
    try clear hcz41_0
    try clear hcz41_1
    try clear hcz44_0
    try clear hcz44_1
    try clear hcz9_0
    try clear hcz9_1
    try clear hfz16_0
    try clear hfz16_1
    try clear hfz22_0
    try clear hfz22_1
    try clear hfz32_0
    try clear hfz32_1
    try clear hfz36_0
    try clear hfz36_1
    try clear hfz41_0
    try clear hfz41_1
    try clear hfz44_0
    try clear hfz44_1
    try clear hfz9_0
    try clear hfz9_1
    obtain ⟨x14_2, x15_2, x16_2, x1327001_2, x1327002_2, rfl, rfl, rfl, HA, HK2, HO_12, HO_13, HO_1335001, BK1322, BK1334, HI1326, HB⟩ := hrel
    cases gk with
    | zero => exact absurd HA.out (by simp [spec_l05Friends.l0])
    | succ k2 =>
     have H := HA.out
     clear HA
     simp only [spec_l05Friends.l0] at H
     by_cases c47 : x16_2 < (t1354.length : Int)
     ·rw [if_pos c47] at H
      have c47b0 : decide (x16_2 < (t1354.length : Int)) = true := decide_eq_true c47
      clear c47
      obtain ⟨⟨t1360, t1361, t1362⟩, A48, H⟩ := zb H
      try dsimp only at H
      by_cases c49 : t1360 = 0
      ·rw [if_pos c49] at H
       obtain ⟨c49b0, c49b1⟩ := zT1 c49
       clear c49
       obtain ⟨t1363, A50, H⟩ := zb H
       try dsimp only at H
       have H' := zA H
       clear H
       go_wp2_with (first | (refine zO (some 57) Tryd.func79 #[.pointer (some ⟨g1326, 0, none⟩), .int .i64 5] ?_; (with_reducible refine (spec_l01Next.calls g1326 t1323 x1327001_2 x1327002_2 5 t1360 t1361 t1362 w _ ?side1 ?side2 A48.out).mono ?_); (case side1 => exact Z101.uC HI1326.out NB1326_1322.out NB1326_1334.out); (case side2 => exact zW HB.out (Z101.ge HI1326.out) GE1322.out GE1334.out); rintro e w51 ⟨rfl, hi, hb, hk⟩; refine ⟨_, rfl, ?_⟩; replace HO_12 := zA (zB9 (Z101.apart (show Z101 w _ g1326 t1323 x1327001_2 x1327002_2 from Z101.uC HI1326.out NB1326_1322.out NB1326_1334.out) (zP HO_12.out) (by decide)) hk); replace HO_13 := zA (zB9 (Z101.apart (show Z101 w _ g1326 t1323 x1327001_2 x1327002_2 from Z101.uC HI1326.out NB1326_1322.out NB1326_1334.out) (zP HO_13.out) (by decide)) hk); replace HO_1335001 := zA (zB9 (Z101.apart (show Z101 w _ g1326 t1323 x1327001_2 x1327002_2 from Z101.uC HI1326.out NB1326_1322.out NB1326_1334.out) (zP HO_1335001.out) (by decide)) hk); replace BK1322 := zA (zB2 hk BK1322.out NB1322_1326.out); replace BK1334 := zA (zB2 hk BK1334.out NB1334_1326.out); replace HB := zA (hb); replace HI1326 := zA (hi); (try clear hb); (try clear hk); (try clear hi); obtain ⟨Ao52, co52, eo52⟩ := kM HO_13.out; subst eo52) | (refine zO (some 63) Tryd.func80 #[.slice Ao52 t1357.length co52, .int .i64 x16_2] ?_; (with_reducible refine (spec_l01Below.calls k2 _ _ t1357 x16_2 t1363 _ ?side1 ?side2 A50.out).mono ?_); (case side1 => exact zS (kB HO_13.out).2.2); (case side2 => exact (kB HO_13.out).2.1); rintro e w' ⟨rfl, ⟨nd, rfl⟩⟩; refine ⟨_, rfl, ?_⟩))
       go_roundg k2
       case measure => have := HJ2.out; have := HK2.out; omega
       case rel => exact ⟨(Go.bits .or .i64 x14_2 t1363), (x15_2), (wrap64 (x16_2 + 1)), (t1361), (t1362), zs, zs, zs, H', ⟨by have := HJ2.out; have := HK2.out; omega⟩, ⟨zP HO_12.out⟩, ⟨zP HO_13.out⟩, ⟨zP HO_1335001.out⟩, ⟨zR BK1322.out⟩, ⟨zR BK1334.out⟩, ⟨Z101.uC HI1326.out NB1326_1322.out NB1326_1334.out⟩, ⟨zW HB.out (Z101.ge HI1326.out) GE1322.out GE1334.out⟩⟩
      rw [if_neg c49] at H
      obtain ⟨c49b0, c49b1⟩ := zT2 c49
      by_cases c53 : t1360 = 1
      ·rw [if_pos c53] at H
       obtain ⟨c53b0, c53b1⟩ := zT1 c53
       clear c53
       obtain ⟨t1364, A54, H⟩ := zb H
       try dsimp only at H
       have H' := zA H
       clear H
       go_wp2_with (first | (refine zO (some 57) Tryd.func79 #[.pointer (some ⟨g1326, 0, none⟩), .int .i64 5] ?_; (with_reducible refine (spec_l01Next.calls g1326 t1323 x1327001_2 x1327002_2 5 t1360 t1361 t1362 w _ ?side1 ?side2 A48.out).mono ?_); (case side1 => exact Z101.uC HI1326.out NB1326_1322.out NB1326_1334.out); (case side2 => exact zW HB.out (Z101.ge HI1326.out) GE1322.out GE1334.out); rintro e w55 ⟨rfl, hi, hb, hk⟩; refine ⟨_, rfl, ?_⟩; replace HO_12 := zA (zB9 (Z101.apart (show Z101 w _ g1326 t1323 x1327001_2 x1327002_2 from Z101.uC HI1326.out NB1326_1322.out NB1326_1334.out) (zP HO_12.out) (by decide)) hk); replace HO_13 := zA (zB9 (Z101.apart (show Z101 w _ g1326 t1323 x1327001_2 x1327002_2 from Z101.uC HI1326.out NB1326_1322.out NB1326_1334.out) (zP HO_13.out) (by decide)) hk); replace HO_1335001 := zA (zB9 (Z101.apart (show Z101 w _ g1326 t1323 x1327001_2 x1327002_2 from Z101.uC HI1326.out NB1326_1322.out NB1326_1334.out) (zP HO_1335001.out) (by decide)) hk); replace BK1322 := zA (zB2 hk BK1322.out NB1322_1326.out); replace BK1334 := zA (zB2 hk BK1334.out NB1334_1326.out); replace HB := zA (hb); replace HI1326 := zA (hi); (try clear hb); (try clear hk); (try clear hi); obtain ⟨Ao56, co56, eo56⟩ := kM HO_13.out; subst eo56) | (refine zO (some 70) Tryd.func80 #[.slice Ao56 t1357.length co56, .int .i64 x16_2] ?_; (with_reducible refine (spec_l01Below.calls k2 _ _ t1357 x16_2 t1364 _ ?side1 ?side2 A54.out).mono ?_); (case side1 => exact zS (kB HO_13.out).2.2); (case side2 => exact (kB HO_13.out).2.1); rintro e w' ⟨rfl, ⟨nd, rfl⟩⟩; refine ⟨_, rfl, ?_⟩))
       go_roundg k2
       case measure => have := HJ2.out; have := HK2.out; omega
       case rel => exact ⟨(x14_2), (Go.bits .or .i64 x15_2 t1364), (wrap64 (x16_2 + 1)), (t1361), (t1362), zs, zs, zs, H', ⟨by have := HJ2.out; have := HK2.out; omega⟩, ⟨zP HO_12.out⟩, ⟨zP HO_13.out⟩, ⟨zP HO_1335001.out⟩, ⟨zR BK1322.out⟩, ⟨zR BK1334.out⟩, ⟨Z101.uC HI1326.out NB1326_1322.out NB1326_1334.out⟩, ⟨zW HB.out (Z101.ge HI1326.out) GE1322.out GE1334.out⟩⟩
      rw [if_neg c53] at H
      obtain ⟨c53b0, c53b1⟩ := zT2 c53
      have H' := zA H
      clear H
      go_wp2_with (first | (refine zO (some 57) Tryd.func79 #[.pointer (some ⟨g1326, 0, none⟩), .int .i64 5] ?_; (with_reducible refine (spec_l01Next.calls g1326 t1323 x1327001_2 x1327002_2 5 t1360 t1361 t1362 w _ ?side1 ?side2 A48.out).mono ?_); (case side1 => exact Z101.uC HI1326.out NB1326_1322.out NB1326_1334.out); (case side2 => exact zW HB.out (Z101.ge HI1326.out) GE1322.out GE1334.out); rintro e w57 ⟨rfl, hi, hb, hk⟩; refine ⟨_, rfl, ?_⟩; replace HO_12 := zA (zB9 (Z101.apart (show Z101 w _ g1326 t1323 x1327001_2 x1327002_2 from Z101.uC HI1326.out NB1326_1322.out NB1326_1334.out) (zP HO_12.out) (by decide)) hk); replace HO_13 := zA (zB9 (Z101.apart (show Z101 w _ g1326 t1323 x1327001_2 x1327002_2 from Z101.uC HI1326.out NB1326_1322.out NB1326_1334.out) (zP HO_13.out) (by decide)) hk); replace HO_1335001 := zA (zB9 (Z101.apart (show Z101 w _ g1326 t1323 x1327001_2 x1327002_2 from Z101.uC HI1326.out NB1326_1322.out NB1326_1334.out) (zP HO_1335001.out) (by decide)) hk); replace BK1322 := zA (zB2 hk BK1322.out NB1322_1326.out); replace BK1334 := zA (zB2 hk BK1334.out NB1334_1326.out); replace HB := zA (hb); replace HI1326 := zA (hi); (try clear hb); (try clear hk); (try clear hi)))
      go_roundg k2
      case measure => have := HJ2.out; have := HK2.out; omega
      case rel => exact ⟨(x14_2), (x15_2), (wrap64 (x16_2 + 1)), (t1361), (t1362), zs, zs, zs, H', ⟨by have := HJ2.out; have := HK2.out; omega⟩, ⟨zP HO_12.out⟩, ⟨zP HO_13.out⟩, ⟨zP HO_1335001.out⟩, ⟨zR BK1322.out⟩, ⟨zR BK1334.out⟩, ⟨Z101.uC HI1326.out NB1326_1322.out NB1326_1334.out⟩, ⟨zW HB.out (Z101.ge HI1326.out) GE1322.out GE1334.out⟩⟩
     rw [if_neg c47] at H
     have c47b0 : decide (x16_2 < (t1354.length : Int)) = false := decide_eq_false c47
     clear c47
     obtain ⟨t1365, A58, H⟩ := zb H
     try dsimp only at H
     obtain ⟨⟨t1368, t1371, t1372⟩, A59, H⟩ := zb H
     try dsimp only at H
     obtain ⟨t1373, A60, H⟩ := zb H
     try dsimp only at H
     obtain ⟨⟨t1376, t1379, t1380⟩, A61, H⟩ := zb H
     try dsimp only at H
     have HC62 := zA H
     clear H
     try go_wp2
     replace HO_12 := zA (zH HO_12.out)
     replace HO_13 := zA (zH HO_13.out)
     replace HO_1335001 := zA (zH HO_1335001.out)
     replace BK1322 := zA (zK BK1322.out)
     replace BK1334 := zA (zK BK1334.out)
     replace HI1326 := zA (Z101.drew HI1326.out)
     replace HB := zA (zD HB.out)
     refine start_ (n := 14) (S := fun w' => w'.cell? ⟨gb1334, 0, none⟩ = some (.int .i64 t1327) ∧ w'.cell? ⟨gb1334, 1, none⟩ = some (.slice Ao10 t1328.length co10)) (ds := []) #[false, false, false, false, false, false, false, false, false, false, false, false, false, false] (by kernel_rfl) rfl rfl ⟨(kV BK1334.out 0).trans rfl, (kV BK1334.out 1).trans rfl⟩ (fun hHeld => ?_); refine with_tabW spec_l05Friends.tab15 spec_l05Friends.bits15 (fun HT_ HW_ => ?_)
     generalize wr.drew = w63 at HO_12 HO_13 HO_1335001 BK1322 BK1334 HI1326 HB hHeld ⊢
     refine zp 0 (some 72) #[true, false, false, false, false, false, false, false, false, false, false, false, false, false] HT_.out ?_
     refine zp 2 (some 74) #[true, false, true, false, false, false, false, false, false, false, false, false, false, false] HT_.out ?_
     refine zp 3 (some 75) #[true, false, true, true, false, false, false, false, false, false, false, false, false, false] HT_.out ?_
     refine zp 6 (some 78) #[true, false, true, true, false, false, true, false, false, false, false, false, false, false] HT_.out ?_
     refine zp 8 (some 80) #[true, false, true, true, false, false, true, false, true, false, false, false, false, false] HT_.out ?_
     refine zp 9 (some 81) #[true, false, true, true, false, false, true, false, true, true, false, false, false, false] HT_.out ?_
     refine zc 1 (some 73) #[true, true, true, true, false, false, true, false, true, true, false, false, false, false] HT_.out HW_.out hHeld ?_
     refine zc 7 (some 79) #[true, true, true, true, false, false, true, true, true, true, false, false, false, false] HT_.out HW_.out hHeld ?_
     refine one_ (i := 4) (N := some 76) #[true, true, true, true, true, false, true, true, true, true, false, false, false, false] rfl rfl (one_of HT_.out (by kernel_rfl)) (by decide) (fun K hK => ?_)
     refine goes_ Tryd.func88 (by kernel_rfl) rfl #[.slice Ao45 t1354.length co45, .int .i64 x14_2] (by rfl) rfl rfl zg ?_
     with_reducible refine (spec_l04At.calls k2 _ _ t1354 x14_2 t1365 _ ?side1 ?side2 A58.out).mono ?_
     (case side1 => exact zS (kB HO_12.out).2.2)
     (case side2 => exact (kB HO_12.out).2.1)
     rintro e w64 ⟨v1366, rfl, ho0, hb⟩
     refine ⟨_, rfl, ?_⟩
     have HO1367 := zA (kI (kF (kF (kF ho0 (kH (zP HO_12.out))) (kH (zP HO_13.out))) (kH (zP HO_1335001.out))) (kP (zW HB.out (Z101.ge HI1326.out) GE1322.out GE1334.out)))
     replace HO_12 := zA (kE (zP HO_12.out) (kC ho0) hb)
     replace HO_13 := zA (kE (zP HO_13.out) (kC ho0) hb)
     replace HO_1335001 := zA (kE (zP HO_1335001.out) (kC ho0) hb)
     replace BK1322 := zA (zB1 BK1322.out hb)
     replace BK1334 := zA (zB1 BK1334.out hb)
     replace HB := zA (kQ (zW HB.out (Z101.ge HI1326.out) GE1322.out GE1334.out) hb)
     replace HI1326 := zA (Z101.below (Z101.uC HI1326.out NB1326_1322.out NB1326_1334.out) hb)
     (try clear hb)
     (try clear hb2)
     (try clear hk)
     (try clear hi)
     (try clear hgw)
     (try clear ho0)
     obtain ⟨Ao65, co65, eo65⟩ := kM HO1367.out
     (first | subst eo65 | (injection eo65 with f1_ f2_ f3_; have f4_ := f1_.symm; have f5_ := f3_.symm; clear f1_ f2_ f3_; subst f4_; subst f5_))
     refine hK.out _ _ ⟨(kV BK1334.out 0).trans rfl, (kV BK1334.out 1).trans rfl⟩ (fun hHeld => ?_)
     clear hK K
     refine norm_ (a' := ?_) ?_ ?_
     rotate_left
     ·show Act.put _ (some 76) _ = _
      simp only [Act.put, zL, zM, zN, i64_w, i32_w]
      rfl
     refine one_ (i := 5) (N := some 77) #[true, true, true, true, true, true, true, true, true, true, false, false, false, false] rfl rfl (one_of HT_.out (by kernel_rfl)) (by decide) (fun K hK => ?_)
     refine goes_ Tryd.func115 (by kernel_rfl) rfl #[.pointer (some ⟨g1326, 0, none⟩), .agg #[.int .i64 t1327, .slice Ao10 t1328.length co10], .slice Ao65 t1365.length co65] (by rfl) rfl rfl zg ?_
     with_reducible refine (spec_l03Shuffle.calls k2 g1326 t1323 x1327001_2 x1327002_2 t1327 _ _ t1328 _ _ t1365 t1368 t1371 t1372 w _ ?side1 ?side2 ?side3 ?side4 ?side5 ?side6 ?side7 ?side8 A59.out).mono ?_
     (case side1 => exact Z101.uC HI1326.out NB1326_1322.out NB1326_1334.out)
     (case side2 => exact zW HB.out (Z101.ge HI1326.out) GE1322.out GE1334.out)
     (case side3 => exact zS (kB HO_1335001.out).2.2)
     (case side4 => exact (kB HO_1335001.out).2.1)
     (case side5 => exact jJ (Z101.own_ne HI1326.out HO_1335001.out (by decide)))
     (case side6 => exact zS (kB HO1367.out).2.2)
     (case side7 => exact (kB HO1367.out).2.1)
     (case side8 => exact jJ (Z101.own_ne HI1326.out HO1367.out (by decide)))
     rintro e w66 ⟨v1369, rfl, ho0, hi, hb, hk⟩
     refine ⟨_, rfl, ?_⟩
     replace BK1322 := zA (zB2 hk BK1322.out NB1322_1326.out)
     replace BK1334 := zA (zB2 hk BK1334.out NB1334_1326.out)
     have HO1370 := zA (kI (kF (kF (kF (kF ho0 (kH (zP HO_12.out))) (kH (zP HO_13.out))) (kH (zP HO_1335001.out))) (kH (zP HO1367.out))) (kP (zW HB.out (Z101.ge HI1326.out) GE1322.out GE1334.out)))
     replace HO_12 := zA (kA (Kd.R_told (Kd.R_oldK (Z101.apart (show Z101 w _ g1326 t1323 x1327001_2 x1327002_2 from Z101.uC HI1326.out NB1326_1322.out NB1326_1334.out) (zP HO_12.out) (by decide)) hk) (kC ho0)) (fun _ h_ => h_.1))
     replace HO_13 := zA (kA (Kd.R_told (Kd.R_oldK (Z101.apart (show Z101 w _ g1326 t1323 x1327001_2 x1327002_2 from Z101.uC HI1326.out NB1326_1322.out NB1326_1334.out) (zP HO_13.out) (by decide)) hk) (kC ho0)) (fun _ h_ => h_.1))
     replace HO_1335001 := zA (kA (Kd.R_told (Kd.R_oldK (Z101.apart (show Z101 w _ g1326 t1323 x1327001_2 x1327002_2 from Z101.uC HI1326.out NB1326_1322.out NB1326_1334.out) (zP HO_1335001.out) (by decide)) hk) (kC ho0)) (fun _ h_ => h_.1))
     replace HO1367 := zA (kA (Kd.R_told (Kd.R_oldK (Z101.apart (show Z101 w _ g1326 t1323 x1327001_2 x1327002_2 from Z101.uC HI1326.out NB1326_1322.out NB1326_1334.out) (zP HO1367.out) (by decide)) hk) (kC ho0)) (fun _ h_ => h_.1))
     replace HB := zA (hb)
     replace HI1326 := zA (hi)
     (try clear hb)
     (try clear hb2)
     (try clear hk)
     (try clear hi)
     (try clear hgw)
     (try clear ho0)
     refine hK.out _ _ ⟨(kV BK1334.out 0).trans rfl, (kV BK1334.out 1).trans rfl⟩ (fun hHeld => ?_)
     clear hK K
     refine norm_ (a' := ?_) ?_ ?_
     rotate_left
     ·show Act.put _ (some 77) _ = _
      simp only [Act.put, zL, zM, zN, i64_w, i32_w]
      rfl
     refine one_ (i := 10) (N := some 82) #[true, true, true, true, true, true, true, true, true, true, true, false, false, false] rfl rfl (one_of HT_.out (by kernel_rfl)) (by decide) (fun K hK => ?_)
     refine goes_ Tryd.func88 (by kernel_rfl) rfl #[.slice Ao45 t1354.length co45, .int .i64 x15_2] (by rfl) rfl rfl zg ?_
     with_reducible refine (spec_l04At.calls k2 _ _ t1354 x15_2 t1373 _ ?side1 ?side2 A60.out).mono ?_
     (case side1 => exact zS (kB HO_12.out).2.2)
     (case side2 => exact (kB HO_12.out).2.1)
     rintro e w67 ⟨v1374, rfl, ho0, hb⟩
     refine ⟨_, rfl, ?_⟩
     have HO1375 := zA (kI (kF (kF (kF (kF (kF ho0 (kH (zP HO_12.out))) (kH (zP HO_13.out))) (kH (zP HO_1335001.out))) (kH (zP HO1367.out))) (kH (zP HO1370.out))) (kP (zW HB.out (Z101.ge HI1326.out) GE1322.out GE1334.out)))
     replace HO_12 := zA (kE (zP HO_12.out) (kC ho0) hb)
     replace HO_13 := zA (kE (zP HO_13.out) (kC ho0) hb)
     replace HO_1335001 := zA (kE (zP HO_1335001.out) (kC ho0) hb)
     replace HO1367 := zA (kE (zP HO1367.out) (kC ho0) hb)
     replace HO1370 := zA (kE (zP HO1370.out) (kC ho0) hb)
     replace BK1322 := zA (zB1 BK1322.out hb)
     replace BK1334 := zA (zB1 BK1334.out hb)
     replace HB := zA (kQ (zW HB.out (Z101.ge HI1326.out) GE1322.out GE1334.out) hb)
     replace HI1326 := zA (Z101.below (Z101.uC HI1326.out NB1326_1322.out NB1326_1334.out) hb)
     (try clear hb)
     (try clear hb2)
     (try clear hk)
     (try clear hi)
     (try clear hgw)
     (try clear ho0)
     obtain ⟨Ao68, co68, eo68⟩ := kM HO1375.out
     (first | subst eo68 | (injection eo68 with f1_ f2_ f3_; have f4_ := f1_.symm; have f5_ := f3_.symm; clear f1_ f2_ f3_; subst f4_; subst f5_))
     refine hK.out _ _ ⟨(kV BK1334.out 0).trans rfl, (kV BK1334.out 1).trans rfl⟩ (fun hHeld => ?_)
     clear hK K
     refine norm_ (a' := ?_) ?_ ?_
     rotate_left
     ·show Act.put _ (some 82) _ = _
      simp only [Act.put, zL, zM, zN, i64_w, i32_w]
      rfl
     refine one_ (i := 11) (N := some 83) #[true, true, true, true, true, true, true, true, true, true, true, true, false, false] rfl rfl (one_of HT_.out (by kernel_rfl)) (by decide) (fun K hK => ?_)
     refine goes_ Tryd.func115 (by kernel_rfl) rfl #[.pointer (some ⟨g1326, 0, none⟩), .agg #[.int .i64 t1327, .slice Ao10 t1328.length co10], .slice Ao68 t1373.length co68] (by rfl) rfl rfl zg ?_
     with_reducible refine (spec_l03Shuffle.calls k2 g1326 t1323 t1371 t1372 t1327 _ _ t1328 _ _ t1373 t1376 t1379 t1380 w _ ?side1 ?side2 ?side3 ?side4 ?side5 ?side6 ?side7 ?side8 A61.out).mono ?_
     (case side1 => exact Z101.uC HI1326.out NB1326_1322.out NB1326_1334.out)
     (case side2 => exact zW HB.out (Z101.ge HI1326.out) GE1322.out GE1334.out)
     (case side3 => exact zS (kB HO_1335001.out).2.2)
     (case side4 => exact (kB HO_1335001.out).2.1)
     (case side5 => exact jJ (Z101.own_ne HI1326.out HO_1335001.out (by decide)))
     (case side6 => exact zS (kB HO1375.out).2.2)
     (case side7 => exact (kB HO1375.out).2.1)
     (case side8 => exact jJ (Z101.own_ne HI1326.out HO1375.out (by decide)))
     rintro e w69 ⟨v1377, rfl, ho0, hi, hb, hk⟩
     refine ⟨_, rfl, ?_⟩
     replace BK1322 := zA (zB2 hk BK1322.out NB1322_1326.out)
     replace BK1334 := zA (zB2 hk BK1334.out NB1334_1326.out)
     have HO1378 := zA (kI (kF (kF (kF (kF (kF (kF ho0 (kH (zP HO_12.out))) (kH (zP HO_13.out))) (kH (zP HO_1335001.out))) (kH (zP HO1367.out))) (kH (zP HO1370.out))) (kH (zP HO1375.out))) (kP (zW HB.out (Z101.ge HI1326.out) GE1322.out GE1334.out)))
     replace HO_12 := zA (kA (Kd.R_told (Kd.R_oldK (Z101.apart (show Z101 w _ g1326 t1323 t1371 t1372 from Z101.uC HI1326.out NB1326_1322.out NB1326_1334.out) (zP HO_12.out) (by decide)) hk) (kC ho0)) (fun _ h_ => h_.1))
     replace HO_13 := zA (kA (Kd.R_told (Kd.R_oldK (Z101.apart (show Z101 w _ g1326 t1323 t1371 t1372 from Z101.uC HI1326.out NB1326_1322.out NB1326_1334.out) (zP HO_13.out) (by decide)) hk) (kC ho0)) (fun _ h_ => h_.1))
     replace HO_1335001 := zA (kA (Kd.R_told (Kd.R_oldK (Z101.apart (show Z101 w _ g1326 t1323 t1371 t1372 from Z101.uC HI1326.out NB1326_1322.out NB1326_1334.out) (zP HO_1335001.out) (by decide)) hk) (kC ho0)) (fun _ h_ => h_.1))
     replace HO1367 := zA (kA (Kd.R_told (Kd.R_oldK (Z101.apart (show Z101 w _ g1326 t1323 t1371 t1372 from Z101.uC HI1326.out NB1326_1322.out NB1326_1334.out) (zP HO1367.out) (by decide)) hk) (kC ho0)) (fun _ h_ => h_.1))
     replace HO1370 := zA (kA (Kd.R_told (Kd.R_oldK (Z101.apart (show Z101 w _ g1326 t1323 t1371 t1372 from Z101.uC HI1326.out NB1326_1322.out NB1326_1334.out) (zP HO1370.out) (by decide)) hk) (kC ho0)) (fun _ h_ => h_.1))
     replace HO1375 := zA (kA (Kd.R_told (Kd.R_oldK (Z101.apart (show Z101 w _ g1326 t1323 t1371 t1372 from Z101.uC HI1326.out NB1326_1322.out NB1326_1334.out) (zP HO1375.out) (by decide)) hk) (kC ho0)) (fun _ h_ => h_.1))
     replace HB := zA (hb)
     replace HI1326 := zA (hi)
     (try clear hb)
     (try clear hb2)
     (try clear hk)
     (try clear hi)
     (try clear hgw)
     (try clear ho0)
     refine hK.out _ _ ⟨(kV BK1334.out 0).trans rfl, (kV BK1334.out 1).trans rfl⟩ (fun hHeld => ?_)
     clear hK K
     refine norm_ (a' := ?_) ?_ ?_
     rotate_left
     ·show Act.put _ (some 83) _ = _
      simp only [Act.put, zL, zM, zN, i64_w, i32_w]
      rfl
     refine zp 12 (some 17) #[true, true, true, true, true, true, true, true, true, true, true, true, true, false] HT_.out ?_
     refine zp 13 (some 18) #[true, true, true, true, true, true, true, true, true, true, true, true, true, true] HT_.out ?_
     refine done_ (done_of HT_.out (by kernel_rfl)) ?_
     go_upto_region 16 with (fail)
     go_cut [96] (fun v96 wc => ∃ (kq : Nat) (x96_61 : Bool) (x1327001_61 : Int) (x1327002_61 : Int), v96 = .bool x96_61 ∧ Aside0 (spec_l05Friends.j2 kq t1368 t1376 x96_61 t1323 x1327001_61 x1327002_61 t1327 t1328 = some (r1, r2, r3, r4)) ∧ Aside0 (kq ≤ k2) ∧ Aside0 (Kd.R (Kd.int .i64) 2 wc w.heap.size (fun k_ => some k_ ≠ (v1377 : Value).ownBlock ∧ some k_ ≠ ((.slice Ao10 t1328.length co10) : Value).ownBlock) v1369 t1368) ∧ Aside0 (Kd.R (Kd.int .i64) 2 wc w.heap.size (fun k_ => some k_ ≠ (v1369 : Value).ownBlock ∧ some k_ ≠ ((.slice Ao10 t1328.length co10) : Value).ownBlock) v1377 t1376) ∧ Aside0 (Kd.R (Kd.int .i64) 2 wc w.heap.size (fun k_ => some k_ ≠ (v1369 : Value).ownBlock ∧ some k_ ≠ (v1377 : Value).ownBlock) (.slice Ao10 t1328.length co10) t1328) ∧ Aside0 (wc.heap[gb1322]? = some (.cells #[.int .i64 0, (.slice none 0 0)] 26 (0, 0))) ∧ Aside0 (wc.heap[gb1334]? = some (.cells #[.int .i64 t1327, (.slice Ao10 t1328.length co10)] 26 (0, 0))) ∧ Aside0 (Z101 w wc g1326 t1323 x1327001_61 x1327002_61) ∧ Aside0 (Below w.heap.size w wc))
     case first =>
      have H := HC62.out
      clear HC62
      by_cases c70 : t1327 > 0
      ·rw [if_pos c70] at H
       have c70b0 : decide (0 < t1327) = true := decide_eq_true c70
       clear c70
       (first | rw [c70b0] | (simp only [i64_w, i32_w]; rw [c70b0]) | skip)
       by_cases c71 : (t1368.length : Int) < 24
       ·rw [if_pos c71] at H
        have c71b0 : decide ((t1368.length : Int) < 24) = true := decide_eq_true c71
        have c71b1 : decide (t1368.length < 24) = true := decide_eq_true (by omega)
        clear c71
        obtain ⟨⟨t1381, t1382, t1383⟩, A72, H⟩ := zb H
        try dsimp only at H
        have H' := zA H
        clear H
        have hnb73 := NB1334_1322.out
        have hnc73 := NB1322_1334.out
        have hnb74 := NB1334_1326.out
        have hnc74 := NB1326_1334.out
        obtain ⟨hcz75_0, hcz75_1, hfz75_0, hfz75_1⟩ := zB3 BK1334.out
        obtain ⟨Ao76, co76, eo76⟩ := kM HO1370.out
        subst eo76
        go_wp2_with (first | (go_at_call 79; (with_reducible refine (spec_l01Next.calls g1326 t1323 t1379 t1380 6 t1381 t1382 t1383 w _ ?side1 ?side2 A72.out).mono ?_); (case side1 => exact Z101.uC HI1326.out NB1326_1322.out NB1326_1334.out); (case side2 => exact zW HB.out (Z101.ge HI1326.out) GE1322.out GE1334.out); rintro e w77 ⟨rfl, hi, hb, hk⟩; replace HO_12 := zA (zB9 (Z101.apart (show Z101 w _ g1326 t1323 t1379 t1380 from Z101.uC HI1326.out NB1326_1322.out NB1326_1334.out) (zP HO_12.out) (by decide)) hk); replace HO_13 := zA (zB9 (Z101.apart (show Z101 w _ g1326 t1323 t1379 t1380 from Z101.uC HI1326.out NB1326_1322.out NB1326_1334.out) (zP HO_13.out) (by decide)) hk); replace HO_1335001 := zA (zB9 (Z101.apart (show Z101 w _ g1326 t1323 t1379 t1380 from Z101.uC HI1326.out NB1326_1322.out NB1326_1334.out) (zP HO_1335001.out) (by decide)) hk); replace BK1322 := zA (zB2 hk BK1322.out NB1322_1326.out); replace BK1334 := zA (zB2 hk BK1334.out NB1334_1326.out); replace HO1367 := zA (zB9 (Z101.apart (show Z101 w _ g1326 t1323 t1379 t1380 from Z101.uC HI1326.out NB1326_1322.out NB1326_1334.out) (zP HO1367.out) (by decide)) hk); replace HO1370 := zA (zB9 (Z101.apart (show Z101 w _ g1326 t1323 t1379 t1380 from Z101.uC HI1326.out NB1326_1322.out NB1326_1334.out) (zP HO1370.out) (by decide)) hk); replace HO1375 := zA (zB9 (Z101.apart (show Z101 w _ g1326 t1323 t1379 t1380 from Z101.uC HI1326.out NB1326_1322.out NB1326_1334.out) (zP HO1375.out) (by decide)) hk); replace HO1378 := zA (zB9 (Z101.apart (show Z101 w _ g1326 t1323 t1379 t1380 from Z101.uC HI1326.out NB1326_1322.out NB1326_1334.out) (zP HO1378.out) (by decide)) hk); replace HB := zA (hb); replace HI1326 := zA (hi); (try clear hb); (try clear hk); (try clear hi)))
        go_meet
        case rel => exact ⟨_, ((t1381 == 0)), (t1382), (t1383), zs, H', ⟨by have := HJ2.out; have := HK2.out; first | omega | exact Nat.le_refl _⟩, ⟨zPM HO1370.out (fun _ hk => ⟨hk.2, hk.1.1.1.2⟩)⟩, ⟨zPM HO1378.out (fun _ hk => ⟨hk.1.2, hk.1.1.1.2⟩)⟩, ⟨zPM HO_1335001.out (fun _ hk => ⟨hk.1.1.2, hk.2⟩)⟩, ⟨zR BK1322.out⟩, ⟨zR BK1334.out⟩, ⟨Z101.uC HI1326.out NB1326_1322.out NB1326_1334.out⟩, ⟨zW HB.out (Z101.ge HI1326.out) GE1322.out GE1334.out⟩⟩
       rw [if_neg c71] at H
       have c71b0 : decide ((t1368.length : Int) < 24) = false := decide_eq_false c71
       have c71b1 : decide (t1368.length < 24) = false := decide_eq_false (by omega)
       clear c71
       have H' := zA H
       clear H
       have hnb78 := NB1334_1322.out
       have hnc78 := NB1322_1334.out
       have hnb79 := NB1334_1326.out
       have hnc79 := NB1326_1334.out
       obtain ⟨hcz80_0, hcz80_1, hfz80_0, hfz80_1⟩ := zB3 BK1334.out
       obtain ⟨Ao81, co81, eo81⟩ := kM HO1370.out
       subst eo81
       go_wp2
       go_meet
       case rel => exact ⟨_, (false), (t1379), (t1380), zs, H', ⟨by have := HJ2.out; have := HK2.out; first | omega | exact Nat.le_refl _⟩, ⟨zPM HO1370.out (fun _ hk => ⟨hk.2, hk.1.1.1.2⟩)⟩, ⟨zPM HO1378.out (fun _ hk => ⟨hk.1.2, hk.1.1.1.2⟩)⟩, ⟨zPM HO_1335001.out (fun _ hk => ⟨hk.1.1.2, hk.2⟩)⟩, ⟨zR BK1322.out⟩, ⟨zR BK1334.out⟩, ⟨Z101.uC HI1326.out NB1326_1322.out NB1326_1334.out⟩, ⟨zW HB.out (Z101.ge HI1326.out) GE1322.out GE1334.out⟩⟩
      rw [if_neg c70] at H
      have c70b0 : decide (0 < t1327) = false := decide_eq_false c70
      clear c70
      (first | rw [c70b0] | (simp only [i64_w, i32_w]; rw [c70b0]) | skip)
      have H' := zA H
      clear H
      have hnb82 := NB1334_1322.out
      have hnc82 := NB1322_1334.out
      have hnb83 := NB1334_1326.out
      have hnc83 := NB1326_1334.out
      obtain ⟨hcz84_0, hcz84_1, hfz84_0, hfz84_1⟩ := zB3 BK1334.out
      go_wp2
      go_meet
      case rel => exact ⟨_, (false), (t1379), (t1380), zs, H', ⟨by have := HJ2.out; have := HK2.out; first | omega | exact Nat.le_refl _⟩, ⟨zPM HO1370.out (fun _ hk => ⟨hk.2, hk.1.1.1.2⟩)⟩, ⟨zPM HO1378.out (fun _ hk => ⟨hk.1.2, hk.1.1.1.2⟩)⟩, ⟨zPM HO_1335001.out (fun _ hk => ⟨hk.1.1.2, hk.2⟩)⟩, ⟨zR BK1322.out⟩, ⟨zR BK1334.out⟩, ⟨Z101.uC HI1326.out NB1326_1322.out NB1326_1334.out⟩, ⟨zW HB.out (Z101.ge HI1326.out) GE1322.out GE1334.out⟩⟩
     case rest =>
      clear HC62
      try clear c1
      try clear c2
      try clear c3
      try clear c4
      try clear c5
      try clear c6
      try clear c7
      try clear c8
      try clear c9
      try clear c11
      try clear c12
      try clear c14
      try clear c15
      try clear c20
      try clear c21
      try clear c25
      try clear c29
      try clear c30
      try clear c31
      try clear c34
      try clear c35
      try clear c39
      try clear c40
      try clear c47
      try clear c49
      try clear c53
      try clear c68
      try clear c70
      try clear c71
      try clear c73
      try clear c74
      try clear c75
      try clear c78
      try clear c79
      try clear c80
      try clear c82
      try clear c83
      try clear hcz16_0
      try clear hcz16_1
      try clear hcz22_0
      try clear hcz22_1
      try clear hcz32_0
      try clear hcz32_1
      try clear hcz36_0
      try clear hcz36_1
      try clear hcz41_0
      try clear hcz41_1
      try clear hcz44_0
      try clear hcz44_1
      try clear hcz75_0
      try clear hcz75_1
      try clear hcz80_0
      try clear hcz80_1
      try clear hcz84_0
      try clear hcz84_1
      try clear hcz9_0
      try clear hcz9_1
      try clear hfz16_0
      try clear hfz16_1
      try clear hfz22_0
      try clear hfz22_1
      try clear hfz32_0
      try clear hfz32_1
      try clear hfz36_0
      try clear hfz36_1
      try clear hfz41_0
      try clear hfz41_1
      try clear hfz44_0
      try clear hfz44_1
      try clear hfz75_0
      try clear hfz75_1
      try clear hfz80_0
      try clear hfz80_1
      try clear hfz84_0
      try clear hfz84_1
      try clear hfz9_0
      try clear hfz9_1
      obtain ⟨kq, x96_61, x1327001_61, x1327002_61, rfl, HA, HJ61, HO_17, HO_18, HO_1335001, BK1322, BK1334, HI1326, HB⟩ := hcut
      cases kq with
      | zero => exact absurd HA.out (by simp [spec_l05Friends.j2])
      | succ kj61 =>
       have H := HA.out
       clear HA
       simp only [spec_l05Friends.j2] at H
       by_cases c85 : x96_61 = true
       ·subst c85
        rw [if_pos rfl] at H
        obtain ⟨⟨t1384, t1385, t1386⟩, A86, H⟩ := zb H
        try dsimp only at H
        by_cases c87 : t1368.length < 17592186044416
        ·rw [if_pos c87] at H
         have LMc87 := zA c87
         clear c87
         obtain ⟨y1387, hy1387⟩ : ∃ y_ : List Int, y_ = (t1368 ++ [t1384]) := ⟨_, rfl⟩
         replace H : (some (t1327, t1328, y1387, t1376)) = some (r1, r2, r3, r4) := zy hy1387 H
         have Ny1387 := zA hy1387
         clear hy1387
         simp only [Option.some.injEq, Prod.mk.injEq] at H
         obtain ⟨rfl, rfl, rfl, rfl⟩ := H
         have hnb88 := NB1334_1322.out
         have hnc88 := NB1322_1334.out
         have hnb89 := NB1334_1326.out
         have hnc89 := NB1326_1334.out
         obtain ⟨hcz90_0, hcz90_1, hfz90_0, hfz90_1⟩ := zB3 BK1334.out
         go_wp2_with (first | (refine zO (some 101) Tryd.func79 #[.pointer (some ⟨g1326, 0, none⟩), .int .i64 t1327] ?_; (with_reducible refine (spec_l01Next.calls g1326 t1323 x1327001_61 x1327002_61 t1327 t1384 t1385 t1386 w _ ?side1 ?side2 A86.out).mono ?_); (case side1 => exact Z101.uC HI1326.out NB1326_1322.out NB1326_1334.out); (case side2 => exact zW HB.out (Z101.ge HI1326.out) GE1322.out GE1334.out); rintro e w91 ⟨rfl, hi, hb, hk⟩; refine ⟨_, rfl, ?_⟩; replace HO_17 := zA (zB9 (Z101.apart (show Z101 w _ g1326 t1323 x1327001_61 x1327002_61 from Z101.uC HI1326.out NB1326_1322.out NB1326_1334.out) (zP HO_17.out) (by decide)) hk); replace HO_18 := zA (zB9 (Z101.apart (show Z101 w _ g1326 t1323 x1327001_61 x1327002_61 from Z101.uC HI1326.out NB1326_1322.out NB1326_1334.out) (zP HO_18.out) (by decide)) hk); replace HO_1335001 := zA (zB9 (Z101.apart (show Z101 w _ g1326 t1323 x1327001_61 x1327002_61 from Z101.uC HI1326.out NB1326_1322.out NB1326_1334.out) (zP HO_1335001.out) (by decide)) hk); replace BK1322 := zA (zB2 hk BK1322.out NB1322_1326.out); replace BK1334 := zA (zB2 hk BK1334.out NB1334_1326.out); replace HB := zA (hb); replace HI1326 := zA (hi); (try clear hb); (try clear hk); (try clear hi)) | ((with_reducible refine gate_builtin (b := .append) (xs := #[.tmp 97, .tmp 102]) rfl ?_); at_builtin; refine Kd.R_append (Kd.int .i64) (w0 := w) w.heap.size rfl (.tmp 97) (.tmp 102) 24 2 (.int .i64 0) 8 rfl Tryd.underlying24 info2 rfl (by decide) (by omega) v1369 t1368 t1384 [.int .i64 t1384] (fun k_ => some k_ ≠ (v1377 : Value).ownBlock ∧ some k_ ≠ (.slice Ao10 t1328.length co10 : Value).ownBlock) (fun _ => False) rfl rfl ?aP (fun _ hk => hk.elim) ?aF ?aO ?aB ?aS ?aL ?_; (case aP => exact rfl); (case aB => exact (zW HB.out (Z101.ge HI1326.out) GE1322.out GE1334.out)); (case aF => exact (fun k_ hk => ⟨jF (kH (zP HO_18.out)) k_ hk, jF (kH (zP HO_1335001.out)) k_ hk⟩)); (case aO => exact (zP HO_17.out)); (case aS => exact (kP (zW HB.out (Z101.ge HI1326.out) GE1322.out GE1334.out))); (case aL => have := LMc87.out; omega); intro v1388 w92 ho hb hg hat; rw [← Ny1387.out] at ho; replace HO_18 := zA (Kd.R_after (ok := (fun k_ => some k_ ≠ (.slice Ao10 t1328.length co10 : Value).ownBlock)) (by (with_reducible repeat (first | apply zF | apply zG | apply zH)); exact kA HO_18.out (fun _ hk => ⟨hk.2, hk.1⟩)) hg hat); replace HO_1335001 := zA (Kd.R_after (ok := (fun k_ => some k_ ≠ (v1377 : Value).ownBlock)) (by (with_reducible repeat (first | apply zF | apply zG | apply zH)); exact kA HO_1335001.out (fun _ hk => ⟨hk.2, hk.1⟩)) hg hat); replace BK1322 := zA (blk_grown (g := gb1322) (o := .cells #[.int .i64 0, .slice none 0 0] 26 (0, 0)) (zR BK1322.out) hg (Kd.R_ne HO_17.out BK1322.out (by decide))); replace BK1334 := zA (blk_grown (g := gb1334) (o := .cells #[.int .i64 t1327, .slice Ao10 t1328.length co10] 26 (0, 0)) (zR BK1334.out) hg (Kd.R_ne HO_17.out BK1334.out (by decide))); replace HI1326 := zA (Z101.grown (Z101.uC HI1326.out NB1326_1322.out NB1326_1334.out) hg (Z101.own_ne HI1326.out HO_17.out (by decide))); replace HB := zA (hb); have HO1389 := zA (ho); clear HO_17; clear ho hb hg hat; obtain ⟨hcz93_0, hcz93_1, hfz93_0, hfz93_1⟩ := zB3 BK1334.out; have hnb94 := NB1322_1326.out; have hnc94 := NB1326_1322.out; obtain ⟨hcz95_0, hcz95_1, hfz95_0, hfz95_1⟩ := zB3 BK1322.out))
         refine bodyPost_ret (results_ctt rfl _ _ gb1322 26 #[.int .i64 t1327, .slice Ao10 t1328.length co10] (0, 0) _ rfl (zRP BK1322.out) Tryd.underlying26 rfl (by kernel_rfl)) rfl ?_
         exact ⟨_, _, _, zr, by (with_reducible repeat (first | apply zF | apply zG | apply zH)); exact kA (kY (p := ⟨gb1322, 1, none⟩) (kY (p := ⟨gb1322, 0, none⟩) (kD HO_1335001.out BK1322.out (by decide)) (fun _ hk => hk.2) (.int .i64 t1327)) (fun _ hk => hk.2) (.slice Ao10 t1328.length co10)) (fun _ hk => ⟨hk.1.2, hk.1.1⟩), by (with_reducible repeat (first | apply zF | apply zG | apply zH)); exact kA (kY (p := ⟨gb1322, 1, none⟩) (kY (p := ⟨gb1322, 0, none⟩) (kD HO1389.out BK1322.out (by decide)) (fun _ hk => hk.2) (.int .i64 t1327)) (fun _ hk => hk.2) (.slice Ao10 t1328.length co10)) (fun _ hk => ⟨hk.1.2, hk.1.1⟩), by (with_reducible repeat (first | apply zF | apply zG | apply zH)); exact kA (kY (p := ⟨gb1322, 1, none⟩) (kY (p := ⟨gb1322, 0, none⟩) (kD HO_18.out BK1322.out (by decide)) (fun _ hk => hk.2) (.int .i64 t1327)) (fun _ hk => hk.2) (.slice Ao10 t1328.length co10)) (fun _ hk => ⟨hk.1.1, hk.1.2⟩), zW HB.out (Z101.ge HI1326.out) GE1322.out GE1334.out⟩
        rw [if_neg c87] at H
        exact absurd H (by simp)
       replace c85 := Bool.eq_false_iff.mpr c85
       subst c85
       rw [if_neg (show ¬ (false = true) by decide)] at H
       simp only [Option.some.injEq, Prod.mk.injEq] at H
       obtain ⟨rfl, rfl, rfl, rfl⟩ := H
       have hnb96 := NB1334_1322.out
       have hnc96 := NB1322_1334.out
       have hnb97 := NB1334_1326.out
       have hnc97 := NB1326_1334.out
       obtain ⟨hcz98_0, hcz98_1, hfz98_0, hfz98_1⟩ := zB3 BK1334.out
       have hnb99 := NB1322_1326.out
       have hnc99 := NB1326_1322.out
       obtain ⟨hcz100_0, hcz100_1, hfz100_0, hfz100_1⟩ := zB3 BK1322.out
       go_wp2
       refine bodyPost_ret (results_ctt rfl _ _ gb1322 26 #[.int .i64 t1327, .slice Ao10 t1328.length co10] (0, 0) _ rfl (zRP BK1322.out) Tryd.underlying26 rfl (by kernel_rfl)) rfl ?_
       exact ⟨_, _, _, zr, by (with_reducible repeat (first | apply zF | apply zG | apply zH)); exact kA (kY (p := ⟨gb1322, 1, none⟩) (kY (p := ⟨gb1322, 0, none⟩) (kD HO_1335001.out BK1322.out (by decide)) (fun _ hk => hk.2) (.int .i64 t1327)) (fun _ hk => hk.2) (.slice Ao10 t1328.length co10)) (fun _ hk => ⟨hk.1.1, hk.1.2⟩), by (with_reducible repeat (first | apply zF | apply zG | apply zH)); exact kA (kY (p := ⟨gb1322, 1, none⟩) (kY (p := ⟨gb1322, 0, none⟩) (kD HO_17.out BK1322.out (by decide)) (fun _ hk => hk.2) (.int .i64 t1327)) (fun _ hk => hk.2) (.slice Ao10 t1328.length co10)) (fun _ hk => ⟨hk.1.2, hk.1.1⟩), by (with_reducible repeat (first | apply zF | apply zG | apply zH)); exact kA (kY (p := ⟨gb1322, 1, none⟩) (kY (p := ⟨gb1322, 0, none⟩) (kD HO_18.out BK1322.out (by decide)) (fun _ hk => hk.2) (.int .i64 t1327)) (fun _ hk => hk.2) (.slice Ao10 t1328.length co10)) (fun _ hk => ⟨hk.1.2, hk.1.1⟩), zW HB.out (Z101.ge HI1326.out) GE1322.out GE1334.out⟩
def impl_ties_meet.l0 : Nat → List Int → List Int → List Int → List Int → Option (List Int × List Int × List Int)
 | 0, _, _, _, _ => none
 | k + 1, x0, x1, x2, x9 => (impl_ties_firsts.f k x0 x1).bind fun t1405 => ((impl_ties_firsts.f k x0 x2).bind fun t1406 => (if (Go.bits .and .i64 t1405 t1406) = 0 then (some (x9, x1, x2)) else ((impl_least.f (Go.bits .and .i64 t1405 t1406)).bind fun t1407 => (if x9.length < 17592186044416 then ((impl_withoutFirst.f k x1 t1407).bind fun t1411 => ((impl_withoutFirst.f k x2 t1407).bind fun t1414 => (impl_ties_meet.l0 k x0 t1411 t1414 (x9 ++ [t1407])))) else (none)))))
def impl_ties_meet.f (k : Nat) (l0 : List Int) (l1 : List Int) (l2 : List Int) : Option (List Int × List Int × List Int) := impl_ties_meet.l0 k l0 l1 l2 (([] : List Int))
set_option maxHeartbeats 8000000 in
set_option maxRecDepth 100000 in
theorem impl_ties_meet.calls (k : Nat) (A0 : Option Addr) (c0 : Nat) (l0 : List Int) (P1_ : Nat → Prop) (A1 : Option Addr) (c1 : Nat) (l1 : List Int) (P2_ : Nat → Prop) (A2 : Option Addr) (c2 : Nat) (l2 : List Int) (r1 : List Int) (r2 : List Int) (r3 : List Int) (w : World) (hr0 : Kd.C (Kd.int .i64) w A0 l0.length l0) (hc0 : l0.length ≤ c0) (hs1 : Kd.V (Kd.int .i64) 2 w w.heap.size (fun k_ => P1_ k_) (.slice A1 l1.length c1) l1) (hs2 : Kd.V (Kd.int .i64) 2 w w.heap.size (fun k_ => P2_ k_) (.slice A2 l2.length c2) l2) (hT : TabW w) (h : impl_ties_meet.f k l0 l1 l2 = some (r1, r2, r3)) :
  Calls Tryd.prog 96 #[.slice A0 l0.length c0, .slice A1 l1.length c1, .slice A2 l2.length c2] w fun e w' => ∃ v0_ v1_ v2_ : Value, e = .returned (.tuple #[v0_, v1_, v2_]) ∧ Kd.R (Kd.int .i64) 2 w' w.heap.size (fun k_ => (w.heap.size ≤ k_)) v0_ r1 ∧ Kd.V (Kd.int .i64) 2 w' w.heap.size (fun k_ => ((P1_ k_ ∨ P2_ k_) ∨ w.heap.size ≤ k_) ∧ some k_ ≠ (v0_ : Value).ownBlock) v1_ r2 ∧ Kd.V (Kd.int .i64) 2 w' w.heap.size (fun k_ => ((P1_ k_ ∨ P2_ k_) ∨ w.heap.size ≤ k_) ∧ some k_ ≠ (v0_ : Value).ownBlock) v2_ r3 ∧ Below w.heap.size w w' := by
 have HT := zA hT
 clear hT
 have HR0 := zA hr0
 have HC0 := zA hc0
 clear hr0 hc0
 have HO1 := zA (show Kd.V (Kd.int .i64) 2 w w.heap.size (fun k_ => ((P1_ k_ ∨ P2_ k_) ∨ w.heap.size ≤ k_)) (.slice A1 l1.length c1) l1 from kN hs1 (fun k_ hk => .inl (.inl hk)))
 have HO2 := zA (show Kd.V (Kd.int .i64) 2 w w.heap.size (fun k_ => ((P1_ k_ ∨ P2_ k_) ∨ w.heap.size ≤ k_)) (.slice A2 l2.length c2) l2 from kN hs2 (fun k_ hk => .inl (.inr hk)))
 have HB := zA (kW w.heap.size w)
 have H := h
 unfold impl_ties_meet.f at H
 clear h
 obtain ⟨y1402, hy1402⟩ : ∃ y_ : List Int, y_ = (([] : List Int)) := ⟨_, rfl⟩
 replace H : (impl_ties_meet.l0 k l0 l1 l2 y1402) = some (r1, r2, r3) := zy hy1402 H
 have Ny1402 := zA hy1402
 clear hy1402
 have H' := zA H
 clear H
 go_enter Tryd.func96, Tryd.ntmps96
 go_wp2_with (first | ((with_reducible refine kS (N := 12) rfl ?_); refine Kd.R_lit (Kd.int .i64) _ 2 ?hg (N := 12) ?hd (xs := ([] : List Int)) (inner := []) (ok := fun _ => True) (okp := fun _ => True) ?hr ?hp (fun _ hk => hk) trivial (kW _ _) (Nat.le_refl _) (by simp) ?_; (case hd => rfl); (case hg => rfl); (case hr => first | (go_simp; done) | (go_simp; rfl)); (case hp => exact (Reps.none _ _)); intro v1403 w4 ho5 hb hg_ hnew_; clear hg_ hnew_; (first | rw [← Ny1402.out] at ho5 | (simp only [Int.reduceToNat] at ho5; rw [← Ny1402.out] at ho5)); replace HO1 := zA (kK (zPV HO1.out) (kC ho5) hb); replace HO2 := zA (kK (zPV HO2.out) (kC ho5) hb); have HO1404 := zA (kI (Kd.R_newM (M := fun k_ => (w.heap.size ≤ k_)) ho5 (kP (zQ HB.out)) (fun k_ h_ => h_)) (kP (zQ HB.out))); replace HB := zA (kQ (zQ HB.out) hb); clear hb ho5))
 go_loopg [1, 2, 9] k (fun kq v1 v2 v9 w' => ∃ (x1_1 : List Int) (x2_1 : List Int) (x9_1 : List Int), Aside0 (impl_ties_meet.l0 kq l0 x1_1 x2_1 x9_1 = some (r1, r2, r3)) ∧ Aside0 (kq ≤ k) ∧ Aside0 (Kd.V (Kd.int .i64) 2 w' w.heap.size (fun k_ => ((P1_ k_ ∨ P2_ k_) ∨ w.heap.size ≤ k_) ∧ some k_ ≠ (v9 : Value).ownBlock) v1 x1_1) ∧ Aside0 (Kd.V (Kd.int .i64) 2 w' w.heap.size (fun k_ => ((P1_ k_ ∨ P2_ k_) ∨ w.heap.size ≤ k_) ∧ some k_ ≠ (v9 : Value).ownBlock) v2 x2_1) ∧ Aside0 (Kd.R (Kd.int .i64) 2 w' w.heap.size (fun k_ => (w.heap.size ≤ k_)) v9 x9_1) ∧ Aside0 (Below w.heap.size w w'))
 case atStart => exact ⟨(l1), (l2), (y1402), H', ⟨Nat.le_refl _⟩, ⟨zPV HO1.out⟩, ⟨zPV HO2.out⟩, ⟨zPM HO1404.out (fun _ hk => hk.1)⟩, ⟨zQ HB.out⟩⟩
 case round =>
  clear H'
  try clear c1
  try clear c2
  obtain ⟨x1_1, x2_1, x9_1, HA, HK1, HO_1, HO_2, HO_9, HB⟩ := hrel
  cases gk with
  | zero => exact absurd HA.out (by simp [impl_ties_meet.l0])
  | succ k1 =>
   have H := HA.out
   clear HA
   simp only [impl_ties_meet.l0] at H
   obtain ⟨t1405, A6, H⟩ := zb H
   try dsimp only at H
   obtain ⟨t1406, A7, H⟩ := zb H
   try dsimp only at H
   by_cases c8 : (Go.bits .and .i64 t1405 t1406) = 0
   ·rw [if_pos c8] at H
    obtain ⟨c8b0, c8b1⟩ := zT1 c8
    clear c8
    simp only [Option.some.injEq, Prod.mk.injEq] at H
    obtain ⟨rfl, rfl, rfl⟩ := H
    obtain ⟨Ao9, co9, eo9⟩ := Kd.V_slice HO_1.out
    subst eo9
    go_wp2_with (first | (refine zO (some 15) Tryd.func51 #[.slice A0 l0.length c0, .slice Ao9 x1_1.length co9] ?_; (with_reducible refine (impl_ties_firsts.calls k1 _ _ l0 _ _ x1_1 t1405 _ ?side1 ?side2 ?side3 ?side4 A6.out).mono ?_); (case side1 => exact zS (kO HR0.out HB.out)); (case side2 => exact HC0.out); (case side3 => exact zS (kJ HO_1.out).2.2); (case side4 => exact (kJ HO_1.out).2.1); rintro e w' ⟨rfl, ⟨nd, rfl⟩⟩; refine ⟨_, rfl, ?_⟩; obtain ⟨Ao10, co10, eo10⟩ := Kd.V_slice HO_2.out; subst eo10) | (refine zO (some 18) Tryd.func51 #[.slice A0 l0.length c0, .slice Ao10 x2_1.length co10] ?_; (with_reducible refine (impl_ties_firsts.calls k1 _ _ l0 _ _ x2_1 t1406 _ ?side1 ?side2 ?side3 ?side4 A7.out).mono ?_); (case side1 => exact zS (kO HR0.out (zQ HB.out))); (case side2 => exact HC0.out); (case side3 => exact zS (kJ HO_2.out).2.2); (case side4 => exact (kJ HO_2.out).2.1); rintro e w' ⟨rfl, ⟨nd, rfl⟩⟩; refine ⟨_, rfl, ?_⟩))
    go_ret3
    exact ⟨_, _, _, zr, zP HO_9.out, by (with_reducible repeat (first | apply Kd.V_alloc | apply Kd.V_drewN | apply Kd.V_drew)); exact HO_1.out, by (with_reducible repeat (first | apply Kd.V_alloc | apply Kd.V_drewN | apply Kd.V_drew)); exact HO_2.out, zQ HB.out⟩
   rw [if_neg c8] at H
   obtain ⟨c8b0, c8b1⟩ := zT2 c8
   obtain ⟨t1407, A11, H⟩ := zb H
   try dsimp only at H
   by_cases c12 : x9_1.length < 17592186044416
   ·rw [if_pos c12] at H
    have LMc12 := zA c12
    clear c12
    obtain ⟨y1408, hy1408⟩ : ∃ y_ : List Int, y_ = (x9_1 ++ [t1407]) := ⟨_, rfl⟩
    replace H : ((impl_withoutFirst.f k1 x1_1 t1407).bind fun t1411 => ((impl_withoutFirst.f k1 x2_1 t1407).bind fun t1414 => (impl_ties_meet.l0 k1 l0 t1411 t1414 y1408))) = some (r1, r2, r3) := zy hy1408 H
    have Ny1408 := zA hy1408
    clear hy1408
    obtain ⟨t1411, A13, H⟩ := zb H
    try dsimp only at H
    obtain ⟨t1414, A14, H⟩ := zb H
    try dsimp only at H
    have H' := zA H
    clear H
    obtain ⟨Ao15, co15, eo15⟩ := Kd.V_slice HO_1.out
    subst eo15
    go_wp2_with (first | (refine zO (some 15) Tryd.func51 #[.slice A0 l0.length c0, .slice Ao15 x1_1.length co15] ?_; (with_reducible refine (impl_ties_firsts.calls k1 _ _ l0 _ _ x1_1 t1405 _ ?side1 ?side2 ?side3 ?side4 A6.out).mono ?_); (case side1 => exact zS (kO HR0.out HB.out)); (case side2 => exact HC0.out); (case side3 => exact zS (kJ HO_1.out).2.2); (case side4 => exact (kJ HO_1.out).2.1); rintro e w' ⟨rfl, ⟨nd, rfl⟩⟩; refine ⟨_, rfl, ?_⟩; obtain ⟨Ao16, co16, eo16⟩ := Kd.V_slice HO_2.out; subst eo16) | (refine zO (some 18) Tryd.func51 #[.slice A0 l0.length c0, .slice Ao16 x2_1.length co16] ?_; (with_reducible refine (impl_ties_firsts.calls k1 _ _ l0 _ _ x2_1 t1406 _ ?side1 ?side2 ?side3 ?side4 A7.out).mono ?_); (case side1 => exact zS (kO HR0.out (zQ HB.out))); (case side2 => exact HC0.out); (case side3 => exact zS (kJ HO_2.out).2.2); (case side4 => exact (kJ HO_2.out).2.1); rintro e w' ⟨rfl, ⟨nd, rfl⟩⟩; refine ⟨_, rfl, ?_⟩) | (refine zO (some 26) Tryd.func62 #[.int .i64 (Go.bits .and .i64 t1405 t1406)] ?_; (with_reducible refine (impl_least.calls (Go.bits .and .i64 t1405 t1406) t1407 _ ?side1 A11.out).mono ?_); (case side1 => exact TabW.below HT.out (zQ HB.out)); rintro e w' ⟨rfl, ⟨nd, rfl⟩⟩; refine ⟨_, rfl, ?_⟩) | ((with_reducible refine gate_builtin (b := .append) (xs := #[.tmp 27, .tmp 29]) rfl ?_); at_builtin; refine Kd.R_append (Kd.int .i64) (w0 := w) w.heap.size rfl (.tmp 27) (.tmp 29) 24 2 (.int .i64 0) 8 rfl Tryd.underlying24 info2 rfl (by decide) (by omega) u9 x9_1 t1407 [.int .i64 t1407] (fun k_ => (w.heap.size ≤ k_)) (fun _ => False) rfl rfl ?aP (fun _ hk => hk.elim) ?aF ?aO ?aB ?aS ?aL ?_; (case aP => exact rfl); (case aB => exact (zQ HB.out)); (case aF => exact (fun k_ hk => (Nat.le_trans (kP (zQ HB.out)) hk))); (case aO => exact (zP HO_9.out)); (case aS => exact (kP (zQ HB.out))); (case aL => have := LMc12.out; omega); intro v1409 w17 ho hb hg hat; rw [← Ny1408.out] at ho; replace HO_1 := zA (Kd.V_afterv (ok := (fun k_ => ((P1_ k_ ∨ P2_ k_) ∨ w.heap.size ≤ k_))) (zPV HO_1.out) hg hat); replace HO_2 := zA (Kd.V_afterv (ok := (fun k_ => ((P1_ k_ ∨ P2_ k_) ∨ w.heap.size ≤ k_))) (zPV HO_2.out) hg hat); replace HB := zA (hb); have HO1410 := zA (ho); clear HO_9; clear ho hb hg hat) | (refine zO (some 33) Tryd.func63 #[.slice Ao15 x1_1.length co15, .int .i64 t1407] ?_; (with_reducible refine (impl_withoutFirst.calls k1 (fun k_ => (((P1_ k_ ∨ P2_ k_) ∨ w.heap.size ≤ k_) ∧ some k_ ≠ (v1409 : Value).ownBlock)) _ _ x1_1 t1407 t1411 _ ?side1 A13.out).mono ?_); (case side1 => exact HO_1.out); rintro e w18 ⟨v1412, rfl, ho0, hb⟩; refine ⟨_, rfl, ?_⟩; replace HO_1 := zA (kK (zPV HO_1.out) (kC ho0) hb); replace HO_2 := zA (kK (zPV HO_2.out) (kC ho0) hb); have HO1413 := zA (kI (kF (Kd.R_newM (M := fun k_ => (w.heap.size ≤ k_)) (kA (ok' := fun k_ => True) ho0 (fun _ hk_ => trivial)) (kP (zQ HB.out)) (fun k_ h_ => h_)) (kH (zP HO1410.out))) (kP (zQ HB.out))); replace HO1410 := zA (kE (zP HO1410.out) (kC ho0) hb); replace HB := zA (kQ (zQ HB.out) hb); (try clear hb); (try clear ho0)) | (refine zO (some 36) Tryd.func63 #[.slice Ao16 x2_1.length co16, .int .i64 t1407] ?_; (with_reducible refine (impl_withoutFirst.calls k1 (fun k_ => ((((P1_ k_ ∨ P2_ k_) ∨ w.heap.size ≤ k_) ∧ some k_ ≠ (v1409 : Value).ownBlock) ∧ some k_ ≠ (v1412 : Value).ownBlock)) _ _ x2_1 t1407 t1414 _ ?side1 A14.out).mono ?_); (case side1 => exact HO_2.out); rintro e w19 ⟨v1415, rfl, ho0, hb⟩; refine ⟨_, rfl, ?_⟩; replace HO_1 := zA (kK (zPV HO_1.out) (kC ho0) hb); replace HO_2 := zA (kK (zPV HO_2.out) (kC ho0) hb); have HO1416 := zA (kI (kF (kF (Kd.R_newM (M := fun k_ => (w.heap.size ≤ k_)) (kA (ok' := fun k_ => True) ho0 (fun _ hk_ => trivial)) (kP (zQ HB.out)) (fun k_ h_ => h_)) (kH (zP HO1410.out))) (kH (zP HO1413.out))) (kP (zQ HB.out))); replace HO1410 := zA (kE (zP HO1410.out) (kC ho0) hb); replace HO1413 := zA (kE (zP HO1413.out) (kC ho0) hb); replace HB := zA (kQ (zQ HB.out) hb); (try clear hb); (try clear ho0)))
    go_roundg k1
    case measure => have := HK1.out; omega
    case rel => exact ⟨(t1411), (t1414), (y1408), H', ⟨by have := HK1.out; omega⟩, ⟨kN (jL (zP HO1413.out)) (fun k_ hk => by first | exact ⟨(.inr (hk.1.1.1)), hk.1.2⟩ | exact ⟨(.inr (hk.1)), hk.2⟩ | exact (.inr (hk)))⟩, ⟨kN (jL (zP HO1416.out)) (fun k_ hk => by first | exact ⟨(.inr (hk.1.1.1)), hk.1.2⟩ | exact ⟨(.inr (hk.1)), hk.2⟩ | exact (.inr (hk)))⟩, ⟨zPM HO1410.out (fun _ hk => hk.1.1)⟩, ⟨zQ HB.out⟩⟩
   rw [if_neg c12] at H
   exact absurd H (by simp)
def impl_maskOf.l0 : Nat → Int → List Int → Int → Int → Option (Int)
 | 0, _, _, _, _ => none
 | k + 1, x3, x6, x7, x8 => if x8 < x7 then (if 0 ≤ x8 then (if x8 < (x6.length : Int) then ((impl_one.f (rd x6 x8)).bind fun t1418 => (impl_maskOf.l0 k (Go.bits .or .i64 x3 t1418) x6 x7 (wrap64 (x8 + 1)))) else (none)) else (none)) else (some x3)
def impl_maskOf.f (k : Nat) (l0 : List Int) : Option (Int) := impl_maskOf.l0 k 0 l0 (l0.length : Int) 0
set_option maxHeartbeats 8000000 in
set_option maxRecDepth 100000 in
theorem impl_maskOf.calls (k : Nat) (A0 : Option Addr) (c0 : Nat) (l0 : List Int) (r : Int) (w : World) (hr0 : Kd.C (Kd.int .i64) w A0 l0.length l0) (hc0 : l0.length ≤ c0) (h : impl_maskOf.f k l0 = some r) :
  Calls Tryd.prog 133 #[.slice A0 l0.length c0] w fun e w' => e = .returned (.int .i64 r) ∧ Drawn0 w w' := by
 have HR0 := zA hr0
 have HC0 := zA hc0
 clear hr0 hc0
 have H := h
 unfold impl_maskOf.f at H
 clear h
 have H' := zA H
 clear H
 go_enter Tryd.func133, Tryd.ntmps133
 go_wp2
 go_loopg [3, 8] k (fun kq v3 v8 w' => ∃ (x3_1 : Int) (x8_1 : Int), v3 = .int .i64 x3_1 ∧ v8 = .int .i64 x8_1 ∧ Aside0 (impl_maskOf.l0 kq x3_1 l0 (l0.length : Int) x8_1 = some r) ∧ Aside0 (kq ≤ k) ∧ Drawn0 w w')
 case atStart => exact ⟨(0), (0), zs, zs, H', ⟨Nat.le_refl _⟩, by repeat (first | exact Drawn0.refl _ | apply Drawn0.step)⟩
 case round =>
  clear H'
  try clear c1
  obtain ⟨x3_1, x8_1, rfl, rfl, HA, HK1, ⟨m1, rfl⟩⟩ := hrel
  cases gk with
  | zero => exact absurd HA.out (by simp [impl_maskOf.l0])
  | succ k1 =>
   have H := HA.out
   clear HA
   simp only [impl_maskOf.l0] at H
   by_cases c2 : x8_1 < (l0.length : Int)
   ·rw [if_pos c2] at H
    have c2b0 : decide (x8_1 < (l0.length : Int)) = true := decide_eq_true c2
    clear c2
    by_cases c3 : 0 ≤ x8_1
    ·rw [if_pos c3] at H
     have c3b0 : decide (0 ≤ x8_1) = true := decide_eq_true c3
     clear c3
     by_cases c4 : x8_1 < (l0.length : Int)
     ·rw [if_pos c4] at H
      have c4b0 : decide (x8_1 < (l0.length : Int)) = true := decide_eq_true c4
      clear c4
      obtain ⟨t1418, A5, H⟩ := zb H
      try dsimp only at H
      have H' := zA H
      clear H
      have p1417 : 0 ≤ (x8_1 : Int) := zd
      have q1417 : x8_1 < (l0.length : Int) := zd
      obtain ⟨ad1417, e1417, hx1417_0⟩ := Kd.at_int HR0.out x8_1 p1417 q1417
      cases e1417
      replace p1417 := eq_true p1417
      replace q1417 := eq_true q1417
      go_wp2_with (first | (refine zO (some 14) Tryd.func105 #[.int .i64 (rd l0 x8_1)] ?_; (with_reducible refine (impl_one.calls (rd l0 x8_1) t1418 _ A5.out).mono ?_); rintro e w' ⟨rfl, ⟨nd, rfl⟩⟩; refine ⟨_, rfl, ?_⟩))
      go_roundg k1
      case measure => have := HK1.out; omega
      case rel => exact ⟨(Go.bits .or .i64 x3_1 t1418), (wrap64 (x8_1 + 1)), zs, zs, H', ⟨by have := HK1.out; omega⟩, by repeat (first | exact Drawn0.refl _ | apply Drawn0.step)⟩
     rw [if_neg c4] at H
     exact absurd H (by simp)
    rw [if_neg c3] at H
    exact absurd H (by simp)
   rw [if_neg c2] at H
   have c2b0 : decide (x8_1 < (l0.length : Int)) = false := decide_eq_false c2
   clear c2
   obtain rfl := Option.some.inj H
   go_wp2
   go_ret
   exact ⟨zs, by repeat (first | exact Drawn0.refl _ | apply Drawn0.step)⟩
def impl_ties_apart.f (k : Nat) (l0 : List Int) (l1 l2 : List Int) : Option Bool :=
 (impl_maskOf.f k l2).bind fun m => if l1.all (fun a => decide (0 ≤ a ∧ a < (l0.length : Int))) = true then some (l1.all fun a => decide (Go.bits .and .i64 (rd l0 a) m = 0)) else none
set_option maxHeartbeats 2000000 in
set_option maxRecDepth 100000 in
theorem apart_pred (k : Nat) (A0 : Option Addr) (ct : Nat) (T : List Int) (A2 : Option Addr) (cv : Nat) (v : List Int) (m : Int) (B : Nat) (w : World) (hB : B + 1 < w.heap.size)
  (hD : (Kd.int .i64).C w A0 T.length T) (hV : (Kd.int .i64).C w A2 v.length v) (hcv : v.length ≤ cv) (h0 : w.cell? ⟨B, 0, none⟩ = some (.slice A0 T.length ct)) (h1 : w.cell? ⟨B + 1, 0, none⟩ = some (.slice A2 v.length cv))
  (hm : impl_maskOf.f k v = some m) (l : List Int) (hl : ∀ x ∈ l, 0 ≤ x ∧ x < (T.length : Int)) :
  PredOf 132 #[.pointer (some ⟨B, 0, none⟩), .pointer (some ⟨B + 1, 0, none⟩)] (fun x => !decide (Go.bits .and .i64 (rd T x) m = 0)) w l := fun W x hx hb => by
 obtain ⟨hx0, hx1⟩ := hl x hx
 clear hl hx
 have HM := zA hm
 have W1 := zA (zD (kW W.heap.size W))
 have hb1 := kQ hb W1.out
 have HV := zA (kO hV hb1)
 have HD := zA (kO hD hb1)
 have K0 := zA ((hb1.cell (p := ⟨B, 0, none⟩) (by simp; omega)).trans h0)
 have K1 := zA ((hb1.cell (p := ⟨B + 1, 0, none⟩) (by simpa using hB)).trans h1)
 clear h0 h1 hb hb1 hV hD hm
 obtain ⟨ad, e0, hcell⟩ := Kd.at_int HD.out x hx0 hx1
 cases e0
 have K2 := zA hcell
 clear hcell HD
 have p1 : (decide (0 ≤ x)) = true := by simpa using hx0
 have p2 : (decide (x < (T.length : Int))) = true := by simpa using hx1
 show Calls Tryd.prog 132 #[.int .i64 x, .pointer (some ⟨B, 0, none⟩), .pointer (some ⟨B + 1, 0, none⟩)] W _
 go_enter Tryd.func132, Tryd.ntmps132
 go_wp2
 refine start_ (n := 9) (S := fun w' => w'.cell? ⟨B, 0, none⟩ = some (.slice (some ad) T.length ct) ∧ w'.cell? ⟨B + 1, 0, none⟩ = some (.slice A2 v.length cv) ∧ w'.cell? (ad.add x.toNat) = some (.int .i64 (rd T x))) (ds := []) #[false, false, false, false, false, false, false, false, false] (by kernel_rfl) rfl rfl ⟨K0.out, K1.out, K2.out⟩ (fun hHeld => ?_)
 refine pure_ (i := 1) (N := some 6) (v := ?_) (a' := ?_) #[false, true, false, false, false, false, false, false, false] rfl rfl (by kernel_rfl) (fun _ _ _ h => h) (Or.inl ⟨by rfl, ?_⟩) ?_ ?_
 rotate_left
 ·intro w'
  go_simp
  with_reducible rfl
 rotate_left
 ·simp only [Act.put, zL, zM, zN, i64_w, i32_w]
  rfl
 refine take_ (i := 0) (N := some 5) (v := ?_) (a' := ?_) #[true, true, false, false, false, false, false, false, false] rfl rfl (by kernel_rfl) (fun _ _ _ h => h) (Or.inl ⟨by rfl, ?_⟩) hHeld ?_ ?_
 rotate_left
 ·rintro w' ⟨s0, s1, s2⟩
  go_simp
  with_reducible rfl
 rotate_left
 ·simp only [Act.put, zL, zM, zN, i64_w, i32_w]
  rfl
 refine pure_ (i := 2) (N := some 7) (v := ?_) (a' := ?_) #[true, true, true, false, false, false, false, false, false] rfl rfl (by kernel_rfl) (fun _ _ _ h => h) (Or.inl ⟨by rfl, ?_⟩) ?_ ?_
 rotate_left
 ·intro w'
  go_simp
  with_reducible rfl
 rotate_left
 ·simp only [Act.put, zL, zM, zN, i64_w, i32_w]
  rfl
 refine take_ (i := 3) (N := some 8) (v := ?_) (a' := ?_) #[true, true, true, true, false, false, false, false, false] rfl rfl (by kernel_rfl) (fun _ _ _ h => h) (Or.inl ⟨by rfl, ?_⟩) hHeld ?_ ?_
 rotate_left
 ·rintro w' ⟨s0, s1, s2⟩
  go_simp
  with_reducible rfl
 rotate_left
 ·simp only [Act.put, zL, zM, zN, i64_w, i32_w]
  rfl
 refine take_ (i := 4) (N := some 9) (v := ?_) (a' := ?_) #[true, true, true, true, true, false, false, false, false] rfl rfl (by kernel_rfl) (fun _ _ _ h => h) (Or.inl ⟨by rfl, ?_⟩) hHeld ?_ ?_
 rotate_left
 ·rintro w' ⟨s0, s1, s2⟩
  go_simp
  with_reducible rfl
 rotate_left
 ·simp only [Act.put, zL, zM, zN, i64_w, i32_w]
  rfl
 refine one_ (i := 5) (N := some 10) #[true, true, true, true, true, true, false, false, false] rfl rfl (by kernel_rfl) (by decide) (fun K hK => ?_)
 refine goes_ Tryd.func133 (by kernel_rfl) rfl #[.slice A2 v.length cv] (by rfl) rfl rfl (by simp only [List.map_toArray, List.map_cons, List.map_nil]; rfl) ?_
 with_reducible refine (impl_maskOf.calls k A2 cv v m _ HV.out hcv HM.out).mono ?_
 rintro e w3 ⟨rfl, hd⟩
 refine ⟨_, rfl, ?_⟩
 have hb2 := Drawn0.below hd
 clear hd
 refine hK.out _ _ ⟨pw_cell_below hb2 K0.out, pw_cell_below hb2 K1.out, pw_cell_below hb2 K2.out⟩ (fun hHeld => ?_)
 clear hK K
 refine norm_ (a' := ?_) ?_ ?_
 rotate_left
 ·show Act.put _ (some 10) _ = _
  simp only [Act.put, zL, zM, zN, i64_w, i32_w]
  rfl
 refine pure_ (i := 6) (N := some 11) (v := ?_) (a' := ?_) #[true, true, true, true, true, true, true, false, false] rfl rfl (by kernel_rfl) (fun _ _ _ h => h) (Or.inl ⟨by rfl, ?_⟩) ?_ ?_
 rotate_left
 ·intro w'
  go_simp
  with_reducible rfl
 rotate_left
 ·simp only [Act.put, zL, zM, zN, i64_w, i32_w]
  rfl
 refine pure_ (i := 7) (N := some 12) (v := ?_) (a' := ?_) #[true, true, true, true, true, true, true, true, false] rfl rfl (by kernel_rfl) (fun _ _ _ h => h) (Or.inl ⟨by rfl, ?_⟩) ?_ ?_
 rotate_left
 ·intro w'
  go_simp
  with_reducible rfl
 rotate_left
 ·simp only [Act.put, zL, zM, zN, i64_w, i32_w]
  rfl
 refine pure_ (i := 8) (N := some 4) (v := ?_) (a' := ?_) #[true, true, true, true, true, true, true, true, true] rfl rfl (by kernel_rfl) (fun _ _ _ h => h) (Or.inl ⟨by rfl, ?_⟩) ?_ ?_
 rotate_left
 ·intro w'
  go_simp
  with_reducible rfl
 rotate_left
 ·simp only [Act.put, zL, zM, zN, i64_w, i32_w]
  rfl
 refine done_ (by kernel_rfl) ?_
 go_wp2
 go_ret
 exact ⟨rfl, kQ W1.out hb2⟩
set_option maxRecDepth 100000 in
theorem impl_ties_apart.calls (k : Nat) (A0 : Option Addr) (c0 : Nat) (l0 : List Int) (A1 : Option Addr) (c1 : Nat) (l1 : List Int) (A2 : Option Addr) (c2 : Nat) (l2 : List Int) (r : Bool) (w : World) (hr0 : Kd.C (Kd.int .i64) w A0 l0.length l0) (hc0 : l0.length ≤ c0) (hr1 : Kd.C (Kd.int .i64) w A1 l1.length l1) (hc1 : l1.length ≤ c1) (hr2 : Kd.C (Kd.int .i64) w A2 l2.length l2) (hc2 : l2.length ≤ c2) (h : impl_ties_apart.f k l0 l1 l2 = some r) :
  Calls Tryd.prog 129 #[.slice A0 l0.length c0, .slice A1 l1.length c1, .slice A2 l2.length c2] w fun e w' => e = .returned (.bool r) ∧ Below w.heap.size w w' := by
 obtain ⟨m, hm, hr⟩ := Option.bind_eq_some_iff.mp h
 clear h
 by_cases hall : l1.all (fun a => decide (0 ≤ a ∧ a < (l0.length : Int))) = true
 ·rw [if_pos hall] at hr
  have hW : Below w.heap.size w ((w.alloc (.cells #[.slice A0 l0.length c0] 52)).alloc (.cells #[.slice A2 l2.length c2] 24)) := zB (zB (kW _ w) _) _
  have eg : ∀ args w, (callFunc 132 args).run Tryd.prog w = .ok (.enter 132 args) w := enters_fn Tryd.func132 (by kernel_rfl) rfl
  have hcon := containsFunc_any A1 c1 l1 132 #[.pointer (some ⟨w.heap.size, 0, none⟩), .pointer (some ⟨w.heap.size + 1, 0, none⟩)] (fun x => !decide (Go.bits .and .i64 (rd l0 x) m = 0)) _ eg
   (apart_pred k A0 c0 l0 A2 c2 l2 m w.heap.size ((w.alloc (.cells #[.slice A0 l0.length c0] 52)).alloc (.cells #[.slice A2 l2.length c2] 24)) (by simp) (kO hr0 hW) (kO hr2 hW) hc2 (by simp) (by simp) hm l1 (fun x hx => by simpa using List.all_eq_true.1 hall x hx)) (kO hr1 hW)
  have hr' : (!(l1.any fun x => !decide (Go.bits .and .i64 (rd l0 x) m = 0))) = r := by
   rw [← Option.some.inj hr, List.all_eq_not_any_not]
  clear hr hr0 hr1 hr2 hc0 hc1 hc2 eg hm hall
  generalize (l1.any fun x => !decide (Go.bits .and .i64 (rd l0 x) m = 0)) = b at hcon hr'
  subst hr'
  replace hW := zA hW
  replace hcon := zA hcon
  go_enter Tryd.func129, Tryd.ntmps129
  go_wp2_with fail
  refine hcon.out.mono ?_
  rintro e w' ⟨rfl, hb⟩
  replace hb := zA hb
  clear hcon
  go_wp2
  go_ret
  exact ⟨rfl, kQ hW.out hb.out⟩
 rw [if_neg hall] at hr
 cases hr
def impl_ties_residual.f (k : Nat) (l0 : List Int) (l1 : List Int) (l2 : List Int) : Option (List Int × Bool) := (impl_ties_meet.f k l0 l1 l2).bind fun bt1419 => ((impl_ties_apart.f k l0 bt1419.2.1 bt1419.2.2).bind fun t1428 => (some (bt1419.2.2, t1428)))
set_option maxHeartbeats 8000000 in
set_option maxRecDepth 100000 in
theorem impl_ties_residual.calls (k : Nat) (A0 : Option Addr) (c0 : Nat) (l0 : List Int) (P1_ : Nat → Prop) (A1 : Option Addr) (c1 : Nat) (l1 : List Int) (P2_ : Nat → Prop) (A2 : Option Addr) (c2 : Nat) (l2 : List Int) (r1 : List Int) (r2 : Bool) (w : World) (hr0 : Kd.C (Kd.int .i64) w A0 l0.length l0) (hc0 : l0.length ≤ c0) (hs1 : Kd.V (Kd.int .i64) 2 w w.heap.size (fun k_ => P1_ k_) (.slice A1 l1.length c1) l1) (hs2 : Kd.V (Kd.int .i64) 2 w w.heap.size (fun k_ => P2_ k_) (.slice A2 l2.length c2) l2) (hT : TabW w) (h : impl_ties_residual.f k l0 l1 l2 = some (r1, r2)) :
  Calls Tryd.prog 120 #[.slice A0 l0.length c0, .slice A1 l1.length c1, .slice A2 l2.length c2] w fun e w' => ∃ v0_ : Value, e = .returned (.tuple #[v0_, .bool r2]) ∧ Kd.V (Kd.int .i64) 2 w' w.heap.size (fun k_ => ((P1_ k_ ∨ P2_ k_) ∨ w.heap.size ≤ k_)) v0_ r1 ∧ Below w.heap.size w w' := by
 have HT := zA hT
 clear hT
 have HR0 := zA hr0
 have HC0 := zA hc0
 clear hr0 hc0
 have HO1 := zA (show Kd.V (Kd.int .i64) 2 w w.heap.size (fun k_ => ((P1_ k_ ∨ P2_ k_) ∨ w.heap.size ≤ k_)) (.slice A1 l1.length c1) l1 from kN hs1 (fun k_ hk => .inl (.inl hk)))
 have HO2 := zA (show Kd.V (Kd.int .i64) 2 w w.heap.size (fun k_ => ((P1_ k_ ∨ P2_ k_) ∨ w.heap.size ≤ k_)) (.slice A2 l2.length c2) l2 from kN hs2 (fun k_ hk => .inl (.inr hk)))
 have HB := zA (kW w.heap.size w)
 have H := h
 unfold impl_ties_residual.f at H
 clear h
 obtain ⟨⟨t1419, t1422, t1425⟩, A4, H⟩ := zb H
 try dsimp only at H
 obtain ⟨t1428, A5, H⟩ := zb H
 try dsimp only at H
 simp only [Option.some.injEq, Prod.mk.injEq] at H
 obtain ⟨rfl, rfl⟩ := H
 go_enter Tryd.func120, Tryd.ntmps120
 go_wp2_with (first | (refine zO (some 15) Tryd.func96 #[.slice A0 l0.length c0, .slice A1 l1.length c1, .slice A2 l2.length c2] ?_; (with_reducible refine (impl_ties_meet.calls k _ _ l0 (fun k_ => ((P1_ k_ ∨ P2_ k_) ∨ w.heap.size ≤ k_)) _ _ l1 (fun k_ => ((P1_ k_ ∨ P2_ k_) ∨ w.heap.size ≤ k_)) _ _ l2 t1419 t1422 t1425 _ ?side1 ?side2 ?side3 ?side4 ?side5 A4.out).mono ?_); (case side1 => exact zS HR0.out); (case side2 => exact HC0.out); (case side3 => exact HO1.out); (case side4 => exact HO2.out); (case side5 => exact TabW.below HT.out (zQ HB.out)); rintro e w6 ⟨v1420, v1423, v1426, rfl, ho0, ho1, ho2, hb⟩; refine ⟨_, rfl, ?_⟩; replace HO1 := zA (kK (zPV HO1.out) (kC ho0) hb); replace HO2 := zA (kK (zPV HO2.out) (kC ho0) hb); have HO1421 := zA (kI (Kd.R_newM (M := fun k_ => (w.heap.size ≤ k_)) (kA (ok' := fun k_ => True) ho0 (fun _ hk_ => trivial)) (kP (zQ HB.out)) (fun k_ h_ => h_)) (kP (zQ HB.out))); have HO1424 := zA (jM (kN (ok' := fun k_ => ((P1_ k_ ∨ P2_ k_) ∨ w.heap.size ≤ k_) ∧ some k_ ≠ (v1420 : Value).ownBlock) ho1 (fun k_ hk_ => ⟨Or.elim hk_.1 (fun hs_ => Or.elim hs_ (fun hs_ => hs_) (fun hs_ => hs_)) (fun hn_ => (.inr (Nat.le_trans (kP (zQ HB.out)) hn_))), hk_.2⟩)) (kP (zQ HB.out))); have HO1427 := zA (jM (kN (ok' := fun k_ => ((P1_ k_ ∨ P2_ k_) ∨ w.heap.size ≤ k_) ∧ some k_ ≠ (v1420 : Value).ownBlock) ho2 (fun k_ hk_ => ⟨Or.elim hk_.1 (fun hs_ => Or.elim hs_ (fun hs_ => hs_) (fun hs_ => hs_)) (fun hn_ => (.inr (Nat.le_trans (kP (zQ HB.out)) hn_))), hk_.2⟩)) (kP (zQ HB.out))); replace HB := zA (kQ (zQ HB.out) hb); (try clear hb); (try clear ho0); (try clear ho1); (try clear ho2); obtain ⟨Ao7, co7, eo7⟩ := Kd.V_slice HO1424.out; subst eo7; obtain ⟨Ao8, co8, eo8⟩ := Kd.V_slice HO1427.out; subst eo8) | (refine zO (some 23) Tryd.func129 #[.slice A0 l0.length c0, .slice Ao7 t1422.length co7, .slice Ao8 t1425.length co8] ?_; (with_reducible refine (impl_ties_apart.calls k _ _ l0 _ _ t1422 _ _ t1425 t1428 _ ?side1 ?side2 ?side3 ?side4 ?side5 ?side6 A5.out).mono ?_); (case side1 => exact zS (kO HR0.out HB.out)); (case side2 => exact HC0.out); (case side3 => exact zS (kJ HO1424.out).2.2); (case side4 => exact (kJ HO1424.out).2.1); (case side5 => exact zS (kJ HO1427.out).2.2); (case side6 => exact (kJ HO1427.out).2.1); rintro e w9 ⟨rfl, hb⟩; refine ⟨_, rfl, ?_⟩; replace HO1 := zA (kG (zPV HO1.out) hb); replace HO2 := zA (kG (zPV HO2.out) hb); replace HO1421 := zA (kL (zP HO1421.out) hb); replace HO1424 := zA (kG (zPV HO1424.out) hb); replace HO1427 := zA (kG (zPV HO1427.out) hb); replace HB := zA (kQ (zQ HB.out) hb); (try clear hb)))
 go_ret2
 exact ⟨_, zr, by (with_reducible repeat (first | apply Kd.V_alloc | apply Kd.V_drewN | apply Kd.V_drew)); exact kN HO1427.out (fun _ hk => hk.1), zQ HB.out⟩
end Go.Proofs.YtkiacoilecdepaaDoor.PAll
