-- Printed by a program of the session (wip/tools/pgen.py) out of the translation. Not trusted: Lean checks it.
import Derived.Test.YtkiacoilecdepaaDoorPAllx0
import Derived.Test.YtkiacoilecdepaaDoorPAllx1
import Derived.Test.YtkiacoilecdepaaDoorPAllx2
import Derived.Test.YtkiacoilecdepaaDoorPAllx3
import Derived.Test.YtkiacoilecdepaaDoorPAllx4
import Derived.Test.YtkiacoilecdepaaDoorPAllx7
namespace Go.Proofs.YtkiacoilecdepaaDoor.PAll
open Go.RowKit Go.Proofs.YtkiacoilecdepaaDoor.T Go.Proofs.YtkiacoilecdepaaDoorW.PrintWords Go.Proofs.YtkiacoilecdepaaDoorW.PrintLast Go.Proofs.YtkiacoilecdepaaDoorW.PrintMore
attribute [local go_sem] max2_int min2_int max_two min_two max_three min_three max_four min_four   -- for this text's walks alone
set_option linter.unusedVariables false
set_option linter.unusedSimpArgs false

/-! ### spec_DrawProjectionOf: function 60 -/
def spec_DrawProjectionOf.f (k : Nat) (l0 : List Int) : Option (Int × List Int × List Int × Int) := (spec_l03Pair.f k l0 8 24).bind fun bt526 => ((spec_l01Next.f bt526.1 bt526.2.1 bt526.2.2.1 20).bind fun bt538 => (if bt538.1 = 0 then ((spec_l01Pick.f bt526.1 bt538.2.1 bt538.2.2 (([(-1), 256, 1099511627776] : List Int))).bind fun bt544 => (some (bt526.2.2.2.1, bt526.2.2.2.2.1, bt526.2.2.2.2.2, bt544.1))) else ((spec_l02Is.f k bt526.2.2.2.1 bt526.2.2.2.2.1).bind fun t547 => (if t547 = true then ((spec_l01One.f bt526.2.2.2.1).bind fun t548 => ((spec_l01Next.f bt526.1 bt538.2.1 bt538.2.2 t548).bind fun bt549 => (some (bt526.2.2.2.1, bt526.2.2.2.2.1, bt526.2.2.2.2.2, bt549.1)))) else ((spec_l01Next.f bt526.1 bt538.2.1 bt538.2.2 256).bind fun bt552 => (some (bt526.2.2.2.1, bt526.2.2.2.2.1, bt526.2.2.2.2.2, bt552.1)))))))

def spec_DrawProjectionOf.T3 : Bool × List (List Nat × List Nat) := (true, [([], []), ([], []), ([], []), ([], []), ([2, 3], [2, 3]), ([0, 4, 0], [0]), ([1, 5, 0, 1, 5], [1]), ([4, 6, 0, 1, 2, 3, 4, 5, 6], [4])])
def spec_DrawProjectionOf.B3 : List Nat := [0, 0, 0, 0, 12, 29, 63, 127]
theorem spec_DrawProjectionOf.tab3 : rtab .any (opsOf Tryd.f60 3) = spec_DrawProjectionOf.T3 := by kernel_rfl
theorem spec_DrawProjectionOf.bits3 : waitsOk spec_DrawProjectionOf.T3.2 spec_DrawProjectionOf.B3 = true := by kernel_rfl
def spec_DrawProjectionOf.T5 : Bool × List (List Nat × List Nat) := (true, [([], []), ([], []), ([], []), ([], []), ([3], [3]), ([4], [4]), ([2, 5, 5], [2, 5]), ([0, 6, 0], [0]), ([1, 7, 0, 1, 7], [1]), ([6, 8, 0, 1, 2, 3, 4, 5, 6, 7, 8], [6])])
def spec_DrawProjectionOf.B5 : List Nat := [0, 0, 0, 0, 8, 24, 60, 125, 255, 511]
theorem spec_DrawProjectionOf.tab5 : rtab .any (opsOf Tryd.f60 5) = spec_DrawProjectionOf.T5 := by kernel_rfl
theorem spec_DrawProjectionOf.bits5 : waitsOk spec_DrawProjectionOf.T5.2 spec_DrawProjectionOf.B5 = true := by kernel_rfl
set_option maxHeartbeats 8000000 in
set_option maxRecDepth 100000 in
theorem spec_DrawProjectionOf.calls (k : Nat) (A0 : Option Addr) (c0 : Nat) (l0 : List Int) (r1 : Int) (r2 : List Int) (r3 : List Int) (r4 : Int) (w : World) (hr0 : Kd.C (Kd.int .u8) w A0 l0.length l0) (hc0 : l0.length ≤ c0) (h : spec_DrawProjectionOf.f k l0 = some (r1, r2, r3, r4)) :
  Calls Tryd.prog 60 #[.slice A0 l0.length c0] w fun e w' => ∃ v1_ v2_ : Value, e = .returned (.tuple #[.agg #[.int .i64 r1, v1_], v2_, .int .i64 r4]) ∧ Kd.R (Kd.int .i64) 2 w' w.heap.size (fun k_ => some k_ ≠ (v2_ : Value).ownBlock) v1_ r2 ∧ Kd.R (Kd.int .i64) 2 w' w.heap.size (fun k_ => some k_ ≠ (v1_ : Value).ownBlock) v2_ r3 ∧ Below w.heap.size w w' := by
 have hu26 := Tryd.underlying26
 have HR0 := zA hr0
 have HC0 := zA hc0
 clear hr0 hc0
 have HB := zA (Below.refl w.heap.size w)
 have H : ((spec_l03Pair.f k l0 8 24).bind fun bt526 => ((spec_l01Next.f bt526.1 bt526.2.1 bt526.2.2.1 20).bind fun bt538 => (if bt538.1 = 0 then ((spec_l01Pick.f bt526.1 bt538.2.1 bt538.2.2 (([(-1), 256, 1099511627776] : List Int))).bind fun bt544 => (some (bt526.2.2.2.1, bt526.2.2.2.2.1, bt526.2.2.2.2.2, bt544.1))) else ((spec_l02Is.f k bt526.2.2.2.1 bt526.2.2.2.2.1).bind fun t547 => (if t547 = true then ((spec_l01One.f bt526.2.2.2.1).bind fun t548 => ((spec_l01Next.f bt526.1 bt538.2.1 bt538.2.2 t548).bind fun bt549 => (some (bt526.2.2.2.1, bt526.2.2.2.2.1, bt526.2.2.2.2.2, bt549.1)))) else ((spec_l01Next.f bt526.1 bt538.2.1 bt538.2.2 256).bind fun bt552 => (some (bt526.2.2.2.1, bt526.2.2.2.2.1, bt526.2.2.2.2.2, bt552.1)))))))) = some (r1, r2, r3, r4) := h
 clear h
 replace H := Option.bind_eq_some_iff.mp H
 obtain ⟨⟨t526, t527, t528, t530, t531, t534⟩, A20, H⟩ := H
 replace H : ((spec_l01Next.f t526 t527 t528 20).bind fun bt538 => (if bt538.1 = 0 then ((spec_l01Pick.f t526 bt538.2.1 bt538.2.2 (([(-1), 256, 1099511627776] : List Int))).bind fun bt544 => (some (t530, t531, t534, bt544.1))) else ((spec_l02Is.f k t530 t531).bind fun t547 => (if t547 = true then ((spec_l01One.f t530).bind fun t548 => ((spec_l01Next.f t526 bt538.2.1 bt538.2.2 t548).bind fun bt549 => (some (t530, t531, t534, bt549.1)))) else ((spec_l01Next.f t526 bt538.2.1 bt538.2.2 256).bind fun bt552 => (some (t530, t531, t534, bt552.1))))))) = some (r1, r2, r3, r4) := H
 have A2 := zA A20
 clear A20
 replace H := Option.bind_eq_some_iff.mp H
 obtain ⟨⟨t538, t539, t540⟩, A30, H⟩ := H
 replace H : (if t538 = 0 then ((spec_l01Pick.f t526 t539 t540 (([(-1), 256, 1099511627776] : List Int))).bind fun bt544 => (some (t530, t531, t534, bt544.1))) else ((spec_l02Is.f k t530 t531).bind fun t547 => (if t547 = true then ((spec_l01One.f t530).bind fun t548 => ((spec_l01Next.f t526 t539 t540 t548).bind fun bt549 => (some (t530, t531, t534, bt549.1)))) else ((spec_l01Next.f t526 t539 t540 256).bind fun bt552 => (some (t530, t531, t534, bt552.1)))))) = some (r1, r2, r3, r4) := H
 have A3 := zA A30
 clear A30
 by_cases c4 : t538 = 0
 ·rw [if_pos c4] at H
  have c4b0 : (t538 == 0) = true := beq_iff_eq.mpr c4
  have c4b1 : (t538 != 0) = false := bne_eq_false_iff_eq.mpr c4
  clear c4
  obtain ⟨y541, hy541⟩ : ∃ y_ : List Int, y_ = (([(-1), 256, 1099511627776] : List Int)) := ⟨_, rfl⟩
  replace H : ((spec_l01Pick.f t526 t539 t540 y541).bind fun bt544 => (some (t530, t531, t534, bt544.1))) = some (r1, r2, r3, r4) := by first | (rw [hy541]; with_reducible exact H) | (have H2_ := (Option.bind_some _ _).symm.trans H; rw [hy541]; with_reducible exact H2_) | (have H2_ := (Option.bind_some _ _).symm.trans H; with_reducible exact H2_) | with_reducible exact H | (rw [hy541]; exact H) | exact H
  have Ny541 := zA hy541
  clear hy541
  replace H := Option.bind_eq_some_iff.mp H
  obtain ⟨⟨t544, t545, t546⟩, A50, H⟩ := H
  replace H : (some (t530, t531, t534, t544)) = some (r1, r2, r3, r4) := H
  have A5 := zA A50
  clear A50
  simp only [Option.some.injEq, Prod.mk.injEq] at H
  obtain ⟨rfl, rfl, rfl, rfl⟩ := H
  go_enter Tryd.func60, Tryd.ntmps60
  try go_wp2_with (first | ((with_reducible refine gate_dst (N := 2) rfl ?_); refine box_event ?hg (N := 2) ?hd (cs := #[.int .i64 0, .slice none 0 0]) (t := 26) ?hr ?_; (case hd => rfl); (case hg => rfl); (case hr => first | (go_simp; done) | (go_simp; rfl)); intro gb525 hg w6 hbox hb; have n0_ := zA (below_step (zQ HB.out) hb); have n1_ := zA (hbox); have n2_ := zA ((by rw [hg]; exact (below_size (zQ HB.out)) : w.heap.size ≤ gb525)); have n3_ := zA ((by rw [hg]; exact (below_size (zQ HB.out)) : w.heap.size ≤ gb525)); clear HB; have HB := n0_; have BK525 := n1_; have GW525 := n2_; have GE525 := n3_; clear n0_ n1_ n2_ n3_; clear hb hbox hg) | ((with_reducible refine gate_callee (f := 48) rfl ?_); refine zO (some 10) Tryd.func48 #[.slice A0 l0.length c0, .int .i64 8, .int .i64 24] ?_; (with_reducible refine (spec_l03Pair.calls k _ _ l0 8 24 t526 t527 t528 t530 t531 t534 w _ ?side1 ?side2 ?side3 A2.out).mono ?_); (case side1 => exact zT HB.out GE525.out); (case side2 => exact HR0.out); (case side3 => exact HC0.out); rintro e w7 ⟨v532, v535, g529, rfl, ho0, ho1, hi, hb, hb2, hgw⟩; refine ⟨_, rfl, ?_⟩; have n0_ := zA (Kd.R_lower ho0 (below_size (zT HB.out GE525.out))); have n1_ := zA (Kd.R_lower ho1 (below_size (zT HB.out GE525.out))); have n2_ := zA (blk_below (g := gb525) (o := .cells #[.int .i64 0, .slice none 0 0] 26 (0, 0)) (zR BK525.out) hb2); have n3_ := zA (hb); have n4_ := zA (hi); have n5_ := zA (Z101.ne_blk hi (blk_below (g := gb525) (o := .cells #[.int .i64 0, .slice none 0 0] 26 (0, 0)) (zR BK525.out) hb2) (by decide)); have n6_ := zA (Ne.symm (Z101.ne_blk hi (blk_below (g := gb525) (o := .cells #[.int .i64 0, .slice none 0 0] 26 (0, 0)) (zR BK525.out) hb2) (by decide))); clear BK525; clear HB; have HO533 := n0_; have HO536 := n1_; have BK525 := n2_; have HB := n3_; have HI529 := n4_; have NB529_525 := n5_; have NB525_529 := n6_; clear n0_ n1_ n2_ n3_ n4_ n5_ n6_; (try clear hb); (try clear hb2); (try clear hi); (try clear hgw); (try clear ho0); (try clear ho1)) | ((with_reducible refine gate_dst (N := 6) rfl ?_); refine box_event ?hg (N := 6) ?hd (cs := #[.int .i64 0, .slice none 0 0]) (t := 26) ?hr ?_; (case hd => rfl); (case hg => rfl); (case hr => first | (go_simp; done) | (go_simp; rfl)); intro gb537 hg w8 hbox hb; have n0_ := zA (Kd.R_below (zP HO533.out) hb); have n1_ := zA (Kd.R_below (zP HO536.out) hb); have n2_ := zA (blk_below (g := gb525) (o := .cells #[.int .i64 0, .slice none 0 0] 26 (0, 0)) (zR BK525.out) hb); have n3_ := zA (Z101.below (Z101.uB HI529.out NB529_525.out) hb); have n4_ := zA (below_step (zV HB.out (Z101.ge HI529.out) GE525.out) hb); have n5_ := zA (hbox); have n6_ := zA ((by rw [hg]; exact (below_size (zV HB.out (Z101.ge HI529.out) GE525.out)) : w.heap.size ≤ gb537)); have n7_ := zA ((by rw [hg]; exact (below_size (zV HB.out (Z101.ge HI529.out) GE525.out)) : w.heap.size ≤ gb537)); have n8_ := zA ((by rw [hg]; exact Nat.ne_of_lt (blk_lt (g := gb525) (o := .cells #[.int .i64 0, .slice none 0 0] 26 (0, 0)) (zR BK525.out)) : gb525 ≠ gb537)); have n9_ := zA ((by rw [hg]; exact Nat.ne_of_gt (blk_lt (g := gb525) (o := .cells #[.int .i64 0, .slice none 0 0] 26 (0, 0)) (zR BK525.out)) : gb537 ≠ gb525)); have n10_ := zA ((by rw [hg]; exact Nat.ne_of_lt (Z101.lt (show Z101 w _ g529 t526 t527 t528 from Z101.uB HI529.out NB529_525.out)) : g529 ≠ gb537)); have n11_ := zA ((by rw [hg]; exact Nat.ne_of_gt (Z101.lt (show Z101 w _ g529 t526 t527 t528 from Z101.uB HI529.out NB529_525.out)) : gb537 ≠ g529)); clear HO533; clear HO536; clear BK525; clear HI529; clear HB; have HO533 := n0_; have HO536 := n1_; have BK525 := n2_; have HI529 := n3_; have HB := n4_; have BK537 := n5_; have GW537 := n6_; have GE537 := n7_; have NB525_537 := n8_; have NB537_525 := n9_; have NB529_537 := n10_; have NB537_529 := n11_; clear n0_ n1_ n2_ n3_ n4_ n5_ n6_ n7_ n8_ n9_ n10_ n11_; clear hb hbox hg; have hnb9 := NB537_525.out; have hnc9 := NB525_537.out; have hnb10 := NB537_529.out; have hnc10 := NB529_537.out; have hcz11_0 : w8.cell? ⟨gb537, 0, none⟩ = some (.int .i64 0) := (blk_cell BK537.out 0).trans rfl; have hcz11_1 : w8.cell? ⟨gb537, 1, none⟩ = some (.slice none 0 0) := (blk_cell BK537.out 1).trans rfl; have hfz11_0 := blk_frozen BK537.out 0; have hfz11_1 := blk_frozen BK537.out 1; obtain ⟨Ao12, co12, eo12⟩ := Kd.R_slice HO533.out; subst eo12) | ((with_reducible refine gate_callee (f := 79) rfl ?_); refine zO (some 15) Tryd.func79 #[.pointer (some ⟨g529, 0, none⟩), .int .i64 20] ?_; (with_reducible refine (spec_l01Next.calls g529 t526 t527 t528 20 t538 t539 t540 w _ ?side1 ?side2 A3.out).mono ?_); (case side1 => exact Z101.uC HI529.out NB529_525.out NB529_537.out); (case side2 => exact zW HB.out (Z101.ge HI529.out) GE525.out GE537.out); rintro e w13 ⟨rfl, hi, hb, hk⟩; refine ⟨_, rfl, ?_⟩; have n0_ := zA (KeepBut.blk hk (g' := gb525) (o := .cells #[.int .i64 0, .slice none 0 0] 26 (0, 0)) (by (with_reducible repeat (first | refine zJ ?_ _ | refine zK ?_ | refine zI ?_ _)); refine blk_far ?_ NB525_537.out _; (with_reducible repeat (first | refine zJ ?_ _ | refine zK ?_ | refine zI ?_ _)); refine blk_far ?_ NB525_537.out _; (with_reducible repeat (first | refine zJ ?_ _ | refine zK ?_ | refine zI ?_ _)); exact BK525.out) NB525_529.out (by simp)); have n1_ := zA (Kd.R_mono (Kd.R_keep (Z101.apart (show Z101 w _ g529 t526 t527 t528 from Z101.uC HI529.out NB529_525.out NB529_537.out) (by (with_reducible repeat (first | apply zF | apply zG | apply zH)); exact (Kd.R_mono (Kd.R_far (p := ⟨gb537, 1, none⟩) (Kd.R_far (p := ⟨gb537, 0, none⟩) (Kd.R_types HO533.out BK537.out (by decide)) (fun _ hk => hk.2) (.int .i64 t530)) (fun _ hk => hk.2) (.slice Ao12 t531.length co12)) (fun _ h_ => h_.1))) (by decide)) hk (fun _ h => h.2)) (fun _ h => h.1)); have n2_ := zA (Kd.R_mono (Kd.R_keep (Z101.apart (show Z101 w _ g529 t526 t527 t528 from Z101.uC HI529.out NB529_525.out NB529_537.out) (by (with_reducible repeat (first | apply zF | apply zG | apply zH)); exact (Kd.R_mono (Kd.R_far (p := ⟨gb537, 1, none⟩) (Kd.R_far (p := ⟨gb537, 0, none⟩) (Kd.R_types HO536.out BK537.out (by decide)) (fun _ hk => hk.2) (.int .i64 t530)) (fun _ hk => hk.2) (.slice Ao12 t531.length co12)) (fun _ h_ => h_.1))) (by decide)) hk (fun _ h => h.2)) (fun _ h => h.1)); have n3_ := zA (KeepBut.blk hk (g' := gb537) (o := .cells #[.int .i64 t530, .slice Ao12 t531.length co12] 26 (0, 0)) (by (with_reducible repeat (first | refine zJ ?_ _ | refine zK ?_ | refine zI ?_ _)); refine blk_put (cs := #[.int .i64 t530, .slice none 0 0]) ?_ 1 _ rfl; (with_reducible repeat (first | refine zJ ?_ _ | refine zK ?_ | refine zI ?_ _)); refine blk_put (cs := #[.int .i64 0, .slice none 0 0]) ?_ 0 _ rfl; (with_reducible repeat (first | refine zJ ?_ _ | refine zK ?_ | refine zI ?_ _)); exact BK537.out) NB537_529.out (by simp)); have n4_ := zA (hb); have n5_ := zA (hi); clear BK525; clear HO533; clear HO536; clear BK537; clear HB; clear HI529; have BK525 := n0_; have HO533 := n1_; have HO536 := n2_; have BK537 := n3_; have HB := n4_; have HI529 := n5_; clear n0_ n1_ n2_ n3_ n4_ n5_; (try clear hb); (try clear hk); (try clear hi)))
  have n0_ := zA (zH HO533.out)
  have n1_ := zA (zH HO536.out)
  have n2_ := zA (zK BK525.out)
  have n3_ := zA (zK BK537.out)
  have n4_ := zA (Z101.drew HI529.out)
  have n5_ := zA (zD HB.out)
  clear HO533
  clear HO536
  clear BK525
  clear BK537
  clear HI529
  clear HB
  have HO533 := n0_
  have HO536 := n1_
  have BK525 := n2_
  have BK537 := n3_
  have HI529 := n4_
  have HB := n5_
  clear n0_ n1_ n2_ n3_ n4_ n5_
  refine start_ (n := 8) (S := fun w' => w'.cell? ⟨gb537, 0, none⟩ = some (.int .i64 t530) ∧ w'.cell? ⟨gb537, 1, none⟩ = some (.slice Ao12 t531.length co12)) (ds := []) #[false, false, false, false, false, false, false, false] (by kernel_rfl) rfl rfl ⟨(blk_cell BK537.out 0).trans rfl, (blk_cell BK537.out 1).trans rfl⟩ (fun hHeld => ?_); refine with_tabW spec_DrawProjectionOf.tab3 spec_DrawProjectionOf.bits3 (fun HT_ HW_ => ?_)
  generalize w13.drew = w14 at HO533 HO536 BK525 BK537 HI529 HB hHeld ⊢
  refine pure_ (i := 1) (N := some 18) (v := ?_) (a' := ?_) #[false, true, false, false, false, false, false, false] rfl rfl (any_of HT_.out (by kernel_rfl)) (fun _ _ _ h => h) (Or.inl ⟨by rfl, ?_⟩) ?_ ?_
  rotate_left
  ·intro w'
   go_simp
   with_reducible rfl
  rotate_left
  ·simp only [Act.put, zL, zM, zN, i64_w, i32_w]
   rfl
  refine pure_ (i := 2) (N := some 19) (v := ?_) (a' := ?_) #[false, true, true, false, false, false, false, false] rfl rfl (any_of HT_.out (by kernel_rfl)) (fun _ _ _ h => h) (Or.inl ⟨by rfl, ?_⟩) ?_ ?_
  rotate_left
  ·intro w'
   go_simp
   with_reducible rfl
  rotate_left
  ·simp only [Act.put, zL, zM, zN, i64_w, i32_w]
   rfl
  refine take_ (i := 0) (N := some 17) (v := ?_) (a' := ?_) #[true, true, true, false, false, false, false, false] rfl rfl (take_ofW HT_.out HW_.out (by kernel_rfl)) (fun _ _ _ h => h) (Or.inl ⟨by rfl, ?_⟩) hHeld ?_ ?_
  rotate_left
  ·rintro w' ⟨s0, s1⟩
   go_simp
   with_reducible rfl
  rotate_left
  ·simp only [Act.put, zL, zM, zN, i64_w, i32_w]
   rfl
  refine one_ (i := 3) (N := some 20) #[true, true, true, true, false, false, false, false] rfl rfl (one_of HT_.out (by kernel_rfl)) (by decide) (fun K hK => ?_)
  refine Kd.R_lit_step (Kd.int .i64) _ 2 ?hg (N := 20) ?hd (xs := ([(-1), 256, 1099511627776] : List Int)) (inner := [.int .i64 (-1), .int .i64 256, .int .i64 1099511627776]) (ok := fun _ => True) (okp := fun _ => True) ?hr ?hp (fun _ hk => hk) trivial (Below.refl _ _) (Nat.le_refl _) (by simp) ?_; (case hd => rfl); (case hg => rfl); (case hr => first | (go_simp; done) | (go_simp; rfl)); (case hp => exact (Reps.one (show Kd.M (Kd.int .i64) _ _ _ (-1) [.int .i64 (-1)] from rfl) (Reps.one (show Kd.M (Kd.int .i64) _ _ _ 256 [.int .i64 256] from rfl) (Reps.one (show Kd.M (Kd.int .i64) _ _ _ 1099511627776 [.int .i64 1099511627776] from rfl) (Reps.none _ _)))))
  intro v542 w15 ho16 hb hg_ hnew_
  clear hg_ hnew_
  (first | rw [← Ny541.out] at ho16 | (simp only [Int.reduceToNat] at ho16; rw [← Ny541.out] at ho16))
  have n0_ := zA (Kd.R_elder' (zP HO533.out) (Kd.R_base ho16) hb)
  have n1_ := zA (Kd.R_elder' (zP HO536.out) (Kd.R_base ho16) hb)
  have n2_ := zA (Kd.R_lower (Kd.R_new' (Kd.R_new' ho16 (Kd.R_lt (zP HO533.out))) (Kd.R_lt (zP HO536.out))) (below_size (zW HB.out (Z101.ge HI529.out) GE525.out GE537.out)))
  have n3_ := zA (blk_below (g := gb525) (o := .cells #[.int .i64 0, .slice none 0 0] 26 (0, 0)) (zR BK525.out) hb)
  have n4_ := zA (Z101.below (Z101.uC HI529.out NB529_525.out NB529_537.out) hb)
  have n5_ := zA (blk_below (g := gb537) (o := .cells #[.int .i64 t530, .slice Ao12 t531.length co12] 26 (0, 0)) (zR BK537.out) hb)
  have n6_ := zA (below_step (zW HB.out (Z101.ge HI529.out) GE525.out GE537.out) hb)
  clear HO533
  clear HO536
  clear BK525
  clear HI529
  clear BK537
  clear HB
  have HO533 := n0_
  have HO536 := n1_
  have HO543 := n2_
  have BK525 := n3_
  have HI529 := n4_
  have BK537 := n5_
  have HB := n6_
  clear n0_ n1_ n2_ n3_ n4_ n5_ n6_
  clear hb ho16
  obtain ⟨Ao17, co17, eo17⟩ := Kd.R_slice HO543.out
  (first | subst eo17 | (injection eo17 with f1_ f2_ f3_; have f4_ := f1_.symm; have f5_ := f3_.symm; clear f1_ f2_ f3_; subst f4_; subst f5_))
  refine hK.out _ _ ⟨(blk_cell BK537.out 0).trans rfl, (blk_cell BK537.out 1).trans rfl⟩ (fun hHeld => ?_)
  clear hK K
  refine norm_ (a' := ?_) ?_ ?_
  rotate_left
  ·show Act.put _ (some 20) _ = _
   simp only [Act.put, zL, zM, zN, i64_w, i32_w]
   rfl
  refine one_ (i := 4) (N := some 21) #[true, true, true, true, true, false, false, false] rfl rfl (one_of HT_.out (by kernel_rfl)) (by decide) (fun K hK => ?_)
  refine goes_ Tryd.func81 (by kernel_rfl) rfl #[.pointer (some ⟨g529, 0, none⟩), .slice Ao17 y541.length co17] (by rfl) rfl rfl (by (try simp only [List.map_toArray, List.map_cons, List.map_nil]); first | done | rfl | (simp only [List.length_drop, List.length_take]; rfl)) ?_
  with_reducible refine (spec_l01Pick.calls g529 t526 t539 t540 _ _ y541 t544 t545 t546 w _ ?side1 ?side2 ?side3 ?side4 ?side5 A5.out).mono ?_
  (case side1 => exact Z101.uC HI529.out NB529_525.out NB529_537.out)
  (case side2 => exact zW HB.out (Z101.ge HI529.out) GE525.out GE537.out)
  (case side3 => exact zS (Kd.R_reads' HO543.out).2.2)
  (case side4 => exact (Kd.R_reads' HO543.out).2.1)
  (case side5 => exact far_slice (Z101.own_ne HI529.out HO543.out (by decide)))
  rintro e w18 ⟨rfl, hi, hb, hk⟩
  refine ⟨_, rfl, ?_⟩
  have n0_ := zA (KeepBut.blk hk (g' := gb525) (o := .cells #[.int .i64 0, .slice none 0 0] 26 (0, 0)) (zR BK525.out) NB525_529.out (by simp))
  have n1_ := zA (Kd.R_mono (Kd.R_keep (Z101.apart (show Z101 w _ g529 t526 t539 t540 from Z101.uC HI529.out NB529_525.out NB529_537.out) (zP HO533.out) (by decide)) hk (fun _ h => h.2)) (fun _ h => h.1))
  have n2_ := zA (Kd.R_mono (Kd.R_keep (Z101.apart (show Z101 w _ g529 t526 t539 t540 from Z101.uC HI529.out NB529_525.out NB529_537.out) (zP HO536.out) (by decide)) hk (fun _ h => h.2)) (fun _ h => h.1))
  have n3_ := zA (KeepBut.blk hk (g' := gb537) (o := .cells #[.int .i64 t530, .slice Ao12 t531.length co12] 26 (0, 0)) (zR BK537.out) NB537_529.out (by simp))
  have n4_ := zA (Kd.R_mono (Kd.R_keep (Z101.apart (show Z101 w _ g529 t526 t539 t540 from Z101.uC HI529.out NB529_525.out NB529_537.out) (zP HO543.out) (by decide)) hk (fun _ h => h.2)) (fun _ h => h.1))
  have n5_ := zA (hb)
  have n6_ := zA (hi)
  clear BK525
  clear HO533
  clear HO536
  clear BK537
  clear HO543
  clear HB
  clear HI529
  have BK525 := n0_
  have HO533 := n1_
  have HO536 := n2_
  have BK537 := n3_
  have HO543 := n4_
  have HB := n5_
  have HI529 := n6_
  clear n0_ n1_ n2_ n3_ n4_ n5_ n6_
  (try clear hb)
  (try clear hb2)
  (try clear hk)
  (try clear hi)
  (try clear hgw)
  refine hK.out _ _ ⟨(blk_cell BK537.out 0).trans rfl, (blk_cell BK537.out 1).trans rfl⟩ (fun hHeld => ?_)
  clear hK K
  refine norm_ (a' := ?_) ?_ ?_
  rotate_left
  ·show Act.put _ (some 21) _ = _
   simp only [Act.put, zL, zM, zN, i64_w, i32_w]
   rfl
  refine one_ (i := 5) (N := none) #[true, true, true, true, true, true, false, false] rfl rfl (one_of HT_.out (by kernel_rfl)) (by decide) (fun K hK => ?_)
  have hs19 : w18.cell? ⟨gb525, 0, none⟩ = some (.int .i64 0) := (blk_cell BK525.out 0).trans rfl
  have hfs19 := blk_frozen BK525.out 0
  have hns19_1 := NB537_525.out
  have hms19_1 := NB525_537.out
  have hs20 : w18.cell? ⟨gb525, 1, none⟩ = some (.slice none 0 0) := (blk_cell BK525.out 1).trans rfl
  have hfs20 := blk_frozen BK525.out 1
  have hns20_1 := NB537_525.out
  have hms20_1 := NB525_537.out
  refine skip_ (w1 := ?_) (by rfl) rfl ?_ ?_
  rotate_left
  ·go_simp
   rfl
  refine hK.out _ _ ⟨((cell_far (p := ⟨gb525, _, none⟩) NB537_525.out _).trans (((cell_far (p := ⟨gb525, _, none⟩) NB537_525.out _).trans (hHeld.1)))), ((cell_far (p := ⟨gb525, _, none⟩) NB537_525.out _).trans (((cell_far (p := ⟨gb525, _, none⟩) NB537_525.out _).trans (hHeld.2))))⟩ (fun hHeld => ?_)
  clear hK K
  refine pure_ (i := 6) (N := some 3) (v := ?_) (a' := ?_) #[true, true, true, true, true, true, true, false] rfl rfl (any_of HT_.out (by kernel_rfl)) (fun _ _ _ h => h) (Or.inl ⟨by rfl, ?_⟩) ?_ ?_
  rotate_left
  ·intro w'
   go_simp
   with_reducible rfl
  rotate_left
  ·simp only [Act.put, zL, zM, zN, i64_w, i32_w]
   rfl
  refine pure_ (i := 7) (N := some 4) (v := ?_) (a' := ?_) #[true, true, true, true, true, true, true, true] rfl rfl (any_of HT_.out (by kernel_rfl)) (fun _ _ _ h => h) (Or.inl ⟨by rfl, ?_⟩) ?_ ?_
  rotate_left
  ·intro w'
   go_simp
   with_reducible rfl
  rotate_left
  ·simp only [Act.put, zL, zM, zN, i64_w, i32_w]
   rfl
  refine done_ (done_of HT_.out (by kernel_rfl)) ?_
  try go_wp2
  refine bodyPost_ret (results_ctt rfl _ _ gb525 26 #[.int .i64 t530, .slice Ao12 t531.length co12] (0, 0) _ rfl (by (with_reducible repeat (first | refine zJ ?_ _ | refine zK ?_ | refine zI ?_ _)); refine blk_put (cs := #[.int .i64 t530, .slice none 0 0]) ?_ 1 _ rfl; (with_reducible repeat (first | refine zJ ?_ _ | refine zK ?_ | refine zI ?_ _)); refine blk_put (cs := #[.int .i64 0, .slice none 0 0]) ?_ 0 _ rfl; (with_reducible repeat (first | refine zJ ?_ _ | refine zK ?_ | refine zI ?_ _)); exact BK525.out) Tryd.underlying26 rfl (by kernel_rfl)) rfl ?_
  exact ⟨_, _, by first | rfl | (simp [errW_none, errW_some] <;> rfl) | (simp [*, errW_none, errW_some] <;> rfl), by (with_reducible repeat (first | apply zF | apply zG | apply zH)); exact Kd.R_mono (Kd.R_far (p := ⟨gb525, 1, none⟩) (Kd.R_far (p := ⟨gb525, 0, none⟩) (Kd.R_types HO533.out BK525.out (by decide)) (fun _ hk => hk.2) (.int .i64 t530)) (fun _ hk => hk.2) (.slice Ao12 t531.length co12)) (fun _ hk => hk.1.1), by (with_reducible repeat (first | apply zF | apply zG | apply zH)); exact Kd.R_mono (Kd.R_far (p := ⟨gb525, 1, none⟩) (Kd.R_far (p := ⟨gb525, 0, none⟩) (Kd.R_types HO536.out BK525.out (by decide)) (fun _ hk => hk.2) (.int .i64 t530)) (fun _ hk => hk.2) (.slice Ao12 t531.length co12)) (fun _ hk => hk.1.1), by repeat (first | (with_reducible first | exact HB.out | apply zB | apply zC | apply zD | refine zE ?_ (Z101.ge HI529.out) | refine zE ?_ GE525.out | refine zE ?_ GE537.out) | exact HB.out)⟩
 rw [if_neg c4] at H
 have c4b0 : (t538 == 0) = false := beq_eq_false_iff_ne.mpr c4
 have c4b1 : (t538 != 0) = true := bne_iff_ne.mpr c4
 replace H := Option.bind_eq_some_iff.mp H
 obtain ⟨t547, A210, H⟩ := H
 replace H : (if t547 = true then ((spec_l01One.f t530).bind fun t548 => ((spec_l01Next.f t526 t539 t540 t548).bind fun bt549 => (some (t530, t531, t534, bt549.1)))) else ((spec_l01Next.f t526 t539 t540 256).bind fun bt552 => (some (t530, t531, t534, bt552.1)))) = some (r1, r2, r3, r4) := H
 have A21 := zA A210
 clear A210
 by_cases c22 : t547 = true
 ·subst c22
  have H1 : ((spec_l01One.f t530).bind fun t548 => ((spec_l01Next.f t526 t539 t540 t548).bind fun bt549 => (some (t530, t531, t534, bt549.1)))) = some (r1, r2, r3, r4) := by rw [if_pos rfl] at H; exact H
  clear H
  have H := H1
  clear H1
  replace H := Option.bind_eq_some_iff.mp H
  obtain ⟨t548, A230, H⟩ := H
  replace H : ((spec_l01Next.f t526 t539 t540 t548).bind fun bt549 => (some (t530, t531, t534, bt549.1))) = some (r1, r2, r3, r4) := H
  have A23 := zA A230
  clear A230
  replace H := Option.bind_eq_some_iff.mp H
  obtain ⟨⟨t549, t550, t551⟩, A240, H⟩ := H
  replace H : (some (t530, t531, t534, t549)) = some (r1, r2, r3, r4) := H
  have A24 := zA A240
  clear A240
  simp only [Option.some.injEq, Prod.mk.injEq] at H
  obtain ⟨rfl, rfl, rfl, rfl⟩ := H
  go_enter Tryd.func60, Tryd.ntmps60
  try go_wp2_with (first | ((with_reducible refine gate_dst (N := 2) rfl ?_); refine box_event ?hg (N := 2) ?hd (cs := #[.int .i64 0, .slice none 0 0]) (t := 26) ?hr ?_; (case hd => rfl); (case hg => rfl); (case hr => first | (go_simp; done) | (go_simp; rfl)); intro gb525 hg w25 hbox hb; have n0_ := zA (below_step (zQ HB.out) hb); have n1_ := zA (hbox); have n2_ := zA ((by rw [hg]; exact (below_size (zQ HB.out)) : w.heap.size ≤ gb525)); have n3_ := zA ((by rw [hg]; exact (below_size (zQ HB.out)) : w.heap.size ≤ gb525)); clear HB; have HB := n0_; have BK525 := n1_; have GW525 := n2_; have GE525 := n3_; clear n0_ n1_ n2_ n3_; clear hb hbox hg) | ((with_reducible refine gate_callee (f := 48) rfl ?_); refine zO (some 10) Tryd.func48 #[.slice A0 l0.length c0, .int .i64 8, .int .i64 24] ?_; (with_reducible refine (spec_l03Pair.calls k _ _ l0 8 24 t526 t527 t528 t530 t531 t534 w _ ?side1 ?side2 ?side3 A2.out).mono ?_); (case side1 => exact zT HB.out GE525.out); (case side2 => exact HR0.out); (case side3 => exact HC0.out); rintro e w26 ⟨v532, v535, g529, rfl, ho0, ho1, hi, hb, hb2, hgw⟩; refine ⟨_, rfl, ?_⟩; have n0_ := zA (Kd.R_lower ho0 (below_size (zT HB.out GE525.out))); have n1_ := zA (Kd.R_lower ho1 (below_size (zT HB.out GE525.out))); have n2_ := zA (blk_below (g := gb525) (o := .cells #[.int .i64 0, .slice none 0 0] 26 (0, 0)) (zR BK525.out) hb2); have n3_ := zA (hb); have n4_ := zA (hi); have n5_ := zA (Z101.ne_blk hi (blk_below (g := gb525) (o := .cells #[.int .i64 0, .slice none 0 0] 26 (0, 0)) (zR BK525.out) hb2) (by decide)); have n6_ := zA (Ne.symm (Z101.ne_blk hi (blk_below (g := gb525) (o := .cells #[.int .i64 0, .slice none 0 0] 26 (0, 0)) (zR BK525.out) hb2) (by decide))); clear BK525; clear HB; have HO533 := n0_; have HO536 := n1_; have BK525 := n2_; have HB := n3_; have HI529 := n4_; have NB529_525 := n5_; have NB525_529 := n6_; clear n0_ n1_ n2_ n3_ n4_ n5_ n6_; (try clear hb); (try clear hb2); (try clear hi); (try clear hgw); (try clear ho0); (try clear ho1)) | ((with_reducible refine gate_dst (N := 6) rfl ?_); refine box_event ?hg (N := 6) ?hd (cs := #[.int .i64 0, .slice none 0 0]) (t := 26) ?hr ?_; (case hd => rfl); (case hg => rfl); (case hr => first | (go_simp; done) | (go_simp; rfl)); intro gb537 hg w27 hbox hb; have n0_ := zA (Kd.R_below (zP HO533.out) hb); have n1_ := zA (Kd.R_below (zP HO536.out) hb); have n2_ := zA (blk_below (g := gb525) (o := .cells #[.int .i64 0, .slice none 0 0] 26 (0, 0)) (zR BK525.out) hb); have n3_ := zA (Z101.below (Z101.uB HI529.out NB529_525.out) hb); have n4_ := zA (below_step (zV HB.out (Z101.ge HI529.out) GE525.out) hb); have n5_ := zA (hbox); have n6_ := zA ((by rw [hg]; exact (below_size (zV HB.out (Z101.ge HI529.out) GE525.out)) : w.heap.size ≤ gb537)); have n7_ := zA ((by rw [hg]; exact (below_size (zV HB.out (Z101.ge HI529.out) GE525.out)) : w.heap.size ≤ gb537)); have n8_ := zA ((by rw [hg]; exact Nat.ne_of_lt (blk_lt (g := gb525) (o := .cells #[.int .i64 0, .slice none 0 0] 26 (0, 0)) (zR BK525.out)) : gb525 ≠ gb537)); have n9_ := zA ((by rw [hg]; exact Nat.ne_of_gt (blk_lt (g := gb525) (o := .cells #[.int .i64 0, .slice none 0 0] 26 (0, 0)) (zR BK525.out)) : gb537 ≠ gb525)); have n10_ := zA ((by rw [hg]; exact Nat.ne_of_lt (Z101.lt (show Z101 w _ g529 t526 t527 t528 from Z101.uB HI529.out NB529_525.out)) : g529 ≠ gb537)); have n11_ := zA ((by rw [hg]; exact Nat.ne_of_gt (Z101.lt (show Z101 w _ g529 t526 t527 t528 from Z101.uB HI529.out NB529_525.out)) : gb537 ≠ g529)); clear HO533; clear HO536; clear BK525; clear HI529; clear HB; have HO533 := n0_; have HO536 := n1_; have BK525 := n2_; have HI529 := n3_; have HB := n4_; have BK537 := n5_; have GW537 := n6_; have GE537 := n7_; have NB525_537 := n8_; have NB537_525 := n9_; have NB529_537 := n10_; have NB537_529 := n11_; clear n0_ n1_ n2_ n3_ n4_ n5_ n6_ n7_ n8_ n9_ n10_ n11_; clear hb hbox hg; have hnb28 := NB537_525.out; have hnc28 := NB525_537.out; have hnb29 := NB537_529.out; have hnc29 := NB529_537.out; have hcz30_0 : w27.cell? ⟨gb537, 0, none⟩ = some (.int .i64 0) := (blk_cell BK537.out 0).trans rfl; have hcz30_1 : w27.cell? ⟨gb537, 1, none⟩ = some (.slice none 0 0) := (blk_cell BK537.out 1).trans rfl; have hfz30_0 := blk_frozen BK537.out 0; have hfz30_1 := blk_frozen BK537.out 1; obtain ⟨Ao31, co31, eo31⟩ := Kd.R_slice HO533.out; subst eo31) | ((with_reducible refine gate_callee (f := 79) rfl ?_); refine zO (some 15) Tryd.func79 #[.pointer (some ⟨g529, 0, none⟩), .int .i64 20] ?_; (with_reducible refine (spec_l01Next.calls g529 t526 t527 t528 20 t538 t539 t540 w _ ?side1 ?side2 A3.out).mono ?_); (case side1 => exact Z101.uC HI529.out NB529_525.out NB529_537.out); (case side2 => exact zW HB.out (Z101.ge HI529.out) GE525.out GE537.out); rintro e w32 ⟨rfl, hi, hb, hk⟩; refine ⟨_, rfl, ?_⟩; have n0_ := zA (KeepBut.blk hk (g' := gb525) (o := .cells #[.int .i64 0, .slice none 0 0] 26 (0, 0)) (by (with_reducible repeat (first | refine zJ ?_ _ | refine zK ?_ | refine zI ?_ _)); refine blk_far ?_ NB525_537.out _; (with_reducible repeat (first | refine zJ ?_ _ | refine zK ?_ | refine zI ?_ _)); refine blk_far ?_ NB525_537.out _; (with_reducible repeat (first | refine zJ ?_ _ | refine zK ?_ | refine zI ?_ _)); exact BK525.out) NB525_529.out (by simp)); have n1_ := zA (Kd.R_mono (Kd.R_keep (Z101.apart (show Z101 w _ g529 t526 t527 t528 from Z101.uC HI529.out NB529_525.out NB529_537.out) (by (with_reducible repeat (first | apply zF | apply zG | apply zH)); exact (Kd.R_mono (Kd.R_far (p := ⟨gb537, 1, none⟩) (Kd.R_far (p := ⟨gb537, 0, none⟩) (Kd.R_types HO533.out BK537.out (by decide)) (fun _ hk => hk.2) (.int .i64 t530)) (fun _ hk => hk.2) (.slice Ao31 t531.length co31)) (fun _ h_ => h_.1))) (by decide)) hk (fun _ h => h.2)) (fun _ h => h.1)); have n2_ := zA (Kd.R_mono (Kd.R_keep (Z101.apart (show Z101 w _ g529 t526 t527 t528 from Z101.uC HI529.out NB529_525.out NB529_537.out) (by (with_reducible repeat (first | apply zF | apply zG | apply zH)); exact (Kd.R_mono (Kd.R_far (p := ⟨gb537, 1, none⟩) (Kd.R_far (p := ⟨gb537, 0, none⟩) (Kd.R_types HO536.out BK537.out (by decide)) (fun _ hk => hk.2) (.int .i64 t530)) (fun _ hk => hk.2) (.slice Ao31 t531.length co31)) (fun _ h_ => h_.1))) (by decide)) hk (fun _ h => h.2)) (fun _ h => h.1)); have n3_ := zA (KeepBut.blk hk (g' := gb537) (o := .cells #[.int .i64 t530, .slice Ao31 t531.length co31] 26 (0, 0)) (by (with_reducible repeat (first | refine zJ ?_ _ | refine zK ?_ | refine zI ?_ _)); refine blk_put (cs := #[.int .i64 t530, .slice none 0 0]) ?_ 1 _ rfl; (with_reducible repeat (first | refine zJ ?_ _ | refine zK ?_ | refine zI ?_ _)); refine blk_put (cs := #[.int .i64 0, .slice none 0 0]) ?_ 0 _ rfl; (with_reducible repeat (first | refine zJ ?_ _ | refine zK ?_ | refine zI ?_ _)); exact BK537.out) NB537_529.out (by simp)); have n4_ := zA (hb); have n5_ := zA (hi); clear BK525; clear HO533; clear HO536; clear BK537; clear HB; clear HI529; have BK525 := n0_; have HO533 := n1_; have HO536 := n2_; have BK537 := n3_; have HB := n4_; have HI529 := n5_; clear n0_ n1_ n2_ n3_ n4_ n5_; (try clear hb); (try clear hk); (try clear hi); have hcz33_0 : w32.cell? ⟨gb537, 0, none⟩ = some (.int .i64 t530) := (blk_cell BK537.out 0).trans rfl; have hcz33_1 : w32.cell? ⟨gb537, 1, none⟩ = some (.slice Ao31 t531.length co31) := (blk_cell BK537.out 1).trans rfl; have hfz33_0 := blk_frozen BK537.out 0; have hfz33_1 := blk_frozen BK537.out 1) | ((with_reducible refine gate_callee (f := 106) rfl ?_); refine zO (some 23) Tryd.func106 #[.agg #[.int .i64 t530, .slice Ao31 t531.length co31]] ?_; (with_reducible refine (spec_l02Is.calls k t530 _ _ t531 true _ ?side1 ?side2 A21.out).mono ?_); (case side1 => exact zS (Kd.R_reads' HO533.out).2.2); (case side2 => exact (Kd.R_reads' HO533.out).2.1); rintro e w34 ⟨rfl, hb⟩; refine ⟨_, rfl, ?_⟩; have n0_ := zA (Kd.R_below (zP HO533.out) hb); have n1_ := zA (Kd.R_below (zP HO536.out) hb); have n2_ := zA (blk_below (g := gb525) (o := .cells #[.int .i64 0, .slice none 0 0] 26 (0, 0)) (zR BK525.out) hb); have n3_ := zA (Z101.below (Z101.uC HI529.out NB529_525.out NB529_537.out) hb); have n4_ := zA (blk_below (g := gb537) (o := .cells #[.int .i64 t530, .slice Ao31 t531.length co31] 26 (0, 0)) (zR BK537.out) hb); have n5_ := zA (below_step (zW HB.out (Z101.ge HI529.out) GE525.out GE537.out) hb); clear HO533; clear HO536; clear BK525; clear HI529; clear BK537; clear HB; have HO533 := n0_; have HO536 := n1_; have BK525 := n2_; have HI529 := n3_; have BK537 := n4_; have HB := n5_; clear n0_ n1_ n2_ n3_ n4_ n5_; (try clear hb)))
  have n0_ := zA (zH HO533.out)
  have n1_ := zA (zH HO536.out)
  have n2_ := zA (zK BK525.out)
  have n3_ := zA (zK BK537.out)
  have n4_ := zA (Z101.drew HI529.out)
  have n5_ := zA (zD HB.out)
  clear HO533
  clear HO536
  clear BK525
  clear BK537
  clear HI529
  clear HB
  have HO533 := n0_
  have HO536 := n1_
  have BK525 := n2_
  have BK537 := n3_
  have HI529 := n4_
  have HB := n5_
  clear n0_ n1_ n2_ n3_ n4_ n5_
  refine start_ (n := 10) (S := fun w' => w'.cell? ⟨gb537, 0, none⟩ = some (.int .i64 t530) ∧ w'.cell? ⟨gb537, 1, none⟩ = some (.slice Ao31 t531.length co31)) (ds := []) #[false, false, false, false, false, false, false, false, false, false] (by kernel_rfl) rfl rfl ⟨(blk_cell BK537.out 0).trans rfl, (blk_cell BK537.out 1).trans rfl⟩ (fun hHeld => ?_); refine with_tabW spec_DrawProjectionOf.tab5 spec_DrawProjectionOf.bits5 (fun HT_ HW_ => ?_)
  generalize w34.drew = w35 at HO533 HO536 BK525 BK537 HI529 HB hHeld ⊢
  refine pure_ (i := 1) (N := some 25) (v := ?_) (a' := ?_) #[false, true, false, false, false, false, false, false, false, false] rfl rfl (any_of HT_.out (by kernel_rfl)) (fun _ _ _ h => h) (Or.inl ⟨by rfl, ?_⟩) ?_ ?_
  rotate_left
  ·intro w'
   go_simp
   with_reducible rfl
  rotate_left
  ·simp only [Act.put, zL, zM, zN, i64_w, i32_w]
   rfl
  refine pure_ (i := 2) (N := some 26) (v := ?_) (a' := ?_) #[false, true, true, false, false, false, false, false, false, false] rfl rfl (any_of HT_.out (by kernel_rfl)) (fun _ _ _ h => h) (Or.inl ⟨by rfl, ?_⟩) ?_ ?_
  rotate_left
  ·intro w'
   go_simp
   with_reducible rfl
  rotate_left
  ·simp only [Act.put, zL, zM, zN, i64_w, i32_w]
   rfl
  refine pure_ (i := 3) (N := some 27) (v := ?_) (a' := ?_) #[false, true, true, true, false, false, false, false, false, false] rfl rfl (any_of HT_.out (by kernel_rfl)) (fun _ _ _ h => h) (Or.inl ⟨by rfl, ?_⟩) ?_ ?_
  rotate_left
  ·intro w'
   go_simp
   with_reducible rfl
  rotate_left
  ·simp only [Act.put, zL, zM, zN, i64_w, i32_w]
   rfl
  refine take_ (i := 0) (N := some 24) (v := ?_) (a' := ?_) #[true, true, true, true, false, false, false, false, false, false] rfl rfl (take_ofW HT_.out HW_.out (by kernel_rfl)) (fun _ _ _ h => h) (Or.inl ⟨by rfl, ?_⟩) hHeld ?_ ?_
  rotate_left
  ·rintro w' ⟨s0, s1⟩
   go_simp
   with_reducible rfl
  rotate_left
  ·simp only [Act.put, zL, zM, zN, i64_w, i32_w]
   rfl
  refine take_ (i := 4) (N := some 28) (v := ?_) (a' := ?_) #[true, true, true, true, true, false, false, false, false, false] rfl rfl (take_ofW HT_.out HW_.out (by kernel_rfl)) (fun _ _ _ h => h) (Or.inl ⟨by rfl, ?_⟩) hHeld ?_ ?_
  rotate_left
  ·rintro w' ⟨s0, s1⟩
   go_simp
   with_reducible rfl
  rotate_left
  ·simp only [Act.put, zL, zM, zN, i64_w, i32_w]
   rfl
  refine one_ (i := 5) (N := some 29) #[true, true, true, true, true, true, false, false, false, false] rfl rfl (one_of HT_.out (by kernel_rfl)) (by decide) (fun K hK => ?_)
  refine goes_ Tryd.func54 (by kernel_rfl) rfl #[.int .i64 t530] (by rfl) rfl rfl (by (try simp only [List.map_toArray, List.map_cons, List.map_nil]); first | done | rfl | (simp only [List.length_drop, List.length_take]; rfl)) ?_
  with_reducible refine (spec_l01One.calls t530 t548 _ A23.out).mono ?_
  rintro e w' ⟨rfl, ⟨nd, rfl⟩⟩
  refine ⟨_, rfl, ?_⟩
  refine hK.out _ _ ⟨(blk_cell BK537.out 0).trans rfl, (blk_cell BK537.out 1).trans rfl⟩ (fun hHeld => ?_)
  clear hK K
  refine norm_ (a' := ?_) ?_ ?_
  rotate_left
  ·show Act.put _ (some 29) _ = _
   simp only [Act.put, zL, zM, zN, i64_w, i32_w]
   rfl
  refine one_ (i := 6) (N := some 30) #[true, true, true, true, true, true, true, false, false, false] rfl rfl (one_of HT_.out (by kernel_rfl)) (by decide) (fun K hK => ?_)
  refine goes_ Tryd.func79 (by kernel_rfl) rfl #[.pointer (some ⟨g529, 0, none⟩), .int .i64 t548] (by rfl) rfl rfl (by (try simp only [List.map_toArray, List.map_cons, List.map_nil]); first | done | rfl | (simp only [List.length_drop, List.length_take]; rfl)) ?_
  with_reducible refine (spec_l01Next.calls g529 t526 t539 t540 t548 t549 t550 t551 w _ ?side1 ?side2 A24.out).mono ?_
  (case side1 => exact Z101.uC HI529.out NB529_525.out NB529_537.out)
  (case side2 => exact zW HB.out (Z101.ge HI529.out) GE525.out GE537.out)
  rintro e w36 ⟨rfl, hi, hb, hk⟩
  refine ⟨_, rfl, ?_⟩
  have n0_ := zA (KeepBut.blk hk (g' := gb525) (o := .cells #[.int .i64 0, .slice none 0 0] 26 (0, 0)) (zR BK525.out) NB525_529.out (by simp))
  have n1_ := zA (Kd.R_mono (Kd.R_keep (Z101.apart (show Z101 w _ g529 t526 t539 t540 from Z101.uC HI529.out NB529_525.out NB529_537.out) (zP HO533.out) (by decide)) hk (fun _ h => h.2)) (fun _ h => h.1))
  have n2_ := zA (Kd.R_mono (Kd.R_keep (Z101.apart (show Z101 w _ g529 t526 t539 t540 from Z101.uC HI529.out NB529_525.out NB529_537.out) (zP HO536.out) (by decide)) hk (fun _ h => h.2)) (fun _ h => h.1))
  have n3_ := zA (KeepBut.blk hk (g' := gb537) (o := .cells #[.int .i64 t530, .slice Ao31 t531.length co31] 26 (0, 0)) (zR BK537.out) NB537_529.out (by simp))
  have n4_ := zA (hb)
  have n5_ := zA (hi)
  clear BK525
  clear HO533
  clear HO536
  clear BK537
  clear HB
  clear HI529
  have BK525 := n0_
  have HO533 := n1_
  have HO536 := n2_
  have BK537 := n3_
  have HB := n4_
  have HI529 := n5_
  clear n0_ n1_ n2_ n3_ n4_ n5_
  (try clear hb)
  (try clear hb2)
  (try clear hk)
  (try clear hi)
  (try clear hgw)
  refine hK.out _ _ ⟨(blk_cell BK537.out 0).trans rfl, (blk_cell BK537.out 1).trans rfl⟩ (fun hHeld => ?_)
  clear hK K
  refine norm_ (a' := ?_) ?_ ?_
  rotate_left
  ·show Act.put _ (some 30) _ = _
   simp only [Act.put, zL, zM, zN, i64_w, i32_w]
   rfl
  refine one_ (i := 7) (N := none) #[true, true, true, true, true, true, true, true, false, false] rfl rfl (one_of HT_.out (by kernel_rfl)) (by decide) (fun K hK => ?_)
  have hs37 : w36.cell? ⟨gb525, 0, none⟩ = some (.int .i64 0) := (blk_cell BK525.out 0).trans rfl
  have hfs37 := blk_frozen BK525.out 0
  have hns37_1 := NB537_525.out
  have hms37_1 := NB525_537.out
  have hs38 : w36.cell? ⟨gb525, 1, none⟩ = some (.slice none 0 0) := (blk_cell BK525.out 1).trans rfl
  have hfs38 := blk_frozen BK525.out 1
  have hns38_1 := NB537_525.out
  have hms38_1 := NB525_537.out
  refine skip_ (w1 := ?_) (by rfl) rfl ?_ ?_
  rotate_left
  ·go_simp
   rfl
  refine hK.out _ _ ⟨((cell_far (p := ⟨gb525, _, none⟩) NB537_525.out _).trans (((cell_far (p := ⟨gb525, _, none⟩) NB537_525.out _).trans (hHeld.1)))), ((cell_far (p := ⟨gb525, _, none⟩) NB537_525.out _).trans (((cell_far (p := ⟨gb525, _, none⟩) NB537_525.out _).trans (hHeld.2))))⟩ (fun hHeld => ?_)
  clear hK K
  refine pure_ (i := 8) (N := some 3) (v := ?_) (a' := ?_) #[true, true, true, true, true, true, true, true, true, false] rfl rfl (any_of HT_.out (by kernel_rfl)) (fun _ _ _ h => h) (Or.inl ⟨by rfl, ?_⟩) ?_ ?_
  rotate_left
  ·intro w'
   go_simp
   with_reducible rfl
  rotate_left
  ·simp only [Act.put, zL, zM, zN, i64_w, i32_w]
   rfl
  refine pure_ (i := 9) (N := some 4) (v := ?_) (a' := ?_) #[true, true, true, true, true, true, true, true, true, true] rfl rfl (any_of HT_.out (by kernel_rfl)) (fun _ _ _ h => h) (Or.inl ⟨by rfl, ?_⟩) ?_ ?_
  rotate_left
  ·intro w'
   go_simp
   with_reducible rfl
  rotate_left
  ·simp only [Act.put, zL, zM, zN, i64_w, i32_w]
   rfl
  refine done_ (done_of HT_.out (by kernel_rfl)) ?_
  try go_wp2
  refine bodyPost_ret (results_ctt rfl _ _ gb525 26 #[.int .i64 t530, .slice Ao31 t531.length co31] (0, 0) _ rfl (by (with_reducible repeat (first | refine zJ ?_ _ | refine zK ?_ | refine zI ?_ _)); refine blk_put (cs := #[.int .i64 t530, .slice none 0 0]) ?_ 1 _ rfl; (with_reducible repeat (first | refine zJ ?_ _ | refine zK ?_ | refine zI ?_ _)); refine blk_put (cs := #[.int .i64 0, .slice none 0 0]) ?_ 0 _ rfl; (with_reducible repeat (first | refine zJ ?_ _ | refine zK ?_ | refine zI ?_ _)); exact BK525.out) Tryd.underlying26 rfl (by kernel_rfl)) rfl ?_
  exact ⟨_, _, by first | rfl | (simp [errW_none, errW_some] <;> rfl) | (simp [*, errW_none, errW_some] <;> rfl), by (with_reducible repeat (first | apply zF | apply zG | apply zH)); exact Kd.R_mono (Kd.R_far (p := ⟨gb525, 1, none⟩) (Kd.R_far (p := ⟨gb525, 0, none⟩) (Kd.R_types HO533.out BK525.out (by decide)) (fun _ hk => hk.2) (.int .i64 t530)) (fun _ hk => hk.2) (.slice Ao31 t531.length co31)) (fun _ hk => hk.1), by (with_reducible repeat (first | apply zF | apply zG | apply zH)); exact Kd.R_mono (Kd.R_far (p := ⟨gb525, 1, none⟩) (Kd.R_far (p := ⟨gb525, 0, none⟩) (Kd.R_types HO536.out BK525.out (by decide)) (fun _ hk => hk.2) (.int .i64 t530)) (fun _ hk => hk.2) (.slice Ao31 t531.length co31)) (fun _ hk => hk.1), by repeat (first | (with_reducible first | exact HB.out | apply zB | apply zC | apply zD | refine zE ?_ (Z101.ge HI529.out) | refine zE ?_ GE525.out | refine zE ?_ GE537.out) | exact HB.out)⟩
 replace c22 := Bool.eq_false_iff.mpr c22
 subst c22
 have H1 : ((spec_l01Next.f t526 t539 t540 256).bind fun bt552 => (some (t530, t531, t534, bt552.1))) = some (r1, r2, r3, r4) := by rw [if_neg (show ¬ (false = true) by decide)] at H; exact H
 clear H
 have H := H1
 clear H1
 replace H := Option.bind_eq_some_iff.mp H
 obtain ⟨⟨t552, t553, t554⟩, A390, H⟩ := H
 replace H : (some (t530, t531, t534, t552)) = some (r1, r2, r3, r4) := H
 have A39 := zA A390
 clear A390
 simp only [Option.some.injEq, Prod.mk.injEq] at H
 obtain ⟨rfl, rfl, rfl, rfl⟩ := H
 go_enter Tryd.func60, Tryd.ntmps60
 try go_wp2_with (first | ((with_reducible refine gate_dst (N := 2) rfl ?_); refine box_event ?hg (N := 2) ?hd (cs := #[.int .i64 0, .slice none 0 0]) (t := 26) ?hr ?_; (case hd => rfl); (case hg => rfl); (case hr => first | (go_simp; done) | (go_simp; rfl)); intro gb525 hg w40 hbox hb; have n0_ := zA (below_step (zQ HB.out) hb); have n1_ := zA (hbox); have n2_ := zA ((by rw [hg]; exact (below_size (zQ HB.out)) : w.heap.size ≤ gb525)); have n3_ := zA ((by rw [hg]; exact (below_size (zQ HB.out)) : w.heap.size ≤ gb525)); clear HB; have HB := n0_; have BK525 := n1_; have GW525 := n2_; have GE525 := n3_; clear n0_ n1_ n2_ n3_; clear hb hbox hg) | ((with_reducible refine gate_callee (f := 48) rfl ?_); refine zO (some 10) Tryd.func48 #[.slice A0 l0.length c0, .int .i64 8, .int .i64 24] ?_; (with_reducible refine (spec_l03Pair.calls k _ _ l0 8 24 t526 t527 t528 t530 t531 t534 w _ ?side1 ?side2 ?side3 A2.out).mono ?_); (case side1 => exact zT HB.out GE525.out); (case side2 => exact HR0.out); (case side3 => exact HC0.out); rintro e w41 ⟨v532, v535, g529, rfl, ho0, ho1, hi, hb, hb2, hgw⟩; refine ⟨_, rfl, ?_⟩; have n0_ := zA (Kd.R_lower ho0 (below_size (zT HB.out GE525.out))); have n1_ := zA (Kd.R_lower ho1 (below_size (zT HB.out GE525.out))); have n2_ := zA (blk_below (g := gb525) (o := .cells #[.int .i64 0, .slice none 0 0] 26 (0, 0)) (zR BK525.out) hb2); have n3_ := zA (hb); have n4_ := zA (hi); have n5_ := zA (Z101.ne_blk hi (blk_below (g := gb525) (o := .cells #[.int .i64 0, .slice none 0 0] 26 (0, 0)) (zR BK525.out) hb2) (by decide)); have n6_ := zA (Ne.symm (Z101.ne_blk hi (blk_below (g := gb525) (o := .cells #[.int .i64 0, .slice none 0 0] 26 (0, 0)) (zR BK525.out) hb2) (by decide))); clear BK525; clear HB; have HO533 := n0_; have HO536 := n1_; have BK525 := n2_; have HB := n3_; have HI529 := n4_; have NB529_525 := n5_; have NB525_529 := n6_; clear n0_ n1_ n2_ n3_ n4_ n5_ n6_; (try clear hb); (try clear hb2); (try clear hi); (try clear hgw); (try clear ho0); (try clear ho1)) | ((with_reducible refine gate_dst (N := 6) rfl ?_); refine box_event ?hg (N := 6) ?hd (cs := #[.int .i64 0, .slice none 0 0]) (t := 26) ?hr ?_; (case hd => rfl); (case hg => rfl); (case hr => first | (go_simp; done) | (go_simp; rfl)); intro gb537 hg w42 hbox hb; have n0_ := zA (Kd.R_below (zP HO533.out) hb); have n1_ := zA (Kd.R_below (zP HO536.out) hb); have n2_ := zA (blk_below (g := gb525) (o := .cells #[.int .i64 0, .slice none 0 0] 26 (0, 0)) (zR BK525.out) hb); have n3_ := zA (Z101.below (Z101.uB HI529.out NB529_525.out) hb); have n4_ := zA (below_step (zV HB.out (Z101.ge HI529.out) GE525.out) hb); have n5_ := zA (hbox); have n6_ := zA ((by rw [hg]; exact (below_size (zV HB.out (Z101.ge HI529.out) GE525.out)) : w.heap.size ≤ gb537)); have n7_ := zA ((by rw [hg]; exact (below_size (zV HB.out (Z101.ge HI529.out) GE525.out)) : w.heap.size ≤ gb537)); have n8_ := zA ((by rw [hg]; exact Nat.ne_of_lt (blk_lt (g := gb525) (o := .cells #[.int .i64 0, .slice none 0 0] 26 (0, 0)) (zR BK525.out)) : gb525 ≠ gb537)); have n9_ := zA ((by rw [hg]; exact Nat.ne_of_gt (blk_lt (g := gb525) (o := .cells #[.int .i64 0, .slice none 0 0] 26 (0, 0)) (zR BK525.out)) : gb537 ≠ gb525)); have n10_ := zA ((by rw [hg]; exact Nat.ne_of_lt (Z101.lt (show Z101 w _ g529 t526 t527 t528 from Z101.uB HI529.out NB529_525.out)) : g529 ≠ gb537)); have n11_ := zA ((by rw [hg]; exact Nat.ne_of_gt (Z101.lt (show Z101 w _ g529 t526 t527 t528 from Z101.uB HI529.out NB529_525.out)) : gb537 ≠ g529)); clear HO533; clear HO536; clear BK525; clear HI529; clear HB; have HO533 := n0_; have HO536 := n1_; have BK525 := n2_; have HI529 := n3_; have HB := n4_; have BK537 := n5_; have GW537 := n6_; have GE537 := n7_; have NB525_537 := n8_; have NB537_525 := n9_; have NB529_537 := n10_; have NB537_529 := n11_; clear n0_ n1_ n2_ n3_ n4_ n5_ n6_ n7_ n8_ n9_ n10_ n11_; clear hb hbox hg; have hnb43 := NB537_525.out; have hnc43 := NB525_537.out; have hnb44 := NB537_529.out; have hnc44 := NB529_537.out; have hcz45_0 : w42.cell? ⟨gb537, 0, none⟩ = some (.int .i64 0) := (blk_cell BK537.out 0).trans rfl; have hcz45_1 : w42.cell? ⟨gb537, 1, none⟩ = some (.slice none 0 0) := (blk_cell BK537.out 1).trans rfl; have hfz45_0 := blk_frozen BK537.out 0; have hfz45_1 := blk_frozen BK537.out 1; obtain ⟨Ao46, co46, eo46⟩ := Kd.R_slice HO533.out; subst eo46) | ((with_reducible refine gate_callee (f := 79) rfl ?_); refine zO (some 15) Tryd.func79 #[.pointer (some ⟨g529, 0, none⟩), .int .i64 20] ?_; (with_reducible refine (spec_l01Next.calls g529 t526 t527 t528 20 t538 t539 t540 w _ ?side1 ?side2 A3.out).mono ?_); (case side1 => exact Z101.uC HI529.out NB529_525.out NB529_537.out); (case side2 => exact zW HB.out (Z101.ge HI529.out) GE525.out GE537.out); rintro e w47 ⟨rfl, hi, hb, hk⟩; refine ⟨_, rfl, ?_⟩; have n0_ := zA (KeepBut.blk hk (g' := gb525) (o := .cells #[.int .i64 0, .slice none 0 0] 26 (0, 0)) (by (with_reducible repeat (first | refine zJ ?_ _ | refine zK ?_ | refine zI ?_ _)); refine blk_far ?_ NB525_537.out _; (with_reducible repeat (first | refine zJ ?_ _ | refine zK ?_ | refine zI ?_ _)); refine blk_far ?_ NB525_537.out _; (with_reducible repeat (first | refine zJ ?_ _ | refine zK ?_ | refine zI ?_ _)); exact BK525.out) NB525_529.out (by simp)); have n1_ := zA (Kd.R_mono (Kd.R_keep (Z101.apart (show Z101 w _ g529 t526 t527 t528 from Z101.uC HI529.out NB529_525.out NB529_537.out) (by (with_reducible repeat (first | apply zF | apply zG | apply zH)); exact (Kd.R_mono (Kd.R_far (p := ⟨gb537, 1, none⟩) (Kd.R_far (p := ⟨gb537, 0, none⟩) (Kd.R_types HO533.out BK537.out (by decide)) (fun _ hk => hk.2) (.int .i64 t530)) (fun _ hk => hk.2) (.slice Ao46 t531.length co46)) (fun _ h_ => h_.1))) (by decide)) hk (fun _ h => h.2)) (fun _ h => h.1)); have n2_ := zA (Kd.R_mono (Kd.R_keep (Z101.apart (show Z101 w _ g529 t526 t527 t528 from Z101.uC HI529.out NB529_525.out NB529_537.out) (by (with_reducible repeat (first | apply zF | apply zG | apply zH)); exact (Kd.R_mono (Kd.R_far (p := ⟨gb537, 1, none⟩) (Kd.R_far (p := ⟨gb537, 0, none⟩) (Kd.R_types HO536.out BK537.out (by decide)) (fun _ hk => hk.2) (.int .i64 t530)) (fun _ hk => hk.2) (.slice Ao46 t531.length co46)) (fun _ h_ => h_.1))) (by decide)) hk (fun _ h => h.2)) (fun _ h => h.1)); have n3_ := zA (KeepBut.blk hk (g' := gb537) (o := .cells #[.int .i64 t530, .slice Ao46 t531.length co46] 26 (0, 0)) (by (with_reducible repeat (first | refine zJ ?_ _ | refine zK ?_ | refine zI ?_ _)); refine blk_put (cs := #[.int .i64 t530, .slice none 0 0]) ?_ 1 _ rfl; (with_reducible repeat (first | refine zJ ?_ _ | refine zK ?_ | refine zI ?_ _)); refine blk_put (cs := #[.int .i64 0, .slice none 0 0]) ?_ 0 _ rfl; (with_reducible repeat (first | refine zJ ?_ _ | refine zK ?_ | refine zI ?_ _)); exact BK537.out) NB537_529.out (by simp)); have n4_ := zA (hb); have n5_ := zA (hi); clear BK525; clear HO533; clear HO536; clear BK537; clear HB; clear HI529; have BK525 := n0_; have HO533 := n1_; have HO536 := n2_; have BK537 := n3_; have HB := n4_; have HI529 := n5_; clear n0_ n1_ n2_ n3_ n4_ n5_; (try clear hb); (try clear hk); (try clear hi); have hcz48_0 : w47.cell? ⟨gb537, 0, none⟩ = some (.int .i64 t530) := (blk_cell BK537.out 0).trans rfl; have hcz48_1 : w47.cell? ⟨gb537, 1, none⟩ = some (.slice Ao46 t531.length co46) := (blk_cell BK537.out 1).trans rfl; have hfz48_0 := blk_frozen BK537.out 0; have hfz48_1 := blk_frozen BK537.out 1) | ((with_reducible refine gate_callee (f := 106) rfl ?_); refine zO (some 23) Tryd.func106 #[.agg #[.int .i64 t530, .slice Ao46 t531.length co46]] ?_; (with_reducible refine (spec_l02Is.calls k t530 _ _ t531 false _ ?side1 ?side2 A21.out).mono ?_); (case side1 => exact zS (Kd.R_reads' HO533.out).2.2); (case side2 => exact (Kd.R_reads' HO533.out).2.1); rintro e w49 ⟨rfl, hb⟩; refine ⟨_, rfl, ?_⟩; have n0_ := zA (Kd.R_below (zP HO533.out) hb); have n1_ := zA (Kd.R_below (zP HO536.out) hb); have n2_ := zA (blk_below (g := gb525) (o := .cells #[.int .i64 0, .slice none 0 0] 26 (0, 0)) (zR BK525.out) hb); have n3_ := zA (Z101.below (Z101.uC HI529.out NB529_525.out NB529_537.out) hb); have n4_ := zA (blk_below (g := gb537) (o := .cells #[.int .i64 t530, .slice Ao46 t531.length co46] 26 (0, 0)) (zR BK537.out) hb); have n5_ := zA (below_step (zW HB.out (Z101.ge HI529.out) GE525.out GE537.out) hb); clear HO533; clear HO536; clear BK525; clear HI529; clear BK537; clear HB; have HO533 := n0_; have HO536 := n1_; have BK525 := n2_; have HI529 := n3_; have BK537 := n4_; have HB := n5_; clear n0_ n1_ n2_ n3_ n4_ n5_; (try clear hb)))
 have n0_ := zA (zH HO533.out)
 have n1_ := zA (zH HO536.out)
 have n2_ := zA (zK BK525.out)
 have n3_ := zA (zK BK537.out)
 have n4_ := zA (Z101.drew HI529.out)
 have n5_ := zA (zD HB.out)
 clear HO533
 clear HO536
 clear BK525
 clear BK537
 clear HI529
 clear HB
 have HO533 := n0_
 have HO536 := n1_
 have BK525 := n2_
 have BK537 := n3_
 have HI529 := n4_
 have HB := n5_
 clear n0_ n1_ n2_ n3_ n4_ n5_
 refine start_ (n := 7) (S := fun w' => w'.cell? ⟨gb537, 0, none⟩ = some (.int .i64 t530) ∧ w'.cell? ⟨gb537, 1, none⟩ = some (.slice Ao46 t531.length co46)) (ds := []) #[false, false, false, false, false, false, false] (by kernel_rfl) rfl rfl ⟨(blk_cell BK537.out 0).trans rfl, (blk_cell BK537.out 1).trans rfl⟩ (fun hHeld => ?_)
 generalize w49.drew = w50 at HO533 HO536 BK525 BK537 HI529 HB hHeld ⊢
 refine pure_ (i := 1) (N := some 32) (v := ?_) (a' := ?_) #[false, true, false, false, false, false, false] rfl rfl (by kernel_rfl) (fun _ _ _ h => h) (Or.inl ⟨by rfl, ?_⟩) ?_ ?_
 rotate_left
 ·intro w'
  go_simp
  with_reducible rfl
 rotate_left
 ·simp only [Act.put, zL, zM, zN, i64_w, i32_w]
  rfl
 refine pure_ (i := 2) (N := some 33) (v := ?_) (a' := ?_) #[false, true, true, false, false, false, false] rfl rfl (by kernel_rfl) (fun _ _ _ h => h) (Or.inl ⟨by rfl, ?_⟩) ?_ ?_
 rotate_left
 ·intro w'
  go_simp
  with_reducible rfl
 rotate_left
 ·simp only [Act.put, zL, zM, zN, i64_w, i32_w]
  rfl
 refine take_ (i := 0) (N := some 31) (v := ?_) (a' := ?_) #[true, true, true, false, false, false, false] rfl rfl (by kernel_rfl) (fun _ _ _ h => h) (Or.inl ⟨by rfl, ?_⟩) hHeld ?_ ?_
 rotate_left
 ·rintro w' ⟨s0, s1⟩
  go_simp
  with_reducible rfl
 rotate_left
 ·simp only [Act.put, zL, zM, zN, i64_w, i32_w]
  rfl
 refine one_ (i := 3) (N := some 34) #[true, true, true, true, false, false, false] rfl rfl (by kernel_rfl) (by decide) (fun K hK => ?_)
 refine goes_ Tryd.func79 (by kernel_rfl) rfl #[.pointer (some ⟨g529, 0, none⟩), .int .i64 256] (by rfl) rfl rfl (by (try simp only [List.map_toArray, List.map_cons, List.map_nil]); first | done | rfl | (simp only [List.length_drop, List.length_take]; rfl)) ?_
 with_reducible refine (spec_l01Next.calls g529 t526 t539 t540 256 t552 t553 t554 w _ ?side1 ?side2 A39.out).mono ?_
 (case side1 => exact Z101.uC HI529.out NB529_525.out NB529_537.out)
 (case side2 => exact zW HB.out (Z101.ge HI529.out) GE525.out GE537.out)
 rintro e w51 ⟨rfl, hi, hb, hk⟩
 refine ⟨_, rfl, ?_⟩
 have n0_ := zA (KeepBut.blk hk (g' := gb525) (o := .cells #[.int .i64 0, .slice none 0 0] 26 (0, 0)) (zR BK525.out) NB525_529.out (by simp))
 have n1_ := zA (Kd.R_mono (Kd.R_keep (Z101.apart (show Z101 w _ g529 t526 t539 t540 from Z101.uC HI529.out NB529_525.out NB529_537.out) (zP HO533.out) (by decide)) hk (fun _ h => h.2)) (fun _ h => h.1))
 have n2_ := zA (Kd.R_mono (Kd.R_keep (Z101.apart (show Z101 w _ g529 t526 t539 t540 from Z101.uC HI529.out NB529_525.out NB529_537.out) (zP HO536.out) (by decide)) hk (fun _ h => h.2)) (fun _ h => h.1))
 have n3_ := zA (KeepBut.blk hk (g' := gb537) (o := .cells #[.int .i64 t530, .slice Ao46 t531.length co46] 26 (0, 0)) (zR BK537.out) NB537_529.out (by simp))
 have n4_ := zA (hb)
 have n5_ := zA (hi)
 clear BK525
 clear HO533
 clear HO536
 clear BK537
 clear HB
 clear HI529
 have BK525 := n0_
 have HO533 := n1_
 have HO536 := n2_
 have BK537 := n3_
 have HB := n4_
 have HI529 := n5_
 clear n0_ n1_ n2_ n3_ n4_ n5_
 (try clear hb)
 (try clear hb2)
 (try clear hk)
 (try clear hi)
 (try clear hgw)
 refine hK.out _ _ ⟨(blk_cell BK537.out 0).trans rfl, (blk_cell BK537.out 1).trans rfl⟩ (fun hHeld => ?_)
 clear hK K
 refine norm_ (a' := ?_) ?_ ?_
 rotate_left
 ·show Act.put _ (some 34) _ = _
  simp only [Act.put, zL, zM, zN, i64_w, i32_w]
  rfl
 refine one_ (i := 4) (N := none) #[true, true, true, true, true, false, false] rfl rfl (by kernel_rfl) (by decide) (fun K hK => ?_)
 have hs52 : w51.cell? ⟨gb525, 0, none⟩ = some (.int .i64 0) := (blk_cell BK525.out 0).trans rfl
 have hfs52 := blk_frozen BK525.out 0
 have hns52_1 := NB537_525.out
 have hms52_1 := NB525_537.out
 have hs53 : w51.cell? ⟨gb525, 1, none⟩ = some (.slice none 0 0) := (blk_cell BK525.out 1).trans rfl
 have hfs53 := blk_frozen BK525.out 1
 have hns53_1 := NB537_525.out
 have hms53_1 := NB525_537.out
 refine skip_ (w1 := ?_) (by rfl) rfl ?_ ?_
 rotate_left
 ·go_simp
  rfl
 refine hK.out _ _ ⟨((cell_far (p := ⟨gb525, _, none⟩) NB537_525.out _).trans (((cell_far (p := ⟨gb525, _, none⟩) NB537_525.out _).trans (hHeld.1)))), ((cell_far (p := ⟨gb525, _, none⟩) NB537_525.out _).trans (((cell_far (p := ⟨gb525, _, none⟩) NB537_525.out _).trans (hHeld.2))))⟩ (fun hHeld => ?_)
 clear hK K
 refine pure_ (i := 5) (N := some 3) (v := ?_) (a' := ?_) #[true, true, true, true, true, true, false] rfl rfl (by kernel_rfl) (fun _ _ _ h => h) (Or.inl ⟨by rfl, ?_⟩) ?_ ?_
 rotate_left
 ·intro w'
  go_simp
  with_reducible rfl
 rotate_left
 ·simp only [Act.put, zL, zM, zN, i64_w, i32_w]
  rfl
 refine pure_ (i := 6) (N := some 4) (v := ?_) (a' := ?_) #[true, true, true, true, true, true, true] rfl rfl (by kernel_rfl) (fun _ _ _ h => h) (Or.inl ⟨by rfl, ?_⟩) ?_ ?_
 rotate_left
 ·intro w'
  go_simp
  with_reducible rfl
 rotate_left
 ·simp only [Act.put, zL, zM, zN, i64_w, i32_w]
  rfl
 refine done_ (by kernel_rfl) ?_
 try go_wp2
 refine bodyPost_ret (results_ctt rfl _ _ gb525 26 #[.int .i64 t530, .slice Ao46 t531.length co46] (0, 0) _ rfl (by (with_reducible repeat (first | refine zJ ?_ _ | refine zK ?_ | refine zI ?_ _)); refine blk_put (cs := #[.int .i64 t530, .slice none 0 0]) ?_ 1 _ rfl; (with_reducible repeat (first | refine zJ ?_ _ | refine zK ?_ | refine zI ?_ _)); refine blk_put (cs := #[.int .i64 0, .slice none 0 0]) ?_ 0 _ rfl; (with_reducible repeat (first | refine zJ ?_ _ | refine zK ?_ | refine zI ?_ _)); exact BK525.out) Tryd.underlying26 rfl (by kernel_rfl)) rfl ?_
 exact ⟨_, _, by first | rfl | (simp [errW_none, errW_some] <;> rfl) | (simp [*, errW_none, errW_some] <;> rfl), by (with_reducible repeat (first | apply zF | apply zG | apply zH)); exact Kd.R_mono (Kd.R_far (p := ⟨gb525, 1, none⟩) (Kd.R_far (p := ⟨gb525, 0, none⟩) (Kd.R_types HO533.out BK525.out (by decide)) (fun _ hk => hk.2) (.int .i64 t530)) (fun _ hk => hk.2) (.slice Ao46 t531.length co46)) (fun _ hk => hk.1), by (with_reducible repeat (first | apply zF | apply zG | apply zH)); exact Kd.R_mono (Kd.R_far (p := ⟨gb525, 1, none⟩) (Kd.R_far (p := ⟨gb525, 0, none⟩) (Kd.R_types HO536.out BK525.out (by decide)) (fun _ hk => hk.2) (.int .i64 t530)) (fun _ hk => hk.2) (.slice Ao46 t531.length co46)) (fun _ hk => hk.1), by repeat (first | (with_reducible first | exact HB.out | apply zB | apply zC | apply zD | refine zE ?_ (Z101.ge HI529.out) | refine zE ?_ GE525.out | refine zE ?_ GE537.out) | exact HB.out)⟩

/-! ### spec_DrawPrefixIn: function 17 -/
def spec_DrawPrefixIn.f (k : Nat) (l0 : List Int) : Option (Int × List Int × List Int × Int) := (spec_DrawProjectionOf.f k l0).bind fun bt556 => (some (bt556.1, bt556.2.1, bt556.2.2.1, bt556.2.2.2))

set_option maxHeartbeats 8000000 in
set_option maxRecDepth 100000 in
theorem spec_DrawPrefixIn.calls (k : Nat) (A0 : Option Addr) (c0 : Nat) (l0 : List Int) (r1 : Int) (r2 : List Int) (r3 : List Int) (r4 : Int) (w : World) (hr0 : Kd.C (Kd.int .u8) w A0 l0.length l0) (hc0 : l0.length ≤ c0) (h : spec_DrawPrefixIn.f k l0 = some (r1, r2, r3, r4)) :
  Calls Tryd.prog 17 #[.slice A0 l0.length c0] w fun e w' => ∃ v1_ v2_ : Value, e = .returned (.tuple #[.agg #[.int .i64 r1, v1_], v2_, .int .i64 r4]) ∧ Kd.R (Kd.int .i64) 2 w' w.heap.size (fun k_ => some k_ ≠ (v2_ : Value).ownBlock) v1_ r2 ∧ Kd.R (Kd.int .i64) 2 w' w.heap.size (fun k_ => some k_ ≠ (v1_ : Value).ownBlock) v2_ r3 ∧ Below w.heap.size w w' := by
 have hu26 := Tryd.underlying26
 have HR0 := zA hr0
 have HC0 := zA hc0
 clear hr0 hc0
 have HB := zA (Below.refl w.heap.size w)
 have H : ((spec_DrawProjectionOf.f k l0).bind fun bt556 => (some (bt556.1, bt556.2.1, bt556.2.2.1, bt556.2.2.2))) = some (r1, r2, r3, r4) := h
 clear h
 replace H := Option.bind_eq_some_iff.mp H
 obtain ⟨⟨t556, t557, t560, t563⟩, A20, H⟩ := H
 replace H : (some (t556, t557, t560, t563)) = some (r1, r2, r3, r4) := H
 have A2 := zA A20
 clear A20
 simp only [Option.some.injEq, Prod.mk.injEq] at H
 obtain ⟨rfl, rfl, rfl, rfl⟩ := H
 go_enter Tryd.func17, Tryd.ntmps17
 go_wp2_with (first | ((with_reducible refine gate_dst (N := 2) rfl ?_); refine box_event ?hg (N := 2) ?hd (cs := #[.int .i64 0, .slice none 0 0]) (t := 26) ?hr ?_; (case hd => rfl); (case hg => rfl); (case hr => first | (go_simp; done) | (go_simp; rfl)); intro gb555 hg w3 hbox hb; have n0_ := zA (below_step (zQ HB.out) hb); have n1_ := zA (hbox); have n2_ := zA ((by rw [hg]; exact (below_size (zQ HB.out)) : w.heap.size ≤ gb555)); have n3_ := zA ((by rw [hg]; exact (below_size (zQ HB.out)) : w.heap.size ≤ gb555)); clear HB; have HB := n0_; have BK555 := n1_; have GW555 := n2_; have GE555 := n3_; clear n0_ n1_ n2_ n3_; clear hb hbox hg) | ((with_reducible refine gate_callee (f := 60) rfl ?_); refine zO (some 10) Tryd.func60 #[.slice A0 l0.length c0] ?_; (with_reducible refine (spec_DrawProjectionOf.calls k _ _ l0 t556 t557 t560 t563 _ ?side1 ?side2 A2.out).mono ?_); (case side1 => repeat (first | exact (Kd.C_below HR0.out HB.out) | (with_reducible refine Kd.C_alloc ?_ _) | (with_reducible refine Kd.C_drewN ?_ _) | (with_reducible refine Kd.C_drew ?_))); (case side2 => exact HC0.out); rintro e w4 ⟨v558, v561, rfl, ho0, ho1, hb⟩; refine ⟨_, rfl, ?_⟩; have n0_ := zA (Kd.R_lower ho0 (below_size (zT HB.out GE555.out))); have n1_ := zA (Kd.R_lower ho1 (below_size (zT HB.out GE555.out))); have n2_ := zA (blk_below (g := gb555) (o := .cells #[.int .i64 0, .slice none 0 0] 26 (0, 0)) (zR BK555.out) hb); have n3_ := zA (below_step (zT HB.out GE555.out) hb); clear BK555; clear HB; have HO559 := n0_; have HO562 := n1_; have BK555 := n2_; have HB := n3_; clear n0_ n1_ n2_ n3_; (try clear hb); (try clear ho0); (try clear ho1)) | ((with_reducible refine gate_dst (N := 5) rfl ?_); refine box_event ?hg (N := 5) ?hd (cs := #[.int .i64 0, .slice none 0 0]) (t := 26) ?hr ?_; (case hd => rfl); (case hg => rfl); (case hr => first | (go_simp; done) | (go_simp; rfl)); intro gb564 hg w5 hbox hb; have n0_ := zA (Kd.R_below (zP HO559.out) hb); have n1_ := zA (Kd.R_below (zP HO562.out) hb); have n2_ := zA (blk_below (g := gb555) (o := .cells #[.int .i64 0, .slice none 0 0] 26 (0, 0)) (zR BK555.out) hb); have n3_ := zA (below_step (zT HB.out GE555.out) hb); have n4_ := zA (hbox); have n5_ := zA ((by rw [hg]; exact (below_size (zT HB.out GE555.out)) : w.heap.size ≤ gb564)); have n6_ := zA ((by rw [hg]; exact (below_size (zT HB.out GE555.out)) : w.heap.size ≤ gb564)); have n7_ := zA ((by rw [hg]; exact Nat.ne_of_lt (blk_lt (g := gb555) (o := .cells #[.int .i64 0, .slice none 0 0] 26 (0, 0)) (zR BK555.out)) : gb555 ≠ gb564)); have n8_ := zA ((by rw [hg]; exact Nat.ne_of_gt (blk_lt (g := gb555) (o := .cells #[.int .i64 0, .slice none 0 0] 26 (0, 0)) (zR BK555.out)) : gb564 ≠ gb555)); clear HO559; clear HO562; clear BK555; clear HB; have HO559 := n0_; have HO562 := n1_; have BK555 := n2_; have HB := n3_; have BK564 := n4_; have GW564 := n5_; have GE564 := n6_; have NB555_564 := n7_; have NB564_555 := n8_; clear n0_ n1_ n2_ n3_ n4_ n5_ n6_ n7_ n8_; clear hb hbox hg; have hnb6 := NB564_555.out; have hnc6 := NB555_564.out; have hcz7_0 : w5.cell? ⟨gb564, 0, none⟩ = some (.int .i64 0) := (blk_cell BK564.out 0).trans rfl; have hcz7_1 : w5.cell? ⟨gb564, 1, none⟩ = some (.slice none 0 0) := (blk_cell BK564.out 1).trans rfl; have hfz7_0 := blk_frozen BK564.out 0; have hfz7_1 := blk_frozen BK564.out 1; obtain ⟨Ao8, co8, eo8⟩ := Kd.R_slice HO559.out; subst eo8; have hcz9_0 : w5.cell? ⟨gb555, 0, none⟩ = some (.int .i64 0) := (blk_cell BK555.out 0).trans rfl; have hcz9_1 : w5.cell? ⟨gb555, 1, none⟩ = some (.slice none 0 0) := (blk_cell BK555.out 1).trans rfl; have hfz9_0 := blk_frozen BK555.out 0; have hfz9_1 := blk_frozen BK555.out 1))
 refine bodyPost_ret (results_ctt rfl _ _ gb555 26 #[.int .i64 t556, .slice Ao8 t557.length co8] (0, 0) _ rfl (by (with_reducible repeat (first | refine zJ ?_ _ | refine zK ?_ | refine zI ?_ _)); refine blk_put (cs := #[.int .i64 t556, .slice none 0 0]) ?_ 1 _ rfl; (with_reducible repeat (first | refine zJ ?_ _ | refine zK ?_ | refine zI ?_ _)); refine blk_put (cs := #[.int .i64 0, .slice none 0 0]) ?_ 0 _ rfl; (with_reducible repeat (first | refine zJ ?_ _ | refine zK ?_ | refine zI ?_ _)); refine blk_far ?_ NB555_564.out _; (with_reducible repeat (first | refine zJ ?_ _ | refine zK ?_ | refine zI ?_ _)); refine blk_far ?_ NB555_564.out _; (with_reducible repeat (first | refine zJ ?_ _ | refine zK ?_ | refine zI ?_ _)); exact BK555.out) Tryd.underlying26 rfl (by kernel_rfl)) rfl ?_
 exact ⟨_, _, by first | rfl | (simp [errW_none, errW_some] <;> rfl) | (simp [*, errW_none, errW_some] <;> rfl), by (with_reducible repeat (first | apply zF | apply zG | apply zH)); exact Kd.R_mono (Kd.R_far (p := ⟨gb555, 1, none⟩) (Kd.R_far (p := ⟨gb555, 0, none⟩) (Kd.R_far (p := ⟨gb564, 1, none⟩) (Kd.R_far (p := ⟨gb564, 0, none⟩) (Kd.R_types (Kd.R_types HO559.out BK564.out (by decide)) BK555.out (by decide)) (fun _ hk => hk.1.2) (.int .i64 t556)) (fun _ hk => hk.1.2) (.slice Ao8 t557.length co8)) (fun _ hk => hk.2) (.int .i64 t556)) (fun _ hk => hk.2) (.slice Ao8 t557.length co8)) (fun _ hk => hk.1.1), by (with_reducible repeat (first | apply zF | apply zG | apply zH)); exact Kd.R_mono (Kd.R_far (p := ⟨gb555, 1, none⟩) (Kd.R_far (p := ⟨gb555, 0, none⟩) (Kd.R_far (p := ⟨gb564, 1, none⟩) (Kd.R_far (p := ⟨gb564, 0, none⟩) (Kd.R_types (Kd.R_types HO562.out BK564.out (by decide)) BK555.out (by decide)) (fun _ hk => hk.1.2) (.int .i64 t556)) (fun _ hk => hk.1.2) (.slice Ao8 t557.length co8)) (fun _ hk => hk.2) (.int .i64 t556)) (fun _ hk => hk.2) (.slice Ao8 t557.length co8)) (fun _ hk => hk.1.1), by repeat (first | (with_reducible first | exact HB.out | apply zB | apply zC | apply zD | refine zE ?_ GE555.out | refine zE ?_ GE564.out) | exact HB.out)⟩

/-! ### impl_PrefixIn: function 18 -/
def impl_PrefixIn.l0 : Nat → List Int → Int → List Int → List Int → Option (List Int × Int)
 | 0, _, _, _, _ => none
 | k + 1, x1, x2, x9, x10 => (impl_ties_firsts.f k x9 x1).bind fun t580 => (if (Go.bits .and .i64 t580 x2) = 0 then ((impl_ties_normal.f k x9 x10).bind fun t581 => (some (t581, 0))) else ((impl_least.f (Go.bits .and .i64 t580 x2)).bind fun t584 => (if x10.length < 17592186044416 then ((impl_withoutFirst.f k x1 t584).bind fun t588 => (impl_PrefixIn.l0 k t588 x2 x9 (x10 ++ [t584]))) else (none))))
def impl_PrefixIn.f (k : Nat) (a0_0 : Int) (l0_1 : List Int) (l1 : List Int) (a2 : Int) : Option (List Int × Int) := (impl_checkWords.f k a0_0 l0_1 (([l1] : List (List Int)))).bind fun t572 => (if t572 = 0 then ((impl_IsMask.f a2 a0_0).bind fun t573 => (if t573 = true then ((impl_Alphabet_ties.f a0_0 l0_1).bind fun t574 => (impl_PrefixIn.l0 k l1 a2 t574 (([] : List Int)))) else (some (([] : List Int), 2)))) else (some (([] : List Int), t572)))

set_option maxHeartbeats 8000000 in
set_option maxRecDepth 100000 in
theorem impl_PrefixIn.calls (k : Nat) (a0_0 : Int) (P0_1_ : Nat → Prop) (A0_1 : Option Addr) (c0_1 : Nat) (l0_1 : List Int) (P1_ : Nat → Prop) (A1 : Option Addr) (c1 : Nat) (l1 : List Int) (a2 : Int) (r1 : List Int) (r2 : Int) (w : World) (hs0_1 : Kd.V (Kd.int .i64) 2 w w.heap.size (fun k_ => P0_1_ k_) (.slice A0_1 l0_1.length c0_1) l0_1) (hs1 : Kd.V (Kd.int .i64) 2 w w.heap.size (fun k_ => P1_ k_) (.slice A1 l1.length c1) l1) (hT : TabW w) (h : impl_PrefixIn.f k a0_0 l0_1 l1 a2 = some (r1, r2)) :
  Calls Tryd.prog 18 #[.agg #[.int .i64 a0_0, .slice A0_1 l0_1.length c0_1], .slice A1 l1.length c1, .int .i64 a2] w fun e w' => ∃ v0_ : Value, e = .returned (.tuple #[v0_, .int .i64 r2]) ∧ Kd.R (Kd.int .i64) 2 w' w.heap.size (fun k_ => (w.heap.size ≤ k_)) v0_ r1 ∧ Below w.heap.size w w' := by
 have hu26 := Tryd.underlying26
 have HT := zA hT
 clear hT
 have HO0_1 := zA (show Kd.V (Kd.int .i64) 2 w w.heap.size (fun k_ => ((P0_1_ k_ ∨ P1_ k_) ∨ w.heap.size ≤ k_)) (.slice A0_1 l0_1.length c0_1) l0_1 from Kd.V_mono hs0_1 (fun k_ hk => .inl (.inl hk)))
 have HO1 := zA (show Kd.V (Kd.int .i64) 2 w w.heap.size (fun k_ => ((P0_1_ k_ ∨ P1_ k_) ∨ w.heap.size ≤ k_)) (.slice A1 l1.length c1) l1 from Kd.V_mono hs1 (fun k_ hk => .inl (.inr hk)))
 have HB := zA (Below.refl w.heap.size w)
 have H : ((impl_checkWords.f k a0_0 l0_1 (([l1] : List (List Int)))).bind fun t572 => (if t572 = 0 then ((impl_IsMask.f a2 a0_0).bind fun t573 => (if t573 = true then ((impl_Alphabet_ties.f a0_0 l0_1).bind fun t574 => (impl_PrefixIn.l0 k l1 a2 t574 (([] : List Int)))) else (some (([] : List Int), 2)))) else (some (([] : List Int), t572)))) = some (r1, r2) := h
 clear h
 obtain ⟨y569, hy569⟩ : ∃ y_ : List (List Int), y_ = (([l1] : List (List Int))) := ⟨_, rfl⟩
 replace H : ((impl_checkWords.f k a0_0 l0_1 y569).bind fun t572 => (if t572 = 0 then ((impl_IsMask.f a2 a0_0).bind fun t573 => (if t573 = true then ((impl_Alphabet_ties.f a0_0 l0_1).bind fun t574 => (impl_PrefixIn.l0 k l1 a2 t574 (([] : List Int)))) else (some (([] : List Int), 2)))) else (some (([] : List Int), t572)))) = some (r1, r2) := by first | (rw [hy569]; with_reducible exact H) | (have H2_ := (Option.bind_some _ _).symm.trans H; rw [hy569]; with_reducible exact H2_) | (have H2_ := (Option.bind_some _ _).symm.trans H; with_reducible exact H2_) | with_reducible exact H | (rw [hy569]; exact H) | exact H
 have Ny569 := zA hy569
 clear hy569
 replace H := Option.bind_eq_some_iff.mp H
 obtain ⟨t572, A40, H⟩ := H
 replace H : (if t572 = 0 then ((impl_IsMask.f a2 a0_0).bind fun t573 => (if t573 = true then ((impl_Alphabet_ties.f a0_0 l0_1).bind fun t574 => (impl_PrefixIn.l0 k l1 a2 t574 (([] : List Int)))) else (some (([] : List Int), 2)))) else (some (([] : List Int), t572))) = some (r1, r2) := H
 have A4 := zA A40
 clear A40
 by_cases c5 : t572 = 0
 ·rw [if_pos c5] at H
  have c5b0 : (t572 == 0) = true := beq_iff_eq.mpr c5
  have c5b1 : (t572 != 0) = false := bne_eq_false_iff_eq.mpr c5
  clear c5
  replace H := Option.bind_eq_some_iff.mp H
  obtain ⟨t573, A60, H⟩ := H
  replace H : (if t573 = true then ((impl_Alphabet_ties.f a0_0 l0_1).bind fun t574 => (impl_PrefixIn.l0 k l1 a2 t574 (([] : List Int)))) else (some (([] : List Int), 2))) = some (r1, r2) := H
  have A6 := zA A60
  clear A60
  by_cases c7 : t573 = true
  ·subst c7
   have H1 : ((impl_Alphabet_ties.f a0_0 l0_1).bind fun t574 => (impl_PrefixIn.l0 k l1 a2 t574 (([] : List Int)))) = some (r1, r2) := by rw [if_pos rfl] at H; exact H
   clear H
   have H := H1
   clear H1
   replace H := Option.bind_eq_some_iff.mp H
   obtain ⟨t574, A80, H⟩ := H
   replace H : (impl_PrefixIn.l0 k l1 a2 t574 (([] : List Int))) = some (r1, r2) := H
   have A8 := zA A80
   clear A80
   obtain ⟨y577, hy577⟩ : ∃ y_ : List Int, y_ = (([] : List Int)) := ⟨_, rfl⟩
   replace H : (impl_PrefixIn.l0 k l1 a2 t574 y577) = some (r1, r2) := by first | (rw [hy577]; with_reducible exact H) | (have H2_ := (Option.bind_some _ _).symm.trans H; rw [hy577]; with_reducible exact H2_) | (have H2_ := (Option.bind_some _ _).symm.trans H; with_reducible exact H2_) | with_reducible exact H | (rw [hy577]; exact H) | exact H
   have Ny577 := zA hy577
   clear hy577
   have H' := zA H
   clear H
   go_enter Tryd.func18, Tryd.ntmps18
   go_wp2_with (first | ((with_reducible refine gate_dst (N := 3) rfl ?_); refine box_event ?hg (N := 3) ?hd (cs := #[.int .i64 a0_0, .slice A0_1 l0_1.length c0_1]) (t := 26) ?hr ?_; (case hd => rfl); (case hg => rfl); (case hr => first | (go_simp; done) | (go_simp; rfl)); intro gb568 hg w9 hbox hb; have n0_ := zA (Kd.V_below (Kd.V_elderB (by (with_reducible repeat (first | apply Kd.V_alloc | apply Kd.V_drewN | apply Kd.V_drew)); exact HO0_1.out) gb568 (Nat.le_of_eq hg.symm)) hb); have n1_ := zA (Kd.V_below (Kd.V_elderB (by (with_reducible repeat (first | apply Kd.V_alloc | apply Kd.V_drewN | apply Kd.V_drew)); exact HO1.out) gb568 (Nat.le_of_eq hg.symm)) hb); have n2_ := zA (below_step (zQ HB.out) hb); have n3_ := zA (hbox); have n4_ := zA ((by rw [hg]; exact (below_size (zQ HB.out)) : w.heap.size ≤ gb568)); have n5_ := zA ((by rw [hg]; exact (below_size (zQ HB.out)) : w.heap.size ≤ gb568)); clear HO0_1; clear HO1; clear HB; have HO0_1 := n0_; have HO1 := n1_; have HB := n2_; have BK568 := n3_; have GW568 := n4_; have GE568 := n5_; clear n0_ n1_ n2_ n3_ n4_ n5_; clear hb hbox hg; have hcz10_0 : w9.cell? ⟨gb568, 0, none⟩ = some (.int .i64 a0_0) := (blk_cell BK568.out 0).trans rfl; have hcz10_1 : w9.cell? ⟨gb568, 1, none⟩ = some (.slice A0_1 l0_1.length c0_1) := (blk_cell BK568.out 1).trans rfl; have hfz10_0 := blk_frozen BK568.out 0; have hfz10_1 := blk_frozen BK568.out 1) | ((with_reducible refine gate_dst (N := 15) rfl ?_); refine Kd.N_lit (Kd.slice 2 (Kd.int .i64)) _ 24 ?hg (N' := 15) ?hd (xs := ([l1] : List (List Int))) (inner := [.slice A1 l1.length c1]) (ok := (fun k_ => ((P0_1_ k_ ∨ P1_ k_) ∨ w.heap.size ≤ k_) ∧ k_ ≠ gb568)) (okp := (fun k_ => ((P0_1_ k_ ∨ P1_ k_) ∨ w.heap.size ≤ k_) ∧ k_ ≠ gb568)) ?hr ?hp (fun _ hk => hk) ((show ∀ k_ : Nat, (_ : Nat) ≤ k_ → (fun k_ => ((P0_1_ k_ ∨ P1_ k_) ∨ w.heap.size ≤ k_) ∧ k_ ≠ gb568) k_ from fun k_ hk => ⟨(.inr (Nat.le_trans (below_size (zT HB.out GE568.out)) hk)), Kd.freshB (g := gb568) (o := .cells #[.int .i64 a0_0, .slice A0_1 l0_1.length c0_1] 26 (0, 0)) (zR BK568.out) k_ hk⟩) _ (Nat.le_refl _)) (Below.refl _ _) (Nat.le_refl _) (by simp) ?_; (case hd => rfl); (case hg => rfl); (case hr => first | (go_simp; done) | (go_simp; rfl)); (case hp => exact (Reps.one (show Kd.FK (Kd.slice 2 (Kd.int .i64)) _ _ l1 [.slice A1 l1.length c1] from (Kd.FK_slice_mk (Kd.V_reads' (Kd.V_mono (ok' := (fun k_ => ((P0_1_ k_ ∨ P1_ k_) ∨ w.heap.size ≤ k_) ∧ k_ ≠ gb568)) (HO1.out) (fun k_ hk => ⟨hk.1, hk.2⟩))).2.1 (Kd.V_F (Kd.V_mono (ok' := (fun k_ => ((P0_1_ k_ ∨ P1_ k_) ∨ w.heap.size ≤ k_) ∧ k_ ≠ gb568)) (HO1.out) (fun k_ hk => ⟨hk.1, hk.2⟩))))) (Reps.none _ _))); intro v570 w11 ho12 hb hg_ hnew_; clear hg_ hnew_; (first | rw [← Ny569.out] at ho12 | (simp only [Int.reduceToNat] at ho12; rw [← Ny569.out] at ho12)); have n0_ := zA (Kd.V_elder' (by (with_reducible repeat (first | apply Kd.V_alloc | apply Kd.V_drewN | apply Kd.V_drew)); exact HO0_1.out) (Kd.N_base ho12) hb); have n1_ := zA (Kd.V_elder' (by (with_reducible repeat (first | apply Kd.V_alloc | apply Kd.V_drewN | apply Kd.V_drew)); exact HO1.out) (Kd.N_base ho12) hb); have n2_ := zA (Kd.N_lower ho12 (below_size (zT HB.out GE568.out))); have n3_ := zA (blk_below (g := gb568) (o := .cells #[.int .i64 a0_0, .slice A0_1 l0_1.length c0_1] 26 (0, 0)) (zR BK568.out) hb); have n4_ := zA (below_step (zT HB.out GE568.out) hb); clear HO0_1; clear HO1; clear BK568; clear HB; have HO0_1 := n0_; have HO1 := n1_; have HO571 := n2_; have BK568 := n3_; have HB := n4_; clear n0_ n1_ n2_ n3_ n4_; clear hb ho12; obtain ⟨Ao13, co13, eo13⟩ := Kd.N_slice HO571.out; subst eo13) | ((with_reducible refine gate_callee (f := 49) rfl ?_); refine zO (some 16) Tryd.func49 #[.agg #[.int .i64 a0_0, .slice A0_1 l0_1.length c0_1], .slice Ao13 y569.length co13] ?_; (with_reducible refine (impl_checkWords.calls k a0_0 _ _ l0_1 _ _ y569 t572 _ ?side1 ?side2 ?side3 ?side4 ?side5 A4.out).mono ?_); (case side1 => exact zS (Kd.V_reads' HO0_1.out).2.2); (case side2 => exact (Kd.V_reads' HO0_1.out).2.1); (case side3 => exact zS (Kd.N_reads' HO571.out).2.2); (case side4 => exact (Kd.N_reads' HO571.out).2.1); (case side5 => exact TabW.below HT.out (zT HB.out GE568.out)); rintro e w14 ⟨rfl, hb⟩; refine ⟨_, rfl, ?_⟩; have n0_ := zA (Kd.V_below (by (with_reducible repeat (first | apply Kd.V_alloc | apply Kd.V_drewN | apply Kd.V_drew)); exact HO0_1.out) hb); have n1_ := zA (Kd.V_below (by (with_reducible repeat (first | apply Kd.V_alloc | apply Kd.V_drewN | apply Kd.V_drew)); exact HO1.out) hb); have n2_ := zA (Kd.N_below (by (with_reducible repeat (first | apply Kd.N_alloc | apply Kd.N_drewN | apply Kd.N_drew)); exact HO571.out) hb); have n3_ := zA (blk_below (g := gb568) (o := .cells #[.int .i64 a0_0, .slice A0_1 l0_1.length c0_1] 26 (0, 0)) (zR BK568.out) hb); have n4_ := zA (below_step (zT HB.out GE568.out) hb); clear HO0_1; clear HO1; clear HO571; clear BK568; clear HB; have HO0_1 := n0_; have HO1 := n1_; have HO571 := n2_; have BK568 := n3_; have HB := n4_; clear n0_ n1_ n2_ n3_ n4_; (try clear hb); have hcz15_0 : w14.cell? ⟨gb568, 0, none⟩ = some (.int .i64 a0_0) := (blk_cell BK568.out 0).trans rfl; have hcz15_1 : w14.cell? ⟨gb568, 1, none⟩ = some (.slice A0_1 l0_1.length c0_1) := (blk_cell BK568.out 1).trans rfl; have hfz15_0 := blk_frozen BK568.out 0; have hfz15_1 := blk_frozen BK568.out 1) | ((with_reducible refine gate_callee (f := 61) rfl ?_); refine zO (some 23) Tryd.func61 #[.int .i64 a2, .int .i64 a0_0] ?_; (with_reducible refine (impl_IsMask.calls a2 a0_0 true _ A6.out).mono ?_); rintro e w' ⟨rfl, ⟨nd, rfl⟩⟩; refine ⟨_, rfl, ?_⟩) | ((with_reducible refine gate_callee (f := 50) rfl ?_); refine zO (some 26) Tryd.func50 #[.agg #[.int .i64 a0_0, .slice A0_1 l0_1.length c0_1]] ?_; (with_reducible refine (impl_Alphabet_ties.calls a0_0 (fun k_ => ((((P0_1_ k_ ∨ P1_ k_) ∨ w.heap.size ≤ k_) ∧ k_ ≠ gb568) ∧ some k_ ≠ (.slice Ao13 y569.length co13 : Value).ownBlock)) _ _ l0_1 t574 _ ?side1 A8.out).mono ?_); (case side1 => exact HO0_1.out); rintro e w16 ⟨v575, rfl, ho0, hb⟩; refine ⟨_, rfl, ?_⟩; have n0_ := zA (Kd.V_below (by (with_reducible repeat (first | apply Kd.V_alloc | apply Kd.V_drewN | apply Kd.V_drew)); exact HO0_1.out) hb); have n1_ := zA (Kd.V_below (by (with_reducible repeat (first | apply Kd.V_alloc | apply Kd.V_drewN | apply Kd.V_drew)); exact HO1.out) hb); have n2_ := zA (Kd.N_below (by (with_reducible repeat (first | apply Kd.N_alloc | apply Kd.N_drewN | apply Kd.N_drew)); exact HO571.out) hb); have n3_ := zA (Kd.V_lower (Kd.V_mono (ok' := fun k_ => ((P0_1_ k_ ∨ P1_ k_) ∨ w.heap.size ≤ k_) ∧ some k_ ≠ (.slice Ao13 y569.length co13 : Value).ownBlock ∧ k_ ≠ gb568) ho0 (fun k_ hk_ => ⟨Or.elim hk_ (fun hs_ => hs_.1.1) (fun hn_ => (.inr (Nat.le_trans (below_size (zT HB.out GE568.out)) hn_))), Or.elim hk_ (fun hs_ => hs_.2) (fun hn_ => (Kd.fresh' (Kd.N_lt (by (with_reducible repeat (first | apply Kd.N_alloc | apply Kd.N_drewN | apply Kd.N_drew)); exact HO571.out)) k_ hn_)), Or.elim hk_ (fun hs_ => hs_.1.2) (fun hn_ => (Kd.freshB (g := gb568) (o := .cells #[.int .i64 a0_0, .slice A0_1 l0_1.length c0_1] 26 (0, 0)) (zR BK568.out) k_ hn_))⟩)) (below_size (zT HB.out GE568.out))); have n4_ := zA (blk_below (g := gb568) (o := .cells #[.int .i64 a0_0, .slice A0_1 l0_1.length c0_1] 26 (0, 0)) (zR BK568.out) hb); have n5_ := zA (below_step (zT HB.out GE568.out) hb); clear HO0_1; clear HO1; clear HO571; clear BK568; clear HB; have HO0_1 := n0_; have HO1 := n1_; have HO571 := n2_; have HO576 := n3_; have BK568 := n4_; have HB := n5_; clear n0_ n1_ n2_ n3_ n4_ n5_; (try clear hb); (try clear ho0)) | ((with_reducible refine gate_dst (N := 27) rfl ?_); refine Kd.R_lit (Kd.int .i64) _ 2 ?hg (N := 27) ?hd (xs := ([] : List Int)) (inner := []) (ok := fun _ => True) (okp := fun _ => True) ?hr ?hp (fun _ hk => hk) trivial (Below.refl _ _) (Nat.le_refl _) (by simp) ?_; (case hd => rfl); (case hg => rfl); (case hr => first | (go_simp; done) | (go_simp; rfl)); (case hp => exact (Reps.none _ _)); intro v578 w17 ho18 hb hg_ hnew_; clear hg_ hnew_; (first | rw [← Ny577.out] at ho18 | (simp only [Int.reduceToNat] at ho18; rw [← Ny577.out] at ho18)); have n0_ := zA (Kd.V_elder' (by (with_reducible repeat (first | apply Kd.V_alloc | apply Kd.V_drewN | apply Kd.V_drew)); exact HO0_1.out) (Kd.R_base ho18) hb); have n1_ := zA (Kd.V_elder' (by (with_reducible repeat (first | apply Kd.V_alloc | apply Kd.V_drewN | apply Kd.V_drew)); exact HO1.out) (Kd.R_base ho18) hb); have n2_ := zA (Kd.N_elder' (by (with_reducible repeat (first | apply Kd.N_alloc | apply Kd.N_drewN | apply Kd.N_drew)); exact HO571.out) (Kd.R_base ho18) hb); have n3_ := zA (Kd.V_elder' (by (with_reducible repeat (first | apply Kd.V_alloc | apply Kd.V_drewN | apply Kd.V_drew)); exact HO576.out) (Kd.R_base ho18) hb); have n4_ := zA (Kd.R_lower (Kd.R_newM (M := fun k_ => (w.heap.size ≤ k_)) ho18 (below_size (zT HB.out GE568.out)) (fun k_ h_ => h_)) (below_size (zT HB.out GE568.out))); have n5_ := zA (blk_below (g := gb568) (o := .cells #[.int .i64 a0_0, .slice A0_1 l0_1.length c0_1] 26 (0, 0)) (zR BK568.out) hb); have n6_ := zA (below_step (zT HB.out GE568.out) hb); clear HO0_1; clear HO1; clear HO571; clear HO576; clear BK568; clear HB; have HO0_1 := n0_; have HO1 := n1_; have HO571 := n2_; have HO576 := n3_; have HO579 := n4_; have BK568 := n5_; have HB := n6_; clear n0_ n1_ n2_ n3_ n4_ n5_ n6_; clear hb ho18))
   go_loopg [1, 10] k (fun kq v1 v10 w' => ∃ (x1_1 : List Int) (x10_1 : List Int), Aside0 (impl_PrefixIn.l0 kq x1_1 a2 t574 x10_1 = some (r1, r2)) ∧ Aside0 (kq ≤ k) ∧ Aside0 (Kd.V (Kd.int .i64) 2 w' w.heap.size (fun k_ => ((P0_1_ k_ ∨ P1_ k_) ∨ w.heap.size ≤ k_) ∧ some k_ ≠ (v10 : Value).ownBlock ∧ k_ ≠ gb568) v1 x1_1) ∧ Aside0 (Kd.V (Kd.int .i64) 2 w' w.heap.size (fun k_ => ((P0_1_ k_ ∨ P1_ k_) ∨ w.heap.size ≤ k_) ∧ some k_ ≠ (v10 : Value).ownBlock ∧ k_ ≠ gb568) v575 t574) ∧ Aside0 (Kd.R (Kd.int .i64) 2 w' w.heap.size (fun k_ => (w.heap.size ≤ k_)) v10 x10_1) ∧ Aside0 (Kd.V (Kd.int .i64) 2 w' w.heap.size (fun k_ => ((P0_1_ k_ ∨ P1_ k_) ∨ w.heap.size ≤ k_) ∧ some k_ ≠ (v10 : Value).ownBlock ∧ k_ ≠ gb568) (.slice A0_1 l0_1.length c0_1) l0_1) ∧ Aside0 (w'.heap[gb568]? = some (.cells #[.int .i64 a0_0, (.slice A0_1 l0_1.length c0_1)] 26 (0, 0))) ∧ Aside0 (Below w.heap.size w w'))
   case atStart => exact ⟨(l1), (y577), H', ⟨Nat.le_refl _⟩, ⟨by (with_reducible repeat (first | apply Kd.V_alloc | apply Kd.V_drewN | apply Kd.V_drew)); exact Kd.V_mono HO1.out (fun _ hk => ⟨hk.1.1.1, ⟨hk.2, hk.1.1.2⟩⟩)⟩, ⟨by (with_reducible repeat (first | apply Kd.V_alloc | apply Kd.V_drewN | apply Kd.V_drew)); exact Kd.V_mono HO576.out (fun _ hk => ⟨hk.1.1, ⟨hk.2, hk.1.2.2⟩⟩)⟩, ⟨by (with_reducible repeat (first | apply zF | apply zG | apply zH)); exact Kd.R_mono HO579.out (fun _ hk => hk.1)⟩, ⟨by (with_reducible repeat (first | apply Kd.V_alloc | apply Kd.V_drewN | apply Kd.V_drew)); exact Kd.V_mono HO0_1.out (fun _ hk => ⟨hk.1.1.1, ⟨hk.2, hk.1.1.2⟩⟩)⟩, ⟨by (with_reducible repeat (first | refine zJ ?_ _ | refine zK ?_ | refine zI ?_ _)); exact BK568.out⟩, ⟨zT HB.out GE568.out⟩⟩
   case round =>
    clear H'
    try clear c1
    try clear p2
    try clear c4
    try clear c5
    try clear c5b0
    try clear c5b1
    try clear c6
    try clear c7
    try clear c18
    try clear hcz10_0
    try clear hcz10_1
    try clear hcz15_0
    try clear hcz15_1
    try clear hfz10_0
    try clear hfz10_1
    try clear hfz15_0
    try clear hfz15_1
    obtain ⟨x1_1, x10_1, HA, HK1, HO_1, HO_9, HO_10, HO_569001, BK568, HB⟩ := hrel
    cases gk with
    | zero => exact absurd HA.out (by simp [impl_PrefixIn.l0])
    | succ k1 =>
     have H := HA.out
     clear HA
     simp only [impl_PrefixIn.l0] at H
     replace H := Option.bind_eq_some_iff.mp H
     obtain ⟨t580, A190, H⟩ := H
     replace H : (if (Go.bits .and .i64 t580 a2) = 0 then ((impl_ties_normal.f k1 t574 x10_1).bind fun t581 => (some (t581, 0))) else ((impl_least.f (Go.bits .and .i64 t580 a2)).bind fun t584 => (if x10_1.length < 17592186044416 then ((impl_withoutFirst.f k1 x1_1 t584).bind fun t588 => (impl_PrefixIn.l0 k1 t588 a2 t574 (x10_1 ++ [t584]))) else (none)))) = some (r1, r2) := H
     have A19 := zA A190
     clear A190
     by_cases c20 : (Go.bits .and .i64 t580 a2) = 0
     ·rw [if_pos c20] at H
      have c20b0 : ((Go.bits .and .i64 t580 a2) == 0) = true := beq_iff_eq.mpr c20
      have c20b1 : ((Go.bits .and .i64 t580 a2) != 0) = false := bne_eq_false_iff_eq.mpr c20
      clear c20
      replace H := Option.bind_eq_some_iff.mp H
      obtain ⟨t581, A210, H⟩ := H
      replace H : (some (t581, 0)) = some (r1, r2) := H
      have A21 := zA A210
      clear A210
      simp only [Option.some.injEq, Prod.mk.injEq] at H
      obtain ⟨rfl, rfl⟩ := H
      obtain ⟨Ao22, co22, eo22⟩ := Kd.V_slice HO_9.out
      subst eo22
      obtain ⟨Ao23, co23, eo23⟩ := Kd.V_slice HO_1.out
      subst eo23
      go_wp2_with (first | ((with_reducible refine gate_callee (f := 51) rfl ?_); refine zO (some 30) Tryd.func51 #[.slice Ao22 t574.length co22, .slice Ao23 x1_1.length co23] ?_; (with_reducible refine (impl_ties_firsts.calls k1 _ _ t574 _ _ x1_1 t580 _ ?side1 ?side2 ?side3 ?side4 A19.out).mono ?_); (case side1 => exact zS (Kd.V_reads' HO_9.out).2.2); (case side2 => exact (Kd.V_reads' HO_9.out).2.1); (case side3 => exact zS (Kd.V_reads' HO_1.out).2.2); (case side4 => exact (Kd.V_reads' HO_1.out).2.1); rintro e w' ⟨rfl, ⟨nd, rfl⟩⟩; refine ⟨_, rfl, ?_⟩; obtain ⟨Ao24, co24, eo24⟩ := Kd.R_slice HO_10.out; subst eo24) | ((with_reducible refine gate_callee (f := 56) rfl ?_); refine zO (some 37) Tryd.func56 #[.slice Ao22 t574.length co22, .slice Ao24 x10_1.length co24] ?_; (with_reducible refine (impl_ties_normal.calls k1 _ _ t574 (fun k_ => some k_ = (.slice Ao24 x10_1.length co24 : Value).ownBlock) _ _ x10_1 t581 _ ?side1 ?side2 ?side3 ?side4 A21.out).mono ?_); (case side1 => exact zS (Kd.V_reads' HO_9.out).2.2); (case side2 => exact (Kd.V_reads' HO_9.out).2.1); (case side3 => exact Kd.R_V (Kd.R_tight rfl (Kd.R_types (HO_10.out) BK568.out (by decide)))); (case side4 => exact TabW.below HT.out (zT HB.out GE568.out)); rintro e w25 ⟨v582, rfl, ho0, hb⟩; refine ⟨_, rfl, ?_⟩; have n0_ := zA (Kd.V_elder' (by (with_reducible repeat (first | apply Kd.V_alloc | apply Kd.V_drewN | apply Kd.V_drew)); exact HO_1.out) (Kd.R_base ho0) hb); have n1_ := zA (Kd.V_elder' (by (with_reducible repeat (first | apply Kd.V_alloc | apply Kd.V_drewN | apply Kd.V_drew)); exact HO_9.out) (Kd.R_base ho0) hb); have n2_ := zA (Kd.R_elder' (zP HO_10.out) (Kd.R_base ho0) hb); have n3_ := zA (Kd.V_elder' (by (with_reducible repeat (first | apply Kd.V_alloc | apply Kd.V_drewN | apply Kd.V_drew)); exact HO_569001.out) (Kd.R_base ho0) hb); have n4_ := zA (Kd.R_lower (Kd.R_new' (Kd.R_newM (M := fun k_ => (w.heap.size ≤ k_)) (Kd.R_mono (ok' := fun k_ => True) ho0 (fun _ hk_ => trivial)) (below_size (zT HB.out GE568.out)) (fun k_ h_ => h_)) (Kd.R_lt (zP HO_10.out))) (below_size (zT HB.out GE568.out))); have n5_ := zA (blk_below (g := gb568) (o := .cells #[.int .i64 a0_0, .slice A0_1 l0_1.length c0_1] 26 (0, 0)) (zR BK568.out) hb); have n6_ := zA (below_step (zT HB.out GE568.out) hb); clear HO_1; clear HO_9; clear HO_10; clear HO_569001; clear BK568; clear HB; have HO_1 := n0_; have HO_9 := n1_; have HO_10 := n2_; have HO_569001 := n3_; have HO583 := n4_; have BK568 := n5_; have HB := n6_; clear n0_ n1_ n2_ n3_ n4_ n5_ n6_; (try clear hb); (try clear ho0)))
      go_ret2
      exact ⟨_, by first | rfl | (simp [errW_none, errW_some] <;> rfl) | (simp [*, errW_none, errW_some] <;> rfl), by (with_reducible repeat (first | apply zF | apply zG | apply zH)); exact Kd.R_mono HO583.out (fun _ hk => hk.1.1), by repeat (first | (with_reducible first | exact HB.out | apply zB | apply zC | apply zD | refine zE ?_ GE568.out) | exact HB.out)⟩
     rw [if_neg c20] at H
     have c20b0 : ((Go.bits .and .i64 t580 a2) == 0) = false := beq_eq_false_iff_ne.mpr c20
     have c20b1 : ((Go.bits .and .i64 t580 a2) != 0) = true := bne_iff_ne.mpr c20
     replace H := Option.bind_eq_some_iff.mp H
     obtain ⟨t584, A260, H⟩ := H
     replace H : (if x10_1.length < 17592186044416 then ((impl_withoutFirst.f k1 x1_1 t584).bind fun t588 => (impl_PrefixIn.l0 k1 t588 a2 t574 (x10_1 ++ [t584]))) else (none)) = some (r1, r2) := H
     have A26 := zA A260
     clear A260
     by_cases c27 : x10_1.length < 17592186044416
     ·rw [if_pos c27] at H
      have LMc27 := zA c27
      clear c27
      obtain ⟨y585, hy585⟩ : ∃ y_ : List Int, y_ = (x10_1 ++ [t584]) := ⟨_, rfl⟩
      replace H : ((impl_withoutFirst.f k1 x1_1 t584).bind fun t588 => (impl_PrefixIn.l0 k1 t588 a2 t574 y585)) = some (r1, r2) := by first | (rw [hy585]; with_reducible exact H) | (have H2_ := (Option.bind_some _ _).symm.trans H; rw [hy585]; with_reducible exact H2_) | (have H2_ := (Option.bind_some _ _).symm.trans H; with_reducible exact H2_) | with_reducible exact H | (rw [hy585]; exact H) | exact H
      have Ny585 := zA hy585
      clear hy585
      replace H := Option.bind_eq_some_iff.mp H
      obtain ⟨t588, A280, H⟩ := H
      replace H : (impl_PrefixIn.l0 k1 t588 a2 t574 y585) = some (r1, r2) := H
      have A28 := zA A280
      clear A280
      have H' := zA H
      clear H
      obtain ⟨Ao29, co29, eo29⟩ := Kd.V_slice HO_9.out
      subst eo29
      obtain ⟨Ao30, co30, eo30⟩ := Kd.V_slice HO_1.out
      subst eo30
      go_wp2_with (first | ((with_reducible refine gate_callee (f := 51) rfl ?_); refine zO (some 30) Tryd.func51 #[.slice Ao29 t574.length co29, .slice Ao30 x1_1.length co30] ?_; (with_reducible refine (impl_ties_firsts.calls k1 _ _ t574 _ _ x1_1 t580 _ ?side1 ?side2 ?side3 ?side4 A19.out).mono ?_); (case side1 => exact zS (Kd.V_reads' HO_9.out).2.2); (case side2 => exact (Kd.V_reads' HO_9.out).2.1); (case side3 => exact zS (Kd.V_reads' HO_1.out).2.2); (case side4 => exact (Kd.V_reads' HO_1.out).2.1); rintro e w' ⟨rfl, ⟨nd, rfl⟩⟩; refine ⟨_, rfl, ?_⟩) | ((with_reducible refine gate_callee (f := 62) rfl ?_); refine zO (some 39) Tryd.func62 #[.int .i64 (Go.bits .and .i64 t580 a2)] ?_; (with_reducible refine (impl_least.calls (Go.bits .and .i64 t580 a2) t584 _ ?side1 A26.out).mono ?_); (case side1 => exact TabW.below HT.out (zT HB.out GE568.out)); rintro e w' ⟨rfl, ⟨nd, rfl⟩⟩; refine ⟨_, rfl, ?_⟩) | ((with_reducible refine gate_builtin (b := .append) (xs := #[.tmp 40, .tmp 42]) rfl ?_); at_builtin; refine Kd.R_append (Kd.int .i64) (w0 := w) w.heap.size rfl (.tmp 40) (.tmp 42) 24 2 (.int .i64 0) 8 rfl Tryd.underlying24 info2 rfl (by decide) (by omega) u10 x10_1 t584 [.int .i64 t584] (fun k_ => (w.heap.size ≤ k_)) (fun _ => False) rfl rfl ?aP (fun _ hk => hk.elim) ?aF ?aO ?aB ?aS ?aL ?_; (case aP => exact rfl); (case aB => exact (zT HB.out GE568.out)); (case aF => exact (fun k_ hk => (Nat.le_trans (below_size (zT HB.out GE568.out)) hk))); (case aO => exact (zP HO_10.out)); (case aS => exact (below_size (zT HB.out GE568.out))); (case aL => have := LMc27.out; omega); intro v586 w31 ho hb hg hat; rw [← Ny585.out] at ho; have n0_ := zA (Kd.V_afterv (ok := (fun k_ => ((P0_1_ k_ ∨ P1_ k_) ∨ w.heap.size ≤ k_) ∧ k_ ≠ gb568)) (by (with_reducible repeat (first | apply Kd.V_alloc | apply Kd.V_drewN | apply Kd.V_drew)); exact Kd.V_mono HO_1.out (fun _ hk => ⟨⟨hk.1, hk.2.2⟩, hk.2.1⟩)) hg hat); have n1_ := zA (Kd.V_afterv (ok := (fun k_ => ((P0_1_ k_ ∨ P1_ k_) ∨ w.heap.size ≤ k_) ∧ k_ ≠ gb568)) (by (with_reducible repeat (first | apply Kd.V_alloc | apply Kd.V_drewN | apply Kd.V_drew)); exact Kd.V_mono HO_9.out (fun _ hk => ⟨⟨hk.1, hk.2.2⟩, hk.2.1⟩)) hg hat); have n2_ := zA (Kd.V_afterv (ok := (fun k_ => ((P0_1_ k_ ∨ P1_ k_) ∨ w.heap.size ≤ k_) ∧ k_ ≠ gb568)) (by (with_reducible repeat (first | apply Kd.V_alloc | apply Kd.V_drewN | apply Kd.V_drew)); exact Kd.V_mono HO_569001.out (fun _ hk => ⟨⟨hk.1, hk.2.2⟩, hk.2.1⟩)) hg hat); have n3_ := zA (blk_grown (g := gb568) (o := .cells #[.int .i64 a0_0, .slice A0_1 l0_1.length c0_1] 26 (0, 0)) (zR BK568.out) hg (Kd.R_ne HO_10.out BK568.out (by decide))); have n4_ := zA (hb); have n5_ := zA (ho); clear HO_1; clear HO_9; clear HO_569001; clear BK568; clear HB; clear HO_10; have HO_1 := n0_; have HO_9 := n1_; have HO_569001 := n2_; have BK568 := n3_; have HB := n4_; have HO587 := n5_; clear n0_ n1_ n2_ n3_ n4_ n5_; clear ho hb hg hat) | ((with_reducible refine gate_callee (f := 63) rfl ?_); refine zO (some 46) Tryd.func63 #[.slice Ao30 x1_1.length co30, .int .i64 t584] ?_; (with_reducible refine (impl_withoutFirst.calls k1 (fun k_ => ((((P0_1_ k_ ∨ P1_ k_) ∨ w.heap.size ≤ k_) ∧ k_ ≠ gb568) ∧ some k_ ≠ (v586 : Value).ownBlock)) _ _ x1_1 t584 t588 _ ?side1 A28.out).mono ?_); (case side1 => exact HO_1.out); rintro e w32 ⟨v589, rfl, ho0, hb⟩; refine ⟨_, rfl, ?_⟩; have n0_ := zA (Kd.V_elder' (by (with_reducible repeat (first | apply Kd.V_alloc | apply Kd.V_drewN | apply Kd.V_drew)); exact HO_1.out) (Kd.R_base ho0) hb); have n1_ := zA (Kd.V_elder' (by (with_reducible repeat (first | apply Kd.V_alloc | apply Kd.V_drewN | apply Kd.V_drew)); exact HO_9.out) (Kd.R_base ho0) hb); have n2_ := zA (Kd.V_elder' (by (with_reducible repeat (first | apply Kd.V_alloc | apply Kd.V_drewN | apply Kd.V_drew)); exact HO_569001.out) (Kd.R_base ho0) hb); have n3_ := zA (Kd.R_elder' (zP HO587.out) (Kd.R_base ho0) hb); have n4_ := zA (Kd.R_lower (Kd.R_new' (Kd.R_newM (M := fun k_ => (w.heap.size ≤ k_)) (Kd.R_mono (ok' := fun k_ => True) ho0 (fun _ hk_ => trivial)) (below_size (zT HB.out GE568.out)) (fun k_ h_ => h_)) (Kd.R_lt (zP HO587.out))) (below_size (zT HB.out GE568.out))); have n5_ := zA (blk_below (g := gb568) (o := .cells #[.int .i64 a0_0, .slice A0_1 l0_1.length c0_1] 26 (0, 0)) (zR BK568.out) hb); have n6_ := zA (below_step (zT HB.out GE568.out) hb); clear HO_1; clear HO_9; clear HO_569001; clear HO587; clear BK568; clear HB; have HO_1 := n0_; have HO_9 := n1_; have HO_569001 := n2_; have HO587 := n3_; have HO590 := n4_; have BK568 := n5_; have HB := n6_; clear n0_ n1_ n2_ n3_ n4_ n5_ n6_; (try clear hb); (try clear ho0)))
      go_roundg k1
      case measure => have := HK1.out; omega
      case rel => exact ⟨(t588), (y585), H', ⟨by have := HK1.out; omega⟩, ⟨Kd.V_mono (Kd.R_V (by (with_reducible repeat (first | apply zF | apply zG | apply zH)); exact (Kd.R_types HO590.out BK568.out (by decide)))) (fun k_ hk => by first | exact ⟨(.inr (hk.1.1.1)), ⟨hk.1.2, hk.2⟩⟩ | exact ⟨(.inr (hk.1)), hk.2⟩ | exact (.inr (hk)))⟩, ⟨by (with_reducible repeat (first | apply Kd.V_alloc | apply Kd.V_drewN | apply Kd.V_drew)); exact Kd.V_mono HO_9.out (fun _ hk => ⟨hk.1.1.1, ⟨hk.1.2, hk.1.1.2⟩⟩)⟩, ⟨by (with_reducible repeat (first | apply zF | apply zG | apply zH)); exact Kd.R_mono HO587.out (fun _ hk => hk.1)⟩, ⟨by (with_reducible repeat (first | apply Kd.V_alloc | apply Kd.V_drewN | apply Kd.V_drew)); exact Kd.V_mono HO_569001.out (fun _ hk => ⟨hk.1.1.1, ⟨hk.1.2, hk.1.1.2⟩⟩)⟩, ⟨by (with_reducible repeat (first | refine zJ ?_ _ | refine zK ?_ | refine zI ?_ _)); exact BK568.out⟩, ⟨zT HB.out GE568.out⟩⟩
     rw [if_neg c27] at H
     exact absurd H (by simp)
  replace c7 := Bool.eq_false_iff.mpr c7
  subst c7
  have H1 : (some (([] : List Int), 2)) = some (r1, r2) := by rw [if_neg (show ¬ (false = true) by decide)] at H; exact H
  clear H
  have H := H1
  clear H1
  simp only [Option.some.injEq, Prod.mk.injEq] at H
  obtain ⟨rfl, rfl⟩ := H
  go_enter Tryd.func18, Tryd.ntmps18
  go_wp2_with (first | ((with_reducible refine gate_dst (N := 3) rfl ?_); refine box_event ?hg (N := 3) ?hd (cs := #[.int .i64 a0_0, .slice A0_1 l0_1.length c0_1]) (t := 26) ?hr ?_; (case hd => rfl); (case hg => rfl); (case hr => first | (go_simp; done) | (go_simp; rfl)); intro gb568 hg w33 hbox hb; have n0_ := zA (Kd.V_below (Kd.V_elderB (by (with_reducible repeat (first | apply Kd.V_alloc | apply Kd.V_drewN | apply Kd.V_drew)); exact HO0_1.out) gb568 (Nat.le_of_eq hg.symm)) hb); have n1_ := zA (Kd.V_below (Kd.V_elderB (by (with_reducible repeat (first | apply Kd.V_alloc | apply Kd.V_drewN | apply Kd.V_drew)); exact HO1.out) gb568 (Nat.le_of_eq hg.symm)) hb); have n2_ := zA (below_step (zQ HB.out) hb); have n3_ := zA (hbox); have n4_ := zA ((by rw [hg]; exact (below_size (zQ HB.out)) : w.heap.size ≤ gb568)); have n5_ := zA ((by rw [hg]; exact (below_size (zQ HB.out)) : w.heap.size ≤ gb568)); clear HO0_1; clear HO1; clear HB; have HO0_1 := n0_; have HO1 := n1_; have HB := n2_; have BK568 := n3_; have GW568 := n4_; have GE568 := n5_; clear n0_ n1_ n2_ n3_ n4_ n5_; clear hb hbox hg; have hcz34_0 : w33.cell? ⟨gb568, 0, none⟩ = some (.int .i64 a0_0) := (blk_cell BK568.out 0).trans rfl; have hcz34_1 : w33.cell? ⟨gb568, 1, none⟩ = some (.slice A0_1 l0_1.length c0_1) := (blk_cell BK568.out 1).trans rfl; have hfz34_0 := blk_frozen BK568.out 0; have hfz34_1 := blk_frozen BK568.out 1) | ((with_reducible refine gate_dst (N := 15) rfl ?_); refine Kd.N_lit (Kd.slice 2 (Kd.int .i64)) _ 24 ?hg (N' := 15) ?hd (xs := ([l1] : List (List Int))) (inner := [.slice A1 l1.length c1]) (ok := (fun k_ => ((P0_1_ k_ ∨ P1_ k_) ∨ w.heap.size ≤ k_) ∧ k_ ≠ gb568)) (okp := (fun k_ => ((P0_1_ k_ ∨ P1_ k_) ∨ w.heap.size ≤ k_) ∧ k_ ≠ gb568)) ?hr ?hp (fun _ hk => hk) ((show ∀ k_ : Nat, (_ : Nat) ≤ k_ → (fun k_ => ((P0_1_ k_ ∨ P1_ k_) ∨ w.heap.size ≤ k_) ∧ k_ ≠ gb568) k_ from fun k_ hk => ⟨(.inr (Nat.le_trans (below_size (zT HB.out GE568.out)) hk)), Kd.freshB (g := gb568) (o := .cells #[.int .i64 a0_0, .slice A0_1 l0_1.length c0_1] 26 (0, 0)) (zR BK568.out) k_ hk⟩) _ (Nat.le_refl _)) (Below.refl _ _) (Nat.le_refl _) (by simp) ?_; (case hd => rfl); (case hg => rfl); (case hr => first | (go_simp; done) | (go_simp; rfl)); (case hp => exact (Reps.one (show Kd.FK (Kd.slice 2 (Kd.int .i64)) _ _ l1 [.slice A1 l1.length c1] from (Kd.FK_slice_mk (Kd.V_reads' (Kd.V_mono (ok' := (fun k_ => ((P0_1_ k_ ∨ P1_ k_) ∨ w.heap.size ≤ k_) ∧ k_ ≠ gb568)) (HO1.out) (fun k_ hk => ⟨hk.1, hk.2⟩))).2.1 (Kd.V_F (Kd.V_mono (ok' := (fun k_ => ((P0_1_ k_ ∨ P1_ k_) ∨ w.heap.size ≤ k_) ∧ k_ ≠ gb568)) (HO1.out) (fun k_ hk => ⟨hk.1, hk.2⟩))))) (Reps.none _ _))); intro v570 w35 ho36 hb hg_ hnew_; clear hg_ hnew_; (first | rw [← Ny569.out] at ho36 | (simp only [Int.reduceToNat] at ho36; rw [← Ny569.out] at ho36)); have n0_ := zA (Kd.V_elder' (by (with_reducible repeat (first | apply Kd.V_alloc | apply Kd.V_drewN | apply Kd.V_drew)); exact HO0_1.out) (Kd.N_base ho36) hb); have n1_ := zA (Kd.V_elder' (by (with_reducible repeat (first | apply Kd.V_alloc | apply Kd.V_drewN | apply Kd.V_drew)); exact HO1.out) (Kd.N_base ho36) hb); have n2_ := zA (Kd.N_lower ho36 (below_size (zT HB.out GE568.out))); have n3_ := zA (blk_below (g := gb568) (o := .cells #[.int .i64 a0_0, .slice A0_1 l0_1.length c0_1] 26 (0, 0)) (zR BK568.out) hb); have n4_ := zA (below_step (zT HB.out GE568.out) hb); clear HO0_1; clear HO1; clear BK568; clear HB; have HO0_1 := n0_; have HO1 := n1_; have HO571 := n2_; have BK568 := n3_; have HB := n4_; clear n0_ n1_ n2_ n3_ n4_; clear hb ho36; obtain ⟨Ao37, co37, eo37⟩ := Kd.N_slice HO571.out; subst eo37) | ((with_reducible refine gate_callee (f := 49) rfl ?_); refine zO (some 16) Tryd.func49 #[.agg #[.int .i64 a0_0, .slice A0_1 l0_1.length c0_1], .slice Ao37 y569.length co37] ?_; (with_reducible refine (impl_checkWords.calls k a0_0 _ _ l0_1 _ _ y569 t572 _ ?side1 ?side2 ?side3 ?side4 ?side5 A4.out).mono ?_); (case side1 => exact zS (Kd.V_reads' HO0_1.out).2.2); (case side2 => exact (Kd.V_reads' HO0_1.out).2.1); (case side3 => exact zS (Kd.N_reads' HO571.out).2.2); (case side4 => exact (Kd.N_reads' HO571.out).2.1); (case side5 => exact TabW.below HT.out (zT HB.out GE568.out)); rintro e w38 ⟨rfl, hb⟩; refine ⟨_, rfl, ?_⟩; have n0_ := zA (Kd.V_below (by (with_reducible repeat (first | apply Kd.V_alloc | apply Kd.V_drewN | apply Kd.V_drew)); exact HO0_1.out) hb); have n1_ := zA (Kd.V_below (by (with_reducible repeat (first | apply Kd.V_alloc | apply Kd.V_drewN | apply Kd.V_drew)); exact HO1.out) hb); have n2_ := zA (Kd.N_below (by (with_reducible repeat (first | apply Kd.N_alloc | apply Kd.N_drewN | apply Kd.N_drew)); exact HO571.out) hb); have n3_ := zA (blk_below (g := gb568) (o := .cells #[.int .i64 a0_0, .slice A0_1 l0_1.length c0_1] 26 (0, 0)) (zR BK568.out) hb); have n4_ := zA (below_step (zT HB.out GE568.out) hb); clear HO0_1; clear HO1; clear HO571; clear BK568; clear HB; have HO0_1 := n0_; have HO1 := n1_; have HO571 := n2_; have BK568 := n3_; have HB := n4_; clear n0_ n1_ n2_ n3_ n4_; (try clear hb); have hcz39_0 : w38.cell? ⟨gb568, 0, none⟩ = some (.int .i64 a0_0) := (blk_cell BK568.out 0).trans rfl; have hcz39_1 : w38.cell? ⟨gb568, 1, none⟩ = some (.slice A0_1 l0_1.length c0_1) := (blk_cell BK568.out 1).trans rfl; have hfz39_0 := blk_frozen BK568.out 0; have hfz39_1 := blk_frozen BK568.out 1) | ((with_reducible refine gate_callee (f := 61) rfl ?_); refine zO (some 23) Tryd.func61 #[.int .i64 a2, .int .i64 a0_0] ?_; (with_reducible refine (impl_IsMask.calls a2 a0_0 false _ A6.out).mono ?_); rintro e w' ⟨rfl, ⟨nd, rfl⟩⟩; refine ⟨_, rfl, ?_⟩))
  go_ret2
  exact ⟨_, by first | rfl | (simp [errW_none, errW_some] <;> rfl) | (simp [*, errW_none, errW_some] <;> rfl), by first | exact Kd.R_nil _ _ _ _ _ | exact Kd.N_nil _ _ _ _ _ | exact Kd.V_nil _ _ _ _ _ | exact Kd.Q_nil _ _ _ _ _ | exact Kd.S_nil _ _ _ _ _, by repeat (first | (with_reducible first | exact HB.out | apply zB | apply zC | apply zD | refine zE ?_ GE568.out) | exact HB.out)⟩
 rw [if_neg c5] at H
 have c5b0 : (t572 == 0) = false := beq_eq_false_iff_ne.mpr c5
 have c5b1 : (t572 != 0) = true := bne_iff_ne.mpr c5
 simp only [Option.some.injEq, Prod.mk.injEq] at H
 obtain ⟨rfl, rfl⟩ := H
 go_enter Tryd.func18, Tryd.ntmps18
 go_wp2_with (first | ((with_reducible refine gate_dst (N := 3) rfl ?_); refine box_event ?hg (N := 3) ?hd (cs := #[.int .i64 a0_0, .slice A0_1 l0_1.length c0_1]) (t := 26) ?hr ?_; (case hd => rfl); (case hg => rfl); (case hr => first | (go_simp; done) | (go_simp; rfl)); intro gb568 hg w40 hbox hb; have n0_ := zA (Kd.V_below (Kd.V_elderB (by (with_reducible repeat (first | apply Kd.V_alloc | apply Kd.V_drewN | apply Kd.V_drew)); exact HO0_1.out) gb568 (Nat.le_of_eq hg.symm)) hb); have n1_ := zA (Kd.V_below (Kd.V_elderB (by (with_reducible repeat (first | apply Kd.V_alloc | apply Kd.V_drewN | apply Kd.V_drew)); exact HO1.out) gb568 (Nat.le_of_eq hg.symm)) hb); have n2_ := zA (below_step (zQ HB.out) hb); have n3_ := zA (hbox); have n4_ := zA ((by rw [hg]; exact (below_size (zQ HB.out)) : w.heap.size ≤ gb568)); have n5_ := zA ((by rw [hg]; exact (below_size (zQ HB.out)) : w.heap.size ≤ gb568)); clear HO0_1; clear HO1; clear HB; have HO0_1 := n0_; have HO1 := n1_; have HB := n2_; have BK568 := n3_; have GW568 := n4_; have GE568 := n5_; clear n0_ n1_ n2_ n3_ n4_ n5_; clear hb hbox hg; have hcz41_0 : w40.cell? ⟨gb568, 0, none⟩ = some (.int .i64 a0_0) := (blk_cell BK568.out 0).trans rfl; have hcz41_1 : w40.cell? ⟨gb568, 1, none⟩ = some (.slice A0_1 l0_1.length c0_1) := (blk_cell BK568.out 1).trans rfl; have hfz41_0 := blk_frozen BK568.out 0; have hfz41_1 := blk_frozen BK568.out 1) | ((with_reducible refine gate_dst (N := 15) rfl ?_); refine Kd.N_lit (Kd.slice 2 (Kd.int .i64)) _ 24 ?hg (N' := 15) ?hd (xs := ([l1] : List (List Int))) (inner := [.slice A1 l1.length c1]) (ok := (fun k_ => ((P0_1_ k_ ∨ P1_ k_) ∨ w.heap.size ≤ k_) ∧ k_ ≠ gb568)) (okp := (fun k_ => ((P0_1_ k_ ∨ P1_ k_) ∨ w.heap.size ≤ k_) ∧ k_ ≠ gb568)) ?hr ?hp (fun _ hk => hk) ((show ∀ k_ : Nat, (_ : Nat) ≤ k_ → (fun k_ => ((P0_1_ k_ ∨ P1_ k_) ∨ w.heap.size ≤ k_) ∧ k_ ≠ gb568) k_ from fun k_ hk => ⟨(.inr (Nat.le_trans (below_size (zT HB.out GE568.out)) hk)), Kd.freshB (g := gb568) (o := .cells #[.int .i64 a0_0, .slice A0_1 l0_1.length c0_1] 26 (0, 0)) (zR BK568.out) k_ hk⟩) _ (Nat.le_refl _)) (Below.refl _ _) (Nat.le_refl _) (by simp) ?_; (case hd => rfl); (case hg => rfl); (case hr => first | (go_simp; done) | (go_simp; rfl)); (case hp => exact (Reps.one (show Kd.FK (Kd.slice 2 (Kd.int .i64)) _ _ l1 [.slice A1 l1.length c1] from (Kd.FK_slice_mk (Kd.V_reads' (Kd.V_mono (ok' := (fun k_ => ((P0_1_ k_ ∨ P1_ k_) ∨ w.heap.size ≤ k_) ∧ k_ ≠ gb568)) (HO1.out) (fun k_ hk => ⟨hk.1, hk.2⟩))).2.1 (Kd.V_F (Kd.V_mono (ok' := (fun k_ => ((P0_1_ k_ ∨ P1_ k_) ∨ w.heap.size ≤ k_) ∧ k_ ≠ gb568)) (HO1.out) (fun k_ hk => ⟨hk.1, hk.2⟩))))) (Reps.none _ _))); intro v570 w42 ho43 hb hg_ hnew_; clear hg_ hnew_; (first | rw [← Ny569.out] at ho43 | (simp only [Int.reduceToNat] at ho43; rw [← Ny569.out] at ho43)); have n0_ := zA (Kd.V_elder' (by (with_reducible repeat (first | apply Kd.V_alloc | apply Kd.V_drewN | apply Kd.V_drew)); exact HO0_1.out) (Kd.N_base ho43) hb); have n1_ := zA (Kd.V_elder' (by (with_reducible repeat (first | apply Kd.V_alloc | apply Kd.V_drewN | apply Kd.V_drew)); exact HO1.out) (Kd.N_base ho43) hb); have n2_ := zA (Kd.N_lower ho43 (below_size (zT HB.out GE568.out))); have n3_ := zA (blk_below (g := gb568) (o := .cells #[.int .i64 a0_0, .slice A0_1 l0_1.length c0_1] 26 (0, 0)) (zR BK568.out) hb); have n4_ := zA (below_step (zT HB.out GE568.out) hb); clear HO0_1; clear HO1; clear BK568; clear HB; have HO0_1 := n0_; have HO1 := n1_; have HO571 := n2_; have BK568 := n3_; have HB := n4_; clear n0_ n1_ n2_ n3_ n4_; clear hb ho43; obtain ⟨Ao44, co44, eo44⟩ := Kd.N_slice HO571.out; subst eo44) | ((with_reducible refine gate_callee (f := 49) rfl ?_); refine zO (some 16) Tryd.func49 #[.agg #[.int .i64 a0_0, .slice A0_1 l0_1.length c0_1], .slice Ao44 y569.length co44] ?_; (with_reducible refine (impl_checkWords.calls k a0_0 _ _ l0_1 _ _ y569 t572 _ ?side1 ?side2 ?side3 ?side4 ?side5 A4.out).mono ?_); (case side1 => exact zS (Kd.V_reads' HO0_1.out).2.2); (case side2 => exact (Kd.V_reads' HO0_1.out).2.1); (case side3 => exact zS (Kd.N_reads' HO571.out).2.2); (case side4 => exact (Kd.N_reads' HO571.out).2.1); (case side5 => exact TabW.below HT.out (zT HB.out GE568.out)); rintro e w45 ⟨rfl, hb⟩; refine ⟨_, rfl, ?_⟩; have n0_ := zA (Kd.V_below (by (with_reducible repeat (first | apply Kd.V_alloc | apply Kd.V_drewN | apply Kd.V_drew)); exact HO0_1.out) hb); have n1_ := zA (Kd.V_below (by (with_reducible repeat (first | apply Kd.V_alloc | apply Kd.V_drewN | apply Kd.V_drew)); exact HO1.out) hb); have n2_ := zA (Kd.N_below (by (with_reducible repeat (first | apply Kd.N_alloc | apply Kd.N_drewN | apply Kd.N_drew)); exact HO571.out) hb); have n3_ := zA (blk_below (g := gb568) (o := .cells #[.int .i64 a0_0, .slice A0_1 l0_1.length c0_1] 26 (0, 0)) (zR BK568.out) hb); have n4_ := zA (below_step (zT HB.out GE568.out) hb); clear HO0_1; clear HO1; clear HO571; clear BK568; clear HB; have HO0_1 := n0_; have HO1 := n1_; have HO571 := n2_; have BK568 := n3_; have HB := n4_; clear n0_ n1_ n2_ n3_ n4_; (try clear hb)))
 go_ret2
 exact ⟨_, by first | rfl | (simp [errW_none, errW_some] <;> rfl) | (simp [*, errW_none, errW_some] <;> rfl), by first | exact Kd.R_nil _ _ _ _ _ | exact Kd.N_nil _ _ _ _ _ | exact Kd.V_nil _ _ _ _ _ | exact Kd.Q_nil _ _ _ _ _ | exact Kd.S_nil _ _ _ _ _, by repeat (first | (with_reducible first | exact HB.out | apply zB | apply zC | apply zD | refine zE ?_ GE568.out) | exact HB.out)⟩

/-! ### spec_l05Independent: function 67 -/
mutual
def spec_l05Independent.l0 : Nat → List Int → List Int → Int → Int → List Int → Option (Bool)
 | 0, _, _, _, _, _ => none
 | k + 1, x1, x2, x7, x592000, x592001 => if x7 < (x1.length : Int) then (spec_l05Independent.l1 k x1 x2 x7 0 x592000 x592001) else (some true)
def spec_l05Independent.l1 : Nat → List Int → List Int → Int → Int → Int → List Int → Option (Bool)
 | 0, _, _, _, _, _, _ => none
 | k + 1, x1, x2, x7, x8, x592000, x592001 => if x8 < (x2.length : Int) then (if 0 ≤ x7 then (if x7 < (x1.length : Int) then (if 0 ≤ x8 then ((spec_l02Dep.f x592000 x592001 (rd x1 x7) (rd x2 x8)).bind fun t594 => (if t594 = true then (some false) else (spec_l05Independent.l1 k x1 x2 x7 (wrap64 (x8 + 1)) x592000 x592001))) else (none)) else (none)) else (none)) else (spec_l05Independent.l0 k x1 x2 (wrap64 (x7 + 1)) x592000 x592001)
end
def spec_l05Independent.f (k : Nat) (a0_0 : Int) (l0_1 : List Int) (l1 : List Int) (l2 : List Int) : Option (Bool) := spec_l05Independent.l0 k l1 l2 0 a0_0 l0_1

def spec_l05Independent.T7 : Bool × List (List Nat × List Nat) := (true, [([], []), ([], []), ([], []), ([1, 2], [1, 2]), ([3], [3]), ([], []), ([], []), ([5, 6], [5, 6]), ([7], [7]), ([0, 4, 8], [0, 4, 8])])
def spec_l05Independent.B7 : List Nat := [0, 0, 0, 6, 14, 0, 0, 96, 224, 511]
theorem spec_l05Independent.tab7 : rtab .any (opsOf Tryd.f67 7) = spec_l05Independent.T7 := by kernel_rfl
theorem spec_l05Independent.bits7 : waitsOk spec_l05Independent.T7.2 spec_l05Independent.B7 = true := by kernel_rfl
set_option maxHeartbeats 8000000 in
set_option maxRecDepth 100000 in
theorem spec_l05Independent.calls (k : Nat) (a0_0 : Int) (A0_1 : Option Addr) (c0_1 : Nat) (l0_1 : List Int) (A1 : Option Addr) (c1 : Nat) (l1 : List Int) (A2 : Option Addr) (c2 : Nat) (l2 : List Int) (r : Bool) (w : World) (hr0_1 : Kd.C (Kd.int .i64) w A0_1 l0_1.length l0_1) (hc0_1 : l0_1.length ≤ c0_1) (hr1 : Kd.C (Kd.int .i64) w A1 l1.length l1) (hc1 : l1.length ≤ c1) (hr2 : Kd.C (Kd.int .i64) w A2 l2.length l2) (hc2 : l2.length ≤ c2) (h : spec_l05Independent.f k a0_0 l0_1 l1 l2 = some r) :
  Calls Tryd.prog 67 #[.agg #[.int .i64 a0_0, .slice A0_1 l0_1.length c0_1], .slice A1 l1.length c1, .slice A2 l2.length c2] w fun e w' => e = .returned (.bool r) ∧ Below w.heap.size w w' := by
 have hu26 := Tryd.underlying26
 have HR0_1 := zA hr0_1
 have HC0_1 := zA hc0_1
 clear hr0_1 hc0_1
 have HR1 := zA hr1
 have HC1 := zA hc1
 clear hr1 hc1
 have HR2 := zA hr2
 have HC2 := zA hc2
 clear hr2 hc2
 have HB := zA (Below.refl w.heap.size w)
 have H : (spec_l05Independent.l0 k l1 l2 0 a0_0 l0_1) = some r := h
 clear h
 have H' := zA H
 clear H
 go_enter Tryd.func67, Tryd.ntmps67
 go_wp2_with (first | ((with_reducible refine gate_dst (N := 3) rfl ?_); refine box_event ?hg (N := 3) ?hd (cs := #[.int .i64 a0_0, .slice A0_1 l0_1.length c0_1]) (t := 26) ?hr ?_; (case hd => rfl); (case hg => rfl); (case hr => first | (go_simp; done) | (go_simp; rfl)); intro gb591 hg w4 hbox hb; have n0_ := zA (below_step (zQ HB.out) hb); have n1_ := zA (hbox); have n2_ := zA ((by rw [hg]; exact (below_size (zQ HB.out)) : w.heap.size ≤ gb591)); have n3_ := zA ((by rw [hg]; exact (below_size (zQ HB.out)) : w.heap.size ≤ gb591)); clear HB; have HB := n0_; have BK591 := n1_; have GW591 := n2_; have GE591 := n3_; clear n0_ n1_ n2_ n3_; clear hb hbox hg))
 go_loopg [7] k (fun kq v7 w' => ∃ (x7_1 : Int), v7 = .int .i64 x7_1 ∧ Aside0 (spec_l05Independent.l0 kq l1 l2 x7_1 a0_0 l0_1 = some r) ∧ Aside0 (kq ≤ k) ∧ Aside0 (w'.heap[gb591]? = some (.cells #[.int .i64 a0_0, (.slice A0_1 l0_1.length c0_1)] 26 (0, 0))) ∧ Aside0 (Below w.heap.size w w'))
 case atStart => exact ⟨(0), (by first | rfl | (simp; done) | (simp [*]; done)), H', ⟨Nat.le_refl _⟩, ⟨by (with_reducible repeat (first | refine zJ ?_ _ | refine zK ?_ | refine zI ?_ _)); exact BK591.out⟩, ⟨zT HB.out GE591.out⟩⟩
 case round =>
  clear H'
  try clear c1
  try clear c2
  try clear p2
  obtain ⟨x7_1, rfl, HA, HK1, BK591, HB⟩ := hrel
  cases gk with
  | zero => exact absurd HA.out (by simp [spec_l05Independent.l0])
  | succ k1 =>
   have H := HA.out
   clear HA
   simp only [spec_l05Independent.l0] at H
   by_cases c5 : x7_1 < (l1.length : Int)
   ·rw [if_pos c5] at H
    have c5b0 : decide (x7_1 < (l1.length : Int)) = true := decide_eq_true c5
    clear c5
    have H' := zA H
    clear H
    go_wp2
    go_loopg [8] k1 (fun kq v8 w' => ∃ (x8_2 : Int), v8 = .int .i64 x8_2 ∧ Aside0 (spec_l05Independent.l1 kq l1 l2 x7_1 x8_2 a0_0 l0_1 = some r) ∧ Aside0 (kq ≤ k1) ∧ Aside0 (w'.heap[gb591]? = some (.cells #[.int .i64 a0_0, (.slice A0_1 l0_1.length c0_1)] 26 (0, 0))) ∧ Aside0 (Below w.heap.size w w'))
    case atStart => exact ⟨(0), (by first | rfl | (simp; done) | (simp [*]; done)), H', ⟨Nat.le_refl _⟩, ⟨by (with_reducible repeat (first | refine zJ ?_ _ | refine zK ?_ | refine zI ?_ _)); exact BK591.out⟩, ⟨zT HB.out GE591.out⟩⟩
    case round =>
     clear H'
     try clear c1
     try clear c2
     try clear p2
     try clear c5
     try clear c5b0
     try clear p2
     obtain ⟨x8_2, rfl, HA, HK2, BK591, HB⟩ := hrel
     cases gk with
     | zero => exact absurd HA.out (by simp [spec_l05Independent.l1])
     | succ k2 =>
      have H := HA.out
      clear HA
      simp only [spec_l05Independent.l1] at H
      by_cases c6 : x8_2 < (l2.length : Int)
      ·rw [if_pos c6] at H
       have c6b0 : decide (x8_2 < (l2.length : Int)) = true := decide_eq_true c6
       clear c6
       by_cases c7 : 0 ≤ x7_1
       ·rw [if_pos c7] at H
        have c7b0 : decide (0 ≤ x7_1) = true := decide_eq_true c7
        clear c7
        by_cases c8 : x7_1 < (l1.length : Int)
        ·rw [if_pos c8] at H
         have c8b0 : decide (x7_1 < (l1.length : Int)) = true := decide_eq_true c8
         clear c8
         by_cases c9 : 0 ≤ x8_2
         ·rw [if_pos c9] at H
          have c9b0 : decide (0 ≤ x8_2) = true := decide_eq_true c9
          clear c9
          replace H := Option.bind_eq_some_iff.mp H
          obtain ⟨t594, A100, H⟩ := H
          replace H : (if t594 = true then (some false) else (spec_l05Independent.l1 k2 l1 l2 x7_1 (wrap64 (x8_2 + 1)) a0_0 l0_1)) = some r := H
          have A10 := zA A100
          clear A100
          by_cases c11 : t594 = true
          ·subst c11
           have H1 : (some false) = some r := by rw [if_pos rfl] at H; exact H
           clear H
           have H := H1
           clear H1
           obtain rfl := Option.some.inj H
           try go_wp2
           have n0_ := zA (zK BK591.out)
           have n1_ := zA (zD HB.out)
           clear BK591
           clear HB
           have BK591 := n0_
           have HB := n1_
           clear n0_ n1_
           have p592 : 0 ≤ (x7_1 : Int) := of_decide_eq_true (by first | (with_reducible assumption) | assumption)
           have q592 : x7_1 < (l1.length : Int) := of_decide_eq_true (by first | (with_reducible assumption) | assumption)
           obtain ⟨ad592, e592, hx592_0⟩ := Kd.at_int HR1.out x7_1 p592 q592
           have hw592_0 := hx592_0
           cases e592
           replace hx592_0 := (HB.out.cell (World.block_lt_of_cell? w _ hx592_0)).trans hx592_0
           replace p592 := eq_true p592
           replace q592 := eq_true q592
           have p593 : 0 ≤ (x8_2 : Int) := of_decide_eq_true (by first | (with_reducible assumption) | assumption)
           have q593 : x8_2 < (l2.length : Int) := of_decide_eq_true (by first | (with_reducible assumption) | assumption)
           obtain ⟨ad593, e593, hx593_0⟩ := Kd.at_int HR2.out x8_2 p593 q593
           have hw593_0 := hx593_0
           cases e593
           replace hx593_0 := (HB.out.cell (World.block_lt_of_cell? w _ hx593_0)).trans hx593_0
           replace p593 := eq_true p593
           replace q593 := eq_true q593
           refine start_ (n := 10) (S := fun w' => w'.cell? ⟨gb591, 0, none⟩ = some (.int .i64 a0_0) ∧ w'.cell? ⟨gb591, 1, none⟩ = some (.slice A0_1 l0_1.length c0_1) ∧ w'.cell? (ad592.add (x7_1).toNat) = some (.int .i64 (rd l1 x7_1)) ∧ w'.cell? (ad593.add (x8_2).toNat) = some (.int .i64 (rd l2 x8_2))) (ds := []) #[false, false, false, false, false, false, false, false, false, false] (by kernel_rfl) rfl rfl ⟨(blk_cell BK591.out 0).trans rfl, (blk_cell BK591.out 1).trans rfl, (pw_cell_below HB.out hw592_0), (pw_cell_below HB.out hw593_0)⟩ (fun hHeld => ?_); refine with_tabW spec_l05Independent.tab7 spec_l05Independent.bits7 (fun HT_ HW_ => ?_)
           generalize wr.drew = w12 at BK591 HB hx592_0 hx593_0 hHeld ⊢
           refine pure_ (i := 1) (N := some 22) (v := ?_) (a' := ?_) #[false, true, false, false, false, false, false, false, false, false] rfl rfl (any_of HT_.out (by kernel_rfl)) (fun _ _ _ h => h) (Or.inl ⟨by rfl, ?_⟩) ?_ ?_
           rotate_left
           ·intro w'
            go_simp
            with_reducible rfl
           rotate_left
           ·simp only [Act.put, zL, zM, zN, i64_w, i32_w]
            rfl
           refine pure_ (i := 2) (N := some 23) (v := ?_) (a' := ?_) #[false, true, true, false, false, false, false, false, false, false] rfl rfl (any_of HT_.out (by kernel_rfl)) (fun _ _ _ h => h) (Or.inl ⟨by rfl, ?_⟩) ?_ ?_
           rotate_left
           ·intro w'
            go_simp
            with_reducible rfl
           rotate_left
           ·simp only [Act.put, zL, zM, zN, i64_w, i32_w]
            rfl
           refine pure_ (i := 3) (N := some 24) (v := ?_) (a' := ?_) #[false, true, true, true, false, false, false, false, false, false] rfl rfl (any_of HT_.out (by kernel_rfl)) (fun _ _ _ h => h) (Or.inl ⟨by rfl, ?_⟩) ?_ ?_
           rotate_left
           ·intro w'
            go_simp
            with_reducible rfl
           rotate_left
           ·simp only [Act.put, zL, zM, zN, i64_w, i32_w]
            rfl
           refine pure_ (i := 5) (N := some 26) (v := ?_) (a' := ?_) #[false, true, true, true, false, true, false, false, false, false] rfl rfl (any_of HT_.out (by kernel_rfl)) (fun _ _ _ h => h) (Or.inl ⟨by rfl, ?_⟩) ?_ ?_
           rotate_left
           ·intro w'
            go_simp
            with_reducible rfl
           rotate_left
           ·simp only [Act.put, zL, zM, zN, i64_w, i32_w]
            rfl
           refine pure_ (i := 6) (N := some 27) (v := ?_) (a' := ?_) #[false, true, true, true, false, true, true, false, false, false] rfl rfl (any_of HT_.out (by kernel_rfl)) (fun _ _ _ h => h) (Or.inl ⟨by rfl, ?_⟩) ?_ ?_
           rotate_left
           ·intro w'
            go_simp
            with_reducible rfl
           rotate_left
           ·simp only [Act.put, zL, zM, zN, i64_w, i32_w]
            rfl
           refine pure_ (i := 7) (N := some 28) (v := ?_) (a' := ?_) #[false, true, true, true, false, true, true, true, false, false] rfl rfl (any_of HT_.out (by kernel_rfl)) (fun _ _ _ h => h) (Or.inl ⟨by rfl, ?_⟩) ?_ ?_
           rotate_left
           ·intro w'
            go_simp
            with_reducible rfl
           rotate_left
           ·simp only [Act.put, zL, zM, zN, i64_w, i32_w]
            rfl
           refine take_ (i := 0) (N := some 21) (v := ?_) (a' := ?_) #[true, true, true, true, false, true, true, true, false, false] rfl rfl (take_ofW HT_.out HW_.out (by kernel_rfl)) (fun _ _ _ h => h) (Or.inl ⟨by rfl, ?_⟩) hHeld ?_ ?_
           rotate_left
           ·rintro w' ⟨s0, s1, s2, s3⟩
            go_simp
            with_reducible rfl
           rotate_left
           ·simp only [Act.put, zL, zM, zN, i64_w, i32_w]
            rfl
           refine take_ (i := 4) (N := some 25) (v := ?_) (a' := ?_) #[true, true, true, true, true, true, true, true, false, false] rfl rfl (take_ofW HT_.out HW_.out (by kernel_rfl)) (fun _ _ _ h => h) (Or.inl ⟨by rfl, ?_⟩) hHeld ?_ ?_
           rotate_left
           ·rintro w' ⟨s0, s1, s2, s3⟩
            go_simp
            with_reducible rfl
           rotate_left
           ·simp only [Act.put, zL, zM, zN, i64_w, i32_w]
            rfl
           refine take_ (i := 8) (N := some 29) (v := ?_) (a' := ?_) #[true, true, true, true, true, true, true, true, true, false] rfl rfl (take_ofW HT_.out HW_.out (by kernel_rfl)) (fun _ _ _ h => h) (Or.inl ⟨by rfl, ?_⟩) hHeld ?_ ?_
           rotate_left
           ·rintro w' ⟨s0, s1, s2, s3⟩
            go_simp
            with_reducible rfl
           rotate_left
           ·simp only [Act.put, zL, zM, zN, i64_w, i32_w]
            rfl
           refine one_ (i := 9) (N := some 30) #[true, true, true, true, true, true, true, true, true, true] rfl rfl (one_of HT_.out (by kernel_rfl)) (by decide) (fun K hK => ?_)
           refine goes_ Tryd.func108 (by kernel_rfl) rfl #[.agg #[.int .i64 a0_0, .slice A0_1 l0_1.length c0_1], .int .i64 (rd l1 x7_1), .int .i64 (rd l2 x8_2)] (by rfl) rfl rfl (by (try simp only [List.map_toArray, List.map_cons, List.map_nil]); first | done | rfl | (simp only [List.length_drop, List.length_take]; rfl)) ?_
           with_reducible refine (spec_l02Dep.calls a0_0 _ _ l0_1 (rd l1 x7_1) (rd l2 x8_2) true _ ?side1 ?side2 A10.out).mono ?_
           (case side1 => repeat (first | exact (Kd.C_below HR0_1.out HB.out) | (with_reducible refine Kd.C_alloc ?_ _) | (with_reducible refine Kd.C_drewN ?_ _) | (with_reducible refine Kd.C_drew ?_)))
           (case side2 => exact HC0_1.out)
           rintro e w13 ⟨rfl, hb⟩
           refine ⟨_, rfl, ?_⟩
           have n0_ := zA (blk_below (g := gb591) (o := .cells #[.int .i64 a0_0, .slice A0_1 l0_1.length c0_1] 26 (0, 0)) (zR BK591.out) hb)
           have n1_ := zA (below_step (zT HB.out GE591.out) hb)
           clear BK591
           clear HB
           have BK591 := n0_
           have HB := n1_
           clear n0_ n1_
           (try clear hb)
           (try clear hb2)
           (try clear hk)
           (try clear hi)
           (try clear hgw)
           refine hK.out _ _ ⟨(blk_cell BK591.out 0).trans rfl, (blk_cell BK591.out 1).trans rfl, (pw_cell_below HB.out hw592_0), (pw_cell_below HB.out hw593_0)⟩ (fun hHeld => ?_)
           clear hK K
           refine norm_ (a' := ?_) ?_ ?_
           rotate_left
           ·show Act.put _ (some 30) _ = _
            simp only [Act.put, zL, zM, zN, i64_w, i32_w]
            rfl
           refine done_ (done_of HT_.out (by kernel_rfl)) ?_
           try go_wp2
           go_ret
           exact ⟨by first | rfl | (simp [errW_none, errW_some] <;> rfl) | (simp [*, errW_none, errW_some] <;> rfl), by repeat (first | (with_reducible first | exact HB.out | apply zB | apply zC | apply zD | refine zE ?_ GE591.out) | exact HB.out)⟩
          replace c11 := Bool.eq_false_iff.mpr c11
          subst c11
          have H1 : (spec_l05Independent.l1 k2 l1 l2 x7_1 (wrap64 (x8_2 + 1)) a0_0 l0_1) = some r := by rw [if_neg (show ¬ (false = true) by decide)] at H; exact H
          clear H
          have H := H1
          clear H1
          have H' := zA H
          clear H
          try go_wp2
          have n0_ := zA (zK BK591.out)
          have n1_ := zA (zD HB.out)
          clear BK591
          clear HB
          have BK591 := n0_
          have HB := n1_
          clear n0_ n1_
          have p592 : 0 ≤ (x7_1 : Int) := of_decide_eq_true (by first | (with_reducible assumption) | assumption)
          have q592 : x7_1 < (l1.length : Int) := of_decide_eq_true (by first | (with_reducible assumption) | assumption)
          obtain ⟨ad592, e592, hx592_0⟩ := Kd.at_int HR1.out x7_1 p592 q592
          have hw592_0 := hx592_0
          cases e592
          replace hx592_0 := (HB.out.cell (World.block_lt_of_cell? w _ hx592_0)).trans hx592_0
          replace p592 := eq_true p592
          replace q592 := eq_true q592
          have p593 : 0 ≤ (x8_2 : Int) := of_decide_eq_true (by first | (with_reducible assumption) | assumption)
          have q593 : x8_2 < (l2.length : Int) := of_decide_eq_true (by first | (with_reducible assumption) | assumption)
          obtain ⟨ad593, e593, hx593_0⟩ := Kd.at_int HR2.out x8_2 p593 q593
          have hw593_0 := hx593_0
          cases e593
          replace hx593_0 := (HB.out.cell (World.block_lt_of_cell? w _ hx593_0)).trans hx593_0
          replace p593 := eq_true p593
          replace q593 := eq_true q593
          refine start_ (n := 10) (S := fun w' => w'.cell? ⟨gb591, 0, none⟩ = some (.int .i64 a0_0) ∧ w'.cell? ⟨gb591, 1, none⟩ = some (.slice A0_1 l0_1.length c0_1) ∧ w'.cell? (ad592.add (x7_1).toNat) = some (.int .i64 (rd l1 x7_1)) ∧ w'.cell? (ad593.add (x8_2).toNat) = some (.int .i64 (rd l2 x8_2))) (ds := []) #[false, false, false, false, false, false, false, false, false, false] (by kernel_rfl) rfl rfl ⟨(blk_cell BK591.out 0).trans rfl, (blk_cell BK591.out 1).trans rfl, (pw_cell_below HB.out hw592_0), (pw_cell_below HB.out hw593_0)⟩ (fun hHeld => ?_); refine with_tabW spec_l05Independent.tab7 spec_l05Independent.bits7 (fun HT_ HW_ => ?_)
          generalize wr.drew = w14 at BK591 HB hx592_0 hx593_0 hHeld ⊢
          refine pure_ (i := 1) (N := some 22) (v := ?_) (a' := ?_) #[false, true, false, false, false, false, false, false, false, false] rfl rfl (any_of HT_.out (by kernel_rfl)) (fun _ _ _ h => h) (Or.inl ⟨by rfl, ?_⟩) ?_ ?_
          rotate_left
          ·intro w'
           go_simp
           with_reducible rfl
          rotate_left
          ·simp only [Act.put, zL, zM, zN, i64_w, i32_w]
           rfl
          refine pure_ (i := 2) (N := some 23) (v := ?_) (a' := ?_) #[false, true, true, false, false, false, false, false, false, false] rfl rfl (any_of HT_.out (by kernel_rfl)) (fun _ _ _ h => h) (Or.inl ⟨by rfl, ?_⟩) ?_ ?_
          rotate_left
          ·intro w'
           go_simp
           with_reducible rfl
          rotate_left
          ·simp only [Act.put, zL, zM, zN, i64_w, i32_w]
           rfl
          refine pure_ (i := 3) (N := some 24) (v := ?_) (a' := ?_) #[false, true, true, true, false, false, false, false, false, false] rfl rfl (any_of HT_.out (by kernel_rfl)) (fun _ _ _ h => h) (Or.inl ⟨by rfl, ?_⟩) ?_ ?_
          rotate_left
          ·intro w'
           go_simp
           with_reducible rfl
          rotate_left
          ·simp only [Act.put, zL, zM, zN, i64_w, i32_w]
           rfl
          refine pure_ (i := 5) (N := some 26) (v := ?_) (a' := ?_) #[false, true, true, true, false, true, false, false, false, false] rfl rfl (any_of HT_.out (by kernel_rfl)) (fun _ _ _ h => h) (Or.inl ⟨by rfl, ?_⟩) ?_ ?_
          rotate_left
          ·intro w'
           go_simp
           with_reducible rfl
          rotate_left
          ·simp only [Act.put, zL, zM, zN, i64_w, i32_w]
           rfl
          refine pure_ (i := 6) (N := some 27) (v := ?_) (a' := ?_) #[false, true, true, true, false, true, true, false, false, false] rfl rfl (any_of HT_.out (by kernel_rfl)) (fun _ _ _ h => h) (Or.inl ⟨by rfl, ?_⟩) ?_ ?_
          rotate_left
          ·intro w'
           go_simp
           with_reducible rfl
          rotate_left
          ·simp only [Act.put, zL, zM, zN, i64_w, i32_w]
           rfl
          refine pure_ (i := 7) (N := some 28) (v := ?_) (a' := ?_) #[false, true, true, true, false, true, true, true, false, false] rfl rfl (any_of HT_.out (by kernel_rfl)) (fun _ _ _ h => h) (Or.inl ⟨by rfl, ?_⟩) ?_ ?_
          rotate_left
          ·intro w'
           go_simp
           with_reducible rfl
          rotate_left
          ·simp only [Act.put, zL, zM, zN, i64_w, i32_w]
           rfl
          refine take_ (i := 0) (N := some 21) (v := ?_) (a' := ?_) #[true, true, true, true, false, true, true, true, false, false] rfl rfl (take_ofW HT_.out HW_.out (by kernel_rfl)) (fun _ _ _ h => h) (Or.inl ⟨by rfl, ?_⟩) hHeld ?_ ?_
          rotate_left
          ·rintro w' ⟨s0, s1, s2, s3⟩
           go_simp
           with_reducible rfl
          rotate_left
          ·simp only [Act.put, zL, zM, zN, i64_w, i32_w]
           rfl
          refine take_ (i := 4) (N := some 25) (v := ?_) (a' := ?_) #[true, true, true, true, true, true, true, true, false, false] rfl rfl (take_ofW HT_.out HW_.out (by kernel_rfl)) (fun _ _ _ h => h) (Or.inl ⟨by rfl, ?_⟩) hHeld ?_ ?_
          rotate_left
          ·rintro w' ⟨s0, s1, s2, s3⟩
           go_simp
           with_reducible rfl
          rotate_left
          ·simp only [Act.put, zL, zM, zN, i64_w, i32_w]
           rfl
          refine take_ (i := 8) (N := some 29) (v := ?_) (a' := ?_) #[true, true, true, true, true, true, true, true, true, false] rfl rfl (take_ofW HT_.out HW_.out (by kernel_rfl)) (fun _ _ _ h => h) (Or.inl ⟨by rfl, ?_⟩) hHeld ?_ ?_
          rotate_left
          ·rintro w' ⟨s0, s1, s2, s3⟩
           go_simp
           with_reducible rfl
          rotate_left
          ·simp only [Act.put, zL, zM, zN, i64_w, i32_w]
           rfl
          refine one_ (i := 9) (N := some 30) #[true, true, true, true, true, true, true, true, true, true] rfl rfl (one_of HT_.out (by kernel_rfl)) (by decide) (fun K hK => ?_)
          refine goes_ Tryd.func108 (by kernel_rfl) rfl #[.agg #[.int .i64 a0_0, .slice A0_1 l0_1.length c0_1], .int .i64 (rd l1 x7_1), .int .i64 (rd l2 x8_2)] (by rfl) rfl rfl (by (try simp only [List.map_toArray, List.map_cons, List.map_nil]); first | done | rfl | (simp only [List.length_drop, List.length_take]; rfl)) ?_
          with_reducible refine (spec_l02Dep.calls a0_0 _ _ l0_1 (rd l1 x7_1) (rd l2 x8_2) false _ ?side1 ?side2 A10.out).mono ?_
          (case side1 => repeat (first | exact (Kd.C_below HR0_1.out HB.out) | (with_reducible refine Kd.C_alloc ?_ _) | (with_reducible refine Kd.C_drewN ?_ _) | (with_reducible refine Kd.C_drew ?_)))
          (case side2 => exact HC0_1.out)
          rintro e w15 ⟨rfl, hb⟩
          refine ⟨_, rfl, ?_⟩
          have n0_ := zA (blk_below (g := gb591) (o := .cells #[.int .i64 a0_0, .slice A0_1 l0_1.length c0_1] 26 (0, 0)) (zR BK591.out) hb)
          have n1_ := zA (below_step (zT HB.out GE591.out) hb)
          clear BK591
          clear HB
          have BK591 := n0_
          have HB := n1_
          clear n0_ n1_
          (try clear hb)
          (try clear hb2)
          (try clear hk)
          (try clear hi)
          (try clear hgw)
          refine hK.out _ _ ⟨(blk_cell BK591.out 0).trans rfl, (blk_cell BK591.out 1).trans rfl, (pw_cell_below HB.out hw592_0), (pw_cell_below HB.out hw593_0)⟩ (fun hHeld => ?_)
          clear hK K
          refine norm_ (a' := ?_) ?_ ?_
          rotate_left
          ·show Act.put _ (some 30) _ = _
           simp only [Act.put, zL, zM, zN, i64_w, i32_w]
           rfl
          refine done_ (done_of HT_.out (by kernel_rfl)) ?_
          try go_wp2
          go_roundg k2
          case measure => have := HK1.out; have := HK2.out; omega
          case rel => exact ⟨(wrap64 (x8_2 + 1)), (by first | rfl | (simp; done) | (simp [*]; done)), H', ⟨by have := HK1.out; have := HK2.out; omega⟩, ⟨by (with_reducible repeat (first | refine zJ ?_ _ | refine zK ?_ | refine zI ?_ _)); exact BK591.out⟩, ⟨zT HB.out GE591.out⟩⟩
         rw [if_neg c9] at H
         exact absurd H (by simp)
        rw [if_neg c8] at H
        exact absurd H (by simp)
       rw [if_neg c7] at H
       exact absurd H (by simp)
      rw [if_neg c6] at H
      have c6b0 : decide (x8_2 < (l2.length : Int)) = false := decide_eq_false c6
      clear c6
      have H' := zA H
      clear H
      go_wp2
      go_roundg k2
      case measure => have := HK1.out; have := HK2.out; omega
      case rel => exact ⟨(wrap64 (x7_1 + 1)), (by first | rfl | (simp; done) | (simp [*]; done)), H', ⟨by have := HK1.out; have := HK2.out; omega⟩, ⟨by (with_reducible repeat (first | refine zJ ?_ _ | refine zK ?_ | refine zI ?_ _)); exact BK591.out⟩, ⟨zT HB.out GE591.out⟩⟩
   rw [if_neg c5] at H
   have c5b0 : decide (x7_1 < (l1.length : Int)) = false := decide_eq_false c5
   clear c5
   obtain rfl := Option.some.inj H
   go_wp2
   go_ret
   exact ⟨by first | rfl | (simp [errW_none, errW_some] <;> rfl) | (simp [*, errW_none, errW_some] <;> rfl), by repeat (first | (with_reducible first | exact HB.out | apply zB | apply zC | apply zD | refine zE ?_ GE591.out) | exact HB.out)⟩

end Go.Proofs.YtkiacoilecdepaaDoor.PAll
