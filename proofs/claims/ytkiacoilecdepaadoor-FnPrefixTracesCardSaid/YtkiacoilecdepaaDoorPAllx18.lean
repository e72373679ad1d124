-- Printed by a program of the session (wip/tools/pgen.py) out of the translation. Not trusted: Lean checks it.
import Derived.Test.YtkiacoilecdepaaDoorPAllx0
import Derived.Test.YtkiacoilecdepaaDoorPAllx1
import Derived.Test.YtkiacoilecdepaaDoorPAllx4
import Derived.Test.YtkiacoilecdepaaDoorPAllx5
import Derived.Test.YtkiacoilecdepaaDoorPAllx7
import Derived.Test.YtkiacoilecdepaaDoorPAllx14
namespace Go.Proofs.YtkiacoilecdepaaDoor.PAll
open Go.RowKit Go.Proofs.YtkiacoilecdepaaDoor.T Go.Proofs.YtkiacoilecdepaaDoorW.PrintWords Go.Proofs.YtkiacoilecdepaaDoorW.PrintLast Go.Proofs.YtkiacoilecdepaaDoorW.PrintMore
attribute [local go_sem] max2_int min2_int max_two min_two max_three min_three max_four min_four   -- for this text's walks alone
set_option linter.unusedVariables false
set_option linter.unusedSimpArgs false

/-! ### spec_DrawPrefixAt: function 30 -/
def spec_DrawPrefixAt.l0 : Nat → List Int → List Int → Int → Int → List Int → Int → Int → Int → List Int → Option (Int × List Int × List Int × Int)
 | 0, _, _, _, _, _, _, _, _, _ => none
 | k + 1, x7, x8, x9, x10, x436000, x436001, x436002, x444000, x444001 => if x10 < (x7.length : Int) then ((spec_l01Next.f x436000 x436001 x436002 4).bind fun bt451 => (if bt451.1 = 0 then ((spec_l01Below.f k x8 x10).bind fun t454 => (spec_DrawPrefixAt.l0 k x7 x8 (Go.bits .or .i64 x9 t454) (wrap64 (x10 + 1)) x436000 bt451.2.1 bt451.2.2 x444000 x444001)) else (spec_DrawPrefixAt.l0 k x7 x8 x9 (wrap64 (x10 + 1)) x436000 bt451.2.1 bt451.2.2 x444000 x444001))) else ((spec_l01Next.f x436000 x436001 x436002 10).bind fun bt455 => (if bt455.1 = 0 then ((spec_l01One.f (x7.length : Int)).bind fun t458 => ((spec_l01Next.f x436000 bt455.2.1 bt455.2.2 t458).bind fun bt459 => (some (x444000, x444001, x7, bt459.1)))) else (if bt455.1 = 1 then ((spec_l01One.f (x7.length : Int)).bind fun t462 => ((spec_l01Pick.f x436000 bt455.2.1 bt455.2.2 (([(-1), t462, 1099511627776] : List Int))).bind fun bt466 => (some (x444000, x444001, x7, bt466.1)))) else (some (x444000, x444001, x7, x9)))))
def spec_DrawPrefixAt.f (k : Nat) (l0 : List Int) : Option (Int × List Int × List Int × Int) := (spec_l03Pair.f k l0 6 20).bind fun bt432 => ((spec_l03Is.f k bt432.2.2.2.1 bt432.2.2.2.2.1 bt432.2.2.2.2.2).bind fun t444 => (if t444 = true then ((spec_l03Normal.f k bt432.2.2.2.1 bt432.2.2.2.2.1 bt432.2.2.2.2.2).bind fun t445 => ((spec_l04Order.f k bt432.2.2.2.1 bt432.2.2.2.2.1 t445).bind fun t448 => (spec_DrawPrefixAt.l0 k bt432.2.2.2.2.2 t448 0 0 bt432.1 bt432.2.1 bt432.2.2.1 bt432.2.2.2.1 bt432.2.2.2.2.1))) else (some (bt432.2.2.2.1, bt432.2.2.2.2.1, bt432.2.2.2.2.2, 1))))

set_option maxHeartbeats 8000000 in
set_option maxRecDepth 100000 in
theorem spec_DrawPrefixAt.calls (k : Nat) (A0 : Option Addr) (c0 : Nat) (l0 : List Int) (r1 : Int) (r2 : List Int) (r3 : List Int) (r4 : Int) (w : World) (hr0 : Kd.C (Kd.int .u8) w A0 l0.length l0) (hc0 : l0.length ≤ c0) (h : spec_DrawPrefixAt.f k l0 = some (r1, r2, r3, r4)) :
  Calls Tryd.prog 30 #[.slice A0 l0.length c0] w fun e w' => ∃ v1_ v2_ : Value, e = .returned (.tuple #[.agg #[.int .i64 r1, v1_], v2_, .int .i64 r4]) ∧ Kd.R (Kd.int .i64) 2 w' w.heap.size (fun k_ => some k_ ≠ (v2_ : Value).ownBlock) v1_ r2 ∧ Kd.R (Kd.int .i64) 2 w' w.heap.size (fun k_ => some k_ ≠ (v1_ : Value).ownBlock) v2_ r3 ∧ Below w.heap.size w w' := by
 have hu26 := Tryd.underlying26
 have HR0 := zA hr0
 have HC0 := zA hc0
 clear hr0 hc0
 have HB := zA (Below.refl w.heap.size w)
 have H : ((spec_l03Pair.f k l0 6 20).bind fun bt432 => ((spec_l03Is.f k bt432.2.2.2.1 bt432.2.2.2.2.1 bt432.2.2.2.2.2).bind fun t444 => (if t444 = true then ((spec_l03Normal.f k bt432.2.2.2.1 bt432.2.2.2.2.1 bt432.2.2.2.2.2).bind fun t445 => ((spec_l04Order.f k bt432.2.2.2.1 bt432.2.2.2.2.1 t445).bind fun t448 => (spec_DrawPrefixAt.l0 k bt432.2.2.2.2.2 t448 0 0 bt432.1 bt432.2.1 bt432.2.2.1 bt432.2.2.2.1 bt432.2.2.2.2.1))) else (some (bt432.2.2.2.1, bt432.2.2.2.2.1, bt432.2.2.2.2.2, 1))))) = some (r1, r2, r3, r4) := h
 clear h
 obtain ⟨⟨t432, t433, t434, t436, t437, t440⟩, A2, H⟩ := zb H
 try dsimp only at H
 obtain ⟨t444, A3, H⟩ := zb H
 try dsimp only at H
 by_cases c4 : t444 = true
 ·subst c4
  have H1 : ((spec_l03Normal.f k t436 t437 t440).bind fun t445 => ((spec_l04Order.f k t436 t437 t445).bind fun t448 => (spec_DrawPrefixAt.l0 k t440 t448 0 0 t432 t433 t434 t436 t437))) = some (r1, r2, r3, r4) := by rw [if_pos rfl] at H; exact H
  clear H
  have H := H1
  clear H1
  obtain ⟨t445, A5, H⟩ := zb H
  try dsimp only at H
  obtain ⟨t448, A6, H⟩ := zb H
  try dsimp only at H
  have H' := zA H
  clear H
  go_enter Tryd.func30, Tryd.ntmps30
  try go_wp2_with (first | ((with_reducible refine gate_dst (N := 2) rfl ?_); refine box_event ?hg (N := 2) ?hd (cs := #[.int .i64 0, .slice none 0 0]) (t := 26) ?hr ?_; (case hd => rfl); (case hg => rfl); (case hr => first | (go_simp; done) | (go_simp; rfl)); intro gb431 hg w7 hbox hb; have BK431 := zA (hbox); have GW431 := zA ((by rw [hg]; exact (below_size (zQ HB.out)) : w.heap.size ≤ gb431)); have GE431 := zA ((by rw [hg]; exact (below_size (zQ HB.out)) : w.heap.size ≤ gb431)); replace HB := zA (below_step (zQ HB.out) hb); clear hb hbox hg) | ((with_reducible refine gate_callee (f := 48) rfl ?_); refine zO (some 13) Tryd.func48 #[.slice A0 l0.length c0, .int .i64 6, .int .i64 20] ?_; (with_reducible refine (spec_l03Pair.calls k _ _ l0 6 20 t432 t433 t434 t436 t437 t440 w _ ?side1 ?side2 ?side3 A2.out).mono ?_); (case side1 => exact zT HB.out GE431.out); (case side2 => exact HR0.out); (case side3 => exact HC0.out); rintro e w8 ⟨v438, v441, g435, rfl, ho0, ho1, hi, hb, hb2, hgw⟩; refine ⟨_, rfl, ?_⟩; have HO439 := zA (Kd.R_lower ho0 (below_size (zT HB.out GE431.out))); have HO442 := zA (Kd.R_lower ho1 (below_size (zT HB.out GE431.out))); replace HB := zA (hb); have HI435 := zA (hi); have NB435_431 := zA (Z101.ne_blk hi (blk_below (g := gb431) (o := .cells #[.int .i64 0, .slice none 0 0] 26 (0, 0)) (zR BK431.out) hb2) (by decide)); have NB431_435 := zA (Ne.symm (Z101.ne_blk hi (blk_below (g := gb431) (o := .cells #[.int .i64 0, .slice none 0 0] 26 (0, 0)) (zR BK431.out) hb2) (by decide))); replace BK431 := zA (blk_below (g := gb431) (o := .cells #[.int .i64 0, .slice none 0 0] 26 (0, 0)) (zR BK431.out) hb2); (try clear hb); (try clear hb2); (try clear hi); (try clear hgw); (try clear ho0); (try clear ho1)) | ((with_reducible refine gate_dst (N := 6) rfl ?_); refine box_event ?hg (N := 6) ?hd (cs := #[.int .i64 0, .slice none 0 0]) (t := 26) ?hr ?_; (case hd => rfl); (case hg => rfl); (case hr => first | (go_simp; done) | (go_simp; rfl)); intro gb443 hg w9 hbox hb; replace HO439 := zA (Kd.R_below (zP HO439.out) hb); replace HO442 := zA (Kd.R_below (zP HO442.out) hb); have BK443 := zA (hbox); have GW443 := zA ((by rw [hg]; exact (below_size (zV HB.out (Z101.ge HI435.out) GE431.out)) : w.heap.size ≤ gb443)); have GE443 := zA ((by rw [hg]; exact (below_size (zV HB.out (Z101.ge HI435.out) GE431.out)) : w.heap.size ≤ gb443)); replace HB := zA (below_step (zV HB.out (Z101.ge HI435.out) GE431.out) hb); have NB431_443 := zA ((by rw [hg]; exact Nat.ne_of_lt (blk_lt (g := gb431) (o := .cells #[.int .i64 0, .slice none 0 0] 26 (0, 0)) (zR BK431.out)) : gb431 ≠ gb443)); have NB443_431 := zA ((by rw [hg]; exact Nat.ne_of_gt (blk_lt (g := gb431) (o := .cells #[.int .i64 0, .slice none 0 0] 26 (0, 0)) (zR BK431.out)) : gb443 ≠ gb431)); replace BK431 := zA (blk_below (g := gb431) (o := .cells #[.int .i64 0, .slice none 0 0] 26 (0, 0)) (zR BK431.out) hb); have NB435_443 := zA ((by rw [hg]; exact Nat.ne_of_lt (Z101.lt (show Z101 w _ g435 t432 t433 t434 from Z101.uB HI435.out NB435_431.out)) : g435 ≠ gb443)); have NB443_435 := zA ((by rw [hg]; exact Nat.ne_of_gt (Z101.lt (show Z101 w _ g435 t432 t433 t434 from Z101.uB HI435.out NB435_431.out)) : gb443 ≠ g435)); replace HI435 := zA (Z101.below (Z101.uB HI435.out NB435_431.out) hb); clear hb hbox hg; have hnb10 := NB443_431.out; have hnc10 := NB431_443.out; have hnb11 := NB443_435.out; have hnc11 := NB435_443.out; have hcz12_0 : w9.cell? ⟨gb443, 0, none⟩ = some (.int .i64 0) := (blk_cell BK443.out 0).trans rfl; have hcz12_1 : w9.cell? ⟨gb443, 1, none⟩ = some (.slice none 0 0) := (blk_cell BK443.out 1).trans rfl; have hfz12_0 := blk_frozen BK443.out 0; have hfz12_1 := blk_frozen BK443.out 1; obtain ⟨Ao13, co13, eo13⟩ := Kd.R_slice HO439.out; subst eo13; obtain ⟨Ao14, co14, eo14⟩ := Kd.R_slice HO442.out; subst eo14) | ((with_reducible refine gate_callee (f := 77) rfl ?_); refine zO (some 19) Tryd.func77 #[.agg #[.int .i64 t436, .slice Ao13 t437.length co13], .slice Ao14 t440.length co14] ?_; (with_reducible refine (spec_l03Is.calls k t436 _ _ t437 _ _ t440 true _ ?side1 ?side2 ?side3 ?side4 A3.out).mono ?_); (case side1 => refine (Kd.R_reads' (e := 2) (base := w.heap.size) (ok := fun k_ => some k_ ≠ (.slice Ao14 t440.length co14 : Value).ownBlock) (n := t437.length) (c := co13) ?_).2.2; exact (by (with_reducible repeat (first | apply zF | apply zG | apply zH)); exact (Kd.R_mono (Kd.R_far (p := ⟨gb443, 1, none⟩) (Kd.R_far (p := ⟨gb443, 0, none⟩) (Kd.R_types HO439.out BK443.out (by decide)) (fun _ hk => hk.2) (.int .i64 t436)) (fun _ hk => hk.2) (.slice Ao13 t437.length co13)) (fun _ h_ => h_.1)))); (case side2 => exact (Kd.R_reads' HO439.out).2.1); (case side3 => refine (Kd.R_reads' (e := 2) (base := w.heap.size) (ok := fun k_ => some k_ ≠ (.slice Ao13 t437.length co13 : Value).ownBlock) (n := t440.length) (c := co14) ?_).2.2; exact (by (with_reducible repeat (first | apply zF | apply zG | apply zH)); exact (Kd.R_mono (Kd.R_far (p := ⟨gb443, 1, none⟩) (Kd.R_far (p := ⟨gb443, 0, none⟩) (Kd.R_types HO442.out BK443.out (by decide)) (fun _ hk => hk.2) (.int .i64 t436)) (fun _ hk => hk.2) (.slice Ao13 t437.length co13)) (fun _ h_ => h_.1)))); (case side4 => exact (Kd.R_reads' HO442.out).2.1); rintro e w15 ⟨rfl, hb⟩; refine ⟨_, rfl, ?_⟩; replace HO439 := zA (Kd.R_below (by (with_reducible repeat (first | apply zF | apply zG | apply zH)); exact (Kd.R_mono (Kd.R_far (p := ⟨gb443, 1, none⟩) (Kd.R_far (p := ⟨gb443, 0, none⟩) (Kd.R_types HO439.out BK443.out (by decide)) (fun _ hk => hk.2) (.int .i64 t436)) (fun _ hk => hk.2) (.slice Ao13 t437.length co13)) (fun _ h_ => h_.1))) hb); replace HO442 := zA (Kd.R_below (by (with_reducible repeat (first | apply zF | apply zG | apply zH)); exact (Kd.R_mono (Kd.R_far (p := ⟨gb443, 1, none⟩) (Kd.R_far (p := ⟨gb443, 0, none⟩) (Kd.R_types HO442.out BK443.out (by decide)) (fun _ hk => hk.2) (.int .i64 t436)) (fun _ hk => hk.2) (.slice Ao13 t437.length co13)) (fun _ h_ => h_.1))) hb); replace BK431 := zA (blk_below (g := gb431) (o := .cells #[.int .i64 0, .slice none 0 0] 26 (0, 0)) (by (with_reducible repeat (first | refine zJ ?_ _ | refine zK ?_ | refine zI ?_ _)); refine blk_far ?_ NB431_443.out _; (with_reducible repeat (first | refine zJ ?_ _ | refine zK ?_ | refine zI ?_ _)); refine blk_far ?_ NB431_443.out _; (with_reducible repeat (first | refine zJ ?_ _ | refine zK ?_ | refine zI ?_ _)); exact BK431.out) hb); replace BK443 := zA (blk_below (g := gb443) (o := .cells #[.int .i64 t436, .slice Ao13 t437.length co13] 26 (0, 0)) (by (with_reducible repeat (first | refine zJ ?_ _ | refine zK ?_ | refine zI ?_ _)); refine blk_put (cs := #[.int .i64 t436, .slice none 0 0]) ?_ 1 _ rfl; (with_reducible repeat (first | refine zJ ?_ _ | refine zK ?_ | refine zI ?_ _)); refine blk_put (cs := #[.int .i64 0, .slice none 0 0]) ?_ 0 _ rfl; (with_reducible repeat (first | refine zJ ?_ _ | refine zK ?_ | refine zI ?_ _)); exact BK443.out) hb); replace HB := zA (below_step (zW HB.out (Z101.ge HI435.out) GE431.out GE443.out) hb); replace HI435 := zA (Z101.below (show Z101 w ((w9.setCell ⟨gb443, 0, none⟩ (.int .i64 t436)).setCell ⟨gb443, 1, none⟩ (.slice Ao13 t437.length co13)) g435 t432 t433 t434 from Z101.uC HI435.out NB435_431.out NB435_443.out) hb); (try clear hb)))
  replace HO439 := zA (zH HO439.out)
  replace HO442 := zA (zH HO442.out)
  replace BK431 := zA (zK BK431.out)
  replace BK443 := zA (zK BK443.out)
  replace HI435 := zA (Z101.drew HI435.out)
  replace HB := zA (zD HB.out)
  refine start_ (n := 7) (S := fun w' => w'.cell? ⟨gb443, 0, none⟩ = some (.int .i64 t436) ∧ w'.cell? ⟨gb443, 1, none⟩ = some (.slice Ao13 t437.length co13)) (ds := []) #[false, false, false, false, false, false, false] (by kernel_rfl) rfl rfl ⟨(blk_cell BK443.out 0).trans rfl, (blk_cell BK443.out 1).trans rfl⟩ (fun hHeld => ?_)
  generalize w15.drew = w16 at HO439 HO442 BK431 BK443 HI435 HB hHeld ⊢
  refine pure_ (i := 2) (N := some 25) (v := ?_) (a' := ?_) #[false, false, true, false, false, false, false] rfl rfl (by kernel_rfl) (fun _ _ _ h => h) (Or.inl ⟨by rfl, ?_⟩) ?_ ?_
  rotate_left
  ·intro w'
   go_simp
   with_reducible rfl
  rotate_left
  ·simp only [Act.put, zL, zM, zN, i64_w, i32_w]
   rfl
  refine take_ (i := 0) (N := some 23) (v := ?_) (a' := ?_) #[true, false, true, false, false, false, false] rfl rfl (by kernel_rfl) (fun _ _ _ h => h) (Or.inl ⟨by rfl, ?_⟩) hHeld ?_ ?_
  rotate_left
  ·rintro w' ⟨s0, s1⟩
   go_simp
   with_reducible rfl
  rotate_left
  ·simp only [Act.put, zL, zM, zN, i64_w, i32_w]
   rfl
  refine take_ (i := 1) (N := some 24) (v := ?_) (a' := ?_) #[true, true, true, false, false, false, false] rfl rfl (by kernel_rfl) (fun _ _ _ h => h) (Or.inl ⟨by rfl, ?_⟩) hHeld ?_ ?_
  rotate_left
  ·rintro w' ⟨s0, s1⟩
   go_simp
   with_reducible rfl
  rotate_left
  ·simp only [Act.put, zL, zM, zN, i64_w, i32_w]
   rfl
  refine one_ (i := 3) (N := some 26) #[true, true, true, true, false, false, false] rfl rfl (by kernel_rfl) (by decide) (fun K hK => ?_)
  refine goes_ Tryd.func68 (by kernel_rfl) rfl #[.agg #[.int .i64 t436, .slice Ao13 t437.length co13], .slice Ao14 t440.length co14] (by rfl) rfl rfl (by (try simp only [List.map_toArray, List.map_cons, List.map_nil]); first | done | rfl | (simp only [List.length_drop, List.length_take]; rfl)) ?_
  with_reducible refine (spec_l03Normal.calls k t436 _ _ t437 _ _ t440 t445 _ ?side1 ?side2 ?side3 ?side4 A5.out).mono ?_
  (case side1 => exact zS (Kd.R_reads' HO439.out).2.2)
  (case side2 => exact (Kd.R_reads' HO439.out).2.1)
  (case side3 => exact zS (Kd.R_reads' HO442.out).2.2)
  (case side4 => exact (Kd.R_reads' HO442.out).2.1)
  rintro e w17 ⟨v446, rfl, ho0, hb⟩
  refine ⟨_, rfl, ?_⟩
  have HO447 := zA (Kd.R_lower (Kd.R_new' (Kd.R_new' ho0 (Kd.R_lt (zP HO439.out))) (Kd.R_lt (zP HO442.out))) (below_size (zW HB.out (Z101.ge HI435.out) GE431.out GE443.out)))
  replace HO439 := zA (Kd.R_elder' (zP HO439.out) (Kd.R_base ho0) hb)
  replace HO442 := zA (Kd.R_elder' (zP HO442.out) (Kd.R_base ho0) hb)
  replace BK431 := zA (blk_below (g := gb431) (o := .cells #[.int .i64 0, .slice none 0 0] 26 (0, 0)) (zR BK431.out) hb)
  replace BK443 := zA (blk_below (g := gb443) (o := .cells #[.int .i64 t436, .slice Ao13 t437.length co13] 26 (0, 0)) (zR BK443.out) hb)
  replace HB := zA (below_step (zW HB.out (Z101.ge HI435.out) GE431.out GE443.out) hb)
  replace HI435 := zA (Z101.below (Z101.uC HI435.out NB435_431.out NB435_443.out) hb)
  (try clear hb)
  (try clear hb2)
  (try clear hk)
  (try clear hi)
  (try clear hgw)
  (try clear ho0)
  obtain ⟨Ao18, co18, eo18⟩ := Kd.R_slice HO447.out
  (first | subst eo18 | (injection eo18 with f1_ f2_ f3_; have f4_ := f1_.symm; have f5_ := f3_.symm; clear f1_ f2_ f3_; subst f4_; subst f5_))
  refine hK.out _ _ ⟨(blk_cell BK443.out 0).trans rfl, (blk_cell BK443.out 1).trans rfl⟩ (fun hHeld => ?_)
  clear hK K
  refine norm_ (a' := ?_) ?_ ?_
  rotate_left
  ·show Act.put _ (some 26) _ = _
   simp only [Act.put, zL, zM, zN, i64_w, i32_w]
   rfl
  refine one_ (i := 4) (N := some 27) #[true, true, true, true, true, false, false] rfl rfl (by kernel_rfl) (by decide) (fun K hK => ?_)
  refine goes_ Tryd.func78 (by kernel_rfl) rfl #[.agg #[.int .i64 t436, .slice Ao13 t437.length co13], .slice Ao18 t445.length co18] (by rfl) rfl rfl (by (try simp only [List.map_toArray, List.map_cons, List.map_nil]); first | done | rfl | (simp only [List.length_drop, List.length_take]; rfl)) ?_
  with_reducible refine (spec_l04Order.calls k t436 _ _ t437 _ _ t445 t448 _ ?side1 ?side2 ?side3 ?side4 A6.out).mono ?_
  (case side1 => exact zS (Kd.R_reads' HO439.out).2.2)
  (case side2 => exact (Kd.R_reads' HO439.out).2.1)
  (case side3 => exact zS (Kd.R_reads' HO447.out).2.2)
  (case side4 => exact (Kd.R_reads' HO447.out).2.1)
  rintro e w19 ⟨v449, rfl, ho0, hb⟩
  refine ⟨_, rfl, ?_⟩
  have HO450 := zA (Kd.R_lower (Kd.R_new' (Kd.R_new' (Kd.R_new' ho0 (Kd.R_lt (zP HO439.out))) (Kd.R_lt (zP HO442.out))) (Kd.R_lt (zP HO447.out))) (below_size (zW HB.out (Z101.ge HI435.out) GE431.out GE443.out)))
  replace HO439 := zA (Kd.R_elder' (zP HO439.out) (Kd.R_base ho0) hb)
  replace HO442 := zA (Kd.R_elder' (zP HO442.out) (Kd.R_base ho0) hb)
  replace HO447 := zA (Kd.R_elder' (zP HO447.out) (Kd.R_base ho0) hb)
  replace BK431 := zA (blk_below (g := gb431) (o := .cells #[.int .i64 0, .slice none 0 0] 26 (0, 0)) (zR BK431.out) hb)
  replace BK443 := zA (blk_below (g := gb443) (o := .cells #[.int .i64 t436, .slice Ao13 t437.length co13] 26 (0, 0)) (zR BK443.out) hb)
  replace HB := zA (below_step (zW HB.out (Z101.ge HI435.out) GE431.out GE443.out) hb)
  replace HI435 := zA (Z101.below (Z101.uC HI435.out NB435_431.out NB435_443.out) hb)
  (try clear hb)
  (try clear hb2)
  (try clear hk)
  (try clear hi)
  (try clear hgw)
  (try clear ho0)
  refine hK.out _ _ ⟨(blk_cell BK443.out 0).trans rfl, (blk_cell BK443.out 1).trans rfl⟩ (fun hHeld => ?_)
  clear hK K
  refine norm_ (a' := ?_) ?_ ?_
  rotate_left
  ·show Act.put _ (some 27) _ = _
   simp only [Act.put, zL, zM, zN, i64_w, i32_w]
   rfl
  refine pure_ (i := 5) (N := some 8) (v := ?_) (a' := ?_) #[true, true, true, true, true, true, false] rfl rfl (by kernel_rfl) (fun _ _ _ h => h) (Or.inl ⟨by rfl, ?_⟩) ?_ ?_
  rotate_left
  ·intro w'
   go_simp
   with_reducible rfl
  rotate_left
  ·simp only [Act.put, zL, zM, zN, i64_w, i32_w]
   rfl
  refine pure_ (i := 6) (N := some 9) (v := ?_) (a' := ?_) #[true, true, true, true, true, true, true] rfl rfl (by kernel_rfl) (fun _ _ _ h => h) (Or.inl ⟨by rfl, ?_⟩) ?_ ?_
  rotate_left
  ·intro w'
   go_simp
   with_reducible rfl
  rotate_left
  ·simp only [Act.put, zL, zM, zN, i64_w, i32_w]
   rfl
  refine done_ (by kernel_rfl) ?_
  try go_wp2
  go_loopg [9, 10] k (fun kq v9 v10 w' => ∃ (x9_1 : Int) (x10_1 : Int) (x436001_1 : Int) (x436002_1 : Int), v9 = .int .i64 x9_1 ∧ v10 = .int .i64 x10_1 ∧ Aside0 (spec_DrawPrefixAt.l0 kq t440 t448 x9_1 x10_1 t432 x436001_1 x436002_1 t436 t437 = some (r1, r2, r3, r4)) ∧ Aside0 (kq ≤ k) ∧ Aside0 (Kd.R (Kd.int .i64) 2 w' w.heap.size (fun k_ => some k_ ≠ (v449 : Value).ownBlock ∧ some k_ ≠ ((.slice Ao13 t437.length co13) : Value).ownBlock) (.slice Ao14 t440.length co14) t440) ∧ Aside0 (Kd.R (Kd.int .i64) 2 w' w.heap.size (fun k_ => some k_ ≠ ((.slice Ao14 t440.length co14) : Value).ownBlock ∧ some k_ ≠ ((.slice Ao13 t437.length co13) : Value).ownBlock) v449 t448) ∧ Aside0 (Kd.R (Kd.int .i64) 2 w' w.heap.size (fun k_ => some k_ ≠ ((.slice Ao14 t440.length co14) : Value).ownBlock ∧ some k_ ≠ (v449 : Value).ownBlock) (.slice Ao13 t437.length co13) t437) ∧ Aside0 (w'.heap[gb431]? = some (.cells #[.int .i64 0, (.slice none 0 0)] 26 (0, 0))) ∧ Aside0 (w'.heap[gb443]? = some (.cells #[.int .i64 t436, (.slice Ao13 t437.length co13)] 26 (0, 0))) ∧ Aside0 (Z101 w w' g435 t432 x436001_1 x436002_1) ∧ Aside0 (Below w.heap.size w w'))
  case atStart => exact ⟨(0), (0), (t433), (t434), (by first | rfl | (simp; done) | (simp [*]; done)), (by first | rfl | (simp; done) | (simp [*]; done)), H', ⟨Nat.le_refl _⟩, ⟨by (with_reducible repeat (first | apply zF | apply zG | apply zH)); exact Kd.R_mono HO442.out (fun _ hk => ⟨hk.2, hk.1.1⟩)⟩, ⟨by (with_reducible repeat (first | apply zF | apply zG | apply zH)); exact Kd.R_mono HO450.out (fun _ hk => ⟨hk.1.2, hk.1.1.2⟩)⟩, ⟨by (with_reducible repeat (first | apply zF | apply zG | apply zH)); exact Kd.R_mono HO439.out (fun _ hk => ⟨hk.1.1, hk.2⟩)⟩, ⟨by (with_reducible repeat (first | refine zJ ?_ _ | refine zK ?_ | refine zI ?_ _)); exact BK431.out⟩, ⟨by (with_reducible repeat (first | refine zJ ?_ _ | refine zK ?_ | refine zI ?_ _)); exact BK443.out⟩, ⟨Z101.uC HI435.out NB435_431.out NB435_443.out⟩, ⟨zW HB.out (Z101.ge HI435.out) GE431.out GE443.out⟩⟩
  case round =>
   clear H'
   try clear c1
   try clear p2
   try clear c3
   try clear c4
   try clear c6
   try clear c7
   try clear c10
   try clear c11
   try clear hcz12_0
   try clear hcz12_1
   try clear hfz12_0
   try clear hfz12_1
   obtain ⟨x9_1, x10_1, x436001_1, x436002_1, rfl, rfl, HA, HK1, HO_7, HO_8, HO_444001, BK431, BK443, HI435, HB⟩ := hrel
   cases gk with
   | zero => exact absurd HA.out (by simp [spec_DrawPrefixAt.l0])
   | succ k1 =>
    have H := HA.out
    clear HA
    simp only [spec_DrawPrefixAt.l0] at H
    by_cases c20 : x10_1 < (t440.length : Int)
    ·rw [if_pos c20] at H
     have c20b0 : decide (x10_1 < (t440.length : Int)) = true := decide_eq_true c20
     clear c20
     obtain ⟨⟨t451, t452, t453⟩, A21, H⟩ := zb H
     try dsimp only at H
     by_cases c22 : t451 = 0
     ·rw [if_pos c22] at H
      have c22b0 : (t451 == 0) = true := beq_iff_eq.mpr c22
      have c22b1 : (t451 != 0) = false := bne_eq_false_iff_eq.mpr c22
      clear c22
      obtain ⟨t454, A23, H⟩ := zb H
      try dsimp only at H
      have H' := zA H
      clear H
      go_wp2_with (first | ((with_reducible refine gate_callee (f := 79) rfl ?_); refine zO (some 35) Tryd.func79 #[.pointer (some ⟨g435, 0, none⟩), .int .i64 4] ?_; (with_reducible refine (spec_l01Next.calls g435 t432 x436001_1 x436002_1 4 t451 t452 t453 w _ ?side1 ?side2 A21.out).mono ?_); (case side1 => exact Z101.uC HI435.out NB435_431.out NB435_443.out); (case side2 => exact zW HB.out (Z101.ge HI435.out) GE431.out GE443.out); rintro e w24 ⟨rfl, hi, hb, hk⟩; refine ⟨_, rfl, ?_⟩; replace HO_7 := zA (Kd.R_mono (Kd.R_keep (Z101.apart (show Z101 w _ g435 t432 x436001_1 x436002_1 from Z101.uC HI435.out NB435_431.out NB435_443.out) (zP HO_7.out) (by decide)) hk (fun _ h => h.2)) (fun _ h => h.1)); replace HO_8 := zA (Kd.R_mono (Kd.R_keep (Z101.apart (show Z101 w _ g435 t432 x436001_1 x436002_1 from Z101.uC HI435.out NB435_431.out NB435_443.out) (zP HO_8.out) (by decide)) hk (fun _ h => h.2)) (fun _ h => h.1)); replace HO_444001 := zA (Kd.R_mono (Kd.R_keep (Z101.apart (show Z101 w _ g435 t432 x436001_1 x436002_1 from Z101.uC HI435.out NB435_431.out NB435_443.out) (zP HO_444001.out) (by decide)) hk (fun _ h => h.2)) (fun _ h => h.1)); replace BK431 := zA (KeepBut.blk hk (g' := gb431) (o := .cells #[.int .i64 0, .slice none 0 0] 26 (0, 0)) (zR BK431.out) NB431_435.out (by simp)); replace BK443 := zA (KeepBut.blk hk (g' := gb443) (o := .cells #[.int .i64 t436, .slice Ao13 t437.length co13] 26 (0, 0)) (zR BK443.out) NB443_435.out (by simp)); replace HB := zA (hb); replace HI435 := zA (hi); (try clear hb); (try clear hk); (try clear hi); obtain ⟨Ao25, co25, eo25⟩ := Kd.R_slice HO_8.out; subst eo25) | ((with_reducible refine gate_callee (f := 80) rfl ?_); refine zO (some 40) Tryd.func80 #[.slice Ao25 t448.length co25, .int .i64 x10_1] ?_; (with_reducible refine (spec_l01Below.calls k1 _ _ t448 x10_1 t454 _ ?side1 ?side2 A23.out).mono ?_); (case side1 => exact zS (Kd.R_reads' HO_8.out).2.2); (case side2 => exact (Kd.R_reads' HO_8.out).2.1); rintro e w' ⟨rfl, ⟨nd, rfl⟩⟩; refine ⟨_, rfl, ?_⟩))
      go_roundg k1
      case measure => have := HK1.out; omega
      case rel => exact ⟨(Go.bits .or .i64 x9_1 t454), (wrap64 (x10_1 + 1)), (t452), (t453), (by first | rfl | (simp; done) | (simp [*]; done)), (by first | rfl | (simp; done) | (simp [*]; done)), H', ⟨by have := HK1.out; omega⟩, ⟨by (with_reducible repeat (first | apply zF | apply zG | apply zH)); exact HO_7.out⟩, ⟨by (with_reducible repeat (first | apply zF | apply zG | apply zH)); exact HO_8.out⟩, ⟨by (with_reducible repeat (first | apply zF | apply zG | apply zH)); exact HO_444001.out⟩, ⟨by (with_reducible repeat (first | refine zJ ?_ _ | refine zK ?_ | refine zI ?_ _)); exact BK431.out⟩, ⟨by (with_reducible repeat (first | refine zJ ?_ _ | refine zK ?_ | refine zI ?_ _)); exact BK443.out⟩, ⟨Z101.uC HI435.out NB435_431.out NB435_443.out⟩, ⟨zW HB.out (Z101.ge HI435.out) GE431.out GE443.out⟩⟩
     rw [if_neg c22] at H
     have c22b0 : (t451 == 0) = false := beq_eq_false_iff_ne.mpr c22
     have c22b1 : (t451 != 0) = true := bne_iff_ne.mpr c22
     have H' := zA H
     clear H
     go_wp2_with (first | ((with_reducible refine gate_callee (f := 79) rfl ?_); refine zO (some 35) Tryd.func79 #[.pointer (some ⟨g435, 0, none⟩), .int .i64 4] ?_; (with_reducible refine (spec_l01Next.calls g435 t432 x436001_1 x436002_1 4 t451 t452 t453 w _ ?side1 ?side2 A21.out).mono ?_); (case side1 => exact Z101.uC HI435.out NB435_431.out NB435_443.out); (case side2 => exact zW HB.out (Z101.ge HI435.out) GE431.out GE443.out); rintro e w26 ⟨rfl, hi, hb, hk⟩; refine ⟨_, rfl, ?_⟩; replace HO_7 := zA (Kd.R_mono (Kd.R_keep (Z101.apart (show Z101 w _ g435 t432 x436001_1 x436002_1 from Z101.uC HI435.out NB435_431.out NB435_443.out) (zP HO_7.out) (by decide)) hk (fun _ h => h.2)) (fun _ h => h.1)); replace HO_8 := zA (Kd.R_mono (Kd.R_keep (Z101.apart (show Z101 w _ g435 t432 x436001_1 x436002_1 from Z101.uC HI435.out NB435_431.out NB435_443.out) (zP HO_8.out) (by decide)) hk (fun _ h => h.2)) (fun _ h => h.1)); replace HO_444001 := zA (Kd.R_mono (Kd.R_keep (Z101.apart (show Z101 w _ g435 t432 x436001_1 x436002_1 from Z101.uC HI435.out NB435_431.out NB435_443.out) (zP HO_444001.out) (by decide)) hk (fun _ h => h.2)) (fun _ h => h.1)); replace BK431 := zA (KeepBut.blk hk (g' := gb431) (o := .cells #[.int .i64 0, .slice none 0 0] 26 (0, 0)) (zR BK431.out) NB431_435.out (by simp)); replace BK443 := zA (KeepBut.blk hk (g' := gb443) (o := .cells #[.int .i64 t436, .slice Ao13 t437.length co13] 26 (0, 0)) (zR BK443.out) NB443_435.out (by simp)); replace HB := zA (hb); replace HI435 := zA (hi); (try clear hb); (try clear hk); (try clear hi)))
     go_roundg k1
     case measure => have := HK1.out; omega
     case rel => exact ⟨(x9_1), (wrap64 (x10_1 + 1)), (t452), (t453), (by first | rfl | (simp; done) | (simp [*]; done)), (by first | rfl | (simp; done) | (simp [*]; done)), H', ⟨by have := HK1.out; omega⟩, ⟨by (with_reducible repeat (first | apply zF | apply zG | apply zH)); exact HO_7.out⟩, ⟨by (with_reducible repeat (first | apply zF | apply zG | apply zH)); exact HO_8.out⟩, ⟨by (with_reducible repeat (first | apply zF | apply zG | apply zH)); exact HO_444001.out⟩, ⟨by (with_reducible repeat (first | refine zJ ?_ _ | refine zK ?_ | refine zI ?_ _)); exact BK431.out⟩, ⟨by (with_reducible repeat (first | refine zJ ?_ _ | refine zK ?_ | refine zI ?_ _)); exact BK443.out⟩, ⟨Z101.uC HI435.out NB435_431.out NB435_443.out⟩, ⟨zW HB.out (Z101.ge HI435.out) GE431.out GE443.out⟩⟩
    rw [if_neg c20] at H
    have c20b0 : decide (x10_1 < (t440.length : Int)) = false := decide_eq_false c20
    clear c20
    obtain ⟨⟨t455, t456, t457⟩, A27, H⟩ := zb H
    try dsimp only at H
    by_cases c28 : t455 = 0
    ·rw [if_pos c28] at H
     have c28b0 : (t455 == 0) = true := beq_iff_eq.mpr c28
     have c28b1 : (t455 != 0) = false := bne_eq_false_iff_eq.mpr c28
     clear c28
     obtain ⟨t458, A29, H⟩ := zb H
     try dsimp only at H
     obtain ⟨⟨t459, t460, t461⟩, A30, H⟩ := zb H
     try dsimp only at H
     simp only [Option.some.injEq, Prod.mk.injEq] at H
     obtain ⟨rfl, rfl, rfl, rfl⟩ := H
     go_wp2_with (first | ((with_reducible refine gate_callee (f := 79) rfl ?_); refine zO (some 43) Tryd.func79 #[.pointer (some ⟨g435, 0, none⟩), .int .i64 10] ?_; (with_reducible refine (spec_l01Next.calls g435 t432 x436001_1 x436002_1 10 t455 t456 t457 w _ ?side1 ?side2 A27.out).mono ?_); (case side1 => exact Z101.uC HI435.out NB435_431.out NB435_443.out); (case side2 => exact zW HB.out (Z101.ge HI435.out) GE431.out GE443.out); rintro e w31 ⟨rfl, hi, hb, hk⟩; refine ⟨_, rfl, ?_⟩; replace HO_7 := zA (Kd.R_mono (Kd.R_keep (Z101.apart (show Z101 w _ g435 t432 x436001_1 x436002_1 from Z101.uC HI435.out NB435_431.out NB435_443.out) (zP HO_7.out) (by decide)) hk (fun _ h => h.2)) (fun _ h => h.1)); replace HO_8 := zA (Kd.R_mono (Kd.R_keep (Z101.apart (show Z101 w _ g435 t432 x436001_1 x436002_1 from Z101.uC HI435.out NB435_431.out NB435_443.out) (zP HO_8.out) (by decide)) hk (fun _ h => h.2)) (fun _ h => h.1)); replace HO_444001 := zA (Kd.R_mono (Kd.R_keep (Z101.apart (show Z101 w _ g435 t432 x436001_1 x436002_1 from Z101.uC HI435.out NB435_431.out NB435_443.out) (zP HO_444001.out) (by decide)) hk (fun _ h => h.2)) (fun _ h => h.1)); replace BK431 := zA (KeepBut.blk hk (g' := gb431) (o := .cells #[.int .i64 0, .slice none 0 0] 26 (0, 0)) (zR BK431.out) NB431_435.out (by simp)); replace BK443 := zA (KeepBut.blk hk (g' := gb443) (o := .cells #[.int .i64 t436, .slice Ao13 t437.length co13] 26 (0, 0)) (zR BK443.out) NB443_435.out (by simp)); replace HB := zA (hb); replace HI435 := zA (hi); (try clear hb); (try clear hk); (try clear hi)) | ((with_reducible refine gate_callee (f := 54) rfl ?_); refine zO (some 49) Tryd.func54 #[.int .i64 (t440.length : Int)] ?_; (with_reducible refine (spec_l01One.calls (t440.length : Int) t458 _ A29.out).mono ?_); rintro e w' ⟨rfl, ⟨nd, rfl⟩⟩; refine ⟨_, rfl, ?_⟩; (try (rw [drewN_self w31]; generalize hq_ : World.drewN w31 _ = w31; have n0_ : Aside0 (Kd.R (Kd.int .i64) 2 w31 w.heap.size (fun k_ => some k_ ≠ (.slice Ao14 t440.length co14 : Value).ownBlock ∧ some k_ ≠ (v449 : Value).ownBlock) (.slice Ao13 t437.length co13) t437) := ⟨by rw [← hq_]; exact (zP HO_444001.out)⟩; have n1_ : Aside0 (Kd.R (Kd.int .i64) 2 w31 w.heap.size (fun k_ => some k_ ≠ (.slice Ao13 t437.length co13 : Value).ownBlock ∧ some k_ ≠ (v449 : Value).ownBlock) (.slice Ao14 t440.length co14) t440) := ⟨by rw [← hq_]; exact (by (with_reducible repeat (first | apply zF | apply zG | apply zH)); exact Kd.R_mono HO_7.out (fun _ hk => ⟨hk.2, hk.1⟩))⟩; have n2_ : Aside0 (Kd.R (Kd.int .i64) 2 w31 w.heap.size (fun k_ => some k_ ≠ (.slice Ao13 t437.length co13 : Value).ownBlock ∧ some k_ ≠ (.slice Ao14 t440.length co14 : Value).ownBlock) v449 t448) := ⟨by rw [← hq_]; exact (by (with_reducible repeat (first | apply zF | apply zG | apply zH)); exact Kd.R_mono HO_8.out (fun _ hk => ⟨hk.2, hk.1⟩))⟩; have n3_ : Aside0 (w31.heap[gb431]? = some (.cells #[.int .i64 0, .slice none 0 0] 26 (0, 0))) := ⟨by rw [← hq_]; exact (zR BK431.out)⟩; have n4_ : Aside0 (w31.heap[gb443]? = some (.cells #[.int .i64 t436, .slice Ao13 t437.length co13] 26 (0, 0))) := ⟨by rw [← hq_]; exact (zR BK443.out)⟩; have n5_ : Aside0 (Z101 w w31 g435 t432 t456 t457) := ⟨by rw [← hq_]; exact (Z101.uC HI435.out NB435_431.out NB435_443.out)⟩; have n6_ : Aside0 (Below w.heap.size w w31) := ⟨by rw [← hq_]; exact (zW HB.out (Z101.ge HI435.out) GE431.out GE443.out)⟩; clear HO_444001 HO_7 HO_8 BK431 BK443 HI435 HB hq_; have HO_444001 := n0_; have HO_7 := n1_; have HO_8 := n2_; have BK431 := n3_; have BK443 := n4_; have HI435 := n5_; have HB := n6_; clear n0_ n1_ n2_ n3_ n4_ n5_ n6_))) | ((with_reducible refine gate_callee (f := 79) rfl ?_); refine zO (some 50) Tryd.func79 #[.pointer (some ⟨g435, 0, none⟩), .int .i64 t458] ?_; (with_reducible refine (spec_l01Next.calls g435 t432 t456 t457 t458 t459 t460 t461 w _ ?side1 ?side2 A30.out).mono ?_); (case side1 => exact Z101.uC HI435.out NB435_431.out NB435_443.out); (case side2 => exact zW HB.out (Z101.ge HI435.out) GE431.out GE443.out); rintro e w32 ⟨rfl, hi, hb, hk⟩; refine ⟨_, rfl, ?_⟩; replace HO_7 := zA (Kd.R_mono (Kd.R_keep (Z101.apart (show Z101 w _ g435 t432 t456 t457 from Z101.uC HI435.out NB435_431.out NB435_443.out) (zP HO_7.out) (by decide)) hk (fun _ h => h.2)) (fun _ h => h.1)); replace HO_8 := zA (Kd.R_mono (Kd.R_keep (Z101.apart (show Z101 w _ g435 t432 t456 t457 from Z101.uC HI435.out NB435_431.out NB435_443.out) (zP HO_8.out) (by decide)) hk (fun _ h => h.2)) (fun _ h => h.1)); replace HO_444001 := zA (Kd.R_mono (Kd.R_keep (Z101.apart (show Z101 w _ g435 t432 t456 t457 from Z101.uC HI435.out NB435_431.out NB435_443.out) (zP HO_444001.out) (by decide)) hk (fun _ h => h.2)) (fun _ h => h.1)); replace BK431 := zA (KeepBut.blk hk (g' := gb431) (o := .cells #[.int .i64 0, .slice none 0 0] 26 (0, 0)) (zR BK431.out) NB431_435.out (by simp)); replace BK443 := zA (KeepBut.blk hk (g' := gb443) (o := .cells #[.int .i64 t436, .slice Ao13 t437.length co13] 26 (0, 0)) (zR BK443.out) NB443_435.out (by simp)); replace HB := zA (hb); replace HI435 := zA (hi); (try clear hb); (try clear hk); (try clear hi); have hnb33 := NB443_431.out; have hnc33 := NB431_443.out; have hnb34 := NB443_435.out; have hnc34 := NB435_443.out; have hcz35_0 : w32.cell? ⟨gb443, 0, none⟩ = some (.int .i64 t436) := (blk_cell BK443.out 0).trans rfl; have hcz35_1 : w32.cell? ⟨gb443, 1, none⟩ = some (.slice Ao13 t437.length co13) := (blk_cell BK443.out 1).trans rfl; have hfz35_0 := blk_frozen BK443.out 0; have hfz35_1 := blk_frozen BK443.out 1; have hnb36 := NB431_435.out; have hnc36 := NB435_431.out; have hcz37_0 : w32.cell? ⟨gb431, 0, none⟩ = some (.int .i64 0) := (blk_cell BK431.out 0).trans rfl; have hcz37_1 : w32.cell? ⟨gb431, 1, none⟩ = some (.slice none 0 0) := (blk_cell BK431.out 1).trans rfl; have hfz37_0 := blk_frozen BK431.out 0; have hfz37_1 := blk_frozen BK431.out 1))
     refine bodyPost_ret (results_ctt rfl _ _ gb431 26 #[.int .i64 t436, .slice Ao13 t437.length co13] (0, 0) _ rfl (by (with_reducible repeat (first | refine zJ ?_ _ | refine zK ?_ | refine zI ?_ _)); refine blk_put (cs := #[.int .i64 t436, .slice none 0 0]) ?_ 1 _ rfl; (with_reducible repeat (first | refine zJ ?_ _ | refine zK ?_ | refine zI ?_ _)); refine blk_put (cs := #[.int .i64 0, .slice none 0 0]) ?_ 0 _ rfl; (with_reducible repeat (first | refine zJ ?_ _ | refine zK ?_ | refine zI ?_ _)); exact BK431.out) Tryd.underlying26 rfl (by kernel_rfl)) rfl ?_
     exact ⟨_, _, zr, by (with_reducible repeat (first | apply zF | apply zG | apply zH)); exact Kd.R_mono (Kd.R_far (p := ⟨gb431, 1, none⟩) (Kd.R_far (p := ⟨gb431, 0, none⟩) (Kd.R_types HO_444001.out BK431.out (by decide)) (fun _ hk => hk.2) (.int .i64 t436)) (fun _ hk => hk.2) (.slice Ao13 t437.length co13)) (fun _ hk => hk.1.1), by (with_reducible repeat (first | apply zF | apply zG | apply zH)); exact Kd.R_mono (Kd.R_far (p := ⟨gb431, 1, none⟩) (Kd.R_far (p := ⟨gb431, 0, none⟩) (Kd.R_types HO_7.out BK431.out (by decide)) (fun _ hk => hk.2) (.int .i64 t436)) (fun _ hk => hk.2) (.slice Ao13 t437.length co13)) (fun _ hk => by first | exact hk.1.2 | exact hk.1.1), zW HB.out (Z101.ge HI435.out) GE431.out GE443.out⟩
    rw [if_neg c28] at H
    have c28b0 : (t455 == 0) = false := beq_eq_false_iff_ne.mpr c28
    have c28b1 : (t455 != 0) = true := bne_iff_ne.mpr c28
    by_cases c38 : t455 = 1
    ·rw [if_pos c38] at H
     have c38b0 : (t455 == 1) = true := beq_iff_eq.mpr c38
     have c38b1 : (t455 != 1) = false := bne_eq_false_iff_eq.mpr c38
     clear c38
     obtain ⟨t462, A39, H⟩ := zb H
     try dsimp only at H
     obtain ⟨y463, hy463⟩ : ∃ y_ : List Int, y_ = (([(-1), t462, 1099511627776] : List Int)) := ⟨_, rfl⟩
     replace H : ((spec_l01Pick.f t432 t456 t457 y463).bind fun bt466 => (some (t436, t437, t440, bt466.1))) = some (r1, r2, r3, r4) := zy hy463 H
     have Ny463 := zA hy463
     clear hy463
     obtain ⟨⟨t466, t467, t468⟩, A40, H⟩ := zb H
     try dsimp only at H
     simp only [Option.some.injEq, Prod.mk.injEq] at H
     obtain ⟨rfl, rfl, rfl, rfl⟩ := H
     go_wp2_with (first | ((with_reducible refine gate_callee (f := 79) rfl ?_); refine zO (some 43) Tryd.func79 #[.pointer (some ⟨g435, 0, none⟩), .int .i64 10] ?_; (with_reducible refine (spec_l01Next.calls g435 t432 x436001_1 x436002_1 10 t455 t456 t457 w _ ?side1 ?side2 A27.out).mono ?_); (case side1 => exact Z101.uC HI435.out NB435_431.out NB435_443.out); (case side2 => exact zW HB.out (Z101.ge HI435.out) GE431.out GE443.out); rintro e w41 ⟨rfl, hi, hb, hk⟩; refine ⟨_, rfl, ?_⟩; replace HO_7 := zA (Kd.R_mono (Kd.R_keep (Z101.apart (show Z101 w _ g435 t432 x436001_1 x436002_1 from Z101.uC HI435.out NB435_431.out NB435_443.out) (zP HO_7.out) (by decide)) hk (fun _ h => h.2)) (fun _ h => h.1)); replace HO_8 := zA (Kd.R_mono (Kd.R_keep (Z101.apart (show Z101 w _ g435 t432 x436001_1 x436002_1 from Z101.uC HI435.out NB435_431.out NB435_443.out) (zP HO_8.out) (by decide)) hk (fun _ h => h.2)) (fun _ h => h.1)); replace HO_444001 := zA (Kd.R_mono (Kd.R_keep (Z101.apart (show Z101 w _ g435 t432 x436001_1 x436002_1 from Z101.uC HI435.out NB435_431.out NB435_443.out) (zP HO_444001.out) (by decide)) hk (fun _ h => h.2)) (fun _ h => h.1)); replace BK431 := zA (KeepBut.blk hk (g' := gb431) (o := .cells #[.int .i64 0, .slice none 0 0] 26 (0, 0)) (zR BK431.out) NB431_435.out (by simp)); replace BK443 := zA (KeepBut.blk hk (g' := gb443) (o := .cells #[.int .i64 t436, .slice Ao13 t437.length co13] 26 (0, 0)) (zR BK443.out) NB443_435.out (by simp)); replace HB := zA (hb); replace HI435 := zA (hi); (try clear hb); (try clear hk); (try clear hi)) | ((with_reducible refine gate_callee (f := 54) rfl ?_); refine zO (some 56) Tryd.func54 #[.int .i64 (t440.length : Int)] ?_; (with_reducible refine (spec_l01One.calls (t440.length : Int) t462 _ A39.out).mono ?_); rintro e w' ⟨rfl, ⟨nd, rfl⟩⟩; refine ⟨_, rfl, ?_⟩; (try (rw [drewN_self w41]; generalize hq_ : World.drewN w41 _ = w41; have n0_ : Aside0 (Kd.R (Kd.int .i64) 2 w41 w.heap.size (fun k_ => some k_ ≠ (.slice Ao14 t440.length co14 : Value).ownBlock ∧ some k_ ≠ (v449 : Value).ownBlock) (.slice Ao13 t437.length co13) t437) := ⟨by rw [← hq_]; exact (zP HO_444001.out)⟩; have n1_ : Aside0 (Kd.R (Kd.int .i64) 2 w41 w.heap.size (fun k_ => some k_ ≠ (.slice Ao13 t437.length co13 : Value).ownBlock ∧ some k_ ≠ (v449 : Value).ownBlock) (.slice Ao14 t440.length co14) t440) := ⟨by rw [← hq_]; exact (by (with_reducible repeat (first | apply zF | apply zG | apply zH)); exact Kd.R_mono HO_7.out (fun _ hk => ⟨hk.2, hk.1⟩))⟩; have n2_ : Aside0 (Kd.R (Kd.int .i64) 2 w41 w.heap.size (fun k_ => some k_ ≠ (.slice Ao13 t437.length co13 : Value).ownBlock ∧ some k_ ≠ (.slice Ao14 t440.length co14 : Value).ownBlock) v449 t448) := ⟨by rw [← hq_]; exact (by (with_reducible repeat (first | apply zF | apply zG | apply zH)); exact Kd.R_mono HO_8.out (fun _ hk => ⟨hk.2, hk.1⟩))⟩; have n3_ : Aside0 (w41.heap[gb431]? = some (.cells #[.int .i64 0, .slice none 0 0] 26 (0, 0))) := ⟨by rw [← hq_]; exact (zR BK431.out)⟩; have n4_ : Aside0 (w41.heap[gb443]? = some (.cells #[.int .i64 t436, .slice Ao13 t437.length co13] 26 (0, 0))) := ⟨by rw [← hq_]; exact (zR BK443.out)⟩; have n5_ : Aside0 (Z101 w w41 g435 t432 t456 t457) := ⟨by rw [← hq_]; exact (Z101.uC HI435.out NB435_431.out NB435_443.out)⟩; have n6_ : Aside0 (Below w.heap.size w w41) := ⟨by rw [← hq_]; exact (zW HB.out (Z101.ge HI435.out) GE431.out GE443.out)⟩; clear HO_444001 HO_7 HO_8 BK431 BK443 HI435 HB hq_; have HO_444001 := n0_; have HO_7 := n1_; have HO_8 := n2_; have BK431 := n3_; have BK443 := n4_; have HI435 := n5_; have HB := n6_; clear n0_ n1_ n2_ n3_ n4_ n5_ n6_))) | ((with_reducible refine gate_dst (N := 57) rfl ?_); refine Kd.R_lit (Kd.int .i64) _ 2 ?hg (N := 57) ?hd (xs := ([(-1), t462, 1099511627776] : List Int)) (inner := [.int .i64 (-1), .int .i64 t462, .int .i64 1099511627776]) (ok := fun _ => True) (okp := fun _ => True) ?hr ?hp (fun _ hk => hk) trivial (Below.refl _ _) (Nat.le_refl _) (by simp) ?_; (case hd => rfl); (case hg => rfl); (case hr => first | (go_simp; done) | (go_simp; rfl)); (case hp => exact (Reps.one (show Kd.M (Kd.int .i64) _ _ _ (-1) [.int .i64 (-1)] from rfl) (Reps.one (show Kd.M (Kd.int .i64) _ _ _ t462 [.int .i64 t462] from rfl) (Reps.one (show Kd.M (Kd.int .i64) _ _ _ 1099511627776 [.int .i64 1099511627776] from rfl) (Reps.none _ _))))); intro v464 w42 ho43 hb hg_ hnew_; clear hg_ hnew_; (first | rw [← Ny463.out] at ho43 | (simp only [Int.reduceToNat] at ho43; rw [← Ny463.out] at ho43)); have HO465 := zA (Kd.R_lower (Kd.R_new' (Kd.R_new' (Kd.R_new' ho43 (Kd.R_lt (zP HO_7.out))) (Kd.R_lt (zP HO_8.out))) (Kd.R_lt (zP HO_444001.out))) (below_size (zW HB.out (Z101.ge HI435.out) GE431.out GE443.out))); replace HO_7 := zA (Kd.R_elder' (zP HO_7.out) (Kd.R_base ho43) hb); replace HO_8 := zA (Kd.R_elder' (zP HO_8.out) (Kd.R_base ho43) hb); replace HO_444001 := zA (Kd.R_elder' (zP HO_444001.out) (Kd.R_base ho43) hb); replace BK431 := zA (blk_below (g := gb431) (o := .cells #[.int .i64 0, .slice none 0 0] 26 (0, 0)) (zR BK431.out) hb); replace BK443 := zA (blk_below (g := gb443) (o := .cells #[.int .i64 t436, .slice Ao13 t437.length co13] 26 (0, 0)) (zR BK443.out) hb); replace HB := zA (below_step (zW HB.out (Z101.ge HI435.out) GE431.out GE443.out) hb); replace HI435 := zA (Z101.below (Z101.uC HI435.out NB435_431.out NB435_443.out) hb); clear hb ho43; obtain ⟨Ao44, co44, eo44⟩ := Kd.R_slice HO465.out; subst eo44) | ((with_reducible refine gate_callee (f := 81) rfl ?_); refine zO (some 58) Tryd.func81 #[.pointer (some ⟨g435, 0, none⟩), .slice Ao44 y463.length co44] ?_; (with_reducible refine (spec_l01Pick.calls g435 t432 t456 t457 _ _ y463 t466 t467 t468 w _ ?side1 ?side2 ?side3 ?side4 ?side5 A40.out).mono ?_); (case side1 => exact Z101.uC HI435.out NB435_431.out NB435_443.out); (case side2 => exact zW HB.out (Z101.ge HI435.out) GE431.out GE443.out); (case side3 => exact zS (Kd.R_reads' HO465.out).2.2); (case side4 => exact (Kd.R_reads' HO465.out).2.1); (case side5 => exact far_slice (Z101.own_ne HI435.out HO465.out (by decide))); rintro e w45 ⟨rfl, hi, hb, hk⟩; refine ⟨_, rfl, ?_⟩; replace HO_7 := zA (Kd.R_mono (Kd.R_keep (Z101.apart (show Z101 w _ g435 t432 t456 t457 from Z101.uC HI435.out NB435_431.out NB435_443.out) (zP HO_7.out) (by decide)) hk (fun _ h => h.2)) (fun _ h => h.1)); replace HO_8 := zA (Kd.R_mono (Kd.R_keep (Z101.apart (show Z101 w _ g435 t432 t456 t457 from Z101.uC HI435.out NB435_431.out NB435_443.out) (zP HO_8.out) (by decide)) hk (fun _ h => h.2)) (fun _ h => h.1)); replace HO_444001 := zA (Kd.R_mono (Kd.R_keep (Z101.apart (show Z101 w _ g435 t432 t456 t457 from Z101.uC HI435.out NB435_431.out NB435_443.out) (zP HO_444001.out) (by decide)) hk (fun _ h => h.2)) (fun _ h => h.1)); replace BK431 := zA (KeepBut.blk hk (g' := gb431) (o := .cells #[.int .i64 0, .slice none 0 0] 26 (0, 0)) (zR BK431.out) NB431_435.out (by simp)); replace BK443 := zA (KeepBut.blk hk (g' := gb443) (o := .cells #[.int .i64 t436, .slice Ao13 t437.length co13] 26 (0, 0)) (zR BK443.out) NB443_435.out (by simp)); replace HO465 := zA (Kd.R_mono (Kd.R_keep (Z101.apart (show Z101 w _ g435 t432 t456 t457 from Z101.uC HI435.out NB435_431.out NB435_443.out) (zP HO465.out) (by decide)) hk (fun _ h => h.2)) (fun _ h => h.1)); replace HB := zA (hb); replace HI435 := zA (hi); (try clear hb); (try clear hk); (try clear hi); have hnb46 := NB443_431.out; have hnc46 := NB431_443.out; have hnb47 := NB443_435.out; have hnc47 := NB435_443.out; have hcz48_0 : w45.cell? ⟨gb443, 0, none⟩ = some (.int .i64 t436) := (blk_cell BK443.out 0).trans rfl; have hcz48_1 : w45.cell? ⟨gb443, 1, none⟩ = some (.slice Ao13 t437.length co13) := (blk_cell BK443.out 1).trans rfl; have hfz48_0 := blk_frozen BK443.out 0; have hfz48_1 := blk_frozen BK443.out 1; have hnb49 := NB431_435.out; have hnc49 := NB435_431.out; have hcz50_0 : w45.cell? ⟨gb431, 0, none⟩ = some (.int .i64 0) := (blk_cell BK431.out 0).trans rfl; have hcz50_1 : w45.cell? ⟨gb431, 1, none⟩ = some (.slice none 0 0) := (blk_cell BK431.out 1).trans rfl; have hfz50_0 := blk_frozen BK431.out 0; have hfz50_1 := blk_frozen BK431.out 1))
     refine bodyPost_ret (results_ctt rfl _ _ gb431 26 #[.int .i64 t436, .slice Ao13 t437.length co13] (0, 0) _ rfl (by (with_reducible repeat (first | refine zJ ?_ _ | refine zK ?_ | refine zI ?_ _)); refine blk_put (cs := #[.int .i64 t436, .slice none 0 0]) ?_ 1 _ rfl; (with_reducible repeat (first | refine zJ ?_ _ | refine zK ?_ | refine zI ?_ _)); refine blk_put (cs := #[.int .i64 0, .slice none 0 0]) ?_ 0 _ rfl; (with_reducible repeat (first | refine zJ ?_ _ | refine zK ?_ | refine zI ?_ _)); exact BK431.out) Tryd.underlying26 rfl (by kernel_rfl)) rfl ?_
     exact ⟨_, _, zr, by (with_reducible repeat (first | apply zF | apply zG | apply zH)); exact Kd.R_mono (Kd.R_far (p := ⟨gb431, 1, none⟩) (Kd.R_far (p := ⟨gb431, 0, none⟩) (Kd.R_types HO_444001.out BK431.out (by decide)) (fun _ hk => hk.2) (.int .i64 t436)) (fun _ hk => hk.2) (.slice Ao13 t437.length co13)) (fun _ hk => hk.1.1.1), by (with_reducible repeat (first | apply zF | apply zG | apply zH)); exact Kd.R_mono (Kd.R_far (p := ⟨gb431, 1, none⟩) (Kd.R_far (p := ⟨gb431, 0, none⟩) (Kd.R_types HO_7.out BK431.out (by decide)) (fun _ hk => hk.2) (.int .i64 t436)) (fun _ hk => hk.2) (.slice Ao13 t437.length co13)) (fun _ hk => by first | exact hk.1.1.2 | exact hk.1.1.1), zW HB.out (Z101.ge HI435.out) GE431.out GE443.out⟩
    rw [if_neg c38] at H
    have c38b0 : (t455 == 1) = false := beq_eq_false_iff_ne.mpr c38
    have c38b1 : (t455 != 1) = true := bne_iff_ne.mpr c38
    simp only [Option.some.injEq, Prod.mk.injEq] at H
    obtain ⟨rfl, rfl, rfl, rfl⟩ := H
    go_wp2_with (first | ((with_reducible refine gate_callee (f := 79) rfl ?_); refine zO (some 43) Tryd.func79 #[.pointer (some ⟨g435, 0, none⟩), .int .i64 10] ?_; (with_reducible refine (spec_l01Next.calls g435 t432 x436001_1 x436002_1 10 t455 t456 t457 w _ ?side1 ?side2 A27.out).mono ?_); (case side1 => exact Z101.uC HI435.out NB435_431.out NB435_443.out); (case side2 => exact zW HB.out (Z101.ge HI435.out) GE431.out GE443.out); rintro e w51 ⟨rfl, hi, hb, hk⟩; refine ⟨_, rfl, ?_⟩; replace HO_7 := zA (Kd.R_mono (Kd.R_keep (Z101.apart (show Z101 w _ g435 t432 x436001_1 x436002_1 from Z101.uC HI435.out NB435_431.out NB435_443.out) (zP HO_7.out) (by decide)) hk (fun _ h => h.2)) (fun _ h => h.1)); replace HO_8 := zA (Kd.R_mono (Kd.R_keep (Z101.apart (show Z101 w _ g435 t432 x436001_1 x436002_1 from Z101.uC HI435.out NB435_431.out NB435_443.out) (zP HO_8.out) (by decide)) hk (fun _ h => h.2)) (fun _ h => h.1)); replace HO_444001 := zA (Kd.R_mono (Kd.R_keep (Z101.apart (show Z101 w _ g435 t432 x436001_1 x436002_1 from Z101.uC HI435.out NB435_431.out NB435_443.out) (zP HO_444001.out) (by decide)) hk (fun _ h => h.2)) (fun _ h => h.1)); replace BK431 := zA (KeepBut.blk hk (g' := gb431) (o := .cells #[.int .i64 0, .slice none 0 0] 26 (0, 0)) (zR BK431.out) NB431_435.out (by simp)); replace BK443 := zA (KeepBut.blk hk (g' := gb443) (o := .cells #[.int .i64 t436, .slice Ao13 t437.length co13] 26 (0, 0)) (zR BK443.out) NB443_435.out (by simp)); replace HB := zA (hb); replace HI435 := zA (hi); (try clear hb); (try clear hk); (try clear hi); have hnb52 := NB443_431.out; have hnc52 := NB431_443.out; have hnb53 := NB443_435.out; have hnc53 := NB435_443.out; have hcz54_0 : w51.cell? ⟨gb443, 0, none⟩ = some (.int .i64 t436) := (blk_cell BK443.out 0).trans rfl; have hcz54_1 : w51.cell? ⟨gb443, 1, none⟩ = some (.slice Ao13 t437.length co13) := (blk_cell BK443.out 1).trans rfl; have hfz54_0 := blk_frozen BK443.out 0; have hfz54_1 := blk_frozen BK443.out 1; have hnb55 := NB431_435.out; have hnc55 := NB435_431.out; have hcz56_0 : w51.cell? ⟨gb431, 0, none⟩ = some (.int .i64 0) := (blk_cell BK431.out 0).trans rfl; have hcz56_1 : w51.cell? ⟨gb431, 1, none⟩ = some (.slice none 0 0) := (blk_cell BK431.out 1).trans rfl; have hfz56_0 := blk_frozen BK431.out 0; have hfz56_1 := blk_frozen BK431.out 1))
    refine bodyPost_ret (results_ctt rfl _ _ gb431 26 #[.int .i64 t436, .slice Ao13 t437.length co13] (0, 0) _ rfl (by (with_reducible repeat (first | refine zJ ?_ _ | refine zK ?_ | refine zI ?_ _)); refine blk_put (cs := #[.int .i64 t436, .slice none 0 0]) ?_ 1 _ rfl; (with_reducible repeat (first | refine zJ ?_ _ | refine zK ?_ | refine zI ?_ _)); refine blk_put (cs := #[.int .i64 0, .slice none 0 0]) ?_ 0 _ rfl; (with_reducible repeat (first | refine zJ ?_ _ | refine zK ?_ | refine zI ?_ _)); exact BK431.out) Tryd.underlying26 rfl (by kernel_rfl)) rfl ?_
    exact ⟨_, _, zr, by (with_reducible repeat (first | apply zF | apply zG | apply zH)); exact Kd.R_mono (Kd.R_far (p := ⟨gb431, 1, none⟩) (Kd.R_far (p := ⟨gb431, 0, none⟩) (Kd.R_types HO_444001.out BK431.out (by decide)) (fun _ hk => hk.2) (.int .i64 t436)) (fun _ hk => hk.2) (.slice Ao13 t437.length co13)) (fun _ hk => hk.1.1), by (with_reducible repeat (first | apply zF | apply zG | apply zH)); exact Kd.R_mono (Kd.R_far (p := ⟨gb431, 1, none⟩) (Kd.R_far (p := ⟨gb431, 0, none⟩) (Kd.R_types HO_7.out BK431.out (by decide)) (fun _ hk => hk.2) (.int .i64 t436)) (fun _ hk => hk.2) (.slice Ao13 t437.length co13)) (fun _ hk => by first | exact hk.1.2 | exact hk.1.1), zW HB.out (Z101.ge HI435.out) GE431.out GE443.out⟩
 replace c4 := Bool.eq_false_iff.mpr c4
 subst c4
 have H1 : (some (t436, t437, t440, 1)) = some (r1, r2, r3, r4) := by rw [if_neg (show ¬ (false = true) by decide)] at H; exact H
 clear H
 have H := H1
 clear H1
 simp only [Option.some.injEq, Prod.mk.injEq] at H
 obtain ⟨rfl, rfl, rfl, rfl⟩ := H
 go_enter Tryd.func30, Tryd.ntmps30
 go_wp2_with (first | ((with_reducible refine gate_dst (N := 2) rfl ?_); refine box_event ?hg (N := 2) ?hd (cs := #[.int .i64 0, .slice none 0 0]) (t := 26) ?hr ?_; (case hd => rfl); (case hg => rfl); (case hr => first | (go_simp; done) | (go_simp; rfl)); intro gb431 hg w57 hbox hb; have BK431 := zA (hbox); have GW431 := zA ((by rw [hg]; exact (below_size (zQ HB.out)) : w.heap.size ≤ gb431)); have GE431 := zA ((by rw [hg]; exact (below_size (zQ HB.out)) : w.heap.size ≤ gb431)); replace HB := zA (below_step (zQ HB.out) hb); clear hb hbox hg) | ((with_reducible refine gate_callee (f := 48) rfl ?_); refine zO (some 13) Tryd.func48 #[.slice A0 l0.length c0, .int .i64 6, .int .i64 20] ?_; (with_reducible refine (spec_l03Pair.calls k _ _ l0 6 20 t432 t433 t434 t436 t437 t440 w _ ?side1 ?side2 ?side3 A2.out).mono ?_); (case side1 => exact zT HB.out GE431.out); (case side2 => exact HR0.out); (case side3 => exact HC0.out); rintro e w58 ⟨v438, v441, g435, rfl, ho0, ho1, hi, hb, hb2, hgw⟩; refine ⟨_, rfl, ?_⟩; have HO439 := zA (Kd.R_lower ho0 (below_size (zT HB.out GE431.out))); have HO442 := zA (Kd.R_lower ho1 (below_size (zT HB.out GE431.out))); replace HB := zA (hb); have HI435 := zA (hi); have NB435_431 := zA (Z101.ne_blk hi (blk_below (g := gb431) (o := .cells #[.int .i64 0, .slice none 0 0] 26 (0, 0)) (zR BK431.out) hb2) (by decide)); have NB431_435 := zA (Ne.symm (Z101.ne_blk hi (blk_below (g := gb431) (o := .cells #[.int .i64 0, .slice none 0 0] 26 (0, 0)) (zR BK431.out) hb2) (by decide))); replace BK431 := zA (blk_below (g := gb431) (o := .cells #[.int .i64 0, .slice none 0 0] 26 (0, 0)) (zR BK431.out) hb2); (try clear hb); (try clear hb2); (try clear hi); (try clear hgw); (try clear ho0); (try clear ho1)) | ((with_reducible refine gate_dst (N := 6) rfl ?_); refine box_event ?hg (N := 6) ?hd (cs := #[.int .i64 0, .slice none 0 0]) (t := 26) ?hr ?_; (case hd => rfl); (case hg => rfl); (case hr => first | (go_simp; done) | (go_simp; rfl)); intro gb443 hg w59 hbox hb; replace HO439 := zA (Kd.R_below (zP HO439.out) hb); replace HO442 := zA (Kd.R_below (zP HO442.out) hb); have BK443 := zA (hbox); have GW443 := zA ((by rw [hg]; exact (below_size (zV HB.out (Z101.ge HI435.out) GE431.out)) : w.heap.size ≤ gb443)); have GE443 := zA ((by rw [hg]; exact (below_size (zV HB.out (Z101.ge HI435.out) GE431.out)) : w.heap.size ≤ gb443)); replace HB := zA (below_step (zV HB.out (Z101.ge HI435.out) GE431.out) hb); have NB431_443 := zA ((by rw [hg]; exact Nat.ne_of_lt (blk_lt (g := gb431) (o := .cells #[.int .i64 0, .slice none 0 0] 26 (0, 0)) (zR BK431.out)) : gb431 ≠ gb443)); have NB443_431 := zA ((by rw [hg]; exact Nat.ne_of_gt (blk_lt (g := gb431) (o := .cells #[.int .i64 0, .slice none 0 0] 26 (0, 0)) (zR BK431.out)) : gb443 ≠ gb431)); replace BK431 := zA (blk_below (g := gb431) (o := .cells #[.int .i64 0, .slice none 0 0] 26 (0, 0)) (zR BK431.out) hb); have NB435_443 := zA ((by rw [hg]; exact Nat.ne_of_lt (Z101.lt (show Z101 w _ g435 t432 t433 t434 from Z101.uB HI435.out NB435_431.out)) : g435 ≠ gb443)); have NB443_435 := zA ((by rw [hg]; exact Nat.ne_of_gt (Z101.lt (show Z101 w _ g435 t432 t433 t434 from Z101.uB HI435.out NB435_431.out)) : gb443 ≠ g435)); replace HI435 := zA (Z101.below (Z101.uB HI435.out NB435_431.out) hb); clear hb hbox hg; have hnb60 := NB443_431.out; have hnc60 := NB431_443.out; have hnb61 := NB443_435.out; have hnc61 := NB435_443.out; have hcz62_0 : w59.cell? ⟨gb443, 0, none⟩ = some (.int .i64 0) := (blk_cell BK443.out 0).trans rfl; have hcz62_1 : w59.cell? ⟨gb443, 1, none⟩ = some (.slice none 0 0) := (blk_cell BK443.out 1).trans rfl; have hfz62_0 := blk_frozen BK443.out 0; have hfz62_1 := blk_frozen BK443.out 1; obtain ⟨Ao63, co63, eo63⟩ := Kd.R_slice HO439.out; subst eo63; obtain ⟨Ao64, co64, eo64⟩ := Kd.R_slice HO442.out; subst eo64) | ((with_reducible refine gate_callee (f := 77) rfl ?_); refine zO (some 19) Tryd.func77 #[.agg #[.int .i64 t436, .slice Ao63 t437.length co63], .slice Ao64 t440.length co64] ?_; (with_reducible refine (spec_l03Is.calls k t436 _ _ t437 _ _ t440 false _ ?side1 ?side2 ?side3 ?side4 A3.out).mono ?_); (case side1 => refine (Kd.R_reads' (e := 2) (base := w.heap.size) (ok := fun k_ => some k_ ≠ (.slice Ao64 t440.length co64 : Value).ownBlock) (n := t437.length) (c := co63) ?_).2.2; exact (by (with_reducible repeat (first | apply zF | apply zG | apply zH)); exact (Kd.R_mono (Kd.R_far (p := ⟨gb443, 1, none⟩) (Kd.R_far (p := ⟨gb443, 0, none⟩) (Kd.R_types HO439.out BK443.out (by decide)) (fun _ hk => hk.2) (.int .i64 t436)) (fun _ hk => hk.2) (.slice Ao63 t437.length co63)) (fun _ h_ => h_.1)))); (case side2 => exact (Kd.R_reads' HO439.out).2.1); (case side3 => refine (Kd.R_reads' (e := 2) (base := w.heap.size) (ok := fun k_ => some k_ ≠ (.slice Ao63 t437.length co63 : Value).ownBlock) (n := t440.length) (c := co64) ?_).2.2; exact (by (with_reducible repeat (first | apply zF | apply zG | apply zH)); exact (Kd.R_mono (Kd.R_far (p := ⟨gb443, 1, none⟩) (Kd.R_far (p := ⟨gb443, 0, none⟩) (Kd.R_types HO442.out BK443.out (by decide)) (fun _ hk => hk.2) (.int .i64 t436)) (fun _ hk => hk.2) (.slice Ao63 t437.length co63)) (fun _ h_ => h_.1)))); (case side4 => exact (Kd.R_reads' HO442.out).2.1); rintro e w65 ⟨rfl, hb⟩; refine ⟨_, rfl, ?_⟩; replace HO439 := zA (Kd.R_below (by (with_reducible repeat (first | apply zF | apply zG | apply zH)); exact (Kd.R_mono (Kd.R_far (p := ⟨gb443, 1, none⟩) (Kd.R_far (p := ⟨gb443, 0, none⟩) (Kd.R_types HO439.out BK443.out (by decide)) (fun _ hk => hk.2) (.int .i64 t436)) (fun _ hk => hk.2) (.slice Ao63 t437.length co63)) (fun _ h_ => h_.1))) hb); replace HO442 := zA (Kd.R_below (by (with_reducible repeat (first | apply zF | apply zG | apply zH)); exact (Kd.R_mono (Kd.R_far (p := ⟨gb443, 1, none⟩) (Kd.R_far (p := ⟨gb443, 0, none⟩) (Kd.R_types HO442.out BK443.out (by decide)) (fun _ hk => hk.2) (.int .i64 t436)) (fun _ hk => hk.2) (.slice Ao63 t437.length co63)) (fun _ h_ => h_.1))) hb); replace BK431 := zA (blk_below (g := gb431) (o := .cells #[.int .i64 0, .slice none 0 0] 26 (0, 0)) (by (with_reducible repeat (first | refine zJ ?_ _ | refine zK ?_ | refine zI ?_ _)); refine blk_far ?_ NB431_443.out _; (with_reducible repeat (first | refine zJ ?_ _ | refine zK ?_ | refine zI ?_ _)); refine blk_far ?_ NB431_443.out _; (with_reducible repeat (first | refine zJ ?_ _ | refine zK ?_ | refine zI ?_ _)); exact BK431.out) hb); replace BK443 := zA (blk_below (g := gb443) (o := .cells #[.int .i64 t436, .slice Ao63 t437.length co63] 26 (0, 0)) (by (with_reducible repeat (first | refine zJ ?_ _ | refine zK ?_ | refine zI ?_ _)); refine blk_put (cs := #[.int .i64 t436, .slice none 0 0]) ?_ 1 _ rfl; (with_reducible repeat (first | refine zJ ?_ _ | refine zK ?_ | refine zI ?_ _)); refine blk_put (cs := #[.int .i64 0, .slice none 0 0]) ?_ 0 _ rfl; (with_reducible repeat (first | refine zJ ?_ _ | refine zK ?_ | refine zI ?_ _)); exact BK443.out) hb); replace HB := zA (below_step (zW HB.out (Z101.ge HI435.out) GE431.out GE443.out) hb); replace HI435 := zA (Z101.below (show Z101 w ((w59.setCell ⟨gb443, 0, none⟩ (.int .i64 t436)).setCell ⟨gb443, 1, none⟩ (.slice Ao63 t437.length co63)) g435 t432 t433 t434 from Z101.uC HI435.out NB435_431.out NB435_443.out) hb); (try clear hb); have hcz66_0 : w65.cell? ⟨gb443, 0, none⟩ = some (.int .i64 t436) := (blk_cell BK443.out 0).trans rfl; have hcz66_1 : w65.cell? ⟨gb443, 1, none⟩ = some (.slice Ao63 t437.length co63) := (blk_cell BK443.out 1).trans rfl; have hfz66_0 := blk_frozen BK443.out 0; have hfz66_1 := blk_frozen BK443.out 1; have hnb67 := NB431_435.out; have hnc67 := NB435_431.out; have hcz68_0 : w65.cell? ⟨gb431, 0, none⟩ = some (.int .i64 0) := (blk_cell BK431.out 0).trans rfl; have hcz68_1 : w65.cell? ⟨gb431, 1, none⟩ = some (.slice none 0 0) := (blk_cell BK431.out 1).trans rfl; have hfz68_0 := blk_frozen BK431.out 0; have hfz68_1 := blk_frozen BK431.out 1))
 refine bodyPost_ret (results_ctt rfl _ _ gb431 26 #[.int .i64 t436, .slice Ao63 t437.length co63] (0, 0) _ rfl (by (with_reducible repeat (first | refine zJ ?_ _ | refine zK ?_ | refine zI ?_ _)); refine blk_put (cs := #[.int .i64 t436, .slice none 0 0]) ?_ 1 _ rfl; (with_reducible repeat (first | refine zJ ?_ _ | refine zK ?_ | refine zI ?_ _)); refine blk_put (cs := #[.int .i64 0, .slice none 0 0]) ?_ 0 _ rfl; (with_reducible repeat (first | refine zJ ?_ _ | refine zK ?_ | refine zI ?_ _)); exact BK431.out) Tryd.underlying26 rfl (by kernel_rfl)) rfl ?_
 exact ⟨_, _, zr, by (with_reducible repeat (first | apply zF | apply zG | apply zH)); exact Kd.R_mono (Kd.R_far (p := ⟨gb431, 1, none⟩) (Kd.R_far (p := ⟨gb431, 0, none⟩) (Kd.R_types HO439.out BK431.out (by decide)) (fun _ hk => hk.2) (.int .i64 t436)) (fun _ hk => hk.2) (.slice Ao63 t437.length co63)) (fun _ hk => hk.1), by (with_reducible repeat (first | apply zF | apply zG | apply zH)); exact Kd.R_mono (Kd.R_far (p := ⟨gb431, 1, none⟩) (Kd.R_far (p := ⟨gb431, 0, none⟩) (Kd.R_types HO442.out BK431.out (by decide)) (fun _ hk => hk.2) (.int .i64 t436)) (fun _ hk => hk.2) (.slice Ao63 t437.length co63)) (fun _ hk => by first | exact hk.1 | exact hk.2), zW HB.out (Z101.ge HI435.out) GE431.out GE443.out⟩

/-! ### impl_IsMask: function 61 -/
def impl_IsMask.f (a0 : Int) (a1 : Int) : Option (Bool) := (impl_inRange.f a1 0 24).bind fun t480 => (if t480 = true then ((impl_one.f a1).bind fun t481 => ((impl_inRange.f a0 0 (wrap64 (t481 - 1))).bind fun t482 => (some t482))) else (some false))
set_option maxHeartbeats 8000000 in
set_option maxRecDepth 100000 in
theorem impl_IsMask.calls (a0 : Int) (a1 : Int) (r : Bool) (w : World) (h : impl_IsMask.f a0 a1 = some r) :
  Calls Tryd.prog 61 #[.int .i64 a0, .int .i64 a1] w fun e w' => e = .returned (.bool r) ∧ Drawn0 w w' := by
 have H : ((impl_inRange.f a1 0 24).bind fun t480 => (if t480 = true then ((impl_one.f a1).bind fun t481 => ((impl_inRange.f a0 0 (wrap64 (t481 - 1))).bind fun t482 => (some t482))) else (some false))) = some r := h
 clear h
 obtain ⟨t480, A3, H⟩ := zb H
 try dsimp only at H
 by_cases c4 : t480 = true
 ·subst c4
  have H1 : ((impl_one.f a1).bind fun t481 => ((impl_inRange.f a0 0 (wrap64 (t481 - 1))).bind fun t482 => (some t482))) = some r := by rw [if_pos rfl] at H; exact H
  clear H
  have H := H1
  clear H1
  obtain ⟨t481, A5, H⟩ := zb H
  try dsimp only at H
  obtain ⟨t482, A6, H⟩ := zb H
  try dsimp only at H
  obtain rfl := Option.some.inj H
  go_enter Tryd.func61, Tryd.ntmps61
  go_wp2_with (first | ((with_reducible refine gate_callee (f := 111) rfl ?_); refine zO (some 6) Tryd.func111 #[.int .i64 a1, .int .i64 0, .int .i64 24] ?_; (with_reducible refine (impl_inRange.calls a1 0 24 true _ A3.out).mono ?_); rintro e w' ⟨rfl, ⟨nd, rfl⟩⟩; refine ⟨_, rfl, ?_⟩) | (go_at_call 105; (with_reducible refine (impl_one.calls a1 t481 _ A5.out).mono ?_); rintro e w' ⟨rfl, ⟨nd, rfl⟩⟩) | (go_at_call 111; (with_reducible refine (impl_inRange.calls a0 0 (wrap64 (t481 - 1)) t482 _ A6.out).mono ?_); rintro e w' ⟨rfl, ⟨nd, rfl⟩⟩))
  go_ret
  exact ⟨by first | rfl | (simp; done) | (simp [*]; done), by repeat (first | exact Drawn0.refl _ | apply Drawn0.step)⟩
 replace c4 := Bool.eq_false_iff.mpr c4
 subst c4
 have H1 : (some false) = some r := by rw [if_neg (show ¬ (false = true) by decide)] at H; exact H
 clear H
 have H := H1
 clear H1
 obtain rfl := Option.some.inj H
 go_enter Tryd.func61, Tryd.ntmps61
 go_wp2_with (first | ((with_reducible refine gate_callee (f := 111) rfl ?_); refine zO (some 6) Tryd.func111 #[.int .i64 a1, .int .i64 0, .int .i64 24] ?_; (with_reducible refine (impl_inRange.calls a1 0 24 false _ A3.out).mono ?_); rintro e w' ⟨rfl, ⟨nd, rfl⟩⟩; refine ⟨_, rfl, ?_⟩))
 go_ret
 exact ⟨by first | rfl | (simp; done) | (simp [*]; done), by repeat (first | exact Drawn0.refl _ | apply Drawn0.step)⟩

/-! ### impl_closure: function 128 -/
mutual
def impl_closure.l0 : Nat → List Int → Int → Int → Option (List Int)
 | 0, _, _, _ => none
 | k + 1, x3, x10, x11 => if x11 < x10 then (if 0 ≤ x11 then (if x11 < (x3.length : Int) then ((impl_one.f x11).bind fun t487 => (impl_closure.l0 k (x3.set (x11 : Int).toNat (Go.bits .or .i64 (rd x3 x11) t487)) x10 (wrap64 (x11 + 1)))) else (none)) else (none)) else (impl_closure.l1 k x3 (x3.length : Int) 0)
def impl_closure.l1 : Nat → List Int → Int → Int → Option (List Int)
 | 0, _, _, _ => none
 | k + 1, x3, x24, x25 => if x25 < x24 then (impl_closure.l2 k x3 x25 x24 x25 (x3.length : Int) 0) else (some x3)
def impl_closure.l2 : Nat → List Int → Int → Int → Int → Int → Int → Option (List Int)
 | 0, _, _, _, _, _, _ => none
 | k + 1, x3, x5, x24, x25, x29, x30 => if x30 < x29 then (if 0 ≤ x30 then (if x30 < (x3.length : Int) then ((impl_has.f (rd x3 x30) x5).bind fun t490 => (if t490 = true then (if 0 ≤ x5 then (if x5 < (x3.length : Int) then (impl_closure.l2 k (x3.set (x30 : Int).toNat (Go.bits .or .i64 (rd x3 x30) (rd x3 x5))) x5 x24 x25 x29 (wrap64 (x30 + 1))) else (none)) else (none)) else (impl_closure.l2 k x3 x5 x24 x25 x29 (wrap64 (x30 + 1))))) else (none)) else (none)) else (impl_closure.l1 k x3 x24 (wrap64 (x25 + 1)))
end
def impl_closure.f (k : Nat) (l0 : List Int) : Option (List Int) := (slices_Clone_int64_int64.f l0).bind fun t483 => (impl_closure.l0 k t483 (t483.length : Int) 0)

def impl_closure.T5 : Bool × List (List Nat × List Nat) := (true, [([], []), ([], []), ([0, 1], [0, 1]), ([2], [2]), ([], []), ([4], [4]), ([3, 5], [3, 5]), ([0, 1, 0, 1, 2, 3, 4, 5, 6], [0, 1]), ([7, 6, 5, 0, 1, 2, 3, 4, 5, 6], [6, 7])])
def impl_closure.B5 : List Nat := [0, 0, 3, 7, 0, 16, 63, 127, 255]
theorem impl_closure.tab5 : rtab .any (opsOf Tryd.f128 5) = impl_closure.T5 := by kernel_rfl
theorem impl_closure.bits5 : waitsOk impl_closure.T5.2 impl_closure.B5 = true := by kernel_rfl
def impl_closure.T14 : Bool × List (List Nat × List Nat) := (true, [([], []), ([], []), ([0, 1], [0, 1]), ([2], [2]), ([], []), ([], []), ([4, 5], [4, 5]), ([6], [6]), ([3, 7], [3, 7]), ([0, 1, 0, 1, 2, 3, 4, 5, 6, 7, 8], [0, 1]), ([9, 8, 0, 1, 2, 3, 4, 5, 6, 7, 8], [8, 9])])
def impl_closure.B14 : List Nat := [0, 0, 3, 7, 0, 0, 48, 112, 255, 511, 1023]
theorem impl_closure.tab14 : rtab .any (opsOf Tryd.f128 14) = impl_closure.T14 := by kernel_rfl
theorem impl_closure.bits14 : waitsOk impl_closure.T14.2 impl_closure.B14 = true := by kernel_rfl
set_option maxHeartbeats 8000000 in
set_option maxRecDepth 100000 in
theorem impl_closure.calls (k : Nat) (A0 : Option Addr) (c0 : Nat) (l0 : List Int) (r : List Int) (w : World) (hr0 : Kd.C (Kd.int .i64) w A0 l0.length l0) (hc0 : l0.length ≤ c0) (h : impl_closure.f k l0 = some r) :
  Calls Tryd.prog 128 #[.slice A0 l0.length c0] w fun e w' => ∃ v0_ : Value, e = .returned (v0_) ∧ Kd.R (Kd.int .i64) 2 w' w.heap.size (fun _ => True) v0_ r ∧ Below w.heap.size w w' := by
 have HR0 := zA hr0
 have HC0 := zA hc0
 clear hr0 hc0
 have HB := zA (Below.refl w.heap.size w)
 have H : ((slices_Clone_int64_int64.f l0).bind fun t483 => (impl_closure.l0 k t483 (t483.length : Int) 0)) = some r := h
 clear h
 obtain ⟨t483, A2, H⟩ := zb H
 try dsimp only at H
 have H' := zA H
 clear H
 go_enter Tryd.func128, Tryd.ntmps128
 go_wp2_with (first | ((with_reducible refine gate_callee (f := 109) rfl ?_); refine zO (some 8) Tryd.func109 #[.slice A0 l0.length c0] ?_; (with_reducible refine (slices_Clone_int64_int64.calls _ _ l0 t483 _ ?side1 ?side2 A2.out).mono ?_); (case side1 => exact zS HR0.out); (case side2 => exact HC0.out); rintro e w3 ⟨v484, rfl, ho0, hb⟩; refine ⟨_, rfl, ?_⟩; have HO485 := zA (Kd.R_lower ho0 (below_size (zQ HB.out))); replace HB := zA (below_step (zQ HB.out) hb); (try clear hb); (try clear ho0); obtain ⟨Ao4, co4, eo4⟩ := Kd.R_slice HO485.out; subst eo4))
 go_loopg [11] k (fun kq v11 w' => ∃ (x3_1 : List Int) (x11_1 : Int), v11 = .int .i64 x11_1 ∧ Aside0 (impl_closure.l0 kq x3_1 (t483.length : Int) x11_1 = some r) ∧ Aside0 (kq ≤ k) ∧ Aside0 (Kd.R (Kd.int .i64) 2 w' w.heap.size (fun _ => True) (.slice Ao4 t483.length co4) x3_1) ∧ Aside0 (Below w.heap.size w w'))
 case atStart => exact ⟨(t483), (0), (by first | rfl | (simp; done) | (simp [*]; done)), H', ⟨Nat.le_refl _⟩, ⟨by (with_reducible repeat (first | apply zF | apply zG | apply zH)); exact HO485.out⟩, ⟨zQ HB.out⟩⟩
 case round =>
  clear H'
  try clear c1
  try clear p2
  obtain ⟨x3_1, x11_1, rfl, HA, HK1, HO_3, HB⟩ := hrel
  have hl3_1 := (Kd.R_reads' HO_3.out).1
  rw [hl3_1] at HO_3
  (try simp only [hl3_1])
  cases gk with
  | zero => exact absurd HA.out (by simp [impl_closure.l0])
  | succ k1 =>
   have H := HA.out
   clear HA
   simp only [impl_closure.l0] at H
   by_cases c5 : x11_1 < (t483.length : Int)
   ·rw [if_pos c5] at H
    have c5b0 : decide (x11_1 < (t483.length : Int)) = true := decide_eq_true c5
    (try (have c5b0h0_ := c5b0; rw [hl3_1] at c5b0h0_))
    clear c5
    by_cases c6 : 0 ≤ x11_1
    ·rw [if_pos c6] at H
     have c6b0 : decide (0 ≤ x11_1) = true := decide_eq_true c6
     clear c6
     by_cases c7 : x11_1 < (x3_1.length : Int)
     ·rw [if_pos c7] at H
      have c7b0 : decide (x11_1 < (x3_1.length : Int)) = true := decide_eq_true c7
      (try (have c7b0h0_ := c7b0; rw [hl3_1] at c7b0h0_))
      clear c7
      obtain ⟨t487, A8, H⟩ := zb H
      try dsimp only at H
      obtain ⟨y488, hy488⟩ : ∃ y_ : List Int, y_ = (x3_1.set (x11_1 : Int).toNat (Go.bits .or .i64 (rd x3_1 x11_1) t487)) := ⟨_, rfl⟩
      replace H : (impl_closure.l0 k1 y488 (t483.length : Int) (wrap64 (x11_1 + 1))) = some r := zy hy488 H
      have Ny488 := zA hy488
      clear hy488
      have H' := zA H
      clear H
      try go_wp2
      replace HO_3 := zA (zH HO_3.out)
      replace HB := zA (zD HB.out)
      have p486 : 0 ≤ (x11_1 : Int) := zd
      have q486 : x11_1 < (x3_1.length : Int) := zd
      obtain ⟨ad486, e486, hx486_0⟩ := Kd.at_int (Kd.R_reads' HO_3.out).2.2 x11_1 p486 q486
      cases e486
      replace p486 := eq_true p486
      replace q486 := eq_true q486
      refine start_ (n := 9) (S := fun w' => w'.cell? (ad486.add (x11_1).toNat) = some (.int .i64 (rd x3_1 x11_1))) (ds := [8]) #[false, false, false, false, false, false, false, false, false] (by kernel_rfl) rfl rfl (hx486_0) (fun hHeld => ?_); refine with_tabW impl_closure.tab5 impl_closure.bits5 (fun HT_ HW_ => ?_)
      generalize wr.drew = w10 at HO_3 HB hx486_0 hHeld ⊢
      refine zp 0 (some 14) #[true, false, false, false, false, false, false, false, false] HT_.out ?_
      refine zp 1 (some 15) #[true, true, false, false, false, false, false, false, false] HT_.out ?_
      refine zp 2 (some 16) #[true, true, true, false, false, false, false, false, false] HT_.out ?_
      refine zp 4 (some 18) #[true, true, true, false, true, false, false, false, false] HT_.out ?_
      refine za 3 (some 17) #[true, true, true, true, true, false, false, false, false] HT_.out HW_.out hHeld ?_
      refine one_ (i := 5) (N := some 19) #[true, true, true, true, true, true, false, false, false] rfl rfl (one_of HT_.out (by kernel_rfl)) (by decide) (fun K hK => ?_)
      refine goes_ Tryd.func105 (by kernel_rfl) rfl #[.int .i64 x11_1] (by rfl) rfl rfl (by (try simp only [List.map_toArray, List.map_cons, List.map_nil]); first | done | rfl | (simp only [List.length_drop, List.length_take]; rfl)) ?_
      with_reducible refine (impl_one.calls x11_1 t487 _ A8.out).mono ?_
      rintro e w' ⟨rfl, ⟨nd, rfl⟩⟩
      refine ⟨_, rfl, ?_⟩
      have p9 : 0 ≤ (x11_1 : Int) := zd
      have q9 : (x11_1 : Int) < ((x3_1.length : Int) : Int) := zd
      obtain ⟨go9, co9, eo9, gb9, gl9, cl9, HG9⟩ := Kd.R_form HO_3.out (by omega)
      (first | cases eo9 | (injection eo9 with ea_ en_ ec_; (first | subst ea_ | (injection ea_ with ea_; subst ea_)); subst ec_; clear en_))
      have GB9 := zA gb9
      have GG9 := zA HG9
      clear gb9 gl9 HG9
      (first | simp only [add_plain] at hx486_0 | skip)
      obtain ⟨hx9_0, hf9_0⟩ := Kd.R_celln 0 HO_3.out (x11_1 : Int) p9 q9
      replace p9 := eq_true p9
      replace q9 := eq_true q9
      have HP11 := Kd.R_putn HO_3.out (x11_1 : Int) (Go.bits .or .i64 (rd x3_1 x11_1) t487)
      rw [← Ny488.out] at HP11
      have HQ11 := zA HP11
      clear HP11
      refine hK.out _ _ (hHeld) (fun hHeld => ?_)
      clear hK K
      refine norm_ (a' := ?_) ?_ ?_
      rotate_left
      ·show Act.put _ (some 19) _ = _
       simp only [Act.put, zL, zM, zN, i64_w, i32_w]
       rfl
      refine zp 6 (some 20) #[true, true, true, true, true, true, true, false, false] HT_.out ?_
      refine zp 7 (some 21) #[true, true, true, true, true, true, true, true, false] HT_.out ?_
      refine last_ (i := 8) (N := none) #[true, true, true, true, true, true, true, true, true] rfl rfl (one_of HT_.out (by kernel_rfl)) (by decide) (fun K hK => ?_)
      refine skip_ (w1 := ?_) (by rfl) rfl ?_ ?_
      rotate_left
      ·go_simp
       rfl
      refine hK.out _ _ ?_
      clear hK K
      refine done_ (done_of HT_.out (by kernel_rfl)) ?_
      try go_wp2
      (try simp only [← hl3_1])
      go_roundg k1
      case measure => have := HK1.out; omega
      case rel => exact ⟨(y488), (wrap64 (x11_1 + 1)), (by first | rfl | (simp; done) | (simp [*]; done)), H', ⟨by have := HK1.out; omega⟩, ⟨by (try simp only [hl3_1]); (with_reducible repeat (first | apply zF | apply zG | apply zH)); exact HQ11.out⟩, ⟨zT HB.out GB9.out⟩⟩
     rw [if_neg c7] at H
     exact absurd H (by simp)
    rw [if_neg c6] at H
    exact absurd H (by simp)
   rw [if_neg c5] at H
   have c5b0 : decide (x11_1 < (t483.length : Int)) = false := decide_eq_false c5
   (try (have c5b0h0_ := c5b0; rw [hl3_1] at c5b0h0_))
   clear c5
   have H' := zA H
   clear H
   go_wp2
   go_loopg [25] k1 (fun kq v25 w' => ∃ (x3_2 : List Int) (x25_2 : Int), v25 = .int .i64 x25_2 ∧ Aside0 (impl_closure.l1 kq x3_2 (x3_1.length : Int) x25_2 = some r) ∧ Aside0 (kq ≤ k1) ∧ Aside0 (Kd.R (Kd.int .i64) 2 w' w.heap.size (fun _ => True) (.slice Ao4 x3_1.length co4) x3_2) ∧ Aside0 (Below w.heap.size w w'))
   case atStart => exact ⟨(x3_1), (0), (by first | rfl | (simp; done) | (simp [*]; done)), H', ⟨Nat.le_refl _⟩, ⟨by (try simp only [hl3_1]); (with_reducible repeat (first | apply zF | apply zG | apply zH)); exact HO_3.out⟩, ⟨zQ HB.out⟩⟩
   case round =>
    clear H'
    try clear c1
    try clear p2
    try clear p4
    try clear q4
    try clear hx4
    try clear c5
    try clear c5b0
    try clear c6
    try clear c6b0
    try clear p6
    try clear c7
    try clear c7b0
    try clear p9
    try clear q9
    try clear hx9
    try clear hf9
    try clear c10
    try clear hx486_0
    try clear hx9_0
    try clear p2
    try clear p486
    try clear p9
    try clear q486
    try clear q9
    obtain ⟨x3_2, x25_2, rfl, HA, HK2, HO_3, HB⟩ := hrel
    have hl3_2 := (Kd.R_reads' HO_3.out).1
    rw [hl3_2] at HO_3
    (try simp only [hl3_2])
    cases gk with
    | zero => exact absurd HA.out (by simp [impl_closure.l1])
    | succ k2 =>
     have H := HA.out
     clear HA
     simp only [impl_closure.l1] at H
     by_cases c12 : x25_2 < (x3_1.length : Int)
     ·rw [if_pos c12] at H
      have c12b0 : decide (x25_2 < (x3_1.length : Int)) = true := decide_eq_true c12
      (try (have c12b0h0_ := c12b0; rw [hl3_1] at c12b0h0_))
      (try (have c12b0h1_ := c12b0; rw [hl3_2] at c12b0h1_))
      clear c12
      have H' := zA H
      clear H
      go_wp2
      go_loopg [30] k2 (fun kq v30 w' => ∃ (x3_3 : List Int) (x30_3 : Int), v30 = .int .i64 x30_3 ∧ Aside0 (impl_closure.l2 kq x3_3 x25_2 (x3_1.length : Int) x25_2 (x3_2.length : Int) x30_3 = some r) ∧ Aside0 (kq ≤ k2) ∧ Aside0 (Kd.R (Kd.int .i64) 2 w' w.heap.size (fun _ => True) (.slice Ao4 x3_2.length co4) x3_3) ∧ Aside0 (Below w.heap.size w w'))
      case atStart => exact ⟨(x3_2), (0), (by first | rfl | (simp; done) | (simp [*]; done)), H', ⟨Nat.le_refl _⟩, ⟨by (try simp only [hl3_1]); (try simp only [hl3_2]); (with_reducible repeat (first | apply zF | apply zG | apply zH)); exact HO_3.out⟩, ⟨zQ HB.out⟩⟩
      case round =>
       clear H'
       try clear c1
       try clear p2
       try clear p4
       try clear q4
       try clear hx4
       try clear c5
       try clear c5b0
       try clear c6
       try clear c6b0
       try clear p6
       try clear c7
       try clear c7b0
       try clear p9
       try clear q9
       try clear hx9
       try clear hf9
       try clear c10
       try clear c12
       try clear c12b0
       try clear hx486_0
       try clear hx9_0
       try clear p2
       try clear p4
       try clear p486
       try clear p6
       try clear p9
       try clear q4
       try clear q486
       try clear q9
       obtain ⟨x3_3, x30_3, rfl, HA, HK3, HO_3, HB⟩ := hrel
       have hl3_3 := (Kd.R_reads' HO_3.out).1
       rw [hl3_3] at HO_3
       (try simp only [hl3_3])
       cases gk with
       | zero => exact absurd HA.out (by simp [impl_closure.l2])
       | succ k3 =>
        have H := HA.out
        clear HA
        simp only [impl_closure.l2] at H
        by_cases c13 : x30_3 < (x3_2.length : Int)
        ·rw [if_pos c13] at H
         have c13b0 : decide (x30_3 < (x3_2.length : Int)) = true := decide_eq_true c13
         (try (have c13b0h0_ := c13b0; rw [hl3_1] at c13b0h0_))
         (try (have c13b0h1_ := c13b0; rw [hl3_2] at c13b0h1_))
         (try (have c13b0h2_ := c13b0; rw [hl3_3] at c13b0h2_))
         clear c13
         by_cases c14 : 0 ≤ x30_3
         ·rw [if_pos c14] at H
          have c14b0 : decide (0 ≤ x30_3) = true := decide_eq_true c14
          clear c14
          by_cases c15 : x30_3 < (x3_3.length : Int)
          ·rw [if_pos c15] at H
           have c15b0 : decide (x30_3 < (x3_3.length : Int)) = true := decide_eq_true c15
           (try (have c15b0h0_ := c15b0; rw [hl3_1] at c15b0h0_))
           (try (have c15b0h1_ := c15b0; rw [hl3_2] at c15b0h1_))
           (try (have c15b0h2_ := c15b0; rw [hl3_3] at c15b0h2_))
           clear c15
           obtain ⟨t490, A16, H⟩ := zb H
           try dsimp only at H
           by_cases c17 : t490 = true
           ·subst c17
            have H1 : (if 0 ≤ x25_2 then (if x25_2 < (x3_3.length : Int) then (impl_closure.l2 k3 (x3_3.set (x30_3 : Int).toNat (Go.bits .or .i64 (rd x3_3 x30_3) (rd x3_3 x25_2))) x25_2 (x3_1.length : Int) x25_2 (x3_2.length : Int) (wrap64 (x30_3 + 1))) else (none)) else (none)) = some r := by rw [if_pos rfl] at H; exact H
            clear H
            have H := H1
            clear H1
            by_cases c18 : 0 ≤ x25_2
            ·rw [if_pos c18] at H
             have c18b0 : decide (0 ≤ x25_2) = true := decide_eq_true c18
             clear c18
             by_cases c19 : x25_2 < (x3_3.length : Int)
             ·rw [if_pos c19] at H
              have c19b0 : decide (x25_2 < (x3_3.length : Int)) = true := decide_eq_true c19
              (try (have c19b0h0_ := c19b0; rw [hl3_1] at c19b0h0_))
              (try (have c19b0h1_ := c19b0; rw [hl3_2] at c19b0h1_))
              (try (have c19b0h2_ := c19b0; rw [hl3_3] at c19b0h2_))
              clear c19
              obtain ⟨y493, hy493⟩ : ∃ y_ : List Int, y_ = (x3_3.set (x30_3 : Int).toNat (Go.bits .or .i64 (rd x3_3 x30_3) (rd x3_3 x25_2))) := ⟨_, rfl⟩
              replace H : (impl_closure.l2 k3 y493 x25_2 (x3_1.length : Int) x25_2 (x3_2.length : Int) (wrap64 (x30_3 + 1))) = some r := zy hy493 H
              have Ny493 := zA hy493
              clear hy493
              have H' := zA H
              clear H
              have p489 : 0 ≤ (x30_3 : Int) := zd
              have q489 : x30_3 < (x3_3.length : Int) := zd
              obtain ⟨ad489, e489, hx489_0⟩ := Kd.at_int (Kd.R_reads' HO_3.out).2.2 x30_3 p489 q489
              cases e489
              replace p489 := eq_true p489
              replace q489 := eq_true q489
              try go_wp2_with (first | ((with_reducible refine gate_callee (f := 104) rfl ?_); refine zO (some 38) Tryd.func104 #[.int .i64 (rd x3_3 x30_3), .int .i64 x25_2] ?_; (with_reducible refine (impl_has.calls (rd x3_3 x30_3) x25_2 true _ A16.out).mono ?_); rintro e w' ⟨rfl, ⟨nd, rfl⟩⟩; refine ⟨_, rfl, ?_⟩; (try (rw [drewN_self wr]; generalize hq_ : World.drewN wr _ = wr; have n0_ : Aside0 (Kd.R (Kd.int .i64) 2 wr w.heap.size (fun _ => True) (.slice (some ad489) x3_3.length co4) x3_3) := ⟨by rw [← hq_]; exact (zP HO_3.out)⟩; have n1_ : Aside0 (Below w.heap.size w wr) := ⟨by rw [← hq_]; exact (zQ HB.out)⟩; clear HO_3 HB hq_; have HO_3 := n0_; have HB := n1_; clear n0_ n1_))))
              replace HO_3 := zA (zH HO_3.out)
              replace HB := zA (zD HB.out)
              have p491 : 0 ≤ (x30_3 : Int) := zd
              have q491 : x30_3 < (x3_3.length : Int) := zd
              obtain ⟨ad491, e491, hx491_0⟩ := Kd.at_int (Kd.R_reads' HO_3.out).2.2 x30_3 p491 q491
              obtain rfl : ad489 = ad491 := (by injection e491)
              replace p491 := eq_true p491
              replace q491 := eq_true q491
              have p492 : 0 ≤ (x25_2 : Int) := zd
              have q492 : x25_2 < (x3_3.length : Int) := zd
              obtain ⟨ad492, e492, hx492_0⟩ := Kd.at_int (Kd.R_reads' HO_3.out).2.2 x25_2 p492 q492
              obtain rfl : ad489 = ad492 := (by injection e492)
              replace p492 := eq_true p492
              replace q492 := eq_true q492
              have p20 : 0 ≤ (x30_3 : Int) := zd
              have q20 : (x30_3 : Int) < ((x3_3.length : Int) : Int) := zd
              obtain ⟨go20, co20, eo20, gb20, gl20, cl20, HG20⟩ := Kd.R_form HO_3.out (by omega)
              (first | cases eo20 | (injection eo20 with ea_ en_ ec_; (first | subst ea_ | (injection ea_ with ea_; subst ea_)); subst ec_; clear en_))
              have GB20 := zA gb20
              have GG20 := zA HG20
              clear gb20 gl20 HG20
              (first | simp only [add_plain] at hx489_0 | skip)
              (first | simp only [add_plain] at hx491_0 | skip)
              (first | simp only [add_plain] at hx492_0 | skip)
              obtain ⟨hx20_0, hf20_0⟩ := Kd.R_celln 0 HO_3.out (x30_3 : Int) p20 q20
              replace p20 := eq_true p20
              replace q20 := eq_true q20
              have HP22 := Kd.R_putn HO_3.out (x30_3 : Int) (Go.bits .or .i64 (rd x3_3 x30_3) (rd x3_3 x25_2))
              rw [← Ny493.out] at HP22
              have HQ22 := zA HP22
              clear HP22
              refine start_ (n := 11) (S := fun w' => w'.cell? ⟨go20, (x30_3).toNat, none⟩ = some (.int .i64 (rd x3_3 x30_3)) ∧ w'.cell? ⟨go20, (x25_2).toNat, none⟩ = some (.int .i64 (rd x3_3 x25_2))) (ds := [10]) #[false, false, false, false, false, false, false, false, false, false, false] (by kernel_rfl) rfl rfl ⟨hx491_0, hx492_0⟩ (fun hHeld => ?_); refine with_tabW impl_closure.tab14 impl_closure.bits14 (fun HT_ HW_ => ?_)
              generalize wr.drew = w21 at HO_3 HB GG20 HQ22 hf20_0 hx20_0 hx489_0 hx491_0 hx492_0 hHeld ⊢
              refine zp 0 (some 39) #[true, false, false, false, false, false, false, false, false, false, false] HT_.out ?_
              refine zp 1 (some 40) #[true, true, false, false, false, false, false, false, false, false, false] HT_.out ?_
              refine zp 2 (some 41) #[true, true, true, false, false, false, false, false, false, false, false] HT_.out ?_
              refine zp 4 (some 43) #[true, true, true, false, true, false, false, false, false, false, false] HT_.out ?_
              refine zp 5 (some 44) #[true, true, true, false, true, true, false, false, false, false, false] HT_.out ?_
              refine zp 6 (some 45) #[true, true, true, false, true, true, true, false, false, false, false] HT_.out ?_
              refine zc 3 (some 42) #[true, true, true, true, true, true, true, false, false, false, false] HT_.out HW_.out hHeld ?_
              refine zc 7 (some 46) #[true, true, true, true, true, true, true, true, false, false, false] HT_.out HW_.out hHeld ?_
              refine zp 8 (some 47) #[true, true, true, true, true, true, true, true, true, false, false] HT_.out ?_
              refine zp 9 (some 48) #[true, true, true, true, true, true, true, true, true, true, false] HT_.out ?_
              refine last_ (i := 10) (N := none) #[true, true, true, true, true, true, true, true, true, true, true] rfl rfl (one_of HT_.out (by kernel_rfl)) (by decide) (fun K hK => ?_)
              refine skip_ (w1 := ?_) (by rfl) rfl ?_ ?_
              rotate_left
              ·go_simp
               rfl
              refine hK.out _ _ ?_
              clear hK K
              refine done_ (done_of HT_.out (by kernel_rfl)) ?_
              try go_wp2
              (try simp only [← hl3_3])
              go_roundg k3
              case measure => have := HK1.out; have := HK2.out; have := HK3.out; omega
              case rel => exact ⟨(y493), (wrap64 (x30_3 + 1)), (by first | rfl | (simp; done) | (simp [*]; done)), H', ⟨by have := HK1.out; have := HK2.out; have := HK3.out; omega⟩, ⟨by (try simp only [hl3_1]); (try simp only [hl3_2]); (try simp only [hl3_3]); (with_reducible repeat (first | apply zF | apply zG | apply zH)); exact HQ22.out⟩, ⟨zT HB.out GB20.out⟩⟩
             rw [if_neg c19] at H
             exact absurd H (by simp)
            rw [if_neg c18] at H
            exact absurd H (by simp)
           replace c17 := Bool.eq_false_iff.mpr c17
           subst c17
           have H1 : (impl_closure.l2 k3 x3_3 x25_2 (x3_1.length : Int) x25_2 (x3_2.length : Int) (wrap64 (x30_3 + 1))) = some r := by rw [if_neg (show ¬ (false = true) by decide)] at H; exact H
           clear H
           have H := H1
           clear H1
           have H' := zA H
           clear H
           have p489 : 0 ≤ (x30_3 : Int) := zd
           have q489 : x30_3 < (x3_3.length : Int) := zd
           obtain ⟨ad489, e489, hx489_0⟩ := Kd.at_int (Kd.R_reads' HO_3.out).2.2 x30_3 p489 q489
           cases e489
           replace p489 := eq_true p489
           replace q489 := eq_true q489
           go_wp2_with (first | ((with_reducible refine gate_callee (f := 104) rfl ?_); refine zO (some 38) Tryd.func104 #[.int .i64 (rd x3_3 x30_3), .int .i64 x25_2] ?_; (with_reducible refine (impl_has.calls (rd x3_3 x30_3) x25_2 false _ A16.out).mono ?_); rintro e w' ⟨rfl, ⟨nd, rfl⟩⟩; refine ⟨_, rfl, ?_⟩))
           (try simp only [← hl3_3])
           go_roundg k3
           case measure => have := HK1.out; have := HK2.out; have := HK3.out; omega
           case rel => exact ⟨(x3_3), (wrap64 (x30_3 + 1)), (by first | rfl | (simp; done) | (simp [*]; done)), H', ⟨by have := HK1.out; have := HK2.out; have := HK3.out; omega⟩, ⟨by (try simp only [hl3_1]); (try simp only [hl3_2]); (try simp only [hl3_3]); (with_reducible repeat (first | apply zF | apply zG | apply zH)); exact HO_3.out⟩, ⟨zQ HB.out⟩⟩
          rw [if_neg c15] at H
          exact absurd H (by simp)
         rw [if_neg c14] at H
         exact absurd H (by simp)
        rw [if_neg c13] at H
        have c13b0 : decide (x30_3 < (x3_2.length : Int)) = false := decide_eq_false c13
        (try (have c13b0h0_ := c13b0; rw [hl3_1] at c13b0h0_))
        (try (have c13b0h1_ := c13b0; rw [hl3_2] at c13b0h1_))
        (try (have c13b0h2_ := c13b0; rw [hl3_3] at c13b0h2_))
        clear c13
        have H' := zA H
        clear H
        go_wp2
        (try simp only [← hl3_2, ← hl3_3])
        go_roundg k3
        case measure => have := HK1.out; have := HK2.out; have := HK3.out; omega
        case rel => exact ⟨(x3_3), (wrap64 (x25_2 + 1)), (by first | rfl | (simp; done) | (simp [*]; done)), H', ⟨by have := HK1.out; have := HK2.out; have := HK3.out; omega⟩, ⟨by (try simp only [hl3_1]); (try simp only [hl3_2]); (try simp only [hl3_3]); (with_reducible repeat (first | apply zF | apply zG | apply zH)); exact HO_3.out⟩, ⟨zQ HB.out⟩⟩
     rw [if_neg c12] at H
     have c12b0 : decide (x25_2 < (x3_1.length : Int)) = false := decide_eq_false c12
     (try (have c12b0h0_ := c12b0; rw [hl3_1] at c12b0h0_))
     (try (have c12b0h1_ := c12b0; rw [hl3_2] at c12b0h1_))
     (try (have c12b0h2_ := c12b0; rw [hl3_3] at c12b0h2_))
     clear c12
     obtain rfl := Option.some.inj H
     go_wp2
     go_ret
     exact ⟨_, zr, zP HO_3.out, zQ HB.out⟩

/-! ### impl_ties_orderOf: function 118 -/
mutual
def impl_ties_orderOf.l0 : Nat → List Int → List Int → List Int → List Int → Int → Int → Option (List Int)
 | 0, _, _, _, _, _, _ => none
 | k + 1, x0, x1, x5, x12, x13, x14 => if x14 < x13 then (if 0 ≤ x14 then (if x14 < (x12.length : Int) then (impl_ties_orderOf.l1 k x0 x1 x5 x14 (rd x12 x14) (wrap64 (x14 + 1)) x12 x13 x14) else (none)) else (none)) else ((impl_closure.f k x5).bind fun t497 => (some t497))
def impl_ties_orderOf.l1 : Nat → List Int → List Int → List Int → Int → Int → Int → List Int → Int → Int → Option (List Int)
 | 0, _, _, _, _, _, _, _, _, _ => none
 | k + 1, x0, x1, x5, x6, x7, x8, x12, x13, x14 => if x8 < (x1.length : Int) then (if 0 ≤ x7 then (if x7 < (x0.length : Int) then (if 0 ≤ x8 then ((impl_has.f (rd x0 x7) (rd x1 x8)).bind fun t503 => (if t503 = true then (if 0 ≤ x6 then (if x6 < (x5.length : Int) then ((impl_one.f x8).bind fun t505 => (impl_ties_orderOf.l1 k x0 x1 (x5.set (x6 : Int).toNat (Go.bits .or .i64 (rd x5 x6) t505)) x6 x7 (wrap64 (x8 + 1)) x12 x13 x14)) else (none)) else (none)) else (impl_ties_orderOf.l1 k x0 x1 x5 x6 x7 (wrap64 (x8 + 1)) x12 x13 x14))) else (none)) else (none)) else (none)) else (impl_ties_orderOf.l0 k x0 x1 x5 x12 x13 (wrap64 (x14 + 1)))
end
def impl_ties_orderOf.f (k : Nat) (l0 : List Int) (l1 : List Int) : Option (List Int) := if 0 ≤ (l1.length : Int) then (if ((l1.length : Int) : Int).toNat ≤ 35184372088832 then (impl_ties_orderOf.l0 k l0 l1 (List.replicate ((l1.length : Int) : Int).toNat 0) l1 (l1.length : Int) 0) else (none)) else (none)

def impl_ties_orderOf.T8 : Bool × List (List Nat × List Nat) := (true, [([], []), ([], []), ([0, 1], [0, 1]), ([2], [2]), ([], []), ([], []), ([4, 5], [4, 5]), ([6], [6]), ([3, 7], [3, 7])])
def impl_ties_orderOf.B8 : List Nat := [0, 0, 3, 7, 0, 0, 48, 112, 255]
theorem impl_ties_orderOf.tab8 : rtab .any (opsOf Tryd.f118 8) = impl_ties_orderOf.T8 := by kernel_rfl
theorem impl_ties_orderOf.bits8 : waitsOk impl_ties_orderOf.T8.2 impl_ties_orderOf.B8 = true := by kernel_rfl
def impl_ties_orderOf.T9 : Bool × List (List Nat × List Nat) := (true, [([], []), ([], []), ([0, 1], [0, 1]), ([2], [2]), ([], []), ([4], [4]), ([3, 5], [3, 5]), ([0, 1, 0, 1, 2, 3, 4, 5, 6], [0, 1]), ([7, 6, 5, 0, 1, 2, 3, 4, 5, 6], [6, 7])])
def impl_ties_orderOf.B9 : List Nat := [0, 0, 3, 7, 0, 16, 63, 127, 255]
theorem impl_ties_orderOf.tab9 : rtab .any (opsOf Tryd.f118 9) = impl_ties_orderOf.T9 := by kernel_rfl
theorem impl_ties_orderOf.bits9 : waitsOk impl_ties_orderOf.T9.2 impl_ties_orderOf.B9 = true := by kernel_rfl
set_option maxHeartbeats 8000000 in
set_option maxRecDepth 100000 in
theorem impl_ties_orderOf.calls (k : Nat) (A0 : Option Addr) (c0 : Nat) (l0 : List Int) (A1 : Option Addr) (c1 : Nat) (l1 : List Int) (r : List Int) (w : World) (hr0 : Kd.C (Kd.int .i64) w A0 l0.length l0) (hc0 : l0.length ≤ c0) (hr1 : Kd.C (Kd.int .i64) w A1 l1.length l1) (hc1 : l1.length ≤ c1) (h : impl_ties_orderOf.f k l0 l1 = some r) :
  Calls Tryd.prog 118 #[.slice A0 l0.length c0, .slice A1 l1.length c1] w fun e w' => ∃ v0_ : Value, e = .returned (v0_) ∧ Kd.R (Kd.int .i64) 2 w' w.heap.size (fun _ => True) v0_ r ∧ Below w.heap.size w w' := by
 have HR0 := zA hr0
 have HC0 := zA hc0
 clear hr0 hc0
 have HR1 := zA hr1
 have HC1 := zA hc1
 clear hr1 hc1
 have HB := zA (Below.refl w.heap.size w)
 have H : (if 0 ≤ (l1.length : Int) then (if ((l1.length : Int) : Int).toNat ≤ 35184372088832 then (impl_ties_orderOf.l0 k l0 l1 (List.replicate ((l1.length : Int) : Int).toNat 0) l1 (l1.length : Int) 0) else (none)) else (none)) = some r := h
 clear h
 by_cases c3 : 0 ≤ (l1.length : Int)
 ·rw [if_pos c3] at H
  have c3b0 := eq_true c3
  have c3b1 : decide (0 ≤ (l1.length : Int)) = true := decide_eq_true c3
  clear c3
  by_cases c4 : ((l1.length : Int) : Int).toNat ≤ 35184372088832
  ·rw [if_pos c4] at H
   have c4b0 := eq_true c4
   have c4b1 : decide (((l1.length : Int) : Int).toNat ≤ 35184372088832) = true := decide_eq_true c4
   clear c4
   obtain ⟨y494, hy494⟩ : ∃ y_ : List Int, y_ = (List.replicate ((l1.length : Int) : Int).toNat 0) := ⟨_, rfl⟩
   replace H : (impl_ties_orderOf.l0 k l0 l1 y494 l1 (l1.length : Int) 0) = some r := zy hy494 H
   have Ny494 := zA hy494
   clear hy494
   have H' := zA H
   clear H
   go_enter Tryd.func118, Tryd.ntmps118
   go_wp2_with (first | ((with_reducible refine gate_dst (N := 11) rfl ?_); refine Kd.R_make (Kd.int .i64) _ 2 rfl (N := 11) rfl 24 _ _ rfl (l1.length : Int) rfl rfl Tryd.underlying24 (.int .i64 0) 8 info2 rfl (by decide) (by omega) 0 (ok := fun _ => True) (okp := fun _ => True) rfl (fun _ hk => hk) trivial (zd) (Nat.le_trans (Nat.mul_le_mul_right _ (zd : (l1.length : Int).toNat ≤ 35184372088832)) (by omega)) (Below.refl _ _) (Nat.le_refl _) ?_; intro v495 w5 ho6 hb hg_ hnew_; clear hg_ hnew_; (first | rw [← Ny494.out] at ho6 | (simp only [Int.reduceToNat] at ho6; rw [← Ny494.out] at ho6)); have HO496 := zA (Kd.R_lower ho6 (below_size (zQ HB.out))); replace HB := zA (below_step (zQ HB.out) hb); clear hb ho6))
   go_loopg [14] k (fun kq v14 w' => ∃ (x5_1 : List Int) (x14_1 : Int), v14 = .int .i64 x14_1 ∧ Aside0 (impl_ties_orderOf.l0 kq l0 l1 x5_1 l1 (l1.length : Int) x14_1 = some r) ∧ Aside0 (kq ≤ k) ∧ Aside0 (Kd.R (Kd.int .i64) 2 w' w.heap.size (fun _ => True) v495 x5_1) ∧ Aside0 (Below w.heap.size w w'))
   case atStart => exact ⟨(y494), (0), (by first | rfl | (simp; done) | (simp [*]; done)), H', ⟨Nat.le_refl _⟩, ⟨by (with_reducible repeat (first | apply zF | apply zG | apply zH)); exact HO496.out⟩, ⟨zQ HB.out⟩⟩
   case round =>
    clear H'
    try clear c1
    try clear p2
    try clear c3
    try clear c3b0
    try clear c3b1
    try clear c4
    try clear c4b0
    try clear c4b1
    obtain ⟨x5_1, x14_1, rfl, HA, HK1, HO_5, HB⟩ := hrel
    cases gk with
    | zero => exact absurd HA.out (by simp [impl_ties_orderOf.l0])
    | succ k1 =>
     have H := HA.out
     clear HA
     simp only [impl_ties_orderOf.l0] at H
     by_cases c7 : x14_1 < (l1.length : Int)
     ·rw [if_pos c7] at H
      have c7b0 : decide (x14_1 < (l1.length : Int)) = true := decide_eq_true c7
      clear c7
      by_cases c8 : 0 ≤ x14_1
      ·rw [if_pos c8] at H
       have c8b0 : decide (0 ≤ x14_1) = true := decide_eq_true c8
       clear c8
       by_cases c9 : x14_1 < (l1.length : Int)
       ·rw [if_pos c9] at H
        have c9b0 : decide (x14_1 < (l1.length : Int)) = true := decide_eq_true c9
        clear c9
        have H' := zA H
        clear H
        have p500 : 0 ≤ (x14_1 : Int) := zd
        have q500 : x14_1 < (l1.length : Int) := zd
        obtain ⟨ad500, e500, hx500_0⟩ := Kd.at_int HR1.out x14_1 p500 q500
        cases e500
        replace hx500_0 := (HB.out.cell (World.block_lt_of_cell? w _ hx500_0)).trans hx500_0
        replace p500 := eq_true p500
        replace q500 := eq_true q500
        go_wp2
        go_loopg [8] k1 (fun kq v8 w' => ∃ (x5_2 : List Int) (x8_2 : Int), v8 = .int .i64 x8_2 ∧ Aside0 (impl_ties_orderOf.l1 kq l0 l1 x5_2 x14_1 (rd l1 x14_1) x8_2 l1 (l1.length : Int) x14_1 = some r) ∧ Aside0 (kq ≤ k1) ∧ Aside0 (Kd.R (Kd.int .i64) 2 w' w.heap.size (fun _ => True) v495 x5_2) ∧ Aside0 (Below w.heap.size w w'))
        case atStart => exact ⟨(x5_1), (wrap64 (x14_1 + 1)), (by first | rfl | (simp; done) | (simp [*]; done)), H', ⟨Nat.le_refl _⟩, ⟨by (with_reducible repeat (first | apply zF | apply zG | apply zH)); exact HO_5.out⟩, ⟨zQ HB.out⟩⟩
        case round =>
         clear H'
         try clear c1
         try clear p2
         try clear c3
         try clear c3b0
         try clear c3b1
         try clear c4
         try clear c4b0
         try clear c4b1
         try clear p5
         try clear q5
         try clear hx5
         try clear p6
         try clear c7
         try clear c7b0
         try clear c8
         try clear c8b0
         try clear c9
         try clear c9b0
         try clear hx500_0
         try clear p2
         try clear p500
         try clear q500
         obtain ⟨x5_2, x8_2, rfl, HA, HK2, HO_5, HB⟩ := hrel
         cases gk with
         | zero => exact absurd HA.out (by simp [impl_ties_orderOf.l1])
         | succ k2 =>
          have H := HA.out
          clear HA
          simp only [impl_ties_orderOf.l1] at H
          by_cases c10 : x8_2 < (l1.length : Int)
          ·rw [if_pos c10] at H
           have c10b0 : decide (x8_2 < (l1.length : Int)) = true := decide_eq_true c10
           clear c10
           by_cases c11 : 0 ≤ (rd l1 x14_1)
           ·rw [if_pos c11] at H
            have c11b0 : decide (0 ≤ (rd l1 x14_1)) = true := decide_eq_true c11
            clear c11
            by_cases c12 : (rd l1 x14_1) < (l0.length : Int)
            ·rw [if_pos c12] at H
             have c12b0 : decide ((rd l1 x14_1) < (l0.length : Int)) = true := decide_eq_true c12
             clear c12
             by_cases c13 : 0 ≤ x8_2
             ·rw [if_pos c13] at H
              have c13b0 : decide (0 ≤ x8_2) = true := decide_eq_true c13
              clear c13
              obtain ⟨t503, A14, H⟩ := zb H
              try dsimp only at H
              by_cases c15 : t503 = true
              ·subst c15
               have H1 : (if 0 ≤ x14_1 then (if x14_1 < (x5_2.length : Int) then ((impl_one.f x8_2).bind fun t505 => (impl_ties_orderOf.l1 k2 l0 l1 (x5_2.set (x14_1 : Int).toNat (Go.bits .or .i64 (rd x5_2 x14_1) t505)) x14_1 (rd l1 x14_1) (wrap64 (x8_2 + 1)) l1 (l1.length : Int) x14_1)) else (none)) else (none)) = some r := by rw [if_pos rfl] at H; exact H
               clear H
               have H := H1
               clear H1
               by_cases c16 : 0 ≤ x14_1
               ·rw [if_pos c16] at H
                have c16b0 : decide (0 ≤ x14_1) = true := decide_eq_true c16
                clear c16
                by_cases c17 : x14_1 < (x5_2.length : Int)
                ·rw [if_pos c17] at H
                 have c17b0 : decide (x14_1 < (x5_2.length : Int)) = true := decide_eq_true c17
                 clear c17
                 obtain ⟨t505, A18, H⟩ := zb H
                 try dsimp only at H
                 obtain ⟨y506, hy506⟩ : ∃ y_ : List Int, y_ = (x5_2.set (x14_1 : Int).toNat (Go.bits .or .i64 (rd x5_2 x14_1) t505)) := ⟨_, rfl⟩
                 replace H : (impl_ties_orderOf.l1 k2 l0 l1 y506 x14_1 (rd l1 x14_1) (wrap64 (x8_2 + 1)) l1 (l1.length : Int) x14_1) = some r := zy hy506 H
                 have Ny506 := zA hy506
                 clear hy506
                 have H' := zA H
                 clear H
                 try go_wp2
                 replace HO_5 := zA (zH HO_5.out)
                 replace HB := zA (zD HB.out)
                 have p501 : 0 ≤ ((rd l1 x14_1) : Int) := zd
                 have q501 : (rd l1 x14_1) < (l0.length : Int) := zd
                 obtain ⟨ad501, e501, hx501_0⟩ := Kd.at_int HR0.out (rd l1 x14_1) p501 q501
                 have hw501_0 := hx501_0
                 cases e501
                 replace hx501_0 := (HB.out.cell (World.block_lt_of_cell? w _ hx501_0)).trans hx501_0
                 replace p501 := eq_true p501
                 replace q501 := eq_true q501
                 have p502 : 0 ≤ (x8_2 : Int) := zd
                 have q502 : x8_2 < (l1.length : Int) := zd
                 obtain ⟨ad502, e502, hx502_0⟩ := Kd.at_int HR1.out x8_2 p502 q502
                 have hw502_0 := hx502_0
                 obtain rfl : ad500 = ad502 := (by injection e502)
                 replace hx502_0 := (HB.out.cell (World.block_lt_of_cell? w _ hx502_0)).trans hx502_0
                 replace p502 := eq_true p502
                 replace q502 := eq_true q502
                 refine start_ (n := 9) (S := fun w' => w'.cell? (ad501.add ((rd l1 x14_1)).toNat) = some (.int .i64 (rd l0 (rd l1 x14_1))) ∧ w'.cell? (ad500.add (x8_2).toNat) = some (.int .i64 (rd l1 x8_2))) (ds := []) #[false, false, false, false, false, false, false, false, false] (by kernel_rfl) rfl rfl ⟨(pw_cell_below HB.out hw501_0), (pw_cell_below HB.out hw502_0)⟩ (fun hHeld => ?_); refine with_tabW impl_ties_orderOf.tab8 impl_ties_orderOf.bits8 (fun HT_ HW_ => ?_)
                 generalize wr.drew = w20 at HO_5 HB hx501_0 hx502_0 hHeld ⊢
                 refine zp 0 (some 27) #[true, false, false, false, false, false, false, false, false] HT_.out ?_
                 refine zp 1 (some 28) #[true, true, false, false, false, false, false, false, false] HT_.out ?_
                 refine zp 2 (some 29) #[true, true, true, false, false, false, false, false, false] HT_.out ?_
                 refine zp 4 (some 31) #[true, true, true, false, true, false, false, false, false] HT_.out ?_
                 refine zp 5 (some 32) #[true, true, true, false, true, true, false, false, false] HT_.out ?_
                 refine zp 6 (some 33) #[true, true, true, false, true, true, true, false, false] HT_.out ?_
                 refine zc 3 (some 30) #[true, true, true, true, true, true, true, false, false] HT_.out HW_.out hHeld ?_
                 refine zc 7 (some 34) #[true, true, true, true, true, true, true, true, false] HT_.out HW_.out hHeld ?_
                 refine one_ (i := 8) (N := some 35) #[true, true, true, true, true, true, true, true, true] rfl rfl (one_of HT_.out (by kernel_rfl)) (by decide) (fun K hK => ?_)
                 refine goes_ Tryd.func104 (by kernel_rfl) rfl #[.int .i64 (rd l0 (rd l1 x14_1)), .int .i64 (rd l1 x8_2)] (by rfl) rfl rfl (by (try simp only [List.map_toArray, List.map_cons, List.map_nil]); first | done | rfl | (simp only [List.length_drop, List.length_take]; rfl)) ?_
                 with_reducible refine (impl_has.calls (rd l0 (rd l1 x14_1)) (rd l1 x8_2) true _ A14.out).mono ?_
                 rintro e w' ⟨rfl, ⟨nd, rfl⟩⟩
                 refine ⟨_, rfl, ?_⟩
                 refine hK.out _ _ ⟨(pw_cell_below HB.out hw501_0), (pw_cell_below HB.out hw502_0)⟩ (fun hHeld => ?_)
                 clear hK K
                 refine norm_ (a' := ?_) ?_ ?_
                 rotate_left
                 ·show Act.put _ (some 35) _ = _
                  simp only [Act.put, zL, zM, zN, i64_w, i32_w]
                  rfl
                 refine done_ (done_of HT_.out (by kernel_rfl)) ?_
                 try go_wp2
                 (try (rw [drewN_self w20]; generalize hq_ : World.drewN w20 _ = w20; have n0_ : Aside0 (Kd.R (Kd.int .i64) 2 w20 w.heap.size (fun _ => True) v495 x5_2) := ⟨by rw [← hq_]; exact (zP HO_5.out)⟩; have n1_ : Aside0 (Below w.heap.size w w20) := ⟨by rw [← hq_]; exact (zQ HB.out)⟩; clear HO_5 HB hq_; have HO_5 := n0_; have HB := n1_; clear n0_ n1_))
                 replace HO_5 := zA (zH HO_5.out)
                 replace HB := zA (zD HB.out)
                 obtain ⟨Ao22, co22, eo22⟩ := Kd.R_slice HO_5.out
                 (first | subst eo22 | (injection eo22 with f1_ f2_ f3_; have f4_ := f1_.symm; have f5_ := f3_.symm; clear f1_ f2_ f3_; subst f4_; subst f5_))
                 have p504 : 0 ≤ (x14_1 : Int) := zd
                 have q504 : x14_1 < (x5_2.length : Int) := zd
                 obtain ⟨ad504, e504, hx504_0⟩ := Kd.at_int (Kd.R_reads' HO_5.out).2.2 x14_1 p504 q504
                 cases e504
                 replace p504 := eq_true p504
                 replace q504 := eq_true q504
                 refine start_ (n := 9) (S := fun w' => w'.cell? (ad504.add (x14_1).toNat) = some (.int .i64 (rd x5_2 x14_1))) (ds := [8]) #[false, false, false, false, false, false, false, false, false] (by kernel_rfl) rfl rfl (hx504_0) (fun hHeld => ?_); refine with_tabW impl_ties_orderOf.tab9 impl_ties_orderOf.bits9 (fun HT_ HW_ => ?_)
                 generalize w20.drew = w21 at HO_5 HB hx504_0 hHeld ⊢
                 refine zp 0 (some 36) #[true, false, false, false, false, false, false, false, false] HT_.out ?_
                 refine zp 1 (some 37) #[true, true, false, false, false, false, false, false, false] HT_.out ?_
                 refine zp 2 (some 38) #[true, true, true, false, false, false, false, false, false] HT_.out ?_
                 refine zp 4 (some 40) #[true, true, true, false, true, false, false, false, false] HT_.out ?_
                 refine za 3 (some 39) #[true, true, true, true, true, false, false, false, false] HT_.out HW_.out hHeld ?_
                 refine one_ (i := 5) (N := some 41) #[true, true, true, true, true, true, false, false, false] rfl rfl (one_of HT_.out (by kernel_rfl)) (by decide) (fun K hK => ?_)
                 refine goes_ Tryd.func105 (by kernel_rfl) rfl #[.int .i64 x8_2] (by rfl) rfl rfl (by (try simp only [List.map_toArray, List.map_cons, List.map_nil]); first | done | rfl | (simp only [List.length_drop, List.length_take]; rfl)) ?_
                 with_reducible refine (impl_one.calls x8_2 t505 _ A18.out).mono ?_
                 rintro e w' ⟨rfl, ⟨nd, rfl⟩⟩
                 refine ⟨_, rfl, ?_⟩
                 have p19 : 0 ≤ (x14_1 : Int) := zd
                 have q19 : (x14_1 : Int) < ((x5_2.length : Int) : Int) := zd
                 obtain ⟨go19, co19, eo19, gb19, gl19, cl19, HG19⟩ := Kd.R_form HO_5.out (by omega)
                 (first | cases eo19 | (injection eo19 with ea_ en_ ec_; (first | subst ea_ | (injection ea_ with ea_; subst ea_)); subst ec_; clear en_))
                 have GB19 := zA gb19
                 have GG19 := zA HG19
                 clear gb19 gl19 HG19
                 (first | simp only [add_plain] at hx504_0 | skip)
                 obtain ⟨hx19_0, hf19_0⟩ := Kd.R_celln 0 HO_5.out (x14_1 : Int) p19 q19
                 replace p19 := eq_true p19
                 replace q19 := eq_true q19
                 have HP23 := Kd.R_putn HO_5.out (x14_1 : Int) (Go.bits .or .i64 (rd x5_2 x14_1) t505)
                 rw [← Ny506.out] at HP23
                 have HQ23 := zA HP23
                 clear HP23
                 refine hK.out _ _ (hHeld) (fun hHeld => ?_)
                 clear hK K
                 refine norm_ (a' := ?_) ?_ ?_
                 rotate_left
                 ·show Act.put _ (some 41) _ = _
                  simp only [Act.put, zL, zM, zN, i64_w, i32_w]
                  rfl
                 refine zp 6 (some 42) #[true, true, true, true, true, true, true, false, false] HT_.out ?_
                 refine zp 7 (some 43) #[true, true, true, true, true, true, true, true, false] HT_.out ?_
                 refine last_ (i := 8) (N := none) #[true, true, true, true, true, true, true, true, true] rfl rfl (one_of HT_.out (by kernel_rfl)) (by decide) (fun K hK => ?_)
                 refine skip_ (w1 := ?_) (by rfl) rfl ?_ ?_
                 rotate_left
                 ·go_simp
                  rfl
                 refine hK.out _ _ ?_
                 clear hK K
                 refine done_ (done_of HT_.out (by kernel_rfl)) ?_
                 try go_wp2
                 go_roundg k2
                 case measure => have := HK1.out; have := HK2.out; omega
                 case rel => exact ⟨(y506), (wrap64 (x8_2 + 1)), (by first | rfl | (simp; done) | (simp [*]; done)), H', ⟨by have := HK1.out; have := HK2.out; omega⟩, ⟨by (with_reducible repeat (first | apply zF | apply zG | apply zH)); exact HQ23.out⟩, ⟨zT HB.out GB19.out⟩⟩
                rw [if_neg c17] at H
                exact absurd H (by simp)
               rw [if_neg c16] at H
               exact absurd H (by simp)
              replace c15 := Bool.eq_false_iff.mpr c15
              subst c15
              have H1 : (impl_ties_orderOf.l1 k2 l0 l1 x5_2 x14_1 (rd l1 x14_1) (wrap64 (x8_2 + 1)) l1 (l1.length : Int) x14_1) = some r := by rw [if_neg (show ¬ (false = true) by decide)] at H; exact H
              clear H
              have H := H1
              clear H1
              have H' := zA H
              clear H
              try go_wp2
              replace HO_5 := zA (zH HO_5.out)
              replace HB := zA (zD HB.out)
              have p501 : 0 ≤ ((rd l1 x14_1) : Int) := zd
              have q501 : (rd l1 x14_1) < (l0.length : Int) := zd
              obtain ⟨ad501, e501, hx501_0⟩ := Kd.at_int HR0.out (rd l1 x14_1) p501 q501
              have hw501_0 := hx501_0
              cases e501
              replace hx501_0 := (HB.out.cell (World.block_lt_of_cell? w _ hx501_0)).trans hx501_0
              replace p501 := eq_true p501
              replace q501 := eq_true q501
              have p502 : 0 ≤ (x8_2 : Int) := zd
              have q502 : x8_2 < (l1.length : Int) := zd
              obtain ⟨ad502, e502, hx502_0⟩ := Kd.at_int HR1.out x8_2 p502 q502
              have hw502_0 := hx502_0
              obtain rfl : ad500 = ad502 := (by injection e502)
              replace hx502_0 := (HB.out.cell (World.block_lt_of_cell? w _ hx502_0)).trans hx502_0
              replace p502 := eq_true p502
              replace q502 := eq_true q502
              refine start_ (n := 9) (S := fun w' => w'.cell? (ad501.add ((rd l1 x14_1)).toNat) = some (.int .i64 (rd l0 (rd l1 x14_1))) ∧ w'.cell? (ad500.add (x8_2).toNat) = some (.int .i64 (rd l1 x8_2))) (ds := []) #[false, false, false, false, false, false, false, false, false] (by kernel_rfl) rfl rfl ⟨(pw_cell_below HB.out hw501_0), (pw_cell_below HB.out hw502_0)⟩ (fun hHeld => ?_); refine with_tabW impl_ties_orderOf.tab8 impl_ties_orderOf.bits8 (fun HT_ HW_ => ?_)
              generalize wr.drew = w24 at HO_5 HB hx501_0 hx502_0 hHeld ⊢
              refine zp 0 (some 27) #[true, false, false, false, false, false, false, false, false] HT_.out ?_
              refine zp 1 (some 28) #[true, true, false, false, false, false, false, false, false] HT_.out ?_
              refine zp 2 (some 29) #[true, true, true, false, false, false, false, false, false] HT_.out ?_
              refine zp 4 (some 31) #[true, true, true, false, true, false, false, false, false] HT_.out ?_
              refine zp 5 (some 32) #[true, true, true, false, true, true, false, false, false] HT_.out ?_
              refine zp 6 (some 33) #[true, true, true, false, true, true, true, false, false] HT_.out ?_
              refine zc 3 (some 30) #[true, true, true, true, true, true, true, false, false] HT_.out HW_.out hHeld ?_
              refine zc 7 (some 34) #[true, true, true, true, true, true, true, true, false] HT_.out HW_.out hHeld ?_
              refine one_ (i := 8) (N := some 35) #[true, true, true, true, true, true, true, true, true] rfl rfl (one_of HT_.out (by kernel_rfl)) (by decide) (fun K hK => ?_)
              refine goes_ Tryd.func104 (by kernel_rfl) rfl #[.int .i64 (rd l0 (rd l1 x14_1)), .int .i64 (rd l1 x8_2)] (by rfl) rfl rfl (by (try simp only [List.map_toArray, List.map_cons, List.map_nil]); first | done | rfl | (simp only [List.length_drop, List.length_take]; rfl)) ?_
              with_reducible refine (impl_has.calls (rd l0 (rd l1 x14_1)) (rd l1 x8_2) false _ A14.out).mono ?_
              rintro e w' ⟨rfl, ⟨nd, rfl⟩⟩
              refine ⟨_, rfl, ?_⟩
              refine hK.out _ _ ⟨(pw_cell_below HB.out hw501_0), (pw_cell_below HB.out hw502_0)⟩ (fun hHeld => ?_)
              clear hK K
              refine norm_ (a' := ?_) ?_ ?_
              rotate_left
              ·show Act.put _ (some 35) _ = _
               simp only [Act.put, zL, zM, zN, i64_w, i32_w]
               rfl
              refine done_ (done_of HT_.out (by kernel_rfl)) ?_
              try go_wp2
              go_roundg k2
              case measure => have := HK1.out; have := HK2.out; omega
              case rel => exact ⟨(x5_2), (wrap64 (x8_2 + 1)), (by first | rfl | (simp; done) | (simp [*]; done)), H', ⟨by have := HK1.out; have := HK2.out; omega⟩, ⟨by (with_reducible repeat (first | apply zF | apply zG | apply zH)); exact HO_5.out⟩, ⟨zQ HB.out⟩⟩
             rw [if_neg c13] at H
             exact absurd H (by simp)
            rw [if_neg c12] at H
            exact absurd H (by simp)
           rw [if_neg c11] at H
           exact absurd H (by simp)
          rw [if_neg c10] at H
          have c10b0 : decide (x8_2 < (l1.length : Int)) = false := decide_eq_false c10
          clear c10
          have H' := zA H
          clear H
          go_wp2
          go_roundg k2
          case measure => have := HK1.out; have := HK2.out; omega
          case rel => exact ⟨(x5_2), (wrap64 (x14_1 + 1)), (by first | rfl | (simp; done) | (simp [*]; done)), H', ⟨by have := HK1.out; have := HK2.out; omega⟩, ⟨by (with_reducible repeat (first | apply zF | apply zG | apply zH)); exact HO_5.out⟩, ⟨zQ HB.out⟩⟩
       rw [if_neg c9] at H
       exact absurd H (by simp)
      rw [if_neg c8] at H
      exact absurd H (by simp)
     rw [if_neg c7] at H
     have c7b0 : decide (x14_1 < (l1.length : Int)) = false := decide_eq_false c7
     clear c7
     obtain ⟨t497, A25, H⟩ := zb H
     try dsimp only at H
     obtain rfl := Option.some.inj H
     obtain ⟨Ao26, co26, eo26⟩ := Kd.R_slice HO_5.out
     subst eo26
     go_wp2_with (first | ((with_reducible refine gate_callee (f := 128) rfl ?_); refine zO (some 46) Tryd.func128 #[.slice Ao26 x5_1.length co26] ?_; (with_reducible refine (impl_closure.calls k1 _ _ x5_1 t497 _ ?side1 ?side2 A25.out).mono ?_); (case side1 => exact zS (Kd.R_reads' HO_5.out).2.2); (case side2 => exact (Kd.R_reads' HO_5.out).2.1); rintro e w27 ⟨v498, rfl, ho0, hb⟩; refine ⟨_, rfl, ?_⟩; have HO499 := zA (Kd.R_lower (Kd.R_new' ho0 (Kd.R_lt (zP HO_5.out))) (below_size (zQ HB.out))); replace HO_5 := zA (Kd.R_elder' (zP HO_5.out) (Kd.R_base ho0) hb); replace HB := zA (below_step (zQ HB.out) hb); (try clear hb); (try clear ho0)))
     go_ret
     exact ⟨_, zr, by (with_reducible repeat (first | apply zF | apply zG | apply zH)); exact Kd.R_mono HO499.out (fun _ hk => trivial), zQ HB.out⟩
  rw [if_neg c4] at H
  exact absurd H (by simp)
 rw [if_neg c3] at H
 exact absurd H (by simp)

/-! ### impl_positions: function 83 -/
def impl_positions.f (k : Nat) (a0_0 : Int) (l0_1 : List Int) (l1 : List Int) : Option (List Int × List Int) := (impl_Alphabet_ties.f a0_0 l0_1).bind fun t508 => ((impl_ties_normal.f k t508 l1).bind fun t511 => ((impl_Alphabet_ties.f a0_0 l0_1).bind fun t514 => ((impl_ties_orderOf.f k t514 t511).bind fun t517 => (some (t511, t517)))))

set_option maxHeartbeats 8000000 in
set_option maxRecDepth 100000 in
theorem impl_positions.calls (k : Nat) (a0_0 : Int) (A0_1 : Option Addr) (c0_1 : Nat) (l0_1 : List Int) (A1 : Option Addr) (c1 : Nat) (l1 : List Int) (r1 : List Int) (r2 : List Int) (w : World) (hr0_1 : Kd.C (Kd.int .i64) w A0_1 l0_1.length l0_1) (hc0_1 : l0_1.length ≤ c0_1) (hr1 : Kd.C (Kd.int .i64) w A1 l1.length l1) (hc1 : l1.length ≤ c1) (hT : TabW w) (h : impl_positions.f k a0_0 l0_1 l1 = some (r1, r2)) :
  Calls Tryd.prog 83 #[.agg #[.int .i64 a0_0, .slice A0_1 l0_1.length c0_1], .slice A1 l1.length c1] w fun e w' => ∃ v0_ v1_ : Value, e = .returned (.tuple #[v0_, v1_]) ∧ Kd.R (Kd.int .i64) 2 w' w.heap.size (fun k_ => some k_ ≠ (v1_ : Value).ownBlock) v0_ r1 ∧ Kd.R (Kd.int .i64) 2 w' w.heap.size (fun k_ => some k_ ≠ (v0_ : Value).ownBlock) v1_ r2 ∧ Below w.heap.size w w' := by
 have hu26 := Tryd.underlying26
 have HT := zA hT
 clear hT
 have HR0_1 := zA hr0_1
 have HC0_1 := zA hc0_1
 clear hr0_1 hc0_1
 have HR1 := zA hr1
 have HC1 := zA hc1
 clear hr1 hc1
 have HB := zA (Below.refl w.heap.size w)
 have H : ((impl_Alphabet_ties.f a0_0 l0_1).bind fun t508 => ((impl_ties_normal.f k t508 l1).bind fun t511 => ((impl_Alphabet_ties.f a0_0 l0_1).bind fun t514 => ((impl_ties_orderOf.f k t514 t511).bind fun t517 => (some (t511, t517)))))) = some (r1, r2) := h
 clear h
 obtain ⟨t508, A3, H⟩ := zb H
 try dsimp only at H
 obtain ⟨t511, A4, H⟩ := zb H
 try dsimp only at H
 obtain ⟨t514, A5, H⟩ := zb H
 try dsimp only at H
 obtain ⟨t517, A6, H⟩ := zb H
 try dsimp only at H
 simp only [Option.some.injEq, Prod.mk.injEq] at H
 obtain ⟨rfl, rfl⟩ := H
 go_enter Tryd.func83, Tryd.ntmps83
 go_wp2_with (first | ((with_reducible refine gate_dst (N := 2) rfl ?_); refine box_event ?hg (N := 2) ?hd (cs := #[.int .i64 a0_0, .slice A0_1 l0_1.length c0_1]) (t := 26) ?hr ?_; (case hd => rfl); (case hg => rfl); (case hr => first | (go_simp; done) | (go_simp; rfl)); intro gb507 hg w7 hbox hb; have BK507 := zA (hbox); have GW507 := zA ((by rw [hg]; exact (below_size (zQ HB.out)) : w.heap.size ≤ gb507)); have GE507 := zA ((by rw [hg]; exact (below_size (zQ HB.out)) : w.heap.size ≤ gb507)); replace HB := zA (below_step (zQ HB.out) hb); clear hb hbox hg; have hcz8_0 : w7.cell? ⟨gb507, 0, none⟩ = some (.int .i64 a0_0) := (blk_cell BK507.out 0).trans rfl; have hcz8_1 : w7.cell? ⟨gb507, 1, none⟩ = some (.slice A0_1 l0_1.length c0_1) := (blk_cell BK507.out 1).trans rfl; have hfz8_0 := blk_frozen BK507.out 0; have hfz8_1 := blk_frozen BK507.out 1) | ((with_reducible refine gate_callee (f := 50) rfl ?_); refine zO (some 8) Tryd.func50 #[.agg #[.int .i64 a0_0, .slice A0_1 l0_1.length c0_1]] ?_; (with_reducible refine (impl_Alphabet_ties.calls a0_0 (fun k_ => k_ < w.heap.size) _ _ l0_1 t508 _ ?side1 A3.out).mono ?_); (case side1 => exact Kd.V_mk HC0_1.out (Kd.F_below (Kd.C_F (Kd.heap_int .i64) HR0_1.out) (zT HB.out GE507.out))); rintro e w9 ⟨v509, rfl, ho0, hb⟩; refine ⟨_, rfl, ?_⟩; have HO510 := zA (Kd.V_lower (Kd.V_mono (ok' := fun k_ => k_ ≠ gb507) ho0 (fun k_ hk_ => Or.elim hk_ (fun hs_ => fun e_ => Nat.not_le.2 hs_ (by rw [e_]; exact GW507.out)) (fun hn_ => (Kd.freshB (g := gb507) (o := .cells #[.int .i64 a0_0, .slice A0_1 l0_1.length c0_1] 26 (0, 0)) (zR BK507.out) k_ hn_)))) (below_size (zT HB.out GE507.out))); replace BK507 := zA (blk_below (g := gb507) (o := .cells #[.int .i64 a0_0, .slice A0_1 l0_1.length c0_1] 26 (0, 0)) (zR BK507.out) hb); replace HB := zA (below_step (zT HB.out GE507.out) hb); (try clear hb); (try clear ho0); obtain ⟨Ao10, co10, eo10⟩ := Kd.V_slice HO510.out; subst eo10) | ((with_reducible refine gate_callee (f := 56) rfl ?_); refine zO (some 10) Tryd.func56 #[.slice Ao10 t508.length co10, .slice A1 l1.length c1] ?_; (with_reducible refine (impl_ties_normal.calls k _ _ t508 (fun k_ => k_ < w.heap.size) _ _ l1 t511 _ ?side1 ?side2 ?side3 ?side4 A4.out).mono ?_); (case side1 => exact zS (Kd.V_reads' HO510.out).2.2); (case side2 => exact (Kd.V_reads' HO510.out).2.1); (case side3 => exact Kd.V_mk HC1.out (Kd.F_below (Kd.C_F (Kd.heap_int .i64) HR1.out) (zT HB.out GE507.out))); (case side4 => exact TabW.below HT.out (zT HB.out GE507.out)); rintro e w11 ⟨v512, rfl, ho0, hb⟩; refine ⟨_, rfl, ?_⟩; replace HO510 := zA (Kd.V_elder' (zPV HO510.out) (Kd.R_base ho0) hb); have HO513 := zA (Kd.R_lower (Kd.R_mono (ok' := fun k_ => True) ho0 (fun _ hk_ => trivial)) (below_size (zT HB.out GE507.out))); replace BK507 := zA (blk_below (g := gb507) (o := .cells #[.int .i64 a0_0, .slice A0_1 l0_1.length c0_1] 26 (0, 0)) (zR BK507.out) hb); replace HB := zA (below_step (zT HB.out GE507.out) hb); (try clear hb); (try clear ho0); have hcz12_0 : w11.cell? ⟨gb507, 0, none⟩ = some (.int .i64 a0_0) := (blk_cell BK507.out 0).trans rfl; have hcz12_1 : w11.cell? ⟨gb507, 1, none⟩ = some (.slice A0_1 l0_1.length c0_1) := (blk_cell BK507.out 1).trans rfl; have hfz12_0 := blk_frozen BK507.out 0; have hfz12_1 := blk_frozen BK507.out 1) | ((with_reducible refine gate_callee (f := 50) rfl ?_); refine zO (some 13) Tryd.func50 #[.agg #[.int .i64 a0_0, .slice A0_1 l0_1.length c0_1]] ?_; (with_reducible refine (impl_Alphabet_ties.calls a0_0 (fun k_ => k_ < w.heap.size) _ _ l0_1 t514 _ ?side1 A5.out).mono ?_); (case side1 => exact Kd.V_mk HC0_1.out (Kd.F_below (Kd.C_F (Kd.heap_int .i64) HR0_1.out) (zT HB.out GE507.out))); rintro e w13 ⟨v515, rfl, ho0, hb⟩; refine ⟨_, rfl, ?_⟩; replace HO510 := zA (Kd.V_below (zPV HO510.out) hb); have HO516 := zA (Kd.V_lower (Kd.V_mono (ok' := fun k_ => some k_ ≠ (v512 : Value).ownBlock ∧ k_ ≠ gb507) ho0 (fun k_ hk_ => ⟨Or.elim hk_ (fun hs_ => fun e_ => Nat.not_le.2 hs_ (Kd.R_base HO513.out k_ e_.symm)) (fun hn_ => (Kd.fresh' (Kd.R_lt (zP HO513.out)) k_ hn_)), Or.elim hk_ (fun hs_ => fun e_ => Nat.not_le.2 hs_ (by rw [e_]; exact GW507.out)) (fun hn_ => (Kd.freshB (g := gb507) (o := .cells #[.int .i64 a0_0, .slice A0_1 l0_1.length c0_1] 26 (0, 0)) (zR BK507.out) k_ hn_))⟩)) (below_size (zT HB.out GE507.out))); replace HO513 := zA (Kd.R_below (zP HO513.out) hb); replace BK507 := zA (blk_below (g := gb507) (o := .cells #[.int .i64 a0_0, .slice A0_1 l0_1.length c0_1] 26 (0, 0)) (zR BK507.out) hb); replace HB := zA (below_step (zT HB.out GE507.out) hb); (try clear hb); (try clear ho0); obtain ⟨Ao14, co14, eo14⟩ := Kd.V_slice HO516.out; subst eo14; obtain ⟨Ao15, co15, eo15⟩ := Kd.R_slice HO513.out; subst eo15) | ((with_reducible refine gate_callee (f := 118) rfl ?_); refine zO (some 15) Tryd.func118 #[.slice Ao14 t514.length co14, .slice Ao15 t511.length co15] ?_; (with_reducible refine (impl_ties_orderOf.calls k _ _ t514 _ _ t511 t517 _ ?side1 ?side2 ?side3 ?side4 A6.out).mono ?_); (case side1 => exact zS (Kd.V_reads' HO516.out).2.2); (case side2 => exact (Kd.V_reads' HO516.out).2.1); (case side3 => exact zS (Kd.R_reads' HO513.out).2.2); (case side4 => exact (Kd.R_reads' HO513.out).2.1); rintro e w16 ⟨v518, rfl, ho0, hb⟩; refine ⟨_, rfl, ?_⟩; replace HO510 := zA (Kd.V_elder' (zPV HO510.out) (Kd.R_base ho0) hb); replace HO516 := zA (Kd.V_elder' (zPV HO516.out) (Kd.R_base ho0) hb); have HO519 := zA (Kd.R_lower (Kd.R_new' ho0 (Kd.R_lt (zP HO513.out))) (below_size (zT HB.out GE507.out))); replace HO513 := zA (Kd.R_elder' (zP HO513.out) (Kd.R_base ho0) hb); replace BK507 := zA (blk_below (g := gb507) (o := .cells #[.int .i64 a0_0, .slice A0_1 l0_1.length c0_1] 26 (0, 0)) (zR BK507.out) hb); replace HB := zA (below_step (zT HB.out GE507.out) hb); (try clear hb); (try clear ho0)))
 go_ret2
 exact ⟨_, _, zr, by (with_reducible repeat (first | apply zF | apply zG | apply zH)); exact Kd.R_mono HO513.out (fun _ hk => hk.2), by (with_reducible repeat (first | apply zF | apply zG | apply zH)); exact Kd.R_mono HO519.out (fun _ hk => hk.2), zT HB.out GE507.out⟩

/-! ### impl_lettersAt: function 84 -/
def impl_lettersAt.l0 : Nat → List Int → List Int → List Int → Int → Int → Option (List Int)
 | 0, _, _, _, _, _ => none
 | k + 1, x0, x5, x10, x11, x12 => if x12 < x11 then (if 0 ≤ x12 then (if x12 < (x10.length : Int) then (if 0 ≤ (rd x10 x12) then (if (rd x10 x12) < (x0.length : Int) then (if x5.length < 17592186044416 then (impl_lettersAt.l0 k x0 (x5 ++ [rd x0 (rd x10 x12)]) x10 x11 (wrap64 (x12 + 1))) else (none)) else (none)) else (none)) else (none)) else (none)) else (some x5)
def impl_lettersAt.f (k : Nat) (l0 : List Int) (a1 : Int) : Option (List Int) := (impl_members.f k a1).bind fun t523 => (impl_lettersAt.l0 k l0 (([] : List Int)) t523 (t523.length : Int) 0)

set_option maxHeartbeats 8000000 in
set_option maxRecDepth 100000 in
theorem impl_lettersAt.calls (k : Nat) (A0 : Option Addr) (c0 : Nat) (l0 : List Int) (a1 : Int) (r : List Int) (w : World) (hr0 : Kd.C (Kd.int .i64) w A0 l0.length l0) (hc0 : l0.length ≤ c0) (hT : TabW w) (h : impl_lettersAt.f k l0 a1 = some r) :
  Calls Tryd.prog 84 #[.slice A0 l0.length c0, .int .i64 a1] w fun e w' => ∃ v0_ : Value, e = .returned (v0_) ∧ Kd.R (Kd.int .i64) 2 w' w.heap.size (fun _ => True) v0_ r ∧ Below w.heap.size w w' := by
 have HT := zA hT
 clear hT
 have HR0 := zA hr0
 have HC0 := zA hc0
 clear hr0 hc0
 have HB := zA (Below.refl w.heap.size w)
 have H : ((impl_members.f k a1).bind fun t523 => (impl_lettersAt.l0 k l0 (([] : List Int)) t523 (t523.length : Int) 0)) = some r := h
 clear h
 obtain ⟨y520, hy520⟩ : ∃ y_ : List Int, y_ = (([] : List Int)) := ⟨_, rfl⟩
 replace H : ((impl_members.f k a1).bind fun t523 => (impl_lettersAt.l0 k l0 y520 t523 (t523.length : Int) 0)) = some r := zy hy520 H
 have Ny520 := zA hy520
 clear hy520
 obtain ⟨t523, A3, H⟩ := zb H
 try dsimp only at H
 have H' := zA H
 clear H
 go_enter Tryd.func84, Tryd.ntmps84
 go_wp2_with (first | ((with_reducible refine gate_dst (N := 8) rfl ?_); refine Kd.R_lit (Kd.int .i64) _ 2 ?hg (N := 8) ?hd (xs := ([] : List Int)) (inner := []) (ok := fun _ => True) (okp := fun _ => True) ?hr ?hp (fun _ hk => hk) trivial (Below.refl _ _) (Nat.le_refl _) (by simp) ?_; (case hd => rfl); (case hg => rfl); (case hr => first | (go_simp; done) | (go_simp; rfl)); (case hp => exact (Reps.none _ _)); intro v521 w4 ho5 hb hg_ hnew_; clear hg_ hnew_; (first | rw [← Ny520.out] at ho5 | (simp only [Int.reduceToNat] at ho5; rw [← Ny520.out] at ho5)); have HO522 := zA (Kd.R_lower ho5 (below_size (zQ HB.out))); replace HB := zA (below_step (zQ HB.out) hb); clear hb ho5) | ((with_reducible refine gate_callee (f := 119) rfl ?_); refine zO (some 10) Tryd.func119 #[.int .i64 a1] ?_; (with_reducible refine (impl_members.calls k a1 t523 _ ?side1 A3.out).mono ?_); (case side1 => exact TabW.below HT.out (zQ HB.out)); rintro e w6 ⟨v524, rfl, ho0, hb⟩; refine ⟨_, rfl, ?_⟩; have HO525 := zA (Kd.R_lower (Kd.R_new' ho0 (Kd.R_lt (zP HO522.out))) (below_size (zQ HB.out))); replace HO522 := zA (Kd.R_elder' (zP HO522.out) (Kd.R_base ho0) hb); replace HB := zA (below_step (zQ HB.out) hb); (try clear hb); (try clear ho0); obtain ⟨Ao7, co7, eo7⟩ := Kd.R_slice HO525.out; subst eo7))
 go_loopg [5, 12] k (fun kq v5 v12 w' => ∃ (x5_1 : List Int) (x12_1 : Int), v12 = .int .i64 x12_1 ∧ Aside0 (impl_lettersAt.l0 kq l0 x5_1 t523 (t523.length : Int) x12_1 = some r) ∧ Aside0 (kq ≤ k) ∧ Aside0 (Kd.R (Kd.int .i64) 2 w' w.heap.size (fun k_ => some k_ ≠ ((.slice Ao7 t523.length co7) : Value).ownBlock) v5 x5_1) ∧ Aside0 (Kd.R (Kd.int .i64) 2 w' w.heap.size (fun k_ => some k_ ≠ (v5 : Value).ownBlock) (.slice Ao7 t523.length co7) t523) ∧ Aside0 (Below w.heap.size w w'))
 case atStart => exact ⟨(y520), (0), (by first | rfl | (simp; done) | (simp [*]; done)), H', ⟨Nat.le_refl _⟩, ⟨by (with_reducible repeat (first | apply zF | apply zG | apply zH)); exact Kd.R_mono HO522.out (fun _ hk => hk.2)⟩, ⟨by (with_reducible repeat (first | apply zF | apply zG | apply zH)); exact Kd.R_mono HO525.out (fun _ hk => hk.2)⟩, ⟨zQ HB.out⟩⟩
 case round =>
  clear H'
  try clear c1
  try clear p2
  obtain ⟨x5_1, x12_1, rfl, HA, HK1, HO_5, HO_10, HB⟩ := hrel
  cases gk with
  | zero => exact absurd HA.out (by simp [impl_lettersAt.l0])
  | succ k1 =>
   have H := HA.out
   clear HA
   simp only [impl_lettersAt.l0] at H
   by_cases c8 : x12_1 < (t523.length : Int)
   ·rw [if_pos c8] at H
    have c8b0 : decide (x12_1 < (t523.length : Int)) = true := decide_eq_true c8
    clear c8
    by_cases c9 : 0 ≤ x12_1
    ·rw [if_pos c9] at H
     have c9b0 : decide (0 ≤ x12_1) = true := decide_eq_true c9
     clear c9
     by_cases c10 : x12_1 < (t523.length : Int)
     ·rw [if_pos c10] at H
      have c10b0 : decide (x12_1 < (t523.length : Int)) = true := decide_eq_true c10
      clear c10
      by_cases c11 : 0 ≤ (rd t523 x12_1)
      ·rw [if_pos c11] at H
       have c11b0 : decide (0 ≤ (rd t523 x12_1)) = true := decide_eq_true c11
       clear c11
       by_cases c12 : (rd t523 x12_1) < (l0.length : Int)
       ·rw [if_pos c12] at H
        have c12b0 : decide ((rd t523 x12_1) < (l0.length : Int)) = true := decide_eq_true c12
        clear c12
        by_cases c13 : x5_1.length < 17592186044416
        ·rw [if_pos c13] at H
         have LMc13 := zA c13
         clear c13
         obtain ⟨y528, hy528⟩ : ∃ y_ : List Int, y_ = (x5_1 ++ [rd l0 (rd t523 x12_1)]) := ⟨_, rfl⟩
         replace H : (impl_lettersAt.l0 k1 l0 y528 t523 (t523.length : Int) (wrap64 (x12_1 + 1))) = some r := zy hy528 H
         have Ny528 := zA hy528
         clear hy528
         have H' := zA H
         clear H
         have p526 : 0 ≤ (x12_1 : Int) := zd
         have q526 : x12_1 < (t523.length : Int) := zd
         obtain ⟨ad526, e526, hx526_0⟩ := Kd.at_int (Kd.R_reads' HO_10.out).2.2 x12_1 p526 q526
         cases e526
         replace p526 := eq_true p526
         replace q526 := eq_true q526
         have p527 : 0 ≤ ((rd t523 x12_1) : Int) := zd
         have q527 : (rd t523 x12_1) < (l0.length : Int) := zd
         obtain ⟨ad527, e527, hx527_0⟩ := Kd.at_int HR0.out (rd t523 x12_1) p527 q527
         cases e527
         replace hx527_0 := (HB.out.cell (World.block_lt_of_cell? w _ hx527_0)).trans hx527_0
         replace p527 := eq_true p527
         replace q527 := eq_true q527
         go_wp2_with (first | ((with_reducible refine gate_builtin (b := .append) (xs := #[.tmp 16, .tmp 21]) rfl ?_); at_builtin; refine Kd.R_append (Kd.int .i64) (w0 := w) w.heap.size rfl (.tmp 16) (.tmp 21) 24 2 (.int .i64 0) 8 rfl Tryd.underlying24 info2 rfl (by decide) (by omega) u5 x5_1 (rd l0 (rd t523 x12_1)) [.int .i64 (rd l0 (rd t523 x12_1))] (fun k_ => some k_ ≠ (.slice (some ad526) t523.length co7 : Value).ownBlock) (fun _ => False) rfl rfl ?aP (fun _ hk => hk.elim) ?aF ?aO ?aB ?aS ?aL ?_; (case aP => exact rfl); (case aB => exact (zQ HB.out)); (case aF => exact (fun k_ hk => Kd.fresh' (Kd.R_lt (zP HO_10.out)) k_ hk)); (case aO => exact (zP HO_5.out)); (case aS => exact (below_size (zQ HB.out))); (case aL => have := LMc13.out; omega); intro v529 w14 ho hb hg hat; rw [← Ny528.out] at ho; replace HO_10 := zA (Kd.R_after (ok := (fun _ => True)) (by (with_reducible repeat (first | apply zF | apply zG | apply zH)); exact Kd.R_mono HO_10.out (fun _ hk => ⟨trivial, hk⟩)) hg hat); replace HB := zA (hb); have HO530 := zA (ho); clear HO_5; clear ho hb hg hat))
         go_roundg k1
         case measure => have := HK1.out; omega
         case rel => exact ⟨(y528), (wrap64 (x12_1 + 1)), (by first | rfl | (simp; done) | (simp [*]; done)), H', ⟨by have := HK1.out; omega⟩, ⟨by (with_reducible repeat (first | apply zF | apply zG | apply zH)); exact HO530.out⟩, ⟨by (with_reducible repeat (first | apply zF | apply zG | apply zH)); exact Kd.R_mono HO_10.out (fun _ hk => hk.2)⟩, ⟨zQ HB.out⟩⟩
        rw [if_neg c13] at H
        exact absurd H (by simp)
       rw [if_neg c12] at H
       exact absurd H (by simp)
      rw [if_neg c11] at H
      exact absurd H (by simp)
     rw [if_neg c10] at H
     exact absurd H (by simp)
    rw [if_neg c9] at H
    exact absurd H (by simp)
   rw [if_neg c8] at H
   have c8b0 : decide (x12_1 < (t523.length : Int)) = false := decide_eq_false c8
   clear c8
   obtain rfl := Option.some.inj H
   go_wp2
   go_ret
   exact ⟨_, zr, by (with_reducible repeat (first | apply zF | apply zG | apply zH)); exact Kd.R_mono HO_5.out (fun _ hk => trivial), zQ HB.out⟩

end Go.Proofs.YtkiacoilecdepaaDoor.PAll
